/- The abstract layer, parts 54 to 67. Conditions: none. -/
import Derived.Test.YtaooopaemphfjaaGreatDoorAb5
set_option linter.unusedVariables false
set_option linter.unusedSimpArgs false
section
namespace Go.Abs
open Go
namespace Wal
theorem updS_len {α:Type}:∀(E:List (List Nat×α)) (k:List Nat) (v:α),(updS E k v).length≤E.length+1
 | [],_,_=>Nat.le_refl _
 | e::r,k,v=>by
  unfold updS
  split
  ·simp
  ·have:=updS_len r k v
   simp;omega
theorem delS_len {α:Type}:∀(E:List (List Nat×α)) (k:List Nat),(delS E k).length≤E.length
 | [],_=>Nat.le_refl _
 | e::r,k=>by
  unfold delS
  split
  ·simp
  ·have:=delS_len r k
   simp;omega
theorem doN_len (t:Nte) (E:Ixs):(doN t E).length≤E.length+1:=by
 cases t with
 | mk p i=>exact updS_len _ _ _
 | ren a b =>
  show (match valS E a with | some i=>delS (updS E b i) a | none=>E).length≤_
  cases valS E a with
  | none=>exact Nat.le_succ _
  | some i=>exact Nat.le_trans (delS_len _ _) (updS_len _ _ _)
 | rm p=>exact Nat.le_succ_of_le (delS_len _ _)
theorem doAll_len:∀(l:List Nte) (E:Ixs),(doAll l E).length≤E.length+l.length
 | [],E=>Nat.le_refl _
 | t::r,E=>by
  have h1:=doAll_len r (doN t E)
  have h2:=doN_len t E
  show (doAll r (doN t E)).length≤E.length+(r.length+1)
  omega
theorem insS_len (a:Pth):∀l:List Pth,(insS a l).length=l.length+1
 | []=>rfl
 | b::r=>by
  unfold insS
  cases lessA b a
  ·simp
  ·simp [insS_len a r]
theorem sortS_len:∀l:List Pth,(sortS l).length=l.length
 | []=>rfl
 | a::r=>by
  show (insS a (sortS r)).length=r.length+1
  rw [insS_len,sortS_len r]
theorem crash1_bd (was:Ixs) (T:TT) (s:Pth) (part:Int):(crash1 was T s part).now.length≤T.now.length+1∧(crash1 was T s part).clock≤T.clock+1∧(crash1 was T s part).notes=T.notes:=by
 unfold crash1
 split
 ·exact ⟨Nat.le_succ _,Nat.le_succ _,rfl⟩
 ·dsimp only
  split
  ·exact ⟨updS_len _ _ _,Nat.le_succ _,rfl⟩
  ·exact ⟨updS_len _ _ _,Nat.le_refl _,rfl⟩
theorem crashL_bd (was:Ixs):∀(l:List Pth) (T:TT) (ps:List Int),(crashL was T l ps).now.length≤T.now.length+l.length∧(crashL was T l ps).clock≤T.clock+l.length∧(crashL was T l ps).notes=T.notes
 | [],T,_=>⟨Nat.le_refl _,Nat.le_refl _,rfl⟩
 | s::r,T,ps=>by
  obtain ⟨a1,a2,a3⟩:=crashL_bd was r (crash1 was T s (hd0 ps)) ps.tail
  obtain ⟨b1,b2,b3⟩:=crash1_bd was T s (hd0 ps)
  show (crashL was (crash1 was T s (hd0 ps)) r ps.tail).now.length≤T.now.length+(r.length+1)∧(crashL was (crash1 was T s (hd0 ps)) r ps.tail).clock≤T.clock+(r.length+1)∧(crashL was (crash1 was T s (hd0 ps)) r ps.tail).notes=T.notes
  exact ⟨by omega,by omega,a3.trans b3⟩
structure Bm (n c:Nat) (T:TT):Prop where
 now:T.now.length≤n
 sn:T.safe.length+T.notes.length≤n
 clock:T.clock≤c
section
variable {n c : Nat} {T : TT}
theorem Bm.mono (h:Bm n c T) {m d:Nat} (h1:n≤m) (h2:c≤d):Bm m d T:=⟨Nat.le_trans h.now h1,Nat.le_trans h.sn h1,Nat.le_trans h.clock h2⟩
theorem Bm.op (h:Bm n c T) (b:Bool):Bm n c (opT T b).2:=by
 obtain ⟨e1,e2,e3,e4,e5,e6⟩:=opT_eq T b
 exact ⟨by rw [e2];exact h.now,by rw [e3,e4];exact h.sn,by rw [e5];exact h.clock⟩
theorem Bm.note (h:Bm n c T) (t:Nte):Bm (n+1) c (noteT T t):=by
 have h1:=doN_len t T.now
 have:=h.now;have:=h.sn
 exact ⟨by show (doN t T.now).length≤n+1;omega,by show T.safe.length+(T.notes++[t]).length≤n+1;simp;omega,h.clock⟩
theorem Bm.make (h:Bm n c T) (b:Bool) (p:Pth):Bm (n+1) (c+1) (makeT T b p).2:=by
 unfold makeT
 dsimp only
 split
 ·exact (h.op _).mono (Nat.le_succ _) (Nat.le_succ _)
 ·split
  ·exact (h.op _).mono (Nat.le_succ _) (Nat.le_succ _)
  ·have h1:=h.op b
   refine Bm.note ?_ _
   exact ⟨h1.now,h1.sn,Nat.succ_le_succ h1.clock⟩
theorem Bm.put (h:Bm n c T) (b:Bool) (p:Pth) (g:List Nat→List Nat):Bm n (c+1) (putT T b p g).2:=by
 have h1:=h.op b
 have h2:=h1.mono (Nat.le_refl n) (Nat.le_succ c)
 unfold putT
 dsimp only
 split
 ·exact h2
 ·split
  ·exact h2
  ·split
   ·exact h2
   ·exact ⟨h1.now,h1.sn,Nat.succ_le_succ h1.clock⟩
theorem Bm.sync (h:Bm n c T) (b:Bool) (p:Pth):Bm n c (syncT T b p).2:=by
 have h1:=h.op b
 unfold syncT
 dsimp only
 split
 ·exact h1
 ·split
  ·exact h1
  ·exact ⟨h1.now,h1.sn,h1.clock⟩
theorem keepT_len (h:Bm n c T) (k:Nat):(keepT T k).safe.length≤n:=by
 have h1:=doAll_len (T.notes.take k) T.safe
 have h2:=h.sn
 rw [List.length_take] at h1
 show (doAll (T.notes.take k) T.safe).length≤n
 omega
theorem Bm.syncP (h:Bm n c T):Bm n c (syncPT T).2:=by
 have h1:=h.op true
 unfold syncPT
 dsimp only
 split
 ·exact h1
 ·have h2:=keepT_len h1 (opT T true).2.notes.length
  exact ⟨h1.now,by show (keepT (opT T true).2 (opT T true).2.notes.length).safe.length+0≤n;omega,h1.clock⟩
theorem Bm.ren (h:Bm n c T) (b:Bool) (p q:Pth):Bm (n+1) (c+1) (renT T b p q).2:=by
 have h1:=h.op b
 have h2:=h1.mono (Nat.le_succ n) (Nat.le_succ c)
 unfold renT
 dsimp only
 split
 ·exact h2
 ·split
  ·exact h2
  ·split
   ·exact h2
   ·refine Bm.note ?_ _
    exact ⟨h1.now,h1.sn,Nat.succ_le_succ h1.clock⟩
theorem Bm.rm (h:Bm n c T) (b:Bool) (p:Pth):Bm (n+1) (c+1) (rmT T b p).2:=by
 have h1:=h.op b
 have h2:=h1.mono (Nat.le_succ n) (Nat.le_succ c)
 unfold rmT
 dsimp only
 split
 ·exact h2
 ·split
  ·exact h2
  ·refine Bm.note ?_ _
   exact ⟨h1.now,h1.sn,Nat.succ_le_succ h1.clock⟩
theorem Bm.read (h:Bm n c T) (b:Bool) (p:Pth):Bm n c (readT T b p).2.2:=by
 have h1:=h.op b
 unfold readT
 dsimp only
 split
 ·exact h1
 ·split <;> exact h1
theorem Bm.crash (h:Bm n c T) (keep:Int) (ps:List Int):Bm n (c+n+1) (crashT T keep ps):=by
 unfold crashT
 dsimp only
 have hs:=keepT_len h ((max 0 keep).toNat%(T.notes.length+1))
 generalize (max 0 keep).toNat%(T.notes.length+1)=k at hs
 have hl:(sortS ((keepT T k).safe.map (·.1))).length≤n:=by rw [sortS_len,List.length_map];exact hs
 obtain ⟨h1,h2,h3⟩:=crashL_bd T.now (sortS ((keepT T k).safe.map (·.1))) { keepT T k with clock:=(keepT T k).clock+1,now:=[] } ps
 have hc:=h.clock
 have e0:(keepT T k).clock=T.clock:=rfl
 generalize crashL T.now { keepT T k with clock:=(keepT T k).clock+1,now:=[] } (sortS ((keepT T k).safe.map (·.1))) ps=T2 at h1 h2 h3
 simp only [List.length_nil,e0] at h1 h2
 have h3':T2.notes=[]:=h3
 refine ⟨?_,?_,?_⟩
 ·show T2.now.length≤n;omega
 ·show T2.now.length+T2.notes.length≤n
  rw [h3'];simp;omega
 ·show T2.clock≤c+n+1;omega
theorem Bm.new (R:Int):Bm 0 0 (newT R):=⟨Nat.le_refl _,Nat.le_refl _,Nat.le_refl _⟩
theorem steps_bm:∀(l:List (TT→Nat×TT)) {n c:Nat} {T:TT},(∀f∈l,∀n c T,Bm n c T→Bm (n+1) (c+1) (f T).2)→Bm n c T→Bm (n+l.length) (c+l.length) (stepsT l T).2
 | [],_,_,_,_,h=>h
 | f::r,n,c,T,hl,h=>by
  have h1:=hl f (List.mem_cons_self ..) n c T h
  show Bm (n+(r.length+1)) (c+(r.length+1)) (if (f T).1≠0 then f T else stepsT r (f T).2).2
  split
  ·exact h1.mono (by omega) (by omega)
  ·have:=steps_bm r (fun g hg=>hl g (List.mem_cons_of_mem _ hg)) h1
   exact this.mono (by omega) (by omega)
theorem Bm.rem (h:Bm n c T) (q:Pth):Bm (n+1) (c+1) (remT q T).2:=by
 unfold remT
 split
 ·exact h.rm _ _
 ·exact h.mono (Nat.le_succ _) (Nat.le_succ _)
theorem tail_bm (p q:Pth) (b:List Nat):∀f∈remT q::tailT p q b,∀n c T,Bm n c T→Bm (n+1) (c+1) (f T).2:=by
 intro f hf n c T h
 simp only [tailT,List.mem_cons,List.not_mem_nil,or_false] at hf
 rcases hf with rfl | rfl | rfl | rfl | rfl | rfl
 ·exact h.rem q
 ·exact h.make _ _
 ·exact (h.put _ _ _).mono (Nat.le_succ _) (Nat.le_refl _)
 ·exact (h.sync _ _).mono (Nat.le_succ _) (Nat.le_succ _)
 ·exact h.ren _ _ _
 ·exact h.syncP.mono (Nat.le_succ _) (Nat.le_succ _)
theorem Bm.aside (h:Bm n c T) (p q:Pth) (b:List Nat):Bm (n+6) (c+6) (asideT p q b T).2:=steps_bm _ (tail_bm p q b) h
theorem Bm.open (h:Bm n c T) (p q:Pth):Bm (n+7) (c+7) (openT p q T).2.2:=by
 have ha:=fun b=>(h.aside p q b).mono (Nat.le_succ _) (Nat.le_succ _)
 have hr:=h.read true p
 unfold openT
 split
 ·split
  ·exact ha []
  ·exact ha []
 ·dsimp only
  split
  ·exact hr.mono (by omega) (by omega)
  ·split
   ·exact hr.mono (by omega) (by omega)
   ·have h2:Bm (n+6) (c+6) (if (scn ((readT T true p).1.length+1) (readT T true p).1).2.1<(readT T true p).1.length then asideT p q ((readT T true p).1.take (scn ((readT T true p).1.length+1) (readT T true p).1).2.1) (readT T true p).2.2 else (0,(readT T true p).2.2)).2:=by
     split
     ·exact hr.aside _ _ _
     ·exact hr.mono (by omega) (by omega)
    revert h2
    generalize (if (scn ((readT T true p).1.length+1) (readT T true p).1).2.1<(readT T true p).1.length then asideT p q ((readT T true p).1.take (scn ((readT T true p).1.length+1) (readT T true p).1).2.1) (readT T true p).2.2 else (0,(readT T true p).2.2))=r2
    intro h2
    split
    ·exact h2.mono (by omega) (by omega)
    ·split
     ·exact h2.rem q
     ·exact h2.rem q
theorem Bm.append (h:Bm n c T) (p:Pth) (L:Lg) (s:List Nat):Bm n (c+1) (appendL p L T s).2.2:=by
 unfold appendL
 split
 ·exact h.mono (Nat.le_refl _) (Nat.le_succ _)
 ·dsimp only
  split <;> exact h.put _ _ _
theorem Bm.syncL (h:Bm n c T) (p:Pth) (L:Lg):Bm n c (syncL p L T).2.2:=by
 unfold Wal.syncL
 split
 ·exact h
 ·exact h.sync _ _
end
end Wal
namespace Wal
section
variable {p q : Pth} {R : Int} {T : TT}
theorem wt_new (hpq:¬p=q) (hR:0≤R):openT p q (newT R)=(some (⟨0,0,0⟩,[]),0,Wt R p 3 false (-1) [] [] 2):=open_new hpq hR
theorem frs_take_le' {l:List (List Nat)} (i:Nat):(frs (l.take i)).length≤(frs l).length:=by
 have:frs l=frs (l.take i)++frs (l.drop i):=by rw [←frs_app,List.take_append_drop]
 rw [this,List.length_append]
 omega
/-! ### A fuse -/
theorem putX {N Sf:Ixs} {nt:List Nte} {c:Nat} {fs:List Fil} (g:List Nat→List Nat):putT ⟨R,N,Sf,nt,c,false,0,fs⟩ true q g=(11,⟨R,N,Sf,nt,c,true,-1,fs⟩):=by
 unfold putT;rw [opX];rfl
theorem makeX {N Sf:Ixs} {nt:List Nte} {c:Nat} {fs:List Fil}:makeT ⟨R,N,Sf,nt,c,false,0,fs⟩ true q=(11,⟨R,N,Sf,nt,c,true,-1,fs⟩):=by
 unfold makeT;rw [opX];rfl
theorem syncX {N Sf:Ixs} {nt:List Nte} {c:Nat} {fs:List Fil}:syncT ⟨R,N,Sf,nt,c,false,0,fs⟩ true q=(11,⟨R,N,Sf,nt,c,true,-1,fs⟩):=by
 unfold syncT;rw [opX];rfl
theorem renX {N Sf:Ixs} {nt:List Nte} {c:Nat} {fs:List Fil}:renT ⟨R,N,Sf,nt,c,false,0,fs⟩ true q p=(11,⟨R,N,Sf,nt,c,true,-1,fs⟩):=by
 unfold renT;rw [opX];rfl
theorem syncPX {N Sf:Ixs} {nt:List Nte} {c:Nat} {fs:List Fil}:syncPT ⟨R,N,Sf,nt,c,false,0,fs⟩=(11,⟨R,N,Sf,nt,c,true,-1,fs⟩):=by
 unfold syncPT;rw [opX];rfl
theorem nf_dec {φ:Int}:φ=0∨φ≠0:=by omega
def Has (p q:Pth) (R:Int) (a b d:List (List Nat)) (e:Nat) (T:TT):Prop :=
 ∃w,Two T p q R w∧(w=frs d∨e≠0∧∃m,w=frs a++(frs b).take m)
theorem Two.len {w:List Nat} (h:Two T p q R w) (hpq:¬p=q):∀i,valS T.now p=some i→(T.fil i).b=w:=by
 have hqp:¬q=p:=fun hh=>hpq hh.symm
 obtain ⟨_,_,_,i,f,h1,h2,h3⟩:=h
 intro j hj
 have hv:valS T.now p=some i:=by
  rcases h1 with h1 | ⟨k,h1⟩
  ·rw [h1];simp [valS]
  ·rw [h1];simp [valS,hqp]
 rw [hv] at hj
 cases hj
 unfold TT.fil
 rw [h2]
 exact h3
theorem Has.opens {a b d:List (List Nat)} {e:Nat} (h:Has p q R a b d e T) (hpq:¬p=q) (ha:∀s∈a,s.length≤1048576) (hb:∀s∈b,s.length≤1048576) (hd:∀s∈d,s.length≤1048576) (hR:((2*((frs a).length+(frs b).length+(frs d).length):Nat):Int)≤R) :
  ∃s l T1 T2 l2,openT p q T=(some (l,s),0,T1)∧openT p q T1=(some (l2,s),0,T2)∧(∀i,valS T.now p=some i→(T.fil i).b.length≤(frs a).length+(frs b).length+(frs d).length)∧(∀i,valS T1.now p=some i→(T1.fil i).b.length≤(frs a).length+(frs b).length+(frs d).length) ∧
   (s=d∨e≠0∧∃k,k≤b.length∧s=a++b.take k):=by
 obtain ⟨w,h1,h2⟩:=h
 have key:∀s:List (List Nat),scn (w.length+1) w=(s,(frs s).length,0)→w.take (frs s).length=frs s→(∀x∈s,x.length≤1048576)→w.length≤(frs a).length+(frs b).length+(frs d).length→(frs s).length≤(frs a).length+(frs b).length+(frs d).length→(s=d∨e≠0∧∃k,k≤b.length∧s=a++b.take k) →
   ∃s l T1 T2 l2,openT p q T=(some (l,s),0,T1)∧openT p q T1=(some (l2,s),0,T2)∧(∀i,valS T.now p=some i→(T.fil i).b.length≤(frs a).length+(frs b).length+(frs d).length)∧(∀i,valS T1.now p=some i→(T1.fil i).b.length≤(frs a).length+(frs b).length+(frs d).length)∧(s=d∨e≠0∧∃k,k≤b.length∧s=a++b.take k):=fun s q1 q2 q3 q4 q5 q6=>by
  obtain ⟨T1,o1,g1⟩:=h1.open hpq q1 q2 (by omega)
  obtain ⟨T2,o2,g2⟩:=g1.open (q:=q) hpq q3 (by omega)
  exact ⟨s,_,T1,T2,_,o1,o2,fun i hi=>(by rw [h1.len hpq i hi];exact q4),fun i hi=>(by rw [(g1.two (q:=q)).len hpq i hi];exact q5),q6⟩
 rcases h2 with rfl | ⟨h0,m,rfl⟩
 ·exact key d (scn_frs d _ hd (by have:=frs_ge d;omega)) List.take_length hd (by omega) (by omega) (.inl rfl)
 ·obtain ⟨k,hk,q1,q2⟩:=tot_cut m ha hb
  have hl:=frs_take_le' (l:=b) k
  refine key _ q1 q2 (fun x hx=>?_) (by rw [List.length_append,List.length_take];omega) (by rw [frs_app,List.length_append];omega) (.inr ⟨h0,k,hk,rfl⟩)
  rcases List.mem_append.1 hx with hx | hx
  ·exact ha x hx
  ·exact hb x (List.mem_of_mem_take hx)
end
/-! ### Few texts of few bytes -/
def sumL:List (List Nat)→Nat
 | []=>0
 | s::r=>s.length+sumL r
theorem frs_sum:∀l:List (List Nat),(frs l).length=sumL l+8*l.length
 | []=>rfl
 | s::r=>by
  have:=frs_sum r
  show (frm s++frs r).length=s.length+sumL r+8*(r.length+1)
  rw [List.length_append,frm_len]
  omega
end Wal
namespace Stb
section
variable {α : Type} (lt : α → α → Bool)
def ins (x:α):List α→List α
 | []=>[x]
 | y::r=>if lt y x then y::ins x r else x::y::r
def isort:List α→List α
 | []=>[]
 | x::r=>ins lt x (isort r)
def mg:List α→List α→List α
 | [],b=>b
 | x::a,[]=>x::a
 | x::a,y::b=>if lt y x then y::mg (x::a) b else x::mg a (y::b)
def srt:List α→Prop
 | []=>True
 | x::r=>(∀y∈r,lt y x=false)∧srt r
structure Wo:Prop where
 irr:∀x,lt x x=false
 tr:∀x y z,lt x y=true→lt y z=true→lt x z=true
 ntr:∀x y z,lt x y=false→lt y z=false→lt x z=false
variable {lt}
theorem mg_nil (a:List α):mg lt a []=a:=by cases a <;> simp [mg]
theorem mg_cons (x y:α) (a b:List α):mg lt (x::a) (y::b)=if lt y x then y::mg lt (x::a) b else x::mg lt a (y::b):=by rw [mg]
theorem mg_len:∀a b:List α,(mg lt a b).length=a.length+b.length
 | [],b=>by simp [mg]
 | x::a,[]=>by simp [mg]
 | x::a,y::b=>by
  rw [mg_cons]
  split
  ·have:=mg_len (x::a) b
   simp only [List.length_cons] at this ⊢
   omega
  ·have:=mg_len a (y::b)
   simp only [List.length_cons] at this ⊢
   omega
theorem mg_mem {z:α}:∀ {a b:List α},z∈mg lt a b→z∈a∨z∈b
 | [],b,h=>by rw [mg] at h;exact .inr h
 | x::a,[],h=>by rw [mg_nil] at h;exact .inl h
 | x::a,y::b,h=>by
  rw [mg_cons] at h
  split at h
  ·rcases List.mem_cons.1 h with rfl | h
   ·exact .inr (List.mem_cons_self ..)
   ·rcases mg_mem h with h | h
    ·exact .inl h
    ·exact .inr (List.mem_cons_of_mem _ h)
  ·rcases List.mem_cons.1 h with rfl | h
   ·exact .inl (List.mem_cons_self ..)
   ·rcases mg_mem h with h | h
    ·exact .inl (List.mem_cons_of_mem _ h)
    ·exact .inr h
theorem srt_mg (W:Wo lt):∀ {a b:List α},srt lt a→srt lt b→srt lt (mg lt a b)
 | [],b,_,hb=>by rw [mg];exact hb
 | x::a,[],ha,_=>by rw [mg_nil];exact ha
 | x::a,y::b,ha,hb=>by
  rw [mg_cons]
  split
  ·rename_i h
   refine ⟨fun z hz=>?_,srt_mg W ha hb.2⟩
   have hxy:lt x y=false:=by
    cases hc:lt x y
    ·rfl
    ·have:=W.tr _ _ _ h hc
     rw [W.irr] at this
     cases this
   rcases mg_mem hz with hz | hz
   ·rcases List.mem_cons.1 hz with rfl | hz
    ·exact hxy
    ·exact W.ntr _ _ _ (ha.1 z hz) hxy
   ·exact hb.1 z hz
  ·rename_i h
   have h':lt y x=false:=by simpa using h
   refine ⟨fun z hz=>?_,srt_mg W ha.2 hb⟩
   rcases mg_mem hz with hz | hz
   ·exact ha.1 z hz
   ·rcases List.mem_cons.1 hz with rfl | hz
    ·exact h'
    ·exact W.ntr _ _ _ (hb.1 z hz) h'
theorem mg_split (W:Wo lt):∀(n:Nat) {a1 a2 b1 b2:List α},a1.length+b1.length≤n→srt lt (a1++a2)→srt lt (b1++b2)→(∀x∈a1,∀y∈b2,lt y x=false)→(∀y∈b1,∀x∈a2,lt y x=true)→mg lt (a1++a2) (b1++b2)=mg lt a1 b1++mg lt a2 b2
 | 0,a1,a2,b1,b2,hn,_,_,_,_=>by
  obtain rfl:a1=[]:=List.length_eq_zero_iff.1 (by omega)
  obtain rfl:b1=[]:=List.length_eq_zero_iff.1 (by omega)
  simp [mg]
 | n+1,[],a2,[],b2,_,_,_,_,_=>by simp [mg]
 | n+1,[],[],y::b1,b2,_,_,_,_,_=>by simp [mg]
 | n+1,[],x::a2,y::b1,b2,hn,ha,hb,h1,h2=>by
  have hyx:=h2 y (List.mem_cons_self ..) x (List.mem_cons_self ..)
  have ih:=mg_split W n (a1:=[]) (a2:=x::a2) (b1:=b1) (b2:=b2) (by simp only [List.length_cons] at hn;omega) ha hb.2 h1 (fun y' hy x' hx=>h2 y' (List.mem_cons_of_mem _ hy) x' hx)
  simp only [List.nil_append,List.cons_append] at ih ⊢
  rw [mg_cons,if_pos hyx,ih]
  simp [mg]
 | n+1,x::a1,a2,[],[],_,_,_,_,_=>by simp [mg_nil]
 | n+1,x::a1,a2,[],y::b2,hn,ha,hb,h1,h2=>by
  have hyx:=h1 x (List.mem_cons_self ..) y (List.mem_cons_self ..)
  have ih:=mg_split W n (a1:=a1) (a2:=a2) (b1:=[]) (b2:=y::b2) (by simp only [List.length_cons] at hn;simpa using hn) ha.2 hb (fun x' hx y' hy=>h1 x' (List.mem_cons_of_mem _ hx) y' hy) h2
  simp only [List.nil_append,List.cons_append] at ih ⊢
  rw [mg_cons,if_neg (by rw [hyx];decide),ih,mg_nil,mg_nil]
  rfl
 | n+1,x::a1,a2,y::b1,b2,hn,ha,hb,h1,h2=>by
  simp only [List.cons_append]
  rw [mg_cons,mg_cons]
  by_cases h:lt y x=true
  ·rw [if_pos h,if_pos h]
   have ih:=mg_split W n (a1:=x::a1) (a2:=a2) (b1:=b1) (b2:=b2) (by simp only [List.length_cons] at hn ⊢;omega) ha hb.2 h1 (fun y' hy x' hx=>h2 y' (List.mem_cons_of_mem _ hy) x' hx)
   simp only [List.cons_append] at ih
   rw [ih]
   rfl
  ·rw [if_neg h,if_neg h]
   have ih:=mg_split W n (a1:=a1) (a2:=a2) (b1:=y::b1) (b2:=b2) (by simp only [List.length_cons] at hn ⊢;omega) ha.2 hb (fun x' hx y' hy=>h1 x' (List.mem_cons_of_mem _ hx) y' hy) h2
   simp only [List.cons_append] at ih
   rw [ih]
   rfl
theorem ins_one (x:α):∀l:List α,ins lt x l=mg lt [x] l
 | []=>by simp [ins,mg]
 | y::r=>by
  rw [mg_cons]
  unfold ins
  split
  ·rw [ins_one x r]
  ·rw [mg]
theorem srt_ins (W:Wo lt) (x:α) {l:List α} (h:srt lt l):srt lt (ins lt x l):=by
 rw [ins_one]
 exact srt_mg W ⟨fun y hy=>by simp at hy,trivial⟩ h
theorem srt_isort (W:Wo lt):∀l:List α,srt lt (isort lt l)
 | []=>trivial
 | x::r=>srt_ins W x (srt_isort W r)
theorem isort_len:∀l:List α,(isort lt l).length=l.length
 | []=>rfl
 | x::r=>by
  show (ins lt x (isort lt r)).length=r.length+1
  rw [ins_one,mg_len,isort_len r]
  simp;omega
theorem mg_assoc (W:Wo lt):∀(a b c:List α),mg lt (mg lt a b) c=mg lt a (mg lt b c)
 | [],b,c=>by simp [mg]
 | x::a,[],c=>by simp [mg_nil,mg]
 | x::a,y::b,[]=>by simp [mg_nil]
 | x::a,y::b,z::c=>by
  have i1:=mg_assoc W (x::a) b (z::c)
  have i2:=mg_assoc W a (y::b) (z::c)
  have i3:=mg_assoc W (x::a) (y::b) c
  rw [mg_cons x y,mg_cons y z]
  by_cases h1:lt y x=true
  ·rw [if_pos h1,mg_cons y z]
   by_cases h2:lt z y=true
   ·have h3:lt z x=true:=W.tr _ _ _ h2 h1
    rw [if_pos h2,if_pos h2,mg_cons x z,if_pos h3]
    rw [mg_cons x y,if_pos h1] at i3
    rw [i3]
   ·rw [if_neg h2,if_neg h2,mg_cons x y,if_pos h1,i1]
  ·rw [if_neg h1]
   have h1':lt y x=false:=by simpa using h1
   by_cases h2:lt z y=true
   ·rw [if_pos h2,mg_cons x z]
    by_cases h3:lt z x=true
    ·rw [mg_cons x z,if_pos h3,if_pos h3]
     rw [mg_cons x y,if_neg h1] at i3
     rw [i3]
    ·rw [mg_cons x z,if_neg h3,if_neg h3]
     rw [i2,mg_cons y z,if_pos h2]
   ·rw [if_neg h2]
    have h2':lt z y=false:=by simpa using h2
    have h3:lt z x=false:=W.ntr _ _ _ h2' h1'
    rw [mg_cons x z,if_neg (by rw [h3];decide),mg_cons x y,if_neg h1,i2,mg_cons y z,if_neg h2]
termination_by a b c=>a.length+b.length+c.length
theorem isort_mg (W:Wo lt):∀(a b:List α),mg lt (isort lt a) (isort lt b)=isort lt (a++b)
 | [],b=>by simp [isort,mg]
 | x::a,b=>by
  show mg lt (ins lt x (isort lt a)) (isort lt b)=ins lt x (isort lt (a++b))
  rw [ins_one,ins_one,mg_assoc W,isort_mg W a b]
end
end Stb
open Go.Abs.Wal
/-! ### The order of texts -/
theorem lessA_irr:∀x:List Nat,lessA x x=false
 | []=>rfl
 | a::x=>by
  have:Nat.blt a a=false:=by rw [Bool.eq_false_iff];intro h;rw [Nat.blt_eq] at h;exact absurd h (Nat.lt_irrefl a)
  unfold lessA
  rw [this,lessA_irr x];simp
theorem lessA_cons (a b:Nat) (x y:List Nat):lessA (a::x) (b::y)=true↔a<b∨(a=b∧lessA x y=true):=by
 have e:lessA (a::x) (b::y)=(Nat.blt a b||(Nat.beq a b&&lessA x y)):=rfl
 rw [e]
 simp [Nat.blt_eq,Nat.beq_eq]
theorem lessA_tr:∀x y z:List Nat,lessA x y=true→lessA y z=true→lessA x z=true
 | _,[],_,h,_=>by cases ‹List Nat› <;> simp [lessA] at h
 | _,_::_,[],_,h=>by simp [lessA] at h
 | [],_::_,_::_,_,_=>rfl
 | a::x,b::y,c::z,h1,h2=>by
  rw [lessA_cons] at *
  rcases h1 with h1 | ⟨h1,h3⟩ <;> rcases h2 with h2 | ⟨h2,h4⟩
  ·exact .inl (by omega)
  ·exact .inl (by omega)
  ·exact .inl (by omega)
  ·exact .inr ⟨by omega,lessA_tr x y z h3 h4⟩
theorem lessA_tot:∀x y:List Nat,x≠y→lessA x y=false→lessA y x=true
 | [],[],h,_=>absurd rfl h
 | [],_::_,_,h=>by simp [lessA] at h
 | _::_,[],_,_=>rfl
 | a::x,b::y,h,h1=>by
  rw [lessA_cons]
  have h2:¬(a<b∨(a=b∧lessA x y=true)):=by rw [←lessA_cons,h1];simp
  by_cases hab:a=b
  ·subst hab
   have hxy:x≠y:=fun hh=>h (by rw [hh])
   have:lessA x y=false:=by
    cases hl:lessA x y
    ·rfl
    ·exact absurd (.inr ⟨rfl,hl⟩) h2
   exact .inr ⟨rfl,lessA_tot x y hxy this⟩
  ·exact .inl (by omega)
theorem lessA_asym {x y:List Nat} (h:lessA x y=true):lessA y x=false:=by
 cases hl:lessA y x
 ·rfl
 ·have:=lessA_tr _ _ _ h hl
  rw [lessA_irr] at this;cases this
theorem lessA_ne {x y:List Nat} (h:lessA x y=true):x≠y:=fun hh=>by rw [hh,lessA_irr] at h;cases h
/-! ### Rising lists of texts -/
/-! ### Rising lists of texts and numbers -/
def riseE:Ixs→Prop
 | []=>True
 | e::r=>(∀x∈r,lessA e.1 x.1=true)∧riseE r
def putL:Ixs→Pth→Nat→Ixs
 | [],k,v=>[(k,v)]
 | e::r,k,v=>if lessA e.1 k=true then e::putL r k v else if e.1=k then (k,v)::r else (k,v)::e::r
/-! ### A rising list says what a map says -/
structure SE (A E:Ixs):Prop where
 rise:riseE A
 once:onceS E
 val:∀k,valS A k=valS E k
section
variable {P : Program}
def Ez (z n0:Nat) (h:AH) (v:AV) (l:List AV):Prop :=
 (v=.nilsl∧l=[])∨∃id n c tx,v=.sl id 0 n z c∧h.get id=some (.cells l true tx)∧id<h.nx∧n0≤id∧l.length=n*z∧(c=none∨c=some n)∧(tx=false∨(l=[]∧c=some 0))
theorem Ez.fr {z n0:Nat} {h h':AH} {v:AV} {l:List AV} (hb:Ez z n0 h v l) (hf:Fr h h'):Ez z n0 h' v l:=by
 rcases hb with h1 | ⟨id,n,c,tx,h1,h2,h3,h4,h5⟩
 ·exact .inl h1
 ·exact .inr ⟨id,n,c,tx,h1,(hf.get id h3).trans h2,Nat.lt_of_lt_of_le h3 hf.nx,h4,h5⟩
theorem Ez.low {z n0 n1:Nat} {h:AH} {v:AV} {l:List AV} (hb:Ez z n0 h v l) (hn:n1≤n0):Ez z n1 h v l:=by
 rcases hb with h1 | ⟨id,n,c,tx,h1,h2,h3,h4,h5⟩
 ·exact .inl h1
 ·exact .inr ⟨id,n,c,tx,h1,h2,h3,Nat.le_trans hn h4,h5⟩
theorem Ez.one {z n0:Nat} {h:AH} {v:AV} {l:List AV} (hb:Ez z n0 h v l):sameAV 20 v v=true∧oneA v=true:=by
 rcases hb with ⟨rfl,rfl⟩ | ⟨id,n,c,tx,rfl,h2,h3,h4,h5,h6,h7⟩
 ·exact ⟨rfl,rfl⟩
 ·exact ⟨by simp [sameAV],rfl⟩
theorem Ez.app {z:Nat} {h0 h:AH} {v x:AV} {l m:List AV} {k:Nat} {st xt e:TypeId} {d:TypeDesc} {bt:Nat} (hu:P.underlying st=some (.slice e)) (hd:P.underlying xt=some d) (hni:notInt d=true) (hi:appI P e=some (z,bt)) (hbt:bt≤64) (hz:0<z) (hb:Ez z h0.nx h v l) (hn:lenA x=some k) (hnew:firstA h z k x=some m) (hm:m.length=k*z) (hall:m.all oneA=true) (hf:Fr h0 h) (hl:l.length+m.length≤1073741824) :
  ∃v' h',evAppend P h #[st,xt] v x=some (.val v' h')∧Fr h0 h'∧Ez z h0.nx h' v' (l++m)∧oneA v'=true∧h.nx≤h'.nx∧(∀j,j<h.nx→(∀id o n c,v=.sl id o n z c→j≠id)→h'.get j=h.get j)∧((k=0∧v'=v)∨∃id n,v'=.sl id 0 n z none∧h.nx≤id):=by
 have hk:k≤m.length:=by rw [hm];exact Nat.le_mul_of_pos_right k hz
 rcases hb with ⟨rfl,rfl⟩ | ⟨id,n,c,tx,rfl,h2,h3,h4,h5,h6,h7⟩
 ·have hm':(2*(0+k)+1000)*bt≤(2*(0+k)+1000)*64:=Nat.mul_le_mul_left _ hbt
  simp only [List.length_nil] at hl
  rw [evAppend_eq (len:=0) (old:=[]) hu hd hni hi hn hnew rfl rfl hall (Nat.le_trans hm' (by omega)) (by omega) rfl]
  by_cases hk0:k=0
  ·subst hk0
   have:m=[]:=List.length_eq_zero_iff.1 (by omega)
   subst this
   rw [if_pos rfl]
   exact ⟨_,_,rfl,hf,.inl ⟨rfl,rfl⟩,rfl,Nat.le_refl _,fun j _ _=>rfl,.inl ⟨rfl,rfl⟩⟩
  ·rw [if_neg hk0]
   exact ⟨_,_,rfl,hf.news _,.inr ⟨h.nx,k,none,false,rfl,AH.get_new_eq rfl,Nat.lt_succ_self _,hf.nx,hm,.inl rfl,.inl rfl⟩,rfl,Nat.le_succ _,fun j hj _=>AH.get_new_ne (Nat.ne_of_lt hj),.inr ⟨_,_,rfl,Nat.le_refl _⟩⟩
 ·have hnl:n≤l.length:=by rw [h5];exact Nat.le_mul_of_pos_right n hz
  have hold:firstA h z n (.sl id 0 n z c)=some l:=by
   rw [firstA_sl h2 (Nat.le_refl _) (by omega),List.drop_zero,←h5,List.take_length]
  have hm':(2*(n+k)+1000)*bt≤(2*(n+k)+1000)*64:=Nat.mul_le_mul_left _ hbt
  rw [evAppend_eq (len:=n) hu hd hni hi hn hnew rfl hold hall (Nat.le_trans hm' (by omega)) (by omega) rfl]
  by_cases hk0:k=0
  ·subst hk0
   have:m=[]:=List.length_eq_zero_iff.1 (by omega)
   subst this
   rw [if_pos rfl]
   exact ⟨_,_,rfl,hf,.inr ⟨id,n,c,tx,rfl,by rw [List.append_nil];exact h2,h3,h4,by rw [List.append_nil];exact h5,h6,by rw [List.append_nil];exact h7⟩,rfl,Nat.le_refl _,fun j _ _=>rfl,.inl ⟨rfl,rfl⟩⟩
  ·rw [if_neg hk0]
   have hlm:(l++m).length=(n+k)*z:=by rw [List.length_append,h5,hm,Nat.add_mul]
   have fin:∀(g:AH),Fr h0 g→g.nx=h.nx→(∀j,j≠id→g.get j=h.get j)→∃v' h',newCells g (l++m) false (fun id=>.sl id 0 (n+k) z none)=some (.val v' h')∧Fr h0 h'∧Ez z h0.nx h' v' (l++m)∧oneA v'=true∧h.nx≤h'.nx∧(∀j,j<h.nx→(∀id' o n' c',AV.sl id 0 n z c=.sl id' o n' z c'→j≠id')→h'.get j=h.get j)∧((k=0∧v'=.sl id 0 n z c)∨∃id n,v'=.sl id 0 n z none∧h.nx≤id):=fun g hg hgn hgo =>
    ⟨_,_,rfl,hg.news _,.inr ⟨g.nx,n+k,none,false,rfl,AH.get_new_eq rfl,Nat.lt_succ_self _,hg.nx,hlm,.inl rfl,.inl rfl⟩,rfl,by rw [←hgn];exact Nat.le_succ _,fun j hj hne=>(AH.get_new_ne (by omega)).trans (hgo j (hne _ _ _ _ rfl)),.inr ⟨_,_,rfl,by omega⟩⟩
   rcases h6 with rfl | rfl
   ·have ht0:tx=false:=by
     rcases h7 with h7 | ⟨_,h7⟩
     ·exact h7
     ·cases h7
    subst ht0
    simp only
    rw [if_pos (by simp [ownBlock,h2])]
    have ht:(textBlock h id||!(Nat.beq 0 0))=false:=by simp [textBlock,h2]
    rw [ht]
    exact fin _ (hf.del h4) rfl fun j hj=>by rw [AH.get_del,if_neg hj]
   ·simp only
    rw [if_pos (by omega)]
    exact fin _ hf rfl fun j _=>rfl
/-! ### Cells of two each -/
end
section
variable {P : Program} {S : Sums}
def syGoN (P:Program) (S:Sums) (R:Nat→Prop) (n:Nat) (ops:Array Oper) (base:Nat):List Oper→List Oper→Nat→Env→AH→List (Nat×AO)→(Env→AH→Prop)→Prop
 | [],rest,i,t,h,pend,K=>syGo0 P S n ops base rest i t h pend K
 | o::r,rest,i,t,h,pend,K=>syDSK P S R n ops base i o t h pend fun t' h' pend'=>syGoN P S R n ops base r rest (i+1) t' h' pend' K
def SSN (P:Program) (R:Nat→Prop) (n m:Nat) (ops:Array Oper) (ss:List DS):Prop :=
 ∀j o s s',j<m→ops[j]? = some o→ss[j]? = some s→ss[j+1]? = some s'→StepOK P R n ops o s.t s.h s'.t s'.h
theorem syGo0_len {n:Nat} {ops:Array Oper} {base:Nat} {K:Env→AH→Prop}:∀ {l:List Oper} {i:Nat} {t:Env} {h:AH} {pend:List (Nat×AO)} {acc:List DS},syGo0 P S n ops base l i t h pend K →
  syGo P S n ops base l i t h pend acc fun ss t' h'=>(∃suf,ss=acc++({ t:=t,h:=h,pend:=pend }:DS)::suf∧suf.length=l.length)∧K t' h'
 | [],i,t,h,pend,acc,hw=>⟨⟨[],rfl,rfl⟩,hw⟩
 | o::r,i,t,h,pend,acc,hw=>syDS_mono (fun t' h' pend' hk=>by
   refine syGo_mono (fun ss t2 h2 hx=>?_) (syGo0_len (l:=r) (acc:=acc++[({ t:=t,h:=h,pend:=pend }:DS)]) hk)
   obtain ⟨⟨suf,e1,e2⟩,hK⟩:=hx
   exact ⟨⟨({ t:=t',h:=h',pend:=pend' }:DS)::suf,by rw [e1];simp,by simp [e2]⟩,hK⟩) hw
theorem syGoN_go {R:Nat→Prop} {n m:Nat} {ops:Array Oper} {base:Nat} {rest:List Oper}:∀ {l:List Oper} {i:Nat} {t:Env} {h:AH} {pend:List (Nat×AO)} {acc:List DS} {K:Env→AH→Prop},(∃pre,ops.toList=pre++(l++rest)∧pre.length=i)→i+l.length=m→acc.length=i →
  SSN P R n m ops (acc++[({ t:=t,h:=h,pend:=pend }:DS)])→syGoN P S R n ops base l rest i t h pend K →
  syGo P S n ops base (l++rest) i t h pend acc fun ss t' h'=>(SSN P R n m ops ss∧ss.length=ops.size+1)∧K t' h'
 | [],i,t,h,pend,acc,K,⟨pre,hp,hl⟩,hm,ha,hs,hw=>by
  refine syGo_mono (fun ss t' h' hx=>?_) (syGo0_len (acc:=acc) hw)
  obtain ⟨⟨suf,e1,e2⟩,hK⟩:=hx
  have hz:ops.size=i+rest.length:=by rw [←Array.length_toList,hp];simp [hl]
  refine ⟨⟨?_,by rw [e1];simp [ha,e2,hz];omega⟩,hK⟩
  intro j oj s s' hj hoj hsj hsj'
  have hm':i=m:=by simpa using hm
  have e3:ss=(acc++[({ t:=t,h:=h,pend:=pend }:DS)])++suf:=by rw [e1];simp
  refine hs j oj s s' hj hoj ?_ ?_
  ·rw [e3,List.getElem?_append_left (by simp;omega)] at hsj;exact hsj
  ·rw [e3,List.getElem?_append_left (by simp;omega)] at hsj';exact hsj'
 | o::r,i,t,h,pend,acc,K,⟨pre,hp,hl⟩,hm,ha,hs,hw=>by
  refine syDS_mono (fun t' h' pend' hk=>?_) (syDSK_step hw)
  refine syGoN_go (l:=r) ⟨pre++[o],by rw [hp];simp,by simp [hl]⟩ (by simp at hm;omega) (by simp [ha]) ?_ hk.2
  intro j oj s s' hjm hoj hsj hsj'
  by_cases hj:j+1<acc.length+1
  ·refine hs j oj s s' hjm hoj ?_ ?_
   ·rw [List.getElem?_append_left (by simp;omega)] at hsj;exact hsj
   ·rw [List.getElem?_append_left (by simp;omega)] at hsj';exact hsj'
  ·have hjl:j+1<((acc++[({ t:=t,h:=h,pend:=pend }:DS)])++[({ t:=t',h:=h',pend:=pend' }:DS)]).length:=(List.getElem?_eq_some_iff.1 hsj').1
   simp at hjl
   have hje:j=acc.length:=by omega
   subst hje
   have h1:s={ t:=t,h:=h,pend:=pend }:=by
    rw [List.getElem?_append_left (by simp),List.getElem?_append_right (Nat.le_refl _)] at hsj
    simpa using hsj.symm
   have h2:s'={ t:=t',h:=h',pend:=pend' }:=by
    rw [List.getElem?_append_right (by simp)] at hsj'
    simpa using hsj'.symm
   have h3:oj=o:=by
    rw [←Array.getElem?_toList,hp,ha,←hl,List.getElem?_append_right (Nat.le_refl _)] at hoj
    simpa using hoj.symm
   subst h1;subst h2;subst h3
   exact hk.1
theorem SSN.chain {R:Nat→Prop} {n m:Nat} {ops:Array Oper} {ss:List DS} (hm:m≤ops.size) (hs:SSN P R n m ops ss) (hl:ss.length=ops.size+1):∀(b a:Nat),a≤b→b≤m→∀sa sb,ss[a]? = some sa→ss[b]? = some sb→∀id,R id→sb.h.get id=sa.h.get id
 | 0,a,hab,_,sa,sb,h1,h2,id,hr=>by
  obtain rfl:a=0:=by omega
  rw [h1] at h2;cases h2;rfl
 | b+1,a,hab,hb,sa,sb,h1,h2,id,hr=>by
  by_cases he:a=b+1
  ·subst he;rw [h1] at h2;cases h2;rfl
  ·have h3:ss[b]? = some ss[b]:=List.getElem?_eq_getElem (by omega)
   have h4:ops[b]? = some ops[b]:=Array.getElem?_eq_getElem (by omega)
   rw [(hs b _ _ _ (by omega) h4 h3 h2).keep id hr]
   exact hs.chain hm hl b a (by omega) (by omega) sa _ h1 h3 id hr
theorem sameAll_goodN {R:Nat→Prop} {Rc:Rec} {n m:Nat} {ops:Array Oper} {ss:List DS} (hm:m≤ops.size) (hs:SSN P R n m ops ss) (hl:ss.length=ops.size+1):∀(prs:List (Nat×Nat)),(∀p,p∈prs→GoodP P ops p)→(∀p,p∈prs→p.2<m)→sameAll P Rc n ops ss prs=true
 | [],_,_=>rfl
 | (j,i)::r,hg,hb=>by
  obtain ⟨hji,oj,oi,hoj,hoi,hcl⟩:=hg (j,i) (List.mem_cons_self ..)
  have hb1:i<m:=hb (j,i) (List.mem_cons_self ..)
  simp only at hji hoj hoi
  have hi:i<ops.size:=(Array.getElem?_eq_some_iff.1 hoi).1
  have g1:ss[i]? = some ss[i]:=List.getElem?_eq_getElem (by omega)
  have g2:ss[i+1]? = some ss[i+1]:=List.getElem?_eq_getElem (by omega)
  have g3:ss[j]? = some ss[j]:=List.getElem?_eq_getElem (by omega)
  have g4:ss[j+1]? = some ss[j+1]:=List.getElem?_eq_getElem (by omega)
  refine sameAll_one hoi g1 g2 g3 g4 ?_ (sameAll_goodN hm hs hl r (fun p hp=>hg p (List.mem_cons_of_mem _ hp)) fun p hp=>hb p (List.mem_cons_of_mem _ hp))
  rcases hcl with ⟨c1,c2⟩ | ⟨c1,c2⟩
  ·rw [if_pos (by rw [c1];rfl)]
   exact sameAt_low hoi (hs i _ _ _ hb1 hoi g1 g2) c1 fun id hr=>(hs.chain hm hl i j (by omega) (by omega) _ _ g3 g1 id hr).symm
  ·rw [if_neg (by rw [c1];decide)]
   exact sameAt_low hoj (hs j _ _ _ (by omega) hoj g3 g4) c2 fun id hr=>hs.chain hm hl (i+1) j (by omega) (by omega) _ _ g3 g2 id hr
def lowFree (m:Nat) (o:Option (List (Nat×Nat))):Bool:=match o with
 | some prs=>prs.all fun p=>Nat.blt p.2 m
 | none=>false
theorem syDraw.keepN {n:Nat} {l:List Oper} {t:Env} {h:AH} {K:Env→AH→Prop} (m:Nat) (R:Nat→Prop) (hf:P.follows .mixedOrders=true) (hs:lowFree m (statGo P l.toArray l 0 [] [] [])=true) (hm:Nat.ble m l.length=true)
  (hw:syGoN P S R n l.toArray h.nx (l.take m) (l.drop m) 0 t { tr:=h.tr,nx:=h.nx+l.length } [] K):syDraw P S n l.toArray t h K ⟨⟩ ⟨⟩ ⟨⟩ ⟨⟩:=by
 rw [Nat.ble_eq] at hm
 cases hp:statGo P l.toArray l 0 [] [] [] with
 | none=>rw [hp] at hs;cases hs
 | some prs =>
  rw [hp] at hs
  have hb:∀p,p∈prs→p.2<m:=fun p hm=>by
   have:=List.all_eq_true.1 hs p hm
   rw [Nat.blt_eq] at this
   exact this
  refine syDraw.go prs hf hp ?_
  have h1:=syGoN_go (P:=P) (S:=S) (R:=R) (m:=m) (ops:=l.toArray) (l:=l.take m) (rest:=l.drop m) (i:=0) (acc:=[]) ⟨[],by simp,rfl⟩ (by rw [List.length_take];omega) rfl (fun j o s s' _ _ _ h2=>by simp at h2) hw
  rw [List.take_append_drop] at h1
  refine syGo_mono (fun ss t' h' hk=>⟨?_,hk.2⟩) h1
  exact sameAll_goodN (by simpa using hm) hk.1.1 hk.1.2 prs (statGo_good l 0 [] [] [] prs rfl (by simp) (fun p hp=>by simp at hp) hp) hb
theorem syGoN_nil (R:Nat→Prop) (n:Nat) (ops:Array Oper) (base:Nat) (rest:List Oper) (i:Nat) (t:Env) (h:AH) (pend:List (Nat×AO)) (K:Env→AH→Prop):syGoN P S R n ops base [] rest i t h pend K=syGo0 P S n ops base rest i t h pend K:=propext Iff.rfl
theorem syGoN_cons (R:Nat→Prop) (n:Nat) (ops:Array Oper) (base:Nat) (o:Oper) (r rest:List Oper) (i:Nat) (t:Env) (h:AH) (pend:List (Nat×AO)) (K:Env→AH→Prop):syGoN P S R n ops base (o::r) rest i t h pend K=syDSK P S R n ops base i o t h pend fun t' h' pend'=>syGoN P S R n ops base r rest (i+1) t' h' pend' K:=rfl
theorem syDS_some (n:Nat) (ops:Array Oper) (base i:Nat) (dst:Option Tmp) (op:Op) (ty:TypeId) (pos:String) (after:Array Edge) (g:Nat×Bool) (t:Env) (h:AH) (pend:List (Nat×AO)) (K:Env→AH→List (Nat×AO)→Prop) :
  syDS P S n ops base i { dst,op,type:=ty,pos,after,guard:=some g } t h pend K=bnd (wantedA ops t { dst,op:=.move (.tmp 0),type:=ty,pos,after,guard:=some g }) (fun b=>ifB (.bool b)
   (clsK (clsOf P op)
    (bnd (allocA P (opnd t) op) (fun x=>syPut n t dst (x.2 (base+i)) fun t'=>K t' h (pend++[(base+i,x.1)])) ⟨⟩)
    (syO P S (opnd t) op (absorb pend h) fun v h'=>syPut n t dst v fun t'=>K t' h' [])
    (syO P S (opnd t) op h fun v _=>syPut n t dst v fun t'=>K t' h pend) ⟨⟩ ⟨⟩ ⟨⟩)
   (clsK (clsOf P op)
    (syPut n t dst (.tup []) fun t'=>K t' h pend)
    (syPut n t dst (.tup []) fun t'=>K t' (absorb pend h) [])
    (syPut n t dst (.tup []) fun t'=>K t' h pend) ⟨⟩ ⟨⟩ ⟨⟩) ⟨⟩ ⟨⟩) ⟨⟩:=by
 unfold syDS
 show clsK (clsOf P op) _ _ _ _ _ _=_
 generalize clsOf P op=c
 rcases c with _ | _ | _ | _ | c <;> rfl
end
attribute [go_sem ↓] syDS_some
attribute [go_sem ↓] syGoN_nil syGoN_cons
section
variable {α : Type}
abbrev KL (α:Type):=List (List Nat×α)
def riseP:KL α→Prop
 | []=>True
 | e::r=>(∀x∈r,lessA e.1 x.1=true)∧riseP r
def putP:KL α→List Nat→α→KL α
 | [],k,v=>[(k,v)]
 | e::r,k,v=>if lessA e.1 k=true then e::putP r k v else if e.1=k then (k,v)::r else (k,v)::e::r
def delP:KL α→List Nat→KL α
 | [],_=>[]
 | e::r,k=>if lessA e.1 k=true then e::delP r k else if e.1=k then r else e::r
def lowP (L:KL α) (k:List Nat):KL α:=L.filter fun e=>lessA e.1 k
def geP (L:KL α) (k:List Nat):KL α:=L.filter fun e=>!lessA e.1 k
def higP (L:KL α) (k:List Nat):KL α:=L.filter fun e=>lessA k e.1
theorem riseP_app:∀ {A B:KL α},riseP (A++B)↔riseP A∧riseP B∧∀x∈A,∀y∈B,lessA x.1 y.1=true
 | [],B=>⟨fun h=>⟨trivial,h,fun x hx=>by cases hx⟩,fun h=>h.2.1⟩
 | e::r,B=>by
  have ih:=riseP_app (A:=r) (B:=B)
  constructor
  ·rintro ⟨h1,h2⟩
   obtain ⟨a,b,c⟩:=ih.1 h2
   refine ⟨⟨fun x hx=>h1 x (by simp [hx]),a⟩,b,fun x hx y hy=>?_⟩
   rcases List.mem_cons.1 hx with rfl | hx
   ·exact h1 y (by simp [hy])
   ·exact c x hx y hy
  ·rintro ⟨⟨h1,h2⟩,h3,h4⟩
   refine ⟨fun x hx=>?_,ih.2 ⟨h2,h3,fun x hx y hy=>h4 x (by simp [hx]) y hy⟩⟩
   rcases List.mem_append.1 hx with hx | hx
   ·exact h1 x hx
   ·exact h4 e (by simp) x hx
theorem riseP_filter {f:List Nat×α→Bool}:∀ {L:KL α},riseP L→riseP (L.filter f)
 | [],_=>trivial
 | e::r,h=>by
  rw [List.filter_cons]
  split
  ·exact ⟨fun x hx=>h.1 x ((List.mem_filter.1 hx).1),riseP_filter h.2⟩
  ·exact riseP_filter h.2
theorem less_succ:∀s k:List Nat,lessA s (k++[0])=true↔lessA s k=true∨s=k
 | [],[]=>by simp [lessA]
 | [],b::y=>by simp [lessA]
 | a::x,[]=>by
  rw [List.nil_append,lessA_cons]
  have:lessA x []=false:=by cases x <;> rfl
  rw [this]
  have h0:lessA (a::x) []=false:=rfl
  rw [h0]
  simp
 | a::x,b::y=>by
  rw [List.cons_append,lessA_cons,lessA_cons,less_succ x y,List.cons.injEq]
  constructor
  ·rintro (h | ⟨rfl,h | h⟩)
   ·exact .inl (.inl h)
   ·exact .inl (.inr ⟨rfl,h⟩)
   ·exact .inr ⟨rfl,h⟩
  ·rintro ((h | ⟨rfl,h⟩) | ⟨rfl,h⟩)
   ·exact .inl h
   ·exact .inr ⟨rfl,.inl h⟩
   ·exact .inr ⟨rfl,.inr h⟩
theorem ge_succ (s k:List Nat):lessA s (k++[0])=false↔lessA k s=true:=by
 rw [Bool.eq_false_iff,Ne,less_succ]
 constructor
 ·intro h
  refine lessA_tot s k (fun hh=>h (.inr hh)) ?_
  rw [Bool.eq_false_iff]
  exact fun hh=>h (.inl hh)
 ·rintro h (h2 | rfl)
  ·rw [lessA_asym h] at h2;cases h2
  ·rw [lessA_irr] at h;cases h
theorem put_split {k:List Nat} {v:α}:∀ {L:KL α},riseP L→putP L k v=lowP L k++(k,v)::higP L k
 | [],_=>rfl
 | e::r,h=>by
  unfold putP lowP higP
  rw [List.filter_cons,List.filter_cons]
  by_cases h1:lessA e.1 k=true
  ·rw [if_pos h1,if_pos h1,if_neg (by rw [lessA_asym h1];decide),put_split h.2]
   rfl
  ·have h1':lessA e.1 k=false:=by simpa using h1
   have hr:r.filter (fun e=>lessA e.1 k)=[]:=List.filter_eq_nil_iff.2 fun x hx hh=>h1 (lessA_tr _ _ _ (h.1 x hx) hh)
   rw [if_neg h1,if_neg h1,hr]
   by_cases h2:e.1=k
   ·have hh:r.filter (fun e=>lessA k e.1)=r:=List.filter_eq_self.2 fun x hx=>by rw [←h2];exact h.1 x hx
    rw [if_pos h2,if_neg (by rw [h2,lessA_irr];decide),hh]
    rfl
   ·have h3:=lessA_tot _ _ h2 h1'
    have hh:r.filter (fun e=>lessA k e.1)=r:=List.filter_eq_self.2 fun x hx=>lessA_tr _ _ _ h3 (h.1 x hx)
    rw [if_neg h2,if_pos h3,hh]
    rfl
theorem del_split {k:List Nat}:∀ {L:KL α},riseP L→delP L k=lowP L k++higP L k
 | [],_=>rfl
 | e::r,h=>by
  unfold delP lowP higP
  rw [List.filter_cons,List.filter_cons]
  by_cases h1:lessA e.1 k=true
  ·rw [if_pos h1,if_pos h1,if_neg (by rw [lessA_asym h1];decide),del_split h.2]
   rfl
  ·have h1':lessA e.1 k=false:=by simpa using h1
   have hr:r.filter (fun e=>lessA e.1 k)=[]:=List.filter_eq_nil_iff.2 fun x hx hh=>h1 (lessA_tr _ _ _ (h.1 x hx) hh)
   rw [if_neg h1,if_neg h1,hr]
   by_cases h2:e.1=k
   ·have hh:r.filter (fun e=>lessA k e.1)=r:=List.filter_eq_self.2 fun x hx=>by rw [←h2];exact h.1 x hx
    rw [if_pos h2,if_neg (by rw [h2,lessA_irr];decide),hh]
    rfl
   ·have h3:=lessA_tot _ _ h2 h1'
    have hh:r.filter (fun e=>lessA k e.1)=r:=List.filter_eq_self.2 fun x hx=>lessA_tr _ _ _ h3 (h.1 x hx)
    rw [if_neg h2,if_pos h3,hh]
    rfl
theorem low_mem {L:KL α} {k:List Nat}:∀x∈lowP L k,lessA x.1 k=true:=fun x hx=>(List.mem_filter.1 hx).2
theorem hig_mem {L:KL α} {k:List Nat}:∀x∈higP L k,lessA k x.1=true:=fun x hx=>(List.mem_filter.1 hx).2
theorem riseP_put {L:KL α} (h:riseP L) (k:List Nat) (v:α):riseP (putP L k v):=by
 rw [put_split h,riseP_app]
 refine ⟨riseP_filter h,⟨hig_mem,riseP_filter h⟩,fun x hx y hy=>?_⟩
 have h1:=low_mem x hx
 rcases List.mem_cons.1 hy with rfl | hy
 ·exact h1
 ·exact lessA_tr _ _ _ h1 (hig_mem y hy)
theorem riseP_del {L:KL α} (h:riseP L) (k:List Nat):riseP (delP L k):=by
 rw [del_split h,riseP_app]
 exact ⟨riseP_filter h,riseP_filter h,fun x hx y hy=>lessA_tr _ _ _ (low_mem x hx) (hig_mem y hy)⟩
def plcP:KL α→List Nat→Nat
 | [],_=>0
 | e::r,k=>if lessA e.1 k=true then plcP r k+1 else 0
theorem plcP_le:∀(L:KL α) (k:List Nat),plcP L k≤L.length
 | [],_=>Nat.le_refl _
 | e::r,k=>by
  unfold plcP
  split
  ·exact Nat.succ_le_succ (plcP_le r k)
  ·exact Nat.zero_le _
theorem plcP_lt:∀ {L:KL α} {k:List Nat} {i:Nat} {e:List Nat×α},i<plcP L k→L[i]? = some e→lessA e.1 k=true
 | [],_,i,e,h,_=>by simp [plcP] at h
 | a::r,k,i,e,h,he=>by
  unfold plcP at h
  split at h
  ·rename_i h1
   cases i with
   | zero=>cases he;exact h1
   | succ i=>exact plcP_lt (L:=r) (k:=k) (i:=i) (by omega) (by simpa using he)
  ·omega
theorem plcP_at:∀ {L:KL α} {k:List Nat} {e:List Nat×α},L[plcP L k]? = some e→lessA e.1 k=false
 | [],_,e,h=>by simp at h
 | a::r,k,e,h=>by
  unfold plcP at h
  split at h
  ·exact plcP_at (L:=r) (by simpa using h)
  ·rename_i h1
   cases h
   simpa using h1
theorem plcP_eq {L:KL α} {k:List Nat} {i:Nat} (hi:i≤L.length) (h1:∀j e,j<i→L[j]? = some e→lessA e.1 k=true) (h2:∀e,L[i]? = some e→lessA e.1 k=false):plcP L k=i:=by
 rcases Nat.lt_trichotomy (plcP L k) i with h | h | h
 ·have:=h1 _ (L[plcP L k]'(by omega)) h (List.getElem?_eq_getElem _)
  rw [plcP_at (List.getElem?_eq_getElem (by omega))] at this
  cases this
 ·exact h
 ·have hl:=plcP_le L k
  have:=plcP_lt h (List.getElem?_eq_getElem (show i<L.length by omega))
  rw [h2 _ (List.getElem?_eq_getElem (by omega))] at this
  cases this
theorem put_doc (k:List Nat) (v:α):∀L:KL α,putP L k v=L.take (plcP L k)++(k,v)::L.drop (if (L[plcP L k]?).map (·.1)=some k then plcP L k+1 else plcP L k)
 | []=>by simp [putP,plcP]
 | e::r=>by
  unfold putP plcP
  by_cases h1:lessA e.1 k=true
  ·rw [if_pos h1,if_pos h1,put_doc k v r]
   simp only [List.take_succ_cons,List.getElem?_cons_succ,List.cons_append]
   by_cases h2:(r[plcP r k]?).map (·.1)=some k
   ·rw [if_pos h2,if_pos h2,List.drop_succ_cons]
   ·rw [if_neg h2,if_neg h2,List.drop_succ_cons]
  ·rw [if_neg h1,if_neg h1]
   by_cases h2:e.1=k
   ·simp [h2]
   ·simp [h2]
theorem del_doc (k:List Nat):∀L:KL α,delP L k=if (L[plcP L k]?).map (·.1)=some k then L.take (plcP L k)++L.drop (plcP L k+1) else L
 | []=>by simp [delP]
 | e::r=>by
  unfold delP plcP
  by_cases h1:lessA e.1 k=true
  ·rw [if_pos h1,if_pos h1,del_doc k r]
   simp only [List.take_succ_cons,List.getElem?_cons_succ,List.cons_append]
   by_cases h2:(r[plcP r k]?).map (·.1)=some k
   ·rw [if_pos h2,if_pos h2,List.drop_succ_cons]
   ·rw [if_neg h2,if_neg h2]
  ·rw [if_neg h1,if_neg h1]
   by_cases h2:e.1=k
   ·simp [h2]
   ·simp [h2]
theorem putP_len (k:List Nat) (v:α):∀L:KL α,(putP L k v).length≤L.length+1
 | []=>Nat.le_refl _
 | e::r=>by
  unfold putP
  split
  ·have:=putP_len k v r
   simp only [List.length_cons];omega
  ·split <;> simp
theorem delP_len (k:List Nat):∀L:KL α,(delP L k).length≤L.length
 | []=>Nat.le_refl _
 | e::r=>by
  unfold delP
  split
  ·have:=delP_len k r
   simp only [List.length_cons];omega
  ·split <;> simp
end
/-! ### Trees of texts that are never changed -/
inductive Tp where
 | nil
 | nd (k v:List Nat) (l r:Tp)
def ino:Tp→KL (List Nat)
 | .nil=>[]
 | .nd k v l r=>ino l++(k,v)::ino r
def Tp.size:Tp→Nat
 | .nil=>0
 | .nd k v l r=>l.size+r.size+1
theorem Tp.size_eq:∀t:Tp,t.size=(ino t).length
 | .nil=>rfl
 | .nd k v l r=>by
  show l.size+r.size+1=(ino l++(k,v)::ino r).length
  rw [l.size_eq,r.size_eq,List.length_append,List.length_cons];omega
def rankA (k:List Nat):BitVec 32:=k.foldl (fun x b=>(x ^^^ BitVec.ofNat 32 b)*16777619#32) 2166136261#32
def aboveA (a b:List Nat):Bool:=decide ((rankA b).toNat<(rankA a).toNat)||(decide ((rankA a).toNat=(rankA b).toNat)&&lessA a b)
def cutT (key:List Nat):Tp→Tp×Tp
 | .nil=>(.nil,.nil)
 | .nd k v l r=>if lessA k key=true then (.nd k v l (cutT key r).1,(cutT key r).2) else ((cutT key l).1,.nd k v (cutT key l).2 r)
def joinF:Nat→Tp→Tp→Tp
 | 0,a,b=>.nil
 | n+1,.nil,b=>b
 | n+1,.nd k v l r,.nil=>.nd k v l r
 | n+1,.nd k v l r,.nd k2 v2 l2 r2=>if aboveA k k2=true then .nd k v l (joinF n r (.nd k2 v2 l2 r2)) else .nd k2 v2 (joinF n (.nd k v l r) l2) r2
def joinT (a b:Tp):Tp:=joinF (a.size+b.size+1) a b
theorem joinF_eq:∀(n m:Nat) (a b:Tp),a.size+b.size<n→a.size+b.size<m→joinF n a b=joinF m a b
 | 0,m,a,b,h,_=>by omega
 | n+1,0,a,b,_,h=>by omega
 | n+1,m+1,.nil,b,_,_=>rfl
 | n+1,m+1,.nd k v l r,.nil,_,_=>rfl
 | n+1,m+1,.nd k v l r,.nd k2 v2 l2 r2,h1,h2=>by
  have e1:(Tp.nd k v l r).size=l.size+r.size+1:=rfl
  have e2:(Tp.nd k2 v2 l2 r2).size=l2.size+r2.size+1:=rfl
  unfold joinF
  rw [joinF_eq n m r (.nd k2 v2 l2 r2) (by omega) (by omega),joinF_eq n m (.nd k v l r) l2 (by omega) (by omega)]
theorem joinT_nd (k v:List Nat) (l r:Tp) (k2 v2:List Nat) (l2 r2:Tp):joinT (.nd k v l r) (.nd k2 v2 l2 r2)=if aboveA k k2=true then .nd k v l (joinT r (.nd k2 v2 l2 r2)) else .nd k2 v2 (joinT (.nd k v l r) l2) r2:=by
 have e1:(Tp.nd k v l r).size=l.size+r.size+1:=rfl
 have e2:(Tp.nd k2 v2 l2 r2).size=l2.size+r2.size+1:=rfl
 show joinF ((Tp.nd k v l r).size+(Tp.nd k2 v2 l2 r2).size+1) _ _=_
 unfold joinF
 rw [joinF_eq _ (r.size+(Tp.nd k2 v2 l2 r2).size+1) r _ (by omega) (by omega),joinF_eq _ ((Tp.nd k v l r).size+l2.size+1) _ l2 (by omega) (by omega)]
 rfl
theorem ino_joinF:∀(n:Nat) (a b:Tp),a.size+b.size<n→ino (joinF n a b)=ino a++ino b
 | 0,a,b,h=>by omega
 | n+1,.nil,b,_=>rfl
 | n+1,.nd k v l r,.nil,_=>by simp [joinF,ino]
 | n+1,.nd k v l r,.nd k2 v2 l2 r2,h=>by
  have e1:(Tp.nd k v l r).size=l.size+r.size+1:=rfl
  have e2:(Tp.nd k2 v2 l2 r2).size=l2.size+r2.size+1:=rfl
  unfold joinF
  split
  ·have:=ino_joinF n r (.nd k2 v2 l2 r2) (by omega)
   simp only [ino] at this ⊢
   rw [this];simp
  ·have:=ino_joinF n (.nd k v l r) l2 (by omega)
   simp only [ino] at this ⊢
   rw [this];simp
theorem ino_join (a b:Tp):ino (joinT a b)=ino a++ino b:=ino_joinF _ a b (Nat.lt_succ_self _)
theorem ino_cut (key:List Nat):∀ {t:Tp},riseP (ino t)→ino (cutT key t).1=lowP (ino t) key∧ino (cutT key t).2=geP (ino t) key
 | .nil,_=>⟨rfl,rfl⟩
 | .nd k v l r,h=>by
  have e:ino (.nd k v l r)=ino l++(k,v)::ino r:=rfl
  rw [e] at h ⊢
  obtain ⟨hl,⟨h1,hr⟩,h2⟩:=riseP_app.1 h
  unfold cutT lowP geP
  rw [List.filter_append,List.filter_append,List.filter_cons,List.filter_cons]
  by_cases hk:lessA k key=true
  ·have l1:(ino l).filter (fun e=>lessA e.1 key)=ino l:=List.filter_eq_self.2 fun x hx=>lessA_tr _ _ _ (h2 x hx (k,v) (by simp)) hk
   have l2:(ino l).filter (fun e=>!lessA e.1 key)=[]:=List.filter_eq_nil_iff.2 fun x hx=>by simp [lessA_tr _ _ _ (h2 x hx (k,v) (by simp)) hk]
   obtain ⟨i1,i2⟩:=ino_cut key hr
   rw [if_pos hk,if_pos hk,if_neg (by simp [hk]),l1,l2]
   refine ⟨?_,?_⟩
   ·show ino l++(k,v)::ino (cutT key r).1=_
    rw [i1];rfl
   ·show ino (cutT key r).2=_
    rw [i2];rfl
  ·have hk':lessA k key=false:=by simpa using hk
   have ge:∀x∈ino r,lessA x.1 key=false:=fun x hx=>by
    rw [Bool.eq_false_iff]
    exact fun hh=>hk (lessA_tr _ _ _ (h1 x hx) hh)
   have r1:(ino r).filter (fun e=>lessA e.1 key)=[]:=List.filter_eq_nil_iff.2 fun x hx=>by simp [ge x hx]
   have r2:(ino r).filter (fun e=>!lessA e.1 key)=ino r:=List.filter_eq_self.2 fun x hx=>by simp [ge x hx]
   obtain ⟨i1,i2⟩:=ino_cut key hl
   rw [if_neg hk,if_neg hk,if_pos (by simp [hk']),r1,r2]
   refine ⟨?_,?_⟩
   ·show ino (cutT key l).1=_
    rw [i1];simp [lowP]
   ·show ino (cutT key l).2++(k,v)::ino r=_
    rw [i2];rfl
def putT2 (t:Tp) (k v:List Nat):Tp:=joinT (joinT (cutT k t).1 (.nd k v .nil .nil)) (cutT (k++[0]) (cutT k t).2).2
def dropT2 (t:Tp) (k:List Nat):Tp:=if (ino t).any (fun e=>decide (e.1=k))=true then joinT (cutT k t).1 (cutT (k++[0]) (cutT k t).2).2 else t
theorem ino_hig (k:List Nat) {t:Tp} (h:riseP (ino t)):ino (cutT (k++[0]) (cutT k t).2).2=higP (ino t) k:=by
 have h1:=(ino_cut k h).2
 have h2:riseP (ino (cutT k t).2):=by rw [h1];exact riseP_filter h
 rw [(ino_cut (k++[0]) h2).2,h1]
 unfold geP higP
 rw [List.filter_filter]
 refine List.filter_congr fun x _=>?_
 cases hx:lessA k x.1 with
 | true =>
  rw [(ge_succ x.1 k).2 hx,lessA_asym hx];rfl
 | false =>
  have:lessA x.1 (k++[0])=true:=by
   cases h3:lessA x.1 (k++[0]) with
   | true=>rfl
   | false=>rw [(ge_succ x.1 k).1 h3] at hx;cases hx
  rw [this];simp
theorem ino_put {t:Tp} (h:riseP (ino t)) (k v:List Nat):ino (putT2 t k v)=putP (ino t) k v:=by
 unfold putT2
 rw [ino_join,ino_join,(ino_cut k h).1,ino_hig k h,put_split h]
 simp [ino]
theorem ino_drop {t:Tp} (h:riseP (ino t)) (k:List Nat):ino (dropT2 t k)=delP (ino t) k:=by
 unfold dropT2
 split
 ·rw [ino_join,(ino_cut k h).1,ino_hig k h,del_split h]
 ·rename_i hn
  rw [del_split h]
  have key:∀ {L:KL (List Nat)},riseP L→(∀e∈L,e.1≠k)→lowP L k++higP L k=L:=by
   intro L
   induction L with
   | nil=>intro _ _;rfl
   | cons e r ih =>
    intro hr hne
    unfold lowP higP
    rw [List.filter_cons,List.filter_cons]
    have h1:=hne e (by simp)
    by_cases h2:lessA e.1 k=true
    ·rw [if_pos h2,if_neg (by rw [lessA_asym h2];decide)]
     have:=ih hr.2 fun x hx=>hne x (by simp [hx])
     unfold lowP higP at this
     rw [List.cons_append,this]
    ·have h3:=lessA_tot _ _ h1 (by simpa using h2)
     have hl:r.filter (fun e=>lessA e.1 k)=[]:=List.filter_eq_nil_iff.2 fun x hx hh=>h2 (lessA_tr _ _ _ (hr.1 x hx) hh)
     have hh:r.filter (fun e=>lessA k e.1)=r:=List.filter_eq_self.2 fun x hx=>lessA_tr _ _ _ h3 (hr.1 x hx)
     rw [if_neg h2,if_pos h3,hl,hh]
     rfl
  refine (key h fun e he hh=>hn ?_).symm
  exact List.any_eq_true.2 ⟨e,he,by simp [hh]⟩
def getT2 (key:List Nat):Tp→Option (List Nat)
 | .nil=>none
 | .nd k v l r=>if key=k then some v else if lessA key k=true then getT2 key l else getT2 key r
theorem getT2_any (key:List Nat):∀ {t:Tp},riseP (ino t)→(getT2 key t).isSome=(ino t).any (fun e=>decide (e.1=key))
 | .nil,_=>rfl
 | .nd k v l r,h=>by
  have e:ino (.nd k v l r)=ino l++(k,v)::ino r:=rfl
  rw [e] at h ⊢
  obtain ⟨hl,⟨h1,hr⟩,h2⟩:=riseP_app.1 h
  unfold getT2
  rw [List.any_append,List.any_cons]
  by_cases hk:key=k
  ·rw [if_pos hk]
   simp [hk]
  ·rw [if_neg hk]
   have hk':decide (k=key)=false:=by simpa using fun hh=>hk hh.symm
   by_cases hlt:lessA key k=true
   ·have:(ino r).any (fun e=>decide (e.1=key))=false:=by
     rw [List.any_eq_false]
     intro x hx
     have:=lessA_tr _ _ _ hlt (h1 x hx)
     simpa using fun hh=>lessA_ne this hh.symm
    rw [if_pos hlt,this,hk',getT2_any key hl]
    simp
   ·have:(ino l).any (fun e=>decide (e.1=key))=false:=by
     rw [List.any_eq_false]
     intro x hx
     have h3:lessA x.1 k=true:=h2 x hx (k,v) (by simp)
     simp only [decide_eq_true_eq]
     intro hh
     rw [hh] at h3
     exact hlt h3
    rw [if_neg hlt,this,hk',getT2_any key hr]
    simp
open Go.Abs.Stb
section
variable {α : Type}
def ltK (x y:List Nat×α):Bool:=lessA x.1 y.1
theorem woK:Wo (ltK (α:=α)):=by
 refine ⟨fun x=>lessA_irr x.1,fun x y z h1 h2=>lessA_tr _ _ _ h1 h2,fun x y z h1 h2=>?_⟩
 show lessA x.1 z.1=false
 have h1':lessA x.1 y.1=false:=h1
 have h2':lessA y.1 z.1=false:=h2
 by_cases hxy:x.1=y.1
 ·rw [hxy];exact h2'
 ·have h3:=lessA_tot _ _ hxy h1'
  by_cases hyz:y.1=z.1
  ·rw [←hyz];exact h1'
  ·exact lessA_asym (lessA_tr _ _ _ (lessA_tot _ _ hyz h2') h3)
def cptA:List Nat×α→KL α→KL α
 | x,[]=>[x]
 | x,y::r=>if x.1=y.1 then cptA x r else x::cptA y r
def cpt:KL α→KL α
 | []=>[]
 | x::r=>cptA x r
theorem cptA_cons (x y:List Nat×α) (r:KL α):cptA x (y::r)=if x.1=y.1 then cptA x r else x::cptA y r:=rfl
theorem putP_cons (e:List Nat×α) (r:KL α) (k:List Nat) (v:α):putP (e::r) k v=if lessA e.1 k=true then e::putP r k v else if e.1=k then (k,v)::r else (k,v)::e::r:=rfl
theorem cptA_hd (z:List Nat×α):∀r:KL α,∃t,∀q:List Nat×α,q.1=z.1→cptA q r=q::t
 | []=>⟨[],fun q _=>rfl⟩
 | y::r=>by
  by_cases h:z.1=y.1
  ·obtain ⟨t,ht⟩:=cptA_hd z r
   exact ⟨t,fun q hq=>by rw [cptA_cons,if_pos (hq.trans h)];exact ht q hq⟩
  ·exact ⟨cptA y r,fun q hq=>by rw [cptA_cons,if_neg (fun hh=>h (hq.symm.trans hh))]⟩
theorem cptA_put {p z:List Nat×α} {r:KL α} (h:lessA z.1 p.1=false):cptA p (z::r)=putP (cptA z r) p.1 p.2:=by
 obtain ⟨t,ht⟩:=cptA_hd z r
 have h':¬lessA z.1 p.1=true:=by rw [h];decide
 rw [ht z rfl,cptA_cons,putP_cons]
 by_cases hk:p.1=z.1
 ·rw [if_pos hk,if_neg h',if_pos hk.symm];exact ht p hk
 ·rw [if_neg hk,if_neg h',if_neg (fun hh=>hk hh.symm),ht z rfl]
theorem cptA_ins {p:List Nat×α}:∀ {y:List Nat×α} {r:KL α},lessA y.1 p.1=true→cptA y (ins ltK p r)=putP (cptA y r) p.1 p.2
 | y,[],h=>by
  show cptA y [p]=putP [y] p.1 p.2
  rw [cptA_cons,if_neg (lessA_ne h),putP_cons,if_pos h]
  rfl
 | y,z::r,h=>by
  unfold ins
  by_cases hz:lessA z.1 p.1=true
  ·have hz':ltK z p=true:=hz
   rw [if_pos hz',cptA_cons,cptA_cons]
   by_cases hk:y.1=z.1
   ·rw [if_pos hk,if_pos hk];exact cptA_ins h
   ·rw [if_neg hk,if_neg hk,cptA_ins hz,putP_cons,if_pos h]
  ·have hz':ltK z p=false:=by simpa [ltK] using hz
   rw [if_neg (by rw [hz'];decide)]
   have hyz:¬y.1=z.1:=fun hh=>hz (by rw [←hh];exact h)
   have e1:cptA y (p::z::r)=y::cptA p (z::r):=by rw [cptA_cons,if_neg (lessA_ne h)]
   have e2:cptA y (z::r)=y::cptA z r:=by rw [cptA_cons,if_neg hyz]
   rw [e1,e2,cptA_put hz',putP_cons,if_pos h]
theorem cpt_ins (p:List Nat×α):∀s:KL α,cpt (ins ltK p s)=putP (cpt s) p.1 p.2
 | []=>rfl
 | y::r=>by
  unfold ins
  by_cases h:lessA y.1 p.1=true
  ·rw [if_pos (show ltK y p=true from h)]
   exact cptA_ins h
  ·have h':lessA y.1 p.1=false:=by simpa using h
   rw [if_neg (show ¬ltK y p=true from h)]
   exact cptA_put h'
def lastD (l:KL α):KL α:=l.foldl (fun out p=>putP out p.1 p.2) []
def lastA (l:KL α):KL α:=cpt (isort ltK l.reverse)
theorem lastA_eq (l:KL α):lastA l=lastD l:=by
 unfold lastA lastD
 rw [←List.foldr_reverse]
 generalize l.reverse=m
 induction m with
 | nil=>rfl
 | cons p m ih =>
  show cpt (ins ltK p (isort ltK m))=putP (m.foldr (fun p out=>putP out p.1 p.2) []) p.1 p.2
  rw [cpt_ins,ih]
theorem riseP_fold:∀(l:KL α) {L:KL α},riseP L→riseP (l.foldl (fun out p=>putP out p.1 p.2) L)
 | [],L,h=>h
 | p::l,L,h=>riseP_fold l (riseP_put h p.1 p.2)
theorem riseP_last (l:KL α):riseP (lastD l):=riseP_fold l trivial
theorem fold_len:∀(l L:KL α),(l.foldl (fun out p=>putP out p.1 p.2) L).length≤L.length+l.length
 | [],L=>Nat.le_refl _
 | p::l,L=>by
  have h1:=fold_len l (putP L p.1 p.2)
  have h2:=putP_len p.1 p.2 L
  rw [List.foldl_cons,List.length_cons]
  omega
theorem last_len (l:KL α):(lastD l).length≤l.length:=by
 have:=fold_len l ([]:KL α)
 simpa [lastD] using this
theorem putP_mem {k:List Nat} {v:α}:∀ {L:KL α} {x:List Nat×α},x∈putP L k v→x=(k,v)∨x∈L
 | [],x,h=>by
  simp only [putP,List.mem_singleton] at h
  exact .inl h
 | e::r,x,h=>by
  unfold putP at h
  split at h
  ·rcases List.mem_cons.1 h with h | h
   ·exact .inr (by simp [h])
   ·rcases putP_mem h with h | h
    ·exact .inl h
    ·exact .inr (by simp [h])
  ·split at h
   ·rcases List.mem_cons.1 h with h | h
    ·exact .inl h
    ·exact .inr (by simp [h])
   ·rcases List.mem_cons.1 h with h | h
    ·exact .inl h
    ·exact .inr h
theorem fold_mem:∀(l L:KL α) {x:List Nat×α},x∈l.foldl (fun out p=>putP out p.1 p.2) L→x∈L∨x∈l
 | [],L,x,h=>.inl h
 | p::l,L,x,h=>by
  rcases fold_mem l (putP L p.1 p.2) h with h | h
  ·rcases putP_mem h with h | h
   ·exact .inr (by simp [h])
   ·exact .inl h
  ·exact .inr (by simp [h])
theorem last_mem {l:KL α} {x:List Nat×α} (h:x∈lastD l):x∈l:=by
 rcases fold_mem l [] h with h | h
 ·cases h
 ·exact h
end
namespace Rec
def numE (n:Nat):List Nat:=if n<128 then [n] else [n/128+128,n%128]
def pieceE (s:List Nat):List Nat:=numE s.length++s
abbrev Pr:=List Nat×(List Nat×Bool)
def pairE (p:Pr):List Nat:=if p.2.2=true then 0::pieceE p.1 else 1::(pieceE p.1++pieceE p.2.1)
def recE (m:KL (List Nat×Bool)):List Nat:=1::(numE m.length++m.flatMap pairE)
def allE (m:KL (List Nat)):List Nat:=2::(numE m.length++m.flatMap fun p=>pieceE p.1++pieceE p.2)
def recP (l:KL (List Nat×Bool)):List Nat×Nat :=
 if l.any (fun p=>decide (p.1=[]))=true then ([],2)
 else if l.any (fun p=>decide (512<p.1.length)||(!p.2.2&&decide (65536<p.2.1.length)))=true then ([],3)
 else (recE (lastD l),0)
def allP (l:KL (List Nat)):List Nat×Nat :=
 if l.any (fun p=>decide (p.1=[]))=true then ([],2)
 else if l.any (fun p=>decide (512<p.1.length)||decide (65536<p.2.length))=true then ([],3)
 else (allE l,0)
/-! ### Reading -/
def rdF:Nat→Nat→List Nat→Nat×Nat×Nat
 | x,i,[]=>if 144115188075855872≤x then (0,0,4) else (0,0,5)
 | x,i,c::r=>if 144115188075855872≤x then (0,0,4) else if c<128 then (x*128+c%128,i+1,0) else rdF (x*128+c%128) (i+1) r
def rdN (l:List Nat):Nat×Nat×Nat:=if l[0]? = some 128 then (0,0,4) else rdF 0 0 l
theorem rdF_len:∀ {l:List Nat} {x i:Nat},(rdF x i l).2.2=0→i<(rdF x i l).2.1∧(rdF x i l).2.1≤i+l.length
 | [],x,i,h=>by unfold rdF at h;split at h <;> cases h
 | c::r,x,i,h=>by
  unfold rdF at h ⊢
  split at h
  ·cases h
  ·rename_i h1
   rw [if_neg h1]
   split at h
   ·rename_i h2
    rw [if_pos h2]
    exact ⟨Nat.lt_succ_self _,by simp⟩
   ·rename_i h2
    rw [if_neg h2]
    have:=rdF_len h
    exact ⟨by omega,by simp only [List.length_cons];omega⟩
theorem rdN_len {l:List Nat} (h:(rdN l).2.2=0):0<(rdN l).2.1∧(rdN l).2.1≤l.length:=by
 unfold rdN at h ⊢
 split at h
 ·cases h
 ·rename_i h1
  rw [if_neg h1]
  have:=rdF_len h
  omega
theorem rdN_num {n:Nat} (hn:n<16384) (r:List Nat):rdN (numE n++r)=(n,(numE n).length,0):=by
 unfold numE
 by_cases h:n<128
 ·rw [if_pos h]
  unfold rdN
  have h1:([n]++r)[0]? = some n:=rfl
  rw [h1,if_neg (by intro hh;cases hh;omega)]
  show rdF 0 0 (n::r)=_
  unfold rdF
  rw [if_neg (by decide),if_pos h]
  have:0*128+n%128=n:=by omega
  rw [this];rfl
 ·rw [if_neg h]
  unfold rdN
  have h1:([n/128+128,n%128]++r)[0]? = some (n/128+128):=rfl
  rw [h1,if_neg (by intro hh;have:=Option.some.inj hh;omega)]
  show rdF 0 0 ((n/128+128)::(n%128)::r)=_
  unfold rdF
  rw [if_neg (by decide),if_neg (by omega)]
  unfold rdF
  rw [if_neg (by omega),if_pos (by omega)]
  have:(0*128+(n/128+128)%128)*128+n%128%128=n:=by omega
  rw [this];rfl
structure Rd where
 b:List Nat
 e:Nat
def Rd.num (s:Rd):Nat×Rd:=if s.e≠0 then (0,s) else if (rdN s.b).2.2≠0 then (0,⟨s.b,(rdN s.b).2.2⟩) else ((rdN s.b).1,⟨s.b.drop (rdN s.b).2.1,0⟩)
def Rd.piece (s:Rd):List Nat×Rd :=
 if s.e≠0 then ([],s) else if (rdN s.b).2.2≠0 then ([],⟨s.b,(rdN s.b).2.2⟩)
 else if 1048576<(rdN s.b).1 then ([],⟨s.b,3⟩) else if s.b.length-(rdN s.b).2.1<(rdN s.b).1 then ([],⟨s.b,5⟩)
 else ((s.b.drop (rdN s.b).2.1).take (rdN s.b).1,⟨s.b.drop ((rdN s.b).2.1+(rdN s.b).1),0⟩)
def Rd.count (s:Rd) (most:Nat):Nat×Rd :=
 if s.e≠0 then (0,s) else if (rdN s.b).2.2≠0 then (0,⟨s.b,(rdN s.b).2.2⟩) else if most<(rdN s.b).1 then (0,⟨s.b,3⟩) else ((rdN s.b).1,⟨s.b.drop (rdN s.b).2.1,0⟩)
theorem Rd.piece_err {s:Rd} (h:s.e≠0):s.piece=([],s):=by unfold Rd.piece;rw [if_pos h]
theorem Rd.num_err {s:Rd} (h:s.e≠0):s.num=(0,s):=by unfold Rd.num;rw [if_pos h]
def one (kind:Nat) (s:Rd):Nat×Pr×Rd :=
 let a:=if kind=1 then s.num else (1,s)
 let k:=a.2.piece
 let v:=if kind=1∧a.1=0 then ([],k.2) else k.2.piece
 (a.1,(k.1,v.1,decide (kind=1∧a.1=0)),v.2)
def pairsF (kind:Nat):Nat→Rd→KL (List Nat×Bool)→KL (List Nat×Bool)×Rd
 | 0,s,acc=>(acc,s)
 | n+1,s,acc=>if s.e≠0 then (acc,s) else pairsF kind n (one kind s).2.2 (acc++[(one kind s).2.1])
def readP (s:List Nat):Option (KL (List Nat×Bool)×Bool) :=
 let k:=(Rd.mk s 0).num
 let c:=k.2.count s.length
 let p:=pairsF k.1 c.1 c.2 []
 if p.2.e≠0∨p.2.b≠[]∨(k.1≠1∧k.1≠2) then none else some (p.1,decide (k.1=2))
def doneP (L:KL (List Nat)) (l:KL (List Nat×Bool)):KL (List Nat):=l.foldl (fun L p=>if p.2.2=true then delP L p.1 else putP L p.1 p.2.1) L
def ofP (l:KL (List Nat×Bool)):KL (List Nat):=l.foldl (fun L p=>putP L p.1 p.2.1) []
def tellP (L:KL (List Nat)) (s:List Nat):KL (List Nat)×Nat:=match readP s with
 | none=>([],4)
 | some (l,true)=>if allP (ofP l)=(s,0) then (ofP l,0) else ([],4)
 | some (l,false)=>if recP l=(s,0) then (doneP L l,0) else ([],4)
/-! ### What was put is read -/
theorem num_back {n:Nat} (hn:n<16384) (r:List Nat):(Rd.mk (numE n++r) 0).num=(n,⟨r,0⟩):=by
 unfold Rd.num
 rw [if_neg (fun h=>h rfl)]
 dsimp only
 rw [rdN_num hn r,if_neg (fun h=>h rfl)]
 dsimp only
 rw [List.drop_left]
theorem piece_back {s:List Nat} (hn:s.length<16384) (r:List Nat):(Rd.mk (pieceE s++r) 0).piece=(s,⟨r,0⟩):=by
 unfold pieceE Rd.piece
 rw [if_neg (fun h=>h rfl)]
 dsimp only
 rw [List.append_assoc,rdN_num hn (s++r),if_neg (fun h=>h rfl)]
 dsimp only
 rw [if_neg (by omega),if_neg (by simp only [List.length_append];omega),List.drop_left,List.take_left,←List.drop_drop,List.drop_left,List.drop_left]
theorem count_back {n:Nat} (hn:n<16384) (r:List Nat) {most:Nat} (hm:n≤most):(Rd.mk (numE n++r) 0).count most=(n,⟨r,0⟩):=by
 unfold Rd.count
 rw [if_neg (fun h=>h rfl)]
 dsimp only
 rw [rdN_num hn r,if_neg (fun h=>h rfl)]
 dsimp only
 rw [if_neg (by omega),List.drop_left]
end Rec
section
variable {α : Type}
def wtf (f:List Nat→α→Nat):KL α→Nat
 | []=>0
 | e::r=>f e.1 e.2+wtf f r
theorem wtf_put (f:List Nat→α→Nat) (k:List Nat) (v:α):∀L:KL α,wtf f (putP L k v)≤wtf f L+f k v
 | []=>by show f k v+0≤0+f k v;omega
 | e::r=>by
  have ih:=wtf_put f k v r
  unfold putP
  split
  ·show f e.1 e.2+wtf f (putP r k v)≤f e.1 e.2+wtf f r+f k v
   omega
  ·split
   ·show f k v+wtf f r≤f e.1 e.2+wtf f r+f k v
    omega
   ·show f k v+(f e.1 e.2+wtf f r)≤f e.1 e.2+wtf f r+f k v
    omega
theorem wtf_last (f:List Nat→α→Nat) (l:KL α):wtf f (lastD l)≤wtf f l:=by
 have key:∀(l L:KL α),wtf f (l.foldl (fun out p=>putP out p.1 p.2) L)≤wtf f L+wtf f l:=by
  intro l
  induction l with
  | nil=>intro L;exact Nat.le_refl _
  | cons p l ih =>
   intro L
   have h1:=ih (putP L p.1 p.2)
   have h2:=wtf_put f p.1 p.2 L
   show wtf f (l.foldl (fun out p=>putP out p.1 p.2) (putP L p.1 p.2))≤wtf f L+(f p.1 p.2+wtf f l)
   omega
 have:=key l []
 simpa [lastD,wtf] using this
theorem wtf_map {β:Type} (f:List Nat→β→Nat) (g:α→β):∀l:KL α,wtf f (l.map fun p=>(p.1,g p.2))=wtf (fun k v=>f k (g v)) l
 | []=>rfl
 | e::r=>by
  show f e.1 (g e.2)+wtf f (r.map fun p=>(p.1,g p.2))=_
  rw [wtf_map f g r];rfl
end
namespace Rec
abbrev lenP (k:List Nat) (v:List Nat×Bool):Nat:=k.length+v.1.length
abbrev lenK (k:List Nat) (v:List Nat):Nat:=k.length+v.length
theorem ofP_last (l:KL (List Nat×Bool)):ofP l=lastD (l.map fun p=>(p.1,p.2.1)):=by
 unfold ofP lastD
 rw [List.foldl_map]
theorem ofP_mem {l:KL (List Nat×Bool)} {p:List Nat×List Nat} (h:p∈ofP l):∃q∈l,p=(q.1,q.2.1):=by
 rw [ofP_last] at h
 obtain ⟨q,hq,e⟩:=List.mem_map.1 (last_mem h)
 exact ⟨q,hq,e.symm⟩
theorem ofP_wt (l:KL (List Nat×Bool)):wtf lenK (ofP l)≤wtf lenP l:=by
 rw [ofP_last]
 refine Nat.le_trans (wtf_last _ _) ?_
 rw [wtf_map]
 exact Nat.le_refl _
theorem numE_len (n:Nat):(numE n).length≤2:=by
 unfold numE
 split <;> simp
theorem pieceE_len (s:List Nat):(pieceE s).length≤s.length+2:=by
 unfold pieceE
 rw [List.length_append]
 have:=numE_len s.length
 omega
theorem recE_len (m:KL (List Nat×Bool)):(recE m).length≤3+wtf lenP m+5*m.length:=by
 have key:∀m:KL (List Nat×Bool),(m.flatMap pairE).length≤wtf lenP m+5*m.length:=by
  intro m
  induction m with
  | nil=>exact Nat.le_refl _
  | cons p m ih =>
   rw [List.flatMap_cons,List.length_append,List.length_cons]
   have h1:(pairE p).length≤lenP p.1 p.2+5:=by
    show _≤p.1.length+p.2.1.length+5
    unfold pairE
    have a:=pieceE_len p.1
    have b:=pieceE_len p.2.1
    split
    ·simp only [List.length_cons];omega
    ·simp only [List.length_cons,List.length_append];omega
   show _≤lenP p.1 p.2+wtf lenP m+_
   omega
 unfold recE
 rw [List.length_cons,List.length_append]
 have a:=numE_len m.length
 have b:=key m
 omega
theorem allE_len (m:KL (List Nat)):(allE m).length≤3+wtf lenK m+4*m.length:=by
 have key:∀m:KL (List Nat),(m.flatMap fun p=>pieceE p.1++pieceE p.2).length≤wtf lenK m+4*m.length:=by
  intro m
  induction m with
  | nil=>exact Nat.le_refl _
  | cons p m ih =>
   rw [List.flatMap_cons,List.length_append,List.length_cons,List.length_append]
   have a:=pieceE_len p.1
   have b:=pieceE_len p.2
   show _≤p.1.length+p.2.length+wtf lenK m+_
   omega
 unfold allE
 rw [List.length_cons,List.length_append]
 have a:=numE_len m.length
 have b:=key m
 omega
/-! ### Bytes -/
def byL (l:List Nat):Prop:=∀b∈l,b<256
theorem byL_app {a b:List Nat} (ha:byL a) (hb:byL b):byL (a++b):=fun x hx=>(List.mem_append.1 hx).elim (ha x) (hb x)
theorem byL_cons {a:Nat} {b:List Nat} (ha:a<256) (hb:byL b):byL (a::b):=fun x hx=>(List.mem_cons.1 hx).elim (fun h=>h▸ha) (hb x)
theorem byL_nil:byL []:=fun x hx=>by cases hx
theorem byL_flat {α:Type} {f:α→List Nat}:∀ {m:List α},(∀p∈m,byL (f p))→byL (m.flatMap f)
 | [],_=>byL_nil
 | p::m,h=>byL_app (h p (by simp)) (byL_flat fun q hq=>h q (by simp [hq]))
theorem numE_by {n:Nat} (hn:n<16384):byL (numE n):=by
 unfold numE
 split
 ·exact byL_cons (by omega) byL_nil
 ·exact byL_cons (by omega) (byL_cons (by omega) byL_nil)
theorem pieceE_by {s:List Nat} (hn:s.length<16384) (hb:byL s):byL (pieceE s):=byL_app (numE_by hn) hb
theorem recE_by {m:KL (List Nat×Bool)} (hn:m.length<16384) (h:∀p∈m,(p.1.length<16384∧p.2.1.length<16384)∧byL p.1∧byL p.2.1):byL (recE m):=by
 unfold recE
 refine byL_cons (by decide) (byL_app (numE_by hn) (byL_flat fun p hp=>?_))
 obtain ⟨⟨h1,h2⟩,h3,h4⟩:=h p hp
 unfold pairE
 split
 ·exact byL_cons (by decide) (pieceE_by h1 h3)
 ·exact byL_cons (by decide) (byL_app (pieceE_by h1 h3) (pieceE_by h2 h4))
theorem allE_by {m:KL (List Nat)} (hn:m.length<16384) (h:∀p∈m,(p.1.length<16384∧p.2.length<16384)∧byL p.1∧byL p.2):byL (allE m):=by
 unfold allE
 refine byL_cons (by decide) (byL_app (numE_by hn) (byL_flat fun p hp=>?_))
 obtain ⟨⟨h1,h2⟩,h3,h4⟩:=h p hp
 exact byL_app (pieceE_by h1 h3) (pieceE_by h2 h4)
theorem wtf_mem {p:Pr}:∀ {l:KL (List Nat×Bool)},p∈l→p.1.length+p.2.1.length≤wtf lenP l
 | e::r,h=>by
  rcases List.mem_cons.1 h with rfl | h
  ·show _≤p.1.length+p.2.1.length+_
   omega
  ·have:=wtf_mem h
   show _≤e.1.length+e.2.1.length+_
   omega
theorem fit_of {l:KL (List Nat×Bool)} (h1:l.length≤4096) (h2:wtf lenP l≤16000) (h3:∀p∈l,byL p.1∧byL p.2.1) :
  (∀p∈l,p.1.length<16384∧p.2.1.length<16384)∧(∀p∈ofP l,p.1.length<16384∧p.2.length<16384)∧(recE (lastD l)).length≤1048576∧byL (recE (lastD l))∧(allE (ofP l)).length≤1048576∧byL (allE (ofP l)):=by
 have hp:∀p∈l,p.1.length<16384∧p.2.1.length<16384:=fun p hp=>by
  have:=wtf_mem hp
  omega
 have ho:∀p∈ofP l,(p.1.length<16384∧p.2.length<16384)∧byL p.1∧byL p.2:=fun p hp'=>by
  obtain ⟨q,hq,rfl⟩:=ofP_mem hp'
  exact ⟨hp q hq,h3 q hq⟩
 have hl:=last_len l
 have hol:(ofP l).length≤l.length:=by
  rw [ofP_last]
  have:=last_len (l.map fun p:List Nat×List Nat×Bool=>(p.1,p.2.1))
  simpa using this
 have w1:=wtf_last lenP l
 have w2:=ofP_wt l
 have r1:=recE_len (lastD l)
 have r2:=allE_len (ofP l)
 exact ⟨hp,fun p hp=>(ho p hp).1,by omega,recE_by (by omega) fun p hp'=>⟨hp p (last_mem hp'),h3 p (last_mem hp')⟩,by omega,allE_by (by omega) ho⟩
end Rec
end Go.Abs
end