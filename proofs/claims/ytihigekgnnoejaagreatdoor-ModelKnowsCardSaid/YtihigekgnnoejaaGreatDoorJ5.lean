/- Texts joined: MAr, MAs. -/
import Derived.Test.YtihigekgnnoejaaGreatDoorH3
import Derived.Test.YtihigekgnnoejaaGreatDoorAb5
set_option maxRecDepth 100000
set_option linter.unusedVariables false
set_option linter.unusedSimpArgs false
section
namespace Go.Proofs.YtihigekgnnoejaaGreatDoor.mdl
open Go Go.Abs Go.Proofs Go.ChangeShapes Go.RowKit
theorem c3:Tryz.prog.cellsOf 3=1:=by kernel_rfl
theorem c9:Tryz.prog.cellsOf 9=1:=by kernel_rfl
theorem c4:Tryz.prog.cellsOf 4=1:=by kernel_rfl
theorem c62:Tryz.prog.cellsOf 62=1:=by kernel_rfl
theorem c5:Tryz.prog.cellsOf 5=1:=by kernel_rfl
theorem c64:Tryz.prog.cellsOf 64=2:=by kernel_rfl
theorem c104:Tryz.prog.cellsOf 104=32:=by kernel_rfl
theorem c31:Tryz.prog.cellsOf 31=1:=by kernel_rfl
theorem c32:Tryz.prog.cellsOf 32=1:=by kernel_rfl
theorem c34:Tryz.prog.cellsOf 34=3:=by kernel_rfl
theorem c36:Tryz.prog.cellsOf 36=7:=by kernel_rfl
theorem c82:Tryz.prog.cellsOf 82=1:=by kernel_rfl
theorem c84:Tryz.prog.cellsOf 84=2:=by kernel_rfl
theorem c41:Tryz.prog.cellsOf 41=1:=by kernel_rfl
theorem c43:Tryz.prog.cellsOf 43=2:=by kernel_rfl
theorem c44:Tryz.prog.cellsOf 44=1:=by kernel_rfl
theorem c40:Tryz.prog.cellsOf 40=3:=by kernel_rfl
theorem c38:Tryz.prog.cellsOf 38=18:=by kernel_rfl
theorem c46:Tryz.prog.cellsOf 46=30:=by kernel_rfl
theorem flat_rg {α:Type} (enc:α→List AV) (z:Nat) {cs:List AV} (F:Nat→α):∀n:Nat,n*z≤cs.length→(∀i,i<n→(cs.drop (i*z)).take z=enc (F i))→cs.take (n*z)=((List.range n).map F).flatMap enc
 | 0,_,_=>by simp
 | n+1,hn,h=>by
  have e:(n+1)*z=n*z+z:=Nat.succ_mul n z
  have ih:=flat_rg enc z F n (by omega) fun i hi=>h i (by omega)
  rw [e,List.take_add,ih,h n (Nat.lt_succ_self n),List.range_succ,List.map_append,List.flatMap_append]
  simp
section
variable {h : AH} {avs : List AV}
theorem ty_fl {α:Type} {t e:TypeId} {z:Nat} (enc:α→List AV) (d:α) (hu:Tryz.prog.underlying t=some (.slice e)) (hz:Tryz.prog.cellsOf e=z) (hel:∀avs,Ty Tryz.prog h e avs→∃x,avs=enc x) (hx:Ty Tryz.prog h t avs) (hlt:∀id o,h.get id=some o→id<h.nx):∃(v:AV) (l:List α),avs=[v]∧Fl (fun _=>0) z h v (l.flatMap enc):=by
 rcases hx.slice_inv hu with rfl | ⟨id,len,cs,rfl,hg,hl,hcs,hs⟩
 ·exact ⟨_,[],rfl,.inl ⟨rfl,rfl⟩⟩
 ·rw [hz] at hcs hs ⊢
  have key:∀i,∃x:α,i<len→(cs.drop (i*z)).take z=enc x:=fun i=>by
   by_cases hi:i<len
   ·obtain ⟨x,h1⟩:=hel _ (hs i hi)
    exact ⟨x,fun _=>h1⟩
   ·exact ⟨d,fun hh=>absurd hh hi⟩
  obtain ⟨F,hF⟩:=Classical.axiomOfChoice key
  refine ⟨_,(List.range len).map F,rfl,.inr ⟨id,0,len,none,cs,false,false,rfl,hg,hlt _ _ hg,rfl,fun k hk=>(by cases hk),by omega,?_⟩⟩
  rw [List.drop_zero]
  exact flat_rg enc z F len (by omega) hF
theorem ty_sl {α:Type} {t e:TypeId} {z:Nat} {E:List AV→α→Prop} (d:α) (hu:Tryz.prog.underlying t=some (.slice e)) (hz:Tryz.prog.cellsOf e=z) (hel:∀avs,Ty Tryz.prog h e avs→∃x,E avs x) (hx:Ty Tryz.prog h t avs) (hlt:∀id o,h.get id=some o→id<h.nx):∃(v:AV) (l:List α),avs=[v]∧Sl (fun _=>0) z E h v l:=by
 rcases hx.slice_inv hu with rfl | ⟨id,len,cs,rfl,hg,hl,hcs,hs⟩
 ·exact ⟨_,[],rfl,.inl ⟨rfl,rfl⟩⟩
 ·rw [hz] at hcs hs ⊢
  have key:∀i,∃x:α,i<len→E ((cs.drop (i*z)).take z) x:=fun i=>by
   by_cases hi:i<len
   ·obtain ⟨x,h1⟩:=hel _ (hs i hi)
    exact ⟨x,fun _=>h1⟩
   ·exact ⟨d,fun hh=>absurd hh hi⟩
  obtain ⟨F,hF⟩:=Classical.axiomOfChoice key
  have hm:((List.range len).map F).length=len:=by simp
  refine ⟨_,(List.range len).map F,rfl,.inr ⟨id,0,none,cs,false,false,by rw [hm],hg,hlt _ _ hg,rfl,fun k hk=>(by cases hk),by rw [hm];omega,fun i x hi=>?_⟩⟩
  have hil:i<len:=by have:=(List.getElem?_eq_some_iff.1 hi).1;rwa [hm] at this
  have e:((List.range len).map F)[i]? = some (F i):=by simp [hil]
  rw [e] at hi
  cases hi
  rw [Nat.zero_add]
  exact hF i hil
theorem ty_ct (hx:Ty Tryz.prog h 64 avs):∃c:Ct,avs=ctc c:=by
 obtain ⟨hl,hf⟩:=hx.struct_inv Tryz.underlying64
 have hl2:avs.length=2:=hl.trans c64
 match avs,hl2 with
 | [a0,a1],_ =>
  have f0:=hf _ (List.mem_cons_self ..)
  have f1:=hf _ (List.mem_cons_of_mem _ (List.mem_cons_self ..))
  simp only [c3,c62,List.drop_zero,List.drop_succ_cons,List.take_succ_cons,List.take_zero] at f0 f1
  obtain ⟨k,e0,_⟩:=f0.int_inv Tryz.underlying3
  obtain ⟨q,e1,_⟩:=f1.int_inv Tryz.underlying62
  cases e0;cases e1
  exact ⟨(k,q),rfl⟩
theorem u8s:∀l:List AV,(∀(i:Nat) a,l[i]? = some a→∃n,a=.int .u8 n)→∃m:List Int,l=m.map (AV.int .u8)
 | [],_=>⟨[],rfl⟩
 | a::r,hh=>by
  obtain ⟨n,rfl⟩:=hh 0 a rfl
  obtain ⟨m,hm⟩:=u8s r fun i b hb=>hh (i+1) b (by simpa using hb)
  exact ⟨n::m,by rw [hm];rfl⟩
theorem ty_dg (hx:Ty Tryz.prog h 104 avs):∃d:Dg,avs=dgc d:=by
 obtain ⟨hl,hf⟩:=hx.array_inv Tryz.underlying104
 have hl2:avs.length=32:=hl.trans c104
 obtain ⟨m,hm⟩:=u8s avs fun i a hi=>by
  have hil:=(List.getElem?_eq_some_iff.1 hi).1
  have h1:=hf i (by omega)
  rw [c5,Nat.mul_one] at h1
  obtain ⟨n,e,_⟩:=h1.int_inv Tryz.underlying5
  have h2:((avs.drop i).take 1)[0]? = some a:=by simpa using hi
  rw [e] at h2
  exact ⟨n,(Option.some.inj h2).symm⟩
 exact ⟨⟨m,by rw [hm,List.length_map] at hl2;exact hl2⟩,hm⟩
theorem ty_rc (hx:Ty Tryz.prog h 36 avs) (hlt:∀id o,h.get id=some o→id<h.nx):∃r,RaU h avs r:=by
 obtain ⟨hl,hf⟩:=hx.struct_inv Tryz.underlying36
 have hl2:avs.length=7:=hl.trans c36
 match avs,hl2 with
 | [a0,a1,a2,a3,a4,a5,a6],_ =>
  have f0:=hf _ (List.mem_cons_self ..)
  have f1:=hf _ (List.mem_cons_of_mem _ (List.mem_cons_self ..))
  have f2:=hf _ (List.mem_cons_of_mem _ (List.mem_cons_of_mem _ (List.mem_cons_self ..)))
  have f3:=hf _ (List.mem_cons_of_mem _ (List.mem_cons_of_mem _ (List.mem_cons_of_mem _ (List.mem_cons_self ..))))
  have f4:=hf _ (List.mem_cons_of_mem _ (List.mem_cons_of_mem _ (List.mem_cons_of_mem _ (List.mem_cons_of_mem _ (List.mem_cons_self ..)))))
  simp only [c3,c9,c4,c31,c34,List.drop_zero,List.drop_succ_cons,List.take_succ_cons,List.take_zero] at f0 f1 f2 f3 f4
  obtain ⟨p,e0,_⟩:=f0.str_inv Tryz.underlying9
  obtain ⟨v,l,e1,hv⟩:=ty_fl ctc (0,0) Tryz.underlying31 c64 (fun _ hh=>ty_ct hh) f1 hlt
  obtain ⟨b,e2,_⟩:=f2.int_inv Tryz.underlying3
  obtain ⟨g,e3⟩:=f3.bool_inv Tryz.underlying4
  obtain ⟨_,hf4⟩:=f4.struct_inv Tryz.underlying34
  have g0:=hf4 _ (List.mem_cons_self ..)
  have g1:=hf4 _ (List.mem_cons_of_mem _ (List.mem_cons_self ..))
  have g2:=hf4 _ (List.mem_cons_of_mem _ (List.mem_cons_of_mem _ (List.mem_cons_self ..)))
  simp only [c3,c32,List.drop_zero,List.drop_succ_cons,List.take_succ_cons,List.take_zero] at g0 g1 g2
  obtain ⟨s,e4,_⟩:=g0.int_inv Tryz.underlying3
  obtain ⟨n,e5,_⟩:=g1.int_inv Tryz.underlying3
  obtain ⟨d,k,e6,hd⟩:=ty_fl dgc ⟨List.replicate 32 0,rfl⟩ Tryz.underlying32 c104 (fun _ hh=>ty_dg hh) g2 hlt
  cases e0;cases e1;cases e2;cases e3;cases e4;cases e5;cases e6
  exact ⟨⟨bytesOf p,l,b,g,s,n,k⟩,_,_,rfl,hv,hd⟩
theorem ty_in {avs:List AV} (hx:Ty Tryz.prog h 3 avs):∃n:Int,avs=[AV.int .i64 n]:=by
 obtain ⟨n,e,_⟩:=hx.int_inv Tryz.underlying3
 exact ⟨n,e⟩
theorem ty_rw (hx:Ty Tryz.prog h 84 avs) (hlt:∀id o,h.get id=some o→id<h.nx):∃r,WaU h avs r:=by
 obtain ⟨hl,hf⟩:=hx.struct_inv Tryz.underlying84
 have hl2:avs.length=2:=hl.trans c84
 match avs,hl2 with
 | [a0,a1],_ =>
  have f0:=hf _ (List.mem_cons_self ..)
  have f1:=hf _ (List.mem_cons_of_mem _ (List.mem_cons_self ..))
  simp only [c9,c82,List.drop_zero,List.drop_succ_cons,List.take_succ_cons,List.take_zero] at f0 f1
  obtain ⟨p,e0,_⟩:=f0.str_inv Tryz.underlying9
  obtain ⟨v,l,e1,hv⟩:=ty_fl (fun i=>[AV.int .i64 i]) (0:Int) Tryz.underlying82 c3 (fun _ hh=>ty_in hh) f1 hlt
  cases e0;cases e1
  exact ⟨⟨bytesOf p,l⟩,_,rfl,hv⟩
theorem ty_se (hx:Ty Tryz.prog h 46 avs) (hlt:∀id o,h.get id=some o→id<h.nx):∃x,SaU h avs x:=by
 obtain ⟨hl,hf⟩:=hx.struct_inv Tryz.underlying46
 have hl2:avs.length=30:=hl.trans c46
 match avs,hl2 with
 | [a0,a1,a2,a3,a4,a5,a6,a7,a8,a9,a10,a11,a12,a13,a14,a15,a16,a17,a18,a19,a20,a21,a22,a23,a24,a25,a26,a27,a28,a29],_ =>
  have f0:=hf _ (List.mem_cons_self ..)
  have f1:=hf _ (List.mem_cons_of_mem _ (List.mem_cons_self ..))
  have f2:=hf _ (List.mem_cons_of_mem _ (List.mem_cons_of_mem _ (List.mem_cons_self ..)))
  have f3:=hf _ (List.mem_cons_of_mem _ (List.mem_cons_of_mem _ (List.mem_cons_of_mem _ (List.mem_cons_self ..))))
  have hf:=fun f hh=>hf f (List.mem_cons_of_mem _ (List.mem_cons_of_mem _ (List.mem_cons_of_mem _ (List.mem_cons_of_mem _ hh))))
  have f4:=hf _ (List.mem_cons_self ..)
  have f5:=hf _ (List.mem_cons_of_mem _ (List.mem_cons_self ..))
  have f6:=hf _ (List.mem_cons_of_mem _ (List.mem_cons_of_mem _ (List.mem_cons_self ..)))
  have f7:=hf _ (List.mem_cons_of_mem _ (List.mem_cons_of_mem _ (List.mem_cons_of_mem _ (List.mem_cons_self ..))))
  have hf:=fun f hh=>hf f (List.mem_cons_of_mem _ (List.mem_cons_of_mem _ (List.mem_cons_of_mem _ (List.mem_cons_of_mem _ hh))))
  have f8:=hf _ (List.mem_cons_self ..)
  have f9:=hf _ (List.mem_cons_of_mem _ (List.mem_cons_self ..))
  simp only [c3,c9,c38,c40,c43,c44,List.drop_zero,List.drop_succ_cons,List.take_succ_cons,List.take_zero] at f0 f1 f2 f3 f4 f5 f6 f7 f8 f9
  obtain ⟨x0,e0,_⟩:=f0.int_inv Tryz.underlying3
  obtain ⟨x1,e1,_⟩:=f1.int_inv Tryz.underlying3
  obtain ⟨x2,e2,_⟩:=f2.int_inv Tryz.underlying3
  obtain ⟨x3,e3,_⟩:=f3.int_inv Tryz.underlying3
  obtain ⟨x4,e4,_⟩:=f4.str_inv Tryz.underlying9
  obtain ⟨x5,e5,_⟩:=f5.str_inv Tryz.underlying9
  obtain ⟨_,hd⟩:=f6.struct_inv Tryz.underlying38
  have d0:=hd _ (List.mem_cons_self ..)
  have d1:=hd _ (List.mem_cons_of_mem _ (List.mem_cons_self ..))
  have d2:=hd _ (List.mem_cons_of_mem _ (List.mem_cons_of_mem _ (List.mem_cons_self ..)))
  have hd:=fun f hh=>hd f (List.mem_cons_of_mem _ (List.mem_cons_of_mem _ (List.mem_cons_of_mem _ hh)))
  have d3:=hd _ (List.mem_cons_self ..)
  have d4:=hd _ (List.mem_cons_of_mem _ (List.mem_cons_self ..))
  have d5:=hd _ (List.mem_cons_of_mem _ (List.mem_cons_of_mem _ (List.mem_cons_self ..)))
  simp only [c3,c9,c36,List.drop_zero,List.drop_succ_cons,List.take_succ_cons,List.take_zero] at d0 d1 d2 d3 d4 d5
  obtain ⟨y0,e6,_⟩:=d0.int_inv Tryz.underlying3
  obtain ⟨y1,e7,_⟩:=d1.str_inv Tryz.underlying9
  obtain ⟨y2,e8,_⟩:=d2.str_inv Tryz.underlying9
  obtain ⟨y3,h3⟩:=ty_rc d3 hlt
  obtain ⟨y4,e9,_⟩:=d4.str_inv Tryz.underlying9
  obtain ⟨y5,h5⟩:=ty_rc d5 hlt
  obtain ⟨_,hc⟩:=f7.struct_inv Tryz.underlying40
  have g0:=hc _ (List.mem_cons_self ..)
  have g1:=hc _ (List.mem_cons_of_mem _ (List.mem_cons_self ..))
  have g2:=hc _ (List.mem_cons_of_mem _ (List.mem_cons_of_mem _ (List.mem_cons_self ..)))
  simp only [c3,c9,List.drop_zero,List.drop_succ_cons,List.take_succ_cons,List.take_zero] at g0 g1 g2
  obtain ⟨z0,e10,_⟩:=g0.int_inv Tryz.underlying3
  obtain ⟨z1,e11,_⟩:=g1.str_inv Tryz.underlying9
  obtain ⟨z2,e12,_⟩:=g2.int_inv Tryz.underlying3
  obtain ⟨_,hm⟩:=f8.struct_inv Tryz.underlying43
  have m0:=hm _ (List.mem_cons_self ..)
  have m1:=hm _ (List.mem_cons_of_mem _ (List.mem_cons_self ..))
  simp only [c3,c41,List.drop_zero,List.drop_succ_cons,List.take_succ_cons,List.take_zero] at m0 m1
  obtain ⟨w0,e13,_⟩:=m0.int_inv Tryz.underlying3
  obtain ⟨rw',rows,e14,hrw⟩:=ty_sl (E:=WaU h) ⟨[],[]⟩ Tryz.underlying41 c84 (fun _ hh=>ty_rw hh hlt) m1 hlt
  obtain ⟨rv,rs,e15,hrs⟩:=ty_sl (E:=RaU h) ⟨[],[],0,false,0,0,[]⟩ Tryz.underlying44 c36 (fun _ hh=>ty_rc hh hlt) f9 hlt
  have h3':=h3
  have h5':=h5
  obtain ⟨v1,q1,e16,hv1,hq1⟩:=h3
  obtain ⟨v2,q2,e17,hv2,hq2⟩:=h5
  cases e0;cases e1;cases e2;cases e3;cases e4;cases e5;cases e6;cases e7;cases e8;cases e9;cases e10;cases e11;cases e12;cases e13;cases e14;cases e15;cases e16;cases e17
  exact ⟨⟨x0,x1,x2,x3,bytesOf x4,bytesOf x5,y0,bytesOf y1,bytesOf y2,y3,bytesOf y4,y5,z0,bytesOf z1,z2,⟨w0,rows⟩,rs⟩,_,_,_,_,_,_,rfl,h3',h5',hrw,hrs⟩
theorem ty_seens (hx:Ty Tryz.prog h 22 avs) (hlt:∀id o,h.get id=some o→id<h.nx):∃v L,avs=[v]∧Sl (fun _=>0) 30 (SaU h) h v L :=
 ty_sl (E:=SaU h) ⟨0,0,0,0,[],[],0,[],[],⟨[],[],0,false,0,0,[]⟩,[],⟨[],[],0,false,0,0,[]⟩,0,[],0,⟨0,[]⟩,[]⟩ Tryz.underlying22 c46 (fun _ hh=>ty_se hh hlt) hx hlt
end
theorem fl_le {h h2:AH} (hl:∀id o,h.get id=some o→h2.get id=some o) (hn:h.nx≤h2.nx) {K:Nat→Nat} {z:Nat} {v:AV} {m:List AV} (hb:Fl K z h v m):Fl K z h2 v m:=by
 rcases hb with h1 | ⟨id,off,n,c,cs,o,t,h1,h2',h3,h4,h5⟩
 ·exact .inl h1
 ·exact .inr ⟨id,off,n,c,cs,o,t,h1,hl _ _ h2',Nat.lt_of_lt_of_le h3 hn,h4,h5⟩
theorem sl_le {h h2:AH} (hl:∀id o,h.get id=some o→h2.get id=some o) (hn:h.nx≤h2.nx) {α:Type} {K:Nat→Nat} {z:Nat} {E E':List AV→α→Prop} {v:AV} {l:List α} (hb:Sl K z E h v l) (hE:∀cs x,E cs x→E' cs x):Sl K z E' h2 v l:=by
 rcases hb with h1 | ⟨id,off,c,cs,o,t,h1,h2',h3,h4,h5,h6,h7⟩
 ·exact .inl h1
 ·exact .inr ⟨id,off,c,cs,o,t,h1,hl _ _ h2',Nat.lt_of_lt_of_le h3 hn,h4,h5,h6,fun i x hi=>hE _ _ (h7 i x hi)⟩
theorem ra_le {h h2:AH} (hl:∀id o,h.get id=some o→h2.get id=some o) (hn:h.nx≤h2.nx) {cs:List AV} {r:Rc} (hb:RaU h cs r):RaU h2 cs r:=let ⟨v,d,h1,h2',h3⟩:=hb;⟨v,d,h1,fl_le hl hn h2',fl_le hl hn h3⟩
theorem wa_le {h h2:AH} (hl:∀id o,h.get id=some o→h2.get id=some o) (hn:h.nx≤h2.nx) {cs:List AV} {r:Rw} (hb:WaU h cs r):WaU h2 cs r:=let ⟨v,h1,h2'⟩:=hb;⟨v,h1,fl_le hl hn h2'⟩
theorem sa_le {h h2:AH} (hl:∀id o,h.get id=some o→h2.get id=some o) (hn:h.nx≤h2.nx) {cs:List AV} {x:Se} (hb:SaU h cs x):SaU h2 cs x:=let ⟨a,b,c,d,e,g,h1,h2',h3,h4,h5⟩:=hb;⟨a,b,c,d,e,g,h1,ra_le hl hn h2',ra_le hl hn h3,sl_le hl hn h4 fun _ _ hx=>wa_le hl hn hx,sl_le hl hn h5 fun _ _ hx=>ra_le hl hn hx⟩
end Go.Proofs.YtihigekgnnoejaaGreatDoor.mdl
end