/- The abstract layer, parts 41 to 53. Conditions: none. -/
import Derived.Test.YtaooopaemphfjaaGreatDoorAb4
import Derived.WideShapes
set_option linter.unusedVariables false
set_option linter.unusedSimpArgs false
section
namespace Go.Abs
open Go
abbrev W32:=BitVec 32
def iw (x:W32):Int:=(x.toNat:Int)
theorem iw_def (x:W32):iw x=(x.toNat:Int):=rfl
theorem wrap32 (n:Int):IntKind.u32.wrap n=n%4294967296:=by
 simp [IntKind.wrap,IntKind.bits,IntKind.signed]
theorem wrap32_nat (n:Nat):IntKind.u32.wrap (n:Int)=((n%4294967296:Nat):Int):=by
 rw [wrap32];exact (Int.natCast_emod n 4294967296).symm
theorem ofInt_iw (x:W32):BitVec.ofInt IntKind.u32.bits (iw x)=x:=by
 apply BitVec.eq_of_toNat_eq
 have h1:(BitVec.ofInt IntKind.u32.bits (x.toNat:Int)).toNat=x.toNat%2^32:=bv_ofInt _ _
 rw [iw,h1]
 exact Nat.mod_eq_of_lt x.isLt
theorem wrap_bv (x:W32):IntKind.u32.wrap ((x.toNat:Nat):Int)=iw x:=by
 rw [wrap32_nat,iw,Nat.mod_eq_of_lt x.isLt]
theorem add_w (x y:W32):IntKind.u32.wrap (iw x+iw y)=iw (x+y):=by
 rw [iw,iw,←Int.natCast_add,wrap32_nat,iw,BitVec.toNat_add]
theorem xor_w (x y:W32):IntKind.u32.wrap ((BitVec.ofInt IntKind.u32.bits (iw x) ^^^ BitVec.ofInt IntKind.u32.bits (iw y)).toNat:Int)=iw (x ^^^ y):=by
 rw [ofInt_iw,ofInt_iw];exact wrap_bv _
theorem or_w (x y:W32):IntKind.u32.wrap ((BitVec.ofInt IntKind.u32.bits (iw x) ||| BitVec.ofInt IntKind.u32.bits (iw y)).toNat:Int)=iw (x ||| y):=by
 rw [ofInt_iw,ofInt_iw];exact wrap_bv _
theorem shl_w (x:W32) (k:Nat):IntKind.u32.wrap (iw x*2^k)=iw (x <<< k):=by
 have h:iw x*2^k=((x.toNat*2^k:Nat):Int):=by rw [iw,Int.natCast_mul,Int.natCast_pow];rfl
 rw [h,wrap32_nat,iw,BitVec.toNat_shiftLeft,Nat.shiftLeft_eq]
/-! ### The digest's functions -/
section
variable {P : Program} {S : Sums}
theorem Fr.del {h h':AH} (k:Fr h h') {i:Nat} (hi:h.nx≤i):Fr h (h'.del i):=⟨k.nx,fun j hj=>by rw [AH.get_del,if_neg (by omega)];exact k.get j hj⟩
def byC (l:List Nat):List AV:=l.map fun (b:Nat)=>AV.int .u8 (b:Int)
theorem byC_length (l:List Nat):(byC l).length=l.length:=by simp [byC]
theorem byC_get (l:List Nat) (i:Nat):(byC l)[i]? = (l[i]?).map fun (b:Nat)=>AV.int .u8 (b:Int):=by simp [byC]
theorem byC_drop (l:List Nat) (i:Nat):(byC l).drop i=byC (l.drop i):=by simp [byC,List.map_drop]
theorem byC_take (l:List Nat) (i:Nat):(byC l).take i=byC (l.take i):=by simp [byC,List.map_take]
theorem byC_all (l:List Nat):(byC l).all oneA=true:=by
 rw [List.all_eq_true]
 intro c hc
 obtain ⟨b,_,rfl⟩:=List.mem_map.1 hc
 rfl
theorem bytesA_byC:∀(l:List Nat),(∀b∈l,b<256)→bytesA (byC l)=some l
 | [],_=>rfl
 | b::l,h=>by
  have hb:b<256:=h b (List.mem_cons_self ..)
  have ih:=bytesA_byC l fun c hc=>h c (List.mem_cons_of_mem _ hc)
  show bytesA (AV.int .u8 ((b:Nat):Int)::byC l)=some (b::l)
  have:((b:Nat):Int)=Int.ofNat b:=rfl
  rw [this]
  simp only [bytesA,hb,if_true,ih,Option.map_some]
def Bs (h:AH) (v:AV) (l:List Nat):Prop :=
 (v=.nilsl∧l=[])∨∃id off c cs o t,v=.sl id off l.length 1 c∧h.get id=some (.cells cs o t)∧id<h.nx∧off+l.length≤cs.length∧(∀k,c=some k→l.length≤k)∧(cs.drop off).take l.length=byC l
theorem Bs.fr {h h':AH} {v:AV} {l:List Nat} (hb:Bs h v l) (hf:Fr h h'):Bs h' v l:=by
 rcases hb with h1 | ⟨id,off,c,cs,o,t,h1,h2,h3,h4,h5,h6⟩
 ·exact .inl h1
 ·exact .inr ⟨id,off,c,cs,o,t,h1,(hf.get id h3).trans h2,Nat.lt_of_lt_of_le h3 hf.nx,h4,h5,h6⟩
theorem bs_get {cs:List AV} {off:Nat} {l:List Nat} (hx:(cs.drop off).take l.length=byC l) {i b:Nat} (hi:l[i]? = some b):cs[off+i]? = some (.int .u8 (b:Int)):=by
 have h1:(byC l)[i]? = some (.int .u8 (b:Int)):=by rw [byC_get,hi];rfl
 have hil:i<l.length:=(List.getElem?_eq_some_iff.1 hi).1
 rw [←hx,List.getElem?_take_of_lt hil,List.getElem?_drop] at h1
 exact h1
theorem Bs.slice_from {h:AH} {v:AV} {l:List Nat} {t e:TypeId} {lo:Nat} (hb:Bs h v l) (ht:P.underlying t=some (.slice e)) (he:tsize P e=some 1) (hlo:lo≤l.length) :
  ∃v',(∀h1,evSlice P h1 t v (some (.int .i64 (lo:Nat))) none none=some v')∧Bs h v' (l.drop lo)∧sameAV 20 v' v'=true∧oneA v'=true:=by
 rcases hb with ⟨rfl,rfl⟩ | ⟨id,off,c,cs,o,tx,rfl,h2,h3,h4,h5,h6⟩
 ·obtain rfl:lo=0:=by simpa using hlo
  refine ⟨.nilsl,fun h1=>?_,.inl ⟨rfl,rfl⟩,rfl,rfl⟩
  simp [evSlice,ht,he,boundsA,boundA,upTo]
 ·refine ⟨.sl id (off+lo*1) (l.length-lo) 1 (c.map (· - lo)),fun h1=>?_,.inr ⟨id,off+lo*1,c.map (· - lo),cs,o,tx,?_,h2,h3,?_,?_,?_⟩,?_,rfl⟩
  ·have hu:upTo ((lo:Nat):Int) l.length=some lo:=by rw [upTo_of (by omega) (by omega)];simp
   simp [evSlice,ht,he,boundsA,boundA,hu]
  ·simp
  ·simp;omega
  ·intro k hk
   cases c with
   | none=>simp at hk
   | some c=>simp at hk;have:=h5 c rfl;simp;omega
  ·rw [List.length_drop,←byC_drop,←h6,List.drop_take,List.drop_drop,Nat.mul_one]
  ·simp [sameAV]
theorem Bs.slice_to {h:AH} {v:AV} {l:List Nat} {t e:TypeId} {hi:Nat} (hb:Bs h v l) (ht:P.underlying t=some (.slice e)) (he:tsize P e=some 1) (hhi:hi≤l.length) :
  ∃v',(∀h1,evSlice P h1 t v none (some (.int .i64 (hi:Nat))) none=some v')∧Bs h v' (l.take hi)∧sameAV 20 v' v'=true∧oneA v'=true:=by
 rcases hb with ⟨rfl,rfl⟩ | ⟨id,off,c,cs,o,tx,rfl,h2,h3,h4,h5,h6⟩
 ·obtain rfl:hi=0:=by simpa using hhi
  refine ⟨.nilsl,fun h1=>?_,.inl ⟨rfl,rfl⟩,rfl,rfl⟩
  simp [evSlice,ht,he,boundsA,boundA,upTo]
 ·refine ⟨.sl id (off+0*1) (hi-0) 1 (c.map (· - 0)),fun h1=>?_,.inr ⟨id,off+0*1,c.map (· - 0),cs,o,tx,?_,h2,h3,?_,?_,?_⟩,?_,rfl⟩
  ·have hu:upTo ((hi:Nat):Int) (c.getD l.length)=some hi:=by
    rw [upTo_of (by omega) (by cases c with
     | none=>simp;omega
     | some c=>simp;have:=h5 c rfl;omega)]
    simp
   simp [evSlice,ht,he,boundsA,boundA,hu]
  ·simp;omega
  ·simp;omega
  ·intro k hk
   cases c with
   | none=>simp at hk
   | some c=>simp at hk;have:=h5 c rfl;simp;omega
  ·have h7:(byC l).take hi=byC (l.take hi):=byC_take l hi
   rw [←h7,←h6,List.take_take]
   simp
  ·simp [sameAV]
theorem Bs.slice_mid {h:AH} {v:AV} {l:List Nat} {t e:TypeId} {lo hi:Nat} (hb:Bs h v l) (ht:P.underlying t=some (.slice e)) (he:tsize P e=some 1) (hlo:lo≤hi) (hhi:hi≤l.length) :
  ∃v',(∀h1,evSlice P h1 t v (some (.int .i64 (lo:Nat))) (some (.int .i64 (hi:Nat))) none=some v')∧Bs h v' ((l.take hi).drop lo)∧sameAV 20 v' v'=true∧oneA v'=true:=by
 rcases hb with ⟨rfl,rfl⟩ | ⟨id,off,c,cs,o,tx,rfl,h2,h3,h4,h5,h6⟩
 ·obtain rfl:hi=0:=by simpa using hhi
  obtain rfl:lo=0:=by simpa using hlo
  refine ⟨.nilsl,fun h1=>?_,.inl ⟨rfl,rfl⟩,rfl,rfl⟩
  simp [evSlice,ht,he,boundsA,boundA,upTo]
 ·refine ⟨.sl id (off+lo*1) (hi-lo) 1 (c.map (· - lo)),fun h1=>?_,.inr ⟨id,off+lo*1,c.map (· - lo),cs,o,tx,?_,h2,h3,?_,?_,?_⟩,?_,rfl⟩
  ·have hu:upTo ((hi:Nat):Int) (c.getD l.length)=some hi:=by
    rw [upTo_of (by omega) (by cases c with
     | none=>simp;omega
     | some c=>simp;have:=h5 c rfl;omega)]
    simp
   have hu2:upTo ((lo:Nat):Int) hi=some lo:=by rw [upTo_of (by omega) (by omega)];simp
   simp [evSlice,ht,he,boundsA,boundA,hu,hu2]
  ·simp;omega
  ·simp;omega
  ·intro k hk
   cases c with
   | none=>simp at hk
   | some c=>simp at hk;have:=h5 c rfl;simp;omega
  ·have h7:((byC l).take hi).drop lo=byC ((l.take hi).drop lo):=by rw [byC_take,byC_drop]
   have h8:((l.take hi).drop lo).length=hi-lo:=by simp;omega
   rw [h8,←h7,←h6,List.take_take,Nat.min_eq_left hhi,List.drop_take,List.drop_drop,Nat.mul_one]
  ·simp [sameAV]
theorem Bs.text {h:AH} {v:AV} {l:List Nat} {s e d:TypeId} (hb:Bs h v l) (hs:P.underlying s=some (.slice e)) (he:P.underlying e=some (.int .u8)) (hd:P.underlying d=some .string) (hl:∀b∈l,b<256) :
  evConvert P h s d v=some (.val (.str l) h):=by
 rcases hb with ⟨rfl,rfl⟩ | ⟨id,off,c,cs,o,tx,rfl,h2,h3,h4,h5,h6⟩
 ·simp [evConvert,hs,hd,he,lenA,firstA,bytesA]
 ·have h7:firstA h 1 l.length (.sl id off l.length 1 c)=some (byC l):=by
   simp only [firstA,cellsAt,h2,Nat.mul_one,h4]
   simp [h6]
  simp only [evConvert,hs,hd,he,lenA,Option.bind_eq_bind,Option.bind_some,h7,bytesA_byC l hl]
theorem Bs.first {h:AH} {v:AV} {l:List Nat} (hb:Bs h v l):lenA v=some l.length∧firstA h 1 l.length v=some (byC l):=by
 rcases hb with ⟨rfl,rfl⟩ | ⟨id,off,c,cs,o,tx,rfl,h2,h3,h4,h5,h6⟩
 ·exact ⟨rfl,rfl⟩
 ·refine ⟨rfl,?_⟩
  simp only [firstA,cellsAt,h2,Nat.mul_one,h4]
  simp [h6]
/-! ### Slices of texts -/
def Ss (n0:Nat) (h:AH) (v:AV) (l:List (List Nat)):Prop :=
 (v=.nilsl∧l=[])∨∃id,v=.sl id 0 l.length 1 none∧h.get id=some (.cells (l.map AV.str) true false)∧id<h.nx∧n0≤id
theorem Ss.fr {n0:Nat} {h h':AH} {v:AV} {l:List (List Nat)} (hb:Ss n0 h v l) (hf:Fr h h'):Ss n0 h' v l:=by
 rcases hb with h1 | ⟨id,h1,h2,h3,h4⟩
 ·exact .inl h1
 ·exact .inr ⟨id,h1,(hf.get id h3).trans h2,Nat.lt_of_lt_of_le h3 hf.nx,h4⟩
theorem Ss.app {h0 h:AH} {v:AV} {l:List (List Nat)} {p:List Nat} {id1:Nat} {c:Option Nat} {o t:Bool} {st e:TypeId} {bt:Nat} (hu:P.underlying st=some (.slice e)) (hi:appI P e=some (1,bt)) (hbt:bt≤64) (hs:Ss h0.nx h v l) (hf:Fr h0 h) (hl:l.length≤1073741824)
  (hid:h.get id1=some (.cells [.str p] o t)) (hlt:id1<h.nx) (hne:∀id off n sz c,v=.sl id off n sz c→id≠id1) :
  ∃v' h',evAppend P h #[st,st] v (.sl id1 0 1 1 c)=some (.val v' h')∧Fr h0 h'∧Ss h0.nx h' v' (l++[p])∧oneA v'=true:=by
 have hnew:firstA h 1 1 (.sl id1 0 1 1 c)=some [.str p]:=by
  rw [firstA_sl hid (Nat.le_refl _) (by simp)];rfl
 have hm:(2*(l.length+1)+1000)*bt≤(2*(l.length+1)+1000)*64:=Nat.mul_le_mul_left _ hbt
 rcases hs with ⟨rfl,rfl⟩ | ⟨id,rfl,h2,h3,h4⟩
 ·have hm':(2*(0+1)+1000)*bt≤(2*(0+1)+1000)*64:=Nat.mul_le_mul_left _ hbt
  rw [evAppend_eq (len:=0) (old:=[]) hu hu rfl hi rfl hnew rfl rfl rfl (Nat.le_trans hm' (by omega)) (by omega) rfl]
  rw [if_neg (by decide)]
  exact ⟨_,_,rfl,hf.news _,.inr ⟨h.nx,rfl,AH.get_new_eq rfl,Nat.lt_succ_self _,hf.nx⟩,rfl⟩
 ·have hold:firstA h 1 l.length (.sl id 0 l.length 1 none)=some (l.map AV.str):=by
   rw [firstA_sl h2 (Nat.le_refl _) (by simp),List.drop_zero,Nat.mul_one]
   have ht:(l.map AV.str).take (l.map AV.str).length=l.map AV.str:=List.take_length
   rw [List.length_map] at ht
   exact congrArg some ht
  rw [evAppend_eq (len:=l.length) hu hu rfl hi rfl hnew rfl hold rfl (Nat.le_trans hm (by omega)) (by omega) rfl]
  rw [if_neg (by decide)]
  simp only
  rw [if_pos (by simp [ownBlock,h2])]
  have ht:(textBlock h id||!(Nat.beq 0 0))=false:=by simp [textBlock,h2]
  rw [ht]
  refine ⟨_,_,rfl,(hf.del h4).news _,.inr ⟨h.nx,?_,?_,Nat.lt_succ_self _,hf.nx⟩,rfl⟩
  ·simp
  ·exact (AH.get_new_eq (h:=h.del id) rfl).trans (by simp)
/-! ### Numbers -/
theorem tmod_nat (a b:Nat):((a:Nat):Int).tmod (b:Int)=((a%b:Nat):Int):=by
 rw [Int.tmod_eq_emod_of_nonneg (Int.natCast_nonneg _)];exact (Int.natCast_emod a b).symm
/-! ### Words -/
theorem binA_add32 (h:AH) (t:TypeId) (x y:W32):binA P h .add t (.int .u32 (iw x)) (.int .u32 (iw y))=some (.int .u32 (iw (x+y))):=by rw [binA_add,add_w]
theorem binA_xor32 (h:AH) (t:TypeId) (x y:W32):binA P h .xor t (.int .u32 (iw x)) (.int .u32 (iw y))=some (.int .u32 (iw (x ^^^ y))):=by rw [binA_xor,xor_w]
theorem binA_or32 (h:AH) (t:TypeId) (x y:W32):binA P h .or t (.int .u32 (iw x)) (.int .u32 (iw y))=some (.int .u32 (iw (x ||| y))):=by rw [binA_or,or_w]
theorem binA_shl32 (h:AH) (t:TypeId) (k:IntKind) (x:W32) (n:Int) (h0:0≤n) (h1:n≤32):binA P h .shl t (.int .u32 (iw x)) (.int k n)=some (.int .u32 (iw (x <<< n.toNat))):=by
 rw [binA_shl,if_neg (by omega)]
 have:min n.toNat (IntKind.bits .u32)=n.toNat:=Nat.min_eq_left (by show n.toNat≤32;omega)
 rw [this,shl_w]
theorem conv_w {s d:TypeId} {u:TypeDesc} (hs:P.underlying s=some u) (hd:P.underlying d=some (.int .u32)) (h:AH) (b:Nat):evConvert P h s d (.int .u8 (b:Int))=some (.val (.int .u32 (iw (BitVec.ofNat 32 b))) h):=by
 simp only [evConvert,hs,hd,val?]
 have:IntKind.u32.wrap ((b:Nat):Int)=iw (BitVec.ofNat 32 b):=by rw [wrap32_nat,iw,BitVec.toNat_ofNat]
 rw [this]
def four (a b c d:Nat):Nat:=((a*256+b)*256+c)*256+d
theorem four_lt {a b c d:Nat} (ha:a<256) (hb:b<256) (hc:c<256) (hd:d<256):four a b c d<4294967296:=by unfold four;omega
theorem bv_shl8 (a k:Nat):(BitVec.ofNat 32 a <<< k:W32).toNat=a*2^k%4294967296:=by
 rw [BitVec.toNat_shiftLeft,BitVec.toNat_ofNat,Nat.shiftLeft_eq]
 simp [Nat.mod_mul_mod]
theorem or_of_lt {x y k:Nat} (hy:y<2^k):x*2^k ||| y=x*2^k+y:=by
 rw [←Nat.shiftLeft_eq,←Nat.shiftLeft_add_eq_or_of_lt hy]
theorem four_or {a b c d:Nat} (ha:a<256) (hb:b<256) (hc:c<256) (hd:d<256) :
  (BitVec.ofNat 32 a <<< 24 ||| BitVec.ofNat 32 b <<< 16 ||| BitVec.ofNat 32 c <<< 8 ||| BitVec.ofNat 32 d:W32)=BitVec.ofNat 32 (four a b c d):=by
 apply BitVec.eq_of_toNat_eq
 rw [BitVec.toNat_or,BitVec.toNat_or,BitVec.toNat_or,bv_shl8,bv_shl8,bv_shl8,BitVec.toNat_ofNat,BitVec.toNat_ofNat]
 have e1:a*2^24%4294967296=a*2^24:=Nat.mod_eq_of_lt (by omega)
 have e2:b*2^16%4294967296=b*2^16:=Nat.mod_eq_of_lt (by omega)
 have e3:c*2^8%4294967296=c*2^8:=Nat.mod_eq_of_lt (by omega)
 have e4:d%2^32=d:=Nat.mod_eq_of_lt (by omega)
 have e5:four a b c d%2^32=four a b c d:=Nat.mod_eq_of_lt (four_lt ha hb hc hd)
 rw [e1,e2,e3,e4,e5]
 have f1:a*2^24 ||| b*2^16=(a*256+b)*2^16:=by
  have:=or_of_lt (x:=a) (y:=b*2^16) (k:=24) (by omega)
  rw [this];omega
 have f2:(a*256+b)*2^16 ||| c*2^8=((a*256+b)*256+c)*2^8:=by
  have:=or_of_lt (x:=a*256+b) (y:=c*2^8) (k:=16) (by omega)
  rw [this];omega
 have f3:((a*256+b)*256+c)*2^8 ||| d=four a b c d:=by
  have:=or_of_lt (x:=(a*256+b)*256+c) (y:=d) (k:=8) (by omega)
  rw [this];unfold four;omega
 rw [f1,f2,f3]
theorem iw_ofNat {n:Nat} (h:n<4294967296):iw (BitVec.ofNat 32 n)=(n:Int):=by
 rw [iw,BitVec.toNat_ofNat];rw [Nat.mod_eq_of_lt h]
/-! ### Bytes that are an argument -/
end
attribute [go_sem high] binA_add32 binA_xor32 binA_or32 binA_shl32
section
variable {P : Program} {S : Sums}
def Bo (n0:Nat) (h:AH) (v:AV) (l:List Nat):Prop :=
 ∃id c cs tx,v=.sl id 0 l.length 1 c∧h.get id=some (.cells cs true tx)∧id<h.nx∧n0≤id∧cs.take l.length=byC l∧l.length≤cs.length∧(c=none∨c=some l.length)
theorem Bo.bs {n0:Nat} {h:AH} {v:AV} {l:List Nat} (hb:Bo n0 h v l):Bs h v l:=by
 obtain ⟨id,c,cs,tx,h1,h2,h3,h4,h5,h6,h7⟩:=hb
 refine .inr ⟨id,0,c,cs,true,tx,h1,h2,h3,by omega,fun k hk=>?_,by rw [List.drop_zero];exact h5⟩
 rcases h7 with rfl | rfl
 ·cases hk
 ·cases hk;exact Nat.le_refl _
theorem Bo.fr {n0:Nat} {h h':AH} {v:AV} {l:List Nat} (hb:Bo n0 h v l) (hf:Fr h h'):Bo n0 h' v l:=by
 obtain ⟨id,c,cs,tx,h1,h2,h3,h4,h5⟩:=hb
 exact ⟨id,c,cs,tx,h1,(hf.get id h3).trans h2,Nat.lt_of_lt_of_le h3 hf.nx,h4,h5⟩
theorem Bo.app {h0 h:AH} {v x:AV} {l m:List Nat} {st e:TypeId} (hu:P.underlying st=some (.slice e)) (hi:appI P e=some (1,1)) (hb:Bo h0.nx h v l) (hx:Bs h x m) (hf:Fr h0 h) (hl:l.length+m.length≤274877906944) :
  ∃v' h',evAppend P h #[st,st] v x=some (.val v' h')∧Fr h0 h'∧Bo h0.nx h' v' (l++m):=by
 obtain ⟨hn,hnew⟩:=hx.first
 obtain ⟨id,c,cs,tx,rfl,h2,h3,h4,h5,h6,h7⟩:=hb
 have hold:firstA h 1 l.length (.sl id 0 l.length 1 c)=some (byC l):=by
  rw [firstA_sl h2 (Nat.le_refl _) (by omega),List.drop_zero,Nat.mul_one,h5]
 rw [evAppend_eq hu hu rfl hi hn hnew rfl hold (byC_all m) (by omega) (by omega) rfl]
 by_cases hm:m.length=0
 ·rw [if_pos hm]
  have:m=[]:=List.length_eq_zero_iff.1 hm
  subst this
  exact ⟨_,_,rfl,hf,id,c,cs,tx,by simp,h2,h3,h4,by simpa using h5,by simpa using h6,by simpa using h7⟩
 ·rw [if_neg hm]
  have hlm:(l++m).length=l.length+m.length:=by simp
  have hby:byC l++byC m=byC (l++m):=by simp [byC]
  have fin:∀(g:AH) (tf:Bool),Fr h0 g→g.nx=h.nx→∃v' h',newCells g (byC l++byC m) tf (fun id=>.sl id 0 (l.length+m.length) 1 none)=some (.val v' h')∧Fr h0 h'∧Bo h0.nx h' v' (l++m):=fun g tf hg hgn =>
   ⟨_,_,rfl,hg.news _,g.nx,none,byC l++byC m,tf,by rw [hlm],AH.get_new_eq rfl,Nat.lt_succ_self _,hg.nx,by rw [hby,←byC_length (l++m),List.take_length],by rw [hby,byC_length];exact Nat.le_refl _,.inl rfl⟩
  rcases h7 with rfl | rfl
  ·simp only
   rw [if_pos (by simp [ownBlock,h2])]
   exact fin _ _ (hf.del h4) rfl
  ·simp only
   rw [if_pos (by omega)]
   exact fin _ _ hf rfl
end
section
variable {P : Program} {S : Sums}
theorem syPut_mono {n:Nat} {t:Env} {dst:Option Tmp} {v:AV} {A B:Env→Prop} (hab:∀t',A t'→B t') (hx:syPut n t dst v A):syPut n t dst v B:=by
 unfold syPut at hx ⊢
 split
 ·rename_i hd;exact hab _ hx
 ·exact ⟨hx.1,hab _ hx.2⟩
theorem bnd_mono {α:Type} {ov:Option α} {A B:α→Prop} {u:Blk A} {w:Blk B} (hab:∀v,A v→B v) (hx:bnd ov A u):bnd ov B w:=let ⟨a,h1,h2⟩:=hx;⟨a,h1,hab a h2⟩
theorem resK_mono {h:AH} {A B:AV→AH→Prop} (hab:∀v h',A v h'→B v h'):∀ {r:ORes},resK P S h A r→resK P S h B r:=by
 intro r h2
 cases r with
 | val v h'=>exact hab _ _ h2
 | skip h'=>exact hab _ _ h2
 | call f args=>exact RnC.mono h2 hab
 | yield id args=>exact RnR.mono h2 hab
theorem syO_mono {E:Operand→AV} {op:Op} {h:AH} {A B:AV→AH→Prop} (hab:∀v h',A v h'→B v h') (hx:syO P S E op h A):syO P S E op h B:=by
 unfold syO at hx ⊢
 split at hx
 ·exact hab _ _ hx
 ·exact hab _ _ hx
 ·obtain ⟨tt,h1,h2,h3⟩:=hx;exact ⟨tt,h1,fun e=>hab _ _ (h2 e),fun e=>hab _ _ (h3 e)⟩
 ·exact bnd_mono (fun _=>hab _ _) hx
 ·exact bnd_mono (fun _=>hab _ _) hx
 ·exact bnd_mono (fun _=>hab _ _) hx
 ·exact bnd_mono (fun _=>hab _ _) hx
 ·exact bnd_mono (fun _=>hab _ _) hx
 ·exact bnd_mono (fun _=>hab _ _) hx
 ·exact bnd_mono (fun _=>hab _ _) hx
 ·exact bnd_mono (fun _=>hab _ _) hx
 ·exact bnd_mono (fun _=>hab _ _) hx
 ·split at hx
  ·rename_i c _ f _
   change syV P S (E f) (c.args.toList.map E) h A at hx
   change syV P S (E f) (c.args.toList.map E) h B
   unfold syV at hx ⊢
   split at hx
   ·exact RnC.mono hx hab
   ·exact bnd_mono (fun _=>resK_mono hab) hx
   ·exact RnR.mono hx hab
   ·exact hx
  ·exact bnd_mono (fun _=>resK_mono hab) hx
 ·exact bnd_mono (fun _=>resK_mono hab) hx
theorem sy1_mono {n:Nat} {ops:Array Oper} {o:Oper} {t:Env} {h:AH} {A B:Env→AH→Prop} (hab:∀t' h',A t' h'→B t' h') (hx:sy1 P S n ops o t h A):sy1 P S n ops o t h B:=by
 unfold sy1 at hx ⊢
 split at hx
 ·exact syO_mono (fun v h'=>syPut_mono fun t'=>hab t' h') hx
 ·obtain ⟨b,h1,tt,h2,h3,h4⟩:=hx
  exact ⟨b,h1,tt,h2,fun e=>syO_mono (fun v h'=>syPut_mono fun t'=>hab t' h') (h3 e),fun e=>syPut_mono (fun t'=>hab t' h) (h4 e)⟩
def valOf:Option ORes→Option AV
 | some (.val v _)=>some v
 | _=>none
def ptrR (R:Nat→Prop):AV→Prop
 | .ptr id _=>R id
 | _=>False
def mapR (R:Nat→Prop):AV→Prop
 | .map id=>R id
 | .nilmap=>True
 | _=>False
theorem ptrR_ptr (R:Nat→Prop) (id off:Nat):ptrR R (.ptr id off)=R id:=rfl
theorem mapR_map (R:Nat→Prop) (id:Nat):mapR R (.map id)=R id:=rfl
theorem mapR_nil (R:Nat→Prop):mapR R .nilmap=True:=rfl
theorem valOf_val (v:AV) (h:AH):valOf (some (.val v h))=some v:=rfl
def syLow (P:Program) (R:Nat→Prop) (E:Operand→AV) (op:Op) (h:AH) (K:AV→Prop):Prop :=
 match op with
 | .load t a=>bnd (evLoad P h t (E a)) (fun v=>ptrR R (E a)∧sameAV 20 v v=true∧K v) ⟨⟩
 | .lookup t m k ok=>∃v,(∀g,(∀id,R id→g.get id=h.get id)→evLookup P g t (E m) (E k) ok=some v)∧sameAV 20 v v=true∧K v
 | .convert s d x=>bnd (valOf (evConvert P h s d (E x))) (fun v=>(∀g,(∀id,R id→g.get id=h.get id)→valOf (evConvert P g s d (E x))=some v)∧sameAV 20 v v=true∧K v) ⟨⟩
 | op => bnd (valOf (evOper P E { dst := none, op, type := 0, pos := "", after := #[], guard := none } h)) (fun v => (∀ g, valOf (evOper P E { dst := none, op, type := 0, pos := "", after := #[], guard := none } g) = some v) ∧ sameAV 20 v v = true ∧ K v) ⟨⟩
theorem valOf_some {o:Option ORes} {v:AV} (h:valOf o=some v):∃h',o=some (.val v h'):=by
 unfold valOf at h
 split at h
 ·cases h;exact ⟨_,rfl⟩
 ·cases h
def Low (P:Program) (R:Nat→Prop) (E:Operand→AV) (o:Oper) (h:AH) (v:AV):Prop:=∀g,(∀id,R id→g.get id=h.get id)→evOper P E o g=some (.val v g)
theorem evLoad_keep {R:Nat→Prop} {h g:AH} {t:TypeId} {x:AV} (hx:ptrR R x) (hg:∀id,R id→g.get id=h.get id):evLoad P g t x=evLoad P h t x:=by
 cases x <;> first | exact hx.elim | skip
 rename_i id off
 have h1:=hg id hx
 simp only [evLoad,h1]
theorem syLow_ok {R:Nat→Prop} {E:Operand→AV} {o:Oper} {h:AH} {K:AV→Prop} (hc:clsOf P o.op=1) (hx:syLow P R E o.op h K):∃v,Low P R E o h v∧sameAV 20 v v=true∧K v:=by
 obtain ⟨dst,op,ty,pos,after,guard⟩:=o
 simp only at hc hx
 unfold syLow at hx
 split at hx
 ·rename_i t a
  obtain ⟨v,h1,h2,h3,h4⟩:=hx
  refine ⟨v,fun g hg=>?_,h3,h4⟩
  simp only [evOper,evLoad_keep (P:=P) (t:=t) h2 hg,h1,val?]
 ·rename_i t m k ok
  obtain ⟨v,h1,h3,h4⟩:=hx
  refine ⟨v,fun g hg=>?_,h3,h4⟩
  simp only [evOper,h1 g hg,val?]
 ·rename_i s d x
  obtain ⟨v,h1,h2,h3,h4⟩:=hx
  refine ⟨v,fun g hg=>?_,h3,h4⟩
  obtain ⟨g',hg'⟩:=valOf_some (h2 g hg)
  have hg2:evOper P E { dst:=dst,op:=.convert s d x,type:=ty,pos:=pos,after:=after,guard:=guard } g=some (.val v g'):=by
   rw [←hg']
   rfl
  obtain ⟨u,hu⟩:=evOper_read (P:=P) (by simpa using Nat.le_of_eq hc) hg2
  cases hu
  exact hg2
 ·obtain ⟨v,h1,h2,h3,h4⟩:=hx
  refine ⟨v,fun g hg=>?_,h3,h4⟩
  obtain ⟨g',hg'⟩:=valOf_some (h2 g)
  obtain ⟨u,hu⟩:=evOper_read (P:=P) (by simpa using Nat.le_of_eq hc) hg'
  cases hu
  exact hg'
/-! ### The walk -/
def clsK4 (c:Nat) (A B C D:Prop) (_:Blk A) (_:Blk B) (_:Blk C) (_:Blk D):Prop :=
 match c with
 | 2=>A
 | 3=>B
 | 1=>C
 | _=>D
theorem clsK4_0 (A B C D:Prop) (u:Blk A) (v:Blk B) (w:Blk C) (x:Blk D):clsK4 0 A B C D u v w x=D:=rfl
theorem clsK4_1 (A B C D:Prop) (u:Blk A) (v:Blk B) (w:Blk C) (x:Blk D):clsK4 1 A B C D u v w x=C:=rfl
theorem clsK4_2 (A B C D:Prop) (u:Blk A) (v:Blk B) (w:Blk C) (x:Blk D):clsK4 2 A B C D u v w x=A:=rfl
theorem clsK4_3 (A B C D:Prop) (u:Blk A) (v:Blk B) (w:Blk C) (x:Blk D):clsK4 3 A B C D u v w x=B:=rfl
def syDSK (P:Program) (S:Sums) (R:Nat→Prop) (n:Nat) (ops:Array Oper) (base i:Nat) (o:Oper) (t:Env) (h:AH) (pend:List (Nat×AO)) (K:Env→AH→List (Nat×AO)→Prop):Prop :=
 clsK4 (clsOf P o.op)
  (bnd (wantedA ops t o) (fun b=>ifB (.bool b)
   (bnd (allocA P (opnd t) o.op) (fun x=>syPut n t o.dst (x.2 (base+i)) fun t'=>K t' h (pend++[(base+i,x.1)])) ⟨⟩)
   (syPut n t o.dst (.tup []) fun t'=>K t' h pend) ⟨⟩ ⟨⟩) ⟨⟩)
  (sy1 P S n ops o t (absorb pend h) fun t' h'=>(∀id,R id→h'.get id=h.get id)∧K t' h' [])
  (bnd (wantedA ops t o) (fun b=>ifB (.bool b) (syLow P R (opnd t) o.op h fun v=>syPut n t o.dst v fun t'=>K t' h pend) (syPut n t o.dst (.tup []) fun t'=>K t' h pend) ⟨⟩ ⟨⟩) ⟨⟩)
  (sy1 P S n ops o t h fun t' _=>K t' h pend) ⟨⟩ ⟨⟩ ⟨⟩ ⟨⟩
def syGoK (P:Program) (S:Sums) (R:Nat→Prop) (n:Nat) (ops:Array Oper) (base:Nat):List Oper→Nat→Env→AH→List (Nat×AO)→(Env→AH→Prop)→Prop
 | [],_,t,h,pend,K=>K t (absorb pend h)
 | o::r,i,t,h,pend,K=>syDSK P S R n ops base i o t h pend fun t' h' pend'=>syGoK P S R n ops base r (i+1) t' h' pend' K
structure StepOK (P:Program) (R:Nat→Prop) (n:Nat) (ops:Array Oper) (o:Oper) (t:Env) (h:AH) (t':Env) (h':AH):Prop where
 keep:∀id,R id→h'.get id=h.get id
 low:clsOf P o.op=1→∀(Rc:Rec) g,(∀id,R id→g.get id=h.get id)→∃t2,evOp1 P Rc n ops o (restr t (o.looksAt ops) .nil) g=some (t2,g)∧∀d,o.dst=some d→∃a b,t2.get d=some a∧t'.get d=some b∧sameAV 20 a b=true
theorem putA_some {n:Nat} {t t':Env} {dst:Option Tmp} {v:AV} (hp:putA n t dst v=some t'):∀d,dst=some d→t'.get d=some v:=by
 intro d hd
 subst hd
 simp only [putA] at hp
 split at hp
 ·cases hp;rw [Tr.get_set,if_pos rfl]
 ·cases hp
theorem low_step {R:Nat→Prop} {n:Nat} {ops:Array Oper} {o:Oper} {t t':Env} {h:AH} {v:AV} (hs:sameAV 20 v v=true) (hp:putA n t o.dst v=some t')
  (hev:∀(Rc:Rec) g,(∀id,R id→g.get id=h.get id)→evOp1 P Rc n ops o t g=some (t',g)):StepOK P R n ops o t h t' h:=by
 refine ⟨fun _ _=>rfl,fun _ Rc g hg=>?_⟩
 obtain ⟨t1,h1,h2⟩:=evOp1_draw (hev Rc g hg)
 refine ⟨t1,h1,fun d hd=>⟨v,v,?_,putA_some hp d hd,hs⟩⟩
 have h3:=congrArg (fun e=>Tr.get e d) h2
 have h4:t'.get d=some v:=putA_some hp d hd
 simp only [backA,hd,Tr.get_set,if_true] at h3
 rw [h3];exact h4
theorem syO_of_val {E:Operand→AV} {o:Oper} {h:AH} {v:AV} {K:AV→AH→Prop} (hc:clsOf P o.op=1) (he:evOper P E o h=some (.val v h)) (hk:K v h):syO P S E o.op h K:=by
 obtain ⟨dst,op,ty,pos,after,guard⟩:=o
 cases op <;> simp only [clsOf] at hc <;> (first | (exact absurd hc (by decide)) | skip)
 case load=>obtain ⟨u,h1,h2⟩:=val?_spec he;cases h2;exact ⟨_,h1,hk⟩
 case lookup=>obtain ⟨u,h1,h2⟩:=val?_spec he;cases h2;exact ⟨_,h1,hk⟩
 case binOp=>obtain ⟨u,h1,h2⟩:=val?_spec he;cases h2;exact ⟨_,h1,hk⟩
 case slice=>obtain ⟨u,h1,h2⟩:=val?_spec he;cases h2;exact ⟨_,h1,hk⟩
 case convert=>exact ⟨_,he,hk⟩
 case call c =>
  obtain ⟨callee,args,tys⟩:=c
  cases callee with
  | builtin b=>exact ⟨_,he,hk⟩
  | invoke r nm=>simp at hc
  | value f=>simp at hc
theorem sy1_of {n:Nat} {ops:Array Oper} {o:Oper} {t:Env} {h:AH} {b:Bool} {K:Env→AH→Prop} (hw:wantedA ops t o=some b) (ht:b=true→syO P S (opnd t) o.op h fun v h'=>syPut n t o.dst v fun t'=>K t' h') (hf:b=false→syPut n t o.dst (.tup []) fun t'=>K t' h):sy1 P S n ops o t h K:=by
 unfold sy1
 split
 ·rename_i hg
  have:b=true:=by
   unfold wantedA at hw
   rw [hg] at hw
   cases hw;rfl
  exact ht this
 ·exact ⟨b,hw,b,rfl,ht,hf⟩
theorem syDSK_step {R:Nat→Prop} {n:Nat} {ops:Array Oper} {base i:Nat} {o:Oper} {t:Env} {h:AH} {pend:List (Nat×AO)} {K:Env→AH→List (Nat×AO)→Prop} (hw:syDSK P S R n ops base i o t h pend K) :
  syDS P S n ops base i o t h pend fun t' h' pend'=>StepOK P R n ops o t h t' h'∧K t' h' pend':=by
 unfold syDSK clsK4 at hw
 unfold syDS clsK
 split at hw
 ·rename_i hc
  rw [hc]
  obtain ⟨b,h1,tt,h2,h3,h4⟩:=hw
  have hst:∀t',StepOK P R n ops o t h t' h:=fun t'=>⟨fun _ _=>rfl,fun hh=>by rw [hc] at hh;cases hh⟩
  exact ⟨b,h1,tt,h2,fun e=>bnd_mono (fun x=>syPut_mono fun t' hk=>⟨hst t',hk⟩) (h3 e),fun e=>syPut_mono (fun t' hk=>⟨hst t',hk⟩) (h4 e)⟩
 ·rename_i hc
  rw [hc]
  exact sy1_mono (fun t' h' hk=>⟨⟨hk.1,fun hh=>by rw [hc] at hh;cases hh⟩,hk.2⟩) hw
 ·rename_i hc
  rw [hc]
  obtain ⟨b,h1,h2⟩:=hw
  have hwant:∀(Rc:Rec) (g:AH) (v:AV) (t':Env),b=true→evOper P (opnd t) o g=some (.val v g)→putA n t o.dst v=some t'→evOp1 P Rc n ops o t g=some (t',g):=fun Rc g v t' hb he hp=>by
   subst hb
   rw [evOp1_eq,h1]
   simp only [he,stepR,hp,Option.map_some]
  have hskip:∀(Rc:Rec) (g:AH) (t':Env),b=false→putA n t o.dst (.tup [])=some t'→evOp1 P Rc n ops o t g=some (t',g):=fun Rc g t' hb hp=>by
   subst hb
   rw [evOp1_eq,h1]
   simp only [hp,Option.map_some]
  rcases ifB_bool h2 with ⟨hb,h3⟩ | ⟨hb,h3⟩
  ·obtain ⟨v,hlow,hs,hk⟩:=syLow_ok hc h3
   obtain ⟨t',hp,hk'⟩:=syPut_sound hk
   have hstep:StepOK P R n ops o t h t' h:=low_step hs hp fun Rc g hg=>hwant Rc g v t' hb (hlow g hg) hp
   subst hb
   have hput:syPut n t o.dst v fun t2=>StepOK P R n ops o t h t2 h∧K t2 h pend:=by
    have:∀t2,putA n t o.dst v=some t2→StepOK P R n ops o t h t2 h:=fun t2 h2=>by rw [hp] at h2;cases h2;exact hstep
    unfold syPut at hk ⊢
    unfold putA at this
    split
    ·rename_i hd;rw [hd] at hk this;exact ⟨this _ rfl,hk⟩
    ·rename_i d hd;rw [hd] at hk this;exact ⟨hk.1,this _ (if_pos hk.1),hk.2⟩
   have hev:=hlow h fun _ _=>rfl
   have hO:=syO_of_val (S:=S) (K:=fun u h'=>syPut n t o.dst u fun t2=>StepOK P R n ops o t h t2 h∧K t2 h pend) hc hev hput
   exact sy1_of h1 (fun _=>hO) (fun hf=>by cases hf)
  ·obtain ⟨t',hp,hk'⟩:=syPut_sound h3
   have hstep:StepOK P R n ops o t h t' h:=low_step (v:=.tup []) rfl hp fun Rc g hg=>hskip Rc g t' hb hp
   subst hb
   have hput:syPut n t o.dst (.tup []) fun t2=>StepOK P R n ops o t h t2 h∧K t2 h pend:=by
    have:∀t2,putA n t o.dst (.tup [])=some t2→StepOK P R n ops o t h t2 h:=fun t2 h2=>by rw [hp] at h2;cases h2;exact hstep
    unfold syPut at h3 ⊢
    unfold putA at this
    split
    ·rename_i hd;rw [hd] at h3 this;exact ⟨this _ rfl,h3⟩
    ·rename_i d hd;rw [hd] at h3 this;exact ⟨h3.1,this _ (if_pos h3.1),h3.2⟩
   exact sy1_of (K:=fun t2 _=>StepOK P R n ops o t h t2 h∧K t2 h pend) h1 (fun hf=>by cases hf) (fun _=>hput)
 ·rename_i n2 n3 n1
  have hst:∀t',StepOK P R n ops o t h t' h:=fun t'=>⟨fun _ _=>rfl,fun hh=>absurd hh n1⟩
  have hres:sy1 P S n ops o t h fun t' _=>StepOK P R n ops o t h t' h∧K t' h pend:=sy1_mono (fun t' h' hk=>⟨hst t',hk⟩) hw
  split
  ·rename_i hc;exact absurd hc n2
  ·rename_i hc;exact absurd hc n3
  ·exact hres
theorem syDS_mono {n:Nat} {ops:Array Oper} {base i:Nat} {o:Oper} {t:Env} {h:AH} {pend:List (Nat×AO)} {A B:Env→AH→List (Nat×AO)→Prop} (hab:∀t' h' p',A t' h' p'→B t' h' p') (hw:syDS P S n ops base i o t h pend A):syDS P S n ops base i o t h pend B:=by
 unfold syDS clsK at hw ⊢
 split at hw
 ·obtain ⟨b,h1,tt,h2,h3,h4⟩:=hw
  exact ⟨b,h1,tt,h2,fun e=>bnd_mono (fun x=>syPut_mono fun t' hk=>hab _ _ _ hk) (h3 e),fun e=>syPut_mono (fun t' hk=>hab _ _ _ hk) (h4 e)⟩
 ·exact sy1_mono (fun t' h' hk=>hab _ _ _ hk) hw
 ·exact sy1_mono (fun t' h' hk=>hab _ _ _ hk) hw
def SS (P:Program) (R:Nat→Prop) (n:Nat) (ops:Array Oper) (ss:List DS):Prop :=
 ∀j o s s',ops[j]? = some o→ss[j]? = some s→ss[j+1]? = some s'→StepOK P R n ops o s.t s.h s'.t s'.h
theorem syGoK_go {R:Nat→Prop} {n:Nat} {ops:Array Oper} {base:Nat}:∀ {l:List Oper} {i:Nat} {t:Env} {h:AH} {pend:List (Nat×AO)} {acc:List DS} {K:Env→AH→Prop},(∃pre,ops.toList=pre++l∧pre.length=i)→acc.length=i →
  SS P R n ops (acc++[({ t:=t,h:=h,pend:=pend }:DS)])→syGoK P S R n ops base l i t h pend K →
  syGo P S n ops base l i t h pend acc fun ss t' h'=>(SS P R n ops ss∧ss.length=ops.size+1)∧K t' h'
 | [],i,t,h,pend,acc,K,⟨pre,hp,hl⟩,ha,hs,hw=>by
  refine ⟨⟨hs,?_⟩,hw⟩
  have:ops.size=i:=by rw [←Array.length_toList,hp];simpa using hl
  simp [ha,this]
 | o::r,i,t,h,pend,acc,K,⟨pre,hp,hl⟩,ha,hs,hw=>by
  refine syDS_mono (fun t' h' pend' hk=>?_) (syDSK_step hw)
  refine syGoK_go (l:=r) ⟨pre++[o],by rw [hp];simp,by simp [hl]⟩ (by simp [ha]) ?_ hk.2
  intro j oj s s' hoj hsj hsj'
  by_cases hj:j+1<acc.length+1
  ·refine hs j oj s s' hoj ?_ ?_
   ·rw [List.getElem?_append_left (by simp;omega)] at hsj;exact hsj
   ·rw [List.getElem?_append_left (by simp;omega)] at hsj';exact hsj'
  ·have hjl:j+1<((acc++[({ t:=t,h:=h,pend:=pend }:DS)])++[({ t:=t',h:=h',pend:=pend' }:DS)]).length:=(List.getElem?_eq_some_iff.1 hsj').1
   simp at hjl
   have hje:j=acc.length:=by omega
   subst hje
   have h1:s={ t:=t,h:=h,pend:=pend }:=by
    rw [List.getElem?_append_left (by simp),List.getElem?_append_right (Nat.le_refl _)] at hsj
    simpa using hsj.symm
   have h2:s'={ t:=t',h:=h',pend:=pend' }:=by
    rw [List.getElem?_append_right (by simp)] at hsj'
    simpa using hsj'.symm
   have h3:oj=o:=by
    rw [←Array.getElem?_toList,hp,ha,←hl,List.getElem?_append_right (Nat.le_refl _)] at hoj
    simpa using hoj.symm
   subst h1;subst h2;subst h3
   exact hk.1
theorem SS.chain {R:Nat→Prop} {n:Nat} {ops:Array Oper} {ss:List DS} (hs:SS P R n ops ss) (hl:ss.length=ops.size+1):∀(b a:Nat),a≤b→b≤ops.size→∀sa sb,ss[a]? = some sa→ss[b]? = some sb→∀id,R id→sb.h.get id=sa.h.get id
 | 0,a,hab,_,sa,sb,h1,h2,id,hr=>by
  obtain rfl:a=0:=by omega
  rw [h1] at h2;cases h2;rfl
 | b+1,a,hab,hb,sa,sb,h1,h2,id,hr=>by
  by_cases he:a=b+1
  ·subst he;rw [h1] at h2;cases h2;rfl
  ·have h3:ss[b]? = some ss[b]:=List.getElem?_eq_getElem (by omega)
   have h4:ops[b]? = some ops[b]:=Array.getElem?_eq_getElem (by omega)
   rw [(hs b _ _ _ h4 h3 h2).keep id hr]
   exact hs.chain hl b a (by omega) (by omega) sa _ h1 h3 id hr
def GoodP (P:Program) (ops:Array Oper) (p:Nat×Nat):Prop:=p.1<p.2∧∃oj oi,ops[p.1]? = some oj∧ops[p.2]? = some oi∧((clsOf P oi.op=1∧clsOf P oj.op=3)∨(clsOf P oi.op=3∧clsOf P oj.op=1))
theorem pairsAt_good {o:Oper} {m i:Nat}:∀(l:List Oper) (j0:Nat) (p:Nat×Nat),p∈pairsAt P o m i j0 l→∃j q,p=(j0+j,i)∧l[j]? = some q∧((clsOf P o.op=1∧clsOf P q.op=3)∨(clsOf P o.op=3∧clsOf P q.op=1))
 | [],j0,p,hp=>by simp [pairsAt] at hp
 | q::l,j0,p,hp=>by
  have tail:p∈pairsAt P o m i (j0+1) l→∃j q',p=(j0+j,i)∧(q::l)[j]? = some q'∧((clsOf P o.op=1∧clsOf P q'.op=3)∨(clsOf P o.op=3∧clsOf P q'.op=1)):=fun h=>by
   obtain ⟨j,q',h1,h2,h3⟩:=pairsAt_good l (j0+1) p h
   exact ⟨j+1,q',by rw [h1];congr 1;omega,by simpa using h2,h3⟩
  simp only [pairsAt] at hp
  split at hp
  ·rename_i hc
   rcases List.mem_cons.1 hp with rfl | hp
   ·refine ⟨0,q,rfl,rfl,?_⟩
    simp only [Bool.and_eq_true,Bool.or_eq_true,nat_beq_dec,decide_eq_true_eq] at hc
    exact hc.2
   ·exact tail hp
  ·exact tail hp
theorem statGo_good {ops:Array Oper}:∀(l:List Oper) (i:Nat) (prev:List Oper) (ms:List Nat) (acc prs:List (Nat×Nat)),prev.length=i→ops.toList=prev++l→(∀p,p∈acc→GoodP P ops p)→statGo P ops l i prev ms acc=some prs→∀p,p∈prs→GoodP P ops p
 | [],i,prev,ms,acc,prs,_,_,ha,hs,p,hp=>by simp only [statGo,Option.some.injEq] at hs;subst hs;exact ha p hp
 | o::r,i,prev,ms,acc,prs,hl,ho,ha,hs,p,hp=>by
  simp only [statGo] at hs
  split at hs
  ·cases hs
  ·rename_i m _
   split at hs
   ·refine statGo_good r (i+1) (prev++[o]) _ _ prs (by simp [hl]) (by rw [ho];simp) (fun q hq=>?_) hs p hp
    rcases List.mem_append.1 hq with hq | hq
    ·exact ha q hq
    ·obtain ⟨j,oj,h1,h2,h3⟩:=pairsAt_good prev 0 q hq
     have hj:j<prev.length:=(List.getElem?_eq_some_iff.1 h2).1
     rw [Nat.zero_add] at h1
     subst h1
     refine ⟨by show j<i;omega,oj,o,?_,?_,h3⟩
     ·show ops[j]? = some oj
      rw [←Array.getElem?_toList,ho,List.getElem?_append_left hj];exact h2
     ·show ops[i]? = some o
      rw [←Array.getElem?_toList,ho,←hl,List.getElem?_append_right (Nat.le_refl _)];simp
   ·cases hs
theorem sameAt_low {R:Nat→Prop} {Rc:Rec} {n i:Nat} {ops:Array Oper} {o:Oper} {t t':Env} {h h' g:AH} (ho:ops[i]? = some o) (hst:StepOK P R n ops o t h t' h') (hc:clsOf P o.op=1) (hg:∀id,R id→g.get id=h.get id):sameAt P Rc n ops i t t' g=true:=by
 obtain ⟨t2,h1,h2⟩:=hst.low hc Rc g hg
 unfold sameAt
 rw [ho]
 simp only [h1]
 cases hd:o.dst with
 | none=>rfl
 | some d =>
  obtain ⟨a,b,h3,h4,h5⟩:=h2 d hd
  simp only [h3,h4]
  exact h5
theorem sameAll_good {R:Nat→Prop} {Rc:Rec} {n:Nat} {ops:Array Oper} {ss:List DS} (hs:SS P R n ops ss) (hl:ss.length=ops.size+1):∀(prs:List (Nat×Nat)),(∀p,p∈prs→GoodP P ops p)→sameAll P Rc n ops ss prs=true
 | [],_=>rfl
 | (j,i)::r,hg=>by
  obtain ⟨hji,oj,oi,hoj,hoi,hcl⟩:=hg (j,i) (List.mem_cons_self ..)
  simp only at hji hoj hoi
  have hi:i<ops.size:=(Array.getElem?_eq_some_iff.1 hoi).1
  have g1:ss[i]? = some ss[i]:=List.getElem?_eq_getElem (by omega)
  have g2:ss[i+1]? = some ss[i+1]:=List.getElem?_eq_getElem (by omega)
  have g3:ss[j]? = some ss[j]:=List.getElem?_eq_getElem (by omega)
  have g4:ss[j+1]? = some ss[j+1]:=List.getElem?_eq_getElem (by omega)
  refine sameAll_one hoi g1 g2 g3 g4 ?_ (sameAll_good hs hl r fun p hp=>hg p (List.mem_cons_of_mem _ hp))
  rcases hcl with ⟨c1,c2⟩ | ⟨c1,c2⟩
  ·rw [if_pos (by rw [c1];rfl)]
   exact sameAt_low hoi (hs i _ _ _ hoi g1 g2) c1 fun id hr=>(hs.chain hl i j (by omega) (by omega) _ _ g3 g1 id hr).symm
  ·rw [if_neg (by rw [c1];decide)]
   exact sameAt_low hoj (hs j _ _ _ hoj g3 g4) c2 fun id hr=>hs.chain hl (i+1) j (by omega) (by omega) _ _ g3 g2 id hr
theorem syGo_mono {n:Nat} {ops:Array Oper} {base:Nat} {A B:List DS→Env→AH→Prop} (hab:∀ss t h,A ss t h→B ss t h):∀ {l:List Oper} {i:Nat} {t:Env} {h:AH} {pend:List (Nat×AO)} {acc:List DS},syGo P S n ops base l i t h pend acc A→syGo P S n ops base l i t h pend acc B
 | [],_,_,_,_,_,hw=>hab _ _ _ hw
 | o::r,i,t,h,pend,acc,hw=>syDS_mono (fun _ _ _ hk=>syGo_mono hab hk) hw
theorem syDraw.keep {n:Nat} {l:List Oper} {t:Env} {h:AH} {K:Env→AH→Prop} (R:Nat→Prop) (hf:P.follows .mixedOrders=true) (hs:(statGo P l.toArray l 0 [] [] []).isSome=true)
  (hw:syGoK P S R n l.toArray h.nx l 0 t { tr:=h.tr,nx:=h.nx+l.length } [] K):syDraw P S n l.toArray t h K ⟨⟩ ⟨⟩ ⟨⟩ ⟨⟩:=by
 obtain ⟨prs,hp⟩:=Option.isSome_iff_exists.1 hs
 refine syDraw.go prs hf hp ?_
 have h1:=syGoK_go (P:=P) (S:=S) (R:=R) (ops:=l.toArray) (l:=l) (i:=0) (acc:=[]) ⟨[],by simp,rfl⟩ rfl (fun j o s s' _ _ h2=>by simp at h2) hw
 refine syGo_mono (fun ss t' h' hk=>⟨?_,hk.2⟩) h1
 exact sameAll_good hk.1.1 hk.1.2 prs (statGo_good l 0 [] [] [] prs rfl (by simp) (fun p hp=>by simp at hp) hp)
/-! ### Rules -/
theorem syGoK_nil (R:Nat→Prop) (n:Nat) (ops:Array Oper) (base i:Nat) (t:Env) (h:AH) (pend:List (Nat×AO)) (K:Env→AH→Prop):syGoK P S R n ops base [] i t h pend K=K t (absorb pend h):=propext Iff.rfl
theorem syGoK_cons (R:Nat→Prop) (n:Nat) (ops:Array Oper) (base i:Nat) (o:Oper) (r:List Oper) (t:Env) (h:AH) (pend:List (Nat×AO)) (K:Env→AH→Prop) :
  syGoK P S R n ops base (o::r) i t h pend K=syDSK P S R n ops base i o t h pend fun t' h' pend'=>syGoK P S R n ops base r (i+1) t' h' pend' K:=rfl
theorem syDSK_none (R:Nat→Prop) (n:Nat) (ops:Array Oper) (base i:Nat) (dst:Option Tmp) (op:Op) (ty:TypeId) (pos:String) (after:Array Edge) (t:Env) (h:AH) (pend:List (Nat×AO)) (K:Env→AH→List (Nat×AO)→Prop) :
  syDSK P S R n ops base i { dst,op,type:=ty,pos,after,guard:=none } t h pend K=clsK4 (clsOf P op)
   (bnd (allocA P (opnd t) op) (fun x=>syPut n t dst (x.2 (base+i)) fun t'=>K t' h (pend++[(base+i,x.1)])) ⟨⟩)
   (syO P S (opnd t) op (absorb pend h) fun v h'=>syPut n t dst v fun t'=>(∀id,R id→h'.get id=h.get id)∧K t' h' [])
   (syLow P R (opnd t) op h fun v=>syPut n t dst v fun t'=>K t' h pend)
   (syO P S (opnd t) op h fun v _=>syPut n t dst v fun t'=>K t' h pend) ⟨⟩ ⟨⟩ ⟨⟩ ⟨⟩:=by
 have h1:∀(c:Nat) (A A' B C C' D:Prop),A=A'→C=C'→clsK4 c A B C D ⟨⟩ ⟨⟩ ⟨⟩ ⟨⟩=clsK4 c A' B C' D ⟨⟩ ⟨⟩ ⟨⟩ ⟨⟩:=by
  intro c A A' B C C' D e1 e2
  subst e1;subst e2
  rfl
 refine h1 _ _ _ _ _ _ _ ?_ ?_
 ·show bnd (some true) _ _=_
  rw [bnd_some,ifB_true]
 ·show bnd (some true) _ _=_
  rw [bnd_some,ifB_true]
theorem syDSK_some (R:Nat→Prop) (n:Nat) (ops:Array Oper) (base i:Nat) (dst:Option Tmp) (op:Op) (ty:TypeId) (pos:String) (after:Array Edge) (g:Nat×Bool) (t:Env) (h:AH) (pend:List (Nat×AO)) (K:Env→AH→List (Nat×AO)→Prop) :
  syDSK P S R n ops base i { dst,op,type:=ty,pos,after,guard:=some g } t h pend K=bnd (wantedA ops t { dst,op:=.move (.tmp 0),type:=ty,pos,after,guard:=some g }) (fun b=>ifB (.bool b)
   (clsK4 (clsOf P op)
    (bnd (allocA P (opnd t) op) (fun x=>syPut n t dst (x.2 (base+i)) fun t'=>K t' h (pend++[(base+i,x.1)])) ⟨⟩)
    (syO P S (opnd t) op (absorb pend h) fun v h'=>syPut n t dst v fun t'=>(∀id,R id→h'.get id=h.get id)∧K t' h' [])
    (syLow P R (opnd t) op h fun v=>syPut n t dst v fun t'=>K t' h pend)
    (syO P S (opnd t) op h fun v _=>syPut n t dst v fun t'=>K t' h pend) ⟨⟩ ⟨⟩ ⟨⟩ ⟨⟩)
   (clsK4 (clsOf P op)
    (syPut n t dst (.tup []) fun t'=>K t' h pend)
    (syPut n t dst (.tup []) fun t'=>(∀id,R id→(absorb pend h).get id=h.get id)∧K t' (absorb pend h) [])
    (syPut n t dst (.tup []) fun t'=>K t' h pend)
    (syPut n t dst (.tup []) fun t'=>K t' h pend) ⟨⟩ ⟨⟩ ⟨⟩ ⟨⟩) ⟨⟩ ⟨⟩) ⟨⟩:=by
 unfold syDSK
 show clsK4 (clsOf P op) _ _ _ _ _ _ _ _=_
 generalize clsOf P op=c
 rcases c with _ | _ | _ | _ | c <;> rfl
theorem syLow_load (R:Nat→Prop) (E:Operand→AV) (t:TypeId) (a:Operand) (h:AH) (K:AV→Prop):syLow P R E (.load t a) h K=bnd (evLoad P h t (E a)) (fun v=>ptrR R (E a)∧sameAV 20 v v=true∧K v) ⟨⟩:=rfl
theorem syLow_lookup (R:Nat→Prop) (E:Operand→AV) (t:TypeId) (m k:Operand) (ok:Bool) (h:AH) (K:AV→Prop):syLow P R E (.lookup t m k ok) h K=∃v,(∀g,(∀id,R id→g.get id=h.get id)→evLookup P g t (E m) (E k) ok=some v)∧sameAV 20 v v=true∧K v:=rfl
theorem syLow_call (R:Nat→Prop) (E:Operand→AV) (c:Call) (h:AH) (K:AV→Prop):syLow P R E (.call c) h K=bnd (valOf (evCall P h E c)) (fun v=>(∀g,valOf (evCall P g E c)=some v)∧sameAV 20 v v=true∧K v) ⟨⟩:=rfl
theorem syLow_bin (R:Nat→Prop) (E:Operand→AV) (op:BinOp) (t:TypeId) (x y:Operand) (z:TypeId) (h:AH) (K:AV→Prop):syLow P R E (.binOp op t x y z) h K=bnd (valOf (val? h (binA P h op t (E x) (E y)))) (fun v=>(∀g,valOf (val? g (binA P g op t (E x) (E y)))=some v)∧sameAV 20 v v=true∧K v) ⟨⟩:=rfl
theorem syLow_conv (R:Nat→Prop) (E:Operand→AV) (s d:TypeId) (x:Operand) (h:AH) (K:AV→Prop):syLow P R E (.convert s d x) h K=bnd (valOf (evConvert P h s d (E x))) (fun v=>(∀g,(∀id,R id→g.get id=h.get id)→valOf (evConvert P g s d (E x))=some v)∧sameAV 20 v v=true∧K v) ⟨⟩:=rfl
end
attribute [go_sem ↓] syGoK_nil syGoK_cons syDSK_none syDSK_some syLow_load syLow_lookup syLow_call syLow_bin syLow_conv
attribute [go_sem] clsK4_0 clsK4_1 clsK4_2 clsK4_3 ptrR_ptr mapR_map mapR_nil valOf_val
section
variable {P : Program} {S : Sums}
def syGoL (P:Program) (S:Sums) (R:Nat→Prop) (n:Nat) (ops:Array Oper) (base:Nat):List Oper→Nat→Env→AH→List (Nat×AO)→(Env→AH→Prop)→Prop
 | [],_,t,h,pend,K=>K t (absorb pend h)
 | [o],i,t,h,pend,K=>syDS P S n ops base i o t h pend fun t' h' pend'=>K t' (absorb pend' h')
 | o::o2::r,i,t,h,pend,K=>syDSK P S R n ops base i o t h pend fun t' h' pend'=>syGoL P S R n ops base (o2::r) (i+1) t' h' pend' K
theorem syGoL_one (R:Nat→Prop) (n:Nat) (ops:Array Oper) (base:Nat) (o:Oper) (i:Nat) (t:Env) (h:AH) (pend:List (Nat×AO)) (K:Env→AH→Prop):syGoL P S R n ops base [o] i t h pend K=syDS P S n ops base i o t h pend fun t' h' pend'=>K t' (absorb pend' h'):=rfl
theorem syGoL_cons (R:Nat→Prop) (n:Nat) (ops:Array Oper) (base:Nat) (o o2:Oper) (r:List Oper) (i:Nat) (t:Env) (h:AH) (pend:List (Nat×AO)) (K:Env→AH→Prop):syGoL P S R n ops base (o::o2::r) i t h pend K=syDSK P S R n ops base i o t h pend fun t' h' pend'=>syGoL P S R n ops base (o2::r) (i+1) t' h' pend' K:=rfl
end
attribute [go_sem ↓] syGoL_one syGoL_cons
section
variable {P : Program}
end
section
variable {P : Program}
end
section
variable {P : Program}
abbrev Ent:=List (List Nat×AV)
def enS (E:Ent):List (AV×AV):=E.map fun e=>(.str e.1,e.2)
def valS {α:Type}:List (List Nat×α)→List Nat→Option α
 | [],_=>none
 | e::r,k=>if e.1=k then some e.2 else valS r k
def fndS {α:Type}:List (List Nat×α)→List Nat→Nat→Option (Nat×α)
 | [],_,_=>none
 | e::r,k,i=>if e.1=k then some (i,e.2) else fndS r k (i+1)
def updS {α:Type}:List (List Nat×α)→List Nat→α→List (List Nat×α)
 | [],k,v=>[(k,v)]
 | e::r,k,v=>if e.1=k then (k,v)::r else e::updS r k v
def delS {α:Type}:List (List Nat×α)→List Nat→List (List Nat×α)
 | [],_=>[]
 | e::r,k=>if e.1=k then r else e::delS r k
def onceS {α:Type}:List (List Nat×α)→Prop
 | []=>True
 | e::r=>valS r e.1=none∧onceS r
theorem fndS_val {α:Type}:∀(E:List (List Nat×α)) (k:List Nat) (i:Nat),(fndS E k i).map (·.2)=valS E k
 | [],_,_=>rfl
 | e::r,k,i=>by
  unfold fndS valS
  by_cases h:e.1=k
  ·rw [if_pos h,if_pos h];rfl
  ·rw [if_neg h,if_neg h];exact fndS_val r k (i+1)
theorem valS_upd {α:Type}:∀(E:List (List Nat×α)) (k j:List Nat) (v:α),valS (updS E k v) j=if j=k then some v else valS E j
 | [],k,j,v=>by
  unfold updS valS valS
  by_cases h:j=k
  ·simp [h]
  ·simp [h,Ne.symm h]
 | e::r,k,j,v=>by
  unfold updS
  by_cases h:e.1=k
  ·rw [if_pos h]
   unfold valS
   by_cases hj:j=k
   ·simp [hj]
   ·have:¬k=j:=fun hh=>hj hh.symm
    have h2:¬e.1=j:=fun hh=>hj (hh.symm.trans h)
    rw [if_neg this,if_neg hj,if_neg h2]
  ·rw [if_neg h]
   unfold valS
   rw [valS_upd r k j v]
   by_cases hj:j=k
   ·subst hj;simp [h]
   ·rw [if_neg hj,if_neg hj]
theorem valS_del {α:Type}:∀(E:List (List Nat×α)),onceS E→∀(k j:List Nat),valS (delS E k) j=if j=k then none else valS E j
 | [],_,k,j=>by
  unfold delS valS
  simp
 | e::r,ho,k,j=>by
  obtain ⟨h1,h2⟩:=ho
  unfold delS
  by_cases h:e.1=k
  ·rw [if_pos h]
   by_cases hj:j=k
   ·rw [if_pos hj,hj,←h,h1]
   ·rw [if_neg hj]
    have h3:¬e.1=j:=fun hh=>hj (hh.symm.trans h)
    conv=>rhs;unfold valS
    rw [if_neg h3]
  ·rw [if_neg h]
   unfold valS
   rw [valS_del r h2 k j]
   by_cases hj:j=k
   ·subst hj;simp [h]
   ·rw [if_neg hj,if_neg hj]
theorem onceS_upd {α:Type}:∀(E:List (List Nat×α)) (k:List Nat) (v:α),onceS E→onceS (updS E k v)
 | [],k,v,_=>⟨rfl,trivial⟩
 | e::r,k,v,⟨h1,h2⟩=>by
  unfold updS
  by_cases h:e.1=k
  ·rw [if_pos h]
   exact ⟨by rw [←h];exact h1,h2⟩
  ·rw [if_neg h]
   exact ⟨by rw [valS_upd,if_neg h];exact h1,onceS_upd r k v h2⟩
theorem onceS_del {α:Type}:∀(E:List (List Nat×α)) (k:List Nat),onceS E→onceS (delS E k)
 | [],k,_=>trivial
 | e::r,k,⟨h1,h2⟩=>by
  unfold delS
  by_cases h:e.1=k
  ·rw [if_pos h];exact h2
  ·rw [if_neg h]
   refine ⟨?_,onceS_del r k h2⟩
   rw [valS_del r h2]
   split
   ·rfl
   ·exact h1
theorem eqSs {kt:TypeId} (hk:P.underlying kt=some .string) (h:AH) (a b:List Nat):eqA P h 12 kt (.str a) (.str b)=some (decide (a=b)):=by
 show eqA P h (11+1) kt _ _=_
 unfold eqA
 rw [hk]
 simp only [eqL_eq]
theorem find_enS {kt:TypeId} (hk:P.underlying kt=some .string) (h:AH) (k:List Nat):∀(E:Ent) (i:Nat),findA P h kt (.str k) (enS E) i=some ((fndS E k i).map fun x=>(x.1,.str k,x.2))
 | [],_=>rfl
 | e::r,i=>by
  show findA P h kt (.str k) ((.str e.1,e.2)::enS r) i=_
  unfold findA fndS
  simp only [eqSs hk,Option.bind_eq_bind,Option.bind_some]
  by_cases hx:e.1=k
  ·rw [if_pos hx,if_pos (by simp [hx]),hx];rfl
  ·rw [if_neg hx,if_neg (by simpa using fun hh=>hx hh.symm)]
   exact find_enS hk h k r (i+1)
theorem fndS_some:∀(E:Ent) (k:List Nat) (i p:Nat) (w v:AV),fndS E k i=some (p,w)→i≤p∧setNth (.str k,v) (enS E) (p-i)=enS (updS E k v)∧eraseNth (enS E) (p-i)=enS (delS E k)
 | [],_,_,_,_,_,h=>by cases h
 | e::r,k,i,p,w,v,h=>by
  unfold fndS at h
  by_cases hk:e.1=k
  ·rw [if_pos hk] at h
   cases h
   refine ⟨Nat.le_refl _,?_,?_⟩
   ·unfold updS
    rw [if_pos hk,Nat.sub_self]
    rfl
   ·unfold delS
    rw [if_pos hk,Nat.sub_self]
    rfl
  ·rw [if_neg hk] at h
   obtain ⟨h1,h2,h3⟩:=fndS_some r k (i+1) p w v h
   obtain ⟨q,hq⟩:∃q,p-i=q+1:=⟨p-i-1,by omega⟩
   have hq2:p-(i+1)=q:=by omega
   rw [hq]
   rw [hq2] at h2 h3
   refine ⟨by omega,?_,?_⟩
   ·unfold updS
    rw [if_neg hk]
    show (_::setNth (.str k,v) (enS r) q)=_::_
    rw [h2]
    rfl
   ·unfold delS
    rw [if_neg hk]
    show (_::eraseNth (enS r) q)=_::_
    rw [h3]
    rfl
theorem fndS_none:∀(E:Ent) (k:List Nat) (i:Nat) (v:AV),fndS E k i=none→enS E++[(.str k,v)]=enS (updS E k v)∧diffAll (.str k) (enS E)=true∧delS E k=E
 | [],_,_,_,_=>⟨rfl,rfl,rfl⟩
 | e::r,k,i,v,h=>by
  unfold fndS at h
  by_cases hk:e.1=k
  ·rw [if_pos hk] at h;cases h
  ·rw [if_neg hk] at h
   obtain ⟨h1,h2,h3⟩:=fndS_none r k (i+1) v h
   unfold updS delS
   rw [if_neg hk,if_neg hk]
   refine ⟨?_,?_,by rw [h3]⟩
   ·show _::(enS r++_)=_::_
    rw [h1];rfl
   ·show (diffSimple (.str e.1) (.str k)&&diffAll (.str k) (enS r))=true
    rw [h2]
    simp [diffSimple,diffScalar,eqL_eq,hk]
theorem chkS {kt:TypeId} (hk:P.underlying kt=some .string) (k:List Nat):checkA P 12 kt (.str k)=true:=by
 show checkA P (11+1) kt _=true
 unfold checkA
 rw [hk]
theorem lookS {t kt et:TypeId} (ht:P.underlying t=some (.map kt et)) (hk:P.underlying kt=some .string) {z:AV} (hz:(tzero P et).map toAV=some z) {h:AH} {m:Nat} {E:Ent} {bs:List Nat} {ck:Nat} (hm:h.get m=some (.map (enS E) bs ck)) (k:List Nat) :
  evLookup P h t (.map m) (.str k) false=some ((valS E k).getD z)∧evLookup P h t (.map m) (.str k) true=some (.tup [(valS E k).getD z,.bool (valS E k).isSome]):=by
 rw [←fndS_val E k 0]
 obtain ⟨y,hy,hy2⟩:∃y,tzero P et=some y∧toAV y=z:=by
  cases hh:tzero P et with
  | none=>rw [hh] at hz;cases hz
  | some y=>rw [hh] at hz;exact ⟨y,rfl,Option.some.inj hz⟩
 unfold evLookup
 simp only [ht,chkS hk,Bool.not_true,hm,Option.bind_eq_bind,Option.bind_some,find_enS hk]
 cases hf:fndS E k 0 with
 | none=>simp [lookRes,hy,hy2]
 | some x=>simp [lookRes]
theorem setS {t kt et:TypeId} (ht:P.underlying t=some (.map kt et)) (hk:P.underlying kt=some .string) {h:AH} {m:Nat} {E:Ent} {bs:List Nat} {ck:Nat} (hm:h.get m=some (.map (enS E) bs ck)) (k:List Nat) (v:AV) :
  ∃bs' ck',evMapUpdate P h t (.map m) (.str k) v=some (.skip (h.put m (.map (enS (updS E k v)) bs' ck'))):=by
 unfold evMapUpdate
 have hs:simpleA (.str k)=true:=rfl
 have hss:sameSimple (.str k) (.str k)=true:=by simp [sameSimple,sameScalar,eqL_eq]
 simp only [ht,chkS hk,hs,Bool.not_true,Bool.or_false,hm,Option.bind_eq_bind,Option.bind_some,find_enS hk]
 cases hf:fndS E k 0 with
 | none =>
  obtain ⟨h1,h2,_⟩:=fndS_none E k 0 v hf
  exact ⟨bs++[ck],ck+1,by simp [h1,h2]⟩
 | some x =>
  obtain ⟨p,w⟩:=x
  obtain ⟨h1,h2,_⟩:=fndS_some E k 0 p w v hf
  rw [Nat.sub_zero] at h2
  exact ⟨bs,ck,by simp [hs,hss,h2]⟩
theorem rmS {t kt et:TypeId} {ats:Array TypeId} (ha:ats[0]? = some t) (ht:P.underlying t=some (.map kt et)) (hk:P.underlying kt=some .string) {h:AH} {m:Nat} {E:Ent} {bs:List Nat} {ck:Nat} (hm:h.get m=some (.map (enS E) bs ck)) (k:List Nat) :
  ∃bs' h',evDelete P h ats (.map m) (.str k)=some (.val (.tup []) h')∧h'.nx=h.nx∧h'.get m=some (.map (enS (delS E k)) bs' ck)∧∀j,j≠m→h'.get j=h.get j:=by
 unfold evDelete
 simp only [ha,ht,chkS hk,Bool.not_true,hm,Option.bind_eq_bind,Option.bind_some,find_enS hk]
 cases hf:fndS E k 0 with
 | none =>
  obtain ⟨_,_,h3⟩:=fndS_none E k 0 .junk hf
  exact ⟨bs,h,by simp,rfl,by rw [h3];exact hm,fun _ _=>rfl⟩
 | some x =>
  obtain ⟨p,w⟩:=x
  obtain ⟨h1,_,h2⟩:=fndS_some E k 0 p w .junk hf
  rw [Nat.sub_zero] at h2
  exact ⟨bs.eraseIdx p,h.put m (.map (enS (delS E k)) (bs.eraseIdx p) ck),by simp [h2],rfl,AH.get_put_eq rfl,fun j hj=>AH.get_put_ne hj⟩
def mapS {α β:Type} (f:α→β) (E:List (List Nat×α)):List (List Nat×β):=E.map fun e=>(e.1,f e.2)
theorem mapS_val {α β:Type} (f:α→β):∀(E:List (List Nat×α)) (k:List Nat),valS (mapS f E) k=(valS E k).map f
 | [],_=>rfl
 | e::r,k=>by
  show valS ((e.1,f e.2)::mapS f r) k=_
  unfold valS
  by_cases h:e.1=k
  ·rw [if_pos h,if_pos h];rfl
  ·rw [if_neg h,if_neg h];exact mapS_val f r k
theorem mapS_upd {α β:Type} (f:α→β):∀(E:List (List Nat×α)) (k:List Nat) (v:α),updS (mapS f E) k (f v)=mapS f (updS E k v)
 | [],_,_=>rfl
 | e::r,k,v=>by
  show updS ((e.1,f e.2)::mapS f r) k (f v)=_
  unfold updS
  by_cases h:e.1=k
  ·rw [if_pos h,if_pos h];rfl
  ·rw [if_neg h,if_neg h,mapS_upd f r k v]
   try rfl
theorem mapS_del {α β:Type} (f:α→β):∀(E:List (List Nat×α)) (k:List Nat),delS (mapS f E) k=mapS f (delS E k)
 | [],_=>rfl
 | e::r,k=>by
  show delS ((e.1,f e.2)::mapS f r) k=_
  unfold delS
  by_cases h:e.1=k
  ·rw [if_pos h,if_pos h]
  ·rw [if_neg h,if_neg h,mapS_del f r k]
   rfl
theorem keysA_enS:∀(E:Ent),(∀e∈E,e.1.length≤1099511627776)→keysA (enS E)=some (E.map (·.1))
 | [],_=>rfl
 | e::r,h=>by
  show keysA ((.str e.1,e.2)::enS r)=_
  unfold keysA
  rw [keysA_enS r fun x hx=>h x (List.mem_cons_of_mem _ hx)]
  simp only
  rw [if_pos (h e (List.mem_cons_self ..))]
  rfl
end
abbrev Pth:=List Nat
structure Fil where
 b:List Nat
 s:List Nat
 st:Nat
inductive Nte where
 | mk (p:Pth) (i:Nat)
 | ren (a b:Pth)
 | rm (p:Pth)
abbrev Ixs:=List (Pth×Nat)
def doN:Nte→Ixs→Ixs
 | .mk p i,E=>updS E p i
 | .ren a b,E=>match valS E a with
  | some i=>delS (updS E b i) a
  | none=>E
 | .rm p,E=>delS E p
def doAll:List Nte→Ixs→Ixs
 | [],E=>E
 | n::r,E=>doAll r (doN n E)
structure TT where
 room:Int
 now:Ixs
 safe:Ixs
 notes:List Nte
 clock:Nat
 off:Bool
 fuse:Int
 files:List Fil
def newT (room:Int):TT:=⟨room,[],[],[],0,false,-1,[]⟩
def TT.fil (T:TT) (i:Nat):Fil:=(T.files[i]?).getD ⟨[],[],0⟩
def lenE (fs:List Fil):Ixs→Nat
 | []=>0
 | e::r=>((fs[e.2]?).getD ⟨[],[],0⟩).b.length+lenE fs r
def TT.used (T:TT):Nat:=lenE T.files T.now
def opT (T:TT) (ok:Bool):Nat×TT :=
 if ok=false then (2,T) else if T.off=true then (11,T) else if T.fuse=0 then (11,{ T with off:=true,fuse:=-1 }) else if 0<T.fuse then (0,{ T with fuse:=T.fuse-1 }) else (0,T)
def noteT (T:TT) (n:Nte):TT:={ T with now:=doN n T.now,notes:=T.notes++[n] }
def tickT (T:TT):TT:={ T with clock:=T.clock+1 }
def makeT (T:TT) (ok:Bool) (p:Pth):Nat×TT :=
 let r:=opT T ok
 if r.1≠0 then r else match valS r.2.now p with
  | some _=>(7,r.2)
  | none=>(0,noteT { r.2 with clock:=r.2.clock+1,files:=r.2.files++[⟨[],[],r.2.clock+1⟩] } (.mk p r.2.files.length))
def putT (T:TT) (ok:Bool) (p:Pth) (g:List Nat→List Nat):Nat×TT :=
 let r:=opT T ok
 if r.1≠0 then r else match valS r.2.now p with
  | none=>(6,r.2)
  | some i=>if T.room<(r.2.used:Int)-(r.2.fil i).b.length+(g (r.2.fil i).b).length then (10,r.2)
   else (0,{ r.2 with clock:=r.2.clock+1,files:=r.2.files.set i ⟨g (r.2.fil i).b,(r.2.fil i).s,r.2.clock+1⟩ })
def syncT (T:TT) (ok:Bool) (p:Pth):Nat×TT :=
 let r:=opT T ok
 if r.1≠0 then r else match valS r.2.now p with
  | none=>(6,r.2)
  | some i=>(0,{ r.2 with files:=r.2.files.set i ⟨(r.2.fil i).b,(r.2.fil i).b,(r.2.fil i).st⟩ })
def keepT (T:TT) (n:Nat):TT:={ T with safe:=doAll (T.notes.take n) T.safe,notes:=[] }
def syncPT (T:TT):Nat×TT :=
 let r:=opT T true
 if r.1≠0 then r else (0,keepT r.2 r.2.notes.length)
def renT (T:TT) (ok:Bool) (a b:Pth):Nat×TT :=
 let r:=opT T ok
 if r.1≠0 then r else match valS r.2.now a with
  | none=>(6,r.2)
  | some _=>if a=b then (0,r.2) else (0,noteT (tickT r.2) (.ren a b))
def rmT (T:TT) (ok:Bool) (p:Pth):Nat×TT :=
 let r:=opT T ok
 if r.1≠0 then r else match valS r.2.now p with
  | none=>(6,r.2)
  | some _=>(0,noteT (tickT r.2) (.rm p))
def readT (T:TT) (ok:Bool) (p:Pth):List Nat×Nat×TT :=
 let r:=opT T ok
 if r.1≠0 then ([],r) else match valS r.2.now p with
  | none=>([],6,r.2)
  | some i=>((r.2.fil i).b,0,r.2)
def statT (T:TT) (p:Pth):Nat×Nat×Bool:=match valS T.now p with
 | none=>(0,0,false)
 | some i=>((T.fil i).b.length,(T.fil i).st,true)
def leftF (f:Fil) (part:Int):List Nat :=
 if f.b.take f.s.length=f.s then f.b.take (f.s.length+(max 0 part).toNat%(f.b.length-f.s.length+1)) else f.s
def hd0:List Int→Int
 | []=>0
 | a::_=>a
def crash1 (was:Ixs) (T:TT) (s:Pth) (part:Int):TT:=match valS T.safe s with
 | none=>T
 | some i =>
  let b:=leftF (T.fil i) part
  if valS was s=some i∧b=(T.fil i).b then { T with now:=updS T.now s T.files.length,files:=T.files++[⟨b,b,(T.fil i).st⟩] }
  else { T with clock:=T.clock+1,now:=updS T.now s T.files.length,files:=T.files++[⟨b,b,T.clock+1⟩] }
def crashL (was:Ixs):TT→List Pth→List Int→TT
 | T,[],_=>T
 | T,s::r,ps=>crashL was (crash1 was T s (hd0 ps)) r ps.tail
def crashT (T:TT) (keep:Int) (parts:List Int):TT :=
 let T1:=keepT T ((max 0 keep).toNat%(T.notes.length+1))
 let T2:=crashL T.now { T1 with clock:=T1.clock+1,now:=[] } (sortS (T1.safe.map (·.1))) parts
 {T2 with safe:=T2.now,off:=false,fuse:=-1 }
/-! ### What is right of every tree -/
def NteOK (n:Nat):Nte→Prop
 | .mk p i=>i<n∧p.length≤69
 | .ren a b=>b.length≤69
 | .rm _=>True
def IxOK (n:Nat) (E:Ixs):Prop:=onceS E∧∀k i,valS E k=some i→i<n∧k.length≤69
def FilOK (f:Fil):Prop:=(∀b∈f.b,b<256)∧(∀b∈f.s,b<256)∧f.b.length≤67108864∧f.s.length≤67108864
theorem FilOK.zero (n:Nat):FilOK ⟨[],[],n⟩:=⟨fun b hb=>by simp at hb,fun b hb=>by simp at hb,Nat.zero_le _,Nat.zero_le _⟩
structure Wf (T:TT):Prop where
 now:IxOK T.files.length T.now
 safe:IxOK T.files.length T.safe
 notes:∀n∈T.notes,NteOK T.files.length n
 fuse:-1≤T.fuse∧T.fuse≤9223372036854775807
 room:0≤T.room∧T.room≤67108864
 byt:∀f∈T.files,FilOK f
theorem IxOK.mono {n m:Nat} {E:Ixs} (h:IxOK n E) (hm:n≤m):IxOK m E:=⟨h.1,fun k i hk=>⟨Nat.lt_of_lt_of_le (h.2 k i hk).1 hm,(h.2 k i hk).2⟩⟩
theorem NteOK.mono {n m:Nat}:∀ {t:Nte},NteOK n t→n≤m→NteOK m t
 | .mk _ _,h,hm=>⟨Nat.lt_of_lt_of_le h.1 hm,h.2⟩
 | .ren _ _,h,_=>h
 | .rm _,_,_=>trivial
theorem IxOK.upd {n:Nat} {E:Ixs} (h:IxOK n E) (p:Pth) {i:Nat} (hi:i<n) (hp:p.length≤69):IxOK n (updS E p i):=by
 refine ⟨onceS_upd _ _ _ h.1,fun k j hk=>?_⟩
 rw [valS_upd] at hk
 split at hk
 ·rename_i hh
  cases hk;exact ⟨hi,by rw [hh];exact hp⟩
 ·exact h.2 k j hk
theorem IxOK.del {n:Nat} {E:Ixs} (h:IxOK n E) (p:Pth):IxOK n (delS E p):=by
 refine ⟨onceS_del _ _ h.1,fun k j hk=>?_⟩
 rw [valS_del _ h.1] at hk
 split at hk
 ·cases hk
 ·exact h.2 k j hk
theorem IxOK.nil (n:Nat):IxOK n []:=⟨trivial,fun k i h=>by cases h⟩
theorem IxOK.doN {n:Nat} {E:Ixs} (h:IxOK n E):∀ {t:Nte},NteOK n t→IxOK n (doN t E)
 | .mk p i,ht=>h.upd p ht.1 ht.2
 | .ren a b,ht=>by
  show IxOK n (match valS E a with | some i=>delS (updS E b i) a | none=>E)
  cases hv:valS E a with
  | none=>exact h
  | some i=>exact (h.upd b (h.2 a i hv).1 ht).del a
 | .rm p,_=>h.del p
theorem IxOK.doAll {n:Nat}:∀ {l:List Nte} {E:Ixs},IxOK n E→(∀t∈l,NteOK n t)→IxOK n (doAll l E)
 | [],_,h,_=>h
 | t::r,E,h,hl=>IxOK.doAll (l:=r) (h.doN (hl t (List.mem_cons_self ..))) fun x hx=>hl x (List.mem_cons_of_mem _ hx)
theorem Wf.new {room:Int} (h:0≤room∧room≤67108864):Wf (newT room) :=
 ⟨IxOK.nil _,IxOK.nil _,fun n hn=>by simp [newT] at hn,⟨Int.le_refl _,show (-1:Int)≤9223372036854775807 by decide⟩,h,fun f hf=>by simp [newT] at hf⟩
theorem opT_eq (T:TT) (ok:Bool):(opT T ok).2.room=T.room∧(opT T ok).2.now=T.now∧(opT T ok).2.safe=T.safe∧(opT T ok).2.notes=T.notes∧(opT T ok).2.clock=T.clock∧(opT T ok).2.files=T.files:=by
 unfold opT
 repeat' split
 all_goals exact ⟨rfl,rfl,rfl,rfl,rfl,rfl⟩
theorem Wf.op {T:TT} (h:Wf T) (ok:Bool):Wf (opT T ok).2:=by
 obtain ⟨h1,h2,h3,h4,h5,h6⟩:=h
 unfold opT
 repeat' split
 all_goals first
  | exact ⟨h1,h2,h3,h4,h5,h6⟩
  | exact ⟨h1,h2,h3,⟨by decide,by decide⟩,h5,h6⟩
  | (refine ⟨h1,h2,h3,⟨?_,?_⟩,h5,h6⟩ <;> simp only <;> omega)
theorem Wf.tick {T:TT} (h:Wf T):Wf (tickT T):=⟨h.1,h.2,h.3,h.4,h.5,h.6⟩
theorem Wf.note {T:TT} (h:Wf T) {n:Nte} (hn:NteOK T.files.length n):Wf (noteT T n):=by
 refine ⟨h.1.doN hn,h.2,fun t ht=>?_,h.4,h.5,h.6⟩
 rcases List.mem_append.1 ht with h1 | h1
 ·exact h.3 t h1
 ·rw [List.mem_singleton.1 h1];exact hn
theorem Wf.grow {T:TT} (h:Wf T) (f:Fil) (hf:FilOK f) (c:Nat):Wf { T with clock:=c,files:=T.files++[f] }:=by
 have hle:T.files.length≤(T.files++[f]).length:=by simp
 refine ⟨h.1.mono hle,h.2.mono hle,fun t ht=>(h.3 t ht).mono hle,h.4,h.5,fun x hx=>?_⟩
 rcases List.mem_append.1 hx with h1 | h1
 ·exact h.6 x h1
 ·rw [List.mem_singleton.1 h1];exact hf
theorem opT_ok {T:TT} {ok:Bool} (h:¬(opT T ok).1≠0):ok=true:=by
 cases ok
 ·exact absurd (show (opT T false).1≠0 by simp [opT]) h
 ·rfl
theorem fil_ok {T:TT} (h:Wf T) (i:Nat):FilOK (T.fil i):=by
 unfold TT.fil
 cases hf:T.files[i]? with
 | none=>exact FilOK.zero _
 | some f=>exact h.6 f (List.mem_iff_getElem?.2 ⟨i,hf⟩)
theorem Wf.set {T:TT} (h:Wf T) (i:Nat) {f:Fil} (hf:FilOK f) (c:Nat):Wf { T with clock:=c,files:=T.files.set i f }:=by
 have e:(T.files.set i f).length=T.files.length:=by simp
 refine ⟨by rw [e];exact h.1,by rw [e];exact h.2,by rw [e];exact h.3,h.4,h.5,fun x hx=>?_⟩
 rcases List.mem_or_eq_of_mem_set hx with h1 | rfl
 ·exact h.6 x h1
 ·exact hf
theorem lenE_ge {fs:List Fil}:∀ {E:Ixs} {p:Pth} {i:Nat},valS E p=some i→((fs[i]?).getD ⟨[],[],0⟩).b.length≤lenE fs E
 | e::r,p,i,h=>by
  unfold valS at h
  unfold lenE
  by_cases hk:e.1=p
  ·rw [if_pos hk] at h
   cases h
   omega
  ·rw [if_neg hk] at h
   have:=lenE_ge (fs:=fs) h
   omega
theorem lenE_le {fs:List Fil} {n:Nat} (hn:∀f∈fs,f.b.length≤n):∀(E:Ixs),lenE fs E≤E.length*n
 | []=>by simp [lenE]
 | e::r=>by
  have ih:=lenE_le hn r
  have h1:((fs[e.2]?).getD ⟨[],[],0⟩).b.length≤n:=by
   cases hf:fs[e.2]? with
   | none=>exact Nat.zero_le _
   | some f=>exact hn f (List.mem_iff_getElem?.2 ⟨_,hf⟩)
  unfold lenE
  rw [List.length_cons,Nat.succ_mul]
  omega
theorem Wf.put {T:TT} (h:Wf T) (ok:Bool) (p:Pth) {g:List Nat→List Nat} (hg:∀l,(∀b∈l,b<256)→∀b∈g l,b<256):Wf (putT T ok p g).2:=by
 have hw:=h.op ok
 have hr:=(opT_eq T ok).1
 unfold putT
 dsimp only
 split
 ·exact hw
 ·split
  ·exact hw
  ·rename_i i hv
   split
   ·exact hw
   ·rename_i hu
    have hge:((opT T ok).2.fil i).b.length≤(opT T ok).2.used:=lenE_ge hv
    have hl:=h.room
    obtain ⟨q1,q2,q3,q4⟩:=fil_ok hw i
    refine Wf.set hw _ ?_ _
    refine ⟨hg _ q1,q2,?_,q4⟩
    show (g ((opT T ok).2.fil i).b).length≤67108864
    omega
theorem Wf.sync {T:TT} (h:Wf T) (ok:Bool) (p:Pth):Wf (syncT T ok p).2:=by
 unfold syncT
 dsimp only
 split
 ·exact h.op ok
 ·split
  ·exact h.op ok
  ·rename_i i hv
   obtain ⟨q1,q2,q3,q4⟩:=fil_ok (h.op ok) i
   refine Wf.set (h.op ok) _ ?_ _
   exact ⟨q1,q1,q3,q3⟩
theorem Wf.keep {T:TT} (h:Wf T) (n:Nat):Wf (keepT T n) :=
 ⟨h.1,h.2.doAll fun t ht=>h.3 t (List.mem_of_mem_take ht),fun t ht=>by simp [keepT] at ht,h.4,h.5,h.6⟩
theorem leftF_ok {f:Fil} (h:FilOK f) (part:Int) (n:Nat):FilOK ⟨leftF f part,leftF f part,n⟩:=by
 have key:(∀b∈leftF f part,b<256)∧(leftF f part).length≤67108864:=by
  unfold leftF
  split
  ·refine ⟨fun b hb=>h.1 b (List.mem_of_mem_take hb),?_⟩
   have:=h.2.2.1
   rw [List.length_take]
   omega
  ·exact ⟨h.2.1,h.2.2.2⟩
 exact ⟨key.1,key.1,key.2,key.2⟩
namespace Wal
def told (l:List Nat):Nat:=four (l.getD 0 0) (l.getD 1 0) (l.getD 2 0) (l.getD 3 0)
def sumGo:List Nat→Nat→Nat→Nat×Nat
 | [],x,y=>(x,y)
 | c::r,x,y=>sumGo r ((x+c)%65521) ((y+(x+c)%65521)%65521)
def sum (l:List Nat):Nat:=(sumGo l 1 0).2*65536+(sumGo l 1 0).1
def unfE (l:List Nat):Nat :=
 if l.length<4 then 5 else if 1048576<told l then 4 else if l.length<told l+8 then 5 else if told (l.drop (told l+4))=sum (l.take (told l+4)) then 0 else 4
def piece (l:List Nat):List Nat:=(l.take (told l+4)).drop 4
def scn:Nat→List Nat→List (List Nat)×Nat×Nat
 | 0,_=>([],0,0)
 | f+1,l=>if unfE l=0 then (piece l::(scn f (l.drop (told l+8))).1,told l+8+(scn f (l.drop (told l+8))).2.1,(scn f (l.drop (told l+8))).2.2) else if unfE l=5 then ([],0,0) else ([],0,4)
def fourB (n:Nat):List Nat:=[n/16777216%256,n/65536%256,n/256%256,n%256]
def frm (s:List Nat):List Nat:=fourB s.length++s++fourB (sum (fourB s.length++s))
def frs:List (List Nat)→List Nat
 | []=>[]
 | s::r=>frm s++frs r
theorem sumGo_lt:∀(l:List Nat) (x y:Nat),x<65521→y<65521→(sumGo l x y).1<65521∧(sumGo l x y).2<65521
 | [],x,y,hx,hy=>⟨hx,hy⟩
 | c::r,x,y,hx,hy=>sumGo_lt r _ _ (Nat.mod_lt _ (by decide)) (Nat.mod_lt _ (by decide))
theorem sum_lt (l:List Nat):sum l<4294967296:=by
 have:=sumGo_lt l 1 0 (by decide) (by decide)
 unfold sum
 omega
theorem told_four {n:Nat} (hn:n<4294967296) (r:List Nat):told (fourB n++r)=n:=by
 show four (n/16777216%256) (n/65536%256) (n/256%256) (n%256)=n
 unfold four
 omega
theorem frm_len (s:List Nat):(frm s).length=s.length+8:=by simp [frm,fourB]
theorem told_frm {s:List Nat} (hs:s.length≤1048576) (r:List Nat):told (frm s++r)=s.length:=by
 unfold frm
 rw [List.append_assoc,List.append_assoc]
 exact told_four (by omega) _
theorem frm_take {s:List Nat} (r:List Nat):(frm s++r).take (s.length+4)=fourB s.length++s:=by
 unfold frm
 rw [List.append_assoc,List.take_append_of_le_length (by simp [fourB] <;> omega),List.take_of_length_le (by simp [fourB] <;> omega)]
theorem frm_drop {s:List Nat} (r:List Nat):(frm s++r).drop (s.length+4)=fourB (sum (fourB s.length++s))++r:=by
 unfold frm
 rw [List.append_assoc,List.drop_append_of_le_length (by simp [fourB] <;> omega),List.drop_of_length_le (by simp [fourB] <;> omega)]
 rfl
theorem unf_frm {s:List Nat} (hs:s.length≤1048576) (r:List Nat):unfE (frm s++r)=0∧piece (frm s++r)=s∧(frm s++r).drop (told (frm s++r)+8)=r:=by
 have ht:=told_frm hs r
 have hl:(frm s++r).length=s.length+8+r.length:=by rw [List.length_append,frm_len]
 refine ⟨?_,?_,?_⟩
 ·unfold unfE
  rw [ht,if_neg (by omega),if_neg (by omega),if_neg (by omega),frm_drop,frm_take,told_four (sum_lt _),if_pos rfl]
 ·unfold piece
  rw [ht,frm_take]
  rfl
 ·rw [ht,List.drop_append_of_le_length (by rw [frm_len];exact Nat.le_refl _),List.drop_of_length_le (by rw [frm_len];exact Nat.le_refl _)]
  rfl
theorem scn_frs:∀(l:List (List Nat)) (f:Nat),(∀s∈l,s.length≤1048576)→l.length<f→scn f (frs l)=(l,(frs l).length,0)
 | [],f,_,hf=>by
  obtain ⟨g,rfl⟩:∃g,f=g+1:=⟨f-1,by simp at hf;omega⟩
  rfl
 | s::r,f,hs,hf=>by
  obtain ⟨g,rfl⟩:∃g,f=g+1:=⟨f-1,by simp at hf;omega⟩
  obtain ⟨h1,h2,h3⟩:=unf_frm (hs s (List.mem_cons_self ..)) (frs r)
  have ht:=told_frm (hs s (List.mem_cons_self ..)) (frs r)
  have ih:=scn_frs r g (fun x hx=>hs x (List.mem_cons_of_mem _ hx)) (by simp at hf;omega)
  show scn (g+1) (frm s++frs r)=_
  unfold scn
  rw [if_pos h1,h2,h3,ih,ht]
  have:(frs (s::r)).length=s.length+8+(frs r).length:=by
   show (frm s++frs r).length=_
   rw [List.length_append,frm_len]
  rw [this]
theorem unf_cut {s:List Nat} (hs:s.length≤1048576) (r:List Nat) {n:Nat} (hn:n<s.length+8):unfE ((frm s++r).take n)=5:=by
 have hl:((frm s++r).take n).length=n:=by rw [List.length_take,List.length_append,frm_len];omega
 unfold unfE
 by_cases h4:n<4
 ·rw [if_pos (by omega)]
 ·rw [if_neg (by omega)]
  have ht:told ((frm s++r).take n)=s.length:=by
   obtain ⟨m,rfl⟩:∃m,n=m+4:=⟨n-4,by omega⟩
   have:(frm s++r).take (m+4)=fourB s.length++((s++fourB (sum (fourB s.length++s))++r).take m):=by
    have e1:frm s++r=fourB s.length++(s++fourB (sum (fourB s.length++s))++r):=by simp [frm]
    rw [e1]
    generalize s++fourB (sum (fourB s.length++s))++r=y
    rw [List.take_append,show m+4-(fourB s.length).length=m from by simp [fourB],List.take_of_length_le (by simp [fourB])]
   rw [this]
   exact told_four (by omega) _
  rw [ht,if_neg (by omega),if_pos (by omega)]
theorem scn_take:∀(l:List (List Nat)) (f n:Nat),(∀s∈l,s.length≤1048576)→l.length<f→∃k,k≤l.length∧scn f ((frs l).take n)=(l.take k,(frs (l.take k)).length,0)
 | [],f,n,_,hf=>by
  obtain ⟨g,rfl⟩:∃g,f=g+1:=⟨f-1,by simp at hf;omega⟩
  refine ⟨0,Nat.le_refl _,?_⟩
  show scn (g+1) (([]:List Nat).take n)=_
  rw [List.take_nil]
  rfl
 | s::r,f,n,hs,hf=>by
  obtain ⟨g,rfl⟩:∃g,f=g+1:=⟨f-1,by simp at hf;omega⟩
  have hs0:=hs s (List.mem_cons_self ..)
  show ∃k,k≤r.length+1∧scn (g+1) ((frm s++frs r).take n)=_
  by_cases hn:n<s.length+8
  ·refine ⟨0,Nat.zero_le _,?_⟩
   unfold scn
   rw [unf_cut hs0 _ hn]
   rfl
  ·obtain ⟨k,hk,ih⟩:=scn_take r g (n-(s.length+8)) (fun x hx=>hs x (List.mem_cons_of_mem _ hx)) (by simp at hf;omega)
   refine ⟨k+1,by omega,?_⟩
   have e:(frm s++frs r).take n=frm s++(frs r).take (n-(s.length+8)):=by
    rw [List.take_append,frm_len,List.take_of_length_le (by rw [frm_len];omega)]
   rw [e]
   obtain ⟨h1,h2,h3⟩:=unf_frm hs0 ((frs r).take (n-(s.length+8)))
   have ht:=told_frm hs0 ((frs r).take (n-(s.length+8)))
   unfold scn
   rw [if_pos h1,h2,h3,ih,ht,List.take_succ_cons]
   have:(frs (s::r.take k)).length=s.length+8+(frs (r.take k)).length:=by
    show (frm s++frs (r.take k)).length=_
    rw [List.length_append,frm_len]
   rw [this]
theorem frs_app:∀(a b:List (List Nat)),frs (a++b)=frs a++frs b
 | [],b=>rfl
 | s::r,b=>by
  show frm s++frs (r++b)=(frm s++frs r)++frs b
  rw [frs_app r b,List.append_assoc]
theorem frm_byt {s:List Nat} (hs:∀b∈s,b<256):∀b∈frm s,b<256:=by
 have h4:∀n,∀b∈fourB n,b<256:=fun n b hb=>by
  simp only [fourB,List.mem_cons,List.not_mem_nil,or_false] at hb
  omega
 intro b hb
 unfold frm at hb
 rcases List.mem_append.1 hb with h | h
 ·rcases List.mem_append.1 h with h | h
  ·exact h4 _ b h
  ·exact hs b h
 ·exact h4 _ b h
end Wal
namespace Wal
def stepsT:List (TT→Nat×TT)→TT→Nat×TT
 | [],T=>(0,T)
 | f::r,T=>if (f T).1≠0 then f T else stepsT r (f T).2
def remT (q:Pth) (T:TT):Nat×TT:=if (statT T q).2.2=true then rmT T true q else (0,T)
def tailT (p q:Pth) (b:List Nat):List (TT→Nat×TT):=[fun T=>makeT T true q,fun T=>putT T true q fun _=>b,fun T=>syncT T true q,fun T=>renT T true q p,syncPT]
def asideT (p q:Pth) (b:List Nat) (T:TT):Nat×TT:=stepsT (remT q::tailT p q b) T
structure Lg where
 e:Nat
 size:Nat
 n:Nat
def openT (p q:Pth) (T:TT):Option (Lg×List (List Nat))×Nat×TT :=
 if (statT T p).2.2=false then
  if (asideT p q [] T).1≠0 then (none,asideT p q [] T) else (some (⟨0,0,0⟩,[]),asideT p q [] T)
 else
  let r:=readT T true p
  if r.2.1≠0 then (none,r.2) else
  let s:=scn (r.1.length+1) r.1
  if s.2.2≠0 then (none,s.2.2,r.2.2) else
  let r2:=if s.2.1<r.1.length then asideT p q (r.1.take s.2.1) r.2.2 else (0,r.2.2)
  if r2.1≠0 then (none,r2) else
  let r3:=remT q r2.2
  if r3.1≠0 then (none,r3) else (some (⟨0,s.2.1,s.1.length⟩,s.1),r3)
def appendL (p:Pth) (L:Lg) (T:TT) (s:List Nat):Nat×Lg×TT :=
 if L.e≠0 then (L.e,L,T) else
 let r:=putT T true p fun o=>o++frm s
 if r.1≠0 then (r.1,{ L with e:=r.1 },r.2) else (0,⟨0,L.size+(frm s).length,L.n+1⟩,r.2)
def syncL (p:Pth) (L:Lg) (T:TT):Nat×Lg×TT :=
 if L.e≠0 then (L.e,L,T) else ((syncT T true p).1,{ L with e:=(syncT T true p).1 },(syncT T true p).2)
def asideL (p q:Pth) (L:Lg) (T:TT) (s:List (List Nat)):Nat×Lg×TT :=
 if L.e≠0 then (L.e,L,T) else
 let r:=asideT p q (frs s) T
 if r.1≠0 then (r.1,{ L with e:=r.1 },r.2) else (0,⟨0,(frs s).length,s.length⟩,r.2)
/-! ### Steps, with a fuse -/
def nf (φ:Int):Int:=if 0<φ then φ-1 else φ
theorem nf0:nf (-1)=-1:=rfl
section
variable {R : Int} {N Sf : Ixs} {nt : List Nte} {c : Nat} {φ : Int} {fs : List Fil} {p q : Pth}
theorem opS (h:φ≠0):opT ⟨R,N,Sf,nt,c,false,φ,fs⟩ true=(0,⟨R,N,Sf,nt,c,false,nf φ,fs⟩):=by
 by_cases h2:0<φ
 ·simp [opT,nf,h,h2]
 ·simp [opT,nf,h,h2]
theorem opX:opT ⟨R,N,Sf,nt,c,false,0,fs⟩ true=(11,⟨R,N,Sf,nt,c,true,-1,fs⟩):=by simp [opT]
theorem makeS (h:φ≠0) (hv:valS N q=none):makeT ⟨R,N,Sf,nt,c,false,φ,fs⟩ true q=(0,⟨R,updS N q fs.length,Sf,nt++[.mk q fs.length],c+1,false,nf φ,fs++[⟨[],[],c+1⟩]⟩):=by
 simp [makeT,opS h,hv,noteT,doN]
theorem putS (h:φ≠0) {i:Nat} {f:Fil} (hv:valS N q=some i) (hf:fs[i]? = some f) {g:List Nat→List Nat} (hg:((lenE fs N:Nat):Int)-f.b.length+(g f.b).length≤R) :
  putT ⟨R,N,Sf,nt,c,false,φ,fs⟩ true q g=(0,⟨R,N,Sf,nt,c+1,false,nf φ,fs.set i ⟨g f.b,f.s,c+1⟩⟩):=by
 have:¬R<((lenE fs N:Nat):Int)-f.b.length+(g f.b).length:=by omega
 simp [putT,opS h,hv,TT.used,TT.fil,hf,this]
theorem syncS (h:φ≠0) {i:Nat} {f:Fil} (hv:valS N q=some i) (hf:fs[i]? = some f) :
  syncT ⟨R,N,Sf,nt,c,false,φ,fs⟩ true q=(0,⟨R,N,Sf,nt,c,false,nf φ,fs.set i ⟨f.b,f.b,f.st⟩⟩):=by
 simp [syncT,opS h,hv,TT.fil,hf]
theorem renS (h:φ≠0) {i:Nat} (hv:valS N q=some i) (hqp:¬q=p) :
  renT ⟨R,N,Sf,nt,c,false,φ,fs⟩ true q p=(0,⟨R,delS (updS N p i) q,Sf,nt++[.ren q p],c+1,false,nf φ,fs⟩):=by
 simp [renT,opS h,hv,hqp,noteT,doN,tickT]
theorem rmS1 (h:φ≠0) {i:Nat} (hv:valS N q=some i) :
  rmT ⟨R,N,Sf,nt,c,false,φ,fs⟩ true q=(0,⟨R,delS N q,Sf,nt++[.rm q],c+1,false,nf φ,fs⟩):=by
 simp [rmT,opS h,hv,noteT,doN,tickT]
theorem syncPS (h:φ≠0):syncPT ⟨R,N,Sf,nt,c,false,φ,fs⟩=(0,⟨R,N,doAll nt Sf,[],c,false,nf φ,fs⟩):=by
 simp [syncPT,opS h,keepT]
theorem readS (h:φ≠0) {i:Nat} {f:Fil} (hv:valS N q=some i) (hf:fs[i]? = some f) :
  readT ⟨R,N,Sf,nt,c,false,φ,fs⟩ true q=(f.b,0,⟨R,N,Sf,nt,c,false,nf φ,fs⟩):=by
 simp [readT,opS h,hv,TT.fil,hf]
theorem steps_ok {f:TT→Nat×TT} {r:List (TT→Nat×TT)} {T T':TT} (h:f T=(0,T')):stepsT (f::r) T=stepsT r T':=by
 simp [stepsT,h]
theorem steps_bad {f:TT→Nat×TT} {r:List (TT→Nat×TT)} {T T':TT} {n:Nat} (h:f T=(n,T')) (hn:n≠0):stepsT (f::r) T=(n,T'):=by
 simp [stepsT,h,hn]
def At (N:Ixs) (fs:List Fil) (p:Pth) (n:Nat):Prop:=(N=[]∧n=0)∨∃i f,N=[(p,i)]∧fs[i]? = some f∧f.b.length=n
theorem At.none {n:Nat} (h:At N fs p n) (hpq:¬p=q):valS N q=Option.none:=by
 rcases h with ⟨rfl,_⟩ | ⟨i,f,rfl,_⟩
 ·rfl
 ·simp [valS,hpq]
theorem At.upd {n:Nat} (h:At N fs p n) (hpq:¬p=q) {x:Fil} (hx:x.b=[]):valS (updS N q fs.length) q=some fs.length∧lenE (fs++[x]) (updS N q fs.length)=n∧delS (updS (updS N q fs.length) p fs.length) q=[(p,fs.length)]:=by
 have hqp:¬q=p:=fun hh=>hpq hh.symm
 rcases h with ⟨rfl,rfl⟩ | ⟨i,f,rfl,hf,rfl⟩
 ·simp [updS,valS,delS,lenE,hpq,hqp,hx]
 ·have hi:i<fs.length:=(List.getElem?_eq_some_iff.1 hf).1
  have:(fs++[x])[i]? = some f:=by rw [List.getElem?_append_left hi];exact hf
  simp [updS,valS,delS,lenE,hpq,hqp,hx,this]
theorem tail_ok {n:Nat} {b:List Nat} (hN:At N fs p n) (hpq:¬p=q) (hR:((n+b.length:Nat):Int)≤R) :
  stepsT (tailT p q b) ⟨R,N,Sf,nt,c,false,-1,fs⟩=(0,⟨R,[(p,fs.length)],doAll (nt++[.mk q fs.length]++[.ren q p]) Sf,[],c+1+1+1,false,-1,fs++[⟨b,b,c+1+1⟩]⟩):=by
 have hm:(-1:Int)≠0:=by decide
 have hqp:¬q=p:=fun hh=>hpq hh.symm
 obtain ⟨u1,u2,u3⟩:=hN.upd hpq (x:=⟨[],[],c+1⟩) rfl
 have hl:∀x:Fil,(fs++[x])[fs.length]? = some x:=fun x=>by simp
 have hs:∀x y:Fil,(fs++[x]).set fs.length y=fs++[y]:=fun x y=>by simp
 unfold tailT
 rw [steps_ok (makeS hm (hN.none hpq)),nf0,steps_ok (putS hm u1 (hl _) (by rw [u2];simp;omega)),nf0,hs,steps_ok (syncS hm u1 (hl _)),nf0,hs,steps_ok (renS hm u1 hqp),nf0,u3,steps_ok (syncPS hm),nf0]
 rfl
theorem rem_ok {j:Nat} (hv:valS N q=some j):remT q ⟨R,N,Sf,nt,c,false,-1,fs⟩=(0,⟨R,delS N q,Sf,nt++[.rm q],c+1,false,-1,fs⟩):=by
 have:(statT ⟨R,N,Sf,nt,c,false,-1,fs⟩ q).2.2=true:=by simp [statT,hv]
 unfold remT
 rw [if_pos this,rmS1 (by decide) hv,nf0]
theorem rem_no {T:TT} (hv:valS T.now q=none):remT q T=(0,T):=by
 have:(statT T q).2.2=false:=by simp [statT,hv]
 unfold remT
 rw [if_neg (by rw [this];decide)]
end
def One (T:TT) (p:Pth) (R:Int) (x:List Nat):Prop:=T.room=R∧T.off=false∧T.fuse=-1∧∃i f,T.now=[(p,i)]∧T.files[i]? = some f∧f.b=x
def Two (T:TT) (p q:Pth) (R:Int) (x:List Nat):Prop:=T.room=R∧T.off=false∧T.fuse=-1∧∃i f,(T.now=[(p,i)]∨∃j,T.now=[(q,j),(p,i)])∧T.files[i]? = some f∧f.b=x
section
variable {p q : Pth} {R : Int} {T : TT} {x : List Nat}
theorem One.two (h:One T p R x):Two T p q R x:=by
 obtain ⟨h1,h2,h3,i,f,h4,h5,h6⟩:=h
 exact ⟨h1,h2,h3,i,f,.inl h4,h5,h6⟩
theorem Two.rem (h:Two T p q R x) (hpq:¬p=q):∃T',remT q T=(0,T')∧One T' p R x:=by
 have hqp:¬q=p:=fun hh=>hpq hh.symm
 obtain ⟨h1,h2,h3,i,f,h4,h5,h6⟩:=h
 rcases h4 with h4 | ⟨j,h4⟩
 ·exact ⟨T,rem_no (by rw [h4];simp [valS,hpq]),h1,h2,h3,i,f,h4,h5,h6⟩
 ·obtain ⟨room,now,safe,notes,clock,off,fuse,files⟩:=T
  dsimp only at h1 h2 h3 h4 h5
  subst h1 h2 h3 h4
  refine ⟨_,rem_ok (j:=j) (by simp [valS]),rfl,rfl,rfl,i,f,?_,h5,h6⟩
  simp [delS,hqp,hpq]
theorem One.tail (h:One T p R x) (hpq:¬p=q) {b:List Nat} (hR:((x.length+b.length:Nat):Int)≤R):∃T',stepsT (tailT p q b) T=(0,T')∧One T' p R b:=by
 obtain ⟨h1,h2,h3,i,f,h4,h5,h6⟩:=h
 obtain ⟨room,now,safe,notes,clock,off,fuse,files⟩:=T
 dsimp only at h1 h2 h3 h4 h5
 subst h1 h2 h3 h4 h6
 exact ⟨_,tail_ok (.inr ⟨i,f,rfl,h5,rfl⟩) hpq hR,rfl,rfl,rfl,files.length,⟨b,b,clock+1+1⟩,rfl,by simp,rfl⟩
theorem Two.aside (h:Two T p q R x) (hpq:¬p=q) {b:List Nat} (hR:((x.length+b.length:Nat):Int)≤R):∃T',asideT p q b T=(0,T')∧One T' p R b:=by
 obtain ⟨T1,e1,h1⟩:=h.rem hpq
 obtain ⟨T2,e2,h2⟩:=h1.tail hpq hR
 exact ⟨T2,(steps_ok e1).trans e2,h2⟩
theorem Two.open (h:Two T p q R x) (hpq:¬p=q) {s:List (List Nat)} (hs:scn (x.length+1) x=(s,(frs s).length,0)) (hx:x.take (frs s).length=frs s) (hR:((x.length+(frs s).length:Nat):Int)≤R) :
  ∃T',openT p q T=(some (⟨0,(frs s).length,s.length⟩,s),0,T')∧One T' p R (frs s):=by
 have hw:(statT T p).2.2=true∧readT T true p=(x,0,T):=by
  have hqp:¬q=p:=fun hh=>hpq hh.symm
  obtain ⟨h1,h2,h3,i,f,h4,h5,h6⟩:=h
  obtain ⟨room,now,safe,notes,clock,off,fuse,files⟩:=T
  dsimp only at h1 h2 h3 h4 h5
  subst h1 h2 h3 h6
  have hv:valS now p=some i:=by
   rcases h4 with rfl | ⟨j,rfl⟩
   ·simp [valS]
   ·simp [valS,hqp]
  exact ⟨by simp [statT,hv],by rw [readS (by decide) hv h5,nf0]⟩
 unfold openT
 rw [if_neg (by rw [hw.1];decide),hw.2]
 dsimp only
 rw [if_neg (by decide),hs]
 dsimp only
 rw [if_neg (by decide),hx]
 by_cases hl:(frs s).length<x.length
 ·rw [if_pos hl]
  obtain ⟨T2,e2,h2⟩:=h.aside hpq hR
  obtain ⟨T3,e3,h3⟩:=(h2.two (q:=q)).rem hpq
  rw [e2]
  dsimp only
  rw [if_neg (by decide),e3]
  exact ⟨T3,rfl,h3⟩
 ·rw [if_neg hl]
  obtain ⟨T3,e3,h3⟩:=h.rem hpq
  dsimp only
  rw [if_neg (by decide),e3]
  have:x=frs s:=by rw [←hx,List.take_of_length_le (by omega)]
  exact ⟨T3,rfl,this▸h3⟩
theorem frs_ge:∀l:List (List Nat),l.length≤(frs l).length
 | []=>Nat.le_refl _
 | s::r=>by
  have:=frs_ge r
  show r.length+1≤(frm s++frs r).length
  rw [List.length_append,frm_len]
  omega
theorem One.open {s:List (List Nat)} (h:One T p R (frs s)) (hpq:¬p=q) (hs:∀x∈s,x.length≤1048576) (hR:(((frs s).length+(frs s).length:Nat):Int)≤R) :
  ∃T',openT p q T=(some (⟨0,(frs s).length,s.length⟩,s),0,T')∧One T' p R (frs s) :=
 (h.two (q:=q)).open hpq (scn_frs s _ hs (by have:=frs_ge s;omega)) List.take_length hR
theorem open_new (hpq:¬p=q) (hR:0≤R):openT p q (newT R)=(some (⟨0,0,0⟩,[]),0,⟨R,[(p,0)],[(p,0)],[],3,false,-1,[⟨[],[],2⟩]⟩):=by
 have hqp:¬q=p:=fun hh=>hpq hh.symm
 have e:asideT p q [] (newT R)=(0,⟨R,[(p,0)],[(p,0)],[],3,false,-1,[⟨[],[],2⟩]⟩):=by
  refine (steps_ok (rem_no (T:=newT R) rfl)).trans ?_
  refine (tail_ok (n:=0) (.inl ⟨rfl,rfl⟩) hpq (by simpa using hR)).trans ?_
  simp [doAll,doN,updS,valS,delS,hpq,hqp]
 unfold openT
 rw [if_pos (by rfl),e]
 rfl
end
end Wal
namespace Wal
/-! ### What is read from the beginning of frames -/
theorem unfE_ok {l:List Nat} (h:unfE l=0):told l+8≤l.length:=by
 unfold unfE at h
 split at h
 ·cases h
 ·split at h
  ·cases h
  ·split at h
   ·cases h
   ·omega
theorem scn_fuel:∀(f g:Nat) (l:List Nat),l.length<f→l.length<g→scn f l=scn g l
 | 0,g,l,hf,hg=>by omega
 | f+1,g,l,hf,hg=>by
  obtain ⟨g,rfl⟩:∃g',g=g'+1:=⟨g-1,by omega⟩
  unfold scn
  by_cases h:unfE l=0
  ·have hk:=unfE_ok h
   rw [if_pos h,if_pos h,scn_fuel f g (l.drop (told l+8)) (by simp;omega) (by simp;omega)]
  ·rw [if_neg h,if_neg h]
theorem scn_whole:∀(f:Nat) (l:List Nat),(scn f l).2.1≤l.length
 | 0,l=>Nat.zero_le _
 | f+1,l=>by
  unfold scn
  by_cases h:unfE l=0
  ·have hk:=unfE_ok h
   have ih:=scn_whole f (l.drop (told l+8))
   rw [if_pos h]
   simp only [List.length_drop] at ih ⊢
   omega
  ·rw [if_neg h]
   split <;> exact Nat.zero_le _
theorem scn_succ (f:Nat) (l:List Nat):scn (f+1) l=if unfE l=0 then (piece l::(scn f (l.drop (told l+8))).1,told l+8+(scn f (l.drop (told l+8))).2.1,(scn f (l.drop (told l+8))).2.2) else if unfE l=5 then ([],0,0) else ([],0,4):=rfl
theorem scn_app:∀(a:List (List Nat)) (f:Nat) (y:List Nat),(∀s∈a,s.length≤1048576)→scn (a.length+f) (frs a++y)=(a++(scn f y).1,(frs a).length+(scn f y).2.1,(scn f y).2.2)
 | [],f,y,_=>by simp [frs]
 | s::r,f,y,hs=>by
  have ih:=scn_app r f y (fun x hx=>hs x (List.mem_cons_of_mem _ hx))
  have hs0:=hs s (List.mem_cons_self ..)
  have e:(s::r).length+f=(r.length+f)+1:=by simp;omega
  have e2:frs (s::r)++y=frm s++(frs r++y):=by simp [frs]
  rw [e,e2]
  obtain ⟨h1,h2,h3⟩:=unf_frm hs0 (frs r++y)
  have ht:=told_frm hs0 (frs r++y)
  rw [scn_succ,if_pos h1,h2,h3,ih,ht]
  have:(frs (s::r)).length=s.length+8+(frs r).length:=by
   show (frm s++frs r).length=_
   rw [List.length_append,frm_len]
  rw [this]
  dsimp only
  rw [Nat.add_assoc (s.length+8) (frs r).length,List.cons_append]
theorem tot_cut {a d:List (List Nat)} (m:Nat) (ha:∀s∈a,s.length≤1048576) (hd:∀s∈d,s.length≤1048576):∃k,k≤d.length ∧
  scn ((frs a++(frs d).take m).length+1) (frs a++(frs d).take m)=(a++d.take k,(frs (a++d.take k)).length,0)∧(frs a++(frs d).take m).take (frs (a++d.take k)).length=frs (a++d.take k):=by
 obtain ⟨k,hk,e⟩:=scn_take d ((frs a++(frs d).take m).length+d.length+1) m hd (by omega)
 have e2:=scn_app a ((frs a++(frs d).take m).length+d.length+1) ((frs d).take m) ha
 have hw:=scn_whole ((frs a++(frs d).take m).length+d.length+1) ((frs d).take m)
 rw [e] at e2 hw
 dsimp only at e2 hw
 refine ⟨k,hk,?_,?_⟩
 ·rw [scn_fuel _ (a.length+((frs a++(frs d).take m).length+d.length+1)) _ (by omega) (by omega),e2,frs_app,List.length_append]
 ·have hd2:frs d=frs (d.take k)++frs (d.drop k):=by rw [←frs_app,List.take_append_drop]
  rw [frs_app,List.length_append,List.take_append,List.take_of_length_le (by omega),Nat.add_sub_cancel_left,List.take_take]
  congr 1
  have hm:(frs (d.take k)).length≤m:=by
   rw [List.length_take] at hw
   omega
  rw [Nat.min_eq_left hm]
  conv=>lhs;rw [hd2]
  rw [List.take_append_of_le_length (Nat.le_refl _),List.take_length]
/-! ### A crash -/
theorem left_ext (x y:List Nat) (st:Nat) (part:Int):∃m,leftF ⟨x++y,x,st⟩ part=x++y.take m:=by
 unfold leftF
 rw [if_pos (by simp)]
 refine ⟨(max 0 part).toNat%((x++y).length-x.length+1),?_⟩
 show (x++y).take (x.length+_)=_
 rw [List.take_append,List.take_of_length_le (by omega),Nat.add_sub_cancel_left]
theorem left_all (y:List Nat) (st:Nat) (part:Int):leftF ⟨y,y,st⟩ part=y:=by
 unfold leftF
 simp [Nat.mod_one]
theorem crash1_eq (was:Ixs) (T:TT) (s:Pth) (part:Int) {i:Nat} (hv:valS T.safe s=some i) :
  ∃c st,crash1 was T s part={ T with clock:=c,now:=updS T.now s T.files.length,files:=T.files++[⟨leftF (T.fil i) part,leftF (T.fil i) part,st⟩] }:=by
 unfold crash1
 rw [hv]
 dsimp only
 split
 ·exact ⟨T.clock,(T.fil i).st,rfl⟩
 ·exact ⟨T.clock+1,T.clock+1,rfl⟩
section
variable {p q : Pth} {R : Int} {T : TT} {x : List Nat}
theorem crash_one {keep:Int} {ps:List Int} {i:Nat} {f:Fil} (hs:(keepT T ((max 0 keep).toNat%(T.notes.length+1))).safe=[(p,i)]) (hf:T.files[i]? = some f) :
  ∃part,Two (crashT T keep ps) p q T.room (leftF f part):=by
 refine ⟨hd0 ps,?_⟩
 unfold crashT
 dsimp only
 generalize hT1:keepT T ((max 0 keep).toNat%(T.notes.length+1))=T1 at *
 have hr:T1.room=T.room∧T1.files=T.files:=by rw [←hT1];exact ⟨rfl,rfl⟩
 obtain ⟨c,st,e⟩:=crash1_eq T.now { T1 with clock:=T1.clock+1,now:=[] } p (hd0 ps) (i:=i) (by show valS T1.safe p=some i;rw [hs];simp [valS])
 have hfil:({ T1 with clock:=T1.clock+1,now:=[] }:TT).fil i=f:=by show (T1.files[i]?).getD _=f;rw [hr.2,hf];rfl
 rw [hfil] at e
 have hso:sortS (T1.safe.map (·.1))=[p]:=by rw [hs];rfl
 have hl:crashL T.now { T1 with clock:=T1.clock+1,now:=[] } [p] ps=crash1 T.now { T1 with clock:=T1.clock+1,now:=[] } p (hd0 ps):=rfl
 rw [hso,hl,e]
 exact ⟨hr.1,rfl,rfl,T1.files.length,⟨leftF f (hd0 ps),leftF f (hd0 ps),st⟩,.inl rfl,by simp,rfl⟩
theorem crash_two {keep:Int} {ps:List Int} {i j:Nat} {f:Fil} (hpq:¬p=q) (hlt:lessA q p=true∧lessA p q=false) (hs:(keepT T ((max 0 keep).toNat%(T.notes.length+1))).safe=[(p,i),(q,j)]) (hf:T.files[i]? = some f) :
  ∃part,Two (crashT T keep ps) p q T.room (leftF f part):=by
 have hqp:¬q=p:=fun hh=>hpq hh.symm
 refine ⟨hd0 ps.tail,?_⟩
 unfold crashT
 dsimp only
 generalize hT1:keepT T ((max 0 keep).toNat%(T.notes.length+1))=T1 at *
 have hr:T1.room=T.room∧T1.files=T.files:=by rw [←hT1];exact ⟨rfl,rfl⟩
 have hi:i<T1.files.length:=by rw [hr.2];exact (List.getElem?_eq_some_iff.1 hf).1
 have hso:sortS (T1.safe.map (·.1))=[q,p]:=by rw [hs];simp [sortS,insS,hlt.1,hlt.2]
 obtain ⟨c,st,e⟩:=crash1_eq T.now { T1 with clock:=T1.clock+1,now:=[] } q (hd0 ps) (i:=j) (by show valS T1.safe q=some j;rw [hs];simp [valS,hpq])
 have hl:crashL T.now { T1 with clock:=T1.clock+1,now:=[] } [q,p] ps=crash1 T.now (crash1 T.now { T1 with clock:=T1.clock+1,now:=[] } q (hd0 ps)) p (hd0 ps.tail):=rfl
 rw [hso,hl,e]
 generalize leftF (({ T1 with clock:=T1.clock+1,now:=[] }:TT).fil j) (hd0 ps)=w
 obtain ⟨c2,st2,e2⟩:=crash1_eq T.now { T1 with clock:=c,now:=updS [] q T1.files.length,files:=T1.files++[⟨w,w,st⟩] } p (hd0 ps.tail) (i:=i) (by show valS T1.safe p=some i;rw [hs];simp [valS])
 have hfil:({ T1 with clock:=c,now:=updS [] q T1.files.length,files:=T1.files++[⟨w,w,st⟩] }:TT).fil i=f:=by
  show ((T1.files++[_])[i]?).getD _=f
  rw [List.getElem?_append_left hi,hr.2,hf];rfl
 rw [hfil] at e2
 have:=e2
 dsimp only at this ⊢
 rw [this]
 exact ⟨hr.1,rfl,rfl,T1.files.length+1,⟨leftF f (hd0 ps.tail),leftF f (hd0 ps.tail),st2⟩,.inr ⟨T1.files.length,by simp [updS,hqp]⟩,by simp,rfl⟩
/-! ### A log that is appended to and put aside, with a fuse -/
def Wt (R:Int) (p:Pth) (c:Nat) (off:Bool) (φ:Int) (z x:List Nat) (st:Nat):TT:=⟨R,[(p,0)],[(p,0)],[],c,off,φ,[⟨z,x,st⟩]⟩
theorem append_bad (L:Lg) (hL:L.e≠0) (T:TT) (s:List Nat):appendL p L T s=(L.e,L,T):=by
 unfold appendL
 rw [if_pos hL]
theorem keep_nil {T:TT} (h:T.notes=[]) (n:Nat):(keepT T n).safe=T.safe:=by simp [keepT,h,doAll]
end
end Wal
section
variable {P : Program}
def Cs (h:AH) (v:AV) (l:List AV):Prop :=
 (v=.nilsl∧l=[])∨∃id off c cs o t,v=.sl id off l.length 1 c∧h.get id=some (.cells cs o t)∧id<h.nx∧off+l.length≤cs.length∧(∀k,c=some k→l.length≤k)∧(cs.drop off).take l.length=l
theorem Cs.fr {h h':AH} {v:AV} {l:List AV} (hb:Cs h v l) (hf:Fr h h'):Cs h' v l:=by
 rcases hb with h1 | ⟨id,off,c,cs,o,t,h1,h2,h3,h4,h5,h6⟩
 ·exact .inl h1
 ·exact .inr ⟨id,off,c,cs,o,t,h1,(hf.get id h3).trans h2,Nat.lt_of_lt_of_le h3 hf.nx,h4,h5,h6⟩
theorem cs_get {cs:List AV} {off:Nat} {l:List AV} (hx:(cs.drop off).take l.length=l) {i:Nat} {b:AV} (hi:l[i]? = some b):cs[off+i]? = some b:=by
 have hil:i<l.length:=(List.getElem?_eq_some_iff.1 hi).1
 rw [←hx,List.getElem?_take_of_lt hil,List.getElem?_drop] at hi
 exact hi
theorem Cs.one {h:AH} {v:AV} {l:List AV} (hb:Cs h v l):oneA v=true∧sameAV 20 v v=true:=by
 rcases hb with ⟨rfl,rfl⟩ | ⟨id,off,c,cs,o,t,rfl,_⟩
 ·exact ⟨rfl,rfl⟩
 ·exact ⟨rfl,by simp [sameAV]⟩
theorem Cs.len {h:AH} {v:AV} {l:List AV} {t e:TypeId} (hb:Cs h v l) (ht:P.underlying t=some (.slice e)) (g:AH):evLen P g #[t] v=some (.int .i64 (l.length:Nat)):=by
 rcases hb with ⟨rfl,rfl⟩ | ⟨id,off,c,cs,o,tx,rfl,_⟩
 ·simp [evLen,ht]
 ·simp [evLen,ht]
theorem Ss.cs {n0:Nat} {h:AH} {v:AV} {l:List (List Nat)} (hb:Ss n0 h v l):Cs h v (l.map AV.str):=by
 rcases hb with ⟨rfl,rfl⟩ | ⟨id,rfl,h2,h3,h4⟩
 ·exact .inl ⟨rfl,rfl⟩
 ·exact .inr ⟨id,0,none,l.map AV.str,true,false,by simp,h2,h3,by simp,fun k hk=>(by cases hk),by rw [List.drop_zero,List.take_length]⟩
def Tx (K:Nat→Nat) (h:AH) (v:AV) (l:List (List Nat)):Prop:=Cs h v (l.map AV.str)∧∀id off n z c,v=.sl id off n z c→K id=0
theorem Tx.fr {K:Nat→Nat} {h h':AH} {v:AV} {l:List (List Nat)} (hb:Tx K h v l) (hf:Fr h h'):Tx K h' v l:=⟨hb.1.fr hf,hb.2⟩
theorem Tx.len {K:Nat→Nat} {h:AH} {v:AV} {l:List (List Nat)} {t e:TypeId} (hb:Tx K h v l) (ht:P.underlying t=some (.slice e)) (g:AH):evLen P g #[t] v=some (.int .i64 (l.length:Nat)):=by
 have:=hb.1.len ht g
 rwa [List.length_map] at this
theorem Tx.get {K:Nat→Nat} {h:AH} {v:AV} {l:List (List Nat)} (hb:Tx K h v l) {i:Nat} {s:List Nat} (hi:l[i]? = some s):∃id off c cs o t,v=.sl id off l.length 1 c∧h.get id=some (.cells cs o t)∧id<h.nx∧cs[off+i]? = some (.str s):=by
 have hil:i<l.length:=(List.getElem?_eq_some_iff.1 hi).1
 rcases hb.1 with ⟨_,h1⟩ | ⟨id,off,c,cs,o,t,h1,h2,h3,h4,h5,h6⟩
 ·have:l=[]:=List.map_eq_nil_iff.1 h1
  rw [this] at hil;simp at hil
 ·rw [List.length_map] at h1
  exact ⟨id,off,c,cs,o,t,h1,h2,h3,cs_get h6 (by simp [hi])⟩
theorem Tx.of {K:Nat→Nat} {n0:Nat} {h:AH} {v:AV} {l:List (List Nat)} (hb:Ss n0 h v l) (top:∀j,n0≤j→K j=0):Tx K h v l:=by
 refine ⟨hb.cs,fun id off n z c hh=>?_⟩
 rcases hb with ⟨h1,_⟩ | ⟨id',h1,h2,h3,h4⟩
 ·rw [h1] at hh;cases hh
 ·rw [h1] at hh
  cases hh
  exact top _ h4
end
end Go.Abs
end