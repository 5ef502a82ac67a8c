/- The abstract layer, parts 76 to 81. Conditions: none. -/
import Derived.Test.YtihigekgnnoejaaGreatDoorAb6
import Derived.Test.YtihigekgnnoejaaGreatDoorAb5
import Derived.Laws.Externs
import Derived.Lib.AppendIntMem
import Derived.Lib.AtoiErrMem
import Derived.Lib.ItoaNum
import Derived.Lib.Atoi
set_option linter.unusedVariables false
set_option linter.unusedSimpArgs false
section
namespace Go.Abs
open Go
section
variable {P : Program}
theorem upTo_le {i n:Nat} (h:i≤n):upTo (i:Nat) n=some i:=by
 show (if i≤n then some i else none)=_
 rw [if_pos h]
theorem upTo_le1 {i n:Nat} (h:i+1≤n):upTo ((i:Int)+1) n=some (i+1):=upTo_le (i:=i+1) h
theorem evSlice_from {t e:TypeId} {z id off n i:Nat} {c:Option Nat} (hu:P.underlying t=some (.slice e)) (hz:tsize P e=some z) (hi:i≤n) (h:AH) :
  evSlice P h t (.sl id off n z c) (some (.int .i64 (i:Nat))) none none=some (.sl id (off+i*z) (n-i) z (c.map (· - i))):=by
 simp [evSlice,hu,hz,boundsA,boundA,upTo_le hi]
theorem evSlice_from1 {t e:TypeId} {z id off n i:Nat} {c:Option Nat} (hu:P.underlying t=some (.slice e)) (hz:tsize P e=some z) (hi:i+1≤n) (h:AH) :
  evSlice P h t (.sl id off n z c) (some (.int .i64 ((i:Int)+1))) none none=some (.sl id (off+(i+1)*z) (n-(i+1)) z (c.map (· - (i+1)))):=evSlice_from (i:=i+1) hu hz hi h
theorem evSlice_upto {t e:TypeId} {z id off n i c:Nat} (hu:P.underlying t=some (.slice e)) (hz:tsize P e=some z) (hi:i≤c) (h:AH) :
  evSlice P h t (.sl id off n z (some c)) none (some (.int .i64 (i:Nat))) none=some (.sl id off i z (some c)):=by
 simp [evSlice,hu,hz,boundsA,boundA,upTo_le hi]
theorem evSlice_upto1 {t e:TypeId} {z id off n i c:Nat} (hu:P.underlying t=some (.slice e)) (hz:tsize P e=some z) (hi:i+1≤c) (h:AH) :
  evSlice P h t (.sl id off n z (some c)) none (some (.int .i64 ((i:Int)+1))) none=some (.sl id off (i+1) z (some c)):=evSlice_upto (i:=i+1) hu hz hi h
theorem evCopy_at {dt st e:TypeId} {z id off m jd jo n k:Nat} {c d:Option Nat} {cs ys:List AV} {o t t2:Bool} {h:AH} (hu:P.underlying dt=some (.slice e)) (hz:tsize P e=some z) (hg:h.get id=some (.cells cs true t)) (hx:h.get jd=some (.cells ys o t2))
  (hk:Nat.min n m=k) (hs:jo+k*z≤ys.length) (hd:off+k*z≤cs.length) (hall:((ys.drop jo).take (k*z)).all oneA=true) :
  evCopy P h #[dt,st] (.sl id off m z c) (.sl jd jo n z d)=some (.val (.int .i64 (k:Nat)) (h.put id (.cells (putCells cs off ((ys.drop jo).take (k*z))) true t))):=by
 have hkn:k≤n:=hk▸Nat.min_le_left n m
 have hl:((ys.drop jo).take (k*z)).length=k*z:=by rw [List.length_take,List.length_drop];omega
 simp only [evCopy,List.getElem?_toArray,List.getElem?_cons_zero,Option.bind_eq_bind,Option.bind_some,hu,hz,lenA,hk]
 rw [firstA_sl hx hkn hs]
 simp only [Option.bind_some,hg]
 rw [if_pos (by simp [hl,hd];simpa using hall)]
theorem repCells_len (zc:List AV):∀n,(repCells zc n).length=n*zc.length
 | 0=>by simp [repCells]
 | n+1=>by rw [repCells,List.length_append,repCells_len zc n,Nat.succ_mul];omega
theorem repCells_one {zc:List AV} (h:zc.all oneA=true):∀n,(repCells zc n).all oneA=true
 | 0=>rfl
 | n+1=>by rw [repCells,List.all_append,h,repCells_one h n];rfl
theorem appI_eq {e:TypeId} {z bt:Nat} (hi:appI P e=some (z,bt)):∃i zv zc,P.info? e=some i∧i.zero=some zv∧cellsA (toAV zv)=some zc∧zc.length=i.size∧i.size≠0∧i.size=z∧i.bytes=bt:=by
 unfold appI at hi
 simp only [Option.bind_eq_some_iff] at hi
 obtain ⟨i,h1,zv,h2,zc,h3,h4⟩:=hi
 split at h4
 ·rename_i hz
  cases h4
  exact ⟨i,zv,zc,h1,h2,h3,hz.1,hz.2,rfl,rfl⟩
 ·cases h4
theorem evAppend_make {st xt e:TypeId} {k:IntKind} {z bt id off len c m:Nat} {cs zc:List AV} {o t:Bool} {h:AH} (hu:P.underlying st=some (.slice e)) (hx:P.underlying xt=some (.int k)) (hi:appI P e=some (z,bt)) (hz:zeroC P e=some zc) (ho:zc.all oneA=true)
  (hg:h.get id=some (.cells cs o t)) (hl:off+len*z≤cs.length) (hc:c<len+m) (hm:m≠0) (hb:(2*(len+m)+1000)*bt≤2^40) (hb2:len+m≤2^40) :
  ∃Z:List AV,Z.length=m*z∧evAppend P h #[st,xt] (.sl id off len z (some c)) (.int .i64 (m:Nat))=some (.val (.sl h.nx 0 (len+m) z none) (h.new (.cells ((cs.drop off).take (len*z)++Z) true false))):=by
 obtain ⟨i,zv,zc',h1,h2,h3,h4,h5,rfl,rfl⟩:=appI_eq hi
 have hzz:zc'=zc:=by
  have:zeroC P e=cellsA (toAV zv):=by simp [zeroC,h1,h2,tzero]
  rw [this,h3] at hz
  exact Option.some.inj hz
 subst hzz
 refine ⟨repCells zc' m,by rw [repCells_len,h4],?_⟩
 have hm1:m*i.bytes≤(2*(len+m)+1000)*i.bytes:=Nat.mul_le_mul_right _ (by omega)
 have hap:appendedA P h i zc' xt (.int .i64 (m:Nat))=some (m,repCells zc' m):=by
  unfold appendedA
  simp only [hx,Option.bind_eq_bind,Option.bind_some]
  show (if (decide (m≤2^40)&&decide (m*i.bytes≤2^40))=true then some (m,repCells zc' m) else none)=_
  rw [if_pos (by rw [Bool.and_eq_true,decide_eq_true_eq,decide_eq_true_eq];omega)]
 unfold evAppend
 simp only [List.getElem?_toArray,List.getElem?_cons_zero,List.getElem?_cons_succ,Option.bind_eq_bind,Option.bind_some,hu,h1,h2,h3]
 rw [if_neg (by simp [h4,h5])]
 simp only [hap,lenA,Option.bind_some,firstA_sl hg (Nat.le_refl _) hl]
 rw [if_neg hm,if_neg (by simp [repCells_one ho]),if_neg (by simp only [Bool.or_eq_true,decide_eq_true_eq];intro hh;rcases hh with hh | hh <;> omega),if_pos hc]
 rfl
theorem evAppend_one {st e:TypeId} {z bt id n K jd:Nat} {d:Option Nat} {C xs:List AV} {t2:Bool} {h:AH} (hu:P.underlying st=some (.slice e)) (hi:appI P e=some (z,bt)) (hg:h.get id=some (.cells C true false)) (hC:C.length=K*z) (hn:n≤K)
  (hx:h.get jd=some (.cells xs true t2)) (hxl:xs.length=z) (hxo:xs.all oneA=true) (hb:(2*(n+1)+1000)*bt≤2^40) (hb2:n+1≤2^40) :
  evAppend P h #[st,st] (.sl id 0 n z (some K)) (.sl jd 0 1 z d)=if K<n+1 then some (.val (.sl h.nx 0 (n+1) z none) (h.new (.cells (C.take (n*z)++xs) true false))) else some (.val (.sl id 0 (n+1) z (some K)) (h.put id (.cells (putCells C (n*z) xs) true false))):=by
 obtain ⟨i,zv,zc,h1,h2,h3,h4,h5,h6,h7⟩:=appI_eq hi
 have hnz:n*z≤K*z:=Nat.mul_le_mul_right _ hn
 have hnew:firstA h z 1 (.sl jd 0 1 z d)=some xs:=by
  rw [firstA_sl hx (Nat.le_refl _) (by omega),List.drop_zero,←hxl,Nat.one_mul,List.take_length]
 have hold:firstA h z n (.sl id 0 n z (some K))=some (C.take (n*z)):=by
  rw [firstA_sl hg (Nat.le_refl _) (by omega),List.drop_zero]
 rw [evAppend_eq hu hu (by rfl) hi rfl hnew rfl hold hxo hb hb2 rfl,if_neg (by decide)]
 simp only
 by_cases hK:K<n+1
 ·rw [if_pos hK,if_pos hK]
  rfl
 ·rw [if_neg hK,if_neg hK,if_pos (by simp [ownBlock,hg])]
  have hKz:(n+1)*z≤K*z:=Nat.mul_le_mul_right _ (by omega)
  rw [if_pos (by simp [fitsA,hg];omega)]
  simp [putIn,hg]
/-! ### The cells -/
theorem ins_end {A J xs:List AV} (hz:xs.length≤J.length):putCells (A++J) A.length xs=A++xs++J.drop xs.length:=by
 unfold putCells
 rw [List.take_left,←List.drop_drop,List.drop_left]
theorem ins_mid {A B J xs:List AV} (hz:xs.length≤J.length):putCells (putCells (A++B++J) (A.length+xs.length) B) A.length xs=A++xs++B++J.drop xs.length:=by
 have e1:(A++B++J).drop (A.length+xs.length+B.length)=J.drop xs.length:=by
  rw [show A.length+xs.length+B.length=(A++B).length+xs.length by rw [List.length_append];omega,←List.drop_drop,List.drop_left]
 have hl:((A++B++J).take (A.length+xs.length)).length=A.length+xs.length:=by
  rw [List.length_take,List.length_append,List.length_append];omega
 unfold putCells
 rw [e1]
 have e2:((A++B++J).take (A.length+xs.length)++B++J.drop xs.length).take A.length=A:=by
  rw [List.append_assoc,List.take_append_of_le_length (by omega),List.take_take,Nat.min_eq_left (by omega),List.append_assoc,List.take_left]
 have e3:((A++B++J).take (A.length+xs.length)++B++J.drop xs.length).drop (A.length+xs.length)=B++J.drop xs.length:=by
  rw [List.append_assoc,List.drop_append_of_le_length (by omega),List.drop_of_length_le (by omega),List.nil_append]
 rw [e2,e3]
 simp
theorem ins_new {A B Z xs:List AV} (hz:Z.length=xs.length+B.length):putCells (putCells (A++Z) A.length xs) (A.length+xs.length) B=A++xs++B:=by
 rw [ins_end (by omega)]
 have h1:(A++xs).length=A.length+xs.length:=List.length_append
 unfold putCells
 rw [←h1,List.take_left,List.drop_of_length_le (by rw [List.length_append,List.length_drop];omega),List.append_nil]
/-! ### Taking out -/
theorem evSlice_three {t e:TypeId} {z id n i c:Nat} (hu:P.underlying t=some (.slice e)) (hz:tsize P e=some z) (hi:i+1≤n) (hn:n≤c) (h:AH) :
  evSlice P h t (.sl id 0 n z (some c)) (some (.int .i64 (i:Nat))) (some (.int .i64 ((i:Int)+1))) (some (.int .i64 (n:Nat)))=some (.sl id (i*z) 1 z (some (n-i))):=by
 simp [evSlice,hu,hz,boundsA,boundA,upTo_le hn,upTo_le1 hi,upTo_le (Nat.le_succ i)]
theorem evSlice_both {t e:TypeId} {z id m i j c:Nat} (hu:P.underlying t=some (.slice e)) (hz:tsize P e=some z) (hi:i≤j) (hj:j≤c) (h:AH) :
  evSlice P h t (.sl id 0 m z (some c)) (some (.int .i64 (i:Nat))) (some (.int .i64 (j:Nat))) none=some (.sl id (i*z) (j-i) z (some (c-i))):=by
 simp [evSlice,hu,hz,boundsA,boundA,upTo_le hi,upTo_le hj]
theorem evClear_one {t e:TypeId} {z id off:Nat} {c:Option Nat} {cs zc:List AV} {tx:Bool} {h:AH} (hu:P.underlying t=some (.slice e)) (hz:zeroC P e=some zc) (ho:zc.all oneA=true) (hl:zc.length=z) (hg:h.get id=some (.cells cs true tx)) (hle:off+z≤cs.length) :
  evClear P h #[t] (.sl id off 1 z c)=some (.val (.tup []) (h.put id (.cells (putCells cs off zc) true tx))):=by
 obtain ⟨zv,h1,h2⟩:∃zv,tzero P e=some zv∧cellsA (toAV zv)=some zc:=by
  unfold zeroC at hz
  simpa only [Option.bind_eq_some_iff] using hz
 simp only [evClear,List.getElem?_toArray,List.getElem?_cons_zero,Option.bind_eq_bind,Option.bind_some,hu,h1,h2,hg]
 rw [if_neg (by decide),if_pos (by simp [hl];exact ⟨by simpa using ho,hle⟩)]
 simp [repCells]
theorem evAppend_tail {st e:TypeId} {z bt id n K i k:Nat} {d:Option Nat} {C:List AV} {h:AH} (hu:P.underlying st=some (.slice e)) (hi:appI P e=some (z,bt)) (hg:h.get id=some (.cells C true false)) (hC:C.length=K*z) (hik:i+1+k=n) (hk:k≠0) (hn:n≤K)
  (ho:((C.drop ((i+1)*z)).take (k*z)).all oneA=true) (hb:(2*n+1000)*bt≤2^40) (hb2:n≤2^40) :
  evAppend P h #[st,st] (.sl id 0 i z (some K)) (.sl id ((i+1)*z) k z d)=some (.val (.sl id 0 (i+k) z (some K)) (h.put id (.cells (putCells C (i*z) ((C.drop ((i+1)*z)).take (k*z))) true false))):=by
 have e1:(i+1)*z+k*z=n*z:=by rw [←Nat.add_mul,hik]
 have e2:n*z≤K*z:=Nat.mul_le_mul_right _ hn
 have e3:i*z≤n*z:=Nat.mul_le_mul_right _ (by omega)
 have e4:(2*(i+k)+1000)*bt≤(2*n+1000)*bt:=Nat.mul_le_mul_right _ (by omega)
 have e5:(i+k)*z≤n*z:=Nat.mul_le_mul_right _ (by omega)
 have hnew:=firstA_sl (c:=d) (n:=k) hg (Nat.le_refl k) (show (i+1)*z+k*z≤C.length by omega)
 have hold:=firstA_sl (c:=some K) (n:=i) (off:=0) hg (Nat.le_refl i) (show 0+i*z≤C.length by omega)
 rw [evAppend_eq hu hu (by rfl) hi rfl hnew rfl hold ho (by omega) (by omega) rfl,if_neg hk]
 simp only
 rw [if_neg (by omega),if_pos (by simp [ownBlock,hg]),if_pos (by simp [fitsA,hg];omega)]
 simp [putIn,hg]
theorem put_front {A R B:List AV}:∃r,putCells (A++R) A.length B=A++B++r:=by
 unfold putCells
 rw [List.take_left]
 exact ⟨_,rfl⟩
theorem del_cells {A R B z:List AV} (h:B.length≤R.length):∃r,putCells (putCells (A++R) A.length B) (A.length+B.length) z=A++B++r:=by
 obtain ⟨r,hr⟩:=put_front (A:=A) (R:=R) (B:=B)
 rw [hr,←List.length_append]
 obtain ⟨r2,hr2⟩:=put_front (A:=A++B) (R:=r) (B:=z)
 rw [hr2]
 exact ⟨z++r2,by simp⟩
end
section
variable {P : Program} {S : Sums}
def InsRun (P:Program) (S:Sums) (f:FuncId) (z:Nat):Prop:=∀(h:AH) (id n i K jd:Nat) (cs J xs:List AV) (d:Option Nat),h.get id=some (.cells (cs++J) true false)→id<h.nx→cs.length=n*z→(cs++J).length=K*z→n≤K→i≤n→n≤1000000→h.get jd=some (.cells xs true false)→jd<h.nx→xs.length=z→id≠jd→cs.all oneA=true→xs.all oneA=true →
  RnC P S f [.sl id 0 n z (some K),.int .i64 (i:Nat),.sl jd 0 1 z d] h fun v h'=>∃id' c' rest,v=.sl id' 0 (n+1) z c'∧h'.get id'=some (.cells (cs.take (i*z)++xs++cs.drop (i*z)++rest) true false)∧(id'=id∨h.nx≤id')∧∀j,j<h.nx→j≠id→h'.get j=h.get j
def DelRun (P:Program) (S:Sums) (f:FuncId) (z:Nat):Prop:=∀(h:AH) (id n i K:Nat) (cs J:List AV),h.get id=some (.cells (cs++J) true false)→cs.length=n*z→(cs++J).length=K*z→n≤K→i<n→n≤1000000→cs.all oneA=true →
  RnC P S f [.sl id 0 n z (some K),.int .i64 (i:Nat),.int .i64 ((i:Int)+1)] h fun v h'=>∃id' c' rest,v=.sl id' 0 (n-1) z c'∧h'.get id'=some (.cells (cs.take (i*z)++cs.drop ((i+1)*z)++rest) true false)∧(id'=id∨h.nx≤id')∧∀j,j<h.nx→j≠id→h'.get j=h.get j
def natI:Int→Option Nat
 | .ofNat n=>some n
 | _=>none
noncomputable def sumIns (z:Nat) (args:List AV) (h:AH):Option (AV×AH) :=
 match args with
 | [.sl id 0 n z1 _,.int .i64 k,.sl jd 0 1 z2 _]=>match natI k,h.get id,h.get jd with
  | some i,some (.cells cs true false),some (.cells xs true false)=>if z1=z∧z2=z∧id≠jd∧cs.length=n*z∧i≤n∧n≤1000000∧xs.length=z∧cs.all oneA=true∧xs.all oneA=true then some (.sl h.nx 0 (n+1) z none,(h.del id).new (.cells (cs.take (i*z)++xs++cs.drop (i*z)) true false)) else none
  | _,_,_=>none
 | _=>none
noncomputable def sumDel (z:Nat) (args:List AV) (h:AH):Option (AV×AH) :=
 match args with
 | [.sl id 0 n z1 _,.int .i64 k,.int .i64 k2]=>match natI k,h.get id with
  | some i,some (.cells cs true false)=>if z1=z∧k2=(i:Int)+1∧cs.length=n*z∧i<n∧n≤1000000∧cs.all oneA=true then some (.sl h.nx 0 (n-1) z none,(h.del id).new (.cells (cs.take (i*z)++cs.drop ((i+1)*z)) true false)) else none
  | _,_=>none
 | _=>none
theorem natI_eq:∀ {k:Int} {i:Nat},natI k=some i→k=(i:Nat)
 | .ofNat _,_,h=>by cases h;rfl
section
variable {ρ : Pm} {w : World} {K : Kp} {h : AH}
theorem Rel.known (hR:Rel K ρ h w) {id:Nat} {cs:List AV} {o t:Bool} (hg:h.get id=some (.cells cs o t)):∀a∈cs,∃v,VR ρ a v:=fun a ha=>by
 obtain ⟨i,hi⟩:=List.mem_iff_getElem?.1 ha
 obtain ⟨q,c,e,fr,_,_,_,_,hget,_⟩:=hR.cells hg
 obtain ⟨v,_,r⟩:=hget i a hi
 exact ⟨v,r⟩
theorem Rel.low (hR:Rel K ρ h w) {id:Nat} {o:AO} (hg:h.get id=some o):id<h.nx:=by
 rcases Nat.lt_or_ge id h.nx with hh | hh
 ·exact hh
 ·obtain ⟨q,hq,_⟩:=hR.obj id o hg
  rw [hR.fresh id hh] at hq
  cases hq
theorem sumIns_ok (hS:SumsOK P S) {f:FuncId} {z:Nat} (hrun:InsRun P S f z) {args:List AV} {cargs:Array Value} {v:AV} {h':AH} (hR:Rel K ρ h w) (hv:VRs ρ args cargs.toList) (hs:sumIns z args h=some (v,h')):CallRes P f cargs w (CallPost K h ρ v h'):=by
 unfold sumIns at hs
 split at hs
 ·rename_i id n z1 c k jd z2 d
  split at hs
  ·rename_i i cs xs hk hg hx
   split at hs
   ·rename_i hc
    obtain ⟨rfl,rfl,h1,h2,h3,h4,h5,h6,h7⟩:=hc
    have hk:=natI_eq hk
    subst hk
    cases hs
    have hid:=hR.low hg
    have hjd:=hR.low hx
    refine sumMv_ok hS hR hg h2 hv (fun a ha=>?_) fun q hq _=>?_
    ·rcases List.mem_append.1 ha with ha | ha
     ·rcases List.mem_append.1 ha with ha | ha
      ·exact hR.known hg a (List.mem_of_mem_take ha)
      ·exact hR.known hx a ha
     ·exact hR.known hg a (List.mem_of_mem_drop ha)
    ·have hm:n*z2≤q*z2:=Nat.mul_le_mul_right _ hq
     refine (hrun _ id n i q jd cs _ xs d (AH.get_put_eq rfl) hid h2 (by rw [List.length_append,List.length_replicate,h2];omega) hq h3 h4 ((AH.get_put_ne (Ne.symm h1)).trans hx) hjd h5 h1 h6 h7).mono ?_
     rintro v h' ⟨id',c',rest,r1,r2,r3,r4⟩
     exact ⟨id',c',rest,r1,r2,r3,fun j hj hne=>(r4 j hj hne).trans (AH.get_put_ne hne)⟩
   ·cases hs
  ·cases hs
 ·cases hs
theorem sumDel_ok (hS:SumsOK P S) {f:FuncId} {z:Nat} (hrun:DelRun P S f z) {args:List AV} {cargs:Array Value} {v:AV} {h':AH} (hR:Rel K ρ h w) (hv:VRs ρ args cargs.toList) (hs:sumDel z args h=some (v,h')):CallRes P f cargs w (CallPost K h ρ v h'):=by
 unfold sumDel at hs
 split at hs
 ·rename_i id n z1 c k k2
  split at hs
  ·rename_i i cs hk hg
   split at hs
   ·rename_i hc
    obtain ⟨rfl,rfl,h2,h3,h4,h6⟩:=hc
    have hk:=natI_eq hk
    subst hk
    cases hs
    refine sumMv_ok hS hR hg h2 hv (fun a ha=>?_) fun q hq _=>?_
    ·rcases List.mem_append.1 ha with ha | ha
     ·exact hR.known hg a (List.mem_of_mem_take ha)
     ·exact hR.known hg a (List.mem_of_mem_drop ha)
    ·have hm:n*z1≤q*z1:=Nat.mul_le_mul_right _ hq
     refine (hrun _ id n i q cs _ (AH.get_put_eq rfl) h2 (by rw [List.length_append,List.length_replicate,h2];omega) hq h3 h4 h6).mono ?_
     rintro v h' ⟨id',c',rest,r1,r2,r3,r4⟩
     exact ⟨id',c',rest,r1,r2,r3,fun j hj hne=>(r4 j hj hne).trans (AH.get_put_ne hne)⟩
   ·cases hs
  ·cases hs
 ·cases hs
end
theorem sumIns_nil (z:Nat) (a b:AV) (h:AH):sumIns z [.nilsl,a,b] h=none:=rfl
theorem sumIns_text {z id n jd:Nat} {c d:Option Nat} {k:Int} {cs:List AV} {h:AH} {o:Nat} (hg:h.get id=some (.cells cs true true)):sumIns z [.sl id 0 n z c,.int .i64 k,.sl jd 0 1 z d] h=none:=by
 unfold sumIns
 simp only [hg]
 cases natI k <;> rfl
theorem sumIns_at {z id n i jd:Nat} {c d:Option Nat} {cs xs:List AV} {h:AH} (hg:h.get id=some (.cells cs true false)) (hx:h.get jd=some (.cells xs true false)) (h1:id≠jd) (h2:cs.length=n*z) (h3:i≤n) (h4:n≤1000000) (h5:xs.length=z) (h6:cs.all oneA=true) (h7:xs.all oneA=true) :
  sumIns z [.sl id 0 n z c,.int .i64 (i:Nat),.sl jd 0 1 z d] h=some (.sl h.nx 0 (n+1) z none,(h.del id).new (.cells (cs.take (i*z)++xs++cs.drop (i*z)) true false)):=by
 show (match natI (Int.ofNat i),h.get id,h.get jd with
  | some i,some (.cells cs true false),some (.cells xs true false)=>_
  | _,_,_=>none)=_
 simp only [natI,hg,hx]
 rw [if_pos ⟨trivial,trivial,h1,h2,h3,h4,h5,h6,h7⟩]
theorem sumDel_at {z id n i:Nat} {c:Option Nat} {cs:List AV} {h:AH} (hg:h.get id=some (.cells cs true false)) (h2:cs.length=n*z) (h3:i<n) (h4:n≤1000000) (h6:cs.all oneA=true) :
  sumDel z [.sl id 0 n z c,.int .i64 (i:Nat),.int .i64 ((i:Int)+1)] h=some (.sl h.nx 0 (n-1) z none,(h.del id).new (.cells (cs.take (i*z)++cs.drop ((i+1)*z)) true false)):=by
 show (match natI (Int.ofNat i),h.get id with
  | some i,some (.cells cs true false)=>_
  | _,_=>none)=_
 simp only [natI,hg]
 rw [if_pos ⟨trivial,trivial,h2,h3,h4,h6⟩]
end
section
variable {α : Type} {z : Nat} {E : (Nat → Nat) → AH → List AV → α → Prop}
structure El (z:Nat) (E:(Nat→Nat)→AH→List AV→α→Prop):Prop where
 gk:∀ {K:Nat→Nat} {h h':AH} {cs:List AV} {x:α},E K h cs x→Gk K h h'→E K h' cs x
 col:∀ {K K':Nat→Nat} {h:AH} {cs:List AV} {x:α},E K h cs x→(∀j,j<h.nx→K j=0→K' j=0)→E K' h cs x
 len:∀ {K:Nat→Nat} {h:AH} {cs:List AV} {x:α},E K h cs x→cs.length=z∧cs.all oneA=true
 pos:0<z
def Oz (z:Nat) (E:(Nat→Nat)→AH→List AV→α→Prop) (n0:Nat) (K:Nat→Nat) (h:AH) (v:AV) (l:List α):Prop :=
 ∃css:List (List AV),Ez z n0 h v css.flatten∧css.length=l.length∧(∀(i:Nat) cs x,css[i]? = some cs→l[i]? = some x→E K h cs x)∧∀id o n c,v=.sl id o n z c→K id≠0
theorem set_same {l:List α} {i:Nat} {x:α} (h:l[i]? = some x):l.set i x=l:=by
 refine List.ext_getElem? fun j=>?_
 rw [List.getElem?_set]
 by_cases e:i=j
 ·subst e
  rw [if_pos rfl,if_pos (List.getElem?_eq_some_iff.1 h).1,h]
 ·rw [if_neg e]
/-! ### Cells in rows of z -/
theorem flz {z:Nat} {css:List (List AV)} (hc:∀cs∈css,cs.length=z):css.flatten.length=css.length*z:=by
 induction css with
 | nil=>simp
 | cons a l ih =>
  rw [List.flatten_cons,List.length_append,ih fun cs hcs=>hc cs (List.mem_cons_of_mem _ hcs),hc a (List.mem_cons_self ..),List.length_cons,Nat.succ_mul]
  omega
theorem flz_drop {z:Nat} {css:List (List AV)} (hc:∀cs∈css,cs.length=z):∀i,i≤css.length→css.flatten.drop (i*z)=(css.drop i).flatten∧css.flatten.take (i*z)=(css.take i).flatten:=by
 induction css with
 | nil =>
  intro i hi
  obtain rfl:i=0:=by simpa using hi
  simp
 | cons a l ih =>
  have ha:=hc a (List.mem_cons_self ..)
  intro i hi
  cases i with
  | zero=>simp
  | succ i =>
   have:=ih (fun cs hcs=>hc cs (List.mem_cons_of_mem _ hcs)) i (by simpa using hi)
   rw [List.flatten_cons,show (i+1)*z=a.length+i*z by rw [ha,Nat.succ_mul];omega,←List.drop_drop,List.drop_left,List.take_length_add_append,List.drop_succ_cons,List.take_succ_cons,List.flatten_cons,this.1,this.2]
   exact ⟨rfl,rfl⟩
theorem flz_at {z:Nat} {css:List (List AV)} (hc:∀cs∈css,cs.length=z) {i:Nat} {cs:List AV} (hi:css[i]? = some cs):∃A B,css.flatten=A++cs++B∧A.length=i*z∧A=(css.take i).flatten∧B=(css.drop (i+1)).flatten:=by
 have hil:=(List.getElem?_eq_some_iff.1 hi).1
 refine ⟨(css.take i).flatten,(css.drop (i+1)).flatten,?_,?_,rfl,rfl⟩
 ·have hd:css.drop i=cs::css.drop (i+1):=by rw [List.drop_eq_getElem_cons hil,(List.getElem?_eq_some_iff.1 hi).2]
  have h0:css.flatten=((css.take i)++css.drop i).flatten:=by rw [List.take_append_drop]
  rw [h0,List.flatten_append,hd,List.flatten_cons,List.append_assoc]
 ·rw [flz fun cs hcs=>hc cs (List.mem_of_mem_take hcs),List.length_take,Nat.min_eq_left (Nat.le_of_lt hil)]
theorem put_in {A M B vs:List AV} {k a:Nat} (ha:A.length=a) (h:k+vs.length≤M.length):putCells (A++M++B) (a+k) vs=A++putCells M k vs++B:=by
 unfold putCells
 subst ha
 rw [show A.length+k+vs.length=A.length+(k+vs.length) by omega,←List.drop_drop,List.append_assoc A M B,List.drop_left,List.take_length_add_append,List.take_append_of_le_length (by omega),List.drop_append_of_le_length h]
 simp
theorem flz_put {z:Nat} {css:List (List AV)} (hc:∀cs∈css,cs.length=z) {i k:Nat} {cs vs:List AV} (hi:css[i]? = some cs) (h:k+vs.length≤z):putCells css.flatten (i*z+k) vs=(css.set i (putCells cs k vs)).flatten:=by
 obtain ⟨A,B,h1,h2,rfl,rfl⟩:=flz_at hc hi
 have hil:=(List.getElem?_eq_some_iff.1 hi).1
 rw [h1,put_in h2 (by rw [hc cs (List.mem_of_getElem? hi)];exact h),List.set_eq_take_append_cons_drop,if_pos hil]
 simp
theorem all_flat {css:List (List AV)} (h:∀cs∈css,cs.all oneA=true):css.flatten.all oneA=true:=by
 rw [List.all_flatten,List.all_eq_true]
 exact h
def chunks (z:Nat) (m:List AV):Nat→List (List AV)
 | 0=>[]
 | n+1=>m.take z::chunks z (m.drop z) n
theorem chunks_len (z:Nat):∀(n:Nat) (m:List AV),(chunks z m n).length=n
 | 0,_=>rfl
 | n+1,m=>by rw [chunks,List.length_cons,chunks_len z n]
theorem chunks_flat (z:Nat):∀(n:Nat) (m:List AV),m.length=n*z→(chunks z m n).flatten=m
 | 0,m,h=>by rw [Nat.zero_mul] at h;rw [List.length_eq_zero_iff.1 h];rfl
 | n+1,m,h=>by
  rw [chunks,List.flatten_cons,chunks_flat z n (m.drop z) (by rw [List.length_drop,h,Nat.succ_mul];omega),List.take_append_drop]
theorem chunks_at (z:Nat):∀(n:Nat) (m:List AV) (i:Nat),i<n→(chunks z m n)[i]? = some ((m.drop (i*z)).take z)
 | n+1,m,0,_=>by simp [chunks]
 | n+1,m,i+1,h=>by
  rw [chunks,List.getElem?_cons_succ,chunks_at z n (m.drop z) i (by omega),List.drop_drop,show z+i*z=(i+1)*z by rw [Nat.succ_mul];omega]
section
variable {n0 : Nat} {K K' : Nat → Nat} {h h' : AH} {v : AV} {l : List α}
theorem oz_rows (hE:El z E) {css:List (List AV)} (a3:css.length=l.length) (a4:∀(i:Nat) cs x,css[i]? = some cs→l[i]? = some x→E K h cs x):∀cs∈css,cs.length=z∧cs.all oneA=true:=by
 intro cs hcs
 obtain ⟨i,hi⟩:=List.mem_iff_getElem?.1 hcs
 have hl:=(List.getElem?_eq_some_iff.1 hi).1
 exact hE.len (a4 i cs _ hi (List.getElem?_eq_getElem (by omega)))
theorem Oz.fr (hE:El z E) (hb:Oz z E n0 K h v l) (f:Fr h h'):Oz z E n0 K h' v l:=by
 obtain ⟨css,a2,a3,a4,a5⟩:=hb
 exact ⟨css,a2.fr f,a3,fun i cs x h1 h2=>hE.gk (a4 i cs x h1 h2) (f.gk K),a5⟩
theorem Oz.id (hE:El z E) (hb:Oz z E n0 K h v l) {id o n:Nat} {c:Option Nat} (hv:v=.sl id o n z c):n0≤id∧id<h.nx∧K id≠0∧o=0∧n=l.length∧(c=none∨c=some n):=by
 obtain ⟨css,a2,a3,a4,a5⟩:=hb
 have hr:=oz_rows hE a3 a4
 rcases a2 with ⟨h1,_⟩ | ⟨id',n',c',tx,h1,h2,h3,h4,h5,h6,h7⟩
 ·rw [hv] at h1;cases h1
 ·rw [hv] at h1;cases h1
  rw [flz fun cs hcs=>(hr cs hcs).1] at h5
  have:=Nat.eq_of_mul_eq_mul_right hE.pos h5
  exact ⟨h4,h3,a5 _ _ _ _ hv,rfl,by omega,h6⟩
theorem Oz.one (hb:Oz z E n0 K h v l):oneA v=true∧sameAV 20 v v=true:=let ⟨_,a2,_⟩:=hb;⟨(Ez.one a2).2,(Ez.one a2).1⟩
theorem Oz.keep (hE:El z E) (hb:Oz z E n0 K h v l) (g:Gk K h h') (ho:∀id o n c,v=.sl id o n z c→h'.get id=h.get id):Oz z E n0 K h' v l:=by
 obtain ⟨css,a2,a3,a4,a5⟩:=hb
 refine ⟨css,?_,a3,fun i cs x h1 h2=>hE.gk (a4 i cs x h1 h2) g,a5⟩
 rcases a2 with h1 | ⟨id,n,c,tx,h1,h2,h3,h4,h5⟩
 ·exact .inl h1
 ·exact .inr ⟨id,n,c,tx,h1,(ho _ _ _ _ h1).trans h2,Nat.lt_of_lt_of_le h3 g.nx,h4,h5⟩
theorem Oz.col (hE:El z E) (hb:Oz z E n0 K h v l) (hk:∀j,j<h.nx→K j=0→K' j=0) (ho:∀id o n c,v=.sl id o n z c→K' id≠0):Oz z E n0 K' h v l:=by
 obtain ⟨css,a2,a3,a4,a5⟩:=hb
 exact ⟨css,a2,a3,fun i cs x h1 h2=>hE.col (a4 i cs x h1 h2) hk,ho⟩
theorem Oz.low (hb:Oz z E n0 K h v l) {n1:Nat} (hn:n1≤n0):Oz z E n1 K h v l:=by
 obtain ⟨css,a2,a3⟩:=hb
 exact ⟨css,a2.low hn,a3⟩
theorem Oz.nil (n0:Nat) (K:Nat→Nat) (h:AH):Oz z E n0 K h .nilsl ([]:List α):=⟨[],.inl ⟨rfl,rfl⟩,rfl,(fun i cs x h1 _=>by cases h1),(fun id o n c hh=>by cases hh)⟩
theorem Oz.sls (hE:El z E) (hb:Oz z E n0 K h v l) {K2:Nat→Nat} (hk:∀j,j<h.nx→K j=0→K2 j=0) (hk2:∀id o n c,v=.sl id o n z c→K2 id=0):Sl K2 z (E K2 h) h v l:=by
 obtain ⟨css,a2,a3,a4,a5⟩:=hb
 have hr:=oz_rows hE a3 a4
 have hf:=flz fun cs hcs=>(hr cs hcs).1
 rcases a2 with ⟨rfl,h2⟩ | ⟨id,n,c,tx,rfl,h2,h3,h4,h5,h6,h7⟩
 ·rw [h2] at hf
  refine .inl ⟨rfl,List.length_eq_zero_iff.1 ?_⟩
  rcases Nat.mul_eq_zero.1 (show css.length*z=0 by simpa using hf.symm) with hh | hh
  ·omega
  ·have:=hE.pos;omega
 ·have hn:n=l.length:=by
   rw [hf] at h5
   have:=Nat.eq_of_mul_eq_mul_right hE.pos h5
   omega
  subst hn
  refine .inr ⟨id,0,c,_,_,_,rfl,h2,h3,hk2 _ _ _ _ rfl,?_,by omega,?_⟩
  ·intro k hk
   rcases h6 with h6 | h6
   ·rw [h6] at hk;cases hk
   ·rw [h6] at hk;cases hk;exact Nat.le_refl _
  ·intro i x hi
   have hil:=(List.getElem?_eq_some_iff.1 hi).1
   have hci:css[i]? = some css[i]:=List.getElem?_eq_getElem (by omega)
   obtain ⟨A,B,e1,e2,_⟩:=flz_at (fun cs hcs=>(hr cs hcs).1) hci
   have e3:(css.flatten.drop (0+i*z)).take z=css[i]:=by
    rw [e1,Nat.zero_add,←e2,List.append_assoc,List.drop_left,←(hr _ (List.mem_of_getElem? hci)).1,List.take_left]
   rw [e3]
   exact hE.col (a4 i _ x hci hi) hk
theorem Oz.sl (hE:El z E) (hb:Oz z E n0 K h v l):Sl (fun _=>0) z (E (fun _=>0) h) h v l:=hb.sls hE (fun _ _ _=>rfl) fun _ _ _ _ _=>rfl
theorem Oz.at (hE:El z E) (hb:Oz z E n0 K h v l) {i:Nat} {x:α} (hi:l[i]? = some x):∃(id:Nat) (c:Option Nat) (css:List (List AV)) (cs A B:List AV),v=.sl id 0 l.length z c∧h.get id=some (.cells css.flatten true false)∧css[i]? = some cs∧css.flatten=A++cs++B∧A.length=i*z∧i*z+z≤css.flatten.length∧E K h cs x∧css.length=l.length∧(∀(i:Nat) cs x,css[i]? = some cs→l[i]? = some x→E K h cs x)∧(c=none∨c=some l.length)∧n0≤id∧id<h.nx∧K id≠0:=by
 have hil:=(List.getElem?_eq_some_iff.1 hi).1
 have hid:=fun id o n c=>hb.id hE (id:=id) (o:=o) (n:=n) (c:=c)
 obtain ⟨css,a2,a3,a4,a5⟩:=hb
 have hr:=oz_rows hE a3 a4
 have hf:=flz fun cs hcs=>(hr cs hcs).1
 have hci:css[i]? = some css[i]:=List.getElem?_eq_getElem (by omega)
 obtain ⟨A,B,e1,e2,_⟩:=flz_at (fun cs hcs=>(hr cs hcs).1) hci
 have hle:i*z+z≤css.flatten.length:=by
  rw [hf,←Nat.succ_mul]
  exact Nat.mul_le_mul_right z (by omega)
 have hp:=hE.pos
 rcases a2 with ⟨rfl,h2⟩ | ⟨id,n,c,tx,rfl,h2,h3,h4,h5,h6,h7⟩
 ·rw [h2] at hle
  simp at hle
  omega
 ·obtain ⟨b1,b2,b3,b4,rfl,b6⟩:=hid _ _ _ _ rfl
  have ht:tx=false:=by
   rcases h7 with h7 | ⟨h7,_⟩
   ·exact h7
   ·rw [h7] at hle;simp at hle;omega
  subst ht
  exact ⟨id,c,css,_,A,B,rfl,h2,hci,e1,e2,hle,a4 i _ x hci hi,a3,a4,b6,h4,h3,b3⟩
theorem Oz.put (hE:El z E) (hb:Oz z E n0 K h v l) {i k:Nat} {x x':α} {id:Nat} {o n:Nat} {c:Option Nat} {css:List (List AV)} {cs vs:List AV} (hv:v=.sl id o n z c) (hg:h.get id=some (.cells css.flatten true false)) (a3:css.length=l.length) (a4:∀(i:Nat) cs x,css[i]? = some cs→l[i]? = some x→E K h cs x)
  (hi:l[i]? = some x) (hci:css[i]? = some cs) (hk:k+vs.length≤z) (hx:E K (h.put id (.cells (putCells css.flatten (i*z+k) vs) true false)) (putCells cs k vs) x'):Oz z E n0 K (h.put id (.cells (putCells css.flatten (i*z+k) vs) true false)) v (l.set i x'):=by
 obtain ⟨b1,b2,b3,rfl,rfl,b6⟩:=hb.id hE hv
 have hr:=oz_rows hE a3 a4
 have hil:=(List.getElem?_eq_some_iff.1 hi).1
 have hgk:∀o,Gk K h (h.put id o):=fun o=>(Gk.refl K h).put (.inl b3) o
 have hset:=flz_put (fun cs hcs=>(hr cs hcs).1) hci hk
 rw [hset] at hx ⊢
 refine ⟨css.set i (putCells cs k vs),.inr ⟨id,_,c,false,hv,AH.get_put_eq rfl,b2,b1,?_,b6,.inl rfl⟩,by simp [a3],?_,fun id' o' n' c' hh=>?_⟩
 ·rw [←hset,putCells_length _ _ _ ?_,flz fun cs hcs=>(hr cs hcs).1,a3]
  rw [flz fun cs hcs=>(hr cs hcs).1]
  have:i*z+z≤css.length*z:=by rw [←Nat.succ_mul];exact Nat.mul_le_mul_right z (by omega)
  omega
 ·intro j cj y h1 h2
  rw [List.getElem?_set] at h1 h2
  by_cases e:i=j
  ·subst e
   rw [if_pos rfl,if_pos (by omega)] at h1 h2
   cases h1;cases h2
   exact hx
  ·rw [if_neg e] at h1 h2
   exact hE.gk (a4 j cj y h1 h2) (hgk _)
 ·rw [hv] at hh
  cases hh
  exact b3
end
theorem Sl.fl (hE:El z E) {K:Nat→Nat} {h:AH} {v:AV} {l:List α} (hb:Sl K z (E K h) h v l):∃m,Fl K z h v m∧m.length=l.length*z∧m.all oneA=true∧∀(i:Nat) x,l[i]? = some x→E K h ((m.drop (i*z)).take z) x:=by
 rcases hb with ⟨rfl,rfl⟩ | ⟨id,off,c,cs,o,t,rfl,h2,h3,h4,h5,h6,h7⟩
 ·exact ⟨[],.inl ⟨rfl,rfl⟩,by simp,rfl,fun i x hi=>by cases hi⟩
 ·have hml:((cs.drop off).take (l.length*z)).length=l.length*z:=by rw [List.length_take,List.length_drop];omega
  have hel:∀(i:Nat) x,l[i]? = some x→((((cs.drop off).take (l.length*z)).drop (i*z)).take z)=(cs.drop (off+i*z)).take z:=fun i x hi=>by
   have hil:=(List.getElem?_eq_some_iff.1 hi).1
   have:(i+1)*z≤l.length*z:=Nat.mul_le_mul_right z hil
   rw [Nat.succ_mul] at this
   rw [List.drop_take,List.take_take,List.drop_drop,Nat.min_eq_left (by omega)]
  have hx:∀(i:Nat) x,l[i]? = some x→E K h ((((cs.drop off).take (l.length*z)).drop (i*z)).take z) x:=fun i x hi=>by rw [hel i x hi];exact h7 i x hi
  refine ⟨(cs.drop off).take (l.length*z),.inr ⟨id,off,l.length,c,cs,o,t,rfl,h2,h3,h4,h5,h6,rfl⟩,hml,?_,hx⟩
  rw [←chunks_flat z _ _ hml]
  refine all_flat fun r hr=>?_
  obtain ⟨i,hi⟩:=List.mem_iff_getElem?.1 hr
  have hil:=(List.getElem?_eq_some_iff.1 hi).1
  rw [chunks_len] at hil
  rw [chunks_at z _ _ _ hil] at hi
  cases hi
  exact (hE.len (hx i _ (List.getElem?_eq_getElem hil))).2
theorem Oz.made (hE:El z E) {h0 h:AH} {K:Nat→Nat} {v:AV} {m:List AV} {l:List α} (top:∀j,h0.nx≤j→K j=0) (f:Fr h0 h) (hb:Ez z h0.nx h v m) (hl:m.length=l.length*z) (hx:∀(i:Nat) x,l[i]? = some x→E K h0 ((m.drop (i*z)).take z) x) :
  ∃K',(∀j,j<h0.nx→K' j=K j)∧(∀j,h.nx≤j→K' j=0)∧(∀j,K' j≠0→K j≠0∨∃o n c,v=.sl j o n z c)∧Oz z E h0.nx K' h v l:=by
 rcases hb with ⟨rfl,rfl⟩ | ⟨id,n,c,tx,rfl,h2,h3,h4,h5,h6⟩
 ·have hp:=hE.pos
  have h0':l=[]:=by
   refine List.length_eq_zero_iff.1 ?_
   rcases Nat.mul_eq_zero.1 hl.symm with hh | hh
   ·exact hh
   ·omega
  subst h0'
  exact ⟨K,fun j _=>rfl,fun j hj=>top j (Nat.le_trans f.nx hj),fun j hj=>.inl hj,Oz.nil _ _ _⟩
 ·refine ⟨fun j=>if j=id then 1 else K j,fun j hj=>if_neg (by omega),fun j hj=>?_,fun j hj=>?_,chunks z m l.length,.inr ⟨id,n,c,tx,rfl,by rw [chunks_flat z _ _ hl];exact h2,h3,h4,by rw [chunks_flat z _ _ hl];exact h5,h6.1,by rw [chunks_flat z _ _ hl];exact h6.2⟩,chunks_len _ _ _,fun i cs x h7 h8=>?_,fun id' o' n' c' hh=>?_⟩
  ·show (if j=id then 1 else K j)=0
   rw [if_neg (by omega)]
   exact top j (Nat.le_trans f.nx hj)
  ·by_cases e:j=id
   ·subst e
    exact .inr ⟨_,_,_,rfl⟩
   ·exact .inl (by simpa only [if_neg e] using hj)
  ·have hil:=(List.getElem?_eq_some_iff.1 h8).1
   rw [chunks_at z _ _ _ hil] at h7
   cases h7
   exact hE.gk (hE.col (hx i x h8) fun j hj hk=>by show (if j=id then 1 else K j)=0;rw [if_neg (by omega)];exact hk) (f.gk _)
  ·cases hh
   simp
end
def blk:AV→Option Nat
 | .sl id _ _ _ _=>some id
 | _=>none
theorem Ez.keepB {z n0:Nat} {h h':AH} {v:AV} {m:List AV} (hb:Ez z n0 h v m) (hn:h.nx≤h'.nx) (hg:∀a,blk v=some a→h'.get a=h.get a):Ez z n0 h' v m:=by
 rcases hb with h1 | ⟨id,n,c,tx,rfl,h2,h3,h4,h5⟩
 ·exact .inl h1
 ·exact .inr ⟨id,n,c,tx,rfl,(hg id rfl).trans h2,Nat.lt_of_lt_of_le h3 hn,h4,h5⟩
theorem Ez.blkLt {z n0:Nat} {h:AH} {v:AV} {m:List AV} (hb:Ez z n0 h v m) {a:Nat} (ha:blk v=some a):n0≤a∧a<h.nx:=by
 rcases hb with ⟨rfl,_⟩ | ⟨id,n,c,tx,rfl,h2,h3,h4,h5⟩
 ·cases ha
 ·cases ha
  exact ⟨h4,h3⟩
def inn (q:Nat) (cs:List AV):Option Nat:=(cs[q]?).bind blk
section
variable {α : Type} {z q : Nat} {E : Nat → (Nat → Nat) → AH → List AV → α → Prop}
structure Ey (z q:Nat) (E:Nat→(Nat→Nat)→AH→List AV→α→Prop):Prop where
 gk:∀ {n0:Nat} {K:Nat→Nat} {h h':AH} {cs:List AV} {x:α},E n0 K h cs x→Gk K h h'→(∀a,inn q cs=some a→h'.get a=h.get a)→E n0 K h' cs x
 col:∀ {n0:Nat} {K K':Nat→Nat} {h:AH} {cs:List AV} {x:α},E n0 K h cs x→(∀j,j<h.nx→K j=0→K' j=0)→(∀a,inn q cs=some a→K' a=5)→E n0 K' h cs x
 own:∀ {n0:Nat} {K:Nat→Nat} {h:AH} {cs:List AV} {x:α} {a:Nat},E n0 K h cs x→inn q cs=some a→K a=5∧n0≤a∧a<h.nx
 len:∀ {n0:Nat} {K:Nat→Nat} {h:AH} {cs:List AV} {x:α},E n0 K h cs x→cs.length=z∧cs.all oneA=true
 pos:0<z
def Oy (z q:Nat) (E:Nat→(Nat→Nat)→AH→List AV→α→Prop) (n0:Nat) (K:Nat→Nat) (h:AH) (v:AV) (l:List α):Prop :=
 ∃css:List (List AV),Ez z n0 h v css.flatten∧css.length=l.length∧(∀(i:Nat) cs x,css[i]? = some cs→l[i]? = some x→E n0 K h cs x)∧(∀id o n c,v=.sl id o n z c→K id=1)∧(css.filterMap (inn q)).Nodup
structure Kc (K:Nat→Nat) (h h':AH):Prop where
 nx:h.nx≤h'.nx
 get:∀j,j<h.nx→K j=0∨K j=1∨K j=5→h'.get j=h.get j
theorem Kc.gk {K:Nat→Nat} {h h':AH} (g:Kc K h h'):Gk K h h':=⟨g.nx,fun j hj hk=>g.get j hj (.inl hk)⟩
theorem Fr.kc {h h':AH} (f:Fr h h') (K:Nat→Nat):Kc K h h':=⟨f.nx,fun j hj _=>f.get j hj⟩
section
variable {n0 : Nat} {K K' : Nat → Nat} {h h' : AH} {v : AV} {l : List α}
theorem oy_rows (hE:Ey z q E) {css:List (List AV)} (a3:css.length=l.length) (a4:∀(i:Nat) cs x,css[i]? = some cs→l[i]? = some x→E n0 K h cs x):∀cs∈css,∃x,E n0 K h cs x:=by
 intro cs hcs
 obtain ⟨i,hi⟩:=List.mem_iff_getElem?.1 hcs
 have hl:=(List.getElem?_eq_some_iff.1 hi).1
 exact ⟨_,a4 i cs _ hi (List.getElem?_eq_getElem (by omega))⟩
theorem oy_len (hE:Ey z q E) {css:List (List AV)} (a3:css.length=l.length) (a4:∀(i:Nat) cs x,css[i]? = some cs→l[i]? = some x→E n0 K h cs x):∀cs∈css,cs.length=z:=fun cs hcs=>let ⟨x,hx⟩:=oy_rows hE a3 a4 cs hcs;(hE.len hx).1
theorem oy_one (hE:Ey z q E) {css:List (List AV)} (a3:css.length=l.length) (a4:∀(i:Nat) cs x,css[i]? = some cs→l[i]? = some x→E n0 K h cs x):css.flatten.all oneA=true:=all_flat fun cs hcs=>let ⟨x,hx⟩:=oy_rows hE a3 a4 cs hcs;(hE.len hx).2
theorem Oy.kc (hE:Ey z q E) (hb:Oy z q E n0 K h v l) (g:Kc K h h'):Oy z q E n0 K h' v l:=by
 obtain ⟨css,a2,a3,a4,a5,a6⟩:=hb
 refine ⟨css,?_,a3,fun i cs x h1 h2=>hE.gk (a4 i cs x h1 h2) g.gk fun a ha=>?_,a5,a6⟩
 ·rcases a2 with h1 | ⟨id,n,c,tx,h1,h2,h3,h4,h5⟩
  ·exact .inl h1
  ·exact .inr ⟨id,n,c,tx,h1,(g.get id h3 (.inr (.inl (a5 _ _ _ _ h1)))).trans h2,Nat.lt_of_lt_of_le h3 g.nx,h4,h5⟩
 ·have:=hE.own (a4 i cs x h1 h2) ha
  exact g.get a this.2.2 (.inr (.inr this.1))
theorem Oy.fr (hE:Ey z q E) (hb:Oy z q E n0 K h v l) (f:Fr h h'):Oy z q E n0 K h' v l:=hb.kc hE (f.kc K)
theorem Oy.col (hE:Ey z q E) (hb:Oy z q E n0 K h v l) (hk:∀j,j<h.nx→K j=0∨K j=1∨K j=5→K' j=K j):Oy z q E n0 K' h v l:=by
 obtain ⟨css,a2,a3,a4,a5,a6⟩:=hb
 refine ⟨css,a2,a3,fun i cs x h1 h2=>hE.col (a4 i cs x h1 h2) (fun j hj h0=>(hk j hj (.inl h0)).trans h0) (fun a ha=>?_),fun id o n c hv=>?_,a6⟩
 ·have:=hE.own (a4 i cs x h1 h2) ha
  exact (hk a this.2.2 (.inr (.inr this.1))).trans this.1
 ·rcases a2 with ⟨h1,_⟩ | ⟨id',n',c',tx,h1,h2,h3,_⟩
  ·rw [hv] at h1;cases h1
  ·rw [hv] at h1;cases h1
   exact (hk id h3 (.inr (.inl (a5 _ _ _ _ hv)))).trans (a5 _ _ _ _ hv)
theorem Oy.one (hb:Oy z q E n0 K h v l):oneA v=true∧sameAV 20 v v=true:=let ⟨_,a2,_⟩:=hb;⟨(Ez.one a2).2,(Ez.one a2).1⟩
theorem Oy.id (hE:Ey z q E) (hb:Oy z q E n0 K h v l) {id o n:Nat} {c:Option Nat} (hv:v=.sl id o n z c):n0≤id∧id<h.nx∧K id=1∧o=0∧n=l.length∧(c=none∨c=some n):=by
 obtain ⟨css,a2,a3,a4,a5,_⟩:=hb
 have hr:=oy_len hE a3 a4
 rcases a2 with ⟨h1,_⟩ | ⟨id',n',c',tx,h1,h2,h3,h4,h5,h6,h7⟩
 ·rw [hv] at h1;cases h1
 ·rw [hv] at h1;cases h1
  rw [flz hr] at h5
  have:=Nat.eq_of_mul_eq_mul_right hE.pos h5
  exact ⟨h4,h3,a5 _ _ _ _ hv,rfl,by omega,h6⟩
theorem Oy.nil (n0:Nat) (K:Nat→Nat) (h:AH):Oy z q E n0 K h .nilsl ([]:List α):=⟨[],.inl ⟨rfl,rfl⟩,rfl,(fun i cs x h1 _=>by cases h1),(fun id o n c hh=>by cases hh),List.nodup_nil⟩
theorem Oy.sls (hE:Ey z q E) (hb:Oy z q E n0 K h v l) {K2:Nat→Nat} {E2:List AV→α→Prop} (hk2:∀id o n c,v=.sl id o n z c→K2 id=0) (h2:∀cs x,E n0 K h cs x→E2 cs x):Sl K2 z E2 h v l:=by
 obtain ⟨css,a2,a3,a4,a5,_⟩:=hb
 have hr:=oy_len hE a3 a4
 have hf:=flz hr
 rcases a2 with ⟨rfl,hh2⟩ | ⟨id,n,c,tx,rfl,hh2,h3,h4,h5,h6,h7⟩
 ·rw [hh2] at hf
  refine .inl ⟨rfl,List.length_eq_zero_iff.1 ?_⟩
  rcases Nat.mul_eq_zero.1 (show css.length*z=0 by simpa using hf.symm) with hh | hh
  ·omega
  ·have:=hE.pos;omega
 ·have hn:n=l.length:=by
   rw [hf] at h5
   have:=Nat.eq_of_mul_eq_mul_right hE.pos h5
   omega
  subst hn
  refine .inr ⟨id,0,c,_,_,_,rfl,hh2,h3,hk2 _ _ _ _ rfl,?_,by omega,?_⟩
  ·intro k hk
   rcases h6 with h6 | h6
   ·rw [h6] at hk;cases hk
   ·rw [h6] at hk;cases hk;exact Nat.le_refl _
  ·intro i x hi
   have hil:=(List.getElem?_eq_some_iff.1 hi).1
   have hci:css[i]? = some css[i]:=List.getElem?_eq_getElem (by omega)
   obtain ⟨A,B,e1,e2,_⟩:=flz_at hr hci
   have e3:(css.flatten.drop (0+i*z)).take z=css[i]:=by
    rw [e1,Nat.zero_add,←e2,List.append_assoc,List.drop_left,←hr _ (List.mem_of_getElem? hci),List.take_left]
   rw [e3]
   exact h2 _ _ (a4 i _ x hci hi)
theorem fm_split {css:List (List AV)} {i:Nat} {cs:List AV} (hi:css[i]? = some cs):css.filterMap (inn q)=(css.take i).filterMap (inn q)++((inn q cs).toList++(css.drop (i+1)).filterMap (inn q)):=by
 have hil:=(List.getElem?_eq_some_iff.1 hi).1
 have hd:css.drop i=cs::css.drop (i+1):=by rw [List.drop_eq_getElem_cons hil,(List.getElem?_eq_some_iff.1 hi).2]
 have h0:css.filterMap (inn q)=((css.take i)++css.drop i).filterMap (inn q):=by rw [List.take_append_drop]
 rw [h0,List.filterMap_append,hd,List.filterMap_cons]
 cases inn q cs <;> rfl
theorem fm_other {css:List (List AV)} {i j a:Nat} {cs ds:List AV} (hn:(css.filterMap (inn q)).Nodup) (hi:css[i]? = some cs) (hj:css[j]? = some ds) (ha:inn q cs=some a) (hb:inn q ds=some a):i=j:=by
 rw [fm_split hi,ha] at hn
 obtain ⟨n1,n2,n3⟩:=List.nodup_append.1 hn
 obtain ⟨n4,n5,n6⟩:=List.nodup_append.1 n2
 rcases Nat.lt_trichotomy i j with h | h | h
 ·exfalso
  have:a∈(css.drop (i+1)).filterMap (inn q):=List.mem_filterMap.2 ⟨ds,List.mem_iff_getElem?.2 ⟨j-(i+1),by rw [List.getElem?_drop,show i+1+(j-(i+1))=j by omega];exact hj⟩,hb⟩
  exact n6 a (by simp) a this rfl
 ·exact h
 ·exfalso
  have:a∈(css.take i).filterMap (inn q):=List.mem_filterMap.2 ⟨ds,List.mem_iff_getElem?.2 ⟨j,by rw [List.getElem?_take,if_pos h];exact hj⟩,hb⟩
  exact n3 a this a (by simp) rfl
theorem fm_set {css:List (List AV)} {i:Nat} {cs ds:List AV} (hn:(css.filterMap (inn q)).Nodup) (hi:css[i]? = some cs) (hd:inn q ds=inn q cs∨∀a,inn q ds=some a→a∉css.filterMap (inn q)):((css.set i ds).filterMap (inn q)).Nodup:=by
 have hil:=(List.getElem?_eq_some_iff.1 hi).1
 have e:css.set i ds=css.take i++ds::css.drop (i+1):=by rw [List.set_eq_take_append_cons_drop,if_pos hil]
 have e2:(css.set i ds).filterMap (inn q)=(css.take i).filterMap (inn q)++((inn q ds).toList++(css.drop (i+1)).filterMap (inn q)):=by
  rw [e,List.filterMap_append,List.filterMap_cons]
  cases inn q ds <;> rfl
 rw [e2]
 have h0:=hn
 rw [fm_split hi] at hn
 rcases hd with hd | hd
 ·rw [hd];exact hn
 ·obtain ⟨n1,n2,n3⟩:=List.nodup_append.1 hn
  obtain ⟨n4,n5,n6⟩:=List.nodup_append.1 n2
  have base:((css.take i).filterMap (inn q)++(css.drop (i+1)).filterMap (inn q)).Nodup:=List.nodup_append.2 ⟨n1,n5,fun a ha b hb=>n3 a ha b (List.mem_append_right _ hb)⟩
  cases hx:inn q ds with
  | none=>exact base
  | some a =>
   have ha:=hd a hx
   rw [fm_split hi,List.mem_append,List.mem_append,not_or,not_or] at ha
   refine List.nodup_append.2 ⟨n1,List.nodup_cons.2 ⟨ha.2.2,n5⟩,fun b hb c hc=>?_⟩
   rcases List.mem_cons.1 hc with rfl | hc
   ·intro hh
    subst hh
    exact ha.1 hb
   ·exact n3 b hb c (List.mem_append_right _ hc)
theorem Oy.at (hE:Ey z q E) (hb:Oy z q E n0 K h v l) {i:Nat} {x:α} (hi:l[i]? = some x):∃(id:Nat) (c:Option Nat) (css:List (List AV)) (cs A B:List AV),v=.sl id 0 l.length z c∧h.get id=some (.cells css.flatten true false)∧css[i]? = some cs∧css.flatten=A++cs++B∧A.length=i*z∧i*z+z≤css.flatten.length∧E n0 K h cs x∧css.length=l.length∧(∀(i:Nat) cs x,css[i]? = some cs→l[i]? = some x→E n0 K h cs x)∧(css.filterMap (inn q)).Nodup∧(c=none∨c=some l.length)∧n0≤id∧id<h.nx∧K id=1:=by
 have hil:=(List.getElem?_eq_some_iff.1 hi).1
 have hid:=fun id o n c=>hb.id hE (id:=id) (o:=o) (n:=n) (c:=c)
 obtain ⟨css,a2,a3,a4,a5,a6⟩:=hb
 have hr:=oy_len hE a3 a4
 have hf:=flz hr
 have hci:css[i]? = some css[i]:=List.getElem?_eq_getElem (by omega)
 obtain ⟨A,B,e1,e2,_⟩:=flz_at hr hci
 have hle:i*z+z≤css.flatten.length:=by
  rw [hf,←Nat.succ_mul]
  exact Nat.mul_le_mul_right z (by omega)
 have hp:=hE.pos
 rcases a2 with ⟨rfl,h2⟩ | ⟨id,n,c,tx,rfl,h2,h3,h4,h5,h6,h7⟩
 ·rw [h2] at hle
  simp at hle
  omega
 ·obtain ⟨b1,b2,b3,b4,rfl,b6⟩:=hid _ _ _ _ rfl
  have ht:tx=false:=by
   rcases h7 with h7 | ⟨h7,_⟩
   ·exact h7
   ·rw [h7] at hle;simp at hle;omega
  subst ht
  exact ⟨id,c,css,_,A,B,rfl,h2,hci,e1,e2,hle,a4 i _ x hci hi,a3,a4,a6,b6,h4,h3,b3⟩
theorem Oy.chg2 (hE:Ey z q E) {i:Nat} {x x':α} {id n:Nat} {c:Option Nat} {css:List (List AV)} {cs ds:List AV} (hb:Oy z q E n0 K h v l) (hv:v=.sl id 0 n z c) (a3:css.length=l.length) (a4:∀(i:Nat) cs x,css[i]? = some cs→l[i]? = some x→E n0 K h cs x) (a6:(css.filterMap (inn q)).Nodup)
  (hi:l[i]? = some x) (hci:css[i]? = some cs) (hg:h'.get id=some (.cells (css.set i ds).flatten true false)) (hnx:h.nx≤h'.nx) (hgk:∀j,j<h.nx→K j=0∨K j=1∨K j=5→j≠id→inn q cs≠some j→h'.get j=h.get j)
  (hc0:∀j,j<h.nx→K' j=K j) (hnew:inn q ds=inn q cs∨∀a,inn q ds=some a→h.nx≤a)
  (hx:E n0 K' h' ds x'):Oy z q E n0 K' h' v (l.set i x'):=by
 obtain ⟨b1,b2,b3,b4,rfl,b6⟩:=hb.id hE hv
 have hr:=oy_len hE a3 a4
 have hil:=(List.getElem?_eq_some_iff.1 hi).1
 have hlen:(css.set i ds).flatten.length=l.length*z:=by
  rw [flz (z:=z),List.length_set,a3]
  intro cs' hcs'
  rcases List.mem_or_eq_of_mem_set hcs' with hh | rfl
  ·exact hr _ hh
  ·exact (hE.len hx).1
 have hin:∀ {j:Nat} {cj:List AV} {y:α} {a:Nat},css[j]? = some cj→l[j]? = some y→inn q cj=some a→K a=5∧n0≤a∧a<h.nx:=fun h1 h2 h3=>hE.own (a4 _ _ _ h1 h2) h3
 refine ⟨css.set i ds,.inr ⟨id,_,c,false,hv,hg,Nat.lt_of_lt_of_le b2 hnx,b1,hlen,b6,.inl rfl⟩,by simp [a3],?_,fun id' o' n' c' hh=>?_,fm_set a6 hci ?_⟩
 ·intro j cj y h1 h2
  rw [List.getElem?_set] at h1 h2
  by_cases e:i=j
  ·subst e
   rw [if_pos rfl,if_pos (by omega)] at h1 h2
   cases h1;cases h2
   exact hx
  ·rw [if_neg e] at h1 h2
   have hne:∀a,inn q cj=some a→inn q cs≠some a:=fun a ha hh=>e (fm_other a6 hci h1 hh ha)
   have g1:Gk K' h h':=⟨hnx,fun m hm hm0=>by
    rw [hc0 m hm] at hm0
    exact hgk m hm (.inl hm0) (fun hh=>by subst hh;omega) fun hh=>by
     have:=(hin hci hi hh).1
     omega⟩
   refine hE.gk (hE.col (a4 j cj y h1 h2) (fun m hm hm0=>(hc0 m hm).trans hm0) fun a ha=>?_) g1 fun a ha=>?_
   ·have:=hin h1 h2 ha
    exact (hc0 a this.2.2).trans this.1
   ·have:=hin h1 h2 ha
    exact hgk a this.2.2 (.inr (.inr this.1)) (fun hh=>by subst hh;omega) (hne a ha)
 ·rw [hv] at hh
  cases hh
  exact (hc0 id b2).trans b3
 ·rcases hnew with hh | hh
  ·exact .inl hh
  ·refine .inr fun a ha hm=>?_
   obtain ⟨cj,hcj,hcja⟩:=List.mem_filterMap.1 hm
   obtain ⟨j,hj⟩:=List.mem_iff_getElem?.1 hcj
   have hjl:=(List.getElem?_eq_some_iff.1 hj).1
   have:=(hin hj (List.getElem?_eq_getElem (by omega)) hcja).2.2
   have:=hh a ha
   omega
theorem Oy.chg (hE:Ey z q E) {i k:Nat} {x x':α} {id n:Nat} {c:Option Nat} {css:List (List AV)} {cs vs:List AV} (hb:Oy z q E n0 K h v l) (hv:v=.sl id 0 n z c) (hg:h.get id=some (.cells css.flatten true false)) (a3:css.length=l.length) (a4:∀(i:Nat) cs x,css[i]? = some cs→l[i]? = some x→E n0 K h cs x) (a6:(css.filterMap (inn q)).Nodup)
  (hi:l[i]? = some x) (hci:css[i]? = some cs) (hk:k+vs.length≤z) (hnx:h.nx≤h'.nx) (hgk:∀j,j<h.nx→K j=0∨K j=1∨K j=5→inn q cs≠some j→h'.get j=h.get j)
  (hc0:∀j,j<h.nx→K' j=K j) (hnew:inn q (putCells cs k vs)=inn q cs∨∀a,inn q (putCells cs k vs)=some a→h.nx≤a)
  (hx:E n0 K' (h'.put id (.cells (putCells css.flatten (i*z+k) vs) true false)) (putCells cs k vs) x'):Oy z q E n0 K' (h'.put id (.cells (putCells css.flatten (i*z+k) vs) true false)) v (l.set i x'):=by
 refine hb.chg2 hE hv a3 a4 a6 hi hci ?_ hnx (fun j hj hk hne hh=>(AH.get_put_ne hne).trans (hgk j hj hk hh)) hc0 hnew hx
 rw [flz_put (oy_len hE a3 a4) hci hk]
 exact AH.get_put_eq rfl
theorem Oy.ins (hE:Ey z q E) {i:Nat} {x:α} {xs:List AV} {r:AV} {id:Nat} {css:List (List AV)} (a2:Ez z n0 h' r (css.flatten.take (i*z)++xs++css.flatten.drop (i*z))) (hr:∀id' o n c,r=.sl id' o n z c→id'=id) (hid:h.nx≤id) (a3:css.length=l.length) (a4:∀(i:Nat) cs x,css[i]? = some cs→l[i]? = some x→E n0 K h cs x) (a6:(css.filterMap (inn q)).Nodup)
  (hi:i≤l.length) (hin:inn q xs=none) (hx:E n0 K h xs x) (hnx:h.nx≤h'.nx) (hgk:∀j,j<h.nx→K j=0∨K j=5→h'.get j=h.get j) (hc0:∀j,j<h.nx→K' j=K j) (hc1:K' id=1):Oy z q E n0 K' h' r (l.take i++x::l.drop i):=by
 have hl:=oy_len hE a3 a4
 obtain ⟨d1,d2⟩:=flz_drop hl i (by omega)
 have step:∀ {cj:List AV} {y:α},E n0 K h cj y→E n0 K' h' cj y:=fun h1=>by
  refine hE.gk (hE.col h1 (fun m hm hm0=>(hc0 m hm).trans hm0) fun a ha=>?_) ⟨hnx,fun m hm hm0=>hgk m hm (.inl (by rw [←hc0 m hm];exact hm0))⟩ fun a ha=>?_
  ·have:=hE.own h1 ha
   exact (hc0 a this.2.2).trans this.1
  ·have:=hE.own h1 ha
   exact hgk a this.2.2 (.inr this.1)
 refine ⟨css.take i++xs::css.drop i,?_,by simp;omega,fun j cj y h1 h2=>?_,fun id' o n c hv=>by rw [hr _ _ _ _ hv];exact hc1,?_⟩
 ·rw [List.flatten_append,List.flatten_cons,←d1,←d2,←List.append_assoc]
  exact a2
 ·rcases Nat.lt_trichotomy j i with e | e | e
  ·rw [List.getElem?_append_left (by rw [List.length_take];omega),List.getElem?_take,if_pos e] at h1 h2
   exact step (a4 j cj y h1 h2)
  ·subst e
   rw [List.getElem?_append_right (by rw [List.length_take];omega),List.length_take,Nat.min_eq_left (by omega),Nat.sub_self] at h1 h2
   cases h1;cases h2
   exact step hx
  ·obtain ⟨m,rfl⟩:∃m,j=i+1+m:=⟨j-(i+1),by omega⟩
   rw [List.getElem?_append_right (by rw [List.length_take];omega),List.length_take,Nat.min_eq_left (by omega),show i+1+m-i=m+1 by omega,List.getElem?_cons_succ,List.getElem?_drop] at h1 h2
   exact step (a4 _ cj y h1 h2)
 ·rw [List.filterMap_append,List.filterMap_cons,hin,←List.filterMap_append,List.take_append_drop]
  exact a6
theorem Oy.del (hE:Ey z q E) {i:Nat} {r:AV} {id:Nat} {css:List (List AV)} (a2:Ez z n0 h' r (css.flatten.take (i*z)++css.flatten.drop ((i+1)*z))) (hr:∀id' o n c,r=.sl id' o n z c→id'=id) (hid:h.nx≤id) (a3:css.length=l.length) (a4:∀(i:Nat) cs x,css[i]? = some cs→l[i]? = some x→E n0 K h cs x) (a6:(css.filterMap (inn q)).Nodup)
  (hi:i<l.length) (hnx:h.nx≤h'.nx) (hgk:∀j,j<h.nx→K j=0∨K j=5→h'.get j=h.get j) (hc0:∀j,j<h.nx→K' j=K j) (hc1:K' id=1):Oy z q E n0 K' h' r (l.take i++l.drop (i+1)):=by
 have hl:=oy_len hE a3 a4
 obtain ⟨_,d2⟩:=flz_drop hl i (by omega)
 obtain ⟨d1,_⟩:=flz_drop hl (i+1) (by omega)
 have step:∀ {cj:List AV} {y:α},E n0 K h cj y→E n0 K' h' cj y:=fun h1=>by
  refine hE.gk (hE.col h1 (fun m hm hm0=>(hc0 m hm).trans hm0) fun a ha=>?_) ⟨hnx,fun m hm hm0=>hgk m hm (.inl (by rw [←hc0 m hm];exact hm0))⟩ fun a ha=>?_
  ·have:=hE.own h1 ha
   exact (hc0 a this.2.2).trans this.1
  ·have:=hE.own h1 ha
   exact hgk a this.2.2 (.inr this.1)
 refine ⟨css.take i++css.drop (i+1),?_,by simp;omega,fun j cj y h1 h2=>?_,fun id' o n c hv=>by rw [hr _ _ _ _ hv];exact hc1,?_⟩
 ·rw [List.flatten_append,←d1,←d2]
  exact a2
 ·rcases Nat.lt_or_ge j i with e | e
  ·rw [List.getElem?_append_left (by rw [List.length_take];omega),List.getElem?_take,if_pos e] at h1 h2
   exact step (a4 j cj y h1 h2)
  ·rw [List.getElem?_append_right (by rw [List.length_take];omega),List.length_take,Nat.min_eq_left (by omega),List.getElem?_drop] at h1 h2
   exact step (a4 _ cj y h1 h2)
 ·refine List.Nodup.sublist ?_ a6
  refine List.Sublist.filterMap _ ?_
  have h1:(css.take i++css.drop (i+1)).Sublist (css.take i++css.drop i):=List.Sublist.append (List.Sublist.refl _) (by rw [←List.drop_drop];exact List.drop_sublist _ _)
  rwa [List.take_append_drop] at h1
theorem fm_nodup {q:Nat}:∀ {css:List (List AV)},(∀(j k:Nat) cs ds a,css[j]? = some cs→css[k]? = some ds→inn q cs=some a→inn q ds=some a→j=k)→(css.filterMap (inn q)).Nodup
 | [],_=>List.nodup_nil
 | cs::css,h=>by
  have ih:=fm_nodup (q:=q) (css:=css) fun j k c d a h1 h2 h3 h4=>by
   have:=h (j+1) (k+1) c d a (by simpa using h1) (by simpa using h2) h3 h4
   omega
  rw [List.filterMap_cons]
  cases hx:inn q cs with
  | none=>exact ih
  | some a =>
   refine List.nodup_cons.2 ⟨fun hm=>?_,ih⟩
   obtain ⟨ds,hds,hda⟩:=List.mem_filterMap.1 hm
   obtain ⟨k,hk⟩:=List.mem_iff_getElem?.1 hds
   have:=h 0 (k+1) cs ds a rfl (by simpa using hk) hx hda
   omega
end
end
section
variable {α : Type} {z : Nat} {E : (Nat → Nat) → AH → List AV → α → Prop} {P : Program}
theorem Oz.app (hE:El z E) {n0 bt i:Nat} {K:Nat→Nat} {h:AH} {v:AV} {l:List α} {cb:List AV} {x:α} {st e:TypeId} (hb:Oz z E n0 K h v l) (hu:P.underlying st=some (.slice e)) (hi:appI P e=some (z,bt)) (hx:E K h cb x) (hg:h.get i=some (.cells cb true false)) (hn0:n0≤h.nx) (hl:(2*((l.length+1)*z)+1000)*bt≤1099511627776) (hl2:(l.length+1)*z≤1099511627776) :
  ∃id h',evAppend P h #[st,st] v (.sl i 0 1 z (some 1))=some (.val (.sl id 0 (l.length+1) z none) h')∧h.nx≤id∧id<h'.nx∧h.nx≤h'.nx∧(∀j,j<h.nx→(∀id o n c,v=.sl id o n z c→j≠id)→h'.get j=h.get j) ∧
   ∀K',(∀j,j<h.nx→K' j=K j)→K' id≠0→Oz z E n0 K' h' (.sl id 0 (l.length+1) z none) (l++[x]):=by
 obtain ⟨css,a2,a3,a4,a5⟩:=hb
 have hr:=oz_rows hE a3 a4
 have hf:=flz fun cs hcs=>(hr cs hcs).1
 obtain ⟨hc7,hco⟩:=hE.len hx
 have hz:=hE.pos
 have hlz:(l.length+1)*z=css.flatten.length+cb.length:=by rw [hf,hc7,a3,Nat.succ_mul]
 obtain ⟨v',h',b1,b2,b3,b4,b5,b6,b7⟩:=Ez.app2 (P:=P) (h0:={ tr:=h.tr,nx:=n0 }) (h:=h) (v:=v) (x:=.sl i 0 1 z (some 1)) (l:=css.flatten) (m:=cb) (k:=1) hu hu (by rfl) hi hz a2 rfl (by rw [firstA_sl hg (Nat.le_refl _) (by omega),List.drop_zero,←hc7,Nat.one_mul,List.take_length]) (by omega) hco ⟨hn0,fun _ _=>rfl⟩ (by rw [←hlz];exact hl) (by rw [←hlz];exact hl2)
 rcases b7 with ⟨h1,_⟩ | ⟨id,n,rfl,hid⟩
 ·cases h1
 ·have b3':n0≤id∧id<h'.nx∧n=l.length+1:=by
   rcases b3 with ⟨hh,_⟩ | ⟨id',n',c',tx',hh,_,h3,h4,h5,_⟩
   ·cases hh
   ·cases hh
    refine ⟨h4,h3,?_⟩
    rw [List.length_append,←hlz] at h5
    exact (Nat.eq_of_mul_eq_mul_right hz h5).symm
  obtain ⟨c1,c2,rfl⟩:=b3'
  refine ⟨id,h',b1,hid,c2,b5,b6,fun K' hk hkid=>⟨css++[cb],by rw [List.flatten_append];simpa using b3,by simp [a3],?_,fun id' o' n' c' hh=>by cases hh;exact hkid⟩⟩
  have step:∀ {cj:List AV} {y:α},E K h cj y→E K' h' cj y:=fun h1=>hE.gk (hE.col h1 fun j hj hk0=>(hk j hj).trans hk0) ⟨b5,fun j hj hk0=>b6 j hj fun id' o n c hv hh=>a5 id' o n c hv (by rw [←hh,←hk j hj];exact hk0)⟩
  intro j cs y h1 h2
  rcases Nat.lt_or_ge j css.length with hh | hh
  ·rw [List.getElem?_append_left hh] at h1
   rw [List.getElem?_append_left (by omega)] at h2
   exact step (a4 j cs y h1 h2)
  ·rw [List.getElem?_append_right hh] at h1
   rw [List.getElem?_append_right (by omega)] at h2
   have e1:j-css.length=0:=by
    rcases Nat.eq_zero_or_pos (j-css.length) with e | e
    ·exact e
    ·rw [List.getElem?_eq_none (by simp only [List.length_singleton];omega)] at h1;cases h1
   rw [e1] at h1
   rw [←a3,e1] at h2
   cases h1;cases h2
   exact step hx
theorem Oz.ins (hE:El z E) {n0 i:Nat} {K K':Nat→Nat} {h h':AH} {l:List α} {xs:List AV} {x:α} {r:AV} {css:List (List AV)} (a2:Ez z n0 h' r (css.flatten.take (i*z)++xs++css.flatten.drop (i*z))) (a3:css.length=l.length) (a4:∀(i:Nat) cs x,css[i]? = some cs→l[i]? = some x→E K h cs x) (hi:i≤l.length) (hx:E K h xs x) (gk:Gk K h h') (hc0:∀j,j<h.nx→K' j=K j) (hr:∀id o n c,r=.sl id o n z c→K' id≠0):Oz z E n0 K' h' r (l.take i++x::l.drop i):=by
 have hl:∀cs∈css,cs.length=z:=fun cs hcs=>(oz_rows hE a3 a4 cs hcs).1
 obtain ⟨d1,d2⟩:=flz_drop hl i (by omega)
 have step:∀ {cj:List AV} {y:α},E K h cj y→E K' h' cj y:=fun h1=>hE.gk (hE.col h1 fun j hj hk=>(hc0 j hj).trans hk) ⟨gk.nx,fun j hj hk=>gk.get j hj (by rw [←hc0 j hj];exact hk)⟩
 refine ⟨css.take i++xs::css.drop i,?_,by simp;omega,fun j cj y h1 h2=>?_,hr⟩
 ·rw [List.flatten_append,List.flatten_cons,←d1,←d2,←List.append_assoc]
  exact a2
 ·rcases Nat.lt_trichotomy j i with e | e | e
  ·rw [List.getElem?_append_left (by rw [List.length_take];omega),List.getElem?_take,if_pos e] at h1 h2
   exact step (a4 j cj y h1 h2)
  ·subst e
   rw [List.getElem?_append_right (by rw [List.length_take];omega),List.length_take,Nat.min_eq_left (by omega),Nat.sub_self] at h1 h2
   cases h1;cases h2
   exact step hx
  ·obtain ⟨m,rfl⟩:∃m,j=i+1+m:=⟨j-(i+1),by omega⟩
   rw [List.getElem?_append_right (by rw [List.length_take];omega),List.length_take,Nat.min_eq_left (by omega),show i+1+m-i=m+1 by omega,List.getElem?_cons_succ,List.getElem?_drop] at h1 h2
   exact step (a4 _ cj y h1 h2)
end
section
variable {α : Type} {z q : Nat} {E : Nat → (Nat → Nat) → AH → List AV → α → Prop} {P : Program}
theorem Oy.app (hE:Ey z q E) {n0 bt i:Nat} {K:Nat→Nat} {h1 h:AH} {v:AV} {l:List α} {cb:List AV} {x:α} {st e:TypeId} (hb1:Oy z q E n0 K h1 v l) (kc:Kc K h1 h) (hu:P.underlying st=some (.slice e)) (hi:appI P e=some (z,bt)) (hx:E n0 K h cb x) (hfr:∀a,inn q cb=some a→h1.nx≤a)
  (hg:h.get i=some (.cells cb true false)) (hn0:n0≤h.nx) (hl:(2*((l.length+1)*z)+1000)*bt≤1099511627776) (hl2:(l.length+1)*z≤1099511627776) :
  ∃id h',evAppend P h #[st,st] v (.sl i 0 1 z (some 1))=some (.val (.sl id 0 (l.length+1) z none) h')∧h.nx≤id∧id<h'.nx∧h.nx≤h'.nx∧(∀j,j<h.nx→(∀id o n c,v=.sl id o n z c→j≠id)→h'.get j=h.get j) ∧
   ∀K',(∀j,j<h.nx→K' j=K j)→K' id=1→Oy z q E n0 K' h' (.sl id 0 (l.length+1) z none) (l++[x]):=by
 have hb:=hb1.kc hE kc
 have hid':=fun id o n c hv=>hb.id hE (id:=id) (o:=o) (n:=n) (c:=c) hv
 obtain ⟨css,a21,a3,a41,a5,a6⟩:=hb1
 have a2:Ez z n0 h v css.flatten:=a21.keepB kc.nx fun a ha=>kc.get a (a21.blkLt ha).2 (.inr (.inl (by
  rcases a21 with ⟨rfl,_⟩ | ⟨id',n',c',tx',rfl,_⟩
  ·cases ha
  ·cases ha
   exact a5 _ _ _ _ rfl)))
 have a4:∀(i:Nat) cs x,css[i]? = some cs→l[i]? = some x→E n0 K h cs x:=fun i cs x h1 h2=>hE.gk (a41 i cs x h1 h2) kc.gk fun a ha=>kc.get a (hE.own (a41 i cs x h1 h2) ha).2.2 (.inr (.inr (hE.own (a41 i cs x h1 h2) ha).1))
 have hr:=oy_len hE a3 a4
 have hfl:=flz hr
 obtain ⟨hc7,hco⟩:=hE.len hx
 have hz:=hE.pos
 have hlz:(l.length+1)*z=css.flatten.length+cb.length:=by rw [hfl,hc7,a3,Nat.succ_mul]
 have hfresh:∀a,inn q cb=some a→a∉css.filterMap (inn q):=fun a ha hm=>by
  obtain ⟨cj,hcj,hcja⟩:=List.mem_filterMap.1 hm
  obtain ⟨j,hj⟩:=List.mem_iff_getElem?.1 hcj
  have hjl:=(List.getElem?_eq_some_iff.1 hj).1
  have:=(hE.own (a41 j cj _ hj (List.getElem?_eq_getElem (by omega))) hcja).2.2
  have:=hfr a ha
  omega
 obtain ⟨v',h',b1,b2,b3,b4,b5,b6,b7⟩:=Ez.app2 (P:=P) (h0:={ tr:=h.tr,nx:=n0 }) (h:=h) (v:=v) (x:=.sl i 0 1 z (some 1)) (l:=css.flatten) (m:=cb) (k:=1) hu hu (by rfl) hi hz a2 rfl (by rw [firstA_sl hg (Nat.le_refl _) (by omega),List.drop_zero,←hc7,Nat.one_mul,List.take_length]) (by omega) hco ⟨hn0,fun _ _=>rfl⟩ (by rw [←hlz];exact hl) (by rw [←hlz];exact hl2)
 rcases b7 with ⟨h1,_⟩ | ⟨id,n,rfl,hid⟩
 ·cases h1
 ·have b3':n0≤id∧id<h'.nx∧n=l.length+1:=by
   rcases b3 with ⟨hh,_⟩ | ⟨id',n',c',tx',hh,_,h3,h4,h5,_⟩
   ·cases hh
   ·cases hh
    refine ⟨h4,h3,?_⟩
    rw [List.length_append,←hlz] at h5
    exact (Nat.eq_of_mul_eq_mul_right hz h5).symm
  obtain ⟨c1,c2,rfl⟩:=b3'
  refine ⟨id,h',b1,hid,c2,b5,b6,fun K' hk hkid=>⟨css++[cb],by rw [List.flatten_append];simpa using b3,by simp [a3],?_,fun id' o' n' c' hh=>by cases hh;exact hkid,?_⟩⟩
  ·have step:∀ {cj:List AV} {y:α},E n0 K h cj y→E n0 K' h' cj y:=fun h1=>hE.gk (hE.col h1 (fun j hj hk0=>(hk j hj).trans hk0) fun a ha=>(hk a (hE.own h1 ha).2.2).trans (hE.own h1 ha).1) ⟨b5,fun j hj hk0=>b6 j hj fun id' o n c hv hh=>by
    have:=(hid' id' o n c hv).2.2.1
    rw [hk j hj] at hk0
    rw [hh] at hk0
    omega⟩ fun a ha=>b6 a (hE.own h1 ha).2.2 fun id' o n c hv hh=>by
    have:=(hid' id' o n c hv).2.2.1
    have:=(hE.own h1 ha).1
    rw [hh] at this
    omega
   intro j cs y h1 h2
   rcases Nat.lt_or_ge j css.length with hh | hh
   ·rw [List.getElem?_append_left hh] at h1
    rw [List.getElem?_append_left (by omega)] at h2
    exact step (a4 j cs y h1 h2)
   ·rw [List.getElem?_append_right hh] at h1
    rw [List.getElem?_append_right (by omega)] at h2
    have e1:j-css.length=0:=by
     rcases Nat.eq_zero_or_pos (j-css.length) with e | e
     ·exact e
     ·rw [List.getElem?_eq_none (by simp only [List.length_singleton];omega)] at h1;cases h1
    rw [e1] at h1
    rw [←a3,e1] at h2
    cases h1;cases h2
    exact step hx
  ·rw [List.filterMap_append,List.filterMap_cons]
   cases hq:inn q cb with
   | none=>simpa using a6
   | some a =>
    refine List.nodup_append.2 ⟨a6,by simp,fun b hb c hc hh=>?_⟩
    simp at hc
    subst hc
    subst hh
    exact hfresh b hq hb
end
open Go.RowKit Go.Proofs
section
variable {P : Program} {ρ : Pm} {w : World} {K : Kp} {h : AH}
/-! ### A number's text -/
theorem tab_of (hR : Rel K ρ h w) (hg : P.globalNamed "internal/strconv.uint64pow10" = some glN) : Lib.TabIs P w "internal/strconv.uint64pow10" .u64 Lib.pow10Tab := by
 obtain ⟨a,b,e⟩:=K.gl
 unfold Lib.TabIs World.var?
 rw [hg]
 simp only [Option.bind_some,hR.keep _ _ e]
 rfl
def ItoaAt (P : Program) (f : FuncId) : Prop := ∀ (n : Int) (w : World), 0 ≤ n → n < 1000 → Lib.TabIs P w "internal/strconv.uint64pow10" .u64 Lib.pow10Tab → Calls P f #[.int .i64 n] w fun e w' => e = .returned (.string ⟨(Lib.itoa n).toArray⟩) ∧ Below w.heap.size w w'
noncomputable def sumItoa (args:List AV) (h:AH):Option (AV×AH) :=
 match args with
 | [.int .i64 n]=>if 0≤n∧n<1000 then some (.str ((Lib.itoa n).map UInt8.toNat),h) else none
 | _=>none
theorem itoa_len {n:Nat} (hn:n<1000):((Lib.itoa (n:Nat)).map UInt8.toNat).length≤3:=by
 rw [List.length_map]
 unfold Lib.itoa
 rw [if_neg (by omega),Int.toNat_natCast]
 unfold Lib.decDigits
 split
 ·simp
 ·unfold Lib.decDigits
  split
  ·simp
  ·unfold Lib.decDigits
   split
   ·simp
   ·omega
theorem sumItoa_at {n:Nat} (hn:n<1000) (h:AH):∃s:List Nat,s.length≤3∧sumItoa [.int .i64 (n:Nat)] h=some (.str s,h):=⟨_,itoa_len hn,by unfold sumItoa;exact if_pos ⟨Int.natCast_nonneg n,Int.ofNat_lt.2 hn⟩⟩
theorem sumItoa_ok {f : FuncId} (hE : ItoaAt P f) (hb : bodied P f = true) (hg : P.globalNamed "internal/strconv.uint64pow10" = some glN) {args : List AV} {cargs : Array Value} {v : AV} {h' : AH} (hR : Rel K ρ h w) (hv : VRs ρ args cargs.toList) (hs : sumItoa args h = some (v, h')) : CallRes P f cargs w (CallPost K h ρ v h') := by
 unfold sumItoa at hs
 split at hs
 ·rename_i n
  split at hs
  ·rename_i hn
   obtain ⟨cx,rfl,h1⟩:=args1 hv
   cases h1
   simp only [Option.some.injEq,Prod.mk.injEq] at hs
   obtain ⟨rfl,rfl⟩:=hs
   refine callRes_body hb (Calls.mono (hE n w hn.1 hn.2 (tab_of hR hg)) fun e w' ⟨he,hbel⟩=>⟨_,he,ρ,Ext.refl _ _,?_,hR.below hbel⟩)
   have h7:(Lib.itoa n).map UInt8.toNat=bytesOf ⟨(Lib.itoa n).toArray⟩:=by simp [bytesOf]
   rw [h7]
   exact .str _
  ·cases hs
 ·cases hs
/-! ### A text's number -/
def numA (acc:Nat):List Nat→Nat
 | []=>acc
 | c::r=>numA (acc*10+(c-48)) r
theorem decFrom_num:∀(l:List UInt8) (acc:Nat),(∀b∈l,48≤b.toNat∧b.toNat≤57)→Lib.decFrom acc l=some (numA acc (l.map UInt8.toNat))
 | [],acc,_=>rfl
 | b::r,acc,hb=>by
  have h1:=hb b (List.mem_cons_self ..)
  have h2:Lib.digitVal b=some (b.toNat-48):=if_pos h1
  unfold Lib.decFrom
  rw [h2]
  exact decFrom_num r _ fun x hx=>hb x (List.mem_cons_of_mem _ hx)
theorem atoi_num {l:List UInt8} (h0:1≤l.length) (hb:∀b∈l,48≤b.toNat∧b.toNat≤57):Lib.atoi l=some ((numA 0 (l.map UInt8.toNat):Nat):Int):=by
 cases l with
 | nil=>simp at h0
 | cons b r =>
  have h1:=hb b (List.mem_cons_self ..)
  have e1:(b==45)=false:=by
   rw [beq_eq_false_iff_ne]
   intro hh
   rw [hh] at h1
   exact absurd h1.1 (by decide)
  have e2:(b==43)=false:=by
   rw [beq_eq_false_iff_ne]
   intro hh
   rw [hh] at h1
   exact absurd h1.1 (by decide)
  unfold Lib.atoi
  simp only [e1,e2,Bool.false_eq_true,if_false]
  unfold Lib.decNat
  rw [if_neg (by simp),decFrom_num _ _ hb]
  rfl
def AtoiAt (P:Program) (f:FuncId):Prop:=∀(s:ByteArray) (n:Int) (w:World),s.size≤18→Lib.atoi s.data.toList=some n→Calls P f #[.string s] w fun e w'=>e=.returned (.tuple #[.int .i64 n,.nilIface])∧Below w.heap.size w w'
noncomputable def sumAtoi (args:List AV) (h:AH):Option (AV×AH) :=
 match args with
 | [.str s]=>if 1≤s.length∧s.length≤3∧∀c∈s,48≤c∧c≤57 then some (.tup [.int .i64 (numA 0 s:Nat),.nilif],h) else none
 | _=>none
theorem numA_lt {s:List Nat} (h1:1≤s.length) (h3:s.length≤3) (hb:∀c∈s,48≤c∧c≤57):numA 0 s<1000:=by
 rcases s with _ | ⟨a,_ | ⟨b,_ | ⟨c,_ | ⟨d,r⟩⟩⟩⟩
 ·exact absurd h1 (by decide)
 ·have:=hb a (List.mem_cons_self ..)
  show 0*10+(a-48)<1000
  omega
 ·have:=hb a (List.mem_cons_self ..)
  have:=hb b (List.mem_cons_of_mem _ (List.mem_cons_self ..))
  show (0*10+(a-48))*10+(b-48)<1000
  omega
 ·have:=hb a (List.mem_cons_self ..)
  have:=hb b (List.mem_cons_of_mem _ (List.mem_cons_self ..))
  have:=hb c (List.mem_cons_of_mem _ (List.mem_cons_of_mem _ (List.mem_cons_self ..)))
  show ((0*10+(a-48))*10+(b-48))*10+(c-48)<1000
  omega
 ·simp only [List.length_cons] at h3;omega
theorem sumAtoi_at {s:List Nat} (h1:1≤s.length) (h3:s.length≤3) (hb:∀x∈s,48≤x∧x≤57) (h:AH):∃n:Nat,n<1000∧sumAtoi [.str s] h=some (.tup [.int .i64 (n:Nat),.nilif],h):=⟨_,numA_lt h1 h3 hb,by unfold sumAtoi;exact if_pos ⟨h1,h3,hb⟩⟩
theorem sumAtoi_ok {f:FuncId} (hE:AtoiAt P f) (hbd:bodied P f=true) {args:List AV} {cargs:Array Value} {v:AV} {h':AH} (hR:Rel K ρ h w) (hv:VRs ρ args cargs.toList) (hs:sumAtoi args h=some (v,h')):CallRes P f cargs w (CallPost K h ρ v h'):=by
 unfold sumAtoi at hs
 split at hs
 ·rename_i s
  split at hs
  ·rename_i hc
   obtain ⟨cx,rfl,h1⟩:=args1 hv
   cases h1
   rename_i sb
   simp only [Option.some.injEq,Prod.mk.injEq] at hs
   obtain ⟨rfl,rfl⟩:=hs
   have e0:bytesOf sb=sb.data.toList.map UInt8.toNat:=rfl
   have hb:∀b∈sb.data.toList,48≤b.toNat∧b.toNat≤57:=fun b hb=>hc.2.2 _ (by rw [e0];exact List.mem_map.2 ⟨b,hb,rfl⟩)
   have hl:sb.data.toList.length=(bytesOf sb).length:=by rw [e0,List.length_map]
   have hsz:sb.size≤18:=by
    have:sb.size=sb.data.toList.length:=(Array.length_toList (xs:=sb.data)).symm
    omega
   refine callRes_body hbd (Calls.mono (hE sb _ w hsz (atoi_num (by omega) hb)) fun e w' ⟨he,hbel⟩=>⟨_,he,ρ,Ext.refl _ _,?_,hR.below hbel⟩)
   rw [e0]
   exact .tup (.cons (.int _ _) (.cons .nilif .nil))
  ·cases hs
 ·cases hs
/-! ### Sums with a carry -/
noncomputable def sumAdd (args:List AV) (h:AH):Option (AV×AH) :=
 match args with
 | [.int .u64 a,.int .u64 b,.int .u64 0]=>some (.tup [.int .u64 (Int.ofNat ((a.toNat+b.toNat+0)%Extern.MathBitsCarry.m64)),.int .u64 (Int.ofNat ((a.toNat+b.toNat+0)/Extern.MathBitsCarry.m64))],h)
 | _=>none
theorem sumAdd_ok {f:FuncId} (hE:ExtOK P f add64Entry) {args:List AV} {cargs:Array Value} {v:AV} {h':AH} (hR:Rel K ρ h w) (hv:VRs ρ args cargs.toList) (hs:sumAdd args h=some (v,h')):CallRes P f cargs w (CallPost K h ρ v h'):=by
 unfold sumAdd at hs
 split at hs
 ·rename_i a b
  obtain ⟨ca,r1,e1,h1,h2⟩:∃ca r,cargs.toList=ca::r∧VR ρ (.int .u64 a) ca∧VRs ρ [.int .u64 b,.int .u64 0] r:=by
   cases hh:cargs.toList with
   | nil=>rw [hh] at hv;cases hv
   | cons x l=>rw [hh] at hv;cases hv with | cons p q=>exact ⟨x,l,rfl,p,q⟩
  cases h1
  cases h2 with
  | cons p q =>
   cases p
   cases q with
   | cons p q =>
    cases p
    cases q
    have e2:cargs=#[.int .u64 a,.int .u64 b,.int .u64 0]:=by
     apply Array.ext'
     rw [e1]
    subst e2
    simp only [Option.some.injEq,Prod.mk.injEq] at hs
    obtain ⟨rfl,rfl⟩:=hs
    exact callRes_ext hE (cv:=.tuple #[.int .u64 (Int.ofNat ((a.toNat+b.toNat+0)%Extern.MathBitsCarry.m64)),.int .u64 (Int.ofNat ((a.toNat+b.toNat+0)/Extern.MathBitsCarry.m64))]) rfl ⟨ρ,Ext.refl _ _,.tup (.cons (.int _ _) (.cons (.int _ _) .nil)),hR⟩
 ·cases hs
end
end Go.Abs
end