import Derived.Test.YtggjfinekcenpaaGreatPkN
import Derived.Test.YtggjfinekcenpaaGreatPkQ
set_option maxRecDepth 100000
set_option maxHeartbeats 80000000
namespace Go.Proofs.YtggjfinekcenpaaGreat
open Go.RowKit
open Vt
theorem stm_0 {nm tn tl:ByteArray} {tk fM bT:Int} {tm ot:Bool} {fO:List ByteArray} {tar:List Ty} {pl e:List Ex} {bo el:List St} {l c:Int} {k:Int} (hk:¬(1≤k∧k≤8)):KN (.mk k nm (.mk tk tn tl tm fO tar fM bT) pl e bo el ot l c):=by
 intro cs w D hx hb;have h0:uY (.mk k nm (.mk tk tn tl tm fO tar fM bT) pl e bo el ot l c)=[]:=by rw[uY];rw[if_neg om,if_neg om,if_neg om,if_neg om,if_neg om,if_neg om,if_neg om,if_neg om]
 rw[h0]at hb⊢;clear h0;have k1:(k==1)=false:=by rw[beq_eq_false_iff_ne];exact fun e=>hk om
 have k2:(k==2)=false:=by rw[beq_eq_false_iff_ne];exact fun e=>hk om
 have k3:(k==3)=false:=by rw[beq_eq_false_iff_ne];exact fun e=>hk om
 have k4:(k==4)=false:=by rw[beq_eq_false_iff_ne];exact fun e=>hk om
 have k5:(k==5)=false:=by rw[beq_eq_false_iff_ne];exact fun e=>hk om
 have k6:(k==6)=false:=by rw[beq_eq_false_iff_ne];exact fun e=>hk om
 have k7:(k==7)=false:=by rw[beq_eq_false_iff_ne];exact fun e=>hk om
 have k8:(k==8)=false:=by rw[beq_eq_false_iff_ne];exact fun e=>hk om
 clear hk;rw[jS]at hx;obtain⟨ct,vp,ve,vb,vl,xp,xe,xb,xl,rfl,-,hty,hp,oI,he0,hre,hb2,hrb,hl2,hrl⟩:=hx;have Bq:=ai hty;rw[gG]at hty;obtain⟨v1,v2,x2,rfl,-,-,-,hr1,-,hr2⟩:=hty;obtain⟨q1,d1,rfl⟩:=hr1.parts;obtain⟨q2,d2,rfl⟩:=hr2.parts;obtain⟨ap,cp,rfl⟩:=oI.parts;obtain⟨ae,ce,rfl⟩:=hre.parts;obtain⟨ab,cb,rfl⟩:=hrb.parts;obtain⟨ax,cx,rfl⟩:=hrl.parts;have HP:=ai hp;have KO:=ai oI;have HE:=ai he0;have kU:=ai hre;have HB2:=ai hb2;have jV:=ai hrb;have HL2:=ai hl2;have tY:=ai hrl;have HB:=ai hb;clear hr1 hr2 hp oI he0 hre hb2 hrb hl2 hrl hb;obtain⟨W,hW⟩:=bF (w.alloc (.cells #[Value.int .i64 k,aI nm,ah tk,aI tn,aI tl,bK tm,.slice q1 fO.length d1,.slice q2 tar.length d2,ah fM,ah bT,.slice ap pl.length cp,.slice ae e.length ce,.slice ab bo.length cb,.slice ax el.length cx,bK ot,ah l,ah c] 89));have ST0:Hid (Step Sf w W):=by rw[hW];exact bg.alloc _
 have bJ:Hid (∀X,Step Sf W X→∀(j:Nat) u,[Value.int .i64 k,aI nm,ah tk,aI tn,aI tl,bK tm,.slice q1 fO.length d1,.slice q2 tar.length d2,ah fM,ah bT,.slice ap pl.length cp,.slice ae e.length ce,.slice ab bo.length cb,.slice ax el.length cx,bK ot,ah l,ah c][j]?=some u→X.cell? ⟨w.heap.size,0+j,none⟩=some u):=by intro X hX j u hu;rw[hW]at hX;rw[Nat.zero_add];exact aj (hX.keep (aC _ _) (fun h=>h)) j u (by simpa using hu)
 have HW:=ai hW;have hsz:w.heap.size≤W.heap.size:=ST0.o.size;clear hW;go_enter Tryz.func57,Tryz.ntmps57;go_upto_region 1 with fail
 rw[←HW.o];have c0:=bJ.o W bg 0 _ rfl;rw[Nat.add_zero]at c0;go_wp2_with fail;go_ret;exact⟨_,rfl,ST0.o,aH.nil _ _⟩
theorem typ_0 {nm lf:ByteArray} {mu:Bool} {ls:List ByteArray} {ar:List Ty} {k l c:Int} (hk:¬(1≤k∧k≤8)):xI (.mk k nm lf mu ls ar l c):=by
 intro cs w D hx hb;have h0:gu (.mk k nm lf mu ls ar l c)=[]:=by rw[gu];rw[if_neg om,if_neg om,if_neg om,if_neg om,if_neg om,if_neg om,if_neg om,if_neg om]
 rw[h0]at hb⊢;clear h0;have k1:(k==1)=false:=by rw[beq_eq_false_iff_ne];exact fun e=>hk om
 have k2:(k==2)=false:=by rw[beq_eq_false_iff_ne];exact fun e=>hk om
 have k3:(k==3)=false:=by rw[beq_eq_false_iff_ne];exact fun e=>hk om
 have k4:(k==4)=false:=by rw[beq_eq_false_iff_ne];exact fun e=>hk om
 have k5:(k==5)=false:=by rw[beq_eq_false_iff_ne];exact fun e=>hk om
 have k6:(k==6)=false:=by rw[beq_eq_false_iff_ne];exact fun e=>hk om
 have k7:(k==7)=false:=by rw[beq_eq_false_iff_ne];exact fun e=>hk om
 have k8:(k==8)=false:=by rw[beq_eq_false_iff_ne];exact fun e=>hk om
 clear hk;have MG:=ai hx;rw[gG]at hx;obtain⟨vl,va,xs,rfl,-,-,-,hrl,hel,hra⟩:=hx;obtain⟨al,cl,rfl⟩:=hrl.parts;obtain⟨aa,ca,rfl⟩:=hra.parts;have tY:=ai hrl;have Az:=ai hel;have kY:=ai hra;have HB:=ai hb;clear hrl hel hra hb;obtain⟨W,hW⟩:=bF (w.alloc (.cells #[Value.int .i64 k,aI nm,aI lf,bK mu,.slice al ls.length cl,.slice aa ar.length ca,ah l,ah c] 46));have ST0:Hid (Step Sf w W):=by rw[hW];exact bg.alloc _
 have bJ:Hid (∀X,Step Sf W X→∀(j:Nat) u,[Value.int .i64 k,aI nm,aI lf,bK mu,.slice al ls.length cl,.slice aa ar.length ca,ah l,ah c][j]?=some u→X.cell? ⟨w.heap.size,0+j,none⟩=some u):=by intro X hX j u hu;rw[hW]at hX;rw[Nat.zero_add];exact aj (hX.keep (aC _ _) (fun h=>h)) j u (by simpa using hu)
 have HW:=ai hW;have hsz:w.heap.size≤W.heap.size:=ST0.o.size;clear hW;go_enter Tryz.func56,Tryz.ntmps56;go_upto_region 1 with fail
 rw[←HW.o];have c0:=bJ.o W bg 0 _ rfl;rw[Nat.add_zero]at c0;go_wp2_with fail;go_ret;exact⟨_,rfl,ST0.o,aH.nil _ _⟩
mutual
def zL:Ty→Nat
 | .mk _ _ _ _ ls ar _ _=>1+ls.length+pY ar
def pY:List Ty→Nat
 |[]=>0
 |t::r=>zL t+pY r
end
mutual
def DC:Ex→Nat
 | .mk _ _ _ _ ar ns bo _ _=>1+ns.length+jQ ar+nH bo
def jQ:List Ex→Nat
 |[]=>0
 |t::r=>DC t+jQ r
def stM:St→Nat
 | .mk _ _ ty pl e bo el _ _ _=>zL ty+jQ pl+jQ e+nH bo+nH el
def nH:List St→Nat
 |[]=>0
 |t::r=>stM t+nH r
end
theorem GU:∀t,0<zL t
 | .mk _ _ _ _ _ _ _ _=>by rw[zL];omega
theorem Wn:∀t,0<DC t
 | .mk _ _ _ _ _ _ _ _ _=>by rw[DC];omega
theorem Wp:∀t,0<stM t
 | .mk _ _ ty _ _ _ _ _ _ _=>by rw[stM];have:=GU ty;omega
theorem Jp:∀{l:List Ty} {t:Ty},t∈l→zL t≤pY l
 |a::r,t,h=>by
  rw[pY]
  rcases List.mem_cons.1 h with rfl|h
  ·
   omega
  ·
   have:=Jp h;omega
theorem Jq:∀l:List Ty,l.length≤pY l
 |[]=>Nat.zero_le _
 |a::r=>by rw[pY,List.length_cons];have:=GU a;have:=Jq r;omega
theorem zC:∀{l:List Ex} {t:Ex},t∈l→DC t≤jQ l
 |a::r,t,h=>by
  rw[jQ]
  rcases List.mem_cons.1 h with rfl|h
  ·
   omega
  ·
   have:=zC h;omega
theorem zD:∀l:List Ex,l.length≤jQ l
 |[]=>Nat.zero_le _
 |a::r=>by rw[jQ,List.length_cons];have:=Wn a;have:=zD r;omega
theorem Jr:∀{l:List St} {t:St},t∈l→stM t≤nH l
 |a::r,t,h=>by
  rw[nH]
  rcases List.mem_cons.1 h with rfl|h
  ·
   omega
  ·
   have:=Jr h;omega
theorem Js:∀l:List St,l.length≤nH l
 |[]=>Nat.zero_le _
 |a::r=>by rw[nH,List.length_cons];have:=Wp a;have:=Js r;omega
theorem DF:∀(n:Nat) (t:Ty),SizeOf.sizeOf t<n→zL t≤1000000→xI t
 |0,_,h,_=>absurd h (Nat.not_lt_zero _)
 |n+1,.mk k nm lf mu ls ar l c,h,hm=>by
  rw[zL]at hm
  have h1:=Jq ar
  have ih:∀y∈ar,xI y:=fun y hy=>DF n y (by have:=List.sizeOf_lt_of_mem hy;simp at h;omega) (by have:=Jp hy;omega)
  by_cases hk:1≤k∧k≤8
  ·
   rcases(show k=1∨k=2∨k=3∨k=4∨k=5∨k=6∨k=7∨k=8 by omega)with rfl|rfl|rfl|rfl|rfl|rfl|rfl|rfl
   ·
    exact typ_1
   ·
    exact typ_2
   ·
    exact typ_3
   ·
    exact typ_4
   ·
    exact typ_5 ih om om
   ·
    exact typ_6 ih om
   ·
    by_cases hl:lf=⟨#[]⟩
    ·
     subst hl
     cases mu
     ·
      exact Jd ih om
     ·
      exact KJ ih om
    ·
     cases mu
     ·
      exact Jc ih om hl
     ·
      exact KI ih om hl
   ·
    by_cases hl:lf=⟨#[]⟩
    ·
     subst hl;exact Zu
    ·
     exact Zt hl
  ·
   exact typ_0 hk
def exV:Ex→Int
 | .mk _ _ v _ _ _ _ _ _=>v
def VB (x:Ex):Prop:=1≤x.kind∧x.kind≤18∧0≤exV x∧exV x<18446744073709551616∧(x.kind=1→exV x<9223372036854775808)
theorem Wq {s:St} (hp:stM s≤1000000) (IQ:∀y,SizeOf.sizeOf y<SizeOf.sizeOf s→wE VB y→DC y≤1000000→qA y) (ER:∀l:List St,SizeOf.sizeOf l<SizeOf.sizeOf s→f_ VB l→nH l≤1000000→KH l) (ha:yu VB s):KN s:=by
 obtain⟨k,nm,⟨tk,tn,tl,tm,fO,tar,fM,bT⟩,pl,e,bo,el,ot,l,c⟩:=s;rw[yu]at ha;rw[stM]at hp;have h1:=zD pl;have h2:=zD e;have ihp:∀y∈pl,qA y:=fun y hy=>IQ y (by have:=List.sizeOf_lt_of_mem hy;simp;omega) (ha.1.get hy) (by have:=zC hy;omega);have Bz:∀y∈e,qA y:=fun y hy=>IQ y (by have:=List.sizeOf_lt_of_mem hy;simp;omega) (ha.2.1.get hy) (by have:=zC hy;omega);have ihb:KH bo:=ER bo (by simp;omega) ha.2.2.1 om;have ihl:KH el:=ER el (by simp;omega) ha.2.2.2 om;have Ud:xI (.mk tk tn tl tm fO tar fM bT):=DF _ _ (Nat.lt_succ_self _) om;by_cases hk:1≤k∧k≤8
 ·rcases(show k=1∨k=2∨k=3∨k=4∨k=5∨k=6∨k=7∨k=8 by omega)with rfl|rfl|rfl|rfl|rfl|rfl|rfl|rfl
  ·by_cases h0:tk=0
   ·subst h0;rcases Nat.eq_zero_or_pos e.length with hx|hx
    ·exact VJ (List.eq_nil_of_length_eq_zero hx)
    ·exact VI Bz om hx
   ·rcases Nat.eq_zero_or_pos e.length with hx|hx
    ·exact VH Ud h0 (List.eq_nil_of_length_eq_zero hx)
    ·exact VG Ud h0 Bz om hx
  ·exact stm_2 ihp om Bz om
  ·exact stm_3 Bz om
  ·cases ot
   ·exact ZH Bz om ihb
   ·exact ZG Bz om ihb ihl
  ·exact stm_5 Bz om ihb
  ·exact stm_6 Bz om
  ·exact stm_7
  ·exact stm_8 ihb
 ·exact stm_0 hk
theorem DI:∀n:Nat,(∀x:Ex,SizeOf.sizeOf x<n→wE VB x→DC x≤1000000→qA x)∧(∀l:List St,SizeOf.sizeOf l<n→f_ VB l→nH l≤1000000→KH l)
 |0=>⟨fun _ h=>absurd h (Nat.not_lt_zero _),fun _ h=>absurd h (Nat.not_lt_zero _)⟩
 |n+1=>by
  obtain⟨IQ,ER⟩:=DI n
  constructor
  ·
   intro x h ha hm
   obtain⟨k,nm,v,mu,ar,ns,bo,l,c⟩:=x
   rw[wE]at ha
   rw[DC]at hm
   obtain⟨⟨hk1,hk2,hv0,hv1,hv2⟩,ha1,ha2⟩:=ha
   have hk1:1≤k:=hk1
   have hk2:k≤18:=hk2
   have h1:=zD ar
   have ih:∀y∈ar,qA y:=fun y hy=>IQ y (by have:=List.sizeOf_lt_of_mem hy;simp at h;omega) (ha1.get hy) (by have:=zC hy;omega)
   have ihb:KH bo:=ER bo (by simp at h;omega) ha2 om
   rcases(show k=1∨k=2∨k=3∨k=4∨k=5∨k=6∨k=7∨k=8∨k=9∨k=10∨k=11∨k=12∨k=13∨k=14∨k=15∨k=16∨k=17∨k=18 by omega)with rfl|rfl|rfl|rfl|rfl|rfl|rfl|rfl|rfl|rfl|rfl|rfl|rfl|rfl|rfl|rfl|rfl|rfl
   ·
    exact ZE hv0 (hv2 rfl)
   ·
    exact ZA
   ·
    exact ZF hv0 hv1
   ·
    exact Zv
   ·
    exact Zw
   ·
    exact Zx ih om
   ·
    exact Zy ih om
   ·
    exact ZB ih om
   ·
    exact Zz ih om
   ·
    exact Vq ih om
   ·
    exact VA ih om
   ·
    exact Vw ih om
   ·
    exact Vx ih om
   ·
    exact Vz ih om
   ·
    exact Vr ih om
   ·
    exact Vs
   ·
    exact Vy ihb om
   ·
    exact Vu ih om
  ·
   intro l h ha hm
   have h1:=Js l
   refine VK (fun s hs=> ?_) om
   have h2:=List.sizeOf_lt_of_mem hs
   have h3:=Jr hs
   exact Wq om (fun y hy hya hym=>IQ y om hya hym) (fun b hb hba hbm=>ER b om hba hbm) (ha.get hs)
theorem OT {v d:Nat} (h:0<v) (hd:d<10):pM (v*10+d)=pM v++[UInt8.ofNat (d+48)]:=by rw[pM,if_neg om,show(v*10+d)/10=v by omega,show(v*10+d)%10=d by omega]
theorem Ws (n:Nat):pM n≠[]:=by
 rw[pM];split
 ·simp
 ·simp
theorem yw {c:UInt8} (h:isDigit c.toNat=true):c.toNat-48<10∧UInt8.ofNat (c.toNat-48+48)=c:=by
 simp only[isDigit,Bool.and_eq_true,decide_eq_true_eq]at h;have h1:48≤c.toNat∧c.toNat≤57:=by omega
 refine⟨by omega,?_⟩;rw[show c.toNat-48+48=c.toNat by omega,UInt8.ofNat_toNat]
theorem Jt:∀(r p:List UInt8) (c0:UInt8) (v n:Nat),p=pM v→p.head?=some c0→jG c0 r p.length v=.ok n→pM n=p++r
 |[],p,c0,v,n,hp,_,h=>by
  rw[jG]at h;cases h;simp[hp]
 |c::r,p,c0,v,n,hp,h0,h=>by
  rw[jG]at h
  split at h
  ·
   cases h
  ·
   rename_i h1
   split at h
   ·
    cases h
   ·
    have hd:isDigit c.toNat=true:=by
      cases e:isDigit c.toNat
      ·
       exact absurd (.inl e) h1
      ·
       rfl
    obtain⟨hd1,hd2⟩:=yw hd
    have hv:0<v:=by
     rcases Nat.eq_zero_or_pos v with e|e
     ·
      subst e
      have e2:pM 0=[48]:=by rw[Gu dc];rfl
      rw[hp,e2]at h0
      refine absurd (.inr ⟨by rw[hp,e2];rfl,?_⟩) h1
      simpa using h0.symm
     ·
      exact e
    have h2:=Jt r (p++[c]) c0 _ n (by rw[OT hv hd1,hd2,hp]) (by
     cases p with
     |nil=>exact absurd hp.symm (Ws v)
     |cons a q=>exact h0) (by rw[List.length_append];exact h)
    rw[h2];simp
theorem OU {c:UInt8} {r:List UInt8} {n:Nat} (h:jG c (c::r) 0 0=.ok n):pM n=c::r:=by
 rw[jG]at h;split at h
 ·cases h
 ·rename_i h1;split at h
  ·cases h
  ·have hd:isDigit c.toNat=true:=by
    cases e:isDigit c.toNat
    ·exact absurd (.inl e) h1
    ·rfl
   obtain⟨hd1,hd2⟩:=yw hd;rw[show 0*10+(c.toNat-48)=c.toNat-48 by omega]at h;exact Jt r [c] c _ n (by rw[Gu hd1,hd2]) rfl h
theorem MN {c:UInt8} {x:Nat} (h:wQ c=some x):x<16∧Dp x=c:=by
 unfold wQ at h;split at h
 ·rename_i hd;obtain⟨h1,h2⟩:=yw hd;cases h;exact⟨by omega,by rw[Dp,if_pos h1,h2]⟩
 ·split at h
  ·rename_i h1;cases h;refine⟨by omega,?_⟩;rw[Dp,if_neg om,show c.toNat-87+87=c.toNat by omega,UInt8.ofNat_toNat]
  ·cases h
theorem DJ:∀(r s:List UInt8) (a v:Nat),hexL s.length a=s→jY a r=some v→hexL (s.length+r.length) v=s++r
 |[],s,a,v,hs,h=>by
  rw[jY]at h;cases h;simpa using hs
 |c::r,s,a,v,hs,h=>by
  rw[jY]at h
  split at h
  ·
   rename_i x hx
   obtain⟨h1,h2⟩:=MN hx
   have h3:=DJ r (s++[c]) (a*16+x) v (by
    rw[List.length_append]
    show hexL (s.length+1) _=_
    rw[hexL,show(a*16+x)/16=a by omega,show(a*16+x)%16=x by omega,hs,h2]) h
   rw[show s.length+(c::r).length=(s++[c]).length+r.length by simp;omega,h3];simp
  ·
   cases h
theorem Ju {r:List UInt8} {v:Nat} (h:jY 0 r=some v):hexL r.length v=r:=by simpa using DJ r [] 0 v rfl h
def SY (k v:Nat):List UInt8:=if k=4 then[48,102]++hexL 16 v else pM v
theorem OV {l:List UInt8} {k n v:Nat} (hl:l≠[]) (h:vH l=.ok (k,n,v)):SY k v=l∧n=l.length∧(k=3∨k=4):=by
 unfold vH at h;split at h
 ·rename_i h1;split at h
  ·rename_i v2 h2;cases h;refine⟨?_,rfl,.inr rfl⟩;rw[SY,if_pos rfl];have h3:=Ju h2;rw[show(l.drop 2).length=16 by simp;omega]at h3;rw[h3,←h1.2,List.take_append_drop]
  ·cases h
 ·split at h
  ·rename_i v2 h2;cases h;refine⟨?_,rfl,.inl rfl⟩;rw[SY,if_neg dc];cases l with
   |nil=>exact absurd rfl hl
   |cons c r=>exact OU h2
  ·cases h
theorem MO {c0:UInt8}:∀(r:List UInt8) (i v n:Nat),v≤9223372036854775807→jG c0 r i v=.ok n→n≤9223372036854775807
 |[],i,v,n,hv,h=>by rw[jG]at h;cases h;exact hv
 |c::r,i,v,n,hv,h=>by
  rw[jG]at h
  split at h
  ·
   cases h
  ·
   split at h
   ·
    cases h
   ·
    exact MO r _ _ n om h
theorem Fa:∀(r:List UInt8) (a v:Nat),jY a r=some v→v<(a+1)*16^r.length
 |[],a,v,h=>by rw[jY]at h;cases h;simp
 |c::r,a,v,h=>by
  rw[jY]at h
  split at h
  ·
   rename_i x hx
   have h1:=(MN hx).1
   have h2:=Fa r _ v h
   rw[List.length_cons,Nat.pow_succ]
   refine Nat.lt_of_lt_of_le h2 ?_
   have h3:a*16+x+1≤(a+1)*16:=by omega
   calc (a*16+x+1)*16^r.length≤((a+1)*16)*16^r.length:=Nat.mul_le_mul_right _ h3
    _=(a+1)*(16^r.length*16):=by rw[Nat.mul_assoc,Nat.mul_comm 16]
  ·
   cases h
def K_ (t:Tok):Prop:=(t.kind=3→pM t.val=t.text∧t.val<9223372036854775808)∧(t.kind=4→[48,102]++hexL 16 t.val=t.text∧t.val<18446744073709551616)
theorem Wu {l:List UInt8} {k n v:Nat} (h:vH l=.ok (k,n,v)):(k=3→v<9223372036854775808)∧(k=4→v<18446744073709551616):=by
 unfold vH at h;split at h
 ·rename_i h1;split at h
  ·rename_i v2 h2;cases h;refine⟨fun e=>absurd e dc,fun _=> ?_⟩;have h3:=Fa _ _ _ h2;rw[show(l.drop 2).length=16 by simp;omega]at h3;simpa using h3
  ·cases h
 ·split at h
  ·rename_i v2 h2;cases h;refine⟨fun _=> ?_,fun e=>absurd e dc⟩;have:=MO _ _ _ _ dc h2;omega
  ·cases h
theorem S9 {r:List UInt8} {kind n val:Nat} (ln col:Nat) (h:jO r=.ok (kind,n,val)):K_ ⟨kind,r.take n,ln,col,val⟩:=by
 cases r with
 |nil=>simp[jO]at h
 |cons c r=>
  rw[jO]at h;split at h
  ·unfold xh at h;split at h
   ·cases h
   ·cases h;exact⟨fun e=>absurd e (show¬(1:Nat)=3 by decide),fun e=>absurd e (show¬(1:Nat)=4 by decide)⟩
  ·split at h
   ·rw[xk]at h;split at h
    ·cases h
    ·split at h
     ·cases h
     ·cases h;exact⟨fun e=>absurd e (show¬(2:Nat)=3 by decide),fun e=>absurd e (show¬(2:Nat)=4 by decide)⟩
   ·split at h
    ·rename_i hd;unfold nY at h;have hpos:0<gU (c::r):=Cb (by simp[jJ,hd]);have hle:=iF (c::r);(have hne:(c::r).take (gU (c::r))≠[]:=by intro e;have h2:=congrArg List.length e;rw[List.length_take]at h2;simp only[List.length_nil]at h2;omega);obtain⟨h1,h2,h3⟩:=OV hne h;have h4:=Wu h;(have h5:(c::r).take n=(c::r).take (gU (c::r)):=by rw[h2,List.length_take,Nat.min_eq_left hle]);refine⟨fun e=> ?_,fun e=> ?_⟩
     ·have e:kind=3:=e;rw[SY,if_neg om]at h1;exact⟨h1.trans h5.symm,h4.1 e⟩
     ·have e:kind=4:=e;rw[SY,if_pos e]at h1;exact⟨h1.trans h5.symm,h4.2 e⟩
    ·have hk:kind=5:=by
      unfold n_ at h
      repeat' split at h
      (all_goals cases h);all_goals rfl
     exact⟨fun e=>by have e:kind=3:=e;omega,fun e=>by have e:kind=4:=e;omega⟩
theorem MP:∀(k:Nat) (r:List UInt8) (p l f:Nat) (acc ts:List Tok),(∀t∈acc,K_ t)→uj k r p l f acc=.ok ts→∀t∈ts,K_ t
 |0,r,p,l,f,acc,ts,_,h=>by rw[uj]at h;cases h
 |k+1,r,p,l,f,acc,ts,ha,h=>by
  rw[uj]at h
  split at h
  ·
   cases h
   intro t ht
   rcases List.mem_append.1 ht with ht|ht
   ·
    exact ha t ht
   ·
    rw[List.mem_singleton]at ht;subst ht
    exact⟨fun e=>absurd e (show¬(0:Nat)=3 by decide),fun e=>absurd e (show¬(0:Nat)=4 by decide)⟩
  ·
   split at h
   ·
    cases h
   ·
    split at h
    ·
     cases h
    ·
     rename_i kind n val hn
     refine MP k _ _ _ _ _ ts (fun t ht=> ?_) h
     rcases List.mem_append.1 ht with ht|ht
     ·
      exact ha t ht
     ·
      rw[List.mem_singleton]at ht;subst ht
      exact S9 _ _ hn
theorem Wv {s:List UInt8} {ts:List Tok} (h:nP s=.ok ts):∀t∈ts,K_ t:=by
 unfold nP at h;split at h
 ·cases h
 ·exact MP _ _ _ _ _ [] ts nR h
def ZV:Ex→Int
 | .mk _ _ _ _ _ _ _ l _=>l
def ZW:Ex→Int
 | .mk _ _ _ _ _ _ _ _ c=>c
def Jv (x:Ex) (t:Tok):Prop:=if x.kind=14 then x.name=lX t.text else if x.kind=6∨x.kind=13 then t.text=[46]else(dM x).head?=some (lX t.text)
def Pd (l:List Tok) (x:Ex):Prop:=VB x∧∃t∈l,ZV x=t.line∧ZW x=t.col∧Jv x t
def bQ {α:Type} (Q:α→Nat→Prop) (r:dI α):Prop:=∀a j,r=.ok a j→Q a j
theorem bQ.bind {α β:Type} {Q:α→Nat→Prop} {Q2:β→Nat→Prop} {r:dI α} {f:α→Nat→dI β} (h:bQ Q r) (hf:∀a j,Q a j→bQ Q2 (f a j)):bQ Q2 (r.bind f):=by
 intro b k e;cases r with
 |ok a j=>exact hf a j (h a j rfl) b k e
 |err=>cases e
 |out=>cases e
theorem bQ.ok {α:Type} {Q:α→Nat→Prop} {a:α} {j:Nat} (h:Q a j):bQ Q (.ok a j):=by intro b k e;cases e;exact h
theorem bQ.fail {α:Type} {Q:α→Nat→Prop} {c:Nat} {l:List Tok} {i:Nat}:bQ Q (iw c l i):=by intro b k e;cases e
theorem bQ.out {α:Type} {Q:α→Nat→Prop}:bQ Q (.out:dI α):=by intro b k e;cases e
theorem bQ.weak {α:Type} {Q Q2:α→Nat→Prop} {r:dI α} (h:bQ Q r) (hq:∀a j,Q a j→Q2 a j):bQ Q2 r:=fun a j e=>hq a j (h a j e)
theorem Fb:∀(l:List Ty) (t:Ty),pY (l++[t])=pY l+zL t
 |[],t=>by rw[List.nil_append,pY,pY,pY];omega
 |x::r,t=>by rw[List.cons_append,pY,pY,Fb r t];omega
theorem tJ:∀(l:List Ex) (t:Ex),jQ (l++[t])=jQ l+DC t
 |[],t=>by rw[List.nil_append,jQ,jQ,jQ];omega
 |x::r,t=>by rw[List.cons_append,jQ,jQ,tJ r t];omega
theorem Fe:∀(l:List St) (t:St),nH (l++[t])=nH l+stM t
 |[],t=>by rw[List.nil_append,nH,nH,nH];omega
 |x::r,t=>by rw[List.cons_append,nH,nH,Fe r t];omega
theorem jv (x:Ex):jQ [x]=DC x:=by rw[jQ,jQ];rfl
theorem gm:jQ []=0:=by rw[jQ]
theorem eF:nH []=0:=by rw[nH]
theorem oC:zL fK=1:=by rw[fK,zL,pY];rfl
section
variable {l : List Tok}
theorem zF {i:Nat} {s:List UInt8} (h:bG l i s=true):(tokA l i).text=s:=by unfold bG sF at h;simp only[Bool.and_eq_true,beq_iff_eq]at h;exact h.1
theorem MQ {i:Nat} (h:tokA l i≠LP):i<l.length:=by
 rcases Nat.lt_or_ge i l.length with h1|h1
 ·exact h1
 ·exact absurd (by unfold tokA;rw[List.getD_eq_getElem?_getD,List.getElem?_eq_none h1];rfl) h
theorem GV {i:Nat} (h:(tokA l i).kind≠0):tokA l i∈l:=by have h1:=MQ (fun e=>h (by rw[e];rfl));unfold tokA;rw[List.getD_eq_getElem?_getD,List.getElem?_eq_getElem h1];exact List.getElem_mem h1
theorem DK {i:Nat} {s:List UInt8} (h:bG l i s=true):tokA l i∈l:=GV (ul h)
theorem Wx {i:Nat} (h:um (tokA l i)=true):(tokA l i).kind=1:=by unfold um at h;simp only[Bool.and_eq_true,beq_iff_eq]at h;exact h.1
variable (hl : oJ l)
include hl
theorem Jw {i:Nat} (h:(tokA l i).kind≠0):i+1<l.length:=by have h1:=MQ (fun e=>h (by rw[e];rfl));refine hl.next i (tokA l i) ?_ h;unfold tokA;rw[List.getD_eq_getElem?_getD,List.getElem?_eq_getElem h1];rfl
theorem is_lt {i:Nat} {s:List UInt8} (h:bG l i s=true):i+1<l.length:=Jw hl (ul h)
theorem lu {i:Nat} {s:List UInt8}:bQ (fun _ j=>j=i+1∧j<l.length) (aJ l i s):=by
 intro a j e;unfold aJ at e;split at e
 ·rename_i h;cases e;exact⟨rfl,is_lt hl h⟩
 ·cases e
theorem uJ {i:Nat}:bQ (fun n j=>j=i+1∧j<l.length∧n=lX (tokA l i).text∧tokA l i∈l) (bH l i):=by
 intro a j e;unfold bH at e;split at e
 ·rename_i h;have h1:(tokA l i).kind≠0:=by rw[Wx h];decide
  cases e;exact⟨rfl,Jw hl h1,rfl,GV h1⟩
 ·cases e
theorem S_ {i:Nat}:bQ (fun _ j=>j=i+1∧j<l.length) (jl l i):=by
 intro a j e;unfold jl at e;split at e
 ·rename_i h;cases e;exact⟨rfl,Jw hl om⟩
 ·cases e
omit hl in
theorem GX {n m i:Nat}:bQ (fun _ j=>j=i∧n<m) (eU n m l i):=by
 intro a j e;unfold eU at e;split at e
 ·cases e
 ·cases e;exact⟨rfl,by omega⟩
omit hl in
theorem yx {k:Int} {n lf:ByteArray} {b:Bool} {ln cl:Int} {i j:Nat} (h:i+1≤j) (h2:j<l.length):bQ (fun t j=>i+zL t≤j∧j<l.length) (.ok (.mk k n lf b [] [] ln cl) j):=
 bQ.ok ⟨by rw[zL,pY];simpa using h,h2⟩
omit hl in
theorem XW {k:Int} {n lf:ByteArray} {b:Bool} {ln cl:Int} {a:Ty} {i j:Nat} (h:i+1+zL a≤j) (h2:j<l.length):bQ (fun t j=>i+zL t≤j∧j<l.length) (.ok (.mk k n lf b [] [a] ln cl) j):=
 bQ.ok ⟨by rw[zL,pY,pY];simp;omega,h2⟩
theorem XY:∀f,(∀i d,bQ (fun t j=>i+zL t≤j∧j<l.length) (kG f l i d))∧(∀i d ls ts,bQ (fun p j=>i+(p.1.length+pY p.2)≤j+(ls.length+pY ts)∧j<l.length) (mg f l i d ls ts)):=by
 intro f;induction f with
 |zero=>exact⟨(fun i d a j e=>by rw[kG]at e;cases e),(fun i d ls ts a j e=>by rw[mg]at e;cases e)⟩
 |succ f ih=>
  obtain⟨Ud,iha⟩:=ih;constructor
  ·intro i d;rw[kG];split
   ·exact bQ.fail
   split
   ·rename_i h;exact yx (Nat.le_refl _) (is_lt hl h)
   split
   ·rename_i h;exact yx (Nat.le_refl _) (is_lt hl h)
   split
   ·rename_i h;exact yx (Nat.le_refl _) (is_lt hl h)
   split
   ·refine(lu hl).bind ?_;rintro _ j ⟨rfl,h2⟩;exact yx om h2
   split
   ·refine(lu hl).bind ?_;rintro _ j ⟨rfl,h2⟩;refine(Ud _ _).bind ?_;rintro a j ⟨h3,h4⟩;refine(lu hl).bind ?_;rintro _ j ⟨rfl,h6⟩;exact XW om h6
   split
   ·refine(Ud _ _).bind ?_;rintro a j ⟨h3,h4⟩;refine XW ?_ h4;(have h6:i+1≤iH l (pG l (i+1)) [109,117,116]:=by unfold iH pG;split<;>split<;>omega);omega
   split
   ·refine(uJ hl).bind ?_;rintro n j ⟨rfl,h2,-,-⟩;split
    ·refine(S_ hl).bind ?_;rintro n j ⟨rfl,h2⟩;exact yx om h2
    ·exact yx om h2
   ·refine(uJ hl).bind ?_;rintro n j ⟨rfl,h2,-,-⟩;split
    ·refine(iha _ _ [] []).bind ?_;rintro p j ⟨h5,h6⟩;refine bQ.ok ⟨?_,h6⟩;rw[zL];simp[pY]at h5;omega
    ·exact yx om h2
  ·intro i d ls ts;rw[mg];refine(GX).bind ?_;rintro _ i ⟨rfl,hr⟩;refine bQ.bind (Q:=fun p j=>i+(p.1.length+pY p.2)≤j+(ls.length+pY ts)∧j<l.length) ?_ ?_
   ·split
    ·refine(S_ hl).bind ?_;rintro x j ⟨rfl,h2⟩;exact bQ.ok ⟨by simp;omega,h2⟩
    ·refine(Ud _ _).bind ?_;rintro x j ⟨h3,h4⟩;exact bQ.ok ⟨by show _+(ls.length+pY (ts++[x]))≤_;rw[Fb];omega,h4⟩
   ·rintro p j ⟨h3,h4⟩;split
    ·intro q k e;obtain⟨h7,h8⟩:=iha (j+1) d p.1 p.2 q k e;exact⟨by omega,h8⟩
    ·refine(lu hl).bind ?_;rintro _ j ⟨rfl,h6⟩;exact bQ.ok ⟨by omega,h6⟩
theorem Tc:∀f i ns,bQ (fun p j=>i+p.length≤j+ns.length∧j<l.length) (lK f l i ns)
 |0,i,ns=>by rw[lK];exact bQ.out
 |f+1,i,ns=>by
  rw[lK]
  refine(GX).bind ?_
  rintro _ i ⟨rfl,hr⟩
  refine(uJ hl).bind ?_
  rintro n j ⟨rfl,h2,-,-⟩
  split
  ·
   refine(Tc f _ _).weak ?_
   rintro p j ⟨h3,h4⟩
   simp at h3
   exact⟨by omega,h4⟩
  ·
   refine(lu hl).bind ?_
   rintro _ j ⟨rfl,h6⟩
   exact bQ.ok ⟨by simp;omega,h6⟩
end
abbrev AP (l:List Tok):=wE (Pd l)
def QE (l:List Tok) (i:Nat) (x:Ex) (j:Nat):Prop:=i+DC x≤j∧j<l.length∧AP l x
structure Lp (l:List Tok) (f:Nat):Prop where
 level:∀i d n,bQ (QE l i) (a_ f l i d n)
 row:∀i0 i d n x,i0+DC x≤i→i<l.length→AP l x→bQ (QE l i0) (vK f l i d n x)
 unary:∀i d,bQ (QE l i) (iI f l i d)
 post:∀i d,bQ (QE l i) (rD f l i d)
 dots:∀i0 i d x,i0+DC x≤i→i<l.length→AP l x→bQ (QE l i0) (nJ f l i d x)
 list:∀i d,bQ (fun al j=>i+jQ al<j∧j<l.length∧dK (Pd l) al) (lG f l i d)
 more:∀i d acc,dK (Pd l) acc→bQ (fun al j=>i+jQ al<j+jQ acc∧j<l.length∧dK (Pd l) al) (oK f l i d acc)
 one:∀i d,bQ (QE l i) (qJ f l i d)
 made:∀i d ns al,dK (Pd l) al→bQ (fun p j=>i+(p.1.length+jQ p.2)≤j+(ns.length+jQ al)∧j<l.length∧dK (Pd l) p.2) (lH f l i d ns al)
 RI:∀i d,bQ (QE l i) (qg f l i d)
 block:∀i d,bQ (fun b j=>i+nH b<j∧j<l.length∧f_ (Pd l) b) (bU f l i d)
 stmts:∀i d acc,f_ (Pd l) acc→bQ (fun b j=>i+nH b<j+nH acc∧j<l.length∧f_ (Pd l) b) (lY f l i d acc)
 ZK:∀i d,bQ (fun p j=>i+(zL p.2.1+jQ p.2.2)≤j∧j<l.length∧dK (Pd l) p.2.2) (xO f l i d)
 ZL:∀i d,bQ (fun p j=>i+(jQ p.1+DC p.2)<j∧j<l.length∧dK (Pd l) p.1∧AP l p.2) (xP f l i d)
 stmt:∀i d,bQ (fun s j=>i+stM s≤j∧j<l.length∧yu (Pd l) s) (rE f l i d)
section
variable {l : List Tok} (hl : oJ l) (htk : ∀ t ∈ l, K_ t)
theorem AU {k:Int} {nm:ByteArray} {v:Int} {m:Bool} {al:List Ex} {ns:List ByteArray} {bs:List St} {t:Tok} (hm:t∈l) (hv:VB (bP k nm v m al ns bs t)) (hh:Jv (bP k nm v m al ns bs t) t) (h2:dK (Pd l) al) (h3:f_ (Pd l) bs):AP l (bP k nm v m al ns bs t):=by have h1:Pd l (bP k nm v m al ns bs t):=⟨hv,t,hm,rfl,rfl,hh⟩;rw[bP]at h1⊢;unfold AP;rw[wE];exact⟨h1,h2,h3⟩
theorem vb0 {k:Int} {nm:ByteArray} {m:Bool} {al:List Ex} {ns:List ByteArray} {bs:List St} {t:Tok} (h:1≤k) (h2:k≤18):VB (bP k nm 0 m al ns bs t):=⟨h,h2,Int.le_refl 0,by show(0:Int)<_;decide,fun _=>by show(0:Int)<_;decide⟩
theorem Jy {x:Ex} {t:Tok} (h1:x.kind≠14) (h2:x.kind≠6) (h3:x.kind≠13) (h:(dM x).head?=some (lX t.text)):Jv x t:=by unfold Jv;rw[if_neg h1,if_neg om];exact h
theorem uK {k:Int} {nm:ByteArray} {v:Int} {m:Bool} {al:List Ex} {ns:List ByteArray} {bs:List St} {t:Tok}:DC (bP k nm v m al ns bs t)=1+ns.length+jQ al+nH bs:=by rw[bP,DC]
end
section
variable {l : List Tok} (hl : oJ l) (htk : ∀ t ∈ l, K_ t)
theorem hdF {x:Ex} {i:Nat} {s:List UInt8} (h:bG l i s=true) (h1:x.kind≠14) (h2:x.kind≠6) (h3:x.kind≠13) (hp:(dM x).head?=some (lX s)):Jv x (tokA l i):=Jy h1 h2 h3 (by rw[zF h];exact hp)
theorem dK.nl:dK (Pd l) []:=dK.nil _
theorem f_.nl:f_ (Pd l) []:=f_.nil _
theorem rQ {k:Int} {nm:ByteArray} {m:Bool} {al:List Ex} {ns:List ByteArray} {bs:List St} {i i0 j:Nat} {s:List UInt8} (h:bG l i s=true) (hk:1≤k∧k≤18) (h1:k≠14) (h2:k≠6) (h3:k≠13) (hp:(dM (bP k nm 0 m al ns bs (tokA l i))).head?=some (lX s)) (hm:i0+(1+ns.length+jQ al+nH bs)≤j) (hj:j<l.length) (ha:dK (Pd l) al) (hb:f_ (Pd l) bs):bQ (QE l i0) (.ok (bP k nm 0 m al ns bs (tokA l i)) j):=
 bQ.ok ⟨by rw[uK];exact hm,hj,AU (DK h) (vb0 hk.1 hk.2) (hdF h h1 h2 h3 hp) ha hb⟩
include hl htk
theorem Wy (f:Nat) (h:Lp l f) (i d:Nat):bQ (QE l i) (qg (f+1) l i d):=by
 rw[qg];have N:dK (Pd l) []:=dK.nl;have S:f_ (Pd l) []:=f_.nl;by_cases h1:(tokA l i).kind=3
 ·rw[if_pos h1];have h0:(tokA l i).kind≠0:=by omega
  have hm:=GV h0;have hlt:=Jw hl h0;obtain⟨h2,h3⟩:=(htk _ hm).1 h1;refine bQ.ok ⟨by rw[uK,gm,eF];exact Nat.le_refl _,hlt,AU hm ⟨by show(1:Int)≤1;decide,by show(1:Int)≤18;decide,by show(0:Int)≤((tokA l i).val:Int);omega,by show((tokA l i).val:Int)<_;omega,fun _=>by show((tokA l i).val:Int)<_;omega⟩ (Jy (by show(1:Int)≠14;decide) (by show(1:Int)≠6;decide) (by show(1:Int)≠13;decide) ?_) N S⟩;rw[bP,dM];show some (sB (pM (tokA l i).val))=_;rw[h2];rfl
 rw[if_neg h1];clear h1;by_cases h1:(tokA l i).kind=4
 ·rw[if_pos h1];have h0:(tokA l i).kind≠0:=by omega
  have hm:=GV h0;have hlt:=Jw hl h0;obtain⟨h2,h3⟩:=(htk _ hm).2 h1;refine bQ.ok ⟨by rw[uK,gm,eF];exact Nat.le_refl _,hlt,AU hm ⟨by show(1:Int)≤3;decide,by show(3:Int)≤18;decide,by show(0:Int)≤((tokA l i).val:Int);omega,by show((tokA l i).val:Int)<_;omega,fun e=>absurd e (by show¬(3:Int)=1;decide)⟩ (Jy (by show(3:Int)≠14;decide) (by show(3:Int)≠6;decide) (by show(3:Int)≠13;decide) ?_) N S⟩;rw[bP,dM];show some (sB [48,102]++sB (hexL 16 (tokA l i).val))=_;rw[←Dt,h2];rfl
 rw[if_neg h1];clear h1;by_cases h1:bG l i [116,114,117,101]=true
 ·rw[if_pos h1];refine bQ.ok ⟨by rw[uK,gm,eF];exact Nat.le_refl _,is_lt hl h1,AU (DK h1) ⟨by show(1:Int)≤2;decide,by show(2:Int)≤18;decide,by show(0:Int)≤1;decide,by show(1:Int)<_;decide,fun _=>by show(1:Int)<_;decide⟩ (hdF h1 (by show(2:Int)≠14;decide) (by show(2:Int)≠6;decide) (by show(2:Int)≠13;decide) ?_) N S⟩;rw[bP,dM];rfl
 rw[if_neg h1];clear h1;by_cases h1:bG l i [102,97,108,115,101]=true
 ·rw[if_pos h1];exact rQ h1 dc dc dc dc (by rw[bP,dM];rfl) (by rw[gm,eF];exact Nat.le_refl _) (is_lt hl h1) N S
 rw[if_neg h1];clear h1;by_cases h1:bG l i [99,104,111,111,115,101]=true
 ·rw[if_pos h1];exact rQ h1 dc dc dc dc (by rw[bP,dM];rfl) (by rw[gm,eF];exact Nat.le_refl _) (is_lt hl h1) N S
 rw[if_neg h1];clear h1;by_cases h1:bG l i [66,111,120]=true
 ·rw[if_pos h1];refine(h.one _ d).bind ?_;rintro x j ⟨h2,h3,h4⟩;exact rQ h1 dc dc dc dc (by rw[bP,dM];rfl) (by rw[jv,eF];simp;omega) h3 (dK.one h4) S
 rw[if_neg h1];clear h1;by_cases h1:bG l i [117,110,98,111,120]=true
 ·rw[if_pos h1];refine(h.one _ d).bind ?_;rintro x j ⟨h2,h3,h4⟩;exact rQ h1 dc dc dc dc (by rw[bP,dM];rfl) (by rw[jv,eF];simp;omega) h3 (dK.one h4) S
 rw[if_neg h1];clear h1;by_cases h1:bG l i [110,101,119]=true
 ·rw[if_pos h1];refine(uJ hl).bind ?_;rintro n j ⟨rfl,h2,-,-⟩;refine(lu hl).bind ?_;rintro _ j ⟨rfl,h3⟩;split
  ·rename_i h5;exact rQ h1 dc dc dc dc (by rw[bP,dM];rfl) (by rw[gm,eF];simp) (is_lt hl h5) N S
  ·refine(h.made _ d [] [] N).bind ?_;rintro p j ⟨h4,h5,h6⟩;rw[gm]at h4;exact rQ h1 dc dc dc dc (by rw[bP,dM];rfl) (by rw[eF];simp at h4;omega) h5 h6 S
 rw[if_neg h1];clear h1;by_cases h1:bG l i [97,115]=true
 ·rw[if_pos h1];refine(uJ hl).bind ?_;rintro n j ⟨rfl,h2,-,-⟩;refine(lu hl).bind ?_;rintro _ j ⟨rfl,h3⟩;refine bQ.bind (Q:=fun ns j=>i+3+ns.length≤j∧j<l.length) ?_ ?_
  ·split
   ·rename_i h5;exact bQ.ok ⟨by simp,is_lt hl h5⟩
   ·refine(Tc hl f _ []).weak ?_;rintro p j ⟨h4,h5⟩;exact⟨by simpa using h4,h5⟩
  ·rintro ns j ⟨h4,h5⟩;refine(h.block _ d).bind ?_;rintro b j ⟨h6,h7,h8⟩;exact rQ h1 dc dc dc dc (by rw[bP,dM];rfl) (by rw[gm];omega) h7 N h8
 rw[if_neg h1];clear h1;by_cases h1:bG l i [40]=true
 ·rw[if_pos h1];split
  ·rename_i h5;have h6:=is_lt hl h5;exact rQ h1 dc dc dc dc (by rw[bP,dM];rfl) (by rw[gm,eF];simp) om N S
  ·refine(h.level _ d 0).bind ?_;rintro x j ⟨h2,h3,h4⟩;refine(lu hl).bind ?_;rintro _ j ⟨rfl,h5⟩;exact rQ h1 dc dc dc dc (by rw[bP,dM];rfl) (by rw[jv,eF];simp;omega) h5 (dK.one h4) S
 rw[if_neg h1];clear h1;by_cases h1:bG l i [115,101,108,102]=true
 ·rw[if_pos h1];exact rQ h1 dc dc dc dc (by rw[bP,dM];rfl) (by rw[gm,eF];exact Nat.le_refl _) (is_lt hl h1) N S
 rw[if_neg h1];clear h1;refine(uJ hl).bind ?_;rintro n j ⟨rfl,h2,rfl,h3⟩;split
 ·refine(h.list _ d).bind ?_;rintro al j ⟨h4,h5,h6⟩;exact bQ.ok ⟨by rw[uK,eF];simp;omega,h5,AU h3 (vb0 dc dc) (Jy (by show(12:Int)≠14;decide) (by show(12:Int)≠6;decide) (by show(12:Int)≠13;decide) (by rw[bP,dM];rfl)) h6 S⟩
 ·exact bQ.ok ⟨by rw[uK,gm,eF];simp,h2,AU h3 (vb0 dc dc) (Jy (by show(5:Int)≠14;decide) (by show(5:Int)≠6;decide) (by show(5:Int)≠13;decide) (by rw[bP,dM];rfl)) N S⟩
theorem ZX:∀f,Lp l f:=by
 intro f;induction f with
 |zero=>exact⟨fun _ _ _=>by rw[a_];exact bQ.out,fun _ _ _ _ _ _ _ _=>by rw[vK];exact bQ.out,fun _ _=>by rw[iI];exact bQ.out,fun _ _=>by rw[rD];exact bQ.out,fun _ _ _ _ _ _ _=>by rw[nJ];exact bQ.out,fun _ _=>by rw[lG];exact bQ.out,fun _ _ _ _=>by rw[oK];exact bQ.out,fun _ _=>by rw[qJ];exact bQ.out,fun _ _ _ _ _=>by rw[lH];exact bQ.out,fun _ _=>by rw[qg];exact bQ.out,fun _ _=>by rw[bU];exact bQ.out,fun _ _ _ _=>by rw[lY];exact bQ.out,fun _ _=>by rw[xO];exact bQ.out,fun _ _=>by rw[xP];exact bQ.out,fun _ _=>by rw[rE];exact bQ.out⟩
 |succ f h=>
  have N:dK (Pd l) []:=dK.nl;have S:f_ (Pd l) []:=f_.nl;refine⟨?_,?_,?_,?_,?_,?_,?_,?_,?_,fun i d=>Wy hl htk f h i d,?_,?_,?_,?_,?_⟩
  ·intro i d n;rw[a_];split
   ·exact h.unary i d
   ·exact(h.level i d (n+1)).bind fun x j hx=>h.row i j d n x hx.1 hx.2.1 hx.2.2
  ·intro i0 i d n x hi hj hx;rw[vK];cases ho:xu l i n with
   |none=>exact bQ.ok ⟨hi,hj,hx⟩
   |some s=>
    have hs:bG l i s=true:=List.find?_some ho;refine(h.level (i+1) d (n+1)).bind ?_;rintro y j ⟨h2,h3,h4⟩;(have hm:i0+DC (bP 14 (lX s) 0 false [x,y] [] [] (tokA l i))≤j:=by rw[uK,jQ,jv,eF];simp;omega);(have hp:AP l (bP 14 (lX s) 0 false [x,y] [] [] (tokA l i)):=by refine AU (DK hs) (vb0 dc dc) ?_ (dK.snoc (dK.one hx) h4) S;unfold Jv;rw[if_pos (show(bP 14 (lX s) 0 false [x,y] [] [] (tokA l i)).kind=14 from rfl),zF hs];rfl);split
    ·exact bQ.ok ⟨hm,h3,hp⟩
    ·exact h.row i0 j d n _ hm h3 hp
  ·intro i d;rw[iI];split
   ·exact bQ.fail
   split
   ·rename_i h1;refine(h.unary _ _).bind ?_;rintro y j ⟨h2,h3,h4⟩;exact rQ h1 dc dc dc dc (by rw[bP,dM];rfl) (by rw[jv,eF];simp;omega) h3 (dK.one h4) S
   split
   ·rename_i h1;refine(h.unary _ _).bind ?_;rintro y j ⟨h2,h3,h4⟩;exact rQ h1 dc dc dc dc (by rw[bP,dM];rfl) (by rw[jv,eF];simp;omega) h3 (dK.one h4) S
   split
   ·rename_i h1;refine(h.unary _ _).bind ?_;rintro y j ⟨h2,h3,h4⟩;exact rQ h1 dc dc dc dc (by rw[bP,dM];rfl) (by rw[jv,eF];simp;omega) h3 (dK.one h4) S
   split
   ·rename_i h1;(have h6:i+1≤iH l (i+1) [109,117,116]:=by unfold iH;split<;>omega);refine(h.unary _ _).bind ?_;rintro y j ⟨h2,h3,h4⟩;refine rQ h1 dc dc dc dc ?_ (by rw[jv,eF];simp;omega) h3 (dK.one h4) S;rw[bP,dM];cases bG l (i+1) [109,117,116]<;>rfl
   ·exact h.post i (d+1)
  ·intro i d;rw[rD];exact(h.RI i d).bind fun x j hx=>h.dots i j d x hx.1 hx.2.1 hx.2.2
  ·intro i0 i d x hi hj hx;rw[nJ];split
   ·rename_i h1;refine(uJ hl).bind ?_;rintro n j ⟨rfl,h2,-,-⟩;(have hd:∀(k:Int) (al:List Ex),(k=6∨k=13)→dK (Pd l) al→AP l (bP k n 0 false al [] [] (tokA l i)):=by intro k al hk hal;refine AU (DK h1) (vb0 om om) ?_ hal S;unfold Jv;rw[if_neg (show¬(bP k n 0 false al [] [] (tokA l i)).kind=14 from fun e=>by have e:k=14:=e;omega),if_pos (show(bP k n 0 false al [] [] (tokA l i)).kind=6∨(bP k n 0 false al [] [] (tokA l i)).kind=13 from hk)];exact zF h1);split
    ·refine(h.list _ d).bind ?_;rintro al k ⟨h4,h5,h6⟩;refine h.dots i0 k d _ ?_ h5 (hd 13 _ (.inr rfl) (by rw[dK];exact⟨hx,h6⟩));rw[uK,jQ,eF];simp;omega
    ·refine h.dots i0 _ d _ ?_ h2 (hd 6 _ (.inl rfl) (dK.one hx));rw[uK,jv,eF];simp;omega
   ·exact bQ.ok ⟨hi,hj,hx⟩
  ·intro i d;rw[lG];split
   ·rename_i h1;exact bQ.ok ⟨by rw[gm];omega,is_lt hl h1,N⟩
   ·refine(h.more i d [] N).weak ?_;rintro al j ⟨h2,h3,h4⟩;rw[gm]at h2;exact⟨by omega,h3,h4⟩
  ·intro i d acc hacc;rw[oK];refine GX.bind ?_;rintro _ i ⟨rfl,-⟩;refine(h.level i d 0).bind ?_;rintro x j ⟨h2,h3,h4⟩;split
   ·refine(h.more _ d _ (dK.snoc hacc h4)).weak ?_;rintro al k ⟨h5,h6,h7⟩;rw[tJ]at h5;exact⟨by omega,h6,h7⟩
   ·refine(lu hl).bind ?_;rintro _ j ⟨rfl,h5⟩;exact bQ.ok ⟨by rw[tJ];omega,h5,dK.snoc hacc h4⟩
  ·intro i d;rw[qJ];refine(lu hl).bind ?_;rintro _ j ⟨rfl,h1⟩;refine(h.level _ d 0).bind ?_;rintro x j ⟨h2,h3,h4⟩;refine(lu hl).bind ?_;rintro _ j ⟨rfl,h5⟩;exact bQ.ok ⟨by omega,h5,h4⟩
  ·intro i d ns al hal;rw[lH];refine GX.bind ?_;rintro _ i ⟨rfl,-⟩;refine(uJ hl).bind ?_;rintro n j ⟨rfl,h1,-,-⟩;refine(lu hl).bind ?_;rintro _ j ⟨rfl,h2⟩;refine(h.level _ d 0).bind ?_;rintro x j ⟨h3,h4,h5⟩;split
   ·refine(h.made _ d _ _ (dK.snoc hal h5)).weak ?_;rintro p k ⟨h6,h7,h8⟩;rw[tJ]at h6;simp at h6;exact⟨by omega,h7,h8⟩
   ·refine(lu hl).bind ?_;rintro _ j ⟨rfl,h6⟩;exact bQ.ok ⟨by show _+((ns++[n]).length+jQ (al++[x]))≤_;rw[tJ];simp;omega,h6,dK.snoc hal h5⟩
  ·intro i d;rw[bU];split
   ·exact bQ.fail
   ·refine(lu hl).bind ?_;rintro _ j ⟨rfl,h1⟩;refine(h.stmts _ _ [] S).weak ?_;rintro b k ⟨h2,h3,h4⟩;rw[eF]at h2;exact⟨by omega,h3,h4⟩
  ·intro i d acc hacc;rw[lY];split
   ·rename_i h1;exact bQ.ok ⟨by omega,is_lt hl h1,hacc⟩
   ·refine(h.stmt i d).bind ?_;rintro s j ⟨h1,h2,h3⟩;refine(h.stmts _ _ _ (f_.snoc hacc h3)).weak ?_;rintro b k ⟨h4,h5,h6⟩;rw[Fe]at h4;exact⟨by omega,h5,h6⟩
  ·intro i d;rw[xO];refine(uJ hl).bind ?_;rintro n j ⟨rfl,h1,-,-⟩;refine bQ.bind (Q:=fun ty j=>i+zL ty≤j∧j<l.length) ?_ ?_
   ·split
    ·refine((XY hl f).1 _ _).weak ?_;rintro t j ⟨h2,h3⟩;exact⟨by omega,h3⟩
    ·exact bQ.ok ⟨by rw[oC];omega,h1⟩
   ·rintro ty j ⟨h2,h3⟩;refine bQ.bind (Q:=fun e j=>i+(zL ty+jQ e)≤j∧j<l.length∧dK (Pd l) e) ?_ ?_
    ·split
     ·refine(h.level _ d 0).bind ?_;rintro x k ⟨h4,h5,h6⟩;exact bQ.ok ⟨by rw[jv];omega,h5,dK.one h6⟩
     ·exact bQ.ok ⟨by rw[gm];omega,h3,N⟩
    ·rintro e j ⟨h4,h5,h6⟩;refine(lu hl).bind ?_;rintro _ j ⟨rfl,h7⟩;exact bQ.ok ⟨by show _+(zL ty+jQ e)≤_;omega,h7,h6⟩
  ·intro i d;rw[xP];refine(h.level i d 0).bind ?_;rintro x j ⟨h1,h2,h3⟩;refine bQ.bind (Q:=fun p j=>i+(jQ p.1+DC p.2)≤j∧j<l.length∧dK (Pd l) p.1∧AP l p.2) ?_ ?_
   ·split
    ·refine(h.level _ d 0).bind ?_;rintro y k ⟨h4,h5,h6⟩;exact bQ.ok ⟨by show _+(jQ [x]+DC y)≤_;rw[jv];omega,h5,dK.one h3,h6⟩
    ·exact bQ.ok ⟨by show _+(jQ []+DC x)≤_;rw[gm];omega,h2,N,h3⟩
   ·rintro p j ⟨h4,h5,h6,h7⟩;refine(lu hl).bind ?_;rintro _ j ⟨rfl,h8⟩;exact bQ.ok ⟨by omega,h8,h6,h7⟩
  ·intro i d;rw[rE];(have mkS:∀(k:Int) (n:ByteArray) (ty:Ty) (p e:List Ex) (b c:List St) (o:Bool) (t:Tok),dK (Pd l) p→dK (Pd l) e→f_ (Pd l) b→f_ (Pd l) c→yu (Pd l) (jP k n ty p e b c o t):=by intro k n ty p e b c o t h1 h2 h3 h4;rw[jP,yu];exact⟨h1,h2,h3,h4⟩);(have XZ:∀(k:Int) (n:ByteArray) (ty:Ty) (p e:List Ex) (b c:List St) (o:Bool) (t:Tok),stM (jP k n ty p e b c o t)=zL ty+jQ p+jQ e+nH b+nH c:=by intro k n ty p e b c o t;rw[jP,stM]);split
   ·refine(h.ZK _ d).bind ?_;rintro p j ⟨h1,h2,h3⟩;exact bQ.ok ⟨by rw[XZ,gm,eF];omega,h2,mkS _ _ _ _ _ _ _ _ _ N h3 S S⟩
   split
   ·refine(h.level _ d 0).bind ?_;rintro x j ⟨h1,h2,h3⟩;refine(h.block j d).bind ?_;rintro b j ⟨h4,h5,h6⟩;split
    ·refine(h.block _ d).bind ?_;rintro c j ⟨h7,h8,h9⟩;exact bQ.ok ⟨by rw[XZ,gm,jv,oC];omega,h8,mkS _ _ _ _ _ _ _ _ _ N (dK.one h3) h6 h9⟩
    ·exact bQ.ok ⟨by rw[XZ,gm,jv,eF,oC];omega,h5,mkS _ _ _ _ _ _ _ _ _ N (dK.one h3) h6 S⟩
   split
   ·refine(h.level _ d 0).bind ?_;rintro x j ⟨h1,h2,h3⟩;refine(h.block j d).bind ?_;rintro b j ⟨h4,h5,h6⟩;exact bQ.ok ⟨by rw[XZ,gm,jv,eF,oC];omega,h5,mkS _ _ _ _ _ _ _ _ _ N (dK.one h3) h6 S⟩
   split
   ·rename_i h0;have hlt:=is_lt hl h0;refine bQ.bind (Q:=fun e j=>i+1+jQ e≤j∧j<l.length∧dK (Pd l) e) ?_ ?_
    ·split
     ·exact bQ.ok ⟨by rw[gm];omega,hlt,N⟩
     ·refine(h.level _ d 0).bind ?_;rintro x j ⟨h1,h2,h3⟩;exact bQ.ok ⟨by rw[jv];omega,h2,dK.one h3⟩
    ·rintro e j ⟨h1,h2,h3⟩;refine(lu hl).bind ?_;rintro _ j ⟨rfl,h4⟩;exact bQ.ok ⟨by rw[XZ,gm,eF,oC];omega,h4,mkS _ _ _ _ _ _ _ _ _ N h3 S S⟩
   split
   ·refine(lu hl).bind ?_;rintro _ j ⟨rfl,h1⟩;exact bQ.ok ⟨by rw[XZ,gm,eF,oC];omega,h1,mkS _ _ _ _ _ _ _ _ _ N N S S⟩
   split
   ·refine(h.block i d).bind ?_;rintro b j ⟨h1,h2,h3⟩;exact bQ.ok ⟨by rw[XZ,gm,eF,oC];omega,h2,mkS _ _ _ _ _ _ _ _ _ N N h3 S⟩
   ·refine(h.ZL i d).bind ?_;rintro p j ⟨h1,h2,h3,h4⟩;exact bQ.ok ⟨by rw[XZ,jv,eF,oC];omega,h2,mkS _ _ _ _ _ _ _ _ _ h3 (dK.one h4) S S⟩
end
def jh (p:Pm):List ByteArray:=[p.name,⟨#[58]⟩]++gu p.ty
def psep (k:Nat):List ByteArray:=if 0<k then[⟨#[43]⟩]else[]
def lJ (l:List ByteArray):Nat→List ByteArray
 |0=>[]
 |k+1=>lJ l k++psep k++[l.getD k ⟨#[]⟩]
theorem DL (l:List ByteArray):∀k,(lJ l k).length≤2*k
 |0=>by rw[lJ];exact Nat.le_refl _
 |k+1=>by
  have h3:(psep k).length≤1:=by unfold psep;split<;>simp
  rw[lJ];simp only[List.length_append,List.length_singleton];have:=DL l k;omega
def yA (b:Bd):List ByteArray:=[b.name,⟨#[58]⟩]++lJ (b.kQ++b.bI) (b.kQ++b.bI).length
theorem OB.be {ops:Array Oper} {dD:List Sp} {w1:World} {o:Oper} {a:Act} {r:List Oper} {ss:List Sp} (h:zh ops dD w1 r ss a) (hy:∀X,o.wp Tryz.prog a X (fun a' X'=>a'=a.put o.dst (.slice (some ⟨X.heap.size,0,none⟩) 0 0)∧X'=X.alloc (.cells #[] 9)) QN:=by intro X;go_simp) (hw:Region.wanted o (yielded ops a.tmps)=true:=by kernel_rfl):zh ops dD w1 (o::r) (.r [] (aH [])::ss) a:=
 OB.new (fun X _=>Oper.wp_mono (fun a' X' ⟨h1,h2⟩=>⟨_,h1,by rw[h2];exact bg.alloc _,by
  rw[h2]
  refine⟨⟨rfl,.inr ⟨X.heap.size,0,_,rfl,Nat.zero_le _,aC _ _,Nat.le_refl _,by decide,rfl,rfl⟩⟩,fun b hb=>.inr ?_⟩
  have:X.heap.size=b:=Option.some.inj hb
  omega⟩) (hy X)) h hw
def tyK:Ty→Int
 | .mk k _ _ _ _ _ _ _=>k
def gX (rt:Ty) (l:List Bd):List ByteArray:=(match rt with| .mk k _ _ _ _ _ _ _=>if k=0 then[]else[⟨#[45,62]⟩]++gu rt)++(if(l.map yA).length=0 then[]else[⟨#[119,104,101,114,101]⟩]++aF (l.map yA))
theorem wF (l:List Pm) (v:Value) (w:World) (D:Nat→Prop) (hv:lT Pq w D l v) (hl:l.length≤100000000) (ih:∀p∈l,xI p.ty) (hbc:(aF (l.map jh)).length≤100000000):Calls Tryz.prog 27 #[v] w (Mk (aH (aF (l.map jh))) w):=by
 obtain⟨xs,⟨a,c,rfl,-,-,-,hr⟩,hel⟩:=hv;have HB:=ai hbc;obtain⟨n,hn⟩:=bF l.length;have HN:=ai hn;rw[←hn]at hl⊢;clear hn hbc;go_enter Tryz.func27,Tryz.ntmps27;go_wp2_with fail;go_loopg [3,4] n (fun gg s3 s4 wr=>∃(i:Nat) (C:Nat→Prop),s4=.int .i64 i∧i≤n∧n-i≤gg∧(jw ((l.map jh).take i)).r s3 wr C∧(∀q,C q→w.heap.size≤q)∧Step Sf w wr);case atStart=>exact⟨0,Sf,rfl,Nat.zero_le _,by omega,oz.nil _ _,(fun _ h=>h.elim),Step.refl _ _⟩
 case round=>
  obtain⟨i,C,rfl,hi,hg,hu,hC,hst⟩:=hrel;have HU:=ai hu;have HC:=ai hC;have HST:=ai hst;clear hu hC hst;by_cases hlt:i<n
  ·skip
   have hlt2:i<l.length:=by rw[←HN.o];exact hlt
   obtain⟨x,hx⟩:∃x,l[i]?=some x:=⟨l[i],List.getElem?_eq_getElem hlt2⟩
   have hx2:(l.map jh)[i]?=some ([x.name,⟨#[58]⟩]++gu x.ty):=by rw[List.getElem?_map,hx];rfl
   have HX:Hid ((l.map jh).take (i+1)=(l.map jh).take i++[[x.name,⟨#[58]⟩]++gu x.ty]):=show _=_ from take_snoc hx2
   obtain⟨g,o,rfl,h6,h7,h9⟩:=hr om
   obtain⟨cs,⟨ct,rfl,-,hat⟩,hf⟩:=ou.get kR i hel hx
   have hm:=List.mem_of_getElem? hx
   have hcx:=ih x hm
   have hbx:(gu x.ty).length≤100000000:=by
    have h1:=fU (List.mem_of_getElem? hx2)
    have h:=HB.o
    simp only[List.length_append,List.length_cons,List.length_nil]at h h1
    omega
   have h10:=h9 (i*11+0) (.string x.name) (hf 0 _ rfl)
   rw[Nat.add_zero]at h10
   have Ih:Hid (∀X,Step Sf w X→X.cell? ⟨g,o+i*11,none⟩=some (.string x.name)):=show∀X,_ from fun X hX=>hX.cell h10 (fun h=>h)
   have HF:Hid (∀X,Step Sf w X→∀(j:Nat) v,ct[j]?=some v→X.cell? ⟨g,o+i*11+1+j,none⟩=some v):=by
    show∀X,_
    intro X hX j v h
    have h1:=h9 (i*11+(1+j)) v (hf (1+j) v (by
     rw[List.append_assoc,List.getElem?_append_right (by simp),List.getElem?_append_left (by have:=(List.getElem?_eq_some_iff.1 h).1;simpa using this)]
     simpa using h))
    rw[show o+i*11+1+j=o+(i*11+(1+j)) by omega]
    exact hX.cell h1 (fun h=>h)
   have HAT:=ai hat
   have hcl:(Tryz.prog.info? 46).map (·.size)=some ct.length:=by rw[hat.len];exact Tryz.gB
   clear h6 h7 h9 hx hx2 hr hf hat hm hel ih h10
   go_upto_region 5 with fail
   refine au w [.r [17] (jw ((l.map jh).take i)),.p (.slice (some ⟨g,o,none⟩) n c),.p (.int .i64 i),.p (.pointer (some ⟨g,o+i*11,none⟩)),.p (.pointer (some ⟨g,o+i*11,none⟩)),.p (.string x.name),.r [] (aH [x.name,⟨#[58]⟩]),.p (.slice (some ⟨g,o,none⟩) n c),.p (.int .i64 i),.p (.pointer (some ⟨g,o+i*11,none⟩)),.p (.pointer (some ⟨g,o+i*11+1,none⟩)),.p (.agg ct.toArray),.r [] (aH (gu x.ty)),.r [6,12] (aH ([x.name,⟨#[58]⟩]++(gu x.ty))),.r [13] (jw [([x.name,⟨#[58]⟩]++(gu x.ty))]),.r [0,14] (jw ((l.map jh).take (i+1))),.r [15] (jw ((l.map jh).take (i+1))),.r [] (Kp (jw ((l.map jh).take i)) (u3))] kr HST.o (jf rfl rfl HU.o HC.o) ?_ kr ?_
   ·
    refine OB.mi 3 ?_
    refine OB.p ?_
    refine OB.p ?_
    refine OB.p ?_
    refine OB.p ?_
    refine OB.p ?_ (fun X hX=>by have c:=Ih.o X hX;go_simp)
    refine OB.bs [x.name,⟨#[58]⟩] 2 ?_
    refine OB.p ?_
    refine OB.p ?_
    refine OB.p ?_
    refine OB.p ?_
    refine OB.ld g (o+i*11+1) ct _ HF.o Tryz.underlying46 hcl ?_
    refine OB.c #[.agg ct.toArray] Tryz.func56 (fun X hX=>hcx ct X D (gG.step hX (fun _ _ h=>h) _ _ HAT.o) hbx) ?_
    refine OB.app 17 23 (by simp only[List.length_cons,List.length_nil];omega) ?_
    refine OB.ls 24 ?_
    refine OB.to (congrArg jw HX.o) ?_
    refine OB.la 11 25 (by simp only[List.length_take,List.length_singleton];omega) ?_
    refine OB.mv 26 ?_
    exact OB.nil
   intro V X f hX hf
   have h4:(jw _).r _ X _:=hf 16 kr
   simp only[dm,Act.put,List.setIfInBounds_toArray,List.set_cons_zero,List.set_cons_succ,Nat.zero_add]
   go_wp2_with fail
   go_roundg (gk-1)
   case rel=>exact⟨i+1,_,by go_num,by omega,by omega,h4,(fun q h=>h.1),hX⟩
   case measure=>omega
  ·skip
   have hn2:i=(l.map jh).length:=by have:=HN.o;simp only[List.length_map];omega
   have h:=HU.o
   rw[hn2,List.take_length]at h
   have OC:=ai h
   have hl3:(l.map jh).length≤100000000:=by rw[←hn2];omega
   have hbc:=HB.o
   clear h hn2 HU
   go_upto_region 6 with fail
   refine au w [.r [3] (jw (l.map jh)),.r [0] (aH (aF (l.map jh))),.r [1] (aH (aF (l.map jh))),.r [] (Kp (jw (l.map jh)) (u3))] kr HST.o (jf rfl rfl OC.o HC.o) ?_ kr ?_
   ·
    refine OB.mi 3 ?_
    refine OB.cu (ok:=jw (l.map jh)) 27 (fun v=> #[v]) Tryz.func34 (fun X v C hX hv=>jT _ v X C (oz.ls hv) hl3 hbc) ?_
    refine OB.mv 28 ?_
    exact OB.nil
   intro V X f hX hf
   have h4:(aH _).r _ X _:=hf 2 kr
   simp only[dm,Act.put,List.setIfInBounds_toArray,List.set_cons_zero,List.set_cons_succ,Nat.zero_add]
   go_wp2_with fail
   go_ret
   exact⟨_,rfl,hX,(aH _).ok.mono (fun _ _ h=>h.1) h4⟩
theorem Ad (rt:Ty) (l:List Bd) (cr:List Value) (v:Value) (w:World) (D:Nat→Prop) (hx:gG w D rt cr) (hv:lT EX w D l v) (hl:l.length≤1000000) (hall:∀b∈l,b.kQ.length+b.bI.length≤1000000) (ih:tyK rt≠0→xI rt) (hb:(gX rt l).length≤100000000):Calls Tryz.prog 28 #[.agg cr.toArray,v] w (Mk (aH (gX rt l)) w):=by
 obtain⟨xs,⟨a,c,rfl,-,-,-,hr⟩,hel⟩:=hv;have HR:=ai hr;have Az:=ai hel;have MG:=ai hx;have HB:=ai hb;have La:=ai hall;obtain⟨n,hn⟩:=bF l.length;have HN:=ai hn;rw[←hn]at hl⊢;obtain⟨k,nm,lf,mu,ls,ar,ln,col⟩:=rt;rw[gG]at hx;obtain⟨vl,va,xa,rfl,-,-,-,hrl,-,hra⟩:=hx;obtain⟨al,cl,rfl⟩:=hrl.parts;obtain⟨aa,ca,rfl⟩:=hra.parts;clear hrl hra hr hel hb hn hall;obtain⟨W,hW⟩:=bF (w.alloc (.cells #[Value.int .i64 k,aI nm,aI lf,bK mu,.slice al ls.length cl,.slice aa ar.length ca,ah ln,ah col] 46));have ST0:Hid (Step Sf w W):=by rw[hW];exact bg.alloc _
 have bJ:Hid (∀X,Step Sf W X→∀(j:Nat) u,[Value.int .i64 k,aI nm,aI lf,bK mu,.slice al ls.length cl,.slice aa ar.length ca,ah ln,ah col][j]?=some u→X.cell? ⟨w.heap.size,0+j,none⟩=some u):=by intro X hX j u hu;rw[hW]at hX;rw[Nat.zero_add];exact aj (hX.keep (aC _ _) (fun h=>h)) j u (by simpa using hu)
 have HW:=ai hW;have hsz:w.heap.size≤W.heap.size:=ST0.o.size;clear hW;obtain⟨rl,hrl⟩:=bF ((if k=0 then[]else[⟨#[45,62]⟩]++gu (.mk k nm lf mu ls ar ln col)):List ByteArray);have HRT:=ai hrl;obtain⟨bl,hbl⟩:=bF (l.map yA);have HBL:=ai hbl;have HTL:Hid (gX (.mk k nm lf mu ls ar ln col) l=rl++(if bl.length=0 then[]else[⟨#[119,104,101,114,101]⟩]++aF bl)):=by show _=_;rw[hrl,hbl];rfl
 have X4:Hid (rl.length+(aF bl).length≤100000000):=by
  have h:=HB.o;rw[HTL.o]at h;show _≤_;split at h
  ·rename_i h0;rw[List.eq_nil_of_length_eq_zero h0];simp only[List.length_append,List.length_nil]at h;show _+0≤_;omega
  ·simp only[List.length_append]at h;omega
 have IK:Hid (bl.length=n):=by show _=_;rw[hbl,List.length_map,HN.o]
 clear hrl hbl HB;go_enter Tryz.func28,Tryz.ntmps28;go_upto_region 2 with fail
 rw[←HW.o];have c0:=bJ.o W bg 0 _ rfl;rw[Nat.add_zero]at c0;go_upto_if 13 with fail
 go_cut [5,13] (fun s _ wx=>∃C,(aH rl).r s wx C∧(∀q,C q→W.heap.size≤q)∧Step Sf W wx);case first=>
  by_cases h0:k=0
  ·skip
   have h1:rl=[]:=by rw[HRT.o,if_pos h0]
   have HR1:=ai h1
   have hk:(k==0)=true:=by rw[h0];rfl
   clear h0 h1
   go_wp2_with fail
   go_meet
   case rel=>rw[HR1.o];exact⟨Sf,aH.nil _ _,(fun _ h=>h.elim),Step.refl _ _⟩
  ·skip
   have h1:rl=[⟨#[45,62]⟩]++gu (.mk k nm lf mu ls ar ln col):=by rw[HRT.o,if_neg h0]
   have HR1:=ai h1
   have hk:(k==0)=false:=by rw[beq_eq_false_iff_ne];exact h0
   have hbt:(gu (.mk k nm lf mu ls ar ln col)).length≤100000000:=by have h:=X4.o;rw[h1]at h;simp only[List.length_append]at h;omega
   clear h1
   go_upto_region 3 with fail
   refine au W [.r [] (aH [⟨#[45,62]⟩]),.p (.agg [Value.int .i64 k,aI nm,aI lf,bK mu,.slice al ls.length cl,.slice aa ar.length ca,ah ln,ah col].toArray),.r [] (aH (gu (.mk k nm lf mu ls ar ln col))),.r [0,2] (aH ([⟨#[45,62]⟩]++(gu (.mk k nm lf mu ls ar ln col)))),.r [3] (aH ([⟨#[45,62]⟩]++(gu (.mk k nm lf mu ls ar ln col))))] kr bg (iR (Nat.le_refl _)) ?_ kr ?_
   ·
    refine OB.bs [⟨#[45,62]⟩] 1 ?_
    refine OB.ld w.heap.size 0 [Value.int .i64 k,aI nm,aI lf,bK mu,.slice al ls.length cl,.slice aa ar.length ca,ah ln,ah col] _ bJ.o Tryz.underlying46 Tryz.gB ?_
    refine OB.c #[.agg [Value.int .i64 k,aI nm,aI lf,bK mu,.slice al ls.length cl,.slice aa ar.length ca,ah ln,ah col].toArray] Tryz.func56 (fun X hX=>(ih h0) _ X D (gG.step (ST0.o.trans hX) (fun _ _ h=>h) _ _ MG.o) hbt) ?_
    refine OB.app 14 16 (by simp only[List.length_cons,List.length_nil];omega) ?_
    refine OB.mv 17 ?_
    exact OB.nil
   intro V X f hX hf
   have h4:(aH _).r _ X _:=hf 4 kr
   simp only[dm,Act.put,List.setIfInBounds_toArray,List.set_cons_zero,List.set_cons_succ,Nat.zero_add]
   go_wp2_with fail
   go_meet
   case rel=>rw[HR1.o];exact⟨_,h4,(fun q h=>h.1),hX⟩
 case rest=>
  clear c0;obtain⟨C0,hu0,hC0,hs0⟩:=hcut;have HU0:=ai hu0;have SL:=ai hC0;have HS0:=ai hs0;obtain⟨w0,rfl⟩:∃W0:World,W0=wc:=⟨_,rfl⟩;clear hu0 hC0 hs0;go_wp2_with fail;have HU5:Hid (∀X,Step Sf w0 X→(aH rl).r u5 X C0):=show∀X,_ from fun X hX=>(aH rl).ok.step hX (fun _ _ h=>h) HU0.o;go_loopg [6,7] n (fun gg s6 s7 wr=>∃(i:Nat) (C:Nat→Prop),s7=.int .i64 i∧i≤n∧n-i≤gg∧(jw (bl.take i)).r s6 wr C∧(∀q,C q→w0.heap.size≤q)∧Step Sf w0 wr);case atStart=>exact⟨0,Sf,rfl,Nat.zero_le _,by omega,oz.nil _ _,(fun _ h=>h.elim),Step.refl _ _⟩
  case round=>
   obtain⟨i,C,rfl,hi,hg,hu,hC,hst⟩:=hrel;have HU:=ai hu;have HC:=ai hC;have HST:=ai hst;clear hu hC hst;by_cases hlt:i<n
   ·skip
    have ZY:Step Sf W wr:=HS0.o.trans HST.o
    have hlt2:i<l.length:=by rw[←HN.o];exact hlt
    obtain⟨x,hx⟩:∃x,l[i]?=some x:=⟨l[i],List.getElem?_eq_getElem hlt2⟩
    have hx2:bl[i]?=some (yA x):=by rw[HBL.o,List.getElem?_map,hx];rfl
    have HX:Hid (bl.take (i+1)=bl.take i++[yA x]):=show _=_ from take_snoc hx2
    obtain⟨g,o,rfl,h6,h7,h9⟩:=HR.o om
    obtain⟨cs,⟨vt,Xa,rfl,-,ht,hl2⟩,hf⟩:=ou.get jc i Az.o hx
    obtain⟨WA,ct1,rfl⟩:=ht.parts
    obtain⟨al1,cl1,rfl⟩:=hl2.parts
    have hm:=List.mem_of_getElem? hx
    have hax:=La.o x hm
    have hbx:(yA x).length≤100000000:=by
     have h1:=fU (List.mem_of_getElem? hx2)
     have h:=X4.o
     omega
    have hC:∀(j:Nat) u,j<3→[Value.string x.name,.slice WA x.kQ.length ct1,.slice al1 x.bI.length cl1,ah x.line,ah x.col][j]?=some u→∀X,Step Sf wr X→X.cell? ⟨g,o+i*5+j,none⟩=some u:=by
     intro j u _ hu X hX
     have h1:=h9 (i*5+j) u (hf j u hu)
     rw[Nat.add_assoc]
     exact hX.cell (ZY.cell (ST0.o.cell h1 (fun h=>h)) (fun h=>h)) (fun h=>h)
    have H0:Hid (∀X,Step Sf wr X→X.cell? ⟨g,o+i*5,none⟩=some (.string x.name)):=show∀X,_ from hC 0 _ om rfl
    have H1:Hid (∀X,Step Sf wr X→X.cell? ⟨g,o+i*5+1,none⟩=some (.slice WA x.kQ.length ct1)):=show∀X,_ from hC 1 _ om rfl
    have H2:Hid (∀X,Step Sf wr X→X.cell? ⟨g,o+i*5+2,none⟩=some (.slice al1 x.bI.length cl1)):=show∀X,_ from hC 2 _ om rfl
    have HT1:Hid (∀X,Step Sf wr X→zf X D (.slice WA x.kQ.length ct1) x.kQ):=show∀X,_ from fun X hX=>(ht.2.step (ST0.o.trans ZY) (fun _ _ h=>h)).step hX (fun _ _ h=>h)
    have HT2:Hid (∀X,Step Sf wr X→zf X D (.slice al1 x.bI.length cl1) x.bI):=show∀X,_ from fun X hX=>(hl2.2.step (ST0.o.trans ZY) (fun _ _ h=>h)).step hX (fun _ _ h=>h)
    obtain⟨Bf,WB⟩:=bF (x.kQ++x.bI)
    have HAL:=ai WB
    obtain⟨m,hm2⟩:=bF Bf.length
    have HM:=ai hm2
    have hml:m≤1000000:=by rw[hm2,WB,List.length_append];exact hax
    have HPB:Hid (yA x=[x.name,⟨#[58]⟩]++lJ Bf m):=by show _=_;rw[hm2,WB];rfl
    clear h6 h7 h9 hx hx2 hf hm hC ht hl2 WB hm2 hax
    go_upto_region 8 with fail
    refine au wr [.p (.slice (some ⟨g,o,none⟩) n c),.p (.int .i64 i),.p (.pointer (some ⟨g,o+i*5,none⟩)),.p (.pointer (some ⟨g,o+i*5,none⟩)),.p (.string x.name),.r [] (aH [x.name,⟨#[58]⟩]),.r [5] (aH [x.name,⟨#[58]⟩])] kr bg (iR (Nat.le_refl _)) ?_ kr ?_
    ·
     refine OB.p ?_
     refine OB.p ?_
     refine OB.p ?_
     refine OB.p ?_
     refine OB.p ?_ (fun X hX=>by have c:=H0.o X hX;go_simp)
     refine OB.bs [x.name,⟨#[58]⟩] 2 ?_
     refine OB.mv 29 ?_
     exact OB.nil
    intro V0 X0 f0 hX0 hf0
    have qy:(aH _).r _ X0 _:=hf0 6 kr
    simp only[dm,Act.put,List.setIfInBounds_toArray,List.set_cons_zero,List.set_cons_succ,Nat.zero_add]
    go_upto_region 9 with fail
    refine au X0 [.r [] (aH []),.p (.slice (some ⟨g,o,none⟩) n c),.p (.int .i64 i),.p (.pointer (some ⟨g,o+i*5,none⟩)),.p (.pointer (some ⟨g,o+i*5+1,none⟩)),.p (.slice WA x.kQ.length ct1),.r [0] (aH ([]++x.kQ)),.p (.slice (some ⟨g,o,none⟩) n c),.p (.int .i64 i),.p (.pointer (some ⟨g,o+i*5,none⟩)),.p (.pointer (some ⟨g,o+i*5+2,none⟩)),.p (.slice al1 x.bI.length cl1),.r [6] (aH Bf),.r [12] (aH Bf)] kr bg (iR (Nat.le_refl _)) ?_ kr ?_
    ·
     refine OB.be ?_
     refine OB.p ?_
     refine OB.p ?_
     refine OB.p ?_
     refine OB.p ?_
     refine OB.p ?_ (fun X hX=>by have c:=H1.o X (hX0.trans hX);go_simp)
     refine OB.ap 30 35 (fun X hX=>HT1.o X (hX0.trans hX)) (by have h:=HAL.o;have h2:=HM.o;rw[h,List.length_append]at h2;first|omega|(simp only[List.length_nil];omega)|(simp;omega)) ?_
     refine OB.p ?_
     refine OB.p ?_
     refine OB.p ?_
     refine OB.p ?_
     refine OB.p ?_ (fun X hX=>by have c:=H2.o X (hX0.trans hX);go_simp)
     refine OB.to (congrArg aH HAL.o) ?_
     refine OB.ap 36 41 (fun X hX=>HT2.o X (hX0.trans hX)) (by have h:=HAL.o;have h2:=HM.o;rw[h,List.length_append]at h2;first|omega|(simp;omega)) ?_
     refine OB.mv 42 ?_
     exact OB.nil
    intro V1 X1 f1 hX1 hf1
    have Dq:(aH _).r _ X1 _:=hf1 13 kr
    simp only[dm,Act.put,List.setIfInBounds_toArray,List.set_cons_zero,List.set_cons_succ,Nat.zero_add]
    have Dq:(aH Bf).r (V1 13) X1 _:=hf1 13 kr
    have pW:=(aH [x.name,⟨#[58]⟩]).ok.step hX1 (fun _ _ h=>h) ((aH _).ok.mono (P':=fun q=>wr.heap.size≤q∧q<X0.heap.size) (fun q hq h=>⟨h.1,hq⟩) qy)
    obtain⟨N,hN⟩:∃N:Nat→Prop,N=fun q=>(wr.heap.size≤q∧q<X0.heap.size)∨X1.heap.size≤q:=⟨_,rfl⟩
    have MI:Hid (N=fun q=>(wr.heap.size≤q∧q<X0.heap.size)∨X1.heap.size≤q):=hN
    obtain⟨u8,hu8⟩:∃u,u=V0 6:=⟨_,rfl⟩
    obtain⟨u9,hu9⟩:∃u,u=V1 13:=⟨_,rfl⟩
    rw[←hu8]at pW⊢
    rw[←hu9]at Dq⊢
    have H81:=ai pW
    have hsl:=(aH.strs Dq).parts
    obtain⟨a9,c9,rfl⟩:=hsl
    have H41:=ai Dq.1
    have H41b:=ai Dq.2
    have HX0:=ai hX0
    have Uy:=ai hX1
    have hXs:=hX1.size
    have hXr:=hX0.size
    have UA:Hid (wr.heap.size≤X0.heap.size∧X0.heap.size≤X1.heap.size):=⟨hX0.size,hX1.size⟩
    rw[show Bf.length=m from HM.o.symm]
    clear Dq pW qy hf0 hf1 hN hu8 hu9 hX0 hX1 hXs hXr hbx
    obtain⟨wo,rfl⟩:=bF wr
    obtain⟨go1,rfl⟩:=bF (gk:Nat)
    go_wp2_with fail
    go_loopg [8,10] m (fun gg s8 s10 wr=>∃(k:Nat) (C:Nat→Prop),s10=.int .i64 k∧k≤m∧m-k≤gg∧(aH ([x.name,⟨#[58]⟩]++lJ Bf k)).r s8 wr C∧(∀q,C q→N q)∧Step N X1 wr)
    case atStart=>exact⟨0,_,rfl,Nat.zero_le _,by omega,by rw[lJ,List.append_nil];exact H81.o,(fun q h=>by rw[MI.o];exact .inl h),Step.refl _ _⟩
    case round=>
     obtain⟨k9,C9,rfl,hk,hgk,hu,hC,hst⟩:=hrel
     have HU8:=ai hu
     have HC8:=ai hC
     have Pj:=ai hst
     clear hu hC hst
     by_cases hlt9:k9<m
     ·skip
      obtain⟨y,hy⟩:∃y,Bf[k9]?=some y:=⟨Bf[k9]'(by rw[←HM.o];exact hlt9),List.getElem?_eq_getElem _⟩
      have hown:=H41.o
      have hob:=H41b.o
      rcases hown.2 with⟨-,hz⟩|⟨g9,cap,cur,hv,-,YK,-⟩
      ·
       exact absurd hlt9 (by rw[HM.o,hz];omega)
      cases hv
      have hc9:=hown.cells (g:=g9) rfl k9 (.string y) (by rw[List.getElem?_map,hy];rfl)
      rw[BG]at hc9
      rw[Nat.zero_add]at hc9
      have hg0:X0.heap.size≤g9∧g9<X1.heap.size:=⟨(hob g9 rfl).1,aP YK⟩
      have HY:Hid (∀X,Step N X1 X→X.cell? ⟨g9,k9,none⟩=some (.string y)):=show∀X,_ from fun X hX=>hX.cell hc9 (fun e=>by
       rw[MI.o]at e
       have e:(wo.heap.size≤g9∧g9<X0.heap.size)∨X1.heap.size≤g9:=e
       omega)
      have HP:Hid (lJ Bf (k9+1)=lJ Bf k9++psep k9++[y]):=by show _=_;rw[lJ,wO hy]
      have hbp:([x.name,⟨#[58]⟩]++lJ Bf k9++psep k9).length+[y].length≤1000000000:=by
       have h1:(lJ Bf k9++psep k9).length≤2*k9+1:=by
        rw[List.length_append]
        have h2:=DL Bf k9
        have h3:(psep k9).length≤1:=by unfold psep;split<;>simp
        omega
       simp only[List.length_append,List.length_cons,List.length_nil]at h1⊢
       omega
      have HBP:=ai hbp
      clear hown hob YK hc9 hg0 hy hbp
      go_upto_if 50 with fail
      go_cut [8] (fun s wx=>∃C,(aH ([x.name,⟨#[58]⟩]++lJ Bf k9++psep k9)).r s wx C∧(∀q,C q→N q)∧Step N X1 wx)
      case first=>
       by_cases h0:0<k9
       ·skip
        have hi0:(0:Int)<k9:=by omega
        have hs0:psep k9=[⟨#[43]⟩]:=if_pos h0
        have HS0':=ai hs0
        clear hs0
        go_upto_region 14 with fail
        refine l_ N X1 [.r [4] (aH ([x.name,⟨#[58]⟩]++lJ Bf k9)),.r [] (aH [⟨#[43]⟩]),.r [0,1] (aH (([x.name,⟨#[58]⟩]++lJ Bf k9)++[⟨#[43]⟩])),.r [2] (aH (([x.name,⟨#[58]⟩]++lJ Bf k9)++[⟨#[43]⟩])),.r [] (Kp (aH ([x.name,⟨#[58]⟩]++lJ Bf k9)) (u8))] (fun q h=>by rw[MI.o];exact .inr h) kr Pj.o (LJ rfl rfl HU8.o HC8.o) ?_ kr ?_
        ·
         refine ON.mi 8 ?_
         refine OB.bs [⟨#[43]⟩] 1 ?_
         refine OB.app 51 52 (by have h:=HBP.o;rw[HS0'.out]at h;simp only[List.length_append,List.length_cons,List.length_nil]at h⊢;omega) ?_
         refine ON.mv 53 ?_
         exact OB.nil
        intro V X f hX hf
        have h4:(aH _).r _ X _:=hf 3 kr
        simp only[dm,Act.put,List.setIfInBounds_toArray,List.set_cons_zero,List.set_cons_succ,Nat.zero_add]
        go_wp2_with fail
        go_meet
        case rel=>rw[HS0'.out];exact⟨_,h4,(fun q h=>h.1),hX⟩
       ·skip
        have hi0:¬(0:Int)<k9:=by omega
        go_wp2_with fail
        go_meet
        case rel=>rw[show psep k9=[] from if_neg h0,List.append_nil];exact⟨_,HU8.o,HC8.o,Pj.o⟩
      case rest=>
       obtain⟨C7,hu7,hC7,hs7⟩:=hcut
       go_upto_region 15 with fail
       refine l_ N X1 [.r [8] (aH ([x.name,⟨#[58]⟩]++lJ Bf k9++psep k9)),.p (.slice (some ⟨g9,0,none⟩) m c9),.p (.int .i64 k9),.p (.pointer (some ⟨g9,k9,none⟩)),.p (.string y),.r [] (aH [y]),.r [0,5] (aH ([x.name,⟨#[58]⟩]++lJ Bf (k9+1))),.r [6] (aH ([x.name,⟨#[58]⟩]++lJ Bf (k9+1))),.r [] (Kp (aH ([x.name,⟨#[58]⟩]++lJ Bf k9++psep k9)) (u8))] (fun q h=>by rw[MI.o];exact .inr h) kr hs7 (LJ rfl rfl hu7 hC7) ?_ kr ?_
       ·
        refine ON.mi 8 ?_
        refine ON.p ?_
        refine ON.p ?_
        refine ON.p ?_
        refine ON.p ?_ (fun X hX=>by have c:=HY.o X hX;go_simp)
        refine OB.bs [y] 1 ?_
        refine ON.to (congrArg aH (show[x.name,⟨#[58]⟩]++lJ Bf (k9+1)=[x.name,⟨#[58]⟩]++lJ Bf k9++psep k9++[y] by rw[HP.o];simp only[List.append_assoc])) ?_
        refine OB.app 54 59 HBP.o ?_
        refine ON.mv 60 ?_
        exact OB.nil
       intro V X f hX hf
       have h4:(aH _).r _ X _:=hf 7 kr
       simp only[dm,Act.put,List.setIfInBounds_toArray,List.set_cons_zero,List.set_cons_succ,Nat.zero_add]
       go_wp2_with fail
       go_roundg (gk-1)
       case rel=>exact⟨k9+1,_,by go_num,by omega,by omega,h4,(fun q h=>h.1),hX⟩
       case measure=>omega
     ·skip
      have hkm:k9=m:=by omega
      have h8:=HU8.o
      rw[hkm,←HPB.o]at h8
      have H8:=ai h8
      have hst:Step Sf w0 wo:=HST.o
      have hsy:Step (fun q=>wo.heap.size≤q) wo wr:=by
       refine((HX0.o.trans Uy.o).mono fe).trans (Pj.o.mono (fun q _ h=> ?_))
       rw[MI.o]at h
       have h:(wo.heap.size≤q∧q<X0.heap.size)∨X1.heap.size≤q:=h
       have h2:=UA.o
       omega
      have h6:=(jw (bl.take i)).ok.step hsy (fun q hq e=>by have:=hq.2;omega) ((jw _).ok.mono (P':=fun q=>C q∧q<wo.heap.size) (fun q hq h=>⟨h,hq⟩) HU.o)
      have H6:=ai h6
      have hC2:∀q,C9 q→wo.heap.size≤q:=by
       intro q hq
       have h:=HC8.o q hq
       rw[MI.o]at h
       have h:(wo.heap.size≤q∧q<X0.heap.size)∨X1.heap.size≤q:=h
       have h2:=UA.o
       omega
      have HC2:Hid (∀q,C9 q→wo.heap.size≤q):=hC2
      have hwy:Step Sf w0 wr:=by
       refine⟨hsy.os.trans hst.os,hsy.tape.trans hst.tape,hsy.output.trans hst.output,Nat.le_trans hst.size hsy.size,fun b hb _=> ?_⟩
       rw[hsy.block b (Nat.lt_of_lt_of_le hb hst.size) (fun e=>by have h2:=hst.size;omega)]
       exact hst.block b hb (fun h=>h)
      have HWY:=ai hwy
      have hwsz:=hst.size
      clear h8 h6 hst hsy hC2 hwy
      go_upto_region 16 with fail
      refine au w0 [.r [5] (jw (bl.take i)),.r [6] (aH (yA x)),.r [1] (jw [(yA x)]),.r [0,2] (jw (bl.take (i+1))),.r [3] (jw (bl.take (i+1))),.r [] (Kp (jw (bl.take i)) (u6)),.r [] (Kp (aH (yA x)) (u8))] kr HWY.o (Yl rfl rfl rfl H6.o H8.o (fun q h=>HC.o q h.1) (fun q h=>Nat.le_trans hwsz (HC2.o q h)) (fun q h h2=>by have:=HC2.o q h2;have:=h.2;omega)) ?_ kr ?_
      ·
       refine OB.mi 6 ?_
       refine OB.mi 8 ?_
       refine OB.ls 62 ?_
       refine OB.to (congrArg jw HX.o) ?_
       refine OB.la 61 63 (by simp only[List.length_take,List.length_singleton];omega) ?_
       refine OB.mv 64 ?_
       exact OB.nil
      intro V X f hX hf
      have h4:(jw _).r _ X _:=hf 4 kr
      simp only[dm,Act.put,List.setIfInBounds_toArray,List.set_cons_zero,List.set_cons_succ,Nat.zero_add]
      go_wp2_with fail
      go_roundg (go1-1)
      case rel=>exact⟨i+1,_,by go_num,by omega,by omega,h4,(fun q h=>h.1),hX⟩
      case measure=>omega
   ·skip
    have hin:i=n:=by omega
    have h6:=HU.o
    rw[hin,←IK.o,List.take_length]at h6
    have H6:=ai h6
    have h5:=(aH rl).ok.step HST.o (fun _ _ h=>h) ((aH rl).ok.mono (P':=fun q=>C0 q∧q<w0.heap.size) (fun q hq h=>⟨h,hq⟩) HU0.o)
    have H5:=ai h5
    have hw:=HS0.o.trans HST.o
    have Px:=ai hw
    have hws:=HS0.o.size
    clear h6 h5 hw
    by_cases h0:n=0
    ·skip
     have h1:bl=[]:=List.eq_nil_of_length_eq_zero (by rw[IK.o];exact h0)
     have hT:gX (.mk k nm lf mu ls ar ln col) l=rl:=by rw[HTL.o,h1];exact List.append_nil _
     have HT0:=ai hT
     have h6:=H6.o
     rw[h1]at h6
     have h6v:u6=.slice none 0 0∨∃a c,u6=.slice a 0 c:=by
      obtain⟨vs,h,-⟩:=h6
      rcases h.2 with⟨h,-⟩|⟨g,cap,cur,h,-⟩
      ·
       exact .inl h
      ·
       exact .inr ⟨_,_,h⟩
     have h6w:∃a c,u6=.slice a 0 c:=by
      rcases h6v with h|h
      ·
       exact⟨none,0,h⟩
      ·
       exact h
     obtain⟨a6,c6,rfl⟩:=h6w
     subst h0
     clear h1 hT h6 h6v H6 HU
     go_wp2_with fail
     go_ret
     exact⟨_,rfl,ST0.o.trans Px.o,by rw[HT0.o];exact(aH _).ok.mono (fun q _ h=>Nat.le_trans hsz (SL.o q h.1)) H5.o⟩
    ·skip
     have h1:¬bl.length=0:=by rw[IK.o];exact h0
     have HT:Hid (gX (.mk k nm lf mu ls ar ln col) l=rl++[⟨#[119,104,101,114,101]⟩]++aF bl):=by show _=_;rw[HTL.o,if_neg h1,List.append_assoc]
     have h6v:∃a c,u6=.slice a n c:=by
      obtain⟨a6,c6,h⟩:=(oz.ls H6.o).parts
      rw[IK.o]at h
      exact⟨a6,c6,h⟩
     obtain⟨a6,c6,rfl⟩:=h6v
     have hn0:(0:Int)<n:=by omega
     have hbl:bl.length≤100000000:=by rw[IK.o];omega
     have hbc:(aF bl).length≤100000000:=by have h:=X4.o;omega
     clear h1 HU
     go_upto_region 18 with fail
     refine au W [.r [7] (aH rl),.r [] (aH [⟨#[119,104,101,114,101]⟩]),.r [0,1] (aH (rl++[⟨#[119,104,101,114,101]⟩])),.r [8] (jw bl),.r [3] (aH (aF bl)),.r [2,4] (aH ((rl++[⟨#[119,104,101,114,101]⟩])++(aF bl))),.r [5] (aH ((rl++[⟨#[119,104,101,114,101]⟩])++(aF bl))),.r [] (Kp (aH rl) (u5)),.r [] (Kp (jw bl) ((.slice a6 n c6)))] kr Px.o (Yl rfl rfl rfl H5.o H6.o (fun q h=>SL.o q h.1) (fun q h=>Nat.le_trans hws (HC.o q h)) (fun q h h2=>by have:=HC.o q h2;have:=h.2;omega)) ?_ kr ?_
     ·
      refine OB.mi 5 ?_
      refine OB.bs [⟨#[119,104,101,114,101]⟩] 1 ?_
      refine OB.app 68 69 (by have h:=X4.o;simp only[List.length_cons,List.length_nil];omega) ?_
      refine OB.mi 6 ?_
      refine OB.cu (ok:=jw bl) 71 (fun v=> #[v]) Tryz.func34 (fun X v C hX hv=>jT _ v X C (oz.ls hv) hbl hbc) ?_
      refine OB.app 70 72 (by have h:=X4.o;simp only[List.length_append,List.length_cons,List.length_nil];omega) ?_
      refine OB.mv 73 ?_
      exact OB.nil
     intro V X f hX hf
     have h4:(aH _).r _ X _:=hf 6 kr
     simp only[dm,Act.put,List.setIfInBounds_toArray,List.set_cons_zero,List.set_cons_succ,Nat.zero_add]
     go_wp2_with fail
     go_ret
     exact⟨_,rfl,ST0.o.trans hX,by rw[HT.o];exact(aH _).ok.mono (fun q _ h=>Nat.le_trans hsz h.1) h4⟩
def WC (rv:Int) (lf:ByteArray):List ByteArray:=if rv=1 then[]else[⟨#[38]⟩]++(if lf=⟨#[]⟩then[]else[lf])
def WE (rv:Int):List ByteArray:=if rv=3 then[⟨#[109,117,116]⟩]else[]
def WG (ps:List Pm):List ByteArray:=if ps.length=0 then[]else[⟨#[44]⟩]++aF (ps.map jh)
def Py (m:Mt) (body:Bool):List ByteArray:=[⟨#[102,110]⟩,m.name]++bM (m.bI.map fun s=>[s])++[⟨#[40]⟩]++WC m.recv m.life++WE m.recv++[⟨#[115,101,108,102]⟩]++WG m.params++[⟨#[41]⟩]++gX m.ret m.wh++(if body then[⟨#[123]⟩]++eX m.body++[⟨#[125]⟩]else[⟨#[59]⟩])
def MtC (m:Mt) (body:Bool):Prop:=∀(cs:List Value) (w:World) (D:Nat→Prop),Ou w D m cs→(Py m body).length≤99999990→Calls Tryz.prog 25 #[.agg cs.toArray,.bool body] w (Mk (aH (Py m body)) w)
structure MtW (m:Mt):Prop where
 ls:m.bI.length≤1000000
 ps:m.params.length≤1000000
 wh:m.wh.length≤1000000
 wa:∀b∈m.wh,b.kQ.length+b.bI.length≤1000000
 pt:∀p∈m.params,xI p.ty
 rt:tyK m.ret≠0→xI m.ret
 bo:KH m.body
theorem WH {m:Mt} {body:Bool} (hm:MtW m):MtC m body:=by
 intro cs w D hx hb;obtain⟨nm,ls,rv,lf,ps,rt,wh,bo,l,c⟩:=m;obtain⟨tk,tn,tl,tm,fO,tar,fM,bT⟩:=rt;obtain⟨OW,hpsl,WI,WJ,htp,htr,hbl⟩:=hm;obtain⟨ct,vl,vp,vw,vb,rfl,-,-,hn,hps,hty,hwh,JJ⟩:=hx;have Bq:=ai hty;rw[gG]at hty;obtain⟨v1,v2,x2,rfl,-,-,-,hr1,-,hr2⟩:=hty;obtain⟨q1,d1,rfl⟩:=hr1.parts;obtain⟨q2,d2,rfl⟩:=hr2.parts;obtain⟨al,cl,rfl⟩:=hn.parts;obtain⟨ap,cp,rfl⟩:=hps.parts;obtain⟨aw,cw,rfl⟩:=hwh.parts;obtain⟨ab,cb,rfl⟩:=JJ.parts;have HN:=ai hn.2;have HPS:=ai hps;have HWH:=ai hwh;obtain⟨xb,hrb,hb2⟩:=JJ;have jV:=ai hrb;have HB2:=ai hb2;obtain⟨P1,hP1⟩:=bF (WC rv lf);obtain⟨P2,hP2⟩:=bF (WE rv);obtain⟨P3,hP3⟩:=bF (WG ps);have kK:=ai hP1;have HP2:=ai hP2;have zJ:=ai hP3;have HPM:Hid (Py ⟨nm,ls,rv,lf,ps,.mk tk tn tl tm fO tar fM bT,wh,bo,l,c⟩ body=[⟨#[102,110]⟩,nm]++bM (ls.map fun s=>[s])++[⟨#[40]⟩]++P1++P2++[⟨#[115,101,108,102]⟩]++P3++[⟨#[41]⟩]++gX (.mk tk tn tl tm fO tar fM bT) wh++(if body then[⟨#[123]⟩]++eX bo++[⟨#[125]⟩]else[⟨#[59]⟩])):=by show _=_;rw[hP1,hP2,hP3];rfl
 have hb0:=hb;rw[HPM.o]at hb0;have HB:Hid ((bM (ls.map fun s=>[s])).length+P1.length+P2.length+P3.length+(gX (.mk tk tn tl tm fO tar fM bT) wh).length+(if body then[⟨#[123]⟩]++eX bo++[⟨#[125]⟩]else[⟨#[59]⟩]:List ByteArray).length≤99999990):=by show _≤_;simp only[List.length_append,List.length_cons,List.length_nil]at hb0⊢;omega
 clear hr1 hr2 hn hps hwh hrb hb2 hb hb0 hP1 hP2 hP3;obtain⟨W,hW⟩:=bF (w.alloc (.cells #[Value.string nm,.slice al ls.length cl,ah rv,aI lf,.slice ap ps.length cp,ah tk,aI tn,aI tl,bK tm,.slice q1 fO.length d1,.slice q2 tar.length d2,ah fM,ah bT,.slice aw wh.length cw,.slice ab bo.length cb,ah l,ah c] 83));have ST0:Hid (Step Sf w W):=by rw[hW];exact bg.alloc _
 have bJ:Hid (∀X,Step Sf W X→∀(j:Nat) u,[Value.string nm,.slice al ls.length cl,ah rv,aI lf,.slice ap ps.length cp,ah tk,aI tn,aI tl,bK tm,.slice q1 fO.length d1,.slice q2 tar.length d2,ah fM,ah bT,.slice aw wh.length cw,.slice ab bo.length cb,ah l,ah c][j]?=some u→X.cell? ⟨w.heap.size,0+j,none⟩=some u):=by intro X hX j u hu;rw[hW]at hX;rw[Nat.zero_add];exact aj (hX.keep (aC _ _) (fun h=>h)) j u (by simpa using hu)
 have HW:=ai hW;have hsz:w.heap.size≤W.heap.size:=ST0.o.size;clear hW;go_enter Tryz.func25,Tryz.ntmps25;go_upto_region 1 with fail
 rw[←HW.o];have CQ:Hid (∀X,Step Sf W X→∀(j:Nat) u,[Value.int .i64 tk,aI tn,aI tl,bK tm,.slice q1 fO.length d1,.slice q2 tar.length d2,ah fM,ah bT][j]?=some u→X.cell? ⟨w.heap.size,5+j,none⟩=some u):=by intro X hX j u hu;have h:=bJ.o X hX (5+j) u (by rw[Nat.add_comm];exact(List.getElem?_append_left (l₂:=[.slice aw wh.length cw,.slice ab bo.length cb,.int .i64 l,.int .i64 c]) (List.getElem?_eq_some_iff.1 hu).1).trans hu);rw[Nat.zero_add]at h;exact h
 go_upto_region 1 with fail
 refine au W [.p (.pointer (some ⟨w.heap.size,0,none⟩)),.p (.string nm),.r [] (aH [⟨#[102,110]⟩,nm]),.p (.pointer (some ⟨w.heap.size,1,none⟩)),.p (.slice al ls.length cl),.r [] (jw (ls.map fun s=>[s])),.r [5] (aH (bM (ls.map fun s=>[s]))),.r [2,6] (aH ([⟨#[102,110]⟩,nm]++(bM (ls.map fun s=>[s])))),.r [7] (aH ([⟨#[102,110]⟩,nm]++(bM (ls.map fun s=>[s]))))] kr bg (iR (Nat.le_refl _)) ?_ kr ?_
 ·refine OB.p ?_;refine OB.p ?_ (fun X hX=>by have c:=bJ.o X hX 0 _ rfl;rw[Nat.zero_add]at c;go_simp);refine OB.bs [⟨#[102,110]⟩,nm] 2 ?_;refine OB.p ?_;refine OB.p ?_ (fun X hX=>by have c:=bJ.o X hX 1 _ rfl;rw[Nat.zero_add]at c;go_simp);refine OB.c #[.slice al ls.length cl] Tryz.func24 (fun X hX=>wB ls _ X D (HN.o.step (ST0.o.trans hX) (fun _ _ h=>h)) (Nat.le_trans OW dc)) ?_;refine OB.cu (ok:=jw (ls.map fun s=>[s])) 11 (fun v=> #[v]) Tryz.func23 (fun X v C hX hv=>yh _ v X C (oz.ls hv) (by rw[List.length_map];exact Nat.le_trans OW dc) (by have h:=HB.o;first|omega|(simp;omega))) ?_;refine OB.app 8 12 (by have h:=HB.o;first|omega|(simp;omega)) ?_;refine OB.mv 13 ?_;exact OB.nil
 intro V0 X0 f0 hX0 hf0;have qy:(aH _).r _ X0 _:=hf0 8 kr;simp only[dm,Act.put,List.setIfInBounds_toArray,List.set_cons_zero,List.set_cons_succ,Nat.zero_add];go_upto_region 2 with fail
 refine au W [.r [4] (aH ([⟨#[102,110]⟩,nm]++bM (ls.map fun s=>[s]))),.r [] (aH [⟨#[40]⟩]),.r [0,1] (aH (([⟨#[102,110]⟩,nm]++bM (ls.map fun s=>[s]))++[⟨#[40]⟩])),.r [2] (aH (([⟨#[102,110]⟩,nm]++bM (ls.map fun s=>[s]))++[⟨#[40]⟩])),.r [] (Kp (aH ([⟨#[102,110]⟩,nm]++bM (ls.map fun s=>[s]))) (V0 8))] kr hX0 (jf rfl rfl qy (fun _ h=>h.1)) ?_ kr ?_
 ·refine OB.mi 5 ?_;refine OB.bs [⟨#[40]⟩] 1 ?_;refine OB.app 14 15 (by have h:=HB.o;first|omega|(simp;omega)) ?_;refine OB.mv 16 ?_;exact OB.nil
 intro V1 X1 f1 hX1 hf1;have Dq:(aH _).r _ X1 _:=hf1 3 kr;simp only[dm,Act.put,List.setIfInBounds_toArray,List.set_cons_zero,List.set_cons_succ,Nat.zero_add];have c2:=bJ.o X1 hX1 2 _ rfl;rw[Nat.zero_add]at c2;go_upto_if 19 with fail
 go_cut [5,19] (fun s _ wx=>∃C,(aH ([⟨#[102,110]⟩,nm]++bM (ls.map fun s=>[s])++[⟨#[40]⟩]++P1)).r s wx C∧(∀q,C q→W.heap.size≤q)∧Step Sf W wx);case first=>
  by_cases h1:rv=1
  ·skip
   have hp:P1=[]:=by rw[kK.o];exact if_pos h1
   have HP:=ai hp
   have hk:(rv==1)=true:=by rw[h1];rfl
   clear h1 hp
   go_wp2_with fail
   go_meet
   case rel=>rw[HP.o,List.append_nil];exact⟨_,Dq,(fun q h=>h.1),hX1⟩
  ·skip
   have hk:(rv==1)=false:=by rw[beq_eq_false_iff_ne];exact h1
   have hp1:P1=[⟨#[38]⟩]++(if lf=⟨#[]⟩then[]else[lf]):=by rw[kK.o];exact if_neg h1
   have HP':=ai hp1
   clear h1 hp1
   go_upto_region 4 with fail
   refine au W [.r [4] (aH ([⟨#[102,110]⟩,nm]++bM (ls.map fun s=>[s])++[⟨#[40]⟩])),.r [] (aH [⟨#[38]⟩]),.r [0,1] (aH (([⟨#[102,110]⟩,nm]++bM (ls.map fun s=>[s])++[⟨#[40]⟩])++[⟨#[38]⟩])),.r [2] (aH (([⟨#[102,110]⟩,nm]++bM (ls.map fun s=>[s])++[⟨#[40]⟩])++[⟨#[38]⟩])),.r [] (Kp (aH ([⟨#[102,110]⟩,nm]++bM (ls.map fun s=>[s])++[⟨#[40]⟩])) (V1 3))] kr hX1 (jf rfl rfl Dq (fun _ h=>h.1)) ?_ kr ?_
   ·
    refine OB.mi 5 ?_
    refine OB.bs [⟨#[38]⟩] 1 ?_
    refine OB.app 20 21 (by have h:=HB.o;first|omega|(simp;omega)) ?_
    refine OB.mv 22 ?_
    exact OB.nil
   intro V2 X2 f2 hX2 hf2
   have h42:(aH _).r _ X2 _:=hf2 3 kr
   simp only[dm,Act.put,List.setIfInBounds_toArray,List.set_cons_zero,List.set_cons_succ,Nat.zero_add]
   by_cases h2:lf=⟨#[]⟩
   ·skip
    subst h2
    have hp:P1=[⟨#[38]⟩]:=by rw[HP'.out,if_pos rfl];rfl
    have HP:=ai hp
    clear hp c2
    have c3:=bJ.o X2 hX2 3 _ rfl
    rw[Nat.zero_add]at c3
    go_wp2_with fail
    go_meet
    case rel=>rw[HP.o];exact⟨_,h42,(fun q h=>h.1),hX2⟩
   ·skip
    have hpos:0<lf.size:=by
     rcases Nat.eq_zero_or_pos lf.size with h|h
     ·
      exact absurd (tC h) h2
     ·
      exact h
    have he:=jR lf hpos
    have he':=jF lf hpos
    have hp:P1=[⟨#[38]⟩]++[lf]:=by rw[HP'.out,if_neg h2]
    have HP:=ai hp
    clear hp h2 hpos c2
    have c3:=bJ.o X2 hX2 3 _ rfl
    rw[Nat.zero_add]at c3
    go_upto_region 6 with fail
    refine au W [.r [6] (aH ([⟨#[102,110]⟩,nm]++bM (ls.map fun s=>[s])++[⟨#[40]⟩]++[⟨#[38]⟩])),.p (.pointer (some ⟨w.heap.size,3,none⟩)),.p (.string lf),.r [] (aH [lf]),.r [0,3] (aH (([⟨#[102,110]⟩,nm]++bM (ls.map fun s=>[s])++[⟨#[40]⟩]++[⟨#[38]⟩])++[lf])),.r [4] (aH (([⟨#[102,110]⟩,nm]++bM (ls.map fun s=>[s])++[⟨#[40]⟩]++[⟨#[38]⟩])++[lf])),.r [] (Kp (aH ([⟨#[102,110]⟩,nm]++bM (ls.map fun s=>[s])++[⟨#[40]⟩]++[⟨#[38]⟩])) (V2 3))] kr hX2 (jf rfl rfl h42 (fun _ h=>h.1)) ?_ kr ?_
    ·
     refine OB.mi 5 ?_
     refine OB.p ?_
     refine OB.p ?_ (fun X hX=>by have c:=bJ.o X hX 3 _ rfl;rw[Nat.zero_add]at c;go_simp)
     refine OB.bs [lf] 1 ?_
     refine OB.app 26 29 (by have h:=HB.o;rw[HP.o]at h;simp only[List.length_append,List.length_cons,List.length_nil]at h⊢;omega) ?_
     refine OB.mv 30 ?_
     exact OB.nil
    intro V X f hX hf
    have h4:(aH _).r _ X _:=hf 5 kr
    simp only[dm,Act.put,List.setIfInBounds_toArray,List.set_cons_zero,List.set_cons_succ,Nat.zero_add]
    go_wp2_with fail
    go_meet
    case rel=>rw[HP.o,←List.append_assoc];exact⟨_,h4,(fun q h=>h.1),hX⟩
 case rest=>
  clear c2;obtain⟨C1,hu,hc,hs⟩:=hcut;have HU1:=ai hu;have MR:=ai hc;have dH:=ai hs;obtain⟨w1,rfl⟩:∃W0:World,W0=wc:=⟨_,rfl⟩;clear hu hc hs;have c2:=bJ.o w1 dH.o 2 _ rfl;rw[Nat.zero_add]at c2;go_upto_if 33 with fail
  go_cut [5,33] (fun s _ wx=>∃C,(aH ([⟨#[102,110]⟩,nm]++bM (ls.map fun s=>[s])++[⟨#[40]⟩]++P1++P2)).r s wx C∧(∀q,C q→W.heap.size≤q)∧Step Sf W wx);case first=>
   by_cases h1:rv=3
   ·skip
    have hp:P2=[⟨#[109,117,116]⟩]:=by rw[HP2.o];exact if_pos h1
    have HP:=ai hp
    have hk:(rv==3)=true:=by rw[h1];rfl
    clear h1 hp
    go_upto_region 8 with fail
    refine au W [.r [4] (aH ([⟨#[102,110]⟩,nm]++bM (ls.map fun s=>[s])++[⟨#[40]⟩]++P1)),.r [] (aH [⟨#[109,117,116]⟩]),.r [0,1] (aH (([⟨#[102,110]⟩,nm]++bM (ls.map fun s=>[s])++[⟨#[40]⟩]++P1)++[⟨#[109,117,116]⟩])),.r [2] (aH (([⟨#[102,110]⟩,nm]++bM (ls.map fun s=>[s])++[⟨#[40]⟩]++P1)++[⟨#[109,117,116]⟩])),.r [] (Kp (aH ([⟨#[102,110]⟩,nm]++bM (ls.map fun s=>[s])++[⟨#[40]⟩]++P1)) (u5))] kr dH.o (jf rfl rfl HU1.o MR.o) ?_ kr ?_
    ·
     refine OB.mi 5 ?_
     refine OB.bs [⟨#[109,117,116]⟩] 1 ?_
     refine OB.app 34 35 (by have h:=HB.o;first|omega|(simp;omega)) ?_
     refine OB.mv 36 ?_
     exact OB.nil
    intro V X f hX hf
    have h4:(aH _).r _ X _:=hf 3 kr
    simp only[dm,Act.put,List.setIfInBounds_toArray,List.set_cons_zero,List.set_cons_succ,Nat.zero_add]
    go_wp2_with fail
    go_meet
    case rel=>rw[HP.o];exact⟨_,h4,(fun q h=>h.1),hX⟩
   ·skip
    have hp:P2=[]:=by rw[HP2.o];exact if_neg h1
    have HP:=ai hp
    have hk:(rv==3)=false:=by rw[beq_eq_false_iff_ne];exact h1
    clear h1 hp
    go_wp2_with fail
    go_meet
    case rel=>rw[HP.o,List.append_nil];exact⟨_,HU1.o,MR.o,dH.o⟩
  case rest=>
   clear c2;obtain⟨C2,hu,hc,hs⟩:=hcut;have OC:=ai hu;have HC2:=ai hc;have HS2:=ai hs;obtain⟨w2,rfl⟩:∃W0:World,W0=wc:=⟨_,rfl⟩;clear hu hc hs;(go_upto_region 9 with fail);refine au W [.r [4] (aH ([⟨#[102,110]⟩,nm]++bM (ls.map fun s=>[s])++[⟨#[40]⟩]++P1++P2)),.r [] (aH [⟨#[115,101,108,102]⟩]),.r [0,1] (aH (([⟨#[102,110]⟩,nm]++bM (ls.map fun s=>[s])++[⟨#[40]⟩]++P1++P2)++[⟨#[115,101,108,102]⟩])),.r [2] (aH (([⟨#[102,110]⟩,nm]++bM (ls.map fun s=>[s])++[⟨#[40]⟩]++P1++P2)++[⟨#[115,101,108,102]⟩])),.r [] (Kp (aH ([⟨#[102,110]⟩,nm]++bM (ls.map fun s=>[s])++[⟨#[40]⟩]++P1++P2)) (u5))] kr HS2.o (jf rfl rfl OC.o HC2.o) ?_ kr ?_
   ·refine OB.mi 5 ?_;refine OB.bs [⟨#[115,101,108,102]⟩] 1 ?_;refine OB.app 37 38 (by have h:=HB.o;first|omega|(simp;omega)) ?_;refine OB.mv 39 ?_;exact OB.nil
   intro V3 X3 f3 hX3 hf3;have h43:(aH _).r _ X3 _:=hf3 3 kr;simp only[dm,Act.put,List.setIfInBounds_toArray,List.set_cons_zero,List.set_cons_succ,Nat.zero_add];have c4:=bJ.o X3 hX3 4 _ rfl;rw[Nat.zero_add]at c4;(go_upto_if 43 with fail);go_cut [5,43] (fun s _ wx=>∃C,(aH ([⟨#[102,110]⟩,nm]++bM (ls.map fun s=>[s])++[⟨#[40]⟩]++P1++P2++[⟨#[115,101,108,102]⟩]++P3)).r s wx C∧(∀q,C q→W.heap.size≤q)∧Step Sf W wx);case first=>
    by_cases h1:ps.length=0
    ·skip
     have hp:P3=[]:=by rw[zJ.o];exact if_pos h1
     have HP:=ai hp
     have hl:¬(0:Int)<ps.length:=by omega
     clear h1 hp
     go_wp2_with fail
     go_meet
     case rel=>rw[HP.o,List.append_nil];exact⟨_,h43,(fun q h=>h.1),hX3⟩
    ·skip
     have hp:P3=[⟨#[44]⟩]++aF (ps.map jh):=by rw[zJ.o];exact if_neg h1
     have HP:=ai hp
     have hl:(0:Int)<ps.length:=by omega
     have hbc:(aF (ps.map jh)).length≤100000000:=by have h:=HB.o;rw[hp]at h;simp only[List.length_append]at h;omega
     clear h1 hp
     go_upto_region 11 with fail
     refine au W [.r [8] (aH ([⟨#[102,110]⟩,nm]++bM (ls.map fun s=>[s])++[⟨#[40]⟩]++P1++P2++[⟨#[115,101,108,102]⟩])),.r [] (aH [⟨#[44]⟩]),.r [0,1] (aH (([⟨#[102,110]⟩,nm]++bM (ls.map fun s=>[s])++[⟨#[40]⟩]++P1++P2++[⟨#[115,101,108,102]⟩])++[⟨#[44]⟩])),.p (.pointer (some ⟨w.heap.size,4,none⟩)),.p (.slice ap ps.length cp),.r [] (aH (aF (ps.map jh))),.r [2,5] (aH ((([⟨#[102,110]⟩,nm]++bM (ls.map fun s=>[s])++[⟨#[40]⟩]++P1++P2++[⟨#[115,101,108,102]⟩])++[⟨#[44]⟩])++(aF (ps.map jh)))),.r [6] (aH ((([⟨#[102,110]⟩,nm]++bM (ls.map fun s=>[s])++[⟨#[40]⟩]++P1++P2++[⟨#[115,101,108,102]⟩])++[⟨#[44]⟩])++(aF (ps.map jh)))),.r [] (Kp (aH ([⟨#[102,110]⟩,nm]++bM (ls.map fun s=>[s])++[⟨#[40]⟩]++P1++P2++[⟨#[115,101,108,102]⟩])) (V3 3))] kr hX3 (jf rfl rfl h43 (fun _ h=>h.1)) ?_ kr ?_
     ·
      refine OB.mi 5 ?_
      refine OB.bs [⟨#[44]⟩] 1 ?_
      refine OB.app 44 45 (by have h:=HB.o;first|omega|(simp;omega)) ?_
      refine OB.p ?_
      refine OB.p ?_ (fun X hX=>by have c:=bJ.o X hX 4 _ rfl;rw[Nat.zero_add]at c;go_simp)
      refine OB.c #[.slice ap ps.length cp] Tryz.func27 (fun X hX=>wF ps _ X D ((eu kR).step _ _ (ST0.o.trans hX) (fun _ _ h=>h) HPS.o) (Nat.le_trans hpsl dc) htp hbc) ?_
      refine OB.app 46 49 (by have h:=HB.o;rw[HP.o]at h;simp only[List.length_append,List.length_cons,List.length_nil]at h⊢;omega) ?_
      refine OB.mv 50 ?_
      exact OB.nil
     intro V X f hX hf
     have h4:(aH _).r _ X _:=hf 7 kr
     simp only[dm,Act.put,List.setIfInBounds_toArray,List.set_cons_zero,List.set_cons_succ,Nat.zero_add]
     go_wp2_with fail
     go_meet
     case rel=>rw[HP.o,←List.append_assoc];exact⟨_,h4,(fun q h=>h.1),hX⟩
   case rest=>
    clear c4;obtain⟨C4,hu,hc,hs⟩:=hcut;have HU4:=ai hu;have HC4:=ai hc;have ji:=ai hs;obtain⟨w4,rfl⟩:∃W0:World,W0=wc:=⟨_,rfl⟩;clear hu hc hs;(go_upto_region 12 with fail);refine au W [.r [10] (aH ([⟨#[102,110]⟩,nm]++bM (ls.map fun s=>[s])++[⟨#[40]⟩]++P1++P2++[⟨#[115,101,108,102]⟩]++P3)),.r [] (aH [⟨#[41]⟩]),.r [0,1] (aH (([⟨#[102,110]⟩,nm]++bM (ls.map fun s=>[s])++[⟨#[40]⟩]++P1++P2++[⟨#[115,101,108,102]⟩]++P3)++[⟨#[41]⟩])),.p (.pointer (some ⟨w.heap.size,5,none⟩)),.p (.agg [Value.int .i64 tk,aI tn,aI tl,bK tm,.slice q1 fO.length d1,.slice q2 tar.length d2,ah fM,ah bT].toArray),.p (.pointer (some ⟨w.heap.size,13,none⟩)),.p (.slice aw wh.length cw),.r [] (aH (gX (.mk tk tn tl tm fO tar fM bT) wh)),.r [2,7] (aH ((([⟨#[102,110]⟩,nm]++bM (ls.map fun s=>[s])++[⟨#[40]⟩]++P1++P2++[⟨#[115,101,108,102]⟩]++P3)++[⟨#[41]⟩])++(gX (.mk tk tn tl tm fO tar fM bT) wh))),.r [8] (aH ((([⟨#[102,110]⟩,nm]++bM (ls.map fun s=>[s])++[⟨#[40]⟩]++P1++P2++[⟨#[115,101,108,102]⟩]++P3)++[⟨#[41]⟩])++(gX (.mk tk tn tl tm fO tar fM bT) wh))),.r [] (Kp (aH ([⟨#[102,110]⟩,nm]++bM (ls.map fun s=>[s])++[⟨#[40]⟩]++P1++P2++[⟨#[115,101,108,102]⟩]++P3)) (u5))] kr ji.o (jf rfl rfl HU4.o HC4.o) ?_ kr ?_
    ·refine OB.mi 5 ?_;refine OB.bs [⟨#[41]⟩] 1 ?_;refine OB.app 51 52 (by have h:=HB.o;first|omega|(simp;omega)) ?_;refine OB.p ?_;refine OB.ld w.heap.size 5 [Value.int .i64 tk,aI tn,aI tl,bK tm,.slice q1 fO.length d1,.slice q2 tar.length d2,ah fM,ah bT] _ CQ.o Tryz.underlying46 Tryz.gB ?_;refine OB.p ?_;refine OB.p ?_ (fun X hX=>by have c:=bJ.o X hX 13 _ rfl;rw[Nat.zero_add]at c;go_simp);refine OB.c #[.agg [Value.int .i64 tk,aI tn,aI tl,bK tm,.slice q1 fO.length d1,.slice q2 tar.length d2,ah fM,ah bT].toArray,.slice aw wh.length cw] Tryz.func28 (fun X hX=>Ad _ wh _ _ X D (gG.step (ST0.o.trans hX) (fun _ _ h=>h) _ _ Bq.o) ((eu jc).step _ _ (ST0.o.trans hX) (fun _ _ h=>h) HWH.o) WI WJ htr (by have h:=HB.o;first|omega|(simp;omega))) ?_;refine OB.app 53 58 (by have h:=HB.o;first|omega|(simp;omega)) ?_;refine OB.mv 59 ?_;exact OB.nil
    intro V5 X5 f5 hX5 hf5;have h45:(aH _).r _ X5 _:=hf5 9 kr;simp only[dm,Act.put,List.setIfInBounds_toArray,List.set_cons_zero,List.set_cons_succ,Nat.zero_add];(have hsl:∀(b:Bool),body=b→Py ⟨nm,ls,rv,lf,ps,.mk tk tn tl tm fO tar fM bT,wh,bo,l,c⟩ body=[⟨#[102,110]⟩,nm]++bM (ls.map fun s=>[s])++[⟨#[40]⟩]++P1++P2++[⟨#[115,101,108,102]⟩]++P3++[⟨#[41]⟩]++gX (.mk tk tn tl tm fO tar fM bT) wh++(if b then[⟨#[123]⟩]++eX bo++[⟨#[125]⟩]else[⟨#[59]⟩]):=fun b e=>by rw[HPM.o,e]);have HSL:=ai hsl;clear hsl;cases body with
    |true=>
     (go_upto_region 14 with fail);refine au W [.r [6] (aH ([⟨#[102,110]⟩,nm]++bM (ls.map fun s=>[s])++[⟨#[40]⟩]++P1++P2++[⟨#[115,101,108,102]⟩]++P3++[⟨#[41]⟩]++gX (.mk tk tn tl tm fO tar fM bT) wh)),.p (.pointer (some ⟨w.heap.size,14,none⟩)),.p (.slice ab bo.length cb),.r [] (aH ([⟨#[123]⟩]++eX bo++[⟨#[125]⟩])),.r [0,3] (aH (([⟨#[102,110]⟩,nm]++bM (ls.map fun s=>[s])++[⟨#[40]⟩]++P1++P2++[⟨#[115,101,108,102]⟩]++P3++[⟨#[41]⟩]++gX (.mk tk tn tl tm fO tar fM bT) wh)++([⟨#[123]⟩]++eX bo++[⟨#[125]⟩]))),.r [4] (aH (([⟨#[102,110]⟩,nm]++bM (ls.map fun s=>[s])++[⟨#[40]⟩]++P1++P2++[⟨#[115,101,108,102]⟩]++P3++[⟨#[41]⟩]++gX (.mk tk tn tl tm fO tar fM bT) wh)++([⟨#[123]⟩]++eX bo++[⟨#[125]⟩]))),.r [] (Kp (aH ([⟨#[102,110]⟩,nm]++bM (ls.map fun s=>[s])++[⟨#[40]⟩]++P1++P2++[⟨#[115,101,108,102]⟩]++P3++[⟨#[41]⟩]++gX (.mk tk tn tl tm fO tar fM bT) wh)) (V5 9))] kr hX5 (jf rfl rfl h45 (fun _ h=>h.1)) ?_ kr ?_
     ·refine OB.mi 5 ?_;refine OB.p ?_;refine OB.p ?_ (fun X hX=>by have c:=bJ.o X hX 14 _ rfl;rw[Nat.zero_add]at c;go_simp);refine OB.c #[.slice ab bo.length cb] Tryz.func29 (fun X hX=>hbl _ X D xb (jV.o.step (ST0.o.trans hX) (fun _ _ h=>h)) (eP.step (ST0.o.trans hX) (fun _ _ h=>h) _ _ HB2.o) (by have h:=HB.o;rw[if_pos rfl]at h;simp at h⊢;omega)) ?_;refine OB.app 61 64 (by have h:=HB.o;rw[if_pos rfl]at h;simp at h⊢;omega) ?_;refine OB.mv 65 ?_;exact OB.nil
     intro V X f hX hf;have h4:(aH _).r _ X _:=hf 5 kr;simp only[dm,Act.put,List.setIfInBounds_toArray,List.set_cons_zero,List.set_cons_succ,Nat.zero_add];go_wp2_with fail;go_ret;exact⟨_,rfl,ST0.o.trans hX,by rw[HSL.o true rfl];exact(aH _).ok.mono (fun q _ h=>Nat.le_trans hsz h.1) h4⟩
    |false=>
     (go_upto_region 15 with fail);refine au W [.r [4] (aH ([⟨#[102,110]⟩,nm]++bM (ls.map fun s=>[s])++[⟨#[40]⟩]++P1++P2++[⟨#[115,101,108,102]⟩]++P3++[⟨#[41]⟩]++gX (.mk tk tn tl tm fO tar fM bT) wh)),.r [] (aH [⟨#[59]⟩]),.r [0,1] (aH (([⟨#[102,110]⟩,nm]++bM (ls.map fun s=>[s])++[⟨#[40]⟩]++P1++P2++[⟨#[115,101,108,102]⟩]++P3++[⟨#[41]⟩]++gX (.mk tk tn tl tm fO tar fM bT) wh)++[⟨#[59]⟩])),.r [2] (aH (([⟨#[102,110]⟩,nm]++bM (ls.map fun s=>[s])++[⟨#[40]⟩]++P1++P2++[⟨#[115,101,108,102]⟩]++P3++[⟨#[41]⟩]++gX (.mk tk tn tl tm fO tar fM bT) wh)++[⟨#[59]⟩])),.r [] (Kp (aH ([⟨#[102,110]⟩,nm]++bM (ls.map fun s=>[s])++[⟨#[40]⟩]++P1++P2++[⟨#[115,101,108,102]⟩]++P3++[⟨#[41]⟩]++gX (.mk tk tn tl tm fO tar fM bT) wh)) (V5 9))] kr hX5 (jf rfl rfl h45 (fun _ h=>h.1)) ?_ kr ?_
     ·refine OB.mi 5 ?_;refine OB.bs [⟨#[59]⟩] 1 ?_;refine OB.app 66 67 (by have h:=HB.o;first|omega|(simp;omega)) ?_;refine OB.mv 68 ?_;exact OB.nil
     intro V X f hX hf;have h4:(aH _).r _ X _:=hf 3 kr;simp only[dm,Act.put,List.setIfInBounds_toArray,List.set_cons_zero,List.set_cons_succ,Nat.zero_add];go_wp2_with fail;go_ret;exact⟨_,rfl,ST0.o.trans hX,by rw[HSL.o false rfl];exact(aH _).ok.mono (fun q _ h=>Nat.le_trans hsz h.1) h4⟩
end Go.Proofs.YtggjfinekcenpaaGreat
