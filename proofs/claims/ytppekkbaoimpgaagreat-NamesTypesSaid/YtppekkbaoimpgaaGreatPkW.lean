import Derived.Test.YtppekkbaoimpgaaGreatPkT
set_option maxRecDepth 100000
set_option maxHeartbeats 80000000
namespace Go.Proofs.YtppekkbaoimpgaaGreat
open Go.RowKit
theorem aaY {p:Prop} (h:p:=by exact fun u c h=>by cases h;rfl):p:=h
theorem aaZ {p:Prop} (h:p:=by exact fun u h=>by cases h;rfl):p:=h
theorem aa0 {p:Prop} (h:p:=by exact fun h=>by cases h):p:=h
theorem mcUf {p:Prop} (h:p:=by exact fun jj v hv=>hJ.st.cell (iH.o jj v hv) (fun h=>h)):p:=h
theorem mcUg {p:Prop} (h:p:=by exact HSI.o.trans hJ.st):p:=h
open Vt
inductive VuQ|aa1
open VuQ
instance:CoeDep VuQ aa1 (Array Value):=⟨#[.int .i64 0,.string ⟨#[]⟩,.string ⟨#[]⟩,.bool false,.slice none 0 0,.slice none 0 0,.int .i64 0,.int .i64 0]⟩
theorem Gd.ne {α:Type} {N i:Nat} {r:dO α} (h:Gd N i r):r≠.out:=by rintro rfl;exact h
theorem Gd.code {α:Type} {N i:Nat} {r:dO α} (h:Gd N i r) {c ln col:Nat} (e:r=.err c ln col):c≠0:=by subst e;exact h
theorem rq {P:Program} {w:World} {fn:Func} {x y t t2:Nat} (h:fn.results= #[.cell x t,.cell y t2]) (tmps:Array Value) (b b2 tt tt2:Nat) (cs ds:List Value) (d d2:TypeDesc) (hx:tmps.getD x undef=.pointer (some ⟨b,0,none⟩)) (hy:tmps.getD y undef=.pointer (some ⟨b2,0,none⟩)) (hb:w.heap[b]?=some (.cells cs.toArray tt (0,0))) (hu:P.underlying t=some d) (hd:d.isRow=true) (hi:(P.info? t).map (·.size)=some cs.length) (hb2:w.heap[b2]?=some (.cells ds.toArray tt2 (0,0))) (hu2:P.underlying t2=some d2) (hd2:d2.isRow=true) (hi2:(P.info? t2).map (·.size)=some ds.length):(results fn tmps).run P w=.ok (.tuple #[.agg cs.toArray,.agg ds.toArray]) w:=by have hl:=run_loadVar_mid (P:=P) w b 0 t cs d (fun j v hv=>by rw[Nat.zero_add];exact aj hb j v oJ) hu hd hi;have hl2:=run_loadVar_mid (P:=P) w b2 0 t2 ds d2 (fun j v hv=>by rw[Nat.zero_add];exact aj hb2 j v oJ) hu2 hd2 hi2;rw[Array.getD_eq_getD_getElem?]at hx hy;simp[results,h,hx,hy,asAddr,hl,hl2]
mutual
def aaH (l:List It) (c:Sc):Bool→Ty→Bool
 |b,.mk k n lf _ ls ar _ _=>
  if k=5 then
   if c.types.any (eqS n)then(aax l c false ar&&ls.all (aaF c.aF))&&(decide (ls.length=0)&&decide (ar.length=0))
   else match(aad 1 n 0 l).bind fun i=>l[i]? with
    |none=>false
    |some x=>decide (ar.length=x.gen.types.length)&&((aax l c false ar&&ls.all (aaF c.aF))&&(decide (ls.length=x.gen.aF.length)||(c.ig&&decide (ls.length=0))))
  else if k=7 then(if lf.size=0 then aax l c true ar&&c.ig else aax l c true ar&&aaF c.aF lf)
  else if k=8 then b&&((aad 2 n 0 l).isSome&&(decide (lf.size=0)||aaF c.aF lf))
  else aax l c (decide (k=6)) ar
def aax (l:List It) (c:Sc):Bool→List Ty→Bool
 |_,[]=>true
 |b,t::r=>aaH l c b t&&aax l c b r
end
theorem aaT (l:List It) (c:Sc) (b:Bool) (x:Ty):∀a:List Ty,aax l c b (a++[x])=(aax l c b a&&aaH l c b x)
 |[]=>by rw[List.nil_append,aax,aax,aax,Bool.and_true,Bool.true_and]
 |t::r=>by rw[List.cons_append,aax,aax,aaT l c b x r,Bool.and_assoc]
theorem rtysB_at {l:List It} {c:Sc} {b:Bool} {ar:List Ty} {i:Nat} {x:Ty} (h:ar[i]?=some x):aax l c b (ar.take (i+1))=(aax l c b (ar.take i)&&aaH l c b x):=by obtain⟨hk,rfl⟩:=List.getElem?_eq_some_iff.1 h;rw[List.take_succ_eq_append_getElem hk,aaT]
theorem all_at {α:Type} {p:α→Bool} {l:List α} {i:Nat} {x:α} (h:l[i]?=some x):(l.take (i+1)).all p=((l.take i).all p&&p x):=by obtain⟨hk,rfl⟩:=List.getElem?_eq_some_iff.1 h;rw[List.take_succ_eq_append_getElem hk,List.all_append];simp
theorem fndK_lt {k:Int} {s:ByteArray}:∀(l:List It) (j i:Nat),aad k s j l=some i→j≤i∧i<j+l.length
 |[],_,_,h=>by rw[aad]at h;cases h
 |x::r,j,i,h=>by
  rw[aad]at h
  split at h
  ·
   split at h
   ·
    cases h;simp
   ·
    cases h
  ·
   have:=fndK_lt r (j+1) i h
   simp;omega
theorem nX.gn2 {w:World} {P:Nat→Prop} {x:It} {cs:List Value} (h:nX w P x cs):∃vl vt:Value,cs[3]?=some vl∧cs[4]?=some vt∧cu w P x.gen.aF vl∧cu w P x.gen.types vt:=by obtain⟨ct,vl,vt,vf,vw,vm,vb,rfl,-,-,h4,h5,-⟩:=h;exact⟨vl,vt,rfl,rfl,h4,h5⟩
def RtyOkN (l:List It) (n:Nat):Prop:=∀(t:Ty) (ut us vl:Value) (c:Sc) (b:Bool) (P:Nat→Prop) (w:World),SizeOf.sizeOf t<n→KindOk l→jF nX w P l vl→Eg w P t ut→Qo w P c us→
 Calls Tryz.prog 24 #[vl,ut,us,.bool b] w fun e w'=>e=.returned (.bool (aaH l c b t))∧Step (fun _=>False) w w'
theorem rty_step (l:List It) (n:Nat) (ih:RtyOkN l n):RtyOkN l (n+1):=by
 intro t ut us vl c b P w hn hki hls ht hs;have IH:=ak ih;have sZ:=ak hki;have D6:=ak hs;have O3:=ak ht;have hll:=hls.lenle;obtain⟨a1,c1,a2,c2,rfl,hs1,hs2⟩:=hs;obtain⟨k0,nm,lf,mu,ls,ar,ln,cl⟩:=t;obtain⟨cs,rfl,hty⟩:=ht;rw[iG]at hty;obtain⟨vv,va,xs,rfl,hnm,hlf,hlz,hrl,hta,hra⟩:=hty;obtain⟨al,TQ,rfl⟩:=hrl.parts;obtain⟨aa,ca,rfl⟩:=hra.parts;obtain⟨av,cv,rfl⟩:=hls.parts;have hlsl:ls.length≤9223372036854775807:=by obtain⟨_,c',hv,h1,h2,-⟩:=hrl;cases hv;omega
 have harl:ar.length≤9223372036854775807:=by obtain⟨_,c',hv,h1,h2,-⟩:=hra;cases hv;omega
 obtain⟨w1,hw1⟩:=aU ((w.alloc (.cells #[ah k0,aY nm,aY lf,dV mu,.slice al ls.length TQ,.slice aa ar.length ca,ah ln,ah cl] 46)).alloc (.cells #[.slice a1 c.aF.length c1,.slice a2 c.types.length c2,dV c.ig] 73));have HST:Hid (Step (fun _=>False) w w1):=by show Step _ _ _;rw[hw1];exact(bJ.alloc _).alloc _
 have HB0:Hid (w1.heap[w.heap.size]?=some (.cells [.int .i64 k0,.string nm,.string lf,.bool mu,.slice al ls.length TQ,.slice aa ar.length ca,.int .i64 ln,.int .i64 cl].toArray 46 (0,0))):=by show _=_;rw[hw1];exact aN (aA _ _)
 have HB1:Hid (w1.heap[w.heap.size+1]?=some (.cells [.slice a1 c.aF.length c1,.slice a2 c.types.length c2,.bool c.ig].toArray 73 (0,0))):=by show _=_;rw[hw1];exact dX _ _ _
 have HW1:=ak hw1;have HD:Hid (∀X,Step (fun _=>False) w1 X→X.cell? ⟨w.heap.size,0,none⟩=some (.int .i64 k0)∧X.cell? ⟨w.heap.size,1,none⟩=some (.string nm)∧X.cell? ⟨w.heap.size,2,none⟩=some (.string lf)∧X.cell? ⟨w.heap.size,4,none⟩=some (.slice al ls.length TQ)∧X.cell? ⟨w.heap.size,5,none⟩=some (.slice aa ar.length ca)):=by show∀X,_;intro X hX;have h:=hX.keep HB0.o (fun h=>h);exact⟨aj h 0 _ rfl,aj h 1 _ rfl,aj h 2 _ rfl,aj h 4 _ rfl,aj h 5 _ rfl⟩
 have HE:Hid (∀X,Step (fun _=>False) w1 X→X.cell? ⟨w.heap.size+1,0,none⟩=some (.slice a1 c.aF.length c1)∧X.cell? ⟨w.heap.size+1,1,none⟩=some (.slice a2 c.types.length c2)∧X.cell? ⟨w.heap.size+1,2,none⟩=some (.bool c.ig)):=by show∀X,_;intro X hX;have h:=hX.keep HB1.o (fun h=>h);exact⟨aj h 0 _ rfl,aj h 1 _ rfl,aj h 2 _ rfl⟩
 have HLQ:Hid (∀X,Step (fun _=>False) w1 X→jF nX X P l (.slice av l.length cv)):=by show∀X,_;intro X hX;exact(bQ aT).step _ _ (HST.o.trans hX) (fun _ _ h=>h) hls
 have HSQ:Hid (∀X,Step (fun _=>False) w1 X→Qo X P c (.agg #[.slice a1 c.aF.length c1,.slice a2 c.types.length c2,dV c.ig])):=by show∀X,_;intro X hX;exact jB.step _ _ (HST.o.trans hX) (fun _ _ h=>h) D6.o
 have HAQ:Hid (∀X,Step (fun _=>False) w1 X→LY X P ar (.slice aa ar.length ca)):=by show∀X,_;intro X hX;exact pJ.step _ _ (HST.o.trans hX) (fun _ _ h=>h) ⟨xs,hra,hta⟩
 have HLSQ:Hid (∀X,Step (fun _=>False) w1 X→di X P (.slice al ls.length TQ) ls.length (ls.map .string)):=by show∀X,_;intro X hX;exact hrl.step (HST.o.trans hX) (fun _ _ h=>h)
 have QT:Hid (∀X,Step (fun _=>False) w1 X→di X P (.slice a2 c.types.length c2) c.types.length (c.types.map .string)):=by show∀X,_;intro X hX;exact hs2.2.step (HST.o.trans hX) (fun _ _ h=>h)
 have J6:Hid (∀x∈ar,SizeOf.sizeOf x<n):=by show∀x∈ar,_;intro x hx;have:=List.sizeOf_lt_of_mem hx;simp at hn;omega
 obtain⟨R,hR⟩:=aU (aaH l c b (.mk k0 nm lf mu ls ar ln cl));rw[←hR];have HR0:=ak hR;obtain⟨nx,hnx⟩:=aU ((k0==6)||(k0==7));have kz:=ak hnx;have Ou:=ak hlf;clear hn hki hls hrl hra hta hs1 hs2 hw1 hR hnx ih hnm hlf hlz;go_enter Tryz.func24,Tryz.ntmps24;go_upto_region 1 with fail
 rw[←HW1.o];go_upto_region 2 with fail
 go_cut [10] (fun s10 wx=>s10=.bool nx∧w1=wx);case first=>
  obtain⟨d0,d1,d2,d4,d5⟩:=HD.o w1 bJ;cases e6:(k0==6)with
  |true=>(have hq:nx=true:=by rw[kz.o,e6];rfl);go_wp2_with fail;go_meet;case rel=>exact⟨by rw[hq],rfl⟩
  |false=>(have hq:nx=(k0==7):=by rw[kz.o,e6];rfl);go_wp2_with fail;go_meet;case rel=>exact⟨by rw[hq],rfl⟩
 case rest=>
  obtain⟨rfl,rfl⟩:=hcut;go_upto_region 3 with fail
  go_wp2_with fail;go_loopg [9,11] ar.length (fun gg s9 s11 wr=>∃i:Nat,s11=.int .i64 i∧s9=.bool (aax l c nx (ar.take i))∧i≤ar.length∧ar.length-i≤gg∧Step (fun _=>False) w1 wr);case atStart=>exact⟨0,rfl,(by rw[List.take_zero,aax]),Nat.zero_le _,by omega,Step.refl _ _⟩
  case round=>
   obtain⟨i,rfl,rfl,hi,hgg,hst⟩:=hrel;have HSI:=ak hst;obtain⟨d0,d1,d2,d4,d5⟩:=HD.o wr hst;clear hst;by_cases hlt:i<ar.length
   ·obtain⟨x,hx⟩:∃x,ar[i]?=some x:=⟨ar[i],List.getElem?_eq_getElem hlt⟩;have HAT:=ak (rtysB_at (l:=l) (c:=c) (b:=nx) hx);obtain⟨ok,hok⟩:=aU (aax l c nx (ar.take i));rw[←hok]at HAT⊢;clear hok;cases ok with
    |false=>
     (have HT:Hid (Value.bool false=.bool (aax l c nx (ar.take (i+1)))):=by show _=_;rw[HAT.o];rfl);clear hx;obtain⟨wi,rfl⟩:=aU wr;(go_upto_region 6 with fail);go_quiet (fail);go_wp2_with fail;go_roundg (gk-1);case rel=>exact⟨i+1,by go_num,HT.o,hlt,by rw[←Nat.sub_sub];exact Nat.sub_le_sub_right hgg 1,HSI.o.trans (bJ.drewN _)⟩
     case measure=>omega
    |true=>
     obtain⟨rx,hrx⟩:=aU (aaH l c nx x);(have HT:Hid (Value.bool rx=.bool (aax l c nx (ar.take (i+1)))):=by show _=_;rw[HAT.o,hrx];rfl);obtain⟨KL,⟨a',c',hva,hcl,hcm,-,hra⟩,hls⟩:=HAQ.o wr HSI.o;(obtain⟨rfl,rfl⟩:aa=a'∧ca=c':=by cases hva;exact⟨rfl,rfl⟩);obtain⟨g,o,rfl,-,-,hcell⟩:=hra om;obtain⟨cs,hat,hget⟩:=fP.cells hls hx hcell;have iH:Hid (∀(jj:Nat) v,cs[jj]?=some v→wr.cell? ⟨g,o+i*8+jj,none⟩=some v):=hget;(have mX:Hid ((Tryz.prog.info? 46).map (·.size)=some cs.length):=by show _=_;rw[hat.len];exact Tryz.fM);(have XC:Hid (∀X,Step (fun _=>False) wr X→Calls Tryz.prog 24 #[.slice av l.length cv,.agg cs.toArray,.agg #[.slice a1 c.aF.length c1,.slice a2 c.types.length c2,dV c.ig],.bool nx] X fun e w'=>e=.returned (.bool rx)∧Step (fun _=>False) X w'):=by show∀X,_;intro X hX;rw[hrx];exact IH.o x _ _ _ c nx P X (J6.o x (List.mem_of_getElem? hx)) sZ.o (HLQ.o X (HSI.o.trans hX)) ⟨cs,rfl,iG.step hX (fun _ _ h=>h) _ cs hat⟩ (HSQ.o X (HSI.o.trans hX)));clear hva hcl hcm hra hls hcell hat hget hx hrx;obtain⟨wi,rfl⟩:=aU wr;(go_upto_region 6 with fail);obtain⟨Jx,hJx⟩:=aU (FnH 12 0 [(.bool true,true),(.bool true,true),(.slice av l.length cv,true),(.pointer (some ⟨w.heap.size,5,none⟩),true),(.slice (some ⟨g,o,none⟩) ar.length ca,true),(.int .i64 i,true),(.pointer (some ⟨g,o+i*8,none⟩),true),(.agg cs.toArray,true),(.agg #[.slice a1 c.aF.length c1,.slice a2 c.types.length c2,dV c.ig],true),(.bool nx,true),(.bool rx,true),(.bool rx,true),(.bool rx,true)] wi);have dL:=ak hJx;clear hJx;refine aaI kr Jx 13 rfl kr kr kr kr ?h0 ?hs ?hdone;case h0=>rw[dL.o];exact FnH.zero (bJ.drew)
     case hs=>
      refine⟨?_,?_,?_,?_,?_,?_,?_,?_,?_,?_,?_,?_,?_,trivial⟩
      all_goals (intro L V X a ev dn evh hL ax hJ;unfold qG;dsimp only;rw[dL.o]at hJ)
      ·have o9:=evh 9 12 rfl (hJ.no hL);change a.tmps[9]?.getD undef=.bool true at o9;go_simp;exact⟨_,rfl,by rw[dL.o];exact hJ.up 0 _ aaY (.inl dc)⟩
      ·have e29:=(ev 0 29 rfl (ax 0 rfl)).trans (hJ.d 0 _ rfl (ax 0 rfl));go_simp;exact⟨_,rfl,by rw[dL.o];exact hJ.up 1 _ aaY (.inl dc)⟩
      ·refine .inl ⟨hJ.d 1 _ rfl (ax 1 rfl),?_⟩;have o0:=dn 0 rfl;change a.tmps[0]?.getD undef=.slice av l.length cv at o0;go_simp;exact⟨_,rfl,by rw[dL.o];exact hJ.up 2 _ aaY (.inl dc)⟩
      ·refine .inl ⟨hJ.d 1 _ rfl (ax 1 rfl),?_⟩;have o5:=dn 5 rfl;change a.tmps[5]?.getD undef=.pointer (some ⟨w.heap.size,0,none⟩)at o5;go_simp;exact⟨_,rfl,by rw[dL.o];exact hJ.up 3 _ aaY (.inl dc)⟩
      ·refine .inl ⟨hJ.d 1 _ rfl (ax 1 rfl),?_⟩;have e32:=(ev 3 32 rfl (ax 3 rfl)).trans (hJ.d 3 _ rfl (ax 3 rfl));obtain⟨d0,d1,d2,d4,d5⟩:=HD.o X mcUg;go_simp;exact⟨_,rfl,by rw[dL.o];exact hJ.up 4 _ aaY (.inl dc)⟩
      ·refine .inl ⟨hJ.d 1 _ rfl (ax 1 rfl),?_⟩;have o11:=dn 11 rfl;change a.tmps[11]?.getD undef=.int .i64 i at o11;go_simp;exact⟨_,rfl,by rw[dL.o];exact hJ.up 5 _ aaY (.inl dc)⟩
      ·refine .inl ⟨hJ.d 1 _ rfl (ax 1 rfl),?_⟩;have e33:=(ev 4 33 rfl (ax 4 rfl)).trans (hJ.d 4 _ rfl (ax 4 rfl));have e34:=(ev 5 34 rfl (ax 5 rfl)).trans (hJ.d 5 _ rfl (ax 5 rfl));go_simp;exact⟨_,rfl,by rw[dL.o];exact hJ.up 6 _ aaY (.inl dc)⟩
      ·refine .inl ⟨hJ.d 1 _ rfl (ax 1 rfl),?_⟩;have e35:=(ev 6 35 rfl (ax 6 rfl)).trans (hJ.d 6 _ rfl (ax 6 rfl));refine wp_load_mid 46 (.tmp 35) rfl g (o+i*8) (by rw[bF];exact e35) cs _ mcUf Tryz.underlying46 rfl mX.o ?_;exact⟨_,rfl,by rw[dL.o];exact hJ.up 7 _ aaY (.inl dc)⟩
      ·refine .inl ⟨hJ.d 1 _ rfl (ax 1 rfl),?_⟩;have o6:=dn 6 rfl;change a.tmps[6]?.getD undef=.pointer (some ⟨w.heap.size+1,0,none⟩)at o6;obtain⟨s0,s1,s2⟩:=HE.o X mcUg;go_simp;exact⟨_,rfl,by rw[dL.o];exact hJ.up 8 _ aaY (.inl dc)⟩
      ·refine .inl ⟨hJ.d 1 _ rfl (ax 1 rfl),?_⟩;have o10:=dn 10 rfl;change a.tmps[10]?.getD undef=.bool nx at o10;go_simp;exact⟨_,rfl,by rw[dL.o];exact hJ.up 9 _ aaY (.inl dc)⟩
      ·refine .inl ⟨hJ.d 1 _ rfl (ax 1 rfl),?_⟩;have e31:=(ev 2 31 rfl (ax 2 rfl)).trans (hJ.d 2 _ rfl (ax 2 rfl));have e36:=(ev 7 36 rfl (ax 7 rfl)).trans (hJ.d 7 _ rfl (ax 7 rfl));have e37:=(ev 8 37 rfl (ax 8 rfl)).trans (hJ.d 8 _ rfl (ax 8 rfl));have e38:=(ev 9 38 rfl (ax 9 rfl)).trans (hJ.d 9 _ rfl (ax 9 rfl));go_simp;refine(XC.o X hJ.st).mono ?_;rintro e5 w5 ⟨rfl,h5⟩;exact⟨_,rfl,by rw[dL.o];exact(hJ.step h5).up 10 _ aaY (.inl dc)⟩
      ·have e30:=(ev 1 30 rfl (ax 1 rfl)).trans (hJ.d 1 _ rfl (ax 1 rfl));have e39:=(ev 10 39 rfl (ax 10 rfl)).trans (hJ.d 10 _ rfl (ax 10 rfl));go_simp;exact⟨_,rfl,by rw[dL.o];exact hJ.up 11 _ aaY (.inl dc)⟩
      ·have e40:=(ev 11 40 rfl (ax 11 rfl)).trans (hJ.d 11 _ rfl (ax 11 rfl));go_simp;exact⟨_,rfl,by rw[dL.o];exact hJ.up 12 _ aaY (.inr (ax 0 rfl))⟩
     case hdone=>intro L V X hall hJ;rw[dL.o]at hJ;have hst:=hJ.st;have hlast:=hJ.d 12 _ rfl (hall 12 dc);rw[show List.range 13=[0,1,2,3,4,5,6,7,8,9,10,11,12] from rfl];simp only[kC,fU,List.getElem?_toArray,List.getElem?_cons_zero,List.getElem?_cons_succ,Option.bind_some,Act.put,List.setIfInBounds_toArray,List.set_cons_zero,List.set_cons_succ];go_wp2_with fail;go_roundg (gk-1);(case rel=>exact⟨i+1,by go_num,by first|exact HT.o|(rw[hlast];exact HT.o),hlt,by rw[←Nat.sub_sub];exact Nat.sub_le_sub_right hgg 1,HSI.o.trans hst⟩);(case measure=>omega)
   ·(have HT:Hid (aax l c nx (ar.take i)=aax l c nx ar):=by show _=_;rw[List.take_of_length_le om]);rw[HT.o];(go_upto_region 7 with fail);obtain⟨w2,rfl⟩:=aU wr;have HS2:=ak HSI.o;clear d0 d1 d2 d4 d5 hlt hi hgg;obtain⟨ok1,hok1⟩:=aU (aax l c nx ar);rw[←hok1];have PO:=ak hok1;clear hok1;obtain⟨d0,d1,d2,d4,d5⟩:=HD.o w2 HS2.o;by_cases h5:k0=5
    ·subst h5;have hnx:nx=false:=kz.o;subst hnx
     have M_:Hid (R=if c.types.any (eqS nm)then(ok1&&ls.all (aaF c.aF))&&(decide (ls.length=0)&&decide (ar.length=0))
      else match(aad 1 nm 0 l).bind fun i=>l[i]? with
       |none=>false
       |some x=>decide (ar.length=x.gen.types.length)&&((ok1&&ls.all (aaF c.aF))&&(decide (ls.length=x.gen.aF.length)||(c.ig&&decide (ls.length=0))))):=by
      show _=_
      rw[HR0.o,aaH,if_pos rfl,PO.o]
     go_wp2_with fail;go_loopg [9,12] ls.length (fun gg s9 s12 wr=>∃i:Nat,s12=.int .i64 i∧s9=.bool (ok1&&(ls.take i).all (aaF c.aF))∧i≤ls.length∧ls.length-i≤gg∧Step (fun _=>False) w2 wr);case atStart=>exact⟨0,rfl,(by rw[List.take_zero,List.all_nil,Bool.and_true]),Nat.zero_le _,by omega,Step.refl _ _⟩
     case round=>
      obtain⟨i,rfl,rfl,hi,hgg,hst⟩:=hrel;have HSI:Hid (Step (fun _=>False) w1 wr):=HS2.o.trans hst;have HSJ:=ak hst;clear d0 d1 d2 d4 d5;obtain⟨d0,d1,d2,d4,d5⟩:=HD.o wr HSI.o;clear hst;by_cases hlt:i<ls.length
      ·obtain⟨x,hx⟩:∃x,ls[i]?=some x:=⟨ls[i],List.getElem?_eq_getElem hlt⟩;(have HAT:Hid ((ok1&&(ls.take (i+1)).all (aaF c.aF))=((ok1&&(ls.take i).all (aaF c.aF))&&aaF c.aF x)):=by show _=_;rw[all_at hx,Bool.and_assoc]);obtain⟨ok2,hok⟩:=aU (ok1&&(ls.take i).all (aaF c.aF));rw[←hok]at HAT⊢;clear hok;obtain⟨lx,hlx⟩:=aU (aaF c.aF x);rw[←hlx]at HAT;(have HT:Hid (Value.bool (ok2&&lx)=.bool (ok1&&(ls.take (i+1)).all (aaF c.aF))):=by show _=_;rw[HAT.o]);obtain⟨a',c',hva,hcl,hcm,-,hra⟩:=HLSQ.o wr HSI.o;(obtain⟨rfl,rfl⟩:al=a'∧TQ=c':=by cases hva;exact⟨rfl,rfl⟩);obtain⟨g,o,rfl,-,-,hcell⟩:=hra om;have HF0:=ak (hcell i _ (qU ls i x hx));(have BB:Hid (∀X,Step (fun _=>False) wr X→Calls Tryz.prog 71 #[.string x,.agg #[.slice a1 c.aF.length c1,.slice a2 c.types.length c2,dV c.ig]] X fun e w'=>e=.returned (.bool lx)∧Step (fun _=>False) X w'):=by show∀X,_;intro X hX;rw[hlx];exact aaQ P x c _ X (HSQ.o X (HSI.o.trans hX)));clear hva hcl hcm hra hcell hx hlx;obtain⟨wi,rfl⟩:=aU wr;cases ok2 with
       |false=>
        have HT':Hid (Value.bool false=.bool (ok1&&(ls.take (i+1)).all (aaF c.aF))):=HT.o;(go_upto_region 12 with fail);go_quiet (fail);go_wp2_with fail;go_roundg (gk-1);case rel=>exact⟨i+1,by go_num,HT'.out,hlt,by rw[←Nat.sub_sub];exact Nat.sub_le_sub_right hgg 1,HSJ.o.trans (bJ.drewN _)⟩
        case measure=>omega
       |true=>
        have HT':Hid (Value.bool lx=.bool (ok1&&(ls.take (i+1)).all (aaF c.aF))):=HT.o;(go_upto_region 12 with fail);obtain⟨Jx,hJx⟩:=aU (FnH 10 0 [(.bool true,true),(.bool true,true),(.pointer (some ⟨w.heap.size,4,none⟩),true),(.slice (some ⟨g,o,none⟩) ls.length TQ,true),(.int .i64 i,true),(.pointer (some ⟨g,o+i,none⟩),true),(.string x,true),(.agg #[.slice a1 c.aF.length c1,.slice a2 c.types.length c2,dV c.ig],true),(.bool lx,true),(.bool lx,true),(.bool lx,true)] wi);have dL:=ak hJx;clear hJx;refine aaI kr Jx 11 rfl kr kr kr kr ?h0 ?hs ?hdone;case h0=>rw[dL.o];exact FnH.zero (bJ.drew)
        case hs=>
         refine⟨?_,?_,?_,?_,?_,?_,?_,?_,?_,?_,?_,trivial⟩
         all_goals (intro L V X a ev dn evh hL ax hJ;unfold qG;dsimp only;rw[dL.o]at hJ)
         ·have o9:=evh 9 10 rfl (hJ.no hL);change a.tmps[9]?.getD undef=.bool true at o9;go_simp;exact⟨_,rfl,by rw[dL.o];exact hJ.up 0 _ aaY (.inl dc)⟩
         ·have e52:=(ev 0 52 rfl (ax 0 rfl)).trans (hJ.d 0 _ rfl (ax 0 rfl));go_simp;exact⟨_,rfl,by rw[dL.o];exact hJ.up 1 _ aaY (.inl dc)⟩
         ·refine .inl ⟨hJ.d 1 _ rfl (ax 1 rfl),?_⟩;have o5:=dn 5 rfl;change a.tmps[5]?.getD undef=.pointer (some ⟨w.heap.size,0,none⟩)at o5;go_simp;exact⟨_,rfl,by rw[dL.o];exact hJ.up 2 _ aaY (.inl dc)⟩
         ·refine .inl ⟨hJ.d 1 _ rfl (ax 1 rfl),?_⟩;have e54:=(ev 2 54 rfl (ax 2 rfl)).trans (hJ.d 2 _ rfl (ax 2 rfl));obtain⟨d0,d1,d2,d4,d5⟩:=HD.o X mcUg;go_simp;exact⟨_,rfl,by rw[dL.o];exact hJ.up 3 _ aaY (.inl dc)⟩
         ·refine .inl ⟨hJ.d 1 _ rfl (ax 1 rfl),?_⟩;have o12:=dn 12 rfl;change a.tmps[12]?.getD undef=.int .i64 i at o12;go_simp;exact⟨_,rfl,by rw[dL.o];exact hJ.up 4 _ aaY (.inl dc)⟩
         ·refine .inl ⟨hJ.d 1 _ rfl (ax 1 rfl),?_⟩;have e55:=(ev 3 55 rfl (ax 3 rfl)).trans (hJ.d 3 _ rfl (ax 3 rfl));have e56:=(ev 4 56 rfl (ax 4 rfl)).trans (hJ.d 4 _ rfl (ax 4 rfl));go_simp;exact⟨_,rfl,by rw[dL.o];exact hJ.up 5 _ aaY (.inl dc)⟩
         ·refine .inl ⟨hJ.d 1 _ rfl (ax 1 rfl),?_⟩;have e57:=(ev 5 57 rfl (ax 5 rfl)).trans (hJ.d 5 _ rfl (ax 5 rfl));have f0:=hJ.st.cell HF0.o (fun h=>h);go_simp;exact⟨_,rfl,by rw[dL.o];exact hJ.up 6 _ aaY (.inl dc)⟩
         ·refine .inl ⟨hJ.d 1 _ rfl (ax 1 rfl),?_⟩;have o6:=dn 6 rfl;change a.tmps[6]?.getD undef=.pointer (some ⟨w.heap.size+1,0,none⟩)at o6;obtain⟨s0,s1,s2⟩:=HE.o X mcUg;go_simp;exact⟨_,rfl,by rw[dL.o];exact hJ.up 7 _ aaY (.inl dc)⟩
         ·refine .inl ⟨hJ.d 1 _ rfl (ax 1 rfl),?_⟩;have e58:=(ev 6 58 rfl (ax 6 rfl)).trans (hJ.d 6 _ rfl (ax 6 rfl));have e59:=(ev 7 59 rfl (ax 7 rfl)).trans (hJ.d 7 _ rfl (ax 7 rfl));go_simp;refine(BB.o X hJ.st).mono ?_;rintro e5 w5 ⟨rfl,h5⟩;exact⟨_,rfl,by rw[dL.o];exact(hJ.step h5).up 8 _ aaY (.inl dc)⟩
         ·have e53:=(ev 1 53 rfl (ax 1 rfl)).trans (hJ.d 1 _ rfl (ax 1 rfl));have e60:=(ev 8 60 rfl (ax 8 rfl)).trans (hJ.d 8 _ rfl (ax 8 rfl));go_simp;exact⟨_,rfl,by rw[dL.o];exact hJ.up 9 _ aaY (.inl dc)⟩
         ·have e61:=(ev 9 61 rfl (ax 9 rfl)).trans (hJ.d 9 _ rfl (ax 9 rfl));go_simp;exact⟨_,rfl,by rw[dL.o];exact hJ.up 10 _ aaY (.inr (ax 0 rfl))⟩
        case hdone=>intro L V X hall hJ;rw[dL.o]at hJ;have hst:=hJ.st;have hlast:=hJ.d 10 _ rfl (hall 10 dc);rw[show List.range 11=[0,1,2,3,4,5,6,7,8,9,10] from rfl];simp only[kC,fU,List.getElem?_toArray,List.getElem?_cons_zero,List.getElem?_cons_succ,Option.bind_some,Act.put,List.setIfInBounds_toArray,List.set_cons_zero,List.set_cons_succ];go_wp2_with fail;go_roundg (gk-1);(case rel=>exact⟨i+1,by go_num,by first|exact HT'.out|(rw[hlast];exact HT'.out),hlt,by rw[←Nat.sub_sub];exact Nat.sub_le_sub_right hgg 1,HSJ.o.trans hst⟩);(case measure=>omega)
      ·(have HT:Hid ((ls.take i).all (aaF c.aF)=ls.all (aaF c.aF)):=by show _=_;rw[List.take_of_length_le om]);rw[HT.o];(go_upto_region 13 with fail);clear HT hlt hi hgg;obtain⟨ok2,hok⟩:=aU (ok1&&ls.all (aaF c.aF));rw[←hok]at M_⊢;clear hok;obtain⟨w3,rfl⟩:=aU wr;obtain⟨s0,s1,s2⟩:=HE.o w3 HSI.o;go_wp2_with fail;refine(rin_any P nm c.types _ w3 (QT.o w3 HSI.o)).mono ?_;rintro e w4 ⟨rfl,h4⟩;obtain⟨inT,hin⟩:=aU (c.types.any (eqS nm));rw[←hin]at M_⊢;have iP:Hid (Step (fun _=>False) w1 w4):=HSI.o.trans h4;clear h4 hin d0 d1 d2 d4 d5 s0 s1 s2;obtain⟨d0,d1,d2,d4,d5⟩:=HD.o w4 iP.o;obtain⟨s0,s1,s2⟩:=HE.o w4 iP.o;obtain⟨z1,hz1⟩:=aU ((ls.length:Int)==0);(have hzd:decide (ls.length=0)=z1:=by rw[hz1];exact decide_eq_decide.2 om);have yR:=M_.o;rw[hzd]at yR;clear hzd;have q1:=hz1.symm;clear hz1;cases inT with
       |true=>
        obtain⟨z2,hz2⟩:=aU ((ar.length:Int)==0);(have hzd:decide (ar.length=0)=z2:=by rw[hz2];exact decide_eq_decide.2 om);(have HR7:Hid (R=(ok2&&(z1&&z2))):=by show _=_;rw[yR,if_pos rfl,hzd]);have q2:=hz2.symm;clear hz2 hzd yR;cases ok2 with
        |false=>have HRR:Hid (R=false):=HR7.o;go_wp2_with fail;go_ret;exact⟨iJ HRR.o.symm,HST.o.trans iP.o⟩
        |true=>
         cases z1 with
         |false=>have HRR:Hid (R=false):=HR7.o;go_wp2_with fail;go_ret;exact⟨iJ HRR.o.symm,HST.o.trans iP.o⟩
         |true=>have HRR:Hid (R=z2):=HR7.o;go_wp2_with fail;go_ret;exact⟨iJ HRR.o.symm,HST.o.trans iP.o⟩
       |false=>
        have HR7:=ak (yR.trans (if_neg dc));clear yR;(go_upto_region 15 with fail);go_wp2_with fail;refine(aai 1 om nm P l _ w4 (HLQ.o w4 iP.o) sZ.o).mono ?_;rintro e w5 ⟨rfl,rfl⟩;cases hf:aad 1 nm 0 l with
        |none=>(have HRR:Hid (R=false):=by show _=_;rw[HR7.o,hf];rfl);rw[show aag none=(-1:Int) from rfl];clear hf;(go_upto_region 16 with fail);go_quiet (fail);go_wp2_with fail;go_ret;exact⟨iJ HRR.o.symm,(HST.o.trans iP.o).trans (bJ.drewN _)⟩
        |some q=>
         rw[show aag (some q)=(q:Int) from rfl];have hq:=fndK_lt l 0 q hf;(have hql:q<l.length:=by omega);obtain⟨y,hy⟩:∃y,l[q]?=some y:=⟨l[q],List.getElem?_eq_getElem hql⟩;(have HR8:Hid (R=(decide (ar.length=y.gen.types.length)&&(ok2&&(decide (ls.length=y.gen.aF.length)||(c.ig&&z1))))):=by show _=_;rw[HR7.o,hf,Option.bind_some,hy]);obtain⟨g,o,c',cs,hva,hat,hcell⟩:=(HLQ.o w4 iP.o).el aT hy;(obtain⟨rfl,rfl⟩:av=some ⟨g,o,none⟩∧cv=c':=by cases hva;exact⟨rfl,rfl⟩);obtain⟨l1,l2,h3,h4,hn1,hn2⟩:=hat.gn2;obtain⟨b1,e1,rfl⟩:=hn1.parts;obtain⟨b2,e2,rfl⟩:=hn2.parts;have y3:=hcell 3 _ h3;have y4:=hcell 4 _ h4;have hq0:(0:Int)≤(q:Int):=Int.natCast_nonneg _;(have hq1:((q:Int)<0)=False:=by simp);(have hqd:decide ((q:Int)<0)=false:=by simp);obtain⟨t1,ht1⟩:=aU ((ar.length:Int) !=(y.gen.types.length:Int));obtain⟨t2,ht2⟩:=aU ((ls.length:Int)==(y.gen.aF.length:Int));(have hd1:decide (ar.length=y.gen.types.length)= !t1:=by rw[ht1,bne,Bool.not_not];exact decide_eq_decide.2 om);(have hd2:decide (ls.length=y.gen.aF.length)=t2:=by rw[ht2];exact decide_eq_decide.2 om);(have HR9:Hid (R=(!t1&&(ok2&&(t2||(c.ig&&z1))))):=by show _=_;rw[HR8.o,hd1,hd2]);have p1:=ht1.symm;have p2:=ht2.symm;obtain⟨el,hel⟩:=aU c.ig;rw[←hel]at HR9 s2⊢;clear hva hat hcell hn1 hn2 h3 h4 hy hf hq ht1 ht2 hd1 hd2 hel d0 d1 d2;cases t1 with
         |true=>have HRR:Hid (R=false):=HR9.o;(go_upto_region 16 with fail);go_quiet (fail);go_wp2_with fail;go_ret;exact⟨iJ HRR.o.symm,(HST.o.trans iP.o).trans (bJ.drewN _)⟩
         |false=>
          (go_upto_region 16 with fail);go_quiet (fail);(go_upto_region 18 with fail);cases ok2 with
          |false=>have HRR:Hid (R=false):=HR9.o;go_quiet (fail);go_wp2_with fail;go_ret;exact⟨iJ HRR.o.symm,(HST.o.trans iP.o).trans ((bJ.drewN _).drewN _)⟩
          |true=>
           cases t2 with
           |true=>have HRR:Hid (R=true):=HR9.o;go_quiet (fail);go_wp2_with fail;go_ret;exact⟨iJ HRR.o.symm,(HST.o.trans iP.o).trans ((bJ.drewN _).drewN _)⟩
           |false=>
            have HRR:Hid (R=(el&&z1)):=HR9.o;cases el with
            |false=>go_quiet (fail);go_wp2_with fail;go_ret;exact⟨iJ HRR.o.symm,(HST.o.trans iP.o).trans ((bJ.drewN _).drewN _)⟩
            |true=>go_quiet (fail);go_wp2_with fail;go_ret;exact⟨iJ HRR.o.symm,(HST.o.trans iP.o).trans ((bJ.drewN _).drewN _)⟩
    ·by_cases h7:k0=7
     ·subst h7;have hnx:nx=true:=kz.o;subst hnx;(have HR7:Hid (R=if lf.size=0 then ok1&&c.ig else ok1&&aaF c.aF lf):=by show _=_;rw[HR0.o,aaH,if_neg dc,if_pos rfl,PO.o]);obtain⟨s0,s1,s2⟩:=HE.o w2 HS2.o;by_cases hz:lf.size=0
      ·(have hon:lf=⟨#[]⟩:=by obtain⟨a⟩:=lf;have h2:a.size=0:=hz;rw[Array.eq_empty_of_size_eq_zero h2]);(have he0:lf.toList=[]:=by rw[hon,Lib.toList_data]);have HRR:=ak (HR7.o.trans (if_pos hz));clear hz hon;cases ok1 with
       |false=>have KU:Hid (R=false):=HRR.o;go_wp2_with fail;go_ret;exact⟨iJ KU.o.symm,HST.o.trans HS2.o⟩
       |true=>have KU:Hid (R=c.ig):=HRR.o;go_wp2_with fail;go_ret;exact⟨iJ KU.o.symm,HST.o.trans HS2.o⟩
      ·have HRR:=ak (HR7.o.trans (if_neg hz));have he:=kG lf om;have he':=ku lf om;clear hz;cases ok1 with
       |false=>have KU:Hid (R=false):=HRR.o;go_wp2_with fail;go_ret;exact⟨iJ KU.o.symm,HST.o.trans HS2.o⟩
       |true=>have KU:Hid (R=aaF c.aF lf):=HRR.o;go_wp2_with fail;refine(aaQ P lf c _ w2 (HSQ.o w2 HS2.o)).mono ?_;rintro e w3 ⟨rfl,h3⟩;rw[←KU.o];go_wp2_with fail;go_ret;exact⟨rfl,HST.o.trans (HS2.o.trans h3)⟩
     ·(have hk5:(k0==5)=false:=by simp[h5]);(have hk7:(k0==7)=false:=by simp[h7]);by_cases h8:k0=8
      ·subst h8;(have HR8:Hid (R=(b&&((aad 2 nm 0 l).isSome&&(decide (lf.size=0)||aaF c.aF lf)))):=by show _=_;rw[HR0.o,aaH,if_neg dc,if_neg dc,if_pos rfl]);obtain⟨s0,s1,s2⟩:=HE.o w2 HS2.o;cases b with
       |false=>have KU:Hid (R=false):=HR8.o;go_wp2_with fail;go_ret;exact⟨iJ KU.o.symm,HST.o.trans HS2.o⟩
       |true=>
        have HR9:Hid (R=((aad 2 nm 0 l).isSome&&(decide (lf.size=0)||aaF c.aF lf))):=HR8.o;go_wp2_with fail;refine(aai 2 om nm P l _ w2 (HLQ.o w2 HS2.o) sZ.o).mono ?_;rintro e w5 ⟨rfl,rfl⟩;cases hf:aad 2 nm 0 l with
        |none=>(have KU:Hid (R=false):=by show _=_;rw[HR9.o,hf];rfl);clear hf;go_wp2_with fail;go_ret;exact⟨iJ KU.o.symm,HST.o.trans HS2.o⟩
        |some q=>
         (have wX:Hid (R=(decide (lf.size=0)||aaF c.aF lf)):=by show _=_;rw[HR9.o,hf];rfl);clear hf;have hq0:(0:Int)≤(q:Int):=Int.natCast_nonneg _;by_cases hz:lf.size=0
         ·(have hon:lf=⟨#[]⟩:=by obtain⟨a⟩:=lf;have h2:a.size=0:=hz;rw[Array.eq_empty_of_size_eq_zero h2]);(have he0:lf.toList=[]:=by rw[hon,Lib.toList_data]);(have KU:Hid (R=true):=by show _=_;rw[wX.o,decide_eq_true hz];rfl);clear hz hon;go_wp2_with fail;go_ret;exact⟨iJ KU.o.symm,HST.o.trans HS2.o⟩
         ·(have KU:Hid (R=aaF c.aF lf):=by show _=_;rw[wX.o,decide_eq_false hz];rfl);have he:=kG lf om;have he':=ku lf om;clear hz;go_wp2_with fail;refine(aaQ P lf c _ w2 (HSQ.o w2 HS2.o)).mono ?_;rintro e w3 ⟨rfl,h3⟩;rw[←KU.o];go_wp2_with fail;go_ret;exact⟨rfl,HST.o.trans (HS2.o.trans h3)⟩
      ·(have hk8:(k0==8)=false:=by simp[h8]);(have ng:Hid (R=ok1):=by show _=_;rw[HR0.o,aaH,if_neg h5,if_neg h7,if_neg h8,PO.o,kz.o,hk7,Bool.or_false];rfl);go_wp2_with fail;go_ret;exact⟨iJ ng.o.symm,HST.o.trans HS2.o⟩
mutual
def Aj:Ty→Prop
 | .mk k _ _ _ _ ar _ _=>(k=5∨k=6∨k=7∨ar=[])∧aaG ar
def aaG:List Ty→Prop
 |[]=>True
 |t::r=>Aj t∧aaG r
end
theorem aaG.nil:aaG []:=by rw[aaG];trivial
theorem aaG.one {t:Ty} (h:Aj t):aaG [t]:=by rw[aaG];exact⟨h,aaG.nil⟩
theorem aaG.snoc:∀{ts:List Ty} {t:Ty},aaG ts→Aj t→aaG (ts++[t])
 |[],_,_,h=>aaG.one h
 |a::r,t,h,h2=>by
  rw[aaG]at h
  rw[List.cons_append,aaG]
  exact⟨h.1,aaG.snoc h.2 h2⟩
theorem Aj.leaf {k:Int} {n lf:ByteArray} {b:Bool} {ns:List ByteArray} {ln cl:Int} {j:Nat}:dZ Aj (.ok (.mk k n lf b ns [] ln cl) j):=dZ.ok (by rw[Aj];exact⟨.inr (.inr (.inr rfl)),aaG.nil⟩)
theorem ty_s {l:List Tok}:∀f,(∀i d,dZ Aj (jT f l i d))∧(∀i d ls ts,aaG ts→dZ (fun p=>aaG p.2) (m_ f l i d ls ts)):=by
 intro f;induction f with
 |zero=>exact⟨(fun i d a j e=>by rw[jT]at e;cases e),(fun i d ls ts _ a j e=>by rw[m_]at e;cases e)⟩
 |succ f ih=>
  obtain⟨iht,iha⟩:=ih;constructor
  ·intro i d;rw[jT];split
   ·exact dZ.fail
   split
   ·exact Aj.leaf
   split
   ·exact Aj.leaf
   split
   ·exact Aj.leaf
   split
   ·exact(dZ.any _).bind fun _ j _=>Aj.leaf
   split
   ·exact(dZ.any _).bind fun _ j _=>(iht _ _).bind fun a j ha=>(dZ.any _).bind fun _ j _=>dZ.ok (by rw[Aj];exact⟨.inr (.inl rfl),aaG.one ha⟩)
   split
   ·exact(iht _ _).bind fun a j ha=>dZ.ok (by rw[Aj];exact⟨.inr (.inr (.inl rfl)),aaG.one ha⟩)
   split
   ·refine(dZ.any _).bind fun n j _=> ?_;split
    ·exact(dZ.any _).bind fun _ j _=>Aj.leaf
    ·exact Aj.leaf
   ·refine(dZ.any _).bind fun n j _=> ?_;split
    ·exact(iha _ _ [] [] aaG.nil).bind fun p j hp=>dZ.ok (by rw[Aj];exact⟨.inl rfl,hp⟩)
    ·exact Aj.leaf
  ·intro i d ls ts hts;rw[m_];refine(dZ.any _).bind fun _ i _=> ?_;refine dZ.bind (Q:=fun p=>aaG p.2) ?_ ?_
   ·split
    ·exact(dZ.any _).bind fun x j _=>dZ.ok hts
    ·exact(iht _ _).bind fun x j hx=>dZ.ok (hts.snoc hx)
   ·intro p j hp;split
    ·exact iha _ _ _ _ hp
    ·exact(dZ.any _).bind fun _ j _=>dZ.ok hp
structure TabL (T:Tab) (l:List It):Prop where
 st:∀n,T.get T.st n=(aad 1 n 0 l).bind fun i=>l[i]?
 tr:∀n,(T.tr n).isSome=(aad 2 n 0 l).isSome
theorem newT_l {l:List It} (h:∀x∈l,Fe x):TabL (wP l) l:=by have h1:=newT_fnd h;have h2:=uq l;exact⟨fun n=>by rw[Tab.get,h1.st,h2],fun n=>by rw[h1.tr,h2]⟩
theorem aaJ {ls:List ByteArray} {x:ByteArray} {ln cl:Int}:jV ls x ln cl=[]↔aaF ls x=true:=by
 unfold jV aaF;split
 ·rename_i h;exact⟨fun _=>h,fun _=>rfl⟩
 ·rename_i h;exact⟨(fun e=>nomatch e),fun e=>absurd e h⟩
theorem aaU {ls:List ByteArray} {ln cl:Int}:∀xs:List ByteArray,jP ls ln cl xs=[]↔xs.all (aaF ls)=true
 |[]=>⟨fun _=>rfl,fun _=>rfl⟩
 |x::r=>by rw[jP,List.append_eq_nil_iff,aaJ,aaU r,List.all_cons,Bool.and_eq_true]
section
variable {T : Tab} {l : List It}
theorem namE_iff (hT:TabL T l) (s:Sc) (n:ByteArray) (nl na:Nat) (ln cl:Int):EY T s n nl na ln cl=[]↔(if s.types.any (eqS n)then decide (nl=0)&&decide (na=0)
   else match(aad 1 n 0 l).bind fun i=>l[i]? with
    |none=>false
    |some x=>decide (na=x.gen.types.length)&&(decide (nl=x.gen.aF.length)||(s.ig&&decide (nl=0))))=true:=by
 unfold EY
 rw[hT.st]
 split
 ·
  split
  ·
   rename_i h;refine⟨(fun e=>nomatch e),fun e=> ?_⟩;simp at e;omega
  ·
   rename_i h;refine⟨fun _=> ?_,fun _=>rfl⟩;simp;omega
 ·
  cases (aad 1 n 0 l).bind fun i=>l[i]? with
  |none=>exact⟨(fun e=>nomatch e),(fun e=>nomatch e)⟩
  |some x=>
   dsimp only
   split
   ·
    rename_i h;refine⟨(fun e=>nomatch e),fun e=> ?_⟩;simp at e;exact absurd e.1 h
   ·
    rename_i h
    have h:na=x.gen.types.length:=Classical.not_not.1 h
    split
    ·
     rename_i h2
     refine⟨(fun e=>nomatch e),fun e=> ?_⟩
     simp at e
     rcases e.2 with h3|h3
     ·
      exact absurd h3 h2.1
     ·
      rcases h2.2 with h4|h4
      ·
       omega
      ·
       rw[h3.1]at h4;cases h4
    ·
     rename_i h2
     refine⟨fun _=> ?_,fun _=>rfl⟩
     rw[decide_eq_true h,Bool.true_and,Bool.or_eq_true,Bool.and_eq_true,decide_eq_true_eq,decide_eq_true_eq]
     by_cases h3:nl=x.gen.aF.length
     ·
      exact .inl h3
     ·
      refine .inr ⟨?_,?_⟩
      ·
       cases h4:s.ig with
       |true=>rfl
       |false=>exact absurd ⟨h3,.inr h4⟩ h2
      ·
       rcases Nat.eq_zero_or_pos nl with h4|h4
       ·
        exact h4
       ·
        exact absurd ⟨h3,.inl h4⟩ h2
mutual
theorem typ_iff (hT:TabL T l) (s:Sc) (hE:s.ig=true∨aaF s.aF ⟨#[]⟩=false):∀(b:Bool) (t:Ty),Aj t→(zy T s b t=[]↔aaH l s b t=true)
 |b,.mk k n lf m ls ar ln cl,h=>by
  rw[Aj]at h
  obtain⟨hk,hs⟩:=h
  by_cases h6:k=6
  ·
   subst h6
   have e1:zy T s b (.mk 6 n lf m ls ar ln cl)=iU T s true ar:=by rw[zy,if_pos rfl]
   have e2:aaH l s b (.mk 6 n lf m ls ar ln cl)=aax l s true ar:=by rw[aaH,if_neg dc,if_neg dc,if_neg dc];rfl
   rw[e1,e2]
   exact aaM hT s hE true ar hs
  by_cases h7:k=7
  ·
   subst h7
   have e1:zy T s b (.mk 7 n lf m ls ar ln cl)=(if lf.size=0∧s.ig=true then[]else jV s.aF lf ln cl)++iU T s true ar:=by rw[zy,if_neg dc,if_pos rfl]
   have e2:aaH l s b (.mk 7 n lf m ls ar ln cl)=if lf.size=0 then aax l s true ar&&s.ig else aax l s true ar&&aaF s.aF lf:=by rw[aaH,if_neg dc,if_pos rfl]
   rw[e1,e2,List.append_eq_nil_iff,aaM hT s hE true ar hs]
   by_cases hz:lf.size=0
   ·
    rw[if_pos hz]
    cases he:s.ig with
    |true=>rw[if_pos ⟨hz,rfl⟩,Bool.and_true];exact⟨fun h=>h.2,fun h=>⟨rfl,h⟩⟩
    |false=>
     rw[if_neg (by rintro⟨-,h⟩;cases h),Bool.and_false,aaJ]
     have hon:lf=⟨#[]⟩:=by
      obtain⟨a⟩:=lf
      have h2:a.size=0:=hz
      rw[Array.eq_empty_of_size_eq_zero h2]
     have h9:aaF s.aF ⟨#[]⟩=false:=hE.resolve_left (by rw[he];decide)
     rw[hon,h9]
     exact⟨(fun h=>nomatch h.1),gJ⟩
   ·
    rw[if_neg hz,if_neg (fun h=>hz h.1),aaJ,Bool.and_eq_true]
    exact⟨fun h=>⟨h.2,h.1⟩,fun h=>⟨h.2,h.1⟩⟩
  by_cases h8:k=8
  ·
   subst h8
   have e1:zy T s b (.mk 8 n lf m ls ar ln cl)=(if b then[]else[(5,ln,cl)])++((if(T.tr n).isSome then[]else[(3,ln,cl)])++(if lf.size=0 then[]else jV s.aF lf ln cl)):=by rw[zy,if_neg dc,if_neg dc,if_pos rfl]
   have e2:aaH l s b (.mk 8 n lf m ls ar ln cl)=(b&&((aad 2 n 0 l).isSome&&(decide (lf.size=0)||aaF s.aF lf))):=by rw[aaH,if_neg dc,if_neg dc,if_pos rfl]
   rw[e1,e2,List.append_eq_nil_iff,List.append_eq_nil_iff,hT.tr]
   cases b with
   |false=>exact⟨(fun h=>nomatch h.1),gJ⟩
   |true=>
    cases (aad 2 n 0 l).isSome with
    |false=>exact⟨(fun h=>nomatch h.2.1),gJ⟩
    |true=>
     by_cases hz:lf.size=0
     ·
      rw[if_pos hz,decide_eq_true hz]
      exact⟨fun _=>rfl,fun _=>⟨rfl,rfl,rfl⟩⟩
     ·
      rw[if_neg hz,decide_eq_false hz,aaJ]
      exact⟨fun h=>h.2.2,fun h=>⟨rfl,rfl,h⟩⟩
  by_cases h5:k=5
  ·
   subst h5
   have e1:zy T s b (.mk 5 n lf m ls ar ln cl)=jP s.aF ln cl ls++(iU T s false ar++EY T s n ls.length ar.length ln cl):=by rw[zy,if_neg dc,if_neg dc,if_neg dc,if_pos rfl]
   have e2:aaH l s b (.mk 5 n lf m ls ar ln cl)=if s.types.any (eqS n)then(aax l s false ar&&ls.all (aaF s.aF))&&(decide (ls.length=0)&&decide (ar.length=0))
    else match(aad 1 n 0 l).bind fun i=>l[i]? with
     |none=>false
     |some x=>decide (ar.length=x.gen.types.length)&&((aax l s false ar&&ls.all (aaF s.aF))&&(decide (ls.length=x.gen.aF.length)||(s.ig&&decide (ls.length=0)))):=by rw[aaH,if_pos rfl];try (split<;>rfl)
   rw[e1,e2,List.append_eq_nil_iff,List.append_eq_nil_iff,aaU,aaM hT s hE false ar hs,namE_iff hT s]
   split
   ·
    generalize (decide (ls.length=0)&&decide (ar.length=0))=q
    rw[Bool.and_eq_true,Bool.and_eq_true]
    exact⟨fun h=>⟨⟨h.2.1,h.1⟩,h.2.2⟩,fun h=>⟨h.1.2,h.1.1,h.2⟩⟩
   ·
    cases (aad 1 n 0 l).bind fun i=>l[i]? with
    |none=>exact⟨(fun h=>nomatch h.2.2),gJ⟩
    |some x=>
     dsimp only
     generalize (decide (ls.length=x.gen.aF.length)||(s.ig&&decide (ls.length=0)))=q
     rw[Bool.and_eq_true,Bool.and_eq_true,Bool.and_eq_true,Bool.and_eq_true]
     exact⟨fun h=>⟨h.2.2.1,⟨h.2.1,h.1⟩,h.2.2.2⟩,fun h=>⟨h.2.1.2,h.2.1.1,h.1,h.2.2⟩⟩
  ·
   have ha:ar=[]:=by
     rcases hk with h|h|h|h
     ·
      exact absurd h h5
     ·
      exact absurd h h6
     ·
      exact absurd h h7
     ·
      exact h
   have e1:zy T s b (.mk k n lf m ls ar ln cl)=[]:=by rw[zy,if_neg h6,if_neg h7,if_neg h8,if_neg h5]
   have e2:aaH l s b (.mk k n lf m ls ar ln cl)=true:=by rw[aaH,if_neg h5,if_neg h7,if_neg h8,ha,aax]
   rw[e1,e2]
   exact⟨fun _=>rfl,fun _=>rfl⟩
theorem aaM (hT:TabL T l) (s:Sc) (hE:s.ig=true∨aaF s.aF ⟨#[]⟩=false):∀(b:Bool) (ts:List Ty),aaG ts→(iU T s b ts=[]↔aax l s b ts=true)
 |b,[],_=>by rw[iU,aax];exact⟨fun _=>rfl,fun _=>rfl⟩
 |b,x::r,h=>by
  rw[aaG]at h
  rw[iU,aax,List.append_eq_nil_iff,Bool.and_eq_true,typ_iff hT s hE b x h.1,aaM hT s hE b r h.2]
end
end
theorem rty_all (l:List It):∀n,RtyOkN l n
 |0=>fun _ _ _ _ _ _ _ _ h=>absurd h (Nat.not_lt_zero _)
 |n+1=>rty_step l n (rty_all l n)
theorem ttyp_any (tb:Nat) (T:Tab) (P:Nat→Prop) (t:Ty) (ut:Value) (aF types:List ByteArray) (a1 a2:Option Addr) (c1 c2:Nat) (w:World) (hT:TabAt Eb tb T w P) (hP:∀k,P k→k<w.heap.size) (hfit:lg t) (ht:Eg w (fun k=>k<w.heap.size) t ut) (h1:cu w (fun k=>k<w.heap.size) aF (.slice a1 aF.length c1)) (h2:cu w (fun k=>k<w.heap.size) types (.slice a2 types.length c2)) (hb:(zy T ⟨aF,types,true⟩ false t).length≤1000000000):Calls Tryz.prog 23 #[.pointer (some ⟨tb,0,none⟩),ut,.slice a1 aF.length c1,.slice a2 types.length c2] w fun e w'=>(∃a c,e=.returned (.slice a (zy T ⟨aF,types,true⟩ false t).length c))∧Step (fun _=>False) w w':=by
 have O3:=ak ht;have HFF:=ak hfit;obtain⟨k0,nm,lf,mu,ls,ar,ln,cl⟩:=t;obtain⟨cs,rfl,hty⟩:=ht;rw[iG]at hty;obtain⟨vv,va,xs,rfl,hnm,hlf,hlz,hrl,hta,hra⟩:=hty;obtain⟨al,TQ,rfl⟩:=hrl.parts;obtain⟨aa,ca,rfl⟩:=hra.parts;obtain⟨w1,hw1⟩:=aU (w.alloc (.cells #[ah k0,aY nm,aY lf,dV mu,.slice al ls.length TQ,.slice aa ar.length ca,ah ln,ah cl] 46));have rU:Hid (Step (fun _=>False) w w1):=by show Step _ _ _;rw[hw1];exact bJ.alloc _
 have HB0:Hid (w1.heap[w.heap.size]?=some (.cells [.int .i64 k0,.string nm,.string lf,.bool mu,.slice al ls.length TQ,.slice aa ar.length ca,.int .i64 ln,.int .i64 cl].toArray 46 (0,0))):=by show _=_;rw[hw1];exact aA _ _
 have HW1:=ak hw1;obtain⟨w2,hw2⟩:=aU (w1.alloc (.cells #[dY tb 0,au] 130));have ou:Hid (Step (fun _=>False) w1 w2):=by show Step _ _ _;rw[hw2];exact bJ.alloc _
 have HB1:Hid (w2.heap[w1.heap.size]?=some (.cells #[dY tb 0,au] 130 (0,0))):=by show _=_;rw[hw2];exact aA _ _
 have HW2:=ak hw2;have HST:Hid (Step (fun _=>False) w w2):=rU.o.trans ou.o;have hlt:w.heap.size<w1.heap.size:=aI HB0.o;have hlt2:w1.heap.size<w2.heap.size:=aI HB1.o;have Z_:Hid (∀k,k<w.heap.size→Out w1.heap.size (.slice none 0 0) w2 k):=fun k hk=>⟨by omega,by omega,fun e=>nomatch e⟩;have HC:Hid (lm w1.heap.size (.pointer (some ⟨tb,0,none⟩)) (TabAt Eb tb T) w2 (.slice none 0 0) []):=
  ⟨HB1.o,⟨rfl,.inl ⟨rfl,rfl⟩⟩,(qA zH tb T).mono (fun k _ hk=>Z_.o k (hP k hk)) ((qA zH tb T).step HST.o (fun _ _ h=>h) hT),qA zH tb T⟩
 have QT:Hid (Eg w2 (Out w1.heap.size (.slice none 0 0) w2) (.mk k0 nm lf mu ls ar ln cl) (.agg #[ah k0,aY nm,aY lf,dV mu,.slice al ls.length TQ,.slice aa ar.length ca,ah ln,ah cl])):=
  nV.mono _ _ (fun k _ hk=>Z_.o k hk) (nV.step _ _ HST.o (fun _ _ h=>h) O3.o)
 have D6:Hid (Qo w2 (Out w1.heap.size (.slice none 0 0) w2) ⟨aF,types,true⟩ (.agg #[.slice a1 aF.length c1,.slice a2 types.length c2,dV true])):=
  ⟨a1,c1,a2,c2,rfl,bG.mono _ _ (fun k _ hk=>Z_.o k hk) (bG.step _ _ HST.o (fun _ _ h=>h) h1),bG.mono _ _ (fun k _ hk=>Z_.o k hk) (bG.step _ _ HST.o (fun _ _ h=>h) h2)⟩
 obtain⟨E,hE⟩:=aU (zy T ⟨aF,types,true⟩ false (.mk k0 nm lf mu ls ar ln cl));have XC:Hid (Calls Tryz.prog 70 #[.pointer (some ⟨w1.heap.size,0,none⟩),.agg #[ah k0,aY nm,aY lf,dV mu,.slice al ls.length TQ,.slice aa ar.length ca,ah ln,ah cl],.agg #[.slice a1 aF.length c1,.slice a2 types.length c2,dV true],.bool false] w2 (lK w1.heap.size (.pointer (some ⟨tb,0,none⟩)) (TabAt Eb tb T) w2 (.slice none 0 0) E)):=by show Calls _ _ _ _ _;rw[hE];exact(zB zH w1.heap.size tb T (SizeOf.sizeOf (Ty.mk k0 nm lf mu ls ar ln cl)+1)).1 _ _ _ _ false [] _ w2 (Nat.lt_succ_self _) HFF.o HC.o QT.o D6.o hb
 rw[←hE];clear hw1 hw2 hT hP hfit h1 h2 hb hE hrl hra hta hnm hlf hlz;go_enter Tryz.func23,Tryz.ntmps23;go_upto_region 1 with fail
 rw[←HW1.o];go_upto_region 4 with fail
 rw[←HW2.o];go_upto_region 4 with fail
 have HL0:=ou.o.keep HB0.o (fun h=>h);go_wp2_with (refine ay rfl 46 (.tmp 5) rfl w.heap.size 0 rfl [.int .i64 k0,.string nm,.string lf,.bool mu,.slice al ls.length TQ,.slice aa ar.length ca,.int .i64 ln,.int .i64 cl] _ (gU HL0) Tryz.underlying46 rfl Tryz.fM ?_);refine XC.o.mono ?_;rintro e w3 ⟨rfl,v3,h3,g3⟩;obtain⟨a3,c3,rfl⟩:=a_ h3.own;have b1:=aj h3.blk 1 _ rfl;have eX:Hid (Step (fun _=>False) w w3):=HST.o.then g3.st (fun q hq e=>by rcases e with e|e<;>first|omega|cases e);clear h3 g3;go_wp2_with fail;go_ret;exact⟨⟨_,_,rfl⟩,eX.o⟩
def aaV (s:List UInt8):Except (Nat×Nat×Nat) Ty:=DW s fun l=>jT qB l 0 0
theorem aaN {s:List UInt8} {l:List Tok} (h:qI s=.ok l):Gd l.length 0 (jT qB l 0 0):=by obtain⟨hl,h0⟩:=zl h;exact(DV hl qB).typ 0 0 h0 (by have:=hl.len;unfold qB;omega)
def typxAt (X w':World) (a:Ty) (cs:List Value):Prop:=iG w' (fun q=>X.heap.size≤q) a cs
theorem aaR {X Y Z:World} {a:Ty} {cs:List Value} {S:Nat→Prop} (hs:Step S Y Z) (hS:∀q,X.heap.size≤q→¬S q) (h:typxAt X Y a cs):typxAt X Z a cs:=iG.step hs hS a cs h
theorem aaO:Enters 106:=fun xs w=>by go_simp
theorem enters_typx:Enters 69:=fun xs w=>by go_simp
def aaX (bo:Nat) (X w':World) (a:Ty):Prop:=∃cs:List Value,w'.heap[bo]?=some (.cells cs.toArray 46 (0,0))∧typxAt X w' a cs
theorem whole1_typx (R:fV) (bb bo:Nat) (r:dO (Ty)) (w:World) (h:bC R w 0 0) (hbb:w.cell? ⟨bb,0,none⟩=some (.func (.func 69) #[] #[])) (hbo:w.heap[bo]?=some (.cells aa1 46 (0,0))) (h0:0<bo) (hne:bo≠R.rb) (hra:∀g o p,R.a=some ⟨g,o,p⟩→g≠bo) (hno:r≠.out) (hc:∀X:World,bC R X 0 0→Calls Tryz.prog 69 #[.agg #[dY R.rb 0]] X (aJ R 0 (TyV X.heap.size) r X)):Calls Tryz.prog 106 #[.agg #[dY R.rb 0],.pointer (some ⟨bb,0,none⟩),.pointer (some ⟨bo,0,none⟩)] w (aZ R 0 bo (aaX bo w) r w):=by
 have hen:=enters_typx;unfold Enters at hen;obtain⟨w1,hw1⟩:=aU (w.alloc (.cells #[dY R.rb 0] 97));have cZ:Hid (Step (fun _=>False) w w1):=by show Step _ _ _;rw[hw1];exact bJ.alloc _
 have jL:Hid (w1.heap[w.heap.size]?=some (.cells #[dY R.rb 0] 97 (0,0))):=by show _=_;rw[hw1];exact aA _ _
 have HW1:=ak hw1;have H1:=ak (h.quiet cZ.o);have p0:=aj jL.o 0 _ rfl;have b0:=cZ.o.cell hbb (fun h=>h);have HBO:=ak (cZ.o.keep hbo (fun h=>h));have hbl:=aI hbo;have HC:=ak (hc w1 H1.o);have eH:=ak hno;clear h hno hw1 hbb hbo hc;go_enter Tryz.func106,Tryz.ntmps106;go_upto_region 1 with fail
 rw[←HW1.o];go_wp2_with fail;refine HC.o.mono ?_;rintro e wx hp;cases r with
 |out=>exact absurd rfl eH.o
 |err c ln col=>obtain⟨rfl,sq⟩:=hp;exact⟨rfl,rfl,((cZ.o.mono fe).trans sq).mono il⟩
 |ok y jx=>
  obtain⟨⟨v,rfl,cs,rfl,hy⟩,hrx,hsx⟩:=hp;have HY:=ak hy;have dS:=ak hy.one;obtain⟨k0,gX,lf0,gY,a1,n1,c1,a2,n2,c2,l0,c0,rfl⟩:=hy.parts;have u_:=ak hrx;have pF:=ak hsx;have U0:=ak (hsx.keep HBO.o hne);clear hy hrx hsx p0 b0
  go_wp2_with (refine aC (w:=wx) rfl 46 (.tmp 2) (.tmp 6) rfl bo 0 46 _ [.int .i64 k0,.string gX,.string lf0,.bool gY,.slice a1 n1 c1,.slice a2 n2 c2,.int .i64 l0,.int .i64 c0] rfl rfl U0.o Tryz.fM (Nat.le_of_eq rfl) dS.o ?_
               intro w6 hb6 vF)
  have Jg:w6.heap[bo]?=some (.cells [Value.int .i64 k0,aY gX,aY lf0,dV gY,.slice a1 n1 c1,.slice a2 n2 c2,ah l0,ah c0].toArray 46 (0,0)):=hb6;refine bodyPost_end (results_none rfl _ _ _) rfl ?_;have hz1:=cZ.o.size;refine aZ.dK rfl rfl ⟨_,Jg,iG.mono oi _ _ (iG.step vF oi _ _ HY.o)⟩ (u_.o.apart vF h0 hne hra) ?_;exact(((cZ.o.mono fe).trans pF.o).mono il).trans (vF.mono ir)
def typxTup (r:Except (Nat×Nat×Nat) (Ty)) (w:World) (e:Ending) (w':World):Prop:=
 (match r with
  | .ok a=>∃v,e=.returned (.tuple #[v,.agg #[ah 0,ah 0,ah 0]])∧Eg w' (fun q=>w.heap.size≤q) a v
  | .error (c,ln,col)=>e=.returned (.tuple #[.agg #[ah 0,bP,bP,aO,au,au,ah 0,ah 0],.agg #[ah c,ah ln,ah col]]))∧Step (fun _=>False) w w'
theorem whole_typx (s:ByteArray) (w:World) (m:Int) (hm:w.cell? ⟨0,0,none⟩=some (.int .i64 m)):Calls Tryz.prog 68 #[.string s,.func (.func 69) #[] #[]] w (typxTup (aaV s.data.toList) w):=by
 have hmf:∀(fn:Fn) (first cap:Array Value) (w:World),(Instr.makeFunc fn first cap).run Tryz.prog w=.ok (.func fn first cap) w:=fun _ _ _ _=>rfl;obtain⟨w1,hw1⟩:=aU (((((w.alloc (.cells #[.func (.func 69) #[] #[]] 134)).alloc (.cells aa1 46)).alloc (.cells #[ah 0,ah 0,ah 0] 27)).alloc (.cells aa1 46)).alloc (.cells aa1 46));have cZ:Hid (Step (fun _=>False) w w1):=by show Step _ _ _;rw[hw1];exact(((((bJ.alloc _).alloc _).alloc _).alloc _).alloc _)
 have hpos:0<w.heap.size:=by
  rcases Nat.eq_zero_or_pos w.heap.size with h|h
  ·exact absurd hm (by simp[World.cell?,Array.getElem?_eq_none (show w.heap.size≤0 by omega)])
  ·exact h
 have HA0:Hid (w1.heap[w.heap.size]?=some (.cells #[.func (.func 69) #[] #[]] 134 (0,0))):=by show _=_;rw[hw1];exact aN (aN (aN (aN ((show(w.alloc (.cells #[.func (.func 69) #[] #[]] 134)).heap[w.heap.size]?=some (.cells #[.func (.func 69) #[] #[]] 134 (0,0)) by have h:=aA w (.cells #[.func (.func 69) #[] #[]] 134);simpa using h)))))
 have HA1:Hid (w1.heap[w.heap.size+1]?=some (.cells aa1 46 (0,0))):=by show _=_;rw[hw1];exact aN (aN (aN ((show((w.alloc (.cells #[.func (.func 69) #[] #[]] 134)).alloc (.cells aa1 46)).heap[w.heap.size+1]?=some (.cells aa1 46 (0,0)) by have h:=aA (w.alloc (.cells #[.func (.func 69) #[] #[]] 134)) (.cells aa1 46);simpa using h))))
 have HA2:Hid (w1.heap[w.heap.size+1+1]?=some (.cells #[ah 0,ah 0,ah 0] 27 (0,0))):=by show _=_;rw[hw1];exact aN (aN ((show(((w.alloc (.cells #[.func (.func 69) #[] #[]] 134)).alloc (.cells aa1 46)).alloc (.cells #[ah 0,ah 0,ah 0] 27)).heap[w.heap.size+1+1]?=some (.cells #[ah 0,ah 0,ah 0] 27 (0,0)) by have h:=aA ((w.alloc (.cells #[.func (.func 69) #[] #[]] 134)).alloc (.cells aa1 46)) (.cells #[ah 0,ah 0,ah 0] 27);simpa using h)))
 have HA3:Hid (w1.heap[w.heap.size+1+1+1]?=some (.cells aa1 46 (0,0))):=by show _=_;rw[hw1];exact aN ((show((((w.alloc (.cells #[.func (.func 69) #[] #[]] 134)).alloc (.cells aa1 46)).alloc (.cells #[ah 0,ah 0,ah 0] 27)).alloc (.cells aa1 46)).heap[w.heap.size+1+1+1]?=some (.cells aa1 46 (0,0)) by have h:=aA (((w.alloc (.cells #[.func (.func 69) #[] #[]] 134)).alloc (.cells aa1 46)).alloc (.cells #[ah 0,ah 0,ah 0] 27)) (.cells aa1 46);simpa using h))
 have HA4:Hid (w1.heap[w.heap.size+1+1+1+1]?=some (.cells aa1 46 (0,0))):=by show _=_;rw[hw1];exact(show(((((w.alloc (.cells #[.func (.func 69) #[] #[]] 134)).alloc (.cells aa1 46)).alloc (.cells #[ah 0,ah 0,ah 0] 27)).alloc (.cells aa1 46)).alloc (.cells aa1 46)).heap[w.heap.size+1+1+1+1]?=some (.cells aa1 46 (0,0)) by have h:=aA ((((w.alloc (.cells #[.func (.func 69) #[] #[]] 134)).alloc (.cells aa1 46)).alloc (.cells #[ah 0,ah 0,ah 0] 27)).alloc (.cells aa1 46)) (.cells aa1 46);simpa using h)
 have HW1:=ak hw1;have EX:=ak (cZ.o.cell hm (fun h=>h));have hn1:=aI HA4.o;have hsz:=cZ.o.size
 have LD:=ak (FW s 106 [.pointer (some ⟨w.heap.size,0,none⟩),.pointer (some ⟨w.heap.size+1+1+1,0,none⟩)] (w.heap.size+1+1+1) (fun l=>jT qB l 0 0) (aaX (w.heap.size+1+1+1)) w1 m EX.o (aI HA3.o) aaO (fun l hl=>(aaN hl).ne)
  (fun X Y Z a h1 h2 h3=>by
   obtain⟨cs,c1,c2⟩:=h3
   exact⟨cs,h2.keep c1 (fun e=>by have:=aI HA3.o;omega),aaR h2 oi c2⟩)
  (fun R X hlx hl h hrb hra hs=>whole1_typx R _ _ _ X h (aj (hs.keep HA0.o (fun h=>h)) 0 _ rfl) (hs.keep HA3.o (fun h=>h)) om (by have:=aI HA3.o;omega) (fun g o p e e2=>by have:=hra g o p e;have:=aI HA3.o;omega) ((aaN hlx).ne) (fun X hX=>(GI qB).1 R X 0 0 hl hX dc ((aaN hlx).ne))))
 obtain⟨r,hr⟩:=aU (aaV s.data.toList);have hrd:r=DW s.data.toList (fun l=>jT qB l 0 0):=hr;have NC:Hid (∀c ln col,r=.error (c,ln,col)→c≠0):=by show∀c ln col,_;intro c ln col e;rw[hr]at e;exact DX (fun l c ln col hl he=>(aaN hl).code he) e
 rw[←hrd]at LD;rw[←hr];clear hm hw1 hr hrd;go_enter Tryz.func68,Tryz.ntmps68;go_upto_region 2 with fail
 rw[←HW1.o];go_wp2_with fail;refine LD.o.mono ?_;rintro e w2 hp;cases r with
 |error q=>
  obtain⟨c,ln,col⟩:=q;obtain⟨rfl,h2⟩:e=.returned (.agg #[ah c,ah ln,ah col])∧Step (·=w.heap.size+1+1+1) w1 w2:=hp;have hc0:=NC.o c ln col rfl;have bc:((c:Int)==0)=false:=by rw[beq_eq_false_iff_ne];omega
  obtain⟨w3,hw3⟩:=aU (w2.alloc (.cells #[ah c,ah ln,ah col] 27));have eX:Hid (Step (·=w.heap.size+1+1+1) w1 w3):=by show Step _ _ _;rw[hw3];exact h2.alloc _
  have kU:Hid (w3.heap[w2.heap.size]?=some (.cells #[ah c,ah ln,ah col] 27 (0,0))):=by show _=_;rw[hw3];exact aA _ _
  have HW3:=ak hw3;have ND:=ak (eX.o.keep HA2.o om);obtain⟨be,hbe⟩:=aU w2.heap.size;have hbe1:w1.heap.size≤be:=by rw[hbe];exact h2.size
  rw[←hbe]at kU;obtain⟨⟨g0,g1,g2⟩,-⟩:=wE kU.o;have Ac:Hid (Step (fun _=>False) w w3):=cZ.o.then eX.o oi;clear hc0 h2 hw3;have Qq:=ak (eX.o.keep HA1.o om);have Pz:=ak (eX.o.keep HA4.o om);go_upto_region 3 with fail
  rw[←HW3.o,←hbe];clear hbe;go_upto_region 4 with fail
  clear g0 g1 g2;obtain⟨Jx,hJx⟩:∃Jx:(Nat→Bool)→(Nat→Value)→World→Prop,Jx=fun L V X=>(L 0=true→V 0=.agg #[ah 0,bP,bP,aO,au,au,ah 0,ah 0])∧(L 1=true→V 1=.agg #[ah c,ah ln,ah col])∧X.heap[w.heap.size+1]?=some (.cells aa1 46 (0,0))∧X.heap[w.heap.size+1+1+1+1]?=some (.cells aa1 46 (0,0))∧X.heap[be]?=some (.cells #[ah c,ah ln,ah col] 27 (0,0))∧X.heap[w.heap.size+1+1]?=some (.cells (cond (L 3) #[.int .i64 c,.int .i64 ln,.int .i64 col] #[.int .i64 0,.int .i64 0,.int .i64 0]) 27 (0,0))∧Step (fun _=>False) w X:=⟨_,rfl⟩;have dL:=ak hJx;clear hJx;refine bH kr Jx 4 rfl kr kr kr kr ?h0 ?hs ?hdone;case h0=>rw[dL.o];exact⟨gJ,gJ,og Qq.o,og Pz.o,og kU.o,og ND.o,Ac.o.drew⟩
  case hs=>
   refine⟨?_,?_,?_,?_,trivial⟩
   all_goals (intro L V X a ev dn hdf hL ax hJ;rw[dL.o]at hJ)
   ·obtain⟨j0,j1,j2,j3,j4,j5,j6⟩:=hJ;have o7:=dn 7 rfl;change a.tmps[7]?.getD undef=.pointer (some ⟨w.heap.size+1+1+1+1,0,none⟩)at o7;refine wp_load_mid 46 (.tmp 7) rfl (w.heap.size+1+1+1+1) 0 (by rw[bF];exact o7) [Value.int .i64 0,bP,bP,aO,au,au,ah 0,ah 0] _ (fun jj v hv=>by rw[Nat.zero_add];exact aj j3 jj v oJ) Tryz.underlying46 rfl Tryz.fM ?_;exact⟨_,rfl,by rw[dL.o];exact⟨fun _=>rfl,j1,j2,j3,j4,j5,j6⟩⟩
   ·obtain⟨j0,j1,j2,j3,j4,j5,j6⟩:=hJ;have o8:=dn 8 rfl;change a.tmps[8]?.getD undef=.pointer (some ⟨be,0,none⟩)at o8;refine wp_load_mid 27 (.tmp 8) rfl be 0 (by rw[bF];exact o8) [Value.int .i64 c,ah ln,ah col] _ (fun jj v hv=>by rw[Nat.zero_add];exact aj j4 jj v oJ) Tryz.underlying27 rfl Tryz.iY ?_;exact⟨_,rfl,by rw[dL.o];exact⟨j0,fun _=>rfl,j2,j3,j4,j5,j6⟩⟩
   ·obtain⟨j0,j1,j2,j3,j4,j5,j6⟩:=hJ;have o4:=dn 4 rfl;change a.tmps[4]?.getD undef=.pointer (some ⟨w.heap.size+1,0,none⟩)at o4;have e15:=(ev 0 15 rfl (ax 0 rfl)).trans (j0 (ax 0 rfl));refine dM 46 (.tmp 4) (.tmp 15) rfl (w.heap.size+1) 0 46 _ [.int .i64 0,.string ⟨#[]⟩,.string ⟨#[]⟩,.bool false,.slice none 0 0,.slice none 0 0,.int .i64 0,.int .i64 0] (by rw[bF];exact o4) (by rw[bF];exact e15) j2 Tryz.fM (Nat.le_of_eq rfl) (aP rfl) ?_;intro w9 gu hs9;exact⟨undef,rfl,by rw[dL.o];exact⟨j0,j1,gu,hs9.keep j3 om,hs9.keep j4 om,hs9.keep j5 om,j6.then hs9 oi⟩⟩
   ·obtain⟨j0,j1,j2,j3,j4,j5,j6⟩:=hJ;rw[hL]at j5;have o5:=dn 5 rfl;change a.tmps[5]?.getD undef=.pointer (some ⟨w.heap.size+1+1,0,none⟩)at o5;have e16:=(ev 1 16 rfl (ax 1 rfl)).trans (j1 (ax 1 rfl));refine dM 27 (.tmp 5) (.tmp 16) rfl (w.heap.size+1+1) 0 27 _ [.int .i64 c,.int .i64 ln,.int .i64 col] (by rw[bF];exact o5) (by rw[bF];exact e16) j5 Tryz.iY (Nat.le_of_eq rfl) (aP rfl) ?_;intro w9 gu hs9;exact⟨undef,rfl,by rw[dL.o];exact⟨j0,j1,hs9.keep j2 om,hs9.keep j3 om,hs9.keep j4 om,gu,j6.then hs9 oi⟩⟩
  case hdone=>intro L V X hall hJ;rw[dL.o]at hJ;obtain⟨j0,j1,j2,j3,j4,j5,j6⟩:=hJ;rw[hall 3 dc]at j5;have HD2:=ak j2;have HD5:Hid (X.heap[w.heap.size+1+1]?=some (.cells [Value.int .i64 c,ah ln,ah col].toArray 27 (0,0))):=j5;have HD6:=ak j6;clear hall j0 j1 j2 j3 j4 j5 j6;rw[show List.range 4=[0,1,2,3] from rfl];simp only[kC,fU,List.getElem?_toArray,List.getElem?_cons_zero,List.getElem?_cons_succ,Option.bind_some,Act.put,List.setIfInBounds_toArray,List.set_cons_zero,List.set_cons_succ];go_wp2_with fail;refine bodyPost_ret (rq rfl _ (w.heap.size+1) (w.heap.size+1+1) 46 27 [Value.int .i64 0,bP,bP,aO,au,au,ah 0,ah 0] [Value.int .i64 c,ah ln,ah col] _ _ rfl rfl HD2.o Tryz.underlying46 rfl Tryz.fM HD5.o Tryz.underlying27 rfl Tryz.iY) rfl ?_;exact⟨rfl,HD6.o⟩
 |ok y=>
  obtain⟨rfl,⟨X0,hX0,hleft⟩,h2⟩:e=.returned (.agg #[ah 0,ah 0,ah 0])∧(∃X:World,w1.heap.size≤X.heap.size∧aaX (w.heap.size+1+1+1) X w2 y)∧Step (·=w.heap.size+1+1+1) w1 w2:=hp;obtain⟨w3,hw3⟩:=aU (w2.alloc (.cells #[ah 0,ah 0,ah 0] 27));have iM:Hid (Step (fun _=>False) w2 w3):=by show Step _ _ _;rw[hw3];exact bJ.alloc _
  have eX:Hid (Step (·=w.heap.size+1+1+1) w1 w3):=by show Step _ _ _;rw[hw3];exact h2.alloc _
  have kU:Hid (w3.heap[w2.heap.size]?=some (.cells #[ah 0,ah 0,ah 0] 27 (0,0))):=by show _=_;rw[hw3];exact aA _ _
  have HW3:=ak hw3;have ND:=ak (eX.o.keep HA2.o om);obtain⟨be,hbe⟩:=aU w2.heap.size;rw[←hbe]at kU;obtain⟨⟨g0,g1,g2⟩,-⟩:=wE kU.o;have Ac:Hid (Step (fun _=>False) w w3):=cZ.o.then eX.o oi;clear h2 hw3;obtain⟨cs,hcb,hat⟩:=hleft;obtain⟨k0,gX,lf0,gY,a1,n1,c1,a2,n2,c2,l0,c0,rfl⟩:=iG.parts hat;have HAT:=ak (aaR iM.o (fun _ _ h=>h) hat);have Ah:=ak (iM.o.keep hcb (fun h=>h));have Qq:=ak (eX.o.keep HA1.o om);have iH:Hid (∀(jj:Nat) v,[Value.int .i64 k0,aY gX,aY lf0,dV gY,.slice a1 n1 c1,.slice a2 n2 c2,ah l0,ah c0][jj]?=some v→w3.cell? ⟨w.heap.size+1+1+1,0+jj,none⟩=some v):=by show∀jj v,_;intro jj v hv;rw[Nat.zero_add];exact aj Ah.o jj v oJ
  have dS:Hid (∀u∈[Value.int .i64 k0,aY gX,aY lf0,dV gY,.slice a1 n1 c1,.slice a2 n2 c2,ah l0,ah c0],u.oneCell'=true):=aP rfl;clear hat hcb;go_upto_region 3 with fail
  rw[←HW3.o,←hbe];clear hbe;go_upto_region 5 with fail
  clear g0 g1 g2;have er0:=ND.o;go_wp2_with (first
   |(refine ay rfl 46 (.tmp 6) rfl (w.heap.size+1+1+1) 0 rfl [Value.int .i64 k0,aY gX,aY lf0,dV gY,.slice a1 n1 c1,.slice a2 n2 c2,ah l0,ah c0] _ iH.o Tryz.underlying46 rfl Tryz.fM ?_)
   |(refine aC (w:=w3) rfl 46 (.tmp 4) (.tmp 17) rfl (w.heap.size+1) 0 46 _ [Value.int .i64 k0,aY gX,aY lf0,dV gY,.slice a1 n1 c1,.slice a2 n2 c2,ah l0,ah c0] rfl rfl Qq.o Tryz.fM (Nat.le_of_eq rfl) dS.o ?_;intro w4 hb4 uM;have TF:=uM.keep ND.o om;clear er0)
   |(refine aC (w:=w4) rfl 27 (.tmp 5) (.tmp 18) rfl (w.heap.size+1+1) 0 27 _ [Value.int .i64 0,ah 0,ah 0] rfl rfl TF Tryz.iY (Nat.le_of_eq rfl) (aP rfl) ?_;intro w5 hb5 hst5))
  have Gt:w5.heap[w.heap.size+1]?=some (.cells [Value.int .i64 k0,aY gX,aY lf0,dV gY,.slice a1 n1 c1,.slice a2 n2 c2,ah l0,ah c0].toArray 46 (0,0)):=hst5.keep hb4 om;have xN:w5.heap[w.heap.size+1+1]?=some (.cells [Value.int .i64 0,ah 0,ah 0].toArray 27 (0,0)):=hb5;refine bodyPost_ret (rq rfl _ (w.heap.size+1) (w.heap.size+1+1) 46 27 [Value.int .i64 k0,aY gX,aY lf0,dV gY,.slice a1 n1 c1,.slice a2 n2 c2,ah l0,ah c0] [Value.int .i64 0,ah 0,ah 0] _ _ rfl rfl Gt Tryz.underlying46 rfl Tryz.fM xN Tryz.underlying27 rfl Tryz.iY) rfl ?_;exact⟨⟨_,rfl,_,rfl,iG.mono oi _ _ (iG.step hst5 oi _ _ (iG.step uM oi _ _ HAT.o))⟩,(Ac.o.then uM oi).then hst5 oi⟩
theorem typx_text (s:ByteArray) (w:World) (m:Int) (hm:w.cell? ⟨0,0,none⟩=some (.int .i64 m)):Calls Tryz.prog 22 #[.string s] w (typxTup (aaV s.data.toList) w):=by
 obtain⟨w1,hw1⟩:=aU ((w.alloc (.cells aa1 46)).alloc (.cells #[ah 0,ah 0,ah 0] 27));have cZ:Hid (Step (fun _=>False) w w1):=by show Step _ _ _;rw[hw1];exact(bJ.alloc _).alloc _
 have jL:Hid (w1.heap[w.heap.size]?=some (.cells aa1 46 (0,0))):=by show _=_;rw[hw1];exact aN (aA _ _)
 have jW:Hid (w1.heap[w.heap.size+1]?=some (.cells #[ah 0,ah 0,ah 0] 27 (0,0))):=by show _=_;rw[hw1];exact dX _ _ _
 have HW1:=ak hw1;have LD:=ak (whole_typx s w1 m (cZ.o.cell hm (fun h=>h)));have hn1:=aI jW.o;have hsz:=cZ.o.size;obtain⟨r,hr⟩:=aU (aaV s.data.toList);rw[←hr]at LD⊢;clear hm hw1 hr;go_enter Tryz.func22,Tryz.ntmps22;go_upto_region 1 with fail
 rw[←HW1.o];go_wp2_with fail;refine LD.o.mono ?_;rintro e w2 ⟨hp,h2⟩;have HS2:=ak h2;have Qq:=ak (h2.keep jL.o (fun h=>h));have ND:=ak (h2.keep jW.o (fun h=>h));have hz2:=h2.size;cases r with
 |error q=>
  obtain⟨c,ln,col⟩:=q;have hp2:e=.returned (.tuple #[.agg #[ah 0,bP,bP,aO,au,au,ah 0,ah 0],.agg #[ah c,ah ln,ah col]]):=hp;subst hp2;clear hp h2;go_wp2_with (first
   |(refine aC (w:=w2) rfl 46 (.tmp 2) (.tmp 6) rfl (w.heap.size) 0 46 _ [.int .i64 0,.string ⟨#[]⟩,.string ⟨#[]⟩,.bool false,.slice none 0 0,.slice none 0 0,.int .i64 0,.int .i64 0] rfl rfl Qq.o Tryz.fM (Nat.le_of_eq rfl) (aP rfl) ?_;intro w4 hb4 uM;have TF:=uM.keep ND.o om)
   |(refine aC (w:=w4) rfl 27 (.tmp 3) (.tmp 7) rfl (w.heap.size+1) 0 27 _ [.int .i64 c,.int .i64 ln,.int .i64 col] rfl rfl TF Tryz.iY (Nat.le_of_eq rfl) (aP rfl) ?_;intro w5 hb5 hst5))
  have Gt:w5.heap[w.heap.size]?=some (.cells [Value.int .i64 0,bP,bP,aO,au,au,ah 0,ah 0].toArray 46 (0,0)):=hst5.keep hb4 om;have xN:w5.heap[w.heap.size+1]?=some (.cells [Value.int .i64 c,ah ln,ah col].toArray 27 (0,0)):=hb5;refine bodyPost_ret (rq rfl _ (w.heap.size) (w.heap.size+1) 46 27 [Value.int .i64 0,bP,bP,aO,au,au,ah 0,ah 0] [Value.int .i64 c,ah ln,ah col] _ _ rfl rfl Gt Tryz.underlying46 rfl Tryz.fM xN Tryz.underlying27 rfl Tryz.iY) rfl ?_;exact⟨rfl,((cZ.o.trans HS2.o).then uM oi).then hst5 oi⟩
 |ok x=>
  obtain⟨v,rfl,cs,rfl,hy⟩:∃v,e=.returned (.tuple #[v,.agg #[ah 0,ah 0,ah 0]])∧Eg w2 (fun q=>w1.heap.size≤q) x v:=hp;obtain⟨k0,gX,lf0,gY,a1,n1,c1,a2,n2,c2,l0,c0,rfl⟩:=hy.parts;have HY:=ak hy;clear hy h2;go_wp2_with (first
   |(refine aC (w:=w2) rfl 46 (.tmp 2) (.tmp 6) rfl (w.heap.size) 0 46 _ [.int .i64 k0,.string gX,.string lf0,.bool gY,.slice a1 n1 c1,.slice a2 n2 c2,.int .i64 l0,.int .i64 c0] rfl rfl Qq.o Tryz.fM (Nat.le_of_eq rfl) (aP rfl) ?_;intro w4 hb4 uM;have TF:=uM.keep ND.o om)
   |(refine aC (w:=w4) rfl 27 (.tmp 3) (.tmp 7) rfl (w.heap.size+1) 0 27 _ [.int .i64 0,.int .i64 0,.int .i64 0] rfl rfl TF Tryz.iY (Nat.le_of_eq rfl) (aP rfl) ?_;intro w5 hb5 hst5))
  have Gt:w5.heap[w.heap.size]?=some (.cells [Value.int .i64 k0,aY gX,aY lf0,dV gY,.slice a1 n1 c1,.slice a2 n2 c2,ah l0,ah c0].toArray 46 (0,0)):=hst5.keep hb4 om;have xN:w5.heap[w.heap.size+1]?=some (.cells [Value.int .i64 0,ah 0,ah 0].toArray 27 (0,0)):=hb5;refine bodyPost_ret (rq rfl _ (w.heap.size) (w.heap.size+1) 46 27 [Value.int .i64 k0,aY gX,aY lf0,dV gY,.slice a1 n1 c1,.slice a2 n2 c2,ah l0,ah c0] [Value.int .i64 0,ah 0,ah 0] _ _ rfl rfl Gt Tryz.underlying46 rfl Tryz.fM xN Tryz.underlying27 rfl Tryz.iY) rfl ?_;exact⟨⟨_,rfl,_,rfl,iG.mono oi _ _ (iG.step hst5 oi _ _ (iG.step uM oi _ _ HY.o))⟩,((cZ.o.trans HS2.o).then uM oi).then hst5 oi⟩
theorem typx_b {s:List UInt8} {a:Ty} (h:aaV s=.ok a):UW a∧Aj a:=by
 unfold aaV DW at h;split at h
 ·cases h
 ·rename_i toks he;split at h
  ·rename_i a1 j hr;cases h;unfold H7 at hr;split at hr
   ·rename_i a2 j2 hr2;split at hr
    ·cases hr;exact⟨ty_h (zl he).1 _ _ _ _ _ hr2,(ty_s _).1 _ _ _ _ hr2⟩
    ·cases hr
   ·cases hr
   ·cases hr
  ·cases h
  ·cases h
structure NtJ (vals:List (Option Value)) (n:Nat) (w:World) (L:Nat→Bool) (V:Nat→Value) (X:World):Prop where
 d:∀(i:Nat) v,vals[i]?=some (some v)→L i=true→V i=v
 st:Step (fun _=>False) w X
 r:L 4=true→∃a c,V 4=.slice a n c
theorem NtJ.zero {vals:List (Option Value)} {n:Nat} {w X:World} {V:Nat→Value} (h:Step (fun _=>False) w X):NtJ vals n w (fun _=>false) V X:=⟨(fun _ _ _ h=>nomatch h),h,gJ⟩
theorem NtJ.step {vals:List (Option Value)} {n:Nat} {w X X':World} {L:Nat→Bool} {V:Nat→Value} (h:NtJ vals n w L V X) (hs:Step (fun _=>False) X X'):NtJ vals n w L V X':=⟨h.d,h.st.trans hs,h.r⟩
theorem NtJ.up {vals:List (Option Value)} {n:Nat} {w X:World} {L:Nat→Bool} {V:Nat→Value} (h:NtJ vals n w L V X) (i:Nat) (v:Value) (hv:∀u,vals[i]?=some (some u)→v=u) (h4:i=4→∃a c,v=.slice a n c):NtJ vals n w (dP L i) (iW V i v) X:=by
 refine⟨fun j u hu hL=> ?_,h.st,fun hL=> ?_⟩
 ·unfold dP iW at*;by_cases e:j=i
  ·subst e;rw[if_pos rfl];exact hv u hu
  ·rw[if_neg e]at hL⊢;exact h.d j u hu hL
 ·unfold dP iW at*;by_cases e:4=i
  ·rw[if_pos e];exact h4 e.symm
  ·rw[if_neg e]at hL⊢;exact h.r hL
def lfA:List ByteArray:=[⟨#[39,97]⟩,⟨#[39,98]⟩]
def tyA:List ByteArray:=[⟨#[84]⟩,⟨#[85]⟩]
theorem aaW (s typ:ByteArray) (w:World) (m:Int) (hm:w.cell? ⟨0,0,none⟩=some (.int .i64 m)):Calls Tryz.prog 7 #[.string s,.string typ] w fun e w'=>e=.returned (.bool true)∧Step (fun _=>False) w w':=by
 have wX:=ak (Ee s w m hm);have Dt:Hid (∀X,Step (fun _=>False) w X→Calls Tryz.prog 19 #[] X fun e w'=>e=.returned (.bool true)∧Step (fun _=>False) X w'):=by show∀X,_;intro X hX;exact Qi X m (hX.cell hm (fun h=>h))
 obtain⟨r,hr⟩:=aU (aaV typ.data.toList)
 have HTX:Hid (∀X,Step (fun _=>False) w X→Calls Tryz.prog 22 #[.string typ] X fun e w'=>(∃(ct:List Value) (c ln col:Nat),e=.returned (.tuple #[.agg ct.toArray,.agg #[ah c,ah ln,ah col]])∧ct.length=8∧(∀u∈ct,u.oneCell'=true)∧
   ((c=0∧ln=0∧col=0∧∃a,r=.ok a∧iG w' (fun _=>True) a ct)∨c≠0))∧Step (fun _=>False) X w'):=by
  show∀X,_
  intro X hX
  refine(typx_text typ X m (hX.cell hm (fun h=>h))).mono ?_
  rw[←hr]
  rintro e w' ⟨hp,h2⟩
  refine⟨?_,h2⟩
  cases hrr:r with
  |error q=>
   obtain⟨c,ln,col⟩:=q
   rw[hrr]at hp
   have hp:e=.returned (.tuple #[.agg #[ah 0,bP,bP,aO,au,au,ah 0,ah 0],.agg #[ah c,ah ln,ah col]]):=hp
   exact⟨[.int .i64 0,.string ⟨#[]⟩,.string ⟨#[]⟩,.bool false,.slice none 0 0,.slice none 0 0,.int .i64 0,.int .i64 0],c,ln,col,hp,rfl,aP rfl,.inr (DX (fun l c ln col hl he=>(aaN hl).code he) (hr.symm.trans hrr))⟩
  |ok a=>
   rw[hrr]at hp
   obtain⟨v,he,cs,hv,hy⟩:∃v,e=.returned (.tuple #[v,.agg #[ah 0,ah 0,ah 0]])∧Eg w' (fun q=>X.heap.size≤q) a v:=hp
   exact⟨cs,0,0,0,(by rw[he,hv];rfl),hy.len,hy.one,.inl ⟨rfl,rfl,rfl,a,rfl,iG.mono (fun _ _ _=>trivial) _ _ hy⟩⟩
 have HTB:Hid (∀a,r=.ok a→UW a∧Aj a):=by show∀a,_;intro a h;exact typx_b (hr.symm.trans h)
 obtain⟨R,hR⟩:=aU (zJ s);have HB:Hid (∀l,R=some l→l.length≤60∧∀x∈l,Fe x):=by show∀l,_;intro l e;exact NY (hR.symm.trans e)
 rw[←hR]at wX;clear hm hR hr;go_enter Tryz.func7,Tryz.ntmps7;go_upto_region 1 with fail
 go_wp2_with fail;refine wX.o.mono ?_;cases R with
 |none=>
  rintro e w1 ⟨he,h1⟩;have he:e=.returned (.tuple #[au,.pointer none,au,aO]):=he;subst he;have cZ:=ak h1;clear h1 HB;go_upto_region 2 with fail
  go_wp2_with fail;refine(HTX.o _ cZ.o).mono ?_;rintro e w2 ⟨⟨ct,c,ln,col,rfl,hl8,hon,-⟩,h2⟩;have HL8:=ak hl8;have DL:=ak hon;have HS2:=ak (cZ.o.trans h2);have pG:=ak h2;clear h2 hl8 hon;go_upto_region 3 with(first
   |(refine aC (w:=(w2.alloc (.cells aa1 46)).alloc (.cells #[ah 0,ah 0,ah 0] 27)) rfl 46 (.tmp 9) (.tmp 23) rfl w2.heap.size 0 46 _ ct rfl rfl (aN (aA _ _)) (by rw[HL8.o];exact Tryz.fM) (by rw[HL8.o];decide) DL.o ?_;intro w4 hb4 uM;have hq4:w4.heap[w2.heap.size+1]?=some (.cells #[ah 0,ah 0,ah 0] 27 (0,0)):=uM.keep (dX _ _ _) om)
   |(refine aC (w:=w4) rfl 27 (.tmp 10) (.tmp 24) rfl (w2.heap.size+1) 0 27 _ [.int .i64 c,.int .i64 ln,.int .i64 col] rfl rfl hq4 Tryz.iY (Nat.le_of_eq rfl) (aP rfl) ?_;intro w5 hb5 hst5))
  have HS24:Hid (Step (fun _=>False) w2 w4):=((bJ.alloc _).alloc _).then uM oi;have HB4:Hid (w4.heap[w2.heap.size]?=some (.cells ct.toArray 46 (0,0))):=by show _=_;rw[hb4];simp;have:=HL8.o;omega
  have HBW:Hid (w5.heap[w2.heap.size]?=some (.cells ct.toArray 46 (0,0))):=hst5.keep HB4.o om;have zX:Hid (w5.heap[w2.heap.size+1]?=some (.cells #[ah c,ah ln,ah col] 27 (0,0))):=hb5;have HS25:Hid (Step (fun _=>False) w2 w5):=HS24.o.then hst5 oi;have HSW:Hid (Step (fun _=>False) w w5):=HS2.o.trans HS25.o;clear hb4 uM hb5 hst5 hq4;go_wp2_with fail;refine(Dt.o _ HSW.o).mono ?_;rintro e w6 ⟨rfl,h6⟩;have wB:=ak (HSW.o.trans h6);clear h6;go_wp2_with fail;refine(Dt.o _ wB.o).mono ?_;rintro e w7 ⟨rfl,h7⟩;have U1:=ak (wB.o.trans h7);clear h7;go_wp2_with fail;go_ret;exact⟨rfl,U1.o⟩
 |some l=>
  rintro e w1 ⟨⟨cb,tb,vl,v,rfl,-,-,hls,hck⟩,h1⟩;have hb:=HB.o l rfl;obtain⟨al,cl,rfl⟩:=hls.parts;obtain⟨av,cv,rfl⟩:=a_ hck.own;obtain⟨ne,hne⟩:=aU (nO nP l).length;rw[←hne]at hck⊢;obtain⟨nl,hnl⟩:=aU l.length;have Yp:=ak hnl;have Qm:=ak hls;have HCK:=ak hck;have cZ:=ak h1;have HB2:=ak hb;rw[←hnl];clear h1 hls hck hb HB hne hnl;go_upto_region 2 with fail
  go_wp2_with fail;refine(HTX.o _ cZ.o).mono ?_;rintro e w2 ⟨⟨ct,c,ln,col,rfl,hl8,hon,hcs⟩,h2⟩;have HCS:=ak hcs;clear hcs;have HL8:=ak hl8;have DL:=ak hon;have HS2:=ak (cZ.o.trans h2);have pG:=ak h2;clear h2 hl8 hon;go_upto_region 3 with(first
   |(refine aC (w:=(w2.alloc (.cells aa1 46)).alloc (.cells #[ah 0,ah 0,ah 0] 27)) rfl 46 (.tmp 9) (.tmp 23) rfl w2.heap.size 0 46 _ ct rfl rfl (aN (aA _ _)) (by rw[HL8.o];exact Tryz.fM) (by rw[HL8.o];decide) DL.o ?_;intro w4 hb4 uM;have hq4:w4.heap[w2.heap.size+1]?=some (.cells #[ah 0,ah 0,ah 0] 27 (0,0)):=uM.keep (dX _ _ _) om)
   |(refine aC (w:=w4) rfl 27 (.tmp 10) (.tmp 24) rfl (w2.heap.size+1) 0 27 _ [.int .i64 c,.int .i64 ln,.int .i64 col] rfl rfl hq4 Tryz.iY (Nat.le_of_eq rfl) (aP rfl) ?_;intro w5 hb5 hst5))
  have HS24:Hid (Step (fun _=>False) w2 w4):=((bJ.alloc _).alloc _).then uM oi;have HB4:Hid (w4.heap[w2.heap.size]?=some (.cells ct.toArray 46 (0,0))):=by show _=_;rw[hb4];simp;have:=HL8.o;omega
  have HBW:Hid (w5.heap[w2.heap.size]?=some (.cells ct.toArray 46 (0,0))):=hst5.keep HB4.o om;have zX:Hid (w5.heap[w2.heap.size+1]?=some (.cells #[ah c,ah ln,ah col] 27 (0,0))):=hb5;have HS25:Hid (Step (fun _=>False) w2 w5):=HS24.o.then hst5 oi;have HSW:Hid (Step (fun _=>False) w w5):=HS2.o.trans HS25.o;clear hb4 uM hb5 hst5 hq4;go_upto_region 3 with fail
  go_wp2_with fail;refine(Dt.o _ HSW.o).mono ?_;rintro e w6 ⟨rfl,h6⟩;have wB:Hid (Step (fun _=>False) w w6):=ak (HSW.o.trans h6);have OL:=ak h6;have hq5:=h6.keep zX.o (fun h=>h);have r0:=aj hq5 0 _ rfl;have r1:=aj hq5 1 _ rfl;have r2:=aj hq5 2 _ rfl;clear h6 hq5;rcases HCS.o with⟨rfl,rfl,rfl,a,hra,htp⟩|hc
  ·by_cases hty:typ.size≤500
   ·(have hty':¬(500:Int)<(typ.size:Int):=by omega);have HTP:Hid (iG w6 (fun _=>True) a ct):=iG.step ((HS25.o).trans OL.o) (fun _ _ h=>h) _ _ htp;have HAB:=ak (HTB.o a hra);clear hra htp hty;have ha1:=HAB.o.1;obtain⟨w7,hw7⟩:=aU ((w6.alloc (.cells #[.string ⟨#[39,97]⟩,.string ⟨#[39,98]⟩] 9)).alloc (.cells #[.string ⟨#[84]⟩,.string ⟨#[85]⟩] 9));(have Vz:Hid (Step (fun _=>False) w6 w7):=by show Step _ _ _;rw[hw7];exact(bJ.alloc _).alloc _);(have HBA:Hid (w7.heap[w6.heap.size]?=some (.cells #[.string ⟨#[39,97]⟩,.string ⟨#[39,98]⟩] 9 (0,0))):=by show _=_;rw[hw7];exact aN (aA _ _));(have HBB:Hid (w7.heap[w6.heap.size+1]?=some (.cells #[.string ⟨#[84]⟩,.string ⟨#[85]⟩] 9 (0,0))):=by show _=_;rw[hw7];exact dX _ _ _);have HW7:=ak hw7;have HS57:Hid (Step (fun _=>False) w5 w7):=OL.o.trans Vz.o;have Y_:Hid (Step (fun _=>False) w1 w7):=pG.o.trans (HS25.o.trans HS57.o);have HNA:Hid (∀(P:Nat→Prop) X,P w6.heap.size→Step (fun _=>False) w7 X→cu X P lfA (.slice (some ⟨w6.heap.size,0,none⟩) 2 2)):=fun P X hp hX=>⟨dc,di.new (cs:=lfA.map .string) (hX.keep HBA.o (fun h=>h)) dc hp⟩;have Ry:Hid (∀(P:Nat→Prop) X,P (w6.heap.size+1)→Step (fun _=>False) w7 X→cu X P tyA (.slice (some ⟨w6.heap.size+1,0,none⟩) 2 2)):=fun P X hp hX=>⟨dc,di.new (cs:=tyA.map .string) (hX.keep HBB.o (fun h=>h)) dc hp⟩;have hba:=aI HBA.o;have hbb:=aI HBB.o;obtain⟨n,hn⟩:=aU (zy (wP l) ⟨lfA,tyA,true⟩ false a).length;obtain⟨rb,hrb⟩:=aU (aaH l ⟨lfA,tyA,true⟩ false a);have hq:((n:Int)==0)=rb:=by
     have h1:=typ_iff (newT_l HB2.o.2) ⟨lfA,tyA,true⟩ (.inl rfl) false a HAB.o.2;rw[hrb,hn];cases hz:aaH l ⟨lfA,tyA,true⟩ false a with
     |true=>rw[h1.2 hz];rfl
     |false=>(have h2:zy (wP l) ⟨lfA,tyA,true⟩ false a≠[]:=fun e=>by rw[h1.1 e]at hz;cases hz);have h3:=List.length_pos_iff.2 h2;simp;exact fun e=>by rw[e]at h3;exact absurd h3 (Nat.lt_irrefl _)
    have HTT:Hid (∀X,Step (fun _=>False) w7 X→Calls Tryz.prog 23 #[.pointer (some ⟨tb,0,none⟩),.agg ct.toArray,.slice (some ⟨w6.heap.size,0,none⟩) 2 2,.slice (some ⟨w6.heap.size+1,0,none⟩) 2 2] X fun e w'=>(∃a c,e=.returned (.slice a n c))∧Step (fun _=>False) X w'):=by
     show∀X,_;intro X hX;rw[hn];have hsz:=hX.size;exact ttyp_any tb (wP l) (Out cb (.slice av ne cv) w1) a _ lfA tyA _ _ _ _ X ((qA zH tb (wP l)).step (Y_.o.trans hX) (fun _ _ h=>h) HCK.o.tab) (fun k hk=>Nat.lt_of_lt_of_le hk.1 (Y_.o.trans hX).size) ha1.2
      ⟨ct,rfl,iG.mono (fun _ hk _=>hk) _ _ (iG.step (Vz.o.trans hX) (fun _ _ h=>h) _ _ HTP.o)⟩ (HNA.o _ X om hX) (Ry.o _ X om hX) (by have h5:=Iu (wP l) ⟨lfA,tyA,true⟩ false a;have h6:=ha1.1;omega)
    have HRT:Hid (∀X,Step (fun _=>False) w7 X→Calls Tryz.prog 24 #[.slice al nl cl,.agg ct.toArray,.agg #[.slice (some ⟨w6.heap.size,0,none⟩) 2 2,.slice (some ⟨w6.heap.size+1,0,none⟩) 2 2,dV true],.bool false] X fun e w'=>e=.returned (.bool rb)∧Step (fun _=>False) X w'):=by
     show∀X,_;intro X hX;rw[hrb,Yp.o];exact rty_all l (SizeOf.sizeOf a+1) a _ _ _ ⟨lfA,tyA,true⟩ false (fun _=>True) X (Nat.lt_succ_self _) (fun x hx=>(HB2.o.2 x hx).kd) ((bQ aT).mono _ _ (fun _ _ _=>trivial) ((bQ aT).step _ _ (Y_.o.trans hX) (fun _ _ h=>h) Qm.o))
      ⟨ct,rfl,iG.step (Vz.o.trans hX) (fun _ _ h=>h) _ _ HTP.o⟩ ⟨_,_,_,_,rfl,HNA.o _ X trivial hX,Ry.o _ X trivial hX⟩
    (have Yq:Hid (∀X,Step (fun _=>False) w7 X→∀(jj:Nat) v,ct[jj]?=some v→X.cell? ⟨w2.heap.size,0+jj,none⟩=some v):=by show∀X,_;intro X hX;exact gU ((HS57.o.trans hX).keep HBW.o (fun h=>h)));(have J6:Hid ((Tryz.prog.info? 46).map (·.size)=some ct.length):=by show _=_;rw[HL8.o];exact Tryz.fM);have HQ:=ak hq;clear hn hrb hq ha1 hw7;(go_upto_region 5 with fail);clear r0 r1 r2 hty';(go_upto_region 6 with fail);rw[←HW7.o];obtain⟨Jx,hJx⟩:=aU (NtJ [some (.pointer (some ⟨tb,0,none⟩)),some (.agg ct.toArray),some (.slice (some ⟨w6.heap.size,0,none⟩) 2 2),some (.slice (some ⟨w6.heap.size+1,0,none⟩) 2 2),none,some (.int .i64 n),some (.bool rb),some (.slice al nl cl),some (.agg ct.toArray),some (.slice (some ⟨w6.heap.size,0,none⟩) 2 2),some (.slice (some ⟨w6.heap.size+1,0,none⟩) 2 2),some (.agg #[.slice (some ⟨w6.heap.size,0,none⟩) 2 2,.slice (some ⟨w6.heap.size+1,0,none⟩) 2 2,dV true]),some (.bool rb),some (.bool true),some (.bool true)] n w7);have dL:=ak hJx;clear hJx;refine BN kr Jx 15 rfl kr kr kr kr ?h0 ?hs ?hdone;case h0=>rw[dL.o];exact NtJ.zero (bJ.drew)
    case hs=>
     refine⟨?_,?_,?_,?_,?_,?_,?_,?_,?_,?_,?_,?_,?_,?_,?_,trivial⟩
     all_goals (intro L V X a0 ev dn hL ax hJ;unfold qG;dsimp only;rw[dL.o]at hJ)
     ·have o6:=dn 6 rfl;change a0.tmps[6]?.getD undef=.pointer (some ⟨tb,0,none⟩)at o6;go_simp;exact⟨_,rfl,by rw[dL.o];exact hJ.up 0 _ aaZ aa0⟩
     ·have o9:=dn 9 rfl;change a0.tmps[9]?.getD undef=.pointer (some ⟨w2.heap.size,0,none⟩)at o9;refine wp_load_mid 46 (.tmp 9) rfl w2.heap.size 0 (by rw[bF];exact o9) ct _ (Yq.o X hJ.st) Tryz.underlying46 rfl J6.o ?_;exact⟨_,rfl,by rw[dL.o];exact hJ.up 1 _ aaZ aa0⟩
     ·have o11:=dn 11 rfl;change a0.tmps[11]?.getD undef=.slice (some ⟨w6.heap.size,0,none⟩) 2 2 at o11;go_simp;exact⟨_,rfl,by rw[dL.o];exact hJ.up 2 _ aaZ aa0⟩
     ·have o12:=dn 12 rfl;change a0.tmps[12]?.getD undef=.slice (some ⟨w6.heap.size+1,0,none⟩) 2 2 at o12;go_simp;exact⟨_,rfl,by rw[dL.o];exact hJ.up 3 _ aaZ aa0⟩
     ·have e44:=(ev 0 44 rfl (ax 0 rfl)).trans (hJ.d 0 _ rfl (ax 0 rfl));have e45:=(ev 1 45 rfl (ax 1 rfl)).trans (hJ.d 1 _ rfl (ax 1 rfl));have e46:=(ev 2 46 rfl (ax 2 rfl)).trans (hJ.d 2 _ rfl (ax 2 rfl));have e47:=(ev 3 47 rfl (ax 3 rfl)).trans (hJ.d 3 _ rfl (ax 3 rfl));go_simp;refine(HTT.o X hJ.st).mono ?_;rintro e8 w8 ⟨⟨y9a,y9c,rfl⟩,h8⟩;exact⟨_,rfl,by rw[dL.o];exact(hJ.step h8).up 4 _ (fun u h=>nomatch h) (fun _=>⟨_,_,rfl⟩)⟩
     ·obtain⟨xa,xc,hx4⟩:=hJ.r (ax 4 rfl);have e48:=(ev 4 48 rfl (ax 4 rfl)).trans hx4;go_simp;exact⟨_,rfl,by rw[dL.o];exact hJ.up 5 _ aaZ aa0⟩
     ·have e49:=(ev 5 49 rfl (ax 5 rfl)).trans (hJ.d 5 _ rfl (ax 5 rfl));have hq:=HQ.o;go_simp;exact⟨_,rfl,by rw[dL.o];exact hJ.up 6 _ aaZ aa0⟩
     ·have o5:=dn 5 rfl;change a0.tmps[5]?.getD undef=.slice al nl cl at o5;go_simp;exact⟨_,rfl,by rw[dL.o];exact hJ.up 7 _ aaZ aa0⟩
     ·have o9:=dn 9 rfl;change a0.tmps[9]?.getD undef=.pointer (some ⟨w2.heap.size,0,none⟩)at o9;refine wp_load_mid 46 (.tmp 9) rfl w2.heap.size 0 (by rw[bF];exact o9) ct _ (Yq.o X hJ.st) Tryz.underlying46 rfl J6.o ?_;exact⟨_,rfl,by rw[dL.o];exact hJ.up 8 _ aaZ aa0⟩
     ·have o11:=dn 11 rfl;change a0.tmps[11]?.getD undef=.slice (some ⟨w6.heap.size,0,none⟩) 2 2 at o11;go_simp;exact⟨_,rfl,by rw[dL.o];exact hJ.up 9 _ aaZ aa0⟩
     ·have o12:=dn 12 rfl;change a0.tmps[12]?.getD undef=.slice (some ⟨w6.heap.size+1,0,none⟩) 2 2 at o12;go_simp;exact⟨_,rfl,by rw[dL.o];exact hJ.up 10 _ aaZ aa0⟩
     ·have e53:=(ev 9 53 rfl (ax 9 rfl)).trans (hJ.d 9 _ rfl (ax 9 rfl));have e54:=(ev 10 54 rfl (ax 10 rfl)).trans (hJ.d 10 _ rfl (ax 10 rfl));go_simp;exact⟨_,rfl,by rw[dL.o];exact hJ.up 11 _ aaZ aa0⟩
     ·have e51:=(ev 7 51 rfl (ax 7 rfl)).trans (hJ.d 7 _ rfl (ax 7 rfl));have e52:=(ev 8 52 rfl (ax 8 rfl)).trans (hJ.d 8 _ rfl (ax 8 rfl));have e55:=(ev 11 55 rfl (ax 11 rfl)).trans (hJ.d 11 _ rfl (ax 11 rfl));go_simp;refine(HRT.o X hJ.st).mono ?_;rintro e8 w8 ⟨rfl,h8⟩;exact⟨_,rfl,by rw[dL.o];exact(hJ.step h8).up 12 _ aaZ aa0⟩
     ·have e50:=(ev 6 50 rfl (ax 6 rfl)).trans (hJ.d 6 _ rfl (ax 6 rfl));have e56:=(ev 12 56 rfl (ax 12 rfl)).trans (hJ.d 12 _ rfl (ax 12 rfl));go_simp;exact⟨_,rfl,by rw[dL.o];exact hJ.up 13 _ aaZ aa0⟩
     ·have e57:=(ev 13 57 rfl (ax 13 rfl)).trans (hJ.d 13 _ rfl (ax 13 rfl));go_simp;exact⟨_,rfl,by rw[dL.o];exact hJ.up 14 _ aaZ aa0⟩
    case hdone=>intro L V X hall hJ;rw[dL.o]at hJ;have hst:=hJ.st;have hlast:=hJ.d 14 _ rfl (hall 14 dc);rw[show List.range 15=[0,1,2,3,4,5,6,7,8,9,10,11,12,13,14] from rfl];simp only[kC,fU,List.getElem?_toArray,List.getElem?_cons_zero,List.getElem?_cons_succ,Option.bind_some,Act.put,List.setIfInBounds_toArray,List.set_cons_zero,List.set_cons_succ];go_wp2_with fail;go_ret;exact⟨by first|rfl|(rw[hlast];rfl),wB.o.trans (Vz.o.trans hst)⟩
   ·(have hty':(500:Int)<(typ.size:Int):=by omega);clear hty;go_wp2_with fail;refine(Dt.o _ wB.o).mono ?_;rintro e w7 ⟨rfl,h7⟩;go_wp2_with fail;go_ret;exact⟨rfl,wB.o.trans h7⟩
  ·(have hcn:¬(c:Int)=0:=by omega);(have hcb:((c:Int)==0)=false:=by simp;omega);clear hc;go_wp2_with fail;refine(Dt.o _ wB.o).mono ?_;rintro e w7 ⟨rfl,h7⟩;go_wp2_with fail;go_ret;exact⟨rfl,wB.o.trans h7⟩
end Go.Proofs.YtppekkbaoimpgaaGreat
