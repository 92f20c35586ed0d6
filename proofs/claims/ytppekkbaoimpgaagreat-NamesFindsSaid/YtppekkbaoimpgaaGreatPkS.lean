/- Nbc -/
import Derived.Test.YtppekkbaoimpgaaGreatPkR
set_option maxRecDepth 100000
set_option maxHeartbeats 8000000
namespace Go.Proofs.YtppekkbaoimpgaaGreat
open Go.RowKit
open Vt
set_option maxRecDepth 100000
set_option maxHeartbeats 8000000
theorem nX.pos {w:World} {P:Nat→Prop} {x:It} {cs:List Value} (h:nX w P x cs):cs[17]?=some (.int .i64 x.line)∧cs[18]?=some (.int .i64 x.col):=by
 obtain⟨ct,vl,vt,vf,vw,vm,vb,rfl,h2,h3,h4,h5,h6,h7,h8⟩:=h;have h9:=h7.len;have h10:([.int .i64 x.kind,.string x.name,.string x.head,vl,vt,vf]++ct++[vw,vm,vb,.int .i64 x.line,.int .i64 x.col]:List Value)=([.int .i64 x.kind,.string x.name,.string x.head,vl,vt,vf]++ct++[vw,vm,vb])++[.int .i64 x.line,.int .i64 x.col]:=by simp
 have h11:([.int .i64 x.kind,.string x.name,.string x.head,vl,vt,vf]++ct++[vw,vm,vb]:List Value).length=17:=by simp[h9]
 rw[h10,List.getElem?_append_right om,List.getElem?_append_right om,h11];exact⟨rfl,rfl⟩
theorem nX.gens {w:World} {P:Nat→Prop} {x:It} {cs:List Value} (h:nX w P x cs):∃vl vt:Value,cs[3]?=some vl∧cs[4]?=some vt∧cu w P x.gen.aF vl∧cu w P x.gen.types vt:=by obtain⟨ct,vl,vt,vf,vw,vm,vb,rfl,-,-,h4,h5,-⟩:=h;exact⟨vl,vt,rfl,rfl,h4,h5⟩
def FndOr (l:List It) (a:Bool) (z:Int) (x:It):Prop:=(a=true∧∃(k:Nat) (y:It),z=k∧l[k]?=some y∧x=y)∨(a=false∧z= -1)
theorem fnd_or {l:List It} {o:Option Nat} (h:∀i,o=some i→i<l.length):FndOr l o.isSome (aag o) ((o.bind fun i=>l[i]?).getD vO):=by
 cases o with
 |none=>exact .inr ⟨rfl,rfl⟩
 |some i=>refine .inl ⟨rfl,i,_,rfl,List.getElem?_eq_getElem (h i rfl),?_⟩;rw[Option.bind_some,List.getElem?_eq_getElem (h i rfl)];rfl
theorem fnd_u {l:List It} {a:Bool} {z:Int} {x:It} (h:FndOr l a z x):∃(k:Nat) (y:It),decide (0≤z)=a∧(a=true→z=((k:Nat):Int)∧l[k]?=some y∧x=y):=by
 rcases h with⟨rfl,k,y,rfl,h,rfl⟩|⟨rfl,rfl⟩
 ·exact⟨k,x,by simp,fun _=>⟨rfl,h,rfl⟩⟩
 ·exact⟨0,vO,rfl,fun h=>nomatch h⟩
theorem namesFinds_any (s name head:ByteArray) (hsn:name.size≤9223372036854775807) (hsh:head.size≤9223372036854775807) (w:World) (m:Int) (hm:w.cell? ⟨0,0,none⟩=some (.int .i64 m)):Calls Tryz.prog 8 #[.string s,.string name,.string head] w fun e w'=>e=.returned (.bool true)∧Step (fun _=>False) w w':=by
 have wX:=ak (Ee s w m hm);have Dt:Hid (∀X,Step (fun _=>False) w X→Calls Tryz.prog 19 #[] X fun e w'=>e=.returned (.bool true)∧Step (fun _=>False) X w'):=by show∀X,_;intro X hX;exact Qi X m (hX.cell hm (fun h=>h))
 obtain⟨R,hR⟩:=aU (zJ s);have HB:Hid (∀l,R=some l→l.length≤60∧∀x∈l,Fe x):=by show∀l,_;intro l e;exact NY (hR.symm.trans e)
 rw[←hR]at wX;have HSN:=ak hsn;have HSH:=ak hsh;clear hm hR hsn hsh;go_enter Tryz.func8,Tryz.ntmps8;go_upto_region 1 with fail
 go_wp2_with fail;refine wX.o.mono ?_;cases R with
 |none=>rintro e w1 ⟨he,h1⟩;have he:e=.returned (.tuple #[au,.pointer none,au,aO]):=he;subst he;have cZ:=ak h1;clear h1 HB;go_wp2_with fail;refine(Dt.o _ cZ.o).mono ?_;rintro e w2 ⟨rfl,h2⟩;have HS2:=ak (cZ.o.trans h2);clear h2;go_wp2_with fail;refine(Dt.o _ HS2.o).mono ?_;rintro e w3 ⟨rfl,h3⟩;have eX:=ak (HS2.o.trans h3);clear h3;go_wp2_with fail;go_ret;exact⟨rfl,eX.o⟩
 |some l=>
  rintro e w1 ⟨⟨cb,tb,vl,v,rfl,-,-,hls,hck⟩,h1⟩;have hb:=HB.o l rfl;obtain⟨al,cl,rfl⟩:=hls.parts;obtain⟨av,cv,rfl⟩:=a_ hck.own;obtain⟨ne,hne⟩:=aU (nO nP l).length;rw[←hne]at hck⊢;have hlen:=hls.lenle;obtain⟨T,hT⟩:=aU (wP l);have hTF:=newT_fnd hb.2;have hTW:=newT_w hb.2;have hTI:=uq l;rw[←hT]at hck hTF hTW hTI;obtain⟨P,hP⟩:=aU (Out cb (.slice av ne cv) w1);have htab:=hck.tab;rw[←hP]at htab;have hpl:∀k,P k→k<w1.heap.size:=fun k hk=>by rw[hP]at hk;exact hk.1
  have WX:Hid (∀X,Step (fun _=>False) w1 X→TabAt Eb tb T X P):=by show∀X,_;intro X hX;exact(qA zH tb T).step hX (fun _ _ h=>h) htab
  have IB:Hid (∀X,Step (fun _=>False) w1 X→∀k,P k→k<X.heap.size):=by show∀X,_;intro X hX k hk;exact Nat.lt_of_lt_of_le (hpl k hk) hX.size
  have sZ:Hid (KindOk l):=fun x hx=>(hb.2 x hx).kd;have Qm:=ak hls;have cZ:=ak h1;have ZH:=ak hTF;have HTW:=ak hTW;have Yu:=ak hTI;clear h1 hls hck hb HB hne hT hTF hTW hTI htab hP hpl;go_wp2_with fail;refine(Dt.o _ cZ.o).mono ?_;rintro e w2 ⟨rfl,h2⟩;have HS2:=ak h2;clear h2;go_upto_region 4 with fail
  go_wp2_with fail;refine(H_ zH tb T P name w2 (WX.o _ HS2.o) HSN.o (IB.o _ HS2.o)).mono ?_;rintro e w3 ⟨⟨cs1,rfl,hat⟩,h3⟩;obtain⟨x1,hx1⟩:=aU ((T.get T.st name).getD vO);rw[←hx1]at hat;have YT:=ak hx1;have HLN1:Hid ((Tryz.prog.info? 51).map (·.size)=some cs1.length):=by show _=_;rw[aT.len _ _ hat];exact Tryz.dF
  have HL1:=ak (aT.len _ _ hat);have HON1:=ak (aT.one _ _ hat);have HPO1:=ak hat.pos;obtain⟨w4,hw4⟩:=aU (w3.alloc (.cells cs1.toArray 51));have HBK1:Hid (w4.heap[w3.heap.size]?=some (.cells cs1.toArray 51 (0,0))):=by show _=_;rw[hw4];exact aA _ _
  have HSB1:Hid (Step (fun _=>False) w3 w4):=by show Step _ _ _;rw[hw4];exact bJ.alloc _
  have iP:Hid (Step (fun _=>False) w1 w4):=ak ((HS2.o.trans h3).trans HSB1.o);have OI:=ak hw4;obtain⟨a1,ha1⟩:=aU (T.st name).isSome;rw[←ha1];have HA1:=ak ha1;have HG3:=ak h3;clear hat h3 hw4 ha1 hx1;go_upto_region 5 with(first
   |(refine bW rfl 51 (.tmp 11) (.tmp 44) rfl _ cs1 rfl rfl HLN1.o (by rw[HL1.o];rfl) HON1.o ?_;rw[←OI.o]))
  go_upto_region 5 with fail
  go_wp2_with fail;refine(WU zH tb T P name w4 (WX.o _ iP.o) HSN.o (IB.o _ iP.o)).mono ?_;rintro e w5 ⟨⟨cs2,rfl,hat⟩,h5⟩;obtain⟨x2,hx2⟩:=aU ((T.get T.tr name).getD vO);rw[←hx2]at hat;have HX2:=ak hx2;have HLN2:Hid ((Tryz.prog.info? 51).map (·.size)=some cs2.length):=by show _=_;rw[aT.len _ _ hat];exact Tryz.dF
  have HL2:=ak (aT.len _ _ hat);have HON2:=ak (aT.one _ _ hat);have HPO2:=ak hat.pos;obtain⟨w6,hw6⟩:=aU (w5.alloc (.cells cs2.toArray 51));have HBK2:Hid (w6.heap[w5.heap.size]?=some (.cells cs2.toArray 51 (0,0))):=by show _=_;rw[hw6];exact aA _ _
  have HSB2:Hid (Step (fun _=>False) w5 w6):=by show Step _ _ _;rw[hw6];exact bJ.alloc _
  have wB:Hid (Step (fun _=>False) w1 w6):=ak ((iP.o.trans h5).trans HSB2.o);have HW6:=ak hw6;obtain⟨a2,ha2⟩:=aU (T.tr name).isSome;rw[←ha2];have HA2:=ak ha2;have HG5:=ak h5;clear hat h5 hw6 ha2 hx2;go_upto_region 6 with(first
   |(refine bW rfl 51 (.tmp 13) (.tmp 50) rfl _ cs2 rfl rfl HLN2.o (by rw[HL2.o];rfl) HON2.o ?_;rw[←HW6.o]))
  go_upto_region 6 with fail
  go_wp2_with fail;refine(Xp zH tb T P name w6 (WX.o _ wB.o) HSN.o (IB.o _ wB.o)).mono ?_;rintro e w7 ⟨⟨cs3,rfl,hat⟩,h7⟩;obtain⟨x3,hx3⟩:=aU ((T.get T.fn name).getD vO);rw[←hx3]at hat;have HX3:=ak hx3;have HLN3:Hid ((Tryz.prog.info? 51).map (·.size)=some cs3.length):=by show _=_;rw[aT.len _ _ hat];exact Tryz.dF
  have HL3:=ak (aT.len _ _ hat);have HON3:=ak (aT.one _ _ hat);have HPO3:=ak hat.pos;obtain⟨w8,hw8⟩:=aU (w7.alloc (.cells cs3.toArray 51));have HBK3:Hid (w8.heap[w7.heap.size]?=some (.cells cs3.toArray 51 (0,0))):=by show _=_;rw[hw8];exact aA _ _
  have HSB3:Hid (Step (fun _=>False) w7 w8):=by show Step _ _ _;rw[hw8];exact bJ.alloc _
  have La:Hid (Step (fun _=>False) w1 w8):=ak ((wB.o.trans h7).trans HSB3.o);have HW8:=ak hw8;obtain⟨a3,ha3⟩:=aU (T.fn name).isSome;rw[←ha3];have HA3:=ak ha3;have HG7:=ak h7;clear hat h7 hw8 ha3 hx3;go_upto_region 7 with(first
   |(refine bW rfl 51 (.tmp 15) (.tmp 56) rfl _ cs3 rfl rfl HLN3.o (by rw[HL3.o];rfl) HON3.o ?_;rw[←HW8.o]))
  go_upto_region 7 with fail
  go_wp2_with fail;refine(timpl_any tb T P name head w8 (WX.o _ La.o) (fun i hi=>by obtain⟨y,hy,-⟩:=HTW.o.im _ _ _ hi;exact(List.getElem?_eq_some_iff.1 hy).1) HSN.o HSH.o (IB.o _ La.o)).mono ?_;rintro e w9 ⟨⟨cs4,rfl,hat⟩,h9⟩;obtain⟨x4,hx4⟩:=aU (((T.im name head).bind fun i=>T.items[i]?).getD vO);rw[←hx4]at hat;have HX4:=ak hx4;have HLN4:Hid ((Tryz.prog.info? 51).map (·.size)=some cs4.length):=by show _=_;rw[aT.len _ _ hat];exact Tryz.dF
  have HL4:=ak (aT.len _ _ hat);have HON4:=ak (aT.one _ _ hat);have HPO4:=ak hat.pos;obtain⟨w10,hw10⟩:=aU (w9.alloc (.cells cs4.toArray 51));have HBK4:Hid (w10.heap[w9.heap.size]?=some (.cells cs4.toArray 51 (0,0))):=by show _=_;rw[hw10];exact aA _ _
  have HSB4:Hid (Step (fun _=>False) w9 w10):=by show Step _ _ _;rw[hw10];exact bJ.alloc _
  have HS10:Hid (Step (fun _=>False) w1 w10):=ak ((La.o.trans h9).trans HSB4.o);have HW10:=ak hw10;obtain⟨a4,ha4⟩:=aU (T.im name head).isSome;rw[←ha4];have HA4:=ak ha4;have HG9:=ak h9;clear hat h9 hw10 ha4 hx4;go_upto_region 8 with(first
   |(refine bW rfl 51 (.tmp 17) (.tmp 63) rfl _ cs4 rfl rfl HLN4.o (by rw[HL4.o];rfl) HON4.o ?_;rw[←HW10.o]))
  go_upto_region 8 with fail
  go_wp2_with fail;refine(WV zH tb T P head w10 (WX.o _ HS10.o) HSH.o (IB.o _ HS10.o)).mono ?_;rintro e w11 ⟨⟨gx,rfl,lq,lu,sU,sV,rfl,hgl,hgt⟩,h11⟩;obtain⟨gn,hgn⟩:=aU (T.of head);rw[←hgn]at hgl hgt⊢;have HGN:=ak hgn;have HGL:=ak hgl;have JL:=ak hgt;obtain⟨w12,hw12⟩:=aU (w11.alloc (.cells [.slice lq gn.aF.length lu,.slice sU gn.types.length sV].toArray 42));have HBG:Hid (w12.heap[w11.heap.size]?=some (.cells [.slice lq gn.aF.length lu,.slice sU gn.types.length sV].toArray 42 (0,0))):=by show _=_;rw[hw12];exact aA _ _
  have HSBG:Hid (Step (fun _=>False) w11 w12):=by show Step _ _ _;rw[hw12];exact bJ.alloc _
  have pG:Hid (Step (fun _=>False) w1 w12):=ak ((HS10.o.trans h11).trans HSBG.o);have HW12:=ak hw12;obtain⟨pl,hpl⟩:=aU (qC head);obtain⟨a5,ha5⟩:=aU (T.st head).isSome;rw[←hpl,←ha5];have ZG:=ak hpl;have HA5:=ak ha5;obtain⟨ae,hae⟩:=aU (pl||a5);rw[←hae];have HAE:=ak hae;have HG11:=ak h11;clear hgl hgt h11 hw12 hpl ha5 hgn hae;go_upto_region 9 with(first
   |(refine bW rfl 42 (.tmp 19) (.tmp 69) rfl _ [.slice lq gn.aF.length lu,.slice sU gn.types.length sV] rfl rfl Tryz.jf rfl (aP rfl) ?_;rw[←HW12.o]))
  have HLX:Hid (jF nX w12 (fun k=>w.heap.size≤k) l (.slice al l.length cl)):=(bQ aT).step _ _ pG.o (fun _ _ h=>h) Qm.o;have HX5:Hid (FndOr l a5 (aag (aad 1 head 0 l)) ((T.get T.st head).getD vO)):=by have h:=fnd_or (l:=l) (o:=T.st head) (fun i hi=>by obtain⟨y,hy,-⟩:=HTW.o.st _ _ hi;rw[←Yu.o];exact(List.getElem?_eq_some_iff.1 hy).1);rw[←HA5.o,ZH.o.st,Yu.o]at h;rw[Tab.get,ZH.o.st,Yu.o];exact h
  have HF1:Hid (FndOr l a1 (aag (aad 1 name 0 l)) x1):=by have h:=fnd_or (l:=l) (o:=T.st name) (fun i hi=>by obtain⟨y,hy,-⟩:=HTW.o.st _ _ hi;rw[←Yu.o];exact(List.getElem?_eq_some_iff.1 hy).1);rw[←HA1.o,ZH.o.st,Yu.o]at h;rw[YT.o,Tab.get,ZH.o.st,Yu.o];exact h
  have HF2:Hid (FndOr l a2 (aag (aad 2 name 0 l)) x2):=by have h:=fnd_or (l:=l) (o:=T.tr name) (fun i hi=>by obtain⟨y,hy,-⟩:=HTW.o.tr _ _ hi;rw[←Yu.o];exact(List.getElem?_eq_some_iff.1 hy).1);rw[←HA2.o,ZH.o.tr,Yu.o]at h;rw[HX2.o,Tab.get,ZH.o.tr,Yu.o];exact h
  have HF3:Hid (FndOr l a3 (aag (aad 4 name 0 l)) x3):=by have h:=fnd_or (l:=l) (o:=T.fn name) (fun i hi=>by obtain⟨y,hy,-⟩:=HTW.o.fn _ _ hi;rw[←Yu.o];exact(List.getElem?_eq_some_iff.1 hy).1);rw[←HA3.o,ZH.o.fn,Yu.o]at h;rw[HX3.o,Tab.get,ZH.o.fn,Yu.o];exact h
  have HF4:Hid (FndOr l a4 (aag (fndI name head 0 l)) x4):=by have h:=fnd_or (l:=l) (o:=T.im name head) (fun i hi=>by obtain⟨y,hy,-⟩:=HTW.o.im _ _ _ hi;rw[←Yu.o];exact(List.getElem?_eq_some_iff.1 hy).1);rw[←HA4.o,ZH.o.im,Yu.o]at h;rw[HX4.o,ZH.o.im,Yu.o];exact h
  have HGO:Hid (gn=if pl=true then jX else((T.get T.st head).getD vO).gen):=by show _=_;rw[HGN.o,ZG.o];rfl
  obtain⟨x5,hx5⟩:=aU ((T.get T.st head).getD vO);rw[←hx5]at HX5 HGO;clear hx5;go_wp2_with fail;refine(aai 1 om name _ l _ w12 HLX.o sZ.o).mono ?_;rintro e wq ⟨rfl,rfl⟩;obtain⟨z1,hz1⟩:=aU (aag (aad 1 name 0 l));rw[←hz1]at HF1⊢;clear hz1;go_wp2_with fail;refine(aai 2 om name _ l _ w12 HLX.o sZ.o).mono ?_;rintro e wq ⟨rfl,rfl⟩;obtain⟨z2,hz2⟩:=aU (aag (aad 2 name 0 l));rw[←hz2]at HF2⊢;clear hz2;go_wp2_with fail;refine(aai 4 om name _ l _ w12 HLX.o sZ.o).mono ?_;rintro e wq ⟨rfl,rfl⟩;obtain⟨z3,hz3⟩:=aU (aag (aad 4 name 0 l));rw[←hz3]at HF3⊢;clear hz3;go_wp2_with fail;refine(rimpl_any name head _ l _ w12 HLX.o).mono ?_;rintro e wq ⟨rfl,rfl⟩;obtain⟨z4,hz4⟩:=aU (aag (fndI name head 0 l));rw[←hz4]at HF4⊢;clear hz4;go_wp2_with fail;refine(aai 1 om head _ l _ w12 HLX.o sZ.o).mono ?_;rintro e wq ⟨rfl,rfl⟩;obtain⟨z5,hz5⟩:=aU (aag (aad 1 head 0 l));rw[←hz5]at HX5⊢;clear hz5;go_upto_region 10 with fail
  have HT4:Hid (Step (fun _=>False) w10 w12):=ak (HG11.o.trans HSBG.o);have HT3:Hid (Step (fun _=>False) w8 w12):=ak ((HG9.o.trans HSB4.o).trans HT4.o);have HT2:Hid (Step (fun _=>False) w6 w12):=ak ((HG7.o.trans HSB3.o).trans HT3.o);have HT1:Hid (Step (fun _=>False) w4 w12):=ak ((HG5.o.trans HSB2.o).trans HT2.o)
  have HEL:Hid (∀(k:Nat) (y:It),l[k]?=some y→∃g o:Nat,al=some ⟨g,o,none⟩∧w12.cell? ⟨g,o+k*19+17,none⟩=some (.int .i64 y.line)∧w12.cell? ⟨g,o+k*19+18,none⟩=some (.int .i64 y.col)∧
    ∃(l1 l2:Value),w12.cell? ⟨g,o+k*19+3,none⟩=some l1∧w12.cell? ⟨g,o+k*19+4,none⟩=some l2∧cu w12 (fun k=>w.heap.size≤k) y.gen.aF l1∧cu w12 (fun k=>w.heap.size≤k) y.gen.types l2):=by
   show∀k y,_
   intro k y hy
   obtain⟨g,o,c',cs,hva,hat,hcell⟩:=HLX.o.el aT hy
   obtain⟨rfl,rfl⟩:al=some ⟨g,o,none⟩∧cl=c':=by cases hva;exact⟨rfl,rfl⟩
   obtain⟨l1,l2,h3,h4,h5,h6⟩:=hat.gens
   exact⟨g,o,rfl,hcell 17 _ hat.pos.1,hcell 18 _ hat.pos.2,l1,l2,hcell 3 _ h3,hcell 4 _ h4,h5,h6⟩
  have hb1:w12.heap[w3.heap.size]?=some (.cells cs1.toArray 51 (0,0)):=HT1.o.keep HBK1.o (fun h=>h);have u1:=aj hb1 17 _ (by rw[List.getElem?_toArray];exact HPO1.o.1);have v1:=aj hb1 18 _ (by rw[List.getElem?_toArray];exact HPO1.o.2);have hb2:w12.heap[w5.heap.size]?=some (.cells cs2.toArray 51 (0,0)):=HT2.o.keep HBK2.o (fun h=>h);have u2:=aj hb2 17 _ (by rw[List.getElem?_toArray];exact HPO2.o.1);have v2:=aj hb2 18 _ (by rw[List.getElem?_toArray];exact HPO2.o.2);have hb3:w12.heap[w7.heap.size]?=some (.cells cs3.toArray 51 (0,0)):=HT3.o.keep HBK3.o (fun h=>h);have u3:=aj hb3 17 _ (by rw[List.getElem?_toArray];exact HPO3.o.1);have v3:=aj hb3 18 _ (by rw[List.getElem?_toArray];exact HPO3.o.2);have hb4:w12.heap[w9.heap.size]?=some (.cells cs4.toArray 51 (0,0)):=HT4.o.keep HBK4.o (fun h=>h);have u4:=aj hb4 17 _ (by rw[List.getElem?_toArray];exact HPO4.o.1);have v4:=aj hb4 18 _ (by rw[List.getElem?_toArray];exact HPO4.o.2);have g0:=aj HBG.o 0 _ rfl;have g1:=aj HBG.o 1 _ rfl;clear hb1 hb2 hb3 hb4;have HSW:Hid (Step (fun _=>False) w w12):=ak (cZ.o.trans pG.o);obtain⟨g,o,hgo⟩:∃g o:Nat,∀(k:Nat) (y:It),l[k]?=some y→al=some ⟨g,o,none⟩:=by
   cases h0:l[0]? with
   |none=>refine⟨0,0,fun k y h=> ?_⟩;have h1:=List.getElem?_eq_none_iff.1 h0;have h2:=(List.getElem?_eq_some_iff.1 h).1;omega
   |some y0=>obtain⟨g,o,e,-⟩:=HEL.o 0 y0 h0;exact⟨g,o,fun _ _ _=>e⟩
  obtain⟨k1,y1,hz1,hy1⟩:=fnd_u HF1.o;have HQ1:Hid (a1=true→∀X,Step (fun _=>False) w12 X→al=some ⟨g,o,none⟩∧z1=((k1:Nat):Int)∧k1<l.length∧X.cell? ⟨g,o+k1*19+17,none⟩=some (.int .i64 y1.line)∧X.cell? ⟨g,o+k1*19+18,none⟩=some (.int .i64 y1.col)∧X.cell? ⟨w3.heap.size,17,none⟩=some (.int .i64 y1.line)∧X.cell? ⟨w3.heap.size,18,none⟩=some (.int .i64 y1.col)):=by show _→_;intro ha X hX;obtain⟨h1,h2,h3⟩:=hy1 ha;obtain⟨g',o',e,q1,q2,-⟩:=HEL.o k1 y1 h2;(obtain⟨rfl,rfl⟩:g=g'∧o=o':=by have e2:=(hgo _ _ h2).symm.trans e;cases e2;exact⟨rfl,rfl⟩);rw[h3]at u1 v1;exact⟨e,h1,(List.getElem?_eq_some_iff.1 h2).1,hX.cell q1 (fun h=>h),hX.cell q2 (fun h=>h),hX.cell u1 (fun h=>h),hX.cell v1 (fun h=>h)⟩
  obtain⟨k2,y2,hz2,hy2⟩:=fnd_u HF2.o;have YM:Hid (a2=true→∀X,Step (fun _=>False) w12 X→al=some ⟨g,o,none⟩∧z2=((k2:Nat):Int)∧k2<l.length∧X.cell? ⟨g,o+k2*19+17,none⟩=some (.int .i64 y2.line)∧X.cell? ⟨g,o+k2*19+18,none⟩=some (.int .i64 y2.col)∧X.cell? ⟨w5.heap.size,17,none⟩=some (.int .i64 y2.line)∧X.cell? ⟨w5.heap.size,18,none⟩=some (.int .i64 y2.col)):=by show _→_;intro ha X hX;obtain⟨h1,h2,h3⟩:=hy2 ha;obtain⟨g',o',e,q1,q2,-⟩:=HEL.o k2 y2 h2;(obtain⟨rfl,rfl⟩:g=g'∧o=o':=by have e2:=(hgo _ _ h2).symm.trans e;cases e2;exact⟨rfl,rfl⟩);rw[h3]at u2 v2;exact⟨e,h1,(List.getElem?_eq_some_iff.1 h2).1,hX.cell q1 (fun h=>h),hX.cell q2 (fun h=>h),hX.cell u2 (fun h=>h),hX.cell v2 (fun h=>h)⟩
  obtain⟨k3,y3,hz3,hy3⟩:=fnd_u HF3.o;have HQ3:Hid (a3=true→∀X,Step (fun _=>False) w12 X→al=some ⟨g,o,none⟩∧z3=((k3:Nat):Int)∧k3<l.length∧X.cell? ⟨g,o+k3*19+17,none⟩=some (.int .i64 y3.line)∧X.cell? ⟨g,o+k3*19+18,none⟩=some (.int .i64 y3.col)∧X.cell? ⟨w7.heap.size,17,none⟩=some (.int .i64 y3.line)∧X.cell? ⟨w7.heap.size,18,none⟩=some (.int .i64 y3.col)):=by show _→_;intro ha X hX;obtain⟨h1,h2,h3⟩:=hy3 ha;obtain⟨g',o',e,q1,q2,-⟩:=HEL.o k3 y3 h2;(obtain⟨rfl,rfl⟩:g=g'∧o=o':=by have e2:=(hgo _ _ h2).symm.trans e;cases e2;exact⟨rfl,rfl⟩);rw[h3]at u3 v3;exact⟨e,h1,(List.getElem?_eq_some_iff.1 h2).1,hX.cell q1 (fun h=>h),hX.cell q2 (fun h=>h),hX.cell u3 (fun h=>h),hX.cell v3 (fun h=>h)⟩
  obtain⟨k4,y4,hz4,hy4⟩:=fnd_u HF4.o;have HQ4:Hid (a4=true→∀X,Step (fun _=>False) w12 X→al=some ⟨g,o,none⟩∧z4=((k4:Nat):Int)∧k4<l.length∧X.cell? ⟨g,o+k4*19+17,none⟩=some (.int .i64 y4.line)∧X.cell? ⟨g,o+k4*19+18,none⟩=some (.int .i64 y4.col)∧X.cell? ⟨w9.heap.size,17,none⟩=some (.int .i64 y4.line)∧X.cell? ⟨w9.heap.size,18,none⟩=some (.int .i64 y4.col)):=by show _→_;intro ha X hX;obtain⟨h1,h2,h3⟩:=hy4 ha;obtain⟨g',o',e,q1,q2,-⟩:=HEL.o k4 y4 h2;(obtain⟨rfl,rfl⟩:g=g'∧o=o':=by have e2:=(hgo _ _ h2).symm.trans e;cases e2;exact⟨rfl,rfl⟩);rw[h3]at u4 v4;exact⟨e,h1,(List.getElem?_eq_some_iff.1 h2).1,hX.cell q1 (fun h=>h),hX.cell q2 (fun h=>h),hX.cell u4 (fun h=>h),hX.cell v4 (fun h=>h)⟩
  obtain⟨k5,y5,hz5,hy5⟩:=fnd_u HX5.o;have HGC:Hid (∀X,Step (fun _=>False) w12 X→X.cell? ⟨w11.heap.size,0,none⟩=some (.slice lq gn.aF.length lu)∧X.cell? ⟨w11.heap.size,1,none⟩=some (.slice sU gn.types.length sV)):=by show∀X,_;intro X hX;exact⟨hX.cell g0 (fun h=>h),hX.cell g1 (fun h=>h)⟩
  have HGZ:Hid (pl=true→gn.aF.length=0∧gn.types.length=0):=by show _→_;intro e;have hg:=HGO.o;rw[if_pos e]at hg;rw[hg];exact⟨rfl,rfl⟩
  have HQ6:Hid (∃l1 l2:Value,(ae=true→pl=false→∀X,Step (fun _=>False) w12 X→al=some ⟨g,o,none⟩∧z5=((k5:Nat):Int)∧k5<l.length∧X.cell? ⟨g,o+k5*19+3,none⟩=some l1∧X.cell? ⟨g,o+k5*19+4,none⟩=some l2)∧
   (pl=false→ae=true→∀X,Step (fun _=>False) w12 X→Calls Tryz.prog 34 #[.slice lq gn.aF.length lu,l1] X fun e w'=>e=.returned (.bool true)∧∃n,w'=X.drewN n)∧
   (pl=false→ae=true→∀X,Step (fun _=>False) w12 X→Calls Tryz.prog 34 #[.slice sU gn.types.length sV,l2] X fun e w'=>e=.returned (.bool true)∧∃n,w'=X.drewN n)):=by
   show∃l1 l2,_
   by_cases hc:ae=true∧pl=false
   ·
    have h5:a5=true:=by have h:=HAE.o;rw[hc.1,hc.2]at h;exact h.symm
    obtain⟨h1,h2,h3⟩:=hy5 h5
    obtain⟨g',o',e,-,-,l1,l2,q3,q4,hn1,hn2⟩:=HEL.o k5 y5 h2
    obtain⟨rfl,rfl⟩:g=g'∧o=o':=by have e2:=(hgo _ _ h2).symm.trans e;cases e2;exact⟨rfl,rfl⟩
    have hg:=HGO.o
    rw[if_neg (by rw[hc.2];decide),h3]at hg
    refine⟨l1,l2,fun _ _ X hX=>⟨e,h1,(List.getElem?_eq_some_iff.1 h2).1,hX.cell q3 (fun h=>h),hX.cell q4 (fun h=>h)⟩,fun _ _ X hX=> ?_,fun _ _ X hX=> ?_⟩
    ·
     have hA:=(bG.step _ _ (HSBG.o.trans hX) (fun _ _ h=>h) HGL.o).2
     have hB:=(bG.step _ _ hX (fun _ _ h=>h) hn1).2
     rw[hg]at hA⊢
     exact(rtexts_any _ _ _ _ _ _ X hA hB).mono fun e w' h=>⟨by rw[h.1,decide_eq_true rfl],h.2⟩
    ·
     have hA:=(bG.step _ _ (HSBG.o.trans hX) (fun _ _ h=>h) JL.o).2
     have hB:=(bG.step _ _ hX (fun _ _ h=>h) hn2).2
     rw[hg]at hA⊢
     exact(rtexts_any _ _ _ _ _ _ X hA hB).mono fun e w' h=>⟨by rw[h.1,decide_eq_true rfl],h.2⟩
   ·
    exact⟨undef,undef,fun h1 h2=>absurd ⟨h1,h2⟩ hc,fun h1 h2=>absurd ⟨h2,h1⟩ hc,fun h1 h2=>absurd ⟨h2,h1⟩ hc⟩
  obtain⟨l1,l2,hq5,htl,htt⟩:=HQ6.o;have HQ5:=ak hq5;have HTL:=ak htl;have HTT:=ak htt;have hzz:decide (0≤z5)=a5:=hz5;clear u1 v1 u2 v2 u3 v3 u4 v4 g0 g1 hy1 hy2 hy3 hy4 hy5 hq5 htl htt hgo hz5;go_cut [125] (fun s125 wx=>s125=.bool false∧w12=wx);case first=>
   cases a5;case false=>
    cases pl;case false=>
     obtain rfl:ae=false:=HAE.o;go_wp2_with (first
      |(refine(aaf _ _).mono ?_;rintro e wq ⟨rfl,rfl⟩;rw[←ZG.o])
      |(refine(LX _ _).mono ?_;rintro e wq ⟨rfl,rfl⟩;rw[←ZG.o]))
     go_meet;(case rel=>exact⟨rfl,rfl⟩)
    case true=>
     obtain rfl:ae=true:=HAE.o;go_wp2_with (first
      |(refine(aaf _ _).mono ?_;rintro e wq ⟨rfl,rfl⟩;rw[←ZG.o])
      |(refine(LX _ _).mono ?_;rintro e wq ⟨rfl,rfl⟩;rw[←ZG.o]))
     go_meet;(case rel=>exact⟨rfl,rfl⟩)
   case true=>
    (obtain rfl:ae=true:=by have h:=HAE.o;rw[Bool.or_true]at h;exact h);go_wp2_with (first
     |(refine(aaf _ _).mono ?_;rintro e wq ⟨rfl,rfl⟩;rw[←ZG.o])
     |(refine(LX _ _).mono ?_;rintro e wq ⟨rfl,rfl⟩;rw[←ZG.o]))
    go_meet;(case rel=>exact⟨rfl,rfl⟩)
  case rest=>
   obtain⟨rfl,rfl⟩:=hcut;clear hz1 hz2 hz3 hz4 hzz;(go_upto_region 12 with fail);obtain⟨Jx,hJx⟩:=aU (FnJ [(.bool a1,true),(.bool (!a1),true),(.bool (!a1),true),(.pointer (some ⟨w3.heap.size,17,none⟩),a1),(.agg #[ah y1.line,ah y1.col],a1),(.slice al l.length cl,a1),(.int .i64 z1,a1),(.pointer (some ⟨g,o+k1*19,none⟩),a1),(.pointer (some ⟨g,o+k1*19+17,none⟩),a1),(.agg #[ah y1.line,ah y1.col],a1),(.bool true,a1),(.bool true,true),(.bool true,true),(.bool a2,true),(.bool (!a2),true),(.bool (!a2),true),(.pointer (some ⟨w5.heap.size,17,none⟩),a2),(.agg #[ah y2.line,ah y2.col],a2),(.slice al l.length cl,a2),(.int .i64 z2,a2),(.pointer (some ⟨g,o+k2*19,none⟩),a2),(.pointer (some ⟨g,o+k2*19+17,none⟩),a2),(.agg #[ah y2.line,ah y2.col],a2),(.bool true,a2),(.bool true,true),(.bool true,true),(.bool true,true),(.bool a3,true),(.bool (!a3),true),(.bool (!a3),true),(.pointer (some ⟨w7.heap.size,17,none⟩),a3),(.agg #[ah y3.line,ah y3.col],a3),(.slice al l.length cl,a3),(.int .i64 z3,a3),(.pointer (some ⟨g,o+k3*19,none⟩),a3),(.pointer (some ⟨g,o+k3*19+17,none⟩),a3),(.agg #[ah y3.line,ah y3.col],a3),(.bool true,a3),(.bool true,true),(.bool true,true),(.bool true,true),(.bool a4,true),(.bool (!a4),true),(.bool (!a4),true),(.pointer (some ⟨w9.heap.size,17,none⟩),a4),(.agg #[ah y4.line,ah y4.col],a4),(.slice al l.length cl,a4),(.int .i64 z4,a4),(.pointer (some ⟨g,o+k4*19,none⟩),a4),(.pointer (some ⟨g,o+k4*19+17,none⟩),a4),(.agg #[ah y4.line,ah y4.col],a4),(.bool true,a4),(.bool true,true),(.bool true,true),(.bool true,true),(.bool ae,true),(.bool (!ae),true),(.bool (!ae),true),(.string head,ae),(.bool pl,ae),(.bool pl,ae),(.pointer (some ⟨w11.heap.size,1,none⟩),(ae&&pl)),(.slice sU gn.types.length sV,(ae&&pl)),(.int .i64 0,(ae&&pl)),(.pointer (some ⟨w11.heap.size,0,none⟩),(ae&&pl)),(.slice lq gn.aF.length lu,(ae&&pl)),(.int .i64 0,(ae&&pl)),(.int .i64 0,(ae&&pl)),(.bool true,(ae&&pl)),(.bool pl,ae),(.bool (!ae||pl),true),(.bool (!ae||pl),true),(.int .i64 z5,(ae&& !pl)),(.bool true,(ae&& !pl)),(.bool true,(ae&& !pl)),(.pointer (some ⟨w11.heap.size,1,none⟩),(ae&& !pl)),(.slice sU gn.types.length sV,(ae&& !pl)),(.slice al l.length cl,(ae&& !pl)),(.int .i64 z5,(ae&& !pl)),(.pointer (some ⟨g,o+k5*19,none⟩),(ae&& !pl)),(.pointer (some ⟨g,o+k5*19+3,none⟩),(ae&& !pl)),(.pointer (some ⟨g,o+k5*19+4,none⟩),(ae&& !pl)),(l2,(ae&& !pl)),(.bool true,(ae&& !pl)),(.bool true,(ae&& !pl)),(.bool true,(ae&& !pl)),(.pointer (some ⟨w11.heap.size,0,none⟩),(ae&& !pl)),(.slice lq gn.aF.length lu,(ae&& !pl)),(.slice al l.length cl,(ae&& !pl)),(.int .i64 z5,(ae&& !pl)),(.pointer (some ⟨g,o+k5*19,none⟩),(ae&& !pl)),(.pointer (some ⟨g,o+k5*19+3,none⟩),(ae&& !pl)),(.pointer (some ⟨g,o+k5*19+3,none⟩),(ae&& !pl)),(l1,(ae&& !pl)),(.bool true,(ae&& !pl)),(.bool true,(ae&& !pl)),(.bool true,true),(.bool true,true),(.bool true,true)] w12);have dL:=ak hJx;clear hJx;refine BN kr Jx 99 rfl kr kr kr kr ?h0 ?hs ?hdone;case h0=>rw[dL.o];exact FnJ.zero (bJ.drew)
   case hs=>
    refine⟨?_,?_,?_,?_,?_,?_,?_,?_,?_,?_,?_,?_,?_,?_,?_,?_,?_,?_,?_,?_,?_,?_,?_,?_,?_,?_,?_,?_,?_,?_,?_,?_,?_,?_,?_,?_,?_,?_,?_,?_,?_,?_,?_,?_,?_,?_,?_,?_,?_,?_,?_,?_,?_,?_,?_,?_,?_,?_,?_,?_,?_,?_,?_,?_,?_,?_,?_,?_,?_,?_,?_,?_,?_,?_,?_,?_,?_,?_,?_,?_,?_,?_,?_,?_,?_,?_,?_,?_,?_,?_,?_,?_,?_,?_,?_,?_,?_,?_,?_,trivial⟩
    all_goals (intro L V X a ev dn hL ax hJ;unfold qG;dsimp only;rw[dL.o]at hJ)
    ·have o12:=dn 12 rfl;change a.tmps[12]?.getD undef=.bool a1 at o12;go_simp;exact⟨_,rfl,by rw[dL.o];exact hJ.up 0 _ (fun u c h=>by cases h;rfl)⟩
    ·have e126:=(ev 0 126 rfl (ax 0 rfl)).trans (hJ.d 0 _ rfl (ax 0 rfl));go_simp;exact⟨_,rfl,by rw[dL.o];exact hJ.up 1 _ (fun u c h=>by cases h;rfl)⟩
    ·have e127:=(ev 1 127 rfl (ax 1 rfl)).trans (hJ.d 1 _ rfl (ax 1 rfl));go_simp;exact⟨_,rfl,by rw[dL.o];exact hJ.up 2 _ (fun u c h=>by cases h;rfl)⟩
    ·cases a1;case false=>exact .inr ⟨(by rw[hJ.d 2 _ rfl (ax 2 rfl)];exact fun e=>nomatch e),by rw[dL.o];exact hJ.up 3 _ (fun u c h=>by cases h;rfl)⟩
     case true=>refine .inl ⟨hJ.d 2 _ rfl (ax 2 rfl),?_⟩;have o11:=dn 11 rfl;change a.tmps[11]?.getD undef=.pointer (some ⟨w3.heap.size,0,none⟩)at o11;obtain⟨hal,o9,hkl,c1,c2,d1,d2⟩:=HQ1.o rfl X hJ.st;clear hal o9;go_simp;exact⟨_,rfl,by rw[dL.o];exact hJ.up 3 _ (fun u c h=>by cases h;rfl)⟩
    ·cases a1;case false=>exact .inr ⟨(by rw[hJ.d 2 _ rfl (ax 2 rfl)];exact fun e=>nomatch e),by rw[dL.o];exact hJ.up 4 _ (fun u c h=>by cases h;rfl)⟩
     case true=>refine .inl ⟨hJ.d 2 _ rfl (ax 2 rfl),?_⟩;have e129:=(ev 3 129 rfl (ax 3 rfl)).trans (hJ.d 3 _ rfl (ax 3 rfl));obtain⟨hal,o9,hkl,c1,c2,d1,d2⟩:=HQ1.o rfl X hJ.st;clear hal o9;go_simp;exact⟨_,rfl,by rw[dL.o];exact hJ.up 4 _ (fun u c h=>by cases h;rfl)⟩
    ·cases a1;case false=>exact .inr ⟨(by rw[hJ.d 2 _ rfl (ax 2 rfl)];exact fun e=>nomatch e),by rw[dL.o];exact hJ.up 5 _ (fun u c h=>by cases h;rfl)⟩
     case true=>refine .inl ⟨hJ.d 2 _ rfl (ax 2 rfl),?_⟩;have o7:=dn 7 rfl;change a.tmps[7]?.getD undef=.slice al l.length cl at o7;obtain⟨hal,o9,hkl,c1,c2,d1,d2⟩:=HQ1.o rfl X hJ.st;clear hal o9;go_simp;exact⟨_,rfl,by rw[dL.o];exact hJ.up 5 _ (fun u c h=>by cases h;rfl)⟩
    ·cases a1;case false=>exact .inr ⟨(by rw[hJ.d 2 _ rfl (ax 2 rfl)];exact fun e=>nomatch e),by rw[dL.o];exact hJ.up 6 _ (fun u c h=>by cases h;rfl)⟩
     case true=>refine .inl ⟨hJ.d 2 _ rfl (ax 2 rfl),?_⟩;have o21:=dn 21 rfl;change a.tmps[21]?.getD undef=.int .i64 z1 at o21;obtain⟨hal,o9,hkl,c1,c2,d1,d2⟩:=HQ1.o rfl X hJ.st;clear hal o9;go_simp;exact⟨_,rfl,by rw[dL.o];exact hJ.up 6 _ (fun u c h=>by cases h;rfl)⟩
    ·cases a1;case false=>exact .inr ⟨(by rw[hJ.d 2 _ rfl (ax 2 rfl)];exact fun e=>nomatch e),by rw[dL.o];exact hJ.up 7 _ (fun u c h=>by cases h;rfl)⟩
     case true=>refine .inl ⟨hJ.d 2 _ rfl (ax 2 rfl),?_⟩;have e131:=(ev 5 131 rfl (ax 5 rfl)).trans (hJ.d 5 _ rfl (ax 5 rfl));have e132:=(ev 6 132 rfl (ax 6 rfl)).trans (hJ.d 6 _ rfl (ax 6 rfl));obtain⟨hal,o9,hkl,c1,c2,d1,d2⟩:=HQ1.o rfl X hJ.st;rw[hal]at e131;rw[o9]at e132;have hk0:(0:Int)≤((k1:Nat):Int):=Int.natCast_nonneg _;(have hkl2:((k1:Nat):Int)<(l.length:Int):=by omega);clear hal o9;go_simp;exact⟨_,rfl,by rw[dL.o];exact hJ.up 7 _ (fun u c h=>by cases h;rfl)⟩
    ·cases a1;case false=>exact .inr ⟨(by rw[hJ.d 2 _ rfl (ax 2 rfl)];exact fun e=>nomatch e),by rw[dL.o];exact hJ.up 8 _ (fun u c h=>by cases h;rfl)⟩
     case true=>refine .inl ⟨hJ.d 2 _ rfl (ax 2 rfl),?_⟩;have e133:=(ev 7 133 rfl (ax 7 rfl)).trans (hJ.d 7 _ rfl (ax 7 rfl));obtain⟨hal,o9,hkl,c1,c2,d1,d2⟩:=HQ1.o rfl X hJ.st;clear hal o9;go_simp;exact⟨_,rfl,by rw[dL.o];exact hJ.up 8 _ (fun u c h=>by cases h;rfl)⟩
    ·cases a1;case false=>exact .inr ⟨(by rw[hJ.d 2 _ rfl (ax 2 rfl)];exact fun e=>nomatch e),by rw[dL.o];exact hJ.up 9 _ (fun u c h=>by cases h;rfl)⟩
     case true=>refine .inl ⟨hJ.d 2 _ rfl (ax 2 rfl),?_⟩;have e134:=(ev 8 134 rfl (ax 8 rfl)).trans (hJ.d 8 _ rfl (ax 8 rfl));obtain⟨hal,o9,hkl,c1,c2,d1,d2⟩:=HQ1.o rfl X hJ.st;clear hal o9;go_simp;exact⟨_,rfl,by rw[dL.o];exact hJ.up 9 _ (fun u c h=>by cases h;rfl)⟩
    ·cases a1;case false=>exact .inr ⟨(by rw[hJ.d 2 _ rfl (ax 2 rfl)];exact fun e=>nomatch e),by rw[dL.o];exact hJ.up 10 _ (fun u c h=>by cases h;rfl)⟩
     case true=>refine .inl ⟨hJ.d 2 _ rfl (ax 2 rfl),?_⟩;have e130:=(ev 4 130 rfl (ax 4 rfl)).trans (hJ.d 4 _ rfl (ax 4 rfl));have e135:=(ev 9 135 rfl (ax 9 rfl)).trans (hJ.d 9 _ rfl (ax 9 rfl));obtain⟨hal,o9,hkl,c1,c2,d1,d2⟩:=HQ1.o rfl X hJ.st;clear hal o9;go_simp;exact⟨_,rfl,by rw[dL.o];exact hJ.up 10 _ (fun u c h=>by cases h;rfl)⟩
    ·cases a1;case false=>have e128:=(ev 2 128 rfl (ax 2 rfl)).trans (hJ.d 2 _ rfl (ax 2 rfl));go_simp;exact⟨_,rfl,by rw[dL.o];exact hJ.up 11 _ (fun u c h=>by cases h;rfl)⟩
     case true=>have e128:=(ev 2 128 rfl (ax 2 rfl)).trans (hJ.d 2 _ rfl (ax 2 rfl));have e136:=(ev 10 136 rfl (ax 10 rfl)).trans (hJ.d 10 _ rfl (ax 10 rfl));go_simp;exact⟨_,rfl,by rw[dL.o];exact hJ.up 11 _ (fun u c h=>by cases h;rfl)⟩
    ·have e137:=(ev 11 137 rfl (ax 11 rfl)).trans (hJ.d 11 _ rfl (ax 11 rfl));go_simp;exact⟨_,rfl,by rw[dL.o];exact hJ.up 12 _ (fun u c h=>by cases h;rfl)⟩
    ·refine .inl ⟨hJ.d 12 _ rfl (ax 12 rfl),?_⟩;have o14:=dn 14 rfl;change a.tmps[14]?.getD undef=.bool a2 at o14;go_simp;exact⟨_,rfl,by rw[dL.o];exact hJ.up 13 _ (fun u c h=>by cases h;rfl)⟩
    ·refine .inl ⟨hJ.d 12 _ rfl (ax 12 rfl),?_⟩;have e139:=(ev 13 139 rfl (ax 13 rfl)).trans (hJ.d 13 _ rfl (ax 13 rfl));go_simp;exact⟨_,rfl,by rw[dL.o];exact hJ.up 14 _ (fun u c h=>by cases h;rfl)⟩
    ·refine .inl ⟨hJ.d 12 _ rfl (ax 12 rfl),?_⟩;have e140:=(ev 14 140 rfl (ax 14 rfl)).trans (hJ.d 14 _ rfl (ax 14 rfl));go_simp;exact⟨_,rfl,by rw[dL.o];exact hJ.up 15 _ (fun u c h=>by cases h;rfl)⟩
    ·cases a2;case false=>exact .inr ⟨(by rw[hJ.d 15 _ rfl (ax 15 rfl)];exact fun e=>nomatch e),by rw[dL.o];exact hJ.up 16 _ (fun u c h=>by cases h;rfl)⟩
     case true=>refine .inl ⟨hJ.d 15 _ rfl (ax 15 rfl),?_⟩;have o13:=dn 13 rfl;change a.tmps[13]?.getD undef=.pointer (some ⟨w5.heap.size,0,none⟩)at o13;obtain⟨hal,o9,hkl,c1,c2,d1,d2⟩:=YM.o rfl X hJ.st;clear hal o9;go_simp;exact⟨_,rfl,by rw[dL.o];exact hJ.up 16 _ (fun u c h=>by cases h;rfl)⟩
    ·cases a2;case false=>exact .inr ⟨(by rw[hJ.d 15 _ rfl (ax 15 rfl)];exact fun e=>nomatch e),by rw[dL.o];exact hJ.up 17 _ (fun u c h=>by cases h;rfl)⟩
     case true=>refine .inl ⟨hJ.d 15 _ rfl (ax 15 rfl),?_⟩;have e142:=(ev 16 142 rfl (ax 16 rfl)).trans (hJ.d 16 _ rfl (ax 16 rfl));obtain⟨hal,o9,hkl,c1,c2,d1,d2⟩:=YM.o rfl X hJ.st;clear hal o9;go_simp;exact⟨_,rfl,by rw[dL.o];exact hJ.up 17 _ (fun u c h=>by cases h;rfl)⟩
    ·cases a2;case false=>exact .inr ⟨(by rw[hJ.d 15 _ rfl (ax 15 rfl)];exact fun e=>nomatch e),by rw[dL.o];exact hJ.up 18 _ (fun u c h=>by cases h;rfl)⟩
     case true=>refine .inl ⟨hJ.d 15 _ rfl (ax 15 rfl),?_⟩;have o7:=dn 7 rfl;change a.tmps[7]?.getD undef=.slice al l.length cl at o7;obtain⟨hal,o9,hkl,c1,c2,d1,d2⟩:=YM.o rfl X hJ.st;clear hal o9;go_simp;exact⟨_,rfl,by rw[dL.o];exact hJ.up 18 _ (fun u c h=>by cases h;rfl)⟩
    ·cases a2;case false=>exact .inr ⟨(by rw[hJ.d 15 _ rfl (ax 15 rfl)];exact fun e=>nomatch e),by rw[dL.o];exact hJ.up 19 _ (fun u c h=>by cases h;rfl)⟩
     case true=>refine .inl ⟨hJ.d 15 _ rfl (ax 15 rfl),?_⟩;have o22:=dn 22 rfl;change a.tmps[22]?.getD undef=.int .i64 z2 at o22;obtain⟨hal,o9,hkl,c1,c2,d1,d2⟩:=YM.o rfl X hJ.st;clear hal o9;go_simp;exact⟨_,rfl,by rw[dL.o];exact hJ.up 19 _ (fun u c h=>by cases h;rfl)⟩
    ·cases a2;case false=>exact .inr ⟨(by rw[hJ.d 15 _ rfl (ax 15 rfl)];exact fun e=>nomatch e),by rw[dL.o];exact hJ.up 20 _ (fun u c h=>by cases h;rfl)⟩
     case true=>refine .inl ⟨hJ.d 15 _ rfl (ax 15 rfl),?_⟩;have e144:=(ev 18 144 rfl (ax 18 rfl)).trans (hJ.d 18 _ rfl (ax 18 rfl));have e145:=(ev 19 145 rfl (ax 19 rfl)).trans (hJ.d 19 _ rfl (ax 19 rfl));obtain⟨hal,o9,hkl,c1,c2,d1,d2⟩:=YM.o rfl X hJ.st;rw[hal]at e144;rw[o9]at e145;have hk0:(0:Int)≤((k2:Nat):Int):=Int.natCast_nonneg _;(have hkl2:((k2:Nat):Int)<(l.length:Int):=by omega);clear hal o9;go_simp;exact⟨_,rfl,by rw[dL.o];exact hJ.up 20 _ (fun u c h=>by cases h;rfl)⟩
    ·cases a2;case false=>exact .inr ⟨(by rw[hJ.d 15 _ rfl (ax 15 rfl)];exact fun e=>nomatch e),by rw[dL.o];exact hJ.up 21 _ (fun u c h=>by cases h;rfl)⟩
     case true=>refine .inl ⟨hJ.d 15 _ rfl (ax 15 rfl),?_⟩;have e146:=(ev 20 146 rfl (ax 20 rfl)).trans (hJ.d 20 _ rfl (ax 20 rfl));obtain⟨hal,o9,hkl,c1,c2,d1,d2⟩:=YM.o rfl X hJ.st;clear hal o9;go_simp;exact⟨_,rfl,by rw[dL.o];exact hJ.up 21 _ (fun u c h=>by cases h;rfl)⟩
    ·cases a2;case false=>exact .inr ⟨(by rw[hJ.d 15 _ rfl (ax 15 rfl)];exact fun e=>nomatch e),by rw[dL.o];exact hJ.up 22 _ (fun u c h=>by cases h;rfl)⟩
     case true=>refine .inl ⟨hJ.d 15 _ rfl (ax 15 rfl),?_⟩;have e147:=(ev 21 147 rfl (ax 21 rfl)).trans (hJ.d 21 _ rfl (ax 21 rfl));obtain⟨hal,o9,hkl,c1,c2,d1,d2⟩:=YM.o rfl X hJ.st;clear hal o9;go_simp;exact⟨_,rfl,by rw[dL.o];exact hJ.up 22 _ (fun u c h=>by cases h;rfl)⟩
    ·cases a2;case false=>exact .inr ⟨(by rw[hJ.d 15 _ rfl (ax 15 rfl)];exact fun e=>nomatch e),by rw[dL.o];exact hJ.up 23 _ (fun u c h=>by cases h;rfl)⟩
     case true=>refine .inl ⟨hJ.d 15 _ rfl (ax 15 rfl),?_⟩;have e143:=(ev 17 143 rfl (ax 17 rfl)).trans (hJ.d 17 _ rfl (ax 17 rfl));have e148:=(ev 22 148 rfl (ax 22 rfl)).trans (hJ.d 22 _ rfl (ax 22 rfl));obtain⟨hal,o9,hkl,c1,c2,d1,d2⟩:=YM.o rfl X hJ.st;clear hal o9;go_simp;exact⟨_,rfl,by rw[dL.o];exact hJ.up 23 _ (fun u c h=>by cases h;rfl)⟩
    ·cases a2;case false=>refine .inl ⟨hJ.d 12 _ rfl (ax 12 rfl),?_⟩;have e141:=(ev 15 141 rfl (ax 15 rfl)).trans (hJ.d 15 _ rfl (ax 15 rfl));go_simp;exact⟨_,rfl,by rw[dL.o];exact hJ.up 24 _ (fun u c h=>by cases h;rfl)⟩
     case true=>refine .inl ⟨hJ.d 12 _ rfl (ax 12 rfl),?_⟩;have e141:=(ev 15 141 rfl (ax 15 rfl)).trans (hJ.d 15 _ rfl (ax 15 rfl));have e149:=(ev 23 149 rfl (ax 23 rfl)).trans (hJ.d 23 _ rfl (ax 23 rfl));go_simp;exact⟨_,rfl,by rw[dL.o];exact hJ.up 24 _ (fun u c h=>by cases h;rfl)⟩
    ·have e138:=(ev 12 138 rfl (ax 12 rfl)).trans (hJ.d 12 _ rfl (ax 12 rfl));have e150:=(ev 24 150 rfl (ax 24 rfl)).trans (hJ.d 24 _ rfl (ax 24 rfl));go_simp;exact⟨_,rfl,by rw[dL.o];exact hJ.up 25 _ (fun u c h=>by cases h;rfl)⟩
    ·have e151:=(ev 25 151 rfl (ax 25 rfl)).trans (hJ.d 25 _ rfl (ax 25 rfl));go_simp;exact⟨_,rfl,by rw[dL.o];exact hJ.up 26 _ (fun u c h=>by cases h;rfl)⟩
    ·refine .inl ⟨hJ.d 26 _ rfl (ax 26 rfl),?_⟩;have o16:=dn 16 rfl;change a.tmps[16]?.getD undef=.bool a3 at o16;go_simp;exact⟨_,rfl,by rw[dL.o];exact hJ.up 27 _ (fun u c h=>by cases h;rfl)⟩
    ·refine .inl ⟨hJ.d 26 _ rfl (ax 26 rfl),?_⟩;have e153:=(ev 27 153 rfl (ax 27 rfl)).trans (hJ.d 27 _ rfl (ax 27 rfl));go_simp;exact⟨_,rfl,by rw[dL.o];exact hJ.up 28 _ (fun u c h=>by cases h;rfl)⟩
    ·refine .inl ⟨hJ.d 26 _ rfl (ax 26 rfl),?_⟩;have e154:=(ev 28 154 rfl (ax 28 rfl)).trans (hJ.d 28 _ rfl (ax 28 rfl));go_simp;exact⟨_,rfl,by rw[dL.o];exact hJ.up 29 _ (fun u c h=>by cases h;rfl)⟩
    ·cases a3;case false=>exact .inr ⟨(by rw[hJ.d 29 _ rfl (ax 29 rfl)];exact fun e=>nomatch e),by rw[dL.o];exact hJ.up 30 _ (fun u c h=>by cases h;rfl)⟩
     case true=>refine .inl ⟨hJ.d 29 _ rfl (ax 29 rfl),?_⟩;have o15:=dn 15 rfl;change a.tmps[15]?.getD undef=.pointer (some ⟨w7.heap.size,0,none⟩)at o15;obtain⟨hal,o9,hkl,c1,c2,d1,d2⟩:=HQ3.o rfl X hJ.st;clear hal o9;go_simp;exact⟨_,rfl,by rw[dL.o];exact hJ.up 30 _ (fun u c h=>by cases h;rfl)⟩
    ·cases a3;case false=>exact .inr ⟨(by rw[hJ.d 29 _ rfl (ax 29 rfl)];exact fun e=>nomatch e),by rw[dL.o];exact hJ.up 31 _ (fun u c h=>by cases h;rfl)⟩
     case true=>refine .inl ⟨hJ.d 29 _ rfl (ax 29 rfl),?_⟩;have e156:=(ev 30 156 rfl (ax 30 rfl)).trans (hJ.d 30 _ rfl (ax 30 rfl));obtain⟨hal,o9,hkl,c1,c2,d1,d2⟩:=HQ3.o rfl X hJ.st;clear hal o9;go_simp;exact⟨_,rfl,by rw[dL.o];exact hJ.up 31 _ (fun u c h=>by cases h;rfl)⟩
    ·cases a3;case false=>exact .inr ⟨(by rw[hJ.d 29 _ rfl (ax 29 rfl)];exact fun e=>nomatch e),by rw[dL.o];exact hJ.up 32 _ (fun u c h=>by cases h;rfl)⟩
     case true=>refine .inl ⟨hJ.d 29 _ rfl (ax 29 rfl),?_⟩;have o7:=dn 7 rfl;change a.tmps[7]?.getD undef=.slice al l.length cl at o7;obtain⟨hal,o9,hkl,c1,c2,d1,d2⟩:=HQ3.o rfl X hJ.st;clear hal o9;go_simp;exact⟨_,rfl,by rw[dL.o];exact hJ.up 32 _ (fun u c h=>by cases h;rfl)⟩
    ·cases a3;case false=>exact .inr ⟨(by rw[hJ.d 29 _ rfl (ax 29 rfl)];exact fun e=>nomatch e),by rw[dL.o];exact hJ.up 33 _ (fun u c h=>by cases h;rfl)⟩
     case true=>refine .inl ⟨hJ.d 29 _ rfl (ax 29 rfl),?_⟩;have o23:=dn 23 rfl;change a.tmps[23]?.getD undef=.int .i64 z3 at o23;obtain⟨hal,o9,hkl,c1,c2,d1,d2⟩:=HQ3.o rfl X hJ.st;clear hal o9;go_simp;exact⟨_,rfl,by rw[dL.o];exact hJ.up 33 _ (fun u c h=>by cases h;rfl)⟩
    ·cases a3;case false=>exact .inr ⟨(by rw[hJ.d 29 _ rfl (ax 29 rfl)];exact fun e=>nomatch e),by rw[dL.o];exact hJ.up 34 _ (fun u c h=>by cases h;rfl)⟩
     case true=>refine .inl ⟨hJ.d 29 _ rfl (ax 29 rfl),?_⟩;have e158:=(ev 32 158 rfl (ax 32 rfl)).trans (hJ.d 32 _ rfl (ax 32 rfl));have e159:=(ev 33 159 rfl (ax 33 rfl)).trans (hJ.d 33 _ rfl (ax 33 rfl));obtain⟨hal,o9,hkl,c1,c2,d1,d2⟩:=HQ3.o rfl X hJ.st;rw[hal]at e158;rw[o9]at e159;have hk0:(0:Int)≤((k3:Nat):Int):=Int.natCast_nonneg _;(have hkl2:((k3:Nat):Int)<(l.length:Int):=by omega);clear hal o9;go_simp;exact⟨_,rfl,by rw[dL.o];exact hJ.up 34 _ (fun u c h=>by cases h;rfl)⟩
    ·cases a3;case false=>exact .inr ⟨(by rw[hJ.d 29 _ rfl (ax 29 rfl)];exact fun e=>nomatch e),by rw[dL.o];exact hJ.up 35 _ (fun u c h=>by cases h;rfl)⟩
     case true=>refine .inl ⟨hJ.d 29 _ rfl (ax 29 rfl),?_⟩;have e160:=(ev 34 160 rfl (ax 34 rfl)).trans (hJ.d 34 _ rfl (ax 34 rfl));obtain⟨hal,o9,hkl,c1,c2,d1,d2⟩:=HQ3.o rfl X hJ.st;clear hal o9;go_simp;exact⟨_,rfl,by rw[dL.o];exact hJ.up 35 _ (fun u c h=>by cases h;rfl)⟩
    ·cases a3;case false=>exact .inr ⟨(by rw[hJ.d 29 _ rfl (ax 29 rfl)];exact fun e=>nomatch e),by rw[dL.o];exact hJ.up 36 _ (fun u c h=>by cases h;rfl)⟩
     case true=>refine .inl ⟨hJ.d 29 _ rfl (ax 29 rfl),?_⟩;have e161:=(ev 35 161 rfl (ax 35 rfl)).trans (hJ.d 35 _ rfl (ax 35 rfl));obtain⟨hal,o9,hkl,c1,c2,d1,d2⟩:=HQ3.o rfl X hJ.st;clear hal o9;go_simp;exact⟨_,rfl,by rw[dL.o];exact hJ.up 36 _ (fun u c h=>by cases h;rfl)⟩
    ·cases a3;case false=>exact .inr ⟨(by rw[hJ.d 29 _ rfl (ax 29 rfl)];exact fun e=>nomatch e),by rw[dL.o];exact hJ.up 37 _ (fun u c h=>by cases h;rfl)⟩
     case true=>refine .inl ⟨hJ.d 29 _ rfl (ax 29 rfl),?_⟩;have e157:=(ev 31 157 rfl (ax 31 rfl)).trans (hJ.d 31 _ rfl (ax 31 rfl));have e162:=(ev 36 162 rfl (ax 36 rfl)).trans (hJ.d 36 _ rfl (ax 36 rfl));obtain⟨hal,o9,hkl,c1,c2,d1,d2⟩:=HQ3.o rfl X hJ.st;clear hal o9;go_simp;exact⟨_,rfl,by rw[dL.o];exact hJ.up 37 _ (fun u c h=>by cases h;rfl)⟩
    ·cases a3;case false=>refine .inl ⟨hJ.d 26 _ rfl (ax 26 rfl),?_⟩;have e155:=(ev 29 155 rfl (ax 29 rfl)).trans (hJ.d 29 _ rfl (ax 29 rfl));go_simp;exact⟨_,rfl,by rw[dL.o];exact hJ.up 38 _ (fun u c h=>by cases h;rfl)⟩
     case true=>refine .inl ⟨hJ.d 26 _ rfl (ax 26 rfl),?_⟩;have e155:=(ev 29 155 rfl (ax 29 rfl)).trans (hJ.d 29 _ rfl (ax 29 rfl));have e163:=(ev 37 163 rfl (ax 37 rfl)).trans (hJ.d 37 _ rfl (ax 37 rfl));go_simp;exact⟨_,rfl,by rw[dL.o];exact hJ.up 38 _ (fun u c h=>by cases h;rfl)⟩
    ·have e152:=(ev 26 152 rfl (ax 26 rfl)).trans (hJ.d 26 _ rfl (ax 26 rfl));have e164:=(ev 38 164 rfl (ax 38 rfl)).trans (hJ.d 38 _ rfl (ax 38 rfl));go_simp;exact⟨_,rfl,by rw[dL.o];exact hJ.up 39 _ (fun u c h=>by cases h;rfl)⟩
    ·have e165:=(ev 39 165 rfl (ax 39 rfl)).trans (hJ.d 39 _ rfl (ax 39 rfl));go_simp;exact⟨_,rfl,by rw[dL.o];exact hJ.up 40 _ (fun u c h=>by cases h;rfl)⟩
    ·refine .inl ⟨hJ.d 40 _ rfl (ax 40 rfl),?_⟩;have o18:=dn 18 rfl;change a.tmps[18]?.getD undef=.bool a4 at o18;go_simp;exact⟨_,rfl,by rw[dL.o];exact hJ.up 41 _ (fun u c h=>by cases h;rfl)⟩
    ·refine .inl ⟨hJ.d 40 _ rfl (ax 40 rfl),?_⟩;have e167:=(ev 41 167 rfl (ax 41 rfl)).trans (hJ.d 41 _ rfl (ax 41 rfl));go_simp;exact⟨_,rfl,by rw[dL.o];exact hJ.up 42 _ (fun u c h=>by cases h;rfl)⟩
    ·refine .inl ⟨hJ.d 40 _ rfl (ax 40 rfl),?_⟩;have e168:=(ev 42 168 rfl (ax 42 rfl)).trans (hJ.d 42 _ rfl (ax 42 rfl));go_simp;exact⟨_,rfl,by rw[dL.o];exact hJ.up 43 _ (fun u c h=>by cases h;rfl)⟩
    ·cases a4;case false=>exact .inr ⟨(by rw[hJ.d 43 _ rfl (ax 43 rfl)];exact fun e=>nomatch e),by rw[dL.o];exact hJ.up 44 _ (fun u c h=>by cases h;rfl)⟩
     case true=>refine .inl ⟨hJ.d 43 _ rfl (ax 43 rfl),?_⟩;have o17:=dn 17 rfl;change a.tmps[17]?.getD undef=.pointer (some ⟨w9.heap.size,0,none⟩)at o17;obtain⟨hal,o9,hkl,c1,c2,d1,d2⟩:=HQ4.o rfl X hJ.st;clear hal o9;go_simp;exact⟨_,rfl,by rw[dL.o];exact hJ.up 44 _ (fun u c h=>by cases h;rfl)⟩
    ·cases a4;case false=>exact .inr ⟨(by rw[hJ.d 43 _ rfl (ax 43 rfl)];exact fun e=>nomatch e),by rw[dL.o];exact hJ.up 45 _ (fun u c h=>by cases h;rfl)⟩
     case true=>refine .inl ⟨hJ.d 43 _ rfl (ax 43 rfl),?_⟩;have e170:=(ev 44 170 rfl (ax 44 rfl)).trans (hJ.d 44 _ rfl (ax 44 rfl));obtain⟨hal,o9,hkl,c1,c2,d1,d2⟩:=HQ4.o rfl X hJ.st;clear hal o9;go_simp;exact⟨_,rfl,by rw[dL.o];exact hJ.up 45 _ (fun u c h=>by cases h;rfl)⟩
    ·cases a4;case false=>exact .inr ⟨(by rw[hJ.d 43 _ rfl (ax 43 rfl)];exact fun e=>nomatch e),by rw[dL.o];exact hJ.up 46 _ (fun u c h=>by cases h;rfl)⟩
     case true=>refine .inl ⟨hJ.d 43 _ rfl (ax 43 rfl),?_⟩;have o7:=dn 7 rfl;change a.tmps[7]?.getD undef=.slice al l.length cl at o7;obtain⟨hal,o9,hkl,c1,c2,d1,d2⟩:=HQ4.o rfl X hJ.st;clear hal o9;go_simp;exact⟨_,rfl,by rw[dL.o];exact hJ.up 46 _ (fun u c h=>by cases h;rfl)⟩
    ·cases a4;case false=>exact .inr ⟨(by rw[hJ.d 43 _ rfl (ax 43 rfl)];exact fun e=>nomatch e),by rw[dL.o];exact hJ.up 47 _ (fun u c h=>by cases h;rfl)⟩
     case true=>refine .inl ⟨hJ.d 43 _ rfl (ax 43 rfl),?_⟩;have o24:=dn 24 rfl;change a.tmps[24]?.getD undef=.int .i64 z4 at o24;obtain⟨hal,o9,hkl,c1,c2,d1,d2⟩:=HQ4.o rfl X hJ.st;clear hal o9;go_simp;exact⟨_,rfl,by rw[dL.o];exact hJ.up 47 _ (fun u c h=>by cases h;rfl)⟩
    ·cases a4;case false=>exact .inr ⟨(by rw[hJ.d 43 _ rfl (ax 43 rfl)];exact fun e=>nomatch e),by rw[dL.o];exact hJ.up 48 _ (fun u c h=>by cases h;rfl)⟩
     case true=>refine .inl ⟨hJ.d 43 _ rfl (ax 43 rfl),?_⟩;have e172:=(ev 46 172 rfl (ax 46 rfl)).trans (hJ.d 46 _ rfl (ax 46 rfl));have e173:=(ev 47 173 rfl (ax 47 rfl)).trans (hJ.d 47 _ rfl (ax 47 rfl));obtain⟨hal,o9,hkl,c1,c2,d1,d2⟩:=HQ4.o rfl X hJ.st;rw[hal]at e172;rw[o9]at e173;have hk0:(0:Int)≤((k4:Nat):Int):=Int.natCast_nonneg _;(have hkl2:((k4:Nat):Int)<(l.length:Int):=by omega);clear hal o9;go_simp;exact⟨_,rfl,by rw[dL.o];exact hJ.up 48 _ (fun u c h=>by cases h;rfl)⟩
    ·cases a4;case false=>exact .inr ⟨(by rw[hJ.d 43 _ rfl (ax 43 rfl)];exact fun e=>nomatch e),by rw[dL.o];exact hJ.up 49 _ (fun u c h=>by cases h;rfl)⟩
     case true=>refine .inl ⟨hJ.d 43 _ rfl (ax 43 rfl),?_⟩;have e174:=(ev 48 174 rfl (ax 48 rfl)).trans (hJ.d 48 _ rfl (ax 48 rfl));obtain⟨hal,o9,hkl,c1,c2,d1,d2⟩:=HQ4.o rfl X hJ.st;clear hal o9;go_simp;exact⟨_,rfl,by rw[dL.o];exact hJ.up 49 _ (fun u c h=>by cases h;rfl)⟩
    ·cases a4;case false=>exact .inr ⟨(by rw[hJ.d 43 _ rfl (ax 43 rfl)];exact fun e=>nomatch e),by rw[dL.o];exact hJ.up 50 _ (fun u c h=>by cases h;rfl)⟩
     case true=>refine .inl ⟨hJ.d 43 _ rfl (ax 43 rfl),?_⟩;have e175:=(ev 49 175 rfl (ax 49 rfl)).trans (hJ.d 49 _ rfl (ax 49 rfl));obtain⟨hal,o9,hkl,c1,c2,d1,d2⟩:=HQ4.o rfl X hJ.st;clear hal o9;go_simp;exact⟨_,rfl,by rw[dL.o];exact hJ.up 50 _ (fun u c h=>by cases h;rfl)⟩
    ·cases a4;case false=>exact .inr ⟨(by rw[hJ.d 43 _ rfl (ax 43 rfl)];exact fun e=>nomatch e),by rw[dL.o];exact hJ.up 51 _ (fun u c h=>by cases h;rfl)⟩
     case true=>refine .inl ⟨hJ.d 43 _ rfl (ax 43 rfl),?_⟩;have e171:=(ev 45 171 rfl (ax 45 rfl)).trans (hJ.d 45 _ rfl (ax 45 rfl));have e176:=(ev 50 176 rfl (ax 50 rfl)).trans (hJ.d 50 _ rfl (ax 50 rfl));obtain⟨hal,o9,hkl,c1,c2,d1,d2⟩:=HQ4.o rfl X hJ.st;clear hal o9;go_simp;exact⟨_,rfl,by rw[dL.o];exact hJ.up 51 _ (fun u c h=>by cases h;rfl)⟩
    ·cases a4;case false=>refine .inl ⟨hJ.d 40 _ rfl (ax 40 rfl),?_⟩;have e169:=(ev 43 169 rfl (ax 43 rfl)).trans (hJ.d 43 _ rfl (ax 43 rfl));go_simp;exact⟨_,rfl,by rw[dL.o];exact hJ.up 52 _ (fun u c h=>by cases h;rfl)⟩
     case true=>refine .inl ⟨hJ.d 40 _ rfl (ax 40 rfl),?_⟩;have e169:=(ev 43 169 rfl (ax 43 rfl)).trans (hJ.d 43 _ rfl (ax 43 rfl));have e177:=(ev 51 177 rfl (ax 51 rfl)).trans (hJ.d 51 _ rfl (ax 51 rfl));go_simp;exact⟨_,rfl,by rw[dL.o];exact hJ.up 52 _ (fun u c h=>by cases h;rfl)⟩
    ·have e166:=(ev 40 166 rfl (ax 40 rfl)).trans (hJ.d 40 _ rfl (ax 40 rfl));have e178:=(ev 52 178 rfl (ax 52 rfl)).trans (hJ.d 52 _ rfl (ax 52 rfl));go_simp;exact⟨_,rfl,by rw[dL.o];exact hJ.up 53 _ (fun u c h=>by cases h;rfl)⟩
    ·have e179:=(ev 53 179 rfl (ax 53 rfl)).trans (hJ.d 53 _ rfl (ax 53 rfl));go_simp;exact⟨_,rfl,by rw[dL.o];exact hJ.up 54 _ (fun u c h=>by cases h;rfl)⟩
    ·refine .inl ⟨hJ.d 54 _ rfl (ax 54 rfl),?_⟩;have o20:=dn 20 rfl;change a.tmps[20]?.getD undef=.bool ae at o20;go_simp;exact⟨_,rfl,by rw[dL.o];exact hJ.up 55 _ (fun u c h=>by cases h;rfl)⟩
    ·refine .inl ⟨hJ.d 54 _ rfl (ax 54 rfl),?_⟩;have e181:=(ev 55 181 rfl (ax 55 rfl)).trans (hJ.d 55 _ rfl (ax 55 rfl));go_simp;exact⟨_,rfl,by rw[dL.o];exact hJ.up 56 _ (fun u c h=>by cases h;rfl)⟩
    ·refine .inl ⟨hJ.d 54 _ rfl (ax 54 rfl),?_⟩;have e182:=(ev 56 182 rfl (ax 56 rfl)).trans (hJ.d 56 _ rfl (ax 56 rfl));go_simp;exact⟨_,rfl,by rw[dL.o];exact hJ.up 57 _ (fun u c h=>by cases h;rfl)⟩
    ·cases ae;case false=>exact .inr ⟨(by rw[hJ.d 57 _ rfl (ax 57 rfl)];exact fun e=>nomatch e),by rw[dL.o];exact hJ.up 58 _ (fun u c h=>by cases h;rfl)⟩
     case true=>refine .inl ⟨hJ.d 57 _ rfl (ax 57 rfl),?_⟩;have o2:=dn 2 rfl;change a.tmps[2]?.getD undef=.string head at o2;go_simp;exact⟨_,rfl,by rw[dL.o];exact hJ.up 58 _ (fun u c h=>by cases h;rfl)⟩
    ·cases ae;case false=>exact .inr ⟨(by rw[hJ.d 57 _ rfl (ax 57 rfl)];exact fun e=>nomatch e),by rw[dL.o];exact hJ.up 59 _ (fun u c h=>by cases h;rfl)⟩
     case true=>refine .inl ⟨hJ.d 57 _ rfl (ax 57 rfl),?_⟩;have e184:=(ev 58 184 rfl (ax 58 rfl)).trans (hJ.d 58 _ rfl (ax 58 rfl));go_simp;refine(aaf _ _).mono ?_;rintro e5 w5 ⟨rfl,rfl⟩;exact⟨_,rfl,by rw[dL.o];exact hJ.up 59 _ (fun u c h=>by cases h;exact congrArg Value.bool ZG.o.symm)⟩
    ·cases ae;case false=>exact .inr ⟨(by rw[hJ.d 57 _ rfl (ax 57 rfl)];exact fun e=>nomatch e),by rw[dL.o];exact hJ.up 60 _ (fun u c h=>by cases h;rfl)⟩
     case true=>refine .inl ⟨hJ.d 57 _ rfl (ax 57 rfl),?_⟩;have e185:=(ev 59 185 rfl (ax 59 rfl)).trans (hJ.d 59 _ rfl (ax 59 rfl));go_simp;exact⟨_,rfl,by rw[dL.o];exact hJ.up 60 _ (fun u c h=>by cases h;rfl)⟩
    ·cases ae;case false=>exact .inr ⟨(by rw[hJ.u 60 _ rfl (ax 60 rfl)];exact fun e=>nomatch e),by rw[dL.o];exact hJ.up 61 _ (fun u c h=>by cases h;rfl)⟩
     case true=>
      cases pl;case false=>exact .inr ⟨(by rw[hJ.d 60 _ rfl (ax 60 rfl)];exact fun e=>nomatch e),by rw[dL.o];exact hJ.up 61 _ (fun u c h=>by cases h;rfl)⟩
      case true=>refine .inl ⟨hJ.d 60 _ rfl (ax 60 rfl),?_⟩;have o19:=dn 19 rfl;change a.tmps[19]?.getD undef=.pointer (some ⟨w11.heap.size,0,none⟩)at o19;obtain⟨g0,g1⟩:=HGC.o X hJ.st;go_simp;exact⟨_,rfl,by rw[dL.o];exact hJ.up 61 _ (fun u c h=>by cases h;rfl)⟩
    ·cases ae;case false=>exact .inr ⟨(by rw[hJ.u 60 _ rfl (ax 60 rfl)];exact fun e=>nomatch e),by rw[dL.o];exact hJ.up 62 _ (fun u c h=>by cases h;rfl)⟩
     case true=>
      cases pl;case false=>exact .inr ⟨(by rw[hJ.d 60 _ rfl (ax 60 rfl)];exact fun e=>nomatch e),by rw[dL.o];exact hJ.up 62 _ (fun u c h=>by cases h;rfl)⟩
      case true=>refine .inl ⟨hJ.d 60 _ rfl (ax 60 rfl),?_⟩;have e187:=(ev 61 187 rfl (ax 61 rfl)).trans (hJ.d 61 _ rfl (ax 61 rfl));obtain⟨g0,g1⟩:=HGC.o X hJ.st;go_simp;exact⟨_,rfl,by rw[dL.o];exact hJ.up 62 _ (fun u c h=>by cases h;rfl)⟩
    ·cases ae;case false=>exact .inr ⟨(by rw[hJ.u 60 _ rfl (ax 60 rfl)];exact fun e=>nomatch e),by rw[dL.o];exact hJ.up 63 _ (fun u c h=>by cases h;rfl)⟩
     case true=>
      cases pl;case false=>exact .inr ⟨(by rw[hJ.d 60 _ rfl (ax 60 rfl)];exact fun e=>nomatch e),by rw[dL.o];exact hJ.up 63 _ (fun u c h=>by cases h;rfl)⟩
      case true=>refine .inl ⟨hJ.d 60 _ rfl (ax 60 rfl),?_⟩;have e188:=(ev 62 188 rfl (ax 62 rfl)).trans (hJ.d 62 _ rfl (ax 62 rfl));obtain⟨g0,g1⟩:=HGC.o X hJ.st;obtain⟨n0,n1⟩:=HGZ.o rfl;rw[n1]at e188;go_simp;exact⟨_,rfl,by rw[dL.o];exact hJ.up 63 _ (fun u c h=>by cases h;rfl)⟩
    ·cases ae;case false=>exact .inr ⟨(by rw[hJ.u 60 _ rfl (ax 60 rfl)];exact fun e=>nomatch e),by rw[dL.o];exact hJ.up 64 _ (fun u c h=>by cases h;rfl)⟩
     case true=>
      cases pl;case false=>exact .inr ⟨(by rw[hJ.d 60 _ rfl (ax 60 rfl)];exact fun e=>nomatch e),by rw[dL.o];exact hJ.up 64 _ (fun u c h=>by cases h;rfl)⟩
      case true=>refine .inl ⟨hJ.d 60 _ rfl (ax 60 rfl),?_⟩;have o19:=dn 19 rfl;change a.tmps[19]?.getD undef=.pointer (some ⟨w11.heap.size,0,none⟩)at o19;obtain⟨g0,g1⟩:=HGC.o X hJ.st;go_simp;exact⟨_,rfl,by rw[dL.o];exact hJ.up 64 _ (fun u c h=>by cases h;rfl)⟩
    ·cases ae;case false=>exact .inr ⟨(by rw[hJ.u 60 _ rfl (ax 60 rfl)];exact fun e=>nomatch e),by rw[dL.o];exact hJ.up 65 _ (fun u c h=>by cases h;rfl)⟩
     case true=>
      cases pl;case false=>exact .inr ⟨(by rw[hJ.d 60 _ rfl (ax 60 rfl)];exact fun e=>nomatch e),by rw[dL.o];exact hJ.up 65 _ (fun u c h=>by cases h;rfl)⟩
      case true=>refine .inl ⟨hJ.d 60 _ rfl (ax 60 rfl),?_⟩;have e190:=(ev 64 190 rfl (ax 64 rfl)).trans (hJ.d 64 _ rfl (ax 64 rfl));obtain⟨g0,g1⟩:=HGC.o X hJ.st;go_simp;exact⟨_,rfl,by rw[dL.o];exact hJ.up 65 _ (fun u c h=>by cases h;rfl)⟩
    ·cases ae;case false=>exact .inr ⟨(by rw[hJ.u 60 _ rfl (ax 60 rfl)];exact fun e=>nomatch e),by rw[dL.o];exact hJ.up 66 _ (fun u c h=>by cases h;rfl)⟩
     case true=>
      cases pl;case false=>exact .inr ⟨(by rw[hJ.d 60 _ rfl (ax 60 rfl)];exact fun e=>nomatch e),by rw[dL.o];exact hJ.up 66 _ (fun u c h=>by cases h;rfl)⟩
      case true=>refine .inl ⟨hJ.d 60 _ rfl (ax 60 rfl),?_⟩;have e191:=(ev 65 191 rfl (ax 65 rfl)).trans (hJ.d 65 _ rfl (ax 65 rfl));obtain⟨g0,g1⟩:=HGC.o X hJ.st;obtain⟨n0,n1⟩:=HGZ.o rfl;rw[n0]at e191;go_simp;exact⟨_,rfl,by rw[dL.o];exact hJ.up 66 _ (fun u c h=>by cases h;rfl)⟩
    ·cases ae;case false=>exact .inr ⟨(by rw[hJ.u 60 _ rfl (ax 60 rfl)];exact fun e=>nomatch e),by rw[dL.o];exact hJ.up 67 _ (fun u c h=>by cases h;rfl)⟩
     case true=>
      cases pl;case false=>exact .inr ⟨(by rw[hJ.d 60 _ rfl (ax 60 rfl)];exact fun e=>nomatch e),by rw[dL.o];exact hJ.up 67 _ (fun u c h=>by cases h;rfl)⟩
      case true=>refine .inl ⟨hJ.d 60 _ rfl (ax 60 rfl),?_⟩;have e189:=(ev 63 189 rfl (ax 63 rfl)).trans (hJ.d 63 _ rfl (ax 63 rfl));have e192:=(ev 66 192 rfl (ax 66 rfl)).trans (hJ.d 66 _ rfl (ax 66 rfl));obtain⟨g0,g1⟩:=HGC.o X hJ.st;go_simp;exact⟨_,rfl,by rw[dL.o];exact hJ.up 67 _ (fun u c h=>by cases h;rfl)⟩
    ·cases ae;case false=>exact .inr ⟨(by rw[hJ.u 60 _ rfl (ax 60 rfl)];exact fun e=>nomatch e),by rw[dL.o];exact hJ.up 68 _ (fun u c h=>by cases h;rfl)⟩
     case true=>
      cases pl;case false=>exact .inr ⟨(by rw[hJ.d 60 _ rfl (ax 60 rfl)];exact fun e=>nomatch e),by rw[dL.o];exact hJ.up 68 _ (fun u c h=>by cases h;rfl)⟩
      case true=>refine .inl ⟨hJ.d 60 _ rfl (ax 60 rfl),?_⟩;have e193:=(ev 67 193 rfl (ax 67 rfl)).trans (hJ.d 67 _ rfl (ax 67 rfl));obtain⟨g0,g1⟩:=HGC.o X hJ.st;go_simp;exact⟨_,rfl,by rw[dL.o];exact hJ.up 68 _ (fun u c h=>by cases h;rfl)⟩
    ·cases ae;case false=>exact .inr ⟨(by rw[hJ.d 57 _ rfl (ax 57 rfl)];exact fun e=>nomatch e),by rw[dL.o];exact hJ.up 69 _ (fun u c h=>by cases h;rfl)⟩
     case true=>
      cases pl;case false=>refine .inl ⟨hJ.d 57 _ rfl (ax 57 rfl),?_⟩;have e186:=(ev 60 186 rfl (ax 60 rfl)).trans (hJ.d 60 _ rfl (ax 60 rfl));go_simp;exact⟨_,rfl,by rw[dL.o];exact hJ.up 69 _ (fun u c h=>by cases h;rfl)⟩
      case true=>refine .inl ⟨hJ.d 57 _ rfl (ax 57 rfl),?_⟩;have e186:=(ev 60 186 rfl (ax 60 rfl)).trans (hJ.d 60 _ rfl (ax 60 rfl));have e194:=(ev 68 194 rfl (ax 68 rfl)).trans (hJ.d 68 _ rfl (ax 68 rfl));go_simp;exact⟨_,rfl,by rw[dL.o];exact hJ.up 69 _ (fun u c h=>by cases h;rfl)⟩
    ·cases ae;case false=>refine .inl ⟨hJ.d 54 _ rfl (ax 54 rfl),?_⟩;have e183:=(ev 57 183 rfl (ax 57 rfl)).trans (hJ.d 57 _ rfl (ax 57 rfl));go_simp;exact⟨_,rfl,by rw[dL.o];exact hJ.up 70 _ (fun u c h=>by cases h;rfl)⟩
     case true=>refine .inl ⟨hJ.d 54 _ rfl (ax 54 rfl),?_⟩;have e183:=(ev 57 183 rfl (ax 57 rfl)).trans (hJ.d 57 _ rfl (ax 57 rfl));have e195:=(ev 69 195 rfl (ax 69 rfl)).trans (hJ.d 69 _ rfl (ax 69 rfl));go_simp;exact⟨_,rfl,by rw[dL.o];exact hJ.up 70 _ (fun u c h=>by cases h;rfl)⟩
    ·refine .inl ⟨hJ.d 54 _ rfl (ax 54 rfl),?_⟩;have e196:=(ev 70 196 rfl (ax 70 rfl)).trans (hJ.d 70 _ rfl (ax 70 rfl));go_simp;exact⟨_,rfl,by rw[dL.o];exact hJ.up 71 _ (fun u c h=>by cases h;rfl)⟩
    ·cases ae;case false=>exact .inr ⟨(by rw[hJ.d 71 _ rfl (ax 71 rfl)];exact fun e=>nomatch e),by rw[dL.o];exact hJ.up 72 _ (fun u c h=>by cases h;rfl)⟩
     case true=>
      cases pl;case false=>refine .inl ⟨hJ.d 71 _ rfl (ax 71 rfl),?_⟩;have o25:=dn 25 rfl;change a.tmps[25]?.getD undef=.int .i64 z5 at o25;obtain⟨hal,o9,hkl,c3,c4⟩:=HQ5.o rfl rfl X hJ.st;obtain⟨g0,g1⟩:=HGC.o X hJ.st;clear hal o9;go_simp;exact⟨_,rfl,by rw[dL.o];exact hJ.up 72 _ (fun u c h=>by cases h;rfl)⟩
      case true=>exact .inr ⟨(by rw[hJ.d 71 _ rfl (ax 71 rfl)];exact fun e=>nomatch e),by rw[dL.o];exact hJ.up 72 _ (fun u c h=>by cases h;rfl)⟩
    ·cases ae;case false=>exact .inr ⟨(by rw[hJ.d 71 _ rfl (ax 71 rfl)];exact fun e=>nomatch e),by rw[dL.o];exact hJ.up 73 _ (fun u c h=>by cases h;rfl)⟩
     case true=>
      cases pl;case false=>refine .inl ⟨hJ.d 71 _ rfl (ax 71 rfl),?_⟩;have e198:=(ev 72 198 rfl (ax 72 rfl)).trans (hJ.d 72 _ rfl (ax 72 rfl));obtain⟨hal,o9,hkl,c3,c4⟩:=HQ5.o rfl rfl X hJ.st;obtain⟨g0,g1⟩:=HGC.o X hJ.st;rw[o9]at e198;clear hal o9;have hk0:(0:Int)≤((k5:Nat):Int):=Int.natCast_nonneg _;go_simp;exact⟨_,rfl,by rw[dL.o];exact hJ.up 73 _ (fun u c h=>by cases h;rfl)⟩
      case true=>exact .inr ⟨(by rw[hJ.d 71 _ rfl (ax 71 rfl)];exact fun e=>nomatch e),by rw[dL.o];exact hJ.up 73 _ (fun u c h=>by cases h;rfl)⟩
    ·cases ae;case false=>exact .inr ⟨(by rw[hJ.d 71 _ rfl (ax 71 rfl)];exact fun e=>nomatch e),by rw[dL.o];exact hJ.up 74 _ (fun u c h=>by cases h;rfl)⟩
     case true=>
      cases pl;case false=>refine .inl ⟨hJ.d 71 _ rfl (ax 71 rfl),?_⟩;have e199:=(ev 73 199 rfl (ax 73 rfl)).trans (hJ.d 73 _ rfl (ax 73 rfl));obtain⟨hal,o9,hkl,c3,c4⟩:=HQ5.o rfl rfl X hJ.st;obtain⟨g0,g1⟩:=HGC.o X hJ.st;clear hal o9;go_simp;exact⟨_,rfl,by rw[dL.o];exact hJ.up 74 _ (fun u c h=>by cases h;rfl)⟩
      case true=>exact .inr ⟨(by rw[hJ.d 71 _ rfl (ax 71 rfl)];exact fun e=>nomatch e),by rw[dL.o];exact hJ.up 74 _ (fun u c h=>by cases h;rfl)⟩
    ·cases ae;case false=>exact .inr ⟨(by rw[hJ.u 74 _ rfl (ax 74 rfl)];exact fun e=>nomatch e),by rw[dL.o];exact hJ.up 75 _ (fun u c h=>by cases h;rfl)⟩
     case true=>
      cases pl;case false=>refine .inl ⟨hJ.d 74 _ rfl (ax 74 rfl),?_⟩;have o19:=dn 19 rfl;change a.tmps[19]?.getD undef=.pointer (some ⟨w11.heap.size,0,none⟩)at o19;obtain⟨hal,o9,hkl,c3,c4⟩:=HQ5.o rfl rfl X hJ.st;obtain⟨g0,g1⟩:=HGC.o X hJ.st;clear hal o9;go_simp;exact⟨_,rfl,by rw[dL.o];exact hJ.up 75 _ (fun u c h=>by cases h;rfl)⟩
      case true=>exact .inr ⟨(by rw[hJ.u 74 _ rfl (ax 74 rfl)];exact fun e=>nomatch e),by rw[dL.o];exact hJ.up 75 _ (fun u c h=>by cases h;rfl)⟩
    ·cases ae;case false=>exact .inr ⟨(by rw[hJ.u 74 _ rfl (ax 74 rfl)];exact fun e=>nomatch e),by rw[dL.o];exact hJ.up 76 _ (fun u c h=>by cases h;rfl)⟩
     case true=>
      cases pl;case false=>refine .inl ⟨hJ.d 74 _ rfl (ax 74 rfl),?_⟩;have e201:=(ev 75 201 rfl (ax 75 rfl)).trans (hJ.d 75 _ rfl (ax 75 rfl));obtain⟨hal,o9,hkl,c3,c4⟩:=HQ5.o rfl rfl X hJ.st;obtain⟨g0,g1⟩:=HGC.o X hJ.st;clear hal o9;go_simp;exact⟨_,rfl,by rw[dL.o];exact hJ.up 76 _ (fun u c h=>by cases h;rfl)⟩
      case true=>exact .inr ⟨(by rw[hJ.u 74 _ rfl (ax 74 rfl)];exact fun e=>nomatch e),by rw[dL.o];exact hJ.up 76 _ (fun u c h=>by cases h;rfl)⟩
    ·cases ae;case false=>exact .inr ⟨(by rw[hJ.u 74 _ rfl (ax 74 rfl)];exact fun e=>nomatch e),by rw[dL.o];exact hJ.up 77 _ (fun u c h=>by cases h;rfl)⟩
     case true=>
      cases pl;case false=>refine .inl ⟨hJ.d 74 _ rfl (ax 74 rfl),?_⟩;have o7:=dn 7 rfl;change a.tmps[7]?.getD undef=.slice al l.length cl at o7;obtain⟨hal,o9,hkl,c3,c4⟩:=HQ5.o rfl rfl X hJ.st;obtain⟨g0,g1⟩:=HGC.o X hJ.st;clear hal o9;go_simp;exact⟨_,rfl,by rw[dL.o];exact hJ.up 77 _ (fun u c h=>by cases h;rfl)⟩
      case true=>exact .inr ⟨(by rw[hJ.u 74 _ rfl (ax 74 rfl)];exact fun e=>nomatch e),by rw[dL.o];exact hJ.up 77 _ (fun u c h=>by cases h;rfl)⟩
    ·cases ae;case false=>exact .inr ⟨(by rw[hJ.u 74 _ rfl (ax 74 rfl)];exact fun e=>nomatch e),by rw[dL.o];exact hJ.up 78 _ (fun u c h=>by cases h;rfl)⟩
     case true=>
      cases pl;case false=>refine .inl ⟨hJ.d 74 _ rfl (ax 74 rfl),?_⟩;have o25:=dn 25 rfl;change a.tmps[25]?.getD undef=.int .i64 z5 at o25;obtain⟨hal,o9,hkl,c3,c4⟩:=HQ5.o rfl rfl X hJ.st;obtain⟨g0,g1⟩:=HGC.o X hJ.st;clear hal o9;go_simp;exact⟨_,rfl,by rw[dL.o];exact hJ.up 78 _ (fun u c h=>by cases h;rfl)⟩
      case true=>exact .inr ⟨(by rw[hJ.u 74 _ rfl (ax 74 rfl)];exact fun e=>nomatch e),by rw[dL.o];exact hJ.up 78 _ (fun u c h=>by cases h;rfl)⟩
    ·cases ae;case false=>exact .inr ⟨(by rw[hJ.u 74 _ rfl (ax 74 rfl)];exact fun e=>nomatch e),by rw[dL.o];exact hJ.up 79 _ (fun u c h=>by cases h;rfl)⟩
     case true=>
      cases pl;case false=>refine .inl ⟨hJ.d 74 _ rfl (ax 74 rfl),?_⟩;have e203:=(ev 77 203 rfl (ax 77 rfl)).trans (hJ.d 77 _ rfl (ax 77 rfl));have e204:=(ev 78 204 rfl (ax 78 rfl)).trans (hJ.d 78 _ rfl (ax 78 rfl));obtain⟨hal,o9,hkl,c3,c4⟩:=HQ5.o rfl rfl X hJ.st;obtain⟨g0,g1⟩:=HGC.o X hJ.st;rw[hal]at e203;rw[o9]at e204;have hk0:(0:Int)≤((k5:Nat):Int):=Int.natCast_nonneg _;(have hkl2:((k5:Nat):Int)<(l.length:Int):=by omega);clear hal o9;go_simp;exact⟨_,rfl,by rw[dL.o];exact hJ.up 79 _ (fun u c h=>by cases h;rfl)⟩
      case true=>exact .inr ⟨(by rw[hJ.u 74 _ rfl (ax 74 rfl)];exact fun e=>nomatch e),by rw[dL.o];exact hJ.up 79 _ (fun u c h=>by cases h;rfl)⟩
    ·cases ae;case false=>exact .inr ⟨(by rw[hJ.u 74 _ rfl (ax 74 rfl)];exact fun e=>nomatch e),by rw[dL.o];exact hJ.up 80 _ (fun u c h=>by cases h;rfl)⟩
     case true=>
      cases pl;case false=>refine .inl ⟨hJ.d 74 _ rfl (ax 74 rfl),?_⟩;have e205:=(ev 79 205 rfl (ax 79 rfl)).trans (hJ.d 79 _ rfl (ax 79 rfl));obtain⟨hal,o9,hkl,c3,c4⟩:=HQ5.o rfl rfl X hJ.st;obtain⟨g0,g1⟩:=HGC.o X hJ.st;clear hal o9;go_simp;exact⟨_,rfl,by rw[dL.o];exact hJ.up 80 _ (fun u c h=>by cases h;rfl)⟩
      case true=>exact .inr ⟨(by rw[hJ.u 74 _ rfl (ax 74 rfl)];exact fun e=>nomatch e),by rw[dL.o];exact hJ.up 80 _ (fun u c h=>by cases h;rfl)⟩
    ·cases ae;case false=>exact .inr ⟨(by rw[hJ.u 74 _ rfl (ax 74 rfl)];exact fun e=>nomatch e),by rw[dL.o];exact hJ.up 81 _ (fun u c h=>by cases h;rfl)⟩
     case true=>
      cases pl;case false=>refine .inl ⟨hJ.d 74 _ rfl (ax 74 rfl),?_⟩;have e206:=(ev 80 206 rfl (ax 80 rfl)).trans (hJ.d 80 _ rfl (ax 80 rfl));obtain⟨hal,o9,hkl,c3,c4⟩:=HQ5.o rfl rfl X hJ.st;obtain⟨g0,g1⟩:=HGC.o X hJ.st;clear hal o9;go_simp;exact⟨_,rfl,by rw[dL.o];exact hJ.up 81 _ (fun u c h=>by cases h;rfl)⟩
      case true=>exact .inr ⟨(by rw[hJ.u 74 _ rfl (ax 74 rfl)];exact fun e=>nomatch e),by rw[dL.o];exact hJ.up 81 _ (fun u c h=>by cases h;rfl)⟩
    ·cases ae;case false=>exact .inr ⟨(by rw[hJ.u 74 _ rfl (ax 74 rfl)];exact fun e=>nomatch e),by rw[dL.o];exact hJ.up 82 _ (fun u c h=>by cases h;rfl)⟩
     case true=>
      cases pl;case false=>refine .inl ⟨hJ.d 74 _ rfl (ax 74 rfl),?_⟩;have e207:=(ev 81 207 rfl (ax 81 rfl)).trans (hJ.d 81 _ rfl (ax 81 rfl));obtain⟨hal,o9,hkl,c3,c4⟩:=HQ5.o rfl rfl X hJ.st;obtain⟨g0,g1⟩:=HGC.o X hJ.st;clear hal o9;go_simp;exact⟨_,rfl,by rw[dL.o];exact hJ.up 82 _ (fun u c h=>by cases h;rfl)⟩
      case true=>exact .inr ⟨(by rw[hJ.u 74 _ rfl (ax 74 rfl)];exact fun e=>nomatch e),by rw[dL.o];exact hJ.up 82 _ (fun u c h=>by cases h;rfl)⟩
    ·cases ae;case false=>exact .inr ⟨(by rw[hJ.u 74 _ rfl (ax 74 rfl)];exact fun e=>nomatch e),by rw[dL.o];exact hJ.up 83 _ (fun u c h=>by cases h;rfl)⟩
     case true=>
      cases pl;case false=>refine .inl ⟨hJ.d 74 _ rfl (ax 74 rfl),?_⟩;have e202:=(ev 76 202 rfl (ax 76 rfl)).trans (hJ.d 76 _ rfl (ax 76 rfl));have e208:=(ev 82 208 rfl (ax 82 rfl)).trans (hJ.d 82 _ rfl (ax 82 rfl));obtain⟨hal,o9,hkl,c3,c4⟩:=HQ5.o rfl rfl X hJ.st;obtain⟨g0,g1⟩:=HGC.o X hJ.st;clear hal o9;go_simp;refine(HTT.o rfl rfl X hJ.st).mono ?_;rintro e5 w5 ⟨rfl,n5,rfl⟩;exact⟨_,rfl,by rw[dL.o];exact(hJ.step (bJ.drewN n5)).up 83 _ (fun u c h=>by cases h;rfl)⟩
      case true=>exact .inr ⟨(by rw[hJ.u 74 _ rfl (ax 74 rfl)];exact fun e=>nomatch e),by rw[dL.o];exact hJ.up 83 _ (fun u c h=>by cases h;rfl)⟩
    ·cases ae;case false=>exact .inr ⟨(by rw[hJ.d 71 _ rfl (ax 71 rfl)];exact fun e=>nomatch e),by rw[dL.o];exact hJ.up 84 _ (fun u c h=>by cases h;rfl)⟩
     case true=>
      cases pl;case false=>refine .inl ⟨hJ.d 71 _ rfl (ax 71 rfl),?_⟩;have e200:=(ev 74 200 rfl (ax 74 rfl)).trans (hJ.d 74 _ rfl (ax 74 rfl));have e209:=(ev 83 209 rfl (ax 83 rfl)).trans (hJ.d 83 _ rfl (ax 83 rfl));obtain⟨hal,o9,hkl,c3,c4⟩:=HQ5.o rfl rfl X hJ.st;obtain⟨g0,g1⟩:=HGC.o X hJ.st;clear hal o9;go_simp;exact⟨_,rfl,by rw[dL.o];exact hJ.up 84 _ (fun u c h=>by cases h;rfl)⟩
      case true=>exact .inr ⟨(by rw[hJ.d 71 _ rfl (ax 71 rfl)];exact fun e=>nomatch e),by rw[dL.o];exact hJ.up 84 _ (fun u c h=>by cases h;rfl)⟩
    ·cases ae;case false=>exact .inr ⟨(by rw[hJ.d 71 _ rfl (ax 71 rfl)];exact fun e=>nomatch e),by rw[dL.o];exact hJ.up 85 _ (fun u c h=>by cases h;rfl)⟩
     case true=>
      cases pl;case false=>refine .inl ⟨hJ.d 71 _ rfl (ax 71 rfl),?_⟩;have e210:=(ev 84 210 rfl (ax 84 rfl)).trans (hJ.d 84 _ rfl (ax 84 rfl));obtain⟨hal,o9,hkl,c3,c4⟩:=HQ5.o rfl rfl X hJ.st;obtain⟨g0,g1⟩:=HGC.o X hJ.st;clear hal o9;go_simp;exact⟨_,rfl,by rw[dL.o];exact hJ.up 85 _ (fun u c h=>by cases h;rfl)⟩
      case true=>exact .inr ⟨(by rw[hJ.d 71 _ rfl (ax 71 rfl)];exact fun e=>nomatch e),by rw[dL.o];exact hJ.up 85 _ (fun u c h=>by cases h;rfl)⟩
    ·cases ae;case false=>exact .inr ⟨(by rw[hJ.u 85 _ rfl (ax 85 rfl)];exact fun e=>nomatch e),by rw[dL.o];exact hJ.up 86 _ (fun u c h=>by cases h;rfl)⟩
     case true=>
      cases pl;case false=>refine .inl ⟨hJ.d 85 _ rfl (ax 85 rfl),?_⟩;have o19:=dn 19 rfl;change a.tmps[19]?.getD undef=.pointer (some ⟨w11.heap.size,0,none⟩)at o19;obtain⟨hal,o9,hkl,c3,c4⟩:=HQ5.o rfl rfl X hJ.st;obtain⟨g0,g1⟩:=HGC.o X hJ.st;clear hal o9;go_simp;exact⟨_,rfl,by rw[dL.o];exact hJ.up 86 _ (fun u c h=>by cases h;rfl)⟩
      case true=>exact .inr ⟨(by rw[hJ.u 85 _ rfl (ax 85 rfl)];exact fun e=>nomatch e),by rw[dL.o];exact hJ.up 86 _ (fun u c h=>by cases h;rfl)⟩
    ·cases ae;case false=>exact .inr ⟨(by rw[hJ.u 85 _ rfl (ax 85 rfl)];exact fun e=>nomatch e),by rw[dL.o];exact hJ.up 87 _ (fun u c h=>by cases h;rfl)⟩
     case true=>
      cases pl;case false=>refine .inl ⟨hJ.d 85 _ rfl (ax 85 rfl),?_⟩;have e212:=(ev 86 212 rfl (ax 86 rfl)).trans (hJ.d 86 _ rfl (ax 86 rfl));obtain⟨hal,o9,hkl,c3,c4⟩:=HQ5.o rfl rfl X hJ.st;obtain⟨g0,g1⟩:=HGC.o X hJ.st;clear hal o9;go_simp;exact⟨_,rfl,by rw[dL.o];exact hJ.up 87 _ (fun u c h=>by cases h;rfl)⟩
      case true=>exact .inr ⟨(by rw[hJ.u 85 _ rfl (ax 85 rfl)];exact fun e=>nomatch e),by rw[dL.o];exact hJ.up 87 _ (fun u c h=>by cases h;rfl)⟩
    ·cases ae;case false=>exact .inr ⟨(by rw[hJ.u 85 _ rfl (ax 85 rfl)];exact fun e=>nomatch e),by rw[dL.o];exact hJ.up 88 _ (fun u c h=>by cases h;rfl)⟩
     case true=>
      cases pl;case false=>refine .inl ⟨hJ.d 85 _ rfl (ax 85 rfl),?_⟩;have o7:=dn 7 rfl;change a.tmps[7]?.getD undef=.slice al l.length cl at o7;obtain⟨hal,o9,hkl,c3,c4⟩:=HQ5.o rfl rfl X hJ.st;obtain⟨g0,g1⟩:=HGC.o X hJ.st;clear hal o9;go_simp;exact⟨_,rfl,by rw[dL.o];exact hJ.up 88 _ (fun u c h=>by cases h;rfl)⟩
      case true=>exact .inr ⟨(by rw[hJ.u 85 _ rfl (ax 85 rfl)];exact fun e=>nomatch e),by rw[dL.o];exact hJ.up 88 _ (fun u c h=>by cases h;rfl)⟩
    ·cases ae;case false=>exact .inr ⟨(by rw[hJ.u 85 _ rfl (ax 85 rfl)];exact fun e=>nomatch e),by rw[dL.o];exact hJ.up 89 _ (fun u c h=>by cases h;rfl)⟩
     case true=>
      cases pl;case false=>refine .inl ⟨hJ.d 85 _ rfl (ax 85 rfl),?_⟩;have o25:=dn 25 rfl;change a.tmps[25]?.getD undef=.int .i64 z5 at o25;obtain⟨hal,o9,hkl,c3,c4⟩:=HQ5.o rfl rfl X hJ.st;obtain⟨g0,g1⟩:=HGC.o X hJ.st;clear hal o9;go_simp;exact⟨_,rfl,by rw[dL.o];exact hJ.up 89 _ (fun u c h=>by cases h;rfl)⟩
      case true=>exact .inr ⟨(by rw[hJ.u 85 _ rfl (ax 85 rfl)];exact fun e=>nomatch e),by rw[dL.o];exact hJ.up 89 _ (fun u c h=>by cases h;rfl)⟩
    ·cases ae;case false=>exact .inr ⟨(by rw[hJ.u 85 _ rfl (ax 85 rfl)];exact fun e=>nomatch e),by rw[dL.o];exact hJ.up 90 _ (fun u c h=>by cases h;rfl)⟩
     case true=>
      cases pl;case false=>refine .inl ⟨hJ.d 85 _ rfl (ax 85 rfl),?_⟩;have e214:=(ev 88 214 rfl (ax 88 rfl)).trans (hJ.d 88 _ rfl (ax 88 rfl));have e215:=(ev 89 215 rfl (ax 89 rfl)).trans (hJ.d 89 _ rfl (ax 89 rfl));obtain⟨hal,o9,hkl,c3,c4⟩:=HQ5.o rfl rfl X hJ.st;obtain⟨g0,g1⟩:=HGC.o X hJ.st;rw[hal]at e214;rw[o9]at e215;have hk0:(0:Int)≤((k5:Nat):Int):=Int.natCast_nonneg _;(have hkl2:((k5:Nat):Int)<(l.length:Int):=by omega);clear hal o9;go_simp;exact⟨_,rfl,by rw[dL.o];exact hJ.up 90 _ (fun u c h=>by cases h;rfl)⟩
      case true=>exact .inr ⟨(by rw[hJ.u 85 _ rfl (ax 85 rfl)];exact fun e=>nomatch e),by rw[dL.o];exact hJ.up 90 _ (fun u c h=>by cases h;rfl)⟩
    ·cases ae;case false=>exact .inr ⟨(by rw[hJ.u 85 _ rfl (ax 85 rfl)];exact fun e=>nomatch e),by rw[dL.o];exact hJ.up 91 _ (fun u c h=>by cases h;rfl)⟩
     case true=>
      cases pl;case false=>refine .inl ⟨hJ.d 85 _ rfl (ax 85 rfl),?_⟩;have e216:=(ev 90 216 rfl (ax 90 rfl)).trans (hJ.d 90 _ rfl (ax 90 rfl));obtain⟨hal,o9,hkl,c3,c4⟩:=HQ5.o rfl rfl X hJ.st;obtain⟨g0,g1⟩:=HGC.o X hJ.st;clear hal o9;go_simp;exact⟨_,rfl,by rw[dL.o];exact hJ.up 91 _ (fun u c h=>by cases h;rfl)⟩
      case true=>exact .inr ⟨(by rw[hJ.u 85 _ rfl (ax 85 rfl)];exact fun e=>nomatch e),by rw[dL.o];exact hJ.up 91 _ (fun u c h=>by cases h;rfl)⟩
    ·cases ae;case false=>exact .inr ⟨(by rw[hJ.u 85 _ rfl (ax 85 rfl)];exact fun e=>nomatch e),by rw[dL.o];exact hJ.up 92 _ (fun u c h=>by cases h;rfl)⟩
     case true=>
      cases pl;case false=>refine .inl ⟨hJ.d 85 _ rfl (ax 85 rfl),?_⟩;have e217:=(ev 91 217 rfl (ax 91 rfl)).trans (hJ.d 91 _ rfl (ax 91 rfl));obtain⟨hal,o9,hkl,c3,c4⟩:=HQ5.o rfl rfl X hJ.st;obtain⟨g0,g1⟩:=HGC.o X hJ.st;clear hal o9;go_simp;exact⟨_,rfl,by rw[dL.o];exact hJ.up 92 _ (fun u c h=>by cases h;rfl)⟩
      case true=>exact .inr ⟨(by rw[hJ.u 85 _ rfl (ax 85 rfl)];exact fun e=>nomatch e),by rw[dL.o];exact hJ.up 92 _ (fun u c h=>by cases h;rfl)⟩
    ·cases ae;case false=>exact .inr ⟨(by rw[hJ.u 85 _ rfl (ax 85 rfl)];exact fun e=>nomatch e),by rw[dL.o];exact hJ.up 93 _ (fun u c h=>by cases h;rfl)⟩
     case true=>
      cases pl;case false=>refine .inl ⟨hJ.d 85 _ rfl (ax 85 rfl),?_⟩;have e218:=(ev 92 218 rfl (ax 92 rfl)).trans (hJ.d 92 _ rfl (ax 92 rfl));obtain⟨hal,o9,hkl,c3,c4⟩:=HQ5.o rfl rfl X hJ.st;obtain⟨g0,g1⟩:=HGC.o X hJ.st;clear hal o9;go_simp;exact⟨_,rfl,by rw[dL.o];exact hJ.up 93 _ (fun u c h=>by cases h;rfl)⟩
      case true=>exact .inr ⟨(by rw[hJ.u 85 _ rfl (ax 85 rfl)];exact fun e=>nomatch e),by rw[dL.o];exact hJ.up 93 _ (fun u c h=>by cases h;rfl)⟩
    ·cases ae;case false=>exact .inr ⟨(by rw[hJ.u 85 _ rfl (ax 85 rfl)];exact fun e=>nomatch e),by rw[dL.o];exact hJ.up 94 _ (fun u c h=>by cases h;rfl)⟩
     case true=>
      cases pl;case false=>refine .inl ⟨hJ.d 85 _ rfl (ax 85 rfl),?_⟩;have e213:=(ev 87 213 rfl (ax 87 rfl)).trans (hJ.d 87 _ rfl (ax 87 rfl));have e219:=(ev 93 219 rfl (ax 93 rfl)).trans (hJ.d 93 _ rfl (ax 93 rfl));obtain⟨hal,o9,hkl,c3,c4⟩:=HQ5.o rfl rfl X hJ.st;obtain⟨g0,g1⟩:=HGC.o X hJ.st;clear hal o9;go_simp;refine(HTL.o rfl rfl X hJ.st).mono ?_;rintro e5 w5 ⟨rfl,n5,rfl⟩;exact⟨_,rfl,by rw[dL.o];exact(hJ.step (bJ.drewN n5)).up 94 _ (fun u c h=>by cases h;rfl)⟩
      case true=>exact .inr ⟨(by rw[hJ.u 85 _ rfl (ax 85 rfl)];exact fun e=>nomatch e),by rw[dL.o];exact hJ.up 94 _ (fun u c h=>by cases h;rfl)⟩
    ·cases ae;case false=>exact .inr ⟨(by rw[hJ.d 71 _ rfl (ax 71 rfl)];exact fun e=>nomatch e),by rw[dL.o];exact hJ.up 95 _ (fun u c h=>by cases h;rfl)⟩
     case true=>
      cases pl;case false=>refine .inl ⟨hJ.d 71 _ rfl (ax 71 rfl),?_⟩;have e211:=(ev 85 211 rfl (ax 85 rfl)).trans (hJ.d 85 _ rfl (ax 85 rfl));have e220:=(ev 94 220 rfl (ax 94 rfl)).trans (hJ.d 94 _ rfl (ax 94 rfl));obtain⟨hal,o9,hkl,c3,c4⟩:=HQ5.o rfl rfl X hJ.st;obtain⟨g0,g1⟩:=HGC.o X hJ.st;clear hal o9;go_simp;exact⟨_,rfl,by rw[dL.o];exact hJ.up 95 _ (fun u c h=>by cases h;rfl)⟩
      case true=>exact .inr ⟨(by rw[hJ.d 71 _ rfl (ax 71 rfl)];exact fun e=>nomatch e),by rw[dL.o];exact hJ.up 95 _ (fun u c h=>by cases h;rfl)⟩
    ·cases ae;case false=>refine .inl ⟨hJ.d 54 _ rfl (ax 54 rfl),?_⟩;have e197:=(ev 71 197 rfl (ax 71 rfl)).trans (hJ.d 71 _ rfl (ax 71 rfl));go_simp;exact⟨_,rfl,by rw[dL.o];exact hJ.up 96 _ (fun u c h=>by cases h;rfl)⟩
     case true=>
      cases pl;case false=>refine .inl ⟨hJ.d 54 _ rfl (ax 54 rfl),?_⟩;have e197:=(ev 71 197 rfl (ax 71 rfl)).trans (hJ.d 71 _ rfl (ax 71 rfl));have e221:=(ev 95 221 rfl (ax 95 rfl)).trans (hJ.d 95 _ rfl (ax 95 rfl));go_simp;exact⟨_,rfl,by rw[dL.o];exact hJ.up 96 _ (fun u c h=>by cases h;rfl)⟩
      case true=>refine .inl ⟨hJ.d 54 _ rfl (ax 54 rfl),?_⟩;have e197:=(ev 71 197 rfl (ax 71 rfl)).trans (hJ.d 71 _ rfl (ax 71 rfl));go_simp;exact⟨_,rfl,by rw[dL.o];exact hJ.up 96 _ (fun u c h=>by cases h;rfl)⟩
    ·have e180:=(ev 54 180 rfl (ax 54 rfl)).trans (hJ.d 54 _ rfl (ax 54 rfl));have e222:=(ev 96 222 rfl (ax 96 rfl)).trans (hJ.d 96 _ rfl (ax 96 rfl));go_simp;exact⟨_,rfl,by rw[dL.o];exact hJ.up 97 _ (fun u c h=>by cases h;rfl)⟩
    ·have e223:=(ev 97 223 rfl (ax 97 rfl)).trans (hJ.d 97 _ rfl (ax 97 rfl));go_simp;exact⟨_,rfl,by rw[dL.o];exact hJ.up 98 _ (fun u c h=>by cases h;rfl)⟩
   case hdone=>intro L V X hall hJ;rw[dL.o]at hJ;have h98:=hJ.d 98 _ rfl (hall 98 dc);have hst:=hJ.st;rw[show List.range 99=[0,1,2,3,4,5,6,7,8,9,10,11,12,13,14,15,16,17,18,19,20,21,22,23,24,25,26,27,28,29,30,31,32,33,34,35,36,37,38,39,40,41,42,43,44,45,46,47,48,49,50,51,52,53,54,55,56,57,58,59,60,61,62,63,64,65,66,67,68,69,70,71,72,73,74,75,76,77,78,79,80,81,82,83,84,85,86,87,88,89,90,91,92,93,94,95,96,97,98] from rfl];simp only[kC,fU,List.getElem?_toArray,Act.put,List.setIfInBounds_toArray];go_wp2_with fail;go_ret;exact⟨by first|rfl|rw[h98],HSW.o.trans hst⟩
end Go.Proofs.YtppekkbaoimpgaaGreat
