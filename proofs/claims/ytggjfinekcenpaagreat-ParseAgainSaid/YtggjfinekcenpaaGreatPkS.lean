import Derived.Test.YtggjfinekcenpaaGreatPkR
import Derived.Test.YtggjfinekcenpaaGreatShelf
set_option maxRecDepth 100000
set_option maxHeartbeats 80000000
namespace Go.Proofs.YtggjfinekcenpaaGreat
open Go.RowKit
open Vt
theorem Pk.nil {b:Nat} {l m:List ByteArray} {N:Nat→Prop} {w X:World} (h:Pk b l N w X) (e:m=[]):Pk b (l++m) N w X:=by rw[e,List.append_nil];exact h
theorem gn0 (ls:List ByteArray):wU ls []=j_ (ls.map fun s=>[s]):=by unfold wU;rw[show cO []=[] from rfl,List.append_nil];rfl
theorem JW (t:Ty) (l:List Bd):xW t l=xX t++FH l:=by cases t;rfl
theorem rcv1 {rv:Int} {lf:ByteArray} (h:rv=1):zx rv lf=[]:=if_pos h
theorem rcv2 {rv:Int} {lf:ByteArray} (h:¬rv=1):zx rv lf=[⟨#[38]⟩]++BV lf:=if_neg h
def aaD (m:Mt) (body:Bool):Prop:=∀(cs:List Value) (b:Nat) (l:List ByteArray) (w:World) (C D:Nat→Prop),(gX b l).r undef w C→Jt w D m cs→(∀q,D q→¬C q)→(l++Xk m body).length≤1000000000→Calls Tryz.prog 101 #[.pointer (some ⟨b,0,none⟩),.agg cs.toArray,.bool body] w (Pt b (l++Xk m body) C w)
structure aaE (m:Mt):Prop where
 ls:m.bJ.length≤1000000
 ps:m.params.length≤1000000
 pt:∀p∈m.params,lZ p.ty
 rt:lZ m.ret
 wh:m.wh.length≤1000000
 wa:∀b∈m.wh,b.qX.length+b.bJ.length≤1000000
 bo:zB m.body
theorem tyc5 {X:World} {B:Nat} {ty:List Value} {a b c d e:Value} {r:List Value} (h:∀(j:Nat) u,(a::b::c::d::e::(ty++r))[j]?=some u→X.cell? ⟨B,j,none⟩=some u):∀(j:Nat) u,ty[j]?=some u→X.cell? ⟨B,5+j,none⟩=some u:=by intro j u hj;refine h (5+j) u ?_;rw[show 5+j=j+1+1+1+1+1 by omega,List.getElem?_cons_succ,List.getElem?_cons_succ,List.getElem?_cons_succ,List.getElem?_cons_succ,List.getElem?_cons_succ,List.getElem?_append_left (List.getElem?_eq_some_iff.1 hj).1];exact hj
theorem M_ {m:Mt} (hw:aaE m):aaD m true:=by
 intro cs b l0 w C D h hx hD hb;obtain⟨nm,oh,rv,lf,ps,⟨tk,tn,tl,tm,fG,tar,fF,bP⟩,wh,bo,l,c⟩:=m;obtain⟨h1,h2,h3,h4,h5,h6,h7⟩:=hw;have h1:oh.length≤1000000:=h1;have h2:ps.length≤1000000:=h2;have h5:wh.length≤1000000:=h5;have h0:l0++Xk ⟨nm,oh,rv,lf,ps,.mk tk tn tl tm fG tar fF bP,wh,bo,l,c⟩ true=l0++[⟨#[102,110]⟩,nm]++wU oh []++[⟨#[40]⟩]++zx rv lf++zy rv++[⟨#[115,101,108,102]⟩]++zA ps++[⟨#[41]⟩]++xX (.mk tk tn tl tm fG tar fF bP)++FH wh++vk bo:=by unfold Xk;rw[JW,gn0];show l0++([⟨#[102,110]⟩,nm]++j_ (oh.map fun s=>[s])++[⟨#[40]⟩]++zx rv lf++zy rv++[⟨#[115,101,108,102]⟩]++zA ps++[⟨#[41]⟩]++(xX (.mk tk tn tl tm fG tar fF bP)++FH wh)++vk bo)=_;simp only[List.append_assoc]
 rw[h0]at hb⊢;clear h0;obtain⟨ct,vl,vp,vw,vb,rfl,-,-,hls,hps,hty,hwh,E8⟩:=hx;obtain⟨xsb,hrb,hsb⟩:∃xs,aS w D vb bo.length xs∧bU w D bo xs:=E8;have iK:=hty;rw[dJ]at hty;obtain⟨v1,v2,x2,rfl,-,-,-,hr1,-,hr2⟩:=hty;obtain⟨q1,d1,rfl⟩:=hr1.parts;obtain⟨q2,d2,rfl⟩:=hr2.parts;obtain⟨la,lc,rfl⟩:=hls.parts;obtain⟨pa,pc,rfl⟩:=hps.parts;obtain⟨wa,wd,rfl⟩:=hwh.parts;obtain⟨ba,bc,rfl⟩:=hrb.parts;obtain⟨W,hW,N,HN,HP,HF,HS,HO,HD,bY⟩:=aap [Value.string nm,.slice la oh.length lc,af rv,aG lf,.slice pa ps.length pc,af tk,aG tn,aG tl,bC tm,.slice q1 fG.length d1,.slice q2 tar.length d2,af fF,af bP,.slice wa wh.length wd,.slice ba bo.length bc,af l,af c] 83 h;have RU:=aau HS hD hls.2;have Px:Hid (∀X,Step N W X→kP H8 X (fun q=>D q∧q<w.heap.size) ps (.slice pa ps.length pc)):=show∀X,_ from fun X hX=>(bT iI).step _ _ (HS.o X hX) (fun q hq=>hD q hq.1) ((bT iI).mono _ _ (fun q hq h=>⟨h,hq⟩) hps);have HWH:Hid (∀X,Step N W X→kP Bq X (fun q=>D q∧q<w.heap.size) wh (.slice wa wh.length wd)):=show∀X,_ from fun X hX=>(bT gq).step _ _ (HS.o X hX) (fun q hq=>hD q hq.1) ((bT gq).mono _ _ (fun q hq h=>⟨h,hq⟩) hwh);have mM:=aan HS hD hrb;have BA:=aao HS hD hsb;have Ad:=aat HS hD iK;have iC:=ai (HD.o D hD);have HIT:=ai h4;have HIP:=ai h3;have HIW:=ai h6;have UE:=ai h7;have HW:=ai hW;have HB:=ai hb;clear h iK hls hps hwh hrb hsb hr1 hr2 hD hb hW h3 h4 h6 h7;go_enter Tryz.func101,Tryz.ntmps101;go_upto_region 1 with fail
 rw[←HW.o];have c0:=bY.o W (HP.o.2) 0 _ rfl;go_wp2_with fail;refine aaF [⟨#[102,110]⟩,nm] HP fun X0 K0=> ?_;clear c0;have c1:=bY.o X0 (K0.o.2) 1 _ rfl;go_wp2_with fail;refine aaG K0 (fun hp=>tY b _ oh [] _ _ X0 N _ hp (RU.o X0 (K0.o.2)) (aS.nil _ _ _) iC.o h1 dc hqQ) fun X1 K1=> ?_;clear c1;go_wp2_with fail;refine aaF [⟨#[40]⟩] K1 fun X2 K2=> ?_;have c2:=bY.o X2 (K2.o.2) 2 _ rfl;go_upto_if 20 with fail
 go_cut [] (fun wx=>Pk b (l0++[⟨#[102,110]⟩,nm]++wU oh []++[⟨#[40]⟩]++zx rv lf) N W wx);case first=>
  by_cases JX:rv=1
  ·subst JX;have KZ:=ai (Pk.nil K2.o (rcv1 (lf:=lf) (rfl:(1:Int)=1)));go_wp2_with fail;go_meet;case rel=>exact KZ.o
  ·have hr:=rcv2 (lf:=lf) JX;(have hrn:(rv !=1)=true:=by simpa using JX);have ig:=HB.o;rw[hr]at ig;have Yc:=ai ig;have HR:=ai hr;clear ig hr JX;go_wp2_with fail;refine(Pk.put [⟨#[38]⟩] HN.o K2.o (by have h:=Yc.o;simp only[List.length_append,List.length_cons,List.length_nil]at h⊢;omega)).mono ?_;rintro e X3 ⟨rfl,hk⟩;have K3:=ai hk;clear hk c2;have c3:=bY.o X3 (K3.o.2) 3 _ rfl;go_wp2_with fail;refine aaG K3 (fun hp=>JS b _ lf X3 N hp (by have h:=Yc.o;simp only[List.length_append,List.length_cons,List.length_nil]at h⊢;omega)) fun X4 K4=> ?_;clear c3;have hk:=K4.o;rw[List.append_assoc _ _ (BV lf),←HR.o]at hk;have KZ:=ai hk;clear hk;go_wp2_with fail;go_meet;case rel=>exact KZ.o
 case rest=>
  obtain⟨Y1,rfl⟩:=bn wc;have K1:=ai hcut;clear hcut;clear c2;have c2:=bY.o Y1 (K1.o.2) 2 _ rfl;go_upto_if 30 with fail
  go_cut [] (fun wx=>Pk b (l0++[⟨#[102,110]⟩,nm]++wU oh []++[⟨#[40]⟩]++zx rv lf++zy rv) N W wx);case first=>
   by_cases JX:rv=3
   ·subst JX;go_wp2_with fail;refine(Pk.put [⟨#[109,117,116]⟩] HN.o K1.o (by have h:=HB.o;simp only[List.length_append,List.length_cons,List.length_nil]at h⊢;rw[show zy 3=[⟨#[109,117,116]⟩] from rfl]at h;simp only[List.length_cons,List.length_nil]at h;omega)).mono ?_;rintro e X5 ⟨rfl,hk⟩;have K5:=ai hk;clear hk c2;go_wp2_with fail;go_meet;case rel=>exact K5.o
   ·have hm:zy rv=[]:=if_neg JX;(have hrn:(rv==3)=false:=by rw[beq_eq_false_iff_ne];exact JX);have KZ:=ai (Pk.nil K1.o hm);clear hm JX;go_wp2_with fail;go_meet;case rel=>exact KZ.o
  case rest=>
   obtain⟨Y2,rfl⟩:=bn wc;have K2:=ai hcut;clear hcut c2;go_wp2_with fail;refine aaF [⟨#[115,101,108,102]⟩] K2 fun X20 K20=> ?_;have c4:=bY.o X20 (K20.o.2) 4 _ rfl;obtain⟨np,hnp⟩:=bn ps.length;have HNP:=ai hnp;(go_upto_if 40 with fail);go_cut [] (fun wx=>Pk b (l0++[⟨#[102,110]⟩,nm]++wU oh []++[⟨#[40]⟩]++zx rv lf++zy rv++[⟨#[115,101,108,102]⟩]++zA ps) N W wx);case first=>
    by_cases hp0:ps.length=0
    ·have hm:zA ps=[]:=if_pos hp0;(have hgt:¬(0:Int)<ps.length:=by omega);have KZ:=ai (Pk.nil K20.o hm);clear hm hp0;go_wp2_with fail;go_meet;case rel=>exact KZ.o
    ·have hm:zA ps=[⟨#[44]⟩]++aO (ps.map oH):=if_neg hp0;(have hgt:(0:Int)<ps.length:=by omega);have ig:=HB.o;rw[hm]at ig;have Yc:=ai ig;have HM:=ai hm;clear ig hm hp0;go_wp2_with fail;refine(Pk.put [⟨#[44]⟩] HN.o K20.o (by have h:=Yc.o;simp only[List.length_append,List.length_cons,List.length_nil]at h⊢;omega)).mono ?_;rintro e X21 ⟨rfl,hk⟩;have K21:=ai hk;clear hk c4;have c4:=bY.o X21 (K21.o.2) 4 _ rfl;go_wp2_with fail;refine aaG K21 (fun hp=>yh b _ ps _ X21 N _ hp (Px.o X21 (K21.o.2)) iC.o HIP.o om (by have h:=Yc.o;simp only[List.length_append,List.length_cons,List.length_nil]at h⊢;omega)) fun X22 K22=> ?_;clear c4;have hk:=K22.o;rw[List.append_assoc _ _ (aO (ps.map oH)),←HM.o]at hk;have KZ:=ai hk;clear hk;go_wp2_with fail;go_meet;case rel=>exact KZ.o
   case rest=>obtain⟨Y3,rfl⟩:=bn wc;have K3:=ai hcut;clear hcut c4;go_wp2_with fail;refine aaF [⟨#[41]⟩] K3 fun X30 K30=> ?_;(go_upto_region 14 with fail);go_wp2_with (refine ay rfl 46 (.tmp 52) rfl w.heap.size 5 rfl [Value.int .i64 tk,aG tn,aG tl,bC tm,.slice q1 fG.length d1,.slice q2 tar.length d2,af fF,af bP] _ (tyc5 (fun j u h=>bY.o X30 (K30.o.2) j u h)) Tryz.underlying46 rfl Tryz.cu ?_);refine aaG K30 (fun hp=>Pv b _ (.mk tk tn tl tm fG tar fF bP) _ X30 N _ hp (Ad.o X30 (K30.o.2)) iC.o HIT.o hqQ) fun X31 K31=> ?_;have c13:=bY.o X31 (K31.o.2) 13 _ rfl;go_wp2_with fail;refine aaG K31 (fun hp=>Bc b _ wh _ X31 N _ hp (HWH.o X31 (K31.o.2)) iC.o HIW.o om hqQ) fun X32 K32=> ?_;clear c13;have c14:=bY.o X32 (K32.o.2) 14 _ rfl;go_wp2_with fail;refine aaG K32 (fun hp=>UE.o _ xsb b _ X32 N _ hp (mM.o X32 (K32.o.2)) (BA.o X32 (K32.o.2)) iC.o hqQ) fun X33 K33=> ?_;clear c14;go_wp2_with fail;go_end0;exact HF.o _ _ K33.o
theorem Na {m:Mt} (hw:aaE m):aaD m false:=by
 intro cs b l0 w C D h hx hD hb;obtain⟨nm,oh,rv,lf,ps,⟨tk,tn,tl,tm,fG,tar,fF,bP⟩,wh,bo,l,c⟩:=m;obtain⟨h1,h2,h3,h4,h5,h6,h7⟩:=hw;have h1:oh.length≤1000000:=h1;have h2:ps.length≤1000000:=h2;have h5:wh.length≤1000000:=h5;have h0:l0++Xk ⟨nm,oh,rv,lf,ps,.mk tk tn tl tm fG tar fF bP,wh,bo,l,c⟩ false=l0++[⟨#[102,110]⟩,nm]++wU oh []++[⟨#[40]⟩]++zx rv lf++zy rv++[⟨#[115,101,108,102]⟩]++zA ps++[⟨#[41]⟩]++xX (.mk tk tn tl tm fG tar fF bP)++FH wh++[⟨#[59]⟩]:=by unfold Xk;rw[JW,gn0];show l0++([⟨#[102,110]⟩,nm]++j_ (oh.map fun s=>[s])++[⟨#[40]⟩]++zx rv lf++zy rv++[⟨#[115,101,108,102]⟩]++zA ps++[⟨#[41]⟩]++(xX (.mk tk tn tl tm fG tar fF bP)++FH wh)++[⟨#[59]⟩])=_;simp only[List.append_assoc]
 rw[h0]at hb⊢;clear h0;obtain⟨ct,vl,vp,vw,vb,rfl,-,-,hls,hps,hty,hwh,E8⟩:=hx;obtain⟨xsb,hrb,hsb⟩:∃xs,aS w D vb bo.length xs∧bU w D bo xs:=E8;have iK:=hty;rw[dJ]at hty;obtain⟨v1,v2,x2,rfl,-,-,-,hr1,-,hr2⟩:=hty;obtain⟨q1,d1,rfl⟩:=hr1.parts;obtain⟨q2,d2,rfl⟩:=hr2.parts;obtain⟨la,lc,rfl⟩:=hls.parts;obtain⟨pa,pc,rfl⟩:=hps.parts;obtain⟨wa,wd,rfl⟩:=hwh.parts;obtain⟨ba,bc,rfl⟩:=hrb.parts;obtain⟨W,hW,N,HN,HP,HF,HS,HO,HD,bY⟩:=aap [Value.string nm,.slice la oh.length lc,af rv,aG lf,.slice pa ps.length pc,af tk,aG tn,aG tl,bC tm,.slice q1 fG.length d1,.slice q2 tar.length d2,af fF,af bP,.slice wa wh.length wd,.slice ba bo.length bc,af l,af c] 83 h;have RU:=aau HS hD hls.2;have Px:Hid (∀X,Step N W X→kP H8 X (fun q=>D q∧q<w.heap.size) ps (.slice pa ps.length pc)):=show∀X,_ from fun X hX=>(bT iI).step _ _ (HS.o X hX) (fun q hq=>hD q hq.1) ((bT iI).mono _ _ (fun q hq h=>⟨h,hq⟩) hps);have HWH:Hid (∀X,Step N W X→kP Bq X (fun q=>D q∧q<w.heap.size) wh (.slice wa wh.length wd)):=show∀X,_ from fun X hX=>(bT gq).step _ _ (HS.o X hX) (fun q hq=>hD q hq.1) ((bT gq).mono _ _ (fun q hq h=>⟨h,hq⟩) hwh);have mM:=aan HS hD hrb;have BA:=aao HS hD hsb;have Ad:=aat HS hD iK;have iC:=ai (HD.o D hD);have HIT:=ai h4;have HIP:=ai h3;have HIW:=ai h6;have UE:=ai h7;have HW:=ai hW;have HB:=ai hb;clear h iK hls hps hwh hrb hsb hr1 hr2 hD hb hW h3 h4 h6 h7;go_enter Tryz.func101,Tryz.ntmps101;go_upto_region 1 with fail
 rw[←HW.o];have c0:=bY.o W (HP.o.2) 0 _ rfl;go_wp2_with fail;refine aaF [⟨#[102,110]⟩,nm] HP fun X0 K0=> ?_;clear c0;have c1:=bY.o X0 (K0.o.2) 1 _ rfl;go_wp2_with fail;refine aaG K0 (fun hp=>tY b _ oh [] _ _ X0 N _ hp (RU.o X0 (K0.o.2)) (aS.nil _ _ _) iC.o h1 dc hqQ) fun X1 K1=> ?_;clear c1;go_wp2_with fail;refine aaF [⟨#[40]⟩] K1 fun X2 K2=> ?_;have c2:=bY.o X2 (K2.o.2) 2 _ rfl;go_upto_if 20 with fail
 go_cut [] (fun wx=>Pk b (l0++[⟨#[102,110]⟩,nm]++wU oh []++[⟨#[40]⟩]++zx rv lf) N W wx);case first=>
  by_cases JX:rv=1
  ·subst JX;have KZ:=ai (Pk.nil K2.o (rcv1 (lf:=lf) (rfl:(1:Int)=1)));go_wp2_with fail;go_meet;case rel=>exact KZ.o
  ·have hr:=rcv2 (lf:=lf) JX;(have hrn:(rv !=1)=true:=by simpa using JX);have ig:=HB.o;rw[hr]at ig;have Yc:=ai ig;have HR:=ai hr;clear ig hr JX;go_wp2_with fail;refine(Pk.put [⟨#[38]⟩] HN.o K2.o (by have h:=Yc.o;simp only[List.length_append,List.length_cons,List.length_nil]at h⊢;omega)).mono ?_;rintro e X3 ⟨rfl,hk⟩;have K3:=ai hk;clear hk c2;have c3:=bY.o X3 (K3.o.2) 3 _ rfl;go_wp2_with fail;refine aaG K3 (fun hp=>JS b _ lf X3 N hp (by have h:=Yc.o;simp only[List.length_append,List.length_cons,List.length_nil]at h⊢;omega)) fun X4 K4=> ?_;clear c3;have hk:=K4.o;rw[List.append_assoc _ _ (BV lf),←HR.o]at hk;have KZ:=ai hk;clear hk;go_wp2_with fail;go_meet;case rel=>exact KZ.o
 case rest=>
  obtain⟨Y1,rfl⟩:=bn wc;have K1:=ai hcut;clear hcut;clear c2;have c2:=bY.o Y1 (K1.o.2) 2 _ rfl;go_upto_if 30 with fail
  go_cut [] (fun wx=>Pk b (l0++[⟨#[102,110]⟩,nm]++wU oh []++[⟨#[40]⟩]++zx rv lf++zy rv) N W wx);case first=>
   by_cases JX:rv=3
   ·subst JX;go_wp2_with fail;refine(Pk.put [⟨#[109,117,116]⟩] HN.o K1.o (by have h:=HB.o;simp only[List.length_append,List.length_cons,List.length_nil]at h⊢;rw[show zy 3=[⟨#[109,117,116]⟩] from rfl]at h;simp only[List.length_cons,List.length_nil]at h;omega)).mono ?_;rintro e X5 ⟨rfl,hk⟩;have K5:=ai hk;clear hk c2;go_wp2_with fail;go_meet;case rel=>exact K5.o
   ·have hm:zy rv=[]:=if_neg JX;(have hrn:(rv==3)=false:=by rw[beq_eq_false_iff_ne];exact JX);have KZ:=ai (Pk.nil K1.o hm);clear hm JX;go_wp2_with fail;go_meet;case rel=>exact KZ.o
  case rest=>
   obtain⟨Y2,rfl⟩:=bn wc;have K2:=ai hcut;clear hcut c2;go_wp2_with fail;refine aaF [⟨#[115,101,108,102]⟩] K2 fun X20 K20=> ?_;have c4:=bY.o X20 (K20.o.2) 4 _ rfl;obtain⟨np,hnp⟩:=bn ps.length;have HNP:=ai hnp;(go_upto_if 40 with fail);go_cut [] (fun wx=>Pk b (l0++[⟨#[102,110]⟩,nm]++wU oh []++[⟨#[40]⟩]++zx rv lf++zy rv++[⟨#[115,101,108,102]⟩]++zA ps) N W wx);case first=>
    by_cases hp0:ps.length=0
    ·have hm:zA ps=[]:=if_pos hp0;(have hgt:¬(0:Int)<ps.length:=by omega);have KZ:=ai (Pk.nil K20.o hm);clear hm hp0;go_wp2_with fail;go_meet;case rel=>exact KZ.o
    ·have hm:zA ps=[⟨#[44]⟩]++aO (ps.map oH):=if_neg hp0;(have hgt:(0:Int)<ps.length:=by omega);have ig:=HB.o;rw[hm]at ig;have Yc:=ai ig;have HM:=ai hm;clear ig hm hp0;go_wp2_with fail;refine(Pk.put [⟨#[44]⟩] HN.o K20.o (by have h:=Yc.o;simp only[List.length_append,List.length_cons,List.length_nil]at h⊢;omega)).mono ?_;rintro e X21 ⟨rfl,hk⟩;have K21:=ai hk;clear hk c4;have c4:=bY.o X21 (K21.o.2) 4 _ rfl;go_wp2_with fail;refine aaG K21 (fun hp=>yh b _ ps _ X21 N _ hp (Px.o X21 (K21.o.2)) iC.o HIP.o om (by have h:=Yc.o;simp only[List.length_append,List.length_cons,List.length_nil]at h⊢;omega)) fun X22 K22=> ?_;clear c4;have hk:=K22.o;rw[List.append_assoc _ _ (aO (ps.map oH)),←HM.o]at hk;have KZ:=ai hk;clear hk;go_wp2_with fail;go_meet;case rel=>exact KZ.o
   case rest=>obtain⟨Y3,rfl⟩:=bn wc;have K3:=ai hcut;clear hcut c4;go_wp2_with fail;refine aaF [⟨#[41]⟩] K3 fun X30 K30=> ?_;(go_upto_region 14 with fail);go_wp2_with (refine ay rfl 46 (.tmp 52) rfl w.heap.size 5 rfl [Value.int .i64 tk,aG tn,aG tl,bC tm,.slice q1 fG.length d1,.slice q2 tar.length d2,af fF,af bP] _ (tyc5 (fun j u h=>bY.o X30 (K30.o.2) j u h)) Tryz.underlying46 rfl Tryz.cu ?_);refine aaG K30 (fun hp=>Pv b _ (.mk tk tn tl tm fG tar fF bP) _ X30 N _ hp (Ad.o X30 (K30.o.2)) iC.o HIT.o hqQ) fun X31 K31=> ?_;have c13:=bY.o X31 (K31.o.2) 13 _ rfl;go_wp2_with fail;refine aaG K31 (fun hp=>Bc b _ wh _ X31 N _ hp (HWH.o X31 (K31.o.2)) iC.o HIW.o om hqQ) fun X32 K32=> ?_;clear c13;go_wp2_with fail;refine aaF [⟨#[59]⟩] K32 fun X33 K33=> ?_;go_wp2_with fail;go_end0;exact HF.o _ _ K33.o
theorem wQ.elc {α:Type} {El:World→(Nat→Prop)→α→List Value→Prop} {k:Nat} (hE:Dq El k) {w:World} {P:Nat→Prop} {l:List α} {xs:List Value} {g o i:Nat} {x:α} (h:wQ El w P l xs) (hx:l[i]?=some x) (hc:∀(i:Nat) y,xs[i]?=some y→w.cell? ⟨g,o+i,none⟩=some y):∃cs,El w P x cs∧∀j y,cs[j]?=some y→w.cell? ⟨g,o+i*k+j,none⟩=some y:=by obtain⟨cs,h1,h2⟩:=wQ.get hE i h hx;exact⟨cs,h1,fun j y hy=>by rw[Nat.add_assoc];exact hc _ _ (h2 j y hy)⟩
theorem FI {ms:List Mt} {body:Bool} (ih:∀m∈ms,aaD m body) (hl:ms.length≤100000000) (v:Value) (b:Nat) (l0:List ByteArray) (w:World) (C D:Nat→Prop) (h:(gX b l0).r undef w C) (hv:kP Jt w D ms v) (hD:∀q,D q→¬C q) (hb:(l0++[⟨#[123]⟩]++yB ms body++[⟨#[125]⟩]:List ByteArray).length≤1000000000):Calls Tryz.prog 62 #[.pointer (some ⟨b,0,none⟩),v,.bool body] w (Pt b (l0++[⟨#[123]⟩]++yB ms body++[⟨#[125]⟩]) C w):=by
 obtain⟨N,HN,HP,HF,HS,HO,HD⟩:=bQ h bV;obtain⟨a,c,rfl⟩:=hv.parts;obtain⟨n,hn⟩:=bn ms.length;have F_:=ai hn;have HRV:Hid (∀X,Step N w X→kP Jt X (fun q=>D q∧q<w.heap.size) ms (.slice a ms.length c)):=show∀X,_ from fun X hX=>(bT gK).step _ _ (HS.o X hX) (fun q hq=>hD q hq.1) ((bT gK).mono _ _ (fun q hq h=>⟨h,hq⟩) hv);have iC:=ai (HD.o D hD);have HB:=ai hb;have HIH:=ai ih;have hn9:n≤100000000:=by rw[hn];exact hl
 rw[←hn];clear h hv hD hb ih hl hn;go_enter Tryz.func62,Tryz.ntmps62;go_upto_region 0 with fail
 go_wp2_with fail;refine aaF [⟨#[123]⟩] HP fun X0 K0=> ?_;go_wp2_with fail;go_loopg [13] n (fun gg s13 wr=>∃(i:Nat),s13=.int .i64 i∧i≤n∧n-i≤gg∧Pk b (l0++[⟨#[123]⟩]++yB (ms.take i) body) N w wr);case atStart=>exact⟨0,rfl,Nat.zero_le _,by omega,by rw[List.take_zero,yB,List.append_nil];exact K0.o⟩
 case round=>
  obtain⟨i,rfl,hi,hg,hk⟩:=hrel;have K:=ai hk;clear hk;by_cases hlt:i<n
  ·(have hii:(i:Int)<n:=by omega);obtain⟨x,hx⟩:∃x,ms[i]?=some x:=⟨_,List.getElem?_eq_getElem (by rw[←F_.o];exact hlt)⟩;(have HX:Hid (yB (ms.take (i+1)) body=yB (ms.take i) body++Xk x body):=show _=_ by rw[take_snoc hx,MO]);obtain⟨xs,⟨_,_,he,-,-,-,hr⟩,hel⟩:=HRV.o wr K.o.2;cases he;obtain⟨g,o,rfl,h6,h7,h9⟩:=hr (by rw[←F_.o];omega);obtain⟨cy,hat,hf⟩:=wQ.elc gK hel hx h9;have MV:Hid (∀(j:Nat) v,cy[j]?=some v→wr.cell? ⟨g,o+i*17+j,none⟩=some v):=show∀j,_ from hf;(have hcl:(Tryz.prog.info? 83).map (·.size)=some cy.length:=by rw[gK.len _ _ hat];exact Tryz.oD);have HLEN:=ai (gK.len _ _ hat);have dL:=ai (gK.one _ _ hat);have hal:Step Sf wr (wr.alloc (.cells cy.toArray 83)):=bV.alloc _;have hk1:Pk b (l0++[⟨#[123]⟩]++yB (ms.take i) body) N w (wr.alloc (.cells cy.toArray 83)):=K.o.quiet hal;have hle:=msL_le ms body (i+1);have Ub:Hid _:=Pk.call HN.o hk1 (fun hp=>HIH.o x (List.mem_of_getElem? hx) cy b _ _ N (fun q=>D q∧q<w.heap.size) hp (gK.step _ _ hal (fun _ _ h=>h) hat) iC.o (by rw[HX.o]at hle;have h:=HB.o;simp only[List.length_append,List.length_cons,List.length_nil]at h hle⊢;omega));clear hr h6 h7 h9 hat hf hx hal hk1 hle hel;(go_upto_region 3 with fail);go_wp2_with (first
    |(refine ay rfl 83 (.tmp 15) rfl g (o+i*17) rfl cy _ MV.o Tryz.underlying83 rfl hcl ?_)
    |(refine jO rfl 83 (.tmp 7) (.tmp 16) rfl _ cy rfl rfl hcl (by rw[HLEN.o];rfl) dL.o ?_)
    |(refine ay rfl 83 (.tmp 7) rfl wr.heap.size 0 rfl cy _ BX Tryz.underlying83 rfl hcl ?_))
   refine Calls.mono Ub.o ?_;rintro e w' ⟨rfl,hk⟩;rw[List.append_assoc _ (yB (ms.take i) body),←HX.o]at hk;have K2:=ai hk;clear hk;go_wp2_with fail;go_roundg (gk-1);case rel=>exact⟨i+1,by go_num,by omega,by omega,K2.o⟩
   case measure=>omega
  ·(obtain rfl:i=n:=by omega);have hk:=K.o;rw[F_.o,List.take_length]at hk;have K2:=ai hk;clear hk;go_wp2_with fail;refine aaF [⟨#[125]⟩] K2 fun X1 K1=> ?_;go_wp2_with fail;go_end0;exact HF.o _ _ K1.o
def JY (x:It):Prop:=∀(cs:List Value) (b:Nat) (l:List ByteArray) (w:World) (C D:Nat→Prop),(gX b l).r undef w C→LY w D x cs→(∀q,D q→¬C q)→(l++QK x).length≤1000000000→Calls Tryz.prog 37 #[.pointer (some ⟨b,0,none⟩),.agg cs.toArray] w (Pt b (l++QK x) C w)
structure Yd (x:It):Prop where
 ls:x.gen.bJ.length≤1000000
 ts:x.gen.types.length≤1000000
 fs:x.fields.length≤1000000
 pt:∀p∈x.fields,lZ p.ty
 rt:lZ x.ret
 wh:x.wh.length≤1000000
 wa:∀b∈x.wh,b.qX.length+b.bJ.length≤1000000
 ms:x.methods.length≤1000000
 mt:∀m∈x.methods,aaE m
 bo:zB x.body
theorem Ye {m:Mt} (h:aaE m) (body:Bool):aaD m body:=by cases body;exact Na h;exact M_ h
theorem tyc6 {X:World} {B:Nat} {ty:List Value} {a b c d e f:Value} {r:List Value} (h:∀(j:Nat) u,(a::b::c::d::e::f::(ty++r))[j]?=some u→X.cell? ⟨B,j,none⟩=some u):∀(j:Nat) u,ty[j]?=some u→X.cell? ⟨B,6+j,none⟩=some u:=by intro j u hj;refine h (6+j) u ?_;rw[show 6+j=j+1+1+1+1+1+1 by omega,List.getElem?_cons_succ,List.getElem?_cons_succ,List.getElem?_cons_succ,List.getElem?_cons_succ,List.getElem?_cons_succ,List.getElem?_cons_succ,List.getElem?_append_left (List.getElem?_eq_some_iff.1 hj).1];exact hj
theorem Ul {x:It} (hw:Yd x) (hk:x.kind=1):JY x:=by
 intro cs b l0 w C D h hx hD hb;obtain⟨kd,nm,hd,⟨oh,wV⟩,fs,⟨tk,tn,tl,tm,fG,tar,fF,bP⟩,wh,ms,bo,l,c⟩:=x;obtain rfl:kd=1:=hk;obtain⟨h1,h2,h3,h4,h5,h6,h7,h8,h9,h10⟩:=hw;have h1:oh.length≤1000000:=h1;have h2:wV.length≤1000000:=h2;have h3:fs.length≤1000000:=h3;have h6:wh.length≤1000000:=h6;have h8:ms.length≤1000000:=h8;have h0:l0++QK ⟨1,nm,hd,⟨oh,wV⟩,fs,.mk tk tn tl tm fG tar fF bP,wh,ms,bo,l,c⟩=l0++[⟨#[115,116,114,117,99,116]⟩,nm]++wU oh wV++[⟨#[123]⟩]++aO (fs.map oH)++[⟨#[125]⟩]:=by rw[DX];show l0++([⟨#[115,116,114,117,99,116]⟩,nm]++wU oh wV++([⟨#[123]⟩]++aO (fs.map oH)++[⟨#[125]⟩]))=_;simp only[List.append_assoc]
 rw[h0]at hb⊢;clear h0;obtain⟨ct,vl,vt,vf,vw,vm,vb,rfl,-,-,hls,hts,hfs,hty,hwh,hms,E8⟩:=hx;obtain⟨xsb,hrb,hsb⟩:∃xs,aS w D vb bo.length xs∧bU w D bo xs:=E8;have iK:=hty;rw[dJ]at hty;obtain⟨v1,v2,x2,rfl,-,-,-,hr1,-,hr2⟩:=hty;obtain⟨q1,d1,rfl⟩:=hr1.parts;obtain⟨q2,d2,rfl⟩:=hr2.parts;obtain⟨la,lc,rfl⟩:=hls.parts;obtain⟨ta,tc,rfl⟩:=hts.parts;obtain⟨fa,fc,rfl⟩:=hfs.parts;obtain⟨wa,wd,rfl⟩:=hwh.parts;obtain⟨ma,md,rfl⟩:=hms.parts;obtain⟨ba,bc,rfl⟩:=hrb.parts;obtain⟨W,hW,N,HN,HP,HF,HS,HO,HD,bY⟩:=aap [Value.int .i64 1,aG nm,aG hd,.slice la oh.length lc,.slice ta wV.length tc,.slice fa fs.length fc,af tk,aG tn,aG tl,bC tm,.slice q1 fG.length d1,.slice q2 tar.length d2,af fF,af bP,.slice wa wh.length wd,.slice ma ms.length md,.slice ba bo.length bc,af l,af c] 51 h;have RU:=aau HS hD hls.2;have U7:=aau HS hD hts.2;have Px:Hid (∀X,Step N W X→kP H8 X (fun q=>D q∧q<w.heap.size) fs (.slice fa fs.length fc)):=show∀X,_ from fun X hX=>(bT iI).step _ _ (HS.o X hX) (fun q hq=>hD q hq.1) ((bT iI).mono _ _ (fun q hq h=>⟨h,hq⟩) hfs);have HWH:Hid (∀X,Step N W X→kP Bq X (fun q=>D q∧q<w.heap.size) wh (.slice wa wh.length wd)):=show∀X,_ from fun X hX=>(bT gq).step _ _ (HS.o X hX) (fun q hq=>hD q hq.1) ((bT gq).mono _ _ (fun q hq h=>⟨h,hq⟩) hwh);have HMS:Hid (∀X,Step N W X→kP Jt X (fun q=>D q∧q<w.heap.size) ms (.slice ma ms.length md)):=show∀X,_ from fun X hX=>(bT gK).step _ _ (HS.o X hX) (fun q hq=>hD q hq.1) ((bT gK).mono _ _ (fun q hq h=>⟨h,hq⟩) hms);have mM:=aan HS hD hrb;have BA:=aao HS hD hsb;have Ad:=aat HS hD iK;have iC:=ai (HD.o D hD);have HIP:=ai h4;have HIT:=ai h5;have HIW:=ai h7;have HIM:=ai h9;have UE:=ai h10;have HW:=ai hW;have HB:=ai hb;clear h iK hls hts hfs hwh hms hrb hsb hr1 hr2 hD hb hW h4 h5 h7 h9 h10;go_enter Tryz.func37,Tryz.ntmps37;go_upto_region 1 with fail
 rw[←HW.o];have c0:=bY.o W (HP.o.2) 0 _ rfl;have c1:=bY.o W (HP.o.2) 1 _ rfl;go_wp2_with fail;refine aaF [⟨#[115,116,114,117,99,116]⟩,nm] HP fun X0 K0=> ?_;clear c0 c1;have c3:=bY.o X0 (K0.o.2) 3 _ rfl;have c4:=bY.o X0 (K0.o.2) 4 _ rfl;go_wp2_with fail;refine aaG K0 (fun hp=>tY b _ oh wV _ _ X0 N _ hp (RU.o X0 (K0.o.2)) (U7.o X0 (K0.o.2)) iC.o h1 h2 hqQ) fun X1 K1=> ?_;clear c3 c4;go_wp2_with fail;refine aaF [⟨#[123]⟩] K1 fun X2 K2=> ?_;have c5:=bY.o X2 (K2.o.2) 5 _ rfl;go_wp2_with fail;refine aaG K2 (fun hp=>yh b _ fs _ X2 N _ hp (Px.o X2 (K2.o.2)) iC.o HIP.o om hqQ) fun X3 K3=> ?_;clear c5;go_wp2_with fail;refine aaF [⟨#[125]⟩] K3 fun X4 K4=> ?_;go_wp2_with fail;go_end0;exact HF.o _ _ K4.o
theorem Um {x:It} (hw:Yd x) (hk:x.kind=2):JY x:=by
 intro cs b l0 w C D h hx hD hb;obtain⟨kd,nm,hd,⟨oh,wV⟩,fs,⟨tk,tn,tl,tm,fG,tar,fF,bP⟩,wh,ms,bo,l,c⟩:=x;obtain rfl:kd=2:=hk;obtain⟨h1,h2,h3,h4,h5,h6,h7,h8,h9,h10⟩:=hw;have h1:oh.length≤1000000:=h1;have h2:wV.length≤1000000:=h2;have h3:fs.length≤1000000:=h3;have h6:wh.length≤1000000:=h6;have h8:ms.length≤1000000:=h8;have h0:l0++QK ⟨2,nm,hd,⟨oh,wV⟩,fs,.mk tk tn tl tm fG tar fF bP,wh,ms,bo,l,c⟩=l0++[⟨#[116,114,97,105,116]⟩,nm]++[⟨#[123]⟩]++yB ms false++[⟨#[125]⟩]:=by rw[DX];show l0++([⟨#[116,114,97,105,116]⟩,nm]++([⟨#[123]⟩]++yB ms false++[⟨#[125]⟩]))=_;simp only[List.append_assoc]
 rw[h0]at hb⊢;clear h0;obtain⟨ct,vl,vt,vf,vw,vm,vb,rfl,-,-,hls,hts,hfs,hty,hwh,hms,E8⟩:=hx;obtain⟨xsb,hrb,hsb⟩:∃xs,aS w D vb bo.length xs∧bU w D bo xs:=E8;have iK:=hty;rw[dJ]at hty;obtain⟨v1,v2,x2,rfl,-,-,-,hr1,-,hr2⟩:=hty;obtain⟨q1,d1,rfl⟩:=hr1.parts;obtain⟨q2,d2,rfl⟩:=hr2.parts;obtain⟨la,lc,rfl⟩:=hls.parts;obtain⟨ta,tc,rfl⟩:=hts.parts;obtain⟨fa,fc,rfl⟩:=hfs.parts;obtain⟨wa,wd,rfl⟩:=hwh.parts;obtain⟨ma,md,rfl⟩:=hms.parts;obtain⟨ba,bc,rfl⟩:=hrb.parts;obtain⟨W,hW,N,HN,HP,HF,HS,HO,HD,bY⟩:=aap [Value.int .i64 2,aG nm,aG hd,.slice la oh.length lc,.slice ta wV.length tc,.slice fa fs.length fc,af tk,aG tn,aG tl,bC tm,.slice q1 fG.length d1,.slice q2 tar.length d2,af fF,af bP,.slice wa wh.length wd,.slice ma ms.length md,.slice ba bo.length bc,af l,af c] 51 h;have RU:=aau HS hD hls.2;have U7:=aau HS hD hts.2;have Px:Hid (∀X,Step N W X→kP H8 X (fun q=>D q∧q<w.heap.size) fs (.slice fa fs.length fc)):=show∀X,_ from fun X hX=>(bT iI).step _ _ (HS.o X hX) (fun q hq=>hD q hq.1) ((bT iI).mono _ _ (fun q hq h=>⟨h,hq⟩) hfs);have HWH:Hid (∀X,Step N W X→kP Bq X (fun q=>D q∧q<w.heap.size) wh (.slice wa wh.length wd)):=show∀X,_ from fun X hX=>(bT gq).step _ _ (HS.o X hX) (fun q hq=>hD q hq.1) ((bT gq).mono _ _ (fun q hq h=>⟨h,hq⟩) hwh);have HMS:Hid (∀X,Step N W X→kP Jt X (fun q=>D q∧q<w.heap.size) ms (.slice ma ms.length md)):=show∀X,_ from fun X hX=>(bT gK).step _ _ (HS.o X hX) (fun q hq=>hD q hq.1) ((bT gK).mono _ _ (fun q hq h=>⟨h,hq⟩) hms);have mM:=aan HS hD hrb;have BA:=aao HS hD hsb;have Ad:=aat HS hD iK;have iC:=ai (HD.o D hD);have HIP:=ai h4;have HIT:=ai h5;have HIW:=ai h7;have HIM:=ai h9;have UE:=ai h10;have HW:=ai hW;have HB:=ai hb;clear h iK hls hts hfs hwh hms hrb hsb hr1 hr2 hD hb hW h4 h5 h7 h9 h10;go_enter Tryz.func37,Tryz.ntmps37;go_upto_region 1 with fail
 rw[←HW.o];have c0:=bY.o W (HP.o.2) 0 _ rfl;have c1:=bY.o W (HP.o.2) 1 _ rfl;go_wp2_with fail;refine aaF [⟨#[116,114,97,105,116]⟩,nm] HP fun X0 K0=> ?_;clear c0 c1;have c15:=bY.o X0 (K0.o.2) 15 _ rfl;go_wp2_with fail;refine aaG K0 (fun hp=>FI (fun m hm=>Ye (HIM.o m hm) false) om _ b _ X0 N _ hp (HMS.o X0 (K0.o.2)) iC.o hqQ) fun X1 K1=> ?_;clear c15;go_wp2_with fail;go_end0;exact HF.o _ _ K1.o
theorem Un {x:It} (hw:Yd x) (hk:x.kind=3):JY x:=by
 intro cs b l0 w C D h hx hD hb;obtain⟨kd,nm,hd,⟨oh,wV⟩,fs,⟨tk,tn,tl,tm,fG,tar,fF,bP⟩,wh,ms,bo,l,c⟩:=x;obtain rfl:kd=3:=hk;obtain⟨h1,h2,h3,h4,h5,h6,h7,h8,h9,h10⟩:=hw;have h1:oh.length≤1000000:=h1;have h2:wV.length≤1000000:=h2;have h3:fs.length≤1000000:=h3;have h6:wh.length≤1000000:=h6;have h8:ms.length≤1000000:=h8;have h0:l0++QK ⟨3,nm,hd,⟨oh,wV⟩,fs,.mk tk tn tl tm fG tar fF bP,wh,ms,bo,l,c⟩=l0++[⟨#[105,109,112,108]⟩,nm,⟨#[102,111,114]⟩,hd]++FH wh++[⟨#[123]⟩]++yB ms true++[⟨#[125]⟩]:=by rw[DX];show l0++([⟨#[105,109,112,108]⟩,nm,⟨#[102,111,114]⟩,hd]++xW dU wh++([⟨#[123]⟩]++yB ms true++[⟨#[125]⟩]))=_;rw[JW,show xX dU=[] from rfl,List.nil_append];simp only[List.append_assoc]
 rw[h0]at hb⊢;clear h0;obtain⟨ct,vl,vt,vf,vw,vm,vb,rfl,-,-,hls,hts,hfs,hty,hwh,hms,E8⟩:=hx;obtain⟨xsb,hrb,hsb⟩:∃xs,aS w D vb bo.length xs∧bU w D bo xs:=E8;have iK:=hty;rw[dJ]at hty;obtain⟨v1,v2,x2,rfl,-,-,-,hr1,-,hr2⟩:=hty;obtain⟨q1,d1,rfl⟩:=hr1.parts;obtain⟨q2,d2,rfl⟩:=hr2.parts;obtain⟨la,lc,rfl⟩:=hls.parts;obtain⟨ta,tc,rfl⟩:=hts.parts;obtain⟨fa,fc,rfl⟩:=hfs.parts;obtain⟨wa,wd,rfl⟩:=hwh.parts;obtain⟨ma,md,rfl⟩:=hms.parts;obtain⟨ba,bc,rfl⟩:=hrb.parts;obtain⟨W,hW,N,HN,HP,HF,HS,HO,HD,bY⟩:=aap [Value.int .i64 3,aG nm,aG hd,.slice la oh.length lc,.slice ta wV.length tc,.slice fa fs.length fc,af tk,aG tn,aG tl,bC tm,.slice q1 fG.length d1,.slice q2 tar.length d2,af fF,af bP,.slice wa wh.length wd,.slice ma ms.length md,.slice ba bo.length bc,af l,af c] 51 h;have RU:=aau HS hD hls.2;have U7:=aau HS hD hts.2;have Px:Hid (∀X,Step N W X→kP H8 X (fun q=>D q∧q<w.heap.size) fs (.slice fa fs.length fc)):=show∀X,_ from fun X hX=>(bT iI).step _ _ (HS.o X hX) (fun q hq=>hD q hq.1) ((bT iI).mono _ _ (fun q hq h=>⟨h,hq⟩) hfs);have HWH:Hid (∀X,Step N W X→kP Bq X (fun q=>D q∧q<w.heap.size) wh (.slice wa wh.length wd)):=show∀X,_ from fun X hX=>(bT gq).step _ _ (HS.o X hX) (fun q hq=>hD q hq.1) ((bT gq).mono _ _ (fun q hq h=>⟨h,hq⟩) hwh);have HMS:Hid (∀X,Step N W X→kP Jt X (fun q=>D q∧q<w.heap.size) ms (.slice ma ms.length md)):=show∀X,_ from fun X hX=>(bT gK).step _ _ (HS.o X hX) (fun q hq=>hD q hq.1) ((bT gK).mono _ _ (fun q hq h=>⟨h,hq⟩) hms);have mM:=aan HS hD hrb;have BA:=aao HS hD hsb;have Ad:=aat HS hD iK;have iC:=ai (HD.o D hD);have HIP:=ai h4;have HIT:=ai h5;have HIW:=ai h7;have HIM:=ai h9;have UE:=ai h10;have HW:=ai hW;have HB:=ai hb;clear h iK hls hts hfs hwh hms hrb hsb hr1 hr2 hD hb hW h4 h5 h7 h9 h10;go_enter Tryz.func37,Tryz.ntmps37;go_upto_region 1 with fail
 rw[←HW.o];have c0:=bY.o W (HP.o.2) 0 _ rfl;have c1:=bY.o W (HP.o.2) 1 _ rfl;have c2:=bY.o W (HP.o.2) 2 _ rfl;go_wp2_with fail;refine aaF [⟨#[105,109,112,108]⟩,nm,⟨#[102,111,114]⟩,hd] HP fun X0 K0=> ?_;clear c0 c1 c2;have c14:=bY.o X0 (K0.o.2) 14 _ rfl;go_wp2_with fail;refine aaG K0 (fun hp=>Bc b _ wh _ X0 N _ hp (HWH.o X0 (K0.o.2)) iC.o HIW.o om hqQ) fun X1 K1=> ?_;clear c14;have c15:=bY.o X1 (K1.o.2) 15 _ rfl;go_wp2_with fail;refine aaG K1 (fun hp=>FI (fun m hm=>Ye (HIM.o m hm) true) om _ b _ X1 N _ hp (HMS.o X1 (K1.o.2)) iC.o hqQ) fun X2 K2=> ?_;clear c15;go_wp2_with fail;go_end0;exact HF.o _ _ K2.o
theorem Uo {x:It} (hw:Yd x) (hk:x.kind=4):JY x:=by
 intro cs b l0 w C D h hx hD hb;obtain⟨kd,nm,hd,⟨oh,wV⟩,fs,⟨tk,tn,tl,tm,fG,tar,fF,bP⟩,wh,ms,bo,l,c⟩:=x;obtain rfl:kd=4:=hk;obtain⟨h1,h2,h3,h4,h5,h6,h7,h8,h9,h10⟩:=hw;have h1:oh.length≤1000000:=h1;have h2:wV.length≤1000000:=h2;have h3:fs.length≤1000000:=h3;have h6:wh.length≤1000000:=h6;have h8:ms.length≤1000000:=h8;have h0:l0++QK ⟨4,nm,hd,⟨oh,wV⟩,fs,.mk tk tn tl tm fG tar fF bP,wh,ms,bo,l,c⟩=l0++[⟨#[102,110]⟩,nm]++wU oh wV++[⟨#[40]⟩]++aO (fs.map oH)++[⟨#[41]⟩]++xX (.mk tk tn tl tm fG tar fF bP)++FH wh++vk bo:=by rw[DX];show l0++([⟨#[102,110]⟩,nm]++wU oh wV++([⟨#[40]⟩]++aO (fs.map oH)++[⟨#[41]⟩])++xW (.mk tk tn tl tm fG tar fF bP) wh++vk bo)=_;rw[JW];simp only[List.append_assoc]
 rw[h0]at hb⊢;clear h0;obtain⟨ct,vl,vt,vf,vw,vm,vb,rfl,-,-,hls,hts,hfs,hty,hwh,hms,E8⟩:=hx;obtain⟨xsb,hrb,hsb⟩:∃xs,aS w D vb bo.length xs∧bU w D bo xs:=E8;have iK:=hty;rw[dJ]at hty;obtain⟨v1,v2,x2,rfl,-,-,-,hr1,-,hr2⟩:=hty;obtain⟨q1,d1,rfl⟩:=hr1.parts;obtain⟨q2,d2,rfl⟩:=hr2.parts;obtain⟨la,lc,rfl⟩:=hls.parts;obtain⟨ta,tc,rfl⟩:=hts.parts;obtain⟨fa,fc,rfl⟩:=hfs.parts;obtain⟨wa,wd,rfl⟩:=hwh.parts;obtain⟨ma,md,rfl⟩:=hms.parts;obtain⟨ba,bc,rfl⟩:=hrb.parts;obtain⟨W,hW,N,HN,HP,HF,HS,HO,HD,bY⟩:=aap [Value.int .i64 4,aG nm,aG hd,.slice la oh.length lc,.slice ta wV.length tc,.slice fa fs.length fc,af tk,aG tn,aG tl,bC tm,.slice q1 fG.length d1,.slice q2 tar.length d2,af fF,af bP,.slice wa wh.length wd,.slice ma ms.length md,.slice ba bo.length bc,af l,af c] 51 h;have RU:=aau HS hD hls.2;have U7:=aau HS hD hts.2;have Px:Hid (∀X,Step N W X→kP H8 X (fun q=>D q∧q<w.heap.size) fs (.slice fa fs.length fc)):=show∀X,_ from fun X hX=>(bT iI).step _ _ (HS.o X hX) (fun q hq=>hD q hq.1) ((bT iI).mono _ _ (fun q hq h=>⟨h,hq⟩) hfs);have HWH:Hid (∀X,Step N W X→kP Bq X (fun q=>D q∧q<w.heap.size) wh (.slice wa wh.length wd)):=show∀X,_ from fun X hX=>(bT gq).step _ _ (HS.o X hX) (fun q hq=>hD q hq.1) ((bT gq).mono _ _ (fun q hq h=>⟨h,hq⟩) hwh);have HMS:Hid (∀X,Step N W X→kP Jt X (fun q=>D q∧q<w.heap.size) ms (.slice ma ms.length md)):=show∀X,_ from fun X hX=>(bT gK).step _ _ (HS.o X hX) (fun q hq=>hD q hq.1) ((bT gK).mono _ _ (fun q hq h=>⟨h,hq⟩) hms);have mM:=aan HS hD hrb;have BA:=aao HS hD hsb;have Ad:=aat HS hD iK;have iC:=ai (HD.o D hD);have HIP:=ai h4;have HIT:=ai h5;have HIW:=ai h7;have HIM:=ai h9;have UE:=ai h10;have HW:=ai hW;have HB:=ai hb;clear h iK hls hts hfs hwh hms hrb hsb hr1 hr2 hD hb hW h4 h5 h7 h9 h10;go_enter Tryz.func37,Tryz.ntmps37;go_upto_region 1 with fail
 rw[←HW.o];have c0:=bY.o W (HP.o.2) 0 _ rfl;have c1:=bY.o W (HP.o.2) 1 _ rfl;go_wp2_with fail;refine aaF [⟨#[102,110]⟩,nm] HP fun X0 K0=> ?_;clear c0 c1;have c3:=bY.o X0 (K0.o.2) 3 _ rfl;have c4:=bY.o X0 (K0.o.2) 4 _ rfl;go_wp2_with fail;refine aaG K0 (fun hp=>tY b _ oh wV _ _ X0 N _ hp (RU.o X0 (K0.o.2)) (U7.o X0 (K0.o.2)) iC.o h1 h2 hqQ) fun X1 K1=> ?_;clear c3 c4;go_wp2_with fail;refine aaF [⟨#[40]⟩] K1 fun X2 K2=> ?_;have c5:=bY.o X2 (K2.o.2) 5 _ rfl;go_wp2_with fail;refine aaG K2 (fun hp=>yh b _ fs _ X2 N _ hp (Px.o X2 (K2.o.2)) iC.o HIP.o om hqQ) fun X3 K3=> ?_;clear c5;go_wp2_with fail;refine aaF [⟨#[41]⟩] K3 fun X4 K4=> ?_;go_upto_region 21 with fail
 go_wp2_with (refine ay rfl 46 (.tmp 85) rfl w.heap.size 6 rfl [Value.int .i64 tk,aG tn,aG tl,bC tm,.slice q1 fG.length d1,.slice q2 tar.length d2,af fF,af bP] _ (tyc6 (fun j u h=>bY.o X4 (K4.o.2) j u h)) Tryz.underlying46 rfl Tryz.cu ?_);refine aaG K4 (fun hp=>Pv b _ (.mk tk tn tl tm fG tar fF bP) _ X4 N _ hp (Ad.o X4 (K4.o.2)) iC.o HIT.o hqQ) fun X5 K5=> ?_;have c14:=bY.o X5 (K5.o.2) 14 _ rfl;go_wp2_with fail;refine aaG K5 (fun hp=>Bc b _ wh _ X5 N _ hp (HWH.o X5 (K5.o.2)) iC.o HIW.o om hqQ) fun X6 K6=> ?_;clear c14;have c16:=bY.o X6 (K6.o.2) 16 _ rfl;go_wp2_with fail;refine aaG K6 (fun hp=>UE.o _ xsb b _ X6 N _ hp (mM.o X6 (K6.o.2)) (BA.o X6 (K6.o.2)) iC.o hqQ) fun X7 K7=> ?_;clear c16;go_wp2_with fail;go_end0;exact HF.o _ _ K7.o
theorem it_any {x:It} (hw:Yd x) (hk:x.kind=1∨x.kind=2∨x.kind=3∨x.kind=4):JY x:=by
 rcases hk with hk|hk|hk|hk
 ·exact Ul hw hk
 ·exact Um hw hk
 ·exact Un hw hk
 ·exact Uo hw hk
def FK (l:List (List UInt8)):List UInt8:=Lib.join l [32]
def QU (l:List ByteArray):ByteArray:=⟨(Lib.join (l.map (·.data.toList)) [32]).toArray⟩
theorem xY (l:List ByteArray):(QU l).data.toList=FK (l.map (·.data.toList)):=rfl
def Apart (y:List UInt8):Prop:=y=[]∨∃t,y=32::t
theorem C9:G9 32=false:=by decide
theorem zD (r y:List UInt8) (hy:Apart y):jg (r.take (jg r)++y)=jg r:=by
 induction r with
 |nil=>
  rcases hy with rfl|⟨t,rfl⟩
  ·rfl
  ·exact zU C9
 |cons c r ih=>
  cases h:G9 c
  ·rw[zU h,List.take_zero,List.nil_append];rcases hy with rfl|⟨t,rfl⟩
   ·rfl
   ·exact zU C9
  ·rw[xq h,List.take_succ_cons,List.cons_append,xq h,ih]
theorem B_ (r y:List UInt8) (n:Nat) (hn:n≤r.length):(r.take n++y).take n=r.take n:=by rw[List.take_append_of_le_length (by rw[List.length_take];omega),List.take_take,Nat.min_self]
theorem Nb {r y:List UInt8} {kind n val:Nat} (h:jL r=.ok (kind,n,val)) (hy:Apart y):jL (r.take n++y)=.ok (kind,n,val):=by
 have hpos:=rJ h;cases r with
 |nil=>simp[jL]at h
 |cons c r=>
  obtain⟨k,rfl⟩:∃k,n=k+1:=⟨n-1,by omega⟩;have hle:=mY (c::r);rw[List.take_succ_cons,List.cons_append,jL];rw[jL]at h;split at h
  ·rename_i hL;rw[if_pos hL];unfold yD at h⊢;split at h
   ·simp at h
   ·rename_i h24;simp at h;obtain⟨rfl,hk,rfl⟩:=h;have:=zD (c::r) y hy;rw[hk,List.take_succ_cons,List.cons_append]at this;rw[this,if_neg om]
  ·rename_i hL;rw[if_neg hL];split at h
   ·rename_i hc;rw[if_pos hc];rw[yE]at h⊢;split at h
    ·simp at h
    ·rename_i hns;split at h
     ·simp at h
     ·rename_i h24;simp at h;obtain⟨rfl,hk,rfl⟩:=h;subst hk;have hr:=zD r y hy;have h0:jg r≠0:=fun e=>hns (.inl e);have hh:(r.take (jg r)++y).headD 0=r.headD 0:=by
       cases r with
       |nil=>exact absurd rfl h0
       |cons d r=>obtain⟨j,hj⟩:∃j,jg (d::r)=j+1:=⟨jg (d::r)-1,by omega⟩;rw[hj];rfl
      rw[hr,hh,if_neg hns,if_neg h24]
   ·rename_i hc;rw[if_neg hc];split at h
    ·rename_i hD;rw[if_pos hD];(have hlen:((c::r).take (jg (c::r))).length=jg (c::r):=by rw[List.length_take];omega);(have hn:k+1=jg (c::r):=by unfold o_ Gj at h;rw[hlen]at h;split at h<;>split at h<;>simp at h<;>omega);have:=zD (c::r) y hy;unfold o_ at h⊢;rw[←hn]at this h;rw[List.take_succ_cons,List.cons_append]at this;rw[this];have ht:=B_ (c::r) y (k+1) om;rw[List.take_succ_cons,List.cons_append]at ht;rw[ht];exact h
    ·rename_i hD;rw[if_neg hD];have hone:∀z,Apart z→xu c=true→lg (c::z)=.ok (5,1,0):=by
      intro z hz h1;rcases hz with rfl|⟨t,rfl⟩
      ·rw[lg,if_pos h1]
      ·rw[lg,show qj c 32=false by unfold qj;simp,if_neg (by simp),if_pos h1]
     cases r with
     |nil=>
      rw[lg]at h;split at h
      ·rename_i h1;simp at h;obtain⟨rfl,rfl,rfl⟩:=h;rw[List.take_nil,List.nil_append];exact hone y hy h1
      ·simp at h
     |cons d r=>
      rw[lg]at h;split at h
      ·rename_i h2;simp at h;obtain⟨rfl,rfl,rfl⟩:=h;rw[List.take_succ_cons,List.take_zero,List.cons_append,List.nil_append,lg,if_pos h2]
      ·split at h
       ·rename_i h1;simp at h;obtain⟨rfl,rfl,rfl⟩:=h;rw[List.take_zero,List.nil_append];exact hone y hy h1
       ·simp at h
theorem Py {c:UInt8} {r:List UInt8} {kind n val:Nat} (h:jL (c::r)=.ok (kind,n,val)):c≠10∧¬(c=32∨c=9∨c=13)∧(c=47→n=1):=by
 have bad:∀c:UInt8,c=10∨c=32∨c=9∨c=13→jf c.toNat=false∧c≠39∧isDigit c.toNat=false∧xu c=false∧∀d,qj c d=false:=by rintro c (rfl|rfl|rfl|rfl)<;>refine⟨by decide,by decide,by decide,by decide,fun d=> ?_⟩<;>unfold qj<;>simp
 have JZ:∀c:UInt8,c=10∨c=32∨c=9∨c=13→∀r x,jL (c::r)=.ok x→False:=by
  intro c hc r x hx;obtain⟨b1,b2,b3,b4,b5⟩:=bad c hc;rw[jL,if_neg (by rw[b1];simp),if_neg b2,if_neg (by rw[b3];simp)]at hx;cases r with
  |nil=>rw[lg,b4]at hx;simp at hx
  |cons d r=>rw[lg,b5 d,b4]at hx;simp at hx
 refine⟨fun e=>JZ c (.inl e) r _ h,?_,?_⟩
 ·rintro(e|e|e)
  ·exact JZ c (.inr (.inl e)) r _ h
  ·exact JZ c (.inr (.inr (.inl e))) r _ h
  ·exact JZ c (.inr (.inr (.inr e))) r _ h
 ·rintro rfl;rw[jL,if_neg dc,if_neg dc,if_neg dc]at h;have h2:∀d,qj 47 d=false:=fun d=>by unfold qj;simp
  cases r with
  |nil=>rw[lg,if_pos dc]at h;simp at h;omega
  |cons d r=>rw[lg,h2 d,if_neg (by simp),if_pos dc]at h;simp at h;omega
theorem Good.next {t:Tok} (h:Good t) {y:List UInt8} (hy:Apart y):jL (t.text++y)=.ok (t.kind,t.text.length,t.val):=by
 obtain⟨r,h1,h2⟩:=h;have:=Nb h1 hy
 rwa [←h2]at this
theorem Good.blank {t:Tok} (h:Good t) {y:List UInt8} (hy:Apart y) (p l f:Nat):gG false (t.text++y) p l f=(p,l,f):=by
 have hn:=h.next hy;have hp:=h.pos;cases ht:t.text with
 |nil=>rw[ht]at hp;simp at hp
 |cons c x=>
  rw[ht]at hn;rw[List.cons_append]at hn⊢;obtain⟨h1,h2,h3⟩:=Py hn;refine Cm h1 h2 ?_;rintro⟨rfl,h4⟩;have h5:=h3 rfl;have hx:x=[]:=by have:(47::x:List UInt8).length=1:=h5;simp at this;exact this
  subst hx;rcases hy with rfl|⟨z,rfl⟩<;>simp at h4
def Same (a b:List Tok):Prop:=a.map (fun t=>(t.kind,t.text,t.val))=b.map (fun t=>(t.kind,t.text,t.val))
def qR:List Tok→List UInt8
 |[]=>[]
 |t::ts=>32::(t.text++qR ts)
theorem C_ (ts:List Tok):Apart (qR ts):=by
 cases ts with
 |nil=>exact .inl rfl
 |cons t ts=>exact .inr ⟨_,rfl⟩
theorem J3 (ts:List Tok):(qR ts).length=oG ts+ts.length:=by
 induction ts with
 |nil=>rfl
 |cons t ts ih=>simp[qR,oG]at ih⊢;omega
theorem Nc (t:Tok) (ts:List Tok):FK ((t::ts).map (·.text))=t.text++qR ts:=by
 rw[List.map_cons,FK,Lib.join_cons];congr 1;induction ts with
 |nil=>rfl
 |cons a ts ih=>rw[List.map_cons,Lib.joinTail,List.map_cons,List.flatten_cons,qR,←ih];rfl
theorem Pz:∀(ts:List Tok) (k p l f:Nat) (acc:List Tok),ts.length<k→f≤p→(∀t∈ts,Good t)→acc.length+ts.length≤8000→∃ts' e,uG k (qR ts) p l f acc=.ok (acc++ts'++[e])∧Same ts' ts∧e.kind=0∧e.text=[]∧e.val=0:=by
 intro ts;induction ts with
 |nil=>intro k p l f acc hk hf hg hl;obtain⟨j,rfl⟩:∃j,k=j+1:=⟨k-1,by simp at hk;omega⟩;refine⟨[],⟨0,[],l,p-f+1,0⟩,?_,rfl,rfl,rfl,rfl⟩;rw[uG,qR,gG];simp
 |cons t ts ih=>
  intro k p l f acc hk hf hg hl;obtain⟨j,rfl⟩:∃j,k=j+1:=⟨k-1,by simp at hk;omega⟩;have hgt:=hg t List.mem_cons_self;have hap:=C_ ts;have hb:gG false (qR (t::ts)) p l f=(p+1,l,f):=by rw[qR,tu (.inl rfl)];exact hgt.blank hap _ _ _
  have hd:(qR (t::ts)).drop (p+1-p)=t.text++qR ts:=by rw[show p+1-p=1 by omega];rfl
  have hne:t.text++qR ts≠[]:=by have:=hgt.pos;intro e;have:=congrArg List.length e;rw[List.length_append,List.length_nil]at this;omega
  have hcl:(t::ts).length=ts.length+1:=rfl;obtain⟨ts',e,h1,h2,h3⟩:=ih j (p+1+t.text.length) l f (acc++[⟨t.kind,t.text,l,p+1-f+1,t.val⟩]) om om (fun x hx=>hg x (List.mem_cons_of_mem _ hx)) (by rw[List.length_append,List.length_singleton];omega);refine⟨⟨t.kind,t.text,l,p+1-f+1,t.val⟩::ts',e,?_,?_,h3⟩
  ·rw[uG];simp only[hb,hd];rw[if_neg hne,if_neg (show¬acc.length=8000 by omega),hgt.next hap];simp only[List.drop_left,List.take_left];rw[h1];simp
  ·unfold Same at h2⊢;simp[h2]
theorem PD (s:List UInt8) (toks:List Tok) (h:ng s=.ok toks) (hs:s.length≤9000):∃body e Yf,toks=body++[e]∧ng (FK (body.map (·.text)))=.ok Yf∧Same Yf toks∧(FK (body.map (·.text))).length≤18000:=by
 unfold ng at h;rw[if_neg om]at h;obtain⟨body,e,rfl,hg,hsum,hlen,he1,he2,he3⟩:=Ie _ _ _ _ _ _ _ h (Nat.le_refl _) (by simp) (by simp[oG]) (by simp);refine⟨body,e,?_⟩;cases body with
 |nil=>refine⟨[⟨0,[],1,1,0⟩],rfl,rfl,?_,by simp[FK,Lib.join_nil]⟩;simp[Same,he1,he2,he3]
 |cons t ts=>
  have hgt:=hg t List.mem_cons_self;have hap:=C_ ts;have hcnt:∀l:List Tok,(∀t∈l,Good t)→l.length≤oG l:=by
   intro l;induction l with
   |nil=>intro _;simp
   |cons a l ih=>intro hl;have:=ih (fun x hx=>hl x (List.mem_cons_of_mem _ hx));have:=(hl a List.mem_cons_self).pos;simp[oG]at*;omega
  have h1:=hcnt _ hg;have htl:=J3 ts;have hpl:(FK ((t::ts).map (·.text))).length≤18000:=by rw[Nc,List.length_append,htl];simp[oG]at hsum h1⊢;omega
  rw[Nc]at hpl⊢;have hne:t.text++qR ts≠[]:=by have:=hgt.pos;intro e;have:=congrArg List.length e;rw[List.length_append,List.length_nil]at this;omega
  have hcl:(t::ts).length=ts.length+1:=rfl;have hposn:=hgt.pos;have hfl:ts.length<(t.text++qR ts).length:=by rw[List.length_append,htl];omega
  obtain⟨ts',e',h2,h3,h4,h5,h6⟩:=Pz ts (t.text++qR ts).length (0+t.text.length) 1 0 [⟨t.kind,t.text,1,1,t.val⟩] hfl om (fun x hx=>hg x (List.mem_cons_of_mem _ hx)) (by rw[List.length_singleton];omega);refine⟨⟨t.kind,t.text,1,1,t.val⟩::ts'++[e'],rfl,?_,?_,hpl⟩
  ·unfold ng;rw[if_neg (show¬20000<(t.text++qR ts).length by omega),uG];simp only[hgt.blank hap,List.drop_zero,Nat.sub_self];rw[if_neg hne,if_neg (by simp),hgt.next hap];simp only[List.drop_left,List.take_left];exact h2
  ·unfold Same at h3⊢;simp[h3,h4,h5,h6,he1,he2,he3]
theorem join0 (a:Option Addr) (c:Nat) (s:ByteArray) (w:World):Calls Tryz.prog 66 #[.slice a 0 c,.string s] w fun e w'=>e=.returned (.string ⟨#[]⟩)∧w=w':=by go_enter Tryz.func66,Tryz.ntmps66;go_wp2;go_ret;exact⟨rfl,rfl⟩
theorem FM (l:List ByteArray) (v:Value) (w:World) (C:Nat→Prop) (h:(qU l).r v w C) (hlen:(QU l).size≤100000000) (hl:l.length≤100000000):Calls Tryz.prog 38 #[v] w fun e w'=>e=.returned (.string (QU l))∧Step Sf w w':=by
 obtain⟨a,c,rfl,h1,h2,h3,h4⟩:=qU.strs h;by_cases h0:l.length=0
 ·have hn:l=[]:=List.eq_nil_of_length_eq_zero h0;subst hn;clear h h1 h2 h3 h4 hlen hl h0;go_enter Tryz.func38,Tryz.ntmps38;go_wp2_with fail;refine(join0 a c _ _).mono ?_;rintro e w1 ⟨rfl,rfl⟩;go_wp2;go_ret;exact⟨rfl,Step.refl _ _⟩
 ·obtain⟨g,o,rfl,-,hg,hcell⟩:=h4 om;have HC:Hid (∀(j:Nat) x,l[j]?=some x→w.cell? ⟨g,o+j,none⟩=some (.string x)):=show∀j,_ from fun j x hx=>hcell j _ (by rw[List.getElem?_map,hx];rfl);have HL:Hid ((Lib.join (l.map (·.data.toList)) [32]).length≤140737488355328):=by show _≤_;have:=Lib.size_eq (QU l);rw[xY,FK]at this;omega
  clear hcell h h3 h4 h0;go_enter Tryz.func38,Tryz.ntmps38;go_wp2_with fail;refine(Tryz.strings_Join g o c l _ _ HC.o hg om h1 HL.o).mono ?_;rintro e w1 ⟨rfl,hb⟩;go_wp2;go_ret;exact⟨rfl,bV.below hb⟩
theorem gX.new {w:World} {C:Nat→Prop} {b:Nat} (h:w.heap[b]?=some (.cells #[aj] 97 (0,0))) (hC:C b):(gX b []).r undef w C:=⟨.slice none 0 0,h,hC,qU.nil _ _,fun e=>by cases e⟩
theorem FN (x:Ex) (hp:jS x) (cs:List Value) (w:World) (D:Nat→Prop) (hx:cZ w D x cs) (hl:(dK x).length≤100000000) (hz:(QU (dK x)).size≤100000000):Calls Tryz.prog 15 #[.agg cs.toArray] w fun e w'=>e=.returned (.string (QU (dK x)))∧Step Sf w w':=by
 obtain⟨W,hW⟩:=bn ((w.alloc (.cells cs.toArray 56)).alloc (.cells #[aj] 97));have hs:Step Sf w W:=by rw[hW];exact(bV.alloc _).alloc _
 have hb1:W.heap[w.heap.size]?=some (.cells cs.toArray 56 (0,0)):=by rw[hW];exact aN (aB _ _)
 have hb2:W.heap[w.heap.size+1]?=some (.cells #[aj] 97 (0,0)):=by rw[hW];exact fO _ _ _
 have hz2:=aC hb2;have bY:Hid (∀(j:Nat) u,cs[j]?=some u→W.cell? ⟨w.heap.size,0+j,none⟩=some u):=show∀j,_ from fun j u hu=>by rw[Nat.zero_add];exact ah hb1 j u (by simpa using hu)
 have hcl:(Tryz.prog.info? 56).map (·.size)=some cs.length:=by rw[hx.len];exact Tryz.aK
 have Ub:=ai (hp cs (w.heap.size+1) [] W (fun q=>q=w.heap.size+1) (fun q=>D q∧q<w.heap.size) (gX.new hb2 rfl) (cZ.step hs (fun _ _ h=>h) _ _ (cZ.mono (fun q hq h=>⟨h,hq⟩) _ _ hx)) (fun q hq e=>by have:=hq.2;omega) (by rw[List.nil_append];omega));have HS:=ai hs;have HW:=ai hW;have HZ:=ai hz;obtain⟨k,nm,v,mu,ar,ns,bo,l,c⟩:=x;rw[cZ]at hx;obtain⟨va,vn,vb,xa,xb,rfl,-,-,-,hra,hrn,-,hrb⟩:=hx;obtain⟨aa,ca,rfl⟩:=hra.parts;obtain⟨an,cn,rfl⟩:=hrn.parts;obtain⟨ab,cb,rfl⟩:=hrb.parts;clear hra hrn hrb;clear hs hW hb1 hb2 hz;go_enter Tryz.func15,Tryz.ntmps15;go_upto_region 2 with fail
 rw[←HW.o];go_wp2_with (refine ay rfl 56 (.tmp 1) rfl w.heap.size 0 rfl _ _ bY.o Tryz.underlying56 rfl hcl ?_);refine Calls.mono Ub.o ?_;rintro e X ⟨rfl,h1,v,h2,-,h3,-⟩;rw[List.nil_append]at h3;have c0:=ah h2 0 _ rfl;obtain⟨oa,oc,rfl⟩:=b_ h3.1;have HST:Hid (Step Sf w X):=HS.o.then h1 oi;have HPU:=ai (FM _ _ X _ h3 HZ.o hl);clear h1 h2 h3;go_wp2_with fail;refine Calls.mono HPU.o ?_;rintro e w' ⟨rfl,h4⟩;have H4:=ai h4;clear h4;go_wp2_with fail;go_ret;exact⟨rfl,HST.o.trans H4.o⟩
theorem FO (x:Ty) (hp:lZ x) (cs:List Value) (w:World) (D:Nat→Prop) (hx:dJ w D x cs) (hl:(jR x).length≤100000000) (hz:(QU (jR x)).size≤100000000):Calls Tryz.prog 19 #[.agg cs.toArray] w fun e w'=>e=.returned (.string (QU (jR x)))∧Step Sf w w':=by
 obtain⟨W,hW⟩:=bn ((w.alloc (.cells cs.toArray 46)).alloc (.cells #[aj] 97));have hs:Step Sf w W:=by rw[hW];exact(bV.alloc _).alloc _
 have hb1:W.heap[w.heap.size]?=some (.cells cs.toArray 46 (0,0)):=by rw[hW];exact aN (aB _ _)
 have hb2:W.heap[w.heap.size+1]?=some (.cells #[aj] 97 (0,0)):=by rw[hW];exact fO _ _ _
 have hz2:=aC hb2;have bY:Hid (∀(j:Nat) u,cs[j]?=some u→W.cell? ⟨w.heap.size,0+j,none⟩=some u):=show∀j,_ from fun j u hu=>by rw[Nat.zero_add];exact ah hb1 j u (by simpa using hu)
 have hcl:(Tryz.prog.info? 46).map (·.size)=some cs.length:=by rw[hx.len];exact Tryz.cu
 have Ub:=ai (hp cs (w.heap.size+1) [] W (fun q=>q=w.heap.size+1) (fun q=>D q∧q<w.heap.size) (gX.new hb2 rfl) (dJ.step hs (fun _ _ h=>h) _ _ (dJ.mono (fun q hq h=>⟨h,hq⟩) _ _ hx)) (fun q hq e=>by have:=hq.2;omega) (by rw[List.nil_append];omega));have HS:=ai hs;have HW:=ai hW;have HZ:=ai hz;obtain⟨k,nm,lf,mu,ls,ar,l,c⟩:=x;rw[dJ]at hx;obtain⟨vl,va,xs,rfl,-,-,-,hrl,-,hra⟩:=hx;obtain⟨al,cl,rfl⟩:=hrl.parts;obtain⟨aa,ca,rfl⟩:=hra.parts;clear hra hrl;clear hs hW hb1 hb2 hz;go_enter Tryz.func19,Tryz.ntmps19;go_upto_region 2 with fail
 rw[←HW.o];go_wp2_with (refine ay rfl 46 (.tmp 1) rfl w.heap.size 0 rfl _ _ bY.o Tryz.underlying46 rfl hcl ?_);refine Calls.mono Ub.o ?_;rintro e X ⟨rfl,h1,v,h2,-,h3,-⟩;rw[List.nil_append]at h3;have c0:=ah h2 0 _ rfl;obtain⟨oa,oc,rfl⟩:=b_ h3.1;have HST:Hid (Step Sf w X):=HS.o.then h1 oi;have HPU:=ai (FM _ _ X _ h3 HZ.o hl);clear h1 h2 h3;go_wp2_with fail;refine Calls.mono HPU.o ?_;rintro e w' ⟨rfl,h4⟩;have H4:=ai h4;clear h4;go_wp2_with fail;go_ret;exact⟨rfl,HST.o.trans H4.o⟩
def zK (t:Tok):Tok:={t with line:=0,col:=0}
def zL (l:List Tok):List Tok:=l.map zK
mutual
def zT:Ty→Ty
 | .mk k n lf m ls ar _ _=>.mk k n lf m ls (Io ar) 0 0
def Io:List Ty→List Ty
 |[]=>[]
 |t::r=>zT t::Io r
end
mutual
def zE:Ex→Ex
 | .mk k n v m ar ns b _ _=>.mk k n v m (tZ ar) ns (zI b) 0 0
def tZ:List Ex→List Ex
 |[]=>[]
 |x::r=>zE x::tZ r
def zS:St→St
 | .mk k n t p e b o h _ _=>.mk k n (zT t) (tZ p) (tZ e) (zI b) (zI o) h 0 0
def zI:List St→List St
 |[]=>[]
 |s::r=>zS s::zI r
end
theorem Nh:∀(l:List Ty) (t:Ty),Io (l++[t])=Io l++[zT t]
 |[],t=>by rw[List.nil_append,Io,Io,Io];rfl
 |x::r,t=>by rw[List.cons_append,Io,Io,Nh r t,List.cons_append]
theorem FP:∀(l:List Ex) (t:Ex),tZ (l++[t])=tZ l++[zE t]
 |[],t=>by rw[List.nil_append,tZ,tZ,tZ];rfl
 |x::r,t=>by rw[List.cons_append,tZ,tZ,FP r t,List.cons_append]
theorem Nj:∀(l:List St) (t:St),zI (l++[t])=zI l++[zS t]
 |[],t=>by rw[List.nil_append,zI,zI,zI];rfl
 |x::r,t=>by rw[List.cons_append,zI,zI,Nj r t,List.cons_append]
theorem QV:∀l:List Ty,(Io l).length=l.length
 |[]=>by rw[Io]
 |x::r=>by rw[Io,List.length_cons,List.length_cons,QV r]
theorem J4:∀l:List Ex,(tZ l).length=l.length
 |[]=>by rw[tZ]
 |x::r=>by rw[tZ,List.length_cons,List.length_cons,J4 r]
def dB.z {α β:Type} (g:α→β):dB α→dB β
 | .ok a j=>.ok (g a) j
 | .err c _ _=>.err c 0 0
 | .out=>.out
theorem sQ (l:List Tok) (i:Nat):tokA (zL l) i=zK (tokA l i):=by unfold tokA zL;rw[List.getD_eq_getElem?_getD,List.getD_eq_getElem?_getD,List.getElem?_map];cases l[i]?<;>rfl
theorem dR (l:List Tok) (i:Nat) (s:List UInt8):bH (zL l) i s=bH l i s:=by unfold bH;rw[sQ];rfl
theorem sS {α β:Type} (g:α→β) (c:Nat) (l:List Tok) (i:Nat):gW c (zL l) i=(gW c l i).z g:=by unfold gW;rw[sQ];rfl
theorem aQ {α β γ δ:Type} {g:α→β} {h:γ→δ} {r:dB γ} {r':dB δ} {f:γ→Nat→dB α} {f':δ→Nat→dB β} (h1:r'=r.z h) (h2:∀a i,f' (h a) i=(f a i).z g):r'.bind f'=(r.bind f).z g:=by
 rw[h1];cases r with
 |ok a i=>exact h2 a i
 |err=>rfl
 |out=>rfl
theorem yQ {α β:Type} {g:α→β} {c:Prop} [Decidable c] {a b:dB α} {a' b':dB β} (h1:a'=a.z g) (h2:b'=b.z g):(if c then a' else b')=(if c then a else b).z g:=by split<;>assumption
theorem dm {α β:Type} {g:α→β} {c c':Bool} {a b:dB α} {a' b':dB β} (hc:c'=c) (h1:a'=a.z g) (h2:b'=b.z g):(if c'=true then a' else b')=(if c=true then a else b).z g:=by subst hc;exact yQ h1 h2
theorem xZ {α β:Type} {g:α→β} {c c':Prop} [Decidable c] [Decidable c'] {a b:dB α} {a' b':dB β} (hc:c'↔c) (h1:a'=a.z g) (h2:b'=b.z g):(if c' then a' else b')=(if c then a else b).z g:=by
 by_cases h:c
 ·rw[if_pos h,if_pos (hc.2 h)];exact h1
 ·rw[if_neg h,if_neg (fun e=>h (hc.1 e))];exact h2
theorem iJ (l:List Tok) (i:Nat) (s:List UInt8):aI (zL l) i s=(aI l i s).z id:=dm (dR l i s) rfl (sS _ _ _ _)
theorem Yg (l:List Tok) (i:Nat):rP (tokA (zL l) i)=rP (tokA l i):=by rw[sQ];rfl
theorem PE (l:List Tok) (i:Nat):(tokA (zL l) i).text=(tokA l i).text:=by rw[sQ];rfl
theorem uz (l:List Tok) (i:Nat):(tokA (zL l) i).kind=(tokA l i).kind:=by rw[sQ];rfl
theorem val_z (l:List Tok) (i:Nat):(tokA (zL l) i).val=(tokA l i).val:=by rw[sQ];rfl
theorem lK (l:List Tok) (i:Nat):bI (zL l) i=(bI l i).z id:=dm (Yg l i) (by rw[PE];rfl) (sS _ _ _ _)
theorem uD (n m:Nat) (l:List Tok) (i:Nat):eH n m (zL l) i=(eH n m l i).z id:=yQ (sS _ _ _ _) rfl
theorem J5 (l:List Tok) (i:Nat):jh (zL l) i=(jh l i).z id:=xZ (by rw[uz]) (by rw[PE];rfl) (sS _ _ _ _)
theorem PG (l:List Tok) (i:Nat):pY (zL l) i=pY l i:=by unfold pY;rw[uz,PE]
theorem PI (l:List Tok) (i:Nat):ny (zL l) i=ny l i:=by unfold ny;rw[uz]
theorem J6 (l:List Tok) (i:Nat) (s:List UInt8):iw (zL l) i s=iw l i s:=by unfold iw;rw[dR]
theorem opF_z (l:List Tok) (i n:Nat):wO (zL l) i n=wO l i n:=by unfold wO;rw[show bH (zL l) i=bH l i from funext fun s=>dR l i s]
theorem v_ (k:Int) (n lf:ByteArray) (m:Bool) (ls:List ByteArray) (l:List Tok) (i:Nat):Ty.mk k n lf m ls [] (tokA (zL l) i).line (tokA (zL l) i).col=zT (.mk k n lf m ls [] (tokA l i).line (tokA l i).col):=by rw[sQ,zT,Io];rfl
theorem Yh (k:Int) (n lf:ByteArray) (m:Bool) (ls:List ByteArray) (a:Ty) (l:List Tok) (i:Nat):Ty.mk k n lf m ls [zT a] (tokA (zL l) i).line (tokA (zL l) i).col=zT (.mk k n lf m ls [a] (tokA l i).line (tokA l i).col):=by rw[sQ,zT,Io,Io];rfl
theorem zT_all (k:Int) (n lf:ByteArray) (m:Bool) (ls:List ByteArray) (a:List Ty) (l:List Tok) (i:Nat):Ty.mk k n lf m ls (Io a) (tokA (zL l) i).line (tokA (zL l) i).col=zT (.mk k n lf m ls a (tokA l i).line (tokA l i).col):=by rw[sQ,zT];rfl
def zP (p:List ByteArray×List Ty):List ByteArray×List Ty:=(p.1,Io p.2)
theorem QW (l:List Tok):∀f,(∀i d,iZ f (zL l) i d=(iZ f l i d).z zT)∧(∀i d ls ts,kz f (zL l) i d ls (Io ts)=(kz f l i d ls ts).z zP):=by
 intro f;induction f with
 |zero=>exact⟨fun i d=>by rw[iZ,iZ];rfl,fun i d ls ts=>by rw[kz,kz];rfl⟩
 |succ f ih=>
  obtain⟨KH,iha⟩:=ih;refine⟨fun i d=> ?_,fun i d ls ts=> ?_⟩
  ·rw[iZ,iZ];refine yQ (sS _ _ _ _) ?_;refine dm (dR _ _ _) (okc (v_ ..)) ?_;refine dm (dR _ _ _) (okc (v_ ..)) ?_;refine dm (dR _ _ _) (okc (v_ ..)) ?_;refine dm (dR _ _ _) (aQ (iJ _ _ _) fun _ j=>okc (v_ ..)) ?_;refine dm (dR _ _ _) (aQ (iJ _ _ _) fun _ j=>aQ (KH _ _) fun a j=>aQ (iJ _ _ _) fun _ j=>okc (Yh ..)) ?_;refine dm (dR _ _ _) ?_ ?_
   ·rw[J6,PI,PG,dR];exact aQ (KH _ _) fun a j=>okc (Yh ..)
   refine dm (dR _ _ _) ?_ ?_
   ·refine aQ (lK _ _) fun n j=>dm (dR _ _ _) (aQ (J5 _ _) fun x j=>okc (v_ ..)) (okc (v_ ..))
   ·refine aQ (lK _ _) fun n j=>dm (dR _ _ _) (aQ (by have h:=iha (j+1) (d+1) [] [];rw[Io]at h;exact h) fun p j=>okc (zT_all ..)) (okc (v_ ..))
  ·rw[kz,kz,QV];refine aQ (uD _ _ _ _) fun _ i=>aQ (h:=zP) ?_ fun p j=> ?_
   ·refine xZ (by rw[uz]) (aQ (J5 _ _) fun x j=>rfl) (aQ (KH _ _) fun x j=> ?_);rw[←Nh];rfl
   ·exact dm (dR _ _ _) (iha _ _ _ _) (aQ (iJ _ _ _) fun _ j=>rfl)
theorem Yi (l:List Tok):∀f i ns,jM f (zL l) i ns=(jM f l i ns).z id
 |0,i,ns=>by rw[jM,jM];rfl
 |f+1,i,ns=>by
  rw[jM,jM]
  exact aQ (uD _ _ _ _) fun _ i=>aQ (lK _ _) fun n j=>dm (dR _ _ _) (Yi l f _ _) (aQ (iJ _ _ _) fun _ j=>rfl)
theorem J7 (k:Int) (n:ByteArray) (v:Int) (m:Bool) (al:List Ex) (ns:List ByteArray) (b:List St) (l:List Tok) (i:Nat):aZ k n v m (tZ al) ns (zI b) (tokA (zL l) i)=zE (aZ k n v m al ns b (tokA l i)):=by rw[sQ,aZ,aZ,zE];rfl
theorem J8 (k:Int) (n:ByteArray) (t:Ty) (p e:List Ex) (b o:List St) (h:Bool) (l:List Tok) (i:Nat):gy k n (zT t) (tZ p) (tZ e) (zI b) (zI o) h (tokA (zL l) i)=zS (gy k n t p e b o h (tokA l i)):=by rw[sQ,gy,gy,zS];rfl
theorem pV:tZ []=[]:=by rw[tZ]
theorem t_ (x:Ex):tZ [x]=[zE x]:=by rw[tZ,tZ]
theorem Nk (x:Ex) (l:List Ex):tZ (x::l)=zE x::tZ l:=by rw[tZ]
theorem pW:zI []=[]:=by rw[zI]
theorem Dc:zT dU=dU:=by rw[dU,zT,Io]
theorem Be (k:Int) (n:ByteArray) (v:Int) (m:Bool) (ns:List ByteArray) (l:List Tok) (i:Nat):aZ k n v m [] ns [] (tokA (zL l) i)=zE (aZ k n v m [] ns [] (tokA l i)):=by have h:=J7 k n v m [] ns [] l i;rwa [pV,pW]at h
theorem Df (k:Int) (n:ByteArray) (v:Int) (m:Bool) (x:Ex) (ns:List ByteArray) (l:List Tok) (i:Nat):aZ k n v m [zE x] ns [] (tokA (zL l) i)=zE (aZ k n v m [x] ns [] (tokA l i)):=by have h:=J7 k n v m [x] ns [] l i;rwa [t_,pW]at h
theorem QY (k:Int) (n:ByteArray) (v:Int) (m:Bool) (al:List Ex) (ns:List ByteArray) (l:List Tok) (i:Nat):aZ k n v m (tZ al) ns [] (tokA (zL l) i)=zE (aZ k n v m al ns [] (tokA l i)):=by have h:=J7 k n v m al ns [] l i;rwa [pW]at h
theorem exB_z (k:Int) (n:ByteArray) (v:Int) (m:Bool) (ns:List ByteArray) (b:List St) (l:List Tok) (i:Nat):aZ k n v m [] ns (zI b) (tokA (zL l) i)=zE (aZ k n v m [] ns b (tokA l i)):=by have h:=J7 k n v m [] ns b l i;rwa [pV]at h
def zM (p:List ByteArray×List Ex):List ByteArray×List Ex:=(p.1,tZ p.2)
def zLt (p:ByteArray×Ty×List Ex):ByteArray×Ty×List Ex:=(p.1,zT p.2.1,tZ p.2.2)
def zSt (p:List Ex×Ex):List Ex×Ex:=(tZ p.1,zE p.2)
structure Zp (l:List Tok) (f:Nat):Prop where
 level:∀i d n,a_ f (zL l) i d n=(a_ f l i d n).z zE
 row:∀i d n x,qN f (zL l) i d n (zE x)=(qN f l i d n x).z zE
 unary:∀i d,gm f (zL l) i d=(gm f l i d).z zE
 post:∀i d,mJ f (zL l) i d=(mJ f l i d).z zE
 dots:∀i d x,jV f (zL l) i d (zE x)=(jV f l i d x).z zE
 list:∀i d,jE f (zL l) i d=(jE f l i d).z tZ
 more:∀i d acc,kY f (zL l) i d (tZ acc)=(kY f l i d acc).z tZ
 one:∀i d,nG f (zL l) i d=(nG f l i d).z zE
 made:∀i d ns al,jF f (zL l) i d ns (tZ al)=(jF f l i d ns al).z zM
 Js:∀i d,kR f (zL l) i d=(kR f l i d).z zE
 block:∀i d,bM f (zL l) i d=(bM f l i d).z zI
 stmts:∀i d acc,jC f (zL l) i d (zI acc)=(jC f l i d acc).z zI
 OM:∀i d,rD f (zL l) i d=(rD f l i d).z zLt
 OO:∀i d,rE f (zL l) i d=(rE f l i d).z zSt
 stmt:∀i d,lq f (zL l) i d=(lq f l i d).z zS
theorem kM {α β:Type} {g:α→β} {a:α} {b:β} {j:Nat} (h:b=g a):(dB.ok b j)=(dB.ok a j:dB α).z g:=by rw[h];rfl
theorem prim_z (l:List Tok) (f:Nat) (h:Zp l f) (i d:Nat):kR (f+1) (zL l) i d=(kR (f+1) l i d).z zE:=by rw[kR,kR];refine xZ (by rw[uz]) (kM (by rw[val_z];exact Be ..)) ?_;refine xZ (by rw[uz]) (kM (by rw[val_z];exact Be ..)) ?_;refine dm (dR _ _ _) (kM (Be ..)) ?_;refine dm (dR _ _ _) (kM (Be ..)) ?_;refine dm (dR _ _ _) (kM (Be ..)) ?_;refine dm (dR _ _ _) (aQ (h.one _ _) fun x j=>kM (Df ..)) ?_;refine dm (dR _ _ _) (aQ (h.one _ _) fun x j=>kM (Df ..)) ?_;refine dm (dR _ _ _) (aQ (lK _ _) fun n j=>aQ (iJ _ _ _) fun _ j=>dm (dR _ _ _) (kM (Be ..)) (aQ (by have h:=h.made j d [] [];rw[tZ]at h;exact h) fun p j=>kM (QY ..))) ?_;refine dm (dR _ _ _) (aQ (lK _ _) fun n j=>aQ (iJ _ _ _) fun _ j=>aQ (h:=id) (dm (dR _ _ _) rfl (Yi l _ _ _)) fun ns j=>aQ (h.block _ _) fun b j=>kM (exB_z ..)) ?_;refine dm (dR _ _ _) (dm (dR _ _ _) (kM (Be ..)) (aQ (h.level _ _ _) fun x j=>aQ (iJ _ _ _) fun _ j=>kM (Df ..))) ?_;refine dm (dR _ _ _) (kM (Be ..)) ?_;exact aQ (lK _ _) fun n j=>dm (dR _ _ _) (aQ (h.list _ _) fun al j=>kM (QY ..)) (kM (Be ..))
theorem stmt_z (l:List Tok) (f:Nat) (h:Zp l f) (i d:Nat):lq (f+1) (zL l) i d=(lq (f+1) l i d).z zS:=by
 have st:∀(k:Int) (e:List Ex) (b:List St),gy k di dU [] (tZ e) (zI b) [] false (tokA (zL l) i)=zS (gy k di dU [] e b [] false (tokA l i)):=fun k e b=>by have h:=J8 k di dU [] e b [] false l i;rwa [Dc,pV,pW]at h
 have st0:∀(k:Int) (e:List Ex),gy k di dU [] (tZ e) [] [] false (tokA (zL l) i)=zS (gy k di dU [] e [] [] false (tokA l i)):=fun k e=>by have h:=st k e [];rwa [pW]at h
 have st1:∀(k:Int) (x:Ex) (b:List St),gy k di dU [] [zE x] (zI b) [] false (tokA (zL l) i)=zS (gy k di dU [] [x] b [] false (tokA l i)):=fun k x b=>by have h:=st k [x] b;rwa [t_]at h
 rw[lq,lq];refine dm (dR _ _ _) (aQ (h.OM _ _) fun p j=>kM ?_) ?_
 ·have h:=J8 1 p.1 p.2.1 [] p.2.2 [] [] false l i;rwa [pV,pW]at h
 refine dm (dR _ _ _) (aQ (h.level _ _ _) fun x j=>aQ (h.block _ _) fun b j=>dm (dR _ _ _) (aQ (h.block _ _) fun c j=>kM ?_) (kM (st1 ..))) ?_
 ·have h:=J8 4 di dU [] [x] b c true l i;rwa [pV,Dc,t_]at h
 refine dm (dR _ _ _) (aQ (h.level _ _ _) fun x j=>aQ (h.block _ _) fun b j=>kM (st1 ..)) ?_;refine dm (dR _ _ _) (aQ (h:=tZ) (dm (dR _ _ _) (kM pV.symm) (aQ (h.level _ _ _) fun x j=>kM (t_ x).symm)) fun e j=>aQ (iJ _ _ _) fun _ j=>kM (st0 ..)) ?_;refine dm (dR _ _ _) (aQ (iJ _ _ _) fun _ j=>kM ?_) ?_
 ·have h:=st0 7 [];rwa [pV]at h
 refine dm (dR _ _ _) (aQ (h.block _ _) fun b j=>kM ?_) ?_
 ·have h:=st 8 [] b;rwa [pV]at h
 refine aQ (h.OO _ _) fun p j=>kM ?_;have h:=J8 (if p.1.length=0 then 3 else 2) di dU p.1 [p.2] [] [] false l i;rw[Dc,t_,pW]at h;show gy (if(tZ p.1).length=0 then 3 else 2) _ _ _ _ _ _ _ _=_;rw[J4];exact h
theorem PK (l:List Tok):∀f,Zp l f:=by
 intro f;induction f with
 |zero=>exact⟨fun i d n=>by rw[a_,a_];rfl,fun i d n x=>by rw[qN,qN];rfl,fun i d=>by rw[gm,gm];rfl,fun i d=>by rw[mJ,mJ];rfl,fun i d x=>by rw[jV,jV];rfl,fun i d=>by rw[jE,jE];rfl,fun i d a=>by rw[kY,kY];rfl,fun i d=>by rw[nG,nG];rfl,fun i d a b=>by rw[jF,jF];rfl,fun i d=>by rw[kR,kR];rfl,fun i d=>by rw[bM,bM];rfl,fun i d a=>by rw[jC,jC];rfl,fun i d=>by rw[rD,rD];rfl,fun i d=>by rw[rE,rE];rfl,fun i d=>by rw[lq,lq];rfl⟩
 |succ f h=>
  refine⟨?_,?_,?_,?_,?_,?_,?_,?_,?_,fun i d=>prim_z l f h i d,?_,?_,?_,?_,fun i d=>stmt_z l f h i d⟩
  ·intro i d n;rw[a_,a_];exact yQ (h.unary _ _) (aQ (h.level _ _ _) fun x j=>h.row _ _ _ _)
  ·intro i d n x;rw[qN,qN,opF_z];cases wO l i n with
   |none=>rfl
   |some s=>(have e:∀y,aZ 14 (mG s) 0 false [zE x,zE y] [] [] (tokA (zL l) i)=zE (aZ 14 (mG s) 0 false [x,y] [] [] (tokA l i)):=fun y=>by have h:=QY 14 (mG s) 0 false [x,y] [] l i;rwa [Nk,t_]at h);refine aQ (h.level _ _ _) fun y j=>yQ (kM (e y)) ?_;rw[e];exact h.row _ _ _ _
  ·intro i d;rw[gm,gm];refine yQ (sS _ _ _ _) ?_;refine dm (dR _ _ _) (aQ (h.unary _ _) fun y j=>kM (Df ..)) ?_;refine dm (dR _ _ _) (aQ (h.unary _ _) fun y j=>kM (Df ..)) ?_;refine dm (dR _ _ _) (aQ (h.unary _ _) fun y j=>kM (Df ..)) ?_;refine dm (dR _ _ _) ?_ (h.post _ _);rw[J6,dR];exact aQ (h.unary _ _) fun y j=>kM (Df ..)
  ·intro i d;rw[mJ,mJ];exact aQ (h.Js _ _) fun x j=>h.dots _ _ _
  ·intro i d x;rw[jV,jV];refine dm (dR _ _ _) (aQ (lK _ _) fun n j=>dm (dR _ _ _) (aQ (h.list _ _) fun al j=> ?_) ?_) rfl
   ·(have e:aZ 13 n 0 false (zE x::tZ al) [] [] (tokA (zL l) i)=zE (aZ 13 n 0 false (x::al) [] [] (tokA l i)):=by have h:=QY 13 n 0 false (x::al) [] l i;rwa [Nk]at h);show jV f (zL l) _ _ (aZ 13 n _ _ _ _ _ _)=_;rw[e];exact h.dots _ _ _
   ·show jV f (zL l) _ _ (aZ 6 n _ _ _ _ _ _)=_;rw[Df];exact h.dots _ _ _
  ·intro i d;rw[jE,jE];exact dm (dR _ _ _) (kM pV.symm) (by have h:=h.more i d [];rw[tZ]at h;exact h)
  ·intro i d acc;rw[kY,kY,J4];refine aQ (uD _ _ _ _) fun _ i=>aQ (h.level _ _ _) fun x j=> ?_;rw[←FP];exact dm (dR _ _ _) (h.more _ _ _) (aQ (iJ _ _ _) fun _ j=>rfl)
  ·intro i d;rw[nG,nG];exact aQ (iJ _ _ _) fun _ j=>aQ (h.level _ _ _) fun x j=>aQ (iJ _ _ _) fun _ j=>rfl
  ·intro i d ns al;rw[jF,jF];refine aQ (uD _ _ _ _) fun _ i=>aQ (lK _ _) fun n j=>aQ (iJ _ _ _) fun _ j=>aQ (h.level _ _ _) fun x j=> ?_;rw[←FP];exact dm (dR _ _ _) (h.made _ _ _ _) (aQ (iJ _ _ _) fun _ j=>rfl)
  ·intro i d;rw[bM,bM];exact yQ (sS _ _ _ _) (aQ (iJ _ _ _) fun _ j=>by have h:=h.stmts j (d+1) [];rw[zI]at h;exact h)
  ·intro i d acc;rw[jC,jC];refine dm (dR _ _ _) rfl (aQ (h.stmt _ _) fun s j=> ?_);rw[←Nj];exact h.stmts _ _ _
  ·intro i d;rw[rD,rD];exact aQ (lK _ _) fun n j=>aQ (dm (dR _ _ _) ((QW l f).1 _ _) (kM Dc.symm)) fun ty j=>aQ (h:=tZ) (dm (dR _ _ _) (aQ (h.level _ _ _) fun x j=>kM (t_ x).symm) (kM pV.symm)) fun e j=>aQ (iJ _ _ _) fun _ j=>rfl
  ·intro i d;rw[rE,rE];exact aQ (h.level _ _ _) fun x j=>aQ (h:=zSt) (dm (dR _ _ _) (aQ (h.level _ _ _) fun y j=>kM (by rw[zSt,t_])) (kM (by rw[zSt,pV]))) fun p j=>aQ (iJ _ _ _) fun _ j=>rfl
def zPm (p:Pm):Pm:=⟨p.name,zT p.ty,0,0⟩
def zBd (b:Bd):Bd:=⟨b.name,b.qX,b.bJ,0,0⟩
def zMt (m:Mt):Mt:=⟨m.name,m.bJ,m.recv,m.life,m.params.map zPm,zT m.ret,m.wh.map zBd,zI m.body,0,0⟩
def zIt (x:It):It:=⟨x.kind,x.name,x.head,x.gen,x.fields.map zPm,zT x.ret,x.wh.map zBd,x.methods.map zMt,zI x.body,0,0⟩
theorem J9 {α β:Type} (g:α→β) (l:List α) (x:α):(l++[x]).map g=l.map g++[g x]:=by rw[List.map_append];rfl
section
variable (l : List Tok)
theorem Yj:∀f i ls ts,kC f (zL l) i ls ts=(kC f l i ls ts).z id
 |0,i,ls,ts=>by rw[kC,kC];rfl
 |f+1,i,ls,ts=>by
  rw[kC,kC]
  refine aQ (uD _ _ _ _) fun _ i=>aQ (h:=id) ?_ fun p j=>dm (dR _ _ _) (Yj f _ _ _) (aQ (iJ _ _ _) fun _ j=>rfl)
  exact xZ (by rw[uz]) (aQ (J5 _ _) fun x j=>rfl) (aQ (lK _ _) fun x j=>rfl)
theorem Yk (f i:Nat):nZ f (zL l) i=(nZ f l i).z id:=dm (dR _ _ _) (Yj l _ _ _ _) rfl
theorem Yl:∀f i d e m acc,mr f (zL l) i d e m (acc.map zPm)=(mr f l i d e m acc).z (List.map zPm)
 |0,i,d,e,m,acc=>by rw[mr,mr];rfl
 |f+1,i,d,e,m,acc=>by
  rw[mr,mr,List.length_map]
  refine aQ (uD _ _ _ _) fun _ i=>aQ (lK _ _) fun n j=>aQ (iJ _ _ _) fun _ j=>aQ ((QW l f).1 _ _) fun ty j=> ?_
  have e:acc.map zPm++[(⟨id n,zT ty,(tokA (zL l) i).line,(tokA (zL l) i).col⟩:Pm)]=(acc++[(⟨n,ty,(tokA l i).line,(tokA l i).col⟩:Pm)]).map zPm:=by rw[J9,sQ];rfl
  rw[e]
  exact dm (dR _ _ _) (Yl f _ _ _ _ _) (aQ (iJ _ _ _) fun _ j=>rfl)
theorem FQ (f i d:Nat) (e:List UInt8) (m:Nat):fD f (zL l) i d e m=(fD f l i d e m).z (List.map zPm):=dm (dR _ _ _) rfl (Yl l f i d e m [])
theorem ret_z (f i d:Nat):kK f (zL l) i d=(kK f l i d).z zT:=dm (dR _ _ _) ((QW l f).1 _ _) (kM Dc.symm)
theorem Nl:∀f i p ts ls,fA f (zL l) i p ts ls=(fA f l i p ts ls).z id
 |0,i,p,ls,ts=>by rw[fA,fA];rfl
 |f+1,i,p,ts,ls=>by
  rw[fA,fA]
  refine aQ (uD _ _ _ _) fun _ i=>aQ (h:=id) ?_ fun q j=>dm (dR _ _ _) (Nl f _ _ _ _) rfl
  exact xZ (by rw[uz]) (aQ (lK _ _) fun x j=>rfl) (aQ (J5 _ _) fun x j=>rfl)
theorem bound_z (f i:Nat):mP f (zL l) i=(mP f l i).z zBd:=by unfold mP;rw[PG,PI];refine aQ (h:=id) (yQ (aQ (lK _ _) fun n j=>rfl) rfl) fun p j=>aQ (iJ _ _ _) fun _ j=>aQ (Nl l _ _ _ _ _) fun q j=>kM ?_;rw[sQ];rfl
theorem Np:∀f i acc,jc f (zL l) i (acc.map zBd)=(jc f l i acc).z (List.map zBd)
 |0,i,acc=>by rw[jc,jc];rfl
 |f+1,i,acc=>by
  rw[jc,jc,List.length_map]
  refine aQ (uD _ _ _ _) fun _ i=>aQ (bound_z l _ _) fun b j=> ?_
  rw[←J9]
  exact dm (dR _ _ _) (Np f _ _) rfl
theorem J_ (f i:Nat):eU f (zL l) i=(eU f l i).z (List.map zBd):=dm (dR _ _ _) (Np l f _ []) rfl
theorem recv_z (i:Nat):iD (zL l) i=iD l i:=by unfold iD;rw[dR,dR,PI,PG,J6]
theorem Ym (f i d:Nat) (body:Bool):jZ f (zL l) i d body=(jZ f l i d body).z zMt:=by
 unfold jZ;refine aQ (iJ _ _ _) fun _ j=>aQ (lK _ _) fun n j=>aQ (Yk l _ _) fun g j=>aQ (h:=id) (yQ (sS _ _ _ _) rfl) fun _ j=>aQ (iJ _ _ _) fun _ j=> ?_;rw[recv_z];refine aQ (iJ _ _ _) fun _ k=>aQ (h:=List.map zPm) (dm (dR _ _ _) (dm (dR _ _ _) (sS _ _ _ _) (FQ l _ _ _ _ _)) (aQ (iJ _ _ _) fun _ k=>rfl)) fun ps k=>
  aQ (ret_z l _ _ _) fun t k=>aQ (J_ l _ _) fun wh k=>aQ (h:=zI) (yQ ((PK l f).block _ _) (aQ (iJ _ _ _) fun _ k=>kM pW.symm)) fun b k=>kM ?_
 rw[sQ];rfl
theorem QZ:∀f i d body acc,jJ f (zL l) i d body (acc.map zMt)=(jJ f l i d body acc).z (List.map zMt)
 |0,i,d,body,acc=>by rw[jJ,jJ];rfl
 |f+1,i,d,body,acc=>by
  rw[jJ,jJ,List.length_map]
  refine dm (dR _ _ _) rfl (aQ (uD _ _ _ _) fun _ i=>aQ (Ym l _ _ _ _) fun m j=> ?_)
  rw[←J9]
  exact QZ f _ _ _ _
theorem Ip (f i d:Nat) (body:Bool):gQ f (zL l) i d body=(gQ f l i d body).z (List.map zMt):=aQ (iJ _ _ _) fun _ j=>QZ l f j d body []
theorem head_z (i:Nat):n_ (zL l) i=(n_ l i).z id:=dm (dR _ _ _) rfl (dm (dR _ _ _) rfl (dm (dR _ _ _) rfl (lK _ _)))
theorem Ko (k:Int) (n h:ByteArray) (g:Gn) (fs:List Pm) (t:Ty) (wh:List Bd) (ms:List Mt) (b:List St) (i:Nat):sD k n h g (fs.map zPm) (zT t) (wh.map zBd) (ms.map zMt) (zI b) (tokA (zL l) i)=zIt (sD k n h g fs t wh ms b (tokA l i)):=by rw[sQ];rfl
theorem item_z (f i d:Nat):qm f (zL l) i d=(qm f l i d).z zIt:=by
 unfold qm;refine dm (dR _ _ _) (aQ (lK _ _) fun n j=>aQ (Yk l _ _) fun g j=>aQ (iJ _ _ _) fun _ j=>aQ (FQ l _ _ _ _ _) fun fs j=>kM ?_) ?_
 ·have h:=Ko l 1 n di g fs dU [] [] [] i;rwa [Dc,pW]at h
 refine dm (dR _ _ _) (aQ (lK _ _) fun n j=>aQ (Ip l _ _ _ _) fun ms j=>kM ?_) ?_
 ·have h:=Ko l 2 n di Dt [] dU [] ms [] i;rwa [Dc,pW]at h
 refine dm (dR _ _ _) (aQ (lK _ _) fun n j=>aQ (iJ _ _ _) fun _ j=>aQ (head_z l _) fun h j=>aQ (J_ l _ _) fun wh j=>aQ (Ip l _ _ _ _) fun ms j=>kM ?_) ?_
 ·have h:=Ko l 3 n h Dt [] dU wh ms [] i;rwa [Dc,pW]at h
 refine dm (dR _ _ _) (aQ (lK _ _) fun n j=>aQ (Yk l _ _) fun g j=>aQ (iJ _ _ _) fun _ j=>aQ (FQ l _ _ _ _ _) fun fs j=>aQ (ret_z l _ _ _) fun t j=>aQ (J_ l _ _) fun wh j=>aQ ((PK l f).block _ _) fun b j=>kM (Ko l 4 n di g fs t wh [] b i)) (sS _ _ _ _)
theorem Q5:∀f i d acc,jl f (zL l) i d (acc.map zIt)=(jl f l i d acc).z (List.map zIt)
 |0,i,d,acc=>by rw[jl,jl];rfl
 |f+1,i,d,acc=>by
  rw[jl,jl,List.length_map]
  refine xZ (by rw[uz]) rfl (aQ (uD _ _ _ _) fun _ i=>aQ (item_z l _ _ _) fun x j=> ?_)
  rw[←J9]
  exact Q5 f _ _ _
theorem end_z {α β:Type} (g:α→β) (r:dB α):wS (r.z g) (zL l)=(wS r l).z g:=by
 cases r with
 |ok a j=>exact xZ (by rw[uz]) rfl (sS _ _ _ _)
 |err=>rfl
 |out=>rfl
end
theorem same_z {a b:List Tok} (h:Same a b):zL a=zL b:=by
 have e:∀l:List Tok,zL l=(l.map fun t=>(t.kind,t.text,t.val)).map fun p=>⟨p.1,p.2.1,0,0,p.2.2⟩:=fun l=>by rw[List.map_map];rfl
 rw[e a,e b,h]
theorem again_z {α β:Type} {g:α→β} {p:List Tok→dB α} {p':List Tok→dB β} (hp:∀l,p' (zL l)=(p l).z g) {a b:List Tok} (h:Same b a) {x:α} {j:Nat} (hx:wS (p a) a=.ok x j):∃y,wS (p b) b=.ok y j∧g y=g x:=by
 have h1:(wS (p b) b).z g=(wS (p a) a).z g:=by rw[←end_z,←end_z,←hp,←hp,same_z h]
 rw[hx]at h1;cases h2:wS (p b) b with
 |ok y k=>rw[h2]at h1;unfold dB.z at h1;injection h1 with e1 e2;exact⟨y,by rw[e2],e1⟩
 |err=>rw[h2]at h1;cases h1
 |out=>rw[h2]at h1;cases h1
end Go.Proofs.YtggjfinekcenpaaGreat
