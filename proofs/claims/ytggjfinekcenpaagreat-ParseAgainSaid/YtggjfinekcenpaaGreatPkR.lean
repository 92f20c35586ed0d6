import Derived.Test.YtggjfinekcenpaaGreatPkQ
set_option maxRecDepth 100000
set_option maxHeartbeats 80000000
namespace Go.Proofs.YtggjfinekcenpaaGreat
open Go.RowKit
open Vt
theorem tyc {X:World} {B:Nat} {ty:List Value} {a b:Value} {r:List Value} (h:∀(j:Nat) u,(a::b::(ty++r))[j]?=some u→X.cell? ⟨B,j,none⟩=some u):∀(j:Nat) u,ty[j]?=some u→X.cell? ⟨B,2+j,none⟩=some u:=by intro j u hj;refine h (2+j) u ?_;rw[show 2+j=j+1+1 by omega,List.getElem?_cons_succ,List.getElem?_cons_succ,List.getElem?_append_left (List.getElem?_eq_some_iff.1 hj).1];exact hj
theorem Pg {nm tn tl:ByteArray} {fF bP:Int} {tm ot:Bool} {fG:List ByteArray} {tar:List Ty} {pl e:List Ex} {bo el:List St} {l c:Int} (hex:e.length=0):zC (.mk 1 nm (.mk 0 tn tl tm fG tar fF bP) pl e bo el ot l c):=by
 intro cs b l0 w C D h hx hD hb;have h0:l0++rC (.mk 1 nm (.mk 0 tn tl tm fG tar fF bP) pl e bo el ot l c)=l0++[⟨#[108,101,116]⟩,nm]++[⟨#[59]⟩]:=by rw[rC,fK];show l0++([⟨#[108,101,116]⟩,nm]++(if(0:Int)=0 then[]else[⟨#[58]⟩]++jR (.mk 0 tn tl tm fG tar fF bP))++(if e.length=0 then[]else[⟨#[61]⟩]++aO (e.map dK))++[⟨#[59]⟩])=_;rw[if_pos rfl,if_pos hex];simp only[List.append_assoc,List.nil_append]
 rw[h0]at hb⊢;clear h0;rw[kF]at hx;obtain⟨ct,vp,ve,vb,vl,xp,xe,xb,xl,rfl,-,hty,hpl,pK,he0,hre,hb2,hrb,hl2,hrl⟩:=hx;have iK:=hty;rw[dJ]at hty;obtain⟨v1,v2,x2,rfl,-,-,-,hr1,-,hr2⟩:=hty;obtain⟨q1,d1,rfl⟩:=hr1.parts;obtain⟨q2,d2,rfl⟩:=hr2.parts;obtain⟨ap,cp,rfl⟩:=pK.parts;obtain⟨ae,ce,rfl⟩:=hre.parts;obtain⟨ab,cb,rfl⟩:=hrb.parts;obtain⟨ax,cx,rfl⟩:=hrl.parts;obtain⟨W,hW,N,HN,HP,HF,HS,HO,HD,bY⟩:=aap [Value.int .i64 1,aG nm,af 0,aG tn,aG tl,bC tm,.slice q1 fG.length d1,.slice q2 tar.length d2,af fF,af bP,.slice ap pl.length cp,.slice ae e.length ce,.slice ab bo.length cb,.slice ax el.length cx,bC ot,af l,af c] 89 h;have Ph:=aan HS hD pK;have Ia:=aaq HS hD hpl;have lJ:=aan HS hD hre;have CZ:=aaq HS hD he0;have mM:=aan HS hD hrb;have KI:=aao HS hD hb2;have Bl:=aan HS hD hrl;have CY:=aao HS hD hl2;have Ad:=aat HS hD iK;have iC:=ai (HD.o D hD);have HW:=ai hW;have HB:=ai hb;clear h iK hpl pK he0 hre hb2 hrb hl2 hrl hr1 hr2 hD hb hW;have hgt:¬(0:Int)<e.length:=by omega
 clear hex;go_enter Tryz.func103,Tryz.ntmps103;go_upto_region 1 with fail
 rw[←HW.o];have c0:=bY.o W (HP.o.2) 0 _ rfl;have c1:=bY.o W (HP.o.2) 1 _ rfl;go_wp2_with fail;refine aaF [⟨#[108,101,116]⟩,nm] HP fun X0 K0=> ?_;clear c0 c1;have c2:=bY.o X0 (K0.o.2) 2 _ rfl;have c11:=bY.o X0 (K0.o.2) 11 _ rfl;go_wp2_with fail;refine aaF [⟨#[59]⟩] K0 fun X1 K1=> ?_;clear c2 c11;go_wp2_with fail;go_end0;exact HF.o _ _ K1.o
theorem Pj {nm tn tl:ByteArray} {fF bP:Int} {tm ot:Bool} {fG:List ByteArray} {tar:List Ty} {pl e:List Ex} {bo el:List St} {l c:Int} (D5:∀y∈e,jS y) (hle:e.length≤100000000) (hex:¬e.length=0):zC (.mk 1 nm (.mk 0 tn tl tm fG tar fF bP) pl e bo el ot l c):=by
 intro cs b l0 w C D h hx hD hb;have h0:l0++rC (.mk 1 nm (.mk 0 tn tl tm fG tar fF bP) pl e bo el ot l c)=l0++[⟨#[108,101,116]⟩,nm]++[⟨#[61]⟩]++aO (e.map dK)++[⟨#[59]⟩]:=by rw[rC,fK];show l0++([⟨#[108,101,116]⟩,nm]++(if(0:Int)=0 then[]else[⟨#[58]⟩]++jR (.mk 0 tn tl tm fG tar fF bP))++(if e.length=0 then[]else[⟨#[61]⟩]++aO (e.map dK))++[⟨#[59]⟩])=_;rw[if_pos rfl,if_neg hex];simp only[List.append_assoc,List.nil_append]
 rw[h0]at hb⊢;clear h0;rw[kF]at hx;obtain⟨ct,vp,ve,vb,vl,xp,xe,xb,xl,rfl,-,hty,hpl,pK,he0,hre,hb2,hrb,hl2,hrl⟩:=hx;have iK:=hty;rw[dJ]at hty;obtain⟨v1,v2,x2,rfl,-,-,-,hr1,-,hr2⟩:=hty;obtain⟨q1,d1,rfl⟩:=hr1.parts;obtain⟨q2,d2,rfl⟩:=hr2.parts;obtain⟨ap,cp,rfl⟩:=pK.parts;obtain⟨ae,ce,rfl⟩:=hre.parts;obtain⟨ab,cb,rfl⟩:=hrb.parts;obtain⟨ax,cx,rfl⟩:=hrl.parts;obtain⟨W,hW,N,HN,HP,HF,HS,HO,HD,bY⟩:=aap [Value.int .i64 1,aG nm,af 0,aG tn,aG tl,bC tm,.slice q1 fG.length d1,.slice q2 tar.length d2,af fF,af bP,.slice ap pl.length cp,.slice ae e.length ce,.slice ab bo.length cb,.slice ax el.length cx,bC ot,af l,af c] 89 h;have Ph:=aan HS hD pK;have Ia:=aaq HS hD hpl;have lJ:=aan HS hD hre;have CZ:=aaq HS hD he0;have mM:=aan HS hD hrb;have KI:=aao HS hD hb2;have Bl:=aan HS hD hrl;have CY:=aao HS hD hl2;have Ad:=aat HS hD iK;have iC:=ai (HD.o D hD);have HW:=ai hW;have HB:=ai hb;clear h iK hpl pK he0 hre hb2 hrb hl2 hrl hr1 hr2 hD hb hW;have hgt:(0:Int)<e.length:=by omega
 clear hex;go_enter Tryz.func103,Tryz.ntmps103;go_upto_region 1 with fail
 rw[←HW.o];have c0:=bY.o W (HP.o.2) 0 _ rfl;have c1:=bY.o W (HP.o.2) 1 _ rfl;go_wp2_with fail;refine aaF [⟨#[108,101,116]⟩,nm] HP fun X0 K0=> ?_;clear c0 c1;have c2:=bY.o X0 (K0.o.2) 2 _ rfl;have c11:=bY.o X0 (K0.o.2) 11 _ rfl;go_wp2_with fail;refine aaF [⟨#[61]⟩] K0 fun X1 K1=> ?_;clear c2 c11;have c11:=bY.o X1 (K1.o.2) 11 _ rfl;go_wp2_with fail;refine aaG K1 (fun hp=>mQ b _ e _ xe X1 N _ hp (lJ.o X1 (K1.o.2)) (CZ.o X1 (K1.o.2)) iC.o D5 hle hqQ) fun X2 K2=> ?_;clear c11;go_wp2_with fail;refine aaF [⟨#[59]⟩] K2 fun X3 K3=> ?_;go_wp2_with fail;go_end0;exact HF.o _ _ K3.o
theorem Pn {nm tn tl:ByteArray} {tk:Int} {fF bP:Int} {tm ot:Bool} {fG:List ByteArray} {tar:List Ty} {pl e:List Ex} {bo el:List St} {l c:Int} (KH:lZ (.mk tk tn tl tm fG tar fF bP)) (htk:¬tk=0) (hex:e.length=0):zC (.mk 1 nm (.mk tk tn tl tm fG tar fF bP) pl e bo el ot l c):=by
 intro cs b l0 w C D h hx hD hb;have h0:l0++rC (.mk 1 nm (.mk tk tn tl tm fG tar fF bP) pl e bo el ot l c)=l0++[⟨#[108,101,116]⟩,nm]++[⟨#[58]⟩]++jR (.mk tk tn tl tm fG tar fF bP)++[⟨#[59]⟩]:=by rw[rC,fK];show l0++([⟨#[108,101,116]⟩,nm]++(if(tk:Int)=0 then[]else[⟨#[58]⟩]++jR (.mk tk tn tl tm fG tar fF bP))++(if e.length=0 then[]else[⟨#[61]⟩]++aO (e.map dK))++[⟨#[59]⟩])=_;rw[if_neg htk,if_pos hex];simp only[List.append_assoc,List.nil_append]
 rw[h0]at hb⊢;clear h0;rw[kF]at hx;obtain⟨ct,vp,ve,vb,vl,xp,xe,xb,xl,rfl,-,hty,hpl,pK,he0,hre,hb2,hrb,hl2,hrl⟩:=hx;have iK:=hty;rw[dJ]at hty;obtain⟨v1,v2,x2,rfl,-,-,-,hr1,-,hr2⟩:=hty;obtain⟨q1,d1,rfl⟩:=hr1.parts;obtain⟨q2,d2,rfl⟩:=hr2.parts;obtain⟨ap,cp,rfl⟩:=pK.parts;obtain⟨ae,ce,rfl⟩:=hre.parts;obtain⟨ab,cb,rfl⟩:=hrb.parts;obtain⟨ax,cx,rfl⟩:=hrl.parts;obtain⟨W,hW,N,HN,HP,HF,HS,HO,HD,bY⟩:=aap [Value.int .i64 1,aG nm,af tk,aG tn,aG tl,bC tm,.slice q1 fG.length d1,.slice q2 tar.length d2,af fF,af bP,.slice ap pl.length cp,.slice ae e.length ce,.slice ab bo.length cb,.slice ax el.length cx,bC ot,af l,af c] 89 h;have Ph:=aan HS hD pK;have Ia:=aaq HS hD hpl;have lJ:=aan HS hD hre;have CZ:=aaq HS hD he0;have mM:=aan HS hD hrb;have KI:=aao HS hD hb2;have Bl:=aan HS hD hrl;have CY:=aao HS hD hl2;have Ad:=aat HS hD iK;have iC:=ai (HD.o D hD);have HW:=ai hW;have HB:=ai hb;clear h iK hpl pK he0 hre hb2 hrb hl2 hrl hr1 hr2 hD hb hW;have hk0:(tk !=0)=true:=by simpa using htk
 clear htk;have hgt:¬(0:Int)<e.length:=by omega
 clear hex;go_enter Tryz.func103,Tryz.ntmps103;go_upto_region 1 with fail
 rw[←HW.o];have c0:=bY.o W (HP.o.2) 0 _ rfl;have c1:=bY.o W (HP.o.2) 1 _ rfl;go_wp2_with fail;refine aaF [⟨#[108,101,116]⟩,nm] HP fun X0 K0=> ?_;clear c0 c1;have c2:=bY.o X0 (K0.o.2) 2 _ rfl;have c11:=bY.o X0 (K0.o.2) 11 _ rfl;go_wp2_with fail;refine aaF [⟨#[58]⟩] K0 fun X1 K1=> ?_;clear c2 c11;have c2:=bY.o X1 (K1.o.2) 2 _ rfl;have c11:=bY.o X1 (K1.o.2) 11 _ rfl;go_upto_region 6 with fail
 go_wp2_with (refine ay rfl 46 (.tmp 21) rfl w.heap.size 2 rfl [Value.int .i64 tk,aG tn,aG tl,bC tm,.slice q1 fG.length d1,.slice q2 tar.length d2,af fF,af bP] _ (tyc (fun j u h=>bY.o X1 (K1.o.2) j u h)) Tryz.underlying46 rfl Tryz.cu ?_);refine aaG K1 (fun hp=>KH _ b _ X1 N _ hp (Ad.o X1 (K1.o.2)) iC.o hqQ) fun X2 K2=> ?_;clear c2 c11;have c11:=bY.o X2 (K2.o.2) 11 _ rfl;go_wp2_with fail;refine aaF [⟨#[59]⟩] K2 fun X3 K3=> ?_;clear c11;go_wp2_with fail;go_end0;exact HF.o _ _ K3.o
theorem Po {nm tn tl:ByteArray} {tk:Int} {fF bP:Int} {tm ot:Bool} {fG:List ByteArray} {tar:List Ty} {pl e:List Ex} {bo el:List St} {l c:Int} (KH:lZ (.mk tk tn tl tm fG tar fF bP)) (htk:¬tk=0) (D5:∀y∈e,jS y) (hle:e.length≤100000000) (hex:¬e.length=0):zC (.mk 1 nm (.mk tk tn tl tm fG tar fF bP) pl e bo el ot l c):=by
 intro cs b l0 w C D h hx hD hb;have h0:l0++rC (.mk 1 nm (.mk tk tn tl tm fG tar fF bP) pl e bo el ot l c)=l0++[⟨#[108,101,116]⟩,nm]++[⟨#[58]⟩]++jR (.mk tk tn tl tm fG tar fF bP)++[⟨#[61]⟩]++aO (e.map dK)++[⟨#[59]⟩]:=by rw[rC,fK];show l0++([⟨#[108,101,116]⟩,nm]++(if(tk:Int)=0 then[]else[⟨#[58]⟩]++jR (.mk tk tn tl tm fG tar fF bP))++(if e.length=0 then[]else[⟨#[61]⟩]++aO (e.map dK))++[⟨#[59]⟩])=_;rw[if_neg htk,if_neg hex];simp only[List.append_assoc]
 rw[h0]at hb⊢;clear h0;rw[kF]at hx;obtain⟨ct,vp,ve,vb,vl,xp,xe,xb,xl,rfl,-,hty,hpl,pK,he0,hre,hb2,hrb,hl2,hrl⟩:=hx;have iK:=hty;rw[dJ]at hty;obtain⟨v1,v2,x2,rfl,-,-,-,hr1,-,hr2⟩:=hty;obtain⟨q1,d1,rfl⟩:=hr1.parts;obtain⟨q2,d2,rfl⟩:=hr2.parts;obtain⟨ap,cp,rfl⟩:=pK.parts;obtain⟨ae,ce,rfl⟩:=hre.parts;obtain⟨ab,cb,rfl⟩:=hrb.parts;obtain⟨ax,cx,rfl⟩:=hrl.parts;obtain⟨W,hW,N,HN,HP,HF,HS,HO,HD,bY⟩:=aap [Value.int .i64 1,aG nm,af tk,aG tn,aG tl,bC tm,.slice q1 fG.length d1,.slice q2 tar.length d2,af fF,af bP,.slice ap pl.length cp,.slice ae e.length ce,.slice ab bo.length cb,.slice ax el.length cx,bC ot,af l,af c] 89 h;have Ph:=aan HS hD pK;have Ia:=aaq HS hD hpl;have lJ:=aan HS hD hre;have CZ:=aaq HS hD he0;have mM:=aan HS hD hrb;have KI:=aao HS hD hb2;have Bl:=aan HS hD hrl;have CY:=aao HS hD hl2;have Ad:=aat HS hD iK;have iC:=ai (HD.o D hD);have HW:=ai hW;have HB:=ai hb;clear h iK hpl pK he0 hre hb2 hrb hl2 hrl hr1 hr2 hD hb hW;have hk0:(tk !=0)=true:=by simpa using htk
 clear htk;have hgt:(0:Int)<e.length:=by omega
 clear hex;go_enter Tryz.func103,Tryz.ntmps103;go_upto_region 1 with fail
 rw[←HW.o];have c0:=bY.o W (HP.o.2) 0 _ rfl;have c1:=bY.o W (HP.o.2) 1 _ rfl;go_wp2_with fail;refine aaF [⟨#[108,101,116]⟩,nm] HP fun X0 K0=> ?_;clear c0 c1;have c2:=bY.o X0 (K0.o.2) 2 _ rfl;have c11:=bY.o X0 (K0.o.2) 11 _ rfl;go_wp2_with fail;refine aaF [⟨#[58]⟩] K0 fun X1 K1=> ?_;clear c2 c11;have c2:=bY.o X1 (K1.o.2) 2 _ rfl;have c11:=bY.o X1 (K1.o.2) 11 _ rfl;go_upto_region 6 with fail
 go_wp2_with (refine ay rfl 46 (.tmp 21) rfl w.heap.size 2 rfl [Value.int .i64 tk,aG tn,aG tl,bC tm,.slice q1 fG.length d1,.slice q2 tar.length d2,af fF,af bP] _ (tyc (fun j u h=>bY.o X1 (K1.o.2) j u h)) Tryz.underlying46 rfl Tryz.cu ?_);refine aaG K1 (fun hp=>KH _ b _ X1 N _ hp (Ad.o X1 (K1.o.2)) iC.o hqQ) fun X2 K2=> ?_;clear c2 c11;have c11:=bY.o X2 (K2.o.2) 11 _ rfl;go_wp2_with fail;refine aaF [⟨#[61]⟩] K2 fun X3 K3=> ?_;clear c11;have c11:=bY.o X3 (K3.o.2) 11 _ rfl;go_wp2_with fail;refine aaG K3 (fun hp=>mQ b _ e _ xe X3 N _ hp (lJ.o X3 (K3.o.2)) (CZ.o X3 (K3.o.2)) iC.o D5 hle hqQ) fun X4 K4=> ?_;clear c11;go_wp2_with fail;refine aaF [⟨#[59]⟩] K4 fun X5 K5=> ?_;go_wp2_with fail;go_end0;exact HF.o _ _ K5.o
theorem XU {nm tn tl:ByteArray} {tk:Int} {fF bP:Int} {tm ot:Bool} {fG:List ByteArray} {tar:List Ty} {pl e:List Ex} {bo el:List St} {l c:Int} (ihp:∀y∈pl,jS y) (hlp:pl.length≤100000000) (D5:∀y∈e,jS y) (hle:e.length≤100000000):zC (.mk 2 nm (.mk tk tn tl tm fG tar fF bP) pl e bo el ot l c):=by
 intro cs b l0 w C D h hx hD hb;have h0:l0++rC (.mk 2 nm (.mk tk tn tl tm fG tar fF bP) pl e bo el ot l c)=l0++aO (pl.map dK)++[⟨#[61]⟩]++aO (e.map dK)++[⟨#[59]⟩]:=by rw[rC,fK,fK];show l0++(aO (pl.map dK)++[⟨#[61]⟩]++aO (e.map dK)++[⟨#[59]⟩])=_;simp only[List.append_assoc]
 rw[h0]at hb⊢;clear h0;rw[kF]at hx;obtain⟨ct,vp,ve,vb,vl,xp,xe,xb,xl,rfl,-,hty,hpl,pK,he0,hre,hb2,hrb,hl2,hrl⟩:=hx;have iK:=hty;rw[dJ]at hty;obtain⟨v1,v2,x2,rfl,-,-,-,hr1,-,hr2⟩:=hty;obtain⟨q1,d1,rfl⟩:=hr1.parts;obtain⟨q2,d2,rfl⟩:=hr2.parts;obtain⟨ap,cp,rfl⟩:=pK.parts;obtain⟨ae,ce,rfl⟩:=hre.parts;obtain⟨ab,cb,rfl⟩:=hrb.parts;obtain⟨ax,cx,rfl⟩:=hrl.parts;obtain⟨W,hW,N,HN,HP,HF,HS,HO,HD,bY⟩:=aap [Value.int .i64 2,aG nm,af tk,aG tn,aG tl,bC tm,.slice q1 fG.length d1,.slice q2 tar.length d2,af fF,af bP,.slice ap pl.length cp,.slice ae e.length ce,.slice ab bo.length cb,.slice ax el.length cx,bC ot,af l,af c] 89 h;have Ph:=aan HS hD pK;have Ia:=aaq HS hD hpl;have lJ:=aan HS hD hre;have CZ:=aaq HS hD he0;have mM:=aan HS hD hrb;have KI:=aao HS hD hb2;have Bl:=aan HS hD hrl;have CY:=aao HS hD hl2;have Ad:=aat HS hD iK;have iC:=ai (HD.o D hD);have HW:=ai hW;have HB:=ai hb;clear h iK hpl pK he0 hre hb2 hrb hl2 hrl hr1 hr2 hD hb hW;go_enter Tryz.func103,Tryz.ntmps103;go_upto_region 1 with fail
 rw[←HW.o];have c0:=bY.o W (HP.o.2) 0 _ rfl;have c10:=bY.o W (HP.o.2) 10 _ rfl;go_wp2_with fail;refine aaG HP (fun hp=>mQ b _ pl _ xp W N _ hp (Ph.o W (HP.o.2)) (Ia.o W (HP.o.2)) iC.o ihp hlp hqQ) fun X0 K0=> ?_;clear c0 c10;go_wp2_with fail;refine aaF [⟨#[61]⟩] K0 fun X1 K1=> ?_;have c11:=bY.o X1 (K1.o.2) 11 _ rfl;go_wp2_with fail;refine aaG K1 (fun hp=>mQ b _ e _ xe X1 N _ hp (lJ.o X1 (K1.o.2)) (CZ.o X1 (K1.o.2)) iC.o D5 hle hqQ) fun X2 K2=> ?_;clear c11;go_wp2_with fail;refine aaF [⟨#[59]⟩] K2 fun X3 K3=> ?_;go_wp2_with fail;go_end0;exact HF.o _ _ K3.o
theorem XV {nm tn tl:ByteArray} {tk:Int} {fF bP:Int} {tm ot:Bool} {fG:List ByteArray} {tar:List Ty} {pl e:List Ex} {bo el:List St} {l c:Int} (D5:∀y∈e,jS y) (hle:e.length≤100000000):zC (.mk 3 nm (.mk tk tn tl tm fG tar fF bP) pl e bo el ot l c):=by
 intro cs b l0 w C D h hx hD hb;have h0:l0++rC (.mk 3 nm (.mk tk tn tl tm fG tar fF bP) pl e bo el ot l c)=l0++aO (e.map dK)++[⟨#[59]⟩]:=by rw[rC,fK];show l0++(aO (e.map dK)++[⟨#[59]⟩])=_;rw[List.append_assoc]
 rw[h0]at hb⊢;clear h0;rw[kF]at hx;obtain⟨ct,vp,ve,vb,vl,xp,xe,xb,xl,rfl,-,hty,hpl,pK,he0,hre,hb2,hrb,hl2,hrl⟩:=hx;have iK:=hty;rw[dJ]at hty;obtain⟨v1,v2,x2,rfl,-,-,-,hr1,-,hr2⟩:=hty;obtain⟨q1,d1,rfl⟩:=hr1.parts;obtain⟨q2,d2,rfl⟩:=hr2.parts;obtain⟨ap,cp,rfl⟩:=pK.parts;obtain⟨ae,ce,rfl⟩:=hre.parts;obtain⟨ab,cb,rfl⟩:=hrb.parts;obtain⟨ax,cx,rfl⟩:=hrl.parts;obtain⟨W,hW,N,HN,HP,HF,HS,HO,HD,bY⟩:=aap [Value.int .i64 3,aG nm,af tk,aG tn,aG tl,bC tm,.slice q1 fG.length d1,.slice q2 tar.length d2,af fF,af bP,.slice ap pl.length cp,.slice ae e.length ce,.slice ab bo.length cb,.slice ax el.length cx,bC ot,af l,af c] 89 h;have Ph:=aan HS hD pK;have Ia:=aaq HS hD hpl;have lJ:=aan HS hD hre;have CZ:=aaq HS hD he0;have mM:=aan HS hD hrb;have KI:=aao HS hD hb2;have Bl:=aan HS hD hrl;have CY:=aao HS hD hl2;have Ad:=aat HS hD iK;have iC:=ai (HD.o D hD);have HW:=ai hW;have HB:=ai hb;clear h iK hpl pK he0 hre hb2 hrb hl2 hrl hr1 hr2 hD hb hW;go_enter Tryz.func103,Tryz.ntmps103;go_upto_region 1 with fail
 rw[←HW.o];have c0:=bY.o W (HP.o.2) 0 _ rfl;have c11:=bY.o W (HP.o.2) 11 _ rfl;go_wp2_with fail;refine aaG HP (fun hp=>mQ b _ e _ xe W N _ hp (lJ.o W (HP.o.2)) (CZ.o W (HP.o.2)) iC.o D5 hle hqQ) fun X0 K0=> ?_;clear c0 c11;go_wp2_with fail;refine aaF [⟨#[59]⟩] K0 fun X1 K1=> ?_;go_wp2_with fail;go_end0;exact HF.o _ _ K1.o
theorem Ui {nm tn tl:ByteArray} {tk:Int} {fF bP:Int} {tm:Bool} {fG:List ByteArray} {tar:List Ty} {pl e:List Ex} {bo el:List St} {l c:Int} (D5:∀y∈e,jS y) (hle:e.length≤100000000) (ihb:zB bo) (ihl:zB el):zC (.mk 4 nm (.mk tk tn tl tm fG tar fF bP) pl e bo el true l c):=by
 intro cs b l0 w C D h hx hD hb;have h0:l0++rC (.mk 4 nm (.mk tk tn tl tm fG tar fF bP) pl e bo el true l c)=l0++[⟨#[105,102]⟩]++aO (e.map dK)++vk bo++[⟨#[101,108,115,101]⟩]++vk el:=by rw[rC,fK];show l0++([⟨#[105,102]⟩]++aO (e.map dK)++vk bo++([⟨#[101,108,115,101]⟩]++vk el))=_;simp only[List.append_assoc]
 rw[h0]at hb⊢;clear h0;rw[kF]at hx;obtain⟨ct,vp,ve,vb,vl,xp,xe,xb,xl,rfl,-,hty,hpl,pK,he0,hre,hb2,hrb,hl2,hrl⟩:=hx;have iK:=hty;rw[dJ]at hty;obtain⟨v1,v2,x2,rfl,-,-,-,hr1,-,hr2⟩:=hty;obtain⟨q1,d1,rfl⟩:=hr1.parts;obtain⟨q2,d2,rfl⟩:=hr2.parts;obtain⟨ap,cp,rfl⟩:=pK.parts;obtain⟨ae,ce,rfl⟩:=hre.parts;obtain⟨ab,cb,rfl⟩:=hrb.parts;obtain⟨ax,cx,rfl⟩:=hrl.parts;obtain⟨W,hW,N,HN,HP,HF,HS,HO,HD,bY⟩:=aap [Value.int .i64 4,aG nm,af tk,aG tn,aG tl,bC tm,.slice q1 fG.length d1,.slice q2 tar.length d2,af fF,af bP,.slice ap pl.length cp,.slice ae e.length ce,.slice ab bo.length cb,.slice ax el.length cx,bC true,af l,af c] 89 h;have Ph:=aan HS hD pK;have Ia:=aaq HS hD hpl;have lJ:=aan HS hD hre;have CZ:=aaq HS hD he0;have mM:=aan HS hD hrb;have KI:=aao HS hD hb2;have Bl:=aan HS hD hrl;have CY:=aao HS hD hl2;have Ad:=aat HS hD iK;have iC:=ai (HD.o D hD);have HW:=ai hW;have HB:=ai hb;clear h iK hpl pK he0 hre hb2 hrb hl2 hrl hr1 hr2 hD hb hW;go_enter Tryz.func103,Tryz.ntmps103;go_upto_region 1 with fail
 rw[←HW.o];have c0:=bY.o W (HP.o.2) 0 _ rfl;go_wp2_with fail;refine aaF [⟨#[105,102]⟩] HP fun X0 K0=> ?_;clear c0;have c11:=bY.o X0 (K0.o.2) 11 _ rfl;go_wp2_with fail;refine aaG K0 (fun hp=>mQ b _ e _ xe X0 N _ hp (lJ.o X0 (K0.o.2)) (CZ.o X0 (K0.o.2)) iC.o D5 hle hqQ) fun X1 K1=> ?_;clear c11;have c12:=bY.o X1 (K1.o.2) 12 _ rfl;go_wp2_with fail;refine aaG K1 (fun hp=>ihb _ xb b _ X1 N _ hp (mM.o X1 (K1.o.2)) (KI.o X1 (K1.o.2)) iC.o hqQ) fun X2 K2=> ?_;clear c12;have c14:=bY.o X2 (K2.o.2) 14 _ rfl;go_wp2_with fail;refine aaF [⟨#[101,108,115,101]⟩] K2 fun X3 K3=> ?_;clear c14;have c13:=bY.o X3 (K3.o.2) 13 _ rfl;go_wp2_with fail;refine aaG K3 (fun hp=>ihl _ xl b _ X3 N _ hp (Bl.o X3 (K3.o.2)) (CY.o X3 (K3.o.2)) iC.o hqQ) fun X4 K4=> ?_;clear c13;go_wp2_with fail;go_end0;exact HF.o _ _ K4.o
theorem Uj {nm tn tl:ByteArray} {tk:Int} {fF bP:Int} {tm:Bool} {fG:List ByteArray} {tar:List Ty} {pl e:List Ex} {bo el:List St} {l c:Int} (D5:∀y∈e,jS y) (hle:e.length≤100000000) (ihb:zB bo):zC (.mk 4 nm (.mk tk tn tl tm fG tar fF bP) pl e bo el false l c):=by
 intro cs b l0 w C D h hx hD hb;have h0:l0++rC (.mk 4 nm (.mk tk tn tl tm fG tar fF bP) pl e bo el false l c)=l0++[⟨#[105,102]⟩]++aO (e.map dK)++vk bo:=by rw[rC,fK];show l0++([⟨#[105,102]⟩]++aO (e.map dK)++vk bo++[])=_;simp only[List.append_assoc,List.append_nil]
 rw[h0]at hb⊢;clear h0;rw[kF]at hx;obtain⟨ct,vp,ve,vb,vl,xp,xe,xb,xl,rfl,-,hty,hpl,pK,he0,hre,hb2,hrb,hl2,hrl⟩:=hx;have iK:=hty;rw[dJ]at hty;obtain⟨v1,v2,x2,rfl,-,-,-,hr1,-,hr2⟩:=hty;obtain⟨q1,d1,rfl⟩:=hr1.parts;obtain⟨q2,d2,rfl⟩:=hr2.parts;obtain⟨ap,cp,rfl⟩:=pK.parts;obtain⟨ae,ce,rfl⟩:=hre.parts;obtain⟨ab,cb,rfl⟩:=hrb.parts;obtain⟨ax,cx,rfl⟩:=hrl.parts;obtain⟨W,hW,N,HN,HP,HF,HS,HO,HD,bY⟩:=aap [Value.int .i64 4,aG nm,af tk,aG tn,aG tl,bC tm,.slice q1 fG.length d1,.slice q2 tar.length d2,af fF,af bP,.slice ap pl.length cp,.slice ae e.length ce,.slice ab bo.length cb,.slice ax el.length cx,aT,af l,af c] 89 h;have Ph:=aan HS hD pK;have Ia:=aaq HS hD hpl;have lJ:=aan HS hD hre;have CZ:=aaq HS hD he0;have mM:=aan HS hD hrb;have KI:=aao HS hD hb2;have Bl:=aan HS hD hrl;have CY:=aao HS hD hl2;have Ad:=aat HS hD iK;have iC:=ai (HD.o D hD);have HW:=ai hW;have HB:=ai hb;clear h iK hpl pK he0 hre hb2 hrb hl2 hrl hr1 hr2 hD hb hW;go_enter Tryz.func103,Tryz.ntmps103;go_upto_region 1 with fail
 rw[←HW.o];have c0:=bY.o W (HP.o.2) 0 _ rfl;go_wp2_with fail;refine aaF [⟨#[105,102]⟩] HP fun X0 K0=> ?_;clear c0;have c11:=bY.o X0 (K0.o.2) 11 _ rfl;go_wp2_with fail;refine aaG K0 (fun hp=>mQ b _ e _ xe X0 N _ hp (lJ.o X0 (K0.o.2)) (CZ.o X0 (K0.o.2)) iC.o D5 hle hqQ) fun X1 K1=> ?_;clear c11;have c12:=bY.o X1 (K1.o.2) 12 _ rfl;go_wp2_with fail;refine aaG K1 (fun hp=>ihb _ xb b _ X1 N _ hp (mM.o X1 (K1.o.2)) (KI.o X1 (K1.o.2)) iC.o hqQ) fun X2 K2=> ?_;clear c12;have c14:=bY.o X2 (K2.o.2) 14 _ rfl;go_wp2_with fail;go_end0;exact HF.o _ _ K2.o
theorem XW {nm tn tl:ByteArray} {tk:Int} {fF bP:Int} {tm ot:Bool} {fG:List ByteArray} {tar:List Ty} {pl e:List Ex} {bo el:List St} {l c:Int} (D5:∀y∈e,jS y) (hle:e.length≤100000000) (ihb:zB bo):zC (.mk 5 nm (.mk tk tn tl tm fG tar fF bP) pl e bo el ot l c):=by
 intro cs b l0 w C D h hx hD hb;have h0:l0++rC (.mk 5 nm (.mk tk tn tl tm fG tar fF bP) pl e bo el ot l c)=l0++[⟨#[119,104,105,108,101]⟩]++aO (e.map dK)++vk bo:=by rw[rC,fK];show l0++([⟨#[119,104,105,108,101]⟩]++aO (e.map dK)++vk bo)=_;simp only[List.append_assoc]
 rw[h0]at hb⊢;clear h0;rw[kF]at hx;obtain⟨ct,vp,ve,vb,vl,xp,xe,xb,xl,rfl,-,hty,hpl,pK,he0,hre,hb2,hrb,hl2,hrl⟩:=hx;have iK:=hty;rw[dJ]at hty;obtain⟨v1,v2,x2,rfl,-,-,-,hr1,-,hr2⟩:=hty;obtain⟨q1,d1,rfl⟩:=hr1.parts;obtain⟨q2,d2,rfl⟩:=hr2.parts;obtain⟨ap,cp,rfl⟩:=pK.parts;obtain⟨ae,ce,rfl⟩:=hre.parts;obtain⟨ab,cb,rfl⟩:=hrb.parts;obtain⟨ax,cx,rfl⟩:=hrl.parts;obtain⟨W,hW,N,HN,HP,HF,HS,HO,HD,bY⟩:=aap [Value.int .i64 5,aG nm,af tk,aG tn,aG tl,bC tm,.slice q1 fG.length d1,.slice q2 tar.length d2,af fF,af bP,.slice ap pl.length cp,.slice ae e.length ce,.slice ab bo.length cb,.slice ax el.length cx,bC ot,af l,af c] 89 h;have Ph:=aan HS hD pK;have Ia:=aaq HS hD hpl;have lJ:=aan HS hD hre;have CZ:=aaq HS hD he0;have mM:=aan HS hD hrb;have KI:=aao HS hD hb2;have Bl:=aan HS hD hrl;have CY:=aao HS hD hl2;have Ad:=aat HS hD iK;have iC:=ai (HD.o D hD);have HW:=ai hW;have HB:=ai hb;clear h iK hpl pK he0 hre hb2 hrb hl2 hrl hr1 hr2 hD hb hW;go_enter Tryz.func103,Tryz.ntmps103;go_upto_region 1 with fail
 rw[←HW.o];have c0:=bY.o W (HP.o.2) 0 _ rfl;go_wp2_with fail;refine aaF [⟨#[119,104,105,108,101]⟩] HP fun X0 K0=> ?_;clear c0;have c11:=bY.o X0 (K0.o.2) 11 _ rfl;go_wp2_with fail;refine aaG K0 (fun hp=>mQ b _ e _ xe X0 N _ hp (lJ.o X0 (K0.o.2)) (CZ.o X0 (K0.o.2)) iC.o D5 hle hqQ) fun X1 K1=> ?_;clear c11;have c12:=bY.o X1 (K1.o.2) 12 _ rfl;go_wp2_with fail;refine aaG K1 (fun hp=>ihb _ xb b _ X1 N _ hp (mM.o X1 (K1.o.2)) (KI.o X1 (K1.o.2)) iC.o hqQ) fun X2 K2=> ?_;clear c12;go_wp2_with fail;go_end0;exact HF.o _ _ K2.o
theorem XY {nm tn tl:ByteArray} {tk:Int} {fF bP:Int} {tm ot:Bool} {fG:List ByteArray} {tar:List Ty} {pl e:List Ex} {bo el:List St} {l c:Int} (D5:∀y∈e,jS y) (hle:e.length≤100000000):zC (.mk 6 nm (.mk tk tn tl tm fG tar fF bP) pl e bo el ot l c):=by
 intro cs b l0 w C D h hx hD hb;have h0:l0++rC (.mk 6 nm (.mk tk tn tl tm fG tar fF bP) pl e bo el ot l c)=l0++[⟨#[114,101,116,117,114,110]⟩]++aO (e.map dK)++[⟨#[59]⟩]:=by rw[rC,fK];show l0++([⟨#[114,101,116,117,114,110]⟩]++aO (e.map dK)++[⟨#[59]⟩])=_;simp only[List.append_assoc]
 rw[h0]at hb⊢;clear h0;rw[kF]at hx;obtain⟨ct,vp,ve,vb,vl,xp,xe,xb,xl,rfl,-,hty,hpl,pK,he0,hre,hb2,hrb,hl2,hrl⟩:=hx;have iK:=hty;rw[dJ]at hty;obtain⟨v1,v2,x2,rfl,-,-,-,hr1,-,hr2⟩:=hty;obtain⟨q1,d1,rfl⟩:=hr1.parts;obtain⟨q2,d2,rfl⟩:=hr2.parts;obtain⟨ap,cp,rfl⟩:=pK.parts;obtain⟨ae,ce,rfl⟩:=hre.parts;obtain⟨ab,cb,rfl⟩:=hrb.parts;obtain⟨ax,cx,rfl⟩:=hrl.parts;obtain⟨W,hW,N,HN,HP,HF,HS,HO,HD,bY⟩:=aap [Value.int .i64 6,aG nm,af tk,aG tn,aG tl,bC tm,.slice q1 fG.length d1,.slice q2 tar.length d2,af fF,af bP,.slice ap pl.length cp,.slice ae e.length ce,.slice ab bo.length cb,.slice ax el.length cx,bC ot,af l,af c] 89 h;have Ph:=aan HS hD pK;have Ia:=aaq HS hD hpl;have lJ:=aan HS hD hre;have CZ:=aaq HS hD he0;have mM:=aan HS hD hrb;have KI:=aao HS hD hb2;have Bl:=aan HS hD hrl;have CY:=aao HS hD hl2;have Ad:=aat HS hD iK;have iC:=ai (HD.o D hD);have HW:=ai hW;have HB:=ai hb;clear h iK hpl pK he0 hre hb2 hrb hl2 hrl hr1 hr2 hD hb hW;go_enter Tryz.func103,Tryz.ntmps103;go_upto_region 1 with fail
 rw[←HW.o];have c0:=bY.o W (HP.o.2) 0 _ rfl;go_wp2_with fail;refine aaF [⟨#[114,101,116,117,114,110]⟩] HP fun X0 K0=> ?_;clear c0;have c11:=bY.o X0 (K0.o.2) 11 _ rfl;go_wp2_with fail;refine aaG K0 (fun hp=>mQ b _ e _ xe X0 N _ hp (lJ.o X0 (K0.o.2)) (CZ.o X0 (K0.o.2)) iC.o D5 hle hqQ) fun X1 K1=> ?_;clear c11;go_wp2_with fail;refine aaF [⟨#[59]⟩] K1 fun X2 K2=> ?_;go_wp2_with fail;go_end0;exact HF.o _ _ K2.o
theorem XZ {nm tn tl:ByteArray} {tk:Int} {fF bP:Int} {tm ot:Bool} {fG:List ByteArray} {tar:List Ty} {pl e:List Ex} {bo el:List St} {l c:Int}:zC (.mk 7 nm (.mk tk tn tl tm fG tar fF bP) pl e bo el ot l c):=by
 intro cs b l0 w C D h hx hD hb;have h0:l0++rC (.mk 7 nm (.mk tk tn tl tm fG tar fF bP) pl e bo el ot l c)=l0++[⟨#[97,98,111,114,116]⟩,⟨#[59]⟩]:=by rw[rC];rfl
 rw[h0]at hb⊢;clear h0;rw[kF]at hx;obtain⟨ct,vp,ve,vb,vl,xp,xe,xb,xl,rfl,-,hty,hpl,pK,he0,hre,hb2,hrb,hl2,hrl⟩:=hx;have iK:=hty;rw[dJ]at hty;obtain⟨v1,v2,x2,rfl,-,-,-,hr1,-,hr2⟩:=hty;obtain⟨q1,d1,rfl⟩:=hr1.parts;obtain⟨q2,d2,rfl⟩:=hr2.parts;obtain⟨ap,cp,rfl⟩:=pK.parts;obtain⟨ae,ce,rfl⟩:=hre.parts;obtain⟨ab,cb,rfl⟩:=hrb.parts;obtain⟨ax,cx,rfl⟩:=hrl.parts;obtain⟨W,hW,N,HN,HP,HF,HS,HO,HD,bY⟩:=aap [Value.int .i64 7,aG nm,af tk,aG tn,aG tl,bC tm,.slice q1 fG.length d1,.slice q2 tar.length d2,af fF,af bP,.slice ap pl.length cp,.slice ae e.length ce,.slice ab bo.length cb,.slice ax el.length cx,bC ot,af l,af c] 89 h;have Ph:=aan HS hD pK;have Ia:=aaq HS hD hpl;have lJ:=aan HS hD hre;have CZ:=aaq HS hD he0;have mM:=aan HS hD hrb;have KI:=aao HS hD hb2;have Bl:=aan HS hD hrl;have CY:=aao HS hD hl2;have Ad:=aat HS hD iK;have iC:=ai (HD.o D hD);have HW:=ai hW;have HB:=ai hb;clear h iK hpl pK he0 hre hb2 hrb hl2 hrl hr1 hr2 hD hb hW;go_enter Tryz.func103,Tryz.ntmps103;go_upto_region 1 with fail
 rw[←HW.o];have c0:=bY.o W (HP.o.2) 0 _ rfl;go_wp2_with fail;refine aaF [⟨#[97,98,111,114,116]⟩,⟨#[59]⟩] HP fun X0 K0=> ?_;clear c0;go_wp2_with fail;go_end0;exact HF.o _ _ K0.o
theorem X8 {nm tn tl:ByteArray} {tk:Int} {fF bP:Int} {tm ot:Bool} {fG:List ByteArray} {tar:List Ty} {pl e:List Ex} {bo el:List St} {l c:Int} (ihb:zB bo):zC (.mk 8 nm (.mk tk tn tl tm fG tar fF bP) pl e bo el ot l c):=by
 intro cs b l0 w C D h hx hD hb;have h0:l0++rC (.mk 8 nm (.mk tk tn tl tm fG tar fF bP) pl e bo el ot l c)=l0++vk bo:=by rw[rC];rfl
 rw[h0]at hb⊢;clear h0;rw[kF]at hx;obtain⟨ct,vp,ve,vb,vl,xp,xe,xb,xl,rfl,-,hty,hpl,pK,he0,hre,hb2,hrb,hl2,hrl⟩:=hx;have iK:=hty;rw[dJ]at hty;obtain⟨v1,v2,x2,rfl,-,-,-,hr1,-,hr2⟩:=hty;obtain⟨q1,d1,rfl⟩:=hr1.parts;obtain⟨q2,d2,rfl⟩:=hr2.parts;obtain⟨ap,cp,rfl⟩:=pK.parts;obtain⟨ae,ce,rfl⟩:=hre.parts;obtain⟨ab,cb,rfl⟩:=hrb.parts;obtain⟨ax,cx,rfl⟩:=hrl.parts;obtain⟨W,hW,N,HN,HP,HF,HS,HO,HD,bY⟩:=aap [Value.int .i64 8,aG nm,af tk,aG tn,aG tl,bC tm,.slice q1 fG.length d1,.slice q2 tar.length d2,af fF,af bP,.slice ap pl.length cp,.slice ae e.length ce,.slice ab bo.length cb,.slice ax el.length cx,bC ot,af l,af c] 89 h;have Ph:=aan HS hD pK;have Ia:=aaq HS hD hpl;have lJ:=aan HS hD hre;have CZ:=aaq HS hD he0;have mM:=aan HS hD hrb;have KI:=aao HS hD hb2;have Bl:=aan HS hD hrl;have CY:=aao HS hD hl2;have Ad:=aat HS hD iK;have iC:=ai (HD.o D hD);have HW:=ai hW;have HB:=ai hb;clear h iK hpl pK he0 hre hb2 hrb hl2 hrl hr1 hr2 hD hb hW;go_enter Tryz.func103,Tryz.ntmps103;go_upto_region 1 with fail
 rw[←HW.o];have c0:=bY.o W (HP.o.2) 0 _ rfl;have c12:=bY.o W (HP.o.2) 12 _ rfl;go_wp2_with fail;refine aaG HP (fun hp=>ihb _ xb b _ W N _ hp (mM.o W (HP.o.2)) (KI.o W (HP.o.2)) iC.o (by have h:=HB.o;simp only[List.length_append]at h⊢;omega)) fun X0 K0=> ?_;clear c0 c12;go_wp2_with fail;go_end0;exact HF.o _ _ K0.o
theorem X9 {nm tn tl:ByteArray} {tk:Int} {fF bP:Int} {tm ot:Bool} {fG:List ByteArray} {tar:List Ty} {pl e:List Ex} {bo el:List St} {l c:Int} {k:Int} (hk:¬(1≤k∧k≤8)):zC (.mk k nm (.mk tk tn tl tm fG tar fF bP) pl e bo el ot l c):=by
 intro cs b l0 w C D h hx hD hb;have h0:l0++rC (.mk k nm (.mk tk tn tl tm fG tar fF bP) pl e bo el ot l c)=l0:=by rw[rC,if_neg om,if_neg om,if_neg om,if_neg om,if_neg om,if_neg om,if_neg om,if_neg om,List.append_nil]
 rw[h0]at hb⊢;clear h0;rw[kF]at hx;obtain⟨ct,vp,ve,vb,vl,xp,xe,xb,xl,rfl,-,hty,hpl,pK,he0,hre,hb2,hrb,hl2,hrl⟩:=hx;have iK:=hty;rw[dJ]at hty;obtain⟨v1,v2,x2,rfl,-,-,-,hr1,-,hr2⟩:=hty;obtain⟨q1,d1,rfl⟩:=hr1.parts;obtain⟨q2,d2,rfl⟩:=hr2.parts;obtain⟨ap,cp,rfl⟩:=pK.parts;obtain⟨ae,ce,rfl⟩:=hre.parts;obtain⟨ab,cb,rfl⟩:=hrb.parts;obtain⟨ax,cx,rfl⟩:=hrl.parts;obtain⟨W,hW,N,HN,HP,HF,HS,HO,HD,bY⟩:=aap [Value.int .i64 k,aG nm,af tk,aG tn,aG tl,bC tm,.slice q1 fG.length d1,.slice q2 tar.length d2,af fF,af bP,.slice ap pl.length cp,.slice ae e.length ce,.slice ab bo.length cb,.slice ax el.length cx,bC ot,af l,af c] 89 h;have Ph:=aan HS hD pK;have Ia:=aaq HS hD hpl;have lJ:=aan HS hD hre;have CZ:=aaq HS hD he0;have mM:=aan HS hD hrb;have KI:=aao HS hD hb2;have Bl:=aan HS hD hrl;have CY:=aao HS hD hl2;have Ad:=aat HS hD iK;have iC:=ai (HD.o D hD);have HW:=ai hW;have HB:=ai hb;clear h iK hpl pK he0 hre hb2 hrb hl2 hrl hr1 hr2 hD hb hW;have k1:(k==1)=false:=by rw[beq_eq_false_iff_ne];exact fun e=>hk om
 have k2:(k==2)=false:=by rw[beq_eq_false_iff_ne];exact fun e=>hk om
 have k3:(k==3)=false:=by rw[beq_eq_false_iff_ne];exact fun e=>hk om
 have k4:(k==4)=false:=by rw[beq_eq_false_iff_ne];exact fun e=>hk om
 have k5:(k==5)=false:=by rw[beq_eq_false_iff_ne];exact fun e=>hk om
 have k6:(k==6)=false:=by rw[beq_eq_false_iff_ne];exact fun e=>hk om
 have k7:(k==7)=false:=by rw[beq_eq_false_iff_ne];exact fun e=>hk om
 have k8:(k==8)=false:=by rw[beq_eq_false_iff_ne];exact fun e=>hk om
 clear hk;go_enter Tryz.func103,Tryz.ntmps103;go_upto_region 1 with fail
 rw[←HW.o];have c0:=bY.o W (HP.o.2) 0 _ rfl;go_wp2_with fail;go_end0;exact HF.o _ _ HP.o
theorem X_ {s:St} (hp:stM s≤1000000) (LG:∀y,SizeOf.sizeOf y<SizeOf.sizeOf s→Dy VB y→DV y≤1000000→jS y) (Bo:∀l:List St,SizeOf.sizeOf l<SizeOf.sizeOf s→iE VB l→oP l≤1000000→zB l) (ha:Fb VB s):zC s:=by
 obtain⟨k,nm,⟨tk,tn,tl,tm,fG,tar,fF,bP⟩,pl,e,bo,el,ot,l,c⟩:=s;rw[Fb]at ha;rw[stM]at hp;have h1:=sN pl;have h2:=sN e;have ihp:∀y∈pl,jS y:=fun y hy=>LG y (by have:=List.sizeOf_lt_of_mem hy;simp;omega) (ha.1.get hy) (by have:=sK hy;omega);have D5:∀y∈e,jS y:=fun y hy=>LG y (by have:=List.sizeOf_lt_of_mem hy;simp;omega) (ha.2.1.get hy) (by have:=sK hy;omega);have ihb:zB bo:=Bo bo (by simp;omega) ha.2.2.1 om;have ihl:zB el:=Bo el (by simp;omega) ha.2.2.2 om;have KH:lZ (.mk tk tn tl tm fG tar fF bP):=FB _ _ (Nat.lt_succ_self _) om;by_cases hk:1≤k∧k≤8
 ·rcases(show k=1∨k=2∨k=3∨k=4∨k=5∨k=6∨k=7∨k=8 by omega)with rfl|rfl|rfl|rfl|rfl|rfl|rfl|rfl
  ·by_cases h0:tk=0
   ·subst h0;by_cases hx:e.length=0
    ·exact Pg hx
    ·exact Pj D5 om hx
   ·by_cases hx:e.length=0
    ·exact Pn KH h0 hx
    ·exact Po KH h0 D5 om hx
  ·exact XU ihp om D5 om
  ·exact XV D5 om
  ·cases ot
   ·exact Uj D5 om ihb
   ·exact Ui D5 om ihb ihl
  ·exact XW D5 om ihb
  ·exact XY D5 om
  ·exact XZ
  ·exact X8 ihb
 ·exact X9 hk
theorem BZ:∀n:Nat,(∀x:Ex,SizeOf.sizeOf x<n→Dy VB x→DV x≤1000000→jS x)∧(∀l:List St,SizeOf.sizeOf l<n→iE VB l→oP l≤1000000→zB l)
 |0=>⟨fun _ h=>absurd h (Nat.not_lt_zero _),fun _ h=>absurd h (Nat.not_lt_zero _)⟩
 |n+1=>by
  obtain⟨LG,Bo⟩:=BZ n
  constructor
  ·
   intro x h ha hm
   obtain⟨k,nm,v,mu,ar,ns,bo,l,c⟩:=x
   rw[Dy]at ha
   rw[DV]at hm
   obtain⟨⟨hk1,hk2,hv0,hv1,hv2⟩,ha1,ha2⟩:=ha
   have hk1:1≤k:=hk1
   have hk2:k≤18:=hk2
   have h1:=sN ar
   have ih:∀y∈ar,jS y:=fun y hy=>LG y (by have:=List.sizeOf_lt_of_mem hy;simp at h;omega) (ha1.get hy) (by have:=sK hy;omega)
   have ihb:zB bo:=Bo bo (by simp at h;omega) ha2 om
   rcases(show k=1∨k=2∨k=3∨k=4∨k=5∨k=6∨k=7∨k=8∨k=9∨k=10∨k=11∨k=12∨k=13∨k=14∨k=15∨k=16∨k=17∨k=18 by omega)with rfl|rfl|rfl|rfl|rfl|rfl|rfl|rfl|rfl|rfl|rfl|rfl|rfl|rfl|rfl|rfl|rfl|rfl
   ·
    obtain⟨n,rfl⟩:∃n:Nat,v=n:=⟨v.toNat,by have:0≤v:=hv0;omega⟩
    exact Ug (by have h:=hv2 rfl;have h:(n:Int)<9223372036854775808:=h;omega)
   ·
    by_cases hv:v=1
    ·
     subst hv;exact O9
    ·
     exact O_ hv
   ·
    obtain⟨n,rfl⟩:∃n:Nat,v=n:=⟨v.toNat,by have:0≤v:=hv0;omega⟩
    exact Uh (by have h:(n:Int)<18446744073709551616:=hv1;omega)
   ·
    exact Uc
   ·
    exact Ud
   ·
    exact Ue ih om
   ·
    exact Uf ih om
   ·
    cases mu
    ·
     exact O4 ih om
    ·
     exact O3 ih om
   ·
    exact oI om (aaB ih om)
   ·
    exact oI om (XF ih om)
   ·
    exact oI om (XK ih om om)
   ·
    exact oI om (XH ih om)
   ·
    exact oI om (XP ih om)
   ·
    exact O5 ih om
   ·
    exact O6 ih om
   ·
    exact O1
   ·
    exact oI om (XI ihb om)
   ·
    exact oI om (XG ih om)
  ·
   intro l h ha hm
   have h1:=Ff l
   refine blk_pt (fun s hs=> ?_) om
   have h2:=List.sizeOf_lt_of_mem hs
   have h3:=Fe hs
   exact X_ om (fun y hy hya hym=>LG y om hya hym) (fun b hb hba hbm=>Bo b om hba hbm) (ha.get hs)
theorem FD:Enters 100:=fun xs w=>by go_simp
theorem Pq (b pb rb:Nat) (ps:List Pm) (a:Option Addr) (c:Nat) (D:Nat→Prop) (i:Nat) (x:Pm) (w:World) (l:List ByteArray) (E:Nat→Prop) (hx:ps[i]?=some x) (h:(gX b l).r undef w E) (h1:w.heap[pb]?=some (.cells #[fM b 0] 95 (0,0))) (h2:w.heap[rb]?=some (.cells #[.slice a ps.length c] 43 (0,0))) (hv:kP H8 w D ps (.slice a ps.length c)) (hn1:¬E pb) (hn2:¬E rb) (hD:∀q,D q→¬E q) (hc:lZ x.ty) (hl:(l++oH x).length≤1000000000) (hxl:ps.length≤100000000):Calls Tryz.prog 100 #[.int .i64 i,.pointer (some ⟨pb,0,none⟩),.pointer (some ⟨rb,0,none⟩)] w (Pt b (l++oH x) E w):=by
 obtain⟨N,HN,HC,HB,HE⟩:=MR w E;obtain⟨n,hn⟩:=bn ps.length;have hi:i<n:=by rw[hn];exact(List.getElem?_eq_some_iff.1 hx).1
 obtain⟨xs,⟨_,_,he,-,-,-,hr⟩,hel⟩:=hv;cases he;obtain⟨g,o,rfl,h6,h7,h9⟩:=hr om;obtain⟨cs,⟨ct,rfl,-,hat⟩,hf⟩:=wQ.get iI i hel hx;have h10:=h9 (i*11+0) (.string x.name) (hf 0 _ rfl);rw[Nat.add_zero]at h10;have Kz:Hid (∀X,Step N w X→X.cell? ⟨g,o+i*11,none⟩=some (.string x.name)):=show∀X,_ from fun X hX=>(HB.o X hX).cell h10 (hD g h6);have MV:Hid (∀X,Step N w X→∀(j:Nat) v,ct[j]?=some v→X.cell? ⟨g,o+i*11+1+j,none⟩=some v):=by
  show∀X,_;intro X hX j v h
  have h1:=h9 (i*11+(1+j)) v (hf (1+j) v (by
   rw[List.append_assoc,List.getElem?_append_right (by simp),List.getElem?_append_left (by have:=(List.getElem?_eq_some_iff.1 h).1;simpa using this)]
   simpa using h))
  rw[show o+i*11+1+j=o+(i*11+(1+j)) by omega];exact(HB.o X hX).cell h1 (hD g h6)
 have hcl:(Tryz.prog.info? 46).map (·.size)=some ct.length:=by rw[hat.len];exact Tryz.cu
 have HAT:Hid (∀X,Step N w X→dJ X (fun q=>D q∧q<w.heap.size) x.ty ct):=show∀X,_ from fun X hX=>dJ.step (HB.o X hX) (fun q hq=>hD q hq.1) _ _ (dJ.mono (fun q hq h=>⟨h,hq⟩) _ _ hat);have iC:Hid (∀q,(D q∧q<w.heap.size)→¬N q):=show∀q,_ from fun q hq e=>(HE.o q e).elim (hD q hq.1) (fun e=>by have:=hq.2;omega);have H1:Hid (∀X,Step N w X→X.cell? ⟨pb,0,none⟩=some (.pointer (some ⟨b,0,none⟩))):=show∀X,_ from fun X hX=>ah ((HB.o X hX).keep h1 hn1) 0 _ rfl;have H2:Hid (∀X,Step N w X→X.cell? ⟨rb,0,none⟩=some (.slice (some ⟨g,o,none⟩) n c)):=show∀X,_ from fun X hX=>by rw[hn];exact ah ((HB.o X hX).keep h2 hn2) 0 _ rfl
 have H:=ai h;obtain⟨nm,ty,pl,pc⟩:=x;have Ub:Hid (lZ ty):=hc;have hl1:l.length+2≤1000000000:=by have h:=hl;unfold oH at h;simp only[List.length_append,List.length_cons,List.length_nil]at h;omega
 rw[show l++oH ⟨nm,ty,pl,pc⟩=l++[nm,⟨#[58]⟩]++jR ty by unfold oH;rw[List.append_assoc]]at hl⊢;have CY:=ai hl;rw[←hn]at hxl;have HAT2:Hid (∀X,Step N w X→dJ X (fun q=>D q∧q<w.heap.size) ty ct):=HAT;have H102:Hid (∀X,Step N w X→X.cell? ⟨g,o+i*11,none⟩=some (.string nm)):=Kz;clear h h1 h2 hr h6 h7 h9 h10 hx hD hn1 hn2 hn hat hf hel hc hl HAT Kz;go_enter Tryz.func100,Tryz.ntmps100;go_upto_region 0 with fail
 refine fC N w [.p (.pointer (some ⟨b,0,none⟩)),.p (.slice (some ⟨g,o,none⟩) n c),.p (.int .i64 i),.p (.pointer (some ⟨g,o+i*11,none⟩)),.p (.pointer (some ⟨g,o+i*11,none⟩)),.p (.string nm),.r [] (qU [nm,⟨#[58]⟩]),.r [6,8] (gX b (l++[nm,⟨#[58]⟩])),.r [] (Kp (gX b l) undef)] HN.o kr bV (tq rfl rfl H.o HC.o) ?_ kr ?_
 ·refine ON.p ?_ (fun X hX=>by have c:=H1.o X hX;go_simp);refine ON.p ?_ (fun X hX=>by have c:=H2.o X hX;go_simp);refine ON.p ?_;refine ON.p ?_;refine ON.p ?_;refine ON.p ?_ (fun X hX=>by have c:=H102.o X hX;go_simp);refine OB.bs [nm,⟨#[58]⟩] 2 ?_;refine ON.put 10 hl1 ?_;exact OB.nil
 intro V X f hX hf;have h9:(gX b (l++[nm,⟨#[58]⟩])).r undef X (fun q=>N q∧f q=7):=hf 7 kr;simp only[pX,Act.put,List.setIfInBounds_toArray,List.set_cons_zero,List.set_cons_succ,Nat.zero_add];go_upto_region 1 with fail
 refine fC N w [.p (.pointer (some ⟨b,0,none⟩)),.p (.slice (some ⟨g,o,none⟩) n c),.p (.int .i64 i),.p (.pointer (some ⟨g,o+i*11,none⟩)),.p (.pointer (some ⟨g,o+i*11+1,none⟩)),.p (.agg ct.toArray),.r [7] (gX b (l++[nm,⟨#[58]⟩]++jR ty)),.r [] (Kp (gX b (l++[nm,⟨#[58]⟩])) undef)] HN.o kr hX (tq rfl rfl h9 (fun q h=>h.1)) ?_ kr ?_
 ·refine ON.p ?_ (fun X hX=>by have c:=H1.o X hX;go_simp);refine ON.p ?_ (fun X hX=>by have c:=H2.o X hX;go_simp);refine ON.p ?_;refine ON.p ?_;refine ON.p ?_;refine ON.ld g (o+i*11+1) ct _ MV.o Tryz.underlying46 hcl ?_;refine ON.pc #[.pointer (some ⟨b,0,none⟩),.agg ct.toArray] Tryz.func45 (fun X C hX hp hC=>Ub.o ct b _ X C _ hp (HAT2.o X hX) (fun q hq e=>iC.o q hq (hC q e)) CY.o) ?_;exact OB.nil
 intro V2 X2 f2 hX2 hf2;have h10:(gX b (l++[nm,⟨#[58]⟩]++jR ty)).r undef X2 (fun q=>N q∧f2 q=6):=hf2 6 kr;simp only[pX,Act.put,List.setIfInBounds_toArray,List.set_cons_zero,List.set_cons_succ,Nat.zero_add];go_wp2;go_end0;exact⟨rfl,HB.o X2 hX2,(gX b _).ok.mono (fun q _ h=>HE.o q h.1) h10⟩
theorem yh (b:Nat) (l:List ByteArray) (ps:List Pm) (v:Value) (w:World) (C D:Nat→Prop) (h:(gX b l).r undef w C) (hv:kP H8 w D ps v) (hD:∀q,D q→¬C q) (ih:∀p∈ps,lZ p.ty) (hl:ps.length≤100000000) (hb:(l++aO (ps.map oH)).length≤1000000000):Calls Tryz.prog 61 #[.pointer (some ⟨b,0,none⟩),v] w (Pt b (l++aO (ps.map oH)) C w):=by
 obtain⟨a,c,rfl⟩:=hv.parts;obtain⟨W,hW⟩:=bn ((w.alloc (.cells #[fM b 0] 95)).alloc (.cells #[.slice a ps.length c] 43));have hs:Step Sf w W:=by rw[hW];exact(bV.alloc _).alloc _
 obtain⟨N,HN,HP,HF,HS,HO,HD⟩:=bQ h hs;have h1:W.heap[w.heap.size]?=some (.cells #[fM b 0] 95 (0,0)):=by rw[hW];exact aN (aB _ _)
 have h2:W.heap[w.heap.size+1]?=some (.cells #[.slice a ps.length c] 43 (0,0)):=by rw[hW];exact fO _ _ _
 have hz:=aC h2;have c1:=ah h1 0 _ rfl;have c2:=ah h2 0 _ rfl;have hv2:kP H8 w (fun q=>D q∧q<w.heap.size) ps (.slice a ps.length c):=(bT iI).mono _ _ (fun q hq h=>⟨h,hq⟩) hv;have JU:Hid (sO 100 [.pointer (some ⟨w.heap.size,0,none⟩),.pointer (some ⟨w.heap.size+1,0,none⟩)] b (ps.map oH) N W):=by
  show sO _ _ _ _ _ _;intro i y X l' E hy hX hE hp hl';have Bv:∀q,E q→N q:=fun q hq=>(hE q hq).elim id (HN.o q);rw[List.getElem?_map]at hy;cases hx:ps[i]? with
  |none=>rw[hx]at hy;cases hy
  |some x=>rw[hx]at hy;cases hy;exact Pq b _ _ ps a c (fun q=>D q∧q<w.heap.size) i x X l' E hx hp (hX.keep h1 (HO.o _ om om)) (hX.keep h2 (HO.o _ om om)) ((bT iI).step _ _ (HS.o X hX) (fun q hq=>hD q hq.1) hv2) (fun e=>HO.o _ om om (Bv _ e)) (fun e=>HO.o _ om om (Bv _ e)) (fun q hq e=>HD.o D hD q hq (Bv q e)) (ih x (List.mem_of_getElem? hx)) (by rw[List.length_append];exact hl') hl
 have HW:=ai hW;have hln:(ps.map oH).length=ps.length:=by rw[List.length_map]
 have hc:=vZ 100 [.pointer (some ⟨w.heap.size,0,none⟩),.pointer (some ⟨w.heap.size+1,0,none⟩)] b l (ps.map oH) W N FD HP.o.1 JU.o (by rw[hln];exact hl) (by rw[←List.length_append];exact hb);rw[hln]at hc;have vU:Hid _:=hc;obtain⟨n,hn⟩:=bn ps.length;rw[←hn]at c2 hl vU HW⊢;clear hc hln hb hW hs h h1 h2 hz hv hv2 hD hn JU ih;go_enter Tryz.func61,Tryz.ntmps61;go_upto_region 1 with fail
 rw[←HW.o];go_wp2_with fail;refine(Pk.call HN.o HP.o (fun _=>vU.o)).mono ?_;rintro e w' ⟨rfl,hk⟩;have HK:=ai hk;clear hk;go_wp2_with fail;go_end0;exact HF.o _ _ HK.o
def xX (t:Ty):List ByteArray:=match t with| .mk k _ _ _ _ _ _ _=>if k=0 then[]else[⟨#[45,62]⟩]++jR t
theorem Pv (b:Nat) (l0:List ByteArray) (t:Ty) (cs:List Value) (w:World) (C D:Nat→Prop) (h:(gX b l0).r undef w C) (hx:dJ w D t cs) (hD:∀q,D q→¬C q) (ih:lZ t) (hb:(l0++xX t).length≤1000000000):Calls Tryz.prog 64 #[.pointer (some ⟨b,0,none⟩),.agg cs.toArray] w (Pt b (l0++xX t) C w):=by
 obtain⟨k,nm,lf,mu,ls,ar,l,c⟩:=t;have hx0:=hx;rw[dJ]at hx;obtain⟨vl,va,xs,rfl,-,-,-,hrl,hel,hra⟩:=hx;obtain⟨al,cl,rfl⟩:=hrl.parts;obtain⟨aa,ca,rfl⟩:=hra.parts;obtain⟨W,hW⟩:=bn (w.alloc (.cells #[Value.int .i64 k,aG nm,aG lf,bC mu,.slice al ls.length cl,.slice aa ar.length ca,af l,af c] 46));have hs:Step Sf w W:=by rw[hW];exact bV.alloc _
 obtain⟨N,HN,HP,HF,HS,HO,HD⟩:=bQ h hs;have hbk:W.heap[w.heap.size]?=some (.cells #[Value.int .i64 k,aG nm,aG lf,bC mu,.slice al ls.length cl,.slice aa ar.length ca,af l,af c] 46 (0,0)):=by rw[hW];exact aB _ _
 have bY:Hid (∀X,Step N W X→∀(j:Nat) u,[Value.int .i64 k,aG nm,aG lf,bC mu,.slice al ls.length cl,.slice aa ar.length ca,af l,af c][j]?=some u→X.cell? ⟨w.heap.size,0+j,none⟩=some u):=by intro X hX j u hu;rw[Nat.zero_add];exact ah (hX.keep hbk (HO.o _ (Nat.le_refl _) (aC hbk))) j u (by simpa using hu)
 have HX:=aat HS hD hx0;have iC:=ai (HD.o D hD);have HIH:=ai ih;have HW:=ai hW;have c0:=ah hbk 0 _ rfl;by_cases hk:k=0
 ·have e:xX (.mk k nm lf mu ls ar l c)=[]:=if_pos hk;rw[e,List.append_nil];subst hk;clear h hs hbk hx0 hra hel hrl hD hb hW ih e;go_enter Tryz.func64,Tryz.ntmps64;go_upto_region 1 with fail
  rw[←HW.o];go_wp2_with fail;go_end0;exact HF.o _ _ HP.o
 ·have e:xX (.mk k nm lf mu ls ar l c)=[⟨#[45,62]⟩]++jR (.mk k nm lf mu ls ar l c):=if_neg hk;rw[e,←List.append_assoc]at hb⊢;have hk0:(k !=0)=true:=by simpa using hk
  have HB:=ai hb;clear h hs hbk hx0 hra hel hrl hD hb hW ih e hk;go_enter Tryz.func64,Tryz.ntmps64;go_upto_region 1 with fail
  rw[←HW.o];go_wp2_with fail;refine aaF [⟨#[45,62]⟩] HP fun X0 K0=> ?_;clear c0;go_upto_region 3 with fail
  go_wp2_with (refine ay rfl 46 (.tmp 3) rfl w.heap.size 0 rfl [Value.int .i64 k,aG nm,aG lf,bC mu,.slice al ls.length cl,.slice aa ar.length ca,af l,af c] _ (bY.o X0 K0.o.2) Tryz.underlying46 rfl Tryz.cu ?_);refine aaG K0 (fun hp=>HIH.o _ b _ X0 N _ hp (HX.o X0 K0.o.2) iC.o HB.o) fun X1 K1=> ?_;go_wp2_with fail;go_end0;exact HF.o _ _ K1.o
theorem G6:Enters 102:=fun xs w=>by go_simp
theorem Uk (b pb rb:Nat) (ps:List Bd) (a:Option Addr) (c:Nat) (D:Nat→Prop) (i:Nat) (x:Bd) (w:World) (l:List ByteArray) (E:Nat→Prop) (hx:ps[i]?=some x) (h:(gX b l).r undef w E) (h1:w.heap[pb]?=some (.cells #[fM b 0] 95 (0,0))) (h2:w.heap[rb]?=some (.cells #[.slice a ps.length c] 47 (0,0))) (hv:kP Bq w D ps (.slice a ps.length c)) (hn1:¬E pb) (hn2:¬E rb) (hD:∀q,D q→¬E q) (hl:(l++sW x).length≤1000000000) (hxl:ps.length≤100000000) (hxs:x.qX.length+x.bJ.length≤1000000):Calls Tryz.prog 102 #[.int .i64 i,.pointer (some ⟨pb,0,none⟩),.pointer (some ⟨rb,0,none⟩)] w (Pt b (l++sW x) E w):=by
 obtain⟨N,HN,HC,HB,HE⟩:=MR w E;obtain⟨n,hn⟩:=bn ps.length;have hi:i<n:=by rw[hn];exact(List.getElem?_eq_some_iff.1 hx).1
 obtain⟨xs,⟨_,_,he,-,-,-,hr⟩,hel⟩:=hv;cases he;obtain⟨g,o,rfl,h6,h7,h9⟩:=hr om;obtain⟨nm,ts,ls,pl,pc⟩:=x;obtain⟨cs,⟨vt,vl,rfl,-,hvt,hvl⟩,hf⟩:=wQ.get gq i hel hx;obtain⟨at1,ct1,rfl⟩:=hvt.parts;obtain⟨al1,cl1,rfl⟩:=hvl.parts;have h10:=h9 (i*5+0) (.string nm) (hf 0 _ rfl);rw[Nat.add_zero]at h10;have h11:=h9 (i*5+1) (.slice at1 ts.length ct1) (hf 1 _ rfl);have h12:=h9 (i*5+2) (.slice al1 ls.length cl1) (hf 2 _ rfl);rw[←Nat.add_assoc]at h11 h12;have Kz:Hid (∀X,Step N w X→X.cell? ⟨g,o+i*5,none⟩=some (.string nm)):=show∀X,_ from fun X hX=>(HB.o X hX).cell h10 (hD g h6);have H11:Hid (∀X,Step N w X→X.cell? ⟨g,o+i*5+1,none⟩=some (.slice at1 ts.length ct1)):=show∀X,_ from fun X hX=>(HB.o X hX).cell h11 (hD g h6);have H12:Hid (∀X,Step N w X→X.cell? ⟨g,o+i*5+2,none⟩=some (.slice al1 ls.length cl1)):=show∀X,_ from fun X hX=>(HB.o X hX).cell h12 (hD g h6);have U7:Hid (∀X,Step N w X→jB X (fun q=>D q∧q<w.heap.size) (.slice at1 ts.length ct1) ts):=show∀X,_ from fun X hX=>(aS.mono hvt.2 (fun q hq h=>⟨h,hq⟩)).step (HB.o X hX) (fun q hq=>hD q hq.1);have RU:Hid (∀X,Step N w X→jB X (fun q=>D q∧q<w.heap.size) (.slice al1 ls.length cl1) ls):=show∀X,_ from fun X hX=>(aS.mono hvl.2 (fun q hq h=>⟨h,hq⟩)).step (HB.o X hX) (fun q hq=>hD q hq.1);have H1:Hid (∀X,Step N w X→X.cell? ⟨pb,0,none⟩=some (.pointer (some ⟨b,0,none⟩))):=show∀X,_ from fun X hX=>ah ((HB.o X hX).keep h1 hn1) 0 _ rfl;have H2:Hid (∀X,Step N w X→X.cell? ⟨rb,0,none⟩=some (.slice (some ⟨g,o,none⟩) n c)):=show∀X,_ from fun X hX=>by rw[hn];exact ah ((HB.o X hX).keep h2 hn2) 0 _ rfl
 have H:=ai h;have hl1:l.length+2≤1000000000:=by have h:=hl;unfold sW at h;simp only[List.length_append,List.length_cons,List.length_nil]at h;omega
 rw[show l++sW ⟨nm,ts,ls,pl,pc⟩=l++[nm,⟨#[58]⟩]++kE (ts++ls) (ts++ls).length by unfold sW;rw[List.append_assoc]]at hl⊢;have CY:=ai hl;have hxs:ts.length+ls.length≤1000000:=hxs;rw[←hn]at hxl;clear h h1 h2 hr h6 h7 h9 h10 h11 h12 hx hD hn1 hn2 hn hf hel hl hvt hvl;go_enter Tryz.func102,Tryz.ntmps102;go_upto_region 0 with fail
 refine fC N w [.p (.pointer (some ⟨b,0,none⟩)),.p (.slice (some ⟨g,o,none⟩) n c),.p (.int .i64 i),.p (.pointer (some ⟨g,o+i*5,none⟩)),.p (.pointer (some ⟨g,o+i*5,none⟩)),.p (.string nm),.r [] (qU [nm,⟨#[58]⟩]),.r [6,8] (gX b (l++[nm,⟨#[58]⟩])),.r [] (Kp (gX b l) undef)] HN.o kr bV (tq rfl rfl H.o HC.o) ?_ kr ?_
 ·refine ON.p ?_ (fun X hX=>by have c:=H1.o X hX;go_simp);refine ON.p ?_ (fun X hX=>by have c:=H2.o X hX;go_simp);refine ON.p ?_;refine ON.p ?_;refine ON.p ?_;refine ON.p ?_ (fun X hX=>by have c:=Kz.o X hX;go_simp);refine OB.bs [nm,⟨#[58]⟩] 2 ?_;refine ON.put 12 hl1 ?_;exact OB.nil
 intro V X0 f hX hf;have h9:(gX b (l++[nm,⟨#[58]⟩])).r undef X0 (fun q=>N q∧f q=7):=hf 7 kr;have hp0:(gX b (l++[nm,⟨#[58]⟩])).r undef X0 N:=(gX b _).ok.mono (fun _ _ h=>h.1) h9;have HP0:=ai hp0;have HX0:=ai hX;have g1:=H2.o X0 hX;have g2:=H11.o X0 hX;have g3:=H12.o X0 hX;clear hf h9 hp0 hX;simp only[pX,Act.put,List.setIfInBounds_toArray,List.set_cons_zero,List.set_cons_succ,Nat.zero_add];go_upto_region 1 with fail
 obtain⟨i0,hi0,hz0,hz1,hz2⟩:=info_parts Tryz.oC;have HI:=ai hi0;have HZ0:=ai hz0;have HZ1:=ai hz1;have HZ2:=ai hz2;have OWN0:Hid (((X0.alloc (.cells #[] 9)).drew).ownsRow X0.heap.size 9 1 (.slice (some ⟨X0.heap.size,0,none⟩) 0 0) 0 []):=World.ownsRow_made X0 #[] 0 (Nat.le_refl _) dc rfl;have ST0:Step Sf X0 ((X0.alloc (.cells #[] 9)).drew):=(bV.alloc _).drew;have ROWP:Hid (Row ((X0.alloc (.cells #[] 9)).drew) X0.heap.size (.slice at1 ts.length ct1) ts.length (ts.map Value.string)):=aS.row ((U7.o X0 HX0.o).step ST0 (fun _ _ h=>h)) (fun k hk hq=>by have:=hq.2;have:=(HB.o X0 HX0.o).size;omega);have OP:Hid (∀z∈ts.map Value.string,z.oneCell'=true):=show∀z,_ from fun z hz=>by obtain⟨s,_,rfl⟩:=List.mem_map.1 hz;rfl
 have OE:Hid (∀z∈ls.map Value.string,z.oneCell'=true):=show∀z,_ from fun z hz=>by obtain⟨s,_,rfl⟩:=List.mem_map.1 hz;rfl
 clear hi0 hz0 hz1 hz2;go_region_held3 (fun w'=>w'.cell? ⟨rb,0,none⟩=some (.slice (some ⟨g,o,none⟩) n c)∧w'.cell? ⟨g,o+i*5+1,none⟩=some (.slice at1 ts.length ct1)∧w'.cell? ⟨g,o+i*5+2,none⟩=some (.slice al1 ls.length cl1)∧Step Sf X0 w')
  (first|exact⟨g1,g2,g3,bV.drew⟩|exact⟨ST0.cell g1 (fun h=>h),ST0.cell g2 (fun h=>h),ST0.cell g3 (fun h=>h),ST0⟩|exact⟨ST4.cell g1 (fun h=>h),ST4.cell g2 (fun h=>h),ST4.cell g3 (fun h=>h),ST4⟩|exact⟨ST5.cell g1 (fun h=>h),ST5.cell g2 (fun h=>h),ST5.cell g3 (fun h=>h),ST5⟩)
  (first
   |(refine lM _ rfl X0.heap.size (.tmp 20) (.tmp 25) 40 rfl X0.heap.size 9 i0 (.string ⟨#[]⟩) 1 16 Tryz.underlying40 HI.o HZ0.o HZ1.o HZ2.o rfl dc
      _ _ _ (by simp[Act.eval]) Ya.o _ ls.length (ls.map Value.string) (by simp[Act.eval]) (aS.row ((RU.o X0 HX0.o).step ST4 (fun _ _ h=>h)) (fun k hk hq=>by have:=hq.2;have:=(HB.o X0 HX0.o).size;omega)) (by simp) OE.o (by unfold maxLen;omega) om ST4.size ?_
     intro v5 w5 hown5 Yb _
     obtain⟨oa5,oc5,rfl⟩:=b_ hown5
     have HOWN5:=ai hown5
     have ST5:Step Sf X0 w5:=ST4.grown Yb (fun k hk hlt=>by have:=x9 Ya.o k hk;omega)
     clear hown5 Yb)
   |(refine lM _ rfl X0.heap.size (.tmp 14) (.tmp 19) 40 rfl X0.heap.size 9 i0 (.string ⟨#[]⟩) 1 16 Tryz.underlying40 HI.o HZ0.o HZ1.o HZ2.o rfl dc
      _ 0 [] (by simp[Act.eval]) OWN0.o _ ts.length (ts.map Value.string) (by simp[Act.eval]) ROWP.o (by simp) OP.o (by unfold maxLen;omega) om (by simp) ?_
     intro v4 w4 hown4 hgrow4 _
     have Ya:=ai hown4
     have ST4:Step Sf X0 w4:=ST0.grown hgrow4 (fun k hk hlt=>by simp[Value.ownBlock]at hk;omega)
     clear hown4 hgrow4))
 rename_i hh1 hh2;clear hh1 hh2;clear g1 g2 g3 ROWP OP OE OWN0 ST0 ST4 Ya HI HZ0 HZ1 HZ2 H2 Kz H11 H12;obtain⟨ys,hys⟩:=bn (ts++ls);obtain⟨m,hm⟩:=bn ys.length;have hm2:0+ts.length+ls.length=m:=by rw[hm,hys,List.length_append];omega
 have hmi:(ts.length:Int)+ls.length=m:=by omega
 have hrow:=HOWN5.o;rw[hm2,List.nil_append,←List.map_append,←hys]at hrow;have HSP:Hid (jB w5 (fun q=>X0.heap.size≤q∧q<w5.heap.size) (.slice oa5 m oc5) ys):=show jB _ _ _ _ from by unfold jB;rw[←hm];exact aS.jb hrow (fun k hk=>⟨x9 hrow k hk,OC hrow hk⟩)
 rw[hm2,hmi];rw[←hys,←hm]at CY⊢;have HM:=ai hm;have hml:m≤1000000:=by omega
 obtain⟨N2,oO,HP2,HF2,HS2,HO2,HD2⟩:=bQ HP0.o ST5;have HFI:Hid (∀X l',Pk b l' N2 w5 X→Pt b l' E w (.returned (.tuple #[])) X):=show∀X,_ from fun X l' hk=>by obtain⟨-,h3,h4⟩:=HF2.o _ _ hk;have hz:=(HB.o X0 HX0.o).size;exact⟨rfl,HB.o X (HX0.o.trans h3),(gX b l').ok.mono (fun q _ h=>h.elim (HE.o q) (fun h=>.inr (Nat.le_trans hz h))) h4⟩
 have YE:Hid (∀X,Step N2 w5 X→X.cell? ⟨pb,0,none⟩=some (.pointer (some ⟨b,0,none⟩))):=show∀X,_ from fun X hX=>H1.o X (HX0.o.trans (HS2.o X hX));have HYS:Hid (∀X,Step N2 w5 X→jB X (fun q=>X0.heap.size≤q∧q<w5.heap.size) (.slice oa5 m oc5) ys):=show∀X,_ from fun X hX=>HSP.o.step hX (fun q hq=>HO2.o q hq.1 hq.2);have HLK:Hid (∀k,k≤m→(l++[nm,⟨#[58]⟩]++kE ys k).length≤1000000000):=show∀k,_ from fun k hk=>by
  have h:=CY.o;have h2:∀j k,j≤k→(kE ys j).length≤(kE ys k).length:=by
   intro j k hjk;induction hjk with
   |refl=>exact Nat.le_refl _
   |step _ ih=>rw[kE];simp only[List.length_append];omega
  have h3:=h2 k m hk;simp only[List.length_append]at h⊢;omega
 have HYE:=ai hys;have pq:Hid (m=ts.length+ls.length):=by show _=_;omega
 clear hm hm2 hmi hys hrow HOWN5 HSP HP0 hxs hl1 hxl ST5;go_wp2_with fail;go_loopg [28] m (fun gg s28 wr=>∃(k:Nat),s28=.int .i64 k∧k≤m∧m-k≤gg∧Pk b (l++[nm,⟨#[58]⟩]++kE ys k) N2 w5 wr);case atStart=>exact⟨0,rfl,Nat.zero_le _,by omega,by rw[kE,List.append_nil];exact HP2.o⟩
 case round=>
  obtain⟨k,rfl,hk,hg,hp⟩:=hrel;have K:=ai hp;clear hp;by_cases hlt:k<m
  ·(have hki:(k:Int)<m:=by omega);obtain⟨s,hs⟩:∃s,ys[k]?=some s:=⟨_,List.getElem?_eq_getElem (by rw[←HM.o];exact hlt)⟩;(have HX:Hid (kE ys (k+1)=kE ys k++psep k++[s]):=show _=_ by rw[kE,DN hs]);obtain⟨_,_,he,-,-,-,hr⟩:=HYS.o wr K.o.2;have hrr:=hr (by rw[←HM.o];omega);obtain⟨g2,o2,he2,-,-,h9⟩:=hrr;cases he;subst he2;have hcs:=h9 k (.string s) (by rw[List.getElem?_map,hs];rfl);have hpb:=YE.o wr K.o.2;have hb2:=HLK.o (k+1) hlt;rw[HX.o]at hb2;have HB2:=ai hb2;clear hr h9 hs hb2;(go_upto_region 4 with fail);by_cases h0:k=0
   ·subst h0;have hps:psep 0=[]:=rfl;have Px:=ai hps;clear hps;go_wp2_with fail;refine(Pk.put [s] oO.o K.o (by have h:=HB2.o;simp only[List.length_append,List.length_cons,List.length_nil]at h⊢;omega)).mono ?_;rintro e w' ⟨rfl,hk⟩;(have hk2:Pk b (l++[nm,⟨#[58]⟩]++kE ys (0+1)) N2 w5 w':=by rw[HX.o,Px.o,List.append_nil,←List.append_assoc];exact hk);have K2:=ai hk2;clear hk hk2;go_wp2_with fail;go_roundg (gk-1);case rel=>exact⟨0+1,by go_num,by omega,by omega,K2.o⟩
    case measure=>omega
   ·(have hk0:(0:Int)<k:=by omega);(have hps:psep k=[⟨#[43]⟩]:=by unfold psep;rw[if_pos om]);have Px:=ai hps;clear hps h0;go_wp2_with fail;refine(Pk.put [⟨#[43]⟩] oO.o K.o (by have h:=HB2.o;simp only[List.length_append,List.length_cons,List.length_nil]at h⊢;rw[Px.o]at h;simp only[List.length_cons,List.length_nil]at h;omega)).mono ?_;rintro e w1 ⟨rfl,hk⟩;have K1:=ai hk;have hpb1:=YE.o w1 hk.2;clear hk hpb hcs;go_wp2_with fail;refine(Pk.put [s] oO.o K1.o (by have h:=HB2.o;simp only[List.length_append,List.length_cons,List.length_nil]at h⊢;rw[Px.o]at h;simp only[List.length_cons,List.length_nil]at h;omega)).mono ?_;rintro e w' ⟨rfl,hk⟩;(have hk2:Pk b (l++[nm,⟨#[58]⟩]++kE ys (k+1)) N2 w5 w':=by rw[HX.o,Px.o,←List.append_assoc,←List.append_assoc];exact hk);have K2:=ai hk2;clear hk hk2 hpb1;go_wp2_with fail;go_roundg (gk-1);case rel=>exact⟨k+1,by go_num,by omega,by omega,K2.o⟩
    case measure=>omega
  ·(obtain rfl:k=m:=by omega);have hf:=HFI.o _ _ K.o;rw[HYE.o,pq.o]at hf;have H9:=ai hf;clear hf;go_wp2_with fail;go_end0;show Pt b (l++([nm,⟨#[58]⟩]++kE (ts++ls) (ts.length+ls.length))) E w _ _;rw[←List.append_assoc];exact H9.o
def FH (l:List Bd):List ByteArray:=if(l.map sW).length=0 then[]else[⟨#[119,104,101,114,101]⟩]++aO (l.map sW)
theorem Bc (b:Nat) (l:List ByteArray) (ps:List Bd) (v:Value) (w:World) (C D:Nat→Prop) (h:(gX b l).r undef w C) (hv:kP Bq w D ps v) (hD:∀q,D q→¬C q) (hxs:∀p∈ps,p.qX.length+p.bJ.length≤1000000) (hl:ps.length≤100000000) (hb:(l++FH ps).length≤1000000000):Calls Tryz.prog 63 #[.pointer (some ⟨b,0,none⟩),v] w (Pt b (l++FH ps) C w):=by
 obtain⟨a,c,rfl⟩:=hv.parts;obtain⟨W,hW⟩:=bn ((w.alloc (.cells #[fM b 0] 95)).alloc (.cells #[.slice a ps.length c] 47));have hs:Step Sf w W:=by rw[hW];exact(bV.alloc _).alloc _
 obtain⟨N,HN,HP,HF,HS,HO,HD⟩:=bQ h hs;have h1:W.heap[w.heap.size]?=some (.cells #[fM b 0] 95 (0,0)):=by rw[hW];exact aN (aB _ _)
 have h2:W.heap[w.heap.size+1]?=some (.cells #[.slice a ps.length c] 47 (0,0)):=by rw[hW];exact fO _ _ _
 have hz:=aC h2;have c1:=ah h1 0 _ rfl;have c2:=ah h2 0 _ rfl;have H1:Hid (∀X,Step N W X→X.heap[w.heap.size]?=some (.cells #[fM b 0] 95 (0,0))):=show∀X,_ from fun X hX=>hX.keep h1 (HO.o _ om om);have H2:Hid (∀X,Step N W X→X.heap[w.heap.size+1]?=some (.cells #[.slice a ps.length c] 47 (0,0))):=show∀X,_ from fun X hX=>hX.keep h2 (HO.o _ om om);have HV:Hid (∀X,Step N W X→kP Bq X (fun q=>D q∧q<w.heap.size) ps (.slice a ps.length c)):=show∀X,_ from fun X hX=>(bT gq).step _ _ (HS.o X hX) (fun q hq=>hD q hq.1) ((bT gq).mono _ _ (fun q hq h=>⟨h,hq⟩) hv);have iC:=ai (HD.o D hD);have lm:Hid (¬N w.heap.size):=HO.o _ om om;have oO:Hid (¬N (w.heap.size+1)):=HO.o _ om om;have HXS:=ai hxs;have HW:=ai hW;have hln:(ps.map sW).length=ps.length:=by rw[List.length_map]
 obtain⟨n,hn⟩:=bn ps.length;have F_:=ai hn;by_cases h0:n=0
 ·have e:FH ps=[]:=if_pos (by rw[hln,←hn];exact h0);rw[e,List.append_nil];rw[←hn]at c2 HW⊢;subst h0;clear h hs h1 h2 hz hv hD hn hb e hln hxs hW;go_enter Tryz.func63,Tryz.ntmps63;go_upto_region 1 with fail
  rw[←HW.o];go_wp2_with fail;go_end0;exact HF.o _ _ HP.o
 ·have e:FH ps=[⟨#[119,104,101,114,101]⟩]++aO (ps.map sW):=if_neg (by rw[hln,←hn];exact h0);rw[e,←List.append_assoc]at hb⊢;have HB:=ai hb;have hnz:((n:Int)==0)=false:=by rw[beq_eq_false_iff_ne];omega
  rw[←hn]at c2 HW⊢;have hl2:n≤100000000:=by rw[hn];exact hl
  clear h hs h1 h2 hz hv hD hn hb e hln hxs hW h0;go_enter Tryz.func63,Tryz.ntmps63;go_upto_region 1 with fail
  rw[←HW.o];go_wp2_with fail;refine aaF [⟨#[119,104,101,114,101]⟩] HP fun X0 K0=> ?_;clear c1 c2;have JU:Hid (sO 102 [.pointer (some ⟨w.heap.size,0,none⟩),.pointer (some ⟨w.heap.size+1,0,none⟩)] b (ps.map sW) N X0):=by
   show sO _ _ _ _ _ _;intro i y X l' E hy hX hE hp hl';have hz1:=K0.o.2.size;have Bv:∀q,E q→N q:=fun q hq=>(hE q hq).elim id (fun h=>HN.o q (Nat.le_trans hz1 h));have NI:Step N W X:=K0.o.2.trans hX;rw[List.getElem?_map]at hy;cases hx:ps[i]? with
   |none=>rw[hx]at hy;cases hy
   |some x=>rw[hx]at hy;cases hy;exact Uk b _ _ ps a c (fun q=>D q∧q<w.heap.size) i x X l' E hx hp (H1.o X NI) (H2.o X NI) (HV.o X NI) (fun e=>lm.o (Bv _ e)) (fun e=>oO.o (Bv _ e)) (fun q hq e=>iC.o q hq (Bv q e)) (by rw[List.length_append];exact hl') hl (HXS.o x (List.mem_of_getElem? hx))
  have hc:=vZ 102 [.pointer (some ⟨w.heap.size,0,none⟩),.pointer (some ⟨w.heap.size+1,0,none⟩)] b (l++[⟨#[119,104,101,114,101]⟩]) (ps.map sW) X0 N G6 K0.o.1 JU.o (by rw[List.length_map];exact hl) (by rw[←List.length_append];exact HB.o);rw[List.length_map,←F_.o]at hc;have vU:Hid _:=hc;clear hc JU;have c1:=ah (H1.o X0 K0.o.2) 0 _ rfl;have c2:=ah (H2.o X0 K0.o.2) 0 _ rfl;rw[←F_.o]at c2;go_wp2_with fail;refine aaG K0 (fun _=>vU.o) fun X1 K1=> ?_;go_wp2_with fail;go_end0;exact HF.o _ _ K1.o
section
variable {ops : Array Oper} {dI : List Sp} {N : Nat → Prop} {w1 : World} {o : Oper} {a : Act} {r : List Oper} {ss : List Sp}
theorem ON.be (h:qg ops dI N w1 r ss a) (hy:∀X,o.wp Tryz.prog a X (fun a' X'=>a'=a.put o.dst (.slice (some ⟨X.heap.size,0,none⟩) 0 0)∧X'=X.alloc (.cells #[] 9)) QN:=by intro X;go_simp) (hw:Region.wanted o (yielded ops a.tmps)=true:=by kernel_rfl):qg ops dI N w1 (o::r) (.r [] (qU [])::ss) a:=
 ON.new (fun X _=>Oper.wp_mono (fun a' X' ⟨h1,h2⟩=>⟨_,h1,by rw[h2];exact bV.alloc _,by
  rw[h2]
  refine⟨⟨rfl,.inr ⟨X.heap.size,0,_,rfl,Nat.zero_le _,aB _ _,Nat.le_refl _,by decide,rfl,rfl⟩⟩,fun b hb=>.inr ?_⟩
  have:X.heap.size=b:=Option.some.inj hb
  omega⟩) (hy X)) h hw
theorem ON.ap {xs ys:List ByteArray} {k:Nat} (t x:Tmp) {u:Value} {D:Nat→Prop} (hu:∀X,Step N w1 X→jB X D u ys) (hl:xs.length+ys.length≤1000000000) (h:qg ops dI N w1 r ss a) (ho:o.op=.call {callee:=.builtin .append,args:= #[.tmp t,.tmp x],argTypes:= #[40,40]}:=by rfl) (hs:∀v,(a.put (some t) v).eval (.tmp t)=v:=by intro v;kernel_rfl) (hx:∀v,(a.put (some t) v).eval (.tmp x)=u:=by intro v;kernel_rfl) (hk:(lG dI k).out=(qU xs).r:=by rfl) (ht:dZ ops k=some t:=by rfl) (hw:Region.wanted o (yielded ops a.tmps)=true:=by kernel_rfl):qg ops dI N w1 (o::r) (.r [k] (qU (xs++ys))::ss) a:=
 ON.u t (ok:=qU xs) (fun X v _ hX hv _=>WB _ _ ho (hs v) (hx v) hv (hu X hX) hl) h hk ht hw
theorem ON.nm {b k1 k2:Nat} {l ys:List ByteArray} {u:Value} {xs:Array Operand} {ats:Array TypeId} (t:Tmp) (hl:ys.length≤100000000) (hb:l.length+(aO (cO ys)).length≤1000000000) (h:qg ops dI N w1 r ss a) (ho:o.op=.call {callee:=.value (.func 98),args:=xs,argTypes:=ats}:=by rfl) (hv:∀v,xs.map (a.put (some t) v).eval= #[.pointer (some ⟨b,0,none⟩),v]:=by intro v;kernel_rfl) (hk1:(lG dI k1).out=(qU ys).r:=by rfl) (hk2:(lG dI k2).out=(Kp (gX b l) u).r:=by rfl) (ht1:dZ ops k1=some t:=by rfl) (ht2:dZ ops k2=none:=by rfl) (hw:Region.wanted o (yielded ops a.tmps)=true:=by kernel_rfl):qg ops dI N w1 (o::r) (.r [k1,k2] (gX b (l++aO (cO ys)))::ss) a:=
 ON.ui t (o1:=qU ys) (o2:=Kp (gX b l) u) (fun X v _ C D hX hv1 hv2 hC hD=>(JR ho (hv v) Tryz.func98 kr kr (MS b l ys v X D C hv2 (qU.strs hv1) (fun q hq hd=>(hD q hd).2 hq) hl hb)).mono (fun _=>.inr)) h hk1 hk2 ht1 ht2 hw
end
def wU (ls ts:List ByteArray):List ByteArray:=j_ (cO ls++cO ts)
theorem MZ (ls ts:List ByteArray):cO ls++cO ts=cO (ls++ts):=by unfold cO;rw[List.map_append]
theorem tY (b:Nat) (l ls ts:List ByteArray) (v1 v2:Value) (w:World) (C D:Nat→Prop) (h:(gX b l).r undef w C) (hv1:jB w D v1 ls) (hv2:jB w D v2 ts) (hD:∀q,D q→¬C q) (hl1:ls.length≤1000000) (hl2:ts.length≤1000000) (hb:(l++wU ls ts).length≤1000000000):Calls Tryz.prog 60 #[.pointer (some ⟨b,0,none⟩),v1,v2] w (Pt b (l++wU ls ts) C w):=by
 obtain⟨N,HN,HP,HF,HS,HO,HD⟩:=bQ h bV;obtain⟨a1,c1,rfl⟩:=hv1.parts;obtain⟨a2,c2,rfl⟩:=hv2.parts;have H1:Hid (∀X,Step N w X→jB X (fun q=>D q∧q<w.heap.size) (.slice a1 ls.length c1) ls):=show∀X,_ from fun X hX=>(aS.mono hv1 (fun q hq h=>⟨h,hq⟩)).step (HS.o X hX) (fun q hq=>hD q hq.1);have H2:Hid (∀X,Step N w X→jB X (fun q=>D q∧q<w.heap.size) (.slice a2 ts.length c2) ts):=show∀X,_ from fun X hX=>(aS.mono hv2 (fun q hq h=>⟨h,hq⟩)).step (HS.o X hX) (fun q hq=>hD q hq.1);obtain⟨n,hn⟩:=bn ls.length;obtain⟨m,hm⟩:=bn ts.length;have hlen:(cO ls++cO ts).length=n+m:=by rw[MZ,cO,List.length_map,List.length_append,hn,hm]
 have hn1:n≤1000000:=by omega
 have hm1:m≤1000000:=by omega
 by_cases h0:n+m=0
 ·have e:wU ls ts=[]:=if_pos (by rw[hlen];exact h0);rw[e,List.append_nil];rw[←hn]at H1⊢;rw[←hm]at H2⊢;obtain rfl:n=0:=by omega
  obtain rfl:m=0:=by omega
  clear h hv1 hv2 hD hb e hlen hn hm hl1 hl2;go_enter Tryz.func60,Tryz.ntmps60;go_wp2_with fail;go_end0;exact HF.o _ _ HP.o
 ·have e:wU ls ts=[⟨#[60]⟩]++aO (cO ls++cO ts)++[⟨#[62]⟩]:=if_neg (by rw[hlen];exact h0);rw[e,MZ,show l++([⟨#[60]⟩]++aO (cO (ls++ts))++[⟨#[62]⟩])=l++[⟨#[60]⟩]++aO (cO (ls++ts))++[⟨#[62]⟩] by simp only[List.append_assoc]]at hb⊢;have HB:=ai hb;have hgt:(0:Int)<n+m:=by omega
  have HLN:Hid ((ls++ts).length≤100000000):=show _≤_ by rw[List.length_append];omega
  have HL1:Hid (([]:List ByteArray).length+ls.length≤1000000000):=show _≤_ by simp;omega
  have HL2:Hid ((([]:List ByteArray)++ls).length+ts.length≤1000000000):=show _≤_ by simp;omega
  rw[←hn]at H1⊢;rw[←hm]at H2⊢;clear h hv1 hv2 hD hb e hlen hn hm hl1 hl2 h0;go_enter Tryz.func60,Tryz.ntmps60;go_wp2_with fail;refine aaF [⟨#[60]⟩] HP fun X0 K0=> ?_;go_upto_region 3 with fail
  refine fC N w [.p (.pointer (some ⟨b,0,none⟩)),.r [] (qU []),.p (.slice a1 n c1),.r [1] (qU ([]++ls)),.p (.slice a2 m c2),.r [3] (qU ([]++ls++ts)),.r [5,7] (gX b (l++[⟨#[60]⟩]++aO (cO ([]++ls++ts)))),.r [] (Kp (gX b (l++[⟨#[60]⟩])) undef)] HN.o kr K0.o.2 (tq rfl rfl K0.o.1 (fun _ h=>h)) ?_ kr ?_
  ·refine ON.p ?_;refine ON.be ?_;refine ON.p ?_;refine ON.ap 18 19 H1.o HL1.o ?_;refine ON.p ?_;refine ON.ap 20 21 H2.o HL2.o ?_;refine ON.nm 22 HLN.o (by have h:=HB.o;rw[List.nil_append];simp only[List.length_append,List.length_cons,List.length_nil]at h⊢;omega) ?_;exact OB.nil
  intro V X f hX hf;have h9:(gX b (l++[⟨#[60]⟩]++aO (cO ([]++ls++ts)))).r undef X (fun q=>N q∧f q=6):=hf 6 kr;simp only[pX,Act.put,List.setIfInBounds_toArray,List.set_cons_zero,List.set_cons_succ,Nat.zero_add];have hk:Pk b (l++[⟨#[60]⟩]++aO (cO (ls++ts))) N w X:=⟨(gX b _).ok.mono (fun _ _ h=>h.1) h9,hX⟩;have K1:=ai hk;clear hk h9 hf hX;go_wp2_with fail;refine aaF [⟨#[62]⟩] K1 fun X2 K2=> ?_;go_wp2_with fail;go_end0;exact HF.o _ _ K2.o
end Go.Proofs.YtggjfinekcenpaaGreat
