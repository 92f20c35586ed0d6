/- Set, Clo, Fw, Nmb, Nmc -/
import Derived.Test.YtppekkbaoimpgaaGreatPkE
set_option maxRecDepth 100000
set_option maxHeartbeats 8000000
namespace Go.Proofs.YtppekkbaoimpgaaGreat
open Go.RowKit
open Vt
def SetLeft (n0 bt:Nat) (t:Tok) (w':World) (a:List Ex×Ex):Prop:=∃(xp xe:List Value) (vp ve:Value),w'.heap[bt]?=some (.cells #[ah (if a.1.length=0 then 3 else 2),aK,ah 0,aK,aK,aO,au,au,ah 0,ah 0,vp,ve,au,au,aO,ah t.line,ah t.col] 111 (0,0))∧
 dG w' (fun k=>n0≤k) a.1 xp∧di w' (fun k=>n0≤k) vp a.1.length xp∧dG w' (fun k=>n0≤k) [a.2] xe∧di w' (fun k=>n0≤k) ve 1 xe
def Nc (f:Nat):Prop:=∀(R:fV) (w:World) (i d bt:Nat) (t:Tok),nK R.l→bC R w i d→d≤40→R.rb<bt→w.heap[bt]?=some (.cells #[ah 0,aK,ah 0,aK,aK,aO,au,au,ah 0,ah 0,au,au,au,au,aO,ah t.line,ah t.col] 111 (0,0))→zU f R.l i d≠.out→
 Calls Tryz.prog 207 #[.agg #[dY R.rb 0],.pointer (some ⟨bt,0,none⟩)] w (aZ R d bt (SetLeft w.heap.size bt t) (zU f R.l i d) w)
structure SetJ (bt:Nat) (w4:World) (t:Tok) (xc:List Value) (L:Nat→Bool) (V:Nat→Value) (X:World):Prop where
 gZ:∀(i:Nat) v,[some (Value.pointer (some ⟨bt,0,none⟩)),some (.pointer (some ⟨bt,0,none⟩)),some (.agg xc.toArray),none,some (.pointer (some ⟨bt,0,none⟩)),some (.pointer (some ⟨bt,0,none⟩)),none,some (.pointer (some ⟨bt,0,none⟩)),some (.pointer (some ⟨bt,10,none⟩)),none][i]?=some (some v)→L i=true→V i=v
 s3:L 3=true→∃g:Nat,V 3=.slice (some ⟨g,0,none⟩) 1 1∧w4.heap.size≤g∧X.heap[g]?=some (.cells xc.toArray 56 (0,0))
 st:Step (·=bt) w4 X
 blk:X.heap[bt]?=some (.cells #[ah (if L 6=true then 2 else 3),aK,ah 0,aK,aK,aO,au,au,ah 0,ah 0,(if L 9=true then V 3 else au),au,au,au,aO,ah t.line,ah t.col] 111 (0,0))
 q9:L 9=true→L 3=true
theorem Rt (f:Nat) (ih:mW f):Nc (f+1):=by
 intro R w i d bt t hl h hd hrb hbt hno;have HL:=ak hl;have HEX:Hid (∀X j,bC R X j d→bf f R.l j d 0≠.out→Calls Tryz.prog 77 #[.agg #[dY R.rb 0]] X (aJ R d (J8 X.heap.size) (bf f R.l j d 0) X)):=fun X j hX hn=>kZ f ih R X j d hl hX hd hn;obtain⟨r,hr⟩:=aU (zU (f+1) R.l i d);have HRR:Hid (r=(bf f R.l i d 0).bind fun x j=>(if bD R.l j [61]then(bf f R.l (j+1) d 0).bind fun y j=>.ok ([x],y) j else .ok ([],x) j).bind fun p j=>(aH R.l j [59]).bind fun _ j=>.ok p j):=by show _=_;rw[hr,zU]
 rw[←hr]at hno⊢;have eH:=ak hno;have KA:=aI hbt;obtain⟨w1,hw1⟩:=aU ((w.setCell ⟨bt,0,none⟩ (.int .i64 3)).alloc (.cells #[dY R.rb 0] 97));have hst:Step (·=bt) w (w.setCell ⟨bt,0,none⟩ (.int .i64 3)):=bJ.setCell _ _ iI;have hal:Step (fun _=>False) (w.setCell ⟨bt,0,none⟩ (.int .i64 3)) w1:=by rw[hw1];exact bJ.alloc _
 have Za:(w.alloc (.cells #[dY R.rb 0] 97)).heap[bt]?=some (.cells #[ah 0,aK,ah 0,aK,aK,aO,au,au,ah 0,ah 0,au,au,au,au,aO,ah t.line,ah t.col] 111 (0,0)):=aN hbt;have cZ:Hid (Step (·=bt) w w1):=hst.trans (hal.mono fe);have jL:Hid (w1.heap[w.heap.size]?=some (.cells #[dY R.rb 0] 97 (0,0))):=by show _=_;rw[hw1];exact tV _ _ _ (by simp)
 have EG:Hid (w1.heap[bt]?=some (.cells #[ah 3,aK,ah 0,aK,aK,aO,au,au,ah 0,ah 0,au,au,au,au,aO,ah t.line,ah t.col] 111 (0,0))):=by show _=_;rw[hw1];exact aN (aV hbt 0 (.int .i64 3))
 have HW1:=ak hw1;have H1:=ak ((h.step hst oi).quiet hal);have hn1:=aI jL.o;have bY:Hid (∀X:World,Step (fun q=>q=R.rb∨q=bt) w1 X→X.cell? ⟨w.heap.size,0,none⟩=some (.pointer (some ⟨R.rb,0,none⟩))):=by show∀X,_;intro X hX;exact aj (hX.keep jL.o om) 0 _ rfl
 have mQ:=aj Za 0 _ rfl;have mV:=aG Za 0;clear ih hl h hno hr hw1 hbt hal hst Za;go_enter Tryz.func207,Tryz.ntmps207;go_upto_region 2 with fail
 rw[←HW1.o];clear mQ mV;have p0:=bY.o w1 bJ;go_wp2_with fail;cases hx:bf f R.l i d 0 with
 |out=>exact absurd (by rw[HRR.o,hx];rfl) eH.o
 |err c ln col=>have HX:=ak hx;clear hx;refine(HEX.o _ i H1.o (by rw[HX.o];intro h;cases h)).mono ?_;rintro e wq hp;rw[HX.o]at hp;obtain⟨rfl,sq⟩:=hp;refine⟨rfl,aZ.aX (c:=c) (ln:=ln) (col:=col) (by rw[HRR.o,HX.o];rfl) rfl ?_⟩;exact(cZ.o.mono ir).trans (sq.mono il)
 |ok x jx=>
  have HX:=ak hx;clear hx;refine(HEX.o _ i H1.o (by rw[HX.o];intro h;cases h)).mono ?_;rintro e wx hp;rw[HX.o]at hp;obtain⟨⟨v,rfl,cs,rfl,hy⟩,hrx,hsx⟩:=hp;have HY:=ak hy;obtain⟨k5,nm5,v5,Jh,b1,m1,d1,b2,m2,d2,b3,m3,d3,l5,c5,rfl⟩:=hy.parts;have u_:=ak hrx;have pF:=ak hsx;have wX:Hid (r=(if bD R.l jx [61]then(bf f R.l (jx+1) d 0).bind fun y j=>.ok ([x],y) j else .ok ([],x) jx).bind fun p j=>(aH R.l j [59]).bind fun _ j=>.ok p j):=by show _=_;rw[HRR.o,HX.o];rfl
  obtain⟨w3,hw3⟩:=aU (wx.alloc (.cells #[ah k5,aY nm5,bK v5,dV Jh,.slice b1 m1 d1,.slice b2 m2 d2,.slice b3 m3 d3,ah l5,ah c5] 56));have eX:Hid (Step (fun _=>False) wx w3):=by show Step _ _ _;rw[hw3];exact bJ.alloc _
  have HB3:Hid (w3.heap[wx.heap.size]?=some (.cells #[ah k5,aY nm5,bK v5,dV Jh,.slice b1 m1 d1,.slice b2 m2 d2,.slice b3 m3 d3,ah l5,ah c5] 56 (0,0))):=by show _=_;rw[hw3];exact aA _ _
  have nN:Hid (Step (fun q=>q=R.rb∨q=bt) w1 w3):=(pF.o.trans (eX.o.mono fe)).mono il;have I_:=ak (eX.o.keep (pF.o.keep EG.o om) (fun h=>h));have HY3:Hid (dW w3 (fun q=>w1.heap.size≤q∧q<wx.heap.size) x [.int .i64 k5,.string nm5,.int .u64 v5,.bool Jh,.slice b1 m1 d1,.slice b2 m2 d2,.slice b3 m3 d3,.int .i64 l5,.int .i64 c5]):=dW.step eX.o (fun _ _ h=>h) _ _ (dW.mono (fun q h1 h2=>⟨h2,h1⟩) _ _ hy);have HR3:=ak (hrx.quiet eX.o);have hz1:=cZ.o.size;have hzx:=pF.o.size;have hz3:=aI HB3.o;obtain⟨bx,hbx⟩:=aU wx.heap.size;have HW3:=ak hw3;clear hy hrx hsx p0 hw3;go_upto_region 3 with fail
  rw[←HW3.o];rw[←hbx]at HB3 HY3 hz3 hzx⊢;clear hbx;have p0:=bY.o w3 nN.o;obtain⟨bq,hbq⟩:=aU (bD R.l jx [61]);obtain⟨j2,hj2⟩:=aU (iL R.l jx [61]);have HI2:Hid (Calls Tryz.prog 110 #[.pointer (some ⟨R.rb,0,none⟩),.string ⟨#[61]⟩] w3 fun e w'=>e=.returned (.bool bq)∧bC R w' j2 d∧Step (·=R.rb) w3 w'):=by show Calls _ _ _ _ _;rw[hbq,hj2];exact rF R HL.o ⟨#[61]⟩ w3 jx d HR3.o dc
  have HB2:=ak hbq;have HJ2:=ak hj2;clear hbq hj2;go_wp2_with fail;refine HI2.o.mono ?_;rintro e w4 ⟨rfl,hr4,h4⟩;have HR4:=ak hr4;have Dp:Hid (Step (fun q=>q=R.rb∨q=bt) w1 w4):=nN.o.trans (h4.mono il);have pX:=ak (h4.keep I_.o om);have HB4:=ak (h4.keep HB3.o om);have OH:Hid (dW w4 (fun q=>w1.heap.size≤q∧q<bx) x [.int .i64 k5,.string nm5,.int .u64 v5,.bool Jh,.slice b1 m1 d1,.slice b2 m2 d2,.slice b3 m3 d3,.int .i64 l5,.int .i64 c5]):=dW.step h4 oi _ _ HY3.o;have hz4:=h4.size;clear hr4 h4 p0;have p0:=bY.o w4 Dp.o;go_upto_if 12 with fail
  go_cut [] (fun wx=>∃(pl:List Ex) (y:Ex) (je:Nat) (k:Int) (vp:Value) (xp cy:List Value),r=((aH R.l je [59]).bind fun _ j=>.ok (pl,y) j)∧k=(if pl.length=0 then 3 else 2)∧dG wx (fun q=>w1.heap.size≤q∧q≠bx) pl xp∧di wx (fun q=>w1.heap.size≤q∧q≠bx) vp pl.length xp∧
   dW wx (fun q=>w1.heap.size≤q∧q≠bx) y cy∧wx.heap[bx]?=some (.cells cy.toArray 56 (0,0))∧wx.heap[bt]?=some (.cells #[ah k,aK,ah 0,aK,aK,aO,au,au,ah 0,ah 0,vp,au,au,au,aO,ah t.line,ah t.col] 111 (0,0))∧bC R wx je d∧Step (fun q=>q=R.rb∨q=bt∨q=bx) w4 wx)
  case first=>
   cases bq with
   |false=>(have hj:j2=jx:=by rw[HJ2.o,iL,←HB2.o,if_neg dc]);(have rM:Hid (r=((aH R.l j2 [59]).bind fun _ j=>.ok ([],x) j)):=by show _=_;rw[wX.o,←HB2.o,if_neg dc,hj];rfl);clear hj;go_wp2_with fail;go_meet;case rel=>exact⟨[],x,j2,3,.slice none 0 0,[],[.int .i64 k5,.string nm5,.int .u64 v5,.bool Jh,.slice b1 m1 d1,.slice b2 m2 d2,.slice b3 m3 d3,.int .i64 l5,.int .i64 c5],rM.o,rfl,by rw[dG],di.nil _ _ _,dW.mono oi _ _ OH.o,HB4.o,pX.o,HR4.o,Step.refl _ _⟩
   |true=>
    (have hj:j2=jx+1:=by rw[HJ2.o,iL,←HB2.o,if_pos rfl]);(have rM:Hid (r=(bf f R.l j2 d 0).bind fun y j=>(aH R.l j [59]).bind fun _ j=>.ok ([x],y) j):=by show _=_;rw[wX.o,←HB2.o,if_pos rfl,hj];cases bf f R.l (jx+1) d 0<;>rfl);clear hj;have dS:=ak OH.o.one;(go_upto_region 4 with fail);go_cut [] (fun wx=>∃g:Nat,w4.heap.size≤g∧g≠bx∧wx.heap[g]?=some (.cells #[ah k5,aY nm5,bK v5,dV Jh,.slice b1 m1 d1,.slice b2 m2 d2,.slice b3 m3 d3,ah l5,ah c5] 56 (0,0))∧wx.heap[bt]?=some (.cells #[ah 2,aK,ah 0,aK,aK,aO,au,au,ah 0,ah 0,.slice (some ⟨g,0,none⟩) 1 1,au,au,au,aO,ah t.line,ah t.col] 111 (0,0))∧Step (·=bt) w4 wx);case first=>
     refine bH kr (SetJ bt w4 t [.int .i64 k5,.string nm5,.int .u64 v5,.bool Jh,.slice b1 m1 d1,.slice b2 m2 d2,.slice b3 m3 d3,.int .i64 l5,.int .i64 c5]) 10 rfl kr kr kr kr ?h0 ?hs ?hdone;case h0=>exact⟨(fun _ _ _ h=>nomatch h),gJ,bJ.drew,pX.o,gJ⟩
     case hs=>
      refine⟨?_,?_,?_,?_,?_,?_,?_,?_,?_,?_,trivial⟩
      all_goals intro L V X a ev dn hdf hL ax hJ
      ·have o1:=dn 1 rfl;change a.tmps[1]?.getD undef=.pointer (some ⟨bt,0,none⟩)at o1;go_simp;exact⟨_,rfl,{hJ with gZ:=iO hJ.gZ 0 _ (fun u hu=>by cases hu;rfl)}⟩
      ·have o1:=dn 1 rfl;change a.tmps[1]?.getD undef=.pointer (some ⟨bt,0,none⟩)at o1;go_simp;exact⟨_,rfl,{hJ with gZ:=iO hJ.gZ 1 _ (fun u hu=>by cases hu;rfl)}⟩
      ·have o4:=dn 4 rfl;change a.tmps[4]?.getD undef=.pointer (some ⟨bx,0,none⟩)at o4;have hb:=hJ.st.keep HB4.o om;refine wp_load_mid 56 (.tmp 4) rfl bx 0 (by rw[bF];exact o4) [.int .i64 k5,.string nm5,.int .u64 v5,.bool Jh,.slice b1 m1 d1,.slice b2 m2 d2,.slice b3 m3 d3,.int .i64 l5,.int .i64 c5] _ (fun jj v hv=>by rw[Nat.zero_add];exact aj hb jj v oJ) Tryz.underlying56 rfl Tryz.aQ ?_;exact⟨_,rfl,{hJ with gZ:=iO hJ.gZ 2 _ (fun u hu=>by cases hu;rfl)}⟩
      ·have e15:=(ev 2 15 rfl (ax 2 rfl)).trans (hJ.gZ 2 _ rfl (ax 2 rfl));have h9:L 9=false:=by
        cases e:L 9 with
        |false=>rfl
        |true=>exact absurd (hJ.q9 e) (by rw[hL];decide)
       have hs:Step (fun _=>False) X (X.alloc (.cells #[ah k5,aY nm5,bK v5,dV Jh,.slice b1 m1 d1,.slice b2 m2 d2,.slice b3 m3 d3,ah l5,ah c5] 56)):=bJ.alloc _;have hb:=hJ.blk;simp only[h9,Bool.false_eq_true,if_false]at hb;go_simp;refine⟨_,rfl,{hJ with gZ:=iO hJ.gZ 3 _ (fun u hu=>by cases hu),s3:=fun _=>⟨X.heap.size,rfl,hJ.st.size,aA _ _⟩,st:=hJ.st.alloc _,blk:= ?_,q9:=fun _=>rfl}⟩;show(X.alloc _).heap[bt]?=some (.cells #[ah (if L 6=true then 2 else 3),aK,ah 0,aK,aK,aO,au,au,ah 0,ah 0,(if L 9=true then .slice (some ⟨X.heap.size,0,none⟩) 1 1 else au),au,au,au,aO,ah t.line,ah t.col] 111 (0,0));simp only[h9,Bool.false_eq_true,if_false];exact hs.keep hb (fun h=>h)
      ·have e13:=(ev 0 13 rfl (ax 0 rfl)).trans (hJ.gZ 0 _ rfl (ax 0 rfl));go_simp;exact⟨_,rfl,{hJ with gZ:=iO hJ.gZ 4 _ (fun u hu=>by cases hu;rfl)}⟩
      ·have e17:=(ev 4 17 rfl (ax 4 rfl)).trans (hJ.gZ 4 _ rfl (ax 4 rfl));go_simp;exact⟨_,rfl,{hJ with gZ:=iO hJ.gZ 5 _ (fun u hu=>by cases hu;rfl)}⟩
      ·have e18:=(ev 5 18 rfl (ax 5 rfl)).trans (hJ.gZ 5 _ rfl (ax 5 rfl));have hb:=hJ.blk;have q0:=aj hb 0 _ rfl;have z0:=aG hb 0;have hs:Step (·=bt) X (X.setCell ⟨bt,0,none⟩ (.int .i64 2)):=bJ.setCell _ _ iI;have hbs:=aV hb 0 (.int .i64 2);go_simp;exact⟨undef,{hJ with gZ:=iO hJ.gZ 6 _ (fun u hu=>by cases hu),s3:=fun e=>(by obtain⟨g,g1,g2,g3⟩:=hJ.s3 e;exact⟨g,g1,g2,hs.keep g3 om⟩),st:=hJ.st.trans hs,blk:=hbs}⟩
      ·have e14:=(ev 1 14 rfl (ax 1 rfl)).trans (hJ.gZ 1 _ rfl (ax 1 rfl));go_simp;exact⟨_,rfl,{hJ with gZ:=iO hJ.gZ 7 _ (fun u hu=>by cases hu;rfl)}⟩
      ·have e19:=(ev 7 19 rfl (ax 7 rfl)).trans (hJ.gZ 7 _ rfl (ax 7 rfl));go_simp;exact⟨_,rfl,{hJ with gZ:=iO hJ.gZ 8 _ (fun u hu=>by cases hu;rfl)}⟩
      ·have e20:=(ev 8 20 rfl (ax 8 rfl)).trans (hJ.gZ 8 _ rfl (ax 8 rfl));have hb:=hJ.blk;obtain⟨g,g1,g2,g3⟩:=hJ.s3 (ax 3 rfl);have e16:=(ev 3 16 rfl (ax 3 rfl)).trans g1;have q0:=aj hb 10 _ rfl;have z0:=aG hb 10;have hs:Step (·=bt) X (X.setCell ⟨bt,10,none⟩ (.slice (some ⟨g,0,none⟩) 1 1)):=bJ.setCell _ _ iI;have hbs:=aV hb 10 (.slice (some ⟨g,0,none⟩) 1 1);go_simp;refine⟨undef,{hJ with gZ:=iO hJ.gZ 9 _ (fun u hu=>by cases hu),s3:=fun _=>⟨g,g1,g2,hs.keep g3 om⟩,st:=hJ.st.trans hs,blk:= ?_,q9:=fun _=>ax 3 rfl}⟩;show(X.setCell _ _).heap[bt]?=some (.cells #[ah (if L 6=true then 2 else 3),aK,ah 0,aK,aK,aO,au,au,ah 0,ah 0,V 3,au,au,au,aO,ah t.line,ah t.col] 111 (0,0));rw[g1];exact hbs
     case hdone=>intro L V X hall hJ;obtain⟨g,g1,g2,g3⟩:=hJ.s3 (hall 3 dc);have hb:=hJ.blk;rw[hall 6 dc,hall 9 dc,if_pos rfl,if_pos rfl,g1]at hb;have hs9:=hJ.st;rw[show List.range 10=[0,1,2,3,4,5,6,7,8,9] from rfl];simp only[kC,fU,List.getElem?_toArray,List.getElem?_cons_zero,List.getElem?_cons_succ,Option.bind_some,Act.put,List.setIfInBounds_toArray,List.set_cons_zero,List.set_cons_succ];clear hJ hall p0;go_wp2_with fail;go_meet;case rel=>exact⟨g,g2,by omega,g3,hb,hs9⟩
    case rest=>
     obtain⟨g,hg1,hg2,hg3,hb5,hs5⟩:=hcut;obtain⟨w5,rfl⟩:=aU wc;have HG5:=ak hg3;have Oo:=ak hb5;have Zb:=ak hs5;have M_:=ak (HR4.o.step hs5 oi);have HBX5:=ak (hs5.keep HB4.o om);have HX5:Hid (dW w5 (fun q=>w1.heap.size≤q∧q<bx) x [.int .i64 k5,.string nm5,.int .u64 v5,.bool Jh,.slice b1 m1 d1,.slice b2 m2 d2,.slice b3 m3 d3,.int .i64 l5,.int .i64 c5]):=dW.step hs5 oi _ _ OH.o;have hz5:=hs5.size;have hg5:=aI hg3;clear hg3 hb5 hs5 p0;have p0:=bY.o w5 (Dp.o.trans (Zb.o.mono ir));go_wp2_with fail;cases hx:bf f R.l j2 d 0 with
     |out=>exact absurd (by rw[rM.o,hx];rfl) eH.o
     |err c ln col=>have Vy:=ak hx;clear hx;refine(HEX.o _ j2 M_.o (by rw[Vy.o];intro h;cases h)).mono ?_;rintro e wq hp;rw[Vy.o]at hp;obtain⟨rfl,sq⟩:=hp;refine⟨rfl,aZ.aX (c:=c) (ln:=ln) (col:=col) (by rw[rM.o,Vy.o];rfl) rfl ?_⟩;exact(((cZ.o.mono ir).trans Dp.o).trans (Zb.o.mono ir)).trans (sq.mono il)
     |ok y jy=>
      have Vy:=ak hx;clear hx;refine(HEX.o _ j2 M_.o (by rw[Vy.o];intro h;cases h)).mono ?_;rintro e w6 hp;rw[Vy.o]at hp;obtain⟨⟨v,rfl,cs,rfl,hy⟩,n_,hs6⟩:=hp;have HYY:=ak hy;have HONY:=ak hy.one;obtain⟨k7,nm7,v7,Ru,p1,q1,r1,p2,q2,r2,p3,q3,r3,l7,c7,rfl⟩:=hy.parts;have yR:=ak n_;have OL:=ak hs6;have HBX6:=ak (hs6.keep HBX5.o om);(have IE:Hid (r=((aH R.l jy [59]).bind fun _ j=>.ok ([x],y) j)):=by show _=_;rw[rM.o,Vy.o];rfl);clear hy n_ hs6 p0
      go_wp2_with (refine aC (w:=w6) rfl 56 (.tmp 4) (.tmp 22) rfl bx 0 56 _ [.int .i64 k7,.string nm7,.int .u64 v7,.bool Ru,.slice p1 q1 r1,.slice p2 q2 r2,.slice p3 q3 r3,.int .i64 l7,.int .i64 c7] rfl rfl HBX6.o Tryz.aQ (Nat.le_of_eq rfl) HONY.o ?_
                   intro w7 hb7 xQ)
      have IA:Hid (w7.heap[bx]?=some (.cells #[ah k7,aY nm7,bK v7,dV Ru,.slice p1 q1 r1,.slice p2 q2 r2,.slice p3 q3 r3,ah l7,ah c7] 56 (0,0))):=hb7;have Vz:=ak xQ;clear hb7 xQ;go_meet;case rel=>have s57:Step (fun q=>q=R.rb∨q=bx) w5 w7:=(OL.o.mono il).trans (Vz.o.mono ir);refine⟨[x],y,jy,2,_,[.int .i64 k5,.string nm5,.int .u64 v5,.bool Jh,.slice b1 m1 d1,.slice b2 m2 d2,.slice b3 m3 d3,.int .i64 l5,.int .i64 c5],[.int .i64 k7,.string nm7,.int .u64 v7,.bool Ru,.slice p1 q1 r1,.slice p2 q2 r2,.slice p3 q3 r3,.int .i64 l7,.int .i64 c7],IE.o,rfl,dG.single (dW.mono oi _ _ (dW.step s57 oi _ _ HX5.o)),di.new (s57.keep HG5.o om) (by simp) om,?_,IA.o,s57.keep Oo.o om,yR.o.step Vz.o oi,((Zb.o.mono (fun _ _ e=>.inr (.inl e))).trans (OL.o.mono il)).trans (Vz.o.mono (fun _ _ e=>.inr (.inr e)))⟩;exact dW.mono oi _ _ (dW.step Vz.o oi _ _ HYY.o)
  case rest=>
   obtain⟨pl,y,je,k,vp,xp,cy,tJ,hk8,hp8,XB,hy8,hx8,hb8,hrd8,hs8⟩:=hcut;obtain⟨w8,rfl⟩:=aU wc;obtain⟨k7,nm7,v7,Ru,p1,q1,r1,p2,q2,r2,p3,q3,r3,l7,c7,rfl⟩:=hy8.parts;obtain⟨av,cv,rfl,-⟩:=id XB;have HR8:=ak tJ;have HK8:=ak hk8;have HP8:=ak hp8;have HV8:=ak XB;have HY8:=ak hy8;have HX8:=ak hx8;have J9:=ak hb8;have HRD8:=ak hrd8;have HS48:=ak hs8;have hz8:=hs8.size;clear tJ hk8 hp8 XB hy8 hx8 hb8 hrd8 p0;have p0:w8.cell? ⟨w.heap.size,0,none⟩=some (.pointer (some ⟨R.rb,0,none⟩)):=hs8.cell (bY.o w4 Dp.o) (fun e=>by have e2:w.heap.size=R.rb∨w.heap.size=bt∨w.heap.size=bx:=e;omega);clear hs8;(have iH:Hid (∀(jj:Nat) v,[Value.int .i64 k7,aY nm7,bK v7,dV Ru,.slice p1 q1 r1,.slice p2 q2 r2,.slice p3 q3 r3,ah l7,ah c7][jj]?=some v→w8.cell? ⟨bx,0+jj,none⟩=some v):=by show∀jj v,_;intro jj v hv;rw[Nat.zero_add];exact aj HX8.o jj v oJ);obtain⟨w9,Rw⟩:=aU ((w8.alloc (.cells #[ah k7,aY nm7,bK v7,dV Ru,.slice p1 q1 r1,.slice p2 q2 r2,.slice p3 q3 r3,ah l7,ah c7] 56)).setCell ⟨bt,11,none⟩ (.slice (some ⟨w8.heap.size,0,none⟩) 1 1));(have wJ:Step (·=bt) w8 w9:=by rw[Rw];exact((Step.refl (·=bt) _).alloc _).setCell _ _ iI);(have YS:Hid (w9.heap[bt]?=some (.cells #[ah k,aK,ah 0,aK,aK,aO,au,au,ah 0,ah 0,.slice av pl.length cv,.slice (some ⟨w8.heap.size,0,none⟩) 1 1,au,au,aO,ah t.line,ah t.col] 111 (0,0))):=by show _=_;rw[Rw];exact aV (aN J9.o) 11 _);(have HK9:Hid (w9.heap[w8.heap.size]?=some (.cells #[ah k7,aY nm7,bK v7,dV Ru,.slice p1 q1 r1,.slice p2 q2 r2,.slice p3 q3 r3,ah l7,ah c7] 56 (0,0))):=by show _=_;rw[Rw];exact((Step.refl (·=bt) _).setCell _ _ iI).keep (aA _ _) (fun e=>by have:=aI J9.o;omega));have HS89:=ak wJ;have KZ:=aj (aN (o':=.cells #[ah k7,aY nm7,bK v7,dV Ru,.slice p1 q1 r1,.slice p2 q2 r2,.slice p3 q3 r3,ah l7,ah c7] 56) J9.o) 11 _ rfl;have K_:=aG (aN (o':=.cells #[ah k7,aY nm7,bK v7,dV Ru,.slice p1 q1 r1,.slice p2 q2 r2,.slice p3 q3 r3,ah l7,ah c7] 56) J9.o) 11;have HR9:=ak (HRD8.o.step wJ oi);have HW9:=ak Rw;have p9:w9.cell? ⟨w.heap.size,0,none⟩=some (.pointer (some ⟨R.rb,0,none⟩)):=wJ.cell p0 (fun e=>by have e2:w.heap.size=bt:=e;omega);have hz9:=wJ.size;clear wJ Rw p0;(go_upto_region 7 with(refine ay rfl 56 (.tmp 4) rfl bx 0 rfl [.int .i64 k7,.string nm7,.int .u64 v7,.bool Ru,.slice p1 q1 r1,.slice p2 q2 r2,.slice p3 q3 r3,.int .i64 l7,.int .i64 c7] _ iH.o Tryz.underlying56 rfl Tryz.aQ ?_));rw[←HW9.o];clear KZ K_;go_wp2_with fail;refine(dH R HL.o w9.heap.size ⟨#[59]⟩ _ je d (HR9.o.quiet (bJ.alloc _)) dc (aj (aA _ _) 0 _ rfl)).mono ?_;rintro e wz hp;have hp2:aJ R d iC (aH R.l je [59]) _ e wz:=hp;have HS08:Hid (Step (fun q=>q=R.rb∨q=bt) w w8):=((cZ.o.mono ir).trans Dp.o).then HS48.o oi;cases hn:aH R.l je [59]with
   |out=>exact(dw hn).elim
   |err c ln col=>rw[hn]at hp2;obtain⟨rfl,sz⟩:=hp2;refine⟨rfl,aZ.aX (c:=c) (ln:=ln) (col:=col) (by rw[HR8.o,hn];rfl) rfl ?_⟩;exact(HS08.o.trans (HS89.o.mono ir)).trans ((((Step.refl (·=R.rb) _).alloc _).trans sz).mono il)
   |ok u jz=>have Rx:=ak hn;rw[hn]at hp2;obtain⟨⟨v,rfl,rfl⟩,hrz,sz⟩:=hp2;have Ef:=ak hrz;have Zc:Hid (Step (·=R.rb) w9 wz):=((Step.refl (·=R.rb) _).alloc _).trans sz;have VA:Hid (Step (fun q=>q=R.rb∨q=bt) w8 wz):=(HS89.o.mono ir).trans (Zc.o.mono il);clear hn hrz sz p9 hp;go_wp2_with fail;refine bodyPost_end (results_none rfl _ _ _) rfl ?_;have hkk:=HK8.o;refine aZ.dK (a:=(pl,y)) (j:=jz) (by rw[HR8.o,Rx.o];rfl) rfl ⟨xp,[.int .i64 k7,.string nm7,.int .u64 v7,.bool Ru,.slice p1 q1 r1,.slice p2 q2 r2,.slice p3 q3 r3,.int .i64 l7,.int .i64 c7],.slice av pl.length cv,.slice (some ⟨w8.heap.size,0,none⟩) 1 1,?_,dG.mono (fun q _ hq=>by have:=hq.1;omega) _ _ (dG.step VA.o (fun q hq e=>by have:=hq.1;omega) _ _ HP8.o),(HV8.o.step VA.o (fun q hq e=>by have:=hq.1;omega)).mono (fun q _ hq=>by have:=hq.1;omega),dG.single (dW.mono (fun q _ hq=>by have:=hq.1;omega) _ _ (dW.step VA.o (fun q hq e=>by have:=hq.1;omega) _ _ HY8.o)),di.new (Zc.o.keep HK9.o om) dc om⟩ Ef.o (HS08.o.trans VA.o);have gu:=Zc.o.keep YS.o om;rw[hkk]at gu;exact gu
def yV (f:Nat) (l:List Tok) (i d:Nat):dO (ByteArray×List ByteArray×List St):=(aS l i).bind fun n j=>(aH l j [124]).bind fun _ j=>(if bD l j [124]then .ok [] (j+1)else nC f l j []).bind fun ns j=>(bI f l j d).bind fun b j=>.ok (n,ns,b) j
def Dq (n0 bt:Nat) (t:Tok) (w':World) (a:ByteArray×List ByteArray×List St):Prop:=∃(xb:List Value) (vn vb:Value),w'.heap[bt]?=some (.cells #[ah 17,aY a.1,bK 0,aO,au,vn,vb,ah t.line,ah t.col] 56 (0,0))∧
 a.1.size≤9223372036854775807∧(∀s∈a.2.1,s.size≤9223372036854775807)∧di w' (fun k=>n0≤k) vn a.2.1.length (a.2.1.map .string)∧iq w' (fun k=>n0≤k) a.2.2 xb∧di w' (fun k=>n0≤k) vb a.2.2.length xb
def Lc (f:Nat):Prop:=∀(R:fV) (w:World) (i d bt:Nat) (t:Tok),nK R.l→bC R w i d→d≤40→R.rb<bt→w.heap[bt]?=some (.cells #[ah 0,aK,bK 0,aO,au,au,au,ah t.line,ah t.col] 56 (0,0))→yV f R.l i d≠.out→
 Calls Tryz.prog 223 #[.agg #[dY R.rb 0],.pointer (some ⟨bt,0,none⟩)] w (aZ R d bt (Dq w.heap.size bt t) (yV f R.l i d) w)
structure wK (R:fV) (w1:World) (bt:Nat) (nm:ByteArray) (t:Tok) (d:Nat) (X:World) (i':Nat) (ns:List ByteArray) (vn:Value):Prop where
 rd:bC R X i' d
 blk:X.heap[bt]?=some (.cells #[ah 17,aY nm,bK 0,aO,au,vn,au,ah t.line,ah t.col] 56 (0,0))
 on:X.ownsRow w1.heap.size 9 1 vn ns.length (ns.map .string)
 sz:∀s∈ns,s.size≤9223372036854775807
 few:ns.length≤8
 st:Step (fun k=>k=R.rb∨k=bt) w1 X
theorem wK.read {R:fV} {w1:World} {bt:Nat} {nm:ByteArray} {t:Tok} {d:Nat} {X X':World} {i' i2:Nat} {ns:List ByteArray} {vn:Value} (h:wK R w1 bt nm t d X i' ns vn) (hrb:R.rb<bt) (hw:R.rb<w1.heap.size) (hr:bC R X' i2 d) (hs:Step (·=R.rb) X X'):wK R w1 bt nm t d X' i2 ns vn:=
 ⟨hr,hs.keep h.blk om,hs.owns h.on oi,h.sz,h.few,h.st.trans (hs.mono il)⟩
theorem wK.quiet {R:fV} {w1:World} {bt:Nat} {nm:ByteArray} {t:Tok} {d:Nat} {X X':World} {i':Nat} {ns:List ByteArray} {vn:Value} (h:wK R w1 bt nm t d X i' ns vn) (hs:Step (fun _=>False) X X'):wK R w1 bt nm t d X' i' ns vn:=
 ⟨h.rd.quiet hs,hs.keep h.blk (fun h=>h),hs.owns h.on (fun _ _ h=>h),h.sz,h.few,h.st.trans (hs.mono fe)⟩
theorem wK.push {R:fV} {w1:World} {bt:Nat} {nm:ByteArray} {t:Tok} {d:Nat} {X X2 X3:World} {i':Nat} {ns:List ByteArray} {vn v9:Value} {s:ByteArray} (h:wK R w1 bt nm t d X i' ns vn) (hrb:R.rb<bt) (hbt:bt<w1.heap.size) (h2:Step (fun _=>False) X X2) (hown:X3.ownsRow w1.heap.size 9 1 v9 (ns.length+1) (ns.map .string++[.string s])) (hgrow:X2.grownBy X3 vn.ownBlock) (hs:s.size≤9223372036854775807) (hlt:ns.length<8):wK R w1 bt nm t d (X3.setCell ⟨bt,5,none⟩ v9) i' (ns++[s]) v9:=by
 have h3:Step (fun q=>vn.ownBlock=some q) X2 X3:=bM hgrow;have h4:Step (·=bt) X3 (X3.setCell ⟨bt,5,none⟩ v9):=bJ.setCell _ _ iI;have ho:∀q,vn.ownBlock=some q→w1.heap.size≤q:=fun q hq=>(h.on.lt q hq).1;have hlen:(ns++[s]).length=ns.length+1:=by simp
 have hb3:=h3.keep (h2.keep h.blk (fun h=>h)) (fun e=>by have:=ho bt e;omega);refine⟨((h.rd.quiet h2).step h3 (fun q hq e=>by have:=ho q e;omega)).step h4 oi,aV hb3 5 v9,?_,?_,by rw[hlen];omega,?_⟩
 ·rw[hlen,List.map_append];exact ji hown h4 (fun q hq e=>by have:=(hown.lt q hq).1;omega)
 ·intro x hx;rcases List.mem_append.1 hx with hx|hx
  ·exact h.sz x hx
  ·rw[List.mem_singleton.1 hx];exact hs
 ·exact((h.st.trans (h2.mono fe)).then h3 (fun q hq e=>by have:=ho q e;omega)).trans (h4.mono ir)
structure ClJ (R:fV) (bt bp:Nat) (sv:Value) (X0:World) (L:Nat→Bool) (V:Nat→Value) (X:World):Prop where
 wx:X=X0
 no:L 7=false
 v0:L 0=true→V 0=.pointer (some ⟨bt,0,none⟩)
 v1:L 1=true→V 1=.pointer (some ⟨bt,0,none⟩)
 v2:L 2=true→V 2=.pointer (some ⟨bt,0,none⟩)
 v3:L 3=true→V 3=.pointer (some ⟨bt,5,none⟩)
 v4:L 4=true→V 4=sv
 v5:L 5=true→V 5=.pointer (some ⟨bp,0,none⟩)
 v6:L 6=true→V 6=.pointer (some ⟨R.rb,0,none⟩)
 v10:L 10=true→V 10=.pointer (some ⟨bt,0,none⟩)
 v11:L 11=true→V 11=.pointer (some ⟨bt,5,none⟩)
theorem OM (f:Nat) (ih:lD f):Lc f:=by
 intro R w i d bt t hl h hd hrb hbt hno;have HL:=ak hl;have IH:=ak ih;obtain⟨r,hr⟩:=aU (yV f R.l i d);have HRR:Hid (r=(aS R.l i).bind fun n j=>(aH R.l j [124]).bind fun _ j=>(if bD R.l j [124]then .ok [] (j+1)else nC f R.l j []).bind fun ns j=>(bI f R.l j d).bind fun b j=>.ok (n,ns,b) j):=by show _=_;rw[hr,yV]
 rw[←hr]at hno⊢;have eH:=ak hno;have KA:=aI hbt;obtain⟨w1,hw1⟩:=aU (w.alloc (.cells #[dY R.rb 0] 97));have cZ:Hid (Step (fun _=>False) w w1):=by show Step _ _ _;rw[hw1];exact bJ.alloc _
 have jL:Hid (w1.heap[w.heap.size]?=some (.cells #[dY R.rb 0] 97 (0,0))):=by show _=_;rw[hw1];exact aA _ _
 have EG:=ak (cZ.o.keep hbt (fun h=>h));have HW1:=ak hw1;have H1:=ak (h.quiet cZ.o);have hn1:=aI jL.o;have bY:Hid (∀X:World,Step (fun q=>q=R.rb∨q=bt) w1 X→X.cell? ⟨w.heap.size,0,none⟩=some (.pointer (some ⟨R.rb,0,none⟩))):=by show∀X,_;intro X hX;exact aj (hX.keep jL.o om) 0 _ rfl
 obtain⟨i0,hi0,hz0,hz1,hz2⟩:=info_parts Tryz.qf;have HI:=ak hi0;have HZ0:=ak hz0;have HZ1:=ak hz1;have HZ2:=ak hz2;have p0:=bY.o w1 bJ;clear ih hl h hno hr hw1 hbt hi0 hz0 hz1 hz2;go_enter Tryz.func223,Tryz.ntmps223;go_upto_region 1 with fail
 rw[←HW1.o];go_wp2_with fail;cases hn:aS R.l i with
 |out=>exact(iF hn).elim
 |err c ln col=>have HN:=ak hn;clear hn;refine(name_any R HL.o _ i d H1.o).mono ?_;rintro e wq hp;rw[HN.o]at hp;obtain⟨rfl,sq⟩:=hp;refine⟨rfl,aZ.aX (c:=c) (ln:=ln) (col:=col) (by rw[HRR.o,HN.o];rfl) rfl ?_⟩;exact((cZ.o.mono fe).trans sq).mono il
 |ok nm j=>
  have HN:=ak hn;have OJ:=ak (fC HL.o H1.o.lt hn);clear hn;refine(name_any R HL.o _ i d H1.o).mono ?_;rintro e w2 hp;rw[HN.o]at hp;obtain⟨⟨v,rfl,rfl⟩,hr2,s2⟩:=hp;have HR2:=ak hr2;have HS2:=ak s2;have pW:=ak (s2.keep EG.o om);have wX:Hid (r=(aH R.l j [124]).bind fun _ j=>(if bD R.l j [124]then .ok [] (j+1)else nC f R.l j []).bind fun ns j=>(bI f R.l j d).bind fun b j=>.ok (nm,ns,b) j):=by show _=_;rw[HRR.o,HN.o];rfl
  have mQ:=aj pW.o 0 _ rfl;have mV:=aG pW.o 0;have ED:=aj pW.o 1 _ rfl;have EF:=aG pW.o 1;obtain⟨w3,hw3⟩:=aU ((w2.setCell ⟨bt,0,none⟩ (.int .i64 17)).setCell ⟨bt,1,none⟩ (.string nm));have eX:Hid (Step (·=bt) w2 w3):=by show Step _ _ _;rw[hw3];exact((Step.refl (·=bt) _).setCell _ _ iI).setCell _ _ iI
  have I_:Hid (w3.heap[bt]?=some (.cells #[ah 17,aY nm,bK 0,aO,au,au,au,ah t.line,ah t.col] 56 (0,0))):=by show _=_;rw[hw3];exact aV (aV pW.o 0 (.int .i64 17)) 1 (.string nm)
  have nN:Hid (Step (fun q=>q=R.rb∨q=bt) w1 w3):=(HS2.o.mono il).trans (eX.o.mono ir);have fJ:Hid (wK R w1 bt nm t d w3 j [] (.slice none 0 0)):=⟨HR2.o.step eX.o oi,I_.o,World.ownsRow_nil _ _ _ _,nJ,by simp,nN.o⟩;clear hr2 s2 p0;go_upto_region 2 with fail
  rw[←hw3];clear hw3 mQ mV ED EF;have p0:=bY.o w3 nN.o;go_wp2_with fail;refine(dH R HL.o w3.heap.size ⟨#[124]⟩ _ j d (fJ.o.rd.quiet (bJ.alloc _)) dc (aj (aA _ _) 0 _ rfl)).mono ?_;rintro e w4 hp;have hp2:aJ R d iC (aH R.l j [124]) _ e w4:=hp;cases hn:aH R.l j [124]with
  |out=>exact(dw hn).elim
  |err c ln col=>rw[hn]at hp2;obtain⟨rfl,s4⟩:=hp2;refine⟨rfl,aZ.aX (c:=c) (ln:=ln) (col:=col) (by rw[wX.o,hn];rfl) rfl ?_⟩;exact((cZ.o.mono fe).trans fJ.o.st).trans ((((Step.refl (·=R.rb) _).alloc _).trans s4).mono il)
  |ok u j4=>
   have KG:=ak hn;rw[hn]at hp2;obtain⟨⟨v,rfl,rfl⟩,hr4,s4⟩:=hp2;have eP:=ak (fJ.o.read hrb om hr4 (((Step.refl (·=R.rb) _).alloc _).trans s4));(have rM:Hid (r=(if bD R.l j4 [124]then .ok [] (j4+1)else nC f R.l j4 []).bind fun ns j=>(bI f R.l j d).bind fun b j=>.ok (nm,ns,b) j):=by show _=_;rw[wX.o,KG.o];rfl);clear hn hr4 s4 p0 hp;have p0:=bY.o w4 eP.o.st;obtain⟨bq,hbq⟩:=aU (bD R.l j4 [124]);obtain⟨j5,Zd⟩:=aU (iL R.l j4 [124]);(have HI5:Hid (Calls Tryz.prog 110 #[.pointer (some ⟨R.rb,0,none⟩),.string ⟨#[124]⟩] w4 fun e w'=>e=.returned (.bool bq)∧bC R w' j5 d∧Step (·=R.rb) w4 w'):=by show Calls _ _ _ _ _;rw[hbq,Zd];exact rF R HL.o ⟨#[124]⟩ w4 j4 d eP.o.rd dc);have VB:=ak hbq;have HJ5:=ak Zd;clear hbq Zd;go_wp2_with fail;refine HI5.o.mono ?_;rintro e w5 ⟨rfl,Jf,h5⟩;have kY:=ak (eP.o.read hrb om Jf h5);clear Jf h5 p0;have p0:=bY.o w5 kY.o.st;(go_upto_if 20 with fail);go_cut [] (fun wx=>∃(jn:Nat) (ns:List ByteArray) (vn:Value),r=((bI f R.l jn d).bind fun b j=>.ok (nm,ns,b) j)∧wK R w1 bt nm t d wx jn ns vn);case first=>
    cases bq with
    |true=>(have hj:j5=j4+1:=by rw[HJ5.o,iL,←VB.o,if_pos rfl]);(have IE:Hid (r=((bI f R.l j5 d).bind fun b j=>.ok (nm,[],b) j)):=by show _=_;rw[rM.o,←VB.o,if_pos rfl,hj];rfl);clear hj;go_wp2_with fail;go_meet;case rel=>exact⟨j5,[],_,IE.o,kY.o⟩
    |false=>
     (have hj:j5=j4:=by rw[HJ5.o,iL,←VB.o,if_neg dc]);(have IE:Hid (r=(nC f R.l j5 []).bind fun ns j=>(bI f R.l j d).bind fun b j=>.ok (nm,ns,b) j):=by show _=_;rw[rM.o,←VB.o,if_neg dc,hj]);clear hj p0;go_wp2_with fail;go_loopg [] f (fun gg wr=>gg≤f∧∃(i':Nat) (ns:List ByteArray) (vn:Value),r=((nC gg R.l i' ns).bind fun ns j=>(bI f R.l j d).bind fun b j=>.ok (nm,ns,b) j)∧wK R w1 bt nm t d wr i' ns vn);case atStart=>exact⟨Nat.le_refl _,j5,[],_,IE.o,kY.o⟩
     case round=>
      obtain⟨hgf,i',ns,vn,hrq,hst⟩:=hrel;obtain⟨gn,rfl⟩:∃gn,gk=gn+1:=by
       cases gk with
       |zero=>exact absurd hrq (by rw[nC];exact eH.o)
       |succ gn=>exact⟨gn,rfl⟩
      (have sS:Hid (r=((d_ ns.length 8 R.l i').bind fun _ i=>(aS R.l i).bind fun n j=>if bD R.l j [44]then nC gn R.l (j+1) (ns++[n])else(aH R.l j [124]).bind fun _ j=>.ok (ns++[n]) j).bind fun ns j=>(bI f R.l j d).bind fun b j=>.ok (nm,ns,b) j):=by show _=_;rw[hrq,nC]);obtain⟨oa,oc,rfl⟩:=a_ hst.on;have HST:=ak hst;have hfew:=hst.few;have p0:=bY.o wr hst.st;have xM:=aj hst.blk 5 _ rfl;clear hrq hst;(go_upto_region 4 with fail);go_still_tail 6,kr;change wpList _ _ _ _ _ wr.drew;obtain⟨wd,hwd⟩:=aU wr.drew;(have tN:Hid (wK R w1 bt nm t d wd i' ns (.slice oa ns.length oc)):=by show wK _ _ _ _ _ _ _ _ _ _;rw[hwd];exact HST.o.quiet (bJ.drew));rw[←hwd];clear hwd p0 xM;have p0:=bY.o wd tN.o.st;have xM:=aj tN.o.blk 5 _ rfl;go_wp2_with fail;refine(lS R wd ns.length 8 i' d tN.o.rd).mono ?_;rintro e w6 hp;cases hn:d_ ns.length 8 R.l i' with
      |out=>exact(kH hn).elim
      |err c ln col=>rw[hn]at hp;obtain⟨rfl,s6⟩:=hp;refine⟨rfl,aZ.aX (c:=c) (ln:=ln) (col:=col) (by rw[sS.o,hn];rfl) rfl ?_⟩;exact((cZ.o.mono fe).trans tN.o.st).trans (s6.mono il)
      |ok u j6=>
       have hji:j6=i'∧ns.length<8:=by
        unfold d_ at hn;split at hn
        ·cases hn
        ·cases hn;exact⟨rfl,by omega⟩
       obtain⟨rfl,GH⟩:=hji;have nU:=ak hn;rw[hn]at hp;obtain⟨⟨v,rfl,rfl⟩,n_,s6⟩:=hp;have eU:=ak (tN.o.read hrb om n_ s6);(have uN:Hid (r=((aS R.l j6).bind fun n j=>if bD R.l j [44]then nC gn R.l (j+1) (ns++[n])else(aH R.l j [124]).bind fun _ j=>.ok (ns++[n]) j).bind fun ns j=>(bI f R.l j d).bind fun b j=>.ok (nm,ns,b) j):=by show _=_;rw[sS.o,nU.o];rfl);clear hn n_ s6 p0 xM;have p0:=bY.o w6 eU.o.st;have xM:=aj eU.o.blk 5 _ rfl;(go_upto_region 5 with fail);cases hn:aS R.l j6 with
       |out=>exact(iF hn).elim
       |err c ln col=>
        have HN:=ak hn;(have Dt:Hid (∀X,bC R X j6 d→Calls Tryz.prog 113 #[.pointer (some ⟨R.rb,0,none⟩)] X fun e w'=>e=.panicked [{v:=.iface 251 (.agg #[ah c,ah ln,ah col]),recovered:=false}]∧Step (·=R.rb) X w'):=by show∀X,_;intro X hX;have h9:=name_any R HL.o X j6 d hX;rw[HN.o]at h9;exact h9);(have Dj:Hid (∀wq:World,Step (·=R.rb) w6.drew wq→aZ R d bt (Dq w.heap.size bt t) r w (.panicked [{v:=.iface 251 (.agg #[ah c,ah ln,ah col]),recovered:=false}]) wq):=by show∀wq,_;intro wq hs;refine aZ.aX (c:=c) (ln:=ln) (col:=col) (by rw[uN.o,HN.o];rfl) rfl ?_;exact((cZ.o.mono fe).trans eU.o.st).trans ((((Step.refl (·=R.rb) _).drew).trans hs).mono il));clear hn;refine bH kr (ClJ R bt w.heap.size (.slice oa ns.length oc) w6.drew) 13 rfl kr kr kr kr ?h0 ?hs ?hdone;case h0=>exact⟨rfl,rfl,gJ,gJ,gJ,gJ,gJ,gJ,gJ,gJ,gJ⟩
        case hs=>
         refine⟨?_,?_,?_,?_,?_,?_,?_,?_,?_,?_,?_,?_,?_,trivial⟩
         all_goals intro L V X a ev dn hdf hL ax hJ
         ·have hwx:=hJ.wx;subst hwx;have o1:=dn 1 rfl;change a.tmps[1]?.getD undef=.pointer (some ⟨bt,0,none⟩)at o1;go_simp;exact⟨_,rfl,{hJ with no:=by rw[aB _ dc];exact hJ.no,v0:=fun _=>rfl}⟩
         ·have hwx:=hJ.wx;subst hwx;have o1:=dn 1 rfl;change a.tmps[1]?.getD undef=.pointer (some ⟨bt,0,none⟩)at o1;go_simp;exact⟨_,rfl,{hJ with no:=by rw[aB _ dc];exact hJ.no,v1:=fun _=>rfl}⟩
         ·have hwx:=hJ.wx;subst hwx;have e29:=(ev 1 29 rfl (ax 1 rfl)).trans (hJ.v1 (ax 1 rfl));go_simp;exact⟨_,rfl,{hJ with no:=by rw[aB _ dc];exact hJ.no,v2:=fun _=>rfl}⟩
         ·have hwx:=hJ.wx;subst hwx;have e30:=(ev 2 30 rfl (ax 2 rfl)).trans (hJ.v2 (ax 2 rfl));go_simp;exact⟨_,rfl,{hJ with no:=by rw[aB _ dc];exact hJ.no,v3:=fun _=>rfl}⟩
         ·have hwx:=hJ.wx;subst hwx;have e31:=(ev 3 31 rfl (ax 3 rfl)).trans (hJ.v3 (ax 3 rfl));have q5:=aj (((Step.refl (fun _=>False) w6).drew).keep eU.o.blk (fun h=>h)) 5 _ rfl;go_simp;exact⟨_,rfl,{hJ with no:=by rw[aB _ dc];exact hJ.no,v4:=fun _=>rfl}⟩
         ·have hwx:=hJ.wx;subst hwx;have o2:=dn 2 rfl;change a.tmps[2]?.getD undef=.pointer (some ⟨w.heap.size,0,none⟩)at o2;go_simp;exact⟨_,rfl,{hJ with no:=by rw[aB _ dc];exact hJ.no,v5:=fun _=>rfl}⟩
         ·have hwx:=hJ.wx;subst hwx;have e33:=(ev 5 33 rfl (ax 5 rfl)).trans (hJ.v5 (ax 5 rfl));have q0:=bY.o w6.drew (eU.o.st.trans (bJ.drew));go_simp;exact⟨_,rfl,{hJ with no:=by rw[aB _ dc];exact hJ.no,v6:=fun _=>rfl}⟩
         ·have hwx:=hJ.wx;subst hwx;have e34:=(ev 6 34 rfl (ax 6 rfl)).trans (hJ.v6 (ax 6 rfl));go_simp;refine(Dt.o _ (eU.o.rd.quiet (bJ.drew))).mono ?_;rintro e wq ⟨rfl,hs⟩;exact⟨hdf,Dj.o wq hs⟩
         ·have hwx:=hJ.wx;subst hwx;exact absurd hJ.no (by rw[ax 7 rfl];decide)
         ·have hwx:=hJ.wx;subst hwx;exact absurd hJ.no (by rw[ax 7 rfl];decide)
         ·have hwx:=hJ.wx;subst hwx;have e28:=(ev 0 28 rfl (ax 0 rfl)).trans (hJ.v0 (ax 0 rfl));go_simp;exact⟨_,rfl,{hJ with no:=by rw[aB _ dc];exact hJ.no,v10:=fun _=>rfl}⟩
         ·have hwx:=hJ.wx;subst hwx;have e38:=(ev 10 38 rfl (ax 10 rfl)).trans (hJ.v10 (ax 10 rfl));go_simp;exact⟨_,rfl,{hJ with no:=by rw[aB _ dc];exact hJ.no,v11:=fun _=>rfl}⟩
         ·have hwx:=hJ.wx;subst hwx;exact absurd hJ.no (by rw[ax 7 rfl];decide)
        case hdone=>intro L V X hall hJ;exact absurd hJ.no (by rw[hall 7 dc];decide)
       |ok s j7=>
        have HN:=ak hn;have Xz:=ak (fC HL.o eU.o.rd.lt hn);(have Dt:Hid (∀X,bC R X j6 d→Calls Tryz.prog 113 #[.pointer (some ⟨R.rb,0,none⟩)] X fun e w'=>e=.returned (.string s)∧bC R w' j7 d∧Step (·=R.rb) X w'):=by show∀X,_;intro X hX;refine(name_any R HL.o X j6 d hX).mono ?_;intro e w' hp;rw[HN.o]at hp;obtain⟨⟨v,he,hv⟩,h1,h2⟩:=hp;exact⟨by rw[he,hv],h1,h2⟩);(have EN:Hid (r=(if bD R.l j7 [44]then nC gn R.l (j7+1) (ns++[s])else(aH R.l j7 [124]).bind fun _ j=>.ok (ns++[s]) j).bind fun ns j=>(bI f R.l j d).bind fun b j=>.ok (nm,ns,b) j):=by show _=_;rw[uN.o,HN.o];rfl);clear hn;go_cut [] (fun wx=>∃v9:Value,wK R w1 bt nm t d wx j7 (ns++[s]) v9);case first=>
         first
         |(go_region_law (first
             |(refine mM _ rfl (w8.heap.size+1) (.tmp 32) (.tmp 36) 40 rfl w1.heap.size 9 i0 (.string ⟨#[]⟩) 1 16 Tryz.underlying40 HI.o HZ0.o HZ1.o HZ2.o rfl dc _ _ _ (by simp[Act.eval]) Q5.o _ 1 _ (by simp[Act.eval]) Jd.o rfl Je.o (by unfold maxLen;omega) om Q7.o ?_;intro v9 w9 gG gm nM;obtain⟨a9,c9,rfl⟩:=a_ gG;have kK:Hid (wK R w1 bt nm t d (w9.setCell ⟨bt,5,none⟩ (.slice a9 (ns.length+1) c9)) j7 (ns++[s]) (.slice a9 (ns.length+1) c9)):=jk.o.push hrb om (bJ.alloc _) gG gm Xz.o GH;have hbb:=(bM gm).keep (aN (o':=.cells #[aY s] 9) jk.o.blk) (fun e=>by have:=(jk.o.on.lt _ e).1;omega);have bt5':=aj hbb 5 _ rfl;have bz5':=aG hbb 5;clear hbb gG gm nM)
             |(go_simp;go_at_call 113;refine(Dt.o _ (eU.o.rd.quiet (bJ.drew))).mono ?_;rintro e8 w8 ⟨rfl,tJ,hs8⟩;have jk:=ak ((eU.o.quiet (bJ.drew)).read hrb om tJ hs8);have Q5:Hid ((w8.alloc (.cells #[aY s] 9)).ownsRow w1.heap.size 9 1 (.slice oa ns.length oc) ns.length (ns.map .string)):=jk.o.on.alloc _;have Jd:Hid (Row (w8.alloc (.cells #[aY s] 9)) (w8.heap.size+1) (.slice (some ⟨w8.heap.size,0,none⟩) 1 1) 1 [.string s]):=Row.new (aA _ _) dc;have Je:Hid (∀u∈[Value.string s],u.oneCell'=true):=by
                show∀u∈_,_
                intro u hu
                simp at hu
                subst hu;rfl
               have Q7:Hid (w1.heap.size≤(w8.alloc (.cells #[aY s] 9)).heap.size):=by
                show _≤_
                have:=jk.o.st.size
                simp;omega
               have bt58:=aj jk.o.blk 5 _ rfl
               have bt59:=aj (aN (o':=.cells #[aY s] 9) jk.o.blk) 5 _ rfl
               clear tJ hs8)))
         |fail
         all_goals (
          clear p0 xM
          go_wp2_with fail
          go_meet
          case rel=>exact⟨_,kK.o⟩)
        case rest=>
         obtain⟨v9,hls⟩:=hcut;obtain⟨w9,rfl⟩:=aU wc;have iD:=ak hls;clear hls p0 xM;have p0:=bY.o w9 iD.o.st;go_wp2_with fail;cases hc:bD R.l j7 [44]with
         |true=>
          have HC:=ak hc;clear hc;refine(cO R HL.o ⟨#[44]⟩ _ j7 d iD.o.rd dc HC.o).mono ?_;rintro e wa ⟨rfl,hra,sa⟩;have iZ:=ak (iD.o.read hrb om hra sa);(have ng:Hid (r=(nC gn R.l (j7+1) (ns++[s])).bind fun ns j=>(bI f R.l j d).bind fun b j=>.ok (nm,ns,b) j):=by show _=_;rw[EN.o,HC.o,if_pos rfl]);clear hra sa p0;go_wp2_with fail;go_roundg gn;case rel=>exact⟨by omega,j7+1,ns++[s],v9,ng.o,iZ.o⟩
          case measure=>omega
         |false=>
          have HC:=ak hc;clear hc;refine(dJ R HL.o ⟨#[44]⟩ _ j7 d iD.o.rd dc HC.o).mono ?_;rintro e wa ⟨rfl,hra,sa⟩;have iZ:=ak (iD.o.read hrb om hra sa);(have ng:Hid (r=((aH R.l j7 [124]).bind fun _ j=>.ok (ns++[s]) j).bind fun ns j=>(bI f R.l j d).bind fun b j=>.ok (nm,ns,b) j):=by show _=_;rw[EN.o,HC.o,if_neg dc]);clear hra sa p0;have p0:=bY.o wa iZ.o.st;go_wp2_with fail;refine(dH R HL.o wa.heap.size ⟨#[124]⟩ _ j7 d (iZ.o.rd.quiet (bJ.alloc _)) dc (aj (aA _ _) 0 _ rfl)).mono ?_;rintro e wb hp;have hp2:aJ R d iC (aH R.l j7 [124]) _ e wb:=hp;cases hn:aH R.l j7 [124]with
          |out=>exact(dw hn).elim
          |err c ln col=>rw[hn]at hp2;obtain⟨rfl,sb⟩:=hp2;refine⟨rfl,aZ.aX (c:=c) (ln:=ln) (col:=col) (by rw[ng.o,hn];rfl) rfl ?_⟩;exact((cZ.o.mono fe).trans iZ.o.st).trans ((((Step.refl (·=R.rb) _).alloc _).trans sb).mono il)
          |ok u2 j9=>have Ry:=ak hn;rw[hn]at hp2;obtain⟨⟨v,rfl,rfl⟩,tX,sb⟩:=hp2;have rJ:=ak (iZ.o.read hrb om tX (((Step.refl (·=R.rb) _).alloc _).trans sb));(have KU:Hid (r=((bI f R.l j9 d).bind fun b j=>.ok (nm,ns++[s],b) j)):=by show _=_;rw[ng.o,Ry.o];rfl);clear hn tX sb p0 hp;go_wp2_with fail;go_meet;case rel=>exact⟨j9,ns++[s],v9,KU.o,rJ.o⟩
   case rest=>
    obtain⟨jn,ns,vn,hrn,hls⟩:=hcut;obtain⟨w9,rfl⟩:=aU wc;have iD:=ak hls;have vG:=ak hrn;clear hls hrn p0;have p0:=bY.o w9 iD.o.st;go_wp2_with fail;refine(IH.o R w9 jn d HL.o iD.o.rd hd (fun e=>eH.o (by rw[vG.o,e];rfl))).mono ?_;rintro e wa hp;have hp2:aJ R d (OB w9.heap.size) (bI f R.l jn d) _ e wa:=hp;cases hn:bI f R.l jn d with
    |out=>exact absurd (by rw[vG.o,hn];rfl) eH.o
    |err c ln col=>rw[hn]at hp2;obtain⟨rfl,sa⟩:=hp2;refine⟨rfl,aZ.aX (c:=c) (ln:=ln) (col:=col) (by rw[vG.o,hn];rfl) rfl ?_⟩;exact((cZ.o.mono fe).trans iD.o.st).trans (sa.mono il)
    |ok bs ja=>have Ry:=ak hn;rw[hn]at hp2;obtain⟨⟨vb,rfl,xb,hrow,hels⟩,hra,sa⟩:=hp2;(obtain⟨ab,cb,rfl,hvb⟩:∃(ab:Option Addr) (cb:Nat),vb=.slice ab bs.length cb∧di wa (fun k=>w9.heap.size≤k) (.slice ab bs.length cb) bs.length xb:=by obtain⟨ab,cb,hv,-⟩:=id hrow;exact⟨ab,cb,hv,by rw[←hv];exact hrow⟩);have VD:=ak hvb;have HELS:=ak hels;have HRA2:=ak hra;have iZ:=ak (iD.o.read hrb om hra sa);have Gw:=ak sa;clear hn hrow hels hra sa hvb p0 hp;have bt6:=aj iZ.o.blk 6 _ rfl;have bz6:=aG iZ.o.blk 6;have iP:Hid (Step (·=bt) wa (wa.setCell ⟨bt,6,none⟩ (.slice ab bs.length cb))):=(Step.refl (·=bt) _).setCell _ _ iI;have Y7:Hid ((wa.setCell ⟨bt,6,none⟩ (.slice ab bs.length cb)).heap[bt]?=some (.cells #[ah 17,aY nm,bK 0,aO,au,vn,.slice ab bs.length cb,ah t.line,ah t.col] 56 (0,0))):=aV iZ.o.blk 6 (.slice ab bs.length cb);have h9:=iD.o.st.size;have hsa:=Gw.o.size;go_wp2_with fail;refine bodyPost_end (results_none rfl _ _ _) rfl ?_;refine aZ.dK (a:=(nm,ns,bs)) (j:=ja) (by rw[vG.o,Ry.o];rfl) rfl ⟨xb,vn,_,Y7.o,OJ.o,iD.o.sz,di.fA (ji iZ.o.on iP.o (fun q hq e=>by have:=(iZ.o.on.lt q hq).1;omega)) (fun q hq=>by have:=(iZ.o.on.lt q hq).1;have:=cZ.o.size;omega),iq.mono (fun q _ hq=>by have:=cZ.o.size;omega) _ _ (iq.step iP.o oi _ _ HELS.o),(VD.o.step iP.o oi).mono (fun q _ hq=>by have:=cZ.o.size;omega)⟩ (iZ.o.rd.step iP.o oi) ?_;exact((cZ.o.mono fe).trans iZ.o.st).trans (iP.o.mono ir)
structure wL {α:Type} (At:World→(Nat→Prop)→α→Value→Prop):Prop where
 step:∀{w w':World} {P S:Nat→Prop} (a:α) (v:Value),Step S w w'→(∀k,P k→¬S k)→At w P a v→At w' P a v
 mono:∀{w:World} {P P':Nat→Prop} (a:α) (v:Value),(∀k,k<w.heap.size→P k→P' k)→At w P a v→At w P' a v
def xR (w:World) (P:Nat→Prop) (a:Ex) (v:Value):Prop:=∃cs:List Value,v=.agg cs.toArray∧dW w P a cs
def Eg (w:World) (P:Nat→Prop) (a:Ty) (v:Value):Prop:=∃cs:List Value,v=.agg cs.toArray∧iG w P a cs
def iw (w:World) (P:Nat→Prop) (l:List Ex) (v:Value):Prop:=∃xs:List Value,di w P v l.length xs∧dG w P l xs
def gy (w:World) (P:Nat→Prop) (l:List St) (v:Value):Prop:=∃xs:List Value,di w P v l.length xs∧iq w P l xs
def cu (w:World) (P:Nat→Prop) (l:List ByteArray) (v:Value):Prop:=(∀s∈l,s.size≤9223372036854775807)∧di w P v l.length (l.map .string)
theorem Ad:wL xR:=⟨fun _ _ hs hP ⟨cs,h1,h2⟩=>⟨cs,h1,dW.step hs hP _ cs h2⟩,fun _ _ hp ⟨cs,h1,h2⟩=>⟨cs,h1,dW.mono hp _ cs h2⟩⟩
theorem nV:wL Eg:=⟨fun _ _ hs hP ⟨cs,h1,h2⟩=>⟨cs,h1,iG.step hs hP _ cs h2⟩,fun _ _ hp ⟨cs,h1,h2⟩=>⟨cs,h1,iG.mono hp _ cs h2⟩⟩
theorem jd:wL iw:=⟨fun _ _ hs hP ⟨xs,h1,h2⟩=>⟨xs,h1.step hs hP,dG.step hs hP _ xs h2⟩,fun _ _ hp ⟨xs,h1,h2⟩=>⟨xs,h1.mono hp,dG.mono hp _ xs h2⟩⟩
theorem jQ:wL gy:=⟨fun _ _ hs hP ⟨xs,h1,h2⟩=>⟨xs,h1.step hs hP,iq.step hs hP _ xs h2⟩,fun _ _ hp ⟨xs,h1,h2⟩=>⟨xs,h1.mono hp,iq.mono hp _ xs h2⟩⟩
theorem bG:wL cu:=⟨fun _ _ hs hP ⟨h1,h2⟩=>⟨h1,h2.step hs hP⟩,fun _ _ hp ⟨h1,h2⟩=>⟨h1,h2.mono hp⟩⟩
theorem di.parts {w:World} {P:Nat→Prop} {v:Value} {n:Nat} {xs:List Value} (h:di w P v n xs):∃(a:Option Addr) (c:Nat),v=.slice a n c:=by obtain⟨a,c,h,-⟩:=h;exact⟨a,c,h⟩
theorem iw.parts {w:World} {P:Nat→Prop} {l:List Ex} {v:Value} (h:iw w P l v):∃(a:Option Addr) (c:Nat),v=.slice a l.length c:=by obtain⟨_,h,-⟩:=h;exact h.parts
theorem gy.parts {w:World} {P:Nat→Prop} {l:List St} {v:Value} (h:gy w P l v):∃(a:Option Addr) (c:Nat),v=.slice a l.length c:=by obtain⟨_,h,-⟩:=h;exact h.parts
theorem iw.nil (w:World) (P:Nat→Prop):iw w P [] (.slice none 0 0):=⟨[],di.nil _ _ _,by rw[dG]⟩
theorem gy.nil (w:World) (P:Nat→Prop):gy w P [] (.slice none 0 0):=⟨[],di.nil _ _ _,by rw[iq]⟩
theorem cu.nil (w:World) (P:Nat→Prop):cu w P [] (.slice none 0 0):=⟨nJ,di.nil _ _ _⟩
theorem iw.single {w:World} {P:Nat→Prop} {x:Ex} {cs:List Value} {b t:Nat} (h:dW w P x cs) (hb:w.heap[b]?=some (.cells cs.toArray t (0,0))) (hp:P b):iw w P [x] (.slice (some ⟨b,0,none⟩) 1 1):=⟨cs,di.new hb dc hp,dG.single h⟩
theorem xR.mk {w:World} {P:Nat→Prop} {k:Int} {nm:ByteArray} {v:Int} {m:Bool} {al:List Ex} {ns:List ByteArray} {bs:List St} {l c:Int} {va vn vb:Value} (h1:nm.size≤9223372036854775807) (ha:iw w P al va) (hn:cu w P ns vn) (hb:gy w P bs vb):dW w P (.mk k nm v m al ns bs l c) [.int .i64 k,.string nm,.int .u64 v,.bool m,va,vn,vb,.int .i64 l,.int .i64 c]:=by obtain⟨xa,a1,a2⟩:=ha;obtain⟨xb,b1,b2⟩:=hb;rw[dW];exact⟨va,vn,vb,xa,xb,rfl,h1,hn.1,a2,a1,hn.2,b2,b1⟩
structure Sv (R:fV) (w1:World) (b d:Nat) (I:World→Prop) (X:World) (i:Nat) (o:Obj):Prop where
 rd:bC R X i d
 blk:X.heap[b]?=some o
 st:Step (fun q=>q=R.rb∨q=b) w1 X
 inv:I X
def fQ (R:fV) (b n:Nat) (I:World→Prop):Prop:=∀X Y,n≤X.heap.size→Step (fun q=>q=R.rb∨q=b) X Y→I X→I Y
theorem fQ.yes {R:fV} {b n:Nat}:fQ R b n (fun _=>True):=fun _ _ _ _ _=>trivial
theorem fQ.and {R:fV} {b n:Nat} {I J:World→Prop} (h:fQ R b n I) (k:fQ R b n J):fQ R b n (fun X=>I X∧J X):=fun X Y hn hs hi=>⟨h X Y hn hs hi.1,k X Y hn hs hi.2⟩
theorem fQ.at {α:Type} {At:World→(Nat→Prop)→α→Value→Prop} (hA:wL At) {R:fV} {b n:Nat} (h1:R.rb<b) (h2:b<n) (a:α) (v:Value):fQ R b n (fun X=>At X (fun q=>n≤q) a v):=
 fun X Y _ hs hi=>hA.step a v hs oi hi
section
variable {R : fV} {w1 : World} {b d : Nat} {I : World → Prop} {X X' : World} {i j : Nat} {o : Obj}
theorem Sv.quiet (h:Sv R w1 b d I X i o) (hI:fQ R b w1.heap.size I) (hs:Step (fun _=>False) X X'):Sv R w1 b d I X' i o:=
 ⟨h.rd.quiet hs,hs.keep h.blk (fun h=>h),h.st.trans (hs.mono fe),hI X X' h.st.size (hs.mono fe) h.inv⟩
theorem Sv.read (h:Sv R w1 b d I X i o) (hI:fQ R b w1.heap.size I) (hb:R.rb<b) (hr:bC R X' j d) (hs:Step (·=R.rb) X X'):Sv R w1 b d I X' j o:=
 ⟨hr,hs.keep h.blk om,h.st.trans (hs.mono il),hI X X' h.st.size (hs.mono il) h.inv⟩
theorem Sv.write (h:Sv R w1 b d I X i o) (hI:fQ R b w1.heap.size I) {o':Obj} (hr:bC R X' j d) (hb:X'.heap[b]?=some o') (hs:Step (fun q=>q=R.rb∨q=b) X X'):Sv R w1 b d I X' j o':=
 ⟨hr,hb,h.st.trans hs,hI X X' h.st.size hs h.inv⟩
theorem Sv.set {cs:Array Value} {t:Nat} (h:Sv R w1 b d I X i (.cells cs t (0,0))) (hI:fQ R b w1.heap.size I) (hb:R.rb<b) (k:Nat) (v:Value):Sv R w1 b d I (X.setCell ⟨b,k,none⟩ v) i (.cells (cs.setIfInBounds k v) t (0,0)):=by have hs:Step (·=b) X (X.setCell ⟨b,k,none⟩ v):=(Step.refl (·=b) _).setCell _ _ iI;have hs2:Step (fun q=>q=R.rb∨q=b) X (X.setCell ⟨b,k,none⟩ v):=hs.mono ir;exact⟨h.rd.step hs oi,aV h.blk k v,h.st.trans hs2,hI _ _ h.st.size hs2 h.inv⟩
theorem Sv.err (h:Sv R w1 b d I X i o) (hs:Step (·=R.rb) X X'):Step (fun q=>q=R.rb∨q=b) w1 X':=h.st.trans (hs.mono il)
theorem Sv.got {α:Type} {At:World→(Nat→Prop)→α→Value→Prop} (hA:wL At) {a:α} {v:Value} (h:Sv R w1 b d I X i o) (hI:fQ R b w1.heap.size I) (hb:R.rb<b) (hbw:b<w1.heap.size) (hr:bC R X' j d) (hs:Step (·=R.rb) X X') (ha:At X' (fun k=>X.heap.size≤k) a v):∃I',fQ R b w1.heap.size I'∧(∀Y,I' Y→I Y∧At Y (fun k=>w1.heap.size≤k) a v)∧Sv R w1 b d I' X' j o:=by have h2:=h.read hI hb hr hs;refine⟨_,hI.and (fQ.at hA hb hbw a v),fun _ h=>h,h2.rd,h2.blk,h2.st,h2.inv,hA.mono a v (fun k _ hk=> ?_) ha⟩;have:=h.st.size;omega
theorem Sv.keep (h:Sv R w1 b d I X i o) (hI:fQ R b w1.heap.size I) {J:World→Prop} (hJ:fQ R b w1.heap.size J) (hj:J X):∃I',fQ R b w1.heap.size I'∧(∀Y,I' Y→I Y∧J Y)∧Sv R w1 b d I' X i o:=
 ⟨_,hI.and hJ,fun _ h=>h,h.rd,h.blk,h.st,h.inv,hj⟩
end
theorem aJ.aX {α:Type} {R:fV} {d:Nat} {At:World→α→Value→Prop} {r:dO α} {w w':World} {e:Ending} {c ln col:Nat} (hr:r=.err c ln col) (he:e=.panicked [{v:=.iface 251 (.agg #[ah c,ah ln,ah col]),recovered:=false}]) (hs:Step (·=R.rb) w w'):aJ R d At r w e w':=by rw[hr];exact⟨he,hs⟩
theorem aJ.dK {α:Type} {R:fV} {d:Nat} {At:World→α→Value→Prop} {r:dO α} {w w':World} {e:Ending} {a:α} {j:Nat} {v:Value} (hr:r=.ok a j) (he:e=.returned v) (hv:At w' a v) (h:bC R w' j d) (hs:Step (·=R.rb) w w'):aJ R d At r w e w':=by rw[hr];exact⟨⟨v,he,hv⟩,h,hs⟩
theorem aP {cs:List Value} (h:(cs.all fun u=>u.oneCell')=true):∀u∈cs,u.oneCell'=true:=by simpa using h
theorem Sv.Rz {R:fV} {w1:World} {b d:Nat} {I:World→Prop} {X:World} {i:Nat} {o:Obj} {x:Ex} {cs:List Value} {t:Nat} (h:Sv R w1 b d I X i o) (hI:fQ R b w1.heap.size I) (h1:R.rb<b) (h2:b<w1.heap.size) (hx:∀Y,I Y→xR Y (fun q=>w1.heap.size≤q) x (.agg cs.toArray)):∃I',fQ R b w1.heap.size I'∧(∀Y,I' Y→I Y∧iw Y (fun q=>w1.heap.size≤q) [x] (.slice (some ⟨X.heap.size,0,none⟩) 1 1))∧Sv R w1 b d I' (X.alloc (.cells cs.toArray t)) i o:=by
 have hq:=h.quiet hI ((Step.refl (fun _=>False) X).alloc (.cells cs.toArray t));refine hq.keep hI (fQ.at jd h1 h2 _ _) ?_;obtain⟨cs',e,h3⟩:=hx _ hq.inv;obtain rfl:cs=cs':=by simpa using e
 exact iw.single h3 (aA _ _) h.st.size
theorem dO.bind_assoc {α β γ:Type} (r:dO α) (f:α→Nat→dO β) (g:β→Nat→dO γ):(r.bind f).bind g=r.bind fun a i=>(f a i).bind g:=by cases r<;>rfl
theorem OO {β:Type} (f:Nat) (l:List Tok) (i d:Nat) (g:ByteArray→List ByteArray→List St→Nat→dO β):((aS l i).bind fun n j=>(aH l j [124]).bind fun _ j=>(if bD l j [124]then .ok [] (j+1)else nC f l j []).bind fun ns j=>(bI f l j d).bind fun b j=>g n ns b j)=(yV f l i d).bind fun p j=>g p.1 p.2.1 p.2.2 j:=by unfold yV;simp only[dO.bind_assoc,dO.bind_ok]
abbrev Er:=Int×Int×Int
def ErC (e:Er):List Value:=[.int .i64 e.1,.int .i64 e.2.1,.int .i64 e.2.2]
def Ld (l:List Er):List Value:=l.flatMap ErC
def Out (cb:Nat) (v:Value) (w:World):Nat→Prop:=fun k=>k<w.heap.size∧k≠cb∧v.ownBlock≠some k
structure Mv (cb:Nat) (w:World) (v:Value) (w':World) (v':Value):Prop where
 st:Step (fun k=>k=cb∨v.ownBlock=some k) w w'
 nw:v'.ownBlock=v.ownBlock∨∀q,v'.ownBlock=some q→w.heap.size≤q
theorem Out.off {cb:Nat} {v:Value} {w:World} {k:Nat} (h:Out cb v w k):¬(k=cb∨v.ownBlock=some k):=fun e=>e.elim h.2.1 h.2.2
theorem Mv.refl (cb:Nat) (w:World) (v:Value):Mv cb w v w v:=⟨Step.refl _ _,.inl rfl⟩
theorem Mv.quiet {cb:Nat} {w w':World} {v:Value} (h:Step (fun _=>False) w w'):Mv cb w v w' v:=⟨h.mono fun _ _ h=>h.elim,.inl rfl⟩
theorem Mv.trans {cb:Nat} {a b c:World} {v v1 v2:Value} (h1:Mv cb a v b v1) (h2:Mv cb b v1 c v2):Mv cb a v c v2 where
 st:=h1.st.then h2.st (fun i hi e=>by
  rcases e with rfl|e
  ·
   exact .inl rfl
  ·
   rcases h1.nw with h|h
   ·
    exact .inr (h▸e)
   ·
    have:=h i e;omega)
 nw:=by
  rcases h2.nw with h|h
  ·
   rw[h];exact h1.nw
  ·
   exact .inr fun q hq=>Nat.le_trans h1.st.size (h q hq)
theorem Mv.then {cb:Nat} {a b c:World} {v v1:Value} (h1:Mv cb a v b v1) (h2:Step (fun _=>False) b c):Mv cb a v c v1:=h1.trans (Mv.quiet h2)
theorem Mv.out {cb:Nat} {w w':World} {v v':Value} (h:Mv cb w v w' v') {k:Nat} (hk:Out cb v w k):Out cb v' w' k:=
 ⟨Nat.lt_of_lt_of_le hk.1 h.st.size,hk.2.1,fun e=>by
  rcases h.nw with h1|h1
  ·
   exact hk.2.2 (h1▸e)
  ·
   have:=h1 k e;have:=hk.1;omega⟩
theorem wL.mv {α:Type} {At:World→(Nat→Prop)→α→Value→Prop} (hA:wL At) {cb:Nat} {w w':World} {v v' u:Value} {a:α} (h:Mv cb w v w' v') (hx:At w (Out cb v w) a u):At w' (Out cb v' w') a u:=
 hA.mono _ _ (fun _ _ hk=>h.out hk) (hA.step _ _ h.st (fun _ hk e=>hk.off e) hx)
theorem Mv.keep {cb b:Nat} {w w':World} {v v':Value} {o:Obj} (h:Mv cb w v w' v') (hb:w.heap[b]?=some o) (ho:Out cb v w b):w'.heap[b]?=some o:=h.st.keep hb ho.off
structure RD (TA:World→(Nat→Prop)→Prop):Prop where
 step:∀{w w':World} {P S:Nat→Prop},Step S w w'→(∀k,P k→¬S k)→TA w P→TA w' P
 mono:∀{w:World} {P P':Nat→Prop},(∀k,k<w.heap.size→P k→P' k)→TA w P→TA w P'
structure lm (cb:Nat) (u:Value) (TA:World→(Nat→Prop)→Prop) (w:World) (v:Value) (es:List Er):Prop where
 blk:w.heap[cb]?=some (.cells #[u,v] 130 (0,0))
 own:w.ownsRow (cb+1) 27 3 v es.length (Ld es)
 tab:TA w (Out cb v w)
 ok:RD TA
theorem RD.mv {TA:World→(Nat→Prop)→Prop} (hA:RD TA) {cb:Nat} {w w':World} {v v':Value} (h:Mv cb w v w' v') (hx:TA w (Out cb v w)):TA w' (Out cb v' w'):=
 hA.mono (fun _ _ hk=>h.out hk) (hA.step h.st (fun _ hk e=>hk.off e) hx)
section
variable {cb : Nat} {u : Value} {TA : World → (Nat → Prop) → Prop} {w w' : World} {v : Value} {es : List Er}
theorem lm.quiet (h:lm cb u TA w v es) (hs:Step (fun _=>False) w w'):lm cb u TA w' v es:=
 ⟨hs.keep h.blk (fun h=>h),hs.owns h.own (fun _ _ h=>h),h.ok.mv (Mv.quiet hs) h.tab,h.ok⟩
theorem lm.new (h:lm cb u TA w v es) {k:Nat} (h1:w.heap.size≤k) (h2:k<w'.heap.size):Out cb v w' k:=by have h3:=aI h.blk;refine⟨h2,by omega,fun e=> ?_⟩;have:=(h.own.lt k e).2;omega
end
theorem Tryz.VE:(Tryz.prog.info? 27).map (fun i=>(i.zero,i.size,i.bytes))=some (some (.agg #[ah 0,ah 0,ah 0]),3,24):=by kernel_rfl
def lK (cb:Nat) (u:Value) (TA:World→(Nat→Prop)→Prop) (w:World) (v:Value) (es:List Er) (e:Ending) (w':World):Prop:=
 e=.returned (.tuple #[])∧∃v',lm cb u TA w' v' es∧Mv cb w v w' v'
theorem eu (cb:Nat) (u:Value) (TA:World→(Nat→Prop)→Prop) (c ln cl:Int) (es:List Er) (v:Value) (w:World) (h:lm cb u TA w v es) (hl:es.length≤1000000000):Calls Tryz.prog 97 #[.pointer (some ⟨cb,0,none⟩),.int .i64 c,.agg #[ah ln,ah cl]] w (lK cb u TA w v (es++[(c,ln,cl)])):=by
 have H:=ak h;obtain⟨ao,co,rfl⟩:=a_ h.own;obtain⟨i0,hi0,hz0,hz1,hz2⟩:=info_parts Tryz.VE;have HI:=ak hi0;have HZ0:=ak hz0;have HZ1:=ak hz1;have HZ2:=ak hz2;obtain⟨w1,hw1⟩:=aU (w.alloc (.cells #[ah ln,ah cl] 25));have HST:Hid (Step (fun _=>False) w w1):=by show Step _ _ _;rw[hw1];exact bJ.alloc _
 have HB1:Hid (w1.heap[w.heap.size]?=some (.cells #[ah ln,ah cl] 25 (0,0))):=by show _=_;rw[hw1];exact aA w _
 have HW1:=ak hw1;have oM:=ak (h.quiet HST.o);clear h hi0 hz0 hz1 hz2 hw1;go_enter Tryz.func97,Tryz.ntmps97;go_upto_region 1 with fail
 rw[←HW1.o];have d0:=aj HB1.o 0 _ rfl;have d1:=aj HB1.o 1 _ rfl;have f1:=aj oM.o.blk 1 _ rfl;have f1A:=dQ (o:=.cells #[ah c,ah ln,ah cl] 27) f1;have STA:Hid (Step (fun _=>False) w1 (w1.alloc (.cells #[ah c,ah ln,ah cl] 27)).drew):=(bJ.alloc _).drew;have XC:=ak (oM.o.quiet STA.o);have hcb:=aI XC.o.blk;have HRW:Hid (Row (w1.alloc (.cells #[ah c,ah ln,ah cl] 27)).drew (w1.heap.size+1) (.slice (some ⟨w1.heap.size,0,none⟩) 1 1) 1 [.int .i64 c,.int .i64 ln,.int .i64 cl]):=Row.new (cs:=[.int .i64 c,.int .i64 ln,.int .i64 cl]) (og (aA _ _)) dc;first
 |(go_region_law (first
     |(refine mM _ rfl (w1.heap.size+1) (.tmp 10) (.tmp 14) 61 rfl (cb+1) 27 i0 (.agg #[ah 0,ah 0,ah 0]) 3 24 Tryz.underlying61 HI.o HZ0.o HZ1.o HZ2.o rfl dc _ _ _ (by simp[Act.eval]) XC.o.own _ 1 _ (by simp[Act.eval]) HRW.o rfl (aP rfl) (by unfold maxLen;omega) om om ?_;intro v6 w6 hown hgrow hat;obtain⟨oa6,oc6,rfl⟩:=a_ hown;have VF:w6.heap[cb]?=some (.cells #[u,.slice ao es.length co] 130 (0,0)):=xA hgrow XC.o.blk (fun k hk e=>by have:=(XC.o.own.lt k hk).1;omega);have c16:=aj VF 1 _ rfl;have d16:=aG VF 1;have HAB6:=ak VF;have HOWN6:=ak hown;have Ze:=ak hgrow;have HAT6:Hid (Value.ownBlock (.slice oa6 (es.length+1) oc6)=(Value.slice ao es.length co).ownBlock∨Value.ownBlock (.slice oa6 (es.length+1) oc6)=some ((w1.alloc (.cells #[ah c,ah ln,ah cl] 27)).drew).heap.size):=hat;clear VF hown hgrow hat)))
 |fail
 all_goals (
  refine bodyPost_ret (results_none rfl _ _ _) rfl ?_
  have e1:Step (fun q=>q=cb∨(Value.slice ao es.length co).ownBlock=some q) w w6:=((HST.o.trans STA.o).mono fe).trans ((bM Ze.o).mono (fun _ _ h=>.inr h))
  have hm:Mv cb w (.slice ao es.length co) (w6.setCell ⟨cb,1,none⟩ (.slice oa6 (es.length+1) oc6)) (.slice oa6 (es.length+1) oc6):=by
   refine⟨e1.setCell _ _ (fun _=>.inl rfl),?_⟩
   rcases HAT6.o with h|h
   ·
    exact .inl h
   ·
    refine .inr (fun q hq=> ?_)
    rw[h]at hq
    cases hq
    exact(HST.o.trans STA.o).size
  refine⟨rfl,_,⟨aV HAB6.o 1 _,?_,H.o.ok.mv hm H.o.tab,H.o.ok⟩,hm⟩
  have hec:Ld (es++[(c,ln,cl)])=Ld es++[.int .i64 c,.int .i64 ln,.int .i64 cl]:=by simp[Ld,ErC]
  rw[List.length_append,hec]
  exact ownsRow_setCell_below HOWN6.o (a:=⟨cb,1,none⟩) (Nat.lt_succ_self _) _)
structure Sc where
 aF:List ByteArray
 types:List ByteArray
 ig:Bool
def Qo (w:World) (P:Nat→Prop) (s:Sc) (x:Value):Prop:=∃(a1:Option Addr) (c1:Nat) (a2:Option Addr) (c2:Nat),x=.agg #[.slice a1 s.aF.length c1,.slice a2 s.types.length c2,dV s.ig]∧cu w P s.aF (.slice a1 s.aF.length c1)∧cu w P s.types (.slice a2 s.types.length c2)
theorem jB:wL Qo:=⟨fun _ _ hs hP ⟨a1,c1,a2,c2,h,h1,h2⟩=>⟨a1,c1,a2,c2,h,bG.step _ _ hs hP h1,bG.step _ _ hs hP h2⟩,fun _ _ hp ⟨a1,c1,a2,c2,h,h1,h2⟩=>⟨a1,c1,a2,c2,h,bG.mono _ _ hp h1,bG.mono _ _ hp h2⟩⟩
def stat:ByteArray:=⟨#[39,115,116,97,116,105,99]⟩
def jV (ls:List ByteArray) (x:ByteArray) (ln cl:Int):List Er:=if eqS x stat||ls.any (eqS x)then[]else[(8,ln,cl)]
theorem OQ (ls:List ByteArray) (x:ByteArray) (ln cl:Int):(jV ls x ln cl).length≤1:=by unfold jV;split<;>simp
theorem pM (cb:Nat) (u:Value) (TA:World→(Nat→Prop)→Prop) (x:ByteArray) (s:Sc) (us:Value) (ln cl:Int) (es:List Er) (v:Value) (w:World) (h:lm cb u TA w v es) (hs:Qo w (Out cb v w) s us) (hl:es.length≤1000000000):Calls Tryz.prog 117 #[.pointer (some ⟨cb,0,none⟩),.string x,us,.agg #[ah ln,ah cl]] w (lK cb u TA w v (es++jV s.aF x ln cl)):=by
 obtain⟨a1,c1,a2,c2,rfl,hs1,hs2⟩:=hs;obtain⟨w1,hw1⟩:=aU ((w.alloc (.cells #[.slice a1 s.aF.length c1,.slice a2 s.types.length c2,dV s.ig] 138)).alloc (.cells #[ah ln,ah cl] 25));have HST:Hid (Step (fun _=>False) w w1):=by show Step _ _ _;rw[hw1];exact(bJ.alloc _).alloc _
 have HB0:Hid (w1.heap[w.heap.size]?=some (.cells #[.slice a1 s.aF.length c1,.slice a2 s.types.length c2,dV s.ig] 138 (0,0))):=by show _=_;rw[hw1];exact aN (aA _ _)
 have HB1:Hid (w1.heap[w.heap.size+1]?=some (.cells #[ah ln,ah cl] 25 (0,0))):=by show _=_;rw[hw1];exact dX _ _ _
 have HW1:=ak hw1;have oM:=ak (h.quiet HST.o);have HN:Hid (Calls Tryz.prog 104 #[.slice a1 s.aF.length c1,.string x] w1 fun e w'=>e=.returned (.bool (s.aF.any (eqS x)))∧Step (fun _=>False) w1 w'):=jM _ x _ _ _ (hs1.2.step HST.o (fun _ _ h=>h));clear h hw1 hs1 hs2;obtain⟨E,hE⟩:=aU (jV s.aF x ln cl);rw[←hE];have HE:Hid (E=if eqS x stat||s.aF.any (eqS x)then[]else[(8,ln,cl)]):=hE;obtain⟨bc,hbc⟩:=aU (s.aF.any (eqS x));rw[←hbc]at HE HN;clear hE hbc;go_enter Tryz.func117,Tryz.ntmps117;go_upto_region 1 with fail
 rw[←HW1.o];have d0:=aj HB0.o 0 _ rfl;cases hp:(x.toList==[39,115,116,97,116,105,99])with
 |true=>
  have HE2:Hid (E=[]):=by show _=_;rw[HE.o,show eqS x stat=true from rH hp];rfl
  go_wp2_with fail;refine bodyPost_ret (results_none rfl _ _ _) rfl ?_;exact⟨rfl,v,by rw[HE2.o,List.append_nil];exact oM.o,Mv.quiet HST.o⟩
 |false=>
  have HE2:Hid (E=if bc then[]else[(8,ln,cl)]):=by show _=_;rw[HE.o,show eqS x stat=false from rH hp,Bool.false_or]
  go_wp2_with fail;refine HN.o.mono ?_;rintro e w2 ⟨rfl,h2⟩;have HC2:=ak (oM.o.quiet h2);have ou:=ak (HST.o.trans h2);have d1:=h2.keep HB1.o (fun h=>h);have e0:=aj d1 0 _ rfl;have e1:=aj d1 1 _ rfl;clear h2 d1 d0;cases bc with
  |true=>go_wp2_with fail;refine bodyPost_ret (results_none rfl _ _ _) rfl ?_;exact⟨rfl,v,by simpa[HE2.o]using HC2.o,Mv.quiet ou.o⟩
  |false=>go_wp2_with fail;refine(eu cb u TA 8 ln cl es v _ HC2.o hl).mono ?_;rintro e w3 ⟨rfl,v3,h3,h4⟩;have rO:=ak h3;have oV:=ak ((Mv.quiet ou.o).trans h4);clear h3 h4;go_wp2_with fail;refine bodyPost_ret (results_none rfl _ _ _) rfl ?_;exact⟨rfl,v3,by simpa[HE2.o]using rO.o,oV.o⟩
theorem dB {a b c:List Er} {n:Nat} (h:a++b=c) (hc:c.length≤n):a.length≤n:=by have:=congrArg List.length h;simp at this;omega
theorem fE {a x b c:List Er} (h:a++(x++b)=c):(a++x)++b=c:=by rw[List.append_assoc];exact h
def r_ (ln cl:Int):List ByteArray→List ByteArray→List Er
 |_,[]=>[]
 |d,x::r=>(if eqS x stat||d.any (eqS x)then[(4,ln,cl)]else[])++r_ ln cl (d++[x]) r
theorem VG {ln cl:Int} {l:List ByteArray} {k:Nat} {x:ByteArray} (h:l[k]?=some x):r_ ln cl (l.take k) (l.drop k)=(if eqS x stat||(l.take k).any (eqS x)then[(4,ln,cl)]else[])++r_ ln cl (l.take (k+1)) (l.drop (k+1)):=by obtain⟨hk,rfl⟩:=List.getElem?_eq_some_iff.1 h;rw[List.drop_eq_getElem_cons hk,r_,List.take_succ_eq_append_getElem hk]
theorem xU (cb:Nat) (u:Value) (TA:World→(Nat→Prop)→Prop) (l:List ByteArray) (vl:Value) (ln cl:Int) (es:List Er) (v:Value) (w:World) (h:lm cb u TA w v es) (hn:cu w (Out cb v w) l vl) (hl:(es++r_ ln cl [] l).length≤1000000000):Calls Tryz.prog 148 #[.pointer (some ⟨cb,0,none⟩),.agg #[ah ln,ah cl],vl] w (lK cb u TA w v (es++r_ ln cl [] l)):=by
 obtain⟨a1,c1,rfl⟩:=hn.2.parts;obtain⟨w1,hw1⟩:=aU (w.alloc (.cells #[ah ln,ah cl] 25));have HST:Hid (Step (fun _=>False) w w1):=by show Step _ _ _;rw[hw1];exact bJ.alloc _
 have HB1:Hid (w1.heap[w.heap.size]?=some (.cells #[ah ln,ah cl] 25 (0,0))):=by show _=_;rw[hw1];exact aA _ _
 have HW1:=ak hw1;have oM:=ak (h.quiet HST.o);have HN:=ak (bG.mv (Mv.quiet HST.o) hn);have HO:=ak (h.new (k:=w.heap.size) (Nat.le_refl _) (aI HB1.o));obtain⟨tot,ht⟩:=aU (es++r_ ln cl [] l);rw[←ht]at hl⊢;have HT:=ak ht;clear h hw1 hn ht;go_enter Tryz.func148,Tryz.ntmps148;go_upto_region 1 with fail
 rw[←HW1.o];go_wp2_with fail;go_loopg [6,7,10] l.length (fun gg _ _ s10 wr=>∃(k:Nat) (cur:List Er) (v1:Value),s10=.int .i64 k∧k≤l.length∧l.length-k≤gg∧lm cb u TA wr v1 cur∧Mv cb w1 v wr v1∧cur++r_ ln cl (l.take k) (l.drop k)=tot);case atStart=>exact⟨0,es,v,rfl,Nat.zero_le _,by omega,oM.o,Mv.refl _ _ _,HT.o.symm⟩
 case round=>
  obtain⟨k,cur,v1,rfl,hk,hgg,hc,hm,he⟩:=hrel;have HC:=ak hc;have HM:=ak hm;have HE:=ak he;clear hc hm he;by_cases hlt:k<l.length
  ·obtain⟨x,hx⟩:∃x,l[k]?=some x:=⟨l[k],List.getElem?_eq_getElem hlt⟩;have hn:=bG.mv HM.o HN.o;obtain⟨a',c',hva,hcl,hcm,-,hra⟩:=hn.2;(obtain⟨rfl,rfl⟩:a1=a'∧c1=c':=by cases hva;exact⟨rfl,rfl⟩);obtain⟨g,o,rfl,hg,hgw,hcell⟩:=hra om;have f0:=hcell k _ (qU l k x hx);have J7:Hid (Calls Tryz.prog 104 #[.slice (some ⟨g,o,none⟩) k c1,.string x] wr fun e w'=>e=.returned (.bool ((l.take k).any (eqS x)))∧Step (fun _=>False) wr w'):=by
    refine jM (Out cb v1 wr) x _ _ _ ?_;rw[List.length_take,Nat.min_eq_left hk];refine⟨_,c1,rfl,by omega,by omega,gJ,fun _=>⟨g,o,rfl,hg,hgw,fun i y hy=>hcell i y ?_⟩⟩;rw[List.map_take,List.getElem?_take]at hy;split at hy
    ·exact hy
    ·cases hy
   have HX:=ak (VG (ln:=ln) (cl:=cl) hx);have d1:=ak (HM.o.keep HB1.o HO.o);obtain⟨bc,hbc⟩:=aU ((l.take k).any (eqS x));rw[←hbc]at HX J7;(have hkc:k≤c1:=by omega);(have hlb:l.length≤9223372036854775807:=by omega);(have Zf:(k:Int)≤(c1:Int):=by omega);clear hcell hx hn hva hcl hra hbc hg hgw;(have Zg:Hid (∀(w':World) (v':Value) (E:List Er),(if eqS x stat||bc then[((4:Int),ln,cl)]else[])=E→lm cb u TA w' v' (cur++E)→Mv cb w1 v w' v'→(cur++E)++r_ ln cl (l.take (k+1)) (l.drop (k+1))=tot):=by intro w' v' E hE _ _;rw[←hE,List.append_assoc,←HX.o];exact HE.o);cases hp:(x.toList==[39,115,116,97,116,105,99])with
   |true=>
    have HP:Hid (eqS x stat=true):=rH hp;have e0:=aj d1.out 0 _ rfl;have e1:=aj d1.out 1 _ rfl;go_wp2_with fail;refine(eu cb u TA 4 ln cl cur v1 _ HC.o (dB HE.o hl)).mono ?_;rintro e w3 ⟨rfl,v3,h3,h4⟩;have rO:=ak h3;have oV:=ak (HM.o.trans h4);clear h3 h4 e0 e1;go_wp2_with fail;go_roundg (gk-1);case rel=>exact⟨k+1,_,v3,by go_num,hlt,by rw[←Nat.sub_sub];exact Nat.sub_le_sub_right hgg 1,rO.o,oV.o,Zg.o _ _ _ (by rw[HP.o];rfl) rO.o oV.o⟩
    case measure=>omega
   |false=>
    have HP:Hid (eqS x stat=false):=rH hp;go_wp2_with fail;refine J7.o.mono ?_;rintro e w2 ⟨rfl,h2⟩;have HC2:=ak (HC.o.quiet h2);have qV:=ak (HM.o.then h2);have d2:=h2.keep d1.out (fun h=>h);have e0:=aj d2 0 _ rfl;have e1:=aj d2 1 _ rfl;clear h2 d2;cases bc with
    |true=>
     go_wp2_with fail;refine(eu cb u TA 4 ln cl cur v1 _ HC2.o (dB HE.o hl)).mono ?_;rintro e w3 ⟨rfl,v3,h3,h4⟩;have rO:=ak h3;have oV:=ak (qV.o.trans h4);clear h3 h4 e0 e1;go_wp2_with fail;go_roundg (gk-1);case rel=>exact⟨k+1,_,v3,by go_num,hlt,by rw[←Nat.sub_sub];exact Nat.sub_le_sub_right hgg 1,rO.o,oV.o,Zg.o _ _ _ (by rw[HP.o];rfl) rO.o oV.o⟩
     case measure=>omega
    |false=>
     go_wp2_with fail;go_roundg (gk-1);case rel=>exact⟨k+1,cur,v1,by go_num,hlt,by rw[←Nat.sub_sub];exact Nat.sub_le_sub_right hgg 1,HC2.o,qV.o,by simpa using Zg.o w2 v1 [] (by rw[HP.o];rfl) (by simpa using HC2.o) qV.o⟩
     case measure=>omega
  ·(have hk2:k=l.length:=by omega);(have Bo:Hid (cur=tot):=by show _=_;have:=HE.o;rw[hk2,List.drop_length,r_,List.append_nil]at this;exact this);go_wp2_with fail;refine bodyPost_ret (results_none rfl _ _ _) rfl ?_;exact⟨rfl,v1,Bo.o▸HC.o,(Mv.quiet HST.o).trans HM.o⟩
end Go.Proofs.YtppekkbaoimpgaaGreat
