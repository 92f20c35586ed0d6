import Derived.Test.YtppekkbaoimpgaaGreatPkE
set_option maxRecDepth 100000
set_option maxHeartbeats 80000000
namespace Go.Proofs.YtppekkbaoimpgaaGreat
open Go.RowKit
open Vt
def SetLeft (n0 bt:Nat) (t:Tok) (w':World) (a:List Ex×Ex):Prop:=∃(xp xe:List Value) (vp ve:Value),w'.heap[bt]?=some (.cells #[ak (if a.1.length=0 then 3 else 2),aO,ak 0,aO,aO,aT,ay,ay,ak 0,ak 0,vp,ve,ay,ay,aT,ak t.line,ak t.col] 111 (0,0))∧
 dM w' (fun k=>n0≤k) a.1 xp∧cu w' (fun k=>n0≤k) vp a.1.length xp∧dM w' (fun k=>n0≤k) [a.2] xe∧cu w' (fun k=>n0≤k) ve 1 xe
def QJ (f:Nat):Prop:=∀(R:gJ) (w:World) (i d bt:Nat) (t:Tok),oZ R.l→bI R w i d→d≤40→R.rb<bt→w.heap[bt]?=some (.cells #[ak 0,aO,ak 0,aO,aO,aT,ay,ay,ak 0,ak 0,ay,ay,ay,ay,aT,ak t.line,ak t.col] 111 (0,0))→CW f R.l i d≠.out→
 Calls Tryz.prog 207 #[.agg #[eU R.rb 0],.pointer (some ⟨bt,0,none⟩)] w (bg R d bt (SetLeft w.heap.size bt t) (CW f R.l i d) w)
structure SetJ (bt:Nat) (w4:World) (t:Tok) (xc:List Value) (L:Nat→Bool) (V:Nat→Value) (X:World):Prop where
 iK:∀(i:Nat) v,[some (Value.pointer (some ⟨bt,0,none⟩)),some (.pointer (some ⟨bt,0,none⟩)),some (.agg xc.toArray),none,some (.pointer (some ⟨bt,0,none⟩)),some (.pointer (some ⟨bt,0,none⟩)),none,some (.pointer (some ⟨bt,0,none⟩)),some (.pointer (some ⟨bt,10,none⟩)),none][i]?=some (some v)→L i=true→V i=v
 s3:L 3=true→∃g:Nat,V 3=.slice (some ⟨g,0,none⟩) 1 1∧w4.heap.size≤g∧X.heap[g]?=some (.cells xc.toArray 56 (0,0))
 st:Step (·=bt) w4 X
 blk:X.heap[bt]?=some (.cells #[ak (if L 6=true then 2 else 3),aO,ak 0,aO,aO,aT,ay,ay,ak 0,ak 0,(if L 9=true then V 3 else ay),ay,ay,ay,aT,ak t.line,ak t.col] 111 (0,0))
 q9:L 9=true→L 3=true
theorem VG (f:Nat) (ih:oC f):QJ (f+1):=by
 intro R w i d bt t hl h hd hrb hbt hno;have HL:=au hl;have HEX:Hid (∀X j,bI R X j d→bG f R.l j d 0≠.out→Calls Tryz.prog 77 #[.agg #[eU R.rb 0]] X (aJ R d (OZ X.heap.size) (bG f R.l j d 0) X)):=fun X j hX hn=>nJ f ih R X j d hl hX hd hn;obtain⟨r,hr⟩:=aN (CW (f+1) R.l i d);have HRR:Hid (r=(bG f R.l i d 0).bind fun x j=>(if bF R.l j [61]then(bG f R.l (j+1) d 0).bind fun y j=>.ok ([x],y) j else .ok ([],x) j).bind fun p j=>(aH R.l j [59]).bind fun _ j=>.ok p j):=by show _=_;rw[hr,CW]
 rw[←hr]at hno⊢;have eX:=au hno;have MC:=aK hbt;obtain⟨w1,hw1⟩:=aN ((w.setCell ⟨bt,0,none⟩ (.int .i64 3)).alloc (.cells #[eU R.rb 0] 97));have hst:Step (·=bt) w (w.setCell ⟨bt,0,none⟩ (.int .i64 3)):=bK.setCell _ _ iW;have hal:StF (w.setCell ⟨bt,0,none⟩ (.int .i64 3)) w1:=by rw[hw1];exact bK.alloc _
 have hbta:(w.alloc (.cells #[eU R.rb 0] 97)).heap[bt]?=some (.cells #[ak 0,aO,ak 0,aO,aO,aT,ay,ay,ak 0,ak 0,ay,ay,ay,ay,aT,ak t.line,ak t.col] 111 (0,0)):=aP hbt;have dH:Hid (Step (·=bt) w w1):=hst.trans (hal.mono fe);have kL:Hid (w1.heap[w.heap.size]?=some (.cells #[eU R.rb 0] 97 (0,0))):=by rw[hw1];exact v_ _ _ _ (by simp)
 have H7:Hid (w1.heap[bt]?=some (.cells #[ak 3,aO,ak 0,aO,aO,aT,ay,ay,ak 0,ak 0,ay,ay,ay,ay,aT,ak t.line,ak t.col] 111 (0,0))):=by rw[hw1];exact aP (aW hbt 0 (.int .i64 3))
 have HW1:=au hw1;have H1:=au ((h.step hst oi).quiet hal);have hn1:=aK kL.o;have cZ:Hid (∀X:World,Step (fun q=>q=R.rb∨q=bt) w1 X→X.cell? ⟨w.heap.size,0,none⟩=some (.pointer (some ⟨R.rb,0,none⟩))):=fun X hX=>aj (hX.keep kL.o om) 0 _ rfl
 have ou:=aj hbta 0 _ rfl;have oz:=aI hbta 0;clear ih hl h hno hr hw1 hbt hal hst hbta;go_enter Tryz.func207,Tryz.ntmps207;go_upto_region 2 with fail
 rw[←HW1.o];clear ou oz;have p0:=cZ.o w1 bK;go_wp2_with fail;cases hx:bG f R.l i d 0 with
 |out=>exact absurd (by rw[HRR.o,hx];rfl) eX.o
 |err c ln col=>have HX:=au hx;clear hx;refine(HEX.o _ i H1.o (by rw[HX.o];intro h;cases h)).mono ?_;rintro e wq hp;rw[HX.o]at hp;obtain⟨rfl,sq⟩:=hp;refine⟨rfl,bg.aZ (c:=c) (ln:=ln) (col:=col) (by rw[HRR.o,HX.o];rfl) rfl ?_⟩;exact(dH.o.mono ir).trans (sq.mono il)
 |ok x jx=>
  have HX:=au hx;clear hx;refine(HEX.o _ i H1.o (by rw[HX.o];intro h;cases h)).mono ?_;rintro e wx hp;rw[HX.o]at hp;obtain⟨⟨v,rfl,cs,rfl,hy⟩,hrx,hsx⟩:=hp;have HY:=au hy;obtain⟨k5,nm5,v5,MO,b1,m1,d1,b2,m2,d2,b3,m3,d3,l5,c5,rfl⟩:=hy.parts;have vX:=au hrx;have rQ:=au hsx;have oK:Hid (r=(if bF R.l jx [61]then(bG f R.l (jx+1) d 0).bind fun y j=>.ok ([x],y) j else .ok ([],x) jx).bind fun p j=>(aH R.l j [59]).bind fun _ j=>.ok p j):=by show _=_;rw[HRR.o,HX.o];rfl
  obtain⟨w3,hw3⟩:=aN (wx.alloc (.cells #[ak k5,a_ nm5,cO v5,dW MO,.slice b1 m1 d1,.slice b2 m2 d2,.slice b3 m3 d3,ak l5,ak c5] 56));have fK:=nS hw3
  have HB3:=nB hw3
  have kK:Hid (Step (fun q=>q=R.rb∨q=bt) w1 w3):=(rQ.o.trans (fK.o.mono fe)).mono il;have MG:=au (fK.o.keep (rQ.o.keep H7.o om) (fun h=>h));have HY3:Hid (fA w3 (fun q=>w1.heap.size≤q∧q<wx.heap.size) x [.int .i64 k5,.string nm5,.int .u64 v5,.bool MO,.slice b1 m1 d1,.slice b2 m2 d2,.slice b3 m3 d3,.int .i64 l5,.int .i64 c5]):=fA.step fK.o (fun _ _ h=>h) _ _ (fA.mono (fun q h1 h2=>⟨h2,h1⟩) _ _ hy);have HR3:=au (hrx.quiet fK.o);have hz1:=dH.o.size;have hzx:=rQ.o.size;have hz3:=aK HB3.o;obtain⟨bx,hbx⟩:=aN wx.heap.size;have HW3:=au hw3;clear hy hrx hsx p0 hw3;go_upto_region 3 with fail
  rw[←HW3.o];rw[←hbx]at HB3 HY3 hz3 hzx⊢;clear hbx;have p0:=cZ.o w3 kK.o;obtain⟨bq,hbq⟩:=aN (bF R.l jx [61]);obtain⟨j2,hj2⟩:=aN (jb R.l jx [61]);have HI2:Hid (Calls Tryz.prog 110 #[.pointer (some ⟨R.rb,0,none⟩),.string ⟨#[61]⟩] w3 fun e w'=>e=.returned (.bool bq)∧bI R w' j2 d∧Step (·=R.rb) w3 w'):=by rw[hbq,hj2];exact um R HL.o ⟨#[61]⟩ w3 jx d HR3.o dc
  have HB2:=au hbq;have HJ2:=au hj2;clear hbq hj2;go_wp2_with fail;refine HI2.o.mono ?_;rintro e w4 ⟨rfl,hr4,h4⟩;have HR4:=au hr4;have xW:Hid (Step (fun q=>q=R.rb∨q=bt) w1 w4):=kK.o.trans (h4.mono il);have rO:=au (h4.keep MG.o om);have HB4:=au (h4.keep HB3.o om);have SY:Hid (fA w4 (fun q=>w1.heap.size≤q∧q<bx) x [.int .i64 k5,.string nm5,.int .u64 v5,.bool MO,.slice b1 m1 d1,.slice b2 m2 d2,.slice b3 m3 d3,.int .i64 l5,.int .i64 c5]):=fA.step h4 oi _ _ HY3.o;have hz4:=h4.size;clear hr4 h4 p0;have p0:=cZ.o w4 xW.o;go_upto_if 12 with fail
  go_cut [] (fun wx=>∃(pl:List Ex) (y:Ex) (je:Nat) (k:Int) (vp:Value) (xp cy:List Value),r=((aH R.l je [59]).bind fun _ j=>.ok (pl,y) j)∧k=(if pl.length=0 then 3 else 2)∧dM wx (fun q=>w1.heap.size≤q∧q≠bx) pl xp∧cu wx (fun q=>w1.heap.size≤q∧q≠bx) vp pl.length xp∧
   fA wx (fun q=>w1.heap.size≤q∧q≠bx) y cy∧wx.heap[bx]?=some (.cells cy.toArray 56 (0,0))∧wx.heap[bt]?=some (.cells #[ak k,aO,ak 0,aO,aO,aT,ay,ay,ak 0,ak 0,vp,ay,ay,ay,aT,ak t.line,ak t.col] 111 (0,0))∧bI R wx je d∧Step (fun q=>q=R.rb∨q=bt∨q=bx) w4 wx)
  case first=>
   cases bq with
   |false=>(have hj:j2=jx:=by rw[HJ2.o,jb,←HB2.o,if_neg dc]);(have o_:Hid (r=((aH R.l j2 [59]).bind fun _ j=>.ok ([],x) j)):=by show _=_;rw[oK.o,←HB2.o,if_neg dc,hj];rfl);clear hj;go_wp2_with fail;go_meet;case rel=>exact⟨[],x,j2,3,.slice none 0 0,[],[.int .i64 k5,.string nm5,.int .u64 v5,.bool MO,.slice b1 m1 d1,.slice b2 m2 d2,.slice b3 m3 d3,.int .i64 l5,.int .i64 c5],o_.o,rfl,by rw[dM],cu.nil _ _ _,fA.mono oi _ _ SY.o,HB4.o,rO.o,HR4.o,Step.refl _ _⟩
   |true=>
    (have hj:j2=jx+1:=by rw[HJ2.o,jb,←HB2.o,if_pos rfl]);(have o_:Hid (r=(bG f R.l j2 d 0).bind fun y j=>(aH R.l j [59]).bind fun _ j=>.ok ([x],y) j):=by show _=_;rw[oK.o,←HB2.o,if_pos rfl,hj];cases bG f R.l (jx+1) d 0<;>rfl);clear hj;have eG:=au SY.o.one;(go_upto_region 4 with fail);go_cut [] (fun wx=>∃g:Nat,w4.heap.size≤g∧g≠bx∧wx.heap[g]?=some (.cells #[ak k5,a_ nm5,cO v5,dW MO,.slice b1 m1 d1,.slice b2 m2 d2,.slice b3 m3 d3,ak l5,ak c5] 56 (0,0))∧wx.heap[bt]?=some (.cells #[ak 2,aO,ak 0,aO,aO,aT,ay,ay,ak 0,ak 0,.slice (some ⟨g,0,none⟩) 1 1,ay,ay,ay,aT,ak t.line,ak t.col] 111 (0,0))∧Step (·=bt) w4 wx);case first=>
     refine bP kr (SetJ bt w4 t [.int .i64 k5,.string nm5,.int .u64 v5,.bool MO,.slice b1 m1 d1,.slice b2 m2 d2,.slice b3 m3 d3,.int .i64 l5,.int .i64 c5]) 10 rfl kr kr kr kr ?h0 ?hs ?hdone;case h0=>exact⟨(fun _ _ _ h=>nomatch h),gQ,bK.drew,rO.o,gQ⟩
     case hs=>
      refine⟨?_,?_,?_,?_,?_,?_,?_,?_,?_,?_,trivial⟩
      all_goals intro L V X a ev dG hdf hL ax hJ
      ·have o1:=dG 1 rfl;change a.tmps[1]?.getD undef=.pointer (some ⟨bt,0,none⟩)at o1;go_simp;exact⟨_,rfl,{hJ with iK:=jc hJ.iK 0 _ (fun u hu=>by cases hu;rfl)}⟩
      ·have o1:=dG 1 rfl;change a.tmps[1]?.getD undef=.pointer (some ⟨bt,0,none⟩)at o1;go_simp;exact⟨_,rfl,{hJ with iK:=jc hJ.iK 1 _ (fun u hu=>by cases hu;rfl)}⟩
      ·have o4:=dG 4 rfl;change a.tmps[4]?.getD undef=.pointer (some ⟨bx,0,none⟩)at o4;have hb:=hJ.st.keep HB4.o om;refine wp_load_mid 56 (.tmp 4) rfl bx 0 (by rw[bM];exact o4) [.int .i64 k5,.string nm5,.int .u64 v5,.bool MO,.slice b1 m1 d1,.slice b2 m2 d2,.slice b3 m3 d3,.int .i64 l5,.int .i64 c5] _ (fun jj v hv=>by rw[Nat.zero_add];exact aj hb jj v rF) Tryz.underlying56 rfl Tryz.bf ?_;exact⟨_,rfl,{hJ with iK:=jc hJ.iK 2 _ (fun u hu=>by cases hu;rfl)}⟩
      ·have e15:=(ev 2 15 rfl (ax 2 rfl)).trans (hJ.iK 2 _ rfl (ax 2 rfl));have h9:L 9=false:=by
        cases e:L 9 with
        |false=>rfl
        |true=>exact absurd (hJ.q9 e) (by rw[hL];decide)
       have hs:StF X (X.alloc (.cells #[ak k5,a_ nm5,cO v5,dW MO,.slice b1 m1 d1,.slice b2 m2 d2,.slice b3 m3 d3,ak l5,ak c5] 56)):=bK.alloc _;have hb:=hJ.blk;simp only[h9,Bool.false_eq_true,if_false]at hb;go_simp;refine⟨_,rfl,{hJ with iK:=jc hJ.iK 3 _ (fun u hu=>by cases hu),s3:=fun _=>⟨X.heap.size,rfl,hJ.st.size,aC _ _⟩,st:=hJ.st.alloc _,blk:= ?_,q9:=fun _=>rfl}⟩;show(X.alloc _).heap[bt]?=some (.cells #[ak (if L 6=true then 2 else 3),aO,ak 0,aO,aO,aT,ay,ay,ak 0,ak 0,(if L 9=true then .slice (some ⟨X.heap.size,0,none⟩) 1 1 else ay),ay,ay,ay,aT,ak t.line,ak t.col] 111 (0,0));simp only[h9,Bool.false_eq_true,if_false];exact hs.keep hb (fun h=>h)
      ·have e13:=(ev 0 13 rfl (ax 0 rfl)).trans (hJ.iK 0 _ rfl (ax 0 rfl));go_simp;exact⟨_,rfl,{hJ with iK:=jc hJ.iK 4 _ (fun u hu=>by cases hu;rfl)}⟩
      ·have e17:=(ev 4 17 rfl (ax 4 rfl)).trans (hJ.iK 4 _ rfl (ax 4 rfl));go_simp;exact⟨_,rfl,{hJ with iK:=jc hJ.iK 5 _ (fun u hu=>by cases hu;rfl)}⟩
      ·have e18:=(ev 5 18 rfl (ax 5 rfl)).trans (hJ.iK 5 _ rfl (ax 5 rfl));have hb:=hJ.blk;have q0:=aj hb 0 _ rfl;have z0:=aI hb 0;have hs:Step (·=bt) X (X.setCell ⟨bt,0,none⟩ (.int .i64 2)):=bK.setCell _ _ iW;have hbs:=aW hb 0 (.int .i64 2);go_simp;exact⟨undef,{hJ with iK:=jc hJ.iK 6 _ (fun u hu=>by cases hu),s3:=fun e=>(by obtain⟨g,g1,g2,g3⟩:=hJ.s3 e;exact⟨g,g1,g2,hs.keep g3 om⟩),st:=hJ.st.trans hs,blk:=hbs}⟩
      ·have e14:=(ev 1 14 rfl (ax 1 rfl)).trans (hJ.iK 1 _ rfl (ax 1 rfl));go_simp;exact⟨_,rfl,{hJ with iK:=jc hJ.iK 7 _ (fun u hu=>by cases hu;rfl)}⟩
      ·have e19:=(ev 7 19 rfl (ax 7 rfl)).trans (hJ.iK 7 _ rfl (ax 7 rfl));go_simp;exact⟨_,rfl,{hJ with iK:=jc hJ.iK 8 _ (fun u hu=>by cases hu;rfl)}⟩
      ·have e20:=(ev 8 20 rfl (ax 8 rfl)).trans (hJ.iK 8 _ rfl (ax 8 rfl));have hb:=hJ.blk;obtain⟨g,g1,g2,g3⟩:=hJ.s3 (ax 3 rfl);have e16:=(ev 3 16 rfl (ax 3 rfl)).trans g1;have q0:=aj hb 10 _ rfl;have z0:=aI hb 10;have hs:Step (·=bt) X (X.setCell ⟨bt,10,none⟩ (.slice (some ⟨g,0,none⟩) 1 1)):=bK.setCell _ _ iW;have hbs:=aW hb 10 (.slice (some ⟨g,0,none⟩) 1 1);go_simp;refine⟨undef,{hJ with iK:=jc hJ.iK 9 _ (fun u hu=>by cases hu),s3:=fun _=>⟨g,g1,g2,hs.keep g3 om⟩,st:=hJ.st.trans hs,blk:= ?_,q9:=fun _=>ax 3 rfl}⟩;show(X.setCell _ _).heap[bt]?=some (.cells #[ak (if L 6=true then 2 else 3),aO,ak 0,aO,aO,aT,ay,ay,ak 0,ak 0,V 3,ay,ay,ay,aT,ak t.line,ak t.col] 111 (0,0));rw[g1];exact hbs
     case hdone=>intro L V X hall hJ;obtain⟨g,g1,g2,g3⟩:=hJ.s3 (hall 3 dc);have hb:=hJ.blk;rw[hall 6 dc,hall 9 dc,if_pos rfl,if_pos rfl,g1]at hb;have hs9:=hJ.st;rw[show List.range 10=[0,1,2,3,4,5,6,7,8,9] from rfl];simp only[kJ,fO,gsQ,o9];clear hJ hall p0;go_wp2_with fail;go_meet;case rel=>exact⟨g,g2,by omega,g3,hb,hs9⟩
    case rest=>
     obtain⟨g,hg1,hg2,hg3,hb5,hs5⟩:=hcut;obtain⟨w5,rfl⟩:=aN wc;have HG5:=au hg3;have Sz:=au hb5;have MQ:=au hs5;have DY:=au (HR4.o.step hs5 oi);have HBX5:=au (hs5.keep HB4.o om);have HX5:Hid (fA w5 (fun q=>w1.heap.size≤q∧q<bx) x [.int .i64 k5,.string nm5,.int .u64 v5,.bool MO,.slice b1 m1 d1,.slice b2 m2 d2,.slice b3 m3 d3,.int .i64 l5,.int .i64 c5]):=fA.step hs5 oi _ _ SY.o;have hz5:=hs5.size;have hg5:=aK hg3;clear hg3 hb5 hs5 p0;have p0:=cZ.o w5 (xW.o.trans (MQ.o.mono ir));go_wp2_with fail;cases hx:bG f R.l j2 d 0 with
     |out=>exact absurd (by rw[o_.o,hx];rfl) eX.o
     |err c ln col=>have Za:=au hx;clear hx;refine(HEX.o _ j2 DY.o (by rw[Za.o];intro h;cases h)).mono ?_;rintro e wq hp;rw[Za.o]at hp;obtain⟨rfl,sq⟩:=hp;refine⟨rfl,bg.aZ (c:=c) (ln:=ln) (col:=col) (by rw[o_.o,Za.o];rfl) rfl ?_⟩;exact(((dH.o.mono ir).trans xW.o).trans (MQ.o.mono ir)).trans (sq.mono il)
     |ok y jy=>
      have Za:=au hx;clear hx;refine(HEX.o _ j2 DY.o (by rw[Za.o];intro h;cases h)).mono ?_;rintro e w6 hp;rw[Za.o]at hp;obtain⟨⟨v,rfl,cs,rfl,hy⟩,qj,hs6⟩:=hp;have HYY:=au hy;have HONY:=au hy.one;obtain⟨k7,nm7,v7,VH,p1,q1,r1,p2,q2,r2,p3,q3,r3,l7,c7,rfl⟩:=hy.parts;have xQ:=au qj;have Tc:=au hs6;have HBX6:=au (hs6.keep HBX5.o om);(have y8:Hid (r=((aH R.l jy [59]).bind fun _ j=>.ok ([x],y) j)):=by show _=_;rw[o_.o,Za.o];rfl);clear hy qj hs6 p0
      go_wp2_with (refine aG (w:=w6) rfl 56 (.tmp 4) (.tmp 22) rfl bx 0 56 _ [.int .i64 k7,.string nm7,.int .u64 v7,.bool VH,.slice p1 q1 r1,.slice p2 q2 r2,.slice p3 q3 r3,.int .i64 l7,.int .i64 c7] rfl rfl HBX6.o Tryz.bf (Nat.le_of_eq rfl) HONY.o ?_
                   intro w7 hb7 uP)
      have LG:Hid (w7.heap[bx]?=some (.cells #[ak k7,a_ nm7,cO v7,dW VH,.slice p1 q1 r1,.slice p2 q2 r2,.slice p3 q3 r3,ak l7,ak c7] 56 (0,0))):=hb7;have Zb:=au uP;clear hb7 uP;go_meet;case rel=>have s57:Step (fun q=>q=R.rb∨q=bx) w5 w7:=(Tc.o.mono il).trans (Zb.o.mono ir);refine⟨[x],y,jy,2,_,[.int .i64 k5,.string nm5,.int .u64 v5,.bool MO,.slice b1 m1 d1,.slice b2 m2 d2,.slice b3 m3 d3,.int .i64 l5,.int .i64 c5],[.int .i64 k7,.string nm7,.int .u64 v7,.bool VH,.slice p1 q1 r1,.slice p2 q2 r2,.slice p3 q3 r3,.int .i64 l7,.int .i64 c7],y8.o,rfl,dM.single (fA.mono oi _ _ (fA.step s57 oi _ _ HX5.o)),cu.new (s57.keep HG5.o om) (by simp) om,?_,LG.o,s57.keep Sz.o om,xQ.o.step Zb.o oi,((MQ.o.mono (fun _ _ e=>.inr (.inl e))).trans (Tc.o.mono il)).trans (Zb.o.mono (fun _ _ e=>.inr (.inr e)))⟩;exact fA.mono oi _ _ (fA.step Zb.o oi _ _ HYY.o)
  case rest=>
   obtain⟨pl,y,je,k,vp,xp,cy,vW,hk8,hp8,hv8,hy8,hx8,hb8,hrd8,hs8⟩:=hcut;obtain⟨w8,rfl⟩:=aN wc;obtain⟨k7,nm7,v7,VH,p1,q1,r1,p2,q2,r2,p3,q3,r3,l7,c7,rfl⟩:=hy8.parts;obtain⟨av,cv,rfl,-⟩:=id hv8;have VE:=au vW;have HK8:=au hk8;have HP8:=au hp8;have HV8:=au hv8;have HY8:=au hy8;have HX8:=au hx8;have OA:=au hb8;have HRD8:=au hrd8;have HS48:=au hs8;have hz8:=hs8.size;clear vW hk8 hp8 hv8 hy8 hx8 hb8 hrd8 p0;have p0:w8.cell? ⟨w.heap.size,0,none⟩=some (.pointer (some ⟨R.rb,0,none⟩)):=hs8.cell (cZ.o w4 xW.o) (fun e=>by have e2:w.heap.size=R.rb∨w.heap.size=bt∨w.heap.size=bx:=e;omega);clear hs8;(have iD:Hid (∀(jj:Nat) v,[Value.int .i64 k7,a_ nm7,cO v7,dW VH,.slice p1 q1 r1,.slice p2 q2 r2,.slice p3 q3 r3,ak l7,ak c7][jj]?=some v→w8.cell? ⟨bx,0+jj,none⟩=some v):=by intro jj v hv;rw[Nat.zero_add];exact aj HX8.o jj v rF);obtain⟨w9,VI⟩:=aN ((w8.alloc (.cells #[ak k7,a_ nm7,cO v7,dW VH,.slice p1 q1 r1,.slice p2 q2 r2,.slice p3 q3 r3,ak l7,ak c7] 56)).setCell ⟨bt,11,none⟩ (.slice (some ⟨w8.heap.size,0,none⟩) 1 1));(have yZ:Step (·=bt) w8 w9:=by rw[VI];exact((Step.refl (·=bt) _).alloc _).setCell _ _ iW);(have HBT9:Hid (w9.heap[bt]?=some (.cells #[ak k,aO,ak 0,aO,aO,aT,ay,ay,ak 0,ak 0,.slice av pl.length cv,.slice (some ⟨w8.heap.size,0,none⟩) 1 1,ay,ay,aT,ak t.line,ak t.col] 111 (0,0))):=by rw[VI];exact aW (aP OA.o) 11 _);(have HK9:Hid (w9.heap[w8.heap.size]?=some (.cells #[ak k7,a_ nm7,cO v7,dW VH,.slice p1 q1 r1,.slice p2 q2 r2,.slice p3 q3 r3,ak l7,ak c7] 56 (0,0))):=by rw[VI];exact((Step.refl (·=bt) _).setCell _ _ iW).keep (aC _ _) (fun e=>by have:=aK OA.o;omega));have HS89:=au yZ;have Pg:=aj (aP (o':=.cells #[ak k7,a_ nm7,cO v7,dW VH,.slice p1 q1 r1,.slice p2 q2 r2,.slice p3 q3 r3,ak l7,ak c7] 56) OA.o) 11 _ rfl;have Ph:=aI (aP (o':=.cells #[ak k7,a_ nm7,cO v7,dW VH,.slice p1 q1 r1,.slice p2 q2 r2,.slice p3 q3 r3,ak l7,ak c7] 56) OA.o) 11;have QE:=au (HRD8.o.step yZ oi);have HW9:=au VI;have p9:w9.cell? ⟨w.heap.size,0,none⟩=some (.pointer (some ⟨R.rb,0,none⟩)):=yZ.cell p0 (fun e=>by have e2:w.heap.size=bt:=e;omega);have hz9:=yZ.size;clear yZ VI p0;(go_upto_region 7 with(refine aA rfl 56 (.tmp 4) rfl bx 0 rfl [.int .i64 k7,.string nm7,.int .u64 v7,.bool VH,.slice p1 q1 r1,.slice p2 q2 r2,.slice p3 q3 r3,.int .i64 l7,.int .i64 c7] _ iD.o Tryz.underlying56 rfl Tryz.bf ?_));rw[←HW9.o];clear Pg Ph;go_wp2_with fail;refine(dP R HL.o w9.heap.size ⟨#[59]⟩ _ je d (QE.o.quiet (bK.alloc _)) dc (aj (aC _ _) 0 _ rfl)).mono ?_;rintro e wz hp;have hp2:aJ R d iQ (aH R.l je [59]) _ e wz:=hp;have HS08:Hid (Step (fun q=>q=R.rb∨q=bt) w w8):=((dH.o.mono ir).trans xW.o).then HS48.o oi;cases hn:aH R.l je [59]with
   |out=>exact(dJ hn).elim
   |err c ln col=>rw[hn]at hp2;obtain⟨rfl,sz⟩:=hp2;refine⟨rfl,bg.aZ (c:=c) (ln:=ln) (col:=col) (by rw[VE.o,hn];rfl) rfl ?_⟩;exact(HS08.o.trans (HS89.o.mono ir)).trans ((((Step.refl (·=R.rb) _).alloc _).trans sz).mono il)
   |ok u jz=>have VJ:=au hn;rw[hn]at hp2;obtain⟨⟨v,rfl,rfl⟩,hrz,sz⟩:=hp2;have G7:=au hrz;have HS9Z:Hid (Step (·=R.rb) w9 wz):=((Step.refl (·=R.rb) _).alloc _).trans sz;have Zc:Hid (Step (fun q=>q=R.rb∨q=bt) w8 wz):=(HS89.o.mono ir).trans (HS9Z.o.mono il);clear hn hrz sz p9 hp;go_wp2_with fail;refine bodyPost_end (results_none rfl _ _ _) rfl ?_;have hkk:=HK8.o;refine bg.dU (a:=(pl,y)) (j:=jz) (by rw[VE.o,VJ.o];rfl) rfl ⟨xp,[.int .i64 k7,.string nm7,.int .u64 v7,.bool VH,.slice p1 q1 r1,.slice p2 q2 r2,.slice p3 q3 r3,.int .i64 l7,.int .i64 c7],.slice av pl.length cv,.slice (some ⟨w8.heap.size,0,none⟩) 1 1,?_,dM.mono (fun q _ hq=>by have:=hq.1;omega) _ _ (dM.step Zc.o (fun q hq e=>by have:=hq.1;omega) _ _ HP8.o),(HV8.o.step Zc.o (fun q hq e=>by have:=hq.1;omega)).mono (fun q _ hq=>by have:=hq.1;omega),dM.single (fA.mono (fun q _ hq=>by have:=hq.1;omega) _ _ (fA.step Zc.o (fun q hq e=>by have:=hq.1;omega) _ _ HY8.o)),cu.new (HS9Z.o.keep HK9.o om) dc om⟩ G7.o (HS08.o.trans Zc.o);have iJ:=HS9Z.o.keep HBT9.o om;rw[hkk]at iJ;exact iJ
def Be (f:Nat) (l:List Tok) (i d:Nat):dV (ByteArray×List ByteArray×List St):=(aS l i).bind fun n j=>(aH l j [124]).bind fun _ j=>(if bF l j [124]then .ok [] (j+1)else barsR f l j []).bind fun ns j=>(bJ f l j d).bind fun b j=>.ok (n,ns,b) j
def FI (n0 bt:Nat) (t:Tok) (w':World) (a:ByteArray×List ByteArray×List St):Prop:=∃(xb:List Value) (vn vb:Value),w'.heap[bt]?=some (.cells #[ak 17,a_ a.1,cO 0,aT,ay,vn,vb,ak t.line,ak t.col] 56 (0,0))∧
 a.1.size≤9223372036854775807∧(∀s∈a.2.1,s.size≤9223372036854775807)∧cu w' (fun k=>n0≤k) vn a.2.1.length (a.2.1.map .string)∧iO w' (fun k=>n0≤k) a.2.2 xb∧cu w' (fun k=>n0≤k) vb a.2.2.length xb
def Pn (f:Nat):Prop:=∀(R:gJ) (w:World) (i d bt:Nat) (t:Tok),oZ R.l→bI R w i d→d≤40→R.rb<bt→w.heap[bt]?=some (.cells #[ak 0,aO,cO 0,aT,ay,ay,ay,ak t.line,ak t.col] 56 (0,0))→Be f R.l i d≠.out→
 Calls Tryz.prog 223 #[.agg #[eU R.rb 0],.pointer (some ⟨bt,0,none⟩)] w (bg R d bt (FI w.heap.size bt t) (Be f R.l i d) w)
structure y9 (R:gJ) (w1:World) (bt:Nat) (nm:ByteArray) (t:Tok) (d:Nat) (X:World) (i':Nat) (ns:List ByteArray) (vn:Value):Prop where
 rd:bI R X i' d
 blk:X.heap[bt]?=some (.cells #[ak 17,a_ nm,cO 0,aT,ay,vn,ay,ak t.line,ak t.col] 56 (0,0))
 on:X.ownsRow w1.heap.size 9 1 vn ns.length (ns.map .string)
 sz:∀s∈ns,s.size≤9223372036854775807
 few:ns.length≤8
 st:Step (fun k=>k=R.rb∨k=bt) w1 X
theorem y9.read {R:gJ} {w1:World} {bt:Nat} {nm:ByteArray} {t:Tok} {d:Nat} {X X':World} {i' i2:Nat} {ns:List ByteArray} {vn:Value} (h:y9 R w1 bt nm t d X i' ns vn) (hrb:R.rb<bt) (hw:R.rb<w1.heap.size) (hr:bI R X' i2 d) (hs:Step (·=R.rb) X X'):y9 R w1 bt nm t d X' i2 ns vn:=
 ⟨hr,hs.keep h.blk om,hs.owns h.on oi,h.sz,h.few,h.st.trans (hs.mono il)⟩
theorem y9.quiet {R:gJ} {w1:World} {bt:Nat} {nm:ByteArray} {t:Tok} {d:Nat} {X X':World} {i':Nat} {ns:List ByteArray} {vn:Value} (h:y9 R w1 bt nm t d X i' ns vn) (hs:StF X X'):y9 R w1 bt nm t d X' i' ns vn:=
 ⟨h.rd.quiet hs,hs.keep h.blk (fun h=>h),hs.owns h.on (fun _ _ h=>h),h.sz,h.few,h.st.trans (hs.mono fe)⟩
theorem y9.push {R:gJ} {w1:World} {bt:Nat} {nm:ByteArray} {t:Tok} {d:Nat} {X X2 X3:World} {i':Nat} {ns:List ByteArray} {vn v9:Value} {s:ByteArray} (h:y9 R w1 bt nm t d X i' ns vn) (hrb:R.rb<bt) (hbt:bt<w1.heap.size) (h2:StF X X2) (hown:X3.ownsRow w1.heap.size 9 1 v9 (ns.length+1) (ns.map .string++[.string s])) (hgrow:X2.grownBy X3 vn.ownBlock) (hs:s.size≤9223372036854775807) (hlt:ns.length<8):y9 R w1 bt nm t d (X3.setCell ⟨bt,5,none⟩ v9) i' (ns++[s]) v9:=by
 have h3:Step (fun q=>vn.ownBlock=some q) X2 X3:=bQ hgrow;have h4:Step (·=bt) X3 (X3.setCell ⟨bt,5,none⟩ v9):=bK.setCell _ _ iW;have ho:∀q,vn.ownBlock=some q→w1.heap.size≤q:=fun q hq=>(h.on.lt q hq).1;have hlen:(ns++[s]).length=ns.length+1:=by simp
 have hb3:=h3.keep (h2.keep h.blk (fun h=>h)) (fun e=>by have:=ho bt e;omega);refine⟨((h.rd.quiet h2).step h3 (fun q hq e=>by have:=ho q e;omega)).step h4 oi,aW hb3 5 v9,?_,?_,by rw[hlen];omega,?_⟩
 ·rw[hlen,List.map_append];exact jM hown h4 (fun q hq e=>by have:=(hown.lt q hq).1;omega)
 ·intro x hx;rcases List.mem_append.1 hx with hx|hx
  ·exact h.sz x hx
  ·rw[List.mem_singleton.1 hx];exact hs
 ·exact((h.st.trans (h2.mono fe)).then h3 (fun q hq e=>by have:=ho q e;omega)).trans (h4.mono ir)
structure ClJ (R:gJ) (bt bp:Nat) (sv:Value) (X0:World) (L:Nat→Bool) (V:Nat→Value) (X:World):Prop where
 wx:X=X0
 no:L 7=false
 v0:L 0=true→V 0=.pointer (some ⟨bt,0,none⟩)
 v1:L 1=true→V 1=.pointer (some ⟨bt,0,none⟩)
 v2:L 2=true→V 2=.pointer (some ⟨bt,0,none⟩)
 v3:L 3=true→V 3=.pointer (some ⟨bt,5,none⟩)
 v4:L 4=true→V 4=sv
 v5:L 5=true→V 5=.pointer (some ⟨bp,0,none⟩)
 v6:L 6=true→V 6=.pointer (some ⟨R.rb,0,none⟩)
 v10:L 10=true→V 10=.pointer (some ⟨bt,0,none⟩)
 v11:L 11=true→V 11=.pointer (some ⟨bt,5,none⟩)
theorem Td (f:Nat) (ih:mZ f):Pn f:=by
 intro R w i d bt t hl h hd hrb hbt hno;have HL:=au hl;have IH:=au ih;obtain⟨r,hr⟩:=aN (Be f R.l i d);have HRR:Hid (r=(aS R.l i).bind fun n j=>(aH R.l j [124]).bind fun _ j=>(if bF R.l j [124]then .ok [] (j+1)else barsR f R.l j []).bind fun ns j=>(bJ f R.l j d).bind fun b j=>.ok (n,ns,b) j):=by show _=_;rw[hr,Be]
 rw[←hr]at hno⊢;have eX:=au hno;have MC:=aK hbt;obtain⟨w1,hw1⟩:=aN (w.alloc (.cells #[eU R.rb 0] 97));have dH:=nS hw1
 have kL:=nB hw1
 have H7:=au (dH.o.keep hbt (fun h=>h));have HW1:=au hw1;have H1:=au (h.quiet dH.o);have hn1:=aK kL.o;have cZ:Hid (∀X:World,Step (fun q=>q=R.rb∨q=bt) w1 X→X.cell? ⟨w.heap.size,0,none⟩=some (.pointer (some ⟨R.rb,0,none⟩))):=fun X hX=>aj (hX.keep kL.o om) 0 _ rfl
 obtain⟨i0,hi0,hz0,hz1,hz2⟩:=info_parts Tryz.rW;have HI:=au hi0;have HZ0:=au hz0;have HZ1:=au hz1;have HZ2:=au hz2;have p0:=cZ.o w1 bK;clear ih hl h hno hr hw1 hbt hi0 hz0 hz1 hz2;go_enter Tryz.func223,Tryz.ntmps223;go_upto_region 1 with fail
 rw[←HW1.o];go_wp2_with fail;cases hn:aS R.l i with
 |out=>exact(iV hn).elim
 |err c ln col=>have HN:=au hn;clear hn;refine(name_any R HL.o _ i d H1.o).mono ?_;rintro e wq hp;rw[HN.o]at hp;obtain⟨rfl,sq⟩:=hp;refine⟨rfl,bg.aZ (c:=c) (ln:=ln) (col:=col) (by rw[HRR.o,HN.o];rfl) rfl ?_⟩;exact((dH.o.mono fe).trans sq).mono il
 |ok nm j=>
  have HN:=au hn;have S9:=au (fV HL.o H1.o.lt hn);clear hn;refine(name_any R HL.o _ i d H1.o).mono ?_;rintro e w2 hp;rw[HN.o]at hp;obtain⟨⟨v,rfl,rfl⟩,hr2,s2⟩:=hp;have HR2:=au hr2;have HS2:=au s2;have rM:=au (s2.keep H7.o om);have oK:Hid (r=(aH R.l j [124]).bind fun _ j=>(if bF R.l j [124]then .ok [] (j+1)else barsR f R.l j []).bind fun ns j=>(bJ f R.l j d).bind fun b j=>.ok (nm,ns,b) j):=by show _=_;rw[HRR.o,HN.o];rfl
  have ou:=aj rM.o 0 _ rfl;have oz:=aI rM.o 0;have Hz:=aj rM.o 1 _ rfl;have H6:=aI rM.o 1;obtain⟨w3,hw3⟩:=aN ((w2.setCell ⟨bt,0,none⟩ (.int .i64 17)).setCell ⟨bt,1,none⟩ (.string nm));have fK:Hid (Step (·=bt) w2 w3):=by rw[hw3];exact((Step.refl (·=bt) _).setCell _ _ iW).setCell _ _ iW
  have MG:Hid (w3.heap[bt]?=some (.cells #[ak 17,a_ nm,cO 0,aT,ay,ay,ay,ak t.line,ak t.col] 56 (0,0))):=by rw[hw3];exact aW (aW rM.o 0 (.int .i64 17)) 1 (.string nm)
  have kK:Hid (Step (fun q=>q=R.rb∨q=bt) w1 w3):=(HS2.o.mono il).trans (fK.o.mono ir);have gu:Hid (y9 R w1 bt nm t d w3 j [] (.slice none 0 0)):=⟨HR2.o.step fK.o oi,MG.o,World.ownsRow_nil _ _ _ _,lu,by simp,kK.o⟩;clear hr2 s2 p0;go_upto_region 2 with fail
  rw[←hw3];clear hw3 ou oz Hz H6;have p0:=cZ.o w3 kK.o;go_wp2_with fail;refine(dP R HL.o w3.heap.size ⟨#[124]⟩ _ j d (gu.o.rd.quiet (bK.alloc _)) dc (aj (aC _ _) 0 _ rfl)).mono ?_;rintro e w4 hp;have hp2:aJ R d iQ (aH R.l j [124]) _ e w4:=hp;cases hn:aH R.l j [124]with
  |out=>exact(dJ hn).elim
  |err c ln col=>rw[hn]at hp2;obtain⟨rfl,s4⟩:=hp2;refine⟨rfl,bg.aZ (c:=c) (ln:=ln) (col:=col) (by rw[oK.o,hn];rfl) rfl ?_⟩;exact((dH.o.mono fe).trans gu.o.st).trans ((((Step.refl (·=R.rb) _).alloc _).trans s4).mono il)
  |ok u j4=>
   have OU:=au hn;rw[hn]at hp2;obtain⟨⟨v,rfl,rfl⟩,hr4,s4⟩:=hp2;have fC:=au (gu.o.read hrb om hr4 (((Step.refl (·=R.rb) _).alloc _).trans s4));(have o_:Hid (r=(if bF R.l j4 [124]then .ok [] (j4+1)else barsR f R.l j4 []).bind fun ns j=>(bJ f R.l j d).bind fun b j=>.ok (nm,ns,b) j):=by show _=_;rw[oK.o,OU.o];rfl);clear hn hr4 s4 p0 hp;have p0:=cZ.o w4 fC.o.st;obtain⟨bq,hbq⟩:=aN (bF R.l j4 [124]);obtain⟨j5,hj5⟩:=aN (jb R.l j4 [124]);(have HI5:Hid (Calls Tryz.prog 110 #[.pointer (some ⟨R.rb,0,none⟩),.string ⟨#[124]⟩] w4 fun e w'=>e=.returned (.bool bq)∧bI R w' j5 d∧Step (·=R.rb) w4 w'):=by rw[hbq,hj5];exact um R HL.o ⟨#[124]⟩ w4 j4 d fC.o.rd dc);have VK:=au hbq;have HJ5:=au hj5;clear hbq hj5;go_wp2_with fail;refine HI5.o.mono ?_;rintro e w5 ⟨rfl,MN,h5⟩;have mD:=au (fC.o.read hrb om MN h5);clear MN h5 p0;have p0:=cZ.o w5 mD.o.st;(go_upto_if 20 with fail);go_cut [] (fun wx=>∃(jn:Nat) (ns:List ByteArray) (vn:Value),r=((bJ f R.l jn d).bind fun b j=>.ok (nm,ns,b) j)∧y9 R w1 bt nm t d wx jn ns vn);case first=>
    cases bq with
    |true=>(have hj:j5=j4+1:=by rw[HJ5.o,jb,←VK.o,if_pos rfl]);(have y8:Hid (r=((bJ f R.l j5 d).bind fun b j=>.ok (nm,[],b) j)):=by show _=_;rw[o_.o,←VK.o,if_pos rfl,hj];rfl);clear hj;go_wp2_with fail;go_meet;case rel=>exact⟨j5,[],_,y8.o,mD.o⟩
    |false=>
     (have hj:j5=j4:=by rw[HJ5.o,jb,←VK.o,if_neg dc]);(have y8:Hid (r=(barsR f R.l j5 []).bind fun ns j=>(bJ f R.l j d).bind fun b j=>.ok (nm,ns,b) j):=by show _=_;rw[o_.o,←VK.o,if_neg dc,hj]);clear hj p0;go_wp2_with fail;go_loopg [] f (fun gg wr=>gg≤f∧∃(i':Nat) (ns:List ByteArray) (vn:Value),r=((barsR gg R.l i' ns).bind fun ns j=>(bJ f R.l j d).bind fun b j=>.ok (nm,ns,b) j)∧y9 R w1 bt nm t d wr i' ns vn);case atStart=>exact⟨Nat.le_refl _,j5,[],_,y8.o,mD.o⟩
     case round=>
      obtain⟨hgf,i',ns,vn,hrq,hst⟩:=hrel;obtain⟨gn,rfl⟩:∃gn,gk=gn+1:=by
       cases gk with
       |zero=>exact absurd hrq (by rw[barsR];exact eX.o)
       |succ gn=>exact⟨gn,rfl⟩
      (have vI:Hid (r=((eY ns.length 8 R.l i').bind fun _ i=>(aS R.l i).bind fun n j=>if bF R.l j [44]then barsR gn R.l (j+1) (ns++[n])else(aH R.l j [124]).bind fun _ j=>.ok (ns++[n]) j).bind fun ns j=>(bJ f R.l j d).bind fun b j=>.ok (nm,ns,b) j):=by show _=_;rw[hrq,barsR]);obtain⟨oa,oc,rfl⟩:=aV hst.on;have HST:=au hst;have hfew:=hst.few;have p0:=cZ.o wr hst.st;have zT:=aj hst.blk 5 _ rfl;clear hrq hst;(go_upto_region 4 with fail);go_still_tail 6,kr;change wpList _ _ _ _ _ wr.drew;obtain⟨wd,hwd⟩:=aN wr.drew;(have vZ:Hid (y9 R w1 bt nm t d wd i' ns (.slice oa ns.length oc)):=by rw[hwd];exact HST.o.quiet (bK.drew));rw[←hwd];clear hwd p0 zT;have p0:=cZ.o wd vZ.o.st;have zT:=aj vZ.o.blk 5 _ rfl;go_wp2_with fail;refine(nH R wd ns.length 8 i' d vZ.o.rd).mono ?_;rintro e w6 hp;cases hn:eY ns.length 8 R.l i' with
      |out=>exact(lH hn).elim
      |err c ln col=>rw[hn]at hp;obtain⟨rfl,s6⟩:=hp;refine⟨rfl,bg.aZ (c:=c) (ln:=ln) (col:=col) (by rw[vI.o,hn];rfl) rfl ?_⟩;exact((dH.o.mono fe).trans vZ.o.st).trans (s6.mono il)
      |ok u j6=>
       have hji:j6=i'∧ns.length<8:=by
        unfold eY at hn;split at hn
        ·cases hn
        ·cases hn;exact⟨rfl,by omega⟩
       obtain⟨rfl,JK⟩:=hji;have pX:=au hn;rw[hn]at hp;obtain⟨⟨v,rfl,rfl⟩,qj,s6⟩:=hp;have fG:=au (vZ.o.read hrb om qj s6);(have uD:Hid (r=((aS R.l j6).bind fun n j=>if bF R.l j [44]then barsR gn R.l (j+1) (ns++[n])else(aH R.l j [124]).bind fun _ j=>.ok (ns++[n]) j).bind fun ns j=>(bJ f R.l j d).bind fun b j=>.ok (nm,ns,b) j):=by show _=_;rw[vI.o,pX.o];rfl);clear hn qj s6 p0 zT;have p0:=cZ.o w6 fG.o.st;have zT:=aj fG.o.blk 5 _ rfl;(go_upto_region 5 with fail);cases hn:aS R.l j6 with
       |out=>exact(iV hn).elim
       |err c ln col=>
        have HN:=au hn;(have G8:Hid (∀X,bI R X j6 d→Calls Tryz.prog 113 #[.pointer (some ⟨R.rb,0,none⟩)] X fun e w'=>e=.panicked [{v:=.iface 251 (.agg #[ak c,ak ln,ak col]),recovered:=false}]∧Step (·=R.rb) X w'):=by intro X hX;have h9:=name_any R HL.o X j6 d hX;rw[HN.o]at h9;exact h9);(have FB:Hid (∀wq:World,Step (·=R.rb) w6.drew wq→bg R d bt (FI w.heap.size bt t) r w (.panicked [{v:=.iface 251 (.agg #[ak c,ak ln,ak col]),recovered:=false}]) wq):=by intro wq hs;refine bg.aZ (c:=c) (ln:=ln) (col:=col) (by rw[uD.o,HN.o];rfl) rfl ?_;exact((dH.o.mono fe).trans fG.o.st).trans ((((Step.refl (·=R.rb) _).drew).trans hs).mono il));clear hn;refine bP kr (ClJ R bt w.heap.size (.slice oa ns.length oc) w6.drew) 13 rfl kr kr kr kr ?h0 ?hs ?hdone;case h0=>exact⟨rfl,rfl,gQ,gQ,gQ,gQ,gQ,gQ,gQ,gQ,gQ⟩
        case hs=>
         refine⟨?_,?_,?_,?_,?_,?_,?_,?_,?_,?_,?_,?_,?_,trivial⟩
         all_goals intro L V X a ev dG hdf hL ax hJ
         ·have hwx:=hJ.wx;subst hwx;have o1:=dG 1 rfl;change a.tmps[1]?.getD undef=.pointer (some ⟨bt,0,none⟩)at o1;go_simp;exact⟨_,rfl,{hJ with no:=by rw[aF _ dc];exact hJ.no,v0:=fun _=>rfl}⟩
         ·have hwx:=hJ.wx;subst hwx;have o1:=dG 1 rfl;change a.tmps[1]?.getD undef=.pointer (some ⟨bt,0,none⟩)at o1;go_simp;exact⟨_,rfl,{hJ with no:=by rw[aF _ dc];exact hJ.no,v1:=fun _=>rfl}⟩
         ·have hwx:=hJ.wx;subst hwx;have e29:=(ev 1 29 rfl (ax 1 rfl)).trans (hJ.v1 (ax 1 rfl));go_simp;exact⟨_,rfl,{hJ with no:=by rw[aF _ dc];exact hJ.no,v2:=fun _=>rfl}⟩
         ·have hwx:=hJ.wx;subst hwx;have e30:=(ev 2 30 rfl (ax 2 rfl)).trans (hJ.v2 (ax 2 rfl));go_simp;exact⟨_,rfl,{hJ with no:=by rw[aF _ dc];exact hJ.no,v3:=fun _=>rfl}⟩
         ·have hwx:=hJ.wx;subst hwx;have e31:=(ev 3 31 rfl (ax 3 rfl)).trans (hJ.v3 (ax 3 rfl));have q5:=aj (((Step.refl (fun _=>False) w6).drew).keep fG.o.blk (fun h=>h)) 5 _ rfl;go_simp;exact⟨_,rfl,{hJ with no:=by rw[aF _ dc];exact hJ.no,v4:=fun _=>rfl}⟩
         ·have hwx:=hJ.wx;subst hwx;have o2:=dG 2 rfl;change a.tmps[2]?.getD undef=.pointer (some ⟨w.heap.size,0,none⟩)at o2;go_simp;exact⟨_,rfl,{hJ with no:=by rw[aF _ dc];exact hJ.no,v5:=fun _=>rfl}⟩
         ·have hwx:=hJ.wx;subst hwx;have e33:=(ev 5 33 rfl (ax 5 rfl)).trans (hJ.v5 (ax 5 rfl));have q0:=cZ.o w6.drew (fG.o.st.trans (bK.drew));go_simp;exact⟨_,rfl,{hJ with no:=by rw[aF _ dc];exact hJ.no,v6:=fun _=>rfl}⟩
         ·have hwx:=hJ.wx;subst hwx;have e34:=(ev 6 34 rfl (ax 6 rfl)).trans (hJ.v6 (ax 6 rfl));go_simp;refine(G8.o _ (fG.o.rd.quiet (bK.drew))).mono ?_;rintro e wq ⟨rfl,hs⟩;exact⟨hdf,FB.o wq hs⟩
         ·have hwx:=hJ.wx;subst hwx;exact absurd hJ.no (by rw[ax 7 rfl];decide)
         ·have hwx:=hJ.wx;subst hwx;exact absurd hJ.no (by rw[ax 7 rfl];decide)
         ·have hwx:=hJ.wx;subst hwx;have e28:=(ev 0 28 rfl (ax 0 rfl)).trans (hJ.v0 (ax 0 rfl));go_simp;exact⟨_,rfl,{hJ with no:=by rw[aF _ dc];exact hJ.no,v10:=fun _=>rfl}⟩
         ·have hwx:=hJ.wx;subst hwx;have e38:=(ev 10 38 rfl (ax 10 rfl)).trans (hJ.v10 (ax 10 rfl));go_simp;exact⟨_,rfl,{hJ with no:=by rw[aF _ dc];exact hJ.no,v11:=fun _=>rfl}⟩
         ·have hwx:=hJ.wx;subst hwx;exact absurd hJ.no (by rw[ax 7 rfl];decide)
        case hdone=>intro L V X hall hJ;exact absurd hJ.no (by rw[hall 7 dc];decide)
       |ok s j7=>
        have HN:=au hn;have HSS:=au (fV HL.o fG.o.rd.lt hn);(have G8:Hid (∀X,bI R X j6 d→Calls Tryz.prog 113 #[.pointer (some ⟨R.rb,0,none⟩)] X fun e w'=>e=.returned (.string s)∧bI R w' j7 d∧Step (·=R.rb) X w'):=by intro X hX;refine(name_any R HL.o X j6 d hX).mono ?_;intro e w' hp;rw[HN.o]at hp;obtain⟨⟨v,he,hv⟩,h1,h2⟩:=hp;exact⟨by rw[he,hv],h1,h2⟩);(have Ic:Hid (r=(if bF R.l j7 [44]then barsR gn R.l (j7+1) (ns++[s])else(aH R.l j7 [124]).bind fun _ j=>.ok (ns++[s]) j).bind fun ns j=>(bJ f R.l j d).bind fun b j=>.ok (nm,ns,b) j):=by show _=_;rw[uD.o,HN.o];rfl);clear hn;go_cut [] (fun wx=>∃v9:Value,y9 R w1 bt nm t d wx j7 (ns++[s]) v9);case first=>
         first
         |(go_region_law (first
             |(refine n_ _ rfl (w8.heap.size+1) (.tmp 32) (.tmp 36) 40 rfl w1.heap.size 9 i0 (.string ⟨#[]⟩) 1 16 Tryz.underlying40 HI.o HZ0.o HZ1.o HZ2.o rfl dc _ _ _ (by simp[Act.eval]) Vr.o _ 1 _ (by simp[Act.eval]) MK.o rfl ML.o (by unfold maxLen;omega) om Vs.o ?_;intro v9 w9 gZ gU pF;obtain⟨a9,c9,rfl⟩:=aV gZ;have lI:Hid (y9 R w1 bt nm t d (w9.setCell ⟨bt,5,none⟩ (.slice a9 (ns.length+1) c9)) j7 (ns++[s]) (.slice a9 (ns.length+1) c9)):=jO.o.push hrb om (bK.alloc _) gZ gU HSS.o JK;have hbb:=(bQ gU).keep (aP (o':=.cells #[a_ s] 9) jO.o.blk) (fun e=>by have:=(jO.o.on.lt _ e).1;omega);have bt5':=aj hbb 5 _ rfl;have bz5':=aI hbb 5;clear hbb gZ gU pF)
             |(go_simp;go_at_call 113;refine(G8.o _ (fG.o.rd.quiet (bK.drew))).mono ?_;rintro e8 w8 ⟨rfl,vW,hs8⟩;have jO:=au ((fG.o.quiet (bK.drew)).read hrb om vW hs8);have Vr:Hid ((w8.alloc (.cells #[a_ s] 9)).ownsRow w1.heap.size 9 1 (.slice oa ns.length oc) ns.length (ns.map .string)):=jO.o.on.alloc _;have MK:Hid (Row (w8.alloc (.cells #[a_ s] 9)) (w8.heap.size+1) (.slice (some ⟨w8.heap.size,0,none⟩) 1 1) 1 [.string s]):=Row.new (aC _ _) dc;have ML:Hid (∀u∈[Value.string s],u.oneCell'=true):=by
                show∀u∈_,_
                intro u hu
                simp at hu
                subst hu;rfl
               have Vs:Hid (w1.heap.size≤(w8.alloc (.cells #[a_ s] 9)).heap.size):=by
                show _≤_
                have:=jO.o.st.size
                simp;omega
               have bt58:=aj jO.o.blk 5 _ rfl
               have bt59:=aj (aP (o':=.cells #[a_ s] 9) jO.o.blk) 5 _ rfl
               clear vW hs8)))
         |fail
         all_goals (
          clear p0 zT
          go_wp2_with fail
          go_meet
          case rel=>exact⟨_,lI.o⟩)
        case rest=>
         obtain⟨v9,hls⟩:=hcut;obtain⟨w9,rfl⟩:=aN wc;have iR:=au hls;clear hls p0 zT;have p0:=cZ.o w9 iR.o.st;go_wp2_with fail;cases hc:bF R.l j7 [44]with
         |true=>
          have HC:=au hc;clear hc;refine(dA R HL.o ⟨#[44]⟩ _ j7 d iR.o.rd dc HC.o).mono ?_;rintro e wa ⟨rfl,hra,sa⟩;have jB:=au (iR.o.read hrb om hra sa);(have mP:=au (bpQ Ic.o HC.o));clear hra sa p0;go_wp2_with fail;go_roundg gn;case rel=>exact⟨by omega,j7+1,ns++[s],v9,mP.o,jB.o⟩
          case measure=>omega
         |false=>
          have HC:=au hc;clear hc;refine(dQ R HL.o ⟨#[44]⟩ _ j7 d iR.o.rd dc HC.o).mono ?_;rintro e wa ⟨rfl,hra,sa⟩;have jB:=au (iR.o.read hrb om hra sa);(have mP:=au (bmQ Ic.o HC.o));clear hra sa p0;have p0:=cZ.o wa jB.o.st;go_wp2_with fail;refine(dP R HL.o wa.heap.size ⟨#[124]⟩ _ j7 d (jB.o.rd.quiet (bK.alloc _)) dc (aj (aC _ _) 0 _ rfl)).mono ?_;rintro e wb hp;have hp2:aJ R d iQ (aH R.l j7 [124]) _ e wb:=hp;cases hn:aH R.l j7 [124]with
          |out=>exact(dJ hn).elim
          |err c ln col=>rw[hn]at hp2;obtain⟨rfl,sb⟩:=hp2;refine⟨rfl,bg.aZ (c:=c) (ln:=ln) (col:=col) (by rw[mP.o,hn];rfl) rfl ?_⟩;exact((dH.o.mono fe).trans jB.o.st).trans ((((Step.refl (·=R.rb) _).alloc _).trans sb).mono il)
          |ok u2 j9=>have VL:=au hn;rw[hn]at hp2;obtain⟨⟨v,rfl,rfl⟩,wu,sb⟩:=hp2;have uq:=au (jB.o.read hrb om wu (((Step.refl (·=R.rb) _).alloc _).trans sb));(have kU:Hid (r=((bJ f R.l j9 d).bind fun b j=>.ok (nm,ns++[s],b) j)):=by show _=_;rw[mP.o,VL.o];rfl);clear hn wu sb p0 hp;go_wp2_with fail;go_meet;case rel=>exact⟨j9,ns++[s],v9,kU.o,uq.o⟩
   case rest=>
    obtain⟨jn,ns,vn,hrn,hls⟩:=hcut;obtain⟨w9,rfl⟩:=aN wc;have iR:=au hls;have pG:=au hrn;clear hls hrn p0;have p0:=cZ.o w9 iR.o.st;go_wp2_with fail;refine(IH.o R w9 jn d HL.o iR.o.rd hd (fun e=>eX.o (by rw[pG.o,e];rfl))).mono ?_;rintro e wa hp;have hp2:aJ R d (SL w9.heap.size) (bJ f R.l jn d) _ e wa:=hp;cases hn:bJ f R.l jn d with
    |out=>exact absurd (by rw[pG.o,hn];rfl) eX.o
    |err c ln col=>rw[hn]at hp2;obtain⟨rfl,sa⟩:=hp2;refine⟨rfl,bg.aZ (c:=c) (ln:=ln) (col:=col) (by rw[pG.o,hn];rfl) rfl ?_⟩;exact((dH.o.mono fe).trans iR.o.st).trans (sa.mono il)
    |ok bs ja=>have VL:=au hn;rw[hn]at hp2;obtain⟨⟨vb,rfl,xb,hrow,hels⟩,hra,sa⟩:=hp2;(obtain⟨ab,cb,rfl,hvb⟩:∃(ab:Option Addr) (cb:Nat),vb=.slice ab bs.length cb∧cu wa (fun k=>w9.heap.size≤k) (.slice ab bs.length cb) bs.length xb:=by obtain⟨ab,cb,hv,-⟩:=id hrow;exact⟨ab,cb,hv,by rw[←hv];exact hrow⟩);have HROW:=au hvb;have HELS:=au hels;have HRA2:=au hra;have jB:=au (iR.o.read hrb om hra sa);have CJ:=au sa;clear hn hrow hels hra sa hvb p0 hp;have bt6:=aj jB.o.blk 6 _ rfl;have bz6:=aI jB.o.blk 6;have gq:Hid (Step (·=bt) wa (wa.setCell ⟨bt,6,none⟩ (.slice ab bs.length cb))):=(Step.refl (·=bt) _).setCell _ _ iW;have HBTE:Hid ((wa.setCell ⟨bt,6,none⟩ (.slice ab bs.length cb)).heap[bt]?=some (.cells #[ak 17,a_ nm,cO 0,aT,ay,vn,.slice ab bs.length cb,ak t.line,ak t.col] 56 (0,0))):=aW jB.o.blk 6 (.slice ab bs.length cb);have h9:=iR.o.st.size;have hsa:=CJ.o.size;go_wp2_with fail;refine bodyPost_end (results_none rfl _ _ _) rfl ?_;refine bg.dU (a:=(nm,ns,bs)) (j:=ja) (by rw[pG.o,VL.o];rfl) rfl ⟨xb,vn,_,HBTE.o,S9.o,iR.o.sz,cu.eu (jM jB.o.on gq.o (fun q hq e=>by have:=(jB.o.on.lt q hq).1;omega)) (fun q hq=>by have:=(jB.o.on.lt q hq).1;have:=dH.o.size;omega),iO.mono (fun q _ hq=>by have:=dH.o.size;omega) _ _ (iO.step gq.o oi _ _ HELS.o),(HROW.o.step gq.o oi).mono (fun q _ hq=>by have:=dH.o.size;omega)⟩ (jB.o.rd.step gq.o oi) ?_;exact((dH.o.mono fe).trans jB.o.st).trans (gq.o.mono ir)
structure y_ {α:Type} (At:World→(Nat→Prop)→α→Value→Prop):Prop where
 step:∀{w w':World} {P S:Nat→Prop} (a:α) (v:Value),Step S w w'→(∀k,P k→¬S k)→At w P a v→At w' P a v
 mono:∀{w:World} {P P':Nat→Prop} (a:α) (v:Value),(∀k,k<w.heap.size→P k→P' k)→At w P a v→At w P' a v
def Bf (w:World) (P:Nat→Prop) (a:Ex) (v:Value):Prop:=∃cs:List Value,v=.agg cs.toArray∧fA w P a cs
def CP (w:World) (P:Nat→Prop) (a:Ty) (v:Value):Prop:=∃cs:List Value,v=.agg cs.toArray∧iC w P a cs
def iP (w:World) (P:Nat→Prop) (l:List Ex) (v:Value):Prop:=∃xs:List Value,cu w P v l.length xs∧dM w P l xs
def gX (w:World) (P:Nat→Prop) (l:List St) (v:Value):Prop:=∃xs:List Value,cu w P v l.length xs∧iO w P l xs
def bV (w:World) (P:Nat→Prop) (l:List ByteArray) (v:Value):Prop:=(∀s∈l,s.size≤9223372036854775807)∧cu w P v l.length (l.map .string)
theorem Dc:y_ Bf:=⟨fun _ _ hs hP ⟨cs,h1,h2⟩=>⟨cs,h1,fA.step hs hP _ cs h2⟩,fun _ _ hp ⟨cs,h1,h2⟩=>⟨cs,h1,fA.mono hp _ cs h2⟩⟩
theorem pY:y_ CP:=⟨fun _ _ hs hP ⟨cs,h1,h2⟩=>⟨cs,h1,iC.step hs hP _ cs h2⟩,fun _ _ hp ⟨cs,h1,h2⟩=>⟨cs,h1,iC.mono hp _ cs h2⟩⟩
theorem jG:y_ iP:=⟨fun _ _ hs hP ⟨xs,h1,h2⟩=>⟨xs,h1.step hs hP,dM.step hs hP _ xs h2⟩,fun _ _ hp ⟨xs,h1,h2⟩=>⟨xs,h1.mono hp,dM.mono hp _ xs h2⟩⟩
theorem kM:y_ gX:=⟨fun _ _ hs hP ⟨xs,h1,h2⟩=>⟨xs,h1.step hs hP,iO.step hs hP _ xs h2⟩,fun _ _ hp ⟨xs,h1,h2⟩=>⟨xs,h1.mono hp,iO.mono hp _ xs h2⟩⟩
theorem aX:y_ bV:=⟨fun _ _ hs hP ⟨h1,h2⟩=>⟨h1,h2.step hs hP⟩,fun _ _ hp ⟨h1,h2⟩=>⟨h1,h2.mono hp⟩⟩
theorem cu.parts {w:World} {P:Nat→Prop} {v:Value} {n:Nat} {xs:List Value} (h:cu w P v n xs):∃(a:Option Addr) (c:Nat),v=.slice a n c:=by obtain⟨a,c,h,-⟩:=h;exact⟨a,c,h⟩
theorem iP.parts {w:World} {P:Nat→Prop} {l:List Ex} {v:Value} (h:iP w P l v):∃(a:Option Addr) (c:Nat),v=.slice a l.length c:=by obtain⟨_,h,-⟩:=h;exact h.parts
theorem gX.parts {w:World} {P:Nat→Prop} {l:List St} {v:Value} (h:gX w P l v):∃(a:Option Addr) (c:Nat),v=.slice a l.length c:=by obtain⟨_,h,-⟩:=h;exact h.parts
theorem iP.nil (w:World) (P:Nat→Prop):iP w P [] (.slice none 0 0):=⟨[],cu.nil _ _ _,by rw[dM]⟩
theorem gX.nil (w:World) (P:Nat→Prop):gX w P [] (.slice none 0 0):=⟨[],cu.nil _ _ _,by rw[iO]⟩
theorem bV.nil (w:World) (P:Nat→Prop):bV w P [] (.slice none 0 0):=⟨lu,cu.nil _ _ _⟩
theorem iP.single {w:World} {P:Nat→Prop} {x:Ex} {cs:List Value} {b t:Nat} (h:fA w P x cs) (hb:w.heap[b]?=some (.cells cs.toArray t (0,0))) (hp:P b):iP w P [x] (.slice (some ⟨b,0,none⟩) 1 1):=⟨cs,cu.new hb dc hp,dM.single h⟩
theorem Bf.mk {w:World} {P:Nat→Prop} {k:Int} {nm:ByteArray} {v:Int} {m:Bool} {al:List Ex} {ns:List ByteArray} {bs:List St} {l c:Int} {va vn vb:Value} (h1:nm.size≤9223372036854775807) (ha:iP w P al va) (hn:bV w P ns vn) (hb:gX w P bs vb):fA w P (.mk k nm v m al ns bs l c) [.int .i64 k,.string nm,.int .u64 v,.bool m,va,vn,vb,.int .i64 l,.int .i64 c]:=by obtain⟨xa,a1,a2⟩:=ha;obtain⟨xb,b1,b2⟩:=hb;rw[fA];exact⟨va,vn,vb,xa,xb,rfl,h1,hn.1,a2,a1,hn.2,b2,b1⟩
structure Sv (R:gJ) (w1:World) (b d:Nat) (I:World→Prop) (X:World) (i:Nat) (o:Obj):Prop where
 rd:bI R X i d
 blk:X.heap[b]?=some o
 st:Step (fun q=>q=R.rb∨q=b) w1 X
 inv:I X
def gG (R:gJ) (b n:Nat) (I:World→Prop):Prop:=∀X Y,n≤X.heap.size→Step (fun q=>q=R.rb∨q=b) X Y→I X→I Y
theorem gG.yes {R:gJ} {b n:Nat}:gG R b n (fun _=>True):=fun _ _ _ _ _=>trivial
theorem gG.and {R:gJ} {b n:Nat} {I J:World→Prop} (h:gG R b n I) (k:gG R b n J):gG R b n (fun X=>I X∧J X):=fun X Y hn hs hi=>⟨h X Y hn hs hi.1,k X Y hn hs hi.2⟩
theorem gG.at {α:Type} {At:World→(Nat→Prop)→α→Value→Prop} (hA:y_ At) {R:gJ} {b n:Nat} (h1:R.rb<b) (h2:b<n) (a:α) (v:Value):gG R b n (fun X=>At X (fun q=>n≤q) a v):=
 fun X Y _ hs hi=>hA.step a v hs oi hi
section
variable {R : gJ} {w1 : World} {b d : Nat} {I : World → Prop} {X X' : World} {i j : Nat} {o : Obj}
theorem Sv.quiet (h:Sv R w1 b d I X i o) (hI:gG R b w1.heap.size I) (hs:StF X X'):Sv R w1 b d I X' i o:=
 ⟨h.rd.quiet hs,hs.keep h.blk (fun h=>h),h.st.trans (hs.mono fe),hI X X' h.st.size (hs.mono fe) h.inv⟩
theorem Sv.read (h:Sv R w1 b d I X i o) (hI:gG R b w1.heap.size I) (hb:R.rb<b) (hr:bI R X' j d) (hs:Step (·=R.rb) X X'):Sv R w1 b d I X' j o:=
 ⟨hr,hs.keep h.blk om,h.st.trans (hs.mono il),hI X X' h.st.size (hs.mono il) h.inv⟩
theorem Sv.write (h:Sv R w1 b d I X i o) (hI:gG R b w1.heap.size I) {o':Obj} (hr:bI R X' j d) (hb:X'.heap[b]?=some o') (hs:Step (fun q=>q=R.rb∨q=b) X X'):Sv R w1 b d I X' j o':=
 ⟨hr,hb,h.st.trans hs,hI X X' h.st.size hs h.inv⟩
theorem Sv.set {cs:Array Value} {t:Nat} (h:Sv R w1 b d I X i (.cells cs t (0,0))) (hI:gG R b w1.heap.size I) (hb:R.rb<b) (k:Nat) (v:Value):Sv R w1 b d I (X.setCell ⟨b,k,none⟩ v) i (.cells (cs.setIfInBounds k v) t (0,0)):=by have hs:Step (·=b) X (X.setCell ⟨b,k,none⟩ v):=(Step.refl (·=b) _).setCell _ _ iW;have hs2:Step (fun q=>q=R.rb∨q=b) X (X.setCell ⟨b,k,none⟩ v):=hs.mono ir;exact⟨h.rd.step hs oi,aW h.blk k v,h.st.trans hs2,hI _ _ h.st.size hs2 h.inv⟩
theorem Sv.err (h:Sv R w1 b d I X i o) (hs:Step (·=R.rb) X X'):Step (fun q=>q=R.rb∨q=b) w1 X':=h.st.trans (hs.mono il)
theorem Sv.got {α:Type} {At:World→(Nat→Prop)→α→Value→Prop} (hA:y_ At) {a:α} {v:Value} (h:Sv R w1 b d I X i o) (hI:gG R b w1.heap.size I) (hb:R.rb<b) (hbw:b<w1.heap.size) (hr:bI R X' j d) (hs:Step (·=R.rb) X X') (ha:At X' (fun k=>X.heap.size≤k) a v):∃I',gG R b w1.heap.size I'∧(∀Y,I' Y→I Y∧At Y (fun k=>w1.heap.size≤k) a v)∧Sv R w1 b d I' X' j o:=by have h2:=h.read hI hb hr hs;refine⟨_,hI.and (gG.at hA hb hbw a v),fun _ h=>h,h2.rd,h2.blk,h2.st,h2.inv,hA.mono a v (fun k _ hk=> ?_) ha⟩;have:=h.st.size;omega
theorem Sv.keep (h:Sv R w1 b d I X i o) (hI:gG R b w1.heap.size I) {J:World→Prop} (hJ:gG R b w1.heap.size J) (hj:J X):∃I',gG R b w1.heap.size I'∧(∀Y,I' Y→I Y∧J Y)∧Sv R w1 b d I' X i o:=
 ⟨_,hI.and hJ,fun _ h=>h,h.rd,h.blk,h.st,h.inv,hj⟩
end
theorem aJ.aZ {α:Type} {R:gJ} {d:Nat} {At:World→α→Value→Prop} {r:dV α} {w w':World} {e:Ending} (c ln col:Nat) (hr:r=.err c ln col) (he:e=.panicked [{v:=.iface 251 (.agg #[ak c,ak ln,ak col]),recovered:=false}]) (hs:Step (·=R.rb) w w'):aJ R d At r w e w':=by rw[hr];exact⟨he,hs⟩
theorem aJ.dU {α:Type} {R:gJ} {d:Nat} {At:World→α→Value→Prop} {r:dV α} {w w':World} {e:Ending} {a:α} {j:Nat} {v:Value} (hr:r=.ok a j) (he:e=.returned v) (hv:At w' a v) (h:bI R w' j d) (hs:Step (·=R.rb) w w'):aJ R d At r w e w':=by rw[hr];exact⟨⟨v,he,hv⟩,h,hs⟩
theorem aU {cs:List Value} (h:(cs.all fun u=>u.oneCell')=true):∀u∈cs,u.oneCell'=true:=by simpa using h
theorem Sv.VN {R:gJ} {w1:World} {b d:Nat} {I:World→Prop} {X:World} {i:Nat} {o:Obj} {x:Ex} {cs:List Value} {t:Nat} (h:Sv R w1 b d I X i o) (hI:gG R b w1.heap.size I) (h1:R.rb<b) (h2:b<w1.heap.size) (hx:∀Y,I Y→Bf Y (fun q=>w1.heap.size≤q) x (.agg cs.toArray)):∃I',gG R b w1.heap.size I'∧(∀Y,I' Y→I Y∧iP Y (fun q=>w1.heap.size≤q) [x] (.slice (some ⟨X.heap.size,0,none⟩) 1 1))∧Sv R w1 b d I' (X.alloc (.cells cs.toArray t)) i o:=by
 have hq:=h.quiet hI ((Step.refl (fun _=>False) X).alloc (.cells cs.toArray t));refine hq.keep hI (gG.at jG h1 h2 _ _) ?_;obtain⟨cs',e,h3⟩:=hx _ hq.inv;obtain rfl:cs=cs':=by simpa using e
 exact iP.single h3 (aC _ _) h.st.size
theorem dV.bind_assoc {α β γ:Type} (r:dV α) (f:α→Nat→dV β) (g:β→Nat→dV γ):(r.bind f).bind g=r.bind fun a i=>(f a i).bind g:=by cases r<;>rfl
theorem Tf {β:Type} (f:Nat) (l:List Tok) (i d:Nat) (g:ByteArray→List ByteArray→List St→Nat→dV β):((aS l i).bind fun n j=>(aH l j [124]).bind fun _ j=>(if bF l j [124]then .ok [] (j+1)else barsR f l j []).bind fun ns j=>(bJ f l j d).bind fun b j=>g n ns b j)=(Be f l i d).bind fun p j=>g p.1 p.2.1 p.2.2 j:=by unfold Be;simp only[dV.bind_assoc,dV.bind_ok]
abbrev Er:=Int×Int×Int
def ErC (e:Er):List Value:=[.int .i64 e.1,.int .i64 e.2.1,.int .i64 e.2.2]
def Zd (l:List Er):List Value:=l.flatMap ErC
def Out (cb:Nat) (v:Value) (w:World):Nat→Prop:=fun k=>k<w.heap.size∧k≠cb∧v.ownBlock≠some k
structure Mv (cb:Nat) (w:World) (v:Value) (w':World) (v':Value):Prop where
 st:Step (fun k=>k=cb∨v.ownBlock=some k) w w'
 nw:v'.ownBlock=v.ownBlock∨∀q,v'.ownBlock=some q→w.heap.size≤q
theorem Out.off {cb:Nat} {v:Value} {w:World} {k:Nat} (h:Out cb v w k):¬(k=cb∨v.ownBlock=some k):=fun e=>e.elim h.2.1 h.2.2
theorem Mv.refl (cb:Nat) (w:World) (v:Value):Mv cb w v w v:=⟨Step.refl _ _,.inl rfl⟩
theorem Mv.quiet {cb:Nat} {w w':World} {v:Value} (h:StF w w'):Mv cb w v w' v:=⟨h.mono fun _ _ h=>h.elim,.inl rfl⟩
theorem Mv.trans {cb:Nat} {a b c:World} {v v1 v2:Value} (h1:Mv cb a v b v1) (h2:Mv cb b v1 c v2):Mv cb a v c v2 where
 st:=h1.st.then h2.st (fun i hi e=>by
  rcases e with rfl|e
  ·
   exact .inl rfl
  ·
   rcases h1.nw with h|h
   ·
    exact .inr (h▸e)
   ·
    have:=h i e;omega)
 nw:=by
  rcases h2.nw with h|h
  ·
   rw[h];exact h1.nw
  ·
   exact .inr fun q hq=>Nat.le_trans h1.st.size (h q hq)
theorem Mv.then {cb:Nat} {a b c:World} {v v1:Value} (h1:Mv cb a v b v1) (h2:StF b c):Mv cb a v c v1:=h1.trans (Mv.quiet h2)
theorem Mv.out {cb:Nat} {w w':World} {v v':Value} (h:Mv cb w v w' v') {k:Nat} (hk:Out cb v w k):Out cb v' w' k:=
 ⟨Nat.lt_of_lt_of_le hk.1 h.st.size,hk.2.1,fun e=>by
  rcases h.nw with h1|h1
  ·
   exact hk.2.2 (h1▸e)
  ·
   have:=h1 k e;have:=hk.1;omega⟩
theorem y_.mv {α:Type} {At:World→(Nat→Prop)→α→Value→Prop} (hA:y_ At) {cb:Nat} {w w':World} {v v' u:Value} {a:α} (h:Mv cb w v w' v') (hx:At w (Out cb v w) a u):At w' (Out cb v' w') a u:=
 hA.mono _ _ (fun _ _ hk=>h.out hk) (hA.step _ _ h.st (fun _ hk e=>hk.off e) hx)
theorem Mv.keep {cb b:Nat} {w w':World} {v v':Value} {o:Obj} (h:Mv cb w v w' v') (hb:w.heap[b]?=some o) (ho:Out cb v w b):w'.heap[b]?=some o:=h.st.keep hb ho.off
structure VO (TA:World→(Nat→Prop)→Prop):Prop where
 step:∀{w w':World} {P S:Nat→Prop},Step S w w'→(∀k,P k→¬S k)→TA w P→TA w' P
 mono:∀{w:World} {P P':Nat→Prop},(∀k,k<w.heap.size→P k→P' k)→TA w P→TA w P'
structure mQ (cb:Nat) (u:Value) (TA:World→(Nat→Prop)→Prop) (w:World) (v:Value) (es:List Er):Prop where
 blk:w.heap[cb]?=some (.cells #[u,v] 130 (0,0))
 own:w.ownsRow (cb+1) 27 3 v es.length (Zd es)
 tab:TA w (Out cb v w)
 ok:VO TA
theorem VO.mv {TA:World→(Nat→Prop)→Prop} (hA:VO TA) {cb:Nat} {w w':World} {v v':Value} (h:Mv cb w v w' v') (hx:TA w (Out cb v w)):TA w' (Out cb v' w'):=
 hA.mono (fun _ _ hk=>h.out hk) (hA.step h.st (fun _ hk e=>hk.off e) hx)
section
variable {cb : Nat} {u : Value} {TA : World → (Nat → Prop) → Prop} {w w' : World} {v : Value} {es : List Er}
theorem mQ.quiet (h:mQ cb u TA w v es) (hs:StF w w'):mQ cb u TA w' v es:=
 ⟨hs.keep h.blk (fun h=>h),hs.owns h.own (fun _ _ h=>h),h.ok.mv (Mv.quiet hs) h.tab,h.ok⟩
theorem mQ.new (h:mQ cb u TA w v es) {k:Nat} (h1:w.heap.size≤k) (h2:k<w'.heap.size):Out cb v w' k:=by have h3:=aK h.blk;refine⟨h2,by omega,fun e=> ?_⟩;have:=(h.own.lt k e).2;omega
end
theorem Tryz.Ze:(Tryz.prog.info? 27).map (fun i=>(i.zero,i.size,i.bytes))=some (some (.agg #[ak 0,ak 0,ak 0]),3,24):=by kernel_rfl
def ny (cb:Nat) (u:Value) (TA:World→(Nat→Prop)→Prop) (w:World) (v:Value) (es:List Er) (e:Ending) (w':World):Prop:=
 e=.returned (.tuple #[])∧∃v',mQ cb u TA w' v' es∧Mv cb w v w' v'
theorem fB (cb:Nat) (u:Value) (TA:World→(Nat→Prop)→Prop) (c ln cl:Int) (es:List Er) (v:Value) (w:World) (h:mQ cb u TA w v es) (hl:es.length≤1000000000):Calls Tryz.prog 97 #[.pointer (some ⟨cb,0,none⟩),.int .i64 c,.agg #[ak ln,ak cl]] w (ny cb u TA w v (es++[(c,ln,cl)])):=by
 have H:=au h;obtain⟨ao,co,rfl⟩:=aV h.own;obtain⟨i0,hi0,hz0,hz1,hz2⟩:=info_parts Tryz.Ze;have HI:=au hi0;have HZ0:=au hz0;have HZ1:=au hz1;have HZ2:=au hz2;obtain⟨w1,hw1⟩:=aN (w.alloc (.cells #[ak ln,ak cl] 25));have HST:=nS hw1
 have HB1:=nB hw1
 have HW1:=au hw1;have qm:=au (h.quiet HST.o);clear h hi0 hz0 hz1 hz2 hw1;go_enter Tryz.func97,Tryz.ntmps97;go_upto_region 1 with fail
 rw[←HW1.o];have d0:=aj HB1.o 0 _ rfl;have d1:=aj HB1.o 1 _ rfl;have f1:=aj qm.o.blk 1 _ rfl;have f1A:=dX (o:=.cells #[ak c,ak ln,ak cl] 27) f1;have STA:Hid (StF w1 (w1.alloc (.cells #[ak c,ak ln,ak cl] 27)).drew):=(bK.alloc _).drew;have YG:=au (qm.o.quiet STA.o);have hcb:=aK YG.o.blk;have HRW:Hid (Row (w1.alloc (.cells #[ak c,ak ln,ak cl] 27)).drew (w1.heap.size+1) (.slice (some ⟨w1.heap.size,0,none⟩) 1 1) 1 [.int .i64 c,.int .i64 ln,.int .i64 cl]):=Row.new (cs:=[.int .i64 c,.int .i64 ln,.int .i64 cl]) (Aq (aC _ _)) dc;first
 |(go_region_law (first
     |(refine n_ _ rfl (w1.heap.size+1) (.tmp 10) (.tmp 14) 61 rfl (cb+1) 27 i0 (.agg #[ak 0,ak 0,ak 0]) 3 24 Tryz.underlying61 HI.o HZ0.o HZ1.o HZ2.o rfl dc _ _ _ (by simp[Act.eval]) YG.o.own _ 1 _ (by simp[Act.eval]) HRW.o rfl (aU rfl) (by unfold maxLen;omega) om om ?_;intro v6 w6 hown hgrow hat;obtain⟨oa6,oc6,rfl⟩:=aV hown;have Zf:w6.heap[cb]?=some (.cells #[u,.slice ao es.length co] 130 (0,0)):=zJ hgrow YG.o.blk (fun k hk e=>by have:=(YG.o.own.lt k hk).1;omega);have c16:=aj Zf 1 _ rfl;have d16:=aI Zf 1;have HAB6:=au Zf;have HOWN6:=au hown;have HGROW6:=au hgrow;have HAT6:Hid (Value.ownBlock (.slice oa6 (es.length+1) oc6)=(Value.slice ao es.length co).ownBlock∨Value.ownBlock (.slice oa6 (es.length+1) oc6)=some ((w1.alloc (.cells #[ak c,ak ln,ak cl] 27)).drew).heap.size):=hat;clear Zf hown hgrow hat)))
 |fail
 all_goals (
  refine bodyPost_ret (results_none rfl _ _ _) rfl ?_
  have e1:Step (fun q=>q=cb∨(Value.slice ao es.length co).ownBlock=some q) w w6:=((HST.o.trans STA.o).mono fe).trans ((bQ HGROW6.o).mono (fun _ _ h=>.inr h))
  have hm:Mv cb w (.slice ao es.length co) (w6.setCell ⟨cb,1,none⟩ (.slice oa6 (es.length+1) oc6)) (.slice oa6 (es.length+1) oc6):=by
   refine⟨e1.setCell _ _ (fun _=>.inl rfl),?_⟩
   rcases HAT6.o with h|h
   ·
    exact .inl h
   ·
    refine .inr (fun q hq=> ?_)
    rw[h]at hq
    cases hq
    exact(HST.o.trans STA.o).size
  refine⟨rfl,_,⟨aW HAB6.o 1 _,?_,H.o.ok.mv hm H.o.tab,H.o.ok⟩,hm⟩
  have hec:Zd (es++[(c,ln,cl)])=Zd es++[.int .i64 c,.int .i64 ln,.int .i64 cl]:=by simp[Zd,ErC]
  rw[List.length_append,hec]
  exact ownsRow_setCell_below HOWN6.o (a:=⟨cb,1,none⟩) (Nat.lt_succ_self _) _)
structure Sc where
 aB:List ByteArray
 types:List ByteArray
 dF:Bool
def IX (w:World) (P:Nat→Prop) (s:Sc) (x:Value):Prop:=∃(a1:Option Addr) (c1:Nat) (a2:Option Addr) (c2:Nat),x=.agg #[.slice a1 s.aB.length c1,.slice a2 s.types.length c2,dW s.dF]∧bV w P s.aB (.slice a1 s.aB.length c1)∧bV w P s.types (.slice a2 s.types.length c2)
theorem jk:y_ IX:=⟨fun _ _ hs hP ⟨a1,c1,a2,c2,h,h1,h2⟩=>⟨a1,c1,a2,c2,h,aX.step _ _ hs hP h1,aX.step _ _ hs hP h2⟩,fun _ _ hp ⟨a1,c1,a2,c2,h,h1,h2⟩=>⟨a1,c1,a2,c2,h,aX.mono _ _ hp h1,aX.mono _ _ hp h2⟩⟩
def stat:ByteArray:=⟨#[39,115,116,97,116,105,99]⟩
def jI (ls:List ByteArray) (x:ByteArray) (ln cl:Int):List Er:=if eqS x stat||ls.any (eqS x)then[]else[(8,ln,cl)]
theorem Ti (ls:List ByteArray) (x:ByteArray) (ln cl:Int):(jI ls x ln cl).length≤1:=by unfold jI;split<;>simp
theorem rC (cb:Nat) (u:Value) (TA:World→(Nat→Prop)→Prop) (x:ByteArray) (s:Sc) (us:Value) (ln cl:Int) (es:List Er) (v:Value) (w:World) (h:mQ cb u TA w v es) (hs:IX w (Out cb v w) s us) (hl:es.length≤1000000000):Calls Tryz.prog 117 #[.pointer (some ⟨cb,0,none⟩),.string x,us,.agg #[ak ln,ak cl]] w (ny cb u TA w v (es++jI s.aB x ln cl)):=by
 obtain⟨a1,c1,a2,c2,rfl,hs1,hs2⟩:=hs;obtain⟨w1,hw1⟩:=aN ((w.alloc (.cells #[.slice a1 s.aB.length c1,.slice a2 s.types.length c2,dW s.dF] 138)).alloc (.cells #[ak ln,ak cl] 25));have HST:=nT hw1
 have HB0:=nC hw1
 have HB1:=nD hw1
 have HW1:=au hw1;have qm:=au (h.quiet HST.o);have HN:Hid (Calls Tryz.prog 104 #[.slice a1 s.aB.length c1,.string x] w1 fun e w'=>e=.returned (.bool (s.aB.any (eqS x)))∧StF w1 w'):=kD _ x _ _ _ (hs1.2.step HST.o (fun _ _ h=>h));clear h hw1 hs1 hs2;obtain⟨E,hE⟩:=aN (jI s.aB x ln cl);rw[←hE];have HE:Hid (E=if eqS x stat||s.aB.any (eqS x)then[]else[(8,ln,cl)]):=hE;obtain⟨bc,hbc⟩:=aN (s.aB.any (eqS x));rw[←hbc]at HE HN;clear hE hbc;go_enter Tryz.func117,Tryz.ntmps117;go_upto_region 1 with fail
 rw[←HW1.o];have d0:=aj HB0.o 0 _ rfl;cases hp:(x.toList==[39,115,116,97,116,105,99])with
 |true=>
  have HE2:Hid (E=[]):=by show _=_;rw[HE.o,show eqS x stat=true from mg hp];rfl
  go_wp2_with fail;refine bodyPost_ret (results_none rfl _ _ _) rfl ?_;exact⟨rfl,v,by rw[HE2.o,List.append_nil];exact qm.o,Mv.quiet HST.o⟩
 |false=>
  have HE2:Hid (E=if bc then[]else[(8,ln,cl)]):=by show _=_;rw[HE.o,show eqS x stat=false from mg hp,Bool.false_or]
  go_wp2_with fail;refine HN.o.mono ?_;rintro e w2 ⟨rfl,h2⟩;have HC2:=au (qm.o.quiet h2);have qx:=au (HST.o.trans h2);have d1:=h2.keep HB1.o (fun h=>h);have e0:=aj d1 0 _ rfl;have e1:=aj d1 1 _ rfl;clear h2 d1 d0;cases bc with
  |true=>go_wp2_with fail;refine bodyPost_ret (results_none rfl _ _ _) rfl ?_;exact⟨rfl,v,by simpa[HE2.o]using HC2.o,Mv.quiet qx.o⟩
  |false=>go_wp2_with fail;refine(fB cb u TA 8 ln cl es v _ HC2.o hl).mono ?_;rintro e w3 ⟨rfl,v3,h3,h4⟩;have uF:=au h3;have qV:=au ((Mv.quiet qx.o).trans h4);clear h3 h4;go_wp2_with fail;refine bodyPost_ret (results_none rfl _ _ _) rfl ?_;exact⟨rfl,v3,by simpa[HE2.o]using uF.o,qV.o⟩
theorem dL {a b c:List Er} {n:Nat} (h:a++b=c) (hc:c.length≤n):a.length≤n:=by have:=congrArg List.length h;simp at this;omega
theorem fZ {a x b c:List Er} (h:a++(x++b)=c):(a++x)++b=c:=by rw[List.append_assoc];exact h
def sW (ln cl:Int):List ByteArray→List ByteArray→List Er
 |_,[]=>[]
 |d,x::r=>(if eqS x stat||d.any (eqS x)then[(4,ln,cl)]else[])++sW ln cl (d++[x]) r
theorem Zg {ln cl:Int} {l:List ByteArray} {k:Nat} {x:ByteArray} (h:l[k]?=some x):sW ln cl (l.take k) (l.drop k)=(if eqS x stat||(l.take k).any (eqS x)then[(4,ln,cl)]else[])++sW ln cl (l.take (k+1)) (l.drop (k+1)):=by obtain⟨hk,rfl⟩:=List.getElem?_eq_some_iff.1 h;rw[List.drop_eq_getElem_cons hk,sW,List.take_succ_eq_append_getElem hk]
theorem zW (cb:Nat) (u:Value) (TA:World→(Nat→Prop)→Prop) (l:List ByteArray) (vl:Value) (ln cl:Int) (es:List Er) (v:Value) (w:World) (h:mQ cb u TA w v es) (hn:bV w (Out cb v w) l vl) (hl:(es++sW ln cl [] l).length≤1000000000):Calls Tryz.prog 148 #[.pointer (some ⟨cb,0,none⟩),.agg #[ak ln,ak cl],vl] w (ny cb u TA w v (es++sW ln cl [] l)):=by
 obtain⟨a1,c1,rfl⟩:=hn.2.parts;obtain⟨w1,hw1⟩:=aN (w.alloc (.cells #[ak ln,ak cl] 25));have HST:=nS hw1
 have HB1:=nB hw1
 have HW1:=au hw1;have qm:=au (h.quiet HST.o);have HN:=au (aX.mv (Mv.quiet HST.o) hn);have HO:=au (h.new (k:=w.heap.size) (Nat.le_refl _) (aK HB1.o));obtain⟨tot,ht⟩:=aN (es++sW ln cl [] l);rw[←ht]at hl⊢;have HT:=au ht;clear h hw1 hn ht;go_enter Tryz.func148,Tryz.ntmps148;go_upto_region 1 with fail
 rw[←HW1.o];go_wp2_with fail;go_loopg [6,7,10] l.length (fun gg _ _ s10 wr=>∃(k:Nat) (cur:List Er) (v1:Value),s10=.int .i64 k∧k≤l.length∧l.length-k≤gg∧mQ cb u TA wr v1 cur∧Mv cb w1 v wr v1∧cur++sW ln cl (l.take k) (l.drop k)=tot);case atStart=>exact⟨0,es,v,rfl,Nat.zero_le _,by omega,qm.o,Mv.refl _ _ _,HT.o.symm⟩
 case round=>
  obtain⟨k,cur,v1,rfl,hk,hgg,hc,hm,he⟩:=hrel;have HC:=au hc;have HM:=au hm;have HE:=au he;clear hc hm he;by_cases hlt:k<l.length
  ·obtain⟨x,hx⟩:∃x,l[k]?=some x:=⟨l[k],List.getElem?_eq_getElem hlt⟩;have hn:=aX.mv HM.o HN.o;obtain⟨a',c',hva,hcl,hcm,-,hra⟩:=hn.2;(obtain⟨rfl,rfl⟩:a1=a'∧c1=c':=by cases hva;exact⟨rfl,rfl⟩);obtain⟨g,o,rfl,hg,hgw,hcell⟩:=hra om;have f0:=hcell k _ (kz l k x hx);have LH:Hid (Calls Tryz.prog 104 #[.slice (some ⟨g,o,none⟩) k c1,.string x] wr fun e w'=>e=.returned (.bool ((l.take k).any (eqS x)))∧StF wr w'):=by
    refine kD (Out cb v1 wr) x _ _ _ ?_;rw[List.length_take,Nat.min_eq_left hk];refine⟨_,c1,rfl,by omega,by omega,gQ,fun _=>⟨g,o,rfl,hg,hgw,fun i y hy=>hcell i y ?_⟩⟩;rw[List.map_take,List.getElem?_take]at hy;split at hy
    ·exact hy
    ·cases hy
   have HX:=au (Zg (ln:=ln) (cl:=cl) hx);have d1:=au (HM.o.keep HB1.o HO.o);obtain⟨bc,hbc⟩:=aN ((l.take k).any (eqS x));rw[←hbc]at HX LH;(have hkc:k≤c1:=by omega);(have hlb:l.length≤9223372036854775807:=by omega);(have Zh:(k:Int)≤(c1:Int):=by omega);clear hcell hx hn hva hcl hra hbc hg hgw;(have HRND:Hid (∀(w':World) (v':Value) (E:List Er),(if eqS x stat||bc then[((4:Int),ln,cl)]else[])=E→mQ cb u TA w' v' (cur++E)→Mv cb w1 v w' v'→(cur++E)++sW ln cl (l.take (k+1)) (l.drop (k+1))=tot):=by intro w' v' E hE _ _;rw[←hE,List.append_assoc,←HX.o];exact HE.o);cases hp:(x.toList==[39,115,116,97,116,105,99])with
   |true=>
    have HP:Hid (eqS x stat=true):=mg hp;have e0:=aj d1.out 0 _ rfl;have e1:=aj d1.out 1 _ rfl;go_wp2_with fail;refine(fB cb u TA 4 ln cl cur v1 _ HC.o (dL HE.o hl)).mono ?_;rintro e w3 ⟨rfl,v3,h3,h4⟩;have uF:=au h3;have qV:=au (HM.o.trans h4);clear h3 h4 e0 e1;go_wp2_with fail;go_roundg (gk-1);case rel=>exact⟨k+1,_,v3,by go_num,hlt,sbQ hgg,uF.o,qV.o,HRND.o _ _ _ (by rw[HP.o];rfl) uF.o qV.o⟩
    case measure=>omega
   |false=>
    have HP:Hid (eqS x stat=false):=mg hp;go_wp2_with fail;refine LH.o.mono ?_;rintro e w2 ⟨rfl,h2⟩;have HC2:=au (HC.o.quiet h2);have tK:=au (HM.o.then h2);have d2:=h2.keep d1.out (fun h=>h);have e0:=aj d2 0 _ rfl;have e1:=aj d2 1 _ rfl;clear h2 d2;cases bc with
    |true=>
     go_wp2_with fail;refine(fB cb u TA 4 ln cl cur v1 _ HC2.o (dL HE.o hl)).mono ?_;rintro e w3 ⟨rfl,v3,h3,h4⟩;have uF:=au h3;have qV:=au (tK.o.trans h4);clear h3 h4 e0 e1;go_wp2_with fail;go_roundg (gk-1);case rel=>exact⟨k+1,_,v3,by go_num,hlt,sbQ hgg,uF.o,qV.o,HRND.o _ _ _ (by rw[HP.o];rfl) uF.o qV.o⟩
     case measure=>omega
    |false=>
     go_wp2_with fail;go_roundg (gk-1);case rel=>exact⟨k+1,cur,v1,by go_num,hlt,sbQ hgg,HC2.o,tK.o,by simpa using HRND.o w2 v1 [] (by rw[HP.o];rfl) (by simpa using HC2.o) tK.o⟩
     case measure=>omega
  ·(have hk2:k=l.length:=by omega);(have Df:Hid (cur=tot):=by show _=_;have:=HE.o;rw[hk2,List.drop_length,sW,List.append_nil]at this;exact this);go_wp2_with fail;refine bodyPost_ret (results_none rfl _ _ _) rfl ?_;exact⟨rfl,v1,Df.o▸HC.o,(Mv.quiet HST.o).trans HM.o⟩
end Go.Proofs.YtppekkbaoimpgaaGreat
