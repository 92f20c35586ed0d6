import Derived.Test.YtggjfinekcenpaaGreatPkF
set_option maxRecDepth 100000
set_option maxHeartbeats 80000000
namespace Go.Proofs.YtggjfinekcenpaaGreat
open Go.RowKit
open Vt
def SetLeft (n0 bt:Nat) (t:Tok) (w':World) (a:List Ex×Ex):Prop:=∃(xp xe:List Value) (vp ve:Value),w'.heap[bt]?=some (.cells #[ah (if a.1.length=0 then 3 else 2),aV,ah 0,aV,aV,aW,ak,ak,ah 0,ah 0,vp,ve,ak,ak,aW,ah t.line,ah t.col] 89 (0,0))∧
 bY w' (fun k=>n0≤k) a.1 xp∧dh w' (fun k=>n0≤k) vp a.1.length xp∧bY w' (fun k=>n0≤k) [a.2] xe∧dh w' (fun k=>n0≤k) ve 1 xe
def LW (f:Nat):Prop:=∀(R:gI) (w:World) (i d bt:Nat) (t:Tok),oJ R.l→bC R w i d→d≤40→R.rb<bt→w.heap[bt]?=some (.cells #[ah 0,aV,ah 0,aV,aV,aW,ak,ak,ah 0,ah 0,ak,ak,ak,ak,aW,ah t.line,ah t.col] 89 (0,0))→xP f R.l i d≠.out→
 Calls Tryz.prog 144 #[.agg #[gW R.rb 0],.pointer (some ⟨bt,0,none⟩)] w (aY R d bt (SetLeft w.heap.size bt t) (xP f R.l i d) w)
structure SetJ (bt:Nat) (w4:World) (t:Tok) (xc:List Value) (L:Nat→Bool) (V:Nat→Value) (X:World):Prop where
 iD:∀(i:Nat) v,[some (Value.pointer (some ⟨bt,0,none⟩)),some (.pointer (some ⟨bt,0,none⟩)),some (.agg xc.toArray),none,some (.pointer (some ⟨bt,0,none⟩)),some (.pointer (some ⟨bt,0,none⟩)),none,some (.pointer (some ⟨bt,0,none⟩)),some (.pointer (some ⟨bt,10,none⟩)),none][i]?=some (some v)→L i=true→V i=v
 s3:L 3=true→∃g:Nat,V 3=.slice (some ⟨g,0,none⟩) 1 1∧w4.heap.size≤g∧X.heap[g]?=some (.cells xc.toArray 56 (0,0))
 st:Step (·=bt) w4 X
 blk:X.heap[bt]?=some (.cells #[ah (if L 6=true then 2 else 3),aV,ah 0,aV,aV,aW,ak,ak,ah 0,ah 0,(if L 9=true then V 3 else ak),ak,ak,ak,aW,ah t.line,ah t.col] 89 (0,0))
 q9:L 9=true→L 3=true
theorem QD (f:Nat) (ih:ni f):LW (f+1):=by
 intro R w i d bt t hl h hd hrb hbt hno;have HL:=ai hl;have HEX:Hid (∀X j,bC R X j d→a_ f R.l j d 0≠.out→Calls Tryz.prog 40 #[.agg #[gW R.rb 0]] X (aK R d (JH X.heap.size) (a_ f R.l j d 0) X)):=fun X j hX hn=>lQ f ih R X j d hl hX hd hn;obtain⟨r,hr⟩:=bF (xP (f+1) R.l i d);have HRR:Hid (r=(a_ f R.l i d 0).bind fun x j=>(if bG R.l j [61]then(a_ f R.l (j+1) d 0).bind fun y j=>.ok ([x],y) j else .ok ([],x) j).bind fun p j=>(aJ R.l j [59]).bind fun _ j=>.ok p j):=by show _=_;rw[hr,xP]
 rw[←hr]at hno⊢;have fH:=ai hno;have JS:=aP hbt;obtain⟨w1,hw1⟩:=bF ((w.setCell ⟨bt,0,none⟩ (.int .i64 3)).alloc (.cells #[gW R.rb 0] 75));have hst:Step (·=bt) w (w.setCell ⟨bt,0,none⟩ (.int .i64 3)):=bg.setCell _ _ iV;have hal:jg (w.setCell ⟨bt,0,none⟩ (.int .i64 3)) w1:=by rw[hw1];exact bg.alloc _
 have YT:(w.alloc (.cells #[gW R.rb 0] 75)).heap[bt]?=some (.cells #[ah 0,aV,ah 0,aV,aV,aW,ak,ak,ah 0,ah 0,ak,ak,ak,ak,aW,ah t.line,ah t.col] 89 (0,0)):=aT hbt;have dH:Hid (Step (·=bt) w w1):=hst.trans (hal.mono fe);have kK:Hid (w1.heap[w.heap.size]?=some (.cells #[gW R.rb 0] 75 (0,0))):=by rw[hw1];exact uz _ _ _ (by simp)
 have Ei:Hid (w1.heap[bt]?=some (.cells #[ah 3,aV,ah 0,aV,aV,aW,ak,ak,ah 0,ah 0,ak,ak,ak,ak,aW,ah t.line,ah t.col] 89 (0,0))):=by rw[hw1];exact aT (aQ hbt 0 (.int .i64 3))
 have HW1:=ai hw1;have H1:=ai ((h.step hst oi).quiet hal);have hn1:=aP kK.o;have bZ:Hid (∀X:World,Step (fun q=>q=R.rb∨q=bt) w1 X→X.cell? ⟨w.heap.size,0,none⟩=some (.pointer (some ⟨R.rb,0,none⟩))):=fun X hX=>aj (hX.keep kK.o om) 0 _ rfl
 have m_:=aj YT 0 _ rfl;have ng:=aG YT 0;clear ih hl h hno hr hw1 hbt hal hst YT;go_enter Tryz.func144,Tryz.ntmps144;go_upto_region 2 with fail
 rw[←HW1.o];clear m_ ng;have p0:=bZ.o w1 bg;go_wp2_with fail;cases hx:a_ f R.l i d 0 with
 |out=>exact absurd (by rw[HRR.o,hx];rfl) fH.o
 |err c ln col=>have HX:=ai hx;clear hx;refine(HEX.o _ i H1.o (by rw[HX.o];intro h;cases h)).mono ?_;rintro e wq hp;rw[HX.o]at hp;obtain⟨rfl,sq⟩:=hp;refine⟨rfl,aY.aU (c:=c) (ln:=ln) (col:=col) (by rw[HRR.o,HX.o];rfl) rfl ?_⟩;exact(dH.o.mono ir).trans (sq.mono il)
 |ok x jx=>
  have HX:=ai hx;clear hx;refine(HEX.o _ i H1.o (by rw[HX.o];intro h;cases h)).mono ?_;rintro e wx hp;rw[HX.o]at hp;obtain⟨⟨v,rfl,cs,rfl,hy⟩,hrx,hsx⟩:=hp;have HY:=ai hy;obtain⟨k5,nm5,v5,JI,b1,m1,d1,b2,m2,d2,b3,m3,d3,l5,c5,rfl⟩:=hy.parts;have vO:=ai hrx;have qm:=ai hsx;have kY:Hid (r=(if bG R.l jx [61]then(a_ f R.l (jx+1) d 0).bind fun y j=>.ok ([x],y) j else .ok ([],x) jx).bind fun p j=>(aJ R.l j [59]).bind fun _ j=>.ok p j):=by show _=_;rw[HRR.o,HX.o];rfl
  obtain⟨w3,hw3⟩:=bF (wx.alloc (.cells #[ah k5,aI nm5,aX v5,bK JI,.slice b1 m1 d1,.slice b2 m2 d2,.slice b3 m3 d3,ah l5,ah c5] 56));have jX:=nS hw3
  have HB3:=nB hw3
  have oH:Hid (Step (fun q=>q=R.rb∨q=bt) w1 w3):=(qm.o.trans (jX.o.mono fe)).mono il;have IA:=ai (jX.o.keep (qm.o.keep Ei.o om) (fun h=>h));have HY3:Hid (dA w3 (fun q=>w1.heap.size≤q∧q<wx.heap.size) x [.int .i64 k5,.string nm5,.int .u64 v5,.bool JI,.slice b1 m1 d1,.slice b2 m2 d2,.slice b3 m3 d3,.int .i64 l5,.int .i64 c5]):=dA.step jX.o (fun _ _ h=>h) _ _ (dA.mono (fun q h1 h2=>⟨h2,h1⟩) _ _ hy);have HR3:=ai (hrx.quiet jX.o);have hz1:=dH.o.size;have hzx:=qm.o.size;have hz3:=aP HB3.o;obtain⟨bx,hbx⟩:=bF wx.heap.size;have HW3:=ai hw3;clear hy hrx hsx p0 hw3;go_upto_region 3 with fail
  rw[←HW3.o];rw[←hbx]at HB3 HY3 hz3 hzx⊢;clear hbx;have p0:=bZ.o w3 oH.o;obtain⟨bq,hbq⟩:=bF (bG R.l jx [61]);obtain⟨j2,hj2⟩:=bF (iH R.l jx [61]);have HI2:Hid (Calls Tryz.prog 77 #[.pointer (some ⟨R.rb,0,none⟩),.string ⟨#[61]⟩] w3 fun e w'=>e=.returned (.bool bq)∧bC R w' j2 d∧Step (·=R.rb) w3 w'):=by rw[hbq,hj2];exact rW R HL.o ⟨#[61]⟩ w3 jx d HR3.o dc
  have HB2:=ai hbq;have HJ2:=ai hj2;clear hbq hj2;go_wp2_with fail;refine HI2.o.mono ?_;rintro e w4 ⟨rfl,hr4,h4⟩;have HR4:=ai hr4;have CO:Hid (Step (fun q=>q=R.rb∨q=bt) w1 w4):=oH.o.trans (h4.mono il);have qL:=ai (h4.keep IA.o om);have HB4:=ai (h4.keep HB3.o om);have NZ:Hid (dA w4 (fun q=>w1.heap.size≤q∧q<bx) x [.int .i64 k5,.string nm5,.int .u64 v5,.bool JI,.slice b1 m1 d1,.slice b2 m2 d2,.slice b3 m3 d3,.int .i64 l5,.int .i64 c5]):=dA.step h4 oi _ _ HY3.o;have hz4:=h4.size;clear hr4 h4 p0;have p0:=bZ.o w4 CO.o;go_upto_if 12 with fail
  go_cut [] (fun wx=>∃(pl:List Ex) (y:Ex) (je:Nat) (k:Int) (vp:Value) (xp cy:List Value),r=((aJ R.l je [59]).bind fun _ j=>.ok (pl,y) j)∧k=(if pl.length=0 then 3 else 2)∧bY wx (fun q=>w1.heap.size≤q∧q≠bx) pl xp∧dh wx (fun q=>w1.heap.size≤q∧q≠bx) vp pl.length xp∧
   dA wx (fun q=>w1.heap.size≤q∧q≠bx) y cy∧wx.heap[bx]?=some (.cells cy.toArray 56 (0,0))∧wx.heap[bt]?=some (.cells #[ah k,aV,ah 0,aV,aV,aW,ak,ak,ah 0,ah 0,vp,ak,ak,ak,aW,ah t.line,ah t.col] 89 (0,0))∧bC R wx je d∧Step (fun q=>q=R.rb∨q=bt∨q=bx) w4 wx)
  case first=>
   cases bq with
   |false=>(have hj:j2=jx:=by rw[HJ2.o,iH,←HB2.o,if_neg dc]);(have jV:Hid (r=((aJ R.l j2 [59]).bind fun _ j=>.ok ([],x) j)):=by show _=_;rw[kY.o,←HB2.o,if_neg dc,hj];rfl);clear hj;go_wp2_with fail;go_meet;case rel=>exact⟨[],x,j2,3,.slice none 0 0,[],[.int .i64 k5,.string nm5,.int .u64 v5,.bool JI,.slice b1 m1 d1,.slice b2 m2 d2,.slice b3 m3 d3,.int .i64 l5,.int .i64 c5],jV.o,rfl,by rw[bY],dh.nil _ _ _,dA.mono oi _ _ NZ.o,HB4.o,qL.o,HR4.o,Step.refl _ _⟩
   |true=>
    (have hj:j2=jx+1:=by rw[HJ2.o,iH,←HB2.o,if_pos rfl]);(have jV:Hid (r=(a_ f R.l j2 d 0).bind fun y j=>(aJ R.l j [59]).bind fun _ j=>.ok ([x],y) j):=by show _=_;rw[kY.o,←HB2.o,if_pos rfl,hj];cases a_ f R.l (jx+1) d 0<;>rfl);clear hj;have dQ:=ai NZ.o.one;(go_upto_region 4 with fail);go_cut [] (fun wx=>∃g:Nat,w4.heap.size≤g∧g≠bx∧wx.heap[g]?=some (.cells #[ah k5,aI nm5,aX v5,bK JI,.slice b1 m1 d1,.slice b2 m2 d2,.slice b3 m3 d3,ah l5,ah c5] 56 (0,0))∧wx.heap[bt]?=some (.cells #[ah 2,aV,ah 0,aV,aV,aW,ak,ak,ah 0,ah 0,.slice (some ⟨g,0,none⟩) 1 1,ak,ak,ak,aW,ah t.line,ah t.col] 89 (0,0))∧Step (·=bt) w4 wx);case first=>
     refine bD kr (SetJ bt w4 t [.int .i64 k5,.string nm5,.int .u64 v5,.bool JI,.slice b1 m1 d1,.slice b2 m2 d2,.slice b3 m3 d3,.int .i64 l5,.int .i64 c5]) 10 rfl kr kr kr kr ?h0 ?hs ?hdone;case h0=>exact⟨(fun _ _ _ h=>nomatch h),lg,bg.drew,qL.o,lg⟩
     case hs=>
      refine⟨?_,?_,?_,?_,?_,?_,?_,?_,?_,?_,trivial⟩
      all_goals intro L V X a ev ig hdf hL ay hJ
      ·have o1:=ig 1 rfl;change a.tmps[1]?.getD undef=.pointer (some ⟨bt,0,none⟩)at o1;go_simp;exact⟨_,rfl,{hJ with iD:=jb hJ.iD 0 _ (fun u hu=>by cases hu;rfl)}⟩
      ·have o1:=ig 1 rfl;change a.tmps[1]?.getD undef=.pointer (some ⟨bt,0,none⟩)at o1;go_simp;exact⟨_,rfl,{hJ with iD:=jb hJ.iD 1 _ (fun u hu=>by cases hu;rfl)}⟩
      ·have o4:=ig 4 rfl;change a.tmps[4]?.getD undef=.pointer (some ⟨bx,0,none⟩)at o4;have hb:=hJ.st.keep HB4.o om;refine wp_load_mid 56 (.tmp 4) rfl bx 0 (by rw[bW];exact o4) [.int .i64 k5,.string nm5,.int .u64 v5,.bool JI,.slice b1 m1 d1,.slice b2 m2 d2,.slice b3 m3 d3,.int .i64 l5,.int .i64 c5] _ (fun jj v hv=>by rw[Nat.zero_add];exact aj hb jj v pO) Tryz.underlying56 rfl Tryz.aO ?_;exact⟨_,rfl,{hJ with iD:=jb hJ.iD 2 _ (fun u hu=>by cases hu;rfl)}⟩
      ·have e15:=(ev 2 15 rfl (ay 2 rfl)).trans (hJ.iD 2 _ rfl (ay 2 rfl));have h9:L 9=false:=by
        cases e:L 9 with
        |false=>rfl
        |true=>exact absurd (hJ.q9 e) (by rw[hL];decide)
       have hs:jg X (X.alloc (.cells #[ah k5,aI nm5,aX v5,bK JI,.slice b1 m1 d1,.slice b2 m2 d2,.slice b3 m3 d3,ah l5,ah c5] 56)):=bg.alloc _;have hb:=hJ.blk;simp only[h9,Bool.false_eq_true,if_false]at hb;go_simp;refine⟨_,rfl,{hJ with iD:=jb hJ.iD 3 _ (fun u hu=>by cases hu),s3:=fun _=>⟨X.heap.size,rfl,hJ.st.size,aC _ _⟩,st:=hJ.st.alloc _,blk:= ?_,q9:=fun _=>rfl}⟩;show(X.alloc _).heap[bt]?=some (.cells #[ah (if L 6=true then 2 else 3),aV,ah 0,aV,aV,aW,ak,ak,ah 0,ah 0,(if L 9=true then .slice (some ⟨X.heap.size,0,none⟩) 1 1 else ak),ak,ak,ak,aW,ah t.line,ah t.col] 89 (0,0));simp only[h9,Bool.false_eq_true,if_false];exact hs.keep hb (fun h=>h)
      ·have e13:=(ev 0 13 rfl (ay 0 rfl)).trans (hJ.iD 0 _ rfl (ay 0 rfl));go_simp;exact⟨_,rfl,{hJ with iD:=jb hJ.iD 4 _ (fun u hu=>by cases hu;rfl)}⟩
      ·have e17:=(ev 4 17 rfl (ay 4 rfl)).trans (hJ.iD 4 _ rfl (ay 4 rfl));go_simp;exact⟨_,rfl,{hJ with iD:=jb hJ.iD 5 _ (fun u hu=>by cases hu;rfl)}⟩
      ·have e18:=(ev 5 18 rfl (ay 5 rfl)).trans (hJ.iD 5 _ rfl (ay 5 rfl));have hb:=hJ.blk;have q0:=aj hb 0 _ rfl;have z0:=aG hb 0;have hs:Step (·=bt) X (X.setCell ⟨bt,0,none⟩ (.int .i64 2)):=bg.setCell _ _ iV;have hbs:=aQ hb 0 (.int .i64 2);go_simp;exact⟨undef,{hJ with iD:=jb hJ.iD 6 _ (fun u hu=>by cases hu),s3:=fun e=>(by obtain⟨g,g1,g2,g3⟩:=hJ.s3 e;exact⟨g,g1,g2,hs.keep g3 om⟩),st:=hJ.st.trans hs,blk:=hbs}⟩
      ·have e14:=(ev 1 14 rfl (ay 1 rfl)).trans (hJ.iD 1 _ rfl (ay 1 rfl));go_simp;exact⟨_,rfl,{hJ with iD:=jb hJ.iD 7 _ (fun u hu=>by cases hu;rfl)}⟩
      ·have e19:=(ev 7 19 rfl (ay 7 rfl)).trans (hJ.iD 7 _ rfl (ay 7 rfl));go_simp;exact⟨_,rfl,{hJ with iD:=jb hJ.iD 8 _ (fun u hu=>by cases hu;rfl)}⟩
      ·have e20:=(ev 8 20 rfl (ay 8 rfl)).trans (hJ.iD 8 _ rfl (ay 8 rfl));have hb:=hJ.blk;obtain⟨g,g1,g2,g3⟩:=hJ.s3 (ay 3 rfl);have e16:=(ev 3 16 rfl (ay 3 rfl)).trans g1;have q0:=aj hb 10 _ rfl;have z0:=aG hb 10;have hs:Step (·=bt) X (X.setCell ⟨bt,10,none⟩ (.slice (some ⟨g,0,none⟩) 1 1)):=bg.setCell _ _ iV;have hbs:=aQ hb 10 (.slice (some ⟨g,0,none⟩) 1 1);go_simp;refine⟨undef,{hJ with iD:=jb hJ.iD 9 _ (fun u hu=>by cases hu),s3:=fun _=>⟨g,g1,g2,hs.keep g3 om⟩,st:=hJ.st.trans hs,blk:= ?_,q9:=fun _=>ay 3 rfl}⟩;show(X.setCell _ _).heap[bt]?=some (.cells #[ah (if L 6=true then 2 else 3),aV,ah 0,aV,aV,aW,ak,ak,ah 0,ah 0,V 3,ak,ak,ak,aW,ah t.line,ah t.col] 89 (0,0));rw[g1];exact hbs
     case hdone=>intro L V X hall hJ;obtain⟨g,g1,g2,g3⟩:=hJ.s3 (hall 3 dc);have hb:=hJ.blk;rw[hall 6 dc,hall 9 dc,if_pos rfl,if_pos rfl,g1]at hb;have hs9:=hJ.st;rw[show List.range 10=[0,1,2,3,4,5,6,7,8,9] from rfl];simp only[lW,dZ,FB,Bj];clear hJ hall p0;go_wp2_with fail;go_meet;case rel=>exact⟨g,g2,by omega,g3,hb,hs9⟩
    case rest=>
     obtain⟨g,hg1,hg2,hg3,hb5,hs5⟩:=hcut;obtain⟨w5,rfl⟩:=bF wc;have HG5:=ai hg3;have NF:=ai hb5;have YU:=ai hs5;have Ub:=ai (HR4.o.step hs5 oi);have HBX5:=ai (hs5.keep HB4.o om);have HX5:Hid (dA w5 (fun q=>w1.heap.size≤q∧q<bx) x [.int .i64 k5,.string nm5,.int .u64 v5,.bool JI,.slice b1 m1 d1,.slice b2 m2 d2,.slice b3 m3 d3,.int .i64 l5,.int .i64 c5]):=dA.step hs5 oi _ _ NZ.o;have hz5:=hs5.size;have hg5:=aP hg3;clear hg3 hb5 hs5 p0;have p0:=bZ.o w5 (CO.o.trans (YU.o.mono ir));go_wp2_with fail;cases hx:a_ f R.l j2 d 0 with
     |out=>exact absurd (by rw[jV.o,hx];rfl) fH.o
     |err c ln col=>have UG:=ai hx;clear hx;refine(HEX.o _ j2 Ub.o (by rw[UG.o];intro h;cases h)).mono ?_;rintro e wq hp;rw[UG.o]at hp;obtain⟨rfl,sq⟩:=hp;refine⟨rfl,aY.aU (c:=c) (ln:=ln) (col:=col) (by rw[jV.o,UG.o];rfl) rfl ?_⟩;exact(((dH.o.mono ir).trans CO.o).trans (YU.o.mono ir)).trans (sq.mono il)
     |ok y jy=>
      have UG:=ai hx;clear hx;refine(HEX.o _ j2 Ub.o (by rw[UG.o];intro h;cases h)).mono ?_;rintro e w6 hp;rw[UG.o]at hp;obtain⟨⟨v,rfl,cs,rfl,hy⟩,o9,hs6⟩:=hp;have HYY:=ai hy;have HONY:=ai hy.one;obtain⟨k7,nm7,v7,QF,p1,q1,r1,p2,q2,r2,p3,q3,r3,l7,c7,rfl⟩:=hy.parts;have yR:=ai o9;have N7:=ai hs6;have HBX6:=ai (hs6.keep HBX5.o om);(have Hu:Hid (r=((aJ R.l jy [59]).bind fun _ j=>.ok ([x],y) j)):=by show _=_;rw[jV.o,UG.o];rfl);clear hy o9 hs6 p0
      go_wp2_with (refine aB (w:=w6) rfl 56 (.tmp 4) (.tmp 22) rfl bx 0 56 _ [.int .i64 k7,.string nm7,.int .u64 v7,.bool QF,.slice p1 q1 r1,.slice p2 q2 r2,.slice p3 q3 r3,.int .i64 l7,.int .i64 c7] rfl rfl HBX6.o Tryz.aO (Nat.le_of_eq rfl) HONY.o ?_
                   intro w7 hb7 xW)
      have FT:Hid (w7.heap[bx]?=some (.cells #[ah k7,aI nm7,aX v7,bK QF,.slice p1 q1 r1,.slice p2 q2 r2,.slice p3 q3 r3,ah l7,ah c7] 56 (0,0))):=hb7;have UH:=ai xW;clear hb7 xW;go_meet;case rel=>have s57:Step (fun q=>q=R.rb∨q=bx) w5 w7:=(N7.o.mono il).trans (UH.o.mono ir);refine⟨[x],y,jy,2,_,[.int .i64 k5,.string nm5,.int .u64 v5,.bool JI,.slice b1 m1 d1,.slice b2 m2 d2,.slice b3 m3 d3,.int .i64 l5,.int .i64 c5],[.int .i64 k7,.string nm7,.int .u64 v7,.bool QF,.slice p1 q1 r1,.slice p2 q2 r2,.slice p3 q3 r3,.int .i64 l7,.int .i64 c7],Hu.o,rfl,bY.single (dA.mono oi _ _ (dA.step s57 oi _ _ HX5.o)),dh.new (s57.keep HG5.o om) (by simp) om,?_,FT.o,s57.keep NF.o om,yR.o.step UH.o oi,((YU.o.mono (fun _ _ e=>.inr (.inl e))).trans (N7.o.mono il)).trans (UH.o.mono (fun _ _ e=>.inr (.inr e)))⟩;exact dA.mono oi _ _ (dA.step UH.o oi _ _ HYY.o)
  case rest=>
   obtain⟨pl,y,je,k,vp,xp,cy,uo,hk8,hp8,hv8,hy8,hx8,hb8,hrd8,hs8⟩:=hcut;obtain⟨w8,rfl⟩:=bF wc;obtain⟨k7,nm7,v7,QF,p1,q1,r1,p2,q2,r2,p3,q3,r3,l7,c7,rfl⟩:=hy8.parts;obtain⟨av,cv,rfl,-⟩:=id hv8;have HR8:=ai uo;have HK8:=ai hk8;have HP8:=ai hp8;have HV8:=ai hv8;have HY8:=ai hy8;have HX8:=ai hx8;have Xc:=ai hb8;have HRD8:=ai hrd8;have HS48:=ai hs8;have hz8:=hs8.size;clear uo hk8 hp8 hv8 hy8 hx8 hb8 hrd8 p0;have p0:w8.cell? ⟨w.heap.size,0,none⟩=some (.pointer (some ⟨R.rb,0,none⟩)):=hs8.cell (bZ.o w4 CO.o) (fun e=>by have e2:w.heap.size=R.rb∨w.heap.size=bt∨w.heap.size=bx:=e;omega);clear hs8;(have bJ:Hid (∀(jj:Nat) v,[Value.int .i64 k7,aI nm7,aX v7,bK QF,.slice p1 q1 r1,.slice p2 q2 r2,.slice p3 q3 r3,ah l7,ah c7][jj]?=some v→w8.cell? ⟨bx,0+jj,none⟩=some v):=by intro jj v hv;rw[Nat.zero_add];exact aj HX8.o jj v pO);obtain⟨w9,QG⟩:=bF ((w8.alloc (.cells #[ah k7,aI nm7,aX v7,bK QF,.slice p1 q1 r1,.slice p2 q2 r2,.slice p3 q3 r3,ah l7,ah c7] 56)).setCell ⟨bt,11,none⟩ (.slice (some ⟨w8.heap.size,0,none⟩) 1 1));(have wW:Step (·=bt) w8 w9:=by rw[QG];exact((Step.refl (·=bt) _).alloc _).setCell _ _ iV);(have Yz:Hid (w9.heap[bt]?=some (.cells #[ah k,aV,ah 0,aV,aV,aW,ak,ak,ah 0,ah 0,.slice av pl.length cv,.slice (some ⟨w8.heap.size,0,none⟩) 1 1,ak,ak,aW,ah t.line,ah t.col] 89 (0,0))):=by rw[QG];exact aQ (aT Xc.o) 11 _);(have HK9:Hid (w9.heap[w8.heap.size]?=some (.cells #[ah k7,aI nm7,aX v7,bK QF,.slice p1 q1 r1,.slice p2 q2 r2,.slice p3 q3 r3,ah l7,ah c7] 56 (0,0))):=by rw[QG];exact((Step.refl (·=bt) _).setCell _ _ iV).keep (aC _ _) (fun e=>by have:=aP Xc.o;omega));have HS89:=ai wW;have Kt:=aj (aT (o':=.cells #[ah k7,aI nm7,aX v7,bK QF,.slice p1 q1 r1,.slice p2 q2 r2,.slice p3 q3 r3,ah l7,ah c7] 56) Xc.o) 11 _ rfl;have Ku:=aG (aT (o':=.cells #[ah k7,aI nm7,aX v7,bK QF,.slice p1 q1 r1,.slice p2 q2 r2,.slice p3 q3 r3,ah l7,ah c7] 56) Xc.o) 11;have HR9:=ai (HRD8.o.step wW oi);have HW9:=ai QG;have p9:w9.cell? ⟨w.heap.size,0,none⟩=some (.pointer (some ⟨R.rb,0,none⟩)):=wW.cell p0 (fun e=>by have e2:w.heap.size=bt:=e;omega);have hz9:=wW.size;clear wW QG p0;(go_upto_region 7 with(refine aN rfl 56 (.tmp 4) rfl bx 0 rfl [.int .i64 k7,.string nm7,.int .u64 v7,.bool QF,.slice p1 q1 r1,.slice p2 q2 r2,.slice p3 q3 r3,.int .i64 l7,.int .i64 c7] _ bJ.o Tryz.underlying56 rfl Tryz.aO ?_));rw[←HW9.o];clear Kt Ku;go_wp2_with fail;refine(dL R HL.o w9.heap.size ⟨#[59]⟩ _ je d (HR9.o.quiet (bg.alloc _)) dc (aj (aC _ _) 0 _ rfl)).mono ?_;rintro e wz hp;have hp2:aK R d iJ (aJ R.l je [59]) _ e wz:=hp;have HS08:Hid (Step (fun q=>q=R.rb∨q=bt) w w8):=((dH.o.mono ir).trans CO.o).then HS48.o oi;cases hn:aJ R.l je [59]with
   |out=>exact(dJ hn).elim
   |err c ln col=>rw[hn]at hp2;obtain⟨rfl,sz⟩:=hp2;refine⟨rfl,aY.aU (c:=c) (ln:=ln) (col:=col) (by rw[HR8.o,hn];rfl) rfl ?_⟩;exact(HS08.o.trans (HS89.o.mono ir)).trans ((((Step.refl (·=R.rb) _).alloc _).trans sz).mono il)
   |ok u jz=>have QH:=ai hn;rw[hn]at hp2;obtain⟨⟨v,rfl,rfl⟩,hrz,sz⟩:=hp2;have D5:=ai hrz;have YV:Hid (Step (·=R.rb) w9 wz):=((Step.refl (·=R.rb) _).alloc _).trans sz;have UI:Hid (Step (fun q=>q=R.rb∨q=bt) w8 wz):=(HS89.o.mono ir).trans (YV.o.mono il);clear hn hrz sz p9 hp;go_wp2_with fail;refine bodyPost_end (results_none rfl _ _ _) rfl ?_;have hkk:=HK8.o;refine aY.dN (a:=(pl,y)) (j:=jz) (by rw[HR8.o,QH.o];rfl) rfl ⟨xp,[.int .i64 k7,.string nm7,.int .u64 v7,.bool QF,.slice p1 q1 r1,.slice p2 q2 r2,.slice p3 q3 r3,.int .i64 l7,.int .i64 c7],.slice av pl.length cv,.slice (some ⟨w8.heap.size,0,none⟩) 1 1,?_,bY.mono (fun q _ hq=>by have:=hq.1;omega) _ _ (bY.step UI.o (fun q hq e=>by have:=hq.1;omega) _ _ HP8.o),(HV8.o.step UI.o (fun q hq e=>by have:=hq.1;omega)).mono (fun q _ hq=>by have:=hq.1;omega),bY.single (dA.mono (fun q _ hq=>by have:=hq.1;omega) _ _ (dA.step UI.o (fun q hq e=>by have:=hq.1;omega) _ _ HY8.o)),dh.new (YV.o.keep HK9.o om) dc om⟩ D5.o (HS08.o.trans UI.o);have iW:=YV.o.keep Yz.o om;rw[hkk]at iW;exact iW
def yV (f:Nat) (l:List Tok) (i d:Nat):dI (ByteArray×List ByteArray×List St):=(bH l i).bind fun n j=>(aJ l j [124]).bind fun _ j=>(if bG l j [124]then .ok [] (j+1)else lK f l j []).bind fun ns j=>(bU f l j d).bind fun b j=>.ok (n,ns,b) j
def CP (n0 bt:Nat) (t:Tok) (w':World) (a:ByteArray×List ByteArray×List St):Prop:=∃(xb:List Value) (vn vb:Value),w'.heap[bt]?=some (.cells #[ah 17,aI a.1,aX 0,aW,ak,vn,vb,ah t.line,ah t.col] 56 (0,0))∧
 a.1.size≤9223372036854775807∧(∀s∈a.2.1,s.size≤9223372036854775807)∧dh w' (fun k=>n0≤k) vn a.2.1.length (a.2.1.map .string)∧eP w' (fun k=>n0≤k) a.2.2 xb∧dh w' (fun k=>n0≤k) vb a.2.2.length xb
def Kv (f:Nat):Prop:=∀(R:gI) (w:World) (i d bt:Nat) (t:Tok),oJ R.l→bC R w i d→d≤40→R.rb<bt→w.heap[bt]?=some (.cells #[ah 0,aV,aX 0,aW,ak,ak,ak,ah t.line,ah t.col] 56 (0,0))→yV f R.l i d≠.out→
 Calls Tryz.prog 160 #[.agg #[gW R.rb 0],.pointer (some ⟨bt,0,none⟩)] w (aY R d bt (CP w.heap.size bt t) (yV f R.l i d) w)
structure xX (R:gI) (w1:World) (bt:Nat) (nm:ByteArray) (t:Tok) (d:Nat) (X:World) (i':Nat) (ns:List ByteArray) (vn:Value):Prop where
 rd:bC R X i' d
 blk:X.heap[bt]?=some (.cells #[ah 17,aI nm,aX 0,aW,ak,vn,ak,ah t.line,ah t.col] 56 (0,0))
 on:X.ownsRow w1.heap.size 9 1 vn ns.length (ns.map .string)
 sz:∀s∈ns,s.size≤9223372036854775807
 few:ns.length≤8
 st:Step (fun k=>k=R.rb∨k=bt) w1 X
theorem xX.read {R:gI} {w1:World} {bt:Nat} {nm:ByteArray} {t:Tok} {d:Nat} {X X':World} {i' i2:Nat} {ns:List ByteArray} {vn:Value} (h:xX R w1 bt nm t d X i' ns vn) (hrb:R.rb<bt) (hw:R.rb<w1.heap.size) (hr:bC R X' i2 d) (hs:Step (·=R.rb) X X'):xX R w1 bt nm t d X' i2 ns vn:=
 ⟨hr,hs.keep h.blk om,hs.owns h.on oi,h.sz,h.few,h.st.trans (hs.mono il)⟩
theorem xX.quiet {R:gI} {w1:World} {bt:Nat} {nm:ByteArray} {t:Tok} {d:Nat} {X X':World} {i':Nat} {ns:List ByteArray} {vn:Value} (h:xX R w1 bt nm t d X i' ns vn) (hs:jg X X'):xX R w1 bt nm t d X' i' ns vn:=
 ⟨h.rd.quiet hs,hs.keep h.blk (fun h=>h),hs.owns h.on (fun _ _ h=>h),h.sz,h.few,h.st.trans (hs.mono fe)⟩
theorem xX.push {R:gI} {w1:World} {bt:Nat} {nm:ByteArray} {t:Tok} {d:Nat} {X X2 X3:World} {i':Nat} {ns:List ByteArray} {vn v9:Value} {s:ByteArray} (h:xX R w1 bt nm t d X i' ns vn) (hrb:R.rb<bt) (hbt:bt<w1.heap.size) (h2:jg X X2) (hown:X3.ownsRow w1.heap.size 9 1 v9 (ns.length+1) (ns.map .string++[.string s])) (hgrow:X2.grownBy X3 vn.ownBlock) (hs:s.size≤9223372036854775807) (hlt:ns.length<8):xX R w1 bt nm t d (X3.setCell ⟨bt,5,none⟩ v9) i' (ns++[s]) v9:=by
 have h3:Step (fun q=>vn.ownBlock=some q) X2 X3:=iZ hgrow;have h4:Step (·=bt) X3 (X3.setCell ⟨bt,5,none⟩ v9):=bg.setCell _ _ iV;have ho:∀q,vn.ownBlock=some q→w1.heap.size≤q:=fun q hq=>(h.on.lt q hq).1;have hlen:(ns++[s]).length=ns.length+1:=by simp
 have hb3:=h3.keep (h2.keep h.blk (fun h=>h)) (fun e=>by have:=ho bt e;omega);refine⟨((h.rd.quiet h2).step h3 (fun q hq e=>by have:=ho q e;omega)).step h4 oi,aQ hb3 5 v9,?_,?_,by rw[hlen];omega,?_⟩
 ·rw[hlen,List.map_append];exact jC hown h4 (fun q hq e=>by have:=(hown.lt q hq).1;omega)
 ·intro x hx;rcases List.mem_append.1 hx with hx|hx
  ·exact h.sz x hx
  ·rw[List.mem_singleton.1 hx];exact hs
 ·exact((h.st.trans (h2.mono fe)).then h3 (fun q hq e=>by have:=ho q e;omega)).trans (h4.mono ir)
structure ClJ (R:gI) (bt bp:Nat) (sv:Value) (X0:World) (L:Nat→Bool) (V:Nat→Value) (X:World):Prop where
 wx:X=X0
 no:L 7=false
 v0:L 0=true→V 0=.pointer (some ⟨bt,0,none⟩)
 v1:L 1=true→V 1=.pointer (some ⟨bt,0,none⟩)
 v2:L 2=true→V 2=.pointer (some ⟨bt,0,none⟩)
 v3:L 3=true→V 3=.pointer (some ⟨bt,5,none⟩)
 v4:L 4=true→V 4=sv
 v5:L 5=true→V 5=.pointer (some ⟨bp,0,none⟩)
 v6:L 6=true→V 6=.pointer (some ⟨R.rb,0,none⟩)
 v10:L 10=true→V 10=.pointer (some ⟨bt,0,none⟩)
 v11:L 11=true→V 11=.pointer (some ⟨bt,5,none⟩)
theorem N8 (f:Nat) (ih:rF f):Kv f:=by
 intro R w i d bt t hl h hd hrb hbt hno;have HL:=ai hl;have IH:=ai ih;obtain⟨r,hr⟩:=bF (yV f R.l i d);have HRR:Hid (r=(bH R.l i).bind fun n j=>(aJ R.l j [124]).bind fun _ j=>(if bG R.l j [124]then .ok [] (j+1)else lK f R.l j []).bind fun ns j=>(bU f R.l j d).bind fun b j=>.ok (n,ns,b) j):=by show _=_;rw[hr,yV]
 rw[←hr]at hno⊢;have fH:=ai hno;have JS:=aP hbt;obtain⟨w1,hw1⟩:=bF (w.alloc (.cells #[gW R.rb 0] 75));have dH:=nS hw1
 have kK:=nB hw1
 have Ei:=ai (dH.o.keep hbt (fun h=>h));have HW1:=ai hw1;have H1:=ai (h.quiet dH.o);have hn1:=aP kK.o;have bZ:Hid (∀X:World,Step (fun q=>q=R.rb∨q=bt) w1 X→X.cell? ⟨w.heap.size,0,none⟩=some (.pointer (some ⟨R.rb,0,none⟩))):=fun X hX=>aj (hX.keep kK.o om) 0 _ rfl
 obtain⟨i0,hi0,hz0,hz1,hz2⟩:=info_parts Tryz.oN;have HI:=ai hi0;have HZ0:=ai hz0;have HZ1:=ai hz1;have HZ2:=ai hz2;have p0:=bZ.o w1 bg;clear ih hl h hno hr hw1 hbt hi0 hz0 hz1 hz2;go_enter Tryz.func160,Tryz.ntmps160;go_upto_region 1 with fail
 rw[←HW1.o];go_wp2_with fail;cases hn:bH R.l i with
 |out=>exact(iQ hn).elim
 |err c ln col=>have HN:=ai hn;clear hn;refine(name_any R HL.o _ i d H1.o).mono ?_;rintro e wq hp;rw[HN.o]at hp;obtain⟨rfl,sq⟩:=hp;refine⟨rfl,aY.aU (c:=c) (ln:=ln) (col:=col) (by rw[HRR.o,HN.o];rfl) rfl ?_⟩;exact((dH.o.mono fe).trans sq).mono il
 |ok nm j=>
  have HN:=ai hn;have QA:=ai (fF HL.o H1.o.lt hn);clear hn;refine(name_any R HL.o _ i d H1.o).mono ?_;rintro e w2 hp;rw[HN.o]at hp;obtain⟨⟨v,rfl,rfl⟩,hr2,s2⟩:=hp;have HR2:=ai hr2;have HS2:=ai s2;have qK:=ai (s2.keep Ei.o om);have kY:Hid (r=(aJ R.l j [124]).bind fun _ j=>(if bG R.l j [124]then .ok [] (j+1)else lK f R.l j []).bind fun ns j=>(bU f R.l j d).bind fun b j=>.ok (nm,ns,b) j):=by show _=_;rw[HRR.o,HN.o];rfl
  have m_:=aj qK.o 0 _ rfl;have ng:=aG qK.o 0;have Eg:=aj qK.o 1 _ rfl;have Eh:=aG qK.o 1;obtain⟨w3,hw3⟩:=bF ((w2.setCell ⟨bt,0,none⟩ (.int .i64 17)).setCell ⟨bt,1,none⟩ (.string nm));have jX:Hid (Step (·=bt) w2 w3):=by rw[hw3];exact((Step.refl (·=bt) _).setCell _ _ iV).setCell _ _ iV
  have IA:Hid (w3.heap[bt]?=some (.cells #[ah 17,aI nm,aX 0,aW,ak,ak,ak,ah t.line,ah t.col] 56 (0,0))):=by rw[hw3];exact aQ (aQ qK.o 0 (.int .i64 17)) 1 (.string nm)
  have oH:Hid (Step (fun q=>q=R.rb∨q=bt) w1 w3):=(HS2.o.mono il).trans (jX.o.mono ir);have fP:Hid (xX R w1 bt nm t d w3 j [] (.slice none 0 0)):=⟨HR2.o.step jX.o oi,IA.o,World.ownsRow_nil _ _ _ _,nR,by simp,oH.o⟩;clear hr2 s2 p0;go_upto_region 2 with fail
  rw[←hw3];clear hw3 m_ ng Eg Eh;have p0:=bZ.o w3 oH.o;go_wp2_with fail;refine(dL R HL.o w3.heap.size ⟨#[124]⟩ _ j d (fP.o.rd.quiet (bg.alloc _)) dc (aj (aC _ _) 0 _ rfl)).mono ?_;rintro e w4 hp;have hp2:aK R d iJ (aJ R.l j [124]) _ e w4:=hp;cases hn:aJ R.l j [124]with
  |out=>exact(dJ hn).elim
  |err c ln col=>rw[hn]at hp2;obtain⟨rfl,s4⟩:=hp2;refine⟨rfl,aY.aU (c:=c) (ln:=ln) (col:=col) (by rw[kY.o,hn];rfl) rfl ?_⟩;exact((dH.o.mono fe).trans fP.o.st).trans ((((Step.refl (·=R.rb) _).alloc _).trans s4).mono il)
  |ok u j4=>
   have JY:=ai hn;rw[hn]at hp2;obtain⟨⟨v,rfl,rfl⟩,hr4,s4⟩:=hp2;have fD:=ai (fP.o.read hrb om hr4 (((Step.refl (·=R.rb) _).alloc _).trans s4));(have jV:Hid (r=(if bG R.l j4 [124]then .ok [] (j4+1)else lK f R.l j4 []).bind fun ns j=>(bU f R.l j d).bind fun b j=>.ok (nm,ns,b) j):=by show _=_;rw[kY.o,JY.o];rfl);clear hn hr4 s4 p0 hp;have p0:=bZ.o w4 fD.o.st;obtain⟨bq,hbq⟩:=bF (bG R.l j4 [124]);obtain⟨j5,YW⟩:=bF (iH R.l j4 [124]);(have HI5:Hid (Calls Tryz.prog 77 #[.pointer (some ⟨R.rb,0,none⟩),.string ⟨#[124]⟩] w4 fun e w'=>e=.returned (.bool bq)∧bC R w' j5 d∧Step (·=R.rb) w4 w'):=by rw[hbq,YW];exact rW R HL.o ⟨#[124]⟩ w4 j4 d fD.o.rd dc);have UJ:=ai hbq;have HJ5:=ai YW;clear hbq YW;go_wp2_with fail;refine HI5.o.mono ?_;rintro e w5 ⟨rfl,II,h5⟩;have lN:=ai (fD.o.read hrb om II h5);clear II h5 p0;have p0:=bZ.o w5 lN.o.st;(go_upto_if 20 with fail);go_cut [] (fun wx=>∃(jn:Nat) (ns:List ByteArray) (vn:Value),r=((bU f R.l jn d).bind fun b j=>.ok (nm,ns,b) j)∧xX R w1 bt nm t d wx jn ns vn);case first=>
    cases bq with
    |true=>(have hj:j5=j4+1:=by rw[HJ5.o,iH,←UJ.o,if_pos rfl]);(have Hu:Hid (r=((bU f R.l j5 d).bind fun b j=>.ok (nm,[],b) j)):=by show _=_;rw[jV.o,←UJ.o,if_pos rfl,hj];rfl);clear hj;go_wp2_with fail;go_meet;case rel=>exact⟨j5,[],_,Hu.o,lN.o⟩
    |false=>
     (have hj:j5=j4:=by rw[HJ5.o,iH,←UJ.o,if_neg dc]);(have Hu:Hid (r=(lK f R.l j5 []).bind fun ns j=>(bU f R.l j d).bind fun b j=>.ok (nm,ns,b) j):=by show _=_;rw[jV.o,←UJ.o,if_neg dc,hj]);clear hj p0;go_wp2_with fail;go_loopg [] f (fun gg wr=>gg≤f∧∃(i':Nat) (ns:List ByteArray) (vn:Value),r=((lK gg R.l i' ns).bind fun ns j=>(bU f R.l j d).bind fun b j=>.ok (nm,ns,b) j)∧xX R w1 bt nm t d wr i' ns vn);case atStart=>exact⟨Nat.le_refl _,j5,[],_,Hu.o,lN.o⟩
     case round=>
      obtain⟨hgf,i',ns,vn,hrq,hst⟩:=hrel;obtain⟨gn,rfl⟩:∃gn,gk=gn+1:=by
       cases gk with
       |zero=>exact absurd hrq (by rw[lK];exact fH.o)
       |succ gn=>exact⟨gn,rfl⟩
      (have tX:Hid (r=((eU ns.length 8 R.l i').bind fun _ i=>(bH R.l i).bind fun n j=>if bG R.l j [44]then lK gn R.l (j+1) (ns++[n])else(aJ R.l j [124]).bind fun _ j=>.ok (ns++[n]) j).bind fun ns j=>(bU f R.l j d).bind fun b j=>.ok (nm,ns,b) j):=by show _=_;rw[hrq,lK]);obtain⟨oa,oc,rfl⟩:=b_ hst.on;have HST:=ai hst;have hfew:=hst.few;have p0:=bZ.o wr hst.st;have xR:=aj hst.blk 5 _ rfl;clear hrq hst;(go_upto_region 4 with fail);go_still_tail 6,kr;change wpList _ _ _ _ _ wr.drew;obtain⟨wd,hwd⟩:=bF wr.drew;(have uy:Hid (xX R w1 bt nm t d wd i' ns (.slice oa ns.length oc)):=by rw[hwd];exact HST.o.quiet (bg.drew));rw[←hwd];clear hwd p0 xR;have p0:=bZ.o wd uy.o.st;have xR:=aj uy.o.blk 5 _ rfl;go_wp2_with fail;refine(mr R wd ns.length 8 i' d uy.o.rd).mono ?_;rintro e w6 hp;cases hn:eU ns.length 8 R.l i' with
      |out=>exact(kX hn).elim
      |err c ln col=>rw[hn]at hp;obtain⟨rfl,s6⟩:=hp;refine⟨rfl,aY.aU (c:=c) (ln:=ln) (col:=col) (by rw[tX.o,hn];rfl) rfl ?_⟩;exact((dH.o.mono fe).trans uy.o.st).trans (s6.mono il)
      |ok u j6=>
       have hji:j6=i'∧ns.length<8:=by
        unfold eU at hn;split at hn
        ·cases hn
        ·cases hn;exact⟨rfl,by omega⟩
       obtain⟨rfl,FW⟩:=hji;have oQ:=ai hn;rw[hn]at hp;obtain⟨⟨v,rfl,rfl⟩,o9,s6⟩:=hp;have fA:=ai (uy.o.read hrb om o9 s6);(have D6:Hid (r=((bH R.l j6).bind fun n j=>if bG R.l j [44]then lK gn R.l (j+1) (ns++[n])else(aJ R.l j [124]).bind fun _ j=>.ok (ns++[n]) j).bind fun ns j=>(bU f R.l j d).bind fun b j=>.ok (nm,ns,b) j):=by show _=_;rw[tX.o,oQ.o];rfl);clear hn o9 s6 p0 xR;have p0:=bZ.o w6 fA.o.st;have xR:=aj fA.o.blk 5 _ rfl;(go_upto_region 5 with fail);cases hn:bH R.l j6 with
       |out=>exact(iQ hn).elim
       |err c ln col=>
        have HN:=ai hn;(have LX:Hid (∀X,bC R X j6 d→Calls Tryz.prog 80 #[.pointer (some ⟨R.rb,0,none⟩)] X fun e w'=>e=.panicked [{v:=.iface 184 (.agg #[ah c,ah ln,ah col]),recovered:=false}]∧Step (·=R.rb) X w'):=by intro X hX;have h9:=name_any R HL.o X j6 d hX;rw[HN.o]at h9;exact h9);(have CB:Hid (∀wq:World,Step (·=R.rb) w6.drew wq→aY R d bt (CP w.heap.size bt t) r w (.panicked [{v:=.iface 184 (.agg #[ah c,ah ln,ah col]),recovered:=false}]) wq):=by intro wq hs;refine aY.aU (c:=c) (ln:=ln) (col:=col) (by rw[D6.o,HN.o];rfl) rfl ?_;exact((dH.o.mono fe).trans fA.o.st).trans ((((Step.refl (·=R.rb) _).drew).trans hs).mono il));clear hn;refine bD kr (ClJ R bt w.heap.size (.slice oa ns.length oc) w6.drew) 13 rfl kr kr kr kr ?h0 ?hs ?hdone;case h0=>exact⟨rfl,rfl,lg,lg,lg,lg,lg,lg,lg,lg,lg⟩
        case hs=>
         refine⟨?_,?_,?_,?_,?_,?_,?_,?_,?_,?_,?_,?_,?_,trivial⟩
         all_goals intro L V X a ev ig hdf hL ay hJ
         ·have hwx:=hJ.wx;subst hwx;have o1:=ig 1 rfl;change a.tmps[1]?.getD undef=.pointer (some ⟨bt,0,none⟩)at o1;go_simp;exact⟨_,rfl,{hJ with no:=by rw[aA _ dc];exact hJ.no,v0:=fun _=>rfl}⟩
         ·have hwx:=hJ.wx;subst hwx;have o1:=ig 1 rfl;change a.tmps[1]?.getD undef=.pointer (some ⟨bt,0,none⟩)at o1;go_simp;exact⟨_,rfl,{hJ with no:=by rw[aA _ dc];exact hJ.no,v1:=fun _=>rfl}⟩
         ·have hwx:=hJ.wx;subst hwx;have e29:=(ev 1 29 rfl (ay 1 rfl)).trans (hJ.v1 (ay 1 rfl));go_simp;exact⟨_,rfl,{hJ with no:=by rw[aA _ dc];exact hJ.no,v2:=fun _=>rfl}⟩
         ·have hwx:=hJ.wx;subst hwx;have e30:=(ev 2 30 rfl (ay 2 rfl)).trans (hJ.v2 (ay 2 rfl));go_simp;exact⟨_,rfl,{hJ with no:=by rw[aA _ dc];exact hJ.no,v3:=fun _=>rfl}⟩
         ·have hwx:=hJ.wx;subst hwx;have e31:=(ev 3 31 rfl (ay 3 rfl)).trans (hJ.v3 (ay 3 rfl));have q5:=aj (((Step.refl (fun _=>False) w6).drew).keep fA.o.blk (fun h=>h)) 5 _ rfl;go_simp;exact⟨_,rfl,{hJ with no:=by rw[aA _ dc];exact hJ.no,v4:=fun _=>rfl}⟩
         ·have hwx:=hJ.wx;subst hwx;have o2:=ig 2 rfl;change a.tmps[2]?.getD undef=.pointer (some ⟨w.heap.size,0,none⟩)at o2;go_simp;exact⟨_,rfl,{hJ with no:=by rw[aA _ dc];exact hJ.no,v5:=fun _=>rfl}⟩
         ·have hwx:=hJ.wx;subst hwx;have e33:=(ev 5 33 rfl (ay 5 rfl)).trans (hJ.v5 (ay 5 rfl));have q0:=bZ.o w6.drew (fA.o.st.trans (bg.drew));go_simp;exact⟨_,rfl,{hJ with no:=by rw[aA _ dc];exact hJ.no,v6:=fun _=>rfl}⟩
         ·have hwx:=hJ.wx;subst hwx;have e34:=(ev 6 34 rfl (ay 6 rfl)).trans (hJ.v6 (ay 6 rfl));go_simp;refine(LX.o _ (fA.o.rd.quiet (bg.drew))).mono ?_;rintro e wq ⟨rfl,hs⟩;exact⟨hdf,CB.o wq hs⟩
         ·have hwx:=hJ.wx;subst hwx;exact absurd hJ.no (by rw[ay 7 rfl];decide)
         ·have hwx:=hJ.wx;subst hwx;exact absurd hJ.no (by rw[ay 7 rfl];decide)
         ·have hwx:=hJ.wx;subst hwx;have e28:=(ev 0 28 rfl (ay 0 rfl)).trans (hJ.v0 (ay 0 rfl));go_simp;exact⟨_,rfl,{hJ with no:=by rw[aA _ dc];exact hJ.no,v10:=fun _=>rfl}⟩
         ·have hwx:=hJ.wx;subst hwx;have e38:=(ev 10 38 rfl (ay 10 rfl)).trans (hJ.v10 (ay 10 rfl));go_simp;exact⟨_,rfl,{hJ with no:=by rw[aA _ dc];exact hJ.no,v11:=fun _=>rfl}⟩
         ·have hwx:=hJ.wx;subst hwx;exact absurd hJ.no (by rw[ay 7 rfl];decide)
        case hdone=>intro L V X hall hJ;exact absurd hJ.no (by rw[hall 7 dc];decide)
       |ok s j7=>
        have HN:=ai hn;have YJ:=ai (fF HL.o fA.o.rd.lt hn);(have LX:Hid (∀X,bC R X j6 d→Calls Tryz.prog 80 #[.pointer (some ⟨R.rb,0,none⟩)] X fun e w'=>e=.returned (.string s)∧bC R w' j7 d∧Step (·=R.rb) X w'):=by intro X hX;refine(name_any R HL.o X j6 d hX).mono ?_;intro e w' hp;rw[HN.o]at hp;obtain⟨⟨v,he,hv⟩,h1,h2⟩:=hp;exact⟨by rw[he,hv],h1,h2⟩);(have UK:Hid (r=(if bG R.l j7 [44]then lK gn R.l (j7+1) (ns++[s])else(aJ R.l j7 [124]).bind fun _ j=>.ok (ns++[s]) j).bind fun ns j=>(bU f R.l j d).bind fun b j=>.ok (nm,ns,b) j):=by show _=_;rw[D6.o,HN.o];rfl);clear hn;go_cut [] (fun wx=>∃v9:Value,xX R w1 bt nm t d wx j7 (ns++[s]) v9);case first=>
         first
         |(go_region_law (first
             |(refine pR _ rfl (w8.heap.size+1) (.tmp 32) (.tmp 36) 40 rfl w1.heap.size 9 i0 (.string ⟨#[]⟩) 1 16 Tryz.underlying40 HI.o HZ0.o HZ1.o HZ2.o rfl dc _ _ _ (by simp[Act.eval]) Qo.o _ 1 _ (by simp[Act.eval]) IE.o rfl IG.o (by unfold maxLen;omega) om Qp.o ?_;intro v9 w9 iU gJ oG;obtain⟨a9,c9,rfl⟩:=b_ iU;have kP:Hid (xX R w1 bt nm t d (w9.setCell ⟨bt,5,none⟩ (.slice a9 (ns.length+1) c9)) j7 (ns++[s]) (.slice a9 (ns.length+1) c9)):=jM.o.push hrb om (bg.alloc _) iU gJ YJ.o FW;have hbb:=(iZ gJ).keep (aT (o':=.cells #[aI s] 9) jM.o.blk) (fun e=>by have:=(jM.o.on.lt _ e).1;omega);have bt5':=aj hbb 5 _ rfl;have bz5':=aG hbb 5;clear hbb iU gJ oG)
             |(go_simp;go_at_call 80;refine(LX.o _ (fA.o.rd.quiet (bg.drew))).mono ?_;rintro e8 w8 ⟨rfl,uo,hs8⟩;have jM:=ai ((fA.o.quiet (bg.drew)).read hrb om uo hs8);have Qo:Hid ((w8.alloc (.cells #[aI s] 9)).ownsRow w1.heap.size 9 1 (.slice oa ns.length oc) ns.length (ns.map .string)):=jM.o.on.alloc _;have IE:Hid (Row (w8.alloc (.cells #[aI s] 9)) (w8.heap.size+1) (.slice (some ⟨w8.heap.size,0,none⟩) 1 1) 1 [.string s]):=Row.new (aC _ _) dc;have IG:Hid (∀u∈[Value.string s],u.oneCell'=true):=by
                show∀u∈_,_
                intro u hu
                simp at hu
                subst hu;rfl
               have Qp:Hid (w1.heap.size≤(w8.alloc (.cells #[aI s] 9)).heap.size):=by
                show _≤_
                have:=jM.o.st.size
                simp;omega
               have bt58:=aj jM.o.blk 5 _ rfl
               have bt59:=aj (aT (o':=.cells #[aI s] 9) jM.o.blk) 5 _ rfl
               clear uo hs8)))
         |fail
         all_goals (
          clear p0 xR
          go_wp2_with fail
          go_meet
          case rel=>exact⟨_,kP.o⟩)
        case rest=>
         obtain⟨v9,hls⟩:=hcut;obtain⟨w9,rfl⟩:=bF wc;have iM:=ai hls;clear hls p0 xR;have p0:=bZ.o w9 iM.o.st;go_wp2_with fail;cases hc:bG R.l j7 [44]with
         |true=>
          have HC:=ai hc;clear hc;refine(cZ R HL.o ⟨#[44]⟩ _ j7 d iM.o.rd dc HC.o).mono ?_;rintro e wa ⟨rfl,hra,sa⟩;have jk:=ai (iM.o.read hrb om hra sa);(have kU:=ai (bpQ UK.o HC.o));clear hra sa p0;go_wp2_with fail;go_roundg gn;case rel=>exact⟨by omega,j7+1,ns++[s],v9,kU.o,jk.o⟩
          case measure=>omega
         |false=>
          have HC:=ai hc;clear hc;refine(dU R HL.o ⟨#[44]⟩ _ j7 d iM.o.rd dc HC.o).mono ?_;rintro e wa ⟨rfl,hra,sa⟩;have jk:=ai (iM.o.read hrb om hra sa);(have kU:=ai (bmQ UK.o HC.o));clear hra sa p0;have p0:=bZ.o wa jk.o.st;go_wp2_with fail;refine(dL R HL.o wa.heap.size ⟨#[124]⟩ _ j7 d (jk.o.rd.quiet (bg.alloc _)) dc (aj (aC _ _) 0 _ rfl)).mono ?_;rintro e wb hp;have hp2:aK R d iJ (aJ R.l j7 [124]) _ e wb:=hp;cases hn:aJ R.l j7 [124]with
          |out=>exact(dJ hn).elim
          |err c ln col=>rw[hn]at hp2;obtain⟨rfl,sb⟩:=hp2;refine⟨rfl,aY.aU (c:=c) (ln:=ln) (col:=col) (by rw[kU.o,hn];rfl) rfl ?_⟩;exact((dH.o.mono fe).trans jk.o.st).trans ((((Step.refl (·=R.rb) _).alloc _).trans sb).mono il)
          |ok u2 j9=>have IK:=ai hn;rw[hn]at hp2;obtain⟨⟨v,rfl,rfl⟩,uD,sb⟩:=hp2;have rZ:=ai (jk.o.read hrb om uD (((Step.refl (·=R.rb) _).alloc _).trans sb));(have J9:Hid (r=((bU f R.l j9 d).bind fun b j=>.ok (nm,ns++[s],b) j)):=by show _=_;rw[kU.o,IK.o];rfl);clear hn uD sb p0 hp;go_wp2_with fail;go_meet;case rel=>exact⟨j9,ns++[s],v9,J9.o,rZ.o⟩
   case rest=>
    obtain⟨jn,ns,vn,hrn,hls⟩:=hcut;obtain⟨w9,rfl⟩:=bF wc;have iM:=ai hls;have pV:=ai hrn;clear hls hrn p0;have p0:=bZ.o w9 iM.o.st;go_wp2_with fail;refine(IH.o R w9 jn d HL.o iM.o.rd hd (fun e=>fH.o (by rw[pV.o,e];rfl))).mono ?_;rintro e wa hp;have hp2:aK R d (NS w9.heap.size) (bU f R.l jn d) _ e wa:=hp;cases hn:bU f R.l jn d with
    |out=>exact absurd (by rw[pV.o,hn];rfl) fH.o
    |err c ln col=>rw[hn]at hp2;obtain⟨rfl,sa⟩:=hp2;refine⟨rfl,aY.aU (c:=c) (ln:=ln) (col:=col) (by rw[pV.o,hn];rfl) rfl ?_⟩;exact((dH.o.mono fe).trans iM.o.st).trans (sa.mono il)
    |ok bs ja=>have IK:=ai hn;rw[hn]at hp2;obtain⟨⟨vb,rfl,xb,hrow,hels⟩,hra,sa⟩:=hp2;(obtain⟨ab,cb,rfl,hvb⟩:∃(ab:Option Addr) (cb:Nat),vb=.slice ab bs.length cb∧dh wa (fun k=>w9.heap.size≤k) (.slice ab bs.length cb) bs.length xb:=by obtain⟨ab,cb,hv,-⟩:=id hrow;exact⟨ab,cb,hv,by rw[←hv];exact hrow⟩);have HROW:=ai hvb;have HELS:=ai hels;have HRA2:=ai hra;have jk:=ai (iM.o.read hrb om hra sa);have TW:=ai sa;clear hn hrow hels hra sa hvb p0 hp;have bt6:=aj jk.o.blk 6 _ rfl;have bz6:=aG jk.o.blk 6;have ji:Hid (Step (·=bt) wa (wa.setCell ⟨bt,6,none⟩ (.slice ab bs.length cb))):=(Step.refl (·=bt) _).setCell _ _ iV;have YP:Hid ((wa.setCell ⟨bt,6,none⟩ (.slice ab bs.length cb)).heap[bt]?=some (.cells #[ah 17,aI nm,aX 0,aW,ak,vn,.slice ab bs.length cb,ah t.line,ah t.col] 56 (0,0))):=aQ jk.o.blk 6 (.slice ab bs.length cb);have h9:=iM.o.st.size;have hsa:=TW.o.size;go_wp2_with fail;refine bodyPost_end (results_none rfl _ _ _) rfl ?_;refine aY.dN (a:=(nm,ns,bs)) (j:=ja) (by rw[pV.o,IK.o];rfl) rfl ⟨xb,vn,_,YP.o,QA.o,iM.o.sz,dh.jd (jC jk.o.on ji.o (fun q hq e=>by have:=(jk.o.on.lt q hq).1;omega)) (fun q hq=>by have:=(jk.o.on.lt q hq).1;have:=dH.o.size;omega),eP.mono (fun q _ hq=>by have:=dH.o.size;omega) _ _ (eP.step ji.o oi _ _ HELS.o),(HROW.o.step ji.o oi).mono (fun q _ hq=>by have:=dH.o.size;omega)⟩ (jk.o.rd.step ji.o oi) ?_;exact((dH.o.mono fe).trans jk.o.st).trans (ji.o.mono ir)
theorem ExEl (a:Ex):yP (fun w P cs=>dA w P a cs):=⟨fun _ _ _ _ cs hs hP h=>dA.step hs hP a cs h,fun _ _ _ cs hp h=>dA.mono hp a cs h⟩
def yX (f:Nat) (l:List Tok) (i d:Nat):dI (ByteArray×List ByteArray×List Ex):=(bH l i).bind fun n j=>(aJ l j [123]).bind fun _ j=>if bG l j [125]then .ok (n,[],[]) (j+1)else(lH f l j d [] []).bind fun p j=>.ok (n,p.1,p.2) j
def yY (n0 bt:Nat) (t:Tok) (w':World) (a:ByteArray×List ByteArray×List Ex):Prop:=∃(xa:List Value) (vn va:Value),w'.heap[bt]?=some (.cells #[ah 11,aI a.1,aX 0,aW,va,vn,ak,ah t.line,ah t.col] 56 (0,0))∧
 a.1.size≤9223372036854775807∧(∀s∈a.2.1,s.size≤9223372036854775807)∧dh w' (fun k=>n0≤k) vn a.2.1.length (a.2.1.map .string)∧bY w' (fun k=>n0≤k) a.2.2 xa∧dh w' (fun k=>n0≤k) va a.2.2.length xa
def Kw (f:Nat):Prop:=∀(R:gI) (w:World) (i d bt:Nat) (t:Tok),oJ R.l→bC R w i d→d≤40→R.rb<bt→w.heap[bt]?=some (.cells #[ah 0,aV,aX 0,aW,ak,ak,ak,ah t.line,ah t.col] 56 (0,0))→yX f R.l i d≠.out→
 Calls Tryz.prog 159 #[.agg #[gW R.rb 0],.pointer (some ⟨bt,0,none⟩)] w (aY R d bt (yY w.heap.size bt t) (yX f R.l i d) w)
structure uF (R:gI) (w1:World) (bt:Nat) (nm:ByteArray) (t:Tok) (d:Nat) (X:World) (i':Nat) (ns:List ByteArray) (al:List Ex) (vn va:Value) (xs:List Value):Prop where
 rd:bC R X i' d
 blk:X.heap[bt]?=some (.cells #[ah 11,aI nm,aX 0,aW,va,vn,ak,ah t.line,ah t.col] 56 (0,0))
 on:X.ownsRow w1.heap.size 9 1 vn ns.length (ns.map .string)
 oa:X.ownsRow w1.heap.size 56 9 va al.length xs
 el:bY X (fun q=>w1.heap.size≤q∧va.ownBlock≠some q∧vn.ownBlock≠some q) al xs
 ne:∀q,vn.ownBlock=some q→va.ownBlock≠some q
 sz:∀s∈ns,s.size≤9223372036854775807
 few:ns.length≤12∧al.length≤ns.length
 st:Step (fun k=>k=R.rb∨k=bt) w1 X
theorem uF.quiet {R:gI} {w1:World} {bt:Nat} {nm:ByteArray} {t:Tok} {d:Nat} {X X':World} {i':Nat} {ns:List ByteArray} {al:List Ex} {vn va:Value} {xs:List Value} (h:uF R w1 bt nm t d X i' ns al vn va xs) (hs:jg X X'):uF R w1 bt nm t d X' i' ns al vn va xs:=
 ⟨h.rd.quiet hs,hs.keep h.blk (fun h=>h),hs.owns h.on (fun _ _ h=>h),hs.owns h.oa (fun _ _ h=>h),bY.step hs (fun _ _ h=>h) _ _ h.el,h.ne,h.sz,h.few,h.st.trans (hs.mono fe)⟩
theorem uF.read {R:gI} {w1:World} {bt:Nat} {nm:ByteArray} {t:Tok} {d:Nat} {X X':World} {i' i2:Nat} {ns:List ByteArray} {al:List Ex} {vn va:Value} {xs:List Value} (h:uF R w1 bt nm t d X i' ns al vn va xs) (hrb:R.rb<bt) (hw:R.rb<w1.heap.size) (hr:bC R X' i2 d) (hs:Step (·=R.rb) X X'):uF R w1 bt nm t d X' i2 ns al vn va xs:=
 ⟨hr,hs.keep h.blk om,hs.owns h.on oi,hs.owns h.oa oi,bY.step hs (fun _ hk h=>by have:=hk.1;omega) _ _ h.el,h.ne,h.sz,h.few,h.st.trans (hs.mono il)⟩
theorem uF.pushN {R:gI} {w1:World} {bt:Nat} {nm:ByteArray} {t:Tok} {d:Nat} {X X2 X3:World} {i':Nat} {ns:List ByteArray} {al:List Ex} {vn va v9:Value} {xs:List Value} {s:ByteArray} (h:uF R w1 bt nm t d X i' ns al vn va xs) (hrb:R.rb<bt) (hbt:bt<w1.heap.size) (h2:jg X X2) (hown:X3.ownsRow w1.heap.size 9 1 v9 (ns.length+1) (ns.map .string++[.string s])) (hgrow:X2.grownBy X3 vn.ownBlock) (hat:v9.ownBlock=vn.ownBlock∨v9.ownBlock=some X2.heap.size) (hs:s.size≤9223372036854775807) (hlt:ns.length<12):uF R w1 bt nm t d (X3.setCell ⟨bt,5,none⟩ v9) i' (ns++[s]) al v9 va xs:=by
 have h3:Step (fun q=>vn.ownBlock=some q) X2 X3:=iZ hgrow;have h4:Step (·=bt) X3 (X3.setCell ⟨bt,5,none⟩ v9):=bg.setCell _ _ iV;have ho:∀q,vn.ownBlock=some q→w1.heap.size≤q∧q<X.heap.size:=fun q hq=>h.on.lt q hq;have hlen:(ns++[s]).length=ns.length+1:=by simp
 have hb3:=h3.keep (h2.keep h.blk (fun h=>h)) (fun e=>by have:=(ho bt e).1;omega);refine⟨((h.rd.quiet h2).step h3 (fun q hq e=>by have:=(ho q e).1;omega)).step h4 oi,aQ hb3 5 v9,?_,?_,?_,?_,?_,⟨by rw[hlen];omega,by rw[hlen];have:=h.few.2;omega⟩,?_⟩
 ·rw[hlen,List.map_append];exact jC hown h4 (fun q hq e=>by have:=(hown.lt q hq).1;omega)
 ·refine jC (jC (h2.owns h.oa (fun _ _ h=>h)) h3 (fun q hq e=>h.ne q e hq)) h4 (fun q hq e=>by have:=(h.oa.lt q hq).1;omega)
 ·have h5:=bY.mono (P':=fun q=>(w1.heap.size≤q∧va.ownBlock≠some q∧vn.ownBlock≠some q)∧q<X.heap.size) (fun q h7 h8=>⟨h8,h7⟩) _ _ h.el;have h6:=bY.step h4 (fun q hq e=>by have:=hq.1.1;omega) _ _ (bY.step h3 (fun q hq e=>hq.1.2.2 e) _ _ (bY.step h2 (fun _ _ h=>h) _ _ h5));refine bY.mono (fun q _ hq=>⟨hq.1.1,hq.1.2.1,fun e=> ?_⟩) _ _ h6;rcases hat with h7|h7
  ·exact hq.1.2.2 (by rw[←h7];exact e)
  ·rw[h7]at e;have e2:X2.heap.size=q:=Option.some.inj e;have:=h2.size;have:=hq.2;omega
 ·intro q hq e;rcases hat with h7|h7
  ·exact h.ne q (by rw[←h7];exact hq) e
  ·rw[h7]at hq;have e2:X2.heap.size=q:=Option.some.inj hq;have:=(h.oa.lt q e).2;have:=h2.size;omega
 ·intro x hx;rcases List.mem_append.1 hx with hx|hx
  ·exact h.sz x hx
  ·rw[List.mem_singleton.1 hx];exact hs
 ·refine((h.st.trans (h2.mono fe)).then h3 (fun q hq e=>by have:=(ho q e).1;omega)).trans (h4.mono ir)
theorem uF.LY {R:gI} {w1:World} {bt:Nat} {nm:ByteArray} {t:Tok} {d:Nat} {w4 X:World} {j8 j9:Nat} {ns:List ByteArray} {al:List Ex} {Ej rf:Option Addr} {Em rq:Nat} {xs:List Value} {ex:Ex} {g9 c9:Nat} {yQ:List Value} (h:uF R w1 bt nm t d w4 j8 ns al (.slice Ej ns.length Em) (.slice rf al.length rq) xs) (hrb:R.rb<bt) (hbt:bt<w1.heap.size) (hlt:al.length<ns.length) (h1:bC R X j9 d) (h2:X.heap[bt]?=some (.cells #[ah 11,aI nm,aX 0,aW,.slice (some ⟨g9,0,none⟩) (al.length+1) c9,.slice Ej ns.length Em,ak,ah t.line,ah t.col] 56 (0,0))) (h3:X.ownsRow w1.heap.size 56 9 (.slice (some ⟨g9,0,none⟩) (al.length+1) c9) (al.length+1) (xs++yQ)) (h4:dA X (fun q=>w4.heap.size≤q∧q≠g9) ex yQ) (h5:(Value.slice rf al.length rq).ownBlock=some g9∨w4.heap.size≤g9) (h6:Step (fun q=>q=R.rb∨q=bt∨(Value.slice rf al.length rq).ownBlock=some q) w4 X):uF R w1 bt nm t d X j9 ns (al++[ex]) (.slice Ej ns.length Em) (.slice (some ⟨g9,0,none⟩) (al.length+1) c9) (xs++yQ):=by
 have hol:=h.on;have hne:=h.ne;have YK:∀q,(Value.slice Ej ns.length Em).ownBlock=some q→q≠g9:=by
  intro q hq e;subst e;rcases h5 with h5|h5
  ·exact hne q hq h5
  ·have:=(hol.lt q hq).2;omega
 have hlen:(al++[ex]).length=al.length+1:=by simp
 refine⟨h1,h2,jC hol h6 (fun q hq e=> ?_),by rw[hlen];exact h3,bY.snoc ?_ ?_,fun q hq e=> ?_,h.sz,⟨h.few.1,by rw[hlen];omega⟩,h.st.then h6 (fun q hq e=> ?_)⟩
 ·have h7:=(hol.lt q hq).1;rcases e with e|e|e
  ·omega
  ·omega
  ·exact hne q hq e
 ·refine bY.mono ?_ _ _ (bY.step h6 ?_ _ _ (bY.mono (P':=fun q=>(w1.heap.size≤q∧(Value.slice rf al.length rq).ownBlock≠some q∧(Value.slice Ej ns.length Em).ownBlock≠some q)∧q<w4.heap.size) (fun q h7 h8=>⟨h8,h7⟩) _ _ h.el))
  ·intro q _ hq;refine⟨hq.1.1,fun e=> ?_,hq.1.2.2⟩;have e2:g9=q:=Option.some.inj e;rcases h5 with h5|h5
   ·exact hq.1.2.1 (by rw[←e2];exact h5)
   ·have:=hq.2;omega
  ·intro q hq e;rcases e with e|e|e
   ·have:=hq.1.1;omega
   ·have:=hq.1.1;omega
   ·exact hq.1.2.1 e
 ·refine dA.mono (fun q _ hq=>⟨Nat.le_trans h.st.size hq.1,fun e=>hq.2 (Option.some.inj e).symm,fun e=> ?_⟩) _ _ h4;have:=(hol.lt q e).2;have:=hq.1;omega
 ·exact YK q hq (Option.some.inj e).symm
 ·rcases e with e|e|e
  ·exact .inl e
  ·exact .inr e
  ·have:=(h.oa.lt _ e).1;omega
theorem N9 (f:Nat) (ih:∀f',f'<f→ni f'):Kw f:=by
 intro R w i d bt t hl h hd hrb hbt hno;have HL:=ai hl;have IH:=ai ih;obtain⟨r,hr⟩:=bF (yX f R.l i d);have HRR:Hid (r=(bH R.l i).bind fun n j=>(aJ R.l j [123]).bind fun _ j=>if bG R.l j [125]then .ok (n,[],[]) (j+1)else(lH f R.l j d [] []).bind fun p j=>.ok (n,p.1,p.2) j):=by show _=_;rw[hr,yX]
 rw[←hr]at hno⊢;have fH:=ai hno;have JS:=aP hbt;obtain⟨w1,hw1⟩:=bF (w.alloc (.cells #[gW R.rb 0] 75));have dH:=nS hw1
 have kK:=nB hw1
 have Ei:=ai (dH.o.keep hbt (fun h=>h));have HW1:=ai hw1;have H1:=ai (h.quiet dH.o);have hn1:=aP kK.o;have bZ:Hid (∀X:World,Step (fun q=>q=R.rb∨q=bt) w1 X→X.cell? ⟨w.heap.size,0,none⟩=some (.pointer (some ⟨R.rb,0,none⟩))):=fun X hX=>aj (hX.keep kK.o om) 0 _ rfl
 obtain⟨i0,hi0,hz0,hz1,hz2⟩:=info_parts Tryz.oN;have HI:=ai hi0;have HZ0:=ai hz0;have HZ1:=ai hz1;have HZ2:=ai hz2;have p0:=bZ.o w1 bg;obtain⟨j0,hj0,hy0,hy1,hy2⟩:=info_parts Tryz.CJ;have HJ:=ai hj0;have HY0:=ai hy0;have HY1:=ai hy1;have HY2:=ai hy2;clear ih hl h hno hr hw1 hbt hi0 hz0 hz1 hz2 hj0 hy0 hy1 hy2;go_enter Tryz.func159,Tryz.ntmps159;go_upto_region 1 with fail
 rw[←HW1.o];go_wp2_with fail;cases hn:bH R.l i with
 |out=>exact(iQ hn).elim
 |err c ln col=>have HN:=ai hn;clear hn;refine(name_any R HL.o _ i d H1.o).mono ?_;rintro e wq hp;rw[HN.o]at hp;obtain⟨rfl,sq⟩:=hp;refine⟨rfl,aY.aU (c:=c) (ln:=ln) (col:=col) (by rw[HRR.o,HN.o];rfl) rfl ?_⟩;exact((dH.o.mono fe).trans sq).mono il
 |ok nm j=>
  have HN:=ai hn;have QA:=ai (fF HL.o H1.o.lt hn);clear hn;refine(name_any R HL.o _ i d H1.o).mono ?_;rintro e w2 hp;rw[HN.o]at hp;obtain⟨⟨v,rfl,rfl⟩,hr2,s2⟩:=hp;have HR2:=ai hr2;have HS2:=ai s2;have qK:=ai (s2.keep Ei.o om);have kY:Hid (r=(aJ R.l j [123]).bind fun _ j=>if bG R.l j [125]then .ok (nm,[],[]) (j+1)else(lH f R.l j d [] []).bind fun p j=>.ok (nm,p.1,p.2) j):=by show _=_;rw[HRR.o,HN.o];rfl
  have m_:=aj qK.o 0 _ rfl;have ng:=aG qK.o 0;have Eg:=aj qK.o 1 _ rfl;have Eh:=aG qK.o 1;obtain⟨w3,hw3⟩:=bF ((w2.setCell ⟨bt,0,none⟩ (.int .i64 11)).setCell ⟨bt,1,none⟩ (.string nm));have jX:Hid (Step (·=bt) w2 w3):=by rw[hw3];exact((Step.refl (·=bt) _).setCell _ _ iV).setCell _ _ iV
  have IA:Hid (w3.heap[bt]?=some (.cells #[ah 11,aI nm,aX 0,aW,ak,ak,ak,ah t.line,ah t.col] 56 (0,0))):=by rw[hw3];exact aQ (aQ qK.o 0 (.int .i64 11)) 1 (.string nm)
  have oH:Hid (Step (fun q=>q=R.rb∨q=bt) w1 w3):=(HS2.o.mono il).trans (jX.o.mono ir);have fP:Hid (uF R w1 bt nm t d w3 j [] [] (.slice none 0 0) (.slice none 0 0) []):=⟨HR2.o.step jX.o oi,IA.o,World.ownsRow_nil _ _ _ _,World.ownsRow_nil _ _ _ _,by rw[bY],nR,nR,by simp,oH.o⟩;clear hr2 s2 p0;go_upto_region 2 with fail
  rw[←hw3];clear hw3 m_ ng Eg Eh;have p0:=bZ.o w3 oH.o;go_wp2_with fail;refine(dL R HL.o w3.heap.size ⟨#[123]⟩ _ j d (fP.o.rd.quiet (bg.alloc _)) dc (aj (aC _ _) 0 _ rfl)).mono ?_;rintro e w4 hp;have hp2:aK R d iJ (aJ R.l j [123]) _ e w4:=hp;cases hn:aJ R.l j [123]with
  |out=>exact(dJ hn).elim
  |err c ln col=>rw[hn]at hp2;obtain⟨rfl,s4⟩:=hp2;refine⟨rfl,aY.aU (c:=c) (ln:=ln) (col:=col) (by rw[kY.o,hn];rfl) rfl ?_⟩;exact((dH.o.mono fe).trans fP.o.st).trans ((((Step.refl (·=R.rb) _).alloc _).trans s4).mono il)
  |ok u j4=>
   have JY:=ai hn;rw[hn]at hp2;obtain⟨⟨v,rfl,rfl⟩,hr4,s4⟩:=hp2;have fD:=ai (fP.o.read hrb om hr4 (((Step.refl (·=R.rb) _).alloc _).trans s4));(have jV:Hid (r=if bG R.l j4 [125]then .ok (nm,[],[]) (j4+1)else(lH f R.l j4 d [] []).bind fun p j=>.ok (nm,p.1,p.2) j):=by show _=_;rw[kY.o,JY.o];rfl);clear hn hr4 s4 p0 hp;have p0:=bZ.o w4 fD.o.st;go_wp2_with fail;cases hb:bG R.l j4 [125]with
   |true=>have HB:=ai hb;clear hb;refine(cZ R HL.o ⟨#[125]⟩ _ j4 d fD.o.rd dc HB.o).mono ?_;rintro e w5 ⟨rfl,II,h5⟩;have lN:=ai (fD.o.read hrb om II h5);clear II h5 p0;go_wp2_with fail;refine bodyPost_ret (results_none rfl _ _ _) rfl ?_;refine aY.dN (a:=(nm,[],[])) (j:=j4+1) (by rw[jV.o,HB.o,if_pos rfl]) rfl ⟨[],_,_,lN.o.blk,QA.o,nR,dh.nil _ _ _,by rw[bY],dh.nil _ _ _⟩ lN.o.rd ((dH.o.mono fe).trans lN.o.st)
   |false=>
    have HB:=ai hb;clear hb;refine(dU R HL.o ⟨#[125]⟩ _ j4 d fD.o.rd dc HB.o).mono ?_;rintro e w5 ⟨rfl,II,h5⟩;have lN:=ai (fD.o.read hrb om II h5);(have Hu:=ai (jV.o.trans (wZ HB.o)));clear II h5 p0;go_wp2_with fail;go_loopg [] f (fun gg wr=>gg≤f∧∃(i':Nat) (ns:List ByteArray) (al:List Ex) (vn va:Value) (xs:List Value),r=((lH gg R.l i' d ns al).bind fun p j=>.ok (nm,p.1,p.2) j)∧uF R w1 bt nm t d wr i' ns al vn va xs);case atStart=>exact⟨Nat.le_refl _,j4,[],[],_,_,[],Hu.o,lN.o⟩
    case round=>
     obtain⟨hgf,i',ns,al,vn,va,xs,hrq,hst⟩:=hrel;obtain⟨gn,rfl⟩:∃gn,gk=gn+1:=by
      cases gk with
      |zero=>exact absurd hrq (by rw[lH];exact fH.o)
      |succ gn=>exact⟨gn,rfl⟩
     (have tX:Hid (r=((eU ns.length 12 R.l i').bind fun _ i=>(bH R.l i).bind fun n j=>(aJ R.l j [58]).bind fun _ j=>(a_ gn R.l j d 0).bind fun x j=>if bG R.l j [44]then lH gn R.l (j+1) d (ns++[n]) (al++[x])else(aJ R.l j [125]).bind fun _ j=>.ok (ns++[n],al++[x]) j).bind fun p j=>.ok (nm,p.1,p.2) j):=by show _=_;rw[hrq,lH]);obtain⟨Ej,Em,rfl⟩:=b_ hst.on;obtain⟨rf,rq,rfl⟩:=b_ hst.oa;have HST:=ai hst;have hfew:=hst.few;have p0:=bZ.o wr hst.st;have xR:=aj hst.blk 5 _ rfl;clear hrq hst;(go_upto_region 4 with fail);go_still_tail 6,kr;change wpList _ _ _ _ _ wr.drew;obtain⟨wd,hwd⟩:=bF wr.drew;(have uy:Hid (uF R w1 bt nm t d wd i' ns al (.slice Ej ns.length Em) (.slice rf al.length rq) xs):=by rw[hwd];exact HST.o.quiet (bg.drew));rw[←hwd];clear hwd p0 xR;have p0:=bZ.o wd uy.o.st;have xR:=aj uy.o.blk 5 _ rfl;go_wp2_with fail;refine(mr R wd ns.length 12 i' d uy.o.rd).mono ?_;rintro e w6 hp;cases hn:eU ns.length 12 R.l i' with
     |out=>exact(kX hn).elim
     |err c ln col=>rw[hn]at hp;obtain⟨rfl,s6⟩:=hp;refine⟨rfl,aY.aU (c:=c) (ln:=ln) (col:=col) (by rw[tX.o,hn];rfl) rfl ?_⟩;exact((dH.o.mono fe).trans uy.o.st).trans (s6.mono il)
     |ok u j6=>
      have hji:j6=i'∧ns.length<12:=by
       unfold eU at hn;split at hn
       ·cases hn
       ·cases hn;exact⟨rfl,by omega⟩
      obtain⟨rfl,hlt12⟩:=hji;have oQ:=ai hn;rw[hn]at hp;obtain⟨⟨v,rfl,rfl⟩,o9,s6⟩:=hp;have fA:=ai (uy.o.read hrb om o9 s6);(have D6:Hid (r=((bH R.l j6).bind fun n j=>(aJ R.l j [58]).bind fun _ j=>(a_ gn R.l j d 0).bind fun x j=>if bG R.l j [44]then lH gn R.l (j+1) d (ns++[n]) (al++[x])else(aJ R.l j [125]).bind fun _ j=>.ok (ns++[n],al++[x]) j).bind fun p j=>.ok (nm,p.1,p.2) j):=by show _=_;rw[tX.o,oQ.o];rfl);clear hn o9 s6 p0 xR;have p0:=bZ.o w6 fA.o.st;have xR:=aj fA.o.blk 5 _ rfl;(go_upto_region 5 with fail);cases hn:bH R.l j6 with
      |out=>exact(iQ hn).elim
      |err c ln col=>
       have HN:=ai hn;(have LX:Hid (∀X,bC R X j6 d→Calls Tryz.prog 80 #[.pointer (some ⟨R.rb,0,none⟩)] X fun e w'=>e=.panicked [{v:=.iface 184 (.agg #[ah c,ah ln,ah col]),recovered:=false}]∧Step (·=R.rb) X w'):=by intro X hX;have h9:=name_any R HL.o X j6 d hX;rw[HN.o]at h9;exact h9);(have CB:Hid (∀wq:World,Step (·=R.rb) w6.drew wq→aY R d bt (yY w.heap.size bt t) r w (.panicked [{v:=.iface 184 (.agg #[ah c,ah ln,ah col]),recovered:=false}]) wq):=by intro wq hs;refine aY.aU (c:=c) (ln:=ln) (col:=col) (by rw[D6.o,HN.o];rfl) rfl ?_;exact((dH.o.mono fe).trans fA.o.st).trans ((((Step.refl (·=R.rb) _).drew).trans hs).mono il));clear hn;refine bD kr (ClJ R bt w.heap.size (.slice Ej ns.length Em) w6.drew) 13 rfl kr kr kr kr ?h0 ?hs ?hdone;case h0=>exact⟨rfl,rfl,lg,lg,lg,lg,lg,lg,lg,lg,lg⟩
       case hs=>
        refine⟨?_,?_,?_,?_,?_,?_,?_,?_,?_,?_,?_,?_,?_,trivial⟩
        all_goals intro L V X a ev ig hdf hL ay hJ
        ·have hwx:=hJ.wx;subst hwx;have o1:=ig 1 rfl;change a.tmps[1]?.getD undef=.pointer (some ⟨bt,0,none⟩)at o1;go_simp;exact⟨_,rfl,{hJ with no:=by rw[aA _ dc];exact hJ.no,v0:=fun _=>rfl}⟩
        ·have hwx:=hJ.wx;subst hwx;have o1:=ig 1 rfl;change a.tmps[1]?.getD undef=.pointer (some ⟨bt,0,none⟩)at o1;go_simp;exact⟨_,rfl,{hJ with no:=by rw[aA _ dc];exact hJ.no,v1:=fun _=>rfl}⟩
        ·have hwx:=hJ.wx;subst hwx;have e28:=(ev 1 28 rfl (ay 1 rfl)).trans (hJ.v1 (ay 1 rfl));go_simp;exact⟨_,rfl,{hJ with no:=by rw[aA _ dc];exact hJ.no,v2:=fun _=>rfl}⟩
        ·have hwx:=hJ.wx;subst hwx;have e29:=(ev 2 29 rfl (ay 2 rfl)).trans (hJ.v2 (ay 2 rfl));go_simp;exact⟨_,rfl,{hJ with no:=by rw[aA _ dc];exact hJ.no,v3:=fun _=>rfl}⟩
        ·have hwx:=hJ.wx;subst hwx;have e30:=(ev 3 30 rfl (ay 3 rfl)).trans (hJ.v3 (ay 3 rfl));have q5:=aj (((Step.refl (fun _=>False) w6).drew).keep fA.o.blk (fun h=>h)) 5 _ rfl;go_simp;exact⟨_,rfl,{hJ with no:=by rw[aA _ dc];exact hJ.no,v4:=fun _=>rfl}⟩
        ·have hwx:=hJ.wx;subst hwx;have o2:=ig 2 rfl;change a.tmps[2]?.getD undef=.pointer (some ⟨w.heap.size,0,none⟩)at o2;go_simp;exact⟨_,rfl,{hJ with no:=by rw[aA _ dc];exact hJ.no,v5:=fun _=>rfl}⟩
        ·have hwx:=hJ.wx;subst hwx;have e32:=(ev 5 32 rfl (ay 5 rfl)).trans (hJ.v5 (ay 5 rfl));have q0:=bZ.o w6.drew (fA.o.st.trans (bg.drew));go_simp;exact⟨_,rfl,{hJ with no:=by rw[aA _ dc];exact hJ.no,v6:=fun _=>rfl}⟩
        ·have hwx:=hJ.wx;subst hwx;have e33:=(ev 6 33 rfl (ay 6 rfl)).trans (hJ.v6 (ay 6 rfl));go_simp;refine(LX.o _ (fA.o.rd.quiet (bg.drew))).mono ?_;rintro e wq ⟨rfl,hs⟩;exact⟨hdf,CB.o wq hs⟩
        ·have hwx:=hJ.wx;subst hwx;exact absurd hJ.no (by rw[ay 7 rfl];decide)
        ·have hwx:=hJ.wx;subst hwx;exact absurd hJ.no (by rw[ay 7 rfl];decide)
        ·have hwx:=hJ.wx;subst hwx;have e27:=(ev 0 27 rfl (ay 0 rfl)).trans (hJ.v0 (ay 0 rfl));go_simp;exact⟨_,rfl,{hJ with no:=by rw[aA _ dc];exact hJ.no,v10:=fun _=>rfl}⟩
        ·have hwx:=hJ.wx;subst hwx;have e37:=(ev 10 37 rfl (ay 10 rfl)).trans (hJ.v10 (ay 10 rfl));go_simp;exact⟨_,rfl,{hJ with no:=by rw[aA _ dc];exact hJ.no,v11:=fun _=>rfl}⟩
        ·have hwx:=hJ.wx;subst hwx;exact absurd hJ.no (by rw[ay 7 rfl];decide)
       case hdone=>intro L V X hall hJ;exact absurd hJ.no (by rw[hall 7 dc];decide)
      |ok s j7=>
       have HN:=ai hn;have YJ:=ai (fF HL.o fA.o.rd.lt hn);(have LX:Hid (∀X,bC R X j6 d→Calls Tryz.prog 80 #[.pointer (some ⟨R.rb,0,none⟩)] X fun e w'=>e=.returned (.string s)∧bC R w' j7 d∧Step (·=R.rb) X w'):=by intro X hX;refine(name_any R HL.o X j6 d hX).mono ?_;intro e w' hp;rw[HN.o]at hp;obtain⟨⟨v,he,hv⟩,h1,h2⟩:=hp;exact⟨by rw[he,hv],h1,h2⟩);(have UK:Hid (r=((aJ R.l j7 [58]).bind fun _ j=>(a_ gn R.l j d 0).bind fun x j=>if bG R.l j [44]then lH gn R.l (j+1) d (ns++[s]) (al++[x])else(aJ R.l j [125]).bind fun _ j=>.ok (ns++[s],al++[x]) j).bind fun p j=>.ok (nm,p.1,p.2) j):=by show _=_;rw[D6.o,HN.o];rfl);clear hn;go_cut [] (fun wx=>∃v9:Value,uF R w1 bt nm t d wx j7 (ns++[s]) al v9 (.slice rf al.length rq) xs);case first=>
        first
        |(go_region_law (first
            |(refine pR _ rfl (w8.heap.size+1) (.tmp 31) (.tmp 35) 40 rfl w1.heap.size 9 i0 (.string ⟨#[]⟩) 1 16 Tryz.underlying40 HI.o HZ0.o HZ1.o HZ2.o rfl dc _ _ _ (by simp[Act.eval]) Qo.o _ 1 _ (by simp[Act.eval]) IE.o rfl IG.o (by unfold maxLen;omega) om Qp.o ?_;intro v9 w9 iU gJ oG;obtain⟨a9,c9,rfl⟩:=b_ iU;have kP:Hid (uF R w1 bt nm t d (w9.setCell ⟨bt,5,none⟩ (.slice a9 (ns.length+1) c9)) j7 (ns++[s]) al (.slice a9 (ns.length+1) c9) (.slice rf al.length rq) xs):=jM.o.pushN hrb om (bg.alloc _) iU gJ oG YJ.o hlt12;have hbb:=(iZ gJ).keep (aT (o':=.cells #[aI s] 9) jM.o.blk) (fun e=>by have:=(jM.o.on.lt _ e).1;omega);have bt5':=aj hbb 5 _ rfl;have bz5':=aG hbb 5;clear hbb iU gJ oG)
            |(go_simp;go_at_call 80;refine(LX.o _ (fA.o.rd.quiet (bg.drew))).mono ?_;rintro e8 w8 ⟨rfl,uo,hs8⟩;have jM:=ai ((fA.o.quiet (bg.drew)).read hrb om uo hs8);have Qo:Hid ((w8.alloc (.cells #[aI s] 9)).ownsRow w1.heap.size 9 1 (.slice Ej ns.length Em) ns.length (ns.map .string)):=jM.o.on.alloc _;have IE:Hid (Row (w8.alloc (.cells #[aI s] 9)) (w8.heap.size+1) (.slice (some ⟨w8.heap.size,0,none⟩) 1 1) 1 [.string s]):=Row.new (aC _ _) dc;have IG:Hid (∀u∈[Value.string s],u.oneCell'=true):=by
               show∀u∈_,_
               intro u hu
               simp at hu
               subst hu;rfl
              have Qp:Hid (w1.heap.size≤(w8.alloc (.cells #[aI s] 9)).heap.size):=by
               show _≤_
               have:=jM.o.st.size
               simp;omega
              have bt58:=aj jM.o.blk 5 _ rfl
              have bt59:=aj (aT (o':=.cells #[aI s] 9) jM.o.blk) 5 _ rfl
              clear uo hs8)))
        |fail
        all_goals (
         clear p0 xR
         go_wp2_with fail
         go_meet
         case rel=>exact⟨_,kP.o⟩)
       case rest=>
        obtain⟨v9,hls⟩:=hcut;obtain⟨w9,rfl⟩:=bF wc;obtain⟨IL,YX⟩:∃q,q=ns++[s]:=⟨_,rfl⟩;rw[←YX]at hls UK;have iM:=ai hls;(have HLT8:Hid (al.length<IL.length):=by show _<_;rw[YX];simp;omega);clear hls p0 xR YX;have p0:=bZ.o w9 iM.o.st;go_wp2_with fail;refine(dL R HL.o w9.heap.size ⟨#[58]⟩ _ j7 d (iM.o.rd.quiet (bg.alloc _)) dc (aj (aC _ _) 0 _ rfl)).mono ?_;rintro e wa hp;have hp2:aK R d iJ (aJ R.l j7 [58]) _ e wa:=hp;cases hn:aJ R.l j7 [58]with
        |out=>exact(dJ hn).elim
        |err c ln col=>rw[hn]at hp2;obtain⟨rfl,sa⟩:=hp2;refine⟨rfl,aY.aU (c:=c) (ln:=ln) (col:=col) (by rw[UK.o,hn];rfl) rfl ?_⟩;exact((dH.o.mono fe).trans iM.o.st).trans ((((Step.refl (·=R.rb) _).alloc _).trans sa).mono il)
        |ok u j8=>
         have IK:=ai hn;rw[hn]at hp2;obtain⟨⟨v,rfl,rfl⟩,hra,sa⟩:=hp2;obtain⟨a8,c8,rfl⟩:=b_ iM.o.on;have jk:=ai (iM.o.read hrb om hra (((Step.refl (·=R.rb) _).alloc _).trans sa));(have kU:Hid (r=((a_ gn R.l j8 d 0).bind fun x j=>if bG R.l j [44]then lH gn R.l (j+1) d IL (al++[x])else(aJ R.l j [125]).bind fun _ j=>.ok (IL,al++[x]) j).bind fun p j=>.ok (nm,p.1,p.2) j):=by show _=_;rw[UK.o,IK.o];rfl);clear hn hra sa p0 hp;obtain⟨w4,rfl⟩:=bF wa;have Hr:Hid (∀X:World,Step (fun q=>q=R.rb∨q=bt∨(Value.slice rf al.length rq).ownBlock=some q) w4 X→X.cell? ⟨w.heap.size,0,none⟩=some (.pointer (some ⟨R.rb,0,none⟩))):=by
          show∀X,_;intro X hX;refine hX.cell (bZ.o w4 jk.o.st) (fun e=> ?_);have e2:w.heap.size=R.rb∨w.heap.size=bt∨(Value.slice rf al.length rq).ownBlock=some w.heap.size:=e;rcases e2 with e2|e2|e2
          ·omega
          ·omega
          ·have:=(jk.o.oa.lt _ e2).1;omega
         have CQ:Hid (al.length<IL.length):=HLT8;(have hal12:al.length≤12:=by have:=jk.o.few;omega);have HO:Hid (xB R w4 5 7 8 9 10 13 bt w1.heap.size 9 al.length (.slice rf al.length rq) xs [Value.int .i64 0,dG,aX 0,aW,ak,ak,ak,ah 0,ah 0]):=
          ⟨by decide,by decide,by decide,by decide,by decide,by decide,by decide,by decide,by decide,hrb,by omega,jk.o.st.size,fun q hq=>jk.o.oa.lt q hq,jk.o.el.len,rfl⟩
         (have Qq:Hid (∀u∈[Value.int .i64 0,dG,aX 0,aW,ak,ak,ak,ah 0,ah 0],u.oneCell'=true):=by intro u hu;simp at hu;rcases hu with rfl|rfl|rfl|rfl|rfl|rfl|rfl|rfl|rfl<;>rfl);(go_upto_region 7 with fail);cases hx:a_ gn R.l j8 d 0 with
         |out=>exact absurd (by rw[kU.o,hx];rfl) fH.o
         |err c ln col=>
          have HX:=ai hx;clear hx;obtain⟨ex,-⟩:∃ex:Ex,ex=bP 0 dB 0 false [] [] [] LP:=⟨_,rfl⟩;obtain⟨j9,-⟩:∃j9,j9=j8:=⟨_,rfl⟩;have HE:Hid (yP (fun w P cs=>dA w P ex cs)):=ExEl ex;have vP:Hid (∀V,jH R j8 j9 d w4 5 7 8 9 10 13 bt (fun v=>.cells #[ah 11,aI nm,aX 0,aW,v,.slice a8 IL.length c8,ak,ah t.line,ah t.col] 56 (0,0)) w1.heap.size 56 9 al.length (.slice rf al.length rq) xs [Value.int .i64 0,dG,aX 0,aW,ak,ak,ak,ah 0,ah 0] (fun w P cs=>dA w P ex cs) [some (.pointer (some ⟨bt,0,none⟩)),some (.pointer (some ⟨bt,0,none⟩)),some (.pointer (some ⟨bt,4,none⟩)),some (.slice rf al.length rq),some (.agg #[gW R.rb 0]),none,some (.int .i64 (al.length:Int)),none,none,none,none,some (.pointer (some ⟨bt,0,none⟩)),some (.pointer (some ⟨bt,4,none⟩)),none] (fun _=>false) V w4.drew):=fun V=>jH.zero (bg.drew) jk.o.rd jk.o.oa jk.o.blk;(have vS:Hid (∀X,bC R X j8 d→Calls Tryz.prog 40 #[.agg #[gW R.rb 0]] X fun e wq=>e=.panicked [{v:=.iface 184 (.agg #[ah c,ah ln,ah col]),recovered:=false}]∧Step (·=R.rb) X wq):=by intro X hX;have h9:=lQ gn (IH.o gn om) R X j8 d HL.o hX hd (by rw[HX.o];intro h;cases h);rw[HX.o]at h9;exact h9);have CB:Hid (∀X wq:World,Step (fun q=>q=R.rb∨q=bt∨(Value.slice rf al.length rq).ownBlock=some q) w4 X→Step (·=R.rb) X wq→aY R d bt (yY w.heap.size bt t) r w (.panicked [{v:=.iface 184 (.agg #[ah c,ah ln,ah col]),recovered:=false}]) wq):=by
           show∀X wq,_;intro X wq h1 h2;refine aY.aU (c:=c) (ln:=ln) (col:=col) (by rw[kU.o,HX.o];rfl) rfl (((dH.o.mono fe).trans jk.o.st).then (h1.trans (h2.mono il)) (fun q hq e=> ?_));rcases e with e|e|e
           ·exact .inl e
           ·exact .inr e
           ·have:=(jk.o.oa.lt _ e).1;have:=dH.o.size;omega
          refine bD kr (fun L V X=>jH R j8 j9 d w4 5 7 8 9 10 13 bt (fun v=>.cells #[ah 11,aI nm,aX 0,aW,v,.slice a8 IL.length c8,ak,ah t.line,ah t.col] 56 (0,0)) w1.heap.size 56 9 al.length (.slice rf al.length rq) xs [Value.int .i64 0,dG,aX 0,aW,ak,ak,ak,ah 0,ah 0] (fun w P cs=>dA w P ex cs) [some (.pointer (some ⟨bt,0,none⟩)),some (.pointer (some ⟨bt,0,none⟩)),some (.pointer (some ⟨bt,4,none⟩)),some (.slice rf al.length rq),some (.agg #[gW R.rb 0]),none,some (.int .i64 (al.length:Int)),none,none,none,none,some (.pointer (some ⟨bt,0,none⟩)),some (.pointer (some ⟨bt,4,none⟩)),none] L V X∧L 5=false) 14 rfl kr kr kr kr ?h0 ?hs ?hdone;case h0=>exact⟨vP.o _,rfl⟩
          case hs=>
           refine⟨?_,?_,?_,?_,?_,?_,?_,?_,?_,?_,?_,?_,?_,?_,trivial⟩
           all_goals intro L V X a ev ig hdf hL ay hJ
           ·have o1:=ig 1 rfl;change a.tmps[1]?.getD undef=.pointer (some ⟨bt,0,none⟩)at o1;go_simp;exact⟨_,rfl,⟨hJ.1.up 0 dc dc dc dc dc dc rfl,by rw[aA _ dc];exact hJ.2⟩⟩
           ·have e43:=(ev 0 43 rfl (ay 0 rfl)).trans (hJ.1.iD 0 _ rfl (ay 0 rfl));go_simp;exact⟨_,rfl,⟨hJ.1.up 1 dc dc dc dc dc dc rfl,by rw[aA _ dc];exact hJ.2⟩⟩
           ·have e44:=(ev 1 44 rfl (ay 1 rfl)).trans (hJ.1.iD 1 _ rfl (ay 1 rfl));go_simp;exact⟨_,rfl,⟨hJ.1.up 2 dc dc dc dc dc dc rfl,by rw[aA _ dc];exact hJ.2⟩⟩
           ·have e45:=(ev 2 45 rfl (ay 2 rfl)).trans (hJ.1.iD 2 _ rfl (ay 2 rfl));have hZ:=(hJ.1.FV (hJ.1.Qk dc hL)).1;have hb:=hJ.1.blk;rw[hZ,if_neg dc]at hb;have q4:X.cell? ⟨bt,4,none⟩=some (.slice rf al.length rq):=aj hb 4 _ rfl;go_simp;exact⟨_,rfl,⟨hJ.1.up 3 dc dc dc dc dc dc rfl,by rw[aA _ dc];exact hJ.2⟩⟩
           ·have o2:=ig 2 rfl;change a.tmps[2]?.getD undef=.pointer (some ⟨w.heap.size,0,none⟩)at o2;have p0:=Hr.o X hJ.1.st;go_simp;exact⟨_,rfl,⟨hJ.1.up 4 dc dc dc dc dc dc rfl,by rw[aA _ dc];exact hJ.2⟩⟩
           ·have e47:=(ev 4 47 rfl (ay 4 rfl)).trans (hJ.1.iD 4 _ rfl (ay 4 rfl));have hrd:=hJ.1.rd;rw[hL,if_neg dc]at hrd;go_simp;refine(vS.o X hrd).mono ?_;rintro e wq ⟨rfl,hs⟩;exact⟨hdf,CB.o X wq hJ.1.st hs⟩
           ·have e46:=(ev 3 46 rfl (ay 3 rfl)).trans (hJ.1.iD 3 _ rfl (ay 3 rfl));go_simp;exact⟨_,rfl,⟨hJ.1.up 6 dc dc dc dc dc dc rfl,by rw[aA _ dc];exact hJ.2⟩⟩
           ·have hu:=hJ.1.build HE.o HO.o hL rfl;go_simp;exact⟨_,rfl,⟨hu,by rw[aA _ dc];exact hJ.2⟩⟩
           ·have e46:=(ev 3 46 rfl (ay 3 rfl)).trans (hJ.1.iD 3 _ rfl (ay 3 rfl));exact absurd hJ.2 (by rw[ay 5 rfl];decide)
           ·have e49:=(ev 6 49 rfl (ay 6 rfl)).trans (hJ.1.iD 6 _ rfl (ay 6 rfl));exact absurd hJ.2 (by rw[ay 5 rfl];decide)
           ·exact absurd hJ.2 (by rw[ay 5 rfl];decide)
           ·have e43:=(ev 0 43 rfl (ay 0 rfl)).trans (hJ.1.iD 0 _ rfl (ay 0 rfl));go_simp;exact⟨_,rfl,⟨hJ.1.up 11 dc dc dc dc dc dc rfl,by rw[aA _ dc];exact hJ.2⟩⟩
           ·have e53:=(ev 11 53 rfl (ay 11 rfl)).trans (hJ.1.iD 11 _ rfl (ay 11 rfl));go_simp;exact⟨_,rfl,⟨hJ.1.up 12 dc dc dc dc dc dc rfl,by rw[aA _ dc];exact hJ.2⟩⟩
           ·have e54:=(ev 12 54 rfl (ay 12 rfl)).trans (hJ.1.iD 12 _ rfl (ay 12 rfl));exact absurd hJ.2 (by rw[ay 5 rfl];decide)
          case hdone=>intro L V X hall hJ;exact absurd hJ.2 (by rw[hall 5 dc];decide)
         |ok ex j9=>
          have HX:=ai hx;clear hx;have HE:Hid (yP (fun w P cs=>dA w P ex cs)):=ExEl ex;have vP:Hid (∀V,jH R j8 j9 d w4 5 7 8 9 10 13 bt (fun v=>.cells #[ah 11,aI nm,aX 0,aW,v,.slice a8 IL.length c8,ak,ah t.line,ah t.col] 56 (0,0)) w1.heap.size 56 9 al.length (.slice rf al.length rq) xs [Value.int .i64 0,dG,aX 0,aW,ak,ak,ak,ah 0,ah 0] (fun w P cs=>dA w P ex cs) [some (.pointer (some ⟨bt,0,none⟩)),some (.pointer (some ⟨bt,0,none⟩)),some (.pointer (some ⟨bt,4,none⟩)),some (.slice rf al.length rq),some (.agg #[gW R.rb 0]),none,some (.int .i64 (al.length:Int)),none,none,none,none,some (.pointer (some ⟨bt,0,none⟩)),some (.pointer (some ⟨bt,4,none⟩)),none] (fun _=>false) V w4.drew):=fun V=>jH.zero (bg.drew) jk.o.rd jk.o.oa jk.o.blk;(have vS:Hid (∀X,bC R X j8 d→Calls Tryz.prog 40 #[.agg #[gW R.rb 0]] X fun e wq=>(∃v,e=.returned v∧∃cs:List Value,v=.agg cs.toArray∧dA wq (fun q=>X.heap.size≤q) ex cs)∧bC R wq j9 d∧Step (·=R.rb) X wq):=by intro X hX;have h9:=lQ gn (IH.o gn om) R X j8 d HL.o hX hd (by rw[HX.o];intro h;cases h);rw[HX.o]at h9;exact h9);have HRG:Hid (r=(if bG R.l j9 [44]then lH gn R.l (j9+1) d IL (al++[ex])else(aJ R.l j9 [125]).bind fun _ j=>.ok (IL,al++[ex]) j).bind fun p j=>.ok (nm,p.1,p.2) j):=by show _=_;rw[kU.o,HX.o];rfl
          have kP:Hid (∀(g9 c9:Nat) (yQ:List Value) (X:World),bC R X j9 d→X.heap[bt]?=some (.cells #[ah 11,aI nm,aX 0,aW,.slice (some ⟨g9,0,none⟩) (al.length+1) c9,.slice a8 IL.length c8,ak,ah t.line,ah t.col] 56 (0,0))→X.ownsRow w1.heap.size 56 9 (.slice (some ⟨g9,0,none⟩) (al.length+1) c9) (al.length+1) (xs++yQ)→dA X (fun q=>w4.heap.size≤q∧q≠g9) ex yQ→((Value.slice rf al.length rq).ownBlock=some g9∨w4.heap.size≤g9)→Step (fun q=>q=R.rb∨q=bt∨(Value.slice rf al.length rq).ownBlock=some q) w4 X→
            uF R w1 bt nm t d X j9 IL (al++[ex]) (.slice a8 IL.length c8) (.slice (some ⟨g9,0,none⟩) (al.length+1) c9) (xs++yQ)):=by
           show∀g9 c9 yQ X,_
           intro g9 c9 yQ X h1 h2 h3 h4 h5 h6
           exact jk.o.LY hrb om CQ.o h1 h2 h3 h4 h5 h6
          go_cut [] (fun wx=>∃(JF:Value) (JG:List Value),uF R w1 bt nm t d wx j9 IL (al++[ex]) (.slice a8 IL.length c8) JF JG);case first=>
           refine bD kr (jH R j8 j9 d w4 5 7 8 9 10 13 bt (fun v=>.cells #[ah 11,aI nm,aX 0,aW,v,.slice a8 IL.length c8,ak,ah t.line,ah t.col] 56 (0,0)) w1.heap.size 56 9 al.length (.slice rf al.length rq) xs [Value.int .i64 0,dG,aX 0,aW,ak,ak,ak,ah 0,ah 0] (fun w P cs=>dA w P ex cs) [some (.pointer (some ⟨bt,0,none⟩)),some (.pointer (some ⟨bt,0,none⟩)),some (.pointer (some ⟨bt,4,none⟩)),some (.slice rf al.length rq),some (.agg #[gW R.rb 0]),none,some (.int .i64 (al.length:Int)),none,none,none,none,some (.pointer (some ⟨bt,0,none⟩)),some (.pointer (some ⟨bt,4,none⟩)),none]) 14 rfl kr kr kr kr ?h0 ?hs ?hdone;case h0=>exact vP.o _
           case hs=>
            refine⟨?_,?_,?_,?_,?_,?_,?_,?_,?_,?_,?_,?_,?_,?_,trivial⟩
            all_goals intro L V X a ev ig hdf hL ay hJ
            ·have o1:=ig 1 rfl;change a.tmps[1]?.getD undef=.pointer (some ⟨bt,0,none⟩)at o1;go_simp;exact⟨_,rfl,hJ.up 0 dc dc dc dc dc dc rfl⟩
            ·have e43:=(ev 0 43 rfl (ay 0 rfl)).trans (hJ.iD 0 _ rfl (ay 0 rfl));go_simp;exact⟨_,rfl,hJ.up 1 dc dc dc dc dc dc rfl⟩
            ·have e44:=(ev 1 44 rfl (ay 1 rfl)).trans (hJ.iD 1 _ rfl (ay 1 rfl));go_simp;exact⟨_,rfl,hJ.up 2 dc dc dc dc dc dc rfl⟩
            ·have e45:=(ev 2 45 rfl (ay 2 rfl)).trans (hJ.iD 2 _ rfl (ay 2 rfl));have hZ:=(hJ.FV (hJ.Qk dc hL)).1;have hb:=hJ.blk;rw[hZ,if_neg dc]at hb;have q4:X.cell? ⟨bt,4,none⟩=some (.slice rf al.length rq):=aj hb 4 _ rfl;go_simp;exact⟨_,rfl,hJ.up 3 dc dc dc dc dc dc rfl⟩
            ·have o2:=ig 2 rfl;change a.tmps[2]?.getD undef=.pointer (some ⟨w.heap.size,0,none⟩)at o2;have p0:=Hr.o X hJ.st;go_simp;exact⟨_,rfl,hJ.up 4 dc dc dc dc dc dc rfl⟩
            ·have e47:=(ev 4 47 rfl (ay 4 rfl)).trans (hJ.iD 4 _ rfl (ay 4 rfl));have hrd:=hJ.rd;rw[hL,if_neg dc]at hrd;go_simp;refine(vS.o X hrd).mono ?_;rintro e wq ⟨⟨v,rfl,cs,rfl,hty⟩,hr,hs⟩;exact⟨_,rfl,hJ.call HE.o HO.o hL rfl hs hr hty⟩
            ·have e46:=(ev 3 46 rfl (ay 3 rfl)).trans (hJ.iD 3 _ rfl (ay 3 rfl));go_simp;exact⟨_,rfl,hJ.up 6 dc dc dc dc dc dc rfl⟩
            ·have hu:=hJ.build HE.o HO.o hL rfl;go_simp;exact⟨_,rfl,hu⟩
            ·have e46:=(ev 3 46 rfl (ay 3 rfl)).trans (hJ.iD 3 _ rfl (ay 3 rfl));have e50:=ev 7 50 rfl (ay 7 rfl);obtain⟨zb,z1,z2,z3⟩:=hJ.bl (ay 7 rfl) hL;have hall:∀i,i<8→L i=true:=by
              intro i hi;rcases(show i=0∨i=1∨i=2∨i=3∨i=4∨i=5∨i=6∨i=7 by omega)with rfl|rfl|rfl|rfl|rfl|rfl|rfl|rfl
              ·exact ay 0 rfl
              ·exact ay 1 rfl
              ·exact ay 2 rfl
              ·exact ay 3 rfl
              ·exact ay 4 rfl
              ·exact ay 5 rfl
              ·exact ay 6 rfl
              ·exact ay 7 rfl
             refine gq _ X.heap.size (.tmp 46) (.tmp 50) 54 rfl w1.heap.size 56 j0 (.agg #[ah 0,dG,aX 0,aW,ak,ak,ak,ah 0,ah 0]) 9 128 Tryz.underlying54 HJ.o HY0.o HY1.o HY2.o rfl dc _ _ _ (by rw[bW];exact e46) (hJ.old hL) (V 7) 1 _ (by rw[bW];exact e50) (by rw[z1];exact(Row.new z3 dc).mono (aP z3)) rfl Qq.o (by unfold maxLen;omega) om (Nat.le_trans HO.o.bw hJ.st.size) ?_;intro v8 w8 sO oO zU;exact⟨v8,rfl,hJ.app HE.o HO.o hL hall rfl sO oO zU⟩
            ·have e49:=(ev 6 49 rfl (ay 6 rfl)).trans (hJ.iD 6 _ rfl (ay 6 rfl));have e51:=ev 8 51 rfl (ay 8 rfl);obtain⟨g,c,hV,-⟩:=hJ.new (ay 8 rfl);rw[hV]at e51;(have hi0:(0:Int)≤(al.length:Int):=by omega);(have hi1:(al.length:Int)<((al.length+1:Nat):Int):=by omega);(have hi2:(al.length:Int)<(al.length:Int)+1:=by omega);have hu:=hJ.index HO.o (ay 8 rfl) rfl hV;go_simp;exact⟨_,rfl,hu⟩
            ·have h8:=ay 8 rfl;have h9:=ay 9 rfl;have h5:=ay 5 rfl;obtain⟨g,c,hV,-,ys,hown,-⟩:=hJ.new h8;have ep:=(ev 9 52 rfl h9).trans ((hJ.ix h9).2 g c hV);obtain⟨cs,c1,c2⟩:=hJ.el h5;have ec:=(ev 5 48 rfl h5).trans c1;rw[hV]at hown;obtain⟨g',c',cur,hg',-,hcur,hsz⟩:=uw hown om;cases hg';have hcl:cs.length=9:=dA.len c2;refine fC 56 (.tmp 52) (.tmp 48) rfl g (al.length*9) 56 cur cs (by rw[bW];exact ep) (by rw[bW];exact ec) hcur (by rw[hcl];exact Tryz.aO) om (dA.one c2) ?_;intro w6 hb6 hs6;exact⟨undef,rfl,hJ.put HE.o HO.o h8 (fun u hu=>by cases hu) hV c1 hcl hcur hb6 hs6⟩
            ·have e43:=(ev 0 43 rfl (ay 0 rfl)).trans (hJ.iD 0 _ rfl (ay 0 rfl));go_simp;exact⟨_,rfl,hJ.up 11 dc dc dc dc dc dc rfl⟩
            ·have e53:=(ev 11 53 rfl (ay 11 rfl)).trans (hJ.iD 11 _ rfl (ay 11 rfl));go_simp;exact⟨_,rfl,hJ.up 12 dc dc dc dc dc dc rfl⟩
            ·have e54:=(ev 12 54 rfl (ay 12 rfl)).trans (hJ.iD 12 _ rfl (ay 12 rfl));have h8:=ay 8 rfl;have ev8:=ev 8 51 rfl h8;obtain⟨g,c,hV,-⟩:=hJ.new h8;rw[hV]at ev8;have hb:=hJ.blk;rw[hL,if_neg dc]at hb;have q5:=aj hb 4 _ rfl;have z5:=aG hb 4;have hu:=hJ.last (X':=X.setCell ⟨bt,4,none⟩ (.slice (some ⟨g,0,none⟩) (al.length+1) c)) HE.o HO.o h8 (fun u hu=>by cases hu) (by rw[hV];exact aQ hb 4 _) (bg.setCell _ _ iV);go_simp;exact⟨undef,hu⟩
           case hdone=>intro L V X hall hJ;obtain⟨g9,c9,yQ,NK,NM,iU,NP,NQ,wW,hgb9⟩:=hJ.done ⟨hall 5 dc,hall 8 dc,hall 10 dc,hall 13 dc⟩;rw[WZ];simp only[lW,dZ,FB,Bj];clear hJ hall;have HEND9:=ai (kP.o g9 c9 yQ X NK NM iU NP NQ wW);go_wp2_with fail;go_meet;case rel=>exact⟨_,_,HEND9.o⟩
          case rest=>
           obtain⟨JF,JG,hls⟩:=hcut;obtain⟨w5,rfl⟩:=bF wc;have lN:=ai hls;clear hls;have p0:=bZ.o w5 lN.o.st;go_wp2_with fail;cases hc:bG R.l j9 [44]with
           |true=>
            have HC:=ai hc;clear hc;refine(cZ R HL.o ⟨#[44]⟩ _ j9 d lN.o.rd dc HC.o).mono ?_;rintro e wa ⟨rfl,hra,sa⟩;have rZ:=ai (lN.o.read hrb om hra sa);(have HRI:=ai (bpQ HRG.o HC.o));clear hra sa p0;go_wp2_with fail;go_roundg gn;case rel=>exact⟨by omega,j9+1,IL,al++[ex],_,JF,JG,HRI.o,rZ.o⟩
            case measure=>omega
           |false=>
            have HC:=ai hc;clear hc;refine(dU R HL.o ⟨#[44]⟩ _ j9 d lN.o.rd dc HC.o).mono ?_;rintro e wa ⟨rfl,hra,sa⟩;have rZ:=ai (lN.o.read hrb om hra sa);(have HRI:=ai (bmQ HRG.o HC.o));clear hra sa p0;have p0:=bZ.o wa rZ.o.st;go_wp2_with fail;refine(dL R HL.o wa.heap.size ⟨#[125]⟩ _ j9 d (rZ.o.rd.quiet (bg.alloc _)) dc (aj (aC _ _) 0 _ rfl)).mono ?_;rintro e wb hp;have hp2:aK R d iJ (aJ R.l j9 [125]) _ e wb:=hp;cases hn:aJ R.l j9 [125]with
            |out=>exact(dJ hn).elim
            |err c ln col=>rw[hn]at hp2;obtain⟨rfl,sb⟩:=hp2;refine⟨rfl,aY.aU (c:=c) (ln:=ln) (col:=col) (by rw[HRI.o,hn];rfl) rfl ?_⟩;exact((dH.o.mono fe).trans rZ.o.st).trans ((((Step.refl (·=R.rb) _).alloc _).trans sb).mono il)
            |ok u2 jz=>have HNC:=ai hn;rw[hn]at hp2;obtain⟨⟨v,rfl,rfl⟩,uD,sb⟩:=hp2;have F7:=ai (rZ.o.read hrb om uD (((Step.refl (·=R.rb) _).alloc _).trans sb));clear hn uD sb p0 hp;have hs1:=dH.o.size;go_wp2_with fail;refine bodyPost_end (results_none rfl _ _ _) rfl ?_;refine aY.dN (a:=(nm,IL,al++[ex])) (j:=jz) (by rw[HRI.o,HNC.o];rfl) rfl ⟨JG,_,JF,F7.o.blk,QA.o,F7.o.sz,dh.jd F7.o.on (fun q hq=>by have:=(F7.o.on.lt q hq).1;omega),bY.mono (fun q _ hq=>by have:=hq.1;omega) _ _ F7.o.el,dh.jd F7.o.oa (fun q hq=>by have:=(F7.o.oa.lt q hq).1;omega)⟩ F7.o.rd ((dH.o.mono fe).trans F7.o.st)
end Go.Proofs.YtggjfinekcenpaaGreat
