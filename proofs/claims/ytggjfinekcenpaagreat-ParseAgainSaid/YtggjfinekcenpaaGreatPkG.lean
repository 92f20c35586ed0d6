import Derived.Test.YtggjfinekcenpaaGreatPkF
set_option maxRecDepth 100000
set_option maxHeartbeats 80000000
namespace Go.Proofs.YtggjfinekcenpaaGreat
open Go.RowKit
open Vt
def SetLeft (n0 bt:Nat) (t:Tok) (w':World) (a:List Ex×Ex):Prop:=∃(xp xe:List Value) (vp ve:Value),w'.heap[bt]?=some (.cells #[af (if a.1.length=0 then 3 else 2),aX,af 0,aX,aX,aT,aj,aj,af 0,af 0,vp,ve,aj,aj,aT,af t.line,af t.col] 89 (0,0))∧
 bF w' (fun k=>n0≤k) a.1 xp∧aS w' (fun k=>n0≤k) vp a.1.length xp∧bF w' (fun k=>n0≤k) [a.2] xe∧aS w' (fun k=>n0≤k) ve 1 xe
def Qp (f:Nat):Prop:=∀(R:h_) (w:World) (i d bt:Nat) (t:Tok),pF R.l→bD R w i d→d≤40→R.rb<bt→w.heap[bt]?=some (.cells #[af 0,aX,af 0,aX,aX,aT,aj,aj,af 0,af 0,aj,aj,aj,aj,aT,af t.line,af t.col] 89 (0,0))→rE f R.l i d≠.out→
 Calls Tryz.prog 144 #[.agg #[fM R.rb 0],.pointer (some ⟨bt,0,none⟩)] w (aY R d bt (SetLeft w.heap.size bt t) (rE f R.l i d) w)
structure SetJ (bt:Nat) (w4:World) (t:Tok) (xc:List Value) (L:Nat→Bool) (V:Nat→Value) (X:World):Prop where
 iO:∀(i:Nat) v,[some (Value.pointer (some ⟨bt,0,none⟩)),some (.pointer (some ⟨bt,0,none⟩)),some (.agg xc.toArray),none,some (.pointer (some ⟨bt,0,none⟩)),some (.pointer (some ⟨bt,0,none⟩)),none,some (.pointer (some ⟨bt,0,none⟩)),some (.pointer (some ⟨bt,10,none⟩)),none][i]?=some (some v)→L i=true→V i=v
 s3:L 3=true→∃g:Nat,V 3=.slice (some ⟨g,0,none⟩) 1 1∧w4.heap.size≤g∧X.heap[g]?=some (.cells xc.toArray 56 (0,0))
 st:Step (·=bt) w4 X
 blk:X.heap[bt]?=some (.cells #[af (if L 6=true then 2 else 3),aX,af 0,aX,aX,aT,aj,aj,af 0,af 0,(if L 9=true then V 3 else aj),aj,aj,aj,aT,af t.line,af t.col] 89 (0,0))
 q9:L 9=true→L 3=true
theorem Vy (f:Nat) (ih:oz f):Qp (f+1):=by
 intro R w i d bt t hl h hd hrb hbt hno;have HL:=ai hl;have HEX:Hid (∀X j,bD R X j d→a_ f R.l j d 0≠.out→Calls Tryz.prog 40 #[.agg #[fM R.rb 0]] X (aJ R d (NE X.heap.size) (a_ f R.l j d 0) X)):=fun X j hX hn=>mO f ih R X j d hl hX hd hn;obtain⟨r,hr⟩:=bn (rE (f+1) R.l i d);have HRR:Hid (r=(a_ f R.l i d 0).bind fun x j=>(if bH R.l j [61]then(a_ f R.l (j+1) d 0).bind fun y j=>.ok ([x],y) j else .ok ([],x) j).bind fun p j=>(aI R.l j [59]).bind fun _ j=>.ok p j):=by show _=_;rw[hr,rE]
 rw[←hr]at hno⊢;have f_:=ai hno;have NV:=aC hbt;obtain⟨w1,hw1⟩:=bn ((w.setCell ⟨bt,0,none⟩ (.int .i64 3)).alloc (.cells #[fM R.rb 0] 75));have hst:Step (·=bt) w (w.setCell ⟨bt,0,none⟩ (.int .i64 3)):=bV.setCell _ _ jd;have hal:jP (w.setCell ⟨bt,0,none⟩ (.int .i64 3)) w1:=by rw[hw1];exact bV.alloc _
 have hbta:(w.alloc (.cells #[fM R.rb 0] 75)).heap[bt]?=some (.cells #[af 0,aX,af 0,aX,aX,aT,aj,aj,af 0,af 0,aj,aj,aj,aj,aT,af t.line,af t.col] 89 (0,0)):=aN hbt;have dF:Hid (Step (·=bt) w w1):=hst.trans (hal.mono fe);have kG:Hid (w1.heap[w.heap.size]?=some (.cells #[fM R.rb 0] 75 (0,0))):=by rw[hw1];exact vO _ _ _ (by simp)
 have Gw:Hid (w1.heap[bt]?=some (.cells #[af 3,aX,af 0,aX,aX,aT,aj,aj,af 0,af 0,aj,aj,aj,aj,aT,af t.line,af t.col] 89 (0,0))):=by rw[hw1];exact aN (aU hbt 0 (.int .i64 3))
 have HW1:=ai hw1;have H1:=ai ((h.step hst oi).quiet hal);have hn1:=aC kG.o;have dh:Hid (∀X:World,Step (fun q=>q=R.rb∨q=bt) w1 X→X.cell? ⟨w.heap.size,0,none⟩=some (.pointer (some ⟨R.rb,0,none⟩))):=fun X hX=>ah (hX.keep kG.o om) 0 _ rfl
 have oq:=ah hbta 0 _ rfl;have ou:=aH hbta 0;clear ih hl h hno hr hw1 hbt hal hst hbta;go_enter Tryz.func144,Tryz.ntmps144;go_upto_region 2 with fail
 rw[←HW1.o];clear oq ou;have p0:=dh.o w1 bV;go_wp2_with fail;cases hx:a_ f R.l i d 0 with
 |out=>exact absurd (by rw[HRR.o,hx];rfl) f_.o
 |err c ln col=>have HX:=ai hx;clear hx;refine(HEX.o _ i H1.o (by rw[HX.o];intro h;cases h)).mono ?_;rintro e wq hp;rw[HX.o]at hp;obtain⟨rfl,sq⟩:=hp;refine⟨rfl,aY.aW (c:=c) (ln:=ln) (col:=col) (by rw[HRR.o,HX.o];rfl) rfl ?_⟩;exact(dF.o.mono ir).trans (sq.mono il)
 |ok x jx=>
  have HX:=ai hx;clear hx;refine(HEX.o _ i H1.o (by rw[HX.o];intro h;cases h)).mono ?_;rintro e wx hp;rw[HX.o]at hp;obtain⟨⟨v,rfl,cs,rfl,hy⟩,hrx,hsx⟩:=hp;have HY:=ai hy;obtain⟨k5,nm5,v5,NF,b1,m1,d1,b2,m2,d2,b3,m3,d3,l5,c5,rfl⟩:=hy.parts;have wP:=ai hrx;have qW:=ai hsx;have rF:Hid (r=(if bH R.l jx [61]then(a_ f R.l (jx+1) d 0).bind fun y j=>.ok ([x],y) j else .ok ([],x) jx).bind fun p j=>(aI R.l j [59]).bind fun _ j=>.ok p j):=by show _=_;rw[HRR.o,HX.o];rfl
  obtain⟨w3,hw3⟩:=bn (wx.alloc (.cells #[af k5,aG nm5,bf v5,bC NF,.slice b1 m1 d1,.slice b2 m2 d2,.slice b3 m3 d3,af l5,af c5] 56));have jA:=nS hw3
  have HB3:=nB hw3
  have qf:Hid (Step (fun q=>q=R.rb∨q=bt) w1 w3):=(qW.o.trans (jA.o.mono fe)).mono il;have Lj:=ai (jA.o.keep (qW.o.keep Gw.o om) (fun h=>h));have HY3:Hid (cZ w3 (fun q=>w1.heap.size≤q∧q<wx.heap.size) x [.int .i64 k5,.string nm5,.int .u64 v5,.bool NF,.slice b1 m1 d1,.slice b2 m2 d2,.slice b3 m3 d3,.int .i64 l5,.int .i64 c5]):=cZ.step jA.o (fun _ _ h=>h) _ _ (cZ.mono (fun q h1 h2=>⟨h2,h1⟩) _ _ hy);have HR3:=ai (hrx.quiet jA.o);have hz1:=dF.o.size;have hzx:=qW.o.size;have hz3:=aC HB3.o;obtain⟨bx,hbx⟩:=bn wx.heap.size;have HW3:=ai hw3;clear hy hrx hsx p0 hw3;go_upto_region 3 with fail
  rw[←HW3.o];rw[←hbx]at HB3 HY3 hz3 hzx⊢;clear hbx;have p0:=dh.o w3 qf.o;obtain⟨bq,hbq⟩:=bn (bH R.l jx [61]);obtain⟨j2,hj2⟩:=bn (iw R.l jx [61]);have HI2:Hid (Calls Tryz.prog 77 #[.pointer (some ⟨R.rb,0,none⟩),.string ⟨#[61]⟩] w3 fun e w'=>e=.returned (.bool bq)∧bD R w' j2 d∧Step (·=R.rb) w3 w'):=by rw[hbq,hj2];exact uj R HL.o ⟨#[61]⟩ w3 jx d HR3.o dc
  have HB2:=ai hbq;have HJ2:=ai hj2;clear hbq hj2;go_wp2_with fail;refine HI2.o.mono ?_;rintro e w4 ⟨rfl,hr4,h4⟩;have HR4:=ai hr4;have EI:Hid (Step (fun q=>q=R.rb∨q=bt) w1 w4):=qf.o.trans (h4.mono il);have rU:=ai (h4.keep Lj.o om);have HB4:=ai (h4.keep HB3.o om);have SE:Hid (cZ w4 (fun q=>w1.heap.size≤q∧q<bx) x [.int .i64 k5,.string nm5,.int .u64 v5,.bool NF,.slice b1 m1 d1,.slice b2 m2 d2,.slice b3 m3 d3,.int .i64 l5,.int .i64 c5]):=cZ.step h4 oi _ _ HY3.o;have hz4:=h4.size;clear hr4 h4 p0;have p0:=dh.o w4 EI.o;go_upto_if 12 with fail
  go_cut [] (fun wx=>∃(pl:List Ex) (y:Ex) (je:Nat) (k:Int) (vp:Value) (xp cy:List Value),r=((aI R.l je [59]).bind fun _ j=>.ok (pl,y) j)∧k=(if pl.length=0 then 3 else 2)∧bF wx (fun q=>w1.heap.size≤q∧q≠bx) pl xp∧aS wx (fun q=>w1.heap.size≤q∧q≠bx) vp pl.length xp∧
   cZ wx (fun q=>w1.heap.size≤q∧q≠bx) y cy∧wx.heap[bx]?=some (.cells cy.toArray 56 (0,0))∧wx.heap[bt]?=some (.cells #[af k,aX,af 0,aX,aX,aT,aj,aj,af 0,af 0,vp,aj,aj,aj,aT,af t.line,af t.col] 89 (0,0))∧bD R wx je d∧Step (fun q=>q=R.rb∨q=bt∨q=bx) w4 wx)
  case first=>
   cases bq with
   |false=>(have hj:j2=jx:=by rw[HJ2.o,iw,←HB2.o,if_neg dc]);(have mM:Hid (r=((aI R.l j2 [59]).bind fun _ j=>.ok ([],x) j)):=by show _=_;rw[rF.o,←HB2.o,if_neg dc,hj];rfl);clear hj;go_wp2_with fail;go_meet;case rel=>exact⟨[],x,j2,3,.slice none 0 0,[],[.int .i64 k5,.string nm5,.int .u64 v5,.bool NF,.slice b1 m1 d1,.slice b2 m2 d2,.slice b3 m3 d3,.int .i64 l5,.int .i64 c5],mM.o,rfl,by rw[bF],aS.nil _ _ _,cZ.mono oi _ _ SE.o,HB4.o,rU.o,HR4.o,Step.refl _ _⟩
   |true=>
    (have hj:j2=jx+1:=by rw[HJ2.o,iw,←HB2.o,if_pos rfl]);(have mM:Hid (r=(a_ f R.l j2 d 0).bind fun y j=>(aI R.l j [59]).bind fun _ j=>.ok ([x],y) j):=by show _=_;rw[rF.o,←HB2.o,if_pos rfl,hj];cases a_ f R.l (jx+1) d 0<;>rfl);clear hj;have dL:=ai SE.o.one;(go_upto_region 4 with fail);go_cut [] (fun wx=>∃g:Nat,w4.heap.size≤g∧g≠bx∧wx.heap[g]?=some (.cells #[af k5,aG nm5,bf v5,bC NF,.slice b1 m1 d1,.slice b2 m2 d2,.slice b3 m3 d3,af l5,af c5] 56 (0,0))∧wx.heap[bt]?=some (.cells #[af 2,aX,af 0,aX,aX,aT,aj,aj,af 0,af 0,.slice (some ⟨g,0,none⟩) 1 1,aj,aj,aj,aT,af t.line,af t.col] 89 (0,0))∧Step (·=bt) w4 wx);case first=>
     refine bG kr (SetJ bt w4 t [.int .i64 k5,.string nm5,.int .u64 v5,.bool NF,.slice b1 m1 d1,.slice b2 m2 d2,.slice b3 m3 d3,.int .i64 l5,.int .i64 c5]) 10 rfl kr kr kr kr ?h0 ?hs ?hdone;case h0=>exact⟨(fun _ _ _ h=>nomatch h),lW,bV.drew,rU.o,lW⟩
     case hs=>
      refine⟨?_,?_,?_,?_,?_,?_,?_,?_,?_,?_,trivial⟩
      all_goals intro L V X a ev gJ hdf hL ak hJ
      ·have o1:=gJ 1 rfl;change a.tmps[1]?.getD undef=.pointer (some ⟨bt,0,none⟩)at o1;go_simp;exact⟨_,rfl,{hJ with iO:=jk hJ.iO 0 _ (fun u hu=>by cases hu;rfl)}⟩
      ·have o1:=gJ 1 rfl;change a.tmps[1]?.getD undef=.pointer (some ⟨bt,0,none⟩)at o1;go_simp;exact⟨_,rfl,{hJ with iO:=jk hJ.iO 1 _ (fun u hu=>by cases hu;rfl)}⟩
      ·have o4:=gJ 4 rfl;change a.tmps[4]?.getD undef=.pointer (some ⟨bx,0,none⟩)at o4;have hb:=hJ.st.keep HB4.o om;refine wp_load_mid 56 (.tmp 4) rfl bx 0 (by rw[bK];exact o4) [.int .i64 k5,.string nm5,.int .u64 v5,.bool NF,.slice b1 m1 d1,.slice b2 m2 d2,.slice b3 m3 d3,.int .i64 l5,.int .i64 c5] _ (fun jj v hv=>by rw[Nat.zero_add];exact ah hb jj v qE) Tryz.underlying56 rfl Tryz.aK ?_;exact⟨_,rfl,{hJ with iO:=jk hJ.iO 2 _ (fun u hu=>by cases hu;rfl)}⟩
      ·have e15:=(ev 2 15 rfl (ak 2 rfl)).trans (hJ.iO 2 _ rfl (ak 2 rfl));have h9:L 9=false:=by
        cases e:L 9 with
        |false=>rfl
        |true=>exact absurd (hJ.q9 e) (by rw[hL];decide)
       have hs:jP X (X.alloc (.cells #[af k5,aG nm5,bf v5,bC NF,.slice b1 m1 d1,.slice b2 m2 d2,.slice b3 m3 d3,af l5,af c5] 56)):=bV.alloc _;have hb:=hJ.blk;simp only[h9,Bool.false_eq_true,if_false]at hb;go_simp;refine⟨_,rfl,{hJ with iO:=jk hJ.iO 3 _ (fun u hu=>by cases hu),s3:=fun _=>⟨X.heap.size,rfl,hJ.st.size,aB _ _⟩,st:=hJ.st.alloc _,blk:= ?_,q9:=fun _=>rfl}⟩;show(X.alloc _).heap[bt]?=some (.cells #[af (if L 6=true then 2 else 3),aX,af 0,aX,aX,aT,aj,aj,af 0,af 0,(if L 9=true then .slice (some ⟨X.heap.size,0,none⟩) 1 1 else aj),aj,aj,aj,aT,af t.line,af t.col] 89 (0,0));simp only[h9,Bool.false_eq_true,if_false];exact hs.keep hb (fun h=>h)
      ·have e13:=(ev 0 13 rfl (ak 0 rfl)).trans (hJ.iO 0 _ rfl (ak 0 rfl));go_simp;exact⟨_,rfl,{hJ with iO:=jk hJ.iO 4 _ (fun u hu=>by cases hu;rfl)}⟩
      ·have e17:=(ev 4 17 rfl (ak 4 rfl)).trans (hJ.iO 4 _ rfl (ak 4 rfl));go_simp;exact⟨_,rfl,{hJ with iO:=jk hJ.iO 5 _ (fun u hu=>by cases hu;rfl)}⟩
      ·have e18:=(ev 5 18 rfl (ak 5 rfl)).trans (hJ.iO 5 _ rfl (ak 5 rfl));have hb:=hJ.blk;have q0:=ah hb 0 _ rfl;have z0:=aH hb 0;have hs:Step (·=bt) X (X.setCell ⟨bt,0,none⟩ (.int .i64 2)):=bV.setCell _ _ jd;have hbs:=aU hb 0 (.int .i64 2);go_simp;exact⟨undef,{hJ with iO:=jk hJ.iO 6 _ (fun u hu=>by cases hu),s3:=fun e=>(by obtain⟨g,g1,g2,g3⟩:=hJ.s3 e;exact⟨g,g1,g2,hs.keep g3 om⟩),st:=hJ.st.trans hs,blk:=hbs}⟩
      ·have e14:=(ev 1 14 rfl (ak 1 rfl)).trans (hJ.iO 1 _ rfl (ak 1 rfl));go_simp;exact⟨_,rfl,{hJ with iO:=jk hJ.iO 7 _ (fun u hu=>by cases hu;rfl)}⟩
      ·have e19:=(ev 7 19 rfl (ak 7 rfl)).trans (hJ.iO 7 _ rfl (ak 7 rfl));go_simp;exact⟨_,rfl,{hJ with iO:=jk hJ.iO 8 _ (fun u hu=>by cases hu;rfl)}⟩
      ·have e20:=(ev 8 20 rfl (ak 8 rfl)).trans (hJ.iO 8 _ rfl (ak 8 rfl));have hb:=hJ.blk;obtain⟨g,g1,g2,g3⟩:=hJ.s3 (ak 3 rfl);have e16:=(ev 3 16 rfl (ak 3 rfl)).trans g1;have q0:=ah hb 10 _ rfl;have z0:=aH hb 10;have hs:Step (·=bt) X (X.setCell ⟨bt,10,none⟩ (.slice (some ⟨g,0,none⟩) 1 1)):=bV.setCell _ _ jd;have hbs:=aU hb 10 (.slice (some ⟨g,0,none⟩) 1 1);go_simp;refine⟨undef,{hJ with iO:=jk hJ.iO 9 _ (fun u hu=>by cases hu),s3:=fun _=>⟨g,g1,g2,hs.keep g3 om⟩,st:=hJ.st.trans hs,blk:= ?_,q9:=fun _=>ak 3 rfl}⟩;show(X.setCell _ _).heap[bt]?=some (.cells #[af (if L 6=true then 2 else 3),aX,af 0,aX,aX,aT,aj,aj,af 0,af 0,V 3,aj,aj,aj,aT,af t.line,af t.col] 89 (0,0));rw[g1];exact hbs
     case hdone=>intro L V X hall hJ;obtain⟨g,g1,g2,g3⟩:=hJ.s3 (hall 3 dc);have hb:=hJ.blk;rw[hall 6 dc,hall 9 dc,if_pos rfl,if_pos rfl,g1]at hb;have hs9:=hJ.st;rw[show List.range 10=[0,1,2,3,4,5,6,7,8,9] from rfl];simp only[lX,dZ,F5,Ef];clear hJ hall p0;go_wp2_with fail;go_meet;case rel=>exact⟨g,g2,by omega,g3,hb,hs9⟩
    case rest=>
     obtain⟨g,hg1,hg2,hg3,hb5,hs5⟩:=hcut;obtain⟨w5,rfl⟩:=bn wc;have HG5:=ai hg3;have RS:=ai hb5;have HS45:=ai hs5;have YD:=ai (HR4.o.step hs5 oi);have HBX5:=ai (hs5.keep HB4.o om);have HX5:Hid (cZ w5 (fun q=>w1.heap.size≤q∧q<bx) x [.int .i64 k5,.string nm5,.int .u64 v5,.bool NF,.slice b1 m1 d1,.slice b2 m2 d2,.slice b3 m3 d3,.int .i64 l5,.int .i64 c5]):=cZ.step hs5 oi _ _ SE.o;have hz5:=hs5.size;have hg5:=aC hg3;clear hg3 hb5 hs5 p0;have p0:=dh.o w5 (EI.o.trans (HS45.o.mono ir));go_wp2_with fail;cases hx:a_ f R.l j2 d 0 with
     |out=>exact absurd (by rw[mM.o,hx];rfl) f_.o
     |err c ln col=>have Y7:=ai hx;clear hx;refine(HEX.o _ j2 YD.o (by rw[Y7.o];intro h;cases h)).mono ?_;rintro e wq hp;rw[Y7.o]at hp;obtain⟨rfl,sq⟩:=hp;refine⟨rfl,aY.aW (c:=c) (ln:=ln) (col:=col) (by rw[mM.o,Y7.o];rfl) rfl ?_⟩;exact(((dF.o.mono ir).trans EI.o).trans (HS45.o.mono ir)).trans (sq.mono il)
     |ok y jy=>
      have Y7:=ai hx;clear hx;refine(HEX.o _ j2 YD.o (by rw[Y7.o];intro h;cases h)).mono ?_;rintro e w6 hp;rw[Y7.o]at hp;obtain⟨⟨v,rfl,cs,rfl,hy⟩,qH,hs6⟩:=hp;have HYY:=ai hy;have HONY:=ai hy.one;obtain⟨k7,nm7,v7,Vz,p1,q1,r1,p2,q2,r2,p3,q3,r3,l7,c7,rfl⟩:=hy.parts;have Ah:=ai qH;have SG:=ai hs6;have HBX6:=ai (hs6.keep HBX5.o om);(have Ho:Hid (r=((aI R.l jy [59]).bind fun _ j=>.ok ([x],y) j)):=by show _=_;rw[mM.o,Y7.o];rfl);clear hy qH hs6 p0
      go_wp2_with (refine au (w:=w6) rfl 56 (.tmp 4) (.tmp 22) rfl bx 0 56 _ [.int .i64 k7,.string nm7,.int .u64 v7,.bool Vz,.slice p1 q1 r1,.slice p2 q2 r2,.slice p3 q3 r3,.int .i64 l7,.int .i64 c7] rfl rfl HBX6.o Tryz.aK (Nat.le_of_eq rfl) HONY.o ?_
                   intro w7 hb7 y8)
      have Ll:Hid (w7.heap[bx]?=some (.cells #[af k7,aG nm7,bf v7,bC Vz,.slice p1 q1 r1,.slice p2 q2 r2,.slice p3 q3 r3,af l7,af c7] 56 (0,0))):=hb7;have Y8:=ai y8;clear hb7 y8;go_meet;case rel=>have s57:Step (fun q=>q=R.rb∨q=bx) w5 w7:=(SG.o.mono il).trans (Y8.o.mono ir);refine⟨[x],y,jy,2,_,[.int .i64 k5,.string nm5,.int .u64 v5,.bool NF,.slice b1 m1 d1,.slice b2 m2 d2,.slice b3 m3 d3,.int .i64 l5,.int .i64 c5],[.int .i64 k7,.string nm7,.int .u64 v7,.bool Vz,.slice p1 q1 r1,.slice p2 q2 r2,.slice p3 q3 r3,.int .i64 l7,.int .i64 c7],Ho.o,rfl,bF.single (cZ.mono oi _ _ (cZ.step s57 oi _ _ HX5.o)),aS.new (s57.keep HG5.o om) (by simp) om,?_,Ll.o,s57.keep RS.o om,Ah.o.step Y8.o oi,((HS45.o.mono (fun _ _ e=>.inr (.inl e))).trans (SG.o.mono il)).trans (Y8.o.mono (fun _ _ e=>.inr (.inr e)))⟩;exact cZ.mono oi _ _ (cZ.step Y8.o oi _ _ HYY.o)
  case rest=>
   obtain⟨pl,y,je,k,vp,xp,cy,vJ,hk8,hp8,hv8,hy8,hx8,hb8,hrd8,hs8⟩:=hcut;obtain⟨w8,rfl⟩:=bn wc;obtain⟨k7,nm7,v7,Vz,p1,q1,r1,p2,q2,r2,p3,q3,r3,l7,c7,rfl⟩:=hy8.parts;obtain⟨av,cv,rfl,-⟩:=id hv8;have HR8:=ai vJ;have HK8:=ai hk8;have HP8:=ai hp8;have HV8:=ai hv8;have HY8:=ai hy8;have HX8:=ai hx8;have HB8:=ai hb8;have HRD8:=ai hrd8;have HS48:=ai hs8;have hz8:=hs8.size;clear vJ hk8 hp8 hv8 hy8 hx8 hb8 hrd8 p0;have p0:w8.cell? ⟨w.heap.size,0,none⟩=some (.pointer (some ⟨R.rb,0,none⟩)):=hs8.cell (dh.o w4 EI.o) (fun e=>by have e2:w.heap.size=R.rb∨w.heap.size=bt∨w.heap.size=bx:=e;omega);clear hs8;(have bY:Hid (∀(jj:Nat) v,[Value.int .i64 k7,aG nm7,bf v7,bC Vz,.slice p1 q1 r1,.slice p2 q2 r2,.slice p3 q3 r3,af l7,af c7][jj]?=some v→w8.cell? ⟨bx,0+jj,none⟩=some v):=by intro jj v hv;rw[Nat.zero_add];exact ah HX8.o jj v qE);obtain⟨w9,VA⟩:=bn ((w8.alloc (.cells #[af k7,aG nm7,bf v7,bC Vz,.slice p1 q1 r1,.slice p2 q2 r2,.slice p3 q3 r3,af l7,af c7] 56)).setCell ⟨bt,11,none⟩ (.slice (some ⟨w8.heap.size,0,none⟩) 1 1));(have yu:Step (·=bt) w8 w9:=by rw[VA];exact((Step.refl (·=bt) _).alloc _).setCell _ _ jd);(have HBT9:Hid (w9.heap[bt]?=some (.cells #[af k,aX,af 0,aX,aX,aT,aj,aj,af 0,af 0,.slice av pl.length cv,.slice (some ⟨w8.heap.size,0,none⟩) 1 1,aj,aj,aT,af t.line,af t.col] 89 (0,0))):=by rw[VA];exact aU (aN HB8.o) 11 _);(have HK9:Hid (w9.heap[w8.heap.size]?=some (.cells #[af k7,aG nm7,bf v7,bC Vz,.slice p1 q1 r1,.slice p2 q2 r2,.slice p3 q3 r3,af l7,af c7] 56 (0,0))):=by rw[VA];exact((Step.refl (·=bt) _).setCell _ _ jd).keep (aB _ _) (fun e=>by have:=aC HB8.o;omega));have HS89:=ai yu;have Oq:=ah (aN (o':=.cells #[af k7,aG nm7,bf v7,bC Vz,.slice p1 q1 r1,.slice p2 q2 r2,.slice p3 q3 r3,af l7,af c7] 56) HB8.o) 11 _ rfl;have Ot:=aH (aN (o':=.cells #[af k7,aG nm7,bf v7,bC Vz,.slice p1 q1 r1,.slice p2 q2 r2,.slice p3 q3 r3,af l7,af c7] 56) HB8.o) 11;have HR9:=ai (HRD8.o.step yu oi);have HW9:=ai VA;have p9:w9.cell? ⟨w.heap.size,0,none⟩=some (.pointer (some ⟨R.rb,0,none⟩)):=yu.cell p0 (fun e=>by have e2:w.heap.size=bt:=e;omega);have hz9:=yu.size;clear yu VA p0;(go_upto_region 7 with(refine ay rfl 56 (.tmp 4) rfl bx 0 rfl [.int .i64 k7,.string nm7,.int .u64 v7,.bool Vz,.slice p1 q1 r1,.slice p2 q2 r2,.slice p3 q3 r3,.int .i64 l7,.int .i64 c7] _ bY.o Tryz.underlying56 rfl Tryz.aK ?_));rw[←HW9.o];clear Oq Ot;go_wp2_with fail;refine(dO R HL.o w9.heap.size ⟨#[59]⟩ _ je d (HR9.o.quiet (bV.alloc _)) dc (ah (aB _ _) 0 _ rfl)).mono ?_;rintro e wz hp;have hp2:aJ R d iR (aI R.l je [59]) _ e wz:=hp;have HS08:Hid (Step (fun q=>q=R.rb∨q=bt) w w8):=((dF.o.mono ir).trans EI.o).then HS48.o oi;cases hn:aI R.l je [59]with
   |out=>exact(dH hn).elim
   |err c ln col=>rw[hn]at hp2;obtain⟨rfl,sz⟩:=hp2;refine⟨rfl,aY.aW (c:=c) (ln:=ln) (col:=col) (by rw[HR8.o,hn];rfl) rfl ?_⟩;exact(HS08.o.trans (HS89.o.mono ir)).trans ((((Step.refl (·=R.rb) _).alloc _).trans sz).mono il)
   |ok u jz=>have VD:=ai hn;rw[hn]at hp2;obtain⟨⟨v,rfl,rfl⟩,hrz,sz⟩:=hp2;have F6:=ai hrz;have HS9Z:Hid (Step (·=R.rb) w9 wz):=((Step.refl (·=R.rb) _).alloc _).trans sz;have Y9:Hid (Step (fun q=>q=R.rb∨q=bt) w8 wz):=(HS89.o.mono ir).trans (HS9Z.o.mono il);clear hn hrz sz p9 hp;go_wp2_with fail;refine bodyPost_end (results_none rfl _ _ _) rfl ?_;have hkk:=HK8.o;refine aY.dQ (a:=(pl,y)) (j:=jz) (by rw[HR8.o,VD.o];rfl) rfl ⟨xp,[.int .i64 k7,.string nm7,.int .u64 v7,.bool Vz,.slice p1 q1 r1,.slice p2 q2 r2,.slice p3 q3 r3,.int .i64 l7,.int .i64 c7],.slice av pl.length cv,.slice (some ⟨w8.heap.size,0,none⟩) 1 1,?_,bF.mono (fun q _ hq=>by have:=hq.1;omega) _ _ (bF.step Y9.o (fun q hq e=>by have:=hq.1;omega) _ _ HP8.o),(HV8.o.step Y9.o (fun q hq e=>by have:=hq.1;omega)).mono (fun q _ hq=>by have:=hq.1;omega),bF.single (cZ.mono (fun q _ hq=>by have:=hq.1;omega) _ _ (cZ.step Y9.o (fun q hq e=>by have:=hq.1;omega) _ _ HY8.o)),aS.new (HS9Z.o.keep HK9.o om) dc om⟩ F6.o (HS08.o.trans Y9.o);have ig:=HS9Z.o.keep HBT9.o om;rw[hkk]at ig;exact ig
def Am (f:Nat) (l:List Tok) (i d:Nat):dB (ByteArray×List ByteArray×List St):=(bI l i).bind fun n j=>(aI l j [124]).bind fun _ j=>(if bH l j [124]then .ok [] (j+1)else jM f l j []).bind fun ns j=>(bM f l j d).bind fun b j=>.ok (n,ns,b) j
def EJ (n0 bt:Nat) (t:Tok) (w':World) (a:ByteArray×List ByteArray×List St):Prop:=∃(xb:List Value) (vn vb:Value),w'.heap[bt]?=some (.cells #[af 17,aG a.1,bf 0,aT,aj,vn,vb,af t.line,af t.col] 56 (0,0))∧
 a.1.size≤9223372036854775807∧(∀s∈a.2.1,s.size≤9223372036854775807)∧aS w' (fun k=>n0≤k) vn a.2.1.length (a.2.1.map .string)∧bU w' (fun k=>n0≤k) a.2.2 xb∧aS w' (fun k=>n0≤k) vb a.2.2.length xb
def Ou (f:Nat):Prop:=∀(R:h_) (w:World) (i d bt:Nat) (t:Tok),pF R.l→bD R w i d→d≤40→R.rb<bt→w.heap[bt]?=some (.cells #[af 0,aX,bf 0,aT,aj,aj,aj,af t.line,af t.col] 56 (0,0))→Am f R.l i d≠.out→
 Calls Tryz.prog 160 #[.agg #[fM R.rb 0],.pointer (some ⟨bt,0,none⟩)] w (aY R d bt (EJ w.heap.size bt t) (Am f R.l i d) w)
structure y9 (R:h_) (w1:World) (bt:Nat) (nm:ByteArray) (t:Tok) (d:Nat) (X:World) (i':Nat) (ns:List ByteArray) (vn:Value):Prop where
 rd:bD R X i' d
 blk:X.heap[bt]?=some (.cells #[af 17,aG nm,bf 0,aT,aj,vn,aj,af t.line,af t.col] 56 (0,0))
 on:X.ownsRow w1.heap.size 9 1 vn ns.length (ns.map .string)
 sz:∀s∈ns,s.size≤9223372036854775807
 few:ns.length≤8
 st:Step (fun k=>k=R.rb∨k=bt) w1 X
theorem y9.read {R:h_} {w1:World} {bt:Nat} {nm:ByteArray} {t:Tok} {d:Nat} {X X':World} {i' i2:Nat} {ns:List ByteArray} {vn:Value} (h:y9 R w1 bt nm t d X i' ns vn) (hrb:R.rb<bt) (hw:R.rb<w1.heap.size) (hr:bD R X' i2 d) (hs:Step (·=R.rb) X X'):y9 R w1 bt nm t d X' i2 ns vn:=
 ⟨hr,hs.keep h.blk om,hs.owns h.on oi,h.sz,h.few,h.st.trans (hs.mono il)⟩
theorem y9.quiet {R:h_} {w1:World} {bt:Nat} {nm:ByteArray} {t:Tok} {d:Nat} {X X':World} {i':Nat} {ns:List ByteArray} {vn:Value} (h:y9 R w1 bt nm t d X i' ns vn) (hs:jP X X'):y9 R w1 bt nm t d X' i' ns vn:=
 ⟨h.rd.quiet hs,hs.keep h.blk (fun h=>h),hs.owns h.on (fun _ _ h=>h),h.sz,h.few,h.st.trans (hs.mono fe)⟩
theorem y9.push {R:h_} {w1:World} {bt:Nat} {nm:ByteArray} {t:Tok} {d:Nat} {X X2 X3:World} {i':Nat} {ns:List ByteArray} {vn v9:Value} {s:ByteArray} (h:y9 R w1 bt nm t d X i' ns vn) (hrb:R.rb<bt) (hbt:bt<w1.heap.size) (h2:jP X X2) (hown:X3.ownsRow w1.heap.size 9 1 v9 (ns.length+1) (ns.map .string++[.string s])) (hgrow:X2.grownBy X3 vn.ownBlock) (hs:s.size≤9223372036854775807) (hlt:ns.length<8):y9 R w1 bt nm t d (X3.setCell ⟨bt,5,none⟩ v9) i' (ns++[s]) v9:=by
 have h3:Step (fun q=>vn.ownBlock=some q) X2 X3:=ji hgrow;have h4:Step (·=bt) X3 (X3.setCell ⟨bt,5,none⟩ v9):=bV.setCell _ _ jd;have ho:∀q,vn.ownBlock=some q→w1.heap.size≤q:=fun q hq=>(h.on.lt q hq).1;have hlen:(ns++[s]).length=ns.length+1:=by simp
 have hb3:=h3.keep (h2.keep h.blk (fun h=>h)) (fun e=>by have:=ho bt e;omega);refine⟨((h.rd.quiet h2).step h3 (fun q hq e=>by have:=ho q e;omega)).step h4 oi,aU hb3 5 v9,?_,?_,by rw[hlen];omega,?_⟩
 ·rw[hlen,List.map_append];exact jQ hown h4 (fun q hq e=>by have:=(hown.lt q hq).1;omega)
 ·intro x hx;rcases List.mem_append.1 hx with hx|hx
  ·exact h.sz x hx
  ·rw[List.mem_singleton.1 hx];exact hs
 ·exact((h.st.trans (h2.mono fe)).then h3 (fun q hq e=>by have:=ho q e;omega)).trans (h4.mono ir)
structure ClJ (R:h_) (bt bp:Nat) (sv:Value) (X0:World) (L:Nat→Bool) (V:Nat→Value) (X:World):Prop where
 wx:X=X0
 no:L 7=false
 v0:L 0=true→V 0=.pointer (some ⟨bt,0,none⟩)
 v1:L 1=true→V 1=.pointer (some ⟨bt,0,none⟩)
 v2:L 2=true→V 2=.pointer (some ⟨bt,0,none⟩)
 v3:L 3=true→V 3=.pointer (some ⟨bt,5,none⟩)
 v4:L 4=true→V 4=sv
 v5:L 5=true→V 5=.pointer (some ⟨bp,0,none⟩)
 v6:L 6=true→V 6=.pointer (some ⟨R.rb,0,none⟩)
 v10:L 10=true→V 10=.pointer (some ⟨bt,0,none⟩)
 v11:L 11=true→V 11=.pointer (some ⟨bt,5,none⟩)
theorem SH (f:Nat) (ih:tC f):Ou f:=by
 intro R w i d bt t hl h hd hrb hbt hno;have HL:=ai hl;have IH:=ai ih;obtain⟨r,hr⟩:=bn (Am f R.l i d);have HRR:Hid (r=(bI R.l i).bind fun n j=>(aI R.l j [124]).bind fun _ j=>(if bH R.l j [124]then .ok [] (j+1)else jM f R.l j []).bind fun ns j=>(bM f R.l j d).bind fun b j=>.ok (n,ns,b) j):=by show _=_;rw[hr,Am]
 rw[←hr]at hno⊢;have f_:=ai hno;have NV:=aC hbt;obtain⟨w1,hw1⟩:=bn (w.alloc (.cells #[fM R.rb 0] 75));have dF:=nS hw1
 have kG:=nB hw1
 have Gw:=ai (dF.o.keep hbt (fun h=>h));have HW1:=ai hw1;have H1:=ai (h.quiet dF.o);have hn1:=aC kG.o;have dh:Hid (∀X:World,Step (fun q=>q=R.rb∨q=bt) w1 X→X.cell? ⟨w.heap.size,0,none⟩=some (.pointer (some ⟨R.rb,0,none⟩))):=fun X hX=>ah (hX.keep kG.o om) 0 _ rfl
 obtain⟨i0,hi0,hz0,hz1,hz2⟩:=info_parts Tryz.oC;have HI:=ai hi0;have HZ0:=ai hz0;have HZ1:=ai hz1;have HZ2:=ai hz2;have p0:=dh.o w1 bV;clear ih hl h hno hr hw1 hbt hi0 hz0 hz1 hz2;go_enter Tryz.func160,Tryz.ntmps160;go_upto_region 1 with fail
 rw[←HW1.o];go_wp2_with fail;cases hn:bI R.l i with
 |out=>exact(iV hn).elim
 |err c ln col=>have HN:=ai hn;clear hn;refine(name_any R HL.o _ i d H1.o).mono ?_;rintro e wq hp;rw[HN.o]at hp;obtain⟨rfl,sq⟩:=hp;refine⟨rfl,aY.aW (c:=c) (ln:=ln) (col:=col) (by rw[HRR.o,HN.o];rfl) rfl ?_⟩;exact((dF.o.mono fe).trans sq).mono il
 |ok nm j=>
  have HN:=ai hn;have Vu:=ai (fU HL.o H1.o.lt hn);clear hn;refine(name_any R HL.o _ i d H1.o).mono ?_;rintro e w2 hp;rw[HN.o]at hp;obtain⟨⟨v,rfl,rfl⟩,hr2,s2⟩:=hp;have HR2:=ai hr2;have HS2:=ai s2;have rQ:=ai (s2.keep Gw.o om);have rF:Hid (r=(aI R.l j [124]).bind fun _ j=>(if bH R.l j [124]then .ok [] (j+1)else jM f R.l j []).bind fun ns j=>(bM f R.l j d).bind fun b j=>.ok (nm,ns,b) j):=by show _=_;rw[HRR.o,HN.o];rfl
  have oq:=ah rQ.o 0 _ rfl;have ou:=aH rQ.o 0;have Gu:=ah rQ.o 1 _ rfl;have Gv:=aH rQ.o 1;obtain⟨w3,hw3⟩:=bn ((w2.setCell ⟨bt,0,none⟩ (.int .i64 17)).setCell ⟨bt,1,none⟩ (.string nm));have jA:Hid (Step (·=bt) w2 w3):=by rw[hw3];exact((Step.refl (·=bt) _).setCell _ _ jd).setCell _ _ jd
  have Lj:Hid (w3.heap[bt]?=some (.cells #[af 17,aG nm,bf 0,aT,aj,aj,aj,af t.line,af t.col] 56 (0,0))):=by rw[hw3];exact aU (aU rQ.o 0 (.int .i64 17)) 1 (.string nm)
  have qf:Hid (Step (fun q=>q=R.rb∨q=bt) w1 w3):=(HS2.o.mono il).trans (jA.o.mono ir);have gu:Hid (y9 R w1 bt nm t d w3 j [] (.slice none 0 0)):=⟨HR2.o.step jA.o oi,Lj.o,World.ownsRow_nil _ _ _ _,oQ,by simp,qf.o⟩;clear hr2 s2 p0;go_upto_region 2 with fail
  rw[←hw3];clear hw3 oq ou Gu Gv;have p0:=dh.o w3 qf.o;go_wp2_with fail;refine(dO R HL.o w3.heap.size ⟨#[124]⟩ _ j d (gu.o.rd.quiet (bV.alloc _)) dc (ah (aB _ _) 0 _ rfl)).mono ?_;rintro e w4 hp;have hp2:aJ R d iR (aI R.l j [124]) _ e w4:=hp;cases hn:aI R.l j [124]with
  |out=>exact(dH hn).elim
  |err c ln col=>rw[hn]at hp2;obtain⟨rfl,s4⟩:=hp2;refine⟨rfl,aY.aW (c:=c) (ln:=ln) (col:=col) (by rw[rF.o,hn];rfl) rfl ?_⟩;exact((dF.o.mono fe).trans gu.o.st).trans ((((Step.refl (·=R.rb) _).alloc _).trans s4).mono il)
  |ok u j4=>
   have N8:=ai hn;rw[hn]at hp2;obtain⟨⟨v,rfl,rfl⟩,hr4,s4⟩:=hp2;have fP:=ai (gu.o.read hrb om hr4 (((Step.refl (·=R.rb) _).alloc _).trans s4));(have mM:Hid (r=(if bH R.l j4 [124]then .ok [] (j4+1)else jM f R.l j4 []).bind fun ns j=>(bM f R.l j d).bind fun b j=>.ok (nm,ns,b) j):=by show _=_;rw[rF.o,N8.o];rfl);clear hn hr4 s4 p0 hp;have p0:=dh.o w4 fP.o.st;obtain⟨bq,hbq⟩:=bn (bH R.l j4 [124]);obtain⟨j5,hj5⟩:=bn (iw R.l j4 [124]);(have HI5:Hid (Calls Tryz.prog 77 #[.pointer (some ⟨R.rb,0,none⟩),.string ⟨#[124]⟩] w4 fun e w'=>e=.returned (.bool bq)∧bD R w' j5 d∧Step (·=R.rb) w4 w'):=by rw[hbq,hj5];exact uj R HL.o ⟨#[124]⟩ w4 j4 d fP.o.rd dc);have Y_:=ai hbq;have HJ5:=ai hj5;clear hbq hj5;go_wp2_with fail;refine HI5.o.mono ?_;rintro e w5 ⟨rfl,LC,h5⟩;have nJ:=ai (fP.o.read hrb om LC h5);clear LC h5 p0;have p0:=dh.o w5 nJ.o.st;(go_upto_if 20 with fail);go_cut [] (fun wx=>∃(jn:Nat) (ns:List ByteArray) (vn:Value),r=((bM f R.l jn d).bind fun b j=>.ok (nm,ns,b) j)∧y9 R w1 bt nm t d wx jn ns vn);case first=>
    cases bq with
    |true=>(have hj:j5=j4+1:=by rw[HJ5.o,iw,←Y_.o,if_pos rfl]);(have Ho:Hid (r=((bM f R.l j5 d).bind fun b j=>.ok (nm,[],b) j)):=by show _=_;rw[mM.o,←Y_.o,if_pos rfl,hj];rfl);clear hj;go_wp2_with fail;go_meet;case rel=>exact⟨j5,[],_,Ho.o,nJ.o⟩
    |false=>
     (have hj:j5=j4:=by rw[HJ5.o,iw,←Y_.o,if_neg dc]);(have Ho:Hid (r=(jM f R.l j5 []).bind fun ns j=>(bM f R.l j d).bind fun b j=>.ok (nm,ns,b) j):=by show _=_;rw[mM.o,←Y_.o,if_neg dc,hj]);clear hj p0;go_wp2_with fail;go_loopg [] f (fun gg wr=>gg≤f∧∃(i':Nat) (ns:List ByteArray) (vn:Value),r=((jM gg R.l i' ns).bind fun ns j=>(bM f R.l j d).bind fun b j=>.ok (nm,ns,b) j)∧y9 R w1 bt nm t d wr i' ns vn);case atStart=>exact⟨Nat.le_refl _,j5,[],_,Ho.o,nJ.o⟩
     case round=>
      obtain⟨hgf,i',ns,vn,hrq,hst⟩:=hrel;obtain⟨gn,rfl⟩:∃gn,gk=gn+1:=by
       cases gk with
       |zero=>exact absurd hrq (by rw[jM];exact f_.o)
       |succ gn=>exact⟨gn,rfl⟩
      (have vF:Hid (r=((eH ns.length 8 R.l i').bind fun _ i=>(bI R.l i).bind fun n j=>if bH R.l j [44]then jM gn R.l (j+1) (ns++[n])else(aI R.l j [124]).bind fun _ j=>.ok (ns++[n]) j).bind fun ns j=>(bM f R.l j d).bind fun b j=>.ok (nm,ns,b) j):=by show _=_;rw[hrq,jM]);obtain⟨oa,oc,rfl⟩:=b_ hst.on;have HST:=ai hst;have hfew:=hst.few;have p0:=dh.o wr hst.st;have yY:=ah hst.blk 5 _ rfl;clear hrq hst;(go_upto_region 4 with fail);go_still_tail 6,kr;change wpList _ _ _ _ _ wr.drew;obtain⟨wd,hwd⟩:=bn wr.drew;(have vN:Hid (y9 R w1 bt nm t d wd i' ns (.slice oa ns.length oc)):=by rw[hwd];exact HST.o.quiet (bV.drew));rw[←hwd];clear hwd p0 yY;have p0:=dh.o wd vN.o.st;have yY:=ah vN.o.blk 5 _ rfl;go_wp2_with fail;refine(nH R wd ns.length 8 i' d vN.o.rd).mono ?_;rintro e w6 hp;cases hn:eH ns.length 8 R.l i' with
      |out=>exact(lV hn).elim
      |err c ln col=>rw[hn]at hp;obtain⟨rfl,s6⟩:=hp;refine⟨rfl,aY.aW (c:=c) (ln:=ln) (col:=col) (by rw[vF.o,hn];rfl) rfl ?_⟩;exact((dF.o.mono fe).trans vN.o.st).trans (s6.mono il)
      |ok u j6=>
       have hji:j6=i'∧ns.length<8:=by
        unfold eH at hn;split at hn
        ·cases hn
        ·cases hn;exact⟨rfl,by omega⟩
       obtain⟨rfl,Ja⟩:=hji;have qA:=ai hn;rw[hn]at hp;obtain⟨⟨v,rfl,rfl⟩,qH,s6⟩:=hp;have fH:=ai (vN.o.read hrb om qH s6);(have F7:Hid (r=((bI R.l j6).bind fun n j=>if bH R.l j [44]then jM gn R.l (j+1) (ns++[n])else(aI R.l j [124]).bind fun _ j=>.ok (ns++[n]) j).bind fun ns j=>(bM f R.l j d).bind fun b j=>.ok (nm,ns,b) j):=by show _=_;rw[vF.o,qA.o];rfl);clear hn qH s6 p0 yY;have p0:=dh.o w6 fH.o.st;have yY:=ah fH.o.blk 5 _ rfl;(go_upto_region 5 with fail);cases hn:bI R.l j6 with
       |out=>exact(iV hn).elim
       |err c ln col=>
        have HN:=ai hn;(have Za:Hid (∀X,bD R X j6 d→Calls Tryz.prog 80 #[.pointer (some ⟨R.rb,0,none⟩)] X fun e w'=>e=.panicked [{v:=.iface 184 (.agg #[af c,af ln,af col]),recovered:=false}]∧Step (·=R.rb) X w'):=by intro X hX;have h9:=name_any R HL.o X j6 d hX;rw[HN.o]at h9;exact h9);(have EF:Hid (∀wq:World,Step (·=R.rb) w6.drew wq→aY R d bt (EJ w.heap.size bt t) r w (.panicked [{v:=.iface 184 (.agg #[af c,af ln,af col]),recovered:=false}]) wq):=by intro wq hs;refine aY.aW (c:=c) (ln:=ln) (col:=col) (by rw[F7.o,HN.o];rfl) rfl ?_;exact((dF.o.mono fe).trans fH.o.st).trans ((((Step.refl (·=R.rb) _).drew).trans hs).mono il));clear hn;refine bG kr (ClJ R bt w.heap.size (.slice oa ns.length oc) w6.drew) 13 rfl kr kr kr kr ?h0 ?hs ?hdone;case h0=>exact⟨rfl,rfl,lW,lW,lW,lW,lW,lW,lW,lW,lW⟩
        case hs=>
         refine⟨?_,?_,?_,?_,?_,?_,?_,?_,?_,?_,?_,?_,?_,trivial⟩
         all_goals intro L V X a ev gJ hdf hL ak hJ
         ·have hwx:=hJ.wx;subst hwx;have o1:=gJ 1 rfl;change a.tmps[1]?.getD undef=.pointer (some ⟨bt,0,none⟩)at o1;go_simp;exact⟨_,rfl,{hJ with no:=by rw[aA _ dc];exact hJ.no,v0:=fun _=>rfl}⟩
         ·have hwx:=hJ.wx;subst hwx;have o1:=gJ 1 rfl;change a.tmps[1]?.getD undef=.pointer (some ⟨bt,0,none⟩)at o1;go_simp;exact⟨_,rfl,{hJ with no:=by rw[aA _ dc];exact hJ.no,v1:=fun _=>rfl}⟩
         ·have hwx:=hJ.wx;subst hwx;have e29:=(ev 1 29 rfl (ak 1 rfl)).trans (hJ.v1 (ak 1 rfl));go_simp;exact⟨_,rfl,{hJ with no:=by rw[aA _ dc];exact hJ.no,v2:=fun _=>rfl}⟩
         ·have hwx:=hJ.wx;subst hwx;have e30:=(ev 2 30 rfl (ak 2 rfl)).trans (hJ.v2 (ak 2 rfl));go_simp;exact⟨_,rfl,{hJ with no:=by rw[aA _ dc];exact hJ.no,v3:=fun _=>rfl}⟩
         ·have hwx:=hJ.wx;subst hwx;have e31:=(ev 3 31 rfl (ak 3 rfl)).trans (hJ.v3 (ak 3 rfl));have q5:=ah (((Step.refl (fun _=>False) w6).drew).keep fH.o.blk (fun h=>h)) 5 _ rfl;go_simp;exact⟨_,rfl,{hJ with no:=by rw[aA _ dc];exact hJ.no,v4:=fun _=>rfl}⟩
         ·have hwx:=hJ.wx;subst hwx;have o2:=gJ 2 rfl;change a.tmps[2]?.getD undef=.pointer (some ⟨w.heap.size,0,none⟩)at o2;go_simp;exact⟨_,rfl,{hJ with no:=by rw[aA _ dc];exact hJ.no,v5:=fun _=>rfl}⟩
         ·have hwx:=hJ.wx;subst hwx;have e33:=(ev 5 33 rfl (ak 5 rfl)).trans (hJ.v5 (ak 5 rfl));have q0:=dh.o w6.drew (fH.o.st.trans (bV.drew));go_simp;exact⟨_,rfl,{hJ with no:=by rw[aA _ dc];exact hJ.no,v6:=fun _=>rfl}⟩
         ·have hwx:=hJ.wx;subst hwx;have e34:=(ev 6 34 rfl (ak 6 rfl)).trans (hJ.v6 (ak 6 rfl));go_simp;refine(Za.o _ (fH.o.rd.quiet (bV.drew))).mono ?_;rintro e wq ⟨rfl,hs⟩;exact⟨hdf,EF.o wq hs⟩
         ·have hwx:=hJ.wx;subst hwx;exact absurd hJ.no (by rw[ak 7 rfl];decide)
         ·have hwx:=hJ.wx;subst hwx;exact absurd hJ.no (by rw[ak 7 rfl];decide)
         ·have hwx:=hJ.wx;subst hwx;have e28:=(ev 0 28 rfl (ak 0 rfl)).trans (hJ.v0 (ak 0 rfl));go_simp;exact⟨_,rfl,{hJ with no:=by rw[aA _ dc];exact hJ.no,v10:=fun _=>rfl}⟩
         ·have hwx:=hJ.wx;subst hwx;have e38:=(ev 10 38 rfl (ak 10 rfl)).trans (hJ.v10 (ak 10 rfl));go_simp;exact⟨_,rfl,{hJ with no:=by rw[aA _ dc];exact hJ.no,v11:=fun _=>rfl}⟩
         ·have hwx:=hJ.wx;subst hwx;exact absurd hJ.no (by rw[ak 7 rfl];decide)
        case hdone=>intro L V X hall hJ;exact absurd hJ.no (by rw[hall 7 dc];decide)
       |ok s j7=>
        have HN:=ai hn;have HSS:=ai (fU HL.o fH.o.rd.lt hn);(have Za:Hid (∀X,bD R X j6 d→Calls Tryz.prog 80 #[.pointer (some ⟨R.rb,0,none⟩)] X fun e w'=>e=.returned (.string s)∧bD R w' j7 d∧Step (·=R.rb) X w'):=by intro X hX;refine(name_any R HL.o X j6 d hX).mono ?_;intro e w' hp;rw[HN.o]at hp;obtain⟨⟨v,he,hv⟩,h1,h2⟩:=hp;exact⟨by rw[he,hv],h1,h2⟩);(have Zb:Hid (r=(if bH R.l j7 [44]then jM gn R.l (j7+1) (ns++[s])else(aI R.l j7 [124]).bind fun _ j=>.ok (ns++[s]) j).bind fun ns j=>(bM f R.l j d).bind fun b j=>.ok (nm,ns,b) j):=by show _=_;rw[F7.o,HN.o];rfl);clear hn;go_cut [] (fun wx=>∃v9:Value,y9 R w1 bt nm t d wx j7 (ns++[s]) v9);case first=>
         first
         |(go_region_law (first
             |(refine lM _ rfl (w8.heap.size+1) (.tmp 32) (.tmp 36) 40 rfl w1.heap.size 9 i0 (.string ⟨#[]⟩) 1 16 Tryz.underlying40 HI.o HZ0.o HZ1.o HZ2.o rfl dc _ _ _ (by simp[Act.eval]) Vg.o _ 1 _ (by simp[Act.eval]) Ls.o rfl Lu.o (by unfold maxLen;omega) om Vh.o ?_;intro v9 w9 iY iq p_;obtain⟨a9,c9,rfl⟩:=b_ iY;have lI:Hid (y9 R w1 bt nm t d (w9.setCell ⟨bt,5,none⟩ (.slice a9 (ns.length+1) c9)) j7 (ns++[s]) (.slice a9 (ns.length+1) c9)):=ku.o.push hrb om (bV.alloc _) iY iq HSS.o Ja;have hbb:=(ji iq).keep (aN (o':=.cells #[aG s] 9) ku.o.blk) (fun e=>by have:=(ku.o.on.lt _ e).1;omega);have bt5':=ah hbb 5 _ rfl;have bz5':=aH hbb 5;clear hbb iY iq p_)
             |(go_simp;go_at_call 80;refine(Za.o _ (fH.o.rd.quiet (bV.drew))).mono ?_;rintro e8 w8 ⟨rfl,vJ,hs8⟩;have ku:=ai ((fH.o.quiet (bV.drew)).read hrb om vJ hs8);have Vg:Hid ((w8.alloc (.cells #[aG s] 9)).ownsRow w1.heap.size 9 1 (.slice oa ns.length oc) ns.length (ns.map .string)):=ku.o.on.alloc _;have Ls:Hid (Row (w8.alloc (.cells #[aG s] 9)) (w8.heap.size+1) (.slice (some ⟨w8.heap.size,0,none⟩) 1 1) 1 [.string s]):=Row.new (aB _ _) dc;have Lu:Hid (∀u∈[Value.string s],u.oneCell'=true):=by
                show∀u∈_,_
                intro u hu
                simp at hu
                subst hu;rfl
               have Vh:Hid (w1.heap.size≤(w8.alloc (.cells #[aG s] 9)).heap.size):=by
                show _≤_
                have:=ku.o.st.size
                simp;omega
               have bt58:=ah ku.o.blk 5 _ rfl
               have bt59:=ah (aN (o':=.cells #[aG s] 9) ku.o.blk) 5 _ rfl
               clear vJ hs8)))
         |fail
         all_goals (
          clear p0 yY
          go_wp2_with fail
          go_meet
          case rel=>exact⟨_,lI.o⟩)
        case rest=>
         obtain⟨v9,hls⟩:=hcut;obtain⟨w9,rfl⟩:=bn wc;have iF:=ai hls;clear hls p0 yY;have p0:=dh.o w9 iF.o.st;go_wp2_with fail;cases hc:bH R.l j7 [44]with
         |true=>
          have HC:=ai hc;clear hc;refine(dw R HL.o ⟨#[44]⟩ _ j7 d iF.o.rd dc HC.o).mono ?_;rintro e wa ⟨rfl,hra,sa⟩;have jD:=ai (iF.o.read hrb om hra sa);(have lJ:=ai (bpQ Zb.o HC.o));clear hra sa p0;go_wp2_with fail;go_roundg gn;case rel=>exact⟨by omega,j7+1,ns++[s],v9,lJ.o,jD.o⟩
          case measure=>omega
         |false=>
          have HC:=ai hc;clear hc;refine(dX R HL.o ⟨#[44]⟩ _ j7 d iF.o.rd dc HC.o).mono ?_;rintro e wa ⟨rfl,hra,sa⟩;have jD:=ai (iF.o.read hrb om hra sa);(have lJ:=ai (bmQ Zb.o HC.o));clear hra sa p0;have p0:=dh.o wa jD.o.st;go_wp2_with fail;refine(dO R HL.o wa.heap.size ⟨#[124]⟩ _ j7 d (jD.o.rd.quiet (bV.alloc _)) dc (ah (aB _ _) 0 _ rfl)).mono ?_;rintro e wb hp;have hp2:aJ R d iR (aI R.l j7 [124]) _ e wb:=hp;cases hn:aI R.l j7 [124]with
          |out=>exact(dH hn).elim
          |err c ln col=>rw[hn]at hp2;obtain⟨rfl,sb⟩:=hp2;refine⟨rfl,aY.aW (c:=c) (ln:=ln) (col:=col) (by rw[lJ.o,hn];rfl) rfl ?_⟩;exact((dF.o.mono fe).trans jD.o.st).trans ((((Step.refl (·=R.rb) _).alloc _).trans sb).mono il)
          |ok u2 j9=>have VE:=ai hn;rw[hn]at hp2;obtain⟨⟨v,rfl,rfl⟩,vP,sb⟩:=hp2;have uy:=ai (jD.o.read hrb om vP (((Step.refl (·=R.rb) _).alloc _).trans sb));(have Oj:Hid (r=((bM f R.l j9 d).bind fun b j=>.ok (nm,ns++[s],b) j)):=by show _=_;rw[lJ.o,VE.o];rfl);clear hn vP sb p0 hp;go_wp2_with fail;go_meet;case rel=>exact⟨j9,ns++[s],v9,Oj.o,uy.o⟩
   case rest=>
    obtain⟨jn,ns,vn,hrn,hls⟩:=hcut;obtain⟨w9,rfl⟩:=bn wc;have iF:=ai hls;have zH:=ai hrn;clear hls hrn p0;have p0:=dh.o w9 iF.o.st;go_wp2_with fail;refine(IH.o R w9 jn d HL.o iF.o.rd hd (fun e=>f_.o (by rw[zH.o,e];rfl))).mono ?_;rintro e wa hp;have hp2:aJ R d (Sm w9.heap.size) (bM f R.l jn d) _ e wa:=hp;cases hn:bM f R.l jn d with
    |out=>exact absurd (by rw[zH.o,hn];rfl) f_.o
    |err c ln col=>rw[hn]at hp2;obtain⟨rfl,sa⟩:=hp2;refine⟨rfl,aY.aW (c:=c) (ln:=ln) (col:=col) (by rw[zH.o,hn];rfl) rfl ?_⟩;exact((dF.o.mono fe).trans iF.o.st).trans (sa.mono il)
    |ok bs ja=>have VE:=ai hn;rw[hn]at hp2;obtain⟨⟨vb,rfl,xb,hrow,hels⟩,hra,sa⟩:=hp2;(obtain⟨ab,cb,rfl,hvb⟩:∃(ab:Option Addr) (cb:Nat),vb=.slice ab bs.length cb∧aS wa (fun k=>w9.heap.size≤k) (.slice ab bs.length cb) bs.length xb:=by obtain⟨ab,cb,hv,-⟩:=id hrow;exact⟨ab,cb,hv,by rw[←hv];exact hrow⟩);have HROW:=ai hvb;have HELS:=ai hels;have HRA2:=ai hra;have jD:=ai (iF.o.read hrb om hra sa);have Uz:=ai sa;clear hn hrow hels hra sa hvb p0 hp;have bt6:=ah jD.o.blk 6 _ rfl;have bz6:=aH jD.o.blk 6;have jv:Hid (Step (·=bt) wa (wa.setCell ⟨bt,6,none⟩ (.slice ab bs.length cb))):=(Step.refl (·=bt) _).setCell _ _ jd;have HBTE:Hid ((wa.setCell ⟨bt,6,none⟩ (.slice ab bs.length cb)).heap[bt]?=some (.cells #[af 17,aG nm,bf 0,aT,aj,vn,.slice ab bs.length cb,af t.line,af t.col] 56 (0,0))):=aU jD.o.blk 6 (.slice ab bs.length cb);have h9:=iF.o.st.size;have hsa:=Uz.o.size;go_wp2_with fail;refine bodyPost_end (results_none rfl _ _ _) rfl ?_;refine aY.dQ (a:=(nm,ns,bs)) (j:=ja) (by rw[zH.o,VE.o];rfl) rfl ⟨xb,vn,_,HBTE.o,Vu.o,iF.o.sz,aS.jb (jQ jD.o.on jv.o (fun q hq e=>by have:=(jD.o.on.lt q hq).1;omega)) (fun q hq=>by have:=(jD.o.on.lt q hq).1;have:=dF.o.size;omega),bU.mono (fun q _ hq=>by have:=dF.o.size;omega) _ _ (bU.step jv.o oi _ _ HELS.o),(HROW.o.step jv.o oi).mono (fun q _ hq=>by have:=dF.o.size;omega)⟩ (jD.o.rd.step jv.o oi) ?_;exact((dF.o.mono fe).trans jD.o.st).trans (jv.o.mono ir)
theorem ExEl (a:Ex):Af (fun w P cs=>cZ w P a cs):=⟨fun _ _ _ _ cs hs hP h=>cZ.step hs hP a cs h,fun _ _ _ cs hp h=>cZ.mono hp a cs h⟩
def Ap (f:Nat) (l:List Tok) (i d:Nat):dB (ByteArray×List ByteArray×List Ex):=(bI l i).bind fun n j=>(aI l j [123]).bind fun _ j=>if bH l j [125]then .ok (n,[],[]) (j+1)else(jF f l j d [] []).bind fun p j=>.ok (n,p.1,p.2) j
def Aq (n0 bt:Nat) (t:Tok) (w':World) (a:ByteArray×List ByteArray×List Ex):Prop:=∃(xa:List Value) (vn va:Value),w'.heap[bt]?=some (.cells #[af 11,aG a.1,bf 0,aT,va,vn,aj,af t.line,af t.col] 56 (0,0))∧
 a.1.size≤9223372036854775807∧(∀s∈a.2.1,s.size≤9223372036854775807)∧aS w' (fun k=>n0≤k) vn a.2.1.length (a.2.1.map .string)∧bF w' (fun k=>n0≤k) a.2.2 xa∧aS w' (fun k=>n0≤k) va a.2.2.length xa
def Ov (f:Nat):Prop:=∀(R:h_) (w:World) (i d bt:Nat) (t:Tok),pF R.l→bD R w i d→d≤40→R.rb<bt→w.heap[bt]?=some (.cells #[af 0,aX,bf 0,aT,aj,aj,aj,af t.line,af t.col] 56 (0,0))→Ap f R.l i d≠.out→
 Calls Tryz.prog 159 #[.agg #[fM R.rb 0],.pointer (some ⟨bt,0,none⟩)] w (aY R d bt (Aq w.heap.size bt t) (Ap f R.l i d) w)
structure vS (R:h_) (w1:World) (bt:Nat) (nm:ByteArray) (t:Tok) (d:Nat) (X:World) (i':Nat) (ns:List ByteArray) (al:List Ex) (vn va:Value) (xs:List Value):Prop where
 rd:bD R X i' d
 blk:X.heap[bt]?=some (.cells #[af 11,aG nm,bf 0,aT,va,vn,aj,af t.line,af t.col] 56 (0,0))
 on:X.ownsRow w1.heap.size 9 1 vn ns.length (ns.map .string)
 oa:X.ownsRow w1.heap.size 56 9 va al.length xs
 el:bF X (fun q=>w1.heap.size≤q∧va.ownBlock≠some q∧vn.ownBlock≠some q) al xs
 ne:∀q,vn.ownBlock=some q→va.ownBlock≠some q
 sz:∀s∈ns,s.size≤9223372036854775807
 few:ns.length≤12∧al.length≤ns.length
 st:Step (fun k=>k=R.rb∨k=bt) w1 X
theorem vS.quiet {R:h_} {w1:World} {bt:Nat} {nm:ByteArray} {t:Tok} {d:Nat} {X X':World} {i':Nat} {ns:List ByteArray} {al:List Ex} {vn va:Value} {xs:List Value} (h:vS R w1 bt nm t d X i' ns al vn va xs) (hs:jP X X'):vS R w1 bt nm t d X' i' ns al vn va xs:=
 ⟨h.rd.quiet hs,hs.keep h.blk (fun h=>h),hs.owns h.on (fun _ _ h=>h),hs.owns h.oa (fun _ _ h=>h),bF.step hs (fun _ _ h=>h) _ _ h.el,h.ne,h.sz,h.few,h.st.trans (hs.mono fe)⟩
theorem vS.read {R:h_} {w1:World} {bt:Nat} {nm:ByteArray} {t:Tok} {d:Nat} {X X':World} {i' i2:Nat} {ns:List ByteArray} {al:List Ex} {vn va:Value} {xs:List Value} (h:vS R w1 bt nm t d X i' ns al vn va xs) (hrb:R.rb<bt) (hw:R.rb<w1.heap.size) (hr:bD R X' i2 d) (hs:Step (·=R.rb) X X'):vS R w1 bt nm t d X' i2 ns al vn va xs:=
 ⟨hr,hs.keep h.blk om,hs.owns h.on oi,hs.owns h.oa oi,bF.step hs (fun _ hk h=>by have:=hk.1;omega) _ _ h.el,h.ne,h.sz,h.few,h.st.trans (hs.mono il)⟩
theorem vS.pushN {R:h_} {w1:World} {bt:Nat} {nm:ByteArray} {t:Tok} {d:Nat} {X X2 X3:World} {i':Nat} {ns:List ByteArray} {al:List Ex} {vn va v9:Value} {xs:List Value} {s:ByteArray} (h:vS R w1 bt nm t d X i' ns al vn va xs) (hrb:R.rb<bt) (hbt:bt<w1.heap.size) (h2:jP X X2) (hown:X3.ownsRow w1.heap.size 9 1 v9 (ns.length+1) (ns.map .string++[.string s])) (hgrow:X2.grownBy X3 vn.ownBlock) (hat:v9.ownBlock=vn.ownBlock∨v9.ownBlock=some X2.heap.size) (hs:s.size≤9223372036854775807) (hlt:ns.length<12):vS R w1 bt nm t d (X3.setCell ⟨bt,5,none⟩ v9) i' (ns++[s]) al v9 va xs:=by
 have h3:Step (fun q=>vn.ownBlock=some q) X2 X3:=ji hgrow;have h4:Step (·=bt) X3 (X3.setCell ⟨bt,5,none⟩ v9):=bV.setCell _ _ jd;have ho:∀q,vn.ownBlock=some q→w1.heap.size≤q∧q<X.heap.size:=fun q hq=>h.on.lt q hq;have hlen:(ns++[s]).length=ns.length+1:=by simp
 have hb3:=h3.keep (h2.keep h.blk (fun h=>h)) (fun e=>by have:=(ho bt e).1;omega);refine⟨((h.rd.quiet h2).step h3 (fun q hq e=>by have:=(ho q e).1;omega)).step h4 oi,aU hb3 5 v9,?_,?_,?_,?_,?_,⟨by rw[hlen];omega,by rw[hlen];have:=h.few.2;omega⟩,?_⟩
 ·rw[hlen,List.map_append];exact jQ hown h4 (fun q hq e=>by have:=(hown.lt q hq).1;omega)
 ·refine jQ (jQ (h2.owns h.oa (fun _ _ h=>h)) h3 (fun q hq e=>h.ne q e hq)) h4 (fun q hq e=>by have:=(h.oa.lt q hq).1;omega)
 ·have h5:=bF.mono (P':=fun q=>(w1.heap.size≤q∧va.ownBlock≠some q∧vn.ownBlock≠some q)∧q<X.heap.size) (fun q h7 h8=>⟨h8,h7⟩) _ _ h.el;have h6:=bF.step h4 (fun q hq e=>by have:=hq.1.1;omega) _ _ (bF.step h3 (fun q hq e=>hq.1.2.2 e) _ _ (bF.step h2 (fun _ _ h=>h) _ _ h5));refine bF.mono (fun q _ hq=>⟨hq.1.1,hq.1.2.1,fun e=> ?_⟩) _ _ h6;rcases hat with h7|h7
  ·exact hq.1.2.2 (by rw[←h7];exact e)
  ·rw[h7]at e;have e2:X2.heap.size=q:=Option.some.inj e;have:=h2.size;have:=hq.2;omega
 ·intro q hq e;rcases hat with h7|h7
  ·exact h.ne q (by rw[←h7];exact hq) e
  ·rw[h7]at hq;have e2:X2.heap.size=q:=Option.some.inj hq;have:=(h.oa.lt q e).2;have:=h2.size;omega
 ·intro x hx;rcases List.mem_append.1 hx with hx|hx
  ·exact h.sz x hx
  ·rw[List.mem_singleton.1 hx];exact hs
 ·refine((h.st.trans (h2.mono fe)).then h3 (fun q hq e=>by have:=(ho q e).1;omega)).trans (h4.mono ir)
theorem vS.Qq {R:h_} {w1:World} {bt:Nat} {nm:ByteArray} {t:Tok} {d:Nat} {w4 X:World} {j8 j9:Nat} {ns:List ByteArray} {al:List Ex} {Gx sU:Option Addr} {Gy sV:Nat} {xs:List Value} {ex:Ex} {g9 c9:Nat} {Ag:List Value} (h:vS R w1 bt nm t d w4 j8 ns al (.slice Gx ns.length Gy) (.slice sU al.length sV) xs) (hrb:R.rb<bt) (hbt:bt<w1.heap.size) (hlt:al.length<ns.length) (h1:bD R X j9 d) (h2:X.heap[bt]?=some (.cells #[af 11,aG nm,bf 0,aT,.slice (some ⟨g9,0,none⟩) (al.length+1) c9,.slice Gx ns.length Gy,aj,af t.line,af t.col] 56 (0,0))) (h3:X.ownsRow w1.heap.size 56 9 (.slice (some ⟨g9,0,none⟩) (al.length+1) c9) (al.length+1) (xs++Ag)) (h4:cZ X (fun q=>w4.heap.size≤q∧q≠g9) ex Ag) (h5:(Value.slice sU al.length sV).ownBlock=some g9∨w4.heap.size≤g9) (h6:Step (fun q=>q=R.rb∨q=bt∨(Value.slice sU al.length sV).ownBlock=some q) w4 X):vS R w1 bt nm t d X j9 ns (al++[ex]) (.slice Gx ns.length Gy) (.slice (some ⟨g9,0,none⟩) (al.length+1) c9) (xs++Ag):=by
 have hol:=h.on;have hne:=h.ne;have hg9:∀q,(Value.slice Gx ns.length Gy).ownBlock=some q→q≠g9:=by
  intro q hq e;subst e;rcases h5 with h5|h5
  ·exact hne q hq h5
  ·have:=(hol.lt q hq).2;omega
 have hlen:(al++[ex]).length=al.length+1:=by simp
 refine⟨h1,h2,jQ hol h6 (fun q hq e=> ?_),by rw[hlen];exact h3,bF.snoc ?_ ?_,fun q hq e=> ?_,h.sz,⟨h.few.1,by rw[hlen];omega⟩,h.st.then h6 (fun q hq e=> ?_)⟩
 ·have h7:=(hol.lt q hq).1;rcases e with e|e|e
  ·omega
  ·omega
  ·exact hne q hq e
 ·refine bF.mono ?_ _ _ (bF.step h6 ?_ _ _ (bF.mono (P':=fun q=>(w1.heap.size≤q∧(Value.slice sU al.length sV).ownBlock≠some q∧(Value.slice Gx ns.length Gy).ownBlock≠some q)∧q<w4.heap.size) (fun q h7 h8=>⟨h8,h7⟩) _ _ h.el))
  ·intro q _ hq;refine⟨hq.1.1,fun e=> ?_,hq.1.2.2⟩;have e2:g9=q:=Option.some.inj e;rcases h5 with h5|h5
   ·exact hq.1.2.1 (by rw[←e2];exact h5)
   ·have:=hq.2;omega
  ·intro q hq e;rcases e with e|e|e
   ·have:=hq.1.1;omega
   ·have:=hq.1.1;omega
   ·exact hq.1.2.1 e
 ·refine cZ.mono (fun q _ hq=>⟨Nat.le_trans h.st.size hq.1,fun e=>hq.2 (Option.some.inj e).symm,fun e=> ?_⟩) _ _ h4;have:=(hol.lt q e).2;have:=hq.1;omega
 ·exact hg9 q hq (Option.some.inj e).symm
 ·rcases e with e|e|e
  ·exact .inl e
  ·exact .inr e
  ·have:=(h.oa.lt _ e).1;omega
theorem SI (f:Nat) (ih:∀f',f'<f→oz f'):Ov f:=by
 intro R w i d bt t hl h hd hrb hbt hno;have HL:=ai hl;have IH:=ai ih;obtain⟨r,hr⟩:=bn (Ap f R.l i d);have HRR:Hid (r=(bI R.l i).bind fun n j=>(aI R.l j [123]).bind fun _ j=>if bH R.l j [125]then .ok (n,[],[]) (j+1)else(jF f R.l j d [] []).bind fun p j=>.ok (n,p.1,p.2) j):=by show _=_;rw[hr,Ap]
 rw[←hr]at hno⊢;have f_:=ai hno;have NV:=aC hbt;obtain⟨w1,hw1⟩:=bn (w.alloc (.cells #[fM R.rb 0] 75));have dF:=nS hw1
 have kG:=nB hw1
 have Gw:=ai (dF.o.keep hbt (fun h=>h));have HW1:=ai hw1;have H1:=ai (h.quiet dF.o);have hn1:=aC kG.o;have dh:Hid (∀X:World,Step (fun q=>q=R.rb∨q=bt) w1 X→X.cell? ⟨w.heap.size,0,none⟩=some (.pointer (some ⟨R.rb,0,none⟩))):=fun X hX=>ah (hX.keep kG.o om) 0 _ rfl
 obtain⟨i0,hi0,hz0,hz1,hz2⟩:=info_parts Tryz.oC;have HI:=ai hi0;have HZ0:=ai hz0;have HZ1:=ai hz1;have HZ2:=ai hz2;have p0:=dh.o w1 bV;obtain⟨j0,hj0,hy0,hy1,hy2⟩:=info_parts Tryz.EH;have HJ:=ai hj0;have HY0:=ai hy0;have HY1:=ai hy1;have HY2:=ai hy2;clear ih hl h hno hr hw1 hbt hi0 hz0 hz1 hz2 hj0 hy0 hy1 hy2;go_enter Tryz.func159,Tryz.ntmps159;go_upto_region 1 with fail
 rw[←HW1.o];go_wp2_with fail;cases hn:bI R.l i with
 |out=>exact(iV hn).elim
 |err c ln col=>have HN:=ai hn;clear hn;refine(name_any R HL.o _ i d H1.o).mono ?_;rintro e wq hp;rw[HN.o]at hp;obtain⟨rfl,sq⟩:=hp;refine⟨rfl,aY.aW (c:=c) (ln:=ln) (col:=col) (by rw[HRR.o,HN.o];rfl) rfl ?_⟩;exact((dF.o.mono fe).trans sq).mono il
 |ok nm j=>
  have HN:=ai hn;have Vu:=ai (fU HL.o H1.o.lt hn);clear hn;refine(name_any R HL.o _ i d H1.o).mono ?_;rintro e w2 hp;rw[HN.o]at hp;obtain⟨⟨v,rfl,rfl⟩,hr2,s2⟩:=hp;have HR2:=ai hr2;have HS2:=ai s2;have rQ:=ai (s2.keep Gw.o om);have rF:Hid (r=(aI R.l j [123]).bind fun _ j=>if bH R.l j [125]then .ok (nm,[],[]) (j+1)else(jF f R.l j d [] []).bind fun p j=>.ok (nm,p.1,p.2) j):=by show _=_;rw[HRR.o,HN.o];rfl
  have oq:=ah rQ.o 0 _ rfl;have ou:=aH rQ.o 0;have Gu:=ah rQ.o 1 _ rfl;have Gv:=aH rQ.o 1;obtain⟨w3,hw3⟩:=bn ((w2.setCell ⟨bt,0,none⟩ (.int .i64 11)).setCell ⟨bt,1,none⟩ (.string nm));have jA:Hid (Step (·=bt) w2 w3):=by rw[hw3];exact((Step.refl (·=bt) _).setCell _ _ jd).setCell _ _ jd
  have Lj:Hid (w3.heap[bt]?=some (.cells #[af 11,aG nm,bf 0,aT,aj,aj,aj,af t.line,af t.col] 56 (0,0))):=by rw[hw3];exact aU (aU rQ.o 0 (.int .i64 11)) 1 (.string nm)
  have qf:Hid (Step (fun q=>q=R.rb∨q=bt) w1 w3):=(HS2.o.mono il).trans (jA.o.mono ir);have gu:Hid (vS R w1 bt nm t d w3 j [] [] (.slice none 0 0) (.slice none 0 0) []):=⟨HR2.o.step jA.o oi,Lj.o,World.ownsRow_nil _ _ _ _,World.ownsRow_nil _ _ _ _,by rw[bF],oQ,oQ,by simp,qf.o⟩;clear hr2 s2 p0;go_upto_region 2 with fail
  rw[←hw3];clear hw3 oq ou Gu Gv;have p0:=dh.o w3 qf.o;go_wp2_with fail;refine(dO R HL.o w3.heap.size ⟨#[123]⟩ _ j d (gu.o.rd.quiet (bV.alloc _)) dc (ah (aB _ _) 0 _ rfl)).mono ?_;rintro e w4 hp;have hp2:aJ R d iR (aI R.l j [123]) _ e w4:=hp;cases hn:aI R.l j [123]with
  |out=>exact(dH hn).elim
  |err c ln col=>rw[hn]at hp2;obtain⟨rfl,s4⟩:=hp2;refine⟨rfl,aY.aW (c:=c) (ln:=ln) (col:=col) (by rw[rF.o,hn];rfl) rfl ?_⟩;exact((dF.o.mono fe).trans gu.o.st).trans ((((Step.refl (·=R.rb) _).alloc _).trans s4).mono il)
  |ok u j4=>
   have N8:=ai hn;rw[hn]at hp2;obtain⟨⟨v,rfl,rfl⟩,hr4,s4⟩:=hp2;have fP:=ai (gu.o.read hrb om hr4 (((Step.refl (·=R.rb) _).alloc _).trans s4));(have mM:Hid (r=if bH R.l j4 [125]then .ok (nm,[],[]) (j4+1)else(jF f R.l j4 d [] []).bind fun p j=>.ok (nm,p.1,p.2) j):=by show _=_;rw[rF.o,N8.o];rfl);clear hn hr4 s4 p0 hp;have p0:=dh.o w4 fP.o.st;go_wp2_with fail;cases hb:bH R.l j4 [125]with
   |true=>have HB:=ai hb;clear hb;refine(dw R HL.o ⟨#[125]⟩ _ j4 d fP.o.rd dc HB.o).mono ?_;rintro e w5 ⟨rfl,LC,h5⟩;have nJ:=ai (fP.o.read hrb om LC h5);clear LC h5 p0;go_wp2_with fail;refine bodyPost_ret (results_none rfl _ _ _) rfl ?_;refine aY.dQ (a:=(nm,[],[])) (j:=j4+1) (by rw[mM.o,HB.o,if_pos rfl]) rfl ⟨[],_,_,nJ.o.blk,Vu.o,oQ,aS.nil _ _ _,by rw[bF],aS.nil _ _ _⟩ nJ.o.rd ((dF.o.mono fe).trans nJ.o.st)
   |false=>
    have HB:=ai hb;clear hb;refine(dX R HL.o ⟨#[125]⟩ _ j4 d fP.o.rd dc HB.o).mono ?_;rintro e w5 ⟨rfl,LC,h5⟩;have nJ:=ai (fP.o.read hrb om LC h5);(have Ho:=ai (mM.o.trans (yR HB.o)));clear LC h5 p0;go_wp2_with fail;go_loopg [] f (fun gg wr=>gg≤f∧∃(i':Nat) (ns:List ByteArray) (al:List Ex) (vn va:Value) (xs:List Value),r=((jF gg R.l i' d ns al).bind fun p j=>.ok (nm,p.1,p.2) j)∧vS R w1 bt nm t d wr i' ns al vn va xs);case atStart=>exact⟨Nat.le_refl _,j4,[],[],_,_,[],Ho.o,nJ.o⟩
    case round=>
     obtain⟨hgf,i',ns,al,vn,va,xs,hrq,hst⟩:=hrel;obtain⟨gn,rfl⟩:∃gn,gk=gn+1:=by
      cases gk with
      |zero=>exact absurd hrq (by rw[jF];exact f_.o)
      |succ gn=>exact⟨gn,rfl⟩
     (have vF:Hid (r=((eH ns.length 12 R.l i').bind fun _ i=>(bI R.l i).bind fun n j=>(aI R.l j [58]).bind fun _ j=>(a_ gn R.l j d 0).bind fun x j=>if bH R.l j [44]then jF gn R.l (j+1) d (ns++[n]) (al++[x])else(aI R.l j [125]).bind fun _ j=>.ok (ns++[n],al++[x]) j).bind fun p j=>.ok (nm,p.1,p.2) j):=by show _=_;rw[hrq,jF]);obtain⟨Gx,Gy,rfl⟩:=b_ hst.on;obtain⟨sU,sV,rfl⟩:=b_ hst.oa;have HST:=ai hst;have hfew:=hst.few;have p0:=dh.o wr hst.st;have yY:=ah hst.blk 5 _ rfl;clear hrq hst;(go_upto_region 4 with fail);go_still_tail 6,kr;change wpList _ _ _ _ _ wr.drew;obtain⟨wd,hwd⟩:=bn wr.drew;(have vN:Hid (vS R w1 bt nm t d wd i' ns al (.slice Gx ns.length Gy) (.slice sU al.length sV) xs):=by rw[hwd];exact HST.o.quiet (bV.drew));rw[←hwd];clear hwd p0 yY;have p0:=dh.o wd vN.o.st;have yY:=ah vN.o.blk 5 _ rfl;go_wp2_with fail;refine(nH R wd ns.length 12 i' d vN.o.rd).mono ?_;rintro e w6 hp;cases hn:eH ns.length 12 R.l i' with
     |out=>exact(lV hn).elim
     |err c ln col=>rw[hn]at hp;obtain⟨rfl,s6⟩:=hp;refine⟨rfl,aY.aW (c:=c) (ln:=ln) (col:=col) (by rw[vF.o,hn];rfl) rfl ?_⟩;exact((dF.o.mono fe).trans vN.o.st).trans (s6.mono il)
     |ok u j6=>
      have hji:j6=i'∧ns.length<12:=by
       unfold eH at hn;split at hn
       ·cases hn
       ·cases hn;exact⟨rfl,by omega⟩
      obtain⟨rfl,hlt12⟩:=hji;have qA:=ai hn;rw[hn]at hp;obtain⟨⟨v,rfl,rfl⟩,qH,s6⟩:=hp;have fH:=ai (vN.o.read hrb om qH s6);(have F7:Hid (r=((bI R.l j6).bind fun n j=>(aI R.l j [58]).bind fun _ j=>(a_ gn R.l j d 0).bind fun x j=>if bH R.l j [44]then jF gn R.l (j+1) d (ns++[n]) (al++[x])else(aI R.l j [125]).bind fun _ j=>.ok (ns++[n],al++[x]) j).bind fun p j=>.ok (nm,p.1,p.2) j):=by show _=_;rw[vF.o,qA.o];rfl);clear hn qH s6 p0 yY;have p0:=dh.o w6 fH.o.st;have yY:=ah fH.o.blk 5 _ rfl;(go_upto_region 5 with fail);cases hn:bI R.l j6 with
      |out=>exact(iV hn).elim
      |err c ln col=>
       have HN:=ai hn;(have Za:Hid (∀X,bD R X j6 d→Calls Tryz.prog 80 #[.pointer (some ⟨R.rb,0,none⟩)] X fun e w'=>e=.panicked [{v:=.iface 184 (.agg #[af c,af ln,af col]),recovered:=false}]∧Step (·=R.rb) X w'):=by intro X hX;have h9:=name_any R HL.o X j6 d hX;rw[HN.o]at h9;exact h9);(have EF:Hid (∀wq:World,Step (·=R.rb) w6.drew wq→aY R d bt (Aq w.heap.size bt t) r w (.panicked [{v:=.iface 184 (.agg #[af c,af ln,af col]),recovered:=false}]) wq):=by intro wq hs;refine aY.aW (c:=c) (ln:=ln) (col:=col) (by rw[F7.o,HN.o];rfl) rfl ?_;exact((dF.o.mono fe).trans fH.o.st).trans ((((Step.refl (·=R.rb) _).drew).trans hs).mono il));clear hn;refine bG kr (ClJ R bt w.heap.size (.slice Gx ns.length Gy) w6.drew) 13 rfl kr kr kr kr ?h0 ?hs ?hdone;case h0=>exact⟨rfl,rfl,lW,lW,lW,lW,lW,lW,lW,lW,lW⟩
       case hs=>
        refine⟨?_,?_,?_,?_,?_,?_,?_,?_,?_,?_,?_,?_,?_,trivial⟩
        all_goals intro L V X a ev gJ hdf hL ak hJ
        ·have hwx:=hJ.wx;subst hwx;have o1:=gJ 1 rfl;change a.tmps[1]?.getD undef=.pointer (some ⟨bt,0,none⟩)at o1;go_simp;exact⟨_,rfl,{hJ with no:=by rw[aA _ dc];exact hJ.no,v0:=fun _=>rfl}⟩
        ·have hwx:=hJ.wx;subst hwx;have o1:=gJ 1 rfl;change a.tmps[1]?.getD undef=.pointer (some ⟨bt,0,none⟩)at o1;go_simp;exact⟨_,rfl,{hJ with no:=by rw[aA _ dc];exact hJ.no,v1:=fun _=>rfl}⟩
        ·have hwx:=hJ.wx;subst hwx;have e28:=(ev 1 28 rfl (ak 1 rfl)).trans (hJ.v1 (ak 1 rfl));go_simp;exact⟨_,rfl,{hJ with no:=by rw[aA _ dc];exact hJ.no,v2:=fun _=>rfl}⟩
        ·have hwx:=hJ.wx;subst hwx;have e29:=(ev 2 29 rfl (ak 2 rfl)).trans (hJ.v2 (ak 2 rfl));go_simp;exact⟨_,rfl,{hJ with no:=by rw[aA _ dc];exact hJ.no,v3:=fun _=>rfl}⟩
        ·have hwx:=hJ.wx;subst hwx;have e30:=(ev 3 30 rfl (ak 3 rfl)).trans (hJ.v3 (ak 3 rfl));have q5:=ah (((Step.refl (fun _=>False) w6).drew).keep fH.o.blk (fun h=>h)) 5 _ rfl;go_simp;exact⟨_,rfl,{hJ with no:=by rw[aA _ dc];exact hJ.no,v4:=fun _=>rfl}⟩
        ·have hwx:=hJ.wx;subst hwx;have o2:=gJ 2 rfl;change a.tmps[2]?.getD undef=.pointer (some ⟨w.heap.size,0,none⟩)at o2;go_simp;exact⟨_,rfl,{hJ with no:=by rw[aA _ dc];exact hJ.no,v5:=fun _=>rfl}⟩
        ·have hwx:=hJ.wx;subst hwx;have e32:=(ev 5 32 rfl (ak 5 rfl)).trans (hJ.v5 (ak 5 rfl));have q0:=dh.o w6.drew (fH.o.st.trans (bV.drew));go_simp;exact⟨_,rfl,{hJ with no:=by rw[aA _ dc];exact hJ.no,v6:=fun _=>rfl}⟩
        ·have hwx:=hJ.wx;subst hwx;have e33:=(ev 6 33 rfl (ak 6 rfl)).trans (hJ.v6 (ak 6 rfl));go_simp;refine(Za.o _ (fH.o.rd.quiet (bV.drew))).mono ?_;rintro e wq ⟨rfl,hs⟩;exact⟨hdf,EF.o wq hs⟩
        ·have hwx:=hJ.wx;subst hwx;exact absurd hJ.no (by rw[ak 7 rfl];decide)
        ·have hwx:=hJ.wx;subst hwx;exact absurd hJ.no (by rw[ak 7 rfl];decide)
        ·have hwx:=hJ.wx;subst hwx;have e27:=(ev 0 27 rfl (ak 0 rfl)).trans (hJ.v0 (ak 0 rfl));go_simp;exact⟨_,rfl,{hJ with no:=by rw[aA _ dc];exact hJ.no,v10:=fun _=>rfl}⟩
        ·have hwx:=hJ.wx;subst hwx;have e37:=(ev 10 37 rfl (ak 10 rfl)).trans (hJ.v10 (ak 10 rfl));go_simp;exact⟨_,rfl,{hJ with no:=by rw[aA _ dc];exact hJ.no,v11:=fun _=>rfl}⟩
        ·have hwx:=hJ.wx;subst hwx;exact absurd hJ.no (by rw[ak 7 rfl];decide)
       case hdone=>intro L V X hall hJ;exact absurd hJ.no (by rw[hall 7 dc];decide)
      |ok s j7=>
       have HN:=ai hn;have HSS:=ai (fU HL.o fH.o.rd.lt hn);(have Za:Hid (∀X,bD R X j6 d→Calls Tryz.prog 80 #[.pointer (some ⟨R.rb,0,none⟩)] X fun e w'=>e=.returned (.string s)∧bD R w' j7 d∧Step (·=R.rb) X w'):=by intro X hX;refine(name_any R HL.o X j6 d hX).mono ?_;intro e w' hp;rw[HN.o]at hp;obtain⟨⟨v,he,hv⟩,h1,h2⟩:=hp;exact⟨by rw[he,hv],h1,h2⟩);(have Zb:Hid (r=((aI R.l j7 [58]).bind fun _ j=>(a_ gn R.l j d 0).bind fun x j=>if bH R.l j [44]then jF gn R.l (j+1) d (ns++[s]) (al++[x])else(aI R.l j [125]).bind fun _ j=>.ok (ns++[s],al++[x]) j).bind fun p j=>.ok (nm,p.1,p.2) j):=by show _=_;rw[F7.o,HN.o];rfl);clear hn;go_cut [] (fun wx=>∃v9:Value,vS R w1 bt nm t d wx j7 (ns++[s]) al v9 (.slice sU al.length sV) xs);case first=>
        first
        |(go_region_law (first
            |(refine lM _ rfl (w8.heap.size+1) (.tmp 31) (.tmp 35) 40 rfl w1.heap.size 9 i0 (.string ⟨#[]⟩) 1 16 Tryz.underlying40 HI.o HZ0.o HZ1.o HZ2.o rfl dc _ _ _ (by simp[Act.eval]) Vg.o _ 1 _ (by simp[Act.eval]) Ls.o rfl Lu.o (by unfold maxLen;omega) om Vh.o ?_;intro v9 w9 iY iq p_;obtain⟨a9,c9,rfl⟩:=b_ iY;have lI:Hid (vS R w1 bt nm t d (w9.setCell ⟨bt,5,none⟩ (.slice a9 (ns.length+1) c9)) j7 (ns++[s]) al (.slice a9 (ns.length+1) c9) (.slice sU al.length sV) xs):=ku.o.pushN hrb om (bV.alloc _) iY iq p_ HSS.o hlt12;have hbb:=(ji iq).keep (aN (o':=.cells #[aG s] 9) ku.o.blk) (fun e=>by have:=(ku.o.on.lt _ e).1;omega);have bt5':=ah hbb 5 _ rfl;have bz5':=aH hbb 5;clear hbb iY iq p_)
            |(go_simp;go_at_call 80;refine(Za.o _ (fH.o.rd.quiet (bV.drew))).mono ?_;rintro e8 w8 ⟨rfl,vJ,hs8⟩;have ku:=ai ((fH.o.quiet (bV.drew)).read hrb om vJ hs8);have Vg:Hid ((w8.alloc (.cells #[aG s] 9)).ownsRow w1.heap.size 9 1 (.slice Gx ns.length Gy) ns.length (ns.map .string)):=ku.o.on.alloc _;have Ls:Hid (Row (w8.alloc (.cells #[aG s] 9)) (w8.heap.size+1) (.slice (some ⟨w8.heap.size,0,none⟩) 1 1) 1 [.string s]):=Row.new (aB _ _) dc;have Lu:Hid (∀u∈[Value.string s],u.oneCell'=true):=by
               show∀u∈_,_
               intro u hu
               simp at hu
               subst hu;rfl
              have Vh:Hid (w1.heap.size≤(w8.alloc (.cells #[aG s] 9)).heap.size):=by
               show _≤_
               have:=ku.o.st.size
               simp;omega
              have bt58:=ah ku.o.blk 5 _ rfl
              have bt59:=ah (aN (o':=.cells #[aG s] 9) ku.o.blk) 5 _ rfl
              clear vJ hs8)))
        |fail
        all_goals (
         clear p0 yY
         go_wp2_with fail
         go_meet
         case rel=>exact⟨_,lI.o⟩)
       case rest=>
        obtain⟨v9,hls⟩:=hcut;obtain⟨w9,rfl⟩:=bn wc;obtain⟨LD,hns8⟩:∃q,q=ns++[s]:=⟨_,rfl⟩;rw[←hns8]at hls Zb;have iF:=ai hls;(have HLT8:Hid (al.length<LD.length):=by show _<_;rw[hns8];simp;omega);clear hls p0 yY hns8;have p0:=dh.o w9 iF.o.st;go_wp2_with fail;refine(dO R HL.o w9.heap.size ⟨#[58]⟩ _ j7 d (iF.o.rd.quiet (bV.alloc _)) dc (ah (aB _ _) 0 _ rfl)).mono ?_;rintro e wa hp;have hp2:aJ R d iR (aI R.l j7 [58]) _ e wa:=hp;cases hn:aI R.l j7 [58]with
        |out=>exact(dH hn).elim
        |err c ln col=>rw[hn]at hp2;obtain⟨rfl,sa⟩:=hp2;refine⟨rfl,aY.aW (c:=c) (ln:=ln) (col:=col) (by rw[Zb.o,hn];rfl) rfl ?_⟩;exact((dF.o.mono fe).trans iF.o.st).trans ((((Step.refl (·=R.rb) _).alloc _).trans sa).mono il)
        |ok u j8=>
         have VE:=ai hn;rw[hn]at hp2;obtain⟨⟨v,rfl,rfl⟩,hra,sa⟩:=hp2;obtain⟨a8,c8,rfl⟩:=b_ iF.o.on;have jD:=ai (iF.o.read hrb om hra (((Step.refl (·=R.rb) _).alloc _).trans sa));(have lJ:Hid (r=((a_ gn R.l j8 d 0).bind fun x j=>if bH R.l j [44]then jF gn R.l (j+1) d LD (al++[x])else(aI R.l j [125]).bind fun _ j=>.ok (LD,al++[x]) j).bind fun p j=>.ok (nm,p.1,p.2) j):=by show _=_;rw[Zb.o,VE.o];rfl);clear hn hra sa p0 hp;obtain⟨w4,rfl⟩:=bn wa;have Hl:Hid (∀X:World,Step (fun q=>q=R.rb∨q=bt∨(Value.slice sU al.length sV).ownBlock=some q) w4 X→X.cell? ⟨w.heap.size,0,none⟩=some (.pointer (some ⟨R.rb,0,none⟩))):=by
          show∀X,_;intro X hX;refine hX.cell (dh.o w4 jD.o.st) (fun e=> ?_);have e2:w.heap.size=R.rb∨w.heap.size=bt∨(Value.slice sU al.length sV).ownBlock=some w.heap.size:=e;rcases e2 with e2|e2|e2
          ·omega
          ·omega
          ·have:=(jD.o.oa.lt _ e2).1;omega
         have SK:Hid (al.length<LD.length):=HLT8;(have hal12:al.length≤12:=by have:=jD.o.few;omega);have HO:Hid (yK R w4 5 7 8 9 10 13 bt w1.heap.size 9 al.length (.slice sU al.length sV) xs [Value.int .i64 0,bW,bf 0,aT,aj,aj,aj,af 0,af 0]):=
          ⟨by decide,by decide,by decide,by decide,by decide,by decide,by decide,by decide,by decide,hrb,by omega,jD.o.st.size,fun q hq=>jD.o.oa.lt q hq,jD.o.el.len,rfl⟩
         (have Vj:Hid (∀u∈[Value.int .i64 0,bW,bf 0,aT,aj,aj,aj,af 0,af 0],u.oneCell'=true):=by intro u hu;simp at hu;rcases hu with rfl|rfl|rfl|rfl|rfl|rfl|rfl|rfl|rfl<;>rfl);(go_upto_region 7 with fail);cases hx:a_ gn R.l j8 d 0 with
         |out=>exact absurd (by rw[lJ.o,hx];rfl) f_.o
         |err c ln col=>
          have HX:=ai hx;clear hx;obtain⟨ex,-⟩:∃ex:Ex,ex=aZ 0 di 0 false [] [] [] Ql:=⟨_,rfl⟩;obtain⟨j9,-⟩:∃j9,j9=j8:=⟨_,rfl⟩;have HE:Hid (Af (fun w P cs=>cZ w P ex cs)):=ExEl ex;have xG:Hid (∀V,jW R j8 j9 d w4 5 7 8 9 10 13 bt (fun v=>.cells #[af 11,aG nm,bf 0,aT,v,.slice a8 LD.length c8,aj,af t.line,af t.col] 56 (0,0)) w1.heap.size 56 9 al.length (.slice sU al.length sV) xs [Value.int .i64 0,bW,bf 0,aT,aj,aj,aj,af 0,af 0] (fun w P cs=>cZ w P ex cs) [some (.pointer (some ⟨bt,0,none⟩)),some (.pointer (some ⟨bt,0,none⟩)),some (.pointer (some ⟨bt,4,none⟩)),some (.slice sU al.length sV),some (.agg #[fM R.rb 0]),none,some (.int .i64 (al.length:Int)),none,none,none,none,some (.pointer (some ⟨bt,0,none⟩)),some (.pointer (some ⟨bt,4,none⟩)),none] (fun _=>false) V w4.drew):=fun V=>jW.zero (bV.drew) jD.o.rd jD.o.oa jD.o.blk;(have xH:Hid (∀X,bD R X j8 d→Calls Tryz.prog 40 #[.agg #[fM R.rb 0]] X fun e wq=>e=.panicked [{v:=.iface 184 (.agg #[af c,af ln,af col]),recovered:=false}]∧Step (·=R.rb) X wq):=by intro X hX;have h9:=mO gn (IH.o gn om) R X j8 d HL.o hX hd (by rw[HX.o];intro h;cases h);rw[HX.o]at h9;exact h9);have EF:Hid (∀X wq:World,Step (fun q=>q=R.rb∨q=bt∨(Value.slice sU al.length sV).ownBlock=some q) w4 X→Step (·=R.rb) X wq→aY R d bt (Aq w.heap.size bt t) r w (.panicked [{v:=.iface 184 (.agg #[af c,af ln,af col]),recovered:=false}]) wq):=by
           show∀X wq,_;intro X wq h1 h2;refine aY.aW (c:=c) (ln:=ln) (col:=col) (by rw[lJ.o,HX.o];rfl) rfl (((dF.o.mono fe).trans jD.o.st).then (h1.trans (h2.mono il)) (fun q hq e=> ?_));rcases e with e|e|e
           ·exact .inl e
           ·exact .inr e
           ·have:=(jD.o.oa.lt _ e).1;have:=dF.o.size;omega
          refine bG kr (fun L V X=>jW R j8 j9 d w4 5 7 8 9 10 13 bt (fun v=>.cells #[af 11,aG nm,bf 0,aT,v,.slice a8 LD.length c8,aj,af t.line,af t.col] 56 (0,0)) w1.heap.size 56 9 al.length (.slice sU al.length sV) xs [Value.int .i64 0,bW,bf 0,aT,aj,aj,aj,af 0,af 0] (fun w P cs=>cZ w P ex cs) [some (.pointer (some ⟨bt,0,none⟩)),some (.pointer (some ⟨bt,0,none⟩)),some (.pointer (some ⟨bt,4,none⟩)),some (.slice sU al.length sV),some (.agg #[fM R.rb 0]),none,some (.int .i64 (al.length:Int)),none,none,none,none,some (.pointer (some ⟨bt,0,none⟩)),some (.pointer (some ⟨bt,4,none⟩)),none] L V X∧L 5=false) 14 rfl kr kr kr kr ?h0 ?hs ?hdone;case h0=>exact⟨xG.o _,rfl⟩
          case hs=>
           refine⟨?_,?_,?_,?_,?_,?_,?_,?_,?_,?_,?_,?_,?_,?_,trivial⟩
           all_goals intro L V X a ev gJ hdf hL ak hJ
           ·have o1:=gJ 1 rfl;change a.tmps[1]?.getD undef=.pointer (some ⟨bt,0,none⟩)at o1;go_simp;exact⟨_,rfl,⟨hJ.1.up 0 dc dc dc dc dc dc rfl,by rw[aA _ dc];exact hJ.2⟩⟩
           ·have e43:=(ev 0 43 rfl (ak 0 rfl)).trans (hJ.1.iO 0 _ rfl (ak 0 rfl));go_simp;exact⟨_,rfl,⟨hJ.1.up 1 dc dc dc dc dc dc rfl,by rw[aA _ dc];exact hJ.2⟩⟩
           ·have e44:=(ev 1 44 rfl (ak 1 rfl)).trans (hJ.1.iO 1 _ rfl (ak 1 rfl));go_simp;exact⟨_,rfl,⟨hJ.1.up 2 dc dc dc dc dc dc rfl,by rw[aA _ dc];exact hJ.2⟩⟩
           ·have e45:=(ev 2 45 rfl (ak 2 rfl)).trans (hJ.1.iO 2 _ rfl (ak 2 rfl));have hZ:=(hJ.1.I_ (hJ.1.Va dc hL)).1;have hb:=hJ.1.blk;rw[hZ,if_neg dc]at hb;have q4:X.cell? ⟨bt,4,none⟩=some (.slice sU al.length sV):=ah hb 4 _ rfl;go_simp;exact⟨_,rfl,⟨hJ.1.up 3 dc dc dc dc dc dc rfl,by rw[aA _ dc];exact hJ.2⟩⟩
           ·have o2:=gJ 2 rfl;change a.tmps[2]?.getD undef=.pointer (some ⟨w.heap.size,0,none⟩)at o2;have p0:=Hl.o X hJ.1.st;go_simp;exact⟨_,rfl,⟨hJ.1.up 4 dc dc dc dc dc dc rfl,by rw[aA _ dc];exact hJ.2⟩⟩
           ·have e47:=(ev 4 47 rfl (ak 4 rfl)).trans (hJ.1.iO 4 _ rfl (ak 4 rfl));have hrd:=hJ.1.rd;rw[hL,if_neg dc]at hrd;go_simp;refine(xH.o X hrd).mono ?_;rintro e wq ⟨rfl,hs⟩;exact⟨hdf,EF.o X wq hJ.1.st hs⟩
           ·have e46:=(ev 3 46 rfl (ak 3 rfl)).trans (hJ.1.iO 3 _ rfl (ak 3 rfl));go_simp;exact⟨_,rfl,⟨hJ.1.up 6 dc dc dc dc dc dc rfl,by rw[aA _ dc];exact hJ.2⟩⟩
           ·have hu:=hJ.1.build HE.o HO.o hL rfl;go_simp;exact⟨_,rfl,⟨hu,by rw[aA _ dc];exact hJ.2⟩⟩
           ·have e46:=(ev 3 46 rfl (ak 3 rfl)).trans (hJ.1.iO 3 _ rfl (ak 3 rfl));exact absurd hJ.2 (by rw[ak 5 rfl];decide)
           ·have e49:=(ev 6 49 rfl (ak 6 rfl)).trans (hJ.1.iO 6 _ rfl (ak 6 rfl));exact absurd hJ.2 (by rw[ak 5 rfl];decide)
           ·exact absurd hJ.2 (by rw[ak 5 rfl];decide)
           ·have e43:=(ev 0 43 rfl (ak 0 rfl)).trans (hJ.1.iO 0 _ rfl (ak 0 rfl));go_simp;exact⟨_,rfl,⟨hJ.1.up 11 dc dc dc dc dc dc rfl,by rw[aA _ dc];exact hJ.2⟩⟩
           ·have e53:=(ev 11 53 rfl (ak 11 rfl)).trans (hJ.1.iO 11 _ rfl (ak 11 rfl));go_simp;exact⟨_,rfl,⟨hJ.1.up 12 dc dc dc dc dc dc rfl,by rw[aA _ dc];exact hJ.2⟩⟩
           ·have e54:=(ev 12 54 rfl (ak 12 rfl)).trans (hJ.1.iO 12 _ rfl (ak 12 rfl));exact absurd hJ.2 (by rw[ak 5 rfl];decide)
          case hdone=>intro L V X hall hJ;exact absurd hJ.2 (by rw[hall 5 dc];decide)
         |ok ex j9=>
          have HX:=ai hx;clear hx;have HE:Hid (Af (fun w P cs=>cZ w P ex cs)):=ExEl ex;have xG:Hid (∀V,jW R j8 j9 d w4 5 7 8 9 10 13 bt (fun v=>.cells #[af 11,aG nm,bf 0,aT,v,.slice a8 LD.length c8,aj,af t.line,af t.col] 56 (0,0)) w1.heap.size 56 9 al.length (.slice sU al.length sV) xs [Value.int .i64 0,bW,bf 0,aT,aj,aj,aj,af 0,af 0] (fun w P cs=>cZ w P ex cs) [some (.pointer (some ⟨bt,0,none⟩)),some (.pointer (some ⟨bt,0,none⟩)),some (.pointer (some ⟨bt,4,none⟩)),some (.slice sU al.length sV),some (.agg #[fM R.rb 0]),none,some (.int .i64 (al.length:Int)),none,none,none,none,some (.pointer (some ⟨bt,0,none⟩)),some (.pointer (some ⟨bt,4,none⟩)),none] (fun _=>false) V w4.drew):=fun V=>jW.zero (bV.drew) jD.o.rd jD.o.oa jD.o.blk;(have xH:Hid (∀X,bD R X j8 d→Calls Tryz.prog 40 #[.agg #[fM R.rb 0]] X fun e wq=>(∃v,e=.returned v∧∃cs:List Value,v=.agg cs.toArray∧cZ wq (fun q=>X.heap.size≤q) ex cs)∧bD R wq j9 d∧Step (·=R.rb) X wq):=by intro X hX;have h9:=mO gn (IH.o gn om) R X j8 d HL.o hX hd (by rw[HX.o];intro h;cases h);rw[HX.o]at h9;exact h9);have HRG:Hid (r=(if bH R.l j9 [44]then jF gn R.l (j9+1) d LD (al++[ex])else(aI R.l j9 [125]).bind fun _ j=>.ok (LD,al++[ex]) j).bind fun p j=>.ok (nm,p.1,p.2) j):=by show _=_;rw[lJ.o,HX.o];rfl
          have lI:Hid (∀(g9 c9:Nat) (Ag:List Value) (X:World),bD R X j9 d→X.heap[bt]?=some (.cells #[af 11,aG nm,bf 0,aT,.slice (some ⟨g9,0,none⟩) (al.length+1) c9,.slice a8 LD.length c8,aj,af t.line,af t.col] 56 (0,0))→X.ownsRow w1.heap.size 56 9 (.slice (some ⟨g9,0,none⟩) (al.length+1) c9) (al.length+1) (xs++Ag)→cZ X (fun q=>w4.heap.size≤q∧q≠g9) ex Ag→((Value.slice sU al.length sV).ownBlock=some g9∨w4.heap.size≤g9)→Step (fun q=>q=R.rb∨q=bt∨(Value.slice sU al.length sV).ownBlock=some q) w4 X→
            vS R w1 bt nm t d X j9 LD (al++[ex]) (.slice a8 LD.length c8) (.slice (some ⟨g9,0,none⟩) (al.length+1) c9) (xs++Ag)):=by
           show∀g9 c9 Ag X,_
           intro g9 c9 Ag X h1 h2 h3 h4 h5 h6
           exact jD.o.Qq hrb om SK.o h1 h2 h3 h4 h5 h6
          go_cut [] (fun wx=>∃(N_:Value) (Oa:List Value),vS R w1 bt nm t d wx j9 LD (al++[ex]) (.slice a8 LD.length c8) N_ Oa);case first=>
           refine bG kr (jW R j8 j9 d w4 5 7 8 9 10 13 bt (fun v=>.cells #[af 11,aG nm,bf 0,aT,v,.slice a8 LD.length c8,aj,af t.line,af t.col] 56 (0,0)) w1.heap.size 56 9 al.length (.slice sU al.length sV) xs [Value.int .i64 0,bW,bf 0,aT,aj,aj,aj,af 0,af 0] (fun w P cs=>cZ w P ex cs) [some (.pointer (some ⟨bt,0,none⟩)),some (.pointer (some ⟨bt,0,none⟩)),some (.pointer (some ⟨bt,4,none⟩)),some (.slice sU al.length sV),some (.agg #[fM R.rb 0]),none,some (.int .i64 (al.length:Int)),none,none,none,none,some (.pointer (some ⟨bt,0,none⟩)),some (.pointer (some ⟨bt,4,none⟩)),none]) 14 rfl kr kr kr kr ?h0 ?hs ?hdone;case h0=>exact xG.o _
           case hs=>
            refine⟨?_,?_,?_,?_,?_,?_,?_,?_,?_,?_,?_,?_,?_,?_,trivial⟩
            all_goals intro L V X a ev gJ hdf hL ak hJ
            ·have o1:=gJ 1 rfl;change a.tmps[1]?.getD undef=.pointer (some ⟨bt,0,none⟩)at o1;go_simp;exact⟨_,rfl,hJ.up 0 dc dc dc dc dc dc rfl⟩
            ·have e43:=(ev 0 43 rfl (ak 0 rfl)).trans (hJ.iO 0 _ rfl (ak 0 rfl));go_simp;exact⟨_,rfl,hJ.up 1 dc dc dc dc dc dc rfl⟩
            ·have e44:=(ev 1 44 rfl (ak 1 rfl)).trans (hJ.iO 1 _ rfl (ak 1 rfl));go_simp;exact⟨_,rfl,hJ.up 2 dc dc dc dc dc dc rfl⟩
            ·have e45:=(ev 2 45 rfl (ak 2 rfl)).trans (hJ.iO 2 _ rfl (ak 2 rfl));have hZ:=(hJ.I_ (hJ.Va dc hL)).1;have hb:=hJ.blk;rw[hZ,if_neg dc]at hb;have q4:X.cell? ⟨bt,4,none⟩=some (.slice sU al.length sV):=ah hb 4 _ rfl;go_simp;exact⟨_,rfl,hJ.up 3 dc dc dc dc dc dc rfl⟩
            ·have o2:=gJ 2 rfl;change a.tmps[2]?.getD undef=.pointer (some ⟨w.heap.size,0,none⟩)at o2;have p0:=Hl.o X hJ.st;go_simp;exact⟨_,rfl,hJ.up 4 dc dc dc dc dc dc rfl⟩
            ·have e47:=(ev 4 47 rfl (ak 4 rfl)).trans (hJ.iO 4 _ rfl (ak 4 rfl));have hrd:=hJ.rd;rw[hL,if_neg dc]at hrd;go_simp;refine(xH.o X hrd).mono ?_;rintro e wq ⟨⟨v,rfl,cs,rfl,hty⟩,hr,hs⟩;exact⟨_,rfl,hJ.call HE.o HO.o hL rfl hs hr hty⟩
            ·have e46:=(ev 3 46 rfl (ak 3 rfl)).trans (hJ.iO 3 _ rfl (ak 3 rfl));go_simp;exact⟨_,rfl,hJ.up 6 dc dc dc dc dc dc rfl⟩
            ·have hu:=hJ.build HE.o HO.o hL rfl;go_simp;exact⟨_,rfl,hu⟩
            ·have e46:=(ev 3 46 rfl (ak 3 rfl)).trans (hJ.iO 3 _ rfl (ak 3 rfl));have e50:=ev 7 50 rfl (ak 7 rfl);obtain⟨zb,z1,z2,z3⟩:=hJ.bl (ak 7 rfl) hL;have hall:∀i,i<8→L i=true:=by
              intro i hi;rcases(show i=0∨i=1∨i=2∨i=3∨i=4∨i=5∨i=6∨i=7 by omega)with rfl|rfl|rfl|rfl|rfl|rfl|rfl|rfl
              ·exact ak 0 rfl
              ·exact ak 1 rfl
              ·exact ak 2 rfl
              ·exact ak 3 rfl
              ·exact ak 4 rfl
              ·exact ak 5 rfl
              ·exact ak 6 rfl
              ·exact ak 7 rfl
             refine gV _ X.heap.size (.tmp 46) (.tmp 50) 54 rfl w1.heap.size 56 j0 (.agg #[af 0,bW,bf 0,aT,aj,aj,aj,af 0,af 0]) 9 128 Tryz.underlying54 HJ.o HY0.o HY1.o HY2.o rfl dc _ _ _ (by rw[bK];exact e46) (hJ.old hL) (V 7) 1 _ (by rw[bK];exact e50) (by rw[z1];exact(Row.new z3 dc).mono (aC z3)) rfl Vj.o (by unfold maxLen;omega) om (Nat.le_trans HO.o.bw hJ.st.size) ?_;intro v8 w8 uO qx BG;exact⟨v8,rfl,hJ.app HE.o HO.o hL hall rfl uO qx BG⟩
            ·have e49:=(ev 6 49 rfl (ak 6 rfl)).trans (hJ.iO 6 _ rfl (ak 6 rfl));have e51:=ev 8 51 rfl (ak 8 rfl);obtain⟨g,c,hV,-⟩:=hJ.new (ak 8 rfl);rw[hV]at e51;(have hi0:(0:Int)≤(al.length:Int):=by omega);(have hi1:(al.length:Int)<((al.length+1:Nat):Int):=by omega);(have hi2:(al.length:Int)<(al.length:Int)+1:=by omega);have hu:=hJ.index HO.o (ak 8 rfl) rfl hV;go_simp;exact⟨_,rfl,hu⟩
            ·have h8:=ak 8 rfl;have h9:=ak 9 rfl;have h5:=ak 5 rfl;obtain⟨g,c,hV,-,ys,hown,-⟩:=hJ.new h8;have ep:=(ev 9 52 rfl h9).trans ((hJ.ix h9).2 g c hV);obtain⟨cs,c1,c2⟩:=hJ.el h5;have ec:=(ev 5 48 rfl h5).trans c1;rw[hV]at hown;obtain⟨g',c',cur,hg',-,hcur,hsz⟩:=vM hown om;cases hg';have hcl:cs.length=9:=cZ.len c2;refine eG 56 (.tmp 52) (.tmp 48) rfl g (al.length*9) 56 cur cs (by rw[bK];exact ep) (by rw[bK];exact ec) hcur (by rw[hcl];exact Tryz.aK) om (cZ.one c2) ?_;intro w6 hb6 hs6;exact⟨undef,rfl,hJ.put HE.o HO.o h8 (fun u hu=>by cases hu) hV c1 hcl hcur hb6 hs6⟩
            ·have e43:=(ev 0 43 rfl (ak 0 rfl)).trans (hJ.iO 0 _ rfl (ak 0 rfl));go_simp;exact⟨_,rfl,hJ.up 11 dc dc dc dc dc dc rfl⟩
            ·have e53:=(ev 11 53 rfl (ak 11 rfl)).trans (hJ.iO 11 _ rfl (ak 11 rfl));go_simp;exact⟨_,rfl,hJ.up 12 dc dc dc dc dc dc rfl⟩
            ·have e54:=(ev 12 54 rfl (ak 12 rfl)).trans (hJ.iO 12 _ rfl (ak 12 rfl));have h8:=ak 8 rfl;have ev8:=ev 8 51 rfl h8;obtain⟨g,c,hV,-⟩:=hJ.new h8;rw[hV]at ev8;have hb:=hJ.blk;rw[hL,if_neg dc]at hb;have q5:=ah hb 4 _ rfl;have z5:=aH hb 4;have hu:=hJ.last (X':=X.setCell ⟨bt,4,none⟩ (.slice (some ⟨g,0,none⟩) (al.length+1) c)) HE.o HO.o h8 (fun u hu=>by cases hu) (by rw[hV];exact aU hb 4 _) (bV.setCell _ _ jd);go_simp;exact⟨undef,hu⟩
           case hdone=>intro L V X hall hJ;obtain⟨g9,c9,Ag,RZ,R_,iY,Si,Sj,yu,hgb9⟩:=hJ.done ⟨hall 5 dc,hall 8 dc,hall 10 dc,hall 13 dc⟩;rw[rgQ14];simp only[lX,dZ,F5,Ef];clear hJ hall;have HEND9:=ai (lI.o g9 c9 Ag X RZ R_ iY Si Sj yu);go_wp2_with fail;go_meet;case rel=>exact⟨_,_,HEND9.o⟩
          case rest=>
           obtain⟨N_,Oa,hls⟩:=hcut;obtain⟨w5,rfl⟩:=bn wc;have nJ:=ai hls;clear hls;have p0:=dh.o w5 nJ.o.st;go_wp2_with fail;cases hc:bH R.l j9 [44]with
           |true=>
            have HC:=ai hc;clear hc;refine(dw R HL.o ⟨#[44]⟩ _ j9 d nJ.o.rd dc HC.o).mono ?_;rintro e wa ⟨rfl,hra,sa⟩;have uy:=ai (nJ.o.read hrb om hra sa);(have HRI:=ai (bpQ HRG.o HC.o));clear hra sa p0;go_wp2_with fail;go_roundg gn;case rel=>exact⟨by omega,j9+1,LD,al++[ex],_,N_,Oa,HRI.o,uy.o⟩
            case measure=>omega
           |false=>
            have HC:=ai hc;clear hc;refine(dX R HL.o ⟨#[44]⟩ _ j9 d nJ.o.rd dc HC.o).mono ?_;rintro e wa ⟨rfl,hra,sa⟩;have uy:=ai (nJ.o.read hrb om hra sa);(have HRI:=ai (bmQ HRG.o HC.o));clear hra sa p0;have p0:=dh.o wa uy.o.st;go_wp2_with fail;refine(dO R HL.o wa.heap.size ⟨#[125]⟩ _ j9 d (uy.o.rd.quiet (bV.alloc _)) dc (ah (aB _ _) 0 _ rfl)).mono ?_;rintro e wb hp;have hp2:aJ R d iR (aI R.l j9 [125]) _ e wb:=hp;cases hn:aI R.l j9 [125]with
            |out=>exact(dH hn).elim
            |err c ln col=>rw[hn]at hp2;obtain⟨rfl,sb⟩:=hp2;refine⟨rfl,aY.aW (c:=c) (ln:=ln) (col:=col) (by rw[HRI.o,hn];rfl) rfl ?_⟩;exact((dF.o.mono fe).trans uy.o.st).trans ((((Step.refl (·=R.rb) _).alloc _).trans sb).mono il)
            |ok u2 jz=>have HNC:=ai hn;rw[hn]at hp2;obtain⟨⟨v,rfl,rfl⟩,vP,sb⟩:=hp2;have Jf:=ai (uy.o.read hrb om vP (((Step.refl (·=R.rb) _).alloc _).trans sb));clear hn vP sb p0 hp;have hs1:=dF.o.size;go_wp2_with fail;refine bodyPost_end (results_none rfl _ _ _) rfl ?_;refine aY.dQ (a:=(nm,LD,al++[ex])) (j:=jz) (by rw[HRI.o,HNC.o];rfl) rfl ⟨Oa,_,N_,Jf.o.blk,Vu.o,Jf.o.sz,aS.jb Jf.o.on (fun q hq=>by have:=(Jf.o.on.lt q hq).1;omega),bF.mono (fun q _ hq=>by have:=hq.1;omega) _ _ Jf.o.el,aS.jb Jf.o.oa (fun q hq=>by have:=(Jf.o.oa.lt q hq).1;omega)⟩ Jf.o.rd ((dF.o.mono fe).trans Jf.o.st)
end Go.Proofs.YtggjfinekcenpaaGreat
