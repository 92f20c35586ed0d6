/- Bnd, Whe, Par, Hed -/
import Derived.Test.YtppekkbaoimpgaaGreatPkJ
set_option maxRecDepth 100000
set_option maxHeartbeats 8000000
namespace Go.Proofs.YtppekkbaoimpgaaGreat
open Go.RowKit
theorem oiQ {p:Prop} (h:p:=by exact fun _ _ _=>by omega):p:=h
open Vt
theorem Tryz.kJ:(Tryz.prog.info? 170).map (·.size)=some 5:=by kernel_rfl
def BdV (n0:Nat) (w':World) (a:Bd) (v:Value):Prop:=ElQ Bv w' (fun k=>n0≤k) a v
theorem O_ (f:Nat) (R:fV) (w:World) (i d:Nat) (hl:nK R.l) (h:bC R w i d) (hno:oN f R.l i≠.out):Calls Tryz.prog 185 #[.agg #[dY R.rb 0]] w (aJ R d (BdV w.heap.size) (oN f R.l i) w):=by
 have HL:=ak hl;obtain⟨r,hr⟩:=aU (oN f R.l i);obtain⟨tk,htk⟩:=aU (tokA R.l i);have HRR:Hid (r=(if(rE R.l i).size=0 then(aS R.l (oz R.l i)).bind fun n j=>.ok (n,true) j else .ok (rE R.l i,false) (oz R.l i)).bind fun p j=>(aH R.l j [58]).bind fun _ j=>(gq f R.l j p.2 [] []).bind fun q j=>.ok ⟨p.1,q.1,q.2,tk.line,tk.col⟩ j):=by show _=_;rw[hr,oN,←htk]
 rw[←hr]at hno⊢;have eH:=ak hno;have pY:=aI h.blk;obtain⟨w1,hw1⟩:=aU ((w.alloc (.cells #[dY R.rb 0] 97)).alloc (.cells #[bP,au,au,ah 0,ah 0] 170));have cZ:Hid (Step (fun _=>False) w w1):=by show Step _ _ _;rw[hw1];exact(bJ.alloc _).alloc _
 have jL:Hid (w1.heap[w.heap.size]?=some (.cells #[dY R.rb 0] 97 (0,0))):=by show _=_;rw[hw1];exact aN (aA _ _)
 have jW:Hid (w1.heap[w.heap.size+1]?=some (.cells #[bP,au,au,ah 0,ah 0] 170 (0,0))):=by show _=_;rw[hw1];exact dX _ _ _
 have HW1:=ak hw1;have H1:=ak (h.quiet cZ.o);have HT:=ak (show R.l[i]?=some tk by rw[htk];exact h.tok);have HOZ:=ak (FV hl h.lt);obtain⟨i0,hi0,hz0,hz1,hz2⟩:=info_parts Tryz.qf;have HI:=ak hi0;have HZ0:=ak hz0;have HZ1:=ak hz1;have HZ2:=ak hz2;have hn1:=aI jW.o;have Wi:Hid (∀X:World,Step (·=R.rb) w1 X→X.cell? ⟨w.heap.size,0,none⟩=some (.pointer (some ⟨R.rb,0,none⟩))):=by show∀X,_;intro X hX;exact aj (hX.keep jL.o om) 0 _ rfl
 clear hl h hno hr hw1 hi0 hz0 hz1 hz2 htk;go_enter Tryz.func185,Tryz.ntmps185;go_upto_region 1 with fail
 rw[←HW1.o];obtain⟨Jx,hJx⟩:=aU (AJ R i d w1 #[.string ⟨#[]⟩,.slice none 0 0,.slice none 0 0,.int .i64 0,.int .i64 0] (fun s=> #[.string s,.slice none 0 0,.slice none 0 0,.int .i64 tk.line,.int .i64 tk.col]) 170 (.ok (rE R.l i) (oz R.l i)) 4 5 6 7 [some (.pointer (some ⟨w.heap.size,0,none⟩)),some (.pointer (some ⟨R.rb,0,none⟩)),some (.agg #[ah tk.line,ah tk.col]),some (.agg #[dY R.rb 0]),none,none,none,none]);have dL:=ak hJx;clear hJx;go_cut [3] (fun s3 wx=>∃b:Nat,s3=.pointer (some ⟨b,0,none⟩)∧bC R wx (oz R.l i) d∧w1.heap.size≤b∧wx.heap[b]?=some (.cells #[aY (rE R.l i),au,au,ah tk.line,ah tk.col] 170 (0,0))∧Step (·=R.rb) w1 wx);case first=>
  refine bH kr Jx 8 rfl kr kr kr kr ?h0 ?hs ?hdone;case h0=>rw[dL.o];exact AJ.zero (bJ.drew) H1.o
  case hs=>
   refine⟨?_,?_,?_,?_,?_,?_,?_,?_,trivial⟩
   all_goals (intro L V X a ev dn hdf hL ax hJ;rw[dL.o]at hJ)
   ·have o1:=dn 1 rfl;change a.tmps[1]?.getD undef=.pointer (some ⟨w.heap.size,0,none⟩)at o1;go_simp;exact⟨_,rfl,by rw[dL.o];exact hJ.up 0 rfl dc dc dc dc⟩
   ·have e5:=(ev 0 5 rfl (ax 0 rfl)).trans (hJ.gZ 0 _ rfl (ax 0 rfl));have p0:=Wi.o X hJ.st;go_simp;exact⟨_,rfl,by rw[dL.o];exact hJ.up 1 rfl dc dc dc dc⟩
   ·have e6:=(ev 1 6 rfl (ax 1 rfl)).trans (hJ.gZ 1 _ rfl (ax 1 rfl));have h4:L 4=false:=by
     cases e:L 4 with
     |false=>rfl
     |true=>exact absurd (hJ.qc e) (by rw[hL];decide)
    obtain⟨i9,y1,y2⟩:=hJ.rd;rw[h4]at y2;have y3:i9=i:=y2;subst y3;go_simp;refine(at_at R X i9 d tk y1 HT.o).mono ?_;rintro e wq ⟨rfl,hs⟩;exact⟨_,rfl,by rw[dL.o];exact(hJ.move hs).up 2 rfl dc dc dc dc⟩
   ·have o1:=dn 1 rfl;change a.tmps[1]?.getD undef=.pointer (some ⟨w.heap.size,0,none⟩)at o1;have p0:=Wi.o X hJ.st;go_simp;exact⟨_,rfl,by rw[dL.o];exact hJ.up 3 rfl dc dc dc dc⟩
   ·have e8:=(ev 3 8 rfl (ax 3 rfl)).trans (hJ.gZ 3 _ rfl (ax 3 rfl));obtain⟨i9,y1,y2⟩:=hJ.rd;rw[hL]at y2;have y3:i9=i:=y2;subst y3;go_simp;refine(S9 R HL.o X i9 d y1).mono ?_;rintro e wq ⟨⟨v,rfl,rfl⟩,hr,hs⟩;exact⟨_,rfl,by rw[dL.o];exact hJ.call dc om hL (ax 2 rfl) rfl hs hr rfl⟩
   ·have e7:=(ev 2 7 rfl (ax 2 rfl)).trans (hJ.gZ 2 _ rfl (ax 2 rfl));obtain⟨s9,k9,y1,y2⟩:=hJ.vc (ax 4 rfl);have e9:=(ev 4 9 rfl (ax 4 rfl)).trans y2;go_simp;exact⟨_,rfl,by rw[dL.o];exact hJ.build dc (ax 4 rfl) hL rfl y2⟩
   ·go_simp;exact⟨_,rfl,by rw[dL.o];exact hJ.alloc dc hL rfl⟩
   ·obtain⟨b9,y1,y2,y3,-⟩:=hJ.vl (ax 6 rfl);obtain⟨s9,k9,y4,y5⟩:=hJ.vb (ax 5 rfl);have e3:=(ev 6 3 rfl (ax 6 rfl)).trans y1;have e10:=(ev 5 10 rfl (ax 5 rfl)).trans y5;refine dM 170 (.tmp 3) (.tmp 10) rfl b9 0 170 _ [.string s9,.slice none 0 0,.slice none 0 0,.int .i64 tk.line,.int .i64 tk.col] (by rw[bF];exact e3) (by rw[bF];exact e10) (y3 hL) Tryz.kJ (Nat.le_of_eq rfl) (aP rfl) ?_;intro w9 gu hs9;exact⟨undef,rfl,by rw[dL.o];exact hJ.put dc om (ax 5 rfl) (ax 6 rfl) (fun u hu=>by cases hu) y4 y1 hs9 gu undef⟩
  case hdone=>intro L V X hall hJ;rw[dL.o]at hJ;obtain⟨s9,k9,b9,h1,h2,h3,h4,h5,h6⟩:=hJ.done (hall 4 dc) (hall 6 dc) (hall 7 dc);cases h1;have HD3:=ak h3;have HD5:=ak h5;have HD6:=ak h6;rw[show List.range 8=[0,1,2,3,4,5,6,7] from rfl];simp only[kC,fU,List.getElem?_toArray,List.getElem?_cons_zero,List.getElem?_cons_succ,Option.bind_some,Act.put,List.setIfInBounds_toArray,List.set_cons_zero,List.set_cons_succ,h2];clear hJ hall h2 h3 h5 h6;go_wp2_with fail;go_meet;case rel=>exact⟨b9,rfl,HD3.o,h4,HD5.o,HD6.o⟩
 case rest=>
  obtain⟨b,rfl,hr1,hb1,hblk,hs1⟩:=hcut;obtain⟨v0,rfl⟩:=aU wc;have HR1:=ak hr1;have HB1:=ak hblk;have ZF:=ak hs1;have hbv:=aI hblk;have hsz1:=cZ.o.size;have hrb:R.rb<b:=by omega
  clear hr1 hblk hs1;obtain⟨on,hon⟩:=aU (rE R.l i);obtain⟨oi,hoi⟩:=aU (oz R.l i);rw[←hon]at HB1 HRR HOZ;rw[←hoi]at HR1 HRR;obtain⟨pl,hpl⟩:=aU (on.size==0);have ZG:=ak hpl;clear hon hoi hpl;go_upto_region 2 with fail
  go_cut [4] (fun s4 wx=>s4=.bool pl∧v0=wx);case first=>
   have q0:=aj HB1.o 0 _ rfl;by_cases hz:on.size=0
   ·(have hpl:pl=true:=by rw[ZG.o,hz];rfl);(have hon:on=⟨#[]⟩:=by obtain⟨a⟩:=on;have h2:a.size=0:=hz;rw[Array.eq_empty_of_size_eq_zero h2]);rw[hon]at q0;go_wp2_with fail;go_meet;case rel=>exact⟨by rw[hpl],rfl⟩
   ·(have hpl:pl=false:=by rw[ZG.o];simpa using hz);have he:=kG on om;have he':=ku on om;go_wp2_with fail;go_meet;case rel=>exact⟨by rw[hpl],rfl⟩
  case rest=>
   obtain⟨rfl,hwx⟩:=hcut;subst hwx;(go_upto_if 14 with fail);go_cut [] (fun wx=>∃(nm:ByteArray) (jn:Nat),r=((aH R.l jn [58]).bind fun _ j=>(gq f R.l j pl [] []).bind fun q j=>.ok ⟨nm,q.1,q.2,tk.line,tk.col⟩ j)∧nm.size≤9223372036854775807∧bC R wx jn d∧wx.heap[b]?=some (.cells #[aY nm,au,au,ah tk.line,ah tk.col] 170 (0,0))∧Step (fun q=>q=R.rb∨q=b) v0 wx);case first=>
    cases pl with
    |false=>(have hz:¬on.size=0:=by simpa using ZG.o.symm);(have wX:Hid (r=((aH R.l oi [58]).bind fun _ j=>(gq f R.l j false [] []).bind fun q j=>.ok ⟨on,q.1,q.2,tk.line,tk.col⟩ j)):=by show _=_;rw[HRR.o,if_neg hz];rfl);go_wp2_with fail;go_meet;case rel=>exact⟨on,oi,wX.o,HOZ.o,HR1.o,HB1.o,Step.refl _ _⟩
    |true=>
     (have hz:on.size=0:=by simpa using ZG.o.symm);(have wX:Hid (r=((aS R.l oi).bind fun n j=>.ok (n,true) j).bind fun p j=>(aH R.l j [58]).bind fun _ j=>(gq f R.l j p.2 [] []).bind fun q j=>.ok ⟨p.1,q.1,q.2,tk.line,tk.col⟩ j):=by show _=_;rw[HRR.o,if_pos hz]);have p0:=Wi.o v0 ZF.o;go_wp2_with fail;refine(name_any R HL.o _ oi d HR1.o).mono ?_;rintro e w7 hp;have hp2:aJ R d EC (aS R.l oi) _ e w7:=hp;cases hn:aS R.l oi with
     |out=>exact(iF hn).elim
     |err c ln col=>rw[hn]at hp2;obtain⟨rfl,hs⟩:=hp2;exact⟨rfl,aJ.aX (c:=c) (ln:=ln) (col:=col) (by rw[wX.o,hn];rfl) rfl (((cZ.o.mono fe).trans ZF.o).trans hs)⟩
     |ok nm j=>have HN:=ak hn;have OJ:=ak (fC HL.o HR1.o.lt hn);rw[hn]at hp2;obtain⟨⟨v,rfl,rfl⟩,hr,hs⟩:=hp2;have HR7:=ak hr;have U1:=ak hs;have IA:=ak (hs.keep HB1.o om);(have rM:Hid (r=((aH R.l j [58]).bind fun _ j=>(gq f R.l j true [] []).bind fun q j=>.ok ⟨nm,q.1,q.2,tk.line,tk.col⟩ j)):=by show _=_;rw[wX.o,HN.o];rfl);clear hn hr hs hp p0;have mQ:=aj IA.o 0 _ rfl;have mV:=aG IA.o 0;have La:Hid (Step (·=b) w7 (w7.setCell ⟨b,0,none⟩ (.string nm))):=(Step.refl (·=b) _).setCell _ _ iI;have J9:Hid ((w7.setCell ⟨b,0,none⟩ (.string nm)).heap[b]?=some (.cells #[aY nm,au,au,ah tk.line,ah tk.col] 170 (0,0))):=aV IA.o 0 (.string nm);go_wp2_with fail;go_meet;case rel=>exact⟨nm,j,rM.o,OJ.o,HR7.o.step La.o oiQ,J9.o,(U1.o.mono il).trans (La.o.mono ir)⟩
   case rest=>
    obtain⟨nm,jn,hrn,hnz,hr2,hblk2,hs2⟩:=hcut;obtain⟨v1,rfl⟩:=aU wc;have vG:=ak hrn;have Rx:=ak hnz;have pG:=ak hs2;have hbw:b<v1.heap.size:=aI hblk2;have hszv:=hs2.size;have rU:Hid (N2 9 (fun va vb=>.cells #[aY nm,va,vb,ah tk.line,ah tk.col] 170 (0,0)) R v1 b d v1 jn [] [] (.slice none 0 0) (.slice none 0 0)):=⟨hr2,hblk2,World.ownsRow_nil _ _ _ _,World.ownsRow_nil _ _ _ _,nJ,nJ,nJ,by simp,Step.refl _ _⟩;clear hrn hnz hr2 hblk2 hs2;(have HBV:Hid (∀X:World,Step (fun q=>q=R.rb∨q=b) v1 X→Step (·=R.rb) w1 X):=by show∀X,_;intro X hX;exact(ZF.o.then pG.o oiQ).then hX oiQ);(have f_:Hid (∀X:World,Step (fun q=>q=R.rb∨q=b) v1 X→Step (·=R.rb) w X):=by show∀X,_;intro X hX;exact(cZ.o.mono fe).trans (HBV.o X hX));(have bY:Hid (∀X:World,Step (fun q=>q=R.rb∨q=b) v1 X→X.cell? ⟨w.heap.size,0,none⟩=some (.pointer (some ⟨R.rb,0,none⟩))):=by show∀X,_;intro X hX;exact Wi.o X (HBV.o X hX));(have qL:Hid (∀X:World,Step (fun q=>q=R.rb∨q=b) v1 X→X.heap[w.heap.size+1]?=some (.cells #[bP,au,au,ah 0,ah 0] 170 (0,0))):=by show∀X,_;intro X hX;exact(HBV.o X hX).keep jW.o om);have p0:=bY.o v1 bJ;go_wp2_with fail;refine(dH R HL.o v1.heap.size ⟨#[58]⟩ _ jn d (rU.o.rd.quiet (bJ.alloc _)) dc (aj (aA _ _) 0 _ rfl)).mono ?_;rintro e w2 hp;have hp2:aJ R d iC (aH R.l jn [58]) _ e w2:=hp;cases hn:aH R.l jn [58]with
    |out=>exact(dw hn).elim
    |err c ln col=>rw[hn]at hp2;obtain⟨rfl,sb⟩:=hp2;exact⟨rfl,aJ.aX (c:=c) (ln:=ln) (col:=col) (by rw[vG.o,hn];rfl) rfl (f_.o _ (rU.o.err (((Step.refl (·=R.rb) _).alloc _).trans sb)))⟩
    |ok u2 jy=>
     have Ry:=ak hn;rw[hn]at hp2;obtain⟨⟨v,rfl,rfl⟩,tX,sb⟩:=hp2;have ou:=ak (rU.o.read hrb om tX (((Step.refl (·=R.rb) _).alloc _).trans sb));(have ng:Hid (r=((gq f R.l jy pl [] []).bind fun q j=>.ok ⟨nm,q.1,q.2,tk.line,tk.col⟩ j)):=by show _=_;rw[vG.o,Ry.o];rfl);clear hn tX sb p0 hp;go_wp2_with fail;go_loopg [] f (fun gg wr=>gg≤f∧∃(i':Nat) (ts ls:List ByteArray) (vt vl:Value),r=((gq gg R.l i' pl ts ls).bind fun q j=>.ok ⟨nm,q.1,q.2,tk.line,tk.col⟩ j)∧N2 9 (fun va vb=>.cells #[aY nm,va,vb,ah tk.line,ah tk.col] 170 (0,0)) R v1 b d wr i' ts ls vt vl);case atStart=>exact⟨Nat.le_refl _,jy,[],[],_,_,ng.o,ou.o⟩
     case round=>
      obtain⟨hgf,i',ts,ls,vt,vl,hrq,hst⟩:=hrel;obtain⟨gn,rfl⟩:∃gn,gk=gn+1:=by
       cases gk with
       |zero=>exact absurd hrq (by rw[gq];exact eH.o)
       |succ gn=>exact⟨gn,rfl⟩
      (have sS:Hid (r=((d_ (ls.length+ts.length) 8 R.l i').bind fun _ i=>(if pl=true∧ls.length=0∧(tokA R.l i).kind≠2 then(aS R.l i).bind fun x j=>.ok (ts++[x],ls) j else(jA R.l i).bind fun x j=>.ok (ts,ls++[x]) j).bind fun q j=>if bD R.l j [43]then gq gn R.l (j+1) pl q.1 q.2 else .ok q j).bind fun q j=>.ok ⟨nm,q.1,q.2,tk.line,tk.col⟩ j):=by show _=_;rw[hrq,gq]);obtain⟨oa,oc,rfl⟩:=a_ hst.oa;obtain⟨pa,pc,rfl⟩:=a_ hst.ob;have HST:=ak hst;have p0:=bY.o wr hst.st;have q1:=aj hst.blk 1 _ rfl;have q2:=aj hst.blk 2 _ rfl;have hfew:=hst.few;(have R1:IntKind.i64.wrap ((ls.length:Int)+(ts.length:Int))=((ls.length+ts.length:Nat):Int):=by rw[show((ls.length:Int)+(ts.length:Int))=((ls.length+ts.length:Nat):Int) by omega];exact IntWalk.i64_in _ om);clear hrq hst;go_wp2_with fail;clear R1;refine(lS R wr (ls.length+ts.length) 8 i' d HST.o.rd).mono ?_;rintro e w3 hp;cases hn:d_ (ls.length+ts.length) 8 R.l i' with
      |out=>exact(kH hn).elim
      |err c ln col=>rw[hn]at hp;obtain⟨rfl,s3⟩:=hp;exact⟨rfl,aJ.aX (c:=c) (ln:=ln) (col:=col) (by rw[sS.o,hn];rfl) rfl (f_.o _ (HST.o.err s3))⟩
      |ok u j=>
       have hji:j=i'∧ls.length+ts.length<8:=by
        unfold d_ at hn;split at hn
        ·cases hn
        ·cases hn;exact⟨rfl,by omega⟩
       obtain⟨rfl,GH⟩:=hji;have HN:=ak hn;rw[hn]at hp;obtain⟨⟨v,rfl,rfl⟩,hr3,s3⟩:=hp;have fJ:=ak (HST.o.read hrb om hr3 s3);obtain⟨tj,htj⟩:=aU (tokA R.l j);(have kU:Hid (r=((if pl=true∧ls.length=0∧tj.kind≠2 then(aS R.l j).bind fun x j=>.ok (ts++[x],ls) j else(jA R.l j).bind fun x j=>.ok (ts,ls++[x]) j).bind fun q j=>if bD R.l j [43]then gq gn R.l (j+1) pl q.1 q.2 else .ok q j).bind fun q j=>.ok ⟨nm,q.1,q.2,tk.line,tk.col⟩ j):=by show _=_;rw[sS.o,HN.o,htj];rfl);clear hn hr3 s3 p0 q1 q2;(have J7:Hid (R.l[j]?=some tj):=by show _=_;rw[htj];exact fJ.o.rd.tok);obtain⟨cb,hcb⟩:=aU (pl&&ls.length==0&&tj.kind !=2);have Ah:=ak hcb;(have hfd0:∀(a0 a1 a2 a3 a4:Value) (w:World),(Instr.field 157 (.agg #[a0,a1,a2,a3,a4]) 0).run Tryz.prog w=.ok a0 w:=fun _ _ _ _ _ _=>by kernel_rfl);clear htj hcb;(go_upto_region 7 with fail);go_cut [45] (fun s45 wx=>s45=.bool cb∧Step (fun _=>False) w3 wx);case first=>
        have p0:=bY.o w3 fJ.o.st;have q2:=aj fJ.o.blk 2 _ rfl;obtain⟨b0,hb0⟩:∃b0,((ls.length:Int)==0)=b0:=⟨_,rfl⟩;have HB0:Hid ((ls.length==0)=b0):=(jS ls.length 0 0 rfl).symm.trans hb0;cases pl with
        |false=>(have HC2:Hid (cb=false):=by show _=_;rw[Ah.o];rfl);go_wp2_with fail;go_meet;case rel=>exact⟨by rw[HC2.o],Step.refl _ _⟩
        |true=>
         cases b0 with
         |false=>(have HC2:Hid (cb=false):=by show _=_;rw[Ah.o,HB0.o];rfl);go_wp2_with fail;go_meet;case rel=>exact⟨by rw[HC2.o],Step.refl _ _⟩
         |true=>obtain⟨b2,hb2⟩:∃b2,((tj.kind:Int) !=2)=b2:=⟨_,rfl⟩;(have HC2:Hid (cb=b2):=by show _=_;rw[Ah.o,HB0.o,←hb2,bne,bne,jS tj.kind 2 2 rfl];rfl);go_wp2_with fail;refine(kP R _ j d tj fJ.o.rd J7.o).mono ?_;rintro e w4 ⟨rfl,h4⟩;have iP:=ak h4;clear h4 p0;go_wp2_with fail;go_meet;case rel=>exact⟨by rw[HC2.o],iP.o⟩
       case rest=>
        obtain⟨rfl,hs4⟩:=hcut;obtain⟨w6,rfl⟩:=aU wc;have nU:=ak (fJ.o.quiet hs4);clear hs4;(go_upto_if 45 with fail);go_cut [] (fun wx=>∃(jn:Nat) (la lb:List ByteArray) (va vb:Value),r=((if bD R.l jn [43]then gq gn R.l (jn+1) pl la lb else .ok (la,lb) jn).bind fun q j=>.ok ⟨nm,q.1,q.2,tk.line,tk.col⟩ j)∧N2 9 (fun va vb=>.cells #[aY nm,va,vb,ah tk.line,ah tk.col] 170 (0,0)) R v1 b d wx jn la lb va vb);case first=>
         cases cb with
         |true=>
          (have hc:pl=true∧ls.length=0∧tj.kind≠2:=by have h9:=Ah.o.symm;simp at h9;exact⟨h9.1.1,by rw[h9.1.2];rfl,h9.2⟩);(have uN:Hid (r=(((aS R.l j).bind fun x j=>.ok (ts++[x],ls) j).bind fun q j=>if bD R.l j [43]then gq gn R.l (j+1) pl q.1 q.2 else .ok q j).bind fun q j=>.ok ⟨nm,q.1,q.2,tk.line,tk.col⟩ j):=by show _=_;rw[kU.o,if_pos hc]);clear hc;have p0:=bY.o w6 nU.o.st;(go_upto_region 8 with fail);obtain⟨r1,hr1⟩:=aU (aS R.l j);have HR1:=ak hr1;(have vG:Hid (r1≠.out):=by show _≠_;rw[hr1];exact fun e=>iF e);(have ng:Hid (r=((r1.bind fun x j=>.ok (ts++[x],ls) j).bind fun q j=>if bD R.l j [43]then gq gn R.l (j+1) pl q.1 q.2 else .ok q j).bind fun q j=>.ok ⟨nm,q.1,q.2,tk.line,tk.col⟩ j):=by show _=_;rw[uN.o,hr1]);have t_:Hid (X6 R b w6 v1.heap.size (.slice oa ts.length oc) 1 4 5 6 8):=⟨by decide,by decide,hrb,hbw,nU.o.st.size,fun q hq=>nU.o.oa.lt q hq⟩;have IB:Hid (∀X:World,Step (fun q=>q=R.rb∨q=b∨(Value.slice oa ts.length oc).ownBlock=some q) w6 X→X.cell? ⟨w.heap.size,0,none⟩=some (.pointer (some ⟨R.rb,0,none⟩))):=by
           show∀X,_;intro X hX;refine hX.cell (bY.o w6 nU.o.st) (fun e=> ?_);have e2:w.heap.size=R.rb∨w.heap.size=b∨(Value.slice oa ts.length oc).ownBlock=some w.heap.size:=e;rcases e2 with e2|e2|e2
           ·omega
           ·omega
           ·have:=(t_.o.own _ e2).1;omega
          obtain⟨Jx,hJx⟩:=aU (NJ R j d b w6 (fun v=>.cells #[aY nm,v,.slice pa ls.length pc,ah tk.line,ah tk.col] 170 (0,0)) v1.heap.size 9 (.slice oa ts.length oc) ts.length (ts.map .string) r1 1 4 5 6 8 [some (.pointer (some ⟨b,1,none⟩)),some (.slice oa ts.length oc),some (.pointer (some ⟨w.heap.size,0,none⟩)),some (.pointer (some ⟨R.rb,0,none⟩)),none,none,none,some (.pointer (some ⟨b,1,none⟩)),none]);have dL:=ak hJx;(have Ls:Hid (∀V,Jx (fun _=>false) V w6.drew):=by show∀V,_;intro V;rw[hJx];exact NJ.zero (bJ.drew) nU.o.rd nU.o.oa nU.o.blk);have U2:Hid (∀X:World,Step (fun q=>q=R.rb∨q=b∨(Value.slice oa ts.length oc).ownBlock=some q) w6 X→Step (fun q=>q=R.rb∨q=b) v1 X):=by
           show∀X,_;intro X hX;refine nU.o.st.then hX (fun q hq e=> ?_);rcases e with e|e|e
           ·exact .inl e
           ·exact .inr e
           ·have:=(t_.o.own _ e).1;omega
          clear hr1 hJx p0;refine bH kr Jx 9 rfl kr kr kr kr ?h0 ?hs ?hdone;case h0=>exact Ls.o _
          case hs=>
           refine⟨?_,?_,?_,?_,?_,?_,?_,?_,?_,trivial⟩
           all_goals (intro L V X a ev dn hdf hL ax hJ;rw[dL.o]at hJ)
           ·have o3:=dn 3 rfl;change a.tmps[3]?.getD undef=.pointer (some ⟨b,0,none⟩)at o3;go_simp;exact⟨_,rfl,by rw[dL.o];exact hJ.up 0 rfl dc dc dc dc⟩
           ·have e46:=(ev 0 46 rfl (ax 0 rfl)).trans (hJ.gZ 0 _ rfl (ax 0 rfl));have hA:L 6=false:=by
             cases e:L 6 with
             |false=>rfl
             |true=>rw[hJ.ql e]at hL;cases hL
            have hb:=hJ.blk;rw[hJ.Gz hA]at hb;have q1:X.cell? ⟨b,1,none⟩=some (.slice oa ts.length oc):=aj hb 1 _ rfl;go_simp;exact⟨_,rfl,by rw[dL.o];exact hJ.up 1 rfl dc dc dc dc⟩
           ·have o1:=dn 1 rfl;change a.tmps[1]?.getD undef=.pointer (some ⟨w.heap.size,0,none⟩)at o1;go_simp;exact⟨_,rfl,by rw[dL.o];exact hJ.up 2 rfl dc dc dc dc⟩
           ·have e48:=(ev 2 48 rfl (ax 2 rfl)).trans (hJ.gZ 2 _ rfl (ax 2 rfl));have p0:=IB.o X hJ.st;go_simp;exact⟨_,rfl,by rw[dL.o];exact hJ.up 3 rfl dc dc dc dc⟩
           ·have e49:=(ev 3 49 rfl (ax 3 rfl)).trans (hJ.gZ 3 _ rfl (ax 3 rfl));obtain⟨i9,y1,y2⟩:=hJ.rd;rw[hL]at y2;have y3:i9=j:=y2;subst y3;go_simp;refine(name_any R HL.o X i9 d y1).mono ?_;intro e wq hp;rw[←HR1.o]at hp;cases hx:r1 with
            |out=>exact absurd hx vG.o
            |err cc ln col=>rw[hx]at hp;obtain⟨rfl,hs⟩:=hp;exact⟨hdf,aJ.aX (c:=cc) (ln:=ln) (col:=col) (by rw[ng.o,hx];rfl) rfl (f_.o _ ((U2.o X hJ.st).trans (hs.mono il)))⟩
            |ok s9 k9=>have hx0:=hx;rw[hx]at hp;obtain⟨⟨v,rfl,rfl⟩,hr,hs⟩:=hp;exact⟨_,rfl,by rw[dL.o];exact hJ.call t_.o hL rfl hs hr hx0⟩
           ·obtain⟨s9,k9,y1,y2⟩:=hJ.vc (ax 4 rfl);have e50:=(ev 4 50 rfl (ax 4 rfl)).trans y2;go_simp;exact⟨_,rfl,by rw[dL.o];exact hJ.build t_.o hL (ax 4 rfl) rfl y2⟩
           ·have e47:=(ev 1 47 rfl (ax 1 rfl)).trans (hJ.gZ 1 _ rfl (ax 1 rfl));have e51:=ev 5 51 rfl (ax 5 rfl);obtain⟨s9,k9,g9,y1,y2,y3,y4⟩:=hJ.vb (ax 5 rfl) hL;have hon:=hJ.own hL;have hwz:=Nat.le_trans t_.o.bw hJ.st.size;have hfw:=nU.o.few;refine fF _ (g9+1) (.tmp 47) (.tmp 51) 40 rfl v1.heap.size 9 i0 (.string ⟨#[]⟩) 1 16 Tryz.underlying40 HI.o HZ0.o HZ1.o HZ2.o rfl dc (.slice oa ts.length oc) ts.length (ts.map .string) (by rw[bF];exact e47) hon (V 5) 1 [.string s9] (by rw[bF];exact e51) (by rw[y2];exact Row.new y4 dc) rfl (aP rfl) (by unfold maxLen;omega) om hwz ?_;intro v8 w8 oU lJ Aa;exact⟨v8,rfl,by rw[dL.o];exact hJ.app t_.o hL (ax 5 rfl) (ax 1 rfl) rfl y1 oU lJ Aa⟩
           ·have o3:=dn 3 rfl;change a.tmps[3]?.getD undef=.pointer (some ⟨b,0,none⟩)at o3;go_simp;exact⟨_,rfl,by rw[dL.o];exact hJ.up 7 rfl dc dc dc dc⟩
           ·have e53:=(ev 7 53 rfl (ax 7 rfl)).trans (hJ.gZ 7 _ rfl (ax 7 rfl));obtain⟨s9,k9,y1,y2,y3⟩:=hJ.va (ax 6 rfl);obtain⟨a9,c9,hV⟩:=a_ y2;have e52:=(ev 6 52 rfl (ax 6 rfl)).trans hV;have hb:=hJ.blk;rw[hL]at hb;have gV:∃v,X.cell? ⟨b,1,none⟩=some v:=⟨_,aj hb 1 _ rfl⟩;obtain⟨vc,FO⟩:=gV;have hfz:X.frozen? ⟨b,1,none⟩=false:=aG hb 1;go_simp;exact⟨undef,by rw[dL.o];exact hJ.put t_.o (ax 6 rfl) (fun u hu=>by cases hu) (bJ.setCell _ _ iI) (by rw[←hV];exact aV hb 1 (V 6)) undef⟩
          case hdone=>intro L V X hall hJ;rw[dL.o]at hJ;obtain⟨s9,k9,v9,h1,h2,h3,h4,h5,h6⟩:=hJ.done (hall 4 dc) (hall 6 dc) (hall 8 dc);(have EU:aS R.l j=.ok s9 k9:=by rw[←HR1.o];exact h1);have hsz:=fC HL.o nU.o.rd.lt EU;rw[show List.range 9=[0,1,2,3,4,5,6,7,8] from rfl];simp only[kC,fU,List.getElem?_toArray,List.getElem?_cons_zero,List.getElem?_cons_succ,Option.bind_some,Act.put,List.setIfInBounds_toArray,List.set_cons_zero,List.set_cons_succ];(have Ef:Hid (r=((if bD R.l k9 [43]then gq gn R.l (k9+1) pl (ts++[s9]) ls else .ok ((ts++[s9]),ls) k9).bind fun q j=>.ok ⟨nm,q.1,q.2,tk.line,tk.col⟩ j)):=by show _=_;rw[uN.o,EU];rfl);have kK:Hid (N2 9 (fun va vb=>.cells #[aY nm,va,vb,ah tk.line,ah tk.col] 170 (0,0)) R v1 b d X k9 (ts++[s9]) ls v9 (.slice pa ls.length pc)):=nU.o.Nh hrb hbw h2 h3 h4 h5 h6 hsz om;clear hJ hall h1 h2 h3 h4 h5 h6 EU hsz;go_wp2_with fail;go_meet;case rel=>exact⟨k9,_,_,_,_,Ef.o,kK.o⟩
         |false=>
          (have hc:¬(pl=true∧ls.length=0∧tj.kind≠2):=by intro hc;have h9:=Ah.o;rw[hc.1,hc.2.1]at h9;simp at h9;exact hc.2.2 h9);(have uN:Hid (r=(((jA R.l j).bind fun x j=>.ok (ts,ls++[x]) j).bind fun q j=>if bD R.l j [43]then gq gn R.l (j+1) pl q.1 q.2 else .ok q j).bind fun q j=>.ok ⟨nm,q.1,q.2,tk.line,tk.col⟩ j):=by show _=_;rw[kU.o,if_neg hc]);clear hc;have p0:=bY.o w6 nU.o.st;(go_upto_region 9 with fail);obtain⟨r1,hr1⟩:=aU (jA R.l j);have HR1:=ak hr1;(have vG:Hid (r1≠.out):=by show _≠_;rw[hr1];exact fun e=>zV e);(have ng:Hid (r=((r1.bind fun x j=>.ok (ts,ls++[x]) j).bind fun q j=>if bD R.l j [43]then gq gn R.l (j+1) pl q.1 q.2 else .ok q j).bind fun q j=>.ok ⟨nm,q.1,q.2,tk.line,tk.col⟩ j):=by show _=_;rw[uN.o,hr1]);have t_:Hid (X6 R b w6 v1.heap.size (.slice pa ls.length pc) 1 3 4 5 7):=⟨by decide,by decide,hrb,hbw,nU.o.st.size,fun q hq=>nU.o.ob.lt q hq⟩;have IB:Hid (∀X:World,Step (fun q=>q=R.rb∨q=b∨(Value.slice pa ls.length pc).ownBlock=some q) w6 X→X.cell? ⟨w.heap.size,0,none⟩=some (.pointer (some ⟨R.rb,0,none⟩))):=by
           show∀X,_;intro X hX;refine hX.cell (bY.o w6 nU.o.st) (fun e=> ?_);have e2:w.heap.size=R.rb∨w.heap.size=b∨(Value.slice pa ls.length pc).ownBlock=some w.heap.size:=e;rcases e2 with e2|e2|e2
           ·omega
           ·omega
           ·have:=(t_.o.own _ e2).1;omega
          obtain⟨Jx,hJx⟩:=aU (NJ R j d b w6 (fun v=>.cells #[aY nm,.slice oa ts.length oc,v,ah tk.line,ah tk.col] 170 (0,0)) v1.heap.size 9 (.slice pa ls.length pc) ls.length (ls.map .string) r1 1 3 4 5 7 [some (.pointer (some ⟨b,2,none⟩)),some (.slice pa ls.length pc),some (.agg #[dY R.rb 0]),none,none,none,some (.pointer (some ⟨b,2,none⟩)),none]);have dL:=ak hJx;(have Ls:Hid (∀V,Jx (fun _=>false) V w6.drew):=by show∀V,_;intro V;rw[hJx];exact NJ.zero (bJ.drew) nU.o.rd nU.o.ob nU.o.blk);have U2:Hid (∀X:World,Step (fun q=>q=R.rb∨q=b∨(Value.slice pa ls.length pc).ownBlock=some q) w6 X→Step (fun q=>q=R.rb∨q=b) v1 X):=by
           show∀X,_;intro X hX;refine nU.o.st.then hX (fun q hq e=> ?_);rcases e with e|e|e
           ·exact .inl e
           ·exact .inr e
           ·have:=(t_.o.own _ e).1;omega
          clear hr1 hJx p0;refine bH kr Jx 8 rfl kr kr kr kr ?h0 ?hs ?hdone;case h0=>exact Ls.o _
          case hs=>
           refine⟨?_,?_,?_,?_,?_,?_,?_,?_,trivial⟩
           all_goals (intro L V X a ev dn hdf hL ax hJ;rw[dL.o]at hJ)
           ·have o3:=dn 3 rfl;change a.tmps[3]?.getD undef=.pointer (some ⟨b,0,none⟩)at o3;go_simp;exact⟨_,rfl,by rw[dL.o];exact hJ.up 0 rfl dc dc dc dc⟩
           ·have e54:=(ev 0 54 rfl (ax 0 rfl)).trans (hJ.gZ 0 _ rfl (ax 0 rfl));have hA:L 5=false:=by
             cases e:L 5 with
             |false=>rfl
             |true=>rw[hJ.ql e]at hL;cases hL
            have hb:=hJ.blk;rw[hJ.Gz hA]at hb;have q2:X.cell? ⟨b,2,none⟩=some (.slice pa ls.length pc):=aj hb 2 _ rfl;go_simp;exact⟨_,rfl,by rw[dL.o];exact hJ.up 1 rfl dc dc dc dc⟩
           ·have o1:=dn 1 rfl;change a.tmps[1]?.getD undef=.pointer (some ⟨w.heap.size,0,none⟩)at o1;have p0:=IB.o X hJ.st;go_simp;exact⟨_,rfl,by rw[dL.o];exact hJ.up 2 rfl dc dc dc dc⟩
           ·have e56:=(ev 2 56 rfl (ax 2 rfl)).trans (hJ.gZ 2 _ rfl (ax 2 rfl));obtain⟨i9,y1,y2⟩:=hJ.rd;rw[hL]at y2;have y3:i9=j:=y2;subst y3;go_simp;refine(uZ R HL.o X i9 d y1).mono ?_;intro e wq hp;rw[←HR1.o]at hp;cases hx:r1 with
            |out=>exact absurd hx vG.o
            |err cc ln col=>rw[hx]at hp;obtain⟨rfl,hs⟩:=hp;exact⟨hdf,aJ.aX (c:=cc) (ln:=ln) (col:=col) (by rw[ng.o,hx];rfl) rfl (f_.o _ ((U2.o X hJ.st).trans (hs.mono il)))⟩
            |ok s9 k9=>have hx0:=hx;rw[hx]at hp;obtain⟨⟨v,rfl,rfl⟩,hr,hs⟩:=hp;exact⟨_,rfl,by rw[dL.o];exact hJ.call t_.o hL rfl hs hr hx0⟩
           ·obtain⟨s9,k9,y1,y2⟩:=hJ.vc (ax 3 rfl);have e57:=(ev 3 57 rfl (ax 3 rfl)).trans y2;go_simp;exact⟨_,rfl,by rw[dL.o];exact hJ.build t_.o hL (ax 3 rfl) rfl y2⟩
           ·have e55:=(ev 1 55 rfl (ax 1 rfl)).trans (hJ.gZ 1 _ rfl (ax 1 rfl));have e58:=ev 4 58 rfl (ax 4 rfl);obtain⟨s9,k9,g9,y1,y2,y3,y4⟩:=hJ.vb (ax 4 rfl) hL;have hon:=hJ.own hL;have hwz:=Nat.le_trans t_.o.bw hJ.st.size;have hfw:=nU.o.few;refine fF _ (g9+1) (.tmp 55) (.tmp 58) 40 rfl v1.heap.size 9 i0 (.string ⟨#[]⟩) 1 16 Tryz.underlying40 HI.o HZ0.o HZ1.o HZ2.o rfl dc (.slice pa ls.length pc) ls.length (ls.map .string) (by rw[bF];exact e55) hon (V 4) 1 [.string s9] (by rw[bF];exact e58) (by rw[y2];exact Row.new y4 dc) rfl (aP rfl) (by unfold maxLen;omega) om hwz ?_;intro v8 w8 oU lJ Aa;exact⟨v8,rfl,by rw[dL.o];exact hJ.app t_.o hL (ax 4 rfl) (ax 1 rfl) rfl y1 oU lJ Aa⟩
           ·have o3:=dn 3 rfl;change a.tmps[3]?.getD undef=.pointer (some ⟨b,0,none⟩)at o3;go_simp;exact⟨_,rfl,by rw[dL.o];exact hJ.up 6 rfl dc dc dc dc⟩
           ·have e60:=(ev 6 60 rfl (ax 6 rfl)).trans (hJ.gZ 6 _ rfl (ax 6 rfl));obtain⟨s9,k9,y1,y2,y3⟩:=hJ.va (ax 5 rfl);obtain⟨a9,c9,hV⟩:=a_ y2;have e59:=(ev 5 59 rfl (ax 5 rfl)).trans hV;have hb:=hJ.blk;rw[hL]at hb;have gV:∃v,X.cell? ⟨b,2,none⟩=some v:=⟨_,aj hb 2 _ rfl⟩;obtain⟨vc,FO⟩:=gV;have hfz:X.frozen? ⟨b,2,none⟩=false:=aG hb 2;go_simp;exact⟨undef,by rw[dL.o];exact hJ.put t_.o (ax 5 rfl) (fun u hu=>by cases hu) (bJ.setCell _ _ iI) (by rw[←hV];exact aV hb 2 (V 5)) undef⟩
          case hdone=>intro L V X hall hJ;rw[dL.o]at hJ;obtain⟨s9,k9,v9,h1,h2,h3,h4,h5,h6⟩:=hJ.done (hall 3 dc) (hall 5 dc) (hall 7 dc);(have EU:jA R.l j=.ok s9 k9:=by rw[←HR1.o];exact h1);have hsz:=xK HL.o nU.o.rd.lt EU;rw[show List.range 8=[0,1,2,3,4,5,6,7] from rfl];simp only[kC,fU,List.getElem?_toArray,List.getElem?_cons_zero,List.getElem?_cons_succ,Option.bind_some,Act.put,List.setIfInBounds_toArray,List.set_cons_zero,List.set_cons_succ];(have Ef:Hid (r=((if bD R.l k9 [43]then gq gn R.l (k9+1) pl ts (ls++[s9])else .ok (ts,(ls++[s9])) k9).bind fun q j=>.ok ⟨nm,q.1,q.2,tk.line,tk.col⟩ j)):=by show _=_;rw[uN.o,EU];rfl);have kK:Hid (N2 9 (fun va vb=>.cells #[aY nm,va,vb,ah tk.line,ah tk.col] 170 (0,0)) R v1 b d X k9 ts (ls++[s9]) (.slice oa ts.length oc) v9):=nU.o.pushB hrb hbw h2 h3 h4 h5 h6 hsz om;clear hJ hall h1 h2 h3 h4 h5 h6 EU hsz;go_wp2_with fail;go_meet;case rel=>exact⟨k9,_,_,_,_,Ef.o,kK.o⟩
        case rest=>
         obtain⟨jn,la,lb,va,vb,hrn,hls⟩:=hcut;obtain⟨w9,rfl⟩:=aU wc;obtain⟨a1,c1,rfl⟩:=a_ hls.oa;obtain⟨a2,c2,rfl⟩:=a_ hls.ob;have iD:=ak hls;have HRN9:=ak hrn;clear hls hrn;have p0:=bY.o w9 iD.o.st;go_wp2_with fail;cases hc:bD R.l jn [43]with
         |true=>
          have HC:=ak hc;clear hc;refine(cO R HL.o ⟨#[43]⟩ _ jn d iD.o.rd dc HC.o).mono ?_;rintro e wa ⟨rfl,hra,sa⟩;have iZ:=ak (iD.o.read hrb om hra sa);(have O9:Hid (r=((gq gn R.l (jn+1) pl la lb).bind fun q j=>.ok ⟨nm,q.1,q.2,tk.line,tk.col⟩ j)):=by show _=_;rw[HRN9.o,HC.o,if_pos rfl]);clear hra sa p0;go_wp2_with fail;go_roundg gn;case rel=>exact⟨by omega,jn+1,la,lb,_,_,O9.o,iZ.o⟩
          case measure=>omega
         |false=>
          have HC:=ak hc;clear hc;refine(dJ R HL.o ⟨#[43]⟩ _ jn d iD.o.rd dc HC.o).mono ?_;rintro e wa ⟨rfl,hra,sa⟩;have iZ:=ak (iD.o.read hrb om hra sa);(have KU:Hid (r=.ok ⟨nm,la,lb,tk.line,tk.col⟩ jn):=by show _=_;rw[HRN9.o,HC.o,if_neg dc];rfl);clear hra sa p0;have HNA:=ak iZ.o.names;(have iH:Hid (∀(jj:Nat) v,[Value.string nm,.slice a1 la.length c1,.slice a2 lb.length c2,ah tk.line,ah tk.col][jj]?=some v→wa.cell? ⟨b,0+jj,none⟩=some v):=by show∀jj v,_;intro jj v hv;rw[Nat.zero_add];exact aj iZ.o.blk jj v oJ);have dS:Hid (∀u∈[Value.string nm,.slice a1 la.length c1,.slice a2 lb.length c2,ah tk.line,ah tk.col],u.oneCell'=true):=aP rfl;have kz:=ak (qL.o wa iZ.o.st);go_wp2_with (first
           |(refine ay rfl 170 (.tmp 3) rfl b 0 rfl [Value.string nm,.slice a1 la.length c1,.slice a2 lb.length c2,ah tk.line,ah tk.col] _ iH.o Tryz.underlying170 rfl Tryz.kJ ?_)
           |(refine aC (w:=wa) rfl 170 (.tmp 2) (.tmp 65) rfl (w.heap.size+1) 0 170 _ [Value.string nm,.slice a1 la.length c1,.slice a2 lb.length c2,ah tk.line,ah tk.col] rfl rfl kz.o Tryz.kJ (Nat.le_of_eq rfl) dS.o ?_;intro wR hbR bT))
          have gK:wR.heap[w.heap.size+1]?=some (.cells [Value.string nm,.slice a1 la.length c1,.slice a2 lb.length c2,ah tk.line,ah tk.col].toArray 170 (0,0)):=hbR;refine bodyPost_ret (aW rfl _ (w.heap.size+1) 170 _ _ rfl gK Tryz.underlying170 rfl Tryz.kJ) rfl ?_;exact aJ.dK KU.o rfl ⟨_,rfl,_,_,rfl,Rx.o,bG.mono _ _ oiQ (bG.step _ _ bT oiQ HNA.o.1),bG.mono _ _ oiQ (bG.step _ _ bT oiQ HNA.o.2)⟩ (iZ.o.rd.step bT oiQ) ((f_.o _ iZ.o.st).then bT oiQ)
theorem Tryz.Pg:(Tryz.prog.info? 170).map (fun i=>(i.zero,i.size,i.bytes))=some (some (.agg #[bP,au,au,ah 0,ah 0]),5,80):=by kernel_rfl
def BdsV (n0:Nat) (w':World) (a:List Bd) (v:Value):Prop:=jF Bv w' (fun k=>n0≤k) a v
theorem Ai (f:Nat) (R:fV) (w:World) (i d:Nat) (hl:nK R.l) (h:bC R w i d) (hno:b_ f R.l i≠.out):Calls Tryz.prog 144 #[.agg #[dY R.rb 0]] w (aJ R d (BdsV w.heap.size) (b_ f R.l i) w):=by
 have HL:=ak hl;obtain⟨r,hr⟩:=aU (b_ f R.l i);have HRR:Hid (r=if bD R.l i [119,104,101,114,101]then kS f R.l (i+1) []else .ok [] i):=by show _=_;rw[hr,b_]
 rw[←hr]at hno⊢;have eH:=ak hno;obtain⟨i0,hi0,hz0,hz1,hz2⟩:=info_parts Tryz.Pg;have HI:=ak hi0;have HZ0:=ak hz0;have HZ1:=ak hz1;have HZ2:=ak hz2;obtain⟨w1,hw1⟩:=aU (w.alloc (.cells #[dY R.rb 0] 97));have cZ:Hid (Step (fun _=>False) w w1):=by show Step _ _ _;rw[hw1];exact bJ.alloc _
 have jL:Hid (w1.heap[w.heap.size]?=some (.cells #[dY R.rb 0] 97 (0,0))):=by show _=_;rw[hw1];exact aA _ _
 have HW1:=ak hw1;have H1:=ak (h.quiet cZ.o);have hn1:=aI jL.o;have pY:=aI h.blk;have hwz:R.rb<w1.heap.size:=by omega
 have bY:Hid (∀X:World,Step (·=R.rb) w1 X→X.cell? ⟨w.heap.size,0,none⟩=some (.pointer (some ⟨R.rb,0,none⟩))):=by show∀X,_;intro X hX;exact aj (hX.keep jL.o om) 0 _ rfl
 have f_:Hid (∀X:World,Step (·=R.rb) w1 X→Step (·=R.rb) w X):=by show∀X,_;intro X hX;exact(cZ.o.mono fe).trans hX
 clear hw1;have p0:=bY.o w1 bJ;clear hl h hno hr hi0 hz0 hz1 hz2;go_enter Tryz.func144,Tryz.ntmps144;go_upto_region 2 with fail
 rw[←HW1.o];go_wp2_with fail;cases hb:bD R.l i [119,104,101,114,101]with
 |false=>
  have HB:=ak hb;clear hb;refine(dJ R HL.o ⟨#[119,104,101,114,101]⟩ _ i d H1.o dc HB.o).mono ?_;rintro e w2 ⟨rfl,hr2,h2⟩;have ng:Hid (r=.ok [] i):=by show _=_;rw[HRR.o,HB.o,if_neg dc]
  have HR2:=ak hr2;have HS2:=ak h2;clear hr2 h2 p0;go_wp2_with fail;go_ret;exact aJ.dK ng.o rfl (jF.nil _ _) HR2.o (f_.o _ HS2.o)
 |true=>
  have HB:=ak hb;clear hb;refine(cO R HL.o ⟨#[119,104,101,114,101]⟩ _ i d H1.o dc HB.o).mono ?_;rintro e w2 ⟨rfl,hr2,h2⟩;have ng:Hid (r=kS f R.l (i+1) []):=by show _=_;rw[HRR.o,HB.o,if_pos rfl]
  have HR2:=ak hr2;have HS2:=ak h2;clear hr2 h2 p0;go_wp2_with fail;go_loopg [3] f (fun gg s3 wr=>gg≤f∧∃(i':Nat) (acc:List Bd) (xs:List Value),r=kS gg R.l i' acc∧y_ Bv 170 5 R w1 d wr i' acc s3 xs);case atStart=>exact⟨Nat.le_refl _,i+1,[],[],ng.o,HR2.o,World.ownsRow_nil _ _ _ _,rfl,HS2.o⟩
  case round=>
   obtain⟨hgf,i',acc,xs,hrq,hst⟩:=hrel;obtain⟨gn,rfl⟩:∃gn,gk=gn+1:=by
    cases gk with
    |zero=>exact absurd hrq (by rw[kS];exact eH.o)
    |succ gn=>exact⟨gn,rfl⟩
   (have sS:Hid (r=(d_ acc.length 16 R.l i').bind fun _ i=>(oN gn R.l i).bind fun x j=>if bD R.l j [44]then kS gn R.l (j+1) (acc++[x])else .ok (acc++[x]) j):=by show _=_;rw[hrq,kS]);obtain⟨oa,oc,rfl⟩:=a_ hst.ow;have HST:=ak hst;have p0:=bY.o wr hst.st;clear hrq hst;go_wp2_with fail;refine(lS R wr acc.length 16 i' d HST.o.rd).mono ?_;rintro e w3 hp;cases hn:d_ acc.length 16 R.l i' with
   |out=>exact(kH hn).elim
   |err c ln col=>rw[hn]at hp;obtain⟨rfl,s3⟩:=hp;exact⟨rfl,aJ.aX (c:=c) (ln:=ln) (col:=col) (by rw[sS.o,hn];rfl) rfl (f_.o _ (HST.o.st.trans s3))⟩
   |ok u j3=>
    have hji:j3=i'∧acc.length<16:=by
     unfold d_ at hn;split at hn
     ·cases hn
     ·cases hn;exact⟨rfl,by omega⟩
    obtain⟨hj3,hlt⟩:=hji;have qR:=ak hn;rw[hn]at hp;obtain⟨⟨v,rfl,rfl⟩,hr3,s3⟩:=hp;have fJ:=ak (HST.o.read gI hwz hr3 s3);have kU:=ak (sS.o.trans (pU qR.o));clear hn hr3 s3 p0 hj3;have p0:=bY.o w3 fJ.o.st;go_wp2_with fail;refine(O_ gn R w3 j3 d HL.o fJ.o.rd (fun e=>eH.o (by rw[kU.o,e];rfl))).mono ?_;rintro e wx hp;have hp2:aJ R d (BdV w3.heap.size) (oN gn R.l j3) _ e wx:=hp;cases hx:oN gn R.l j3 with
    |out=>exact absurd (by rw[kU.o,hx];rfl) eH.o
    |err c ln col=>rw[hx]at hp2;obtain⟨rfl,sq⟩:=hp2;exact⟨rfl,aJ.aX (c:=c) (ln:=ln) (col:=col) (by rw[kU.o,hx];rfl) rfl (f_.o _ (fJ.o.st.trans sq))⟩
    |ok x jx=>
     have HX:=ak hx;rw[hx]at hp2;obtain⟨⟨v,rfl,cs,rfl,hy⟩,hrx,hsx⟩:=hp2;have BB:=ak (gI.len _ _ hy);have dS:=ak (gI.one _ _ hy);have Dn:=ak (kU.o.trans (pU HX.o));obtain⟨w4,hw4⟩:=aU (wx.alloc (.cells cs.toArray 170));(have iP:Hid (Step (fun _=>False) wx w4):=by show Step _ _ _;rw[hw4];exact bJ.alloc _);have eP:=ak ((fJ.o.read gI hwz hrx hsx).quiet gI iP.o);have OH:Hid (Bv w4 (fun q=>w3.heap.size≤q) x cs):=gI.step _ _ iP.o (fun _ _ h=>h) hy;(have GN:Hid ((wx.alloc (.cells cs.toArray 170)).ownsRow w1.heap.size 170 5 (.slice oa acc.length oc) acc.length xs):=by show World.ownsRow _ _ _ _ _ _ _;rw[←hw4];exact eP.o.ow);have yU:Hid (Row (wx.alloc (.cells cs.toArray 170)) (wx.heap.size+1) (.slice (some ⟨wx.heap.size,0,none⟩) 1 1) 1 cs):=Row.new (aA _ _) dc;(have GR:Hid (w1.heap.size≤(wx.alloc (.cells cs.toArray 170)).heap.size):=by show _≤_;rw[←hw4];exact eP.o.st.size);have OI:=ak hw4;have EO:=ak hlt;(have X7:i0.size=cs.length:=by rw[BB.o];exact HZ1.o);(have hC2:(Value.agg #[bP,au,au,ah 0,ah 0]).cells.size=cs.length:=by rw[BB.o];rfl);(have X8:0<cs.length:=by rw[BB.o];decide);(have X9:cs.length≤16777216:=by rw[BB.o];decide);(have X_:cs.length=1*5:=by rw[BB.o]);have HC:=ak (And.intro X7 (And.intro hC2 (And.intro X8 (And.intro X9 X_))));clear hx hp hy hrx hsx p0 hw4 hlt X7 hC2 X8 X9 X_;go_upto_region 6 with(first
      |(refine lC rfl 47 (.tmp 15) rfl 170 i0 (.agg #[bP,au,au,ah 0,ah 0]) cs rfl Tryz.underlying47 HI.o HZ0.o HC.o.1 HC.o.2.1 HC.o.2.2.1 HC.o.2.2.2.1 ?_)
      |(refine fG _ rfl (wx.heap.size+1) (.tmp 13) (.tmp 16) 47 rfl w1.heap.size 170 i0 (.agg #[bP,au,au,ah 0,ah 0]) 5 80 Tryz.underlying47 HI.o HZ0.o HZ1.o HZ2.o rfl dc _ _ _ (by rfl) GN.o _ 1 _ (by rfl) yU.o HC.o.2.2.2.2 dS.o (by have:=EO.o;unfold maxLen;omega) (by have:=EO.o;omega) GR.o ?_;intro v9 w9 gG gm nM))
     rw[←OI.o]at gm nM;have iD:=ak (fJ.o.push gI eP.o OH.o gG gm nM hwz);clear gG gm nM;have p0:=bY.o w9 iD.o.st;go_wp2_with fail;cases hc:bD R.l jx [44]with
     |true=>
      have zh:=ak hc;clear hc;refine(cO R HL.o ⟨#[44]⟩ _ jx d iD.o.rd dc zh.o).mono ?_;rintro e w6 ⟨rfl,n_,s6⟩;have eU:=ak (iD.o.read gI hwz n_ s6);(have yR:Hid (r=kS gn R.l (jx+1) (acc++[x])):=by show _=_;rw[Dn.o,zh.o,if_pos rfl]);clear n_ s6 p0;go_wp2_with fail;go_roundg gn;case rel=>exact⟨by omega,jx+1,acc++[x],_,yR.o,eU.o⟩
      case measure=>omega
     |false=>have zh:=ak hc;clear hc;refine(dJ R HL.o ⟨#[44]⟩ _ jx d iD.o.rd dc zh.o).mono ?_;rintro e w6 ⟨rfl,n_,s6⟩;have eU:=ak (iD.o.read gI hwz n_ s6);(have yR:Hid (r=.ok (acc++[x]) jx):=by show _=_;rw[Dn.o,zh.o,if_neg dc]);clear n_ s6 p0;go_wp2_with fail;go_ret;have hsz:=cZ.o.size;exact aJ.dK yR.o rfl ⟨_,di.fA eU.o.ow (fun q hq=>by have:=(eU.o.ow.lt q hq).1;omega),lG.mono gI (fun q _ hq=>by have:=hq.1;omega) _ _ eU.o.el⟩ eU.o.rd (f_.o _ eU.o.st)
theorem Nu (f:Nat) (ih:oP f) (R:fV) (w:World) (i d:Nat) (hl:nK R.l) (h:bC R w i d) (hd:d≤40) (hno:iT f R.l i d≠.out):Calls Tryz.prog 145 #[.agg #[dY R.rb 0]] w (aJ R d (TyV w.heap.size) (iT f R.l i d) w):=by
 have HL:=ak hl;have IH:=ak ih;obtain⟨r,hr⟩:=aU (iT f R.l i d);have HRR:Hid (r=if bD R.l i [45,62]then jT f R.l (i+1) d else .ok dN i):=by show _=_;rw[hr,iT]
 rw[←hr]at hno⊢;have eH:=ak hno;have pY:=aI h.blk;obtain⟨w1,hw1⟩:=aU ((w.alloc (.cells #[dY R.rb 0] 97)).alloc (.cells #[ah 0,bP,bP,aO,au,au,ah 0,ah 0] 46));have cZ:Hid (Step (fun _=>False) w w1):=by show Step _ _ _;rw[hw1];exact(bJ.alloc _).alloc _
 have jL:Hid (w1.heap[w.heap.size]?=some (.cells #[dY R.rb 0] 97 (0,0))):=by show _=_;rw[hw1];exact aN (aA _ _)
 have jW:Hid (w1.heap[w.heap.size+1]?=some (.cells #[ah 0,bP,bP,aO,au,au,ah 0,ah 0] 46 (0,0))):=by show _=_;rw[hw1];exact dX _ _ _
 have HW1:=ak hw1;have H1:=ak (h.quiet cZ.o);have hn1:=aI jW.o;have hsz:=cZ.o.size;have bY:Hid (∀X:World,Step (·=R.rb) w1 X→X.cell? ⟨w.heap.size,0,none⟩=some (.pointer (some ⟨R.rb,0,none⟩))):=by show∀X,_;intro X hX;exact aj (hX.keep jL.o om) 0 _ rfl
 have p0:=bY.o w1 bJ;clear ih hl h hno hr hw1;go_enter Tryz.func145,Tryz.ntmps145;go_upto_region 1 with fail
 rw[←HW1.o];go_wp2_with fail;cases hb:bD R.l i [45,62]with
 |false=>
  have HB:=ak hb;clear hb;refine(dJ R HL.o ⟨#[45,62]⟩ _ i d H1.o dc HB.o).mono ?_;rintro e w2 ⟨rfl,hr2,h2⟩;have ng:Hid (r=.ok dN i):=by show _=_;rw[HRR.o,HB.o,if_neg dc]
  have HR2:=ak hr2;have HS2:=ak h2;have kz:=ak (h2.keep jW.o om);clear hr2 h2 p0
  go_wp2_with (refine aC (w:=w2) rfl 46 (.tmp 2) (.tmp 7) rfl (w.heap.size+1) 0 46 _ [.int .i64 0,.string bU,.string bU,.bool false,.slice none 0 0,.slice none 0 0,.int .i64 0,.int .i64 0] rfl rfl kz.o Tryz.fM (Nat.le_of_eq rfl) (aP rfl) ?_
               intro wR hbR bT)
  have gK:wR.heap[w.heap.size+1]?=some (.cells ([.int .i64 0,.string bU,.string bU,.bool false,.slice none 0 0,.slice none 0 0,.int .i64 0,.int .i64 0]:List Value).toArray 46 (0,0)):=hbR;refine bodyPost_ret (aW rfl _ (w.heap.size+1) 46 _ _ rfl gK Tryz.underlying46 rfl Tryz.fM) rfl ?_;exact aJ.dK ng.o rfl ⟨_,rfl,qi _ _⟩ (HR2.o.step bT oiQ) (((cZ.o.mono fe).trans HS2.o).then bT oiQ)
 |true=>
  have HB:=ak hb;clear hb;refine(cO R HL.o ⟨#[45,62]⟩ _ i d H1.o dc HB.o).mono ?_;rintro e w2 ⟨rfl,hr2,h2⟩;have ng:Hid (r=jT f R.l (i+1) d):=by show _=_;rw[HRR.o,HB.o,if_pos rfl]
  have HR2:=ak hr2;have HS2:=ak h2;clear hr2 h2 p0;have p0:=bY.o w2 HS2.o;go_wp2_with fail;refine(IH.o R _ (i+1) d HL.o HR2.o hd (fun e=>eH.o (by rw[ng.o,e]))).mono ?_;rintro e wx hp;have hp2:aJ R d (TyV w2.heap.size) (jT f R.l (i+1) d) _ e wx:=hp;cases hx:jT f R.l (i+1) d with
  |out=>exact absurd (by rw[ng.o,hx]) eH.o
  |err c ln col=>rw[hx]at hp2;obtain⟨rfl,sq⟩:=hp2;exact⟨rfl,aJ.aX (c:=c) (ln:=ln) (col:=col) (by rw[ng.o,hx]) rfl (((cZ.o.mono fe).trans HS2.o).trans sq)⟩
  |ok ty jx=>
   have HX:=ak hx;rw[hx]at hp2;obtain⟨⟨v,rfl,cs,rfl,hy⟩,hrx,hsx⟩:=hp2;obtain⟨lU,lV,lW,lX,lY,lZ,l9,ta2,l_,mg,tl1,mD,rfl⟩:=hy.parts;have HY:=ak hy;have u_:=ak hrx;have pF:=ak (HS2.o.trans hsx);have kz:=ak ((HS2.o.trans hsx).keep jW.o om);have hz2:=HS2.o.size;clear hx hp hy hrx hsx p0
   go_wp2_with (refine aC (w:=wx) rfl 46 (.tmp 2) (.tmp 9) rfl (w.heap.size+1) 0 46 _ [.int .i64 lU,.string lV,.string lW,.bool lX,.slice lY lZ l9,.slice ta2 l_ mg,.int .i64 tl1,.int .i64 mD] rfl rfl kz.o Tryz.fM (Nat.le_of_eq rfl) (aP rfl) ?_
                intro wR hbR bT)
   have gK:wR.heap[w.heap.size+1]?=some (.cells [Value.int .i64 lU,aY lV,aY lW,dV lX,.slice lY lZ l9,.slice ta2 l_ mg,ah tl1,ah mD].toArray 46 (0,0)):=hbR;refine bodyPost_ret (aW rfl _ (w.heap.size+1) 46 _ _ rfl gK Tryz.underlying46 rfl Tryz.fM) rfl ?_;exact aJ.dK (by rw[ng.o,HX.o]) rfl ⟨_,rfl,iG.mono oiQ _ _ (iG.step bT oiQ _ _ HY.o)⟩ (u_.o.step bT oiQ) (((cZ.o.mono fe).trans pF.o).then bT oiQ)
theorem Tryz.sK:(Tryz.prog.info? 167).map (·.size)=some 11:=by kernel_rfl
theorem Tryz.Ph:(Tryz.prog.info? 167).map (fun i=>(i.zero,i.size,i.bytes))=some (some (.agg #[bP,ah 0,bP,bP,aO,au,au,ah 0,ah 0,ah 0,ah 0]),11,144):=by kernel_rfl
def Wj (n0:Nat) (w':World) (a:List Pm) (v:Value):Prop:=jF EW w' (fun k=>n0≤k) a v
theorem xZ (f:Nat) (ih:∀f',f'<f→oP f') (R:fV) (w:World) (i d:Nat) (en:ByteArray) (m:Nat) (hl:nK R.l) (h:bC R w i d) (hd:d≤40) (hen:en.size≤100000) (hm:m≤1000) (hno:dA f R.l i d en.data.toList m≠.out):Calls Tryz.prog 141 #[.agg #[dY R.rb 0],.string en,.int .i64 m] w (aJ R d (Wj w.heap.size) (dA f R.l i d en.data.toList m) w):=by
 have HL:=ak hl;have IH:=ak ih;obtain⟨el,hel⟩:=aU en.data.toList;have HEL:=ak hel;have Bo:=ak hen;rw[←hel]at hno⊢;obtain⟨r,hr⟩:=aU (dA f R.l i d el m);have HRR:Hid (r=if bD R.l i el then .ok [] (i+1)else pq f R.l i d el m []):=by show _=_;rw[hr,dA]
 rw[←hr]at hno⊢;have eH:=ak hno;obtain⟨i0,hi0,hz0,hz1,hz2⟩:=info_parts Tryz.Ph;have HI:=ak hi0;have HZ0:=ak hz0;have HZ1:=ak hz1;have HZ2:=ak hz2;obtain⟨w1,hw1⟩:=aU (w.alloc (.cells #[dY R.rb 0] 97));have cZ:Hid (Step (fun _=>False) w w1):=by show Step _ _ _;rw[hw1];exact bJ.alloc _
 have jL:Hid (w1.heap[w.heap.size]?=some (.cells #[dY R.rb 0] 97 (0,0))):=by show _=_;rw[hw1];exact aA _ _
 have HW1:=ak hw1;have H1:=ak (h.quiet cZ.o);have hn1:=aI jL.o;have pY:=aI h.blk;have hwz:R.rb<w1.heap.size:=by omega
 have bY:Hid (∀X:World,Step (·=R.rb) w1 X→X.cell? ⟨w.heap.size,0,none⟩=some (.pointer (some ⟨R.rb,0,none⟩))):=by show∀X,_;intro X hX;exact aj (hX.keep jL.o om) 0 _ rfl
 have f_:Hid (∀X:World,Step (·=R.rb) w1 X→Step (·=R.rb) w X):=by show∀X,_;intro X hX;exact(cZ.o.mono fe).trans hX
 clear hw1;have p0:=bY.o w1 bJ;have HIS:Hid (∀X i,bC R X i d→bD R.l i el=true→Calls Tryz.prog 110 #[.pointer (some ⟨R.rb,0,none⟩),.string en] X fun e w'=>e=.returned (.bool true)∧bC R w' (i+1) d∧Step (·=R.rb) X w'):=by show∀X i,_;intro X i hX hb;exact cO R HL.o en X i d hX Bo.o (by rw[←HEL.o];exact hb)
 have HISN:Hid (∀X i,bC R X i d→bD R.l i el=false→Calls Tryz.prog 110 #[.pointer (some ⟨R.rb,0,none⟩),.string en] X fun e w'=>e=.returned (.bool false)∧bC R w' i d∧Step (·=R.rb) X w'):=by show∀X i,_;intro X i hX hb;exact dJ R HL.o en X i d hX Bo.o (by rw[←HEL.o];exact hb)
 have HND:Hid (∀X g i,bC R X i d→X.cell? ⟨g,0,none⟩=some (.string en)→Calls Tryz.prog 111 #[.pointer (some ⟨R.rb,0,none⟩),.slice (some ⟨g,0,none⟩) 1 1] X (aJ R d iC (aH R.l i el) X)):=by show∀X g i,_;intro X g i hX hc;rw[HEL.o];exact dH R HL.o g en X i d hX Bo.o hc
 clear ih hl h hno hr hel hen hi0 hz0 hz1 hz2;go_enter Tryz.func141,Tryz.ntmps141;go_upto_region 2 with fail
 rw[←HW1.o];go_wp2_with fail;cases hb:bD R.l i el with
 |true=>
  have HB:=ak hb;clear hb;refine(HIS.o _ i H1.o HB.o).mono ?_;rintro e w2 ⟨rfl,hr2,h2⟩;have ng:Hid (r=.ok [] (i+1)):=by show _=_;rw[HRR.o,HB.o,if_pos rfl]
  have HR2:=ak hr2;have HS2:=ak h2;clear hr2 h2 p0;go_wp2_with fail;go_ret;exact aJ.dK ng.o rfl (jF.nil _ _) HR2.o (f_.o _ HS2.o)
 |false=>
  have HB:=ak hb;clear hb;refine(HISN.o _ i H1.o HB.o).mono ?_;rintro e w2 ⟨rfl,hr2,h2⟩;have ng:Hid (r=pq f R.l i d el m []):=by show _=_;rw[HRR.o,HB.o,if_neg dc]
  have HR2:=ak hr2;have HS2:=ak h2;clear hr2 h2 p0;go_wp2_with fail;go_loopg [7] f (fun gg s7 wr=>gg≤f∧∃(i':Nat) (acc:List Pm) (xs:List Value),r=pq gg R.l i' d el m acc∧y_ EW 167 11 R w1 d wr i' acc s7 xs);case atStart=>exact⟨Nat.le_refl _,i,[],[],ng.o,HR2.o,World.ownsRow_nil _ _ _ _,rfl,HS2.o⟩
  case round=>
   obtain⟨hgf,i',acc,xs,hrq,hst⟩:=hrel;obtain⟨gn,rfl⟩:∃gn,gk=gn+1:=by
    cases gk with
    |zero=>exact absurd hrq (by rw[pq];exact eH.o)
    |succ gn=>exact⟨gn,rfl⟩
   obtain⟨tk,htk⟩:=aU (tokA R.l i');(have sS:Hid (r=(d_ acc.length m R.l i').bind fun _ i=>(aS R.l i).bind fun n j=>(aH R.l j [58]).bind fun _ j=>(jT gn R.l j d).bind fun ty j=>if bD R.l j [44]then pq gn R.l (j+1) d el m (acc++[⟨n,ty,(tokA R.l i).line,(tokA R.l i).col⟩])else(aH R.l j el).bind fun _ j=>.ok (acc++[⟨n,ty,(tokA R.l i).line,(tokA R.l i).col⟩]) j):=by show _=_;rw[hrq,pq]);obtain⟨oa,oc,rfl⟩:=a_ hst.ow;have HST:=ak hst;have p0:=bY.o wr hst.st;clear hrq hst;go_wp2_with fail;refine(lS R wr acc.length m i' d HST.o.rd).mono ?_;rintro e w3 hp;cases hn:d_ acc.length m R.l i' with
   |out=>exact(kH hn).elim
   |err c ln col=>rw[hn]at hp;obtain⟨rfl,s3⟩:=hp;exact⟨rfl,aJ.aX (c:=c) (ln:=ln) (col:=col) (by rw[sS.o,hn];rfl) rfl (f_.o _ (HST.o.st.trans s3))⟩
   |ok u j=>
    have hji:j=i'∧acc.length<m:=by
     unfold d_ at hn;split at hn
     ·cases hn
     ·cases hn;exact⟨rfl,by omega⟩
    obtain⟨rfl,hlt⟩:=hji;have qR:=ak hn;rw[hn]at hp;obtain⟨⟨v,rfl,rfl⟩,hr3,s3⟩:=hp;have fJ:=ak (HST.o.read fK hwz hr3 s3);(have kU:Hid (r=(aS R.l j).bind fun n k=>(aH R.l k [58]).bind fun _ j=>(jT gn R.l j d).bind fun ty j=>if bD R.l j [44]then pq gn R.l (j+1) d el m (acc++[⟨n,ty,tk.line,tk.col⟩])else(aH R.l j el).bind fun _ j=>.ok (acc++[⟨n,ty,tk.line,tk.col⟩]) j):=by show _=_;rw[sS.o,qR.o,htk];rfl);have HT:=ak (show R.l[j]?=some tk by rw[htk];exact fJ.o.rd.tok);have HW31:=fJ.o.st.size;clear hn hr3 s3 p0 htk;obtain⟨r1,hr1⟩:=aU (aS R.l j);have HR1:=ak hr1;(have vG:Hid (r1≠.out):=by show _≠_;rw[hr1];exact fun e=>iF e);(have FD:Hid (r=r1.bind fun n k=>(aH R.l k [58]).bind fun _ j=>(jT gn R.l j d).bind fun ty j=>if bD R.l j [44]then pq gn R.l (j+1) d el m (acc++[⟨n,ty,tk.line,tk.col⟩])else(aH R.l j el).bind fun _ j=>.ok (acc++[⟨n,ty,tk.line,tk.col⟩]) j):=by show _=_;rw[kU.o,hr1]);obtain⟨Jx,hJx⟩:=aU (AJ R j d w3 #[.string ⟨#[]⟩,.int .i64 0,.string ⟨#[]⟩,.string ⟨#[]⟩,.bool false,.slice none 0 0,.slice none 0 0,.int .i64 0,.int .i64 0,.int .i64 0,.int .i64 0] (fun s=> #[.string s,.int .i64 0,.string ⟨#[]⟩,.string ⟨#[]⟩,.bool false,.slice none 0 0,.slice none 0 0,.int .i64 0,.int .i64 0,.int .i64 tk.line,.int .i64 tk.col]) 167 r1 5 6 7 8 [some (.pointer (some ⟨w.heap.size,0,none⟩)),some (.pointer (some ⟨R.rb,0,none⟩)),some (.agg #[ah tk.line,ah tk.col]),some (.pointer (some ⟨w.heap.size,0,none⟩)),some (.pointer (some ⟨R.rb,0,none⟩)),none,none,none,none]);have dL:=ak hJx;clear hJx hr1;(go_upto_region 5 with fail);go_cut [8] (fun s8 wx=>∃(nm:ByteArray) (k b:Nat),aS R.l j=.ok nm k∧s8=.pointer (some ⟨b,0,none⟩)∧bC R wx k d∧w3.heap.size≤b∧wx.heap[b]?=some (.cells #[aY nm,ah 0,bP,bP,aO,au,au,ah 0,ah 0,ah tk.line,ah tk.col] 167 (0,0))∧Step (·=R.rb) w3 wx);case first=>
     (have wH:Hid (∀X:World,Step (·=R.rb) w3 X→X.cell? ⟨w.heap.size,0,none⟩=some (.pointer (some ⟨R.rb,0,none⟩))):=by show∀X,_;intro X hX;exact bY.o X (fJ.o.st.trans hX));refine bH kr Jx 9 rfl kr kr kr kr ?h0 ?hs ?hdone;case h0=>rw[dL.o];exact AJ.zero (bJ.drew) fJ.o.rd
     case hs=>
      refine⟨?_,?_,?_,?_,?_,?_,?_,?_,?_,trivial⟩
      all_goals (intro L V X a ev dn hdf hL ax hJ;rw[dL.o]at hJ)
      ·have o3:=dn 3 rfl;change a.tmps[3]?.getD undef=.pointer (some ⟨w.heap.size,0,none⟩)at o3;go_simp;exact⟨_,rfl,by rw[dL.o];exact hJ.up 0 rfl dc dc dc dc⟩
      ·have e19:=(ev 0 19 rfl (ax 0 rfl)).trans (hJ.gZ 0 _ rfl (ax 0 rfl));have p0:=wH.o X hJ.st;go_simp;exact⟨_,rfl,by rw[dL.o];exact hJ.up 1 rfl dc dc dc dc⟩
      ·have e20:=(ev 1 20 rfl (ax 1 rfl)).trans (hJ.gZ 1 _ rfl (ax 1 rfl));have h5:L 5=false:=by
        cases e:L 5 with
        |false=>rfl
        |true=>exact absurd (hJ.qc e) (by rw[hL];decide)
       obtain⟨i9,y1,y2⟩:=hJ.rd;rw[h5]at y2;have y3:i9=j:=y2;subst y3;go_simp;refine(at_at R X i9 d tk y1 HT.o).mono ?_;rintro e wq ⟨rfl,hs⟩;exact⟨_,rfl,by rw[dL.o];exact(hJ.move hs).up 2 rfl dc dc dc dc⟩
      ·have o3:=dn 3 rfl;change a.tmps[3]?.getD undef=.pointer (some ⟨w.heap.size,0,none⟩)at o3;go_simp;exact⟨_,rfl,by rw[dL.o];exact hJ.up 3 rfl dc dc dc dc⟩
      ·have e22:=(ev 3 22 rfl (ax 3 rfl)).trans (hJ.gZ 3 _ rfl (ax 3 rfl));have p0:=wH.o X hJ.st;go_simp;exact⟨_,rfl,by rw[dL.o];exact hJ.up 4 rfl dc dc dc dc⟩
      ·have e23:=(ev 4 23 rfl (ax 4 rfl)).trans (hJ.gZ 4 _ rfl (ax 4 rfl));obtain⟨i9,y1,y2⟩:=hJ.rd;rw[hL]at y2;have y3:i9=j:=y2;subst y3;go_simp;refine(name_any R HL.o X i9 d y1).mono ?_;intro e wq hp;rw[←HR1.o]at hp;cases hx:r1 with
       |out=>exact absurd hx vG.o
       |err cc ln col=>rw[hx]at hp;obtain⟨rfl,hs⟩:=hp;exact⟨hdf,aJ.aX (c:=cc) (ln:=ln) (col:=col) (by rw[FD.o,hx];rfl) rfl (f_.o _ ((fJ.o.st.trans hJ.st).trans hs))⟩
       |ok s9 k9=>have hx0:=hx;rw[hx]at hp;obtain⟨⟨v,rfl,rfl⟩,hr,hs⟩:=hp;exact⟨_,rfl,by rw[dL.o];exact hJ.call dc om hL (ax 2 rfl) rfl hs hr hx0⟩
      ·have e21:=(ev 2 21 rfl (ax 2 rfl)).trans (hJ.gZ 2 _ rfl (ax 2 rfl));obtain⟨s9,k9,y1,y2⟩:=hJ.vc (ax 5 rfl);have e24:=(ev 5 24 rfl (ax 5 rfl)).trans y2;go_simp;exact⟨_,rfl,by rw[dL.o];exact hJ.build dc (ax 5 rfl) hL rfl y2⟩
      ·go_simp;exact⟨_,rfl,by rw[dL.o];exact hJ.alloc dc hL rfl⟩
      ·obtain⟨b9,y1,y2,y3,-⟩:=hJ.vl (ax 7 rfl);obtain⟨s9,k9,y4,y5⟩:=hJ.vb (ax 6 rfl);have e8:=(ev 7 8 rfl (ax 7 rfl)).trans y1;have e25:=(ev 6 25 rfl (ax 6 rfl)).trans y5;refine dM 167 (.tmp 8) (.tmp 25) rfl b9 0 167 _ [.string s9,.int .i64 0,.string ⟨#[]⟩,.string ⟨#[]⟩,.bool false,.slice none 0 0,.slice none 0 0,.int .i64 0,.int .i64 0,.int .i64 tk.line,.int .i64 tk.col] (by rw[bF];exact e8) (by rw[bF];exact e25) (y3 hL) Tryz.sK (Nat.le_of_eq rfl) (aP rfl) ?_;intro w9 gu hs9;exact⟨undef,rfl,by rw[dL.o];exact hJ.put dc om (ax 6 rfl) (ax 7 rfl) (fun u hu=>by cases hu) y4 y1 hs9 gu undef⟩
     case hdone=>intro L V X hall hJ;rw[dL.o]at hJ;obtain⟨s9,k9,b9,h1,h2,h3,h4,h5,h6⟩:=hJ.done (hall 5 dc) (hall 7 dc) (hall 8 dc);(have HD1:Hid (aS R.l j=.ok s9 k9):=by show _=_;rw[←HR1.o];exact h1);have HD3:=ak h3;have HD5:=ak h5;have HD6:=ak h6;rw[show List.range 9=[0,1,2,3,4,5,6,7,8] from rfl];simp only[kC,fU,List.getElem?_toArray,List.getElem?_cons_zero,List.getElem?_cons_succ,Option.bind_some,Act.put,List.setIfInBounds_toArray,List.set_cons_zero,List.set_cons_succ,h2];clear hJ hall h1 h2 h3 h5 h6;go_wp2_with fail;go_meet;case rel=>exact⟨s9,k9,b9,HD1.o,rfl,HD3.o,h4,HD5.o,HD6.o⟩
    case rest=>
     obtain⟨nm,k,b,hnm,rfl,Jf,hb5,hblk5,hs5⟩:=hcut;obtain⟨w5,rfl⟩:=aU wc;have Dt:=ak hnm;have Rx:=ak (fC HL.o fJ.o.rd.lt hnm);have M_:=ak Jf;have zX:=ak hblk5;have oQ:=ak hs5;have Dn:=ak (kU.o.trans (pU Dt.o));clear hnm Jf hblk5 hs5;have p0:=bY.o w5 (fJ.o.st.trans oQ.o);go_wp2_with fail;refine(dH R HL.o w5.heap.size ⟨#[58]⟩ _ k d (M_.o.quiet (bJ.alloc _)) dc (aj (aA _ _) 0 _ rfl)).mono ?_;rintro e w6 hp;have hp2:aJ R d iC (aH R.l k [58]) _ e w6:=hp;cases hn:aH R.l k [58]with
     |out=>exact(dw hn).elim
     |err c ln col=>rw[hn]at hp2;obtain⟨rfl,sb⟩:=hp2;exact⟨rfl,aJ.aX (c:=c) (ln:=ln) (col:=col) (by rw[Dn.o,hn];rfl) rfl (f_.o _ ((fJ.o.st.trans oQ.o).trans (((Step.refl (·=R.rb) _).alloc _).trans sb)))⟩
     |ok u2 k6=>
      have nU:=ak hn;rw[hn]at hp2;obtain⟨⟨v,rfl,rfl⟩,n_,s6⟩:=hp2;have OL:Hid (Step (·=R.rb) w5 w6):=((Step.refl (·=R.rb) _).alloc _).trans s6;have yR:=ak n_;have FB:=ak (OL.o.keep zX.o om);have wB:=ak (oQ.o.trans OL.o);have uN:=ak (Dn.o.trans (pU nU.o));clear hn n_ s6 p0 hp;have p0:=bY.o w6 (fJ.o.st.trans wB.o);go_wp2_with fail;refine(IH.o gn om R _ k6 d HL.o yR.o hd (fun e=>eH.o (by rw[uN.o,e];rfl))).mono ?_;rintro e wx hp;have hp2:aJ R d (TyV w6.heap.size) (jT gn R.l k6 d) _ e wx:=hp;cases hx:jT gn R.l k6 d with
      |out=>exact absurd (by rw[uN.o,hx];rfl) eH.o
      |err c ln col=>rw[hx]at hp2;obtain⟨rfl,sq⟩:=hp2;exact⟨rfl,aJ.aX (c:=c) (ln:=ln) (col:=col) (by rw[uN.o,hx];rfl) rfl (f_.o _ ((fJ.o.st.trans wB.o).trans sq))⟩
      |ok ty jx=>
       have HX:=ak hx;rw[hx]at hp2;obtain⟨⟨v,rfl,cs,rfl,hy⟩,hrx,hsx⟩:=hp2;obtain⟨lU,lV,lW,lX,lY,lZ,l9,ta2,l_,mg,tl1,mD,rfl⟩:=hy.parts;have HY:=ak hy;have u_:=ak hrx;have pF:=ak (wB.o.trans hsx);have U0:=ak (hsx.keep FB.o om);have EN:=ak (uN.o.trans (pU HX.o));have hz5:=oQ.o.size;have hz6:=OL.o.size;have hzx:=hsx.size;have hbx:=aI U0.o;clear hx hp hy hrx hsx p0
       go_upto_region 8 with(refine aC (w:=wx) rfl 46 (.tmp 32) (.tmp 31) rfl b 1 167 _ [Value.int .i64 lU,aY lV,aY lW,dV lX,.slice lY lZ l9,.slice ta2 l_ mg,ah tl1,ah mD] rfl rfl U0.o Tryz.fM (show 1+8≤11 by decide) (aP rfl) ?_
                             intro w7 hb7 xQ)
       have IA:Hid (w7.heap[b]?=some (.cells #[aY nm,ah lU,aY lV,aY lW,dV lX,.slice lY lZ l9,.slice ta2 l_ mg,ah tl1,ah mD,ah tk.line,ah tk.col] 167 (0,0))):=hb7;have U1:Hid (Step (·=R.rb) w3 w7):=pF.o.then xQ oiQ;have HR7:=ak (u_.o.step xQ oiQ);have HY7:Hid (iG w7 (fun q=>w3.heap.size≤q∧q≠b) ty [Value.int .i64 lU,aY lV,aY lW,dV lX,.slice lY lZ l9,.slice ta2 l_ mg,ah tl1,ah mD]):=iG.mono (fun q _ hq=>⟨by have:=hq.1;omega,hq.2⟩) _ _ (iG.step xQ (fun q hq e=>hq.2 e) _ _ (iG.mono (P':=fun q=>w6.heap.size≤q∧q≠b) (fun q _ hq=>⟨hq,by have:=aI FB.o;omega⟩) _ _ HY.o));clear hb7 xQ;(have iH:Hid (∀(jj:Nat) v,[Value.string nm,ah lU,aY lV,aY lW,dV lX,.slice lY lZ l9,.slice ta2 l_ mg,ah tl1,ah mD,ah tk.line,ah tk.col][jj]?=some v→w7.cell? ⟨b,0+jj,none⟩=some v):=by show∀jj v,_;intro jj v hv;rw[Nat.zero_add];exact aj IA.o jj v oJ);obtain⟨w4,hw4⟩:=aU (w7.alloc (.cells [Value.string nm,ah lU,aY lV,aY lW,dV lX,.slice lY lZ l9,.slice ta2 l_ mg,ah tl1,ah mD,ah tk.line,ah tk.col].toArray 167));(have iP:Hid (Step (fun _=>False) w7 w4):=by show Step _ _ _;rw[hw4];exact bJ.alloc _);have eP:=ak ((fJ.o.read fK hwz HR7.o U1.o).quiet fK iP.o);have OH:Hid (EW w4 (fun q=>w3.heap.size≤q) ⟨nm,ty,tk.line,tk.col⟩ [Value.string nm,ah lU,aY lV,aY lW,dV lX,.slice lY lZ l9,.slice ta2 l_ mg,ah tl1,ah mD,ah tk.line,ah tk.col]):=⟨[Value.int .i64 lU,aY lV,aY lW,dV lX,.slice lY lZ l9,.slice ta2 l_ mg,ah tl1,ah mD],rfl,Rx.o,iG.mono (fun q _ hq=>hq.1) _ _ (iG.step iP.o (fun _ _ h=>h) _ _ HY7.o)⟩;(have GN:Hid ((w7.alloc (.cells [Value.string nm,ah lU,aY lV,aY lW,dV lX,.slice lY lZ l9,.slice ta2 l_ mg,ah tl1,ah mD,ah tk.line,ah tk.col].toArray 167)).ownsRow w1.heap.size 167 11 (.slice oa acc.length oc) acc.length xs):=by show World.ownsRow _ _ _ _ _ _ _;rw[←hw4];exact eP.o.ow);have yU:Hid (Row (w7.alloc (.cells [Value.string nm,ah lU,aY lV,aY lW,dV lX,.slice lY lZ l9,.slice ta2 l_ mg,ah tl1,ah mD,ah tk.line,ah tk.col].toArray 167)) (w7.heap.size+1) (.slice (some ⟨w7.heap.size,0,none⟩) 1 1) 1 [Value.string nm,ah lU,aY lV,aY lW,dV lX,.slice lY lZ l9,.slice ta2 l_ mg,ah tl1,ah mD,ah tk.line,ah tk.col]):=Row.new (aA _ _) dc;(have GR:Hid (w1.heap.size≤(w7.alloc (.cells [Value.string nm,ah lU,aY lV,aY lW,dV lX,.slice lY lZ l9,.slice ta2 l_ mg,ah tl1,ah mD,ah tk.line,ah tk.col].toArray 167)).heap.size):=by show _≤_;rw[←hw4];exact eP.o.st.size);have OI:=ak hw4;have EO:=ak hlt;have HMM:=ak hm;have dS:Hid (∀u∈[Value.string nm,ah lU,aY lV,aY lW,dV lX,.slice lY lZ l9,.slice ta2 l_ mg,ah tl1,ah mD,ah tk.line,ah tk.col],u.oneCell'=true):=aP rfl;clear hw4 hlt hm;go_upto_region 9 with(first
        |(refine ay rfl 167 (.tmp 8) rfl b 0 rfl [Value.string nm,ah lU,aY lV,aY lW,dV lX,.slice lY lZ l9,.slice ta2 l_ mg,ah tl1,ah mD,ah tk.line,ah tk.col] _ iH.o Tryz.underlying167 rfl Tryz.sK ?_)
        |(refine lC rfl 43 (.tmp 34) rfl 167 i0 (.agg #[bP,ah 0,bP,bP,aO,au,au,ah 0,ah 0,ah 0,ah 0]) [Value.string nm,ah lU,aY lV,aY lW,dV lX,.slice lY lZ l9,.slice ta2 l_ mg,ah tl1,ah mD,ah tk.line,ah tk.col] rfl Tryz.underlying43 HI.o HZ0.o HZ1.o rfl dc dc ?_)
        |(refine fG _ rfl (w7.heap.size+1) (.tmp 33) (.tmp 35) 43 rfl w1.heap.size 167 i0 (.agg #[bP,ah 0,bP,bP,aO,au,au,ah 0,ah 0,ah 0,ah 0]) 11 144 Tryz.underlying43 HI.o HZ0.o HZ1.o HZ2.o rfl dc _ _ _ (by rfl) GN.o _ 1 _ (by rfl) yU.o rfl dS.o (by have:=EO.o;have:=HMM.o;unfold maxLen;omega) (by have:=EO.o;have:=HMM.o;omega) GR.o ?_;intro v9 w9 gG gm nM))
       rw[←OI.o]at gm nM;have iD:=ak (fJ.o.push fK eP.o OH.o gG gm nM hwz);clear gG gm nM;have p0:=bY.o w9 iD.o.st;go_wp2_with fail;cases hc:bD R.l jx [44]with
       |true=>
        have zh:=ak hc;clear hc;refine(cO R HL.o ⟨#[44]⟩ _ jx d iD.o.rd dc zh.o).mono ?_;rintro e w6 ⟨rfl,n_,s6⟩;have eU:=ak (iD.o.read fK hwz n_ s6);(have Ef:Hid (r=pq gn R.l (jx+1) d el m (acc++[⟨nm,ty,tk.line,tk.col⟩])):=by show _=_;rw[EN.o,zh.o,if_pos rfl]);clear n_ s6 p0;go_wp2_with fail;go_roundg gn;case rel=>exact⟨by omega,jx+1,_,_,Ef.o,eU.o⟩
        case measure=>omega
       |false=>
        have zh:=ak hc;clear hc;refine(dJ R HL.o ⟨#[44]⟩ _ jx d iD.o.rd dc zh.o).mono ?_;rintro e wa ⟨rfl,hra,sa⟩;have iZ:=ak (iD.o.read fK hwz hra sa);(have Ef:Hid (r=(aH R.l jx el).bind fun _ j=>.ok (acc++[⟨nm,ty,tk.line,tk.col⟩]) j):=by show _=_;rw[EN.o,zh.o,if_neg dc]);clear hra sa p0;have p0:=bY.o wa iZ.o.st;go_wp2_with fail;refine(HND.o _ wa.heap.size jx (iZ.o.rd.quiet (bJ.alloc _)) (aj (aA _ _) 0 _ rfl)).mono ?_;rintro e wb hp;have hp2:aJ R d iC (aH R.l jx el) _ e wb:=hp;cases hn:aH R.l jx el with
        |out=>exact(dw hn).elim
        |err c ln col=>rw[hn]at hp2;obtain⟨rfl,sb⟩:=hp2;exact⟨rfl,aJ.aX (c:=c) (ln:=ln) (col:=col) (by rw[Ef.o,hn];rfl) rfl (f_.o _ (iZ.o.st.trans (((Step.refl (·=R.rb) _).alloc _).trans sb)))⟩
        |ok u3 jz=>have Ry:=ak hn;rw[hn]at hp2;obtain⟨⟨v,rfl,rfl⟩,tX,sb⟩:=hp2;have rJ:=ak (iZ.o.read fK hwz tX (((Step.refl (·=R.rb) _).alloc _).trans sb));(have KU:Hid (r=.ok (acc++[⟨nm,ty,tk.line,tk.col⟩]) jz):=by show _=_;rw[Ef.o,Ry.o];rfl);clear hn tX sb p0 hp;go_wp2_with fail;go_ret;have hsz:=cZ.o.size;exact aJ.dK KU.o rfl ⟨_,di.fA rJ.o.ow (fun q hq=>by have:=(rJ.o.ow.lt q hq).1;omega),lG.mono fK (fun q _ hq=>by have:=hq.1;omega) _ _ rJ.o.el⟩ rJ.o.rd (f_.o _ rJ.o.st)
theorem S_ (R:fV) (w:World) (i d:Nat) (hl:nK R.l) (h:bC R w i d):Calls Tryz.prog 143 #[.agg #[dY R.rb 0]] w (aJ R d EC (jg R.l i) w):=by
 have HL:=ak hl;obtain⟨r,hr⟩:=aU (jg R.l i);have HRR:Hid (r=if bD R.l i [105,110,116]then .ok ⟨#[105,110,116]⟩ (i+1)else if bD R.l i [98,111,111,108]then .ok ⟨#[98,111,111,108]⟩ (i+1)else if bD R.l i [102,54,52]then .ok ⟨#[102,54,52]⟩ (i+1)else aS R.l i):=by show _=_;rw[hr,jg]
 rw[←hr];have pY:=aI h.blk;obtain⟨w1,hw1⟩:=aU ((w.alloc (.cells #[dY R.rb 0] 97)).alloc (.cells #[.string ⟨#[105,110,116]⟩,.string ⟨#[98,111,111,108]⟩,.string ⟨#[102,54,52]⟩] 9));have cZ:Hid (Step (fun _=>False) w w1):=by show Step _ _ _;rw[hw1];exact(bJ.alloc _).alloc _
 have jL:Hid (w1.heap[w.heap.size]?=some (.cells #[dY R.rb 0] 97 (0,0))):=by show _=_;rw[hw1];exact aN (aA _ _)
 have jW:Hid (w1.heap[w.heap.size+1]?=some (.cells #[.string ⟨#[105,110,116]⟩,.string ⟨#[98,111,111,108]⟩,.string ⟨#[102,54,52]⟩] 9 (0,0))):=by show _=_;rw[hw1];exact dX _ _ _
 have HW1:=ak hw1;have H1:=ak (h.quiet cZ.o);have hn1:=aI jW.o;have f_:Hid (∀X:World,Step (·=R.rb) w1 X→Step (·=R.rb) w X):=by show∀X,_;intro X hX;exact(cZ.o.mono fe).trans hX
 have bY:Hid (∀X:World,Step (·=R.rb) w1 X→X.cell? ⟨w.heap.size,0,none⟩=some (.pointer (some ⟨R.rb,0,none⟩))):=by show∀X,_;intro X hX;exact aj (hX.keep jL.o om) 0 _ rfl
 have qL:Hid (∀X:World,Step (·=R.rb) w1 X→X.heap[w.heap.size+1]?=some (.cells #[.string ⟨#[105,110,116]⟩,.string ⟨#[98,111,111,108]⟩,.string ⟨#[102,54,52]⟩] 9 (0,0))):=by show∀X,_;intro X hX;exact hX.keep jW.o om
 clear hl h hr hw1;go_enter Tryz.func143,Tryz.ntmps143;go_upto_block 0 with fail
 have hx1:(w.alloc (.cells #[dY R.rb 0] 97)).alloc (.cells #[.string ⟨#[105,110,116]⟩,.string ⟨#[98,111,111,108]⟩,.string ⟨#[102,54,52]⟩] 9)=w1:=HW1.o.symm;rw[hx1];clear hx1;go_wp2_with fail;go_loopg [4,7] 3 (fun gg s4 s7 wr=>∃k:Nat,s7=.int .i64 k∧k≤3∧3-k≤gg∧(1≤k→bD R.l i [105,110,116]=false)∧(2≤k→bD R.l i [98,111,111,108]=false)∧(3≤k→bD R.l i [102,54,52]=false)∧bC R wr i d∧Step (·=R.rb) w1 wr);case atStart=>exact⟨0,rfl,by omega,by omega,(fun h=>by omega),(fun h=>by omega),(fun h=>by omega),H1.o,Step.refl _ _⟩
 case round=>
  obtain⟨k,rfl,hk,hgg,hf0,hf1,hf2,hrd,hst⟩:=hrel;have HR:=ak hrd;have HST:=ak hst;have p0:=bY.o wr hst;have q0:=aj (qL.o wr hst) 0 _ rfl;have q1:=aj (qL.o wr hst) 1 _ rfl;have q2:=aj (qL.o wr hst) 2 _ rfl;have HF:=ak (And.intro hf0 (And.intro hf1 hf2));clear hrd hst hf0 hf1 hf2;rcases(show k=0∨k=1∨k=2∨k=3 by omega)with rfl|rfl|rfl|rfl
  ·clear hk;go_wp2_with fail;cases hb:bD R.l i [105,110,116]with
   |true=>have HB:=ak hb;clear hb;refine(cO R HL.o ⟨#[105,110,116]⟩ _ i d HR.o dc HB.o).mono ?_;rintro e w4 ⟨rfl,hr4,h4⟩;have HR4:=ak hr4;have iP:=ak h4;clear hr4 h4 q0 q1 q2 p0;go_wp2_with fail;go_ret;exact aJ.dK (by rw[HRR.o,HB.o,if_pos rfl]) rfl rfl HR4.o (f_.o _ (HST.o.trans iP.o))
   |false=>
    have HB:=ak hb;clear hb;refine(dJ R HL.o ⟨#[105,110,116]⟩ _ i d HR.o dc HB.o).mono ?_;rintro e w4 ⟨rfl,hr4,h4⟩;have HR4:=ak hr4;have iP:=ak h4;clear hr4 h4 q0 q1 q2 p0;go_wp2_with fail;go_roundg (gk-1);case rel=>exact⟨1,rfl,by omega,by omega,(fun _=>HB.o),(fun h=>by omega),(fun h=>by omega),HR4.o,HST.o.trans iP.o⟩
    case measure=>omega
  ·clear hk;go_wp2_with fail;cases hb:bD R.l i [98,111,111,108]with
   |true=>have HB:=ak hb;clear hb;refine(cO R HL.o ⟨#[98,111,111,108]⟩ _ i d HR.o dc HB.o).mono ?_;rintro e w4 ⟨rfl,hr4,h4⟩;have HR4:=ak hr4;have iP:=ak h4;clear hr4 h4 q0 q1 q2 p0;go_wp2_with fail;go_ret;exact aJ.dK (by rw[HRR.o,if_neg (by rw[HF.o.1 om];decide),HB.o,if_pos rfl]) rfl rfl HR4.o (f_.o _ (HST.o.trans iP.o))
   |false=>
    have HB:=ak hb;clear hb;refine(dJ R HL.o ⟨#[98,111,111,108]⟩ _ i d HR.o dc HB.o).mono ?_;rintro e w4 ⟨rfl,hr4,h4⟩;have HR4:=ak hr4;have iP:=ak h4;clear hr4 h4 q0 q1 q2 p0;go_wp2_with fail;go_roundg (gk-1);case rel=>exact⟨2,rfl,by omega,by omega,(fun _=>HF.o.1 om),(fun _=>HB.o),(fun h=>by omega),HR4.o,HST.o.trans iP.o⟩
    case measure=>omega
  ·clear hk;go_wp2_with fail;cases hb:bD R.l i [102,54,52]with
   |true=>have HB:=ak hb;clear hb;refine(cO R HL.o ⟨#[102,54,52]⟩ _ i d HR.o dc HB.o).mono ?_;rintro e w4 ⟨rfl,hr4,h4⟩;have HR4:=ak hr4;have iP:=ak h4;clear hr4 h4 q0 q1 q2 p0;go_wp2_with fail;go_ret;exact aJ.dK (by rw[HRR.o,if_neg (by rw[HF.o.1 om];decide),if_neg (by rw[HF.o.2.1 om];decide),HB.o,if_pos rfl]) rfl rfl HR4.o (f_.o _ (HST.o.trans iP.o))
   |false=>
    have HB:=ak hb;clear hb;refine(dJ R HL.o ⟨#[102,54,52]⟩ _ i d HR.o dc HB.o).mono ?_;rintro e w4 ⟨rfl,hr4,h4⟩;have HR4:=ak hr4;have iP:=ak h4;clear hr4 h4 q0 q1 q2 p0;go_wp2_with fail;go_roundg (gk-1);case rel=>exact⟨3,rfl,by omega,by omega,(fun _=>HF.o.1 om),(fun _=>HF.o.2.1 om),(fun _=>HB.o),HR4.o,HST.o.trans iP.o⟩
    case measure=>omega
  ·clear hk;(have HE:Hid (r=aS R.l i):=by show _=_;rw[HRR.o,if_neg (by rw[HF.o.1 om];decide),if_neg (by rw[HF.o.2.1 om];decide),if_neg (by rw[HF.o.2.2 om];decide)]);clear q0 q1 q2;go_wp2_with fail;refine(name_any R HL.o _ i d HR.o).mono ?_;rintro e w4 hp;have hp2:aJ R d EC (aS R.l i) _ e w4:=hp;cases hn:aS R.l i with
   |out=>exact(iF hn).elim
   |err c ln col=>rw[hn]at hp2;obtain⟨rfl,hs⟩:=hp2;exact⟨rfl,aJ.aX (c:=c) (ln:=ln) (col:=col) (by rw[HE.o,hn]) rfl (f_.o _ (HST.o.trans hs))⟩
   |ok s j=>have HN:=ak hn;rw[hn]at hp2;obtain⟨⟨v,rfl,rfl⟩,hr,hs⟩:=hp2;have HR4:=ak hr;have iP:=ak hs;clear hn hr hs hp p0;go_wp2_with fail;go_ret;exact aJ.dK (by rw[HE.o,HN.o]) rfl rfl HR4.o (f_.o _ (HST.o.trans iP.o))
end Go.Proofs.YtppekkbaoimpgaaGreat
