import Derived.Test.YtggjfinekcenpaaGreatPkJ
set_option maxRecDepth 100000
set_option maxHeartbeats 80000000
namespace Go.Proofs.YtggjfinekcenpaaGreat
open Go.RowKit
theorem L6 {p:Prop} (h:p:=by exact fun _ _ _=>by omega):p:=h
open Vt
theorem Tryz.yg:(Tryz.prog.info? 124).map (·.size)=some 5:=by kernel_rfl
def BdV (n0:Nat) (w':World) (a:Bd) (v:Value):Prop:=ElQ Bq w' (fun k=>n0≤k) a v
theorem Tm (f:Nat) (R:h_) (w:World) (i d:Nat) (hl:pF R.l) (h:bD R w i d) (hno:mP f R.l i≠.out):Calls Tryz.prog 125 #[.agg #[fM R.rb 0]] w (aJ R d (BdV w.heap.size) (mP f R.l i) w):=by
 have HL:=ai hl;obtain⟨r,hr⟩:=bn (mP f R.l i);obtain⟨tk,htk⟩:=bn (tokA R.l i);have HRR:Hid (r=(if(pY R.l i).size=0 then(bI R.l (ny R.l i)).bind fun n j=>.ok (n,true) j else .ok (pY R.l i,false) (ny R.l i)).bind fun p j=>(aI R.l j [58]).bind fun _ j=>(fA f R.l j p.2 [] []).bind fun q j=>.ok ⟨p.1,q.1,q.2,tk.line,tk.col⟩ j):=by show _=_;rw[hr,mP,←htk]
 rw[←hr]at hno⊢;have f_:=ai hno;have vK:=aC h.blk;obtain⟨w1,hw1⟩:=bn ((w.alloc (.cells #[fM R.rb 0] 75)).alloc (.cells #[bW,aj,aj,af 0,af 0] 124));have dF:=nT hw1
 have kG:=nC hw1
 have lm:=nD hw1
 have HW1:=ai hw1;have H1:=ai (h.quiet dF.o);have HT:=ai (show R.l[i]?=some tk by rw[htk];exact h.tok);have HOZ:=ai (H_ hl h.lt);obtain⟨i0,hi0,hz0,hz1,hz2⟩:=info_parts Tryz.oC;have HI:=ai hi0;have HZ0:=ai hz0;have HZ1:=ai hz1;have HZ2:=ai hz2;have hn1:=aC lm.o;have ZE:Hid (∀X:World,Step (·=R.rb) w1 X→X.cell? ⟨w.heap.size,0,none⟩=some (.pointer (some ⟨R.rb,0,none⟩))):=fun X hX=>ah (hX.keep kG.o om) 0 _ rfl
 clear hl h hno hr hw1 hi0 hz0 hz1 hz2 htk;go_enter Tryz.func125,Tryz.ntmps125;go_upto_region 1 with fail
 rw[←HW1.o];obtain⟨Jx,hJx⟩:=bn (AJ R i d w1 #[.string ⟨#[]⟩,.slice none 0 0,.slice none 0 0,.int .i64 0,.int .i64 0] (fun s=> #[.string s,.slice none 0 0,.slice none 0 0,.int .i64 tk.line,.int .i64 tk.col]) 124 (.ok (pY R.l i) (ny R.l i)) 4 5 6 7 [some (.pointer (some ⟨w.heap.size,0,none⟩)),some (.pointer (some ⟨R.rb,0,none⟩)),some (.agg #[af tk.line,af tk.col]),some (.agg #[fM R.rb 0]),none,none,none,none]);have dV:=ai hJx;clear hJx;go_cut [3] (fun s3 wx=>∃b:Nat,s3=.pointer (some ⟨b,0,none⟩)∧bD R wx (ny R.l i) d∧w1.heap.size≤b∧wx.heap[b]?=some (.cells #[aG (pY R.l i),aj,aj,af tk.line,af tk.col] 124 (0,0))∧Step (·=R.rb) w1 wx);case first=>
  refine bG kr Jx 8 rfl kr kr kr kr ?h0 ?hs ?hdone;case h0=>rw[dV.o];exact AJ.zero (bV.drew) H1.o
  case hs=>
   refine⟨?_,?_,?_,?_,?_,?_,?_,?_,trivial⟩
   all_goals (intro L V X a ev gJ hdf hL ak hJ;rw[dV.o]at hJ)
   ·have o1:=gJ 1 rfl;change a.tmps[1]?.getD undef=.pointer (some ⟨w.heap.size,0,none⟩)at o1;go_simp;exact Dk
   ·have e5:=(ev 0 5 rfl (ak 0 rfl)).trans (hJ.iO 0 _ rfl (ak 0 rfl));have p0:=ZE.o X hJ.st;go_simp;exact Dk
   ·have e6:=(ev 1 6 rfl (ak 1 rfl)).trans (hJ.iO 1 _ rfl (ak 1 rfl));have h4:L 4=false:=by
     cases e:L 4 with
     |false=>rfl
     |true=>exact absurd (hJ.qc e) (by rw[hL];decide)
    obtain⟨i9,y1,y2⟩:=hJ.rd;rw[h4]at y2;have y3:i9=i:=y2;subst y3;go_simp;refine(at_at R X i9 d tk y1 HT.o).mono ?_;rintro e wq ⟨rfl,hs⟩;exact⟨_,rfl,by rw[dV.o];exact(hJ.move hs).up 2 rfl dc dc dc dc⟩
   ·have o1:=gJ 1 rfl;change a.tmps[1]?.getD undef=.pointer (some ⟨w.heap.size,0,none⟩)at o1;have p0:=ZE.o X hJ.st;go_simp;exact Dk
   ·have e8:=(ev 3 8 rfl (ak 3 rfl)).trans (hJ.iO 3 _ rfl (ak 3 rfl));obtain⟨i9,y1,y2⟩:=hJ.rd;rw[hL]at y2;have y3:i9=i:=y2;subst y3;go_simp;refine(WC R HL.o X i9 d y1).mono ?_;rintro e wq ⟨⟨v,rfl,rfl⟩,hr,hs⟩;exact⟨_,rfl,by rw[dV.o];exact hJ.call dc om hL (ak 2 rfl) rfl hs hr rfl⟩
   ·have e7:=(ev 2 7 rfl (ak 2 rfl)).trans (hJ.iO 2 _ rfl (ak 2 rfl));obtain⟨s9,k9,y1,y2⟩:=hJ.vc (ak 4 rfl);have e9:=(ev 4 9 rfl (ak 4 rfl)).trans y2;go_simp;exact⟨_,rfl,by rw[dV.o];exact hJ.build dc (ak 4 rfl) hL rfl y2⟩
   ·go_simp;exact⟨_,rfl,by rw[dV.o];exact hJ.alloc dc hL rfl⟩
   ·obtain⟨b9,y1,y2,y3,-⟩:=hJ.vl (ak 6 rfl);obtain⟨s9,k9,y4,y5⟩:=hJ.vb (ak 5 rfl);have e3:=(ev 6 3 rfl (ak 6 rfl)).trans y1;have e10:=(ev 5 10 rfl (ak 5 rfl)).trans y5;refine eG 124 (.tmp 3) (.tmp 10) rfl b9 0 124 _ [.string s9,.slice none 0 0,.slice none 0 0,.int .i64 tk.line,.int .i64 tk.col] (by rw[bK];exact e3) (by rw[bK];exact e10) (y3 hL) Tryz.yg (Nat.le_of_eq rfl) (aP rfl) ?_;intro w9 ig hs9;exact⟨undef,rfl,by rw[dV.o];exact hJ.put dc om (ak 5 rfl) (ak 6 rfl) (fun u hu=>by cases hu) y4 y1 hs9 ig undef⟩
  case hdone=>intro L V X hall hJ;rw[dV.o]at hJ;obtain⟨s9,k9,b9,h1,h2,h3,h4,h5,h6⟩:=hJ.done (hall 4 dc) (hall 6 dc) (hall 7 dc);cases h1;have HD3:=ai h3;have HD5:=ai h5;have HD6:=ai h6;rw[Rw];simp only[lX,dZ,List.getElem?_toArray,List.getElem?_cons_zero,List.getElem?_cons_succ,Option.bind_some,Act.put,List.setIfInBounds_toArray,List.set_cons_zero,List.set_cons_succ,h2];clear hJ hall h2 h3 h5 h6;go_wp2_with fail;go_meet;case rel=>exact⟨b9,rfl,HD3.o,h4,HD5.o,HD6.o⟩
 case rest=>
  obtain⟨b,rfl,hr1,hb1,hblk,hs1⟩:=hcut;obtain⟨v0,rfl⟩:=bn wc;have HR1:=ai hr1;have HB1:=ai hblk;have HS01:=ai hs1;have hbv:=aC hblk;have hsz1:=dF.o.size;have hrb:R.rb<b:=by omega
  clear hr1 hblk hs1;obtain⟨on,hon⟩:=bn (pY R.l i);obtain⟨oi,hoi⟩:=bn (ny R.l i);rw[←hon]at HB1 HRR HOZ;rw[←hoi]at HR1 HRR;obtain⟨pl,hpl⟩:=bn (on.size==0);have Ia:=ai hpl;clear hon hoi hpl;go_upto_region 2 with fail
  go_cut [4] (fun s4 wx=>s4=.bool pl∧v0=wx);case first=>
   have q0:=ah HB1.o 0 _ rfl;by_cases hz:on.size=0
   ·(have hpl:pl=true:=by rw[Ia.o,hz];rfl);(have hon:on=⟨#[]⟩:=by obtain⟨a⟩:=on;have h2:a.size=0:=hz;rw[Array.eq_empty_of_size_eq_zero h2]);rw[hon]at q0;go_wp2_with fail;go_meet;case rel=>exact⟨by rw[hpl],rfl⟩
   ·(have hpl:pl=false:=by rw[Ia.o];simpa using hz);have he:=mZ on om;have he':=mF on om;go_wp2_with fail;go_meet;case rel=>exact⟨by rw[hpl],rfl⟩
  case rest=>
   obtain⟨rfl,hwx⟩:=hcut;subst hwx;(go_upto_if 14 with fail);go_cut [] (fun wx=>∃(nm:ByteArray) (jn:Nat),r=((aI R.l jn [58]).bind fun _ j=>(fA f R.l j pl [] []).bind fun q j=>.ok ⟨nm,q.1,q.2,tk.line,tk.col⟩ j)∧nm.size≤9223372036854775807∧bD R wx jn d∧wx.heap[b]?=some (.cells #[aG nm,aj,aj,af tk.line,af tk.col] 124 (0,0))∧Step (fun q=>q=R.rb∨q=b) v0 wx);case first=>
    cases pl with
    |false=>(have hz:¬on.size=0:=by simpa using Ia.o.symm);(have rF:Hid (r=((aI R.l oi [58]).bind fun _ j=>(fA f R.l j false [] []).bind fun q j=>.ok ⟨on,q.1,q.2,tk.line,tk.col⟩ j)):=by show _=_;rw[HRR.o,if_neg hz];rfl);go_wp2_with fail;go_meet;case rel=>exact⟨on,oi,rF.o,HOZ.o,HR1.o,HB1.o,Step.refl _ _⟩
    |true=>
     (have hz:on.size=0:=by simpa using Ia.o.symm);(have rF:Hid (r=((bI R.l oi).bind fun n j=>.ok (n,true) j).bind fun p j=>(aI R.l j [58]).bind fun _ j=>(fA f R.l j p.2 [] []).bind fun q j=>.ok ⟨p.1,q.1,q.2,tk.line,tk.col⟩ j):=by show _=_;rw[HRR.o,if_pos hz]);have p0:=ZE.o v0 HS01.o;go_wp2_with fail;refine(name_any R HL.o _ oi d HR1.o).mono ?_;rintro e w7 hp;have hp2:aJ R d Gt (bI R.l oi) _ e w7:=hp;cases hn:bI R.l oi with
     |out=>exact(iV hn).elim
     |err c ln col=>rw[hn]at hp2;obtain⟨rfl,hs⟩:=hp2;exact⟨rfl,aJ.aW c ln col (by rw[rF.o,hn];rfl) rfl (((dF.o.mono fe).trans HS01.o).trans hs)⟩
     |ok nm j=>have HN:=ai hn;have Vu:=ai (fU HL.o HR1.o.lt hn);rw[hn]at hp2;obtain⟨⟨v,rfl,rfl⟩,hr,hs⟩:=hp2;have HR7:=ai hr;have Y5:=ai hs;have Ll:=ai (hs.keep HB1.o om);(have mM:Hid (r=((aI R.l j [58]).bind fun _ j=>(fA f R.l j true [] []).bind fun q j=>.ok ⟨nm,q.1,q.2,tk.line,tk.col⟩ j)):=by show _=_;rw[rF.o,HN.o];rfl);clear hn hr hs hp p0;have oq:=ah Ll.o 0 _ rfl;have ou:=aH Ll.o 0;have HS8:Hid (Step (·=b) w7 (w7.setCell ⟨b,0,none⟩ (.string nm))):=(Step.refl (·=b) _).setCell _ _ jd;have HB8:Hid ((w7.setCell ⟨b,0,none⟩ (.string nm)).heap[b]?=some (.cells #[aG nm,aj,aj,af tk.line,af tk.col] 124 (0,0))):=aU Ll.o 0 (.string nm);go_wp2_with fail;go_meet;case rel=>exact⟨nm,j,mM.o,Vu.o,HR7.o.step HS8.o L6,HB8.o,(Y5.o.mono il).trans (HS8.o.mono ir)⟩
   case rest=>
    obtain⟨nm,jn,hrn,hnz,hr2,hblk2,hs2⟩:=hcut;obtain⟨v1,rfl⟩:=bn wc;have zH:=ai hrn;have VD:=ai hnz;have rG:=ai hs2;have hbw:b<v1.heap.size:=aC hblk2;have hszv:=hs2.size;have uI:Hid (N2 9 (fun va vb=>.cells #[aG nm,va,vb,af tk.line,af tk.col] 124 (0,0)) R v1 b d v1 jn [] [] (.slice none 0 0) (.slice none 0 0)):=⟨hr2,hblk2,World.ownsRow_nil _ _ _ _,World.ownsRow_nil _ _ _ _,oQ,oQ,oQ,by simp,Step.refl _ _⟩;clear hrn hnz hr2 hblk2 hs2;(have HBV:Hid (∀X:World,Step (fun q=>q=R.rb∨q=b) v1 X→Step (·=R.rb) w1 X):=by intro X hX;exact(HS01.o.then rG.o L6).then hX L6);(have gI:Hid (∀X:World,Step (fun q=>q=R.rb∨q=b) v1 X→Step (·=R.rb) w X):=by intro X hX;exact(dF.o.mono fe).trans (HBV.o X hX));(have dh:Hid (∀X:World,Step (fun q=>q=R.rb∨q=b) v1 X→X.cell? ⟨w.heap.size,0,none⟩=some (.pointer (some ⟨R.rb,0,none⟩))):=by intro X hX;exact ZE.o X (HBV.o X hX));(have uQ:Hid (∀X:World,Step (fun q=>q=R.rb∨q=b) v1 X→X.heap[w.heap.size+1]?=some (.cells #[bW,aj,aj,af 0,af 0] 124 (0,0))):=by intro X hX;exact(HBV.o X hX).keep lm.o om);have p0:=dh.o v1 bV;go_wp2_with fail;refine(dO R HL.o v1.heap.size ⟨#[58]⟩ _ jn d (uI.o.rd.quiet (bV.alloc _)) dc (ah (aB _ _) 0 _ rfl)).mono ?_;rintro e w2 hp;have hp2:aJ R d iR (aI R.l jn [58]) _ e w2:=hp;cases hn:aI R.l jn [58]with
    |out=>exact(dH hn).elim
    |err c ln col=>rw[hn]at hp2;obtain⟨rfl,sb⟩:=hp2;exact⟨rfl,aJ.aW c ln col (by rw[zH.o,hn];rfl) rfl (gI.o _ (uI.o.err (((Step.refl (·=R.rb) _).alloc _).trans sb)))⟩
    |ok u2 jy=>
     have VE:=ai hn;rw[hn]at hp2;obtain⟨⟨v,rfl,rfl⟩,vP,sb⟩:=hp2;have yT:=ai (uI.o.read hrb om vP (((Step.refl (·=R.rb) _).alloc _).trans sb));(have lJ:Hid (r=((fA f R.l jy pl [] []).bind fun q j=>.ok ⟨nm,q.1,q.2,tk.line,tk.col⟩ j)):=by show _=_;rw[zH.o,VE.o];rfl);clear hn vP sb p0 hp;go_wp2_with fail;go_loopg [] f (fun gg wr=>gg≤f∧∃(i':Nat) (ts ls:List ByteArray) (vt vl:Value),r=((fA gg R.l i' pl ts ls).bind fun q j=>.ok ⟨nm,q.1,q.2,tk.line,tk.col⟩ j)∧N2 9 (fun va vb=>.cells #[aG nm,va,vb,af tk.line,af tk.col] 124 (0,0)) R v1 b d wr i' ts ls vt vl);case atStart=>exact⟨Nat.le_refl _,jy,[],[],_,_,lJ.o,yT.o⟩
     case round=>
      obtain⟨hgf,i',ts,ls,vt,vl,hrq,hst⟩:=hrel;obtain⟨gn,rfl⟩:∃gn,gk=gn+1:=by
       cases gk with
       |zero=>exact absurd hrq (by rw[fA];exact f_.o)
       |succ gn=>exact⟨gn,rfl⟩
      (have vF:Hid (r=((eH (ls.length+ts.length) 8 R.l i').bind fun _ i=>(if pl=true∧ls.length=0∧(tokA R.l i).kind≠2 then(bI R.l i).bind fun x j=>.ok (ts++[x],ls) j else(jh R.l i).bind fun x j=>.ok (ts,ls++[x]) j).bind fun q j=>if bH R.l j [43]then fA gn R.l (j+1) pl q.1 q.2 else .ok q j).bind fun q j=>.ok ⟨nm,q.1,q.2,tk.line,tk.col⟩ j):=by show _=_;rw[hrq,fA]);obtain⟨oa,oc,rfl⟩:=b_ hst.oa;obtain⟨pa,pc,rfl⟩:=b_ hst.ob;have HST:=ai hst;have p0:=dh.o wr hst.st;have q1:=ah hst.blk 1 _ rfl;have q2:=ah hst.blk 2 _ rfl;have hfew:=hst.few;(have R1:IntKind.i64.wrap ((ls.length:Int)+(ts.length:Int))=((ls.length+ts.length:Nat):Int):=by rw[show((ls.length:Int)+(ts.length:Int))=((ls.length+ts.length:Nat):Int) by omega];exact IntWalk.i64_in _ om);clear hrq hst;go_wp2_with fail;clear R1;refine(nH R wr (ls.length+ts.length) 8 i' d HST.o.rd).mono ?_;rintro e w3 hp;cases hn:eH (ls.length+ts.length) 8 R.l i' with
      |out=>exact(lV hn).elim
      |err c ln col=>rw[hn]at hp;obtain⟨rfl,s3⟩:=hp;exact⟨rfl,aJ.aW c ln col (by rw[vF.o,hn];rfl) rfl (gI.o _ (HST.o.err s3))⟩
      |ok u j=>
       have hji:j=i'∧ls.length+ts.length<8:=by
        unfold eH at hn;split at hn
        ·cases hn
        ·cases hn;exact⟨rfl,by omega⟩
       obtain⟨rfl,Ja⟩:=hji;have HN:=ai hn;rw[hn]at hp;obtain⟨⟨v,rfl,rfl⟩,hr3,s3⟩:=hp;have gu:=ai (HST.o.read hrb om hr3 s3);obtain⟨tj,htj⟩:=bn (tokA R.l j);(have qw:Hid (r=((if pl=true∧ls.length=0∧tj.kind≠2 then(bI R.l j).bind fun x j=>.ok (ts++[x],ls) j else(jh R.l j).bind fun x j=>.ok (ts,ls++[x]) j).bind fun q j=>if bH R.l j [43]then fA gn R.l (j+1) pl q.1 q.2 else .ok q j).bind fun q j=>.ok ⟨nm,q.1,q.2,tk.line,tk.col⟩ j):=by show _=_;rw[vF.o,HN.o,htj];rfl);clear hn hr3 s3 p0 q1 q2;(have YX:Hid (R.l[j]?=some tj):=by rw[htj];exact gu.o.rd.tok);obtain⟨cb,hcb⟩:=bn (pl&&ls.length==0&&tj.kind !=2);have NH:=ai hcb;(have hfd0:∀(a0 a1 a2 a3 a4:Value) (w:World),(Instr.field 111 (.agg #[a0,a1,a2,a3,a4]) 0).run Tryz.prog w=.ok a0 w:=fun _ _ _ _ _ _=>by kernel_rfl);clear htj hcb;(go_upto_region 7 with fail);go_cut [45] (fun s45 wx=>s45=.bool cb∧jP w3 wx);case first=>
        have p0:=dh.o w3 gu.o.st;have q2:=ah gu.o.blk 2 _ rfl;obtain⟨b0,hb0⟩:∃b0,((ls.length:Int)==0)=b0:=⟨_,rfl⟩;have HB0:Hid ((ls.length==0)=b0):=(kX ls.length 0 0 rfl).symm.trans hb0;cases pl with
        |false=>(have HC2:Hid (cb=false):=by show _=_;rw[NH.o];rfl);go_wp2_with fail;go_meet;case rel=>exact⟨by rw[HC2.o],Step.refl _ _⟩
        |true=>
         cases b0 with
         |false=>(have HC2:Hid (cb=false):=by show _=_;rw[NH.o,HB0.o];rfl);go_wp2_with fail;go_meet;case rel=>exact⟨by rw[HC2.o],Step.refl _ _⟩
         |true=>obtain⟨b2,hb2⟩:∃b2,((tj.kind:Int) !=2)=b2:=⟨_,rfl⟩;(have HC2:Hid (cb=b2):=by show _=_;rw[NH.o,HB0.o,←hb2,bne,bne,kX tj.kind 2 2 rfl];rfl);go_wp2_with fail;refine(l_ R _ j d tj gu.o.rd YX.o).mono ?_;rintro e w4 ⟨rfl,h4⟩;have jv:=ai h4;clear h4 p0;go_wp2_with fail;go_meet;case rel=>exact⟨by rw[HC2.o],jv.o⟩
       case rest=>
        obtain⟨rfl,hs4⟩:=hcut;obtain⟨w6,rfl⟩:=bn wc;have qA:=ai (gu.o.quiet hs4);clear hs4;(go_upto_if 45 with fail);go_cut [] (fun wx=>∃(jn:Nat) (la lb:List ByteArray) (va vb:Value),r=((if bH R.l jn [43]then fA gn R.l (jn+1) pl la lb else .ok (la,lb) jn).bind fun q j=>.ok ⟨nm,q.1,q.2,tk.line,tk.col⟩ j)∧N2 9 (fun va vb=>.cells #[aG nm,va,vb,af tk.line,af tk.col] 124 (0,0)) R v1 b d wx jn la lb va vb);case first=>
         cases cb with
         |true=>
          (have hc:pl=true∧ls.length=0∧tj.kind≠2:=by have h9:=NH.o.symm;simp at h9;exact⟨h9.1.1,by rw[h9.1.2];rfl,h9.2⟩);(have F7:Hid (r=(((bI R.l j).bind fun x j=>.ok (ts++[x],ls) j).bind fun q j=>if bH R.l j [43]then fA gn R.l (j+1) pl q.1 q.2 else .ok q j).bind fun q j=>.ok ⟨nm,q.1,q.2,tk.line,tk.col⟩ j):=by show _=_;rw[qw.o,if_pos hc]);clear hc;have p0:=dh.o w6 qA.o.st;(go_upto_region 8 with fail);obtain⟨r1,hr1⟩:=bn (bI R.l j);have HR1:=ai hr1;(have zH:Hid (r1≠.out):=by rw[hr1];exact fun e=>iV e);(have lJ:Hid (r=((r1.bind fun x j=>.ok (ts++[x],ls) j).bind fun q j=>if bH R.l j [43]then fA gn R.l (j+1) pl q.1 q.2 else .ok q j).bind fun q j=>.ok ⟨nm,q.1,q.2,tk.line,tk.col⟩ j):=by show _=_;rw[F7.o,hr1]);have zi:Hid (NOk R b w6 v1.heap.size (.slice oa ts.length oc) 1 4 5 6 8):=⟨by decide,by decide,hrb,hbw,qA.o.st.size,fun q hq=>qA.o.oa.lt q hq⟩;have Hl:Hid (∀X:World,Step (fun q=>q=R.rb∨q=b∨(Value.slice oa ts.length oc).ownBlock=some q) w6 X→X.cell? ⟨w.heap.size,0,none⟩=some (.pointer (some ⟨R.rb,0,none⟩))):=by
           show∀X,_;intro X hX;refine hX.cell (dh.o w6 qA.o.st) (fun e=> ?_);have e2:w.heap.size=R.rb∨w.heap.size=b∨(Value.slice oa ts.length oc).ownBlock=some w.heap.size:=e;rcases e2 with e2|e2|e2
           ·omega
           ·omega
           ·have:=(zi.o.own _ e2).1;omega
          obtain⟨Jx,hJx⟩:=bn (NJ R j d b w6 (fun v=>.cells #[aG nm,v,.slice pa ls.length pc,af tk.line,af tk.col] 124 (0,0)) v1.heap.size 9 (.slice oa ts.length oc) ts.length (ts.map .string) r1 1 4 5 6 8 [some (.pointer (some ⟨b,1,none⟩)),some (.slice oa ts.length oc),some (.pointer (some ⟨w.heap.size,0,none⟩)),some (.pointer (some ⟨R.rb,0,none⟩)),none,none,none,some (.pointer (some ⟨b,1,none⟩)),none]);have dV:=ai hJx;(have OD:Hid (∀V,Jx (fun _=>false) V w6.drew):=by intro V;rw[hJx];exact NJ.zero (bV.drew) qA.o.rd qA.o.oa qA.o.blk);have HWB:Hid (∀X:World,Step (fun q=>q=R.rb∨q=b∨(Value.slice oa ts.length oc).ownBlock=some q) w6 X→Step (fun q=>q=R.rb∨q=b) v1 X):=by
           show∀X,_;intro X hX;refine qA.o.st.then hX (fun q hq e=> ?_);rcases e with e|e|e
           ·exact .inl e
           ·exact .inr e
           ·have:=(zi.o.own _ e).1;omega
          clear hr1 hJx p0;refine bG kr Jx 9 rfl kr kr kr kr ?h0 ?hs ?hdone;case h0=>exact OD.o _
          case hs=>
           refine⟨?_,?_,?_,?_,?_,?_,?_,?_,?_,trivial⟩
           all_goals (intro L V X a ev gJ hdf hL ak hJ;rw[dV.o]at hJ)
           ·have o3:=gJ 3 rfl;change a.tmps[3]?.getD undef=.pointer (some ⟨b,0,none⟩)at o3;go_simp;exact Dk
           ·have e46:=(ev 0 46 rfl (ak 0 rfl)).trans (hJ.iO 0 _ rfl (ak 0 rfl));have hA:L 6=false:=by
             cases e:L 6 with
             |false=>rfl
             |true=>rw[hJ.ql e]at hL;cases hL
            have hb:=hJ.blk;rw[hJ.I_ hA]at hb;have q1:X.cell? ⟨b,1,none⟩=some (.slice oa ts.length oc):=ah hb 1 _ rfl;go_simp;exact Dk
           ·have o1:=gJ 1 rfl;change a.tmps[1]?.getD undef=.pointer (some ⟨w.heap.size,0,none⟩)at o1;go_simp;exact Dk
           ·have e48:=(ev 2 48 rfl (ak 2 rfl)).trans (hJ.iO 2 _ rfl (ak 2 rfl));have p0:=Hl.o X hJ.st;go_simp;exact Dk
           ·have e49:=(ev 3 49 rfl (ak 3 rfl)).trans (hJ.iO 3 _ rfl (ak 3 rfl));obtain⟨i9,y1,y2⟩:=hJ.rd;rw[hL]at y2;have y3:i9=j:=y2;subst y3;go_simp;refine(name_any R HL.o X i9 d y1).mono ?_;intro e wq hp;rw[←HR1.o]at hp;cases hx:r1 with
            |out=>exact absurd hx zH.o
            |err cc ln col=>rw[hx]at hp;obtain⟨rfl,hs⟩:=hp;exact⟨hdf,aJ.aW cc ln col (by rw[lJ.o,hx];rfl) rfl (gI.o _ ((HWB.o X hJ.st).trans (hs.mono il)))⟩
            |ok s9 k9=>have hx0:=hx;rw[hx]at hp;obtain⟨⟨v,rfl,rfl⟩,hr,hs⟩:=hp;exact⟨_,rfl,by rw[dV.o];exact hJ.call zi.o hL rfl hs hr hx0⟩
           ·obtain⟨s9,k9,y1,y2⟩:=hJ.vc (ak 4 rfl);have e50:=(ev 4 50 rfl (ak 4 rfl)).trans y2;go_simp;exact⟨_,rfl,by rw[dV.o];exact hJ.build zi.o hL (ak 4 rfl) rfl y2⟩
           ·have e47:=(ev 1 47 rfl (ak 1 rfl)).trans (hJ.iO 1 _ rfl (ak 1 rfl));have e51:=ev 5 51 rfl (ak 5 rfl);obtain⟨s9,k9,g9,y1,y2,y3,y4⟩:=hJ.vb (ak 5 rfl) hL;have hon:=hJ.own hL;have hwz:=Nat.le_trans zi.o.bw hJ.st.size;have hfw:=qA.o.few;refine gV _ (g9+1) (.tmp 47) (.tmp 51) 40 rfl v1.heap.size 9 i0 (.string ⟨#[]⟩) 1 16 Tryz.underlying40 HI.o HZ0.o HZ1.o HZ2.o rfl dc (.slice oa ts.length oc) ts.length (ts.map .string) (by rw[bK];exact e47) hon (V 5) 1 [.string s9] (by rw[bK];exact e51) (by rw[y2];exact Row.new y4 dc) rfl (aP rfl) (by unfold maxLen;omega) om hwz ?_;intro v8 w8 uO qx BG;exact⟨v8,rfl,by rw[dV.o];exact hJ.app zi.o hL (ak 5 rfl) (ak 1 rfl) rfl y1 uO qx BG⟩
           ·have o3:=gJ 3 rfl;change a.tmps[3]?.getD undef=.pointer (some ⟨b,0,none⟩)at o3;go_simp;exact Dk
           ·have e53:=(ev 7 53 rfl (ak 7 rfl)).trans (hJ.iO 7 _ rfl (ak 7 rfl));obtain⟨s9,k9,y1,y2,y3⟩:=hJ.va (ak 6 rfl);obtain⟨a9,c9,hV⟩:=b_ y2;have e52:=(ev 6 52 rfl (ak 6 rfl)).trans hV;have hb:=hJ.blk;rw[hL]at hb;have iM:∃v,X.cell? ⟨b,1,none⟩=some v:=⟨_,ah hb 1 _ rfl⟩;obtain⟨vc,Hy⟩:=iM;have hfz:X.frozen? ⟨b,1,none⟩=false:=aH hb 1;go_simp;exact⟨undef,by rw[dV.o];exact hJ.put zi.o (ak 6 rfl) (fun u hu=>by cases hu) (bV.setCell _ _ jd) (by rw[←hV];exact aU hb 1 (V 6)) undef⟩
          case hdone=>intro L V X hall hJ;rw[dV.o]at hJ;obtain⟨s9,k9,v9,h1,h2,h3,h4,h5,h6⟩:=hJ.done (hall 4 dc) (hall 6 dc) (hall 8 dc);(have GR:bI R.l j=.ok s9 k9:=by rw[←HR1.o];exact h1);have hsz:=fU HL.o qA.o.rd.lt GR;rw[UN];simp only[lX,dZ,F5,Ef];(have F6:Hid (r=((if bH R.l k9 [43]then fA gn R.l (k9+1) pl (ts++[s9]) ls else .ok ((ts++[s9]),ls) k9).bind fun q j=>.ok ⟨nm,q.1,q.2,tk.line,tk.col⟩ j)):=by show _=_;rw[F7.o,GR];rfl);have lI:Hid (N2 9 (fun va vb=>.cells #[aG nm,va,vb,af tk.line,af tk.col] 124 (0,0)) R v1 b d X k9 (ts++[s9]) ls v9 (.slice pa ls.length pc)):=qA.o.Qq hrb hbw h2 h3 h4 h5 h6 hsz om;clear hJ hall h1 h2 h3 h4 h5 h6 GR hsz;go_wp2_with fail;go_meet;case rel=>exact⟨k9,_,_,_,_,F6.o,lI.o⟩
         |false=>
          (have hc:¬(pl=true∧ls.length=0∧tj.kind≠2):=by intro hc;have h9:=NH.o;rw[hc.1,hc.2.1]at h9;simp at h9;exact hc.2.2 h9);(have F7:Hid (r=(((jh R.l j).bind fun x j=>.ok (ts,ls++[x]) j).bind fun q j=>if bH R.l j [43]then fA gn R.l (j+1) pl q.1 q.2 else .ok q j).bind fun q j=>.ok ⟨nm,q.1,q.2,tk.line,tk.col⟩ j):=by show _=_;rw[qw.o,if_neg hc]);clear hc;have p0:=dh.o w6 qA.o.st;(go_upto_region 9 with fail);obtain⟨r1,hr1⟩:=bn (jh R.l j);have HR1:=ai hr1;(have zH:Hid (r1≠.out):=by rw[hr1];exact fun e=>BB e);(have lJ:Hid (r=((r1.bind fun x j=>.ok (ts,ls++[x]) j).bind fun q j=>if bH R.l j [43]then fA gn R.l (j+1) pl q.1 q.2 else .ok q j).bind fun q j=>.ok ⟨nm,q.1,q.2,tk.line,tk.col⟩ j):=by show _=_;rw[F7.o,hr1]);have zi:Hid (NOk R b w6 v1.heap.size (.slice pa ls.length pc) 1 3 4 5 7):=⟨by decide,by decide,hrb,hbw,qA.o.st.size,fun q hq=>qA.o.ob.lt q hq⟩;have Hl:Hid (∀X:World,Step (fun q=>q=R.rb∨q=b∨(Value.slice pa ls.length pc).ownBlock=some q) w6 X→X.cell? ⟨w.heap.size,0,none⟩=some (.pointer (some ⟨R.rb,0,none⟩))):=by
           show∀X,_;intro X hX;refine hX.cell (dh.o w6 qA.o.st) (fun e=> ?_);have e2:w.heap.size=R.rb∨w.heap.size=b∨(Value.slice pa ls.length pc).ownBlock=some w.heap.size:=e;rcases e2 with e2|e2|e2
           ·omega
           ·omega
           ·have:=(zi.o.own _ e2).1;omega
          obtain⟨Jx,hJx⟩:=bn (NJ R j d b w6 (fun v=>.cells #[aG nm,.slice oa ts.length oc,v,af tk.line,af tk.col] 124 (0,0)) v1.heap.size 9 (.slice pa ls.length pc) ls.length (ls.map .string) r1 1 3 4 5 7 [some (.pointer (some ⟨b,2,none⟩)),some (.slice pa ls.length pc),some (.agg #[fM R.rb 0]),none,none,none,some (.pointer (some ⟨b,2,none⟩)),none]);have dV:=ai hJx;(have OD:Hid (∀V,Jx (fun _=>false) V w6.drew):=by intro V;rw[hJx];exact NJ.zero (bV.drew) qA.o.rd qA.o.ob qA.o.blk);have HWB:Hid (∀X:World,Step (fun q=>q=R.rb∨q=b∨(Value.slice pa ls.length pc).ownBlock=some q) w6 X→Step (fun q=>q=R.rb∨q=b) v1 X):=by
           show∀X,_;intro X hX;refine qA.o.st.then hX (fun q hq e=> ?_);rcases e with e|e|e
           ·exact .inl e
           ·exact .inr e
           ·have:=(zi.o.own _ e).1;omega
          clear hr1 hJx p0;refine bG kr Jx 8 rfl kr kr kr kr ?h0 ?hs ?hdone;case h0=>exact OD.o _
          case hs=>
           refine⟨?_,?_,?_,?_,?_,?_,?_,?_,trivial⟩
           all_goals (intro L V X a ev gJ hdf hL ak hJ;rw[dV.o]at hJ)
           ·have o3:=gJ 3 rfl;change a.tmps[3]?.getD undef=.pointer (some ⟨b,0,none⟩)at o3;go_simp;exact Dk
           ·have e54:=(ev 0 54 rfl (ak 0 rfl)).trans (hJ.iO 0 _ rfl (ak 0 rfl));have hA:L 5=false:=by
             cases e:L 5 with
             |false=>rfl
             |true=>rw[hJ.ql e]at hL;cases hL
            have hb:=hJ.blk;rw[hJ.I_ hA]at hb;have q2:X.cell? ⟨b,2,none⟩=some (.slice pa ls.length pc):=ah hb 2 _ rfl;go_simp;exact Dk
           ·have o1:=gJ 1 rfl;change a.tmps[1]?.getD undef=.pointer (some ⟨w.heap.size,0,none⟩)at o1;have p0:=Hl.o X hJ.st;go_simp;exact Dk
           ·have e56:=(ev 2 56 rfl (ak 2 rfl)).trans (hJ.iO 2 _ rfl (ak 2 rfl));obtain⟨i9,y1,y2⟩:=hJ.rd;rw[hL]at y2;have y3:i9=j:=y2;subst y3;go_simp;refine(xC R HL.o X i9 d y1).mono ?_;intro e wq hp;rw[←HR1.o]at hp;cases hx:r1 with
            |out=>exact absurd hx zH.o
            |err cc ln col=>rw[hx]at hp;obtain⟨rfl,hs⟩:=hp;exact⟨hdf,aJ.aW cc ln col (by rw[lJ.o,hx];rfl) rfl (gI.o _ ((HWB.o X hJ.st).trans (hs.mono il)))⟩
            |ok s9 k9=>have hx0:=hx;rw[hx]at hp;obtain⟨⟨v,rfl,rfl⟩,hr,hs⟩:=hp;exact⟨_,rfl,by rw[dV.o];exact hJ.call zi.o hL rfl hs hr hx0⟩
           ·obtain⟨s9,k9,y1,y2⟩:=hJ.vc (ak 3 rfl);have e57:=(ev 3 57 rfl (ak 3 rfl)).trans y2;go_simp;exact⟨_,rfl,by rw[dV.o];exact hJ.build zi.o hL (ak 3 rfl) rfl y2⟩
           ·have e55:=(ev 1 55 rfl (ak 1 rfl)).trans (hJ.iO 1 _ rfl (ak 1 rfl));have e58:=ev 4 58 rfl (ak 4 rfl);obtain⟨s9,k9,g9,y1,y2,y3,y4⟩:=hJ.vb (ak 4 rfl) hL;have hon:=hJ.own hL;have hwz:=Nat.le_trans zi.o.bw hJ.st.size;have hfw:=qA.o.few;refine gV _ (g9+1) (.tmp 55) (.tmp 58) 40 rfl v1.heap.size 9 i0 (.string ⟨#[]⟩) 1 16 Tryz.underlying40 HI.o HZ0.o HZ1.o HZ2.o rfl dc (.slice pa ls.length pc) ls.length (ls.map .string) (by rw[bK];exact e55) hon (V 4) 1 [.string s9] (by rw[bK];exact e58) (by rw[y2];exact Row.new y4 dc) rfl (aP rfl) (by unfold maxLen;omega) om hwz ?_;intro v8 w8 uO qx BG;exact⟨v8,rfl,by rw[dV.o];exact hJ.app zi.o hL (ak 4 rfl) (ak 1 rfl) rfl y1 uO qx BG⟩
           ·have o3:=gJ 3 rfl;change a.tmps[3]?.getD undef=.pointer (some ⟨b,0,none⟩)at o3;go_simp;exact Dk
           ·have e60:=(ev 6 60 rfl (ak 6 rfl)).trans (hJ.iO 6 _ rfl (ak 6 rfl));obtain⟨s9,k9,y1,y2,y3⟩:=hJ.va (ak 5 rfl);obtain⟨a9,c9,hV⟩:=b_ y2;have e59:=(ev 5 59 rfl (ak 5 rfl)).trans hV;have hb:=hJ.blk;rw[hL]at hb;have iM:∃v,X.cell? ⟨b,2,none⟩=some v:=⟨_,ah hb 2 _ rfl⟩;obtain⟨vc,Hy⟩:=iM;have hfz:X.frozen? ⟨b,2,none⟩=false:=aH hb 2;go_simp;exact⟨undef,by rw[dV.o];exact hJ.put zi.o (ak 5 rfl) (fun u hu=>by cases hu) (bV.setCell _ _ jd) (by rw[←hV];exact aU hb 2 (V 5)) undef⟩
          case hdone=>intro L V X hall hJ;rw[dV.o]at hJ;obtain⟨s9,k9,v9,h1,h2,h3,h4,h5,h6⟩:=hJ.done (hall 3 dc) (hall 5 dc) (hall 7 dc);(have GR:jh R.l j=.ok s9 k9:=by rw[←HR1.o];exact h1);have hsz:=yX HL.o qA.o.rd.lt GR;rw[Rw];simp only[lX,dZ,F5,Ef];(have F6:Hid (r=((if bH R.l k9 [43]then fA gn R.l (k9+1) pl ts (ls++[s9])else .ok (ts,(ls++[s9])) k9).bind fun q j=>.ok ⟨nm,q.1,q.2,tk.line,tk.col⟩ j)):=by show _=_;rw[F7.o,GR];rfl);have lI:Hid (N2 9 (fun va vb=>.cells #[aG nm,va,vb,af tk.line,af tk.col] 124 (0,0)) R v1 b d X k9 ts (ls++[s9]) (.slice oa ts.length oc) v9):=qA.o.pushB hrb hbw h2 h3 h4 h5 h6 hsz om;clear hJ hall h1 h2 h3 h4 h5 h6 GR hsz;go_wp2_with fail;go_meet;case rel=>exact⟨k9,_,_,_,_,F6.o,lI.o⟩
        case rest=>
         obtain⟨jn,la,lb,va,vb,hrn,hls⟩:=hcut;obtain⟨w9,rfl⟩:=bn wc;obtain⟨a1,c1,rfl⟩:=b_ hls.oa;obtain⟨a2,c2,rfl⟩:=b_ hls.ob;have iF:=ai hls;have HRN9:=ai hrn;clear hls hrn;have p0:=dh.o w9 iF.o.st;go_wp2_with fail;cases hc:bH R.l jn [43]with
         |true=>
          have HC:=ai hc;clear hc;refine(dw R HL.o ⟨#[43]⟩ _ jn d iF.o.rd dc HC.o).mono ?_;rintro e wa ⟨rfl,hra,sa⟩;have jD:=ai (iF.o.read hrb om hra sa);(have Tj:Hid (r=((fA gn R.l (jn+1) pl la lb).bind fun q j=>.ok ⟨nm,q.1,q.2,tk.line,tk.col⟩ j)):=by show _=_;rw[HRN9.o,HC.o,if_pos rfl]);clear hra sa p0;go_wp2_with fail;go_roundg gn;case rel=>exact⟨by omega,jn+1,la,lb,_,_,Tj.o,jD.o⟩
          case measure=>omega
         |false=>
          have HC:=ai hc;clear hc;refine(dX R HL.o ⟨#[43]⟩ _ jn d iF.o.rd dc HC.o).mono ?_;rintro e wa ⟨rfl,hra,sa⟩;have jD:=ai (iF.o.read hrb om hra sa);(have Oj:Hid (r=.ok ⟨nm,la,lb,tk.line,tk.col⟩ jn):=by show _=_;rw[HRN9.o,HC.o,if_neg dc];rfl);clear hra sa p0;have HNA:=ai jD.o.names;(have bY:Hid (∀(jj:Nat) v,[Value.string nm,.slice a1 la.length c1,.slice a2 lb.length c2,af tk.line,af tk.col][jj]?=some v→wa.cell? ⟨b,0+jj,none⟩=some v):=by intro jj v hv;rw[Nat.zero_add];exact ah jD.o.blk jj v qE);have dL:Hid (∀u∈[Value.string nm,.slice a1 la.length c1,.slice a2 lb.length c2,af tk.line,af tk.col],u.oneCell'=true):=aP rfl;have lN:=ai (uQ.o wa jD.o.st);go_wp2_with (first
           |(refine ay rfl 124 (.tmp 3) rfl b 0 rfl [Value.string nm,.slice a1 la.length c1,.slice a2 lb.length c2,af tk.line,af tk.col] _ bY.o Tryz.underlying124 rfl Tryz.yg ?_)
           |(refine au (w:=wa) rfl 124 (.tmp 2) (.tmp 65) rfl (w.heap.size+1) 0 124 _ [Value.string nm,.slice a1 la.length c1,.slice a2 lb.length c2,af tk.line,af tk.col] rfl rfl lN.o Tryz.yg (Nat.le_of_eq rfl) dL.o ?_;intro wR hbR dA))
          have iH:wR.heap[w.heap.size+1]?=some (.cells [Value.string nm,.slice a1 la.length c1,.slice a2 lb.length c2,af tk.line,af tk.col].toArray 124 (0,0)):=hbR;refine bodyPost_ret (aV rfl _ (w.heap.size+1) 124 _ _ rfl iH Tryz.underlying124 rfl Tryz.yg) rfl ?_;exact aJ.dQ Oj.o rfl ⟨_,rfl,_,_,rfl,VD.o,eF.mono _ _ L6 (eF.step _ _ dA L6 HNA.o.1),eF.mono _ _ L6 (eF.step _ _ dA L6 HNA.o.2)⟩ (jD.o.rd.step dA L6) ((gI.o _ jD.o.st).then dA L6)
theorem Tryz.Tn:(Tryz.prog.info? 124).map (fun i=>(i.zero,i.size,i.bytes))=some (some (.agg #[bW,aj,aj,af 0,af 0]),5,80):=by kernel_rfl
def BdsV (n0:Nat) (w':World) (a:List Bd) (v:Value):Prop:=kP Bq w' (fun k=>n0≤k) a v
theorem BL (f:Nat) (R:h_) (w:World) (i d:Nat) (hl:pF R.l) (h:bD R w i d) (hno:eU f R.l i≠.out):Calls Tryz.prog 94 #[.agg #[fM R.rb 0]] w (aJ R d (BdsV w.heap.size) (eU f R.l i) w):=by
 have HL:=ai hl;obtain⟨r,hr⟩:=bn (eU f R.l i);have HRR:Hid (r=if bH R.l i [119,104,101,114,101]then jc f R.l (i+1) []else .ok [] i):=by show _=_;rw[hr,eU]
 rw[←hr]at hno⊢;have f_:=ai hno;obtain⟨i0,hi0,hz0,hz1,hz2⟩:=info_parts Tryz.Tn;have HI:=ai hi0;have HZ0:=ai hz0;have HZ1:=ai hz1;have HZ2:=ai hz2;obtain⟨w1,hw1⟩:=bn (w.alloc (.cells #[fM R.rb 0] 75));have dF:=nS hw1
 have kG:=nB hw1
 have HW1:=ai hw1;have H1:=ai (h.quiet dF.o);have hn1:=aC kG.o;have vK:=aC h.blk;have hwz:R.rb<w1.heap.size:=by omega
 have dh:Hid (∀X:World,Step (·=R.rb) w1 X→X.cell? ⟨w.heap.size,0,none⟩=some (.pointer (some ⟨R.rb,0,none⟩))):=fun X hX=>ah (hX.keep kG.o om) 0 _ rfl
 have gI:Hid (∀X:World,Step (·=R.rb) w1 X→Step (·=R.rb) w X):=fun X hX=>(dF.o.mono fe).trans hX
 clear hw1;have p0:=dh.o w1 bV;clear hl h hno hr hi0 hz0 hz1 hz2;go_enter Tryz.func94,Tryz.ntmps94;go_upto_region 2 with fail
 rw[←HW1.o];go_wp2_with fail;cases hb:bH R.l i [119,104,101,114,101]with
 |false=>
  have HB:=ai hb;clear hb;refine(dX R HL.o ⟨#[119,104,101,114,101]⟩ _ i d H1.o dc HB.o).mono ?_;rintro e w2 ⟨rfl,hr2,h2⟩;have lJ:=ai (HRR.o.trans (yR HB.o))
  have HR2:=ai hr2;have HS2:=ai h2;clear hr2 h2 p0;go_wp2_with fail;go_ret;exact aJ.dQ lJ.o rfl (kP.nil _ _) HR2.o (gI.o _ HS2.o)
 |true=>
  have HB:=ai hb;clear hb;refine(dw R HL.o ⟨#[119,104,101,114,101]⟩ _ i d H1.o dc HB.o).mono ?_;rintro e w2 ⟨rfl,hr2,h2⟩;have lJ:=ai (HRR.o.trans (if_pos HB.o))
  have HR2:=ai hr2;have HS2:=ai h2;clear hr2 h2 p0;go_wp2_with fail;go_loopg [3] f (fun gg s3 wr=>gg≤f∧∃(i':Nat) (acc:List Bd) (xs:List Value),r=jc gg R.l i' acc∧AA Bq 124 5 R w1 d wr i' acc s3 xs);case atStart=>exact⟨Nat.le_refl _,i+1,[],[],lJ.o,HR2.o,World.ownsRow_nil _ _ _ _,rfl,HS2.o⟩
  case round=>
   obtain⟨hgf,i',acc,xs,hrq,hst⟩:=hrel;obtain⟨gn,rfl⟩:∃gn,gk=gn+1:=by
    cases gk with
    |zero=>exact absurd hrq (by rw[jc];exact f_.o)
    |succ gn=>exact⟨gn,rfl⟩
   (have vF:Hid (r=(eH acc.length 16 R.l i').bind fun _ i=>(mP gn R.l i).bind fun x j=>if bH R.l j [44]then jc gn R.l (j+1) (acc++[x])else .ok (acc++[x]) j):=by show _=_;rw[hrq,jc]);obtain⟨oa,oc,rfl⟩:=b_ hst.ow;have HST:=ai hst;have p0:=dh.o wr hst.st;clear hrq hst;go_wp2_with fail;refine(nH R wr acc.length 16 i' d HST.o.rd).mono ?_;rintro e w3 hp;cases hn:eH acc.length 16 R.l i' with
   |out=>exact(lV hn).elim
   |err c ln col=>rw[hn]at hp;obtain⟨rfl,s3⟩:=hp;exact⟨rfl,aJ.aW c ln col (by rw[vF.o,hn];rfl) rfl (gI.o _ (HST.o.st.trans s3))⟩
   |ok u j3=>
    have hji:j3=i'∧acc.length<16:=by
     unfold eH at hn;split at hn
     ·cases hn
     ·cases hn;exact⟨rfl,by omega⟩
    obtain⟨hj3,hlt⟩:=hji;have wW:=ai hn;rw[hn]at hp;obtain⟨⟨v,rfl,rfl⟩,hr3,s3⟩:=hp;have gu:=ai (HST.o.read gq hwz hr3 s3);have qw:=ai (vF.o.trans (yG wW.o));clear hn hr3 s3 p0 hj3;have p0:=dh.o w3 gu.o.st;go_wp2_with fail;refine(Tm gn R w3 j3 d HL.o gu.o.rd (fun e=>f_.o (by rw[qw.o,e];rfl))).mono ?_;rintro e wx hp;have hp2:aJ R d (BdV w3.heap.size) (mP gn R.l j3) _ e wx:=hp;cases hx:mP gn R.l j3 with
    |out=>exact absurd (by rw[qw.o,hx];rfl) f_.o
    |err c ln col=>rw[hx]at hp2;obtain⟨rfl,sq⟩:=hp2;exact⟨rfl,aJ.aW c ln col (by rw[qw.o,hx];rfl) rfl (gI.o _ (gu.o.st.trans sq))⟩
    |ok x jx=>
     have HX:=ai hx;rw[hx]at hp2;obtain⟨⟨v,rfl,cs,rfl,hy⟩,hrx,hsx⟩:=hp2;have vU:=ai (gq.len _ _ hy);have dL:=ai (gq.one _ _ hy);have NG:=ai (qw.o.trans (yG HX.o));obtain⟨w4,hw4⟩:=bn (wx.alloc (.cells cs.toArray 124));(have jv:Hid (jP wx w4):=by rw[hw4];exact bV.alloc _);have fP:=ai ((gu.o.read gq hwz hrx hsx).quiet gq jv.o);have SE:Hid (Bq w4 (fun q=>w3.heap.size≤q) x cs):=gq.step _ _ jv.o (fun _ _ h=>h) hy;(have Jd:Hid ((wx.alloc (.cells cs.toArray 124)).ownsRow w1.heap.size 124 5 (.slice oa acc.length oc) acc.length xs):=by rw[←hw4];exact fP.o.ow);have Ak:Hid (Row (wx.alloc (.cells cs.toArray 124)) (wx.heap.size+1) (.slice (some ⟨wx.heap.size,0,none⟩) 1 1) 1 cs):=Row.new (aB _ _) dc;(have Je:Hid (w1.heap.size≤(wx.alloc (.cells cs.toArray 124)).heap.size):=by rw[←hw4];exact fP.o.st.size);have Y4:=ai hw4;have SK:=ai hlt;(have hC1:i0.size=cs.length:=by rw[vU.o];exact HZ1.o);(have hC2:(Value.agg #[bW,aj,aj,af 0,af 0]).cells.size=cs.length:=by rw[vU.o];rfl);(have hC3:0<cs.length:=by rw[vU.o];decide);(have hC4:cs.length≤16777216:=by rw[vU.o];decide);(have hC5:cs.length=1*5:=by rw[vU.o]);have HC:=ai (And.intro hC1 (And.intro hC2 (And.intro hC3 (And.intro hC4 hC5))));clear hx hp hy hrx hsx p0 hw4 hlt hC1 hC2 hC3 hC4 hC5;go_upto_region 6 with(first
      |(refine mV rfl 47 (.tmp 15) rfl 124 i0 (.agg #[bW,aj,aj,af 0,af 0]) cs rfl Tryz.underlying47 HI.o HZ0.o HC.o.1 HC.o.2.1 HC.o.2.2.1 HC.o.2.2.2.1 ?_)
      |(refine kH _ rfl (wx.heap.size+1) (.tmp 13) (.tmp 16) 47 rfl w1.heap.size 124 i0 (.agg #[bW,aj,aj,af 0,af 0]) 5 80 Tryz.underlying47 HI.o HZ0.o HZ1.o HZ2.o rfl dc _ _ _ (by rfl) Jd.o _ 1 _ (by rfl) Ak.o HC.o.2.2.2.2 dL.o (by have:=SK.o;unfold maxLen;omega) (by have:=SK.o;omega) Je.o ?_;intro v9 w9 iY iq p_))
     rw[←Y4.o]at iq p_;have iF:=ai (gu.o.push gq fP.o SE.o iY iq p_ hwz);clear iY iq p_;have p0:=dh.o w9 iF.o.st;go_wp2_with fail;cases hc:bH R.l jx [44]with
     |true=>
      have WE:=ai hc;clear hc;refine(dw R HL.o ⟨#[44]⟩ _ jx d iF.o.rd dc WE.o).mono ?_;rintro e w6 ⟨rfl,qH,s6⟩;have fH:=ai (iF.o.read gq hwz qH s6);(have Ah:Hid (r=jc gn R.l (jx+1) (acc++[x])):=by show _=_;rw[NG.o,WE.o,if_pos rfl]);clear qH s6 p0;go_wp2_with fail;go_roundg gn;case rel=>exact⟨by omega,jx+1,acc++[x],_,Ah.o,fH.o⟩
      case measure=>omega
     |false=>have WE:=ai hc;clear hc;refine(dX R HL.o ⟨#[44]⟩ _ jx d iF.o.rd dc WE.o).mono ?_;rintro e w6 ⟨rfl,qH,s6⟩;have fH:=ai (iF.o.read gq hwz qH s6);(have Ah:Hid (r=.ok (acc++[x]) jx):=by show _=_;rw[NG.o,WE.o,if_neg dc]);clear qH s6 p0;go_wp2_with fail;go_ret;have hsz:=dF.o.size;exact aJ.dQ Ah.o rfl ⟨_,aS.jb fH.o.ow (fun q hq=>by have:=(fH.o.ow.lt q hq).1;omega),wQ.mono gq (fun q _ hq=>by have:=hq.1;omega) _ _ fH.o.el⟩ fH.o.rd (gI.o _ fH.o.st)
theorem QA (f:Nat) (ih:xE f) (R:h_) (w:World) (i d:Nat) (hl:pF R.l) (h:bD R w i d) (hd:d≤40) (hno:kK f R.l i d≠.out):Calls Tryz.prog 95 #[.agg #[fM R.rb 0]] w (aJ R d (TyV w.heap.size) (kK f R.l i d) w):=by
 have HL:=ai hl;have IH:=ai ih;obtain⟨r,hr⟩:=bn (kK f R.l i d);have HRR:Hid (r=if bH R.l i [45,62]then iZ f R.l (i+1) d else .ok dU i):=by show _=_;rw[hr,kK]
 rw[←hr]at hno⊢;have f_:=ai hno;have vK:=aC h.blk;obtain⟨w1,hw1⟩:=bn ((w.alloc (.cells #[fM R.rb 0] 75)).alloc (.cells #[af 0,bW,bW,aT,aj,aj,af 0,af 0] 46));have dF:=nT hw1
 have kG:=nC hw1
 have lm:=nD hw1
 have HW1:=ai hw1;have H1:=ai (h.quiet dF.o);have hn1:=aC lm.o;have hsz:=dF.o.size;have dh:Hid (∀X:World,Step (·=R.rb) w1 X→X.cell? ⟨w.heap.size,0,none⟩=some (.pointer (some ⟨R.rb,0,none⟩))):=fun X hX=>ah (hX.keep kG.o om) 0 _ rfl
 have p0:=dh.o w1 bV;clear ih hl h hno hr hw1;go_enter Tryz.func95,Tryz.ntmps95;go_upto_region 1 with fail
 rw[←HW1.o];go_wp2_with fail;cases hb:bH R.l i [45,62]with
 |false=>
  have HB:=ai hb;clear hb;refine(dX R HL.o ⟨#[45,62]⟩ _ i d H1.o dc HB.o).mono ?_;rintro e w2 ⟨rfl,hr2,h2⟩;have lJ:=ai (HRR.o.trans (yR HB.o))
  have HR2:=ai hr2;have HS2:=ai h2;have lN:=ai (h2.keep lm.o om);clear hr2 h2 p0
  go_wp2_with (refine au (w:=w2) rfl 46 (.tmp 2) (.tmp 7) rfl (w.heap.size+1) 0 46 _ [.int .i64 0,.string di,.string di,.bool false,.slice none 0 0,.slice none 0 0,.int .i64 0,.int .i64 0] rfl rfl lN.o Tryz.cu (Nat.le_of_eq rfl) (aP rfl) ?_
               intro wR hbR dA)
  have iH:wR.heap[w.heap.size+1]?=some (.cells ([.int .i64 0,.string di,.string di,.bool false,.slice none 0 0,.slice none 0 0,.int .i64 0,.int .i64 0]:List Value).toArray 46 (0,0)):=hbR;refine bodyPost_ret (aV rfl _ (w.heap.size+1) 46 _ _ rfl iH Tryz.underlying46 rfl Tryz.cu) rfl ?_;exact aJ.dQ lJ.o rfl ⟨_,rfl,uP _ _⟩ (HR2.o.step dA L6) (((dF.o.mono fe).trans HS2.o).then dA L6)
 |true=>
  have HB:=ai hb;clear hb;refine(dw R HL.o ⟨#[45,62]⟩ _ i d H1.o dc HB.o).mono ?_;rintro e w2 ⟨rfl,hr2,h2⟩;have lJ:=ai (HRR.o.trans (if_pos HB.o))
  have HR2:=ai hr2;have HS2:=ai h2;clear hr2 h2 p0;have p0:=dh.o w2 HS2.o;go_wp2_with fail;refine(IH.o R _ (i+1) d HL.o HR2.o hd (fun e=>f_.o (by rw[lJ.o,e]))).mono ?_;rintro e wx hp;have hp2:aJ R d (TyV w2.heap.size) (iZ f R.l (i+1) d) _ e wx:=hp;cases hx:iZ f R.l (i+1) d with
  |out=>exact absurd (by rw[lJ.o,hx]) f_.o
  |err c ln col=>rw[hx]at hp2;obtain⟨rfl,sq⟩:=hp2;exact⟨rfl,aJ.aW c ln col (by rw[lJ.o,hx]) rfl (((dF.o.mono fe).trans HS2.o).trans sq)⟩
  |ok ty jx=>
   have HX:=ai hx;rw[hx]at hp2;obtain⟨⟨v,rfl,cs,rfl,hy⟩,hrx,hsx⟩:=hp2;obtain⟨nK,nM,nN,nO,nP,nR,nU,ta2,nV,nX,tl1,nY,rfl⟩:=hy.parts;have HY:=ai hy;have wP:=ai hrx;have qW:=ai (HS2.o.trans hsx);have lN:=ai ((HS2.o.trans hsx).keep lm.o om);have hz2:=HS2.o.size;clear hx hp hy hrx hsx p0
   go_wp2_with (refine au (w:=wx) rfl 46 (.tmp 2) (.tmp 9) rfl (w.heap.size+1) 0 46 _ [.int .i64 nK,.string nM,.string nN,.bool nO,.slice nP nR nU,.slice ta2 nV nX,.int .i64 tl1,.int .i64 nY] rfl rfl lN.o Tryz.cu (Nat.le_of_eq rfl) (aP rfl) ?_
                intro wR hbR dA)
   have iH:wR.heap[w.heap.size+1]?=some (.cells [Value.int .i64 nK,aG nM,aG nN,bC nO,.slice nP nR nU,.slice ta2 nV nX,af tl1,af nY].toArray 46 (0,0)):=hbR;refine bodyPost_ret (aV rfl _ (w.heap.size+1) 46 _ _ rfl iH Tryz.underlying46 rfl Tryz.cu) rfl ?_;exact aJ.dQ (by rw[lJ.o,HX.o]) rfl ⟨_,rfl,dJ.mono L6 _ _ (dJ.step dA L6 _ _ HY.o)⟩ (wP.o.step dA L6) (((dF.o.mono fe).trans qW.o).then dA L6)
theorem Tryz.Ib:(Tryz.prog.info? 121).map (·.size)=some 11:=by kernel_rfl
theorem Tryz.Tq:(Tryz.prog.info? 121).map (fun i=>(i.zero,i.size,i.bytes))=some (some (.agg #[bW,af 0,bW,bW,aT,aj,aj,af 0,af 0,af 0,af 0]),11,144):=by kernel_rfl
def ZF (n0:Nat) (w':World) (a:List Pm) (v:Value):Prop:=kP H8 w' (fun k=>n0≤k) a v
theorem zk (f:Nat) (ih:∀f',f'<f→xE f') (R:h_) (w:World) (i d:Nat) (en:ByteArray) (m:Nat) (hl:pF R.l) (h:bD R w i d) (hd:d≤40) (hen:en.size≤100000) (hm:m≤1000) (hno:fD f R.l i d en.data.toList m≠.out):Calls Tryz.prog 91 #[.agg #[fM R.rb 0],.string en,.int .i64 m] w (aJ R d (ZF w.heap.size) (fD f R.l i d en.data.toList m) w):=by
 have HL:=ai hl;have IH:=ai ih;obtain⟨el,hel⟩:=bn en.data.toList;have AL:=ai hel;have HEN:=ai hen;rw[←hel]at hno⊢;obtain⟨r,hr⟩:=bn (fD f R.l i d el m);have HRR:Hid (r=if bH R.l i el then .ok [] (i+1)else mr f R.l i d el m []):=by show _=_;rw[hr,fD]
 rw[←hr]at hno⊢;have f_:=ai hno;obtain⟨i0,hi0,hz0,hz1,hz2⟩:=info_parts Tryz.Tq;have HI:=ai hi0;have HZ0:=ai hz0;have HZ1:=ai hz1;have HZ2:=ai hz2;obtain⟨w1,hw1⟩:=bn (w.alloc (.cells #[fM R.rb 0] 75));have dF:=nS hw1
 have kG:=nB hw1
 have HW1:=ai hw1;have H1:=ai (h.quiet dF.o);have hn1:=aC kG.o;have vK:=aC h.blk;have hwz:R.rb<w1.heap.size:=by omega
 have dh:Hid (∀X:World,Step (·=R.rb) w1 X→X.cell? ⟨w.heap.size,0,none⟩=some (.pointer (some ⟨R.rb,0,none⟩))):=fun X hX=>ah (hX.keep kG.o om) 0 _ rfl
 have gI:Hid (∀X:World,Step (·=R.rb) w1 X→Step (·=R.rb) w X):=fun X hX=>(dF.o.mono fe).trans hX
 clear hw1;have p0:=dh.o w1 bV;have HIS:Hid (∀X i,bD R X i d→bH R.l i el=true→Calls Tryz.prog 77 #[.pointer (some ⟨R.rb,0,none⟩),.string en] X fun e w'=>e=.returned (.bool true)∧bD R w' (i+1) d∧Step (·=R.rb) X w'):=by intro X i hX hb;exact dw R HL.o en X i d hX HEN.o (by rw[←AL.o];exact hb)
 have HISN:Hid (∀X i,bD R X i d→bH R.l i el=false→Calls Tryz.prog 77 #[.pointer (some ⟨R.rb,0,none⟩),.string en] X fun e w'=>e=.returned (.bool false)∧bD R w' i d∧Step (·=R.rb) X w'):=by intro X i hX hb;exact dX R HL.o en X i d hX HEN.o (by rw[←AL.o];exact hb)
 have HND:Hid (∀X g i,bD R X i d→X.cell? ⟨g,0,none⟩=some (.string en)→Calls Tryz.prog 78 #[.pointer (some ⟨R.rb,0,none⟩),.slice (some ⟨g,0,none⟩) 1 1] X (aJ R d iR (aI R.l i el) X)):=by intro X g i hX hc;rw[AL.o];exact dO R HL.o g en X i d hX HEN.o hc
 clear ih hl h hno hr hel hen hi0 hz0 hz1 hz2;go_enter Tryz.func91,Tryz.ntmps91;go_upto_region 2 with fail
 rw[←HW1.o];go_wp2_with fail;cases hb:bH R.l i el with
 |true=>
  have HB:=ai hb;clear hb;refine(HIS.o _ i H1.o HB.o).mono ?_;rintro e w2 ⟨rfl,hr2,h2⟩;have lJ:=ai (HRR.o.trans (if_pos HB.o))
  have HR2:=ai hr2;have HS2:=ai h2;clear hr2 h2 p0;go_wp2_with fail;go_ret;exact aJ.dQ lJ.o rfl (kP.nil _ _) HR2.o (gI.o _ HS2.o)
 |false=>
  have HB:=ai hb;clear hb;refine(HISN.o _ i H1.o HB.o).mono ?_;rintro e w2 ⟨rfl,hr2,h2⟩;have lJ:=ai (HRR.o.trans (yR HB.o))
  have HR2:=ai hr2;have HS2:=ai h2;clear hr2 h2 p0;go_wp2_with fail;go_loopg [7] f (fun gg s7 wr=>gg≤f∧∃(i':Nat) (acc:List Pm) (xs:List Value),r=mr gg R.l i' d el m acc∧AA H8 121 11 R w1 d wr i' acc s7 xs);case atStart=>exact⟨Nat.le_refl _,i,[],[],lJ.o,HR2.o,World.ownsRow_nil _ _ _ _,rfl,HS2.o⟩
  case round=>
   obtain⟨hgf,i',acc,xs,hrq,hst⟩:=hrel;obtain⟨gn,rfl⟩:∃gn,gk=gn+1:=by
    cases gk with
    |zero=>exact absurd hrq (by rw[mr];exact f_.o)
    |succ gn=>exact⟨gn,rfl⟩
   obtain⟨tk,htk⟩:=bn (tokA R.l i');(have vF:Hid (r=(eH acc.length m R.l i').bind fun _ i=>(bI R.l i).bind fun n j=>(aI R.l j [58]).bind fun _ j=>(iZ gn R.l j d).bind fun ty j=>if bH R.l j [44]then mr gn R.l (j+1) d el m (acc++[⟨n,ty,(tokA R.l i).line,(tokA R.l i).col⟩])else(aI R.l j el).bind fun _ j=>.ok (acc++[⟨n,ty,(tokA R.l i).line,(tokA R.l i).col⟩]) j):=by show _=_;rw[hrq,mr]);obtain⟨oa,oc,rfl⟩:=b_ hst.ow;have HST:=ai hst;have p0:=dh.o wr hst.st;clear hrq hst;go_wp2_with fail;refine(nH R wr acc.length m i' d HST.o.rd).mono ?_;rintro e w3 hp;cases hn:eH acc.length m R.l i' with
   |out=>exact(lV hn).elim
   |err c ln col=>rw[hn]at hp;obtain⟨rfl,s3⟩:=hp;exact⟨rfl,aJ.aW c ln col (by rw[vF.o,hn];rfl) rfl (gI.o _ (HST.o.st.trans s3))⟩
   |ok u j=>
    have hji:j=i'∧acc.length<m:=by
     unfold eH at hn;split at hn
     ·cases hn
     ·cases hn;exact⟨rfl,by omega⟩
    obtain⟨rfl,hlt⟩:=hji;have wW:=ai hn;rw[hn]at hp;obtain⟨⟨v,rfl,rfl⟩,hr3,s3⟩:=hp;have gu:=ai (HST.o.read iI hwz hr3 s3);(have qw:Hid (r=(bI R.l j).bind fun n k=>(aI R.l k [58]).bind fun _ j=>(iZ gn R.l j d).bind fun ty j=>if bH R.l j [44]then mr gn R.l (j+1) d el m (acc++[⟨n,ty,tk.line,tk.col⟩])else(aI R.l j el).bind fun _ j=>.ok (acc++[⟨n,ty,tk.line,tk.col⟩]) j):=by show _=_;rw[vF.o,wW.o,htk];rfl);have HT:=ai (show R.l[j]?=some tk by rw[htk];exact gu.o.rd.tok);have HW31:=gu.o.st.size;clear hn hr3 s3 p0 htk;obtain⟨r1,hr1⟩:=bn (bI R.l j);have HR1:=ai hr1;(have zH:Hid (r1≠.out):=by rw[hr1];exact fun e=>iV e);(have Ve:Hid (r=r1.bind fun n k=>(aI R.l k [58]).bind fun _ j=>(iZ gn R.l j d).bind fun ty j=>if bH R.l j [44]then mr gn R.l (j+1) d el m (acc++[⟨n,ty,tk.line,tk.col⟩])else(aI R.l j el).bind fun _ j=>.ok (acc++[⟨n,ty,tk.line,tk.col⟩]) j):=by show _=_;rw[qw.o,hr1]);obtain⟨Jx,hJx⟩:=bn (AJ R j d w3 #[.string ⟨#[]⟩,.int .i64 0,.string ⟨#[]⟩,.string ⟨#[]⟩,.bool false,.slice none 0 0,.slice none 0 0,.int .i64 0,.int .i64 0,.int .i64 0,.int .i64 0] (fun s=> #[.string s,.int .i64 0,.string ⟨#[]⟩,.string ⟨#[]⟩,.bool false,.slice none 0 0,.slice none 0 0,.int .i64 0,.int .i64 0,.int .i64 tk.line,.int .i64 tk.col]) 121 r1 5 6 7 8 [some (.pointer (some ⟨w.heap.size,0,none⟩)),some (.pointer (some ⟨R.rb,0,none⟩)),some (.agg #[af tk.line,af tk.col]),some (.pointer (some ⟨w.heap.size,0,none⟩)),some (.pointer (some ⟨R.rb,0,none⟩)),none,none,none,none]);have dV:=ai hJx;clear hJx hr1;(go_upto_region 5 with fail);go_cut [8] (fun s8 wx=>∃(nm:ByteArray) (k b:Nat),bI R.l j=.ok nm k∧s8=.pointer (some ⟨b,0,none⟩)∧bD R wx k d∧w3.heap.size≤b∧wx.heap[b]?=some (.cells #[aG nm,af 0,bW,bW,aT,aj,aj,af 0,af 0,af tk.line,af tk.col] 121 (0,0))∧Step (·=R.rb) w3 wx);case first=>
     (have yJ:Hid (∀X:World,Step (·=R.rb) w3 X→X.cell? ⟨w.heap.size,0,none⟩=some (.pointer (some ⟨R.rb,0,none⟩))):=by intro X hX;exact dh.o X (gu.o.st.trans hX));refine bG kr Jx 9 rfl kr kr kr kr ?h0 ?hs ?hdone;case h0=>rw[dV.o];exact AJ.zero (bV.drew) gu.o.rd
     case hs=>
      refine⟨?_,?_,?_,?_,?_,?_,?_,?_,?_,trivial⟩
      all_goals (intro L V X a ev gJ hdf hL ak hJ;rw[dV.o]at hJ)
      ·have o3:=gJ 3 rfl;change a.tmps[3]?.getD undef=.pointer (some ⟨w.heap.size,0,none⟩)at o3;go_simp;exact Dk
      ·have e19:=(ev 0 19 rfl (ak 0 rfl)).trans (hJ.iO 0 _ rfl (ak 0 rfl));have p0:=yJ.o X hJ.st;go_simp;exact Dk
      ·have e20:=(ev 1 20 rfl (ak 1 rfl)).trans (hJ.iO 1 _ rfl (ak 1 rfl));have h5:L 5=false:=by
        cases e:L 5 with
        |false=>rfl
        |true=>exact absurd (hJ.qc e) (by rw[hL];decide)
       obtain⟨i9,y1,y2⟩:=hJ.rd;rw[h5]at y2;have y3:i9=j:=y2;subst y3;go_simp;refine(at_at R X i9 d tk y1 HT.o).mono ?_;rintro e wq ⟨rfl,hs⟩;exact⟨_,rfl,by rw[dV.o];exact(hJ.move hs).up 2 rfl dc dc dc dc⟩
      ·have o3:=gJ 3 rfl;change a.tmps[3]?.getD undef=.pointer (some ⟨w.heap.size,0,none⟩)at o3;go_simp;exact Dk
      ·have e22:=(ev 3 22 rfl (ak 3 rfl)).trans (hJ.iO 3 _ rfl (ak 3 rfl));have p0:=yJ.o X hJ.st;go_simp;exact Dk
      ·have e23:=(ev 4 23 rfl (ak 4 rfl)).trans (hJ.iO 4 _ rfl (ak 4 rfl));obtain⟨i9,y1,y2⟩:=hJ.rd;rw[hL]at y2;have y3:i9=j:=y2;subst y3;go_simp;refine(name_any R HL.o X i9 d y1).mono ?_;intro e wq hp;rw[←HR1.o]at hp;cases hx:r1 with
       |out=>exact absurd hx zH.o
       |err cc ln col=>rw[hx]at hp;obtain⟨rfl,hs⟩:=hp;exact⟨hdf,aJ.aW cc ln col (by rw[Ve.o,hx];rfl) rfl (gI.o _ ((gu.o.st.trans hJ.st).trans hs))⟩
       |ok s9 k9=>have hx0:=hx;rw[hx]at hp;obtain⟨⟨v,rfl,rfl⟩,hr,hs⟩:=hp;exact⟨_,rfl,by rw[dV.o];exact hJ.call dc om hL (ak 2 rfl) rfl hs hr hx0⟩
      ·have e21:=(ev 2 21 rfl (ak 2 rfl)).trans (hJ.iO 2 _ rfl (ak 2 rfl));obtain⟨s9,k9,y1,y2⟩:=hJ.vc (ak 5 rfl);have e24:=(ev 5 24 rfl (ak 5 rfl)).trans y2;go_simp;exact⟨_,rfl,by rw[dV.o];exact hJ.build dc (ak 5 rfl) hL rfl y2⟩
      ·go_simp;exact⟨_,rfl,by rw[dV.o];exact hJ.alloc dc hL rfl⟩
      ·obtain⟨b9,y1,y2,y3,-⟩:=hJ.vl (ak 7 rfl);obtain⟨s9,k9,y4,y5⟩:=hJ.vb (ak 6 rfl);have e8:=(ev 7 8 rfl (ak 7 rfl)).trans y1;have e25:=(ev 6 25 rfl (ak 6 rfl)).trans y5;refine eG 121 (.tmp 8) (.tmp 25) rfl b9 0 121 _ [.string s9,.int .i64 0,.string ⟨#[]⟩,.string ⟨#[]⟩,.bool false,.slice none 0 0,.slice none 0 0,.int .i64 0,.int .i64 0,.int .i64 tk.line,.int .i64 tk.col] (by rw[bK];exact e8) (by rw[bK];exact e25) (y3 hL) Tryz.Ib (Nat.le_of_eq rfl) (aP rfl) ?_;intro w9 ig hs9;exact⟨undef,rfl,by rw[dV.o];exact hJ.put dc om (ak 6 rfl) (ak 7 rfl) (fun u hu=>by cases hu) y4 y1 hs9 ig undef⟩
     case hdone=>intro L V X hall hJ;rw[dV.o]at hJ;obtain⟨s9,k9,b9,h1,h2,h3,h4,h5,h6⟩:=hJ.done (hall 5 dc) (hall 7 dc) (hall 8 dc);(have HD1:Hid (bI R.l j=.ok s9 k9):=by rw[←HR1.o];exact h1);have HD3:=ai h3;have HD5:=ai h5;have HD6:=ai h6;rw[UN];simp only[lX,dZ,List.getElem?_toArray,List.getElem?_cons_zero,List.getElem?_cons_succ,Option.bind_some,Act.put,List.setIfInBounds_toArray,List.set_cons_zero,List.set_cons_succ,h2];clear hJ hall h1 h2 h3 h5 h6;go_wp2_with fail;go_meet;case rel=>exact⟨s9,k9,b9,HD1.o,rfl,HD3.o,h4,HD5.o,HD6.o⟩
    case rest=>
     obtain⟨nm,k,b,hnm,rfl,LC,hb5,hblk5,hs5⟩:=hcut;obtain⟨w5,rfl⟩:=bn wc;have Za:=ai hnm;have VD:=ai (fU HL.o gu.o.rd.lt hnm);have YD:=ai LC;have CJ:=ai hblk5;have um:=ai hs5;have NG:=ai (qw.o.trans (yG Za.o));clear hnm LC hblk5 hs5;have p0:=dh.o w5 (gu.o.st.trans um.o);go_wp2_with fail;refine(dO R HL.o w5.heap.size ⟨#[58]⟩ _ k d (YD.o.quiet (bV.alloc _)) dc (ah (aB _ _) 0 _ rfl)).mono ?_;rintro e w6 hp;have hp2:aJ R d iR (aI R.l k [58]) _ e w6:=hp;cases hn:aI R.l k [58]with
     |out=>exact(dH hn).elim
     |err c ln col=>rw[hn]at hp2;obtain⟨rfl,sb⟩:=hp2;exact⟨rfl,aJ.aW c ln col (by rw[NG.o,hn];rfl) rfl (gI.o _ ((gu.o.st.trans um.o).trans (((Step.refl (·=R.rb) _).alloc _).trans sb)))⟩
     |ok u2 k6=>
      have qA:=ai hn;rw[hn]at hp2;obtain⟨⟨v,rfl,rfl⟩,qH,s6⟩:=hp2;have SG:Hid (Step (·=R.rb) w5 w6):=((Step.refl (·=R.rb) _).alloc _).trans s6;have Ah:=ai qH;have Hf:=ai (SG.o.keep CJ.o om);have wX:=ai (um.o.trans SG.o);have F7:=ai (NG.o.trans (yG qA.o));clear hn qH s6 p0 hp;have p0:=dh.o w6 (gu.o.st.trans wX.o);go_wp2_with fail;refine(IH.o gn om R _ k6 d HL.o Ah.o hd (fun e=>f_.o (by rw[F7.o,e];rfl))).mono ?_;rintro e wx hp;have hp2:aJ R d (TyV w6.heap.size) (iZ gn R.l k6 d) _ e wx:=hp;cases hx:iZ gn R.l k6 d with
      |out=>exact absurd (by rw[F7.o,hx];rfl) f_.o
      |err c ln col=>rw[hx]at hp2;obtain⟨rfl,sq⟩:=hp2;exact⟨rfl,aJ.aW c ln col (by rw[F7.o,hx];rfl) rfl (gI.o _ ((gu.o.st.trans wX.o).trans sq))⟩
      |ok ty jx=>
       have HX:=ai hx;rw[hx]at hp2;obtain⟨⟨v,rfl,cs,rfl,hy⟩,hrx,hsx⟩:=hp2;obtain⟨nK,nM,nN,nO,nP,nR,nU,ta2,nV,nX,tl1,nY,rfl⟩:=hy.parts;have HY:=ai hy;have wP:=ai hrx;have qW:=ai (wX.o.trans hsx);have UB:=ai (hsx.keep Hf.o om);have Zb:=ai (F7.o.trans (yG HX.o));have hz5:=um.o.size;have hz6:=SG.o.size;have hzx:=hsx.size;have hbx:=aC UB.o;clear hx hp hy hrx hsx p0
       go_upto_region 8 with(refine au (w:=wx) rfl 46 (.tmp 32) (.tmp 31) rfl b 1 121 _ [Value.int .i64 nK,aG nM,aG nN,bC nO,.slice nP nR nU,.slice ta2 nV nX,af tl1,af nY] rfl rfl UB.o Tryz.cu (show 1+8≤11 by decide) (aP rfl) ?_
                             intro w7 hb7 y8)
       have Ll:Hid (w7.heap[b]?=some (.cells #[aG nm,af nK,aG nM,aG nN,bC nO,.slice nP nR nU,.slice ta2 nV nX,af tl1,af nY,af tk.line,af tk.col] 121 (0,0))):=hb7;have Y5:Hid (Step (·=R.rb) w3 w7):=qW.o.then y8 L6;have HR7:=ai (wP.o.step y8 L6);have HY7:Hid (dJ w7 (fun q=>w3.heap.size≤q∧q≠b) ty [Value.int .i64 nK,aG nM,aG nN,bC nO,.slice nP nR nU,.slice ta2 nV nX,af tl1,af nY]):=dJ.mono (fun q _ hq=>⟨by have:=hq.1;omega,hq.2⟩) _ _ (dJ.step y8 (fun q hq e=>hq.2 e) _ _ (dJ.mono (P':=fun q=>w6.heap.size≤q∧q≠b) (fun q _ hq=>⟨hq,by have:=aC Hf.o;omega⟩) _ _ HY.o));clear hb7 y8;(have bY:Hid (∀(jj:Nat) v,[Value.string nm,af nK,aG nM,aG nN,bC nO,.slice nP nR nU,.slice ta2 nV nX,af tl1,af nY,af tk.line,af tk.col][jj]?=some v→w7.cell? ⟨b,0+jj,none⟩=some v):=by intro jj v hv;rw[Nat.zero_add];exact ah Ll.o jj v qE);obtain⟨w4,hw4⟩:=bn (w7.alloc (.cells [Value.string nm,af nK,aG nM,aG nN,bC nO,.slice nP nR nU,.slice ta2 nV nX,af tl1,af nY,af tk.line,af tk.col].toArray 121));(have jv:Hid (jP w7 w4):=by rw[hw4];exact bV.alloc _);have fP:=ai ((gu.o.read iI hwz HR7.o Y5.o).quiet iI jv.o);have SE:Hid (H8 w4 (fun q=>w3.heap.size≤q) ⟨nm,ty,tk.line,tk.col⟩ [Value.string nm,af nK,aG nM,aG nN,bC nO,.slice nP nR nU,.slice ta2 nV nX,af tl1,af nY,af tk.line,af tk.col]):=⟨[Value.int .i64 nK,aG nM,aG nN,bC nO,.slice nP nR nU,.slice ta2 nV nX,af tl1,af nY],rfl,VD.o,dJ.mono (fun q _ hq=>hq.1) _ _ (dJ.step jv.o (fun _ _ h=>h) _ _ HY7.o)⟩;(have Jd:Hid ((w7.alloc (.cells [Value.string nm,af nK,aG nM,aG nN,bC nO,.slice nP nR nU,.slice ta2 nV nX,af tl1,af nY,af tk.line,af tk.col].toArray 121)).ownsRow w1.heap.size 121 11 (.slice oa acc.length oc) acc.length xs):=by rw[←hw4];exact fP.o.ow);have Ak:Hid (Row (w7.alloc (.cells [Value.string nm,af nK,aG nM,aG nN,bC nO,.slice nP nR nU,.slice ta2 nV nX,af tl1,af nY,af tk.line,af tk.col].toArray 121)) (w7.heap.size+1) (.slice (some ⟨w7.heap.size,0,none⟩) 1 1) 1 [Value.string nm,af nK,aG nM,aG nN,bC nO,.slice nP nR nU,.slice ta2 nV nX,af tl1,af nY,af tk.line,af tk.col]):=Row.new (aB _ _) dc;(have Je:Hid (w1.heap.size≤(w7.alloc (.cells [Value.string nm,af nK,aG nM,aG nN,bC nO,.slice nP nR nU,.slice ta2 nV nX,af tl1,af nY,af tk.line,af tk.col].toArray 121)).heap.size):=by rw[←hw4];exact fP.o.st.size);have Y4:=ai hw4;have SK:=ai hlt;have HMM:=ai hm;have dL:Hid (∀u∈[Value.string nm,af nK,aG nM,aG nN,bC nO,.slice nP nR nU,.slice ta2 nV nX,af tl1,af nY,af tk.line,af tk.col],u.oneCell'=true):=aP rfl;clear hw4 hlt hm;go_upto_region 9 with(first
        |(refine ay rfl 121 (.tmp 8) rfl b 0 rfl [Value.string nm,af nK,aG nM,aG nN,bC nO,.slice nP nR nU,.slice ta2 nV nX,af tl1,af nY,af tk.line,af tk.col] _ bY.o Tryz.underlying121 rfl Tryz.Ib ?_)
        |(refine mV rfl 43 (.tmp 34) rfl 121 i0 (.agg #[bW,af 0,bW,bW,aT,aj,aj,af 0,af 0,af 0,af 0]) [Value.string nm,af nK,aG nM,aG nN,bC nO,.slice nP nR nU,.slice ta2 nV nX,af tl1,af nY,af tk.line,af tk.col] rfl Tryz.underlying43 HI.o HZ0.o HZ1.o rfl dc dc ?_)
        |(refine kH _ rfl (w7.heap.size+1) (.tmp 33) (.tmp 35) 43 rfl w1.heap.size 121 i0 (.agg #[bW,af 0,bW,bW,aT,aj,aj,af 0,af 0,af 0,af 0]) 11 144 Tryz.underlying43 HI.o HZ0.o HZ1.o HZ2.o rfl dc _ _ _ (by rfl) Jd.o _ 1 _ (by rfl) Ak.o rfl dL.o (by have:=SK.o;have:=HMM.o;unfold maxLen;omega) (by have:=SK.o;have:=HMM.o;omega) Je.o ?_;intro v9 w9 iY iq p_))
       rw[←Y4.o]at iq p_;have iF:=ai (gu.o.push iI fP.o SE.o iY iq p_ hwz);clear iY iq p_;have p0:=dh.o w9 iF.o.st;go_wp2_with fail;cases hc:bH R.l jx [44]with
       |true=>
        have WE:=ai hc;clear hc;refine(dw R HL.o ⟨#[44]⟩ _ jx d iF.o.rd dc WE.o).mono ?_;rintro e w6 ⟨rfl,qH,s6⟩;have fH:=ai (iF.o.read iI hwz qH s6);(have F6:Hid (r=mr gn R.l (jx+1) d el m (acc++[⟨nm,ty,tk.line,tk.col⟩])):=by show _=_;rw[Zb.o,WE.o,if_pos rfl]);clear qH s6 p0;go_wp2_with fail;go_roundg gn;case rel=>exact⟨by omega,jx+1,_,_,F6.o,fH.o⟩
        case measure=>omega
       |false=>
        have WE:=ai hc;clear hc;refine(dX R HL.o ⟨#[44]⟩ _ jx d iF.o.rd dc WE.o).mono ?_;rintro e wa ⟨rfl,hra,sa⟩;have jD:=ai (iF.o.read iI hwz hra sa);(have F6:Hid (r=(aI R.l jx el).bind fun _ j=>.ok (acc++[⟨nm,ty,tk.line,tk.col⟩]) j):=by show _=_;rw[Zb.o,WE.o,if_neg dc]);clear hra sa p0;have p0:=dh.o wa jD.o.st;go_wp2_with fail;refine(HND.o _ wa.heap.size jx (jD.o.rd.quiet (bV.alloc _)) (ah (aB _ _) 0 _ rfl)).mono ?_;rintro e wb hp;have hp2:aJ R d iR (aI R.l jx el) _ e wb:=hp;cases hn:aI R.l jx el with
        |out=>exact(dH hn).elim
        |err c ln col=>rw[hn]at hp2;obtain⟨rfl,sb⟩:=hp2;exact⟨rfl,aJ.aW c ln col (by rw[F6.o,hn];rfl) rfl (gI.o _ (jD.o.st.trans (((Step.refl (·=R.rb) _).alloc _).trans sb)))⟩
        |ok u3 jz=>have VE:=ai hn;rw[hn]at hp2;obtain⟨⟨v,rfl,rfl⟩,vP,sb⟩:=hp2;have uy:=ai (jD.o.read iI hwz vP (((Step.refl (·=R.rb) _).alloc _).trans sb));(have Oj:Hid (r=.ok (acc++[⟨nm,ty,tk.line,tk.col⟩]) jz):=by show _=_;rw[F6.o,VE.o];rfl);clear hn vP sb p0 hp;go_wp2_with fail;go_ret;have hsz:=dF.o.size;exact aJ.dQ Oj.o rfl ⟨_,aS.jb uy.o.ow (fun q hq=>by have:=(uy.o.ow.lt q hq).1;omega),wQ.mono iI (fun q _ hq=>by have:=hq.1;omega) _ _ uy.o.el⟩ uy.o.rd (gI.o _ uy.o.st)
theorem WG (R:h_) (w:World) (i d:Nat) (hl:pF R.l) (h:bD R w i d):Calls Tryz.prog 93 #[.agg #[fM R.rb 0]] w (aJ R d Gt (n_ R.l i) w):=by
 have HL:=ai hl;obtain⟨r,hr⟩:=bn (n_ R.l i);have HRR:Hid (r=if bH R.l i [105,110,116]then .ok ⟨#[105,110,116]⟩ (i+1)else if bH R.l i [98,111,111,108]then .ok ⟨#[98,111,111,108]⟩ (i+1)else if bH R.l i [102,54,52]then .ok ⟨#[102,54,52]⟩ (i+1)else bI R.l i):=by show _=_;rw[hr,n_]
 rw[←hr];have vK:=aC h.blk;obtain⟨w1,hw1⟩:=bn ((w.alloc (.cells #[fM R.rb 0] 75)).alloc (.cells #[.string ⟨#[105,110,116]⟩,.string ⟨#[98,111,111,108]⟩,.string ⟨#[102,54,52]⟩] 9));have dF:=nT hw1
 have kG:=nC hw1
 have lm:=nD hw1
 have HW1:=ai hw1;have H1:=ai (h.quiet dF.o);have hn1:=aC lm.o;have gI:Hid (∀X:World,Step (·=R.rb) w1 X→Step (·=R.rb) w X):=fun X hX=>(dF.o.mono fe).trans hX
 have dh:Hid (∀X:World,Step (·=R.rb) w1 X→X.cell? ⟨w.heap.size,0,none⟩=some (.pointer (some ⟨R.rb,0,none⟩))):=fun X hX=>ah (hX.keep kG.o om) 0 _ rfl
 have uQ:Hid (∀X:World,Step (·=R.rb) w1 X→X.heap[w.heap.size+1]?=some (.cells #[.string ⟨#[105,110,116]⟩,.string ⟨#[98,111,111,108]⟩,.string ⟨#[102,54,52]⟩] 9 (0,0))):=fun X hX=>hX.keep lm.o om
 clear hl h hr hw1;go_enter Tryz.func93,Tryz.ntmps93;go_upto_block 0 with fail
 have hx1:(w.alloc (.cells #[fM R.rb 0] 75)).alloc (.cells #[.string ⟨#[105,110,116]⟩,.string ⟨#[98,111,111,108]⟩,.string ⟨#[102,54,52]⟩] 9)=w1:=HW1.o.symm;rw[hx1];clear hx1;go_wp2_with fail;go_loopg [4,7] 3 (fun gg s4 s7 wr=>∃k:Nat,s7=.int .i64 k∧k≤3∧3-k≤gg∧(1≤k→bH R.l i [105,110,116]=false)∧(2≤k→bH R.l i [98,111,111,108]=false)∧(3≤k→bH R.l i [102,54,52]=false)∧bD R wr i d∧Step (·=R.rb) w1 wr);case atStart=>exact⟨0,rfl,by omega,by omega,(fun h=>by omega),(fun h=>by omega),(fun h=>by omega),H1.o,Step.refl _ _⟩
 case round=>
  obtain⟨k,rfl,hk,hgg,hf0,hf1,hf2,hrd,hst⟩:=hrel;have HR:=ai hrd;have HST:=ai hst;have p0:=dh.o wr hst;have q0:=ah (uQ.o wr hst) 0 _ rfl;have q1:=ah (uQ.o wr hst) 1 _ rfl;have q2:=ah (uQ.o wr hst) 2 _ rfl;have HF:=ai (And.intro hf0 (And.intro hf1 hf2));clear hrd hst hf0 hf1 hf2;rcases(show k=0∨k=1∨k=2∨k=3 by omega)with rfl|rfl|rfl|rfl
  ·clear hk;go_wp2_with fail;cases hb:bH R.l i [105,110,116]with
   |true=>have HB:=ai hb;clear hb;refine(dw R HL.o ⟨#[105,110,116]⟩ _ i d HR.o dc HB.o).mono ?_;rintro e w4 ⟨rfl,hr4,h4⟩;have HR4:=ai hr4;have jv:=ai h4;clear hr4 h4 q0 q1 q2 p0;go_wp2_with fail;go_ret;exact aJ.dQ (by rw[HRR.o,HB.o,if_pos rfl]) rfl rfl HR4.o (gI.o _ (HST.o.trans jv.o))
   |false=>
    have HB:=ai hb;clear hb;refine(dX R HL.o ⟨#[105,110,116]⟩ _ i d HR.o dc HB.o).mono ?_;rintro e w4 ⟨rfl,hr4,h4⟩;have HR4:=ai hr4;have jv:=ai h4;clear hr4 h4 q0 q1 q2 p0;go_wp2_with fail;go_roundg (gk-1);case rel=>exact⟨1,rfl,by omega,by omega,(fun _=>HB.o),(fun h=>by omega),(fun h=>by omega),HR4.o,HST.o.trans jv.o⟩
    case measure=>omega
  ·clear hk;go_wp2_with fail;cases hb:bH R.l i [98,111,111,108]with
   |true=>have HB:=ai hb;clear hb;refine(dw R HL.o ⟨#[98,111,111,108]⟩ _ i d HR.o dc HB.o).mono ?_;rintro e w4 ⟨rfl,hr4,h4⟩;have HR4:=ai hr4;have jv:=ai h4;clear hr4 h4 q0 q1 q2 p0;go_wp2_with fail;go_ret;exact aJ.dQ (by rw[HRR.o,if_neg (by rw[HF.o.1 om];decide),HB.o,if_pos rfl]) rfl rfl HR4.o (gI.o _ (HST.o.trans jv.o))
   |false=>
    have HB:=ai hb;clear hb;refine(dX R HL.o ⟨#[98,111,111,108]⟩ _ i d HR.o dc HB.o).mono ?_;rintro e w4 ⟨rfl,hr4,h4⟩;have HR4:=ai hr4;have jv:=ai h4;clear hr4 h4 q0 q1 q2 p0;go_wp2_with fail;go_roundg (gk-1);case rel=>exact⟨2,rfl,by omega,by omega,(fun _=>HF.o.1 om),(fun _=>HB.o),(fun h=>by omega),HR4.o,HST.o.trans jv.o⟩
    case measure=>omega
  ·clear hk;go_wp2_with fail;cases hb:bH R.l i [102,54,52]with
   |true=>have HB:=ai hb;clear hb;refine(dw R HL.o ⟨#[102,54,52]⟩ _ i d HR.o dc HB.o).mono ?_;rintro e w4 ⟨rfl,hr4,h4⟩;have HR4:=ai hr4;have jv:=ai h4;clear hr4 h4 q0 q1 q2 p0;go_wp2_with fail;go_ret;exact aJ.dQ (by rw[HRR.o,if_neg (by rw[HF.o.1 om];decide),if_neg (by rw[HF.o.2.1 om];decide),HB.o,if_pos rfl]) rfl rfl HR4.o (gI.o _ (HST.o.trans jv.o))
   |false=>
    have HB:=ai hb;clear hb;refine(dX R HL.o ⟨#[102,54,52]⟩ _ i d HR.o dc HB.o).mono ?_;rintro e w4 ⟨rfl,hr4,h4⟩;have HR4:=ai hr4;have jv:=ai h4;clear hr4 h4 q0 q1 q2 p0;go_wp2_with fail;go_roundg (gk-1);case rel=>exact⟨3,rfl,by omega,by omega,(fun _=>HF.o.1 om),(fun _=>HF.o.2.1 om),(fun _=>HB.o),HR4.o,HST.o.trans jv.o⟩
    case measure=>omega
  ·clear hk;(have HE:Hid (r=bI R.l i):=by show _=_;rw[HRR.o,if_neg (by rw[HF.o.1 om];decide),if_neg (by rw[HF.o.2.1 om];decide),if_neg (by rw[HF.o.2.2 om];decide)]);clear q0 q1 q2;go_wp2_with fail;refine(name_any R HL.o _ i d HR.o).mono ?_;rintro e w4 hp;have hp2:aJ R d Gt (bI R.l i) _ e w4:=hp;cases hn:bI R.l i with
   |out=>exact(iV hn).elim
   |err c ln col=>rw[hn]at hp2;obtain⟨rfl,hs⟩:=hp2;exact⟨rfl,aJ.aW c ln col (by rw[HE.o,hn]) rfl (gI.o _ (HST.o.trans hs))⟩
   |ok s j=>have HN:=ai hn;rw[hn]at hp2;obtain⟨⟨v,rfl,rfl⟩,hr,hs⟩:=hp2;have HR4:=ai hr;have jv:=ai hs;clear hn hr hs hp p0;go_wp2_with fail;go_ret;exact aJ.dQ (by rw[HE.o,HN.o]) rfl rfl HR4.o (gI.o _ (HST.o.trans jv.o))
end Go.Proofs.YtggjfinekcenpaaGreat
