import Derived.Test.YtppekkbaoimpgaaGreatPkJ
set_option maxRecDepth 100000
set_option maxHeartbeats 80000000
namespace Go.Proofs.YtppekkbaoimpgaaGreat
open Go.RowKit
theorem J_ {p:Prop} (h:p:=by exact fun _ _ _=>by omega):p:=h
open Vt
theorem Tryz.j_:(Tryz.prog.info? 170).map (·.size)=some 5:=by kernel_rfl
def BdV (n0:Nat) (w':World) (a:Bd) (v:Value):Prop:=ElQ Am w' (fun k=>n0≤k) a v
theorem TN (f:Nat) (R:gJ) (w:World) (i d:Nat) (hl:oZ R.l) (h:bI R w i d) (hno:qN f R.l i≠.out):Calls Tryz.prog 185 #[.agg #[eU R.rb 0]] w (aJ R d (BdV w.heap.size) (qN f R.l i) w):=by
 have HL:=au hl;obtain⟨r,hr⟩:=aN (qN f R.l i);obtain⟨tk,htk⟩:=aN (tokA R.l i);have HRR:Hid (r=(if(uj R.l i).size=0 then(aS R.l (qy R.l i)).bind fun n j=>.ok (n,true) j else .ok (uj R.l i,false) (qy R.l i)).bind fun p j=>(aH R.l j [58]).bind fun _ j=>(gW f R.l j p.2 [] []).bind fun q j=>.ok ⟨p.1,q.1,q.2,tk.line,tk.col⟩ j):=by show _=_;rw[hr,qN,←htk]
 rw[←hr]at hno⊢;have eX:=au hno;have rU:=aK h.blk;obtain⟨w1,hw1⟩:=aN ((w.alloc (.cells #[eU R.rb 0] 97)).alloc (.cells #[di,ay,ay,ak 0,ak 0] 170));have dH:=nT hw1
 have kL:=nC hw1
 have kT:=nD hw1
 have HW1:=au hw1;have H1:=au (h.quiet dH.o);have HT:=au (show R.l[i]?=some tk by rw[htk];exact h.tok);have HOZ:=au (Jc hl h.lt);obtain⟨i0,hi0,hz0,hz1,hz2⟩:=info_parts Tryz.rW;have HI:=au hi0;have HZ0:=au hz0;have HZ1:=au hz1;have HZ2:=au hz2;have hn1:=aK kT.o;have ZK:Hid (∀X:World,Step (·=R.rb) w1 X→X.cell? ⟨w.heap.size,0,none⟩=some (.pointer (some ⟨R.rb,0,none⟩))):=fun X hX=>aj (hX.keep kL.o om) 0 _ rfl
 clear hl h hno hr hw1 hi0 hz0 hz1 hz2 htk;go_enter Tryz.func185,Tryz.ntmps185;go_upto_region 1 with fail
 rw[←HW1.o];obtain⟨Jx,hJx⟩:=aN (AJ R i d w1 #[.string ⟨#[]⟩,.slice none 0 0,.slice none 0 0,.int .i64 0,.int .i64 0] (fun s=> #[.string s,.slice none 0 0,.slice none 0 0,.int .i64 tk.line,.int .i64 tk.col]) 170 (.ok (uj R.l i) (qy R.l i)) 4 5 6 7 [some (.pointer (some ⟨w.heap.size,0,none⟩)),some (.pointer (some ⟨R.rb,0,none⟩)),some (.agg #[ak tk.line,ak tk.col]),some (.agg #[eU R.rb 0]),none,none,none,none]);have dB:=au hJx;clear hJx;go_cut [3] (fun s3 wx=>∃b:Nat,s3=.pointer (some ⟨b,0,none⟩)∧bI R wx (qy R.l i) d∧w1.heap.size≤b∧wx.heap[b]?=some (.cells #[a_ (uj R.l i),ay,ay,ak tk.line,ak tk.col] 170 (0,0))∧Step (·=R.rb) w1 wx);case first=>
  refine bP kr Jx 8 rfl kr kr kr kr ?h0 ?hs ?hdone;case h0=>rw[dB.o];exact AJ.zero (bK.drew) H1.o
  case hs=>
   refine⟨?_,?_,?_,?_,?_,?_,?_,?_,trivial⟩
   all_goals (intro L V X a ev dG hdf hL ax hJ;rw[dB.o]at hJ)
   ·have o1:=dG 1 rfl;change a.tmps[1]?.getD undef=.pointer (some ⟨w.heap.size,0,none⟩)at o1;go_simp;exact gbQ
   ·have e5:=(ev 0 5 rfl (ax 0 rfl)).trans (hJ.iK 0 _ rfl (ax 0 rfl));have p0:=ZK.o X hJ.st;go_simp;exact gbQ
   ·have e6:=(ev 1 6 rfl (ax 1 rfl)).trans (hJ.iK 1 _ rfl (ax 1 rfl));have h4:L 4=false:=by
     cases e:L 4 with
     |false=>rfl
     |true=>exact absurd (hJ.qc e) (by rw[hL];decide)
    obtain⟨i9,y1,y2⟩:=hJ.rd;rw[h4]at y2;have y3:i9=i:=y2;subst y3;go_simp;refine(at_at R X i9 d tk y1 HT.o).mono ?_;rintro e wq ⟨rfl,hs⟩;exact⟨_,rfl,by rw[dB.o];exact(hJ.move hs).up 2 rfl dc dc dc dc⟩
   ·have o1:=dG 1 rfl;change a.tmps[1]?.getD undef=.pointer (some ⟨w.heap.size,0,none⟩)at o1;have p0:=ZK.o X hJ.st;go_simp;exact gbQ
   ·have e8:=(ev 3 8 rfl (ax 3 rfl)).trans (hJ.iK 3 _ rfl (ax 3 rfl));obtain⟨i9,y1,y2⟩:=hJ.rd;rw[hL]at y2;have y3:i9=i:=y2;subst y3;go_simp;refine(WI R HL.o X i9 d y1).mono ?_;rintro e wq ⟨⟨v,rfl,rfl⟩,hr,hs⟩;exact⟨_,rfl,by rw[dB.o];exact hJ.call dc om hL (ax 2 rfl) rfl hs hr rfl⟩
   ·have e7:=(ev 2 7 rfl (ax 2 rfl)).trans (hJ.iK 2 _ rfl (ax 2 rfl));obtain⟨s9,k9,y1,y2⟩:=hJ.vc (ax 4 rfl);have e9:=(ev 4 9 rfl (ax 4 rfl)).trans y2;go_simp;exact⟨_,rfl,by rw[dB.o];exact hJ.build dc (ax 4 rfl) hL rfl y2⟩
   ·go_simp;exact⟨_,rfl,by rw[dB.o];exact hJ.alloc dc hL rfl⟩
   ·obtain⟨b9,y1,y2,y3,-⟩:=hJ.vl (ax 6 rfl);obtain⟨s9,k9,y4,y5⟩:=hJ.vb (ax 5 rfl);have e3:=(ev 6 3 rfl (ax 6 rfl)).trans y1;have e10:=(ev 5 10 rfl (ax 5 rfl)).trans y5;refine eH 170 (.tmp 3) (.tmp 10) rfl b9 0 170 _ [.string s9,.slice none 0 0,.slice none 0 0,.int .i64 tk.line,.int .i64 tk.col] (by rw[bM];exact e3) (by rw[bM];exact e10) (y3 hL) Tryz.j_ (Nat.le_of_eq rfl) (aU rfl) ?_;intro w9 iJ hs9;exact⟨undef,rfl,by rw[dB.o];exact hJ.put dc om (ax 5 rfl) (ax 6 rfl) (fun u hu=>by cases hu) y4 y1 hs9 iJ undef⟩
  case hdone=>intro L V X hall hJ;rw[dB.o]at hJ;obtain⟨s9,k9,b9,h1,h2,h3,h4,h5,h6⟩:=hJ.done (hall 4 dc) (hall 6 dc) (hall 7 dc);cases h1;have HD3:=au h3;have HD5:=au h5;have HD6:=au h6;rw[rgQ8];simp only[kJ,fO,List.getElem?_toArray,List.getElem?_cons_zero,List.getElem?_cons_succ,Option.bind_some,Act.put,List.setIfInBounds_toArray,List.set_cons_zero,List.set_cons_succ,h2];clear hJ hall h2 h3 h5 h6;go_wp2_with fail;go_meet;case rel=>exact⟨b9,rfl,HD3.o,h4,HD5.o,HD6.o⟩
 case rest=>
  obtain⟨b,rfl,hr1,hb1,hblk,hs1⟩:=hcut;obtain⟨v0,rfl⟩:=aN wc;have HR1:=au hr1;have HB1:=au hblk;have HS01:=au hs1;have hbv:=aK hblk;have hsz1:=dH.o.size;have hrb:R.rb<b:=by omega
  clear hr1 hblk hs1;obtain⟨on,hon⟩:=aN (uj R.l i);obtain⟨oi,hoi⟩:=aN (qy R.l i);rw[←hon]at HB1 HRR HOZ;rw[←hoi]at HR1 HRR;obtain⟨pl,hpl⟩:=aN (on.size==0);have YI:=au hpl;clear hon hoi hpl;go_upto_region 2 with fail
  go_cut [4] (fun s4 wx=>s4=.bool pl∧v0=wx);case first=>
   have q0:=aj HB1.o 0 _ rfl;by_cases hz:on.size=0
   ·(have hpl:pl=true:=by rw[YI.o,hz];rfl);(have hon:on=⟨#[]⟩:=by obtain⟨a⟩:=on;have h2:a.size=0:=hz;rw[Array.eq_empty_of_size_eq_zero h2]);rw[hon]at q0;go_wp2_with fail;go_meet;case rel=>exact⟨by rw[hpl],rfl⟩
   ·(have hpl:pl=false:=by rw[YI.o];simpa using hz);have he:=jL on om;have he':=jA on om;go_wp2_with fail;go_meet;case rel=>exact⟨by rw[hpl],rfl⟩
  case rest=>
   obtain⟨rfl,hwx⟩:=hcut;subst hwx;(go_upto_if 14 with fail);go_cut [] (fun wx=>∃(nm:ByteArray) (jn:Nat),r=((aH R.l jn [58]).bind fun _ j=>(gW f R.l j pl [] []).bind fun q j=>.ok ⟨nm,q.1,q.2,tk.line,tk.col⟩ j)∧nm.size≤9223372036854775807∧bI R wx jn d∧wx.heap[b]?=some (.cells #[a_ nm,ay,ay,ak tk.line,ak tk.col] 170 (0,0))∧Step (fun q=>q=R.rb∨q=b) v0 wx);case first=>
    cases pl with
    |false=>(have hz:¬on.size=0:=by simpa using YI.o.symm);(have oK:Hid (r=((aH R.l oi [58]).bind fun _ j=>(gW f R.l j false [] []).bind fun q j=>.ok ⟨on,q.1,q.2,tk.line,tk.col⟩ j)):=by show _=_;rw[HRR.o,if_neg hz];rfl);go_wp2_with fail;go_meet;case rel=>exact⟨on,oi,oK.o,HOZ.o,HR1.o,HB1.o,Step.refl _ _⟩
    |true=>
     (have hz:on.size=0:=by simpa using YI.o.symm);(have oK:Hid (r=((aS R.l oi).bind fun n j=>.ok (n,true) j).bind fun p j=>(aH R.l j [58]).bind fun _ j=>(gW f R.l j p.2 [] []).bind fun q j=>.ok ⟨p.1,q.1,q.2,tk.line,tk.col⟩ j):=by show _=_;rw[HRR.o,if_pos hz]);have p0:=ZK.o v0 HS01.o;go_wp2_with fail;refine(name_any R HL.o _ oi d HR1.o).mono ?_;rintro e w7 hp;have hp2:aJ R d Hy (aS R.l oi) _ e w7:=hp;cases hn:aS R.l oi with
     |out=>exact(iV hn).elim
     |err c ln col=>rw[hn]at hp2;obtain⟨rfl,hs⟩:=hp2;exact⟨rfl,aJ.aZ c ln col (by rw[oK.o,hn];rfl) rfl (((dH.o.mono fe).trans HS01.o).trans hs)⟩
     |ok nm j=>have HN:=au hn;have S9:=au (fV HL.o HR1.o.lt hn);rw[hn]at hp2;obtain⟨⟨v,rfl,rfl⟩,hr,hs⟩:=hp2;have Oz:=au hr;have CO:=au hs;have LG:=au (hs.keep HB1.o om);(have o_:Hid (r=((aH R.l j [58]).bind fun _ j=>(gW f R.l j true [] []).bind fun q j=>.ok ⟨nm,q.1,q.2,tk.line,tk.col⟩ j)):=by show _=_;rw[oK.o,HN.o];rfl);clear hn hr hs hp p0;have ou:=aj LG.o 0 _ rfl;have oz:=aI LG.o 0;have Aj:Hid (Step (·=b) w7 (w7.setCell ⟨b,0,none⟩ (.string nm))):=(Step.refl (·=b) _).setCell _ _ iW;have OA:Hid ((w7.setCell ⟨b,0,none⟩ (.string nm)).heap[b]?=some (.cells #[a_ nm,ay,ay,ak tk.line,ak tk.col] 170 (0,0))):=aW LG.o 0 (.string nm);go_wp2_with fail;go_meet;case rel=>exact⟨nm,j,o_.o,S9.o,Oz.o.step Aj.o J_,OA.o,(CO.o.mono il).trans (Aj.o.mono ir)⟩
   case rest=>
    obtain⟨nm,jn,hrn,hnz,hr2,hblk2,hs2⟩:=hcut;obtain⟨v1,rfl⟩:=aN wc;have pG:=au hrn;have VJ:=au hnz;have pW:=au hs2;have hbw:b<v1.heap.size:=aK hblk2;have hszv:=hs2.size;have qL:Hid (N2 9 (fun va vb=>.cells #[a_ nm,va,vb,ak tk.line,ak tk.col] 170 (0,0)) R v1 b d v1 jn [] [] (.slice none 0 0) (.slice none 0 0)):=⟨hr2,hblk2,World.ownsRow_nil _ _ _ _,World.ownsRow_nil _ _ _ _,lu,lu,lu,by simp,Step.refl _ _⟩;clear hrn hnz hr2 hblk2 hs2;(have HBV:Hid (∀X:World,Step (fun q=>q=R.rb∨q=b) v1 X→Step (·=R.rb) w1 X):=by intro X hX;exact(HS01.o.then pW.o J_).then hX J_);(have gK:Hid (∀X:World,Step (fun q=>q=R.rb∨q=b) v1 X→Step (·=R.rb) w X):=by intro X hX;exact(dH.o.mono fe).trans (HBV.o X hX));(have cZ:Hid (∀X:World,Step (fun q=>q=R.rb∨q=b) v1 X→X.cell? ⟨w.heap.size,0,none⟩=some (.pointer (some ⟨R.rb,0,none⟩))):=by intro X hX;exact ZK.o X (HBV.o X hX));(have sZ:Hid (∀X:World,Step (fun q=>q=R.rb∨q=b) v1 X→X.heap[w.heap.size+1]?=some (.cells #[di,ay,ay,ak 0,ak 0] 170 (0,0))):=by intro X hX;exact(HBV.o X hX).keep kT.o om);have p0:=cZ.o v1 bK;go_wp2_with fail;refine(dP R HL.o v1.heap.size ⟨#[58]⟩ _ jn d (qL.o.rd.quiet (bK.alloc _)) dc (aj (aC _ _) 0 _ rfl)).mono ?_;rintro e w2 hp;have hp2:aJ R d iQ (aH R.l jn [58]) _ e w2:=hp;cases hn:aH R.l jn [58]with
    |out=>exact(dJ hn).elim
    |err c ln col=>rw[hn]at hp2;obtain⟨rfl,sb⟩:=hp2;exact⟨rfl,aJ.aZ c ln col (by rw[pG.o,hn];rfl) rfl (gK.o _ (qL.o.err (((Step.refl (·=R.rb) _).alloc _).trans sb)))⟩
    |ok u2 jy=>
     have VL:=au hn;rw[hn]at hp2;obtain⟨⟨v,rfl,rfl⟩,wu,sb⟩:=hp2;have qx:=au (qL.o.read hrb om wu (((Step.refl (·=R.rb) _).alloc _).trans sb));(have mP:Hid (r=((gW f R.l jy pl [] []).bind fun q j=>.ok ⟨nm,q.1,q.2,tk.line,tk.col⟩ j)):=by show _=_;rw[pG.o,VL.o];rfl);clear hn wu sb p0 hp;go_wp2_with fail;go_loopg [] f (fun gg wr=>gg≤f∧∃(i':Nat) (ts ls:List ByteArray) (vt vl:Value),r=((gW gg R.l i' pl ts ls).bind fun q j=>.ok ⟨nm,q.1,q.2,tk.line,tk.col⟩ j)∧N2 9 (fun va vb=>.cells #[a_ nm,va,vb,ak tk.line,ak tk.col] 170 (0,0)) R v1 b d wr i' ts ls vt vl);case atStart=>exact⟨Nat.le_refl _,jy,[],[],_,_,mP.o,qx.o⟩
     case round=>
      obtain⟨hgf,i',ts,ls,vt,vl,hrq,hst⟩:=hrel;obtain⟨gn,rfl⟩:∃gn,gk=gn+1:=by
       cases gk with
       |zero=>exact absurd hrq (by rw[gW];exact eX.o)
       |succ gn=>exact⟨gn,rfl⟩
      (have vI:Hid (r=((eY (ls.length+ts.length) 8 R.l i').bind fun _ i=>(if pl=true∧ls.length=0∧(tokA R.l i).kind≠2 then(aS R.l i).bind fun x j=>.ok (ts++[x],ls) j else(jw R.l i).bind fun x j=>.ok (ts,ls++[x]) j).bind fun q j=>if bF R.l j [43]then gW gn R.l (j+1) pl q.1 q.2 else .ok q j).bind fun q j=>.ok ⟨nm,q.1,q.2,tk.line,tk.col⟩ j):=by show _=_;rw[hrq,gW]);obtain⟨oa,oc,rfl⟩:=aV hst.oa;obtain⟨pa,pc,rfl⟩:=aV hst.ob;have HST:=au hst;have p0:=cZ.o wr hst.st;have q1:=aj hst.blk 1 _ rfl;have q2:=aj hst.blk 2 _ rfl;have hfew:=hst.few;(have R1:IntKind.i64.wrap ((ls.length:Int)+(ts.length:Int))=((ls.length+ts.length:Nat):Int):=by rw[show((ls.length:Int)+(ts.length:Int))=((ls.length+ts.length:Nat):Int) by omega];exact IntWalk.i64_in _ om);clear hrq hst;go_wp2_with fail;clear R1;refine(nH R wr (ls.length+ts.length) 8 i' d HST.o.rd).mono ?_;rintro e w3 hp;cases hn:eY (ls.length+ts.length) 8 R.l i' with
      |out=>exact(lH hn).elim
      |err c ln col=>rw[hn]at hp;obtain⟨rfl,s3⟩:=hp;exact⟨rfl,aJ.aZ c ln col (by rw[vI.o,hn];rfl) rfl (gK.o _ (HST.o.err s3))⟩
      |ok u j=>
       have hji:j=i'∧ls.length+ts.length<8:=by
        unfold eY at hn;split at hn
        ·cases hn
        ·cases hn;exact⟨rfl,by omega⟩
       obtain⟨rfl,JK⟩:=hji;have HN:=au hn;rw[hn]at hp;obtain⟨⟨v,rfl,rfl⟩,hr3,s3⟩:=hp;have gu:=au (HST.o.read hrb om hr3 s3);obtain⟨tj,htj⟩:=aN (tokA R.l j);(have mY:Hid (r=((if pl=true∧ls.length=0∧tj.kind≠2 then(aS R.l j).bind fun x j=>.ok (ts++[x],ls) j else(jw R.l j).bind fun x j=>.ok (ts,ls++[x]) j).bind fun q j=>if bF R.l j [43]then gW gn R.l (j+1) pl q.1 q.2 else .ok q j).bind fun q j=>.ok ⟨nm,q.1,q.2,tk.line,tk.col⟩ j):=by show _=_;rw[vI.o,HN.o,htj];rfl);clear hn hr3 s3 p0 q1 q2;(have LH:Hid (R.l[j]?=some tj):=by rw[htj];exact gu.o.rd.tok);obtain⟨cb,hcb⟩:=aN (pl&&ls.length==0&&tj.kind !=2);have Em:=au hcb;(have hfd0:∀(a0 a1 a2 a3 a4:Value) (w:World),(Instr.field 157 (.agg #[a0,a1,a2,a3,a4]) 0).run Tryz.prog w=.ok a0 w:=fun _ _ _ _ _ _=>by kernel_rfl);clear htj hcb;(go_upto_region 7 with fail);go_cut [45] (fun s45 wx=>s45=.bool cb∧StF w3 wx);case first=>
        have p0:=cZ.o w3 gu.o.st;have q2:=aj gu.o.blk 2 _ rfl;obtain⟨b0,hb0⟩:∃b0,((ls.length:Int)==0)=b0:=⟨_,rfl⟩;have HB0:Hid ((ls.length==0)=b0):=(kQ ls.length 0 0 rfl).symm.trans hb0;cases pl with
        |false=>(have HC2:Hid (cb=false):=by show _=_;rw[Em.o];rfl);go_wp2_with fail;go_meet;case rel=>exact⟨by rw[HC2.o],Step.refl _ _⟩
        |true=>
         cases b0 with
         |false=>(have HC2:Hid (cb=false):=by show _=_;rw[Em.o,HB0.o];rfl);go_wp2_with fail;go_meet;case rel=>exact⟨by rw[HC2.o],Step.refl _ _⟩
         |true=>obtain⟨b2,hb2⟩:∃b2,((tj.kind:Int) !=2)=b2:=⟨_,rfl⟩;(have HC2:Hid (cb=b2):=by show _=_;rw[Em.o,HB0.o,←hb2,bne,bne,kQ tj.kind 2 2 rfl];rfl);go_wp2_with fail;refine(lN R _ j d tj gu.o.rd LH.o).mono ?_;rintro e w4 ⟨rfl,h4⟩;have gq:=au h4;clear h4 p0;go_wp2_with fail;go_meet;case rel=>exact⟨by rw[HC2.o],gq.o⟩
       case rest=>
        obtain⟨rfl,hs4⟩:=hcut;obtain⟨w6,rfl⟩:=aN wc;have pX:=au (gu.o.quiet hs4);clear hs4;(go_upto_if 45 with fail);go_cut [] (fun wx=>∃(jn:Nat) (la lb:List ByteArray) (va vb:Value),r=((if bF R.l jn [43]then gW gn R.l (jn+1) pl la lb else .ok (la,lb) jn).bind fun q j=>.ok ⟨nm,q.1,q.2,tk.line,tk.col⟩ j)∧N2 9 (fun va vb=>.cells #[a_ nm,va,vb,ak tk.line,ak tk.col] 170 (0,0)) R v1 b d wx jn la lb va vb);case first=>
         cases cb with
         |true=>
          (have hc:pl=true∧ls.length=0∧tj.kind≠2:=by have h9:=Em.o.symm;simp at h9;exact⟨h9.1.1,by rw[h9.1.2];rfl,h9.2⟩);(have uD:Hid (r=(((aS R.l j).bind fun x j=>.ok (ts++[x],ls) j).bind fun q j=>if bF R.l j [43]then gW gn R.l (j+1) pl q.1 q.2 else .ok q j).bind fun q j=>.ok ⟨nm,q.1,q.2,tk.line,tk.col⟩ j):=by show _=_;rw[mY.o,if_pos hc]);clear hc;have p0:=cZ.o w6 pX.o.st;(go_upto_region 8 with fail);obtain⟨r1,hr1⟩:=aN (aS R.l j);have HR1:=au hr1;(have pG:Hid (r1≠.out):=by rw[hr1];exact fun e=>iV e);(have mP:Hid (r=((r1.bind fun x j=>.ok (ts++[x],ls) j).bind fun q j=>if bF R.l j [43]then gW gn R.l (j+1) pl q.1 q.2 else .ok q j).bind fun q j=>.ok ⟨nm,q.1,q.2,tk.line,tk.col⟩ j):=by show _=_;rw[uD.o,hr1]);have uG:Hid (NOk R b w6 v1.heap.size (.slice oa ts.length oc) 1 4 5 6 8):=⟨by decide,by decide,hrb,hbw,pX.o.st.size,fun q hq=>pX.o.oa.lt q hq⟩;have Ef:Hid (∀X:World,Step (fun q=>q=R.rb∨q=b∨(Value.slice oa ts.length oc).ownBlock=some q) w6 X→X.cell? ⟨w.heap.size,0,none⟩=some (.pointer (some ⟨R.rb,0,none⟩))):=by
           show∀X,_;intro X hX;refine hX.cell (cZ.o w6 pX.o.st) (fun e=> ?_);have e2:w.heap.size=R.rb∨w.heap.size=b∨(Value.slice oa ts.length oc).ownBlock=some w.heap.size:=e;rcases e2 with e2|e2|e2
           ·omega
           ·omega
           ·have:=(uG.o.own _ e2).1;omega
          obtain⟨Jx,hJx⟩:=aN (NJ R j d b w6 (fun v=>.cells #[a_ nm,v,.slice pa ls.length pc,ak tk.line,ak tk.col] 170 (0,0)) v1.heap.size 9 (.slice oa ts.length oc) ts.length (ts.map .string) r1 1 4 5 6 8 [some (.pointer (some ⟨b,1,none⟩)),some (.slice oa ts.length oc),some (.pointer (some ⟨w.heap.size,0,none⟩)),some (.pointer (some ⟨R.rb,0,none⟩)),none,none,none,some (.pointer (some ⟨b,1,none⟩)),none]);have dB:=au hJx;(have PE:Hid (∀V,Jx (fun _=>false) V w6.drew):=by intro V;rw[hJx];exact NJ.zero (bK.drew) pX.o.rd pX.o.oa pX.o.blk);have YH:Hid (∀X:World,Step (fun q=>q=R.rb∨q=b∨(Value.slice oa ts.length oc).ownBlock=some q) w6 X→Step (fun q=>q=R.rb∨q=b) v1 X):=by
           show∀X,_;intro X hX;refine pX.o.st.then hX (fun q hq e=> ?_);rcases e with e|e|e
           ·exact .inl e
           ·exact .inr e
           ·have:=(uG.o.own _ e).1;omega
          clear hr1 hJx p0;refine bP kr Jx 9 rfl kr kr kr kr ?h0 ?hs ?hdone;case h0=>exact PE.o _
          case hs=>
           refine⟨?_,?_,?_,?_,?_,?_,?_,?_,?_,trivial⟩
           all_goals (intro L V X a ev dG hdf hL ax hJ;rw[dB.o]at hJ)
           ·have o3:=dG 3 rfl;change a.tmps[3]?.getD undef=.pointer (some ⟨b,0,none⟩)at o3;go_simp;exact gbQ
           ·have e46:=(ev 0 46 rfl (ax 0 rfl)).trans (hJ.iK 0 _ rfl (ax 0 rfl));have hA:L 6=false:=by
             cases e:L 6 with
             |false=>rfl
             |true=>rw[hJ.ql e]at hL;cases hL
            have hb:=hJ.blk;rw[hJ.JJ hA]at hb;have q1:X.cell? ⟨b,1,none⟩=some (.slice oa ts.length oc):=aj hb 1 _ rfl;go_simp;exact gbQ
           ·have o1:=dG 1 rfl;change a.tmps[1]?.getD undef=.pointer (some ⟨w.heap.size,0,none⟩)at o1;go_simp;exact gbQ
           ·have e48:=(ev 2 48 rfl (ax 2 rfl)).trans (hJ.iK 2 _ rfl (ax 2 rfl));have p0:=Ef.o X hJ.st;go_simp;exact gbQ
           ·have e49:=(ev 3 49 rfl (ax 3 rfl)).trans (hJ.iK 3 _ rfl (ax 3 rfl));obtain⟨i9,y1,y2⟩:=hJ.rd;rw[hL]at y2;have y3:i9=j:=y2;subst y3;go_simp;refine(name_any R HL.o X i9 d y1).mono ?_;intro e wq hp;rw[←HR1.o]at hp;cases hx:r1 with
            |out=>exact absurd hx pG.o
            |err cc ln col=>rw[hx]at hp;obtain⟨rfl,hs⟩:=hp;exact⟨hdf,aJ.aZ cc ln col (by rw[mP.o,hx];rfl) rfl (gK.o _ ((YH.o X hJ.st).trans (hs.mono il)))⟩
            |ok s9 k9=>have hx0:=hx;rw[hx]at hp;obtain⟨⟨v,rfl,rfl⟩,hr,hs⟩:=hp;exact⟨_,rfl,by rw[dB.o];exact hJ.call uG.o hL rfl hs hr hx0⟩
           ·obtain⟨s9,k9,y1,y2⟩:=hJ.vc (ax 4 rfl);have e50:=(ev 4 50 rfl (ax 4 rfl)).trans y2;go_simp;exact⟨_,rfl,by rw[dB.o];exact hJ.build uG.o hL (ax 4 rfl) rfl y2⟩
           ·have e47:=(ev 1 47 rfl (ax 1 rfl)).trans (hJ.iK 1 _ rfl (ax 1 rfl));have e51:=ev 5 51 rfl (ax 5 rfl);obtain⟨s9,k9,g9,y1,y2,y3,y4⟩:=hJ.vb (ax 5 rfl) hL;have hon:=hJ.own hL;have hwz:=Nat.le_trans uG.o.bw hJ.st.size;have hfw:=pX.o.few;refine f_ _ (g9+1) (.tmp 47) (.tmp 51) 40 rfl v1.heap.size 9 i0 (.string ⟨#[]⟩) 1 16 Tryz.underlying40 HI.o HZ0.o HZ1.o HZ2.o rfl dc (.slice oa ts.length oc) ts.length (ts.map .string) (by rw[bM];exact e47) hon (V 5) 1 [.string s9] (by rw[bM];exact e51) (by rw[y2];exact Row.new y4 dc) rfl (aU rfl) (by unfold maxLen;omega) om hwz ?_;intro v8 w8 qU ni C9;exact⟨v8,rfl,by rw[dB.o];exact hJ.app uG.o hL (ax 5 rfl) (ax 1 rfl) rfl y1 qU ni C9⟩
           ·have o3:=dG 3 rfl;change a.tmps[3]?.getD undef=.pointer (some ⟨b,0,none⟩)at o3;go_simp;exact gbQ
           ·have e53:=(ev 7 53 rfl (ax 7 rfl)).trans (hJ.iK 7 _ rfl (ax 7 rfl));obtain⟨s9,k9,y1,y2,y3⟩:=hJ.va (ax 6 rfl);obtain⟨a9,c9,hV⟩:=aV y2;have e52:=(ev 6 52 rfl (ax 6 rfl)).trans hV;have hb:=hJ.blk;rw[hL]at hb;have iE:∃v,X.cell? ⟨b,1,none⟩=some v:=⟨_,aj hb 1 _ rfl⟩;obtain⟨vc,I8⟩:=iE;have hfz:X.frozen? ⟨b,1,none⟩=false:=aI hb 1;go_simp;exact⟨undef,by rw[dB.o];exact hJ.put uG.o (ax 6 rfl) (fun u hu=>by cases hu) (bK.setCell _ _ iW) (by rw[←hV];exact aW hb 1 (V 6)) undef⟩
          case hdone=>intro L V X hall hJ;rw[dB.o]at hJ;obtain⟨s9,k9,v9,h1,h2,h3,h4,h5,h6⟩:=hJ.done (hall 4 dc) (hall 6 dc) (hall 8 dc);(have Ij:aS R.l j=.ok s9 k9:=by rw[←HR1.o];exact h1);have hsz:=fV HL.o pX.o.rd.lt Ij;rw[rgQ9];simp only[kJ,fO,gsQ,o9];(have G7:Hid (r=((if bF R.l k9 [43]then gW gn R.l (k9+1) pl (ts++[s9]) ls else .ok ((ts++[s9]),ls) k9).bind fun q j=>.ok ⟨nm,q.1,q.2,tk.line,tk.col⟩ j)):=by show _=_;rw[uD.o,Ij];rfl);have lI:Hid (N2 9 (fun va vb=>.cells #[a_ nm,va,vb,ak tk.line,ak tk.col] 170 (0,0)) R v1 b d X k9 (ts++[s9]) ls v9 (.slice pa ls.length pc)):=pX.o.QK hrb hbw h2 h3 h4 h5 h6 hsz om;clear hJ hall h1 h2 h3 h4 h5 h6 Ij hsz;go_wp2_with fail;go_meet;case rel=>exact⟨k9,_,_,_,_,G7.o,lI.o⟩
         |false=>
          (have hc:¬(pl=true∧ls.length=0∧tj.kind≠2):=by intro hc;have h9:=Em.o;rw[hc.1,hc.2.1]at h9;simp at h9;exact hc.2.2 h9);(have uD:Hid (r=(((jw R.l j).bind fun x j=>.ok (ts,ls++[x]) j).bind fun q j=>if bF R.l j [43]then gW gn R.l (j+1) pl q.1 q.2 else .ok q j).bind fun q j=>.ok ⟨nm,q.1,q.2,tk.line,tk.col⟩ j):=by show _=_;rw[mY.o,if_neg hc]);clear hc;have p0:=cZ.o w6 pX.o.st;(go_upto_region 9 with fail);obtain⟨r1,hr1⟩:=aN (jw R.l j);have HR1:=au hr1;(have pG:Hid (r1≠.out):=by rw[hr1];exact fun e=>CX e);(have mP:Hid (r=((r1.bind fun x j=>.ok (ts,ls++[x]) j).bind fun q j=>if bF R.l j [43]then gW gn R.l (j+1) pl q.1 q.2 else .ok q j).bind fun q j=>.ok ⟨nm,q.1,q.2,tk.line,tk.col⟩ j):=by show _=_;rw[uD.o,hr1]);have uG:Hid (NOk R b w6 v1.heap.size (.slice pa ls.length pc) 1 3 4 5 7):=⟨by decide,by decide,hrb,hbw,pX.o.st.size,fun q hq=>pX.o.ob.lt q hq⟩;have Ef:Hid (∀X:World,Step (fun q=>q=R.rb∨q=b∨(Value.slice pa ls.length pc).ownBlock=some q) w6 X→X.cell? ⟨w.heap.size,0,none⟩=some (.pointer (some ⟨R.rb,0,none⟩))):=by
           show∀X,_;intro X hX;refine hX.cell (cZ.o w6 pX.o.st) (fun e=> ?_);have e2:w.heap.size=R.rb∨w.heap.size=b∨(Value.slice pa ls.length pc).ownBlock=some w.heap.size:=e;rcases e2 with e2|e2|e2
           ·omega
           ·omega
           ·have:=(uG.o.own _ e2).1;omega
          obtain⟨Jx,hJx⟩:=aN (NJ R j d b w6 (fun v=>.cells #[a_ nm,.slice oa ts.length oc,v,ak tk.line,ak tk.col] 170 (0,0)) v1.heap.size 9 (.slice pa ls.length pc) ls.length (ls.map .string) r1 1 3 4 5 7 [some (.pointer (some ⟨b,2,none⟩)),some (.slice pa ls.length pc),some (.agg #[eU R.rb 0]),none,none,none,some (.pointer (some ⟨b,2,none⟩)),none]);have dB:=au hJx;(have PE:Hid (∀V,Jx (fun _=>false) V w6.drew):=by intro V;rw[hJx];exact NJ.zero (bK.drew) pX.o.rd pX.o.ob pX.o.blk);have YH:Hid (∀X:World,Step (fun q=>q=R.rb∨q=b∨(Value.slice pa ls.length pc).ownBlock=some q) w6 X→Step (fun q=>q=R.rb∨q=b) v1 X):=by
           show∀X,_;intro X hX;refine pX.o.st.then hX (fun q hq e=> ?_);rcases e with e|e|e
           ·exact .inl e
           ·exact .inr e
           ·have:=(uG.o.own _ e).1;omega
          clear hr1 hJx p0;refine bP kr Jx 8 rfl kr kr kr kr ?h0 ?hs ?hdone;case h0=>exact PE.o _
          case hs=>
           refine⟨?_,?_,?_,?_,?_,?_,?_,?_,trivial⟩
           all_goals (intro L V X a ev dG hdf hL ax hJ;rw[dB.o]at hJ)
           ·have o3:=dG 3 rfl;change a.tmps[3]?.getD undef=.pointer (some ⟨b,0,none⟩)at o3;go_simp;exact gbQ
           ·have e54:=(ev 0 54 rfl (ax 0 rfl)).trans (hJ.iK 0 _ rfl (ax 0 rfl));have hA:L 5=false:=by
             cases e:L 5 with
             |false=>rfl
             |true=>rw[hJ.ql e]at hL;cases hL
            have hb:=hJ.blk;rw[hJ.JJ hA]at hb;have q2:X.cell? ⟨b,2,none⟩=some (.slice pa ls.length pc):=aj hb 2 _ rfl;go_simp;exact gbQ
           ·have o1:=dG 1 rfl;change a.tmps[1]?.getD undef=.pointer (some ⟨w.heap.size,0,none⟩)at o1;have p0:=Ef.o X hJ.st;go_simp;exact gbQ
           ·have e56:=(ev 2 56 rfl (ax 2 rfl)).trans (hJ.iK 2 _ rfl (ax 2 rfl));obtain⟨i9,y1,y2⟩:=hJ.rd;rw[hL]at y2;have y3:i9=j:=y2;subst y3;go_simp;refine(xM R HL.o X i9 d y1).mono ?_;intro e wq hp;rw[←HR1.o]at hp;cases hx:r1 with
            |out=>exact absurd hx pG.o
            |err cc ln col=>rw[hx]at hp;obtain⟨rfl,hs⟩:=hp;exact⟨hdf,aJ.aZ cc ln col (by rw[mP.o,hx];rfl) rfl (gK.o _ ((YH.o X hJ.st).trans (hs.mono il)))⟩
            |ok s9 k9=>have hx0:=hx;rw[hx]at hp;obtain⟨⟨v,rfl,rfl⟩,hr,hs⟩:=hp;exact⟨_,rfl,by rw[dB.o];exact hJ.call uG.o hL rfl hs hr hx0⟩
           ·obtain⟨s9,k9,y1,y2⟩:=hJ.vc (ax 3 rfl);have e57:=(ev 3 57 rfl (ax 3 rfl)).trans y2;go_simp;exact⟨_,rfl,by rw[dB.o];exact hJ.build uG.o hL (ax 3 rfl) rfl y2⟩
           ·have e55:=(ev 1 55 rfl (ax 1 rfl)).trans (hJ.iK 1 _ rfl (ax 1 rfl));have e58:=ev 4 58 rfl (ax 4 rfl);obtain⟨s9,k9,g9,y1,y2,y3,y4⟩:=hJ.vb (ax 4 rfl) hL;have hon:=hJ.own hL;have hwz:=Nat.le_trans uG.o.bw hJ.st.size;have hfw:=pX.o.few;refine f_ _ (g9+1) (.tmp 55) (.tmp 58) 40 rfl v1.heap.size 9 i0 (.string ⟨#[]⟩) 1 16 Tryz.underlying40 HI.o HZ0.o HZ1.o HZ2.o rfl dc (.slice pa ls.length pc) ls.length (ls.map .string) (by rw[bM];exact e55) hon (V 4) 1 [.string s9] (by rw[bM];exact e58) (by rw[y2];exact Row.new y4 dc) rfl (aU rfl) (by unfold maxLen;omega) om hwz ?_;intro v8 w8 qU ni C9;exact⟨v8,rfl,by rw[dB.o];exact hJ.app uG.o hL (ax 4 rfl) (ax 1 rfl) rfl y1 qU ni C9⟩
           ·have o3:=dG 3 rfl;change a.tmps[3]?.getD undef=.pointer (some ⟨b,0,none⟩)at o3;go_simp;exact gbQ
           ·have e60:=(ev 6 60 rfl (ax 6 rfl)).trans (hJ.iK 6 _ rfl (ax 6 rfl));obtain⟨s9,k9,y1,y2,y3⟩:=hJ.va (ax 5 rfl);obtain⟨a9,c9,hV⟩:=aV y2;have e59:=(ev 5 59 rfl (ax 5 rfl)).trans hV;have hb:=hJ.blk;rw[hL]at hb;have iE:∃v,X.cell? ⟨b,2,none⟩=some v:=⟨_,aj hb 2 _ rfl⟩;obtain⟨vc,I8⟩:=iE;have hfz:X.frozen? ⟨b,2,none⟩=false:=aI hb 2;go_simp;exact⟨undef,by rw[dB.o];exact hJ.put uG.o (ax 5 rfl) (fun u hu=>by cases hu) (bK.setCell _ _ iW) (by rw[←hV];exact aW hb 2 (V 5)) undef⟩
          case hdone=>intro L V X hall hJ;rw[dB.o]at hJ;obtain⟨s9,k9,v9,h1,h2,h3,h4,h5,h6⟩:=hJ.done (hall 3 dc) (hall 5 dc) (hall 7 dc);(have Ij:jw R.l j=.ok s9 k9:=by rw[←HR1.o];exact h1);have hsz:=zS HL.o pX.o.rd.lt Ij;rw[rgQ8];simp only[kJ,fO,gsQ,o9];(have G7:Hid (r=((if bF R.l k9 [43]then gW gn R.l (k9+1) pl ts (ls++[s9])else .ok (ts,(ls++[s9])) k9).bind fun q j=>.ok ⟨nm,q.1,q.2,tk.line,tk.col⟩ j)):=by show _=_;rw[uD.o,Ij];rfl);have lI:Hid (N2 9 (fun va vb=>.cells #[a_ nm,va,vb,ak tk.line,ak tk.col] 170 (0,0)) R v1 b d X k9 ts (ls++[s9]) (.slice oa ts.length oc) v9):=pX.o.pushB hrb hbw h2 h3 h4 h5 h6 hsz om;clear hJ hall h1 h2 h3 h4 h5 h6 Ij hsz;go_wp2_with fail;go_meet;case rel=>exact⟨k9,_,_,_,_,G7.o,lI.o⟩
        case rest=>
         obtain⟨jn,la,lb,va,vb,hrn,hls⟩:=hcut;obtain⟨w9,rfl⟩:=aN wc;obtain⟨a1,c1,rfl⟩:=aV hls.oa;obtain⟨a2,c2,rfl⟩:=aV hls.ob;have iR:=au hls;have HRN9:=au hrn;clear hls hrn;have p0:=cZ.o w9 iR.o.st;go_wp2_with fail;cases hc:bF R.l jn [43]with
         |true=>
          have HC:=au hc;clear hc;refine(dA R HL.o ⟨#[43]⟩ _ jn d iR.o.rd dc HC.o).mono ?_;rintro e wa ⟨rfl,hra,sa⟩;have jB:=au (iR.o.read hrb om hra sa);(have TM:Hid (r=((gW gn R.l (jn+1) pl la lb).bind fun q j=>.ok ⟨nm,q.1,q.2,tk.line,tk.col⟩ j)):=by show _=_;rw[HRN9.o,HC.o,if_pos rfl]);clear hra sa p0;go_wp2_with fail;go_roundg gn;case rel=>exact⟨by omega,jn+1,la,lb,_,_,TM.o,jB.o⟩
          case measure=>omega
         |false=>
          have HC:=au hc;clear hc;refine(dQ R HL.o ⟨#[43]⟩ _ jn d iR.o.rd dc HC.o).mono ?_;rintro e wa ⟨rfl,hra,sa⟩;have jB:=au (iR.o.read hrb om hra sa);(have kU:Hid (r=.ok ⟨nm,la,lb,tk.line,tk.col⟩ jn):=by show _=_;rw[HRN9.o,HC.o,if_neg dc];rfl);clear hra sa p0;have HNA:=au jB.o.names;(have iD:Hid (∀(jj:Nat) v,[Value.string nm,.slice a1 la.length c1,.slice a2 lb.length c2,ak tk.line,ak tk.col][jj]?=some v→wa.cell? ⟨b,0+jj,none⟩=some v):=by intro jj v hv;rw[Nat.zero_add];exact aj jB.o.blk jj v rF);have eG:Hid (∀u∈[Value.string nm,.slice a1 la.length c1,.slice a2 lb.length c2,ak tk.line,ak tk.col],u.oneCell'=true):=aU rfl;have kC:=au (sZ.o wa jB.o.st);go_wp2_with (first
           |(refine aA rfl 170 (.tmp 3) rfl b 0 rfl [Value.string nm,.slice a1 la.length c1,.slice a2 lb.length c2,ak tk.line,ak tk.col] _ iD.o Tryz.underlying170 rfl Tryz.j_ ?_)
           |(refine aG (w:=wa) rfl 170 (.tmp 2) (.tmp 65) rfl (w.heap.size+1) 0 170 _ [Value.string nm,.slice a1 la.length c1,.slice a2 lb.length c2,ak tk.line,ak tk.col] rfl rfl kC.o Tryz.j_ (Nat.le_of_eq rfl) eG.o ?_;intro wR hbR bW))
          have iq:wR.heap[w.heap.size+1]?=some (.cells [Value.string nm,.slice a1 la.length c1,.slice a2 lb.length c2,ak tk.line,ak tk.col].toArray 170 (0,0)):=hbR;refine bodyPost_ret (aY rfl _ (w.heap.size+1) 170 _ _ rfl iq Tryz.underlying170 rfl Tryz.j_) rfl ?_;exact aJ.dU kU.o rfl ⟨_,rfl,_,_,rfl,VJ.o,aX.mono _ _ J_ (aX.step _ _ bW J_ HNA.o.1),aX.mono _ _ J_ (aX.step _ _ bW J_ HNA.o.2)⟩ (jB.o.rd.step bW J_) ((gK.o _ jB.o.st).then bW J_)
theorem Tryz.TP:(Tryz.prog.info? 170).map (fun i=>(i.zero,i.size,i.bytes))=some (some (.agg #[di,ay,ay,ak 0,ak 0]),5,80):=by kernel_rfl
def BdsV (n0:Nat) (w':World) (a:List Bd) (v:Value):Prop:=ig Am w' (fun k=>n0≤k) a v
theorem Dk (f:Nat) (R:gJ) (w:World) (i d:Nat) (hl:oZ R.l) (h:bI R w i d) (hno:bY f R.l i≠.out):Calls Tryz.prog 144 #[.agg #[eU R.rb 0]] w (aJ R d (BdsV w.heap.size) (bY f R.l i) w):=by
 have HL:=au hl;obtain⟨r,hr⟩:=aN (bY f R.l i);have HRR:Hid (r=if bF R.l i [119,104,101,114,101]then lT f R.l (i+1) []else .ok [] i):=by show _=_;rw[hr,bY]
 rw[←hr]at hno⊢;have eX:=au hno;obtain⟨i0,hi0,hz0,hz1,hz2⟩:=info_parts Tryz.TP;have HI:=au hi0;have HZ0:=au hz0;have HZ1:=au hz1;have HZ2:=au hz2;obtain⟨w1,hw1⟩:=aN (w.alloc (.cells #[eU R.rb 0] 97));have dH:=nS hw1
 have kL:=nB hw1
 have HW1:=au hw1;have H1:=au (h.quiet dH.o);have hn1:=aK kL.o;have rU:=aK h.blk;have hwz:R.rb<w1.heap.size:=by omega
 have cZ:Hid (∀X:World,Step (·=R.rb) w1 X→X.cell? ⟨w.heap.size,0,none⟩=some (.pointer (some ⟨R.rb,0,none⟩))):=fun X hX=>aj (hX.keep kL.o om) 0 _ rfl
 have gK:Hid (∀X:World,Step (·=R.rb) w1 X→Step (·=R.rb) w X):=fun X hX=>(dH.o.mono fe).trans hX
 clear hw1;have p0:=cZ.o w1 bK;clear hl h hno hr hi0 hz0 hz1 hz2;go_enter Tryz.func144,Tryz.ntmps144;go_upto_region 2 with fail
 rw[←HW1.o];go_wp2_with fail;cases hb:bF R.l i [119,104,101,114,101]with
 |false=>
  have HB:=au hb;clear hb;refine(dQ R HL.o ⟨#[119,104,101,114,101]⟩ _ i d H1.o dc HB.o).mono ?_;rintro e w2 ⟨rfl,hr2,h2⟩;have mP:=au (HRR.o.trans (LD HB.o))
  have HR2:=au hr2;have HS2:=au h2;clear hr2 h2 p0;go_wp2_with fail;go_ret;exact aJ.dU mP.o rfl (ig.nil _ _) HR2.o (gK.o _ HS2.o)
 |true=>
  have HB:=au hb;clear hb;refine(dA R HL.o ⟨#[119,104,101,114,101]⟩ _ i d H1.o dc HB.o).mono ?_;rintro e w2 ⟨rfl,hr2,h2⟩;have mP:=au (HRR.o.trans (if_pos HB.o))
  have HR2:=au hr2;have HS2:=au h2;clear hr2 h2 p0;go_wp2_with fail;go_loopg [3] f (fun gg s3 wr=>gg≤f∧∃(i':Nat) (acc:List Bd) (xs:List Value),r=lT gg R.l i' acc∧Bq Am 170 5 R w1 d wr i' acc s3 xs);case atStart=>exact⟨Nat.le_refl _,i+1,[],[],mP.o,HR2.o,World.ownsRow_nil _ _ _ _,rfl,HS2.o⟩
  case round=>
   obtain⟨hgf,i',acc,xs,hrq,hst⟩:=hrel;obtain⟨gn,rfl⟩:∃gn,gk=gn+1:=by
    cases gk with
    |zero=>exact absurd hrq (by rw[lT];exact eX.o)
    |succ gn=>exact⟨gn,rfl⟩
   (have vI:Hid (r=(eY acc.length 16 R.l i').bind fun _ i=>(qN gn R.l i).bind fun x j=>if bF R.l j [44]then lT gn R.l (j+1) (acc++[x])else .ok (acc++[x]) j):=by show _=_;rw[hrq,lT]);obtain⟨oa,oc,rfl⟩:=aV hst.ow;have HST:=au hst;have p0:=cZ.o wr hst.st;clear hrq hst;go_wp2_with fail;refine(nH R wr acc.length 16 i' d HST.o.rd).mono ?_;rintro e w3 hp;cases hn:eY acc.length 16 R.l i' with
   |out=>exact(lH hn).elim
   |err c ln col=>rw[hn]at hp;obtain⟨rfl,s3⟩:=hp;exact⟨rfl,aJ.aZ c ln col (by rw[vI.o,hn];rfl) rfl (gK.o _ (HST.o.st.trans s3))⟩
   |ok u j3=>
    have hji:j3=i'∧acc.length<16:=by
     unfold eY at hn;split at hn
     ·cases hn
     ·cases hn;exact⟨rfl,by omega⟩
    obtain⟨hj3,hlt⟩:=hji;have tJ:=au hn;rw[hn]at hp;obtain⟨⟨v,rfl,rfl⟩,hr3,s3⟩:=hp;have gu:=au (HST.o.read fP hwz hr3 s3);have mY:=au (vI.o.trans (zO tJ.o));clear hn hr3 s3 p0 hj3;have p0:=cZ.o w3 gu.o.st;go_wp2_with fail;refine(TN gn R w3 j3 d HL.o gu.o.rd (fun e=>eX.o (by rw[mY.o,e];rfl))).mono ?_;rintro e wx hp;have hp2:aJ R d (BdV w3.heap.size) (qN gn R.l j3) _ e wx:=hp;cases hx:qN gn R.l j3 with
    |out=>exact absurd (by rw[mY.o,hx];rfl) eX.o
    |err c ln col=>rw[hx]at hp2;obtain⟨rfl,sq⟩:=hp2;exact⟨rfl,aJ.aZ c ln col (by rw[mY.o,hx];rfl) rfl (gK.o _ (gu.o.st.trans sq))⟩
    |ok x jx=>
     have HX:=au hx;rw[hx]at hp2;obtain⟨⟨v,rfl,cs,rfl,hy⟩,hrx,hsx⟩:=hp2;have Dl:=au (fP.len _ _ hy);have eG:=au (fP.one _ _ hy);have FH:=au (mY.o.trans (zO HX.o));obtain⟨w4,hw4⟩:=aN (wx.alloc (.cells cs.toArray 170));(have gq:Hid (StF wx w4):=by rw[hw4];exact bK.alloc _);have fC:=au ((gu.o.read fP hwz hrx hsx).quiet fP gq.o);have SY:Hid (Am w4 (fun q=>w3.heap.size≤q) x cs):=fP.step _ _ gq.o (fun _ _ h=>h) hy;(have JQ:Hid ((wx.alloc (.cells cs.toArray 170)).ownsRow w1.heap.size 170 5 (.slice oa acc.length oc) acc.length xs):=by rw[←hw4];exact fC.o.ow);have Bc:Hid (Row (wx.alloc (.cells cs.toArray 170)) (wx.heap.size+1) (.slice (some ⟨wx.heap.size,0,none⟩) 1 1) 1 cs):=Row.new (aC _ _) dc;(have JR:Hid (w1.heap.size≤(wx.alloc (.cells cs.toArray 170)).heap.size):=by rw[←hw4];exact fC.o.st.size);have O8:=au hw4;have Ak:=au hlt;(have UN:i0.size=cs.length:=by rw[Dl.o];exact HZ1.o);(have hC2:(Value.agg #[di,ay,ay,ak 0,ak 0]).cells.size=cs.length:=by rw[Dl.o];rfl);(have hC3:0<cs.length:=by rw[Dl.o];decide);(have hC4:cs.length≤16777216:=by rw[Dl.o];decide);(have hC5:cs.length=1*5:=by rw[Dl.o]);have HC:=au (And.intro UN (And.intro hC2 (And.intro hC3 (And.intro hC4 hC5))));clear hx hp hy hrx hsx p0 hw4 hlt UN hC2 hC3 hC4 hC5;go_upto_region 6 with(first
      |(refine mX rfl 47 (.tmp 15) rfl 170 i0 (.agg #[di,ay,ay,ak 0,ak 0]) cs rfl Tryz.underlying47 HI.o HZ0.o HC.o.1 HC.o.2.1 HC.o.2.2.1 HC.o.2.2.2.1 ?_)
      |(refine dK _ rfl (wx.heap.size+1) (.tmp 13) (.tmp 16) 47 rfl w1.heap.size 170 i0 (.agg #[di,ay,ay,ak 0,ak 0]) 5 80 Tryz.underlying47 HI.o HZ0.o HZ1.o HZ2.o rfl dc _ _ _ (by rfl) JQ.o _ 1 _ (by rfl) Bc.o HC.o.2.2.2.2 eG.o (by have:=Ak.o;unfold maxLen;omega) (by have:=Ak.o;omega) JR.o ?_;intro v9 w9 gZ gU pF))
     rw[←O8.o]at gU pF;have iR:=au (gu.o.push fP fC.o SY.o gZ gU pF hwz);clear gZ gU pF;have p0:=cZ.o w9 iR.o.st;go_wp2_with fail;cases hc:bF R.l jx [44]with
     |true=>
      have BA:=au hc;clear hc;refine(dA R HL.o ⟨#[44]⟩ _ jx d iR.o.rd dc BA.o).mono ?_;rintro e w6 ⟨rfl,qj,s6⟩;have fG:=au (iR.o.read fP hwz qj s6);(have xQ:Hid (r=lT gn R.l (jx+1) (acc++[x])):=by show _=_;rw[FH.o,BA.o,if_pos rfl]);clear qj s6 p0;go_wp2_with fail;go_roundg gn;case rel=>exact⟨by omega,jx+1,acc++[x],_,xQ.o,fG.o⟩
      case measure=>omega
     |false=>have BA:=au hc;clear hc;refine(dQ R HL.o ⟨#[44]⟩ _ jx d iR.o.rd dc BA.o).mono ?_;rintro e w6 ⟨rfl,qj,s6⟩;have fG:=au (iR.o.read fP hwz qj s6);(have xQ:Hid (r=.ok (acc++[x]) jx):=by show _=_;rw[FH.o,BA.o,if_neg dc]);clear qj s6 p0;go_wp2_with fail;go_ret;have hsz:=dH.o.size;exact aJ.dU xQ.o rfl ⟨_,cu.eu fG.o.ow (fun q hq=>by have:=(fG.o.ow.lt q hq).1;omega),oG.mono fP (fun q _ hq=>by have:=hq.1;omega) _ _ fG.o.el⟩ fG.o.rd (gK.o _ fG.o.st)
theorem QT (f:Nat) (ih:qR f) (R:gJ) (w:World) (i d:Nat) (hl:oZ R.l) (h:bI R w i d) (hd:d≤40) (hno:iw f R.l i d≠.out):Calls Tryz.prog 145 #[.agg #[eU R.rb 0]] w (aJ R d (TyV w.heap.size) (iw f R.l i d) w):=by
 have HL:=au hl;have IH:=au ih;obtain⟨r,hr⟩:=aN (iw f R.l i d);have HRR:Hid (r=if bF R.l i [45,62]then jY f R.l (i+1) d else .ok dR i):=by show _=_;rw[hr,iw]
 rw[←hr]at hno⊢;have eX:=au hno;have rU:=aK h.blk;obtain⟨w1,hw1⟩:=aN ((w.alloc (.cells #[eU R.rb 0] 97)).alloc (.cells #[ak 0,di,di,aT,ay,ay,ak 0,ak 0] 46));have dH:=nT hw1
 have kL:=nC hw1
 have kT:=nD hw1
 have HW1:=au hw1;have H1:=au (h.quiet dH.o);have hn1:=aK kT.o;have hsz:=dH.o.size;have cZ:Hid (∀X:World,Step (·=R.rb) w1 X→X.cell? ⟨w.heap.size,0,none⟩=some (.pointer (some ⟨R.rb,0,none⟩))):=fun X hX=>aj (hX.keep kL.o om) 0 _ rfl
 have p0:=cZ.o w1 bK;clear ih hl h hno hr hw1;go_enter Tryz.func145,Tryz.ntmps145;go_upto_region 1 with fail
 rw[←HW1.o];go_wp2_with fail;cases hb:bF R.l i [45,62]with
 |false=>
  have HB:=au hb;clear hb;refine(dQ R HL.o ⟨#[45,62]⟩ _ i d H1.o dc HB.o).mono ?_;rintro e w2 ⟨rfl,hr2,h2⟩;have mP:=au (HRR.o.trans (LD HB.o))
  have HR2:=au hr2;have HS2:=au h2;have kC:=au (h2.keep kT.o om);clear hr2 h2 p0
  go_wp2_with (refine aG (w:=w2) rfl 46 (.tmp 2) (.tmp 7) rfl (w.heap.size+1) 0 46 _ [.int .i64 0,.string bZ,.string bZ,.bool false,.slice none 0 0,.slice none 0 0,.int .i64 0,.int .i64 0] rfl rfl kC.o Tryz.eF (Nat.le_of_eq rfl) (aU rfl) ?_
               intro wR hbR bW)
  have iq:wR.heap[w.heap.size+1]?=some (.cells ([.int .i64 0,.string bZ,.string bZ,.bool false,.slice none 0 0,.slice none 0 0,.int .i64 0,.int .i64 0]:List Value).toArray 46 (0,0)):=hbR;refine bodyPost_ret (aY rfl _ (w.heap.size+1) 46 _ _ rfl iq Tryz.underlying46 rfl Tryz.eF) rfl ?_;exact aJ.dU mP.o rfl ⟨_,rfl,rY _ _⟩ (HR2.o.step bW J_) (((dH.o.mono fe).trans HS2.o).then bW J_)
 |true=>
  have HB:=au hb;clear hb;refine(dA R HL.o ⟨#[45,62]⟩ _ i d H1.o dc HB.o).mono ?_;rintro e w2 ⟨rfl,hr2,h2⟩;have mP:=au (HRR.o.trans (if_pos HB.o))
  have HR2:=au hr2;have HS2:=au h2;clear hr2 h2 p0;have p0:=cZ.o w2 HS2.o;go_wp2_with fail;refine(IH.o R _ (i+1) d HL.o HR2.o hd (fun e=>eX.o (by rw[mP.o,e]))).mono ?_;rintro e wx hp;have hp2:aJ R d (TyV w2.heap.size) (jY f R.l (i+1) d) _ e wx:=hp;cases hx:jY f R.l (i+1) d with
  |out=>exact absurd (by rw[mP.o,hx]) eX.o
  |err c ln col=>rw[hx]at hp2;obtain⟨rfl,sq⟩:=hp2;exact⟨rfl,aJ.aZ c ln col (by rw[mP.o,hx]) rfl (((dH.o.mono fe).trans HS2.o).trans sq)⟩
  |ok ty jx=>
   have HX:=au hx;rw[hx]at hp2;obtain⟨⟨v,rfl,cs,rfl,hy⟩,hrx,hsx⟩:=hp2;obtain⟨nK,nM,nN,nO,nP,nR,tc1,ta2,tn2,nU,tl1,nV,rfl⟩:=hy.parts;have HY:=au hy;have vX:=au hrx;have rQ:=au (HS2.o.trans hsx);have kC:=au ((HS2.o.trans hsx).keep kT.o om);have hz2:=HS2.o.size;clear hx hp hy hrx hsx p0
   go_wp2_with (refine aG (w:=wx) rfl 46 (.tmp 2) (.tmp 9) rfl (w.heap.size+1) 0 46 _ [.int .i64 nK,.string nM,.string nN,.bool nO,.slice nP nR tc1,.slice ta2 tn2 nU,.int .i64 tl1,.int .i64 nV] rfl rfl kC.o Tryz.eF (Nat.le_of_eq rfl) (aU rfl) ?_
                intro wR hbR bW)
   have iq:wR.heap[w.heap.size+1]?=some (.cells [Value.int .i64 nK,a_ nM,a_ nN,dW nO,.slice nP nR tc1,.slice ta2 tn2 nU,ak tl1,ak nV].toArray 46 (0,0)):=hbR;refine bodyPost_ret (aY rfl _ (w.heap.size+1) 46 _ _ rfl iq Tryz.underlying46 rfl Tryz.eF) rfl ?_;exact aJ.dU (by rw[mP.o,HX.o]) rfl ⟨_,rfl,iC.mono J_ _ _ (iC.step bW J_ _ _ HY.o)⟩ (vX.o.step bW J_) (((dH.o.mono fe).trans rQ.o).then bW J_)
theorem Tryz.uY:(Tryz.prog.info? 167).map (·.size)=some 11:=by kernel_rfl
theorem Tryz.TQ:(Tryz.prog.info? 167).map (fun i=>(i.zero,i.size,i.bytes))=some (some (.agg #[di,ak 0,di,di,aT,ay,ay,ak 0,ak 0,ak 0,ak 0]),11,144):=by kernel_rfl
def ZL (n0:Nat) (w':World) (a:List Pm) (v:Value):Prop:=ig Ei w' (fun k=>n0≤k) a v
theorem zZ (f:Nat) (ih:∀f',f'<f→qR f') (R:gJ) (w:World) (i d:Nat) (en:ByteArray) (m:Nat) (hl:oZ R.l) (h:bI R w i d) (hd:d≤40) (hen:en.size≤100000) (hm:m≤1000) (hno:dw f R.l i d en.data.toList m≠.out):Calls Tryz.prog 141 #[.agg #[eU R.rb 0],.string en,.int .i64 m] w (aJ R d (ZL w.heap.size) (dw f R.l i d en.data.toList m) w):=by
 have HL:=au hl;have IH:=au ih;obtain⟨el,hel⟩:=aN en.data.toList;have HEL:=au hel;have Df:=au hen;rw[←hel]at hno⊢;obtain⟨r,hr⟩:=aN (dw f R.l i d el m);have HRR:Hid (r=if bF R.l i el then .ok [] (i+1)else oP f R.l i d el m []):=by show _=_;rw[hr,dw]
 rw[←hr]at hno⊢;have eX:=au hno;obtain⟨i0,hi0,hz0,hz1,hz2⟩:=info_parts Tryz.TQ;have HI:=au hi0;have HZ0:=au hz0;have HZ1:=au hz1;have HZ2:=au hz2;obtain⟨w1,hw1⟩:=aN (w.alloc (.cells #[eU R.rb 0] 97));have dH:=nS hw1
 have kL:=nB hw1
 have HW1:=au hw1;have H1:=au (h.quiet dH.o);have hn1:=aK kL.o;have rU:=aK h.blk;have hwz:R.rb<w1.heap.size:=by omega
 have cZ:Hid (∀X:World,Step (·=R.rb) w1 X→X.cell? ⟨w.heap.size,0,none⟩=some (.pointer (some ⟨R.rb,0,none⟩))):=fun X hX=>aj (hX.keep kL.o om) 0 _ rfl
 have gK:Hid (∀X:World,Step (·=R.rb) w1 X→Step (·=R.rb) w X):=fun X hX=>(dH.o.mono fe).trans hX
 clear hw1;have p0:=cZ.o w1 bK;have HIS:Hid (∀X i,bI R X i d→bF R.l i el=true→Calls Tryz.prog 110 #[.pointer (some ⟨R.rb,0,none⟩),.string en] X fun e w'=>e=.returned (.bool true)∧bI R w' (i+1) d∧Step (·=R.rb) X w'):=by intro X i hX hb;exact dA R HL.o en X i d hX Df.o (by rw[←HEL.o];exact hb)
 have HISN:Hid (∀X i,bI R X i d→bF R.l i el=false→Calls Tryz.prog 110 #[.pointer (some ⟨R.rb,0,none⟩),.string en] X fun e w'=>e=.returned (.bool false)∧bI R w' i d∧Step (·=R.rb) X w'):=by intro X i hX hb;exact dQ R HL.o en X i d hX Df.o (by rw[←HEL.o];exact hb)
 have HND:Hid (∀X g i,bI R X i d→X.cell? ⟨g,0,none⟩=some (.string en)→Calls Tryz.prog 111 #[.pointer (some ⟨R.rb,0,none⟩),.slice (some ⟨g,0,none⟩) 1 1] X (aJ R d iQ (aH R.l i el) X)):=by intro X g i hX hc;rw[HEL.o];exact dP R HL.o g en X i d hX Df.o hc
 clear ih hl h hno hr hel hen hi0 hz0 hz1 hz2;go_enter Tryz.func141,Tryz.ntmps141;go_upto_region 2 with fail
 rw[←HW1.o];go_wp2_with fail;cases hb:bF R.l i el with
 |true=>
  have HB:=au hb;clear hb;refine(HIS.o _ i H1.o HB.o).mono ?_;rintro e w2 ⟨rfl,hr2,h2⟩;have mP:=au (HRR.o.trans (if_pos HB.o))
  have HR2:=au hr2;have HS2:=au h2;clear hr2 h2 p0;go_wp2_with fail;go_ret;exact aJ.dU mP.o rfl (ig.nil _ _) HR2.o (gK.o _ HS2.o)
 |false=>
  have HB:=au hb;clear hb;refine(HISN.o _ i H1.o HB.o).mono ?_;rintro e w2 ⟨rfl,hr2,h2⟩;have mP:=au (HRR.o.trans (LD HB.o))
  have HR2:=au hr2;have HS2:=au h2;clear hr2 h2 p0;go_wp2_with fail;go_loopg [7] f (fun gg s7 wr=>gg≤f∧∃(i':Nat) (acc:List Pm) (xs:List Value),r=oP gg R.l i' d el m acc∧Bq Ei 167 11 R w1 d wr i' acc s7 xs);case atStart=>exact⟨Nat.le_refl _,i,[],[],mP.o,HR2.o,World.ownsRow_nil _ _ _ _,rfl,HS2.o⟩
  case round=>
   obtain⟨hgf,i',acc,xs,hrq,hst⟩:=hrel;obtain⟨gn,rfl⟩:∃gn,gk=gn+1:=by
    cases gk with
    |zero=>exact absurd hrq (by rw[oP];exact eX.o)
    |succ gn=>exact⟨gn,rfl⟩
   obtain⟨tk,htk⟩:=aN (tokA R.l i');(have vI:Hid (r=(eY acc.length m R.l i').bind fun _ i=>(aS R.l i).bind fun n j=>(aH R.l j [58]).bind fun _ j=>(jY gn R.l j d).bind fun ty j=>if bF R.l j [44]then oP gn R.l (j+1) d el m (acc++[⟨n,ty,(tokA R.l i).line,(tokA R.l i).col⟩])else(aH R.l j el).bind fun _ j=>.ok (acc++[⟨n,ty,(tokA R.l i).line,(tokA R.l i).col⟩]) j):=by show _=_;rw[hrq,oP]);obtain⟨oa,oc,rfl⟩:=aV hst.ow;have HST:=au hst;have p0:=cZ.o wr hst.st;clear hrq hst;go_wp2_with fail;refine(nH R wr acc.length m i' d HST.o.rd).mono ?_;rintro e w3 hp;cases hn:eY acc.length m R.l i' with
   |out=>exact(lH hn).elim
   |err c ln col=>rw[hn]at hp;obtain⟨rfl,s3⟩:=hp;exact⟨rfl,aJ.aZ c ln col (by rw[vI.o,hn];rfl) rfl (gK.o _ (HST.o.st.trans s3))⟩
   |ok u j=>
    have hji:j=i'∧acc.length<m:=by
     unfold eY at hn;split at hn
     ·cases hn
     ·cases hn;exact⟨rfl,by omega⟩
    obtain⟨rfl,hlt⟩:=hji;have tJ:=au hn;rw[hn]at hp;obtain⟨⟨v,rfl,rfl⟩,hr3,s3⟩:=hp;have gu:=au (HST.o.read fH hwz hr3 s3);(have mY:Hid (r=(aS R.l j).bind fun n k=>(aH R.l k [58]).bind fun _ j=>(jY gn R.l j d).bind fun ty j=>if bF R.l j [44]then oP gn R.l (j+1) d el m (acc++[⟨n,ty,tk.line,tk.col⟩])else(aH R.l j el).bind fun _ j=>.ok (acc++[⟨n,ty,tk.line,tk.col⟩]) j):=by show _=_;rw[vI.o,tJ.o,htk];rfl);have HT:=au (show R.l[j]?=some tk by rw[htk];exact gu.o.rd.tok);have HW31:=gu.o.st.size;clear hn hr3 s3 p0 htk;obtain⟨r1,hr1⟩:=aN (aS R.l j);have HR1:=au hr1;(have pG:Hid (r1≠.out):=by rw[hr1];exact fun e=>iV e);(have IW:Hid (r=r1.bind fun n k=>(aH R.l k [58]).bind fun _ j=>(jY gn R.l j d).bind fun ty j=>if bF R.l j [44]then oP gn R.l (j+1) d el m (acc++[⟨n,ty,tk.line,tk.col⟩])else(aH R.l j el).bind fun _ j=>.ok (acc++[⟨n,ty,tk.line,tk.col⟩]) j):=by show _=_;rw[mY.o,hr1]);obtain⟨Jx,hJx⟩:=aN (AJ R j d w3 #[.string ⟨#[]⟩,.int .i64 0,.string ⟨#[]⟩,.string ⟨#[]⟩,.bool false,.slice none 0 0,.slice none 0 0,.int .i64 0,.int .i64 0,.int .i64 0,.int .i64 0] (fun s=> #[.string s,.int .i64 0,.string ⟨#[]⟩,.string ⟨#[]⟩,.bool false,.slice none 0 0,.slice none 0 0,.int .i64 0,.int .i64 0,.int .i64 tk.line,.int .i64 tk.col]) 167 r1 5 6 7 8 [some (.pointer (some ⟨w.heap.size,0,none⟩)),some (.pointer (some ⟨R.rb,0,none⟩)),some (.agg #[ak tk.line,ak tk.col]),some (.pointer (some ⟨w.heap.size,0,none⟩)),some (.pointer (some ⟨R.rb,0,none⟩)),none,none,none,none]);have dB:=au hJx;clear hJx hr1;(go_upto_region 5 with fail);go_cut [8] (fun s8 wx=>∃(nm:ByteArray) (k b:Nat),aS R.l j=.ok nm k∧s8=.pointer (some ⟨b,0,none⟩)∧bI R wx k d∧w3.heap.size≤b∧wx.heap[b]?=some (.cells #[a_ nm,ak 0,di,di,aT,ay,ay,ak 0,ak 0,ak tk.line,ak tk.col] 167 (0,0))∧Step (·=R.rb) w3 wx);case first=>
     (have yY:Hid (∀X:World,Step (·=R.rb) w3 X→X.cell? ⟨w.heap.size,0,none⟩=some (.pointer (some ⟨R.rb,0,none⟩))):=by intro X hX;exact cZ.o X (gu.o.st.trans hX));refine bP kr Jx 9 rfl kr kr kr kr ?h0 ?hs ?hdone;case h0=>rw[dB.o];exact AJ.zero (bK.drew) gu.o.rd
     case hs=>
      refine⟨?_,?_,?_,?_,?_,?_,?_,?_,?_,trivial⟩
      all_goals (intro L V X a ev dG hdf hL ax hJ;rw[dB.o]at hJ)
      ·have o3:=dG 3 rfl;change a.tmps[3]?.getD undef=.pointer (some ⟨w.heap.size,0,none⟩)at o3;go_simp;exact gbQ
      ·have e19:=(ev 0 19 rfl (ax 0 rfl)).trans (hJ.iK 0 _ rfl (ax 0 rfl));have p0:=yY.o X hJ.st;go_simp;exact gbQ
      ·have e20:=(ev 1 20 rfl (ax 1 rfl)).trans (hJ.iK 1 _ rfl (ax 1 rfl));have h5:L 5=false:=by
        cases e:L 5 with
        |false=>rfl
        |true=>exact absurd (hJ.qc e) (by rw[hL];decide)
       obtain⟨i9,y1,y2⟩:=hJ.rd;rw[h5]at y2;have y3:i9=j:=y2;subst y3;go_simp;refine(at_at R X i9 d tk y1 HT.o).mono ?_;rintro e wq ⟨rfl,hs⟩;exact⟨_,rfl,by rw[dB.o];exact(hJ.move hs).up 2 rfl dc dc dc dc⟩
      ·have o3:=dG 3 rfl;change a.tmps[3]?.getD undef=.pointer (some ⟨w.heap.size,0,none⟩)at o3;go_simp;exact gbQ
      ·have e22:=(ev 3 22 rfl (ax 3 rfl)).trans (hJ.iK 3 _ rfl (ax 3 rfl));have p0:=yY.o X hJ.st;go_simp;exact gbQ
      ·have e23:=(ev 4 23 rfl (ax 4 rfl)).trans (hJ.iK 4 _ rfl (ax 4 rfl));obtain⟨i9,y1,y2⟩:=hJ.rd;rw[hL]at y2;have y3:i9=j:=y2;subst y3;go_simp;refine(name_any R HL.o X i9 d y1).mono ?_;intro e wq hp;rw[←HR1.o]at hp;cases hx:r1 with
       |out=>exact absurd hx pG.o
       |err cc ln col=>rw[hx]at hp;obtain⟨rfl,hs⟩:=hp;exact⟨hdf,aJ.aZ cc ln col (by rw[IW.o,hx];rfl) rfl (gK.o _ ((gu.o.st.trans hJ.st).trans hs))⟩
       |ok s9 k9=>have hx0:=hx;rw[hx]at hp;obtain⟨⟨v,rfl,rfl⟩,hr,hs⟩:=hp;exact⟨_,rfl,by rw[dB.o];exact hJ.call dc om hL (ax 2 rfl) rfl hs hr hx0⟩
      ·have e21:=(ev 2 21 rfl (ax 2 rfl)).trans (hJ.iK 2 _ rfl (ax 2 rfl));obtain⟨s9,k9,y1,y2⟩:=hJ.vc (ax 5 rfl);have e24:=(ev 5 24 rfl (ax 5 rfl)).trans y2;go_simp;exact⟨_,rfl,by rw[dB.o];exact hJ.build dc (ax 5 rfl) hL rfl y2⟩
      ·go_simp;exact⟨_,rfl,by rw[dB.o];exact hJ.alloc dc hL rfl⟩
      ·obtain⟨b9,y1,y2,y3,-⟩:=hJ.vl (ax 7 rfl);obtain⟨s9,k9,y4,y5⟩:=hJ.vb (ax 6 rfl);have e8:=(ev 7 8 rfl (ax 7 rfl)).trans y1;have e25:=(ev 6 25 rfl (ax 6 rfl)).trans y5;refine eH 167 (.tmp 8) (.tmp 25) rfl b9 0 167 _ [.string s9,.int .i64 0,.string ⟨#[]⟩,.string ⟨#[]⟩,.bool false,.slice none 0 0,.slice none 0 0,.int .i64 0,.int .i64 0,.int .i64 tk.line,.int .i64 tk.col] (by rw[bM];exact e8) (by rw[bM];exact e25) (y3 hL) Tryz.uY (Nat.le_of_eq rfl) (aU rfl) ?_;intro w9 iJ hs9;exact⟨undef,rfl,by rw[dB.o];exact hJ.put dc om (ax 6 rfl) (ax 7 rfl) (fun u hu=>by cases hu) y4 y1 hs9 iJ undef⟩
     case hdone=>intro L V X hall hJ;rw[dB.o]at hJ;obtain⟨s9,k9,b9,h1,h2,h3,h4,h5,h6⟩:=hJ.done (hall 5 dc) (hall 7 dc) (hall 8 dc);(have HD1:Hid (aS R.l j=.ok s9 k9):=by rw[←HR1.o];exact h1);have HD3:=au h3;have HD5:=au h5;have HD6:=au h6;rw[rgQ9];simp only[kJ,fO,List.getElem?_toArray,List.getElem?_cons_zero,List.getElem?_cons_succ,Option.bind_some,Act.put,List.setIfInBounds_toArray,List.set_cons_zero,List.set_cons_succ,h2];clear hJ hall h1 h2 h3 h5 h6;go_wp2_with fail;go_meet;case rel=>exact⟨s9,k9,b9,HD1.o,rfl,HD3.o,h4,HD5.o,HD6.o⟩
    case rest=>
     obtain⟨nm,k,b,hnm,rfl,MN,hb5,hblk5,hs5⟩:=hcut;obtain⟨w5,rfl⟩:=aN wc;have G8:=au hnm;have VJ:=au (fV HL.o gu.o.rd.lt hnm);have DY:=au MN;have Fq:=au hblk5;have oD:=au hs5;have FH:=au (mY.o.trans (zO G8.o));clear hnm MN hblk5 hs5;have p0:=cZ.o w5 (gu.o.st.trans oD.o);go_wp2_with fail;refine(dP R HL.o w5.heap.size ⟨#[58]⟩ _ k d (DY.o.quiet (bK.alloc _)) dc (aj (aC _ _) 0 _ rfl)).mono ?_;rintro e w6 hp;have hp2:aJ R d iQ (aH R.l k [58]) _ e w6:=hp;cases hn:aH R.l k [58]with
     |out=>exact(dJ hn).elim
     |err c ln col=>rw[hn]at hp2;obtain⟨rfl,sb⟩:=hp2;exact⟨rfl,aJ.aZ c ln col (by rw[FH.o,hn];rfl) rfl (gK.o _ ((gu.o.st.trans oD.o).trans (((Step.refl (·=R.rb) _).alloc _).trans sb)))⟩
     |ok u2 k6=>
      have pX:=au hn;rw[hn]at hp2;obtain⟨⟨v,rfl,rfl⟩,qj,s6⟩:=hp2;have Tc:Hid (Step (·=R.rb) w5 w6):=((Step.refl (·=R.rb) _).alloc _).trans s6;have xQ:=au qj;have DW:=au (Tc.o.keep Fq.o om);have rP:=au (oD.o.trans Tc.o);have uD:=au (FH.o.trans (zO pX.o));clear hn qj s6 p0 hp;have p0:=cZ.o w6 (gu.o.st.trans rP.o);go_wp2_with fail;refine(IH.o gn om R _ k6 d HL.o xQ.o hd (fun e=>eX.o (by rw[uD.o,e];rfl))).mono ?_;rintro e wx hp;have hp2:aJ R d (TyV w6.heap.size) (jY gn R.l k6 d) _ e wx:=hp;cases hx:jY gn R.l k6 d with
      |out=>exact absurd (by rw[uD.o,hx];rfl) eX.o
      |err c ln col=>rw[hx]at hp2;obtain⟨rfl,sq⟩:=hp2;exact⟨rfl,aJ.aZ c ln col (by rw[uD.o,hx];rfl) rfl (gK.o _ ((gu.o.st.trans rP.o).trans sq))⟩
      |ok ty jx=>
       have HX:=au hx;rw[hx]at hp2;obtain⟨⟨v,rfl,cs,rfl,hy⟩,hrx,hsx⟩:=hp2;obtain⟨nK,nM,nN,nO,nP,nR,tc1,ta2,tn2,nU,tl1,nV,rfl⟩:=hy.parts;have HY:=au hy;have vX:=au hrx;have rQ:=au (rP.o.trans hsx);have Vj:=au (hsx.keep DW.o om);have Ic:=au (uD.o.trans (zO HX.o));have hz5:=oD.o.size;have hz6:=Tc.o.size;have hzx:=hsx.size;have hbx:=aK Vj.o;clear hx hp hy hrx hsx p0
       go_upto_region 8 with(refine aG (w:=wx) rfl 46 (.tmp 32) (.tmp 31) rfl b 1 167 _ [Value.int .i64 nK,a_ nM,a_ nN,dW nO,.slice nP nR tc1,.slice ta2 tn2 nU,ak tl1,ak nV] rfl rfl Vj.o Tryz.eF (show 1+8≤11 by decide) (aU rfl) ?_
                             intro w7 hb7 uP)
       have LG:Hid (w7.heap[b]?=some (.cells #[a_ nm,ak nK,a_ nM,a_ nN,dW nO,.slice nP nR tc1,.slice ta2 tn2 nU,ak tl1,ak nV,ak tk.line,ak tk.col] 167 (0,0))):=hb7;have CO:Hid (Step (·=R.rb) w3 w7):=rQ.o.then uP J_;have Oz:=au (vX.o.step uP J_);have HY7:Hid (iC w7 (fun q=>w3.heap.size≤q∧q≠b) ty [Value.int .i64 nK,a_ nM,a_ nN,dW nO,.slice nP nR tc1,.slice ta2 tn2 nU,ak tl1,ak nV]):=iC.mono (fun q _ hq=>⟨by have:=hq.1;omega,hq.2⟩) _ _ (iC.step uP (fun q hq e=>hq.2 e) _ _ (iC.mono (P':=fun q=>w6.heap.size≤q∧q≠b) (fun q _ hq=>⟨hq,by have:=aK DW.o;omega⟩) _ _ HY.o));clear hb7 uP;(have iD:Hid (∀(jj:Nat) v,[Value.string nm,ak nK,a_ nM,a_ nN,dW nO,.slice nP nR tc1,.slice ta2 tn2 nU,ak tl1,ak nV,ak tk.line,ak tk.col][jj]?=some v→w7.cell? ⟨b,0+jj,none⟩=some v):=by intro jj v hv;rw[Nat.zero_add];exact aj LG.o jj v rF);obtain⟨w4,hw4⟩:=aN (w7.alloc (.cells [Value.string nm,ak nK,a_ nM,a_ nN,dW nO,.slice nP nR tc1,.slice ta2 tn2 nU,ak tl1,ak nV,ak tk.line,ak tk.col].toArray 167));(have gq:Hid (StF w7 w4):=by rw[hw4];exact bK.alloc _);have fC:=au ((gu.o.read fH hwz Oz.o CO.o).quiet fH gq.o);have SY:Hid (Ei w4 (fun q=>w3.heap.size≤q) ⟨nm,ty,tk.line,tk.col⟩ [Value.string nm,ak nK,a_ nM,a_ nN,dW nO,.slice nP nR tc1,.slice ta2 tn2 nU,ak tl1,ak nV,ak tk.line,ak tk.col]):=⟨[Value.int .i64 nK,a_ nM,a_ nN,dW nO,.slice nP nR tc1,.slice ta2 tn2 nU,ak tl1,ak nV],rfl,VJ.o,iC.mono (fun q _ hq=>hq.1) _ _ (iC.step gq.o (fun _ _ h=>h) _ _ HY7.o)⟩;(have JQ:Hid ((w7.alloc (.cells [Value.string nm,ak nK,a_ nM,a_ nN,dW nO,.slice nP nR tc1,.slice ta2 tn2 nU,ak tl1,ak nV,ak tk.line,ak tk.col].toArray 167)).ownsRow w1.heap.size 167 11 (.slice oa acc.length oc) acc.length xs):=by rw[←hw4];exact fC.o.ow);have Bc:Hid (Row (w7.alloc (.cells [Value.string nm,ak nK,a_ nM,a_ nN,dW nO,.slice nP nR tc1,.slice ta2 tn2 nU,ak tl1,ak nV,ak tk.line,ak tk.col].toArray 167)) (w7.heap.size+1) (.slice (some ⟨w7.heap.size,0,none⟩) 1 1) 1 [Value.string nm,ak nK,a_ nM,a_ nN,dW nO,.slice nP nR tc1,.slice ta2 tn2 nU,ak tl1,ak nV,ak tk.line,ak tk.col]):=Row.new (aC _ _) dc;(have JR:Hid (w1.heap.size≤(w7.alloc (.cells [Value.string nm,ak nK,a_ nM,a_ nN,dW nO,.slice nP nR tc1,.slice ta2 tn2 nU,ak tl1,ak nV,ak tk.line,ak tk.col].toArray 167)).heap.size):=by rw[←hw4];exact fC.o.st.size);have O8:=au hw4;have Ak:=au hlt;have HMM:=au hm;have eG:Hid (∀u∈[Value.string nm,ak nK,a_ nM,a_ nN,dW nO,.slice nP nR tc1,.slice ta2 tn2 nU,ak tl1,ak nV,ak tk.line,ak tk.col],u.oneCell'=true):=aU rfl;clear hw4 hlt hm;go_upto_region 9 with(first
        |(refine aA rfl 167 (.tmp 8) rfl b 0 rfl [Value.string nm,ak nK,a_ nM,a_ nN,dW nO,.slice nP nR tc1,.slice ta2 tn2 nU,ak tl1,ak nV,ak tk.line,ak tk.col] _ iD.o Tryz.underlying167 rfl Tryz.uY ?_)
        |(refine mX rfl 43 (.tmp 34) rfl 167 i0 (.agg #[di,ak 0,di,di,aT,ay,ay,ak 0,ak 0,ak 0,ak 0]) [Value.string nm,ak nK,a_ nM,a_ nN,dW nO,.slice nP nR tc1,.slice ta2 tn2 nU,ak tl1,ak nV,ak tk.line,ak tk.col] rfl Tryz.underlying43 HI.o HZ0.o HZ1.o rfl dc dc ?_)
        |(refine dK _ rfl (w7.heap.size+1) (.tmp 33) (.tmp 35) 43 rfl w1.heap.size 167 i0 (.agg #[di,ak 0,di,di,aT,ay,ay,ak 0,ak 0,ak 0,ak 0]) 11 144 Tryz.underlying43 HI.o HZ0.o HZ1.o HZ2.o rfl dc _ _ _ (by rfl) JQ.o _ 1 _ (by rfl) Bc.o rfl eG.o (by have:=Ak.o;have:=HMM.o;unfold maxLen;omega) (by have:=Ak.o;have:=HMM.o;omega) JR.o ?_;intro v9 w9 gZ gU pF))
       rw[←O8.o]at gU pF;have iR:=au (gu.o.push fH fC.o SY.o gZ gU pF hwz);clear gZ gU pF;have p0:=cZ.o w9 iR.o.st;go_wp2_with fail;cases hc:bF R.l jx [44]with
       |true=>
        have BA:=au hc;clear hc;refine(dA R HL.o ⟨#[44]⟩ _ jx d iR.o.rd dc BA.o).mono ?_;rintro e w6 ⟨rfl,qj,s6⟩;have fG:=au (iR.o.read fH hwz qj s6);(have G7:Hid (r=oP gn R.l (jx+1) d el m (acc++[⟨nm,ty,tk.line,tk.col⟩])):=by show _=_;rw[Ic.o,BA.o,if_pos rfl]);clear qj s6 p0;go_wp2_with fail;go_roundg gn;case rel=>exact⟨by omega,jx+1,_,_,G7.o,fG.o⟩
        case measure=>omega
       |false=>
        have BA:=au hc;clear hc;refine(dQ R HL.o ⟨#[44]⟩ _ jx d iR.o.rd dc BA.o).mono ?_;rintro e wa ⟨rfl,hra,sa⟩;have jB:=au (iR.o.read fH hwz hra sa);(have G7:Hid (r=(aH R.l jx el).bind fun _ j=>.ok (acc++[⟨nm,ty,tk.line,tk.col⟩]) j):=by show _=_;rw[Ic.o,BA.o,if_neg dc]);clear hra sa p0;have p0:=cZ.o wa jB.o.st;go_wp2_with fail;refine(HND.o _ wa.heap.size jx (jB.o.rd.quiet (bK.alloc _)) (aj (aC _ _) 0 _ rfl)).mono ?_;rintro e wb hp;have hp2:aJ R d iQ (aH R.l jx el) _ e wb:=hp;cases hn:aH R.l jx el with
        |out=>exact(dJ hn).elim
        |err c ln col=>rw[hn]at hp2;obtain⟨rfl,sb⟩:=hp2;exact⟨rfl,aJ.aZ c ln col (by rw[G7.o,hn];rfl) rfl (gK.o _ (jB.o.st.trans (((Step.refl (·=R.rb) _).alloc _).trans sb)))⟩
        |ok u3 jz=>have VL:=au hn;rw[hn]at hp2;obtain⟨⟨v,rfl,rfl⟩,wu,sb⟩:=hp2;have uq:=au (jB.o.read fH hwz wu (((Step.refl (·=R.rb) _).alloc _).trans sb));(have kU:Hid (r=.ok (acc++[⟨nm,ty,tk.line,tk.col⟩]) jz):=by show _=_;rw[G7.o,VL.o];rfl);clear hn wu sb p0 hp;go_wp2_with fail;go_ret;have hsz:=dH.o.size;exact aJ.dU kU.o rfl ⟨_,cu.eu uq.o.ow (fun q hq=>by have:=(uq.o.ow.lt q hq).1;omega),oG.mono fH (fun q _ hq=>by have:=hq.1;omega) _ _ uq.o.el⟩ uq.o.rd (gK.o _ uq.o.st)
theorem WJ (R:gJ) (w:World) (i d:Nat) (hl:oZ R.l) (h:bI R w i d):Calls Tryz.prog 143 #[.agg #[eU R.rb 0]] w (aJ R d Hy (jJ R.l i) w):=by
 have HL:=au hl;obtain⟨r,hr⟩:=aN (jJ R.l i);have HRR:Hid (r=if bF R.l i [105,110,116]then .ok ⟨#[105,110,116]⟩ (i+1)else if bF R.l i [98,111,111,108]then .ok ⟨#[98,111,111,108]⟩ (i+1)else if bF R.l i [102,54,52]then .ok ⟨#[102,54,52]⟩ (i+1)else aS R.l i):=by show _=_;rw[hr,jJ]
 rw[←hr];have rU:=aK h.blk;obtain⟨w1,hw1⟩:=aN ((w.alloc (.cells #[eU R.rb 0] 97)).alloc (.cells #[.string ⟨#[105,110,116]⟩,.string ⟨#[98,111,111,108]⟩,.string ⟨#[102,54,52]⟩] 9));have dH:=nT hw1
 have kL:=nC hw1
 have kT:=nD hw1
 have HW1:=au hw1;have H1:=au (h.quiet dH.o);have hn1:=aK kT.o;have gK:Hid (∀X:World,Step (·=R.rb) w1 X→Step (·=R.rb) w X):=fun X hX=>(dH.o.mono fe).trans hX
 have cZ:Hid (∀X:World,Step (·=R.rb) w1 X→X.cell? ⟨w.heap.size,0,none⟩=some (.pointer (some ⟨R.rb,0,none⟩))):=fun X hX=>aj (hX.keep kL.o om) 0 _ rfl
 have sZ:Hid (∀X:World,Step (·=R.rb) w1 X→X.heap[w.heap.size+1]?=some (.cells #[.string ⟨#[105,110,116]⟩,.string ⟨#[98,111,111,108]⟩,.string ⟨#[102,54,52]⟩] 9 (0,0))):=fun X hX=>hX.keep kT.o om
 clear hl h hr hw1;go_enter Tryz.func143,Tryz.ntmps143;go_upto_block 0 with fail
 have hx1:(w.alloc (.cells #[eU R.rb 0] 97)).alloc (.cells #[.string ⟨#[105,110,116]⟩,.string ⟨#[98,111,111,108]⟩,.string ⟨#[102,54,52]⟩] 9)=w1:=HW1.o.symm;rw[hx1];clear hx1;go_wp2_with fail;go_loopg [4,7] 3 (fun gg s4 s7 wr=>∃k:Nat,s7=.int .i64 k∧k≤3∧3-k≤gg∧(1≤k→bF R.l i [105,110,116]=false)∧(2≤k→bF R.l i [98,111,111,108]=false)∧(3≤k→bF R.l i [102,54,52]=false)∧bI R wr i d∧Step (·=R.rb) w1 wr);case atStart=>exact⟨0,rfl,by omega,by omega,(fun h=>by omega),(fun h=>by omega),(fun h=>by omega),H1.o,Step.refl _ _⟩
 case round=>
  obtain⟨k,rfl,hk,hgg,hf0,hf1,hf2,hrd,hst⟩:=hrel;have HR:=au hrd;have HST:=au hst;have p0:=cZ.o wr hst;have q0:=aj (sZ.o wr hst) 0 _ rfl;have q1:=aj (sZ.o wr hst) 1 _ rfl;have q2:=aj (sZ.o wr hst) 2 _ rfl;have HF:=au (And.intro hf0 (And.intro hf1 hf2));clear hrd hst hf0 hf1 hf2;rcases(show k=0∨k=1∨k=2∨k=3 by omega)with rfl|rfl|rfl|rfl
  ·clear hk;go_wp2_with fail;cases hb:bF R.l i [105,110,116]with
   |true=>have HB:=au hb;clear hb;refine(dA R HL.o ⟨#[105,110,116]⟩ _ i d HR.o dc HB.o).mono ?_;rintro e w4 ⟨rfl,hr4,h4⟩;have HR4:=au hr4;have gq:=au h4;clear hr4 h4 q0 q1 q2 p0;go_wp2_with fail;go_ret;exact aJ.dU (by rw[HRR.o,HB.o,if_pos rfl]) rfl rfl HR4.o (gK.o _ (HST.o.trans gq.o))
   |false=>
    have HB:=au hb;clear hb;refine(dQ R HL.o ⟨#[105,110,116]⟩ _ i d HR.o dc HB.o).mono ?_;rintro e w4 ⟨rfl,hr4,h4⟩;have HR4:=au hr4;have gq:=au h4;clear hr4 h4 q0 q1 q2 p0;go_wp2_with fail;go_roundg (gk-1);case rel=>exact⟨1,rfl,by omega,by omega,(fun _=>HB.o),(fun h=>by omega),(fun h=>by omega),HR4.o,HST.o.trans gq.o⟩
    case measure=>omega
  ·clear hk;go_wp2_with fail;cases hb:bF R.l i [98,111,111,108]with
   |true=>have HB:=au hb;clear hb;refine(dA R HL.o ⟨#[98,111,111,108]⟩ _ i d HR.o dc HB.o).mono ?_;rintro e w4 ⟨rfl,hr4,h4⟩;have HR4:=au hr4;have gq:=au h4;clear hr4 h4 q0 q1 q2 p0;go_wp2_with fail;go_ret;exact aJ.dU (by rw[HRR.o,if_neg (by rw[HF.o.1 om];decide),HB.o,if_pos rfl]) rfl rfl HR4.o (gK.o _ (HST.o.trans gq.o))
   |false=>
    have HB:=au hb;clear hb;refine(dQ R HL.o ⟨#[98,111,111,108]⟩ _ i d HR.o dc HB.o).mono ?_;rintro e w4 ⟨rfl,hr4,h4⟩;have HR4:=au hr4;have gq:=au h4;clear hr4 h4 q0 q1 q2 p0;go_wp2_with fail;go_roundg (gk-1);case rel=>exact⟨2,rfl,by omega,by omega,(fun _=>HF.o.1 om),(fun _=>HB.o),(fun h=>by omega),HR4.o,HST.o.trans gq.o⟩
    case measure=>omega
  ·clear hk;go_wp2_with fail;cases hb:bF R.l i [102,54,52]with
   |true=>have HB:=au hb;clear hb;refine(dA R HL.o ⟨#[102,54,52]⟩ _ i d HR.o dc HB.o).mono ?_;rintro e w4 ⟨rfl,hr4,h4⟩;have HR4:=au hr4;have gq:=au h4;clear hr4 h4 q0 q1 q2 p0;go_wp2_with fail;go_ret;exact aJ.dU (by rw[HRR.o,if_neg (by rw[HF.o.1 om];decide),if_neg (by rw[HF.o.2.1 om];decide),HB.o,if_pos rfl]) rfl rfl HR4.o (gK.o _ (HST.o.trans gq.o))
   |false=>
    have HB:=au hb;clear hb;refine(dQ R HL.o ⟨#[102,54,52]⟩ _ i d HR.o dc HB.o).mono ?_;rintro e w4 ⟨rfl,hr4,h4⟩;have HR4:=au hr4;have gq:=au h4;clear hr4 h4 q0 q1 q2 p0;go_wp2_with fail;go_roundg (gk-1);case rel=>exact⟨3,rfl,by omega,by omega,(fun _=>HF.o.1 om),(fun _=>HF.o.2.1 om),(fun _=>HB.o),HR4.o,HST.o.trans gq.o⟩
    case measure=>omega
  ·clear hk;(have HE:Hid (r=aS R.l i):=by show _=_;rw[HRR.o,if_neg (by rw[HF.o.1 om];decide),if_neg (by rw[HF.o.2.1 om];decide),if_neg (by rw[HF.o.2.2 om];decide)]);clear q0 q1 q2;go_wp2_with fail;refine(name_any R HL.o _ i d HR.o).mono ?_;rintro e w4 hp;have hp2:aJ R d Hy (aS R.l i) _ e w4:=hp;cases hn:aS R.l i with
   |out=>exact(iV hn).elim
   |err c ln col=>rw[hn]at hp2;obtain⟨rfl,hs⟩:=hp2;exact⟨rfl,aJ.aZ c ln col (by rw[HE.o,hn]) rfl (gK.o _ (HST.o.trans hs))⟩
   |ok s j=>have HN:=au hn;rw[hn]at hp2;obtain⟨⟨v,rfl,rfl⟩,hr,hs⟩:=hp2;have HR4:=au hr;have gq:=au hs;clear hn hr hs hp p0;go_wp2_with fail;go_ret;exact aJ.dU (by rw[HE.o,HN.o]) rfl rfl HR4.o (gK.o _ (HST.o.trans gq.o))
end Go.Proofs.YtppekkbaoimpgaaGreat
