import Derived.Test.YtggjfinekcenpaaGreatPkD
import Derived.Deep.RegionHeld3
set_option maxRecDepth 100000
set_option maxHeartbeats 80000000
namespace Go.Proofs.YtggjfinekcenpaaGreat
open Go.RowKit
open Vt
theorem Tryz.oC:(Tryz.prog.info? 9).map (fun i=>(i.zero,i.size,i.bytes))=some (some (.string ⟨#[]⟩),1,16):=by kernel_rfl
theorem Tryz.RV:(Tryz.prog.info? 46).map (fun i=>(i.zero,i.size,i.bytes))=some (some (.agg #[af 0,bW,bW,aT,aj,aj,af 0,af 0]),8,112):=by kernel_rfl
theorem jQ {w w':World} {base:Nat} {e:TypeId} {size:Nat} {v:Value} {n:Nat} {xs:List Value} {S:Nat→Prop} (h:w.ownsRow base e size v n xs) (hs:Step S w w') (hn:∀q,v.ownBlock=some q→¬S q):w'.ownsRow base e size v n xs:=by
 refine⟨h.1,?_⟩;rcases h.2 with hz|⟨g,cap,cur,rfl,hb,hgg,rest⟩
 ·exact .inl hz
 ·exact .inr ⟨g,cap,cur,rfl,hb,hs.keep hgg (hn g rfl),rest⟩
structure rW (R:h_) (w1:World) (bt:Nat) (k:Int) (nm:ByteArray) (t:Tok) (d:Nat) (X:World) (i':Nat) (ls:List ByteArray) (ts:List Ty) (vl va:Value) (xs:List Value):Prop where
 rd:bD R X i' d
 blk:X.heap[bt]?=some (.cells #[af k,aG nm,aX,aT,vl,va,af t.line,af t.col] 46 (0,0))
 ol:X.ownsRow w1.heap.size 9 1 vl ls.length (ls.map .string)
 oa:X.ownsRow w1.heap.size 46 8 va ts.length xs
 el:dM X (fun q=>w1.heap.size≤q∧va.ownBlock≠some q∧vl.ownBlock≠some q) ts xs
 ne:∀q,vl.ownBlock=some q→va.ownBlock≠some q
 sz:∀s∈ls,s.size≤9223372036854775807
 few:ls.length+ts.length≤9
 st:Step (fun k=>k=R.rb∨k=bt) w1 X
theorem rW.quiet {R:h_} {w1:World} {bt:Nat} {k:Int} {nm:ByteArray} {t:Tok} {d:Nat} {X X':World} {i':Nat} {ls:List ByteArray} {ts:List Ty} {vl va:Value} {xs:List Value} (h:rW R w1 bt k nm t d X i' ls ts vl va xs) (hs:jP X X'):rW R w1 bt k nm t d X' i' ls ts vl va xs:=
 ⟨h.rd.quiet hs,hs.keep h.blk (fun h=>h),hs.owns h.ol (fun _ _ h=>h),hs.owns h.oa (fun _ _ h=>h),dM.step hs (fun _ _ h=>h) _ _ h.el,h.ne,h.sz,h.few,h.st.trans (hs.mono fe)⟩
theorem rW.read {R:h_} {w1:World} {bt:Nat} {k:Int} {nm:ByteArray} {t:Tok} {d:Nat} {X X':World} {i' i2:Nat} {ls:List ByteArray} {ts:List Ty} {vl va:Value} {xs:List Value} (h:rW R w1 bt k nm t d X i' ls ts vl va xs) (hrb:R.rb<bt) (hw:R.rb<w1.heap.size) (hr:bD R X' i2 d) (hs:Step (·=R.rb) X X'):rW R w1 bt k nm t d X' i2 ls ts vl va xs:=
 ⟨hr,hs.keep h.blk om,hs.owns h.ol oi,hs.owns h.oa oi,dM.step hs (fun _ hk h=>by have:=hk.1;omega) _ _ h.el,h.ne,h.sz,h.few,h.st.trans (hs.mono il)⟩
theorem rW.pushL {R:h_} {w1:World} {bt:Nat} {k:Int} {nm:ByteArray} {t:Tok} {d:Nat} {X X2 X3:World} {i':Nat} {ls:List ByteArray} {ts:List Ty} {vl va v9:Value} {xs:List Value} {s:ByteArray} (h:rW R w1 bt k nm t d X i' ls ts vl va xs) (hrb:R.rb<bt) (hbt:bt<w1.heap.size) (h2:jP X X2) (hown:X3.ownsRow w1.heap.size 9 1 v9 (ls.length+1) (ls.map .string++[.string s])) (hgrow:X2.grownBy X3 vl.ownBlock) (hat:v9.ownBlock=vl.ownBlock∨v9.ownBlock=some X2.heap.size) (hs:s.size≤9223372036854775807) (hlt:ls.length+ts.length<8):rW R w1 bt k nm t d (X3.setCell ⟨bt,4,none⟩ v9) i' (ls++[s]) ts v9 va xs:=by
 have h3:Step (fun q=>vl.ownBlock=some q) X2 X3:=ji hgrow;have h4:Step (·=bt) X3 (X3.setCell ⟨bt,4,none⟩ v9):=bV.setCell _ _ jd;have ho:∀q,vl.ownBlock=some q→w1.heap.size≤q∧q<X.heap.size:=fun q hq=>h.ol.lt q hq;have hlen:(ls++[s]).length=ls.length+1:=by simp
 have hb3:=h3.keep (h2.keep h.blk (fun h=>h)) (fun e=>by have:=(ho bt e).1;omega);refine⟨((h.rd.quiet h2).step h3 (fun q hq e=>by have:=(ho q e).1;omega)).step h4 oi,aU hb3 4 v9,?_,?_,?_,?_,?_,by rw[hlen];omega,?_⟩
 ·rw[hlen,List.map_append];exact jQ hown h4 (fun q hq e=>by have:=(hown.lt q hq).1;omega)
 ·refine jQ (jQ (h2.owns h.oa (fun _ _ h=>h)) h3 (fun q hq e=>h.ne q e hq)) h4 (fun q hq e=>by have:=(h.oa.lt q hq).1;omega)
 ·have h5:=dM.mono (P':=fun q=>(w1.heap.size≤q∧va.ownBlock≠some q∧vl.ownBlock≠some q)∧q<X.heap.size) (fun q h7 h8=>⟨h8,h7⟩) _ _ h.el;have h6:=dM.step h4 (fun q hq e=>by have:=hq.1.1;omega) _ _ (dM.step h3 (fun q hq e=>hq.1.2.2 e) _ _ (dM.step h2 (fun _ _ h=>h) _ _ h5));refine dM.mono (fun q _ hq=>⟨hq.1.1,hq.1.2.1,fun e=> ?_⟩) _ _ h6;rcases hat with h7|h7
  ·exact hq.1.2.2 (by rw[←h7];exact e)
  ·rw[h7]at e;have e2:X2.heap.size=q:=Option.some.inj e;have:=h2.size;have:=hq.2;omega
 ·intro q hq e;rcases hat with h7|h7
  ·exact h.ne q (by rw[←h7];exact hq) e
  ·rw[h7]at hq;have e2:X2.heap.size=q:=Option.some.inj hq;have:=(h.oa.lt q e).2;have:=h2.size;omega
 ·intro x hx;rcases List.mem_append.1 hx with hx|hx
  ·exact h.sz x hx
  ·rw[List.mem_singleton.1 hx];exact hs
 ·refine((h.st.trans (h2.mono fe)).then h3 (fun q hq e=>by have:=(ho q e).1;omega)).trans (h4.mono ir)
theorem RX (f:Nat) (ih:∀f',f'<f→xE f'):ED f:=by
 intro R w i d bt k nm t hl h hd hrb hbt hno;have HL:=ai hl;have H0:=ai h;have f_:=ai hno;have IH:=ai ih;obtain⟨r,hr⟩:=bn (CB f R.l i d);have HRR:=ai hr;rw[←hr]at hno⊢;have f_:=ai hno;have hbl:=aC hbt;obtain⟨w1,hw1⟩:=bn (w.alloc (.cells #[fM R.rb 0] 75));have dF:=nS hw1
 have kG:=nB hw1
 have Gw:=ai (dF.o.keep hbt (fun h=>h));have HW1:=ai hw1;have H1:=ai (h.quiet dF.o);have hw1s:=aC kG.o;have dh:Hid (∀X:World,Step (fun k=>k=R.rb∨k=bt) w1 X→X.cell? ⟨w.heap.size,0,none⟩=some (.pointer (some ⟨R.rb,0,none⟩))):=fun X hX=>ah (hX.keep kG.o om) 0 _ rfl
 have p0:=dh.o w1 bV;obtain⟨i0,hi0,hz0,hz1,hz2⟩:=info_parts Tryz.oC;have HI:=ai hi0;have HZ0:=ai hz0;have HZ1:=ai hz1;have HZ2:=ai hz2;obtain⟨j0,hj0,hy0,hy1,hy2⟩:=info_parts Tryz.RV;have HJ:=ai hj0;have HY0:=ai hy0;have HY1:=ai hy1;have HY2:=ai hy2;clear ih hl h hno hr hbt hw1 hi0 hz0 hz1 hz2 hj0 hy0 hy1 hy2;go_enter Tryz.func82,Tryz.ntmps82;go_upto_region 1 with fail
 rw[←HW1.o];go_wp2_with fail;cases hb:bH R.l i [60]with
 |false=>have HB:=ai hb;clear hb;refine(dX R HL.o ⟨#[60]⟩ _ i d H1.o dc HB.o).mono ?_;rintro e w2 ⟨rfl,hr2,h2⟩;have HR2:=ai hr2;have HS2:=ai h2;clear hr2 h2 p0;go_wp2_with fail;refine bodyPost_ret (results_none rfl _ _ _) rfl ?_;rw[HRR.o,CB,HB.o,if_neg dc];exact⟨rfl,⟨.slice none 0 0,.slice none 0 0,[],HS2.o.keep Gw.o om,oQ,aS.nil _ _ _,by rw[dM],aS.nil _ _ _⟩,HR2.o,((dF.o.mono fe).trans HS2.o).mono il⟩
 |true=>
  have HB:=ai hb;have rF:Hid (r=kz f R.l (i+1) d [] []):=by show _=_;rw[HRR.o,CB,hb,if_pos rfl]
  clear hb;refine(dw R HL.o ⟨#[60]⟩ _ i d H1.o dc HB.o).mono ?_;rintro e w2 ⟨rfl,hr2,h2⟩;have HR2:=ai hr2;have HS2:=ai h2;have rQ:=ai (h2.keep Gw.o om);clear hr2 h2 p0;go_wp2_with fail;go_loopg [] f (fun gg wr=>gg≤f∧∃(i':Nat) (ls:List ByteArray) (ts:List Ty) (vl va:Value) (xs:List Value),r=kz gg R.l i' d ls ts∧rW R w1 bt k nm t d wr i' ls ts vl va xs);case atStart=>exact⟨Nat.le_refl _,i+1,[],[],.slice none 0 0,.slice none 0 0,[],rF.o,HR2.o,rQ.o,World.ownsRow_nil _ _ _ _,World.ownsRow_nil _ _ _ _,by rw[dM],oQ,oQ,by simp,HS2.o.mono il⟩
  case round=>
   obtain⟨hgf,i',ls,ts,vl,va,xs,hrq,hst⟩:=hrel;have HRQ:=ai hrq;have HST:=ai hst;obtain⟨gn,rfl⟩:∃gn,gk=gn+1:=by
    cases gk with
    |zero=>exact absurd hrq (by rw[kz];exact f_.o)
    |succ gn=>exact⟨gn,rfl⟩
   obtain⟨Gx,Gy,rfl⟩:=b_ hst.ol;obtain⟨sU,sV,rfl⟩:=b_ hst.oa;have p0:=dh.o wr hst.st;have BF:=ah hst.blk 4 _ rfl;have yY:=ah hst.blk 5 _ rfl;have hfew:=hst.few;(have vF:Hid (r=(eH (ls.length+ts.length) 8 R.l i').bind fun _ i=>(if(tokA R.l i).kind=2∧ts.length=0 then(jh R.l i).bind fun x j=>.ok (ls++[x],ts) j else(iZ gn R.l i d).bind fun x j=>.ok (ls,ts++[x]) j).bind fun p j=>if bH R.l j [44]then kz gn R.l (j+1) d p.1 p.2 else(aI R.l j [62]).bind fun _ j=>.ok p j):=by show _=_;rw[HRQ.o,kz]);clear hrq hst;(go_upto_region 2 with fail);go_still_tail 12,kr;change wpList _ _ _ _ _ wr.drew;have vN:Hid (rW R w1 bt k nm t d wr.drew i' ls ts (.slice Gx ls.length Gy) (.slice sU ts.length sV) xs):=HST.o.quiet (bV.drew);obtain⟨wd,hwd⟩:=bn wr.drew;rw[←hwd]at vN⊢;(have HX0:Hid (jP wr wd):=by rw[hwd];exact bV.drew);clear hwd p0 BF yY;have p0:=dh.o wd vN.o.st;have BF:=ah vN.o.blk 4 _ rfl;have yY:=ah vN.o.blk 5 _ rfl;(have el1:IntKind.i64.wrap ((ls.length:Int)+(ts.length:Int))=((ls.length+ts.length:Nat):Int):=by rw[show((ls.length:Int)+(ts.length:Int))=((ls.length+ts.length:Nat):Int) by omega];exact IntWalk.i64_in _ om);go_wp2_with fail;have hrm:Calls Tryz.prog 49 #[.agg #[fM R.rb 0],.int .i64 ((ls.length:Int)+(ts.length:Int)),.int .i64 8] wd (aJ R d iR (eH (ls.length+ts.length) 8 R.l i') wd):=nH R wd (ls.length+ts.length) 8 i' d vN.o.rd;have HRM:=ai hrm;clear hrm;refine HRM.o.mono ?_;rintro e w3 hp;cases hn:eH (ls.length+ts.length) 8 R.l i' with
   |out=>exact(lV hn).elim
   |err c ln col=>rw[hn]at hp;obtain⟨rfl,s3⟩:=hp;refine⟨rfl,?_⟩;rw[vF.o,hn];exact⟨rfl,((dF.o.mono fe).trans (vN.o.st)).trans (s3.mono il)⟩
   |ok u j=>
    have hji:j=i'∧ls.length+ts.length<8:=by
     unfold eH at hn;split at hn
     ·cases hn
     ·cases hn;exact⟨rfl,by omega⟩
    obtain⟨rfl,Ja⟩:=hji;have HN:=ai hn;rw[hn]at hp;obtain⟨⟨v,rfl,rfl⟩,hr3,s3⟩:=hp;have gu:=ai (vN.o.read hrb om hr3 s3);(have qw:Hid (r=(if(tokA R.l j).kind=2∧ts.length=0 then(jh R.l j).bind fun x j=>.ok (ls++[x],ts) j else(iZ gn R.l j d).bind fun x j=>.ok (ls,ts++[x]) j).bind fun p j=>if bH R.l j [44]then kz gn R.l (j+1) d p.1 p.2 else(aI R.l j [62]).bind fun _ j=>.ok p j):=by show _=_;rw[vF.o,HN.o];rfl);clear hn hr3 s3 p0 BF yY;have p0:=dh.o w3 gu.o.st;have yY:=ah gu.o.blk 5 _ rfl;(have hfd0:∀(a0 a1 a2 a3 a4:Value) (w:World),(Instr.field 111 (.agg #[a0,a1,a2,a3,a4]) 0).run Tryz.prog w=.ok a0 w:=fun _ _ _ _ _ _=>by kernel_rfl);obtain⟨tk,htk⟩:=bn (tokA R.l j);have YX:=ai htk;have HPK:=ai (l_ R w3 j d tk gu.o.rd (by rw[htk];exact gu.o.rd.tok));clear htk;obtain⟨bz,hbz⟩:∃bz,((ts.length:Int)==0)=bz:=⟨_,rfl⟩;obtain⟨bk,hbk⟩:∃bk,((tk.kind:Int)==2)=bk:=⟨_,rfl⟩;have HBZ:=ai hbz;have gI:=ai hbk;(go_upto_region 3 with fail);go_cut [33] (fun s33 wx=>s33=.bool (bk&&bz)∧rW R w1 bt k nm t d wx j ls ts (.slice Gx ls.length Gy) (.slice sU ts.length sV) xs);case first=>
     go_wp2_with fail;refine HPK.o.mono ?_;rintro e w4 ⟨rfl,s4⟩;have fP:=ai (gu.o.quiet s4);clear s4 p0 yY;have p0:=dh.o w4 fP.o.st;have yY:=ah fP.o.blk 5 _ rfl;cases bk with
     |false=>go_wp2_with fail;go_meet;case rel=>exact⟨rfl,fP.o⟩
     |true=>go_wp2_with fail;go_meet;case rel=>exact⟨rfl,fP.o⟩
    case rest=>
     obtain⟨rfl,m_⟩:=hcut;obtain⟨w4,rfl⟩:=bn wc;have fP:=ai m_;(have HCN:Hid ((bk&&bz)=decide ((tokA R.l j).kind=2∧ts.length=0)):=by show _=_;rw[←gI.o,←HBZ.o,YX.o,kX _ 2 2 rfl,kX _ 0 0 rfl,Bool.eq_iff_iff];simp);obtain⟨bc,hbc⟩:=bn (bk&&bz);rw[←hbc]at HCN⊢;clear m_ hbc hbz hbk p0 yY;(go_upto_if 33 with fail);go_cut [] (fun wx=>∃(i2:Nat) (Vb:List ByteArray) (Vd:List Ty) (vl2 N_:Value) (Oa:List Value),r=(if bH R.l i2 [44]then kz gn R.l (i2+1) d Vb Vd else(aI R.l i2 [62]).bind fun _ j=>.ok (Vb,Vd) j)∧rW R w1 bt k nm t d wx i2 Vb Vd vl2 N_ Oa);case first=>
      cases bc with
      |true=>
       obtain⟨hk2,hz2⟩:=of_decide_eq_true HCN.o.symm;(have RY:Hid (jh R.l j=.ok (mG (tokA R.l j).text) (j+1)):=by show _=_;unfold jh;rw[if_pos hk2]);obtain⟨s,hs⟩:=bn (mG (tokA R.l j).text);(have HSS:Hid (s.size≤9223372036854775807):=by rw[hs];exact Ld HL.o fP.o.rd.lt);rw[←hs]at RY;(have Ve:Hid (r=(if bH R.l (j+1) [44]then kz gn R.l (j+1+1) d (ls++[s]) ts else(aI R.l (j+1) [62]).bind fun _ j=>.ok (ls++[s],ts) j)):=by show _=_;rw[qw.o,if_pos ⟨hk2,hz2⟩,RY.o];rfl);clear hk2 hz2 hs;(have HLIFE:Hid (∀X,bD R X j d→Calls Tryz.prog 81 #[.agg #[fM R.rb 0]] X fun e w'=>e=.returned (.string s)∧bD R w' (j+1) d∧Step (·=R.rb) X w'):=by intro X hX;refine(xC R HL.o X j d hX).mono ?_;intro e w' hp;rw[RY.o]at hp;obtain⟨⟨v,he,hv⟩,h1,h2⟩:=hp;exact⟨by rw[he,hv],h1,h2⟩);have p0:=dh.o w4 fP.o.st;have BF:=ah fP.o.blk 4 _ rfl;(go_upto_region 4 with fail);first
       |(go_region_law (first
           |(refine lM _ rfl (w8.heap.size+1) (.tmp 38) (.tmp 41) 40 rfl w1.heap.size 9 i0 (.string ⟨#[]⟩) 1 16 Tryz.underlying40 HI.o HZ0.o HZ1.o HZ2.o rfl dc _ _ _ (by simp[Act.eval]) Vg.o _ 1 _ (by simp[Act.eval]) Ls.o rfl Lu.o (by unfold maxLen;omega) om Vh.o ?_;intro v9 w9 iY iq p_;obtain⟨a9,c9,rfl⟩:=b_ iY;have lI:Hid (rW R w1 bt k nm t d (w9.setCell ⟨bt,4,none⟩ (.slice a9 (ls.length+1) c9)) (j+1) (ls++[s]) ts (.slice a9 (ls.length+1) c9) (.slice sU ts.length sV) xs):=ku.o.pushL hrb om (bV.alloc _) iY iq p_ HSS.o Ja;have hbb:=(ji iq).keep (aN (o':=.cells #[aG s] 9) ku.o.blk) (fun e=>by have:=(ku.o.ol.lt _ e).1;omega);have bt4':=ah hbb 4 _ rfl;have bz4':=aH hbb 4;clear hbb iY iq p_)
           |(go_simp;go_at_call 81;refine(HLIFE.o _ (fP.o.rd.quiet (bV.drew))).mono ?_;rintro e8 w8 ⟨rfl,vJ,hs8⟩;have ku:=ai ((fP.o.quiet (bV.drew)).read hrb om vJ hs8);have Vg:Hid ((w8.alloc (.cells #[aG s] 9)).ownsRow w1.heap.size 9 1 (.slice Gx ls.length Gy) ls.length (ls.map .string)):=ku.o.ol.alloc _;have Ls:Hid (Row (w8.alloc (.cells #[aG s] 9)) (w8.heap.size+1) (.slice (some ⟨w8.heap.size,0,none⟩) 1 1) 1 [.string s]):=Row.new (aB _ _) dc;have Lu:Hid (∀u∈[Value.string s],u.oneCell'=true):=by
              show∀u∈_,_
              intro u hu
              simp at hu
              subst hu;rfl
             have Vh:Hid (w1.heap.size≤(w8.alloc (.cells #[aG s] 9)).heap.size):=by
              show _≤_
              have:=ku.o.st.size
              simp;omega
             have bt48:=ah ku.o.blk 4 _ rfl
             have bt49:=ah (aN (o':=.cells #[aG s] 9) ku.o.blk) 4 _ rfl
             clear vJ hs8)))
       |fail
       all_goals (
        clear p0 BF
        go_wp2_with fail
        go_meet
        case rel=>exact⟨j+1,ls++[s],ts,_,_,xs,Ve.o,lI.o⟩)
      |false=>
       have hcn:¬((tokA R.l j).kind=2∧ts.length=0):=of_decide_eq_false HCN.o.symm;(have Ve:Hid (r=(iZ gn R.l j d).bind fun x i2=>if bH R.l i2 [44]then kz gn R.l (i2+1) d ls (ts++[x])else(aI R.l i2 [62]).bind fun _ j=>.ok (ls,ts++[x]) j):=by show _=_;rw[qw.o,if_neg hcn];cases iZ gn R.l j d<;>rfl);clear hcn;have Hl:Hid (∀X:World,Step (fun q=>q=R.rb∨q=bt∨(Value.slice sU ts.length sV).ownBlock=some q) w4 X→X.cell? ⟨w.heap.size,0,none⟩=some (.pointer (some ⟨R.rb,0,none⟩))):=by
        show∀X,_;intro X hX;refine hX.cell (dh.o w4 fP.o.st) (fun e=> ?_);have e2:w.heap.size=R.rb∨w.heap.size=bt∨(Value.slice sU ts.length sV).ownBlock=some w.heap.size:=e;rcases e2 with e2|e2|e2
        ·omega
        ·omega
        ·have:=(fP.o.oa.lt _ e2).1;omega
       obtain⟨zsT,hzsT⟩:∃zsT,zsT=[Value.int .i64 0,bW,bW,aT,aj,aj,af 0,af 0]:=⟨_,rfl⟩;(have HO:Hid (yK R w4 5 7 8 9 10 13 bt w1.heap.size 8 ts.length (.slice sU ts.length sV) xs zsT):=by show yK _ _ _ _ _ _ _ _ _ _ _ _ _ _ _;refine⟨by decide,by decide,by decide,by decide,by decide,by decide,by decide,by decide,by decide,hrb,by omega,fP.o.st.size,fun q hq=>fP.o.oa.lt q hq,fP.o.el.len,by rw[hzsT];rfl⟩);subst hzsT;(have Vj:Hid (∀u∈[Value.int .i64 0,bW,bW,aT,aj,aj,af 0,af 0],u.oneCell'=true):=by intro u hu;simp at hu;rcases hu with rfl|rfl|rfl|rfl|rfl|rfl|rfl|rfl<;>rfl);(have hlts:ts.length≤9:=by omega);cases hx:iZ gn R.l j d with
       |out=>exact absurd (by rw[Ve.o,hx];rfl) f_.o
       |err c ln col=>
        have HX:=ai hx;clear hx;obtain⟨ty,-⟩:∃ty:Ty,ty=dU:=⟨_,rfl⟩;obtain⟨j2,-⟩:∃j2,j2=j:=⟨_,rfl⟩;have HE:Hid (Af (fun w P cs=>dJ w P ty cs)):=TyEl ty;have xG:Hid (∀V,jW R j j2 d w4 5 7 8 9 10 13 bt (fun v=>.cells #[af k,aG nm,aX,aT,.slice Gx ls.length Gy,v,af t.line,af t.col] 46 (0,0)) w1.heap.size 46 8 ts.length (.slice sU ts.length sV) xs [Value.int .i64 0,bW,bW,aT,aj,aj,af 0,af 0] (fun w P cs=>dJ w P ty cs) [some (.pointer (some ⟨bt,0,none⟩)),some (.pointer (some ⟨bt,0,none⟩)),some (.pointer (some ⟨bt,5,none⟩)),some (.slice sU ts.length sV),some (.agg #[fM R.rb 0]),none,some (.int .i64 (ts.length:Int)),none,none,none,none,some (.pointer (some ⟨bt,0,none⟩)),some (.pointer (some ⟨bt,5,none⟩)),none] (fun _=>false) V w4.drew):=fun V=>jW.zero (bV.drew) fP.o.rd fP.o.oa fP.o.blk;(have xH:Hid (∀X,bD R X j d→Calls Tryz.prog 44 #[.agg #[fM R.rb 0]] X fun e wq=>e=.panicked [{v:=.iface 184 (.agg #[af c,af ln,af col]),recovered:=false}]∧Step (·=R.rb) X wq):=by intro X hX;have h9:=IH.o gn om R X j d HL.o hX hd (by rw[HX.o];intro h;cases h);rw[HX.o]at h9;exact h9);have EF:Hid (∀X wq:World,Step (fun q=>q=R.rb∨q=bt∨(Value.slice sU ts.length sV).ownBlock=some q) w4 X→Step (·=R.rb) X wq→Qm R d bt k nm t r w (.panicked [{v:=.iface 184 (.agg #[af c,af ln,af col]),recovered:=false}]) wq):=by
         show∀X wq,_;intro X wq h1 h2;rw[Ve.o,HX.o];refine⟨rfl,((dF.o.mono fe).trans fP.o.st).then (h1.trans (h2.mono il)) (fun q hq e=> ?_)⟩;rcases e with e|e|e
         ·exact .inl e
         ·exact .inr e
         ·have:=(fP.o.oa.lt _ e).1;have:=dF.o.size;omega
        (go_upto_region 5 with fail);refine bG kr (fun L V X=>jW R j j2 d w4 5 7 8 9 10 13 bt (fun v=>.cells #[af k,aG nm,aX,aT,.slice Gx ls.length Gy,v,af t.line,af t.col] 46 (0,0)) w1.heap.size 46 8 ts.length (.slice sU ts.length sV) xs [Value.int .i64 0,bW,bW,aT,aj,aj,af 0,af 0] (fun w P cs=>dJ w P ty cs) [some (.pointer (some ⟨bt,0,none⟩)),some (.pointer (some ⟨bt,0,none⟩)),some (.pointer (some ⟨bt,5,none⟩)),some (.slice sU ts.length sV),some (.agg #[fM R.rb 0]),none,some (.int .i64 (ts.length:Int)),none,none,none,none,some (.pointer (some ⟨bt,0,none⟩)),some (.pointer (some ⟨bt,5,none⟩)),none] L V X∧L 5=false) 14 rfl kr kr kr kr ?h0 ?hs ?hdone;case h0=>exact⟨xG.o _,rfl⟩
        case hs=>
         refine⟨?_,?_,?_,?_,?_,?_,?_,?_,?_,?_,?_,?_,?_,?_,trivial⟩
         all_goals intro L V X a ev gJ hdf hL ak hJ
         ·have o1:=gJ 1 rfl;change a.tmps[1]?.getD undef=.pointer (some ⟨bt,0,none⟩)at o1;go_simp;exact⟨_,rfl,⟨hJ.1.up 0 dc dc dc dc dc dc rfl,by rw[aA _ dc];exact hJ.2⟩⟩
         ·have e45:=(ev 0 45 rfl (ak 0 rfl)).trans (hJ.1.iO 0 _ rfl (ak 0 rfl));go_simp;exact⟨_,rfl,⟨hJ.1.up 1 dc dc dc dc dc dc rfl,by rw[aA _ dc];exact hJ.2⟩⟩
         ·have e46:=(ev 1 46 rfl (ak 1 rfl)).trans (hJ.1.iO 1 _ rfl (ak 1 rfl));go_simp;exact⟨_,rfl,⟨hJ.1.up 2 dc dc dc dc dc dc rfl,by rw[aA _ dc];exact hJ.2⟩⟩
         ·have e47:=(ev 2 47 rfl (ak 2 rfl)).trans (hJ.1.iO 2 _ rfl (ak 2 rfl));have hZ:=(hJ.1.I_ (hJ.1.Va dc hL)).1;have hb:=hJ.1.blk;rw[hZ,if_neg dc]at hb;have q5:X.cell? ⟨bt,5,none⟩=some (.slice sU ts.length sV):=ah hb 5 _ rfl;go_simp;exact⟨_,rfl,⟨hJ.1.up 3 dc dc dc dc dc dc rfl,by rw[aA _ dc];exact hJ.2⟩⟩
         ·have o2:=gJ 2 rfl;change a.tmps[2]?.getD undef=.pointer (some ⟨w.heap.size,0,none⟩)at o2;have p0:=Hl.o X hJ.1.st;go_simp;exact⟨_,rfl,⟨hJ.1.up 4 dc dc dc dc dc dc rfl,by rw[aA _ dc];exact hJ.2⟩⟩
         ·have e49:=(ev 4 49 rfl (ak 4 rfl)).trans (hJ.1.iO 4 _ rfl (ak 4 rfl));have hrd:=hJ.1.rd;rw[hL,if_neg dc]at hrd;go_simp;refine(xH.o X hrd).mono ?_;rintro e wq ⟨rfl,hs⟩;exact⟨hdf,EF.o X wq hJ.1.st hs⟩
         ·have e48:=(ev 3 48 rfl (ak 3 rfl)).trans (hJ.1.iO 3 _ rfl (ak 3 rfl));go_simp;exact⟨_,rfl,⟨hJ.1.up 6 dc dc dc dc dc dc rfl,by rw[aA _ dc];exact hJ.2⟩⟩
         ·have hu:=hJ.1.build HE.o HO.o hL rfl;go_simp;exact⟨_,rfl,⟨hu,by rw[aA _ dc];exact hJ.2⟩⟩
         ·have e48:=(ev 3 48 rfl (ak 3 rfl)).trans (hJ.1.iO 3 _ rfl (ak 3 rfl));exact absurd hJ.2 (by rw[ak 5 rfl];decide)
         ·have e51:=(ev 6 51 rfl (ak 6 rfl)).trans (hJ.1.iO 6 _ rfl (ak 6 rfl));exact absurd hJ.2 (by rw[ak 5 rfl];decide)
         ·exact absurd hJ.2 (by rw[ak 5 rfl];decide)
         ·have e45:=(ev 0 45 rfl (ak 0 rfl)).trans (hJ.1.iO 0 _ rfl (ak 0 rfl));go_simp;exact⟨_,rfl,⟨hJ.1.up 11 dc dc dc dc dc dc rfl,by rw[aA _ dc];exact hJ.2⟩⟩
         ·have e55:=(ev 11 55 rfl (ak 11 rfl)).trans (hJ.1.iO 11 _ rfl (ak 11 rfl));go_simp;exact⟨_,rfl,⟨hJ.1.up 12 dc dc dc dc dc dc rfl,by rw[aA _ dc];exact hJ.2⟩⟩
         ·have e56:=(ev 12 56 rfl (ak 12 rfl)).trans (hJ.1.iO 12 _ rfl (ak 12 rfl));exact absurd hJ.2 (by rw[ak 5 rfl];decide)
        case hdone=>intro L V X hall hJ;exact absurd hJ.2 (by rw[hall 5 dc];decide)
       |ok ty j2=>
        have HX:=ai hx;clear hx;have HE:Hid (Af (fun w P cs=>dJ w P ty cs)):=TyEl ty;have xG:Hid (∀V,jW R j j2 d w4 5 7 8 9 10 13 bt (fun v=>.cells #[af k,aG nm,aX,aT,.slice Gx ls.length Gy,v,af t.line,af t.col] 46 (0,0)) w1.heap.size 46 8 ts.length (.slice sU ts.length sV) xs [Value.int .i64 0,bW,bW,aT,aj,aj,af 0,af 0] (fun w P cs=>dJ w P ty cs) [some (.pointer (some ⟨bt,0,none⟩)),some (.pointer (some ⟨bt,0,none⟩)),some (.pointer (some ⟨bt,5,none⟩)),some (.slice sU ts.length sV),some (.agg #[fM R.rb 0]),none,some (.int .i64 (ts.length:Int)),none,none,none,none,some (.pointer (some ⟨bt,0,none⟩)),some (.pointer (some ⟨bt,5,none⟩)),none] (fun _=>false) V w4.drew):=fun V=>jW.zero (bV.drew) fP.o.rd fP.o.oa fP.o.blk;have xH:Hid (∀X,bD R X j d→Calls Tryz.prog 44 #[.agg #[fM R.rb 0]] X fun e wq=>(∃v,e=.returned v∧∃cs:List Value,v=.agg cs.toArray∧dJ wq (fun q=>X.heap.size≤q) ty cs)∧bD R wq j2 d∧Step (·=R.rb) X wq):=by intro X hX;have h9:=IH.o gn om R X j d HL.o hX hd (by rw[HX.o];intro h;cases h);rw[HX.o]at h9;exact h9
        have lI:Hid (∀(g9 c9:Nat) (Ag:List Value) (X:World),bD R X j2 d→X.heap[bt]?=some (.cells #[af k,aG nm,aX,aT,.slice Gx ls.length Gy,.slice (some ⟨g9,0,none⟩) (ts.length+1) c9,af t.line,af t.col] 46 (0,0))→X.ownsRow w1.heap.size 46 8 (.slice (some ⟨g9,0,none⟩) (ts.length+1) c9) (ts.length+1) (xs++Ag)→dJ X (fun q=>w4.heap.size≤q∧q≠g9) ty Ag→((Value.slice sU ts.length sV).ownBlock=some g9∨w4.heap.size≤g9)→Step (fun q=>q=R.rb∨q=bt∨(Value.slice sU ts.length sV).ownBlock=some q) w4 X→
          ∃(i2:Nat) (Vb:List ByteArray) (Vd:List Ty) (vl2 N_:Value) (Oa:List Value),r=(if bH R.l i2 [44]then kz gn R.l (i2+1) d Vb Vd else(aI R.l i2 [62]).bind fun _ j=>.ok (Vb,Vd) j)∧rW R w1 bt k nm t d X i2 Vb Vd vl2 N_ Oa):=by
         show∀g9 c9 Ag X,_
         intro g9 c9 Ag X h1 h2 h3 h4 h5 h6
         have hol:=fP.o.ol
         have hne:=fP.o.ne
         have hg9:∀q,(Value.slice Gx ls.length Gy).ownBlock=some q→q≠g9:=by
          intro q hq e
          subst e
          rcases h5 with h5|h5
          ·
           exact hne q hq h5
          ·
           have:=(hol.lt q hq).2;omega
         have hlen:(ts++[ty]).length=ts.length+1:=by simp
         refine⟨j2,ls,ts++[ty],.slice Gx ls.length Gy,.slice (some ⟨g9,0,none⟩) (ts.length+1) c9,xs++Ag,by rw[Ve.o,HX.o];rfl,h1,h2,jQ hol h6 (fun q hq e=> ?_),by rw[hlen];exact h3,dM.snoc ?_ ?_,fun q hq e=> ?_,fP.o.sz,by rw[hlen];omega,fP.o.st.then h6 (fun q hq e=> ?_)⟩
         ·
          have h7:=(hol.lt q hq).1
          rcases e with e|e|e
          ·
           omega
          ·
           omega
          ·
           exact hne q hq e
         ·
          refine dM.mono ?_ _ _ (dM.step h6 ?_ _ _ (dM.mono (P':=fun q=>(w1.heap.size≤q∧(Value.slice sU ts.length sV).ownBlock≠some q∧(Value.slice Gx ls.length Gy).ownBlock≠some q)∧q<w4.heap.size) (fun q h7 h8=>⟨h8,h7⟩) _ _ fP.o.el))
          ·
           intro q _ hq
           refine⟨hq.1.1,fun e=> ?_,hq.1.2.2⟩
           have e2:g9=q:=Option.some.inj e
           rcases h5 with h5|h5
           ·
            exact hq.1.2.1 (by rw[←e2];exact h5)
           ·
            have:=hq.2;omega
          ·
           intro q hq e
           rcases e with e|e|e
           ·
            have:=hq.1.1;omega
           ·
            have:=hq.1.1;omega
           ·
            exact hq.1.2.1 e
         ·
          refine dJ.mono (fun q _ hq=>⟨Nat.le_trans fP.o.st.size hq.1,fun e=>hq.2 (Option.some.inj e).symm,fun e=> ?_⟩) _ _ h4
          have:=(hol.lt q e).2
          have:=hq.1
          omega
         ·
          exact hg9 q hq (Option.some.inj e).symm
         ·
          rcases e with e|e|e
          ·
           exact .inl e
          ·
           exact .inr e
          ·
           have:=(fP.o.oa.lt _ e).1;omega
        (go_upto_region 5 with fail);refine bG kr (jW R j j2 d w4 5 7 8 9 10 13 bt (fun v=>.cells #[af k,aG nm,aX,aT,.slice Gx ls.length Gy,v,af t.line,af t.col] 46 (0,0)) w1.heap.size 46 8 ts.length (.slice sU ts.length sV) xs [Value.int .i64 0,bW,bW,aT,aj,aj,af 0,af 0] (fun w P cs=>dJ w P ty cs) [some (.pointer (some ⟨bt,0,none⟩)),some (.pointer (some ⟨bt,0,none⟩)),some (.pointer (some ⟨bt,5,none⟩)),some (.slice sU ts.length sV),some (.agg #[fM R.rb 0]),none,some (.int .i64 (ts.length:Int)),none,none,none,none,some (.pointer (some ⟨bt,0,none⟩)),some (.pointer (some ⟨bt,5,none⟩)),none]) 14 rfl kr kr kr kr ?h0 ?hs ?hdone;case h0=>exact xG.o _
        case hs=>
         refine⟨?_,?_,?_,?_,?_,?_,?_,?_,?_,?_,?_,?_,?_,?_,trivial⟩
         all_goals intro L V X a ev gJ hdf hL ak hJ
         ·have o1:=gJ 1 rfl;change a.tmps[1]?.getD undef=.pointer (some ⟨bt,0,none⟩)at o1;go_simp;exact⟨_,rfl,hJ.up 0 dc dc dc dc dc dc rfl⟩
         ·have e45:=(ev 0 45 rfl (ak 0 rfl)).trans (hJ.iO 0 _ rfl (ak 0 rfl));go_simp;exact⟨_,rfl,hJ.up 1 dc dc dc dc dc dc rfl⟩
         ·have e46:=(ev 1 46 rfl (ak 1 rfl)).trans (hJ.iO 1 _ rfl (ak 1 rfl));go_simp;exact⟨_,rfl,hJ.up 2 dc dc dc dc dc dc rfl⟩
         ·have e47:=(ev 2 47 rfl (ak 2 rfl)).trans (hJ.iO 2 _ rfl (ak 2 rfl));have hZ:=(hJ.I_ (hJ.Va dc hL)).1;have hb:=hJ.blk;rw[hZ,if_neg dc]at hb;have q5:X.cell? ⟨bt,5,none⟩=some (.slice sU ts.length sV):=ah hb 5 _ rfl;go_simp;exact⟨_,rfl,hJ.up 3 dc dc dc dc dc dc rfl⟩
         ·have o2:=gJ 2 rfl;change a.tmps[2]?.getD undef=.pointer (some ⟨w.heap.size,0,none⟩)at o2;have p0:=Hl.o X hJ.st;go_simp;exact⟨_,rfl,hJ.up 4 dc dc dc dc dc dc rfl⟩
         ·have e49:=(ev 4 49 rfl (ak 4 rfl)).trans (hJ.iO 4 _ rfl (ak 4 rfl));have hrd:=hJ.rd;rw[hL,if_neg dc]at hrd;go_simp;refine(xH.o X hrd).mono ?_;rintro e wq ⟨⟨v,rfl,cs,rfl,hty⟩,hr,hs⟩;exact⟨_,rfl,hJ.call HE.o HO.o hL rfl hs hr hty⟩
         ·have e48:=(ev 3 48 rfl (ak 3 rfl)).trans (hJ.iO 3 _ rfl (ak 3 rfl));go_simp;exact⟨_,rfl,hJ.up 6 dc dc dc dc dc dc rfl⟩
         ·have hu:=hJ.build HE.o HO.o hL rfl;go_simp;exact⟨_,rfl,hu⟩
         ·have e48:=(ev 3 48 rfl (ak 3 rfl)).trans (hJ.iO 3 _ rfl (ak 3 rfl));have e52:=ev 7 52 rfl (ak 7 rfl);obtain⟨zb,z1,z2,z3⟩:=hJ.bl (ak 7 rfl) hL;have hall:∀i,i<8→L i=true:=by
           intro i hi;rcases(show i=0∨i=1∨i=2∨i=3∨i=4∨i=5∨i=6∨i=7 by omega)with rfl|rfl|rfl|rfl|rfl|rfl|rfl|rfl
           ·exact ak 0 rfl
           ·exact ak 1 rfl
           ·exact ak 2 rfl
           ·exact ak 3 rfl
           ·exact ak 4 rfl
           ·exact ak 5 rfl
           ·exact ak 6 rfl
           ·exact ak 7 rfl
          refine gV _ X.heap.size (.tmp 48) (.tmp 52) 44 rfl w1.heap.size 46 j0 (.agg #[af 0,bW,bW,aT,aj,aj,af 0,af 0]) 8 112 Tryz.underlying44 HJ.o HY0.o HY1.o HY2.o rfl dc _ _ _ (by rw[bK];exact e48) (hJ.old hL) (V 7) 1 _ (by rw[bK];exact e52) (by rw[z1];exact(Row.new z3 dc).mono (aC z3)) rfl Vj.o (by unfold maxLen;omega) om (Nat.le_trans HO.o.bw hJ.st.size) ?_;intro v8 w8 uO qx BG;exact⟨v8,rfl,hJ.app HE.o HO.o hL hall rfl uO qx BG⟩
         ·have e51:=(ev 6 51 rfl (ak 6 rfl)).trans (hJ.iO 6 _ rfl (ak 6 rfl));have e53:=ev 8 53 rfl (ak 8 rfl);obtain⟨g,c,hV,-⟩:=hJ.new (ak 8 rfl);rw[hV]at e53;(have hi0:(0:Int)≤(ts.length:Int):=by omega);(have hi1:(ts.length:Int)<((ts.length+1:Nat):Int):=by omega);(have hi2:(ts.length:Int)<(ts.length:Int)+1:=by omega);have hu:=hJ.index HO.o (ak 8 rfl) rfl hV;go_simp;exact⟨_,rfl,hu⟩
         ·have h8:=ak 8 rfl;have h9:=ak 9 rfl;have h5:=ak 5 rfl;obtain⟨g,c,hV,-,ys,hown,-⟩:=hJ.new h8;have ep:=(ev 9 54 rfl h9).trans ((hJ.ix h9).2 g c hV);obtain⟨cs,c1,c2⟩:=hJ.el h5;have ec:=(ev 5 50 rfl h5).trans c1;rw[hV]at hown;obtain⟨g',c',cur,hg',-,hcur,hsz⟩:=vM hown om;cases hg';have hcl:cs.length=8:=dJ.len c2;refine eG 46 (.tmp 54) (.tmp 50) rfl g (ts.length*8) 46 cur cs (by rw[bK];exact ep) (by rw[bK];exact ec) hcur (by rw[hcl];exact Tryz.cu) om (dJ.one c2) ?_;intro w6 hb6 hs6;exact⟨undef,rfl,hJ.put HE.o HO.o h8 (fun u hu=>by cases hu) hV c1 hcl hcur hb6 hs6⟩
         ·have e45:=(ev 0 45 rfl (ak 0 rfl)).trans (hJ.iO 0 _ rfl (ak 0 rfl));go_simp;exact⟨_,rfl,hJ.up 11 dc dc dc dc dc dc rfl⟩
         ·have e55:=(ev 11 55 rfl (ak 11 rfl)).trans (hJ.iO 11 _ rfl (ak 11 rfl));go_simp;exact⟨_,rfl,hJ.up 12 dc dc dc dc dc dc rfl⟩
         ·have e56:=(ev 12 56 rfl (ak 12 rfl)).trans (hJ.iO 12 _ rfl (ak 12 rfl));have h8:=ak 8 rfl;have ev8:=ev 8 53 rfl h8;obtain⟨g,c,hV,-⟩:=hJ.new h8;rw[hV]at ev8;have hb:=hJ.blk;rw[hL,if_neg dc]at hb;have q5:=ah hb 5 _ rfl;have z5:=aH hb 5;have hu:=hJ.last (X':=X.setCell ⟨bt,5,none⟩ (.slice (some ⟨g,0,none⟩) (ts.length+1) c)) HE.o HO.o h8 (fun u hu=>by cases hu) (by rw[hV];exact aU hb 5 _) (bV.setCell _ _ jd);go_simp;exact⟨undef,hu⟩
        case hdone=>intro L V X hall hJ;obtain⟨g9,c9,Ag,RZ,R_,iY,Si,Sj,yu,hgb9⟩:=hJ.done ⟨hall 5 dc,hall 8 dc,hall 10 dc,hall 13 dc⟩;rw[rgQ14];simp only[lX,dZ,F5,Ef];clear hJ hall;go_wp2_with fail;go_meet;case rel=>exact lI.o g9 c9 Ag X RZ R_ iY Si Sj yu
     case rest=>
      obtain⟨i2,Vb,Vd,vl2,N_,Oa,LC,hst5⟩:=hcut;obtain⟨w5,rfl⟩:=bn wc;have YD:=ai LC;have nJ:=ai hst5;clear LC hst5;have p0:=dh.o w5 nJ.o.st;go_wp2_with fail;cases hc:bH R.l i2 [44]with
      |true=>
       have HC:=ai hc;clear hc;refine(dw R HL.o ⟨#[44]⟩ _ i2 d nJ.o.rd dc HC.o).mono ?_;rintro e w6 ⟨rfl,qH,s6⟩;have fH:=ai (nJ.o.read hrb om qH s6);(have Ah:Hid (r=kz gn R.l (i2+1) d Vb Vd):=by show _=_;rw[YD.o,HC.o,if_pos rfl]);clear qH s6 p0;go_wp2_with fail;go_roundg gn;case rel=>exact⟨by omega,i2+1,Vb,Vd,vl2,N_,Oa,Ah.o,fH.o⟩
       case measure=>omega
      |false=>
       have HC:=ai hc;clear hc;refine(dX R HL.o ⟨#[44]⟩ _ i2 d nJ.o.rd dc HC.o).mono ?_;rintro e w6 ⟨rfl,qH,s6⟩;have fH:=ai (nJ.o.read hrb om qH s6);(have Ah:Hid (r=(aI R.l i2 [62]).bind fun _ j=>.ok (Vb,Vd) j):=by show _=_;rw[YD.o,HC.o,if_neg dc]);clear qH s6 p0;have p0:=dh.o w6 fH.o.st;go_wp2_with fail;refine(dO R HL.o w6.heap.size ⟨#[62]⟩ _ i2 d (fH.o.rd.quiet (bV.alloc _)) dc (ah (aB _ _) 0 _ rfl)).mono ?_;rintro e w7 hp;have hp2:aJ R d iR (aI R.l i2 [62]) _ e w7:=hp;cases hn:aI R.l i2 [62]with
       |out=>exact(dH hn).elim
       |err c ln col=>rw[hn]at hp2;obtain⟨rfl,s7⟩:=hp2;refine⟨rfl,?_⟩;rw[Ah.o,hn];exact⟨rfl,((dF.o.mono fe).trans fH.o.st).trans ((((Step.refl (·=R.rb) _).alloc _).trans s7).mono il)⟩
       |ok u j2=>
        have HN7:=ai hn;rw[hn]at hp2;obtain⟨⟨v,rfl,rfl⟩,hr7,s7⟩:=hp2;have uq:=ai (fH.o.read hrb om hr7 (((Step.refl (·=R.rb) _).alloc _).trans s7));clear hn hr7 s7 p0 hp;go_wp2_with fail;refine bodyPost_ret (results_none rfl _ _ _) rfl ?_;rw[Ah.o,HN7.o];have hz:=dF.o.size;refine⟨rfl,⟨vl2,N_,Oa,uq.o.blk,uq.o.sz,aS.jb uq.o.ol (fun q hq=> ?_),dM.mono oi _ _ uq.o.el,aS.jb uq.o.oa (fun q hq=> ?_)⟩,uq.o.rd,(dF.o.mono fe).trans uq.o.st⟩
        ·have:=(uq.o.ol.lt q hq).1;omega
        ·have:=(uq.o.oa.lt q hq).1;omega
theorem DK:∀f,xE f∧ED f:=by
 intro f;induction f using Nat.strongRecOn with
 |ind f ih=>
  have ha:ED f:=RX f (fun f' hf=>(ih f' hf).1);cases f with
  |zero=>exact⟨fun R w i d _ _ _ hno=>absurd (by rw[iZ]) hno,ha⟩
  |succ f=>exact⟨U8 f (ih f (Nat.lt_succ_self f)).1 (ih f (Nat.lt_succ_self f)).2,ha⟩
def NE (n0:Nat) (w':World) (a:Ex) (v:Value):Prop:=∃cs:List Value,v=.agg cs.toArray∧cZ w' (fun k=>n0≤k) a cs
def Sl (n0:Nat) (w':World) (l:List Ex) (v:Value):Prop:=∃xs:List Value,aS w' (fun k=>n0≤k) v l.length xs∧bF w' (fun k=>n0≤k) l xs
def Sm (n0:Nat) (w':World) (l:List St) (v:Value):Prop:=∃xs:List Value,aS w' (fun k=>n0≤k) v l.length xs∧bU w' (fun k=>n0≤k) l xs
def StV (n0:Nat) (w':World) (a:St) (v:Value):Prop:=∃cs:List Value,v=.agg cs.toArray∧kF w' (fun k=>n0≤k) a cs
def oz (f:Nat):Prop:=∀(R:h_) (w:World) (i d n:Nat),pF R.l→bD R w i d→d≤40→n≤5→a_ f R.l i d n≠.out→
 Calls Tryz.prog 68 #[.agg #[fM R.rb 0],.int .i64 (n:Int)] w (aJ R d (NE w.heap.size) (a_ f R.l i d n) w)
def Ai (f:Nat):Prop:=∀(R:h_) (w:World) (i d:Nat),pF R.l→bD R w i d→d≤40→gm f R.l i d≠.out→
 Calls Tryz.prog 108 #[.agg #[fM R.rb 0]] w (aJ R d (NE w.heap.size) (gm f R.l i d) w)
def Jb (f:Nat):Prop:=∀(R:h_) (w:World) (i d:Nat),pF R.l→bD R w i d→d≤40→mJ f R.l i d≠.out→
 Calls Tryz.prog 132 #[.agg #[fM R.rb 0]] w (aJ R d (NE w.heap.size) (mJ f R.l i d) w)
def EG (f:Nat):Prop:=∀(R:h_) (w:World) (i d:Nat),pF R.l→bD R w i d→d≤40→jE f R.l i d≠.out→
 Calls Tryz.prog 148 #[.agg #[fM R.rb 0]] w (aJ R d (Sl w.heap.size) (jE f R.l i d) w)
def Vk (f:Nat):Prop:=∀(R:h_) (w:World) (i d:Nat),pF R.l→bD R w i d→d≤40→nG f R.l i d≠.out→
 Calls Tryz.prog 158 #[.agg #[fM R.rb 0]] w (aJ R d (fun w' a v=>Sl w.heap.size w' [a] v) (nG f R.l i d) w)
def Ob (f:Nat):Prop:=∀(R:h_) (w:World) (i d:Nat),pF R.l→bD R w i d→d≤40→kR f R.l i d≠.out→
 Calls Tryz.prog 147 #[.agg #[fM R.rb 0]] w (aJ R d (NE w.heap.size) (kR f R.l i d) w)
def tC (f:Nat):Prop:=∀(R:h_) (w:World) (i d:Nat),pF R.l→bD R w i d→d≤40→bM f R.l i d≠.out→
 Calls Tryz.prog 96 #[.agg #[fM R.rb 0]] w (aJ R d (Sm w.heap.size) (bM f R.l i d) w)
def Jc (f:Nat):Prop:=∀(R:h_) (w:World) (i d:Nat),pF R.l→bD R w i d→d≤40→lq f R.l i d≠.out→
 Calls Tryz.prog 127 #[.agg #[fM R.rb 0]] w (aJ R d (StV w.heap.size) (lq f R.l i d) w)
theorem cZ.parts {w:World} {P:Nat→Prop} {x:Ex} {cs:List Value} (h:cZ w P x cs):∃(k:Int) (nm:ByteArray) (v:Int) (m:Bool) (a1:Option Addr) (n1 c1:Nat) (a2:Option Addr) (n2 c2:Nat) (a3:Option Addr) (n3 c3:Nat) (l c:Int),cs=[.int .i64 k,.string nm,.int .u64 v,.bool m,.slice a1 n1 c1,.slice a2 n2 c2,.slice a3 n3 c3,.int .i64 l,.int .i64 c]:=by obtain⟨k,name,v,m,args,names,body,l,c⟩:=x;rw[cZ]at h;obtain⟨_,_,_,_,_,rfl,_,_,_,⟨_,_,rfl,_⟩,⟨_,_,rfl,_⟩,_,⟨_,_,rfl,_⟩⟩:=h;exact⟨_,_,_,_,_,_,_,_,_,_,_,_,_,_,_,rfl⟩
theorem bF.single {w:World} {P:Nat→Prop} {x:Ex} {cs:List Value} (h:cZ w P x cs):bF w P [x] cs:=by rw[bF];exact⟨cs,[],(List.append_nil _).symm,h,by rw[bF]⟩
theorem Tryz.aK:(Tryz.prog.info? 56).map (·.size)=some 9:=by kernel_rfl
def kN (f:Nat) (l:List Tok) (i d:Nat):dB Ex:=
 if bH l i [45]then(gm f l (i+1) d).bind fun y j=>.ok (aZ 15 (mG [45]) 0 false [y] [] [] (tokA l i)) j
 else if bH l i [33]then(gm f l (i+1) d).bind fun y j=>.ok (aZ 15 (mG [33]) 0 false [y] [] [] (tokA l i)) j
 else if bH l i [42]then(gm f l (i+1) d).bind fun y j=>.ok (aZ 7 di 0 false [y] [] [] (tokA l i)) j
 else if bH l i [38]then(gm f l (iw l (i+1) [109,117,116]) d).bind fun y j=>.ok (aZ 8 di 0 (bH l (i+1) [109,117,116]) [y] [] [] (tokA l i)) j
 else mJ f l i d
theorem CP (f:Nat) (l:List Tok) (i d:Nat):gm (f+1) l i d=if d=40 then gW 2 l i else kN f l i (d+1):=by rw[gm];rfl
def Oc (n0 bt:Nat) (w':World) (a:Ex):Prop:=∃cs:List Value,w'.heap[bt]?=some (.cells cs.toArray 56 (0,0))∧cZ w' (fun k=>n0≤k) a cs
theorem Oe (R:h_) (f:Nat) (ih:Ai f) (ihp:Jb f) (bp bt:Nat) (w:World) (i d:Nat) (t:Tok) (hl:pF R.l) (h:bD R w i d) (hd:d≤40) (hbp:w.heap[bp]?=some (.cells #[fM R.rb 0] 75 (0,0))) (hbt:w.heap[bt]?=some (.cells #[af 0,aX,bf 0,aT,aj,aj,aj,af t.line,af t.col] 56 (0,0))) (hb1:R.rb<bp) (hb2:bp<bt) (ht:t=tokA R.l i) (hno:kN f R.l i d≠.out):Calls Tryz.prog 131 #[.pointer (some ⟨bp,0,none⟩),.pointer (some ⟨bt,0,none⟩)] w (aY R d bt (Oc w.heap.size bt) (kN f R.l i d) w):=by
 have HL:=ai hl;have H0:=ai h;have HT:=ai ht;have IH:=ai ih;have IHP:=ai ihp;obtain⟨r,hr⟩:=bn (kN f R.l i d);have HRR:=ai hr;rw[←hr]at hno⊢;have f_:=ai hno;have hil:=h.lt;have NV:=aC hbt;have HKB:Hid (∀X:World,Step (·=R.rb) w X→X.cell? ⟨bp,0,none⟩=some (.pointer (some ⟨R.rb,0,none⟩))∧X.heap[bt]?=some (.cells #[af 0,aX,bf 0,aT,aj,aj,aj,af t.line,af t.col] 56 (0,0))):=fun X hX=>⟨ah (hX.keep hbp om) 0 _ rfl,hX.keep hbt om⟩
 obtain⟨p0,-⟩:=HKB.o w bV;clear ih ihp hl h hbp hbt hr hno ht;go_enter Tryz.func131,Tryz.ntmps131;go_wp2_with fail;cases hb0:bH R.l i [45]with
 |true=>
  have HB0:=ai hb0;clear hb0;refine(dw R HL.o ⟨#[45]⟩ _ i d H0.o dc HB0.o).mono ?_;rintro e wy ⟨rfl,yH,hsy⟩;have CG:=ai yH;have wE:Hid (Step (·=R.rb) w wy):=bV.trans hsy;clear yH hsy p0;obtain⟨p0,hbt⟩:=HKB.o wy wE.o;have nI:=ai hbt;clear hbt;have oq:=ah nI.o 0 _ rfl;have ou:=aH nI.o 0;have Gu:=ah nI.o 1 _ rfl;have Gv:=aH nI.o 1;obtain⟨w4,hw4⟩:=bn ((wy.setCell ⟨bt,0,none⟩ (.int .i64 15)).setCell ⟨bt,1,none⟩ (.string ⟨#[45]⟩));have jv:Hid (Step (·=bt) wy w4):=by rw[hw4];exact(((Step.refl (·=bt) _).setCell _ _ jd).setCell _ _ jd)
  have rU:Hid (w4.heap[bt]?=some (.cells #[af 15,.string ⟨#[45]⟩,bf 0,aT,aj,aj,aj,af t.line,af t.col] 56 (0,0))):=by rw[hw4];exact(aU (aU nI.o 0 (.int .i64 15)) 1 (.string ⟨#[45]⟩))
  have pG:Hid (Step (fun k=>k=R.rb∨k=bt) w w4):=(wE.o.mono il).trans (jv.o.mono ir);have HR4:=ai (CG.o.step jv.o oi);have p4:w4.cell? ⟨bp,0,none⟩=some (.pointer (some ⟨R.rb,0,none⟩)):=jv.o.cell p0 (fun e=>by have e2:bp=bt:=e;omega);go_upto_region 9 with fail
  rw[←hw4];clear p0 hw4 oq ou Gu Gv;have p0:=p4;clear p4;go_wp2_with fail;cases hx:gm f R.l (i+1) d with
  |out=>have HX:=ai hx;exact absurd (by rw[HRR.o];unfold kN;simp only[HB0.o,HX.o,if_true,dB.uK]) f_.o
  |err c ln col=>have HX:=ai hx;clear hx;refine(IH.o R _ (i+1) d HL.o HR4.o hd (by rw[HX.o];intro h;cases h)).mono ?_;rintro e wq hp;rw[HX.o]at hp;obtain⟨rfl,sq⟩:=hp;refine⟨rfl,aY.aW (c:=c) (ln:=ln) (col:=col) (by rw[HRR.o];unfold kN;simp only[HB0.o,HX.o,if_true,dB.lQ]) rfl ?_⟩;exact pG.o.trans (sq.mono il)
  |ok y jx=>have HX:=ai hx;clear hx;refine(IH.o R _ (i+1) d HL.o HR4.o hd (by rw[HX.o];intro h;cases h)).mono ?_;rintro e wx hp;rw[HX.o]at hp;obtain⟨⟨v,rfl,cs,rfl,hy⟩,hrx,hsx⟩:=hp;have HY:=ai hy;obtain⟨k0,gZ,v0,g_,a1,n1,c1,a2,n2,c2,a3,n3,c3,l0,c0,rfl⟩:=hy.parts;have wP:=ai hrx;have qW:=ai hsx;obtain⟨w5,hw5⟩:=bn (wx.alloc (.cells #[af k0,aG gZ,bf v0,bC g_,.slice a1 n1 c1,.slice a2 n2 c2,.slice a3 n3 c3,af l0,af c0] 56));(have um:Hid (jP wx w5):=by rw[hw5];exact bV.alloc _);(have RP:Hid (w5.heap[wx.heap.size]?=some (.cells #[af k0,aG gZ,bf v0,bC g_,.slice a1 n1 c1,.slice a2 n2 c2,.slice a3 n3 c3,af l0,af c0] 56 (0,0))):=by rw[hw5];exact aB _ _);have qV:=um.o.keep (qW.o.keep rU.o om) (fun h=>h);have BF:=ah qV 4 _ rfl;have Gz:=aH qV 4;have hxz:=qW.o.size;have hxy:=pG.o.size;obtain⟨w6,hw6⟩:=bn (w5.setCell ⟨bt,4,none⟩ (.slice (some ⟨wx.heap.size,0,none⟩) 1 1));(have wX:Hid (Step (·=bt) w5 w6):=by rw[hw6];exact bV.setCell _ _ jd);(have yt:Hid (w6.heap[bt]?=some (.cells #[af 15,.string ⟨#[45]⟩,bf 0,aT,.slice (some ⟨wx.heap.size,0,none⟩) 1 1,aj,aj,af t.line,af t.col] 56 (0,0))):=by rw[hw6];exact aU qV 4 _);have YV:=ai (wX.o.keep RP.o om);rw[hw5]at BF Gz;clear qV hy hrx hsx p0;go_wp2_with fail;rw[←hw5,←hw6];clear BF Gz hw5 hw6;refine bodyPost_end (results_none rfl _ _ _) rfl ?_;have yj:Step (fun k=>k=R.rb∨k=bt) wx w6:=(um.o.mono fe).trans (wX.o.mono ir);refine aY.dQ (a:=aZ 15 (mG [45]) 0 false [y] [] [] (tokA R.l i)) (j:=jx) (by rw[HRR.o];unfold kN;simp only[HB0.o,HX.o,if_true,dB.bind_ok]) rfl ⟨_,yt.o,?_⟩ ((wP.o.quiet um.o).step wX.o oi) (pG.o.trans ((qW.o.mono il).trans yj));rw[aZ,cZ,←HT.o];exact⟨_,_,_,_,[],rfl,by decide,oQ,bF.single (cZ.mono oi _ _ (cZ.step yj oi _ _ HY.o)),aS.new YV.o dc om,aS.nil _ _ _,by rw[bU],aS.nil _ _ _⟩
 |false=>
  have HB0:=ai hb0;clear hb0;refine(dX R HL.o ⟨#[45]⟩ _ i d H0.o dc HB0.o).mono ?_;rintro e wn0 ⟨rfl,hrn,hsn⟩;have U3:=ai hrn;have NW:Hid (Step (·=R.rb) w wn0):=bV.trans hsn;clear hrn hsn p0;obtain⟨p0,-⟩:=HKB.o wn0 NW.o;go_wp2_with fail;cases hb1:bH R.l i [33]with
  |true=>
   have HB1:=ai hb1;clear hb1;refine(dw R HL.o ⟨#[33]⟩ _ i d U3.o dc HB1.o).mono ?_;rintro e wy ⟨rfl,yH,hsy⟩;have CG:=ai yH;have wE:Hid (Step (·=R.rb) w wy):=NW.o.trans hsy;clear yH hsy p0;obtain⟨p0,hbt⟩:=HKB.o wy wE.o;have nI:=ai hbt;clear hbt;have oq:=ah nI.o 0 _ rfl;have ou:=aH nI.o 0;have Gu:=ah nI.o 1 _ rfl;have Gv:=aH nI.o 1;obtain⟨w4,hw4⟩:=bn ((wy.setCell ⟨bt,0,none⟩ (.int .i64 15)).setCell ⟨bt,1,none⟩ (.string ⟨#[33]⟩));(have jv:Hid (Step (·=bt) wy w4):=by rw[hw4];exact(((Step.refl (·=bt) _).setCell _ _ jd).setCell _ _ jd));(have rU:Hid (w4.heap[bt]?=some (.cells #[af 15,.string ⟨#[33]⟩,bf 0,aT,aj,aj,aj,af t.line,af t.col] 56 (0,0))):=by rw[hw4];exact(aU (aU nI.o 0 (.int .i64 15)) 1 (.string ⟨#[33]⟩)));have pG:Hid (Step (fun k=>k=R.rb∨k=bt) w w4):=(wE.o.mono il).trans (jv.o.mono ir);have HR4:=ai (CG.o.step jv.o oi);have p4:w4.cell? ⟨bp,0,none⟩=some (.pointer (some ⟨R.rb,0,none⟩)):=jv.o.cell p0 (fun e=>by have e2:bp=bt:=e;omega);(go_upto_region 9 with fail);rw[←hw4];clear p0 hw4 oq ou Gu Gv;have p0:=p4;clear p4;go_wp2_with fail;cases hx:gm f R.l (i+1) d with
   |out=>have HX:=ai hx;exact absurd (by rw[HRR.o];unfold kN;simp only[HB0.o,HB1.o,HX.o,Bool.false_eq_true,if_false,if_true,dB.uK]) f_.o
   |err c ln col=>have HX:=ai hx;clear hx;refine(IH.o R _ (i+1) d HL.o HR4.o hd (by rw[HX.o];intro h;cases h)).mono ?_;rintro e wq hp;rw[HX.o]at hp;obtain⟨rfl,sq⟩:=hp;refine⟨rfl,aY.aW (c:=c) (ln:=ln) (col:=col) (by rw[HRR.o];unfold kN;simp only[HB0.o,HB1.o,HX.o,Bool.false_eq_true,if_false,if_true,dB.lQ]) rfl ?_⟩;exact pG.o.trans (sq.mono il)
   |ok y jx=>have HX:=ai hx;clear hx;refine(IH.o R _ (i+1) d HL.o HR4.o hd (by rw[HX.o];intro h;cases h)).mono ?_;rintro e wx hp;rw[HX.o]at hp;obtain⟨⟨v,rfl,cs,rfl,hy⟩,hrx,hsx⟩:=hp;have HY:=ai hy;obtain⟨k0,gZ,v0,g_,a1,n1,c1,a2,n2,c2,a3,n3,c3,l0,c0,rfl⟩:=hy.parts;have wP:=ai hrx;have qW:=ai hsx;obtain⟨w5,hw5⟩:=bn (wx.alloc (.cells #[af k0,aG gZ,bf v0,bC g_,.slice a1 n1 c1,.slice a2 n2 c2,.slice a3 n3 c3,af l0,af c0] 56));(have um:Hid (jP wx w5):=by rw[hw5];exact bV.alloc _);(have RP:Hid (w5.heap[wx.heap.size]?=some (.cells #[af k0,aG gZ,bf v0,bC g_,.slice a1 n1 c1,.slice a2 n2 c2,.slice a3 n3 c3,af l0,af c0] 56 (0,0))):=by rw[hw5];exact aB _ _);have qV:=um.o.keep (qW.o.keep rU.o om) (fun h=>h);have BF:=ah qV 4 _ rfl;have Gz:=aH qV 4;have hxz:=qW.o.size;have hxy:=pG.o.size;obtain⟨w6,hw6⟩:=bn (w5.setCell ⟨bt,4,none⟩ (.slice (some ⟨wx.heap.size,0,none⟩) 1 1));(have wX:Hid (Step (·=bt) w5 w6):=by rw[hw6];exact bV.setCell _ _ jd);(have yt:Hid (w6.heap[bt]?=some (.cells #[af 15,.string ⟨#[33]⟩,bf 0,aT,.slice (some ⟨wx.heap.size,0,none⟩) 1 1,aj,aj,af t.line,af t.col] 56 (0,0))):=by rw[hw6];exact aU qV 4 _);have YV:=ai (wX.o.keep RP.o om);rw[hw5]at BF Gz;clear qV hy hrx hsx p0;go_wp2_with fail;rw[←hw5,←hw6];clear BF Gz hw5 hw6;refine bodyPost_end (results_none rfl _ _ _) rfl ?_;have yj:Step (fun k=>k=R.rb∨k=bt) wx w6:=(um.o.mono fe).trans (wX.o.mono ir);refine aY.dQ (a:=aZ 15 (mG [33]) 0 false [y] [] [] (tokA R.l i)) (j:=jx) (by rw[HRR.o];unfold kN;simp only[HB0.o,HB1.o,HX.o,Bool.false_eq_true,if_false,if_true,dB.bind_ok]) rfl ⟨_,yt.o,?_⟩ ((wP.o.quiet um.o).step wX.o oi) (pG.o.trans ((qW.o.mono il).trans yj));rw[aZ,cZ,←HT.o];exact⟨_,_,_,_,[],rfl,by decide,oQ,bF.single (cZ.mono oi _ _ (cZ.step yj oi _ _ HY.o)),aS.new YV.o dc om,aS.nil _ _ _,by rw[bU],aS.nil _ _ _⟩
  |false=>
   have HB1:=ai hb1;clear hb1;refine(dX R HL.o ⟨#[33]⟩ _ i d U3.o dc HB1.o).mono ?_;rintro e wn1 ⟨rfl,hrn,hsn⟩;have U4:=ai hrn;have NY:Hid (Step (·=R.rb) w wn1):=NW.o.trans hsn;clear hrn hsn p0;obtain⟨p0,-⟩:=HKB.o wn1 NY.o;go_wp2_with fail;cases hb2:bH R.l i [42]with
   |true=>
    have HB2:=ai hb2;clear hb2;refine(dw R HL.o ⟨#[42]⟩ _ i d U4.o dc HB2.o).mono ?_;rintro e wy ⟨rfl,yH,hsy⟩;have CG:=ai yH;have wE:Hid (Step (·=R.rb) w wy):=NY.o.trans hsy;clear yH hsy p0;obtain⟨p0,hbt⟩:=HKB.o wy wE.o;have nI:=ai hbt;clear hbt;have oq:=ah nI.o 0 _ rfl;have ou:=aH nI.o 0;obtain⟨w4,hw4⟩:=bn (wy.setCell ⟨bt,0,none⟩ (.int .i64 7));(have jv:Hid (Step (·=bt) wy w4):=by rw[hw4];exact((Step.refl (·=bt) _).setCell _ _ jd));(have rU:Hid (w4.heap[bt]?=some (.cells #[af 7,aX,bf 0,aT,aj,aj,aj,af t.line,af t.col] 56 (0,0))):=by rw[hw4];exact(aU nI.o 0 (.int .i64 7)));have pG:Hid (Step (fun k=>k=R.rb∨k=bt) w w4):=(wE.o.mono il).trans (jv.o.mono ir);have HR4:=ai (CG.o.step jv.o oi);have p4:w4.cell? ⟨bp,0,none⟩=some (.pointer (some ⟨R.rb,0,none⟩)):=jv.o.cell p0 (fun e=>by have e2:bp=bt:=e;omega);(go_upto_region 9 with fail);rw[←hw4];clear p0 hw4 oq ou;have p0:=p4;clear p4;go_wp2_with fail;cases hx:gm f R.l (i+1) d with
    |out=>have HX:=ai hx;exact absurd (by rw[HRR.o];unfold kN;simp only[HB0.o,HB1.o,HB2.o,HX.o,Bool.false_eq_true,if_false,if_true,dB.uK]) f_.o
    |err c ln col=>have HX:=ai hx;clear hx;refine(IH.o R _ (i+1) d HL.o HR4.o hd (by rw[HX.o];intro h;cases h)).mono ?_;rintro e wq hp;rw[HX.o]at hp;obtain⟨rfl,sq⟩:=hp;refine⟨rfl,aY.aW (c:=c) (ln:=ln) (col:=col) (by rw[HRR.o];unfold kN;simp only[HB0.o,HB1.o,HB2.o,HX.o,Bool.false_eq_true,if_false,if_true,dB.lQ]) rfl ?_⟩;exact pG.o.trans (sq.mono il)
    |ok y jx=>have HX:=ai hx;clear hx;refine(IH.o R _ (i+1) d HL.o HR4.o hd (by rw[HX.o];intro h;cases h)).mono ?_;rintro e wx hp;rw[HX.o]at hp;obtain⟨⟨v,rfl,cs,rfl,hy⟩,hrx,hsx⟩:=hp;have HY:=ai hy;obtain⟨k0,gZ,v0,g_,a1,n1,c1,a2,n2,c2,a3,n3,c3,l0,c0,rfl⟩:=hy.parts;have wP:=ai hrx;have qW:=ai hsx;obtain⟨w5,hw5⟩:=bn (wx.alloc (.cells #[af k0,aG gZ,bf v0,bC g_,.slice a1 n1 c1,.slice a2 n2 c2,.slice a3 n3 c3,af l0,af c0] 56));(have um:Hid (jP wx w5):=by rw[hw5];exact bV.alloc _);(have RP:Hid (w5.heap[wx.heap.size]?=some (.cells #[af k0,aG gZ,bf v0,bC g_,.slice a1 n1 c1,.slice a2 n2 c2,.slice a3 n3 c3,af l0,af c0] 56 (0,0))):=by rw[hw5];exact aB _ _);have qV:=um.o.keep (qW.o.keep rU.o om) (fun h=>h);have BF:=ah qV 4 _ rfl;have Gz:=aH qV 4;have hxz:=qW.o.size;have hxy:=pG.o.size;obtain⟨w6,hw6⟩:=bn (w5.setCell ⟨bt,4,none⟩ (.slice (some ⟨wx.heap.size,0,none⟩) 1 1));(have wX:Hid (Step (·=bt) w5 w6):=by rw[hw6];exact bV.setCell _ _ jd);(have yt:Hid (w6.heap[bt]?=some (.cells #[af 7,aX,bf 0,aT,.slice (some ⟨wx.heap.size,0,none⟩) 1 1,aj,aj,af t.line,af t.col] 56 (0,0))):=by rw[hw6];exact aU qV 4 _);have YV:=ai (wX.o.keep RP.o om);rw[hw5]at BF Gz;clear qV hy hrx hsx p0;go_wp2_with fail;rw[←hw5,←hw6];clear BF Gz hw5 hw6;refine bodyPost_end (results_none rfl _ _ _) rfl ?_;have yj:Step (fun k=>k=R.rb∨k=bt) wx w6:=(um.o.mono fe).trans (wX.o.mono ir);refine aY.dQ (a:=aZ 7 di 0 false [y] [] [] (tokA R.l i)) (j:=jx) (by rw[HRR.o];unfold kN;simp only[HB0.o,HB1.o,HB2.o,HX.o,Bool.false_eq_true,if_false,if_true,dB.bind_ok]) rfl ⟨_,yt.o,?_⟩ ((wP.o.quiet um.o).step wX.o oi) (pG.o.trans ((qW.o.mono il).trans yj));rw[aZ,cZ,←HT.o];exact⟨_,_,_,_,[],rfl,by decide,oQ,bF.single (cZ.mono oi _ _ (cZ.step yj oi _ _ HY.o)),aS.new YV.o dc om,aS.nil _ _ _,by rw[bU],aS.nil _ _ _⟩
   |false=>
    have HB2:=ai hb2;clear hb2;refine(dX R HL.o ⟨#[42]⟩ _ i d U4.o dc HB2.o).mono ?_;rintro e wn2 ⟨rfl,hrn,hsn⟩;have U5:=ai hrn;have NZ:Hid (Step (·=R.rb) w wn2):=NY.o.trans hsn;clear hrn hsn p0;obtain⟨p0,-⟩:=HKB.o wn2 NZ.o;go_wp2_with fail;cases hb3:bH R.l i [38]with
    |true=>
     have HB3:=ai hb3;clear hb3;refine(dw R HL.o ⟨#[38]⟩ _ i d U5.o dc HB3.o).mono ?_;rintro e wy ⟨rfl,yH,hsy⟩;have CG:=ai yH;have wE:Hid (Step (·=R.rb) w wy):=NZ.o.trans hsy;clear yH hsy p0;obtain⟨p0,hbt⟩:=HKB.o wy wE.o;have nI:=ai hbt;clear hbt;obtain⟨mb,hmb⟩:=bn (bH R.l (i+1) [109,117,116]);obtain⟨mj,hmj⟩:=bn (iw R.l (i+1) [109,117,116]);have HIS:=ai (uj R HL.o ⟨#[109,117,116]⟩ wy (i+1) d CG.o dc);(have vF:Hid (r=(gm f R.l mj d).bind fun y j=>.ok (aZ 8 di 0 mb [y] [] [] (tokA R.l i)) j):=by show _=_;rw[HRR.o,hmj,hmb];unfold kN;simp only[HB0.o,HB1.o,HB2.o,HB3.o,Bool.false_eq_true,if_false,if_true]);(have HIS2:Hid (Calls Tryz.prog 77 #[.pointer (some ⟨R.rb,0,none⟩),.string ⟨#[109,117,116]⟩] wy fun e w'=>e=.returned (.bool mb)∧bD R w' mj d∧Step (·=R.rb) wy w'):=by rw[hmb,hmj];exact HIS.o);clear hmb hmj;go_wp2_with fail;refine HIS2.o.mono ?_;rintro e w3 ⟨rfl,hr3,hs3⟩;have F6:=ai hr3;have YC:Hid (Step (·=R.rb) w w3):=wE.o.trans hs3;clear hr3 hs3 p0;obtain⟨p0,hbt⟩:=HKB.o w3 YC.o;have Vl:=ai hbt;clear hbt;have oq:=ah Vl.o 0 _ rfl;have ou:=aH Vl.o 0;have bt3:=ah Vl.o 3 _ rfl;have bz3:=aH Vl.o 3;obtain⟨w4,hw4⟩:=bn ((w3.setCell ⟨bt,0,none⟩ (.int .i64 8)).setCell ⟨bt,3,none⟩ (.bool mb));(have jv:Hid (Step (·=bt) w3 w4):=by rw[hw4];exact(((Step.refl (·=bt) _).setCell _ _ jd).setCell _ _ jd));(have rU:Hid (w4.heap[bt]?=some (.cells #[af 8,aX,bf 0,bC mb,aj,aj,aj,af t.line,af t.col] 56 (0,0))):=by rw[hw4];exact(aU (aU Vl.o 0 (.int .i64 8)) 3 (.bool mb)));have pG:Hid (Step (fun k=>k=R.rb∨k=bt) w w4):=(YC.o.mono il).trans (jv.o.mono ir);have HR4:=ai (F6.o.step jv.o oi);have p4:w4.cell? ⟨bp,0,none⟩=some (.pointer (some ⟨R.rb,0,none⟩)):=jv.o.cell p0 (fun e=>by have e2:bp=bt:=e;omega);(go_upto_region 9 with fail);rw[←hw4];clear p0 hw4 oq ou bt3 bz3;have p0:=p4;clear p4;go_wp2_with fail;cases hx:gm f R.l mj d with
     |out=>have HX:=ai hx;exact absurd (by rw[vF.o];simp only[HX.o,dB.uK]) f_.o
     |err c ln col=>have HX:=ai hx;clear hx;refine(IH.o R _ mj d HL.o HR4.o hd (by rw[HX.o];intro h;cases h)).mono ?_;rintro e wq hp;rw[HX.o]at hp;obtain⟨rfl,sq⟩:=hp;refine⟨rfl,aY.aW (c:=c) (ln:=ln) (col:=col) (by rw[vF.o];simp only[HX.o,dB.lQ]) rfl ?_⟩;exact pG.o.trans (sq.mono il)
     |ok y jx=>have HX:=ai hx;clear hx;refine(IH.o R _ mj d HL.o HR4.o hd (by rw[HX.o];intro h;cases h)).mono ?_;rintro e wx hp;rw[HX.o]at hp;obtain⟨⟨v,rfl,cs,rfl,hy⟩,hrx,hsx⟩:=hp;have HY:=ai hy;obtain⟨k0,gZ,v0,g_,a1,n1,c1,a2,n2,c2,a3,n3,c3,l0,c0,rfl⟩:=hy.parts;have wP:=ai hrx;have qW:=ai hsx;obtain⟨w5,hw5⟩:=bn (wx.alloc (.cells #[af k0,aG gZ,bf v0,bC g_,.slice a1 n1 c1,.slice a2 n2 c2,.slice a3 n3 c3,af l0,af c0] 56));(have um:Hid (jP wx w5):=by rw[hw5];exact bV.alloc _);(have RP:Hid (w5.heap[wx.heap.size]?=some (.cells #[af k0,aG gZ,bf v0,bC g_,.slice a1 n1 c1,.slice a2 n2 c2,.slice a3 n3 c3,af l0,af c0] 56 (0,0))):=by rw[hw5];exact aB _ _);have qV:=um.o.keep (qW.o.keep rU.o om) (fun h=>h);have BF:=ah qV 4 _ rfl;have Gz:=aH qV 4;have hxz:=qW.o.size;have hxy:=pG.o.size;obtain⟨w6,hw6⟩:=bn (w5.setCell ⟨bt,4,none⟩ (.slice (some ⟨wx.heap.size,0,none⟩) 1 1));(have wX:Hid (Step (·=bt) w5 w6):=by rw[hw6];exact bV.setCell _ _ jd);(have yt:Hid (w6.heap[bt]?=some (.cells #[af 8,aX,bf 0,bC mb,.slice (some ⟨wx.heap.size,0,none⟩) 1 1,aj,aj,af t.line,af t.col] 56 (0,0))):=by rw[hw6];exact aU qV 4 _);have YV:=ai (wX.o.keep RP.o om);rw[hw5]at BF Gz;clear qV hy hrx hsx p0;go_wp2_with fail;rw[←hw5,←hw6];clear BF Gz hw5 hw6;refine bodyPost_end (results_none rfl _ _ _) rfl ?_;have yj:Step (fun k=>k=R.rb∨k=bt) wx w6:=(um.o.mono fe).trans (wX.o.mono ir);refine aY.dQ (a:=aZ 8 di 0 mb [y] [] [] (tokA R.l i)) (j:=jx) (by rw[vF.o];simp only[HX.o,dB.bind_ok]) rfl ⟨_,yt.o,?_⟩ ((wP.o.quiet um.o).step wX.o oi) (pG.o.trans ((qW.o.mono il).trans yj));rw[aZ,cZ,←HT.o];exact⟨_,_,_,_,[],rfl,by decide,oQ,bF.single (cZ.mono oi _ _ (cZ.step yj oi _ _ HY.o)),aS.new YV.o dc om,aS.nil _ _ _,by rw[bU],aS.nil _ _ _⟩
    |false=>
     have HB3:=ai hb3;clear hb3;refine(dX R HL.o ⟨#[38]⟩ _ i d U5.o dc HB3.o).mono ?_;rintro e wn3 ⟨rfl,hrn,hsn⟩;have U6:=ai hrn;have Lh:Hid (Step (·=R.rb) w wn3):=NZ.o.trans hsn;clear hrn hsn p0;obtain⟨p0,-⟩:=HKB.o wn3 Lh.o;go_wp2_with fail;cases hx:mJ f R.l i d with
     |out=>have HX:=ai hx;exact absurd (by rw[HRR.o];unfold kN;simp only[HB0.o,HB1.o,HB2.o,HB3.o,HX.o,Bool.false_eq_true,if_false]) f_.o
     |err c ln col=>have HX:=ai hx;clear hx;refine(IHP.o R _ i d HL.o U6.o hd (by rw[HX.o];intro h;cases h)).mono ?_;rintro e wq hp;rw[HX.o]at hp;obtain⟨rfl,sq⟩:=hp;refine⟨rfl,aY.aW (c:=c) (ln:=ln) (col:=col) (by rw[HRR.o];unfold kN;simp only[HB0.o,HB1.o,HB2.o,HB3.o,HX.o,Bool.false_eq_true,if_false]) rfl ?_⟩;exact(Lh.o.trans sq).mono il
     |ok y jx=>
      have HX:=ai hx;clear hx;refine(IHP.o R _ i d HL.o U6.o hd (by rw[HX.o];intro h;cases h)).mono ?_;rintro e wx hp;rw[HX.o]at hp;obtain⟨⟨v,rfl,cs,rfl,hy⟩,hrx,hsx⟩:=hp;have HY:=ai hy;have dL:=ai hy.one;obtain⟨k0,gZ,v0,g_,a1,n1,c1,a2,n2,c2,a3,n3,c3,l0,c0,rfl⟩:=hy.parts;have wP:=ai hrx;have qW:Hid (Step (·=R.rb) w wx):=Lh.o.trans hsx;have hnz:=Lh.o.size;obtain⟨-,hbt⟩:=HKB.o wx qW.o;have nI:=ai hbt;clear hy hrx hsx p0 hbt
      go_wp2_with (refine au (w:=wx) rfl 56 (.tmp 1) (.tmp 3) rfl bt 0 56 _ [.int .i64 k0,.string gZ,.int .u64 v0,.bool g_,.slice a1 n1 c1,.slice a2 n2 c2,.slice a3 n3 c3,.int .i64 l0,.int .i64 c0] rfl rfl nI.o Tryz.aK (Nat.le_of_eq rfl) dL.o ?_
                   intro w6 hb6 uw)
      have GH:w6.heap[bt]?=some (.cells [Value.int .i64 k0,aG gZ,bf v0,bC g_,.slice a1 n1 c1,.slice a2 n2 c2,.slice a3 n3 c3,af l0,af c0].toArray 56 (0,0)):=hb6;have Hf:=ai GH;have wX:=ai uw;clear hb6 GH uw;refine bodyPost_ret (results_none rfl _ _ _) rfl ?_;refine aY.dQ (a:=y) (j:=jx) (by rw[HRR.o];unfold kN;simp only[HB0.o,HB1.o,HB2.o,HB3.o,HX.o,Bool.false_eq_true,if_false]) rfl ⟨_,Hf.o,?_⟩ (wP.o.step wX.o oi) ((qW.o.mono il).trans (wX.o.mono ir));exact cZ.mono oi _ _ (cZ.step wX.o oi _ _ HY.o)
theorem yL:Enters 131:=fun xs w=>by go_simp
theorem Og (f:Nat) (ih:Ai f) (iha:Jb f):Ai (f+1):=by
 intro R w i d hl h hd hno;have hmf:∀(fn:Fn) (first cap:Array Value) (w:World),(Instr.makeFunc fn first cap).run Tryz.prog w=.ok (.func fn first cap) w:=fun _ _ _ _=>rfl;have HL:=ai hl;have H0:=ai h;have f_:=ai hno;obtain⟨r,hr⟩:=bn (gm (f+1) R.l i d);have HRR:=ai hr;rw[←hr];obtain⟨t,ht⟩:=bn (tokA R.l i);have HT:=ai ht;have vK:=aC h.blk;obtain⟨w1,hw1⟩:=bn ((w.alloc (.cells #[fM R.rb 0] 75)).alloc (.cells #[af 0,bW,bf 0,aT,aj,aj,aj,af 0,af 0] 56));have dF:=nT hw1
 have kG:=nC hw1
 have lm:=nD hw1
 have HW1:=ai hw1;have H1:=ai (h.quiet dF.o);have p0:w1.cell? ⟨w.heap.size,0,none⟩=some (.pointer (some ⟨R.rb,0,none⟩)):=ah kG.o 0 _ rfl;have HAT:=ai (at_at R w1 i d t H1.o (by rw[ht];exact H1.o.tok));clear hl h hno hr hw1 ht;go_enter Tryz.func108,Tryz.ntmps108;go_upto_region 1 with fail
 rw[←HW1.o];go_wp2_with fail;refine HAT.o.mono ?_;rintro e w2 ⟨rfl,h2⟩;have HS2:=ai (dF.o.trans h2);have HP2:=ai (h2.keep kG.o (fun h=>h));have oO:=ai (h2.keep lm.o (fun h=>h));have hn1:=aC oO.o;obtain⟨w3,hw3⟩:=bn (w2.alloc (.cells #[af 0,aX,bf 0,aT,aj,aj,aj,af t.line,af t.col] 56));have lS:=nS hw3
 have HB3:=nB hw3
 have jA:=ai (HS2.o.trans lS.o);have yJ:=ai (lS.o.keep HP2.o (fun h=>h));have wW:=ai (lS.o.keep oO.o (fun h=>h));have H3:=ai (H0.o.quiet jA.o);have HW3:=ai hw3;clear h2 hw3 p0;have p0:w3.cell? ⟨w.heap.size,0,none⟩=some (.pointer (some ⟨R.rb,0,none⟩)):=ah yJ.o 0 _ rfl;go_upto_region 2 with fail
 have hx3:w2.alloc (.cells #[af 0,bW,bf 0,aT,aj,aj,aj,af t.line,af t.col] 56)=w3:=HW3.o.symm;rw[hx3];clear hx3;go_wp2_with fail;by_cases U9:d=40
 ·refine(yV R _ [.pointer (some ⟨w.heap.size,0,none⟩),.pointer (some ⟨w2.heap.size,0,none⟩)] w3 i d t H3.o (by rw[HT.o];exact H3.o.tok) U9).mono ?_;rintro e w4 ⟨rfl,h4⟩;refine⟨rfl,?_⟩;rw[HRR.o,CP,if_pos U9,gW,←HT.o];exact⟨rfl,(jA.o.trans h4).mono fe⟩
 ·have mM:Hid (r=kN f R.l i (d+1)):=by show _=_;rw[HRR.o,CP,if_neg U9]
  have hnb:kN f R.l i (d+1)≠.out:=fun e=>f_.o (by rw[←HRR.o,mM.o,e]);have Lm:Hid (∀X,bD R X i (d+1)→Step (·=R.rb) w3 X→Calls Tryz.prog 131 #[.pointer (some ⟨w.heap.size,0,none⟩),.pointer (some ⟨w2.heap.size,0,none⟩)] X (aY R (d+1) w2.heap.size (Oc X.heap.size w2.heap.size) (kN f R.l i (d+1)) X)):=fun X hX hs=>Oe R f ih iha w.heap.size w2.heap.size X i (d+1) t HL.o hX om (hs.keep yJ.o om) (hs.keep HB3.o om) om om HT.o hnb
  have Lr:d<40:=by omega
  cases hb:kN f R.l i (d+1)with
  |out=>exact absurd hb hnb
  |err c ln col=>
   have HB:=ai hb;clear hb;refine(EC R _ [.pointer (some ⟨w.heap.size,0,none⟩),.pointer (some ⟨w2.heap.size,0,none⟩)] w3 i d (Q:=fun X=>Step (fun k=>k=R.rb∨k=w2.heap.size) w3 X) (hk:=yL) (h:=H3.o) (hd:=Lr) (hby:=fun X hX hs=> ?_) (es:=[{v:=.iface 184 (.agg #[af c,af ln,af col]),recovered:=false}])).mono ?_
   ·refine(Lm.o X hX hs).mono ?_;intro e X2 hp;rw[HB.o]at hp;exact⟨hp.1,(hs.mono il).trans hp.2⟩
   ·rintro e w4 ⟨rfl,h4⟩;refine⟨rfl,?_⟩;rw[mM.o,HB.o];exact⟨rfl,(jA.o.mono fe).then h4 oi⟩
  |ok ty j=>
   have HB:=ai hb;clear hb;refine(I7 R _ [.pointer (some ⟨w.heap.size,0,none⟩),.pointer (some ⟨w2.heap.size,0,none⟩)] w3 i d (fun i' X=>i'=j∧Oc w3.heap.size w2.heap.size X ty∧Step (fun k=>k=R.rb∨k=w2.heap.size) w3 X) yL H3.o Lr (fun X hX hs=> ?_)).mono ?_
   ·refine(Lm.o X hX hs).mono ?_;intro e X2 hp;rw[HB.o]at hp;obtain⟨he,⟨cs,hc,ht⟩,hr,hs2⟩:=hp;exact⟨he,j,hr,rfl,⟨cs,hc,cZ.mono (fun k _ hk=>by have:=hs.size;omega) _ _ ht⟩,(hs.mono il).trans hs2⟩
   ·rintro e w4 ⟨rfl,i',X,⟨rfl,⟨cs,hc,hty⟩,hsx⟩,hr4,hs4⟩;have hlt3:=aC HB3.o;have hb4:=hs4.keep hc om;have I9:=cZ.step hs4 oi _ _ hty;have N9:Step (fun k=>k=R.rb∨k=w2.heap.size) w3 w4:=hsx.trans (hs4.mono il);obtain⟨k0,gZ,v0,g_,a1,n1,c1,a2,n2,c2,a3,n3,c3,l0,c0,rfl⟩:=I9.parts;have HR4:=ai hr4;have Ad:=ai I9;have Ae:=ai N9;have HB4:=ai hb4;have N8:=ai (N9.keep wW.o om);(have bY:Hid (∀(jj:Nat) v,[Value.int .i64 k0,aG gZ,bf v0,bC g_,.slice a1 n1 c1,.slice a2 n2 c2,.slice a3 n3 c3,af l0,af c0][jj]?=some v→w4.cell? ⟨w2.heap.size,0+jj,none⟩=some v):=by intro jj v hv;rw[Nat.zero_add];exact ah HB4.o jj v qE);have dL:=ai (cZ.one I9);have hsz3:=lS.o.size;clear hc hty hsx hr4 hs4 hb4 I9 N9 p0;go_wp2_with (first
     |(refine ay rfl 56 (.tmp 3) rfl w2.heap.size 0 rfl [.int .i64 k0,.string gZ,.int .u64 v0,.bool g_,.slice a1 n1 c1,.slice a2 n2 c2,.slice a3 n3 c3,.int .i64 l0,.int .i64 c0] _ bY.o Tryz.underlying56 rfl Tryz.aK ?_)
     |(refine au (w:=w4) rfl 56 (.tmp 2) (.tmp 12) rfl (w.heap.size+1) 0 56 _ [.int .i64 k0,.string gZ,.int .u64 v0,.bool g_,.slice a1 n1 c1,.slice a2 n2 c2,.slice a3 n3 c3,.int .i64 l0,.int .i64 c0] rfl rfl N8.o Tryz.aK (Nat.le_of_eq rfl) dL.o ?_;intro w5 hb5 hst5))
    have uo:w5.heap[w.heap.size+1]?=some (.cells [Value.int .i64 k0,aG gZ,bf v0,bC g_,.slice a1 n1 c1,.slice a2 n2 c2,.slice a3 n3 c3,af l0,af c0].toArray 56 (0,0)):=hb5;refine bodyPost_ret (aV rfl _ (w.heap.size+1) 56 _ _ rfl uo Tryz.underlying56 rfl Tryz.aK) rfl ?_;rw[mM.o,HB.o];refine⟨⟨_,rfl,_,rfl,cZ.mono (fun k _ hk=>by have:=jA.o.size;omega) _ _ (cZ.step hst5 oi _ _ Ad.o)⟩,HR4.o.step hst5 oi,?_⟩;have hs04:Step (·=R.rb) w w4:=(jA.o.mono fe).then Ae.o oi;exact hs04.then hst5 oi
theorem vO (w:World) (o:Obj) (k:Nat) (h:k=w.heap.size):(w.alloc o).heap[k]?=some o:=by subst h;exact aB w o
theorem Tryz.Oh:(Tryz.prog.info? 171).map (·.size)=some 5:=by kernel_rfl
theorem qy (w:World):Calls Tryz.prog 107 #[] w fun e w'=>(∃g0 g1 g2 g3 g4:Nat,e=.returned (.agg #[.slice (some ⟨g0,0,none⟩) 1 1,.slice (some ⟨g1,0,none⟩) 1 1,.slice (some ⟨g2,0,none⟩) 2 2,.slice (some ⟨g3,0,none⟩) 2 2,.slice (some ⟨g4,0,none⟩) 2 2])∧w'.cell? ⟨g0,0,none⟩=some (.string ⟨#[124]⟩)∧w'.cell? ⟨g1,0,none⟩=some (.string ⟨#[38,38]⟩)∧w'.cell? ⟨g2,0,none⟩=some (.string ⟨#[61,61]⟩)∧w'.cell? ⟨g2,1,none⟩=some (.string ⟨#[60]⟩)∧w'.cell? ⟨g3,0,none⟩=some (.string ⟨#[43]⟩)∧w'.cell? ⟨g3,1,none⟩=some (.string ⟨#[45]⟩)∧w'.cell? ⟨g4,0,none⟩=some (.string ⟨#[42]⟩)∧w'.cell? ⟨g4,1,none⟩=some (.string ⟨#[47]⟩)∧w.heap.size≤g0∧w.heap.size≤g1∧w.heap.size≤g2∧w.heap.size≤g3∧w.heap.size≤g4)∧jP w w':=by go_enter Tryz.func107,Tryz.ntmps107;go_wp2;refine bodyPost_ret (aV rfl _ w.heap.size 171 [.slice (some ⟨w.heap.size+1,0,none⟩) 1 1,.slice (some ⟨w.heap.size+1+1,0,none⟩) 1 1,.slice (some ⟨w.heap.size+1+1+1,0,none⟩) 2 2,.slice (some ⟨w.heap.size+1+1+1+1,0,none⟩) 2 2,.slice (some ⟨w.heap.size+1+1+1+1+1,0,none⟩) 2 2] _ rfl (aN (aN (aN (aN (aN (aB _ _)))))) Tryz.underlying171 rfl Tryz.Oh) rfl ?_;exact⟨⟨_,_,_,_,_,rfl,ah (aN (aN (aN (aN (vO _ _ _ (by simp)))))) 0 _ rfl,ah (aN (aN (aN (vO _ _ _ (by simp))))) 0 _ rfl,ah (aN (aN (vO _ _ _ (by simp)))) 0 _ rfl,ah (aN (aN (vO _ _ _ (by simp)))) 1 _ rfl,ah (aN (vO _ _ _ (by simp))) 0 _ rfl,ah (aN (vO _ _ _ (by simp))) 1 _ rfl,ah (vO _ _ _ (by simp)) 0 _ rfl,ah (vO _ _ _ (by simp)) 1 _ rfl,by omega,by omega,by omega,by omega,by omega⟩,(((((bV.alloc _).alloc _).alloc _).alloc _).alloc _).alloc _⟩
def opS (o:Option (List UInt8)):ByteArray:=match o with|some s=>mG s|none=>di
def opI (o:Option (List UInt8)) (i:Nat):Nat:=match o with|some _=>i+1|none=>i
def pI (R:h_) (i d n:Nat) (w:World) (e:Ending) (w':World):Prop:=e=.returned (.string (opS (wO R.l i n)))∧bD R w' (opI (wO R.l i n) i) d∧Step (·=R.rb) w w'
theorem op_any (R:h_) (hl:pF R.l) (w:World) (i d n:Nat) (h:bD R w i d) (hn:n<5):Calls Tryz.prog 109 #[.agg #[fM R.rb 0],.int .i64 (n:Int)] w (pI R i d n w):=by
 have HL:=ai hl;obtain⟨w1,hw1⟩:=bn (w.alloc (.cells #[fM R.rb 0] 75));have dF:=nS hw1
 have kG:=nB hw1
 have HW1:=ai hw1;have H1:=ai (h.quiet dF.o);have hrw:=aC h.blk;have dh:Hid (∀X:World,Step (·=R.rb) w1 X→X.cell? ⟨w.heap.size,0,none⟩=some (.pointer (some ⟨R.rb,0,none⟩))):=fun X hX=>ah (hX.keep kG.o om) 0 _ rfl
 clear h hl hw1;rcases(show n=0∨n=1∨n=2∨n=3∨n=4 by omega)with rfl|rfl|rfl|rfl|rfl
 ·clear hn;go_enter Tryz.func109,Tryz.ntmps109;go_upto_region 1 with fail
  rw[←HW1.o];go_wp2_with fail;refine(qy w1).mono ?_;rintro e w2 ⟨⟨g0,g1,g2,g3,g4,rfl,hc⟩,h2⟩;have H2:=ai (H1.o.quiet h2);have HC:=ai hc;have HS2:=ai h2;have YZ:=dF.o.size;have Vm:Hid (g0=R.rb→False):=by show _→_;have:=HC.o.2.2.2.2.2.2.2.2.1;omega
  have Vo:Hid (g1=R.rb→False):=by show _→_;have:=HC.o.2.2.2.2.2.2.2.2.2.1;omega
  have Sr:Hid (g2=R.rb→False):=by show _→_;have:=HC.o.2.2.2.2.2.2.2.2.2.2.1;omega
  have Sz:Hid (g3=R.rb→False):=by show _→_;have:=HC.o.2.2.2.2.2.2.2.2.2.2.2.1;omega
  have SA:Hid (g4=R.rb→False):=by show _→_;have:=HC.o.2.2.2.2.2.2.2.2.2.2.2.2;omega
  have hix:∀(a0 a1 a2 a3 a4:Value) (w:World),(Instr.index 171 (.agg #[a0,a1,a2,a3,a4]) (.int .i64 0)).run Tryz.prog w=.ok a0 w:=fun _ _ _ _ _ _=>by kernel_rfl
  clear hc h2;go_wp2_with fail;go_loopg [6,11] 1 (fun gg s6 s11 wr=>∃k:Nat,s11=.int .i64 k∧k≤1∧1-k≤gg∧((opsL 0).drop k).find? (bH R.l i)=wO R.l i 0∧bD R wr i d∧Step (·=R.rb) w2 wr);case atStart=>exact⟨0,rfl,Nat.zero_le _,by omega,rfl,H2.o,Step.refl _ _⟩
  case round=>
   obtain⟨k,rfl,hk,hgg,hfd,hr,hst⟩:=hrel;have Dn:=ai hfd;have HR:=ai hr;have HST:=ai hst;have rG:Hid (Step (·=R.rb) w1 wr):=(HS2.o.mono fe).trans hst;have p0:=dh.o wr rG.o;clear hfd hr hst;rcases(show k=0∨k=1 by omega)with rfl|rfl
   ·have f0:wr.cell? ⟨g0,0,none⟩=some (.string ⟨#[124]⟩):=HST.o.cell (HC.o.1) (fun e=>Vm.o e);go_wp2_with fail;cases hb:bH R.l i [124]with
    |true=>have HB:=ai hb;clear hb;refine(dw R HL.o ⟨#[124]⟩ _ i d HR.o dc HB.o).mono ?_;rintro e w4 ⟨rfl,hr4,h4⟩;have HR4:=ai hr4;have jv:=ai h4;clear hr4 h4 f0 p0;go_wp2_with fail;go_ret;(have ho:wO R.l i 0=some [124]:=by rw[←Dn.o];simp[opsL,HB.o]);unfold pI;rw[ho];exact⟨rfl,HR4.o,((dF.o.mono fe).trans rG.o).trans jv.o⟩
    |false=>
     have HB:=ai hb;clear hb;refine(dX R HL.o ⟨#[124]⟩ _ i d HR.o dc HB.o).mono ?_;rintro e w4 ⟨rfl,hr4,h4⟩;have HR4:=ai hr4;have jv:=ai h4;(have yZ:Hid (((opsL 0).drop 1).find? (bH R.l i)=wO R.l i 0):=by show _=_;rw[←Dn.o];simp[opsL,HB.o]);clear hr4 h4 f0 p0;go_wp2_with fail;go_roundg (gk-1);case rel=>exact⟨1,rfl,by omega,by omega,yZ.o,HR4.o,HST.o.trans jv.o⟩
     case measure=>omega
   ·clear p0;go_wp2_with fail;go_ret;(have ho:wO R.l i 0=none:=by rw[←Dn.o];rfl);unfold pI;rw[ho];exact⟨rfl,HR.o,(dF.o.mono fe).trans rG.o⟩
 ·clear hn;go_enter Tryz.func109,Tryz.ntmps109;go_upto_region 1 with fail
  rw[←HW1.o];go_wp2_with fail;refine(qy w1).mono ?_;rintro e w2 ⟨⟨g0,g1,g2,g3,g4,rfl,hc⟩,h2⟩;have H2:=ai (H1.o.quiet h2);have HC:=ai hc;have HS2:=ai h2;have YZ:=dF.o.size;have Vm:Hid (g0=R.rb→False):=by show _→_;have:=HC.o.2.2.2.2.2.2.2.2.1;omega
  have Vo:Hid (g1=R.rb→False):=by show _→_;have:=HC.o.2.2.2.2.2.2.2.2.2.1;omega
  have Sr:Hid (g2=R.rb→False):=by show _→_;have:=HC.o.2.2.2.2.2.2.2.2.2.2.1;omega
  have Sz:Hid (g3=R.rb→False):=by show _→_;have:=HC.o.2.2.2.2.2.2.2.2.2.2.2.1;omega
  have SA:Hid (g4=R.rb→False):=by show _→_;have:=HC.o.2.2.2.2.2.2.2.2.2.2.2.2;omega
  have hix:∀(a0 a1 a2 a3 a4:Value) (w:World),(Instr.index 171 (.agg #[a0,a1,a2,a3,a4]) (.int .i64 1)).run Tryz.prog w=.ok a1 w:=fun _ _ _ _ _ _=>by kernel_rfl
  clear hc h2;go_wp2_with fail;go_loopg [6,11] 1 (fun gg s6 s11 wr=>∃k:Nat,s11=.int .i64 k∧k≤1∧1-k≤gg∧((opsL 1).drop k).find? (bH R.l i)=wO R.l i 1∧bD R wr i d∧Step (·=R.rb) w2 wr);case atStart=>exact⟨0,rfl,Nat.zero_le _,by omega,rfl,H2.o,Step.refl _ _⟩
  case round=>
   obtain⟨k,rfl,hk,hgg,hfd,hr,hst⟩:=hrel;have Dn:=ai hfd;have HR:=ai hr;have HST:=ai hst;have rG:Hid (Step (·=R.rb) w1 wr):=(HS2.o.mono fe).trans hst;have p0:=dh.o wr rG.o;clear hfd hr hst;rcases(show k=0∨k=1 by omega)with rfl|rfl
   ·have f0:wr.cell? ⟨g1,0,none⟩=some (.string ⟨#[38,38]⟩):=HST.o.cell (HC.o.2.1) (fun e=>Vo.o e);go_wp2_with fail;cases hb:bH R.l i [38,38]with
    |true=>have HB:=ai hb;clear hb;refine(dw R HL.o ⟨#[38,38]⟩ _ i d HR.o dc HB.o).mono ?_;rintro e w4 ⟨rfl,hr4,h4⟩;have HR4:=ai hr4;have jv:=ai h4;clear hr4 h4 f0 p0;go_wp2_with fail;go_ret;(have ho:wO R.l i 1=some [38,38]:=by rw[←Dn.o];simp[opsL,HB.o]);unfold pI;rw[ho];exact⟨rfl,HR4.o,((dF.o.mono fe).trans rG.o).trans jv.o⟩
    |false=>
     have HB:=ai hb;clear hb;refine(dX R HL.o ⟨#[38,38]⟩ _ i d HR.o dc HB.o).mono ?_;rintro e w4 ⟨rfl,hr4,h4⟩;have HR4:=ai hr4;have jv:=ai h4;(have yZ:Hid (((opsL 1).drop 1).find? (bH R.l i)=wO R.l i 1):=by show _=_;rw[←Dn.o];simp[opsL,HB.o]);clear hr4 h4 f0 p0;go_wp2_with fail;go_roundg (gk-1);case rel=>exact⟨1,rfl,by omega,by omega,yZ.o,HR4.o,HST.o.trans jv.o⟩
     case measure=>omega
   ·clear p0;go_wp2_with fail;go_ret;(have ho:wO R.l i 1=none:=by rw[←Dn.o];rfl);unfold pI;rw[ho];exact⟨rfl,HR.o,(dF.o.mono fe).trans rG.o⟩
 ·clear hn;go_enter Tryz.func109,Tryz.ntmps109;go_upto_region 1 with fail
  rw[←HW1.o];go_wp2_with fail;refine(qy w1).mono ?_;rintro e w2 ⟨⟨g0,g1,g2,g3,g4,rfl,hc⟩,h2⟩;have H2:=ai (H1.o.quiet h2);have HC:=ai hc;have HS2:=ai h2;have YZ:=dF.o.size;have Vm:Hid (g0=R.rb→False):=by show _→_;have:=HC.o.2.2.2.2.2.2.2.2.1;omega
  have Vo:Hid (g1=R.rb→False):=by show _→_;have:=HC.o.2.2.2.2.2.2.2.2.2.1;omega
  have Sr:Hid (g2=R.rb→False):=by show _→_;have:=HC.o.2.2.2.2.2.2.2.2.2.2.1;omega
  have Sz:Hid (g3=R.rb→False):=by show _→_;have:=HC.o.2.2.2.2.2.2.2.2.2.2.2.1;omega
  have SA:Hid (g4=R.rb→False):=by show _→_;have:=HC.o.2.2.2.2.2.2.2.2.2.2.2.2;omega
  have hix:∀(a0 a1 a2 a3 a4:Value) (w:World),(Instr.index 171 (.agg #[a0,a1,a2,a3,a4]) (.int .i64 2)).run Tryz.prog w=.ok a2 w:=fun _ _ _ _ _ _=>by kernel_rfl
  clear hc h2;go_wp2_with fail;go_loopg [6,11] 2 (fun gg s6 s11 wr=>∃k:Nat,s11=.int .i64 k∧k≤2∧2-k≤gg∧((opsL 2).drop k).find? (bH R.l i)=wO R.l i 2∧bD R wr i d∧Step (·=R.rb) w2 wr);case atStart=>exact⟨0,rfl,Nat.zero_le _,by omega,rfl,H2.o,Step.refl _ _⟩
  case round=>
   obtain⟨k,rfl,hk,hgg,hfd,hr,hst⟩:=hrel;have Dn:=ai hfd;have HR:=ai hr;have HST:=ai hst;have rG:Hid (Step (·=R.rb) w1 wr):=(HS2.o.mono fe).trans hst;have p0:=dh.o wr rG.o;clear hfd hr hst;rcases(show k=0∨k=1∨k=2 by omega)with rfl|rfl|rfl
   ·have f0:wr.cell? ⟨g2,0,none⟩=some (.string ⟨#[61,61]⟩):=HST.o.cell (HC.o.2.2.1) (fun e=>Sr.o e);go_wp2_with fail;cases hb:bH R.l i [61,61]with
    |true=>have HB:=ai hb;clear hb;refine(dw R HL.o ⟨#[61,61]⟩ _ i d HR.o dc HB.o).mono ?_;rintro e w4 ⟨rfl,hr4,h4⟩;have HR4:=ai hr4;have jv:=ai h4;clear hr4 h4 f0 p0;go_wp2_with fail;go_ret;(have ho:wO R.l i 2=some [61,61]:=by rw[←Dn.o];simp[opsL,HB.o]);unfold pI;rw[ho];exact⟨rfl,HR4.o,((dF.o.mono fe).trans rG.o).trans jv.o⟩
    |false=>
     have HB:=ai hb;clear hb;refine(dX R HL.o ⟨#[61,61]⟩ _ i d HR.o dc HB.o).mono ?_;rintro e w4 ⟨rfl,hr4,h4⟩;have HR4:=ai hr4;have jv:=ai h4;(have yZ:Hid (((opsL 2).drop 1).find? (bH R.l i)=wO R.l i 2):=by show _=_;rw[←Dn.o];simp[opsL,HB.o]);clear hr4 h4 f0 p0;go_wp2_with fail;go_roundg (gk-1);case rel=>exact⟨1,rfl,by omega,by omega,yZ.o,HR4.o,HST.o.trans jv.o⟩
     case measure=>omega
   ·have f0:wr.cell? ⟨g2,1,none⟩=some (.string ⟨#[60]⟩):=HST.o.cell (HC.o.2.2.2.1) (fun e=>Sr.o e);go_wp2_with fail;cases hb:bH R.l i [60]with
    |true=>have HB:=ai hb;clear hb;refine(dw R HL.o ⟨#[60]⟩ _ i d HR.o dc HB.o).mono ?_;rintro e w4 ⟨rfl,hr4,h4⟩;have HR4:=ai hr4;have jv:=ai h4;clear hr4 h4 f0 p0;go_wp2_with fail;go_ret;(have ho:wO R.l i 2=some [60]:=by rw[←Dn.o];simp[opsL,HB.o]);unfold pI;rw[ho];exact⟨rfl,HR4.o,((dF.o.mono fe).trans rG.o).trans jv.o⟩
    |false=>
     have HB:=ai hb;clear hb;refine(dX R HL.o ⟨#[60]⟩ _ i d HR.o dc HB.o).mono ?_;rintro e w4 ⟨rfl,hr4,h4⟩;have HR4:=ai hr4;have jv:=ai h4;(have yZ:Hid (((opsL 2).drop 2).find? (bH R.l i)=wO R.l i 2):=by show _=_;rw[←Dn.o];simp[opsL,HB.o]);clear hr4 h4 f0 p0;go_wp2_with fail;go_roundg (gk-1);case rel=>exact⟨2,rfl,by omega,by omega,yZ.o,HR4.o,HST.o.trans jv.o⟩
     case measure=>omega
   ·clear p0;go_wp2_with fail;go_ret;(have ho:wO R.l i 2=none:=by rw[←Dn.o];rfl);unfold pI;rw[ho];exact⟨rfl,HR.o,(dF.o.mono fe).trans rG.o⟩
 ·clear hn;go_enter Tryz.func109,Tryz.ntmps109;go_upto_region 1 with fail
  rw[←HW1.o];go_wp2_with fail;refine(qy w1).mono ?_;rintro e w2 ⟨⟨g0,g1,g2,g3,g4,rfl,hc⟩,h2⟩;have H2:=ai (H1.o.quiet h2);have HC:=ai hc;have HS2:=ai h2;have YZ:=dF.o.size;have Vm:Hid (g0=R.rb→False):=by show _→_;have:=HC.o.2.2.2.2.2.2.2.2.1;omega
  have Vo:Hid (g1=R.rb→False):=by show _→_;have:=HC.o.2.2.2.2.2.2.2.2.2.1;omega
  have Sr:Hid (g2=R.rb→False):=by show _→_;have:=HC.o.2.2.2.2.2.2.2.2.2.2.1;omega
  have Sz:Hid (g3=R.rb→False):=by show _→_;have:=HC.o.2.2.2.2.2.2.2.2.2.2.2.1;omega
  have SA:Hid (g4=R.rb→False):=by show _→_;have:=HC.o.2.2.2.2.2.2.2.2.2.2.2.2;omega
  have hix:∀(a0 a1 a2 a3 a4:Value) (w:World),(Instr.index 171 (.agg #[a0,a1,a2,a3,a4]) (.int .i64 3)).run Tryz.prog w=.ok a3 w:=fun _ _ _ _ _ _=>by kernel_rfl
  clear hc h2;go_wp2_with fail;go_loopg [6,11] 2 (fun gg s6 s11 wr=>∃k:Nat,s11=.int .i64 k∧k≤2∧2-k≤gg∧((opsL 3).drop k).find? (bH R.l i)=wO R.l i 3∧bD R wr i d∧Step (·=R.rb) w2 wr);case atStart=>exact⟨0,rfl,Nat.zero_le _,by omega,rfl,H2.o,Step.refl _ _⟩
  case round=>
   obtain⟨k,rfl,hk,hgg,hfd,hr,hst⟩:=hrel;have Dn:=ai hfd;have HR:=ai hr;have HST:=ai hst;have rG:Hid (Step (·=R.rb) w1 wr):=(HS2.o.mono fe).trans hst;have p0:=dh.o wr rG.o;clear hfd hr hst;rcases(show k=0∨k=1∨k=2 by omega)with rfl|rfl|rfl
   ·have f0:wr.cell? ⟨g3,0,none⟩=some (.string ⟨#[43]⟩):=HST.o.cell (HC.o.2.2.2.2.1) (fun e=>Sz.o e);go_wp2_with fail;cases hb:bH R.l i [43]with
    |true=>have HB:=ai hb;clear hb;refine(dw R HL.o ⟨#[43]⟩ _ i d HR.o dc HB.o).mono ?_;rintro e w4 ⟨rfl,hr4,h4⟩;have HR4:=ai hr4;have jv:=ai h4;clear hr4 h4 f0 p0;go_wp2_with fail;go_ret;(have ho:wO R.l i 3=some [43]:=by rw[←Dn.o];simp[opsL,HB.o]);unfold pI;rw[ho];exact⟨rfl,HR4.o,((dF.o.mono fe).trans rG.o).trans jv.o⟩
    |false=>
     have HB:=ai hb;clear hb;refine(dX R HL.o ⟨#[43]⟩ _ i d HR.o dc HB.o).mono ?_;rintro e w4 ⟨rfl,hr4,h4⟩;have HR4:=ai hr4;have jv:=ai h4;(have yZ:Hid (((opsL 3).drop 1).find? (bH R.l i)=wO R.l i 3):=by show _=_;rw[←Dn.o];simp[opsL,HB.o]);clear hr4 h4 f0 p0;go_wp2_with fail;go_roundg (gk-1);case rel=>exact⟨1,rfl,by omega,by omega,yZ.o,HR4.o,HST.o.trans jv.o⟩
     case measure=>omega
   ·have f0:wr.cell? ⟨g3,1,none⟩=some (.string ⟨#[45]⟩):=HST.o.cell (HC.o.2.2.2.2.2.1) (fun e=>Sz.o e);go_wp2_with fail;cases hb:bH R.l i [45]with
    |true=>have HB:=ai hb;clear hb;refine(dw R HL.o ⟨#[45]⟩ _ i d HR.o dc HB.o).mono ?_;rintro e w4 ⟨rfl,hr4,h4⟩;have HR4:=ai hr4;have jv:=ai h4;clear hr4 h4 f0 p0;go_wp2_with fail;go_ret;(have ho:wO R.l i 3=some [45]:=by rw[←Dn.o];simp[opsL,HB.o]);unfold pI;rw[ho];exact⟨rfl,HR4.o,((dF.o.mono fe).trans rG.o).trans jv.o⟩
    |false=>
     have HB:=ai hb;clear hb;refine(dX R HL.o ⟨#[45]⟩ _ i d HR.o dc HB.o).mono ?_;rintro e w4 ⟨rfl,hr4,h4⟩;have HR4:=ai hr4;have jv:=ai h4;(have yZ:Hid (((opsL 3).drop 2).find? (bH R.l i)=wO R.l i 3):=by show _=_;rw[←Dn.o];simp[opsL,HB.o]);clear hr4 h4 f0 p0;go_wp2_with fail;go_roundg (gk-1);case rel=>exact⟨2,rfl,by omega,by omega,yZ.o,HR4.o,HST.o.trans jv.o⟩
     case measure=>omega
   ·clear p0;go_wp2_with fail;go_ret;(have ho:wO R.l i 3=none:=by rw[←Dn.o];rfl);unfold pI;rw[ho];exact⟨rfl,HR.o,(dF.o.mono fe).trans rG.o⟩
 ·clear hn;go_enter Tryz.func109,Tryz.ntmps109;go_upto_region 1 with fail
  rw[←HW1.o];go_wp2_with fail;refine(qy w1).mono ?_;rintro e w2 ⟨⟨g0,g1,g2,g3,g4,rfl,hc⟩,h2⟩;have H2:=ai (H1.o.quiet h2);have HC:=ai hc;have HS2:=ai h2;have YZ:=dF.o.size;have Vm:Hid (g0=R.rb→False):=by show _→_;have:=HC.o.2.2.2.2.2.2.2.2.1;omega
  have Vo:Hid (g1=R.rb→False):=by show _→_;have:=HC.o.2.2.2.2.2.2.2.2.2.1;omega
  have Sr:Hid (g2=R.rb→False):=by show _→_;have:=HC.o.2.2.2.2.2.2.2.2.2.2.1;omega
  have Sz:Hid (g3=R.rb→False):=by show _→_;have:=HC.o.2.2.2.2.2.2.2.2.2.2.2.1;omega
  have SA:Hid (g4=R.rb→False):=by show _→_;have:=HC.o.2.2.2.2.2.2.2.2.2.2.2.2;omega
  have hix:∀(a0 a1 a2 a3 a4:Value) (w:World),(Instr.index 171 (.agg #[a0,a1,a2,a3,a4]) (.int .i64 4)).run Tryz.prog w=.ok a4 w:=fun _ _ _ _ _ _=>by kernel_rfl
  clear hc h2;go_wp2_with fail;go_loopg [6,11] 2 (fun gg s6 s11 wr=>∃k:Nat,s11=.int .i64 k∧k≤2∧2-k≤gg∧((opsL 4).drop k).find? (bH R.l i)=wO R.l i 4∧bD R wr i d∧Step (·=R.rb) w2 wr);case atStart=>exact⟨0,rfl,Nat.zero_le _,by omega,rfl,H2.o,Step.refl _ _⟩
  case round=>
   obtain⟨k,rfl,hk,hgg,hfd,hr,hst⟩:=hrel;have Dn:=ai hfd;have HR:=ai hr;have HST:=ai hst;have rG:Hid (Step (·=R.rb) w1 wr):=(HS2.o.mono fe).trans hst;have p0:=dh.o wr rG.o;clear hfd hr hst;rcases(show k=0∨k=1∨k=2 by omega)with rfl|rfl|rfl
   ·have f0:wr.cell? ⟨g4,0,none⟩=some (.string ⟨#[42]⟩):=HST.o.cell (HC.o.2.2.2.2.2.2.1) (fun e=>SA.o e);go_wp2_with fail;cases hb:bH R.l i [42]with
    |true=>have HB:=ai hb;clear hb;refine(dw R HL.o ⟨#[42]⟩ _ i d HR.o dc HB.o).mono ?_;rintro e w4 ⟨rfl,hr4,h4⟩;have HR4:=ai hr4;have jv:=ai h4;clear hr4 h4 f0 p0;go_wp2_with fail;go_ret;(have ho:wO R.l i 4=some [42]:=by rw[←Dn.o];simp[opsL,HB.o]);unfold pI;rw[ho];exact⟨rfl,HR4.o,((dF.o.mono fe).trans rG.o).trans jv.o⟩
    |false=>
     have HB:=ai hb;clear hb;refine(dX R HL.o ⟨#[42]⟩ _ i d HR.o dc HB.o).mono ?_;rintro e w4 ⟨rfl,hr4,h4⟩;have HR4:=ai hr4;have jv:=ai h4;(have yZ:Hid (((opsL 4).drop 1).find? (bH R.l i)=wO R.l i 4):=by show _=_;rw[←Dn.o];simp[opsL,HB.o]);clear hr4 h4 f0 p0;go_wp2_with fail;go_roundg (gk-1);case rel=>exact⟨1,rfl,by omega,by omega,yZ.o,HR4.o,HST.o.trans jv.o⟩
     case measure=>omega
   ·have f0:wr.cell? ⟨g4,1,none⟩=some (.string ⟨#[47]⟩):=HST.o.cell (HC.o.2.2.2.2.2.2.2.1) (fun e=>SA.o e);go_wp2_with fail;cases hb:bH R.l i [47]with
    |true=>have HB:=ai hb;clear hb;refine(dw R HL.o ⟨#[47]⟩ _ i d HR.o dc HB.o).mono ?_;rintro e w4 ⟨rfl,hr4,h4⟩;have HR4:=ai hr4;have jv:=ai h4;clear hr4 h4 f0 p0;go_wp2_with fail;go_ret;(have ho:wO R.l i 4=some [47]:=by rw[←Dn.o];simp[opsL,HB.o]);unfold pI;rw[ho];exact⟨rfl,HR4.o,((dF.o.mono fe).trans rG.o).trans jv.o⟩
    |false=>
     have HB:=ai hb;clear hb;refine(dX R HL.o ⟨#[47]⟩ _ i d HR.o dc HB.o).mono ?_;rintro e w4 ⟨rfl,hr4,h4⟩;have HR4:=ai hr4;have jv:=ai h4;(have yZ:Hid (((opsL 4).drop 2).find? (bH R.l i)=wO R.l i 4):=by show _=_;rw[←Dn.o];simp[opsL,HB.o]);clear hr4 h4 f0 p0;go_wp2_with fail;go_roundg (gk-1);case rel=>exact⟨2,rfl,by omega,by omega,yZ.o,HR4.o,HST.o.trans jv.o⟩
     case measure=>omega
   ·clear p0;go_wp2_with fail;go_ret;(have ho:wO R.l i 4=none:=by rw[←Dn.o];rfl);unfold pI;rw[ho];exact⟨rfl,HR.o,(dF.o.mono fe).trans rG.o⟩
end Go.Proofs.YtggjfinekcenpaaGreat
