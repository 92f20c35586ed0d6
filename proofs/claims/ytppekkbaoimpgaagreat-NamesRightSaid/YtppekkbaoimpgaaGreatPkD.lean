import Derived.Test.YtppekkbaoimpgaaGreatPkC
import Derived.Deep.RegionHeld3
set_option maxRecDepth 100000
set_option maxHeartbeats 80000000
namespace Go.Proofs.YtppekkbaoimpgaaGreat
open Go.RowKit
open Vt
theorem Tryz.rW:(Tryz.prog.info? 9).map (fun i=>(i.zero,i.size,i.bytes))=some (some (.string ⟨#[]⟩),1,16):=by kernel_rfl
theorem Tryz.SB:(Tryz.prog.info? 46).map (fun i=>(i.zero,i.size,i.bytes))=some (some (.agg #[ak 0,di,di,aT,ay,ay,ak 0,ak 0]),8,112):=by kernel_rfl
theorem jM {w w':World} {base:Nat} {e:TypeId} {size:Nat} {v:Value} {n:Nat} {xs:List Value} {S:Nat→Prop} (h:w.ownsRow base e size v n xs) (hs:Step S w w') (hn:∀q,v.ownBlock=some q→¬S q):w'.ownsRow base e size v n xs:=by
 refine⟨h.1,?_⟩;rcases h.2 with hz|⟨g,cap,cur,rfl,hb,hgg,rest⟩
 ·exact .inl hz
 ·exact .inr ⟨g,cap,cur,rfl,hb,hs.keep hgg (hn g rfl),rest⟩
structure rX (R:gJ) (w1:World) (bt:Nat) (k:Int) (nm:ByteArray) (t:Tok) (d:Nat) (X:World) (i':Nat) (ls:List ByteArray) (ts:List Ty) (vl va:Value) (xs:List Value):Prop where
 rd:bI R X i' d
 blk:X.heap[bt]?=some (.cells #[ak k,a_ nm,aO,aT,vl,va,ak t.line,ak t.col] 46 (0,0))
 ol:X.ownsRow w1.heap.size 9 1 vl ls.length (ls.map .string)
 oa:X.ownsRow w1.heap.size 46 8 va ts.length xs
 el:gy X (fun q=>w1.heap.size≤q∧va.ownBlock≠some q∧vl.ownBlock≠some q) ts xs
 ne:∀q,vl.ownBlock=some q→va.ownBlock≠some q
 sz:∀s∈ls,s.size≤9223372036854775807
 few:ls.length+ts.length≤9
 st:Step (fun k=>k=R.rb∨k=bt) w1 X
theorem rX.quiet {R:gJ} {w1:World} {bt:Nat} {k:Int} {nm:ByteArray} {t:Tok} {d:Nat} {X X':World} {i':Nat} {ls:List ByteArray} {ts:List Ty} {vl va:Value} {xs:List Value} (h:rX R w1 bt k nm t d X i' ls ts vl va xs) (hs:StF X X'):rX R w1 bt k nm t d X' i' ls ts vl va xs:=
 ⟨h.rd.quiet hs,hs.keep h.blk (fun h=>h),hs.owns h.ol (fun _ _ h=>h),hs.owns h.oa (fun _ _ h=>h),gy.step hs (fun _ _ h=>h) _ _ h.el,h.ne,h.sz,h.few,h.st.trans (hs.mono fe)⟩
theorem rX.read {R:gJ} {w1:World} {bt:Nat} {k:Int} {nm:ByteArray} {t:Tok} {d:Nat} {X X':World} {i' i2:Nat} {ls:List ByteArray} {ts:List Ty} {vl va:Value} {xs:List Value} (h:rX R w1 bt k nm t d X i' ls ts vl va xs) (hrb:R.rb<bt) (hw:R.rb<w1.heap.size) (hr:bI R X' i2 d) (hs:Step (·=R.rb) X X'):rX R w1 bt k nm t d X' i2 ls ts vl va xs:=
 ⟨hr,hs.keep h.blk om,hs.owns h.ol oi,hs.owns h.oa oi,gy.step hs (fun _ hk h=>by have:=hk.1;omega) _ _ h.el,h.ne,h.sz,h.few,h.st.trans (hs.mono il)⟩
theorem rX.pushL {R:gJ} {w1:World} {bt:Nat} {k:Int} {nm:ByteArray} {t:Tok} {d:Nat} {X X2 X3:World} {i':Nat} {ls:List ByteArray} {ts:List Ty} {vl va v9:Value} {xs:List Value} {s:ByteArray} (h:rX R w1 bt k nm t d X i' ls ts vl va xs) (hrb:R.rb<bt) (hbt:bt<w1.heap.size) (h2:StF X X2) (hown:X3.ownsRow w1.heap.size 9 1 v9 (ls.length+1) (ls.map .string++[.string s])) (hgrow:X2.grownBy X3 vl.ownBlock) (hat:v9.ownBlock=vl.ownBlock∨v9.ownBlock=some X2.heap.size) (hs:s.size≤9223372036854775807) (hlt:ls.length+ts.length<8):rX R w1 bt k nm t d (X3.setCell ⟨bt,4,none⟩ v9) i' (ls++[s]) ts v9 va xs:=by
 have h3:Step (fun q=>vl.ownBlock=some q) X2 X3:=bQ hgrow;have h4:Step (·=bt) X3 (X3.setCell ⟨bt,4,none⟩ v9):=bK.setCell _ _ iW;have ho:∀q,vl.ownBlock=some q→w1.heap.size≤q∧q<X.heap.size:=fun q hq=>h.ol.lt q hq;have hlen:(ls++[s]).length=ls.length+1:=by simp
 have hb3:=h3.keep (h2.keep h.blk (fun h=>h)) (fun e=>by have:=(ho bt e).1;omega);refine⟨((h.rd.quiet h2).step h3 (fun q hq e=>by have:=(ho q e).1;omega)).step h4 oi,aW hb3 4 v9,?_,?_,?_,?_,?_,by rw[hlen];omega,?_⟩
 ·rw[hlen,List.map_append];exact jM hown h4 (fun q hq e=>by have:=(hown.lt q hq).1;omega)
 ·refine jM (jM (h2.owns h.oa (fun _ _ h=>h)) h3 (fun q hq e=>h.ne q e hq)) h4 (fun q hq e=>by have:=(h.oa.lt q hq).1;omega)
 ·have h5:=gy.mono (P':=fun q=>(w1.heap.size≤q∧va.ownBlock≠some q∧vl.ownBlock≠some q)∧q<X.heap.size) (fun q h7 h8=>⟨h8,h7⟩) _ _ h.el;have h6:=gy.step h4 (fun q hq e=>by have:=hq.1.1;omega) _ _ (gy.step h3 (fun q hq e=>hq.1.2.2 e) _ _ (gy.step h2 (fun _ _ h=>h) _ _ h5));refine gy.mono (fun q _ hq=>⟨hq.1.1,hq.1.2.1,fun e=> ?_⟩) _ _ h6;rcases hat with h7|h7
  ·exact hq.1.2.2 (by rw[←h7];exact e)
  ·rw[h7]at e;have e2:X2.heap.size=q:=Option.some.inj e;have:=h2.size;have:=hq.2;omega
 ·intro q hq e;rcases hat with h7|h7
  ·exact h.ne q (by rw[←h7];exact hq) e
  ·rw[h7]at hq;have e2:X2.heap.size=q:=Option.some.inj hq;have:=(h.oa.lt q e).2;have:=h2.size;omega
 ·intro x hx;rcases List.mem_append.1 hx with hx|hx
  ·exact h.sz x hx
  ·rw[List.mem_singleton.1 hx];exact hs
 ·refine((h.st.trans (h2.mono fe)).then h3 (fun q hq e=>by have:=(ho q e).1;omega)).trans (h4.mono ir)
theorem SC (f:Nat) (ih:∀f',f'<f→qR f'):Fp f:=by
 intro R w i d bt k nm t hl h hd hrb hbt hno;have HL:=au hl;have H0:=au h;have eX:=au hno;have IH:=au ih;obtain⟨r,hr⟩:=aN (DU f R.l i d);have HRR:=au hr;rw[←hr]at hno⊢;have eX:=au hno;have hbl:=aK hbt;obtain⟨w1,hw1⟩:=aN (w.alloc (.cells #[eU R.rb 0] 97));have dH:=nS hw1
 have kL:=nB hw1
 have H7:=au (dH.o.keep hbt (fun h=>h));have HW1:=au hw1;have H1:=au (h.quiet dH.o);have hw1s:=aK kL.o;have cZ:Hid (∀X:World,Step (fun k=>k=R.rb∨k=bt) w1 X→X.cell? ⟨w.heap.size,0,none⟩=some (.pointer (some ⟨R.rb,0,none⟩))):=fun X hX=>aj (hX.keep kL.o om) 0 _ rfl
 have p0:=cZ.o w1 bK;obtain⟨i0,hi0,hz0,hz1,hz2⟩:=info_parts Tryz.rW;have HI:=au hi0;have HZ0:=au hz0;have HZ1:=au hz1;have HZ2:=au hz2;obtain⟨j0,hj0,hy0,hy1,hy2⟩:=info_parts Tryz.SB;have HJ:=au hj0;have HY0:=au hy0;have HY1:=au hy1;have HY2:=au hy2;clear ih hl h hno hr hbt hw1 hi0 hz0 hz1 hz2 hj0 hy0 hy1 hy2;go_enter Tryz.func115,Tryz.ntmps115;go_upto_region 1 with fail
 rw[←HW1.o];go_wp2_with fail;cases hb:bF R.l i [60]with
 |false=>have HB:=au hb;clear hb;refine(dQ R HL.o ⟨#[60]⟩ _ i d H1.o dc HB.o).mono ?_;rintro e w2 ⟨rfl,hr2,h2⟩;have HR2:=au hr2;have HS2:=au h2;clear hr2 h2 p0;go_wp2_with fail;refine bodyPost_ret (results_none rfl _ _ _) rfl ?_;rw[HRR.o,DU,HB.o,if_neg dc];exact⟨rfl,⟨.slice none 0 0,.slice none 0 0,[],HS2.o.keep H7.o om,lu,cu.nil _ _ _,by rw[gy],cu.nil _ _ _⟩,HR2.o,((dH.o.mono fe).trans HS2.o).mono il⟩
 |true=>
  have HB:=au hb;have oK:Hid (r=lQ f R.l (i+1) d [] []):=by show _=_;rw[HRR.o,DU,hb,if_pos rfl]
  clear hb;refine(dA R HL.o ⟨#[60]⟩ _ i d H1.o dc HB.o).mono ?_;rintro e w2 ⟨rfl,hr2,h2⟩;have HR2:=au hr2;have HS2:=au h2;have rM:=au (h2.keep H7.o om);clear hr2 h2 p0;go_wp2_with fail;go_loopg [] f (fun gg wr=>gg≤f∧∃(i':Nat) (ls:List ByteArray) (ts:List Ty) (vl va:Value) (xs:List Value),r=lQ gg R.l i' d ls ts∧rX R w1 bt k nm t d wr i' ls ts vl va xs);case atStart=>exact⟨Nat.le_refl _,i+1,[],[],.slice none 0 0,.slice none 0 0,[],oK.o,HR2.o,rM.o,World.ownsRow_nil _ _ _ _,World.ownsRow_nil _ _ _ _,by rw[gy],lu,lu,by simp,HS2.o.mono il⟩
  case round=>
   obtain⟨hgf,i',ls,ts,vl,va,xs,hrq,hst⟩:=hrel;have HRQ:=au hrq;have HST:=au hst;obtain⟨gn,rfl⟩:∃gn,gk=gn+1:=by
    cases gk with
    |zero=>exact absurd hrq (by rw[lQ];exact eX.o)
    |succ gn=>exact⟨gn,rfl⟩
   obtain⟨H8,H9,rfl⟩:=aV hst.ol;obtain⟨sU,sV,rfl⟩:=aV hst.oa;have p0:=cZ.o wr hst.st;have CZ:=aj hst.blk 4 _ rfl;have zT:=aj hst.blk 5 _ rfl;have hfew:=hst.few;(have vI:Hid (r=(eY (ls.length+ts.length) 8 R.l i').bind fun _ i=>(if(tokA R.l i).kind=2∧ts.length=0 then(jw R.l i).bind fun x j=>.ok (ls++[x],ts) j else(jY gn R.l i d).bind fun x j=>.ok (ls,ts++[x]) j).bind fun p j=>if bF R.l j [44]then lQ gn R.l (j+1) d p.1 p.2 else(aH R.l j [62]).bind fun _ j=>.ok p j):=by show _=_;rw[HRQ.o,lQ]);clear hrq hst;(go_upto_region 2 with fail);go_still_tail 12,kr;change wpList _ _ _ _ _ wr.drew;have vZ:Hid (rX R w1 bt k nm t d wr.drew i' ls ts (.slice H8 ls.length H9) (.slice sU ts.length sV) xs):=HST.o.quiet (bK.drew);obtain⟨wd,hwd⟩:=aN wr.drew;rw[←hwd]at vZ⊢;(have HX0:Hid (StF wr wd):=by rw[hwd];exact bK.drew);clear hwd p0 CZ zT;have p0:=cZ.o wd vZ.o.st;have CZ:=aj vZ.o.blk 4 _ rfl;have zT:=aj vZ.o.blk 5 _ rfl;(have el1:IntKind.i64.wrap ((ls.length:Int)+(ts.length:Int))=((ls.length+ts.length:Nat):Int):=by rw[show((ls.length:Int)+(ts.length:Int))=((ls.length+ts.length:Nat):Int) by omega];exact IntWalk.i64_in _ om);go_wp2_with fail;have hrm:Calls Tryz.prog 84 #[.agg #[eU R.rb 0],.int .i64 ((ls.length:Int)+(ts.length:Int)),.int .i64 8] wd (aJ R d iQ (eY (ls.length+ts.length) 8 R.l i') wd):=nH R wd (ls.length+ts.length) 8 i' d vZ.o.rd;have HRM:=au hrm;clear hrm;refine HRM.o.mono ?_;rintro e w3 hp;cases hn:eY (ls.length+ts.length) 8 R.l i' with
   |out=>exact(lH hn).elim
   |err c ln col=>rw[hn]at hp;obtain⟨rfl,s3⟩:=hp;refine⟨rfl,?_⟩;rw[vI.o,hn];exact⟨rfl,((dH.o.mono fe).trans (vZ.o.st)).trans (s3.mono il)⟩
   |ok u j=>
    have hji:j=i'∧ls.length+ts.length<8:=by
     unfold eY at hn;split at hn
     ·cases hn
     ·cases hn;exact⟨rfl,by omega⟩
    obtain⟨rfl,JK⟩:=hji;have HN:=au hn;rw[hn]at hp;obtain⟨⟨v,rfl,rfl⟩,hr3,s3⟩:=hp;have gu:=au (vZ.o.read hrb om hr3 s3);(have mY:Hid (r=(if(tokA R.l j).kind=2∧ts.length=0 then(jw R.l j).bind fun x j=>.ok (ls++[x],ts) j else(jY gn R.l j d).bind fun x j=>.ok (ls,ts++[x]) j).bind fun p j=>if bF R.l j [44]then lQ gn R.l (j+1) d p.1 p.2 else(aH R.l j [62]).bind fun _ j=>.ok p j):=by show _=_;rw[vI.o,HN.o];rfl);clear hn hr3 s3 p0 CZ zT;have p0:=cZ.o w3 gu.o.st;have zT:=aj gu.o.blk 5 _ rfl;(have hfd0:∀(a0 a1 a2 a3 a4:Value) (w:World),(Instr.field 157 (.agg #[a0,a1,a2,a3,a4]) 0).run Tryz.prog w=.ok a0 w:=fun _ _ _ _ _ _=>by kernel_rfl);obtain⟨tk,htk⟩:=aN (tokA R.l j);have LH:=au htk;have HPK:=au (lN R w3 j d tk gu.o.rd (by rw[htk];exact gu.o.rd.tok));clear htk;obtain⟨bz,hbz⟩:∃bz,((ts.length:Int)==0)=bz:=⟨_,rfl⟩;obtain⟨bk,hbk⟩:∃bk,((tk.kind:Int)==2)=bk:=⟨_,rfl⟩;have HBZ:=au hbz;have gK:=au hbk;(go_upto_region 3 with fail);go_cut [33] (fun s33 wx=>s33=.bool (bk&&bz)∧rX R w1 bt k nm t d wx j ls ts (.slice H8 ls.length H9) (.slice sU ts.length sV) xs);case first=>
     go_wp2_with fail;refine HPK.o.mono ?_;rintro e w4 ⟨rfl,s4⟩;have fC:=au (gu.o.quiet s4);clear s4 p0 zT;have p0:=cZ.o w4 fC.o.st;have zT:=aj fC.o.blk 5 _ rfl;cases bk with
     |false=>go_wp2_with fail;go_meet;case rel=>exact⟨rfl,fC.o⟩
     |true=>go_wp2_with fail;go_meet;case rel=>exact⟨rfl,fC.o⟩
    case rest=>
     obtain⟨rfl,xG⟩:=hcut;obtain⟨w4,rfl⟩:=aN wc;have fC:=au xG;(have Y8:Hid ((bk&&bz)=decide ((tokA R.l j).kind=2∧ts.length=0)):=by show _=_;rw[←gK.o,←HBZ.o,LH.o,kQ _ 2 2 rfl,kQ _ 0 0 rfl,Bool.eq_iff_iff];simp);obtain⟨bc,hbc⟩:=aN (bk&&bz);rw[←hbc]at Y8⊢;clear xG hbc hbz hbk p0 zT;(go_upto_if 33 with fail);go_cut [] (fun wx=>∃(i2:Nat) (Vp:List ByteArray) (Vq:List Ty) (vl2 OY:Value) (Oy:List Value),r=(if bF R.l i2 [44]then lQ gn R.l (i2+1) d Vp Vq else(aH R.l i2 [62]).bind fun _ j=>.ok (Vp,Vq) j)∧rX R w1 bt k nm t d wx i2 Vp Vq vl2 OY Oy);case first=>
      cases bc with
      |true=>
       obtain⟨hk2,hz2⟩:=of_decide_eq_true Y8.o.symm;(have IV:Hid (jw R.l j=.ok (AQ (tokA R.l j).text) (j+1)):=by show _=_;unfold jw;rw[if_pos hk2]);obtain⟨s,hs⟩:=aN (AQ (tokA R.l j).text);(have HSS:Hid (s.size≤9223372036854775807):=by rw[hs];exact MB HL.o fC.o.rd.lt);rw[←hs]at IV;(have IW:Hid (r=(if bF R.l (j+1) [44]then lQ gn R.l (j+1+1) d (ls++[s]) ts else(aH R.l (j+1) [62]).bind fun _ j=>.ok (ls++[s],ts) j)):=by show _=_;rw[mY.o,if_pos ⟨hk2,hz2⟩,IV.o];rfl);clear hk2 hz2 hs;(have HLIFE:Hid (∀X,bI R X j d→Calls Tryz.prog 114 #[.agg #[eU R.rb 0]] X fun e w'=>e=.returned (.string s)∧bI R w' (j+1) d∧Step (·=R.rb) X w'):=by intro X hX;refine(xM R HL.o X j d hX).mono ?_;intro e w' hp;rw[IV.o]at hp;obtain⟨⟨v,he,hv⟩,h1,h2⟩:=hp;exact⟨by rw[he,hv],h1,h2⟩);have p0:=cZ.o w4 fC.o.st;have CZ:=aj fC.o.blk 4 _ rfl;(go_upto_region 4 with fail);first
       |(go_region_law (first
           |(refine n_ _ rfl (w8.heap.size+1) (.tmp 38) (.tmp 41) 40 rfl w1.heap.size 9 i0 (.string ⟨#[]⟩) 1 16 Tryz.underlying40 HI.o HZ0.o HZ1.o HZ2.o rfl dc _ _ _ (by simp[Act.eval]) Vr.o _ 1 _ (by simp[Act.eval]) MK.o rfl ML.o (by unfold maxLen;omega) om Vs.o ?_;intro v9 w9 gZ gU pF;obtain⟨a9,c9,rfl⟩:=aV gZ;have lI:Hid (rX R w1 bt k nm t d (w9.setCell ⟨bt,4,none⟩ (.slice a9 (ls.length+1) c9)) (j+1) (ls++[s]) ts (.slice a9 (ls.length+1) c9) (.slice sU ts.length sV) xs):=jO.o.pushL hrb om (bK.alloc _) gZ gU pF HSS.o JK;have hbb:=(bQ gU).keep (aP (o':=.cells #[a_ s] 9) jO.o.blk) (fun e=>by have:=(jO.o.ol.lt _ e).1;omega);have bt4':=aj hbb 4 _ rfl;have bz4':=aI hbb 4;clear hbb gZ gU pF)
           |(go_simp;go_at_call 114;refine(HLIFE.o _ (fC.o.rd.quiet (bK.drew))).mono ?_;rintro e8 w8 ⟨rfl,vW,hs8⟩;have jO:=au ((fC.o.quiet (bK.drew)).read hrb om vW hs8);have Vr:Hid ((w8.alloc (.cells #[a_ s] 9)).ownsRow w1.heap.size 9 1 (.slice H8 ls.length H9) ls.length (ls.map .string)):=jO.o.ol.alloc _;have MK:Hid (Row (w8.alloc (.cells #[a_ s] 9)) (w8.heap.size+1) (.slice (some ⟨w8.heap.size,0,none⟩) 1 1) 1 [.string s]):=Row.new (aC _ _) dc;have ML:Hid (∀u∈[Value.string s],u.oneCell'=true):=by
              show∀u∈_,_
              intro u hu
              simp at hu
              subst hu;rfl
             have Vs:Hid (w1.heap.size≤(w8.alloc (.cells #[a_ s] 9)).heap.size):=by
              show _≤_
              have:=jO.o.st.size
              simp;omega
             have bt48:=aj jO.o.blk 4 _ rfl
             have bt49:=aj (aP (o':=.cells #[a_ s] 9) jO.o.blk) 4 _ rfl
             clear vW hs8)))
       |fail
       all_goals (
        clear p0 CZ
        go_wp2_with fail
        go_meet
        case rel=>exact⟨j+1,ls++[s],ts,_,_,xs,IW.o,lI.o⟩)
      |false=>
       have hcn:¬((tokA R.l j).kind=2∧ts.length=0):=of_decide_eq_false Y8.o.symm;(have IW:Hid (r=(jY gn R.l j d).bind fun x i2=>if bF R.l i2 [44]then lQ gn R.l (i2+1) d ls (ts++[x])else(aH R.l i2 [62]).bind fun _ j=>.ok (ls,ts++[x]) j):=by show _=_;rw[mY.o,if_neg hcn];cases jY gn R.l j d<;>rfl);clear hcn;have Ef:Hid (∀X:World,Step (fun q=>q=R.rb∨q=bt∨(Value.slice sU ts.length sV).ownBlock=some q) w4 X→X.cell? ⟨w.heap.size,0,none⟩=some (.pointer (some ⟨R.rb,0,none⟩))):=by
        show∀X,_;intro X hX;refine hX.cell (cZ.o w4 fC.o.st) (fun e=> ?_);have e2:w.heap.size=R.rb∨w.heap.size=bt∨(Value.slice sU ts.length sV).ownBlock=some w.heap.size:=e;rcases e2 with e2|e2|e2
        ·omega
        ·omega
        ·have:=(fC.o.oa.lt _ e2).1;omega
       obtain⟨zsT,hzsT⟩:∃zsT,zsT=[Value.int .i64 0,di,di,aT,ay,ay,ak 0,ak 0]:=⟨_,rfl⟩;(have HO:Hid (zA R w4 5 7 8 9 10 13 bt w1.heap.size 8 ts.length (.slice sU ts.length sV) xs zsT):=by show zA _ _ _ _ _ _ _ _ _ _ _ _ _ _ _;refine⟨by decide,by decide,by decide,by decide,by decide,by decide,by decide,by decide,by decide,hrb,by omega,fC.o.st.size,fun q hq=>fC.o.oa.lt q hq,fC.o.el.len,by rw[hzsT];rfl⟩);subst hzsT;(have Vu:Hid (∀u∈[Value.int .i64 0,di,di,aT,ay,ay,ak 0,ak 0],u.oneCell'=true):=by intro u hu;simp at hu;rcases hu with rfl|rfl|rfl|rfl|rfl|rfl|rfl|rfl<;>rfl);(have hlts:ts.length≤9:=by omega);cases hx:jY gn R.l j d with
       |out=>exact absurd (by rw[IW.o,hx];rfl) eX.o
       |err c ln col=>
        have HX:=au hx;clear hx;obtain⟨ty,-⟩:∃ty:Ty,ty=dR:=⟨_,rfl⟩;obtain⟨j2,-⟩:∃j2,j2=j:=⟨_,rfl⟩;have HE:Hid (A7 (fun w P cs=>iC w P ty cs)):=TyEl ty;have xO:Hid (∀V,jR R j j2 d w4 5 7 8 9 10 13 bt (fun v=>.cells #[ak k,a_ nm,aO,aT,.slice H8 ls.length H9,v,ak t.line,ak t.col] 46 (0,0)) w1.heap.size 46 8 ts.length (.slice sU ts.length sV) xs [Value.int .i64 0,di,di,aT,ay,ay,ak 0,ak 0] (fun w P cs=>iC w P ty cs) [some (.pointer (some ⟨bt,0,none⟩)),some (.pointer (some ⟨bt,0,none⟩)),some (.pointer (some ⟨bt,5,none⟩)),some (.slice sU ts.length sV),some (.agg #[eU R.rb 0]),none,some (.int .i64 (ts.length:Int)),none,none,none,none,some (.pointer (some ⟨bt,0,none⟩)),some (.pointer (some ⟨bt,5,none⟩)),none] (fun _=>false) V w4.drew):=fun V=>jR.zero (bK.drew) fC.o.rd fC.o.oa fC.o.blk;(have xP:Hid (∀X,bI R X j d→Calls Tryz.prog 69 #[.agg #[eU R.rb 0]] X fun e wq=>e=.panicked [{v:=.iface 251 (.agg #[ak c,ak ln,ak col]),recovered:=false}]∧Step (·=R.rb) X wq):=by intro X hX;have h9:=IH.o gn om R X j d HL.o hX hd (by rw[HX.o];intro h;cases h);rw[HX.o]at h9;exact h9);have FB:Hid (∀X wq:World,Step (fun q=>q=R.rb∨q=bt∨(Value.slice sU ts.length sV).ownBlock=some q) w4 X→Step (·=R.rb) X wq→QD R d bt k nm t r w (.panicked [{v:=.iface 251 (.agg #[ak c,ak ln,ak col]),recovered:=false}]) wq):=by
         show∀X wq,_;intro X wq h1 h2;rw[IW.o,HX.o];refine⟨rfl,((dH.o.mono fe).trans fC.o.st).then (h1.trans (h2.mono il)) (fun q hq e=> ?_)⟩;rcases e with e|e|e
         ·exact .inl e
         ·exact .inr e
         ·have:=(fC.o.oa.lt _ e).1;have:=dH.o.size;omega
        (go_upto_region 5 with fail);refine bP kr (fun L V X=>jR R j j2 d w4 5 7 8 9 10 13 bt (fun v=>.cells #[ak k,a_ nm,aO,aT,.slice H8 ls.length H9,v,ak t.line,ak t.col] 46 (0,0)) w1.heap.size 46 8 ts.length (.slice sU ts.length sV) xs [Value.int .i64 0,di,di,aT,ay,ay,ak 0,ak 0] (fun w P cs=>iC w P ty cs) [some (.pointer (some ⟨bt,0,none⟩)),some (.pointer (some ⟨bt,0,none⟩)),some (.pointer (some ⟨bt,5,none⟩)),some (.slice sU ts.length sV),some (.agg #[eU R.rb 0]),none,some (.int .i64 (ts.length:Int)),none,none,none,none,some (.pointer (some ⟨bt,0,none⟩)),some (.pointer (some ⟨bt,5,none⟩)),none] L V X∧L 5=false) 14 rfl kr kr kr kr ?h0 ?hs ?hdone;case h0=>exact⟨xO.o _,rfl⟩
        case hs=>
         refine⟨?_,?_,?_,?_,?_,?_,?_,?_,?_,?_,?_,?_,?_,?_,trivial⟩
         all_goals intro L V X a ev dG hdf hL ax hJ
         ·have o1:=dG 1 rfl;change a.tmps[1]?.getD undef=.pointer (some ⟨bt,0,none⟩)at o1;go_simp;exact⟨_,rfl,⟨hJ.1.up 0 dc dc dc dc dc dc rfl,by rw[aF _ dc];exact hJ.2⟩⟩
         ·have e45:=(ev 0 45 rfl (ax 0 rfl)).trans (hJ.1.iK 0 _ rfl (ax 0 rfl));go_simp;exact⟨_,rfl,⟨hJ.1.up 1 dc dc dc dc dc dc rfl,by rw[aF _ dc];exact hJ.2⟩⟩
         ·have e46:=(ev 1 46 rfl (ax 1 rfl)).trans (hJ.1.iK 1 _ rfl (ax 1 rfl));go_simp;exact⟨_,rfl,⟨hJ.1.up 2 dc dc dc dc dc dc rfl,by rw[aF _ dc];exact hJ.2⟩⟩
         ·have e47:=(ev 2 47 rfl (ax 2 rfl)).trans (hJ.1.iK 2 _ rfl (ax 2 rfl));have hZ:=(hJ.1.JJ (hJ.1.Vo dc hL)).1;have hb:=hJ.1.blk;rw[hZ,if_neg dc]at hb;have q5:X.cell? ⟨bt,5,none⟩=some (.slice sU ts.length sV):=aj hb 5 _ rfl;go_simp;exact⟨_,rfl,⟨hJ.1.up 3 dc dc dc dc dc dc rfl,by rw[aF _ dc];exact hJ.2⟩⟩
         ·have o2:=dG 2 rfl;change a.tmps[2]?.getD undef=.pointer (some ⟨w.heap.size,0,none⟩)at o2;have p0:=Ef.o X hJ.1.st;go_simp;exact⟨_,rfl,⟨hJ.1.up 4 dc dc dc dc dc dc rfl,by rw[aF _ dc];exact hJ.2⟩⟩
         ·have e49:=(ev 4 49 rfl (ax 4 rfl)).trans (hJ.1.iK 4 _ rfl (ax 4 rfl));have hrd:=hJ.1.rd;rw[hL,if_neg dc]at hrd;go_simp;refine(xP.o X hrd).mono ?_;rintro e wq ⟨rfl,hs⟩;exact⟨hdf,FB.o X wq hJ.1.st hs⟩
         ·have e48:=(ev 3 48 rfl (ax 3 rfl)).trans (hJ.1.iK 3 _ rfl (ax 3 rfl));go_simp;exact⟨_,rfl,⟨hJ.1.up 6 dc dc dc dc dc dc rfl,by rw[aF _ dc];exact hJ.2⟩⟩
         ·have hu:=hJ.1.build HE.o HO.o hL rfl;go_simp;exact⟨_,rfl,⟨hu,by rw[aF _ dc];exact hJ.2⟩⟩
         ·have e48:=(ev 3 48 rfl (ax 3 rfl)).trans (hJ.1.iK 3 _ rfl (ax 3 rfl));exact absurd hJ.2 (by rw[ax 5 rfl];decide)
         ·have e51:=(ev 6 51 rfl (ax 6 rfl)).trans (hJ.1.iK 6 _ rfl (ax 6 rfl));exact absurd hJ.2 (by rw[ax 5 rfl];decide)
         ·exact absurd hJ.2 (by rw[ax 5 rfl];decide)
         ·have e45:=(ev 0 45 rfl (ax 0 rfl)).trans (hJ.1.iK 0 _ rfl (ax 0 rfl));go_simp;exact⟨_,rfl,⟨hJ.1.up 11 dc dc dc dc dc dc rfl,by rw[aF _ dc];exact hJ.2⟩⟩
         ·have e55:=(ev 11 55 rfl (ax 11 rfl)).trans (hJ.1.iK 11 _ rfl (ax 11 rfl));go_simp;exact⟨_,rfl,⟨hJ.1.up 12 dc dc dc dc dc dc rfl,by rw[aF _ dc];exact hJ.2⟩⟩
         ·have e56:=(ev 12 56 rfl (ax 12 rfl)).trans (hJ.1.iK 12 _ rfl (ax 12 rfl));exact absurd hJ.2 (by rw[ax 5 rfl];decide)
        case hdone=>intro L V X hall hJ;exact absurd hJ.2 (by rw[hall 5 dc];decide)
       |ok ty j2=>
        have HX:=au hx;clear hx;have HE:Hid (A7 (fun w P cs=>iC w P ty cs)):=TyEl ty;have xO:Hid (∀V,jR R j j2 d w4 5 7 8 9 10 13 bt (fun v=>.cells #[ak k,a_ nm,aO,aT,.slice H8 ls.length H9,v,ak t.line,ak t.col] 46 (0,0)) w1.heap.size 46 8 ts.length (.slice sU ts.length sV) xs [Value.int .i64 0,di,di,aT,ay,ay,ak 0,ak 0] (fun w P cs=>iC w P ty cs) [some (.pointer (some ⟨bt,0,none⟩)),some (.pointer (some ⟨bt,0,none⟩)),some (.pointer (some ⟨bt,5,none⟩)),some (.slice sU ts.length sV),some (.agg #[eU R.rb 0]),none,some (.int .i64 (ts.length:Int)),none,none,none,none,some (.pointer (some ⟨bt,0,none⟩)),some (.pointer (some ⟨bt,5,none⟩)),none] (fun _=>false) V w4.drew):=fun V=>jR.zero (bK.drew) fC.o.rd fC.o.oa fC.o.blk;have xP:Hid (∀X,bI R X j d→Calls Tryz.prog 69 #[.agg #[eU R.rb 0]] X fun e wq=>(∃v,e=.returned v∧∃cs:List Value,v=.agg cs.toArray∧iC wq (fun q=>X.heap.size≤q) ty cs)∧bI R wq j2 d∧Step (·=R.rb) X wq):=by intro X hX;have h9:=IH.o gn om R X j d HL.o hX hd (by rw[HX.o];intro h;cases h);rw[HX.o]at h9;exact h9
        have lI:Hid (∀(g9 c9:Nat) (A8:List Value) (X:World),bI R X j2 d→X.heap[bt]?=some (.cells #[ak k,a_ nm,aO,aT,.slice H8 ls.length H9,.slice (some ⟨g9,0,none⟩) (ts.length+1) c9,ak t.line,ak t.col] 46 (0,0))→X.ownsRow w1.heap.size 46 8 (.slice (some ⟨g9,0,none⟩) (ts.length+1) c9) (ts.length+1) (xs++A8)→iC X (fun q=>w4.heap.size≤q∧q≠g9) ty A8→((Value.slice sU ts.length sV).ownBlock=some g9∨w4.heap.size≤g9)→Step (fun q=>q=R.rb∨q=bt∨(Value.slice sU ts.length sV).ownBlock=some q) w4 X→
          ∃(i2:Nat) (Vp:List ByteArray) (Vq:List Ty) (vl2 OY:Value) (Oy:List Value),r=(if bF R.l i2 [44]then lQ gn R.l (i2+1) d Vp Vq else(aH R.l i2 [62]).bind fun _ j=>.ok (Vp,Vq) j)∧rX R w1 bt k nm t d X i2 Vp Vq vl2 OY Oy):=by
         show∀g9 c9 A8 X,_
         intro g9 c9 A8 X h1 h2 h3 h4 h5 h6
         have hol:=fC.o.ol
         have hne:=fC.o.ne
         have hg9:∀q,(Value.slice H8 ls.length H9).ownBlock=some q→q≠g9:=by
          intro q hq e
          subst e
          rcases h5 with h5|h5
          ·
           exact hne q hq h5
          ·
           have:=(hol.lt q hq).2;omega
         have hlen:(ts++[ty]).length=ts.length+1:=by simp
         refine⟨j2,ls,ts++[ty],.slice H8 ls.length H9,.slice (some ⟨g9,0,none⟩) (ts.length+1) c9,xs++A8,by rw[IW.o,HX.o];rfl,h1,h2,jM hol h6 (fun q hq e=> ?_),by rw[hlen];exact h3,gy.snoc ?_ ?_,fun q hq e=> ?_,fC.o.sz,by rw[hlen];omega,fC.o.st.then h6 (fun q hq e=> ?_)⟩
         ·
          have h7:=(hol.lt q hq).1
          rcases e with e|e|e
          ·
           omega
          ·
           omega
          ·
           exact hne q hq e
         ·
          refine gy.mono ?_ _ _ (gy.step h6 ?_ _ _ (gy.mono (P':=fun q=>(w1.heap.size≤q∧(Value.slice sU ts.length sV).ownBlock≠some q∧(Value.slice H8 ls.length H9).ownBlock≠some q)∧q<w4.heap.size) (fun q h7 h8=>⟨h8,h7⟩) _ _ fC.o.el))
          ·
           intro q _ hq
           refine⟨hq.1.1,fun e=> ?_,hq.1.2.2⟩
           have e2:g9=q:=Option.some.inj e
           rcases h5 with h5|h5
           ·
            exact hq.1.2.1 (by rw[←e2];exact h5)
           ·
            have:=hq.2;omega
          ·
           intro q hq e
           rcases e with e|e|e
           ·
            have:=hq.1.1;omega
           ·
            have:=hq.1.1;omega
           ·
            exact hq.1.2.1 e
         ·
          refine iC.mono (fun q _ hq=>⟨Nat.le_trans fC.o.st.size hq.1,fun e=>hq.2 (Option.some.inj e).symm,fun e=> ?_⟩) _ _ h4
          have:=(hol.lt q e).2
          have:=hq.1
          omega
         ·
          exact hg9 q hq (Option.some.inj e).symm
         ·
          rcases e with e|e|e
          ·
           exact .inl e
          ·
           exact .inr e
          ·
           have:=(fC.o.oa.lt _ e).1;omega
        (go_upto_region 5 with fail);refine bP kr (jR R j j2 d w4 5 7 8 9 10 13 bt (fun v=>.cells #[ak k,a_ nm,aO,aT,.slice H8 ls.length H9,v,ak t.line,ak t.col] 46 (0,0)) w1.heap.size 46 8 ts.length (.slice sU ts.length sV) xs [Value.int .i64 0,di,di,aT,ay,ay,ak 0,ak 0] (fun w P cs=>iC w P ty cs) [some (.pointer (some ⟨bt,0,none⟩)),some (.pointer (some ⟨bt,0,none⟩)),some (.pointer (some ⟨bt,5,none⟩)),some (.slice sU ts.length sV),some (.agg #[eU R.rb 0]),none,some (.int .i64 (ts.length:Int)),none,none,none,none,some (.pointer (some ⟨bt,0,none⟩)),some (.pointer (some ⟨bt,5,none⟩)),none]) 14 rfl kr kr kr kr ?h0 ?hs ?hdone;case h0=>exact xO.o _
        case hs=>
         refine⟨?_,?_,?_,?_,?_,?_,?_,?_,?_,?_,?_,?_,?_,?_,trivial⟩
         all_goals intro L V X a ev dG hdf hL ax hJ
         ·have o1:=dG 1 rfl;change a.tmps[1]?.getD undef=.pointer (some ⟨bt,0,none⟩)at o1;go_simp;exact⟨_,rfl,hJ.up 0 dc dc dc dc dc dc rfl⟩
         ·have e45:=(ev 0 45 rfl (ax 0 rfl)).trans (hJ.iK 0 _ rfl (ax 0 rfl));go_simp;exact⟨_,rfl,hJ.up 1 dc dc dc dc dc dc rfl⟩
         ·have e46:=(ev 1 46 rfl (ax 1 rfl)).trans (hJ.iK 1 _ rfl (ax 1 rfl));go_simp;exact⟨_,rfl,hJ.up 2 dc dc dc dc dc dc rfl⟩
         ·have e47:=(ev 2 47 rfl (ax 2 rfl)).trans (hJ.iK 2 _ rfl (ax 2 rfl));have hZ:=(hJ.JJ (hJ.Vo dc hL)).1;have hb:=hJ.blk;rw[hZ,if_neg dc]at hb;have q5:X.cell? ⟨bt,5,none⟩=some (.slice sU ts.length sV):=aj hb 5 _ rfl;go_simp;exact⟨_,rfl,hJ.up 3 dc dc dc dc dc dc rfl⟩
         ·have o2:=dG 2 rfl;change a.tmps[2]?.getD undef=.pointer (some ⟨w.heap.size,0,none⟩)at o2;have p0:=Ef.o X hJ.st;go_simp;exact⟨_,rfl,hJ.up 4 dc dc dc dc dc dc rfl⟩
         ·have e49:=(ev 4 49 rfl (ax 4 rfl)).trans (hJ.iK 4 _ rfl (ax 4 rfl));have hrd:=hJ.rd;rw[hL,if_neg dc]at hrd;go_simp;refine(xP.o X hrd).mono ?_;rintro e wq ⟨⟨v,rfl,cs,rfl,hty⟩,hr,hs⟩;exact⟨_,rfl,hJ.call HE.o HO.o hL rfl hs hr hty⟩
         ·have e48:=(ev 3 48 rfl (ax 3 rfl)).trans (hJ.iK 3 _ rfl (ax 3 rfl));go_simp;exact⟨_,rfl,hJ.up 6 dc dc dc dc dc dc rfl⟩
         ·have hu:=hJ.build HE.o HO.o hL rfl;go_simp;exact⟨_,rfl,hu⟩
         ·have e48:=(ev 3 48 rfl (ax 3 rfl)).trans (hJ.iK 3 _ rfl (ax 3 rfl));have e52:=ev 7 52 rfl (ax 7 rfl);obtain⟨zb,z1,z2,z3⟩:=hJ.bl (ax 7 rfl) hL;have hall:∀i,i<8→L i=true:=by
           intro i hi;rcases(show i=0∨i=1∨i=2∨i=3∨i=4∨i=5∨i=6∨i=7 by omega)with rfl|rfl|rfl|rfl|rfl|rfl|rfl|rfl
           ·exact ax 0 rfl
           ·exact ax 1 rfl
           ·exact ax 2 rfl
           ·exact ax 3 rfl
           ·exact ax 4 rfl
           ·exact ax 5 rfl
           ·exact ax 6 rfl
           ·exact ax 7 rfl
          refine f_ _ X.heap.size (.tmp 48) (.tmp 52) 44 rfl w1.heap.size 46 j0 (.agg #[ak 0,di,di,aT,ay,ay,ak 0,ak 0]) 8 112 Tryz.underlying44 HJ.o HY0.o HY1.o HY2.o rfl dc _ _ _ (by rw[bM];exact e48) (hJ.old hL) (V 7) 1 _ (by rw[bM];exact e52) (by rw[z1];exact(Row.new z3 dc).mono (aK z3)) rfl Vu.o (by unfold maxLen;omega) om (Nat.le_trans HO.o.bw hJ.st.size) ?_;intro v8 w8 qU ni C9;exact⟨v8,rfl,hJ.app HE.o HO.o hL hall rfl qU ni C9⟩
         ·have e51:=(ev 6 51 rfl (ax 6 rfl)).trans (hJ.iK 6 _ rfl (ax 6 rfl));have e53:=ev 8 53 rfl (ax 8 rfl);obtain⟨g,c,hV,-⟩:=hJ.new (ax 8 rfl);rw[hV]at e53;(have hi0:(0:Int)≤(ts.length:Int):=by omega);(have hi1:(ts.length:Int)<((ts.length+1:Nat):Int):=by omega);(have hi2:(ts.length:Int)<(ts.length:Int)+1:=by omega);have hu:=hJ.index HO.o (ax 8 rfl) rfl hV;go_simp;exact⟨_,rfl,hu⟩
         ·have h8:=ax 8 rfl;have h9:=ax 9 rfl;have h5:=ax 5 rfl;obtain⟨g,c,hV,-,ys,hown,-⟩:=hJ.new h8;have ep:=(ev 9 54 rfl h9).trans ((hJ.ix h9).2 g c hV);obtain⟨cs,c1,c2⟩:=hJ.el h5;have ec:=(ev 5 50 rfl h5).trans c1;rw[hV]at hown;obtain⟨g',c',cur,hg',-,hcur,hsz⟩:=vY hown om;cases hg';have hcl:cs.length=8:=iC.len c2;refine eH 46 (.tmp 54) (.tmp 50) rfl g (ts.length*8) 46 cur cs (by rw[bM];exact ep) (by rw[bM];exact ec) hcur (by rw[hcl];exact Tryz.eF) om (iC.one c2) ?_;intro w6 hb6 hs6;exact⟨undef,rfl,hJ.put HE.o HO.o h8 (fun u hu=>by cases hu) hV c1 hcl hcur hb6 hs6⟩
         ·have e45:=(ev 0 45 rfl (ax 0 rfl)).trans (hJ.iK 0 _ rfl (ax 0 rfl));go_simp;exact⟨_,rfl,hJ.up 11 dc dc dc dc dc dc rfl⟩
         ·have e55:=(ev 11 55 rfl (ax 11 rfl)).trans (hJ.iK 11 _ rfl (ax 11 rfl));go_simp;exact⟨_,rfl,hJ.up 12 dc dc dc dc dc dc rfl⟩
         ·have e56:=(ev 12 56 rfl (ax 12 rfl)).trans (hJ.iK 12 _ rfl (ax 12 rfl));have h8:=ax 8 rfl;have ev8:=ev 8 53 rfl h8;obtain⟨g,c,hV,-⟩:=hJ.new h8;rw[hV]at ev8;have hb:=hJ.blk;rw[hL,if_neg dc]at hb;have q5:=aj hb 5 _ rfl;have z5:=aI hb 5;have hu:=hJ.last (X':=X.setCell ⟨bt,5,none⟩ (.slice (some ⟨g,0,none⟩) (ts.length+1) c)) HE.o HO.o h8 (fun u hu=>by cases hu) (by rw[hV];exact aW hb 5 _) (bK.setCell _ _ iW);go_simp;exact⟨undef,hu⟩
        case hdone=>intro L V X hall hJ;obtain⟨g9,c9,A8,SE,SG,gZ,SH,SI,yZ,hgb9⟩:=hJ.done ⟨hall 5 dc,hall 8 dc,hall 10 dc,hall 13 dc⟩;rw[rgQ14];simp only[kJ,fO,gsQ,o9];clear hJ hall;go_wp2_with fail;go_meet;case rel=>exact lI.o g9 c9 A8 X SE SG gZ SH SI yZ
     case rest=>
      obtain⟨i2,Vp,Vq,vl2,OY,Oy,MN,hst5⟩:=hcut;obtain⟨w5,rfl⟩:=aN wc;have DY:=au MN;have mD:=au hst5;clear MN hst5;have p0:=cZ.o w5 mD.o.st;go_wp2_with fail;cases hc:bF R.l i2 [44]with
      |true=>
       have HC:=au hc;clear hc;refine(dA R HL.o ⟨#[44]⟩ _ i2 d mD.o.rd dc HC.o).mono ?_;rintro e w6 ⟨rfl,qj,s6⟩;have fG:=au (mD.o.read hrb om qj s6);(have xQ:Hid (r=lQ gn R.l (i2+1) d Vp Vq):=by show _=_;rw[DY.o,HC.o,if_pos rfl]);clear qj s6 p0;go_wp2_with fail;go_roundg gn;case rel=>exact⟨by omega,i2+1,Vp,Vq,vl2,OY,Oy,xQ.o,fG.o⟩
       case measure=>omega
      |false=>
       have HC:=au hc;clear hc;refine(dQ R HL.o ⟨#[44]⟩ _ i2 d mD.o.rd dc HC.o).mono ?_;rintro e w6 ⟨rfl,qj,s6⟩;have fG:=au (mD.o.read hrb om qj s6);(have xQ:Hid (r=(aH R.l i2 [62]).bind fun _ j=>.ok (Vp,Vq) j):=by show _=_;rw[DY.o,HC.o,if_neg dc]);clear qj s6 p0;have p0:=cZ.o w6 fG.o.st;go_wp2_with fail;refine(dP R HL.o w6.heap.size ⟨#[62]⟩ _ i2 d (fG.o.rd.quiet (bK.alloc _)) dc (aj (aC _ _) 0 _ rfl)).mono ?_;rintro e w7 hp;have hp2:aJ R d iQ (aH R.l i2 [62]) _ e w7:=hp;cases hn:aH R.l i2 [62]with
       |out=>exact(dJ hn).elim
       |err c ln col=>rw[hn]at hp2;obtain⟨rfl,s7⟩:=hp2;refine⟨rfl,?_⟩;rw[xQ.o,hn];exact⟨rfl,((dH.o.mono fe).trans fG.o.st).trans ((((Step.refl (·=R.rb) _).alloc _).trans s7).mono il)⟩
       |ok u j2=>
        have HN7:=au hn;rw[hn]at hp2;obtain⟨⟨v,rfl,rfl⟩,hr7,s7⟩:=hp2;have pU:=au (fG.o.read hrb om hr7 (((Step.refl (·=R.rb) _).alloc _).trans s7));clear hn hr7 s7 p0 hp;go_wp2_with fail;refine bodyPost_ret (results_none rfl _ _ _) rfl ?_;rw[xQ.o,HN7.o];have hz:=dH.o.size;refine⟨rfl,⟨vl2,OY,Oy,pU.o.blk,pU.o.sz,cu.eu pU.o.ol (fun q hq=> ?_),gy.mono oi _ _ pU.o.el,cu.eu pU.o.oa (fun q hq=> ?_)⟩,pU.o.rd,(dH.o.mono fe).trans pU.o.st⟩
        ·have:=(pU.o.ol.lt q hq).1;omega
        ·have:=(pU.o.oa.lt q hq).1;omega
theorem JL:∀f,qR f∧Fp f:=by
 intro f;induction f using Nat.strongRecOn with
 |ind f ih=>
  have ha:Fp f:=SC f (fun f' hf=>(ih f' hf).1);cases f with
  |zero=>exact⟨fun R w i d _ _ _ hno=>absurd (by rw[jY]) hno,ha⟩
  |succ f=>exact⟨Vk f (ih f (Nat.lt_succ_self f)).1 (ih f (Nat.lt_succ_self f)).2,ha⟩
def OZ (n0:Nat) (w':World) (a:Ex) (v:Value):Prop:=∃cs:List Value,v=.agg cs.toArray∧fA w' (fun k=>n0≤k) a cs
def SK (n0:Nat) (w':World) (l:List Ex) (v:Value):Prop:=∃xs:List Value,cu w' (fun k=>n0≤k) v l.length xs∧dM w' (fun k=>n0≤k) l xs
def SL (n0:Nat) (w':World) (l:List St) (v:Value):Prop:=∃xs:List Value,cu w' (fun k=>n0≤k) v l.length xs∧iO w' (fun k=>n0≤k) l xs
def StV (n0:Nat) (w':World) (a:St) (v:Value):Prop:=∃cs:List Value,v=.agg cs.toArray∧lW w' (fun k=>n0≤k) a cs
def oC (f:Nat):Prop:=∀(R:gJ) (w:World) (i d n:Nat),oZ R.l→bI R w i d→d≤40→n≤5→bG f R.l i d n≠.out→
 Calls Tryz.prog 128 #[.agg #[eU R.rb 0],.int .i64 (n:Int)] w (aJ R d (OZ w.heap.size) (bG f R.l i d n) w)
def A_ (f:Nat):Prop:=∀(R:gJ) (w:World) (i d:Nat),oZ R.l→bI R w i d→d≤40→ji f R.l i d≠.out→
 Calls Tryz.prog 171 #[.agg #[eU R.rb 0]] w (aJ R d (OZ w.heap.size) (ji f R.l i d) w)
def JM (f:Nat):Prop:=∀(R:gJ) (w:World) (i d:Nat),oZ R.l→bI R w i d→d≤40→xJ f R.l i d≠.out→
 Calls Tryz.prog 197 #[.agg #[eU R.rb 0]] w (aJ R d (OZ w.heap.size) (xJ f R.l i d) w)
def FC (f:Nat):Prop:=∀(R:gJ) (w:World) (i d:Nat),oZ R.l→bI R w i d→d≤40→lZ f R.l i d≠.out→
 Calls Tryz.prog 212 #[.agg #[eU R.rb 0]] w (aJ R d (SK w.heap.size) (lZ f R.l i d) w)
def Vw (f:Nat):Prop:=∀(R:gJ) (w:World) (i d:Nat),oZ R.l→bI R w i d→d≤40→uK f R.l i d≠.out→
 Calls Tryz.prog 221 #[.agg #[eU R.rb 0]] w (aJ R d (fun w' a v=>SK w.heap.size w' [a] v) (uK f R.l i d) w)
def O0 (f:Nat):Prop:=∀(R:gJ) (w:World) (i d:Nat),oZ R.l→bI R w i d→d≤40→wP f R.l i d≠.out→
 Calls Tryz.prog 211 #[.agg #[eU R.rb 0]] w (aJ R d (OZ w.heap.size) (wP f R.l i d) w)
def mZ (f:Nat):Prop:=∀(R:gJ) (w:World) (i d:Nat),oZ R.l→bI R w i d→d≤40→bJ f R.l i d≠.out→
 Calls Tryz.prog 146 #[.agg #[eU R.rb 0]] w (aJ R d (SL w.heap.size) (bJ f R.l i d) w)
def JO (f:Nat):Prop:=∀(R:gJ) (w:World) (i d:Nat),oZ R.l→bI R w i d→d≤40→xK f R.l i d≠.out→
 Calls Tryz.prog 187 #[.agg #[eU R.rb 0]] w (aJ R d (StV w.heap.size) (xK f R.l i d) w)
theorem fA.parts {w:World} {P:Nat→Prop} {x:Ex} {cs:List Value} (h:fA w P x cs):∃(k:Int) (nm:ByteArray) (v:Int) (m:Bool) (a1:Option Addr) (n1 c1:Nat) (a2:Option Addr) (n2 c2:Nat) (a3:Option Addr) (n3 c3:Nat) (l c:Int),cs=[.int .i64 k,.string nm,.int .u64 v,.bool m,.slice a1 n1 c1,.slice a2 n2 c2,.slice a3 n3 c3,.int .i64 l,.int .i64 c]:=by obtain⟨k,name,v,m,args,names,body,l,c⟩:=x;rw[fA]at h;obtain⟨_,_,_,_,_,rfl,_,_,_,⟨_,_,rfl,_⟩,⟨_,_,rfl,_⟩,_,⟨_,_,rfl,_⟩⟩:=h;exact⟨_,_,_,_,_,_,_,_,_,_,_,_,_,_,_,rfl⟩
theorem dM.single {w:World} {P:Nat→Prop} {x:Ex} {cs:List Value} (h:fA w P x cs):dM w P [x] cs:=by rw[dM];exact⟨cs,[],(List.append_nil _).symm,h,by rw[dM]⟩
theorem Tryz.bf:(Tryz.prog.info? 56).map (·.size)=some 9:=by kernel_rfl
def kE (f:Nat) (l:List Tok) (i d:Nat):dV Ex:=
 if bF l i [45]then(ji f l (i+1) d).bind fun y j=>.ok (dm 15 (AQ [45]) 0 false [y] [] [] (tokA l i)) j
 else if bF l i [33]then(ji f l (i+1) d).bind fun y j=>.ok (dm 15 (AQ [33]) 0 false [y] [] [] (tokA l i)) j
 else if bF l i [42]then(ji f l (i+1) d).bind fun y j=>.ok (dm 7 bZ 0 false [y] [] [] (tokA l i)) j
 else if bF l i [38]then(ji f l (jb l (i+1) [109,117,116]) d).bind fun y j=>.ok (dm 8 bZ 0 (bF l (i+1) [109,117,116]) [y] [] [] (tokA l i)) j
 else xJ f l i d
theorem DZ (f:Nat) (l:List Tok) (i d:Nat):ji (f+1) l i d=if d=40 then eP 2 l i else kE f l i (d+1):=by rw[ji];rfl
def O1 (n0 bt:Nat) (w':World) (a:Ex):Prop:=∃cs:List Value,w'.heap[bt]?=some (.cells cs.toArray 56 (0,0))∧fA w' (fun k=>n0≤k) a cs
theorem O3 (R:gJ) (f:Nat) (ih:A_ f) (ihp:JM f) (bp bt:Nat) (w:World) (i d:Nat) (t:Tok) (hl:oZ R.l) (h:bI R w i d) (hd:d≤40) (hbp:w.heap[bp]?=some (.cells #[eU R.rb 0] 97 (0,0))) (hbt:w.heap[bt]?=some (.cells #[ak 0,aO,cO 0,aT,ay,ay,ay,ak t.line,ak t.col] 56 (0,0))) (hb1:R.rb<bp) (hb2:bp<bt) (ht:t=tokA R.l i) (hno:kE f R.l i d≠.out):Calls Tryz.prog 196 #[.pointer (some ⟨bp,0,none⟩),.pointer (some ⟨bt,0,none⟩)] w (bg R d bt (O1 w.heap.size bt) (kE f R.l i d) w):=by
 have HL:=au hl;have H0:=au h;have HT:=au ht;have IH:=au ih;have IHP:=au ihp;obtain⟨r,hr⟩:=aN (kE f R.l i d);have HRR:=au hr;rw[←hr]at hno⊢;have eX:=au hno;have hil:=h.lt;have MC:=aK hbt;have HKB:Hid (∀X:World,Step (·=R.rb) w X→X.cell? ⟨bp,0,none⟩=some (.pointer (some ⟨R.rb,0,none⟩))∧X.heap[bt]?=some (.cells #[ak 0,aO,cO 0,aT,ay,ay,ay,ak t.line,ak t.col] 56 (0,0))):=fun X hX=>⟨aj (hX.keep hbp om) 0 _ rfl,hX.keep hbt om⟩
 obtain⟨p0,-⟩:=HKB.o w bK;clear ih ihp hl h hbp hbt hr hno ht;go_enter Tryz.func196,Tryz.ntmps196;go_wp2_with fail;cases hb0:bF R.l i [45]with
 |true=>
  have HB0:=au hb0;clear hb0;refine(dA R HL.o ⟨#[45]⟩ _ i d H0.o dc HB0.o).mono ?_;rintro e wy ⟨rfl,zx,hsy⟩;have DV:=au zx;have wQ:Hid (Step (·=R.rb) w wy):=bK.trans hsy;clear zx hsy p0;obtain⟨p0,hbt⟩:=HKB.o wy wQ.o;have nI:=au hbt;clear hbt;have ou:=aj nI.o 0 _ rfl;have oz:=aI nI.o 0;have Hz:=aj nI.o 1 _ rfl;have H6:=aI nI.o 1;obtain⟨w4,hw4⟩:=aN ((wy.setCell ⟨bt,0,none⟩ (.int .i64 15)).setCell ⟨bt,1,none⟩ (.string ⟨#[45]⟩));have gq:Hid (Step (·=bt) wy w4):=by rw[hw4];exact(((Step.refl (·=bt) _).setCell _ _ iW).setCell _ _ iW)
  have rO:Hid (w4.heap[bt]?=some (.cells #[ak 15,.string ⟨#[45]⟩,cO 0,aT,ay,ay,ay,ak t.line,ak t.col] 56 (0,0))):=by rw[hw4];exact(aW (aW nI.o 0 (.int .i64 15)) 1 (.string ⟨#[45]⟩))
  have oM:Hid (Step (fun k=>k=R.rb∨k=bt) w w4):=(wQ.o.mono il).trans (gq.o.mono ir);have HR4:=au (DV.o.step gq.o oi);have p4:w4.cell? ⟨bp,0,none⟩=some (.pointer (some ⟨R.rb,0,none⟩)):=gq.o.cell p0 (fun e=>by have e2:bp=bt:=e;omega);go_upto_region 9 with fail
  rw[←hw4];clear p0 hw4 ou oz Hz H6;have p0:=p4;clear p4;go_wp2_with fail;cases hx:ji f R.l (i+1) d with
  |out=>have HX:=au hx;exact absurd (by rw[HRR.o];unfold kE;simp only[HB0.o,HX.o,if_true,dV.uJ]) eX.o
  |err c ln col=>have HX:=au hx;clear hx;refine(IH.o R _ (i+1) d HL.o HR4.o hd (by rw[HX.o];intro h;cases h)).mono ?_;rintro e wq hp;rw[HX.o]at hp;obtain⟨rfl,sq⟩:=hp;refine⟨rfl,bg.aZ (c:=c) (ln:=ln) (col:=col) (by rw[HRR.o];unfold kE;simp only[HB0.o,HX.o,if_true,dV.lC]) rfl ?_⟩;exact oM.o.trans (sq.mono il)
  |ok y jx=>have HX:=au hx;clear hx;refine(IH.o R _ (i+1) d HL.o HR4.o hd (by rw[HX.o];intro h;cases h)).mono ?_;rintro e wx hp;rw[HX.o]at hp;obtain⟨⟨v,rfl,cs,rfl,hy⟩,hrx,hsx⟩:=hp;have HY:=au hy;obtain⟨k0,jf,v0,jg,a1,n1,c1,a2,n2,c2,a3,n3,c3,l0,c0,rfl⟩:=hy.parts;have vX:=au hrx;have rQ:=au hsx;obtain⟨w5,hw5⟩:=aN (wx.alloc (.cells #[ak k0,a_ jf,cO v0,dW jg,.slice a1 n1 c1,.slice a2 n2 c2,.slice a3 n3 c3,ak l0,ak c0] 56));(have oD:Hid (StF wx w5):=by rw[hw5];exact bK.alloc _);(have OJ:Hid (w5.heap[wx.heap.size]?=some (.cells #[ak k0,a_ jf,cO v0,dW jg,.slice a1 n1 c1,.slice a2 n2 c2,.slice a3 n3 c3,ak l0,ak c0] 56 (0,0))):=by rw[hw5];exact aC _ _);have qM:=oD.o.keep (rQ.o.keep rO.o om) (fun h=>h);have CZ:=aj qM 4 _ rfl;have H_:=aI qM 4;have hxz:=rQ.o.size;have hxy:=oM.o.size;obtain⟨w6,hw6⟩:=aN (w5.setCell ⟨bt,4,none⟩ (.slice (some ⟨wx.heap.size,0,none⟩) 1 1));(have rP:Hid (Step (·=bt) w5 w6):=by rw[hw6];exact bK.setCell _ _ iW);(have yX:Hid (w6.heap[bt]?=some (.cells #[ak 15,.string ⟨#[45]⟩,cO 0,aT,.slice (some ⟨wx.heap.size,0,none⟩) 1 1,ay,ay,ak t.line,ak t.col] 56 (0,0))):=by rw[hw6];exact aW qM 4 _);have Y6:=au (rP.o.keep OJ.o om);rw[hw5]at CZ H_;clear qM hy hrx hsx p0;go_wp2_with fail;rw[←hw5,←hw6];clear CZ H_ hw5 hw6;refine bodyPost_end (results_none rfl _ _ _) rfl ?_;have yV:Step (fun k=>k=R.rb∨k=bt) wx w6:=(oD.o.mono fe).trans (rP.o.mono ir);refine bg.dU (a:=dm 15 (AQ [45]) 0 false [y] [] [] (tokA R.l i)) (j:=jx) (by rw[HRR.o];unfold kE;simp only[HB0.o,HX.o,if_true,dV.bind_ok]) rfl ⟨_,yX.o,?_⟩ ((vX.o.quiet oD.o).step rP.o oi) (oM.o.trans ((rQ.o.mono il).trans yV));rw[dm,fA,←HT.o];exact⟨_,_,_,_,[],rfl,by decide,lu,dM.single (fA.mono oi _ _ (fA.step yV oi _ _ HY.o)),cu.new Y6.o dc om,cu.nil _ _ _,by rw[iO],cu.nil _ _ _⟩
 |false=>
  have HB0:=au hb0;clear hb0;refine(dQ R HL.o ⟨#[45]⟩ _ i d H0.o dc HB0.o).mono ?_;rintro e wn0 ⟨rfl,hrn,hsn⟩;have Vd:=au hrn;have OM:Hid (Step (·=R.rb) w wn0):=bK.trans hsn;clear hrn hsn p0;obtain⟨p0,-⟩:=HKB.o wn0 OM.o;go_wp2_with fail;cases hb1:bF R.l i [33]with
  |true=>
   have HB1:=au hb1;clear hb1;refine(dA R HL.o ⟨#[33]⟩ _ i d Vd.o dc HB1.o).mono ?_;rintro e wy ⟨rfl,zx,hsy⟩;have DV:=au zx;have wQ:Hid (Step (·=R.rb) w wy):=OM.o.trans hsy;clear zx hsy p0;obtain⟨p0,hbt⟩:=HKB.o wy wQ.o;have nI:=au hbt;clear hbt;have ou:=aj nI.o 0 _ rfl;have oz:=aI nI.o 0;have Hz:=aj nI.o 1 _ rfl;have H6:=aI nI.o 1;obtain⟨w4,hw4⟩:=aN ((wy.setCell ⟨bt,0,none⟩ (.int .i64 15)).setCell ⟨bt,1,none⟩ (.string ⟨#[33]⟩));(have gq:Hid (Step (·=bt) wy w4):=by rw[hw4];exact(((Step.refl (·=bt) _).setCell _ _ iW).setCell _ _ iW));(have rO:Hid (w4.heap[bt]?=some (.cells #[ak 15,.string ⟨#[33]⟩,cO 0,aT,ay,ay,ay,ak t.line,ak t.col] 56 (0,0))):=by rw[hw4];exact(aW (aW nI.o 0 (.int .i64 15)) 1 (.string ⟨#[33]⟩)));have oM:Hid (Step (fun k=>k=R.rb∨k=bt) w w4):=(wQ.o.mono il).trans (gq.o.mono ir);have HR4:=au (DV.o.step gq.o oi);have p4:w4.cell? ⟨bp,0,none⟩=some (.pointer (some ⟨R.rb,0,none⟩)):=gq.o.cell p0 (fun e=>by have e2:bp=bt:=e;omega);(go_upto_region 9 with fail);rw[←hw4];clear p0 hw4 ou oz Hz H6;have p0:=p4;clear p4;go_wp2_with fail;cases hx:ji f R.l (i+1) d with
   |out=>have HX:=au hx;exact absurd (by rw[HRR.o];unfold kE;simp only[HB0.o,HB1.o,HX.o,Bool.false_eq_true,if_false,if_true,dV.uJ]) eX.o
   |err c ln col=>have HX:=au hx;clear hx;refine(IH.o R _ (i+1) d HL.o HR4.o hd (by rw[HX.o];intro h;cases h)).mono ?_;rintro e wq hp;rw[HX.o]at hp;obtain⟨rfl,sq⟩:=hp;refine⟨rfl,bg.aZ (c:=c) (ln:=ln) (col:=col) (by rw[HRR.o];unfold kE;simp only[HB0.o,HB1.o,HX.o,Bool.false_eq_true,if_false,if_true,dV.lC]) rfl ?_⟩;exact oM.o.trans (sq.mono il)
   |ok y jx=>have HX:=au hx;clear hx;refine(IH.o R _ (i+1) d HL.o HR4.o hd (by rw[HX.o];intro h;cases h)).mono ?_;rintro e wx hp;rw[HX.o]at hp;obtain⟨⟨v,rfl,cs,rfl,hy⟩,hrx,hsx⟩:=hp;have HY:=au hy;obtain⟨k0,jf,v0,jg,a1,n1,c1,a2,n2,c2,a3,n3,c3,l0,c0,rfl⟩:=hy.parts;have vX:=au hrx;have rQ:=au hsx;obtain⟨w5,hw5⟩:=aN (wx.alloc (.cells #[ak k0,a_ jf,cO v0,dW jg,.slice a1 n1 c1,.slice a2 n2 c2,.slice a3 n3 c3,ak l0,ak c0] 56));(have oD:Hid (StF wx w5):=by rw[hw5];exact bK.alloc _);(have OJ:Hid (w5.heap[wx.heap.size]?=some (.cells #[ak k0,a_ jf,cO v0,dW jg,.slice a1 n1 c1,.slice a2 n2 c2,.slice a3 n3 c3,ak l0,ak c0] 56 (0,0))):=by rw[hw5];exact aC _ _);have qM:=oD.o.keep (rQ.o.keep rO.o om) (fun h=>h);have CZ:=aj qM 4 _ rfl;have H_:=aI qM 4;have hxz:=rQ.o.size;have hxy:=oM.o.size;obtain⟨w6,hw6⟩:=aN (w5.setCell ⟨bt,4,none⟩ (.slice (some ⟨wx.heap.size,0,none⟩) 1 1));(have rP:Hid (Step (·=bt) w5 w6):=by rw[hw6];exact bK.setCell _ _ iW);(have yX:Hid (w6.heap[bt]?=some (.cells #[ak 15,.string ⟨#[33]⟩,cO 0,aT,.slice (some ⟨wx.heap.size,0,none⟩) 1 1,ay,ay,ak t.line,ak t.col] 56 (0,0))):=by rw[hw6];exact aW qM 4 _);have Y6:=au (rP.o.keep OJ.o om);rw[hw5]at CZ H_;clear qM hy hrx hsx p0;go_wp2_with fail;rw[←hw5,←hw6];clear CZ H_ hw5 hw6;refine bodyPost_end (results_none rfl _ _ _) rfl ?_;have yV:Step (fun k=>k=R.rb∨k=bt) wx w6:=(oD.o.mono fe).trans (rP.o.mono ir);refine bg.dU (a:=dm 15 (AQ [33]) 0 false [y] [] [] (tokA R.l i)) (j:=jx) (by rw[HRR.o];unfold kE;simp only[HB0.o,HB1.o,HX.o,Bool.false_eq_true,if_false,if_true,dV.bind_ok]) rfl ⟨_,yX.o,?_⟩ ((vX.o.quiet oD.o).step rP.o oi) (oM.o.trans ((rQ.o.mono il).trans yV));rw[dm,fA,←HT.o];exact⟨_,_,_,_,[],rfl,by decide,lu,dM.single (fA.mono oi _ _ (fA.step yV oi _ _ HY.o)),cu.new Y6.o dc om,cu.nil _ _ _,by rw[iO],cu.nil _ _ _⟩
  |false=>
   have HB1:=au hb1;clear hb1;refine(dQ R HL.o ⟨#[33]⟩ _ i d Vd.o dc HB1.o).mono ?_;rintro e wn1 ⟨rfl,hrn,hsn⟩;have Ve:=au hrn;have OO:Hid (Step (·=R.rb) w wn1):=OM.o.trans hsn;clear hrn hsn p0;obtain⟨p0,-⟩:=HKB.o wn1 OO.o;go_wp2_with fail;cases hb2:bF R.l i [42]with
   |true=>
    have HB2:=au hb2;clear hb2;refine(dA R HL.o ⟨#[42]⟩ _ i d Ve.o dc HB2.o).mono ?_;rintro e wy ⟨rfl,zx,hsy⟩;have DV:=au zx;have wQ:Hid (Step (·=R.rb) w wy):=OO.o.trans hsy;clear zx hsy p0;obtain⟨p0,hbt⟩:=HKB.o wy wQ.o;have nI:=au hbt;clear hbt;have ou:=aj nI.o 0 _ rfl;have oz:=aI nI.o 0;obtain⟨w4,hw4⟩:=aN (wy.setCell ⟨bt,0,none⟩ (.int .i64 7));(have gq:Hid (Step (·=bt) wy w4):=by rw[hw4];exact((Step.refl (·=bt) _).setCell _ _ iW));(have rO:Hid (w4.heap[bt]?=some (.cells #[ak 7,aO,cO 0,aT,ay,ay,ay,ak t.line,ak t.col] 56 (0,0))):=by rw[hw4];exact(aW nI.o 0 (.int .i64 7)));have oM:Hid (Step (fun k=>k=R.rb∨k=bt) w w4):=(wQ.o.mono il).trans (gq.o.mono ir);have HR4:=au (DV.o.step gq.o oi);have p4:w4.cell? ⟨bp,0,none⟩=some (.pointer (some ⟨R.rb,0,none⟩)):=gq.o.cell p0 (fun e=>by have e2:bp=bt:=e;omega);(go_upto_region 9 with fail);rw[←hw4];clear p0 hw4 ou oz;have p0:=p4;clear p4;go_wp2_with fail;cases hx:ji f R.l (i+1) d with
    |out=>have HX:=au hx;exact absurd (by rw[HRR.o];unfold kE;simp only[HB0.o,HB1.o,HB2.o,HX.o,Bool.false_eq_true,if_false,if_true,dV.uJ]) eX.o
    |err c ln col=>have HX:=au hx;clear hx;refine(IH.o R _ (i+1) d HL.o HR4.o hd (by rw[HX.o];intro h;cases h)).mono ?_;rintro e wq hp;rw[HX.o]at hp;obtain⟨rfl,sq⟩:=hp;refine⟨rfl,bg.aZ (c:=c) (ln:=ln) (col:=col) (by rw[HRR.o];unfold kE;simp only[HB0.o,HB1.o,HB2.o,HX.o,Bool.false_eq_true,if_false,if_true,dV.lC]) rfl ?_⟩;exact oM.o.trans (sq.mono il)
    |ok y jx=>have HX:=au hx;clear hx;refine(IH.o R _ (i+1) d HL.o HR4.o hd (by rw[HX.o];intro h;cases h)).mono ?_;rintro e wx hp;rw[HX.o]at hp;obtain⟨⟨v,rfl,cs,rfl,hy⟩,hrx,hsx⟩:=hp;have HY:=au hy;obtain⟨k0,jf,v0,jg,a1,n1,c1,a2,n2,c2,a3,n3,c3,l0,c0,rfl⟩:=hy.parts;have vX:=au hrx;have rQ:=au hsx;obtain⟨w5,hw5⟩:=aN (wx.alloc (.cells #[ak k0,a_ jf,cO v0,dW jg,.slice a1 n1 c1,.slice a2 n2 c2,.slice a3 n3 c3,ak l0,ak c0] 56));(have oD:Hid (StF wx w5):=by rw[hw5];exact bK.alloc _);(have OJ:Hid (w5.heap[wx.heap.size]?=some (.cells #[ak k0,a_ jf,cO v0,dW jg,.slice a1 n1 c1,.slice a2 n2 c2,.slice a3 n3 c3,ak l0,ak c0] 56 (0,0))):=by rw[hw5];exact aC _ _);have qM:=oD.o.keep (rQ.o.keep rO.o om) (fun h=>h);have CZ:=aj qM 4 _ rfl;have H_:=aI qM 4;have hxz:=rQ.o.size;have hxy:=oM.o.size;obtain⟨w6,hw6⟩:=aN (w5.setCell ⟨bt,4,none⟩ (.slice (some ⟨wx.heap.size,0,none⟩) 1 1));(have rP:Hid (Step (·=bt) w5 w6):=by rw[hw6];exact bK.setCell _ _ iW);(have yX:Hid (w6.heap[bt]?=some (.cells #[ak 7,aO,cO 0,aT,.slice (some ⟨wx.heap.size,0,none⟩) 1 1,ay,ay,ak t.line,ak t.col] 56 (0,0))):=by rw[hw6];exact aW qM 4 _);have Y6:=au (rP.o.keep OJ.o om);rw[hw5]at CZ H_;clear qM hy hrx hsx p0;go_wp2_with fail;rw[←hw5,←hw6];clear CZ H_ hw5 hw6;refine bodyPost_end (results_none rfl _ _ _) rfl ?_;have yV:Step (fun k=>k=R.rb∨k=bt) wx w6:=(oD.o.mono fe).trans (rP.o.mono ir);refine bg.dU (a:=dm 7 bZ 0 false [y] [] [] (tokA R.l i)) (j:=jx) (by rw[HRR.o];unfold kE;simp only[HB0.o,HB1.o,HB2.o,HX.o,Bool.false_eq_true,if_false,if_true,dV.bind_ok]) rfl ⟨_,yX.o,?_⟩ ((vX.o.quiet oD.o).step rP.o oi) (oM.o.trans ((rQ.o.mono il).trans yV));rw[dm,fA,←HT.o];exact⟨_,_,_,_,[],rfl,by decide,lu,dM.single (fA.mono oi _ _ (fA.step yV oi _ _ HY.o)),cu.new Y6.o dc om,cu.nil _ _ _,by rw[iO],cu.nil _ _ _⟩
   |false=>
    have HB2:=au hb2;clear hb2;refine(dQ R HL.o ⟨#[42]⟩ _ i d Ve.o dc HB2.o).mono ?_;rintro e wn2 ⟨rfl,hrn,hsn⟩;have Vf:=au hrn;have OQ:Hid (Step (·=R.rb) w wn2):=OO.o.trans hsn;clear hrn hsn p0;obtain⟨p0,-⟩:=HKB.o wn2 OQ.o;go_wp2_with fail;cases hb3:bF R.l i [38]with
    |true=>
     have HB3:=au hb3;clear hb3;refine(dA R HL.o ⟨#[38]⟩ _ i d Vf.o dc HB3.o).mono ?_;rintro e wy ⟨rfl,zx,hsy⟩;have DV:=au zx;have wQ:Hid (Step (·=R.rb) w wy):=OQ.o.trans hsy;clear zx hsy p0;obtain⟨p0,hbt⟩:=HKB.o wy wQ.o;have nI:=au hbt;clear hbt;obtain⟨mb,hmb⟩:=aN (bF R.l (i+1) [109,117,116]);obtain⟨mj,hmj⟩:=aN (jb R.l (i+1) [109,117,116]);have HIS:=au (um R HL.o ⟨#[109,117,116]⟩ wy (i+1) d DV.o dc);(have vI:Hid (r=(ji f R.l mj d).bind fun y j=>.ok (dm 8 bZ 0 mb [y] [] [] (tokA R.l i)) j):=by show _=_;rw[HRR.o,hmj,hmb];unfold kE;simp only[HB0.o,HB1.o,HB2.o,HB3.o,Bool.false_eq_true,if_false,if_true]);(have HIS2:Hid (Calls Tryz.prog 110 #[.pointer (some ⟨R.rb,0,none⟩),.string ⟨#[109,117,116]⟩] wy fun e w'=>e=.returned (.bool mb)∧bI R w' mj d∧Step (·=R.rb) wy w'):=by rw[hmb,hmj];exact HIS.o);clear hmb hmj;go_wp2_with fail;refine HIS2.o.mono ?_;rintro e w3 ⟨rfl,hr3,hs3⟩;have G7:=au hr3;have Fv:Hid (Step (·=R.rb) w w3):=wQ.o.trans hs3;clear hr3 hs3 p0;obtain⟨p0,hbt⟩:=HKB.o w3 Fv.o;have Vx:=au hbt;clear hbt;have ou:=aj Vx.o 0 _ rfl;have oz:=aI Vx.o 0;have bt3:=aj Vx.o 3 _ rfl;have bz3:=aI Vx.o 3;obtain⟨w4,hw4⟩:=aN ((w3.setCell ⟨bt,0,none⟩ (.int .i64 8)).setCell ⟨bt,3,none⟩ (.bool mb));(have gq:Hid (Step (·=bt) w3 w4):=by rw[hw4];exact(((Step.refl (·=bt) _).setCell _ _ iW).setCell _ _ iW));(have rO:Hid (w4.heap[bt]?=some (.cells #[ak 8,aO,cO 0,dW mb,ay,ay,ay,ak t.line,ak t.col] 56 (0,0))):=by rw[hw4];exact(aW (aW Vx.o 0 (.int .i64 8)) 3 (.bool mb)));have oM:Hid (Step (fun k=>k=R.rb∨k=bt) w w4):=(Fv.o.mono il).trans (gq.o.mono ir);have HR4:=au (G7.o.step gq.o oi);have p4:w4.cell? ⟨bp,0,none⟩=some (.pointer (some ⟨R.rb,0,none⟩)):=gq.o.cell p0 (fun e=>by have e2:bp=bt:=e;omega);(go_upto_region 9 with fail);rw[←hw4];clear p0 hw4 ou oz bt3 bz3;have p0:=p4;clear p4;go_wp2_with fail;cases hx:ji f R.l mj d with
     |out=>have HX:=au hx;exact absurd (by rw[vI.o];simp only[HX.o,dV.uJ]) eX.o
     |err c ln col=>have HX:=au hx;clear hx;refine(IH.o R _ mj d HL.o HR4.o hd (by rw[HX.o];intro h;cases h)).mono ?_;rintro e wq hp;rw[HX.o]at hp;obtain⟨rfl,sq⟩:=hp;refine⟨rfl,bg.aZ (c:=c) (ln:=ln) (col:=col) (by rw[vI.o];simp only[HX.o,dV.lC]) rfl ?_⟩;exact oM.o.trans (sq.mono il)
     |ok y jx=>have HX:=au hx;clear hx;refine(IH.o R _ mj d HL.o HR4.o hd (by rw[HX.o];intro h;cases h)).mono ?_;rintro e wx hp;rw[HX.o]at hp;obtain⟨⟨v,rfl,cs,rfl,hy⟩,hrx,hsx⟩:=hp;have HY:=au hy;obtain⟨k0,jf,v0,jg,a1,n1,c1,a2,n2,c2,a3,n3,c3,l0,c0,rfl⟩:=hy.parts;have vX:=au hrx;have rQ:=au hsx;obtain⟨w5,hw5⟩:=aN (wx.alloc (.cells #[ak k0,a_ jf,cO v0,dW jg,.slice a1 n1 c1,.slice a2 n2 c2,.slice a3 n3 c3,ak l0,ak c0] 56));(have oD:Hid (StF wx w5):=by rw[hw5];exact bK.alloc _);(have OJ:Hid (w5.heap[wx.heap.size]?=some (.cells #[ak k0,a_ jf,cO v0,dW jg,.slice a1 n1 c1,.slice a2 n2 c2,.slice a3 n3 c3,ak l0,ak c0] 56 (0,0))):=by rw[hw5];exact aC _ _);have qM:=oD.o.keep (rQ.o.keep rO.o om) (fun h=>h);have CZ:=aj qM 4 _ rfl;have H_:=aI qM 4;have hxz:=rQ.o.size;have hxy:=oM.o.size;obtain⟨w6,hw6⟩:=aN (w5.setCell ⟨bt,4,none⟩ (.slice (some ⟨wx.heap.size,0,none⟩) 1 1));(have rP:Hid (Step (·=bt) w5 w6):=by rw[hw6];exact bK.setCell _ _ iW);(have yX:Hid (w6.heap[bt]?=some (.cells #[ak 8,aO,cO 0,dW mb,.slice (some ⟨wx.heap.size,0,none⟩) 1 1,ay,ay,ak t.line,ak t.col] 56 (0,0))):=by rw[hw6];exact aW qM 4 _);have Y6:=au (rP.o.keep OJ.o om);rw[hw5]at CZ H_;clear qM hy hrx hsx p0;go_wp2_with fail;rw[←hw5,←hw6];clear CZ H_ hw5 hw6;refine bodyPost_end (results_none rfl _ _ _) rfl ?_;have yV:Step (fun k=>k=R.rb∨k=bt) wx w6:=(oD.o.mono fe).trans (rP.o.mono ir);refine bg.dU (a:=dm 8 bZ 0 mb [y] [] [] (tokA R.l i)) (j:=jx) (by rw[vI.o];simp only[HX.o,dV.bind_ok]) rfl ⟨_,yX.o,?_⟩ ((vX.o.quiet oD.o).step rP.o oi) (oM.o.trans ((rQ.o.mono il).trans yV));rw[dm,fA,←HT.o];exact⟨_,_,_,_,[],rfl,by decide,lu,dM.single (fA.mono oi _ _ (fA.step yV oi _ _ HY.o)),cu.new Y6.o dc om,cu.nil _ _ _,by rw[iO],cu.nil _ _ _⟩
    |false=>
     have HB3:=au hb3;clear hb3;refine(dQ R HL.o ⟨#[38]⟩ _ i d Vf.o dc HB3.o).mono ?_;rintro e wn3 ⟨rfl,hrn,hsn⟩;have Vg:=au hrn;have MF:Hid (Step (·=R.rb) w wn3):=OQ.o.trans hsn;clear hrn hsn p0;obtain⟨p0,-⟩:=HKB.o wn3 MF.o;go_wp2_with fail;cases hx:xJ f R.l i d with
     |out=>have HX:=au hx;exact absurd (by rw[HRR.o];unfold kE;simp only[HB0.o,HB1.o,HB2.o,HB3.o,HX.o,Bool.false_eq_true,if_false]) eX.o
     |err c ln col=>have HX:=au hx;clear hx;refine(IHP.o R _ i d HL.o Vg.o hd (by rw[HX.o];intro h;cases h)).mono ?_;rintro e wq hp;rw[HX.o]at hp;obtain⟨rfl,sq⟩:=hp;refine⟨rfl,bg.aZ (c:=c) (ln:=ln) (col:=col) (by rw[HRR.o];unfold kE;simp only[HB0.o,HB1.o,HB2.o,HB3.o,HX.o,Bool.false_eq_true,if_false]) rfl ?_⟩;exact(MF.o.trans sq).mono il
     |ok y jx=>
      have HX:=au hx;clear hx;refine(IHP.o R _ i d HL.o Vg.o hd (by rw[HX.o];intro h;cases h)).mono ?_;rintro e wx hp;rw[HX.o]at hp;obtain⟨⟨v,rfl,cs,rfl,hy⟩,hrx,hsx⟩:=hp;have HY:=au hy;have eG:=au hy.one;obtain⟨k0,jf,v0,jg,a1,n1,c1,a2,n2,c2,a3,n3,c3,l0,c0,rfl⟩:=hy.parts;have vX:=au hrx;have rQ:Hid (Step (·=R.rb) w wx):=MF.o.trans hsx;have hnz:=MF.o.size;obtain⟨-,hbt⟩:=HKB.o wx rQ.o;have nI:=au hbt;clear hy hrx hsx p0 hbt
      go_wp2_with (refine aG (w:=wx) rfl 56 (.tmp 1) (.tmp 3) rfl bt 0 56 _ [.int .i64 k0,.string jf,.int .u64 v0,.bool jg,.slice a1 n1 c1,.slice a2 n2 c2,.slice a3 n3 c3,.int .i64 l0,.int .i64 c0] rfl rfl nI.o Tryz.bf (Nat.le_of_eq rfl) eG.o ?_
                   intro w6 hb6 xR)
      have SN:w6.heap[bt]?=some (.cells [Value.int .i64 k0,a_ jf,cO v0,dW jg,.slice a1 n1 c1,.slice a2 n2 c2,.slice a3 n3 c3,ak l0,ak c0].toArray 56 (0,0)):=hb6;have DW:=au SN;have rP:=au xR;clear hb6 SN xR;refine bodyPost_ret (results_none rfl _ _ _) rfl ?_;refine bg.dU (a:=y) (j:=jx) (by rw[HRR.o];unfold kE;simp only[HB0.o,HB1.o,HB2.o,HB3.o,HX.o,Bool.false_eq_true,if_false]) rfl ⟨_,DW.o,?_⟩ (vX.o.step rP.o oi) ((rQ.o.mono il).trans (rP.o.mono ir));exact fA.mono oi _ _ (fA.step rP.o oi _ _ HY.o)
theorem zB:Enters 196:=fun xs w=>by go_simp
theorem O4 (f:Nat) (ih:A_ f) (iha:JM f):A_ (f+1):=by
 intro R w i d hl h hd hno;have hmf:∀(fn:Fn) (first cap:Array Value) (w:World),(Instr.makeFunc fn first cap).run Tryz.prog w=.ok (.func fn first cap) w:=fun _ _ _ _=>rfl;have HL:=au hl;have H0:=au h;have eX:=au hno;obtain⟨r,hr⟩:=aN (ji (f+1) R.l i d);have HRR:=au hr;rw[←hr];obtain⟨t,ht⟩:=aN (tokA R.l i);have HT:=au ht;have rU:=aK h.blk;obtain⟨w1,hw1⟩:=aN ((w.alloc (.cells #[eU R.rb 0] 97)).alloc (.cells #[ak 0,di,cO 0,aT,ay,ay,ay,ak 0,ak 0] 56));have dH:=nT hw1
 have kL:=nC hw1
 have kT:=nD hw1
 have HW1:=au hw1;have H1:=au (h.quiet dH.o);have p0:w1.cell? ⟨w.heap.size,0,none⟩=some (.pointer (some ⟨R.rb,0,none⟩)):=aj kL.o 0 _ rfl;have HAT:=au (at_at R w1 i d t H1.o (by rw[ht];exact H1.o.tok));clear hl h hno hr hw1 ht;go_enter Tryz.func171,Tryz.ntmps171;go_upto_region 1 with fail
 rw[←HW1.o];go_wp2_with fail;refine HAT.o.mono ?_;rintro e w2 ⟨rfl,h2⟩;have HS2:=au (dH.o.trans h2);have HP2:=au (h2.keep kL.o (fun h=>h));have m_:=au (h2.keep kT.o (fun h=>h));have hn1:=aK m_.o;obtain⟨w3,hw3⟩:=aN (w2.alloc (.cells #[ak 0,aO,cO 0,aT,ay,ay,ay,ak t.line,ak t.col] 56));have jv:=nS hw3
 have HB3:=nB hw3
 have fK:=au (HS2.o.trans jv.o);have yY:=au (jv.o.keep HP2.o (fun h=>h));have tJ:=au (jv.o.keep m_.o (fun h=>h));have H3:=au (H0.o.quiet fK.o);have HW3:=au hw3;clear h2 hw3 p0;have p0:w3.cell? ⟨w.heap.size,0,none⟩=some (.pointer (some ⟨R.rb,0,none⟩)):=aj yY.o 0 _ rfl;go_upto_region 2 with fail
 have hx3:w2.alloc (.cells #[ak 0,di,cO 0,aT,ay,ay,ay,ak t.line,ak t.col] 56)=w3:=HW3.o.symm;rw[hx3];clear hx3;go_wp2_with fail;by_cases Vl:d=40
 ·refine(zN R _ [.pointer (some ⟨w.heap.size,0,none⟩),.pointer (some ⟨w2.heap.size,0,none⟩)] w3 i d t H3.o (by rw[HT.o];exact H3.o.tok) Vl).mono ?_;rintro e w4 ⟨rfl,h4⟩;refine⟨rfl,?_⟩;rw[HRR.o,DZ,if_pos Vl,eP,←HT.o];exact⟨rfl,(fK.o.trans h4).mono fe⟩
 ·have o_:Hid (r=kE f R.l i (d+1)):=by show _=_;rw[HRR.o,DZ,if_neg Vl]
  have hnb:kE f R.l i (d+1)≠.out:=fun e=>eX.o (by rw[←HRR.o,o_.o,e]);have MH:Hid (∀X,bI R X i (d+1)→Step (·=R.rb) w3 X→Calls Tryz.prog 196 #[.pointer (some ⟨w.heap.size,0,none⟩),.pointer (some ⟨w2.heap.size,0,none⟩)] X (bg R (d+1) w2.heap.size (O1 X.heap.size w2.heap.size) (kE f R.l i (d+1)) X)):=fun X hX hs=>O3 R f ih iha w.heap.size w2.heap.size X i (d+1) t HL.o hX om (hs.keep yY.o om) (hs.keep HB3.o om) om om HT.o hnb
  have MI:d<40:=by omega
  cases hb:kE f R.l i (d+1)with
  |out=>exact absurd hb hnb
  |err c ln col=>
   have HB:=au hb;clear hb;refine(Fj R _ [.pointer (some ⟨w.heap.size,0,none⟩),.pointer (some ⟨w2.heap.size,0,none⟩)] w3 i d (Q:=fun X=>Step (fun k=>k=R.rb∨k=w2.heap.size) w3 X) (hk:=zB) (h:=H3.o) (hd:=MI) (hby:=fun X hX hs=> ?_) (es:=[{v:=.iface 251 (.agg #[ak c,ak ln,ak col]),recovered:=false}])).mono ?_
   ·refine(MH.o X hX hs).mono ?_;intro e X2 hp;rw[HB.o]at hp;exact⟨hp.1,(hs.mono il).trans hp.2⟩
   ·rintro e w4 ⟨rfl,h4⟩;refine⟨rfl,?_⟩;rw[o_.o,HB.o];exact⟨rfl,(fK.o.mono fe).then h4 oi⟩
  |ok ty j=>
   have HB:=au hb;clear hb;refine(JE R _ [.pointer (some ⟨w.heap.size,0,none⟩),.pointer (some ⟨w2.heap.size,0,none⟩)] w3 i d (fun i' X=>i'=j∧O1 w3.heap.size w2.heap.size X ty∧Step (fun k=>k=R.rb∨k=w2.heap.size) w3 X) zB H3.o MI (fun X hX hs=> ?_)).mono ?_
   ·refine(MH.o X hX hs).mono ?_;intro e X2 hp;rw[HB.o]at hp;obtain⟨he,⟨cs,hc,ht⟩,hr,hs2⟩:=hp;exact⟨he,j,hr,rfl,⟨cs,hc,fA.mono (fun k _ hk=>by have:=hs.size;omega) _ _ ht⟩,(hs.mono il).trans hs2⟩
   ·rintro e w4 ⟨rfl,i',X,⟨rfl,⟨cs,hc,hty⟩,hsx⟩,hr4,hs4⟩;have hlt3:=aK HB3.o;have hb4:=hs4.keep hc om;have JG:=fA.step hs4 oi _ _ hty;have OV:Step (fun k=>k=R.rb∨k=w2.heap.size) w3 w4:=hsx.trans (hs4.mono il);obtain⟨k0,jf,v0,jg,a1,n1,c1,a2,n2,c2,a3,n3,c3,l0,c0,rfl⟩:=JG.parts;have HR4:=au hr4;have OW:=au JG;have l_:=au OV;have HB4:=au hb4;have OU:=au (OV.keep tJ.o om);(have iD:Hid (∀(jj:Nat) v,[Value.int .i64 k0,a_ jf,cO v0,dW jg,.slice a1 n1 c1,.slice a2 n2 c2,.slice a3 n3 c3,ak l0,ak c0][jj]?=some v→w4.cell? ⟨w2.heap.size,0+jj,none⟩=some v):=by intro jj v hv;rw[Nat.zero_add];exact aj HB4.o jj v rF);have eG:=au (fA.one JG);have hsz3:=jv.o.size;clear hc hty hsx hr4 hs4 hb4 JG OV p0;go_wp2_with (first
     |(refine aA rfl 56 (.tmp 3) rfl w2.heap.size 0 rfl [.int .i64 k0,.string jf,.int .u64 v0,.bool jg,.slice a1 n1 c1,.slice a2 n2 c2,.slice a3 n3 c3,.int .i64 l0,.int .i64 c0] _ iD.o Tryz.underlying56 rfl Tryz.bf ?_)
     |(refine aG (w:=w4) rfl 56 (.tmp 2) (.tmp 12) rfl (w.heap.size+1) 0 56 _ [.int .i64 k0,.string jf,.int .u64 v0,.bool jg,.slice a1 n1 c1,.slice a2 n2 c2,.slice a3 n3 c3,.int .i64 l0,.int .i64 c0] rfl rfl OU.o Tryz.bf (Nat.le_of_eq rfl) eG.o ?_;intro w5 hb5 hst5))
    have JH:w5.heap[w.heap.size+1]?=some (.cells [Value.int .i64 k0,a_ jf,cO v0,dW jg,.slice a1 n1 c1,.slice a2 n2 c2,.slice a3 n3 c3,ak l0,ak c0].toArray 56 (0,0)):=hb5;refine bodyPost_ret (aY rfl _ (w.heap.size+1) 56 _ _ rfl JH Tryz.underlying56 rfl Tryz.bf) rfl ?_;rw[o_.o,HB.o];refine⟨⟨_,rfl,_,rfl,fA.mono (fun k _ hk=>by have:=fK.o.size;omega) _ _ (fA.step hst5 oi _ _ OW.o)⟩,HR4.o.step hst5 oi,?_⟩;have hs04:Step (·=R.rb) w w4:=(fK.o.mono fe).then l_.o oi;exact hs04.then hst5 oi
theorem v_ (w:World) (o:Obj) (k:Nat) (h:k=w.heap.size):(w.alloc o).heap[k]?=some o:=by subst h;exact aC w o
theorem Tryz.O5:(Tryz.prog.info? 238).map (·.size)=some 5:=by kernel_rfl
theorem pV (w:World):Calls Tryz.prog 170 #[] w fun e w'=>(∃g0 g1 g2 g3 g4:Nat,e=.returned (.agg #[.slice (some ⟨g0,0,none⟩) 1 1,.slice (some ⟨g1,0,none⟩) 1 1,.slice (some ⟨g2,0,none⟩) 2 2,.slice (some ⟨g3,0,none⟩) 2 2,.slice (some ⟨g4,0,none⟩) 2 2])∧w'.cell? ⟨g0,0,none⟩=some (.string ⟨#[124]⟩)∧w'.cell? ⟨g1,0,none⟩=some (.string ⟨#[38,38]⟩)∧w'.cell? ⟨g2,0,none⟩=some (.string ⟨#[61,61]⟩)∧w'.cell? ⟨g2,1,none⟩=some (.string ⟨#[60]⟩)∧w'.cell? ⟨g3,0,none⟩=some (.string ⟨#[43]⟩)∧w'.cell? ⟨g3,1,none⟩=some (.string ⟨#[45]⟩)∧w'.cell? ⟨g4,0,none⟩=some (.string ⟨#[42]⟩)∧w'.cell? ⟨g4,1,none⟩=some (.string ⟨#[47]⟩)∧w.heap.size≤g0∧w.heap.size≤g1∧w.heap.size≤g2∧w.heap.size≤g3∧w.heap.size≤g4)∧StF w w':=by go_enter Tryz.func170,Tryz.ntmps170;go_wp2;refine bodyPost_ret (aY rfl _ w.heap.size 238 [.slice (some ⟨w.heap.size+1,0,none⟩) 1 1,.slice (some ⟨w.heap.size+1+1,0,none⟩) 1 1,.slice (some ⟨w.heap.size+1+1+1,0,none⟩) 2 2,.slice (some ⟨w.heap.size+1+1+1+1,0,none⟩) 2 2,.slice (some ⟨w.heap.size+1+1+1+1+1,0,none⟩) 2 2] _ rfl (aP (aP (aP (aP (aP (aC _ _)))))) Tryz.underlying238 rfl Tryz.O5) rfl ?_;exact⟨⟨_,_,_,_,_,rfl,aj (aP (aP (aP (aP (v_ _ _ _ (by simp)))))) 0 _ rfl,aj (aP (aP (aP (v_ _ _ _ (by simp))))) 0 _ rfl,aj (aP (aP (v_ _ _ _ (by simp)))) 0 _ rfl,aj (aP (aP (v_ _ _ _ (by simp)))) 1 _ rfl,aj (aP (v_ _ _ _ (by simp))) 0 _ rfl,aj (aP (v_ _ _ _ (by simp))) 1 _ rfl,aj (v_ _ _ _ (by simp)) 0 _ rfl,aj (v_ _ _ _ (by simp)) 1 _ rfl,by omega,by omega,by omega,by omega,by omega⟩,(((((bK.alloc _).alloc _).alloc _).alloc _).alloc _).alloc _⟩
def opS (o:Option (List UInt8)):ByteArray:=match o with|some s=>AQ s|none=>bZ
def opI (o:Option (List UInt8)) (i:Nat):Nat:=match o with|some _=>i+1|none=>i
def oN (R:gJ) (i d n:Nat) (w:World) (e:Ending) (w':World):Prop:=e=.returned (.string (opS (zQ R.l i n)))∧bI R w' (opI (zQ R.l i n) i) d∧Step (·=R.rb) w w'
theorem op_any (R:gJ) (hl:oZ R.l) (w:World) (i d n:Nat) (h:bI R w i d) (hn:n<5):Calls Tryz.prog 172 #[.agg #[eU R.rb 0],.int .i64 (n:Int)] w (oN R i d n w):=by
 have HL:=au hl;obtain⟨w1,hw1⟩:=aN (w.alloc (.cells #[eU R.rb 0] 97));have dH:=nS hw1
 have kL:=nB hw1
 have HW1:=au hw1;have H1:=au (h.quiet dH.o);have hrw:=aK h.blk;have cZ:Hid (∀X:World,Step (·=R.rb) w1 X→X.cell? ⟨w.heap.size,0,none⟩=some (.pointer (some ⟨R.rb,0,none⟩))):=fun X hX=>aj (hX.keep kL.o om) 0 _ rfl
 clear h hl hw1;rcases(show n=0∨n=1∨n=2∨n=3∨n=4 by omega)with rfl|rfl|rfl|rfl|rfl
 ·clear hn;go_enter Tryz.func172,Tryz.ntmps172;go_upto_region 1 with fail
  rw[←HW1.o];go_wp2_with fail;refine(pV w1).mono ?_;rintro e w2 ⟨⟨g0,g1,g2,g3,g4,rfl,hc⟩,h2⟩;have H2:=au (H1.o.quiet h2);have HC:=au hc;have HS2:=au h2;have Y9:=dH.o.size;have Vy:Hid (g0=R.rb→False):=by show _→_;have:=HC.o.2.2.2.2.2.2.2.2.1;omega
  have Vz:Hid (g1=R.rb→False):=by show _→_;have:=HC.o.2.2.2.2.2.2.2.2.2.1;omega
  have SQ:Hid (g2=R.rb→False):=by show _→_;have:=HC.o.2.2.2.2.2.2.2.2.2.2.1;omega
  have SS:Hid (g3=R.rb→False):=by show _→_;have:=HC.o.2.2.2.2.2.2.2.2.2.2.2.1;omega
  have SV:Hid (g4=R.rb→False):=by show _→_;have:=HC.o.2.2.2.2.2.2.2.2.2.2.2.2;omega
  have hix:∀(a0 a1 a2 a3 a4:Value) (w:World),(Instr.index 238 (.agg #[a0,a1,a2,a3,a4]) (.int .i64 0)).run Tryz.prog w=.ok a0 w:=fun _ _ _ _ _ _=>by kernel_rfl
  clear hc h2;go_wp2_with fail;go_loopg [6,11] 1 (fun gg s6 s11 wr=>∃k:Nat,s11=.int .i64 k∧k≤1∧1-k≤gg∧((opsL 0).drop k).find? (bF R.l i)=zQ R.l i 0∧bI R wr i d∧Step (·=R.rb) w2 wr);case atStart=>exact⟨0,rfl,Nat.zero_le _,by omega,rfl,H2.o,Step.refl _ _⟩
  case round=>
   obtain⟨k,rfl,hk,hgg,hfd,hr,hst⟩:=hrel;have mO:=au hfd;have HR:=au hr;have HST:=au hst;have pW:Hid (Step (·=R.rb) w1 wr):=(HS2.o.mono fe).trans hst;have p0:=cZ.o wr pW.o;clear hfd hr hst;rcases(show k=0∨k=1 by omega)with rfl|rfl
   ·have f0:wr.cell? ⟨g0,0,none⟩=some (.string ⟨#[124]⟩):=HST.o.cell (HC.o.1) (fun e=>Vy.o e);go_wp2_with fail;cases hb:bF R.l i [124]with
    |true=>have HB:=au hb;clear hb;refine(dA R HL.o ⟨#[124]⟩ _ i d HR.o dc HB.o).mono ?_;rintro e w4 ⟨rfl,hr4,h4⟩;have HR4:=au hr4;have gq:=au h4;clear hr4 h4 f0 p0;go_wp2_with fail;go_ret;(have ho:zQ R.l i 0=some [124]:=by rw[←mO.o];simp[opsL,HB.o]);unfold oN;rw[ho];exact⟨rfl,HR4.o,((dH.o.mono fe).trans pW.o).trans gq.o⟩
    |false=>
     have HB:=au hb;clear hb;refine(dQ R HL.o ⟨#[124]⟩ _ i d HR.o dc HB.o).mono ?_;rintro e w4 ⟨rfl,hr4,h4⟩;have HR4:=au hr4;have gq:=au h4;(have zV:Hid (((opsL 0).drop 1).find? (bF R.l i)=zQ R.l i 0):=by show _=_;rw[←mO.o];simp[opsL,HB.o]);clear hr4 h4 f0 p0;go_wp2_with fail;go_roundg (gk-1);case rel=>exact⟨1,rfl,by omega,by omega,zV.o,HR4.o,HST.o.trans gq.o⟩
     case measure=>omega
   ·clear p0;go_wp2_with fail;go_ret;(have ho:zQ R.l i 0=none:=by rw[←mO.o];rfl);unfold oN;rw[ho];exact⟨rfl,HR.o,(dH.o.mono fe).trans pW.o⟩
 ·clear hn;go_enter Tryz.func172,Tryz.ntmps172;go_upto_region 1 with fail
  rw[←HW1.o];go_wp2_with fail;refine(pV w1).mono ?_;rintro e w2 ⟨⟨g0,g1,g2,g3,g4,rfl,hc⟩,h2⟩;have H2:=au (H1.o.quiet h2);have HC:=au hc;have HS2:=au h2;have Y9:=dH.o.size;have Vy:Hid (g0=R.rb→False):=by show _→_;have:=HC.o.2.2.2.2.2.2.2.2.1;omega
  have Vz:Hid (g1=R.rb→False):=by show _→_;have:=HC.o.2.2.2.2.2.2.2.2.2.1;omega
  have SQ:Hid (g2=R.rb→False):=by show _→_;have:=HC.o.2.2.2.2.2.2.2.2.2.2.1;omega
  have SS:Hid (g3=R.rb→False):=by show _→_;have:=HC.o.2.2.2.2.2.2.2.2.2.2.2.1;omega
  have SV:Hid (g4=R.rb→False):=by show _→_;have:=HC.o.2.2.2.2.2.2.2.2.2.2.2.2;omega
  have hix:∀(a0 a1 a2 a3 a4:Value) (w:World),(Instr.index 238 (.agg #[a0,a1,a2,a3,a4]) (.int .i64 1)).run Tryz.prog w=.ok a1 w:=fun _ _ _ _ _ _=>by kernel_rfl
  clear hc h2;go_wp2_with fail;go_loopg [6,11] 1 (fun gg s6 s11 wr=>∃k:Nat,s11=.int .i64 k∧k≤1∧1-k≤gg∧((opsL 1).drop k).find? (bF R.l i)=zQ R.l i 1∧bI R wr i d∧Step (·=R.rb) w2 wr);case atStart=>exact⟨0,rfl,Nat.zero_le _,by omega,rfl,H2.o,Step.refl _ _⟩
  case round=>
   obtain⟨k,rfl,hk,hgg,hfd,hr,hst⟩:=hrel;have mO:=au hfd;have HR:=au hr;have HST:=au hst;have pW:Hid (Step (·=R.rb) w1 wr):=(HS2.o.mono fe).trans hst;have p0:=cZ.o wr pW.o;clear hfd hr hst;rcases(show k=0∨k=1 by omega)with rfl|rfl
   ·have f0:wr.cell? ⟨g1,0,none⟩=some (.string ⟨#[38,38]⟩):=HST.o.cell (HC.o.2.1) (fun e=>Vz.o e);go_wp2_with fail;cases hb:bF R.l i [38,38]with
    |true=>have HB:=au hb;clear hb;refine(dA R HL.o ⟨#[38,38]⟩ _ i d HR.o dc HB.o).mono ?_;rintro e w4 ⟨rfl,hr4,h4⟩;have HR4:=au hr4;have gq:=au h4;clear hr4 h4 f0 p0;go_wp2_with fail;go_ret;(have ho:zQ R.l i 1=some [38,38]:=by rw[←mO.o];simp[opsL,HB.o]);unfold oN;rw[ho];exact⟨rfl,HR4.o,((dH.o.mono fe).trans pW.o).trans gq.o⟩
    |false=>
     have HB:=au hb;clear hb;refine(dQ R HL.o ⟨#[38,38]⟩ _ i d HR.o dc HB.o).mono ?_;rintro e w4 ⟨rfl,hr4,h4⟩;have HR4:=au hr4;have gq:=au h4;(have zV:Hid (((opsL 1).drop 1).find? (bF R.l i)=zQ R.l i 1):=by show _=_;rw[←mO.o];simp[opsL,HB.o]);clear hr4 h4 f0 p0;go_wp2_with fail;go_roundg (gk-1);case rel=>exact⟨1,rfl,by omega,by omega,zV.o,HR4.o,HST.o.trans gq.o⟩
     case measure=>omega
   ·clear p0;go_wp2_with fail;go_ret;(have ho:zQ R.l i 1=none:=by rw[←mO.o];rfl);unfold oN;rw[ho];exact⟨rfl,HR.o,(dH.o.mono fe).trans pW.o⟩
 ·clear hn;go_enter Tryz.func172,Tryz.ntmps172;go_upto_region 1 with fail
  rw[←HW1.o];go_wp2_with fail;refine(pV w1).mono ?_;rintro e w2 ⟨⟨g0,g1,g2,g3,g4,rfl,hc⟩,h2⟩;have H2:=au (H1.o.quiet h2);have HC:=au hc;have HS2:=au h2;have Y9:=dH.o.size;have Vy:Hid (g0=R.rb→False):=by show _→_;have:=HC.o.2.2.2.2.2.2.2.2.1;omega
  have Vz:Hid (g1=R.rb→False):=by show _→_;have:=HC.o.2.2.2.2.2.2.2.2.2.1;omega
  have SQ:Hid (g2=R.rb→False):=by show _→_;have:=HC.o.2.2.2.2.2.2.2.2.2.2.1;omega
  have SS:Hid (g3=R.rb→False):=by show _→_;have:=HC.o.2.2.2.2.2.2.2.2.2.2.2.1;omega
  have SV:Hid (g4=R.rb→False):=by show _→_;have:=HC.o.2.2.2.2.2.2.2.2.2.2.2.2;omega
  have hix:∀(a0 a1 a2 a3 a4:Value) (w:World),(Instr.index 238 (.agg #[a0,a1,a2,a3,a4]) (.int .i64 2)).run Tryz.prog w=.ok a2 w:=fun _ _ _ _ _ _=>by kernel_rfl
  clear hc h2;go_wp2_with fail;go_loopg [6,11] 2 (fun gg s6 s11 wr=>∃k:Nat,s11=.int .i64 k∧k≤2∧2-k≤gg∧((opsL 2).drop k).find? (bF R.l i)=zQ R.l i 2∧bI R wr i d∧Step (·=R.rb) w2 wr);case atStart=>exact⟨0,rfl,Nat.zero_le _,by omega,rfl,H2.o,Step.refl _ _⟩
  case round=>
   obtain⟨k,rfl,hk,hgg,hfd,hr,hst⟩:=hrel;have mO:=au hfd;have HR:=au hr;have HST:=au hst;have pW:Hid (Step (·=R.rb) w1 wr):=(HS2.o.mono fe).trans hst;have p0:=cZ.o wr pW.o;clear hfd hr hst;rcases(show k=0∨k=1∨k=2 by omega)with rfl|rfl|rfl
   ·have f0:wr.cell? ⟨g2,0,none⟩=some (.string ⟨#[61,61]⟩):=HST.o.cell (HC.o.2.2.1) (fun e=>SQ.o e);go_wp2_with fail;cases hb:bF R.l i [61,61]with
    |true=>have HB:=au hb;clear hb;refine(dA R HL.o ⟨#[61,61]⟩ _ i d HR.o dc HB.o).mono ?_;rintro e w4 ⟨rfl,hr4,h4⟩;have HR4:=au hr4;have gq:=au h4;clear hr4 h4 f0 p0;go_wp2_with fail;go_ret;(have ho:zQ R.l i 2=some [61,61]:=by rw[←mO.o];simp[opsL,HB.o]);unfold oN;rw[ho];exact⟨rfl,HR4.o,((dH.o.mono fe).trans pW.o).trans gq.o⟩
    |false=>
     have HB:=au hb;clear hb;refine(dQ R HL.o ⟨#[61,61]⟩ _ i d HR.o dc HB.o).mono ?_;rintro e w4 ⟨rfl,hr4,h4⟩;have HR4:=au hr4;have gq:=au h4;(have zV:Hid (((opsL 2).drop 1).find? (bF R.l i)=zQ R.l i 2):=by show _=_;rw[←mO.o];simp[opsL,HB.o]);clear hr4 h4 f0 p0;go_wp2_with fail;go_roundg (gk-1);case rel=>exact⟨1,rfl,by omega,by omega,zV.o,HR4.o,HST.o.trans gq.o⟩
     case measure=>omega
   ·have f0:wr.cell? ⟨g2,1,none⟩=some (.string ⟨#[60]⟩):=HST.o.cell (HC.o.2.2.2.1) (fun e=>SQ.o e);go_wp2_with fail;cases hb:bF R.l i [60]with
    |true=>have HB:=au hb;clear hb;refine(dA R HL.o ⟨#[60]⟩ _ i d HR.o dc HB.o).mono ?_;rintro e w4 ⟨rfl,hr4,h4⟩;have HR4:=au hr4;have gq:=au h4;clear hr4 h4 f0 p0;go_wp2_with fail;go_ret;(have ho:zQ R.l i 2=some [60]:=by rw[←mO.o];simp[opsL,HB.o]);unfold oN;rw[ho];exact⟨rfl,HR4.o,((dH.o.mono fe).trans pW.o).trans gq.o⟩
    |false=>
     have HB:=au hb;clear hb;refine(dQ R HL.o ⟨#[60]⟩ _ i d HR.o dc HB.o).mono ?_;rintro e w4 ⟨rfl,hr4,h4⟩;have HR4:=au hr4;have gq:=au h4;(have zV:Hid (((opsL 2).drop 2).find? (bF R.l i)=zQ R.l i 2):=by show _=_;rw[←mO.o];simp[opsL,HB.o]);clear hr4 h4 f0 p0;go_wp2_with fail;go_roundg (gk-1);case rel=>exact⟨2,rfl,by omega,by omega,zV.o,HR4.o,HST.o.trans gq.o⟩
     case measure=>omega
   ·clear p0;go_wp2_with fail;go_ret;(have ho:zQ R.l i 2=none:=by rw[←mO.o];rfl);unfold oN;rw[ho];exact⟨rfl,HR.o,(dH.o.mono fe).trans pW.o⟩
 ·clear hn;go_enter Tryz.func172,Tryz.ntmps172;go_upto_region 1 with fail
  rw[←HW1.o];go_wp2_with fail;refine(pV w1).mono ?_;rintro e w2 ⟨⟨g0,g1,g2,g3,g4,rfl,hc⟩,h2⟩;have H2:=au (H1.o.quiet h2);have HC:=au hc;have HS2:=au h2;have Y9:=dH.o.size;have Vy:Hid (g0=R.rb→False):=by show _→_;have:=HC.o.2.2.2.2.2.2.2.2.1;omega
  have Vz:Hid (g1=R.rb→False):=by show _→_;have:=HC.o.2.2.2.2.2.2.2.2.2.1;omega
  have SQ:Hid (g2=R.rb→False):=by show _→_;have:=HC.o.2.2.2.2.2.2.2.2.2.2.1;omega
  have SS:Hid (g3=R.rb→False):=by show _→_;have:=HC.o.2.2.2.2.2.2.2.2.2.2.2.1;omega
  have SV:Hid (g4=R.rb→False):=by show _→_;have:=HC.o.2.2.2.2.2.2.2.2.2.2.2.2;omega
  have hix:∀(a0 a1 a2 a3 a4:Value) (w:World),(Instr.index 238 (.agg #[a0,a1,a2,a3,a4]) (.int .i64 3)).run Tryz.prog w=.ok a3 w:=fun _ _ _ _ _ _=>by kernel_rfl
  clear hc h2;go_wp2_with fail;go_loopg [6,11] 2 (fun gg s6 s11 wr=>∃k:Nat,s11=.int .i64 k∧k≤2∧2-k≤gg∧((opsL 3).drop k).find? (bF R.l i)=zQ R.l i 3∧bI R wr i d∧Step (·=R.rb) w2 wr);case atStart=>exact⟨0,rfl,Nat.zero_le _,by omega,rfl,H2.o,Step.refl _ _⟩
  case round=>
   obtain⟨k,rfl,hk,hgg,hfd,hr,hst⟩:=hrel;have mO:=au hfd;have HR:=au hr;have HST:=au hst;have pW:Hid (Step (·=R.rb) w1 wr):=(HS2.o.mono fe).trans hst;have p0:=cZ.o wr pW.o;clear hfd hr hst;rcases(show k=0∨k=1∨k=2 by omega)with rfl|rfl|rfl
   ·have f0:wr.cell? ⟨g3,0,none⟩=some (.string ⟨#[43]⟩):=HST.o.cell (HC.o.2.2.2.2.1) (fun e=>SS.o e);go_wp2_with fail;cases hb:bF R.l i [43]with
    |true=>have HB:=au hb;clear hb;refine(dA R HL.o ⟨#[43]⟩ _ i d HR.o dc HB.o).mono ?_;rintro e w4 ⟨rfl,hr4,h4⟩;have HR4:=au hr4;have gq:=au h4;clear hr4 h4 f0 p0;go_wp2_with fail;go_ret;(have ho:zQ R.l i 3=some [43]:=by rw[←mO.o];simp[opsL,HB.o]);unfold oN;rw[ho];exact⟨rfl,HR4.o,((dH.o.mono fe).trans pW.o).trans gq.o⟩
    |false=>
     have HB:=au hb;clear hb;refine(dQ R HL.o ⟨#[43]⟩ _ i d HR.o dc HB.o).mono ?_;rintro e w4 ⟨rfl,hr4,h4⟩;have HR4:=au hr4;have gq:=au h4;(have zV:Hid (((opsL 3).drop 1).find? (bF R.l i)=zQ R.l i 3):=by show _=_;rw[←mO.o];simp[opsL,HB.o]);clear hr4 h4 f0 p0;go_wp2_with fail;go_roundg (gk-1);case rel=>exact⟨1,rfl,by omega,by omega,zV.o,HR4.o,HST.o.trans gq.o⟩
     case measure=>omega
   ·have f0:wr.cell? ⟨g3,1,none⟩=some (.string ⟨#[45]⟩):=HST.o.cell (HC.o.2.2.2.2.2.1) (fun e=>SS.o e);go_wp2_with fail;cases hb:bF R.l i [45]with
    |true=>have HB:=au hb;clear hb;refine(dA R HL.o ⟨#[45]⟩ _ i d HR.o dc HB.o).mono ?_;rintro e w4 ⟨rfl,hr4,h4⟩;have HR4:=au hr4;have gq:=au h4;clear hr4 h4 f0 p0;go_wp2_with fail;go_ret;(have ho:zQ R.l i 3=some [45]:=by rw[←mO.o];simp[opsL,HB.o]);unfold oN;rw[ho];exact⟨rfl,HR4.o,((dH.o.mono fe).trans pW.o).trans gq.o⟩
    |false=>
     have HB:=au hb;clear hb;refine(dQ R HL.o ⟨#[45]⟩ _ i d HR.o dc HB.o).mono ?_;rintro e w4 ⟨rfl,hr4,h4⟩;have HR4:=au hr4;have gq:=au h4;(have zV:Hid (((opsL 3).drop 2).find? (bF R.l i)=zQ R.l i 3):=by show _=_;rw[←mO.o];simp[opsL,HB.o]);clear hr4 h4 f0 p0;go_wp2_with fail;go_roundg (gk-1);case rel=>exact⟨2,rfl,by omega,by omega,zV.o,HR4.o,HST.o.trans gq.o⟩
     case measure=>omega
   ·clear p0;go_wp2_with fail;go_ret;(have ho:zQ R.l i 3=none:=by rw[←mO.o];rfl);unfold oN;rw[ho];exact⟨rfl,HR.o,(dH.o.mono fe).trans pW.o⟩
 ·clear hn;go_enter Tryz.func172,Tryz.ntmps172;go_upto_region 1 with fail
  rw[←HW1.o];go_wp2_with fail;refine(pV w1).mono ?_;rintro e w2 ⟨⟨g0,g1,g2,g3,g4,rfl,hc⟩,h2⟩;have H2:=au (H1.o.quiet h2);have HC:=au hc;have HS2:=au h2;have Y9:=dH.o.size;have Vy:Hid (g0=R.rb→False):=by show _→_;have:=HC.o.2.2.2.2.2.2.2.2.1;omega
  have Vz:Hid (g1=R.rb→False):=by show _→_;have:=HC.o.2.2.2.2.2.2.2.2.2.1;omega
  have SQ:Hid (g2=R.rb→False):=by show _→_;have:=HC.o.2.2.2.2.2.2.2.2.2.2.1;omega
  have SS:Hid (g3=R.rb→False):=by show _→_;have:=HC.o.2.2.2.2.2.2.2.2.2.2.2.1;omega
  have SV:Hid (g4=R.rb→False):=by show _→_;have:=HC.o.2.2.2.2.2.2.2.2.2.2.2.2;omega
  have hix:∀(a0 a1 a2 a3 a4:Value) (w:World),(Instr.index 238 (.agg #[a0,a1,a2,a3,a4]) (.int .i64 4)).run Tryz.prog w=.ok a4 w:=fun _ _ _ _ _ _=>by kernel_rfl
  clear hc h2;go_wp2_with fail;go_loopg [6,11] 2 (fun gg s6 s11 wr=>∃k:Nat,s11=.int .i64 k∧k≤2∧2-k≤gg∧((opsL 4).drop k).find? (bF R.l i)=zQ R.l i 4∧bI R wr i d∧Step (·=R.rb) w2 wr);case atStart=>exact⟨0,rfl,Nat.zero_le _,by omega,rfl,H2.o,Step.refl _ _⟩
  case round=>
   obtain⟨k,rfl,hk,hgg,hfd,hr,hst⟩:=hrel;have mO:=au hfd;have HR:=au hr;have HST:=au hst;have pW:Hid (Step (·=R.rb) w1 wr):=(HS2.o.mono fe).trans hst;have p0:=cZ.o wr pW.o;clear hfd hr hst;rcases(show k=0∨k=1∨k=2 by omega)with rfl|rfl|rfl
   ·have f0:wr.cell? ⟨g4,0,none⟩=some (.string ⟨#[42]⟩):=HST.o.cell (HC.o.2.2.2.2.2.2.1) (fun e=>SV.o e);go_wp2_with fail;cases hb:bF R.l i [42]with
    |true=>have HB:=au hb;clear hb;refine(dA R HL.o ⟨#[42]⟩ _ i d HR.o dc HB.o).mono ?_;rintro e w4 ⟨rfl,hr4,h4⟩;have HR4:=au hr4;have gq:=au h4;clear hr4 h4 f0 p0;go_wp2_with fail;go_ret;(have ho:zQ R.l i 4=some [42]:=by rw[←mO.o];simp[opsL,HB.o]);unfold oN;rw[ho];exact⟨rfl,HR4.o,((dH.o.mono fe).trans pW.o).trans gq.o⟩
    |false=>
     have HB:=au hb;clear hb;refine(dQ R HL.o ⟨#[42]⟩ _ i d HR.o dc HB.o).mono ?_;rintro e w4 ⟨rfl,hr4,h4⟩;have HR4:=au hr4;have gq:=au h4;(have zV:Hid (((opsL 4).drop 1).find? (bF R.l i)=zQ R.l i 4):=by show _=_;rw[←mO.o];simp[opsL,HB.o]);clear hr4 h4 f0 p0;go_wp2_with fail;go_roundg (gk-1);case rel=>exact⟨1,rfl,by omega,by omega,zV.o,HR4.o,HST.o.trans gq.o⟩
     case measure=>omega
   ·have f0:wr.cell? ⟨g4,1,none⟩=some (.string ⟨#[47]⟩):=HST.o.cell (HC.o.2.2.2.2.2.2.2.1) (fun e=>SV.o e);go_wp2_with fail;cases hb:bF R.l i [47]with
    |true=>have HB:=au hb;clear hb;refine(dA R HL.o ⟨#[47]⟩ _ i d HR.o dc HB.o).mono ?_;rintro e w4 ⟨rfl,hr4,h4⟩;have HR4:=au hr4;have gq:=au h4;clear hr4 h4 f0 p0;go_wp2_with fail;go_ret;(have ho:zQ R.l i 4=some [47]:=by rw[←mO.o];simp[opsL,HB.o]);unfold oN;rw[ho];exact⟨rfl,HR4.o,((dH.o.mono fe).trans pW.o).trans gq.o⟩
    |false=>
     have HB:=au hb;clear hb;refine(dQ R HL.o ⟨#[47]⟩ _ i d HR.o dc HB.o).mono ?_;rintro e w4 ⟨rfl,hr4,h4⟩;have HR4:=au hr4;have gq:=au h4;(have zV:Hid (((opsL 4).drop 2).find? (bF R.l i)=zQ R.l i 4):=by show _=_;rw[←mO.o];simp[opsL,HB.o]);clear hr4 h4 f0 p0;go_wp2_with fail;go_roundg (gk-1);case rel=>exact⟨2,rfl,by omega,by omega,zV.o,HR4.o,HST.o.trans gq.o⟩
     case measure=>omega
   ·clear p0;go_wp2_with fail;go_ret;(have ho:zQ R.l i 4=none:=by rw[←mO.o];rfl);unfold oN;rw[ho];exact⟨rfl,HR.o,(dH.o.mono fe).trans pW.o⟩
end Go.Proofs.YtppekkbaoimpgaaGreat
