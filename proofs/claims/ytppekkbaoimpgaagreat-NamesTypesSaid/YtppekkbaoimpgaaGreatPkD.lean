/- TyC, UnA, UnB, LevA -/
import Derived.Test.YtppekkbaoimpgaaGreatPkC
import Derived.Deep.RegionHeld3
set_option maxRecDepth 100000
set_option maxHeartbeats 8000000
namespace Go.Proofs.YtppekkbaoimpgaaGreat
open Go.RowKit
open Vt
theorem Tryz.qf:(Tryz.prog.info? 9).map (fun i=>(i.zero,i.size,i.bytes))=some (some (.string ⟨#[]⟩),1,16):=by kernel_rfl
theorem Tryz.Oq:(Tryz.prog.info? 46).map (fun i=>(i.zero,i.size,i.bytes))=some (some (.agg #[ah 0,bP,bP,aO,au,au,ah 0,ah 0]),8,112):=by kernel_rfl
theorem ji {w w':World} {base:Nat} {e:TypeId} {size:Nat} {v:Value} {n:Nat} {xs:List Value} {S:Nat→Prop} (h:w.ownsRow base e size v n xs) (hs:Step S w w') (hn:∀q,v.ownBlock=some q→¬S q):w'.ownsRow base e size v n xs:=by
 refine⟨h.1,?_⟩;rcases h.2 with hz|⟨g,cap,cur,rfl,hb,hgg,rest⟩
 ·exact .inl hz
 ·exact .inr ⟨g,cap,cur,rfl,hb,hs.keep hgg (hn g rfl),rest⟩
structure qg (R:fV) (w1:World) (bt:Nat) (k:Int) (nm:ByteArray) (t:Tok) (d:Nat) (X:World) (i':Nat) (ls:List ByteArray) (ts:List Ty) (vl va:Value) (xs:List Value):Prop where
 rd:bC R X i' d
 blk:X.heap[bt]?=some (.cells #[ah k,aY nm,aK,aO,vl,va,ah t.line,ah t.col] 46 (0,0))
 ol:X.ownsRow w1.heap.size 9 1 vl ls.length (ls.map .string)
 oa:X.ownsRow w1.heap.size 46 8 va ts.length xs
 el:fP X (fun q=>w1.heap.size≤q∧va.ownBlock≠some q∧vl.ownBlock≠some q) ts xs
 ne:∀q,vl.ownBlock=some q→va.ownBlock≠some q
 sz:∀s∈ls,s.size≤9223372036854775807
 few:ls.length+ts.length≤9
 st:Step (fun k=>k=R.rb∨k=bt) w1 X
theorem qg.quiet {R:fV} {w1:World} {bt:Nat} {k:Int} {nm:ByteArray} {t:Tok} {d:Nat} {X X':World} {i':Nat} {ls:List ByteArray} {ts:List Ty} {vl va:Value} {xs:List Value} (h:qg R w1 bt k nm t d X i' ls ts vl va xs) (hs:Step (fun _=>False) X X'):qg R w1 bt k nm t d X' i' ls ts vl va xs:=
 ⟨h.rd.quiet hs,hs.keep h.blk (fun h=>h),hs.owns h.ol (fun _ _ h=>h),hs.owns h.oa (fun _ _ h=>h),fP.step hs (fun _ _ h=>h) _ _ h.el,h.ne,h.sz,h.few,h.st.trans (hs.mono fe)⟩
theorem qg.read {R:fV} {w1:World} {bt:Nat} {k:Int} {nm:ByteArray} {t:Tok} {d:Nat} {X X':World} {i' i2:Nat} {ls:List ByteArray} {ts:List Ty} {vl va:Value} {xs:List Value} (h:qg R w1 bt k nm t d X i' ls ts vl va xs) (hrb:R.rb<bt) (hw:R.rb<w1.heap.size) (hr:bC R X' i2 d) (hs:Step (·=R.rb) X X'):qg R w1 bt k nm t d X' i2 ls ts vl va xs:=
 ⟨hr,hs.keep h.blk om,hs.owns h.ol oi,hs.owns h.oa oi,fP.step hs (fun _ hk h=>by have:=hk.1;omega) _ _ h.el,h.ne,h.sz,h.few,h.st.trans (hs.mono il)⟩
theorem qg.pushL {R:fV} {w1:World} {bt:Nat} {k:Int} {nm:ByteArray} {t:Tok} {d:Nat} {X X2 X3:World} {i':Nat} {ls:List ByteArray} {ts:List Ty} {vl va v9:Value} {xs:List Value} {s:ByteArray} (h:qg R w1 bt k nm t d X i' ls ts vl va xs) (hrb:R.rb<bt) (hbt:bt<w1.heap.size) (h2:Step (fun _=>False) X X2) (hown:X3.ownsRow w1.heap.size 9 1 v9 (ls.length+1) (ls.map .string++[.string s])) (hgrow:X2.grownBy X3 vl.ownBlock) (hat:v9.ownBlock=vl.ownBlock∨v9.ownBlock=some X2.heap.size) (hs:s.size≤9223372036854775807) (hlt:ls.length+ts.length<8):qg R w1 bt k nm t d (X3.setCell ⟨bt,4,none⟩ v9) i' (ls++[s]) ts v9 va xs:=by
 have h3:Step (fun q=>vl.ownBlock=some q) X2 X3:=bM hgrow;have h4:Step (·=bt) X3 (X3.setCell ⟨bt,4,none⟩ v9):=bJ.setCell _ _ iI;have ho:∀q,vl.ownBlock=some q→w1.heap.size≤q∧q<X.heap.size:=fun q hq=>h.ol.lt q hq;have hlen:(ls++[s]).length=ls.length+1:=by simp
 have hb3:=h3.keep (h2.keep h.blk (fun h=>h)) (fun e=>by have:=(ho bt e).1;omega);refine⟨((h.rd.quiet h2).step h3 (fun q hq e=>by have:=(ho q e).1;omega)).step h4 oi,aV hb3 4 v9,?_,?_,?_,?_,?_,by rw[hlen];omega,?_⟩
 ·rw[hlen,List.map_append];exact ji hown h4 (fun q hq e=>by have:=(hown.lt q hq).1;omega)
 ·refine ji (ji (h2.owns h.oa (fun _ _ h=>h)) h3 (fun q hq e=>h.ne q e hq)) h4 (fun q hq e=>by have:=(h.oa.lt q hq).1;omega)
 ·have h5:=fP.mono (P':=fun q=>(w1.heap.size≤q∧va.ownBlock≠some q∧vl.ownBlock≠some q)∧q<X.heap.size) (fun q h7 h8=>⟨h8,h7⟩) _ _ h.el;have h6:=fP.step h4 (fun q hq e=>by have:=hq.1.1;omega) _ _ (fP.step h3 (fun q hq e=>hq.1.2.2 e) _ _ (fP.step h2 (fun _ _ h=>h) _ _ h5));refine fP.mono (fun q _ hq=>⟨hq.1.1,hq.1.2.1,fun e=> ?_⟩) _ _ h6;rcases hat with h7|h7
  ·exact hq.1.2.2 (by rw[←h7];exact e)
  ·rw[h7]at e;have e2:X2.heap.size=q:=Option.some.inj e;have:=h2.size;have:=hq.2;omega
 ·intro q hq e;rcases hat with h7|h7
  ·exact h.ne q (by rw[←h7];exact hq) e
  ·rw[h7]at hq;have e2:X2.heap.size=q:=Option.some.inj hq;have:=(h.oa.lt q e).2;have:=h2.size;omega
 ·intro x hx;rcases List.mem_append.1 hx with hx|hx
  ·exact h.sz x hx
  ·rw[List.mem_singleton.1 hx];exact hs
 ·refine((h.st.trans (h2.mono fe)).then h3 (fun q hq e=>by have:=(ho q e).1;omega)).trans (h4.mono ir)
theorem Ot (f:Nat) (ih:∀f',f'<f→oP f'):Dh f:=by
 intro R w i d bt k nm t hl h hd hrb hbt hno;have HL:=ak hl;have H0:=ak h;have eH:=ak hno;have IH:=ak ih;obtain⟨r,hr⟩:=aU (AX f R.l i d);have HRR:=ak hr;rw[←hr]at hno⊢;have eH:=ak hno;have hbl:=aI hbt;obtain⟨w1,hw1⟩:=aU (w.alloc (.cells #[dY R.rb 0] 97));have cZ:Hid (Step (fun _=>False) w w1):=by show Step _ _ _;rw[hw1];exact bJ.alloc _
 have jL:Hid (w1.heap[w.heap.size]?=some (.cells #[dY R.rb 0] 97 (0,0))):=by show _=_;rw[hw1];exact aA _ _
 have EG:=ak (cZ.o.keep hbt (fun h=>h));have HW1:=ak hw1;have H1:=ak (h.quiet cZ.o);have hw1s:=aI jL.o;have bY:Hid (∀X:World,Step (fun k=>k=R.rb∨k=bt) w1 X→X.cell? ⟨w.heap.size,0,none⟩=some (.pointer (some ⟨R.rb,0,none⟩))):=by show∀X,_;intro X hX;exact aj (hX.keep jL.o om) 0 _ rfl
 have p0:=bY.o w1 bJ;obtain⟨i0,hi0,hz0,hz1,hz2⟩:=info_parts Tryz.qf;have HI:=ak hi0;have HZ0:=ak hz0;have HZ1:=ak hz1;have HZ2:=ak hz2;obtain⟨j0,hj0,hy0,hy1,hy2⟩:=info_parts Tryz.Oq;have HJ:=ak hj0;have HY0:=ak hy0;have HY1:=ak hy1;have HY2:=ak hy2;clear ih hl h hno hr hbt hw1 hi0 hz0 hz1 hz2 hj0 hy0 hy1 hy2;go_enter Tryz.func115,Tryz.ntmps115;go_upto_region 1 with fail
 rw[←HW1.o];go_wp2_with fail;cases hb:bD R.l i [60]with
 |false=>have HB:=ak hb;clear hb;refine(dJ R HL.o ⟨#[60]⟩ _ i d H1.o dc HB.o).mono ?_;rintro e w2 ⟨rfl,hr2,h2⟩;have HR2:=ak hr2;have HS2:=ak h2;clear hr2 h2 p0;go_wp2_with fail;refine bodyPost_ret (results_none rfl _ _ _) rfl ?_;rw[HRR.o,AX,HB.o,if_neg dc];exact⟨rfl,⟨.slice none 0 0,.slice none 0 0,[],HS2.o.keep EG.o om,nJ,di.nil _ _ _,by rw[fP],di.nil _ _ _⟩,HR2.o,((cZ.o.mono fe).trans HS2.o).mono il⟩
 |true=>
  have HB:=ak hb;have wX:Hid (r=m_ f R.l (i+1) d [] []):=by show _=_;rw[HRR.o,AX,hb,if_pos rfl]
  clear hb;refine(cO R HL.o ⟨#[60]⟩ _ i d H1.o dc HB.o).mono ?_;rintro e w2 ⟨rfl,hr2,h2⟩;have HR2:=ak hr2;have HS2:=ak h2;have pW:=ak (h2.keep EG.o om);clear hr2 h2 p0;go_wp2_with fail;go_loopg [] f (fun gg wr=>gg≤f∧∃(i':Nat) (ls:List ByteArray) (ts:List Ty) (vl va:Value) (xs:List Value),r=m_ gg R.l i' d ls ts∧qg R w1 bt k nm t d wr i' ls ts vl va xs);case atStart=>exact⟨Nat.le_refl _,i+1,[],[],.slice none 0 0,.slice none 0 0,[],wX.o,HR2.o,pW.o,World.ownsRow_nil _ _ _ _,World.ownsRow_nil _ _ _ _,by rw[fP],nJ,nJ,by simp,HS2.o.mono il⟩
  case round=>
   obtain⟨hgf,i',ls,ts,vl,va,xs,hrq,hst⟩:=hrel;have Y1:=ak hrq;have HST:=ak hst;obtain⟨gn,rfl⟩:∃gn,gk=gn+1:=by
    cases gk with
    |zero=>exact absurd hrq (by rw[m_];exact eH.o)
    |succ gn=>exact⟨gn,rfl⟩
   obtain⟨EH,EI,rfl⟩:=a_ hst.ol;obtain⟨qJ,qK,rfl⟩:=a_ hst.oa;have p0:=bY.o wr hst.st;have z_:=aj hst.blk 4 _ rfl;have xM:=aj hst.blk 5 _ rfl;have hfew:=hst.few;(have sS:Hid (r=(d_ (ls.length+ts.length) 8 R.l i').bind fun _ i=>(if(tokA R.l i).kind=2∧ts.length=0 then(jA R.l i).bind fun x j=>.ok (ls++[x],ts) j else(jT gn R.l i d).bind fun x j=>.ok (ls,ts++[x]) j).bind fun p j=>if bD R.l j [44]then m_ gn R.l (j+1) d p.1 p.2 else(aH R.l j [62]).bind fun _ j=>.ok p j):=by show _=_;rw[Y1.o,m_]);clear hrq hst;(go_upto_region 2 with fail);go_still_tail 12,kr;change wpList _ _ _ _ _ wr.drew;have tN:Hid (qg R w1 bt k nm t d wr.drew i' ls ts (.slice EH ls.length EI) (.slice qJ ts.length qK) xs):=HST.o.quiet (bJ.drew);obtain⟨wd,hwd⟩:=aU wr.drew;rw[←hwd]at tN⊢;(have HX0:Hid (Step (fun _=>False) wr wd):=by show Step _ _ _;rw[hwd];exact bJ.drew);clear hwd p0 z_ xM;have p0:=bY.o wd tN.o.st;have z_:=aj tN.o.blk 4 _ rfl;have xM:=aj tN.o.blk 5 _ rfl;(have el1:IntKind.i64.wrap ((ls.length:Int)+(ts.length:Int))=((ls.length+ts.length:Nat):Int):=by rw[show((ls.length:Int)+(ts.length:Int))=((ls.length+ts.length:Nat):Int) by omega];exact IntWalk.i64_in _ om);go_wp2_with fail;have hrm:Calls Tryz.prog 84 #[.agg #[dY R.rb 0],.int .i64 ((ls.length:Int)+(ts.length:Int)),.int .i64 8] wd (aJ R d iC (d_ (ls.length+ts.length) 8 R.l i') wd):=lS R wd (ls.length+ts.length) 8 i' d tN.o.rd;have HRM:=ak hrm;clear hrm;refine HRM.o.mono ?_;rintro e w3 hp;cases hn:d_ (ls.length+ts.length) 8 R.l i' with
   |out=>exact(kH hn).elim
   |err c ln col=>rw[hn]at hp;obtain⟨rfl,s3⟩:=hp;refine⟨rfl,?_⟩;rw[sS.o,hn];exact⟨rfl,((cZ.o.mono fe).trans (tN.o.st)).trans (s3.mono il)⟩
   |ok u j=>
    have hji:j=i'∧ls.length+ts.length<8:=by
     unfold d_ at hn;split at hn
     ·cases hn
     ·cases hn;exact⟨rfl,by omega⟩
    obtain⟨rfl,GH⟩:=hji;have HN:=ak hn;rw[hn]at hp;obtain⟨⟨v,rfl,rfl⟩,hr3,s3⟩:=hp;have fJ:=ak (tN.o.read hrb om hr3 s3);(have kU:Hid (r=(if(tokA R.l j).kind=2∧ts.length=0 then(jA R.l j).bind fun x j=>.ok (ls++[x],ts) j else(jT gn R.l j d).bind fun x j=>.ok (ls,ts++[x]) j).bind fun p j=>if bD R.l j [44]then m_ gn R.l (j+1) d p.1 p.2 else(aH R.l j [62]).bind fun _ j=>.ok p j):=by show _=_;rw[sS.o,HN.o];rfl);clear hn hr3 s3 p0 z_ xM;have p0:=bY.o w3 fJ.o.st;have xM:=aj fJ.o.blk 5 _ rfl;(have hfd0:∀(a0 a1 a2 a3 a4:Value) (w:World),(Instr.field 157 (.agg #[a0,a1,a2,a3,a4]) 0).run Tryz.prog w=.ok a0 w:=fun _ _ _ _ _ _=>by kernel_rfl);obtain⟨tk,htk⟩:=aU (tokA R.l j);have J7:=ak htk;have YP:=ak (kP R w3 j d tk fJ.o.rd (by rw[htk];exact fJ.o.rd.tok));clear htk;obtain⟨bz,hbz⟩:∃bz,((ts.length:Int)==0)=bz:=⟨_,rfl⟩;obtain⟨bk,hbk⟩:∃bk,((tk.kind:Int)==2)=bk:=⟨_,rfl⟩;have HBZ:=ak hbz;have f_:=ak hbk;(go_upto_region 3 with fail);go_cut [33] (fun s33 wx=>s33=.bool (bk&&bz)∧qg R w1 bt k nm t d wx j ls ts (.slice EH ls.length EI) (.slice qJ ts.length qK) xs);case first=>
     go_wp2_with fail;refine YP.o.mono ?_;rintro e w4 ⟨rfl,s4⟩;have eP:=ak (fJ.o.quiet s4);clear s4 p0 xM;have p0:=bY.o w4 eP.o.st;have xM:=aj eP.o.blk 5 _ rfl;cases bk with
     |false=>go_wp2_with fail;go_meet;case rel=>exact⟨rfl,eP.o⟩
     |true=>go_wp2_with fail;go_meet;case rel=>exact⟨rfl,eP.o⟩
    case rest=>
     obtain⟨rfl,uM⟩:=hcut;obtain⟨w4,rfl⟩:=aU wc;have eP:=ak uM;(have QX:Hid ((bk&&bz)=decide ((tokA R.l j).kind=2∧ts.length=0)):=by show _=_;rw[←f_.o,←HBZ.o,J7.o,jS _ 2 2 rfl,jS _ 0 0 rfl,Bool.eq_iff_iff];simp);obtain⟨bc,hbc⟩:=aU (bk&&bz);rw[←hbc]at QX⊢;clear uM hbc hbz hbk p0 xM;(go_upto_if 33 with fail);go_cut [] (fun wx=>∃(i2:Nat) (QY:List ByteArray) (QZ:List Ty) (Y2 KJ:Value) (KL:List Value),r=(if bD R.l i2 [44]then m_ gn R.l (i2+1) d QY QZ else(aH R.l i2 [62]).bind fun _ j=>.ok (QY,QZ) j)∧qg R w1 bt k nm t d wx i2 QY QZ Y2 KJ KL);case first=>
      cases bc with
      |true=>
       obtain⟨hk2,hz2⟩:=of_decide_eq_true QX.o.symm;(have Ou:Hid (jA R.l j=.ok (zS (tokA R.l j).text) (j+1)):=by show _=_;unfold jA;rw[if_pos hk2]);obtain⟨s,hs⟩:=aU (zS (tokA R.l j).text);(have Xz:Hid (s.size≤9223372036854775807):=by show _≤_;rw[hs];exact I8 HL.o eP.o.rd.lt);rw[←hs]at Ou;(have FD:Hid (r=(if bD R.l (j+1) [44]then m_ gn R.l (j+1+1) d (ls++[s]) ts else(aH R.l (j+1) [62]).bind fun _ j=>.ok (ls++[s],ts) j)):=by show _=_;rw[kU.o,if_pos ⟨hk2,hz2⟩,Ou.o];rfl);clear hk2 hz2 hs;(have HLIFE:Hid (∀X,bC R X j d→Calls Tryz.prog 114 #[.agg #[dY R.rb 0]] X fun e w'=>e=.returned (.string s)∧bC R w' (j+1) d∧Step (·=R.rb) X w'):=by show∀X,_;intro X hX;refine(uZ R HL.o X j d hX).mono ?_;intro e w' hp;rw[Ou.o]at hp;obtain⟨⟨v,he,hv⟩,h1,h2⟩:=hp;exact⟨by rw[he,hv],h1,h2⟩);have p0:=bY.o w4 eP.o.st;have z_:=aj eP.o.blk 4 _ rfl;(go_upto_region 4 with fail);first
       |(go_region_law (first
           |(refine mM _ rfl (w8.heap.size+1) (.tmp 38) (.tmp 41) 40 rfl w1.heap.size 9 i0 (.string ⟨#[]⟩) 1 16 Tryz.underlying40 HI.o HZ0.o HZ1.o HZ2.o rfl dc _ _ _ (by simp[Act.eval]) Q5.o _ 1 _ (by simp[Act.eval]) Jd.o rfl Je.o (by unfold maxLen;omega) om Q7.o ?_;intro v9 w9 gG gm nM;obtain⟨a9,c9,rfl⟩:=a_ gG;have kK:Hid (qg R w1 bt k nm t d (w9.setCell ⟨bt,4,none⟩ (.slice a9 (ls.length+1) c9)) (j+1) (ls++[s]) ts (.slice a9 (ls.length+1) c9) (.slice qJ ts.length qK) xs):=jk.o.pushL hrb om (bJ.alloc _) gG gm nM Xz.o GH;have hbb:=(bM gm).keep (aN (o':=.cells #[aY s] 9) jk.o.blk) (fun e=>by have:=(jk.o.ol.lt _ e).1;omega);have bt4':=aj hbb 4 _ rfl;have bz4':=aG hbb 4;clear hbb gG gm nM)
           |(go_simp;go_at_call 114;refine(HLIFE.o _ (eP.o.rd.quiet (bJ.drew))).mono ?_;rintro e8 w8 ⟨rfl,tJ,hs8⟩;have jk:=ak ((eP.o.quiet (bJ.drew)).read hrb om tJ hs8);have Q5:Hid ((w8.alloc (.cells #[aY s] 9)).ownsRow w1.heap.size 9 1 (.slice EH ls.length EI) ls.length (ls.map .string)):=jk.o.ol.alloc _;have Jd:Hid (Row (w8.alloc (.cells #[aY s] 9)) (w8.heap.size+1) (.slice (some ⟨w8.heap.size,0,none⟩) 1 1) 1 [.string s]):=Row.new (aA _ _) dc;have Je:Hid (∀u∈[Value.string s],u.oneCell'=true):=by
              show∀u∈_,_
              intro u hu
              simp at hu
              subst hu;rfl
             have Q7:Hid (w1.heap.size≤(w8.alloc (.cells #[aY s] 9)).heap.size):=by
              show _≤_
              have:=jk.o.st.size
              simp;omega
             have bt48:=aj jk.o.blk 4 _ rfl
             have bt49:=aj (aN (o':=.cells #[aY s] 9) jk.o.blk) 4 _ rfl
             clear tJ hs8)))
       |fail
       all_goals (
        clear p0 z_
        go_wp2_with fail
        go_meet
        case rel=>exact⟨j+1,ls++[s],ts,_,_,xs,FD.o,kK.o⟩)
      |false=>
       have hcn:¬((tokA R.l j).kind=2∧ts.length=0):=of_decide_eq_false QX.o.symm;(have FD:Hid (r=(jT gn R.l j d).bind fun x i2=>if bD R.l i2 [44]then m_ gn R.l (i2+1) d ls (ts++[x])else(aH R.l i2 [62]).bind fun _ j=>.ok (ls,ts++[x]) j):=by show _=_;rw[kU.o,if_neg hcn];cases jT gn R.l j d<;>rfl);clear hcn;have IB:Hid (∀X:World,Step (fun q=>q=R.rb∨q=bt∨(Value.slice qJ ts.length qK).ownBlock=some q) w4 X→X.cell? ⟨w.heap.size,0,none⟩=some (.pointer (some ⟨R.rb,0,none⟩))):=by
        show∀X,_;intro X hX;refine hX.cell (bY.o w4 eP.o.st) (fun e=> ?_);have e2:w.heap.size=R.rb∨w.heap.size=bt∨(Value.slice qJ ts.length qK).ownBlock=some w.heap.size:=e;rcases e2 with e2|e2|e2
        ·omega
        ·omega
        ·have:=(eP.o.oa.lt _ e2).1;omega
       obtain⟨zsT,hzsT⟩:∃zsT,zsT=[Value.int .i64 0,bP,bP,aO,au,au,ah 0,ah 0]:=⟨_,rfl⟩;(have HO:Hid (wY R w4 5 7 8 9 10 13 bt w1.heap.size 8 ts.length (.slice qJ ts.length qK) xs zsT):=by show wY _ _ _ _ _ _ _ _ _ _ _ _ _ _ _;refine⟨by decide,by decide,by decide,by decide,by decide,by decide,by decide,by decide,by decide,hrb,by omega,eP.o.st.size,fun q hq=>eP.o.oa.lt q hq,eP.o.el.len,by rw[hzsT];rfl⟩);subst hzsT;(have Q8:Hid (∀u∈[Value.int .i64 0,bP,bP,aO,au,au,ah 0,ah 0],u.oneCell'=true):=by show∀u∈_,_;intro u hu;simp at hu;rcases hu with rfl|rfl|rfl|rfl|rfl|rfl|rfl|rfl<;>rfl);(have hlts:ts.length≤9:=by omega);cases hx:jT gn R.l j d with
       |out=>exact absurd (by rw[FD.o,hx];rfl) eH.o
       |err c ln col=>
        have HX:=ak hx;clear hx;obtain⟨ty,-⟩:∃ty:Ty,ty=dN:=⟨_,rfl⟩;obtain⟨j2,-⟩:∃j2,j2=j:=⟨_,rfl⟩;have HE:Hid (yP (fun w P cs=>iG w P ty cs)):=TyEl ty;have vk:Hid (∀V,jh R j j2 d w4 5 7 8 9 10 13 bt (fun v=>.cells #[ah k,aY nm,aK,aO,.slice EH ls.length EI,v,ah t.line,ah t.col] 46 (0,0)) w1.heap.size 46 8 ts.length (.slice qJ ts.length qK) xs [Value.int .i64 0,bP,bP,aO,au,au,ah 0,ah 0] (fun w P cs=>iG w P ty cs) [some (.pointer (some ⟨bt,0,none⟩)),some (.pointer (some ⟨bt,0,none⟩)),some (.pointer (some ⟨bt,5,none⟩)),some (.slice qJ ts.length qK),some (.agg #[dY R.rb 0]),none,some (.int .i64 (ts.length:Int)),none,none,none,none,some (.pointer (some ⟨bt,0,none⟩)),some (.pointer (some ⟨bt,5,none⟩)),none] (fun _=>false) V w4.drew):=fun V=>jh.zero (bJ.drew) eP.o.rd eP.o.oa eP.o.blk;(have vC:Hid (∀X,bC R X j d→Calls Tryz.prog 69 #[.agg #[dY R.rb 0]] X fun e wq=>e=.panicked [{v:=.iface 251 (.agg #[ah c,ah ln,ah col]),recovered:=false}]∧Step (·=R.rb) X wq):=by show∀X,_;intro X hX;have h9:=IH.o gn om R X j d HL.o hX hd (by rw[HX.o];intro h;cases h);rw[HX.o]at h9;exact h9);have Dj:Hid (∀X wq:World,Step (fun q=>q=R.rb∨q=bt∨(Value.slice qJ ts.length qK).ownBlock=some q) w4 X→Step (·=R.rb) X wq→MZ R d bt k nm t r w (.panicked [{v:=.iface 251 (.agg #[ah c,ah ln,ah col]),recovered:=false}]) wq):=by
         show∀X wq,_;intro X wq h1 h2;rw[FD.o,HX.o];refine⟨rfl,((cZ.o.mono fe).trans eP.o.st).then (h1.trans (h2.mono il)) (fun q hq e=> ?_)⟩;rcases e with e|e|e
         ·exact .inl e
         ·exact .inr e
         ·have:=(eP.o.oa.lt _ e).1;have:=cZ.o.size;omega
        (go_upto_region 5 with fail);refine bH kr (fun L V X=>jh R j j2 d w4 5 7 8 9 10 13 bt (fun v=>.cells #[ah k,aY nm,aK,aO,.slice EH ls.length EI,v,ah t.line,ah t.col] 46 (0,0)) w1.heap.size 46 8 ts.length (.slice qJ ts.length qK) xs [Value.int .i64 0,bP,bP,aO,au,au,ah 0,ah 0] (fun w P cs=>iG w P ty cs) [some (.pointer (some ⟨bt,0,none⟩)),some (.pointer (some ⟨bt,0,none⟩)),some (.pointer (some ⟨bt,5,none⟩)),some (.slice qJ ts.length qK),some (.agg #[dY R.rb 0]),none,some (.int .i64 (ts.length:Int)),none,none,none,none,some (.pointer (some ⟨bt,0,none⟩)),some (.pointer (some ⟨bt,5,none⟩)),none] L V X∧L 5=false) 14 rfl kr kr kr kr ?h0 ?hs ?hdone;case h0=>exact⟨vk.o _,rfl⟩
        case hs=>
         refine⟨?_,?_,?_,?_,?_,?_,?_,?_,?_,?_,?_,?_,?_,?_,trivial⟩
         all_goals intro L V X a ev dn hdf hL ax hJ
         ·have o1:=dn 1 rfl;change a.tmps[1]?.getD undef=.pointer (some ⟨bt,0,none⟩)at o1;go_simp;exact⟨_,rfl,⟨hJ.1.up 0 dc dc dc dc dc dc rfl,by rw[aB _ dc];exact hJ.2⟩⟩
         ·have e45:=(ev 0 45 rfl (ax 0 rfl)).trans (hJ.1.gZ 0 _ rfl (ax 0 rfl));go_simp;exact⟨_,rfl,⟨hJ.1.up 1 dc dc dc dc dc dc rfl,by rw[aB _ dc];exact hJ.2⟩⟩
         ·have e46:=(ev 1 46 rfl (ax 1 rfl)).trans (hJ.1.gZ 1 _ rfl (ax 1 rfl));go_simp;exact⟨_,rfl,⟨hJ.1.up 2 dc dc dc dc dc dc rfl,by rw[aB _ dc];exact hJ.2⟩⟩
         ·have e47:=(ev 2 47 rfl (ax 2 rfl)).trans (hJ.1.gZ 2 _ rfl (ax 2 rfl));have hZ:=(hJ.1.Gz (hJ.1.QW dc hL)).1;have hb:=hJ.1.blk;rw[hZ,if_neg dc]at hb;have q5:X.cell? ⟨bt,5,none⟩=some (.slice qJ ts.length qK):=aj hb 5 _ rfl;go_simp;exact⟨_,rfl,⟨hJ.1.up 3 dc dc dc dc dc dc rfl,by rw[aB _ dc];exact hJ.2⟩⟩
         ·have o2:=dn 2 rfl;change a.tmps[2]?.getD undef=.pointer (some ⟨w.heap.size,0,none⟩)at o2;have p0:=IB.o X hJ.1.st;go_simp;exact⟨_,rfl,⟨hJ.1.up 4 dc dc dc dc dc dc rfl,by rw[aB _ dc];exact hJ.2⟩⟩
         ·have e49:=(ev 4 49 rfl (ax 4 rfl)).trans (hJ.1.gZ 4 _ rfl (ax 4 rfl));have hrd:=hJ.1.rd;rw[hL,if_neg dc]at hrd;go_simp;refine(vC.o X hrd).mono ?_;rintro e wq ⟨rfl,hs⟩;exact⟨hdf,Dj.o X wq hJ.1.st hs⟩
         ·have e48:=(ev 3 48 rfl (ax 3 rfl)).trans (hJ.1.gZ 3 _ rfl (ax 3 rfl));go_simp;exact⟨_,rfl,⟨hJ.1.up 6 dc dc dc dc dc dc rfl,by rw[aB _ dc];exact hJ.2⟩⟩
         ·have hu:=hJ.1.build HE.o HO.o hL rfl;go_simp;exact⟨_,rfl,⟨hu,by rw[aB _ dc];exact hJ.2⟩⟩
         ·have e48:=(ev 3 48 rfl (ax 3 rfl)).trans (hJ.1.gZ 3 _ rfl (ax 3 rfl));exact absurd hJ.2 (by rw[ax 5 rfl];decide)
         ·have e51:=(ev 6 51 rfl (ax 6 rfl)).trans (hJ.1.gZ 6 _ rfl (ax 6 rfl));exact absurd hJ.2 (by rw[ax 5 rfl];decide)
         ·exact absurd hJ.2 (by rw[ax 5 rfl];decide)
         ·have e45:=(ev 0 45 rfl (ax 0 rfl)).trans (hJ.1.gZ 0 _ rfl (ax 0 rfl));go_simp;exact⟨_,rfl,⟨hJ.1.up 11 dc dc dc dc dc dc rfl,by rw[aB _ dc];exact hJ.2⟩⟩
         ·have e55:=(ev 11 55 rfl (ax 11 rfl)).trans (hJ.1.gZ 11 _ rfl (ax 11 rfl));go_simp;exact⟨_,rfl,⟨hJ.1.up 12 dc dc dc dc dc dc rfl,by rw[aB _ dc];exact hJ.2⟩⟩
         ·have e56:=(ev 12 56 rfl (ax 12 rfl)).trans (hJ.1.gZ 12 _ rfl (ax 12 rfl));exact absurd hJ.2 (by rw[ax 5 rfl];decide)
        case hdone=>intro L V X hall hJ;exact absurd hJ.2 (by rw[hall 5 dc];decide)
       |ok ty j2=>
        have HX:=ak hx;clear hx;have HE:Hid (yP (fun w P cs=>iG w P ty cs)):=TyEl ty;have vk:Hid (∀V,jh R j j2 d w4 5 7 8 9 10 13 bt (fun v=>.cells #[ah k,aY nm,aK,aO,.slice EH ls.length EI,v,ah t.line,ah t.col] 46 (0,0)) w1.heap.size 46 8 ts.length (.slice qJ ts.length qK) xs [Value.int .i64 0,bP,bP,aO,au,au,ah 0,ah 0] (fun w P cs=>iG w P ty cs) [some (.pointer (some ⟨bt,0,none⟩)),some (.pointer (some ⟨bt,0,none⟩)),some (.pointer (some ⟨bt,5,none⟩)),some (.slice qJ ts.length qK),some (.agg #[dY R.rb 0]),none,some (.int .i64 (ts.length:Int)),none,none,none,none,some (.pointer (some ⟨bt,0,none⟩)),some (.pointer (some ⟨bt,5,none⟩)),none] (fun _=>false) V w4.drew):=fun V=>jh.zero (bJ.drew) eP.o.rd eP.o.oa eP.o.blk;have vC:Hid (∀X,bC R X j d→Calls Tryz.prog 69 #[.agg #[dY R.rb 0]] X fun e wq=>(∃v,e=.returned v∧∃cs:List Value,v=.agg cs.toArray∧iG wq (fun q=>X.heap.size≤q) ty cs)∧bC R wq j2 d∧Step (·=R.rb) X wq):=by show∀X,_;intro X hX;have h9:=IH.o gn om R X j d HL.o hX hd (by rw[HX.o];intro h;cases h);rw[HX.o]at h9;exact h9
        have kK:Hid (∀(g9 c9:Nat) (yQ:List Value) (X:World),bC R X j2 d→X.heap[bt]?=some (.cells #[ah k,aY nm,aK,aO,.slice EH ls.length EI,.slice (some ⟨g9,0,none⟩) (ts.length+1) c9,ah t.line,ah t.col] 46 (0,0))→X.ownsRow w1.heap.size 46 8 (.slice (some ⟨g9,0,none⟩) (ts.length+1) c9) (ts.length+1) (xs++yQ)→iG X (fun q=>w4.heap.size≤q∧q≠g9) ty yQ→((Value.slice qJ ts.length qK).ownBlock=some g9∨w4.heap.size≤g9)→Step (fun q=>q=R.rb∨q=bt∨(Value.slice qJ ts.length qK).ownBlock=some q) w4 X→
          ∃(i2:Nat) (QY:List ByteArray) (QZ:List Ty) (Y2 KJ:Value) (KL:List Value),r=(if bD R.l i2 [44]then m_ gn R.l (i2+1) d QY QZ else(aH R.l i2 [62]).bind fun _ j=>.ok (QY,QZ) j)∧qg R w1 bt k nm t d X i2 QY QZ Y2 KJ KL):=by
         show∀g9 c9 yQ X,_
         intro g9 c9 yQ X h1 h2 h3 h4 h5 h6
         have hol:=eP.o.ol
         have hne:=eP.o.ne
         have hg9:∀q,(Value.slice EH ls.length EI).ownBlock=some q→q≠g9:=by
          intro q hq e
          subst e
          rcases h5 with h5|h5
          ·
           exact hne q hq h5
          ·
           have:=(hol.lt q hq).2;omega
         have hlen:(ts++[ty]).length=ts.length+1:=by simp
         refine⟨j2,ls,ts++[ty],.slice EH ls.length EI,.slice (some ⟨g9,0,none⟩) (ts.length+1) c9,xs++yQ,by rw[FD.o,HX.o];rfl,h1,h2,ji hol h6 (fun q hq e=> ?_),by rw[hlen];exact h3,fP.snoc ?_ ?_,fun q hq e=> ?_,eP.o.sz,by rw[hlen];omega,eP.o.st.then h6 (fun q hq e=> ?_)⟩
         ·
          have h7:=(hol.lt q hq).1
          rcases e with e|e|e
          ·
           omega
          ·
           omega
          ·
           exact hne q hq e
         ·
          refine fP.mono ?_ _ _ (fP.step h6 ?_ _ _ (fP.mono (P':=fun q=>(w1.heap.size≤q∧(Value.slice qJ ts.length qK).ownBlock≠some q∧(Value.slice EH ls.length EI).ownBlock≠some q)∧q<w4.heap.size) (fun q h7 h8=>⟨h8,h7⟩) _ _ eP.o.el))
          ·
           intro q _ hq
           refine⟨hq.1.1,fun e=> ?_,hq.1.2.2⟩
           have e2:g9=q:=Option.some.inj e
           rcases h5 with h5|h5
           ·
            exact hq.1.2.1 (by rw[←e2];exact h5)
           ·
            have:=hq.2;omega
          ·
           intro q hq e
           rcases e with e|e|e
           ·
            have:=hq.1.1;omega
           ·
            have:=hq.1.1;omega
           ·
            exact hq.1.2.1 e
         ·
          refine iG.mono (fun q _ hq=>⟨Nat.le_trans eP.o.st.size hq.1,fun e=>hq.2 (Option.some.inj e).symm,fun e=> ?_⟩) _ _ h4
          have:=(hol.lt q e).2
          have:=hq.1
          omega
         ·
          exact hg9 q hq (Option.some.inj e).symm
         ·
          rcases e with e|e|e
          ·
           exact .inl e
          ·
           exact .inr e
          ·
           have:=(eP.o.oa.lt _ e).1;omega
        (go_upto_region 5 with fail);refine bH kr (jh R j j2 d w4 5 7 8 9 10 13 bt (fun v=>.cells #[ah k,aY nm,aK,aO,.slice EH ls.length EI,v,ah t.line,ah t.col] 46 (0,0)) w1.heap.size 46 8 ts.length (.slice qJ ts.length qK) xs [Value.int .i64 0,bP,bP,aO,au,au,ah 0,ah 0] (fun w P cs=>iG w P ty cs) [some (.pointer (some ⟨bt,0,none⟩)),some (.pointer (some ⟨bt,0,none⟩)),some (.pointer (some ⟨bt,5,none⟩)),some (.slice qJ ts.length qK),some (.agg #[dY R.rb 0]),none,some (.int .i64 (ts.length:Int)),none,none,none,none,some (.pointer (some ⟨bt,0,none⟩)),some (.pointer (some ⟨bt,5,none⟩)),none]) 14 rfl kr kr kr kr ?h0 ?hs ?hdone;case h0=>exact vk.o _
        case hs=>
         refine⟨?_,?_,?_,?_,?_,?_,?_,?_,?_,?_,?_,?_,?_,?_,trivial⟩
         all_goals intro L V X a ev dn hdf hL ax hJ
         ·have o1:=dn 1 rfl;change a.tmps[1]?.getD undef=.pointer (some ⟨bt,0,none⟩)at o1;go_simp;exact⟨_,rfl,hJ.up 0 dc dc dc dc dc dc rfl⟩
         ·have e45:=(ev 0 45 rfl (ax 0 rfl)).trans (hJ.gZ 0 _ rfl (ax 0 rfl));go_simp;exact⟨_,rfl,hJ.up 1 dc dc dc dc dc dc rfl⟩
         ·have e46:=(ev 1 46 rfl (ax 1 rfl)).trans (hJ.gZ 1 _ rfl (ax 1 rfl));go_simp;exact⟨_,rfl,hJ.up 2 dc dc dc dc dc dc rfl⟩
         ·have e47:=(ev 2 47 rfl (ax 2 rfl)).trans (hJ.gZ 2 _ rfl (ax 2 rfl));have hZ:=(hJ.Gz (hJ.QW dc hL)).1;have hb:=hJ.blk;rw[hZ,if_neg dc]at hb;have q5:X.cell? ⟨bt,5,none⟩=some (.slice qJ ts.length qK):=aj hb 5 _ rfl;go_simp;exact⟨_,rfl,hJ.up 3 dc dc dc dc dc dc rfl⟩
         ·have o2:=dn 2 rfl;change a.tmps[2]?.getD undef=.pointer (some ⟨w.heap.size,0,none⟩)at o2;have p0:=IB.o X hJ.st;go_simp;exact⟨_,rfl,hJ.up 4 dc dc dc dc dc dc rfl⟩
         ·have e49:=(ev 4 49 rfl (ax 4 rfl)).trans (hJ.gZ 4 _ rfl (ax 4 rfl));have hrd:=hJ.rd;rw[hL,if_neg dc]at hrd;go_simp;refine(vC.o X hrd).mono ?_;rintro e wq ⟨⟨v,rfl,cs,rfl,hty⟩,hr,hs⟩;exact⟨_,rfl,hJ.call HE.o HO.o hL rfl hs hr hty⟩
         ·have e48:=(ev 3 48 rfl (ax 3 rfl)).trans (hJ.gZ 3 _ rfl (ax 3 rfl));go_simp;exact⟨_,rfl,hJ.up 6 dc dc dc dc dc dc rfl⟩
         ·have hu:=hJ.build HE.o HO.o hL rfl;go_simp;exact⟨_,rfl,hu⟩
         ·have e48:=(ev 3 48 rfl (ax 3 rfl)).trans (hJ.gZ 3 _ rfl (ax 3 rfl));have e52:=ev 7 52 rfl (ax 7 rfl);obtain⟨zb,z1,z2,z3⟩:=hJ.bl (ax 7 rfl) hL;have hall:∀i,i<8→L i=true:=by
           intro i hi;rcases(show i=0∨i=1∨i=2∨i=3∨i=4∨i=5∨i=6∨i=7 by omega)with rfl|rfl|rfl|rfl|rfl|rfl|rfl|rfl
           ·exact ax 0 rfl
           ·exact ax 1 rfl
           ·exact ax 2 rfl
           ·exact ax 3 rfl
           ·exact ax 4 rfl
           ·exact ax 5 rfl
           ·exact ax 6 rfl
           ·exact ax 7 rfl
          refine fF _ X.heap.size (.tmp 48) (.tmp 52) 44 rfl w1.heap.size 46 j0 (.agg #[ah 0,bP,bP,aO,au,au,ah 0,ah 0]) 8 112 Tryz.underlying44 HJ.o HY0.o HY1.o HY2.o rfl dc _ _ _ (by rw[bF];exact e48) (hJ.old hL) (V 7) 1 _ (by rw[bF];exact e52) (by rw[z1];exact(Row.new z3 dc).mono (aI z3)) rfl Q8.o (by unfold maxLen;omega) om (Nat.le_trans HO.o.bw hJ.st.size) ?_;intro v8 w8 oU lJ Aa;exact⟨v8,rfl,hJ.app HE.o HO.o hL hall rfl oU lJ Aa⟩
         ·have e51:=(ev 6 51 rfl (ax 6 rfl)).trans (hJ.gZ 6 _ rfl (ax 6 rfl));have e53:=ev 8 53 rfl (ax 8 rfl);obtain⟨g,c,hV,-⟩:=hJ.new (ax 8 rfl);rw[hV]at e53;(have hi0:(0:Int)≤(ts.length:Int):=by omega);(have hi1:(ts.length:Int)<((ts.length+1:Nat):Int):=by omega);(have hi2:(ts.length:Int)<(ts.length:Int)+1:=by omega);have hu:=hJ.index HO.o (ax 8 rfl) rfl hV;go_simp;exact⟨_,rfl,hu⟩
         ·have h8:=ax 8 rfl;have h9:=ax 9 rfl;have h5:=ax 5 rfl;obtain⟨g,c,hV,-,ys,hown,-⟩:=hJ.new h8;have ep:=(ev 9 54 rfl h9).trans ((hJ.ix h9).2 g c hV);obtain⟨cs,c1,c2⟩:=hJ.el h5;have ec:=(ev 5 50 rfl h5).trans c1;rw[hV]at hown;obtain⟨g',c',cur,hg',-,hcur,hsz⟩:=tK hown om;cases hg';have hcl:cs.length=8:=iG.len c2;refine dM 46 (.tmp 54) (.tmp 50) rfl g (ts.length*8) 46 cur cs (by rw[bF];exact ep) (by rw[bF];exact ec) hcur (by rw[hcl];exact Tryz.fM) om (iG.one c2) ?_;intro w6 hb6 hs6;exact⟨undef,rfl,hJ.put HE.o HO.o h8 (fun u hu=>by cases hu) hV c1 hcl hcur hb6 hs6⟩
         ·have e45:=(ev 0 45 rfl (ax 0 rfl)).trans (hJ.gZ 0 _ rfl (ax 0 rfl));go_simp;exact⟨_,rfl,hJ.up 11 dc dc dc dc dc dc rfl⟩
         ·have e55:=(ev 11 55 rfl (ax 11 rfl)).trans (hJ.gZ 11 _ rfl (ax 11 rfl));go_simp;exact⟨_,rfl,hJ.up 12 dc dc dc dc dc dc rfl⟩
         ·have e56:=(ev 12 56 rfl (ax 12 rfl)).trans (hJ.gZ 12 _ rfl (ax 12 rfl));have h8:=ax 8 rfl;have ev8:=ev 8 53 rfl h8;obtain⟨g,c,hV,-⟩:=hJ.new h8;rw[hV]at ev8;have hb:=hJ.blk;rw[hL,if_neg dc]at hb;have q5:=aj hb 5 _ rfl;have z5:=aG hb 5;have hu:=hJ.last (X':=X.setCell ⟨bt,5,none⟩ (.slice (some ⟨g,0,none⟩) (ts.length+1) c)) HE.o HO.o h8 (fun u hu=>by cases hu) (by rw[hV];exact aV hb 5 _) (bJ.setCell _ _ iI);go_simp;exact⟨undef,hu⟩
        case hdone=>intro L V X hall hJ;obtain⟨g9,c9,yQ,Ov,Ox,gG,Oy,Oz,wJ,hgb9⟩:=hJ.done ⟨hall 5 dc,hall 8 dc,hall 10 dc,hall 13 dc⟩;rw[show List.range 14=[0,1,2,3,4,5,6,7,8,9,10,11,12,13] from rfl];simp only[kC,fU,List.getElem?_toArray,List.getElem?_cons_zero,List.getElem?_cons_succ,Option.bind_some,Act.put,List.setIfInBounds_toArray,List.set_cons_zero,List.set_cons_succ];clear hJ hall;go_wp2_with fail;go_meet;case rel=>exact kK.o g9 c9 yQ X Ov Ox gG Oy Oz wJ
     case rest=>
      obtain⟨i2,QY,QZ,Y2,KJ,KL,Jf,hst5⟩:=hcut;obtain⟨w5,rfl⟩:=aU wc;have M_:=ak Jf;have kY:=ak hst5;clear Jf hst5;have p0:=bY.o w5 kY.o.st;go_wp2_with fail;cases hc:bD R.l i2 [44]with
      |true=>
       have HC:=ak hc;clear hc;refine(cO R HL.o ⟨#[44]⟩ _ i2 d kY.o.rd dc HC.o).mono ?_;rintro e w6 ⟨rfl,n_,s6⟩;have eU:=ak (kY.o.read hrb om n_ s6);(have yR:Hid (r=m_ gn R.l (i2+1) d QY QZ):=by show _=_;rw[M_.o,HC.o,if_pos rfl]);clear n_ s6 p0;go_wp2_with fail;go_roundg gn;case rel=>exact⟨by omega,i2+1,QY,QZ,Y2,KJ,KL,yR.o,eU.o⟩
       case measure=>omega
      |false=>
       have HC:=ak hc;clear hc;refine(dJ R HL.o ⟨#[44]⟩ _ i2 d kY.o.rd dc HC.o).mono ?_;rintro e w6 ⟨rfl,n_,s6⟩;have eU:=ak (kY.o.read hrb om n_ s6);(have yR:Hid (r=(aH R.l i2 [62]).bind fun _ j=>.ok (QY,QZ) j):=by show _=_;rw[M_.o,HC.o,if_neg dc]);clear n_ s6 p0;have p0:=bY.o w6 eU.o.st;go_wp2_with fail;refine(dH R HL.o w6.heap.size ⟨#[62]⟩ _ i2 d (eU.o.rd.quiet (bJ.alloc _)) dc (aj (aA _ _) 0 _ rfl)).mono ?_;rintro e w7 hp;have hp2:aJ R d iC (aH R.l i2 [62]) _ e w7:=hp;cases hn:aH R.l i2 [62]with
       |out=>exact(dw hn).elim
       |err c ln col=>rw[hn]at hp2;obtain⟨rfl,s7⟩:=hp2;refine⟨rfl,?_⟩;rw[yR.o,hn];exact⟨rfl,((cZ.o.mono fe).trans eU.o.st).trans ((((Step.refl (·=R.rb) _).alloc _).trans s7).mono il)⟩
       |ok u j2=>
        have HN7:=ak hn;rw[hn]at hp2;obtain⟨⟨v,rfl,rfl⟩,XA,s7⟩:=hp2;have qh:=ak (eU.o.read hrb om XA (((Step.refl (·=R.rb) _).alloc _).trans s7));clear hn XA s7 p0 hp;go_wp2_with fail;refine bodyPost_ret (results_none rfl _ _ _) rfl ?_;rw[yR.o,HN7.o];have hz:=cZ.o.size;refine⟨rfl,⟨Y2,KJ,KL,qh.o.blk,qh.o.sz,di.fA qh.o.ol (fun q hq=> ?_),fP.mono oi _ _ qh.o.el,di.fA qh.o.oa (fun q hq=> ?_)⟩,qh.o.rd,(cZ.o.mono fe).trans qh.o.st⟩
        ·have:=(qh.o.ol.lt q hq).1;omega
        ·have:=(qh.o.oa.lt q hq).1;omega
theorem GI:∀f,oP f∧Dh f:=by
 intro f;induction f using Nat.strongRecOn with
 |ind f ih=>
  have ha:Dh f:=Ot f (fun f' hf=>(ih f' hf).1);cases f with
  |zero=>exact⟨fun R w i d _ _ _ hno=>absurd (by rw[jT]) hno,ha⟩
  |succ f=>exact⟨QR f (ih f (Nat.lt_succ_self f)).1 (ih f (Nat.lt_succ_self f)).2,ha⟩
def J8 (n0:Nat) (w':World) (a:Ex) (v:Value):Prop:=∃cs:List Value,v=.agg cs.toArray∧dW w' (fun k=>n0≤k) a cs
def OA (n0:Nat) (w':World) (l:List Ex) (v:Value):Prop:=∃xs:List Value,di w' (fun k=>n0≤k) v l.length xs∧dG w' (fun k=>n0≤k) l xs
def OB (n0:Nat) (w':World) (l:List St) (v:Value):Prop:=∃xs:List Value,di w' (fun k=>n0≤k) v l.length xs∧iq w' (fun k=>n0≤k) l xs
def StV (n0:Nat) (w':World) (a:St) (v:Value):Prop:=∃cs:List Value,v=.agg cs.toArray∧kV w' (fun k=>n0≤k) a cs
def mW (f:Nat):Prop:=∀(R:fV) (w:World) (i d n:Nat),nK R.l→bC R w i d→d≤40→n≤5→bf f R.l i d n≠.out→
 Calls Tryz.prog 128 #[.agg #[dY R.rb 0],.int .i64 (n:Int)] w (aJ R d (J8 w.heap.size) (bf f R.l i d n) w)
def yS (f:Nat):Prop:=∀(R:fV) (w:World) (i d:Nat),nK R.l→bC R w i d→d≤40→iR f R.l i d≠.out→
 Calls Tryz.prog 171 #[.agg #[dY R.rb 0]] w (aJ R d (J8 w.heap.size) (iR f R.l i d) w)
def GK (f:Nat):Prop:=∀(R:fV) (w:World) (i d:Nat),nK R.l→bC R w i d→d≤40→uX f R.l i d≠.out→
 Calls Tryz.prog 197 #[.agg #[dY R.rb 0]] w (aJ R d (J8 w.heap.size) (uX f R.l i d) w)
def Dk (f:Nat):Prop:=∀(R:fV) (w:World) (i d:Nat),nK R.l→bC R w i d→d≤40→kX f R.l i d≠.out→
 Calls Tryz.prog 212 #[.agg #[dY R.rb 0]] w (aJ R d (OA w.heap.size) (kX f R.l i d) w)
def Q9 (f:Nat):Prop:=∀(R:fV) (w:World) (i d:Nat),nK R.l→bC R w i d→d≤40→rW f R.l i d≠.out→
 Calls Tryz.prog 221 #[.agg #[dY R.rb 0]] w (aJ R d (fun w' a v=>OA w.heap.size w' [a] v) (rW f R.l i d) w)
def KN (f:Nat):Prop:=∀(R:fV) (w:World) (i d:Nat),nK R.l→bC R w i d→d≤40→uD f R.l i d≠.out→
 Calls Tryz.prog 211 #[.agg #[dY R.rb 0]] w (aJ R d (J8 w.heap.size) (uD f R.l i d) w)
def lD (f:Nat):Prop:=∀(R:fV) (w:World) (i d:Nat),nK R.l→bC R w i d→d≤40→bI f R.l i d≠.out→
 Calls Tryz.prog 146 #[.agg #[dY R.rb 0]] w (aJ R d (OB w.heap.size) (bI f R.l i d) w)
def GL (f:Nat):Prop:=∀(R:fV) (w:World) (i d:Nat),nK R.l→bC R w i d→d≤40→uY f R.l i d≠.out→
 Calls Tryz.prog 187 #[.agg #[dY R.rb 0]] w (aJ R d (StV w.heap.size) (uY f R.l i d) w)
theorem dW.parts {w:World} {P:Nat→Prop} {x:Ex} {cs:List Value} (h:dW w P x cs):∃(k:Int) (nm:ByteArray) (v:Int) (m:Bool) (a1:Option Addr) (n1 c1:Nat) (a2:Option Addr) (n2 c2:Nat) (a3:Option Addr) (n3 c3:Nat) (l c:Int),cs=[.int .i64 k,.string nm,.int .u64 v,.bool m,.slice a1 n1 c1,.slice a2 n2 c2,.slice a3 n3 c3,.int .i64 l,.int .i64 c]:=by obtain⟨k,name,v,m,args,names,body,l,c⟩:=x;rw[dW]at h;obtain⟨_,_,_,_,_,rfl,_,_,_,⟨_,_,rfl,_⟩,⟨_,_,rfl,_⟩,_,⟨_,_,rfl,_⟩⟩:=h;exact⟨_,_,_,_,_,_,_,_,_,_,_,_,_,_,_,rfl⟩
theorem dG.single {w:World} {P:Nat→Prop} {x:Ex} {cs:List Value} (h:dW w P x cs):dG w P [x] cs:=by rw[dG];exact⟨cs,[],(List.append_nil _).symm,h,by rw[dG]⟩
theorem Tryz.aQ:(Tryz.prog.info? 56).map (·.size)=some 9:=by kernel_rfl
def jO (f:Nat) (l:List Tok) (i d:Nat):dO Ex:=
 if bD l i [45]then(iR f l (i+1) d).bind fun y j=>.ok (bZ 15 (zS [45]) 0 false [y] [] [] (tokA l i)) j
 else if bD l i [33]then(iR f l (i+1) d).bind fun y j=>.ok (bZ 15 (zS [33]) 0 false [y] [] [] (tokA l i)) j
 else if bD l i [42]then(iR f l (i+1) d).bind fun y j=>.ok (bZ 7 bU 0 false [y] [] [] (tokA l i)) j
 else if bD l i [38]then(iR f l (iL l (i+1) [109,117,116]) d).bind fun y j=>.ok (bZ 8 bU 0 (bD l (i+1) [109,117,116]) [y] [] [] (tokA l i)) j
 else uX f l i d
theorem A7 (f:Nat) (l:List Tok) (i d:Nat):iR (f+1) l i d=if d=40 then fD 2 l i else jO f l i (d+1):=by rw[iR];rfl
def KO (n0 bt:Nat) (w':World) (a:Ex):Prop:=∃cs:List Value,w'.heap[bt]?=some (.cells cs.toArray 56 (0,0))∧dW w' (fun k=>n0≤k) a cs
theorem KP (R:fV) (f:Nat) (ih:yS f) (ihp:GK f) (bp bt:Nat) (w:World) (i d:Nat) (t:Tok) (hl:nK R.l) (h:bC R w i d) (hd:d≤40) (hbp:w.heap[bp]?=some (.cells #[dY R.rb 0] 97 (0,0))) (hbt:w.heap[bt]?=some (.cells #[ah 0,aK,bK 0,aO,au,au,au,ah t.line,ah t.col] 56 (0,0))) (hb1:R.rb<bp) (hb2:bp<bt) (ht:t=tokA R.l i) (hno:jO f R.l i d≠.out):Calls Tryz.prog 196 #[.pointer (some ⟨bp,0,none⟩),.pointer (some ⟨bt,0,none⟩)] w (aZ R d bt (KO w.heap.size bt) (jO f R.l i d) w):=by
 have HL:=ak hl;have H0:=ak h;have HT:=ak ht;have IH:=ak ih;have IHP:=ak ihp;obtain⟨r,hr⟩:=aU (jO f R.l i d);have HRR:=ak hr;rw[←hr]at hno⊢;have eH:=ak hno;have hil:=h.lt;have KA:=aI hbt;have HKB:Hid (∀X:World,Step (·=R.rb) w X→X.cell? ⟨bp,0,none⟩=some (.pointer (some ⟨R.rb,0,none⟩))∧X.heap[bt]?=some (.cells #[ah 0,aK,bK 0,aO,au,au,au,ah t.line,ah t.col] 56 (0,0))):=by show∀X,_;intro X hX;exact⟨aj (hX.keep hbp om) 0 _ rfl,hX.keep hbt om⟩
 obtain⟨p0,-⟩:=HKB.o w bJ;clear ih ihp hl h hbp hbt hr hno ht;go_enter Tryz.func196,Tryz.ntmps196;go_wp2_with fail;cases hb0:bD R.l i [45]with
 |true=>
  have HB0:=ak hb0;clear hb0;refine(cO R HL.o ⟨#[45]⟩ _ i d H0.o dc HB0.o).mono ?_;rintro e wy ⟨rfl,wV,hsy⟩;have AY:=ak wV;have uF:Hid (Step (·=R.rb) w wy):=bJ.trans hsy;clear wV hsy p0;obtain⟨p0,hbt⟩:=HKB.o wy uF.o;have lT:=ak hbt;clear hbt;have mQ:=aj lT.o 0 _ rfl;have mV:=aG lT.o 0;have ED:=aj lT.o 1 _ rfl;have EF:=aG lT.o 1;obtain⟨w4,hw4⟩:=aU ((wy.setCell ⟨bt,0,none⟩ (.int .i64 15)).setCell ⟨bt,1,none⟩ (.string ⟨#[45]⟩));have iP:Hid (Step (·=bt) wy w4):=by show Step _ _ _;rw[hw4];exact(((Step.refl (·=bt) _).setCell _ _ iI).setCell _ _ iI)
  have pX:Hid (w4.heap[bt]?=some (.cells #[ah 15,.string ⟨#[45]⟩,bK 0,aO,au,au,au,ah t.line,ah t.col] 56 (0,0))):=by show _=_;rw[hw4];exact(aV (aV lT.o 0 (.int .i64 15)) 1 (.string ⟨#[45]⟩))
  have nD:Hid (Step (fun k=>k=R.rb∨k=bt) w w4):=(uF.o.mono il).trans (iP.o.mono ir);have HR4:=ak (AY.o.step iP.o oi);have p4:w4.cell? ⟨bp,0,none⟩=some (.pointer (some ⟨R.rb,0,none⟩)):=iP.o.cell p0 (fun e=>by have e2:bp=bt:=e;omega);go_upto_region 9 with fail
  rw[←hw4];clear p0 hw4 mQ mV ED EF;have p0:=p4;clear p4;go_wp2_with fail;cases hx:iR f R.l (i+1) d with
  |out=>have HX:=ak hx;exact absurd (by rw[HRR.o];unfold jO;simp only[HB0.o,HX.o,if_true,dO.rV]) eH.o
  |err c ln col=>have HX:=ak hx;clear hx;refine(IH.o R _ (i+1) d HL.o HR4.o hd (by rw[HX.o];intro h;cases h)).mono ?_;rintro e wq hp;rw[HX.o]at hp;obtain⟨rfl,sq⟩:=hp;refine⟨rfl,aZ.aX (c:=c) (ln:=ln) (col:=col) (by rw[HRR.o];unfold jO;simp only[HB0.o,HX.o,if_true,dO.kD]) rfl ?_⟩;exact nD.o.trans (sq.mono il)
  |ok y jx=>have HX:=ak hx;clear hx;refine(IH.o R _ (i+1) d HL.o HR4.o hd (by rw[HX.o];intro h;cases h)).mono ?_;rintro e wx hp;rw[HX.o]at hp;obtain⟨⟨v,rfl,cs,rfl,hy⟩,hrx,hsx⟩:=hp;have HY:=ak hy;obtain⟨k0,gX,v0,gY,a1,n1,c1,a2,n2,c2,a3,n3,c3,l0,c0,rfl⟩:=hy.parts;have u_:=ak hrx;have pF:=ak hsx;obtain⟨w5,hw5⟩:=aU (wx.alloc (.cells #[ah k0,aY gX,bK v0,dV gY,.slice a1 n1 c1,.slice a2 n2 c2,.slice a3 n3 c3,ah l0,ah c0] 56));(have oQ:Hid (Step (fun _=>False) wx w5):=by show Step _ _ _;rw[hw5];exact bJ.alloc _);(have Ol:Hid (w5.heap[wx.heap.size]?=some (.cells #[ah k0,aY gX,bK v0,dV gY,.slice a1 n1 c1,.slice a2 n2 c2,.slice a3 n3 c3,ah l0,ah c0] 56 (0,0))):=by show _=_;rw[hw5];exact aA _ _);have oL:=oQ.o.keep (pF.o.keep pX.o om) (fun h=>h);have z_:=aj oL 4 _ rfl;have EK:=aG oL 4;have hxz:=pF.o.size;have hxy:=nD.o.size;obtain⟨w6,hw6⟩:=aU (w5.setCell ⟨bt,4,none⟩ (.slice (some ⟨wx.heap.size,0,none⟩) 1 1));(have wB:Hid (Step (·=bt) w5 w6):=by show Step _ _ _;rw[hw6];exact bJ.setCell _ _ iI);(have wG:Hid (w6.heap[bt]?=some (.cells #[ah 15,.string ⟨#[45]⟩,bK 0,aO,.slice (some ⟨wx.heap.size,0,none⟩) 1 1,au,au,ah t.line,ah t.col] 56 (0,0))):=by show _=_;rw[hw6];exact aV oL 4 _);have Vs:=ak (wB.o.keep Ol.o om);rw[hw5]at z_ EK;clear oL hy hrx hsx p0;go_wp2_with fail;rw[←hw5,←hw6];clear z_ EK hw5 hw6;refine bodyPost_end (results_none rfl _ _ _) rfl ?_;have wF:Step (fun k=>k=R.rb∨k=bt) wx w6:=(oQ.o.mono fe).trans (wB.o.mono ir);refine aZ.dK (a:=bZ 15 (zS [45]) 0 false [y] [] [] (tokA R.l i)) (j:=jx) (by rw[HRR.o];unfold jO;simp only[HB0.o,HX.o,if_true,dO.bind_ok]) rfl ⟨_,wG.o,?_⟩ ((u_.o.quiet oQ.o).step wB.o oi) (nD.o.trans ((pF.o.mono il).trans wF));rw[bZ,dW,←HT.o];exact⟨_,_,_,_,[],rfl,by decide,nJ,dG.single (dW.mono oi _ _ (dW.step wF oi _ _ HY.o)),di.new Vs.o dc om,di.nil _ _ _,by rw[iq],di.nil _ _ _⟩
 |false=>
  have HB0:=ak hb0;clear hb0;refine(dJ R HL.o ⟨#[45]⟩ _ i d H0.o dc HB0.o).mono ?_;rintro e wn0 ⟨rfl,hrn,hsn⟩;have QK:=ak hrn;have KC:Hid (Step (·=R.rb) w wn0):=bJ.trans hsn;clear hrn hsn p0;obtain⟨p0,-⟩:=HKB.o wn0 KC.o;go_wp2_with fail;cases hb1:bD R.l i [33]with
  |true=>
   have HB1:=ak hb1;clear hb1;refine(cO R HL.o ⟨#[33]⟩ _ i d QK.o dc HB1.o).mono ?_;rintro e wy ⟨rfl,wV,hsy⟩;have AY:=ak wV;have uF:Hid (Step (·=R.rb) w wy):=KC.o.trans hsy;clear wV hsy p0;obtain⟨p0,hbt⟩:=HKB.o wy uF.o;have lT:=ak hbt;clear hbt;have mQ:=aj lT.o 0 _ rfl;have mV:=aG lT.o 0;have ED:=aj lT.o 1 _ rfl;have EF:=aG lT.o 1;obtain⟨w4,hw4⟩:=aU ((wy.setCell ⟨bt,0,none⟩ (.int .i64 15)).setCell ⟨bt,1,none⟩ (.string ⟨#[33]⟩));(have iP:Hid (Step (·=bt) wy w4):=by show Step _ _ _;rw[hw4];exact(((Step.refl (·=bt) _).setCell _ _ iI).setCell _ _ iI));(have pX:Hid (w4.heap[bt]?=some (.cells #[ah 15,.string ⟨#[33]⟩,bK 0,aO,au,au,au,ah t.line,ah t.col] 56 (0,0))):=by show _=_;rw[hw4];exact(aV (aV lT.o 0 (.int .i64 15)) 1 (.string ⟨#[33]⟩)));have nD:Hid (Step (fun k=>k=R.rb∨k=bt) w w4):=(uF.o.mono il).trans (iP.o.mono ir);have HR4:=ak (AY.o.step iP.o oi);have p4:w4.cell? ⟨bp,0,none⟩=some (.pointer (some ⟨R.rb,0,none⟩)):=iP.o.cell p0 (fun e=>by have e2:bp=bt:=e;omega);(go_upto_region 9 with fail);rw[←hw4];clear p0 hw4 mQ mV ED EF;have p0:=p4;clear p4;go_wp2_with fail;cases hx:iR f R.l (i+1) d with
   |out=>have HX:=ak hx;exact absurd (by rw[HRR.o];unfold jO;simp only[HB0.o,HB1.o,HX.o,Bool.false_eq_true,if_false,if_true,dO.rV]) eH.o
   |err c ln col=>have HX:=ak hx;clear hx;refine(IH.o R _ (i+1) d HL.o HR4.o hd (by rw[HX.o];intro h;cases h)).mono ?_;rintro e wq hp;rw[HX.o]at hp;obtain⟨rfl,sq⟩:=hp;refine⟨rfl,aZ.aX (c:=c) (ln:=ln) (col:=col) (by rw[HRR.o];unfold jO;simp only[HB0.o,HB1.o,HX.o,Bool.false_eq_true,if_false,if_true,dO.kD]) rfl ?_⟩;exact nD.o.trans (sq.mono il)
   |ok y jx=>have HX:=ak hx;clear hx;refine(IH.o R _ (i+1) d HL.o HR4.o hd (by rw[HX.o];intro h;cases h)).mono ?_;rintro e wx hp;rw[HX.o]at hp;obtain⟨⟨v,rfl,cs,rfl,hy⟩,hrx,hsx⟩:=hp;have HY:=ak hy;obtain⟨k0,gX,v0,gY,a1,n1,c1,a2,n2,c2,a3,n3,c3,l0,c0,rfl⟩:=hy.parts;have u_:=ak hrx;have pF:=ak hsx;obtain⟨w5,hw5⟩:=aU (wx.alloc (.cells #[ah k0,aY gX,bK v0,dV gY,.slice a1 n1 c1,.slice a2 n2 c2,.slice a3 n3 c3,ah l0,ah c0] 56));(have oQ:Hid (Step (fun _=>False) wx w5):=by show Step _ _ _;rw[hw5];exact bJ.alloc _);(have Ol:Hid (w5.heap[wx.heap.size]?=some (.cells #[ah k0,aY gX,bK v0,dV gY,.slice a1 n1 c1,.slice a2 n2 c2,.slice a3 n3 c3,ah l0,ah c0] 56 (0,0))):=by show _=_;rw[hw5];exact aA _ _);have oL:=oQ.o.keep (pF.o.keep pX.o om) (fun h=>h);have z_:=aj oL 4 _ rfl;have EK:=aG oL 4;have hxz:=pF.o.size;have hxy:=nD.o.size;obtain⟨w6,hw6⟩:=aU (w5.setCell ⟨bt,4,none⟩ (.slice (some ⟨wx.heap.size,0,none⟩) 1 1));(have wB:Hid (Step (·=bt) w5 w6):=by show Step _ _ _;rw[hw6];exact bJ.setCell _ _ iI);(have wG:Hid (w6.heap[bt]?=some (.cells #[ah 15,.string ⟨#[33]⟩,bK 0,aO,.slice (some ⟨wx.heap.size,0,none⟩) 1 1,au,au,ah t.line,ah t.col] 56 (0,0))):=by show _=_;rw[hw6];exact aV oL 4 _);have Vs:=ak (wB.o.keep Ol.o om);rw[hw5]at z_ EK;clear oL hy hrx hsx p0;go_wp2_with fail;rw[←hw5,←hw6];clear z_ EK hw5 hw6;refine bodyPost_end (results_none rfl _ _ _) rfl ?_;have wF:Step (fun k=>k=R.rb∨k=bt) wx w6:=(oQ.o.mono fe).trans (wB.o.mono ir);refine aZ.dK (a:=bZ 15 (zS [33]) 0 false [y] [] [] (tokA R.l i)) (j:=jx) (by rw[HRR.o];unfold jO;simp only[HB0.o,HB1.o,HX.o,Bool.false_eq_true,if_false,if_true,dO.bind_ok]) rfl ⟨_,wG.o,?_⟩ ((u_.o.quiet oQ.o).step wB.o oi) (nD.o.trans ((pF.o.mono il).trans wF));rw[bZ,dW,←HT.o];exact⟨_,_,_,_,[],rfl,by decide,nJ,dG.single (dW.mono oi _ _ (dW.step wF oi _ _ HY.o)),di.new Vs.o dc om,di.nil _ _ _,by rw[iq],di.nil _ _ _⟩
  |false=>
   have HB1:=ak hb1;clear hb1;refine(dJ R HL.o ⟨#[33]⟩ _ i d QK.o dc HB1.o).mono ?_;rintro e wn1 ⟨rfl,hrn,hsn⟩;have QL:=ak hrn;have KD:Hid (Step (·=R.rb) w wn1):=KC.o.trans hsn;clear hrn hsn p0;obtain⟨p0,-⟩:=HKB.o wn1 KD.o;go_wp2_with fail;cases hb2:bD R.l i [42]with
   |true=>
    have HB2:=ak hb2;clear hb2;refine(cO R HL.o ⟨#[42]⟩ _ i d QL.o dc HB2.o).mono ?_;rintro e wy ⟨rfl,wV,hsy⟩;have AY:=ak wV;have uF:Hid (Step (·=R.rb) w wy):=KD.o.trans hsy;clear wV hsy p0;obtain⟨p0,hbt⟩:=HKB.o wy uF.o;have lT:=ak hbt;clear hbt;have mQ:=aj lT.o 0 _ rfl;have mV:=aG lT.o 0;obtain⟨w4,hw4⟩:=aU (wy.setCell ⟨bt,0,none⟩ (.int .i64 7));(have iP:Hid (Step (·=bt) wy w4):=by show Step _ _ _;rw[hw4];exact((Step.refl (·=bt) _).setCell _ _ iI));(have pX:Hid (w4.heap[bt]?=some (.cells #[ah 7,aK,bK 0,aO,au,au,au,ah t.line,ah t.col] 56 (0,0))):=by show _=_;rw[hw4];exact(aV lT.o 0 (.int .i64 7)));have nD:Hid (Step (fun k=>k=R.rb∨k=bt) w w4):=(uF.o.mono il).trans (iP.o.mono ir);have HR4:=ak (AY.o.step iP.o oi);have p4:w4.cell? ⟨bp,0,none⟩=some (.pointer (some ⟨R.rb,0,none⟩)):=iP.o.cell p0 (fun e=>by have e2:bp=bt:=e;omega);(go_upto_region 9 with fail);rw[←hw4];clear p0 hw4 mQ mV;have p0:=p4;clear p4;go_wp2_with fail;cases hx:iR f R.l (i+1) d with
    |out=>have HX:=ak hx;exact absurd (by rw[HRR.o];unfold jO;simp only[HB0.o,HB1.o,HB2.o,HX.o,Bool.false_eq_true,if_false,if_true,dO.rV]) eH.o
    |err c ln col=>have HX:=ak hx;clear hx;refine(IH.o R _ (i+1) d HL.o HR4.o hd (by rw[HX.o];intro h;cases h)).mono ?_;rintro e wq hp;rw[HX.o]at hp;obtain⟨rfl,sq⟩:=hp;refine⟨rfl,aZ.aX (c:=c) (ln:=ln) (col:=col) (by rw[HRR.o];unfold jO;simp only[HB0.o,HB1.o,HB2.o,HX.o,Bool.false_eq_true,if_false,if_true,dO.kD]) rfl ?_⟩;exact nD.o.trans (sq.mono il)
    |ok y jx=>have HX:=ak hx;clear hx;refine(IH.o R _ (i+1) d HL.o HR4.o hd (by rw[HX.o];intro h;cases h)).mono ?_;rintro e wx hp;rw[HX.o]at hp;obtain⟨⟨v,rfl,cs,rfl,hy⟩,hrx,hsx⟩:=hp;have HY:=ak hy;obtain⟨k0,gX,v0,gY,a1,n1,c1,a2,n2,c2,a3,n3,c3,l0,c0,rfl⟩:=hy.parts;have u_:=ak hrx;have pF:=ak hsx;obtain⟨w5,hw5⟩:=aU (wx.alloc (.cells #[ah k0,aY gX,bK v0,dV gY,.slice a1 n1 c1,.slice a2 n2 c2,.slice a3 n3 c3,ah l0,ah c0] 56));(have oQ:Hid (Step (fun _=>False) wx w5):=by show Step _ _ _;rw[hw5];exact bJ.alloc _);(have Ol:Hid (w5.heap[wx.heap.size]?=some (.cells #[ah k0,aY gX,bK v0,dV gY,.slice a1 n1 c1,.slice a2 n2 c2,.slice a3 n3 c3,ah l0,ah c0] 56 (0,0))):=by show _=_;rw[hw5];exact aA _ _);have oL:=oQ.o.keep (pF.o.keep pX.o om) (fun h=>h);have z_:=aj oL 4 _ rfl;have EK:=aG oL 4;have hxz:=pF.o.size;have hxy:=nD.o.size;obtain⟨w6,hw6⟩:=aU (w5.setCell ⟨bt,4,none⟩ (.slice (some ⟨wx.heap.size,0,none⟩) 1 1));(have wB:Hid (Step (·=bt) w5 w6):=by show Step _ _ _;rw[hw6];exact bJ.setCell _ _ iI);(have wG:Hid (w6.heap[bt]?=some (.cells #[ah 7,aK,bK 0,aO,.slice (some ⟨wx.heap.size,0,none⟩) 1 1,au,au,ah t.line,ah t.col] 56 (0,0))):=by show _=_;rw[hw6];exact aV oL 4 _);have Vs:=ak (wB.o.keep Ol.o om);rw[hw5]at z_ EK;clear oL hy hrx hsx p0;go_wp2_with fail;rw[←hw5,←hw6];clear z_ EK hw5 hw6;refine bodyPost_end (results_none rfl _ _ _) rfl ?_;have wF:Step (fun k=>k=R.rb∨k=bt) wx w6:=(oQ.o.mono fe).trans (wB.o.mono ir);refine aZ.dK (a:=bZ 7 bU 0 false [y] [] [] (tokA R.l i)) (j:=jx) (by rw[HRR.o];unfold jO;simp only[HB0.o,HB1.o,HB2.o,HX.o,Bool.false_eq_true,if_false,if_true,dO.bind_ok]) rfl ⟨_,wG.o,?_⟩ ((u_.o.quiet oQ.o).step wB.o oi) (nD.o.trans ((pF.o.mono il).trans wF));rw[bZ,dW,←HT.o];exact⟨_,_,_,_,[],rfl,by decide,nJ,dG.single (dW.mono oi _ _ (dW.step wF oi _ _ HY.o)),di.new Vs.o dc om,di.nil _ _ _,by rw[iq],di.nil _ _ _⟩
   |false=>
    have HB2:=ak hb2;clear hb2;refine(dJ R HL.o ⟨#[42]⟩ _ i d QL.o dc HB2.o).mono ?_;rintro e wn2 ⟨rfl,hrn,hsn⟩;have QM:=ak hrn;have KE:Hid (Step (·=R.rb) w wn2):=KD.o.trans hsn;clear hrn hsn p0;obtain⟨p0,-⟩:=HKB.o wn2 KE.o;go_wp2_with fail;cases hb3:bD R.l i [38]with
    |true=>
     have HB3:=ak hb3;clear hb3;refine(cO R HL.o ⟨#[38]⟩ _ i d QM.o dc HB3.o).mono ?_;rintro e wy ⟨rfl,wV,hsy⟩;have AY:=ak wV;have uF:Hid (Step (·=R.rb) w wy):=KE.o.trans hsy;clear wV hsy p0;obtain⟨p0,hbt⟩:=HKB.o wy uF.o;have lT:=ak hbt;clear hbt;obtain⟨mb,hmb⟩:=aU (bD R.l (i+1) [109,117,116]);obtain⟨mj,hmj⟩:=aU (iL R.l (i+1) [109,117,116]);have HIS:=ak (rF R HL.o ⟨#[109,117,116]⟩ wy (i+1) d AY.o dc);(have sS:Hid (r=(iR f R.l mj d).bind fun y j=>.ok (bZ 8 bU 0 mb [y] [] [] (tokA R.l i)) j):=by show _=_;rw[HRR.o,hmj,hmb];unfold jO;simp only[HB0.o,HB1.o,HB2.o,HB3.o,Bool.false_eq_true,if_false,if_true]);(have HIS2:Hid (Calls Tryz.prog 110 #[.pointer (some ⟨R.rb,0,none⟩),.string ⟨#[109,117,116]⟩] wy fun e w'=>e=.returned (.bool mb)∧bC R w' mj d∧Step (·=R.rb) wy w'):=by show Calls _ _ _ _ _;rw[hmb,hmj];exact HIS.o);clear hmb hmj;go_wp2_with fail;refine HIS2.o.mono ?_;rintro e w3 ⟨rfl,hr3,hs3⟩;have Ef:=ak hr3;have J6:Hid (Step (·=R.rb) w w3):=uF.o.trans hs3;clear hr3 hs3 p0;obtain⟨p0,hbt⟩:=HKB.o w3 J6.o;have Q_:=ak hbt;clear hbt;have mQ:=aj Q_.o 0 _ rfl;have mV:=aG Q_.o 0;have bt3:=aj Q_.o 3 _ rfl;have bz3:=aG Q_.o 3;obtain⟨w4,hw4⟩:=aU ((w3.setCell ⟨bt,0,none⟩ (.int .i64 8)).setCell ⟨bt,3,none⟩ (.bool mb));(have iP:Hid (Step (·=bt) w3 w4):=by show Step _ _ _;rw[hw4];exact(((Step.refl (·=bt) _).setCell _ _ iI).setCell _ _ iI));(have pX:Hid (w4.heap[bt]?=some (.cells #[ah 8,aK,bK 0,dV mb,au,au,au,ah t.line,ah t.col] 56 (0,0))):=by show _=_;rw[hw4];exact(aV (aV Q_.o 0 (.int .i64 8)) 3 (.bool mb)));have nD:Hid (Step (fun k=>k=R.rb∨k=bt) w w4):=(J6.o.mono il).trans (iP.o.mono ir);have HR4:=ak (Ef.o.step iP.o oi);have p4:w4.cell? ⟨bp,0,none⟩=some (.pointer (some ⟨R.rb,0,none⟩)):=iP.o.cell p0 (fun e=>by have e2:bp=bt:=e;omega);(go_upto_region 9 with fail);rw[←hw4];clear p0 hw4 mQ mV bt3 bz3;have p0:=p4;clear p4;go_wp2_with fail;cases hx:iR f R.l mj d with
     |out=>have HX:=ak hx;exact absurd (by rw[sS.o];simp only[HX.o,dO.rV]) eH.o
     |err c ln col=>have HX:=ak hx;clear hx;refine(IH.o R _ mj d HL.o HR4.o hd (by rw[HX.o];intro h;cases h)).mono ?_;rintro e wq hp;rw[HX.o]at hp;obtain⟨rfl,sq⟩:=hp;refine⟨rfl,aZ.aX (c:=c) (ln:=ln) (col:=col) (by rw[sS.o];simp only[HX.o,dO.kD]) rfl ?_⟩;exact nD.o.trans (sq.mono il)
     |ok y jx=>have HX:=ak hx;clear hx;refine(IH.o R _ mj d HL.o HR4.o hd (by rw[HX.o];intro h;cases h)).mono ?_;rintro e wx hp;rw[HX.o]at hp;obtain⟨⟨v,rfl,cs,rfl,hy⟩,hrx,hsx⟩:=hp;have HY:=ak hy;obtain⟨k0,gX,v0,gY,a1,n1,c1,a2,n2,c2,a3,n3,c3,l0,c0,rfl⟩:=hy.parts;have u_:=ak hrx;have pF:=ak hsx;obtain⟨w5,hw5⟩:=aU (wx.alloc (.cells #[ah k0,aY gX,bK v0,dV gY,.slice a1 n1 c1,.slice a2 n2 c2,.slice a3 n3 c3,ah l0,ah c0] 56));(have oQ:Hid (Step (fun _=>False) wx w5):=by show Step _ _ _;rw[hw5];exact bJ.alloc _);(have Ol:Hid (w5.heap[wx.heap.size]?=some (.cells #[ah k0,aY gX,bK v0,dV gY,.slice a1 n1 c1,.slice a2 n2 c2,.slice a3 n3 c3,ah l0,ah c0] 56 (0,0))):=by show _=_;rw[hw5];exact aA _ _);have oL:=oQ.o.keep (pF.o.keep pX.o om) (fun h=>h);have z_:=aj oL 4 _ rfl;have EK:=aG oL 4;have hxz:=pF.o.size;have hxy:=nD.o.size;obtain⟨w6,hw6⟩:=aU (w5.setCell ⟨bt,4,none⟩ (.slice (some ⟨wx.heap.size,0,none⟩) 1 1));(have wB:Hid (Step (·=bt) w5 w6):=by show Step _ _ _;rw[hw6];exact bJ.setCell _ _ iI);(have wG:Hid (w6.heap[bt]?=some (.cells #[ah 8,aK,bK 0,dV mb,.slice (some ⟨wx.heap.size,0,none⟩) 1 1,au,au,ah t.line,ah t.col] 56 (0,0))):=by show _=_;rw[hw6];exact aV oL 4 _);have Vs:=ak (wB.o.keep Ol.o om);rw[hw5]at z_ EK;clear oL hy hrx hsx p0;go_wp2_with fail;rw[←hw5,←hw6];clear z_ EK hw5 hw6;refine bodyPost_end (results_none rfl _ _ _) rfl ?_;have wF:Step (fun k=>k=R.rb∨k=bt) wx w6:=(oQ.o.mono fe).trans (wB.o.mono ir);refine aZ.dK (a:=bZ 8 bU 0 mb [y] [] [] (tokA R.l i)) (j:=jx) (by rw[sS.o];simp only[HX.o,dO.bind_ok]) rfl ⟨_,wG.o,?_⟩ ((u_.o.quiet oQ.o).step wB.o oi) (nD.o.trans ((pF.o.mono il).trans wF));rw[bZ,dW,←HT.o];exact⟨_,_,_,_,[],rfl,by decide,nJ,dG.single (dW.mono oi _ _ (dW.step wF oi _ _ HY.o)),di.new Vs.o dc om,di.nil _ _ _,by rw[iq],di.nil _ _ _⟩
    |false=>
     have HB3:=ak hb3;clear hb3;refine(dJ R HL.o ⟨#[38]⟩ _ i d QM.o dc HB3.o).mono ?_;rintro e wn3 ⟨rfl,hrn,hsn⟩;have QN:=ak hrn;have I9:Hid (Step (·=R.rb) w wn3):=KE.o.trans hsn;clear hrn hsn p0;obtain⟨p0,-⟩:=HKB.o wn3 I9.o;go_wp2_with fail;cases hx:uX f R.l i d with
     |out=>have HX:=ak hx;exact absurd (by rw[HRR.o];unfold jO;simp only[HB0.o,HB1.o,HB2.o,HB3.o,HX.o,Bool.false_eq_true,if_false]) eH.o
     |err c ln col=>have HX:=ak hx;clear hx;refine(IHP.o R _ i d HL.o QN.o hd (by rw[HX.o];intro h;cases h)).mono ?_;rintro e wq hp;rw[HX.o]at hp;obtain⟨rfl,sq⟩:=hp;refine⟨rfl,aZ.aX (c:=c) (ln:=ln) (col:=col) (by rw[HRR.o];unfold jO;simp only[HB0.o,HB1.o,HB2.o,HB3.o,HX.o,Bool.false_eq_true,if_false]) rfl ?_⟩;exact(I9.o.trans sq).mono il
     |ok y jx=>
      have HX:=ak hx;clear hx;refine(IHP.o R _ i d HL.o QN.o hd (by rw[HX.o];intro h;cases h)).mono ?_;rintro e wx hp;rw[HX.o]at hp;obtain⟨⟨v,rfl,cs,rfl,hy⟩,hrx,hsx⟩:=hp;have HY:=ak hy;have dS:=ak hy.one;obtain⟨k0,gX,v0,gY,a1,n1,c1,a2,n2,c2,a3,n3,c3,l0,c0,rfl⟩:=hy.parts;have u_:=ak hrx;have pF:Hid (Step (·=R.rb) w wx):=I9.o.trans hsx;have hnz:=I9.o.size;obtain⟨-,hbt⟩:=HKB.o wx pF.o;have lT:=ak hbt;clear hy hrx hsx p0 hbt
      go_wp2_with (refine aC (w:=wx) rfl 56 (.tmp 1) (.tmp 3) rfl bt 0 56 _ [.int .i64 k0,.string gX,.int .u64 v0,.bool gY,.slice a1 n1 c1,.slice a2 n2 c2,.slice a3 n3 c3,.int .i64 l0,.int .i64 c0] rfl rfl lT.o Tryz.aQ (Nat.le_of_eq rfl) dS.o ?_
                   intro w6 hb6 vF)
      have Jg:w6.heap[bt]?=some (.cells [Value.int .i64 k0,aY gX,bK v0,dV gY,.slice a1 n1 c1,.slice a2 n2 c2,.slice a3 n3 c3,ah l0,ah c0].toArray 56 (0,0)):=hb6;have FB:=ak Jg;have wB:=ak vF;clear hb6 Jg vF;refine bodyPost_ret (results_none rfl _ _ _) rfl ?_;refine aZ.dK (a:=y) (j:=jx) (by rw[HRR.o];unfold jO;simp only[HB0.o,HB1.o,HB2.o,HB3.o,HX.o,Bool.false_eq_true,if_false]) rfl ⟨_,FB.o,?_⟩ (u_.o.step wB.o oi) ((pF.o.mono il).trans (wB.o.mono ir));exact dW.mono oi _ _ (dW.step wB.o oi _ _ HY.o)
theorem wZ:Enters 196:=fun xs w=>by go_simp
theorem KQ (f:Nat) (ih:yS f) (iha:GK f):yS (f+1):=by
 intro R w i d hl h hd hno;have hmf:∀(fn:Fn) (first cap:Array Value) (w:World),(Instr.makeFunc fn first cap).run Tryz.prog w=.ok (.func fn first cap) w:=fun _ _ _ _=>rfl;have HL:=ak hl;have H0:=ak h;have eH:=ak hno;obtain⟨r,hr⟩:=aU (iR (f+1) R.l i d);have HRR:=ak hr;rw[←hr];obtain⟨t,ht⟩:=aU (tokA R.l i);have HT:=ak ht;have pY:=aI h.blk;obtain⟨w1,hw1⟩:=aU ((w.alloc (.cells #[dY R.rb 0] 97)).alloc (.cells #[ah 0,bP,bK 0,aO,au,au,au,ah 0,ah 0] 56));have cZ:Hid (Step (fun _=>False) w w1):=by show Step _ _ _;rw[hw1];exact(bJ.alloc _).alloc _
 have jL:Hid (w1.heap[w.heap.size]?=some (.cells #[dY R.rb 0] 97 (0,0))):=by show _=_;rw[hw1];exact aN (aA _ _)
 have jW:Hid (w1.heap[w.heap.size+1]?=some (.cells #[ah 0,bP,bK 0,aO,au,au,au,ah 0,ah 0] 56 (0,0))):=by show _=_;rw[hw1];exact dX _ _ _
 have HW1:=ak hw1;have H1:=ak (h.quiet cZ.o);have p0:w1.cell? ⟨w.heap.size,0,none⟩=some (.pointer (some ⟨R.rb,0,none⟩)):=aj jL.o 0 _ rfl;have HAT:=ak (at_at R w1 i d t H1.o (by rw[ht];exact H1.o.tok));clear hl h hno hr hw1 ht;go_enter Tryz.func171,Tryz.ntmps171;go_upto_region 1 with fail
 rw[←HW1.o];go_wp2_with fail;refine HAT.o.mono ?_;rintro e w2 ⟨rfl,h2⟩;have HS2:=ak (cZ.o.trans h2);have HP2:=ak (h2.keep jL.o (fun h=>h));have mZ:=ak (h2.keep jW.o (fun h=>h));have hn1:=aI mZ.o;obtain⟨w3,hw3⟩:=aU (w2.alloc (.cells #[ah 0,aK,bK 0,aO,au,au,au,ah t.line,ah t.col] 56));have iM:Hid (Step (fun _=>False) w2 w3):=by show Step _ _ _;rw[hw3];exact bJ.alloc _
 have HB3:Hid (w3.heap[w2.heap.size]?=some (.cells #[ah 0,aK,bK 0,aO,au,au,au,ah t.line,ah t.col] 56 (0,0))):=by show _=_;rw[hw3];exact aA _ _
 have eX:=ak (HS2.o.trans iM.o);have wH:=ak (iM.o.keep HP2.o (fun h=>h));have qR:=ak (iM.o.keep mZ.o (fun h=>h));have H3:=ak (H0.o.quiet eX.o);have HW3:=ak hw3;clear h2 hw3 p0;have p0:w3.cell? ⟨w.heap.size,0,none⟩=some (.pointer (some ⟨R.rb,0,none⟩)):=aj wH.o 0 _ rfl;go_upto_region 2 with fail
 have hx3:w2.alloc (.cells #[ah 0,bP,bK 0,aO,au,au,au,ah t.line,ah t.col] 56)=w3:=HW3.o.symm;rw[hx3];clear hx3;go_wp2_with fail;by_cases QS:d=40
 ·refine(xI R _ [.pointer (some ⟨w.heap.size,0,none⟩),.pointer (some ⟨w2.heap.size,0,none⟩)] w3 i d t H3.o (by rw[HT.o];exact H3.o.tok) QS).mono ?_;rintro e w4 ⟨rfl,h4⟩;refine⟨rfl,?_⟩;rw[HRR.o,A7,if_pos QS,fD,←HT.o];exact⟨rfl,(eX.o.trans h4).mono fe⟩
 ·have rM:Hid (r=jO f R.l i (d+1)):=by show _=_;rw[HRR.o,A7,if_neg QS]
  have hnb:jO f R.l i (d+1)≠.out:=fun e=>eH.o (by rw[←HRR.o,rM.o,e]);have Ja:Hid (∀X,bC R X i (d+1)→Step (·=R.rb) w3 X→Calls Tryz.prog 196 #[.pointer (some ⟨w.heap.size,0,none⟩),.pointer (some ⟨w2.heap.size,0,none⟩)] X (aZ R (d+1) w2.heap.size (KO X.heap.size w2.heap.size) (jO f R.l i (d+1)) X)):=by show∀X,_;intro X hX hs;exact KP R f ih iha w.heap.size w2.heap.size X i (d+1) t HL.o hX om (hs.keep wH.o om) (hs.keep HB3.o om) om om HT.o hnb
  have Jb:d<40:=by omega
  cases hb:jO f R.l i (d+1)with
  |out=>exact absurd hb hnb
  |err c ln col=>
   have HB:=ak hb;clear hb;refine(Df R _ [.pointer (some ⟨w.heap.size,0,none⟩),.pointer (some ⟨w2.heap.size,0,none⟩)] w3 i d (Q:=fun X=>Step (fun k=>k=R.rb∨k=w2.heap.size) w3 X) (hk:=wZ) (h:=H3.o) (hd:=Jb) (hby:=fun X hX hs=> ?_) (es:=[{v:=.iface 251 (.agg #[ah c,ah ln,ah col]),recovered:=false}])).mono ?_
   ·refine(Ja.o X hX hs).mono ?_;intro e X2 hp;rw[HB.o]at hp;exact⟨hp.1,(hs.mono il).trans hp.2⟩
   ·rintro e w4 ⟨rfl,h4⟩;refine⟨rfl,?_⟩;rw[rM.o,HB.o];exact⟨rfl,(eX.o.mono fe).then h4 oi⟩
  |ok ty j=>
   have HB:=ak hb;clear hb;refine(Gu R _ [.pointer (some ⟨w.heap.size,0,none⟩),.pointer (some ⟨w2.heap.size,0,none⟩)] w3 i d (fun i' X=>i'=j∧KO w3.heap.size w2.heap.size X ty∧Step (fun k=>k=R.rb∨k=w2.heap.size) w3 X) wZ H3.o Jb (fun X hX hs=> ?_)).mono ?_
   ·refine(Ja.o X hX hs).mono ?_;intro e X2 hp;rw[HB.o]at hp;obtain⟨he,⟨cs,hc,ht⟩,hr,hs2⟩:=hp;exact⟨he,j,hr,rfl,⟨cs,hc,dW.mono (fun k _ hk=>by have:=hs.size;omega) _ _ ht⟩,(hs.mono il).trans hs2⟩
   ·rintro e w4 ⟨rfl,i',X,⟨rfl,⟨cs,hc,hty⟩,hsx⟩,hr4,hs4⟩;have hlt3:=aI HB3.o;have hb4:=hs4.keep hc om;have Gx:=dW.step hs4 oi _ _ hty;have KH:Step (fun k=>k=R.rb∨k=w2.heap.size) w3 w4:=hsx.trans (hs4.mono il);obtain⟨k0,gX,v0,gY,a1,n1,c1,a2,n2,c2,a3,n3,c3,l0,c0,rfl⟩:=Gx.parts;have HR4:=ak hr4;have QT:=ak Gx;have wI:=ak KH;have HB4:=ak hb4;have KG:=ak (KH.keep qR.o om);(have iH:Hid (∀(jj:Nat) v,[Value.int .i64 k0,aY gX,bK v0,dV gY,.slice a1 n1 c1,.slice a2 n2 c2,.slice a3 n3 c3,ah l0,ah c0][jj]?=some v→w4.cell? ⟨w2.heap.size,0+jj,none⟩=some v):=by show∀jj v,_;intro jj v hv;rw[Nat.zero_add];exact aj HB4.o jj v oJ);have dS:=ak (dW.one Gx);have hsz3:=iM.o.size;clear hc hty hsx hr4 hs4 hb4 Gx KH p0;go_wp2_with (first
     |(refine ay rfl 56 (.tmp 3) rfl w2.heap.size 0 rfl [.int .i64 k0,.string gX,.int .u64 v0,.bool gY,.slice a1 n1 c1,.slice a2 n2 c2,.slice a3 n3 c3,.int .i64 l0,.int .i64 c0] _ iH.o Tryz.underlying56 rfl Tryz.aQ ?_)
     |(refine aC (w:=w4) rfl 56 (.tmp 2) (.tmp 12) rfl (w.heap.size+1) 0 56 _ [.int .i64 k0,.string gX,.int .u64 v0,.bool gY,.slice a1 n1 c1,.slice a2 n2 c2,.slice a3 n3 c3,.int .i64 l0,.int .i64 c0] rfl rfl KG.o Tryz.aQ (Nat.le_of_eq rfl) dS.o ?_;intro w5 hb5 hst5))
    have xN:w5.heap[w.heap.size+1]?=some (.cells [Value.int .i64 k0,aY gX,bK v0,dV gY,.slice a1 n1 c1,.slice a2 n2 c2,.slice a3 n3 c3,ah l0,ah c0].toArray 56 (0,0)):=hb5;refine bodyPost_ret (aW rfl _ (w.heap.size+1) 56 _ _ rfl xN Tryz.underlying56 rfl Tryz.aQ) rfl ?_;rw[rM.o,HB.o];refine⟨⟨_,rfl,_,rfl,dW.mono (fun k _ hk=>by have:=eX.o.size;omega) _ _ (dW.step hst5 oi _ _ QT.o)⟩,HR4.o.step hst5 oi,?_⟩;have Y0:Step (·=R.rb) w w4:=(eX.o.mono fe).then wI.o oi;exact Y0.then hst5 oi
theorem tV (w:World) (o:Obj) (k:Nat) (h:k=w.heap.size):(w.alloc o).heap[k]?=some o:=by subst h;exact aA w o
theorem Tryz.KR:(Tryz.prog.info? 238).map (·.size)=some 5:=by kernel_rfl
theorem nT (w:World):Calls Tryz.prog 170 #[] w fun e w'=>(∃g0 g1 g2 g3 g4:Nat,e=.returned (.agg #[.slice (some ⟨g0,0,none⟩) 1 1,.slice (some ⟨g1,0,none⟩) 1 1,.slice (some ⟨g2,0,none⟩) 2 2,.slice (some ⟨g3,0,none⟩) 2 2,.slice (some ⟨g4,0,none⟩) 2 2])∧w'.cell? ⟨g0,0,none⟩=some (.string ⟨#[124]⟩)∧w'.cell? ⟨g1,0,none⟩=some (.string ⟨#[38,38]⟩)∧w'.cell? ⟨g2,0,none⟩=some (.string ⟨#[61,61]⟩)∧w'.cell? ⟨g2,1,none⟩=some (.string ⟨#[60]⟩)∧w'.cell? ⟨g3,0,none⟩=some (.string ⟨#[43]⟩)∧w'.cell? ⟨g3,1,none⟩=some (.string ⟨#[45]⟩)∧w'.cell? ⟨g4,0,none⟩=some (.string ⟨#[42]⟩)∧w'.cell? ⟨g4,1,none⟩=some (.string ⟨#[47]⟩)∧w.heap.size≤g0∧w.heap.size≤g1∧w.heap.size≤g2∧w.heap.size≤g3∧w.heap.size≤g4)∧Step (fun _=>False) w w':=by go_enter Tryz.func170,Tryz.ntmps170;go_wp2;refine bodyPost_ret (aW rfl _ w.heap.size 238 [.slice (some ⟨w.heap.size+1,0,none⟩) 1 1,.slice (some ⟨w.heap.size+1+1,0,none⟩) 1 1,.slice (some ⟨w.heap.size+1+1+1,0,none⟩) 2 2,.slice (some ⟨w.heap.size+1+1+1+1,0,none⟩) 2 2,.slice (some ⟨w.heap.size+1+1+1+1+1,0,none⟩) 2 2] _ rfl (aN (aN (aN (aN (aN (aA _ _)))))) Tryz.underlying238 rfl Tryz.KR) rfl ?_;exact⟨⟨_,_,_,_,_,rfl,aj (aN (aN (aN (aN (tV _ _ _ (by simp)))))) 0 _ rfl,aj (aN (aN (aN (tV _ _ _ (by simp))))) 0 _ rfl,aj (aN (aN (tV _ _ _ (by simp)))) 0 _ rfl,aj (aN (aN (tV _ _ _ (by simp)))) 1 _ rfl,aj (aN (tV _ _ _ (by simp))) 0 _ rfl,aj (aN (tV _ _ _ (by simp))) 1 _ rfl,aj (tV _ _ _ (by simp)) 0 _ rfl,aj (tV _ _ _ (by simp)) 1 _ rfl,by omega,by omega,by omega,by omega,by omega⟩,(((((bJ.alloc _).alloc _).alloc _).alloc _).alloc _).alloc _⟩
def opS (o:Option (List UInt8)):ByteArray:=match o with|some s=>zS s|none=>bU
def opI (o:Option (List UInt8)) (i:Nat):Nat:=match o with|some _=>i+1|none=>i
def nG (R:fV) (i d n:Nat) (w:World) (e:Ending) (w':World):Prop:=e=.returned (.string (opS (xJ R.l i n)))∧bC R w' (opI (xJ R.l i n) i) d∧Step (·=R.rb) w w'
theorem Y3 (R:fV) (hl:nK R.l) (w:World) (i d n:Nat) (h:bC R w i d) (hn:n<5):Calls Tryz.prog 172 #[.agg #[dY R.rb 0],.int .i64 (n:Int)] w (nG R i d n w):=by
 have HL:=ak hl;obtain⟨w1,hw1⟩:=aU (w.alloc (.cells #[dY R.rb 0] 97));have cZ:Hid (Step (fun _=>False) w w1):=by show Step _ _ _;rw[hw1];exact bJ.alloc _
 have jL:Hid (w1.heap[w.heap.size]?=some (.cells #[dY R.rb 0] 97 (0,0))):=by show _=_;rw[hw1];exact aA _ _
 have HW1:=ak hw1;have H1:=ak (h.quiet cZ.o);have hrw:=aI h.blk;have bY:Hid (∀X:World,Step (·=R.rb) w1 X→X.cell? ⟨w.heap.size,0,none⟩=some (.pointer (some ⟨R.rb,0,none⟩))):=by show∀X,_;intro X hX;exact aj (hX.keep jL.o om) 0 _ rfl
 clear h hl hw1;rcases(show n=0∨n=1∨n=2∨n=3∨n=4 by omega)with rfl|rfl|rfl|rfl|rfl
 ·clear hn;go_enter Tryz.func172,Tryz.ntmps172;go_upto_region 1 with fail
  rw[←HW1.o];go_wp2_with fail;refine(nT w1).mono ?_;rintro e w2 ⟨⟨g0,g1,g2,g3,g4,rfl,hc⟩,h2⟩;have H2:=ak (H1.o.quiet h2);have HC:=ak hc;have HS2:=ak h2;have Vw:=cZ.o.size;have Rf:Hid (g0=R.rb→False):=by show _→_;have:=HC.o.2.2.2.2.2.2.2.2.1;omega
  have Rh:Hid (g1=R.rb→False):=by show _→_;have:=HC.o.2.2.2.2.2.2.2.2.2.1;omega
  have OC:Hid (g2=R.rb→False):=by show _→_;have:=HC.o.2.2.2.2.2.2.2.2.2.2.1;omega
  have OD:Hid (g3=R.rb→False):=by show _→_;have:=HC.o.2.2.2.2.2.2.2.2.2.2.2.1;omega
  have OE:Hid (g4=R.rb→False):=by show _→_;have:=HC.o.2.2.2.2.2.2.2.2.2.2.2.2;omega
  have hix:∀(a0 a1 a2 a3 a4:Value) (w:World),(Instr.index 238 (.agg #[a0,a1,a2,a3,a4]) (.int .i64 0)).run Tryz.prog w=.ok a0 w:=fun _ _ _ _ _ _=>by kernel_rfl
  clear hc h2;go_wp2_with fail;go_loopg [6,11] 1 (fun gg s6 s11 wr=>∃k:Nat,s11=.int .i64 k∧k≤1∧1-k≤gg∧((opsL 0).drop k).find? (bD R.l i)=xJ R.l i 0∧bC R wr i d∧Step (·=R.rb) w2 wr);case atStart=>exact⟨0,rfl,Nat.zero_le _,by omega,rfl,H2.o,Step.refl _ _⟩
  case round=>
   obtain⟨k,rfl,hk,hgg,hfd,hr,hst⟩:=hrel;have w_:=ak hfd;have HR:=ak hr;have HST:=ak hst;have pG:Hid (Step (·=R.rb) w1 wr):=(HS2.o.mono fe).trans hst;have p0:=bY.o wr pG.o;clear hfd hr hst;rcases(show k=0∨k=1 by omega)with rfl|rfl
   ·have f0:wr.cell? ⟨g0,0,none⟩=some (.string ⟨#[124]⟩):=HST.o.cell (HC.o.1) (fun e=>Rf.o e);go_wp2_with fail;cases hb:bD R.l i [124]with
    |true=>have HB:=ak hb;clear hb;refine(cO R HL.o ⟨#[124]⟩ _ i d HR.o dc HB.o).mono ?_;rintro e w4 ⟨rfl,hr4,h4⟩;have HR4:=ak hr4;have iP:=ak h4;clear hr4 h4 f0 p0;go_wp2_with fail;go_ret;(have ho:xJ R.l i 0=some [124]:=by rw[←w_.o];simp[opsL,HB.o]);unfold nG;rw[ho];exact⟨rfl,HR4.o,((cZ.o.mono fe).trans pG.o).trans iP.o⟩
    |false=>
     have HB:=ak hb;clear hb;refine(dJ R HL.o ⟨#[124]⟩ _ i d HR.o dc HB.o).mono ?_;rintro e w4 ⟨rfl,hr4,h4⟩;have HR4:=ak hr4;have iP:=ak h4;(have xP:Hid (((opsL 0).drop 1).find? (bD R.l i)=xJ R.l i 0):=by show _=_;rw[←w_.o];simp[opsL,HB.o]);clear hr4 h4 f0 p0;go_wp2_with fail;go_roundg (gk-1);case rel=>exact⟨1,rfl,by omega,by omega,xP.o,HR4.o,HST.o.trans iP.o⟩
     case measure=>omega
   ·clear p0;go_wp2_with fail;go_ret;(have ho:xJ R.l i 0=none:=by rw[←w_.o];rfl);unfold nG;rw[ho];exact⟨rfl,HR.o,(cZ.o.mono fe).trans pG.o⟩
 ·clear hn;go_enter Tryz.func172,Tryz.ntmps172;go_upto_region 1 with fail
  rw[←HW1.o];go_wp2_with fail;refine(nT w1).mono ?_;rintro e w2 ⟨⟨g0,g1,g2,g3,g4,rfl,hc⟩,h2⟩;have H2:=ak (H1.o.quiet h2);have HC:=ak hc;have HS2:=ak h2;have Vw:=cZ.o.size;have Rf:Hid (g0=R.rb→False):=by show _→_;have:=HC.o.2.2.2.2.2.2.2.2.1;omega
  have Rh:Hid (g1=R.rb→False):=by show _→_;have:=HC.o.2.2.2.2.2.2.2.2.2.1;omega
  have OC:Hid (g2=R.rb→False):=by show _→_;have:=HC.o.2.2.2.2.2.2.2.2.2.2.1;omega
  have OD:Hid (g3=R.rb→False):=by show _→_;have:=HC.o.2.2.2.2.2.2.2.2.2.2.2.1;omega
  have OE:Hid (g4=R.rb→False):=by show _→_;have:=HC.o.2.2.2.2.2.2.2.2.2.2.2.2;omega
  have hix:∀(a0 a1 a2 a3 a4:Value) (w:World),(Instr.index 238 (.agg #[a0,a1,a2,a3,a4]) (.int .i64 1)).run Tryz.prog w=.ok a1 w:=fun _ _ _ _ _ _=>by kernel_rfl
  clear hc h2;go_wp2_with fail;go_loopg [6,11] 1 (fun gg s6 s11 wr=>∃k:Nat,s11=.int .i64 k∧k≤1∧1-k≤gg∧((opsL 1).drop k).find? (bD R.l i)=xJ R.l i 1∧bC R wr i d∧Step (·=R.rb) w2 wr);case atStart=>exact⟨0,rfl,Nat.zero_le _,by omega,rfl,H2.o,Step.refl _ _⟩
  case round=>
   obtain⟨k,rfl,hk,hgg,hfd,hr,hst⟩:=hrel;have w_:=ak hfd;have HR:=ak hr;have HST:=ak hst;have pG:Hid (Step (·=R.rb) w1 wr):=(HS2.o.mono fe).trans hst;have p0:=bY.o wr pG.o;clear hfd hr hst;rcases(show k=0∨k=1 by omega)with rfl|rfl
   ·have f0:wr.cell? ⟨g1,0,none⟩=some (.string ⟨#[38,38]⟩):=HST.o.cell (HC.o.2.1) (fun e=>Rh.o e);go_wp2_with fail;cases hb:bD R.l i [38,38]with
    |true=>have HB:=ak hb;clear hb;refine(cO R HL.o ⟨#[38,38]⟩ _ i d HR.o dc HB.o).mono ?_;rintro e w4 ⟨rfl,hr4,h4⟩;have HR4:=ak hr4;have iP:=ak h4;clear hr4 h4 f0 p0;go_wp2_with fail;go_ret;(have ho:xJ R.l i 1=some [38,38]:=by rw[←w_.o];simp[opsL,HB.o]);unfold nG;rw[ho];exact⟨rfl,HR4.o,((cZ.o.mono fe).trans pG.o).trans iP.o⟩
    |false=>
     have HB:=ak hb;clear hb;refine(dJ R HL.o ⟨#[38,38]⟩ _ i d HR.o dc HB.o).mono ?_;rintro e w4 ⟨rfl,hr4,h4⟩;have HR4:=ak hr4;have iP:=ak h4;(have xP:Hid (((opsL 1).drop 1).find? (bD R.l i)=xJ R.l i 1):=by show _=_;rw[←w_.o];simp[opsL,HB.o]);clear hr4 h4 f0 p0;go_wp2_with fail;go_roundg (gk-1);case rel=>exact⟨1,rfl,by omega,by omega,xP.o,HR4.o,HST.o.trans iP.o⟩
     case measure=>omega
   ·clear p0;go_wp2_with fail;go_ret;(have ho:xJ R.l i 1=none:=by rw[←w_.o];rfl);unfold nG;rw[ho];exact⟨rfl,HR.o,(cZ.o.mono fe).trans pG.o⟩
 ·clear hn;go_enter Tryz.func172,Tryz.ntmps172;go_upto_region 1 with fail
  rw[←HW1.o];go_wp2_with fail;refine(nT w1).mono ?_;rintro e w2 ⟨⟨g0,g1,g2,g3,g4,rfl,hc⟩,h2⟩;have H2:=ak (H1.o.quiet h2);have HC:=ak hc;have HS2:=ak h2;have Vw:=cZ.o.size;have Rf:Hid (g0=R.rb→False):=by show _→_;have:=HC.o.2.2.2.2.2.2.2.2.1;omega
  have Rh:Hid (g1=R.rb→False):=by show _→_;have:=HC.o.2.2.2.2.2.2.2.2.2.1;omega
  have OC:Hid (g2=R.rb→False):=by show _→_;have:=HC.o.2.2.2.2.2.2.2.2.2.2.1;omega
  have OD:Hid (g3=R.rb→False):=by show _→_;have:=HC.o.2.2.2.2.2.2.2.2.2.2.2.1;omega
  have OE:Hid (g4=R.rb→False):=by show _→_;have:=HC.o.2.2.2.2.2.2.2.2.2.2.2.2;omega
  have hix:∀(a0 a1 a2 a3 a4:Value) (w:World),(Instr.index 238 (.agg #[a0,a1,a2,a3,a4]) (.int .i64 2)).run Tryz.prog w=.ok a2 w:=fun _ _ _ _ _ _=>by kernel_rfl
  clear hc h2;go_wp2_with fail;go_loopg [6,11] 2 (fun gg s6 s11 wr=>∃k:Nat,s11=.int .i64 k∧k≤2∧2-k≤gg∧((opsL 2).drop k).find? (bD R.l i)=xJ R.l i 2∧bC R wr i d∧Step (·=R.rb) w2 wr);case atStart=>exact⟨0,rfl,Nat.zero_le _,by omega,rfl,H2.o,Step.refl _ _⟩
  case round=>
   obtain⟨k,rfl,hk,hgg,hfd,hr,hst⟩:=hrel;have w_:=ak hfd;have HR:=ak hr;have HST:=ak hst;have pG:Hid (Step (·=R.rb) w1 wr):=(HS2.o.mono fe).trans hst;have p0:=bY.o wr pG.o;clear hfd hr hst;rcases(show k=0∨k=1∨k=2 by omega)with rfl|rfl|rfl
   ·have f0:wr.cell? ⟨g2,0,none⟩=some (.string ⟨#[61,61]⟩):=HST.o.cell (HC.o.2.2.1) (fun e=>OC.o e);go_wp2_with fail;cases hb:bD R.l i [61,61]with
    |true=>have HB:=ak hb;clear hb;refine(cO R HL.o ⟨#[61,61]⟩ _ i d HR.o dc HB.o).mono ?_;rintro e w4 ⟨rfl,hr4,h4⟩;have HR4:=ak hr4;have iP:=ak h4;clear hr4 h4 f0 p0;go_wp2_with fail;go_ret;(have ho:xJ R.l i 2=some [61,61]:=by rw[←w_.o];simp[opsL,HB.o]);unfold nG;rw[ho];exact⟨rfl,HR4.o,((cZ.o.mono fe).trans pG.o).trans iP.o⟩
    |false=>
     have HB:=ak hb;clear hb;refine(dJ R HL.o ⟨#[61,61]⟩ _ i d HR.o dc HB.o).mono ?_;rintro e w4 ⟨rfl,hr4,h4⟩;have HR4:=ak hr4;have iP:=ak h4;(have xP:Hid (((opsL 2).drop 1).find? (bD R.l i)=xJ R.l i 2):=by show _=_;rw[←w_.o];simp[opsL,HB.o]);clear hr4 h4 f0 p0;go_wp2_with fail;go_roundg (gk-1);case rel=>exact⟨1,rfl,by omega,by omega,xP.o,HR4.o,HST.o.trans iP.o⟩
     case measure=>omega
   ·have f0:wr.cell? ⟨g2,1,none⟩=some (.string ⟨#[60]⟩):=HST.o.cell (HC.o.2.2.2.1) (fun e=>OC.o e);go_wp2_with fail;cases hb:bD R.l i [60]with
    |true=>have HB:=ak hb;clear hb;refine(cO R HL.o ⟨#[60]⟩ _ i d HR.o dc HB.o).mono ?_;rintro e w4 ⟨rfl,hr4,h4⟩;have HR4:=ak hr4;have iP:=ak h4;clear hr4 h4 f0 p0;go_wp2_with fail;go_ret;(have ho:xJ R.l i 2=some [60]:=by rw[←w_.o];simp[opsL,HB.o]);unfold nG;rw[ho];exact⟨rfl,HR4.o,((cZ.o.mono fe).trans pG.o).trans iP.o⟩
    |false=>
     have HB:=ak hb;clear hb;refine(dJ R HL.o ⟨#[60]⟩ _ i d HR.o dc HB.o).mono ?_;rintro e w4 ⟨rfl,hr4,h4⟩;have HR4:=ak hr4;have iP:=ak h4;(have xP:Hid (((opsL 2).drop 2).find? (bD R.l i)=xJ R.l i 2):=by show _=_;rw[←w_.o];simp[opsL,HB.o]);clear hr4 h4 f0 p0;go_wp2_with fail;go_roundg (gk-1);case rel=>exact⟨2,rfl,by omega,by omega,xP.o,HR4.o,HST.o.trans iP.o⟩
     case measure=>omega
   ·clear p0;go_wp2_with fail;go_ret;(have ho:xJ R.l i 2=none:=by rw[←w_.o];rfl);unfold nG;rw[ho];exact⟨rfl,HR.o,(cZ.o.mono fe).trans pG.o⟩
 ·clear hn;go_enter Tryz.func172,Tryz.ntmps172;go_upto_region 1 with fail
  rw[←HW1.o];go_wp2_with fail;refine(nT w1).mono ?_;rintro e w2 ⟨⟨g0,g1,g2,g3,g4,rfl,hc⟩,h2⟩;have H2:=ak (H1.o.quiet h2);have HC:=ak hc;have HS2:=ak h2;have Vw:=cZ.o.size;have Rf:Hid (g0=R.rb→False):=by show _→_;have:=HC.o.2.2.2.2.2.2.2.2.1;omega
  have Rh:Hid (g1=R.rb→False):=by show _→_;have:=HC.o.2.2.2.2.2.2.2.2.2.1;omega
  have OC:Hid (g2=R.rb→False):=by show _→_;have:=HC.o.2.2.2.2.2.2.2.2.2.2.1;omega
  have OD:Hid (g3=R.rb→False):=by show _→_;have:=HC.o.2.2.2.2.2.2.2.2.2.2.2.1;omega
  have OE:Hid (g4=R.rb→False):=by show _→_;have:=HC.o.2.2.2.2.2.2.2.2.2.2.2.2;omega
  have hix:∀(a0 a1 a2 a3 a4:Value) (w:World),(Instr.index 238 (.agg #[a0,a1,a2,a3,a4]) (.int .i64 3)).run Tryz.prog w=.ok a3 w:=fun _ _ _ _ _ _=>by kernel_rfl
  clear hc h2;go_wp2_with fail;go_loopg [6,11] 2 (fun gg s6 s11 wr=>∃k:Nat,s11=.int .i64 k∧k≤2∧2-k≤gg∧((opsL 3).drop k).find? (bD R.l i)=xJ R.l i 3∧bC R wr i d∧Step (·=R.rb) w2 wr);case atStart=>exact⟨0,rfl,Nat.zero_le _,by omega,rfl,H2.o,Step.refl _ _⟩
  case round=>
   obtain⟨k,rfl,hk,hgg,hfd,hr,hst⟩:=hrel;have w_:=ak hfd;have HR:=ak hr;have HST:=ak hst;have pG:Hid (Step (·=R.rb) w1 wr):=(HS2.o.mono fe).trans hst;have p0:=bY.o wr pG.o;clear hfd hr hst;rcases(show k=0∨k=1∨k=2 by omega)with rfl|rfl|rfl
   ·have f0:wr.cell? ⟨g3,0,none⟩=some (.string ⟨#[43]⟩):=HST.o.cell (HC.o.2.2.2.2.1) (fun e=>OD.o e);go_wp2_with fail;cases hb:bD R.l i [43]with
    |true=>have HB:=ak hb;clear hb;refine(cO R HL.o ⟨#[43]⟩ _ i d HR.o dc HB.o).mono ?_;rintro e w4 ⟨rfl,hr4,h4⟩;have HR4:=ak hr4;have iP:=ak h4;clear hr4 h4 f0 p0;go_wp2_with fail;go_ret;(have ho:xJ R.l i 3=some [43]:=by rw[←w_.o];simp[opsL,HB.o]);unfold nG;rw[ho];exact⟨rfl,HR4.o,((cZ.o.mono fe).trans pG.o).trans iP.o⟩
    |false=>
     have HB:=ak hb;clear hb;refine(dJ R HL.o ⟨#[43]⟩ _ i d HR.o dc HB.o).mono ?_;rintro e w4 ⟨rfl,hr4,h4⟩;have HR4:=ak hr4;have iP:=ak h4;(have xP:Hid (((opsL 3).drop 1).find? (bD R.l i)=xJ R.l i 3):=by show _=_;rw[←w_.o];simp[opsL,HB.o]);clear hr4 h4 f0 p0;go_wp2_with fail;go_roundg (gk-1);case rel=>exact⟨1,rfl,by omega,by omega,xP.o,HR4.o,HST.o.trans iP.o⟩
     case measure=>omega
   ·have f0:wr.cell? ⟨g3,1,none⟩=some (.string ⟨#[45]⟩):=HST.o.cell (HC.o.2.2.2.2.2.1) (fun e=>OD.o e);go_wp2_with fail;cases hb:bD R.l i [45]with
    |true=>have HB:=ak hb;clear hb;refine(cO R HL.o ⟨#[45]⟩ _ i d HR.o dc HB.o).mono ?_;rintro e w4 ⟨rfl,hr4,h4⟩;have HR4:=ak hr4;have iP:=ak h4;clear hr4 h4 f0 p0;go_wp2_with fail;go_ret;(have ho:xJ R.l i 3=some [45]:=by rw[←w_.o];simp[opsL,HB.o]);unfold nG;rw[ho];exact⟨rfl,HR4.o,((cZ.o.mono fe).trans pG.o).trans iP.o⟩
    |false=>
     have HB:=ak hb;clear hb;refine(dJ R HL.o ⟨#[45]⟩ _ i d HR.o dc HB.o).mono ?_;rintro e w4 ⟨rfl,hr4,h4⟩;have HR4:=ak hr4;have iP:=ak h4;(have xP:Hid (((opsL 3).drop 2).find? (bD R.l i)=xJ R.l i 3):=by show _=_;rw[←w_.o];simp[opsL,HB.o]);clear hr4 h4 f0 p0;go_wp2_with fail;go_roundg (gk-1);case rel=>exact⟨2,rfl,by omega,by omega,xP.o,HR4.o,HST.o.trans iP.o⟩
     case measure=>omega
   ·clear p0;go_wp2_with fail;go_ret;(have ho:xJ R.l i 3=none:=by rw[←w_.o];rfl);unfold nG;rw[ho];exact⟨rfl,HR.o,(cZ.o.mono fe).trans pG.o⟩
 ·clear hn;go_enter Tryz.func172,Tryz.ntmps172;go_upto_region 1 with fail
  rw[←HW1.o];go_wp2_with fail;refine(nT w1).mono ?_;rintro e w2 ⟨⟨g0,g1,g2,g3,g4,rfl,hc⟩,h2⟩;have H2:=ak (H1.o.quiet h2);have HC:=ak hc;have HS2:=ak h2;have Vw:=cZ.o.size;have Rf:Hid (g0=R.rb→False):=by show _→_;have:=HC.o.2.2.2.2.2.2.2.2.1;omega
  have Rh:Hid (g1=R.rb→False):=by show _→_;have:=HC.o.2.2.2.2.2.2.2.2.2.1;omega
  have OC:Hid (g2=R.rb→False):=by show _→_;have:=HC.o.2.2.2.2.2.2.2.2.2.2.1;omega
  have OD:Hid (g3=R.rb→False):=by show _→_;have:=HC.o.2.2.2.2.2.2.2.2.2.2.2.1;omega
  have OE:Hid (g4=R.rb→False):=by show _→_;have:=HC.o.2.2.2.2.2.2.2.2.2.2.2.2;omega
  have hix:∀(a0 a1 a2 a3 a4:Value) (w:World),(Instr.index 238 (.agg #[a0,a1,a2,a3,a4]) (.int .i64 4)).run Tryz.prog w=.ok a4 w:=fun _ _ _ _ _ _=>by kernel_rfl
  clear hc h2;go_wp2_with fail;go_loopg [6,11] 2 (fun gg s6 s11 wr=>∃k:Nat,s11=.int .i64 k∧k≤2∧2-k≤gg∧((opsL 4).drop k).find? (bD R.l i)=xJ R.l i 4∧bC R wr i d∧Step (·=R.rb) w2 wr);case atStart=>exact⟨0,rfl,Nat.zero_le _,by omega,rfl,H2.o,Step.refl _ _⟩
  case round=>
   obtain⟨k,rfl,hk,hgg,hfd,hr,hst⟩:=hrel;have w_:=ak hfd;have HR:=ak hr;have HST:=ak hst;have pG:Hid (Step (·=R.rb) w1 wr):=(HS2.o.mono fe).trans hst;have p0:=bY.o wr pG.o;clear hfd hr hst;rcases(show k=0∨k=1∨k=2 by omega)with rfl|rfl|rfl
   ·have f0:wr.cell? ⟨g4,0,none⟩=some (.string ⟨#[42]⟩):=HST.o.cell (HC.o.2.2.2.2.2.2.1) (fun e=>OE.o e);go_wp2_with fail;cases hb:bD R.l i [42]with
    |true=>have HB:=ak hb;clear hb;refine(cO R HL.o ⟨#[42]⟩ _ i d HR.o dc HB.o).mono ?_;rintro e w4 ⟨rfl,hr4,h4⟩;have HR4:=ak hr4;have iP:=ak h4;clear hr4 h4 f0 p0;go_wp2_with fail;go_ret;(have ho:xJ R.l i 4=some [42]:=by rw[←w_.o];simp[opsL,HB.o]);unfold nG;rw[ho];exact⟨rfl,HR4.o,((cZ.o.mono fe).trans pG.o).trans iP.o⟩
    |false=>
     have HB:=ak hb;clear hb;refine(dJ R HL.o ⟨#[42]⟩ _ i d HR.o dc HB.o).mono ?_;rintro e w4 ⟨rfl,hr4,h4⟩;have HR4:=ak hr4;have iP:=ak h4;(have xP:Hid (((opsL 4).drop 1).find? (bD R.l i)=xJ R.l i 4):=by show _=_;rw[←w_.o];simp[opsL,HB.o]);clear hr4 h4 f0 p0;go_wp2_with fail;go_roundg (gk-1);case rel=>exact⟨1,rfl,by omega,by omega,xP.o,HR4.o,HST.o.trans iP.o⟩
     case measure=>omega
   ·have f0:wr.cell? ⟨g4,1,none⟩=some (.string ⟨#[47]⟩):=HST.o.cell (HC.o.2.2.2.2.2.2.2.1) (fun e=>OE.o e);go_wp2_with fail;cases hb:bD R.l i [47]with
    |true=>have HB:=ak hb;clear hb;refine(cO R HL.o ⟨#[47]⟩ _ i d HR.o dc HB.o).mono ?_;rintro e w4 ⟨rfl,hr4,h4⟩;have HR4:=ak hr4;have iP:=ak h4;clear hr4 h4 f0 p0;go_wp2_with fail;go_ret;(have ho:xJ R.l i 4=some [47]:=by rw[←w_.o];simp[opsL,HB.o]);unfold nG;rw[ho];exact⟨rfl,HR4.o,((cZ.o.mono fe).trans pG.o).trans iP.o⟩
    |false=>
     have HB:=ak hb;clear hb;refine(dJ R HL.o ⟨#[47]⟩ _ i d HR.o dc HB.o).mono ?_;rintro e w4 ⟨rfl,hr4,h4⟩;have HR4:=ak hr4;have iP:=ak h4;(have xP:Hid (((opsL 4).drop 2).find? (bD R.l i)=xJ R.l i 4):=by show _=_;rw[←w_.o];simp[opsL,HB.o]);clear hr4 h4 f0 p0;go_wp2_with fail;go_roundg (gk-1);case rel=>exact⟨2,rfl,by omega,by omega,xP.o,HR4.o,HST.o.trans iP.o⟩
     case measure=>omega
   ·clear p0;go_wp2_with fail;go_ret;(have ho:xJ R.l i 4=none:=by rw[←w_.o];rfl);unfold nG;rw[ho];exact⟨rfl,HR.o,(cZ.o.mono fe).trans pG.o⟩
end Go.Proofs.YtppekkbaoimpgaaGreat
