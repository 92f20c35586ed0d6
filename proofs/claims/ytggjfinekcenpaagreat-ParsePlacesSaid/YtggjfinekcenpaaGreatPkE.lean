import Derived.Test.YtggjfinekcenpaaGreatPkD
import Derived.Deep.RegionHeld3
set_option maxRecDepth 100000
set_option maxHeartbeats 80000000
namespace Go.Proofs.YtggjfinekcenpaaGreat
open Go.RowKit
open Vt
theorem Tryz.oN:(Tryz.prog.info? 9).map (fun i=>(i.zero,i.size,i.bytes))=some (some (.string ⟨#[]⟩),1,16):=by kernel_rfl
theorem Tryz.NG:(Tryz.prog.info? 46).map (fun i=>(i.zero,i.size,i.bytes))=some (some (.agg #[ah 0,dG,dG,aW,ak,ak,ah 0,ah 0]),8,112):=by kernel_rfl
theorem jC {w w':World} {base:Nat} {e:TypeId} {size:Nat} {v:Value} {n:Nat} {xs:List Value} {S:Nat→Prop} (h:w.ownsRow base e size v n xs) (hs:Step S w w') (hn:∀q,v.ownBlock=some q→¬S q):w'.ownsRow base e size v n xs:=by
 refine⟨h.1,?_⟩;rcases h.2 with hz|⟨g,cap,cur,rfl,hb,hgg,rest⟩
 ·exact .inl hz
 ·exact .inr ⟨g,cap,cur,rfl,hb,hs.keep hgg (hn g rfl),rest⟩
structure qN (R:gI) (w1:World) (bt:Nat) (k:Int) (nm:ByteArray) (t:Tok) (d:Nat) (X:World) (i':Nat) (ls:List ByteArray) (ts:List Ty) (vl va:Value) (xs:List Value):Prop where
 rd:bC R X i' d
 blk:X.heap[bt]?=some (.cells #[ah k,aI nm,aV,aW,vl,va,ah t.line,ah t.col] 46 (0,0))
 ol:X.ownsRow w1.heap.size 9 1 vl ls.length (ls.map .string)
 oa:X.ownsRow w1.heap.size 46 8 va ts.length xs
 el:fV X (fun q=>w1.heap.size≤q∧va.ownBlock≠some q∧vl.ownBlock≠some q) ts xs
 ne:∀q,vl.ownBlock=some q→va.ownBlock≠some q
 sz:∀s∈ls,s.size≤9223372036854775807
 few:ls.length+ts.length≤9
 st:Step (fun k=>k=R.rb∨k=bt) w1 X
theorem qN.quiet {R:gI} {w1:World} {bt:Nat} {k:Int} {nm:ByteArray} {t:Tok} {d:Nat} {X X':World} {i':Nat} {ls:List ByteArray} {ts:List Ty} {vl va:Value} {xs:List Value} (h:qN R w1 bt k nm t d X i' ls ts vl va xs) (hs:jg X X'):qN R w1 bt k nm t d X' i' ls ts vl va xs:=
 ⟨h.rd.quiet hs,hs.keep h.blk (fun h=>h),hs.owns h.ol (fun _ _ h=>h),hs.owns h.oa (fun _ _ h=>h),fV.step hs (fun _ _ h=>h) _ _ h.el,h.ne,h.sz,h.few,h.st.trans (hs.mono fe)⟩
theorem qN.read {R:gI} {w1:World} {bt:Nat} {k:Int} {nm:ByteArray} {t:Tok} {d:Nat} {X X':World} {i' i2:Nat} {ls:List ByteArray} {ts:List Ty} {vl va:Value} {xs:List Value} (h:qN R w1 bt k nm t d X i' ls ts vl va xs) (hrb:R.rb<bt) (hw:R.rb<w1.heap.size) (hr:bC R X' i2 d) (hs:Step (·=R.rb) X X'):qN R w1 bt k nm t d X' i2 ls ts vl va xs:=
 ⟨hr,hs.keep h.blk om,hs.owns h.ol oi,hs.owns h.oa oi,fV.step hs (fun _ hk h=>by have:=hk.1;omega) _ _ h.el,h.ne,h.sz,h.few,h.st.trans (hs.mono il)⟩
theorem qN.pushL {R:gI} {w1:World} {bt:Nat} {k:Int} {nm:ByteArray} {t:Tok} {d:Nat} {X X2 X3:World} {i':Nat} {ls:List ByteArray} {ts:List Ty} {vl va v9:Value} {xs:List Value} {s:ByteArray} (h:qN R w1 bt k nm t d X i' ls ts vl va xs) (hrb:R.rb<bt) (hbt:bt<w1.heap.size) (h2:jg X X2) (hown:X3.ownsRow w1.heap.size 9 1 v9 (ls.length+1) (ls.map .string++[.string s])) (hgrow:X2.grownBy X3 vl.ownBlock) (hat:v9.ownBlock=vl.ownBlock∨v9.ownBlock=some X2.heap.size) (hs:s.size≤9223372036854775807) (hlt:ls.length+ts.length<8):qN R w1 bt k nm t d (X3.setCell ⟨bt,4,none⟩ v9) i' (ls++[s]) ts v9 va xs:=by
 have h3:Step (fun q=>vl.ownBlock=some q) X2 X3:=iZ hgrow;have h4:Step (·=bt) X3 (X3.setCell ⟨bt,4,none⟩ v9):=bg.setCell _ _ iV;have ho:∀q,vl.ownBlock=some q→w1.heap.size≤q∧q<X.heap.size:=fun q hq=>h.ol.lt q hq;have hlen:(ls++[s]).length=ls.length+1:=by simp
 have hb3:=h3.keep (h2.keep h.blk (fun h=>h)) (fun e=>by have:=(ho bt e).1;omega);refine⟨((h.rd.quiet h2).step h3 (fun q hq e=>by have:=(ho q e).1;omega)).step h4 oi,aQ hb3 4 v9,?_,?_,?_,?_,?_,by rw[hlen];omega,?_⟩
 ·rw[hlen,List.map_append];exact jC hown h4 (fun q hq e=>by have:=(hown.lt q hq).1;omega)
 ·refine jC (jC (h2.owns h.oa (fun _ _ h=>h)) h3 (fun q hq e=>h.ne q e hq)) h4 (fun q hq e=>by have:=(h.oa.lt q hq).1;omega)
 ·have h5:=fV.mono (P':=fun q=>(w1.heap.size≤q∧va.ownBlock≠some q∧vl.ownBlock≠some q)∧q<X.heap.size) (fun q h7 h8=>⟨h8,h7⟩) _ _ h.el;have h6:=fV.step h4 (fun q hq e=>by have:=hq.1.1;omega) _ _ (fV.step h3 (fun q hq e=>hq.1.2.2 e) _ _ (fV.step h2 (fun _ _ h=>h) _ _ h5));refine fV.mono (fun q _ hq=>⟨hq.1.1,hq.1.2.1,fun e=> ?_⟩) _ _ h6;rcases hat with h7|h7
  ·exact hq.1.2.2 (by rw[←h7];exact e)
  ·rw[h7]at e;have e2:X2.heap.size=q:=Option.some.inj e;have:=h2.size;have:=hq.2;omega
 ·intro q hq e;rcases hat with h7|h7
  ·exact h.ne q (by rw[←h7];exact hq) e
  ·rw[h7]at hq;have e2:X2.heap.size=q:=Option.some.inj hq;have:=(h.oa.lt q e).2;have:=h2.size;omega
 ·intro x hx;rcases List.mem_append.1 hx with hx|hx
  ·exact h.sz x hx
  ·rw[List.mem_singleton.1 hx];exact hs
 ·refine((h.st.trans (h2.mono fe)).then h3 (fun q hq e=>by have:=(ho q e).1;omega)).trans (h4.mono ir)
theorem NH (f:Nat) (ih:∀f',f'<f→vN f'):Cj f:=by
 intro R w i d bt k nm t hl h hd hrb hbt hno;have HL:=ai hl;have H0:=ai h;have fH:=ai hno;have IH:=ai ih;obtain⟨r,hr⟩:=bF (Aj f R.l i d);have HRR:=ai hr;rw[←hr]at hno⊢;have fH:=ai hno;have hbl:=aP hbt;obtain⟨w1,hw1⟩:=bF (w.alloc (.cells #[gW R.rb 0] 75));have dH:=nS hw1
 have kK:=nB hw1
 have Ei:=ai (dH.o.keep hbt (fun h=>h));have HW1:=ai hw1;have H1:=ai (h.quiet dH.o);have hw1s:=aP kK.o;have bZ:Hid (∀X:World,Step (fun k=>k=R.rb∨k=bt) w1 X→X.cell? ⟨w.heap.size,0,none⟩=some (.pointer (some ⟨R.rb,0,none⟩))):=fun X hX=>aj (hX.keep kK.o om) 0 _ rfl
 have p0:=bZ.o w1 bg;obtain⟨i0,hi0,hz0,hz1,hz2⟩:=info_parts Tryz.oN;have HI:=ai hi0;have HZ0:=ai hz0;have HZ1:=ai hz1;have HZ2:=ai hz2;obtain⟨j0,hj0,hy0,hy1,hy2⟩:=info_parts Tryz.NG;have HJ:=ai hj0;have HY0:=ai hy0;have HY1:=ai hy1;have HY2:=ai hy2;clear ih hl h hno hr hbt hw1 hi0 hz0 hz1 hz2 hj0 hy0 hy1 hy2;go_enter Tryz.func82,Tryz.ntmps82;go_upto_region 1 with fail
 rw[←HW1.o];go_wp2_with fail;cases hb:bG R.l i [60]with
 |false=>have HB:=ai hb;clear hb;refine(dU R HL.o ⟨#[60]⟩ _ i d H1.o dc HB.o).mono ?_;rintro e w2 ⟨rfl,hr2,h2⟩;have HR2:=ai hr2;have HS2:=ai h2;clear hr2 h2 p0;go_wp2_with fail;refine bodyPost_ret (results_none rfl _ _ _) rfl ?_;rw[HRR.o,Aj,HB.o,if_neg dc];exact⟨rfl,⟨.slice none 0 0,.slice none 0 0,[],HS2.o.keep Ei.o om,nR,dh.nil _ _ _,by rw[fV],dh.nil _ _ _⟩,HR2.o,((dH.o.mono fe).trans HS2.o).mono il⟩
 |true=>
  have HB:=ai hb;have kY:Hid (r=mg f R.l (i+1) d [] []):=by show _=_;rw[HRR.o,Aj,hb,if_pos rfl]
  clear hb;refine(cZ R HL.o ⟨#[60]⟩ _ i d H1.o dc HB.o).mono ?_;rintro e w2 ⟨rfl,hr2,h2⟩;have HR2:=ai hr2;have HS2:=ai h2;have qK:=ai (h2.keep Ei.o om);clear hr2 h2 p0;go_wp2_with fail;go_loopg [] f (fun gg wr=>gg≤f∧∃(i':Nat) (ls:List ByteArray) (ts:List Ty) (vl va:Value) (xs:List Value),r=mg gg R.l i' d ls ts∧qN R w1 bt k nm t d wr i' ls ts vl va xs);case atStart=>exact⟨Nat.le_refl _,i+1,[],[],.slice none 0 0,.slice none 0 0,[],kY.o,HR2.o,qK.o,World.ownsRow_nil _ _ _ _,World.ownsRow_nil _ _ _ _,by rw[fV],nR,nR,by simp,HS2.o.mono il⟩
  case round=>
   obtain⟨hgf,i',ls,ts,vl,va,xs,hrq,hst⟩:=hrel;have YI:=ai hrq;have HST:=ai hst;obtain⟨gn,rfl⟩:∃gn,gk=gn+1:=by
    cases gk with
    |zero=>exact absurd hrq (by rw[mg];exact fH.o)
    |succ gn=>exact⟨gn,rfl⟩
   obtain⟨Ej,Em,rfl⟩:=b_ hst.ol;obtain⟨rf,rq,rfl⟩:=b_ hst.oa;have p0:=bZ.o wr hst.st;have zT:=aj hst.blk 4 _ rfl;have xR:=aj hst.blk 5 _ rfl;have hfew:=hst.few;(have tX:Hid (r=(eU (ls.length+ts.length) 8 R.l i').bind fun _ i=>(if(tokA R.l i).kind=2∧ts.length=0 then(jl R.l i).bind fun x j=>.ok (ls++[x],ts) j else(kG gn R.l i d).bind fun x j=>.ok (ls,ts++[x]) j).bind fun p j=>if bG R.l j [44]then mg gn R.l (j+1) d p.1 p.2 else(aJ R.l j [62]).bind fun _ j=>.ok p j):=by show _=_;rw[YI.o,mg]);clear hrq hst;(go_upto_region 2 with fail);go_still_tail 12,kr;change wpList _ _ _ _ _ wr.drew;have uy:Hid (qN R w1 bt k nm t d wr.drew i' ls ts (.slice Ej ls.length Em) (.slice rf ts.length rq) xs):=HST.o.quiet (bg.drew);obtain⟨wd,hwd⟩:=bF wr.drew;rw[←hwd]at uy⊢;(have HX0:Hid (jg wr wd):=by rw[hwd];exact bg.drew);clear hwd p0 zT xR;have p0:=bZ.o wd uy.o.st;have zT:=aj uy.o.blk 4 _ rfl;have xR:=aj uy.o.blk 5 _ rfl;(have el1:IntKind.i64.wrap ((ls.length:Int)+(ts.length:Int))=((ls.length+ts.length:Nat):Int):=by rw[show((ls.length:Int)+(ts.length:Int))=((ls.length+ts.length:Nat):Int) by omega];exact IntWalk.i64_in _ om);go_wp2_with fail;have hrm:Calls Tryz.prog 49 #[.agg #[gW R.rb 0],.int .i64 ((ls.length:Int)+(ts.length:Int)),.int .i64 8] wd (aK R d iJ (eU (ls.length+ts.length) 8 R.l i') wd):=mr R wd (ls.length+ts.length) 8 i' d uy.o.rd;have HRM:=ai hrm;clear hrm;refine HRM.o.mono ?_;rintro e w3 hp;cases hn:eU (ls.length+ts.length) 8 R.l i' with
   |out=>exact(kX hn).elim
   |err c ln col=>rw[hn]at hp;obtain⟨rfl,s3⟩:=hp;refine⟨rfl,?_⟩;rw[tX.o,hn];exact⟨rfl,((dH.o.mono fe).trans (uy.o.st)).trans (s3.mono il)⟩
   |ok u j=>
    have hji:j=i'∧ls.length+ts.length<8:=by
     unfold eU at hn;split at hn
     ·cases hn
     ·cases hn;exact⟨rfl,by omega⟩
    obtain⟨rfl,FW⟩:=hji;have HN:=ai hn;rw[hn]at hp;obtain⟨⟨v,rfl,rfl⟩,hr3,s3⟩:=hp;have fP:=ai (uy.o.read hrb om hr3 s3);(have qf:Hid (r=(if(tokA R.l j).kind=2∧ts.length=0 then(jl R.l j).bind fun x j=>.ok (ls++[x],ts) j else(kG gn R.l j d).bind fun x j=>.ok (ls,ts++[x]) j).bind fun p j=>if bG R.l j [44]then mg gn R.l (j+1) d p.1 p.2 else(aJ R.l j [62]).bind fun _ j=>.ok p j):=by show _=_;rw[tX.o,HN.o];rfl);clear hn hr3 s3 p0 zT xR;have p0:=bZ.o w3 fP.o.st;have xR:=aj fP.o.blk 5 _ rfl;(have hfd0:∀(a0 a1 a2 a3 a4:Value) (w:World),(Instr.field 111 (.agg #[a0,a1,a2,a3,a4]) 0).run Tryz.prog w=.ok a0 w:=fun _ _ _ _ _ _=>by kernel_rfl);obtain⟨tk,htk⟩:=bF (tokA R.l j);have UC:=ai htk;have Yu:=ai (lF R w3 j d tk fP.o.rd (by rw[htk];exact fP.o.rd.tok));clear htk;obtain⟨bz,hbz⟩:∃bz,((ts.length:Int)==0)=bz:=⟨_,rfl⟩;obtain⟨bk,hbk⟩:∃bk,((tk.kind:Int)==2)=bk:=⟨_,rfl⟩;have HBZ:=ai hbz;have d_:=ai hbk;(go_upto_region 3 with fail);go_cut [33] (fun s33 wx=>s33=.bool (bk&&bz)∧qN R w1 bt k nm t d wx j ls ts (.slice Ej ls.length Em) (.slice rf ts.length rq) xs);case first=>
     go_wp2_with fail;refine Yu.o.mono ?_;rintro e w4 ⟨rfl,s4⟩;have fD:=ai (fP.o.quiet s4);clear s4 p0 xR;have p0:=bZ.o w4 fD.o.st;have xR:=aj fD.o.blk 5 _ rfl;cases bk with
     |false=>go_wp2_with fail;go_meet;case rel=>exact⟨rfl,fD.o⟩
     |true=>go_wp2_with fail;go_meet;case rel=>exact⟨rfl,fD.o⟩
    case rest=>
     obtain⟨rfl,wS⟩:=hcut;obtain⟨w4,rfl⟩:=bF wc;have fD:=ai wS;(have HCN:Hid ((bk&&bz)=decide ((tokA R.l j).kind=2∧ts.length=0)):=by show _=_;rw[←d_.o,←HBZ.o,UC.o,kF _ 2 2 rfl,kF _ 0 0 rfl,Bool.eq_iff_iff];simp);obtain⟨bc,hbc⟩:=bF (bk&&bz);rw[←hbc]at HCN⊢;clear wS hbc hbz hbk p0 xR;(go_upto_if 33 with fail);go_cut [] (fun wx=>∃(i2:Nat) (Ql:List ByteArray) (Qm:List Ty) (Xa JF:Value) (JG:List Value),r=(if bG R.l i2 [44]then mg gn R.l (i2+1) d Ql Qm else(aJ R.l i2 [62]).bind fun _ j=>.ok (Ql,Qm) j)∧qN R w1 bt k nm t d wx i2 Ql Qm Xa JF JG);case first=>
      cases bc with
      |true=>
       obtain⟨hk2,hz2⟩:=of_decide_eq_true HCN.o.symm;(have NI:Hid (jl R.l j=.ok (lX (tokA R.l j).text) (j+1)):=by show _=_;unfold jl;rw[if_pos hk2]);obtain⟨s,hs⟩:=bF (lX (tokA R.l j).text);(have YJ:Hid (s.size≤9223372036854775807):=by rw[hs];exact Iw HL.o fD.o.rd.lt);rw[←hs]at NI;(have Qn:Hid (r=(if bG R.l (j+1) [44]then mg gn R.l (j+1+1) d (ls++[s]) ts else(aJ R.l (j+1) [62]).bind fun _ j=>.ok (ls++[s],ts) j)):=by show _=_;rw[qf.o,if_pos ⟨hk2,hz2⟩,NI.o];rfl);clear hk2 hz2 hs;(have HLIFE:Hid (∀X,bC R X j d→Calls Tryz.prog 81 #[.agg #[gW R.rb 0]] X fun e w'=>e=.returned (.string s)∧bC R w' (j+1) d∧Step (·=R.rb) X w'):=by intro X hX;refine(vM R HL.o X j d hX).mono ?_;intro e w' hp;rw[NI.o]at hp;obtain⟨⟨v,he,hv⟩,h1,h2⟩:=hp;exact⟨by rw[he,hv],h1,h2⟩);have p0:=bZ.o w4 fD.o.st;have zT:=aj fD.o.blk 4 _ rfl;(go_upto_region 4 with fail);first
       |(go_region_law (first
           |(refine pR _ rfl (w8.heap.size+1) (.tmp 38) (.tmp 41) 40 rfl w1.heap.size 9 i0 (.string ⟨#[]⟩) 1 16 Tryz.underlying40 HI.o HZ0.o HZ1.o HZ2.o rfl dc _ _ _ (by simp[Act.eval]) Qo.o _ 1 _ (by simp[Act.eval]) IE.o rfl IG.o (by unfold maxLen;omega) om Qp.o ?_;intro v9 w9 iU gJ oG;obtain⟨a9,c9,rfl⟩:=b_ iU;have kP:Hid (qN R w1 bt k nm t d (w9.setCell ⟨bt,4,none⟩ (.slice a9 (ls.length+1) c9)) (j+1) (ls++[s]) ts (.slice a9 (ls.length+1) c9) (.slice rf ts.length rq) xs):=jM.o.pushL hrb om (bg.alloc _) iU gJ oG YJ.o FW;have hbb:=(iZ gJ).keep (aT (o':=.cells #[aI s] 9) jM.o.blk) (fun e=>by have:=(jM.o.ol.lt _ e).1;omega);have bt4':=aj hbb 4 _ rfl;have bz4':=aG hbb 4;clear hbb iU gJ oG)
           |(go_simp;go_at_call 81;refine(HLIFE.o _ (fD.o.rd.quiet (bg.drew))).mono ?_;rintro e8 w8 ⟨rfl,uo,hs8⟩;have jM:=ai ((fD.o.quiet (bg.drew)).read hrb om uo hs8);have Qo:Hid ((w8.alloc (.cells #[aI s] 9)).ownsRow w1.heap.size 9 1 (.slice Ej ls.length Em) ls.length (ls.map .string)):=jM.o.ol.alloc _;have IE:Hid (Row (w8.alloc (.cells #[aI s] 9)) (w8.heap.size+1) (.slice (some ⟨w8.heap.size,0,none⟩) 1 1) 1 [.string s]):=Row.new (aC _ _) dc;have IG:Hid (∀u∈[Value.string s],u.oneCell'=true):=by
              show∀u∈_,_
              intro u hu
              simp at hu
              subst hu;rfl
             have Qp:Hid (w1.heap.size≤(w8.alloc (.cells #[aI s] 9)).heap.size):=by
              show _≤_
              have:=jM.o.st.size
              simp;omega
             have bt48:=aj jM.o.blk 4 _ rfl
             have bt49:=aj (aT (o':=.cells #[aI s] 9) jM.o.blk) 4 _ rfl
             clear uo hs8)))
       |fail
       all_goals (
        clear p0 zT
        go_wp2_with fail
        go_meet
        case rel=>exact⟨j+1,ls++[s],ts,_,_,xs,Qn.o,kP.o⟩)
      |false=>
       have hcn:¬((tokA R.l j).kind=2∧ts.length=0):=of_decide_eq_false HCN.o.symm;(have Qn:Hid (r=(kG gn R.l j d).bind fun x i2=>if bG R.l i2 [44]then mg gn R.l (i2+1) d ls (ts++[x])else(aJ R.l i2 [62]).bind fun _ j=>.ok (ls,ts++[x]) j):=by show _=_;rw[qf.o,if_neg hcn];cases kG gn R.l j d<;>rfl);clear hcn;have Hr:Hid (∀X:World,Step (fun q=>q=R.rb∨q=bt∨(Value.slice rf ts.length rq).ownBlock=some q) w4 X→X.cell? ⟨w.heap.size,0,none⟩=some (.pointer (some ⟨R.rb,0,none⟩))):=by
        show∀X,_;intro X hX;refine hX.cell (bZ.o w4 fD.o.st) (fun e=> ?_);have e2:w.heap.size=R.rb∨w.heap.size=bt∨(Value.slice rf ts.length rq).ownBlock=some w.heap.size:=e;rcases e2 with e2|e2|e2
        ·omega
        ·omega
        ·have:=(fD.o.oa.lt _ e2).1;omega
       obtain⟨zsT,hzsT⟩:∃zsT,zsT=[Value.int .i64 0,dG,dG,aW,ak,ak,ah 0,ah 0]:=⟨_,rfl⟩;(have HO:Hid (xB R w4 5 7 8 9 10 13 bt w1.heap.size 8 ts.length (.slice rf ts.length rq) xs zsT):=by show xB _ _ _ _ _ _ _ _ _ _ _ _ _ _ _;refine⟨by decide,by decide,by decide,by decide,by decide,by decide,by decide,by decide,by decide,hrb,by omega,fD.o.st.size,fun q hq=>fD.o.oa.lt q hq,fD.o.el.len,by rw[hzsT];rfl⟩);subst hzsT;(have Qq:Hid (∀u∈[Value.int .i64 0,dG,dG,aW,ak,ak,ah 0,ah 0],u.oneCell'=true):=by intro u hu;simp at hu;rcases hu with rfl|rfl|rfl|rfl|rfl|rfl|rfl|rfl<;>rfl);(have hlts:ts.length≤9:=by omega);cases hx:kG gn R.l j d with
       |out=>exact absurd (by rw[Qn.o,hx];rfl) fH.o
       |err c ln col=>
        have HX:=ai hx;clear hx;obtain⟨ty,-⟩:∃ty:Ty,ty=fK:=⟨_,rfl⟩;obtain⟨j2,-⟩:∃j2,j2=j:=⟨_,rfl⟩;have HE:Hid (yP (fun w P cs=>gG w P ty cs)):=TyEl ty;have vP:Hid (∀V,jH R j j2 d w4 5 7 8 9 10 13 bt (fun v=>.cells #[ah k,aI nm,aV,aW,.slice Ej ls.length Em,v,ah t.line,ah t.col] 46 (0,0)) w1.heap.size 46 8 ts.length (.slice rf ts.length rq) xs [Value.int .i64 0,dG,dG,aW,ak,ak,ah 0,ah 0] (fun w P cs=>gG w P ty cs) [some (.pointer (some ⟨bt,0,none⟩)),some (.pointer (some ⟨bt,0,none⟩)),some (.pointer (some ⟨bt,5,none⟩)),some (.slice rf ts.length rq),some (.agg #[gW R.rb 0]),none,some (.int .i64 (ts.length:Int)),none,none,none,none,some (.pointer (some ⟨bt,0,none⟩)),some (.pointer (some ⟨bt,5,none⟩)),none] (fun _=>false) V w4.drew):=fun V=>jH.zero (bg.drew) fD.o.rd fD.o.oa fD.o.blk;(have vS:Hid (∀X,bC R X j d→Calls Tryz.prog 44 #[.agg #[gW R.rb 0]] X fun e wq=>e=.panicked [{v:=.iface 184 (.agg #[ah c,ah ln,ah col]),recovered:=false}]∧Step (·=R.rb) X wq):=by intro X hX;have h9:=IH.o gn om R X j d HL.o hX hd (by rw[HX.o];intro h;cases h);rw[HX.o]at h9;exact h9);have CB:Hid (∀X wq:World,Step (fun q=>q=R.rb∨q=bt∨(Value.slice rf ts.length rq).ownBlock=some q) w4 X→Step (·=R.rb) X wq→LQ R d bt k nm t r w (.panicked [{v:=.iface 184 (.agg #[ah c,ah ln,ah col]),recovered:=false}]) wq):=by
         show∀X wq,_;intro X wq h1 h2;rw[Qn.o,HX.o];refine⟨rfl,((dH.o.mono fe).trans fD.o.st).then (h1.trans (h2.mono il)) (fun q hq e=> ?_)⟩;rcases e with e|e|e
         ·exact .inl e
         ·exact .inr e
         ·have:=(fD.o.oa.lt _ e).1;have:=dH.o.size;omega
        (go_upto_region 5 with fail);refine bD kr (fun L V X=>jH R j j2 d w4 5 7 8 9 10 13 bt (fun v=>.cells #[ah k,aI nm,aV,aW,.slice Ej ls.length Em,v,ah t.line,ah t.col] 46 (0,0)) w1.heap.size 46 8 ts.length (.slice rf ts.length rq) xs [Value.int .i64 0,dG,dG,aW,ak,ak,ah 0,ah 0] (fun w P cs=>gG w P ty cs) [some (.pointer (some ⟨bt,0,none⟩)),some (.pointer (some ⟨bt,0,none⟩)),some (.pointer (some ⟨bt,5,none⟩)),some (.slice rf ts.length rq),some (.agg #[gW R.rb 0]),none,some (.int .i64 (ts.length:Int)),none,none,none,none,some (.pointer (some ⟨bt,0,none⟩)),some (.pointer (some ⟨bt,5,none⟩)),none] L V X∧L 5=false) 14 rfl kr kr kr kr ?h0 ?hs ?hdone;case h0=>exact⟨vP.o _,rfl⟩
        case hs=>
         refine⟨?_,?_,?_,?_,?_,?_,?_,?_,?_,?_,?_,?_,?_,?_,trivial⟩
         all_goals intro L V X a ev ig hdf hL ay hJ
         ·have o1:=ig 1 rfl;change a.tmps[1]?.getD undef=.pointer (some ⟨bt,0,none⟩)at o1;go_simp;exact⟨_,rfl,⟨hJ.1.up 0 dc dc dc dc dc dc rfl,by rw[aA _ dc];exact hJ.2⟩⟩
         ·have e45:=(ev 0 45 rfl (ay 0 rfl)).trans (hJ.1.iD 0 _ rfl (ay 0 rfl));go_simp;exact⟨_,rfl,⟨hJ.1.up 1 dc dc dc dc dc dc rfl,by rw[aA _ dc];exact hJ.2⟩⟩
         ·have e46:=(ev 1 46 rfl (ay 1 rfl)).trans (hJ.1.iD 1 _ rfl (ay 1 rfl));go_simp;exact⟨_,rfl,⟨hJ.1.up 2 dc dc dc dc dc dc rfl,by rw[aA _ dc];exact hJ.2⟩⟩
         ·have e47:=(ev 2 47 rfl (ay 2 rfl)).trans (hJ.1.iD 2 _ rfl (ay 2 rfl));have hZ:=(hJ.1.FV (hJ.1.Qk dc hL)).1;have hb:=hJ.1.blk;rw[hZ,if_neg dc]at hb;have q5:X.cell? ⟨bt,5,none⟩=some (.slice rf ts.length rq):=aj hb 5 _ rfl;go_simp;exact⟨_,rfl,⟨hJ.1.up 3 dc dc dc dc dc dc rfl,by rw[aA _ dc];exact hJ.2⟩⟩
         ·have o2:=ig 2 rfl;change a.tmps[2]?.getD undef=.pointer (some ⟨w.heap.size,0,none⟩)at o2;have p0:=Hr.o X hJ.1.st;go_simp;exact⟨_,rfl,⟨hJ.1.up 4 dc dc dc dc dc dc rfl,by rw[aA _ dc];exact hJ.2⟩⟩
         ·have e49:=(ev 4 49 rfl (ay 4 rfl)).trans (hJ.1.iD 4 _ rfl (ay 4 rfl));have hrd:=hJ.1.rd;rw[hL,if_neg dc]at hrd;go_simp;refine(vS.o X hrd).mono ?_;rintro e wq ⟨rfl,hs⟩;exact⟨hdf,CB.o X wq hJ.1.st hs⟩
         ·have e48:=(ev 3 48 rfl (ay 3 rfl)).trans (hJ.1.iD 3 _ rfl (ay 3 rfl));go_simp;exact⟨_,rfl,⟨hJ.1.up 6 dc dc dc dc dc dc rfl,by rw[aA _ dc];exact hJ.2⟩⟩
         ·have hu:=hJ.1.build HE.o HO.o hL rfl;go_simp;exact⟨_,rfl,⟨hu,by rw[aA _ dc];exact hJ.2⟩⟩
         ·have e48:=(ev 3 48 rfl (ay 3 rfl)).trans (hJ.1.iD 3 _ rfl (ay 3 rfl));exact absurd hJ.2 (by rw[ay 5 rfl];decide)
         ·have e51:=(ev 6 51 rfl (ay 6 rfl)).trans (hJ.1.iD 6 _ rfl (ay 6 rfl));exact absurd hJ.2 (by rw[ay 5 rfl];decide)
         ·exact absurd hJ.2 (by rw[ay 5 rfl];decide)
         ·have e45:=(ev 0 45 rfl (ay 0 rfl)).trans (hJ.1.iD 0 _ rfl (ay 0 rfl));go_simp;exact⟨_,rfl,⟨hJ.1.up 11 dc dc dc dc dc dc rfl,by rw[aA _ dc];exact hJ.2⟩⟩
         ·have e55:=(ev 11 55 rfl (ay 11 rfl)).trans (hJ.1.iD 11 _ rfl (ay 11 rfl));go_simp;exact⟨_,rfl,⟨hJ.1.up 12 dc dc dc dc dc dc rfl,by rw[aA _ dc];exact hJ.2⟩⟩
         ·have e56:=(ev 12 56 rfl (ay 12 rfl)).trans (hJ.1.iD 12 _ rfl (ay 12 rfl));exact absurd hJ.2 (by rw[ay 5 rfl];decide)
        case hdone=>intro L V X hall hJ;exact absurd hJ.2 (by rw[hall 5 dc];decide)
       |ok ty j2=>
        have HX:=ai hx;clear hx;have HE:Hid (yP (fun w P cs=>gG w P ty cs)):=TyEl ty;have vP:Hid (∀V,jH R j j2 d w4 5 7 8 9 10 13 bt (fun v=>.cells #[ah k,aI nm,aV,aW,.slice Ej ls.length Em,v,ah t.line,ah t.col] 46 (0,0)) w1.heap.size 46 8 ts.length (.slice rf ts.length rq) xs [Value.int .i64 0,dG,dG,aW,ak,ak,ah 0,ah 0] (fun w P cs=>gG w P ty cs) [some (.pointer (some ⟨bt,0,none⟩)),some (.pointer (some ⟨bt,0,none⟩)),some (.pointer (some ⟨bt,5,none⟩)),some (.slice rf ts.length rq),some (.agg #[gW R.rb 0]),none,some (.int .i64 (ts.length:Int)),none,none,none,none,some (.pointer (some ⟨bt,0,none⟩)),some (.pointer (some ⟨bt,5,none⟩)),none] (fun _=>false) V w4.drew):=fun V=>jH.zero (bg.drew) fD.o.rd fD.o.oa fD.o.blk;have vS:Hid (∀X,bC R X j d→Calls Tryz.prog 44 #[.agg #[gW R.rb 0]] X fun e wq=>(∃v,e=.returned v∧∃cs:List Value,v=.agg cs.toArray∧gG wq (fun q=>X.heap.size≤q) ty cs)∧bC R wq j2 d∧Step (·=R.rb) X wq):=by intro X hX;have h9:=IH.o gn om R X j d HL.o hX hd (by rw[HX.o];intro h;cases h);rw[HX.o]at h9;exact h9
        have kP:Hid (∀(g9 c9:Nat) (yQ:List Value) (X:World),bC R X j2 d→X.heap[bt]?=some (.cells #[ah k,aI nm,aV,aW,.slice Ej ls.length Em,.slice (some ⟨g9,0,none⟩) (ts.length+1) c9,ah t.line,ah t.col] 46 (0,0))→X.ownsRow w1.heap.size 46 8 (.slice (some ⟨g9,0,none⟩) (ts.length+1) c9) (ts.length+1) (xs++yQ)→gG X (fun q=>w4.heap.size≤q∧q≠g9) ty yQ→((Value.slice rf ts.length rq).ownBlock=some g9∨w4.heap.size≤g9)→Step (fun q=>q=R.rb∨q=bt∨(Value.slice rf ts.length rq).ownBlock=some q) w4 X→
          ∃(i2:Nat) (Ql:List ByteArray) (Qm:List Ty) (Xa JF:Value) (JG:List Value),r=(if bG R.l i2 [44]then mg gn R.l (i2+1) d Ql Qm else(aJ R.l i2 [62]).bind fun _ j=>.ok (Ql,Qm) j)∧qN R w1 bt k nm t d X i2 Ql Qm Xa JF JG):=by
         show∀g9 c9 yQ X,_
         intro g9 c9 yQ X h1 h2 h3 h4 h5 h6
         have hol:=fD.o.ol
         have hne:=fD.o.ne
         have YK:∀q,(Value.slice Ej ls.length Em).ownBlock=some q→q≠g9:=by
          intro q hq e
          subst e
          rcases h5 with h5|h5
          ·
           exact hne q hq h5
          ·
           have:=(hol.lt q hq).2;omega
         have hlen:(ts++[ty]).length=ts.length+1:=by simp
         refine⟨j2,ls,ts++[ty],.slice Ej ls.length Em,.slice (some ⟨g9,0,none⟩) (ts.length+1) c9,xs++yQ,by rw[Qn.o,HX.o];rfl,h1,h2,jC hol h6 (fun q hq e=> ?_),by rw[hlen];exact h3,fV.snoc ?_ ?_,fun q hq e=> ?_,fD.o.sz,by rw[hlen];omega,fD.o.st.then h6 (fun q hq e=> ?_)⟩
         ·
          have h7:=(hol.lt q hq).1
          rcases e with e|e|e
          ·
           omega
          ·
           omega
          ·
           exact hne q hq e
         ·
          refine fV.mono ?_ _ _ (fV.step h6 ?_ _ _ (fV.mono (P':=fun q=>(w1.heap.size≤q∧(Value.slice rf ts.length rq).ownBlock≠some q∧(Value.slice Ej ls.length Em).ownBlock≠some q)∧q<w4.heap.size) (fun q h7 h8=>⟨h8,h7⟩) _ _ fD.o.el))
          ·
           intro q _ hq
           refine⟨hq.1.1,fun e=> ?_,hq.1.2.2⟩
           have e2:g9=q:=Option.some.inj e
           rcases h5 with h5|h5
           ·
            exact hq.1.2.1 (by rw[←e2];exact h5)
           ·
            have:=hq.2;omega
          ·
           intro q hq e
           rcases e with e|e|e
           ·
            have:=hq.1.1;omega
           ·
            have:=hq.1.1;omega
           ·
            exact hq.1.2.1 e
         ·
          refine gG.mono (fun q _ hq=>⟨Nat.le_trans fD.o.st.size hq.1,fun e=>hq.2 (Option.some.inj e).symm,fun e=> ?_⟩) _ _ h4
          have:=(hol.lt q e).2
          have:=hq.1
          omega
         ·
          exact YK q hq (Option.some.inj e).symm
         ·
          rcases e with e|e|e
          ·
           exact .inl e
          ·
           exact .inr e
          ·
           have:=(fD.o.oa.lt _ e).1;omega
        (go_upto_region 5 with fail);refine bD kr (jH R j j2 d w4 5 7 8 9 10 13 bt (fun v=>.cells #[ah k,aI nm,aV,aW,.slice Ej ls.length Em,v,ah t.line,ah t.col] 46 (0,0)) w1.heap.size 46 8 ts.length (.slice rf ts.length rq) xs [Value.int .i64 0,dG,dG,aW,ak,ak,ah 0,ah 0] (fun w P cs=>gG w P ty cs) [some (.pointer (some ⟨bt,0,none⟩)),some (.pointer (some ⟨bt,0,none⟩)),some (.pointer (some ⟨bt,5,none⟩)),some (.slice rf ts.length rq),some (.agg #[gW R.rb 0]),none,some (.int .i64 (ts.length:Int)),none,none,none,none,some (.pointer (some ⟨bt,0,none⟩)),some (.pointer (some ⟨bt,5,none⟩)),none]) 14 rfl kr kr kr kr ?h0 ?hs ?hdone;case h0=>exact vP.o _
        case hs=>
         refine⟨?_,?_,?_,?_,?_,?_,?_,?_,?_,?_,?_,?_,?_,?_,trivial⟩
         all_goals intro L V X a ev ig hdf hL ay hJ
         ·have o1:=ig 1 rfl;change a.tmps[1]?.getD undef=.pointer (some ⟨bt,0,none⟩)at o1;go_simp;exact⟨_,rfl,hJ.up 0 dc dc dc dc dc dc rfl⟩
         ·have e45:=(ev 0 45 rfl (ay 0 rfl)).trans (hJ.iD 0 _ rfl (ay 0 rfl));go_simp;exact⟨_,rfl,hJ.up 1 dc dc dc dc dc dc rfl⟩
         ·have e46:=(ev 1 46 rfl (ay 1 rfl)).trans (hJ.iD 1 _ rfl (ay 1 rfl));go_simp;exact⟨_,rfl,hJ.up 2 dc dc dc dc dc dc rfl⟩
         ·have e47:=(ev 2 47 rfl (ay 2 rfl)).trans (hJ.iD 2 _ rfl (ay 2 rfl));have hZ:=(hJ.FV (hJ.Qk dc hL)).1;have hb:=hJ.blk;rw[hZ,if_neg dc]at hb;have q5:X.cell? ⟨bt,5,none⟩=some (.slice rf ts.length rq):=aj hb 5 _ rfl;go_simp;exact⟨_,rfl,hJ.up 3 dc dc dc dc dc dc rfl⟩
         ·have o2:=ig 2 rfl;change a.tmps[2]?.getD undef=.pointer (some ⟨w.heap.size,0,none⟩)at o2;have p0:=Hr.o X hJ.st;go_simp;exact⟨_,rfl,hJ.up 4 dc dc dc dc dc dc rfl⟩
         ·have e49:=(ev 4 49 rfl (ay 4 rfl)).trans (hJ.iD 4 _ rfl (ay 4 rfl));have hrd:=hJ.rd;rw[hL,if_neg dc]at hrd;go_simp;refine(vS.o X hrd).mono ?_;rintro e wq ⟨⟨v,rfl,cs,rfl,hty⟩,hr,hs⟩;exact⟨_,rfl,hJ.call HE.o HO.o hL rfl hs hr hty⟩
         ·have e48:=(ev 3 48 rfl (ay 3 rfl)).trans (hJ.iD 3 _ rfl (ay 3 rfl));go_simp;exact⟨_,rfl,hJ.up 6 dc dc dc dc dc dc rfl⟩
         ·have hu:=hJ.build HE.o HO.o hL rfl;go_simp;exact⟨_,rfl,hu⟩
         ·have e48:=(ev 3 48 rfl (ay 3 rfl)).trans (hJ.iD 3 _ rfl (ay 3 rfl));have e52:=ev 7 52 rfl (ay 7 rfl);obtain⟨zb,z1,z2,z3⟩:=hJ.bl (ay 7 rfl) hL;have hall:∀i,i<8→L i=true:=by
           intro i hi;rcases(show i=0∨i=1∨i=2∨i=3∨i=4∨i=5∨i=6∨i=7 by omega)with rfl|rfl|rfl|rfl|rfl|rfl|rfl|rfl
           ·exact ay 0 rfl
           ·exact ay 1 rfl
           ·exact ay 2 rfl
           ·exact ay 3 rfl
           ·exact ay 4 rfl
           ·exact ay 5 rfl
           ·exact ay 6 rfl
           ·exact ay 7 rfl
          refine gq _ X.heap.size (.tmp 48) (.tmp 52) 44 rfl w1.heap.size 46 j0 (.agg #[ah 0,dG,dG,aW,ak,ak,ah 0,ah 0]) 8 112 Tryz.underlying44 HJ.o HY0.o HY1.o HY2.o rfl dc _ _ _ (by rw[bW];exact e48) (hJ.old hL) (V 7) 1 _ (by rw[bW];exact e52) (by rw[z1];exact(Row.new z3 dc).mono (aP z3)) rfl Qq.o (by unfold maxLen;omega) om (Nat.le_trans HO.o.bw hJ.st.size) ?_;intro v8 w8 sO oO zU;exact⟨v8,rfl,hJ.app HE.o HO.o hL hall rfl sO oO zU⟩
         ·have e51:=(ev 6 51 rfl (ay 6 rfl)).trans (hJ.iD 6 _ rfl (ay 6 rfl));have e53:=ev 8 53 rfl (ay 8 rfl);obtain⟨g,c,hV,-⟩:=hJ.new (ay 8 rfl);rw[hV]at e53;(have hi0:(0:Int)≤(ts.length:Int):=by omega);(have hi1:(ts.length:Int)<((ts.length+1:Nat):Int):=by omega);(have hi2:(ts.length:Int)<(ts.length:Int)+1:=by omega);have hu:=hJ.index HO.o (ay 8 rfl) rfl hV;go_simp;exact⟨_,rfl,hu⟩
         ·have h8:=ay 8 rfl;have h9:=ay 9 rfl;have h5:=ay 5 rfl;obtain⟨g,c,hV,-,ys,hown,-⟩:=hJ.new h8;have ep:=(ev 9 54 rfl h9).trans ((hJ.ix h9).2 g c hV);obtain⟨cs,c1,c2⟩:=hJ.el h5;have ec:=(ev 5 50 rfl h5).trans c1;rw[hV]at hown;obtain⟨g',c',cur,hg',-,hcur,hsz⟩:=uw hown om;cases hg';have hcl:cs.length=8:=gG.len c2;refine fC 46 (.tmp 54) (.tmp 50) rfl g (ts.length*8) 46 cur cs (by rw[bW];exact ep) (by rw[bW];exact ec) hcur (by rw[hcl];exact Tryz.gB) om (gG.one c2) ?_;intro w6 hb6 hs6;exact⟨undef,rfl,hJ.put HE.o HO.o h8 (fun u hu=>by cases hu) hV c1 hcl hcur hb6 hs6⟩
         ·have e45:=(ev 0 45 rfl (ay 0 rfl)).trans (hJ.iD 0 _ rfl (ay 0 rfl));go_simp;exact⟨_,rfl,hJ.up 11 dc dc dc dc dc dc rfl⟩
         ·have e55:=(ev 11 55 rfl (ay 11 rfl)).trans (hJ.iD 11 _ rfl (ay 11 rfl));go_simp;exact⟨_,rfl,hJ.up 12 dc dc dc dc dc dc rfl⟩
         ·have e56:=(ev 12 56 rfl (ay 12 rfl)).trans (hJ.iD 12 _ rfl (ay 12 rfl));have h8:=ay 8 rfl;have ev8:=ev 8 53 rfl h8;obtain⟨g,c,hV,-⟩:=hJ.new h8;rw[hV]at ev8;have hb:=hJ.blk;rw[hL,if_neg dc]at hb;have q5:=aj hb 5 _ rfl;have z5:=aG hb 5;have hu:=hJ.last (X':=X.setCell ⟨bt,5,none⟩ (.slice (some ⟨g,0,none⟩) (ts.length+1) c)) HE.o HO.o h8 (fun u hu=>by cases hu) (by rw[hV];exact aQ hb 5 _) (bg.setCell _ _ iV);go_simp;exact⟨undef,hu⟩
        case hdone=>intro L V X hall hJ;obtain⟨g9,c9,yQ,NK,NM,iU,NP,NQ,wW,hgb9⟩:=hJ.done ⟨hall 5 dc,hall 8 dc,hall 10 dc,hall 13 dc⟩;rw[WZ];simp only[lW,dZ,FB,Bj];clear hJ hall;go_wp2_with fail;go_meet;case rel=>exact kP.o g9 c9 yQ X NK NM iU NP NQ wW
     case rest=>
      obtain⟨i2,Ql,Qm,Xa,JF,JG,II,hst5⟩:=hcut;obtain⟨w5,rfl⟩:=bF wc;have Ub:=ai II;have lN:=ai hst5;clear II hst5;have p0:=bZ.o w5 lN.o.st;go_wp2_with fail;cases hc:bG R.l i2 [44]with
      |true=>
       have HC:=ai hc;clear hc;refine(cZ R HL.o ⟨#[44]⟩ _ i2 d lN.o.rd dc HC.o).mono ?_;rintro e w6 ⟨rfl,o9,s6⟩;have fA:=ai (lN.o.read hrb om o9 s6);(have yR:Hid (r=mg gn R.l (i2+1) d Ql Qm):=by show _=_;rw[Ub.o,HC.o,if_pos rfl]);clear o9 s6 p0;go_wp2_with fail;go_roundg gn;case rel=>exact⟨by omega,i2+1,Ql,Qm,Xa,JF,JG,yR.o,fA.o⟩
       case measure=>omega
      |false=>
       have HC:=ai hc;clear hc;refine(dU R HL.o ⟨#[44]⟩ _ i2 d lN.o.rd dc HC.o).mono ?_;rintro e w6 ⟨rfl,o9,s6⟩;have fA:=ai (lN.o.read hrb om o9 s6);(have yR:Hid (r=(aJ R.l i2 [62]).bind fun _ j=>.ok (Ql,Qm) j):=by show _=_;rw[Ub.o,HC.o,if_neg dc]);clear o9 s6 p0;have p0:=bZ.o w6 fA.o.st;go_wp2_with fail;refine(dL R HL.o w6.heap.size ⟨#[62]⟩ _ i2 d (fA.o.rd.quiet (bg.alloc _)) dc (aj (aC _ _) 0 _ rfl)).mono ?_;rintro e w7 hp;have hp2:aK R d iJ (aJ R.l i2 [62]) _ e w7:=hp;cases hn:aJ R.l i2 [62]with
       |out=>exact(dJ hn).elim
       |err c ln col=>rw[hn]at hp2;obtain⟨rfl,s7⟩:=hp2;refine⟨rfl,?_⟩;rw[yR.o,hn];exact⟨rfl,((dH.o.mono fe).trans fA.o.st).trans ((((Step.refl (·=R.rb) _).alloc _).trans s7).mono il)⟩
       |ok u j2=>
        have HN7:=ai hn;rw[hn]at hp2;obtain⟨⟨v,rfl,rfl⟩,Xb,s7⟩:=hp2;have rY:=ai (fA.o.read hrb om Xb (((Step.refl (·=R.rb) _).alloc _).trans s7));clear hn Xb s7 p0 hp;go_wp2_with fail;refine bodyPost_ret (results_none rfl _ _ _) rfl ?_;rw[yR.o,HN7.o];have hz:=dH.o.size;refine⟨rfl,⟨Xa,JF,JG,rY.o.blk,rY.o.sz,dh.jd rY.o.ol (fun q hq=> ?_),fV.mono oi _ _ rY.o.el,dh.jd rY.o.oa (fun q hq=> ?_)⟩,rY.o.rd,(dH.o.mono fe).trans rY.o.st⟩
        ·have:=(rY.o.ol.lt q hq).1;omega
        ·have:=(rY.o.oa.lt q hq).1;omega
theorem FX:∀f,vN f∧Cj f:=by
 intro f;induction f using Nat.strongRecOn with
 |ind f ih=>
  have ha:Cj f:=NH f (fun f' hf=>(ih f' hf).1);cases f with
  |zero=>exact⟨fun R w i d _ _ _ hno=>absurd (by rw[kG]) hno,ha⟩
  |succ f=>exact⟨Qi f (ih f (Nat.lt_succ_self f)).1 (ih f (Nat.lt_succ_self f)).2,ha⟩
def JH (n0:Nat) (w':World) (a:Ex) (v:Value):Prop:=∃cs:List Value,v=.agg cs.toArray∧dA w' (fun k=>n0≤k) a cs
def NR (n0:Nat) (w':World) (l:List Ex) (v:Value):Prop:=∃xs:List Value,dh w' (fun k=>n0≤k) v l.length xs∧bY w' (fun k=>n0≤k) l xs
def NS (n0:Nat) (w':World) (l:List St) (v:Value):Prop:=∃xs:List Value,dh w' (fun k=>n0≤k) v l.length xs∧eP w' (fun k=>n0≤k) l xs
def StV (n0:Nat) (w':World) (a:St) (v:Value):Prop:=∃cs:List Value,v=.agg cs.toArray∧jS w' (fun k=>n0≤k) a cs
def ni (f:Nat):Prop:=∀(R:gI) (w:World) (i d n:Nat),oJ R.l→bC R w i d→d≤40→n≤5→a_ f R.l i d n≠.out→
 Calls Tryz.prog 68 #[.agg #[gW R.rb 0],.int .i64 (n:Int)] w (aK R d (JH w.heap.size) (a_ f R.l i d n) w)
def yS (f:Nat):Prop:=∀(R:gI) (w:World) (i d:Nat),oJ R.l→bC R w i d→d≤40→iI f R.l i d≠.out→
 Calls Tryz.prog 108 #[.agg #[gW R.rb 0]] w (aK R d (JH w.heap.size) (iI f R.l i d) w)
def FY (f:Nat):Prop:=∀(R:gI) (w:World) (i d:Nat),oJ R.l→bC R w i d→d≤40→rD f R.l i d≠.out→
 Calls Tryz.prog 132 #[.agg #[gW R.rb 0]] w (aK R d (JH w.heap.size) (rD f R.l i d) w)
def CG (f:Nat):Prop:=∀(R:gI) (w:World) (i d:Nat),oJ R.l→bC R w i d→d≤40→lG f R.l i d≠.out→
 Calls Tryz.prog 148 #[.agg #[gW R.rb 0]] w (aK R d (NR w.heap.size) (lG f R.l i d) w)
def Qr (f:Nat):Prop:=∀(R:gI) (w:World) (i d:Nat),oJ R.l→bC R w i d→d≤40→qJ f R.l i d≠.out→
 Calls Tryz.prog 158 #[.agg #[gW R.rb 0]] w (aK R d (fun w' a v=>NR w.heap.size w' [a] v) (qJ f R.l i d) w)
def J3 (f:Nat):Prop:=∀(R:gI) (w:World) (i d:Nat),oJ R.l→bC R w i d→d≤40→qg f R.l i d≠.out→
 Calls Tryz.prog 147 #[.agg #[gW R.rb 0]] w (aK R d (JH w.heap.size) (qg f R.l i d) w)
def rF (f:Nat):Prop:=∀(R:gI) (w:World) (i d:Nat),oJ R.l→bC R w i d→d≤40→bU f R.l i d≠.out→
 Calls Tryz.prog 96 #[.agg #[gW R.rb 0]] w (aK R d (NS w.heap.size) (bU f R.l i d) w)
def FZ (f:Nat):Prop:=∀(R:gI) (w:World) (i d:Nat),oJ R.l→bC R w i d→d≤40→rE f R.l i d≠.out→
 Calls Tryz.prog 127 #[.agg #[gW R.rb 0]] w (aK R d (StV w.heap.size) (rE f R.l i d) w)
theorem dA.parts {w:World} {P:Nat→Prop} {x:Ex} {cs:List Value} (h:dA w P x cs):∃(k:Int) (nm:ByteArray) (v:Int) (m:Bool) (a1:Option Addr) (n1 c1:Nat) (a2:Option Addr) (n2 c2:Nat) (a3:Option Addr) (n3 c3:Nat) (l c:Int),cs=[.int .i64 k,.string nm,.int .u64 v,.bool m,.slice a1 n1 c1,.slice a2 n2 c2,.slice a3 n3 c3,.int .i64 l,.int .i64 c]:=by obtain⟨k,name,v,m,args,names,body,l,c⟩:=x;rw[dA]at h;obtain⟨_,_,_,_,_,rfl,_,_,_,⟨_,_,rfl,_⟩,⟨_,_,rfl,_⟩,_,⟨_,_,rfl,_⟩⟩:=h;exact⟨_,_,_,_,_,_,_,_,_,_,_,_,_,_,_,rfl⟩
theorem bY.single {w:World} {P:Nat→Prop} {x:Ex} {cs:List Value} (h:dA w P x cs):bY w P [x] cs:=by rw[bY];exact⟨cs,[],(List.append_nil _).symm,h,by rw[bY]⟩
theorem Tryz.aO:(Tryz.prog.info? 56).map (·.size)=some 9:=by kernel_rfl
def jZ (f:Nat) (l:List Tok) (i d:Nat):dI Ex:=
 if bG l i [45]then(iI f l (i+1) d).bind fun y j=>.ok (bP 15 (lX [45]) 0 false [y] [] [] (tokA l i)) j
 else if bG l i [33]then(iI f l (i+1) d).bind fun y j=>.ok (bP 15 (lX [33]) 0 false [y] [] [] (tokA l i)) j
 else if bG l i [42]then(iI f l (i+1) d).bind fun y j=>.ok (bP 7 dB 0 false [y] [] [] (tokA l i)) j
 else if bG l i [38]then(iI f l (iH l (i+1) [109,117,116]) d).bind fun y j=>.ok (bP 8 dB 0 (bG l (i+1) [109,117,116]) [y] [] [] (tokA l i)) j
 else rD f l i d
theorem Aq (f:Nat) (l:List Tok) (i d:Nat):iI (f+1) l i d=if d=40 then iw 2 l i else jZ f l i (d+1):=by rw[iI];rfl
def J4 (n0 bt:Nat) (w':World) (a:Ex):Prop:=∃cs:List Value,w'.heap[bt]?=some (.cells cs.toArray 56 (0,0))∧dA w' (fun k=>n0≤k) a cs
theorem J5 (R:gI) (f:Nat) (ih:yS f) (ihp:FY f) (bp bt:Nat) (w:World) (i d:Nat) (t:Tok) (hl:oJ R.l) (h:bC R w i d) (hd:d≤40) (hbp:w.heap[bp]?=some (.cells #[gW R.rb 0] 75 (0,0))) (hbt:w.heap[bt]?=some (.cells #[ah 0,aV,aX 0,aW,ak,ak,ak,ah t.line,ah t.col] 56 (0,0))) (hb1:R.rb<bp) (hb2:bp<bt) (ht:t=tokA R.l i) (hno:jZ f R.l i d≠.out):Calls Tryz.prog 131 #[.pointer (some ⟨bp,0,none⟩),.pointer (some ⟨bt,0,none⟩)] w (aY R d bt (J4 w.heap.size bt) (jZ f R.l i d) w):=by
 have HL:=ai hl;have H0:=ai h;have HT:=ai ht;have IH:=ai ih;have IHP:=ai ihp;obtain⟨r,hr⟩:=bF (jZ f R.l i d);have HRR:=ai hr;rw[←hr]at hno⊢;have fH:=ai hno;have hil:=h.lt;have JS:=aP hbt;have HKB:Hid (∀X:World,Step (·=R.rb) w X→X.cell? ⟨bp,0,none⟩=some (.pointer (some ⟨R.rb,0,none⟩))∧X.heap[bt]?=some (.cells #[ah 0,aV,aX 0,aW,ak,ak,ak,ah t.line,ah t.col] 56 (0,0))):=fun X hX=>⟨aj (hX.keep hbp om) 0 _ rfl,hX.keep hbt om⟩
 obtain⟨p0,-⟩:=HKB.o w bg;clear ih ihp hl h hbp hbt hr hno ht;go_enter Tryz.func131,Tryz.ntmps131;go_wp2_with fail;cases hb0:bG R.l i [45]with
 |true=>
  have HB0:=ai hb0;clear hb0;refine(cZ R HL.o ⟨#[45]⟩ _ i d H0.o dc HB0.o).mono ?_;rintro e wy ⟨rfl,xw,hsy⟩;have Ak:=ai xw;have uO:Hid (Step (·=R.rb) w wy):=bg.trans hsy;clear xw hsy p0;obtain⟨p0,hbt⟩:=HKB.o wy uO.o;have mD:=ai hbt;clear hbt;have m_:=aj mD.o 0 _ rfl;have ng:=aG mD.o 0;have Eg:=aj mD.o 1 _ rfl;have Eh:=aG mD.o 1;obtain⟨w4,hw4⟩:=bF ((wy.setCell ⟨bt,0,none⟩ (.int .i64 15)).setCell ⟨bt,1,none⟩ (.string ⟨#[45]⟩));have ji:Hid (Step (·=bt) wy w4):=by rw[hw4];exact(((Step.refl (·=bt) _).setCell _ _ iV).setCell _ _ iV)
  have qL:Hid (w4.heap[bt]?=some (.cells #[ah 15,.string ⟨#[45]⟩,aX 0,aW,ak,ak,ak,ah t.line,ah t.col] 56 (0,0))):=by rw[hw4];exact(aQ (aQ mD.o 0 (.int .i64 15)) 1 (.string ⟨#[45]⟩))
  have og:Hid (Step (fun k=>k=R.rb∨k=bt) w w4):=(uO.o.mono il).trans (ji.o.mono ir);have HR4:=ai (Ak.o.step ji.o oi);have p4:w4.cell? ⟨bp,0,none⟩=some (.pointer (some ⟨R.rb,0,none⟩)):=ji.o.cell p0 (fun e=>by have e2:bp=bt:=e;omega);go_upto_region 9 with fail
  rw[←hw4];clear p0 hw4 m_ ng Eg Eh;have p0:=p4;clear p4;go_wp2_with fail;cases hx:iI f R.l (i+1) d with
  |out=>have HX:=ai hx;exact absurd (by rw[HRR.o];unfold jZ;simp only[HB0.o,HX.o,if_true,dI.sG]) fH.o
  |err c ln col=>have HX:=ai hx;clear hx;refine(IH.o R _ (i+1) d HL.o HR4.o hd (by rw[HX.o];intro h;cases h)).mono ?_;rintro e wq hp;rw[HX.o]at hp;obtain⟨rfl,sq⟩:=hp;refine⟨rfl,aY.aU (c:=c) (ln:=ln) (col:=col) (by rw[HRR.o];unfold jZ;simp only[HB0.o,HX.o,if_true,dI.kT]) rfl ?_⟩;exact og.o.trans (sq.mono il)
  |ok y jx=>have HX:=ai hx;clear hx;refine(IH.o R _ (i+1) d HL.o HR4.o hd (by rw[HX.o];intro h;cases h)).mono ?_;rintro e wx hp;rw[HX.o]at hp;obtain⟨⟨v,rfl,cs,rfl,hy⟩,hrx,hsx⟩:=hp;have HY:=ai hy;obtain⟨k0,iK,v0,iL,a1,n1,c1,a2,n2,c2,a3,n3,c3,l0,c0,rfl⟩:=hy.parts;have vO:=ai hrx;have qm:=ai hsx;obtain⟨w5,hw5⟩:=bF (wx.alloc (.cells #[ah k0,aI iK,aX v0,bK iL,.slice a1 n1 c1,.slice a2 n2 c2,.slice a3 n3 c3,ah l0,ah c0] 56));(have sK:Hid (jg wx w5):=by rw[hw5];exact bg.alloc _);(have NC:Hid (w5.heap[wx.heap.size]?=some (.cells #[ah k0,aI iK,aX v0,bK iL,.slice a1 n1 c1,.slice a2 n2 c2,.slice a3 n3 c3,ah l0,ah c0] 56 (0,0))):=by rw[hw5];exact aC _ _);have pU:=sK.o.keep (qm.o.keep qL.o om) (fun h=>h);have zT:=aj pU 4 _ rfl;have En:=aG pU 4;have hxz:=qm.o.size;have hxy:=og.o.size;obtain⟨w6,hw6⟩:=bF (w5.setCell ⟨bt,4,none⟩ (.slice (some ⟨wx.heap.size,0,none⟩) 1 1));(have sN:Hid (Step (·=bt) w5 w6):=by rw[hw6];exact bg.setCell _ _ iV);(have wV:Hid (w6.heap[bt]?=some (.cells #[ah 15,.string ⟨#[45]⟩,aX 0,aW,.slice (some ⟨wx.heap.size,0,none⟩) 1 1,ak,ak,ah t.line,ah t.col] 56 (0,0))):=by rw[hw6];exact aQ pU 4 _);have Uz:=ai (sN.o.keep NC.o om);rw[hw5]at zT En;clear pU hy hrx hsx p0;go_wp2_with fail;rw[←hw5,←hw6];clear zT En hw5 hw6;refine bodyPost_end (results_none rfl _ _ _) rfl ?_;have wU:Step (fun k=>k=R.rb∨k=bt) wx w6:=(sK.o.mono fe).trans (sN.o.mono ir);refine aY.dN (a:=bP 15 (lX [45]) 0 false [y] [] [] (tokA R.l i)) (j:=jx) (by rw[HRR.o];unfold jZ;simp only[HB0.o,HX.o,if_true,dI.bind_ok]) rfl ⟨_,wV.o,?_⟩ ((vO.o.quiet sK.o).step sN.o oi) (og.o.trans ((qm.o.mono il).trans wU));rw[bP,dA,←HT.o];exact⟨_,_,_,_,[],rfl,by decide,nR,bY.single (dA.mono oi _ _ (dA.step wU oi _ _ HY.o)),dh.new Uz.o dc om,dh.nil _ _ _,by rw[eP],dh.nil _ _ _⟩
 |false=>
  have HB0:=ai hb0;clear hb0;refine(dU R HL.o ⟨#[45]⟩ _ i d H0.o dc HB0.o).mono ?_;rintro e wn0 ⟨rfl,hrn,hsn⟩;have Qc:=ai hrn;have JU:Hid (Step (·=R.rb) w wn0):=bg.trans hsn;clear hrn hsn p0;obtain⟨p0,-⟩:=HKB.o wn0 JU.o;go_wp2_with fail;cases hb1:bG R.l i [33]with
  |true=>
   have HB1:=ai hb1;clear hb1;refine(cZ R HL.o ⟨#[33]⟩ _ i d Qc.o dc HB1.o).mono ?_;rintro e wy ⟨rfl,xw,hsy⟩;have Ak:=ai xw;have uO:Hid (Step (·=R.rb) w wy):=JU.o.trans hsy;clear xw hsy p0;obtain⟨p0,hbt⟩:=HKB.o wy uO.o;have mD:=ai hbt;clear hbt;have m_:=aj mD.o 0 _ rfl;have ng:=aG mD.o 0;have Eg:=aj mD.o 1 _ rfl;have Eh:=aG mD.o 1;obtain⟨w4,hw4⟩:=bF ((wy.setCell ⟨bt,0,none⟩ (.int .i64 15)).setCell ⟨bt,1,none⟩ (.string ⟨#[33]⟩));(have ji:Hid (Step (·=bt) wy w4):=by rw[hw4];exact(((Step.refl (·=bt) _).setCell _ _ iV).setCell _ _ iV));(have qL:Hid (w4.heap[bt]?=some (.cells #[ah 15,.string ⟨#[33]⟩,aX 0,aW,ak,ak,ak,ah t.line,ah t.col] 56 (0,0))):=by rw[hw4];exact(aQ (aQ mD.o 0 (.int .i64 15)) 1 (.string ⟨#[33]⟩)));have og:Hid (Step (fun k=>k=R.rb∨k=bt) w w4):=(uO.o.mono il).trans (ji.o.mono ir);have HR4:=ai (Ak.o.step ji.o oi);have p4:w4.cell? ⟨bp,0,none⟩=some (.pointer (some ⟨R.rb,0,none⟩)):=ji.o.cell p0 (fun e=>by have e2:bp=bt:=e;omega);(go_upto_region 9 with fail);rw[←hw4];clear p0 hw4 m_ ng Eg Eh;have p0:=p4;clear p4;go_wp2_with fail;cases hx:iI f R.l (i+1) d with
   |out=>have HX:=ai hx;exact absurd (by rw[HRR.o];unfold jZ;simp only[HB0.o,HB1.o,HX.o,Bool.false_eq_true,if_false,if_true,dI.sG]) fH.o
   |err c ln col=>have HX:=ai hx;clear hx;refine(IH.o R _ (i+1) d HL.o HR4.o hd (by rw[HX.o];intro h;cases h)).mono ?_;rintro e wq hp;rw[HX.o]at hp;obtain⟨rfl,sq⟩:=hp;refine⟨rfl,aY.aU (c:=c) (ln:=ln) (col:=col) (by rw[HRR.o];unfold jZ;simp only[HB0.o,HB1.o,HX.o,Bool.false_eq_true,if_false,if_true,dI.kT]) rfl ?_⟩;exact og.o.trans (sq.mono il)
   |ok y jx=>have HX:=ai hx;clear hx;refine(IH.o R _ (i+1) d HL.o HR4.o hd (by rw[HX.o];intro h;cases h)).mono ?_;rintro e wx hp;rw[HX.o]at hp;obtain⟨⟨v,rfl,cs,rfl,hy⟩,hrx,hsx⟩:=hp;have HY:=ai hy;obtain⟨k0,iK,v0,iL,a1,n1,c1,a2,n2,c2,a3,n3,c3,l0,c0,rfl⟩:=hy.parts;have vO:=ai hrx;have qm:=ai hsx;obtain⟨w5,hw5⟩:=bF (wx.alloc (.cells #[ah k0,aI iK,aX v0,bK iL,.slice a1 n1 c1,.slice a2 n2 c2,.slice a3 n3 c3,ah l0,ah c0] 56));(have sK:Hid (jg wx w5):=by rw[hw5];exact bg.alloc _);(have NC:Hid (w5.heap[wx.heap.size]?=some (.cells #[ah k0,aI iK,aX v0,bK iL,.slice a1 n1 c1,.slice a2 n2 c2,.slice a3 n3 c3,ah l0,ah c0] 56 (0,0))):=by rw[hw5];exact aC _ _);have pU:=sK.o.keep (qm.o.keep qL.o om) (fun h=>h);have zT:=aj pU 4 _ rfl;have En:=aG pU 4;have hxz:=qm.o.size;have hxy:=og.o.size;obtain⟨w6,hw6⟩:=bF (w5.setCell ⟨bt,4,none⟩ (.slice (some ⟨wx.heap.size,0,none⟩) 1 1));(have sN:Hid (Step (·=bt) w5 w6):=by rw[hw6];exact bg.setCell _ _ iV);(have wV:Hid (w6.heap[bt]?=some (.cells #[ah 15,.string ⟨#[33]⟩,aX 0,aW,.slice (some ⟨wx.heap.size,0,none⟩) 1 1,ak,ak,ah t.line,ah t.col] 56 (0,0))):=by rw[hw6];exact aQ pU 4 _);have Uz:=ai (sN.o.keep NC.o om);rw[hw5]at zT En;clear pU hy hrx hsx p0;go_wp2_with fail;rw[←hw5,←hw6];clear zT En hw5 hw6;refine bodyPost_end (results_none rfl _ _ _) rfl ?_;have wU:Step (fun k=>k=R.rb∨k=bt) wx w6:=(sK.o.mono fe).trans (sN.o.mono ir);refine aY.dN (a:=bP 15 (lX [33]) 0 false [y] [] [] (tokA R.l i)) (j:=jx) (by rw[HRR.o];unfold jZ;simp only[HB0.o,HB1.o,HX.o,Bool.false_eq_true,if_false,if_true,dI.bind_ok]) rfl ⟨_,wV.o,?_⟩ ((vO.o.quiet sK.o).step sN.o oi) (og.o.trans ((qm.o.mono il).trans wU));rw[bP,dA,←HT.o];exact⟨_,_,_,_,[],rfl,by decide,nR,bY.single (dA.mono oi _ _ (dA.step wU oi _ _ HY.o)),dh.new Uz.o dc om,dh.nil _ _ _,by rw[eP],dh.nil _ _ _⟩
  |false=>
   have HB1:=ai hb1;clear hb1;refine(dU R HL.o ⟨#[33]⟩ _ i d Qc.o dc HB1.o).mono ?_;rintro e wn1 ⟨rfl,hrn,hsn⟩;have Qd:=ai hrn;have JV:Hid (Step (·=R.rb) w wn1):=JU.o.trans hsn;clear hrn hsn p0;obtain⟨p0,-⟩:=HKB.o wn1 JV.o;go_wp2_with fail;cases hb2:bG R.l i [42]with
   |true=>
    have HB2:=ai hb2;clear hb2;refine(cZ R HL.o ⟨#[42]⟩ _ i d Qd.o dc HB2.o).mono ?_;rintro e wy ⟨rfl,xw,hsy⟩;have Ak:=ai xw;have uO:Hid (Step (·=R.rb) w wy):=JV.o.trans hsy;clear xw hsy p0;obtain⟨p0,hbt⟩:=HKB.o wy uO.o;have mD:=ai hbt;clear hbt;have m_:=aj mD.o 0 _ rfl;have ng:=aG mD.o 0;obtain⟨w4,hw4⟩:=bF (wy.setCell ⟨bt,0,none⟩ (.int .i64 7));(have ji:Hid (Step (·=bt) wy w4):=by rw[hw4];exact((Step.refl (·=bt) _).setCell _ _ iV));(have qL:Hid (w4.heap[bt]?=some (.cells #[ah 7,aV,aX 0,aW,ak,ak,ak,ah t.line,ah t.col] 56 (0,0))):=by rw[hw4];exact(aQ mD.o 0 (.int .i64 7)));have og:Hid (Step (fun k=>k=R.rb∨k=bt) w w4):=(uO.o.mono il).trans (ji.o.mono ir);have HR4:=ai (Ak.o.step ji.o oi);have p4:w4.cell? ⟨bp,0,none⟩=some (.pointer (some ⟨R.rb,0,none⟩)):=ji.o.cell p0 (fun e=>by have e2:bp=bt:=e;omega);(go_upto_region 9 with fail);rw[←hw4];clear p0 hw4 m_ ng;have p0:=p4;clear p4;go_wp2_with fail;cases hx:iI f R.l (i+1) d with
    |out=>have HX:=ai hx;exact absurd (by rw[HRR.o];unfold jZ;simp only[HB0.o,HB1.o,HB2.o,HX.o,Bool.false_eq_true,if_false,if_true,dI.sG]) fH.o
    |err c ln col=>have HX:=ai hx;clear hx;refine(IH.o R _ (i+1) d HL.o HR4.o hd (by rw[HX.o];intro h;cases h)).mono ?_;rintro e wq hp;rw[HX.o]at hp;obtain⟨rfl,sq⟩:=hp;refine⟨rfl,aY.aU (c:=c) (ln:=ln) (col:=col) (by rw[HRR.o];unfold jZ;simp only[HB0.o,HB1.o,HB2.o,HX.o,Bool.false_eq_true,if_false,if_true,dI.kT]) rfl ?_⟩;exact og.o.trans (sq.mono il)
    |ok y jx=>have HX:=ai hx;clear hx;refine(IH.o R _ (i+1) d HL.o HR4.o hd (by rw[HX.o];intro h;cases h)).mono ?_;rintro e wx hp;rw[HX.o]at hp;obtain⟨⟨v,rfl,cs,rfl,hy⟩,hrx,hsx⟩:=hp;have HY:=ai hy;obtain⟨k0,iK,v0,iL,a1,n1,c1,a2,n2,c2,a3,n3,c3,l0,c0,rfl⟩:=hy.parts;have vO:=ai hrx;have qm:=ai hsx;obtain⟨w5,hw5⟩:=bF (wx.alloc (.cells #[ah k0,aI iK,aX v0,bK iL,.slice a1 n1 c1,.slice a2 n2 c2,.slice a3 n3 c3,ah l0,ah c0] 56));(have sK:Hid (jg wx w5):=by rw[hw5];exact bg.alloc _);(have NC:Hid (w5.heap[wx.heap.size]?=some (.cells #[ah k0,aI iK,aX v0,bK iL,.slice a1 n1 c1,.slice a2 n2 c2,.slice a3 n3 c3,ah l0,ah c0] 56 (0,0))):=by rw[hw5];exact aC _ _);have pU:=sK.o.keep (qm.o.keep qL.o om) (fun h=>h);have zT:=aj pU 4 _ rfl;have En:=aG pU 4;have hxz:=qm.o.size;have hxy:=og.o.size;obtain⟨w6,hw6⟩:=bF (w5.setCell ⟨bt,4,none⟩ (.slice (some ⟨wx.heap.size,0,none⟩) 1 1));(have sN:Hid (Step (·=bt) w5 w6):=by rw[hw6];exact bg.setCell _ _ iV);(have wV:Hid (w6.heap[bt]?=some (.cells #[ah 7,aV,aX 0,aW,.slice (some ⟨wx.heap.size,0,none⟩) 1 1,ak,ak,ah t.line,ah t.col] 56 (0,0))):=by rw[hw6];exact aQ pU 4 _);have Uz:=ai (sN.o.keep NC.o om);rw[hw5]at zT En;clear pU hy hrx hsx p0;go_wp2_with fail;rw[←hw5,←hw6];clear zT En hw5 hw6;refine bodyPost_end (results_none rfl _ _ _) rfl ?_;have wU:Step (fun k=>k=R.rb∨k=bt) wx w6:=(sK.o.mono fe).trans (sN.o.mono ir);refine aY.dN (a:=bP 7 dB 0 false [y] [] [] (tokA R.l i)) (j:=jx) (by rw[HRR.o];unfold jZ;simp only[HB0.o,HB1.o,HB2.o,HX.o,Bool.false_eq_true,if_false,if_true,dI.bind_ok]) rfl ⟨_,wV.o,?_⟩ ((vO.o.quiet sK.o).step sN.o oi) (og.o.trans ((qm.o.mono il).trans wU));rw[bP,dA,←HT.o];exact⟨_,_,_,_,[],rfl,by decide,nR,bY.single (dA.mono oi _ _ (dA.step wU oi _ _ HY.o)),dh.new Uz.o dc om,dh.nil _ _ _,by rw[eP],dh.nil _ _ _⟩
   |false=>
    have HB2:=ai hb2;clear hb2;refine(dU R HL.o ⟨#[42]⟩ _ i d Qd.o dc HB2.o).mono ?_;rintro e wn2 ⟨rfl,hrn,hsn⟩;have Qe:=ai hrn;have JW:Hid (Step (·=R.rb) w wn2):=JV.o.trans hsn;clear hrn hsn p0;obtain⟨p0,-⟩:=HKB.o wn2 JW.o;go_wp2_with fail;cases hb3:bG R.l i [38]with
    |true=>
     have HB3:=ai hb3;clear hb3;refine(cZ R HL.o ⟨#[38]⟩ _ i d Qe.o dc HB3.o).mono ?_;rintro e wy ⟨rfl,xw,hsy⟩;have Ak:=ai xw;have uO:Hid (Step (·=R.rb) w wy):=JW.o.trans hsy;clear xw hsy p0;obtain⟨p0,hbt⟩:=HKB.o wy uO.o;have mD:=ai hbt;clear hbt;obtain⟨mb,hmb⟩:=bF (bG R.l (i+1) [109,117,116]);obtain⟨mj,hmj⟩:=bF (iH R.l (i+1) [109,117,116]);have HIS:=ai (rW R HL.o ⟨#[109,117,116]⟩ wy (i+1) d Ak.o dc);(have tX:Hid (r=(iI f R.l mj d).bind fun y j=>.ok (bP 8 dB 0 mb [y] [] [] (tokA R.l i)) j):=by show _=_;rw[HRR.o,hmj,hmb];unfold jZ;simp only[HB0.o,HB1.o,HB2.o,HB3.o,Bool.false_eq_true,if_false,if_true]);(have HIS2:Hid (Calls Tryz.prog 77 #[.pointer (some ⟨R.rb,0,none⟩),.string ⟨#[109,117,116]⟩] wy fun e w'=>e=.returned (.bool mb)∧bC R w' mj d∧Step (·=R.rb) wy w'):=by rw[hmb,hmj];exact HIS.o);clear hmb hmj;go_wp2_with fail;refine HIS2.o.mono ?_;rintro e w3 ⟨rfl,hr3,hs3⟩;have D5:=ai hr3;have UA:Hid (Step (·=R.rb) w w3):=uO.o.trans hs3;clear hr3 hs3 p0;obtain⟨p0,hbt⟩:=HKB.o w3 UA.o;have Qs:=ai hbt;clear hbt;have m_:=aj Qs.o 0 _ rfl;have ng:=aG Qs.o 0;have bt3:=aj Qs.o 3 _ rfl;have bz3:=aG Qs.o 3;obtain⟨w4,hw4⟩:=bF ((w3.setCell ⟨bt,0,none⟩ (.int .i64 8)).setCell ⟨bt,3,none⟩ (.bool mb));(have ji:Hid (Step (·=bt) w3 w4):=by rw[hw4];exact(((Step.refl (·=bt) _).setCell _ _ iV).setCell _ _ iV));(have qL:Hid (w4.heap[bt]?=some (.cells #[ah 8,aV,aX 0,bK mb,ak,ak,ak,ah t.line,ah t.col] 56 (0,0))):=by rw[hw4];exact(aQ (aQ Qs.o 0 (.int .i64 8)) 3 (.bool mb)));have og:Hid (Step (fun k=>k=R.rb∨k=bt) w w4):=(UA.o.mono il).trans (ji.o.mono ir);have HR4:=ai (D5.o.step ji.o oi);have p4:w4.cell? ⟨bp,0,none⟩=some (.pointer (some ⟨R.rb,0,none⟩)):=ji.o.cell p0 (fun e=>by have e2:bp=bt:=e;omega);(go_upto_region 9 with fail);rw[←hw4];clear p0 hw4 m_ ng bt3 bz3;have p0:=p4;clear p4;go_wp2_with fail;cases hx:iI f R.l mj d with
     |out=>have HX:=ai hx;exact absurd (by rw[tX.o];simp only[HX.o,dI.sG]) fH.o
     |err c ln col=>have HX:=ai hx;clear hx;refine(IH.o R _ mj d HL.o HR4.o hd (by rw[HX.o];intro h;cases h)).mono ?_;rintro e wq hp;rw[HX.o]at hp;obtain⟨rfl,sq⟩:=hp;refine⟨rfl,aY.aU (c:=c) (ln:=ln) (col:=col) (by rw[tX.o];simp only[HX.o,dI.kT]) rfl ?_⟩;exact og.o.trans (sq.mono il)
     |ok y jx=>have HX:=ai hx;clear hx;refine(IH.o R _ mj d HL.o HR4.o hd (by rw[HX.o];intro h;cases h)).mono ?_;rintro e wx hp;rw[HX.o]at hp;obtain⟨⟨v,rfl,cs,rfl,hy⟩,hrx,hsx⟩:=hp;have HY:=ai hy;obtain⟨k0,iK,v0,iL,a1,n1,c1,a2,n2,c2,a3,n3,c3,l0,c0,rfl⟩:=hy.parts;have vO:=ai hrx;have qm:=ai hsx;obtain⟨w5,hw5⟩:=bF (wx.alloc (.cells #[ah k0,aI iK,aX v0,bK iL,.slice a1 n1 c1,.slice a2 n2 c2,.slice a3 n3 c3,ah l0,ah c0] 56));(have sK:Hid (jg wx w5):=by rw[hw5];exact bg.alloc _);(have NC:Hid (w5.heap[wx.heap.size]?=some (.cells #[ah k0,aI iK,aX v0,bK iL,.slice a1 n1 c1,.slice a2 n2 c2,.slice a3 n3 c3,ah l0,ah c0] 56 (0,0))):=by rw[hw5];exact aC _ _);have pU:=sK.o.keep (qm.o.keep qL.o om) (fun h=>h);have zT:=aj pU 4 _ rfl;have En:=aG pU 4;have hxz:=qm.o.size;have hxy:=og.o.size;obtain⟨w6,hw6⟩:=bF (w5.setCell ⟨bt,4,none⟩ (.slice (some ⟨wx.heap.size,0,none⟩) 1 1));(have sN:Hid (Step (·=bt) w5 w6):=by rw[hw6];exact bg.setCell _ _ iV);(have wV:Hid (w6.heap[bt]?=some (.cells #[ah 8,aV,aX 0,bK mb,.slice (some ⟨wx.heap.size,0,none⟩) 1 1,ak,ak,ah t.line,ah t.col] 56 (0,0))):=by rw[hw6];exact aQ pU 4 _);have Uz:=ai (sN.o.keep NC.o om);rw[hw5]at zT En;clear pU hy hrx hsx p0;go_wp2_with fail;rw[←hw5,←hw6];clear zT En hw5 hw6;refine bodyPost_end (results_none rfl _ _ _) rfl ?_;have wU:Step (fun k=>k=R.rb∨k=bt) wx w6:=(sK.o.mono fe).trans (sN.o.mono ir);refine aY.dN (a:=bP 8 dB 0 mb [y] [] [] (tokA R.l i)) (j:=jx) (by rw[tX.o];simp only[HX.o,dI.bind_ok]) rfl ⟨_,wV.o,?_⟩ ((vO.o.quiet sK.o).step sN.o oi) (og.o.trans ((qm.o.mono il).trans wU));rw[bP,dA,←HT.o];exact⟨_,_,_,_,[],rfl,by decide,nR,bY.single (dA.mono oi _ _ (dA.step wU oi _ _ HY.o)),dh.new Uz.o dc om,dh.nil _ _ _,by rw[eP],dh.nil _ _ _⟩
    |false=>
     have HB3:=ai hb3;clear hb3;refine(dU R HL.o ⟨#[38]⟩ _ i d Qe.o dc HB3.o).mono ?_;rintro e wn3 ⟨rfl,hrn,hsn⟩;have Qg:=ai hrn;have Iz:Hid (Step (·=R.rb) w wn3):=JW.o.trans hsn;clear hrn hsn p0;obtain⟨p0,-⟩:=HKB.o wn3 Iz.o;go_wp2_with fail;cases hx:rD f R.l i d with
     |out=>have HX:=ai hx;exact absurd (by rw[HRR.o];unfold jZ;simp only[HB0.o,HB1.o,HB2.o,HB3.o,HX.o,Bool.false_eq_true,if_false]) fH.o
     |err c ln col=>have HX:=ai hx;clear hx;refine(IHP.o R _ i d HL.o Qg.o hd (by rw[HX.o];intro h;cases h)).mono ?_;rintro e wq hp;rw[HX.o]at hp;obtain⟨rfl,sq⟩:=hp;refine⟨rfl,aY.aU (c:=c) (ln:=ln) (col:=col) (by rw[HRR.o];unfold jZ;simp only[HB0.o,HB1.o,HB2.o,HB3.o,HX.o,Bool.false_eq_true,if_false]) rfl ?_⟩;exact(Iz.o.trans sq).mono il
     |ok y jx=>
      have HX:=ai hx;clear hx;refine(IHP.o R _ i d HL.o Qg.o hd (by rw[HX.o];intro h;cases h)).mono ?_;rintro e wx hp;rw[HX.o]at hp;obtain⟨⟨v,rfl,cs,rfl,hy⟩,hrx,hsx⟩:=hp;have HY:=ai hy;have dQ:=ai hy.one;obtain⟨k0,iK,v0,iL,a1,n1,c1,a2,n2,c2,a3,n3,c3,l0,c0,rfl⟩:=hy.parts;have vO:=ai hrx;have qm:Hid (Step (·=R.rb) w wx):=Iz.o.trans hsx;have hnz:=Iz.o.size;obtain⟨-,hbt⟩:=HKB.o wx qm.o;have mD:=ai hbt;clear hy hrx hsx p0 hbt
      go_wp2_with (refine aB (w:=wx) rfl 56 (.tmp 1) (.tmp 3) rfl bt 0 56 _ [.int .i64 k0,.string iK,.int .u64 v0,.bool iL,.slice a1 n1 c1,.slice a2 n2 c2,.slice a3 n3 c3,.int .i64 l0,.int .i64 c0] rfl rfl mD.o Tryz.aO (Nat.le_of_eq rfl) dQ.o ?_
                   intro w6 hb6 vT)
      have IJ:w6.heap[bt]?=some (.cells [Value.int .i64 k0,aI iK,aX v0,bK iL,.slice a1 n1 c1,.slice a2 n2 c2,.slice a3 n3 c3,ah l0,ah c0].toArray 56 (0,0)):=hb6;have EK:=ai IJ;have sN:=ai vT;clear hb6 IJ vT;refine bodyPost_ret (results_none rfl _ _ _) rfl ?_;refine aY.dN (a:=y) (j:=jx) (by rw[HRR.o];unfold jZ;simp only[HB0.o,HB1.o,HB2.o,HB3.o,HX.o,Bool.false_eq_true,if_false]) rfl ⟨_,EK.o,?_⟩ (vO.o.step sN.o oi) ((qm.o.mono il).trans (sN.o.mono ir));exact dA.mono oi _ _ (dA.step sN.o oi _ _ HY.o)
theorem xC:Enters 131:=fun xs w=>by go_simp
theorem J6 (f:Nat) (ih:yS f) (iha:FY f):yS (f+1):=by
 intro R w i d hl h hd hno;have hmf:∀(fn:Fn) (first cap:Array Value) (w:World),(Instr.makeFunc fn first cap).run Tryz.prog w=.ok (.func fn first cap) w:=fun _ _ _ _=>rfl;have HL:=ai hl;have H0:=ai h;have fH:=ai hno;obtain⟨r,hr⟩:=bF (iI (f+1) R.l i d);have HRR:=ai hr;rw[←hr];obtain⟨t,ht⟩:=bF (tokA R.l i);have HT:=ai ht;have uq:=aP h.blk;obtain⟨w1,hw1⟩:=bF ((w.alloc (.cells #[gW R.rb 0] 75)).alloc (.cells #[ah 0,dG,aX 0,aW,ak,ak,ak,ah 0,ah 0] 56));have dH:=nT hw1
 have kK:=nC hw1
 have lS:=nD hw1
 have HW1:=ai hw1;have H1:=ai (h.quiet dH.o);have p0:w1.cell? ⟨w.heap.size,0,none⟩=some (.pointer (some ⟨R.rb,0,none⟩)):=aj kK.o 0 _ rfl;have HAT:=ai (at_at R w1 i d t H1.o (by rw[ht];exact H1.o.tok));clear hl h hno hr hw1 ht;go_enter Tryz.func108,Tryz.ntmps108;go_upto_region 1 with fail
 rw[←HW1.o];go_wp2_with fail;refine HAT.o.mono ?_;rintro e w2 ⟨rfl,h2⟩;have HS2:=ai (dH.o.trans h2);have HP2:=ai (h2.keep kK.o (fun h=>h));have qw:=ai (h2.keep lS.o (fun h=>h));have hn1:=aP qw.o;obtain⟨w3,hw3⟩:=bF (w2.alloc (.cells #[ah 0,aV,aX 0,aW,ak,ak,ak,ah t.line,ah t.col] 56));have lM:=nS hw3
 have HB3:=nB hw3
 have jX:=ai (HS2.o.trans lM.o);have zJ:=ai (lM.o.keep HP2.o (fun h=>h));have uZ:=ai (lM.o.keep qw.o (fun h=>h));have H3:=ai (H0.o.quiet jX.o);have HW3:=ai hw3;clear h2 hw3 p0;have p0:w3.cell? ⟨w.heap.size,0,none⟩=some (.pointer (some ⟨R.rb,0,none⟩)):=aj zJ.o 0 _ rfl;go_upto_region 2 with fail
 have hx3:w2.alloc (.cells #[ah 0,dG,aX 0,aW,ak,ak,ak,ah t.line,ah t.col] 56)=w3:=HW3.o.symm;rw[hx3];clear hx3;go_wp2_with fail;by_cases qy:d=40
 ·refine(xN R _ [.pointer (some ⟨w.heap.size,0,none⟩),.pointer (some ⟨w2.heap.size,0,none⟩)] w3 i d t H3.o (by rw[HT.o];exact H3.o.tok) qy).mono ?_;rintro e w4 ⟨rfl,h4⟩;refine⟨rfl,?_⟩;rw[HRR.o,Aq,if_pos qy,iw,←HT.o];exact⟨rfl,(jX.o.trans h4).mono fe⟩
 ·have jV:Hid (r=jZ f R.l i (d+1)):=by show _=_;rw[HRR.o,Aq,if_neg qy]
  have hnb:jZ f R.l i (d+1)≠.out:=fun e=>fH.o (by rw[←HRR.o,jV.o,e]);have IB:Hid (∀X,bC R X i (d+1)→Step (·=R.rb) w3 X→Calls Tryz.prog 131 #[.pointer (some ⟨w.heap.size,0,none⟩),.pointer (some ⟨w2.heap.size,0,none⟩)] X (aY R (d+1) w2.heap.size (J4 X.heap.size w2.heap.size) (jZ f R.l i (d+1)) X)):=fun X hX hs=>J5 R f ih iha w.heap.size w2.heap.size X i (d+1) t HL.o hX om (hs.keep zJ.o om) (hs.keep HB3.o om) om om HT.o hnb
  have IC:d<40:=by omega
  cases hb:jZ f R.l i (d+1)with
  |out=>exact absurd hb hnb
  |err c ln col=>
   have HB:=ai hb;clear hb;refine(Ci R _ [.pointer (some ⟨w.heap.size,0,none⟩),.pointer (some ⟨w2.heap.size,0,none⟩)] w3 i d (Q:=fun X=>Step (fun k=>k=R.rb∨k=w2.heap.size) w3 X) (hk:=xC) (h:=H3.o) (hd:=IC) (hby:=fun X hX hs=> ?_) (es:=[{v:=.iface 184 (.agg #[ah c,ah ln,ah col]),recovered:=false}])).mono ?_
   ·refine(IB.o X hX hs).mono ?_;intro e X2 hp;rw[HB.o]at hp;exact⟨hp.1,(hs.mono il).trans hp.2⟩
   ·rintro e w4 ⟨rfl,h4⟩;refine⟨rfl,?_⟩;rw[jV.o,HB.o];exact⟨rfl,(jX.o.mono fe).then h4 oi⟩
  |ok ty j=>
   have HB:=ai hb;clear hb;refine(FP R _ [.pointer (some ⟨w.heap.size,0,none⟩),.pointer (some ⟨w2.heap.size,0,none⟩)] w3 i d (fun i' X=>i'=j∧J4 w3.heap.size w2.heap.size X ty∧Step (fun k=>k=R.rb∨k=w2.heap.size) w3 X) xC H3.o IC (fun X hX hs=> ?_)).mono ?_
   ·refine(IB.o X hX hs).mono ?_;intro e X2 hp;rw[HB.o]at hp;obtain⟨he,⟨cs,hc,ht⟩,hr,hs2⟩:=hp;exact⟨he,j,hr,rfl,⟨cs,hc,dA.mono (fun k _ hk=>by have:=hs.size;omega) _ _ ht⟩,(hs.mono il).trans hs2⟩
   ·rintro e w4 ⟨rfl,i',X,⟨rfl,⟨cs,hc,hty⟩,hsx⟩,hr4,hs4⟩;have hlt3:=aP HB3.o;have hb4:=hs4.keep hc om;have FU:=dA.step hs4 oi _ _ hty;have JZ:Step (fun k=>k=R.rb∨k=w2.heap.size) w3 w4:=hsx.trans (hs4.mono il);obtain⟨k0,iK,v0,iL,a1,n1,c1,a2,n2,c2,a3,n3,c3,l0,c0,rfl⟩:=FU.parts;have HR4:=ai hr4;have Bq:=ai FU;have yO:=ai JZ;have HB4:=ai hb4;have JY:=ai (JZ.keep uZ.o om);(have bJ:Hid (∀(jj:Nat) v,[Value.int .i64 k0,aI iK,aX v0,bK iL,.slice a1 n1 c1,.slice a2 n2 c2,.slice a3 n3 c3,ah l0,ah c0][jj]?=some v→w4.cell? ⟨w2.heap.size,0+jj,none⟩=some v):=by intro jj v hv;rw[Nat.zero_add];exact aj HB4.o jj v pO);have dQ:=ai (dA.one FU);have hsz3:=lM.o.size;clear hc hty hsx hr4 hs4 hb4 FU JZ p0;go_wp2_with (first
     |(refine aN rfl 56 (.tmp 3) rfl w2.heap.size 0 rfl [.int .i64 k0,.string iK,.int .u64 v0,.bool iL,.slice a1 n1 c1,.slice a2 n2 c2,.slice a3 n3 c3,.int .i64 l0,.int .i64 c0] _ bJ.o Tryz.underlying56 rfl Tryz.aO ?_)
     |(refine aB (w:=w4) rfl 56 (.tmp 2) (.tmp 12) rfl (w.heap.size+1) 0 56 _ [.int .i64 k0,.string iK,.int .u64 v0,.bool iL,.slice a1 n1 c1,.slice a2 n2 c2,.slice a3 n3 c3,.int .i64 l0,.int .i64 c0] rfl rfl JY.o Tryz.aO (Nat.le_of_eq rfl) dQ.o ?_;intro w5 hb5 hst5))
    have Cm:w5.heap[w.heap.size+1]?=some (.cells [Value.int .i64 k0,aI iK,aX v0,bK iL,.slice a1 n1 c1,.slice a2 n2 c2,.slice a3 n3 c3,ah l0,ah c0].toArray 56 (0,0)):=hb5;refine bodyPost_ret (aS rfl _ (w.heap.size+1) 56 _ _ rfl Cm Tryz.underlying56 rfl Tryz.aO) rfl ?_;rw[jV.o,HB.o];refine⟨⟨_,rfl,_,rfl,dA.mono (fun k _ hk=>by have:=jX.o.size;omega) _ _ (dA.step hst5 oi _ _ Bq.o)⟩,HR4.o.step hst5 oi,?_⟩;have YG:Step (·=R.rb) w w4:=(jX.o.mono fe).then yO.o oi;exact YG.then hst5 oi
theorem uz (w:World) (o:Obj) (k:Nat) (h:k=w.heap.size):(w.alloc o).heap[k]?=some o:=by subst h;exact aC w o
theorem Tryz.J7:(Tryz.prog.info? 171).map (·.size)=some 5:=by kernel_rfl
theorem oP (w:World):Calls Tryz.prog 107 #[] w fun e w'=>(∃g0 g1 g2 g3 g4:Nat,e=.returned (.agg #[.slice (some ⟨g0,0,none⟩) 1 1,.slice (some ⟨g1,0,none⟩) 1 1,.slice (some ⟨g2,0,none⟩) 2 2,.slice (some ⟨g3,0,none⟩) 2 2,.slice (some ⟨g4,0,none⟩) 2 2])∧w'.cell? ⟨g0,0,none⟩=some (.string ⟨#[124]⟩)∧w'.cell? ⟨g1,0,none⟩=some (.string ⟨#[38,38]⟩)∧w'.cell? ⟨g2,0,none⟩=some (.string ⟨#[61,61]⟩)∧w'.cell? ⟨g2,1,none⟩=some (.string ⟨#[60]⟩)∧w'.cell? ⟨g3,0,none⟩=some (.string ⟨#[43]⟩)∧w'.cell? ⟨g3,1,none⟩=some (.string ⟨#[45]⟩)∧w'.cell? ⟨g4,0,none⟩=some (.string ⟨#[42]⟩)∧w'.cell? ⟨g4,1,none⟩=some (.string ⟨#[47]⟩)∧w.heap.size≤g0∧w.heap.size≤g1∧w.heap.size≤g2∧w.heap.size≤g3∧w.heap.size≤g4)∧jg w w':=by go_enter Tryz.func107,Tryz.ntmps107;go_wp2;refine bodyPost_ret (aS rfl _ w.heap.size 171 [.slice (some ⟨w.heap.size+1,0,none⟩) 1 1,.slice (some ⟨w.heap.size+1+1,0,none⟩) 1 1,.slice (some ⟨w.heap.size+1+1+1,0,none⟩) 2 2,.slice (some ⟨w.heap.size+1+1+1+1,0,none⟩) 2 2,.slice (some ⟨w.heap.size+1+1+1+1+1,0,none⟩) 2 2] _ rfl (aT (aT (aT (aT (aT (aC _ _)))))) Tryz.underlying171 rfl Tryz.J7) rfl ?_;exact⟨⟨_,_,_,_,_,rfl,aj (aT (aT (aT (aT (uz _ _ _ (by simp)))))) 0 _ rfl,aj (aT (aT (aT (uz _ _ _ (by simp))))) 0 _ rfl,aj (aT (aT (uz _ _ _ (by simp)))) 0 _ rfl,aj (aT (aT (uz _ _ _ (by simp)))) 1 _ rfl,aj (aT (uz _ _ _ (by simp))) 0 _ rfl,aj (aT (uz _ _ _ (by simp))) 1 _ rfl,aj (uz _ _ _ (by simp)) 0 _ rfl,aj (uz _ _ _ (by simp)) 1 _ rfl,by omega,by omega,by omega,by omega,by omega⟩,(((((bg.alloc _).alloc _).alloc _).alloc _).alloc _).alloc _⟩
def opS (o:Option (List UInt8)):ByteArray:=match o with|some s=>lX s|none=>dB
def opI (o:Option (List UInt8)) (i:Nat):Nat:=match o with|some _=>i+1|none=>i
def oh (R:gI) (i d n:Nat) (w:World) (e:Ending) (w':World):Prop:=e=.returned (.string (opS (xu R.l i n)))∧bC R w' (opI (xu R.l i n) i) d∧Step (·=R.rb) w w'
theorem YL (R:gI) (hl:oJ R.l) (w:World) (i d n:Nat) (h:bC R w i d) (hn:n<5):Calls Tryz.prog 109 #[.agg #[gW R.rb 0],.int .i64 (n:Int)] w (oh R i d n w):=by
 have HL:=ai hl;obtain⟨w1,hw1⟩:=bF (w.alloc (.cells #[gW R.rb 0] 75));have dH:=nS hw1
 have kK:=nB hw1
 have HW1:=ai hw1;have H1:=ai (h.quiet dH.o);have hrw:=aP h.blk;have bZ:Hid (∀X:World,Step (·=R.rb) w1 X→X.cell? ⟨w.heap.size,0,none⟩=some (.pointer (some ⟨R.rb,0,none⟩))):=fun X hX=>aj (hX.keep kK.o om) 0 _ rfl
 clear h hl hw1;rcases(show n=0∨n=1∨n=2∨n=3∨n=4 by omega)with rfl|rfl|rfl|rfl|rfl
 ·clear hn;go_enter Tryz.func109,Tryz.ntmps109;go_upto_region 1 with fail
  rw[←HW1.o];go_wp2_with fail;refine(oP w1).mono ?_;rintro e w2 ⟨⟨g0,g1,g2,g3,g4,rfl,hc⟩,h2⟩;have H2:=ai (H1.o.quiet h2);have HC:=ai hc;have HS2:=ai h2;have UD:=dH.o.size;have Qu:Hid (g0=R.rb→False):=by show _→_;have:=HC.o.2.2.2.2.2.2.2.2.1;omega
  have Qv:Hid (g1=R.rb→False):=by show _→_;have:=HC.o.2.2.2.2.2.2.2.2.2.1;omega
  have NT:Hid (g2=R.rb→False):=by show _→_;have:=HC.o.2.2.2.2.2.2.2.2.2.2.1;omega
  have NU:Hid (g3=R.rb→False):=by show _→_;have:=HC.o.2.2.2.2.2.2.2.2.2.2.2.1;omega
  have NV:Hid (g4=R.rb→False):=by show _→_;have:=HC.o.2.2.2.2.2.2.2.2.2.2.2.2;omega
  have hix:∀(a0 a1 a2 a3 a4:Value) (w:World),(Instr.index 171 (.agg #[a0,a1,a2,a3,a4]) (.int .i64 0)).run Tryz.prog w=.ok a0 w:=fun _ _ _ _ _ _=>by kernel_rfl
  clear hc h2;go_wp2_with fail;go_loopg [6,11] 1 (fun gg s6 s11 wr=>∃k:Nat,s11=.int .i64 k∧k≤1∧1-k≤gg∧((opsL 0).drop k).find? (bG R.l i)=xu R.l i 0∧bC R wr i d∧Step (·=R.rb) w2 wr);case atStart=>exact⟨0,rfl,Nat.zero_le _,by omega,rfl,H2.o,Step.refl _ _⟩
  case round=>
   obtain⟨k,rfl,hk,hgg,hfd,hr,hst⟩:=hrel;have A7:=ai hfd;have HR:=ai hr;have HST:=ai hst;have qo:Hid (Step (·=R.rb) w1 wr):=(HS2.o.mono fe).trans hst;have p0:=bZ.o wr qo.o;clear hfd hr hst;rcases(show k=0∨k=1 by omega)with rfl|rfl
   ·have f0:wr.cell? ⟨g0,0,none⟩=some (.string ⟨#[124]⟩):=HST.o.cell (HC.o.1) (fun e=>Qu.o e);go_wp2_with fail;cases hb:bG R.l i [124]with
    |true=>have HB:=ai hb;clear hb;refine(cZ R HL.o ⟨#[124]⟩ _ i d HR.o dc HB.o).mono ?_;rintro e w4 ⟨rfl,hr4,h4⟩;have HR4:=ai hr4;have ji:=ai h4;clear hr4 h4 f0 p0;go_wp2_with fail;go_ret;(have ho:xu R.l i 0=some [124]:=by rw[←A7.o];simp[opsL,HB.o]);unfold oh;rw[ho];exact⟨rfl,HR4.o,((dH.o.mono fe).trans qo.o).trans ji.o⟩
    |false=>
     have HB:=ai hb;clear hb;refine(dU R HL.o ⟨#[124]⟩ _ i d HR.o dc HB.o).mono ?_;rintro e w4 ⟨rfl,hr4,h4⟩;have HR4:=ai hr4;have ji:=ai h4;(have xU:Hid (((opsL 0).drop 1).find? (bG R.l i)=xu R.l i 0):=by show _=_;rw[←A7.o];simp[opsL,HB.o]);clear hr4 h4 f0 p0;go_wp2_with fail;go_roundg (gk-1);case rel=>exact⟨1,rfl,by omega,by omega,xU.o,HR4.o,HST.o.trans ji.o⟩
     case measure=>omega
   ·clear p0;go_wp2_with fail;go_ret;(have ho:xu R.l i 0=none:=by rw[←A7.o];rfl);unfold oh;rw[ho];exact⟨rfl,HR.o,(dH.o.mono fe).trans qo.o⟩
 ·clear hn;go_enter Tryz.func109,Tryz.ntmps109;go_upto_region 1 with fail
  rw[←HW1.o];go_wp2_with fail;refine(oP w1).mono ?_;rintro e w2 ⟨⟨g0,g1,g2,g3,g4,rfl,hc⟩,h2⟩;have H2:=ai (H1.o.quiet h2);have HC:=ai hc;have HS2:=ai h2;have UD:=dH.o.size;have Qu:Hid (g0=R.rb→False):=by show _→_;have:=HC.o.2.2.2.2.2.2.2.2.1;omega
  have Qv:Hid (g1=R.rb→False):=by show _→_;have:=HC.o.2.2.2.2.2.2.2.2.2.1;omega
  have NT:Hid (g2=R.rb→False):=by show _→_;have:=HC.o.2.2.2.2.2.2.2.2.2.2.1;omega
  have NU:Hid (g3=R.rb→False):=by show _→_;have:=HC.o.2.2.2.2.2.2.2.2.2.2.2.1;omega
  have NV:Hid (g4=R.rb→False):=by show _→_;have:=HC.o.2.2.2.2.2.2.2.2.2.2.2.2;omega
  have hix:∀(a0 a1 a2 a3 a4:Value) (w:World),(Instr.index 171 (.agg #[a0,a1,a2,a3,a4]) (.int .i64 1)).run Tryz.prog w=.ok a1 w:=fun _ _ _ _ _ _=>by kernel_rfl
  clear hc h2;go_wp2_with fail;go_loopg [6,11] 1 (fun gg s6 s11 wr=>∃k:Nat,s11=.int .i64 k∧k≤1∧1-k≤gg∧((opsL 1).drop k).find? (bG R.l i)=xu R.l i 1∧bC R wr i d∧Step (·=R.rb) w2 wr);case atStart=>exact⟨0,rfl,Nat.zero_le _,by omega,rfl,H2.o,Step.refl _ _⟩
  case round=>
   obtain⟨k,rfl,hk,hgg,hfd,hr,hst⟩:=hrel;have A7:=ai hfd;have HR:=ai hr;have HST:=ai hst;have qo:Hid (Step (·=R.rb) w1 wr):=(HS2.o.mono fe).trans hst;have p0:=bZ.o wr qo.o;clear hfd hr hst;rcases(show k=0∨k=1 by omega)with rfl|rfl
   ·have f0:wr.cell? ⟨g1,0,none⟩=some (.string ⟨#[38,38]⟩):=HST.o.cell (HC.o.2.1) (fun e=>Qv.o e);go_wp2_with fail;cases hb:bG R.l i [38,38]with
    |true=>have HB:=ai hb;clear hb;refine(cZ R HL.o ⟨#[38,38]⟩ _ i d HR.o dc HB.o).mono ?_;rintro e w4 ⟨rfl,hr4,h4⟩;have HR4:=ai hr4;have ji:=ai h4;clear hr4 h4 f0 p0;go_wp2_with fail;go_ret;(have ho:xu R.l i 1=some [38,38]:=by rw[←A7.o];simp[opsL,HB.o]);unfold oh;rw[ho];exact⟨rfl,HR4.o,((dH.o.mono fe).trans qo.o).trans ji.o⟩
    |false=>
     have HB:=ai hb;clear hb;refine(dU R HL.o ⟨#[38,38]⟩ _ i d HR.o dc HB.o).mono ?_;rintro e w4 ⟨rfl,hr4,h4⟩;have HR4:=ai hr4;have ji:=ai h4;(have xU:Hid (((opsL 1).drop 1).find? (bG R.l i)=xu R.l i 1):=by show _=_;rw[←A7.o];simp[opsL,HB.o]);clear hr4 h4 f0 p0;go_wp2_with fail;go_roundg (gk-1);case rel=>exact⟨1,rfl,by omega,by omega,xU.o,HR4.o,HST.o.trans ji.o⟩
     case measure=>omega
   ·clear p0;go_wp2_with fail;go_ret;(have ho:xu R.l i 1=none:=by rw[←A7.o];rfl);unfold oh;rw[ho];exact⟨rfl,HR.o,(dH.o.mono fe).trans qo.o⟩
 ·clear hn;go_enter Tryz.func109,Tryz.ntmps109;go_upto_region 1 with fail
  rw[←HW1.o];go_wp2_with fail;refine(oP w1).mono ?_;rintro e w2 ⟨⟨g0,g1,g2,g3,g4,rfl,hc⟩,h2⟩;have H2:=ai (H1.o.quiet h2);have HC:=ai hc;have HS2:=ai h2;have UD:=dH.o.size;have Qu:Hid (g0=R.rb→False):=by show _→_;have:=HC.o.2.2.2.2.2.2.2.2.1;omega
  have Qv:Hid (g1=R.rb→False):=by show _→_;have:=HC.o.2.2.2.2.2.2.2.2.2.1;omega
  have NT:Hid (g2=R.rb→False):=by show _→_;have:=HC.o.2.2.2.2.2.2.2.2.2.2.1;omega
  have NU:Hid (g3=R.rb→False):=by show _→_;have:=HC.o.2.2.2.2.2.2.2.2.2.2.2.1;omega
  have NV:Hid (g4=R.rb→False):=by show _→_;have:=HC.o.2.2.2.2.2.2.2.2.2.2.2.2;omega
  have hix:∀(a0 a1 a2 a3 a4:Value) (w:World),(Instr.index 171 (.agg #[a0,a1,a2,a3,a4]) (.int .i64 2)).run Tryz.prog w=.ok a2 w:=fun _ _ _ _ _ _=>by kernel_rfl
  clear hc h2;go_wp2_with fail;go_loopg [6,11] 2 (fun gg s6 s11 wr=>∃k:Nat,s11=.int .i64 k∧k≤2∧2-k≤gg∧((opsL 2).drop k).find? (bG R.l i)=xu R.l i 2∧bC R wr i d∧Step (·=R.rb) w2 wr);case atStart=>exact⟨0,rfl,Nat.zero_le _,by omega,rfl,H2.o,Step.refl _ _⟩
  case round=>
   obtain⟨k,rfl,hk,hgg,hfd,hr,hst⟩:=hrel;have A7:=ai hfd;have HR:=ai hr;have HST:=ai hst;have qo:Hid (Step (·=R.rb) w1 wr):=(HS2.o.mono fe).trans hst;have p0:=bZ.o wr qo.o;clear hfd hr hst;rcases(show k=0∨k=1∨k=2 by omega)with rfl|rfl|rfl
   ·have f0:wr.cell? ⟨g2,0,none⟩=some (.string ⟨#[61,61]⟩):=HST.o.cell (HC.o.2.2.1) (fun e=>NT.o e);go_wp2_with fail;cases hb:bG R.l i [61,61]with
    |true=>have HB:=ai hb;clear hb;refine(cZ R HL.o ⟨#[61,61]⟩ _ i d HR.o dc HB.o).mono ?_;rintro e w4 ⟨rfl,hr4,h4⟩;have HR4:=ai hr4;have ji:=ai h4;clear hr4 h4 f0 p0;go_wp2_with fail;go_ret;(have ho:xu R.l i 2=some [61,61]:=by rw[←A7.o];simp[opsL,HB.o]);unfold oh;rw[ho];exact⟨rfl,HR4.o,((dH.o.mono fe).trans qo.o).trans ji.o⟩
    |false=>
     have HB:=ai hb;clear hb;refine(dU R HL.o ⟨#[61,61]⟩ _ i d HR.o dc HB.o).mono ?_;rintro e w4 ⟨rfl,hr4,h4⟩;have HR4:=ai hr4;have ji:=ai h4;(have xU:Hid (((opsL 2).drop 1).find? (bG R.l i)=xu R.l i 2):=by show _=_;rw[←A7.o];simp[opsL,HB.o]);clear hr4 h4 f0 p0;go_wp2_with fail;go_roundg (gk-1);case rel=>exact⟨1,rfl,by omega,by omega,xU.o,HR4.o,HST.o.trans ji.o⟩
     case measure=>omega
   ·have f0:wr.cell? ⟨g2,1,none⟩=some (.string ⟨#[60]⟩):=HST.o.cell (HC.o.2.2.2.1) (fun e=>NT.o e);go_wp2_with fail;cases hb:bG R.l i [60]with
    |true=>have HB:=ai hb;clear hb;refine(cZ R HL.o ⟨#[60]⟩ _ i d HR.o dc HB.o).mono ?_;rintro e w4 ⟨rfl,hr4,h4⟩;have HR4:=ai hr4;have ji:=ai h4;clear hr4 h4 f0 p0;go_wp2_with fail;go_ret;(have ho:xu R.l i 2=some [60]:=by rw[←A7.o];simp[opsL,HB.o]);unfold oh;rw[ho];exact⟨rfl,HR4.o,((dH.o.mono fe).trans qo.o).trans ji.o⟩
    |false=>
     have HB:=ai hb;clear hb;refine(dU R HL.o ⟨#[60]⟩ _ i d HR.o dc HB.o).mono ?_;rintro e w4 ⟨rfl,hr4,h4⟩;have HR4:=ai hr4;have ji:=ai h4;(have xU:Hid (((opsL 2).drop 2).find? (bG R.l i)=xu R.l i 2):=by show _=_;rw[←A7.o];simp[opsL,HB.o]);clear hr4 h4 f0 p0;go_wp2_with fail;go_roundg (gk-1);case rel=>exact⟨2,rfl,by omega,by omega,xU.o,HR4.o,HST.o.trans ji.o⟩
     case measure=>omega
   ·clear p0;go_wp2_with fail;go_ret;(have ho:xu R.l i 2=none:=by rw[←A7.o];rfl);unfold oh;rw[ho];exact⟨rfl,HR.o,(dH.o.mono fe).trans qo.o⟩
 ·clear hn;go_enter Tryz.func109,Tryz.ntmps109;go_upto_region 1 with fail
  rw[←HW1.o];go_wp2_with fail;refine(oP w1).mono ?_;rintro e w2 ⟨⟨g0,g1,g2,g3,g4,rfl,hc⟩,h2⟩;have H2:=ai (H1.o.quiet h2);have HC:=ai hc;have HS2:=ai h2;have UD:=dH.o.size;have Qu:Hid (g0=R.rb→False):=by show _→_;have:=HC.o.2.2.2.2.2.2.2.2.1;omega
  have Qv:Hid (g1=R.rb→False):=by show _→_;have:=HC.o.2.2.2.2.2.2.2.2.2.1;omega
  have NT:Hid (g2=R.rb→False):=by show _→_;have:=HC.o.2.2.2.2.2.2.2.2.2.2.1;omega
  have NU:Hid (g3=R.rb→False):=by show _→_;have:=HC.o.2.2.2.2.2.2.2.2.2.2.2.1;omega
  have NV:Hid (g4=R.rb→False):=by show _→_;have:=HC.o.2.2.2.2.2.2.2.2.2.2.2.2;omega
  have hix:∀(a0 a1 a2 a3 a4:Value) (w:World),(Instr.index 171 (.agg #[a0,a1,a2,a3,a4]) (.int .i64 3)).run Tryz.prog w=.ok a3 w:=fun _ _ _ _ _ _=>by kernel_rfl
  clear hc h2;go_wp2_with fail;go_loopg [6,11] 2 (fun gg s6 s11 wr=>∃k:Nat,s11=.int .i64 k∧k≤2∧2-k≤gg∧((opsL 3).drop k).find? (bG R.l i)=xu R.l i 3∧bC R wr i d∧Step (·=R.rb) w2 wr);case atStart=>exact⟨0,rfl,Nat.zero_le _,by omega,rfl,H2.o,Step.refl _ _⟩
  case round=>
   obtain⟨k,rfl,hk,hgg,hfd,hr,hst⟩:=hrel;have A7:=ai hfd;have HR:=ai hr;have HST:=ai hst;have qo:Hid (Step (·=R.rb) w1 wr):=(HS2.o.mono fe).trans hst;have p0:=bZ.o wr qo.o;clear hfd hr hst;rcases(show k=0∨k=1∨k=2 by omega)with rfl|rfl|rfl
   ·have f0:wr.cell? ⟨g3,0,none⟩=some (.string ⟨#[43]⟩):=HST.o.cell (HC.o.2.2.2.2.1) (fun e=>NU.o e);go_wp2_with fail;cases hb:bG R.l i [43]with
    |true=>have HB:=ai hb;clear hb;refine(cZ R HL.o ⟨#[43]⟩ _ i d HR.o dc HB.o).mono ?_;rintro e w4 ⟨rfl,hr4,h4⟩;have HR4:=ai hr4;have ji:=ai h4;clear hr4 h4 f0 p0;go_wp2_with fail;go_ret;(have ho:xu R.l i 3=some [43]:=by rw[←A7.o];simp[opsL,HB.o]);unfold oh;rw[ho];exact⟨rfl,HR4.o,((dH.o.mono fe).trans qo.o).trans ji.o⟩
    |false=>
     have HB:=ai hb;clear hb;refine(dU R HL.o ⟨#[43]⟩ _ i d HR.o dc HB.o).mono ?_;rintro e w4 ⟨rfl,hr4,h4⟩;have HR4:=ai hr4;have ji:=ai h4;(have xU:Hid (((opsL 3).drop 1).find? (bG R.l i)=xu R.l i 3):=by show _=_;rw[←A7.o];simp[opsL,HB.o]);clear hr4 h4 f0 p0;go_wp2_with fail;go_roundg (gk-1);case rel=>exact⟨1,rfl,by omega,by omega,xU.o,HR4.o,HST.o.trans ji.o⟩
     case measure=>omega
   ·have f0:wr.cell? ⟨g3,1,none⟩=some (.string ⟨#[45]⟩):=HST.o.cell (HC.o.2.2.2.2.2.1) (fun e=>NU.o e);go_wp2_with fail;cases hb:bG R.l i [45]with
    |true=>have HB:=ai hb;clear hb;refine(cZ R HL.o ⟨#[45]⟩ _ i d HR.o dc HB.o).mono ?_;rintro e w4 ⟨rfl,hr4,h4⟩;have HR4:=ai hr4;have ji:=ai h4;clear hr4 h4 f0 p0;go_wp2_with fail;go_ret;(have ho:xu R.l i 3=some [45]:=by rw[←A7.o];simp[opsL,HB.o]);unfold oh;rw[ho];exact⟨rfl,HR4.o,((dH.o.mono fe).trans qo.o).trans ji.o⟩
    |false=>
     have HB:=ai hb;clear hb;refine(dU R HL.o ⟨#[45]⟩ _ i d HR.o dc HB.o).mono ?_;rintro e w4 ⟨rfl,hr4,h4⟩;have HR4:=ai hr4;have ji:=ai h4;(have xU:Hid (((opsL 3).drop 2).find? (bG R.l i)=xu R.l i 3):=by show _=_;rw[←A7.o];simp[opsL,HB.o]);clear hr4 h4 f0 p0;go_wp2_with fail;go_roundg (gk-1);case rel=>exact⟨2,rfl,by omega,by omega,xU.o,HR4.o,HST.o.trans ji.o⟩
     case measure=>omega
   ·clear p0;go_wp2_with fail;go_ret;(have ho:xu R.l i 3=none:=by rw[←A7.o];rfl);unfold oh;rw[ho];exact⟨rfl,HR.o,(dH.o.mono fe).trans qo.o⟩
 ·clear hn;go_enter Tryz.func109,Tryz.ntmps109;go_upto_region 1 with fail
  rw[←HW1.o];go_wp2_with fail;refine(oP w1).mono ?_;rintro e w2 ⟨⟨g0,g1,g2,g3,g4,rfl,hc⟩,h2⟩;have H2:=ai (H1.o.quiet h2);have HC:=ai hc;have HS2:=ai h2;have UD:=dH.o.size;have Qu:Hid (g0=R.rb→False):=by show _→_;have:=HC.o.2.2.2.2.2.2.2.2.1;omega
  have Qv:Hid (g1=R.rb→False):=by show _→_;have:=HC.o.2.2.2.2.2.2.2.2.2.1;omega
  have NT:Hid (g2=R.rb→False):=by show _→_;have:=HC.o.2.2.2.2.2.2.2.2.2.2.1;omega
  have NU:Hid (g3=R.rb→False):=by show _→_;have:=HC.o.2.2.2.2.2.2.2.2.2.2.2.1;omega
  have NV:Hid (g4=R.rb→False):=by show _→_;have:=HC.o.2.2.2.2.2.2.2.2.2.2.2.2;omega
  have hix:∀(a0 a1 a2 a3 a4:Value) (w:World),(Instr.index 171 (.agg #[a0,a1,a2,a3,a4]) (.int .i64 4)).run Tryz.prog w=.ok a4 w:=fun _ _ _ _ _ _=>by kernel_rfl
  clear hc h2;go_wp2_with fail;go_loopg [6,11] 2 (fun gg s6 s11 wr=>∃k:Nat,s11=.int .i64 k∧k≤2∧2-k≤gg∧((opsL 4).drop k).find? (bG R.l i)=xu R.l i 4∧bC R wr i d∧Step (·=R.rb) w2 wr);case atStart=>exact⟨0,rfl,Nat.zero_le _,by omega,rfl,H2.o,Step.refl _ _⟩
  case round=>
   obtain⟨k,rfl,hk,hgg,hfd,hr,hst⟩:=hrel;have A7:=ai hfd;have HR:=ai hr;have HST:=ai hst;have qo:Hid (Step (·=R.rb) w1 wr):=(HS2.o.mono fe).trans hst;have p0:=bZ.o wr qo.o;clear hfd hr hst;rcases(show k=0∨k=1∨k=2 by omega)with rfl|rfl|rfl
   ·have f0:wr.cell? ⟨g4,0,none⟩=some (.string ⟨#[42]⟩):=HST.o.cell (HC.o.2.2.2.2.2.2.1) (fun e=>NV.o e);go_wp2_with fail;cases hb:bG R.l i [42]with
    |true=>have HB:=ai hb;clear hb;refine(cZ R HL.o ⟨#[42]⟩ _ i d HR.o dc HB.o).mono ?_;rintro e w4 ⟨rfl,hr4,h4⟩;have HR4:=ai hr4;have ji:=ai h4;clear hr4 h4 f0 p0;go_wp2_with fail;go_ret;(have ho:xu R.l i 4=some [42]:=by rw[←A7.o];simp[opsL,HB.o]);unfold oh;rw[ho];exact⟨rfl,HR4.o,((dH.o.mono fe).trans qo.o).trans ji.o⟩
    |false=>
     have HB:=ai hb;clear hb;refine(dU R HL.o ⟨#[42]⟩ _ i d HR.o dc HB.o).mono ?_;rintro e w4 ⟨rfl,hr4,h4⟩;have HR4:=ai hr4;have ji:=ai h4;(have xU:Hid (((opsL 4).drop 1).find? (bG R.l i)=xu R.l i 4):=by show _=_;rw[←A7.o];simp[opsL,HB.o]);clear hr4 h4 f0 p0;go_wp2_with fail;go_roundg (gk-1);case rel=>exact⟨1,rfl,by omega,by omega,xU.o,HR4.o,HST.o.trans ji.o⟩
     case measure=>omega
   ·have f0:wr.cell? ⟨g4,1,none⟩=some (.string ⟨#[47]⟩):=HST.o.cell (HC.o.2.2.2.2.2.2.2.1) (fun e=>NV.o e);go_wp2_with fail;cases hb:bG R.l i [47]with
    |true=>have HB:=ai hb;clear hb;refine(cZ R HL.o ⟨#[47]⟩ _ i d HR.o dc HB.o).mono ?_;rintro e w4 ⟨rfl,hr4,h4⟩;have HR4:=ai hr4;have ji:=ai h4;clear hr4 h4 f0 p0;go_wp2_with fail;go_ret;(have ho:xu R.l i 4=some [47]:=by rw[←A7.o];simp[opsL,HB.o]);unfold oh;rw[ho];exact⟨rfl,HR4.o,((dH.o.mono fe).trans qo.o).trans ji.o⟩
    |false=>
     have HB:=ai hb;clear hb;refine(dU R HL.o ⟨#[47]⟩ _ i d HR.o dc HB.o).mono ?_;rintro e w4 ⟨rfl,hr4,h4⟩;have HR4:=ai hr4;have ji:=ai h4;(have xU:Hid (((opsL 4).drop 2).find? (bG R.l i)=xu R.l i 4):=by show _=_;rw[←A7.o];simp[opsL,HB.o]);clear hr4 h4 f0 p0;go_wp2_with fail;go_roundg (gk-1);case rel=>exact⟨2,rfl,by omega,by omega,xU.o,HR4.o,HST.o.trans ji.o⟩
     case measure=>omega
   ·clear p0;go_wp2_with fail;go_ret;(have ho:xu R.l i 4=none:=by rw[←A7.o];rfl);unfold oh;rw[ho];exact⟨rfl,HR.o,(dH.o.mono fe).trans qo.o⟩
end Go.Proofs.YtggjfinekcenpaaGreat
