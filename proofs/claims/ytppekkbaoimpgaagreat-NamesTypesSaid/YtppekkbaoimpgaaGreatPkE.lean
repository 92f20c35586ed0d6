/- LevB, ExA, Lis, Blk, BlB, Let -/
import Derived.Test.YtppekkbaoimpgaaGreatPkD
set_option maxRecDepth 100000
set_option maxHeartbeats 8000000
namespace Go.Proofs.YtppekkbaoimpgaaGreat
open Go.RowKit
open Vt
structure Y4 (R:fV) (j1 j2 d bx bp bq:Nat) (w4:World) (s:ByteArray) (n:Nat) (tl tc:Int) (xc:List Value) (y:Ex) (L:Nat→Bool) (V:Nat→Value) (X:World):Prop where
 p0:L 0=true→V 0=.string s
 p1:L 1=true→V 1=.agg xc.toArray
 p2:L 2=true→V 2=.agg #[dY R.rb 0]
 p3:L 3=true→V 3=.int .i64 n
 p4:L 4=true→V 4=.int .i64 ((n:Int)+1)
 p5:L 5=true→∃cs:List Value,V 5=.agg cs.toArray∧dW X (fun q=>w4.heap.size≤q) y cs
 p6:L 6=true→∃(g:Nat) (cs:List Value),V 6=.slice (some ⟨g,0,none⟩) 2 2∧w4.heap.size≤g∧dW X (fun q=>w4.heap.size≤q) y cs∧X.heap[g]?=some (.cells (xc++cs).toArray 56 (0,0))
 p7:L 7=true→V 7=.agg #[ah tl,ah tc]
 p8:L 8=true→∃g:Nat,V 6=.slice (some ⟨g,0,none⟩) 2 2∧V 8=.agg #[ah 14,aY s,bK 0,aO,.slice (some ⟨g,0,none⟩) 2 2,au,au,ah tl,ah tc]
 st:Step (fun q=>q=R.rb∨q=bx) w4 X
 rd:bC R X (if L 5 then j2 else j1) d
 x0:L 9=false→X.heap[bx]?=some (.cells xc.toArray 56 (0,0))
 x1:L 9=true→∃g:Nat,V 6=.slice (some ⟨g,0,none⟩) 2 2∧X.heap[bx]?=some (.cells #[ah 14,aY s,bK 0,aO,.slice (some ⟨g,0,none⟩) 2 2,au,au,ah tl,ah tc] 56 (0,0))
 IC:X.cell? ⟨bp,0,none⟩=some (.pointer (some ⟨R.rb,0,none⟩))
 EL:X.heap[bq]?=some (.cells #[ah tl,ah tc] 25 (0,0))
 q6:L 6=true→L 1=true∧L 5=true
 q8:L 8=true→L 6=true
 q9:L 9=true→L 1=true∧L 5=true∧L 6=true∧L 7=true∧L 8=true
structure yT (R:fV) (w1 w3:World) (bx d:Nat) (X:World) (i':Nat) (x:Ex) (cs:List Value):Prop where
 rd:bC R X i' d
 blk:X.heap[bx]?=some (.cells cs.toArray 56 (0,0))
 ex:dW X (fun q=>w1.heap.size≤q∧q≠bx) x cs
 st:Step (fun q=>q=R.rb∨q=bx) w3 X
theorem yT.quiet {R:fV} {w1 w3:World} {bx d:Nat} {X X':World} {i':Nat} {x:Ex} {cs:List Value} (h:yT R w1 w3 bx d X i' x cs) (hs:Step (fun _=>False) X X'):yT R w1 w3 bx d X' i' x cs:=
 ⟨h.rd.quiet hs,hs.keep h.blk (fun h=>h),dW.step hs (fun _ _ h=>h) _ _ h.ex,h.st.trans (hs.mono fe)⟩
theorem yT.read {R:fV} {w1 w3:World} {bx d:Nat} {X X':World} {i' i2:Nat} {x:Ex} {cs:List Value} (h:yT R w1 w3 bx d X i' x cs) (hb:R.rb≠bx) (hw:R.rb<w1.heap.size) (hr:bC R X' i2 d) (hs:Step (·=R.rb) X X'):yT R w1 w3 bx d X' i2 x cs:=
 ⟨hr,hs.keep h.blk (fun e=>hb e.symm),dW.step hs (fun q hq e=>by have:=hq.1;omega) _ _ h.ex,h.st.trans (hs.mono il)⟩
theorem XNONE (s:ByteArray) (tl tc:Int) (g:Nat):∀u∈[Value.int .i64 14,aY s,bK 0,aO,.slice (some ⟨g,0,none⟩) 2 2,au,au,ah tl,ah tc],u.oneCell'=true:=by intro u hu;simp at hu;rcases hu with rfl|rfl|rfl|rfl|rfl|rfl|rfl|rfl|rfl<;>rfl
theorem KT (f:Nat) (ih:∀f',f'<f→mW f'∧yS f'):mW f:=by
 intro R w i d n hl h hd hn hno;obtain⟨f,rfl⟩:∃f',f=f'+1:=by
  cases f with
  |zero=>exact absurd (by rw[bf]) hno
  |succ f=>exact⟨f,rfl⟩
 have HL:=ak hl;have H0:=ak h;have IH:=ak ih;obtain⟨r,hr⟩:=aU (bf (f+1) R.l i d n);have HRR:=ak hr;rw[←hr]at hno⊢;have eH:=ak hno;have pY:=aI h.blk;obtain⟨w1,hw1⟩:=aU ((w.alloc (.cells #[dY R.rb 0] 97)).alloc (.cells #[ah 0,bP,bK 0,aO,au,au,au,ah 0,ah 0] 56));have cZ:Hid (Step (fun _=>False) w w1):=by show Step _ _ _;rw[hw1];exact(bJ.alloc _).alloc _
 have jL:Hid (w1.heap[w.heap.size]?=some (.cells #[dY R.rb 0] 97 (0,0))):=by show _=_;rw[hw1];exact aN (aA _ _)
 have jW:Hid (w1.heap[w.heap.size+1]?=some (.cells #[ah 0,bP,bK 0,aO,au,au,au,ah 0,ah 0] 56 (0,0))):=by show _=_;rw[hw1];exact dX _ _ _
 have HW1:=ak hw1;have H1:=ak (h.quiet cZ.o);have hn1:=aI jW.o;have bY:Hid (∀X:World,Step (·=R.rb) w1 X→X.cell? ⟨w.heap.size,0,none⟩=some (.pointer (some ⟨R.rb,0,none⟩))):=by show∀X,_;intro X hX;exact aj (hX.keep jL.o om) 0 _ rfl
 clear ih hl h hno hr hw1;go_enter Tryz.func128,Tryz.ntmps128;go_upto_region 1 with fail
 rw[←HW1.o];obtain⟨b5,hb5⟩:∃b5,((n:Int)==5)=b5:=⟨_,rfl⟩;have zX:Hid ((n==5)=b5):=(jS n 5 5 rfl).symm.trans hb5;go_wp2_with fail;refine(nT w1).mono ?_;rintro e w2 ⟨⟨g0,g1,g2,g3,g4,rfl,-⟩,h2⟩;have H2:=ak (H1.o.quiet h2);have HS2:Hid (Step (·=R.rb) w1 w2):=h2.mono fe;have mZ:=ak (h2.keep jW.o (fun h=>h));have p0:=bY.o w2 HS2.o;have hz2:=h2.size;clear h2;cases b5 with
 |true=>
  have Qn:n=5:=by simpa using zX.o
  have HR2:Hid (r=iR f R.l i d):=by show _=_;rw[HRR.o,bf,if_pos Qn]
  clear Qn;go_wp2_with fail;cases hx:iR f R.l i d with
  |out=>exact absurd (by rw[HR2.o,hx]) eH.o
  |err c ln col=>have HX:=ak hx;clear hx;refine((IH.o f (Nat.lt_succ_self f)).2 R _ i d HL.o H2.o hd (by rw[HX.o];intro h;cases h)).mono ?_;rintro e wq hp;rw[HX.o]at hp;obtain⟨rfl,sq⟩:=hp;refine⟨rfl,?_⟩;rw[HR2.o,HX.o];exact⟨rfl,((cZ.o.mono fe).trans HS2.o).trans sq⟩
  |ok y jx=>
   have HX:=ak hx;clear hx;refine((IH.o f (Nat.lt_succ_self f)).2 R _ i d HL.o H2.o hd (by rw[HX.o];intro h;cases h)).mono ?_;rintro e wx hp;rw[HX.o]at hp;obtain⟨⟨v,rfl,cs,rfl,hy⟩,hrx,hsx⟩:=hp;have HY:=ak hy;have dS:=ak hy.one;obtain⟨k0,gX,v0,gY,a1,n1,c1,a2,n2,c2,a3,n3,c3,l0,c0,rfl⟩:=hy.parts;have u_:=ak hrx;have pF:=ak hsx;have kz:=ak (hsx.keep mZ.o om);clear hy hrx hsx p0
   go_wp2_with (refine aC (w:=wx) rfl 56 (.tmp 4) (.tmp 13) rfl (w.heap.size+1) 0 56 _ [.int .i64 k0,.string gX,.int .u64 v0,.bool gY,.slice a1 n1 c1,.slice a2 n2 c2,.slice a3 n3 c3,.int .i64 l0,.int .i64 c0] rfl rfl kz.o Tryz.aQ (Nat.le_of_eq rfl) dS.o ?_
                intro w6 hb6 vF)
   have Jg:w6.heap[w.heap.size+1]?=some (.cells [Value.int .i64 k0,aY gX,bK v0,dV gY,.slice a1 n1 c1,.slice a2 n2 c2,.slice a3 n3 c3,ah l0,ah c0].toArray 56 (0,0)):=hb6;refine bodyPost_ret (aW rfl _ (w.heap.size+1) 56 _ _ rfl Jg Tryz.underlying56 rfl Tryz.aQ) rfl ?_;rw[HR2.o,HX.o];have hz1:=cZ.o.size;refine⟨⟨_,rfl,_,rfl,dW.mono oi _ _ (dW.step vF oi _ _ HY.o)⟩,u_.o.step vF oi,?_⟩;exact(((cZ.o.mono fe).trans HS2.o).trans pF.o).then vF oi
 |false=>
  have Qn:n≠5:=by intro e;have h3:=zX.o;rw[e]at h3;cases h3
  have hn4:n<5:=by omega
  have HR2:Hid (r=(bf f R.l i d (n+1)).bind fun x j=>yN f R.l j d n x):=by show _=_;rw[HRR.o,bf,if_neg Qn]
  have R1:IntKind.i64.wrap ((n:Int)+1)=(n:Int)+1:=IntWalk.i64_in _ om;clear Qn;go_wp2_with fail;have HLV:Hid (∀X i' f',f'<f+1→bC R X i' d→bf f' R.l i' d (n+1)≠.out→Calls Tryz.prog 128 #[.agg #[dY R.rb 0],.int .i64 ((n:Int)+1)] X (aJ R d (J8 X.heap.size) (bf f' R.l i' d (n+1)) X)):=by show∀X i' f',_;intro X i' f' hf hX hno;exact(IH.o f' hf).1 R X i' d (n+1) HL.o hX hd om hno
  cases hx:bf f R.l i d (n+1)with
  |out=>exact absurd (by rw[HR2.o,hx];rfl) eH.o
  |err c ln col=>have HX:=ak hx;clear hx;refine(HLV.o _ i f (Nat.lt_succ_self f) H2.o (by rw[HX.o];intro h;cases h)).mono ?_;rintro e wq hp;rw[HX.o]at hp;obtain⟨rfl,sq⟩:=hp;refine⟨rfl,?_⟩;rw[HR2.o,HX.o];exact⟨rfl,((cZ.o.mono fe).trans HS2.o).trans sq⟩
  |ok x jx=>
   have HX:=ak hx;clear hx;refine(HLV.o _ i f (Nat.lt_succ_self f) H2.o (by rw[HX.o];intro h;cases h)).mono ?_;rintro e wx hp;rw[HX.o]at hp;obtain⟨⟨v,rfl,cs,rfl,hy⟩,hrx,hsx⟩:=hp;have HY:=ak hy;obtain⟨k0,gX,v0,gY,a1,n1,c1,a2,n2,c2,a3,n3,c3,l0,c0,rfl⟩:=hy.parts;have u_:=ak hrx;have pF:Hid (Step (·=R.rb) w1 wx):=HS2.o.trans hsx;(have HR3:Hid (r=yN f R.l jx d n x):=by show _=_;rw[HR2.o,HX.o];rfl);have hzx:=hsx.size;obtain⟨w3,hw3⟩:=aU (wx.alloc (.cells #[ah k0,aY gX,bK v0,dV gY,.slice a1 n1 c1,.slice a2 n2 c2,.slice a3 n3 c3,ah l0,ah c0] 56));(have eX:Hid (Step (fun _=>False) wx w3):=by show Step _ _ _;rw[hw3];exact bJ.alloc _);(have HB3:Hid (w3.heap[wx.heap.size]?=some (.cells #[ah k0,aY gX,bK v0,dV gY,.slice a1 n1 c1,.slice a2 n2 c2,.slice a3 n3 c3,ah l0,ah c0] 56 (0,0))):=by show _=_;rw[hw3];exact aA _ _);have nN:Hid (Step (·=R.rb) w1 w3):=pF.o.trans (eX.o.mono fe);have HW3:=ak hw3;clear hy hrx hsx p0 hw3;have hxb:=aI HB3.o;have hz3:=eX.o.size;have Y5:Hid (dW w3 (fun q=>w1.heap.size≤q∧q≠wx.heap.size) x [.int .i64 k0,.string gX,.int .u64 v0,.bool gY,.slice a1 n1 c1,.slice a2 n2 c2,.slice a3 n3 c3,.int .i64 l0,.int .i64 c0]):=dW.step eX.o (fun _ _ h=>h) _ _ (dW.mono (fun q hq hh=>⟨by omega,by omega⟩) _ _ HY.o);have Ri:Hid (yT R w1 w3 wx.heap.size d w3 jx x [.int .i64 k0,.string gX,.int .u64 v0,.bool gY,.slice a1 n1 c1,.slice a2 n2 c2,.slice a3 n3 c3,.int .i64 l0,.int .i64 c0]):=⟨u_.o.quiet eX.o,HB3.o,Y5.o,Step.refl _ _⟩;(go_upto_block 0 with fail);rw[←HW3.o];obtain⟨bx,hbx⟩:=aU wx.heap.size;rw[←hbx]at Ri hxb⊢;(have hbx1:w1.heap.size≤bx:=by omega);have wH:=ak (nN.o.keep jL.o om);have qR:=ak (nN.o.keep jW.o om);(have EM:Hid (∀X:World,Step (fun q=>q=R.rb∨q=bx) w3 X→X.cell? ⟨w.heap.size,0,none⟩=some (.pointer (some ⟨R.rb,0,none⟩))∧X.heap[w.heap.size+1]?=some (.cells #[ah 0,bP,bK 0,aO,au,au,au,ah 0,ah 0] 56 (0,0))):=by show∀X,_;intro X hX;exact⟨aj (hX.keep wH.o om) 0 _ rfl,hX.keep qR.o om⟩);have Ac:Hid (Step (·=R.rb) w w3):=(cZ.o.mono fe).trans nN.o;clear hbx;go_wp2_with fail;go_loopg [6,7] f (fun gg s6 s7 wr=>gg≤f∧∃(i':Nat) (x:Ex) (cs:List Value),r=yN gg R.l i' d n x∧yT R w1 w3 bx d wr i' x cs);case atStart=>exact⟨Nat.le_refl _,jx,x,_,HR3.o,Ri.o⟩
   case round=>
    obtain⟨hgf,i',x,cs,hrq,hst⟩:=hrel;have Y1:=ak hrq;obtain⟨gn,rfl⟩:∃gn,gk=gn+1:=by
     cases gk with
     |zero=>exact absurd hrq (by rw[yN];exact eH.o)
     |succ gn=>exact⟨gn,rfl⟩
    obtain⟨k0,gX,v0,gY,a1,n1,c1,a2,n2,c2,a3,n3,c3,l0,c0,rfl⟩:=hst.ex.parts;have HST:=ak hst;obtain⟨p0,-⟩:=EM.o wr hst.st;obtain⟨tk,htk⟩:=aU (tokA R.l i');have J7:=ak htk;have HAT:=ak (at_at R wr i' d tk hst.rd (by rw[htk];exact hst.rd.tok));clear hrq hst htk;(go_upto_region 4 with fail);go_wp2_with fail;refine HAT.o.mono ?_;rintro e w4 ⟨rfl,h4⟩;have eP:=ak (HST.o.quiet h4);obtain⟨w5,hw5⟩:=aU (w4.alloc (.cells #[ah tk.line,ah tk.col] 25));(have oQ:Hid (Step (fun _=>False) w4 w5):=by show Step _ _ _;rw[hw5];exact bJ.alloc _);(have HQ5:Hid (w5.heap[w4.heap.size]?=some (.cells #[ah tk.line,ah tk.col] 25 (0,0))):=by show _=_;rw[hw5];exact aA _ _);have kY:=ak (eP.o.quiet oQ.o);have hz4:=eP.o.st.size;have HW5:=ak hw5;clear h4 hw5 p0;obtain⟨p0,-⟩:=EM.o w5 kY.o.st;(go_upto_region 5 with fail);rw[←HW5.o];go_wp2_with fail;refine(Y3 R HL.o w5 i' d n kY.o.rd hn4).mono ?_;rintro e w6 ⟨rfl,n_,h6⟩;cases ho:xJ R.l i' n with
    |none=>
     rw[ho]at n_;have yR:Hid (bC R w6 i' d):=n_;have eU:=ak (kY.o.read om om yR.o h6);(have ng:Hid (r=.ok x i'):=by show _=_;rw[Y1.o,yN,ho]);have dS:=ak eU.o.ex.one;(have iH:Hid (∀(jj:Nat) v,[Value.int .i64 k0,aY gX,bK v0,dV gY,.slice a1 n1 c1,.slice a2 n2 c2,.slice a3 n3 c3,ah l0,ah c0][jj]?=some v→w6.cell? ⟨bx,0+jj,none⟩=some v):=by show∀jj v,_;intro jj v hv;rw[Nat.zero_add];exact aj eU.o.blk jj v oJ);have nU:=ak (EM.o w6 eU.o.st).2;clear n_ h6 ho p0;rw[show opS none=(⟨#[]⟩:ByteArray) from rfl];go_wp2_with (first
      |(refine ay rfl 56 (.tmp 5) rfl bx 0 rfl [.int .i64 k0,.string gX,.int .u64 v0,.bool gY,.slice a1 n1 c1,.slice a2 n2 c2,.slice a3 n3 c3,.int .i64 l0,.int .i64 c0] _ iH.o Tryz.underlying56 rfl Tryz.aQ ?_)
      |(refine aC (w:=w6) rfl 56 (.tmp 4) (.tmp 26) rfl (w.heap.size+1) 0 56 _ [.int .i64 k0,.string gX,.int .u64 v0,.bool gY,.slice a1 n1 c1,.slice a2 n2 c2,.slice a3 n3 c3,.int .i64 l0,.int .i64 c0] rfl rfl nU.o Tryz.aQ (Nat.le_of_eq rfl) dS.o ?_;intro w7 hb7 xQ))
     have Y6:w7.heap[w.heap.size+1]?=some (.cells [Value.int .i64 k0,aY gX,bK v0,dV gY,.slice a1 n1 c1,.slice a2 n2 c2,.slice a3 n3 c3,ah l0,ah c0].toArray 56 (0,0)):=hb7;refine bodyPost_ret (aW rfl _ (w.heap.size+1) 56 _ _ rfl Y6 Tryz.underlying56 rfl Tryz.aQ) rfl ?_;rw[ng.o];have hz1:=cZ.o.size;refine⟨⟨_,rfl,_,rfl,dW.mono (fun q _ hq=>by have:=hq.1;omega) _ _ (dW.step xQ (fun q hq e=>by have:=hq.1;omega) _ _ eU.o.ex)⟩,eU.o.rd.step xQ oi,?_⟩;exact(Ac.o.then eU.o.st oi).then xQ oi
    |some s=>
     rw[ho]at n_;have yR:Hid (bC R w6 (i'+1) d):=n_;have eU:=ak (kY.o.read om om yR.o h6);have HQ6:=ak (h6.keep HQ5.o om);(have ng:Hid (r=(bf gn R.l (i'+1) d (n+1)).bind fun y j=>if n=2 then .ok (bZ 14 (zS s) 0 false [x,y] [] [] tk) j else yN gn R.l j d n (bZ 14 (zS s) 0 false [x,y] [] [] tk)):=by show _=_;rw[Y1.o,yN,ho,J7.o]);obtain⟨sB,hsB⟩:=aU (zS s);(have hpos:0<sB.size∧sB.size≤9223372036854775807:=by have hm:=List.mem_of_find?_eq_some ho;rw[hsB];show 0<s.toArray.size∧s.toArray.size≤_;rcases(show n=0∨n=1∨n=2∨n=3∨n=4 by omega)with e|e|e|e|e<;>subst e<;>simp[opsL]at hm<;>(rcases hm with rfl|rfl)<;>decide);have HPOS:=ak hpos.2;have he:=kG sB hpos.1;have he':=ku sB hpos.1;have Ky:=ak hsB;have hx6:opS (some s)=sB:=hsB.symm;rw[hx6];rw[←hsB]at ng;obtain⟨p0,-⟩:=EM.o w6 eU.o.st;clear n_ h6 ho hsB hx6 hpos;have hz5:=oQ.o.size;have hz46:=eU.o.st.size;have hq6:=aI HQ6.o;have hxs:=aI eU.o.blk;(go_upto_region 8 with fail);(have HZ8:Hid (∀(j2:Nat) (y:Ex) V,Y4 R (i'+1) j2 d bx w.heap.size w4.heap.size w6 sB n tk.line tk.col [.int .i64 k0,.string gX,.int .u64 v0,.bool gY,.slice a1 n1 c1,.slice a2 n2 c2,.slice a3 n3 c3,.int .i64 l0,.int .i64 c0] y (fun _=>false) V w6.drew):=by show∀j2 y V,_;intro j2 y V;have hs:Step (fun _=>False) w6 w6.drew:=bJ.drew;exact⟨gJ,gJ,gJ,gJ,gJ,gJ,gJ,gJ,gJ,hs.mono fe,eU.o.rd.quiet hs,fun _=>hs.keep eU.o.blk (fun h=>h),gJ,hs.cell (EM.o w6 eU.o.st).1 (fun h=>h),hs.keep HQ6.o (fun h=>h),gJ,gJ,gJ⟩);cases hx:bf gn R.l (i'+1) d (n+1)with
     |out=>exact absurd (by rw[ng.o,hx];rfl) eH.o
     |err c ln col=>
      have HX:=ak hx;clear hx;obtain⟨j2,-⟩:∃j2:Nat,j2=0:=⟨_,rfl⟩;obtain⟨y,-⟩:∃y:Ex,y=x:=⟨_,rfl⟩;(have vC:Hid (∀X,bC R X (i'+1) d→Calls Tryz.prog 128 #[.agg #[dY R.rb 0],.int .i64 ((n:Int)+1)] X fun e wq=>e=.panicked [{v:=.iface 251 (.agg #[ah c,ah ln,ah col]),recovered:=false}]∧Step (·=R.rb) X wq):=by show∀X,_;intro X hX;have h9:=HLV.o X (i'+1) gn om hX (by rw[HX.o];intro h;cases h);rw[HX.o]at h9;exact h9);(have Dj:Hid (∀X wq:World,Step (fun q=>q=R.rb∨q=bx) w6 X→Step (·=R.rb) X wq→aJ R d (J8 w.heap.size) r w (.panicked [{v:=.iface 251 (.agg #[ah c,ah ln,ah col]),recovered:=false}]) wq):=by show∀X wq,_;intro X wq h1 h2;rw[ng.o,HX.o];exact⟨rfl,(Ac.o.then (eU.o.st.trans h1) oi).trans h2⟩);refine bH kr (fun L V X=>Y4 R (i'+1) j2 d bx w.heap.size w4.heap.size w6 sB n tk.line tk.col [.int .i64 k0,.string gX,.int .u64 v0,.bool gY,.slice a1 n1 c1,.slice a2 n2 c2,.slice a3 n3 c3,.int .i64 l0,.int .i64 c0] y L V X∧L 5=false) 10 rfl kr kr kr kr ?h0 ?hs ?hdone;case h0=>exact⟨HZ8.o _ _ _,rfl⟩
      case hs=>
       refine⟨?_,?_,?_,?_,?_,?_,?_,?_,?_,?_,trivial⟩
       all_goals intro L V X a ev dn hdf hL ax hJ
       ·have o7:=dn 7 rfl;change a.tmps[7]?.getD undef=.string sB at o7;go_simp;exact⟨_,rfl,{hJ.1 with p0:=fun _=>rfl},hJ.2⟩
       ·have o5:=dn 5 rfl;change a.tmps[5]?.getD undef=.pointer (some ⟨bx,0,none⟩)at o5;have h9:L 9=false:=by
         cases e:L 9 with
         |false=>rfl
         |true=>exact absurd (hJ.1.q9 e).1 (by rw[hL];decide)
        have hb:=hJ.1.x0 h9;refine wp_load_mid 56 (.tmp 5) rfl bx 0 (by rw[bF];exact o5) [.int .i64 k0,.string gX,.int .u64 v0,.bool gY,.slice a1 n1 c1,.slice a2 n2 c2,.slice a3 n3 c3,.int .i64 l0,.int .i64 c0] _ (fun jj v hv=>by rw[Nat.zero_add];exact aj hb jj v oJ) Tryz.underlying56 rfl Tryz.aQ ?_;exact⟨_,rfl,{hJ.1 with p1:=fun _=>rfl,q6:=fun e=>absurd (hJ.1.q6 e).1 (by rw[hL];decide),q9:=fun e=>absurd (show L 9=true from e) (by rw[h9];decide)},hJ.2⟩
       ·have o2:=dn 2 rfl;change a.tmps[2]?.getD undef=.pointer (some ⟨w.heap.size,0,none⟩)at o2;have p9:=hJ.1.IC;go_simp;exact⟨_,rfl,{hJ.1 with p2:=fun _=>rfl},hJ.2⟩
       ·have o1:=dn 1 rfl;change a.tmps[1]?.getD undef=.int .i64 (n:Int)at o1;go_simp;exact⟨_,rfl,{hJ.1 with p3:=fun _=>rfl},hJ.2⟩
       ·have e30:=(ev 3 30 rfl (ax 3 rfl)).trans (hJ.1.p3 (ax 3 rfl));go_simp;exact⟨_,rfl,{hJ.1 with p4:=fun _=>rfl},hJ.2⟩
       ·have e29:=(ev 2 29 rfl (ax 2 rfl)).trans (hJ.1.p2 (ax 2 rfl));have e31:=(ev 4 31 rfl (ax 4 rfl)).trans (hJ.1.p4 (ax 4 rfl));have hrd:=hJ.1.rd;rw[hL,if_neg dc]at hrd;have h6:L 6=false:=by
         cases e:L 6 with
         |false=>rfl
         |true=>exact absurd (hJ.1.q6 e).2 (by rw[hL];decide)
        have h9:L 9=false:=by
         cases e:L 9 with
         |false=>rfl
         |true=>exact absurd (hJ.1.q9 e).2.1 (by rw[hL];decide)
        have h8:L 8=false:=by
         cases e:L 8 with
         |false=>rfl
         |true=>exact absurd (hJ.1.q8 e) (by rw[h6];decide)
        go_simp;refine(vC.o X hrd).mono ?_;rintro e wq ⟨rfl,hs⟩;exact⟨hdf,Dj.o X wq hJ.1.st hs⟩
       ·exact absurd hJ.2 (by rw[show L 5=true from ax 5 rfl];decide)
       ·have o6:=dn 6 rfl;change a.tmps[6]?.getD undef=.pointer (some ⟨w4.heap.size,0,none⟩)at o6;have q0:=aj hJ.1.EL 0 _ rfl;have q1:=aj hJ.1.EL 1 _ rfl;go_simp;have h9:L 9=false:=by
         cases e:L 9 with
         |false=>rfl
         |true=>exact absurd (hJ.1.q9 e).2.2.2.1 (by rw[hL];decide)
        exact⟨_,rfl,{hJ.1 with p7:=fun _=>rfl,q9:=fun e=>absurd (show L 9=true from e) (by rw[h9];decide)},hJ.2⟩
       ·exact absurd hJ.2 (by rw[show L 5=true from(hJ.1.q6 (ax 6 rfl)).2];decide)
       ·exact absurd hJ.2 (by rw[show L 5=true from(hJ.1.q6 (hJ.1.q8 (ax 8 rfl))).2];decide)
      case hdone=>intro L V X hall hJ;exact absurd hJ.2 (by rw[hall 5 dc];decide)
     |ok y j2=>
      have HX:=ak hx;clear hx;(have vC:Hid (∀X,bC R X (i'+1) d→Calls Tryz.prog 128 #[.agg #[dY R.rb 0],.int .i64 ((n:Int)+1)] X fun e wq=>(∃v,e=.returned v∧∃cs:List Value,v=.agg cs.toArray∧dW wq (fun q=>X.heap.size≤q) y cs)∧bC R wq j2 d∧Step (·=R.rb) X wq):=by show∀X,_;intro X hX;have h9:=HLV.o X (i'+1) gn om hX (by rw[HX.o];intro h;cases h);rw[HX.o]at h9;exact h9);(have vG:Hid (r=if n=2 then .ok (bZ 14 sB 0 false [x,y] [] [] tk) j2 else yN gn R.l j2 d n (bZ 14 sB 0 false [x,y] [] [] tk)):=by show _=_;rw[ng.o,HX.o];rfl);go_cut [] (fun wx=>∃g:Nat,yT R w1 w3 bx d wx j2 (bZ 14 sB 0 false [x,y] [] [] tk) [.int .i64 14,.string sB,.int .u64 0,.bool false,.slice (some ⟨g,0,none⟩) 2 2,.slice none 0 0,.slice none 0 0,.int .i64 tk.line,.int .i64 tk.col]);case first=>
       refine bH kr (Y4 R (i'+1) j2 d bx w.heap.size w4.heap.size w6 sB n tk.line tk.col [.int .i64 k0,.string gX,.int .u64 v0,.bool gY,.slice a1 n1 c1,.slice a2 n2 c2,.slice a3 n3 c3,.int .i64 l0,.int .i64 c0] y) 10 rfl kr kr kr kr ?h0 ?hs ?hdone;case h0=>exact HZ8.o _ _ _
       case hs=>
        refine⟨?_,?_,?_,?_,?_,?_,?_,?_,?_,?_,trivial⟩
        all_goals intro L V X a ev dn hdf hL ax hJ
        ·have o7:=dn 7 rfl;change a.tmps[7]?.getD undef=.string sB at o7;go_simp;exact⟨_,rfl,{hJ with p0:=fun _=>rfl}⟩
        ·have o5:=dn 5 rfl;change a.tmps[5]?.getD undef=.pointer (some ⟨bx,0,none⟩)at o5;have h9:L 9=false:=by
          cases e:L 9 with
          |false=>rfl
          |true=>exact absurd (hJ.q9 e).1 (by rw[hL];decide)
         have hb:=hJ.x0 h9;refine wp_load_mid 56 (.tmp 5) rfl bx 0 (by rw[bF];exact o5) [.int .i64 k0,.string gX,.int .u64 v0,.bool gY,.slice a1 n1 c1,.slice a2 n2 c2,.slice a3 n3 c3,.int .i64 l0,.int .i64 c0] _ (fun jj v hv=>by rw[Nat.zero_add];exact aj hb jj v oJ) Tryz.underlying56 rfl Tryz.aQ ?_;exact⟨_,rfl,{hJ with p1:=fun _=>rfl,q6:=fun e=>absurd (hJ.q6 e).1 (by rw[hL];decide),q9:=fun e=>absurd (show L 9=true from e) (by rw[h9];decide)}⟩
        ·have o2:=dn 2 rfl;change a.tmps[2]?.getD undef=.pointer (some ⟨w.heap.size,0,none⟩)at o2;have p9:=hJ.IC;go_simp;exact⟨_,rfl,{hJ with p2:=fun _=>rfl}⟩
        ·have o1:=dn 1 rfl;change a.tmps[1]?.getD undef=.int .i64 (n:Int)at o1;go_simp;exact⟨_,rfl,{hJ with p3:=fun _=>rfl}⟩
        ·have e30:=(ev 3 30 rfl (ax 3 rfl)).trans (hJ.p3 (ax 3 rfl));go_simp;exact⟨_,rfl,{hJ with p4:=fun _=>rfl}⟩
        ·have e29:=(ev 2 29 rfl (ax 2 rfl)).trans (hJ.p2 (ax 2 rfl));have e31:=(ev 4 31 rfl (ax 4 rfl)).trans (hJ.p4 (ax 4 rfl));have hrd:=hJ.rd;rw[hL,if_neg dc]at hrd;have h6:L 6=false:=by
          cases e:L 6 with
          |false=>rfl
          |true=>exact absurd (hJ.q6 e).2 (by rw[hL];decide)
         have h9:L 9=false:=by
          cases e:L 9 with
          |false=>rfl
          |true=>exact absurd (hJ.q9 e).2.1 (by rw[hL];decide)
         have h8:L 8=false:=by
          cases e:L 8 with
          |false=>rfl
          |true=>exact absurd (hJ.q8 e) (by rw[h6];decide)
         go_simp;refine(vC.o X hrd).mono ?_;rintro e wq ⟨⟨v,rfl,cs,rfl,hy⟩,hr,hs⟩;have hzz:=hJ.st.size;refine⟨_,rfl,{hJ with p5:=fun _=>⟨cs,rfl,dW.mono oi _ _ hy⟩,p6:=fun e=>absurd (show L 6=true from e) (by rw[h6];decide),p8:=fun e=>absurd (show L 8=true from e) (by rw[h8];decide),st:=hJ.st.trans (hs.mono il),rd:=hr,x0:=fun e=>hs.keep (hJ.x0 e) om,x1:=fun e=>absurd (show L 9=true from e) (by rw[h9];decide),IC:=hs.cell hJ.IC (fun e=>by have e2:w.heap.size=R.rb:=e;omega),EL:=hs.keep hJ.EL om,q6:=fun e=>absurd (show L 6=true from e) (by rw[h6];decide),q8:=fun e=>absurd (show L 8=true from e) (by rw[h8];decide),q9:=fun e=>absurd (show L 9=true from e) (by rw[h9];decide)}⟩
        ·have e28:=(ev 1 28 rfl (ax 1 rfl)).trans (hJ.p1 (ax 1 rfl));obtain⟨cs,y1,y2⟩:=hJ.p5 (ax 5 rfl);obtain⟨k5,nm5,v5,Jh,b1,m1,d1,b2,m2,d2,b3,m3,d3,l5,c5,rfl⟩:=y2.parts;have e32:=(ev 5 32 rfl (ax 5 rfl)).trans y1;have hs:Step (fun _=>False) X (X.alloc (.cells #[ah k0,aY gX,bK v0,dV gY,.slice a1 n1 c1,.slice a2 n2 c2,.slice a3 n3 c3,ah l0,ah c0,ah k5,aY nm5,bK v5,dV Jh,.slice b1 m1 d1,.slice b2 m2 d2,.slice b3 m3 d3,ah l5,ah c5] 56)):=bJ.alloc _;have h8:L 8=false:=by
          cases e:L 8 with
          |false=>rfl
          |true=>exact absurd (hJ.q8 e) (by rw[hL];decide)
         have h9:L 9=false:=by
          cases e:L 9 with
          |false=>rfl
          |true=>exact absurd (hJ.q9 e).2.2.1 (by rw[hL];decide)
         go_simp;refine⟨_,rfl,{hJ with p5:=fun e=>⟨_,y1,dW.step hs (fun _ _ h=>h) _ _ y2⟩,p6:=fun _=>⟨X.heap.size,_,rfl,hJ.st.size,dW.step hs (fun _ _ h=>h) _ _ y2,aA _ _⟩,p8:=fun e=>absurd (show L 8=true from e) (by rw[h8];decide),st:=hJ.st.alloc _,rd:=hJ.rd.quiet hs,x0:=fun e=>hs.keep (hJ.x0 e) (fun h=>h),x1:=fun e=>absurd (show L 9=true from e) (by rw[h9];decide),IC:=hs.cell hJ.IC (fun h=>h),EL:=hs.keep hJ.EL (fun h=>h),q6:=fun _=>⟨ax 1 rfl,ax 5 rfl⟩,q8:=fun e=>absurd (show L 8=true from e) (by rw[h8];decide),q9:=fun e=>absurd (show L 9=true from e) (by rw[h9];decide)}⟩
        ·have o6:=dn 6 rfl;change a.tmps[6]?.getD undef=.pointer (some ⟨w4.heap.size,0,none⟩)at o6;have q0:=aj hJ.EL 0 _ rfl;have q1:=aj hJ.EL 1 _ rfl;go_simp;have h9:L 9=false:=by
          cases e:L 9 with
          |false=>rfl
          |true=>exact absurd (hJ.q9 e).2.2.2.1 (by rw[hL];decide)
         exact⟨_,rfl,{hJ with p7:=fun _=>rfl,q9:=fun e=>absurd (show L 9=true from e) (by rw[h9];decide)}⟩
        ·have e27:=(ev 0 27 rfl (ax 0 rfl)).trans (hJ.p0 (ax 0 rfl));have e34:=(ev 7 34 rfl (ax 7 rfl)).trans (hJ.p7 (ax 7 rfl));obtain⟨g,cs,c1,-⟩:=hJ.p6 (ax 6 rfl);have e33:=(ev 6 33 rfl (ax 6 rfl)).trans c1;go_simp;have h9:L 9=false:=by
          cases e:L 9 with
          |false=>rfl
          |true=>exact absurd (hJ.q9 e).2.2.2.2 (by rw[hL];decide)
         exact⟨_,rfl,{hJ with p8:=fun _=>⟨g,c1,rfl⟩,q8:=fun _=>ax 6 rfl,q9:=fun e=>absurd (show L 9=true from e) (by rw[h9];decide)}⟩
        ·have o5:=dn 5 rfl;change a.tmps[5]?.getD undef=.pointer (some ⟨bx,0,none⟩)at o5;obtain⟨g,g1,g2⟩:=hJ.p8 (ax 8 rfl);have e35:=(ev 8 35 rfl (ax 8 rfl)).trans g2;have hb:=hJ.x0 hL;have h6:=hJ.q8 (ax 8 rfl);have hbs:=aI hb;refine dM 56 (.tmp 5) (.tmp 35) rfl bx 0 56 _ [.int .i64 14,.string sB,.int .u64 0,.bool false,.slice (some ⟨g,0,none⟩) 2 2,.slice none 0 0,.slice none 0 0,.int .i64 tk.line,.int .i64 tk.col] (by rw[bF];exact o5) (by rw[bF];exact e35) hb Tryz.aQ (Nat.le_of_eq rfl) (XNONE sB tk.line tk.col g) ?_;intro w9 gu hs9;have hbb:w9.heap[bx]?=some (.cells #[ah 14,aY sB,bK 0,aO,.slice (some ⟨g,0,none⟩) 2 2,au,au,ah tk.line,ah tk.col] 56 (0,0)):=gu;refine⟨undef,rfl,{hJ with p5:=fun e=> ?_,p6:=fun e=> ?_,st:=hJ.st.trans (hs9.mono ir),rd:=hJ.rd.step hs9 oi,x0:=(fun e=>by cases (show true=false from e)),x1:=fun _=>⟨g,g1,hbb⟩,IC:=hs9.cell hJ.IC (fun e=>by have e2:w.heap.size=bx:=e;omega),EL:=hs9.keep hJ.EL om,q9:=fun _=>⟨(hJ.q6 h6).1,(hJ.q6 h6).2,h6,ax 7 rfl,ax 8 rfl⟩}⟩
         ·obtain⟨cs,c1,c2⟩:=hJ.p5 e;exact⟨cs,c1,dW.step hs9 oi _ _ c2⟩
         ·obtain⟨g',cs,c1,c2,c3,c4⟩:=hJ.p6 e;exact⟨g',cs,c1,c2,dW.step hs9 oi _ _ c3,hs9.keep c4 om⟩
       case hdone=>intro L V X hall hJ;obtain⟨g,c1,c2⟩:=hJ.x1 (hall 9 dc);obtain⟨g',cs,d1,d2,d3,d4⟩:=hJ.p6 (hall 6 dc);rw[c1]at d1;cases d1;have hrd:=hJ.rd;rw[hall 5 dc,if_pos rfl]at hrd;have hst:=hJ.st;(have kK:Hid (yT R w1 w3 bx d X j2 (bZ 14 sB 0 false [x,y] [] [] tk) [.int .i64 14,.string sB,.int .u64 0,.bool false,.slice (some ⟨g,0,none⟩) 2 2,.slice none 0 0,.slice none 0 0,.int .i64 tk.line,.int .i64 tk.col]):=by refine⟨hrd,c2,?_,eU.o.st.trans hst⟩;have hex:=dW.step hst (fun q hq e=>by have:=hq.1.1;have:=hq.1.2;omega) _ _ (dW.mono (P':=fun q=>(w1.heap.size≤q∧q≠bx)∧q<w6.heap.size) (fun q h7 h8=>⟨h8,h7⟩) _ _ eU.o.ex);rw[bZ,dW];refine⟨_,_,_,_,[],rfl,HPOS.o,nJ,?_,di.new d4 dc om,di.nil _ _ _,by rw[iq],di.nil _ _ _⟩;rw[dG];refine⟨_,_,rfl,dW.mono (fun q _ hq=>hq.1) _ _ hex,?_⟩;exact dG.single (dW.mono oi _ _ d3));rw[show List.range 10=[0,1,2,3,4,5,6,7,8,9] from rfl];simp only[kC,fU,List.getElem?_toArray,List.getElem?_cons_zero,List.getElem?_cons_succ,Option.bind_some,Act.put,List.setIfInBounds_toArray,List.set_cons_zero,List.set_cons_succ];clear hJ hall;go_wp2_with fail;go_meet;case rel=>exact⟨g,kK.o⟩
      case rest=>
       obtain⟨g,hls⟩:=hcut;obtain⟨w8,rfl⟩:=aU wc;have jk:=ak hls;obtain⟨b2,hb2⟩:∃b2,((n:Int)==2)=b2:=⟨_,rfl⟩;have HB2:Hid ((n==2)=b2):=(jS n 2 2 rfl).symm.trans hb2;clear hls p0;cases b2 with
       |false=>
        (have hn2:n≠2:=by intro e;have h3:=HB2.o;rw[e]at h3;cases h3);(have KU:Hid (r=yN gn R.l j2 d n (bZ 14 sB 0 false [x,y] [] [] tk)):=by show _=_;rw[vG.o,if_neg hn2]);clear hn2;go_wp2_with fail;go_roundg gn;case rel=>exact⟨by omega,j2,_,_,KU.o,jk.o⟩
        case measure=>omega
       |true=>
        (have hn2:n=2:=by simpa using HB2.o);(have KU:Hid (r=.ok (bZ 14 sB 0 false [x,y] [] [] tk) j2):=by show _=_;rw[vG.o,if_pos hn2]);clear hn2;have dS:=ak jk.o.ex.one;(have iH:Hid (∀(jj:Nat) v,[Value.int .i64 14,aY sB,bK 0,aO,.slice (some ⟨g,0,none⟩) 2 2,au,au,ah tk.line,ah tk.col][jj]?=some v→w8.cell? ⟨bx,0+jj,none⟩=some v):=by show∀jj v,_;intro jj v hv;rw[Nat.zero_add];exact aj jk.o.blk jj v oJ);have HN8:=ak (EM.o w8 jk.o.st).2;go_wp2_with (first
         |(refine ay rfl 56 (.tmp 5) rfl bx 0 rfl [.int .i64 14,.string sB,.int .u64 0,.bool false,.slice (some ⟨g,0,none⟩) 2 2,.slice none 0 0,.slice none 0 0,.int .i64 tk.line,.int .i64 tk.col] _ iH.o Tryz.underlying56 rfl Tryz.aQ ?_)
         |(refine aC (w:=w8) rfl 56 (.tmp 4) (.tmp 38) rfl (w.heap.size+1) 0 56 _ [.int .i64 14,.string sB,.int .u64 0,.bool false,.slice (some ⟨g,0,none⟩) 2 2,.slice none 0 0,.slice none 0 0,.int .i64 tk.line,.int .i64 tk.col] rfl rfl HN8.o Tryz.aQ (Nat.le_of_eq rfl) dS.o ?_;intro w9 gu wJ))
        have hb9':w9.heap[w.heap.size+1]?=some (.cells [Value.int .i64 14,aY sB,bK 0,aO,.slice (some ⟨g,0,none⟩) 2 2,au,au,ah tk.line,ah tk.col].toArray 56 (0,0)):=gu;refine bodyPost_ret (aW rfl _ (w.heap.size+1) 56 _ _ rfl hb9' Tryz.underlying56 rfl Tryz.aQ) rfl ?_;rw[KU.o];have hz1:=cZ.o.size;refine⟨⟨_,rfl,_,rfl,dW.mono (fun q _ hq=>by have:=hq.1;omega) _ _ (dW.step wJ (fun q hq e=>by have:=hq.1;omega) _ _ jk.o.ex)⟩,jk.o.rd.step wJ oi,?_⟩;exact(Ac.o.then jk.o.st oi).then wJ oi
theorem kZ (f:Nat) (ih:mW f) (R:fV) (w:World) (i d:Nat) (hl:nK R.l) (h:bC R w i d) (hd:d≤40) (hno:bf f R.l i d 0≠.out):Calls Tryz.prog 77 #[.agg #[dY R.rb 0]] w (aJ R d (J8 w.heap.size) (bf f R.l i d 0) w):=by
 obtain⟨w1,hw1⟩:=aU ((w.alloc (.cells #[dY R.rb 0] 97)).alloc (.cells #[ah 0,bP,bK 0,aO,au,au,au,ah 0,ah 0] 56));have cZ:Hid (Step (fun _=>False) w w1):=by show Step _ _ _;rw[hw1];exact(bJ.alloc _).alloc _
 have jL:Hid (w1.heap[w.heap.size]?=some (.cells #[dY R.rb 0] 97 (0,0))):=by show _=_;rw[hw1];exact aN (aA _ _)
 have jW:Hid (w1.heap[w.heap.size+1]?=some (.cells #[ah 0,bP,bK 0,aO,au,au,au,ah 0,ah 0] 56 (0,0))):=by show _=_;rw[hw1];exact dX _ _ _
 have HW1:=ak hw1;have H1:=ak (h.quiet cZ.o);have hn1:=aI jW.o;have pY:=aI h.blk;have p0:=aj jL.o 0 _ rfl;have HC:=ak (ih R w1 i d 0 hl H1.o hd om hno);obtain⟨r,hr⟩:=aU (bf f R.l i d 0);rw[←hr]at HC hno⊢;have eH:=ak hno;clear ih hl h hno hr hw1;go_enter Tryz.func77,Tryz.ntmps77;go_upto_region 1 with fail
 rw[←HW1.o];go_wp2_with fail;have hc2:Calls Tryz.prog 128 #[.agg #[dY R.rb 0],.int .i64 0] w1 (aJ R d (J8 w1.heap.size) r w1):=HC.o;refine hc2.mono ?_;clear hc2;rintro e wx hp;cases r with
 |out=>exact absurd rfl eH.o
 |err c ln col=>obtain⟨rfl,sq⟩:=hp;exact⟨rfl,rfl,(cZ.o.mono fe).trans sq⟩
 |ok y jx=>
  obtain⟨⟨v,rfl,cs,rfl,hy⟩,hrx,hsx⟩:=hp;have HY:=ak hy;have dS:=ak hy.one;obtain⟨k0,gX,v0,gY,a1,n1,c1,a2,n2,c2,a3,n3,c3,l0,c0,rfl⟩:=hy.parts;have u_:=ak hrx;have pF:=ak hsx;have kz:=ak (hsx.keep jW.o om);clear hy hrx hsx p0
  go_wp2_with (refine aC (w:=wx) rfl 56 (.tmp 2) (.tmp 4) rfl (w.heap.size+1) 0 56 _ [.int .i64 k0,.string gX,.int .u64 v0,.bool gY,.slice a1 n1 c1,.slice a2 n2 c2,.slice a3 n3 c3,.int .i64 l0,.int .i64 c0] rfl rfl kz.o Tryz.aQ (Nat.le_of_eq rfl) dS.o ?_
               intro w6 hb6 vF)
  have Jg:w6.heap[w.heap.size+1]?=some (.cells [Value.int .i64 k0,aY gX,bK v0,dV gY,.slice a1 n1 c1,.slice a2 n2 c2,.slice a3 n3 c3,ah l0,ah c0].toArray 56 (0,0)):=hb6;refine bodyPost_ret (aW rfl _ (w.heap.size+1) 56 _ _ rfl Jg Tryz.underlying56 rfl Tryz.aQ) rfl ?_;have hz1:=cZ.o.size;refine⟨⟨_,rfl,_,rfl,dW.mono oi _ _ (dW.step vF oi _ _ HY.o)⟩,u_.o.step vF oi,?_⟩;exact((cZ.o.mono fe).trans pF.o).then vF oi
theorem one_step (f:Nat) (ih:mW f):Q9 (f+1):=by
 intro R w i d hl h hd hno;have HL:=ak hl;have HEX:Hid (∀X j,bC R X j d→bf f R.l j d 0≠.out→Calls Tryz.prog 77 #[.agg #[dY R.rb 0]] X (aJ R d (J8 X.heap.size) (bf f R.l j d 0) X)):=fun X j hX hn=>kZ f ih R X j d hl hX hd hn;obtain⟨r,hr⟩:=aU (rW (f+1) R.l i d);have HRR:Hid (r=(aH R.l i [40]).bind fun _ j=>(bf f R.l j d 0).bind fun x j=>(aH R.l j [41]).bind fun _ j=>.ok x j):=by show _=_;rw[hr,rW]
 rw[←hr]at hno⊢;have eH:=ak hno;obtain⟨w1,hw1⟩:=aU (w.alloc (.cells #[dY R.rb 0] 97));have cZ:Hid (Step (fun _=>False) w w1):=by show Step _ _ _;rw[hw1];exact bJ.alloc _
 have jL:Hid (w1.heap[w.heap.size]?=some (.cells #[dY R.rb 0] 97 (0,0))):=by show _=_;rw[hw1];exact aA _ _
 have HW1:=ak hw1;have H1:=ak (h.quiet cZ.o);have hn1:=aI jL.o;have pY:=aI h.blk;have bY:Hid (∀X:World,Step (·=R.rb) w1 X→X.cell? ⟨w.heap.size,0,none⟩=some (.pointer (some ⟨R.rb,0,none⟩))):=by show∀X,_;intro X hX;exact aj (hX.keep jL.o om) 0 _ rfl
 have p0:=bY.o w1 bJ;clear ih hl h hno hr hw1;go_enter Tryz.func221,Tryz.ntmps221;go_upto_region 1 with fail
 rw[←HW1.o];go_wp2_with fail;refine(dH R HL.o w1.heap.size ⟨#[40]⟩ _ i d (H1.o.quiet (bJ.alloc _)) dc (aj (aA _ _) 0 _ rfl)).mono ?_;rintro e w2 hp;have hp2:aJ R d iC (aH R.l i [40]) _ e w2:=hp;cases hn:aH R.l i [40]with
 |out=>exact(dw hn).elim
 |err c ln col=>rw[hn]at hp2;obtain⟨rfl,s2⟩:=hp2;refine⟨rfl,?_⟩;rw[HRR.o,hn];exact⟨rfl,(cZ.o.mono fe).trans (((Step.refl (·=R.rb) _).alloc _).trans s2)⟩
 |ok u j=>
  have HN:=ak hn;rw[hn]at hp2;obtain⟨⟨v,rfl,rfl⟩,hr2,s2⟩:=hp2;have H2:=ak hr2;have HS2:Hid (Step (·=R.rb) w1 w2):=((Step.refl (·=R.rb) _).alloc _).trans s2;clear hn hr2 s2 p0 hp;have p0:=bY.o w2 HS2.o;go_wp2_with fail;cases hx:bf f R.l j d 0 with
  |out=>exact absurd (by rw[HRR.o,HN.o,dO.bind_ok,hx];rfl) eH.o
  |err c ln col=>have HX:=ak hx;clear hx;refine(HEX.o _ j H2.o (by rw[HX.o];intro h;cases h)).mono ?_;rintro e wq hp;rw[HX.o]at hp;obtain⟨rfl,sq⟩:=hp;refine⟨rfl,?_⟩;rw[HRR.o,HN.o,dO.bind_ok,HX.o];exact⟨rfl,((cZ.o.mono fe).trans HS2.o).trans sq⟩
  |ok x jx=>
   have HX:=ak hx;clear hx;refine(HEX.o _ j H2.o (by rw[HX.o];intro h;cases h)).mono ?_;rintro e wx hp;rw[HX.o]at hp;obtain⟨⟨v,rfl,cs,rfl,hy⟩,hrx,hsx⟩:=hp;have HY:=ak hy;have dS:=ak hy.one;obtain⟨k0,gX,v0,gY,a1,n1,c1,a2,n2,c2,a3,n3,c3,l0,c0,rfl⟩:=hy.parts;have u_:=ak hrx;have pF:=ak (HS2.o.trans hsx);obtain⟨w3,hw3⟩:=aU (wx.alloc (.cells #[ah k0,aY gX,bK v0,dV gY,.slice a1 n1 c1,.slice a2 n2 c2,.slice a3 n3 c3,ah l0,ah c0] 56));(have eX:Hid (Step (fun _=>False) wx w3):=by show Step _ _ _;rw[hw3];exact bJ.alloc _);(have HB3:Hid (w3.heap[wx.heap.size]?=some (.cells #[ah k0,aY gX,bK v0,dV gY,.slice a1 n1 c1,.slice a2 n2 c2,.slice a3 n3 c3,ah l0,ah c0] 56 (0,0))):=by show _=_;rw[hw3];exact aA _ _);have HW3:=ak hw3;have H3:=ak (u_.o.quiet eX.o);have nN:Hid (Step (·=R.rb) w1 w3):=pF.o.trans (eX.o.mono fe);have hz2:=HS2.o.size;have hzx:=hsx.size;clear hy hrx hsx hw3 p0;have p0:=bY.o w3 nN.o;(go_upto_region 3 with fail);rw[←HW3.o];go_wp2_with fail;refine(dH R HL.o w3.heap.size ⟨#[41]⟩ _ jx d (H3.o.quiet (bJ.alloc _)) dc (aj (aA _ _) 0 _ rfl)).mono ?_;rintro e w4 hp;have hp2:aJ R d iC (aH R.l jx [41]) _ e w4:=hp;cases hn:aH R.l jx [41]with
   |out=>exact(dw hn).elim
   |err c ln col=>rw[hn]at hp2;obtain⟨rfl,s4⟩:=hp2;refine⟨rfl,?_⟩;rw[HRR.o,HN.o,dO.bind_ok,HX.o,dO.bind_ok,hn];exact⟨rfl,((cZ.o.mono fe).trans nN.o).trans (((Step.refl (·=R.rb) _).alloc _).trans s4)⟩
   |ok u2 j4=>have KG:=ak hn;rw[hn]at hp2;obtain⟨⟨v,rfl,rfl⟩,hr4,s4⟩:=hp2;have H4:=ak hr4;have wI:Hid (Step (·=R.rb) w3 w4):=((Step.refl (·=R.rb) _).alloc _).trans s4;have HB4:=ak (wI.o.keep HB3.o om);(have iH:Hid (∀(jj:Nat) v,[Value.int .i64 k0,aY gX,bK v0,dV gY,.slice a1 n1 c1,.slice a2 n2 c2,.slice a3 n3 c3,ah l0,ah c0][jj]?=some v→w4.cell? ⟨wx.heap.size,0+jj,none⟩=some v):=by show∀jj v,_;intro jj v hv;rw[Nat.zero_add];exact aj HB4.o jj v oJ);clear hn hr4 s4 p0 hp;go_wp2_with (refine ay rfl 56 (.tmp 3) rfl wx.heap.size 0 rfl [.int .i64 k0,.string gX,.int .u64 v0,.bool gY,.slice a1 n1 c1,.slice a2 n2 c2,.slice a3 n3 c3,.int .i64 l0,.int .i64 c0] _ iH.o Tryz.underlying56 rfl Tryz.aQ ?_);go_ret;rw[HRR.o,HN.o,dO.bind_ok,HX.o,dO.bind_ok,KG.o];have hz1:=cZ.o.size;have hz34:=wI.o.size;have hz3:=aI HB3.o;have hal:Step (fun _=>False) w4 (w4.alloc (.cells #[ah k0,aY gX,bK v0,dV gY,.slice a1 n1 c1,.slice a2 n2 c2,.slice a3 n3 c3,ah l0,ah c0] 56)):=bJ.alloc _;have hx4:Step (·=R.rb) wx (w4.alloc (.cells #[ah k0,aY gX,bK v0,dV gY,.slice a1 n1 c1,.slice a2 n2 c2,.slice a3 n3 c3,ah l0,ah c0] 56)):=((eX.o.mono fe).trans wI.o).trans (hal.mono fe);refine⟨⟨_,rfl,_,di.new (aA _ _) dc om,dG.single (dW.mono oi _ _ (dW.step hx4 oi _ _ HY.o))⟩,H4.o.quiet hal,?_⟩;exact(((cZ.o.mono fe).trans nN.o).trans wI.o).trans (hal.mono fe)
theorem Tryz.Dl:(Tryz.prog.info? 56).map (fun i=>(i.zero,i.size,i.bytes))=some (some (.agg #[ah 0,bP,bK 0,aO,au,au,au,ah 0,ah 0]),9,128):=by kernel_rfl
structure KW (R:fV) (w1:World) (d:Nat) (X:World) (i':Nat) (acc:List Ex) (va:Value) (xs:List Value):Prop where
 rd:bC R X i' d
 ow:X.ownsRow w1.heap.size 56 9 va acc.length xs
 el:dG X (fun q=>w1.heap.size≤q∧va.ownBlock≠some q) acc xs
 few:acc.length≤8
 st:Step (·=R.rb) w1 X
theorem KW.read {R:fV} {w1:World} {d:Nat} {X X':World} {i' i2:Nat} {acc:List Ex} {va:Value} {xs:List Value} (h:KW R w1 d X i' acc va xs) (hw:R.rb<w1.heap.size) (hr:bC R X' i2 d) (hs:Step (·=R.rb) X X'):KW R w1 d X' i2 acc va xs:=
 ⟨hr,hs.owns h.ow oi,dG.step hs (fun q hq e=>by have:=hq.1;omega) _ _ h.el,h.few,h.st.trans hs⟩
theorem KW.push {R:fV} {w1:World} {d:Nat} {X X2 X3:World} {i' i2:Nat} {acc:List Ex} {va v9:Value} {xs cs:List Value} {x:Ex} (h:KW R w1 d X i' acc va xs) (hw:R.rb<w1.heap.size) (hr:bC R X2 i2 d) (hs:Step (·=R.rb) X X2) (hx:dW X2 (fun q=>X.heap.size≤q) x cs) (hown:X3.ownsRow w1.heap.size 56 9 v9 (acc.length+1) (xs++cs)) (hgrow:X2.grownBy X3 va.ownBlock) (hat:v9.ownBlock=va.ownBlock∨v9.ownBlock=some X2.heap.size) (hlt:acc.length<8):KW R w1 d X3 i2 (acc++[x]) v9 (xs++cs):=by
 have h2:=h.read hw hr hs;have h3:Step (fun q=>va.ownBlock=some q) X2 X3:=bM hgrow;have ho:∀q,va.ownBlock=some q→w1.heap.size≤q∧q<X.heap.size:=fun q hq=>h.ow.lt q hq;have hlen:(acc++[x]).length=acc.length+1:=by simp
 have hnew:∀q,q<X2.heap.size→va.ownBlock≠some q→v9.ownBlock≠some q:=by
  intro q hq hn e;rcases hat with h7|h7
  ·exact hn (by rw[←h7];exact e)
  ·rw[h7]at e;have e2:X2.heap.size=q:=Option.some.inj e;omega
 refine⟨h2.rd.step h3 (fun q hq e=>by have:=(ho q e).1;omega),by rw[hlen];exact hown,dG.snoc ?_ ?_,by rw[hlen];omega,h2.st.then h3 (fun q hq e=>by have:=(ho q e).1;omega)⟩
 ·have h5:=dG.mono (P':=fun q=>(w1.heap.size≤q∧va.ownBlock≠some q)∧q<X2.heap.size) (fun q h7 h8=>⟨h8,h7⟩) _ _ h2.el;have h6:=dG.step h3 (fun q hq e=>hq.1.2 e) _ _ h5;exact dG.mono (fun q _ hq=>⟨hq.1.1,hnew q hq.2 hq.1.2⟩) _ _ h6
 ·have h5:=dW.mono (P':=fun q=>X.heap.size≤q∧q<X2.heap.size) (fun q h7 h8=>⟨h8,h7⟩) _ _ hx;have h6:=dW.step h3 (fun q hq e=>by have:=(ho q e).2;omega) _ _ h5;refine dW.mono (fun q _ hq=>⟨by have:=h.st.size;omega,hnew q hq.2 (fun e=>by have:=(ho q e).2;omega)⟩) _ _ h6
theorem OG (f:Nat) (ih:∀f',f'<f→mW f'):Dk f:=by
 intro R w i d hl h hd hno;obtain⟨f,rfl⟩:∃f',f=f'+1:=by
  cases f with
  |zero=>exact absurd (by rw[kX]) hno
  |succ f=>exact⟨f,rfl⟩
 have HL:=ak hl;have HEX:Hid (∀f' X j,f'<f+1→bC R X j d→bf f' R.l j d 0≠.out→Calls Tryz.prog 77 #[.agg #[dY R.rb 0]] X (aJ R d (J8 X.heap.size) (bf f' R.l j d 0) X)):=fun f' X j hf hX hn=>kZ f' (ih f' hf) R X j d hl hX hd hn;obtain⟨r,hr⟩:=aU (kX (f+1) R.l i d);have HRR:Hid (r=if bD R.l i [41]then .ok [] (i+1)else pV f R.l i d []):=by show _=_;rw[hr,kX]
 rw[←hr]at hno⊢;have eH:=ak hno;obtain⟨w1,hw1⟩:=aU (w.alloc (.cells #[dY R.rb 0] 97));have cZ:Hid (Step (fun _=>False) w w1):=by show Step _ _ _;rw[hw1];exact bJ.alloc _
 have jL:Hid (w1.heap[w.heap.size]?=some (.cells #[dY R.rb 0] 97 (0,0))):=by show _=_;rw[hw1];exact aA _ _
 have HW1:=ak hw1;have H1:=ak (h.quiet cZ.o);have hn1:=aI jL.o;have pY:=aI h.blk;have bY:Hid (∀X:World,Step (·=R.rb) w1 X→X.cell? ⟨w.heap.size,0,none⟩=some (.pointer (some ⟨R.rb,0,none⟩))):=by show∀X,_;intro X hX;exact aj (hX.keep jL.o om) 0 _ rfl
 obtain⟨i0,hi0,hz0,hz1,hz2⟩:=info_parts Tryz.Dl;have HI:=ak hi0;have HZ0:=ak hz0;have HZ1:=ak hz1;have HZ2:=ak hz2;have p0:=bY.o w1 bJ;clear ih hl h hno hr hw1 hi0 hz0 hz1 hz2;go_enter Tryz.func212,Tryz.ntmps212;go_upto_region 1 with fail
 rw[←HW1.o];go_wp2_with fail;cases hb:bD R.l i [41]with
 |true=>have HB:=ak hb;clear hb;refine(cO R HL.o ⟨#[41]⟩ _ i d H1.o dc HB.o).mono ?_;rintro e w2 ⟨rfl,hr2,h2⟩;have HR2:=ak hr2;have HS2:=ak h2;clear hr2 h2 p0;go_wp2_with fail;go_ret;rw[HRR.o,HB.o,if_pos rfl];exact⟨⟨_,rfl,[],di.nil _ _ _,by rw[dG]⟩,HR2.o,(cZ.o.mono fe).trans HS2.o⟩
 |false=>
  have HB:=ak hb;have wX:Hid (r=pV f R.l i d []):=by show _=_;rw[HRR.o,hb,if_neg dc]
  clear hb;refine(dJ R HL.o ⟨#[41]⟩ _ i d H1.o dc HB.o).mono ?_;rintro e w2 ⟨rfl,hr2,h2⟩;have HR2:=ak hr2;have HS2:=ak h2;clear hr2 h2 p0;go_wp2_with fail;go_loopg [3] f (fun gg s3 wr=>gg≤f∧∃(i':Nat) (acc:List Ex) (xs:List Value),r=pV gg R.l i' d acc∧KW R w1 d wr i' acc s3 xs);case atStart=>exact⟨Nat.le_refl _,i,[],[],wX.o,HR2.o,World.ownsRow_nil _ _ _ _,by rw[dG],by simp,HS2.o⟩
  case round=>
   obtain⟨hgf,i',acc,xs,hrq,hst⟩:=hrel;obtain⟨gn,rfl⟩:∃gn,gk=gn+1:=by
    cases gk with
    |zero=>exact absurd hrq (by rw[pV];exact eH.o)
    |succ gn=>exact⟨gn,rfl⟩
   (have sS:Hid (r=(d_ acc.length 8 R.l i').bind fun _ i=>(bf gn R.l i d 0).bind fun x j=>if bD R.l j [44]then pV gn R.l (j+1) d (acc++[x])else(aH R.l j [41]).bind fun _ j=>.ok (acc++[x]) j):=by show _=_;rw[hrq,pV]);obtain⟨oa,oc,rfl⟩:=a_ hst.ow;have HST:=ak hst;have p0:=bY.o wr hst.st;have hfew:=hst.few;clear hrq hst;go_wp2_with fail;refine(lS R wr acc.length 8 i' d HST.o.rd).mono ?_;rintro e w3 hp;cases hn:d_ acc.length 8 R.l i' with
   |out=>exact(kH hn).elim
   |err c ln col=>rw[hn]at hp;obtain⟨rfl,s3⟩:=hp;refine⟨rfl,?_⟩;rw[sS.o,hn];exact⟨rfl,((cZ.o.mono fe).trans HST.o.st).trans s3⟩
   |ok u j=>
    have hji:j=i'∧acc.length<8:=by
     unfold d_ at hn;split at hn
     ·cases hn
     ·cases hn;exact⟨rfl,by omega⟩
    obtain⟨rfl,GH⟩:=hji;have HN:=ak hn;rw[hn]at hp;obtain⟨⟨v,rfl,rfl⟩,hr3,s3⟩:=hp;have fJ:=ak (HST.o.read om hr3 s3);have kU:=ak (sS.o.trans (pU HN.o));clear hn hr3 s3 p0;have p0:=bY.o w3 fJ.o.st;go_wp2_with fail;cases hx:bf gn R.l j d 0 with
    |out=>exact absurd (by rw[kU.o,hx];rfl) eH.o
    |err c ln col=>have HX:=ak hx;clear hx;refine(HEX.o gn _ j om fJ.o.rd (by rw[HX.o];intro h;cases h)).mono ?_;rintro e wq hp;rw[HX.o]at hp;obtain⟨rfl,sq⟩:=hp;refine⟨rfl,?_⟩;rw[kU.o,HX.o];exact⟨rfl,((cZ.o.mono fe).trans fJ.o.st).trans sq⟩
    |ok x jx=>
     have HX:=ak hx;clear hx;refine(HEX.o gn _ j om fJ.o.rd (by rw[HX.o];intro h;cases h)).mono ?_;rintro e wx hp;rw[HX.o]at hp;obtain⟨⟨v,rfl,cs,rfl,hy⟩,hrx,hsx⟩:=hp;have HY:=ak hy;have dS:=ak hy.one;obtain⟨k0,gX,v0,gY,a1,n1,c1,a2,n2,c2,a3,n3,c3,l0,c0,rfl⟩:=hy.parts;have u_:=ak hrx;have pF:=ak hsx;have Dn:=ak (kU.o.trans (pU HX.o));obtain⟨w4,hw4⟩:=aU (wx.alloc (.cells #[ah k0,aY gX,bK v0,dV gY,.slice a1 n1 c1,.slice a2 n2 c2,.slice a3 n3 c3,ah l0,ah c0] 56));(have iP:Hid (Step (fun _=>False) wx w4):=by show Step _ _ _;rw[hw4];exact bJ.alloc _);have wI:Hid (Step (·=R.rb) w3 w4):=hsx.trans (iP.o.mono fe);(have GN:Hid ((wx.alloc (.cells #[ah k0,aY gX,bK v0,dV gY,.slice a1 n1 c1,.slice a2 n2 c2,.slice a3 n3 c3,ah l0,ah c0] 56)).ownsRow w1.heap.size 56 9 (.slice oa acc.length oc) acc.length xs):=by show World.ownsRow _ _ _ _ _ _ _;rw[←hw4];exact wI.o.owns fJ.o.ow oi);have yU:Hid (Row (wx.alloc (.cells #[ah k0,aY gX,bK v0,dV gY,.slice a1 n1 c1,.slice a2 n2 c2,.slice a3 n3 c3,ah l0,ah c0] 56)) (wx.heap.size+1) (.slice (some ⟨wx.heap.size,0,none⟩) 1 1) 1 [.int .i64 k0,.string gX,.int .u64 v0,.bool gY,.slice a1 n1 c1,.slice a2 n2 c2,.slice a3 n3 c3,.int .i64 l0,.int .i64 c0]):=Row.new (aA _ _) dc;(have GR:Hid (w1.heap.size≤(wx.alloc (.cells #[ah k0,aY gX,bK v0,dV gY,.slice a1 n1 c1,.slice a2 n2 c2,.slice a3 n3 c3,ah l0,ah c0] 56)).heap.size):=by show _≤_;rw[←hw4];exact Nat.le_trans fJ.o.st.size wI.o.size);have HR4:=ak (hrx.quiet iP.o);have OH:Hid (dW w4 (fun q=>w3.heap.size≤q) x [.int .i64 k0,.string gX,.int .u64 v0,.bool gY,.slice a1 n1 c1,.slice a2 n2 c2,.slice a3 n3 c3,.int .i64 l0,.int .i64 c0]):=dW.step iP.o (fun _ _ h=>h) _ _ hy;have OI:=ak hw4;clear hy hrx hsx p0 hw4
     go_upto_region 6 with(refine fG _ rfl (wx.heap.size+1) (.tmp 12) (.tmp 15) 54 rfl w1.heap.size 56 i0 (.agg #[ah 0,bP,bK 0,aO,au,au,au,ah 0,ah 0]) 9 128 Tryz.underlying54 HI.o HZ0.o HZ1.o HZ2.o rfl dc _ _ _ (by simp[Act.eval]) GN.o _ 1 _ (by simp[Act.eval]) yU.o rfl dS.o (by unfold maxLen;omega) om GR.o ?_
                           intro v9 w9 gG gm nM)
     rw[←OI.o]at gm nM;have iD:=ak (fJ.o.push om HR4.o wI.o OH.o gG gm nM GH);clear gG gm nM;have p0:=bY.o w9 iD.o.st;go_wp2_with fail;cases hc:bD R.l jx [44]with
     |true=>
      have HC:=ak hc;clear hc;refine(cO R HL.o ⟨#[44]⟩ _ jx d iD.o.rd dc HC.o).mono ?_;rintro e w6 ⟨rfl,n_,s6⟩;have eU:=ak (iD.o.read om n_ s6);(have yR:Hid (r=pV gn R.l (jx+1) d (acc++[x])):=by show _=_;rw[Dn.o,HC.o,if_pos rfl]);clear n_ s6 p0;go_wp2_with fail;go_roundg gn;case rel=>exact⟨by omega,jx+1,acc++[x],_,yR.o,eU.o⟩
      case measure=>omega
     |false=>
      have HC:=ak hc;clear hc;refine(dJ R HL.o ⟨#[44]⟩ _ jx d iD.o.rd dc HC.o).mono ?_;rintro e w6 ⟨rfl,n_,s6⟩;have eU:=ak (iD.o.read om n_ s6);(have yR:Hid (r=(aH R.l jx [41]).bind fun _ j=>.ok (acc++[x]) j):=by show _=_;rw[Dn.o,HC.o,if_neg dc]);clear n_ s6 p0;have p0:=bY.o w6 eU.o.st;go_wp2_with fail;refine(dH R HL.o w6.heap.size ⟨#[41]⟩ _ jx d (eU.o.rd.quiet (bJ.alloc _)) dc (aj (aA _ _) 0 _ rfl)).mono ?_;rintro e w7 hp;have hp2:aJ R d iC (aH R.l jx [41]) _ e w7:=hp;cases hn:aH R.l jx [41]with
      |out=>exact(dw hn).elim
      |err c ln col=>rw[hn]at hp2;obtain⟨rfl,s7⟩:=hp2;refine⟨rfl,?_⟩;rw[yR.o,hn];exact⟨rfl,((cZ.o.mono fe).trans eU.o.st).trans (((Step.refl (·=R.rb) _).alloc _).trans s7)⟩
      |ok u j2=>have HN7:=ak hn;rw[hn]at hp2;obtain⟨⟨v,rfl,rfl⟩,XA,s7⟩:=hp2;have qh:=ak (eU.o.read om XA (((Step.refl (·=R.rb) _).alloc _).trans s7));clear hn XA s7 p0 hp;go_wp2_with fail;go_ret;rw[yR.o,HN7.o];have hz:=cZ.o.size;refine⟨⟨_,rfl,_,di.fA qh.o.ow (fun q hq=> ?_),dG.mono (fun q _ hq=>by have:=hq.1;omega) _ _ qh.o.el⟩,qh.o.rd,(cZ.o.mono fe).trans qh.o.st⟩;have:=(qh.o.ow.lt q hq).1;omega
theorem Tryz.eF:(Tryz.prog.info? 111).map (·.size)=some 17:=by kernel_rfl
theorem Tryz.Rk:(Tryz.prog.info? 111).map (fun i=>(i.zero,i.size,i.bytes))=some (some (.agg #[ah 0,bP,ah 0,bP,bP,aO,au,au,ah 0,ah 0,au,au,au,au,aO,ah 0,ah 0]),17,256):=by kernel_rfl
theorem StEl (a:St):yP (fun w P cs=>kV w P a cs):=⟨fun _ _ _ _ cs hs hP h=>kV.step hs hP a cs h,fun _ _ _ cs hp h=>kV.mono hp a cs h⟩
def vH (f:Nat) (l:List Tok) (i d:Nat):dO (List St):=(aH l i [123]).bind fun _ j=>nS f l j d []
theorem A8 (f:Nat) (l:List Tok) (i d:Nat):bI (f+1) l i d=if d=40 then fD 2 l i else vH f l i (d+1):=by rw[bI];rfl
def BV (n0 bt:Nat) (w':World) (a:List St):Prop:=∃(v:Value) (xs:List Value),w'.heap[bt]?=some (.cells #[v] 49 (0,0))∧di w' (fun k=>n0≤k) v a.length xs∧iq w' (fun k=>n0≤k) a xs
structure Rl (R:fV) (w:World) (bt d:Nat) (X:World) (i':Nat) (acc:List St) (va:Value) (xs:List Value):Prop where
 rd:bC R X i' d
 blk:X.heap[bt]?=some (.cells #[va] 49 (0,0))
 ow:X.ownsRow w.heap.size 111 17 va acc.length xs
 el:iq X (fun q=>w.heap.size≤q∧va.ownBlock≠some q) acc xs
 st:Step (fun q=>q=R.rb∨q=bt) w X
theorem Rl.read {R:fV} {w:World} {bt d:Nat} {X X':World} {i' i2:Nat} {acc:List St} {va:Value} {xs:List Value} (h:Rl R w bt d X i' acc va xs) (hw:R.rb<w.heap.size) (hb:R.rb≠bt) (hr:bC R X' i2 d) (hs:Step (·=R.rb) X X'):Rl R w bt d X' i2 acc va xs:=
 ⟨hr,hs.keep h.blk (fun e=>hb e.symm),hs.owns h.ow oi,iq.step hs (fun q hq e=>by have:=hq.1;omega) _ _ h.el,h.st.trans (hs.mono il)⟩
theorem KX (R:fV) (f:Nat) (ih:∀f',f'<f→GL f') (hf:f≤1000000) (bp bt:Nat) (w:World) (i d:Nat) (hl:nK R.l) (h:bC R w i d) (hd:d≤40) (hbp:w.heap[bp]?=some (.cells #[dY R.rb 0] 97 (0,0))) (hbt:w.heap[bt]?=some (.cells #[au] 49 (0,0))) (hb1:R.rb<bp) (hb2:bp<bt) (hno:vH f R.l i d≠.out):Calls Tryz.prog 186 #[.pointer (some ⟨bp,0,none⟩),.pointer (some ⟨bt,0,none⟩)] w (aZ R d bt (BV w.heap.size bt) (vH f R.l i d) w):=by
 have HL:=ak hl;have H0:=ak h;have IH:=ak ih;obtain⟨r,hr⟩:=aU (vH f R.l i d);have HRR:Hid (r=(aH R.l i [123]).bind fun _ j=>nS f R.l j d []):=by show _=_;rw[hr];rfl
 rw[←hr]at hno⊢;have eH:=ak hno;have KA:=aI hbt;have BU:=ak hbt;have bY:Hid (∀X:World,Step (fun q=>q=R.rb∨q=bt) w X→X.cell? ⟨bp,0,none⟩=some (.pointer (some ⟨R.rb,0,none⟩))):=by show∀X,_;intro X hX;exact aj (hX.keep hbp om) 0 _ rfl
 obtain⟨j0,hj0,hy0,hy1,hy2⟩:=info_parts Tryz.Rk;have HJ:=ak hj0;have HY0:=ak hy0;have HY1:=ak hy1;have HY2:=ak hy2;have p0:=bY.o w bJ;clear ih hl h hbp hbt hr hno hj0 hy0 hy1 hy2;go_enter Tryz.func186,Tryz.ntmps186;go_wp2_with fail;refine(dH R HL.o w.heap.size ⟨#[123]⟩ _ i d (H0.o.quiet (bJ.alloc _)) dc (aj (aA _ _) 0 _ rfl)).mono ?_;rintro e w2 hp;have hp2:aJ R d iC (aH R.l i [123]) _ e w2:=hp;cases hn:aH R.l i [123]with
 |out=>exact(dw hn).elim
 |err c ln col=>rw[hn]at hp2;obtain⟨rfl,s2⟩:=hp2;refine⟨rfl,aZ.aX (c:=c) (ln:=ln) (col:=col) (by rw[HRR.o,hn];rfl) rfl ?_⟩;exact(((Step.refl (·=R.rb) _).alloc _).trans s2).mono il
 |ok u j=>
  have HN:=ak hn;rw[hn]at hp2;obtain⟨⟨v,rfl,rfl⟩,hr2,s2⟩:=hp2;have HS2:Hid (Step (·=R.rb) w w2):=((Step.refl (·=R.rb) _).alloc _).trans s2;have HR2:=ak hr2;have wX:Hid (r=nS f R.l j d []):=by show _=_;rw[HRR.o,HN.o];rfl
  have pW:=ak (HS2.o.keep BU.o om);clear hn hr2 s2 p0 hp;go_wp2_with fail;go_loopg [] f (fun gg wr=>gg≤f∧∃(i':Nat) (acc:List St) (va:Value) (xs:List Value),r=nS gg R.l i' d acc∧acc.length+gg≤f∧Rl R w bt d wr i' acc va xs);case atStart=>exact⟨Nat.le_refl _,j,[],.slice none 0 0,[],wX.o,by simp,HR2.o,pW.o,World.ownsRow_nil _ _ _ _,by rw[iq],HS2.o.mono il⟩
  case round=>
   obtain⟨hgf,i',acc,va,xs,hrq,hal,hst⟩:=hrel;obtain⟨gn,rfl⟩:∃gn,gk=gn+1:=by
    cases gk with
    |zero=>exact absurd hrq (by rw[nS];exact eH.o)
    |succ gn=>exact⟨gn,rfl⟩
   (have sS:Hid (r=if bD R.l i' [125]then .ok acc (i'+1)else(uY gn R.l i' d).bind fun s j=>nS gn R.l j d (acc++[s])):=by show _=_;rw[hrq,nS]);obtain⟨oa,oc,rfl⟩:=a_ hst.ow;have HST:=ak hst;have p0:=bY.o wr hst.st;clear hrq hst;go_wp2_with fail;cases hb:bD R.l i' [125]with
   |true=>have HB:=ak hb;clear hb;refine(cO R HL.o ⟨#[125]⟩ _ i' d HST.o.rd dc HB.o).mono ?_;rintro e w3 ⟨rfl,hr3,h3⟩;have fJ:=ak (HST.o.read om om hr3 h3);clear hr3 h3 p0;go_wp2_with fail;refine bodyPost_end (results_none rfl _ _ _) rfl ?_;refine aZ.dK (a:=acc) (j:=i'+1) (by rw[sS.o,HB.o,if_pos rfl]) rfl ⟨_,xs,fJ.o.blk,di.fA fJ.o.ow (fun q hq=>(fJ.o.ow.lt q hq).1),iq.mono (fun q _ hq=>hq.1) _ _ fJ.o.el⟩ fJ.o.rd fJ.o.st
   |false=>
    have HB:=ak hb;clear hb;refine(dJ R HL.o ⟨#[125]⟩ _ i' d HST.o.rd dc HB.o).mono ?_;rintro e w3 ⟨rfl,hr3,h3⟩;obtain⟨w4,rfl⟩:=aU w3;have eP:=ak (HST.o.read om om hr3 h3);have FD:=ak (sS.o.trans (Gg HB.o));clear hr3 h3 p0;have IB:Hid (∀X:World,Step (fun q=>q=R.rb∨q=bt∨(Value.slice oa acc.length oc).ownBlock=some q) w4 X→X.cell? ⟨bp,0,none⟩=some (.pointer (some ⟨R.rb,0,none⟩))):=by
     show∀X,_;intro X hX;refine hX.cell (bY.o w4 eP.o.st) (fun e=> ?_);have e2:bp=R.rb∨bp=bt∨(Value.slice oa acc.length oc).ownBlock=some bp:=e;rcases e2 with e2|e2|e2
     ·omega
     ·omega
     ·have:=(eP.o.ow.lt _ e2).1;omega
    have HO:Hid (wY R w4 2 4 5 6 7 8 bt w.heap.size 17 acc.length (.slice oa acc.length oc) xs [Value.int .i64 0,bP,ah 0,bP,bP,aO,au,au,ah 0,ah 0,au,au,au,au,aO,ah 0,ah 0]):=
     ⟨by decide,by decide,by decide,by decide,by decide,by decide,by decide,by decide,by decide,by omega,KA,eP.o.st.size,fun q hq=>eP.o.ow.lt q hq,eP.o.el.len,rfl⟩
    (have Q8:Hid (∀u∈[Value.int .i64 0,bP,ah 0,bP,bP,aO,au,au,ah 0,ah 0,au,au,au,au,aO,ah 0,ah 0],u.oneCell'=true):=by show∀u∈_,_;intro u hu;simp at hu;rcases hu with rfl|rfl|rfl|rfl|rfl|rfl|rfl|rfl|rfl|rfl|rfl|rfl|rfl|rfl|rfl|rfl|rfl<;>rfl);(have hacl:acc.length≤1000000:=by omega);(go_upto_region 2 with fail);cases hx:uY gn R.l i' d with
    |out=>exact absurd (by rw[FD.o,hx];rfl) eH.o
    |err c ln col=>
     have HX:=ak hx;clear hx;obtain⟨sx,-⟩:∃sx:St,sx=jc 0 bU dN [] [] [] [] false MX:=⟨_,rfl⟩;obtain⟨j2,-⟩:∃j2:Nat,j2=0:=⟨_,rfl⟩;have HE:Hid (yP (fun w P cs=>kV w P sx cs)):=StEl sx;have vk:Hid (∀V,jh R i' j2 d w4 2 4 5 6 7 8 bt (fun v=>.cells #[v] 49 (0,0)) w.heap.size 111 17 acc.length (.slice oa acc.length oc) xs [Value.int .i64 0,bP,ah 0,bP,bP,aO,au,au,ah 0,ah 0,au,au,au,au,aO,ah 0,ah 0] (fun w P cs=>kV w P sx cs) [some (.slice oa acc.length oc),some (.agg #[dY R.rb 0]),none,some (.int .i64 (acc.length:Int)),none,none,none,none,none] (fun _=>false) V w4.drew):=fun V=>jh.zero (bJ.drew) eP.o.rd eP.o.ow eP.o.blk;(have vC:Hid (∀X,bC R X i' d→Calls Tryz.prog 187 #[.agg #[dY R.rb 0]] X fun e wq=>e=.panicked [{v:=.iface 251 (.agg #[ah c,ah ln,ah col]),recovered:=false}]∧Step (·=R.rb) X wq):=by show∀X,_;intro X hX;have h9:=IH.o gn om R X i' d HL.o hX hd (by rw[HX.o];intro h;cases h);rw[HX.o]at h9;exact h9);have Dj:Hid (∀X wq:World,Step (fun q=>q=R.rb∨q=bt∨(Value.slice oa acc.length oc).ownBlock=some q) w4 X→Step (·=R.rb) X wq→aZ R d bt (BV w.heap.size bt) r w (.panicked [{v:=.iface 251 (.agg #[ah c,ah ln,ah col]),recovered:=false}]) wq):=by
      show∀X wq,_;intro X wq h1 h2;refine aZ.aX (c:=c) (ln:=ln) (col:=col) (by rw[FD.o,HX.o];rfl) rfl (eP.o.st.then (h1.trans (h2.mono il)) (fun q hq e=> ?_));rcases e with e|e|e
      ·exact .inl e
      ·exact .inr e
      ·have:=(eP.o.ow.lt _ e).1;omega
     refine bH kr (fun L V X=>jh R i' j2 d w4 2 4 5 6 7 8 bt (fun v=>.cells #[v] 49 (0,0)) w.heap.size 111 17 acc.length (.slice oa acc.length oc) xs [Value.int .i64 0,bP,ah 0,bP,bP,aO,au,au,ah 0,ah 0,au,au,au,au,aO,ah 0,ah 0] (fun w P cs=>kV w P sx cs) [some (.slice oa acc.length oc),some (.agg #[dY R.rb 0]),none,some (.int .i64 (acc.length:Int)),none,none,none,none,none] L V X∧L 2=false) 9 rfl kr kr kr kr ?h0 ?hs ?hdone;case h0=>exact⟨vk.o _,rfl⟩
     case hs=>
      refine⟨?_,?_,?_,?_,?_,?_,?_,?_,?_,trivial⟩
      all_goals intro L V X a ev dn hdf hL ax hJ
      ·have o1:=dn 1 rfl;change a.tmps[1]?.getD undef=.pointer (some ⟨bt,0,none⟩)at o1;have hZ:=(hJ.1.Gz (hJ.1.QW dc hL)).1;have hb:=hJ.1.blk;rw[hZ,if_neg dc]at hb;have q0:X.cell? ⟨bt,0,none⟩=some (.slice oa acc.length oc):=aj hb 0 _ rfl;go_simp;exact⟨_,rfl,⟨hJ.1.up 0 dc dc dc dc dc dc rfl,by rw[aB _ dc];exact hJ.2⟩⟩
      ·have o0:=dn 0 rfl;change a.tmps[0]?.getD undef=.pointer (some ⟨bp,0,none⟩)at o0;have p0:=IB.o X hJ.1.st;go_simp;exact⟨_,rfl,⟨hJ.1.up 1 dc dc dc dc dc dc rfl,by rw[aB _ dc];exact hJ.2⟩⟩
      ·have e11:=(ev 1 11 rfl (ax 1 rfl)).trans (hJ.1.gZ 1 _ rfl (ax 1 rfl));have hrd:=hJ.1.rd;rw[hL,if_neg dc]at hrd;go_simp;refine(vC.o X hrd).mono ?_;rintro e wq ⟨rfl,hs⟩;exact⟨hdf,Dj.o X wq hJ.1.st hs⟩
      ·have e10:=(ev 0 10 rfl (ax 0 rfl)).trans (hJ.1.gZ 0 _ rfl (ax 0 rfl));go_simp;exact⟨_,rfl,⟨hJ.1.up 3 dc dc dc dc dc dc rfl,by rw[aB _ dc];exact hJ.2⟩⟩
      ·have hu:=hJ.1.build HE.o HO.o hL rfl;go_simp;exact⟨_,rfl,⟨hu,by rw[aB _ dc];exact hJ.2⟩⟩
      ·have e10:=(ev 0 10 rfl (ax 0 rfl)).trans (hJ.1.gZ 0 _ rfl (ax 0 rfl));exact absurd hJ.2 (by rw[ax 2 rfl];decide)
      ·have e13:=(ev 3 13 rfl (ax 3 rfl)).trans (hJ.1.gZ 3 _ rfl (ax 3 rfl));exact absurd hJ.2 (by rw[ax 2 rfl];decide)
      ·exact absurd hJ.2 (by rw[ax 2 rfl];decide)
      ·have o1:=dn 1 rfl;change a.tmps[1]?.getD undef=.pointer (some ⟨bt,0,none⟩)at o1;exact absurd hJ.2 (by rw[ax 2 rfl];decide)
     case hdone=>intro L V X hall hJ;exact absurd hJ.2 (by rw[hall 2 dc];decide)
    |ok sx j2=>
     have HX:=ak hx;clear hx;have HE:Hid (yP (fun w P cs=>kV w P sx cs)):=StEl sx;have vk:Hid (∀V,jh R i' j2 d w4 2 4 5 6 7 8 bt (fun v=>.cells #[v] 49 (0,0)) w.heap.size 111 17 acc.length (.slice oa acc.length oc) xs [Value.int .i64 0,bP,ah 0,bP,bP,aO,au,au,ah 0,ah 0,au,au,au,au,aO,ah 0,ah 0] (fun w P cs=>kV w P sx cs) [some (.slice oa acc.length oc),some (.agg #[dY R.rb 0]),none,some (.int .i64 (acc.length:Int)),none,none,none,none,none] (fun _=>false) V w4.drew):=fun V=>jh.zero (bJ.drew) eP.o.rd eP.o.ow eP.o.blk;(have vC:Hid (∀X,bC R X i' d→Calls Tryz.prog 187 #[.agg #[dY R.rb 0]] X fun e wq=>(∃v,e=.returned v∧∃cs:List Value,v=.agg cs.toArray∧kV wq (fun q=>X.heap.size≤q) sx cs)∧bC R wq j2 d∧Step (·=R.rb) X wq):=by show∀X,_;intro X hX;have h9:=IH.o gn om R X i' d HL.o hX hd (by rw[HX.o];intro h;cases h);rw[HX.o]at h9;exact h9);have HR8:Hid (r=nS gn R.l j2 d (acc++[sx])):=by show _=_;rw[FD.o,HX.o];rfl
     have kK:Hid (∀(g9 c9:Nat) (yQ:List Value) (X:World),bC R X j2 d→X.heap[bt]?=some (.cells #[.slice (some ⟨g9,0,none⟩) (acc.length+1) c9] 49 (0,0))→X.ownsRow w.heap.size 111 17 (.slice (some ⟨g9,0,none⟩) (acc.length+1) c9) (acc.length+1) (xs++yQ)→kV X (fun q=>w4.heap.size≤q∧q≠g9) sx yQ→((Value.slice oa acc.length oc).ownBlock=some g9∨w4.heap.size≤g9)→Step (fun q=>q=R.rb∨q=bt∨(Value.slice oa acc.length oc).ownBlock=some q) w4 X→
       ∃(KJ:Value) (KL:List Value),Rl R w bt d X j2 (acc++[sx]) KJ KL):=by
      show∀g9 c9 yQ X,_
      intro g9 c9 yQ X h1 h2 h3 h4 h5 h6
      have hlen:(acc++[sx]).length=acc.length+1:=by simp
      refine⟨.slice (some ⟨g9,0,none⟩) (acc.length+1) c9,xs++yQ,h1,h2,by rw[hlen];exact h3,iq.snoc ?_ ?_,eP.o.st.then h6 (fun q hq e=> ?_)⟩
      ·
       refine iq.mono ?_ _ _ (iq.step h6 ?_ _ _ (iq.mono (P':=fun q=>(w.heap.size≤q∧(Value.slice oa acc.length oc).ownBlock≠some q)∧q<w4.heap.size) (fun q h7 h8=>⟨h8,h7⟩) _ _ eP.o.el))
       ·
        intro q _ hq
        refine⟨hq.1.1,fun e=> ?_⟩
        have e2:g9=q:=Option.some.inj e
        rcases h5 with h5|h5
        ·
         exact hq.1.2 (by rw[←e2];exact h5)
        ·
         have:=hq.2;omega
       ·
        intro q hq e
        rcases e with e|e|e
        ·
         have:=hq.1.1;omega
        ·
         have:=hq.1.1;omega
        ·
         exact hq.1.2 e
      ·
       exact kV.mono (fun q _ hq=>⟨Nat.le_trans eP.o.st.size hq.1,fun e=>hq.2 (Option.some.inj e).symm⟩) _ _ h4
      ·
       rcases e with e|e|e
       ·
        exact .inl e
       ·
        exact .inr e
       ·
        have:=(eP.o.ow.lt _ e).1;omega
     refine bH kr (jh R i' j2 d w4 2 4 5 6 7 8 bt (fun v=>.cells #[v] 49 (0,0)) w.heap.size 111 17 acc.length (.slice oa acc.length oc) xs [Value.int .i64 0,bP,ah 0,bP,bP,aO,au,au,ah 0,ah 0,au,au,au,au,aO,ah 0,ah 0] (fun w P cs=>kV w P sx cs) [some (.slice oa acc.length oc),some (.agg #[dY R.rb 0]),none,some (.int .i64 (acc.length:Int)),none,none,none,none,none]) 9 rfl kr kr kr kr ?h0 ?hs ?hdone;case h0=>exact vk.o _
     case hs=>
      refine⟨?_,?_,?_,?_,?_,?_,?_,?_,?_,trivial⟩
      all_goals intro L V X a ev dn hdf hL ax hJ
      ·have o1:=dn 1 rfl;change a.tmps[1]?.getD undef=.pointer (some ⟨bt,0,none⟩)at o1;have hZ:=(hJ.Gz (hJ.QW dc hL)).1;have hb:=hJ.blk;rw[hZ,if_neg dc]at hb;have q0:X.cell? ⟨bt,0,none⟩=some (.slice oa acc.length oc):=aj hb 0 _ rfl;go_simp;exact⟨_,rfl,hJ.up 0 dc dc dc dc dc dc rfl⟩
      ·have o0:=dn 0 rfl;change a.tmps[0]?.getD undef=.pointer (some ⟨bp,0,none⟩)at o0;have p0:=IB.o X hJ.st;go_simp;exact⟨_,rfl,hJ.up 1 dc dc dc dc dc dc rfl⟩
      ·have e11:=(ev 1 11 rfl (ax 1 rfl)).trans (hJ.gZ 1 _ rfl (ax 1 rfl));have hrd:=hJ.rd;rw[hL,if_neg dc]at hrd;go_simp;refine(vC.o X hrd).mono ?_;rintro e wq ⟨⟨v,rfl,cs,rfl,hty⟩,hr,hs⟩;exact⟨_,rfl,hJ.call HE.o HO.o hL rfl hs hr hty⟩
      ·have e10:=(ev 0 10 rfl (ax 0 rfl)).trans (hJ.gZ 0 _ rfl (ax 0 rfl));go_simp;exact⟨_,rfl,hJ.up 3 dc dc dc dc dc dc rfl⟩
      ·have hu:=hJ.build HE.o HO.o hL rfl;go_simp;exact⟨_,rfl,hu⟩
      ·have e10:=(ev 0 10 rfl (ax 0 rfl)).trans (hJ.gZ 0 _ rfl (ax 0 rfl));have e14:=ev 4 14 rfl (ax 4 rfl);obtain⟨zb,z1,z2,z3⟩:=hJ.bl (ax 4 rfl) hL;have hall:∀i,i<5→L i=true:=by
        intro i hi;rcases(show i=0∨i=1∨i=2∨i=3∨i=4 by omega)with rfl|rfl|rfl|rfl|rfl
        ·exact ax 0 rfl
        ·exact ax 1 rfl
        ·exact ax 2 rfl
        ·exact ax 3 rfl
        ·exact ax 4 rfl
       refine fF _ X.heap.size (.tmp 10) (.tmp 14) 49 rfl w.heap.size 111 j0 (.agg #[ah 0,bP,ah 0,bP,bP,aO,au,au,ah 0,ah 0,au,au,au,au,aO,ah 0,ah 0]) 17 256 Tryz.underlying49 HJ.o HY0.o HY1.o HY2.o rfl dc _ _ _ (by rw[bF];exact e10) (hJ.old hL) (V 4) 1 _ (by rw[bF];exact e14) (by rw[z1];exact(Row.new z3 dc).mono (aI z3)) rfl Q8.o (by unfold maxLen;omega) om (Nat.le_trans HO.o.bw hJ.st.size) ?_;intro v8 w8 oU lJ Aa;exact⟨v8,rfl,hJ.app HE.o HO.o hL hall rfl oU lJ Aa⟩
      ·have e13:=(ev 3 13 rfl (ax 3 rfl)).trans (hJ.gZ 3 _ rfl (ax 3 rfl));have e15:=ev 5 15 rfl (ax 5 rfl);obtain⟨g,c,hV,-⟩:=hJ.new (ax 5 rfl);rw[hV]at e15;(have hi0:(0:Int)≤(acc.length:Int):=by omega);(have hi1:(acc.length:Int)<((acc.length+1:Nat):Int):=by omega);(have hi2:(acc.length:Int)<(acc.length:Int)+1:=by omega);have hu:=hJ.index HO.o (ax 5 rfl) rfl hV;go_simp;exact⟨_,rfl,hu⟩
      ·have h8:=ax 5 rfl;have h9:=ax 6 rfl;have h5:=ax 2 rfl;obtain⟨g,c,hV,-,ys,hown,-⟩:=hJ.new h8;have ep:=(ev 6 16 rfl h9).trans ((hJ.ix h9).2 g c hV);obtain⟨cs,c1,c2⟩:=hJ.el h5;have ec:=(ev 2 12 rfl h5).trans c1;rw[hV]at hown;obtain⟨g',c',cur,hg',-,hcur,hsz⟩:=tK hown om;cases hg';have hcl:cs.length=17:=kV.len c2;refine dM 111 (.tmp 16) (.tmp 12) rfl g (acc.length*17) 111 cur cs (by rw[bF];exact ep) (by rw[bF];exact ec) hcur (by rw[hcl];exact Tryz.eF) om (kV.one c2) ?_;intro w6 hb6 hs6;exact⟨undef,rfl,hJ.put HE.o HO.o h8 (fun u hu=>by cases hu) hV c1 hcl hcur hb6 hs6⟩
      ·have o1:=dn 1 rfl;change a.tmps[1]?.getD undef=.pointer (some ⟨bt,0,none⟩)at o1;have h8:=ax 5 rfl;have ev8:=ev 5 15 rfl h8;obtain⟨g,c,hV,-⟩:=hJ.new h8;rw[hV]at ev8;have hb:=hJ.blk;rw[hL,if_neg dc]at hb;have q5:=aj hb 0 _ rfl;have z5:=aG hb 0;have hu:=hJ.last (X':=X.setCell ⟨bt,0,none⟩ (.slice (some ⟨g,0,none⟩) (acc.length+1) c)) HE.o HO.o h8 (fun u hu=>by cases hu) (by rw[hV];exact aV hb 0 _) (bJ.setCell _ _ iI);go_simp;exact⟨undef,hu⟩
     case hdone=>
      intro L V X hall hJ;obtain⟨g9,c9,yQ,Ov,Ox,gG,Oy,Oz,wJ,hgb9⟩:=hJ.done ⟨hall 2 dc,hall 5 dc,hall 7 dc,hall 8 dc⟩;rw[show List.range 9=[0,1,2,3,4,5,6,7,8] from rfl];simp only[kC,fU,List.getElem?_toArray,List.getElem?_cons_zero,List.getElem?_cons_succ,Option.bind_some,Act.put,List.setIfInBounds_toArray,List.set_cons_zero,List.set_cons_succ];clear hJ hall;obtain⟨KJ,KL,hls⟩:=kK.o g9 c9 yQ X Ov Ox gG Oy Oz wJ;have jk:=ak hls;clear hls Ov Ox gG Oy Oz wJ;(have hlen:(acc++[sx]).length=acc.length+1:=by simp);(have hal2:(acc++[sx]).length+gn≤f:=by omega);go_wp2_with fail;go_roundg gn;case rel=>exact⟨by omega,j2,acc++[sx],KJ,KL,HR8.o,hal2,jk.o⟩
      case measure=>omega
theorem xg:Enters 186:=fun xs w=>by go_simp
theorem KY (f:Nat) (ih:∀f',f'<f→GL f') (hf:f≤1000000):lD (f+1):=by
 intro R w i d hl h hd hno;have hmf:∀(fn:Fn) (first cap:Array Value) (w:World),(Instr.makeFunc fn first cap).run Tryz.prog w=.ok (.func fn first cap) w:=fun _ _ _ _=>rfl;have HL:=ak hl;have H0:=ak h;have eH:=ak hno;obtain⟨r,hr⟩:=aU (bI (f+1) R.l i d);have HRR:=ak hr;rw[←hr];have pY:=aI h.blk;obtain⟨w3,hw3⟩:=aU ((w.alloc (.cells #[dY R.rb 0] 97)).alloc (.cells #[au] 49));have eX:Hid (Step (fun _=>False) w w3):=by show Step _ _ _;rw[hw3];exact(bJ.alloc _).alloc _
 have wH:Hid (w3.heap[w.heap.size]?=some (.cells #[dY R.rb 0] 97 (0,0))):=by show _=_;rw[hw3];exact aN (aA _ _)
 have HB3:Hid (w3.heap[w.heap.size+1]?=some (.cells #[au] 49 (0,0))):=by show _=_;rw[hw3];exact dX _ _ _
 have HW3:=ak hw3;have H3:=ak (h.quiet eX.o);have hlt3:=aI HB3.o;have p0:w3.cell? ⟨w.heap.size,0,none⟩=some (.pointer (some ⟨R.rb,0,none⟩)):=aj wH.o 0 _ rfl;obtain⟨t,ht⟩:=aU (tokA R.l i);have HT:=ak ht;obtain⟨bt,hbt⟩:=aU (w.heap.size+1);have Y7:=ak hbt;have hbt0:w.heap.size<bt:=by omega
 have hbt1:bt<w3.heap.size:=by omega
 rw[←hbt]at HB3;have HIH:=ak ih;clear ih hl h hno hr hw3 ht hbt;go_enter Tryz.func146,Tryz.ntmps146;go_upto_region 2 with fail
 rw[←HW3.o,←Y7.o];go_wp2_with fail;by_cases QS:d=40
 ·refine(xI R _ [.pointer (some ⟨w.heap.size,0,none⟩),.pointer (some ⟨bt,0,none⟩)] w3 i d t H3.o (by rw[HT.o];exact H3.o.tok) QS).mono ?_;rintro e w4 ⟨rfl,h4⟩;refine⟨rfl,?_⟩;rw[HRR.o,A8,if_pos QS,fD,←HT.o];exact⟨rfl,(eX.o.trans h4).mono fe⟩
 ·have rM:Hid (r=vH f R.l i (d+1)):=by show _=_;rw[HRR.o,A8,if_neg QS]
  have hnb:vH f R.l i (d+1)≠.out:=fun e=>eH.o (by rw[←HRR.o,rM.o,e]);have Ja:Hid (∀X,bC R X i (d+1)→Step (·=R.rb) w3 X→Calls Tryz.prog 186 #[.pointer (some ⟨w.heap.size,0,none⟩),.pointer (some ⟨bt,0,none⟩)] X (aZ R (d+1) bt (BV X.heap.size bt) (vH f R.l i (d+1)) X)):=by show∀X,_;intro X hX hs;exact KX R f HIH.o hf w.heap.size bt X i (d+1) HL.o hX om (hs.keep wH.o om) (hs.keep HB3.o om) om om hnb
  have Jb:d<40:=by omega
  cases hb:vH f R.l i (d+1)with
  |out=>exact absurd hb hnb
  |err c ln col=>
   have HB:=ak hb;clear hb;refine(Df R _ [.pointer (some ⟨w.heap.size,0,none⟩),.pointer (some ⟨bt,0,none⟩)] w3 i d (Q:=fun X=>Step (fun k=>k=R.rb∨k=bt) w3 X) (hk:=xg) (h:=H3.o) (hd:=Jb) (hby:=fun X hX hs=> ?_) (es:=[{v:=.iface 251 (.agg #[ah c,ah ln,ah col]),recovered:=false}])).mono ?_
   ·refine(Ja.o X hX hs).mono ?_;intro e X2 hp;rw[HB.o]at hp;exact⟨hp.1,(hs.mono il).trans hp.2⟩
   ·rintro e w4 ⟨rfl,h4⟩;refine⟨rfl,?_⟩;rw[rM.o,HB.o];exact⟨rfl,(eX.o.mono fe).then h4 oi⟩
  |ok a j=>
   have HB:=ak hb;clear hb;refine(Gu R _ [.pointer (some ⟨w.heap.size,0,none⟩),.pointer (some ⟨bt,0,none⟩)] w3 i d (fun i' X=>i'=j∧BV w3.heap.size bt X a∧Step (fun k=>k=R.rb∨k=bt) w3 X) xg H3.o Jb (fun X hX hs=> ?_)).mono ?_
   ·refine(Ja.o X hX hs).mono ?_;intro e X2 hp;rw[HB.o]at hp;obtain⟨he,⟨v,xs,hc,hrw,hts⟩,hr,hs2⟩:=hp;have hz:=hs.size;exact⟨he,j,hr,rfl,⟨v,xs,hc,hrw.mono oi,iq.mono oi _ _ hts⟩,(hs.mono il).trans hs2⟩
   ·rintro e w4 ⟨rfl,i',X,⟨rfl,⟨v,xs,hc,hrw,hts⟩,hsx⟩,hr4,hs4⟩;have hb4:=hs4.keep hc om;have Y8:=hrw.step hs4 oi;have hts4:=iq.step hs4 oi _ _ hts;obtain⟨av,cv,rfl,-⟩:=id Y8;have HR4:=ak hr4;have HRW:=ak Y8;have HTS:=ak hts4;have wI:Hid (Step (fun k=>k=R.rb∨k=bt) w3 w4):=hsx.trans (hs4.mono il);have q0:=aj hb4 0 _ rfl;clear hc hrw hts hsx hr4 hs4 hb4 Y8 hts4 p0;go_wp2_with fail;go_ret;rw[rM.o,HB.o];have hz3:=eX.o.size;refine⟨⟨_,rfl,xs,HRW.o.mono oi,iq.mono oi _ _ HTS.o⟩,HR4.o,?_⟩;exact(eX.o.mono fe).then wI.o oi
def Na (n0 bt:Nat) (t:Tok) (w':World) (a:ByteArray×Ty×List Ex):Prop:=∃(ct xe:List Value) (ve:Value),w'.heap[bt]?=some (.cells ([Value.int .i64 1,aY a.1]++ct++[Value.slice none 0 0,ve,.slice none 0 0,.slice none 0 0,.bool false,.int .i64 t.line,.int .i64 t.col]).toArray 111 (0,0))∧
 a.1.size≤9223372036854775807∧iG w' (fun k=>n0≤k) a.2.1 ct∧dG w' (fun k=>n0≤k) a.2.2 xe∧di w' (fun k=>n0≤k) ve a.2.2.length xe
def Nb (f:Nat):Prop:=∀(R:fV) (w:World) (i d bt:Nat) (t:Tok),nK R.l→bC R w i d→d≤40→R.rb<bt→w.heap[bt]?=some (.cells #[ah 0,aK,ah 0,aK,aK,aO,au,au,ah 0,ah 0,au,au,au,au,aO,ah t.line,ah t.col] 111 (0,0))→zT f R.l i d≠.out→
 Calls Tryz.prog 206 #[.agg #[dY R.rb 0],.pointer (some ⟨bt,0,none⟩)] w (aZ R d bt (Na w.heap.size bt t) (zT f R.l i d) w)
theorem qi (w:World) (P:Nat→Prop):iG w P dN [.int .i64 0,.string bU,.string bU,.bool false,.slice none 0 0,.slice none 0 0,.int .i64 0,.int .i64 0]:=by rw[dN,iG];exact⟨_,_,[],rfl,by decide,by decide,nJ,di.nil _ _ _,by rw[fP],di.nil _ _ _⟩
theorem Rn (f:Nat) (ih:mW f):Nb (f+1):=by
 intro R w i d bt t hl h hd hrb hbt hno;have HL:=ak hl;have HEX:Hid (∀X j,bC R X j d→bf f R.l j d 0≠.out→Calls Tryz.prog 77 #[.agg #[dY R.rb 0]] X (aJ R d (J8 X.heap.size) (bf f R.l j d 0) X)):=fun X j hX hn=>kZ f ih R X j d hl hX hd hn;obtain⟨r,hr⟩:=aU (zT (f+1) R.l i d)
 have HRR:Hid (r=(aS R.l i).bind fun n j=>(if bD R.l j [58]then jT f R.l (j+1) d else .ok dN j).bind fun ty j=>
  (if bD R.l j [61]then(bf f R.l (j+1) d 0).bind fun x j=>.ok [x] j else .ok [] j).bind fun e j=>(aH R.l j [59]).bind fun _ j=>.ok (n,ty,e) j):=by show _=_;rw[hr,zT]
 rw[←hr]at hno⊢;have eH:=ak hno;have KA:=aI hbt;obtain⟨w1,hw1⟩:=aU (w.alloc (.cells #[dY R.rb 0] 97));have cZ:Hid (Step (fun _=>False) w w1):=by show Step _ _ _;rw[hw1];exact bJ.alloc _
 have jL:Hid (w1.heap[w.heap.size]?=some (.cells #[dY R.rb 0] 97 (0,0))):=by show _=_;rw[hw1];exact aA _ _
 have EG:=ak (cZ.o.keep hbt (fun h=>h));have HW1:=ak hw1;have H1:=ak (h.quiet cZ.o);have hn1:=aI jL.o;have bY:Hid (∀X:World,Step (fun q=>q=R.rb∨q=bt) w1 X→X.cell? ⟨w.heap.size,0,none⟩=some (.pointer (some ⟨R.rb,0,none⟩))):=by show∀X,_;intro X hX;exact aj (hX.keep jL.o om) 0 _ rfl
 have p0:=bY.o w1 bJ;clear ih hl h hno hr hw1 hbt;go_enter Tryz.func206,Tryz.ntmps206;go_upto_region 1 with fail
 rw[←HW1.o];go_wp2_with fail;cases hn:aS R.l i with
 |out=>exact(iF hn).elim
 |err c ln col=>have HN:=ak hn;clear hn;refine(name_any R HL.o _ i d H1.o).mono ?_;rintro e wq hp;rw[HN.o]at hp;obtain⟨rfl,sq⟩:=hp;refine⟨rfl,aZ.aX (c:=c) (ln:=ln) (col:=col) (by rw[HRR.o,HN.o];rfl) rfl ?_⟩;exact((cZ.o.mono fe).trans sq).mono il
 |ok nm j=>
  have HN:=ak hn;have OJ:=ak (fC HL.o H1.o.lt hn);clear hn;refine(name_any R HL.o _ i d H1.o).mono ?_;rintro e w2 hp;rw[HN.o]at hp;obtain⟨⟨v,rfl,rfl⟩,hr2,s2⟩:=hp;have HR2:=ak hr2;have HS2:=ak s2;have pW:=ak (s2.keep EG.o om)
  have wX:Hid (r=(if bD R.l j [58]then jT f R.l (j+1) d else .ok dN j).bind fun ty j=>
   (if bD R.l j [61]then(bf f R.l (j+1) d 0).bind fun x j=>.ok [x] j else .ok [] j).bind fun e j=>(aH R.l j [59]).bind fun _ j=>.ok (nm,ty,e) j):=by show _=_;rw[HRR.o,HN.o];rfl
  have mQ:=aj pW.o 0 _ rfl;have mV:=aG pW.o 0;have ED:=aj pW.o 1 _ rfl;have EF:=aG pW.o 1;obtain⟨w3,hw3⟩:=aU ((w2.setCell ⟨bt,0,none⟩ (.int .i64 1)).setCell ⟨bt,1,none⟩ (.string nm));have eX:Hid (Step (·=bt) w2 w3):=by show Step _ _ _;rw[hw3];exact((Step.refl (·=bt) _).setCell _ _ iI).setCell _ _ iI
  have I_:Hid (w3.heap[bt]?=some (.cells #[ah 1,aY nm,ah 0,aK,aK,aO,au,au,ah 0,ah 0,au,au,au,au,aO,ah t.line,ah t.col] 111 (0,0))):=by show _=_;rw[hw3];exact aV (aV pW.o 0 (.int .i64 1)) 1 (.string nm)
  have nN:Hid (Step (fun q=>q=R.rb∨q=bt) w1 w3):=(HS2.o.mono il).trans (eX.o.mono ir);have HR3:=ak (HR2.o.step eX.o oi);clear hr2 s2 p0;go_upto_region 2 with fail
  rw[←hw3];clear hw3 mQ mV ED EF;have p0:=bY.o w3 nN.o;obtain⟨b1,hb1⟩:=aU (bD R.l j [58]);obtain⟨j1,hj1⟩:=aU (iL R.l j [58]);have HI1:Hid (Calls Tryz.prog 110 #[.pointer (some ⟨R.rb,0,none⟩),.string ⟨#[58]⟩] w3 fun e w'=>e=.returned (.bool b1)∧bC R w' j1 d∧Step (·=R.rb) w3 w'):=by show Calls _ _ _ _ _;rw[hb1,hj1];exact rF R HL.o ⟨#[58]⟩ w3 j d HR3.o dc
  have HB1:=ak hb1;have HJ1:=ak hj1;clear hb1 hj1;go_wp2_with fail;refine HI1.o.mono ?_;rintro e w4 ⟨rfl,hr4,h4⟩;have HR4:=ak hr4;have Dp:Hid (Step (fun q=>q=R.rb∨q=bt) w1 w4):=nN.o.trans (h4.mono il);have pX:Hid (w4.heap[bt]?=some (.cells #[ah 1,aY nm,ah 0,aK,aK,aO,au,au,ah 0,ah 0,au,au,au,au,aO,ah t.line,ah t.col] 111 (0,0))):=h4.keep I_.o om;clear hr4 h4 p0;have p0:=bY.o w4 Dp.o;have hz1:=cZ.o.size;go_upto_if 15 with fail
  go_cut [] (fun wx=>∃(ty:Ty) (jt:Nat) (ct:List Value),r=((if bD R.l jt [61]then(bf f R.l (jt+1) d 0).bind fun x j=>.ok [x] j else .ok [] jt).bind fun e j=>(aH R.l j [59]).bind fun _ j=>.ok (nm,ty,e) j)∧iG wx (fun q=>w.heap.size≤q) ty ct∧
   wx.heap[bt]?=some (.cells ([Value.int .i64 1,aY nm]++ct++[Value.slice none 0 0,.slice none 0 0,.slice none 0 0,.slice none 0 0,.bool false,.int .i64 t.line,.int .i64 t.col]).toArray 111 (0,0))∧bC R wx jt d∧Step (fun q=>q=R.rb∨q=bt) w1 wx)
  case first=>
   cases b1 with
   |false=>(have hj:j1=j:=by rw[HJ1.o,iL,←HB1.o,if_neg dc]);(have rM:Hid (r=((if bD R.l j1 [61]then(bf f R.l (j1+1) d 0).bind fun x j=>.ok [x] j else .ok [] j1).bind fun e j=>(aH R.l j [59]).bind fun _ j=>.ok (nm,dN,e) j)):=by show _=_;rw[wX.o,←HB1.o,if_neg dc,hj];rfl);clear hj;go_wp2_with fail;go_meet;case rel=>exact⟨dN,j1,_,rM.o,qi _ _,pX.o,HR4.o,Dp.o⟩
   |true=>
    (have hj:j1=j+1:=by rw[HJ1.o,iL,←HB1.o,if_pos rfl]);(have rM:Hid (r=(jT f R.l j1 d).bind fun ty j=>(if bD R.l j [61]then(bf f R.l (j+1) d 0).bind fun x j=>.ok [x] j else .ok [] j).bind fun e j=>(aH R.l j [59]).bind fun _ j=>.ok (nm,ty,e) j):=by show _=_;rw[wX.o,←HB1.o,if_pos rfl,hj]);clear hj;go_wp2_with fail;cases hx:jT f R.l j1 d with
    |out=>exact absurd (by rw[rM.o,hx];rfl) eH.o
    |err c ln col=>have HX:=ak hx;clear hx;refine((GI f).1 R _ j1 d HL.o HR4.o hd (by rw[HX.o];intro h;cases h)).mono ?_;rintro e wq hp;rw[HX.o]at hp;obtain⟨rfl,sq⟩:=hp;refine⟨rfl,aZ.aX (c:=c) (ln:=ln) (col:=col) (by rw[rM.o,HX.o];rfl) rfl ?_⟩;exact((cZ.o.mono fe).trans Dp.o).trans (sq.mono il)
    |ok ty jt=>
     have HX:=ak hx;clear hx;refine((GI f).1 R _ j1 d HL.o HR4.o hd (by rw[HX.o];intro h;cases h)).mono ?_;rintro e wx hp;rw[HX.o]at hp;obtain⟨⟨v,rfl,ct,rfl,hty⟩,hrx,hsx⟩:=hp;have QT:=ak hty;have dS:=ak hty.one;obtain⟨k0,gX,lf0,gY,a1,n1,c1,a2,n2,c2,l0,c0,rfl⟩:=hty.parts;have u_:=ak hrx;have pF:=ak hsx;have lT:=ak (hsx.keep pX.o om);(have IE:Hid (r=((if bD R.l jt [61]then(bf f R.l (jt+1) d 0).bind fun x j=>.ok [x] j else .ok [] jt).bind fun e j=>(aH R.l j [59]).bind fun _ j=>.ok (nm,ty,e) j)):=by show _=_;rw[rM.o,HX.o];rfl);have hz4:=Dp.o.size;clear hty hrx hsx p0
     go_wp2_with (refine aC (w:=wx) rfl 46 (.tmp 20) (.tmp 18) rfl bt 2 111 _ [.int .i64 k0,.string gX,.string lf0,.bool gY,.slice a1 n1 c1,.slice a2 n2 c2,.int .i64 l0,.int .i64 c0] rfl rfl lT.o Tryz.fM (show 2+8≤17 by decide) dS.o ?_
                  intro w6 hb6 vF)
     have FB:=ak hb6;have wB:=ak vF;clear hb6 vF;go_meet;case rel=>exact⟨ty,jt,[.int .i64 k0,.string gX,.string lf0,.bool gY,.slice a1 n1 c1,.slice a2 n2 c2,.int .i64 l0,.int .i64 c0],IE.o,iG.mono oi _ _ (iG.step wB.o oi _ _ QT.o),FB.o,u_.o.step wB.o oi,(Dp.o.trans (pF.o.mono il)).trans (wB.o.mono ir)⟩
  case rest=>
   obtain⟨ty,jt,ct,Jf,Y9,hb5,hrd5,hs5⟩:=hcut;obtain⟨w5,rfl⟩:=aU wc;obtain⟨k0,gX,lf0,gY,a1,n1,c1,a2,n2,c2,l0,c0,rfl⟩:=Y9.parts;have M_:=ak Jf;have HTY5:=ak Y9;have Oo:Hid (w5.heap[bt]?=some (.cells #[ah 1,aY nm,ah k0,aY gX,aY lf0,dV gY,.slice a1 n1 c1,.slice a2 n2 c2,ah l0,ah c0,au,au,au,au,aO,ah t.line,ah t.col] 111 (0,0))):=hb5;have HRD5:=ak hrd5;have HS15:=ak hs5;clear Jf Y9 hb5 hrd5 hs5 p0;have p0:=bY.o w5 HS15.o;obtain⟨b2,hb2⟩:=aU (bD R.l jt [61]);obtain⟨j2,hj2⟩:=aU (iL R.l jt [61]);(have HI2:Hid (Calls Tryz.prog 110 #[.pointer (some ⟨R.rb,0,none⟩),.string ⟨#[61]⟩] w5 fun e w'=>e=.returned (.bool b2)∧bC R w' j2 d∧Step (·=R.rb) w5 w'):=by show Calls _ _ _ _ _;rw[hb2,hj2];exact rF R HL.o ⟨#[61]⟩ w5 jt d HRD5.o dc);have HB2:=ak hb2;have HJ2:=ak hj2;clear hb2 hj2;go_wp2_with fail;refine HI2.o.mono ?_;rintro e w6 ⟨rfl,n_,h6⟩;have yR:=ak n_;have Ro:Hid (Step (fun q=>q=R.rb∨q=bt) w1 w6):=HS15.o.trans (h6.mono il);have wG:Hid (w6.heap[bt]?=some (.cells #[ah 1,aY nm,ah k0,aY gX,aY lf0,dV gY,.slice a1 n1 c1,.slice a2 n2 c2,ah l0,ah c0,au,au,au,au,aO,ah t.line,ah t.col] 111 (0,0))):=h6.keep Oo.o om;have HTY6:Hid (iG w6 (fun q=>w.heap.size≤q) ty [.int .i64 k0,.string gX,.string lf0,.bool gY,.slice a1 n1 c1,.slice a2 n2 c2,.int .i64 l0,.int .i64 c0]):=iG.step h6 oi _ _ HTY5.o;clear n_ h6 p0;have p0:=bY.o w6 Ro.o;go_upto_if 23 with fail
   go_cut [] (fun wx=>∃(el:List Ex) (je:Nat) (ae:Option Addr) (ce:Nat) (xe:List Value),r=((aH R.l je [59]).bind fun _ j=>.ok (nm,ty,el) j)∧iG wx (fun q=>w.heap.size≤q) ty [.int .i64 k0,.string gX,.string lf0,.bool gY,.slice a1 n1 c1,.slice a2 n2 c2,.int .i64 l0,.int .i64 c0]∧dG wx (fun q=>w.heap.size≤q) el xe∧di wx (fun q=>w.heap.size≤q) (.slice ae el.length ce) el.length xe∧
    wx.heap[bt]?=some (.cells #[ah 1,aY nm,ah k0,aY gX,aY lf0,dV gY,.slice a1 n1 c1,.slice a2 n2 c2,ah l0,ah c0,au,.slice ae el.length ce,au,au,aO,ah t.line,ah t.col] 111 (0,0))∧bC R wx je d∧Step (fun q=>q=R.rb∨q=bt) w1 wx)
   case first=>
    cases b2 with
    |false=>(have hj:j2=jt:=by rw[HJ2.o,iL,←HB2.o,if_neg dc]);(have rM:Hid (r=((aH R.l j2 [59]).bind fun _ j=>.ok (nm,ty,[]) j)):=by show _=_;rw[M_.o,←HB2.o,if_neg dc,hj];rfl);clear hj;go_wp2_with fail;go_meet;case rel=>exact⟨[],j2,none,0,[],rM.o,HTY6.o,by rw[dG],di.nil _ _ _,wG.o,yR.o,Ro.o⟩
    |true=>
     (have hj:j2=jt+1:=by rw[HJ2.o,iL,←HB2.o,if_pos rfl]);(have rM:Hid (r=(bf f R.l j2 d 0).bind fun x j=>(aH R.l j [59]).bind fun _ j=>.ok (nm,ty,[x]) j):=by show _=_;rw[M_.o,←HB2.o,if_pos rfl,hj];cases bf f R.l (jt+1) d 0<;>rfl);clear hj;go_wp2_with fail;cases hx:bf f R.l j2 d 0 with
     |out=>exact absurd (by rw[rM.o,hx];rfl) eH.o
     |err c ln col=>have HX:=ak hx;clear hx;refine(HEX.o _ j2 yR.o (by rw[HX.o];intro h;cases h)).mono ?_;rintro e wq hp;rw[HX.o]at hp;obtain⟨rfl,sq⟩:=hp;refine⟨rfl,aZ.aX (c:=c) (ln:=ln) (col:=col) (by rw[rM.o,HX.o];rfl) rfl ?_⟩;exact((cZ.o.mono fe).trans Ro.o).trans (sq.mono il)
     |ok x jx=>have HX:=ak hx;clear hx;refine(HEX.o _ j2 yR.o (by rw[HX.o];intro h;cases h)).mono ?_;rintro e wx hp;rw[HX.o]at hp;obtain⟨⟨v,rfl,cs,rfl,hy⟩,hrx,hsx⟩:=hp;have HY:=ak hy;obtain⟨k5,nm5,v5,Jh,b1,m1,d1,b2,m2,d2,b3,m3,d3,l5,c5,rfl⟩:=hy.parts;have u_:=ak hrx;have pF:=ak hsx;(have IE:Hid (r=((aH R.l jx [59]).bind fun _ j=>.ok (nm,ty,[x]) j)):=by show _=_;rw[rM.o,HX.o];rfl);obtain⟨w7,hw7⟩:=aU (wx.alloc (.cells #[ah k5,aY nm5,bK v5,dV Jh,.slice b1 m1 d1,.slice b2 m2 d2,.slice b3 m3 d3,ah l5,ah c5] 56));(have U1:Hid (Step (fun _=>False) wx w7):=by show Step _ _ _;rw[hw7];exact bJ.alloc _);(have HK7:Hid (w7.heap[wx.heap.size]?=some (.cells #[ah k5,aY nm5,bK v5,dV Jh,.slice b1 m1 d1,.slice b2 m2 d2,.slice b3 m3 d3,ah l5,ah c5] 56 (0,0))):=by show _=_;rw[hw7];exact aA _ _);have Vx:=U1.o.keep (pF.o.keep wG.o om) (fun h=>h);have KZ:=aj Vx 11 _ rfl;have K_:=aG Vx 11;have hz6:=Ro.o.size;have hzx:=pF.o.size;obtain⟨w8,hw8⟩:=aU (w7.setCell ⟨bt,11,none⟩ (.slice (some ⟨wx.heap.size,0,none⟩) 1 1));(have La:Hid (Step (·=bt) w7 w8):=by show Step _ _ _;rw[hw8];exact bJ.setCell _ _ iI);(have HBT8:Hid (w8.heap[bt]?=some (.cells #[ah 1,aY nm,ah k0,aY gX,aY lf0,dV gY,.slice a1 n1 c1,.slice a2 n2 c2,ah l0,ah c0,au,.slice (some ⟨wx.heap.size,0,none⟩) 1 1,au,au,aO,ah t.line,ah t.col] 111 (0,0))):=by show _=_;rw[hw8];exact aV Vx 11 _);have HK8:=ak (La.o.keep HK7.o om);rw[hw7]at KZ K_;clear Vx hy hrx hsx p0;go_wp2_with fail;rw[←hw7,←hw8];clear KZ K_ hw7 hw8;have hs68:Step (fun q=>q=R.rb∨q=bt) wx w8:=(U1.o.mono fe).trans (La.o.mono ir);have hs66:Step (fun q=>q=R.rb∨q=bt) w6 w8:=(pF.o.mono il).trans hs68;go_meet;case rel=>exact⟨[x],jx,_,1,[.int .i64 k5,.string nm5,.int .u64 v5,.bool Jh,.slice b1 m1 d1,.slice b2 m2 d2,.slice b3 m3 d3,.int .i64 l5,.int .i64 c5],IE.o,iG.step hs66 oi _ _ HTY6.o,dG.single (dW.mono oi _ _ (dW.step hs68 oi _ _ HY.o)),di.new HK8.o (by simp) om,HBT8.o,(u_.o.quiet U1.o).step La.o oi,Ro.o.trans hs66⟩
   case rest=>
    obtain⟨el,je,ae,ce,xe,XA,hty7,hex7,hrw7,hb7,hrd7,hs7⟩:=hcut;obtain⟨w7,rfl⟩:=aU wc;have HR7:=ak XA;have HTY7:=ak hty7;have HEX7:=ak hex7;have HRW7:=ak hrw7;have HBT7:=ak hb7;have HRD7:=ak hrd7;have Y_:=ak hs7;clear XA hty7 hex7 hrw7 hb7 hrd7 hs7 p0;have p0:=bY.o w7 Y_.o;go_wp2_with fail;refine(dH R HL.o w7.heap.size ⟨#[59]⟩ _ je d (HRD7.o.quiet (bJ.alloc _)) dc (aj (aA _ _) 0 _ rfl)).mono ?_;rintro e w8 hp;have hp2:aJ R d iC (aH R.l je [59]) _ e w8:=hp;cases hn:aH R.l je [59]with
    |out=>exact(dw hn).elim
    |err c ln col=>rw[hn]at hp2;obtain⟨rfl,s8⟩:=hp2;refine⟨rfl,aZ.aX (c:=c) (ln:=ln) (col:=col) (by rw[HR7.o,hn];rfl) rfl ?_⟩;exact((cZ.o.mono fe).trans Y_.o).trans ((((Step.refl (·=R.rb) _).alloc _).trans s8).mono il)
    |ok u j8=>have HN8:=ak hn;rw[hn]at hp2;obtain⟨⟨v,rfl,rfl⟩,tJ,s8⟩:=hp2;have HR8:=ak tJ;have Rq:Hid (Step (·=R.rb) w7 w8):=((Step.refl (·=R.rb) _).alloc _).trans s8;clear hn tJ s8 p0 hp;go_wp2_with fail;refine bodyPost_end (results_none rfl _ _ _) rfl ?_;refine aZ.dK (a:=(nm,ty,el)) (j:=j8) (by rw[HR7.o,HN8.o];rfl) rfl ⟨[.int .i64 k0,.string gX,.string lf0,.bool gY,.slice a1 n1 c1,.slice a2 n2 c2,.int .i64 l0,.int .i64 c0],xe,_,Rq.o.keep HBT7.o om,OJ.o,iG.step Rq.o oi _ _ HTY7.o,dG.step Rq.o oi _ _ HEX7.o,HRW7.o.step Rq.o oi⟩ HR8.o (((cZ.o.mono fe).trans Y_.o).trans (Rq.o.mono il))
end Go.Proofs.YtppekkbaoimpgaaGreat
