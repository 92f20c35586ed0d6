import Derived.Test.YtggjfinekcenpaaGreatPkE
set_option maxRecDepth 100000
set_option maxHeartbeats 80000000
namespace Go.Proofs.YtggjfinekcenpaaGreat
open Go.RowKit
open Vt
structure YM (R:gI) (j1 j2 d bx bp bq:Nat) (w4:World) (s:ByteArray) (n:Nat) (tl tc:Int) (xc:List Value) (y:Ex) (L:Nat→Bool) (V:Nat→Value) (X:World):Prop where
 p0:L 0=true→V 0=.string s
 p1:L 1=true→V 1=.agg xc.toArray
 p2:L 2=true→V 2=.agg #[gW R.rb 0]
 p3:L 3=true→V 3=.int .i64 n
 p4:L 4=true→V 4=.int .i64 ((n:Int)+1)
 p5:L 5=true→∃cs:List Value,V 5=.agg cs.toArray∧dA X (fun q=>w4.heap.size≤q) y cs
 p6:L 6=true→∃(g:Nat) (cs:List Value),V 6=.slice (some ⟨g,0,none⟩) 2 2∧w4.heap.size≤g∧dA X (fun q=>w4.heap.size≤q) y cs∧X.heap[g]?=some (.cells (xc++cs).toArray 56 (0,0))
 p7:L 7=true→V 7=.agg #[ah tl,ah tc]
 p8:L 8=true→∃g:Nat,V 6=.slice (some ⟨g,0,none⟩) 2 2∧V 8=.agg #[ah 14,aI s,aX 0,aW,.slice (some ⟨g,0,none⟩) 2 2,ak,ak,ah tl,ah tc]
 st:Step (fun q=>q=R.rb∨q=bx) w4 X
 rd:bC R X (if L 5 then j2 else j1) d
 x0:L 9=false→X.heap[bx]?=some (.cells xc.toArray 56 (0,0))
 x1:L 9=true→∃g:Nat,V 6=.slice (some ⟨g,0,none⟩) 2 2∧X.heap[bx]?=some (.cells #[ah 14,aI s,aX 0,aW,.slice (some ⟨g,0,none⟩) 2 2,ak,ak,ah tl,ah tc] 56 (0,0))
 Ht:X.cell? ⟨bp,0,none⟩=some (.pointer (some ⟨R.rb,0,none⟩))
 Eo:X.heap[bq]?=some (.cells #[ah tl,ah tc] 25 (0,0))
 q6:L 6=true→L 1=true∧L 5=true
 q8:L 8=true→L 6=true
 q9:L 9=true→L 1=true∧L 5=true∧L 6=true∧L 7=true∧L 8=true
structure yT (R:gI) (w1 w3:World) (bx d:Nat) (X:World) (i':Nat) (x:Ex) (cs:List Value):Prop where
 rd:bC R X i' d
 blk:X.heap[bx]?=some (.cells cs.toArray 56 (0,0))
 ex:dA X (fun q=>w1.heap.size≤q∧q≠bx) x cs
 st:Step (fun q=>q=R.rb∨q=bx) w3 X
theorem yT.quiet {R:gI} {w1 w3:World} {bx d:Nat} {X X':World} {i':Nat} {x:Ex} {cs:List Value} (h:yT R w1 w3 bx d X i' x cs) (hs:jg X X'):yT R w1 w3 bx d X' i' x cs:=
 ⟨h.rd.quiet hs,hs.keep h.blk (fun h=>h),dA.step hs (fun _ _ h=>h) _ _ h.ex,h.st.trans (hs.mono fe)⟩
theorem yT.read {R:gI} {w1 w3:World} {bx d:Nat} {X X':World} {i' i2:Nat} {x:Ex} {cs:List Value} (h:yT R w1 w3 bx d X i' x cs) (hb:R.rb≠bx) (hw:R.rb<w1.heap.size) (hr:bC R X' i2 d) (hs:Step (·=R.rb) X X'):yT R w1 w3 bx d X' i2 x cs:=
 ⟨hr,hs.keep h.blk (fun e=>hb e.symm),dA.step hs (fun q hq e=>by have:=hq.1;omega) _ _ h.ex,h.st.trans (hs.mono il)⟩
theorem XNONE (s:ByteArray) (tl tc:Int) (g:Nat):∀u∈[Value.int .i64 14,aI s,aX 0,aW,.slice (some ⟨g,0,none⟩) 2 2,ak,ak,ah tl,ah tc],u.oneCell'=true:=by intro u hu;simp at hu;rcases hu with rfl|rfl|rfl|rfl|rfl|rfl|rfl|rfl|rfl<;>rfl
theorem J8 (f:Nat) (ih:∀f',f'<f→ni f'∧yS f'):ni f:=by
 intro R w i d n hl h hd hn hno;obtain⟨f,rfl⟩:∃f',f=f'+1:=by
  cases f with
  |zero=>exact absurd (by rw[a_]) hno
  |succ f=>exact⟨f,rfl⟩
 have HL:=ai hl;have H0:=ai h;have IH:=ai ih;obtain⟨r,hr⟩:=bF (a_ (f+1) R.l i d n);have HRR:=ai hr;rw[←hr]at hno⊢;have fH:=ai hno;have uq:=aP h.blk;obtain⟨w1,hw1⟩:=bF ((w.alloc (.cells #[gW R.rb 0] 75)).alloc (.cells #[ah 0,dG,aX 0,aW,ak,ak,ak,ah 0,ah 0] 56));have dH:=nT hw1
 have kK:=nC hw1
 have lS:=nD hw1
 have HW1:=ai hw1;have H1:=ai (h.quiet dH.o);have hn1:=aP lS.o;have bZ:Hid (∀X:World,Step (·=R.rb) w1 X→X.cell? ⟨w.heap.size,0,none⟩=some (.pointer (some ⟨R.rb,0,none⟩))):=fun X hX=>aj (hX.keep kK.o om) 0 _ rfl
 clear ih hl h hno hr hw1;go_enter Tryz.func68,Tryz.ntmps68;go_upto_region 1 with fail
 rw[←HW1.o];obtain⟨b5,hb5⟩:∃b5,((n:Int)==5)=b5:=⟨_,rfl⟩;have Am:Hid ((n==5)=b5):=(kF n 5 5 rfl).symm.trans hb5;go_wp2_with fail;refine(oP w1).mono ?_;rintro e w2 ⟨⟨g0,g1,g2,g3,g4,rfl,-⟩,h2⟩;have H2:=ai (H1.o.quiet h2);have HS2:Hid (Step (·=R.rb) w1 w2):=h2.mono fe;have qw:=ai (h2.keep lS.o (fun h=>h));have p0:=bZ.o w2 HS2.o;have hz2:=h2.size;clear h2;cases b5 with
 |true=>
  have Pg:n=5:=by simpa using Am.o
  have HR2:Hid (r=iI f R.l i d):=by show _=_;rw[HRR.o,a_,if_pos Pg]
  clear Pg;go_wp2_with fail;cases hx:iI f R.l i d with
  |out=>exact absurd (by rw[HR2.o,hx]) fH.o
  |err c ln col=>have HX:=ai hx;clear hx;refine((IH.o f (Nat.lt_succ_self f)).2 R _ i d HL.o H2.o hd (by rw[HX.o];intro h;cases h)).mono ?_;rintro e wq hp;rw[HX.o]at hp;obtain⟨rfl,sq⟩:=hp;refine⟨rfl,?_⟩;rw[HR2.o,HX.o];exact⟨rfl,((dH.o.mono fe).trans HS2.o).trans sq⟩
  |ok y jx=>
   have HX:=ai hx;clear hx;refine((IH.o f (Nat.lt_succ_self f)).2 R _ i d HL.o H2.o hd (by rw[HX.o];intro h;cases h)).mono ?_;rintro e wx hp;rw[HX.o]at hp;obtain⟨⟨v,rfl,cs,rfl,hy⟩,hrx,hsx⟩:=hp;have HY:=ai hy;have dQ:=ai hy.one;obtain⟨k0,iK,v0,iL,a1,n1,c1,a2,n2,c2,a3,n3,c3,l0,c0,rfl⟩:=hy.parts;have vO:=ai hrx;have qm:=ai hsx;have kS:=ai (hsx.keep qw.o om);clear hy hrx hsx p0
   go_wp2_with (refine aB (w:=wx) rfl 56 (.tmp 4) (.tmp 13) rfl (w.heap.size+1) 0 56 _ [.int .i64 k0,.string iK,.int .u64 v0,.bool iL,.slice a1 n1 c1,.slice a2 n2 c2,.slice a3 n3 c3,.int .i64 l0,.int .i64 c0] rfl rfl kS.o Tryz.aO (Nat.le_of_eq rfl) dQ.o ?_
                intro w6 hb6 vT)
   have IJ:w6.heap[w.heap.size+1]?=some (.cells [Value.int .i64 k0,aI iK,aX v0,bK iL,.slice a1 n1 c1,.slice a2 n2 c2,.slice a3 n3 c3,ah l0,ah c0].toArray 56 (0,0)):=hb6;refine bodyPost_ret (aS rfl _ (w.heap.size+1) 56 _ _ rfl IJ Tryz.underlying56 rfl Tryz.aO) rfl ?_;rw[HR2.o,HX.o];have hz1:=dH.o.size;refine⟨⟨_,rfl,_,rfl,dA.mono oi _ _ (dA.step vT oi _ _ HY.o)⟩,vO.o.step vT oi,?_⟩;exact(((dH.o.mono fe).trans HS2.o).trans qm.o).then vT oi
 |false=>
  have Pg:n≠5:=by intro e;have h3:=Am.o;rw[e]at h3;cases h3
  have hn4:n<5:=by omega
  have HR2:Hid (r=(a_ f R.l i d (n+1)).bind fun x j=>vK f R.l j d n x):=by show _=_;rw[HRR.o,a_,if_neg Pg]
  have R1:IntKind.i64.wrap ((n:Int)+1)=(n:Int)+1:=IntWalk.i64_in _ om;clear Pg;go_wp2_with fail;have HLV:Hid (∀X i' f',f'<f+1→bC R X i' d→a_ f' R.l i' d (n+1)≠.out→Calls Tryz.prog 68 #[.agg #[gW R.rb 0],.int .i64 ((n:Int)+1)] X (aK R d (JH X.heap.size) (a_ f' R.l i' d (n+1)) X)):=fun X i' f' hf hX hno=>(IH.o f' hf).1 R X i' d (n+1) HL.o hX hd om hno
  cases hx:a_ f R.l i d (n+1)with
  |out=>exact absurd (by rw[HR2.o,hx];rfl) fH.o
  |err c ln col=>have HX:=ai hx;clear hx;refine(HLV.o _ i f (Nat.lt_succ_self f) H2.o (by rw[HX.o];intro h;cases h)).mono ?_;rintro e wq hp;rw[HX.o]at hp;obtain⟨rfl,sq⟩:=hp;refine⟨rfl,?_⟩;rw[HR2.o,HX.o];exact⟨rfl,((dH.o.mono fe).trans HS2.o).trans sq⟩
  |ok x jx=>
   have HX:=ai hx;clear hx;refine(HLV.o _ i f (Nat.lt_succ_self f) H2.o (by rw[HX.o];intro h;cases h)).mono ?_;rintro e wx hp;rw[HX.o]at hp;obtain⟨⟨v,rfl,cs,rfl,hy⟩,hrx,hsx⟩:=hp;have HY:=ai hy;obtain⟨k0,iK,v0,iL,a1,n1,c1,a2,n2,c2,a3,n3,c3,l0,c0,rfl⟩:=hy.parts;have vO:=ai hrx;have qm:Hid (Step (·=R.rb) w1 wx):=HS2.o.trans hsx;(have HR3:Hid (r=vK f R.l jx d n x):=by show _=_;rw[HR2.o,HX.o];rfl);have hzx:=hsx.size;obtain⟨w3,hw3⟩:=bF (wx.alloc (.cells #[ah k0,aI iK,aX v0,bK iL,.slice a1 n1 c1,.slice a2 n2 c2,.slice a3 n3 c3,ah l0,ah c0] 56));(have jX:Hid (jg wx w3):=by rw[hw3];exact bg.alloc _);(have HB3:Hid (w3.heap[wx.heap.size]?=some (.cells #[ah k0,aI iK,aX v0,bK iL,.slice a1 n1 c1,.slice a2 n2 c2,.slice a3 n3 c3,ah l0,ah c0] 56 (0,0))):=by rw[hw3];exact aC _ _);have oH:Hid (Step (·=R.rb) w1 w3):=qm.o.trans (jX.o.mono fe);have HW3:=ai hw3;clear hy hrx hsx p0 hw3;have hxb:=aP HB3.o;have hz3:=jX.o.size;have YN:Hid (dA w3 (fun q=>w1.heap.size≤q∧q≠wx.heap.size) x [.int .i64 k0,.string iK,.int .u64 v0,.bool iL,.slice a1 n1 c1,.slice a2 n2 c2,.slice a3 n3 c3,.int .i64 l0,.int .i64 c0]):=dA.step jX.o (fun _ _ h=>h) _ _ (dA.mono (fun q hq hh=>⟨by omega,by omega⟩) _ _ HY.o);have Qw:Hid (yT R w1 w3 wx.heap.size d w3 jx x [.int .i64 k0,.string iK,.int .u64 v0,.bool iL,.slice a1 n1 c1,.slice a2 n2 c2,.slice a3 n3 c3,.int .i64 l0,.int .i64 c0]):=⟨vO.o.quiet jX.o,HB3.o,YN.o,Step.refl _ _⟩;(go_upto_block 0 with fail);rw[←HW3.o];obtain⟨bx,hbx⟩:=bF wx.heap.size;rw[←hbx]at Qw hxb⊢;(have hbx1:w1.heap.size≤bx:=by omega);have zJ:=ai (oH.o.keep kK.o om);have uZ:=ai (oH.o.keep lS.o om);(have NW:Hid (∀X:World,Step (fun q=>q=R.rb∨q=bx) w3 X→X.cell? ⟨w.heap.size,0,none⟩=some (.pointer (some ⟨R.rb,0,none⟩))∧X.heap[w.heap.size+1]?=some (.cells #[ah 0,dG,aX 0,aW,ak,ak,ak,ah 0,ah 0] 56 (0,0))):=by intro X hX;exact⟨aj (hX.keep zJ.o om) 0 _ rfl,hX.keep uZ.o om⟩);have zV:Hid (Step (·=R.rb) w w3):=(dH.o.mono fe).trans oH.o;clear hbx;go_wp2_with fail;go_loopg [6,7] f (fun gg s6 s7 wr=>gg≤f∧∃(i':Nat) (x:Ex) (cs:List Value),r=vK gg R.l i' d n x∧yT R w1 w3 bx d wr i' x cs);case atStart=>exact⟨Nat.le_refl _,jx,x,_,HR3.o,Qw.o⟩
   case round=>
    obtain⟨hgf,i',x,cs,hrq,hst⟩:=hrel;have YI:=ai hrq;obtain⟨gn,rfl⟩:∃gn,gk=gn+1:=by
     cases gk with
     |zero=>exact absurd hrq (by rw[vK];exact fH.o)
     |succ gn=>exact⟨gn,rfl⟩
    obtain⟨k0,iK,v0,iL,a1,n1,c1,a2,n2,c2,a3,n3,c3,l0,c0,rfl⟩:=hst.ex.parts;have HST:=ai hst;obtain⟨p0,-⟩:=NW.o wr hst.st;obtain⟨tk,htk⟩:=bF (tokA R.l i');have UC:=ai htk;have HAT:=ai (at_at R wr i' d tk hst.rd (by rw[htk];exact hst.rd.tok));clear hrq hst htk;(go_upto_region 4 with fail);go_wp2_with fail;refine HAT.o.mono ?_;rintro e w4 ⟨rfl,h4⟩;have fD:=ai (HST.o.quiet h4);obtain⟨w5,hw5⟩:=bF (w4.alloc (.cells #[ah tk.line,ah tk.col] 25));(have sK:Hid (jg w4 w5):=by rw[hw5];exact bg.alloc _);(have HQ5:Hid (w5.heap[w4.heap.size]?=some (.cells #[ah tk.line,ah tk.col] 25 (0,0))):=by rw[hw5];exact aC _ _);have lN:=ai (fD.o.quiet sK.o);have hz4:=fD.o.st.size;have HW5:=ai hw5;clear h4 hw5 p0;obtain⟨p0,-⟩:=NW.o w5 lN.o.st;(go_upto_region 5 with fail);rw[←HW5.o];go_wp2_with fail;refine(YL R HL.o w5 i' d n lN.o.rd hn4).mono ?_;rintro e w6 ⟨rfl,o9,h6⟩;cases ho:xu R.l i' n with
    |none=>
     rw[ho]at o9;have yR:Hid (bC R w6 i' d):=o9;have fA:=ai (lN.o.read om om yR.o h6);(have kU:Hid (r=.ok x i'):=by show _=_;rw[YI.o,vK,ho]);have dQ:=ai fA.o.ex.one;(have bJ:Hid (∀(jj:Nat) v,[Value.int .i64 k0,aI iK,aX v0,bK iL,.slice a1 n1 c1,.slice a2 n2 c2,.slice a3 n3 c3,ah l0,ah c0][jj]?=some v→w6.cell? ⟨bx,0+jj,none⟩=some v):=by intro jj v hv;rw[Nat.zero_add];exact aj fA.o.blk jj v pO);have oQ:=ai (NW.o w6 fA.o.st).2;clear o9 h6 ho p0;rw[show opS none=(⟨#[]⟩:ByteArray) from rfl];go_wp2_with (first
      |(refine aN rfl 56 (.tmp 5) rfl bx 0 rfl [.int .i64 k0,.string iK,.int .u64 v0,.bool iL,.slice a1 n1 c1,.slice a2 n2 c2,.slice a3 n3 c3,.int .i64 l0,.int .i64 c0] _ bJ.o Tryz.underlying56 rfl Tryz.aO ?_)
      |(refine aB (w:=w6) rfl 56 (.tmp 4) (.tmp 26) rfl (w.heap.size+1) 0 56 _ [.int .i64 k0,.string iK,.int .u64 v0,.bool iL,.slice a1 n1 c1,.slice a2 n2 c2,.slice a3 n3 c3,.int .i64 l0,.int .i64 c0] rfl rfl oQ.o Tryz.aO (Nat.le_of_eq rfl) dQ.o ?_;intro w7 hb7 xW))
     have YO:w7.heap[w.heap.size+1]?=some (.cells [Value.int .i64 k0,aI iK,aX v0,bK iL,.slice a1 n1 c1,.slice a2 n2 c2,.slice a3 n3 c3,ah l0,ah c0].toArray 56 (0,0)):=hb7;refine bodyPost_ret (aS rfl _ (w.heap.size+1) 56 _ _ rfl YO Tryz.underlying56 rfl Tryz.aO) rfl ?_;rw[kU.o];have hz1:=dH.o.size;refine⟨⟨_,rfl,_,rfl,dA.mono (fun q _ hq=>by have:=hq.1;omega) _ _ (dA.step xW (fun q hq e=>by have:=hq.1;omega) _ _ fA.o.ex)⟩,fA.o.rd.step xW oi,?_⟩;exact(zV.o.then fA.o.st oi).then xW oi
    |some s=>
     rw[ho]at o9;have yR:Hid (bC R w6 (i'+1) d):=o9;have fA:=ai (lN.o.read om om yR.o h6);have HQ6:=ai (h6.keep HQ5.o om);(have kU:Hid (r=(a_ gn R.l (i'+1) d (n+1)).bind fun y j=>if n=2 then .ok (bP 14 (lX s) 0 false [x,y] [] [] tk) j else vK gn R.l j d n (bP 14 (lX s) 0 false [x,y] [] [] tk)):=by show _=_;rw[YI.o,vK,ho,UC.o]);obtain⟨sB,hsB⟩:=bF (lX s);(have hpos:0<sB.size∧sB.size≤9223372036854775807:=by have hm:=List.mem_of_find?_eq_some ho;rw[hsB];show 0<s.toArray.size∧s.toArray.size≤_;rcases(show n=0∨n=1∨n=2∨n=3∨n=4 by omega)with e|e|e|e|e<;>subst e<;>simp[opsL]at hm<;>(rcases hm with rfl|rfl)<;>decide);have HPOS:=ai hpos.2;have he:=jR sB hpos.1;have he':=jF sB hpos.1;have JQ:=ai hsB;have hx6:opS (some s)=sB:=hsB.symm;rw[hx6];rw[←hsB]at kU;obtain⟨p0,-⟩:=NW.o w6 fA.o.st;clear o9 h6 ho hsB hx6 hpos;have hz5:=sK.o.size;have hz46:=fA.o.st.size;have hq6:=aP HQ6.o;have hxs:=aP fA.o.blk;(go_upto_region 8 with fail);(have HZ8:Hid (∀(j2:Nat) (y:Ex) V,YM R (i'+1) j2 d bx w.heap.size w4.heap.size w6 sB n tk.line tk.col [.int .i64 k0,.string iK,.int .u64 v0,.bool iL,.slice a1 n1 c1,.slice a2 n2 c2,.slice a3 n3 c3,.int .i64 l0,.int .i64 c0] y (fun _=>false) V w6.drew):=by intro j2 y V;have hs:jg w6 w6.drew:=bg.drew;exact⟨lg,lg,lg,lg,lg,lg,lg,lg,lg,hs.mono fe,fA.o.rd.quiet hs,fun _=>hs.keep fA.o.blk (fun h=>h),lg,hs.cell (NW.o w6 fA.o.st).1 (fun h=>h),hs.keep HQ6.o (fun h=>h),lg,lg,lg⟩);cases hx:a_ gn R.l (i'+1) d (n+1)with
     |out=>exact absurd (by rw[kU.o,hx];rfl) fH.o
     |err c ln col=>
      have HX:=ai hx;clear hx;obtain⟨j2,-⟩:∃j2:Nat,j2=0:=⟨_,rfl⟩;obtain⟨y,-⟩:∃y:Ex,y=x:=⟨_,rfl⟩;(have vS:Hid (∀X,bC R X (i'+1) d→Calls Tryz.prog 68 #[.agg #[gW R.rb 0],.int .i64 ((n:Int)+1)] X fun e wq=>e=.panicked [{v:=.iface 184 (.agg #[ah c,ah ln,ah col]),recovered:=false}]∧Step (·=R.rb) X wq):=by intro X hX;have h9:=HLV.o X (i'+1) gn om hX (by rw[HX.o];intro h;cases h);rw[HX.o]at h9;exact h9);(have CB:Hid (∀X wq:World,Step (fun q=>q=R.rb∨q=bx) w6 X→Step (·=R.rb) X wq→aK R d (JH w.heap.size) r w (.panicked [{v:=.iface 184 (.agg #[ah c,ah ln,ah col]),recovered:=false}]) wq):=by intro X wq h1 h2;rw[kU.o,HX.o];exact⟨rfl,(zV.o.then (fA.o.st.trans h1) oi).trans h2⟩);refine bD kr (fun L V X=>YM R (i'+1) j2 d bx w.heap.size w4.heap.size w6 sB n tk.line tk.col [.int .i64 k0,.string iK,.int .u64 v0,.bool iL,.slice a1 n1 c1,.slice a2 n2 c2,.slice a3 n3 c3,.int .i64 l0,.int .i64 c0] y L V X∧L 5=false) 10 rfl kr kr kr kr ?h0 ?hs ?hdone;case h0=>exact⟨HZ8.o _ _ _,rfl⟩
      case hs=>
       refine⟨?_,?_,?_,?_,?_,?_,?_,?_,?_,?_,trivial⟩
       all_goals intro L V X a ev ig hdf hL ay hJ
       ·have o7:=ig 7 rfl;change a.tmps[7]?.getD undef=.string sB at o7;go_simp;exact⟨_,rfl,{hJ.1 with p0:=fun _=>rfl},hJ.2⟩
       ·have o5:=ig 5 rfl;change a.tmps[5]?.getD undef=.pointer (some ⟨bx,0,none⟩)at o5;have h9:L 9=false:=by
         cases e:L 9 with
         |false=>rfl
         |true=>exact absurd (hJ.1.q9 e).1 (by rw[hL];decide)
        have hb:=hJ.1.x0 h9;refine wp_load_mid 56 (.tmp 5) rfl bx 0 (by rw[bW];exact o5) [.int .i64 k0,.string iK,.int .u64 v0,.bool iL,.slice a1 n1 c1,.slice a2 n2 c2,.slice a3 n3 c3,.int .i64 l0,.int .i64 c0] _ (fun jj v hv=>by rw[Nat.zero_add];exact aj hb jj v pO) Tryz.underlying56 rfl Tryz.aO ?_;exact⟨_,rfl,{hJ.1 with p1:=fun _=>rfl,q6:=fun e=>absurd (hJ.1.q6 e).1 (by rw[hL];decide),q9:=fun e=>absurd (show L 9=true from e) (by rw[h9];decide)},hJ.2⟩
       ·have o2:=ig 2 rfl;change a.tmps[2]?.getD undef=.pointer (some ⟨w.heap.size,0,none⟩)at o2;have p9:=hJ.1.Ht;go_simp;exact⟨_,rfl,{hJ.1 with p2:=fun _=>rfl},hJ.2⟩
       ·have o1:=ig 1 rfl;change a.tmps[1]?.getD undef=.int .i64 (n:Int)at o1;go_simp;exact⟨_,rfl,{hJ.1 with p3:=fun _=>rfl},hJ.2⟩
       ·have e30:=(ev 3 30 rfl (ay 3 rfl)).trans (hJ.1.p3 (ay 3 rfl));go_simp;exact⟨_,rfl,{hJ.1 with p4:=fun _=>rfl},hJ.2⟩
       ·have e29:=(ev 2 29 rfl (ay 2 rfl)).trans (hJ.1.p2 (ay 2 rfl));have e31:=(ev 4 31 rfl (ay 4 rfl)).trans (hJ.1.p4 (ay 4 rfl));have hrd:=hJ.1.rd;rw[hL,if_neg dc]at hrd;have h6:L 6=false:=by
         cases e:L 6 with
         |false=>rfl
         |true=>exact absurd (hJ.1.q6 e).2 (by rw[hL];decide)
        have h9:L 9=false:=by
         cases e:L 9 with
         |false=>rfl
         |true=>exact absurd (hJ.1.q9 e).2.1 (by rw[hL];decide)
        have h8:L 8=false:=by
         cases e:L 8 with
         |false=>rfl
         |true=>exact absurd (hJ.1.q8 e) (by rw[h6];decide)
        go_simp;refine(vS.o X hrd).mono ?_;rintro e wq ⟨rfl,hs⟩;exact⟨hdf,CB.o X wq hJ.1.st hs⟩
       ·exact absurd hJ.2 (by rw[show L 5=true from ay 5 rfl];decide)
       ·have o6:=ig 6 rfl;change a.tmps[6]?.getD undef=.pointer (some ⟨w4.heap.size,0,none⟩)at o6;have q0:=aj hJ.1.Eo 0 _ rfl;have q1:=aj hJ.1.Eo 1 _ rfl;go_simp;have h9:L 9=false:=by
         cases e:L 9 with
         |false=>rfl
         |true=>exact absurd (hJ.1.q9 e).2.2.2.1 (by rw[hL];decide)
        exact⟨_,rfl,{hJ.1 with p7:=fun _=>rfl,q9:=fun e=>absurd (show L 9=true from e) (by rw[h9];decide)},hJ.2⟩
       ·exact absurd hJ.2 (by rw[show L 5=true from(hJ.1.q6 (ay 6 rfl)).2];decide)
       ·exact absurd hJ.2 (by rw[show L 5=true from(hJ.1.q6 (hJ.1.q8 (ay 8 rfl))).2];decide)
      case hdone=>intro L V X hall hJ;exact absurd hJ.2 (by rw[hall 5 dc];decide)
     |ok y j2=>
      have HX:=ai hx;clear hx;(have vS:Hid (∀X,bC R X (i'+1) d→Calls Tryz.prog 68 #[.agg #[gW R.rb 0],.int .i64 ((n:Int)+1)] X fun e wq=>(∃v,e=.returned v∧∃cs:List Value,v=.agg cs.toArray∧dA wq (fun q=>X.heap.size≤q) y cs)∧bC R wq j2 d∧Step (·=R.rb) X wq):=by intro X hX;have h9:=HLV.o X (i'+1) gn om hX (by rw[HX.o];intro h;cases h);rw[HX.o]at h9;exact h9);(have pV:Hid (r=if n=2 then .ok (bP 14 sB 0 false [x,y] [] [] tk) j2 else vK gn R.l j2 d n (bP 14 sB 0 false [x,y] [] [] tk)):=by show _=_;rw[kU.o,HX.o];rfl);go_cut [] (fun wx=>∃g:Nat,yT R w1 w3 bx d wx j2 (bP 14 sB 0 false [x,y] [] [] tk) [.int .i64 14,.string sB,.int .u64 0,.bool false,.slice (some ⟨g,0,none⟩) 2 2,.slice none 0 0,.slice none 0 0,.int .i64 tk.line,.int .i64 tk.col]);case first=>
       refine bD kr (YM R (i'+1) j2 d bx w.heap.size w4.heap.size w6 sB n tk.line tk.col [.int .i64 k0,.string iK,.int .u64 v0,.bool iL,.slice a1 n1 c1,.slice a2 n2 c2,.slice a3 n3 c3,.int .i64 l0,.int .i64 c0] y) 10 rfl kr kr kr kr ?h0 ?hs ?hdone;case h0=>exact HZ8.o _ _ _
       case hs=>
        refine⟨?_,?_,?_,?_,?_,?_,?_,?_,?_,?_,trivial⟩
        all_goals intro L V X a ev ig hdf hL ay hJ
        ·have o7:=ig 7 rfl;change a.tmps[7]?.getD undef=.string sB at o7;go_simp;exact⟨_,rfl,{hJ with p0:=fun _=>rfl}⟩
        ·have o5:=ig 5 rfl;change a.tmps[5]?.getD undef=.pointer (some ⟨bx,0,none⟩)at o5;have h9:L 9=false:=by
          cases e:L 9 with
          |false=>rfl
          |true=>exact absurd (hJ.q9 e).1 (by rw[hL];decide)
         have hb:=hJ.x0 h9;refine wp_load_mid 56 (.tmp 5) rfl bx 0 (by rw[bW];exact o5) [.int .i64 k0,.string iK,.int .u64 v0,.bool iL,.slice a1 n1 c1,.slice a2 n2 c2,.slice a3 n3 c3,.int .i64 l0,.int .i64 c0] _ (fun jj v hv=>by rw[Nat.zero_add];exact aj hb jj v pO) Tryz.underlying56 rfl Tryz.aO ?_;exact⟨_,rfl,{hJ with p1:=fun _=>rfl,q6:=fun e=>absurd (hJ.q6 e).1 (by rw[hL];decide),q9:=fun e=>absurd (show L 9=true from e) (by rw[h9];decide)}⟩
        ·have o2:=ig 2 rfl;change a.tmps[2]?.getD undef=.pointer (some ⟨w.heap.size,0,none⟩)at o2;have p9:=hJ.Ht;go_simp;exact⟨_,rfl,{hJ with p2:=fun _=>rfl}⟩
        ·have o1:=ig 1 rfl;change a.tmps[1]?.getD undef=.int .i64 (n:Int)at o1;go_simp;exact⟨_,rfl,{hJ with p3:=fun _=>rfl}⟩
        ·have e30:=(ev 3 30 rfl (ay 3 rfl)).trans (hJ.p3 (ay 3 rfl));go_simp;exact⟨_,rfl,{hJ with p4:=fun _=>rfl}⟩
        ·have e29:=(ev 2 29 rfl (ay 2 rfl)).trans (hJ.p2 (ay 2 rfl));have e31:=(ev 4 31 rfl (ay 4 rfl)).trans (hJ.p4 (ay 4 rfl));have hrd:=hJ.rd;rw[hL,if_neg dc]at hrd;have h6:L 6=false:=by
          cases e:L 6 with
          |false=>rfl
          |true=>exact absurd (hJ.q6 e).2 (by rw[hL];decide)
         have h9:L 9=false:=by
          cases e:L 9 with
          |false=>rfl
          |true=>exact absurd (hJ.q9 e).2.1 (by rw[hL];decide)
         have h8:L 8=false:=by
          cases e:L 8 with
          |false=>rfl
          |true=>exact absurd (hJ.q8 e) (by rw[h6];decide)
         go_simp;refine(vS.o X hrd).mono ?_;rintro e wq ⟨⟨v,rfl,cs,rfl,hy⟩,hr,hs⟩;have hzz:=hJ.st.size;refine⟨_,rfl,{hJ with p5:=fun _=>⟨cs,rfl,dA.mono oi _ _ hy⟩,p6:=fun e=>absurd (show L 6=true from e) (by rw[h6];decide),p8:=fun e=>absurd (show L 8=true from e) (by rw[h8];decide),st:=hJ.st.trans (hs.mono il),rd:=hr,x0:=fun e=>hs.keep (hJ.x0 e) om,x1:=fun e=>absurd (show L 9=true from e) (by rw[h9];decide),Ht:=hs.cell hJ.Ht (fun e=>by have e2:w.heap.size=R.rb:=e;omega),Eo:=hs.keep hJ.Eo om,q6:=fun e=>absurd (show L 6=true from e) (by rw[h6];decide),q8:=fun e=>absurd (show L 8=true from e) (by rw[h8];decide),q9:=fun e=>absurd (show L 9=true from e) (by rw[h9];decide)}⟩
        ·have e28:=(ev 1 28 rfl (ay 1 rfl)).trans (hJ.p1 (ay 1 rfl));obtain⟨cs,y1,y2⟩:=hJ.p5 (ay 5 rfl);obtain⟨k5,nm5,v5,JI,b1,m1,d1,b2,m2,d2,b3,m3,d3,l5,c5,rfl⟩:=y2.parts;have e32:=(ev 5 32 rfl (ay 5 rfl)).trans y1;have hs:jg X (X.alloc (.cells #[ah k0,aI iK,aX v0,bK iL,.slice a1 n1 c1,.slice a2 n2 c2,.slice a3 n3 c3,ah l0,ah c0,ah k5,aI nm5,aX v5,bK JI,.slice b1 m1 d1,.slice b2 m2 d2,.slice b3 m3 d3,ah l5,ah c5] 56)):=bg.alloc _;have h8:L 8=false:=by
          cases e:L 8 with
          |false=>rfl
          |true=>exact absurd (hJ.q8 e) (by rw[hL];decide)
         have h9:L 9=false:=by
          cases e:L 9 with
          |false=>rfl
          |true=>exact absurd (hJ.q9 e).2.2.1 (by rw[hL];decide)
         go_simp;refine⟨_,rfl,{hJ with p5:=fun e=>⟨_,y1,dA.step hs (fun _ _ h=>h) _ _ y2⟩,p6:=fun _=>⟨X.heap.size,_,rfl,hJ.st.size,dA.step hs (fun _ _ h=>h) _ _ y2,aC _ _⟩,p8:=fun e=>absurd (show L 8=true from e) (by rw[h8];decide),st:=hJ.st.alloc _,rd:=hJ.rd.quiet hs,x0:=fun e=>hs.keep (hJ.x0 e) (fun h=>h),x1:=fun e=>absurd (show L 9=true from e) (by rw[h9];decide),Ht:=hs.cell hJ.Ht (fun h=>h),Eo:=hs.keep hJ.Eo (fun h=>h),q6:=fun _=>⟨ay 1 rfl,ay 5 rfl⟩,q8:=fun e=>absurd (show L 8=true from e) (by rw[h8];decide),q9:=fun e=>absurd (show L 9=true from e) (by rw[h9];decide)}⟩
        ·have o6:=ig 6 rfl;change a.tmps[6]?.getD undef=.pointer (some ⟨w4.heap.size,0,none⟩)at o6;have q0:=aj hJ.Eo 0 _ rfl;have q1:=aj hJ.Eo 1 _ rfl;go_simp;have h9:L 9=false:=by
          cases e:L 9 with
          |false=>rfl
          |true=>exact absurd (hJ.q9 e).2.2.2.1 (by rw[hL];decide)
         exact⟨_,rfl,{hJ with p7:=fun _=>rfl,q9:=fun e=>absurd (show L 9=true from e) (by rw[h9];decide)}⟩
        ·have e27:=(ev 0 27 rfl (ay 0 rfl)).trans (hJ.p0 (ay 0 rfl));have e34:=(ev 7 34 rfl (ay 7 rfl)).trans (hJ.p7 (ay 7 rfl));obtain⟨g,cs,c1,-⟩:=hJ.p6 (ay 6 rfl);have e33:=(ev 6 33 rfl (ay 6 rfl)).trans c1;go_simp;have h9:L 9=false:=by
          cases e:L 9 with
          |false=>rfl
          |true=>exact absurd (hJ.q9 e).2.2.2.2 (by rw[hL];decide)
         exact⟨_,rfl,{hJ with p8:=fun _=>⟨g,c1,rfl⟩,q8:=fun _=>ay 6 rfl,q9:=fun e=>absurd (show L 9=true from e) (by rw[h9];decide)}⟩
        ·have o5:=ig 5 rfl;change a.tmps[5]?.getD undef=.pointer (some ⟨bx,0,none⟩)at o5;obtain⟨g,g1,g2⟩:=hJ.p8 (ay 8 rfl);have e35:=(ev 8 35 rfl (ay 8 rfl)).trans g2;have hb:=hJ.x0 hL;have h6:=hJ.q8 (ay 8 rfl);have hbs:=aP hb;refine fC 56 (.tmp 5) (.tmp 35) rfl bx 0 56 _ [.int .i64 14,.string sB,.int .u64 0,.bool false,.slice (some ⟨g,0,none⟩) 2 2,.slice none 0 0,.slice none 0 0,.int .i64 tk.line,.int .i64 tk.col] (by rw[bW];exact o5) (by rw[bW];exact e35) hb Tryz.aO (Nat.le_of_eq rfl) (XNONE sB tk.line tk.col g) ?_;intro w9 iW hs9;have hbb:w9.heap[bx]?=some (.cells #[ah 14,aI sB,aX 0,aW,.slice (some ⟨g,0,none⟩) 2 2,ak,ak,ah tk.line,ah tk.col] 56 (0,0)):=iW;refine⟨undef,rfl,{hJ with p5:=fun e=> ?_,p6:=fun e=> ?_,st:=hJ.st.trans (hs9.mono ir),rd:=hJ.rd.step hs9 oi,x0:=(fun e=>by cases (show true=false from e)),x1:=fun _=>⟨g,g1,hbb⟩,Ht:=hs9.cell hJ.Ht (fun e=>by have e2:w.heap.size=bx:=e;omega),Eo:=hs9.keep hJ.Eo om,q9:=fun _=>⟨(hJ.q6 h6).1,(hJ.q6 h6).2,h6,ay 7 rfl,ay 8 rfl⟩}⟩
         ·obtain⟨cs,c1,c2⟩:=hJ.p5 e;exact⟨cs,c1,dA.step hs9 oi _ _ c2⟩
         ·obtain⟨g',cs,c1,c2,c3,c4⟩:=hJ.p6 e;exact⟨g',cs,c1,c2,dA.step hs9 oi _ _ c3,hs9.keep c4 om⟩
       case hdone=>intro L V X hall hJ;obtain⟨g,c1,c2⟩:=hJ.x1 (hall 9 dc);obtain⟨g',cs,d1,d2,d3,d4⟩:=hJ.p6 (hall 6 dc);rw[c1]at d1;cases d1;have hrd:=hJ.rd;rw[hall 5 dc,if_pos rfl]at hrd;have hst:=hJ.st;(have kP:Hid (yT R w1 w3 bx d X j2 (bP 14 sB 0 false [x,y] [] [] tk) [.int .i64 14,.string sB,.int .u64 0,.bool false,.slice (some ⟨g,0,none⟩) 2 2,.slice none 0 0,.slice none 0 0,.int .i64 tk.line,.int .i64 tk.col]):=by refine⟨hrd,c2,?_,fA.o.st.trans hst⟩;have hex:=dA.step hst (fun q hq e=>by have:=hq.1.1;have:=hq.1.2;omega) _ _ (dA.mono (P':=fun q=>(w1.heap.size≤q∧q≠bx)∧q<w6.heap.size) (fun q h7 h8=>⟨h8,h7⟩) _ _ fA.o.ex);rw[bP,dA];refine⟨_,_,_,_,[],rfl,HPOS.o,nR,?_,dh.new d4 dc om,dh.nil _ _ _,by rw[eP],dh.nil _ _ _⟩;rw[bY];refine⟨_,_,rfl,dA.mono (fun q _ hq=>hq.1) _ _ hex,?_⟩;exact bY.single (dA.mono oi _ _ d3));rw[show List.range 10=[0,1,2,3,4,5,6,7,8,9] from rfl];simp only[lW,dZ,FB,Bj];clear hJ hall;go_wp2_with fail;go_meet;case rel=>exact⟨g,kP.o⟩
      case rest=>
       obtain⟨g,hls⟩:=hcut;obtain⟨w8,rfl⟩:=bF wc;have jM:=ai hls;obtain⟨b2,hb2⟩:∃b2,((n:Int)==2)=b2:=⟨_,rfl⟩;have HB2:Hid ((n==2)=b2):=(kF n 2 2 rfl).symm.trans hb2;clear hls p0;cases b2 with
       |false=>
        (have hn2:n≠2:=by intro e;have h3:=HB2.o;rw[e]at h3;cases h3);(have J9:Hid (r=vK gn R.l j2 d n (bP 14 sB 0 false [x,y] [] [] tk)):=by show _=_;rw[pV.o,if_neg hn2]);clear hn2;go_wp2_with fail;go_roundg gn;case rel=>exact⟨by omega,j2,_,_,J9.o,jM.o⟩
        case measure=>omega
       |true=>
        (have hn2:n=2:=by simpa using HB2.o);(have J9:Hid (r=.ok (bP 14 sB 0 false [x,y] [] [] tk) j2):=by show _=_;rw[pV.o,if_pos hn2]);clear hn2;have dQ:=ai jM.o.ex.one;(have bJ:Hid (∀(jj:Nat) v,[Value.int .i64 14,aI sB,aX 0,aW,.slice (some ⟨g,0,none⟩) 2 2,ak,ak,ah tk.line,ah tk.col][jj]?=some v→w8.cell? ⟨bx,0+jj,none⟩=some v):=by intro jj v hv;rw[Nat.zero_add];exact aj jM.o.blk jj v pO);have HN8:=ai (NW.o w8 jM.o.st).2;go_wp2_with (first
         |(refine aN rfl 56 (.tmp 5) rfl bx 0 rfl [.int .i64 14,.string sB,.int .u64 0,.bool false,.slice (some ⟨g,0,none⟩) 2 2,.slice none 0 0,.slice none 0 0,.int .i64 tk.line,.int .i64 tk.col] _ bJ.o Tryz.underlying56 rfl Tryz.aO ?_)
         |(refine aB (w:=w8) rfl 56 (.tmp 4) (.tmp 38) rfl (w.heap.size+1) 0 56 _ [.int .i64 14,.string sB,.int .u64 0,.bool false,.slice (some ⟨g,0,none⟩) 2 2,.slice none 0 0,.slice none 0 0,.int .i64 tk.line,.int .i64 tk.col] rfl rfl HN8.o Tryz.aO (Nat.le_of_eq rfl) dQ.o ?_;intro w9 iW wW))
        have hb9':w9.heap[w.heap.size+1]?=some (.cells [Value.int .i64 14,aI sB,aX 0,aW,.slice (some ⟨g,0,none⟩) 2 2,ak,ak,ah tk.line,ah tk.col].toArray 56 (0,0)):=iW;refine bodyPost_ret (aS rfl _ (w.heap.size+1) 56 _ _ rfl hb9' Tryz.underlying56 rfl Tryz.aO) rfl ?_;rw[J9.o];have hz1:=dH.o.size;refine⟨⟨_,rfl,_,rfl,dA.mono (fun q _ hq=>by have:=hq.1;omega) _ _ (dA.step wW (fun q hq e=>by have:=hq.1;omega) _ _ jM.o.ex)⟩,jM.o.rd.step wW oi,?_⟩;exact(zV.o.then jM.o.st oi).then wW oi
theorem lQ (f:Nat) (ih:ni f) (R:gI) (w:World) (i d:Nat) (hl:oJ R.l) (h:bC R w i d) (hd:d≤40) (hno:a_ f R.l i d 0≠.out):Calls Tryz.prog 40 #[.agg #[gW R.rb 0]] w (aK R d (JH w.heap.size) (a_ f R.l i d 0) w):=by
 obtain⟨w1,hw1⟩:=bF ((w.alloc (.cells #[gW R.rb 0] 75)).alloc (.cells #[ah 0,dG,aX 0,aW,ak,ak,ak,ah 0,ah 0] 56));have dH:=nT hw1
 have kK:=nC hw1
 have lS:=nD hw1
 have HW1:=ai hw1;have H1:=ai (h.quiet dH.o);have hn1:=aP lS.o;have uq:=aP h.blk;have p0:=aj kK.o 0 _ rfl;have HC:=ai (ih R w1 i d 0 hl H1.o hd om hno);obtain⟨r,hr⟩:=bF (a_ f R.l i d 0);rw[←hr]at HC hno⊢;have fH:=ai hno;clear ih hl h hno hr hw1;go_enter Tryz.func40,Tryz.ntmps40;go_upto_region 1 with fail
 rw[←HW1.o];go_wp2_with fail;have hc2:Calls Tryz.prog 68 #[.agg #[gW R.rb 0],.int .i64 0] w1 (aK R d (JH w1.heap.size) r w1):=HC.o;refine hc2.mono ?_;clear hc2;rintro e wx hp;cases r with
 |out=>exact absurd rfl fH.o
 |err c ln col=>obtain⟨rfl,sq⟩:=hp;exact⟨rfl,rfl,(dH.o.mono fe).trans sq⟩
 |ok y jx=>
  obtain⟨⟨v,rfl,cs,rfl,hy⟩,hrx,hsx⟩:=hp;have HY:=ai hy;have dQ:=ai hy.one;obtain⟨k0,iK,v0,iL,a1,n1,c1,a2,n2,c2,a3,n3,c3,l0,c0,rfl⟩:=hy.parts;have vO:=ai hrx;have qm:=ai hsx;have kS:=ai (hsx.keep lS.o om);clear hy hrx hsx p0
  go_wp2_with (refine aB (w:=wx) rfl 56 (.tmp 2) (.tmp 4) rfl (w.heap.size+1) 0 56 _ [.int .i64 k0,.string iK,.int .u64 v0,.bool iL,.slice a1 n1 c1,.slice a2 n2 c2,.slice a3 n3 c3,.int .i64 l0,.int .i64 c0] rfl rfl kS.o Tryz.aO (Nat.le_of_eq rfl) dQ.o ?_
               intro w6 hb6 vT)
  have IJ:w6.heap[w.heap.size+1]?=some (.cells [Value.int .i64 k0,aI iK,aX v0,bK iL,.slice a1 n1 c1,.slice a2 n2 c2,.slice a3 n3 c3,ah l0,ah c0].toArray 56 (0,0)):=hb6;refine bodyPost_ret (aS rfl _ (w.heap.size+1) 56 _ _ rfl IJ Tryz.underlying56 rfl Tryz.aO) rfl ?_;have hz1:=dH.o.size;refine⟨⟨_,rfl,_,rfl,dA.mono oi _ _ (dA.step vT oi _ _ HY.o)⟩,vO.o.step vT oi,?_⟩;exact((dH.o.mono fe).trans qm.o).then vT oi
theorem one_step (f:Nat) (ih:ni f):Qr (f+1):=by
 intro R w i d hl h hd hno;have HL:=ai hl;have HEX:Hid (∀X j,bC R X j d→a_ f R.l j d 0≠.out→Calls Tryz.prog 40 #[.agg #[gW R.rb 0]] X (aK R d (JH X.heap.size) (a_ f R.l j d 0) X)):=fun X j hX hn=>lQ f ih R X j d hl hX hd hn;obtain⟨r,hr⟩:=bF (qJ (f+1) R.l i d);have HRR:Hid (r=(aJ R.l i [40]).bind fun _ j=>(a_ f R.l j d 0).bind fun x j=>(aJ R.l j [41]).bind fun _ j=>.ok x j):=by show _=_;rw[hr,qJ]
 rw[←hr]at hno⊢;have fH:=ai hno;obtain⟨w1,hw1⟩:=bF (w.alloc (.cells #[gW R.rb 0] 75));have dH:=nS hw1
 have kK:=nB hw1
 have HW1:=ai hw1;have H1:=ai (h.quiet dH.o);have hn1:=aP kK.o;have uq:=aP h.blk;have bZ:Hid (∀X:World,Step (·=R.rb) w1 X→X.cell? ⟨w.heap.size,0,none⟩=some (.pointer (some ⟨R.rb,0,none⟩))):=fun X hX=>aj (hX.keep kK.o om) 0 _ rfl
 have p0:=bZ.o w1 bg;clear ih hl h hno hr hw1;go_enter Tryz.func158,Tryz.ntmps158;go_upto_region 1 with fail
 rw[←HW1.o];go_wp2_with fail;refine(dL R HL.o w1.heap.size ⟨#[40]⟩ _ i d (H1.o.quiet (bg.alloc _)) dc (aj (aC _ _) 0 _ rfl)).mono ?_;rintro e w2 hp;have hp2:aK R d iJ (aJ R.l i [40]) _ e w2:=hp;cases hn:aJ R.l i [40]with
 |out=>exact(dJ hn).elim
 |err c ln col=>rw[hn]at hp2;obtain⟨rfl,s2⟩:=hp2;refine⟨rfl,?_⟩;rw[HRR.o,hn];exact⟨rfl,(dH.o.mono fe).trans (((Step.refl (·=R.rb) _).alloc _).trans s2)⟩
 |ok u j=>
  have HN:=ai hn;rw[hn]at hp2;obtain⟨⟨v,rfl,rfl⟩,hr2,s2⟩:=hp2;have H2:=ai hr2;have HS2:Hid (Step (·=R.rb) w1 w2):=((Step.refl (·=R.rb) _).alloc _).trans s2;clear hn hr2 s2 p0 hp;have p0:=bZ.o w2 HS2.o;go_wp2_with fail;cases hx:a_ f R.l j d 0 with
  |out=>exact absurd (by rw[HRR.o,HN.o,dI.bind_ok,hx];rfl) fH.o
  |err c ln col=>have HX:=ai hx;clear hx;refine(HEX.o _ j H2.o (by rw[HX.o];intro h;cases h)).mono ?_;rintro e wq hp;rw[HX.o]at hp;obtain⟨rfl,sq⟩:=hp;refine⟨rfl,?_⟩;rw[HRR.o,HN.o,dI.bind_ok,HX.o];exact⟨rfl,((dH.o.mono fe).trans HS2.o).trans sq⟩
  |ok x jx=>
   have HX:=ai hx;clear hx;refine(HEX.o _ j H2.o (by rw[HX.o];intro h;cases h)).mono ?_;rintro e wx hp;rw[HX.o]at hp;obtain⟨⟨v,rfl,cs,rfl,hy⟩,hrx,hsx⟩:=hp;have HY:=ai hy;have dQ:=ai hy.one;obtain⟨k0,iK,v0,iL,a1,n1,c1,a2,n2,c2,a3,n3,c3,l0,c0,rfl⟩:=hy.parts;have vO:=ai hrx;have qm:=ai (HS2.o.trans hsx);obtain⟨w3,hw3⟩:=bF (wx.alloc (.cells #[ah k0,aI iK,aX v0,bK iL,.slice a1 n1 c1,.slice a2 n2 c2,.slice a3 n3 c3,ah l0,ah c0] 56));(have jX:Hid (jg wx w3):=by rw[hw3];exact bg.alloc _);(have HB3:Hid (w3.heap[wx.heap.size]?=some (.cells #[ah k0,aI iK,aX v0,bK iL,.slice a1 n1 c1,.slice a2 n2 c2,.slice a3 n3 c3,ah l0,ah c0] 56 (0,0))):=by rw[hw3];exact aC _ _);have HW3:=ai hw3;have H3:=ai (vO.o.quiet jX.o);have oH:Hid (Step (·=R.rb) w1 w3):=qm.o.trans (jX.o.mono fe);have hz2:=HS2.o.size;have hzx:=hsx.size;clear hy hrx hsx hw3 p0;have p0:=bZ.o w3 oH.o;(go_upto_region 3 with fail);rw[←HW3.o];go_wp2_with fail;refine(dL R HL.o w3.heap.size ⟨#[41]⟩ _ jx d (H3.o.quiet (bg.alloc _)) dc (aj (aC _ _) 0 _ rfl)).mono ?_;rintro e w4 hp;have hp2:aK R d iJ (aJ R.l jx [41]) _ e w4:=hp;cases hn:aJ R.l jx [41]with
   |out=>exact(dJ hn).elim
   |err c ln col=>rw[hn]at hp2;obtain⟨rfl,s4⟩:=hp2;refine⟨rfl,?_⟩;rw[HRR.o,HN.o,dI.bind_ok,HX.o,dI.bind_ok,hn];exact⟨rfl,((dH.o.mono fe).trans oH.o).trans (((Step.refl (·=R.rb) _).alloc _).trans s4)⟩
   |ok u2 j4=>have JY:=ai hn;rw[hn]at hp2;obtain⟨⟨v,rfl,rfl⟩,hr4,s4⟩:=hp2;have H4:=ai hr4;have yO:Hid (Step (·=R.rb) w3 w4):=((Step.refl (·=R.rb) _).alloc _).trans s4;have HB4:=ai (yO.o.keep HB3.o om);(have bJ:Hid (∀(jj:Nat) v,[Value.int .i64 k0,aI iK,aX v0,bK iL,.slice a1 n1 c1,.slice a2 n2 c2,.slice a3 n3 c3,ah l0,ah c0][jj]?=some v→w4.cell? ⟨wx.heap.size,0+jj,none⟩=some v):=by intro jj v hv;rw[Nat.zero_add];exact aj HB4.o jj v pO);clear hn hr4 s4 p0 hp;go_wp2_with (refine aN rfl 56 (.tmp 3) rfl wx.heap.size 0 rfl [.int .i64 k0,.string iK,.int .u64 v0,.bool iL,.slice a1 n1 c1,.slice a2 n2 c2,.slice a3 n3 c3,.int .i64 l0,.int .i64 c0] _ bJ.o Tryz.underlying56 rfl Tryz.aO ?_);go_ret;rw[HRR.o,HN.o,dI.bind_ok,HX.o,dI.bind_ok,JY.o];have hz1:=dH.o.size;have hz34:=yO.o.size;have hz3:=aP HB3.o;have hal:jg w4 (w4.alloc (.cells #[ah k0,aI iK,aX v0,bK iL,.slice a1 n1 c1,.slice a2 n2 c2,.slice a3 n3 c3,ah l0,ah c0] 56)):=bg.alloc _;have hx4:Step (·=R.rb) wx (w4.alloc (.cells #[ah k0,aI iK,aX v0,bK iL,.slice a1 n1 c1,.slice a2 n2 c2,.slice a3 n3 c3,ah l0,ah c0] 56)):=((jX.o.mono fe).trans yO.o).trans (hal.mono fe);refine⟨⟨_,rfl,_,dh.new (aC _ _) dc om,bY.single (dA.mono oi _ _ (dA.step hx4 oi _ _ HY.o))⟩,H4.o.quiet hal,?_⟩;exact(((dH.o.mono fe).trans oH.o).trans yO.o).trans (hal.mono fe)
theorem Tryz.CJ:(Tryz.prog.info? 56).map (fun i=>(i.zero,i.size,i.bytes))=some (some (.agg #[ah 0,dG,aX 0,aW,ak,ak,ak,ah 0,ah 0]),9,128):=by kernel_rfl
structure J_ (R:gI) (w1:World) (d:Nat) (X:World) (i':Nat) (acc:List Ex) (va:Value) (xs:List Value):Prop where
 rd:bC R X i' d
 ow:X.ownsRow w1.heap.size 56 9 va acc.length xs
 el:bY X (fun q=>w1.heap.size≤q∧va.ownBlock≠some q) acc xs
 few:acc.length≤8
 st:Step (·=R.rb) w1 X
theorem J_.read {R:gI} {w1:World} {d:Nat} {X X':World} {i' i2:Nat} {acc:List Ex} {va:Value} {xs:List Value} (h:J_ R w1 d X i' acc va xs) (hw:R.rb<w1.heap.size) (hr:bC R X' i2 d) (hs:Step (·=R.rb) X X'):J_ R w1 d X' i2 acc va xs:=
 ⟨hr,hs.owns h.ow oi,bY.step hs (fun q hq e=>by have:=hq.1;omega) _ _ h.el,h.few,h.st.trans hs⟩
theorem J_.push {R:gI} {w1:World} {d:Nat} {X X2 X3:World} {i' i2:Nat} {acc:List Ex} {va v9:Value} {xs cs:List Value} {x:Ex} (h:J_ R w1 d X i' acc va xs) (hw:R.rb<w1.heap.size) (hr:bC R X2 i2 d) (hs:Step (·=R.rb) X X2) (hx:dA X2 (fun q=>X.heap.size≤q) x cs) (hown:X3.ownsRow w1.heap.size 56 9 v9 (acc.length+1) (xs++cs)) (hgrow:X2.grownBy X3 va.ownBlock) (hat:v9.ownBlock=va.ownBlock∨v9.ownBlock=some X2.heap.size) (hlt:acc.length<8):J_ R w1 d X3 i2 (acc++[x]) v9 (xs++cs):=by
 have h2:=h.read hw hr hs;have h3:Step (fun q=>va.ownBlock=some q) X2 X3:=iZ hgrow;have ho:∀q,va.ownBlock=some q→w1.heap.size≤q∧q<X.heap.size:=fun q hq=>h.ow.lt q hq;have hlen:(acc++[x]).length=acc.length+1:=by simp
 have hnew:∀q,q<X2.heap.size→va.ownBlock≠some q→v9.ownBlock≠some q:=by
  intro q hq hn e;rcases hat with h7|h7
  ·exact hn (by rw[←h7];exact e)
  ·rw[h7]at e;have e2:X2.heap.size=q:=Option.some.inj e;omega
 refine⟨h2.rd.step h3 (fun q hq e=>by have:=(ho q e).1;omega),by rw[hlen];exact hown,bY.snoc ?_ ?_,by rw[hlen];omega,h2.st.then h3 (fun q hq e=>by have:=(ho q e).1;omega)⟩
 ·have h5:=bY.mono (P':=fun q=>(w1.heap.size≤q∧va.ownBlock≠some q)∧q<X2.heap.size) (fun q h7 h8=>⟨h8,h7⟩) _ _ h2.el;have h6:=bY.step h3 (fun q hq e=>hq.1.2 e) _ _ h5;exact bY.mono (fun q _ hq=>⟨hq.1.1,hnew q hq.2 hq.1.2⟩) _ _ h6
 ·have h5:=dA.mono (P':=fun q=>X.heap.size≤q∧q<X2.heap.size) (fun q h7 h8=>⟨h8,h7⟩) _ _ hx;have h6:=dA.step h3 (fun q hq e=>by have:=(ho q e).2;omega) _ _ h5;refine dA.mono (fun q _ hq=>⟨by have:=h.st.size;omega,hnew q hq.2 (fun e=>by have:=(ho q e).2;omega)⟩) _ _ h6
theorem NY (f:Nat) (ih:∀f',f'<f→ni f'):CG f:=by
 intro R w i d hl h hd hno;obtain⟨f,rfl⟩:∃f',f=f'+1:=by
  cases f with
  |zero=>exact absurd (by rw[lG]) hno
  |succ f=>exact⟨f,rfl⟩
 have HL:=ai hl;have HEX:Hid (∀f' X j,f'<f+1→bC R X j d→a_ f' R.l j d 0≠.out→Calls Tryz.prog 40 #[.agg #[gW R.rb 0]] X (aK R d (JH X.heap.size) (a_ f' R.l j d 0) X)):=fun f' X j hf hX hn=>lQ f' (ih f' hf) R X j d hl hX hd hn;obtain⟨r,hr⟩:=bF (lG (f+1) R.l i d);have HRR:Hid (r=if bG R.l i [41]then .ok [] (i+1)else oK f R.l i d []):=by show _=_;rw[hr,lG]
 rw[←hr]at hno⊢;have fH:=ai hno;obtain⟨w1,hw1⟩:=bF (w.alloc (.cells #[gW R.rb 0] 75));have dH:=nS hw1
 have kK:=nB hw1
 have HW1:=ai hw1;have H1:=ai (h.quiet dH.o);have hn1:=aP kK.o;have uq:=aP h.blk;have bZ:Hid (∀X:World,Step (·=R.rb) w1 X→X.cell? ⟨w.heap.size,0,none⟩=some (.pointer (some ⟨R.rb,0,none⟩))):=fun X hX=>aj (hX.keep kK.o om) 0 _ rfl
 obtain⟨i0,hi0,hz0,hz1,hz2⟩:=info_parts Tryz.CJ;have HI:=ai hi0;have HZ0:=ai hz0;have HZ1:=ai hz1;have HZ2:=ai hz2;have p0:=bZ.o w1 bg;clear ih hl h hno hr hw1 hi0 hz0 hz1 hz2;go_enter Tryz.func148,Tryz.ntmps148;go_upto_region 1 with fail
 rw[←HW1.o];go_wp2_with fail;cases hb:bG R.l i [41]with
 |true=>have HB:=ai hb;clear hb;refine(cZ R HL.o ⟨#[41]⟩ _ i d H1.o dc HB.o).mono ?_;rintro e w2 ⟨rfl,hr2,h2⟩;have HR2:=ai hr2;have HS2:=ai h2;clear hr2 h2 p0;go_wp2_with fail;go_ret;rw[HRR.o,HB.o,if_pos rfl];exact⟨⟨_,rfl,[],dh.nil _ _ _,by rw[bY]⟩,HR2.o,(dH.o.mono fe).trans HS2.o⟩
 |false=>
  have HB:=ai hb;have kY:Hid (r=oK f R.l i d []):=by show _=_;rw[HRR.o,hb,if_neg dc]
  clear hb;refine(dU R HL.o ⟨#[41]⟩ _ i d H1.o dc HB.o).mono ?_;rintro e w2 ⟨rfl,hr2,h2⟩;have HR2:=ai hr2;have HS2:=ai h2;clear hr2 h2 p0;go_wp2_with fail;go_loopg [3] f (fun gg s3 wr=>gg≤f∧∃(i':Nat) (acc:List Ex) (xs:List Value),r=oK gg R.l i' d acc∧J_ R w1 d wr i' acc s3 xs);case atStart=>exact⟨Nat.le_refl _,i,[],[],kY.o,HR2.o,World.ownsRow_nil _ _ _ _,by rw[bY],by simp,HS2.o⟩
  case round=>
   obtain⟨hgf,i',acc,xs,hrq,hst⟩:=hrel;obtain⟨gn,rfl⟩:∃gn,gk=gn+1:=by
    cases gk with
    |zero=>exact absurd hrq (by rw[oK];exact fH.o)
    |succ gn=>exact⟨gn,rfl⟩
   (have tX:Hid (r=(eU acc.length 8 R.l i').bind fun _ i=>(a_ gn R.l i d 0).bind fun x j=>if bG R.l j [44]then oK gn R.l (j+1) d (acc++[x])else(aJ R.l j [41]).bind fun _ j=>.ok (acc++[x]) j):=by show _=_;rw[hrq,oK]);obtain⟨oa,oc,rfl⟩:=b_ hst.ow;have HST:=ai hst;have p0:=bZ.o wr hst.st;have hfew:=hst.few;clear hrq hst;go_wp2_with fail;refine(mr R wr acc.length 8 i' d HST.o.rd).mono ?_;rintro e w3 hp;cases hn:eU acc.length 8 R.l i' with
   |out=>exact(kX hn).elim
   |err c ln col=>rw[hn]at hp;obtain⟨rfl,s3⟩:=hp;refine⟨rfl,?_⟩;rw[tX.o,hn];exact⟨rfl,((dH.o.mono fe).trans HST.o.st).trans s3⟩
   |ok u j=>
    have hji:j=i'∧acc.length<8:=by
     unfold eU at hn;split at hn
     ·cases hn
     ·cases hn;exact⟨rfl,by omega⟩
    obtain⟨rfl,FW⟩:=hji;have HN:=ai hn;rw[hn]at hp;obtain⟨⟨v,rfl,rfl⟩,hr3,s3⟩:=hp;have fP:=ai (HST.o.read om hr3 s3);have qf:=ai (tX.o.trans (tV HN.o));clear hn hr3 s3 p0;have p0:=bZ.o w3 fP.o.st;go_wp2_with fail;cases hx:a_ gn R.l j d 0 with
    |out=>exact absurd (by rw[qf.o,hx];rfl) fH.o
    |err c ln col=>have HX:=ai hx;clear hx;refine(HEX.o gn _ j om fP.o.rd (by rw[HX.o];intro h;cases h)).mono ?_;rintro e wq hp;rw[HX.o]at hp;obtain⟨rfl,sq⟩:=hp;refine⟨rfl,?_⟩;rw[qf.o,HX.o];exact⟨rfl,((dH.o.mono fe).trans fP.o.st).trans sq⟩
    |ok x jx=>
     have HX:=ai hx;clear hx;refine(HEX.o gn _ j om fP.o.rd (by rw[HX.o];intro h;cases h)).mono ?_;rintro e wx hp;rw[HX.o]at hp;obtain⟨⟨v,rfl,cs,rfl,hy⟩,hrx,hsx⟩:=hp;have HY:=ai hy;have dQ:=ai hy.one;obtain⟨k0,iK,v0,iL,a1,n1,c1,a2,n2,c2,a3,n3,c3,l0,c0,rfl⟩:=hy.parts;have vO:=ai hrx;have qm:=ai hsx;have Ph:=ai (qf.o.trans (tV HX.o));obtain⟨w4,hw4⟩:=bF (wx.alloc (.cells #[ah k0,aI iK,aX v0,bK iL,.slice a1 n1 c1,.slice a2 n2 c2,.slice a3 n3 c3,ah l0,ah c0] 56));(have ji:Hid (jg wx w4):=by rw[hw4];exact bg.alloc _);have yO:Hid (Step (·=R.rb) w3 w4):=hsx.trans (ji.o.mono fe);(have F5:Hid ((wx.alloc (.cells #[ah k0,aI iK,aX v0,bK iL,.slice a1 n1 c1,.slice a2 n2 c2,.slice a3 n3 c3,ah l0,ah c0] 56)).ownsRow w1.heap.size 56 9 (.slice oa acc.length oc) acc.length xs):=by rw[←hw4];exact yO.o.owns fP.o.ow oi);have yU:Hid (Row (wx.alloc (.cells #[ah k0,aI iK,aX v0,bK iL,.slice a1 n1 c1,.slice a2 n2 c2,.slice a3 n3 c3,ah l0,ah c0] 56)) (wx.heap.size+1) (.slice (some ⟨wx.heap.size,0,none⟩) 1 1) 1 [.int .i64 k0,.string iK,.int .u64 v0,.bool iL,.slice a1 n1 c1,.slice a2 n2 c2,.slice a3 n3 c3,.int .i64 l0,.int .i64 c0]):=Row.new (aC _ _) dc;(have F6:Hid (w1.heap.size≤(wx.alloc (.cells #[ah k0,aI iK,aX v0,bK iL,.slice a1 n1 c1,.slice a2 n2 c2,.slice a3 n3 c3,ah l0,ah c0] 56)).heap.size):=by rw[←hw4];exact Nat.le_trans fP.o.st.size yO.o.size);have HR4:=ai (hrx.quiet ji.o);have NZ:Hid (dA w4 (fun q=>w3.heap.size≤q) x [.int .i64 k0,.string iK,.int .u64 v0,.bool iL,.slice a1 n1 c1,.slice a2 n2 c2,.slice a3 n3 c3,.int .i64 l0,.int .i64 c0]):=dA.step ji.o (fun _ _ h=>h) _ _ hy;have UE:=ai hw4;clear hy hrx hsx p0 hw4
     go_upto_region 6 with(refine jU _ rfl (wx.heap.size+1) (.tmp 12) (.tmp 15) 54 rfl w1.heap.size 56 i0 (.agg #[ah 0,dG,aX 0,aW,ak,ak,ak,ah 0,ah 0]) 9 128 Tryz.underlying54 HI.o HZ0.o HZ1.o HZ2.o rfl dc _ _ _ (by simp[Act.eval]) F5.o _ 1 _ (by simp[Act.eval]) yU.o rfl dQ.o (by unfold maxLen;omega) om F6.o ?_
                           intro v9 w9 iU gJ oG)
     rw[←UE.o]at gJ oG;have iM:=ai (fP.o.push om HR4.o yO.o NZ.o iU gJ oG FW);clear iU gJ oG;have p0:=bZ.o w9 iM.o.st;go_wp2_with fail;cases hc:bG R.l jx [44]with
     |true=>
      have HC:=ai hc;clear hc;refine(cZ R HL.o ⟨#[44]⟩ _ jx d iM.o.rd dc HC.o).mono ?_;rintro e w6 ⟨rfl,o9,s6⟩;have fA:=ai (iM.o.read om o9 s6);(have yR:Hid (r=oK gn R.l (jx+1) d (acc++[x])):=by show _=_;rw[Ph.o,HC.o,if_pos rfl]);clear o9 s6 p0;go_wp2_with fail;go_roundg gn;case rel=>exact⟨by omega,jx+1,acc++[x],_,yR.o,fA.o⟩
      case measure=>omega
     |false=>
      have HC:=ai hc;clear hc;refine(dU R HL.o ⟨#[44]⟩ _ jx d iM.o.rd dc HC.o).mono ?_;rintro e w6 ⟨rfl,o9,s6⟩;have fA:=ai (iM.o.read om o9 s6);(have yR:Hid (r=(aJ R.l jx [41]).bind fun _ j=>.ok (acc++[x]) j):=by show _=_;rw[Ph.o,HC.o,if_neg dc]);clear o9 s6 p0;have p0:=bZ.o w6 fA.o.st;go_wp2_with fail;refine(dL R HL.o w6.heap.size ⟨#[41]⟩ _ jx d (fA.o.rd.quiet (bg.alloc _)) dc (aj (aC _ _) 0 _ rfl)).mono ?_;rintro e w7 hp;have hp2:aK R d iJ (aJ R.l jx [41]) _ e w7:=hp;cases hn:aJ R.l jx [41]with
      |out=>exact(dJ hn).elim
      |err c ln col=>rw[hn]at hp2;obtain⟨rfl,s7⟩:=hp2;refine⟨rfl,?_⟩;rw[yR.o,hn];exact⟨rfl,((dH.o.mono fe).trans fA.o.st).trans (((Step.refl (·=R.rb) _).alloc _).trans s7)⟩
      |ok u j2=>have HN7:=ai hn;rw[hn]at hp2;obtain⟨⟨v,rfl,rfl⟩,Xb,s7⟩:=hp2;have rY:=ai (fA.o.read om Xb (((Step.refl (·=R.rb) _).alloc _).trans s7));clear hn Xb s7 p0 hp;go_wp2_with fail;go_ret;rw[yR.o,HN7.o];have hz:=dH.o.size;refine⟨⟨_,rfl,_,dh.jd rY.o.ow (fun q hq=> ?_),bY.mono (fun q _ hq=>by have:=hq.1;omega) _ _ rY.o.el⟩,rY.o.rd,(dH.o.mono fe).trans rY.o.st⟩;have:=(rY.o.ow.lt q hq).1;omega
theorem Tryz.eG:(Tryz.prog.info? 89).map (·.size)=some 17:=by kernel_rfl
theorem Tryz.Qx:(Tryz.prog.info? 89).map (fun i=>(i.zero,i.size,i.bytes))=some (some (.agg #[ah 0,dG,ah 0,dG,dG,aW,ak,ak,ah 0,ah 0,ak,ak,ak,ak,aW,ah 0,ah 0]),17,256):=by kernel_rfl
theorem StEl (a:St):yP (fun w P cs=>jS w P a cs):=⟨fun _ _ _ _ cs hs hP h=>jS.step hs hP a cs h,fun _ _ _ cs hp h=>jS.mono hp a cs h⟩
def vU (f:Nat) (l:List Tok) (i d:Nat):dI (List St):=(aJ l i [123]).bind fun _ j=>lY f l j d []
theorem Ar (f:Nat) (l:List Tok) (i d:Nat):bU (f+1) l i d=if d=40 then iw 2 l i else vU f l i (d+1):=by rw[bU];rfl
def Bv (n0 bt:Nat) (w':World) (a:List St):Prop:=∃(v:Value) (xs:List Value),w'.heap[bt]?=some (.cells #[v] 49 (0,0))∧dh w' (fun k=>n0≤k) v a.length xs∧eP w' (fun k=>n0≤k) a xs
structure Qy (R:gI) (w:World) (bt d:Nat) (X:World) (i':Nat) (acc:List St) (va:Value) (xs:List Value):Prop where
 rd:bC R X i' d
 blk:X.heap[bt]?=some (.cells #[va] 49 (0,0))
 ow:X.ownsRow w.heap.size 89 17 va acc.length xs
 el:eP X (fun q=>w.heap.size≤q∧va.ownBlock≠some q) acc xs
 st:Step (fun q=>q=R.rb∨q=bt) w X
theorem Qy.read {R:gI} {w:World} {bt d:Nat} {X X':World} {i' i2:Nat} {acc:List St} {va:Value} {xs:List Value} (h:Qy R w bt d X i' acc va xs) (hw:R.rb<w.heap.size) (hb:R.rb≠bt) (hr:bC R X' i2 d) (hs:Step (·=R.rb) X X'):Qy R w bt d X' i2 acc va xs:=
 ⟨hr,hs.keep h.blk (fun e=>hb e.symm),hs.owns h.ow oi,eP.step hs (fun q hq e=>by have:=hq.1;omega) _ _ h.el,h.st.trans (hs.mono il)⟩
theorem Ko (R:gI) (f:Nat) (ih:∀f',f'<f→FZ f') (hf:f≤1000000) (bp bt:Nat) (w:World) (i d:Nat) (hl:oJ R.l) (h:bC R w i d) (hd:d≤40) (hbp:w.heap[bp]?=some (.cells #[gW R.rb 0] 75 (0,0))) (hbt:w.heap[bt]?=some (.cells #[ak] 49 (0,0))) (hb1:R.rb<bp) (hb2:bp<bt) (hno:vU f R.l i d≠.out):Calls Tryz.prog 126 #[.pointer (some ⟨bp,0,none⟩),.pointer (some ⟨bt,0,none⟩)] w (aY R d bt (Bv w.heap.size bt) (vU f R.l i d) w):=by
 have HL:=ai hl;have H0:=ai h;have IH:=ai ih;obtain⟨r,hr⟩:=bF (vU f R.l i d);have HRR:Hid (r=(aJ R.l i [123]).bind fun _ j=>lY f R.l j d []):=by show _=_;rw[hr];rfl
 rw[←hr]at hno⊢;have fH:=ai hno;have JS:=aP hbt;have Iy:=ai hbt;have bZ:Hid (∀X:World,Step (fun q=>q=R.rb∨q=bt) w X→X.cell? ⟨bp,0,none⟩=some (.pointer (some ⟨R.rb,0,none⟩))):=fun X hX=>aj (hX.keep hbp om) 0 _ rfl
 obtain⟨j0,hj0,hy0,hy1,hy2⟩:=info_parts Tryz.Qx;have HJ:=ai hj0;have HY0:=ai hy0;have HY1:=ai hy1;have HY2:=ai hy2;have p0:=bZ.o w bg;clear ih hl h hbp hbt hr hno hj0 hy0 hy1 hy2;go_enter Tryz.func126,Tryz.ntmps126;go_wp2_with fail;refine(dL R HL.o w.heap.size ⟨#[123]⟩ _ i d (H0.o.quiet (bg.alloc _)) dc (aj (aC _ _) 0 _ rfl)).mono ?_;rintro e w2 hp;have hp2:aK R d iJ (aJ R.l i [123]) _ e w2:=hp;cases hn:aJ R.l i [123]with
 |out=>exact(dJ hn).elim
 |err c ln col=>rw[hn]at hp2;obtain⟨rfl,s2⟩:=hp2;refine⟨rfl,aY.aU (c:=c) (ln:=ln) (col:=col) (by rw[HRR.o,hn];rfl) rfl ?_⟩;exact(((Step.refl (·=R.rb) _).alloc _).trans s2).mono il
 |ok u j=>
  have HN:=ai hn;rw[hn]at hp2;obtain⟨⟨v,rfl,rfl⟩,hr2,s2⟩:=hp2;have HS2:Hid (Step (·=R.rb) w w2):=((Step.refl (·=R.rb) _).alloc _).trans s2;have HR2:=ai hr2;have kY:Hid (r=lY f R.l j d []):=by show _=_;rw[HRR.o,HN.o];rfl
  have qK:=ai (HS2.o.keep Iy.o om);clear hn hr2 s2 p0 hp;go_wp2_with fail;go_loopg [] f (fun gg wr=>gg≤f∧∃(i':Nat) (acc:List St) (va:Value) (xs:List Value),r=lY gg R.l i' d acc∧acc.length+gg≤f∧Qy R w bt d wr i' acc va xs);case atStart=>exact⟨Nat.le_refl _,j,[],.slice none 0 0,[],kY.o,by simp,HR2.o,qK.o,World.ownsRow_nil _ _ _ _,by rw[eP],HS2.o.mono il⟩
  case round=>
   obtain⟨hgf,i',acc,va,xs,hrq,hal,hst⟩:=hrel;obtain⟨gn,rfl⟩:∃gn,gk=gn+1:=by
    cases gk with
    |zero=>exact absurd hrq (by rw[lY];exact fH.o)
    |succ gn=>exact⟨gn,rfl⟩
   (have tX:Hid (r=if bG R.l i' [125]then .ok acc (i'+1)else(rE gn R.l i' d).bind fun s j=>lY gn R.l j d (acc++[s])):=by show _=_;rw[hrq,lY]);obtain⟨oa,oc,rfl⟩:=b_ hst.ow;have HST:=ai hst;have p0:=bZ.o wr hst.st;clear hrq hst;go_wp2_with fail;cases hb:bG R.l i' [125]with
   |true=>have HB:=ai hb;clear hb;refine(cZ R HL.o ⟨#[125]⟩ _ i' d HST.o.rd dc HB.o).mono ?_;rintro e w3 ⟨rfl,hr3,h3⟩;have fP:=ai (HST.o.read om om hr3 h3);clear hr3 h3 p0;go_wp2_with fail;refine bodyPost_end (results_none rfl _ _ _) rfl ?_;refine aY.dN (a:=acc) (j:=i'+1) (by rw[tX.o,HB.o,if_pos rfl]) rfl ⟨_,xs,fP.o.blk,dh.jd fP.o.ow (fun q hq=>(fP.o.ow.lt q hq).1),eP.mono (fun q _ hq=>hq.1) _ _ fP.o.el⟩ fP.o.rd fP.o.st
   |false=>
    have HB:=ai hb;clear hb;refine(dU R HL.o ⟨#[125]⟩ _ i' d HST.o.rd dc HB.o).mono ?_;rintro e w3 ⟨rfl,hr3,h3⟩;obtain⟨w4,rfl⟩:=bF w3;have fD:=ai (HST.o.read om om hr3 h3);have Qn:=ai (tX.o.trans (wZ HB.o));clear hr3 h3 p0;have Hr:Hid (∀X:World,Step (fun q=>q=R.rb∨q=bt∨(Value.slice oa acc.length oc).ownBlock=some q) w4 X→X.cell? ⟨bp,0,none⟩=some (.pointer (some ⟨R.rb,0,none⟩))):=by
     show∀X,_;intro X hX;refine hX.cell (bZ.o w4 fD.o.st) (fun e=> ?_);have e2:bp=R.rb∨bp=bt∨(Value.slice oa acc.length oc).ownBlock=some bp:=e;rcases e2 with e2|e2|e2
     ·omega
     ·omega
     ·have:=(fD.o.ow.lt _ e2).1;omega
    have HO:Hid (xB R w4 2 4 5 6 7 8 bt w.heap.size 17 acc.length (.slice oa acc.length oc) xs [Value.int .i64 0,dG,ah 0,dG,dG,aW,ak,ak,ah 0,ah 0,ak,ak,ak,ak,aW,ah 0,ah 0]):=
     ⟨by decide,by decide,by decide,by decide,by decide,by decide,by decide,by decide,by decide,by omega,JS,fD.o.st.size,fun q hq=>fD.o.ow.lt q hq,fD.o.el.len,rfl⟩
    (have Qq:Hid (∀u∈[Value.int .i64 0,dG,ah 0,dG,dG,aW,ak,ak,ah 0,ah 0,ak,ak,ak,ak,aW,ah 0,ah 0],u.oneCell'=true):=by intro u hu;simp at hu;rcases hu with rfl|rfl|rfl|rfl|rfl|rfl|rfl|rfl|rfl|rfl|rfl|rfl|rfl|rfl|rfl|rfl|rfl<;>rfl);(have hacl:acc.length≤1000000:=by omega);(go_upto_region 2 with fail);cases hx:rE gn R.l i' d with
    |out=>exact absurd (by rw[Qn.o,hx];rfl) fH.o
    |err c ln col=>
     have HX:=ai hx;clear hx;obtain⟨sx,-⟩:∃sx:St,sx=jP 0 dB fK [] [] [] [] false LP:=⟨_,rfl⟩;obtain⟨j2,-⟩:∃j2:Nat,j2=0:=⟨_,rfl⟩;have HE:Hid (yP (fun w P cs=>jS w P sx cs)):=StEl sx;have vP:Hid (∀V,jH R i' j2 d w4 2 4 5 6 7 8 bt (fun v=>.cells #[v] 49 (0,0)) w.heap.size 89 17 acc.length (.slice oa acc.length oc) xs [Value.int .i64 0,dG,ah 0,dG,dG,aW,ak,ak,ah 0,ah 0,ak,ak,ak,ak,aW,ah 0,ah 0] (fun w P cs=>jS w P sx cs) [some (.slice oa acc.length oc),some (.agg #[gW R.rb 0]),none,some (.int .i64 (acc.length:Int)),none,none,none,none,none] (fun _=>false) V w4.drew):=fun V=>jH.zero (bg.drew) fD.o.rd fD.o.ow fD.o.blk;(have vS:Hid (∀X,bC R X i' d→Calls Tryz.prog 127 #[.agg #[gW R.rb 0]] X fun e wq=>e=.panicked [{v:=.iface 184 (.agg #[ah c,ah ln,ah col]),recovered:=false}]∧Step (·=R.rb) X wq):=by intro X hX;have h9:=IH.o gn om R X i' d HL.o hX hd (by rw[HX.o];intro h;cases h);rw[HX.o]at h9;exact h9);have CB:Hid (∀X wq:World,Step (fun q=>q=R.rb∨q=bt∨(Value.slice oa acc.length oc).ownBlock=some q) w4 X→Step (·=R.rb) X wq→aY R d bt (Bv w.heap.size bt) r w (.panicked [{v:=.iface 184 (.agg #[ah c,ah ln,ah col]),recovered:=false}]) wq):=by
      show∀X wq,_;intro X wq h1 h2;refine aY.aU (c:=c) (ln:=ln) (col:=col) (by rw[Qn.o,HX.o];rfl) rfl (fD.o.st.then (h1.trans (h2.mono il)) (fun q hq e=> ?_));rcases e with e|e|e
      ·exact .inl e
      ·exact .inr e
      ·have:=(fD.o.ow.lt _ e).1;omega
     refine bD kr (fun L V X=>jH R i' j2 d w4 2 4 5 6 7 8 bt (fun v=>.cells #[v] 49 (0,0)) w.heap.size 89 17 acc.length (.slice oa acc.length oc) xs [Value.int .i64 0,dG,ah 0,dG,dG,aW,ak,ak,ah 0,ah 0,ak,ak,ak,ak,aW,ah 0,ah 0] (fun w P cs=>jS w P sx cs) [some (.slice oa acc.length oc),some (.agg #[gW R.rb 0]),none,some (.int .i64 (acc.length:Int)),none,none,none,none,none] L V X∧L 2=false) 9 rfl kr kr kr kr ?h0 ?hs ?hdone;case h0=>exact⟨vP.o _,rfl⟩
     case hs=>
      refine⟨?_,?_,?_,?_,?_,?_,?_,?_,?_,trivial⟩
      all_goals intro L V X a ev ig hdf hL ay hJ
      ·have o1:=ig 1 rfl;change a.tmps[1]?.getD undef=.pointer (some ⟨bt,0,none⟩)at o1;have hZ:=(hJ.1.FV (hJ.1.Qk dc hL)).1;have hb:=hJ.1.blk;rw[hZ,if_neg dc]at hb;have q0:X.cell? ⟨bt,0,none⟩=some (.slice oa acc.length oc):=aj hb 0 _ rfl;go_simp;exact⟨_,rfl,⟨hJ.1.up 0 dc dc dc dc dc dc rfl,by rw[aA _ dc];exact hJ.2⟩⟩
      ·have o0:=ig 0 rfl;change a.tmps[0]?.getD undef=.pointer (some ⟨bp,0,none⟩)at o0;have p0:=Hr.o X hJ.1.st;go_simp;exact⟨_,rfl,⟨hJ.1.up 1 dc dc dc dc dc dc rfl,by rw[aA _ dc];exact hJ.2⟩⟩
      ·have e11:=(ev 1 11 rfl (ay 1 rfl)).trans (hJ.1.iD 1 _ rfl (ay 1 rfl));have hrd:=hJ.1.rd;rw[hL,if_neg dc]at hrd;go_simp;refine(vS.o X hrd).mono ?_;rintro e wq ⟨rfl,hs⟩;exact⟨hdf,CB.o X wq hJ.1.st hs⟩
      ·have e10:=(ev 0 10 rfl (ay 0 rfl)).trans (hJ.1.iD 0 _ rfl (ay 0 rfl));go_simp;exact⟨_,rfl,⟨hJ.1.up 3 dc dc dc dc dc dc rfl,by rw[aA _ dc];exact hJ.2⟩⟩
      ·have hu:=hJ.1.build HE.o HO.o hL rfl;go_simp;exact⟨_,rfl,⟨hu,by rw[aA _ dc];exact hJ.2⟩⟩
      ·have e10:=(ev 0 10 rfl (ay 0 rfl)).trans (hJ.1.iD 0 _ rfl (ay 0 rfl));exact absurd hJ.2 (by rw[ay 2 rfl];decide)
      ·have e13:=(ev 3 13 rfl (ay 3 rfl)).trans (hJ.1.iD 3 _ rfl (ay 3 rfl));exact absurd hJ.2 (by rw[ay 2 rfl];decide)
      ·exact absurd hJ.2 (by rw[ay 2 rfl];decide)
      ·have o1:=ig 1 rfl;change a.tmps[1]?.getD undef=.pointer (some ⟨bt,0,none⟩)at o1;exact absurd hJ.2 (by rw[ay 2 rfl];decide)
     case hdone=>intro L V X hall hJ;exact absurd hJ.2 (by rw[hall 2 dc];decide)
    |ok sx j2=>
     have HX:=ai hx;clear hx;have HE:Hid (yP (fun w P cs=>jS w P sx cs)):=StEl sx;have vP:Hid (∀V,jH R i' j2 d w4 2 4 5 6 7 8 bt (fun v=>.cells #[v] 49 (0,0)) w.heap.size 89 17 acc.length (.slice oa acc.length oc) xs [Value.int .i64 0,dG,ah 0,dG,dG,aW,ak,ak,ah 0,ah 0,ak,ak,ak,ak,aW,ah 0,ah 0] (fun w P cs=>jS w P sx cs) [some (.slice oa acc.length oc),some (.agg #[gW R.rb 0]),none,some (.int .i64 (acc.length:Int)),none,none,none,none,none] (fun _=>false) V w4.drew):=fun V=>jH.zero (bg.drew) fD.o.rd fD.o.ow fD.o.blk;(have vS:Hid (∀X,bC R X i' d→Calls Tryz.prog 127 #[.agg #[gW R.rb 0]] X fun e wq=>(∃v,e=.returned v∧∃cs:List Value,v=.agg cs.toArray∧jS wq (fun q=>X.heap.size≤q) sx cs)∧bC R wq j2 d∧Step (·=R.rb) X wq):=by intro X hX;have h9:=IH.o gn om R X i' d HL.o hX hd (by rw[HX.o];intro h;cases h);rw[HX.o]at h9;exact h9);have HR8:Hid (r=lY gn R.l j2 d (acc++[sx])):=by show _=_;rw[Qn.o,HX.o];rfl
     have kP:Hid (∀(g9 c9:Nat) (yQ:List Value) (X:World),bC R X j2 d→X.heap[bt]?=some (.cells #[.slice (some ⟨g9,0,none⟩) (acc.length+1) c9] 49 (0,0))→X.ownsRow w.heap.size 89 17 (.slice (some ⟨g9,0,none⟩) (acc.length+1) c9) (acc.length+1) (xs++yQ)→jS X (fun q=>w4.heap.size≤q∧q≠g9) sx yQ→((Value.slice oa acc.length oc).ownBlock=some g9∨w4.heap.size≤g9)→Step (fun q=>q=R.rb∨q=bt∨(Value.slice oa acc.length oc).ownBlock=some q) w4 X→
       ∃(JF:Value) (JG:List Value),Qy R w bt d X j2 (acc++[sx]) JF JG):=by
      show∀g9 c9 yQ X,_
      intro g9 c9 yQ X h1 h2 h3 h4 h5 h6
      have hlen:(acc++[sx]).length=acc.length+1:=by simp
      refine⟨.slice (some ⟨g9,0,none⟩) (acc.length+1) c9,xs++yQ,h1,h2,by rw[hlen];exact h3,eP.snoc ?_ ?_,fD.o.st.then h6 (fun q hq e=> ?_)⟩
      ·
       refine eP.mono ?_ _ _ (eP.step h6 ?_ _ _ (eP.mono (P':=fun q=>(w.heap.size≤q∧(Value.slice oa acc.length oc).ownBlock≠some q)∧q<w4.heap.size) (fun q h7 h8=>⟨h8,h7⟩) _ _ fD.o.el))
       ·
        intro q _ hq
        refine⟨hq.1.1,fun e=> ?_⟩
        have e2:g9=q:=Option.some.inj e
        rcases h5 with h5|h5
        ·
         exact hq.1.2 (by rw[←e2];exact h5)
        ·
         have:=hq.2;omega
       ·
        intro q hq e
        rcases e with e|e|e
        ·
         have:=hq.1.1;omega
        ·
         have:=hq.1.1;omega
        ·
         exact hq.1.2 e
      ·
       exact jS.mono (fun q _ hq=>⟨Nat.le_trans fD.o.st.size hq.1,fun e=>hq.2 (Option.some.inj e).symm⟩) _ _ h4
      ·
       rcases e with e|e|e
       ·
        exact .inl e
       ·
        exact .inr e
       ·
        have:=(fD.o.ow.lt _ e).1;omega
     refine bD kr (jH R i' j2 d w4 2 4 5 6 7 8 bt (fun v=>.cells #[v] 49 (0,0)) w.heap.size 89 17 acc.length (.slice oa acc.length oc) xs [Value.int .i64 0,dG,ah 0,dG,dG,aW,ak,ak,ah 0,ah 0,ak,ak,ak,ak,aW,ah 0,ah 0] (fun w P cs=>jS w P sx cs) [some (.slice oa acc.length oc),some (.agg #[gW R.rb 0]),none,some (.int .i64 (acc.length:Int)),none,none,none,none,none]) 9 rfl kr kr kr kr ?h0 ?hs ?hdone;case h0=>exact vP.o _
     case hs=>
      refine⟨?_,?_,?_,?_,?_,?_,?_,?_,?_,trivial⟩
      all_goals intro L V X a ev ig hdf hL ay hJ
      ·have o1:=ig 1 rfl;change a.tmps[1]?.getD undef=.pointer (some ⟨bt,0,none⟩)at o1;have hZ:=(hJ.FV (hJ.Qk dc hL)).1;have hb:=hJ.blk;rw[hZ,if_neg dc]at hb;have q0:X.cell? ⟨bt,0,none⟩=some (.slice oa acc.length oc):=aj hb 0 _ rfl;go_simp;exact⟨_,rfl,hJ.up 0 dc dc dc dc dc dc rfl⟩
      ·have o0:=ig 0 rfl;change a.tmps[0]?.getD undef=.pointer (some ⟨bp,0,none⟩)at o0;have p0:=Hr.o X hJ.st;go_simp;exact⟨_,rfl,hJ.up 1 dc dc dc dc dc dc rfl⟩
      ·have e11:=(ev 1 11 rfl (ay 1 rfl)).trans (hJ.iD 1 _ rfl (ay 1 rfl));have hrd:=hJ.rd;rw[hL,if_neg dc]at hrd;go_simp;refine(vS.o X hrd).mono ?_;rintro e wq ⟨⟨v,rfl,cs,rfl,hty⟩,hr,hs⟩;exact⟨_,rfl,hJ.call HE.o HO.o hL rfl hs hr hty⟩
      ·have e10:=(ev 0 10 rfl (ay 0 rfl)).trans (hJ.iD 0 _ rfl (ay 0 rfl));go_simp;exact⟨_,rfl,hJ.up 3 dc dc dc dc dc dc rfl⟩
      ·have hu:=hJ.build HE.o HO.o hL rfl;go_simp;exact⟨_,rfl,hu⟩
      ·have e10:=(ev 0 10 rfl (ay 0 rfl)).trans (hJ.iD 0 _ rfl (ay 0 rfl));have e14:=ev 4 14 rfl (ay 4 rfl);obtain⟨zb,z1,z2,z3⟩:=hJ.bl (ay 4 rfl) hL;have hall:∀i,i<5→L i=true:=by
        intro i hi;rcases(show i=0∨i=1∨i=2∨i=3∨i=4 by omega)with rfl|rfl|rfl|rfl|rfl
        ·exact ay 0 rfl
        ·exact ay 1 rfl
        ·exact ay 2 rfl
        ·exact ay 3 rfl
        ·exact ay 4 rfl
       refine gq _ X.heap.size (.tmp 10) (.tmp 14) 49 rfl w.heap.size 89 j0 (.agg #[ah 0,dG,ah 0,dG,dG,aW,ak,ak,ah 0,ah 0,ak,ak,ak,ak,aW,ah 0,ah 0]) 17 256 Tryz.underlying49 HJ.o HY0.o HY1.o HY2.o rfl dc _ _ _ (by rw[bW];exact e10) (hJ.old hL) (V 4) 1 _ (by rw[bW];exact e14) (by rw[z1];exact(Row.new z3 dc).mono (aP z3)) rfl Qq.o (by unfold maxLen;omega) om (Nat.le_trans HO.o.bw hJ.st.size) ?_;intro v8 w8 sO oO zU;exact⟨v8,rfl,hJ.app HE.o HO.o hL hall rfl sO oO zU⟩
      ·have e13:=(ev 3 13 rfl (ay 3 rfl)).trans (hJ.iD 3 _ rfl (ay 3 rfl));have e15:=ev 5 15 rfl (ay 5 rfl);obtain⟨g,c,hV,-⟩:=hJ.new (ay 5 rfl);rw[hV]at e15;(have hi0:(0:Int)≤(acc.length:Int):=by omega);(have hi1:(acc.length:Int)<((acc.length+1:Nat):Int):=by omega);(have hi2:(acc.length:Int)<(acc.length:Int)+1:=by omega);have hu:=hJ.index HO.o (ay 5 rfl) rfl hV;go_simp;exact⟨_,rfl,hu⟩
      ·have h8:=ay 5 rfl;have h9:=ay 6 rfl;have h5:=ay 2 rfl;obtain⟨g,c,hV,-,ys,hown,-⟩:=hJ.new h8;have ep:=(ev 6 16 rfl h9).trans ((hJ.ix h9).2 g c hV);obtain⟨cs,c1,c2⟩:=hJ.el h5;have ec:=(ev 2 12 rfl h5).trans c1;rw[hV]at hown;obtain⟨g',c',cur,hg',-,hcur,hsz⟩:=uw hown om;cases hg';have hcl:cs.length=17:=jS.len c2;refine fC 89 (.tmp 16) (.tmp 12) rfl g (acc.length*17) 89 cur cs (by rw[bW];exact ep) (by rw[bW];exact ec) hcur (by rw[hcl];exact Tryz.eG) om (jS.one c2) ?_;intro w6 hb6 hs6;exact⟨undef,rfl,hJ.put HE.o HO.o h8 (fun u hu=>by cases hu) hV c1 hcl hcur hb6 hs6⟩
      ·have o1:=ig 1 rfl;change a.tmps[1]?.getD undef=.pointer (some ⟨bt,0,none⟩)at o1;have h8:=ay 5 rfl;have ev8:=ev 5 15 rfl h8;obtain⟨g,c,hV,-⟩:=hJ.new h8;rw[hV]at ev8;have hb:=hJ.blk;rw[hL,if_neg dc]at hb;have q5:=aj hb 0 _ rfl;have z5:=aG hb 0;have hu:=hJ.last (X':=X.setCell ⟨bt,0,none⟩ (.slice (some ⟨g,0,none⟩) (acc.length+1) c)) HE.o HO.o h8 (fun u hu=>by cases hu) (by rw[hV];exact aQ hb 0 _) (bg.setCell _ _ iV);go_simp;exact⟨undef,hu⟩
     case hdone=>
      intro L V X hall hJ;obtain⟨g9,c9,yQ,NK,NM,iU,NP,NQ,wW,hgb9⟩:=hJ.done ⟨hall 2 dc,hall 5 dc,hall 7 dc,hall 8 dc⟩;rw[PK];simp only[lW,dZ,FB,Bj];clear hJ hall;obtain⟨JF,JG,hls⟩:=kP.o g9 c9 yQ X NK NM iU NP NQ wW;have jM:=ai hls;clear hls NK NM iU NP NQ wW;(have hlen:(acc++[sx]).length=acc.length+1:=by simp);(have hal2:(acc++[sx]).length+gn≤f:=by omega);go_wp2_with fail;go_roundg gn;case rel=>exact⟨by omega,j2,acc++[sx],JF,JG,HR8.o,hal2,jM.o⟩
      case measure=>omega
theorem xE:Enters 126:=fun xs w=>by go_simp
theorem Kq (f:Nat) (ih:∀f',f'<f→FZ f') (hf:f≤1000000):rF (f+1):=by
 intro R w i d hl h hd hno;have hmf:∀(fn:Fn) (first cap:Array Value) (w:World),(Instr.makeFunc fn first cap).run Tryz.prog w=.ok (.func fn first cap) w:=fun _ _ _ _=>rfl;have HL:=ai hl;have H0:=ai h;have fH:=ai hno;obtain⟨r,hr⟩:=bF (bU (f+1) R.l i d);have HRR:=ai hr;rw[←hr];have uq:=aP h.blk;obtain⟨w3,hw3⟩:=bF ((w.alloc (.cells #[gW R.rb 0] 75)).alloc (.cells #[ak] 49));have jX:=nT hw3
 have zJ:=nC hw3
 have HB3:=nD hw3
 have HW3:=ai hw3;have H3:=ai (h.quiet jX.o);have hlt3:=aP HB3.o;have p0:w3.cell? ⟨w.heap.size,0,none⟩=some (.pointer (some ⟨R.rb,0,none⟩)):=aj zJ.o 0 _ rfl;obtain⟨t,ht⟩:=bF (tokA R.l i);have HT:=ai ht;obtain⟨bt,hbt⟩:=bF (w.heap.size+1);have YP:=ai hbt;have hbt0:w.heap.size<bt:=by omega
 have hbt1:bt<w3.heap.size:=by omega
 rw[←hbt]at HB3;have HIH:=ai ih;clear ih hl h hno hr hw3 ht hbt;go_enter Tryz.func96,Tryz.ntmps96;go_upto_region 2 with fail
 rw[←HW3.o,←YP.o];go_wp2_with fail;by_cases qy:d=40
 ·refine(xN R _ [.pointer (some ⟨w.heap.size,0,none⟩),.pointer (some ⟨bt,0,none⟩)] w3 i d t H3.o (by rw[HT.o];exact H3.o.tok) qy).mono ?_;rintro e w4 ⟨rfl,h4⟩;refine⟨rfl,?_⟩;rw[HRR.o,Ar,if_pos qy,iw,←HT.o];exact⟨rfl,(jX.o.trans h4).mono fe⟩
 ·have jV:Hid (r=vU f R.l i (d+1)):=by show _=_;rw[HRR.o,Ar,if_neg qy]
  have hnb:vU f R.l i (d+1)≠.out:=fun e=>fH.o (by rw[←HRR.o,jV.o,e]);have IB:Hid (∀X,bC R X i (d+1)→Step (·=R.rb) w3 X→Calls Tryz.prog 126 #[.pointer (some ⟨w.heap.size,0,none⟩),.pointer (some ⟨bt,0,none⟩)] X (aY R (d+1) bt (Bv X.heap.size bt) (vU f R.l i (d+1)) X)):=fun X hX hs=>Ko R f HIH.o hf w.heap.size bt X i (d+1) HL.o hX om (hs.keep zJ.o om) (hs.keep HB3.o om) om om hnb
  have IC:d<40:=by omega
  cases hb:vU f R.l i (d+1)with
  |out=>exact absurd hb hnb
  |err c ln col=>
   have HB:=ai hb;clear hb;refine(Ci R _ [.pointer (some ⟨w.heap.size,0,none⟩),.pointer (some ⟨bt,0,none⟩)] w3 i d (Q:=fun X=>Step (fun k=>k=R.rb∨k=bt) w3 X) (hk:=xE) (h:=H3.o) (hd:=IC) (hby:=fun X hX hs=> ?_) (es:=[{v:=.iface 184 (.agg #[ah c,ah ln,ah col]),recovered:=false}])).mono ?_
   ·refine(IB.o X hX hs).mono ?_;intro e X2 hp;rw[HB.o]at hp;exact⟨hp.1,(hs.mono il).trans hp.2⟩
   ·rintro e w4 ⟨rfl,h4⟩;refine⟨rfl,?_⟩;rw[jV.o,HB.o];exact⟨rfl,(jX.o.mono fe).then h4 oi⟩
  |ok a j=>
   have HB:=ai hb;clear hb;refine(FP R _ [.pointer (some ⟨w.heap.size,0,none⟩),.pointer (some ⟨bt,0,none⟩)] w3 i d (fun i' X=>i'=j∧Bv w3.heap.size bt X a∧Step (fun k=>k=R.rb∨k=bt) w3 X) xE H3.o IC (fun X hX hs=> ?_)).mono ?_
   ·refine(IB.o X hX hs).mono ?_;intro e X2 hp;rw[HB.o]at hp;obtain⟨he,⟨v,xs,hc,hrw,hts⟩,hr,hs2⟩:=hp;have hz:=hs.size;exact⟨he,j,hr,rfl,⟨v,xs,hc,hrw.mono oi,eP.mono oi _ _ hts⟩,(hs.mono il).trans hs2⟩
   ·rintro e w4 ⟨rfl,i',X,⟨rfl,⟨v,xs,hc,hrw,hts⟩,hsx⟩,hr4,hs4⟩;have hb4:=hs4.keep hc om;have YQ:=hrw.step hs4 oi;have hts4:=eP.step hs4 oi _ _ hts;obtain⟨av,cv,rfl,-⟩:=id YQ;have HR4:=ai hr4;have HRW:=ai YQ;have HTS:=ai hts4;have yO:Hid (Step (fun k=>k=R.rb∨k=bt) w3 w4):=hsx.trans (hs4.mono il);have q0:=aj hb4 0 _ rfl;clear hc hrw hts hsx hr4 hs4 hb4 YQ hts4 p0;go_wp2_with fail;go_ret;rw[jV.o,HB.o];have hz3:=jX.o.size;refine⟨⟨_,rfl,xs,HRW.o.mono oi,eP.mono oi _ _ HTS.o⟩,HR4.o,?_⟩;exact(jX.o.mono fe).then yO.o oi
def LU (n0 bt:Nat) (t:Tok) (w':World) (a:ByteArray×Ty×List Ex):Prop:=∃(ct xe:List Value) (ve:Value),w'.heap[bt]?=some (.cells ([Value.int .i64 1,aI a.1]++ct++[Value.slice none 0 0,ve,.slice none 0 0,.slice none 0 0,.bool false,.int .i64 t.line,.int .i64 t.col]).toArray 89 (0,0))∧
 a.1.size≤9223372036854775807∧gG w' (fun k=>n0≤k) a.2.1 ct∧bY w' (fun k=>n0≤k) a.2.2 xe∧dh w' (fun k=>n0≤k) ve a.2.2.length xe
def LV (f:Nat):Prop:=∀(R:gI) (w:World) (i d bt:Nat) (t:Tok),oJ R.l→bC R w i d→d≤40→R.rb<bt→w.heap[bt]?=some (.cells #[ah 0,aV,ah 0,aV,aV,aW,ak,ak,ah 0,ah 0,ak,ak,ak,ak,aW,ah t.line,ah t.col] 89 (0,0))→xO f R.l i d≠.out→
 Calls Tryz.prog 143 #[.agg #[gW R.rb 0],.pointer (some ⟨bt,0,none⟩)] w (aY R d bt (LU w.heap.size bt t) (xO f R.l i d) w)
theorem rG (w:World) (P:Nat→Prop):gG w P fK [.int .i64 0,.string dB,.string dB,.bool false,.slice none 0 0,.slice none 0 0,.int .i64 0,.int .i64 0]:=by rw[fK,gG];exact⟨_,_,[],rfl,by decide,by decide,nR,dh.nil _ _ _,by rw[fV],dh.nil _ _ _⟩
theorem Qz (f:Nat) (ih:ni f):LV (f+1):=by
 intro R w i d bt t hl h hd hrb hbt hno;have HL:=ai hl;have HEX:Hid (∀X j,bC R X j d→a_ f R.l j d 0≠.out→Calls Tryz.prog 40 #[.agg #[gW R.rb 0]] X (aK R d (JH X.heap.size) (a_ f R.l j d 0) X)):=fun X j hX hn=>lQ f ih R X j d hl hX hd hn;obtain⟨r,hr⟩:=bF (xO (f+1) R.l i d)
 have HRR:Hid (r=(bH R.l i).bind fun n j=>(if bG R.l j [58]then kG f R.l (j+1) d else .ok fK j).bind fun ty j=>
  (if bG R.l j [61]then(a_ f R.l (j+1) d 0).bind fun x j=>.ok [x] j else .ok [] j).bind fun e j=>(aJ R.l j [59]).bind fun _ j=>.ok (n,ty,e) j):=by show _=_;rw[hr,xO]
 rw[←hr]at hno⊢;have fH:=ai hno;have JS:=aP hbt;obtain⟨w1,hw1⟩:=bF (w.alloc (.cells #[gW R.rb 0] 75));have dH:=nS hw1
 have kK:=nB hw1
 have Ei:=ai (dH.o.keep hbt (fun h=>h));have HW1:=ai hw1;have H1:=ai (h.quiet dH.o);have hn1:=aP kK.o;have bZ:Hid (∀X:World,Step (fun q=>q=R.rb∨q=bt) w1 X→X.cell? ⟨w.heap.size,0,none⟩=some (.pointer (some ⟨R.rb,0,none⟩))):=fun X hX=>aj (hX.keep kK.o om) 0 _ rfl
 have p0:=bZ.o w1 bg;clear ih hl h hno hr hw1 hbt;go_enter Tryz.func143,Tryz.ntmps143;go_upto_region 1 with fail
 rw[←HW1.o];go_wp2_with fail;cases hn:bH R.l i with
 |out=>exact(iQ hn).elim
 |err c ln col=>have HN:=ai hn;clear hn;refine(name_any R HL.o _ i d H1.o).mono ?_;rintro e wq hp;rw[HN.o]at hp;obtain⟨rfl,sq⟩:=hp;refine⟨rfl,aY.aU (c:=c) (ln:=ln) (col:=col) (by rw[HRR.o,HN.o];rfl) rfl ?_⟩;exact((dH.o.mono fe).trans sq).mono il
 |ok nm j=>
  have HN:=ai hn;have QA:=ai (fF HL.o H1.o.lt hn);clear hn;refine(name_any R HL.o _ i d H1.o).mono ?_;rintro e w2 hp;rw[HN.o]at hp;obtain⟨⟨v,rfl,rfl⟩,hr2,s2⟩:=hp;have HR2:=ai hr2;have HS2:=ai s2;have qK:=ai (s2.keep Ei.o om)
  have kY:Hid (r=(if bG R.l j [58]then kG f R.l (j+1) d else .ok fK j).bind fun ty j=>
   (if bG R.l j [61]then(a_ f R.l (j+1) d 0).bind fun x j=>.ok [x] j else .ok [] j).bind fun e j=>(aJ R.l j [59]).bind fun _ j=>.ok (nm,ty,e) j):=by show _=_;rw[HRR.o,HN.o];rfl
  have m_:=aj qK.o 0 _ rfl;have ng:=aG qK.o 0;have Eg:=aj qK.o 1 _ rfl;have Eh:=aG qK.o 1;obtain⟨w3,hw3⟩:=bF ((w2.setCell ⟨bt,0,none⟩ (.int .i64 1)).setCell ⟨bt,1,none⟩ (.string nm));have jX:Hid (Step (·=bt) w2 w3):=by rw[hw3];exact((Step.refl (·=bt) _).setCell _ _ iV).setCell _ _ iV
  have IA:Hid (w3.heap[bt]?=some (.cells #[ah 1,aI nm,ah 0,aV,aV,aW,ak,ak,ah 0,ah 0,ak,ak,ak,ak,aW,ah t.line,ah t.col] 89 (0,0))):=by rw[hw3];exact aQ (aQ qK.o 0 (.int .i64 1)) 1 (.string nm)
  have oH:Hid (Step (fun q=>q=R.rb∨q=bt) w1 w3):=(HS2.o.mono il).trans (jX.o.mono ir);have HR3:=ai (HR2.o.step jX.o oi);clear hr2 s2 p0;go_upto_region 2 with fail
  rw[←hw3];clear hw3 m_ ng Eg Eh;have p0:=bZ.o w3 oH.o;obtain⟨b1,hb1⟩:=bF (bG R.l j [58]);obtain⟨j1,hj1⟩:=bF (iH R.l j [58]);have HI1:Hid (Calls Tryz.prog 77 #[.pointer (some ⟨R.rb,0,none⟩),.string ⟨#[58]⟩] w3 fun e w'=>e=.returned (.bool b1)∧bC R w' j1 d∧Step (·=R.rb) w3 w'):=by rw[hb1,hj1];exact rW R HL.o ⟨#[58]⟩ w3 j d HR3.o dc
  have HB1:=ai hb1;have HJ1:=ai hj1;clear hb1 hj1;go_wp2_with fail;refine HI1.o.mono ?_;rintro e w4 ⟨rfl,hr4,h4⟩;have HR4:=ai hr4;have CO:Hid (Step (fun q=>q=R.rb∨q=bt) w1 w4):=oH.o.trans (h4.mono il);have qL:Hid (w4.heap[bt]?=some (.cells #[ah 1,aI nm,ah 0,aV,aV,aW,ak,ak,ah 0,ah 0,ak,ak,ak,ak,aW,ah t.line,ah t.col] 89 (0,0))):=h4.keep IA.o om;clear hr4 h4 p0;have p0:=bZ.o w4 CO.o;have hz1:=dH.o.size;go_upto_if 15 with fail
  go_cut [] (fun wx=>∃(ty:Ty) (jt:Nat) (ct:List Value),r=((if bG R.l jt [61]then(a_ f R.l (jt+1) d 0).bind fun x j=>.ok [x] j else .ok [] jt).bind fun e j=>(aJ R.l j [59]).bind fun _ j=>.ok (nm,ty,e) j)∧gG wx (fun q=>w.heap.size≤q) ty ct∧
   wx.heap[bt]?=some (.cells ([Value.int .i64 1,aI nm]++ct++[Value.slice none 0 0,.slice none 0 0,.slice none 0 0,.slice none 0 0,.bool false,.int .i64 t.line,.int .i64 t.col]).toArray 89 (0,0))∧bC R wx jt d∧Step (fun q=>q=R.rb∨q=bt) w1 wx)
  case first=>
   cases b1 with
   |false=>(have hj:j1=j:=by rw[HJ1.o,iH,←HB1.o,if_neg dc]);(have jV:Hid (r=((if bG R.l j1 [61]then(a_ f R.l (j1+1) d 0).bind fun x j=>.ok [x] j else .ok [] j1).bind fun e j=>(aJ R.l j [59]).bind fun _ j=>.ok (nm,fK,e) j)):=by show _=_;rw[kY.o,←HB1.o,if_neg dc,hj];rfl);clear hj;go_wp2_with fail;go_meet;case rel=>exact⟨fK,j1,_,jV.o,rG _ _,qL.o,HR4.o,CO.o⟩
   |true=>
    (have hj:j1=j+1:=by rw[HJ1.o,iH,←HB1.o,if_pos rfl]);(have jV:Hid (r=(kG f R.l j1 d).bind fun ty j=>(if bG R.l j [61]then(a_ f R.l (j+1) d 0).bind fun x j=>.ok [x] j else .ok [] j).bind fun e j=>(aJ R.l j [59]).bind fun _ j=>.ok (nm,ty,e) j):=by show _=_;rw[kY.o,←HB1.o,if_pos rfl,hj]);clear hj;go_wp2_with fail;cases hx:kG f R.l j1 d with
    |out=>exact absurd (by rw[jV.o,hx];rfl) fH.o
    |err c ln col=>have HX:=ai hx;clear hx;refine((FX f).1 R _ j1 d HL.o HR4.o hd (by rw[HX.o];intro h;cases h)).mono ?_;rintro e wq hp;rw[HX.o]at hp;obtain⟨rfl,sq⟩:=hp;refine⟨rfl,aY.aU (c:=c) (ln:=ln) (col:=col) (by rw[jV.o,HX.o];rfl) rfl ?_⟩;exact((dH.o.mono fe).trans CO.o).trans (sq.mono il)
    |ok ty jt=>
     have HX:=ai hx;clear hx;refine((FX f).1 R _ j1 d HL.o HR4.o hd (by rw[HX.o];intro h;cases h)).mono ?_;rintro e wx hp;rw[HX.o]at hp;obtain⟨⟨v,rfl,ct,rfl,hty⟩,hrx,hsx⟩:=hp;have Bq:=ai hty;have dQ:=ai hty.one;obtain⟨k0,iK,lf0,iL,a1,n1,c1,a2,n2,c2,l0,c0,rfl⟩:=hty.parts;have vO:=ai hrx;have qm:=ai hsx;have mD:=ai (hsx.keep qL.o om);(have Hu:Hid (r=((if bG R.l jt [61]then(a_ f R.l (jt+1) d 0).bind fun x j=>.ok [x] j else .ok [] jt).bind fun e j=>(aJ R.l j [59]).bind fun _ j=>.ok (nm,ty,e) j)):=by show _=_;rw[jV.o,HX.o];rfl);have hz4:=CO.o.size;clear hty hrx hsx p0
     go_wp2_with (refine aB (w:=wx) rfl 46 (.tmp 20) (.tmp 18) rfl bt 2 89 _ [.int .i64 k0,.string iK,.string lf0,.bool iL,.slice a1 n1 c1,.slice a2 n2 c2,.int .i64 l0,.int .i64 c0] rfl rfl mD.o Tryz.gB (show 2+8≤17 by decide) dQ.o ?_
                  intro w6 hb6 vT)
     have EK:=ai hb6;have sN:=ai vT;clear hb6 vT;go_meet;case rel=>exact⟨ty,jt,[.int .i64 k0,.string iK,.string lf0,.bool iL,.slice a1 n1 c1,.slice a2 n2 c2,.int .i64 l0,.int .i64 c0],Hu.o,gG.mono oi _ _ (gG.step sN.o oi _ _ Bq.o),EK.o,vO.o.step sN.o oi,(CO.o.trans (qm.o.mono il)).trans (sN.o.mono ir)⟩
  case rest=>
   obtain⟨ty,jt,ct,II,YR,hb5,hrd5,hs5⟩:=hcut;obtain⟨w5,rfl⟩:=bF wc;obtain⟨k0,iK,lf0,iL,a1,n1,c1,a2,n2,c2,l0,c0,rfl⟩:=YR.parts;have Ub:=ai II;have HTY5:=ai YR;have NF:Hid (w5.heap[bt]?=some (.cells #[ah 1,aI nm,ah k0,aI iK,aI lf0,bK iL,.slice a1 n1 c1,.slice a2 n2 c2,ah l0,ah c0,ak,ak,ak,ak,aW,ah t.line,ah t.col] 89 (0,0))):=hb5;have HRD5:=ai hrd5;have HS15:=ai hs5;clear II YR hb5 hrd5 hs5 p0;have p0:=bZ.o w5 HS15.o;obtain⟨b2,hb2⟩:=bF (bG R.l jt [61]);obtain⟨j2,hj2⟩:=bF (iH R.l jt [61]);(have HI2:Hid (Calls Tryz.prog 77 #[.pointer (some ⟨R.rb,0,none⟩),.string ⟨#[61]⟩] w5 fun e w'=>e=.returned (.bool b2)∧bC R w' j2 d∧Step (·=R.rb) w5 w'):=by rw[hb2,hj2];exact rW R HL.o ⟨#[61]⟩ w5 jt d HRD5.o dc);have HB2:=ai hb2;have HJ2:=ai hj2;clear hb2 hj2;go_wp2_with fail;refine HI2.o.mono ?_;rintro e w6 ⟨rfl,o9,h6⟩;have yR:=ai o9;have QB:Hid (Step (fun q=>q=R.rb∨q=bt) w1 w6):=HS15.o.trans (h6.mono il);have wV:Hid (w6.heap[bt]?=some (.cells #[ah 1,aI nm,ah k0,aI iK,aI lf0,bK iL,.slice a1 n1 c1,.slice a2 n2 c2,ah l0,ah c0,ak,ak,ak,ak,aW,ah t.line,ah t.col] 89 (0,0))):=h6.keep NF.o om;have HTY6:Hid (gG w6 (fun q=>w.heap.size≤q) ty [.int .i64 k0,.string iK,.string lf0,.bool iL,.slice a1 n1 c1,.slice a2 n2 c2,.int .i64 l0,.int .i64 c0]):=gG.step h6 oi _ _ HTY5.o;clear o9 h6 p0;have p0:=bZ.o w6 QB.o;go_upto_if 23 with fail
   go_cut [] (fun wx=>∃(el:List Ex) (je:Nat) (ae:Option Addr) (ce:Nat) (xe:List Value),r=((aJ R.l je [59]).bind fun _ j=>.ok (nm,ty,el) j)∧gG wx (fun q=>w.heap.size≤q) ty [.int .i64 k0,.string iK,.string lf0,.bool iL,.slice a1 n1 c1,.slice a2 n2 c2,.int .i64 l0,.int .i64 c0]∧bY wx (fun q=>w.heap.size≤q) el xe∧dh wx (fun q=>w.heap.size≤q) (.slice ae el.length ce) el.length xe∧
    wx.heap[bt]?=some (.cells #[ah 1,aI nm,ah k0,aI iK,aI lf0,bK iL,.slice a1 n1 c1,.slice a2 n2 c2,ah l0,ah c0,ak,.slice ae el.length ce,ak,ak,aW,ah t.line,ah t.col] 89 (0,0))∧bC R wx je d∧Step (fun q=>q=R.rb∨q=bt) w1 wx)
   case first=>
    cases b2 with
    |false=>(have hj:j2=jt:=by rw[HJ2.o,iH,←HB2.o,if_neg dc]);(have jV:Hid (r=((aJ R.l j2 [59]).bind fun _ j=>.ok (nm,ty,[]) j)):=by show _=_;rw[Ub.o,←HB2.o,if_neg dc,hj];rfl);clear hj;go_wp2_with fail;go_meet;case rel=>exact⟨[],j2,none,0,[],jV.o,HTY6.o,by rw[bY],dh.nil _ _ _,wV.o,yR.o,QB.o⟩
    |true=>
     (have hj:j2=jt+1:=by rw[HJ2.o,iH,←HB2.o,if_pos rfl]);(have jV:Hid (r=(a_ f R.l j2 d 0).bind fun x j=>(aJ R.l j [59]).bind fun _ j=>.ok (nm,ty,[x]) j):=by show _=_;rw[Ub.o,←HB2.o,if_pos rfl,hj];cases a_ f R.l (jt+1) d 0<;>rfl);clear hj;go_wp2_with fail;cases hx:a_ f R.l j2 d 0 with
     |out=>exact absurd (by rw[jV.o,hx];rfl) fH.o
     |err c ln col=>have HX:=ai hx;clear hx;refine(HEX.o _ j2 yR.o (by rw[HX.o];intro h;cases h)).mono ?_;rintro e wq hp;rw[HX.o]at hp;obtain⟨rfl,sq⟩:=hp;refine⟨rfl,aY.aU (c:=c) (ln:=ln) (col:=col) (by rw[jV.o,HX.o];rfl) rfl ?_⟩;exact((dH.o.mono fe).trans QB.o).trans (sq.mono il)
     |ok x jx=>have HX:=ai hx;clear hx;refine(HEX.o _ j2 yR.o (by rw[HX.o];intro h;cases h)).mono ?_;rintro e wx hp;rw[HX.o]at hp;obtain⟨⟨v,rfl,cs,rfl,hy⟩,hrx,hsx⟩:=hp;have HY:=ai hy;obtain⟨k5,nm5,v5,JI,b1,m1,d1,b2,m2,d2,b3,m3,d3,l5,c5,rfl⟩:=hy.parts;have vO:=ai hrx;have qm:=ai hsx;(have Hu:Hid (r=((aJ R.l jx [59]).bind fun _ j=>.ok (nm,ty,[x]) j)):=by show _=_;rw[jV.o,HX.o];rfl);obtain⟨w7,hw7⟩:=bF (wx.alloc (.cells #[ah k5,aI nm5,aX v5,bK JI,.slice b1 m1 d1,.slice b2 m2 d2,.slice b3 m3 d3,ah l5,ah c5] 56));(have Kr:Hid (jg wx w7):=by rw[hw7];exact bg.alloc _);(have HK7:Hid (w7.heap[wx.heap.size]?=some (.cells #[ah k5,aI nm5,aX v5,bK JI,.slice b1 m1 d1,.slice b2 m2 d2,.slice b3 m3 d3,ah l5,ah c5] 56 (0,0))):=by rw[hw7];exact aC _ _);have UF:=Kr.o.keep (qm.o.keep wV.o om) (fun h=>h);have Kt:=aj UF 11 _ rfl;have Ku:=aG UF 11;have hz6:=QB.o.size;have hzx:=qm.o.size;obtain⟨w8,hw8⟩:=bF (w7.setCell ⟨bt,11,none⟩ (.slice (some ⟨wx.heap.size,0,none⟩) 1 1));(have Pj:Hid (Step (·=bt) w7 w8):=by rw[hw8];exact bg.setCell _ _ iV);(have HBT8:Hid (w8.heap[bt]?=some (.cells #[ah 1,aI nm,ah k0,aI iK,aI lf0,bK iL,.slice a1 n1 c1,.slice a2 n2 c2,ah l0,ah c0,ak,.slice (some ⟨wx.heap.size,0,none⟩) 1 1,ak,ak,aW,ah t.line,ah t.col] 89 (0,0))):=by rw[hw8];exact aQ UF 11 _);have HK8:=ai (Pj.o.keep HK7.o om);rw[hw7]at Kt Ku;clear UF hy hrx hsx p0;go_wp2_with fail;rw[←hw7,←hw8];clear Kt Ku hw7 hw8;have hs68:Step (fun q=>q=R.rb∨q=bt) wx w8:=(Kr.o.mono fe).trans (Pj.o.mono ir);have hs66:Step (fun q=>q=R.rb∨q=bt) w6 w8:=(qm.o.mono il).trans hs68;go_meet;case rel=>exact⟨[x],jx,_,1,[.int .i64 k5,.string nm5,.int .u64 v5,.bool JI,.slice b1 m1 d1,.slice b2 m2 d2,.slice b3 m3 d3,.int .i64 l5,.int .i64 c5],Hu.o,gG.step hs66 oi _ _ HTY6.o,bY.single (dA.mono oi _ _ (dA.step hs68 oi _ _ HY.o)),dh.new HK8.o (by simp) om,HBT8.o,(vO.o.quiet Kr.o).step Pj.o oi,QB.o.trans hs66⟩
   case rest=>
    obtain⟨el,je,ae,ce,xe,Xb,hty7,hex7,hrw7,hb7,hrd7,hs7⟩:=hcut;obtain⟨w7,rfl⟩:=bF wc;have HR7:=ai Xb;have HTY7:=ai hty7;have HEX7:=ai hex7;have HRW7:=ai hrw7;have HBT7:=ai hb7;have HRD7:=ai hrd7;have YS:=ai hs7;clear Xb hty7 hex7 hrw7 hb7 hrd7 hs7 p0;have p0:=bZ.o w7 YS.o;go_wp2_with fail;refine(dL R HL.o w7.heap.size ⟨#[59]⟩ _ je d (HRD7.o.quiet (bg.alloc _)) dc (aj (aC _ _) 0 _ rfl)).mono ?_;rintro e w8 hp;have hp2:aK R d iJ (aJ R.l je [59]) _ e w8:=hp;cases hn:aJ R.l je [59]with
    |out=>exact(dJ hn).elim
    |err c ln col=>rw[hn]at hp2;obtain⟨rfl,s8⟩:=hp2;refine⟨rfl,aY.aU (c:=c) (ln:=ln) (col:=col) (by rw[HR7.o,hn];rfl) rfl ?_⟩;exact((dH.o.mono fe).trans YS.o).trans ((((Step.refl (·=R.rb) _).alloc _).trans s8).mono il)
    |ok u j8=>have HN8:=ai hn;rw[hn]at hp2;obtain⟨⟨v,rfl,rfl⟩,uo,s8⟩:=hp2;have HR8:=ai uo;have QC:Hid (Step (·=R.rb) w7 w8):=((Step.refl (·=R.rb) _).alloc _).trans s8;clear hn uo s8 p0 hp;go_wp2_with fail;refine bodyPost_end (results_none rfl _ _ _) rfl ?_;refine aY.dN (a:=(nm,ty,el)) (j:=j8) (by rw[HR7.o,HN8.o];rfl) rfl ⟨[.int .i64 k0,.string iK,.string lf0,.bool iL,.slice a1 n1 c1,.slice a2 n2 c2,.int .i64 l0,.int .i64 c0],xe,_,QC.o.keep HBT7.o om,QA.o,gG.step QC.o oi _ _ HTY7.o,bY.step QC.o oi _ _ HEX7.o,HRW7.o.step QC.o oi⟩ HR8.o (((dH.o.mono fe).trans YS.o).trans (QC.o.mono il))
end Go.Proofs.YtggjfinekcenpaaGreat
