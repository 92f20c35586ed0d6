import Derived.Test.YtppekkbaoimpgaaGreatPkD
set_option maxRecDepth 100000
set_option maxHeartbeats 80000000
namespace Go.Proofs.YtppekkbaoimpgaaGreat
open Go.RowKit
open Vt
structure LvJ8 (R:gJ) (j1 j2 d bx bp bq:Nat) (w4:World) (s:ByteArray) (n:Nat) (tl tc:Int) (xc:List Value) (y:Ex) (L:Nat→Bool) (V:Nat→Value) (X:World):Prop where
 p0:L 0=true→V 0=.string s
 p1:L 1=true→V 1=.agg xc.toArray
 p2:L 2=true→V 2=.agg #[eU R.rb 0]
 p3:L 3=true→V 3=.int .i64 n
 p4:L 4=true→V 4=.int .i64 ((n:Int)+1)
 p5:L 5=true→∃cs:List Value,V 5=.agg cs.toArray∧fA X (fun q=>w4.heap.size≤q) y cs
 p6:L 6=true→∃(g:Nat) (cs:List Value),V 6=.slice (some ⟨g,0,none⟩) 2 2∧w4.heap.size≤g∧fA X (fun q=>w4.heap.size≤q) y cs∧X.heap[g]?=some (.cells (xc++cs).toArray 56 (0,0))
 p7:L 7=true→V 7=.agg #[ak tl,ak tc]
 p8:L 8=true→∃g:Nat,V 6=.slice (some ⟨g,0,none⟩) 2 2∧V 8=.agg #[ak 14,a_ s,cO 0,aT,.slice (some ⟨g,0,none⟩) 2 2,ay,ay,ak tl,ak tc]
 st:Step (fun q=>q=R.rb∨q=bx) w4 X
 rd:bI R X (if L 5 then j2 else j1) d
 x0:L 9=false→X.heap[bx]?=some (.cells xc.toArray 56 (0,0))
 x1:L 9=true→∃g:Nat,V 6=.slice (some ⟨g,0,none⟩) 2 2∧X.heap[bx]?=some (.cells #[ak 14,a_ s,cO 0,aT,.slice (some ⟨g,0,none⟩) 2 2,ay,ay,ak tl,ak tc] 56 (0,0))
 LJ:X.cell? ⟨bp,0,none⟩=some (.pointer (some ⟨R.rb,0,none⟩))
 Ia:X.heap[bq]?=some (.cells #[ak tl,ak tc] 25 (0,0))
 q6:L 6=true→L 1=true∧L 5=true
 q8:L 8=true→L 6=true
 q9:L 9=true→L 1=true∧L 5=true∧L 6=true∧L 7=true∧L 8=true
structure Ba (R:gJ) (w1 w3:World) (bx d:Nat) (X:World) (i':Nat) (x:Ex) (cs:List Value):Prop where
 rd:bI R X i' d
 blk:X.heap[bx]?=some (.cells cs.toArray 56 (0,0))
 ex:fA X (fun q=>w1.heap.size≤q∧q≠bx) x cs
 st:Step (fun q=>q=R.rb∨q=bx) w3 X
theorem Ba.quiet {R:gJ} {w1 w3:World} {bx d:Nat} {X X':World} {i':Nat} {x:Ex} {cs:List Value} (h:Ba R w1 w3 bx d X i' x cs) (hs:StF X X'):Ba R w1 w3 bx d X' i' x cs:=
 ⟨h.rd.quiet hs,hs.keep h.blk (fun h=>h),fA.step hs (fun _ _ h=>h) _ _ h.ex,h.st.trans (hs.mono fe)⟩
theorem Ba.read {R:gJ} {w1 w3:World} {bx d:Nat} {X X':World} {i' i2:Nat} {x:Ex} {cs:List Value} (h:Ba R w1 w3 bx d X i' x cs) (hb:R.rb≠bx) (hw:R.rb<w1.heap.size) (hr:bI R X' i2 d) (hs:Step (·=R.rb) X X'):Ba R w1 w3 bx d X' i2 x cs:=
 ⟨hr,hs.keep h.blk (fun e=>hb e.symm),fA.step hs (fun q hq e=>by have:=hq.1;omega) _ _ h.ex,h.st.trans (hs.mono il)⟩
theorem XNONE (s:ByteArray) (tl tc:Int) (g:Nat):∀u∈[Value.int .i64 14,a_ s,cO 0,aT,.slice (some ⟨g,0,none⟩) 2 2,ay,ay,ak tl,ak tc],u.oneCell'=true:=by intro u hu;simp at hu;rcases hu with rfl|rfl|rfl|rfl|rfl|rfl|rfl|rfl|rfl<;>rfl
theorem O6 (f:Nat) (ih:∀f',f'<f→oC f'∧A_ f'):oC f:=by
 intro R w i d n hl h hd hn hno;obtain⟨f,rfl⟩:∃f',f=f'+1:=by
  cases f with
  |zero=>exact absurd (by rw[bG]) hno
  |succ f=>exact⟨f,rfl⟩
 have HL:=au hl;have H0:=au h;have IH:=au ih;obtain⟨r,hr⟩:=aN (bG (f+1) R.l i d n);have HRR:=au hr;rw[←hr]at hno⊢;have eX:=au hno;have rU:=aK h.blk;obtain⟨w1,hw1⟩:=aN ((w.alloc (.cells #[eU R.rb 0] 97)).alloc (.cells #[ak 0,di,cO 0,aT,ay,ay,ay,ak 0,ak 0] 56));have dH:=nT hw1
 have kL:=nC hw1
 have kT:=nD hw1
 have HW1:=au hw1;have H1:=au (h.quiet dH.o);have hn1:=aK kT.o;have cZ:Hid (∀X:World,Step (·=R.rb) w1 X→X.cell? ⟨w.heap.size,0,none⟩=some (.pointer (some ⟨R.rb,0,none⟩))):=fun X hX=>aj (hX.keep kL.o om) 0 _ rfl
 clear ih hl h hno hr hw1;go_enter Tryz.func128,Tryz.ntmps128;go_upto_region 1 with fail
 rw[←HW1.o];obtain⟨b5,hb5⟩:∃b5,((n:Int)==5)=b5:=⟨_,rfl⟩;have Fq:Hid ((n==5)=b5):=(kQ n 5 5 rfl).symm.trans hb5;go_wp2_with fail;refine(pV w1).mono ?_;rintro e w2 ⟨⟨g0,g1,g2,g3,g4,rfl,-⟩,h2⟩;have H2:=au (H1.o.quiet h2);have HS2:Hid (Step (·=R.rb) w1 w2):=h2.mono fe;have m_:=au (h2.keep kT.o (fun h=>h));have p0:=cZ.o w2 HS2.o;have hz2:=h2.size;clear h2;cases b5 with
 |true=>
  have UL:n=5:=by simpa using Fq.o
  have HR2:Hid (r=ji f R.l i d):=by show _=_;rw[HRR.o,bG,if_pos UL]
  clear UL;go_wp2_with fail;cases hx:ji f R.l i d with
  |out=>exact absurd (by rw[HR2.o,hx]) eX.o
  |err c ln col=>have HX:=au hx;clear hx;refine((IH.o f (Nat.lt_succ_self f)).2 R _ i d HL.o H2.o hd (by rw[HX.o];intro h;cases h)).mono ?_;rintro e wq hp;rw[HX.o]at hp;obtain⟨rfl,sq⟩:=hp;refine⟨rfl,?_⟩;rw[HR2.o,HX.o];exact⟨rfl,((dH.o.mono fe).trans HS2.o).trans sq⟩
  |ok y jx=>
   have HX:=au hx;clear hx;refine((IH.o f (Nat.lt_succ_self f)).2 R _ i d HL.o H2.o hd (by rw[HX.o];intro h;cases h)).mono ?_;rintro e wx hp;rw[HX.o]at hp;obtain⟨⟨v,rfl,cs,rfl,hy⟩,hrx,hsx⟩:=hp;have HY:=au hy;have eG:=au hy.one;obtain⟨k0,jf,v0,jg,a1,n1,c1,a2,n2,c2,a3,n3,c3,l0,c0,rfl⟩:=hy.parts;have vX:=au hrx;have rQ:=au hsx;have kC:=au (hsx.keep m_.o om);clear hy hrx hsx p0
   go_wp2_with (refine aG (w:=wx) rfl 56 (.tmp 4) (.tmp 13) rfl (w.heap.size+1) 0 56 _ [.int .i64 k0,.string jf,.int .u64 v0,.bool jg,.slice a1 n1 c1,.slice a2 n2 c2,.slice a3 n3 c3,.int .i64 l0,.int .i64 c0] rfl rfl kC.o Tryz.bf (Nat.le_of_eq rfl) eG.o ?_
                intro w6 hb6 xR)
   have SN:w6.heap[w.heap.size+1]?=some (.cells [Value.int .i64 k0,a_ jf,cO v0,dW jg,.slice a1 n1 c1,.slice a2 n2 c2,.slice a3 n3 c3,ak l0,ak c0].toArray 56 (0,0)):=hb6;refine bodyPost_ret (aY rfl _ (w.heap.size+1) 56 _ _ rfl SN Tryz.underlying56 rfl Tryz.bf) rfl ?_;rw[HR2.o,HX.o];have hz1:=dH.o.size;refine⟨⟨_,rfl,_,rfl,fA.mono oi _ _ (fA.step xR oi _ _ HY.o)⟩,vX.o.step xR oi,?_⟩;exact(((dH.o.mono fe).trans HS2.o).trans rQ.o).then xR oi
 |false=>
  have UL:n≠5:=by intro e;have h3:=Fq.o;rw[e]at h3;cases h3
  have hn4:n<5:=by omega
  have HR2:Hid (r=(bG f R.l i d (n+1)).bind fun x j=>AY f R.l j d n x):=by show _=_;rw[HRR.o,bG,if_neg UL]
  have R1:IntKind.i64.wrap ((n:Int)+1)=(n:Int)+1:=IntWalk.i64_in _ om;clear UL;go_wp2_with fail;have HLV:Hid (∀X i' f',f'<f+1→bI R X i' d→bG f' R.l i' d (n+1)≠.out→Calls Tryz.prog 128 #[.agg #[eU R.rb 0],.int .i64 ((n:Int)+1)] X (aJ R d (OZ X.heap.size) (bG f' R.l i' d (n+1)) X)):=fun X i' f' hf hX hno=>(IH.o f' hf).1 R X i' d (n+1) HL.o hX hd om hno
  cases hx:bG f R.l i d (n+1)with
  |out=>exact absurd (by rw[HR2.o,hx];rfl) eX.o
  |err c ln col=>have HX:=au hx;clear hx;refine(HLV.o _ i f (Nat.lt_succ_self f) H2.o (by rw[HX.o];intro h;cases h)).mono ?_;rintro e wq hp;rw[HX.o]at hp;obtain⟨rfl,sq⟩:=hp;refine⟨rfl,?_⟩;rw[HR2.o,HX.o];exact⟨rfl,((dH.o.mono fe).trans HS2.o).trans sq⟩
  |ok x jx=>
   have HX:=au hx;clear hx;refine(HLV.o _ i f (Nat.lt_succ_self f) H2.o (by rw[HX.o];intro h;cases h)).mono ?_;rintro e wx hp;rw[HX.o]at hp;obtain⟨⟨v,rfl,cs,rfl,hy⟩,hrx,hsx⟩:=hp;have HY:=au hy;obtain⟨k0,jf,v0,jg,a1,n1,c1,a2,n2,c2,a3,n3,c3,l0,c0,rfl⟩:=hy.parts;have vX:=au hrx;have rQ:Hid (Step (·=R.rb) w1 wx):=HS2.o.trans hsx;(have HR3:Hid (r=AY f R.l jx d n x):=by show _=_;rw[HR2.o,HX.o];rfl);have hzx:=hsx.size;obtain⟨w3,hw3⟩:=aN (wx.alloc (.cells #[ak k0,a_ jf,cO v0,dW jg,.slice a1 n1 c1,.slice a2 n2 c2,.slice a3 n3 c3,ak l0,ak c0] 56));(have fK:Hid (StF wx w3):=by rw[hw3];exact bK.alloc _);(have HB3:Hid (w3.heap[wx.heap.size]?=some (.cells #[ak k0,a_ jf,cO v0,dW jg,.slice a1 n1 c1,.slice a2 n2 c2,.slice a3 n3 c3,ak l0,ak c0] 56 (0,0))):=by rw[hw3];exact aC _ _);have kK:Hid (Step (·=R.rb) w1 w3):=rQ.o.trans (fK.o.mono fe);have HW3:=au hw3;clear hy hrx hsx p0 hw3;have hxb:=aK HB3.o;have hz3:=fK.o.size;have HEX3:Hid (fA w3 (fun q=>w1.heap.size≤q∧q≠wx.heap.size) x [.int .i64 k0,.string jf,.int .u64 v0,.bool jg,.slice a1 n1 c1,.slice a2 n2 c2,.slice a3 n3 c3,.int .i64 l0,.int .i64 c0]):=fA.step fK.o (fun _ _ h=>h) _ _ (fA.mono (fun q hq hh=>⟨by omega,by omega⟩) _ _ HY.o);have VA:Hid (Ba R w1 w3 wx.heap.size d w3 jx x [.int .i64 k0,.string jf,.int .u64 v0,.bool jg,.slice a1 n1 c1,.slice a2 n2 c2,.slice a3 n3 c3,.int .i64 l0,.int .i64 c0]):=⟨vX.o.quiet fK.o,HB3.o,HEX3.o,Step.refl _ _⟩;(go_upto_block 0 with fail);rw[←HW3.o];obtain⟨bx,hbx⟩:=aN wx.heap.size;rw[←hbx]at VA hxb⊢;(have hbx1:w1.heap.size≤bx:=by omega);have yY:=au (kK.o.keep kL.o om);have tJ:=au (kK.o.keep kT.o om);(have Ib:Hid (∀X:World,Step (fun q=>q=R.rb∨q=bx) w3 X→X.cell? ⟨w.heap.size,0,none⟩=some (.pointer (some ⟨R.rb,0,none⟩))∧X.heap[w.heap.size+1]?=some (.cells #[ak 0,di,cO 0,aT,ay,ay,ay,ak 0,ak 0] 56 (0,0))):=by intro X hX;exact⟨aj (hX.keep yY.o om) 0 _ rfl,hX.keep tJ.o om⟩);have JP:Hid (Step (·=R.rb) w w3):=(dH.o.mono fe).trans kK.o;clear hbx;go_wp2_with fail;go_loopg [6,7] f (fun gg s6 s7 wr=>gg≤f∧∃(i':Nat) (x:Ex) (cs:List Value),r=AY gg R.l i' d n x∧Ba R w1 w3 bx d wr i' x cs);case atStart=>exact⟨Nat.le_refl _,jx,x,_,HR3.o,VA.o⟩
   case round=>
    obtain⟨hgf,i',x,cs,hrq,hst⟩:=hrel;have HRQ:=au hrq;obtain⟨gn,rfl⟩:∃gn,gk=gn+1:=by
     cases gk with
     |zero=>exact absurd hrq (by rw[AY];exact eX.o)
     |succ gn=>exact⟨gn,rfl⟩
    obtain⟨k0,jf,v0,jg,a1,n1,c1,a2,n2,c2,a3,n3,c3,l0,c0,rfl⟩:=hst.ex.parts;have HST:=au hst;obtain⟨p0,-⟩:=Ib.o wr hst.st;obtain⟨tk,htk⟩:=aN (tokA R.l i');have LH:=au htk;have HAT:=au (at_at R wr i' d tk hst.rd (by rw[htk];exact hst.rd.tok));clear hrq hst htk;(go_upto_region 4 with fail);go_wp2_with fail;refine HAT.o.mono ?_;rintro e w4 ⟨rfl,h4⟩;have fC:=au (HST.o.quiet h4);obtain⟨w5,hw5⟩:=aN (w4.alloc (.cells #[ak tk.line,ak tk.col] 25));(have oD:Hid (StF w4 w5):=by rw[hw5];exact bK.alloc _);(have HQ5:Hid (w5.heap[w4.heap.size]?=some (.cells #[ak tk.line,ak tk.col] 25 (0,0))):=by rw[hw5];exact aC _ _);have mD:=au (fC.o.quiet oD.o);have hz4:=fC.o.st.size;have HW5:=au hw5;clear h4 hw5 p0;obtain⟨p0,-⟩:=Ib.o w5 mD.o.st;(go_upto_region 5 with fail);rw[←HW5.o];go_wp2_with fail;refine(op_any R HL.o w5 i' d n mD.o.rd hn4).mono ?_;rintro e w6 ⟨rfl,qj,h6⟩;cases ho:zQ R.l i' n with
    |none=>
     rw[ho]at qj;have xQ:Hid (bI R w6 i' d):=qj;have fG:=au (mD.o.read om om xQ.o h6);(have mP:Hid (r=.ok x i'):=by show _=_;rw[HRQ.o,AY,ho]);have eG:=au fG.o.ex.one;(have iD:Hid (∀(jj:Nat) v,[Value.int .i64 k0,a_ jf,cO v0,dW jg,.slice a1 n1 c1,.slice a2 n2 c2,.slice a3 n3 c3,ak l0,ak c0][jj]?=some v→w6.cell? ⟨bx,0+jj,none⟩=some v):=by intro jj v hv;rw[Nat.zero_add];exact aj fG.o.blk jj v rF);have pX:=au (Ib.o w6 fG.o.st).2;clear qj h6 ho p0;rw[show opS none=(⟨#[]⟩:ByteArray) from rfl];go_wp2_with (first
      |(refine aA rfl 56 (.tmp 5) rfl bx 0 rfl [.int .i64 k0,.string jf,.int .u64 v0,.bool jg,.slice a1 n1 c1,.slice a2 n2 c2,.slice a3 n3 c3,.int .i64 l0,.int .i64 c0] _ iD.o Tryz.underlying56 rfl Tryz.bf ?_)
      |(refine aG (w:=w6) rfl 56 (.tmp 4) (.tmp 26) rfl (w.heap.size+1) 0 56 _ [.int .i64 k0,.string jf,.int .u64 v0,.bool jg,.slice a1 n1 c1,.slice a2 n2 c2,.slice a3 n3 c3,.int .i64 l0,.int .i64 c0] rfl rfl pX.o Tryz.bf (Nat.le_of_eq rfl) eG.o ?_;intro w7 hb7 uP))
     have hb7':w7.heap[w.heap.size+1]?=some (.cells [Value.int .i64 k0,a_ jf,cO v0,dW jg,.slice a1 n1 c1,.slice a2 n2 c2,.slice a3 n3 c3,ak l0,ak c0].toArray 56 (0,0)):=hb7;refine bodyPost_ret (aY rfl _ (w.heap.size+1) 56 _ _ rfl hb7' Tryz.underlying56 rfl Tryz.bf) rfl ?_;rw[mP.o];have hz1:=dH.o.size;refine⟨⟨_,rfl,_,rfl,fA.mono (fun q _ hq=>by have:=hq.1;omega) _ _ (fA.step uP (fun q hq e=>by have:=hq.1;omega) _ _ fG.o.ex)⟩,fG.o.rd.step uP oi,?_⟩;exact(JP.o.then fG.o.st oi).then uP oi
    |some s=>
     rw[ho]at qj;have xQ:Hid (bI R w6 (i'+1) d):=qj;have fG:=au (mD.o.read om om xQ.o h6);have HQ6:=au (h6.keep HQ5.o om);(have mP:Hid (r=(bG gn R.l (i'+1) d (n+1)).bind fun y j=>if n=2 then .ok (dm 14 (AQ s) 0 false [x,y] [] [] tk) j else AY gn R.l j d n (dm 14 (AQ s) 0 false [x,y] [] [] tk)):=by show _=_;rw[HRQ.o,AY,ho,LH.o]);obtain⟨sB,hsB⟩:=aN (AQ s);(have hpos:0<sB.size∧sB.size≤9223372036854775807:=by have hm:=List.mem_of_find?_eq_some ho;rw[hsB];show 0<s.toArray.size∧s.toArray.size≤_;rcases(show n=0∨n=1∨n=2∨n=3∨n=4 by omega)with e|e|e|e|e<;>subst e<;>simp[opsL]at hm<;>(rcases hm with rfl|rfl)<;>decide);have HPOS:=au hpos.2;have he:=jL sB hpos.1;have he':=jA sB hpos.1;have G6:=au hsB;have hx6:opS (some s)=sB:=hsB.symm;rw[hx6];rw[←hsB]at mP;obtain⟨p0,-⟩:=Ib.o w6 fG.o.st;clear qj h6 ho hsB hx6 hpos;have hz5:=oD.o.size;have hz46:=fG.o.st.size;have hq6:=aK HQ6.o;have hxs:=aK fG.o.blk;(go_upto_region 8 with fail);(have HZ8:Hid (∀(j2:Nat) (y:Ex) V,LvJ8 R (i'+1) j2 d bx w.heap.size w4.heap.size w6 sB n tk.line tk.col [.int .i64 k0,.string jf,.int .u64 v0,.bool jg,.slice a1 n1 c1,.slice a2 n2 c2,.slice a3 n3 c3,.int .i64 l0,.int .i64 c0] y (fun _=>false) V w6.drew):=by intro j2 y V;have hs:StF w6 w6.drew:=bK.drew;exact⟨gQ,gQ,gQ,gQ,gQ,gQ,gQ,gQ,gQ,hs.mono fe,fG.o.rd.quiet hs,fun _=>hs.keep fG.o.blk (fun h=>h),gQ,hs.cell (Ib.o w6 fG.o.st).1 (fun h=>h),hs.keep HQ6.o (fun h=>h),gQ,gQ,gQ⟩);cases hx:bG gn R.l (i'+1) d (n+1)with
     |out=>exact absurd (by rw[mP.o,hx];rfl) eX.o
     |err c ln col=>
      have HX:=au hx;clear hx;obtain⟨j2,-⟩:∃j2:Nat,j2=0:=⟨_,rfl⟩;obtain⟨y,-⟩:∃y:Ex,y=x:=⟨_,rfl⟩;(have xP:Hid (∀X,bI R X (i'+1) d→Calls Tryz.prog 128 #[.agg #[eU R.rb 0],.int .i64 ((n:Int)+1)] X fun e wq=>e=.panicked [{v:=.iface 251 (.agg #[ak c,ak ln,ak col]),recovered:=false}]∧Step (·=R.rb) X wq):=by intro X hX;have h9:=HLV.o X (i'+1) gn om hX (by rw[HX.o];intro h;cases h);rw[HX.o]at h9;exact h9);(have FB:Hid (∀X wq:World,Step (fun q=>q=R.rb∨q=bx) w6 X→Step (·=R.rb) X wq→aJ R d (OZ w.heap.size) r w (.panicked [{v:=.iface 251 (.agg #[ak c,ak ln,ak col]),recovered:=false}]) wq):=by intro X wq h1 h2;rw[mP.o,HX.o];exact⟨rfl,(JP.o.then (fG.o.st.trans h1) oi).trans h2⟩);refine bP kr (fun L V X=>LvJ8 R (i'+1) j2 d bx w.heap.size w4.heap.size w6 sB n tk.line tk.col [.int .i64 k0,.string jf,.int .u64 v0,.bool jg,.slice a1 n1 c1,.slice a2 n2 c2,.slice a3 n3 c3,.int .i64 l0,.int .i64 c0] y L V X∧L 5=false) 10 rfl kr kr kr kr ?h0 ?hs ?hdone;case h0=>exact⟨HZ8.o _ _ _,rfl⟩
      case hs=>
       refine⟨?_,?_,?_,?_,?_,?_,?_,?_,?_,?_,trivial⟩
       all_goals intro L V X a ev dG hdf hL ax hJ
       ·have o7:=dG 7 rfl;change a.tmps[7]?.getD undef=.string sB at o7;go_simp;exact⟨_,rfl,{hJ.1 with p0:=fun _=>rfl},hJ.2⟩
       ·have o5:=dG 5 rfl;change a.tmps[5]?.getD undef=.pointer (some ⟨bx,0,none⟩)at o5;have h9:L 9=false:=by
         cases e:L 9 with
         |false=>rfl
         |true=>exact absurd (hJ.1.q9 e).1 (by rw[hL];decide)
        have hb:=hJ.1.x0 h9;refine wp_load_mid 56 (.tmp 5) rfl bx 0 (by rw[bM];exact o5) [.int .i64 k0,.string jf,.int .u64 v0,.bool jg,.slice a1 n1 c1,.slice a2 n2 c2,.slice a3 n3 c3,.int .i64 l0,.int .i64 c0] _ (fun jj v hv=>by rw[Nat.zero_add];exact aj hb jj v rF) Tryz.underlying56 rfl Tryz.bf ?_;exact⟨_,rfl,{hJ.1 with p1:=fun _=>rfl,q6:=fun e=>absurd (hJ.1.q6 e).1 (by rw[hL];decide),q9:=fun e=>absurd (show L 9=true from e) (by rw[h9];decide)},hJ.2⟩
       ·have o2:=dG 2 rfl;change a.tmps[2]?.getD undef=.pointer (some ⟨w.heap.size,0,none⟩)at o2;have p9:=hJ.1.LJ;go_simp;exact⟨_,rfl,{hJ.1 with p2:=fun _=>rfl},hJ.2⟩
       ·have o1:=dG 1 rfl;change a.tmps[1]?.getD undef=.int .i64 (n:Int)at o1;go_simp;exact⟨_,rfl,{hJ.1 with p3:=fun _=>rfl},hJ.2⟩
       ·have e30:=(ev 3 30 rfl (ax 3 rfl)).trans (hJ.1.p3 (ax 3 rfl));go_simp;exact⟨_,rfl,{hJ.1 with p4:=fun _=>rfl},hJ.2⟩
       ·have e29:=(ev 2 29 rfl (ax 2 rfl)).trans (hJ.1.p2 (ax 2 rfl));have e31:=(ev 4 31 rfl (ax 4 rfl)).trans (hJ.1.p4 (ax 4 rfl));have hrd:=hJ.1.rd;rw[hL,if_neg dc]at hrd;have h6:L 6=false:=by
         cases e:L 6 with
         |false=>rfl
         |true=>exact absurd (hJ.1.q6 e).2 (by rw[hL];decide)
        have h9:L 9=false:=by
         cases e:L 9 with
         |false=>rfl
         |true=>exact absurd (hJ.1.q9 e).2.1 (by rw[hL];decide)
        have h8:L 8=false:=by
         cases e:L 8 with
         |false=>rfl
         |true=>exact absurd (hJ.1.q8 e) (by rw[h6];decide)
        go_simp;refine(xP.o X hrd).mono ?_;rintro e wq ⟨rfl,hs⟩;exact⟨hdf,FB.o X wq hJ.1.st hs⟩
       ·exact absurd hJ.2 (by rw[show L 5=true from ax 5 rfl];decide)
       ·have o6:=dG 6 rfl;change a.tmps[6]?.getD undef=.pointer (some ⟨w4.heap.size,0,none⟩)at o6;have q0:=aj hJ.1.Ia 0 _ rfl;have q1:=aj hJ.1.Ia 1 _ rfl;go_simp;have h9:L 9=false:=by
         cases e:L 9 with
         |false=>rfl
         |true=>exact absurd (hJ.1.q9 e).2.2.2.1 (by rw[hL];decide)
        exact⟨_,rfl,{hJ.1 with p7:=fun _=>rfl,q9:=fun e=>absurd (show L 9=true from e) (by rw[h9];decide)},hJ.2⟩
       ·exact absurd hJ.2 (by rw[show L 5=true from(hJ.1.q6 (ax 6 rfl)).2];decide)
       ·exact absurd hJ.2 (by rw[show L 5=true from(hJ.1.q6 (hJ.1.q8 (ax 8 rfl))).2];decide)
      case hdone=>intro L V X hall hJ;exact absurd hJ.2 (by rw[hall 5 dc];decide)
     |ok y j2=>
      have HX:=au hx;clear hx;(have xP:Hid (∀X,bI R X (i'+1) d→Calls Tryz.prog 128 #[.agg #[eU R.rb 0],.int .i64 ((n:Int)+1)] X fun e wq=>(∃v,e=.returned v∧∃cs:List Value,v=.agg cs.toArray∧fA wq (fun q=>X.heap.size≤q) y cs)∧bI R wq j2 d∧Step (·=R.rb) X wq):=by intro X hX;have h9:=HLV.o X (i'+1) gn om hX (by rw[HX.o];intro h;cases h);rw[HX.o]at h9;exact h9);(have pG:Hid (r=if n=2 then .ok (dm 14 sB 0 false [x,y] [] [] tk) j2 else AY gn R.l j2 d n (dm 14 sB 0 false [x,y] [] [] tk)):=by show _=_;rw[mP.o,HX.o];rfl);go_cut [] (fun wx=>∃g:Nat,Ba R w1 w3 bx d wx j2 (dm 14 sB 0 false [x,y] [] [] tk) [.int .i64 14,.string sB,.int .u64 0,.bool false,.slice (some ⟨g,0,none⟩) 2 2,.slice none 0 0,.slice none 0 0,.int .i64 tk.line,.int .i64 tk.col]);case first=>
       refine bP kr (LvJ8 R (i'+1) j2 d bx w.heap.size w4.heap.size w6 sB n tk.line tk.col [.int .i64 k0,.string jf,.int .u64 v0,.bool jg,.slice a1 n1 c1,.slice a2 n2 c2,.slice a3 n3 c3,.int .i64 l0,.int .i64 c0] y) 10 rfl kr kr kr kr ?h0 ?hs ?hdone;case h0=>exact HZ8.o _ _ _
       case hs=>
        refine⟨?_,?_,?_,?_,?_,?_,?_,?_,?_,?_,trivial⟩
        all_goals intro L V X a ev dG hdf hL ax hJ
        ·have o7:=dG 7 rfl;change a.tmps[7]?.getD undef=.string sB at o7;go_simp;exact⟨_,rfl,{hJ with p0:=fun _=>rfl}⟩
        ·have o5:=dG 5 rfl;change a.tmps[5]?.getD undef=.pointer (some ⟨bx,0,none⟩)at o5;have h9:L 9=false:=by
          cases e:L 9 with
          |false=>rfl
          |true=>exact absurd (hJ.q9 e).1 (by rw[hL];decide)
         have hb:=hJ.x0 h9;refine wp_load_mid 56 (.tmp 5) rfl bx 0 (by rw[bM];exact o5) [.int .i64 k0,.string jf,.int .u64 v0,.bool jg,.slice a1 n1 c1,.slice a2 n2 c2,.slice a3 n3 c3,.int .i64 l0,.int .i64 c0] _ (fun jj v hv=>by rw[Nat.zero_add];exact aj hb jj v rF) Tryz.underlying56 rfl Tryz.bf ?_;exact⟨_,rfl,{hJ with p1:=fun _=>rfl,q6:=fun e=>absurd (hJ.q6 e).1 (by rw[hL];decide),q9:=fun e=>absurd (show L 9=true from e) (by rw[h9];decide)}⟩
        ·have o2:=dG 2 rfl;change a.tmps[2]?.getD undef=.pointer (some ⟨w.heap.size,0,none⟩)at o2;have p9:=hJ.LJ;go_simp;exact⟨_,rfl,{hJ with p2:=fun _=>rfl}⟩
        ·have o1:=dG 1 rfl;change a.tmps[1]?.getD undef=.int .i64 (n:Int)at o1;go_simp;exact⟨_,rfl,{hJ with p3:=fun _=>rfl}⟩
        ·have e30:=(ev 3 30 rfl (ax 3 rfl)).trans (hJ.p3 (ax 3 rfl));go_simp;exact⟨_,rfl,{hJ with p4:=fun _=>rfl}⟩
        ·have e29:=(ev 2 29 rfl (ax 2 rfl)).trans (hJ.p2 (ax 2 rfl));have e31:=(ev 4 31 rfl (ax 4 rfl)).trans (hJ.p4 (ax 4 rfl));have hrd:=hJ.rd;rw[hL,if_neg dc]at hrd;have h6:L 6=false:=by
          cases e:L 6 with
          |false=>rfl
          |true=>exact absurd (hJ.q6 e).2 (by rw[hL];decide)
         have h9:L 9=false:=by
          cases e:L 9 with
          |false=>rfl
          |true=>exact absurd (hJ.q9 e).2.1 (by rw[hL];decide)
         have h8:L 8=false:=by
          cases e:L 8 with
          |false=>rfl
          |true=>exact absurd (hJ.q8 e) (by rw[h6];decide)
         go_simp;refine(xP.o X hrd).mono ?_;rintro e wq ⟨⟨v,rfl,cs,rfl,hy⟩,hr,hs⟩;have hzz:=hJ.st.size;refine⟨_,rfl,{hJ with p5:=fun _=>⟨cs,rfl,fA.mono oi _ _ hy⟩,p6:=fun e=>absurd (show L 6=true from e) (by rw[h6];decide),p8:=fun e=>absurd (show L 8=true from e) (by rw[h8];decide),st:=hJ.st.trans (hs.mono il),rd:=hr,x0:=fun e=>hs.keep (hJ.x0 e) om,x1:=fun e=>absurd (show L 9=true from e) (by rw[h9];decide),LJ:=hs.cell hJ.LJ (fun e=>by have e2:w.heap.size=R.rb:=e;omega),Ia:=hs.keep hJ.Ia om,q6:=fun e=>absurd (show L 6=true from e) (by rw[h6];decide),q8:=fun e=>absurd (show L 8=true from e) (by rw[h8];decide),q9:=fun e=>absurd (show L 9=true from e) (by rw[h9];decide)}⟩
        ·have e28:=(ev 1 28 rfl (ax 1 rfl)).trans (hJ.p1 (ax 1 rfl));obtain⟨cs,y1,y2⟩:=hJ.p5 (ax 5 rfl);obtain⟨k5,nm5,v5,MO,b1,m1,d1,b2,m2,d2,b3,m3,d3,l5,c5,rfl⟩:=y2.parts;have e32:=(ev 5 32 rfl (ax 5 rfl)).trans y1;have hs:StF X (X.alloc (.cells #[ak k0,a_ jf,cO v0,dW jg,.slice a1 n1 c1,.slice a2 n2 c2,.slice a3 n3 c3,ak l0,ak c0,ak k5,a_ nm5,cO v5,dW MO,.slice b1 m1 d1,.slice b2 m2 d2,.slice b3 m3 d3,ak l5,ak c5] 56)):=bK.alloc _;have h8:L 8=false:=by
          cases e:L 8 with
          |false=>rfl
          |true=>exact absurd (hJ.q8 e) (by rw[hL];decide)
         have h9:L 9=false:=by
          cases e:L 9 with
          |false=>rfl
          |true=>exact absurd (hJ.q9 e).2.2.1 (by rw[hL];decide)
         go_simp;refine⟨_,rfl,{hJ with p5:=fun e=>⟨_,y1,fA.step hs (fun _ _ h=>h) _ _ y2⟩,p6:=fun _=>⟨X.heap.size,_,rfl,hJ.st.size,fA.step hs (fun _ _ h=>h) _ _ y2,aC _ _⟩,p8:=fun e=>absurd (show L 8=true from e) (by rw[h8];decide),st:=hJ.st.alloc _,rd:=hJ.rd.quiet hs,x0:=fun e=>hs.keep (hJ.x0 e) (fun h=>h),x1:=fun e=>absurd (show L 9=true from e) (by rw[h9];decide),LJ:=hs.cell hJ.LJ (fun h=>h),Ia:=hs.keep hJ.Ia (fun h=>h),q6:=fun _=>⟨ax 1 rfl,ax 5 rfl⟩,q8:=fun e=>absurd (show L 8=true from e) (by rw[h8];decide),q9:=fun e=>absurd (show L 9=true from e) (by rw[h9];decide)}⟩
        ·have o6:=dG 6 rfl;change a.tmps[6]?.getD undef=.pointer (some ⟨w4.heap.size,0,none⟩)at o6;have q0:=aj hJ.Ia 0 _ rfl;have q1:=aj hJ.Ia 1 _ rfl;go_simp;have h9:L 9=false:=by
          cases e:L 9 with
          |false=>rfl
          |true=>exact absurd (hJ.q9 e).2.2.2.1 (by rw[hL];decide)
         exact⟨_,rfl,{hJ with p7:=fun _=>rfl,q9:=fun e=>absurd (show L 9=true from e) (by rw[h9];decide)}⟩
        ·have e27:=(ev 0 27 rfl (ax 0 rfl)).trans (hJ.p0 (ax 0 rfl));have e34:=(ev 7 34 rfl (ax 7 rfl)).trans (hJ.p7 (ax 7 rfl));obtain⟨g,cs,c1,-⟩:=hJ.p6 (ax 6 rfl);have e33:=(ev 6 33 rfl (ax 6 rfl)).trans c1;go_simp;have h9:L 9=false:=by
          cases e:L 9 with
          |false=>rfl
          |true=>exact absurd (hJ.q9 e).2.2.2.2 (by rw[hL];decide)
         exact⟨_,rfl,{hJ with p8:=fun _=>⟨g,c1,rfl⟩,q8:=fun _=>ax 6 rfl,q9:=fun e=>absurd (show L 9=true from e) (by rw[h9];decide)}⟩
        ·have o5:=dG 5 rfl;change a.tmps[5]?.getD undef=.pointer (some ⟨bx,0,none⟩)at o5;obtain⟨g,g1,g2⟩:=hJ.p8 (ax 8 rfl);have e35:=(ev 8 35 rfl (ax 8 rfl)).trans g2;have hb:=hJ.x0 hL;have h6:=hJ.q8 (ax 8 rfl);have hbs:=aK hb;refine eH 56 (.tmp 5) (.tmp 35) rfl bx 0 56 _ [.int .i64 14,.string sB,.int .u64 0,.bool false,.slice (some ⟨g,0,none⟩) 2 2,.slice none 0 0,.slice none 0 0,.int .i64 tk.line,.int .i64 tk.col] (by rw[bM];exact o5) (by rw[bM];exact e35) hb Tryz.bf (Nat.le_of_eq rfl) (XNONE sB tk.line tk.col g) ?_;intro w9 iJ hs9;have hbb:w9.heap[bx]?=some (.cells #[ak 14,a_ sB,cO 0,aT,.slice (some ⟨g,0,none⟩) 2 2,ay,ay,ak tk.line,ak tk.col] 56 (0,0)):=iJ;refine⟨undef,rfl,{hJ with p5:=fun e=> ?_,p6:=fun e=> ?_,st:=hJ.st.trans (hs9.mono ir),rd:=hJ.rd.step hs9 oi,x0:=(fun e=>by cases (show true=false from e)),x1:=fun _=>⟨g,g1,hbb⟩,LJ:=hs9.cell hJ.LJ (fun e=>by have e2:w.heap.size=bx:=e;omega),Ia:=hs9.keep hJ.Ia om,q9:=fun _=>⟨(hJ.q6 h6).1,(hJ.q6 h6).2,h6,ax 7 rfl,ax 8 rfl⟩}⟩
         ·obtain⟨cs,c1,c2⟩:=hJ.p5 e;exact⟨cs,c1,fA.step hs9 oi _ _ c2⟩
         ·obtain⟨g',cs,c1,c2,c3,c4⟩:=hJ.p6 e;exact⟨g',cs,c1,c2,fA.step hs9 oi _ _ c3,hs9.keep c4 om⟩
       case hdone=>intro L V X hall hJ;obtain⟨g,c1,c2⟩:=hJ.x1 (hall 9 dc);obtain⟨g',cs,d1,d2,d3,d4⟩:=hJ.p6 (hall 6 dc);rw[c1]at d1;cases d1;have hrd:=hJ.rd;rw[hall 5 dc,if_pos rfl]at hrd;have hst:=hJ.st;(have lI:Hid (Ba R w1 w3 bx d X j2 (dm 14 sB 0 false [x,y] [] [] tk) [.int .i64 14,.string sB,.int .u64 0,.bool false,.slice (some ⟨g,0,none⟩) 2 2,.slice none 0 0,.slice none 0 0,.int .i64 tk.line,.int .i64 tk.col]):=by refine⟨hrd,c2,?_,fG.o.st.trans hst⟩;have hex:=fA.step hst (fun q hq e=>by have:=hq.1.1;have:=hq.1.2;omega) _ _ (fA.mono (P':=fun q=>(w1.heap.size≤q∧q≠bx)∧q<w6.heap.size) (fun q h7 h8=>⟨h8,h7⟩) _ _ fG.o.ex);rw[dm,fA];refine⟨_,_,_,_,[],rfl,HPOS.o,lu,?_,cu.new d4 dc om,cu.nil _ _ _,by rw[iO],cu.nil _ _ _⟩;rw[dM];refine⟨_,_,rfl,fA.mono (fun q _ hq=>hq.1) _ _ hex,?_⟩;exact dM.single (fA.mono oi _ _ d3));rw[show List.range 10=[0,1,2,3,4,5,6,7,8,9] from rfl];simp only[kJ,fO,gsQ,o9];clear hJ hall;go_wp2_with fail;go_meet;case rel=>exact⟨g,lI.o⟩
      case rest=>
       obtain⟨g,hls⟩:=hcut;obtain⟨w8,rfl⟩:=aN wc;have jO:=au hls;obtain⟨b2,hb2⟩:∃b2,((n:Int)==2)=b2:=⟨_,rfl⟩;have HB2:Hid ((n==2)=b2):=(kQ n 2 2 rfl).symm.trans hb2;clear hls p0;cases b2 with
       |false=>
        (have hn2:n≠2:=by intro e;have h3:=HB2.o;rw[e]at h3;cases h3);(have kU:Hid (r=AY gn R.l j2 d n (dm 14 sB 0 false [x,y] [] [] tk)):=by show _=_;rw[pG.o,if_neg hn2]);clear hn2;go_wp2_with fail;go_roundg gn;case rel=>exact⟨by omega,j2,_,_,kU.o,jO.o⟩
        case measure=>omega
       |true=>
        (have hn2:n=2:=by simpa using HB2.o);(have kU:Hid (r=.ok (dm 14 sB 0 false [x,y] [] [] tk) j2):=by show _=_;rw[pG.o,if_pos hn2]);clear hn2;have eG:=au jO.o.ex.one;(have iD:Hid (∀(jj:Nat) v,[Value.int .i64 14,a_ sB,cO 0,aT,.slice (some ⟨g,0,none⟩) 2 2,ay,ay,ak tk.line,ak tk.col][jj]?=some v→w8.cell? ⟨bx,0+jj,none⟩=some v):=by intro jj v hv;rw[Nat.zero_add];exact aj jO.o.blk jj v rF);have HN8:=au (Ib.o w8 jO.o.st).2;go_wp2_with (first
         |(refine aA rfl 56 (.tmp 5) rfl bx 0 rfl [.int .i64 14,.string sB,.int .u64 0,.bool false,.slice (some ⟨g,0,none⟩) 2 2,.slice none 0 0,.slice none 0 0,.int .i64 tk.line,.int .i64 tk.col] _ iD.o Tryz.underlying56 rfl Tryz.bf ?_)
         |(refine aG (w:=w8) rfl 56 (.tmp 4) (.tmp 38) rfl (w.heap.size+1) 0 56 _ [.int .i64 14,.string sB,.int .u64 0,.bool false,.slice (some ⟨g,0,none⟩) 2 2,.slice none 0 0,.slice none 0 0,.int .i64 tk.line,.int .i64 tk.col] rfl rfl HN8.o Tryz.bf (Nat.le_of_eq rfl) eG.o ?_;intro w9 iJ yZ))
        have hb9':w9.heap[w.heap.size+1]?=some (.cells [Value.int .i64 14,a_ sB,cO 0,aT,.slice (some ⟨g,0,none⟩) 2 2,ay,ay,ak tk.line,ak tk.col].toArray 56 (0,0)):=iJ;refine bodyPost_ret (aY rfl _ (w.heap.size+1) 56 _ _ rfl hb9' Tryz.underlying56 rfl Tryz.bf) rfl ?_;rw[kU.o];have hz1:=dH.o.size;refine⟨⟨_,rfl,_,rfl,fA.mono (fun q _ hq=>by have:=hq.1;omega) _ _ (fA.step yZ (fun q hq e=>by have:=hq.1;omega) _ _ jO.o.ex)⟩,jO.o.rd.step yZ oi,?_⟩;exact(JP.o.then jO.o.st oi).then yZ oi
theorem nJ (f:Nat) (ih:oC f) (R:gJ) (w:World) (i d:Nat) (hl:oZ R.l) (h:bI R w i d) (hd:d≤40) (hno:bG f R.l i d 0≠.out):Calls Tryz.prog 77 #[.agg #[eU R.rb 0]] w (aJ R d (OZ w.heap.size) (bG f R.l i d 0) w):=by
 obtain⟨w1,hw1⟩:=aN ((w.alloc (.cells #[eU R.rb 0] 97)).alloc (.cells #[ak 0,di,cO 0,aT,ay,ay,ay,ak 0,ak 0] 56));have dH:=nT hw1
 have kL:=nC hw1
 have kT:=nD hw1
 have HW1:=au hw1;have H1:=au (h.quiet dH.o);have hn1:=aK kT.o;have rU:=aK h.blk;have p0:=aj kL.o 0 _ rfl;have HC:=au (ih R w1 i d 0 hl H1.o hd om hno);obtain⟨r,hr⟩:=aN (bG f R.l i d 0);rw[←hr]at HC hno⊢;have eX:=au hno;clear ih hl h hno hr hw1;go_enter Tryz.func77,Tryz.ntmps77;go_upto_region 1 with fail
 rw[←HW1.o];go_wp2_with fail;have hc2:Calls Tryz.prog 128 #[.agg #[eU R.rb 0],.int .i64 0] w1 (aJ R d (OZ w1.heap.size) r w1):=HC.o;refine hc2.mono ?_;clear hc2;rintro e wx hp;cases r with
 |out=>exact absurd rfl eX.o
 |err c ln col=>obtain⟨rfl,sq⟩:=hp;exact⟨rfl,rfl,(dH.o.mono fe).trans sq⟩
 |ok y jx=>
  obtain⟨⟨v,rfl,cs,rfl,hy⟩,hrx,hsx⟩:=hp;have HY:=au hy;have eG:=au hy.one;obtain⟨k0,jf,v0,jg,a1,n1,c1,a2,n2,c2,a3,n3,c3,l0,c0,rfl⟩:=hy.parts;have vX:=au hrx;have rQ:=au hsx;have kC:=au (hsx.keep kT.o om);clear hy hrx hsx p0
  go_wp2_with (refine aG (w:=wx) rfl 56 (.tmp 2) (.tmp 4) rfl (w.heap.size+1) 0 56 _ [.int .i64 k0,.string jf,.int .u64 v0,.bool jg,.slice a1 n1 c1,.slice a2 n2 c2,.slice a3 n3 c3,.int .i64 l0,.int .i64 c0] rfl rfl kC.o Tryz.bf (Nat.le_of_eq rfl) eG.o ?_
               intro w6 hb6 xR)
  have SN:w6.heap[w.heap.size+1]?=some (.cells [Value.int .i64 k0,a_ jf,cO v0,dW jg,.slice a1 n1 c1,.slice a2 n2 c2,.slice a3 n3 c3,ak l0,ak c0].toArray 56 (0,0)):=hb6;refine bodyPost_ret (aY rfl _ (w.heap.size+1) 56 _ _ rfl SN Tryz.underlying56 rfl Tryz.bf) rfl ?_;have hz1:=dH.o.size;refine⟨⟨_,rfl,_,rfl,fA.mono oi _ _ (fA.step xR oi _ _ HY.o)⟩,vX.o.step xR oi,?_⟩;exact((dH.o.mono fe).trans rQ.o).then xR oi
theorem one_step (f:Nat) (ih:oC f):Vw (f+1):=by
 intro R w i d hl h hd hno;have HL:=au hl;have HEX:Hid (∀X j,bI R X j d→bG f R.l j d 0≠.out→Calls Tryz.prog 77 #[.agg #[eU R.rb 0]] X (aJ R d (OZ X.heap.size) (bG f R.l j d 0) X)):=fun X j hX hn=>nJ f ih R X j d hl hX hd hn;obtain⟨r,hr⟩:=aN (uK (f+1) R.l i d);have HRR:Hid (r=(aH R.l i [40]).bind fun _ j=>(bG f R.l j d 0).bind fun x j=>(aH R.l j [41]).bind fun _ j=>.ok x j):=by show _=_;rw[hr,uK]
 rw[←hr]at hno⊢;have eX:=au hno;obtain⟨w1,hw1⟩:=aN (w.alloc (.cells #[eU R.rb 0] 97));have dH:=nS hw1
 have kL:=nB hw1
 have HW1:=au hw1;have H1:=au (h.quiet dH.o);have hn1:=aK kL.o;have rU:=aK h.blk;have cZ:Hid (∀X:World,Step (·=R.rb) w1 X→X.cell? ⟨w.heap.size,0,none⟩=some (.pointer (some ⟨R.rb,0,none⟩))):=fun X hX=>aj (hX.keep kL.o om) 0 _ rfl
 have p0:=cZ.o w1 bK;clear ih hl h hno hr hw1;go_enter Tryz.func221,Tryz.ntmps221;go_upto_region 1 with fail
 rw[←HW1.o];go_wp2_with fail;refine(dP R HL.o w1.heap.size ⟨#[40]⟩ _ i d (H1.o.quiet (bK.alloc _)) dc (aj (aC _ _) 0 _ rfl)).mono ?_;rintro e w2 hp;have hp2:aJ R d iQ (aH R.l i [40]) _ e w2:=hp;cases hn:aH R.l i [40]with
 |out=>exact(dJ hn).elim
 |err c ln col=>rw[hn]at hp2;obtain⟨rfl,s2⟩:=hp2;refine⟨rfl,?_⟩;rw[HRR.o,hn];exact⟨rfl,(dH.o.mono fe).trans (((Step.refl (·=R.rb) _).alloc _).trans s2)⟩
 |ok u j=>
  have HN:=au hn;rw[hn]at hp2;obtain⟨⟨v,rfl,rfl⟩,hr2,s2⟩:=hp2;have H2:=au hr2;have HS2:Hid (Step (·=R.rb) w1 w2):=((Step.refl (·=R.rb) _).alloc _).trans s2;clear hn hr2 s2 p0 hp;have p0:=cZ.o w2 HS2.o;go_wp2_with fail;cases hx:bG f R.l j d 0 with
  |out=>exact absurd (by rw[HRR.o,HN.o,dV.bind_ok,hx];rfl) eX.o
  |err c ln col=>have HX:=au hx;clear hx;refine(HEX.o _ j H2.o (by rw[HX.o];intro h;cases h)).mono ?_;rintro e wq hp;rw[HX.o]at hp;obtain⟨rfl,sq⟩:=hp;refine⟨rfl,?_⟩;rw[HRR.o,HN.o,dV.bind_ok,HX.o];exact⟨rfl,((dH.o.mono fe).trans HS2.o).trans sq⟩
  |ok x jx=>
   have HX:=au hx;clear hx;refine(HEX.o _ j H2.o (by rw[HX.o];intro h;cases h)).mono ?_;rintro e wx hp;rw[HX.o]at hp;obtain⟨⟨v,rfl,cs,rfl,hy⟩,hrx,hsx⟩:=hp;have HY:=au hy;have eG:=au hy.one;obtain⟨k0,jf,v0,jg,a1,n1,c1,a2,n2,c2,a3,n3,c3,l0,c0,rfl⟩:=hy.parts;have vX:=au hrx;have rQ:=au (HS2.o.trans hsx);obtain⟨w3,hw3⟩:=aN (wx.alloc (.cells #[ak k0,a_ jf,cO v0,dW jg,.slice a1 n1 c1,.slice a2 n2 c2,.slice a3 n3 c3,ak l0,ak c0] 56));(have fK:Hid (StF wx w3):=by rw[hw3];exact bK.alloc _);(have HB3:Hid (w3.heap[wx.heap.size]?=some (.cells #[ak k0,a_ jf,cO v0,dW jg,.slice a1 n1 c1,.slice a2 n2 c2,.slice a3 n3 c3,ak l0,ak c0] 56 (0,0))):=by rw[hw3];exact aC _ _);have HW3:=au hw3;have H3:=au (vX.o.quiet fK.o);have kK:Hid (Step (·=R.rb) w1 w3):=rQ.o.trans (fK.o.mono fe);have hz2:=HS2.o.size;have hzx:=hsx.size;clear hy hrx hsx hw3 p0;have p0:=cZ.o w3 kK.o;(go_upto_region 3 with fail);rw[←HW3.o];go_wp2_with fail;refine(dP R HL.o w3.heap.size ⟨#[41]⟩ _ jx d (H3.o.quiet (bK.alloc _)) dc (aj (aC _ _) 0 _ rfl)).mono ?_;rintro e w4 hp;have hp2:aJ R d iQ (aH R.l jx [41]) _ e w4:=hp;cases hn:aH R.l jx [41]with
   |out=>exact(dJ hn).elim
   |err c ln col=>rw[hn]at hp2;obtain⟨rfl,s4⟩:=hp2;refine⟨rfl,?_⟩;rw[HRR.o,HN.o,dV.bind_ok,HX.o,dV.bind_ok,hn];exact⟨rfl,((dH.o.mono fe).trans kK.o).trans (((Step.refl (·=R.rb) _).alloc _).trans s4)⟩
   |ok u2 j4=>have OU:=au hn;rw[hn]at hp2;obtain⟨⟨v,rfl,rfl⟩,hr4,s4⟩:=hp2;have H4:=au hr4;have l_:Hid (Step (·=R.rb) w3 w4):=((Step.refl (·=R.rb) _).alloc _).trans s4;have HB4:=au (l_.o.keep HB3.o om);(have iD:Hid (∀(jj:Nat) v,[Value.int .i64 k0,a_ jf,cO v0,dW jg,.slice a1 n1 c1,.slice a2 n2 c2,.slice a3 n3 c3,ak l0,ak c0][jj]?=some v→w4.cell? ⟨wx.heap.size,0+jj,none⟩=some v):=by intro jj v hv;rw[Nat.zero_add];exact aj HB4.o jj v rF);clear hn hr4 s4 p0 hp;go_wp2_with (refine aA rfl 56 (.tmp 3) rfl wx.heap.size 0 rfl [.int .i64 k0,.string jf,.int .u64 v0,.bool jg,.slice a1 n1 c1,.slice a2 n2 c2,.slice a3 n3 c3,.int .i64 l0,.int .i64 c0] _ iD.o Tryz.underlying56 rfl Tryz.bf ?_);go_ret;rw[HRR.o,HN.o,dV.bind_ok,HX.o,dV.bind_ok,OU.o];have hz1:=dH.o.size;have hz34:=l_.o.size;have hz3:=aK HB3.o;have hal:StF w4 (w4.alloc (.cells #[ak k0,a_ jf,cO v0,dW jg,.slice a1 n1 c1,.slice a2 n2 c2,.slice a3 n3 c3,ak l0,ak c0] 56)):=bK.alloc _;have hx4:Step (·=R.rb) wx (w4.alloc (.cells #[ak k0,a_ jf,cO v0,dW jg,.slice a1 n1 c1,.slice a2 n2 c2,.slice a3 n3 c3,ak l0,ak c0] 56)):=((fK.o.mono fe).trans l_.o).trans (hal.mono fe);refine⟨⟨_,rfl,_,cu.new (aC _ _) dc om,dM.single (fA.mono oi _ _ (fA.step hx4 oi _ _ HY.o))⟩,H4.o.quiet hal,?_⟩;exact(((dH.o.mono fe).trans kK.o).trans l_.o).trans (hal.mono fe)
theorem Tryz.FD:(Tryz.prog.info? 56).map (fun i=>(i.zero,i.size,i.bytes))=some (some (.agg #[ak 0,di,cO 0,aT,ay,ay,ay,ak 0,ak 0]),9,128):=by kernel_rfl
structure O7 (R:gJ) (w1:World) (d:Nat) (X:World) (i':Nat) (acc:List Ex) (va:Value) (xs:List Value):Prop where
 rd:bI R X i' d
 ow:X.ownsRow w1.heap.size 56 9 va acc.length xs
 el:dM X (fun q=>w1.heap.size≤q∧va.ownBlock≠some q) acc xs
 few:acc.length≤8
 st:Step (·=R.rb) w1 X
theorem O7.read {R:gJ} {w1:World} {d:Nat} {X X':World} {i' i2:Nat} {acc:List Ex} {va:Value} {xs:List Value} (h:O7 R w1 d X i' acc va xs) (hw:R.rb<w1.heap.size) (hr:bI R X' i2 d) (hs:Step (·=R.rb) X X'):O7 R w1 d X' i2 acc va xs:=
 ⟨hr,hs.owns h.ow oi,dM.step hs (fun q hq e=>by have:=hq.1;omega) _ _ h.el,h.few,h.st.trans hs⟩
theorem O7.push {R:gJ} {w1:World} {d:Nat} {X X2 X3:World} {i' i2:Nat} {acc:List Ex} {va v9:Value} {xs cs:List Value} {x:Ex} (h:O7 R w1 d X i' acc va xs) (hw:R.rb<w1.heap.size) (hr:bI R X2 i2 d) (hs:Step (·=R.rb) X X2) (hx:fA X2 (fun q=>X.heap.size≤q) x cs) (hown:X3.ownsRow w1.heap.size 56 9 v9 (acc.length+1) (xs++cs)) (hgrow:X2.grownBy X3 va.ownBlock) (hat:v9.ownBlock=va.ownBlock∨v9.ownBlock=some X2.heap.size) (hlt:acc.length<8):O7 R w1 d X3 i2 (acc++[x]) v9 (xs++cs):=by
 have h2:=h.read hw hr hs;have h3:Step (fun q=>va.ownBlock=some q) X2 X3:=bQ hgrow;have ho:∀q,va.ownBlock=some q→w1.heap.size≤q∧q<X.heap.size:=fun q hq=>h.ow.lt q hq;have hlen:(acc++[x]).length=acc.length+1:=by simp
 have hnew:∀q,q<X2.heap.size→va.ownBlock≠some q→v9.ownBlock≠some q:=by
  intro q hq hn e;rcases hat with h7|h7
  ·exact hn (by rw[←h7];exact e)
  ·rw[h7]at e;have e2:X2.heap.size=q:=Option.some.inj e;omega
 refine⟨h2.rd.step h3 (fun q hq e=>by have:=(ho q e).1;omega),by rw[hlen];exact hown,dM.snoc ?_ ?_,by rw[hlen];omega,h2.st.then h3 (fun q hq e=>by have:=(ho q e).1;omega)⟩
 ·have h5:=dM.mono (P':=fun q=>(w1.heap.size≤q∧va.ownBlock≠some q)∧q<X2.heap.size) (fun q h7 h8=>⟨h8,h7⟩) _ _ h2.el;have h6:=dM.step h3 (fun q hq e=>hq.1.2 e) _ _ h5;exact dM.mono (fun q _ hq=>⟨hq.1.1,hnew q hq.2 hq.1.2⟩) _ _ h6
 ·have h5:=fA.mono (P':=fun q=>X.heap.size≤q∧q<X2.heap.size) (fun q h7 h8=>⟨h8,h7⟩) _ _ hx;have h6:=fA.step h3 (fun q hq e=>by have:=(ho q e).2;omega) _ _ h5;refine fA.mono (fun q _ hq=>⟨by have:=h.st.size;omega,hnew q hq.2 (fun e=>by have:=(ho q e).2;omega)⟩) _ _ h6
theorem SX (f:Nat) (ih:∀f',f'<f→oC f'):FC f:=by
 intro R w i d hl h hd hno;obtain⟨f,rfl⟩:∃f',f=f'+1:=by
  cases f with
  |zero=>exact absurd (by rw[lZ]) hno
  |succ f=>exact⟨f,rfl⟩
 have HL:=au hl;have HEX:Hid (∀f' X j,f'<f+1→bI R X j d→bG f' R.l j d 0≠.out→Calls Tryz.prog 77 #[.agg #[eU R.rb 0]] X (aJ R d (OZ X.heap.size) (bG f' R.l j d 0) X)):=fun f' X j hf hX hn=>nJ f' (ih f' hf) R X j d hl hX hd hn;obtain⟨r,hr⟩:=aN (lZ (f+1) R.l i d);have HRR:Hid (r=if bF R.l i [41]then .ok [] (i+1)else rJ f R.l i d []):=by show _=_;rw[hr,lZ]
 rw[←hr]at hno⊢;have eX:=au hno;obtain⟨w1,hw1⟩:=aN (w.alloc (.cells #[eU R.rb 0] 97));have dH:=nS hw1
 have kL:=nB hw1
 have HW1:=au hw1;have H1:=au (h.quiet dH.o);have hn1:=aK kL.o;have rU:=aK h.blk;have cZ:Hid (∀X:World,Step (·=R.rb) w1 X→X.cell? ⟨w.heap.size,0,none⟩=some (.pointer (some ⟨R.rb,0,none⟩))):=fun X hX=>aj (hX.keep kL.o om) 0 _ rfl
 obtain⟨i0,hi0,hz0,hz1,hz2⟩:=info_parts Tryz.FD;have HI:=au hi0;have HZ0:=au hz0;have HZ1:=au hz1;have HZ2:=au hz2;have p0:=cZ.o w1 bK;clear ih hl h hno hr hw1 hi0 hz0 hz1 hz2;go_enter Tryz.func212,Tryz.ntmps212;go_upto_region 1 with fail
 rw[←HW1.o];go_wp2_with fail;cases hb:bF R.l i [41]with
 |true=>have HB:=au hb;clear hb;refine(dA R HL.o ⟨#[41]⟩ _ i d H1.o dc HB.o).mono ?_;rintro e w2 ⟨rfl,hr2,h2⟩;have HR2:=au hr2;have HS2:=au h2;clear hr2 h2 p0;go_wp2_with fail;go_ret;rw[HRR.o,HB.o,if_pos rfl];exact⟨⟨_,rfl,[],cu.nil _ _ _,by rw[dM]⟩,HR2.o,(dH.o.mono fe).trans HS2.o⟩
 |false=>
  have HB:=au hb;have oK:Hid (r=rJ f R.l i d []):=by show _=_;rw[HRR.o,hb,if_neg dc]
  clear hb;refine(dQ R HL.o ⟨#[41]⟩ _ i d H1.o dc HB.o).mono ?_;rintro e w2 ⟨rfl,hr2,h2⟩;have HR2:=au hr2;have HS2:=au h2;clear hr2 h2 p0;go_wp2_with fail;go_loopg [3] f (fun gg s3 wr=>gg≤f∧∃(i':Nat) (acc:List Ex) (xs:List Value),r=rJ gg R.l i' d acc∧O7 R w1 d wr i' acc s3 xs);case atStart=>exact⟨Nat.le_refl _,i,[],[],oK.o,HR2.o,World.ownsRow_nil _ _ _ _,by rw[dM],by simp,HS2.o⟩
  case round=>
   obtain⟨hgf,i',acc,xs,hrq,hst⟩:=hrel;obtain⟨gn,rfl⟩:∃gn,gk=gn+1:=by
    cases gk with
    |zero=>exact absurd hrq (by rw[rJ];exact eX.o)
    |succ gn=>exact⟨gn,rfl⟩
   (have vI:Hid (r=(eY acc.length 8 R.l i').bind fun _ i=>(bG gn R.l i d 0).bind fun x j=>if bF R.l j [44]then rJ gn R.l (j+1) d (acc++[x])else(aH R.l j [41]).bind fun _ j=>.ok (acc++[x]) j):=by show _=_;rw[hrq,rJ]);obtain⟨oa,oc,rfl⟩:=aV hst.ow;have HST:=au hst;have p0:=cZ.o wr hst.st;have hfew:=hst.few;clear hrq hst;go_wp2_with fail;refine(nH R wr acc.length 8 i' d HST.o.rd).mono ?_;rintro e w3 hp;cases hn:eY acc.length 8 R.l i' with
   |out=>exact(lH hn).elim
   |err c ln col=>rw[hn]at hp;obtain⟨rfl,s3⟩:=hp;refine⟨rfl,?_⟩;rw[vI.o,hn];exact⟨rfl,((dH.o.mono fe).trans HST.o.st).trans s3⟩
   |ok u j=>
    have hji:j=i'∧acc.length<8:=by
     unfold eY at hn;split at hn
     ·cases hn
     ·cases hn;exact⟨rfl,by omega⟩
    obtain⟨rfl,JK⟩:=hji;have HN:=au hn;rw[hn]at hp;obtain⟨⟨v,rfl,rfl⟩,hr3,s3⟩:=hp;have gu:=au (HST.o.read om hr3 s3);have mY:=au (vI.o.trans (zO HN.o));clear hn hr3 s3 p0;have p0:=cZ.o w3 gu.o.st;go_wp2_with fail;cases hx:bG gn R.l j d 0 with
    |out=>exact absurd (by rw[mY.o,hx];rfl) eX.o
    |err c ln col=>have HX:=au hx;clear hx;refine(HEX.o gn _ j om gu.o.rd (by rw[HX.o];intro h;cases h)).mono ?_;rintro e wq hp;rw[HX.o]at hp;obtain⟨rfl,sq⟩:=hp;refine⟨rfl,?_⟩;rw[mY.o,HX.o];exact⟨rfl,((dH.o.mono fe).trans gu.o.st).trans sq⟩
    |ok x jx=>
     have HX:=au hx;clear hx;refine(HEX.o gn _ j om gu.o.rd (by rw[HX.o];intro h;cases h)).mono ?_;rintro e wx hp;rw[HX.o]at hp;obtain⟨⟨v,rfl,cs,rfl,hy⟩,hrx,hsx⟩:=hp;have HY:=au hy;have eG:=au hy.one;obtain⟨k0,jf,v0,jg,a1,n1,c1,a2,n2,c2,a3,n3,c3,l0,c0,rfl⟩:=hy.parts;have vX:=au hrx;have rQ:=au hsx;have FH:=au (mY.o.trans (zO HX.o));obtain⟨w4,hw4⟩:=aN (wx.alloc (.cells #[ak k0,a_ jf,cO v0,dW jg,.slice a1 n1 c1,.slice a2 n2 c2,.slice a3 n3 c3,ak l0,ak c0] 56));(have gq:Hid (StF wx w4):=by rw[hw4];exact bK.alloc _);have l_:Hid (Step (·=R.rb) w3 w4):=hsx.trans (gq.o.mono fe);(have JQ:Hid ((wx.alloc (.cells #[ak k0,a_ jf,cO v0,dW jg,.slice a1 n1 c1,.slice a2 n2 c2,.slice a3 n3 c3,ak l0,ak c0] 56)).ownsRow w1.heap.size 56 9 (.slice oa acc.length oc) acc.length xs):=by rw[←hw4];exact l_.o.owns gu.o.ow oi);have Bc:Hid (Row (wx.alloc (.cells #[ak k0,a_ jf,cO v0,dW jg,.slice a1 n1 c1,.slice a2 n2 c2,.slice a3 n3 c3,ak l0,ak c0] 56)) (wx.heap.size+1) (.slice (some ⟨wx.heap.size,0,none⟩) 1 1) 1 [.int .i64 k0,.string jf,.int .u64 v0,.bool jg,.slice a1 n1 c1,.slice a2 n2 c2,.slice a3 n3 c3,.int .i64 l0,.int .i64 c0]):=Row.new (aC _ _) dc;(have JR:Hid (w1.heap.size≤(wx.alloc (.cells #[ak k0,a_ jf,cO v0,dW jg,.slice a1 n1 c1,.slice a2 n2 c2,.slice a3 n3 c3,ak l0,ak c0] 56)).heap.size):=by rw[←hw4];exact Nat.le_trans gu.o.st.size l_.o.size);have HR4:=au (hrx.quiet gq.o);have SY:Hid (fA w4 (fun q=>w3.heap.size≤q) x [.int .i64 k0,.string jf,.int .u64 v0,.bool jg,.slice a1 n1 c1,.slice a2 n2 c2,.slice a3 n3 c3,.int .i64 l0,.int .i64 c0]):=fA.step gq.o (fun _ _ h=>h) _ _ hy;have O8:=au hw4;clear hy hrx hsx p0 hw4
     go_upto_region 6 with(refine dK _ rfl (wx.heap.size+1) (.tmp 12) (.tmp 15) 54 rfl w1.heap.size 56 i0 (.agg #[ak 0,di,cO 0,aT,ay,ay,ay,ak 0,ak 0]) 9 128 Tryz.underlying54 HI.o HZ0.o HZ1.o HZ2.o rfl dc _ _ _ (by simp[Act.eval]) JQ.o _ 1 _ (by simp[Act.eval]) Bc.o rfl eG.o (by unfold maxLen;omega) om JR.o ?_
                           intro v9 w9 gZ gU pF)
     rw[←O8.o]at gU pF;have iR:=au (gu.o.push om HR4.o l_.o SY.o gZ gU pF JK);clear gZ gU pF;have p0:=cZ.o w9 iR.o.st;go_wp2_with fail;cases hc:bF R.l jx [44]with
     |true=>
      have HC:=au hc;clear hc;refine(dA R HL.o ⟨#[44]⟩ _ jx d iR.o.rd dc HC.o).mono ?_;rintro e w6 ⟨rfl,qj,s6⟩;have fG:=au (iR.o.read om qj s6);(have xQ:Hid (r=rJ gn R.l (jx+1) d (acc++[x])):=by show _=_;rw[FH.o,HC.o,if_pos rfl]);clear qj s6 p0;go_wp2_with fail;go_roundg gn;case rel=>exact⟨by omega,jx+1,acc++[x],_,xQ.o,fG.o⟩
      case measure=>omega
     |false=>
      have HC:=au hc;clear hc;refine(dQ R HL.o ⟨#[44]⟩ _ jx d iR.o.rd dc HC.o).mono ?_;rintro e w6 ⟨rfl,qj,s6⟩;have fG:=au (iR.o.read om qj s6);(have xQ:Hid (r=(aH R.l jx [41]).bind fun _ j=>.ok (acc++[x]) j):=by show _=_;rw[FH.o,HC.o,if_neg dc]);clear qj s6 p0;have p0:=cZ.o w6 fG.o.st;go_wp2_with fail;refine(dP R HL.o w6.heap.size ⟨#[41]⟩ _ jx d (fG.o.rd.quiet (bK.alloc _)) dc (aj (aC _ _) 0 _ rfl)).mono ?_;rintro e w7 hp;have hp2:aJ R d iQ (aH R.l jx [41]) _ e w7:=hp;cases hn:aH R.l jx [41]with
      |out=>exact(dJ hn).elim
      |err c ln col=>rw[hn]at hp2;obtain⟨rfl,s7⟩:=hp2;refine⟨rfl,?_⟩;rw[xQ.o,hn];exact⟨rfl,((dH.o.mono fe).trans fG.o.st).trans (((Step.refl (·=R.rb) _).alloc _).trans s7)⟩
      |ok u j2=>have HN7:=au hn;rw[hn]at hp2;obtain⟨⟨v,rfl,rfl⟩,hr7,s7⟩:=hp2;have pU:=au (fG.o.read om hr7 (((Step.refl (·=R.rb) _).alloc _).trans s7));clear hn hr7 s7 p0 hp;go_wp2_with fail;go_ret;rw[xQ.o,HN7.o];have hz:=dH.o.size;refine⟨⟨_,rfl,_,cu.eu pU.o.ow (fun q hq=> ?_),dM.mono (fun q _ hq=>by have:=hq.1;omega) _ _ pU.o.el⟩,pU.o.rd,(dH.o.mono fe).trans pU.o.st⟩;have:=(pU.o.ow.lt q hq).1;omega
theorem Tryz.fD:(Tryz.prog.info? 111).map (·.size)=some 17:=by kernel_rfl
theorem Tryz.VB:(Tryz.prog.info? 111).map (fun i=>(i.zero,i.size,i.bytes))=some (some (.agg #[ak 0,di,ak 0,di,di,aT,ay,ay,ak 0,ak 0,ay,ay,ay,ay,aT,ak 0,ak 0]),17,256):=by kernel_rfl
theorem StEl (a:St):A7 (fun w P cs=>lW w P a cs):=⟨fun _ _ _ _ cs hs hP h=>lW.step hs hP a cs h,fun _ _ _ cs hp h=>lW.mono hp a cs h⟩
def xU (f:Nat) (l:List Tok) (i d:Nat):dV (List St):=(aH l i [123]).bind fun _ j=>pR f l j d []
theorem D5 (f:Nat) (l:List Tok) (i d:Nat):bJ (f+1) l i d=if d=40 then eP 2 l i else xU f l i (d+1):=by rw[bJ];rfl
def ED (n0 bt:Nat) (w':World) (a:List St):Prop:=∃(v:Value) (xs:List Value),w'.heap[bt]?=some (.cells #[v] 49 (0,0))∧cu w' (fun k=>n0≤k) v a.length xs∧iO w' (fun k=>n0≤k) a xs
structure VD (R:gJ) (w:World) (bt d:Nat) (X:World) (i':Nat) (acc:List St) (va:Value) (xs:List Value):Prop where
 rd:bI R X i' d
 blk:X.heap[bt]?=some (.cells #[va] 49 (0,0))
 ow:X.ownsRow w.heap.size 111 17 va acc.length xs
 el:iO X (fun q=>w.heap.size≤q∧va.ownBlock≠some q) acc xs
 st:Step (fun q=>q=R.rb∨q=bt) w X
theorem VD.read {R:gJ} {w:World} {bt d:Nat} {X X':World} {i' i2:Nat} {acc:List St} {va:Value} {xs:List Value} (h:VD R w bt d X i' acc va xs) (hw:R.rb<w.heap.size) (hb:R.rb≠bt) (hr:bI R X' i2 d) (hs:Step (·=R.rb) X X'):VD R w bt d X' i2 acc va xs:=
 ⟨hr,hs.keep h.blk (fun e=>hb e.symm),hs.owns h.ow oi,iO.step hs (fun q hq e=>by have:=hq.1;omega) _ _ h.el,h.st.trans (hs.mono il)⟩
theorem O9 (R:gJ) (f:Nat) (ih:∀f',f'<f→JO f') (hf:f≤1000000) (bp bt:Nat) (w:World) (i d:Nat) (hl:oZ R.l) (h:bI R w i d) (hd:d≤40) (hbp:w.heap[bp]?=some (.cells #[eU R.rb 0] 97 (0,0))) (hbt:w.heap[bt]?=some (.cells #[ay] 49 (0,0))) (hb1:R.rb<bp) (hb2:bp<bt) (hno:xU f R.l i d≠.out):Calls Tryz.prog 186 #[.pointer (some ⟨bp,0,none⟩),.pointer (some ⟨bt,0,none⟩)] w (bg R d bt (ED w.heap.size bt) (xU f R.l i d) w):=by
 have HL:=au hl;have H0:=au h;have IH:=au ih;obtain⟨r,hr⟩:=aN (xU f R.l i d);have HRR:Hid (r=(aH R.l i [123]).bind fun _ j=>pR f R.l j d []):=by show _=_;rw[hr];rfl
 rw[←hr]at hno⊢;have eX:=au hno;have MC:=aK hbt;have EC:=au hbt;have cZ:Hid (∀X:World,Step (fun q=>q=R.rb∨q=bt) w X→X.cell? ⟨bp,0,none⟩=some (.pointer (some ⟨R.rb,0,none⟩))):=fun X hX=>aj (hX.keep hbp om) 0 _ rfl
 obtain⟨j0,hj0,hy0,hy1,hy2⟩:=info_parts Tryz.VB;have HJ:=au hj0;have HY0:=au hy0;have HY1:=au hy1;have HY2:=au hy2;have p0:=cZ.o w bK;clear ih hl h hbp hbt hr hno hj0 hy0 hy1 hy2;go_enter Tryz.func186,Tryz.ntmps186;go_wp2_with fail;refine(dP R HL.o w.heap.size ⟨#[123]⟩ _ i d (H0.o.quiet (bK.alloc _)) dc (aj (aC _ _) 0 _ rfl)).mono ?_;rintro e w2 hp;have hp2:aJ R d iQ (aH R.l i [123]) _ e w2:=hp;cases hn:aH R.l i [123]with
 |out=>exact(dJ hn).elim
 |err c ln col=>rw[hn]at hp2;obtain⟨rfl,s2⟩:=hp2;refine⟨rfl,bg.aZ (c:=c) (ln:=ln) (col:=col) (by rw[HRR.o,hn];rfl) rfl ?_⟩;exact(((Step.refl (·=R.rb) _).alloc _).trans s2).mono il
 |ok u j=>
  have HN:=au hn;rw[hn]at hp2;obtain⟨⟨v,rfl,rfl⟩,hr2,s2⟩:=hp2;have HS2:Hid (Step (·=R.rb) w w2):=((Step.refl (·=R.rb) _).alloc _).trans s2;have HR2:=au hr2;have oK:Hid (r=pR f R.l j d []):=by show _=_;rw[HRR.o,HN.o];rfl
  have rM:=au (HS2.o.keep EC.o om);clear hn hr2 s2 p0 hp;go_wp2_with fail;go_loopg [] f (fun gg wr=>gg≤f∧∃(i':Nat) (acc:List St) (va:Value) (xs:List Value),r=pR gg R.l i' d acc∧acc.length+gg≤f∧VD R w bt d wr i' acc va xs);case atStart=>exact⟨Nat.le_refl _,j,[],.slice none 0 0,[],oK.o,by simp,HR2.o,rM.o,World.ownsRow_nil _ _ _ _,by rw[iO],HS2.o.mono il⟩
  case round=>
   obtain⟨hgf,i',acc,va,xs,hrq,hal,hst⟩:=hrel;obtain⟨gn,rfl⟩:∃gn,gk=gn+1:=by
    cases gk with
    |zero=>exact absurd hrq (by rw[pR];exact eX.o)
    |succ gn=>exact⟨gn,rfl⟩
   (have vI:Hid (r=if bF R.l i' [125]then .ok acc (i'+1)else(xK gn R.l i' d).bind fun s j=>pR gn R.l j d (acc++[s])):=by show _=_;rw[hrq,pR]);obtain⟨oa,oc,rfl⟩:=aV hst.ow;have HST:=au hst;have p0:=cZ.o wr hst.st;clear hrq hst;go_wp2_with fail;cases hb:bF R.l i' [125]with
   |true=>have HB:=au hb;clear hb;refine(dA R HL.o ⟨#[125]⟩ _ i' d HST.o.rd dc HB.o).mono ?_;rintro e w3 ⟨rfl,hr3,h3⟩;have gu:=au (HST.o.read om om hr3 h3);clear hr3 h3 p0;go_wp2_with fail;refine bodyPost_end (results_none rfl _ _ _) rfl ?_;refine bg.dU (a:=acc) (j:=i'+1) (by rw[vI.o,HB.o,if_pos rfl]) rfl ⟨_,xs,gu.o.blk,cu.eu gu.o.ow (fun q hq=>(gu.o.ow.lt q hq).1),iO.mono (fun q _ hq=>hq.1) _ _ gu.o.el⟩ gu.o.rd gu.o.st
   |false=>
    have HB:=au hb;clear hb;refine(dQ R HL.o ⟨#[125]⟩ _ i' d HST.o.rd dc HB.o).mono ?_;rintro e w3 ⟨rfl,hr3,h3⟩;obtain⟨w4,rfl⟩:=aN w3;have fC:=au (HST.o.read om om hr3 h3);have IW:=au (vI.o.trans (LD HB.o));clear hr3 h3 p0;have Ef:Hid (∀X:World,Step (fun q=>q=R.rb∨q=bt∨(Value.slice oa acc.length oc).ownBlock=some q) w4 X→X.cell? ⟨bp,0,none⟩=some (.pointer (some ⟨R.rb,0,none⟩))):=by
     show∀X,_;intro X hX;refine hX.cell (cZ.o w4 fC.o.st) (fun e=> ?_);have e2:bp=R.rb∨bp=bt∨(Value.slice oa acc.length oc).ownBlock=some bp:=e;rcases e2 with e2|e2|e2
     ·omega
     ·omega
     ·have:=(fC.o.ow.lt _ e2).1;omega
    have HO:Hid (zA R w4 2 4 5 6 7 8 bt w.heap.size 17 acc.length (.slice oa acc.length oc) xs [Value.int .i64 0,di,ak 0,di,di,aT,ay,ay,ak 0,ak 0,ay,ay,ay,ay,aT,ak 0,ak 0]):=
     ⟨by decide,by decide,by decide,by decide,by decide,by decide,by decide,by decide,by decide,by omega,MC,fC.o.st.size,fun q hq=>fC.o.ow.lt q hq,fC.o.el.len,rfl⟩
    (have Vu:Hid (∀u∈[Value.int .i64 0,di,ak 0,di,di,aT,ay,ay,ak 0,ak 0,ay,ay,ay,ay,aT,ak 0,ak 0],u.oneCell'=true):=by intro u hu;simp at hu;rcases hu with rfl|rfl|rfl|rfl|rfl|rfl|rfl|rfl|rfl|rfl|rfl|rfl|rfl|rfl|rfl|rfl|rfl<;>rfl);(have hacl:acc.length≤1000000:=by omega);(go_upto_region 2 with fail);cases hx:xK gn R.l i' d with
    |out=>exact absurd (by rw[IW.o,hx];rfl) eX.o
    |err c ln col=>
     have HX:=au hx;clear hx;obtain⟨sx,-⟩:∃sx:St,sx=jF 0 bZ dR [] [] [] [] false QC:=⟨_,rfl⟩;obtain⟨j2,-⟩:∃j2:Nat,j2=0:=⟨_,rfl⟩;have HE:Hid (A7 (fun w P cs=>lW w P sx cs)):=StEl sx;have xO:Hid (∀V,jR R i' j2 d w4 2 4 5 6 7 8 bt (fun v=>.cells #[v] 49 (0,0)) w.heap.size 111 17 acc.length (.slice oa acc.length oc) xs [Value.int .i64 0,di,ak 0,di,di,aT,ay,ay,ak 0,ak 0,ay,ay,ay,ay,aT,ak 0,ak 0] (fun w P cs=>lW w P sx cs) [some (.slice oa acc.length oc),some (.agg #[eU R.rb 0]),none,some (.int .i64 (acc.length:Int)),none,none,none,none,none] (fun _=>false) V w4.drew):=fun V=>jR.zero (bK.drew) fC.o.rd fC.o.ow fC.o.blk;(have xP:Hid (∀X,bI R X i' d→Calls Tryz.prog 187 #[.agg #[eU R.rb 0]] X fun e wq=>e=.panicked [{v:=.iface 251 (.agg #[ak c,ak ln,ak col]),recovered:=false}]∧Step (·=R.rb) X wq):=by intro X hX;have h9:=IH.o gn om R X i' d HL.o hX hd (by rw[HX.o];intro h;cases h);rw[HX.o]at h9;exact h9);have FB:Hid (∀X wq:World,Step (fun q=>q=R.rb∨q=bt∨(Value.slice oa acc.length oc).ownBlock=some q) w4 X→Step (·=R.rb) X wq→bg R d bt (ED w.heap.size bt) r w (.panicked [{v:=.iface 251 (.agg #[ak c,ak ln,ak col]),recovered:=false}]) wq):=by
      show∀X wq,_;intro X wq h1 h2;refine bg.aZ (c:=c) (ln:=ln) (col:=col) (by rw[IW.o,HX.o];rfl) rfl (fC.o.st.then (h1.trans (h2.mono il)) (fun q hq e=> ?_));rcases e with e|e|e
      ·exact .inl e
      ·exact .inr e
      ·have:=(fC.o.ow.lt _ e).1;omega
     refine bP kr (fun L V X=>jR R i' j2 d w4 2 4 5 6 7 8 bt (fun v=>.cells #[v] 49 (0,0)) w.heap.size 111 17 acc.length (.slice oa acc.length oc) xs [Value.int .i64 0,di,ak 0,di,di,aT,ay,ay,ak 0,ak 0,ay,ay,ay,ay,aT,ak 0,ak 0] (fun w P cs=>lW w P sx cs) [some (.slice oa acc.length oc),some (.agg #[eU R.rb 0]),none,some (.int .i64 (acc.length:Int)),none,none,none,none,none] L V X∧L 2=false) 9 rfl kr kr kr kr ?h0 ?hs ?hdone;case h0=>exact⟨xO.o _,rfl⟩
     case hs=>
      refine⟨?_,?_,?_,?_,?_,?_,?_,?_,?_,trivial⟩
      all_goals intro L V X a ev dG hdf hL ax hJ
      ·have o1:=dG 1 rfl;change a.tmps[1]?.getD undef=.pointer (some ⟨bt,0,none⟩)at o1;have hZ:=(hJ.1.JJ (hJ.1.Vo dc hL)).1;have hb:=hJ.1.blk;rw[hZ,if_neg dc]at hb;have q0:X.cell? ⟨bt,0,none⟩=some (.slice oa acc.length oc):=aj hb 0 _ rfl;go_simp;exact⟨_,rfl,⟨hJ.1.up 0 dc dc dc dc dc dc rfl,by rw[aF _ dc];exact hJ.2⟩⟩
      ·have o0:=dG 0 rfl;change a.tmps[0]?.getD undef=.pointer (some ⟨bp,0,none⟩)at o0;have p0:=Ef.o X hJ.1.st;go_simp;exact⟨_,rfl,⟨hJ.1.up 1 dc dc dc dc dc dc rfl,by rw[aF _ dc];exact hJ.2⟩⟩
      ·have e11:=(ev 1 11 rfl (ax 1 rfl)).trans (hJ.1.iK 1 _ rfl (ax 1 rfl));have hrd:=hJ.1.rd;rw[hL,if_neg dc]at hrd;go_simp;refine(xP.o X hrd).mono ?_;rintro e wq ⟨rfl,hs⟩;exact⟨hdf,FB.o X wq hJ.1.st hs⟩
      ·have e10:=(ev 0 10 rfl (ax 0 rfl)).trans (hJ.1.iK 0 _ rfl (ax 0 rfl));go_simp;exact⟨_,rfl,⟨hJ.1.up 3 dc dc dc dc dc dc rfl,by rw[aF _ dc];exact hJ.2⟩⟩
      ·have hu:=hJ.1.build HE.o HO.o hL rfl;go_simp;exact⟨_,rfl,⟨hu,by rw[aF _ dc];exact hJ.2⟩⟩
      ·have e10:=(ev 0 10 rfl (ax 0 rfl)).trans (hJ.1.iK 0 _ rfl (ax 0 rfl));exact absurd hJ.2 (by rw[ax 2 rfl];decide)
      ·have e13:=(ev 3 13 rfl (ax 3 rfl)).trans (hJ.1.iK 3 _ rfl (ax 3 rfl));exact absurd hJ.2 (by rw[ax 2 rfl];decide)
      ·exact absurd hJ.2 (by rw[ax 2 rfl];decide)
      ·have o1:=dG 1 rfl;change a.tmps[1]?.getD undef=.pointer (some ⟨bt,0,none⟩)at o1;exact absurd hJ.2 (by rw[ax 2 rfl];decide)
     case hdone=>intro L V X hall hJ;exact absurd hJ.2 (by rw[hall 2 dc];decide)
    |ok sx j2=>
     have HX:=au hx;clear hx;have HE:Hid (A7 (fun w P cs=>lW w P sx cs)):=StEl sx;have xO:Hid (∀V,jR R i' j2 d w4 2 4 5 6 7 8 bt (fun v=>.cells #[v] 49 (0,0)) w.heap.size 111 17 acc.length (.slice oa acc.length oc) xs [Value.int .i64 0,di,ak 0,di,di,aT,ay,ay,ak 0,ak 0,ay,ay,ay,ay,aT,ak 0,ak 0] (fun w P cs=>lW w P sx cs) [some (.slice oa acc.length oc),some (.agg #[eU R.rb 0]),none,some (.int .i64 (acc.length:Int)),none,none,none,none,none] (fun _=>false) V w4.drew):=fun V=>jR.zero (bK.drew) fC.o.rd fC.o.ow fC.o.blk;(have xP:Hid (∀X,bI R X i' d→Calls Tryz.prog 187 #[.agg #[eU R.rb 0]] X fun e wq=>(∃v,e=.returned v∧∃cs:List Value,v=.agg cs.toArray∧lW wq (fun q=>X.heap.size≤q) sx cs)∧bI R wq j2 d∧Step (·=R.rb) X wq):=by intro X hX;have h9:=IH.o gn om R X i' d HL.o hX hd (by rw[HX.o];intro h;cases h);rw[HX.o]at h9;exact h9);have VE:Hid (r=pR gn R.l j2 d (acc++[sx])):=by show _=_;rw[IW.o,HX.o];rfl
     have lI:Hid (∀(g9 c9:Nat) (A8:List Value) (X:World),bI R X j2 d→X.heap[bt]?=some (.cells #[.slice (some ⟨g9,0,none⟩) (acc.length+1) c9] 49 (0,0))→X.ownsRow w.heap.size 111 17 (.slice (some ⟨g9,0,none⟩) (acc.length+1) c9) (acc.length+1) (xs++A8)→lW X (fun q=>w4.heap.size≤q∧q≠g9) sx A8→((Value.slice oa acc.length oc).ownBlock=some g9∨w4.heap.size≤g9)→Step (fun q=>q=R.rb∨q=bt∨(Value.slice oa acc.length oc).ownBlock=some q) w4 X→
       ∃(OY:Value) (Oy:List Value),VD R w bt d X j2 (acc++[sx]) OY Oy):=by
      show∀g9 c9 A8 X,_
      intro g9 c9 A8 X h1 h2 h3 h4 h5 h6
      have hlen:(acc++[sx]).length=acc.length+1:=by simp
      refine⟨.slice (some ⟨g9,0,none⟩) (acc.length+1) c9,xs++A8,h1,h2,by rw[hlen];exact h3,iO.snoc ?_ ?_,fC.o.st.then h6 (fun q hq e=> ?_)⟩
      ·
       refine iO.mono ?_ _ _ (iO.step h6 ?_ _ _ (iO.mono (P':=fun q=>(w.heap.size≤q∧(Value.slice oa acc.length oc).ownBlock≠some q)∧q<w4.heap.size) (fun q h7 h8=>⟨h8,h7⟩) _ _ fC.o.el))
       ·
        intro q _ hq
        refine⟨hq.1.1,fun e=> ?_⟩
        have e2:g9=q:=Option.some.inj e
        rcases h5 with h5|h5
        ·
         exact hq.1.2 (by rw[←e2];exact h5)
        ·
         have:=hq.2;omega
       ·
        intro q hq e
        rcases e with e|e|e
        ·
         have:=hq.1.1;omega
        ·
         have:=hq.1.1;omega
        ·
         exact hq.1.2 e
      ·
       exact lW.mono (fun q _ hq=>⟨Nat.le_trans fC.o.st.size hq.1,fun e=>hq.2 (Option.some.inj e).symm⟩) _ _ h4
      ·
       rcases e with e|e|e
       ·
        exact .inl e
       ·
        exact .inr e
       ·
        have:=(fC.o.ow.lt _ e).1;omega
     refine bP kr (jR R i' j2 d w4 2 4 5 6 7 8 bt (fun v=>.cells #[v] 49 (0,0)) w.heap.size 111 17 acc.length (.slice oa acc.length oc) xs [Value.int .i64 0,di,ak 0,di,di,aT,ay,ay,ak 0,ak 0,ay,ay,ay,ay,aT,ak 0,ak 0] (fun w P cs=>lW w P sx cs) [some (.slice oa acc.length oc),some (.agg #[eU R.rb 0]),none,some (.int .i64 (acc.length:Int)),none,none,none,none,none]) 9 rfl kr kr kr kr ?h0 ?hs ?hdone;case h0=>exact xO.o _
     case hs=>
      refine⟨?_,?_,?_,?_,?_,?_,?_,?_,?_,trivial⟩
      all_goals intro L V X a ev dG hdf hL ax hJ
      ·have o1:=dG 1 rfl;change a.tmps[1]?.getD undef=.pointer (some ⟨bt,0,none⟩)at o1;have hZ:=(hJ.JJ (hJ.Vo dc hL)).1;have hb:=hJ.blk;rw[hZ,if_neg dc]at hb;have q0:X.cell? ⟨bt,0,none⟩=some (.slice oa acc.length oc):=aj hb 0 _ rfl;go_simp;exact⟨_,rfl,hJ.up 0 dc dc dc dc dc dc rfl⟩
      ·have o0:=dG 0 rfl;change a.tmps[0]?.getD undef=.pointer (some ⟨bp,0,none⟩)at o0;have p0:=Ef.o X hJ.st;go_simp;exact⟨_,rfl,hJ.up 1 dc dc dc dc dc dc rfl⟩
      ·have e11:=(ev 1 11 rfl (ax 1 rfl)).trans (hJ.iK 1 _ rfl (ax 1 rfl));have hrd:=hJ.rd;rw[hL,if_neg dc]at hrd;go_simp;refine(xP.o X hrd).mono ?_;rintro e wq ⟨⟨v,rfl,cs,rfl,hty⟩,hr,hs⟩;exact⟨_,rfl,hJ.call HE.o HO.o hL rfl hs hr hty⟩
      ·have e10:=(ev 0 10 rfl (ax 0 rfl)).trans (hJ.iK 0 _ rfl (ax 0 rfl));go_simp;exact⟨_,rfl,hJ.up 3 dc dc dc dc dc dc rfl⟩
      ·have hu:=hJ.build HE.o HO.o hL rfl;go_simp;exact⟨_,rfl,hu⟩
      ·have e10:=(ev 0 10 rfl (ax 0 rfl)).trans (hJ.iK 0 _ rfl (ax 0 rfl));have e14:=ev 4 14 rfl (ax 4 rfl);obtain⟨zb,z1,z2,z3⟩:=hJ.bl (ax 4 rfl) hL;have hall:∀i,i<5→L i=true:=by
        intro i hi;rcases(show i=0∨i=1∨i=2∨i=3∨i=4 by omega)with rfl|rfl|rfl|rfl|rfl
        ·exact ax 0 rfl
        ·exact ax 1 rfl
        ·exact ax 2 rfl
        ·exact ax 3 rfl
        ·exact ax 4 rfl
       refine f_ _ X.heap.size (.tmp 10) (.tmp 14) 49 rfl w.heap.size 111 j0 (.agg #[ak 0,di,ak 0,di,di,aT,ay,ay,ak 0,ak 0,ay,ay,ay,ay,aT,ak 0,ak 0]) 17 256 Tryz.underlying49 HJ.o HY0.o HY1.o HY2.o rfl dc _ _ _ (by rw[bM];exact e10) (hJ.old hL) (V 4) 1 _ (by rw[bM];exact e14) (by rw[z1];exact(Row.new z3 dc).mono (aK z3)) rfl Vu.o (by unfold maxLen;omega) om (Nat.le_trans HO.o.bw hJ.st.size) ?_;intro v8 w8 qU ni C9;exact⟨v8,rfl,hJ.app HE.o HO.o hL hall rfl qU ni C9⟩
      ·have e13:=(ev 3 13 rfl (ax 3 rfl)).trans (hJ.iK 3 _ rfl (ax 3 rfl));have e15:=ev 5 15 rfl (ax 5 rfl);obtain⟨g,c,hV,-⟩:=hJ.new (ax 5 rfl);rw[hV]at e15;(have hi0:(0:Int)≤(acc.length:Int):=by omega);(have hi1:(acc.length:Int)<((acc.length+1:Nat):Int):=by omega);(have hi2:(acc.length:Int)<(acc.length:Int)+1:=by omega);have hu:=hJ.index HO.o (ax 5 rfl) rfl hV;go_simp;exact⟨_,rfl,hu⟩
      ·have h8:=ax 5 rfl;have h9:=ax 6 rfl;have h5:=ax 2 rfl;obtain⟨g,c,hV,-,ys,hown,-⟩:=hJ.new h8;have ep:=(ev 6 16 rfl h9).trans ((hJ.ix h9).2 g c hV);obtain⟨cs,c1,c2⟩:=hJ.el h5;have ec:=(ev 2 12 rfl h5).trans c1;rw[hV]at hown;obtain⟨g',c',cur,hg',-,hcur,hsz⟩:=vY hown om;cases hg';have hcl:cs.length=17:=lW.len c2;refine eH 111 (.tmp 16) (.tmp 12) rfl g (acc.length*17) 111 cur cs (by rw[bM];exact ep) (by rw[bM];exact ec) hcur (by rw[hcl];exact Tryz.fD) om (lW.one c2) ?_;intro w6 hb6 hs6;exact⟨undef,rfl,hJ.put HE.o HO.o h8 (fun u hu=>by cases hu) hV c1 hcl hcur hb6 hs6⟩
      ·have o1:=dG 1 rfl;change a.tmps[1]?.getD undef=.pointer (some ⟨bt,0,none⟩)at o1;have h8:=ax 5 rfl;have ev8:=ev 5 15 rfl h8;obtain⟨g,c,hV,-⟩:=hJ.new h8;rw[hV]at ev8;have hb:=hJ.blk;rw[hL,if_neg dc]at hb;have q5:=aj hb 0 _ rfl;have z5:=aI hb 0;have hu:=hJ.last (X':=X.setCell ⟨bt,0,none⟩ (.slice (some ⟨g,0,none⟩) (acc.length+1) c)) HE.o HO.o h8 (fun u hu=>by cases hu) (by rw[hV];exact aW hb 0 _) (bK.setCell _ _ iW);go_simp;exact⟨undef,hu⟩
     case hdone=>
      intro L V X hall hJ;obtain⟨g9,c9,A8,SE,SG,gZ,SH,SI,yZ,hgb9⟩:=hJ.done ⟨hall 2 dc,hall 5 dc,hall 7 dc,hall 8 dc⟩;rw[rgQ9];simp only[kJ,fO,gsQ,o9];clear hJ hall;obtain⟨OY,Oy,hls⟩:=lI.o g9 c9 A8 X SE SG gZ SH SI yZ;have jO:=au hls;clear hls SE SG gZ SH SI yZ;(have hlen:(acc++[sx]).length=acc.length+1:=by simp);(have hal2:(acc++[sx]).length+gn≤f:=by omega);go_wp2_with fail;go_roundg gn;case rel=>exact⟨by omega,j2,acc++[sx],OY,Oy,VE.o,hal2,jO.o⟩
      case measure=>omega
theorem zC:Enters 186:=fun xs w=>by go_simp
theorem O_ (f:Nat) (ih:∀f',f'<f→JO f') (hf:f≤1000000):mZ (f+1):=by
 intro R w i d hl h hd hno;have hmf:∀(fn:Fn) (first cap:Array Value) (w:World),(Instr.makeFunc fn first cap).run Tryz.prog w=.ok (.func fn first cap) w:=fun _ _ _ _=>rfl;have HL:=au hl;have H0:=au h;have eX:=au hno;obtain⟨r,hr⟩:=aN (bJ (f+1) R.l i d);have HRR:=au hr;rw[←hr];have rU:=aK h.blk;obtain⟨w3,hw3⟩:=aN ((w.alloc (.cells #[eU R.rb 0] 97)).alloc (.cells #[ay] 49));have fK:=nT hw3
 have yY:=nC hw3
 have HB3:=nD hw3
 have HW3:=au hw3;have H3:=au (h.quiet fK.o);have hlt3:=aK HB3.o;have p0:w3.cell? ⟨w.heap.size,0,none⟩=some (.pointer (some ⟨R.rb,0,none⟩)):=aj yY.o 0 _ rfl;obtain⟨t,ht⟩:=aN (tokA R.l i);have HT:=au ht;obtain⟨bt,hbt⟩:=aN (w.heap.size+1);have HBTE:=au hbt;have hbt0:w.heap.size<bt:=by omega
 have hbt1:bt<w3.heap.size:=by omega
 rw[←hbt]at HB3;have HIH:=au ih;clear ih hl h hno hr hw3 ht hbt;go_enter Tryz.func146,Tryz.ntmps146;go_upto_region 2 with fail
 rw[←HW3.o,←HBTE.o];go_wp2_with fail;by_cases Vl:d=40
 ·refine(zN R _ [.pointer (some ⟨w.heap.size,0,none⟩),.pointer (some ⟨bt,0,none⟩)] w3 i d t H3.o (by rw[HT.o];exact H3.o.tok) Vl).mono ?_;rintro e w4 ⟨rfl,h4⟩;refine⟨rfl,?_⟩;rw[HRR.o,D5,if_pos Vl,eP,←HT.o];exact⟨rfl,(fK.o.trans h4).mono fe⟩
 ·have o_:Hid (r=xU f R.l i (d+1)):=by show _=_;rw[HRR.o,D5,if_neg Vl]
  have hnb:xU f R.l i (d+1)≠.out:=fun e=>eX.o (by rw[←HRR.o,o_.o,e]);have MH:Hid (∀X,bI R X i (d+1)→Step (·=R.rb) w3 X→Calls Tryz.prog 186 #[.pointer (some ⟨w.heap.size,0,none⟩),.pointer (some ⟨bt,0,none⟩)] X (bg R (d+1) bt (ED X.heap.size bt) (xU f R.l i (d+1)) X)):=fun X hX hs=>O9 R f HIH.o hf w.heap.size bt X i (d+1) HL.o hX om (hs.keep yY.o om) (hs.keep HB3.o om) om om hnb
  have MI:d<40:=by omega
  cases hb:xU f R.l i (d+1)with
  |out=>exact absurd hb hnb
  |err c ln col=>
   have HB:=au hb;clear hb;refine(Fj R _ [.pointer (some ⟨w.heap.size,0,none⟩),.pointer (some ⟨bt,0,none⟩)] w3 i d (Q:=fun X=>Step (fun k=>k=R.rb∨k=bt) w3 X) (hk:=zC) (h:=H3.o) (hd:=MI) (hby:=fun X hX hs=> ?_) (es:=[{v:=.iface 251 (.agg #[ak c,ak ln,ak col]),recovered:=false}])).mono ?_
   ·refine(MH.o X hX hs).mono ?_;intro e X2 hp;rw[HB.o]at hp;exact⟨hp.1,(hs.mono il).trans hp.2⟩
   ·rintro e w4 ⟨rfl,h4⟩;refine⟨rfl,?_⟩;rw[o_.o,HB.o];exact⟨rfl,(fK.o.mono fe).then h4 oi⟩
  |ok a j=>
   have HB:=au hb;clear hb;refine(JE R _ [.pointer (some ⟨w.heap.size,0,none⟩),.pointer (some ⟨bt,0,none⟩)] w3 i d (fun i' X=>i'=j∧ED w3.heap.size bt X a∧Step (fun k=>k=R.rb∨k=bt) w3 X) zC H3.o MI (fun X hX hs=> ?_)).mono ?_
   ·refine(MH.o X hX hs).mono ?_;intro e X2 hp;rw[HB.o]at hp;obtain⟨he,⟨v,xs,hc,hrw,hts⟩,hr,hs2⟩:=hp;have hz:=hs.size;exact⟨he,j,hr,rfl,⟨v,xs,hc,hrw.mono oi,iO.mono oi _ _ hts⟩,(hs.mono il).trans hs2⟩
   ·rintro e w4 ⟨rfl,i',X,⟨rfl,⟨v,xs,hc,hrw,hts⟩,hsx⟩,hr4,hs4⟩;have hb4:=hs4.keep hc om;have hrw4:=hrw.step hs4 oi;have hts4:=iO.step hs4 oi _ _ hts;obtain⟨av,cv,rfl,-⟩:=id hrw4;have HR4:=au hr4;have HRW:=au hrw4;have HTS:=au hts4;have l_:Hid (Step (fun k=>k=R.rb∨k=bt) w3 w4):=hsx.trans (hs4.mono il);have q0:=aj hb4 0 _ rfl;clear hc hrw hts hsx hr4 hs4 hb4 hrw4 hts4 p0;go_wp2_with fail;go_ret;rw[o_.o,HB.o];have hz3:=fK.o.size;refine⟨⟨_,rfl,xs,HRW.o.mono oi,iO.mono oi _ _ HTS.o⟩,HR4.o,?_⟩;exact(fK.o.mono fe).then l_.o oi
def QH (n0 bt:Nat) (t:Tok) (w':World) (a:ByteArray×Ty×List Ex):Prop:=∃(ct xe:List Value) (ve:Value),w'.heap[bt]?=some (.cells ([Value.int .i64 1,a_ a.1]++ct++[Value.slice none 0 0,ve,.slice none 0 0,.slice none 0 0,.bool false,.int .i64 t.line,.int .i64 t.col]).toArray 111 (0,0))∧
 a.1.size≤9223372036854775807∧iC w' (fun k=>n0≤k) a.2.1 ct∧dM w' (fun k=>n0≤k) a.2.2 xe∧cu w' (fun k=>n0≤k) ve a.2.2.length xe
def QI (f:Nat):Prop:=∀(R:gJ) (w:World) (i d bt:Nat) (t:Tok),oZ R.l→bI R w i d→d≤40→R.rb<bt→w.heap[bt]?=some (.cells #[ak 0,aO,ak 0,aO,aO,aT,ay,ay,ak 0,ak 0,ay,ay,ay,ay,aT,ak t.line,ak t.col] 111 (0,0))→CV f R.l i d≠.out→
 Calls Tryz.prog 206 #[.agg #[eU R.rb 0],.pointer (some ⟨bt,0,none⟩)] w (bg R d bt (QH w.heap.size bt t) (CV f R.l i d) w)
theorem rY (w:World) (P:Nat→Prop):iC w P dR [.int .i64 0,.string bZ,.string bZ,.bool false,.slice none 0 0,.slice none 0 0,.int .i64 0,.int .i64 0]:=by rw[dR,iC];exact⟨_,_,[],rfl,by decide,by decide,lu,cu.nil _ _ _,by rw[gy],cu.nil _ _ _⟩
theorem VF (f:Nat) (ih:oC f):QI (f+1):=by
 intro R w i d bt t hl h hd hrb hbt hno;have HL:=au hl;have HEX:Hid (∀X j,bI R X j d→bG f R.l j d 0≠.out→Calls Tryz.prog 77 #[.agg #[eU R.rb 0]] X (aJ R d (OZ X.heap.size) (bG f R.l j d 0) X)):=fun X j hX hn=>nJ f ih R X j d hl hX hd hn;obtain⟨r,hr⟩:=aN (CV (f+1) R.l i d)
 have HRR:Hid (r=(aS R.l i).bind fun n j=>(if bF R.l j [58]then jY f R.l (j+1) d else .ok dR j).bind fun ty j=>
  (if bF R.l j [61]then(bG f R.l (j+1) d 0).bind fun x j=>.ok [x] j else .ok [] j).bind fun e j=>(aH R.l j [59]).bind fun _ j=>.ok (n,ty,e) j):=by show _=_;rw[hr,CV]
 rw[←hr]at hno⊢;have eX:=au hno;have MC:=aK hbt;obtain⟨w1,hw1⟩:=aN (w.alloc (.cells #[eU R.rb 0] 97));have dH:=nS hw1
 have kL:=nB hw1
 have H7:=au (dH.o.keep hbt (fun h=>h));have HW1:=au hw1;have H1:=au (h.quiet dH.o);have hn1:=aK kL.o;have cZ:Hid (∀X:World,Step (fun q=>q=R.rb∨q=bt) w1 X→X.cell? ⟨w.heap.size,0,none⟩=some (.pointer (some ⟨R.rb,0,none⟩))):=fun X hX=>aj (hX.keep kL.o om) 0 _ rfl
 have p0:=cZ.o w1 bK;clear ih hl h hno hr hw1 hbt;go_enter Tryz.func206,Tryz.ntmps206;go_upto_region 1 with fail
 rw[←HW1.o];go_wp2_with fail;cases hn:aS R.l i with
 |out=>exact(iV hn).elim
 |err c ln col=>have HN:=au hn;clear hn;refine(name_any R HL.o _ i d H1.o).mono ?_;rintro e wq hp;rw[HN.o]at hp;obtain⟨rfl,sq⟩:=hp;refine⟨rfl,bg.aZ (c:=c) (ln:=ln) (col:=col) (by rw[HRR.o,HN.o];rfl) rfl ?_⟩;exact((dH.o.mono fe).trans sq).mono il
 |ok nm j=>
  have HN:=au hn;have S9:=au (fV HL.o H1.o.lt hn);clear hn;refine(name_any R HL.o _ i d H1.o).mono ?_;rintro e w2 hp;rw[HN.o]at hp;obtain⟨⟨v,rfl,rfl⟩,hr2,s2⟩:=hp;have HR2:=au hr2;have HS2:=au s2;have rM:=au (s2.keep H7.o om)
  have oK:Hid (r=(if bF R.l j [58]then jY f R.l (j+1) d else .ok dR j).bind fun ty j=>
   (if bF R.l j [61]then(bG f R.l (j+1) d 0).bind fun x j=>.ok [x] j else .ok [] j).bind fun e j=>(aH R.l j [59]).bind fun _ j=>.ok (nm,ty,e) j):=by show _=_;rw[HRR.o,HN.o];rfl
  have ou:=aj rM.o 0 _ rfl;have oz:=aI rM.o 0;have Hz:=aj rM.o 1 _ rfl;have H6:=aI rM.o 1;obtain⟨w3,hw3⟩:=aN ((w2.setCell ⟨bt,0,none⟩ (.int .i64 1)).setCell ⟨bt,1,none⟩ (.string nm));have fK:Hid (Step (·=bt) w2 w3):=by rw[hw3];exact((Step.refl (·=bt) _).setCell _ _ iW).setCell _ _ iW
  have MG:Hid (w3.heap[bt]?=some (.cells #[ak 1,a_ nm,ak 0,aO,aO,aT,ay,ay,ak 0,ak 0,ay,ay,ay,ay,aT,ak t.line,ak t.col] 111 (0,0))):=by rw[hw3];exact aW (aW rM.o 0 (.int .i64 1)) 1 (.string nm)
  have kK:Hid (Step (fun q=>q=R.rb∨q=bt) w1 w3):=(HS2.o.mono il).trans (fK.o.mono ir);have HR3:=au (HR2.o.step fK.o oi);clear hr2 s2 p0;go_upto_region 2 with fail
  rw[←hw3];clear hw3 ou oz Hz H6;have p0:=cZ.o w3 kK.o;obtain⟨b1,hb1⟩:=aN (bF R.l j [58]);obtain⟨j1,hj1⟩:=aN (jb R.l j [58]);have HI1:Hid (Calls Tryz.prog 110 #[.pointer (some ⟨R.rb,0,none⟩),.string ⟨#[58]⟩] w3 fun e w'=>e=.returned (.bool b1)∧bI R w' j1 d∧Step (·=R.rb) w3 w'):=by rw[hb1,hj1];exact um R HL.o ⟨#[58]⟩ w3 j d HR3.o dc
  have HB1:=au hb1;have HJ1:=au hj1;clear hb1 hj1;go_wp2_with fail;refine HI1.o.mono ?_;rintro e w4 ⟨rfl,hr4,h4⟩;have HR4:=au hr4;have xW:Hid (Step (fun q=>q=R.rb∨q=bt) w1 w4):=kK.o.trans (h4.mono il);have rO:Hid (w4.heap[bt]?=some (.cells #[ak 1,a_ nm,ak 0,aO,aO,aT,ay,ay,ak 0,ak 0,ay,ay,ay,ay,aT,ak t.line,ak t.col] 111 (0,0))):=h4.keep MG.o om;clear hr4 h4 p0;have p0:=cZ.o w4 xW.o;have hz1:=dH.o.size;go_upto_if 15 with fail
  go_cut [] (fun wx=>∃(ty:Ty) (jt:Nat) (ct:List Value),r=((if bF R.l jt [61]then(bG f R.l (jt+1) d 0).bind fun x j=>.ok [x] j else .ok [] jt).bind fun e j=>(aH R.l j [59]).bind fun _ j=>.ok (nm,ty,e) j)∧iC wx (fun q=>w.heap.size≤q) ty ct∧
   wx.heap[bt]?=some (.cells ([Value.int .i64 1,a_ nm]++ct++[Value.slice none 0 0,.slice none 0 0,.slice none 0 0,.slice none 0 0,.bool false,.int .i64 t.line,.int .i64 t.col]).toArray 111 (0,0))∧bI R wx jt d∧Step (fun q=>q=R.rb∨q=bt) w1 wx)
  case first=>
   cases b1 with
   |false=>(have hj:j1=j:=by rw[HJ1.o,jb,←HB1.o,if_neg dc]);(have o_:Hid (r=((if bF R.l j1 [61]then(bG f R.l (j1+1) d 0).bind fun x j=>.ok [x] j else .ok [] j1).bind fun e j=>(aH R.l j [59]).bind fun _ j=>.ok (nm,dR,e) j)):=by show _=_;rw[oK.o,←HB1.o,if_neg dc,hj];rfl);clear hj;go_wp2_with fail;go_meet;case rel=>exact⟨dR,j1,_,o_.o,rY _ _,rO.o,HR4.o,xW.o⟩
   |true=>
    (have hj:j1=j+1:=by rw[HJ1.o,jb,←HB1.o,if_pos rfl]);(have o_:Hid (r=(jY f R.l j1 d).bind fun ty j=>(if bF R.l j [61]then(bG f R.l (j+1) d 0).bind fun x j=>.ok [x] j else .ok [] j).bind fun e j=>(aH R.l j [59]).bind fun _ j=>.ok (nm,ty,e) j):=by show _=_;rw[oK.o,←HB1.o,if_pos rfl,hj]);clear hj;go_wp2_with fail;cases hx:jY f R.l j1 d with
    |out=>exact absurd (by rw[o_.o,hx];rfl) eX.o
    |err c ln col=>have HX:=au hx;clear hx;refine((JL f).1 R _ j1 d HL.o HR4.o hd (by rw[HX.o];intro h;cases h)).mono ?_;rintro e wq hp;rw[HX.o]at hp;obtain⟨rfl,sq⟩:=hp;refine⟨rfl,bg.aZ (c:=c) (ln:=ln) (col:=col) (by rw[o_.o,HX.o];rfl) rfl ?_⟩;exact((dH.o.mono fe).trans xW.o).trans (sq.mono il)
    |ok ty jt=>
     have HX:=au hx;clear hx;refine((JL f).1 R _ j1 d HL.o HR4.o hd (by rw[HX.o];intro h;cases h)).mono ?_;rintro e wx hp;rw[HX.o]at hp;obtain⟨⟨v,rfl,ct,rfl,hty⟩,hrx,hsx⟩:=hp;have OW:=au hty;have eG:=au hty.one;obtain⟨k0,jf,lf0,jg,a1,n1,c1,a2,n2,c2,l0,c0,rfl⟩:=hty.parts;have vX:=au hrx;have rQ:=au hsx;have nI:=au (hsx.keep rO.o om);(have y8:Hid (r=((if bF R.l jt [61]then(bG f R.l (jt+1) d 0).bind fun x j=>.ok [x] j else .ok [] jt).bind fun e j=>(aH R.l j [59]).bind fun _ j=>.ok (nm,ty,e) j)):=by show _=_;rw[o_.o,HX.o];rfl);have hz4:=xW.o.size;clear hty hrx hsx p0
     go_wp2_with (refine aG (w:=wx) rfl 46 (.tmp 20) (.tmp 18) rfl bt 2 111 _ [.int .i64 k0,.string jf,.string lf0,.bool jg,.slice a1 n1 c1,.slice a2 n2 c2,.int .i64 l0,.int .i64 c0] rfl rfl nI.o Tryz.eF (show 2+8≤17 by decide) eG.o ?_
                  intro w6 hb6 xR)
     have DW:=au hb6;have rP:=au xR;clear hb6 xR;go_meet;case rel=>exact⟨ty,jt,[.int .i64 k0,.string jf,.string lf0,.bool jg,.slice a1 n1 c1,.slice a2 n2 c2,.int .i64 l0,.int .i64 c0],y8.o,iC.mono oi _ _ (iC.step rP.o oi _ _ OW.o),DW.o,vX.o.step rP.o oi,(xW.o.trans (rQ.o.mono il)).trans (rP.o.mono ir)⟩
  case rest=>
   obtain⟨ty,jt,ct,MN,hty5,hb5,hrd5,hs5⟩:=hcut;obtain⟨w5,rfl⟩:=aN wc;obtain⟨k0,jf,lf0,jg,a1,n1,c1,a2,n2,c2,l0,c0,rfl⟩:=hty5.parts;have DY:=au MN;have HTY5:=au hty5;have Sz:Hid (w5.heap[bt]?=some (.cells #[ak 1,a_ nm,ak k0,a_ jf,a_ lf0,dW jg,.slice a1 n1 c1,.slice a2 n2 c2,ak l0,ak c0,ay,ay,ay,ay,aT,ak t.line,ak t.col] 111 (0,0))):=hb5;have HRD5:=au hrd5;have S_:=au hs5;clear MN hty5 hb5 hrd5 hs5 p0;have p0:=cZ.o w5 S_.o;obtain⟨b2,hb2⟩:=aN (bF R.l jt [61]);obtain⟨j2,hj2⟩:=aN (jb R.l jt [61]);(have HI2:Hid (Calls Tryz.prog 110 #[.pointer (some ⟨R.rb,0,none⟩),.string ⟨#[61]⟩] w5 fun e w'=>e=.returned (.bool b2)∧bI R w' j2 d∧Step (·=R.rb) w5 w'):=by rw[hb2,hj2];exact um R HL.o ⟨#[61]⟩ w5 jt d HRD5.o dc);have HB2:=au hb2;have HJ2:=au hj2;clear hb2 hj2;go_wp2_with fail;refine HI2.o.mono ?_;rintro e w6 ⟨rfl,qj,h6⟩;have xQ:=au qj;have C_:Hid (Step (fun q=>q=R.rb∨q=bt) w1 w6):=S_.o.trans (h6.mono il);have yX:Hid (w6.heap[bt]?=some (.cells #[ak 1,a_ nm,ak k0,a_ jf,a_ lf0,dW jg,.slice a1 n1 c1,.slice a2 n2 c2,ak l0,ak c0,ay,ay,ay,ay,aT,ak t.line,ak t.col] 111 (0,0))):=h6.keep Sz.o om;have HTY6:Hid (iC w6 (fun q=>w.heap.size≤q) ty [.int .i64 k0,.string jf,.string lf0,.bool jg,.slice a1 n1 c1,.slice a2 n2 c2,.int .i64 l0,.int .i64 c0]):=iC.step h6 oi _ _ HTY5.o;clear qj h6 p0;have p0:=cZ.o w6 C_.o;go_upto_if 23 with fail
   go_cut [] (fun wx=>∃(el:List Ex) (je:Nat) (ae:Option Addr) (ce:Nat) (xe:List Value),r=((aH R.l je [59]).bind fun _ j=>.ok (nm,ty,el) j)∧iC wx (fun q=>w.heap.size≤q) ty [.int .i64 k0,.string jf,.string lf0,.bool jg,.slice a1 n1 c1,.slice a2 n2 c2,.int .i64 l0,.int .i64 c0]∧dM wx (fun q=>w.heap.size≤q) el xe∧cu wx (fun q=>w.heap.size≤q) (.slice ae el.length ce) el.length xe∧
    wx.heap[bt]?=some (.cells #[ak 1,a_ nm,ak k0,a_ jf,a_ lf0,dW jg,.slice a1 n1 c1,.slice a2 n2 c2,ak l0,ak c0,ay,.slice ae el.length ce,ay,ay,aT,ak t.line,ak t.col] 111 (0,0))∧bI R wx je d∧Step (fun q=>q=R.rb∨q=bt) w1 wx)
   case first=>
    cases b2 with
    |false=>(have hj:j2=jt:=by rw[HJ2.o,jb,←HB2.o,if_neg dc]);(have o_:Hid (r=((aH R.l j2 [59]).bind fun _ j=>.ok (nm,ty,[]) j)):=by show _=_;rw[DY.o,←HB2.o,if_neg dc,hj];rfl);clear hj;go_wp2_with fail;go_meet;case rel=>exact⟨[],j2,none,0,[],o_.o,HTY6.o,by rw[dM],cu.nil _ _ _,yX.o,xQ.o,C_.o⟩
    |true=>
     (have hj:j2=jt+1:=by rw[HJ2.o,jb,←HB2.o,if_pos rfl]);(have o_:Hid (r=(bG f R.l j2 d 0).bind fun x j=>(aH R.l j [59]).bind fun _ j=>.ok (nm,ty,[x]) j):=by show _=_;rw[DY.o,←HB2.o,if_pos rfl,hj];cases bG f R.l (jt+1) d 0<;>rfl);clear hj;go_wp2_with fail;cases hx:bG f R.l j2 d 0 with
     |out=>exact absurd (by rw[o_.o,hx];rfl) eX.o
     |err c ln col=>have HX:=au hx;clear hx;refine(HEX.o _ j2 xQ.o (by rw[HX.o];intro h;cases h)).mono ?_;rintro e wq hp;rw[HX.o]at hp;obtain⟨rfl,sq⟩:=hp;refine⟨rfl,bg.aZ (c:=c) (ln:=ln) (col:=col) (by rw[o_.o,HX.o];rfl) rfl ?_⟩;exact((dH.o.mono fe).trans C_.o).trans (sq.mono il)
     |ok x jx=>have HX:=au hx;clear hx;refine(HEX.o _ j2 xQ.o (by rw[HX.o];intro h;cases h)).mono ?_;rintro e wx hp;rw[HX.o]at hp;obtain⟨⟨v,rfl,cs,rfl,hy⟩,hrx,hsx⟩:=hp;have HY:=au hy;obtain⟨k5,nm5,v5,MO,b1,m1,d1,b2,m2,d2,b3,m3,d3,l5,c5,rfl⟩:=hy.parts;have vX:=au hrx;have rQ:=au hsx;(have y8:Hid (r=((aH R.l jx [59]).bind fun _ j=>.ok (nm,ty,[x]) j)):=by show _=_;rw[o_.o,HX.o];rfl);obtain⟨w7,hw7⟩:=aN (wx.alloc (.cells #[ak k5,a_ nm5,cO v5,dW MO,.slice b1 m1 d1,.slice b2 m2 d2,.slice b3 m3 d3,ak l5,ak c5] 56));(have CO:Hid (StF wx w7):=by rw[hw7];exact bK.alloc _);(have HK7:Hid (w7.heap[wx.heap.size]?=some (.cells #[ak k5,a_ nm5,cO v5,dW MO,.slice b1 m1 d1,.slice b2 m2 d2,.slice b3 m3 d3,ak l5,ak c5] 56 (0,0))):=by rw[hw7];exact aC _ _);have Y_:=CO.o.keep (rQ.o.keep yX.o om) (fun h=>h);have Pg:=aj Y_ 11 _ rfl;have Ph:=aI Y_ 11;have hz6:=C_.o.size;have hzx:=rQ.o.size;obtain⟨w8,hw8⟩:=aN (w7.setCell ⟨bt,11,none⟩ (.slice (some ⟨wx.heap.size,0,none⟩) 1 1));(have Aj:Hid (Step (·=bt) w7 w8):=by rw[hw8];exact bK.setCell _ _ iW);(have HBT8:Hid (w8.heap[bt]?=some (.cells #[ak 1,a_ nm,ak k0,a_ jf,a_ lf0,dW jg,.slice a1 n1 c1,.slice a2 n2 c2,ak l0,ak c0,ay,.slice (some ⟨wx.heap.size,0,none⟩) 1 1,ay,ay,aT,ak t.line,ak t.col] 111 (0,0))):=by rw[hw8];exact aW Y_ 11 _);have HK8:=au (Aj.o.keep HK7.o om);rw[hw7]at Pg Ph;clear Y_ hy hrx hsx p0;go_wp2_with fail;rw[←hw7,←hw8];clear Pg Ph hw7 hw8;have hs68:Step (fun q=>q=R.rb∨q=bt) wx w8:=(CO.o.mono fe).trans (Aj.o.mono ir);have hs66:Step (fun q=>q=R.rb∨q=bt) w6 w8:=(rQ.o.mono il).trans hs68;go_meet;case rel=>exact⟨[x],jx,_,1,[.int .i64 k5,.string nm5,.int .u64 v5,.bool MO,.slice b1 m1 d1,.slice b2 m2 d2,.slice b3 m3 d3,.int .i64 l5,.int .i64 c5],y8.o,iC.step hs66 oi _ _ HTY6.o,dM.single (fA.mono oi _ _ (fA.step hs68 oi _ _ HY.o)),cu.new HK8.o (by simp) om,HBT8.o,(vX.o.quiet CO.o).step Aj.o oi,C_.o.trans hs66⟩
   case rest=>
    obtain⟨el,je,ae,ce,xe,hr7,hty7,hex7,hrw7,hb7,hrd7,hs7⟩:=hcut;obtain⟨w7,rfl⟩:=aN wc;have Oz:=au hr7;have HTY7:=au hty7;have HEX7:=au hex7;have HRW7:=au hrw7;have HBT7:=au hb7;have HRD7:=au hrd7;have Pj:=au hs7;clear hr7 hty7 hex7 hrw7 hb7 hrd7 hs7 p0;have p0:=cZ.o w7 Pj.o;go_wp2_with fail;refine(dP R HL.o w7.heap.size ⟨#[59]⟩ _ je d (HRD7.o.quiet (bK.alloc _)) dc (aj (aC _ _) 0 _ rfl)).mono ?_;rintro e w8 hp;have hp2:aJ R d iQ (aH R.l je [59]) _ e w8:=hp;cases hn:aH R.l je [59]with
    |out=>exact(dJ hn).elim
    |err c ln col=>rw[hn]at hp2;obtain⟨rfl,s8⟩:=hp2;refine⟨rfl,bg.aZ (c:=c) (ln:=ln) (col:=col) (by rw[Oz.o,hn];rfl) rfl ?_⟩;exact((dH.o.mono fe).trans Pj.o).trans ((((Step.refl (·=R.rb) _).alloc _).trans s8).mono il)
    |ok u j8=>have HN8:=au hn;rw[hn]at hp2;obtain⟨⟨v,rfl,rfl⟩,vW,s8⟩:=hp2;have VE:=au vW;have MP:Hid (Step (·=R.rb) w7 w8):=((Step.refl (·=R.rb) _).alloc _).trans s8;clear hn vW s8 p0 hp;go_wp2_with fail;refine bodyPost_end (results_none rfl _ _ _) rfl ?_;refine bg.dU (a:=(nm,ty,el)) (j:=j8) (by rw[Oz.o,HN8.o];rfl) rfl ⟨[.int .i64 k0,.string jf,.string lf0,.bool jg,.slice a1 n1 c1,.slice a2 n2 c2,.int .i64 l0,.int .i64 c0],xe,_,MP.o.keep HBT7.o om,S9.o,iC.step MP.o oi _ _ HTY7.o,dM.step MP.o oi _ _ HEX7.o,HRW7.o.step MP.o oi⟩ VE.o (((dH.o.mono fe).trans Pj.o).trans (MP.o.mono il))
end Go.Proofs.YtppekkbaoimpgaaGreat
