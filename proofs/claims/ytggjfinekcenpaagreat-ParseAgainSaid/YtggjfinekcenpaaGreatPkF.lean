import Derived.Test.YtggjfinekcenpaaGreatPkE
set_option maxRecDepth 100000
set_option maxHeartbeats 80000000
namespace Go.Proofs.YtggjfinekcenpaaGreat
open Go.RowKit
open Vt
structure LvJ8 (R:h_) (j1 j2 d bx bp bq:Nat) (w4:World) (s:ByteArray) (n:Nat) (tl tc:Int) (xc:List Value) (y:Ex) (L:Nat→Bool) (V:Nat→Value) (X:World):Prop where
 p0:L 0=true→V 0=.string s
 p1:L 1=true→V 1=.agg xc.toArray
 p2:L 2=true→V 2=.agg #[fM R.rb 0]
 p3:L 3=true→V 3=.int .i64 n
 p4:L 4=true→V 4=.int .i64 ((n:Int)+1)
 p5:L 5=true→∃cs:List Value,V 5=.agg cs.toArray∧cZ X (fun q=>w4.heap.size≤q) y cs
 p6:L 6=true→∃(g:Nat) (cs:List Value),V 6=.slice (some ⟨g,0,none⟩) 2 2∧w4.heap.size≤g∧cZ X (fun q=>w4.heap.size≤q) y cs∧X.heap[g]?=some (.cells (xc++cs).toArray 56 (0,0))
 p7:L 7=true→V 7=.agg #[af tl,af tc]
 p8:L 8=true→∃g:Nat,V 6=.slice (some ⟨g,0,none⟩) 2 2∧V 8=.agg #[af 14,aG s,bf 0,aT,.slice (some ⟨g,0,none⟩) 2 2,aj,aj,af tl,af tc]
 st:Step (fun q=>q=R.rb∨q=bx) w4 X
 rd:bD R X (if L 5 then j2 else j1) d
 x0:L 9=false→X.heap[bx]?=some (.cells xc.toArray 56 (0,0))
 x1:L 9=true→∃g:Nat,V 6=.slice (some ⟨g,0,none⟩) 2 2∧X.heap[bx]?=some (.cells #[af 14,aG s,bf 0,aT,.slice (some ⟨g,0,none⟩) 2 2,aj,aj,af tl,af tc] 56 (0,0))
 KE:X.cell? ⟨bp,0,none⟩=some (.pointer (some ⟨R.rb,0,none⟩))
 GI:X.heap[bq]?=some (.cells #[af tl,af tc] 25 (0,0))
 q6:L 6=true→L 1=true∧L 5=true
 q8:L 8=true→L 6=true
 q9:L 9=true→L 1=true∧L 5=true∧L 6=true∧L 7=true∧L 8=true
structure Aj (R:h_) (w1 w3:World) (bx d:Nat) (X:World) (i':Nat) (x:Ex) (cs:List Value):Prop where
 rd:bD R X i' d
 blk:X.heap[bx]?=some (.cells cs.toArray 56 (0,0))
 ex:cZ X (fun q=>w1.heap.size≤q∧q≠bx) x cs
 st:Step (fun q=>q=R.rb∨q=bx) w3 X
theorem Aj.quiet {R:h_} {w1 w3:World} {bx d:Nat} {X X':World} {i':Nat} {x:Ex} {cs:List Value} (h:Aj R w1 w3 bx d X i' x cs) (hs:jP X X'):Aj R w1 w3 bx d X' i' x cs:=
 ⟨h.rd.quiet hs,hs.keep h.blk (fun h=>h),cZ.step hs (fun _ _ h=>h) _ _ h.ex,h.st.trans (hs.mono fe)⟩
theorem Aj.read {R:h_} {w1 w3:World} {bx d:Nat} {X X':World} {i' i2:Nat} {x:Ex} {cs:List Value} (h:Aj R w1 w3 bx d X i' x cs) (hb:R.rb≠bx) (hw:R.rb<w1.heap.size) (hr:bD R X' i2 d) (hs:Step (·=R.rb) X X'):Aj R w1 w3 bx d X' i2 x cs:=
 ⟨hr,hs.keep h.blk (fun e=>hb e.symm),cZ.step hs (fun q hq e=>by have:=hq.1;omega) _ _ h.ex,h.st.trans (hs.mono il)⟩
theorem XNONE (s:ByteArray) (tl tc:Int) (g:Nat):∀u∈[Value.int .i64 14,aG s,bf 0,aT,.slice (some ⟨g,0,none⟩) 2 2,aj,aj,af tl,af tc],u.oneCell'=true:=by intro u hu;simp at hu;rcases hu with rfl|rfl|rfl|rfl|rfl|rfl|rfl|rfl|rfl<;>rfl
theorem Oi (f:Nat) (ih:∀f',f'<f→oz f'∧Ai f'):oz f:=by
 intro R w i d n hl h hd hn hno;obtain⟨f,rfl⟩:∃f',f=f'+1:=by
  cases f with
  |zero=>exact absurd (by rw[a_]) hno
  |succ f=>exact⟨f,rfl⟩
 have HL:=ai hl;have H0:=ai h;have IH:=ai ih;obtain⟨r,hr⟩:=bn (a_ (f+1) R.l i d n);have HRR:=ai hr;rw[←hr]at hno⊢;have f_:=ai hno;have vK:=aC h.blk;obtain⟨w1,hw1⟩:=bn ((w.alloc (.cells #[fM R.rb 0] 75)).alloc (.cells #[af 0,bW,bf 0,aT,aj,aj,aj,af 0,af 0] 56));have dF:=nT hw1
 have kG:=nC hw1
 have lm:=nD hw1
 have HW1:=ai hw1;have H1:=ai (h.quiet dF.o);have hn1:=aC lm.o;have dh:Hid (∀X:World,Step (·=R.rb) w1 X→X.cell? ⟨w.heap.size,0,none⟩=some (.pointer (some ⟨R.rb,0,none⟩))):=fun X hX=>ah (hX.keep kG.o om) 0 _ rfl
 clear ih hl h hno hr hw1;go_enter Tryz.func68,Tryz.ntmps68;go_upto_region 1 with fail
 rw[←HW1.o];obtain⟨b5,hb5⟩:∃b5,((n:Int)==5)=b5:=⟨_,rfl⟩;have CJ:Hid ((n==5)=b5):=(kX n 5 5 rfl).symm.trans hb5;go_wp2_with fail;refine(qy w1).mono ?_;rintro e w2 ⟨⟨g0,g1,g2,g3,g4,rfl,-⟩,h2⟩;have H2:=ai (H1.o.quiet h2);have HS2:Hid (Step (·=R.rb) w1 w2):=h2.mono fe;have oO:=ai (h2.keep lm.o (fun h=>h));have p0:=dh.o w2 HS2.o;have hz2:=h2.size;clear h2;cases b5 with
 |true=>
  have UA:n=5:=by simpa using CJ.o
  have HR2:Hid (r=gm f R.l i d):=by show _=_;rw[HRR.o,a_,if_pos UA]
  clear UA;go_wp2_with fail;cases hx:gm f R.l i d with
  |out=>exact absurd (by rw[HR2.o,hx]) f_.o
  |err c ln col=>have HX:=ai hx;clear hx;refine((IH.o f (Nat.lt_succ_self f)).2 R _ i d HL.o H2.o hd (by rw[HX.o];intro h;cases h)).mono ?_;rintro e wq hp;rw[HX.o]at hp;obtain⟨rfl,sq⟩:=hp;refine⟨rfl,?_⟩;rw[HR2.o,HX.o];exact⟨rfl,((dF.o.mono fe).trans HS2.o).trans sq⟩
  |ok y jx=>
   have HX:=ai hx;clear hx;refine((IH.o f (Nat.lt_succ_self f)).2 R _ i d HL.o H2.o hd (by rw[HX.o];intro h;cases h)).mono ?_;rintro e wx hp;rw[HX.o]at hp;obtain⟨⟨v,rfl,cs,rfl,hy⟩,hrx,hsx⟩:=hp;have HY:=ai hy;have dL:=ai hy.one;obtain⟨k0,gZ,v0,g_,a1,n1,c1,a2,n2,c2,a3,n3,c3,l0,c0,rfl⟩:=hy.parts;have wP:=ai hrx;have qW:=ai hsx;have lN:=ai (hsx.keep oO.o om);clear hy hrx hsx p0
   go_wp2_with (refine au (w:=wx) rfl 56 (.tmp 4) (.tmp 13) rfl (w.heap.size+1) 0 56 _ [.int .i64 k0,.string gZ,.int .u64 v0,.bool g_,.slice a1 n1 c1,.slice a2 n2 c2,.slice a3 n3 c3,.int .i64 l0,.int .i64 c0] rfl rfl lN.o Tryz.aK (Nat.le_of_eq rfl) dL.o ?_
                intro w6 hb6 uw)
   have GH:w6.heap[w.heap.size+1]?=some (.cells [Value.int .i64 k0,aG gZ,bf v0,bC g_,.slice a1 n1 c1,.slice a2 n2 c2,.slice a3 n3 c3,af l0,af c0].toArray 56 (0,0)):=hb6;refine bodyPost_ret (aV rfl _ (w.heap.size+1) 56 _ _ rfl GH Tryz.underlying56 rfl Tryz.aK) rfl ?_;rw[HR2.o,HX.o];have hz1:=dF.o.size;refine⟨⟨_,rfl,_,rfl,cZ.mono oi _ _ (cZ.step uw oi _ _ HY.o)⟩,wP.o.step uw oi,?_⟩;exact(((dF.o.mono fe).trans HS2.o).trans qW.o).then uw oi
 |false=>
  have UA:n≠5:=by intro e;have h3:=CJ.o;rw[e]at h3;cases h3
  have hn4:n<5:=by omega
  have HR2:Hid (r=(a_ f R.l i d (n+1)).bind fun x j=>qN f R.l j d n x):=by show _=_;rw[HRR.o,a_,if_neg UA]
  have R1:IntKind.i64.wrap ((n:Int)+1)=(n:Int)+1:=IntWalk.i64_in _ om;clear UA;go_wp2_with fail;have HLV:Hid (∀X i' f',f'<f+1→bD R X i' d→a_ f' R.l i' d (n+1)≠.out→Calls Tryz.prog 68 #[.agg #[fM R.rb 0],.int .i64 ((n:Int)+1)] X (aJ R d (NE X.heap.size) (a_ f' R.l i' d (n+1)) X)):=fun X i' f' hf hX hno=>(IH.o f' hf).1 R X i' d (n+1) HL.o hX hd om hno
  cases hx:a_ f R.l i d (n+1)with
  |out=>exact absurd (by rw[HR2.o,hx];rfl) f_.o
  |err c ln col=>have HX:=ai hx;clear hx;refine(HLV.o _ i f (Nat.lt_succ_self f) H2.o (by rw[HX.o];intro h;cases h)).mono ?_;rintro e wq hp;rw[HX.o]at hp;obtain⟨rfl,sq⟩:=hp;refine⟨rfl,?_⟩;rw[HR2.o,HX.o];exact⟨rfl,((dF.o.mono fe).trans HS2.o).trans sq⟩
  |ok x jx=>
   have HX:=ai hx;clear hx;refine(HLV.o _ i f (Nat.lt_succ_self f) H2.o (by rw[HX.o];intro h;cases h)).mono ?_;rintro e wx hp;rw[HX.o]at hp;obtain⟨⟨v,rfl,cs,rfl,hy⟩,hrx,hsx⟩:=hp;have HY:=ai hy;obtain⟨k0,gZ,v0,g_,a1,n1,c1,a2,n2,c2,a3,n3,c3,l0,c0,rfl⟩:=hy.parts;have wP:=ai hrx;have qW:Hid (Step (·=R.rb) w1 wx):=HS2.o.trans hsx;(have HR3:Hid (r=qN f R.l jx d n x):=by show _=_;rw[HR2.o,HX.o];rfl);have hzx:=hsx.size;obtain⟨w3,hw3⟩:=bn (wx.alloc (.cells #[af k0,aG gZ,bf v0,bC g_,.slice a1 n1 c1,.slice a2 n2 c2,.slice a3 n3 c3,af l0,af c0] 56));(have jA:Hid (jP wx w3):=by rw[hw3];exact bV.alloc _);(have HB3:Hid (w3.heap[wx.heap.size]?=some (.cells #[af k0,aG gZ,bf v0,bC g_,.slice a1 n1 c1,.slice a2 n2 c2,.slice a3 n3 c3,af l0,af c0] 56 (0,0))):=by rw[hw3];exact aB _ _);have qf:Hid (Step (·=R.rb) w1 w3):=qW.o.trans (jA.o.mono fe);have HW3:=ai hw3;clear hy hrx hsx p0 hw3;have hxb:=aC HB3.o;have hz3:=jA.o.size;have HEX3:Hid (cZ w3 (fun q=>w1.heap.size≤q∧q≠wx.heap.size) x [.int .i64 k0,.string gZ,.int .u64 v0,.bool g_,.slice a1 n1 c1,.slice a2 n2 c2,.slice a3 n3 c3,.int .i64 l0,.int .i64 c0]):=cZ.step jA.o (fun _ _ h=>h) _ _ (cZ.mono (fun q hq hh=>⟨by omega,by omega⟩) _ _ HY.o);have Vp:Hid (Aj R w1 w3 wx.heap.size d w3 jx x [.int .i64 k0,.string gZ,.int .u64 v0,.bool g_,.slice a1 n1 c1,.slice a2 n2 c2,.slice a3 n3 c3,.int .i64 l0,.int .i64 c0]):=⟨wP.o.quiet jA.o,HB3.o,HEX3.o,Step.refl _ _⟩;(go_upto_block 0 with fail);rw[←HW3.o];obtain⟨bx,hbx⟩:=bn wx.heap.size;rw[←hbx]at Vp hxb⊢;(have hbx1:w1.heap.size≤bx:=by omega);have yJ:=ai (qf.o.keep kG.o om);have wW:=ai (qf.o.keep lm.o om);(have SB:Hid (∀X:World,Step (fun q=>q=R.rb∨q=bx) w3 X→X.cell? ⟨w.heap.size,0,none⟩=some (.pointer (some ⟨R.rb,0,none⟩))∧X.heap[w.heap.size+1]?=some (.cells #[af 0,bW,bf 0,aT,aj,aj,aj,af 0,af 0] 56 (0,0))):=by intro X hX;exact⟨ah (hX.keep yJ.o om) 0 _ rfl,hX.keep wW.o om⟩);have xI:Hid (Step (·=R.rb) w w3):=(dF.o.mono fe).trans qf.o;clear hbx;go_wp2_with fail;go_loopg [6,7] f (fun gg s6 s7 wr=>gg≤f∧∃(i':Nat) (x:Ex) (cs:List Value),r=qN gg R.l i' d n x∧Aj R w1 w3 bx d wr i' x cs);case atStart=>exact⟨Nat.le_refl _,jx,x,_,HR3.o,Vp.o⟩
   case round=>
    obtain⟨hgf,i',x,cs,hrq,hst⟩:=hrel;have HRQ:=ai hrq;obtain⟨gn,rfl⟩:∃gn,gk=gn+1:=by
     cases gk with
     |zero=>exact absurd hrq (by rw[qN];exact f_.o)
     |succ gn=>exact⟨gn,rfl⟩
    obtain⟨k0,gZ,v0,g_,a1,n1,c1,a2,n2,c2,a3,n3,c3,l0,c0,rfl⟩:=hst.ex.parts;have HST:=ai hst;obtain⟨p0,-⟩:=SB.o wr hst.st;obtain⟨tk,htk⟩:=bn (tokA R.l i');have YX:=ai htk;have HAT:=ai (at_at R wr i' d tk hst.rd (by rw[htk];exact hst.rd.tok));clear hrq hst htk;(go_upto_region 4 with fail);go_wp2_with fail;refine HAT.o.mono ?_;rintro e w4 ⟨rfl,h4⟩;have fP:=ai (HST.o.quiet h4);obtain⟨w5,hw5⟩:=bn (w4.alloc (.cells #[af tk.line,af tk.col] 25));(have um:Hid (jP w4 w5):=by rw[hw5];exact bV.alloc _);(have HQ5:Hid (w5.heap[w4.heap.size]?=some (.cells #[af tk.line,af tk.col] 25 (0,0))):=by rw[hw5];exact aB _ _);have nJ:=ai (fP.o.quiet um.o);have hz4:=fP.o.st.size;have Y0:=ai hw5;clear h4 hw5 p0;obtain⟨p0,-⟩:=SB.o w5 nJ.o.st;(go_upto_region 5 with fail);rw[←Y0.o];go_wp2_with fail;refine(op_any R HL.o w5 i' d n nJ.o.rd hn4).mono ?_;rintro e w6 ⟨rfl,qH,h6⟩;cases ho:wO R.l i' n with
    |none=>
     rw[ho]at qH;have Ah:Hid (bD R w6 i' d):=qH;have fH:=ai (nJ.o.read om om Ah.o h6);(have lJ:Hid (r=.ok x i'):=by show _=_;rw[HRQ.o,qN,ho]);have dL:=ai fH.o.ex.one;(have bY:Hid (∀(jj:Nat) v,[Value.int .i64 k0,aG gZ,bf v0,bC g_,.slice a1 n1 c1,.slice a2 n2 c2,.slice a3 n3 c3,af l0,af c0][jj]?=some v→w6.cell? ⟨bx,0+jj,none⟩=some v):=by intro jj v hv;rw[Nat.zero_add];exact ah fH.o.blk jj v qE);have qA:=ai (SB.o w6 fH.o.st).2;clear qH h6 ho p0;rw[show opS none=(⟨#[]⟩:ByteArray) from rfl];go_wp2_with (first
      |(refine ay rfl 56 (.tmp 5) rfl bx 0 rfl [.int .i64 k0,.string gZ,.int .u64 v0,.bool g_,.slice a1 n1 c1,.slice a2 n2 c2,.slice a3 n3 c3,.int .i64 l0,.int .i64 c0] _ bY.o Tryz.underlying56 rfl Tryz.aK ?_)
      |(refine au (w:=w6) rfl 56 (.tmp 4) (.tmp 26) rfl (w.heap.size+1) 0 56 _ [.int .i64 k0,.string gZ,.int .u64 v0,.bool g_,.slice a1 n1 c1,.slice a2 n2 c2,.slice a3 n3 c3,.int .i64 l0,.int .i64 c0] rfl rfl qA.o Tryz.aK (Nat.le_of_eq rfl) dL.o ?_;intro w7 hb7 y8))
     have hb7':w7.heap[w.heap.size+1]?=some (.cells [Value.int .i64 k0,aG gZ,bf v0,bC g_,.slice a1 n1 c1,.slice a2 n2 c2,.slice a3 n3 c3,af l0,af c0].toArray 56 (0,0)):=hb7;refine bodyPost_ret (aV rfl _ (w.heap.size+1) 56 _ _ rfl hb7' Tryz.underlying56 rfl Tryz.aK) rfl ?_;rw[lJ.o];have hz1:=dF.o.size;refine⟨⟨_,rfl,_,rfl,cZ.mono (fun q _ hq=>by have:=hq.1;omega) _ _ (cZ.step y8 (fun q hq e=>by have:=hq.1;omega) _ _ fH.o.ex)⟩,fH.o.rd.step y8 oi,?_⟩;exact(xI.o.then fH.o.st oi).then y8 oi
    |some s=>
     rw[ho]at qH;have Ah:Hid (bD R w6 (i'+1) d):=qH;have fH:=ai (nJ.o.read om om Ah.o h6);have HQ6:=ai (h6.keep HQ5.o om);(have lJ:Hid (r=(a_ gn R.l (i'+1) d (n+1)).bind fun y j=>if n=2 then .ok (aZ 14 (mG s) 0 false [x,y] [] [] tk) j else qN gn R.l j d n (aZ 14 (mG s) 0 false [x,y] [] [] tk)):=by show _=_;rw[HRQ.o,qN,ho,YX.o]);obtain⟨sB,hsB⟩:=bn (mG s);(have hpos:0<sB.size∧sB.size≤9223372036854775807:=by have hm:=List.mem_of_find?_eq_some ho;rw[hsB];show 0<s.toArray.size∧s.toArray.size≤_;rcases(show n=0∨n=1∨n=2∨n=3∨n=4 by omega)with e|e|e|e|e<;>subst e<;>simp[opsL]at hm<;>(rcases hm with rfl|rfl)<;>decide);have HPOS:=ai hpos.2;have he:=mZ sB hpos.1;have he':=mF sB hpos.1;have BA:=ai hsB;have hx6:opS (some s)=sB:=hsB.symm;rw[hx6];rw[←hsB]at lJ;obtain⟨p0,-⟩:=SB.o w6 fH.o.st;clear qH h6 ho hsB hx6 hpos;have hz5:=um.o.size;have hz46:=fH.o.st.size;have hq6:=aC HQ6.o;have hxs:=aC fH.o.blk;(go_upto_region 8 with fail);(have HZ8:Hid (∀(j2:Nat) (y:Ex) V,LvJ8 R (i'+1) j2 d bx w.heap.size w4.heap.size w6 sB n tk.line tk.col [.int .i64 k0,.string gZ,.int .u64 v0,.bool g_,.slice a1 n1 c1,.slice a2 n2 c2,.slice a3 n3 c3,.int .i64 l0,.int .i64 c0] y (fun _=>false) V w6.drew):=by intro j2 y V;have hs:jP w6 w6.drew:=bV.drew;exact⟨lW,lW,lW,lW,lW,lW,lW,lW,lW,hs.mono fe,fH.o.rd.quiet hs,fun _=>hs.keep fH.o.blk (fun h=>h),lW,hs.cell (SB.o w6 fH.o.st).1 (fun h=>h),hs.keep HQ6.o (fun h=>h),lW,lW,lW⟩);cases hx:a_ gn R.l (i'+1) d (n+1)with
     |out=>exact absurd (by rw[lJ.o,hx];rfl) f_.o
     |err c ln col=>
      have HX:=ai hx;clear hx;obtain⟨j2,-⟩:∃j2:Nat,j2=0:=⟨_,rfl⟩;obtain⟨y,-⟩:∃y:Ex,y=x:=⟨_,rfl⟩;(have xH:Hid (∀X,bD R X (i'+1) d→Calls Tryz.prog 68 #[.agg #[fM R.rb 0],.int .i64 ((n:Int)+1)] X fun e wq=>e=.panicked [{v:=.iface 184 (.agg #[af c,af ln,af col]),recovered:=false}]∧Step (·=R.rb) X wq):=by intro X hX;have h9:=HLV.o X (i'+1) gn om hX (by rw[HX.o];intro h;cases h);rw[HX.o]at h9;exact h9);(have EF:Hid (∀X wq:World,Step (fun q=>q=R.rb∨q=bx) w6 X→Step (·=R.rb) X wq→aJ R d (NE w.heap.size) r w (.panicked [{v:=.iface 184 (.agg #[af c,af ln,af col]),recovered:=false}]) wq):=by intro X wq h1 h2;rw[lJ.o,HX.o];exact⟨rfl,(xI.o.then (fH.o.st.trans h1) oi).trans h2⟩);refine bG kr (fun L V X=>LvJ8 R (i'+1) j2 d bx w.heap.size w4.heap.size w6 sB n tk.line tk.col [.int .i64 k0,.string gZ,.int .u64 v0,.bool g_,.slice a1 n1 c1,.slice a2 n2 c2,.slice a3 n3 c3,.int .i64 l0,.int .i64 c0] y L V X∧L 5=false) 10 rfl kr kr kr kr ?h0 ?hs ?hdone;case h0=>exact⟨HZ8.o _ _ _,rfl⟩
      case hs=>
       refine⟨?_,?_,?_,?_,?_,?_,?_,?_,?_,?_,trivial⟩
       all_goals intro L V X a ev gJ hdf hL ak hJ
       ·have o7:=gJ 7 rfl;change a.tmps[7]?.getD undef=.string sB at o7;go_simp;exact⟨_,rfl,{hJ.1 with p0:=fun _=>rfl},hJ.2⟩
       ·have o5:=gJ 5 rfl;change a.tmps[5]?.getD undef=.pointer (some ⟨bx,0,none⟩)at o5;have h9:L 9=false:=by
         cases e:L 9 with
         |false=>rfl
         |true=>exact absurd (hJ.1.q9 e).1 (by rw[hL];decide)
        have hb:=hJ.1.x0 h9;refine wp_load_mid 56 (.tmp 5) rfl bx 0 (by rw[bK];exact o5) [.int .i64 k0,.string gZ,.int .u64 v0,.bool g_,.slice a1 n1 c1,.slice a2 n2 c2,.slice a3 n3 c3,.int .i64 l0,.int .i64 c0] _ (fun jj v hv=>by rw[Nat.zero_add];exact ah hb jj v qE) Tryz.underlying56 rfl Tryz.aK ?_;exact⟨_,rfl,{hJ.1 with p1:=fun _=>rfl,q6:=fun e=>absurd (hJ.1.q6 e).1 (by rw[hL];decide),q9:=fun e=>absurd (show L 9=true from e) (by rw[h9];decide)},hJ.2⟩
       ·have o2:=gJ 2 rfl;change a.tmps[2]?.getD undef=.pointer (some ⟨w.heap.size,0,none⟩)at o2;have p9:=hJ.1.KE;go_simp;exact⟨_,rfl,{hJ.1 with p2:=fun _=>rfl},hJ.2⟩
       ·have o1:=gJ 1 rfl;change a.tmps[1]?.getD undef=.int .i64 (n:Int)at o1;go_simp;exact⟨_,rfl,{hJ.1 with p3:=fun _=>rfl},hJ.2⟩
       ·have e30:=(ev 3 30 rfl (ak 3 rfl)).trans (hJ.1.p3 (ak 3 rfl));go_simp;exact⟨_,rfl,{hJ.1 with p4:=fun _=>rfl},hJ.2⟩
       ·have e29:=(ev 2 29 rfl (ak 2 rfl)).trans (hJ.1.p2 (ak 2 rfl));have e31:=(ev 4 31 rfl (ak 4 rfl)).trans (hJ.1.p4 (ak 4 rfl));have hrd:=hJ.1.rd;rw[hL,if_neg dc]at hrd;have h6:L 6=false:=by
         cases e:L 6 with
         |false=>rfl
         |true=>exact absurd (hJ.1.q6 e).2 (by rw[hL];decide)
        have h9:L 9=false:=by
         cases e:L 9 with
         |false=>rfl
         |true=>exact absurd (hJ.1.q9 e).2.1 (by rw[hL];decide)
        have h8:L 8=false:=by
         cases e:L 8 with
         |false=>rfl
         |true=>exact absurd (hJ.1.q8 e) (by rw[h6];decide)
        go_simp;refine(xH.o X hrd).mono ?_;rintro e wq ⟨rfl,hs⟩;exact⟨hdf,EF.o X wq hJ.1.st hs⟩
       ·exact absurd hJ.2 (by rw[show L 5=true from ak 5 rfl];decide)
       ·have o6:=gJ 6 rfl;change a.tmps[6]?.getD undef=.pointer (some ⟨w4.heap.size,0,none⟩)at o6;have q0:=ah hJ.1.GI 0 _ rfl;have q1:=ah hJ.1.GI 1 _ rfl;go_simp;have h9:L 9=false:=by
         cases e:L 9 with
         |false=>rfl
         |true=>exact absurd (hJ.1.q9 e).2.2.2.1 (by rw[hL];decide)
        exact⟨_,rfl,{hJ.1 with p7:=fun _=>rfl,q9:=fun e=>absurd (show L 9=true from e) (by rw[h9];decide)},hJ.2⟩
       ·exact absurd hJ.2 (by rw[show L 5=true from(hJ.1.q6 (ak 6 rfl)).2];decide)
       ·exact absurd hJ.2 (by rw[show L 5=true from(hJ.1.q6 (hJ.1.q8 (ak 8 rfl))).2];decide)
      case hdone=>intro L V X hall hJ;exact absurd hJ.2 (by rw[hall 5 dc];decide)
     |ok y j2=>
      have HX:=ai hx;clear hx;(have xH:Hid (∀X,bD R X (i'+1) d→Calls Tryz.prog 68 #[.agg #[fM R.rb 0],.int .i64 ((n:Int)+1)] X fun e wq=>(∃v,e=.returned v∧∃cs:List Value,v=.agg cs.toArray∧cZ wq (fun q=>X.heap.size≤q) y cs)∧bD R wq j2 d∧Step (·=R.rb) X wq):=by intro X hX;have h9:=HLV.o X (i'+1) gn om hX (by rw[HX.o];intro h;cases h);rw[HX.o]at h9;exact h9);(have zH:Hid (r=if n=2 then .ok (aZ 14 sB 0 false [x,y] [] [] tk) j2 else qN gn R.l j2 d n (aZ 14 sB 0 false [x,y] [] [] tk)):=by show _=_;rw[lJ.o,HX.o];rfl);go_cut [] (fun wx=>∃g:Nat,Aj R w1 w3 bx d wx j2 (aZ 14 sB 0 false [x,y] [] [] tk) [.int .i64 14,.string sB,.int .u64 0,.bool false,.slice (some ⟨g,0,none⟩) 2 2,.slice none 0 0,.slice none 0 0,.int .i64 tk.line,.int .i64 tk.col]);case first=>
       refine bG kr (LvJ8 R (i'+1) j2 d bx w.heap.size w4.heap.size w6 sB n tk.line tk.col [.int .i64 k0,.string gZ,.int .u64 v0,.bool g_,.slice a1 n1 c1,.slice a2 n2 c2,.slice a3 n3 c3,.int .i64 l0,.int .i64 c0] y) 10 rfl kr kr kr kr ?h0 ?hs ?hdone;case h0=>exact HZ8.o _ _ _
       case hs=>
        refine⟨?_,?_,?_,?_,?_,?_,?_,?_,?_,?_,trivial⟩
        all_goals intro L V X a ev gJ hdf hL ak hJ
        ·have o7:=gJ 7 rfl;change a.tmps[7]?.getD undef=.string sB at o7;go_simp;exact⟨_,rfl,{hJ with p0:=fun _=>rfl}⟩
        ·have o5:=gJ 5 rfl;change a.tmps[5]?.getD undef=.pointer (some ⟨bx,0,none⟩)at o5;have h9:L 9=false:=by
          cases e:L 9 with
          |false=>rfl
          |true=>exact absurd (hJ.q9 e).1 (by rw[hL];decide)
         have hb:=hJ.x0 h9;refine wp_load_mid 56 (.tmp 5) rfl bx 0 (by rw[bK];exact o5) [.int .i64 k0,.string gZ,.int .u64 v0,.bool g_,.slice a1 n1 c1,.slice a2 n2 c2,.slice a3 n3 c3,.int .i64 l0,.int .i64 c0] _ (fun jj v hv=>by rw[Nat.zero_add];exact ah hb jj v qE) Tryz.underlying56 rfl Tryz.aK ?_;exact⟨_,rfl,{hJ with p1:=fun _=>rfl,q6:=fun e=>absurd (hJ.q6 e).1 (by rw[hL];decide),q9:=fun e=>absurd (show L 9=true from e) (by rw[h9];decide)}⟩
        ·have o2:=gJ 2 rfl;change a.tmps[2]?.getD undef=.pointer (some ⟨w.heap.size,0,none⟩)at o2;have p9:=hJ.KE;go_simp;exact⟨_,rfl,{hJ with p2:=fun _=>rfl}⟩
        ·have o1:=gJ 1 rfl;change a.tmps[1]?.getD undef=.int .i64 (n:Int)at o1;go_simp;exact⟨_,rfl,{hJ with p3:=fun _=>rfl}⟩
        ·have e30:=(ev 3 30 rfl (ak 3 rfl)).trans (hJ.p3 (ak 3 rfl));go_simp;exact⟨_,rfl,{hJ with p4:=fun _=>rfl}⟩
        ·have e29:=(ev 2 29 rfl (ak 2 rfl)).trans (hJ.p2 (ak 2 rfl));have e31:=(ev 4 31 rfl (ak 4 rfl)).trans (hJ.p4 (ak 4 rfl));have hrd:=hJ.rd;rw[hL,if_neg dc]at hrd;have h6:L 6=false:=by
          cases e:L 6 with
          |false=>rfl
          |true=>exact absurd (hJ.q6 e).2 (by rw[hL];decide)
         have h9:L 9=false:=by
          cases e:L 9 with
          |false=>rfl
          |true=>exact absurd (hJ.q9 e).2.1 (by rw[hL];decide)
         have h8:L 8=false:=by
          cases e:L 8 with
          |false=>rfl
          |true=>exact absurd (hJ.q8 e) (by rw[h6];decide)
         go_simp;refine(xH.o X hrd).mono ?_;rintro e wq ⟨⟨v,rfl,cs,rfl,hy⟩,hr,hs⟩;have hzz:=hJ.st.size;refine⟨_,rfl,{hJ with p5:=fun _=>⟨cs,rfl,cZ.mono oi _ _ hy⟩,p6:=fun e=>absurd (show L 6=true from e) (by rw[h6];decide),p8:=fun e=>absurd (show L 8=true from e) (by rw[h8];decide),st:=hJ.st.trans (hs.mono il),rd:=hr,x0:=fun e=>hs.keep (hJ.x0 e) om,x1:=fun e=>absurd (show L 9=true from e) (by rw[h9];decide),KE:=hs.cell hJ.KE (fun e=>by have e2:w.heap.size=R.rb:=e;omega),GI:=hs.keep hJ.GI om,q6:=fun e=>absurd (show L 6=true from e) (by rw[h6];decide),q8:=fun e=>absurd (show L 8=true from e) (by rw[h8];decide),q9:=fun e=>absurd (show L 9=true from e) (by rw[h9];decide)}⟩
        ·have e28:=(ev 1 28 rfl (ak 1 rfl)).trans (hJ.p1 (ak 1 rfl));obtain⟨cs,y1,y2⟩:=hJ.p5 (ak 5 rfl);obtain⟨k5,nm5,v5,NF,b1,m1,d1,b2,m2,d2,b3,m3,d3,l5,c5,rfl⟩:=y2.parts;have e32:=(ev 5 32 rfl (ak 5 rfl)).trans y1;have hs:jP X (X.alloc (.cells #[af k0,aG gZ,bf v0,bC g_,.slice a1 n1 c1,.slice a2 n2 c2,.slice a3 n3 c3,af l0,af c0,af k5,aG nm5,bf v5,bC NF,.slice b1 m1 d1,.slice b2 m2 d2,.slice b3 m3 d3,af l5,af c5] 56)):=bV.alloc _;have h8:L 8=false:=by
          cases e:L 8 with
          |false=>rfl
          |true=>exact absurd (hJ.q8 e) (by rw[hL];decide)
         have h9:L 9=false:=by
          cases e:L 9 with
          |false=>rfl
          |true=>exact absurd (hJ.q9 e).2.2.1 (by rw[hL];decide)
         go_simp;refine⟨_,rfl,{hJ with p5:=fun e=>⟨_,y1,cZ.step hs (fun _ _ h=>h) _ _ y2⟩,p6:=fun _=>⟨X.heap.size,_,rfl,hJ.st.size,cZ.step hs (fun _ _ h=>h) _ _ y2,aB _ _⟩,p8:=fun e=>absurd (show L 8=true from e) (by rw[h8];decide),st:=hJ.st.alloc _,rd:=hJ.rd.quiet hs,x0:=fun e=>hs.keep (hJ.x0 e) (fun h=>h),x1:=fun e=>absurd (show L 9=true from e) (by rw[h9];decide),KE:=hs.cell hJ.KE (fun h=>h),GI:=hs.keep hJ.GI (fun h=>h),q6:=fun _=>⟨ak 1 rfl,ak 5 rfl⟩,q8:=fun e=>absurd (show L 8=true from e) (by rw[h8];decide),q9:=fun e=>absurd (show L 9=true from e) (by rw[h9];decide)}⟩
        ·have o6:=gJ 6 rfl;change a.tmps[6]?.getD undef=.pointer (some ⟨w4.heap.size,0,none⟩)at o6;have q0:=ah hJ.GI 0 _ rfl;have q1:=ah hJ.GI 1 _ rfl;go_simp;have h9:L 9=false:=by
          cases e:L 9 with
          |false=>rfl
          |true=>exact absurd (hJ.q9 e).2.2.2.1 (by rw[hL];decide)
         exact⟨_,rfl,{hJ with p7:=fun _=>rfl,q9:=fun e=>absurd (show L 9=true from e) (by rw[h9];decide)}⟩
        ·have e27:=(ev 0 27 rfl (ak 0 rfl)).trans (hJ.p0 (ak 0 rfl));have e34:=(ev 7 34 rfl (ak 7 rfl)).trans (hJ.p7 (ak 7 rfl));obtain⟨g,cs,c1,-⟩:=hJ.p6 (ak 6 rfl);have e33:=(ev 6 33 rfl (ak 6 rfl)).trans c1;go_simp;have h9:L 9=false:=by
          cases e:L 9 with
          |false=>rfl
          |true=>exact absurd (hJ.q9 e).2.2.2.2 (by rw[hL];decide)
         exact⟨_,rfl,{hJ with p8:=fun _=>⟨g,c1,rfl⟩,q8:=fun _=>ak 6 rfl,q9:=fun e=>absurd (show L 9=true from e) (by rw[h9];decide)}⟩
        ·have o5:=gJ 5 rfl;change a.tmps[5]?.getD undef=.pointer (some ⟨bx,0,none⟩)at o5;obtain⟨g,g1,g2⟩:=hJ.p8 (ak 8 rfl);have e35:=(ev 8 35 rfl (ak 8 rfl)).trans g2;have hb:=hJ.x0 hL;have h6:=hJ.q8 (ak 8 rfl);have hbs:=aC hb;refine eG 56 (.tmp 5) (.tmp 35) rfl bx 0 56 _ [.int .i64 14,.string sB,.int .u64 0,.bool false,.slice (some ⟨g,0,none⟩) 2 2,.slice none 0 0,.slice none 0 0,.int .i64 tk.line,.int .i64 tk.col] (by rw[bK];exact o5) (by rw[bK];exact e35) hb Tryz.aK (Nat.le_of_eq rfl) (XNONE sB tk.line tk.col g) ?_;intro w9 ig hs9;have hbb:w9.heap[bx]?=some (.cells #[af 14,aG sB,bf 0,aT,.slice (some ⟨g,0,none⟩) 2 2,aj,aj,af tk.line,af tk.col] 56 (0,0)):=ig;refine⟨undef,rfl,{hJ with p5:=fun e=> ?_,p6:=fun e=> ?_,st:=hJ.st.trans (hs9.mono ir),rd:=hJ.rd.step hs9 oi,x0:=(fun e=>by cases (show true=false from e)),x1:=fun _=>⟨g,g1,hbb⟩,KE:=hs9.cell hJ.KE (fun e=>by have e2:w.heap.size=bx:=e;omega),GI:=hs9.keep hJ.GI om,q9:=fun _=>⟨(hJ.q6 h6).1,(hJ.q6 h6).2,h6,ak 7 rfl,ak 8 rfl⟩}⟩
         ·obtain⟨cs,c1,c2⟩:=hJ.p5 e;exact⟨cs,c1,cZ.step hs9 oi _ _ c2⟩
         ·obtain⟨g',cs,c1,c2,c3,c4⟩:=hJ.p6 e;exact⟨g',cs,c1,c2,cZ.step hs9 oi _ _ c3,hs9.keep c4 om⟩
       case hdone=>intro L V X hall hJ;obtain⟨g,c1,c2⟩:=hJ.x1 (hall 9 dc);obtain⟨g',cs,d1,d2,d3,d4⟩:=hJ.p6 (hall 6 dc);rw[c1]at d1;cases d1;have hrd:=hJ.rd;rw[hall 5 dc,if_pos rfl]at hrd;have hst:=hJ.st;(have lI:Hid (Aj R w1 w3 bx d X j2 (aZ 14 sB 0 false [x,y] [] [] tk) [.int .i64 14,.string sB,.int .u64 0,.bool false,.slice (some ⟨g,0,none⟩) 2 2,.slice none 0 0,.slice none 0 0,.int .i64 tk.line,.int .i64 tk.col]):=by refine⟨hrd,c2,?_,fH.o.st.trans hst⟩;have hex:=cZ.step hst (fun q hq e=>by have:=hq.1.1;have:=hq.1.2;omega) _ _ (cZ.mono (P':=fun q=>(w1.heap.size≤q∧q≠bx)∧q<w6.heap.size) (fun q h7 h8=>⟨h8,h7⟩) _ _ fH.o.ex);rw[aZ,cZ];refine⟨_,_,_,_,[],rfl,HPOS.o,oQ,?_,aS.new d4 dc om,aS.nil _ _ _,by rw[bU],aS.nil _ _ _⟩;rw[bF];refine⟨_,_,rfl,cZ.mono (fun q _ hq=>hq.1) _ _ hex,?_⟩;exact bF.single (cZ.mono oi _ _ d3));rw[show List.range 10=[0,1,2,3,4,5,6,7,8,9] from rfl];simp only[lX,dZ,F5,Ef];clear hJ hall;go_wp2_with fail;go_meet;case rel=>exact⟨g,lI.o⟩
      case rest=>
       obtain⟨g,hls⟩:=hcut;obtain⟨w8,rfl⟩:=bn wc;have ku:=ai hls;obtain⟨b2,hb2⟩:∃b2,((n:Int)==2)=b2:=⟨_,rfl⟩;have HB2:Hid ((n==2)=b2):=(kX n 2 2 rfl).symm.trans hb2;clear hls p0;cases b2 with
       |false=>
        (have hn2:n≠2:=by intro e;have h3:=HB2.o;rw[e]at h3;cases h3);(have Oj:Hid (r=qN gn R.l j2 d n (aZ 14 sB 0 false [x,y] [] [] tk)):=by show _=_;rw[zH.o,if_neg hn2]);clear hn2;go_wp2_with fail;go_roundg gn;case rel=>exact⟨by omega,j2,_,_,Oj.o,ku.o⟩
        case measure=>omega
       |true=>
        (have hn2:n=2:=by simpa using HB2.o);(have Oj:Hid (r=.ok (aZ 14 sB 0 false [x,y] [] [] tk) j2):=by show _=_;rw[zH.o,if_pos hn2]);clear hn2;have dL:=ai ku.o.ex.one;(have bY:Hid (∀(jj:Nat) v,[Value.int .i64 14,aG sB,bf 0,aT,.slice (some ⟨g,0,none⟩) 2 2,aj,aj,af tk.line,af tk.col][jj]?=some v→w8.cell? ⟨bx,0+jj,none⟩=some v):=by intro jj v hv;rw[Nat.zero_add];exact ah ku.o.blk jj v qE);have HN8:=ai (SB.o w8 ku.o.st).2;go_wp2_with (first
         |(refine ay rfl 56 (.tmp 5) rfl bx 0 rfl [.int .i64 14,.string sB,.int .u64 0,.bool false,.slice (some ⟨g,0,none⟩) 2 2,.slice none 0 0,.slice none 0 0,.int .i64 tk.line,.int .i64 tk.col] _ bY.o Tryz.underlying56 rfl Tryz.aK ?_)
         |(refine au (w:=w8) rfl 56 (.tmp 4) (.tmp 38) rfl (w.heap.size+1) 0 56 _ [.int .i64 14,.string sB,.int .u64 0,.bool false,.slice (some ⟨g,0,none⟩) 2 2,.slice none 0 0,.slice none 0 0,.int .i64 tk.line,.int .i64 tk.col] rfl rfl HN8.o Tryz.aK (Nat.le_of_eq rfl) dL.o ?_;intro w9 ig yu))
        have hb9':w9.heap[w.heap.size+1]?=some (.cells [Value.int .i64 14,aG sB,bf 0,aT,.slice (some ⟨g,0,none⟩) 2 2,aj,aj,af tk.line,af tk.col].toArray 56 (0,0)):=ig;refine bodyPost_ret (aV rfl _ (w.heap.size+1) 56 _ _ rfl hb9' Tryz.underlying56 rfl Tryz.aK) rfl ?_;rw[Oj.o];have hz1:=dF.o.size;refine⟨⟨_,rfl,_,rfl,cZ.mono (fun q _ hq=>by have:=hq.1;omega) _ _ (cZ.step yu (fun q hq e=>by have:=hq.1;omega) _ _ ku.o.ex)⟩,ku.o.rd.step yu oi,?_⟩;exact(xI.o.then ku.o.st oi).then yu oi
theorem mO (f:Nat) (ih:oz f) (R:h_) (w:World) (i d:Nat) (hl:pF R.l) (h:bD R w i d) (hd:d≤40) (hno:a_ f R.l i d 0≠.out):Calls Tryz.prog 40 #[.agg #[fM R.rb 0]] w (aJ R d (NE w.heap.size) (a_ f R.l i d 0) w):=by
 obtain⟨w1,hw1⟩:=bn ((w.alloc (.cells #[fM R.rb 0] 75)).alloc (.cells #[af 0,bW,bf 0,aT,aj,aj,aj,af 0,af 0] 56));have dF:=nT hw1
 have kG:=nC hw1
 have lm:=nD hw1
 have HW1:=ai hw1;have H1:=ai (h.quiet dF.o);have hn1:=aC lm.o;have vK:=aC h.blk;have p0:=ah kG.o 0 _ rfl;have HC:=ai (ih R w1 i d 0 hl H1.o hd om hno);obtain⟨r,hr⟩:=bn (a_ f R.l i d 0);rw[←hr]at HC hno⊢;have f_:=ai hno;clear ih hl h hno hr hw1;go_enter Tryz.func40,Tryz.ntmps40;go_upto_region 1 with fail
 rw[←HW1.o];go_wp2_with fail;have hc2:Calls Tryz.prog 68 #[.agg #[fM R.rb 0],.int .i64 0] w1 (aJ R d (NE w1.heap.size) r w1):=HC.o;refine hc2.mono ?_;clear hc2;rintro e wx hp;cases r with
 |out=>exact absurd rfl f_.o
 |err c ln col=>obtain⟨rfl,sq⟩:=hp;exact⟨rfl,rfl,(dF.o.mono fe).trans sq⟩
 |ok y jx=>
  obtain⟨⟨v,rfl,cs,rfl,hy⟩,hrx,hsx⟩:=hp;have HY:=ai hy;have dL:=ai hy.one;obtain⟨k0,gZ,v0,g_,a1,n1,c1,a2,n2,c2,a3,n3,c3,l0,c0,rfl⟩:=hy.parts;have wP:=ai hrx;have qW:=ai hsx;have lN:=ai (hsx.keep lm.o om);clear hy hrx hsx p0
  go_wp2_with (refine au (w:=wx) rfl 56 (.tmp 2) (.tmp 4) rfl (w.heap.size+1) 0 56 _ [.int .i64 k0,.string gZ,.int .u64 v0,.bool g_,.slice a1 n1 c1,.slice a2 n2 c2,.slice a3 n3 c3,.int .i64 l0,.int .i64 c0] rfl rfl lN.o Tryz.aK (Nat.le_of_eq rfl) dL.o ?_
               intro w6 hb6 uw)
  have GH:w6.heap[w.heap.size+1]?=some (.cells [Value.int .i64 k0,aG gZ,bf v0,bC g_,.slice a1 n1 c1,.slice a2 n2 c2,.slice a3 n3 c3,af l0,af c0].toArray 56 (0,0)):=hb6;refine bodyPost_ret (aV rfl _ (w.heap.size+1) 56 _ _ rfl GH Tryz.underlying56 rfl Tryz.aK) rfl ?_;have hz1:=dF.o.size;refine⟨⟨_,rfl,_,rfl,cZ.mono oi _ _ (cZ.step uw oi _ _ HY.o)⟩,wP.o.step uw oi,?_⟩;exact((dF.o.mono fe).trans qW.o).then uw oi
theorem one_step (f:Nat) (ih:oz f):Vk (f+1):=by
 intro R w i d hl h hd hno;have HL:=ai hl;have HEX:Hid (∀X j,bD R X j d→a_ f R.l j d 0≠.out→Calls Tryz.prog 40 #[.agg #[fM R.rb 0]] X (aJ R d (NE X.heap.size) (a_ f R.l j d 0) X)):=fun X j hX hn=>mO f ih R X j d hl hX hd hn;obtain⟨r,hr⟩:=bn (nG (f+1) R.l i d);have HRR:Hid (r=(aI R.l i [40]).bind fun _ j=>(a_ f R.l j d 0).bind fun x j=>(aI R.l j [41]).bind fun _ j=>.ok x j):=by show _=_;rw[hr,nG]
 rw[←hr]at hno⊢;have f_:=ai hno;obtain⟨w1,hw1⟩:=bn (w.alloc (.cells #[fM R.rb 0] 75));have dF:=nS hw1
 have kG:=nB hw1
 have HW1:=ai hw1;have H1:=ai (h.quiet dF.o);have hn1:=aC kG.o;have vK:=aC h.blk;have dh:Hid (∀X:World,Step (·=R.rb) w1 X→X.cell? ⟨w.heap.size,0,none⟩=some (.pointer (some ⟨R.rb,0,none⟩))):=fun X hX=>ah (hX.keep kG.o om) 0 _ rfl
 have p0:=dh.o w1 bV;clear ih hl h hno hr hw1;go_enter Tryz.func158,Tryz.ntmps158;go_upto_region 1 with fail
 rw[←HW1.o];go_wp2_with fail;refine(dO R HL.o w1.heap.size ⟨#[40]⟩ _ i d (H1.o.quiet (bV.alloc _)) dc (ah (aB _ _) 0 _ rfl)).mono ?_;rintro e w2 hp;have hp2:aJ R d iR (aI R.l i [40]) _ e w2:=hp;cases hn:aI R.l i [40]with
 |out=>exact(dH hn).elim
 |err c ln col=>rw[hn]at hp2;obtain⟨rfl,s2⟩:=hp2;refine⟨rfl,?_⟩;rw[HRR.o,hn];exact⟨rfl,(dF.o.mono fe).trans (((Step.refl (·=R.rb) _).alloc _).trans s2)⟩
 |ok u j=>
  have HN:=ai hn;rw[hn]at hp2;obtain⟨⟨v,rfl,rfl⟩,hr2,s2⟩:=hp2;have H2:=ai hr2;have HS2:Hid (Step (·=R.rb) w1 w2):=((Step.refl (·=R.rb) _).alloc _).trans s2;clear hn hr2 s2 p0 hp;have p0:=dh.o w2 HS2.o;go_wp2_with fail;cases hx:a_ f R.l j d 0 with
  |out=>exact absurd (by rw[HRR.o,HN.o,dB.bind_ok,hx];rfl) f_.o
  |err c ln col=>have HX:=ai hx;clear hx;refine(HEX.o _ j H2.o (by rw[HX.o];intro h;cases h)).mono ?_;rintro e wq hp;rw[HX.o]at hp;obtain⟨rfl,sq⟩:=hp;refine⟨rfl,?_⟩;rw[HRR.o,HN.o,dB.bind_ok,HX.o];exact⟨rfl,((dF.o.mono fe).trans HS2.o).trans sq⟩
  |ok x jx=>
   have HX:=ai hx;clear hx;refine(HEX.o _ j H2.o (by rw[HX.o];intro h;cases h)).mono ?_;rintro e wx hp;rw[HX.o]at hp;obtain⟨⟨v,rfl,cs,rfl,hy⟩,hrx,hsx⟩:=hp;have HY:=ai hy;have dL:=ai hy.one;obtain⟨k0,gZ,v0,g_,a1,n1,c1,a2,n2,c2,a3,n3,c3,l0,c0,rfl⟩:=hy.parts;have wP:=ai hrx;have qW:=ai (HS2.o.trans hsx);obtain⟨w3,hw3⟩:=bn (wx.alloc (.cells #[af k0,aG gZ,bf v0,bC g_,.slice a1 n1 c1,.slice a2 n2 c2,.slice a3 n3 c3,af l0,af c0] 56));(have jA:Hid (jP wx w3):=by rw[hw3];exact bV.alloc _);(have HB3:Hid (w3.heap[wx.heap.size]?=some (.cells #[af k0,aG gZ,bf v0,bC g_,.slice a1 n1 c1,.slice a2 n2 c2,.slice a3 n3 c3,af l0,af c0] 56 (0,0))):=by rw[hw3];exact aB _ _);have HW3:=ai hw3;have H3:=ai (wP.o.quiet jA.o);have qf:Hid (Step (·=R.rb) w1 w3):=qW.o.trans (jA.o.mono fe);have hz2:=HS2.o.size;have hzx:=hsx.size;clear hy hrx hsx hw3 p0;have p0:=dh.o w3 qf.o;(go_upto_region 3 with fail);rw[←HW3.o];go_wp2_with fail;refine(dO R HL.o w3.heap.size ⟨#[41]⟩ _ jx d (H3.o.quiet (bV.alloc _)) dc (ah (aB _ _) 0 _ rfl)).mono ?_;rintro e w4 hp;have hp2:aJ R d iR (aI R.l jx [41]) _ e w4:=hp;cases hn:aI R.l jx [41]with
   |out=>exact(dH hn).elim
   |err c ln col=>rw[hn]at hp2;obtain⟨rfl,s4⟩:=hp2;refine⟨rfl,?_⟩;rw[HRR.o,HN.o,dB.bind_ok,HX.o,dB.bind_ok,hn];exact⟨rfl,((dF.o.mono fe).trans qf.o).trans (((Step.refl (·=R.rb) _).alloc _).trans s4)⟩
   |ok u2 j4=>have N8:=ai hn;rw[hn]at hp2;obtain⟨⟨v,rfl,rfl⟩,hr4,s4⟩:=hp2;have H4:=ai hr4;have Ae:Hid (Step (·=R.rb) w3 w4):=((Step.refl (·=R.rb) _).alloc _).trans s4;have HB4:=ai (Ae.o.keep HB3.o om);(have bY:Hid (∀(jj:Nat) v,[Value.int .i64 k0,aG gZ,bf v0,bC g_,.slice a1 n1 c1,.slice a2 n2 c2,.slice a3 n3 c3,af l0,af c0][jj]?=some v→w4.cell? ⟨wx.heap.size,0+jj,none⟩=some v):=by intro jj v hv;rw[Nat.zero_add];exact ah HB4.o jj v qE);clear hn hr4 s4 p0 hp;go_wp2_with (refine ay rfl 56 (.tmp 3) rfl wx.heap.size 0 rfl [.int .i64 k0,.string gZ,.int .u64 v0,.bool g_,.slice a1 n1 c1,.slice a2 n2 c2,.slice a3 n3 c3,.int .i64 l0,.int .i64 c0] _ bY.o Tryz.underlying56 rfl Tryz.aK ?_);go_ret;rw[HRR.o,HN.o,dB.bind_ok,HX.o,dB.bind_ok,N8.o];have hz1:=dF.o.size;have hz34:=Ae.o.size;have hz3:=aC HB3.o;have hal:jP w4 (w4.alloc (.cells #[af k0,aG gZ,bf v0,bC g_,.slice a1 n1 c1,.slice a2 n2 c2,.slice a3 n3 c3,af l0,af c0] 56)):=bV.alloc _;have hx4:Step (·=R.rb) wx (w4.alloc (.cells #[af k0,aG gZ,bf v0,bC g_,.slice a1 n1 c1,.slice a2 n2 c2,.slice a3 n3 c3,af l0,af c0] 56)):=((jA.o.mono fe).trans Ae.o).trans (hal.mono fe);refine⟨⟨_,rfl,_,aS.new (aB _ _) dc om,bF.single (cZ.mono oi _ _ (cZ.step hx4 oi _ _ HY.o))⟩,H4.o.quiet hal,?_⟩;exact(((dF.o.mono fe).trans qf.o).trans Ae.o).trans (hal.mono fe)
theorem Tryz.EH:(Tryz.prog.info? 56).map (fun i=>(i.zero,i.size,i.bytes))=some (some (.agg #[af 0,bW,bf 0,aT,aj,aj,aj,af 0,af 0]),9,128):=by kernel_rfl
structure Ol (R:h_) (w1:World) (d:Nat) (X:World) (i':Nat) (acc:List Ex) (va:Value) (xs:List Value):Prop where
 rd:bD R X i' d
 ow:X.ownsRow w1.heap.size 56 9 va acc.length xs
 el:bF X (fun q=>w1.heap.size≤q∧va.ownBlock≠some q) acc xs
 few:acc.length≤8
 st:Step (·=R.rb) w1 X
theorem Ol.read {R:h_} {w1:World} {d:Nat} {X X':World} {i' i2:Nat} {acc:List Ex} {va:Value} {xs:List Value} (h:Ol R w1 d X i' acc va xs) (hw:R.rb<w1.heap.size) (hr:bD R X' i2 d) (hs:Step (·=R.rb) X X'):Ol R w1 d X' i2 acc va xs:=
 ⟨hr,hs.owns h.ow oi,bF.step hs (fun q hq e=>by have:=hq.1;omega) _ _ h.el,h.few,h.st.trans hs⟩
theorem Ol.push {R:h_} {w1:World} {d:Nat} {X X2 X3:World} {i' i2:Nat} {acc:List Ex} {va v9:Value} {xs cs:List Value} {x:Ex} (h:Ol R w1 d X i' acc va xs) (hw:R.rb<w1.heap.size) (hr:bD R X2 i2 d) (hs:Step (·=R.rb) X X2) (hx:cZ X2 (fun q=>X.heap.size≤q) x cs) (hown:X3.ownsRow w1.heap.size 56 9 v9 (acc.length+1) (xs++cs)) (hgrow:X2.grownBy X3 va.ownBlock) (hat:v9.ownBlock=va.ownBlock∨v9.ownBlock=some X2.heap.size) (hlt:acc.length<8):Ol R w1 d X3 i2 (acc++[x]) v9 (xs++cs):=by
 have h2:=h.read hw hr hs;have h3:Step (fun q=>va.ownBlock=some q) X2 X3:=ji hgrow;have ho:∀q,va.ownBlock=some q→w1.heap.size≤q∧q<X.heap.size:=fun q hq=>h.ow.lt q hq;have hlen:(acc++[x]).length=acc.length+1:=by simp
 have hnew:∀q,q<X2.heap.size→va.ownBlock≠some q→v9.ownBlock≠some q:=by
  intro q hq hn e;rcases hat with h7|h7
  ·exact hn (by rw[←h7];exact e)
  ·rw[h7]at e;have e2:X2.heap.size=q:=Option.some.inj e;omega
 refine⟨h2.rd.step h3 (fun q hq e=>by have:=(ho q e).1;omega),by rw[hlen];exact hown,bF.snoc ?_ ?_,by rw[hlen];omega,h2.st.then h3 (fun q hq e=>by have:=(ho q e).1;omega)⟩
 ·have h5:=bF.mono (P':=fun q=>(w1.heap.size≤q∧va.ownBlock≠some q)∧q<X2.heap.size) (fun q h7 h8=>⟨h8,h7⟩) _ _ h2.el;have h6:=bF.step h3 (fun q hq e=>hq.1.2 e) _ _ h5;exact bF.mono (fun q _ hq=>⟨hq.1.1,hnew q hq.2 hq.1.2⟩) _ _ h6
 ·have h5:=cZ.mono (P':=fun q=>X.heap.size≤q∧q<X2.heap.size) (fun q h7 h8=>⟨h8,h7⟩) _ _ hx;have h6:=cZ.step h3 (fun q hq e=>by have:=(ho q e).2;omega) _ _ h5;refine cZ.mono (fun q _ hq=>⟨by have:=h.st.size;omega,hnew q hq.2 (fun e=>by have:=(ho q e).2;omega)⟩) _ _ h6
theorem SC (f:Nat) (ih:∀f',f'<f→oz f'):EG f:=by
 intro R w i d hl h hd hno;obtain⟨f,rfl⟩:∃f',f=f'+1:=by
  cases f with
  |zero=>exact absurd (by rw[jE]) hno
  |succ f=>exact⟨f,rfl⟩
 have HL:=ai hl;have HEX:Hid (∀f' X j,f'<f+1→bD R X j d→a_ f' R.l j d 0≠.out→Calls Tryz.prog 40 #[.agg #[fM R.rb 0]] X (aJ R d (NE X.heap.size) (a_ f' R.l j d 0) X)):=fun f' X j hf hX hn=>mO f' (ih f' hf) R X j d hl hX hd hn;obtain⟨r,hr⟩:=bn (jE (f+1) R.l i d);have HRR:Hid (r=if bH R.l i [41]then .ok [] (i+1)else kY f R.l i d []):=by show _=_;rw[hr,jE]
 rw[←hr]at hno⊢;have f_:=ai hno;obtain⟨w1,hw1⟩:=bn (w.alloc (.cells #[fM R.rb 0] 75));have dF:=nS hw1
 have kG:=nB hw1
 have HW1:=ai hw1;have H1:=ai (h.quiet dF.o);have hn1:=aC kG.o;have vK:=aC h.blk;have dh:Hid (∀X:World,Step (·=R.rb) w1 X→X.cell? ⟨w.heap.size,0,none⟩=some (.pointer (some ⟨R.rb,0,none⟩))):=fun X hX=>ah (hX.keep kG.o om) 0 _ rfl
 obtain⟨i0,hi0,hz0,hz1,hz2⟩:=info_parts Tryz.EH;have HI:=ai hi0;have HZ0:=ai hz0;have HZ1:=ai hz1;have HZ2:=ai hz2;have p0:=dh.o w1 bV;clear ih hl h hno hr hw1 hi0 hz0 hz1 hz2;go_enter Tryz.func148,Tryz.ntmps148;go_upto_region 1 with fail
 rw[←HW1.o];go_wp2_with fail;cases hb:bH R.l i [41]with
 |true=>have HB:=ai hb;clear hb;refine(dw R HL.o ⟨#[41]⟩ _ i d H1.o dc HB.o).mono ?_;rintro e w2 ⟨rfl,hr2,h2⟩;have HR2:=ai hr2;have HS2:=ai h2;clear hr2 h2 p0;go_wp2_with fail;go_ret;rw[HRR.o,HB.o,if_pos rfl];exact⟨⟨_,rfl,[],aS.nil _ _ _,by rw[bF]⟩,HR2.o,(dF.o.mono fe).trans HS2.o⟩
 |false=>
  have HB:=ai hb;have rF:Hid (r=kY f R.l i d []):=by show _=_;rw[HRR.o,hb,if_neg dc]
  clear hb;refine(dX R HL.o ⟨#[41]⟩ _ i d H1.o dc HB.o).mono ?_;rintro e w2 ⟨rfl,hr2,h2⟩;have HR2:=ai hr2;have HS2:=ai h2;clear hr2 h2 p0;go_wp2_with fail;go_loopg [3] f (fun gg s3 wr=>gg≤f∧∃(i':Nat) (acc:List Ex) (xs:List Value),r=kY gg R.l i' d acc∧Ol R w1 d wr i' acc s3 xs);case atStart=>exact⟨Nat.le_refl _,i,[],[],rF.o,HR2.o,World.ownsRow_nil _ _ _ _,by rw[bF],by simp,HS2.o⟩
  case round=>
   obtain⟨hgf,i',acc,xs,hrq,hst⟩:=hrel;obtain⟨gn,rfl⟩:∃gn,gk=gn+1:=by
    cases gk with
    |zero=>exact absurd hrq (by rw[kY];exact f_.o)
    |succ gn=>exact⟨gn,rfl⟩
   (have vF:Hid (r=(eH acc.length 8 R.l i').bind fun _ i=>(a_ gn R.l i d 0).bind fun x j=>if bH R.l j [44]then kY gn R.l (j+1) d (acc++[x])else(aI R.l j [41]).bind fun _ j=>.ok (acc++[x]) j):=by show _=_;rw[hrq,kY]);obtain⟨oa,oc,rfl⟩:=b_ hst.ow;have HST:=ai hst;have p0:=dh.o wr hst.st;have hfew:=hst.few;clear hrq hst;go_wp2_with fail;refine(nH R wr acc.length 8 i' d HST.o.rd).mono ?_;rintro e w3 hp;cases hn:eH acc.length 8 R.l i' with
   |out=>exact(lV hn).elim
   |err c ln col=>rw[hn]at hp;obtain⟨rfl,s3⟩:=hp;refine⟨rfl,?_⟩;rw[vF.o,hn];exact⟨rfl,((dF.o.mono fe).trans HST.o.st).trans s3⟩
   |ok u j=>
    have hji:j=i'∧acc.length<8:=by
     unfold eH at hn;split at hn
     ·cases hn
     ·cases hn;exact⟨rfl,by omega⟩
    obtain⟨rfl,Ja⟩:=hji;have HN:=ai hn;rw[hn]at hp;obtain⟨⟨v,rfl,rfl⟩,hr3,s3⟩:=hp;have gu:=ai (HST.o.read om hr3 s3);have qw:=ai (vF.o.trans (yG HN.o));clear hn hr3 s3 p0;have p0:=dh.o w3 gu.o.st;go_wp2_with fail;cases hx:a_ gn R.l j d 0 with
    |out=>exact absurd (by rw[qw.o,hx];rfl) f_.o
    |err c ln col=>have HX:=ai hx;clear hx;refine(HEX.o gn _ j om gu.o.rd (by rw[HX.o];intro h;cases h)).mono ?_;rintro e wq hp;rw[HX.o]at hp;obtain⟨rfl,sq⟩:=hp;refine⟨rfl,?_⟩;rw[qw.o,HX.o];exact⟨rfl,((dF.o.mono fe).trans gu.o.st).trans sq⟩
    |ok x jx=>
     have HX:=ai hx;clear hx;refine(HEX.o gn _ j om gu.o.rd (by rw[HX.o];intro h;cases h)).mono ?_;rintro e wx hp;rw[HX.o]at hp;obtain⟨⟨v,rfl,cs,rfl,hy⟩,hrx,hsx⟩:=hp;have HY:=ai hy;have dL:=ai hy.one;obtain⟨k0,gZ,v0,g_,a1,n1,c1,a2,n2,c2,a3,n3,c3,l0,c0,rfl⟩:=hy.parts;have wP:=ai hrx;have qW:=ai hsx;have NG:=ai (qw.o.trans (yG HX.o));obtain⟨w4,hw4⟩:=bn (wx.alloc (.cells #[af k0,aG gZ,bf v0,bC g_,.slice a1 n1 c1,.slice a2 n2 c2,.slice a3 n3 c3,af l0,af c0] 56));(have jv:Hid (jP wx w4):=by rw[hw4];exact bV.alloc _);have Ae:Hid (Step (·=R.rb) w3 w4):=hsx.trans (jv.o.mono fe);(have Jd:Hid ((wx.alloc (.cells #[af k0,aG gZ,bf v0,bC g_,.slice a1 n1 c1,.slice a2 n2 c2,.slice a3 n3 c3,af l0,af c0] 56)).ownsRow w1.heap.size 56 9 (.slice oa acc.length oc) acc.length xs):=by rw[←hw4];exact Ae.o.owns gu.o.ow oi);have Ak:Hid (Row (wx.alloc (.cells #[af k0,aG gZ,bf v0,bC g_,.slice a1 n1 c1,.slice a2 n2 c2,.slice a3 n3 c3,af l0,af c0] 56)) (wx.heap.size+1) (.slice (some ⟨wx.heap.size,0,none⟩) 1 1) 1 [.int .i64 k0,.string gZ,.int .u64 v0,.bool g_,.slice a1 n1 c1,.slice a2 n2 c2,.slice a3 n3 c3,.int .i64 l0,.int .i64 c0]):=Row.new (aB _ _) dc;(have Je:Hid (w1.heap.size≤(wx.alloc (.cells #[af k0,aG gZ,bf v0,bC g_,.slice a1 n1 c1,.slice a2 n2 c2,.slice a3 n3 c3,af l0,af c0] 56)).heap.size):=by rw[←hw4];exact Nat.le_trans gu.o.st.size Ae.o.size);have HR4:=ai (hrx.quiet jv.o);have SE:Hid (cZ w4 (fun q=>w3.heap.size≤q) x [.int .i64 k0,.string gZ,.int .u64 v0,.bool g_,.slice a1 n1 c1,.slice a2 n2 c2,.slice a3 n3 c3,.int .i64 l0,.int .i64 c0]):=cZ.step jv.o (fun _ _ h=>h) _ _ hy;have Y4:=ai hw4;clear hy hrx hsx p0 hw4
     go_upto_region 6 with(refine kH _ rfl (wx.heap.size+1) (.tmp 12) (.tmp 15) 54 rfl w1.heap.size 56 i0 (.agg #[af 0,bW,bf 0,aT,aj,aj,aj,af 0,af 0]) 9 128 Tryz.underlying54 HI.o HZ0.o HZ1.o HZ2.o rfl dc _ _ _ (by simp[Act.eval]) Jd.o _ 1 _ (by simp[Act.eval]) Ak.o rfl dL.o (by unfold maxLen;omega) om Je.o ?_
                           intro v9 w9 iY iq p_)
     rw[←Y4.o]at iq p_;have iF:=ai (gu.o.push om HR4.o Ae.o SE.o iY iq p_ Ja);clear iY iq p_;have p0:=dh.o w9 iF.o.st;go_wp2_with fail;cases hc:bH R.l jx [44]with
     |true=>
      have HC:=ai hc;clear hc;refine(dw R HL.o ⟨#[44]⟩ _ jx d iF.o.rd dc HC.o).mono ?_;rintro e w6 ⟨rfl,qH,s6⟩;have fH:=ai (iF.o.read om qH s6);(have Ah:Hid (r=kY gn R.l (jx+1) d (acc++[x])):=by show _=_;rw[NG.o,HC.o,if_pos rfl]);clear qH s6 p0;go_wp2_with fail;go_roundg gn;case rel=>exact⟨by omega,jx+1,acc++[x],_,Ah.o,fH.o⟩
      case measure=>omega
     |false=>
      have HC:=ai hc;clear hc;refine(dX R HL.o ⟨#[44]⟩ _ jx d iF.o.rd dc HC.o).mono ?_;rintro e w6 ⟨rfl,qH,s6⟩;have fH:=ai (iF.o.read om qH s6);(have Ah:Hid (r=(aI R.l jx [41]).bind fun _ j=>.ok (acc++[x]) j):=by show _=_;rw[NG.o,HC.o,if_neg dc]);clear qH s6 p0;have p0:=dh.o w6 fH.o.st;go_wp2_with fail;refine(dO R HL.o w6.heap.size ⟨#[41]⟩ _ jx d (fH.o.rd.quiet (bV.alloc _)) dc (ah (aB _ _) 0 _ rfl)).mono ?_;rintro e w7 hp;have hp2:aJ R d iR (aI R.l jx [41]) _ e w7:=hp;cases hn:aI R.l jx [41]with
      |out=>exact(dH hn).elim
      |err c ln col=>rw[hn]at hp2;obtain⟨rfl,s7⟩:=hp2;refine⟨rfl,?_⟩;rw[Ah.o,hn];exact⟨rfl,((dF.o.mono fe).trans fH.o.st).trans (((Step.refl (·=R.rb) _).alloc _).trans s7)⟩
      |ok u j2=>have HN7:=ai hn;rw[hn]at hp2;obtain⟨⟨v,rfl,rfl⟩,hr7,s7⟩:=hp2;have uq:=ai (fH.o.read om hr7 (((Step.refl (·=R.rb) _).alloc _).trans s7));clear hn hr7 s7 p0 hp;go_wp2_with fail;go_ret;rw[Ah.o,HN7.o];have hz:=dF.o.size;refine⟨⟨_,rfl,_,aS.jb uq.o.ow (fun q hq=> ?_),bF.mono (fun q _ hq=>by have:=hq.1;omega) _ _ uq.o.el⟩,uq.o.rd,(dF.o.mono fe).trans uq.o.st⟩;have:=(uq.o.ow.lt q hq).1;omega
theorem Tryz.eY:(Tryz.prog.info? 89).map (·.size)=some 17:=by kernel_rfl
theorem Tryz.Vq:(Tryz.prog.info? 89).map (fun i=>(i.zero,i.size,i.bytes))=some (some (.agg #[af 0,bW,af 0,bW,bW,aT,aj,aj,af 0,af 0,aj,aj,aj,aj,aT,af 0,af 0]),17,256):=by kernel_rfl
theorem StEl (a:St):Af (fun w P cs=>kF w P a cs):=⟨fun _ _ _ _ cs hs hP h=>kF.step hs hP a cs h,fun _ _ _ cs hp h=>kF.mono hp a cs h⟩
def xJ (f:Nat) (l:List Tok) (i d:Nat):dB (List St):=(aI l i [123]).bind fun _ j=>jC f l j d []
theorem CQ (f:Nat) (l:List Tok) (i d:Nat):bM (f+1) l i d=if d=40 then gW 2 l i else xJ f l i (d+1):=by rw[bM];rfl
def DL (n0 bt:Nat) (w':World) (a:List St):Prop:=∃(v:Value) (xs:List Value),w'.heap[bt]?=some (.cells #[v] 49 (0,0))∧aS w' (fun k=>n0≤k) v a.length xs∧bU w' (fun k=>n0≤k) a xs
structure Vr (R:h_) (w:World) (bt d:Nat) (X:World) (i':Nat) (acc:List St) (va:Value) (xs:List Value):Prop where
 rd:bD R X i' d
 blk:X.heap[bt]?=some (.cells #[va] 49 (0,0))
 ow:X.ownsRow w.heap.size 89 17 va acc.length xs
 el:bU X (fun q=>w.heap.size≤q∧va.ownBlock≠some q) acc xs
 st:Step (fun q=>q=R.rb∨q=bt) w X
theorem Vr.read {R:h_} {w:World} {bt d:Nat} {X X':World} {i' i2:Nat} {acc:List St} {va:Value} {xs:List Value} (h:Vr R w bt d X i' acc va xs) (hw:R.rb<w.heap.size) (hb:R.rb≠bt) (hr:bD R X' i2 d) (hs:Step (·=R.rb) X X'):Vr R w bt d X' i2 acc va xs:=
 ⟨hr,hs.keep h.blk (fun e=>hb e.symm),hs.owns h.ow oi,bU.step hs (fun q hq e=>by have:=hq.1;omega) _ _ h.el,h.st.trans (hs.mono il)⟩
theorem Om (R:h_) (f:Nat) (ih:∀f',f'<f→Jc f') (hf:f≤1000000) (bp bt:Nat) (w:World) (i d:Nat) (hl:pF R.l) (h:bD R w i d) (hd:d≤40) (hbp:w.heap[bp]?=some (.cells #[fM R.rb 0] 75 (0,0))) (hbt:w.heap[bt]?=some (.cells #[aj] 49 (0,0))) (hb1:R.rb<bp) (hb2:bp<bt) (hno:xJ f R.l i d≠.out):Calls Tryz.prog 126 #[.pointer (some ⟨bp,0,none⟩),.pointer (some ⟨bt,0,none⟩)] w (aY R d bt (DL w.heap.size bt) (xJ f R.l i d) w):=by
 have HL:=ai hl;have H0:=ai h;have IH:=ai ih;obtain⟨r,hr⟩:=bn (xJ f R.l i d);have HRR:Hid (r=(aI R.l i [123]).bind fun _ j=>jC f R.l j d []):=by show _=_;rw[hr];rfl
 rw[←hr]at hno⊢;have f_:=ai hno;have NV:=aC hbt;have Le:=ai hbt;have dh:Hid (∀X:World,Step (fun q=>q=R.rb∨q=bt) w X→X.cell? ⟨bp,0,none⟩=some (.pointer (some ⟨R.rb,0,none⟩))):=fun X hX=>ah (hX.keep hbp om) 0 _ rfl
 obtain⟨j0,hj0,hy0,hy1,hy2⟩:=info_parts Tryz.Vq;have HJ:=ai hj0;have HY0:=ai hy0;have HY1:=ai hy1;have HY2:=ai hy2;have p0:=dh.o w bV;clear ih hl h hbp hbt hr hno hj0 hy0 hy1 hy2;go_enter Tryz.func126,Tryz.ntmps126;go_wp2_with fail;refine(dO R HL.o w.heap.size ⟨#[123]⟩ _ i d (H0.o.quiet (bV.alloc _)) dc (ah (aB _ _) 0 _ rfl)).mono ?_;rintro e w2 hp;have hp2:aJ R d iR (aI R.l i [123]) _ e w2:=hp;cases hn:aI R.l i [123]with
 |out=>exact(dH hn).elim
 |err c ln col=>rw[hn]at hp2;obtain⟨rfl,s2⟩:=hp2;refine⟨rfl,aY.aW (c:=c) (ln:=ln) (col:=col) (by rw[HRR.o,hn];rfl) rfl ?_⟩;exact(((Step.refl (·=R.rb) _).alloc _).trans s2).mono il
 |ok u j=>
  have HN:=ai hn;rw[hn]at hp2;obtain⟨⟨v,rfl,rfl⟩,hr2,s2⟩:=hp2;have HS2:Hid (Step (·=R.rb) w w2):=((Step.refl (·=R.rb) _).alloc _).trans s2;have HR2:=ai hr2;have rF:Hid (r=jC f R.l j d []):=by show _=_;rw[HRR.o,HN.o];rfl
  have rQ:=ai (HS2.o.keep Le.o om);clear hn hr2 s2 p0 hp;go_wp2_with fail;go_loopg [] f (fun gg wr=>gg≤f∧∃(i':Nat) (acc:List St) (va:Value) (xs:List Value),r=jC gg R.l i' d acc∧acc.length+gg≤f∧Vr R w bt d wr i' acc va xs);case atStart=>exact⟨Nat.le_refl _,j,[],.slice none 0 0,[],rF.o,by simp,HR2.o,rQ.o,World.ownsRow_nil _ _ _ _,by rw[bU],HS2.o.mono il⟩
  case round=>
   obtain⟨hgf,i',acc,va,xs,hrq,hal,hst⟩:=hrel;obtain⟨gn,rfl⟩:∃gn,gk=gn+1:=by
    cases gk with
    |zero=>exact absurd hrq (by rw[jC];exact f_.o)
    |succ gn=>exact⟨gn,rfl⟩
   (have vF:Hid (r=if bH R.l i' [125]then .ok acc (i'+1)else(lq gn R.l i' d).bind fun s j=>jC gn R.l j d (acc++[s])):=by show _=_;rw[hrq,jC]);obtain⟨oa,oc,rfl⟩:=b_ hst.ow;have HST:=ai hst;have p0:=dh.o wr hst.st;clear hrq hst;go_wp2_with fail;cases hb:bH R.l i' [125]with
   |true=>have HB:=ai hb;clear hb;refine(dw R HL.o ⟨#[125]⟩ _ i' d HST.o.rd dc HB.o).mono ?_;rintro e w3 ⟨rfl,hr3,h3⟩;have gu:=ai (HST.o.read om om hr3 h3);clear hr3 h3 p0;go_wp2_with fail;refine bodyPost_end (results_none rfl _ _ _) rfl ?_;refine aY.dQ (a:=acc) (j:=i'+1) (by rw[vF.o,HB.o,if_pos rfl]) rfl ⟨_,xs,gu.o.blk,aS.jb gu.o.ow (fun q hq=>(gu.o.ow.lt q hq).1),bU.mono (fun q _ hq=>hq.1) _ _ gu.o.el⟩ gu.o.rd gu.o.st
   |false=>
    have HB:=ai hb;clear hb;refine(dX R HL.o ⟨#[125]⟩ _ i' d HST.o.rd dc HB.o).mono ?_;rintro e w3 ⟨rfl,hr3,h3⟩;obtain⟨w4,rfl⟩:=bn w3;have fP:=ai (HST.o.read om om hr3 h3);have Ve:=ai (vF.o.trans (yR HB.o));clear hr3 h3 p0;have Hl:Hid (∀X:World,Step (fun q=>q=R.rb∨q=bt∨(Value.slice oa acc.length oc).ownBlock=some q) w4 X→X.cell? ⟨bp,0,none⟩=some (.pointer (some ⟨R.rb,0,none⟩))):=by
     show∀X,_;intro X hX;refine hX.cell (dh.o w4 fP.o.st) (fun e=> ?_);have e2:bp=R.rb∨bp=bt∨(Value.slice oa acc.length oc).ownBlock=some bp:=e;rcases e2 with e2|e2|e2
     ·omega
     ·omega
     ·have:=(fP.o.ow.lt _ e2).1;omega
    have HO:Hid (yK R w4 2 4 5 6 7 8 bt w.heap.size 17 acc.length (.slice oa acc.length oc) xs [Value.int .i64 0,bW,af 0,bW,bW,aT,aj,aj,af 0,af 0,aj,aj,aj,aj,aT,af 0,af 0]):=
     ⟨by decide,by decide,by decide,by decide,by decide,by decide,by decide,by decide,by decide,by omega,NV,fP.o.st.size,fun q hq=>fP.o.ow.lt q hq,fP.o.el.len,rfl⟩
    (have Vj:Hid (∀u∈[Value.int .i64 0,bW,af 0,bW,bW,aT,aj,aj,af 0,af 0,aj,aj,aj,aj,aT,af 0,af 0],u.oneCell'=true):=by intro u hu;simp at hu;rcases hu with rfl|rfl|rfl|rfl|rfl|rfl|rfl|rfl|rfl|rfl|rfl|rfl|rfl|rfl|rfl|rfl|rfl<;>rfl);(have hacl:acc.length≤1000000:=by omega);(go_upto_region 2 with fail);cases hx:lq gn R.l i' d with
    |out=>exact absurd (by rw[Ve.o,hx];rfl) f_.o
    |err c ln col=>
     have HX:=ai hx;clear hx;obtain⟨sx,-⟩:∃sx:St,sx=gy 0 di dU [] [] [] [] false Ql:=⟨_,rfl⟩;obtain⟨j2,-⟩:∃j2:Nat,j2=0:=⟨_,rfl⟩;have HE:Hid (Af (fun w P cs=>kF w P sx cs)):=StEl sx;have xG:Hid (∀V,jW R i' j2 d w4 2 4 5 6 7 8 bt (fun v=>.cells #[v] 49 (0,0)) w.heap.size 89 17 acc.length (.slice oa acc.length oc) xs [Value.int .i64 0,bW,af 0,bW,bW,aT,aj,aj,af 0,af 0,aj,aj,aj,aj,aT,af 0,af 0] (fun w P cs=>kF w P sx cs) [some (.slice oa acc.length oc),some (.agg #[fM R.rb 0]),none,some (.int .i64 (acc.length:Int)),none,none,none,none,none] (fun _=>false) V w4.drew):=fun V=>jW.zero (bV.drew) fP.o.rd fP.o.ow fP.o.blk;(have xH:Hid (∀X,bD R X i' d→Calls Tryz.prog 127 #[.agg #[fM R.rb 0]] X fun e wq=>e=.panicked [{v:=.iface 184 (.agg #[af c,af ln,af col]),recovered:=false}]∧Step (·=R.rb) X wq):=by intro X hX;have h9:=IH.o gn om R X i' d HL.o hX hd (by rw[HX.o];intro h;cases h);rw[HX.o]at h9;exact h9);have EF:Hid (∀X wq:World,Step (fun q=>q=R.rb∨q=bt∨(Value.slice oa acc.length oc).ownBlock=some q) w4 X→Step (·=R.rb) X wq→aY R d bt (DL w.heap.size bt) r w (.panicked [{v:=.iface 184 (.agg #[af c,af ln,af col]),recovered:=false}]) wq):=by
      show∀X wq,_;intro X wq h1 h2;refine aY.aW (c:=c) (ln:=ln) (col:=col) (by rw[Ve.o,HX.o];rfl) rfl (fP.o.st.then (h1.trans (h2.mono il)) (fun q hq e=> ?_));rcases e with e|e|e
      ·exact .inl e
      ·exact .inr e
      ·have:=(fP.o.ow.lt _ e).1;omega
     refine bG kr (fun L V X=>jW R i' j2 d w4 2 4 5 6 7 8 bt (fun v=>.cells #[v] 49 (0,0)) w.heap.size 89 17 acc.length (.slice oa acc.length oc) xs [Value.int .i64 0,bW,af 0,bW,bW,aT,aj,aj,af 0,af 0,aj,aj,aj,aj,aT,af 0,af 0] (fun w P cs=>kF w P sx cs) [some (.slice oa acc.length oc),some (.agg #[fM R.rb 0]),none,some (.int .i64 (acc.length:Int)),none,none,none,none,none] L V X∧L 2=false) 9 rfl kr kr kr kr ?h0 ?hs ?hdone;case h0=>exact⟨xG.o _,rfl⟩
     case hs=>
      refine⟨?_,?_,?_,?_,?_,?_,?_,?_,?_,trivial⟩
      all_goals intro L V X a ev gJ hdf hL ak hJ
      ·have o1:=gJ 1 rfl;change a.tmps[1]?.getD undef=.pointer (some ⟨bt,0,none⟩)at o1;have hZ:=(hJ.1.I_ (hJ.1.Va dc hL)).1;have hb:=hJ.1.blk;rw[hZ,if_neg dc]at hb;have q0:X.cell? ⟨bt,0,none⟩=some (.slice oa acc.length oc):=ah hb 0 _ rfl;go_simp;exact⟨_,rfl,⟨hJ.1.up 0 dc dc dc dc dc dc rfl,by rw[aA _ dc];exact hJ.2⟩⟩
      ·have o0:=gJ 0 rfl;change a.tmps[0]?.getD undef=.pointer (some ⟨bp,0,none⟩)at o0;have p0:=Hl.o X hJ.1.st;go_simp;exact⟨_,rfl,⟨hJ.1.up 1 dc dc dc dc dc dc rfl,by rw[aA _ dc];exact hJ.2⟩⟩
      ·have e11:=(ev 1 11 rfl (ak 1 rfl)).trans (hJ.1.iO 1 _ rfl (ak 1 rfl));have hrd:=hJ.1.rd;rw[hL,if_neg dc]at hrd;go_simp;refine(xH.o X hrd).mono ?_;rintro e wq ⟨rfl,hs⟩;exact⟨hdf,EF.o X wq hJ.1.st hs⟩
      ·have e10:=(ev 0 10 rfl (ak 0 rfl)).trans (hJ.1.iO 0 _ rfl (ak 0 rfl));go_simp;exact⟨_,rfl,⟨hJ.1.up 3 dc dc dc dc dc dc rfl,by rw[aA _ dc];exact hJ.2⟩⟩
      ·have hu:=hJ.1.build HE.o HO.o hL rfl;go_simp;exact⟨_,rfl,⟨hu,by rw[aA _ dc];exact hJ.2⟩⟩
      ·have e10:=(ev 0 10 rfl (ak 0 rfl)).trans (hJ.1.iO 0 _ rfl (ak 0 rfl));exact absurd hJ.2 (by rw[ak 2 rfl];decide)
      ·have e13:=(ev 3 13 rfl (ak 3 rfl)).trans (hJ.1.iO 3 _ rfl (ak 3 rfl));exact absurd hJ.2 (by rw[ak 2 rfl];decide)
      ·exact absurd hJ.2 (by rw[ak 2 rfl];decide)
      ·have o1:=gJ 1 rfl;change a.tmps[1]?.getD undef=.pointer (some ⟨bt,0,none⟩)at o1;exact absurd hJ.2 (by rw[ak 2 rfl];decide)
     case hdone=>intro L V X hall hJ;exact absurd hJ.2 (by rw[hall 2 dc];decide)
    |ok sx j2=>
     have HX:=ai hx;clear hx;have HE:Hid (Af (fun w P cs=>kF w P sx cs)):=StEl sx;have xG:Hid (∀V,jW R i' j2 d w4 2 4 5 6 7 8 bt (fun v=>.cells #[v] 49 (0,0)) w.heap.size 89 17 acc.length (.slice oa acc.length oc) xs [Value.int .i64 0,bW,af 0,bW,bW,aT,aj,aj,af 0,af 0,aj,aj,aj,aj,aT,af 0,af 0] (fun w P cs=>kF w P sx cs) [some (.slice oa acc.length oc),some (.agg #[fM R.rb 0]),none,some (.int .i64 (acc.length:Int)),none,none,none,none,none] (fun _=>false) V w4.drew):=fun V=>jW.zero (bV.drew) fP.o.rd fP.o.ow fP.o.blk;(have xH:Hid (∀X,bD R X i' d→Calls Tryz.prog 127 #[.agg #[fM R.rb 0]] X fun e wq=>(∃v,e=.returned v∧∃cs:List Value,v=.agg cs.toArray∧kF wq (fun q=>X.heap.size≤q) sx cs)∧bD R wq j2 d∧Step (·=R.rb) X wq):=by intro X hX;have h9:=IH.o gn om R X i' d HL.o hX hd (by rw[HX.o];intro h;cases h);rw[HX.o]at h9;exact h9);have HR8:Hid (r=jC gn R.l j2 d (acc++[sx])):=by show _=_;rw[Ve.o,HX.o];rfl
     have lI:Hid (∀(g9 c9:Nat) (Ag:List Value) (X:World),bD R X j2 d→X.heap[bt]?=some (.cells #[.slice (some ⟨g9,0,none⟩) (acc.length+1) c9] 49 (0,0))→X.ownsRow w.heap.size 89 17 (.slice (some ⟨g9,0,none⟩) (acc.length+1) c9) (acc.length+1) (xs++Ag)→kF X (fun q=>w4.heap.size≤q∧q≠g9) sx Ag→((Value.slice oa acc.length oc).ownBlock=some g9∨w4.heap.size≤g9)→Step (fun q=>q=R.rb∨q=bt∨(Value.slice oa acc.length oc).ownBlock=some q) w4 X→
       ∃(N_:Value) (Oa:List Value),Vr R w bt d X j2 (acc++[sx]) N_ Oa):=by
      show∀g9 c9 Ag X,_
      intro g9 c9 Ag X h1 h2 h3 h4 h5 h6
      have hlen:(acc++[sx]).length=acc.length+1:=by simp
      refine⟨.slice (some ⟨g9,0,none⟩) (acc.length+1) c9,xs++Ag,h1,h2,by rw[hlen];exact h3,bU.snoc ?_ ?_,fP.o.st.then h6 (fun q hq e=> ?_)⟩
      ·
       refine bU.mono ?_ _ _ (bU.step h6 ?_ _ _ (bU.mono (P':=fun q=>(w.heap.size≤q∧(Value.slice oa acc.length oc).ownBlock≠some q)∧q<w4.heap.size) (fun q h7 h8=>⟨h8,h7⟩) _ _ fP.o.el))
       ·
        intro q _ hq
        refine⟨hq.1.1,fun e=> ?_⟩
        have e2:g9=q:=Option.some.inj e
        rcases h5 with h5|h5
        ·
         exact hq.1.2 (by rw[←e2];exact h5)
        ·
         have:=hq.2;omega
       ·
        intro q hq e
        rcases e with e|e|e
        ·
         have:=hq.1.1;omega
        ·
         have:=hq.1.1;omega
        ·
         exact hq.1.2 e
      ·
       exact kF.mono (fun q _ hq=>⟨Nat.le_trans fP.o.st.size hq.1,fun e=>hq.2 (Option.some.inj e).symm⟩) _ _ h4
      ·
       rcases e with e|e|e
       ·
        exact .inl e
       ·
        exact .inr e
       ·
        have:=(fP.o.ow.lt _ e).1;omega
     refine bG kr (jW R i' j2 d w4 2 4 5 6 7 8 bt (fun v=>.cells #[v] 49 (0,0)) w.heap.size 89 17 acc.length (.slice oa acc.length oc) xs [Value.int .i64 0,bW,af 0,bW,bW,aT,aj,aj,af 0,af 0,aj,aj,aj,aj,aT,af 0,af 0] (fun w P cs=>kF w P sx cs) [some (.slice oa acc.length oc),some (.agg #[fM R.rb 0]),none,some (.int .i64 (acc.length:Int)),none,none,none,none,none]) 9 rfl kr kr kr kr ?h0 ?hs ?hdone;case h0=>exact xG.o _
     case hs=>
      refine⟨?_,?_,?_,?_,?_,?_,?_,?_,?_,trivial⟩
      all_goals intro L V X a ev gJ hdf hL ak hJ
      ·have o1:=gJ 1 rfl;change a.tmps[1]?.getD undef=.pointer (some ⟨bt,0,none⟩)at o1;have hZ:=(hJ.I_ (hJ.Va dc hL)).1;have hb:=hJ.blk;rw[hZ,if_neg dc]at hb;have q0:X.cell? ⟨bt,0,none⟩=some (.slice oa acc.length oc):=ah hb 0 _ rfl;go_simp;exact⟨_,rfl,hJ.up 0 dc dc dc dc dc dc rfl⟩
      ·have o0:=gJ 0 rfl;change a.tmps[0]?.getD undef=.pointer (some ⟨bp,0,none⟩)at o0;have p0:=Hl.o X hJ.st;go_simp;exact⟨_,rfl,hJ.up 1 dc dc dc dc dc dc rfl⟩
      ·have e11:=(ev 1 11 rfl (ak 1 rfl)).trans (hJ.iO 1 _ rfl (ak 1 rfl));have hrd:=hJ.rd;rw[hL,if_neg dc]at hrd;go_simp;refine(xH.o X hrd).mono ?_;rintro e wq ⟨⟨v,rfl,cs,rfl,hty⟩,hr,hs⟩;exact⟨_,rfl,hJ.call HE.o HO.o hL rfl hs hr hty⟩
      ·have e10:=(ev 0 10 rfl (ak 0 rfl)).trans (hJ.iO 0 _ rfl (ak 0 rfl));go_simp;exact⟨_,rfl,hJ.up 3 dc dc dc dc dc dc rfl⟩
      ·have hu:=hJ.build HE.o HO.o hL rfl;go_simp;exact⟨_,rfl,hu⟩
      ·have e10:=(ev 0 10 rfl (ak 0 rfl)).trans (hJ.iO 0 _ rfl (ak 0 rfl));have e14:=ev 4 14 rfl (ak 4 rfl);obtain⟨zb,z1,z2,z3⟩:=hJ.bl (ak 4 rfl) hL;have hall:∀i,i<5→L i=true:=by
        intro i hi;rcases(show i=0∨i=1∨i=2∨i=3∨i=4 by omega)with rfl|rfl|rfl|rfl|rfl
        ·exact ak 0 rfl
        ·exact ak 1 rfl
        ·exact ak 2 rfl
        ·exact ak 3 rfl
        ·exact ak 4 rfl
       refine gV _ X.heap.size (.tmp 10) (.tmp 14) 49 rfl w.heap.size 89 j0 (.agg #[af 0,bW,af 0,bW,bW,aT,aj,aj,af 0,af 0,aj,aj,aj,aj,aT,af 0,af 0]) 17 256 Tryz.underlying49 HJ.o HY0.o HY1.o HY2.o rfl dc _ _ _ (by rw[bK];exact e10) (hJ.old hL) (V 4) 1 _ (by rw[bK];exact e14) (by rw[z1];exact(Row.new z3 dc).mono (aC z3)) rfl Vj.o (by unfold maxLen;omega) om (Nat.le_trans HO.o.bw hJ.st.size) ?_;intro v8 w8 uO qx BG;exact⟨v8,rfl,hJ.app HE.o HO.o hL hall rfl uO qx BG⟩
      ·have e13:=(ev 3 13 rfl (ak 3 rfl)).trans (hJ.iO 3 _ rfl (ak 3 rfl));have e15:=ev 5 15 rfl (ak 5 rfl);obtain⟨g,c,hV,-⟩:=hJ.new (ak 5 rfl);rw[hV]at e15;(have hi0:(0:Int)≤(acc.length:Int):=by omega);(have hi1:(acc.length:Int)<((acc.length+1:Nat):Int):=by omega);(have hi2:(acc.length:Int)<(acc.length:Int)+1:=by omega);have hu:=hJ.index HO.o (ak 5 rfl) rfl hV;go_simp;exact⟨_,rfl,hu⟩
      ·have h8:=ak 5 rfl;have h9:=ak 6 rfl;have h5:=ak 2 rfl;obtain⟨g,c,hV,-,ys,hown,-⟩:=hJ.new h8;have ep:=(ev 6 16 rfl h9).trans ((hJ.ix h9).2 g c hV);obtain⟨cs,c1,c2⟩:=hJ.el h5;have ec:=(ev 2 12 rfl h5).trans c1;rw[hV]at hown;obtain⟨g',c',cur,hg',-,hcur,hsz⟩:=vM hown om;cases hg';have hcl:cs.length=17:=kF.len c2;refine eG 89 (.tmp 16) (.tmp 12) rfl g (acc.length*17) 89 cur cs (by rw[bK];exact ep) (by rw[bK];exact ec) hcur (by rw[hcl];exact Tryz.eY) om (kF.one c2) ?_;intro w6 hb6 hs6;exact⟨undef,rfl,hJ.put HE.o HO.o h8 (fun u hu=>by cases hu) hV c1 hcl hcur hb6 hs6⟩
      ·have o1:=gJ 1 rfl;change a.tmps[1]?.getD undef=.pointer (some ⟨bt,0,none⟩)at o1;have h8:=ak 5 rfl;have ev8:=ev 5 15 rfl h8;obtain⟨g,c,hV,-⟩:=hJ.new h8;rw[hV]at ev8;have hb:=hJ.blk;rw[hL,if_neg dc]at hb;have q5:=ah hb 0 _ rfl;have z5:=aH hb 0;have hu:=hJ.last (X':=X.setCell ⟨bt,0,none⟩ (.slice (some ⟨g,0,none⟩) (acc.length+1) c)) HE.o HO.o h8 (fun u hu=>by cases hu) (by rw[hV];exact aU hb 0 _) (bV.setCell _ _ jd);go_simp;exact⟨undef,hu⟩
     case hdone=>
      intro L V X hall hJ;obtain⟨g9,c9,Ag,RZ,R_,iY,Si,Sj,yu,hgb9⟩:=hJ.done ⟨hall 2 dc,hall 5 dc,hall 7 dc,hall 8 dc⟩;rw[UN];simp only[lX,dZ,F5,Ef];clear hJ hall;obtain⟨N_,Oa,hls⟩:=lI.o g9 c9 Ag X RZ R_ iY Si Sj yu;have ku:=ai hls;clear hls RZ R_ iY Si Sj yu;(have hlen:(acc++[sx]).length=acc.length+1:=by simp);(have hal2:(acc++[sx]).length+gn≤f:=by omega);go_wp2_with fail;go_roundg gn;case rel=>exact⟨by omega,j2,acc++[sx],N_,Oa,HR8.o,hal2,ku.o⟩
      case measure=>omega
theorem yM:Enters 126:=fun xs w=>by go_simp
theorem Oo (f:Nat) (ih:∀f',f'<f→Jc f') (hf:f≤1000000):tC (f+1):=by
 intro R w i d hl h hd hno;have hmf:∀(fn:Fn) (first cap:Array Value) (w:World),(Instr.makeFunc fn first cap).run Tryz.prog w=.ok (.func fn first cap) w:=fun _ _ _ _=>rfl;have HL:=ai hl;have H0:=ai h;have f_:=ai hno;obtain⟨r,hr⟩:=bn (bM (f+1) R.l i d);have HRR:=ai hr;rw[←hr];have vK:=aC h.blk;obtain⟨w3,hw3⟩:=bn ((w.alloc (.cells #[fM R.rb 0] 75)).alloc (.cells #[aj] 49));have jA:=nT hw3
 have yJ:=nC hw3
 have HB3:=nD hw3
 have HW3:=ai hw3;have H3:=ai (h.quiet jA.o);have hlt3:=aC HB3.o;have p0:w3.cell? ⟨w.heap.size,0,none⟩=some (.pointer (some ⟨R.rb,0,none⟩)):=ah yJ.o 0 _ rfl;obtain⟨t,ht⟩:=bn (tokA R.l i);have HT:=ai ht;obtain⟨bt,hbt⟩:=bn (w.heap.size+1);have HBTE:=ai hbt;have hbt0:w.heap.size<bt:=by omega
 have hbt1:bt<w3.heap.size:=by omega
 rw[←hbt]at HB3;have HIH:=ai ih;clear ih hl h hno hr hw3 ht hbt;go_enter Tryz.func96,Tryz.ntmps96;go_upto_region 2 with fail
 rw[←HW3.o,←HBTE.o];go_wp2_with fail;by_cases U9:d=40
 ·refine(yV R _ [.pointer (some ⟨w.heap.size,0,none⟩),.pointer (some ⟨bt,0,none⟩)] w3 i d t H3.o (by rw[HT.o];exact H3.o.tok) U9).mono ?_;rintro e w4 ⟨rfl,h4⟩;refine⟨rfl,?_⟩;rw[HRR.o,CQ,if_pos U9,gW,←HT.o];exact⟨rfl,(jA.o.trans h4).mono fe⟩
 ·have mM:Hid (r=xJ f R.l i (d+1)):=by show _=_;rw[HRR.o,CQ,if_neg U9]
  have hnb:xJ f R.l i (d+1)≠.out:=fun e=>f_.o (by rw[←HRR.o,mM.o,e]);have Lm:Hid (∀X,bD R X i (d+1)→Step (·=R.rb) w3 X→Calls Tryz.prog 126 #[.pointer (some ⟨w.heap.size,0,none⟩),.pointer (some ⟨bt,0,none⟩)] X (aY R (d+1) bt (DL X.heap.size bt) (xJ f R.l i (d+1)) X)):=fun X hX hs=>Om R f HIH.o hf w.heap.size bt X i (d+1) HL.o hX om (hs.keep yJ.o om) (hs.keep HB3.o om) om om hnb
  have Lr:d<40:=by omega
  cases hb:xJ f R.l i (d+1)with
  |out=>exact absurd hb hnb
  |err c ln col=>
   have HB:=ai hb;clear hb;refine(EC R _ [.pointer (some ⟨w.heap.size,0,none⟩),.pointer (some ⟨bt,0,none⟩)] w3 i d (Q:=fun X=>Step (fun k=>k=R.rb∨k=bt) w3 X) (hk:=yM) (h:=H3.o) (hd:=Lr) (hby:=fun X hX hs=> ?_) (es:=[{v:=.iface 184 (.agg #[af c,af ln,af col]),recovered:=false}])).mono ?_
   ·refine(Lm.o X hX hs).mono ?_;intro e X2 hp;rw[HB.o]at hp;exact⟨hp.1,(hs.mono il).trans hp.2⟩
   ·rintro e w4 ⟨rfl,h4⟩;refine⟨rfl,?_⟩;rw[mM.o,HB.o];exact⟨rfl,(jA.o.mono fe).then h4 oi⟩
  |ok a j=>
   have HB:=ai hb;clear hb;refine(I7 R _ [.pointer (some ⟨w.heap.size,0,none⟩),.pointer (some ⟨bt,0,none⟩)] w3 i d (fun i' X=>i'=j∧DL w3.heap.size bt X a∧Step (fun k=>k=R.rb∨k=bt) w3 X) yM H3.o Lr (fun X hX hs=> ?_)).mono ?_
   ·refine(Lm.o X hX hs).mono ?_;intro e X2 hp;rw[HB.o]at hp;obtain⟨he,⟨v,xs,hc,hrw,hts⟩,hr,hs2⟩:=hp;have hz:=hs.size;exact⟨he,j,hr,rfl,⟨v,xs,hc,hrw.mono oi,bU.mono oi _ _ hts⟩,(hs.mono il).trans hs2⟩
   ·rintro e w4 ⟨rfl,i',X,⟨rfl,⟨v,xs,hc,hrw,hts⟩,hsx⟩,hr4,hs4⟩;have hb4:=hs4.keep hc om;have hrw4:=hrw.step hs4 oi;have hts4:=bU.step hs4 oi _ _ hts;obtain⟨av,cv,rfl,-⟩:=id hrw4;have HR4:=ai hr4;have HRW:=ai hrw4;have U7:=ai hts4;have Ae:Hid (Step (fun k=>k=R.rb∨k=bt) w3 w4):=hsx.trans (hs4.mono il);have q0:=ah hb4 0 _ rfl;clear hc hrw hts hsx hr4 hs4 hb4 hrw4 hts4 p0;go_wp2_with fail;go_ret;rw[mM.o,HB.o];have hz3:=jA.o.size;refine⟨⟨_,rfl,xs,HRW.o.mono oi,bU.mono oi _ _ U7.o⟩,HR4.o,?_⟩;exact(jA.o.mono fe).then Ae.o oi
def Qn (n0 bt:Nat) (t:Tok) (w':World) (a:ByteArray×Ty×List Ex):Prop:=∃(ct xe:List Value) (ve:Value),w'.heap[bt]?=some (.cells ([Value.int .i64 1,aG a.1]++ct++[Value.slice none 0 0,ve,.slice none 0 0,.slice none 0 0,.bool false,.int .i64 t.line,.int .i64 t.col]).toArray 89 (0,0))∧
 a.1.size≤9223372036854775807∧dJ w' (fun k=>n0≤k) a.2.1 ct∧bF w' (fun k=>n0≤k) a.2.2 xe∧aS w' (fun k=>n0≤k) ve a.2.2.length xe
def Qo (f:Nat):Prop:=∀(R:h_) (w:World) (i d bt:Nat) (t:Tok),pF R.l→bD R w i d→d≤40→R.rb<bt→w.heap[bt]?=some (.cells #[af 0,aX,af 0,aX,aX,aT,aj,aj,af 0,af 0,aj,aj,aj,aj,aT,af t.line,af t.col] 89 (0,0))→rD f R.l i d≠.out→
 Calls Tryz.prog 143 #[.agg #[fM R.rb 0],.pointer (some ⟨bt,0,none⟩)] w (aY R d bt (Qn w.heap.size bt t) (rD f R.l i d) w)
theorem uP (w:World) (P:Nat→Prop):dJ w P dU [.int .i64 0,.string di,.string di,.bool false,.slice none 0 0,.slice none 0 0,.int .i64 0,.int .i64 0]:=by rw[dU,dJ];exact⟨_,_,[],rfl,by decide,by decide,oQ,aS.nil _ _ _,by rw[dM],aS.nil _ _ _⟩
theorem Vs (f:Nat) (ih:oz f):Qo (f+1):=by
 intro R w i d bt t hl h hd hrb hbt hno;have HL:=ai hl;have HEX:Hid (∀X j,bD R X j d→a_ f R.l j d 0≠.out→Calls Tryz.prog 40 #[.agg #[fM R.rb 0]] X (aJ R d (NE X.heap.size) (a_ f R.l j d 0) X)):=fun X j hX hn=>mO f ih R X j d hl hX hd hn;obtain⟨r,hr⟩:=bn (rD (f+1) R.l i d)
 have HRR:Hid (r=(bI R.l i).bind fun n j=>(if bH R.l j [58]then iZ f R.l (j+1) d else .ok dU j).bind fun ty j=>
  (if bH R.l j [61]then(a_ f R.l (j+1) d 0).bind fun x j=>.ok [x] j else .ok [] j).bind fun e j=>(aI R.l j [59]).bind fun _ j=>.ok (n,ty,e) j):=by show _=_;rw[hr,rD]
 rw[←hr]at hno⊢;have f_:=ai hno;have NV:=aC hbt;obtain⟨w1,hw1⟩:=bn (w.alloc (.cells #[fM R.rb 0] 75));have dF:=nS hw1
 have kG:=nB hw1
 have Gw:=ai (dF.o.keep hbt (fun h=>h));have HW1:=ai hw1;have H1:=ai (h.quiet dF.o);have hn1:=aC kG.o;have dh:Hid (∀X:World,Step (fun q=>q=R.rb∨q=bt) w1 X→X.cell? ⟨w.heap.size,0,none⟩=some (.pointer (some ⟨R.rb,0,none⟩))):=fun X hX=>ah (hX.keep kG.o om) 0 _ rfl
 have p0:=dh.o w1 bV;clear ih hl h hno hr hw1 hbt;go_enter Tryz.func143,Tryz.ntmps143;go_upto_region 1 with fail
 rw[←HW1.o];go_wp2_with fail;cases hn:bI R.l i with
 |out=>exact(iV hn).elim
 |err c ln col=>have HN:=ai hn;clear hn;refine(name_any R HL.o _ i d H1.o).mono ?_;rintro e wq hp;rw[HN.o]at hp;obtain⟨rfl,sq⟩:=hp;refine⟨rfl,aY.aW (c:=c) (ln:=ln) (col:=col) (by rw[HRR.o,HN.o];rfl) rfl ?_⟩;exact((dF.o.mono fe).trans sq).mono il
 |ok nm j=>
  have HN:=ai hn;have Vu:=ai (fU HL.o H1.o.lt hn);clear hn;refine(name_any R HL.o _ i d H1.o).mono ?_;rintro e w2 hp;rw[HN.o]at hp;obtain⟨⟨v,rfl,rfl⟩,hr2,s2⟩:=hp;have HR2:=ai hr2;have HS2:=ai s2;have rQ:=ai (s2.keep Gw.o om)
  have rF:Hid (r=(if bH R.l j [58]then iZ f R.l (j+1) d else .ok dU j).bind fun ty j=>
   (if bH R.l j [61]then(a_ f R.l (j+1) d 0).bind fun x j=>.ok [x] j else .ok [] j).bind fun e j=>(aI R.l j [59]).bind fun _ j=>.ok (nm,ty,e) j):=by show _=_;rw[HRR.o,HN.o];rfl
  have oq:=ah rQ.o 0 _ rfl;have ou:=aH rQ.o 0;have Gu:=ah rQ.o 1 _ rfl;have Gv:=aH rQ.o 1;obtain⟨w3,hw3⟩:=bn ((w2.setCell ⟨bt,0,none⟩ (.int .i64 1)).setCell ⟨bt,1,none⟩ (.string nm));have jA:Hid (Step (·=bt) w2 w3):=by rw[hw3];exact((Step.refl (·=bt) _).setCell _ _ jd).setCell _ _ jd
  have Lj:Hid (w3.heap[bt]?=some (.cells #[af 1,aG nm,af 0,aX,aX,aT,aj,aj,af 0,af 0,aj,aj,aj,aj,aT,af t.line,af t.col] 89 (0,0))):=by rw[hw3];exact aU (aU rQ.o 0 (.int .i64 1)) 1 (.string nm)
  have qf:Hid (Step (fun q=>q=R.rb∨q=bt) w1 w3):=(HS2.o.mono il).trans (jA.o.mono ir);have HR3:=ai (HR2.o.step jA.o oi);clear hr2 s2 p0;go_upto_region 2 with fail
  rw[←hw3];clear hw3 oq ou Gu Gv;have p0:=dh.o w3 qf.o;obtain⟨b1,hb1⟩:=bn (bH R.l j [58]);obtain⟨j1,hj1⟩:=bn (iw R.l j [58]);have HI1:Hid (Calls Tryz.prog 77 #[.pointer (some ⟨R.rb,0,none⟩),.string ⟨#[58]⟩] w3 fun e w'=>e=.returned (.bool b1)∧bD R w' j1 d∧Step (·=R.rb) w3 w'):=by rw[hb1,hj1];exact uj R HL.o ⟨#[58]⟩ w3 j d HR3.o dc
  have HB1:=ai hb1;have HJ1:=ai hj1;clear hb1 hj1;go_wp2_with fail;refine HI1.o.mono ?_;rintro e w4 ⟨rfl,hr4,h4⟩;have HR4:=ai hr4;have EI:Hid (Step (fun q=>q=R.rb∨q=bt) w1 w4):=qf.o.trans (h4.mono il);have rU:Hid (w4.heap[bt]?=some (.cells #[af 1,aG nm,af 0,aX,aX,aT,aj,aj,af 0,af 0,aj,aj,aj,aj,aT,af t.line,af t.col] 89 (0,0))):=h4.keep Lj.o om;clear hr4 h4 p0;have p0:=dh.o w4 EI.o;have hz1:=dF.o.size;go_upto_if 15 with fail
  go_cut [] (fun wx=>∃(ty:Ty) (jt:Nat) (ct:List Value),r=((if bH R.l jt [61]then(a_ f R.l (jt+1) d 0).bind fun x j=>.ok [x] j else .ok [] jt).bind fun e j=>(aI R.l j [59]).bind fun _ j=>.ok (nm,ty,e) j)∧dJ wx (fun q=>w.heap.size≤q) ty ct∧
   wx.heap[bt]?=some (.cells ([Value.int .i64 1,aG nm]++ct++[Value.slice none 0 0,.slice none 0 0,.slice none 0 0,.slice none 0 0,.bool false,.int .i64 t.line,.int .i64 t.col]).toArray 89 (0,0))∧bD R wx jt d∧Step (fun q=>q=R.rb∨q=bt) w1 wx)
  case first=>
   cases b1 with
   |false=>(have hj:j1=j:=by rw[HJ1.o,iw,←HB1.o,if_neg dc]);(have mM:Hid (r=((if bH R.l j1 [61]then(a_ f R.l (j1+1) d 0).bind fun x j=>.ok [x] j else .ok [] j1).bind fun e j=>(aI R.l j [59]).bind fun _ j=>.ok (nm,dU,e) j)):=by show _=_;rw[rF.o,←HB1.o,if_neg dc,hj];rfl);clear hj;go_wp2_with fail;go_meet;case rel=>exact⟨dU,j1,_,mM.o,uP _ _,rU.o,HR4.o,EI.o⟩
   |true=>
    (have hj:j1=j+1:=by rw[HJ1.o,iw,←HB1.o,if_pos rfl]);(have mM:Hid (r=(iZ f R.l j1 d).bind fun ty j=>(if bH R.l j [61]then(a_ f R.l (j+1) d 0).bind fun x j=>.ok [x] j else .ok [] j).bind fun e j=>(aI R.l j [59]).bind fun _ j=>.ok (nm,ty,e) j):=by show _=_;rw[rF.o,←HB1.o,if_pos rfl,hj]);clear hj;go_wp2_with fail;cases hx:iZ f R.l j1 d with
    |out=>exact absurd (by rw[mM.o,hx];rfl) f_.o
    |err c ln col=>have HX:=ai hx;clear hx;refine((DK f).1 R _ j1 d HL.o HR4.o hd (by rw[HX.o];intro h;cases h)).mono ?_;rintro e wq hp;rw[HX.o]at hp;obtain⟨rfl,sq⟩:=hp;refine⟨rfl,aY.aW (c:=c) (ln:=ln) (col:=col) (by rw[mM.o,HX.o];rfl) rfl ?_⟩;exact((dF.o.mono fe).trans EI.o).trans (sq.mono il)
    |ok ty jt=>
     have HX:=ai hx;clear hx;refine((DK f).1 R _ j1 d HL.o HR4.o hd (by rw[HX.o];intro h;cases h)).mono ?_;rintro e wx hp;rw[HX.o]at hp;obtain⟨⟨v,rfl,ct,rfl,hty⟩,hrx,hsx⟩:=hp;have Ad:=ai hty;have dL:=ai hty.one;obtain⟨k0,gZ,lf0,g_,a1,n1,c1,a2,n2,c2,l0,c0,rfl⟩:=hty.parts;have wP:=ai hrx;have qW:=ai hsx;have nI:=ai (hsx.keep rU.o om);(have Ho:Hid (r=((if bH R.l jt [61]then(a_ f R.l (jt+1) d 0).bind fun x j=>.ok [x] j else .ok [] jt).bind fun e j=>(aI R.l j [59]).bind fun _ j=>.ok (nm,ty,e) j)):=by show _=_;rw[mM.o,HX.o];rfl);have hz4:=EI.o.size;clear hty hrx hsx p0
     go_wp2_with (refine au (w:=wx) rfl 46 (.tmp 20) (.tmp 18) rfl bt 2 89 _ [.int .i64 k0,.string gZ,.string lf0,.bool g_,.slice a1 n1 c1,.slice a2 n2 c2,.int .i64 l0,.int .i64 c0] rfl rfl nI.o Tryz.cu (show 2+8≤17 by decide) dL.o ?_
                  intro w6 hb6 uw)
     have Hf:=ai hb6;have wX:=ai uw;clear hb6 uw;go_meet;case rel=>exact⟨ty,jt,[.int .i64 k0,.string gZ,.string lf0,.bool g_,.slice a1 n1 c1,.slice a2 n2 c2,.int .i64 l0,.int .i64 c0],Ho.o,dJ.mono oi _ _ (dJ.step wX.o oi _ _ Ad.o),Hf.o,wP.o.step wX.o oi,(EI.o.trans (qW.o.mono il)).trans (wX.o.mono ir)⟩
  case rest=>
   obtain⟨ty,jt,ct,LC,hty5,hb5,hrd5,hs5⟩:=hcut;obtain⟨w5,rfl⟩:=bn wc;obtain⟨k0,gZ,lf0,g_,a1,n1,c1,a2,n2,c2,l0,c0,rfl⟩:=hty5.parts;have YD:=ai LC;have HTY5:=ai hty5;have RS:Hid (w5.heap[bt]?=some (.cells #[af 1,aG nm,af k0,aG gZ,aG lf0,bC g_,.slice a1 n1 c1,.slice a2 n2 c2,af l0,af c0,aj,aj,aj,aj,aT,af t.line,af t.col] 89 (0,0))):=hb5;have HRD5:=ai hrd5;have HS15:=ai hs5;clear LC hty5 hb5 hrd5 hs5 p0;have p0:=dh.o w5 HS15.o;obtain⟨b2,hb2⟩:=bn (bH R.l jt [61]);obtain⟨j2,hj2⟩:=bn (iw R.l jt [61]);(have HI2:Hid (Calls Tryz.prog 77 #[.pointer (some ⟨R.rb,0,none⟩),.string ⟨#[61]⟩] w5 fun e w'=>e=.returned (.bool b2)∧bD R w' j2 d∧Step (·=R.rb) w5 w'):=by rw[hb2,hj2];exact uj R HL.o ⟨#[61]⟩ w5 jt d HRD5.o dc);have HB2:=ai hb2;have HJ2:=ai hj2;clear hb2 hj2;go_wp2_with fail;refine HI2.o.mono ?_;rintro e w6 ⟨rfl,qH,h6⟩;have Ah:=ai qH;have Vw:Hid (Step (fun q=>q=R.rb∨q=bt) w1 w6):=HS15.o.trans (h6.mono il);have yt:Hid (w6.heap[bt]?=some (.cells #[af 1,aG nm,af k0,aG gZ,aG lf0,bC g_,.slice a1 n1 c1,.slice a2 n2 c2,af l0,af c0,aj,aj,aj,aj,aT,af t.line,af t.col] 89 (0,0))):=h6.keep RS.o om;have HTY6:Hid (dJ w6 (fun q=>w.heap.size≤q) ty [.int .i64 k0,.string gZ,.string lf0,.bool g_,.slice a1 n1 c1,.slice a2 n2 c2,.int .i64 l0,.int .i64 c0]):=dJ.step h6 oi _ _ HTY5.o;clear qH h6 p0;have p0:=dh.o w6 Vw.o;go_upto_if 23 with fail
   go_cut [] (fun wx=>∃(el:List Ex) (je:Nat) (ae:Option Addr) (ce:Nat) (xe:List Value),r=((aI R.l je [59]).bind fun _ j=>.ok (nm,ty,el) j)∧dJ wx (fun q=>w.heap.size≤q) ty [.int .i64 k0,.string gZ,.string lf0,.bool g_,.slice a1 n1 c1,.slice a2 n2 c2,.int .i64 l0,.int .i64 c0]∧bF wx (fun q=>w.heap.size≤q) el xe∧aS wx (fun q=>w.heap.size≤q) (.slice ae el.length ce) el.length xe∧
    wx.heap[bt]?=some (.cells #[af 1,aG nm,af k0,aG gZ,aG lf0,bC g_,.slice a1 n1 c1,.slice a2 n2 c2,af l0,af c0,aj,.slice ae el.length ce,aj,aj,aT,af t.line,af t.col] 89 (0,0))∧bD R wx je d∧Step (fun q=>q=R.rb∨q=bt) w1 wx)
   case first=>
    cases b2 with
    |false=>(have hj:j2=jt:=by rw[HJ2.o,iw,←HB2.o,if_neg dc]);(have mM:Hid (r=((aI R.l j2 [59]).bind fun _ j=>.ok (nm,ty,[]) j)):=by show _=_;rw[YD.o,←HB2.o,if_neg dc,hj];rfl);clear hj;go_wp2_with fail;go_meet;case rel=>exact⟨[],j2,none,0,[],mM.o,HTY6.o,by rw[bF],aS.nil _ _ _,yt.o,Ah.o,Vw.o⟩
    |true=>
     (have hj:j2=jt+1:=by rw[HJ2.o,iw,←HB2.o,if_pos rfl]);(have mM:Hid (r=(a_ f R.l j2 d 0).bind fun x j=>(aI R.l j [59]).bind fun _ j=>.ok (nm,ty,[x]) j):=by show _=_;rw[YD.o,←HB2.o,if_pos rfl,hj];cases a_ f R.l (jt+1) d 0<;>rfl);clear hj;go_wp2_with fail;cases hx:a_ f R.l j2 d 0 with
     |out=>exact absurd (by rw[mM.o,hx];rfl) f_.o
     |err c ln col=>have HX:=ai hx;clear hx;refine(HEX.o _ j2 Ah.o (by rw[HX.o];intro h;cases h)).mono ?_;rintro e wq hp;rw[HX.o]at hp;obtain⟨rfl,sq⟩:=hp;refine⟨rfl,aY.aW (c:=c) (ln:=ln) (col:=col) (by rw[mM.o,HX.o];rfl) rfl ?_⟩;exact((dF.o.mono fe).trans Vw.o).trans (sq.mono il)
     |ok x jx=>have HX:=ai hx;clear hx;refine(HEX.o _ j2 Ah.o (by rw[HX.o];intro h;cases h)).mono ?_;rintro e wx hp;rw[HX.o]at hp;obtain⟨⟨v,rfl,cs,rfl,hy⟩,hrx,hsx⟩:=hp;have HY:=ai hy;obtain⟨k5,nm5,v5,NF,b1,m1,d1,b2,m2,d2,b3,m3,d3,l5,c5,rfl⟩:=hy.parts;have wP:=ai hrx;have qW:=ai hsx;(have Ho:Hid (r=((aI R.l jx [59]).bind fun _ j=>.ok (nm,ty,[x]) j)):=by show _=_;rw[mM.o,HX.o];rfl);obtain⟨w7,hw7⟩:=bn (wx.alloc (.cells #[af k5,aG nm5,bf v5,bC NF,.slice b1 m1 d1,.slice b2 m2 d2,.slice b3 m3 d3,af l5,af c5] 56));(have Y5:Hid (jP wx w7):=by rw[hw7];exact bV.alloc _);(have HK7:Hid (w7.heap[wx.heap.size]?=some (.cells #[af k5,aG nm5,bf v5,bC NF,.slice b1 m1 d1,.slice b2 m2 d2,.slice b3 m3 d3,af l5,af c5] 56 (0,0))):=by rw[hw7];exact aB _ _);have Y6:=Y5.o.keep (qW.o.keep yt.o om) (fun h=>h);have Oq:=ah Y6 11 _ rfl;have Ot:=aH Y6 11;have hz6:=Vw.o.size;have hzx:=qW.o.size;obtain⟨w8,hw8⟩:=bn (w7.setCell ⟨bt,11,none⟩ (.slice (some ⟨wx.heap.size,0,none⟩) 1 1));(have HS8:Hid (Step (·=bt) w7 w8):=by rw[hw8];exact bV.setCell _ _ jd);(have HBT8:Hid (w8.heap[bt]?=some (.cells #[af 1,aG nm,af k0,aG gZ,aG lf0,bC g_,.slice a1 n1 c1,.slice a2 n2 c2,af l0,af c0,aj,.slice (some ⟨wx.heap.size,0,none⟩) 1 1,aj,aj,aT,af t.line,af t.col] 89 (0,0))):=by rw[hw8];exact aU Y6 11 _);have HK8:=ai (HS8.o.keep HK7.o om);rw[hw7]at Oq Ot;clear Y6 hy hrx hsx p0;go_wp2_with fail;rw[←hw7,←hw8];clear Oq Ot hw7 hw8;have hs68:Step (fun q=>q=R.rb∨q=bt) wx w8:=(Y5.o.mono fe).trans (HS8.o.mono ir);have hs66:Step (fun q=>q=R.rb∨q=bt) w6 w8:=(qW.o.mono il).trans hs68;go_meet;case rel=>exact⟨[x],jx,_,1,[.int .i64 k5,.string nm5,.int .u64 v5,.bool NF,.slice b1 m1 d1,.slice b2 m2 d2,.slice b3 m3 d3,.int .i64 l5,.int .i64 c5],Ho.o,dJ.step hs66 oi _ _ HTY6.o,bF.single (cZ.mono oi _ _ (cZ.step hs68 oi _ _ HY.o)),aS.new HK8.o (by simp) om,HBT8.o,(wP.o.quiet Y5.o).step HS8.o oi,Vw.o.trans hs66⟩
   case rest=>
    obtain⟨el,je,ae,ce,xe,hr7,hty7,hex7,hrw7,hb7,hrd7,hs7⟩:=hcut;obtain⟨w7,rfl⟩:=bn wc;have HR7:=ai hr7;have HTY7:=ai hty7;have HEX7:=ai hex7;have HRW7:=ai hrw7;have HBT7:=ai hb7;have HRD7:=ai hrd7;have HS17:=ai hs7;clear hr7 hty7 hex7 hrw7 hb7 hrd7 hs7 p0;have p0:=dh.o w7 HS17.o;go_wp2_with fail;refine(dO R HL.o w7.heap.size ⟨#[59]⟩ _ je d (HRD7.o.quiet (bV.alloc _)) dc (ah (aB _ _) 0 _ rfl)).mono ?_;rintro e w8 hp;have hp2:aJ R d iR (aI R.l je [59]) _ e w8:=hp;cases hn:aI R.l je [59]with
    |out=>exact(dH hn).elim
    |err c ln col=>rw[hn]at hp2;obtain⟨rfl,s8⟩:=hp2;refine⟨rfl,aY.aW (c:=c) (ln:=ln) (col:=col) (by rw[HR7.o,hn];rfl) rfl ?_⟩;exact((dF.o.mono fe).trans HS17.o).trans ((((Step.refl (·=R.rb) _).alloc _).trans s8).mono il)
    |ok u j8=>have HN8:=ai hn;rw[hn]at hp2;obtain⟨⟨v,rfl,rfl⟩,vJ,s8⟩:=hp2;have HR8:=ai vJ;have Vx:Hid (Step (·=R.rb) w7 w8):=((Step.refl (·=R.rb) _).alloc _).trans s8;clear hn vJ s8 p0 hp;go_wp2_with fail;refine bodyPost_end (results_none rfl _ _ _) rfl ?_;refine aY.dQ (a:=(nm,ty,el)) (j:=j8) (by rw[HR7.o,HN8.o];rfl) rfl ⟨[.int .i64 k0,.string gZ,.string lf0,.bool g_,.slice a1 n1 c1,.slice a2 n2 c2,.int .i64 l0,.int .i64 c0],xe,_,Vx.o.keep HBT7.o om,Vu.o,dJ.step Vx.o oi _ _ HTY7.o,bF.step Vx.o oi _ _ HEX7.o,HRW7.o.step Vx.o oi⟩ HR8.o (((dF.o.mono fe).trans HS17.o).trans (Vx.o.mono il))
end Go.Proofs.YtggjfinekcenpaaGreat
