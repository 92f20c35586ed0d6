import Derived.Test.YtggjfinekcenpaaGreatPkI
set_option maxRecDepth 100000
set_option maxHeartbeats 80000000
namespace Go.Proofs.YtggjfinekcenpaaGreat
open Go.RowKit
theorem ilQ {p:Prop} (h:p:=by exact fun _ _ e=>.inl e):p:=h
open Vt
theorem Wx (w:World) (base t size:Nat) (cs:List Value) (h:cs.length=size) (hb:base≤w.heap.size):(w.alloc (.cells cs.toArray t)).ownsRow base t size (.slice (some ⟨w.heap.size,0,none⟩) 1 1) 1 cs:=
 ⟨by omega,.inr ⟨w.heap.size,1,cs.toArray,rfl,hb,aB _ _,Nat.le_refl _,by unfold maxLen;omega,by simp[h],by simp[←h]⟩⟩
theorem H7:∀(f:Nat) (l:List Tok) (i d:Nat) (acc al:List Ex) (k:Nat),kY f l i d acc=.ok al k→al.length≤8
 |0,l,i,d,acc,al,k,h=>by rw[kY]at h;cases h
 |f+1,l,i,d,acc,al,k,h=>by
  rw[kY]at h
  by_cases h8:8≤acc.length
  ·
   rw[eH,if_pos h8]at h;cases h
  ·
   rw[eH,if_neg h8,dB.bind_ok]at h
   cases hx:a_ f l i d 0 with
   |out=>rw[hx]at h;cases h
   |err c ln col=>rw[hx]at h;cases h
   |ok x j=>
    rw[hx,dB.bind_ok]at h
    split at h
    ·
     exact H7 f l (j+1) d _ al k h
    ·
     cases hn:aI l j [41]with
     |out=>rw[hn]at h;cases h
     |err c ln col=>rw[hn]at h;cases h
     |ok u j2=>rw[hn,dB.bind_ok]at h;cases h;simp;omega
theorem Tf (f:Nat) (l:List Tok) (i d:Nat) (al:List Ex) (k:Nat) (h:jE f l i d=.ok al k):al.length≤8:=by
 cases f with
 |zero=>rw[jE]at h;cases h
 |succ f=>
  rw[jE]at h;split at h
  ·cases h;simp
  ·exact H7 f l i d [] al k h
structure PoJ (R:h_) (j1 d bx bp bq:Nat) (w6:World) (nm:ByteArray) (tl tc:Int) (xc:List Value) (x:Ex) (PX:Nat→Prop) (r1:dB (List Ex)) (L:Nat→Bool) (V:Nat→Value) (X:World):Prop where
 p0:L 0=true→V 0=.string nm
 p1:L 1=true→V 1=.agg xc.toArray
 p2:L 2=true→L 5=false→True∧X.ownsRow w6.heap.size 56 9 (V 2) 1 xc
 p3:L 3=true→V 3=.agg #[fM R.rb 0]
 p4:L 4=true→L 5=false→∃l k xs,r1=.ok l k∧aS X (fun q=>w6.heap.size≤q) (V 4) l.length xs∧bF X (fun q=>w6.heap.size≤q∧(L 2=true→(V 2).ownBlock≠some q)) l xs
 p5:L 5=true→∃l k c a,r1=.ok l k∧V 5=.slice a (1+l.length) c∧iW X PX (x::l) (V 5)
 p6:L 6=true→V 6=.agg #[af tl,af tc]
 p7:L 7=true→V 7=.agg #[af 13,aG nm,bf 0,aT,V 5,aj,aj,af tl,af tc]
 rd:∃i,bD R X i d∧cond (L 4) (∃l,r1=.ok l i) (i=j1)
 st:Step (fun q=>q=R.rb∨q=bx) w6 X
 x0:L 8=false→X.heap[bx]?=some (.cells xc.toArray 56 (0,0))
 x1:L 8=true→X.heap[bx]?=some (.cells #[af 13,aG nm,bf 0,aT,V 5,aj,aj,af tl,af tc] 56 (0,0))
 KE:X.cell? ⟨bp,0,none⟩=some (.pointer (some ⟨R.rb,0,none⟩))
 GI:X.heap[bq]?=some (.cells #[af tl,af tc] 25 (0,0))
 ex:cZ X (fun q=>PX q∧q<w6.heap.size) x xc
 q2:L 2=true→L 1=true
 q5:L 5=true→L 2=true∧L 4=true
 q7:L 7=true→L 0=true∧L 5=true∧L 6=true
 q8:L 8=true→L 1=true∧L 7=true
theorem Ti (f:Nat) (ihP:Ob f) (ihI:∀f',f'<f→EG f'):Jb (f+1):=by
 intro R w i d hl h hd hno;have HL:=ai hl;have H0:=ai h;have IHP:=ai ihP;have IHI:=ai ihI;obtain⟨r,hr⟩:=bn (mJ (f+1) R.l i d);have HRR:Hid (r=(kR f R.l i d).bind fun x j=>jV f R.l j d x):=by show _=_;rw[hr,mJ]
 rw[←hr]at hno⊢;have f_:=ai hno;have vK:=aC h.blk;obtain⟨i0,hi0,hz0,hz1,hz2⟩:=info_parts Tryz.EH;have HI:=ai hi0;have HZ0:=ai hz0;have HZ1:=ai hz1;have HZ2:=ai hz2;obtain⟨w1,hw1⟩:=bn ((w.alloc (.cells #[fM R.rb 0] 75)).alloc (.cells #[af 0,bW,bf 0,aT,aj,aj,aj,af 0,af 0] 56));have dF:=nT hw1
 have kG:=nC hw1
 have lm:=nD hw1
 have HW1:=ai hw1;have H1:=ai (h.quiet dF.o);have hn1:=aC lm.o;have p0:w1.cell? ⟨w.heap.size,0,none⟩=some (.pointer (some ⟨R.rb,0,none⟩)):=ah kG.o 0 _ rfl;clear ihP ihI hl h hno hr hw1 hi0 hz0 hz1 hz2;go_enter Tryz.func132,Tryz.ntmps132;go_upto_region 1 with fail
 rw[←HW1.o];go_wp2_with fail;refine(IHP.o R w1 i d HL.o H1.o hd (fun e=>f_.o (by rw[HRR.o,e];rfl))).mono ?_;rintro e wx hp;have hp2:aJ R d (NE w1.heap.size) (kR f R.l i d) _ e wx:=hp;cases hx:kR f R.l i d with
 |out=>exact absurd (by rw[HRR.o,hx];rfl) f_.o
 |err c ln col=>rw[hx]at hp2;obtain⟨rfl,sq⟩:=hp2;exact⟨rfl,aJ.aW c ln col (by rw[HRR.o,hx];rfl) rfl ((dF.o.mono fe).trans sq)⟩
 |ok x jx=>
  have HX:=ai hx;rw[hx]at hp2;obtain⟨⟨v,rfl,cs,rfl,hy⟩,hrx,hsx⟩:=hp2;have HY:=ai hy;obtain⟨k0,gZ,v0,g_,a1,n1,c1,a2,n2,c2,a3,n3,c3,l0,c0,rfl⟩:=hy.parts;have wP:=ai hrx;have qW:Hid (Step (·=R.rb) w1 wx):=hsx;have HR3:Hid (r=jV f R.l jx d x):=by show _=_;rw[HRR.o,HX.o];rfl
  have hzx:=hsx.size;obtain⟨w3,hw3⟩:=bn (wx.alloc (.cells #[af k0,aG gZ,bf v0,bC g_,.slice a1 n1 c1,.slice a2 n2 c2,.slice a3 n3 c3,af l0,af c0] 56));have jA:=nS hw3
  have HB3:=nB hw3
  have qf:Hid (Step (·=R.rb) w1 w3):=qW.o.trans (jA.o.mono fe);have HW3:=ai hw3;clear hx hp hy hrx hsx p0 hw3;have hxb:=aC HB3.o;have hz3:=jA.o.size;have HEX3:Hid (cZ w3 (fun q=>w1.heap.size≤q∧q≠wx.heap.size) x [.int .i64 k0,.string gZ,.int .u64 v0,.bool g_,.slice a1 n1 c1,.slice a2 n2 c2,.slice a3 n3 c3,.int .i64 l0,.int .i64 c0]):=cZ.step jA.o (fun _ _ h=>h) _ _ (cZ.mono (fun q hq hh=>⟨by omega,by omega⟩) _ _ HY.o);have Vp:Hid (Aj R w1 w3 wx.heap.size d w3 jx x [.int .i64 k0,.string gZ,.int .u64 v0,.bool g_,.slice a1 n1 c1,.slice a2 n2 c2,.slice a3 n3 c3,.int .i64 l0,.int .i64 c0]):=⟨wP.o.quiet jA.o,HB3.o,HEX3.o,Step.refl _ _⟩;go_upto_block 0 with fail
  rw[←HW3.o];obtain⟨bx,hbx⟩:=bn wx.heap.size;rw[←hbx]at Vp hxb⊢;have hbx1:w1.heap.size≤bx:=by omega
  have yJ:=ai (qf.o.keep kG.o om);have wW:=ai (qf.o.keep lm.o om);have SB:Hid (∀X:World,Step (fun q=>q=R.rb∨q=bx) w3 X→X.cell? ⟨w.heap.size,0,none⟩=some (.pointer (some ⟨R.rb,0,none⟩))∧X.heap[w.heap.size+1]?=some (.cells #[af 0,bW,bf 0,aT,aj,aj,aj,af 0,af 0] 56 (0,0))):=fun X hX=>⟨ah (hX.keep yJ.o om) 0 _ rfl,hX.keep wW.o om⟩
  have xI:Hid (Step (·=R.rb) w w3):=(dF.o.mono fe).trans qf.o;have gI:Hid (∀X:World,Step (fun q=>q=R.rb∨q=bx) w3 X→Step (·=R.rb) w X):=fun X hX=>xI.o.then hX oi
  clear hbx;go_wp2_with fail;go_loopg [5] f (fun gg s5 wr=>gg≤f∧∃(i':Nat) (x:Ex) (cs:List Value),r=jV gg R.l i' d x∧Aj R w1 w3 bx d wr i' x cs);case atStart=>exact⟨Nat.le_refl _,jx,x,_,HR3.o,Vp.o⟩
  case round=>
   obtain⟨hgf,i',x,cs,hrq,hst⟩:=hrel;obtain⟨gn,rfl⟩:∃gn,gk=gn+1:=by
    cases gk with
    |zero=>exact absurd hrq (by rw[jV];exact f_.o)
    |succ gn=>exact⟨gn,rfl⟩
   obtain⟨k0,gZ,v0,g_,a1,n1,c1,a2,n2,c2,a3,n3,c3,l0,c0,rfl⟩:=hst.ex.parts;have HST:=ai hst;obtain⟨p0,-⟩:=SB.o wr hst.st;obtain⟨tk,htk⟩:=bn (tokA R.l i');(have HRQ:Hid (r=if bH R.l i' [46]then(bI R.l (i'+1)).bind fun n j=>if bH R.l j [40]then(jE gn R.l (j+1) d).bind fun al j=>jV gn R.l j d (aZ 13 n 0 false (x::al) [] [] tk)else jV gn R.l j d (aZ 6 n 0 false [x] [] [] tk)else .ok x i'):=by show _=_;rw[hrq,jV,htk]);have HAT:=ai (at_at R wr i' d tk hst.rd (by rw[htk];exact hst.rd.tok));clear hrq hst htk;(go_upto_region 2 with fail);go_wp2_with fail;refine HAT.o.mono ?_;rintro e w4 ⟨rfl,h4⟩;have fP:=ai (HST.o.quiet h4);obtain⟨w5,hw5⟩:=bn (w4.alloc (.cells #[af tk.line,af tk.col] 25));(have um:Hid (jP w4 w5):=by rw[hw5];exact bV.alloc _);(have HQ5:Hid (w5.heap[w4.heap.size]?=some (.cells #[af tk.line,af tk.col] 25 (0,0))):=by rw[hw5];exact aB _ _);have nJ:=ai (fP.o.quiet um.o);have hz4:=fP.o.st.size;have hz5:=um.o.size;have Y0:=ai hw5;clear h4 hw5 p0;obtain⟨p0,-⟩:=SB.o w5 nJ.o.st;(go_upto_region 3 with fail);rw[←Y0.o];go_wp2_with fail;cases hb:bH R.l i' [46]with
   |false=>
    have HB:=ai hb;clear hb;refine(dX R HL.o ⟨#[46]⟩ _ i' d nJ.o.rd dc HB.o).mono ?_;rintro e w6 ⟨rfl,qH,h6⟩;have fH:=ai (nJ.o.read om om qH h6);(have lJ:=ai (HRQ.o.trans (yR HB.o)));have dL:=ai fH.o.ex.one;(have bY:Hid (∀(jj:Nat) v,[Value.int .i64 k0,aG gZ,bf v0,bC g_,.slice a1 n1 c1,.slice a2 n2 c2,.slice a3 n3 c3,af l0,af c0][jj]?=some v→w6.cell? ⟨bx,0+jj,none⟩=some v):=by intro jj v hv;rw[Nat.zero_add];exact ah fH.o.blk jj v qE);have qA:=ai (SB.o w6 fH.o.st).2;clear qH h6 p0;go_wp2_with (first
     |(refine ay rfl 56 (.tmp 3) rfl bx 0 rfl [.int .i64 k0,.string gZ,.int .u64 v0,.bool g_,.slice a1 n1 c1,.slice a2 n2 c2,.slice a3 n3 c3,.int .i64 l0,.int .i64 c0] _ bY.o Tryz.underlying56 rfl Tryz.aK ?_)
     |(refine au (w:=w6) rfl 56 (.tmp 2) (.tmp 15) rfl (w.heap.size+1) 0 56 _ [.int .i64 k0,.string gZ,.int .u64 v0,.bool g_,.slice a1 n1 c1,.slice a2 n2 c2,.slice a3 n3 c3,.int .i64 l0,.int .i64 c0] rfl rfl qA.o Tryz.aK (Nat.le_of_eq rfl) dL.o ?_;intro w7 hb7 y8))
    have hb7':w7.heap[w.heap.size+1]?=some (.cells [Value.int .i64 k0,aG gZ,bf v0,bC g_,.slice a1 n1 c1,.slice a2 n2 c2,.slice a3 n3 c3,af l0,af c0].toArray 56 (0,0)):=hb7;refine bodyPost_ret (aV rfl _ (w.heap.size+1) 56 _ _ rfl hb7' Tryz.underlying56 rfl Tryz.aK) rfl ?_;have hz1:=dF.o.size;refine aJ.dQ lJ.o rfl ⟨_,rfl,cZ.mono (fun q _ hq=>by have:=hq.1;omega) _ _ (cZ.step y8 (fun q hq e=>by have:=hq.1;omega) _ _ fH.o.ex)⟩ (fH.o.rd.step y8 oi) ?_;exact(gI.o _ fH.o.st).then y8 oi
   |true=>
    have HB:=ai hb;clear hb;refine(dw R HL.o ⟨#[46]⟩ _ i' d nJ.o.rd dc HB.o).mono ?_;rintro e w6 ⟨rfl,qH,h6⟩;have fH:=ai (nJ.o.read om om qH h6);have HQ6:=ai (h6.keep HQ5.o om);(have rF:=ai (HRQ.o.trans (if_pos HB.o)));clear qH h6 p0;obtain⟨p0,-⟩:=SB.o w6 fH.o.st;go_wp2_with fail;refine(name_any R HL.o _ (i'+1) d fH.o.rd).mono ?_;rintro e w7 hp;have hp2:aJ R d Gt (bI R.l (i'+1)) _ e w7:=hp;cases hn:bI R.l (i'+1)with
    |out=>exact(iV hn).elim
    |err c ln col=>rw[hn]at hp2;obtain⟨rfl,hs⟩:=hp2;exact⟨rfl,aJ.aW c ln col (by rw[rF.o,hn];rfl) rfl (gI.o _ (fH.o.st.trans (hs.mono ilQ)))⟩
    |ok nm j=>
     have HN:=ai hn;have Vu:=ai (fU HL.o fH.o.rd.lt hn);rw[hn]at hp2;obtain⟨⟨v,rfl,rfl⟩,hr,hs⟩:=hp2;have uq:=ai (fH.o.read om om hr hs);have HQ7:=ai (hs.keep HQ6.o om);(have mM:Hid (r=if bH R.l j [40]then(jE gn R.l (j+1) d).bind fun al j=>jV gn R.l j d (aZ 13 nm 0 false (x::al) [] [] tk)else jV gn R.l j d (aZ 6 nm 0 false [x] [] [] tk)):=by show _=_;rw[rF.o,HN.o];rfl);clear hn hr hs hp p0;obtain⟨p0,-⟩:=SB.o w7 uq.o.st;go_wp2_with fail;cases hb:bH R.l j [40]with
     |false=>
      have HC:=ai hb;clear hb;refine(dX R HL.o ⟨#[40]⟩ _ j d uq.o.rd dc HC.o).mono ?_;rintro e w8 ⟨rfl,vJ,h8⟩;have ku:=ai (uq.o.read om om vJ h8);have HQ8:=ai (h8.keep HQ7.o om);(have lJ:=ai (mM.o.trans (yR HC.o)));(have bY:Hid (∀(jj:Nat) v,[Value.int .i64 k0,aG gZ,bf v0,bC g_,.slice a1 n1 c1,.slice a2 n2 c2,.slice a3 n3 c3,af l0,af c0][jj]?=some v→w8.cell? ⟨bx,0+jj,none⟩=some v):=by intro jj v hv;rw[Nat.zero_add];exact ah ku.o.blk jj v qE);obtain⟨w9,VA⟩:=bn (w8.alloc (.cells #[af k0,aG gZ,bf v0,bC g_,.slice a1 n1 c1,.slice a2 n2 c2,.slice a3 n3 c3,af l0,af c0] 56));(have HS9:Hid (jP w8 w9):=by rw[VA];exact bV.alloc _);(have HG9:Hid (w9.heap[w8.heap.size]?=some (.cells #[af k0,aG gZ,bf v0,bC g_,.slice a1 n1 c1,.slice a2 n2 c2,.slice a3 n3 c3,af l0,af c0] 56 (0,0))):=by rw[VA];exact aB _ _);have iF:=ai (ku.o.quiet HS9.o);have Y7:Hid (w8.alloc (.cells #[af k0,aG gZ,bf v0,bC g_,.slice a1 n1 c1,.slice a2 n2 c2,.slice a3 n3 c3,af l0,af c0] 56)=w9):=VA.symm;have hq:=HS9.o.keep HQ8.o (fun h=>h);have q0:=ah hq 0 _ rfl;have q1:=ah hq 1 _ rfl;rw[VA]at q0 q1;have HON:Hid (∀u∈[Value.int .i64 6,aG nm,bf 0,aT,.slice (some ⟨w8.heap.size,0,none⟩) 1 1,aj,aj,af tk.line,af tk.col],u.oneCell'=true):=aP rfl;have hg9:=aC HG9.o;have hz8:=ku.o.st.size;clear vJ h8 p0 VA hq;go_wp2_with (first
       |(refine ay rfl 56 (.tmp 3) rfl bx 0 rfl [.int .i64 k0,.string gZ,.int .u64 v0,.bool g_,.slice a1 n1 c1,.slice a2 n2 c2,.slice a3 n3 c3,.int .i64 l0,.int .i64 c0] _ bY.o Tryz.underlying56 rfl Tryz.aK ?_)
       |(rw[Y7.o];refine au (w:=w9) rfl 56 (.tmp 3) (.tmp 27) rfl bx 0 56 _ [.int .i64 6,.string nm,.int .u64 0,.bool false,.slice (some ⟨w8.heap.size,0,none⟩) 1 1,.slice none 0 0,.slice none 0 0,.int .i64 tk.line,.int .i64 tk.col] rfl rfl iF.o.blk Tryz.aK (Nat.le_of_eq rfl) HON.o ?_;intro wa hba hsa))
      have hba':wa.heap[bx]?=some (.cells [Value.int .i64 6,aG nm,bf 0,aT,.slice (some ⟨w8.heap.size,0,none⟩) 1 1,aj,aj,af tk.line,af tk.col].toArray 56 (0,0)):=hba;(have lI:Hid (Aj R w1 w3 bx d wa j (aZ 6 nm 0 false [x] [] [] tk) [.int .i64 6,.string nm,.int .u64 0,.bool false,.slice (some ⟨w8.heap.size,0,none⟩) 1 1,.slice none 0 0,.slice none 0 0,.int .i64 tk.line,.int .i64 tk.col]):=by refine⟨iF.o.rd.step hsa oi,hba',?_,iF.o.st.trans (hsa.mono ir)⟩;exact Ar.mk Vu.o (iW.single (cZ.step hsa (fun q hq e=>hq.2 e) _ _ iF.o.ex) (hsa.keep HG9.o om) ⟨by omega,by omega⟩) (fJ.nil _ _) (iL.nil _ _));clear hba hba' hsa q0 q1;(try go_wp2_with fail);go_roundg gn;case rel=>exact⟨by omega,j,_,_,lJ.o,lI.o⟩
      case measure=>omega
     |true=>
      have HC:=ai hb;clear hb;refine(dw R HL.o ⟨#[40]⟩ _ j d uq.o.rd dc HC.o).mono ?_;rintro e w8 ⟨rfl,vJ,h8⟩;have ku:=ai (uq.o.read om om vJ h8);have HQ8:=ai (h8.keep HQ7.o om);(have lJ:=ai (mM.o.trans (if_pos HC.o)));obtain⟨p0,-⟩:=SB.o w8 ku.o.st;have hz8:=ku.o.st.size;have hqlt:=aC HQ8.o;have hblt:=aC ku.o.blk;obtain⟨r1,hr1⟩:=bn (jE gn R.l (j+1) d);have HR1:=ai hr1;(have HRE2:Hid (r=r1.bind fun al j=>jV gn R.l j d (aZ 13 nm 0 false (x::al) [] [] tk)):=by show _=_;rw[lJ.o,hr1]);(have zH:Hid (r1≠.out):=by show _≠_;intro e;exact f_.o (by rw[HRE2.o,e];rfl));(have HFEW:Hid (∀l k,r1=.ok l k→l.length≤8):=by intro l k e;exact Tf gn R.l (j+1) d l k (by rw[←HR1.o];exact e));(have xH:Hid (∀X,bD R X (j+1) d→Calls Tryz.prog 148 #[.agg #[fM R.rb 0]] X (aJ R d (Sl X.heap.size) r1 X)):=by intro X hX;rw[HR1.o];exact IHI.o gn om R X (j+1) d HL.o hX hd (by rw[←HR1.o];exact zH.o));obtain⟨PX,hPX⟩:∃PX:Nat→Prop,PX=fun q=>w1.heap.size≤q∧q≠bx:=⟨_,rfl⟩;have Hl:=ai hPX;(have HPX6:Hid (∀q,w8.heap.size≤q→PX q):=by intro q hq;rw[hPX];exact⟨by omega,by omega⟩);(have YE:Hid (∀q,PX q→q≠R.rb∧q≠bx):=by intro q hq;rw[hPX]at hq;exact⟨by have:=hq.1;omega,hq.2⟩);obtain⟨Jx,hJx⟩:=bn (PoJ R (j+1) d bx w.heap.size w4.heap.size w8 nm tk.line tk.col [.int .i64 k0,.string gZ,.int .u64 v0,.bool g_,.slice a1 n1 c1,.slice a2 n2 c2,.slice a3 n3 c3,.int .i64 l0,.int .i64 c0] x PX r1);have dV:=ai hJx;(have HZ8:Hid (∀V,Jx (fun _=>false) V w8.drew):=by intro V;have hs:jP w8 w8.drew:=bV.drew;rw[hJx];exact⟨lW,lW,lW,lW,lW,lW,lW,lW,⟨_,ku.o.rd.quiet hs,rfl⟩,hs.mono fe,fun _=>hs.keep ku.o.blk (fun h=>h),lW,hs.cell p0 (fun h=>h),hs.keep HQ8.o (fun h=>h),cZ.step hs (fun _ _ h=>h) _ _ (cZ.mono (fun q h7 h8=>⟨by rw[hPX];exact h8,h7⟩) _ _ ku.o.ex),lW,lW,lW,lW⟩);clear vJ h8 p0 hJx hPX hr1;(go_upto_region 8 with fail);refine bG kr Jx 9 rfl kr kr kr kr ?h0 ?hs ?hdone;case h0=>exact HZ8.o _
      case hs=>
       refine⟨?_,?_,?_,?_,?_,?_,?_,?_,?_,trivial⟩
       all_goals (intro L V X a ev gJ hdf hL ak hJ;rw[dV.o]at hJ)
       ·have o5:=gJ 5 rfl;change a.tmps[5]?.getD undef=.string nm at o5;have h7:L 7=false:=by
         cases e:L 7 with
         |false=>rfl
         |true=>exact absurd ((hJ.q7 e).1) (by rw[hL];decide)
        have h8:L 8=false:=by
         cases e:L 8 with
         |false=>rfl
         |true=>exact absurd ((hJ.q8 e).2) (by rw[h7];decide)
        go_simp;exact⟨_,rfl,by rw[dV.o];exact{hJ with p0:=fun _=>rfl,q7:=fun e=>absurd (show L 7=true from e) (by rw[h7];decide)}⟩
       ·have o3:=gJ 3 rfl;change a.tmps[3]?.getD undef=.pointer (some ⟨bx,0,none⟩)at o3;have h2:L 2=false:=by
         cases e:L 2 with
         |false=>rfl
         |true=>exact absurd (hJ.q2 e) (by rw[hL];decide)
        have h8:L 8=false:=by
         cases e:L 8 with
         |false=>rfl
         |true=>exact absurd (hJ.q8 e).1 (by rw[hL];decide)
        have hb:=hJ.x0 h8;refine wp_load_mid 56 (.tmp 3) rfl bx 0 (by rw[bK];exact o3) [.int .i64 k0,.string gZ,.int .u64 v0,.bool g_,.slice a1 n1 c1,.slice a2 n2 c2,.slice a3 n3 c3,.int .i64 l0,.int .i64 c0] _ (fun jj v hv=>by rw[Nat.zero_add];exact ah hb jj v qE) Tryz.underlying56 rfl Tryz.aK ?_;exact⟨_,rfl,by rw[dV.o];exact{hJ with p1:=fun _=>rfl,q2:=fun e=>absurd (show L 2=true from e) (by rw[h2];decide),q8:=fun e=>absurd (show L 8=true from e) (by rw[h8];decide)}⟩
       ·have e29:=(ev 1 29 rfl (ak 1 rfl)).trans (hJ.p1 (ak 1 rfl));have h5:L 5=false:=by
         cases e:L 5 with
         |false=>rfl
         |true=>exact absurd (hJ.q5 e).1 (by rw[hL];decide)
        have hs:jP X (X.alloc (.cells #[af k0,aG gZ,bf v0,bC g_,.slice a1 n1 c1,.slice a2 n2 c2,.slice a3 n3 c3,af l0,af c0] 56)):=bV.alloc _;have h48:=hJ.st.size;go_simp;refine⟨_,rfl,?_⟩;rw[dV.o];refine{hJ with p2:=fun _ _=>⟨trivial,Wx X w8.heap.size 56 9 [.int .i64 k0,.string gZ,.int .u64 v0,.bool g_,.slice a1 n1 c1,.slice a2 n2 c2,.slice a3 n3 c3,.int .i64 l0,.int .i64 c0] rfl h48⟩,p4:=fun e e2=> ?_,p5:=fun e=>absurd (show L 5=true from e) (by rw[h5];decide),rd:= ?_,st:=hJ.st.alloc _,x0:=fun e=>hs.keep (hJ.x0 e) (fun h=>h),x1:=fun e=>hs.keep (hJ.x1 e) (fun h=>h),KE:=hs.cell hJ.KE (fun h=>h),GI:=hs.keep hJ.GI (fun h=>h),ex:=cZ.step hs (fun _ _ h=>h) _ _ hJ.ex,q2:=fun _=>ak 1 rfl,q5:=fun e=>absurd (show L 5=true from e) (by rw[h5];decide)}
        ·obtain⟨l,k,xs,y1,y2,y3⟩:=hJ.p4 e e2;refine⟨l,k,xs,y1,y2.step hs (fun _ _ h=>h),bF.step hs (fun _ _ h=>h) _ _ (bF.mono (fun q h7 h8=>⟨h8.1,fun _ e=> ?_⟩) _ _ y3)⟩;have e3:X.heap.size=q:=Option.some.inj e;omega
        ·obtain⟨i9,y1,y2⟩:=hJ.rd;exact⟨i9,y1.quiet hs,y2⟩
       ·have o1:=gJ 1 rfl;change a.tmps[1]?.getD undef=.pointer (some ⟨w.heap.size,0,none⟩)at o1;have p9:=hJ.KE;go_simp;exact⟨_,rfl,by rw[dV.o];exact{hJ with p3:=fun _=>rfl}⟩
       ·have e31:=(ev 3 31 rfl (ak 3 rfl)).trans (hJ.p3 (ak 3 rfl));have h5:L 5=false:=by
         cases e:L 5 with
         |false=>rfl
         |true=>exact absurd (hJ.q5 e).2 (by rw[hL];decide)
        have h7:L 7=false:=by
         cases e:L 7 with
         |false=>rfl
         |true=>exact absurd (hJ.q7 e).2.1 (by rw[h5];decide)
        have h8:L 8=false:=by
         cases e:L 8 with
         |false=>rfl
         |true=>exact absurd (hJ.q8 e).2 (by rw[h7];decide)
        obtain⟨i9,y1,y2⟩:=hJ.rd;rw[hL]at y2;have y3:i9=j+1:=y2;subst y3;have hsz:=hJ.st.size;go_simp;refine(xH.o X y1).mono ?_;intro e wq hp;cases hx:r1 with
        |out=>exact absurd hx zH.o
        |err cc ln col=>rw[hx]at hp;obtain⟨rfl,hs⟩:=hp;exact⟨hdf,aJ.aW cc ln col (by rw[HRE2.o,hx];rfl) rfl (gI.o _ ((ku.o.st.trans hJ.st).trans (hs.mono ilQ)))⟩
        |ok l k=>
         have hx0:=hx;rw[hx]at hp;obtain⟨⟨v,rfl,xs,hrow,hxs⟩,hr,hs⟩:=hp;refine⟨_,rfl,?_⟩;rw[dV.o];refine{hJ with p2:=fun e e2=> ?_,p4:=fun _ _=>⟨l,k,xs,hx0,hrow.mono oi,bF.mono (fun q _ hq=>⟨by omega,fun e e3=> ?_⟩) _ _ hxs⟩,p5:=fun e=>absurd (show L 5=true from e) (by rw[h5];decide),rd:=⟨k,hr,⟨l,hx0⟩⟩,st:=hJ.st.trans (hs.mono ilQ),x0:=fun e=>hs.keep (hJ.x0 e) om,x1:=fun e=>absurd (show L 8=true from e) (by rw[h8];decide),KE:=hs.cell hJ.KE (fun e=>by have e2:w.heap.size=R.rb:=e;omega),GI:=hs.keep hJ.GI om,ex:=cZ.step hs (fun q hq e=>(YE.o q hq.1).1 e) _ _ hJ.ex,q5:=fun e=>absurd (show L 5=true from e) (by rw[h5];decide)}
         ·obtain⟨z1,z2⟩:=hJ.p2 e e2;exact⟨z1,hs.owns z2 oi⟩
         ·obtain⟨z1,z2⟩:=hJ.p2 e h5;have:=(z2.lt q e3).2;omega
       ·have e30:=ev 2 30 rfl (ak 2 rfl);have e32:=ev 4 32 rfl (ak 4 rfl);have h7:L 7=false:=by
         cases e:L 7 with
         |false=>rfl
         |true=>exact absurd (hJ.q7 e).2.1 (by rw[hL];decide)
        have h8:L 8=false:=by
         cases e:L 8 with
         |false=>rfl
         |true=>exact absurd (hJ.q8 e).2 (by rw[h7];decide)
        obtain⟨z1,z2⟩:=hJ.p2 (ak 2 rfl) hL;obtain⟨l,k,xs,y1,y2,y3⟩:=hJ.p4 (ak 4 rfl) hL;have hfew:=HFEW.o l k y1;refine gV _ X.heap.size (.tmp 30) (.tmp 32) 54 rfl w8.heap.size 56 i0 (.agg #[af 0,bW,bf 0,aT,aj,aj,aj,af 0,af 0]) 9 128 Tryz.underlying54 HI.o HZ0.o HZ1.o HZ2.o rfl dc (V 2) 1 [.int .i64 k0,.string gZ,.int .u64 v0,.bool g_,.slice a1 n1 c1,.slice a2 n2 c2,.slice a3 n3 c3,.int .i64 l0,.int .i64 c0] (by rw[bK];exact e30) z2 (V 4) l.length xs (by rw[bK];exact e32) (y2.row (fun q h7 _=>h7)) y3.len (bF.one y3) (by unfold maxLen;omega) om hJ.st.size ?_;intro v9 w9 iY iq p_;have hg:=ji iq;obtain⟨a9,c9,dS⟩:=b_ iY;have hrow9:aS w9 PX v9 (x::l).length _:=aS.jb (by rw[Nat.add_comm 1 l.length]at iY;exact iY) (fun q hq=>HPX6.o q (iY.lt q hq).1);have hge:∀q,(V 2).ownBlock=some q→w8.heap.size≤q:=fun q hq=>(z2.lt q hq).1;refine⟨v9,rfl,?_⟩;rw[dV.o];refine{hJ with p2:=(fun _ e=>nomatch e),p4:=(fun _ e=>nomatch e),p5:=fun _=>⟨l,k,c9,a9,y1,dS,_,hrow9,?_⟩,p7:=fun e=>absurd (show L 7=true from e) (by rw[h7];decide),rd:= ?_,st:=hJ.st.then hg (fun q hq e=>by have:=hge q e;omega),x0:=fun e=>hg.keep (hJ.x0 e) (fun e=>by have:=hge _ e;omega),x1:=fun e=>absurd (show L 8=true from e) (by rw[h8];decide),KE:=hg.cell hJ.KE (fun e=>by have e2:w8.heap.size≤w.heap.size:=hge _ e;omega),GI:=hg.keep hJ.GI (fun e=>by have:=hge _ e;omega),ex:=cZ.step hg (fun q hq e=>by have:=hge _ e;have:=hq.2;omega) _ _ hJ.ex,q5:=fun _=>⟨ak 2 rfl,ak 4 rfl⟩,q7:=fun e=>absurd (show L 7=true from e) (by rw[h7];decide)}
        ·rw[bF];refine⟨_,_,rfl,cZ.mono (fun q _ hq=>hq.1) _ _ (cZ.step hg (fun q hq e=>by have:=hge _ e;have:=hq.2;omega) _ _ hJ.ex),bF.mono (fun q _ hq=>HPX6.o q hq.1) _ _ (bF.step hg (fun q hq e=>hq.2 (ak 2 rfl) e) _ _ y3)⟩
        ·obtain⟨i9,y5,y6⟩:=hJ.rd;exact⟨i9,y5.step hg (fun q hq e=>by have:=hge _ e;omega),y6⟩
       ·have o4:=gJ 4 rfl;change a.tmps[4]?.getD undef=.pointer (some ⟨w4.heap.size,0,none⟩)at o4;have q0:=ah hJ.GI 0 _ rfl;have q1:=ah hJ.GI 1 _ rfl;have h7:L 7=false:=by
         cases e:L 7 with
         |false=>rfl
         |true=>exact absurd (hJ.q7 e).2.2 (by rw[hL];decide)
        go_simp;exact⟨_,rfl,by rw[dV.o];exact{hJ with p6:=fun _=>rfl,q7:=fun e=>absurd (show L 7=true from e) (by rw[h7];decide)}⟩
       ·have e28:=(ev 0 28 rfl (ak 0 rfl)).trans (hJ.p0 (ak 0 rfl));obtain⟨l,k,c9,a9,y1,y2,-⟩:=hJ.p5 (ak 5 rfl);have e33:=(ev 5 33 rfl (ak 5 rfl)).trans y2;have e34:=(ev 6 34 rfl (ak 6 rfl)).trans (hJ.p6 (ak 6 rfl));have h8:L 8=false:=by
         cases e:L 8 with
         |false=>rfl
         |true=>exact absurd (hJ.q8 e).2 (by rw[hL];decide)
        go_simp;exact⟨_,rfl,by rw[dV.o];exact{hJ with p7:=fun _=>by show Value.agg _=Value.agg #[af 13,aG nm,bf 0,aT,V 5,aj,aj,af tk.line,af tk.col];rw[y2],q7:=fun _=>⟨ak 0 rfl,ak 5 rfl,ak 6 rfl⟩,q8:=fun e=>absurd (show L 8=true from e) (by rw[h8];decide)}⟩
       ·have o3:=gJ 3 rfl;change a.tmps[3]?.getD undef=.pointer (some ⟨bx,0,none⟩)at o3;have e35:=(ev 7 35 rfl (ak 7 rfl)).trans (hJ.p7 (ak 7 rfl));have hb:=hJ.x0 hL;have h5:=hJ.q7 (ak 7 rfl);obtain⟨l,k,c9,a9,y1,y2,y3⟩:=hJ.p5 h5.2.1;refine eG 56 (.tmp 3) (.tmp 35) rfl bx 0 56 _ [.int .i64 13,.string nm,.int .u64 0,.bool false,V 5,.slice none 0 0,.slice none 0 0,.int .i64 tk.line,.int .i64 tk.col] (by rw[bK];exact o3) (by rw[bK];exact e35) hb Tryz.aK (Nat.le_of_eq rfl) (by rw[y2];exact aP rfl) ?_;intro w9 ig hs9;have hbb:w9.heap[bx]?=some (.cells #[af 13,aG nm,bf 0,aT,V 5,aj,aj,af tk.line,af tk.col] 56 (0,0)):=ig;refine⟨undef,rfl,?_⟩;rw[dV.o];refine{hJ with p2:=fun _ e=>absurd (show L 5=false from e) (by rw[h5.2.1];decide),p4:=fun _ e=>absurd (show L 5=false from e) (by rw[h5.2.1];decide),p5:=fun _=>⟨l,k,c9,a9,y1,y2,jI.step _ _ hs9 (fun q hq e=>(YE.o q hq).2 e) y3⟩,rd:= ?_,st:=hJ.st.trans (hs9.mono ir),x0:=(fun e=>nomatch e),x1:=fun _=>hbb,KE:=hs9.cell hJ.KE (fun e=>by have e2:w.heap.size=bx:=e;omega),GI:=hs9.keep hJ.GI om,ex:=cZ.step hs9 (fun q hq e=>(YE.o q hq.1).2 e) _ _ hJ.ex,q8:=fun _=>⟨ak 1 rfl,ak 7 rfl⟩};obtain⟨i9,y5,y6⟩:=hJ.rd;exact⟨i9,y5.step hs9 oi,y6⟩
      case hdone=>
       intro L V X hall hJ;rw[dV.o]at hJ;obtain⟨l,k,c9,a9,y1,y2,y3⟩:=hJ.p5 (hall 5 dc);obtain⟨i9,y5,y6⟩:=hJ.rd;rw[hall 4 dc]at y6;obtain⟨l2,y7⟩:∃l,r1=.ok l i9:=y6;rw[y1]at y7;cases y7;(have Oj:Hid (r=jV gn R.l k d (aZ 13 nm 0 false (x::l) [] [] tk)):=by show _=_;rw[HRE2.o,y1];rfl);(have lI:Hid (Aj R w1 w3 bx d X k (aZ 13 nm 0 false (x::l) [] [] tk) [.int .i64 13,.string nm,.int .u64 0,.bool false,V 5,.slice none 0 0,.slice none 0 0,.int .i64 tk.line,.int .i64 tk.col]):=by refine⟨y5,hJ.x1 (hall 8 dc),?_,ku.o.st.trans hJ.st⟩;rw[←Hl.o];exact Ar.mk Vu.o y3 (fJ.nil _ _) (iL.nil _ _));rw[UN];simp only[lX,dZ,F5,Ef];clear hJ hall y1 y2 y3 y5;(try go_wp2_with fail);go_roundg gn;case rel=>exact⟨by omega,k,_,_,Oj.o,lI.o⟩
       case measure=>omega
structure ExOk (f:Nat):Prop where
 level:oz f
 unary:Ai f
 post:Jb f
 list:EG f
 one:Vk f
 Js:Ob f
 block:tC f
 stmt:Jc f
theorem Wy:Qo 0:=fun _ _ _ _ _ _ _ _ _ _ _ h=>absurd (by rw[rD]) h
theorem WA:Qp 0:=fun _ _ _ _ _ _ _ _ _ _ _ h=>absurd (by rw[rE]) h
theorem LX:∀(f:Nat),f≤1000000→ExOk f:=by
 intro f;induction f using Nat.strongRecOn with
 |ind f ih=>
  intro hf;have hl:oz f:=Oi f fun f' h=>⟨(ih f' h om).level,(ih f' h om).unary⟩;have hi:EG f:=SC f fun f' h=>(ih f' h om).level;cases f with
  |zero=>exact⟨hl,fun _ _ _ _ _ _ _ h=>absurd (by rw[gm]) h,fun _ _ _ _ _ _ _ h=>absurd (by rw[mJ]) h,hi,fun _ _ _ _ _ _ _ h=>absurd (by rw[nG]) h,fun _ _ _ _ _ _ _ h=>absurd (by rw[kR]) h,fun _ _ _ _ _ _ _ h=>absurd (by rw[bM]) h,fun _ _ _ _ _ _ _ h=>absurd (by rw[lq]) h⟩
  |succ f=>
   have h0:=ih f (Nat.lt_succ_self f) om;have hm:Ov f:=SI f fun f' h=>(ih f' om om).level;have hc:Ou f:=SH f h0.block;have hle:Qo f:=by
    cases f with
    |zero=>exact Wy
    |succ f=>exact Vs f (ih f om om).level
   have hse:Qp f:=by
    cases f with
    |zero=>exact WA
    |succ f=>exact Vy f (ih f om om).level
   exact⟨hl,Og f h0.unary h0.post,Ti f h0.Js fun f' h=>(ih f' om om).list,hi,one_step f h0.level,SQ f h0.level h0.one h0.list hm hc,Oo f (fun f' h=>(ih f' om om).stmt) om,S_ f h0.level h0.block hle hse⟩
structure Gn where
 bJ:List ByteArray
 types:List ByteArray
structure Pm where
 name:ByteArray
 ty:Ty
 line:Int
 col:Int
structure Bd where
 name:ByteArray
 qX:List ByteArray
 bJ:List ByteArray
 line:Int
 col:Int
structure Mt where
 name:ByteArray
 bJ:List ByteArray
 recv:Int
 life:ByteArray
 params:List Pm
 ret:Ty
 wh:List Bd
 body:List St
 line:Int
 col:Int
structure It where
 kind:Int
 name:ByteArray
 head:ByteArray
 gen:Gn
 fields:List Pm
 ret:Ty
 wh:List Bd
 methods:List Mt
 body:List St
 line:Int
 col:Int
structure Dq {α:Type} (El:World→(Nat→Prop)→α→List Value→Prop) (k:Nat):Prop where
 step:∀{w w':World} {P S:Nat→Prop} (a:α) (cs:List Value),Step S w w'→(∀k,P k→¬S k)→El w P a cs→El w' P a cs
 mono:∀{w:World} {P P':Nat→Prop} (a:α) (cs:List Value),(∀k,k<w.heap.size→P k→P' k)→El w P a cs→El w P' a cs
 len:∀{w:World} {P:Nat→Prop} (a:α) (cs:List Value),El w P a cs→cs.length=k
 one:∀{w:World} {P:Nat→Prop} (a:α) (cs:List Value),El w P a cs→∀u∈cs,u.oneCell'=true
def wQ {α:Type} (El:World→(Nat→Prop)→α→List Value→Prop) (w:World) (P:Nat→Prop):List α→List Value→Prop
 |[],cs=>cs=[]
 |t::r,cs=>∃c1 c2,cs=c1++c2∧El w P t c1∧wQ El w P r c2
section
variable {α : Type} {El : World → (Nat → Prop) → α → List Value → Prop} {k : Nat}
theorem wQ.step (hE:Dq El k) {w w':World} {P S:Nat→Prop} (hs:Step S w w') (hP:∀k,P k→¬S k):∀(l:List α) (cs:List Value),wQ El w P l cs→wQ El w' P l cs
 |[],_,h=>h
 |t::r,cs,h=>by
  obtain⟨c1,c2,h1,h2,h3⟩:=h
  exact⟨c1,c2,h1,hE.step t c1 hs hP h2,wQ.step hE hs hP r c2 h3⟩
theorem wQ.mono (hE:Dq El k) {w:World} {P P':Nat→Prop} (hp:∀k,k<w.heap.size→P k→P' k):∀(l:List α) (cs:List Value),wQ El w P l cs→wQ El w P' l cs
 |[],_,h=>h
 |t::r,cs,h=>by
  obtain⟨c1,c2,h1,h2,h3⟩:=h
  exact⟨c1,c2,h1,hE.mono t c1 hp h2,wQ.mono hE hp r c2 h3⟩
theorem wQ.snoc {w:World} {P:Nat→Prop}:∀{l:List α} {xs:List Value} {t:α} {cs:List Value},wQ El w P l xs→El w P t cs→wQ El w P (l++[t]) (xs++cs)
 |[],xs,t,cs,h,h1=>by
  cases h
  exact⟨cs,[],by simp,h1,rfl⟩
 |a::r,xs,t,cs,h,h1=>by
  obtain⟨c1,c2,rfl,h2,h3⟩:=h
  exact⟨c1,c2++cs,by rw[List.append_assoc],h2,wQ.snoc h3 h1⟩
theorem wQ.get (hE:Dq El k) {w:World} {P:Nat→Prop}:∀{l:List α} {xs:List Value} (i:Nat) {t:α},wQ El w P l xs→l[i]?=some t→∃cs,El w P t cs∧∀j x,cs[j]?=some x→xs[i*k+j]?=some x
 |[],_,i,t,_,ht=>by simp at ht
 |a::r,xs,i,t,h,ht=>by
  obtain⟨c1,c2,rfl,h1,h2⟩:=h
  have hc:=hE.len a c1 h1
  cases i with
  |zero=>
   simp at ht;subst ht
   refine⟨c1,h1,fun j x hx=> ?_⟩
   rw[Nat.zero_mul,Nat.zero_add,List.getElem?_append_left (List.getElem?_eq_some_iff.1 hx).1];exact hx
  |succ i=>
   obtain⟨cs,h3,h4⟩:=wQ.get hE i h2 (by simpa using ht)
   refine⟨cs,h3,fun j x hx=> ?_⟩
   rw[List.getElem?_append_right (by rw[hc,Nat.add_mul];omega),hc,show(i+1)*k+j-k=i*k+j by rw[Nat.add_mul];omega]
   exact h4 j x hx
def kP (El:World→(Nat→Prop)→α→List Value→Prop) (w:World) (P:Nat→Prop) (l:List α) (v:Value):Prop:=∃xs:List Value,aS w P v l.length xs∧wQ El w P l xs
theorem bT (hE:Dq El k):EK (kP El):=⟨fun _ _ hs hP ⟨xs,h1,h2⟩=>⟨xs,h1.step hs hP,wQ.step hE hs hP _ xs h2⟩,fun _ _ hp ⟨xs,h1,h2⟩=>⟨xs,h1.mono hp,wQ.mono hE hp _ xs h2⟩⟩
theorem kP.nil (w:World) (P:Nat→Prop):kP El w P ([]:List α) (.slice none 0 0):=⟨[],aS.nil _ _ _,rfl⟩
theorem kP.parts {w:World} {P:Nat→Prop} {l:List α} {v:Value} (h:kP El w P l v):∃(a:Option Addr) (c:Nat),v=.slice a l.length c:=by obtain⟨_,h,-⟩:=h;exact h.parts
def ElQ (El:World→(Nat→Prop)→α→List Value→Prop) (w:World) (P:Nat→Prop) (a:α) (v:Value):Prop:=∃cs:List Value,v=.agg cs.toArray∧El w P a cs
structure AA (El:World→(Nat→Prop)→α→List Value→Prop) (T k:Nat) (R:h_) (w1:World) (d:Nat) (X:World) (i':Nat) (acc:List α) (va:Value) (xs:List Value):Prop where
 rd:bD R X i' d
 ow:X.ownsRow w1.heap.size T k va acc.length xs
 el:wQ El X (fun q=>w1.heap.size≤q∧va.ownBlock≠some q) acc xs
 st:Step (·=R.rb) w1 X
theorem AA.read (hE:Dq El k) {T:Nat} {R:h_} {w1:World} {d:Nat} {X X':World} {i' i2:Nat} {acc:List α} {va:Value} {xs:List Value} (h:AA El T k R w1 d X i' acc va xs) (hw:R.rb<w1.heap.size) (hr:bD R X' i2 d) (hs:Step (·=R.rb) X X'):AA El T k R w1 d X' i2 acc va xs:=
 ⟨hr,hs.owns h.ow oi,wQ.step hE hs (fun q hq e=>by have:=hq.1;omega) _ _ h.el,h.st.trans hs⟩
theorem AA.quiet (hE:Dq El k) {T:Nat} {R:h_} {w1:World} {d:Nat} {X X':World} {i':Nat} {acc:List α} {va:Value} {xs:List Value} (h:AA El T k R w1 d X i' acc va xs) (hs:jP X X'):AA El T k R w1 d X' i' acc va xs:=
 ⟨h.rd.quiet hs,hs.owns h.ow (fun _ _ h=>h),wQ.step hE hs (fun _ _ h=>h) _ _ h.el,h.st.trans (hs.mono fe)⟩
theorem AA.push (hE:Dq El k) {T:Nat} {R:h_} {w1:World} {d:Nat} {X0 X2 X3:World} {i0 i2:Nat} {acc:List α} {va v9:Value} {xs cs:List Value} {x:α} (h0:AA El T k R w1 d X0 i0 acc va xs) (h2:AA El T k R w1 d X2 i2 acc va xs) (hx:El X2 (fun q=>X0.heap.size≤q) x cs) (hown:X3.ownsRow w1.heap.size T k v9 (acc.length+1) (xs++cs)) (hgrow:X2.grownBy X3 va.ownBlock) (hat:v9.ownBlock=va.ownBlock∨v9.ownBlock=some X2.heap.size) (hw:R.rb<w1.heap.size):AA El T k R w1 d X3 i2 (acc++[x]) v9 (xs++cs):=by
 have h3:Step (fun q=>va.ownBlock=some q) X2 X3:=ji hgrow;have ho:∀q,va.ownBlock=some q→w1.heap.size≤q∧q<X0.heap.size:=fun q hq=>h0.ow.lt q hq;have hlen:(acc++[x]).length=acc.length+1:=by simp
 have hnew:∀q,q<X2.heap.size→va.ownBlock≠some q→v9.ownBlock≠some q:=by
  intro q hq hn e;rcases hat with h7|h7
  ·exact hn (by rw[←h7];exact e)
  ·rw[h7]at e;have e2:X2.heap.size=q:=Option.some.inj e;omega
 refine⟨h2.rd.step h3 (fun q hq e=>by have:=(ho q e).1;omega),by rw[hlen];exact hown,wQ.snoc ?_ ?_,h2.st.then h3 (fun q hq e=>by have:=(ho q e).1;omega)⟩
 ·have h5:=wQ.mono hE (P':=fun q=>(w1.heap.size≤q∧va.ownBlock≠some q)∧q<X2.heap.size) (fun q h7 h8=>⟨h8,h7⟩) _ _ h2.el;have h6:=wQ.step hE h3 (fun q hq e=>hq.1.2 e) _ _ h5;exact wQ.mono hE (fun q _ hq=>⟨hq.1.1,hnew q hq.2 hq.1.2⟩) _ _ h6
 ·have h5:=hE.mono (P':=fun q=>X0.heap.size≤q∧q<X2.heap.size) _ _ (fun q h7 h8=>⟨h8,h7⟩) hx;have h6:=hE.step _ _ h3 (fun q hq e=>by have:=(ho q e).2;omega) h5;refine hE.mono _ _ (fun q _ hq=>⟨by have:=h0.st.size;omega,hnew q hq.2 (fun e=>by have:=(ho q e).2;omega)⟩) h6
end
def H8 (w:World) (P:Nat→Prop) (p:Pm) (cs:List Value):Prop:=∃ct:List Value,cs=[.string p.name]++ct++[.int .i64 p.line,.int .i64 p.col]∧p.name.size≤9223372036854775807∧dJ w P p.ty ct
def Bq (w:World) (P:Nat→Prop) (b:Bd) (cs:List Value):Prop:=∃vt vl:Value,cs=[.string b.name,vt,vl,.int .i64 b.line,.int .i64 b.col]∧b.name.size≤9223372036854775807∧fJ w P b.qX vt∧fJ w P b.bJ vl
def Jt (w:World) (P:Nat→Prop) (m:Mt) (cs:List Value):Prop:=∃(ct:List Value) (vl vp vw vb:Value),cs=[.string m.name,vl,.int .i64 m.recv,.string m.life,vp]++ct++[vw,vb,.int .i64 m.line,.int .i64 m.col]∧m.name.size≤9223372036854775807∧m.life.size≤9223372036854775807∧
 fJ w P m.bJ vl∧kP H8 w P m.params vp∧dJ w P m.ret ct∧kP Bq w P m.wh vw∧iL w P m.body vb
def LY (w:World) (P:Nat→Prop) (x:It) (cs:List Value):Prop:=∃(ct:List Value) (vl vt vf vw vm vb:Value),cs=[.int .i64 x.kind,.string x.name,.string x.head,vl,vt,vf]++ct++[vw,vm,vb,.int .i64 x.line,.int .i64 x.col]∧x.name.size≤9223372036854775807∧x.head.size≤9223372036854775807∧
 fJ w P x.gen.bJ vl∧fJ w P x.gen.types vt∧kP H8 w P x.fields vf∧dJ w P x.ret ct∧kP Bq w P x.wh vw∧kP Jt w P x.methods vm∧iL w P x.body vb
theorem fJ.parts {w:World} {P:Nat→Prop} {l:List ByteArray} {v:Value} (h:fJ w P l v):∃(a:Option Addr) (c:Nat),v=.slice a l.length c:=h.2.parts
theorem iI:Dq H8 11 where
 step:=fun _ _ hs hP ⟨ct,h1,h2,h3⟩=>⟨ct,h1,h2,dJ.step hs hP _ ct h3⟩
 mono:=fun _ _ hp ⟨ct,h1,h2,h3⟩=>⟨ct,h1,h2,dJ.mono hp _ ct h3⟩
 len:=fun _ _ ⟨ct,h1,_,h3⟩=>by rw[h1];have:=h3.len;simp;omega
 one:=fun _ _ ⟨ct,h1,_,h3⟩=>by
  intro u hu
  rw[h1]at hu
  rcases List.mem_append.1 hu with hu|hu
  ·
   rcases List.mem_append.1 hu with hu|hu
   ·
    simp at hu;subst hu;rfl
   ·
    exact h3.one u hu
  ·
   simp at hu;rcases hu with rfl|rfl<;>rfl
theorem gq:Dq Bq 5 where
 step:=fun _ _ hs hP ⟨vt,vl,h1,h2,h3,h4⟩=>⟨vt,vl,h1,h2,eF.step _ _ hs hP h3,eF.step _ _ hs hP h4⟩
 mono:=fun _ _ hp ⟨vt,vl,h1,h2,h3,h4⟩=>⟨vt,vl,h1,h2,eF.mono _ _ hp h3,eF.mono _ _ hp h4⟩
 len:=fun _ _ ⟨vt,vl,h1,_⟩=>by rw[h1];rfl
 one:=fun _ _ ⟨vt,vl,h1,_,h3,h4⟩=>by
  obtain⟨_,_,rfl⟩:=h3.parts
  obtain⟨_,_,rfl⟩:=h4.parts
  rw[h1];exact aP rfl
theorem gK:Dq Jt 17 where
 step:=fun _ _ hs hP ⟨ct,vl,vp,vw,vb,h1,h2,h3,h4,h5,h6,h7,h8⟩=>⟨ct,vl,vp,vw,vb,h1,h2,h3,eF.step _ _ hs hP h4,(bT iI).step _ _ hs hP h5,dJ.step hs hP _ _ h6,(bT gq).step _ _ hs hP h7,kU.step _ _ hs hP h8⟩
 mono:=fun _ _ hp ⟨ct,vl,vp,vw,vb,h1,h2,h3,h4,h5,h6,h7,h8⟩=>⟨ct,vl,vp,vw,vb,h1,h2,h3,eF.mono _ _ hp h4,(bT iI).mono _ _ hp h5,dJ.mono hp _ _ h6,(bT gq).mono _ _ hp h7,kU.mono _ _ hp h8⟩
 len:=fun _ _ ⟨ct,vl,vp,vw,vb,h1,_,_,_,_,h6,_⟩=>by rw[h1];have:=h6.len;simp;omega
 one:=fun _ _ ⟨ct,vl,vp,vw,vb,h1,_,_,h4,h5,h6,h7,h8⟩=>by
  obtain⟨_,_,rfl⟩:=h4.parts
  obtain⟨_,_,rfl⟩:=h5.parts
  obtain⟨_,_,rfl⟩:=h7.parts
  obtain⟨_,_,rfl⟩:=h8.parts
  intro u hu
  rw[h1]at hu
  rcases List.mem_append.1 hu with hu|hu
  ·
   rcases List.mem_append.1 hu with hu|hu
   ·
    exact aP rfl u hu
   ·
    exact h6.one u hu
  ·
   exact aP rfl u hu
theorem gB:Dq LY 19 where
 step:=fun _ _ hs hP ⟨ct,vl,vt,vf,vw,vm,vb,h1,h2,h3,h4,h5,h6,h7,h8,h9,h10⟩=>⟨ct,vl,vt,vf,vw,vm,vb,h1,h2,h3,eF.step _ _ hs hP h4,eF.step _ _ hs hP h5,(bT iI).step _ _ hs hP h6,dJ.step hs hP _ _ h7,(bT gq).step _ _ hs hP h8,(bT gK).step _ _ hs hP h9,kU.step _ _ hs hP h10⟩
 mono:=fun _ _ hp ⟨ct,vl,vt,vf,vw,vm,vb,h1,h2,h3,h4,h5,h6,h7,h8,h9,h10⟩=>⟨ct,vl,vt,vf,vw,vm,vb,h1,h2,h3,eF.mono _ _ hp h4,eF.mono _ _ hp h5,(bT iI).mono _ _ hp h6,dJ.mono hp _ _ h7,(bT gq).mono _ _ hp h8,(bT gK).mono _ _ hp h9,kU.mono _ _ hp h10⟩
 len:=fun _ _ ⟨ct,vl,vt,vf,vw,vm,vb,h1,_,_,_,_,_,h7,_⟩=>by rw[h1];have:=h7.len;simp;omega
 one:=fun _ _ ⟨ct,vl,vt,vf,vw,vm,vb,h1,_,_,h4,h5,h6,h7,h8,h9,h10⟩=>by
  obtain⟨_,_,rfl⟩:=h4.parts
  obtain⟨_,_,rfl⟩:=h5.parts
  obtain⟨_,_,rfl⟩:=h6.parts
  obtain⟨_,_,rfl⟩:=h8.parts
  obtain⟨_,_,rfl⟩:=h9.parts
  obtain⟨_,_,rfl⟩:=h10.parts
  intro u hu
  rw[h1]at hu
  rcases List.mem_append.1 hu with hu|hu
  ·
   rcases List.mem_append.1 hu with hu|hu
   ·
    exact aP rfl u hu
   ·
    exact h7.one u hu
  ·
   exact aP rfl u hu
def kC:Nat→List Tok→Nat→List ByteArray→List ByteArray→dB Gn
 |0,_,_,_,_=>.out
 |f+1,l,i,ls,ts=>(eH (ls.length+ts.length) 8 l i).bind fun _ i=>(if(tokA l i).kind=2∧ts.length=0 then(jh l i).bind fun x j=>.ok (ls++[x],ts) j else(bI l i).bind fun x j=>.ok (ls,ts++[x]) j).bind fun p j=>
   if bH l j [44]then kC f l (j+1) p.1 p.2 else(aI l j [62]).bind fun _ j=>.ok ⟨p.1,p.2⟩ j
def nZ (f:Nat) (l:List Tok) (i:Nat):dB Gn:=if bH l i [60]then kC f l (i+1) [] []else .ok ⟨[],[]⟩ i
def mr:Nat→List Tok→Nat→Nat→List UInt8→Nat→List Pm→dB (List Pm)
 |0,_,_,_,_,_,_=>.out
 |f+1,l,i,d,e,m,acc=>(eH acc.length m l i).bind fun _ i=>(bI l i).bind fun n j=>(aI l j [58]).bind fun _ j=>(iZ f l j d).bind fun ty j=>
   if bH l j [44]then mr f l (j+1) d e m (acc++[⟨n,ty,(tokA l i).line,(tokA l i).col⟩])else(aI l j e).bind fun _ j=>.ok (acc++[⟨n,ty,(tokA l i).line,(tokA l i).col⟩]) j
def fD (f:Nat) (l:List Tok) (i d:Nat) (e:List UInt8) (m:Nat):dB (List Pm):=if bH l i e then .ok [] (i+1)else mr f l i d e m []
def kK (f:Nat) (l:List Tok) (i d:Nat):dB Ty:=if bH l i [45,62]then iZ f l (i+1) d else .ok dU i
def fA:Nat→List Tok→Nat→Bool→List ByteArray→List ByteArray→dB (List ByteArray×List ByteArray)
 |0,_,_,_,_,_=>.out
 |f+1,l,i,p,ts,ls=>(eH (ls.length+ts.length) 8 l i).bind fun _ i=>(if p=true∧ls.length=0∧(tokA l i).kind≠2 then(bI l i).bind fun x j=>.ok (ts++[x],ls) j else(jh l i).bind fun x j=>.ok (ts,ls++[x]) j).bind fun q j=>
   if bH l j [43]then fA f l (j+1) p q.1 q.2 else .ok q j
def mP (f:Nat) (l:List Tok) (i:Nat):dB Bd:=
 (if(pY l i).size=0 then(bI l (ny l i)).bind fun n j=>.ok (n,true) j else .ok (pY l i,false) (ny l i)).bind fun p j=>(aI l j [58]).bind fun _ j=>(fA f l j p.2 [] []).bind fun q j=>.ok ⟨p.1,q.1,q.2,(tokA l i).line,(tokA l i).col⟩ j
def jc:Nat→List Tok→Nat→List Bd→dB (List Bd)
 |0,_,_,_=>.out
 |f+1,l,i,acc=>(eH acc.length 16 l i).bind fun _ i=>(mP f l i).bind fun b j=>if bH l j [44]then jc f l (j+1) (acc++[b])else .ok (acc++[b]) j
def eU (f:Nat) (l:List Tok) (i:Nat):dB (List Bd):=if bH l i [119,104,101,114,101]then jc f l (i+1) []else .ok [] i
def iD (l:List Tok) (i:Nat):(Int×ByteArray)×Nat:=
 if bH l i [38]then((if bH l (ny l (i+1)) [109,117,116]then 3 else 2,pY l (i+1)),iw l (ny l (i+1)) [109,117,116])else((1,di),i)
def jZ (f:Nat) (l:List Tok) (i d:Nat) (body:Bool):dB Mt:=
 (aI l i [102,110]).bind fun _ j=>(bI l j).bind fun n j=>(nZ f l j).bind fun g j=>(if 0<g.types.length then gW 5 l j else .ok () j).bind fun _ j=>(aI l j [40]).bind fun _ j=>
  (aI l (iD l j).2 [115,101,108,102]).bind fun _ k=>(if bH l k [44]then(if bH l (k+1) [41]then gW 1 l (k+1)else fD f l (k+1) d [41] 8)else(aI l k [41]).bind fun _ k=>.ok [] k).bind fun ps k=>
   (kK f l k d).bind fun t k=>(eU f l k).bind fun wh k=>(if body then bM f l k d else(aI l k [59]).bind fun _ k=>.ok [] k).bind fun b k=>
    .ok ⟨n,g.bJ,(iD l j).1.1,(iD l j).1.2,ps,t,wh,b,(tokA l i).line,(tokA l i).col⟩ k
def jJ:Nat→List Tok→Nat→Nat→Bool→List Mt→dB (List Mt)
 |0,_,_,_,_,_=>.out
 |f+1,l,i,d,body,acc=>if bH l i [125]then .ok acc (i+1)else(eH acc.length 12 l i).bind fun _ i=>(jZ f l i d body).bind fun m j=>jJ f l j d body (acc++[m])
def gQ (f:Nat) (l:List Tok) (i d:Nat) (body:Bool):dB (List Mt):=(aI l i [123]).bind fun _ j=>jJ f l j d body []
def n_ (l:List Tok) (i:Nat):dB ByteArray:=
 if bH l i [105,110,116]then .ok ⟨#[105,110,116]⟩ (i+1)else if bH l i [98,111,111,108]then .ok ⟨#[98,111,111,108]⟩ (i+1)else if bH l i [102,54,52]then .ok ⟨#[102,54,52]⟩ (i+1)else bI l i
def sD (k:Int) (name head:ByteArray) (g:Gn) (fs:List Pm) (t:Ty) (wh:List Bd) (ms:List Mt) (b:List St) (tk:Tok):It:=⟨k,name,head,g,fs,t,wh,ms,b,tk.line,tk.col⟩
def Dt:Gn:=⟨[],[]⟩
def qm (f:Nat) (l:List Tok) (i d:Nat):dB It:=
 if bH l i [115,116,114,117,99,116]then(bI l (i+1)).bind fun n j=>(nZ f l j).bind fun g j=>(aI l j [123]).bind fun _ j=>(fD f l j d [125] 12).bind fun fs j=>.ok (sD 1 n di g fs dU [] [] [] (tokA l i)) j
 else if bH l i [116,114,97,105,116]then(bI l (i+1)).bind fun n j=>(gQ f l j d false).bind fun ms j=>.ok (sD 2 n di Dt [] dU [] ms [] (tokA l i)) j
 else if bH l i [105,109,112,108]then(bI l (i+1)).bind fun n j=>(aI l j [102,111,114]).bind fun _ j=>(n_ l j).bind fun h j=>(eU f l j).bind fun wh j=>(gQ f l j d true).bind fun ms j=>.ok (sD 3 n h Dt [] dU wh ms [] (tokA l i)) j
 else if bH l i [102,110]then(bI l (i+1)).bind fun n j=>(nZ f l j).bind fun g j=>(aI l j [40]).bind fun _ j=>(fD f l j d [41] 8).bind fun fs j=>(kK f l j d).bind fun t j=>(eU f l j).bind fun wh j=>(bM f l j d).bind fun b j=>.ok (sD 4 n di g fs t wh [] b (tokA l i)) j
 else gW 1 l i
def jl:Nat→List Tok→Nat→Nat→List It→dB (List It)
 |0,_,_,_,_=>.out
 |f+1,l,i,d,acc=>if(tokA l i).kind=0 then .ok acc i else(eH acc.length 60 l i).bind fun _ i=>(qm f l i d).bind fun x j=>jl f l j d (acc++[x])
def Mk (out:Rb) (w:World) (e:Ending) (w':World):Prop:=∃v,e=.returned v∧Step Sf w w'∧out.r v w' (fun q=>w.heap.size≤q)
def jB (w:World) (P:Nat→Prop) (v:Value) (xs:List ByteArray):Prop:=aS w P v xs.length (xs.map .string)
theorem Qz {w w':World} {P S:Nat→Prop} {e:TypeId} {size n:Nat} {v:Value} {xs:List Value} (hs:Step S w w') (hP:∀q,P q→¬S q) (h:w.ownsRow 0 e size v n xs) (hb:∀b,v.ownBlock=some b→P b):w'.ownsRow 0 e size v n xs:=by
 refine⟨h.1,?_⟩;rcases h.2 with hz|⟨g,cap,cur,rfl,h1,hg,rest⟩
 ·exact .inl hz
 ·exact .inr ⟨g,cap,cur,rfl,h1,hs.keep hg (hP g (hb g rfl)),rest⟩
theorem OC {w:World} {base:Nat} {e:TypeId} {size n:Nat} {v:Value} {xs:List Value} (h:w.ownsRow base e size v n xs) {b:Nat} (hb:v.ownBlock=some b):b<w.heap.size:=(h.lt b hb).2
def qU (xs:List ByteArray):Rb where
 r:=fun v w P=>w.ownsRow 0 9 1 v xs.length (xs.map .string)∧∀b,v.ownBlock=some b→P b
 ok:=⟨fun hs hP h=>⟨Qz hs hP h.1 h.2,h.2⟩,fun hp h=>⟨h.1,fun b hb=>hp b (OC h.1 hb) (h.2 b hb)⟩⟩
theorem qU.strs {xs:List ByteArray} {v:Value} {w:World} {P:Nat→Prop} (h:(qU xs).r v w P):jB w P v xs:=aS.jb h.1 h.2
theorem qU.mk {X:World} {xs:List ByteArray} {n:Nat} (hn:xs.length=n) (hp:0<n) (hm:n≤1000000000):(qU xs).r (.slice (some ⟨X.heap.size,0,none⟩) n n) (X.alloc (.cells (xs.map Value.string).toArray 9)) (fun q=>X.heap.size≤q):=by
 subst hn;refine⟨⟨by simp,.inr ⟨X.heap.size,xs.length,_,rfl,Nat.zero_le _,aB _ _,Nat.le_refl _,by simp only[maxLen];omega,by simp,?_⟩⟩,fun b hb=> ?_⟩
 ·rw[Nat.mul_one];exact List.take_of_length_le (by simp)
 ·have:X.heap.size=b:=Option.some.inj hb;omega
section
variable {ops : Array Oper} {o : Oper} {a : Act} {X : World}
theorem WB (s x:Operand) (ho:o.op=.call {callee:=.builtin .append,args:= #[s,x],argTypes:= #[40,40]}) {xs ys:List ByteArray} {v u:Value} {C D:Nat→Prop} (hs:a.eval s=v) (hx:a.eval x=u) (h:(qU xs).r v X C) (hu:jB X D u ys) (hl:xs.length+ys.length≤1000000000):Cj Tryz.prog o (qU (xs++ys)) C a X:=by
 obtain⟨i0,hi0,hz0,hz1,hz2⟩:=info_parts Tryz.oC
 refine gV X X.heap.size s x _ ho 0 9 i0 (.string ⟨#[]⟩) 1 16 Tryz.underlying40 hi0 hz0 hz1 hz2 rfl Nat.one_pos v xs.length _ hs h.1 u ys.length (ys.map .string) hx (hu.row (fun k hk _=>hk)) (by simp) (fun z hz=>by
  obtain⟨s,_,rfl⟩:=List.mem_map.1 hz
  rfl) (by simp only[maxLen];omega) om (Nat.zero_le _) (fun z X' h1 h2 h3=> ?_)
 refine⟨z,rfl,(ji h2).mono (fun q _ e=>h.2 q e),⟨by rw[List.map_append,List.length_append];exact h1,fun b hb=> ?_⟩⟩;rcases h3 with h3|h3
 ·exact .inl (h.2 b (by rw[←h3];exact hb))
 ·rw[h3]at hb;exact .inr (Nat.le_of_eq (Option.some.inj hb))
end
section
variable {ops : Array Oper} {dI : List Sp} {w1 : World} {o : Oper} {a : Act} {r : List Oper} {ss : List Sp}
abbrev ZC (ops:Array Oper) (dI:List Sp) (w1:World):=xk Tryz.prog ops dI (Nw w1) w1
abbrev qg (ops:Array Oper) (dI:List Sp) (N:Nat→Prop) (w1:World):=xk Tryz.prog ops dI N w1
theorem OB.bs {N:Nat→Prop} (xs:List ByteArray) (n:Nat) (h:qg ops dI N w1 r ss a) (hn:xs.length=n∧0<n∧n≤1000000000:=by exact⟨rfl,by decide,by decide⟩) (hy:∀X,o.wp Tryz.prog a X (fun a' X'=>a'=a.put o.dst (.slice (some ⟨X.heap.size,0,none⟩) n n)∧X'=X.alloc (.cells (xs.map Value.string).toArray 9)) QN:=by intro X;go_simp) (hw:Region.wanted o (yielded ops a.tmps)=true:=by kernel_rfl):qg ops dI N w1 (o::r) (.r [] (qU xs)::ss) a:=
 ON.new (fun X _=>Oper.wp_mono (fun a' X' ⟨h1,h2⟩=>⟨_,h1,by rw[h2];exact bV.alloc _,by rw[h2];exact(qU xs).ok.mono (fun _ _ h=>.inr h) (qU.mk hn.1 hn.2.1 hn.2.2)⟩) (hy X)) h hw
end
theorem EY {P:Program} {f:FuncId} {fn:Func} (hf:P.funcs[f]?=some fn) (hb:fn.body.isNone=false) (hn:(fn.name== "runtime.NumGoroutine")=false) (args:Array Value) (w:World):(callFunc f args).run P w=.ok (.enter f args) w:=by
 have h1:fn.name≠ "runtime.NumGoroutine" :=by simpa using hn
 have h2:¬fn.body=none:=by intro h;simp[h]at hb
 simp[callFunc,hf,h1,h2]
theorem LZ {P:Program} {o:Oper} {a:Act} {X:World} {out:Rb} {f:FuncId} {fn:Func} {xs:Array Operand} {ats:Array TypeId} {vs:Array Value} (ho:o.op=.call {callee:=.value (.func f),args:=xs,argTypes:=ats}) (hv:xs.map a.eval=vs) (hf:P.funcs[f]?=some fn) (hb:fn.body.isNone=false) (hn:(fn.name== "runtime.NumGoroutine")=false) (h:Calls P f vs X (Mk out X)):Cj P o out Sf a X:=by obtain⟨dst,op,type,pos,after,guard⟩:=o;have ho:op=_:=ho;subst ho;unfold Cj Oper.wp;rw[execOp_call_go];simp only[Array.empty_append,Array.append_empty];rw[hv,EY hf hb hn];refine h.mono ?_;rintro e w' ⟨v,rfl,h1,h2⟩;exact⟨v,rfl,h1,out.ok.mono (fun _ _ h=>.inr h) h2⟩
section
variable {ops : Array Oper} {dI : List Sp} {w1 : World} {o : Oper} {a : Act} {r : List Oper} {ss : List Sp}
theorem OB.c {out:Rb} {f:FuncId} {fn:Func} {xs:Array Operand} {ats:Array TypeId} (vs:Array Value) (hf:Tryz.prog.funcs[f]?=some fn) (hc:∀X,Step Sf w1 X→Calls Tryz.prog f vs X (Mk out X)) (h:ZC ops dI w1 r ss a) (ho:o.op=.call {callee:=.value (.func f),args:=xs,argTypes:=ats}:=by rfl) (hv:xs.map a.eval=vs:=by kernel_rfl) (hb:fn.body.isNone=false:=by kernel_rfl) (hn:(fn.name== "runtime.NumGoroutine")=false:=by kernel_rfl) (hw:Region.wanted o (yielded ops a.tmps)=true:=by kernel_rfl):ZC ops dI w1 (o::r) (.r [] out::ss) a:=OB.new (fun X hX=>LZ ho hv hf hb hn (hc X hX)) h hw
theorem OB.ld {ty:TypeId} {x:Operand} (b of:Nat) (cs:List Value) (d:TypeDesc) (hc:∀X,Step Sf w1 X→∀(j:Nat) v,cs[j]?=some v→X.cell? ⟨b,of+j,none⟩=some v) (hu:Tryz.prog.underlying ty=some d) (hi:(Tryz.prog.info? ty).map (·.size)=some cs.length) (h:ZC ops dI w1 r ss (a.put o.dst (.agg cs.toArray))) (ho:o.op=.load ty x:=by rfl) (hx:a.eval x=.pointer (some ⟨b,of,none⟩):=by kernel_rfl) (hd:d.isRow=true:=by rfl) (hw:Region.wanted o (yielded ops a.tmps)=true:=by kernel_rfl):ZC ops dI w1 (o::r) (.p (.agg cs.toArray)::ss) a:=
 OB.p h (fun X hX=>wp_load_mid ty x ho b of hx cs d (hc X hX) hu hd hi ⟨rfl,rfl⟩) hw
end
def sep (i:Nat):List ByteArray:=if 0<i then[⟨#[44]⟩]else[]
def cm (l:List (List ByteArray)):Nat→List ByteArray
 |0=>[]
 |i+1=>cm l i++sep i++l.getD i []
def aO (l:List (List ByteArray)):List ByteArray:=cm l l.length
theorem cm_le (l:List (List ByteArray)):∀i j,i≤j→(cm l i).length≤(cm l j).length:=by
 intro i j h;induction h with
 |refl=>exact Nat.le_refl _
 |step _ ih=>rw[cm];simp only[List.length_append];omega
theorem qU.nil (X:World) (C:Nat→Prop):(qU []).r (.slice none 0 0) X C:=⟨⟨rfl,.inl ⟨rfl,rfl⟩⟩,oQ⟩
theorem take_snoc {α:Type} {l:List α} {i:Nat} {x:α} (h:l[i]?=some x):l.take (i+1)=l.take i++[x]:=by rw[List.take_add_one,h];rfl
theorem DN {α:Type} {l:List α} {i:Nat} {x d:α} (h:l[i]?=some x):l.getD i d=x:=by rw[List.getD_eq_getElem?_getD,h];rfl
structure NJ (R:h_) (j0 d b:Nat) (w0:World) (oF:Value→Obj) (base T:Nat) (v0:Value) (n:Nat) (xs:List Value) (r1:dB ByteArray) (il ic ib ia iz:Nat) (vals:List (Option Value)) (L:Nat→Bool) (V:Nat→Value) (X:World):Prop where
 iO:∀(i:Nat) v,vals[i]?=some (some v)→L i=true→V i=v
 vc:L ic=true→∃s k,r1=.ok s k∧V ic=.string s
 vb:L ib=true→L ia=false→∃s k g,r1=.ok s k∧V ib=.slice (some ⟨g,0,none⟩) 1 1∧w0.heap.size≤g∧X.heap[g]?=some (.cells #[aG s] T (0,0))
 va:L ia=true→∃s k,r1=.ok s k∧X.ownsRow base T 1 (V ia) (n+1) (xs++[.string s])∧((V ia).ownBlock=v0.ownBlock∨∃g,(V ia).ownBlock=some g∧w0.heap.size≤g)
 own:L ia=false→X.ownsRow base T 1 v0 n xs
 rd:∃i,bD R X i d∧cond (L ic) (∃s,r1=.ok s i) (i=j0)
 st:Step (fun q=>q=R.rb∨q=b∨v0.ownBlock=some q) w0 X
 blk:X.heap[b]?=some (oF (cond (L iz) (V ia) v0))
 qb:L ib=true→L ic=true
 qa:L ia=true→L ib=true∧L ic=true
 qz:L iz=true→L ia=true
 ql:L ia=true→L il=true
structure NOk (R:h_) (b:Nat) (w0:World) (base:Nat) (v0:Value) (il ic ib ia iz:Nat):Prop where
 ne:ic≠ib∧ic≠ia∧ic≠iz∧ib≠ia∧ib≠iz∧ia≠iz
 nl:il≠ic∧il≠ib∧il≠ia∧il≠iz
 rb:R.rb<b
 bb:b<base
 bw:base≤w0.heap.size
 own:∀q,v0.ownBlock=some q→base≤q∧q<w0.heap.size
section
variable {R : h_} {j0 d b : Nat} {w0 : World} {oF : Value → Obj} {base T : Nat} {v0 : Value} {n : Nat} {xs : List Value} {r1 : dB ByteArray} {il ic ib ia iz : Nat} {vals : List (Option Value)} {L : Nat → Bool} {V : Nat → Value} {X X' : World}
theorem NJ.zero (hs:jP w0 X) (hr:bD R w0 j0 d) (hown:w0.ownsRow base T 1 v0 n xs) (hb:w0.heap[b]?=some (oF v0)):NJ R j0 d b w0 oF base T v0 n xs r1 il ic ib ia iz vals (fun _=>false) V X:=
 ⟨fun _ _ _ h=>(nomatch h),lW,lW,lW,fun _=>hs.owns hown (fun _ _ h=>h),⟨j0,hr.quiet hs,rfl⟩,hs.mono fe,hs.keep hb (fun h=>h),lW,lW,lW,lW⟩
theorem NJ.up (h:NJ R j0 d b w0 oF base T v0 n xs r1 il ic ib ia iz vals L V X) (i:Nat) {v:Value} (hv:vals[i]?=some (some v)) (h1:i≠ic) (h2:i≠ib) (h3:i≠ia) (h4:i≠iz):NJ R j0 d b w0 oF base T v0 n xs r1 il ic ib ia iz vals (dN L i) (gY V i v) X:=by
 refine⟨jk h.iO i v (fun u hu=>by rw[hv]at hu;cases hu;rfl),?_,?_,?_,?_,?_,h.st,?_,?_,?_,?_,?_⟩
 ·rw[aA _ (Ne.symm h1),bZ _ _ (Ne.symm h1)];exact h.vc
 ·rw[aA _ (Ne.symm h2),aA _ (Ne.symm h3),bZ _ _ (Ne.symm h2)];exact h.vb
 ·rw[aA _ (Ne.symm h3),bZ _ _ (Ne.symm h3)];exact h.va
 ·rw[aA _ (Ne.symm h3)];exact h.own
 ·rw[aA _ (Ne.symm h1)];exact h.rd
 ·rw[aA _ (Ne.symm h4),bZ _ _ (Ne.symm h3)];exact h.blk
 ·rw[aA _ (Ne.symm h2),aA _ (Ne.symm h1)];exact h.qb
 ·rw[aA _ (Ne.symm h3),aA _ (Ne.symm h2),aA _ (Ne.symm h1)];exact h.qa
 ·rw[aA _ (Ne.symm h4),aA _ (Ne.symm h3)];exact h.qz
 ·rw[aA _ (Ne.symm h3)];intro e;by_cases e2:il=i
  ·rw[e2];exact jY _ _
  ·rw[aA _ e2];exact h.ql e
theorem NJ.di (h:NJ R j0 d b w0 oF base T v0 n xs r1 il ic ib ia iz vals L V X) (hL:L ic=false):L ib=false:=by
 cases e:L ib with
 |false=>rfl
 |true=>rw[h.qb e]at hL;cases hL
theorem NJ.Va (h:NJ R j0 d b w0 oF base T v0 n xs r1 il ic ib ia iz vals L V X) (hL:L ib=false):L ia=false:=by
 cases e:L ia with
 |false=>rfl
 |true=>rw[(h.qa e).1]at hL;cases hL
theorem NJ.I_ (h:NJ R j0 d b w0 oF base T v0 n xs r1 il ic ib ia iz vals L V X) (hL:L ia=false):L iz=false:=by
 cases e:L iz with
 |false=>rfl
 |true=>rw[h.qz e]at hL;cases hL
theorem NJ.call (ho:NOk R b w0 base v0 il ic ib ia iz) (h:NJ R j0 d b w0 oF base T v0 n xs r1 il ic ib ia iz vals L V X) (hL:L ic=false) (kZ:vals[ic]?=some none) (hs:Step (·=R.rb) X X') {k:Nat} (hr:bD R X' k d) {s:ByteArray} (hx:r1=.ok s k):NJ R j0 d b w0 oF base T v0 n xs r1 il ic ib ia iz vals (dN L ic) (gY V ic (.string s)) X':=by
 have hB:=h.di hL;have hA:=h.Va hB;have hZ:=h.I_ hA;obtain⟨n1,n2,n3,n4,n5,n6⟩:=ho.ne;have h1:=ho.rb;have h2:=ho.bb;refine⟨jk h.iO ic _ (fun u hu=>by rw[kZ]at hu;cases hu),fun _=>⟨s,k,hx,mg _ _ _⟩,?_,?_,?_,⟨k,hr,by rw[jY];exact⟨s,hx⟩⟩,h.st.trans (hs.mono ilQ),?_,fun _=>jY _ _,?_,?_,?_⟩
 ·rw[aA _ (Ne.symm n1),hB];intro e;cases e
 ·rw[aA _ (Ne.symm n2),hA];intro e;cases e
 ·intro _;exact hs.owns (h.own hA) oi
 ·have hb:=h.blk;rw[hZ]at hb;rw[aA _ (Ne.symm n3),hZ];exact hs.keep hb om
 ·rw[aA _ (Ne.symm n2),hA];intro e;cases e
 ·rw[aA _ (Ne.symm n3),hZ];intro e;cases e
 ·rw[aA _ (Ne.symm n2),hA];intro e;cases e
theorem NJ.build (ho:NOk R b w0 base v0 il ic ib ia iz) (h:NJ R j0 d b w0 oF base T v0 n xs r1 il ic ib ia iz vals L V X) (hL:L ib=false) (hC:L ic=true) (kZ:vals[ib]?=some none) {s:ByteArray} (hs:V ic=.string s):NJ R j0 d b w0 oF base T v0 n xs r1 il ic ib ia iz vals (dN L ib) (gY V ib (.slice (some ⟨X.heap.size,0,none⟩) 1 1)) (X.alloc (.cells #[aG s] T)):=by
 have hA:=h.Va hL;have hZ:=h.I_ hA;obtain⟨n1,n2,n3,n4,n5,n6⟩:=ho.ne;have hst:jP X (X.alloc (.cells #[aG s] T)):=bV.alloc _;refine⟨jk h.iO ib _ (fun u hu=>by rw[kZ]at hu;cases hu),?_,?_,?_,?_,?_,h.st.alloc _,?_,?_,?_,?_,?_⟩
 ·rw[aA _ n1,bZ _ _ n1];exact h.vc
 ·intro _ _;obtain⟨s',k,h1,h2⟩:=h.vc hC;rw[hs]at h2;cases h2;exact⟨s,k,X.heap.size,h1,mg _ _ _,h.st.size,aB _ _⟩
 ·rw[aA _ (Ne.symm n4),hA];intro e;cases e
 ·intro _;exact hst.owns (h.own hA) (fun _ _ h=>h)
 ·rw[aA _ n1];obtain⟨i,h1,h2⟩:=h.rd;exact⟨i,h1.quiet hst,h2⟩
 ·have hb:=h.blk;rw[hZ]at hb;rw[aA _ (Ne.symm n5),hZ];exact hst.keep hb (fun h=>h)
 ·intro _;rw[aA _ n1];exact hC
 ·rw[aA _ (Ne.symm n4),hA];intro e;cases e
 ·rw[aA _ (Ne.symm n5),hZ];intro e;cases e
 ·rw[aA _ (Ne.symm n4),hA];intro e;cases e
theorem NJ.app (ho:NOk R b w0 base v0 il ic ib ia iz) (h:NJ R j0 d b w0 oF base T v0 n xs r1 il ic ib ia iz vals L V X) (hL:L ia=false) (hB:L ib=true) (hl:L il=true) (kZ:vals[ia]?=some none) {s:ByteArray} {k:Nat} (hx:r1=.ok s k) {v':Value} (hown:X'.ownsRow base T 1 v' (n+1) (xs++[.string s])) (hg:X.grownBy X' v0.ownBlock) (hat:v'.ownBlock=v0.ownBlock∨v'.ownBlock=some X.heap.size):NJ R j0 d b w0 oF base T v0 n xs r1 il ic ib ia iz vals (dN L ia) (gY V ia v') X':=by
 have hZ:=h.I_ hL;obtain⟨n1,n2,n3,n4,n5,n6⟩:=ho.ne;have h1:=ho.rb;have h2:=ho.bb;have h3:=ji hg;have hC:=h.qb hB;refine⟨jk h.iO ia _ (fun u hu=>by rw[kZ]at hu;cases hu),?_,?_,?_,?_,?_,h.st.trans (h3.mono (fun _ _ e=>.inr (.inr e))),?_,?_,?_,?_,fun _=>by rw[aA _ ho.nl.2.2.1];exact hl⟩
 ·rw[aA _ n2,bZ _ _ n2];exact h.vc
 ·intro _ e;rw[jY]at e;cases e
 ·intro _;rw[mg];refine⟨s,k,hx,hown,?_⟩;rcases hat with e|e
  ·exact .inl e
  ·exact .inr ⟨_,e,h.st.size⟩
 ·intro e;rw[jY]at e;cases e
 ·rw[aA _ n2];obtain⟨i,h4,h5⟩:=h.rd;exact⟨i,h4.step h3 (fun q hq e=>by have:=(ho.own q e).1;omega),h5⟩
 ·have hb:=h.blk;rw[hZ]at hb;rw[aA _ (Ne.symm n6),hZ];exact h3.keep hb (fun e=>by have:=(ho.own _ e).1;omega)
 ·rw[aA _ n4,aA _ n2];exact h.qb
 ·intro _;rw[aA _ n4,aA _ n2];exact⟨hB,hC⟩
 ·rw[aA _ (Ne.symm n6),hZ];intro e;cases e
theorem NJ.put (ho:NOk R b w0 base v0 il ic ib ia iz) (h:NJ R j0 d b w0 oF base T v0 n xs r1 il ic ib ia iz vals L V X) (hA:L ia=true) (kZ:∀u,vals[iz]?=some (some u)→False) (hs:Step (·=b) X X') (hb:X'.heap[b]?=some (oF (V ia))) (v:Value):NJ R j0 d b w0 oF base T v0 n xs r1 il ic ib ia iz vals (dN L iz) (gY V iz v) X':=by
 obtain⟨n1,n2,n3,n4,n5,n6⟩:=ho.ne;have h1:=ho.rb;have h2:=ho.bb;have h3:=ho.bw;refine⟨jk h.iO iz _ (fun u hu=>(kZ u hu).elim),?_,?_,?_,?_,?_,h.st.trans (hs.mono (fun _ _ e=>.inr (.inl e))),?_,?_,?_,?_,?_⟩
 ·rw[aA _ n3,bZ _ _ n3];exact h.vc
 ·rw[aA _ n6,hA];intro _ e;cases e
 ·rw[aA _ n6,bZ _ _ n6];intro e;obtain⟨s,k,h4,h5,h6⟩:=h.va e;exact⟨s,k,h4,jQ h5 hs (fun q hq e=>by have:=(h5.lt q hq).1;omega),h6⟩
 ·rw[aA _ n6,hA];intro e;cases e
 ·rw[aA _ n3];obtain⟨i,h4,h5⟩:=h.rd;exact⟨i,h4.step hs oi,h5⟩
 ·rw[jY,bZ _ _ n6];exact hb
 ·rw[aA _ n5,aA _ n3];exact h.qb
 ·rw[aA _ n6,aA _ n5,aA _ n3];exact h.qa
 ·rw[aA _ n6];intro _;exact hA
 ·rw[aA _ n6,aA _ ho.nl.2.2.2];exact h.ql
theorem NJ.done (h:NJ R j0 d b w0 oF base T v0 n xs r1 il ic ib ia iz vals L V X) (hC:L ic=true) (hA:L ia=true) (hZ:L iz=true):∃s k v',r1=.ok s k∧bD R X k d∧X.heap[b]?=some (oF v')∧X.ownsRow base T 1 v' (n+1) (xs++[.string s])∧(v'.ownBlock=v0.ownBlock∨∃g,v'.ownBlock=some g∧w0.heap.size≤g)∧Step (fun q=>q=R.rb∨q=b∨v0.ownBlock=some q) w0 X:=by obtain⟨s,k,h1,h2,h3⟩:=h.va hA;obtain⟨i,h4,h5⟩:=h.rd;rw[hC]at h5;obtain⟨s',h6⟩:∃s,r1=.ok s i:=h5;rw[h1]at h6;cases h6;have hb:=h.blk;rw[hZ]at hb;exact⟨s,k,V ia,h1,h4,hb,h2,h3,h.st⟩
end
structure N2 (T:Nat) (mk:Value→Value→Obj) (R:h_) (w1:World) (b d:Nat) (X:World) (i:Nat) (la lb:List ByteArray) (va vb:Value):Prop where
 rd:bD R X i d
 blk:X.heap[b]?=some (mk va vb)
 oa:X.ownsRow w1.heap.size T 1 va la.length (la.map .string)
 ob:X.ownsRow w1.heap.size T 1 vb lb.length (lb.map .string)
 ne:∀q,va.ownBlock=some q→vb.ownBlock≠some q
 sa:∀s∈la,s.size≤9223372036854775807
 sb:∀s∈lb,s.size≤9223372036854775807
 few:la.length+lb.length≤8
 st:Step (fun q=>q=R.rb∨q=b) w1 X
section
variable {T : Nat} {mk : Value → Value → Obj} {R : h_} {w1 : World} {b d : Nat} {X X' : World} {i j : Nat} {la lb : List ByteArray} {va vb v' : Value}
theorem N2.quiet (h:N2 T mk R w1 b d X i la lb va vb) (hs:jP X X'):N2 T mk R w1 b d X' i la lb va vb:=
 ⟨h.rd.quiet hs,hs.keep h.blk (fun h=>h),hs.owns h.oa (fun _ _ h=>h),hs.owns h.ob (fun _ _ h=>h),h.ne,h.sa,h.sb,h.few,h.st.trans (hs.mono fe)⟩
theorem N2.read (h:N2 T mk R w1 b d X i la lb va vb) (hb:R.rb<b) (hw:R.rb<w1.heap.size) (hr:bD R X' j d) (hs:Step (·=R.rb) X X'):N2 T mk R w1 b d X' j la lb va vb:=
 ⟨hr,hs.keep h.blk om,hs.owns h.oa oi,hs.owns h.ob oi,h.ne,h.sa,h.sb,h.few,h.st.trans (hs.mono ilQ)⟩
theorem N2.err (h:N2 T mk R w1 b d X i la lb va vb) (hs:Step (·=R.rb) X X'):Step (fun q=>q=R.rb∨q=b) w1 X':=h.st.trans (hs.mono ilQ)
theorem N2.Qq (h:N2 T mk R w1 b d X i la lb va vb) (hb:R.rb<b) (hw:b<w1.heap.size) {s:ByteArray} (hr:bD R X' j d) (hk:X'.heap[b]?=some (mk v' vb)) (hown:X'.ownsRow w1.heap.size T 1 v' (la.length+1) (la.map .string++[.string s])) (hat:v'.ownBlock=va.ownBlock∨∃g,v'.ownBlock=some g∧X.heap.size≤g) (hs:Step (fun q=>q=R.rb∨q=b∨va.ownBlock=some q) X X') (hz:s.size≤9223372036854775807) (hlt:la.length+lb.length<8):N2 T mk R w1 b d X' j (la++[s]) lb v' vb:=by
 have hlen:(la++[s]).length=la.length+1:=by simp
 refine⟨hr,hk,by rw[hlen,List.map_append];exact hown,jQ h.ob hs (fun q hq e=> ?_),fun q hq e=> ?_,?_,h.sb,by rw[hlen];omega,h.st.then hs (fun q hq e=> ?_)⟩
 ·have h1:=(h.ob.lt q hq).1;rcases e with e|e|e
  ·omega
  ·omega
  ·exact h.ne q e hq
 ·rcases hat with e2|⟨g,e2,e3⟩
  ·exact h.ne q (by rw[←e2];exact hq) e
  ·rw[e2]at hq;cases hq;have:=(h.ob.lt _ e).2;omega
 ·intro x hx;rcases List.mem_append.1 hx with hx|hx
  ·exact h.sa x hx
  ·rw[List.mem_singleton.1 hx];exact hz
 ·rcases e with e|e|e
  ·exact .inl e
  ·exact .inr e
  ·have:=(h.oa.lt q e).1;omega
theorem N2.pushB (h:N2 T mk R w1 b d X i la lb va vb) (hb:R.rb<b) (hw:b<w1.heap.size) {s:ByteArray} (hr:bD R X' j d) (hk:X'.heap[b]?=some (mk va v')) (hown:X'.ownsRow w1.heap.size T 1 v' (lb.length+1) (lb.map .string++[.string s])) (hat:v'.ownBlock=vb.ownBlock∨∃g,v'.ownBlock=some g∧X.heap.size≤g) (hs:Step (fun q=>q=R.rb∨q=b∨vb.ownBlock=some q) X X') (hz:s.size≤9223372036854775807) (hlt:la.length+lb.length<8):N2 T mk R w1 b d X' j la (lb++[s]) va v':=by
 have hlen:(lb++[s]).length=lb.length+1:=by simp
 refine⟨hr,hk,jQ h.oa hs (fun q hq e=> ?_),by rw[hlen,List.map_append];exact hown,fun q hq e=> ?_,h.sa,?_,by rw[hlen];omega,h.st.then hs (fun q hq e=> ?_)⟩
 ·have h1:=(h.oa.lt q hq).1;rcases e with e|e|e
  ·omega
  ·omega
  ·exact h.ne q hq e
 ·rcases hat with e2|⟨g,e2,e3⟩
  ·exact h.ne q hq (by rw[←e2];exact e)
  ·rw[e2]at e;cases e;have:=(h.oa.lt _ hq).2;omega
 ·intro x hx;rcases List.mem_append.1 hx with hx|hx
  ·exact h.sb x hx
  ·rw[List.mem_singleton.1 hx];exact hz
 ·rcases e with e|e|e
  ·exact .inl e
  ·exact .inr e
  ·have:=(h.ob.lt q e).1;omega
theorem N2.names (h:N2 T mk R w1 b d X i la lb va vb):fJ X (fun q=>w1.heap.size≤q) la va∧fJ X (fun q=>w1.heap.size≤q) lb vb:=
 ⟨⟨h.sa,aS.jb h.oa (fun q hq=>(h.oa.lt q hq).1)⟩,⟨h.sb,aS.jb h.ob (fun q hq=>(h.ob.lt q hq).1)⟩⟩
end
def KG (w:World) (P:Nat→Prop) (g:Gn) (v:Value):Prop:=∃vl vt:Value,v=.agg #[vl,vt]∧fJ w P g.bJ vl∧fJ w P g.types vt
theorem zh:EK KG:=⟨fun _ _ hs hP ⟨vl,vt,h1,h2,h3⟩=>⟨vl,vt,h1,eF.step _ _ hs hP h2,eF.step _ _ hs hP h3⟩,fun _ _ hp ⟨vl,vt,h1,h2,h3⟩=>⟨vl,vt,h1,eF.mono _ _ hp h2,eF.mono _ _ hp h3⟩⟩
def GnV (n0:Nat) (w':World) (a:Gn) (v:Value):Prop:=KG w' (fun k=>n0≤k) a v
theorem Ju (f:Nat) (R:h_) (w:World) (i d:Nat) (hl:pF R.l) (h:bD R w i d) (hno:nZ f R.l i≠.out):Calls Tryz.prog 90 #[.agg #[fM R.rb 0]] w (aJ R d (GnV w.heap.size) (nZ f R.l i) w):=by
 have HL:=ai hl;obtain⟨r,hr⟩:=bn (nZ f R.l i);have HRR:Hid (r=if bH R.l i [60]then kC f R.l (i+1) [] []else .ok ⟨[],[]⟩ i):=by show _=_;rw[hr,nZ]
 rw[←hr]at hno⊢;have f_:=ai hno;have vK:=aC h.blk;obtain⟨w1,hw1⟩:=bn (((w.alloc (.cells #[fM R.rb 0] 75)).alloc (.cells #[aj,aj] 42)).alloc (.cells #[aj,aj] 42));have dF:Hid (jP w w1):=by rw[hw1];exact((bV.alloc _).alloc _).alloc _
 have kG:Hid (w1.heap[w.heap.size]?=some (.cells #[fM R.rb 0] 75 (0,0))):=by rw[hw1];exact aN (aN (aB _ _))
 have lm:Hid (w1.heap[w.heap.size+1]?=some (.cells #[aj,aj] 42 (0,0))):=by rw[hw1];exact aN (fO _ _ _)
 have HB1:Hid (w1.heap[w.heap.size+1+1]?=some (.cells #[aj,aj] 42 (0,0))):=by show _=_;rw[hw1];have h:=aB ((w.alloc (.cells #[fM R.rb 0] 75)).alloc (.cells #[aj,aj] 42)) (.cells #[aj,aj] 42);simpa using h
 have HW1:=ai hw1;have H1:=ai (h.quiet dF.o);obtain⟨i0,hi0,hz0,hz1,hz2⟩:=info_parts Tryz.oC;have HI:=ai hi0;have HZ0:=ai hz0;have HZ1:=ai hz1;have HZ2:=ai hz2;have hbw:=aC HB1.o;clear hl h hno hr hw1 hi0 hz0 hz1 hz2;go_enter Tryz.func90,Tryz.ntmps90;go_upto_region 2 with fail
 rw[←HW1.o];obtain⟨b,hb⟩:=bn (w.heap.size+1+1);rw[←hb]at HB1 hbw⊢;have hrb:R.rb<b:=by omega
 have hwb:w.heap.size+1<b:=by omega
 have gI:Hid (∀X:World,Step (fun q=>q=R.rb∨q=b) w1 X→Step (·=R.rb) w X):=fun X hX=>(dF.o.mono fe).then hX oi
 have dh:Hid (∀X:World,Step (fun q=>q=R.rb∨q=b) w1 X→X.cell? ⟨w.heap.size,0,none⟩=some (.pointer (some ⟨R.rb,0,none⟩))):=fun X hX=>ah (hX.keep kG.o om) 0 _ rfl
 have uQ:Hid (∀X:World,Step (fun q=>q=R.rb∨q=b) w1 X→X.heap[w.heap.size+1]?=some (.cells #[aj,aj] 42 (0,0))):=fun X hX=>hX.keep lm.o om
 have hsz1:=dF.o.size;have uI:Hid (N2 9 (fun va vb=>.cells #[va,vb] 42 (0,0)) R w1 b d w1 i [] [] (.slice none 0 0) (.slice none 0 0)):=⟨H1.o,HB1.o,World.ownsRow_nil _ _ _ _,World.ownsRow_nil _ _ _ _,oQ,oQ,oQ,by simp,Step.refl _ _⟩;clear hb;have p0:=dh.o w1 bV;go_wp2_with fail;cases hb:bH R.l i [60]with
 |false=>
  have HB:=ai hb;clear hb;refine(dX R HL.o ⟨#[60]⟩ _ i d uI.o.rd dc HB.o).mono ?_;rintro e w2 ⟨rfl,hr2,h2⟩;have yT:=ai (uI.o.read hrb om hr2 h2);have lJ:=ai (HRR.o.trans (yR HB.o))
  clear hr2 h2 p0;have q0:=ah yT.o.blk 0 _ rfl;have q1:=ah yT.o.blk 1 _ rfl;obtain⟨⟨d0,d1⟩,z0,z1⟩:=Ru (uQ.o w2 yT.o.st);go_wp2_with fail;refine bodyPost_ret (v:=.agg #[aj,aj]) (by simp[results,Tryz.results90,go_sem,d0,d1]) rfl ?_;have hs2:Step (·=w.heap.size+1) w2 ((w2.setCell ⟨w.heap.size+1,0,none⟩ (.slice none 0 0)).setCell ⟨w.heap.size+1,1,none⟩ (.slice none 0 0)):=((Step.refl (·=w.heap.size+1) _).setCell _ _ jd).setCell _ _ jd;exact aJ.dQ lJ.o rfl ⟨_,_,rfl,fJ.nil _ _,fJ.nil _ _⟩ (yT.o.rd.step hs2 oi) ((gI.o _ yT.o.st).then hs2 oi)
 |true=>
  have HB:=ai hb;clear hb;refine(dw R HL.o ⟨#[60]⟩ _ i d uI.o.rd dc HB.o).mono ?_;rintro e w2 ⟨rfl,hr2,h2⟩;have yT:=ai (uI.o.read hrb om hr2 h2);have lJ:=ai (HRR.o.trans (if_pos HB.o))
  clear hr2 h2 p0;go_wp2_with fail;go_loopg [] f (fun gg wr=>gg≤f∧∃(i':Nat) (ls ts:List ByteArray) (vl vt:Value),r=kC gg R.l i' ls ts∧N2 9 (fun va vb=>.cells #[va,vb] 42 (0,0)) R w1 b d wr i' ls ts vl vt);case atStart=>exact⟨Nat.le_refl _,i+1,[],[],_,_,lJ.o,yT.o⟩
  case round=>
   obtain⟨hgf,i',ls,ts,vl,vt,hrq,hst⟩:=hrel;obtain⟨gn,rfl⟩:∃gn,gk=gn+1:=by
    cases gk with
    |zero=>exact absurd hrq (by rw[kC];exact f_.o)
    |succ gn=>exact⟨gn,rfl⟩
   (have vF:Hid (r=(eH (ls.length+ts.length) 8 R.l i').bind fun _ i=>(if(tokA R.l i).kind=2∧ts.length=0 then(jh R.l i).bind fun x j=>.ok (ls++[x],ts) j else(bI R.l i).bind fun x j=>.ok (ls,ts++[x]) j).bind fun p j=>if bH R.l j [44]then kC gn R.l (j+1) p.1 p.2 else(aI R.l j [62]).bind fun _ j=>.ok ⟨p.1,p.2⟩ j):=by show _=_;rw[hrq,kC]);obtain⟨oa,oc,rfl⟩:=b_ hst.oa;obtain⟨pa,pc,rfl⟩:=b_ hst.ob;have HST:=ai hst;have p0:=dh.o wr hst.st;have q0:=ah hst.blk 0 _ rfl;have q1:=ah hst.blk 1 _ rfl;have hfew:=hst.few;(have R1:IntKind.i64.wrap ((ls.length:Int)+(ts.length:Int))=((ls.length+ts.length:Nat):Int):=by rw[show((ls.length:Int)+(ts.length:Int))=((ls.length+ts.length:Nat):Int) by omega];exact IntWalk.i64_in _ om);clear hrq hst;go_wp2_with fail;clear R1;refine(nH R wr (ls.length+ts.length) 8 i' d HST.o.rd).mono ?_;rintro e w3 hp;cases hn:eH (ls.length+ts.length) 8 R.l i' with
   |out=>exact(lV hn).elim
   |err c ln col=>rw[hn]at hp;obtain⟨rfl,s3⟩:=hp;exact⟨rfl,aJ.aW c ln col (by rw[vF.o,hn];rfl) rfl (gI.o _ (HST.o.err s3))⟩
   |ok u j=>
    have hji:j=i'∧ls.length+ts.length<8:=by
     unfold eH at hn;split at hn
     ·cases hn
     ·cases hn;exact⟨rfl,by omega⟩
    obtain⟨rfl,Ja⟩:=hji;have HN:=ai hn;rw[hn]at hp;obtain⟨⟨v,rfl,rfl⟩,hr3,s3⟩:=hp;have gu:=ai (HST.o.read hrb om hr3 s3);(have qw:Hid (r=(if(tokA R.l j).kind=2∧ts.length=0 then(jh R.l j).bind fun x j=>.ok (ls++[x],ts) j else(bI R.l j).bind fun x j=>.ok (ls,ts++[x]) j).bind fun p j=>if bH R.l j [44]then kC gn R.l (j+1) p.1 p.2 else(aI R.l j [62]).bind fun _ j=>.ok ⟨p.1,p.2⟩ j):=by show _=_;rw[vF.o,HN.o];rfl);clear hn hr3 s3 p0 q0 q1;obtain⟨tk,htk⟩:=bn (tokA R.l j);(have YX:Hid (R.l[j]?=some tk):=by rw[htk];exact gu.o.rd.tok);have RQ:=ai htk;obtain⟨cb,hcb⟩:=bn (tk.kind==2&&ts.length==0);have NH:=ai hcb;(have hfd0:∀(a0 a1 a2 a3 a4:Value) (w:World),(Instr.field 111 (.agg #[a0,a1,a2,a3,a4]) 0).run Tryz.prog w=.ok a0 w:=fun _ _ _ _ _ _=>by kernel_rfl);clear htk hcb;(go_upto_region 5 with fail);go_cut [28] (fun s28 wx=>s28=.bool cb∧jP w3 wx);case first=>
     have p0:=dh.o w3 gu.o.st;go_wp2_with fail;refine(l_ R _ j d tk gu.o.rd YX.o).mono ?_;rintro e w4 ⟨rfl,h4⟩;have hb4:=h4.keep gu.o.blk (fun h=>h);have q1:=ah hb4 1 _ rfl;have jv:=ai h4;clear p0 h4 hb4;by_cases hk:tk.kind=2
     ·(have e1:((tk.kind:Int)==2)=true:=by rw[kX tk.kind 2 2 rfl,hk];rfl);obtain⟨b0,hb0⟩:∃b0,((ts.length:Int)==0)=b0:=⟨_,rfl⟩;(have hcb:cb=b0:=by rw[NH.o,hk,←hb0,kX ts.length 0 0 rfl];rfl);have HC2:=ai hcb;clear hcb;go_wp2_with fail;go_meet;case rel=>exact⟨by rw[HC2.o],jv.o⟩
     ·(have e1:((tk.kind:Int)==2)=false:=by rw[kX tk.kind 2 2 rfl,beq_eq_false_iff_ne.2 hk]);(have hcb:cb=false:=by rw[NH.o,beq_eq_false_iff_ne.2 hk];rfl);have HC2:=ai hcb;clear hcb;go_wp2_with fail;go_meet;case rel=>exact⟨by rw[HC2.o],jv.o⟩
    case rest=>
     obtain⟨rfl,hs4⟩:=hcut;obtain⟨w6,rfl⟩:=bn wc;have qA:=ai (gu.o.quiet hs4);clear hs4;(go_upto_if 28 with fail);go_cut [] (fun wx=>∃(jn:Nat) (la lb:List ByteArray) (va vb:Value),r=(if bH R.l jn [44]then kC gn R.l (jn+1) la lb else(aI R.l jn [62]).bind fun _ j=>.ok ⟨la,lb⟩ j)∧N2 9 (fun va vb=>.cells #[va,vb] 42 (0,0)) R w1 b d wx jn la lb va vb);case first=>
      cases cb with
      |true=>
       (have hc:tk.kind=2∧ts.length=0:=by simpa using NH.o.symm);(have F7:Hid (r=((jh R.l j).bind fun x j=>.ok (ls++[x],ts) j).bind fun p j=>if bH R.l j [44]then kC gn R.l (j+1) p.1 p.2 else(aI R.l j [62]).bind fun _ j=>.ok ⟨p.1,p.2⟩ j):=by show _=_;rw[qw.o,←RQ.o,if_pos hc]);clear hc;have p0:=dh.o w6 qA.o.st;(go_upto_region 6 with fail);obtain⟨r1,hr1⟩:=bn (jh R.l j);have HR1:=ai hr1;(have zH:Hid (r1≠.out):=by rw[hr1];exact fun e=>BB e);(have lJ:Hid (r=(r1.bind fun x j=>.ok (ls++[x],ts) j).bind fun p j=>if bH R.l j [44]then kC gn R.l (j+1) p.1 p.2 else(aI R.l j [62]).bind fun _ j=>.ok ⟨p.1,p.2⟩ j):=by show _=_;rw[F7.o,hr1]);have zi:Hid (NOk R b w6 w1.heap.size (.slice oa ls.length oc) 1 3 4 5 7):=⟨by decide,by decide,hrb,hbw,qA.o.st.size,fun q hq=>qA.o.oa.lt q hq⟩;have Hl:Hid (∀X:World,Step (fun q=>q=R.rb∨q=b∨(Value.slice oa ls.length oc).ownBlock=some q) w6 X→X.cell? ⟨w.heap.size,0,none⟩=some (.pointer (some ⟨R.rb,0,none⟩))):=by
        show∀X,_;intro X hX;refine hX.cell (dh.o w6 qA.o.st) (fun e=> ?_);have e2:w.heap.size=R.rb∨w.heap.size=b∨(Value.slice oa ls.length oc).ownBlock=some w.heap.size:=e;rcases e2 with e2|e2|e2
        ·omega
        ·omega
        ·have:=(zi.o.own _ e2).1;omega
       obtain⟨Jx,hJx⟩:=bn (NJ R j d b w6 (fun v=>.cells #[v,.slice pa ts.length pc] 42 (0,0)) w1.heap.size 9 (.slice oa ls.length oc) ls.length (ls.map .string) r1 1 3 4 5 7 [some (.pointer (some ⟨b,0,none⟩)),some (.slice oa ls.length oc),some (.agg #[fM R.rb 0]),none,none,none,some (.pointer (some ⟨b,0,none⟩)),none]);have dV:=ai hJx;(have OD:Hid (∀V,Jx (fun _=>false) V w6.drew):=by intro V;rw[hJx];exact NJ.zero (bV.drew) qA.o.rd qA.o.oa qA.o.blk);have HWB:Hid (∀X:World,Step (fun q=>q=R.rb∨q=b∨(Value.slice oa ls.length oc).ownBlock=some q) w6 X→Step (fun q=>q=R.rb∨q=b) w1 X):=by
        show∀X,_;intro X hX;refine qA.o.st.then hX (fun q hq e=> ?_);rcases e with e|e|e
        ·exact .inl e
        ·exact .inr e
        ·have:=(zi.o.own _ e).1;omega
       clear hr1 hJx p0;refine bG kr Jx 8 rfl kr kr kr kr ?h0 ?hs ?hdone;case h0=>exact OD.o _
       case hs=>
        refine⟨?_,?_,?_,?_,?_,?_,?_,?_,trivial⟩
        all_goals (intro L V X a ev gJ hdf hL ak hJ;rw[dV.o]at hJ)
        ·have o3:=gJ 3 rfl;change a.tmps[3]?.getD undef=.pointer (some ⟨b,0,none⟩)at o3;go_simp;exact Dk
        ·have e29:=(ev 0 29 rfl (ak 0 rfl)).trans (hJ.iO 0 _ rfl (ak 0 rfl));have hA:L 5=false:=by
          cases e:L 5 with
          |false=>rfl
          |true=>rw[hJ.ql e]at hL;cases hL
         have hb:=hJ.blk;rw[hJ.I_ hA]at hb;have q0:X.cell? ⟨b,0,none⟩=some (.slice oa ls.length oc):=ah hb 0 _ rfl;go_simp;exact Dk
        ·have o1:=gJ 1 rfl;change a.tmps[1]?.getD undef=.pointer (some ⟨w.heap.size,0,none⟩)at o1;have p0:=Hl.o X hJ.st;go_simp;exact Dk
        ·have e31:=(ev 2 31 rfl (ak 2 rfl)).trans (hJ.iO 2 _ rfl (ak 2 rfl));obtain⟨i9,y1,y2⟩:=hJ.rd;rw[hL]at y2;have y3:i9=j:=y2;subst y3;go_simp;refine(xC R HL.o X i9 d y1).mono ?_;intro e wq hp;rw[←HR1.o]at hp;cases hx:r1 with
         |out=>exact absurd hx zH.o
         |err cc ln col=>rw[hx]at hp;obtain⟨rfl,hs⟩:=hp;exact⟨hdf,aJ.aW cc ln col (by rw[lJ.o,hx];rfl) rfl (gI.o _ ((HWB.o X hJ.st).trans (hs.mono ilQ)))⟩
         |ok s9 k9=>have hx0:=hx;rw[hx]at hp;obtain⟨⟨v,rfl,rfl⟩,hr,hs⟩:=hp;exact⟨_,rfl,by rw[dV.o];exact hJ.call zi.o hL rfl hs hr hx0⟩
        ·obtain⟨s9,k9,y1,y2⟩:=hJ.vc (ak 3 rfl);have e32:=(ev 3 32 rfl (ak 3 rfl)).trans y2;go_simp;exact⟨_,rfl,by rw[dV.o];exact hJ.build zi.o hL (ak 3 rfl) rfl y2⟩
        ·have e30:=(ev 1 30 rfl (ak 1 rfl)).trans (hJ.iO 1 _ rfl (ak 1 rfl));have e33:=ev 4 33 rfl (ak 4 rfl);obtain⟨s9,k9,g9,y1,y2,y3,y4⟩:=hJ.vb (ak 4 rfl) hL;have hon:=hJ.own hL;have hwz:=Nat.le_trans zi.o.bw hJ.st.size;have hfw:=qA.o.few;refine gV _ (g9+1) (.tmp 30) (.tmp 33) 40 rfl w1.heap.size 9 i0 (.string ⟨#[]⟩) 1 16 Tryz.underlying40 HI.o HZ0.o HZ1.o HZ2.o rfl dc (.slice oa ls.length oc) ls.length (ls.map .string) (by rw[bK];exact e30) hon (V 4) 1 [.string s9] (by rw[bK];exact e33) (by rw[y2];exact Row.new y4 dc) rfl (aP rfl) (by unfold maxLen;omega) om hwz ?_;intro v8 w8 uO qx BG;exact⟨v8,rfl,by rw[dV.o];exact hJ.app zi.o hL (ak 4 rfl) (ak 1 rfl) rfl y1 uO qx BG⟩
        ·have o3:=gJ 3 rfl;change a.tmps[3]?.getD undef=.pointer (some ⟨b,0,none⟩)at o3;go_simp;exact Dk
        ·have e35:=(ev 6 35 rfl (ak 6 rfl)).trans (hJ.iO 6 _ rfl (ak 6 rfl));obtain⟨s9,k9,y1,y2,y3⟩:=hJ.va (ak 5 rfl);obtain⟨a9,c9,hV⟩:=b_ y2;have e34:=(ev 5 34 rfl (ak 5 rfl)).trans hV;have hb:=hJ.blk;rw[hL]at hb;have iM:∃v,X.cell? ⟨b,0,none⟩=some v:=⟨_,ah hb 0 _ rfl⟩;obtain⟨vc,Hy⟩:=iM;have hfz:X.frozen? ⟨b,0,none⟩=false:=aH hb 0;go_simp;exact⟨undef,by rw[dV.o];exact hJ.put zi.o (ak 5 rfl) (fun u hu=>by cases hu) (bV.setCell _ _ jd) (by rw[←hV];exact aU hb 0 (V 5)) undef⟩
       case hdone=>intro L V X hall hJ;rw[dV.o]at hJ;obtain⟨s9,k9,v9,h1,h2,h3,h4,h5,h6⟩:=hJ.done (hall 3 dc) (hall 5 dc) (hall 7 dc);(have GR:jh R.l j=.ok s9 k9:=by rw[←HR1.o];exact h1);have hsz:=yX HL.o qA.o.rd.lt GR;rw[Rw];simp only[lX,dZ,F5,Ef];(have F6:Hid (r=(if bH R.l k9 [44]then kC gn R.l (k9+1) (ls++[s9]) ts else(aI R.l k9 [62]).bind fun _ j=>.ok ⟨(ls++[s9]),ts⟩ j)):=by show _=_;rw[F7.o,GR];rfl);have lI:Hid (N2 9 (fun va vb=>.cells #[va,vb] 42 (0,0)) R w1 b d X k9 (ls++[s9]) ts v9 (.slice pa ts.length pc)):=qA.o.Qq hrb hbw h2 h3 h4 h5 h6 hsz Ja;clear hJ hall h1 h2 h3 h4 h5 h6 GR hsz;go_wp2_with fail;go_meet;case rel=>exact⟨k9,_,_,_,_,F6.o,lI.o⟩
      |false=>
       (have hc:¬(tk.kind=2∧ts.length=0):=by intro hc;have h9:=NH.o;rw[hc.1,hc.2]at h9;cases h9);(have F7:Hid (r=((bI R.l j).bind fun x j=>.ok (ls,ts++[x]) j).bind fun p j=>if bH R.l j [44]then kC gn R.l (j+1) p.1 p.2 else(aI R.l j [62]).bind fun _ j=>.ok ⟨p.1,p.2⟩ j):=by show _=_;rw[qw.o,←RQ.o,if_neg hc]);clear hc;have p0:=dh.o w6 qA.o.st;(go_upto_region 7 with fail);obtain⟨r1,hr1⟩:=bn (bI R.l j);have HR1:=ai hr1;(have zH:Hid (r1≠.out):=by rw[hr1];exact fun e=>iV e);(have lJ:Hid (r=(r1.bind fun x j=>.ok (ls,ts++[x]) j).bind fun p j=>if bH R.l j [44]then kC gn R.l (j+1) p.1 p.2 else(aI R.l j [62]).bind fun _ j=>.ok ⟨p.1,p.2⟩ j):=by show _=_;rw[F7.o,hr1]);have zi:Hid (NOk R b w6 w1.heap.size (.slice pa ts.length pc) 1 4 5 6 8):=⟨by decide,by decide,hrb,hbw,qA.o.st.size,fun q hq=>qA.o.ob.lt q hq⟩;have Hl:Hid (∀X:World,Step (fun q=>q=R.rb∨q=b∨(Value.slice pa ts.length pc).ownBlock=some q) w6 X→X.cell? ⟨w.heap.size,0,none⟩=some (.pointer (some ⟨R.rb,0,none⟩))):=by
        show∀X,_;intro X hX;refine hX.cell (dh.o w6 qA.o.st) (fun e=> ?_);have e2:w.heap.size=R.rb∨w.heap.size=b∨(Value.slice pa ts.length pc).ownBlock=some w.heap.size:=e;rcases e2 with e2|e2|e2
        ·omega
        ·omega
        ·have:=(zi.o.own _ e2).1;omega
       obtain⟨Jx,hJx⟩:=bn (NJ R j d b w6 (fun v=>.cells #[.slice oa ls.length oc,v] 42 (0,0)) w1.heap.size 9 (.slice pa ts.length pc) ts.length (ts.map .string) r1 1 4 5 6 8 [some (.pointer (some ⟨b,1,none⟩)),some (.slice pa ts.length pc),some (.pointer (some ⟨w.heap.size,0,none⟩)),some (.pointer (some ⟨R.rb,0,none⟩)),none,none,none,some (.pointer (some ⟨b,1,none⟩)),none]);have dV:=ai hJx;(have OD:Hid (∀V,Jx (fun _=>false) V w6.drew):=by intro V;rw[hJx];exact NJ.zero (bV.drew) qA.o.rd qA.o.ob qA.o.blk);have HWB:Hid (∀X:World,Step (fun q=>q=R.rb∨q=b∨(Value.slice pa ts.length pc).ownBlock=some q) w6 X→Step (fun q=>q=R.rb∨q=b) w1 X):=by
        show∀X,_;intro X hX;refine qA.o.st.then hX (fun q hq e=> ?_);rcases e with e|e|e
        ·exact .inl e
        ·exact .inr e
        ·have:=(zi.o.own _ e).1;omega
       clear hr1 hJx p0;refine bG kr Jx 9 rfl kr kr kr kr ?h0 ?hs ?hdone;case h0=>exact OD.o _
       case hs=>
        refine⟨?_,?_,?_,?_,?_,?_,?_,?_,?_,trivial⟩
        all_goals (intro L V X a ev gJ hdf hL ak hJ;rw[dV.o]at hJ)
        ·have o3:=gJ 3 rfl;change a.tmps[3]?.getD undef=.pointer (some ⟨b,0,none⟩)at o3;go_simp;exact Dk
        ·have e36:=(ev 0 36 rfl (ak 0 rfl)).trans (hJ.iO 0 _ rfl (ak 0 rfl));have hA:L 6=false:=by
          cases e:L 6 with
          |false=>rfl
          |true=>rw[hJ.ql e]at hL;cases hL
         have hb:=hJ.blk;rw[hJ.I_ hA]at hb;have q1:X.cell? ⟨b,1,none⟩=some (.slice pa ts.length pc):=ah hb 1 _ rfl;go_simp;exact Dk
        ·have o1:=gJ 1 rfl;change a.tmps[1]?.getD undef=.pointer (some ⟨w.heap.size,0,none⟩)at o1;go_simp;exact Dk
        ·have e38:=(ev 2 38 rfl (ak 2 rfl)).trans (hJ.iO 2 _ rfl (ak 2 rfl));have p0:=Hl.o X hJ.st;go_simp;exact Dk
        ·have e39:=(ev 3 39 rfl (ak 3 rfl)).trans (hJ.iO 3 _ rfl (ak 3 rfl));obtain⟨i9,y1,y2⟩:=hJ.rd;rw[hL]at y2;have y3:i9=j:=y2;subst y3;go_simp;refine(name_any R HL.o X i9 d y1).mono ?_;intro e wq hp;rw[←HR1.o]at hp;cases hx:r1 with
         |out=>exact absurd hx zH.o
         |err cc ln col=>rw[hx]at hp;obtain⟨rfl,hs⟩:=hp;exact⟨hdf,aJ.aW cc ln col (by rw[lJ.o,hx];rfl) rfl (gI.o _ ((HWB.o X hJ.st).trans (hs.mono ilQ)))⟩
         |ok s9 k9=>have hx0:=hx;rw[hx]at hp;obtain⟨⟨v,rfl,rfl⟩,hr,hs⟩:=hp;exact⟨_,rfl,by rw[dV.o];exact hJ.call zi.o hL rfl hs hr hx0⟩
        ·obtain⟨s9,k9,y1,y2⟩:=hJ.vc (ak 4 rfl);have e40:=(ev 4 40 rfl (ak 4 rfl)).trans y2;go_simp;exact⟨_,rfl,by rw[dV.o];exact hJ.build zi.o hL (ak 4 rfl) rfl y2⟩
        ·have e37:=(ev 1 37 rfl (ak 1 rfl)).trans (hJ.iO 1 _ rfl (ak 1 rfl));have e41:=ev 5 41 rfl (ak 5 rfl);obtain⟨s9,k9,g9,y1,y2,y3,y4⟩:=hJ.vb (ak 5 rfl) hL;have hon:=hJ.own hL;have hwz:=Nat.le_trans zi.o.bw hJ.st.size;have hfw:=qA.o.few;refine gV _ (g9+1) (.tmp 37) (.tmp 41) 40 rfl w1.heap.size 9 i0 (.string ⟨#[]⟩) 1 16 Tryz.underlying40 HI.o HZ0.o HZ1.o HZ2.o rfl dc (.slice pa ts.length pc) ts.length (ts.map .string) (by rw[bK];exact e37) hon (V 5) 1 [.string s9] (by rw[bK];exact e41) (by rw[y2];exact Row.new y4 dc) rfl (aP rfl) (by unfold maxLen;omega) om hwz ?_;intro v8 w8 uO qx BG;exact⟨v8,rfl,by rw[dV.o];exact hJ.app zi.o hL (ak 5 rfl) (ak 1 rfl) rfl y1 uO qx BG⟩
        ·have o3:=gJ 3 rfl;change a.tmps[3]?.getD undef=.pointer (some ⟨b,0,none⟩)at o3;go_simp;exact Dk
        ·have e43:=(ev 7 43 rfl (ak 7 rfl)).trans (hJ.iO 7 _ rfl (ak 7 rfl));obtain⟨s9,k9,y1,y2,y3⟩:=hJ.va (ak 6 rfl);obtain⟨a9,c9,hV⟩:=b_ y2;have e42:=(ev 6 42 rfl (ak 6 rfl)).trans hV;have hb:=hJ.blk;rw[hL]at hb;have iM:∃v,X.cell? ⟨b,1,none⟩=some v:=⟨_,ah hb 1 _ rfl⟩;obtain⟨vc,Hy⟩:=iM;have hfz:X.frozen? ⟨b,1,none⟩=false:=aH hb 1;go_simp;exact⟨undef,by rw[dV.o];exact hJ.put zi.o (ak 6 rfl) (fun u hu=>by cases hu) (bV.setCell _ _ jd) (by rw[←hV];exact aU hb 1 (V 6)) undef⟩
       case hdone=>intro L V X hall hJ;rw[dV.o]at hJ;obtain⟨s9,k9,v9,h1,h2,h3,h4,h5,h6⟩:=hJ.done (hall 4 dc) (hall 6 dc) (hall 8 dc);(have GR:bI R.l j=.ok s9 k9:=by rw[←HR1.o];exact h1);have hsz:=fU HL.o qA.o.rd.lt GR;rw[UN];simp only[lX,dZ,F5,Ef];(have F6:Hid (r=(if bH R.l k9 [44]then kC gn R.l (k9+1) ls (ts++[s9])else(aI R.l k9 [62]).bind fun _ j=>.ok ⟨ls,(ts++[s9])⟩ j)):=by show _=_;rw[F7.o,GR];rfl);have lI:Hid (N2 9 (fun va vb=>.cells #[va,vb] 42 (0,0)) R w1 b d X k9 ls (ts++[s9]) (.slice oa ls.length oc) v9):=qA.o.pushB hrb hbw h2 h3 h4 h5 h6 hsz Ja;clear hJ hall h1 h2 h3 h4 h5 h6 GR hsz;go_wp2_with fail;go_meet;case rel=>exact⟨k9,_,_,_,_,F6.o,lI.o⟩
     case rest=>
      obtain⟨jn,la,lb,va,vb,hrn,hls⟩:=hcut;obtain⟨w9,rfl⟩:=bn wc;obtain⟨a1,c1,rfl⟩:=b_ hls.oa;obtain⟨a2,c2,rfl⟩:=b_ hls.ob;have iF:=ai hls;have zH:=ai hrn;clear hls hrn;have p0:=dh.o w9 iF.o.st;go_wp2_with fail;cases hc:bH R.l jn [44]with
      |true=>
       have HC:=ai hc;clear hc;refine(dw R HL.o ⟨#[44]⟩ _ jn d iF.o.rd dc HC.o).mono ?_;rintro e wa ⟨rfl,hra,sa⟩;have jD:=ai (iF.o.read hrb om hra sa);(have Tj:Hid (r=kC gn R.l (jn+1) la lb):=by show _=_;rw[zH.o,HC.o,if_pos rfl]);clear hra sa p0;go_wp2_with fail;go_roundg gn;case rel=>exact⟨by omega,jn+1,la,lb,_,_,Tj.o,jD.o⟩
       case measure=>omega
      |false=>
       have HC:=ai hc;clear hc;refine(dX R HL.o ⟨#[44]⟩ _ jn d iF.o.rd dc HC.o).mono ?_;rintro e wa ⟨rfl,hra,sa⟩;have jD:=ai (iF.o.read hrb om hra sa);(have Tj:Hid (r=(aI R.l jn [62]).bind fun _ j=>.ok ⟨la,lb⟩ j):=by show _=_;rw[zH.o,HC.o,if_neg dc]);clear hra sa p0;have p0:=dh.o wa jD.o.st;go_wp2_with fail;refine(dO R HL.o wa.heap.size ⟨#[62]⟩ _ jn d (jD.o.rd.quiet (bV.alloc _)) dc (ah (aB _ _) 0 _ rfl)).mono ?_;rintro e wb hp;have hp2:aJ R d iR (aI R.l jn [62]) _ e wb:=hp;cases hn:aI R.l jn [62]with
       |out=>exact(dH hn).elim
       |err c ln col=>rw[hn]at hp2;obtain⟨rfl,sb⟩:=hp2;exact⟨rfl,aJ.aW c ln col (by rw[Tj.o,hn];rfl) rfl (gI.o _ (jD.o.err (((Step.refl (·=R.rb) _).alloc _).trans sb)))⟩
       |ok u2 jz=>have VE:=ai hn;rw[hn]at hp2;obtain⟨⟨v,rfl,rfl⟩,vP,sb⟩:=hp2;have uy:=ai (jD.o.read hrb om vP (((Step.refl (·=R.rb) _).alloc _).trans sb));(have Oj:Hid (r=.ok ⟨la,lb⟩ jz):=by show _=_;rw[Tj.o,VE.o];rfl);clear hn vP sb p0 hp;have q0:=ah uy.o.blk 0 _ rfl;have q1:=ah uy.o.blk 1 _ rfl;obtain⟨⟨d0,d1⟩,z0,z1⟩:=Ru (uQ.o wb uy.o.st);have HNA:=ai uy.o.names;go_wp2_with fail;refine bodyPost_ret (v:=.agg #[.slice a1 la.length c1,.slice a2 lb.length c2]) (by simp[results,Tryz.results90,go_sem,d0,d1]) rfl ?_;have hs2:Step (·=w.heap.size+1) wb ((wb.setCell ⟨w.heap.size+1,0,none⟩ (.slice a1 la.length c1)).setCell ⟨w.heap.size+1,1,none⟩ (.slice a2 lb.length c2)):=((Step.refl (·=w.heap.size+1) _).setCell _ _ jd).setCell _ _ jd;exact aJ.dQ Oj.o rfl ⟨_,_,rfl,eF.mono _ _ oi (eF.step _ _ hs2 oi HNA.o.1),eF.mono _ _ oi (eF.step _ _ hs2 oi HNA.o.2)⟩ (uy.o.rd.step hs2 oi) ((gI.o _ uy.o.st).then hs2 oi)
theorem WC (R:h_) (hl:pF R.l) (w:World) (i d:Nat) (h:bD R w i d):Calls Tryz.prog 79 #[.agg #[fM R.rb 0]] w (aJ R d Gt (.ok (pY R.l i) (ny R.l i)) w):=
 (I8 R hl w i d h).mono fun _ _ hp=>⟨⟨_,hp.1,rfl⟩,hp.2⟩
theorem H_ {R:h_} (hl:pF R.l) {i:Nat} (hi:i<R.l.length):(pY R.l i).size≤9223372036854775807:=by
 unfold pY;split
 ·exact Ac (hl.text _ (List.mem_of_getElem? (uM hi)))
 ·decide
structure AJ (R:h_) (i0 d:Nat) (w1:World) (zc:Array Value) (nc:ByteArray→Array Value) (T:Nat) (r1:dB ByteArray) (ic ib il iz:Nat) (vals:List (Option Value)) (L:Nat→Bool) (V:Nat→Value) (X:World):Prop where
 iO:∀(i:Nat) v,vals[i]?=some (some v)→L i=true→V i=v
 vc:L ic=true→∃s k,r1=.ok s k∧V ic=.string s
 vb:L ib=true→∃s k,r1=.ok s k∧V ib=.agg (nc s)
 vl:L il=true→∃b,V il=.pointer (some ⟨b,0,none⟩)∧w1.heap.size≤b∧(L iz=false→X.heap[b]?=some (.cells zc T (0,0)))∧(L iz=true→∃s k,r1=.ok s k∧X.heap[b]?=some (.cells (nc s) T (0,0)))
 rd:∃i,bD R X i d∧cond (L ic) (∃s,r1=.ok s i) (i=i0)
 st:Step (·=R.rb) w1 X
 qb:L ib=true→L ic=true
 qz:L iz=true→L ib=true∧L il=true
 qc:L ic=true→L 2=true
theorem AB {L:Nat→Bool} (i:Nat) {k:Nat} (h:L k=true):dN L i k=true:=by
 by_cases e:k=i
 ·rw[e];exact jY _ _
 ·rw[aA _ e];exact h
section
variable {R : h_} {i0 d : Nat} {w1 : World} {zc : Array Value} {nc : ByteArray → Array Value} {T : Nat} {r1 : dB ByteArray} {ic ib il iz : Nat} {vals : List (Option Value)} {L : Nat → Bool} {V : Nat → Value} {X X' : World}
theorem AJ.zero (hs:jP w1 X) (hr:bD R w1 i0 d):AJ R i0 d w1 zc nc T r1 ic ib il iz vals (fun _=>false) V X:=
 ⟨fun _ _ _ h=>(nomatch h),lW,lW,lW,⟨i0,hr.quiet hs,rfl⟩,hs.mono fe,lW,lW,lW⟩
theorem AJ.up (h:AJ R i0 d w1 zc nc T r1 ic ib il iz vals L V X) (i:Nat) {v:Value} (hv:vals[i]?=some (some v)) (h1:i≠ic) (h2:i≠ib) (h3:i≠il) (h4:i≠iz):AJ R i0 d w1 zc nc T r1 ic ib il iz vals (dN L i) (gY V i v) X:=by
 refine⟨jk h.iO i v (fun u hu=>by rw[hv]at hu;cases hu;rfl),?_,?_,?_,?_,h.st,?_,?_,fun e=>AB i (h.qc (by rw[aA _ (Ne.symm h1)]at e;exact e))⟩
 ·rw[aA _ (Ne.symm h1),bZ _ _ (Ne.symm h1)];exact h.vc
 ·rw[aA _ (Ne.symm h2),bZ _ _ (Ne.symm h2)];exact h.vb
 ·rw[aA _ (Ne.symm h3),bZ _ _ (Ne.symm h3),aA _ (Ne.symm h4)];exact h.vl
 ·rw[aA _ (Ne.symm h1)];exact h.rd
 ·rw[aA _ (Ne.symm h2),aA _ (Ne.symm h1)];exact h.qb
 ·rw[aA _ (Ne.symm h4),aA _ (Ne.symm h2),aA _ (Ne.symm h3)];exact h.qz
theorem AJ.move (h:AJ R i0 d w1 zc nc T r1 ic ib il iz vals L V X) (hs:jP X X'):AJ R i0 d w1 zc nc T r1 ic ib il iz vals L V X':=by
 refine⟨h.iO,h.vc,h.vb,?_,?_,h.st.trans (hs.mono fe),h.qb,h.qz,h.qc⟩
 ·intro e;obtain⟨b,h1,h2,h3,h4⟩:=h.vl e;refine⟨b,h1,h2,fun e2=>hs.keep (h3 e2) (fun h=>h),fun e2=> ?_⟩;obtain⟨s,k,h5,h6⟩:=h4 e2;exact⟨s,k,h5,hs.keep h6 (fun h=>h)⟩
 ·obtain⟨i,h1,h2⟩:=h.rd;exact⟨i,h1.quiet hs,h2⟩
theorem AJ.I_ (h:AJ R i0 d w1 zc nc T r1 ic ib il iz vals L V X) (hL:L ic=false):L iz=false:=by
 cases e:L iz with
 |false=>rfl
 |true=>rw[h.qb (h.qz e).1]at hL;cases hL
theorem AJ.call (hne:ic≠ib∧ic≠il∧ic≠iz) (hw:R.rb<w1.heap.size) (h:AJ R i0 d w1 zc nc T r1 ic ib il iz vals L V X) (hL:L ic=false) (h2:L 2=true) (kZ:vals[ic]?=some none) (hs:Step (·=R.rb) X X') {k:Nat} (hr:bD R X' k d) {s:ByteArray} (hx:r1=.ok s k):AJ R i0 d w1 zc nc T r1 ic ib il iz vals (dN L ic) (gY V ic (.string s)) X':=by
 have hZ:=h.I_ hL;obtain⟨n1,n2,n3⟩:=hne;refine⟨jk h.iO ic _ (fun u hu=>by rw[kZ]at hu;cases hu),fun _=>⟨s,k,hx,mg _ _ _⟩,?_,?_,⟨k,hr,by rw[jY];exact⟨s,hx⟩⟩,h.st.trans hs,fun _=>jY _ _,?_,fun _=>AB ic h2⟩
 ·rw[aA _ (Ne.symm n1),bZ _ _ (Ne.symm n1)];exact h.vb
 ·rw[aA _ (Ne.symm n2),bZ _ _ (Ne.symm n2),aA _ (Ne.symm n3)];intro e;obtain⟨b,h1,h2,h3,h4⟩:=h.vl e;exact⟨b,h1,h2,fun e2=>hs.keep (h3 e2) om,fun e2=>by rw[hZ]at e2;cases e2⟩
 ·rw[aA _ (Ne.symm n3),hZ];intro e;cases e
theorem AJ.build (hne:ic≠ib∧ib≠il∧ib≠iz) (h:AJ R i0 d w1 zc nc T r1 ic ib il iz vals L V X) (hC:L ic=true) (hL:L ib=false) (kZ:vals[ib]?=some none) {s:ByteArray} (hs:V ic=.string s):AJ R i0 d w1 zc nc T r1 ic ib il iz vals (dN L ib) (gY V ib (.agg (nc s))) X:=by
 obtain⟨n1,n2,n3⟩:=hne;refine⟨jk h.iO ib _ (fun u hu=>by rw[kZ]at hu;cases hu),?_,?_,?_,?_,h.st,?_,?_,fun _=>AB ib (h.qc hC)⟩
 ·rw[aA _ n1,bZ _ _ n1];exact h.vc
 ·intro _;obtain⟨s',k,h1,h2⟩:=h.vc hC;rw[hs]at h2;cases h2;exact⟨s,k,h1,mg _ _ _⟩
 ·rw[aA _ (Ne.symm n2),bZ _ _ (Ne.symm n2),aA _ (Ne.symm n3)];exact h.vl
 ·rw[aA _ n1];exact h.rd
 ·intro _;rw[aA _ n1];exact hC
 ·rw[aA _ (Ne.symm n3)];intro e;obtain⟨h1,h2⟩:=h.qz e;rw[hL]at h1;cases h1
theorem AJ.alloc (hne:ic≠il∧ib≠il∧il≠iz) (h:AJ R i0 d w1 zc nc T r1 ic ib il iz vals L V X) (hL:L il=false) (kZ:vals[il]?=some none):AJ R i0 d w1 zc nc T r1 ic ib il iz vals (dN L il) (gY V il (.pointer (some ⟨X.heap.size,0,none⟩))) (X.alloc (.cells zc T)):=by
 obtain⟨n1,n2,n3⟩:=hne;have hZ:L iz=false:=by
  cases e:L iz with
  |false=>rfl
  |true=>rw[(h.qz e).2]at hL;cases hL
 have hs:jP X (X.alloc (.cells zc T)):=bV.alloc _;refine⟨jk h.iO il _ (fun u hu=>by rw[kZ]at hu;cases hu),?_,?_,?_,?_,h.st.alloc _,?_,?_,fun e=>AB il (h.qc (by rw[aA _ n1]at e;exact e))⟩
 ·rw[aA _ n1,bZ _ _ n1];exact h.vc
 ·rw[aA _ n2,bZ _ _ n2];exact h.vb
 ·intro _;refine⟨X.heap.size,mg _ _ _,h.st.size,fun _=>aB _ _,fun e=> ?_⟩;rw[aA _ (Ne.symm n3),hZ]at e;cases e
 ·rw[aA _ n1];obtain⟨i,h1,h2⟩:=h.rd;exact⟨i,h1.quiet hs,h2⟩
 ·rw[aA _ n2,aA _ n1];exact h.qb
 ·rw[aA _ (Ne.symm n3),hZ];intro e;cases e
theorem AJ.put (hne:ic≠iz∧ib≠iz∧il≠iz) (hw:R.rb<w1.heap.size) (h:AJ R i0 d w1 zc nc T r1 ic ib il iz vals L V X) (hB:L ib=true) (hA:L il=true) (kZ:∀u,vals[iz]?=some (some u)→False) {s:ByteArray} {k:Nat} (hx:r1=.ok s k) {b:Nat} (hp:V il=.pointer (some ⟨b,0,none⟩)) (hs:Step (·=b) X X') (hb:X'.heap[b]?=some (.cells (nc s) T (0,0))) (v:Value):AJ R i0 d w1 zc nc T r1 ic ib il iz vals (dN L iz) (gY V iz v) X':=by
 obtain⟨n1,n2,n3⟩:=hne;obtain⟨b',h1,h2,-,-⟩:=h.vl hA;rw[hp]at h1;cases h1;refine⟨jk h.iO iz _ (fun u hu=>(kZ u hu).elim),?_,?_,?_,?_,h.st.then hs oi,?_,?_,fun e=>AB iz (h.qc (by rw[aA _ n1]at e;exact e))⟩
 ·rw[aA _ n1,bZ _ _ n1];exact h.vc
 ·rw[aA _ n2,bZ _ _ n2];exact h.vb
 ·intro _;rw[bZ _ _ n3];exact⟨b,hp,h2,fun e=>(by rw[jY]at e;cases e),fun _=>⟨s,k,hx,hb⟩⟩
 ·rw[aA _ n1];obtain⟨i,h3,h4⟩:=h.rd;exact⟨i,h3.step hs oi,h4⟩
 ·rw[aA _ n2,aA _ n1];exact h.qb
 ·intro _;rw[aA _ n2,aA _ n3];exact⟨hB,hA⟩
theorem AJ.done (h:AJ R i0 d w1 zc nc T r1 ic ib il iz vals L V X) (hC:L ic=true) (hA:L il=true) (hZ:L iz=true):∃s k b,r1=.ok s k∧V il=.pointer (some ⟨b,0,none⟩)∧bD R X k d∧w1.heap.size≤b∧X.heap[b]?=some (.cells (nc s) T (0,0))∧Step (·=R.rb) w1 X:=by obtain⟨b,h1,h2,-,h3⟩:=h.vl hA;obtain⟨s,k,h4,h5⟩:=h3 hZ;obtain⟨i,h6,h7⟩:=h.rd;rw[hC]at h7;obtain⟨s',h8⟩:∃s,r1=.ok s i:=h7;rw[h4]at h8;cases h8;exact⟨s,k,b,h4,h1,h6,h2,h5,h.st⟩
end
end Go.Proofs.YtggjfinekcenpaaGreat
