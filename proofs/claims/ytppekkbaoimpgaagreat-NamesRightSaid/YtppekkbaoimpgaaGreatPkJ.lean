import Derived.Test.YtppekkbaoimpgaaGreatPkI
import Derived.Maps.OwnSet
set_option maxRecDepth 100000
set_option maxHeartbeats 80000000
namespace Go.Proofs.YtppekkbaoimpgaaGreat
open Go.RowKit
theorem ilQ {p:Prop} (h:p:=by exact fun _ _ e=>.inl e):p:=h
open Vt
theorem WC (w:World) (base t size:Nat) (cs:List Value) (h:cs.length=size) (hb:base≤w.heap.size):(w.alloc (.cells cs.toArray t)).ownsRow base t size (.slice (some ⟨w.heap.size,0,none⟩) 1 1) 1 cs:=
 ⟨by omega,.inr ⟨w.heap.size,1,cs.toArray,rfl,hb,aC _ _,Nat.le_refl _,by unfold maxLen;omega,by simp[h],by simp[←h]⟩⟩
theorem Ja:∀(f:Nat) (l:List Tok) (i d:Nat) (acc al:List Ex) (k:Nat),rJ f l i d acc=.ok al k→al.length≤8
 |0,l,i,d,acc,al,k,h=>by rw[rJ]at h;cases h
 |f+1,l,i,d,acc,al,k,h=>by
  rw[rJ]at h
  by_cases h8:8≤acc.length
  ·
   rw[eY,if_pos h8]at h;cases h
  ·
   rw[eY,if_neg h8,dV.bind_ok]at h
   cases hx:bG f l i d 0 with
   |out=>rw[hx]at h;cases h
   |err c ln col=>rw[hx]at h;cases h
   |ok x j=>
    rw[hx,dV.bind_ok]at h
    split at h
    ·
     exact Ja f l (j+1) d _ al k h
    ·
     cases hn:aH l j [41]with
     |out=>rw[hn]at h;cases h
     |err c ln col=>rw[hn]at h;cases h
     |ok u j2=>rw[hn,dV.bind_ok]at h;cases h;simp;omega
theorem TI (f:Nat) (l:List Tok) (i d:Nat) (al:List Ex) (k:Nat) (h:lZ f l i d=.ok al k):al.length≤8:=by
 cases f with
 |zero=>rw[lZ]at h;cases h
 |succ f=>
  rw[lZ]at h;split at h
  ·cases h;simp
  ·exact Ja f l i d [] al k h
structure PoJ (R:gJ) (j1 d bx bp bq:Nat) (w6:World) (nm:ByteArray) (tl tc:Int) (xc:List Value) (x:Ex) (PX:Nat→Prop) (r1:dV (List Ex)) (L:Nat→Bool) (V:Nat→Value) (X:World):Prop where
 p0:L 0=true→V 0=.string nm
 p1:L 1=true→V 1=.agg xc.toArray
 p2:L 2=true→L 5=false→True∧X.ownsRow w6.heap.size 56 9 (V 2) 1 xc
 p3:L 3=true→V 3=.agg #[eU R.rb 0]
 p4:L 4=true→L 5=false→∃l k xs,r1=.ok l k∧cu X (fun q=>w6.heap.size≤q) (V 4) l.length xs∧dM X (fun q=>w6.heap.size≤q∧(L 2=true→(V 2).ownBlock≠some q)) l xs
 p5:L 5=true→∃l k c a,r1=.ok l k∧V 5=.slice a (1+l.length) c∧iP X PX (x::l) (V 5)
 p6:L 6=true→V 6=.agg #[ak tl,ak tc]
 p7:L 7=true→V 7=.agg #[ak 13,a_ nm,cO 0,aT,V 5,ay,ay,ak tl,ak tc]
 rd:∃i,bI R X i d∧cond (L 4) (∃l,r1=.ok l i) (i=j1)
 st:Step (fun q=>q=R.rb∨q=bx) w6 X
 x0:L 8=false→X.heap[bx]?=some (.cells xc.toArray 56 (0,0))
 x1:L 8=true→X.heap[bx]?=some (.cells #[ak 13,a_ nm,cO 0,aT,V 5,ay,ay,ak tl,ak tc] 56 (0,0))
 LJ:X.cell? ⟨bp,0,none⟩=some (.pointer (some ⟨R.rb,0,none⟩))
 Ia:X.heap[bq]?=some (.cells #[ak tl,ak tc] 25 (0,0))
 ex:fA X (fun q=>PX q∧q<w6.heap.size) x xc
 q2:L 2=true→L 1=true
 q5:L 5=true→L 2=true∧L 4=true
 q7:L 7=true→L 0=true∧L 5=true∧L 6=true
 q8:L 8=true→L 1=true∧L 7=true
theorem TJ (f:Nat) (ihP:O0 f) (ihI:∀f',f'<f→FC f'):JM (f+1):=by
 intro R w i d hl h hd hno;have HL:=au hl;have H0:=au h;have IHP:=au ihP;have IHI:=au ihI;obtain⟨r,hr⟩:=aN (xJ (f+1) R.l i d);have HRR:Hid (r=(wP f R.l i d).bind fun x j=>nG f R.l j d x):=by show _=_;rw[hr,xJ]
 rw[←hr]at hno⊢;have eX:=au hno;have rU:=aK h.blk;obtain⟨i0,hi0,hz0,hz1,hz2⟩:=info_parts Tryz.FD;have HI:=au hi0;have HZ0:=au hz0;have HZ1:=au hz1;have HZ2:=au hz2;obtain⟨w1,hw1⟩:=aN ((w.alloc (.cells #[eU R.rb 0] 97)).alloc (.cells #[ak 0,di,cO 0,aT,ay,ay,ay,ak 0,ak 0] 56));have dH:=nT hw1
 have kL:=nC hw1
 have kT:=nD hw1
 have HW1:=au hw1;have H1:=au (h.quiet dH.o);have hn1:=aK kT.o;have p0:w1.cell? ⟨w.heap.size,0,none⟩=some (.pointer (some ⟨R.rb,0,none⟩)):=aj kL.o 0 _ rfl;clear ihP ihI hl h hno hr hw1 hi0 hz0 hz1 hz2;go_enter Tryz.func197,Tryz.ntmps197;go_upto_region 1 with fail
 rw[←HW1.o];go_wp2_with fail;refine(IHP.o R w1 i d HL.o H1.o hd (fun e=>eX.o (by rw[HRR.o,e];rfl))).mono ?_;rintro e wx hp;have hp2:aJ R d (OZ w1.heap.size) (wP f R.l i d) _ e wx:=hp;cases hx:wP f R.l i d with
 |out=>exact absurd (by rw[HRR.o,hx];rfl) eX.o
 |err c ln col=>rw[hx]at hp2;obtain⟨rfl,sq⟩:=hp2;exact⟨rfl,aJ.aZ c ln col (by rw[HRR.o,hx];rfl) rfl ((dH.o.mono fe).trans sq)⟩
 |ok x jx=>
  have HX:=au hx;rw[hx]at hp2;obtain⟨⟨v,rfl,cs,rfl,hy⟩,hrx,hsx⟩:=hp2;have HY:=au hy;obtain⟨k0,jf,v0,jg,a1,n1,c1,a2,n2,c2,a3,n3,c3,l0,c0,rfl⟩:=hy.parts;have vX:=au hrx;have rQ:Hid (Step (·=R.rb) w1 wx):=hsx;have HR3:Hid (r=nG f R.l jx d x):=by show _=_;rw[HRR.o,HX.o];rfl
  have hzx:=hsx.size;obtain⟨w3,hw3⟩:=aN (wx.alloc (.cells #[ak k0,a_ jf,cO v0,dW jg,.slice a1 n1 c1,.slice a2 n2 c2,.slice a3 n3 c3,ak l0,ak c0] 56));have fK:=nS hw3
  have HB3:=nB hw3
  have kK:Hid (Step (·=R.rb) w1 w3):=rQ.o.trans (fK.o.mono fe);have HW3:=au hw3;clear hx hp hy hrx hsx p0 hw3;have hxb:=aK HB3.o;have hz3:=fK.o.size;have HEX3:Hid (fA w3 (fun q=>w1.heap.size≤q∧q≠wx.heap.size) x [.int .i64 k0,.string jf,.int .u64 v0,.bool jg,.slice a1 n1 c1,.slice a2 n2 c2,.slice a3 n3 c3,.int .i64 l0,.int .i64 c0]):=fA.step fK.o (fun _ _ h=>h) _ _ (fA.mono (fun q hq hh=>⟨by omega,by omega⟩) _ _ HY.o);have VA:Hid (Ba R w1 w3 wx.heap.size d w3 jx x [.int .i64 k0,.string jf,.int .u64 v0,.bool jg,.slice a1 n1 c1,.slice a2 n2 c2,.slice a3 n3 c3,.int .i64 l0,.int .i64 c0]):=⟨vX.o.quiet fK.o,HB3.o,HEX3.o,Step.refl _ _⟩;go_upto_block 0 with fail
  rw[←HW3.o];obtain⟨bx,hbx⟩:=aN wx.heap.size;rw[←hbx]at VA hxb⊢;have hbx1:w1.heap.size≤bx:=by omega
  have yY:=au (kK.o.keep kL.o om);have tJ:=au (kK.o.keep kT.o om);have Ib:Hid (∀X:World,Step (fun q=>q=R.rb∨q=bx) w3 X→X.cell? ⟨w.heap.size,0,none⟩=some (.pointer (some ⟨R.rb,0,none⟩))∧X.heap[w.heap.size+1]?=some (.cells #[ak 0,di,cO 0,aT,ay,ay,ay,ak 0,ak 0] 56 (0,0))):=fun X hX=>⟨aj (hX.keep yY.o om) 0 _ rfl,hX.keep tJ.o om⟩
  have JP:Hid (Step (·=R.rb) w w3):=(dH.o.mono fe).trans kK.o;have gK:Hid (∀X:World,Step (fun q=>q=R.rb∨q=bx) w3 X→Step (·=R.rb) w X):=fun X hX=>JP.o.then hX oi
  clear hbx;go_wp2_with fail;go_loopg [5] f (fun gg s5 wr=>gg≤f∧∃(i':Nat) (x:Ex) (cs:List Value),r=nG gg R.l i' d x∧Ba R w1 w3 bx d wr i' x cs);case atStart=>exact⟨Nat.le_refl _,jx,x,_,HR3.o,VA.o⟩
  case round=>
   obtain⟨hgf,i',x,cs,hrq,hst⟩:=hrel;obtain⟨gn,rfl⟩:∃gn,gk=gn+1:=by
    cases gk with
    |zero=>exact absurd hrq (by rw[nG];exact eX.o)
    |succ gn=>exact⟨gn,rfl⟩
   obtain⟨k0,jf,v0,jg,a1,n1,c1,a2,n2,c2,a3,n3,c3,l0,c0,rfl⟩:=hst.ex.parts;have HST:=au hst;obtain⟨p0,-⟩:=Ib.o wr hst.st;obtain⟨tk,htk⟩:=aN (tokA R.l i');(have HRQ:Hid (r=if bF R.l i' [46]then(aS R.l (i'+1)).bind fun n j=>if bF R.l j [40]then(lZ gn R.l (j+1) d).bind fun al j=>nG gn R.l j d (dm 13 n 0 false (x::al) [] [] tk)else nG gn R.l j d (dm 6 n 0 false [x] [] [] tk)else .ok x i'):=by show _=_;rw[hrq,nG,htk]);have HAT:=au (at_at R wr i' d tk hst.rd (by rw[htk];exact hst.rd.tok));clear hrq hst htk;(go_upto_region 2 with fail);go_wp2_with fail;refine HAT.o.mono ?_;rintro e w4 ⟨rfl,h4⟩;have fC:=au (HST.o.quiet h4);obtain⟨w5,hw5⟩:=aN (w4.alloc (.cells #[ak tk.line,ak tk.col] 25));(have oD:Hid (StF w4 w5):=by rw[hw5];exact bK.alloc _);(have HQ5:Hid (w5.heap[w4.heap.size]?=some (.cells #[ak tk.line,ak tk.col] 25 (0,0))):=by rw[hw5];exact aC _ _);have mD:=au (fC.o.quiet oD.o);have hz4:=fC.o.st.size;have hz5:=oD.o.size;have HW5:=au hw5;clear h4 hw5 p0;obtain⟨p0,-⟩:=Ib.o w5 mD.o.st;(go_upto_region 3 with fail);rw[←HW5.o];go_wp2_with fail;cases hb:bF R.l i' [46]with
   |false=>
    have HB:=au hb;clear hb;refine(dQ R HL.o ⟨#[46]⟩ _ i' d mD.o.rd dc HB.o).mono ?_;rintro e w6 ⟨rfl,qj,h6⟩;have fG:=au (mD.o.read om om qj h6);(have mP:=au (HRQ.o.trans (LD HB.o)));have eG:=au fG.o.ex.one;(have iD:Hid (∀(jj:Nat) v,[Value.int .i64 k0,a_ jf,cO v0,dW jg,.slice a1 n1 c1,.slice a2 n2 c2,.slice a3 n3 c3,ak l0,ak c0][jj]?=some v→w6.cell? ⟨bx,0+jj,none⟩=some v):=by intro jj v hv;rw[Nat.zero_add];exact aj fG.o.blk jj v rF);have pX:=au (Ib.o w6 fG.o.st).2;clear qj h6 p0;go_wp2_with (first
     |(refine aA rfl 56 (.tmp 3) rfl bx 0 rfl [.int .i64 k0,.string jf,.int .u64 v0,.bool jg,.slice a1 n1 c1,.slice a2 n2 c2,.slice a3 n3 c3,.int .i64 l0,.int .i64 c0] _ iD.o Tryz.underlying56 rfl Tryz.bf ?_)
     |(refine aG (w:=w6) rfl 56 (.tmp 2) (.tmp 15) rfl (w.heap.size+1) 0 56 _ [.int .i64 k0,.string jf,.int .u64 v0,.bool jg,.slice a1 n1 c1,.slice a2 n2 c2,.slice a3 n3 c3,.int .i64 l0,.int .i64 c0] rfl rfl pX.o Tryz.bf (Nat.le_of_eq rfl) eG.o ?_;intro w7 hb7 uP))
    have hb7':w7.heap[w.heap.size+1]?=some (.cells [Value.int .i64 k0,a_ jf,cO v0,dW jg,.slice a1 n1 c1,.slice a2 n2 c2,.slice a3 n3 c3,ak l0,ak c0].toArray 56 (0,0)):=hb7;refine bodyPost_ret (aY rfl _ (w.heap.size+1) 56 _ _ rfl hb7' Tryz.underlying56 rfl Tryz.bf) rfl ?_;have hz1:=dH.o.size;refine aJ.dU mP.o rfl ⟨_,rfl,fA.mono (fun q _ hq=>by have:=hq.1;omega) _ _ (fA.step uP (fun q hq e=>by have:=hq.1;omega) _ _ fG.o.ex)⟩ (fG.o.rd.step uP oi) ?_;exact(gK.o _ fG.o.st).then uP oi
   |true=>
    have HB:=au hb;clear hb;refine(dA R HL.o ⟨#[46]⟩ _ i' d mD.o.rd dc HB.o).mono ?_;rintro e w6 ⟨rfl,qj,h6⟩;have fG:=au (mD.o.read om om qj h6);have HQ6:=au (h6.keep HQ5.o om);(have oK:=au (HRQ.o.trans (if_pos HB.o)));clear qj h6 p0;obtain⟨p0,-⟩:=Ib.o w6 fG.o.st;go_wp2_with fail;refine(name_any R HL.o _ (i'+1) d fG.o.rd).mono ?_;rintro e w7 hp;have hp2:aJ R d Hy (aS R.l (i'+1)) _ e w7:=hp;cases hn:aS R.l (i'+1)with
    |out=>exact(iV hn).elim
    |err c ln col=>rw[hn]at hp2;obtain⟨rfl,hs⟩:=hp2;exact⟨rfl,aJ.aZ c ln col (by rw[oK.o,hn];rfl) rfl (gK.o _ (fG.o.st.trans (hs.mono ilQ)))⟩
    |ok nm j=>
     have HN:=au hn;have S9:=au (fV HL.o fG.o.rd.lt hn);rw[hn]at hp2;obtain⟨⟨v,rfl,rfl⟩,hr,hs⟩:=hp2;have pU:=au (fG.o.read om om hr hs);have HQ7:=au (hs.keep HQ6.o om);(have o_:Hid (r=if bF R.l j [40]then(lZ gn R.l (j+1) d).bind fun al j=>nG gn R.l j d (dm 13 nm 0 false (x::al) [] [] tk)else nG gn R.l j d (dm 6 nm 0 false [x] [] [] tk)):=by show _=_;rw[oK.o,HN.o];rfl);clear hn hr hs hp p0;obtain⟨p0,-⟩:=Ib.o w7 pU.o.st;go_wp2_with fail;cases hb:bF R.l j [40]with
     |false=>
      have HC:=au hb;clear hb;refine(dQ R HL.o ⟨#[40]⟩ _ j d pU.o.rd dc HC.o).mono ?_;rintro e w8 ⟨rfl,vW,h8⟩;have jO:=au (pU.o.read om om vW h8);have HQ8:=au (h8.keep HQ7.o om);(have mP:=au (o_.o.trans (LD HC.o)));(have iD:Hid (∀(jj:Nat) v,[Value.int .i64 k0,a_ jf,cO v0,dW jg,.slice a1 n1 c1,.slice a2 n2 c2,.slice a3 n3 c3,ak l0,ak c0][jj]?=some v→w8.cell? ⟨bx,0+jj,none⟩=some v):=by intro jj v hv;rw[Nat.zero_add];exact aj jO.o.blk jj v rF);obtain⟨w9,VI⟩:=aN (w8.alloc (.cells #[ak k0,a_ jf,cO v0,dW jg,.slice a1 n1 c1,.slice a2 n2 c2,.slice a3 n3 c3,ak l0,ak c0] 56));(have Ov:Hid (StF w8 w9):=by rw[VI];exact bK.alloc _);(have HG9:Hid (w9.heap[w8.heap.size]?=some (.cells #[ak k0,a_ jf,cO v0,dW jg,.slice a1 n1 c1,.slice a2 n2 c2,.slice a3 n3 c3,ak l0,ak c0] 56 (0,0))):=by rw[VI];exact aC _ _);have iR:=au (jO.o.quiet Ov.o);have Za:Hid (w8.alloc (.cells #[ak k0,a_ jf,cO v0,dW jg,.slice a1 n1 c1,.slice a2 n2 c2,.slice a3 n3 c3,ak l0,ak c0] 56)=w9):=VI.symm;have hq:=Ov.o.keep HQ8.o (fun h=>h);have q0:=aj hq 0 _ rfl;have q1:=aj hq 1 _ rfl;rw[VI]at q0 q1;have Eh:Hid (∀u∈[Value.int .i64 6,a_ nm,cO 0,aT,.slice (some ⟨w8.heap.size,0,none⟩) 1 1,ay,ay,ak tk.line,ak tk.col],u.oneCell'=true):=aU rfl;have hg9:=aK HG9.o;have hz8:=jO.o.st.size;clear vW h8 p0 VI hq;go_wp2_with (first
       |(refine aA rfl 56 (.tmp 3) rfl bx 0 rfl [.int .i64 k0,.string jf,.int .u64 v0,.bool jg,.slice a1 n1 c1,.slice a2 n2 c2,.slice a3 n3 c3,.int .i64 l0,.int .i64 c0] _ iD.o Tryz.underlying56 rfl Tryz.bf ?_)
       |(rw[Za.o];refine aG (w:=w9) rfl 56 (.tmp 3) (.tmp 27) rfl bx 0 56 _ [.int .i64 6,.string nm,.int .u64 0,.bool false,.slice (some ⟨w8.heap.size,0,none⟩) 1 1,.slice none 0 0,.slice none 0 0,.int .i64 tk.line,.int .i64 tk.col] rfl rfl iR.o.blk Tryz.bf (Nat.le_of_eq rfl) Eh.o ?_;intro wa hba hsa))
      have hba':wa.heap[bx]?=some (.cells [Value.int .i64 6,a_ nm,cO 0,aT,.slice (some ⟨w8.heap.size,0,none⟩) 1 1,ay,ay,ak tk.line,ak tk.col].toArray 56 (0,0)):=hba;(have lI:Hid (Ba R w1 w3 bx d wa j (dm 6 nm 0 false [x] [] [] tk) [.int .i64 6,.string nm,.int .u64 0,.bool false,.slice (some ⟨w8.heap.size,0,none⟩) 1 1,.slice none 0 0,.slice none 0 0,.int .i64 tk.line,.int .i64 tk.col]):=by refine⟨iR.o.rd.step hsa oi,hba',?_,iR.o.st.trans (hsa.mono ir)⟩;exact Bf.mk S9.o (iP.single (fA.step hsa (fun q hq e=>hq.2 e) _ _ iR.o.ex) (hsa.keep HG9.o om) ⟨by omega,by omega⟩) (bV.nil _ _) (gX.nil _ _));clear hba hba' hsa q0 q1;(try go_wp2_with fail);go_roundg gn;case rel=>exact⟨by omega,j,_,_,mP.o,lI.o⟩
      case measure=>omega
     |true=>
      have HC:=au hb;clear hb;refine(dA R HL.o ⟨#[40]⟩ _ j d pU.o.rd dc HC.o).mono ?_;rintro e w8 ⟨rfl,vW,h8⟩;have jO:=au (pU.o.read om om vW h8);have HQ8:=au (h8.keep HQ7.o om);(have mP:=au (o_.o.trans (if_pos HC.o)));obtain⟨p0,-⟩:=Ib.o w8 jO.o.st;have hz8:=jO.o.st.size;have TK:=aK HQ8.o;have hblt:=aK jO.o.blk;obtain⟨r1,hr1⟩:=aN (lZ gn R.l (j+1) d);have HR1:=au hr1;(have HRE2:Hid (r=r1.bind fun al j=>nG gn R.l j d (dm 13 nm 0 false (x::al) [] [] tk)):=by show _=_;rw[mP.o,hr1]);(have pG:Hid (r1≠.out):=by show _≠_;intro e;exact eX.o (by rw[HRE2.o,e];rfl));(have HFEW:Hid (∀l k,r1=.ok l k→l.length≤8):=by intro l k e;exact TI gn R.l (j+1) d l k (by rw[←HR1.o];exact e));(have xP:Hid (∀X,bI R X (j+1) d→Calls Tryz.prog 212 #[.agg #[eU R.rb 0]] X (aJ R d (SK X.heap.size) r1 X)):=by intro X hX;rw[HR1.o];exact IHI.o gn om R X (j+1) d HL.o hX hd (by rw[←HR1.o];exact pG.o));obtain⟨PX,hPX⟩:∃PX:Nat→Prop,PX=fun q=>w1.heap.size≤q∧q≠bx:=⟨_,rfl⟩;have Ef:=au hPX;(have HPX6:Hid (∀q,w8.heap.size≤q→PX q):=by intro q hq;rw[hPX];exact⟨by omega,by omega⟩);(have HPB:Hid (∀q,PX q→q≠R.rb∧q≠bx):=by intro q hq;rw[hPX]at hq;exact⟨by have:=hq.1;omega,hq.2⟩);obtain⟨Jx,hJx⟩:=aN (PoJ R (j+1) d bx w.heap.size w4.heap.size w8 nm tk.line tk.col [.int .i64 k0,.string jf,.int .u64 v0,.bool jg,.slice a1 n1 c1,.slice a2 n2 c2,.slice a3 n3 c3,.int .i64 l0,.int .i64 c0] x PX r1);have dB:=au hJx;(have HZ8:Hid (∀V,Jx (fun _=>false) V w8.drew):=by intro V;have hs:StF w8 w8.drew:=bK.drew;rw[hJx];exact⟨gQ,gQ,gQ,gQ,gQ,gQ,gQ,gQ,⟨_,jO.o.rd.quiet hs,rfl⟩,hs.mono fe,fun _=>hs.keep jO.o.blk (fun h=>h),gQ,hs.cell p0 (fun h=>h),hs.keep HQ8.o (fun h=>h),fA.step hs (fun _ _ h=>h) _ _ (fA.mono (fun q h7 h8=>⟨by rw[hPX];exact h8,h7⟩) _ _ jO.o.ex),gQ,gQ,gQ,gQ⟩);clear vW h8 p0 hJx hPX hr1;(go_upto_region 8 with fail);refine bP kr Jx 9 rfl kr kr kr kr ?h0 ?hs ?hdone;case h0=>exact HZ8.o _
      case hs=>
       refine⟨?_,?_,?_,?_,?_,?_,?_,?_,?_,trivial⟩
       all_goals (intro L V X a ev dG hdf hL ax hJ;rw[dB.o]at hJ)
       ·have o5:=dG 5 rfl;change a.tmps[5]?.getD undef=.string nm at o5;have h7:L 7=false:=by
         cases e:L 7 with
         |false=>rfl
         |true=>exact absurd ((hJ.q7 e).1) (by rw[hL];decide)
        have h8:L 8=false:=by
         cases e:L 8 with
         |false=>rfl
         |true=>exact absurd ((hJ.q8 e).2) (by rw[h7];decide)
        go_simp;exact⟨_,rfl,by rw[dB.o];exact{hJ with p0:=fun _=>rfl,q7:=fun e=>absurd (show L 7=true from e) (by rw[h7];decide)}⟩
       ·have o3:=dG 3 rfl;change a.tmps[3]?.getD undef=.pointer (some ⟨bx,0,none⟩)at o3;have h2:L 2=false:=by
         cases e:L 2 with
         |false=>rfl
         |true=>exact absurd (hJ.q2 e) (by rw[hL];decide)
        have h8:L 8=false:=by
         cases e:L 8 with
         |false=>rfl
         |true=>exact absurd (hJ.q8 e).1 (by rw[hL];decide)
        have hb:=hJ.x0 h8;refine wp_load_mid 56 (.tmp 3) rfl bx 0 (by rw[bM];exact o3) [.int .i64 k0,.string jf,.int .u64 v0,.bool jg,.slice a1 n1 c1,.slice a2 n2 c2,.slice a3 n3 c3,.int .i64 l0,.int .i64 c0] _ (fun jj v hv=>by rw[Nat.zero_add];exact aj hb jj v rF) Tryz.underlying56 rfl Tryz.bf ?_;exact⟨_,rfl,by rw[dB.o];exact{hJ with p1:=fun _=>rfl,q2:=fun e=>absurd (show L 2=true from e) (by rw[h2];decide),q8:=fun e=>absurd (show L 8=true from e) (by rw[h8];decide)}⟩
       ·have e29:=(ev 1 29 rfl (ax 1 rfl)).trans (hJ.p1 (ax 1 rfl));have h5:L 5=false:=by
         cases e:L 5 with
         |false=>rfl
         |true=>exact absurd (hJ.q5 e).1 (by rw[hL];decide)
        have hs:StF X (X.alloc (.cells #[ak k0,a_ jf,cO v0,dW jg,.slice a1 n1 c1,.slice a2 n2 c2,.slice a3 n3 c3,ak l0,ak c0] 56)):=bK.alloc _;have h48:=hJ.st.size;go_simp;refine⟨_,rfl,?_⟩;rw[dB.o];refine{hJ with p2:=fun _ _=>⟨trivial,WC X w8.heap.size 56 9 [.int .i64 k0,.string jf,.int .u64 v0,.bool jg,.slice a1 n1 c1,.slice a2 n2 c2,.slice a3 n3 c3,.int .i64 l0,.int .i64 c0] rfl h48⟩,p4:=fun e e2=> ?_,p5:=fun e=>absurd (show L 5=true from e) (by rw[h5];decide),rd:= ?_,st:=hJ.st.alloc _,x0:=fun e=>hs.keep (hJ.x0 e) (fun h=>h),x1:=fun e=>hs.keep (hJ.x1 e) (fun h=>h),LJ:=hs.cell hJ.LJ (fun h=>h),Ia:=hs.keep hJ.Ia (fun h=>h),ex:=fA.step hs (fun _ _ h=>h) _ _ hJ.ex,q2:=fun _=>ax 1 rfl,q5:=fun e=>absurd (show L 5=true from e) (by rw[h5];decide)}
        ·obtain⟨l,k,xs,y1,y2,y3⟩:=hJ.p4 e e2;refine⟨l,k,xs,y1,y2.step hs (fun _ _ h=>h),dM.step hs (fun _ _ h=>h) _ _ (dM.mono (fun q h7 h8=>⟨h8.1,fun _ e=> ?_⟩) _ _ y3)⟩;have e3:X.heap.size=q:=Option.some.inj e;omega
        ·obtain⟨i9,y1,y2⟩:=hJ.rd;exact⟨i9,y1.quiet hs,y2⟩
       ·have o1:=dG 1 rfl;change a.tmps[1]?.getD undef=.pointer (some ⟨w.heap.size,0,none⟩)at o1;have p9:=hJ.LJ;go_simp;exact⟨_,rfl,by rw[dB.o];exact{hJ with p3:=fun _=>rfl}⟩
       ·have e31:=(ev 3 31 rfl (ax 3 rfl)).trans (hJ.p3 (ax 3 rfl));have h5:L 5=false:=by
         cases e:L 5 with
         |false=>rfl
         |true=>exact absurd (hJ.q5 e).2 (by rw[hL];decide)
        have h7:L 7=false:=by
         cases e:L 7 with
         |false=>rfl
         |true=>exact absurd (hJ.q7 e).2.1 (by rw[h5];decide)
        have h8:L 8=false:=by
         cases e:L 8 with
         |false=>rfl
         |true=>exact absurd (hJ.q8 e).2 (by rw[h7];decide)
        obtain⟨i9,y1,y2⟩:=hJ.rd;rw[hL]at y2;have y3:i9=j+1:=y2;subst y3;have hsz:=hJ.st.size;go_simp;refine(xP.o X y1).mono ?_;intro e wq hp;cases hx:r1 with
        |out=>exact absurd hx pG.o
        |err cc ln col=>rw[hx]at hp;obtain⟨rfl,hs⟩:=hp;exact⟨hdf,aJ.aZ cc ln col (by rw[HRE2.o,hx];rfl) rfl (gK.o _ ((jO.o.st.trans hJ.st).trans (hs.mono ilQ)))⟩
        |ok l k=>
         have hx0:=hx;rw[hx]at hp;obtain⟨⟨v,rfl,xs,hrow,hxs⟩,hr,hs⟩:=hp;refine⟨_,rfl,?_⟩;rw[dB.o];refine{hJ with p2:=fun e e2=> ?_,p4:=fun _ _=>⟨l,k,xs,hx0,hrow.mono oi,dM.mono (fun q _ hq=>⟨by omega,fun e e3=> ?_⟩) _ _ hxs⟩,p5:=fun e=>absurd (show L 5=true from e) (by rw[h5];decide),rd:=⟨k,hr,⟨l,hx0⟩⟩,st:=hJ.st.trans (hs.mono ilQ),x0:=fun e=>hs.keep (hJ.x0 e) om,x1:=fun e=>absurd (show L 8=true from e) (by rw[h8];decide),LJ:=hs.cell hJ.LJ (fun e=>by have e2:w.heap.size=R.rb:=e;omega),Ia:=hs.keep hJ.Ia om,ex:=fA.step hs (fun q hq e=>(HPB.o q hq.1).1 e) _ _ hJ.ex,q5:=fun e=>absurd (show L 5=true from e) (by rw[h5];decide)}
         ·obtain⟨z1,z2⟩:=hJ.p2 e e2;exact⟨z1,hs.owns z2 oi⟩
         ·obtain⟨z1,z2⟩:=hJ.p2 e h5;have:=(z2.lt q e3).2;omega
       ·have e30:=ev 2 30 rfl (ax 2 rfl);have e32:=ev 4 32 rfl (ax 4 rfl);have h7:L 7=false:=by
         cases e:L 7 with
         |false=>rfl
         |true=>exact absurd (hJ.q7 e).2.1 (by rw[hL];decide)
        have h8:L 8=false:=by
         cases e:L 8 with
         |false=>rfl
         |true=>exact absurd (hJ.q8 e).2 (by rw[h7];decide)
        obtain⟨z1,z2⟩:=hJ.p2 (ax 2 rfl) hL;obtain⟨l,k,xs,y1,y2,y3⟩:=hJ.p4 (ax 4 rfl) hL;have hfew:=HFEW.o l k y1;refine f_ _ X.heap.size (.tmp 30) (.tmp 32) 54 rfl w8.heap.size 56 i0 (.agg #[ak 0,di,cO 0,aT,ay,ay,ay,ak 0,ak 0]) 9 128 Tryz.underlying54 HI.o HZ0.o HZ1.o HZ2.o rfl dc (V 2) 1 [.int .i64 k0,.string jf,.int .u64 v0,.bool jg,.slice a1 n1 c1,.slice a2 n2 c2,.slice a3 n3 c3,.int .i64 l0,.int .i64 c0] (by rw[bM];exact e30) z2 (V 4) l.length xs (by rw[bM];exact e32) (y2.row (fun q h7 _=>h7)) y3.len (dM.one y3) (by unfold maxLen;omega) om hJ.st.size ?_;intro v9 w9 gZ gU pF;have hg:=bQ gU;obtain⟨a9,c9,dS⟩:=aV gZ;have hrow9:cu w9 PX v9 (x::l).length _:=cu.eu (by rw[Nat.add_comm 1 l.length]at gZ;exact gZ) (fun q hq=>HPX6.o q (gZ.lt q hq).1);have hge:∀q,(V 2).ownBlock=some q→w8.heap.size≤q:=fun q hq=>(z2.lt q hq).1;refine⟨v9,rfl,?_⟩;rw[dB.o];refine{hJ with p2:=(fun _ e=>nomatch e),p4:=(fun _ e=>nomatch e),p5:=fun _=>⟨l,k,c9,a9,y1,dS,_,hrow9,?_⟩,p7:=fun e=>absurd (show L 7=true from e) (by rw[h7];decide),rd:= ?_,st:=hJ.st.then hg (fun q hq e=>by have:=hge q e;omega),x0:=fun e=>hg.keep (hJ.x0 e) (fun e=>by have:=hge _ e;omega),x1:=fun e=>absurd (show L 8=true from e) (by rw[h8];decide),LJ:=hg.cell hJ.LJ (fun e=>by have e2:w8.heap.size≤w.heap.size:=hge _ e;omega),Ia:=hg.keep hJ.Ia (fun e=>by have:=hge _ e;omega),ex:=fA.step hg (fun q hq e=>by have:=hge _ e;have:=hq.2;omega) _ _ hJ.ex,q5:=fun _=>⟨ax 2 rfl,ax 4 rfl⟩,q7:=fun e=>absurd (show L 7=true from e) (by rw[h7];decide)}
        ·rw[dM];refine⟨_,_,rfl,fA.mono (fun q _ hq=>hq.1) _ _ (fA.step hg (fun q hq e=>by have:=hge _ e;have:=hq.2;omega) _ _ hJ.ex),dM.mono (fun q _ hq=>HPX6.o q hq.1) _ _ (dM.step hg (fun q hq e=>hq.2 (ax 2 rfl) e) _ _ y3)⟩
        ·obtain⟨i9,y5,y6⟩:=hJ.rd;exact⟨i9,y5.step hg (fun q hq e=>by have:=hge _ e;omega),y6⟩
       ·have o4:=dG 4 rfl;change a.tmps[4]?.getD undef=.pointer (some ⟨w4.heap.size,0,none⟩)at o4;have q0:=aj hJ.Ia 0 _ rfl;have q1:=aj hJ.Ia 1 _ rfl;have h7:L 7=false:=by
         cases e:L 7 with
         |false=>rfl
         |true=>exact absurd (hJ.q7 e).2.2 (by rw[hL];decide)
        go_simp;exact⟨_,rfl,by rw[dB.o];exact{hJ with p6:=fun _=>rfl,q7:=fun e=>absurd (show L 7=true from e) (by rw[h7];decide)}⟩
       ·have e28:=(ev 0 28 rfl (ax 0 rfl)).trans (hJ.p0 (ax 0 rfl));obtain⟨l,k,c9,a9,y1,y2,-⟩:=hJ.p5 (ax 5 rfl);have e33:=(ev 5 33 rfl (ax 5 rfl)).trans y2;have e34:=(ev 6 34 rfl (ax 6 rfl)).trans (hJ.p6 (ax 6 rfl));have h8:L 8=false:=by
         cases e:L 8 with
         |false=>rfl
         |true=>exact absurd (hJ.q8 e).2 (by rw[hL];decide)
        go_simp;exact⟨_,rfl,by rw[dB.o];exact{hJ with p7:=fun _=>by show Value.agg _=Value.agg #[ak 13,a_ nm,cO 0,aT,V 5,ay,ay,ak tk.line,ak tk.col];rw[y2],q7:=fun _=>⟨ax 0 rfl,ax 5 rfl,ax 6 rfl⟩,q8:=fun e=>absurd (show L 8=true from e) (by rw[h8];decide)}⟩
       ·have o3:=dG 3 rfl;change a.tmps[3]?.getD undef=.pointer (some ⟨bx,0,none⟩)at o3;have e35:=(ev 7 35 rfl (ax 7 rfl)).trans (hJ.p7 (ax 7 rfl));have hb:=hJ.x0 hL;have h5:=hJ.q7 (ax 7 rfl);obtain⟨l,k,c9,a9,y1,y2,y3⟩:=hJ.p5 h5.2.1;refine eH 56 (.tmp 3) (.tmp 35) rfl bx 0 56 _ [.int .i64 13,.string nm,.int .u64 0,.bool false,V 5,.slice none 0 0,.slice none 0 0,.int .i64 tk.line,.int .i64 tk.col] (by rw[bM];exact o3) (by rw[bM];exact e35) hb Tryz.bf (Nat.le_of_eq rfl) (by rw[y2];exact aU rfl) ?_;intro w9 iJ hs9;have hbb:w9.heap[bx]?=some (.cells #[ak 13,a_ nm,cO 0,aT,V 5,ay,ay,ak tk.line,ak tk.col] 56 (0,0)):=iJ;refine⟨undef,rfl,?_⟩;rw[dB.o];refine{hJ with p2:=fun _ e=>absurd (show L 5=false from e) (by rw[h5.2.1];decide),p4:=fun _ e=>absurd (show L 5=false from e) (by rw[h5.2.1];decide),p5:=fun _=>⟨l,k,c9,a9,y1,y2,jG.step _ _ hs9 (fun q hq e=>(HPB.o q hq).2 e) y3⟩,rd:= ?_,st:=hJ.st.trans (hs9.mono ir),x0:=(fun e=>nomatch e),x1:=fun _=>hbb,LJ:=hs9.cell hJ.LJ (fun e=>by have e2:w.heap.size=bx:=e;omega),Ia:=hs9.keep hJ.Ia om,ex:=fA.step hs9 (fun q hq e=>(HPB.o q hq.1).2 e) _ _ hJ.ex,q8:=fun _=>⟨ax 1 rfl,ax 7 rfl⟩};obtain⟨i9,y5,y6⟩:=hJ.rd;exact⟨i9,y5.step hs9 oi,y6⟩
      case hdone=>
       intro L V X hall hJ;rw[dB.o]at hJ;obtain⟨l,k,c9,a9,y1,y2,y3⟩:=hJ.p5 (hall 5 dc);obtain⟨i9,y5,y6⟩:=hJ.rd;rw[hall 4 dc]at y6;obtain⟨l2,y7⟩:∃l,r1=.ok l i9:=y6;rw[y1]at y7;cases y7;(have kU:Hid (r=nG gn R.l k d (dm 13 nm 0 false (x::l) [] [] tk)):=by show _=_;rw[HRE2.o,y1];rfl);(have lI:Hid (Ba R w1 w3 bx d X k (dm 13 nm 0 false (x::l) [] [] tk) [.int .i64 13,.string nm,.int .u64 0,.bool false,V 5,.slice none 0 0,.slice none 0 0,.int .i64 tk.line,.int .i64 tk.col]):=by refine⟨y5,hJ.x1 (hall 8 dc),?_,jO.o.st.trans hJ.st⟩;rw[←Ef.o];exact Bf.mk S9.o y3 (bV.nil _ _) (gX.nil _ _));rw[rgQ9];simp only[kJ,fO,gsQ,o9];clear hJ hall y1 y2 y3 y5;(try go_wp2_with fail);go_roundg gn;case rel=>exact⟨by omega,k,_,_,kU.o,lI.o⟩
       case measure=>omega
structure ExOk (f:Nat):Prop where
 level:oC f
 unary:A_ f
 post:JM f
 list:FC f
 one:Vw f
 prim:O0 f
 block:mZ f
 stmt:JO f
theorem WE:QI 0:=fun _ _ _ _ _ _ _ _ _ _ _ h=>absurd (by rw[CV]) h
theorem WG:QJ 0:=fun _ _ _ _ _ _ _ _ _ _ _ h=>absurd (by rw[CW]) h
theorem WH:∀(f:Nat),f≤1000000→ExOk f:=by
 intro f;induction f using Nat.strongRecOn with
 |ind f ih=>
  intro hf;have hl:oC f:=O6 f fun f' h=>⟨(ih f' h om).level,(ih f' h om).unary⟩;have hi:FC f:=SX f fun f' h=>(ih f' h om).level;cases f with
  |zero=>exact⟨hl,fun _ _ _ _ _ _ _ h=>absurd (by rw[ji]) h,fun _ _ _ _ _ _ _ h=>absurd (by rw[xJ]) h,hi,fun _ _ _ _ _ _ _ h=>absurd (by rw[uK]) h,fun _ _ _ _ _ _ _ h=>absurd (by rw[wP]) h,fun _ _ _ _ _ _ _ h=>absurd (by rw[bJ]) h,fun _ _ _ _ _ _ _ h=>absurd (by rw[xK]) h⟩
  |succ f=>
   have h0:=ih f (Nat.lt_succ_self f) om;have hm:Po f:=Tj f fun f' h=>(ih f' om om).level;have hc:Pn f:=Td f h0.block;have hle:QI f:=by
    cases f with
    |zero=>exact WE
    |succ f=>exact VF f (ih f om om).level
   have hse:QJ f:=by
    cases f with
    |zero=>exact WG
    |succ f=>exact VG f (ih f om om).level
   exact⟨hl,O4 f h0.unary h0.post,TJ f h0.prim fun f' h=>(ih f' om om).list,hi,one_step f h0.level,Tn f h0.level h0.one h0.list hm hc,O_ f (fun f' h=>(ih f' om om).stmt) om,TD f h0.level h0.block hle hse⟩
structure Gn where
 aB:List ByteArray
 types:List ByteArray
structure Pm where
 name:ByteArray
 ty:Ty
 line:Int
 col:Int
structure Bd where
 name:ByteArray
 uw:List ByteArray
 aB:List ByteArray
 line:Int
 col:Int
structure Mt where
 name:ByteArray
 aB:List ByteArray
 recv:Int
 life:ByteArray
 params:List Pm
 ret:Ty
 wh:List Bd
 body:List St
 line:Int
 col:Int
structure It where
 kind:Int
 name:ByteArray
 head:ByteArray
 gen:Gn
 fields:List Pm
 ret:Ty
 wh:List Bd
 methods:List Mt
 body:List St
 line:Int
 col:Int
structure xg {α:Type} (El:World→(Nat→Prop)→α→List Value→Prop) (k:Nat):Prop where
 step:∀{w w':World} {P S:Nat→Prop} (a:α) (cs:List Value),Step S w w'→(∀k,P k→¬S k)→El w P a cs→El w' P a cs
 mono:∀{w:World} {P P':Nat→Prop} (a:α) (cs:List Value),(∀k,k<w.heap.size→P k→P' k)→El w P a cs→El w P' a cs
 len:∀{w:World} {P:Nat→Prop} (a:α) (cs:List Value),El w P a cs→cs.length=k
 one:∀{w:World} {P:Nat→Prop} (a:α) (cs:List Value),El w P a cs→∀u∈cs,u.oneCell'=true
def oG {α:Type} (El:World→(Nat→Prop)→α→List Value→Prop) (w:World) (P:Nat→Prop):List α→List Value→Prop
 |[],cs=>cs=[]
 |t::r,cs=>∃c1 c2,cs=c1++c2∧El w P t c1∧oG El w P r c2
section
variable {α : Type} {El : World → (Nat → Prop) → α → List Value → Prop} {k : Nat}
theorem oG.step (hE:xg El k) {w w':World} {P S:Nat→Prop} (hs:Step S w w') (hP:∀k,P k→¬S k):∀(l:List α) (cs:List Value),oG El w P l cs→oG El w' P l cs
 |[],_,h=>h
 |t::r,cs,h=>by
  obtain⟨c1,c2,h1,h2,h3⟩:=h
  exact⟨c1,c2,h1,hE.step t c1 hs hP h2,oG.step hE hs hP r c2 h3⟩
theorem oG.mono (hE:xg El k) {w:World} {P P':Nat→Prop} (hp:∀k,k<w.heap.size→P k→P' k):∀(l:List α) (cs:List Value),oG El w P l cs→oG El w P' l cs
 |[],_,h=>h
 |t::r,cs,h=>by
  obtain⟨c1,c2,h1,h2,h3⟩:=h
  exact⟨c1,c2,h1,hE.mono t c1 hp h2,oG.mono hE hp r c2 h3⟩
theorem oG.len (hE:xg El k) {w:World} {P:Nat→Prop}:∀{l:List α} {cs:List Value},oG El w P l cs→cs.length=l.length*k
 |[],_,h=>by cases h;simp
 |t::r,cs,h=>by
  obtain⟨c1,c2,rfl,h2,h3⟩:=h
  rw[List.length_append,hE.len t c1 h2,oG.len hE h3,List.length_cons,Nat.add_mul];omega
theorem oG.one (hE:xg El k) {w:World} {P:Nat→Prop}:∀{l:List α} {cs:List Value},oG El w P l cs→∀u∈cs,u.oneCell'=true
 |[],_,h=>by cases h;intro u hu;cases hu
 |t::r,cs,h=>by
  obtain⟨c1,c2,rfl,h2,h3⟩:=h
  intro u hu
  rcases List.mem_append.1 hu with hu|hu
  ·
   exact hE.one t c1 h2 u hu
  ·
   exact oG.one hE h3 u hu
theorem oG.snoc {w:World} {P:Nat→Prop}:∀{l:List α} {xs:List Value} {t:α} {cs:List Value},oG El w P l xs→El w P t cs→oG El w P (l++[t]) (xs++cs)
 |[],xs,t,cs,h,h1=>by
  cases h
  exact⟨cs,[],by simp,h1,rfl⟩
 |a::r,xs,t,cs,h,h1=>by
  obtain⟨c1,c2,rfl,h2,h3⟩:=h
  exact⟨c1,c2++cs,by rw[List.append_assoc],h2,oG.snoc h3 h1⟩
theorem oG.get (hE:xg El k) {w:World} {P:Nat→Prop}:∀{l:List α} {xs:List Value} (i:Nat) {t:α},oG El w P l xs→l[i]?=some t→∃cs,El w P t cs∧∀j x,cs[j]?=some x→xs[i*k+j]?=some x
 |[],_,i,t,_,ht=>by simp at ht
 |a::r,xs,i,t,h,ht=>by
  obtain⟨c1,c2,rfl,h1,h2⟩:=h
  have hc:=hE.len a c1 h1
  cases i with
  |zero=>
   simp at ht;subst ht
   refine⟨c1,h1,fun j x hx=> ?_⟩
   rw[Nat.zero_mul,Nat.zero_add,List.getElem?_append_left (List.getElem?_eq_some_iff.1 hx).1];exact hx
  |succ i=>
   obtain⟨cs,h3,h4⟩:=oG.get hE i h2 (by simpa using ht)
   refine⟨cs,h3,fun j x hx=> ?_⟩
   rw[List.getElem?_append_right (by rw[hc,Nat.add_mul];omega),hc,show(i+1)*k+j-k=i*k+j by rw[Nat.add_mul];omega]
   exact h4 j x hx
def ig (El:World→(Nat→Prop)→α→List Value→Prop) (w:World) (P:Nat→Prop) (l:List α) (v:Value):Prop:=∃xs:List Value,cu w P v l.length xs∧oG El w P l xs
theorem bH (hE:xg El k):y_ (ig El):=⟨fun _ _ hs hP ⟨xs,h1,h2⟩=>⟨xs,h1.step hs hP,oG.step hE hs hP _ xs h2⟩,fun _ _ hp ⟨xs,h1,h2⟩=>⟨xs,h1.mono hp,oG.mono hE hp _ xs h2⟩⟩
theorem ig.nil (w:World) (P:Nat→Prop):ig El w P ([]:List α) (.slice none 0 0):=⟨[],cu.nil _ _ _,rfl⟩
theorem ig.parts {w:World} {P:Nat→Prop} {l:List α} {v:Value} (h:ig El w P l v):∃(a:Option Addr) (c:Nat),v=.slice a l.length c:=by obtain⟨_,h,-⟩:=h;exact h.parts
def ElQ (El:World→(Nat→Prop)→α→List Value→Prop) (w:World) (P:Nat→Prop) (a:α) (v:Value):Prop:=∃cs:List Value,v=.agg cs.toArray∧El w P a cs
structure Bq (El:World→(Nat→Prop)→α→List Value→Prop) (T k:Nat) (R:gJ) (w1:World) (d:Nat) (X:World) (i':Nat) (acc:List α) (va:Value) (xs:List Value):Prop where
 rd:bI R X i' d
 ow:X.ownsRow w1.heap.size T k va acc.length xs
 el:oG El X (fun q=>w1.heap.size≤q∧va.ownBlock≠some q) acc xs
 st:Step (·=R.rb) w1 X
theorem Bq.read (hE:xg El k) {T:Nat} {R:gJ} {w1:World} {d:Nat} {X X':World} {i' i2:Nat} {acc:List α} {va:Value} {xs:List Value} (h:Bq El T k R w1 d X i' acc va xs) (hw:R.rb<w1.heap.size) (hr:bI R X' i2 d) (hs:Step (·=R.rb) X X'):Bq El T k R w1 d X' i2 acc va xs:=
 ⟨hr,hs.owns h.ow oi,oG.step hE hs (fun q hq e=>by have:=hq.1;omega) _ _ h.el,h.st.trans hs⟩
theorem Bq.quiet (hE:xg El k) {T:Nat} {R:gJ} {w1:World} {d:Nat} {X X':World} {i':Nat} {acc:List α} {va:Value} {xs:List Value} (h:Bq El T k R w1 d X i' acc va xs) (hs:StF X X'):Bq El T k R w1 d X' i' acc va xs:=
 ⟨h.rd.quiet hs,hs.owns h.ow (fun _ _ h=>h),oG.step hE hs (fun _ _ h=>h) _ _ h.el,h.st.trans (hs.mono fe)⟩
theorem Bq.push (hE:xg El k) {T:Nat} {R:gJ} {w1:World} {d:Nat} {X0 X2 X3:World} {i0 i2:Nat} {acc:List α} {va v9:Value} {xs cs:List Value} {x:α} (h0:Bq El T k R w1 d X0 i0 acc va xs) (h2:Bq El T k R w1 d X2 i2 acc va xs) (hx:El X2 (fun q=>X0.heap.size≤q) x cs) (hown:X3.ownsRow w1.heap.size T k v9 (acc.length+1) (xs++cs)) (hgrow:X2.grownBy X3 va.ownBlock) (hat:v9.ownBlock=va.ownBlock∨v9.ownBlock=some X2.heap.size) (hw:R.rb<w1.heap.size):Bq El T k R w1 d X3 i2 (acc++[x]) v9 (xs++cs):=by
 have h3:Step (fun q=>va.ownBlock=some q) X2 X3:=bQ hgrow;have ho:∀q,va.ownBlock=some q→w1.heap.size≤q∧q<X0.heap.size:=fun q hq=>h0.ow.lt q hq;have hlen:(acc++[x]).length=acc.length+1:=by simp
 have hnew:∀q,q<X2.heap.size→va.ownBlock≠some q→v9.ownBlock≠some q:=by
  intro q hq hn e;rcases hat with h7|h7
  ·exact hn (by rw[←h7];exact e)
  ·rw[h7]at e;have e2:X2.heap.size=q:=Option.some.inj e;omega
 refine⟨h2.rd.step h3 (fun q hq e=>by have:=(ho q e).1;omega),by rw[hlen];exact hown,oG.snoc ?_ ?_,h2.st.then h3 (fun q hq e=>by have:=(ho q e).1;omega)⟩
 ·have h5:=oG.mono hE (P':=fun q=>(w1.heap.size≤q∧va.ownBlock≠some q)∧q<X2.heap.size) (fun q h7 h8=>⟨h8,h7⟩) _ _ h2.el;have h6:=oG.step hE h3 (fun q hq e=>hq.1.2 e) _ _ h5;exact oG.mono hE (fun q _ hq=>⟨hq.1.1,hnew q hq.2 hq.1.2⟩) _ _ h6
 ·have h5:=hE.mono (P':=fun q=>X0.heap.size≤q∧q<X2.heap.size) _ _ (fun q h7 h8=>⟨h8,h7⟩) hx;have h6:=hE.step _ _ h3 (fun q hq e=>by have:=(ho q e).2;omega) h5;refine hE.mono _ _ (fun q _ hq=>⟨by have:=h0.st.size;omega,hnew q hq.2 (fun e=>by have:=(ho q e).2;omega)⟩) h6
end
def Ei (w:World) (P:Nat→Prop) (p:Pm) (cs:List Value):Prop:=∃ct:List Value,cs=[.string p.name]++ct++[.int .i64 p.line,.int .i64 p.col]∧p.name.size≤9223372036854775807∧iC w P p.ty ct
def Am (w:World) (P:Nat→Prop) (b:Bd) (cs:List Value):Prop:=∃vt vl:Value,cs=[.string b.name,vt,vl,.int .i64 b.line,.int .i64 b.col]∧b.name.size≤9223372036854775807∧bV w P b.uw vt∧bV w P b.aB vl
def Bv (w:World) (P:Nat→Prop) (m:Mt) (cs:List Value):Prop:=∃(ct:List Value) (vl vp vw vb:Value),cs=[.string m.name,vl,.int .i64 m.recv,.string m.life,vp]++ct++[vw,vb,.int .i64 m.line,.int .i64 m.col]∧m.name.size≤9223372036854775807∧m.life.size≤9223372036854775807∧
 bV w P m.aB vl∧ig Ei w P m.params vp∧iC w P m.ret ct∧ig Am w P m.wh vw∧gX w P m.body vb
def lm (w:World) (P:Nat→Prop) (x:It) (cs:List Value):Prop:=∃(ct:List Value) (vl vt vf vw vm vb:Value),cs=[.int .i64 x.kind,.string x.name,.string x.head,vl,vt,vf]++ct++[vw,vm,vb,.int .i64 x.line,.int .i64 x.col]∧x.name.size≤9223372036854775807∧x.head.size≤9223372036854775807∧
 bV w P x.gen.aB vl∧bV w P x.gen.types vt∧ig Ei w P x.fields vf∧iC w P x.ret ct∧ig Am w P x.wh vw∧ig Bv w P x.methods vm∧gX w P x.body vb
theorem bV.parts {w:World} {P:Nat→Prop} {l:List ByteArray} {v:Value} (h:bV w P l v):∃(a:Option Addr) (c:Nat),v=.slice a l.length c:=h.2.parts
theorem fH:xg Ei 11 where
 step:=fun _ _ hs hP ⟨ct,h1,h2,h3⟩=>⟨ct,h1,h2,iC.step hs hP _ ct h3⟩
 mono:=fun _ _ hp ⟨ct,h1,h2,h3⟩=>⟨ct,h1,h2,iC.mono hp _ ct h3⟩
 len:=fun _ _ ⟨ct,h1,_,h3⟩=>by rw[h1];have:=h3.len;simp;omega
 one:=fun _ _ ⟨ct,h1,_,h3⟩=>by
  intro u hu
  rw[h1]at hu
  rcases List.mem_append.1 hu with hu|hu
  ·
   rcases List.mem_append.1 hu with hu|hu
   ·
    simp at hu;subst hu;rfl
   ·
    exact h3.one u hu
  ·
   simp at hu;rcases hu with rfl|rfl<;>rfl
theorem fP:xg Am 5 where
 step:=fun _ _ hs hP ⟨vt,vl,h1,h2,h3,h4⟩=>⟨vt,vl,h1,h2,aX.step _ _ hs hP h3,aX.step _ _ hs hP h4⟩
 mono:=fun _ _ hp ⟨vt,vl,h1,h2,h3,h4⟩=>⟨vt,vl,h1,h2,aX.mono _ _ hp h3,aX.mono _ _ hp h4⟩
 len:=fun _ _ ⟨vt,vl,h1,_⟩=>by rw[h1];rfl
 one:=fun _ _ ⟨vt,vl,h1,_,h3,h4⟩=>by
  obtain⟨_,_,rfl⟩:=h3.parts
  obtain⟨_,_,rfl⟩:=h4.parts
  rw[h1];exact aU rfl
theorem dh:xg Bv 17 where
 step:=fun _ _ hs hP ⟨ct,vl,vp,vw,vb,h1,h2,h3,h4,h5,h6,h7,h8⟩=>⟨ct,vl,vp,vw,vb,h1,h2,h3,aX.step _ _ hs hP h4,(bH fH).step _ _ hs hP h5,iC.step hs hP _ _ h6,(bH fP).step _ _ hs hP h7,kM.step _ _ hs hP h8⟩
 mono:=fun _ _ hp ⟨ct,vl,vp,vw,vb,h1,h2,h3,h4,h5,h6,h7,h8⟩=>⟨ct,vl,vp,vw,vb,h1,h2,h3,aX.mono _ _ hp h4,(bH fH).mono _ _ hp h5,iC.mono hp _ _ h6,(bH fP).mono _ _ hp h7,kM.mono _ _ hp h8⟩
 len:=fun _ _ ⟨ct,vl,vp,vw,vb,h1,_,_,_,_,h6,_⟩=>by rw[h1];have:=h6.len;simp;omega
 one:=fun _ _ ⟨ct,vl,vp,vw,vb,h1,_,_,h4,h5,h6,h7,h8⟩=>by
  obtain⟨_,_,rfl⟩:=h4.parts
  obtain⟨_,_,rfl⟩:=h5.parts
  obtain⟨_,_,rfl⟩:=h7.parts
  obtain⟨_,_,rfl⟩:=h8.parts
  intro u hu
  rw[h1]at hu
  rcases List.mem_append.1 hu with hu|hu
  ·
   rcases List.mem_append.1 hu with hu|hu
   ·
    exact aU rfl u hu
   ·
    exact h6.one u hu
  ·
   exact aU rfl u hu
theorem aQ:xg lm 19 where
 step:=fun _ _ hs hP ⟨ct,vl,vt,vf,vw,vm,vb,h1,h2,h3,h4,h5,h6,h7,h8,h9,h10⟩=>⟨ct,vl,vt,vf,vw,vm,vb,h1,h2,h3,aX.step _ _ hs hP h4,aX.step _ _ hs hP h5,(bH fH).step _ _ hs hP h6,iC.step hs hP _ _ h7,(bH fP).step _ _ hs hP h8,(bH dh).step _ _ hs hP h9,kM.step _ _ hs hP h10⟩
 mono:=fun _ _ hp ⟨ct,vl,vt,vf,vw,vm,vb,h1,h2,h3,h4,h5,h6,h7,h8,h9,h10⟩=>⟨ct,vl,vt,vf,vw,vm,vb,h1,h2,h3,aX.mono _ _ hp h4,aX.mono _ _ hp h5,(bH fH).mono _ _ hp h6,iC.mono hp _ _ h7,(bH fP).mono _ _ hp h8,(bH dh).mono _ _ hp h9,kM.mono _ _ hp h10⟩
 len:=fun _ _ ⟨ct,vl,vt,vf,vw,vm,vb,h1,_,_,_,_,_,h7,_⟩=>by rw[h1];have:=h7.len;simp;omega
 one:=fun _ _ ⟨ct,vl,vt,vf,vw,vm,vb,h1,_,_,h4,h5,h6,h7,h8,h9,h10⟩=>by
  obtain⟨_,_,rfl⟩:=h4.parts
  obtain⟨_,_,rfl⟩:=h5.parts
  obtain⟨_,_,rfl⟩:=h6.parts
  obtain⟨_,_,rfl⟩:=h8.parts
  obtain⟨_,_,rfl⟩:=h9.parts
  obtain⟨_,_,rfl⟩:=h10.parts
  intro u hu
  rw[h1]at hu
  rcases List.mem_append.1 hu with hu|hu
  ·
   rcases List.mem_append.1 hu with hu|hu
   ·
    exact aU rfl u hu
   ·
    exact h7.one u hu
  ·
   exact aU rfl u hu
def lD:Nat→List Tok→Nat→List ByteArray→List ByteArray→dV Gn
 |0,_,_,_,_=>.out
 |f+1,l,i,ls,ts=>(eY (ls.length+ts.length) 8 l i).bind fun _ i=>(if(tokA l i).kind=2∧ts.length=0 then(jw l i).bind fun x j=>.ok (ls++[x],ts) j else(aS l i).bind fun x j=>.ok (ls,ts++[x]) j).bind fun p j=>
   if bF l j [44]then lD f l (j+1) p.1 p.2 else(aH l j [62]).bind fun _ j=>.ok ⟨p.1,p.2⟩ j
def jC (f:Nat) (l:List Tok) (i:Nat):dV Gn:=if bF l i [60]then lD f l (i+1) [] []else .ok ⟨[],[]⟩ i
def oP:Nat→List Tok→Nat→Nat→List UInt8→Nat→List Pm→dV (List Pm)
 |0,_,_,_,_,_,_=>.out
 |f+1,l,i,d,e,m,acc=>(eY acc.length m l i).bind fun _ i=>(aS l i).bind fun n j=>(aH l j [58]).bind fun _ j=>(jY f l j d).bind fun ty j=>
   if bF l j [44]then oP f l (j+1) d e m (acc++[⟨n,ty,(tokA l i).line,(tokA l i).col⟩])else(aH l j e).bind fun _ j=>.ok (acc++[⟨n,ty,(tokA l i).line,(tokA l i).col⟩]) j
def dw (f:Nat) (l:List Tok) (i d:Nat) (e:List UInt8) (m:Nat):dV (List Pm):=if bF l i e then .ok [] (i+1)else oP f l i d e m []
def iw (f:Nat) (l:List Tok) (i d:Nat):dV Ty:=if bF l i [45,62]then jY f l (i+1) d else .ok dR i
def gW:Nat→List Tok→Nat→Bool→List ByteArray→List ByteArray→dV (List ByteArray×List ByteArray)
 |0,_,_,_,_,_=>.out
 |f+1,l,i,p,ts,ls=>(eY (ls.length+ts.length) 8 l i).bind fun _ i=>(if p=true∧ls.length=0∧(tokA l i).kind≠2 then(aS l i).bind fun x j=>.ok (ts++[x],ls) j else(jw l i).bind fun x j=>.ok (ts,ls++[x]) j).bind fun q j=>
   if bF l j [43]then gW f l (j+1) p q.1 q.2 else .ok q j
def qN (f:Nat) (l:List Tok) (i:Nat):dV Bd:=
 (if(uj l i).size=0 then(aS l (qy l i)).bind fun n j=>.ok (n,true) j else .ok (uj l i,false) (qy l i)).bind fun p j=>(aH l j [58]).bind fun _ j=>(gW f l j p.2 [] []).bind fun q j=>.ok ⟨p.1,q.1,q.2,(tokA l i).line,(tokA l i).col⟩ j
def lT:Nat→List Tok→Nat→List Bd→dV (List Bd)
 |0,_,_,_=>.out
 |f+1,l,i,acc=>(eY acc.length 16 l i).bind fun _ i=>(qN f l i).bind fun b j=>if bF l j [44]then lT f l (j+1) (acc++[b])else .ok (acc++[b]) j
def bY (f:Nat) (l:List Tok) (i:Nat):dV (List Bd):=if bF l i [119,104,101,114,101]then lT f l (i+1) []else .ok [] i
def jT (l:List Tok) (i:Nat):(Int×ByteArray)×Nat:=
 if bF l i [38]then((if bF l (qy l (i+1)) [109,117,116]then 3 else 2,uj l (i+1)),jb l (qy l (i+1)) [109,117,116])else((1,bZ),i)
def kN (f:Nat) (l:List Tok) (i d:Nat) (body:Bool):dV Mt:=
 (aH l i [102,110]).bind fun _ j=>(aS l j).bind fun n j=>(jC f l j).bind fun g j=>(if 0<g.types.length then eP 5 l j else .ok () j).bind fun _ j=>(aH l j [40]).bind fun _ j=>
  (aH l (jT l j).2 [115,101,108,102]).bind fun _ k=>(if bF l k [44]then(if bF l (k+1) [41]then eP 1 l (k+1)else dw f l (k+1) d [41] 8)else(aH l k [41]).bind fun _ k=>.ok [] k).bind fun ps k=>
   (iw f l k d).bind fun t k=>(bY f l k).bind fun wh k=>(if body then bJ f l k d else(aH l k [59]).bind fun _ k=>.ok [] k).bind fun b k=>
    .ok ⟨n,g.aB,(jT l j).1.1,(jT l j).1.2,ps,t,wh,b,(tokA l i).line,(tokA l i).col⟩ k
def kY:Nat→List Tok→Nat→Nat→Bool→List Mt→dV (List Mt)
 |0,_,_,_,_,_=>.out
 |f+1,l,i,d,body,acc=>if bF l i [125]then .ok acc (i+1)else(eY acc.length 12 l i).bind fun _ i=>(kN f l i d body).bind fun m j=>kY f l j d body (acc++[m])
def dn (f:Nat) (l:List Tok) (i d:Nat) (body:Bool):dV (List Mt):=(aH l i [123]).bind fun _ j=>kY f l j d body []
def jJ (l:List Tok) (i:Nat):dV ByteArray:=
 if bF l i [105,110,116]then .ok ⟨#[105,110,116]⟩ (i+1)else if bF l i [98,111,111,108]then .ok ⟨#[98,111,111,108]⟩ (i+1)else if bF l i [102,54,52]then .ok ⟨#[102,54,52]⟩ (i+1)else aS l i
def iF (k:Int) (name head:ByteArray) (g:Gn) (fs:List Pm) (t:Ty) (wh:List Bd) (ms:List Mt) (b:List St) (tk:Tok):It:=⟨k,name,head,g,fs,t,wh,ms,b,tk.line,tk.col⟩
def jW:Gn:=⟨[],[]⟩
def jD (f:Nat) (l:List Tok) (i d:Nat):dV It:=
 if bF l i [115,116,114,117,99,116]then(aS l (i+1)).bind fun n j=>(jC f l j).bind fun g j=>(aH l j [123]).bind fun _ j=>(dw f l j d [125] 12).bind fun fs j=>.ok (iF 1 n bZ g fs dR [] [] [] (tokA l i)) j
 else if bF l i [116,114,97,105,116]then(aS l (i+1)).bind fun n j=>(dn f l j d false).bind fun ms j=>.ok (iF 2 n bZ jW [] dR [] ms [] (tokA l i)) j
 else if bF l i [105,109,112,108]then(aS l (i+1)).bind fun n j=>(aH l j [102,111,114]).bind fun _ j=>(jJ l j).bind fun h j=>(bY f l j).bind fun wh j=>(dn f l j d true).bind fun ms j=>.ok (iF 3 n h jW [] dR wh ms [] (tokA l i)) j
 else if bF l i [102,110]then(aS l (i+1)).bind fun n j=>(jC f l j).bind fun g j=>(aH l j [40]).bind fun _ j=>(dw f l j d [41] 8).bind fun fs j=>(iw f l j d).bind fun t j=>(bY f l j).bind fun wh j=>(bJ f l j d).bind fun b j=>.ok (iF 4 n bZ g fs t wh [] b (tokA l i)) j
 else eP 1 l i
def kF:Nat→List Tok→Nat→Nat→List It→dV (List It)
 |0,_,_,_,_=>.out
 |f+1,l,i,d,acc=>if(tokA l i).kind=0 then .ok acc i else(eY acc.length 60 l i).bind fun _ i=>(jD f l i d).bind fun x j=>kF f l j d (acc++[x])
theorem Tryz.lawS:Go.Maps.Keyed Tryz.prog 9:=Go.Maps.string_keyed Tryz.underlying9
theorem Tryz.zeroI (w:World):(zeroValue 3).run Tryz.prog w=.ok (.int .i64 0) w:=by kernel_rfl
abbrev keyS (s:ByteArray):Lit:=.string s.data.toList
theorem ZJ {a b:ByteArray} (h:a≠b):keyS a≠keyS b:=fun e=>h (ByteArray.ext (Array.toList_inj.1 (Lit.string.inj e)))
def MpD (D:DataW Unit) (m:ByteArray→Option Nat):Prop:=∀s:ByteArray,Maps.has D (keyS s)=(m s).isSome∧∀i,m s=some i→D.atKey (keyS s) (.lit (.int .i64 0))=.lit (.int .i64 i)
def Ej (w:World) (b:Nat) (m:ByteArray→Option Nat):Prop:=∃(n:Nat) (D:DataW Unit),w.ownsMap Tryz.prog 9 (plainElem Tryz.prog 3) b n D∧n≤1000∧MpD D m
theorem Ej.step {w w':World} {S:Nat→Prop} {b:Nat} {m:ByteArray→Option Nat} (hs:Step S w w') (hb:¬S b) (h:Ej w b m):Ej w' b m:=by obtain⟨n,D,⟨es,ck,h1,h2⟩,h3⟩:=h;exact⟨n,D,⟨es,ck,hs.keep h1 hb,h2⟩,h3⟩
theorem Ej.look {w:World} {b:Nat} {m:ByteArray→Option Nat} (h:Ej w b m) (s:ByteArray) (hs:s.size≤9223372036854775807):(Instr.lookup 124 (.map (some b)) (.string s) true).run Tryz.prog w=.ok (.tuple #[ak ((m s).getD 0:Nat),dW (m s).isSome]) w:=by
 obtain⟨n,D,h1,-,hD⟩:=h;obtain⟨v,ps,hrun,hv⟩:=h1.look_ok Tryz.lawS Tryz.underlying124 (Tryz.zeroI w) (plainElem_int Tryz.underlying3 dc) (WideMaps.keyOf_string_mk Tryz.underlying9 hs);obtain⟨c,rfl,hc,-⟩:=plainElem_int_inv Tryz.underlying3 hv;obtain⟨ha,hb⟩:=hD s;have hc1:=congrArg Prod.fst hc;have hrun2:(Instr.lookup 124 (.map (some b)) (.string s) true).run Tryz.prog w=.ok (.tuple #[ak c,dW (Maps.has D (keyS s))]) w:=hrun;rw[hrun2,ha];cases hm:m s with
 |none=>have h2:=Maps.atKey_of_not_has (by rw[ha,hm];rfl:Maps.has D (keyS s)=false) (.lit (.int .i64 0):DataW Unit);have h3:(DataW.lit (.int .i64 0):DataW Unit)=.lit (.int .i64 c):=h2.symm.trans hc1;cases h3;rfl
 |some i=>have h3:(DataW.lit (.int .i64 i):DataW Unit)=.lit (.int .i64 c):=(hb i hm).symm.trans hc1;cases h3;rfl
def tq (m:ByteArray→Option Nat) (s:ByteArray) (i:Nat):ByteArray→Option Nat:=fun x=>if eqS x s then some i else m x
theorem Nc {m:ByteArray→Option Nat} {s x:ByteArray} {i:Nat} (h:eqS x s=true):tq m s i x=some i:=if_pos h
theorem TL {m:ByteArray→Option Nat} {s x:ByteArray} {i:Nat} (h:eqS x s=false):tq m s i x=m x:=if_neg (by rw[h];decide)
theorem MpD.put {D:DataW Unit} {m:ByteArray→Option Nat} (h:MpD D m) (hD:Maps.IsMap D) (s:ByteArray) (i:Nat):MpD (D.put (keyS s) (.lit (.int .i64 i))) (tq m s i):=by
 intro x;cases hx:eqS x s with
 |true=>obtain rfl:=fF.1 hx;rw[Nc hx];exact⟨Maps.has_put_same hD (show WideAt.IsKeyLit (.string _) from trivial) _,fun j hj=>by cases hj;exact Maps.atKey_put_same hD (show WideAt.IsKeyLit (.string _) from trivial) _ _⟩
 |false=>have hne:keyS x≠keyS s:=ZJ (fun e=>by rw[fF.2 e]at hx;cases hx);rw[TL hx];exact⟨(Maps.has_put_other hne _).trans (h x).1,fun j hj=>(Maps.atKey_put_other hne _ _).trans ((h x).2 j hj)⟩
structure Tab where
 items:List It
 st:ByteArray→Option Nat
 tr:ByteArray→Option Nat
 fn:ByteArray→Option Nat
 im:ByteArray→ByteArray→Option Nat
def qZ:It:=⟨0,bZ,bZ,jW,[],dR,[],[],[],0,0⟩
def Tab.get (T:Tab) (m:ByteArray→Option Nat) (s:ByteArray):Option It:=(m s).bind fun i=>T.items[i]?
structure TabAt (IM:World→Nat→(ByteArray→ByteArray→Option Nat)→Prop) (tb:Nat) (T:Tab) (w:World) (P:Nat→Prop):Prop where
 pt:P tb
 ex:∃(vi:Value) (ms mt mf mi:Nat),w.heap[tb]?=some (.cells #[vi,.map (some ms),.map (some mt),.map (some mf),.map (some mi)] 127 (0,0))∧ig lm w P T.items vi∧(P ms∧Ej w ms T.st)∧(P mt∧Ej w mt T.tr)∧(P mf∧Ej w mf T.fn)∧P mi∧IM w mi T.im
 st:∀s i,T.st s=some i→i<T.items.length
 tr:∀s i,T.tr s=some i→i<T.items.length
 fn:∀s i,T.fn s=some i→i<T.items.length
structure x_ (IM:World→Nat→(ByteArray→ByteArray→Option Nat)→Prop):Prop where
 step:∀{w w':World} {S:Nat→Prop} {b:Nat} {m:ByteArray→ByteArray→Option Nat},Step S w w'→¬S b→IM w b m→IM w' b m
 lt:∀{w:World} {b:Nat} {m:ByteArray→ByteArray→Option Nat},IM w b m→b<w.heap.size
theorem Ej.lt {w:World} {b:Nat} {m:ByteArray→Option Nat} (h:Ej w b m):b<w.heap.size:=let⟨_,_,h,_⟩:=h;h.lt
theorem sJ {IM:World→Nat→(ByteArray→ByteArray→Option Nat)→Prop} (him:x_ IM) (tb:Nat) (T:Tab):VO (TabAt IM tb T):=by
 constructor
 ·intro w w' P S hs hP h;obtain⟨vi,ms,mt,mf,mi,h1,h2,h3,h4,h5,h6,h7⟩:=h.ex;exact⟨h.pt,⟨vi,ms,mt,mf,mi,hs.keep h1 (hP _ h.pt),(bH aQ).step _ _ hs hP h2,⟨h3.1,h3.2.step hs (hP _ h3.1)⟩,⟨h4.1,h4.2.step hs (hP _ h4.1)⟩,⟨h5.1,h5.2.step hs (hP _ h5.1)⟩,h6,him.step hs (hP _ h6) h7⟩,h.st,h.tr,h.fn⟩
 ·intro w P P' hp h;obtain⟨vi,ms,mt,mf,mi,h1,h2,h3,h4,h5,h6,h7⟩:=h.ex;exact⟨hp _ (aK h1) h.pt,⟨vi,ms,mt,mf,mi,h1,(bH aQ).mono _ _ hp h2,⟨hp _ h3.2.lt h3.1,h3.2⟩,⟨hp _ h4.2.lt h4.1,h4.2⟩,⟨hp _ h5.2.lt h5.1,h5.2⟩,hp _ (him.lt h7) h6,h7⟩,h.st,h.tr,h.fn⟩
structure NJ (R:gJ) (j0 d b:Nat) (w0:World) (oF:Value→Obj) (base T:Nat) (v0:Value) (n:Nat) (xs:List Value) (r1:dV ByteArray) (il ic ib ia iz:Nat) (vals:List (Option Value)) (L:Nat→Bool) (V:Nat→Value) (X:World):Prop where
 iK:∀(i:Nat) v,vals[i]?=some (some v)→L i=true→V i=v
 vc:L ic=true→∃s k,r1=.ok s k∧V ic=.string s
 vb:L ib=true→L ia=false→∃s k g,r1=.ok s k∧V ib=.slice (some ⟨g,0,none⟩) 1 1∧w0.heap.size≤g∧X.heap[g]?=some (.cells #[a_ s] T (0,0))
 va:L ia=true→∃s k,r1=.ok s k∧X.ownsRow base T 1 (V ia) (n+1) (xs++[.string s])∧((V ia).ownBlock=v0.ownBlock∨∃g,(V ia).ownBlock=some g∧w0.heap.size≤g)
 own:L ia=false→X.ownsRow base T 1 v0 n xs
 rd:∃i,bI R X i d∧cond (L ic) (∃s,r1=.ok s i) (i=j0)
 st:Step (fun q=>q=R.rb∨q=b∨v0.ownBlock=some q) w0 X
 blk:X.heap[b]?=some (oF (cond (L iz) (V ia) v0))
 qb:L ib=true→L ic=true
 qa:L ia=true→L ib=true∧L ic=true
 qz:L iz=true→L ia=true
 ql:L ia=true→L il=true
structure NOk (R:gJ) (b:Nat) (w0:World) (base:Nat) (v0:Value) (il ic ib ia iz:Nat):Prop where
 ne:ic≠ib∧ic≠ia∧ic≠iz∧ib≠ia∧ib≠iz∧ia≠iz
 nl:il≠ic∧il≠ib∧il≠ia∧il≠iz
 rb:R.rb<b
 bb:b<base
 bw:base≤w0.heap.size
 own:∀q,v0.ownBlock=some q→base≤q∧q<w0.heap.size
section
variable {R : gJ} {j0 d b : Nat} {w0 : World} {oF : Value → Obj} {base T : Nat} {v0 : Value} {n : Nat} {xs : List Value} {r1 : dV ByteArray} {il ic ib ia iz : Nat} {vals : List (Option Value)} {L : Nat → Bool} {V : Nat → Value} {X X' : World}
theorem NJ.zero (hs:StF w0 X) (hr:bI R w0 j0 d) (hown:w0.ownsRow base T 1 v0 n xs) (hb:w0.heap[b]?=some (oF v0)):NJ R j0 d b w0 oF base T v0 n xs r1 il ic ib ia iz vals (fun _=>false) V X:=
 ⟨fun _ _ _ h=>(nomatch h),gQ,gQ,gQ,fun _=>hs.owns hown (fun _ _ h=>h),⟨j0,hr.quiet hs,rfl⟩,hs.mono fe,hs.keep hb (fun h=>h),gQ,gQ,gQ,gQ⟩
theorem NJ.up (h:NJ R j0 d b w0 oF base T v0 n xs r1 il ic ib ia iz vals L V X) (i:Nat) {v:Value} (hv:vals[i]?=some (some v)) (h1:i≠ic) (h2:i≠ib) (h3:i≠ia) (h4:i≠iz):NJ R j0 d b w0 oF base T v0 n xs r1 il ic ib ia iz vals (dO L i) (iY V i v) X:=by
 refine⟨jc h.iK i v (fun u hu=>by rw[hv]at hu;cases hu;rfl),?_,?_,?_,?_,?_,h.st,?_,?_,?_,?_,?_⟩
 ·rw[aF _ (Ne.symm h1),b_ _ _ (Ne.symm h1)];exact h.vc
 ·rw[aF _ (Ne.symm h2),aF _ (Ne.symm h3),b_ _ _ (Ne.symm h2)];exact h.vb
 ·rw[aF _ (Ne.symm h3),b_ _ _ (Ne.symm h3)];exact h.va
 ·rw[aF _ (Ne.symm h3)];exact h.own
 ·rw[aF _ (Ne.symm h1)];exact h.rd
 ·rw[aF _ (Ne.symm h4),b_ _ _ (Ne.symm h3)];exact h.blk
 ·rw[aF _ (Ne.symm h2),aF _ (Ne.symm h1)];exact h.qb
 ·rw[aF _ (Ne.symm h3),aF _ (Ne.symm h2),aF _ (Ne.symm h1)];exact h.qa
 ·rw[aF _ (Ne.symm h4),aF _ (Ne.symm h3)];exact h.qz
 ·rw[aF _ (Ne.symm h3)];intro e;by_cases e2:il=i
  ·rw[e2];exact jV _ _
  ·rw[aF _ e2];exact h.ql e
theorem NJ.bZ (h:NJ R j0 d b w0 oF base T v0 n xs r1 il ic ib ia iz vals L V X) (hL:L ic=false):L ib=false:=by
 cases e:L ib with
 |false=>rfl
 |true=>rw[h.qb e]at hL;cases hL
theorem NJ.Vo (h:NJ R j0 d b w0 oF base T v0 n xs r1 il ic ib ia iz vals L V X) (hL:L ib=false):L ia=false:=by
 cases e:L ia with
 |false=>rfl
 |true=>rw[(h.qa e).1]at hL;cases hL
theorem NJ.JJ (h:NJ R j0 d b w0 oF base T v0 n xs r1 il ic ib ia iz vals L V X) (hL:L ia=false):L iz=false:=by
 cases e:L iz with
 |false=>rfl
 |true=>rw[h.qz e]at hL;cases hL
theorem NJ.call (ho:NOk R b w0 base v0 il ic ib ia iz) (h:NJ R j0 d b w0 oF base T v0 n xs r1 il ic ib ia iz vals L V X) (hL:L ic=false) (kR:vals[ic]?=some none) (hs:Step (·=R.rb) X X') {k:Nat} (hr:bI R X' k d) {s:ByteArray} (hx:r1=.ok s k):NJ R j0 d b w0 oF base T v0 n xs r1 il ic ib ia iz vals (dO L ic) (iY V ic (.string s)) X':=by
 have hB:=h.bZ hL;have hA:=h.Vo hB;have hZ:=h.JJ hA;obtain⟨n1,n2,n3,n4,n5,n6⟩:=ho.ne;have h1:=ho.rb;have h2:=ho.bb;refine⟨jc h.iK ic _ (fun u hu=>by rw[kR]at hu;cases hu),fun _=>⟨s,k,hx,lS _ _ _⟩,?_,?_,?_,⟨k,hr,by rw[jV];exact⟨s,hx⟩⟩,h.st.trans (hs.mono ilQ),?_,fun _=>jV _ _,?_,?_,?_⟩
 ·rw[aF _ (Ne.symm n1),hB];intro e;cases e
 ·rw[aF _ (Ne.symm n2),hA];intro e;cases e
 ·intro _;exact hs.owns (h.own hA) oi
 ·have hb:=h.blk;rw[hZ]at hb;rw[aF _ (Ne.symm n3),hZ];exact hs.keep hb om
 ·rw[aF _ (Ne.symm n2),hA];intro e;cases e
 ·rw[aF _ (Ne.symm n3),hZ];intro e;cases e
 ·rw[aF _ (Ne.symm n2),hA];intro e;cases e
theorem NJ.build (ho:NOk R b w0 base v0 il ic ib ia iz) (h:NJ R j0 d b w0 oF base T v0 n xs r1 il ic ib ia iz vals L V X) (hL:L ib=false) (hC:L ic=true) (kR:vals[ib]?=some none) {s:ByteArray} (hs:V ic=.string s):NJ R j0 d b w0 oF base T v0 n xs r1 il ic ib ia iz vals (dO L ib) (iY V ib (.slice (some ⟨X.heap.size,0,none⟩) 1 1)) (X.alloc (.cells #[a_ s] T)):=by
 have hA:=h.Vo hL;have hZ:=h.JJ hA;obtain⟨n1,n2,n3,n4,n5,n6⟩:=ho.ne;have hst:StF X (X.alloc (.cells #[a_ s] T)):=bK.alloc _;refine⟨jc h.iK ib _ (fun u hu=>by rw[kR]at hu;cases hu),?_,?_,?_,?_,?_,h.st.alloc _,?_,?_,?_,?_,?_⟩
 ·rw[aF _ n1,b_ _ _ n1];exact h.vc
 ·intro _ _;obtain⟨s',k,h1,h2⟩:=h.vc hC;rw[hs]at h2;cases h2;exact⟨s,k,X.heap.size,h1,lS _ _ _,h.st.size,aC _ _⟩
 ·rw[aF _ (Ne.symm n4),hA];intro e;cases e
 ·intro _;exact hst.owns (h.own hA) (fun _ _ h=>h)
 ·rw[aF _ n1];obtain⟨i,h1,h2⟩:=h.rd;exact⟨i,h1.quiet hst,h2⟩
 ·have hb:=h.blk;rw[hZ]at hb;rw[aF _ (Ne.symm n5),hZ];exact hst.keep hb (fun h=>h)
 ·intro _;rw[aF _ n1];exact hC
 ·rw[aF _ (Ne.symm n4),hA];intro e;cases e
 ·rw[aF _ (Ne.symm n5),hZ];intro e;cases e
 ·rw[aF _ (Ne.symm n4),hA];intro e;cases e
theorem NJ.app (ho:NOk R b w0 base v0 il ic ib ia iz) (h:NJ R j0 d b w0 oF base T v0 n xs r1 il ic ib ia iz vals L V X) (hL:L ia=false) (hB:L ib=true) (hl:L il=true) (kR:vals[ia]?=some none) {s:ByteArray} {k:Nat} (hx:r1=.ok s k) {v':Value} (hown:X'.ownsRow base T 1 v' (n+1) (xs++[.string s])) (hg:X.grownBy X' v0.ownBlock) (hat:v'.ownBlock=v0.ownBlock∨v'.ownBlock=some X.heap.size):NJ R j0 d b w0 oF base T v0 n xs r1 il ic ib ia iz vals (dO L ia) (iY V ia v') X':=by
 have hZ:=h.JJ hL;obtain⟨n1,n2,n3,n4,n5,n6⟩:=ho.ne;have h1:=ho.rb;have h2:=ho.bb;have h3:=bQ hg;have hC:=h.qb hB;refine⟨jc h.iK ia _ (fun u hu=>by rw[kR]at hu;cases hu),?_,?_,?_,?_,?_,h.st.trans (h3.mono (fun _ _ e=>.inr (.inr e))),?_,?_,?_,?_,fun _=>by rw[aF _ ho.nl.2.2.1];exact hl⟩
 ·rw[aF _ n2,b_ _ _ n2];exact h.vc
 ·intro _ e;rw[jV]at e;cases e
 ·intro _;rw[lS];refine⟨s,k,hx,hown,?_⟩;rcases hat with e|e
  ·exact .inl e
  ·exact .inr ⟨_,e,h.st.size⟩
 ·intro e;rw[jV]at e;cases e
 ·rw[aF _ n2];obtain⟨i,h4,h5⟩:=h.rd;exact⟨i,h4.step h3 (fun q hq e=>by have:=(ho.own q e).1;omega),h5⟩
 ·have hb:=h.blk;rw[hZ]at hb;rw[aF _ (Ne.symm n6),hZ];exact h3.keep hb (fun e=>by have:=(ho.own _ e).1;omega)
 ·rw[aF _ n4,aF _ n2];exact h.qb
 ·intro _;rw[aF _ n4,aF _ n2];exact⟨hB,hC⟩
 ·rw[aF _ (Ne.symm n6),hZ];intro e;cases e
theorem NJ.put (ho:NOk R b w0 base v0 il ic ib ia iz) (h:NJ R j0 d b w0 oF base T v0 n xs r1 il ic ib ia iz vals L V X) (hA:L ia=true) (kR:∀u,vals[iz]?=some (some u)→False) (hs:Step (·=b) X X') (hb:X'.heap[b]?=some (oF (V ia))) (v:Value):NJ R j0 d b w0 oF base T v0 n xs r1 il ic ib ia iz vals (dO L iz) (iY V iz v) X':=by
 obtain⟨n1,n2,n3,n4,n5,n6⟩:=ho.ne;have h1:=ho.rb;have h2:=ho.bb;have h3:=ho.bw;refine⟨jc h.iK iz _ (fun u hu=>(kR u hu).elim),?_,?_,?_,?_,?_,h.st.trans (hs.mono (fun _ _ e=>.inr (.inl e))),?_,?_,?_,?_,?_⟩
 ·rw[aF _ n3,b_ _ _ n3];exact h.vc
 ·rw[aF _ n6,hA];intro _ e;cases e
 ·rw[aF _ n6,b_ _ _ n6];intro e;obtain⟨s,k,h4,h5,h6⟩:=h.va e;exact⟨s,k,h4,jM h5 hs (fun q hq e=>by have:=(h5.lt q hq).1;omega),h6⟩
 ·rw[aF _ n6,hA];intro e;cases e
 ·rw[aF _ n3];obtain⟨i,h4,h5⟩:=h.rd;exact⟨i,h4.step hs oi,h5⟩
 ·rw[jV,b_ _ _ n6];exact hb
 ·rw[aF _ n5,aF _ n3];exact h.qb
 ·rw[aF _ n6,aF _ n5,aF _ n3];exact h.qa
 ·rw[aF _ n6];intro _;exact hA
 ·rw[aF _ n6,aF _ ho.nl.2.2.2];exact h.ql
theorem NJ.done (h:NJ R j0 d b w0 oF base T v0 n xs r1 il ic ib ia iz vals L V X) (hC:L ic=true) (hA:L ia=true) (hZ:L iz=true):∃s k v',r1=.ok s k∧bI R X k d∧X.heap[b]?=some (oF v')∧X.ownsRow base T 1 v' (n+1) (xs++[.string s])∧(v'.ownBlock=v0.ownBlock∨∃g,v'.ownBlock=some g∧w0.heap.size≤g)∧Step (fun q=>q=R.rb∨q=b∨v0.ownBlock=some q) w0 X:=by obtain⟨s,k,h1,h2,h3⟩:=h.va hA;obtain⟨i,h4,h5⟩:=h.rd;rw[hC]at h5;obtain⟨s',h6⟩:∃s,r1=.ok s i:=h5;rw[h1]at h6;cases h6;have hb:=h.blk;rw[hZ]at hb;exact⟨s,k,V ia,h1,h4,hb,h2,h3,h.st⟩
end
structure N2 (T:Nat) (mk:Value→Value→Obj) (R:gJ) (w1:World) (b d:Nat) (X:World) (i:Nat) (la lb:List ByteArray) (va vb:Value):Prop where
 rd:bI R X i d
 blk:X.heap[b]?=some (mk va vb)
 oa:X.ownsRow w1.heap.size T 1 va la.length (la.map .string)
 ob:X.ownsRow w1.heap.size T 1 vb lb.length (lb.map .string)
 ne:∀q,va.ownBlock=some q→vb.ownBlock≠some q
 sa:∀s∈la,s.size≤9223372036854775807
 sb:∀s∈lb,s.size≤9223372036854775807
 few:la.length+lb.length≤8
 st:Step (fun q=>q=R.rb∨q=b) w1 X
section
variable {T : Nat} {mk : Value → Value → Obj} {R : gJ} {w1 : World} {b d : Nat} {X X' : World} {i j : Nat} {la lb : List ByteArray} {va vb v' : Value}
theorem N2.quiet (h:N2 T mk R w1 b d X i la lb va vb) (hs:StF X X'):N2 T mk R w1 b d X' i la lb va vb:=
 ⟨h.rd.quiet hs,hs.keep h.blk (fun h=>h),hs.owns h.oa (fun _ _ h=>h),hs.owns h.ob (fun _ _ h=>h),h.ne,h.sa,h.sb,h.few,h.st.trans (hs.mono fe)⟩
theorem N2.read (h:N2 T mk R w1 b d X i la lb va vb) (hb:R.rb<b) (hw:R.rb<w1.heap.size) (hr:bI R X' j d) (hs:Step (·=R.rb) X X'):N2 T mk R w1 b d X' j la lb va vb:=
 ⟨hr,hs.keep h.blk om,hs.owns h.oa oi,hs.owns h.ob oi,h.ne,h.sa,h.sb,h.few,h.st.trans (hs.mono ilQ)⟩
theorem N2.err (h:N2 T mk R w1 b d X i la lb va vb) (hs:Step (·=R.rb) X X'):Step (fun q=>q=R.rb∨q=b) w1 X':=h.st.trans (hs.mono ilQ)
theorem N2.QK (h:N2 T mk R w1 b d X i la lb va vb) (hb:R.rb<b) (hw:b<w1.heap.size) {s:ByteArray} (hr:bI R X' j d) (hk:X'.heap[b]?=some (mk v' vb)) (hown:X'.ownsRow w1.heap.size T 1 v' (la.length+1) (la.map .string++[.string s])) (hat:v'.ownBlock=va.ownBlock∨∃g,v'.ownBlock=some g∧X.heap.size≤g) (hs:Step (fun q=>q=R.rb∨q=b∨va.ownBlock=some q) X X') (hz:s.size≤9223372036854775807) (hlt:la.length+lb.length<8):N2 T mk R w1 b d X' j (la++[s]) lb v' vb:=by
 have hlen:(la++[s]).length=la.length+1:=by simp
 refine⟨hr,hk,by rw[hlen,List.map_append];exact hown,jM h.ob hs (fun q hq e=> ?_),fun q hq e=> ?_,?_,h.sb,by rw[hlen];omega,h.st.then hs (fun q hq e=> ?_)⟩
 ·have h1:=(h.ob.lt q hq).1;rcases e with e|e|e
  ·omega
  ·omega
  ·exact h.ne q e hq
 ·rcases hat with e2|⟨g,e2,e3⟩
  ·exact h.ne q (by rw[←e2];exact hq) e
  ·rw[e2]at hq;cases hq;have:=(h.ob.lt _ e).2;omega
 ·intro x hx;rcases List.mem_append.1 hx with hx|hx
  ·exact h.sa x hx
  ·rw[List.mem_singleton.1 hx];exact hz
 ·rcases e with e|e|e
  ·exact .inl e
  ·exact .inr e
  ·have:=(h.oa.lt q e).1;omega
theorem N2.pushB (h:N2 T mk R w1 b d X i la lb va vb) (hb:R.rb<b) (hw:b<w1.heap.size) {s:ByteArray} (hr:bI R X' j d) (hk:X'.heap[b]?=some (mk va v')) (hown:X'.ownsRow w1.heap.size T 1 v' (lb.length+1) (lb.map .string++[.string s])) (hat:v'.ownBlock=vb.ownBlock∨∃g,v'.ownBlock=some g∧X.heap.size≤g) (hs:Step (fun q=>q=R.rb∨q=b∨vb.ownBlock=some q) X X') (hz:s.size≤9223372036854775807) (hlt:la.length+lb.length<8):N2 T mk R w1 b d X' j la (lb++[s]) va v':=by
 have hlen:(lb++[s]).length=lb.length+1:=by simp
 refine⟨hr,hk,jM h.oa hs (fun q hq e=> ?_),by rw[hlen,List.map_append];exact hown,fun q hq e=> ?_,h.sa,?_,by rw[hlen];omega,h.st.then hs (fun q hq e=> ?_)⟩
 ·have h1:=(h.oa.lt q hq).1;rcases e with e|e|e
  ·omega
  ·omega
  ·exact h.ne q hq e
 ·rcases hat with e2|⟨g,e2,e3⟩
  ·exact h.ne q hq (by rw[←e2];exact e)
  ·rw[e2]at e;cases e;have:=(h.oa.lt _ hq).2;omega
 ·intro x hx;rcases List.mem_append.1 hx with hx|hx
  ·exact h.sb x hx
  ·rw[List.mem_singleton.1 hx];exact hz
 ·rcases e with e|e|e
  ·exact .inl e
  ·exact .inr e
  ·have:=(h.ob.lt q e).1;omega
theorem N2.names (h:N2 T mk R w1 b d X i la lb va vb):bV X (fun q=>w1.heap.size≤q) la va∧bV X (fun q=>w1.heap.size≤q) lb vb:=
 ⟨⟨h.sa,cu.eu h.oa (fun q hq=>(h.oa.lt q hq).1)⟩,⟨h.sb,cu.eu h.ob (fun q hq=>(h.ob.lt q hq).1)⟩⟩
end
def Jb (w:World) (P:Nat→Prop) (g:Gn) (v:Value):Prop:=∃vl vt:Value,v=.agg #[vl,vt]∧bV w P g.aB vl∧bV w P g.types vt
theorem zY:y_ Jb:=⟨fun _ _ hs hP ⟨vl,vt,h1,h2,h3⟩=>⟨vl,vt,h1,aX.step _ _ hs hP h2,aX.step _ _ hs hP h3⟩,fun _ _ hp ⟨vl,vt,h1,h2,h3⟩=>⟨vl,vt,h1,aX.mono _ _ hp h2,aX.mono _ _ hp h3⟩⟩
def GnV (n0:Nat) (w':World) (a:Gn) (v:Value):Prop:=Jb w' (fun k=>n0≤k) a v
theorem J9 (f:Nat) (R:gJ) (w:World) (i d:Nat) (hl:oZ R.l) (h:bI R w i d) (hno:jC f R.l i≠.out):Calls Tryz.prog 140 #[.agg #[eU R.rb 0]] w (aJ R d (GnV w.heap.size) (jC f R.l i) w):=by
 have HL:=au hl;obtain⟨r,hr⟩:=aN (jC f R.l i);have HRR:Hid (r=if bF R.l i [60]then lD f R.l (i+1) [] []else .ok ⟨[],[]⟩ i):=by show _=_;rw[hr,jC]
 rw[←hr]at hno⊢;have eX:=au hno;have rU:=aK h.blk;obtain⟨w1,hw1⟩:=aN (((w.alloc (.cells #[eU R.rb 0] 97)).alloc (.cells #[ay,ay] 42)).alloc (.cells #[ay,ay] 42));have dH:Hid (StF w w1):=by rw[hw1];exact((bK.alloc _).alloc _).alloc _
 have kL:Hid (w1.heap[w.heap.size]?=some (.cells #[eU R.rb 0] 97 (0,0))):=by rw[hw1];exact aP (aP (aC _ _))
 have kT:Hid (w1.heap[w.heap.size+1]?=some (.cells #[ay,ay] 42 (0,0))):=by rw[hw1];exact aP (dY _ _ _)
 have HB1:Hid (w1.heap[w.heap.size+1+1]?=some (.cells #[ay,ay] 42 (0,0))):=by show _=_;rw[hw1];have h:=aC ((w.alloc (.cells #[eU R.rb 0] 97)).alloc (.cells #[ay,ay] 42)) (.cells #[ay,ay] 42);simpa using h
 have HW1:=au hw1;have H1:=au (h.quiet dH.o);obtain⟨i0,hi0,hz0,hz1,hz2⟩:=info_parts Tryz.rW;have HI:=au hi0;have HZ0:=au hz0;have HZ1:=au hz1;have HZ2:=au hz2;have hbw:=aK HB1.o;clear hl h hno hr hw1 hi0 hz0 hz1 hz2;go_enter Tryz.func140,Tryz.ntmps140;go_upto_region 2 with fail
 rw[←HW1.o];obtain⟨b,hb⟩:=aN (w.heap.size+1+1);rw[←hb]at HB1 hbw⊢;have hrb:R.rb<b:=by omega
 have hwb:w.heap.size+1<b:=by omega
 have gK:Hid (∀X:World,Step (fun q=>q=R.rb∨q=b) w1 X→Step (·=R.rb) w X):=fun X hX=>(dH.o.mono fe).then hX oi
 have cZ:Hid (∀X:World,Step (fun q=>q=R.rb∨q=b) w1 X→X.cell? ⟨w.heap.size,0,none⟩=some (.pointer (some ⟨R.rb,0,none⟩))):=fun X hX=>aj (hX.keep kL.o om) 0 _ rfl
 have sZ:Hid (∀X:World,Step (fun q=>q=R.rb∨q=b) w1 X→X.heap[w.heap.size+1]?=some (.cells #[ay,ay] 42 (0,0))):=fun X hX=>hX.keep kT.o om
 have hsz1:=dH.o.size;have qL:Hid (N2 9 (fun va vb=>.cells #[va,vb] 42 (0,0)) R w1 b d w1 i [] [] (.slice none 0 0) (.slice none 0 0)):=⟨H1.o,HB1.o,World.ownsRow_nil _ _ _ _,World.ownsRow_nil _ _ _ _,lu,lu,lu,by simp,Step.refl _ _⟩;clear hb;have p0:=cZ.o w1 bK;go_wp2_with fail;cases hb:bF R.l i [60]with
 |false=>
  have HB:=au hb;clear hb;refine(dQ R HL.o ⟨#[60]⟩ _ i d qL.o.rd dc HB.o).mono ?_;rintro e w2 ⟨rfl,hr2,h2⟩;have qx:=au (qL.o.read hrb om hr2 h2);have mP:=au (HRR.o.trans (LD HB.o))
  clear hr2 h2 p0;have q0:=aj qx.o.blk 0 _ rfl;have q1:=aj qx.o.blk 1 _ rfl;obtain⟨⟨d0,d1⟩,z0,z1⟩:=RS (sZ.o w2 qx.o.st);go_wp2_with fail;refine bodyPost_ret (v:=.agg #[ay,ay]) (by simp[results,Tryz.results140,go_sem,d0,d1]) rfl ?_;have hs2:Step (·=w.heap.size+1) w2 ((w2.setCell ⟨w.heap.size+1,0,none⟩ (.slice none 0 0)).setCell ⟨w.heap.size+1,1,none⟩ (.slice none 0 0)):=((Step.refl (·=w.heap.size+1) _).setCell _ _ iW).setCell _ _ iW;exact aJ.dU mP.o rfl ⟨_,_,rfl,bV.nil _ _,bV.nil _ _⟩ (qx.o.rd.step hs2 oi) ((gK.o _ qx.o.st).then hs2 oi)
 |true=>
  have HB:=au hb;clear hb;refine(dA R HL.o ⟨#[60]⟩ _ i d qL.o.rd dc HB.o).mono ?_;rintro e w2 ⟨rfl,hr2,h2⟩;have qx:=au (qL.o.read hrb om hr2 h2);have mP:=au (HRR.o.trans (if_pos HB.o))
  clear hr2 h2 p0;go_wp2_with fail;go_loopg [] f (fun gg wr=>gg≤f∧∃(i':Nat) (ls ts:List ByteArray) (vl vt:Value),r=lD gg R.l i' ls ts∧N2 9 (fun va vb=>.cells #[va,vb] 42 (0,0)) R w1 b d wr i' ls ts vl vt);case atStart=>exact⟨Nat.le_refl _,i+1,[],[],_,_,mP.o,qx.o⟩
  case round=>
   obtain⟨hgf,i',ls,ts,vl,vt,hrq,hst⟩:=hrel;obtain⟨gn,rfl⟩:∃gn,gk=gn+1:=by
    cases gk with
    |zero=>exact absurd hrq (by rw[lD];exact eX.o)
    |succ gn=>exact⟨gn,rfl⟩
   (have vI:Hid (r=(eY (ls.length+ts.length) 8 R.l i').bind fun _ i=>(if(tokA R.l i).kind=2∧ts.length=0 then(jw R.l i).bind fun x j=>.ok (ls++[x],ts) j else(aS R.l i).bind fun x j=>.ok (ls,ts++[x]) j).bind fun p j=>if bF R.l j [44]then lD gn R.l (j+1) p.1 p.2 else(aH R.l j [62]).bind fun _ j=>.ok ⟨p.1,p.2⟩ j):=by show _=_;rw[hrq,lD]);obtain⟨oa,oc,rfl⟩:=aV hst.oa;obtain⟨pa,pc,rfl⟩:=aV hst.ob;have HST:=au hst;have p0:=cZ.o wr hst.st;have q0:=aj hst.blk 0 _ rfl;have q1:=aj hst.blk 1 _ rfl;have hfew:=hst.few;(have R1:IntKind.i64.wrap ((ls.length:Int)+(ts.length:Int))=((ls.length+ts.length:Nat):Int):=by rw[show((ls.length:Int)+(ts.length:Int))=((ls.length+ts.length:Nat):Int) by omega];exact IntWalk.i64_in _ om);clear hrq hst;go_wp2_with fail;clear R1;refine(nH R wr (ls.length+ts.length) 8 i' d HST.o.rd).mono ?_;rintro e w3 hp;cases hn:eY (ls.length+ts.length) 8 R.l i' with
   |out=>exact(lH hn).elim
   |err c ln col=>rw[hn]at hp;obtain⟨rfl,s3⟩:=hp;exact⟨rfl,aJ.aZ c ln col (by rw[vI.o,hn];rfl) rfl (gK.o _ (HST.o.err s3))⟩
   |ok u j=>
    have hji:j=i'∧ls.length+ts.length<8:=by
     unfold eY at hn;split at hn
     ·cases hn
     ·cases hn;exact⟨rfl,by omega⟩
    obtain⟨rfl,JK⟩:=hji;have HN:=au hn;rw[hn]at hp;obtain⟨⟨v,rfl,rfl⟩,hr3,s3⟩:=hp;have gu:=au (HST.o.read hrb om hr3 s3);(have mY:Hid (r=(if(tokA R.l j).kind=2∧ts.length=0 then(jw R.l j).bind fun x j=>.ok (ls++[x],ts) j else(aS R.l j).bind fun x j=>.ok (ls,ts++[x]) j).bind fun p j=>if bF R.l j [44]then lD gn R.l (j+1) p.1 p.2 else(aH R.l j [62]).bind fun _ j=>.ok ⟨p.1,p.2⟩ j):=by show _=_;rw[vI.o,HN.o];rfl);clear hn hr3 s3 p0 q0 q1;obtain⟨tk,htk⟩:=aN (tokA R.l j);(have LH:Hid (R.l[j]?=some tk):=by rw[htk];exact gu.o.rd.tok);have Sr:=au htk;obtain⟨cb,hcb⟩:=aN (tk.kind==2&&ts.length==0);have Em:=au hcb;(have hfd0:∀(a0 a1 a2 a3 a4:Value) (w:World),(Instr.field 157 (.agg #[a0,a1,a2,a3,a4]) 0).run Tryz.prog w=.ok a0 w:=fun _ _ _ _ _ _=>by kernel_rfl);clear htk hcb;(go_upto_region 5 with fail);go_cut [28] (fun s28 wx=>s28=.bool cb∧StF w3 wx);case first=>
     have p0:=cZ.o w3 gu.o.st;go_wp2_with fail;refine(lN R _ j d tk gu.o.rd LH.o).mono ?_;rintro e w4 ⟨rfl,h4⟩;have hb4:=h4.keep gu.o.blk (fun h=>h);have q1:=aj hb4 1 _ rfl;have gq:=au h4;clear p0 h4 hb4;by_cases hk:tk.kind=2
     ·(have e1:((tk.kind:Int)==2)=true:=by rw[kQ tk.kind 2 2 rfl,hk];rfl);obtain⟨b0,hb0⟩:∃b0,((ts.length:Int)==0)=b0:=⟨_,rfl⟩;(have hcb:cb=b0:=by rw[Em.o,hk,←hb0,kQ ts.length 0 0 rfl];rfl);have HC2:=au hcb;clear hcb;go_wp2_with fail;go_meet;case rel=>exact⟨by rw[HC2.o],gq.o⟩
     ·(have e1:((tk.kind:Int)==2)=false:=by rw[kQ tk.kind 2 2 rfl,beq_eq_false_iff_ne.2 hk]);(have hcb:cb=false:=by rw[Em.o,beq_eq_false_iff_ne.2 hk];rfl);have HC2:=au hcb;clear hcb;go_wp2_with fail;go_meet;case rel=>exact⟨by rw[HC2.o],gq.o⟩
    case rest=>
     obtain⟨rfl,hs4⟩:=hcut;obtain⟨w6,rfl⟩:=aN wc;have pX:=au (gu.o.quiet hs4);clear hs4;(go_upto_if 28 with fail);go_cut [] (fun wx=>∃(jn:Nat) (la lb:List ByteArray) (va vb:Value),r=(if bF R.l jn [44]then lD gn R.l (jn+1) la lb else(aH R.l jn [62]).bind fun _ j=>.ok ⟨la,lb⟩ j)∧N2 9 (fun va vb=>.cells #[va,vb] 42 (0,0)) R w1 b d wx jn la lb va vb);case first=>
      cases cb with
      |true=>
       (have hc:tk.kind=2∧ts.length=0:=by simpa using Em.o.symm);(have uD:Hid (r=((jw R.l j).bind fun x j=>.ok (ls++[x],ts) j).bind fun p j=>if bF R.l j [44]then lD gn R.l (j+1) p.1 p.2 else(aH R.l j [62]).bind fun _ j=>.ok ⟨p.1,p.2⟩ j):=by show _=_;rw[mY.o,←Sr.o,if_pos hc]);clear hc;have p0:=cZ.o w6 pX.o.st;(go_upto_region 6 with fail);obtain⟨r1,hr1⟩:=aN (jw R.l j);have HR1:=au hr1;(have pG:Hid (r1≠.out):=by rw[hr1];exact fun e=>CX e);(have mP:Hid (r=(r1.bind fun x j=>.ok (ls++[x],ts) j).bind fun p j=>if bF R.l j [44]then lD gn R.l (j+1) p.1 p.2 else(aH R.l j [62]).bind fun _ j=>.ok ⟨p.1,p.2⟩ j):=by show _=_;rw[uD.o,hr1]);have uG:Hid (NOk R b w6 w1.heap.size (.slice oa ls.length oc) 1 3 4 5 7):=⟨by decide,by decide,hrb,hbw,pX.o.st.size,fun q hq=>pX.o.oa.lt q hq⟩;have Ef:Hid (∀X:World,Step (fun q=>q=R.rb∨q=b∨(Value.slice oa ls.length oc).ownBlock=some q) w6 X→X.cell? ⟨w.heap.size,0,none⟩=some (.pointer (some ⟨R.rb,0,none⟩))):=by
        show∀X,_;intro X hX;refine hX.cell (cZ.o w6 pX.o.st) (fun e=> ?_);have e2:w.heap.size=R.rb∨w.heap.size=b∨(Value.slice oa ls.length oc).ownBlock=some w.heap.size:=e;rcases e2 with e2|e2|e2
        ·omega
        ·omega
        ·have:=(uG.o.own _ e2).1;omega
       obtain⟨Jx,hJx⟩:=aN (NJ R j d b w6 (fun v=>.cells #[v,.slice pa ts.length pc] 42 (0,0)) w1.heap.size 9 (.slice oa ls.length oc) ls.length (ls.map .string) r1 1 3 4 5 7 [some (.pointer (some ⟨b,0,none⟩)),some (.slice oa ls.length oc),some (.agg #[eU R.rb 0]),none,none,none,some (.pointer (some ⟨b,0,none⟩)),none]);have dB:=au hJx;(have PE:Hid (∀V,Jx (fun _=>false) V w6.drew):=by intro V;rw[hJx];exact NJ.zero (bK.drew) pX.o.rd pX.o.oa pX.o.blk);have YH:Hid (∀X:World,Step (fun q=>q=R.rb∨q=b∨(Value.slice oa ls.length oc).ownBlock=some q) w6 X→Step (fun q=>q=R.rb∨q=b) w1 X):=by
        show∀X,_;intro X hX;refine pX.o.st.then hX (fun q hq e=> ?_);rcases e with e|e|e
        ·exact .inl e
        ·exact .inr e
        ·have:=(uG.o.own _ e).1;omega
       clear hr1 hJx p0;refine bP kr Jx 8 rfl kr kr kr kr ?h0 ?hs ?hdone;case h0=>exact PE.o _
       case hs=>
        refine⟨?_,?_,?_,?_,?_,?_,?_,?_,trivial⟩
        all_goals (intro L V X a ev dG hdf hL ax hJ;rw[dB.o]at hJ)
        ·have o3:=dG 3 rfl;change a.tmps[3]?.getD undef=.pointer (some ⟨b,0,none⟩)at o3;go_simp;exact gbQ
        ·have e29:=(ev 0 29 rfl (ax 0 rfl)).trans (hJ.iK 0 _ rfl (ax 0 rfl));have hA:L 5=false:=by
          cases e:L 5 with
          |false=>rfl
          |true=>rw[hJ.ql e]at hL;cases hL
         have hb:=hJ.blk;rw[hJ.JJ hA]at hb;have q0:X.cell? ⟨b,0,none⟩=some (.slice oa ls.length oc):=aj hb 0 _ rfl;go_simp;exact gbQ
        ·have o1:=dG 1 rfl;change a.tmps[1]?.getD undef=.pointer (some ⟨w.heap.size,0,none⟩)at o1;have p0:=Ef.o X hJ.st;go_simp;exact gbQ
        ·have e31:=(ev 2 31 rfl (ax 2 rfl)).trans (hJ.iK 2 _ rfl (ax 2 rfl));obtain⟨i9,y1,y2⟩:=hJ.rd;rw[hL]at y2;have y3:i9=j:=y2;subst y3;go_simp;refine(xM R HL.o X i9 d y1).mono ?_;intro e wq hp;rw[←HR1.o]at hp;cases hx:r1 with
         |out=>exact absurd hx pG.o
         |err cc ln col=>rw[hx]at hp;obtain⟨rfl,hs⟩:=hp;exact⟨hdf,aJ.aZ cc ln col (by rw[mP.o,hx];rfl) rfl (gK.o _ ((YH.o X hJ.st).trans (hs.mono ilQ)))⟩
         |ok s9 k9=>have hx0:=hx;rw[hx]at hp;obtain⟨⟨v,rfl,rfl⟩,hr,hs⟩:=hp;exact⟨_,rfl,by rw[dB.o];exact hJ.call uG.o hL rfl hs hr hx0⟩
        ·obtain⟨s9,k9,y1,y2⟩:=hJ.vc (ax 3 rfl);have e32:=(ev 3 32 rfl (ax 3 rfl)).trans y2;go_simp;exact⟨_,rfl,by rw[dB.o];exact hJ.build uG.o hL (ax 3 rfl) rfl y2⟩
        ·have e30:=(ev 1 30 rfl (ax 1 rfl)).trans (hJ.iK 1 _ rfl (ax 1 rfl));have e33:=ev 4 33 rfl (ax 4 rfl);obtain⟨s9,k9,g9,y1,y2,y3,y4⟩:=hJ.vb (ax 4 rfl) hL;have hon:=hJ.own hL;have hwz:=Nat.le_trans uG.o.bw hJ.st.size;have hfw:=pX.o.few;refine f_ _ (g9+1) (.tmp 30) (.tmp 33) 40 rfl w1.heap.size 9 i0 (.string ⟨#[]⟩) 1 16 Tryz.underlying40 HI.o HZ0.o HZ1.o HZ2.o rfl dc (.slice oa ls.length oc) ls.length (ls.map .string) (by rw[bM];exact e30) hon (V 4) 1 [.string s9] (by rw[bM];exact e33) (by rw[y2];exact Row.new y4 dc) rfl (aU rfl) (by unfold maxLen;omega) om hwz ?_;intro v8 w8 qU ni C9;exact⟨v8,rfl,by rw[dB.o];exact hJ.app uG.o hL (ax 4 rfl) (ax 1 rfl) rfl y1 qU ni C9⟩
        ·have o3:=dG 3 rfl;change a.tmps[3]?.getD undef=.pointer (some ⟨b,0,none⟩)at o3;go_simp;exact gbQ
        ·have e35:=(ev 6 35 rfl (ax 6 rfl)).trans (hJ.iK 6 _ rfl (ax 6 rfl));obtain⟨s9,k9,y1,y2,y3⟩:=hJ.va (ax 5 rfl);obtain⟨a9,c9,hV⟩:=aV y2;have e34:=(ev 5 34 rfl (ax 5 rfl)).trans hV;have hb:=hJ.blk;rw[hL]at hb;have iE:∃v,X.cell? ⟨b,0,none⟩=some v:=⟨_,aj hb 0 _ rfl⟩;obtain⟨vc,I8⟩:=iE;have hfz:X.frozen? ⟨b,0,none⟩=false:=aI hb 0;go_simp;exact⟨undef,by rw[dB.o];exact hJ.put uG.o (ax 5 rfl) (fun u hu=>by cases hu) (bK.setCell _ _ iW) (by rw[←hV];exact aW hb 0 (V 5)) undef⟩
       case hdone=>intro L V X hall hJ;rw[dB.o]at hJ;obtain⟨s9,k9,v9,h1,h2,h3,h4,h5,h6⟩:=hJ.done (hall 3 dc) (hall 5 dc) (hall 7 dc);(have Ij:jw R.l j=.ok s9 k9:=by rw[←HR1.o];exact h1);have hsz:=zS HL.o pX.o.rd.lt Ij;rw[rgQ8];simp only[kJ,fO,gsQ,o9];(have G7:Hid (r=(if bF R.l k9 [44]then lD gn R.l (k9+1) (ls++[s9]) ts else(aH R.l k9 [62]).bind fun _ j=>.ok ⟨(ls++[s9]),ts⟩ j)):=by show _=_;rw[uD.o,Ij];rfl);have lI:Hid (N2 9 (fun va vb=>.cells #[va,vb] 42 (0,0)) R w1 b d X k9 (ls++[s9]) ts v9 (.slice pa ts.length pc)):=pX.o.QK hrb hbw h2 h3 h4 h5 h6 hsz JK;clear hJ hall h1 h2 h3 h4 h5 h6 Ij hsz;go_wp2_with fail;go_meet;case rel=>exact⟨k9,_,_,_,_,G7.o,lI.o⟩
      |false=>
       (have hc:¬(tk.kind=2∧ts.length=0):=by intro hc;have h9:=Em.o;rw[hc.1,hc.2]at h9;cases h9);(have uD:Hid (r=((aS R.l j).bind fun x j=>.ok (ls,ts++[x]) j).bind fun p j=>if bF R.l j [44]then lD gn R.l (j+1) p.1 p.2 else(aH R.l j [62]).bind fun _ j=>.ok ⟨p.1,p.2⟩ j):=by show _=_;rw[mY.o,←Sr.o,if_neg hc]);clear hc;have p0:=cZ.o w6 pX.o.st;(go_upto_region 7 with fail);obtain⟨r1,hr1⟩:=aN (aS R.l j);have HR1:=au hr1;(have pG:Hid (r1≠.out):=by rw[hr1];exact fun e=>iV e);(have mP:Hid (r=(r1.bind fun x j=>.ok (ls,ts++[x]) j).bind fun p j=>if bF R.l j [44]then lD gn R.l (j+1) p.1 p.2 else(aH R.l j [62]).bind fun _ j=>.ok ⟨p.1,p.2⟩ j):=by show _=_;rw[uD.o,hr1]);have uG:Hid (NOk R b w6 w1.heap.size (.slice pa ts.length pc) 1 4 5 6 8):=⟨by decide,by decide,hrb,hbw,pX.o.st.size,fun q hq=>pX.o.ob.lt q hq⟩;have Ef:Hid (∀X:World,Step (fun q=>q=R.rb∨q=b∨(Value.slice pa ts.length pc).ownBlock=some q) w6 X→X.cell? ⟨w.heap.size,0,none⟩=some (.pointer (some ⟨R.rb,0,none⟩))):=by
        show∀X,_;intro X hX;refine hX.cell (cZ.o w6 pX.o.st) (fun e=> ?_);have e2:w.heap.size=R.rb∨w.heap.size=b∨(Value.slice pa ts.length pc).ownBlock=some w.heap.size:=e;rcases e2 with e2|e2|e2
        ·omega
        ·omega
        ·have:=(uG.o.own _ e2).1;omega
       obtain⟨Jx,hJx⟩:=aN (NJ R j d b w6 (fun v=>.cells #[.slice oa ls.length oc,v] 42 (0,0)) w1.heap.size 9 (.slice pa ts.length pc) ts.length (ts.map .string) r1 1 4 5 6 8 [some (.pointer (some ⟨b,1,none⟩)),some (.slice pa ts.length pc),some (.pointer (some ⟨w.heap.size,0,none⟩)),some (.pointer (some ⟨R.rb,0,none⟩)),none,none,none,some (.pointer (some ⟨b,1,none⟩)),none]);have dB:=au hJx;(have PE:Hid (∀V,Jx (fun _=>false) V w6.drew):=by intro V;rw[hJx];exact NJ.zero (bK.drew) pX.o.rd pX.o.ob pX.o.blk);have YH:Hid (∀X:World,Step (fun q=>q=R.rb∨q=b∨(Value.slice pa ts.length pc).ownBlock=some q) w6 X→Step (fun q=>q=R.rb∨q=b) w1 X):=by
        show∀X,_;intro X hX;refine pX.o.st.then hX (fun q hq e=> ?_);rcases e with e|e|e
        ·exact .inl e
        ·exact .inr e
        ·have:=(uG.o.own _ e).1;omega
       clear hr1 hJx p0;refine bP kr Jx 9 rfl kr kr kr kr ?h0 ?hs ?hdone;case h0=>exact PE.o _
       case hs=>
        refine⟨?_,?_,?_,?_,?_,?_,?_,?_,?_,trivial⟩
        all_goals (intro L V X a ev dG hdf hL ax hJ;rw[dB.o]at hJ)
        ·have o3:=dG 3 rfl;change a.tmps[3]?.getD undef=.pointer (some ⟨b,0,none⟩)at o3;go_simp;exact gbQ
        ·have e36:=(ev 0 36 rfl (ax 0 rfl)).trans (hJ.iK 0 _ rfl (ax 0 rfl));have hA:L 6=false:=by
          cases e:L 6 with
          |false=>rfl
          |true=>rw[hJ.ql e]at hL;cases hL
         have hb:=hJ.blk;rw[hJ.JJ hA]at hb;have q1:X.cell? ⟨b,1,none⟩=some (.slice pa ts.length pc):=aj hb 1 _ rfl;go_simp;exact gbQ
        ·have o1:=dG 1 rfl;change a.tmps[1]?.getD undef=.pointer (some ⟨w.heap.size,0,none⟩)at o1;go_simp;exact gbQ
        ·have e38:=(ev 2 38 rfl (ax 2 rfl)).trans (hJ.iK 2 _ rfl (ax 2 rfl));have p0:=Ef.o X hJ.st;go_simp;exact gbQ
        ·have e39:=(ev 3 39 rfl (ax 3 rfl)).trans (hJ.iK 3 _ rfl (ax 3 rfl));obtain⟨i9,y1,y2⟩:=hJ.rd;rw[hL]at y2;have y3:i9=j:=y2;subst y3;go_simp;refine(name_any R HL.o X i9 d y1).mono ?_;intro e wq hp;rw[←HR1.o]at hp;cases hx:r1 with
         |out=>exact absurd hx pG.o
         |err cc ln col=>rw[hx]at hp;obtain⟨rfl,hs⟩:=hp;exact⟨hdf,aJ.aZ cc ln col (by rw[mP.o,hx];rfl) rfl (gK.o _ ((YH.o X hJ.st).trans (hs.mono ilQ)))⟩
         |ok s9 k9=>have hx0:=hx;rw[hx]at hp;obtain⟨⟨v,rfl,rfl⟩,hr,hs⟩:=hp;exact⟨_,rfl,by rw[dB.o];exact hJ.call uG.o hL rfl hs hr hx0⟩
        ·obtain⟨s9,k9,y1,y2⟩:=hJ.vc (ax 4 rfl);have e40:=(ev 4 40 rfl (ax 4 rfl)).trans y2;go_simp;exact⟨_,rfl,by rw[dB.o];exact hJ.build uG.o hL (ax 4 rfl) rfl y2⟩
        ·have e37:=(ev 1 37 rfl (ax 1 rfl)).trans (hJ.iK 1 _ rfl (ax 1 rfl));have e41:=ev 5 41 rfl (ax 5 rfl);obtain⟨s9,k9,g9,y1,y2,y3,y4⟩:=hJ.vb (ax 5 rfl) hL;have hon:=hJ.own hL;have hwz:=Nat.le_trans uG.o.bw hJ.st.size;have hfw:=pX.o.few;refine f_ _ (g9+1) (.tmp 37) (.tmp 41) 40 rfl w1.heap.size 9 i0 (.string ⟨#[]⟩) 1 16 Tryz.underlying40 HI.o HZ0.o HZ1.o HZ2.o rfl dc (.slice pa ts.length pc) ts.length (ts.map .string) (by rw[bM];exact e37) hon (V 5) 1 [.string s9] (by rw[bM];exact e41) (by rw[y2];exact Row.new y4 dc) rfl (aU rfl) (by unfold maxLen;omega) om hwz ?_;intro v8 w8 qU ni C9;exact⟨v8,rfl,by rw[dB.o];exact hJ.app uG.o hL (ax 5 rfl) (ax 1 rfl) rfl y1 qU ni C9⟩
        ·have o3:=dG 3 rfl;change a.tmps[3]?.getD undef=.pointer (some ⟨b,0,none⟩)at o3;go_simp;exact gbQ
        ·have e43:=(ev 7 43 rfl (ax 7 rfl)).trans (hJ.iK 7 _ rfl (ax 7 rfl));obtain⟨s9,k9,y1,y2,y3⟩:=hJ.va (ax 6 rfl);obtain⟨a9,c9,hV⟩:=aV y2;have e42:=(ev 6 42 rfl (ax 6 rfl)).trans hV;have hb:=hJ.blk;rw[hL]at hb;have iE:∃v,X.cell? ⟨b,1,none⟩=some v:=⟨_,aj hb 1 _ rfl⟩;obtain⟨vc,I8⟩:=iE;have hfz:X.frozen? ⟨b,1,none⟩=false:=aI hb 1;go_simp;exact⟨undef,by rw[dB.o];exact hJ.put uG.o (ax 6 rfl) (fun u hu=>by cases hu) (bK.setCell _ _ iW) (by rw[←hV];exact aW hb 1 (V 6)) undef⟩
       case hdone=>intro L V X hall hJ;rw[dB.o]at hJ;obtain⟨s9,k9,v9,h1,h2,h3,h4,h5,h6⟩:=hJ.done (hall 4 dc) (hall 6 dc) (hall 8 dc);(have Ij:aS R.l j=.ok s9 k9:=by rw[←HR1.o];exact h1);have hsz:=fV HL.o pX.o.rd.lt Ij;rw[rgQ9];simp only[kJ,fO,gsQ,o9];(have G7:Hid (r=(if bF R.l k9 [44]then lD gn R.l (k9+1) ls (ts++[s9])else(aH R.l k9 [62]).bind fun _ j=>.ok ⟨ls,(ts++[s9])⟩ j)):=by show _=_;rw[uD.o,Ij];rfl);have lI:Hid (N2 9 (fun va vb=>.cells #[va,vb] 42 (0,0)) R w1 b d X k9 ls (ts++[s9]) (.slice oa ls.length oc) v9):=pX.o.pushB hrb hbw h2 h3 h4 h5 h6 hsz JK;clear hJ hall h1 h2 h3 h4 h5 h6 Ij hsz;go_wp2_with fail;go_meet;case rel=>exact⟨k9,_,_,_,_,G7.o,lI.o⟩
     case rest=>
      obtain⟨jn,la,lb,va,vb,hrn,hls⟩:=hcut;obtain⟨w9,rfl⟩:=aN wc;obtain⟨a1,c1,rfl⟩:=aV hls.oa;obtain⟨a2,c2,rfl⟩:=aV hls.ob;have iR:=au hls;have pG:=au hrn;clear hls hrn;have p0:=cZ.o w9 iR.o.st;go_wp2_with fail;cases hc:bF R.l jn [44]with
      |true=>
       have HC:=au hc;clear hc;refine(dA R HL.o ⟨#[44]⟩ _ jn d iR.o.rd dc HC.o).mono ?_;rintro e wa ⟨rfl,hra,sa⟩;have jB:=au (iR.o.read hrb om hra sa);(have TM:Hid (r=lD gn R.l (jn+1) la lb):=by show _=_;rw[pG.o,HC.o,if_pos rfl]);clear hra sa p0;go_wp2_with fail;go_roundg gn;case rel=>exact⟨by omega,jn+1,la,lb,_,_,TM.o,jB.o⟩
       case measure=>omega
      |false=>
       have HC:=au hc;clear hc;refine(dQ R HL.o ⟨#[44]⟩ _ jn d iR.o.rd dc HC.o).mono ?_;rintro e wa ⟨rfl,hra,sa⟩;have jB:=au (iR.o.read hrb om hra sa);(have TM:Hid (r=(aH R.l jn [62]).bind fun _ j=>.ok ⟨la,lb⟩ j):=by show _=_;rw[pG.o,HC.o,if_neg dc]);clear hra sa p0;have p0:=cZ.o wa jB.o.st;go_wp2_with fail;refine(dP R HL.o wa.heap.size ⟨#[62]⟩ _ jn d (jB.o.rd.quiet (bK.alloc _)) dc (aj (aC _ _) 0 _ rfl)).mono ?_;rintro e wb hp;have hp2:aJ R d iQ (aH R.l jn [62]) _ e wb:=hp;cases hn:aH R.l jn [62]with
       |out=>exact(dJ hn).elim
       |err c ln col=>rw[hn]at hp2;obtain⟨rfl,sb⟩:=hp2;exact⟨rfl,aJ.aZ c ln col (by rw[TM.o,hn];rfl) rfl (gK.o _ (jB.o.err (((Step.refl (·=R.rb) _).alloc _).trans sb)))⟩
       |ok u2 jz=>have VL:=au hn;rw[hn]at hp2;obtain⟨⟨v,rfl,rfl⟩,wu,sb⟩:=hp2;have uq:=au (jB.o.read hrb om wu (((Step.refl (·=R.rb) _).alloc _).trans sb));(have kU:Hid (r=.ok ⟨la,lb⟩ jz):=by show _=_;rw[TM.o,VL.o];rfl);clear hn wu sb p0 hp;have q0:=aj uq.o.blk 0 _ rfl;have q1:=aj uq.o.blk 1 _ rfl;obtain⟨⟨d0,d1⟩,z0,z1⟩:=RS (sZ.o wb uq.o.st);have HNA:=au uq.o.names;go_wp2_with fail;refine bodyPost_ret (v:=.agg #[.slice a1 la.length c1,.slice a2 lb.length c2]) (by simp[results,Tryz.results140,go_sem,d0,d1]) rfl ?_;have hs2:Step (·=w.heap.size+1) wb ((wb.setCell ⟨w.heap.size+1,0,none⟩ (.slice a1 la.length c1)).setCell ⟨w.heap.size+1,1,none⟩ (.slice a2 lb.length c2)):=((Step.refl (·=w.heap.size+1) _).setCell _ _ iW).setCell _ _ iW;exact aJ.dU kU.o rfl ⟨_,_,rfl,aX.mono _ _ oi (aX.step _ _ hs2 oi HNA.o.1),aX.mono _ _ oi (aX.step _ _ hs2 oi HNA.o.2)⟩ (uq.o.rd.step hs2 oi) ((gK.o _ uq.o.st).then hs2 oi)
theorem WI (R:gJ) (hl:oZ R.l) (w:World) (i d:Nat) (h:bI R w i d):Calls Tryz.prog 112 #[.agg #[eU R.rb 0]] w (aJ R d Hy (.ok (uj R.l i) (qy R.l i)) w):=
 (JF R hl w i d h).mono fun _ _ hp=>⟨⟨_,hp.1,rfl⟩,hp.2⟩
theorem Jc {R:gJ} (hl:oZ R.l) {i:Nat} (hi:i<R.l.length):(uj R.l i).size≤9223372036854775807:=by
 unfold uj;split
 ·exact AZ (hl.text _ (List.mem_of_getElem? (uM hi)))
 ·decide
structure AJ (R:gJ) (i0 d:Nat) (w1:World) (zc:Array Value) (nc:ByteArray→Array Value) (T:Nat) (r1:dV ByteArray) (ic ib il iz:Nat) (vals:List (Option Value)) (L:Nat→Bool) (V:Nat→Value) (X:World):Prop where
 iK:∀(i:Nat) v,vals[i]?=some (some v)→L i=true→V i=v
 vc:L ic=true→∃s k,r1=.ok s k∧V ic=.string s
 vb:L ib=true→∃s k,r1=.ok s k∧V ib=.agg (nc s)
 vl:L il=true→∃b,V il=.pointer (some ⟨b,0,none⟩)∧w1.heap.size≤b∧(L iz=false→X.heap[b]?=some (.cells zc T (0,0)))∧(L iz=true→∃s k,r1=.ok s k∧X.heap[b]?=some (.cells (nc s) T (0,0)))
 rd:∃i,bI R X i d∧cond (L ic) (∃s,r1=.ok s i) (i=i0)
 st:Step (·=R.rb) w1 X
 qb:L ib=true→L ic=true
 qz:L iz=true→L ib=true∧L il=true
 qc:L ic=true→L 2=true
theorem Bz {L:Nat→Bool} (i:Nat) {k:Nat} (h:L k=true):dO L i k=true:=by
 by_cases e:k=i
 ·rw[e];exact jV _ _
 ·rw[aF _ e];exact h
section
variable {R : gJ} {i0 d : Nat} {w1 : World} {zc : Array Value} {nc : ByteArray → Array Value} {T : Nat} {r1 : dV ByteArray} {ic ib il iz : Nat} {vals : List (Option Value)} {L : Nat → Bool} {V : Nat → Value} {X X' : World}
theorem AJ.zero (hs:StF w1 X) (hr:bI R w1 i0 d):AJ R i0 d w1 zc nc T r1 ic ib il iz vals (fun _=>false) V X:=
 ⟨fun _ _ _ h=>(nomatch h),gQ,gQ,gQ,⟨i0,hr.quiet hs,rfl⟩,hs.mono fe,gQ,gQ,gQ⟩
theorem AJ.up (h:AJ R i0 d w1 zc nc T r1 ic ib il iz vals L V X) (i:Nat) {v:Value} (hv:vals[i]?=some (some v)) (h1:i≠ic) (h2:i≠ib) (h3:i≠il) (h4:i≠iz):AJ R i0 d w1 zc nc T r1 ic ib il iz vals (dO L i) (iY V i v) X:=by
 refine⟨jc h.iK i v (fun u hu=>by rw[hv]at hu;cases hu;rfl),?_,?_,?_,?_,h.st,?_,?_,fun e=>Bz i (h.qc (by rw[aF _ (Ne.symm h1)]at e;exact e))⟩
 ·rw[aF _ (Ne.symm h1),b_ _ _ (Ne.symm h1)];exact h.vc
 ·rw[aF _ (Ne.symm h2),b_ _ _ (Ne.symm h2)];exact h.vb
 ·rw[aF _ (Ne.symm h3),b_ _ _ (Ne.symm h3),aF _ (Ne.symm h4)];exact h.vl
 ·rw[aF _ (Ne.symm h1)];exact h.rd
 ·rw[aF _ (Ne.symm h2),aF _ (Ne.symm h1)];exact h.qb
 ·rw[aF _ (Ne.symm h4),aF _ (Ne.symm h2),aF _ (Ne.symm h3)];exact h.qz
theorem AJ.move (h:AJ R i0 d w1 zc nc T r1 ic ib il iz vals L V X) (hs:StF X X'):AJ R i0 d w1 zc nc T r1 ic ib il iz vals L V X':=by
 refine⟨h.iK,h.vc,h.vb,?_,?_,h.st.trans (hs.mono fe),h.qb,h.qz,h.qc⟩
 ·intro e;obtain⟨b,h1,h2,h3,h4⟩:=h.vl e;refine⟨b,h1,h2,fun e2=>hs.keep (h3 e2) (fun h=>h),fun e2=> ?_⟩;obtain⟨s,k,h5,h6⟩:=h4 e2;exact⟨s,k,h5,hs.keep h6 (fun h=>h)⟩
 ·obtain⟨i,h1,h2⟩:=h.rd;exact⟨i,h1.quiet hs,h2⟩
theorem AJ.JJ (h:AJ R i0 d w1 zc nc T r1 ic ib il iz vals L V X) (hL:L ic=false):L iz=false:=by
 cases e:L iz with
 |false=>rfl
 |true=>rw[h.qb (h.qz e).1]at hL;cases hL
theorem AJ.call (hne:ic≠ib∧ic≠il∧ic≠iz) (hw:R.rb<w1.heap.size) (h:AJ R i0 d w1 zc nc T r1 ic ib il iz vals L V X) (hL:L ic=false) (h2:L 2=true) (kR:vals[ic]?=some none) (hs:Step (·=R.rb) X X') {k:Nat} (hr:bI R X' k d) {s:ByteArray} (hx:r1=.ok s k):AJ R i0 d w1 zc nc T r1 ic ib il iz vals (dO L ic) (iY V ic (.string s)) X':=by
 have hZ:=h.JJ hL;obtain⟨n1,n2,n3⟩:=hne;refine⟨jc h.iK ic _ (fun u hu=>by rw[kR]at hu;cases hu),fun _=>⟨s,k,hx,lS _ _ _⟩,?_,?_,⟨k,hr,by rw[jV];exact⟨s,hx⟩⟩,h.st.trans hs,fun _=>jV _ _,?_,fun _=>Bz ic h2⟩
 ·rw[aF _ (Ne.symm n1),b_ _ _ (Ne.symm n1)];exact h.vb
 ·rw[aF _ (Ne.symm n2),b_ _ _ (Ne.symm n2),aF _ (Ne.symm n3)];intro e;obtain⟨b,h1,h2,h3,h4⟩:=h.vl e;exact⟨b,h1,h2,fun e2=>hs.keep (h3 e2) om,fun e2=>by rw[hZ]at e2;cases e2⟩
 ·rw[aF _ (Ne.symm n3),hZ];intro e;cases e
theorem AJ.build (hne:ic≠ib∧ib≠il∧ib≠iz) (h:AJ R i0 d w1 zc nc T r1 ic ib il iz vals L V X) (hC:L ic=true) (hL:L ib=false) (kR:vals[ib]?=some none) {s:ByteArray} (hs:V ic=.string s):AJ R i0 d w1 zc nc T r1 ic ib il iz vals (dO L ib) (iY V ib (.agg (nc s))) X:=by
 obtain⟨n1,n2,n3⟩:=hne;refine⟨jc h.iK ib _ (fun u hu=>by rw[kR]at hu;cases hu),?_,?_,?_,?_,h.st,?_,?_,fun _=>Bz ib (h.qc hC)⟩
 ·rw[aF _ n1,b_ _ _ n1];exact h.vc
 ·intro _;obtain⟨s',k,h1,h2⟩:=h.vc hC;rw[hs]at h2;cases h2;exact⟨s,k,h1,lS _ _ _⟩
 ·rw[aF _ (Ne.symm n2),b_ _ _ (Ne.symm n2),aF _ (Ne.symm n3)];exact h.vl
 ·rw[aF _ n1];exact h.rd
 ·intro _;rw[aF _ n1];exact hC
 ·rw[aF _ (Ne.symm n3)];intro e;obtain⟨h1,h2⟩:=h.qz e;rw[hL]at h1;cases h1
theorem AJ.alloc (hne:ic≠il∧ib≠il∧il≠iz) (h:AJ R i0 d w1 zc nc T r1 ic ib il iz vals L V X) (hL:L il=false) (kR:vals[il]?=some none):AJ R i0 d w1 zc nc T r1 ic ib il iz vals (dO L il) (iY V il (.pointer (some ⟨X.heap.size,0,none⟩))) (X.alloc (.cells zc T)):=by
 obtain⟨n1,n2,n3⟩:=hne;have hZ:L iz=false:=by
  cases e:L iz with
  |false=>rfl
  |true=>rw[(h.qz e).2]at hL;cases hL
 have hs:StF X (X.alloc (.cells zc T)):=bK.alloc _;refine⟨jc h.iK il _ (fun u hu=>by rw[kR]at hu;cases hu),?_,?_,?_,?_,h.st.alloc _,?_,?_,fun e=>Bz il (h.qc (by rw[aF _ n1]at e;exact e))⟩
 ·rw[aF _ n1,b_ _ _ n1];exact h.vc
 ·rw[aF _ n2,b_ _ _ n2];exact h.vb
 ·intro _;refine⟨X.heap.size,lS _ _ _,h.st.size,fun _=>aC _ _,fun e=> ?_⟩;rw[aF _ (Ne.symm n3),hZ]at e;cases e
 ·rw[aF _ n1];obtain⟨i,h1,h2⟩:=h.rd;exact⟨i,h1.quiet hs,h2⟩
 ·rw[aF _ n2,aF _ n1];exact h.qb
 ·rw[aF _ (Ne.symm n3),hZ];intro e;cases e
theorem AJ.put (hne:ic≠iz∧ib≠iz∧il≠iz) (hw:R.rb<w1.heap.size) (h:AJ R i0 d w1 zc nc T r1 ic ib il iz vals L V X) (hB:L ib=true) (hA:L il=true) (kR:∀u,vals[iz]?=some (some u)→False) {s:ByteArray} {k:Nat} (hx:r1=.ok s k) {b:Nat} (hp:V il=.pointer (some ⟨b,0,none⟩)) (hs:Step (·=b) X X') (hb:X'.heap[b]?=some (.cells (nc s) T (0,0))) (v:Value):AJ R i0 d w1 zc nc T r1 ic ib il iz vals (dO L iz) (iY V iz v) X':=by
 obtain⟨n1,n2,n3⟩:=hne;obtain⟨b',h1,h2,-,-⟩:=h.vl hA;rw[hp]at h1;cases h1;refine⟨jc h.iK iz _ (fun u hu=>(kR u hu).elim),?_,?_,?_,?_,h.st.then hs oi,?_,?_,fun e=>Bz iz (h.qc (by rw[aF _ n1]at e;exact e))⟩
 ·rw[aF _ n1,b_ _ _ n1];exact h.vc
 ·rw[aF _ n2,b_ _ _ n2];exact h.vb
 ·intro _;rw[b_ _ _ n3];exact⟨b,hp,h2,fun e=>(by rw[jV]at e;cases e),fun _=>⟨s,k,hx,hb⟩⟩
 ·rw[aF _ n1];obtain⟨i,h3,h4⟩:=h.rd;exact⟨i,h3.step hs oi,h4⟩
 ·rw[aF _ n2,aF _ n1];exact h.qb
 ·intro _;rw[aF _ n2,aF _ n3];exact⟨hB,hA⟩
theorem AJ.done (h:AJ R i0 d w1 zc nc T r1 ic ib il iz vals L V X) (hC:L ic=true) (hA:L il=true) (hZ:L iz=true):∃s k b,r1=.ok s k∧V il=.pointer (some ⟨b,0,none⟩)∧bI R X k d∧w1.heap.size≤b∧X.heap[b]?=some (.cells (nc s) T (0,0))∧Step (·=R.rb) w1 X:=by obtain⟨b,h1,h2,-,h3⟩:=h.vl hA;obtain⟨s,k,h4,h5⟩:=h3 hZ;obtain⟨i,h6,h7⟩:=h.rd;rw[hC]at h7;obtain⟨s',h8⟩:∃s,r1=.ok s i:=h7;rw[h4]at h8;cases h8;exact⟨s,k,b,h4,h1,h6,h2,h5,h.st⟩
end
end Go.Proofs.YtppekkbaoimpgaaGreat
