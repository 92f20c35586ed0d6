import Derived.Test.YtggjfinekcenpaaGreatPkI
set_option maxRecDepth 100000
set_option maxHeartbeats 80000000
namespace Go.Proofs.YtggjfinekcenpaaGreat
open Go.RowKit
theorem RG {p:Prop} (h:p:=by exact fun _ _ e=>.inl e):p:=h
open Vt
theorem RH (w:World) (base t size:Nat) (cs:List Value) (h:cs.length=size) (hb:base≤w.heap.size):(w.alloc (.cells cs.toArray t)).ownsRow base t size (.slice (some ⟨w.heap.size,0,none⟩) 1 1) 1 cs:=
 ⟨by omega,.inr ⟨w.heap.size,1,cs.toArray,rfl,hb,aC _ _,Nat.le_refl _,by unfold maxLen;omega,by simp[h],by simp[←h]⟩⟩
theorem EW:∀(f:Nat) (l:List Tok) (i d:Nat) (acc al:List Ex) (k:Nat),oK f l i d acc=.ok al k→al.length≤8
 |0,l,i,d,acc,al,k,h=>by rw[oK]at h;cases h
 |f+1,l,i,d,acc,al,k,h=>by
  rw[oK]at h
  by_cases h8:8≤acc.length
  ·
   rw[eU,if_pos h8]at h;cases h
  ·
   rw[eU,if_neg h8,dI.bind_ok]at h
   cases hx:a_ f l i d 0 with
   |out=>rw[hx]at h;cases h
   |err c ln col=>rw[hx]at h;cases h
   |ok x j=>
    rw[hx,dI.bind_ok]at h
    split at h
    ·
     exact EW f l (j+1) d _ al k h
    ·
     cases hn:aJ l j [41]with
     |out=>rw[hn]at h;cases h
     |err c ln col=>rw[hn]at h;cases h
     |ok u j2=>rw[hn,dI.bind_ok]at h;cases h;simp;omega
theorem Oq (f:Nat) (l:List Tok) (i d:Nat) (al:List Ex) (k:Nat) (h:lG f l i d=.ok al k):al.length≤8:=by
 cases f with
 |zero=>rw[lG]at h;cases h
 |succ f=>
  rw[lG]at h;split at h
  ·cases h;simp
  ·exact EW f l i d [] al k h
structure PoJ (R:gI) (j1 d bx bp bq:Nat) (w6:World) (nm:ByteArray) (tl tc:Int) (xc:List Value) (x:Ex) (PX:Nat→Prop) (r1:dI (List Ex)) (L:Nat→Bool) (V:Nat→Value) (X:World):Prop where
 p0:L 0=true→V 0=.string nm
 p1:L 1=true→V 1=.agg xc.toArray
 p2:L 2=true→L 5=false→True∧X.ownsRow w6.heap.size 56 9 (V 2) 1 xc
 p3:L 3=true→V 3=.agg #[gW R.rb 0]
 p4:L 4=true→L 5=false→∃l k xs,r1=.ok l k∧dh X (fun q=>w6.heap.size≤q) (V 4) l.length xs∧bY X (fun q=>w6.heap.size≤q∧(L 2=true→(V 2).ownBlock≠some q)) l xs
 p5:L 5=true→∃l k c a,r1=.ok l k∧V 5=.slice a (1+l.length) c∧iT X PX (x::l) (V 5)
 p6:L 6=true→V 6=.agg #[ah tl,ah tc]
 p7:L 7=true→V 7=.agg #[ah 13,aI nm,aX 0,aW,V 5,ak,ak,ah tl,ah tc]
 rd:∃i,bC R X i d∧cond (L 4) (∃l,r1=.ok l i) (i=j1)
 st:Step (fun q=>q=R.rb∨q=bx) w6 X
 x0:L 8=false→X.heap[bx]?=some (.cells xc.toArray 56 (0,0))
 x1:L 8=true→X.heap[bx]?=some (.cells #[ah 13,aI nm,aX 0,aW,V 5,ak,ak,ah tl,ah tc] 56 (0,0))
 Ht:X.cell? ⟨bp,0,none⟩=some (.pointer (some ⟨R.rb,0,none⟩))
 Eo:X.heap[bq]?=some (.cells #[ah tl,ah tc] 25 (0,0))
 ex:dA X (fun q=>PX q∧q<w6.heap.size) x xc
 q2:L 2=true→L 1=true
 q5:L 5=true→L 2=true∧L 4=true
 q7:L 7=true→L 0=true∧L 5=true∧L 6=true
 q8:L 8=true→L 1=true∧L 7=true
theorem Ot (f:Nat) (ihP:J3 f) (ihI:∀f',f'<f→CG f'):FY (f+1):=by
 intro R w i d hl h hd hno;have HL:=ai hl;have H0:=ai h;have IHP:=ai ihP;have IHI:=ai ihI;obtain⟨r,hr⟩:=bF (rD (f+1) R.l i d);have HRR:Hid (r=(qg f R.l i d).bind fun x j=>nJ f R.l j d x):=by show _=_;rw[hr,rD]
 rw[←hr]at hno⊢;have fH:=ai hno;have uq:=aP h.blk;obtain⟨i0,hi0,hz0,hz1,hz2⟩:=info_parts Tryz.CJ;have HI:=ai hi0;have HZ0:=ai hz0;have HZ1:=ai hz1;have HZ2:=ai hz2;obtain⟨w1,hw1⟩:=bF ((w.alloc (.cells #[gW R.rb 0] 75)).alloc (.cells #[ah 0,dG,aX 0,aW,ak,ak,ak,ah 0,ah 0] 56));have dH:=nT hw1
 have kK:=nC hw1
 have lS:=nD hw1
 have HW1:=ai hw1;have H1:=ai (h.quiet dH.o);have hn1:=aP lS.o;have p0:w1.cell? ⟨w.heap.size,0,none⟩=some (.pointer (some ⟨R.rb,0,none⟩)):=aj kK.o 0 _ rfl;clear ihP ihI hl h hno hr hw1 hi0 hz0 hz1 hz2;go_enter Tryz.func132,Tryz.ntmps132;go_upto_region 1 with fail
 rw[←HW1.o];go_wp2_with fail;refine(IHP.o R w1 i d HL.o H1.o hd (fun e=>fH.o (by rw[HRR.o,e];rfl))).mono ?_;rintro e wx hp;have hp2:aK R d (JH w1.heap.size) (qg f R.l i d) _ e wx:=hp;cases hx:qg f R.l i d with
 |out=>exact absurd (by rw[HRR.o,hx];rfl) fH.o
 |err c ln col=>rw[hx]at hp2;obtain⟨rfl,sq⟩:=hp2;exact⟨rfl,aK.aU c ln col (by rw[HRR.o,hx];rfl) rfl ((dH.o.mono fe).trans sq)⟩
 |ok x jx=>
  have HX:=ai hx;rw[hx]at hp2;obtain⟨⟨v,rfl,cs,rfl,hy⟩,hrx,hsx⟩:=hp2;have HY:=ai hy;obtain⟨k0,iK,v0,iL,a1,n1,c1,a2,n2,c2,a3,n3,c3,l0,c0,rfl⟩:=hy.parts;have vO:=ai hrx;have qm:Hid (Step (·=R.rb) w1 wx):=hsx;have HR3:Hid (r=nJ f R.l jx d x):=by show _=_;rw[HRR.o,HX.o];rfl
  have hzx:=hsx.size;obtain⟨w3,hw3⟩:=bF (wx.alloc (.cells #[ah k0,aI iK,aX v0,bK iL,.slice a1 n1 c1,.slice a2 n2 c2,.slice a3 n3 c3,ah l0,ah c0] 56));have jX:=nS hw3
  have HB3:=nB hw3
  have oH:Hid (Step (·=R.rb) w1 w3):=qm.o.trans (jX.o.mono fe);have HW3:=ai hw3;clear hx hp hy hrx hsx p0 hw3;have hxb:=aP HB3.o;have hz3:=jX.o.size;have YN:Hid (dA w3 (fun q=>w1.heap.size≤q∧q≠wx.heap.size) x [.int .i64 k0,.string iK,.int .u64 v0,.bool iL,.slice a1 n1 c1,.slice a2 n2 c2,.slice a3 n3 c3,.int .i64 l0,.int .i64 c0]):=dA.step jX.o (fun _ _ h=>h) _ _ (dA.mono (fun q hq hh=>⟨by omega,by omega⟩) _ _ HY.o);have Qw:Hid (yT R w1 w3 wx.heap.size d w3 jx x [.int .i64 k0,.string iK,.int .u64 v0,.bool iL,.slice a1 n1 c1,.slice a2 n2 c2,.slice a3 n3 c3,.int .i64 l0,.int .i64 c0]):=⟨vO.o.quiet jX.o,HB3.o,YN.o,Step.refl _ _⟩;go_upto_block 0 with fail
  rw[←HW3.o];obtain⟨bx,hbx⟩:=bF wx.heap.size;rw[←hbx]at Qw hxb⊢;have hbx1:w1.heap.size≤bx:=by omega
  have zJ:=ai (oH.o.keep kK.o om);have uZ:=ai (oH.o.keep lS.o om);have NW:Hid (∀X:World,Step (fun q=>q=R.rb∨q=bx) w3 X→X.cell? ⟨w.heap.size,0,none⟩=some (.pointer (some ⟨R.rb,0,none⟩))∧X.heap[w.heap.size+1]?=some (.cells #[ah 0,dG,aX 0,aW,ak,ak,ak,ah 0,ah 0] 56 (0,0))):=fun X hX=>⟨aj (hX.keep zJ.o om) 0 _ rfl,hX.keep uZ.o om⟩
  have zV:Hid (Step (·=R.rb) w w3):=(dH.o.mono fe).trans oH.o;have d_:Hid (∀X:World,Step (fun q=>q=R.rb∨q=bx) w3 X→Step (·=R.rb) w X):=fun X hX=>zV.o.then hX oi
  clear hbx;go_wp2_with fail;go_loopg [5] f (fun gg s5 wr=>gg≤f∧∃(i':Nat) (x:Ex) (cs:List Value),r=nJ gg R.l i' d x∧yT R w1 w3 bx d wr i' x cs);case atStart=>exact⟨Nat.le_refl _,jx,x,_,HR3.o,Qw.o⟩
  case round=>
   obtain⟨hgf,i',x,cs,hrq,hst⟩:=hrel;obtain⟨gn,rfl⟩:∃gn,gk=gn+1:=by
    cases gk with
    |zero=>exact absurd hrq (by rw[nJ];exact fH.o)
    |succ gn=>exact⟨gn,rfl⟩
   obtain⟨k0,iK,v0,iL,a1,n1,c1,a2,n2,c2,a3,n3,c3,l0,c0,rfl⟩:=hst.ex.parts;have HST:=ai hst;obtain⟨p0,-⟩:=NW.o wr hst.st;obtain⟨tk,htk⟩:=bF (tokA R.l i');(have YI:Hid (r=if bG R.l i' [46]then(bH R.l (i'+1)).bind fun n j=>if bG R.l j [40]then(lG gn R.l (j+1) d).bind fun al j=>nJ gn R.l j d (bP 13 n 0 false (x::al) [] [] tk)else nJ gn R.l j d (bP 6 n 0 false [x] [] [] tk)else .ok x i'):=by show _=_;rw[hrq,nJ,htk]);have HAT:=ai (at_at R wr i' d tk hst.rd (by rw[htk];exact hst.rd.tok));clear hrq hst htk;(go_upto_region 2 with fail);go_wp2_with fail;refine HAT.o.mono ?_;rintro e w4 ⟨rfl,h4⟩;have fD:=ai (HST.o.quiet h4);obtain⟨w5,hw5⟩:=bF (w4.alloc (.cells #[ah tk.line,ah tk.col] 25));(have sK:Hid (jg w4 w5):=by rw[hw5];exact bg.alloc _);(have HQ5:Hid (w5.heap[w4.heap.size]?=some (.cells #[ah tk.line,ah tk.col] 25 (0,0))):=by rw[hw5];exact aC _ _);have lN:=ai (fD.o.quiet sK.o);have hz4:=fD.o.st.size;have hz5:=sK.o.size;have HW5:=ai hw5;clear h4 hw5 p0;obtain⟨p0,-⟩:=NW.o w5 lN.o.st;(go_upto_region 3 with fail);rw[←HW5.o];go_wp2_with fail;cases hb:bG R.l i' [46]with
   |false=>
    have HB:=ai hb;clear hb;refine(dU R HL.o ⟨#[46]⟩ _ i' d lN.o.rd dc HB.o).mono ?_;rintro e w6 ⟨rfl,o9,h6⟩;have fA:=ai (lN.o.read om om o9 h6);(have kU:=ai (YI.o.trans (wZ HB.o)));have dQ:=ai fA.o.ex.one;(have bJ:Hid (∀(jj:Nat) v,[Value.int .i64 k0,aI iK,aX v0,bK iL,.slice a1 n1 c1,.slice a2 n2 c2,.slice a3 n3 c3,ah l0,ah c0][jj]?=some v→w6.cell? ⟨bx,0+jj,none⟩=some v):=by intro jj v hv;rw[Nat.zero_add];exact aj fA.o.blk jj v pO);have oQ:=ai (NW.o w6 fA.o.st).2;clear o9 h6 p0;go_wp2_with (first
     |(refine aN rfl 56 (.tmp 3) rfl bx 0 rfl [.int .i64 k0,.string iK,.int .u64 v0,.bool iL,.slice a1 n1 c1,.slice a2 n2 c2,.slice a3 n3 c3,.int .i64 l0,.int .i64 c0] _ bJ.o Tryz.underlying56 rfl Tryz.aO ?_)
     |(refine aB (w:=w6) rfl 56 (.tmp 2) (.tmp 15) rfl (w.heap.size+1) 0 56 _ [.int .i64 k0,.string iK,.int .u64 v0,.bool iL,.slice a1 n1 c1,.slice a2 n2 c2,.slice a3 n3 c3,.int .i64 l0,.int .i64 c0] rfl rfl oQ.o Tryz.aO (Nat.le_of_eq rfl) dQ.o ?_;intro w7 hb7 xW))
    have YO:w7.heap[w.heap.size+1]?=some (.cells [Value.int .i64 k0,aI iK,aX v0,bK iL,.slice a1 n1 c1,.slice a2 n2 c2,.slice a3 n3 c3,ah l0,ah c0].toArray 56 (0,0)):=hb7;refine bodyPost_ret (aS rfl _ (w.heap.size+1) 56 _ _ rfl YO Tryz.underlying56 rfl Tryz.aO) rfl ?_;have hz1:=dH.o.size;refine aK.dN kU.o rfl ⟨_,rfl,dA.mono (fun q _ hq=>by have:=hq.1;omega) _ _ (dA.step xW (fun q hq e=>by have:=hq.1;omega) _ _ fA.o.ex)⟩ (fA.o.rd.step xW oi) ?_;exact(d_.o _ fA.o.st).then xW oi
   |true=>
    have HB:=ai hb;clear hb;refine(cZ R HL.o ⟨#[46]⟩ _ i' d lN.o.rd dc HB.o).mono ?_;rintro e w6 ⟨rfl,o9,h6⟩;have fA:=ai (lN.o.read om om o9 h6);have HQ6:=ai (h6.keep HQ5.o om);(have kY:=ai (YI.o.trans (if_pos HB.o)));clear o9 h6 p0;obtain⟨p0,-⟩:=NW.o w6 fA.o.st;go_wp2_with fail;refine(name_any R HL.o _ (i'+1) d fA.o.rd).mono ?_;rintro e w7 hp;have hp2:aK R d Ef (bH R.l (i'+1)) _ e w7:=hp;cases hn:bH R.l (i'+1)with
    |out=>exact(iQ hn).elim
    |err c ln col=>rw[hn]at hp2;obtain⟨rfl,hs⟩:=hp2;exact⟨rfl,aK.aU c ln col (by rw[kY.o,hn];rfl) rfl (d_.o _ (fA.o.st.trans (hs.mono RG)))⟩
    |ok nm j=>
     have HN:=ai hn;have QA:=ai (fF HL.o fA.o.rd.lt hn);rw[hn]at hp2;obtain⟨⟨v,rfl,rfl⟩,hr,hs⟩:=hp2;have rY:=ai (fA.o.read om om hr hs);have HQ7:=ai (hs.keep HQ6.o om);(have jV:Hid (r=if bG R.l j [40]then(lG gn R.l (j+1) d).bind fun al j=>nJ gn R.l j d (bP 13 nm 0 false (x::al) [] [] tk)else nJ gn R.l j d (bP 6 nm 0 false [x] [] [] tk)):=by show _=_;rw[kY.o,HN.o];rfl);clear hn hr hs hp p0;obtain⟨p0,-⟩:=NW.o w7 rY.o.st;go_wp2_with fail;cases hb:bG R.l j [40]with
     |false=>
      have HC:=ai hb;clear hb;refine(dU R HL.o ⟨#[40]⟩ _ j d rY.o.rd dc HC.o).mono ?_;rintro e w8 ⟨rfl,uo,h8⟩;have jM:=ai (rY.o.read om om uo h8);have HQ8:=ai (h8.keep HQ7.o om);(have kU:=ai (jV.o.trans (wZ HC.o)));(have bJ:Hid (∀(jj:Nat) v,[Value.int .i64 k0,aI iK,aX v0,bK iL,.slice a1 n1 c1,.slice a2 n2 c2,.slice a3 n3 c3,ah l0,ah c0][jj]?=some v→w8.cell? ⟨bx,0+jj,none⟩=some v):=by intro jj v hv;rw[Nat.zero_add];exact aj jM.o.blk jj v pO);obtain⟨w9,QG⟩:=bF (w8.alloc (.cells #[ah k0,aI iK,aX v0,bK iL,.slice a1 n1 c1,.slice a2 n2 c2,.slice a3 n3 c3,ah l0,ah c0] 56));(have Yy:Hid (jg w8 w9):=by rw[QG];exact bg.alloc _);(have HG9:Hid (w9.heap[w8.heap.size]?=some (.cells #[ah k0,aI iK,aX v0,bK iL,.slice a1 n1 c1,.slice a2 n2 c2,.slice a3 n3 c3,ah l0,ah c0] 56 (0,0))):=by rw[QG];exact aC _ _);have iM:=ai (jM.o.quiet Yy.o);have UG:Hid (w8.alloc (.cells #[ah k0,aI iK,aX v0,bK iL,.slice a1 n1 c1,.slice a2 n2 c2,.slice a3 n3 c3,ah l0,ah c0] 56)=w9):=QG.symm;have hq:=Yy.o.keep HQ8.o (fun h=>h);have q0:=aj hq 0 _ rfl;have q1:=aj hq 1 _ rfl;rw[QG]at q0 q1;have HON:Hid (∀u∈[Value.int .i64 6,aI nm,aX 0,aW,.slice (some ⟨w8.heap.size,0,none⟩) 1 1,ak,ak,ah tk.line,ah tk.col],u.oneCell'=true):=bn rfl;have YK:=aP HG9.o;have hz8:=jM.o.st.size;clear uo h8 p0 QG hq;go_wp2_with (first
       |(refine aN rfl 56 (.tmp 3) rfl bx 0 rfl [.int .i64 k0,.string iK,.int .u64 v0,.bool iL,.slice a1 n1 c1,.slice a2 n2 c2,.slice a3 n3 c3,.int .i64 l0,.int .i64 c0] _ bJ.o Tryz.underlying56 rfl Tryz.aO ?_)
       |(rw[UG.o];refine aB (w:=w9) rfl 56 (.tmp 3) (.tmp 27) rfl bx 0 56 _ [.int .i64 6,.string nm,.int .u64 0,.bool false,.slice (some ⟨w8.heap.size,0,none⟩) 1 1,.slice none 0 0,.slice none 0 0,.int .i64 tk.line,.int .i64 tk.col] rfl rfl iM.o.blk Tryz.aO (Nat.le_of_eq rfl) HON.o ?_;intro wa hba hsa))
      have hba':wa.heap[bx]?=some (.cells [Value.int .i64 6,aI nm,aX 0,aW,.slice (some ⟨w8.heap.size,0,none⟩) 1 1,ak,ak,ah tk.line,ah tk.col].toArray 56 (0,0)):=hba;(have kP:Hid (yT R w1 w3 bx d wa j (bP 6 nm 0 false [x] [] [] tk) [.int .i64 6,.string nm,.int .u64 0,.bool false,.slice (some ⟨w8.heap.size,0,none⟩) 1 1,.slice none 0 0,.slice none 0 0,.int .i64 tk.line,.int .i64 tk.col]):=by refine⟨iM.o.rd.step hsa oi,hba',?_,iM.o.st.trans (hsa.mono ir)⟩;exact zK.mk QA.o (iT.single (dA.step hsa (fun q hq e=>hq.2 e) _ _ iM.o.ex) (hsa.keep HG9.o om) ⟨by omega,by omega⟩) (fB.nil _ _) (gZ.nil _ _));clear hba hba' hsa q0 q1;(try go_wp2_with fail);go_roundg gn;case rel=>exact⟨by omega,j,_,_,kU.o,kP.o⟩
      case measure=>omega
     |true=>
      have HC:=ai hb;clear hb;refine(cZ R HL.o ⟨#[40]⟩ _ j d rY.o.rd dc HC.o).mono ?_;rintro e w8 ⟨rfl,uo,h8⟩;have jM:=ai (rY.o.read om om uo h8);have HQ8:=ai (h8.keep HQ7.o om);(have kU:=ai (jV.o.trans (if_pos HC.o)));obtain⟨p0,-⟩:=NW.o w8 jM.o.st;have hz8:=jM.o.st.size;have hqlt:=aP HQ8.o;have hblt:=aP jM.o.blk;obtain⟨r1,hr1⟩:=bF (lG gn R.l (j+1) d);have HR1:=ai hr1;(have Zh:Hid (r=r1.bind fun al j=>nJ gn R.l j d (bP 13 nm 0 false (x::al) [] [] tk)):=by show _=_;rw[kU.o,hr1]);(have pV:Hid (r1≠.out):=by show _≠_;intro e;exact fH.o (by rw[Zh.o,e];rfl));(have HFEW:Hid (∀l k,r1=.ok l k→l.length≤8):=by intro l k e;exact Oq gn R.l (j+1) d l k (by rw[←HR1.o];exact e));(have vS:Hid (∀X,bC R X (j+1) d→Calls Tryz.prog 148 #[.agg #[gW R.rb 0]] X (aK R d (NR X.heap.size) r1 X)):=by intro X hX;rw[HR1.o];exact IHI.o gn om R X (j+1) d HL.o hX hd (by rw[←HR1.o];exact pV.o));obtain⟨PX,hPX⟩:∃PX:Nat→Prop,PX=fun q=>w1.heap.size≤q∧q≠bx:=⟨_,rfl⟩;have Hr:=ai hPX;(have HPX6:Hid (∀q,w8.heap.size≤q→PX q):=by intro q hq;rw[hPX];exact⟨by omega,by omega⟩);(have HPB:Hid (∀q,PX q→q≠R.rb∧q≠bx):=by intro q hq;rw[hPX]at hq;exact⟨by have:=hq.1;omega,hq.2⟩);obtain⟨Jx,hJx⟩:=bF (PoJ R (j+1) d bx w.heap.size w4.heap.size w8 nm tk.line tk.col [.int .i64 k0,.string iK,.int .u64 v0,.bool iL,.slice a1 n1 c1,.slice a2 n2 c2,.slice a3 n3 c3,.int .i64 l0,.int .i64 c0] x PX r1);have fQ:=ai hJx;(have HZ8:Hid (∀V,Jx (fun _=>false) V w8.drew):=by intro V;have hs:jg w8 w8.drew:=bg.drew;rw[hJx];exact⟨lg,lg,lg,lg,lg,lg,lg,lg,⟨_,jM.o.rd.quiet hs,rfl⟩,hs.mono fe,fun _=>hs.keep jM.o.blk (fun h=>h),lg,hs.cell p0 (fun h=>h),hs.keep HQ8.o (fun h=>h),dA.step hs (fun _ _ h=>h) _ _ (dA.mono (fun q h7 h8=>⟨by rw[hPX];exact h8,h7⟩) _ _ jM.o.ex),lg,lg,lg,lg⟩);clear uo h8 p0 hJx hPX hr1;(go_upto_region 8 with fail);refine bD kr Jx 9 rfl kr kr kr kr ?h0 ?hs ?hdone;case h0=>exact HZ8.o _
      case hs=>
       refine⟨?_,?_,?_,?_,?_,?_,?_,?_,?_,trivial⟩
       all_goals (intro L V X a ev ig hdf hL ay hJ;rw[fQ.o]at hJ)
       ·have o5:=ig 5 rfl;change a.tmps[5]?.getD undef=.string nm at o5;have h7:L 7=false:=by
         cases e:L 7 with
         |false=>rfl
         |true=>exact absurd ((hJ.q7 e).1) (by rw[hL];decide)
        have h8:L 8=false:=by
         cases e:L 8 with
         |false=>rfl
         |true=>exact absurd ((hJ.q8 e).2) (by rw[h7];decide)
        go_simp;exact⟨_,rfl,by rw[fQ.o];exact{hJ with p0:=fun _=>rfl,q7:=fun e=>absurd (show L 7=true from e) (by rw[h7];decide)}⟩
       ·have o3:=ig 3 rfl;change a.tmps[3]?.getD undef=.pointer (some ⟨bx,0,none⟩)at o3;have h2:L 2=false:=by
         cases e:L 2 with
         |false=>rfl
         |true=>exact absurd (hJ.q2 e) (by rw[hL];decide)
        have h8:L 8=false:=by
         cases e:L 8 with
         |false=>rfl
         |true=>exact absurd (hJ.q8 e).1 (by rw[hL];decide)
        have hb:=hJ.x0 h8;refine wp_load_mid 56 (.tmp 3) rfl bx 0 (by rw[bW];exact o3) [.int .i64 k0,.string iK,.int .u64 v0,.bool iL,.slice a1 n1 c1,.slice a2 n2 c2,.slice a3 n3 c3,.int .i64 l0,.int .i64 c0] _ (fun jj v hv=>by rw[Nat.zero_add];exact aj hb jj v pO) Tryz.underlying56 rfl Tryz.aO ?_;exact⟨_,rfl,by rw[fQ.o];exact{hJ with p1:=fun _=>rfl,q2:=fun e=>absurd (show L 2=true from e) (by rw[h2];decide),q8:=fun e=>absurd (show L 8=true from e) (by rw[h8];decide)}⟩
       ·have e29:=(ev 1 29 rfl (ay 1 rfl)).trans (hJ.p1 (ay 1 rfl));have h5:L 5=false:=by
         cases e:L 5 with
         |false=>rfl
         |true=>exact absurd (hJ.q5 e).1 (by rw[hL];decide)
        have hs:jg X (X.alloc (.cells #[ah k0,aI iK,aX v0,bK iL,.slice a1 n1 c1,.slice a2 n2 c2,.slice a3 n3 c3,ah l0,ah c0] 56)):=bg.alloc _;have h48:=hJ.st.size;go_simp;refine⟨_,rfl,?_⟩;rw[fQ.o];refine{hJ with p2:=fun _ _=>⟨trivial,RH X w8.heap.size 56 9 [.int .i64 k0,.string iK,.int .u64 v0,.bool iL,.slice a1 n1 c1,.slice a2 n2 c2,.slice a3 n3 c3,.int .i64 l0,.int .i64 c0] rfl h48⟩,p4:=fun e e2=> ?_,p5:=fun e=>absurd (show L 5=true from e) (by rw[h5];decide),rd:= ?_,st:=hJ.st.alloc _,x0:=fun e=>hs.keep (hJ.x0 e) (fun h=>h),x1:=fun e=>hs.keep (hJ.x1 e) (fun h=>h),Ht:=hs.cell hJ.Ht (fun h=>h),Eo:=hs.keep hJ.Eo (fun h=>h),ex:=dA.step hs (fun _ _ h=>h) _ _ hJ.ex,q2:=fun _=>ay 1 rfl,q5:=fun e=>absurd (show L 5=true from e) (by rw[h5];decide)}
        ·obtain⟨l,k,xs,y1,y2,y3⟩:=hJ.p4 e e2;refine⟨l,k,xs,y1,y2.step hs (fun _ _ h=>h),bY.step hs (fun _ _ h=>h) _ _ (bY.mono (fun q h7 h8=>⟨h8.1,fun _ e=> ?_⟩) _ _ y3)⟩;have e3:X.heap.size=q:=Option.some.inj e;omega
        ·obtain⟨i9,y1,y2⟩:=hJ.rd;exact⟨i9,y1.quiet hs,y2⟩
       ·have o1:=ig 1 rfl;change a.tmps[1]?.getD undef=.pointer (some ⟨w.heap.size,0,none⟩)at o1;have p9:=hJ.Ht;go_simp;exact⟨_,rfl,by rw[fQ.o];exact{hJ with p3:=fun _=>rfl}⟩
       ·have e31:=(ev 3 31 rfl (ay 3 rfl)).trans (hJ.p3 (ay 3 rfl));have h5:L 5=false:=by
         cases e:L 5 with
         |false=>rfl
         |true=>exact absurd (hJ.q5 e).2 (by rw[hL];decide)
        have h7:L 7=false:=by
         cases e:L 7 with
         |false=>rfl
         |true=>exact absurd (hJ.q7 e).2.1 (by rw[h5];decide)
        have h8:L 8=false:=by
         cases e:L 8 with
         |false=>rfl
         |true=>exact absurd (hJ.q8 e).2 (by rw[h7];decide)
        obtain⟨i9,y1,y2⟩:=hJ.rd;rw[hL]at y2;have y3:i9=j+1:=y2;subst y3;have hsz:=hJ.st.size;go_simp;refine(vS.o X y1).mono ?_;intro e wq hp;cases hx:r1 with
        |out=>exact absurd hx pV.o
        |err cc ln col=>rw[hx]at hp;obtain⟨rfl,hs⟩:=hp;exact⟨hdf,aK.aU cc ln col (by rw[Zh.o,hx];rfl) rfl (d_.o _ ((jM.o.st.trans hJ.st).trans (hs.mono RG)))⟩
        |ok l k=>
         have hx0:=hx;rw[hx]at hp;obtain⟨⟨v,rfl,xs,hrow,hxs⟩,hr,hs⟩:=hp;refine⟨_,rfl,?_⟩;rw[fQ.o];refine{hJ with p2:=fun e e2=> ?_,p4:=fun _ _=>⟨l,k,xs,hx0,hrow.mono oi,bY.mono (fun q _ hq=>⟨by omega,fun e e3=> ?_⟩) _ _ hxs⟩,p5:=fun e=>absurd (show L 5=true from e) (by rw[h5];decide),rd:=⟨k,hr,⟨l,hx0⟩⟩,st:=hJ.st.trans (hs.mono RG),x0:=fun e=>hs.keep (hJ.x0 e) om,x1:=fun e=>absurd (show L 8=true from e) (by rw[h8];decide),Ht:=hs.cell hJ.Ht (fun e=>by have e2:w.heap.size=R.rb:=e;omega),Eo:=hs.keep hJ.Eo om,ex:=dA.step hs (fun q hq e=>(HPB.o q hq.1).1 e) _ _ hJ.ex,q5:=fun e=>absurd (show L 5=true from e) (by rw[h5];decide)}
         ·obtain⟨z1,z2⟩:=hJ.p2 e e2;exact⟨z1,hs.owns z2 oi⟩
         ·obtain⟨z1,z2⟩:=hJ.p2 e h5;have:=(z2.lt q e3).2;omega
       ·have e30:=ev 2 30 rfl (ay 2 rfl);have e32:=ev 4 32 rfl (ay 4 rfl);have h7:L 7=false:=by
         cases e:L 7 with
         |false=>rfl
         |true=>exact absurd (hJ.q7 e).2.1 (by rw[hL];decide)
        have h8:L 8=false:=by
         cases e:L 8 with
         |false=>rfl
         |true=>exact absurd (hJ.q8 e).2 (by rw[h7];decide)
        obtain⟨z1,z2⟩:=hJ.p2 (ay 2 rfl) hL;obtain⟨l,k,xs,y1,y2,y3⟩:=hJ.p4 (ay 4 rfl) hL;have hfew:=HFEW.o l k y1;refine gq _ X.heap.size (.tmp 30) (.tmp 32) 54 rfl w8.heap.size 56 i0 (.agg #[ah 0,dG,aX 0,aW,ak,ak,ak,ah 0,ah 0]) 9 128 Tryz.underlying54 HI.o HZ0.o HZ1.o HZ2.o rfl dc (V 2) 1 [.int .i64 k0,.string iK,.int .u64 v0,.bool iL,.slice a1 n1 c1,.slice a2 n2 c2,.slice a3 n3 c3,.int .i64 l0,.int .i64 c0] (by rw[bW];exact e30) z2 (V 4) l.length xs (by rw[bW];exact e32) (y2.row (fun q h7 _=>h7)) y3.len (bY.one y3) (by unfold maxLen;omega) om hJ.st.size ?_;intro v9 w9 iU gJ oG;have hg:=iZ gJ;obtain⟨a9,c9,dO⟩:=b_ iU;have hrow9:dh w9 PX v9 (x::l).length _:=dh.jd (by rw[Nat.add_comm 1 l.length]at iU;exact iU) (fun q hq=>HPX6.o q (iU.lt q hq).1);have hge:∀q,(V 2).ownBlock=some q→w8.heap.size≤q:=fun q hq=>(z2.lt q hq).1;refine⟨v9,rfl,?_⟩;rw[fQ.o];refine{hJ with p2:=(fun _ e=>nomatch e),p4:=(fun _ e=>nomatch e),p5:=fun _=>⟨l,k,c9,a9,y1,dO,_,hrow9,?_⟩,p7:=fun e=>absurd (show L 7=true from e) (by rw[h7];decide),rd:= ?_,st:=hJ.st.then hg (fun q hq e=>by have:=hge q e;omega),x0:=fun e=>hg.keep (hJ.x0 e) (fun e=>by have:=hge _ e;omega),x1:=fun e=>absurd (show L 8=true from e) (by rw[h8];decide),Ht:=hg.cell hJ.Ht (fun e=>by have e2:w8.heap.size≤w.heap.size:=hge _ e;omega),Eo:=hg.keep hJ.Eo (fun e=>by have:=hge _ e;omega),ex:=dA.step hg (fun q hq e=>by have:=hge _ e;have:=hq.2;omega) _ _ hJ.ex,q5:=fun _=>⟨ay 2 rfl,ay 4 rfl⟩,q7:=fun e=>absurd (show L 7=true from e) (by rw[h7];decide)}
        ·rw[bY];refine⟨_,_,rfl,dA.mono (fun q _ hq=>hq.1) _ _ (dA.step hg (fun q hq e=>by have:=hge _ e;have:=hq.2;omega) _ _ hJ.ex),bY.mono (fun q _ hq=>HPX6.o q hq.1) _ _ (bY.step hg (fun q hq e=>hq.2 (ay 2 rfl) e) _ _ y3)⟩
        ·obtain⟨i9,y5,y6⟩:=hJ.rd;exact⟨i9,y5.step hg (fun q hq e=>by have:=hge _ e;omega),y6⟩
       ·have o4:=ig 4 rfl;change a.tmps[4]?.getD undef=.pointer (some ⟨w4.heap.size,0,none⟩)at o4;have q0:=aj hJ.Eo 0 _ rfl;have q1:=aj hJ.Eo 1 _ rfl;have h7:L 7=false:=by
         cases e:L 7 with
         |false=>rfl
         |true=>exact absurd (hJ.q7 e).2.2 (by rw[hL];decide)
        go_simp;exact⟨_,rfl,by rw[fQ.o];exact{hJ with p6:=fun _=>rfl,q7:=fun e=>absurd (show L 7=true from e) (by rw[h7];decide)}⟩
       ·have e28:=(ev 0 28 rfl (ay 0 rfl)).trans (hJ.p0 (ay 0 rfl));obtain⟨l,k,c9,a9,y1,y2,-⟩:=hJ.p5 (ay 5 rfl);have e33:=(ev 5 33 rfl (ay 5 rfl)).trans y2;have e34:=(ev 6 34 rfl (ay 6 rfl)).trans (hJ.p6 (ay 6 rfl));have h8:L 8=false:=by
         cases e:L 8 with
         |false=>rfl
         |true=>exact absurd (hJ.q8 e).2 (by rw[hL];decide)
        go_simp;exact⟨_,rfl,by rw[fQ.o];exact{hJ with p7:=fun _=>by show Value.agg _=Value.agg #[ah 13,aI nm,aX 0,aW,V 5,ak,ak,ah tk.line,ah tk.col];rw[y2],q7:=fun _=>⟨ay 0 rfl,ay 5 rfl,ay 6 rfl⟩,q8:=fun e=>absurd (show L 8=true from e) (by rw[h8];decide)}⟩
       ·have o3:=ig 3 rfl;change a.tmps[3]?.getD undef=.pointer (some ⟨bx,0,none⟩)at o3;have e35:=(ev 7 35 rfl (ay 7 rfl)).trans (hJ.p7 (ay 7 rfl));have hb:=hJ.x0 hL;have h5:=hJ.q7 (ay 7 rfl);obtain⟨l,k,c9,a9,y1,y2,y3⟩:=hJ.p5 h5.2.1;refine fC 56 (.tmp 3) (.tmp 35) rfl bx 0 56 _ [.int .i64 13,.string nm,.int .u64 0,.bool false,V 5,.slice none 0 0,.slice none 0 0,.int .i64 tk.line,.int .i64 tk.col] (by rw[bW];exact o3) (by rw[bW];exact e35) hb Tryz.aO (Nat.le_of_eq rfl) (by rw[y2];exact bn rfl) ?_;intro w9 iW hs9;have hbb:w9.heap[bx]?=some (.cells #[ah 13,aI nm,aX 0,aW,V 5,ak,ak,ah tk.line,ah tk.col] 56 (0,0)):=iW;refine⟨undef,rfl,?_⟩;rw[fQ.o];refine{hJ with p2:=fun _ e=>absurd (show L 5=false from e) (by rw[h5.2.1];decide),p4:=fun _ e=>absurd (show L 5=false from e) (by rw[h5.2.1];decide),p5:=fun _=>⟨l,k,c9,a9,y1,y2,jA.step _ _ hs9 (fun q hq e=>(HPB.o q hq).2 e) y3⟩,rd:= ?_,st:=hJ.st.trans (hs9.mono ir),x0:=(fun e=>nomatch e),x1:=fun _=>hbb,Ht:=hs9.cell hJ.Ht (fun e=>by have e2:w.heap.size=bx:=e;omega),Eo:=hs9.keep hJ.Eo om,ex:=dA.step hs9 (fun q hq e=>(HPB.o q hq.1).2 e) _ _ hJ.ex,q8:=fun _=>⟨ay 1 rfl,ay 7 rfl⟩};obtain⟨i9,y5,y6⟩:=hJ.rd;exact⟨i9,y5.step hs9 oi,y6⟩
      case hdone=>
       intro L V X hall hJ;rw[fQ.o]at hJ;obtain⟨l,k,c9,a9,y1,y2,y3⟩:=hJ.p5 (hall 5 dc);obtain⟨i9,y5,y6⟩:=hJ.rd;rw[hall 4 dc]at y6;obtain⟨l2,y7⟩:∃l,r1=.ok l i9:=y6;rw[y1]at y7;cases y7;(have J9:Hid (r=nJ gn R.l k d (bP 13 nm 0 false (x::l) [] [] tk)):=by show _=_;rw[Zh.o,y1];rfl);(have kP:Hid (yT R w1 w3 bx d X k (bP 13 nm 0 false (x::l) [] [] tk) [.int .i64 13,.string nm,.int .u64 0,.bool false,V 5,.slice none 0 0,.slice none 0 0,.int .i64 tk.line,.int .i64 tk.col]):=by refine⟨y5,hJ.x1 (hall 8 dc),?_,jM.o.st.trans hJ.st⟩;rw[←Hr.o];exact zK.mk QA.o y3 (fB.nil _ _) (gZ.nil _ _));rw[PK];simp only[lW,dZ,FB,Bj];clear hJ hall y1 y2 y3 y5;(try go_wp2_with fail);go_roundg gn;case rel=>exact⟨by omega,k,_,_,J9.o,kP.o⟩
       case measure=>omega
structure ExOk (f:Nat):Prop where
 level:ni f
 unary:yS f
 post:FY f
 list:CG f
 one:Qr f
 RI:J3 f
 block:rF f
 stmt:FZ f
theorem RN:LV 0:=fun _ _ _ _ _ _ _ _ _ _ _ h=>absurd (by rw[xO]) h
theorem RP:LW 0:=fun _ _ _ _ _ _ _ _ _ _ _ h=>absurd (by rw[xP]) h
theorem I8:∀(f:Nat),f≤1000000→ExOk f:=by
 intro f;induction f using Nat.strongRecOn with
 |ind f ih=>
  intro hf;have hl:ni f:=J8 f fun f' h=>⟨(ih f' h om).level,(ih f' h om).unary⟩;have hi:CG f:=NY f fun f' h=>(ih f' h om).level;cases f with
  |zero=>exact⟨hl,fun _ _ _ _ _ _ _ h=>absurd (by rw[iI]) h,fun _ _ _ _ _ _ _ h=>absurd (by rw[rD]) h,hi,fun _ _ _ _ _ _ _ h=>absurd (by rw[qJ]) h,fun _ _ _ _ _ _ _ h=>absurd (by rw[qg]) h,fun _ _ _ _ _ _ _ h=>absurd (by rw[bU]) h,fun _ _ _ _ _ _ _ h=>absurd (by rw[rE]) h⟩
  |succ f=>
   have h0:=ih f (Nat.lt_succ_self f) om;have hm:Kw f:=N9 f fun f' h=>(ih f' om om).level;have hc:Kv f:=N8 f h0.block;have hle:LV f:=by
    cases f with
    |zero=>exact RN
    |succ f=>exact Qz f (ih f om om).level
   have hse:LW f:=by
    cases f with
    |zero=>exact RP
    |succ f=>exact QD f (ih f om om).level
   exact⟨hl,J6 f h0.unary h0.post,Ot f h0.RI fun f' h=>(ih f' om om).list,hi,one_step f h0.level,Oc f h0.level h0.one h0.list hm hc,Kq f (fun f' h=>(ih f' om om).stmt) om,Ol f h0.level h0.block hle hse⟩
structure Gn where
 bI:List ByteArray
 types:List ByteArray
structure Pm where
 name:ByteArray
 ty:Ty
 line:Int
 col:Int
structure Bd where
 name:ByteArray
 kQ:List ByteArray
 bI:List ByteArray
 line:Int
 col:Int
structure Mt where
 name:ByteArray
 bI:List ByteArray
 recv:Int
 life:ByteArray
 params:List Pm
 ret:Ty
 wh:List Bd
 body:List St
 line:Int
 col:Int
structure It where
 kind:Int
 name:ByteArray
 head:ByteArray
 gen:Gn
 fields:List Pm
 ret:Ty
 wh:List Bd
 methods:List Mt
 body:List St
 line:Int
 col:Int
structure uH {α:Type} (El:World→(Nat→Prop)→α→List Value→Prop) (k:Nat):Prop where
 step:∀{w w':World} {P S:Nat→Prop} (a:α) (cs:List Value),Step S w w'→(∀k,P k→¬S k)→El w P a cs→El w' P a cs
 mono:∀{w:World} {P P':Nat→Prop} (a:α) (cs:List Value),(∀k,k<w.heap.size→P k→P' k)→El w P a cs→El w P' a cs
 len:∀{w:World} {P:Nat→Prop} (a:α) (cs:List Value),El w P a cs→cs.length=k
 one:∀{w:World} {P:Nat→Prop} (a:α) (cs:List Value),El w P a cs→∀u∈cs,u.oneCell'=true
def ou {α:Type} (El:World→(Nat→Prop)→α→List Value→Prop) (w:World) (P:Nat→Prop):List α→List Value→Prop
 |[],cs=>cs=[]
 |t::r,cs=>∃c1 c2,cs=c1++c2∧El w P t c1∧ou El w P r c2
section
variable {α : Type} {El : World → (Nat → Prop) → α → List Value → Prop} {k : Nat}
theorem ou.step (hE:uH El k) {w w':World} {P S:Nat→Prop} (hs:Step S w w') (hP:∀k,P k→¬S k):∀(l:List α) (cs:List Value),ou El w P l cs→ou El w' P l cs
 |[],_,h=>h
 |t::r,cs,h=>by
  obtain⟨c1,c2,h1,h2,h3⟩:=h
  exact⟨c1,c2,h1,hE.step t c1 hs hP h2,ou.step hE hs hP r c2 h3⟩
theorem ou.mono (hE:uH El k) {w:World} {P P':Nat→Prop} (hp:∀k,k<w.heap.size→P k→P' k):∀(l:List α) (cs:List Value),ou El w P l cs→ou El w P' l cs
 |[],_,h=>h
 |t::r,cs,h=>by
  obtain⟨c1,c2,h1,h2,h3⟩:=h
  exact⟨c1,c2,h1,hE.mono t c1 hp h2,ou.mono hE hp r c2 h3⟩
theorem ou.len (hE:uH El k) {w:World} {P:Nat→Prop}:∀{l:List α} {cs:List Value},ou El w P l cs→cs.length=l.length*k
 |[],_,h=>by cases h;simp
 |t::r,cs,h=>by
  obtain⟨c1,c2,rfl,h2,h3⟩:=h
  rw[List.length_append,hE.len t c1 h2,ou.len hE h3,List.length_cons,Nat.add_mul];omega
theorem ou.one (hE:uH El k) {w:World} {P:Nat→Prop}:∀{l:List α} {cs:List Value},ou El w P l cs→∀u∈cs,u.oneCell'=true
 |[],_,h=>by cases h;intro u hu;cases hu
 |t::r,cs,h=>by
  obtain⟨c1,c2,rfl,h2,h3⟩:=h
  intro u hu
  rcases List.mem_append.1 hu with hu|hu
  ·
   exact hE.one t c1 h2 u hu
  ·
   exact ou.one hE h3 u hu
theorem ou.snoc {w:World} {P:Nat→Prop}:∀{l:List α} {xs:List Value} {t:α} {cs:List Value},ou El w P l xs→El w P t cs→ou El w P (l++[t]) (xs++cs)
 |[],xs,t,cs,h,h1=>by
  cases h
  exact⟨cs,[],by simp,h1,rfl⟩
 |a::r,xs,t,cs,h,h1=>by
  obtain⟨c1,c2,rfl,h2,h3⟩:=h
  exact⟨c1,c2++cs,by rw[List.append_assoc],h2,ou.snoc h3 h1⟩
theorem ou.get (hE:uH El k) {w:World} {P:Nat→Prop}:∀{l:List α} {xs:List Value} (i:Nat) {t:α},ou El w P l xs→l[i]?=some t→∃cs,El w P t cs∧∀j x,cs[j]?=some x→xs[i*k+j]?=some x
 |[],_,i,t,_,ht=>by simp at ht
 |a::r,xs,i,t,h,ht=>by
  obtain⟨c1,c2,rfl,h1,h2⟩:=h
  have hc:=hE.len a c1 h1
  cases i with
  |zero=>
   simp at ht;subst ht
   refine⟨c1,h1,fun j x hx=> ?_⟩
   rw[Nat.zero_mul,Nat.zero_add,List.getElem?_append_left (List.getElem?_eq_some_iff.1 hx).1];exact hx
  |succ i=>
   obtain⟨cs,h3,h4⟩:=ou.get hE i h2 (by simpa using ht)
   refine⟨cs,h3,fun j x hx=> ?_⟩
   rw[List.getElem?_append_right (by rw[hc,Nat.add_mul];omega),hc,show(i+1)*k+j-k=i*k+j by rw[Nat.add_mul];omega]
   exact h4 j x hx
def lT (El:World→(Nat→Prop)→α→List Value→Prop) (w:World) (P:Nat→Prop) (l:List α) (v:Value):Prop:=∃xs:List Value,dh w P v l.length xs∧ou El w P l xs
theorem eu (hE:uH El k):CS (lT El):=⟨fun _ _ hs hP ⟨xs,h1,h2⟩=>⟨xs,h1.step hs hP,ou.step hE hs hP _ xs h2⟩,fun _ _ hp ⟨xs,h1,h2⟩=>⟨xs,h1.mono hp,ou.mono hE hp _ xs h2⟩⟩
theorem lT.nil (w:World) (P:Nat→Prop):lT El w P ([]:List α) (.slice none 0 0):=⟨[],dh.nil _ _ _,rfl⟩
theorem lT.parts {w:World} {P:Nat→Prop} {l:List α} {v:Value} (h:lT El w P l v):∃(a:Option Addr) (c:Nat),v=.slice a l.length c:=by obtain⟨_,h,-⟩:=h;exact h.parts
def ElQ (El:World→(Nat→Prop)→α→List Value→Prop) (w:World) (P:Nat→Prop) (a:α) (v:Value):Prop:=∃cs:List Value,v=.agg cs.toArray∧El w P a cs
structure y_ (El:World→(Nat→Prop)→α→List Value→Prop) (T k:Nat) (R:gI) (w1:World) (d:Nat) (X:World) (i':Nat) (acc:List α) (va:Value) (xs:List Value):Prop where
 rd:bC R X i' d
 ow:X.ownsRow w1.heap.size T k va acc.length xs
 el:ou El X (fun q=>w1.heap.size≤q∧va.ownBlock≠some q) acc xs
 st:Step (·=R.rb) w1 X
theorem y_.read (hE:uH El k) {T:Nat} {R:gI} {w1:World} {d:Nat} {X X':World} {i' i2:Nat} {acc:List α} {va:Value} {xs:List Value} (h:y_ El T k R w1 d X i' acc va xs) (hw:R.rb<w1.heap.size) (hr:bC R X' i2 d) (hs:Step (·=R.rb) X X'):y_ El T k R w1 d X' i2 acc va xs:=
 ⟨hr,hs.owns h.ow oi,ou.step hE hs (fun q hq e=>by have:=hq.1;omega) _ _ h.el,h.st.trans hs⟩
theorem y_.quiet (hE:uH El k) {T:Nat} {R:gI} {w1:World} {d:Nat} {X X':World} {i':Nat} {acc:List α} {va:Value} {xs:List Value} (h:y_ El T k R w1 d X i' acc va xs) (hs:jg X X'):y_ El T k R w1 d X' i' acc va xs:=
 ⟨h.rd.quiet hs,hs.owns h.ow (fun _ _ h=>h),ou.step hE hs (fun _ _ h=>h) _ _ h.el,h.st.trans (hs.mono fe)⟩
theorem y_.push (hE:uH El k) {T:Nat} {R:gI} {w1:World} {d:Nat} {X0 X2 X3:World} {i0 i2:Nat} {acc:List α} {va v9:Value} {xs cs:List Value} {x:α} (h0:y_ El T k R w1 d X0 i0 acc va xs) (h2:y_ El T k R w1 d X2 i2 acc va xs) (hx:El X2 (fun q=>X0.heap.size≤q) x cs) (hown:X3.ownsRow w1.heap.size T k v9 (acc.length+1) (xs++cs)) (hgrow:X2.grownBy X3 va.ownBlock) (hat:v9.ownBlock=va.ownBlock∨v9.ownBlock=some X2.heap.size) (hw:R.rb<w1.heap.size):y_ El T k R w1 d X3 i2 (acc++[x]) v9 (xs++cs):=by
 have h3:Step (fun q=>va.ownBlock=some q) X2 X3:=iZ hgrow;have ho:∀q,va.ownBlock=some q→w1.heap.size≤q∧q<X0.heap.size:=fun q hq=>h0.ow.lt q hq;have hlen:(acc++[x]).length=acc.length+1:=by simp
 have hnew:∀q,q<X2.heap.size→va.ownBlock≠some q→v9.ownBlock≠some q:=by
  intro q hq hn e;rcases hat with h7|h7
  ·exact hn (by rw[←h7];exact e)
  ·rw[h7]at e;have e2:X2.heap.size=q:=Option.some.inj e;omega
 refine⟨h2.rd.step h3 (fun q hq e=>by have:=(ho q e).1;omega),by rw[hlen];exact hown,ou.snoc ?_ ?_,h2.st.then h3 (fun q hq e=>by have:=(ho q e).1;omega)⟩
 ·have h5:=ou.mono hE (P':=fun q=>(w1.heap.size≤q∧va.ownBlock≠some q)∧q<X2.heap.size) (fun q h7 h8=>⟨h8,h7⟩) _ _ h2.el;have h6:=ou.step hE h3 (fun q hq e=>hq.1.2 e) _ _ h5;exact ou.mono hE (fun q _ hq=>⟨hq.1.1,hnew q hq.2 hq.1.2⟩) _ _ h6
 ·have h5:=hE.mono (P':=fun q=>X0.heap.size≤q∧q<X2.heap.size) _ _ (fun q h7 h8=>⟨h8,h7⟩) hx;have h6:=hE.step _ _ h3 (fun q hq e=>by have:=(ho q e).2;omega) h5;refine hE.mono _ _ (fun q _ hq=>⟨by have:=h0.st.size;omega,hnew q hq.2 (fun e=>by have:=(ho q e).2;omega)⟩) h6
end
def Pq (w:World) (P:Nat→Prop) (p:Pm) (cs:List Value):Prop:=∃ct:List Value,cs=[.string p.name]++ct++[.int .i64 p.line,.int .i64 p.col]∧p.name.size≤9223372036854775807∧gG w P p.ty ct
def EX (w:World) (P:Nat→Prop) (b:Bd) (cs:List Value):Prop:=∃vt vl:Value,cs=[.string b.name,vt,vl,.int .i64 b.line,.int .i64 b.col]∧b.name.size≤9223372036854775807∧fB w P b.kQ vt∧fB w P b.bI vl
def Ou (w:World) (P:Nat→Prop) (m:Mt) (cs:List Value):Prop:=∃(ct:List Value) (vl vp vw vb:Value),cs=[.string m.name,vl,.int .i64 m.recv,.string m.life,vp]++ct++[vw,vb,.int .i64 m.line,.int .i64 m.col]∧m.name.size≤9223372036854775807∧m.life.size≤9223372036854775807∧
 fB w P m.bI vl∧lT Pq w P m.params vp∧gG w P m.ret ct∧lT EX w P m.wh vw∧gZ w P m.body vb
def Hy (w:World) (P:Nat→Prop) (x:It) (cs:List Value):Prop:=∃(ct:List Value) (vl vt vf vw vm vb:Value),cs=[.int .i64 x.kind,.string x.name,.string x.head,vl,vt,vf]++ct++[vw,vm,vb,.int .i64 x.line,.int .i64 x.col]∧x.name.size≤9223372036854775807∧x.head.size≤9223372036854775807∧
 fB w P x.gen.bI vl∧fB w P x.gen.types vt∧lT Pq w P x.fields vf∧gG w P x.ret ct∧lT EX w P x.wh vw∧lT Ou w P x.methods vm∧gZ w P x.body vb
theorem fB.parts {w:World} {P:Nat→Prop} {l:List ByteArray} {v:Value} (h:fB w P l v):∃(a:Option Addr) (c:Nat),v=.slice a l.length c:=h.2.parts
theorem kR:uH Pq 11 where
 step:=fun _ _ hs hP ⟨ct,h1,h2,h3⟩=>⟨ct,h1,h2,gG.step hs hP _ ct h3⟩
 mono:=fun _ _ hp ⟨ct,h1,h2,h3⟩=>⟨ct,h1,h2,gG.mono hp _ ct h3⟩
 len:=fun _ _ ⟨ct,h1,_,h3⟩=>by rw[h1];have:=h3.len;simp;omega
 one:=fun _ _ ⟨ct,h1,_,h3⟩=>by
  intro u hu
  rw[h1]at hu
  rcases List.mem_append.1 hu with hu|hu
  ·
   rcases List.mem_append.1 hu with hu|hu
   ·
    simp at hu;subst hu;rfl
   ·
    exact h3.one u hu
  ·
   simp at hu;rcases hu with rfl|rfl<;>rfl
theorem jc:uH EX 5 where
 step:=fun _ _ hs hP ⟨vt,vl,h1,h2,h3,h4⟩=>⟨vt,vl,h1,h2,dY.step _ _ hs hP h3,dY.step _ _ hs hP h4⟩
 mono:=fun _ _ hp ⟨vt,vl,h1,h2,h3,h4⟩=>⟨vt,vl,h1,h2,dY.mono _ _ hp h3,dY.mono _ _ hp h4⟩
 len:=fun _ _ ⟨vt,vl,h1,_⟩=>by rw[h1];rfl
 one:=fun _ _ ⟨vt,vl,h1,_,h3,h4⟩=>by
  obtain⟨_,_,rfl⟩:=h3.parts
  obtain⟨_,_,rfl⟩:=h4.parts
  rw[h1];exact bn rfl
theorem jI:uH Ou 17 where
 step:=fun _ _ hs hP ⟨ct,vl,vp,vw,vb,h1,h2,h3,h4,h5,h6,h7,h8⟩=>⟨ct,vl,vp,vw,vb,h1,h2,h3,dY.step _ _ hs hP h4,(eu kR).step _ _ hs hP h5,gG.step hs hP _ _ h6,(eu jc).step _ _ hs hP h7,kC.step _ _ hs hP h8⟩
 mono:=fun _ _ hp ⟨ct,vl,vp,vw,vb,h1,h2,h3,h4,h5,h6,h7,h8⟩=>⟨ct,vl,vp,vw,vb,h1,h2,h3,dY.mono _ _ hp h4,(eu kR).mono _ _ hp h5,gG.mono hp _ _ h6,(eu jc).mono _ _ hp h7,kC.mono _ _ hp h8⟩
 len:=fun _ _ ⟨ct,vl,vp,vw,vb,h1,_,_,_,_,h6,_⟩=>by rw[h1];have:=h6.len;simp;omega
 one:=fun _ _ ⟨ct,vl,vp,vw,vb,h1,_,_,h4,h5,h6,h7,h8⟩=>by
  obtain⟨_,_,rfl⟩:=h4.parts
  obtain⟨_,_,rfl⟩:=h5.parts
  obtain⟨_,_,rfl⟩:=h7.parts
  obtain⟨_,_,rfl⟩:=h8.parts
  intro u hu
  rw[h1]at hu
  rcases List.mem_append.1 hu with hu|hu
  ·
   rcases List.mem_append.1 hu with hu|hu
   ·
    exact bn rfl u hu
   ·
    exact h6.one u hu
  ·
   exact bn rfl u hu
theorem gV:uH Hy 19 where
 step:=fun _ _ hs hP ⟨ct,vl,vt,vf,vw,vm,vb,h1,h2,h3,h4,h5,h6,h7,h8,h9,h10⟩=>⟨ct,vl,vt,vf,vw,vm,vb,h1,h2,h3,dY.step _ _ hs hP h4,dY.step _ _ hs hP h5,(eu kR).step _ _ hs hP h6,gG.step hs hP _ _ h7,(eu jc).step _ _ hs hP h8,(eu jI).step _ _ hs hP h9,kC.step _ _ hs hP h10⟩
 mono:=fun _ _ hp ⟨ct,vl,vt,vf,vw,vm,vb,h1,h2,h3,h4,h5,h6,h7,h8,h9,h10⟩=>⟨ct,vl,vt,vf,vw,vm,vb,h1,h2,h3,dY.mono _ _ hp h4,dY.mono _ _ hp h5,(eu kR).mono _ _ hp h6,gG.mono hp _ _ h7,(eu jc).mono _ _ hp h8,(eu jI).mono _ _ hp h9,kC.mono _ _ hp h10⟩
 len:=fun _ _ ⟨ct,vl,vt,vf,vw,vm,vb,h1,_,_,_,_,_,h7,_⟩=>by rw[h1];have:=h7.len;simp;omega
 one:=fun _ _ ⟨ct,vl,vt,vf,vw,vm,vb,h1,_,_,h4,h5,h6,h7,h8,h9,h10⟩=>by
  obtain⟨_,_,rfl⟩:=h4.parts
  obtain⟨_,_,rfl⟩:=h5.parts
  obtain⟨_,_,rfl⟩:=h6.parts
  obtain⟨_,_,rfl⟩:=h8.parts
  obtain⟨_,_,rfl⟩:=h9.parts
  obtain⟨_,_,rfl⟩:=h10.parts
  intro u hu
  rw[h1]at hu
  rcases List.mem_append.1 hu with hu|hu
  ·
   rcases List.mem_append.1 hu with hu|hu
   ·
    exact bn rfl u hu
   ·
    exact h7.one u hu
  ·
   exact bn rfl u hu
def mY:Nat→List Tok→Nat→List ByteArray→List ByteArray→dI Gn
 |0,_,_,_,_=>.out
 |f+1,l,i,ls,ts=>(eU (ls.length+ts.length) 8 l i).bind fun _ i=>(if(tokA l i).kind=2∧ts.length=0 then(jl l i).bind fun x j=>.ok (ls++[x],ts) j else(bH l i).bind fun x j=>.ok (ls,ts++[x]) j).bind fun p j=>
   if bG l j [44]then mY f l (j+1) p.1 p.2 else(aJ l j [62]).bind fun _ j=>.ok ⟨p.1,p.2⟩ j
def oU (f:Nat) (l:List Tok) (i:Nat):dI Gn:=if bG l i [60]then mY f l (i+1) [] []else .ok ⟨[],[]⟩ i
def qU:Nat→List Tok→Nat→Nat→List UInt8→Nat→List Pm→dI (List Pm)
 |0,_,_,_,_,_,_=>.out
 |f+1,l,i,d,e,m,acc=>(eU acc.length m l i).bind fun _ i=>(bH l i).bind fun n j=>(aJ l j [58]).bind fun _ j=>(kG f l j d).bind fun ty j=>
   if bG l j [44]then qU f l (j+1) d e m (acc++[⟨n,ty,(tokA l i).line,(tokA l i).col⟩])else(aJ l j e).bind fun _ j=>.ok (acc++[⟨n,ty,(tokA l i).line,(tokA l i).col⟩]) j
def fZ (f:Nat) (l:List Tok) (i d:Nat) (e:List UInt8) (m:Nat):dI (List Pm):=if bG l i e then .ok [] (i+1)else qU f l i d e m []
def lm (f:Nat) (l:List Tok) (i d:Nat):dI Ty:=if bG l i [45,62]then kG f l (i+1) d else .ok fK i
def gQ:Nat→List Tok→Nat→Bool→List ByteArray→List ByteArray→dI (List ByteArray×List ByteArray)
 |0,_,_,_,_,_=>.out
 |f+1,l,i,p,ts,ls=>(eU (ls.length+ts.length) 8 l i).bind fun _ i=>(if p=true∧ls.length=0∧(tokA l i).kind≠2 then(bH l i).bind fun x j=>.ok (ts++[x],ls) j else(jl l i).bind fun x j=>.ok (ts,ls++[x]) j).bind fun q j=>
   if bG l j [43]then gQ f l (j+1) p q.1 q.2 else .ok q j
def pX (f:Nat) (l:List Tok) (i:Nat):dI Bd:=
 (if(rV l i).size=0 then(bH l (pG l i)).bind fun n j=>.ok (n,true) j else .ok (rV l i,false) (pG l i)).bind fun p j=>(aJ l j [58]).bind fun _ j=>(gQ f l j p.2 [] []).bind fun q j=>.ok ⟨p.1,q.1,q.2,(tokA l i).line,(tokA l i).col⟩ j
def lV:Nat→List Tok→Nat→List Bd→dI (List Bd)
 |0,_,_,_=>.out
 |f+1,l,i,acc=>(eU acc.length 16 l i).bind fun _ i=>(pX f l i).bind fun b j=>if bG l j [44]then lV f l (j+1) (acc++[b])else .ok (acc++[b]) j
def fG (f:Nat) (l:List Tok) (i:Nat):dI (List Bd):=if bG l i [119,104,101,114,101]then lV f l (i+1) []else .ok [] i
def kW (l:List Tok) (i:Nat):(Int×ByteArray)×Nat:=
 if bG l i [38]then((if bG l (pG l (i+1)) [109,117,116]then 3 else 2,rV l (i+1)),iH l (pG l (i+1)) [109,117,116])else((1,dB),i)
def ny (f:Nat) (l:List Tok) (i d:Nat) (body:Bool):dI Mt:=
 (aJ l i [102,110]).bind fun _ j=>(bH l j).bind fun n j=>(oU f l j).bind fun g j=>(if 0<g.types.length then iw 5 l j else .ok () j).bind fun _ j=>(aJ l j [40]).bind fun _ j=>
  (aJ l (kW l j).2 [115,101,108,102]).bind fun _ k=>(if bG l k [44]then(if bG l (k+1) [41]then iw 1 l (k+1)else fZ f l (k+1) d [41] 8)else(aJ l k [41]).bind fun _ k=>.ok [] k).bind fun ps k=>
   (lm f l k d).bind fun t k=>(fG f l k).bind fun wh k=>(if body then bU f l k d else(aJ l k [59]).bind fun _ k=>.ok [] k).bind fun b k=>
    .ok ⟨n,g.bI,(kW l j).1.1,(kW l j).1.2,ps,t,wh,b,(tokA l i).line,(tokA l i).col⟩ k
def oV:Nat→List Tok→Nat→Nat→Bool→List Mt→dI (List Mt)
 |0,_,_,_,_,_=>.out
 |f+1,l,i,d,body,acc=>if bG l i [125]then .ok acc (i+1)else(eU acc.length 12 l i).bind fun _ i=>(ny f l i d body).bind fun m j=>oV f l j d body (acc++[m])
def iO (f:Nat) (l:List Tok) (i d:Nat) (body:Bool):dI (List Mt):=(aJ l i [123]).bind fun _ j=>oV f l j d body []
def pK (l:List Tok) (i:Nat):dI ByteArray:=
 if bG l i [105,110,116]then .ok ⟨#[105,110,116]⟩ (i+1)else if bG l i [98,111,111,108]then .ok ⟨#[98,111,111,108]⟩ (i+1)else if bG l i [102,54,52]then .ok ⟨#[102,54,52]⟩ (i+1)else bH l i
def r_ (k:Int) (name head:ByteArray) (g:Gn) (fs:List Pm) (t:Ty) (wh:List Bd) (ms:List Mt) (b:List St) (tk:Tok):It:=⟨k,name,head,g,fs,t,wh,ms,b,tk.line,tk.col⟩
def Ew:Gn:=⟨[],[]⟩
def tu (f:Nat) (l:List Tok) (i d:Nat):dI It:=
 if bG l i [115,116,114,117,99,116]then(bH l (i+1)).bind fun n j=>(oU f l j).bind fun g j=>(aJ l j [123]).bind fun _ j=>(fZ f l j d [125] 12).bind fun fs j=>.ok (r_ 1 n dB g fs fK [] [] [] (tokA l i)) j
 else if bG l i [116,114,97,105,116]then(bH l (i+1)).bind fun n j=>(iO f l j d false).bind fun ms j=>.ok (r_ 2 n dB Ew [] fK [] ms [] (tokA l i)) j
 else if bG l i [105,109,112,108]then(bH l (i+1)).bind fun n j=>(aJ l j [102,111,114]).bind fun _ j=>(pK l j).bind fun h j=>(fG f l j).bind fun wh j=>(iO f l j d true).bind fun ms j=>.ok (r_ 3 n h Ew [] fK wh ms [] (tokA l i)) j
 else if bG l i [102,110]then(bH l (i+1)).bind fun n j=>(oU f l j).bind fun g j=>(aJ l j [40]).bind fun _ j=>(fZ f l j d [41] 8).bind fun fs j=>(lm f l j d).bind fun t j=>(fG f l j).bind fun wh j=>(bU f l j d).bind fun b j=>.ok (r_ 4 n dB g fs t wh [] b (tokA l i)) j
 else iw 1 l i
def lq:Nat→List Tok→Nat→Nat→List It→dI (List It)
 |0,_,_,_,_=>.out
 |f+1,l,i,d,acc=>if(tokA l i).kind=0 then .ok acc i else(eU acc.length 60 l i).bind fun _ i=>(tu f l i d).bind fun x j=>lq f l j d (acc++[x])
def Mk (out:Rb) (w:World) (e:Ending) (w':World):Prop:=∃v,e=.returned v∧Step Sf w w'∧out.r v w' (fun q=>w.heap.size≤q)
def zf (w:World) (P:Nat→Prop) (v:Value) (xs:List ByteArray):Prop:=dh w P v xs.length (xs.map .string)
def TkE (w:World) (P:Nat→Prop) (xs:List ByteArray) (cs:List Value):Prop:=∃u,cs=[u]∧zf w P u xs
theorem KC:uH TkE 1 where
 step:=fun _ _ hs hP ⟨u,h1,h2⟩=>⟨u,h1,h2.step hs hP⟩
 mono:=fun _ _ hp ⟨u,h1,h2⟩=>⟨u,h1,h2.mono hp⟩
 len:=fun _ _ ⟨u,h1,_⟩=>by rw[h1];rfl
 one:=fun _ _ ⟨u,h1,h2⟩=>by
  obtain⟨_,_,rfl⟩:=h2.parts
  rw[h1];exact bn rfl
theorem Me {w w':World} {P S:Nat→Prop} {e:TypeId} {size n:Nat} {v:Value} {xs:List Value} (hs:Step S w w') (hP:∀q,P q→¬S q) (h:w.ownsRow 0 e size v n xs) (hb:∀b,v.ownBlock=some b→P b):w'.ownsRow 0 e size v n xs:=by
 refine⟨h.1,?_⟩;rcases h.2 with hz|⟨g,cap,cur,rfl,h1,hg,rest⟩
 ·exact .inl hz
 ·exact .inr ⟨g,cap,cur,rfl,h1,hs.keep hg (hP g (hb g rfl)),rest⟩
theorem RQ {w:World} {base:Nat} {e:TypeId} {size n:Nat} {v:Value} {xs:List Value} (h:w.ownsRow base e size v n xs) {b:Nat} (hb:v.ownBlock=some b):b<w.heap.size:=(h.lt b hb).2
def oz {α:Type} (El:World→(Nat→Prop)→α→List Value→Prop) (k:Nat) (hE:uH El k) (T:TypeId) (l:List α):Rb where
 r:=fun v w P=>∃vs,w.ownsRow 0 T k v l.length vs∧(∀b,v.ownBlock=some b→P b)∧ou El w (fun q=>P q∧v.ownBlock≠some q) l vs
 ok:=⟨fun hs hP ⟨vs,h1,h2,h3⟩=>⟨vs,Me hs hP h1 h2,h2,ou.step hE hs (fun q hq=>hP q hq.1) _ _ h3⟩,
  fun hp ⟨vs,h1,h2,h3⟩=>⟨vs,h1,fun b hb=>hp b (RQ h1 hb) (h2 b hb),ou.mono hE (fun q hl hq=>⟨hp q hl hq.1,hq.2⟩) _ _ h3⟩⟩
abbrev jw:List (List ByteArray)→Rb:=oz TkE 1 KC 40
def aH (xs:List ByteArray):Rb where
 r:=fun v w P=>w.ownsRow 0 9 1 v xs.length (xs.map .string)∧∀b,v.ownBlock=some b→P b
 ok:=⟨fun hs hP h=>⟨Me hs hP h.1 h.2,h.2⟩,fun hp h=>⟨h.1,fun b hb=>hp b (RQ h.1 hb) (h.2 b hb)⟩⟩
theorem aH.strs {xs:List ByteArray} {v:Value} {w:World} {P:Nat→Prop} (h:(aH xs).r v w P):zf w P v xs:=dh.jd h.1 h.2
theorem aH.mk {X:World} {xs:List ByteArray} {n:Nat} (hn:xs.length=n) (hp:0<n) (hm:n≤1000000000):(aH xs).r (.slice (some ⟨X.heap.size,0,none⟩) n n) (X.alloc (.cells (xs.map Value.string).toArray 9)) (fun q=>X.heap.size≤q):=by
 subst hn;refine⟨⟨by simp,.inr ⟨X.heap.size,xs.length,_,rfl,Nat.zero_le _,aC _ _,Nat.le_refl _,by simp only[maxLen];omega,by simp,?_⟩⟩,fun b hb=> ?_⟩
 ·rw[Nat.mul_one];exact List.take_of_length_le (by simp)
 ·have:X.heap.size=b:=Option.some.inj hb;omega
theorem jw.mk {X:World} {v:Value} {xs:List ByteArray} {C:Nat→Prop} (h:(aH xs).r v X C):(jw [xs]).r (.slice (some ⟨X.heap.size,0,none⟩) 1 1) (X.alloc (.cells #[v] 40)) (fun q=>C q∨X.heap.size≤q):=by
 refine⟨[v],⟨rfl,.inr ⟨X.heap.size,1,_,rfl,Nat.zero_le _,aC _ _,Nat.le_refl _,by decide,rfl,rfl⟩⟩,fun b hb=> ?_,[v],[],rfl,⟨v,rfl,?_⟩,rfl⟩
 ·have:X.heap.size=b:=Option.some.inj hb;omega
 ·have h1:=(aH.strs h).step ((Step.refl Sf X).alloc (.cells #[v] 40)) (fun _ _ h=>h);have h2:=(dh.mono (P':=fun q=>C q∧q<X.heap.size) (aH.strs h) (fun q hq hc=>⟨hc,hq⟩)).step ((Step.refl Sf X).alloc (.cells #[v] 40)) (fun _ _ h=>h);exact h2.mono (fun q _ hq=>⟨.inl hq.1,fun e=>by have e2:X.heap.size=q:=Option.some.inj e;have:=hq.2;omega⟩)
section
variable {ops : Array Oper} {o : Oper} {a : Act} {X : World}
theorem RS (s x:Operand) (ho:o.op=.call {callee:=.builtin .append,args:= #[s,x],argTypes:= #[40,40]}) {xs ys:List ByteArray} {v u:Value} {C D:Nat→Prop} (hs:a.eval s=v) (hx:a.eval x=u) (h:(aH xs).r v X C) (hu:zf X D u ys) (hl:xs.length+ys.length≤1000000000):Bh Tryz.prog o (aH (xs++ys)) C a X:=by
 obtain⟨i0,hi0,hz0,hz1,hz2⟩:=info_parts Tryz.oN
 refine gq X X.heap.size s x _ ho 0 9 i0 (.string ⟨#[]⟩) 1 16 Tryz.underlying40 hi0 hz0 hz1 hz2 rfl Nat.one_pos v xs.length _ hs h.1 u ys.length (ys.map .string) hx (hu.row (fun k hk _=>hk)) (by simp) (fun z hz=>by
  obtain⟨s,_,rfl⟩:=List.mem_map.1 hz
  rfl) (by simp only[maxLen];omega) om (Nat.zero_le _) (fun z X' h1 h2 h3=> ?_)
 refine⟨z,rfl,(iZ h2).mono (fun q _ e=>h.2 q e),⟨by rw[List.map_append,List.length_append];exact h1,fun b hb=> ?_⟩⟩;rcases h3 with h3|h3
 ·exact .inl (h.2 b (by rw[←h3];exact hb))
 ·rw[h3]at hb;exact .inr (Nat.le_of_eq (Option.some.inj hb))
end
section
variable {ops : Array Oper} {dD : List Sp} {w1 : World} {o : Oper} {a : Act} {r : List Oper} {ss : List Sp}
abbrev zh (ops:Array Oper) (dD:List Sp) (w1:World):=qZ Tryz.prog ops dD (Nw w1) w1
abbrev uX (ops:Array Oper) (dD:List Sp) (N:Nat→Prop) (w1:World):=qZ Tryz.prog ops dD N w1
theorem OB.bs {N:Nat→Prop} (xs:List ByteArray) (n:Nat) (h:uX ops dD N w1 r ss a) (hn:xs.length=n∧0<n∧n≤1000000000:=by exact⟨rfl,by decide,by decide⟩) (hy:∀X,o.wp Tryz.prog a X (fun a' X'=>a'=a.put o.dst (.slice (some ⟨X.heap.size,0,none⟩) n n)∧X'=X.alloc (.cells (xs.map Value.string).toArray 9)) QN:=by intro X;go_simp) (hw:Region.wanted o (yielded ops a.tmps)=true:=by kernel_rfl):uX ops dD N w1 (o::r) (.r [] (aH xs)::ss) a:=
 ON.new (fun X _=>Oper.wp_mono (fun a' X' ⟨h1,h2⟩=>⟨_,h1,by rw[h2];exact bg.alloc _,by rw[h2];exact(aH xs).ok.mono (fun _ _ h=>.inr h) (aH.mk hn.1 hn.2.1 hn.2.2)⟩) (hy X)) h hw
theorem OB.ap {xs ys:List ByteArray} {k:Nat} (t x:Tmp) {u:Value} {D:Nat→Prop} (hu:∀X,Step Sf w1 X→zf X D u ys) (hl:xs.length+ys.length≤1000000000) (h:zh ops dD w1 r ss a) (ho:o.op=.call {callee:=.builtin .append,args:= #[.tmp t,.tmp x],argTypes:= #[40,40]}:=by rfl) (hs:∀v,(a.put (some t) v).eval (.tmp t)=v:=by intro v;kernel_rfl) (hx:∀v,(a.put (some t) v).eval (.tmp x)=u:=by intro v;kernel_rfl) (hk:(ku dD k).out=(aH xs).r:=by rfl) (ht:dZ ops k=some t:=by rfl) (hw:Region.wanted o (yielded ops a.tmps)=true:=by kernel_rfl):zh ops dD w1 (o::r) (.r [k] (aH (xs++ys))::ss) a:=
 OB.u t (ok:=aH xs) (fun X v _ hX hv _=>RS _ _ ho (hs v) (hx v) hv (hu X hX) hl) h hk ht hw
theorem OB.app {N:Nat→Prop} {xs ys:List ByteArray} {k1 k2:Nat} (t x:Tmp) (hl:xs.length+ys.length≤1000000000) (h:uX ops dD N w1 r ss a) (ho:o.op=.call {callee:=.builtin .append,args:= #[.tmp t,.tmp x],argTypes:= #[40,40]}:=by rfl) (hs:∀v u,((a.put (some t) v).put (some x) u).eval (.tmp t)=v:=by intro v u;kernel_rfl) (hx:∀v u,((a.put (some t) v).put (some x) u).eval (.tmp x)=u:=by intro v u;kernel_rfl) (hk1:(ku dD k1).out=(aH xs).r:=by rfl) (hk2:(ku dD k2).out=(aH ys).r:=by rfl) (ht1:dZ ops k1=some t:=by rfl) (ht2:dZ ops k2=some x:=by rfl) (hw:Region.wanted o (yielded ops a.tmps)=true:=by kernel_rfl):uX ops dD N w1 (o::r) (.r [k1,k2] (aH (xs++ys))::ss) a:=
 ON.uu t x (o1:=aH xs) (o2:=aH ys) (fun _ v u _ _ _ hv hu _ _=>(RS _ _ ho (hs v u) (hx v u) hv (aH.strs hu) hl).mono (fun _=>.inl)) h hk1 hk2 ht1 ht2 hw
end
theorem ou.app {α:Type} {El:World→(Nat→Prop)→α→List Value→Prop} {w:World} {P:Nat→Prop}:∀{l m:List α} {xs ys:List Value},ou El w P l xs→ou El w P m ys→ou El w P (l++m) (xs++ys)
 |[],m,xs,ys,h,h1=>by cases h;exact h1
 |a::r,m,xs,ys,h,h1=>by
  obtain⟨c1,c2,rfl,h2,h3⟩:=h
  exact⟨c1,c2++ys,by rw[List.append_assoc],h2,ou.app h3 h1⟩
theorem oz.ls {α:Type} {El:World→(Nat→Prop)→α→List Value→Prop} {k:Nat} {hE:uH El k} {T:TypeId} {l:List α} {v:Value} {X:World} {C:Nat→Prop} (h:(oz El k hE T l).r v X C):lT El X C l v:=by obtain⟨vs,h1,h2,h3⟩:=h;exact⟨vs,dh.jd h1 h2,ou.mono hE (fun _ _ hq=>hq.1) _ _ h3⟩
theorem Ve {α:Type} {El:World→(Nat→Prop)→α→List Value→Prop} {k bytes:Nat} {hE:uH El k} {T TS:TypeId} {z0:Value} {o:Oper} {a:Act} {X:World} (hT:Tryz.prog.underlying TS=some (.slice T)) (hi:(Tryz.prog.info? T).map (fun i=>(i.zero,i.size,i.bytes))=some (some z0,k,bytes)) (hz:z0.cells.size=k) (hk:0<k) (s x:Operand) (ho:o.op=.call {callee:=.builtin .append,args:= #[s,x],argTypes:= #[TS,TS]}) {l m:List α} {v u:Value} {C D:Nat→Prop} (hs:a.eval s=v) (hx:a.eval x=u) (h:(oz El k hE T l).r v X C) (hu:(oz El k hE T m).r u X D) (hCD:∀q,D q→¬C q) (hl:l.length+m.length≤1000000000) (hb:(l.length+m.length)*bytes≤140737488355328):Bh Tryz.prog o (oz El k hE T (l++m)) (fun q=>C q∨D q) a X:=by
 obtain⟨i0,hi0,hz0,hz1,hz2⟩:=info_parts hi;obtain⟨vs,h1,h2,h3⟩:=h;obtain⟨us,k1,k2,k3⟩:=hu;have hrow:dh X D u m.length us:=dh.jd k1 k2;refine gq X X.heap.size s x _ ho 0 T i0 z0 k bytes hT hi0 hz0 hz1 hz2 hz hk v l.length vs hs h1 u m.length us hx (hrow.row (fun k hk _=>hk)) (ou.len hE k3) (ou.one hE k3) (by simp only[maxLen];omega) hb (Nat.zero_le _) (fun z X' e1 e2 e3=> ?_);have hst:=iZ e2;have hzb:∀b,z.ownBlock=some b→v.ownBlock=some b∨b=X.heap.size:=by
  intro b hb;rcases e3 with e3|e3
  ·exact .inl (by rw[←e3];exact hb)
  ·rw[e3]at hb;exact .inr (Option.some.inj hb).symm
 refine⟨z,rfl,hst.mono (fun q _ e=>.inl (h2 q e)),vs++us,by rw[List.length_append];exact e1,fun b hb=> ?_,ou.app ?_ ?_⟩
 ·rcases hzb b hb with h4|h4
  ·exact .inl (.inl (h2 b h4))
  ·exact .inr (Nat.le_of_eq h4.symm)
 ·have h4:=ou.mono hE (P':=fun q=>(C q∧v.ownBlock≠some q)∧q<X.heap.size) (fun q hq h=>⟨h,hq⟩) _ _ h3;have h5:=ou.step hE hst (fun q hq e=>hq.1.2 e) _ _ h4;refine ou.mono hE (fun q _ hq=>⟨.inl (.inl hq.1.1),fun e=> ?_⟩) _ _ h5;rcases hzb q e with h6|h6
  ·exact hq.1.2 h6
  ·have:=hq.2;omega
 ·have h4:=ou.mono hE (P':=fun q=>D q∧q<X.heap.size) (fun q hq h=>⟨h.1,hq⟩) _ _ k3;have h5:=ou.step hE hst (fun q hq e=>hCD q hq.1 (h2 q e)) _ _ h4;refine ou.mono hE (fun q _ hq=>⟨.inl (.inr hq.1),fun e=> ?_⟩) _ _ h5;rcases hzb q e with h6|h6
  ·exact hCD q hq.1 (h2 q h6)
  ·have:=hq.2;omega
theorem RU {P:Program} {f:FuncId} {fn:Func} (hf:P.funcs[f]?=some fn) (hb:fn.body.isNone=false) (hn:(fn.name== "runtime.NumGoroutine")=false) (args:Array Value) (w:World):(callFunc f args).run P w=.ok (.enter f args) w:=by
 have h1:fn.name≠ "runtime.NumGoroutine" :=by simpa using hn
 have h2:¬fn.body=none:=by intro h;simp[h]at hb
 simp[callFunc,hf,h1,h2]
theorem Dk {P:Program} {o:Oper} {a:Act} {X:World} {out:Rb} {f:FuncId} {fn:Func} {xs:Array Operand} {ats:Array TypeId} {vs:Array Value} (ho:o.op=.call {callee:=.value (.func f),args:=xs,argTypes:=ats}) (hv:xs.map a.eval=vs) (hf:P.funcs[f]?=some fn) (hb:fn.body.isNone=false) (hn:(fn.name== "runtime.NumGoroutine")=false) (h:Calls P f vs X (Mk out X)):Bh P o out Sf a X:=by obtain⟨dst,op,type,pos,after,guard⟩:=o;have ho:op=_:=ho;subst ho;unfold Bh Oper.wp;rw[execOp_call_go];simp only[Array.empty_append,Array.append_empty];rw[hv,RU hf hb hn];refine h.mono ?_;rintro e w' ⟨v,rfl,h1,h2⟩;exact⟨v,rfl,h1,out.ok.mono (fun _ _ h=>.inr h) h2⟩
section
variable {ops : Array Oper} {dD : List Sp} {w1 : World} {o : Oper} {a : Act} {r : List Oper} {ss : List Sp}
theorem OB.c {out:Rb} {f:FuncId} {fn:Func} {xs:Array Operand} {ats:Array TypeId} (vs:Array Value) (hf:Tryz.prog.funcs[f]?=some fn) (hc:∀X,Step Sf w1 X→Calls Tryz.prog f vs X (Mk out X)) (h:zh ops dD w1 r ss a) (ho:o.op=.call {callee:=.value (.func f),args:=xs,argTypes:=ats}:=by rfl) (hv:xs.map a.eval=vs:=by kernel_rfl) (hb:fn.body.isNone=false:=by kernel_rfl) (hn:(fn.name== "runtime.NumGoroutine")=false:=by kernel_rfl) (hw:Region.wanted o (yielded ops a.tmps)=true:=by kernel_rfl):zh ops dD w1 (o::r) (.r [] out::ss) a:=OB.new (fun X hX=>Dk ho hv hf hb hn (hc X hX)) h hw
theorem OB.cu {out ok:Rb} {k:Nat} {f:FuncId} {fn:Func} {xs:Array Operand} {ats:Array TypeId} (t:Tmp) (vs:Value→Array Value) (hf:Tryz.prog.funcs[f]?=some fn) (hc:∀X v C,Step Sf w1 X→ok.r v X C→Calls Tryz.prog f (vs v) X (Mk out X)) (h:zh ops dD w1 r ss a) (ho:o.op=.call {callee:=.value (.func f),args:=xs,argTypes:=ats}:=by rfl) (hv:∀v,xs.map (a.put (some t) v).eval=vs v:=by intro v;kernel_rfl) (hb:fn.body.isNone=false:=by kernel_rfl) (hn:(fn.name== "runtime.NumGoroutine")=false:=by kernel_rfl) (hk:(ku dD k).out=ok.r:=by rfl) (ht:dZ ops k=some t:=by rfl) (hw:Region.wanted o (yielded ops a.tmps)=true:=by kernel_rfl):zh ops dD w1 (o::r) (.r [k] out::ss) a:=OB.u t (ok:=ok) (fun X v C hX hv2 _=>(Dk ho (hv v) hf hb hn (hc X v C hX hv2)).mono (fun _ h=>h.elim)) h hk ht hw
theorem OB.ld {ty:TypeId} {x:Operand} (b of:Nat) (cs:List Value) (d:TypeDesc) (hc:∀X,Step Sf w1 X→∀(j:Nat) v,cs[j]?=some v→X.cell? ⟨b,of+j,none⟩=some v) (hu:Tryz.prog.underlying ty=some d) (hi:(Tryz.prog.info? ty).map (·.size)=some cs.length) (h:zh ops dD w1 r ss (a.put o.dst (.agg cs.toArray))) (ho:o.op=.load ty x:=by rfl) (hx:a.eval x=.pointer (some ⟨b,of,none⟩):=by kernel_rfl) (hd:d.isRow=true:=by rfl) (hw:Region.wanted o (yielded ops a.tmps)=true:=by kernel_rfl):zh ops dD w1 (o::r) (.p (.agg cs.toArray)::ss) a:=
 OB.p h (fun X hX=>wp_load_mid ty x ho b of hx cs d (hc X hX) hu hd hi ⟨rfl,rfl⟩) hw
theorem OB.ls {N:Nat→Prop} {xs:List ByteArray} {k:Nat} (t:Tmp) (h:uX ops dD N w1 r ss a) (hy:∀X oa n oc,o.wp Tryz.prog (a.put (some t) (.slice oa n oc)) X (fun a' X'=>a'=(a.put (some t) (.slice oa n oc)).put o.dst (.slice (some ⟨X.heap.size,0,none⟩) 1 1)∧X'=X.alloc (.cells #[.slice oa n oc] 40)) QN:=by intro X oa n oc;go_simp) (hk:(ku dD k).out=(aH xs).r:=by rfl) (ht:dZ ops k=some t:=by rfl) (hw:Region.wanted o (yielded ops a.tmps)=true:=by kernel_rfl):uX ops dD N w1 (o::r) (.r [k] (jw [xs])::ss) a:=
 ON.u t (ok:=aH xs) (fun X v _ _ hv _=>by
  obtain⟨oa,oc,rfl⟩:=(aH.strs hv).parts
  exact Oper.wp_mono (fun a' X' ⟨h1,h2⟩=>⟨_,h1,by rw[h2];exact bg.alloc _,by rw[h2];exact jw.mk hv⟩) (hy X oa _ oc)) h hk ht hw
theorem Tryz.I9:(Tryz.prog.info? 40).map (fun i=>(i.zero,i.size,i.bytes))=some (some (.slice none 0 0),1,24):=by kernel_rfl
theorem OB.la {N:Nat→Prop} {l m:List (List ByteArray)} {k1 k2:Nat} (t x:Tmp) (hl:l.length+m.length≤1000000000) (h:uX ops dD N w1 r ss a) (ho:o.op=.call {callee:=.builtin .append,args:= #[.tmp t,.tmp x],argTypes:= #[79,79]}:=by rfl) (hs:∀v u,((a.put (some t) v).put (some x) u).eval (.tmp t)=v:=by intro v u;kernel_rfl) (hx:∀v u,((a.put (some t) v).put (some x) u).eval (.tmp x)=u:=by intro v u;kernel_rfl) (hk1:(ku dD k1).out=(jw l).r:=by rfl) (hk2:(ku dD k2).out=(jw m).r:=by rfl) (ht1:dZ ops k1=some t:=by rfl) (ht2:dZ ops k2=some x:=by rfl) (hw:Region.wanted o (yielded ops a.tmps)=true:=by kernel_rfl):uX ops dD N w1 (o::r) (.r [k1,k2] (jw (l++m))::ss) a:=
 ON.uu t x (o1:=jw l) (o2:=jw m) (fun _ v u _ _ _ hv hu _ hD=>Ve Tryz.underlying79 Tryz.I9 rfl Nat.one_pos _ _ ho (hs v u) (hx v u) hv hu (fun q hq=>(hD q hq).2) hl om) h hk1 hk2 ht1 ht2 hw
end
theorem gK (s1 s2:ByteArray) (xs:List ByteArray) (v:Value) (w:World) (D:Nat→Prop) (hv:zf w D v xs) (hl:xs.length≤100000000):Calls Tryz.prog 26 #[.string s1,v,.string s2] w (Mk (aH ([s1]++xs++[s2])) w):=by
 have b1:([s1]++xs).length+[s2].length≤1000000000:=by simp;omega
 have b2:[s1].length+xs.length≤1000000000:=by simp;omega
 go_enter Tryz.func26,Tryz.ntmps26;go_upto_region 1 with fail
 refine au w [.p (.string s1),.r [] (aH [s1]),.p v,.r [1] (aH ([s1]++xs)),.r [3] (aH ([s1]++xs))] kr bg (iR (Nat.le_refl _)) ?_ kr ?_
 ·refine OB.p ?_;refine OB.bs [s1] 1 ?_;refine OB.p ?_;refine OB.ap 9 10 (fun X hX=>hv.step hX (fun _ _ h=>h)) b2 ?_;refine OB.mv 11 ?_;exact OB.nil
 intro V X f hX hf;have h4:(aH _).r _ X _:=hf 4 kr;simp only[dm,Act.put,List.setIfInBounds_toArray,List.set_cons_zero,List.set_cons_succ,Nat.zero_add];go_upto_region 2 with fail
 refine au w [.r [5] (aH ([s1]++xs)),.p (.string s2),.r [] (aH [s2]),.r [0,2] (aH ([s1]++xs++[s2])),.r [3] (aH ([s1]++xs++[s2])),.r [] (Kp (aH ([s1]++xs)) (V 4))] kr hX (jf rfl rfl h4 (fun _ h=>h.1)) ?_ kr ?_
 ·refine OB.mi 7 ?_;refine OB.p ?_;refine OB.bs [s2] 1 ?_;refine OB.app 12 14 b1 ?_;refine OB.mv 15 ?_;exact OB.nil
 intro V X f hX hf;have h4:(aH _).r _ X _:=hf 4 kr;simp only[dm,Act.put,List.setIfInBounds_toArray,List.set_cons_zero,List.set_cons_succ,Nat.zero_add];go_wp2_with fail;go_ret;exact⟨_,rfl,hX,(aH _).ok.mono (fun _ _ h=>h.1) h4⟩
def sep (i:Nat):List ByteArray:=if 0<i then[⟨#[44]⟩]else[]
def cm (l:List (List ByteArray)):Nat→List ByteArray
 |0=>[]
 |i+1=>cm l i++sep i++l.getD i []
def aF (l:List (List ByteArray)):List ByteArray:=cm l l.length
theorem XB (l:List (List ByteArray)):∀i j,i≤j→(cm l i).length≤(cm l j).length:=by
 intro i j h;induction h with
 |refl=>exact Nat.le_refl _
 |step _ ih=>rw[cm];simp only[List.length_append];omega
theorem aH.nil (X:World) (C:Nat→Prop):(aH []).r (.slice none 0 0) X C:=⟨⟨rfl,.inl ⟨rfl,rfl⟩⟩,nR⟩
theorem oz.nil {α:Type} {El:World→(Nat→Prop)→α→List Value→Prop} {k:Nat} {hE:uH El k} {T:TypeId} (X:World) (C:Nat→Prop):(oz El k hE T ([]:List α)).r (.slice none 0 0) X C:=⟨[],⟨by simp,.inl ⟨rfl,rfl⟩⟩,nR,rfl⟩
theorem take_snoc {α:Type} {l:List α} {i:Nat} {x:α} (h:l[i]?=some x):l.take (i+1)=l.take i++[x]:=by rw[List.take_add_one,h];rfl
theorem wO {α:Type} {l:List α} {i:Nat} {x d:α} (h:l[i]?=some x):l.getD i d=x:=by rw[List.getD_eq_getElem?_getD,h];rfl
theorem jT (ls:List (List ByteArray)) (v:Value) (w:World) (D:Nat→Prop) (hv:lT TkE w D ls v) (hl:ls.length≤100000000) (hb:(aF ls).length≤100000000):Calls Tryz.prog 34 #[v] w (Mk (aH (aF ls)) w):=by
 obtain⟨a,c,rfl⟩:=hv.parts;have HV:=ai hv;have HB:=ai hb;obtain⟨n,hn⟩:=bF ls.length;have HN:=ai hn;rw[←hn]at hl⊢;clear hv hb hn;go_enter Tryz.func34,Tryz.ntmps34;go_wp2_with fail;go_loopg [3,4] n (fun gg s3 s4 wr=>∃(i:Nat) (C:Nat→Prop),s4=.int .i64 i∧i≤n∧n-i≤gg∧(aH (cm ls i)).r s3 wr C∧(∀q,C q→w.heap.size≤q)∧Step Sf w wr);case atStart=>exact⟨0,Sf,rfl,Nat.zero_le _,by omega,aH.nil _ _,(fun _ h=>h.elim),Step.refl _ _⟩
 case round=>
  obtain⟨i,C,rfl,hi,hg,hu,hC,hst⟩:=hrel;have HU:=ai hu;have HC:=ai hC;have HST:=ai hst;clear hu hC hst;by_cases hlt:i<n
  ·obtain⟨x,hx⟩:∃x,ls[i]?=some x:=⟨ls[i]'(by rw[←HN.o];exact hlt),List.getElem?_eq_getElem _⟩;obtain⟨vs,⟨a',c',hsl,h1,h2,h3,h4⟩,h5⟩:=HV.o;cases hsl;obtain⟨g,o,rfl,h6,h7,h8⟩:=h4 (by rw[←HN.o];omega);obtain⟨cs,⟨y,rfl,hy⟩,h9⟩:=ou.get KC i h5 hx;have h10:=h8 (i*1+0) y (h9 0 y rfl);rw[Nat.mul_one,Nat.add_zero]at h10;obtain⟨ya,yc,rfl⟩:=hy.parts;(have hb7:(cm ls i++sep i).length+x.length≤1000000000:=by have h11:=HB.o;have h12:=XB ls (i+1) ls.length (by rw[←HN.o];exact hlt);rw[cm,wO hx,List.length_append]at h12;unfold aF at h11;omega);have HY:Hid (∀X,Step Sf w X→zf X D (.slice ya x.length yc) x):=show∀X,_ from fun X hX=>hy.step hX (fun _ _ h=>h);have Ih:Hid (∀X,Step Sf w X→X.cell? ⟨g,o+i,none⟩=some (.slice ya x.length yc)):=show∀X,_ from fun X hX=>hX.cell h10 (fun h=>h);have FT:=ai hb7;(have HX:Hid (cm ls (i+1)=cm ls i++sep i++x):=by show _=_;rw[cm,wO hx]);clear h1 h2 h3 h4 h5 h6 h7 h8 h9 h10 hx hy hb7;(go_upto_if 12 with fail);go_cut [3] (fun s wx=>∃C,(aH (cm ls i++sep i)).r s wx C∧(∀q,C q→w.heap.size≤q)∧Step Sf w wx);case first=>
    by_cases h0:0<i
    ·(have hi0:(0:Int)<i:=by omega);have hs0:sep i=[⟨#[44]⟩]:=if_pos h0;have HS0:=ai hs0;clear hs0;(go_upto_region 6 with fail);refine au w [.r [4] (aH (cm ls i)),.r [] (aH [⟨#[44]⟩]),.r [0,1] (aH (cm ls i++[⟨#[44]⟩])),.r [2] (aH (cm ls i++[⟨#[44]⟩])),.r [] (Kp (aH (cm ls i)) u3)] kr HST.o (jf rfl rfl HU.o HC.o) ?_ kr ?_
     ·refine OB.mi 3 ?_;refine OB.bs [⟨#[44]⟩] 1 ?_;refine OB.app 13 14 (by have h:=FT.o;rw[HS0.o]at h;simp only[List.length_append]at h;simp only[List.length_cons,List.length_nil]at h⊢;omega) ?_;refine OB.mv 15 ?_;exact OB.nil
     intro V X f hX hf;have h4:(aH _).r _ X _:=hf 3 kr;simp only[dm,Act.put,List.setIfInBounds_toArray,List.set_cons_zero,List.set_cons_succ,Nat.zero_add];go_wp2_with fail;go_meet;case rel=>rw[HS0.o];exact⟨_,h4,(fun q h=>h.1),hX⟩
    ·(have hi0:¬(0:Int)<i:=by omega);go_wp2_with fail;go_meet;case rel=>rw[show sep i=[] from if_neg h0,List.append_nil];exact⟨C,HU.o,HC.o,HST.o⟩
   case rest=>
    obtain⟨C2,h2,h3,h4⟩:=hcut;have c10:=Ih.o wc h4;(go_upto_region 7 with fail);refine au w [.r [7] (aH (cm ls i++sep i)),.p (.slice (some ⟨g,o,none⟩) n c),.p (.int .i64 i),.p (.pointer (some ⟨g,o+i,none⟩)),.p (.slice ya x.length yc),.r [0] (aH (cm ls (i+1))),.r [5] (aH (cm ls (i+1))),.r [] (Kp (aH (cm ls i++sep i)) u3)] kr h4 (jf rfl rfl h2 h3) ?_ kr ?_
    ·refine OB.mi 3 ?_;refine OB.p ?_;refine OB.p ?_;refine OB.p ?_;refine OB.p ?_ (fun X hX=>by have c:=Ih.o X hX;go_simp);refine OB.to (congrArg aH HX.o) ?_;refine OB.ap 16 20 HY.o FT.o ?_;refine OB.mv 21 ?_;exact OB.nil
    intro V X f hX hf;have h4:(aH _).r _ X _:=hf 6 kr;simp only[dm,Act.put,List.setIfInBounds_toArray,List.set_cons_zero,List.set_cons_succ,Nat.zero_add];go_wp2_with fail;go_roundg (gk-1);case rel=>exact⟨i+1,_,by go_num,by omega,by omega,h4,(fun q h=>h.1),hX⟩
    case measure=>omega
  ·go_wp2;go_ret;(have:i=ls.length:=by have:=HN.o;omega);subst this;exact⟨_,rfl,HST.o,(aH _).ok.mono (fun q _ h=>HC.o q h) HU.o⟩
structure NJ (R:gI) (j0 d b:Nat) (w0:World) (oF:Value→Obj) (base T:Nat) (v0:Value) (n:Nat) (xs:List Value) (r1:dI ByteArray) (il ic ib ia iz:Nat) (vals:List (Option Value)) (L:Nat→Bool) (V:Nat→Value) (X:World):Prop where
 iD:∀(i:Nat) v,vals[i]?=some (some v)→L i=true→V i=v
 vc:L ic=true→∃s k,r1=.ok s k∧V ic=.string s
 vb:L ib=true→L ia=false→∃s k g,r1=.ok s k∧V ib=.slice (some ⟨g,0,none⟩) 1 1∧w0.heap.size≤g∧X.heap[g]?=some (.cells #[aI s] T (0,0))
 va:L ia=true→∃s k,r1=.ok s k∧X.ownsRow base T 1 (V ia) (n+1) (xs++[.string s])∧((V ia).ownBlock=v0.ownBlock∨∃g,(V ia).ownBlock=some g∧w0.heap.size≤g)
 own:L ia=false→X.ownsRow base T 1 v0 n xs
 rd:∃i,bC R X i d∧cond (L ic) (∃s,r1=.ok s i) (i=j0)
 st:Step (fun q=>q=R.rb∨q=b∨v0.ownBlock=some q) w0 X
 blk:X.heap[b]?=some (oF (cond (L iz) (V ia) v0))
 qb:L ib=true→L ic=true
 qa:L ia=true→L ib=true∧L ic=true
 qz:L iz=true→L ia=true
 ql:L ia=true→L il=true
structure XC (R:gI) (b:Nat) (w0:World) (base:Nat) (v0:Value) (il ic ib ia iz:Nat):Prop where
 ne:ic≠ib∧ic≠ia∧ic≠iz∧ib≠ia∧ib≠iz∧ia≠iz
 nl:il≠ic∧il≠ib∧il≠ia∧il≠iz
 rb:R.rb<b
 bb:b<base
 bw:base≤w0.heap.size
 own:∀q,v0.ownBlock=some q→base≤q∧q<w0.heap.size
section
variable {R : gI} {j0 d b : Nat} {w0 : World} {oF : Value → Obj} {base T : Nat} {v0 : Value} {n : Nat} {xs : List Value} {r1 : dI ByteArray} {il ic ib ia iz : Nat} {vals : List (Option Value)} {L : Nat → Bool} {V : Nat → Value} {X X' : World}
theorem NJ.zero (hs:jg w0 X) (hr:bC R w0 j0 d) (hown:w0.ownsRow base T 1 v0 n xs) (hb:w0.heap[b]?=some (oF v0)):NJ R j0 d b w0 oF base T v0 n xs r1 il ic ib ia iz vals (fun _=>false) V X:=
 ⟨fun _ _ _ h=>(nomatch h),lg,lg,lg,fun _=>hs.owns hown (fun _ _ h=>h),⟨j0,hr.quiet hs,rfl⟩,hs.mono fe,hs.keep hb (fun h=>h),lg,lg,lg,lg⟩
theorem NJ.up (h:NJ R j0 d b w0 oF base T v0 n xs r1 il ic ib ia iz vals L V X) (i:Nat) {v:Value} (hv:vals[i]?=some (some v)) (h1:i≠ic) (h2:i≠ib) (h3:i≠ia) (h4:i≠iz):NJ R j0 d b w0 oF base T v0 n xs r1 il ic ib ia iz vals (dP L i) (gY V i v) X:=by
 refine⟨jb h.iD i v (fun u hu=>by rw[hv]at hu;cases hu;rfl),?_,?_,?_,?_,?_,h.st,?_,?_,?_,?_,?_⟩
 ·rw[aA _ (Ne.symm h1),bV _ _ (Ne.symm h1)];exact h.vc
 ·rw[aA _ (Ne.symm h2),aA _ (Ne.symm h3),bV _ _ (Ne.symm h2)];exact h.vb
 ·rw[aA _ (Ne.symm h3),bV _ _ (Ne.symm h3)];exact h.va
 ·rw[aA _ (Ne.symm h3)];exact h.own
 ·rw[aA _ (Ne.symm h1)];exact h.rd
 ·rw[aA _ (Ne.symm h4),bV _ _ (Ne.symm h3)];exact h.blk
 ·rw[aA _ (Ne.symm h2),aA _ (Ne.symm h1)];exact h.qb
 ·rw[aA _ (Ne.symm h3),aA _ (Ne.symm h2),aA _ (Ne.symm h1)];exact h.qa
 ·rw[aA _ (Ne.symm h4),aA _ (Ne.symm h3)];exact h.qz
 ·rw[aA _ (Ne.symm h3)];intro e;by_cases e2:il=i
  ·rw[e2];exact jK _ _
  ·rw[aA _ e2];exact h.ql e
theorem NJ.dB (h:NJ R j0 d b w0 oF base T v0 n xs r1 il ic ib ia iz vals L V X) (hL:L ic=false):L ib=false:=by
 cases e:L ib with
 |false=>rfl
 |true=>rw[h.qb e]at hL;cases hL
theorem NJ.Qk (h:NJ R j0 d b w0 oF base T v0 n xs r1 il ic ib ia iz vals L V X) (hL:L ib=false):L ia=false:=by
 cases e:L ia with
 |false=>rfl
 |true=>rw[(h.qa e).1]at hL;cases hL
theorem NJ.FV (h:NJ R j0 d b w0 oF base T v0 n xs r1 il ic ib ia iz vals L V X) (hL:L ia=false):L iz=false:=by
 cases e:L iz with
 |false=>rfl
 |true=>rw[h.qz e]at hL;cases hL
theorem NJ.call (ho:XC R b w0 base v0 il ic ib ia iz) (h:NJ R j0 d b w0 oF base T v0 n xs r1 il ic ib ia iz vals L V X) (hL:L ic=false) (kH:vals[ic]?=some none) (hs:Step (·=R.rb) X X') {k:Nat} (hr:bC R X' k d) {s:ByteArray} (hx:r1=.ok s k):NJ R j0 d b w0 oF base T v0 n xs r1 il ic ib ia iz vals (dP L ic) (gY V ic (.string s)) X':=by
 have hB:=h.dB hL;have hA:=h.Qk hB;have hZ:=h.FV hA;obtain⟨n1,n2,n3,n4,n5,n6⟩:=ho.ne;have h1:=ho.rb;have h2:=ho.bb;refine⟨jb h.iD ic _ (fun u hu=>by rw[kH]at hu;cases hu),fun _=>⟨s,k,hx,lI _ _ _⟩,?_,?_,?_,⟨k,hr,by rw[jK];exact⟨s,hx⟩⟩,h.st.trans (hs.mono RG),?_,fun _=>jK _ _,?_,?_,?_⟩
 ·rw[aA _ (Ne.symm n1),hB];intro e;cases e
 ·rw[aA _ (Ne.symm n2),hA];intro e;cases e
 ·intro _;exact hs.owns (h.own hA) oi
 ·have hb:=h.blk;rw[hZ]at hb;rw[aA _ (Ne.symm n3),hZ];exact hs.keep hb om
 ·rw[aA _ (Ne.symm n2),hA];intro e;cases e
 ·rw[aA _ (Ne.symm n3),hZ];intro e;cases e
 ·rw[aA _ (Ne.symm n2),hA];intro e;cases e
theorem NJ.build (ho:XC R b w0 base v0 il ic ib ia iz) (h:NJ R j0 d b w0 oF base T v0 n xs r1 il ic ib ia iz vals L V X) (hL:L ib=false) (hC:L ic=true) (kH:vals[ib]?=some none) {s:ByteArray} (hs:V ic=.string s):NJ R j0 d b w0 oF base T v0 n xs r1 il ic ib ia iz vals (dP L ib) (gY V ib (.slice (some ⟨X.heap.size,0,none⟩) 1 1)) (X.alloc (.cells #[aI s] T)):=by
 have hA:=h.Qk hL;have hZ:=h.FV hA;obtain⟨n1,n2,n3,n4,n5,n6⟩:=ho.ne;have hst:jg X (X.alloc (.cells #[aI s] T)):=bg.alloc _;refine⟨jb h.iD ib _ (fun u hu=>by rw[kH]at hu;cases hu),?_,?_,?_,?_,?_,h.st.alloc _,?_,?_,?_,?_,?_⟩
 ·rw[aA _ n1,bV _ _ n1];exact h.vc
 ·intro _ _;obtain⟨s',k,h1,h2⟩:=h.vc hC;rw[hs]at h2;cases h2;exact⟨s,k,X.heap.size,h1,lI _ _ _,h.st.size,aC _ _⟩
 ·rw[aA _ (Ne.symm n4),hA];intro e;cases e
 ·intro _;exact hst.owns (h.own hA) (fun _ _ h=>h)
 ·rw[aA _ n1];obtain⟨i,h1,h2⟩:=h.rd;exact⟨i,h1.quiet hst,h2⟩
 ·have hb:=h.blk;rw[hZ]at hb;rw[aA _ (Ne.symm n5),hZ];exact hst.keep hb (fun h=>h)
 ·intro _;rw[aA _ n1];exact hC
 ·rw[aA _ (Ne.symm n4),hA];intro e;cases e
 ·rw[aA _ (Ne.symm n5),hZ];intro e;cases e
 ·rw[aA _ (Ne.symm n4),hA];intro e;cases e
theorem NJ.app (ho:XC R b w0 base v0 il ic ib ia iz) (h:NJ R j0 d b w0 oF base T v0 n xs r1 il ic ib ia iz vals L V X) (hL:L ia=false) (hB:L ib=true) (hl:L il=true) (kH:vals[ia]?=some none) {s:ByteArray} {k:Nat} (hx:r1=.ok s k) {v':Value} (hown:X'.ownsRow base T 1 v' (n+1) (xs++[.string s])) (hg:X.grownBy X' v0.ownBlock) (hat:v'.ownBlock=v0.ownBlock∨v'.ownBlock=some X.heap.size):NJ R j0 d b w0 oF base T v0 n xs r1 il ic ib ia iz vals (dP L ia) (gY V ia v') X':=by
 have hZ:=h.FV hL;obtain⟨n1,n2,n3,n4,n5,n6⟩:=ho.ne;have h1:=ho.rb;have h2:=ho.bb;have h3:=iZ hg;have hC:=h.qb hB;refine⟨jb h.iD ia _ (fun u hu=>by rw[kH]at hu;cases hu),?_,?_,?_,?_,?_,h.st.trans (h3.mono (fun _ _ e=>.inr (.inr e))),?_,?_,?_,?_,fun _=>by rw[aA _ ho.nl.2.2.1];exact hl⟩
 ·rw[aA _ n2,bV _ _ n2];exact h.vc
 ·intro _ e;rw[jK]at e;cases e
 ·intro _;rw[lI];refine⟨s,k,hx,hown,?_⟩;rcases hat with e|e
  ·exact .inl e
  ·exact .inr ⟨_,e,h.st.size⟩
 ·intro e;rw[jK]at e;cases e
 ·rw[aA _ n2];obtain⟨i,h4,h5⟩:=h.rd;exact⟨i,h4.step h3 (fun q hq e=>by have:=(ho.own q e).1;omega),h5⟩
 ·have hb:=h.blk;rw[hZ]at hb;rw[aA _ (Ne.symm n6),hZ];exact h3.keep hb (fun e=>by have:=(ho.own _ e).1;omega)
 ·rw[aA _ n4,aA _ n2];exact h.qb
 ·intro _;rw[aA _ n4,aA _ n2];exact⟨hB,hC⟩
 ·rw[aA _ (Ne.symm n6),hZ];intro e;cases e
theorem NJ.put (ho:XC R b w0 base v0 il ic ib ia iz) (h:NJ R j0 d b w0 oF base T v0 n xs r1 il ic ib ia iz vals L V X) (hA:L ia=true) (kH:∀u,vals[iz]?=some (some u)→False) (hs:Step (·=b) X X') (hb:X'.heap[b]?=some (oF (V ia))) (v:Value):NJ R j0 d b w0 oF base T v0 n xs r1 il ic ib ia iz vals (dP L iz) (gY V iz v) X':=by
 obtain⟨n1,n2,n3,n4,n5,n6⟩:=ho.ne;have h1:=ho.rb;have h2:=ho.bb;have h3:=ho.bw;refine⟨jb h.iD iz _ (fun u hu=>(kH u hu).elim),?_,?_,?_,?_,?_,h.st.trans (hs.mono (fun _ _ e=>.inr (.inl e))),?_,?_,?_,?_,?_⟩
 ·rw[aA _ n3,bV _ _ n3];exact h.vc
 ·rw[aA _ n6,hA];intro _ e;cases e
 ·rw[aA _ n6,bV _ _ n6];intro e;obtain⟨s,k,h4,h5,h6⟩:=h.va e;exact⟨s,k,h4,jC h5 hs (fun q hq e=>by have:=(h5.lt q hq).1;omega),h6⟩
 ·rw[aA _ n6,hA];intro e;cases e
 ·rw[aA _ n3];obtain⟨i,h4,h5⟩:=h.rd;exact⟨i,h4.step hs oi,h5⟩
 ·rw[jK,bV _ _ n6];exact hb
 ·rw[aA _ n5,aA _ n3];exact h.qb
 ·rw[aA _ n6,aA _ n5,aA _ n3];exact h.qa
 ·rw[aA _ n6];intro _;exact hA
 ·rw[aA _ n6,aA _ ho.nl.2.2.2];exact h.ql
theorem NJ.done (h:NJ R j0 d b w0 oF base T v0 n xs r1 il ic ib ia iz vals L V X) (hC:L ic=true) (hA:L ia=true) (hZ:L iz=true):∃s k v',r1=.ok s k∧bC R X k d∧X.heap[b]?=some (oF v')∧X.ownsRow base T 1 v' (n+1) (xs++[.string s])∧(v'.ownBlock=v0.ownBlock∨∃g,v'.ownBlock=some g∧w0.heap.size≤g)∧Step (fun q=>q=R.rb∨q=b∨v0.ownBlock=some q) w0 X:=by obtain⟨s,k,h1,h2,h3⟩:=h.va hA;obtain⟨i,h4,h5⟩:=h.rd;rw[hC]at h5;obtain⟨s',h6⟩:∃s,r1=.ok s i:=h5;rw[h1]at h6;cases h6;have hb:=h.blk;rw[hZ]at hb;exact⟨s,k,V ia,h1,h4,hb,h2,h3,h.st⟩
end
structure N2 (T:Nat) (mk:Value→Value→Obj) (R:gI) (w1:World) (b d:Nat) (X:World) (i:Nat) (la lb:List ByteArray) (va vb:Value):Prop where
 rd:bC R X i d
 blk:X.heap[b]?=some (mk va vb)
 oa:X.ownsRow w1.heap.size T 1 va la.length (la.map .string)
 ob:X.ownsRow w1.heap.size T 1 vb lb.length (lb.map .string)
 ne:∀q,va.ownBlock=some q→vb.ownBlock≠some q
 sa:∀s∈la,s.size≤9223372036854775807
 sb:∀s∈lb,s.size≤9223372036854775807
 few:la.length+lb.length≤8
 st:Step (fun q=>q=R.rb∨q=b) w1 X
section
variable {T : Nat} {mk : Value → Value → Obj} {R : gI} {w1 : World} {b d : Nat} {X X' : World} {i j : Nat} {la lb : List ByteArray} {va vb v' : Value}
theorem N2.quiet (h:N2 T mk R w1 b d X i la lb va vb) (hs:jg X X'):N2 T mk R w1 b d X' i la lb va vb:=
 ⟨h.rd.quiet hs,hs.keep h.blk (fun h=>h),hs.owns h.oa (fun _ _ h=>h),hs.owns h.ob (fun _ _ h=>h),h.ne,h.sa,h.sb,h.few,h.st.trans (hs.mono fe)⟩
theorem N2.read (h:N2 T mk R w1 b d X i la lb va vb) (hb:R.rb<b) (hw:R.rb<w1.heap.size) (hr:bC R X' j d) (hs:Step (·=R.rb) X X'):N2 T mk R w1 b d X' j la lb va vb:=
 ⟨hr,hs.keep h.blk om,hs.owns h.oa oi,hs.owns h.ob oi,h.ne,h.sa,h.sb,h.few,h.st.trans (hs.mono RG)⟩
theorem N2.err (h:N2 T mk R w1 b d X i la lb va vb) (hs:Step (·=R.rb) X X'):Step (fun q=>q=R.rb∨q=b) w1 X':=h.st.trans (hs.mono RG)
theorem N2.LY (h:N2 T mk R w1 b d X i la lb va vb) (hb:R.rb<b) (hw:b<w1.heap.size) {s:ByteArray} (hr:bC R X' j d) (hk:X'.heap[b]?=some (mk v' vb)) (hown:X'.ownsRow w1.heap.size T 1 v' (la.length+1) (la.map .string++[.string s])) (hat:v'.ownBlock=va.ownBlock∨∃g,v'.ownBlock=some g∧X.heap.size≤g) (hs:Step (fun q=>q=R.rb∨q=b∨va.ownBlock=some q) X X') (hz:s.size≤9223372036854775807) (hlt:la.length+lb.length<8):N2 T mk R w1 b d X' j (la++[s]) lb v' vb:=by
 have hlen:(la++[s]).length=la.length+1:=by simp
 refine⟨hr,hk,by rw[hlen,List.map_append];exact hown,jC h.ob hs (fun q hq e=> ?_),fun q hq e=> ?_,?_,h.sb,by rw[hlen];omega,h.st.then hs (fun q hq e=> ?_)⟩
 ·have h1:=(h.ob.lt q hq).1;rcases e with e|e|e
  ·omega
  ·omega
  ·exact h.ne q e hq
 ·rcases hat with e2|⟨g,e2,e3⟩
  ·exact h.ne q (by rw[←e2];exact hq) e
  ·rw[e2]at hq;cases hq;have:=(h.ob.lt _ e).2;omega
 ·intro x hx;rcases List.mem_append.1 hx with hx|hx
  ·exact h.sa x hx
  ·rw[List.mem_singleton.1 hx];exact hz
 ·rcases e with e|e|e
  ·exact .inl e
  ·exact .inr e
  ·have:=(h.oa.lt q e).1;omega
theorem N2.pushB (h:N2 T mk R w1 b d X i la lb va vb) (hb:R.rb<b) (hw:b<w1.heap.size) {s:ByteArray} (hr:bC R X' j d) (hk:X'.heap[b]?=some (mk va v')) (hown:X'.ownsRow w1.heap.size T 1 v' (lb.length+1) (lb.map .string++[.string s])) (hat:v'.ownBlock=vb.ownBlock∨∃g,v'.ownBlock=some g∧X.heap.size≤g) (hs:Step (fun q=>q=R.rb∨q=b∨vb.ownBlock=some q) X X') (hz:s.size≤9223372036854775807) (hlt:la.length+lb.length<8):N2 T mk R w1 b d X' j la (lb++[s]) va v':=by
 have hlen:(lb++[s]).length=lb.length+1:=by simp
 refine⟨hr,hk,jC h.oa hs (fun q hq e=> ?_),by rw[hlen,List.map_append];exact hown,fun q hq e=> ?_,h.sa,?_,by rw[hlen];omega,h.st.then hs (fun q hq e=> ?_)⟩
 ·have h1:=(h.oa.lt q hq).1;rcases e with e|e|e
  ·omega
  ·omega
  ·exact h.ne q hq e
 ·rcases hat with e2|⟨g,e2,e3⟩
  ·exact h.ne q hq (by rw[←e2];exact e)
  ·rw[e2]at e;cases e;have:=(h.oa.lt _ hq).2;omega
 ·intro x hx;rcases List.mem_append.1 hx with hx|hx
  ·exact h.sb x hx
  ·rw[List.mem_singleton.1 hx];exact hz
 ·rcases e with e|e|e
  ·exact .inl e
  ·exact .inr e
  ·have:=(h.ob.lt q e).1;omega
theorem N2.names (h:N2 T mk R w1 b d X i la lb va vb):fB X (fun q=>w1.heap.size≤q) la va∧fB X (fun q=>w1.heap.size≤q) lb vb:=
 ⟨⟨h.sa,dh.jd h.oa (fun q hq=>(h.oa.lt q hq).1)⟩,⟨h.sb,dh.jd h.ob (fun q hq=>(h.ob.lt q hq).1)⟩⟩
end
end Go.Proofs.YtggjfinekcenpaaGreat
