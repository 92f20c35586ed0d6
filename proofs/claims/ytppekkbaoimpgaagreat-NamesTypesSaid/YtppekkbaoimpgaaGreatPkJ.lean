/- Pos, Ind, Pi, Nmd, Nj, Gen, Aj -/
import Derived.Test.YtppekkbaoimpgaaGreatPkI
import Derived.Maps.OwnSet
set_option maxRecDepth 100000
set_option maxHeartbeats 8000000
namespace Go.Proofs.YtppekkbaoimpgaaGreat
open Go.RowKit
theorem ilQ {p:Prop} (h:p:=by exact fun _ _ e=>.inl e):p:=h
open Vt
theorem SV (w:World) (base t size:Nat) (cs:List Value) (h:cs.length=size) (hb:base≤w.heap.size):(w.alloc (.cells cs.toArray t)).ownsRow base t size (.slice (some ⟨w.heap.size,0,none⟩) 1 1) 1 cs:=
 ⟨by omega,.inr ⟨w.heap.size,1,cs.toArray,rfl,hb,aA _ _,Nat.le_refl _,by unfold maxLen;omega,by simp[h],by simp[←h]⟩⟩
theorem FT:∀(f:Nat) (l:List Tok) (i d:Nat) (acc al:List Ex) (k:Nat),pV f l i d acc=.ok al k→al.length≤8
 |0,l,i,d,acc,al,k,h=>by rw[pV]at h;cases h
 |f+1,l,i,d,acc,al,k,h=>by
  rw[pV]at h
  by_cases h8:8≤acc.length
  ·
   rw[d_,if_pos h8]at h;cases h
  ·
   rw[d_,if_neg h8,dO.bind_ok]at h
   cases hx:bf f l i d 0 with
   |out=>rw[hx]at h;cases h
   |err c ln col=>rw[hx]at h;cases h
   |ok x j=>
    rw[hx,dO.bind_ok]at h
    split at h
    ·
     exact FT f l (j+1) d _ al k h
    ·
     cases hn:aH l j [41]with
     |out=>rw[hn]at h;cases h
     |err c ln col=>rw[hn]at h;cases h
     |ok u j2=>rw[hn,dO.bind_ok]at h;cases h;simp;omega
theorem O6 (f:Nat) (l:List Tok) (i d:Nat) (al:List Ex) (k:Nat) (h:kX f l i d=.ok al k):al.length≤8:=by
 cases f with
 |zero=>rw[kX]at h;cases h
 |succ f=>
  rw[kX]at h;split at h
  ·cases h;simp
  ·exact FT f l i d [] al k h
structure PoJ (R:fV) (j1 d bx bp bq:Nat) (w6:World) (nm:ByteArray) (tl tc:Int) (xc:List Value) (x:Ex) (PX:Nat→Prop) (r1:dO (List Ex)) (L:Nat→Bool) (V:Nat→Value) (X:World):Prop where
 p0:L 0=true→V 0=.string nm
 p1:L 1=true→V 1=.agg xc.toArray
 p2:L 2=true→L 5=false→True∧X.ownsRow w6.heap.size 56 9 (V 2) 1 xc
 p3:L 3=true→V 3=.agg #[dY R.rb 0]
 p4:L 4=true→L 5=false→∃l k xs,r1=.ok l k∧di X (fun q=>w6.heap.size≤q) (V 4) l.length xs∧dG X (fun q=>w6.heap.size≤q∧(L 2=true→(V 2).ownBlock≠some q)) l xs
 p5:L 5=true→∃l k c a,r1=.ok l k∧V 5=.slice a (1+l.length) c∧iw X PX (x::l) (V 5)
 p6:L 6=true→V 6=.agg #[ah tl,ah tc]
 p7:L 7=true→V 7=.agg #[ah 13,aY nm,bK 0,aO,V 5,au,au,ah tl,ah tc]
 rd:∃i,bC R X i d∧cond (L 4) (∃l,r1=.ok l i) (i=j1)
 st:Step (fun q=>q=R.rb∨q=bx) w6 X
 x0:L 8=false→X.heap[bx]?=some (.cells xc.toArray 56 (0,0))
 x1:L 8=true→X.heap[bx]?=some (.cells #[ah 13,aY nm,bK 0,aO,V 5,au,au,ah tl,ah tc] 56 (0,0))
 IC:X.cell? ⟨bp,0,none⟩=some (.pointer (some ⟨R.rb,0,none⟩))
 EL:X.heap[bq]?=some (.cells #[ah tl,ah tc] 25 (0,0))
 ex:dW X (fun q=>PX q∧q<w6.heap.size) x xc
 q2:L 2=true→L 1=true
 q5:L 5=true→L 2=true∧L 4=true
 q7:L 7=true→L 0=true∧L 5=true∧L 6=true
 q8:L 8=true→L 1=true∧L 7=true
theorem O7 (f:Nat) (ihP:KN f) (ihI:∀f',f'<f→Dk f'):GK (f+1):=by
 intro R w i d hl h hd hno;have HL:=ak hl;have H0:=ak h;have IHP:=ak ihP;have IHI:=ak ihI;obtain⟨r,hr⟩:=aU (uX (f+1) R.l i d);have HRR:Hid (r=(uD f R.l i d).bind fun x j=>lN f R.l j d x):=by show _=_;rw[hr,uX]
 rw[←hr]at hno⊢;have eH:=ak hno;have pY:=aI h.blk;obtain⟨i0,hi0,hz0,hz1,hz2⟩:=info_parts Tryz.Dl;have HI:=ak hi0;have HZ0:=ak hz0;have HZ1:=ak hz1;have HZ2:=ak hz2;obtain⟨w1,hw1⟩:=aU ((w.alloc (.cells #[dY R.rb 0] 97)).alloc (.cells #[ah 0,bP,bK 0,aO,au,au,au,ah 0,ah 0] 56));have cZ:Hid (Step (fun _=>False) w w1):=by show Step _ _ _;rw[hw1];exact(bJ.alloc _).alloc _
 have jL:Hid (w1.heap[w.heap.size]?=some (.cells #[dY R.rb 0] 97 (0,0))):=by show _=_;rw[hw1];exact aN (aA _ _)
 have jW:Hid (w1.heap[w.heap.size+1]?=some (.cells #[ah 0,bP,bK 0,aO,au,au,au,ah 0,ah 0] 56 (0,0))):=by show _=_;rw[hw1];exact dX _ _ _
 have HW1:=ak hw1;have H1:=ak (h.quiet cZ.o);have hn1:=aI jW.o;have p0:w1.cell? ⟨w.heap.size,0,none⟩=some (.pointer (some ⟨R.rb,0,none⟩)):=aj jL.o 0 _ rfl;clear ihP ihI hl h hno hr hw1 hi0 hz0 hz1 hz2;go_enter Tryz.func197,Tryz.ntmps197;go_upto_region 1 with fail
 rw[←HW1.o];go_wp2_with fail;refine(IHP.o R w1 i d HL.o H1.o hd (fun e=>eH.o (by rw[HRR.o,e];rfl))).mono ?_;rintro e wx hp;have hp2:aJ R d (J8 w1.heap.size) (uD f R.l i d) _ e wx:=hp;cases hx:uD f R.l i d with
 |out=>exact absurd (by rw[HRR.o,hx];rfl) eH.o
 |err c ln col=>rw[hx]at hp2;obtain⟨rfl,sq⟩:=hp2;exact⟨rfl,aJ.aX (c:=c) (ln:=ln) (col:=col) (by rw[HRR.o,hx];rfl) rfl ((cZ.o.mono fe).trans sq)⟩
 |ok x jx=>
  have HX:=ak hx;rw[hx]at hp2;obtain⟨⟨v,rfl,cs,rfl,hy⟩,hrx,hsx⟩:=hp2;have HY:=ak hy;obtain⟨k0,gX,v0,gY,a1,n1,c1,a2,n2,c2,a3,n3,c3,l0,c0,rfl⟩:=hy.parts;have u_:=ak hrx;have pF:Hid (Step (·=R.rb) w1 wx):=hsx;have HR3:Hid (r=lN f R.l jx d x):=by show _=_;rw[HRR.o,HX.o];rfl
  have hzx:=hsx.size;obtain⟨w3,hw3⟩:=aU (wx.alloc (.cells #[ah k0,aY gX,bK v0,dV gY,.slice a1 n1 c1,.slice a2 n2 c2,.slice a3 n3 c3,ah l0,ah c0] 56));have eX:Hid (Step (fun _=>False) wx w3):=by show Step _ _ _;rw[hw3];exact bJ.alloc _
  have HB3:Hid (w3.heap[wx.heap.size]?=some (.cells #[ah k0,aY gX,bK v0,dV gY,.slice a1 n1 c1,.slice a2 n2 c2,.slice a3 n3 c3,ah l0,ah c0] 56 (0,0))):=by show _=_;rw[hw3];exact aA _ _
  have nN:Hid (Step (·=R.rb) w1 w3):=pF.o.trans (eX.o.mono fe);have HW3:=ak hw3;clear hx hp hy hrx hsx p0 hw3;have hxb:=aI HB3.o;have hz3:=eX.o.size;have Y5:Hid (dW w3 (fun q=>w1.heap.size≤q∧q≠wx.heap.size) x [.int .i64 k0,.string gX,.int .u64 v0,.bool gY,.slice a1 n1 c1,.slice a2 n2 c2,.slice a3 n3 c3,.int .i64 l0,.int .i64 c0]):=dW.step eX.o (fun _ _ h=>h) _ _ (dW.mono (fun q hq hh=>⟨by omega,by omega⟩) _ _ HY.o);have Ri:Hid (yT R w1 w3 wx.heap.size d w3 jx x [.int .i64 k0,.string gX,.int .u64 v0,.bool gY,.slice a1 n1 c1,.slice a2 n2 c2,.slice a3 n3 c3,.int .i64 l0,.int .i64 c0]):=⟨u_.o.quiet eX.o,HB3.o,Y5.o,Step.refl _ _⟩;go_upto_block 0 with fail
  rw[←HW3.o];obtain⟨bx,hbx⟩:=aU wx.heap.size;rw[←hbx]at Ri hxb⊢;have hbx1:w1.heap.size≤bx:=by omega
  have wH:=ak (nN.o.keep jL.o om);have qR:=ak (nN.o.keep jW.o om);have EM:Hid (∀X:World,Step (fun q=>q=R.rb∨q=bx) w3 X→X.cell? ⟨w.heap.size,0,none⟩=some (.pointer (some ⟨R.rb,0,none⟩))∧X.heap[w.heap.size+1]?=some (.cells #[ah 0,bP,bK 0,aO,au,au,au,ah 0,ah 0] 56 (0,0))):=by show∀X,_;intro X hX;exact⟨aj (hX.keep wH.o om) 0 _ rfl,hX.keep qR.o om⟩
  have Ac:Hid (Step (·=R.rb) w w3):=(cZ.o.mono fe).trans nN.o;have f_:Hid (∀X:World,Step (fun q=>q=R.rb∨q=bx) w3 X→Step (·=R.rb) w X):=by show∀X,_;intro X hX;exact Ac.o.then hX oi
  clear hbx;go_wp2_with fail;go_loopg [5] f (fun gg s5 wr=>gg≤f∧∃(i':Nat) (x:Ex) (cs:List Value),r=lN gg R.l i' d x∧yT R w1 w3 bx d wr i' x cs);case atStart=>exact⟨Nat.le_refl _,jx,x,_,HR3.o,Ri.o⟩
  case round=>
   obtain⟨hgf,i',x,cs,hrq,hst⟩:=hrel;obtain⟨gn,rfl⟩:∃gn,gk=gn+1:=by
    cases gk with
    |zero=>exact absurd hrq (by rw[lN];exact eH.o)
    |succ gn=>exact⟨gn,rfl⟩
   obtain⟨k0,gX,v0,gY,a1,n1,c1,a2,n2,c2,a3,n3,c3,l0,c0,rfl⟩:=hst.ex.parts;have HST:=ak hst;obtain⟨p0,-⟩:=EM.o wr hst.st;obtain⟨tk,htk⟩:=aU (tokA R.l i');(have Y1:Hid (r=if bD R.l i' [46]then(aS R.l (i'+1)).bind fun n j=>if bD R.l j [40]then(kX gn R.l (j+1) d).bind fun al j=>lN gn R.l j d (bZ 13 n 0 false (x::al) [] [] tk)else lN gn R.l j d (bZ 6 n 0 false [x] [] [] tk)else .ok x i'):=by show _=_;rw[hrq,lN,htk]);have HAT:=ak (at_at R wr i' d tk hst.rd (by rw[htk];exact hst.rd.tok));clear hrq hst htk;(go_upto_region 2 with fail);go_wp2_with fail;refine HAT.o.mono ?_;rintro e w4 ⟨rfl,h4⟩;have eP:=ak (HST.o.quiet h4);obtain⟨w5,hw5⟩:=aU (w4.alloc (.cells #[ah tk.line,ah tk.col] 25));(have oQ:Hid (Step (fun _=>False) w4 w5):=by show Step _ _ _;rw[hw5];exact bJ.alloc _);(have HQ5:Hid (w5.heap[w4.heap.size]?=some (.cells #[ah tk.line,ah tk.col] 25 (0,0))):=by show _=_;rw[hw5];exact aA _ _);have kY:=ak (eP.o.quiet oQ.o);have hz4:=eP.o.st.size;have hz5:=oQ.o.size;have HW5:=ak hw5;clear h4 hw5 p0;obtain⟨p0,-⟩:=EM.o w5 kY.o.st;(go_upto_region 3 with fail);rw[←HW5.o];go_wp2_with fail;cases hb:bD R.l i' [46]with
   |false=>
    have HB:=ak hb;clear hb;refine(dJ R HL.o ⟨#[46]⟩ _ i' d kY.o.rd dc HB.o).mono ?_;rintro e w6 ⟨rfl,n_,h6⟩;have eU:=ak (kY.o.read om om n_ h6);(have ng:Hid (r=.ok x i'):=by show _=_;rw[Y1.o,HB.o,if_neg dc]);have dS:=ak eU.o.ex.one;(have iH:Hid (∀(jj:Nat) v,[Value.int .i64 k0,aY gX,bK v0,dV gY,.slice a1 n1 c1,.slice a2 n2 c2,.slice a3 n3 c3,ah l0,ah c0][jj]?=some v→w6.cell? ⟨bx,0+jj,none⟩=some v):=by show∀jj v,_;intro jj v hv;rw[Nat.zero_add];exact aj eU.o.blk jj v oJ);have nU:=ak (EM.o w6 eU.o.st).2;clear n_ h6 p0;go_wp2_with (first
     |(refine ay rfl 56 (.tmp 3) rfl bx 0 rfl [.int .i64 k0,.string gX,.int .u64 v0,.bool gY,.slice a1 n1 c1,.slice a2 n2 c2,.slice a3 n3 c3,.int .i64 l0,.int .i64 c0] _ iH.o Tryz.underlying56 rfl Tryz.aQ ?_)
     |(refine aC (w:=w6) rfl 56 (.tmp 2) (.tmp 15) rfl (w.heap.size+1) 0 56 _ [.int .i64 k0,.string gX,.int .u64 v0,.bool gY,.slice a1 n1 c1,.slice a2 n2 c2,.slice a3 n3 c3,.int .i64 l0,.int .i64 c0] rfl rfl nU.o Tryz.aQ (Nat.le_of_eq rfl) dS.o ?_;intro w7 hb7 xQ))
    have Y6:w7.heap[w.heap.size+1]?=some (.cells [Value.int .i64 k0,aY gX,bK v0,dV gY,.slice a1 n1 c1,.slice a2 n2 c2,.slice a3 n3 c3,ah l0,ah c0].toArray 56 (0,0)):=hb7;refine bodyPost_ret (aW rfl _ (w.heap.size+1) 56 _ _ rfl Y6 Tryz.underlying56 rfl Tryz.aQ) rfl ?_;have hz1:=cZ.o.size;refine aJ.dK ng.o rfl ⟨_,rfl,dW.mono (fun q _ hq=>by have:=hq.1;omega) _ _ (dW.step xQ (fun q hq e=>by have:=hq.1;omega) _ _ eU.o.ex)⟩ (eU.o.rd.step xQ oi) ?_;exact(f_.o _ eU.o.st).then xQ oi
   |true=>
    have HB:=ak hb;clear hb;refine(cO R HL.o ⟨#[46]⟩ _ i' d kY.o.rd dc HB.o).mono ?_;rintro e w6 ⟨rfl,n_,h6⟩;have eU:=ak (kY.o.read om om n_ h6);have HQ6:=ak (h6.keep HQ5.o om);(have wX:Hid (r=(aS R.l (i'+1)).bind fun n j=>if bD R.l j [40]then(kX gn R.l (j+1) d).bind fun al j=>lN gn R.l j d (bZ 13 n 0 false (x::al) [] [] tk)else lN gn R.l j d (bZ 6 n 0 false [x] [] [] tk)):=by show _=_;rw[Y1.o,HB.o,if_pos rfl]);clear n_ h6 p0;obtain⟨p0,-⟩:=EM.o w6 eU.o.st;go_wp2_with fail;refine(name_any R HL.o _ (i'+1) d eU.o.rd).mono ?_;rintro e w7 hp;have hp2:aJ R d EC (aS R.l (i'+1)) _ e w7:=hp;cases hn:aS R.l (i'+1)with
    |out=>exact(iF hn).elim
    |err c ln col=>rw[hn]at hp2;obtain⟨rfl,hs⟩:=hp2;exact⟨rfl,aJ.aX (c:=c) (ln:=ln) (col:=col) (by rw[wX.o,hn];rfl) rfl (f_.o _ (eU.o.st.trans (hs.mono ilQ)))⟩
    |ok nm j=>
     have HN:=ak hn;have OJ:=ak (fC HL.o eU.o.rd.lt hn);rw[hn]at hp2;obtain⟨⟨v,rfl,rfl⟩,hr,hs⟩:=hp2;have qh:=ak (eU.o.read om om hr hs);have HQ7:=ak (hs.keep HQ6.o om);(have rM:Hid (r=if bD R.l j [40]then(kX gn R.l (j+1) d).bind fun al j=>lN gn R.l j d (bZ 13 nm 0 false (x::al) [] [] tk)else lN gn R.l j d (bZ 6 nm 0 false [x] [] [] tk)):=by show _=_;rw[wX.o,HN.o];rfl);clear hn hr hs hp p0;obtain⟨p0,-⟩:=EM.o w7 qh.o.st;go_wp2_with fail;cases hb:bD R.l j [40]with
     |false=>
      have HC:=ak hb;clear hb;refine(dJ R HL.o ⟨#[40]⟩ _ j d qh.o.rd dc HC.o).mono ?_;rintro e w8 ⟨rfl,tJ,h8⟩;have jk:=ak (qh.o.read om om tJ h8);have HQ8:=ak (h8.keep HQ7.o om);(have ng:Hid (r=lN gn R.l j d (bZ 6 nm 0 false [x] [] [] tk)):=by show _=_;rw[rM.o,HC.o,if_neg dc]);(have iH:Hid (∀(jj:Nat) v,[Value.int .i64 k0,aY gX,bK v0,dV gY,.slice a1 n1 c1,.slice a2 n2 c2,.slice a3 n3 c3,ah l0,ah c0][jj]?=some v→w8.cell? ⟨bx,0+jj,none⟩=some v):=by show∀jj v,_;intro jj v hv;rw[Nat.zero_add];exact aj jk.o.blk jj v oJ);obtain⟨w9,Rw⟩:=aU (w8.alloc (.cells #[ah k0,aY gX,bK v0,dV gY,.slice a1 n1 c1,.slice a2 n2 c2,.slice a3 n3 c3,ah l0,ah c0] 56));(have Vr:Hid (Step (fun _=>False) w8 w9):=by show Step _ _ _;rw[Rw];exact bJ.alloc _);(have HG9:Hid (w9.heap[w8.heap.size]?=some (.cells #[ah k0,aY gX,bK v0,dV gY,.slice a1 n1 c1,.slice a2 n2 c2,.slice a3 n3 c3,ah l0,ah c0] 56 (0,0))):=by show _=_;rw[Rw];exact aA _ _);have iD:=ak (jk.o.quiet Vr.o);have Vy:Hid (w8.alloc (.cells #[ah k0,aY gX,bK v0,dV gY,.slice a1 n1 c1,.slice a2 n2 c2,.slice a3 n3 c3,ah l0,ah c0] 56)=w9):=Rw.symm;have hq:=Vr.o.keep HQ8.o (fun h=>h);have q0:=aj hq 0 _ rfl;have q1:=aj hq 1 _ rfl;rw[Rw]at q0 q1;have DL:Hid (∀u∈[Value.int .i64 6,aY nm,bK 0,aO,.slice (some ⟨w8.heap.size,0,none⟩) 1 1,au,au,ah tk.line,ah tk.col],u.oneCell'=true):=aP rfl;have hg9:=aI HG9.o;have hz8:=jk.o.st.size;clear tJ h8 p0 Rw hq;go_wp2_with (first
       |(refine ay rfl 56 (.tmp 3) rfl bx 0 rfl [.int .i64 k0,.string gX,.int .u64 v0,.bool gY,.slice a1 n1 c1,.slice a2 n2 c2,.slice a3 n3 c3,.int .i64 l0,.int .i64 c0] _ iH.o Tryz.underlying56 rfl Tryz.aQ ?_)
       |(rw[Vy.o];refine aC (w:=w9) rfl 56 (.tmp 3) (.tmp 27) rfl bx 0 56 _ [.int .i64 6,.string nm,.int .u64 0,.bool false,.slice (some ⟨w8.heap.size,0,none⟩) 1 1,.slice none 0 0,.slice none 0 0,.int .i64 tk.line,.int .i64 tk.col] rfl rfl iD.o.blk Tryz.aQ (Nat.le_of_eq rfl) DL.o ?_;intro wa hba hsa))
      have hba':wa.heap[bx]?=some (.cells [Value.int .i64 6,aY nm,bK 0,aO,.slice (some ⟨w8.heap.size,0,none⟩) 1 1,au,au,ah tk.line,ah tk.col].toArray 56 (0,0)):=hba;(have kK:Hid (yT R w1 w3 bx d wa j (bZ 6 nm 0 false [x] [] [] tk) [.int .i64 6,.string nm,.int .u64 0,.bool false,.slice (some ⟨w8.heap.size,0,none⟩) 1 1,.slice none 0 0,.slice none 0 0,.int .i64 tk.line,.int .i64 tk.col]):=by refine⟨iD.o.rd.step hsa oi,hba',?_,iD.o.st.trans (hsa.mono ir)⟩;exact xR.mk OJ.o (iw.single (dW.step hsa (fun q hq e=>hq.2 e) _ _ iD.o.ex) (hsa.keep HG9.o om) ⟨by omega,by omega⟩) (cu.nil _ _) (gy.nil _ _));clear hba hba' hsa q0 q1;(try go_wp2_with fail);go_roundg gn;case rel=>exact⟨by omega,j,_,_,ng.o,kK.o⟩
      case measure=>omega
     |true=>
      have HC:=ak hb;clear hb;refine(cO R HL.o ⟨#[40]⟩ _ j d qh.o.rd dc HC.o).mono ?_;rintro e w8 ⟨rfl,tJ,h8⟩;have jk:=ak (qh.o.read om om tJ h8);have HQ8:=ak (h8.keep HQ7.o om);(have ng:Hid (r=(kX gn R.l (j+1) d).bind fun al j=>lN gn R.l j d (bZ 13 nm 0 false (x::al) [] [] tk)):=by show _=_;rw[rM.o,HC.o,if_pos rfl]);obtain⟨p0,-⟩:=EM.o w8 jk.o.st;have hz8:=jk.o.st.size;have hqlt:=aI HQ8.o;have hblt:=aI jk.o.blk;obtain⟨r1,hr1⟩:=aU (kX gn R.l (j+1) d);have HR1:=ak hr1;(have ZC:Hid (r=r1.bind fun al j=>lN gn R.l j d (bZ 13 nm 0 false (x::al) [] [] tk)):=by show _=_;rw[ng.o,hr1]);(have vG:Hid (r1≠.out):=by show _≠_;intro e;exact eH.o (by rw[ZC.o,e];rfl));(have HFEW:Hid (∀l k,r1=.ok l k→l.length≤8):=by show∀l k,_;intro l k e;exact O6 gn R.l (j+1) d l k (by rw[←HR1.o];exact e));(have vC:Hid (∀X,bC R X (j+1) d→Calls Tryz.prog 212 #[.agg #[dY R.rb 0]] X (aJ R d (OA X.heap.size) r1 X)):=by show∀X,_;intro X hX;rw[HR1.o];exact IHI.o gn om R X (j+1) d HL.o hX hd (by rw[←HR1.o];exact vG.o));obtain⟨PX,hPX⟩:∃PX:Nat→Prop,PX=fun q=>w1.heap.size≤q∧q≠bx:=⟨_,rfl⟩;have IB:=ak hPX;(have HPX6:Hid (∀q,w8.heap.size≤q→PX q):=by show∀q,_;intro q hq;rw[hPX];exact⟨by omega,by omega⟩);(have HPB:Hid (∀q,PX q→q≠R.rb∧q≠bx):=by show∀q,_;intro q hq;rw[hPX]at hq;exact⟨by have:=hq.1;omega,hq.2⟩);obtain⟨Jx,hJx⟩:=aU (PoJ R (j+1) d bx w.heap.size w4.heap.size w8 nm tk.line tk.col [.int .i64 k0,.string gX,.int .u64 v0,.bool gY,.slice a1 n1 c1,.slice a2 n2 c2,.slice a3 n3 c3,.int .i64 l0,.int .i64 c0] x PX r1);have dL:=ak hJx;(have HZ8:Hid (∀V,Jx (fun _=>false) V w8.drew):=by show∀V,_;intro V;have hs:Step (fun _=>False) w8 w8.drew:=bJ.drew;rw[hJx];exact⟨gJ,gJ,gJ,gJ,gJ,gJ,gJ,gJ,⟨_,jk.o.rd.quiet hs,rfl⟩,hs.mono fe,fun _=>hs.keep jk.o.blk (fun h=>h),gJ,hs.cell p0 (fun h=>h),hs.keep HQ8.o (fun h=>h),dW.step hs (fun _ _ h=>h) _ _ (dW.mono (fun q h7 h8=>⟨by rw[hPX];exact h8,h7⟩) _ _ jk.o.ex),gJ,gJ,gJ,gJ⟩);clear tJ h8 p0 hJx hPX hr1;(go_upto_region 8 with fail);refine bH kr Jx 9 rfl kr kr kr kr ?h0 ?hs ?hdone;case h0=>exact HZ8.o _
      case hs=>
       refine⟨?_,?_,?_,?_,?_,?_,?_,?_,?_,trivial⟩
       all_goals (intro L V X a ev dn hdf hL ax hJ;rw[dL.o]at hJ)
       ·have o5:=dn 5 rfl;change a.tmps[5]?.getD undef=.string nm at o5;have h7:L 7=false:=by
         cases e:L 7 with
         |false=>rfl
         |true=>exact absurd ((hJ.q7 e).1) (by rw[hL];decide)
        have h8:L 8=false:=by
         cases e:L 8 with
         |false=>rfl
         |true=>exact absurd ((hJ.q8 e).2) (by rw[h7];decide)
        go_simp;exact⟨_,rfl,by rw[dL.o];exact{hJ with p0:=fun _=>rfl,q7:=fun e=>absurd (show L 7=true from e) (by rw[h7];decide)}⟩
       ·have o3:=dn 3 rfl;change a.tmps[3]?.getD undef=.pointer (some ⟨bx,0,none⟩)at o3;have h2:L 2=false:=by
         cases e:L 2 with
         |false=>rfl
         |true=>exact absurd (hJ.q2 e) (by rw[hL];decide)
        have h8:L 8=false:=by
         cases e:L 8 with
         |false=>rfl
         |true=>exact absurd (hJ.q8 e).1 (by rw[hL];decide)
        have hb:=hJ.x0 h8;refine wp_load_mid 56 (.tmp 3) rfl bx 0 (by rw[bF];exact o3) [.int .i64 k0,.string gX,.int .u64 v0,.bool gY,.slice a1 n1 c1,.slice a2 n2 c2,.slice a3 n3 c3,.int .i64 l0,.int .i64 c0] _ (fun jj v hv=>by rw[Nat.zero_add];exact aj hb jj v oJ) Tryz.underlying56 rfl Tryz.aQ ?_;exact⟨_,rfl,by rw[dL.o];exact{hJ with p1:=fun _=>rfl,q2:=fun e=>absurd (show L 2=true from e) (by rw[h2];decide),q8:=fun e=>absurd (show L 8=true from e) (by rw[h8];decide)}⟩
       ·have e29:=(ev 1 29 rfl (ax 1 rfl)).trans (hJ.p1 (ax 1 rfl));have h5:L 5=false:=by
         cases e:L 5 with
         |false=>rfl
         |true=>exact absurd (hJ.q5 e).1 (by rw[hL];decide)
        have hs:Step (fun _=>False) X (X.alloc (.cells #[ah k0,aY gX,bK v0,dV gY,.slice a1 n1 c1,.slice a2 n2 c2,.slice a3 n3 c3,ah l0,ah c0] 56)):=bJ.alloc _;have h48:=hJ.st.size;go_simp;refine⟨_,rfl,?_⟩;rw[dL.o];refine{hJ with p2:=fun _ _=>⟨trivial,SV X w8.heap.size 56 9 [.int .i64 k0,.string gX,.int .u64 v0,.bool gY,.slice a1 n1 c1,.slice a2 n2 c2,.slice a3 n3 c3,.int .i64 l0,.int .i64 c0] rfl h48⟩,p4:=fun e e2=> ?_,p5:=fun e=>absurd (show L 5=true from e) (by rw[h5];decide),rd:= ?_,st:=hJ.st.alloc _,x0:=fun e=>hs.keep (hJ.x0 e) (fun h=>h),x1:=fun e=>hs.keep (hJ.x1 e) (fun h=>h),IC:=hs.cell hJ.IC (fun h=>h),EL:=hs.keep hJ.EL (fun h=>h),ex:=dW.step hs (fun _ _ h=>h) _ _ hJ.ex,q2:=fun _=>ax 1 rfl,q5:=fun e=>absurd (show L 5=true from e) (by rw[h5];decide)}
        ·obtain⟨l,k,xs,y1,y2,y3⟩:=hJ.p4 e e2;refine⟨l,k,xs,y1,y2.step hs (fun _ _ h=>h),dG.step hs (fun _ _ h=>h) _ _ (dG.mono (fun q h7 h8=>⟨h8.1,fun _ e=> ?_⟩) _ _ y3)⟩;have e3:X.heap.size=q:=Option.some.inj e;omega
        ·obtain⟨i9,y1,y2⟩:=hJ.rd;exact⟨i9,y1.quiet hs,y2⟩
       ·have o1:=dn 1 rfl;change a.tmps[1]?.getD undef=.pointer (some ⟨w.heap.size,0,none⟩)at o1;have p9:=hJ.IC;go_simp;exact⟨_,rfl,by rw[dL.o];exact{hJ with p3:=fun _=>rfl}⟩
       ·have e31:=(ev 3 31 rfl (ax 3 rfl)).trans (hJ.p3 (ax 3 rfl));have h5:L 5=false:=by
         cases e:L 5 with
         |false=>rfl
         |true=>exact absurd (hJ.q5 e).2 (by rw[hL];decide)
        have h7:L 7=false:=by
         cases e:L 7 with
         |false=>rfl
         |true=>exact absurd (hJ.q7 e).2.1 (by rw[h5];decide)
        have h8:L 8=false:=by
         cases e:L 8 with
         |false=>rfl
         |true=>exact absurd (hJ.q8 e).2 (by rw[h7];decide)
        obtain⟨i9,y1,y2⟩:=hJ.rd;rw[hL]at y2;have y3:i9=j+1:=y2;subst y3;have hsz:=hJ.st.size;go_simp;refine(vC.o X y1).mono ?_;intro e wq hp;cases hx:r1 with
        |out=>exact absurd hx vG.o
        |err cc ln col=>rw[hx]at hp;obtain⟨rfl,hs⟩:=hp;exact⟨hdf,aJ.aX (c:=cc) (ln:=ln) (col:=col) (by rw[ZC.o,hx];rfl) rfl (f_.o _ ((jk.o.st.trans hJ.st).trans (hs.mono ilQ)))⟩
        |ok l k=>
         have hx0:=hx;rw[hx]at hp;obtain⟨⟨v,rfl,xs,hrow,hxs⟩,hr,hs⟩:=hp;refine⟨_,rfl,?_⟩;rw[dL.o];refine{hJ with p2:=fun e e2=> ?_,p4:=fun _ _=>⟨l,k,xs,hx0,hrow.mono oi,dG.mono (fun q _ hq=>⟨by omega,fun e e3=> ?_⟩) _ _ hxs⟩,p5:=fun e=>absurd (show L 5=true from e) (by rw[h5];decide),rd:=⟨k,hr,⟨l,hx0⟩⟩,st:=hJ.st.trans (hs.mono ilQ),x0:=fun e=>hs.keep (hJ.x0 e) om,x1:=fun e=>absurd (show L 8=true from e) (by rw[h8];decide),IC:=hs.cell hJ.IC (fun e=>by have e2:w.heap.size=R.rb:=e;omega),EL:=hs.keep hJ.EL om,ex:=dW.step hs (fun q hq e=>(HPB.o q hq.1).1 e) _ _ hJ.ex,q5:=fun e=>absurd (show L 5=true from e) (by rw[h5];decide)}
         ·obtain⟨z1,z2⟩:=hJ.p2 e e2;exact⟨z1,hs.owns z2 oi⟩
         ·obtain⟨z1,z2⟩:=hJ.p2 e h5;have:=(z2.lt q e3).2;omega
       ·have e30:=ev 2 30 rfl (ax 2 rfl);have e32:=ev 4 32 rfl (ax 4 rfl);have h7:L 7=false:=by
         cases e:L 7 with
         |false=>rfl
         |true=>exact absurd (hJ.q7 e).2.1 (by rw[hL];decide)
        have h8:L 8=false:=by
         cases e:L 8 with
         |false=>rfl
         |true=>exact absurd (hJ.q8 e).2 (by rw[h7];decide)
        obtain⟨z1,z2⟩:=hJ.p2 (ax 2 rfl) hL;obtain⟨l,k,xs,y1,y2,y3⟩:=hJ.p4 (ax 4 rfl) hL;have hfew:=HFEW.o l k y1;refine fF _ X.heap.size (.tmp 30) (.tmp 32) 54 rfl w8.heap.size 56 i0 (.agg #[ah 0,bP,bK 0,aO,au,au,au,ah 0,ah 0]) 9 128 Tryz.underlying54 HI.o HZ0.o HZ1.o HZ2.o rfl dc (V 2) 1 [.int .i64 k0,.string gX,.int .u64 v0,.bool gY,.slice a1 n1 c1,.slice a2 n2 c2,.slice a3 n3 c3,.int .i64 l0,.int .i64 c0] (by rw[bF];exact e30) z2 (V 4) l.length xs (by rw[bF];exact e32) (y2.row (fun q h7 _=>h7)) y3.len (dG.one y3) (by unfold maxLen;omega) om hJ.st.size ?_;intro v9 w9 gG gm nM;have hg:=bM gm;obtain⟨a9,c9,dI⟩:=a_ gG;have hrow9:di w9 PX v9 (x::l).length _:=di.fA (by rw[Nat.add_comm 1 l.length]at gG;exact gG) (fun q hq=>HPX6.o q (gG.lt q hq).1);have hge:∀q,(V 2).ownBlock=some q→w8.heap.size≤q:=fun q hq=>(z2.lt q hq).1;refine⟨v9,rfl,?_⟩;rw[dL.o];refine{hJ with p2:=(fun _ e=>nomatch e),p4:=(fun _ e=>nomatch e),p5:=fun _=>⟨l,k,c9,a9,y1,dI,_,hrow9,?_⟩,p7:=fun e=>absurd (show L 7=true from e) (by rw[h7];decide),rd:= ?_,st:=hJ.st.then hg (fun q hq e=>by have:=hge q e;omega),x0:=fun e=>hg.keep (hJ.x0 e) (fun e=>by have:=hge _ e;omega),x1:=fun e=>absurd (show L 8=true from e) (by rw[h8];decide),IC:=hg.cell hJ.IC (fun e=>by have e2:w8.heap.size≤w.heap.size:=hge _ e;omega),EL:=hg.keep hJ.EL (fun e=>by have:=hge _ e;omega),ex:=dW.step hg (fun q hq e=>by have:=hge _ e;have:=hq.2;omega) _ _ hJ.ex,q5:=fun _=>⟨ax 2 rfl,ax 4 rfl⟩,q7:=fun e=>absurd (show L 7=true from e) (by rw[h7];decide)}
        ·rw[dG];refine⟨_,_,rfl,dW.mono (fun q _ hq=>hq.1) _ _ (dW.step hg (fun q hq e=>by have:=hge _ e;have:=hq.2;omega) _ _ hJ.ex),dG.mono (fun q _ hq=>HPX6.o q hq.1) _ _ (dG.step hg (fun q hq e=>hq.2 (ax 2 rfl) e) _ _ y3)⟩
        ·obtain⟨i9,y5,y6⟩:=hJ.rd;exact⟨i9,y5.step hg (fun q hq e=>by have:=hge _ e;omega),y6⟩
       ·have o4:=dn 4 rfl;change a.tmps[4]?.getD undef=.pointer (some ⟨w4.heap.size,0,none⟩)at o4;have q0:=aj hJ.EL 0 _ rfl;have q1:=aj hJ.EL 1 _ rfl;have h7:L 7=false:=by
         cases e:L 7 with
         |false=>rfl
         |true=>exact absurd (hJ.q7 e).2.2 (by rw[hL];decide)
        go_simp;exact⟨_,rfl,by rw[dL.o];exact{hJ with p6:=fun _=>rfl,q7:=fun e=>absurd (show L 7=true from e) (by rw[h7];decide)}⟩
       ·have e28:=(ev 0 28 rfl (ax 0 rfl)).trans (hJ.p0 (ax 0 rfl));obtain⟨l,k,c9,a9,y1,y2,-⟩:=hJ.p5 (ax 5 rfl);have e33:=(ev 5 33 rfl (ax 5 rfl)).trans y2;have e34:=(ev 6 34 rfl (ax 6 rfl)).trans (hJ.p6 (ax 6 rfl));have h8:L 8=false:=by
         cases e:L 8 with
         |false=>rfl
         |true=>exact absurd (hJ.q8 e).2 (by rw[hL];decide)
        go_simp;exact⟨_,rfl,by rw[dL.o];exact{hJ with p7:=fun _=>by show Value.agg _=Value.agg #[ah 13,aY nm,bK 0,aO,V 5,au,au,ah tk.line,ah tk.col];rw[y2],q7:=fun _=>⟨ax 0 rfl,ax 5 rfl,ax 6 rfl⟩,q8:=fun e=>absurd (show L 8=true from e) (by rw[h8];decide)}⟩
       ·have o3:=dn 3 rfl;change a.tmps[3]?.getD undef=.pointer (some ⟨bx,0,none⟩)at o3;have e35:=(ev 7 35 rfl (ax 7 rfl)).trans (hJ.p7 (ax 7 rfl));have hb:=hJ.x0 hL;have h5:=hJ.q7 (ax 7 rfl);obtain⟨l,k,c9,a9,y1,y2,y3⟩:=hJ.p5 h5.2.1;refine dM 56 (.tmp 3) (.tmp 35) rfl bx 0 56 _ [.int .i64 13,.string nm,.int .u64 0,.bool false,V 5,.slice none 0 0,.slice none 0 0,.int .i64 tk.line,.int .i64 tk.col] (by rw[bF];exact o3) (by rw[bF];exact e35) hb Tryz.aQ (Nat.le_of_eq rfl) (by rw[y2];exact aP rfl) ?_;intro w9 gu hs9;have hbb:w9.heap[bx]?=some (.cells #[ah 13,aY nm,bK 0,aO,V 5,au,au,ah tk.line,ah tk.col] 56 (0,0)):=gu;refine⟨undef,rfl,?_⟩;rw[dL.o];refine{hJ with p2:=fun _ e=>absurd (show L 5=false from e) (by rw[h5.2.1];decide),p4:=fun _ e=>absurd (show L 5=false from e) (by rw[h5.2.1];decide),p5:=fun _=>⟨l,k,c9,a9,y1,y2,jd.step _ _ hs9 (fun q hq e=>(HPB.o q hq).2 e) y3⟩,rd:= ?_,st:=hJ.st.trans (hs9.mono ir),x0:=(fun e=>nomatch e),x1:=fun _=>hbb,IC:=hs9.cell hJ.IC (fun e=>by have e2:w.heap.size=bx:=e;omega),EL:=hs9.keep hJ.EL om,ex:=dW.step hs9 (fun q hq e=>(HPB.o q hq.1).2 e) _ _ hJ.ex,q8:=fun _=>⟨ax 1 rfl,ax 7 rfl⟩};obtain⟨i9,y5,y6⟩:=hJ.rd;exact⟨i9,y5.step hs9 oi,y6⟩
      case hdone=>
       intro L V X hall hJ;rw[dL.o]at hJ;obtain⟨l,k,c9,a9,y1,y2,y3⟩:=hJ.p5 (hall 5 dc);obtain⟨i9,y5,y6⟩:=hJ.rd;rw[hall 4 dc]at y6;obtain⟨l2,y7⟩:∃l,r1=.ok l i9:=y6;rw[y1]at y7;cases y7;(have KU:Hid (r=lN gn R.l k d (bZ 13 nm 0 false (x::l) [] [] tk)):=by show _=_;rw[ZC.o,y1];rfl);(have kK:Hid (yT R w1 w3 bx d X k (bZ 13 nm 0 false (x::l) [] [] tk) [.int .i64 13,.string nm,.int .u64 0,.bool false,V 5,.slice none 0 0,.slice none 0 0,.int .i64 tk.line,.int .i64 tk.col]):=by refine⟨y5,hJ.x1 (hall 8 dc),?_,jk.o.st.trans hJ.st⟩;rw[←IB.o];exact xR.mk OJ.o y3 (cu.nil _ _) (gy.nil _ _));rw[show List.range 9=[0,1,2,3,4,5,6,7,8] from rfl];simp only[kC,fU,List.getElem?_toArray,List.getElem?_cons_zero,List.getElem?_cons_succ,Option.bind_some,Act.put,List.setIfInBounds_toArray,List.set_cons_zero,List.set_cons_succ];clear hJ hall y1 y2 y3 y5;(try go_wp2_with fail);go_roundg gn;case rel=>exact⟨by omega,k,_,_,KU.o,kK.o⟩
       case measure=>omega
structure ExOk (f:Nat):Prop where
 level:mW f
 unary:yS f
 post:GK f
 list:Dk f
 one:Q9 f
 ZE:KN f
 block:lD f
 stmt:GL f
theorem SX:Nb 0:=fun _ _ _ _ _ _ _ _ _ _ _ h=>absurd (by rw[zT]) h
theorem SY:Nc 0:=fun _ _ _ _ _ _ _ _ _ _ _ h=>absurd (by rw[zU]) h
theorem Js:∀(f:Nat),f≤1000000→ExOk f:=by
 intro f;induction f using Nat.strongRecOn with
 |ind f ih=>
  intro hf;have hl:mW f:=KT f fun f' h=>⟨(ih f' h om).level,(ih f' h om).unary⟩;have hi:Dk f:=OG f fun f' h=>(ih f' h om).level;cases f with
  |zero=>exact⟨hl,fun _ _ _ _ _ _ _ h=>absurd (by rw[iR]) h,fun _ _ _ _ _ _ _ h=>absurd (by rw[uX]) h,hi,fun _ _ _ _ _ _ _ h=>absurd (by rw[rW]) h,fun _ _ _ _ _ _ _ h=>absurd (by rw[uD]) h,fun _ _ _ _ _ _ _ h=>absurd (by rw[bI]) h,fun _ _ _ _ _ _ _ h=>absurd (by rw[uY]) h⟩
  |succ f=>
   have h0:=ih f (Nat.lt_succ_self f) om;have hm:Le f:=OT f fun f' h=>(ih f' om om).level;have hc:Lc f:=OM f h0.block;have hle:Nb f:=by
    cases f with
    |zero=>exact SX
    |succ f=>exact Rn f (ih f om om).level
   have hse:Nc f:=by
    cases f with
    |zero=>exact SY
    |succ f=>exact Rt f (ih f om om).level
   exact⟨hl,KQ f h0.unary h0.post,O7 f h0.ZE fun f' h=>(ih f' om om).list,hi,one_step f h0.level,OV f h0.level h0.one h0.list hm hc,KY f (fun f' h=>(ih f' om om).stmt) om,O1 f h0.level h0.block hle hse⟩
structure Gn where
 aF:List ByteArray
 types:List ByteArray
structure Pm where
 name:ByteArray
 ty:Ty
 line:Int
 col:Int
structure Bd where
 name:ByteArray
 tZ:List ByteArray
 aF:List ByteArray
 line:Int
 col:Int
structure Mt where
 name:ByteArray
 aF:List ByteArray
 recv:Int
 life:ByteArray
 params:List Pm
 ret:Ty
 wh:List Bd
 body:List St
 line:Int
 col:Int
structure It where
 kind:Int
 name:ByteArray
 head:ByteArray
 gen:Gn
 fields:List Pm
 ret:Ty
 wh:List Bd
 methods:List Mt
 body:List St
 line:Int
 col:Int
structure vN {α:Type} (El:World→(Nat→Prop)→α→List Value→Prop) (k:Nat):Prop where
 step:∀{w w':World} {P S:Nat→Prop} (a:α) (cs:List Value),Step S w w'→(∀k,P k→¬S k)→El w P a cs→El w' P a cs
 mono:∀{w:World} {P P':Nat→Prop} (a:α) (cs:List Value),(∀k,k<w.heap.size→P k→P' k)→El w P a cs→El w P' a cs
 len:∀{w:World} {P:Nat→Prop} (a:α) (cs:List Value),El w P a cs→cs.length=k
 one:∀{w:World} {P:Nat→Prop} (a:α) (cs:List Value),El w P a cs→∀u∈cs,u.oneCell'=true
def lG {α:Type} (El:World→(Nat→Prop)→α→List Value→Prop) (w:World) (P:Nat→Prop):List α→List Value→Prop
 |[],cs=>cs=[]
 |t::r,cs=>∃c1 c2,cs=c1++c2∧El w P t c1∧lG El w P r c2
section
variable {α : Type} {El : World → (Nat → Prop) → α → List Value → Prop} {k : Nat}
theorem lG.step (hE:vN El k) {w w':World} {P S:Nat→Prop} (hs:Step S w w') (hP:∀k,P k→¬S k):∀(l:List α) (cs:List Value),lG El w P l cs→lG El w' P l cs
 |[],_,h=>h
 |t::r,cs,h=>by
  obtain⟨c1,c2,h1,h2,h3⟩:=h
  exact⟨c1,c2,h1,hE.step t c1 hs hP h2,lG.step hE hs hP r c2 h3⟩
theorem lG.mono (hE:vN El k) {w:World} {P P':Nat→Prop} (hp:∀k,k<w.heap.size→P k→P' k):∀(l:List α) (cs:List Value),lG El w P l cs→lG El w P' l cs
 |[],_,h=>h
 |t::r,cs,h=>by
  obtain⟨c1,c2,h1,h2,h3⟩:=h
  exact⟨c1,c2,h1,hE.mono t c1 hp h2,lG.mono hE hp r c2 h3⟩
theorem lG.len (hE:vN El k) {w:World} {P:Nat→Prop}:∀{l:List α} {cs:List Value},lG El w P l cs→cs.length=l.length*k
 |[],_,h=>by cases h;simp
 |t::r,cs,h=>by
  obtain⟨c1,c2,rfl,h2,h3⟩:=h
  rw[List.length_append,hE.len t c1 h2,lG.len hE h3,List.length_cons,Nat.add_mul];omega
theorem lG.one (hE:vN El k) {w:World} {P:Nat→Prop}:∀{l:List α} {cs:List Value},lG El w P l cs→∀u∈cs,u.oneCell'=true
 |[],_,h=>by cases h;intro u hu;cases hu
 |t::r,cs,h=>by
  obtain⟨c1,c2,rfl,h2,h3⟩:=h
  intro u hu
  rcases List.mem_append.1 hu with hu|hu
  ·
   exact hE.one t c1 h2 u hu
  ·
   exact lG.one hE h3 u hu
theorem lG.snoc {w:World} {P:Nat→Prop}:∀{l:List α} {xs:List Value} {t:α} {cs:List Value},lG El w P l xs→El w P t cs→lG El w P (l++[t]) (xs++cs)
 |[],xs,t,cs,h,h1=>by
  cases h
  exact⟨cs,[],by simp,h1,rfl⟩
 |a::r,xs,t,cs,h,h1=>by
  obtain⟨c1,c2,rfl,h2,h3⟩:=h
  exact⟨c1,c2++cs,by rw[List.append_assoc],h2,lG.snoc h3 h1⟩
theorem lG.get (hE:vN El k) {w:World} {P:Nat→Prop}:∀{l:List α} {xs:List Value} (i:Nat) {t:α},lG El w P l xs→l[i]?=some t→∃cs,El w P t cs∧∀j x,cs[j]?=some x→xs[i*k+j]?=some x
 |[],_,i,t,_,ht=>by simp at ht
 |a::r,xs,i,t,h,ht=>by
  obtain⟨c1,c2,rfl,h1,h2⟩:=h
  have hc:=hE.len a c1 h1
  cases i with
  |zero=>
   simp at ht;subst ht
   refine⟨c1,h1,fun j x hx=> ?_⟩
   rw[Nat.zero_mul,Nat.zero_add,List.getElem?_append_left (List.getElem?_eq_some_iff.1 hx).1];exact hx
  |succ i=>
   obtain⟨cs,h3,h4⟩:=lG.get hE i h2 (by simpa using ht)
   refine⟨cs,h3,fun j x hx=> ?_⟩
   rw[List.getElem?_append_right (by rw[hc,Nat.add_mul];omega),hc,show(i+1)*k+j-k=i*k+j by rw[Nat.add_mul];omega]
   exact h4 j x hx
def jF (El:World→(Nat→Prop)→α→List Value→Prop) (w:World) (P:Nat→Prop) (l:List α) (v:Value):Prop:=∃xs:List Value,di w P v l.length xs∧lG El w P l xs
theorem bQ (hE:vN El k):wL (jF El):=⟨fun _ _ hs hP ⟨xs,h1,h2⟩=>⟨xs,h1.step hs hP,lG.step hE hs hP _ xs h2⟩,fun _ _ hp ⟨xs,h1,h2⟩=>⟨xs,h1.mono hp,lG.mono hE hp _ xs h2⟩⟩
theorem jF.nil (w:World) (P:Nat→Prop):jF El w P ([]:List α) (.slice none 0 0):=⟨[],di.nil _ _ _,rfl⟩
theorem jF.parts {w:World} {P:Nat→Prop} {l:List α} {v:Value} (h:jF El w P l v):∃(a:Option Addr) (c:Nat),v=.slice a l.length c:=by obtain⟨_,h,-⟩:=h;exact h.parts
def ElQ (El:World→(Nat→Prop)→α→List Value→Prop) (w:World) (P:Nat→Prop) (a:α) (v:Value):Prop:=∃cs:List Value,v=.agg cs.toArray∧El w P a cs
structure y_ (El:World→(Nat→Prop)→α→List Value→Prop) (T k:Nat) (R:fV) (w1:World) (d:Nat) (X:World) (i':Nat) (acc:List α) (va:Value) (xs:List Value):Prop where
 rd:bC R X i' d
 ow:X.ownsRow w1.heap.size T k va acc.length xs
 el:lG El X (fun q=>w1.heap.size≤q∧va.ownBlock≠some q) acc xs
 st:Step (·=R.rb) w1 X
theorem y_.read (hE:vN El k) {T:Nat} {R:fV} {w1:World} {d:Nat} {X X':World} {i' i2:Nat} {acc:List α} {va:Value} {xs:List Value} (h:y_ El T k R w1 d X i' acc va xs) (hw:R.rb<w1.heap.size) (hr:bC R X' i2 d) (hs:Step (·=R.rb) X X'):y_ El T k R w1 d X' i2 acc va xs:=
 ⟨hr,hs.owns h.ow oi,lG.step hE hs (fun q hq e=>by have:=hq.1;omega) _ _ h.el,h.st.trans hs⟩
theorem y_.quiet (hE:vN El k) {T:Nat} {R:fV} {w1:World} {d:Nat} {X X':World} {i':Nat} {acc:List α} {va:Value} {xs:List Value} (h:y_ El T k R w1 d X i' acc va xs) (hs:Step (fun _=>False) X X'):y_ El T k R w1 d X' i' acc va xs:=
 ⟨h.rd.quiet hs,hs.owns h.ow (fun _ _ h=>h),lG.step hE hs (fun _ _ h=>h) _ _ h.el,h.st.trans (hs.mono fe)⟩
theorem y_.push (hE:vN El k) {T:Nat} {R:fV} {w1:World} {d:Nat} {X0 X2 X3:World} {i0 i2:Nat} {acc:List α} {va v9:Value} {xs cs:List Value} {x:α} (h0:y_ El T k R w1 d X0 i0 acc va xs) (h2:y_ El T k R w1 d X2 i2 acc va xs) (hx:El X2 (fun q=>X0.heap.size≤q) x cs) (hown:X3.ownsRow w1.heap.size T k v9 (acc.length+1) (xs++cs)) (hgrow:X2.grownBy X3 va.ownBlock) (hat:v9.ownBlock=va.ownBlock∨v9.ownBlock=some X2.heap.size) (hw:R.rb<w1.heap.size):y_ El T k R w1 d X3 i2 (acc++[x]) v9 (xs++cs):=by
 have h3:Step (fun q=>va.ownBlock=some q) X2 X3:=bM hgrow;have ho:∀q,va.ownBlock=some q→w1.heap.size≤q∧q<X0.heap.size:=fun q hq=>h0.ow.lt q hq;have hlen:(acc++[x]).length=acc.length+1:=by simp
 have hnew:∀q,q<X2.heap.size→va.ownBlock≠some q→v9.ownBlock≠some q:=by
  intro q hq hn e;rcases hat with h7|h7
  ·exact hn (by rw[←h7];exact e)
  ·rw[h7]at e;have e2:X2.heap.size=q:=Option.some.inj e;omega
 refine⟨h2.rd.step h3 (fun q hq e=>by have:=(ho q e).1;omega),by rw[hlen];exact hown,lG.snoc ?_ ?_,h2.st.then h3 (fun q hq e=>by have:=(ho q e).1;omega)⟩
 ·have h5:=lG.mono hE (P':=fun q=>(w1.heap.size≤q∧va.ownBlock≠some q)∧q<X2.heap.size) (fun q h7 h8=>⟨h8,h7⟩) _ _ h2.el;have h6:=lG.step hE h3 (fun q hq e=>hq.1.2 e) _ _ h5;exact lG.mono hE (fun q _ hq=>⟨hq.1.1,hnew q hq.2 hq.1.2⟩) _ _ h6
 ·have h5:=hE.mono (P':=fun q=>X0.heap.size≤q∧q<X2.heap.size) _ _ (fun q h7 h8=>⟨h8,h7⟩) hx;have h6:=hE.step _ _ h3 (fun q hq e=>by have:=(ho q e).2;omega) h5;refine hE.mono _ _ (fun q _ hq=>⟨by have:=h0.st.size;omega,hnew q hq.2 (fun e=>by have:=(ho q e).2;omega)⟩) h6
end
def EW (w:World) (P:Nat→Prop) (p:Pm) (cs:List Value):Prop:=∃ct:List Value,cs=[.string p.name]++ct++[.int .i64 p.line,.int .i64 p.col]∧p.name.size≤9223372036854775807∧iG w P p.ty ct
def Bv (w:World) (P:Nat→Prop) (b:Bd) (cs:List Value):Prop:=∃vt vl:Value,cs=[.string b.name,vt,vl,.int .i64 b.line,.int .i64 b.col]∧b.name.size≤9223372036854775807∧cu w P b.tZ vt∧cu w P b.aF vl
def Bz (w:World) (P:Nat→Prop) (m:Mt) (cs:List Value):Prop:=∃(ct:List Value) (vl vp vw vb:Value),cs=[.string m.name,vl,.int .i64 m.recv,.string m.life,vp]++ct++[vw,vb,.int .i64 m.line,.int .i64 m.col]∧m.name.size≤9223372036854775807∧m.life.size≤9223372036854775807∧
 cu w P m.aF vl∧jF EW w P m.params vp∧iG w P m.ret ct∧jF Bv w P m.wh vw∧gy w P m.body vb
def nX (w:World) (P:Nat→Prop) (x:It) (cs:List Value):Prop:=∃(ct:List Value) (vl vt vf vw vm vb:Value),cs=[.int .i64 x.kind,.string x.name,.string x.head,vl,vt,vf]++ct++[vw,vm,vb,.int .i64 x.line,.int .i64 x.col]∧x.name.size≤9223372036854775807∧x.head.size≤9223372036854775807∧
 cu w P x.gen.aF vl∧cu w P x.gen.types vt∧jF EW w P x.fields vf∧iG w P x.ret ct∧jF Bv w P x.wh vw∧jF Bz w P x.methods vm∧gy w P x.body vb
theorem cu.parts {w:World} {P:Nat→Prop} {l:List ByteArray} {v:Value} (h:cu w P l v):∃(a:Option Addr) (c:Nat),v=.slice a l.length c:=h.2.parts
theorem fK:vN EW 11 where
 step:=fun _ _ hs hP ⟨ct,h1,h2,h3⟩=>⟨ct,h1,h2,iG.step hs hP _ ct h3⟩
 mono:=fun _ _ hp ⟨ct,h1,h2,h3⟩=>⟨ct,h1,h2,iG.mono hp _ ct h3⟩
 len:=fun _ _ ⟨ct,h1,_,h3⟩=>by rw[h1];have:=h3.len;simp;omega
 one:=fun _ _ ⟨ct,h1,_,h3⟩=>by
  intro u hu
  rw[h1]at hu
  rcases List.mem_append.1 hu with hu|hu
  ·
   rcases List.mem_append.1 hu with hu|hu
   ·
    simp at hu;subst hu;rfl
   ·
    exact h3.one u hu
  ·
   simp at hu;rcases hu with rfl|rfl<;>rfl
theorem gI:vN Bv 5 where
 step:=fun _ _ hs hP ⟨vt,vl,h1,h2,h3,h4⟩=>⟨vt,vl,h1,h2,bG.step _ _ hs hP h3,bG.step _ _ hs hP h4⟩
 mono:=fun _ _ hp ⟨vt,vl,h1,h2,h3,h4⟩=>⟨vt,vl,h1,h2,bG.mono _ _ hp h3,bG.mono _ _ hp h4⟩
 len:=fun _ _ ⟨vt,vl,h1,_⟩=>by rw[h1];rfl
 one:=fun _ _ ⟨vt,vl,h1,_,h3,h4⟩=>by
  obtain⟨_,_,rfl⟩:=h3.parts
  obtain⟨_,_,rfl⟩:=h4.parts
  rw[h1];exact aP rfl
theorem dD:vN Bz 17 where
 step:=fun _ _ hs hP ⟨ct,vl,vp,vw,vb,h1,h2,h3,h4,h5,h6,h7,h8⟩=>⟨ct,vl,vp,vw,vb,h1,h2,h3,bG.step _ _ hs hP h4,(bQ fK).step _ _ hs hP h5,iG.step hs hP _ _ h6,(bQ gI).step _ _ hs hP h7,jQ.step _ _ hs hP h8⟩
 mono:=fun _ _ hp ⟨ct,vl,vp,vw,vb,h1,h2,h3,h4,h5,h6,h7,h8⟩=>⟨ct,vl,vp,vw,vb,h1,h2,h3,bG.mono _ _ hp h4,(bQ fK).mono _ _ hp h5,iG.mono hp _ _ h6,(bQ gI).mono _ _ hp h7,jQ.mono _ _ hp h8⟩
 len:=fun _ _ ⟨ct,vl,vp,vw,vb,h1,_,_,_,_,h6,_⟩=>by rw[h1];have:=h6.len;simp;omega
 one:=fun _ _ ⟨ct,vl,vp,vw,vb,h1,_,_,h4,h5,h6,h7,h8⟩=>by
  obtain⟨_,_,rfl⟩:=h4.parts
  obtain⟨_,_,rfl⟩:=h5.parts
  obtain⟨_,_,rfl⟩:=h7.parts
  obtain⟨_,_,rfl⟩:=h8.parts
  intro u hu
  rw[h1]at hu
  rcases List.mem_append.1 hu with hu|hu
  ·
   rcases List.mem_append.1 hu with hu|hu
   ·
    exact aP rfl u hu
   ·
    exact h6.one u hu
  ·
   exact aP rfl u hu
theorem aT:vN nX 19 where
 step:=fun _ _ hs hP ⟨ct,vl,vt,vf,vw,vm,vb,h1,h2,h3,h4,h5,h6,h7,h8,h9,h10⟩=>⟨ct,vl,vt,vf,vw,vm,vb,h1,h2,h3,bG.step _ _ hs hP h4,bG.step _ _ hs hP h5,(bQ fK).step _ _ hs hP h6,iG.step hs hP _ _ h7,(bQ gI).step _ _ hs hP h8,(bQ dD).step _ _ hs hP h9,jQ.step _ _ hs hP h10⟩
 mono:=fun _ _ hp ⟨ct,vl,vt,vf,vw,vm,vb,h1,h2,h3,h4,h5,h6,h7,h8,h9,h10⟩=>⟨ct,vl,vt,vf,vw,vm,vb,h1,h2,h3,bG.mono _ _ hp h4,bG.mono _ _ hp h5,(bQ fK).mono _ _ hp h6,iG.mono hp _ _ h7,(bQ gI).mono _ _ hp h8,(bQ dD).mono _ _ hp h9,jQ.mono _ _ hp h10⟩
 len:=fun _ _ ⟨ct,vl,vt,vf,vw,vm,vb,h1,_,_,_,_,_,h7,_⟩=>by rw[h1];have:=h7.len;simp;omega
 one:=fun _ _ ⟨ct,vl,vt,vf,vw,vm,vb,h1,_,_,h4,h5,h6,h7,h8,h9,h10⟩=>by
  obtain⟨_,_,rfl⟩:=h4.parts
  obtain⟨_,_,rfl⟩:=h5.parts
  obtain⟨_,_,rfl⟩:=h6.parts
  obtain⟨_,_,rfl⟩:=h8.parts
  obtain⟨_,_,rfl⟩:=h9.parts
  obtain⟨_,_,rfl⟩:=h10.parts
  intro u hu
  rw[h1]at hu
  rcases List.mem_append.1 hu with hu|hu
  ·
   rcases List.mem_append.1 hu with hu|hu
   ·
    exact aP rfl u hu
   ·
    exact h7.one u hu
  ·
   exact aP rfl u hu
def mF:Nat→List Tok→Nat→List ByteArray→List ByteArray→dO Gn
 |0,_,_,_,_=>.out
 |f+1,l,i,ls,ts=>(d_ (ls.length+ts.length) 8 l i).bind fun _ i=>(if(tokA l i).kind=2∧ts.length=0 then(jA l i).bind fun x j=>.ok (ls++[x],ts) j else(aS l i).bind fun x j=>.ok (ls,ts++[x]) j).bind fun p j=>
   if bD l j [44]then mF f l (j+1) p.1 p.2 else(aH l j [62]).bind fun _ j=>.ok ⟨p.1,p.2⟩ j
def jl (f:Nat) (l:List Tok) (i:Nat):dO Gn:=if bD l i [60]then mF f l (i+1) [] []else .ok ⟨[],[]⟩ i
def pq:Nat→List Tok→Nat→Nat→List UInt8→Nat→List Pm→dO (List Pm)
 |0,_,_,_,_,_,_=>.out
 |f+1,l,i,d,e,m,acc=>(d_ acc.length m l i).bind fun _ i=>(aS l i).bind fun n j=>(aH l j [58]).bind fun _ j=>(jT f l j d).bind fun ty j=>
   if bD l j [44]then pq f l (j+1) d e m (acc++[⟨n,ty,(tokA l i).line,(tokA l i).col⟩])else(aH l j e).bind fun _ j=>.ok (acc++[⟨n,ty,(tokA l i).line,(tokA l i).col⟩]) j
def dA (f:Nat) (l:List Tok) (i d:Nat) (e:List UInt8) (m:Nat):dO (List Pm):=if bD l i e then .ok [] (i+1)else pq f l i d e m []
def iT (f:Nat) (l:List Tok) (i d:Nat):dO Ty:=if bD l i [45,62]then jT f l (i+1) d else .ok dN i
def gq:Nat→List Tok→Nat→Bool→List ByteArray→List ByteArray→dO (List ByteArray×List ByteArray)
 |0,_,_,_,_,_=>.out
 |f+1,l,i,p,ts,ls=>(d_ (ls.length+ts.length) 8 l i).bind fun _ i=>(if p=true∧ls.length=0∧(tokA l i).kind≠2 then(aS l i).bind fun x j=>.ok (ts++[x],ls) j else(jA l i).bind fun x j=>.ok (ts,ls++[x]) j).bind fun q j=>
   if bD l j [43]then gq f l (j+1) p q.1 q.2 else .ok q j
def oN (f:Nat) (l:List Tok) (i:Nat):dO Bd:=
 (if(rE l i).size=0 then(aS l (oz l i)).bind fun n j=>.ok (n,true) j else .ok (rE l i,false) (oz l i)).bind fun p j=>(aH l j [58]).bind fun _ j=>(gq f l j p.2 [] []).bind fun q j=>.ok ⟨p.1,q.1,q.2,(tokA l i).line,(tokA l i).col⟩ j
def kS:Nat→List Tok→Nat→List Bd→dO (List Bd)
 |0,_,_,_=>.out
 |f+1,l,i,acc=>(d_ acc.length 16 l i).bind fun _ i=>(oN f l i).bind fun b j=>if bD l j [44]then kS f l (j+1) (acc++[b])else .ok (acc++[b]) j
def b_ (f:Nat) (l:List Tok) (i:Nat):dO (List Bd):=if bD l i [119,104,101,114,101]then kS f l (i+1) []else .ok [] i
def lH (l:List Tok) (i:Nat):(Int×ByteArray)×Nat:=
 if bD l i [38]then((if bD l (oz l (i+1)) [109,117,116]then 3 else 2,rE l (i+1)),iL l (oz l (i+1)) [109,117,116])else((1,bU),i)
def lF (f:Nat) (l:List Tok) (i d:Nat) (body:Bool):dO Mt:=
 (aH l i [102,110]).bind fun _ j=>(aS l j).bind fun n j=>(jl f l j).bind fun g j=>(if 0<g.types.length then fD 5 l j else .ok () j).bind fun _ j=>(aH l j [40]).bind fun _ j=>
  (aH l (lH l j).2 [115,101,108,102]).bind fun _ k=>(if bD l k [44]then(if bD l (k+1) [41]then fD 1 l (k+1)else dA f l (k+1) d [41] 8)else(aH l k [41]).bind fun _ k=>.ok [] k).bind fun ps k=>
   (iT f l k d).bind fun t k=>(b_ f l k).bind fun wh k=>(if body then bI f l k d else(aH l k [59]).bind fun _ k=>.ok [] k).bind fun b k=>
    .ok ⟨n,g.aF,(lH l j).1.1,(lH l j).1.2,ps,t,wh,b,(tokA l i).line,(tokA l i).col⟩ k
def nI:Nat→List Tok→Nat→Nat→Bool→List Mt→dO (List Mt)
 |0,_,_,_,_,_=>.out
 |f+1,l,i,d,body,acc=>if bD l i [125]then .ok acc (i+1)else(d_ acc.length 12 l i).bind fun _ i=>(lF f l i d body).bind fun m j=>nI f l j d body (acc++[m])
def dh (f:Nat) (l:List Tok) (i d:Nat) (body:Bool):dO (List Mt):=(aH l i [123]).bind fun _ j=>nI f l j d body []
def jg (l:List Tok) (i:Nat):dO ByteArray:=
 if bD l i [105,110,116]then .ok ⟨#[105,110,116]⟩ (i+1)else if bD l i [98,111,111,108]then .ok ⟨#[98,111,111,108]⟩ (i+1)else if bD l i [102,54,52]then .ok ⟨#[102,54,52]⟩ (i+1)else aS l i
def gW (k:Int) (name head:ByteArray) (g:Gn) (fs:List Pm) (t:Ty) (wh:List Bd) (ms:List Mt) (b:List St) (tk:Tok):It:=⟨k,name,head,g,fs,t,wh,ms,b,tk.line,tk.col⟩
def jX:Gn:=⟨[],[]⟩
def jD (f:Nat) (l:List Tok) (i d:Nat):dO It:=
 if bD l i [115,116,114,117,99,116]then(aS l (i+1)).bind fun n j=>(jl f l j).bind fun g j=>(aH l j [123]).bind fun _ j=>(dA f l j d [125] 12).bind fun fs j=>.ok (gW 1 n bU g fs dN [] [] [] (tokA l i)) j
 else if bD l i [116,114,97,105,116]then(aS l (i+1)).bind fun n j=>(dh f l j d false).bind fun ms j=>.ok (gW 2 n bU jX [] dN [] ms [] (tokA l i)) j
 else if bD l i [105,109,112,108]then(aS l (i+1)).bind fun n j=>(aH l j [102,111,114]).bind fun _ j=>(jg l j).bind fun h j=>(b_ f l j).bind fun wh j=>(dh f l j d true).bind fun ms j=>.ok (gW 3 n h jX [] dN wh ms [] (tokA l i)) j
 else if bD l i [102,110]then(aS l (i+1)).bind fun n j=>(jl f l j).bind fun g j=>(aH l j [40]).bind fun _ j=>(dA f l j d [41] 8).bind fun fs j=>(iT f l j d).bind fun t j=>(b_ f l j).bind fun wh j=>(bI f l j d).bind fun b j=>.ok (gW 4 n bU g fs t wh [] b (tokA l i)) j
 else fD 1 l i
def kL:Nat→List Tok→Nat→Nat→List It→dO (List It)
 |0,_,_,_,_=>.out
 |f+1,l,i,d,acc=>if(tokA l i).kind=0 then .ok acc i else(d_ acc.length 60 l i).bind fun _ i=>(jD f l i d).bind fun x j=>kL f l j d (acc++[x])
theorem Tryz.lawS:Go.Maps.Keyed Tryz.prog 9:=Go.Maps.string_keyed Tryz.underlying9
theorem Tryz.X5 (w:World):(zeroValue 3).run Tryz.prog w=.ok (.int .i64 0) w:=by kernel_rfl
abbrev keyS (s:ByteArray):Lit:=.string s.data.toList
theorem Wh {a b:ByteArray} (h:a≠b):keyS a≠keyS b:=fun e=>h (ByteArray.ext (Array.toList_inj.1 (Lit.string.inj e)))
def MpD (D:DataW Unit) (m:ByteArray→Option Nat):Prop:=∀s:ByteArray,Maps.has D (keyS s)=(m s).isSome∧∀i,m s=some i→D.atKey (keyS s) (.lit (.int .i64 0))=.lit (.int .i64 i)
def BA (w:World) (b:Nat) (m:ByteArray→Option Nat):Prop:=∃(n:Nat) (D:DataW Unit),w.ownsMap Tryz.prog 9 (plainElem Tryz.prog 3) b n D∧n≤1000∧MpD D m
theorem BA.step {w w':World} {S:Nat→Prop} {b:Nat} {m:ByteArray→Option Nat} (hs:Step S w w') (hb:¬S b) (h:BA w b m):BA w' b m:=by obtain⟨n,D,⟨es,ck,h1,h2⟩,h3⟩:=h;exact⟨n,D,⟨es,ck,hs.keep h1 hb,h2⟩,h3⟩
theorem BA.look {w:World} {b:Nat} {m:ByteArray→Option Nat} (h:BA w b m) (s:ByteArray) (hs:s.size≤9223372036854775807):(Instr.lookup 124 (.map (some b)) (.string s) true).run Tryz.prog w=.ok (.tuple #[ah ((m s).getD 0:Nat),dV (m s).isSome]) w:=by
 obtain⟨n,D,h1,-,hD⟩:=h;obtain⟨v,ps,hrun,hv⟩:=h1.look_ok Tryz.lawS Tryz.underlying124 (Tryz.X5 w) (plainElem_int Tryz.underlying3 dc) (WideMaps.keyOf_string_mk Tryz.underlying9 hs);obtain⟨c,rfl,hc,-⟩:=plainElem_int_inv Tryz.underlying3 hv;obtain⟨ha,hb⟩:=hD s;have hc1:=congrArg Prod.fst hc;have hrun2:(Instr.lookup 124 (.map (some b)) (.string s) true).run Tryz.prog w=.ok (.tuple #[ah c,dV (Maps.has D (keyS s))]) w:=hrun;rw[hrun2,ha];cases hm:m s with
 |none=>have h2:=Maps.atKey_of_not_has (by rw[ha,hm];rfl:Maps.has D (keyS s)=false) (.lit (.int .i64 0):DataW Unit);have h3:(DataW.lit (.int .i64 0):DataW Unit)=.lit (.int .i64 c):=h2.symm.trans hc1;cases h3;rfl
 |some i=>have h3:(DataW.lit (.int .i64 i):DataW Unit)=.lit (.int .i64 c):=(hb i hm).symm.trans hc1;cases h3;rfl
def xX (m:ByteArray→Option Nat) (s:ByteArray) (i:Nat):ByteArray→Option Nat:=fun x=>if eqS x s then some i else m x
theorem Jt {m:ByteArray→Option Nat} {s x:ByteArray} {i:Nat} (h:eqS x s=true):xX m s i x=some i:=if_pos h
theorem O8 {m:ByteArray→Option Nat} {s x:ByteArray} {i:Nat} (h:eqS x s=false):xX m s i x=m x:=if_neg (by rw[h];decide)
theorem MpD.put {D:DataW Unit} {m:ByteArray→Option Nat} (h:MpD D m) (hD:Maps.IsMap D) (s:ByteArray) (i:Nat):MpD (D.put (keyS s) (.lit (.int .i64 i))) (xX m s i):=by
 intro x;cases hx:eqS x s with
 |true=>obtain rfl:=kQ.1 hx;rw[Jt hx];exact⟨Maps.has_put_same hD (show WideAt.IsKeyLit (.string _) from trivial) _,fun j hj=>by cases hj;exact Maps.atKey_put_same hD (show WideAt.IsKeyLit (.string _) from trivial) _ _⟩
 |false=>have hne:keyS x≠keyS s:=Wh (fun e=>by rw[kQ.2 e]at hx;cases hx);rw[O8 hx];exact⟨(Maps.has_put_other hne _).trans (h x).1,fun j hj=>(Maps.atKey_put_other hne _ _).trans ((h x).2 j hj)⟩
structure Tab where
 items:List It
 st:ByteArray→Option Nat
 tr:ByteArray→Option Nat
 fn:ByteArray→Option Nat
 im:ByteArray→ByteArray→Option Nat
def vO:It:=⟨0,bU,bU,jX,[],dN,[],[],[],0,0⟩
def Tab.get (T:Tab) (m:ByteArray→Option Nat) (s:ByteArray):Option It:=(m s).bind fun i=>T.items[i]?
structure TabAt (IM:World→Nat→(ByteArray→ByteArray→Option Nat)→Prop) (tb:Nat) (T:Tab) (w:World) (P:Nat→Prop):Prop where
 pt:P tb
 ex:∃(vi:Value) (ms mt mf mi:Nat),w.heap[tb]?=some (.cells #[vi,.map (some ms),.map (some mt),.map (some mf),.map (some mi)] 127 (0,0))∧jF nX w P T.items vi∧(P ms∧BA w ms T.st)∧(P mt∧BA w mt T.tr)∧(P mf∧BA w mf T.fn)∧P mi∧IM w mi T.im
 st:∀s i,T.st s=some i→i<T.items.length
 tr:∀s i,T.tr s=some i→i<T.items.length
 fn:∀s i,T.fn s=some i→i<T.items.length
structure vP (IM:World→Nat→(ByteArray→ByteArray→Option Nat)→Prop):Prop where
 step:∀{w w':World} {S:Nat→Prop} {b:Nat} {m:ByteArray→ByteArray→Option Nat},Step S w w'→¬S b→IM w b m→IM w' b m
 lt:∀{w:World} {b:Nat} {m:ByteArray→ByteArray→Option Nat},IM w b m→b<w.heap.size
theorem BA.lt {w:World} {b:Nat} {m:ByteArray→Option Nat} (h:BA w b m):b<w.heap.size:=let⟨_,_,h,_⟩:=h;h.lt
theorem qA {IM:World→Nat→(ByteArray→ByteArray→Option Nat)→Prop} (him:vP IM) (tb:Nat) (T:Tab):RD (TabAt IM tb T):=by
 constructor
 ·intro w w' P S hs hP h;obtain⟨vi,ms,mt,mf,mi,h1,h2,h3,h4,h5,h6,h7⟩:=h.ex;exact⟨h.pt,⟨vi,ms,mt,mf,mi,hs.keep h1 (hP _ h.pt),(bQ aT).step _ _ hs hP h2,⟨h3.1,h3.2.step hs (hP _ h3.1)⟩,⟨h4.1,h4.2.step hs (hP _ h4.1)⟩,⟨h5.1,h5.2.step hs (hP _ h5.1)⟩,h6,him.step hs (hP _ h6) h7⟩,h.st,h.tr,h.fn⟩
 ·intro w P P' hp h;obtain⟨vi,ms,mt,mf,mi,h1,h2,h3,h4,h5,h6,h7⟩:=h.ex;exact⟨hp _ (aI h1) h.pt,⟨vi,ms,mt,mf,mi,h1,(bQ aT).mono _ _ hp h2,⟨hp _ h3.2.lt h3.1,h3.2⟩,⟨hp _ h4.2.lt h4.1,h4.2⟩,⟨hp _ h5.2.lt h5.1,h5.2⟩,hp _ (him.lt h7) h6,h7⟩,h.st,h.tr,h.fn⟩
structure NJ (R:fV) (j0 d b:Nat) (w0:World) (oF:Value→Obj) (base T:Nat) (v0:Value) (n:Nat) (xs:List Value) (r1:dO ByteArray) (il ic ib ia iz:Nat) (vals:List (Option Value)) (L:Nat→Bool) (V:Nat→Value) (X:World):Prop where
 gZ:∀(i:Nat) v,vals[i]?=some (some v)→L i=true→V i=v
 vc:L ic=true→∃s k,r1=.ok s k∧V ic=.string s
 vb:L ib=true→L ia=false→∃s k g,r1=.ok s k∧V ib=.slice (some ⟨g,0,none⟩) 1 1∧w0.heap.size≤g∧X.heap[g]?=some (.cells #[aY s] T (0,0))
 va:L ia=true→∃s k,r1=.ok s k∧X.ownsRow base T 1 (V ia) (n+1) (xs++[.string s])∧((V ia).ownBlock=v0.ownBlock∨∃g,(V ia).ownBlock=some g∧w0.heap.size≤g)
 own:L ia=false→X.ownsRow base T 1 v0 n xs
 rd:∃i,bC R X i d∧cond (L ic) (∃s,r1=.ok s i) (i=j0)
 st:Step (fun q=>q=R.rb∨q=b∨v0.ownBlock=some q) w0 X
 blk:X.heap[b]?=some (oF (cond (L iz) (V ia) v0))
 qb:L ib=true→L ic=true
 qa:L ia=true→L ib=true∧L ic=true
 qz:L iz=true→L ia=true
 ql:L ia=true→L il=true
structure X6 (R:fV) (b:Nat) (w0:World) (base:Nat) (v0:Value) (il ic ib ia iz:Nat):Prop where
 ne:ic≠ib∧ic≠ia∧ic≠iz∧ib≠ia∧ib≠iz∧ia≠iz
 nl:il≠ic∧il≠ib∧il≠ia∧il≠iz
 rb:R.rb<b
 bb:b<base
 bw:base≤w0.heap.size
 own:∀q,v0.ownBlock=some q→base≤q∧q<w0.heap.size
section
variable {R : fV} {j0 d b : Nat} {w0 : World} {oF : Value → Obj} {base T : Nat} {v0 : Value} {n : Nat} {xs : List Value} {r1 : dO ByteArray} {il ic ib ia iz : Nat} {vals : List (Option Value)} {L : Nat → Bool} {V : Nat → Value} {X X' : World}
theorem NJ.zero (hs:Step (fun _=>False) w0 X) (hr:bC R w0 j0 d) (hown:w0.ownsRow base T 1 v0 n xs) (hb:w0.heap[b]?=some (oF v0)):NJ R j0 d b w0 oF base T v0 n xs r1 il ic ib ia iz vals (fun _=>false) V X:=
 ⟨fun _ _ _ h=>(nomatch h),gJ,gJ,gJ,fun _=>hs.owns hown (fun _ _ h=>h),⟨j0,hr.quiet hs,rfl⟩,hs.mono fe,hs.keep hb (fun h=>h),gJ,gJ,gJ,gJ⟩
theorem NJ.up (h:NJ R j0 d b w0 oF base T v0 n xs r1 il ic ib ia iz vals L V X) (i:Nat) {v:Value} (hv:vals[i]?=some (some v)) (h1:i≠ic) (h2:i≠ib) (h3:i≠ia) (h4:i≠iz):NJ R j0 d b w0 oF base T v0 n xs r1 il ic ib ia iz vals (dP L i) (iW V i v) X:=by
 refine⟨iO h.gZ i v (fun u hu=>by rw[hv]at hu;cases hu;rfl),?_,?_,?_,?_,?_,h.st,?_,?_,?_,?_,?_⟩
 ·rw[aB _ (Ne.symm h1),bV _ _ (Ne.symm h1)];exact h.vc
 ·rw[aB _ (Ne.symm h2),aB _ (Ne.symm h3),bV _ _ (Ne.symm h2)];exact h.vb
 ·rw[aB _ (Ne.symm h3),bV _ _ (Ne.symm h3)];exact h.va
 ·rw[aB _ (Ne.symm h3)];exact h.own
 ·rw[aB _ (Ne.symm h1)];exact h.rd
 ·rw[aB _ (Ne.symm h4),bV _ _ (Ne.symm h3)];exact h.blk
 ·rw[aB _ (Ne.symm h2),aB _ (Ne.symm h1)];exact h.qb
 ·rw[aB _ (Ne.symm h3),aB _ (Ne.symm h2),aB _ (Ne.symm h1)];exact h.qa
 ·rw[aB _ (Ne.symm h4),aB _ (Ne.symm h3)];exact h.qz
 ·rw[aB _ (Ne.symm h3)];intro e;by_cases e2:il=i
  ·rw[e2];exact jE _ _
  ·rw[aB _ e2];exact h.ql e
theorem NJ.bU (h:NJ R j0 d b w0 oF base T v0 n xs r1 il ic ib ia iz vals L V X) (hL:L ic=false):L ib=false:=by
 cases e:L ib with
 |false=>rfl
 |true=>rw[h.qb e]at hL;cases hL
theorem NJ.QW (h:NJ R j0 d b w0 oF base T v0 n xs r1 il ic ib ia iz vals L V X) (hL:L ib=false):L ia=false:=by
 cases e:L ia with
 |false=>rfl
 |true=>rw[(h.qa e).1]at hL;cases hL
theorem NJ.Gz (h:NJ R j0 d b w0 oF base T v0 n xs r1 il ic ib ia iz vals L V X) (hL:L ia=false):L iz=false:=by
 cases e:L iz with
 |false=>rfl
 |true=>rw[h.qz e]at hL;cases hL
theorem NJ.call (ho:X6 R b w0 base v0 il ic ib ia iz) (h:NJ R j0 d b w0 oF base T v0 n xs r1 il ic ib ia iz vals L V X) (hL:L ic=false) (jU:vals[ic]?=some none) (hs:Step (·=R.rb) X X') {k:Nat} (hr:bC R X' k d) {s:ByteArray} (hx:r1=.ok s k):NJ R j0 d b w0 oF base T v0 n xs r1 il ic ib ia iz vals (dP L ic) (iW V ic (.string s)) X':=by
 have hB:=h.bU hL;have hA:=h.QW hB;have hZ:=h.Gz hA;obtain⟨n1,n2,n3,n4,n5,n6⟩:=ho.ne;have h1:=ho.rb;have h2:=ho.bb;refine⟨iO h.gZ ic _ (fun u hu=>by rw[jU]at hu;cases hu),fun _=>⟨s,k,hx,kR _ _ _⟩,?_,?_,?_,⟨k,hr,by rw[jE];exact⟨s,hx⟩⟩,h.st.trans (hs.mono ilQ),?_,fun _=>jE _ _,?_,?_,?_⟩
 ·rw[aB _ (Ne.symm n1),hB];intro e;cases e
 ·rw[aB _ (Ne.symm n2),hA];intro e;cases e
 ·intro _;exact hs.owns (h.own hA) oi
 ·have hb:=h.blk;rw[hZ]at hb;rw[aB _ (Ne.symm n3),hZ];exact hs.keep hb om
 ·rw[aB _ (Ne.symm n2),hA];intro e;cases e
 ·rw[aB _ (Ne.symm n3),hZ];intro e;cases e
 ·rw[aB _ (Ne.symm n2),hA];intro e;cases e
theorem NJ.build (ho:X6 R b w0 base v0 il ic ib ia iz) (h:NJ R j0 d b w0 oF base T v0 n xs r1 il ic ib ia iz vals L V X) (hL:L ib=false) (hC:L ic=true) (jU:vals[ib]?=some none) {s:ByteArray} (hs:V ic=.string s):NJ R j0 d b w0 oF base T v0 n xs r1 il ic ib ia iz vals (dP L ib) (iW V ib (.slice (some ⟨X.heap.size,0,none⟩) 1 1)) (X.alloc (.cells #[aY s] T)):=by
 have hA:=h.QW hL;have hZ:=h.Gz hA;obtain⟨n1,n2,n3,n4,n5,n6⟩:=ho.ne;have hst:Step (fun _=>False) X (X.alloc (.cells #[aY s] T)):=bJ.alloc _;refine⟨iO h.gZ ib _ (fun u hu=>by rw[jU]at hu;cases hu),?_,?_,?_,?_,?_,h.st.alloc _,?_,?_,?_,?_,?_⟩
 ·rw[aB _ n1,bV _ _ n1];exact h.vc
 ·intro _ _;obtain⟨s',k,h1,h2⟩:=h.vc hC;rw[hs]at h2;cases h2;exact⟨s,k,X.heap.size,h1,kR _ _ _,h.st.size,aA _ _⟩
 ·rw[aB _ (Ne.symm n4),hA];intro e;cases e
 ·intro _;exact hst.owns (h.own hA) (fun _ _ h=>h)
 ·rw[aB _ n1];obtain⟨i,h1,h2⟩:=h.rd;exact⟨i,h1.quiet hst,h2⟩
 ·have hb:=h.blk;rw[hZ]at hb;rw[aB _ (Ne.symm n5),hZ];exact hst.keep hb (fun h=>h)
 ·intro _;rw[aB _ n1];exact hC
 ·rw[aB _ (Ne.symm n4),hA];intro e;cases e
 ·rw[aB _ (Ne.symm n5),hZ];intro e;cases e
 ·rw[aB _ (Ne.symm n4),hA];intro e;cases e
theorem NJ.app (ho:X6 R b w0 base v0 il ic ib ia iz) (h:NJ R j0 d b w0 oF base T v0 n xs r1 il ic ib ia iz vals L V X) (hL:L ia=false) (hB:L ib=true) (hl:L il=true) (jU:vals[ia]?=some none) {s:ByteArray} {k:Nat} (hx:r1=.ok s k) {v':Value} (hown:X'.ownsRow base T 1 v' (n+1) (xs++[.string s])) (hg:X.grownBy X' v0.ownBlock) (hat:v'.ownBlock=v0.ownBlock∨v'.ownBlock=some X.heap.size):NJ R j0 d b w0 oF base T v0 n xs r1 il ic ib ia iz vals (dP L ia) (iW V ia v') X':=by
 have hZ:=h.Gz hL;obtain⟨n1,n2,n3,n4,n5,n6⟩:=ho.ne;have h1:=ho.rb;have h2:=ho.bb;have h3:=bM hg;have hC:=h.qb hB;refine⟨iO h.gZ ia _ (fun u hu=>by rw[jU]at hu;cases hu),?_,?_,?_,?_,?_,h.st.trans (h3.mono (fun _ _ e=>.inr (.inr e))),?_,?_,?_,?_,fun _=>by rw[aB _ ho.nl.2.2.1];exact hl⟩
 ·rw[aB _ n2,bV _ _ n2];exact h.vc
 ·intro _ e;rw[jE]at e;cases e
 ·intro _;rw[kR];refine⟨s,k,hx,hown,?_⟩;rcases hat with e|e
  ·exact .inl e
  ·exact .inr ⟨_,e,h.st.size⟩
 ·intro e;rw[jE]at e;cases e
 ·rw[aB _ n2];obtain⟨i,h4,h5⟩:=h.rd;exact⟨i,h4.step h3 (fun q hq e=>by have:=(ho.own q e).1;omega),h5⟩
 ·have hb:=h.blk;rw[hZ]at hb;rw[aB _ (Ne.symm n6),hZ];exact h3.keep hb (fun e=>by have:=(ho.own _ e).1;omega)
 ·rw[aB _ n4,aB _ n2];exact h.qb
 ·intro _;rw[aB _ n4,aB _ n2];exact⟨hB,hC⟩
 ·rw[aB _ (Ne.symm n6),hZ];intro e;cases e
theorem NJ.put (ho:X6 R b w0 base v0 il ic ib ia iz) (h:NJ R j0 d b w0 oF base T v0 n xs r1 il ic ib ia iz vals L V X) (hA:L ia=true) (jU:∀u,vals[iz]?=some (some u)→False) (hs:Step (·=b) X X') (hb:X'.heap[b]?=some (oF (V ia))) (v:Value):NJ R j0 d b w0 oF base T v0 n xs r1 il ic ib ia iz vals (dP L iz) (iW V iz v) X':=by
 obtain⟨n1,n2,n3,n4,n5,n6⟩:=ho.ne;have h1:=ho.rb;have h2:=ho.bb;have h3:=ho.bw;refine⟨iO h.gZ iz _ (fun u hu=>(jU u hu).elim),?_,?_,?_,?_,?_,h.st.trans (hs.mono (fun _ _ e=>.inr (.inl e))),?_,?_,?_,?_,?_⟩
 ·rw[aB _ n3,bV _ _ n3];exact h.vc
 ·rw[aB _ n6,hA];intro _ e;cases e
 ·rw[aB _ n6,bV _ _ n6];intro e;obtain⟨s,k,h4,h5,h6⟩:=h.va e;exact⟨s,k,h4,ji h5 hs (fun q hq e=>by have:=(h5.lt q hq).1;omega),h6⟩
 ·rw[aB _ n6,hA];intro e;cases e
 ·rw[aB _ n3];obtain⟨i,h4,h5⟩:=h.rd;exact⟨i,h4.step hs oi,h5⟩
 ·rw[jE,bV _ _ n6];exact hb
 ·rw[aB _ n5,aB _ n3];exact h.qb
 ·rw[aB _ n6,aB _ n5,aB _ n3];exact h.qa
 ·rw[aB _ n6];intro _;exact hA
 ·rw[aB _ n6,aB _ ho.nl.2.2.2];exact h.ql
theorem NJ.done (h:NJ R j0 d b w0 oF base T v0 n xs r1 il ic ib ia iz vals L V X) (hC:L ic=true) (hA:L ia=true) (hZ:L iz=true):∃s k v',r1=.ok s k∧bC R X k d∧X.heap[b]?=some (oF v')∧X.ownsRow base T 1 v' (n+1) (xs++[.string s])∧(v'.ownBlock=v0.ownBlock∨∃g,v'.ownBlock=some g∧w0.heap.size≤g)∧Step (fun q=>q=R.rb∨q=b∨v0.ownBlock=some q) w0 X:=by obtain⟨s,k,h1,h2,h3⟩:=h.va hA;obtain⟨i,h4,h5⟩:=h.rd;rw[hC]at h5;obtain⟨s',h6⟩:∃s,r1=.ok s i:=h5;rw[h1]at h6;cases h6;have hb:=h.blk;rw[hZ]at hb;exact⟨s,k,V ia,h1,h4,hb,h2,h3,h.st⟩
end
structure N2 (T:Nat) (mk:Value→Value→Obj) (R:fV) (w1:World) (b d:Nat) (X:World) (i:Nat) (la lb:List ByteArray) (va vb:Value):Prop where
 rd:bC R X i d
 blk:X.heap[b]?=some (mk va vb)
 oa:X.ownsRow w1.heap.size T 1 va la.length (la.map .string)
 ob:X.ownsRow w1.heap.size T 1 vb lb.length (lb.map .string)
 ne:∀q,va.ownBlock=some q→vb.ownBlock≠some q
 sa:∀s∈la,s.size≤9223372036854775807
 sb:∀s∈lb,s.size≤9223372036854775807
 few:la.length+lb.length≤8
 st:Step (fun q=>q=R.rb∨q=b) w1 X
section
variable {T : Nat} {mk : Value → Value → Obj} {R : fV} {w1 : World} {b d : Nat} {X X' : World} {i j : Nat} {la lb : List ByteArray} {va vb v' : Value}
theorem N2.quiet (h:N2 T mk R w1 b d X i la lb va vb) (hs:Step (fun _=>False) X X'):N2 T mk R w1 b d X' i la lb va vb:=
 ⟨h.rd.quiet hs,hs.keep h.blk (fun h=>h),hs.owns h.oa (fun _ _ h=>h),hs.owns h.ob (fun _ _ h=>h),h.ne,h.sa,h.sb,h.few,h.st.trans (hs.mono fe)⟩
theorem N2.read (h:N2 T mk R w1 b d X i la lb va vb) (hb:R.rb<b) (hw:R.rb<w1.heap.size) (hr:bC R X' j d) (hs:Step (·=R.rb) X X'):N2 T mk R w1 b d X' j la lb va vb:=
 ⟨hr,hs.keep h.blk om,hs.owns h.oa oi,hs.owns h.ob oi,h.ne,h.sa,h.sb,h.few,h.st.trans (hs.mono ilQ)⟩
theorem N2.err (h:N2 T mk R w1 b d X i la lb va vb) (hs:Step (·=R.rb) X X'):Step (fun q=>q=R.rb∨q=b) w1 X':=h.st.trans (hs.mono ilQ)
theorem N2.Nh (h:N2 T mk R w1 b d X i la lb va vb) (hb:R.rb<b) (hw:b<w1.heap.size) {s:ByteArray} (hr:bC R X' j d) (hk:X'.heap[b]?=some (mk v' vb)) (hown:X'.ownsRow w1.heap.size T 1 v' (la.length+1) (la.map .string++[.string s])) (hat:v'.ownBlock=va.ownBlock∨∃g,v'.ownBlock=some g∧X.heap.size≤g) (hs:Step (fun q=>q=R.rb∨q=b∨va.ownBlock=some q) X X') (hz:s.size≤9223372036854775807) (hlt:la.length+lb.length<8):N2 T mk R w1 b d X' j (la++[s]) lb v' vb:=by
 have hlen:(la++[s]).length=la.length+1:=by simp
 refine⟨hr,hk,by rw[hlen,List.map_append];exact hown,ji h.ob hs (fun q hq e=> ?_),fun q hq e=> ?_,?_,h.sb,by rw[hlen];omega,h.st.then hs (fun q hq e=> ?_)⟩
 ·have h1:=(h.ob.lt q hq).1;rcases e with e|e|e
  ·omega
  ·omega
  ·exact h.ne q e hq
 ·rcases hat with e2|⟨g,e2,e3⟩
  ·exact h.ne q (by rw[←e2];exact hq) e
  ·rw[e2]at hq;cases hq;have:=(h.ob.lt _ e).2;omega
 ·intro x hx;rcases List.mem_append.1 hx with hx|hx
  ·exact h.sa x hx
  ·rw[List.mem_singleton.1 hx];exact hz
 ·rcases e with e|e|e
  ·exact .inl e
  ·exact .inr e
  ·have:=(h.oa.lt q e).1;omega
theorem N2.pushB (h:N2 T mk R w1 b d X i la lb va vb) (hb:R.rb<b) (hw:b<w1.heap.size) {s:ByteArray} (hr:bC R X' j d) (hk:X'.heap[b]?=some (mk va v')) (hown:X'.ownsRow w1.heap.size T 1 v' (lb.length+1) (lb.map .string++[.string s])) (hat:v'.ownBlock=vb.ownBlock∨∃g,v'.ownBlock=some g∧X.heap.size≤g) (hs:Step (fun q=>q=R.rb∨q=b∨vb.ownBlock=some q) X X') (hz:s.size≤9223372036854775807) (hlt:la.length+lb.length<8):N2 T mk R w1 b d X' j la (lb++[s]) va v':=by
 have hlen:(lb++[s]).length=lb.length+1:=by simp
 refine⟨hr,hk,ji h.oa hs (fun q hq e=> ?_),by rw[hlen,List.map_append];exact hown,fun q hq e=> ?_,h.sa,?_,by rw[hlen];omega,h.st.then hs (fun q hq e=> ?_)⟩
 ·have h1:=(h.oa.lt q hq).1;rcases e with e|e|e
  ·omega
  ·omega
  ·exact h.ne q hq e
 ·rcases hat with e2|⟨g,e2,e3⟩
  ·exact h.ne q hq (by rw[←e2];exact e)
  ·rw[e2]at e;cases e;have:=(h.oa.lt _ hq).2;omega
 ·intro x hx;rcases List.mem_append.1 hx with hx|hx
  ·exact h.sb x hx
  ·rw[List.mem_singleton.1 hx];exact hz
 ·rcases e with e|e|e
  ·exact .inl e
  ·exact .inr e
  ·have:=(h.ob.lt q e).1;omega
theorem N2.names (h:N2 T mk R w1 b d X i la lb va vb):cu X (fun q=>w1.heap.size≤q) la va∧cu X (fun q=>w1.heap.size≤q) lb vb:=
 ⟨⟨h.sa,di.fA h.oa (fun q hq=>(h.oa.lt q hq).1)⟩,⟨h.sb,di.fA h.ob (fun q hq=>(h.ob.lt q hq).1)⟩⟩
end
def FU (w:World) (P:Nat→Prop) (g:Gn) (v:Value):Prop:=∃vl vt:Value,v=.agg #[vl,vt]∧cu w P g.aF vl∧cu w P g.types vt
theorem xY:wL FU:=⟨fun _ _ hs hP ⟨vl,vt,h1,h2,h3⟩=>⟨vl,vt,h1,bG.step _ _ hs hP h2,bG.step _ _ hs hP h3⟩,fun _ _ hp ⟨vl,vt,h1,h2,h3⟩=>⟨vl,vt,h1,bG.mono _ _ hp h2,bG.mono _ _ hp h3⟩⟩
def GnV (n0:Nat) (w':World) (a:Gn) (v:Value):Prop:=FU w' (fun k=>n0≤k) a v
theorem Hg (f:Nat) (R:fV) (w:World) (i d:Nat) (hl:nK R.l) (h:bC R w i d) (hno:jl f R.l i≠.out):Calls Tryz.prog 140 #[.agg #[dY R.rb 0]] w (aJ R d (GnV w.heap.size) (jl f R.l i) w):=by
 have HL:=ak hl;obtain⟨r,hr⟩:=aU (jl f R.l i);have HRR:Hid (r=if bD R.l i [60]then mF f R.l (i+1) [] []else .ok ⟨[],[]⟩ i):=by show _=_;rw[hr,jl]
 rw[←hr]at hno⊢;have eH:=ak hno;have pY:=aI h.blk;obtain⟨w1,hw1⟩:=aU (((w.alloc (.cells #[dY R.rb 0] 97)).alloc (.cells #[au,au] 42)).alloc (.cells #[au,au] 42));have cZ:Hid (Step (fun _=>False) w w1):=by show Step _ _ _;rw[hw1];exact((bJ.alloc _).alloc _).alloc _
 have jL:Hid (w1.heap[w.heap.size]?=some (.cells #[dY R.rb 0] 97 (0,0))):=by show _=_;rw[hw1];exact aN (aN (aA _ _))
 have jW:Hid (w1.heap[w.heap.size+1]?=some (.cells #[au,au] 42 (0,0))):=by show _=_;rw[hw1];exact aN (dX _ _ _)
 have HB1:Hid (w1.heap[w.heap.size+1+1]?=some (.cells #[au,au] 42 (0,0))):=by show _=_;rw[hw1];have h:=aA ((w.alloc (.cells #[dY R.rb 0] 97)).alloc (.cells #[au,au] 42)) (.cells #[au,au] 42);simpa using h
 have HW1:=ak hw1;have H1:=ak (h.quiet cZ.o);obtain⟨i0,hi0,hz0,hz1,hz2⟩:=info_parts Tryz.qf;have HI:=ak hi0;have HZ0:=ak hz0;have HZ1:=ak hz1;have HZ2:=ak hz2;have hbw:=aI HB1.o;clear hl h hno hr hw1 hi0 hz0 hz1 hz2;go_enter Tryz.func140,Tryz.ntmps140;go_upto_region 2 with fail
 rw[←HW1.o];obtain⟨b,hb⟩:=aU (w.heap.size+1+1);rw[←hb]at HB1 hbw⊢;have hrb:R.rb<b:=by omega
 have hwb:w.heap.size+1<b:=by omega
 have f_:Hid (∀X:World,Step (fun q=>q=R.rb∨q=b) w1 X→Step (·=R.rb) w X):=by show∀X,_;intro X hX;exact(cZ.o.mono fe).then hX oi
 have bY:Hid (∀X:World,Step (fun q=>q=R.rb∨q=b) w1 X→X.cell? ⟨w.heap.size,0,none⟩=some (.pointer (some ⟨R.rb,0,none⟩))):=by show∀X,_;intro X hX;exact aj (hX.keep jL.o om) 0 _ rfl
 have qL:Hid (∀X:World,Step (fun q=>q=R.rb∨q=b) w1 X→X.heap[w.heap.size+1]?=some (.cells #[au,au] 42 (0,0))):=by show∀X,_;intro X hX;exact hX.keep jW.o om
 have hsz1:=cZ.o.size;have rU:Hid (N2 9 (fun va vb=>.cells #[va,vb] 42 (0,0)) R w1 b d w1 i [] [] (.slice none 0 0) (.slice none 0 0)):=⟨H1.o,HB1.o,World.ownsRow_nil _ _ _ _,World.ownsRow_nil _ _ _ _,nJ,nJ,nJ,by simp,Step.refl _ _⟩;clear hb;have p0:=bY.o w1 bJ;go_wp2_with fail;cases hb:bD R.l i [60]with
 |false=>
  have HB:=ak hb;clear hb;refine(dJ R HL.o ⟨#[60]⟩ _ i d rU.o.rd dc HB.o).mono ?_;rintro e w2 ⟨rfl,hr2,h2⟩;have ou:=ak (rU.o.read hrb om hr2 h2);have ng:Hid (r=.ok ⟨[],[]⟩ i):=by show _=_;rw[HRR.o,HB.o,if_neg dc]
  clear hr2 h2 p0;have q0:=aj ou.o.blk 0 _ rfl;have q1:=aj ou.o.blk 1 _ rfl;obtain⟨⟨d0,d1⟩,z0,z1⟩:=N8 (qL.o w2 ou.o.st);go_wp2_with fail;refine bodyPost_ret (v:=.agg #[au,au]) (by simp[results,Tryz.results140,go_sem,d0,d1]) rfl ?_;have hs2:Step (·=w.heap.size+1) w2 ((w2.setCell ⟨w.heap.size+1,0,none⟩ (.slice none 0 0)).setCell ⟨w.heap.size+1,1,none⟩ (.slice none 0 0)):=((Step.refl (·=w.heap.size+1) _).setCell _ _ iI).setCell _ _ iI;exact aJ.dK ng.o rfl ⟨_,_,rfl,cu.nil _ _,cu.nil _ _⟩ (ou.o.rd.step hs2 oi) ((f_.o _ ou.o.st).then hs2 oi)
 |true=>
  have HB:=ak hb;clear hb;refine(cO R HL.o ⟨#[60]⟩ _ i d rU.o.rd dc HB.o).mono ?_;rintro e w2 ⟨rfl,hr2,h2⟩;have ou:=ak (rU.o.read hrb om hr2 h2);have ng:Hid (r=mF f R.l (i+1) [] []):=by show _=_;rw[HRR.o,HB.o,if_pos rfl]
  clear hr2 h2 p0;go_wp2_with fail;go_loopg [] f (fun gg wr=>gg≤f∧∃(i':Nat) (ls ts:List ByteArray) (vl vt:Value),r=mF gg R.l i' ls ts∧N2 9 (fun va vb=>.cells #[va,vb] 42 (0,0)) R w1 b d wr i' ls ts vl vt);case atStart=>exact⟨Nat.le_refl _,i+1,[],[],_,_,ng.o,ou.o⟩
  case round=>
   obtain⟨hgf,i',ls,ts,vl,vt,hrq,hst⟩:=hrel;obtain⟨gn,rfl⟩:∃gn,gk=gn+1:=by
    cases gk with
    |zero=>exact absurd hrq (by rw[mF];exact eH.o)
    |succ gn=>exact⟨gn,rfl⟩
   (have sS:Hid (r=(d_ (ls.length+ts.length) 8 R.l i').bind fun _ i=>(if(tokA R.l i).kind=2∧ts.length=0 then(jA R.l i).bind fun x j=>.ok (ls++[x],ts) j else(aS R.l i).bind fun x j=>.ok (ls,ts++[x]) j).bind fun p j=>if bD R.l j [44]then mF gn R.l (j+1) p.1 p.2 else(aH R.l j [62]).bind fun _ j=>.ok ⟨p.1,p.2⟩ j):=by show _=_;rw[hrq,mF]);obtain⟨oa,oc,rfl⟩:=a_ hst.oa;obtain⟨pa,pc,rfl⟩:=a_ hst.ob;have HST:=ak hst;have p0:=bY.o wr hst.st;have q0:=aj hst.blk 0 _ rfl;have q1:=aj hst.blk 1 _ rfl;have hfew:=hst.few;(have R1:IntKind.i64.wrap ((ls.length:Int)+(ts.length:Int))=((ls.length+ts.length:Nat):Int):=by rw[show((ls.length:Int)+(ts.length:Int))=((ls.length+ts.length:Nat):Int) by omega];exact IntWalk.i64_in _ om);clear hrq hst;go_wp2_with fail;clear R1;refine(lS R wr (ls.length+ts.length) 8 i' d HST.o.rd).mono ?_;rintro e w3 hp;cases hn:d_ (ls.length+ts.length) 8 R.l i' with
   |out=>exact(kH hn).elim
   |err c ln col=>rw[hn]at hp;obtain⟨rfl,s3⟩:=hp;exact⟨rfl,aJ.aX (c:=c) (ln:=ln) (col:=col) (by rw[sS.o,hn];rfl) rfl (f_.o _ (HST.o.err s3))⟩
   |ok u j=>
    have hji:j=i'∧ls.length+ts.length<8:=by
     unfold d_ at hn;split at hn
     ·cases hn
     ·cases hn;exact⟨rfl,by omega⟩
    obtain⟨rfl,GH⟩:=hji;have HN:=ak hn;rw[hn]at hp;obtain⟨⟨v,rfl,rfl⟩,hr3,s3⟩:=hp;have fJ:=ak (HST.o.read hrb om hr3 s3);(have kU:Hid (r=(if(tokA R.l j).kind=2∧ts.length=0 then(jA R.l j).bind fun x j=>.ok (ls++[x],ts) j else(aS R.l j).bind fun x j=>.ok (ls,ts++[x]) j).bind fun p j=>if bD R.l j [44]then mF gn R.l (j+1) p.1 p.2 else(aH R.l j [62]).bind fun _ j=>.ok ⟨p.1,p.2⟩ j):=by show _=_;rw[sS.o,HN.o];rfl);clear hn hr3 s3 p0 q0 q1;obtain⟨tk,htk⟩:=aU (tokA R.l j);(have J7:Hid (R.l[j]?=some tk):=by show _=_;rw[htk];exact fJ.o.rd.tok);have Om:=ak htk;obtain⟨cb,hcb⟩:=aU (tk.kind==2&&ts.length==0);have Ah:=ak hcb;(have hfd0:∀(a0 a1 a2 a3 a4:Value) (w:World),(Instr.field 157 (.agg #[a0,a1,a2,a3,a4]) 0).run Tryz.prog w=.ok a0 w:=fun _ _ _ _ _ _=>by kernel_rfl);clear htk hcb;(go_upto_region 5 with fail);go_cut [28] (fun s28 wx=>s28=.bool cb∧Step (fun _=>False) w3 wx);case first=>
     have p0:=bY.o w3 fJ.o.st;go_wp2_with fail;refine(kP R _ j d tk fJ.o.rd J7.o).mono ?_;rintro e w4 ⟨rfl,h4⟩;have hb4:=h4.keep fJ.o.blk (fun h=>h);have q1:=aj hb4 1 _ rfl;have iP:=ak h4;clear p0 h4 hb4;by_cases hk:tk.kind=2
     ·(have e1:((tk.kind:Int)==2)=true:=by rw[jS tk.kind 2 2 rfl,hk];rfl);obtain⟨b0,hb0⟩:∃b0,((ts.length:Int)==0)=b0:=⟨_,rfl⟩;(have hcb:cb=b0:=by rw[Ah.o,hk,←hb0,jS ts.length 0 0 rfl];rfl);have HC2:=ak hcb;clear hcb;go_wp2_with fail;go_meet;case rel=>exact⟨by rw[HC2.o],iP.o⟩
     ·(have e1:((tk.kind:Int)==2)=false:=by rw[jS tk.kind 2 2 rfl,beq_eq_false_iff_ne.2 hk]);(have hcb:cb=false:=by rw[Ah.o,beq_eq_false_iff_ne.2 hk];rfl);have HC2:=ak hcb;clear hcb;go_wp2_with fail;go_meet;case rel=>exact⟨by rw[HC2.o],iP.o⟩
    case rest=>
     obtain⟨rfl,hs4⟩:=hcut;obtain⟨w6,rfl⟩:=aU wc;have nU:=ak (fJ.o.quiet hs4);clear hs4;(go_upto_if 28 with fail);go_cut [] (fun wx=>∃(jn:Nat) (la lb:List ByteArray) (va vb:Value),r=(if bD R.l jn [44]then mF gn R.l (jn+1) la lb else(aH R.l jn [62]).bind fun _ j=>.ok ⟨la,lb⟩ j)∧N2 9 (fun va vb=>.cells #[va,vb] 42 (0,0)) R w1 b d wx jn la lb va vb);case first=>
      cases cb with
      |true=>
       (have hc:tk.kind=2∧ts.length=0:=by simpa using Ah.o.symm);(have uN:Hid (r=((jA R.l j).bind fun x j=>.ok (ls++[x],ts) j).bind fun p j=>if bD R.l j [44]then mF gn R.l (j+1) p.1 p.2 else(aH R.l j [62]).bind fun _ j=>.ok ⟨p.1,p.2⟩ j):=by show _=_;rw[kU.o,←Om.o,if_pos hc]);clear hc;have p0:=bY.o w6 nU.o.st;(go_upto_region 6 with fail);obtain⟨r1,hr1⟩:=aU (jA R.l j);have HR1:=ak hr1;(have vG:Hid (r1≠.out):=by show _≠_;rw[hr1];exact fun e=>zV e);(have ng:Hid (r=(r1.bind fun x j=>.ok (ls++[x],ts) j).bind fun p j=>if bD R.l j [44]then mF gn R.l (j+1) p.1 p.2 else(aH R.l j [62]).bind fun _ j=>.ok ⟨p.1,p.2⟩ j):=by show _=_;rw[uN.o,hr1]);have t_:Hid (X6 R b w6 w1.heap.size (.slice oa ls.length oc) 1 3 4 5 7):=⟨by decide,by decide,hrb,hbw,nU.o.st.size,fun q hq=>nU.o.oa.lt q hq⟩;have IB:Hid (∀X:World,Step (fun q=>q=R.rb∨q=b∨(Value.slice oa ls.length oc).ownBlock=some q) w6 X→X.cell? ⟨w.heap.size,0,none⟩=some (.pointer (some ⟨R.rb,0,none⟩))):=by
        show∀X,_;intro X hX;refine hX.cell (bY.o w6 nU.o.st) (fun e=> ?_);have e2:w.heap.size=R.rb∨w.heap.size=b∨(Value.slice oa ls.length oc).ownBlock=some w.heap.size:=e;rcases e2 with e2|e2|e2
        ·omega
        ·omega
        ·have:=(t_.o.own _ e2).1;omega
       obtain⟨Jx,hJx⟩:=aU (NJ R j d b w6 (fun v=>.cells #[v,.slice pa ts.length pc] 42 (0,0)) w1.heap.size 9 (.slice oa ls.length oc) ls.length (ls.map .string) r1 1 3 4 5 7 [some (.pointer (some ⟨b,0,none⟩)),some (.slice oa ls.length oc),some (.agg #[dY R.rb 0]),none,none,none,some (.pointer (some ⟨b,0,none⟩)),none]);have dL:=ak hJx;(have Ls:Hid (∀V,Jx (fun _=>false) V w6.drew):=by show∀V,_;intro V;rw[hJx];exact NJ.zero (bJ.drew) nU.o.rd nU.o.oa nU.o.blk);have U2:Hid (∀X:World,Step (fun q=>q=R.rb∨q=b∨(Value.slice oa ls.length oc).ownBlock=some q) w6 X→Step (fun q=>q=R.rb∨q=b) w1 X):=by
        show∀X,_;intro X hX;refine nU.o.st.then hX (fun q hq e=> ?_);rcases e with e|e|e
        ·exact .inl e
        ·exact .inr e
        ·have:=(t_.o.own _ e).1;omega
       clear hr1 hJx p0;refine bH kr Jx 8 rfl kr kr kr kr ?h0 ?hs ?hdone;case h0=>exact Ls.o _
       case hs=>
        refine⟨?_,?_,?_,?_,?_,?_,?_,?_,trivial⟩
        all_goals (intro L V X a ev dn hdf hL ax hJ;rw[dL.o]at hJ)
        ·have o3:=dn 3 rfl;change a.tmps[3]?.getD undef=.pointer (some ⟨b,0,none⟩)at o3;go_simp;exact⟨_,rfl,by rw[dL.o];exact hJ.up 0 rfl dc dc dc dc⟩
        ·have e29:=(ev 0 29 rfl (ax 0 rfl)).trans (hJ.gZ 0 _ rfl (ax 0 rfl));have hA:L 5=false:=by
          cases e:L 5 with
          |false=>rfl
          |true=>rw[hJ.ql e]at hL;cases hL
         have hb:=hJ.blk;rw[hJ.Gz hA]at hb;have q0:X.cell? ⟨b,0,none⟩=some (.slice oa ls.length oc):=aj hb 0 _ rfl;go_simp;exact⟨_,rfl,by rw[dL.o];exact hJ.up 1 rfl dc dc dc dc⟩
        ·have o1:=dn 1 rfl;change a.tmps[1]?.getD undef=.pointer (some ⟨w.heap.size,0,none⟩)at o1;have p0:=IB.o X hJ.st;go_simp;exact⟨_,rfl,by rw[dL.o];exact hJ.up 2 rfl dc dc dc dc⟩
        ·have e31:=(ev 2 31 rfl (ax 2 rfl)).trans (hJ.gZ 2 _ rfl (ax 2 rfl));obtain⟨i9,y1,y2⟩:=hJ.rd;rw[hL]at y2;have y3:i9=j:=y2;subst y3;go_simp;refine(uZ R HL.o X i9 d y1).mono ?_;intro e wq hp;rw[←HR1.o]at hp;cases hx:r1 with
         |out=>exact absurd hx vG.o
         |err cc ln col=>rw[hx]at hp;obtain⟨rfl,hs⟩:=hp;exact⟨hdf,aJ.aX (c:=cc) (ln:=ln) (col:=col) (by rw[ng.o,hx];rfl) rfl (f_.o _ ((U2.o X hJ.st).trans (hs.mono ilQ)))⟩
         |ok s9 k9=>have hx0:=hx;rw[hx]at hp;obtain⟨⟨v,rfl,rfl⟩,hr,hs⟩:=hp;exact⟨_,rfl,by rw[dL.o];exact hJ.call t_.o hL rfl hs hr hx0⟩
        ·obtain⟨s9,k9,y1,y2⟩:=hJ.vc (ax 3 rfl);have e32:=(ev 3 32 rfl (ax 3 rfl)).trans y2;go_simp;exact⟨_,rfl,by rw[dL.o];exact hJ.build t_.o hL (ax 3 rfl) rfl y2⟩
        ·have e30:=(ev 1 30 rfl (ax 1 rfl)).trans (hJ.gZ 1 _ rfl (ax 1 rfl));have e33:=ev 4 33 rfl (ax 4 rfl);obtain⟨s9,k9,g9,y1,y2,y3,y4⟩:=hJ.vb (ax 4 rfl) hL;have hon:=hJ.own hL;have hwz:=Nat.le_trans t_.o.bw hJ.st.size;have hfw:=nU.o.few;refine fF _ (g9+1) (.tmp 30) (.tmp 33) 40 rfl w1.heap.size 9 i0 (.string ⟨#[]⟩) 1 16 Tryz.underlying40 HI.o HZ0.o HZ1.o HZ2.o rfl dc (.slice oa ls.length oc) ls.length (ls.map .string) (by rw[bF];exact e30) hon (V 4) 1 [.string s9] (by rw[bF];exact e33) (by rw[y2];exact Row.new y4 dc) rfl (aP rfl) (by unfold maxLen;omega) om hwz ?_;intro v8 w8 oU lJ Aa;exact⟨v8,rfl,by rw[dL.o];exact hJ.app t_.o hL (ax 4 rfl) (ax 1 rfl) rfl y1 oU lJ Aa⟩
        ·have o3:=dn 3 rfl;change a.tmps[3]?.getD undef=.pointer (some ⟨b,0,none⟩)at o3;go_simp;exact⟨_,rfl,by rw[dL.o];exact hJ.up 6 rfl dc dc dc dc⟩
        ·have e35:=(ev 6 35 rfl (ax 6 rfl)).trans (hJ.gZ 6 _ rfl (ax 6 rfl));obtain⟨s9,k9,y1,y2,y3⟩:=hJ.va (ax 5 rfl);obtain⟨a9,c9,hV⟩:=a_ y2;have e34:=(ev 5 34 rfl (ax 5 rfl)).trans hV;have hb:=hJ.blk;rw[hL]at hb;have gV:∃v,X.cell? ⟨b,0,none⟩=some v:=⟨_,aj hb 0 _ rfl⟩;obtain⟨vc,FO⟩:=gV;have hfz:X.frozen? ⟨b,0,none⟩=false:=aG hb 0;go_simp;exact⟨undef,by rw[dL.o];exact hJ.put t_.o (ax 5 rfl) (fun u hu=>by cases hu) (bJ.setCell _ _ iI) (by rw[←hV];exact aV hb 0 (V 5)) undef⟩
       case hdone=>intro L V X hall hJ;rw[dL.o]at hJ;obtain⟨s9,k9,v9,h1,h2,h3,h4,h5,h6⟩:=hJ.done (hall 3 dc) (hall 5 dc) (hall 7 dc);(have EU:jA R.l j=.ok s9 k9:=by rw[←HR1.o];exact h1);have hsz:=xK HL.o nU.o.rd.lt EU;rw[show List.range 8=[0,1,2,3,4,5,6,7] from rfl];simp only[kC,fU,List.getElem?_toArray,List.getElem?_cons_zero,List.getElem?_cons_succ,Option.bind_some,Act.put,List.setIfInBounds_toArray,List.set_cons_zero,List.set_cons_succ];(have Ef:Hid (r=(if bD R.l k9 [44]then mF gn R.l (k9+1) (ls++[s9]) ts else(aH R.l k9 [62]).bind fun _ j=>.ok ⟨(ls++[s9]),ts⟩ j)):=by show _=_;rw[uN.o,EU];rfl);have kK:Hid (N2 9 (fun va vb=>.cells #[va,vb] 42 (0,0)) R w1 b d X k9 (ls++[s9]) ts v9 (.slice pa ts.length pc)):=nU.o.Nh hrb hbw h2 h3 h4 h5 h6 hsz GH;clear hJ hall h1 h2 h3 h4 h5 h6 EU hsz;go_wp2_with fail;go_meet;case rel=>exact⟨k9,_,_,_,_,Ef.o,kK.o⟩
      |false=>
       (have hc:¬(tk.kind=2∧ts.length=0):=by intro hc;have h9:=Ah.o;rw[hc.1,hc.2]at h9;cases h9);(have uN:Hid (r=((aS R.l j).bind fun x j=>.ok (ls,ts++[x]) j).bind fun p j=>if bD R.l j [44]then mF gn R.l (j+1) p.1 p.2 else(aH R.l j [62]).bind fun _ j=>.ok ⟨p.1,p.2⟩ j):=by show _=_;rw[kU.o,←Om.o,if_neg hc]);clear hc;have p0:=bY.o w6 nU.o.st;(go_upto_region 7 with fail);obtain⟨r1,hr1⟩:=aU (aS R.l j);have HR1:=ak hr1;(have vG:Hid (r1≠.out):=by show _≠_;rw[hr1];exact fun e=>iF e);(have ng:Hid (r=(r1.bind fun x j=>.ok (ls,ts++[x]) j).bind fun p j=>if bD R.l j [44]then mF gn R.l (j+1) p.1 p.2 else(aH R.l j [62]).bind fun _ j=>.ok ⟨p.1,p.2⟩ j):=by show _=_;rw[uN.o,hr1]);have t_:Hid (X6 R b w6 w1.heap.size (.slice pa ts.length pc) 1 4 5 6 8):=⟨by decide,by decide,hrb,hbw,nU.o.st.size,fun q hq=>nU.o.ob.lt q hq⟩;have IB:Hid (∀X:World,Step (fun q=>q=R.rb∨q=b∨(Value.slice pa ts.length pc).ownBlock=some q) w6 X→X.cell? ⟨w.heap.size,0,none⟩=some (.pointer (some ⟨R.rb,0,none⟩))):=by
        show∀X,_;intro X hX;refine hX.cell (bY.o w6 nU.o.st) (fun e=> ?_);have e2:w.heap.size=R.rb∨w.heap.size=b∨(Value.slice pa ts.length pc).ownBlock=some w.heap.size:=e;rcases e2 with e2|e2|e2
        ·omega
        ·omega
        ·have:=(t_.o.own _ e2).1;omega
       obtain⟨Jx,hJx⟩:=aU (NJ R j d b w6 (fun v=>.cells #[.slice oa ls.length oc,v] 42 (0,0)) w1.heap.size 9 (.slice pa ts.length pc) ts.length (ts.map .string) r1 1 4 5 6 8 [some (.pointer (some ⟨b,1,none⟩)),some (.slice pa ts.length pc),some (.pointer (some ⟨w.heap.size,0,none⟩)),some (.pointer (some ⟨R.rb,0,none⟩)),none,none,none,some (.pointer (some ⟨b,1,none⟩)),none]);have dL:=ak hJx;(have Ls:Hid (∀V,Jx (fun _=>false) V w6.drew):=by show∀V,_;intro V;rw[hJx];exact NJ.zero (bJ.drew) nU.o.rd nU.o.ob nU.o.blk);have U2:Hid (∀X:World,Step (fun q=>q=R.rb∨q=b∨(Value.slice pa ts.length pc).ownBlock=some q) w6 X→Step (fun q=>q=R.rb∨q=b) w1 X):=by
        show∀X,_;intro X hX;refine nU.o.st.then hX (fun q hq e=> ?_);rcases e with e|e|e
        ·exact .inl e
        ·exact .inr e
        ·have:=(t_.o.own _ e).1;omega
       clear hr1 hJx p0;refine bH kr Jx 9 rfl kr kr kr kr ?h0 ?hs ?hdone;case h0=>exact Ls.o _
       case hs=>
        refine⟨?_,?_,?_,?_,?_,?_,?_,?_,?_,trivial⟩
        all_goals (intro L V X a ev dn hdf hL ax hJ;rw[dL.o]at hJ)
        ·have o3:=dn 3 rfl;change a.tmps[3]?.getD undef=.pointer (some ⟨b,0,none⟩)at o3;go_simp;exact⟨_,rfl,by rw[dL.o];exact hJ.up 0 rfl dc dc dc dc⟩
        ·have e36:=(ev 0 36 rfl (ax 0 rfl)).trans (hJ.gZ 0 _ rfl (ax 0 rfl));have hA:L 6=false:=by
          cases e:L 6 with
          |false=>rfl
          |true=>rw[hJ.ql e]at hL;cases hL
         have hb:=hJ.blk;rw[hJ.Gz hA]at hb;have q1:X.cell? ⟨b,1,none⟩=some (.slice pa ts.length pc):=aj hb 1 _ rfl;go_simp;exact⟨_,rfl,by rw[dL.o];exact hJ.up 1 rfl dc dc dc dc⟩
        ·have o1:=dn 1 rfl;change a.tmps[1]?.getD undef=.pointer (some ⟨w.heap.size,0,none⟩)at o1;go_simp;exact⟨_,rfl,by rw[dL.o];exact hJ.up 2 rfl dc dc dc dc⟩
        ·have e38:=(ev 2 38 rfl (ax 2 rfl)).trans (hJ.gZ 2 _ rfl (ax 2 rfl));have p0:=IB.o X hJ.st;go_simp;exact⟨_,rfl,by rw[dL.o];exact hJ.up 3 rfl dc dc dc dc⟩
        ·have e39:=(ev 3 39 rfl (ax 3 rfl)).trans (hJ.gZ 3 _ rfl (ax 3 rfl));obtain⟨i9,y1,y2⟩:=hJ.rd;rw[hL]at y2;have y3:i9=j:=y2;subst y3;go_simp;refine(name_any R HL.o X i9 d y1).mono ?_;intro e wq hp;rw[←HR1.o]at hp;cases hx:r1 with
         |out=>exact absurd hx vG.o
         |err cc ln col=>rw[hx]at hp;obtain⟨rfl,hs⟩:=hp;exact⟨hdf,aJ.aX (c:=cc) (ln:=ln) (col:=col) (by rw[ng.o,hx];rfl) rfl (f_.o _ ((U2.o X hJ.st).trans (hs.mono ilQ)))⟩
         |ok s9 k9=>have hx0:=hx;rw[hx]at hp;obtain⟨⟨v,rfl,rfl⟩,hr,hs⟩:=hp;exact⟨_,rfl,by rw[dL.o];exact hJ.call t_.o hL rfl hs hr hx0⟩
        ·obtain⟨s9,k9,y1,y2⟩:=hJ.vc (ax 4 rfl);have e40:=(ev 4 40 rfl (ax 4 rfl)).trans y2;go_simp;exact⟨_,rfl,by rw[dL.o];exact hJ.build t_.o hL (ax 4 rfl) rfl y2⟩
        ·have e37:=(ev 1 37 rfl (ax 1 rfl)).trans (hJ.gZ 1 _ rfl (ax 1 rfl));have e41:=ev 5 41 rfl (ax 5 rfl);obtain⟨s9,k9,g9,y1,y2,y3,y4⟩:=hJ.vb (ax 5 rfl) hL;have hon:=hJ.own hL;have hwz:=Nat.le_trans t_.o.bw hJ.st.size;have hfw:=nU.o.few;refine fF _ (g9+1) (.tmp 37) (.tmp 41) 40 rfl w1.heap.size 9 i0 (.string ⟨#[]⟩) 1 16 Tryz.underlying40 HI.o HZ0.o HZ1.o HZ2.o rfl dc (.slice pa ts.length pc) ts.length (ts.map .string) (by rw[bF];exact e37) hon (V 5) 1 [.string s9] (by rw[bF];exact e41) (by rw[y2];exact Row.new y4 dc) rfl (aP rfl) (by unfold maxLen;omega) om hwz ?_;intro v8 w8 oU lJ Aa;exact⟨v8,rfl,by rw[dL.o];exact hJ.app t_.o hL (ax 5 rfl) (ax 1 rfl) rfl y1 oU lJ Aa⟩
        ·have o3:=dn 3 rfl;change a.tmps[3]?.getD undef=.pointer (some ⟨b,0,none⟩)at o3;go_simp;exact⟨_,rfl,by rw[dL.o];exact hJ.up 7 rfl dc dc dc dc⟩
        ·have e43:=(ev 7 43 rfl (ax 7 rfl)).trans (hJ.gZ 7 _ rfl (ax 7 rfl));obtain⟨s9,k9,y1,y2,y3⟩:=hJ.va (ax 6 rfl);obtain⟨a9,c9,hV⟩:=a_ y2;have e42:=(ev 6 42 rfl (ax 6 rfl)).trans hV;have hb:=hJ.blk;rw[hL]at hb;have gV:∃v,X.cell? ⟨b,1,none⟩=some v:=⟨_,aj hb 1 _ rfl⟩;obtain⟨vc,FO⟩:=gV;have hfz:X.frozen? ⟨b,1,none⟩=false:=aG hb 1;go_simp;exact⟨undef,by rw[dL.o];exact hJ.put t_.o (ax 6 rfl) (fun u hu=>by cases hu) (bJ.setCell _ _ iI) (by rw[←hV];exact aV hb 1 (V 6)) undef⟩
       case hdone=>intro L V X hall hJ;rw[dL.o]at hJ;obtain⟨s9,k9,v9,h1,h2,h3,h4,h5,h6⟩:=hJ.done (hall 4 dc) (hall 6 dc) (hall 8 dc);(have EU:aS R.l j=.ok s9 k9:=by rw[←HR1.o];exact h1);have hsz:=fC HL.o nU.o.rd.lt EU;rw[show List.range 9=[0,1,2,3,4,5,6,7,8] from rfl];simp only[kC,fU,List.getElem?_toArray,List.getElem?_cons_zero,List.getElem?_cons_succ,Option.bind_some,Act.put,List.setIfInBounds_toArray,List.set_cons_zero,List.set_cons_succ];(have Ef:Hid (r=(if bD R.l k9 [44]then mF gn R.l (k9+1) ls (ts++[s9])else(aH R.l k9 [62]).bind fun _ j=>.ok ⟨ls,(ts++[s9])⟩ j)):=by show _=_;rw[uN.o,EU];rfl);have kK:Hid (N2 9 (fun va vb=>.cells #[va,vb] 42 (0,0)) R w1 b d X k9 ls (ts++[s9]) (.slice oa ls.length oc) v9):=nU.o.pushB hrb hbw h2 h3 h4 h5 h6 hsz GH;clear hJ hall h1 h2 h3 h4 h5 h6 EU hsz;go_wp2_with fail;go_meet;case rel=>exact⟨k9,_,_,_,_,Ef.o,kK.o⟩
     case rest=>
      obtain⟨jn,la,lb,va,vb,hrn,hls⟩:=hcut;obtain⟨w9,rfl⟩:=aU wc;obtain⟨a1,c1,rfl⟩:=a_ hls.oa;obtain⟨a2,c2,rfl⟩:=a_ hls.ob;have iD:=ak hls;have vG:=ak hrn;clear hls hrn;have p0:=bY.o w9 iD.o.st;go_wp2_with fail;cases hc:bD R.l jn [44]with
      |true=>
       have HC:=ak hc;clear hc;refine(cO R HL.o ⟨#[44]⟩ _ jn d iD.o.rd dc HC.o).mono ?_;rintro e wa ⟨rfl,hra,sa⟩;have iZ:=ak (iD.o.read hrb om hra sa);(have O9:Hid (r=mF gn R.l (jn+1) la lb):=by show _=_;rw[vG.o,HC.o,if_pos rfl]);clear hra sa p0;go_wp2_with fail;go_roundg gn;case rel=>exact⟨by omega,jn+1,la,lb,_,_,O9.o,iZ.o⟩
       case measure=>omega
      |false=>
       have HC:=ak hc;clear hc;refine(dJ R HL.o ⟨#[44]⟩ _ jn d iD.o.rd dc HC.o).mono ?_;rintro e wa ⟨rfl,hra,sa⟩;have iZ:=ak (iD.o.read hrb om hra sa);(have O9:Hid (r=(aH R.l jn [62]).bind fun _ j=>.ok ⟨la,lb⟩ j):=by show _=_;rw[vG.o,HC.o,if_neg dc]);clear hra sa p0;have p0:=bY.o wa iZ.o.st;go_wp2_with fail;refine(dH R HL.o wa.heap.size ⟨#[62]⟩ _ jn d (iZ.o.rd.quiet (bJ.alloc _)) dc (aj (aA _ _) 0 _ rfl)).mono ?_;rintro e wb hp;have hp2:aJ R d iC (aH R.l jn [62]) _ e wb:=hp;cases hn:aH R.l jn [62]with
       |out=>exact(dw hn).elim
       |err c ln col=>rw[hn]at hp2;obtain⟨rfl,sb⟩:=hp2;exact⟨rfl,aJ.aX (c:=c) (ln:=ln) (col:=col) (by rw[O9.o,hn];rfl) rfl (f_.o _ (iZ.o.err (((Step.refl (·=R.rb) _).alloc _).trans sb)))⟩
       |ok u2 jz=>have Ry:=ak hn;rw[hn]at hp2;obtain⟨⟨v,rfl,rfl⟩,tX,sb⟩:=hp2;have rJ:=ak (iZ.o.read hrb om tX (((Step.refl (·=R.rb) _).alloc _).trans sb));(have KU:Hid (r=.ok ⟨la,lb⟩ jz):=by show _=_;rw[O9.o,Ry.o];rfl);clear hn tX sb p0 hp;have q0:=aj rJ.o.blk 0 _ rfl;have q1:=aj rJ.o.blk 1 _ rfl;obtain⟨⟨d0,d1⟩,z0,z1⟩:=N8 (qL.o wb rJ.o.st);have HNA:=ak rJ.o.names;go_wp2_with fail;refine bodyPost_ret (v:=.agg #[.slice a1 la.length c1,.slice a2 lb.length c2]) (by simp[results,Tryz.results140,go_sem,d0,d1]) rfl ?_;have hs2:Step (·=w.heap.size+1) wb ((wb.setCell ⟨w.heap.size+1,0,none⟩ (.slice a1 la.length c1)).setCell ⟨w.heap.size+1,1,none⟩ (.slice a2 lb.length c2)):=((Step.refl (·=w.heap.size+1) _).setCell _ _ iI).setCell _ _ iI;exact aJ.dK KU.o rfl ⟨_,_,rfl,bG.mono _ _ oi (bG.step _ _ hs2 oi HNA.o.1),bG.mono _ _ oi (bG.step _ _ hs2 oi HNA.o.2)⟩ (rJ.o.rd.step hs2 oi) ((f_.o _ rJ.o.st).then hs2 oi)
theorem S9 (R:fV) (hl:nK R.l) (w:World) (i d:Nat) (h:bC R w i d):Calls Tryz.prog 112 #[.agg #[dY R.rb 0]] w (aJ R d EC (.ok (rE R.l i) (oz R.l i)) w):=
 (Gv R hl w i d h).mono fun _ _ hp=>⟨⟨_,hp.1,rfl⟩,hp.2⟩
theorem FV {R:fV} (hl:nK R.l) {i:Nat} (hi:i<R.l.length):(rE R.l i).size≤9223372036854775807:=by
 unfold rE;split
 ·exact yO (hl.text _ (List.mem_of_getElem? (rX hi)))
 ·decide
structure AJ (R:fV) (i0 d:Nat) (w1:World) (zc:Array Value) (nc:ByteArray→Array Value) (T:Nat) (r1:dO ByteArray) (ic ib il iz:Nat) (vals:List (Option Value)) (L:Nat→Bool) (V:Nat→Value) (X:World):Prop where
 gZ:∀(i:Nat) v,vals[i]?=some (some v)→L i=true→V i=v
 vc:L ic=true→∃s k,r1=.ok s k∧V ic=.string s
 vb:L ib=true→∃s k,r1=.ok s k∧V ib=.agg (nc s)
 vl:L il=true→∃b,V il=.pointer (some ⟨b,0,none⟩)∧w1.heap.size≤b∧(L iz=false→X.heap[b]?=some (.cells zc T (0,0)))∧(L iz=true→∃s k,r1=.ok s k∧X.heap[b]?=some (.cells (nc s) T (0,0)))
 rd:∃i,bC R X i d∧cond (L ic) (∃s,r1=.ok s i) (i=i0)
 st:Step (·=R.rb) w1 X
 qb:L ib=true→L ic=true
 qz:L iz=true→L ib=true∧L il=true
 qc:L ic=true→L 2=true
theorem zf {L:Nat→Bool} (i:Nat) {k:Nat} (h:L k=true):dP L i k=true:=by
 by_cases e:k=i
 ·rw[e];exact jE _ _
 ·rw[aB _ e];exact h
section
variable {R : fV} {i0 d : Nat} {w1 : World} {zc : Array Value} {nc : ByteArray → Array Value} {T : Nat} {r1 : dO ByteArray} {ic ib il iz : Nat} {vals : List (Option Value)} {L : Nat → Bool} {V : Nat → Value} {X X' : World}
theorem AJ.zero (hs:Step (fun _=>False) w1 X) (hr:bC R w1 i0 d):AJ R i0 d w1 zc nc T r1 ic ib il iz vals (fun _=>false) V X:=
 ⟨fun _ _ _ h=>(nomatch h),gJ,gJ,gJ,⟨i0,hr.quiet hs,rfl⟩,hs.mono fe,gJ,gJ,gJ⟩
theorem AJ.up (h:AJ R i0 d w1 zc nc T r1 ic ib il iz vals L V X) (i:Nat) {v:Value} (hv:vals[i]?=some (some v)) (h1:i≠ic) (h2:i≠ib) (h3:i≠il) (h4:i≠iz):AJ R i0 d w1 zc nc T r1 ic ib il iz vals (dP L i) (iW V i v) X:=by
 refine⟨iO h.gZ i v (fun u hu=>by rw[hv]at hu;cases hu;rfl),?_,?_,?_,?_,h.st,?_,?_,fun e=>zf i (h.qc (by rw[aB _ (Ne.symm h1)]at e;exact e))⟩
 ·rw[aB _ (Ne.symm h1),bV _ _ (Ne.symm h1)];exact h.vc
 ·rw[aB _ (Ne.symm h2),bV _ _ (Ne.symm h2)];exact h.vb
 ·rw[aB _ (Ne.symm h3),bV _ _ (Ne.symm h3),aB _ (Ne.symm h4)];exact h.vl
 ·rw[aB _ (Ne.symm h1)];exact h.rd
 ·rw[aB _ (Ne.symm h2),aB _ (Ne.symm h1)];exact h.qb
 ·rw[aB _ (Ne.symm h4),aB _ (Ne.symm h2),aB _ (Ne.symm h3)];exact h.qz
theorem AJ.move (h:AJ R i0 d w1 zc nc T r1 ic ib il iz vals L V X) (hs:Step (fun _=>False) X X'):AJ R i0 d w1 zc nc T r1 ic ib il iz vals L V X':=by
 refine⟨h.gZ,h.vc,h.vb,?_,?_,h.st.trans (hs.mono fe),h.qb,h.qz,h.qc⟩
 ·intro e;obtain⟨b,h1,h2,h3,h4⟩:=h.vl e;refine⟨b,h1,h2,fun e2=>hs.keep (h3 e2) (fun h=>h),fun e2=> ?_⟩;obtain⟨s,k,h5,h6⟩:=h4 e2;exact⟨s,k,h5,hs.keep h6 (fun h=>h)⟩
 ·obtain⟨i,h1,h2⟩:=h.rd;exact⟨i,h1.quiet hs,h2⟩
theorem AJ.Gz (h:AJ R i0 d w1 zc nc T r1 ic ib il iz vals L V X) (hL:L ic=false):L iz=false:=by
 cases e:L iz with
 |false=>rfl
 |true=>rw[h.qb (h.qz e).1]at hL;cases hL
theorem AJ.call (hne:ic≠ib∧ic≠il∧ic≠iz) (hw:R.rb<w1.heap.size) (h:AJ R i0 d w1 zc nc T r1 ic ib il iz vals L V X) (hL:L ic=false) (h2:L 2=true) (jU:vals[ic]?=some none) (hs:Step (·=R.rb) X X') {k:Nat} (hr:bC R X' k d) {s:ByteArray} (hx:r1=.ok s k):AJ R i0 d w1 zc nc T r1 ic ib il iz vals (dP L ic) (iW V ic (.string s)) X':=by
 have hZ:=h.Gz hL;obtain⟨n1,n2,n3⟩:=hne;refine⟨iO h.gZ ic _ (fun u hu=>by rw[jU]at hu;cases hu),fun _=>⟨s,k,hx,kR _ _ _⟩,?_,?_,⟨k,hr,by rw[jE];exact⟨s,hx⟩⟩,h.st.trans hs,fun _=>jE _ _,?_,fun _=>zf ic h2⟩
 ·rw[aB _ (Ne.symm n1),bV _ _ (Ne.symm n1)];exact h.vb
 ·rw[aB _ (Ne.symm n2),bV _ _ (Ne.symm n2),aB _ (Ne.symm n3)];intro e;obtain⟨b,h1,h2,h3,h4⟩:=h.vl e;exact⟨b,h1,h2,fun e2=>hs.keep (h3 e2) om,fun e2=>by rw[hZ]at e2;cases e2⟩
 ·rw[aB _ (Ne.symm n3),hZ];intro e;cases e
theorem AJ.build (hne:ic≠ib∧ib≠il∧ib≠iz) (h:AJ R i0 d w1 zc nc T r1 ic ib il iz vals L V X) (hC:L ic=true) (hL:L ib=false) (jU:vals[ib]?=some none) {s:ByteArray} (hs:V ic=.string s):AJ R i0 d w1 zc nc T r1 ic ib il iz vals (dP L ib) (iW V ib (.agg (nc s))) X:=by
 obtain⟨n1,n2,n3⟩:=hne;refine⟨iO h.gZ ib _ (fun u hu=>by rw[jU]at hu;cases hu),?_,?_,?_,?_,h.st,?_,?_,fun _=>zf ib (h.qc hC)⟩
 ·rw[aB _ n1,bV _ _ n1];exact h.vc
 ·intro _;obtain⟨s',k,h1,h2⟩:=h.vc hC;rw[hs]at h2;cases h2;exact⟨s,k,h1,kR _ _ _⟩
 ·rw[aB _ (Ne.symm n2),bV _ _ (Ne.symm n2),aB _ (Ne.symm n3)];exact h.vl
 ·rw[aB _ n1];exact h.rd
 ·intro _;rw[aB _ n1];exact hC
 ·rw[aB _ (Ne.symm n3)];intro e;obtain⟨h1,h2⟩:=h.qz e;rw[hL]at h1;cases h1
theorem AJ.alloc (hne:ic≠il∧ib≠il∧il≠iz) (h:AJ R i0 d w1 zc nc T r1 ic ib il iz vals L V X) (hL:L il=false) (jU:vals[il]?=some none):AJ R i0 d w1 zc nc T r1 ic ib il iz vals (dP L il) (iW V il (.pointer (some ⟨X.heap.size,0,none⟩))) (X.alloc (.cells zc T)):=by
 obtain⟨n1,n2,n3⟩:=hne;have hZ:L iz=false:=by
  cases e:L iz with
  |false=>rfl
  |true=>rw[(h.qz e).2]at hL;cases hL
 have hs:Step (fun _=>False) X (X.alloc (.cells zc T)):=bJ.alloc _;refine⟨iO h.gZ il _ (fun u hu=>by rw[jU]at hu;cases hu),?_,?_,?_,?_,h.st.alloc _,?_,?_,fun e=>zf il (h.qc (by rw[aB _ n1]at e;exact e))⟩
 ·rw[aB _ n1,bV _ _ n1];exact h.vc
 ·rw[aB _ n2,bV _ _ n2];exact h.vb
 ·intro _;refine⟨X.heap.size,kR _ _ _,h.st.size,fun _=>aA _ _,fun e=> ?_⟩;rw[aB _ (Ne.symm n3),hZ]at e;cases e
 ·rw[aB _ n1];obtain⟨i,h1,h2⟩:=h.rd;exact⟨i,h1.quiet hs,h2⟩
 ·rw[aB _ n2,aB _ n1];exact h.qb
 ·rw[aB _ (Ne.symm n3),hZ];intro e;cases e
theorem AJ.put (hne:ic≠iz∧ib≠iz∧il≠iz) (hw:R.rb<w1.heap.size) (h:AJ R i0 d w1 zc nc T r1 ic ib il iz vals L V X) (hB:L ib=true) (hA:L il=true) (jU:∀u,vals[iz]?=some (some u)→False) {s:ByteArray} {k:Nat} (hx:r1=.ok s k) {b:Nat} (hp:V il=.pointer (some ⟨b,0,none⟩)) (hs:Step (·=b) X X') (hb:X'.heap[b]?=some (.cells (nc s) T (0,0))) (v:Value):AJ R i0 d w1 zc nc T r1 ic ib il iz vals (dP L iz) (iW V iz v) X':=by
 obtain⟨n1,n2,n3⟩:=hne;obtain⟨b',h1,h2,-,-⟩:=h.vl hA;rw[hp]at h1;cases h1;refine⟨iO h.gZ iz _ (fun u hu=>(jU u hu).elim),?_,?_,?_,?_,h.st.then hs oi,?_,?_,fun e=>zf iz (h.qc (by rw[aB _ n1]at e;exact e))⟩
 ·rw[aB _ n1,bV _ _ n1];exact h.vc
 ·rw[aB _ n2,bV _ _ n2];exact h.vb
 ·intro _;rw[bV _ _ n3];exact⟨b,hp,h2,fun e=>(by rw[jE]at e;cases e),fun _=>⟨s,k,hx,hb⟩⟩
 ·rw[aB _ n1];obtain⟨i,h3,h4⟩:=h.rd;exact⟨i,h3.step hs oi,h4⟩
 ·rw[aB _ n2,aB _ n1];exact h.qb
 ·intro _;rw[aB _ n2,aB _ n3];exact⟨hB,hA⟩
theorem AJ.done (h:AJ R i0 d w1 zc nc T r1 ic ib il iz vals L V X) (hC:L ic=true) (hA:L il=true) (hZ:L iz=true):∃s k b,r1=.ok s k∧V il=.pointer (some ⟨b,0,none⟩)∧bC R X k d∧w1.heap.size≤b∧X.heap[b]?=some (.cells (nc s) T (0,0))∧Step (·=R.rb) w1 X:=by obtain⟨b,h1,h2,-,h3⟩:=h.vl hA;obtain⟨s,k,h4,h5⟩:=h3 hZ;obtain⟨i,h6,h7⟩:=h.rd;rw[hC]at h7;obtain⟨s',h8⟩:∃s,r1=.ok s i:=h7;rw[h4]at h8;cases h8;exact⟨s,k,b,h4,h1,h6,h2,h5,h.st⟩
end
end Go.Proofs.YtppekkbaoimpgaaGreat
