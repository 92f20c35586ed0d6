import Derived.Test.YtggjfinekcenpaaGreatPkK
set_option maxRecDepth 100000
set_option maxHeartbeats 80000000
namespace Go.Proofs.YtggjfinekcenpaaGreat
open Go.RowKit
open Vt
theorem Tryz.EZ:(Tryz.prog.info? 121).map (·.size)=some 11:=by kernel_rfl
theorem Tryz.Oz:(Tryz.prog.info? 121).map (fun i=>(i.zero,i.size,i.bytes))=some (some (.agg #[dG,ah 0,dG,dG,aW,ak,ak,ah 0,ah 0,ah 0,ah 0]),11,144):=by kernel_rfl
def Vj (n0:Nat) (w':World) (a:List Pm) (v:Value):Prop:=lT Pq w' (fun k=>n0≤k) a v
theorem yg (f:Nat) (ih:∀f',f'<f→vN f') (R:gI) (w:World) (i d:Nat) (en:ByteArray) (m:Nat) (hl:oJ R.l) (h:bC R w i d) (hd:d≤40) (hen:en.size≤100000) (hm:m≤1000) (hno:fZ f R.l i d en.data.toList m≠.out):Calls Tryz.prog 91 #[.agg #[gW R.rb 0],.string en,.int .i64 m] w (aK R d (Vj w.heap.size) (fZ f R.l i d en.data.toList m) w):=by
 have HL:=ai hl;have IH:=ai ih;obtain⟨el,hel⟩:=bF en.data.toList;have Az:=ai hel;have HEN:=ai hen;rw[←hel]at hno⊢;obtain⟨r,hr⟩:=bF (fZ f R.l i d el m);have HRR:Hid (r=if bG R.l i el then .ok [] (i+1)else qU f R.l i d el m []):=by show _=_;rw[hr,fZ]
 rw[←hr]at hno⊢;have fH:=ai hno;obtain⟨i0,hi0,hz0,hz1,hz2⟩:=info_parts Tryz.Oz;have HI:=ai hi0;have HZ0:=ai hz0;have HZ1:=ai hz1;have HZ2:=ai hz2;obtain⟨w1,hw1⟩:=bF (w.alloc (.cells #[gW R.rb 0] 75));have dH:=nS hw1
 have kK:=nB hw1
 have HW1:=ai hw1;have H1:=ai (h.quiet dH.o);have hn1:=aP kK.o;have uq:=aP h.blk;have hwz:R.rb<w1.heap.size:=by omega
 have bZ:Hid (∀X:World,Step (·=R.rb) w1 X→X.cell? ⟨w.heap.size,0,none⟩=some (.pointer (some ⟨R.rb,0,none⟩))):=fun X hX=>aj (hX.keep kK.o om) 0 _ rfl
 have d_:Hid (∀X:World,Step (·=R.rb) w1 X→Step (·=R.rb) w X):=fun X hX=>(dH.o.mono fe).trans hX
 clear hw1;have p0:=bZ.o w1 bg;have HIS:Hid (∀X i,bC R X i d→bG R.l i el=true→Calls Tryz.prog 77 #[.pointer (some ⟨R.rb,0,none⟩),.string en] X fun e w'=>e=.returned (.bool true)∧bC R w' (i+1) d∧Step (·=R.rb) X w'):=by intro X i hX hb;exact cZ R HL.o en X i d hX HEN.o (by rw[←Az.o];exact hb)
 have HISN:Hid (∀X i,bC R X i d→bG R.l i el=false→Calls Tryz.prog 77 #[.pointer (some ⟨R.rb,0,none⟩),.string en] X fun e w'=>e=.returned (.bool false)∧bC R w' i d∧Step (·=R.rb) X w'):=by intro X i hX hb;exact dU R HL.o en X i d hX HEN.o (by rw[←Az.o];exact hb)
 have HND:Hid (∀X g i,bC R X i d→X.cell? ⟨g,0,none⟩=some (.string en)→Calls Tryz.prog 78 #[.pointer (some ⟨R.rb,0,none⟩),.slice (some ⟨g,0,none⟩) 1 1] X (aK R d iJ (aJ R.l i el) X)):=by intro X g i hX hc;rw[Az.o];exact dL R HL.o g en X i d hX HEN.o hc
 clear ih hl h hno hr hel hen hi0 hz0 hz1 hz2;go_enter Tryz.func91,Tryz.ntmps91;go_upto_region 2 with fail
 rw[←HW1.o];go_wp2_with fail;cases hb:bG R.l i el with
 |true=>
  have HB:=ai hb;clear hb;refine(HIS.o _ i H1.o HB.o).mono ?_;rintro e w2 ⟨rfl,hr2,h2⟩;have kU:=ai (HRR.o.trans (if_pos HB.o))
  have HR2:=ai hr2;have HS2:=ai h2;clear hr2 h2 p0;go_wp2_with fail;go_ret;exact aK.dN kU.o rfl (lT.nil _ _) HR2.o (d_.o _ HS2.o)
 |false=>
  have HB:=ai hb;clear hb;refine(HISN.o _ i H1.o HB.o).mono ?_;rintro e w2 ⟨rfl,hr2,h2⟩;have kU:=ai (HRR.o.trans (wZ HB.o))
  have HR2:=ai hr2;have HS2:=ai h2;clear hr2 h2 p0;go_wp2_with fail;go_loopg [7] f (fun gg s7 wr=>gg≤f∧∃(i':Nat) (acc:List Pm) (xs:List Value),r=qU gg R.l i' d el m acc∧y_ Pq 121 11 R w1 d wr i' acc s7 xs);case atStart=>exact⟨Nat.le_refl _,i,[],[],kU.o,HR2.o,World.ownsRow_nil _ _ _ _,rfl,HS2.o⟩
  case round=>
   obtain⟨hgf,i',acc,xs,hrq,hst⟩:=hrel;obtain⟨gn,rfl⟩:∃gn,gk=gn+1:=by
    cases gk with
    |zero=>exact absurd hrq (by rw[qU];exact fH.o)
    |succ gn=>exact⟨gn,rfl⟩
   obtain⟨tk,htk⟩:=bF (tokA R.l i');(have tX:Hid (r=(eU acc.length m R.l i').bind fun _ i=>(bH R.l i).bind fun n j=>(aJ R.l j [58]).bind fun _ j=>(kG gn R.l j d).bind fun ty j=>if bG R.l j [44]then qU gn R.l (j+1) d el m (acc++[⟨n,ty,(tokA R.l i).line,(tokA R.l i).col⟩])else(aJ R.l j el).bind fun _ j=>.ok (acc++[⟨n,ty,(tokA R.l i).line,(tokA R.l i).col⟩]) j):=by show _=_;rw[hrq,qU]);obtain⟨oa,oc,rfl⟩:=b_ hst.ow;have HST:=ai hst;have p0:=bZ.o wr hst.st;clear hrq hst;go_wp2_with fail;refine(mr R wr acc.length m i' d HST.o.rd).mono ?_;rintro e w3 hp;cases hn:eU acc.length m R.l i' with
   |out=>exact(kX hn).elim
   |err c ln col=>rw[hn]at hp;obtain⟨rfl,s3⟩:=hp;exact⟨rfl,aK.aU c ln col (by rw[tX.o,hn];rfl) rfl (d_.o _ (HST.o.st.trans s3))⟩
   |ok u j=>
    have hji:j=i'∧acc.length<m:=by
     unfold eU at hn;split at hn
     ·cases hn
     ·cases hn;exact⟨rfl,by omega⟩
    obtain⟨rfl,hlt⟩:=hji;have uZ:=ai hn;rw[hn]at hp;obtain⟨⟨v,rfl,rfl⟩,hr3,s3⟩:=hp;have fP:=ai (HST.o.read kR hwz hr3 s3);(have qf:Hid (r=(bH R.l j).bind fun n k=>(aJ R.l k [58]).bind fun _ j=>(kG gn R.l j d).bind fun ty j=>if bG R.l j [44]then qU gn R.l (j+1) d el m (acc++[⟨n,ty,tk.line,tk.col⟩])else(aJ R.l j el).bind fun _ j=>.ok (acc++[⟨n,ty,tk.line,tk.col⟩]) j):=by show _=_;rw[tX.o,uZ.o,htk];rfl);have HT:=ai (show R.l[j]?=some tk by rw[htk];exact fP.o.rd.tok);have HW31:=fP.o.st.size;clear hn hr3 s3 p0 htk;obtain⟨r1,hr1⟩:=bF (bH R.l j);have HR1:=ai hr1;(have pV:Hid (r1≠.out):=by rw[hr1];exact fun e=>iQ e);(have Qn:Hid (r=r1.bind fun n k=>(aJ R.l k [58]).bind fun _ j=>(kG gn R.l j d).bind fun ty j=>if bG R.l j [44]then qU gn R.l (j+1) d el m (acc++[⟨n,ty,tk.line,tk.col⟩])else(aJ R.l j el).bind fun _ j=>.ok (acc++[⟨n,ty,tk.line,tk.col⟩]) j):=by show _=_;rw[qf.o,hr1]);obtain⟨Jx,hJx⟩:=bF (AJ R j d w3 #[.string ⟨#[]⟩,.int .i64 0,.string ⟨#[]⟩,.string ⟨#[]⟩,.bool false,.slice none 0 0,.slice none 0 0,.int .i64 0,.int .i64 0,.int .i64 0,.int .i64 0] (fun s=> #[.string s,.int .i64 0,.string ⟨#[]⟩,.string ⟨#[]⟩,.bool false,.slice none 0 0,.slice none 0 0,.int .i64 0,.int .i64 0,.int .i64 tk.line,.int .i64 tk.col]) 121 r1 5 6 7 8 [some (.pointer (some ⟨w.heap.size,0,none⟩)),some (.pointer (some ⟨R.rb,0,none⟩)),some (.agg #[ah tk.line,ah tk.col]),some (.pointer (some ⟨w.heap.size,0,none⟩)),some (.pointer (some ⟨R.rb,0,none⟩)),none,none,none,none]);have fQ:=ai hJx;clear hJx hr1;(go_upto_region 5 with fail);go_cut [8] (fun s8 wx=>∃(nm:ByteArray) (k b:Nat),bH R.l j=.ok nm k∧s8=.pointer (some ⟨b,0,none⟩)∧bC R wx k d∧w3.heap.size≤b∧wx.heap[b]?=some (.cells #[aI nm,ah 0,dG,dG,aW,ak,ak,ah 0,ah 0,ah tk.line,ah tk.col] 121 (0,0))∧Step (·=R.rb) w3 wx);case first=>
     (have zJ:Hid (∀X:World,Step (·=R.rb) w3 X→X.cell? ⟨w.heap.size,0,none⟩=some (.pointer (some ⟨R.rb,0,none⟩))):=by intro X hX;exact bZ.o X (fP.o.st.trans hX));refine bD kr Jx 9 rfl kr kr kr kr ?h0 ?hs ?hdone;case h0=>rw[fQ.o];exact AJ.zero (bg.drew) fP.o.rd
     case hs=>
      refine⟨?_,?_,?_,?_,?_,?_,?_,?_,?_,trivial⟩
      all_goals (intro L V X a ev ig hdf hL ay hJ;rw[fQ.o]at hJ)
      ·have o3:=ig 3 rfl;change a.tmps[3]?.getD undef=.pointer (some ⟨w.heap.size,0,none⟩)at o3;go_simp;exact AY
      ·have e19:=(ev 0 19 rfl (ay 0 rfl)).trans (hJ.iD 0 _ rfl (ay 0 rfl));have p0:=zJ.o X hJ.st;go_simp;exact AY
      ·have e20:=(ev 1 20 rfl (ay 1 rfl)).trans (hJ.iD 1 _ rfl (ay 1 rfl));have h5:L 5=false:=by
        cases e:L 5 with
        |false=>rfl
        |true=>exact absurd (hJ.qc e) (by rw[hL];decide)
       obtain⟨i9,y1,y2⟩:=hJ.rd;rw[h5]at y2;have y3:i9=j:=y2;subst y3;go_simp;refine(at_at R X i9 d tk y1 HT.o).mono ?_;rintro e wq ⟨rfl,hs⟩;exact⟨_,rfl,by rw[fQ.o];exact(hJ.move hs).up 2 rfl dc dc dc dc⟩
      ·have o3:=ig 3 rfl;change a.tmps[3]?.getD undef=.pointer (some ⟨w.heap.size,0,none⟩)at o3;go_simp;exact AY
      ·have e22:=(ev 3 22 rfl (ay 3 rfl)).trans (hJ.iD 3 _ rfl (ay 3 rfl));have p0:=zJ.o X hJ.st;go_simp;exact AY
      ·have e23:=(ev 4 23 rfl (ay 4 rfl)).trans (hJ.iD 4 _ rfl (ay 4 rfl));obtain⟨i9,y1,y2⟩:=hJ.rd;rw[hL]at y2;have y3:i9=j:=y2;subst y3;go_simp;refine(name_any R HL.o X i9 d y1).mono ?_;intro e wq hp;rw[←HR1.o]at hp;cases hx:r1 with
       |out=>exact absurd hx pV.o
       |err cc ln col=>rw[hx]at hp;obtain⟨rfl,hs⟩:=hp;exact⟨hdf,aK.aU cc ln col (by rw[Qn.o,hx];rfl) rfl (d_.o _ ((fP.o.st.trans hJ.st).trans hs))⟩
       |ok s9 k9=>have hx0:=hx;rw[hx]at hp;obtain⟨⟨v,rfl,rfl⟩,hr,hs⟩:=hp;exact⟨_,rfl,by rw[fQ.o];exact hJ.call dc om hL (ay 2 rfl) rfl hs hr hx0⟩
      ·have e21:=(ev 2 21 rfl (ay 2 rfl)).trans (hJ.iD 2 _ rfl (ay 2 rfl));obtain⟨s9,k9,y1,y2⟩:=hJ.vc (ay 5 rfl);have e24:=(ev 5 24 rfl (ay 5 rfl)).trans y2;go_simp;exact⟨_,rfl,by rw[fQ.o];exact hJ.build dc (ay 5 rfl) hL rfl y2⟩
      ·go_simp;exact⟨_,rfl,by rw[fQ.o];exact hJ.alloc dc hL rfl⟩
      ·obtain⟨b9,y1,y2,y3,-⟩:=hJ.vl (ay 7 rfl);obtain⟨s9,k9,y4,y5⟩:=hJ.vb (ay 6 rfl);have e8:=(ev 7 8 rfl (ay 7 rfl)).trans y1;have e25:=(ev 6 25 rfl (ay 6 rfl)).trans y5;refine fC 121 (.tmp 8) (.tmp 25) rfl b9 0 121 _ [.string s9,.int .i64 0,.string ⟨#[]⟩,.string ⟨#[]⟩,.bool false,.slice none 0 0,.slice none 0 0,.int .i64 0,.int .i64 0,.int .i64 tk.line,.int .i64 tk.col] (by rw[bW];exact e8) (by rw[bW];exact e25) (y3 hL) Tryz.EZ (Nat.le_of_eq rfl) (bn rfl) ?_;intro w9 iW hs9;exact⟨undef,rfl,by rw[fQ.o];exact hJ.put dc om (ay 6 rfl) (ay 7 rfl) (fun u hu=>by cases hu) y4 y1 hs9 iW undef⟩
     case hdone=>intro L V X hall hJ;rw[fQ.o]at hJ;obtain⟨s9,k9,b9,h1,h2,h3,h4,h5,h6⟩:=hJ.done (hall 5 dc) (hall 7 dc) (hall 8 dc);(have HD1:Hid (bH R.l j=.ok s9 k9):=by rw[←HR1.o];exact h1);have HD3:=ai h3;have HD5:=ai h5;have HD6:=ai h6;rw[PK];simp only[lW,dZ,List.getElem?_toArray,List.getElem?_cons_zero,List.getElem?_cons_succ,Option.bind_some,Act.put,List.setIfInBounds_toArray,List.set_cons_zero,List.set_cons_succ,h2];clear hJ hall h1 h2 h3 h5 h6;go_wp2_with fail;go_meet;case rel=>exact⟨s9,k9,b9,HD1.o,rfl,HD3.o,h4,HD5.o,HD6.o⟩
    case rest=>
     obtain⟨nm,k,b,hnm,rfl,II,hb5,hblk5,hs5⟩:=hcut;obtain⟨w5,rfl⟩:=bF wc;have LX:=ai hnm;have QH:=ai (fF HL.o fP.o.rd.lt hnm);have Ub:=ai II;have Am:=ai hblk5;have sK:=ai hs5;(have Ph:Hid (r=(aJ R.l k [58]).bind fun _ j=>(kG gn R.l j d).bind fun ty j=>if bG R.l j [44]then qU gn R.l (j+1) d el m (acc++[⟨nm,ty,tk.line,tk.col⟩])else(aJ R.l j el).bind fun _ j=>.ok (acc++[⟨nm,ty,tk.line,tk.col⟩]) j):=by show _=_;rw[qf.o,LX.o];rfl);clear hnm II hblk5 hs5;have p0:=bZ.o w5 (fP.o.st.trans sK.o);go_wp2_with fail;refine(dL R HL.o w5.heap.size ⟨#[58]⟩ _ k d (Ub.o.quiet (bg.alloc _)) dc (aj (aC _ _) 0 _ rfl)).mono ?_;rintro e w6 hp;have hp2:aK R d iJ (aJ R.l k [58]) _ e w6:=hp;cases hn:aJ R.l k [58]with
     |out=>exact(dJ hn).elim
     |err c ln col=>rw[hn]at hp2;obtain⟨rfl,sb⟩:=hp2;exact⟨rfl,aK.aU c ln col (by rw[Ph.o,hn];rfl) rfl (d_.o _ ((fP.o.st.trans sK.o).trans (((Step.refl (·=R.rb) _).alloc _).trans sb)))⟩
     |ok u2 k6=>
      have oQ:=ai hn;rw[hn]at hp2;obtain⟨⟨v,rfl,rfl⟩,o9,s6⟩:=hp2;have N7:Hid (Step (·=R.rb) w5 w6):=((Step.refl (·=R.rb) _).alloc _).trans s6;have yR:=ai o9;have EK:=ai (N7.o.keep Am.o om);have sN:=ai (sK.o.trans N7.o);(have D6:Hid (r=(kG gn R.l k6 d).bind fun ty j=>if bG R.l j [44]then qU gn R.l (j+1) d el m (acc++[⟨nm,ty,tk.line,tk.col⟩])else(aJ R.l j el).bind fun _ j=>.ok (acc++[⟨nm,ty,tk.line,tk.col⟩]) j):=by show _=_;rw[Ph.o,oQ.o];rfl);clear hn o9 s6 p0 hp;have p0:=bZ.o w6 (fP.o.st.trans sN.o);go_wp2_with fail;refine(IH.o gn om R _ k6 d HL.o yR.o hd (fun e=>fH.o (by rw[D6.o,e];rfl))).mono ?_;rintro e wx hp;have hp2:aK R d (TyV w6.heap.size) (kG gn R.l k6 d) _ e wx:=hp;cases hx:kG gn R.l k6 d with
      |out=>exact absurd (by rw[D6.o,hx];rfl) fH.o
      |err c ln col=>rw[hx]at hp2;obtain⟨rfl,sq⟩:=hp2;exact⟨rfl,aK.aU c ln col (by rw[D6.o,hx];rfl) rfl (d_.o _ ((fP.o.st.trans sN.o).trans sq))⟩
      |ok ty jx=>
       have HX:=ai hx;rw[hx]at hp2;obtain⟨⟨v,rfl,cs,rfl,hy⟩,hrx,hsx⟩:=hp2;obtain⟨mF,mG,mJ,mM,mO,mP,mQ,ta2,mV,mW,tl1,mX,rfl⟩:=hy.parts;have HY:=ai hy;have vO:=ai hrx;have qm:=ai (sN.o.trans hsx);have Ua:=ai (hsx.keep EK.o om);(have UK:Hid (r=if bG R.l jx [44]then qU gn R.l (jx+1) d el m (acc++[⟨nm,ty,tk.line,tk.col⟩])else(aJ R.l jx el).bind fun _ j=>.ok (acc++[⟨nm,ty,tk.line,tk.col⟩]) j):=by show _=_;rw[D6.o,HX.o];rfl);have hz5:=sK.o.size;have hz6:=N7.o.size;have hzx:=hsx.size;have hbx:=aP Ua.o;clear hx hp hy hrx hsx p0
       go_upto_region 8 with(refine aB (w:=wx) rfl 46 (.tmp 32) (.tmp 31) rfl b 1 121 _ [Value.int .i64 mF,aI mG,aI mJ,bK mM,.slice mO mP mQ,.slice ta2 mV mW,ah tl1,ah mX] rfl rfl Ua.o Tryz.gB (show 1+8≤11 by decide) (bn rfl) ?_
                             intro w7 hb7 xW)
       have FT:Hid (w7.heap[b]?=some (.cells #[aI nm,ah mF,aI mG,aI mJ,bK mM,.slice mO mP mQ,.slice ta2 mV mW,ah tl1,ah mX,ah tk.line,ah tk.col] 121 (0,0))):=hb7;have Kr:Hid (Step (·=R.rb) w3 w7):=qm.o.then xW oi;have HR7:=ai (vO.o.step xW oi);have HY7:Hid (gG w7 (fun q=>w3.heap.size≤q∧q≠b) ty [Value.int .i64 mF,aI mG,aI mJ,bK mM,.slice mO mP mQ,.slice ta2 mV mW,ah tl1,ah mX]):=gG.mono (fun q _ hq=>⟨by have:=hq.1;omega,hq.2⟩) _ _ (gG.step xW (fun q hq e=>hq.2 e) _ _ (gG.mono (P':=fun q=>w6.heap.size≤q∧q≠b) (fun q _ hq=>⟨hq,by have:=aP EK.o;omega⟩) _ _ HY.o));clear hb7 xW;(have bJ:Hid (∀(jj:Nat) v,[Value.string nm,ah mF,aI mG,aI mJ,bK mM,.slice mO mP mQ,.slice ta2 mV mW,ah tl1,ah mX,ah tk.line,ah tk.col][jj]?=some v→w7.cell? ⟨b,0+jj,none⟩=some v):=by intro jj v hv;rw[Nat.zero_add];exact aj FT.o jj v pO);obtain⟨w4,hw4⟩:=bF (w7.alloc (.cells [Value.string nm,ah mF,aI mG,aI mJ,bK mM,.slice mO mP mQ,.slice ta2 mV mW,ah tl1,ah mX,ah tk.line,ah tk.col].toArray 121));(have ji:Hid (jg w7 w4):=by rw[hw4];exact bg.alloc _);have fD:=ai ((fP.o.read kR hwz HR7.o Kr.o).quiet kR ji.o);have NZ:Hid (Pq w4 (fun q=>w3.heap.size≤q) ⟨nm,ty,tk.line,tk.col⟩ [Value.string nm,ah mF,aI mG,aI mJ,bK mM,.slice mO mP mQ,.slice ta2 mV mW,ah tl1,ah mX,ah tk.line,ah tk.col]):=⟨[Value.int .i64 mF,aI mG,aI mJ,bK mM,.slice mO mP mQ,.slice ta2 mV mW,ah tl1,ah mX],rfl,QH.o,gG.mono (fun q _ hq=>hq.1) _ _ (gG.step ji.o (fun _ _ h=>h) _ _ HY7.o)⟩;(have F5:Hid ((w7.alloc (.cells [Value.string nm,ah mF,aI mG,aI mJ,bK mM,.slice mO mP mQ,.slice ta2 mV mW,ah tl1,ah mX,ah tk.line,ah tk.col].toArray 121)).ownsRow w1.heap.size 121 11 (.slice oa acc.length oc) acc.length xs):=by rw[←hw4];exact fD.o.ow);have yU:Hid (Row (w7.alloc (.cells [Value.string nm,ah mF,aI mG,aI mJ,bK mM,.slice mO mP mQ,.slice ta2 mV mW,ah tl1,ah mX,ah tk.line,ah tk.col].toArray 121)) (w7.heap.size+1) (.slice (some ⟨w7.heap.size,0,none⟩) 1 1) 1 [Value.string nm,ah mF,aI mG,aI mJ,bK mM,.slice mO mP mQ,.slice ta2 mV mW,ah tl1,ah mX,ah tk.line,ah tk.col]):=Row.new (aC _ _) dc;(have F6:Hid (w1.heap.size≤(w7.alloc (.cells [Value.string nm,ah mF,aI mG,aI mJ,bK mM,.slice mO mP mQ,.slice ta2 mV mW,ah tl1,ah mX,ah tk.line,ah tk.col].toArray 121)).heap.size):=by rw[←hw4];exact fD.o.st.size);have UE:=ai hw4;have CQ:=ai hlt;have HMM:=ai hm;have dQ:Hid (∀u∈[Value.string nm,ah mF,aI mG,aI mJ,bK mM,.slice mO mP mQ,.slice ta2 mV mW,ah tl1,ah mX,ah tk.line,ah tk.col],u.oneCell'=true):=bn rfl;clear hw4 hlt hm;go_upto_region 9 with(first
        |(refine aN rfl 121 (.tmp 8) rfl b 0 rfl [Value.string nm,ah mF,aI mG,aI mJ,bK mM,.slice mO mP mQ,.slice ta2 mV mW,ah tl1,ah mX,ah tk.line,ah tk.col] _ bJ.o Tryz.underlying121 rfl Tryz.EZ ?_)
        |(refine lU rfl 43 (.tmp 34) rfl 121 i0 (.agg #[dG,ah 0,dG,dG,aW,ak,ak,ah 0,ah 0,ah 0,ah 0]) [Value.string nm,ah mF,aI mG,aI mJ,bK mM,.slice mO mP mQ,.slice ta2 mV mW,ah tl1,ah mX,ah tk.line,ah tk.col] rfl Tryz.underlying43 HI.o HZ0.o HZ1.o rfl dc dc ?_)
        |(refine jU _ rfl (w7.heap.size+1) (.tmp 33) (.tmp 35) 43 rfl w1.heap.size 121 i0 (.agg #[dG,ah 0,dG,dG,aW,ak,ak,ah 0,ah 0,ah 0,ah 0]) 11 144 Tryz.underlying43 HI.o HZ0.o HZ1.o HZ2.o rfl dc _ _ _ (by rfl) F5.o _ 1 _ (by rfl) yU.o rfl dQ.o (by have:=CQ.o;have:=HMM.o;unfold maxLen;omega) (by have:=CQ.o;have:=HMM.o;omega) F6.o ?_;intro v9 w9 iU gJ oG))
       rw[←UE.o]at gJ oG;have iM:=ai (fP.o.push kR fD.o NZ.o iU gJ oG hwz);clear iU gJ oG;have p0:=bZ.o w9 iM.o.st;go_wp2_with fail;cases hc:bG R.l jx [44]with
       |true=>
        have RX:=ai hc;clear hc;refine(cZ R HL.o ⟨#[44]⟩ _ jx d iM.o.rd dc RX.o).mono ?_;rintro e w6 ⟨rfl,o9,s6⟩;have fA:=ai (iM.o.read kR hwz o9 s6);(have D5:=ai (UK.o.trans (if_pos RX.o)));clear o9 s6 p0;go_wp2_with fail;go_roundg gn;case rel=>exact⟨by omega,jx+1,_,_,D5.o,fA.o⟩
        case measure=>omega
       |false=>
        have RX:=ai hc;clear hc;refine(dU R HL.o ⟨#[44]⟩ _ jx d iM.o.rd dc RX.o).mono ?_;rintro e wa ⟨rfl,hra,sa⟩;have jk:=ai (iM.o.read kR hwz hra sa);(have D5:=ai (UK.o.trans (wZ RX.o)));clear hra sa p0;have p0:=bZ.o wa jk.o.st;go_wp2_with fail;refine(HND.o _ wa.heap.size jx (jk.o.rd.quiet (bg.alloc _)) (aj (aC _ _) 0 _ rfl)).mono ?_;rintro e wb hp;have hp2:aK R d iJ (aJ R.l jx el) _ e wb:=hp;cases hn:aJ R.l jx el with
        |out=>exact(dJ hn).elim
        |err c ln col=>rw[hn]at hp2;obtain⟨rfl,sb⟩:=hp2;exact⟨rfl,aK.aU c ln col (by rw[D5.o,hn];rfl) rfl (d_.o _ (jk.o.st.trans (((Step.refl (·=R.rb) _).alloc _).trans sb)))⟩
        |ok u3 jz=>have IK:=ai hn;rw[hn]at hp2;obtain⟨⟨v,rfl,rfl⟩,uD,sb⟩:=hp2;have rZ:=ai (jk.o.read kR hwz uD (((Step.refl (·=R.rb) _).alloc _).trans sb));(have J9:Hid (r=.ok (acc++[⟨nm,ty,tk.line,tk.col⟩]) jz):=by show _=_;rw[D5.o,IK.o];rfl);clear hn uD sb p0 hp;go_wp2_with fail;go_ret;have hsz:=dH.o.size;exact aK.dN J9.o rfl ⟨_,dh.jd rZ.o.ow (fun q hq=>by have:=(rZ.o.ow.lt q hq).1;omega),ou.mono kR (fun q _ hq=>by have:=hq.1;omega) _ _ rZ.o.el⟩ rZ.o.rd (d_.o _ rZ.o.st)
theorem RY (R:gI) (w:World) (i d:Nat) (hl:oJ R.l) (h:bC R w i d):Calls Tryz.prog 93 #[.agg #[gW R.rb 0]] w (aK R d Ef (pK R.l i) w):=by
 have HL:=ai hl;obtain⟨r,hr⟩:=bF (pK R.l i);have HRR:Hid (r=if bG R.l i [105,110,116]then .ok ⟨#[105,110,116]⟩ (i+1)else if bG R.l i [98,111,111,108]then .ok ⟨#[98,111,111,108]⟩ (i+1)else if bG R.l i [102,54,52]then .ok ⟨#[102,54,52]⟩ (i+1)else bH R.l i):=by show _=_;rw[hr,pK]
 rw[←hr];have uq:=aP h.blk;obtain⟨w1,hw1⟩:=bF ((w.alloc (.cells #[gW R.rb 0] 75)).alloc (.cells #[.string ⟨#[105,110,116]⟩,.string ⟨#[98,111,111,108]⟩,.string ⟨#[102,54,52]⟩] 9));have dH:=nT hw1
 have kK:=nC hw1
 have lS:=nD hw1
 have HW1:=ai hw1;have H1:=ai (h.quiet dH.o);have hn1:=aP lS.o;have d_:Hid (∀X:World,Step (·=R.rb) w1 X→Step (·=R.rb) w X):=fun X hX=>(dH.o.mono fe).trans hX
 have bZ:Hid (∀X:World,Step (·=R.rb) w1 X→X.cell? ⟨w.heap.size,0,none⟩=some (.pointer (some ⟨R.rb,0,none⟩))):=fun X hX=>aj (hX.keep kK.o om) 0 _ rfl
 have sQ:Hid (∀X:World,Step (·=R.rb) w1 X→X.heap[w.heap.size+1]?=some (.cells #[.string ⟨#[105,110,116]⟩,.string ⟨#[98,111,111,108]⟩,.string ⟨#[102,54,52]⟩] 9 (0,0))):=fun X hX=>hX.keep lS.o om
 clear hl h hr hw1;go_enter Tryz.func93,Tryz.ntmps93;go_upto_block 0 with fail
 have hx1:(w.alloc (.cells #[gW R.rb 0] 75)).alloc (.cells #[.string ⟨#[105,110,116]⟩,.string ⟨#[98,111,111,108]⟩,.string ⟨#[102,54,52]⟩] 9)=w1:=HW1.o.symm;rw[hx1];clear hx1;go_wp2_with fail;go_loopg [4,7] 3 (fun gg s4 s7 wr=>∃k:Nat,s7=.int .i64 k∧k≤3∧3-k≤gg∧(1≤k→bG R.l i [105,110,116]=false)∧(2≤k→bG R.l i [98,111,111,108]=false)∧(3≤k→bG R.l i [102,54,52]=false)∧bC R wr i d∧Step (·=R.rb) w1 wr);case atStart=>exact⟨0,rfl,by omega,by omega,(fun h=>by omega),(fun h=>by omega),(fun h=>by omega),H1.o,Step.refl _ _⟩
 case round=>
  obtain⟨k,rfl,hk,hgg,hf0,hf1,hf2,hrd,hst⟩:=hrel;have HR:=ai hrd;have HST:=ai hst;have p0:=bZ.o wr hst;have q0:=aj (sQ.o wr hst) 0 _ rfl;have q1:=aj (sQ.o wr hst) 1 _ rfl;have q2:=aj (sQ.o wr hst) 2 _ rfl;have HF:=ai (And.intro hf0 (And.intro hf1 hf2));clear hrd hst hf0 hf1 hf2;rcases(show k=0∨k=1∨k=2∨k=3 by omega)with rfl|rfl|rfl|rfl
  ·clear hk;go_wp2_with fail;cases hb:bG R.l i [105,110,116]with
   |true=>have HB:=ai hb;clear hb;refine(cZ R HL.o ⟨#[105,110,116]⟩ _ i d HR.o dc HB.o).mono ?_;rintro e w4 ⟨rfl,hr4,h4⟩;have HR4:=ai hr4;have ji:=ai h4;clear hr4 h4 q0 q1 q2 p0;go_wp2_with fail;go_ret;exact aK.dN (by rw[HRR.o,HB.o,if_pos rfl]) rfl rfl HR4.o (d_.o _ (HST.o.trans ji.o))
   |false=>
    have HB:=ai hb;clear hb;refine(dU R HL.o ⟨#[105,110,116]⟩ _ i d HR.o dc HB.o).mono ?_;rintro e w4 ⟨rfl,hr4,h4⟩;have HR4:=ai hr4;have ji:=ai h4;clear hr4 h4 q0 q1 q2 p0;go_wp2_with fail;go_roundg (gk-1);case rel=>exact⟨1,rfl,by omega,by omega,(fun _=>HB.o),(fun h=>by omega),(fun h=>by omega),HR4.o,HST.o.trans ji.o⟩
    case measure=>omega
  ·clear hk;go_wp2_with fail;cases hb:bG R.l i [98,111,111,108]with
   |true=>have HB:=ai hb;clear hb;refine(cZ R HL.o ⟨#[98,111,111,108]⟩ _ i d HR.o dc HB.o).mono ?_;rintro e w4 ⟨rfl,hr4,h4⟩;have HR4:=ai hr4;have ji:=ai h4;clear hr4 h4 q0 q1 q2 p0;go_wp2_with fail;go_ret;exact aK.dN (by rw[HRR.o,if_neg (by rw[HF.o.1 om];decide),HB.o,if_pos rfl]) rfl rfl HR4.o (d_.o _ (HST.o.trans ji.o))
   |false=>
    have HB:=ai hb;clear hb;refine(dU R HL.o ⟨#[98,111,111,108]⟩ _ i d HR.o dc HB.o).mono ?_;rintro e w4 ⟨rfl,hr4,h4⟩;have HR4:=ai hr4;have ji:=ai h4;clear hr4 h4 q0 q1 q2 p0;go_wp2_with fail;go_roundg (gk-1);case rel=>exact⟨2,rfl,by omega,by omega,(fun _=>HF.o.1 om),(fun _=>HB.o),(fun h=>by omega),HR4.o,HST.o.trans ji.o⟩
    case measure=>omega
  ·clear hk;go_wp2_with fail;cases hb:bG R.l i [102,54,52]with
   |true=>have HB:=ai hb;clear hb;refine(cZ R HL.o ⟨#[102,54,52]⟩ _ i d HR.o dc HB.o).mono ?_;rintro e w4 ⟨rfl,hr4,h4⟩;have HR4:=ai hr4;have ji:=ai h4;clear hr4 h4 q0 q1 q2 p0;go_wp2_with fail;go_ret;exact aK.dN (by rw[HRR.o,if_neg (by rw[HF.o.1 om];decide),if_neg (by rw[HF.o.2.1 om];decide),HB.o,if_pos rfl]) rfl rfl HR4.o (d_.o _ (HST.o.trans ji.o))
   |false=>
    have HB:=ai hb;clear hb;refine(dU R HL.o ⟨#[102,54,52]⟩ _ i d HR.o dc HB.o).mono ?_;rintro e w4 ⟨rfl,hr4,h4⟩;have HR4:=ai hr4;have ji:=ai h4;clear hr4 h4 q0 q1 q2 p0;go_wp2_with fail;go_roundg (gk-1);case rel=>exact⟨3,rfl,by omega,by omega,(fun _=>HF.o.1 om),(fun _=>HF.o.2.1 om),(fun _=>HB.o),HR4.o,HST.o.trans ji.o⟩
    case measure=>omega
  ·clear hk;(have HE:Hid (r=bH R.l i):=by show _=_;rw[HRR.o,if_neg (by rw[HF.o.1 om];decide),if_neg (by rw[HF.o.2.1 om];decide),if_neg (by rw[HF.o.2.2 om];decide)]);clear q0 q1 q2;go_wp2_with fail;refine(name_any R HL.o _ i d HR.o).mono ?_;rintro e w4 hp;have hp2:aK R d Ef (bH R.l i) _ e w4:=hp;cases hn:bH R.l i with
   |out=>exact(iQ hn).elim
   |err c ln col=>rw[hn]at hp2;obtain⟨rfl,hs⟩:=hp2;exact⟨rfl,aK.aU c ln col (by rw[HE.o,hn]) rfl (d_.o _ (HST.o.trans hs))⟩
   |ok s j=>have HN:=ai hn;rw[hn]at hp2;obtain⟨⟨v,rfl,rfl⟩,hr,hs⟩:=hp2;have HR4:=ai hr;have ji:=ai hs;clear hn hr hs hp p0;go_wp2_with fail;go_ret;exact aK.dN (by rw[HE.o,HN.o]) rfl rfl HR4.o (d_.o _ (HST.o.trans ji.o))
theorem Tryz.nG:(Tryz.prog.info? 83).map (·.size)=some 17:=by kernel_rfl
def MtV (n0:Nat) (w':World) (a:Mt) (v:Value):Prop:=ElQ Ou w' (fun k=>n0≤k) a v
theorem Hz.parts {w:World} {P:Nat→Prop} {g:Gn} {v:Value} (h:Hz w P g v):∃(a1:Option Addr) (c1:Nat) (a2:Option Addr) (c2:Nat),v=.agg #[.slice a1 g.bI.length c1,.slice a2 g.types.length c2]:=by obtain⟨vl,vt,rfl,h1,h2⟩:=h;obtain⟨a1,c1,rfl⟩:=h1.parts;obtain⟨a2,c2,rfl⟩:=h2.parts;exact⟨_,_,_,_,rfl⟩
def kN (v:Value) (k:Nat):Value:=match v with
 | .agg cs=>cs.getD k undef
 |_=>undef
def A_ (_:World) (_:Nat→Prop) (s:ByteArray) (v:Value):Prop:=v=.string s
theorem rP:CS A_:=⟨fun _ _ _ _ h=>h,fun _ _ _ h=>h⟩
theorem KE (f:Nat) (ER:rF f) (RZ:∀f',f'≤f→vN f') (R:gI) (w:World) (i d:Nat) (body:Bool) (hl:oJ R.l) (h:bC R w i d) (hd:d≤40) (hno:ny f R.l i d body≠.out):Calls Tryz.prog 124 #[.agg #[gW R.rb 0],.bool body] w (aK R d (MtV w.heap.size) (ny f R.l i d body) w):=by
 have HL:=ai hl;have L_:=ai ER;have Pv:=ai RZ;obtain⟨r,hr⟩:=bF (ny f R.l i d body);obtain⟨tk,htk⟩:=bF (tokA R.l i);have HRR:Hid (r=(aJ R.l i [102,110]).bind fun _ j=>(bH R.l j).bind fun n j=>(oU f R.l j).bind fun g j=>(if 0<g.types.length then iw 5 R.l j else .ok () j).bind fun _ j=>(aJ R.l j [40]).bind fun _ j=>(aJ R.l (kW R.l j).2 [115,101,108,102]).bind fun _ k=>(if bG R.l k [44]then(if bG R.l (k+1) [41]then iw 1 R.l (k+1)else fZ f R.l (k+1) d [41] 8)else(aJ R.l k [41]).bind fun _ k=>.ok [] k).bind fun ps k=>(lm f R.l k d).bind fun t k=>(fG f R.l k).bind fun wh k=>(if body then bU f R.l k d else(aJ R.l k [59]).bind fun _ k=>.ok [] k).bind fun b k=>.ok ⟨n,g.bI,(kW R.l j).1.1,(kW R.l j).1.2,ps,t,wh,b,tk.line,tk.col⟩ k):=by show _=_;rw[hr,ny,←htk]
 rw[←hr]at hno⊢;have fH:=ai hno;have uq:=aP h.blk;obtain⟨w1,hw1⟩:=bF ((w.alloc (.cells #[gW R.rb 0] 75)).alloc (.cells #[dG,ak,ah 0,dG,ak,ah 0,dG,dG,aW,ak,ak,ah 0,ah 0,ak,ak,ah 0,ah 0] 83));have dH:=nT hw1
 have kK:=nC hw1
 have lS:=nD hw1
 have HW1:=ai hw1;have H1:=ai (h.quiet dH.o);have HT:=ai (show R.l[i]?=some tk by rw[htk];exact h.tok);have p0:w1.cell? ⟨w.heap.size,0,none⟩=some (.pointer (some ⟨R.rb,0,none⟩)):=aj kK.o 0 _ rfl;have HAT:=ai (at_at R w1 i d tk H1.o HT.o);clear ER RZ hl h hno hr hw1 htk;go_enter Tryz.func124,Tryz.ntmps124;go_upto_region 1 with fail
 rw[←HW1.o];go_wp2_with fail;refine HAT.o.mono ?_;rintro e w2 ⟨rfl,h2⟩;have HS2:=ai (dH.o.trans h2);have HP2:=ai (h2.keep kK.o (fun h=>h));have qw:=ai (h2.keep lS.o (fun h=>h));have hn1:=aP qw.o;obtain⟨v1,hv1⟩:=bF (w2.alloc (.cells #[aV,ak,ah 1,aV,ak,ah 0,aV,aV,aW,ak,ak,ah 0,ah 0,ak,ak,ah tk.line,ah tk.col] 83));have lM:=nS hv1
 have HB3:=nB hv1
 have jX:=ai (HS2.o.trans lM.o);have zJ:=ai (lM.o.keep HP2.o (fun h=>h));have uZ:=ai (lM.o.keep qw.o (fun h=>h));have H3:=ai (H1.o.quiet (h2.trans lM.o));have HW3:=ai hv1;have hbv:=aP HB3.o;clear h2 hv1 p0;go_upto_region 2 with fail
 have hx3:w2.alloc (.cells #[dG,ak,ah 1,dG,ak,ah 0,dG,dG,aW,ak,ak,ah 0,ah 0,ak,ak,ah tk.line,ah tk.col] 83)=v1:=HW3.o.symm;rw[hx3];clear hx3;obtain⟨b,hb⟩:=bF w2.heap.size;rw[←hb]at HB3 hbv⊢;have hs1:=dH.o.size;have hrb:R.rb<b:=by omega
 have hbw:w.heap.size+1<b:=by omega
 have d_:Hid (∀X:World,Step (fun q=>q=R.rb∨q=b) v1 X→Step (·=R.rb) w X):=fun X hX=>(jX.o.mono fe).then hX oi
 have bZ:Hid (∀X:World,Step (fun q=>q=R.rb∨q=b) v1 X→X.cell? ⟨w.heap.size,0,none⟩=some (.pointer (some ⟨R.rb,0,none⟩))):=fun X hX=>aj (hX.keep zJ.o om) 0 _ rfl
 have sQ:Hid (∀X:World,Step (fun q=>q=R.rb∨q=b) v1 X→X.heap[w.heap.size+1]?=some (.cells #[dG,ak,ah 0,dG,ak,ah 0,dG,dG,aW,ak,ak,ah 0,ah 0,ak,ak,ah 0,ah 0] 83 (0,0))):=fun X hX=>hX.keep uZ.o om
 have hsz3:=jX.o.size;obtain⟨I0,hI0,-,CU⟩:=Sv.keep (R:=R) (w1:=v1) (b:=b) (d:=d) (I:=fun _=>True) (X:=v1) (i:=i) (o:=.cells #[aV,ak,ah 1,aV,ak,ah 0,aV,aV,aW,ak,ak,ah 0,ah 0,ak,ak,ah tk.line,ah tk.col] 83 (0,0)) ⟨H3.o,HB3.o,Step.refl _ _,trivial⟩ g_.yes g_.yes trivial;have HI0:=ai hI0;have wX:=ai CU;clear hb hs1 hI0 CU;have p0:=bZ.o v1 bg;go_wp2_with fail;refine(dL R HL.o v1.heap.size ⟨#[102,110]⟩ _ i d (wX.o.rd.quiet (bg.alloc _)) dc (aj (aC _ _) 0 _ rfl)).mono ?_;rintro e v21 hp;have hp2:aK R d iJ (aJ R.l i [102,110]) _ e v21:=hp;cases hn:aJ R.l i [102,110]with
 |out=>exact(dJ hn).elim
 |err c ln col=>rw[hn]at hp2;obtain⟨rfl,hs⟩:=hp2;refine⟨rfl,aK.aU c ln col (by rw[HRR.o,hn];rfl) rfl (d_.o _ (wX.o.err (((Step.refl (·=R.rb) _).alloc _).trans hs)))⟩
 |ok u21 j21=>
  have HN21:=ai hn;rw[hn]at hp2;obtain⟨⟨v,rfl,rfl⟩,hr,hs⟩:=hp2;have qV:=ai (wX.o.read HI0.o hrb hr (((Step.refl (·=R.rb) _).alloc _).trans hs));clear hn hr hs hp p0;have Ba:Hid (r=(bH R.l j21).bind fun n j=>(oU f R.l j).bind fun g j=>(if 0<g.types.length then iw 5 R.l j else .ok () j).bind fun _ j=>(aJ R.l j [40]).bind fun _ j=>(aJ R.l (kW R.l j).2 [115,101,108,102]).bind fun _ k=>(if bG R.l k [44]then(if bG R.l (k+1) [41]then iw 1 R.l (k+1)else fZ f R.l (k+1) d [41] 8)else(aJ R.l k [41]).bind fun _ k=>.ok [] k).bind fun ps k=>(lm f R.l k d).bind fun t k=>(fG f R.l k).bind fun wh k=>(if body then bU f R.l k d else(aJ R.l k [59]).bind fun _ k=>.ok [] k).bind fun b k=>.ok ⟨n,g.bI,(kW R.l j).1.1,(kW R.l j).1.2,ps,t,wh,b,tk.line,tk.col⟩ k):=by show _=_;rw[HRR.o,HN21.o];rfl
  have p0:=bZ.o v21 qV.o.st;go_wp2_with fail;refine(name_any R HL.o _ j21 d qV.o.rd).mono ?_;rintro e v23 hp;have hp2:aK R d Ef (bH R.l j21) _ e v23:=hp;cases hn:bH R.l j21 with
  |out=>exact(iQ hn).elim
  |err c ln col=>rw[hn]at hp2;obtain⟨rfl,hs⟩:=hp2;refine⟨rfl,aK.aU c ln col (by rw[Ba.o,hn];rfl) rfl (d_.o _ (qV.o.err hs))⟩
  |ok s23 j23=>
   have HN23:=ai hn;have XG:=ai (fF HL.o qV.o.rd.lt hn);rw[hn]at hp2;obtain⟨⟨v,rfl,rfl⟩,hr,hs⟩:=hp2;have kV:=ai (qV.o.read HI0.o hrb hr hs);clear hn hr hs hp p0;(have sU:Hid (r=(oU f R.l j23).bind fun g j=>(if 0<g.types.length then iw 5 R.l j else .ok () j).bind fun _ j=>(aJ R.l j [40]).bind fun _ j=>(aJ R.l (kW R.l j).2 [115,101,108,102]).bind fun _ k=>(if bG R.l k [44]then(if bG R.l (k+1) [41]then iw 1 R.l (k+1)else fZ f R.l (k+1) d [41] 8)else(aJ R.l k [41]).bind fun _ k=>.ok [] k).bind fun ps k=>(lm f R.l k d).bind fun t k=>(fG f R.l k).bind fun wh k=>(if body then bU f R.l k d else(aJ R.l k [59]).bind fun _ k=>.ok [] k).bind fun b k=>.ok ⟨s23,g.bI,(kW R.l j).1.1,(kW R.l j).1.2,ps,t,wh,b,tk.line,tk.col⟩ k):=by show _=_;rw[Ba.o,HN23.o];rfl);have p0:=bZ.o v23 kV.o.st;have m_:=aj kV.o.blk 0 _ rfl;have ng:=aG kV.o.blk 0;obtain⟨v25,hv25⟩:=bF (v23.setCell ⟨b,0,none⟩ (.string s23));(have j_:Hid (Sv R v1 b d I0 v25 j23 (.cells #[aI s23,ak,ah 1,aV,ak,ah 0,aV,aV,aW,ak,ak,ah 0,ah 0,ak,ak,ah tk.line,ah tk.col] 83 (0,0))):=by rw[hv25];exact(kV.o.set HI0.o hrb 0 (.string s23)));(go_upto_region 4 with fail);rw[←hv25];clear hv25 p0 m_ ng;have p0:=bZ.o v25 j_.o.st;go_wp2_with fail;refine(Gq f R _ j23 d HL.o j_.o.rd (fun e=>fH.o (by rw[sU.o,e];rfl))).mono ?_;rintro e v26 hp;have hp2:aK R d (GnV v25.heap.size) (oU f R.l j23) _ e v26:=hp;cases hn:oU f R.l j23 with
   |out=>exact absurd (by rw[sU.o,hn];rfl) fH.o
   |err c ln col=>rw[hn]at hp2;obtain⟨rfl,hs⟩:=hp2;refine⟨rfl,aK.aU c ln col (by rw[sU.o,hn];rfl) rfl (d_.o _ (j_.o.err hs))⟩
   |ok a26 j26=>
    have HN26:=ai hn;rw[hn]at hp2;obtain⟨⟨v,rfl,hv⟩,hr,hs⟩:=hp2;obtain⟨nN,nO,u_,vg,rfl⟩:=Hz.parts hv;obtain⟨I26,hI26,hF26,XH⟩:=j_.o.got x9 HI0.o hrb om hr hs (At:=Hz) hv;have v_:=ai hI26;have HF26:=ai hF26;have qh:=ai XH;clear hn hr hs hp hv hI26 hF26 XH p0;(have Rj:Hid (r=(if 0<a26.types.length then iw 5 R.l j26 else .ok () j26).bind fun _ j=>(aJ R.l j [40]).bind fun _ j=>(aJ R.l (kW R.l j).2 [115,101,108,102]).bind fun _ k=>(if bG R.l k [44]then(if bG R.l (k+1) [41]then iw 1 R.l (k+1)else fZ f R.l (k+1) d [41] 8)else(aJ R.l k [41]).bind fun _ k=>.ok [] k).bind fun ps k=>(lm f R.l k d).bind fun t k=>(fG f R.l k).bind fun wh k=>(if body then bU f R.l k d else(aJ R.l k [59]).bind fun _ k=>.ok [] k).bind fun b k=>.ok ⟨s23,a26.bI,(kW R.l j).1.1,(kW R.l j).1.2,ps,t,wh,b,tk.line,tk.col⟩ k):=by show _=_;rw[sU.o,HN26.o];rfl);have p0:=bZ.o v26 qh.o.st;obtain⟨gb,hgb⟩:=bF v26.heap.size;obtain⟨w28,Vk⟩:=bF (v26.alloc (.cells #[.slice nN a26.bI.length nO,.slice u_ a26.types.length vg] 42));(have HGS:Hid (jg v26 w28):=by rw[Vk];exact bg.alloc _);(have HGB:Hid (w28.heap[gb]?=some (.cells #[.slice nN a26.bI.length nO,.slice u_ a26.types.length vg] 42 (0,0))):=by rw[Vk,hgb];exact aC _ _);have Dl:=ai (qh.o.quiet v_.o HGS.o);(have hgge:v1.heap.size≤gb:=by rw[hgb];exact qh.o.st.size);(go_upto_region 5 with fail);rw[←Vk,←hgb];clear Vk hgb p0;have p0:=bZ.o w28 Dl.o.st;obtain⟨nt,hnt⟩:=bF a26.types.length;have HNT:=ai hnt;have g0:=aj HGB.o 0 _ rfl;have g1:=aj HGB.o 1 _ rfl;rw[←hnt]at g1;clear hnt;by_cases Vl:nt=0;case neg=>have e1:decide ((0:Int)<(nt:Int))=true:=decide_eq_true om;have e2:decide (0<nt)=true:=decide_eq_true om;(have hnp:0<nt:=by omega);(have hfa:r=iw 5 R.l j26:=by rw[Rj.o,if_pos (by rw[←HNT.o];omega)];rfl);have HFA:=ai hfa;obtain⟨tf,htf⟩:=bF (tokA R.l j26);have HTF:=ai (show R.l[j26]?=some tf by rw[htf];exact Dl.o.rd.tok);have HTG:=ai htf;clear hfa htf Vl;go_wp2_with fail;refine(oZ R 5 _ j26 d tf Dl.o.rd HTF.o).mono ?_;rintro e wf ⟨rfl,hs⟩;exact⟨rfl,aK.aU 5 tf.line tf.col (by rw[HFA.o,iw,←HTG.o]) rfl (d_.o _ (Dl.o.err (hs.mono fe)))⟩
    case pos=>
     (have HE29:Hid (r=(aJ R.l j26 [40]).bind fun _ j=>(aJ R.l (kW R.l j).2 [115,101,108,102]).bind fun _ k=>(if bG R.l k [44]then(if bG R.l (k+1) [41]then iw 1 R.l (k+1)else fZ f R.l (k+1) d [41] 8)else(aJ R.l k [41]).bind fun _ k=>.ok [] k).bind fun ps k=>(lm f R.l k d).bind fun t k=>(fG f R.l k).bind fun wh k=>(if body then bU f R.l k d else(aJ R.l k [59]).bind fun _ k=>.ok [] k).bind fun b k=>.ok ⟨s23,a26.bI,(kW R.l j).1.1,(kW R.l j).1.2,ps,t,wh,b,tk.line,tk.col⟩ k):=by show _=_;rw[Rj.o,if_neg (by rw[←HNT.o,Vl];decide)];rfl);rw[Vl]at g1;clear Vl;have Eg:=aj Dl.o.blk 1 _ rfl;have Eh:=aG Dl.o.blk 1;obtain⟨v30,Zk⟩:=bF (w28.setCell ⟨b,1,none⟩ (.slice nN a26.bI.length nO));(have qO:Hid (Sv R v1 b d I26 v30 j26 (.cells #[aI s23,.slice nN a26.bI.length nO,ah 1,aV,ak,ah 0,aV,aV,aW,ak,ak,ah 0,ah 0,ak,ak,ah tk.line,ah tk.col] 83 (0,0))):=by rw[Zk];exact(Dl.o.set v_.o hrb 1 (.slice nN a26.bI.length nO)));(go_upto_region 8 with fail);rw[←Zk];clear Zk p0 Eg Eh;have p0:=bZ.o v30 qO.o.st;clear g0 g1;go_wp2_with fail;refine(dL R HL.o v30.heap.size ⟨#[40]⟩ _ j26 d (qO.o.rd.quiet (bg.alloc _)) dc (aj (aC _ _) 0 _ rfl)).mono ?_;rintro e v31 hp;have hp2:aK R d iJ (aJ R.l j26 [40]) _ e v31:=hp;cases hn:aJ R.l j26 [40]with
     |out=>exact(dJ hn).elim
     |err c ln col=>rw[hn]at hp2;obtain⟨rfl,hs⟩:=hp2;refine⟨rfl,aK.aU c ln col (by rw[HE29.o,hn];rfl) rfl (d_.o _ (qO.o.err (((Step.refl (·=R.rb) _).alloc _).trans hs)))⟩
     |ok u31 j31=>
      have Zl:=ai hn;rw[hn]at hp2;obtain⟨⟨v,rfl,rfl⟩,hr,hs⟩:=hp2;have rM:=ai (qO.o.read v_.o hrb hr (((Step.refl (·=R.rb) _).alloc _).trans hs));clear hn hr hs hp p0;(have Gm:Hid (r=(aJ R.l (kW R.l j31).2 [115,101,108,102]).bind fun _ k=>(if bG R.l k [44]then(if bG R.l (k+1) [41]then iw 1 R.l (k+1)else fZ f R.l (k+1) d [41] 8)else(aJ R.l k [41]).bind fun _ k=>.ok [] k).bind fun ps k=>(lm f R.l k d).bind fun t k=>(fG f R.l k).bind fun wh k=>(if body then bU f R.l k d else(aJ R.l k [59]).bind fun _ k=>.ok [] k).bind fun b k=>.ok ⟨s23,a26.bI,(kW R.l j31).1.1,(kW R.l j31).1.2,ps,t,wh,b,tk.line,tk.col⟩ k):=by show _=_;rw[HE29.o,Zl.o];rfl);have p0:=bZ.o v31 rM.o.st;go_wp2_with fail;obtain⟨bq,hbq⟩:=bF (bG R.l j31 [38]);obtain⟨jq,hjq⟩:=bF (iH R.l j31 [38]);have UJ:=ai hbq;have HJQ:=ai hjq;(have HIQ:Hid (Calls Tryz.prog 77 #[.pointer (some ⟨R.rb,0,none⟩),.string ⟨#[38]⟩] v31 fun e w'=>e=.returned (.bool bq)∧bC R w' jq d∧Step (·=R.rb) v31 w'):=by rw[hbq,hjq];exact rW R HL.o ⟨#[38]⟩ v31 j31 d rM.o.rd dc);clear hbq hjq;refine HIQ.o.mono ?_;rintro e v33 ⟨rfl,hr,hs⟩;have qi:=ai (rM.o.read v_.o hrb hr hs);clear hr hs p0;have p0:=bZ.o v33 qi.o.st;(go_upto_if 37 with fail);go_cut [] (fun wx=>∃(rc:Int) (lf:ByteArray) (jn:Nat),kW R.l j31=((rc,lf),jn)∧lf.size≤9223372036854775807∧Sv R v1 b d I26 wx jn (.cells #[aI s23,.slice nN a26.bI.length nO,ah rc,aI lf,ak,ah 0,aV,aV,aW,ak,ak,ah 0,ah 0,ak,ak,ah tk.line,ah tk.col] 83 (0,0)));case first=>
       cases bq with
       |false=>(have hj:jq=j31:=by rw[HJQ.o,iH,←UJ.o,if_neg dc]);(have Hu:Hid (kW R.l j31=((1,dB),jq)):=by show _=_;rw[kW,←UJ.o,if_neg dc,hj]);go_wp2_with fail;go_meet;case rel=>exact⟨1,dB,jq,Hu.o,by decide,qi.o⟩
       |true=>
        (have hj:jq=j31+1:=by rw[HJQ.o,iH,←UJ.o,if_pos rfl]);obtain⟨lf,hlf⟩:=bF (rV R.l jq);obtain⟨jo,hjo⟩:=bF (pG R.l jq);(have Hu:Hid (kW R.l j31=((if bG R.l jo [109,117,116]then 3 else 2,lf),iH R.l jo [109,117,116])):=by show _=_;rw[kW,←UJ.o,if_pos rfl,←hj,←hlf,←hjo]);(have NI:Hid (lf.size≤9223372036854775807):=by rw[hlf];exact EY HL.o qi.o.rd.lt);have HOP:=ai (FQ R HL.o v33 jq d qi.o.rd);rw[←hlf,←hjo]at HOP;clear hj hlf hjo;go_wp2_with fail;refine HOP.o.mono ?_;rintro e v34 ⟨rfl,hr,hs⟩;have qj:=ai (qi.o.read v_.o hrb hr hs);clear hr hs p0;have p0:=bZ.o v34 qj.o.st;have TY:=aj qj.o.blk 2 _ rfl;have T_:=aG qj.o.blk 2;have bt3:=aj qj.o.blk 3 _ rfl;have bz3:=aG qj.o.blk 3;obtain⟨v35,KF⟩:=bF ((v34.setCell ⟨b,2,none⟩ (.int .i64 2)).setCell ⟨b,3,none⟩ (.string lf));(have AA:Hid (Sv R v1 b d I26 v35 jo (.cells #[aI s23,.slice nN a26.bI.length nO,ah 2,aI lf,ak,ah 0,aV,aV,aW,ak,ak,ah 0,ah 0,ak,ak,ah tk.line,ah tk.col] 83 (0,0))):=by rw[KF];exact((qj.o.set v_.o hrb 2 (.int .i64 2)).set v_.o hrb 3 (.string lf)));(go_upto_region 11 with fail);rw[←KF];clear KF p0 TY T_ bt3 bz3;have p0:=bZ.o v35 AA.o.st;go_wp2_with fail;cases hb:bG R.l jo [109,117,116]with
        |true=>have HB:=ai hb;clear hb;refine(cZ R HL.o ⟨#[109,117,116]⟩ _ jo d AA.o.rd dc HB.o).mono ?_;rintro e v36 ⟨rfl,hr,hs⟩;have kM:=ai (AA.o.read v_.o hrb hr hs);clear hr hs p0;(have H7:Hid (kW R.l j31=((3,lf),(jo+1))):=by show _=_;rw[Hu.o,HB.o,iH,HB.o];rfl);have TY:=aj kM.o.blk 2 _ rfl;have T_:=aG kM.o.blk 2;have ET:Hid (Sv R v1 b d I26 (v36.setCell ⟨b,2,none⟩ (.int .i64 3)) (jo+1) (.cells #[aI s23,.slice nN a26.bI.length nO,ah 3,aI lf,ak,ah 0,aV,aV,aW,ak,ak,ah 0,ah 0,ak,ak,ah tk.line,ah tk.col] 83 (0,0))):=kM.o.set v_.o hrb 2 (.int .i64 3);go_wp2_with fail;go_meet;case rel=>exact⟨3,lf,(jo+1),H7.o,NI.o,ET.o⟩
        |false=>have HB:=ai hb;clear hb;refine(dU R HL.o ⟨#[109,117,116]⟩ _ jo d AA.o.rd dc HB.o).mono ?_;rintro e v38 ⟨rfl,hr,hs⟩;have uP:=ai (AA.o.read v_.o hrb hr hs);clear hr hs p0;(have H7:Hid (kW R.l j31=((2,lf),jo)):=by show _=_;rw[Hu.o,HB.o,iH,HB.o];rfl);go_wp2_with fail;go_meet;case rel=>exact⟨2,lf,jo,H7.o,NI.o,uP.o⟩
      case rest=>
       obtain⟨rc,lf,jn,hrc,hlf,hsv⟩:=hcut;obtain⟨w39,rfl⟩:=bF wc;have Hu:=ai hrc;have NI:=ai hlf;have oq:=ai hsv;clear hrc hlf hsv p0;(have QL:=Gm;rw[Hu.o]at QL;dsimp only at QL);have p0:=bZ.o w39 oq.o.st;go_wp2_with fail;refine(dL R HL.o w39.heap.size ⟨#[115,101,108,102]⟩ _ jn d (oq.o.rd.quiet (bg.alloc _)) dc (aj (aC _ _) 0 _ rfl)).mono ?_;rintro e v41 hp;have hp2:aK R d iJ (aJ R.l jn [115,101,108,102]) _ e v41:=hp;cases hn:aJ R.l jn [115,101,108,102]with
       |out=>exact(dJ hn).elim
       |err c ln col=>rw[hn]at hp2;obtain⟨rfl,hs⟩:=hp2;refine⟨rfl,aK.aU c ln col (by rw[QL.o,hn];rfl) rfl (d_.o _ (oq.o.err (((Step.refl (·=R.rb) _).alloc _).trans hs)))⟩
       |ok u41 j41=>
        have HN41:=ai hn;rw[hn]at hp2;obtain⟨⟨v,rfl,rfl⟩,hr,hs⟩:=hp2;have R_:=ai (oq.o.read v_.o hrb hr (((Step.refl (·=R.rb) _).alloc _).trans hs));clear hn hr hs hp p0;(have HE42:Hid (r=(if bG R.l j41 [44]then(if bG R.l (j41+1) [41]then iw 1 R.l (j41+1)else fZ f R.l (j41+1) d [41] 8)else(aJ R.l j41 [41]).bind fun _ k=>.ok [] k).bind fun ps k=>(lm f R.l k d).bind fun t k=>(fG f R.l k).bind fun wh k=>(if body then bU f R.l k d else(aJ R.l k [59]).bind fun _ k=>.ok [] k).bind fun b k=>.ok ⟨s23,a26.bI,rc,lf,ps,t,wh,b,tk.line,tk.col⟩ k):=by show _=_;rw[QL.o,HN41.o];rfl);have p0:=bZ.o v41 R_.o.st;go_wp2_with fail;obtain⟨br,hbr⟩:=bF (bG R.l j41 [44]);obtain⟨jr,hjr⟩:=bF (iH R.l j41 [44]);have HBR:=ai hbr;have HJR:=ai hjr;(have HIR:Hid (Calls Tryz.prog 77 #[.pointer (some ⟨R.rb,0,none⟩),.string ⟨#[44]⟩] v41 fun e w'=>e=.returned (.bool br)∧bC R w' jr d∧Step (·=R.rb) v41 w'):=by rw[hbr,hjr];exact rW R HL.o ⟨#[44]⟩ v41 j41 d R_.o.rd dc);clear hbr hjr;refine HIR.o.mono ?_;rintro e v43 ⟨rfl,hr,hs⟩;have rO:=ai (R_.o.read v_.o hrb hr hs);clear hr hs p0;have p0:=bZ.o v43 rO.o.st;(go_upto_if 52 with fail);go_cut [] (fun wx=>∃(ps:List Pm) (va:Value) (jn:Nat) (I':World→Prop),r=((lm f R.l jn d).bind fun t k=>(fG f R.l k).bind fun wh k=>(if body then bU f R.l k d else(aJ R.l k [59]).bind fun _ k=>.ok [] k).bind fun b k=>.ok ⟨s23,a26.bI,rc,lf,ps,t,wh,b,tk.line,tk.col⟩ k)∧g_ R b v1.heap.size I'∧(∀Y,I' Y→I26 Y∧lT Pq Y (fun q=>v1.heap.size≤q) ps va)∧Sv R v1 b d I' wx jn (.cells #[aI s23,.slice nN a26.bI.length nO,ah rc,aI lf,va,ah 0,aV,aV,aW,ak,ak,ah 0,ah 0,ak,ak,ah tk.line,ah tk.col] 83 (0,0)));case first=>
         cases br with
         |false=>
          (have hj:jr=j41:=by rw[HJR.o,iH,←HBR.o,if_neg dc]);(have Rw:Hid (r=((aJ R.l jr [41]).bind fun _ k=>.ok [] k).bind fun ps k=>(lm f R.l k d).bind fun t k=>(fG f R.l k).bind fun wh k=>(if body then bU f R.l k d else(aJ R.l k [59]).bind fun _ k=>.ok [] k).bind fun b k=>.ok ⟨s23,a26.bI,rc,lf,ps,t,wh,b,tk.line,tk.col⟩ k):=by show _=_;rw[HE42.o,←HBR.o,if_neg dc,hj]);clear hj;go_wp2_with fail;refine(dL R HL.o v43.heap.size ⟨#[41]⟩ _ jr d (rO.o.rd.quiet (bg.alloc _)) dc (aj (aC _ _) 0 _ rfl)).mono ?_;rintro e v45 hp;have hp2:aK R d iJ (aJ R.l jr [41]) _ e v45:=hp;cases hn:aJ R.l jr [41]with
          |out=>exact(dJ hn).elim
          |err c ln col=>rw[hn]at hp2;obtain⟨rfl,hs⟩:=hp2;refine⟨rfl,aK.aU c ln col (by rw[Rw.o,hn];rfl) rfl (d_.o _ (rO.o.err (((Step.refl (·=R.rb) _).alloc _).trans hs)))⟩
          |ok u45 j45=>have HN45:=ai hn;rw[hn]at hp2;obtain⟨⟨v,rfl,rfl⟩,hr,hs⟩:=hp2;have Au:=ai (rO.o.read v_.o hrb hr (((Step.refl (·=R.rb) _).alloc _).trans hs));clear hn hr hs hp p0;(have UO:Hid (r=(lm f R.l j45 d).bind fun t k=>(fG f R.l k).bind fun wh k=>(if body then bU f R.l k d else(aJ R.l k [59]).bind fun _ k=>.ok [] k).bind fun b k=>.ok ⟨s23,a26.bI,rc,lf,[],t,wh,b,tk.line,tk.col⟩ k):=by show _=_;rw[Rw.o,HN45.o];rfl);have p0:=bZ.o v45 Au.o.st;obtain⟨I47,hI47,hF47,XI⟩:=Au.o.keep v_.o (J:=fun X=>lT Pq X (fun q=>v1.heap.size≤q) ([]:List Pm) (.slice none 0 0)) (g_.at (eu kR) hrb om _ _) (lT.nil _ _);have HI47:=ai hI47;have HF47:=ai hF47;have HSV47:=ai XI;clear hI47 hF47 XI;go_wp2_with fail;go_meet;case rel=>exact⟨[],_,j45,_,UO.o,HI47.o,HF47.o,HSV47.o⟩
         |true=>
          (have hj:jr=j41+1:=by rw[HJR.o,iH,←HBR.o,if_pos rfl]);(have HE48:Hid (r=(if bG R.l jr [41]then iw 1 R.l jr else fZ f R.l jr d [41] 8).bind fun ps k=>(lm f R.l k d).bind fun t k=>(fG f R.l k).bind fun wh k=>(if body then bU f R.l k d else(aJ R.l k [59]).bind fun _ k=>.ok [] k).bind fun b k=>.ok ⟨s23,a26.bI,rc,lf,ps,t,wh,b,tk.line,tk.col⟩ k):=by show _=_;rw[HE42.o,←HBR.o,if_pos rfl,hj]);clear hj;go_wp2_with fail;cases Vm:bG R.l jr [41]with
          |true=>have Si:=ai Vm;clear Vm;refine(sJ R ⟨#[41]⟩ _ jr d rO.o.rd dc true Si.o).mono ?_;rintro e v50 ⟨rfl,hs⟩;have pJ:=ai (rO.o.quiet v_.o hs);clear hs p0;(have Oh:=ai (bpQ HE48.o Si.o));have p0:=bZ.o v50 pJ.o.st;obtain⟨tf,htf⟩:=bF (tokA R.l jr);have HTF:=ai (show R.l[jr]?=some tf by rw[htf];exact pJ.o.rd.tok);have HTG:=ai htf;clear htf;go_wp2_with fail;refine(oZ R 1 _ jr d tf pJ.o.rd HTF.o).mono ?_;rintro e wf ⟨rfl,hs⟩;exact⟨rfl,aK.aU 1 tf.line tf.col (by rw[Oh.o,iw,←HTG.o];rfl) rfl (d_.o _ (pJ.o.err (hs.mono fe)))⟩
          |false=>
           have Si:=ai Vm;clear Vm;refine(sJ R ⟨#[41]⟩ _ jr d rO.o.rd dc false Si.o).mono ?_;rintro e v52 ⟨rfl,hs⟩;have vW:=ai (rO.o.quiet v_.o hs);clear hs p0;(have Vo:=ai (bmQ HE48.o Si.o));have p0:=bZ.o v52 vW.o.st;go_wp2_with fail;refine(yg f (fun f' hf=>Pv.o f' om) R _ jr d ⟨#[41]⟩ 8 HL.o vW.o.rd hd dc dc (fun e=>fH.o (by rw[Vo.o];exact congrArg (fun q=>dI.bind q _) e))).mono ?_;rintro e v54 hp;have hp2:aK R d (Vj v52.heap.size) (fZ f R.l jr d [41] 8) _ e v54:=hp;cases hn:fZ f R.l jr d [41] 8 with
           |out=>exact absurd (by rw[Vo.o,hn];rfl) fH.o
           |err c ln col=>rw[hn]at hp2;obtain⟨rfl,hs⟩:=hp2;refine⟨rfl,aK.aU c ln col (by rw[Vo.o,hn];rfl) rfl (d_.o _ (vW.o.err hs))⟩
           |ok a54 j54=>have HN54:=ai hn;rw[hn]at hp2;obtain⟨⟨v,rfl,hv⟩,hr,hs⟩:=hp2;obtain⟨Zm,Zn,rfl⟩:=lT.parts hv;obtain⟨I54,hI54,hF54,XJ⟩:=vW.o.got (eu kR) v_.o hrb om hr hs (At:=(lT Pq)) hv;have HI54:=ai hI54;have HF54:=ai hF54;have MF:=ai XJ;clear hn hr hs hp hv hI54 hF54 XJ p0;(have HE55:Hid (r=(lm f R.l j54 d).bind fun t k=>(fG f R.l k).bind fun wh k=>(if body then bU f R.l k d else(aJ R.l k [59]).bind fun _ k=>.ok [] k).bind fun b k=>.ok ⟨s23,a26.bI,rc,lf,a54,t,wh,b,tk.line,tk.col⟩ k):=by show _=_;rw[Vo.o,HN54.o];rfl);have p0:=bZ.o v54 MF.o.st;have zT:=aj MF.o.blk 4 _ rfl;have En:=aG MF.o.blk 4;have EM:Hid (Sv R v1 b d I54 (v54.setCell ⟨b,4,none⟩ (.slice Zm a54.length Zn)) j54 (.cells #[aI s23,.slice nN a26.bI.length nO,ah rc,aI lf,.slice Zm a54.length Zn,ah 0,aV,aV,aW,ak,ak,ah 0,ah 0,ak,ak,ah tk.line,ah tk.col] 83 (0,0))):=MF.o.set HI54.o hrb 4 (.slice Zm a54.length Zn);go_wp2_with fail;go_meet;case rel=>exact⟨a54,_,j54,_,HE55.o,HI54.o,HF54.o,EM.o⟩
        case rest=>
         obtain⟨ps,va,jm,I57,hre,hI57,Zo,hsv⟩:=hcut;obtain⟨w57,rfl⟩:=bF wc;obtain⟨pa,pc,rfl⟩:=lT.parts (Zo _ hsv.inv).2;have A8:=ai hre;have OA:=ai hI57;have Vp:=ai Zo;have Di:=ai hsv;clear hre hI57 Zo hsv p0;have p0:=bZ.o w57 Di.o.st;(go_upto_region 19 with fail);clear p0;have nM:Hid (aZ R b v1.heap.size [(fun _ u=>u=(.agg #[gW R.rb 0])),(fun X u=>∃a j,lm f R.l jm d=.ok a j∧N_ X (fun q=>v1.heap.size≤q) a u),(fun _ u=>u=(.agg #[gW R.rb 0])),(fun X u=>∃a j c k,lm f R.l jm d=.ok a j∧fG f R.l j=.ok c k∧(lT EX) X (fun q=>v1.heap.size≤q) c u),(fun _ u=>u=(.pointer (some ⟨b,5,none⟩))),xY,(fun _ u=>u=(.pointer (some ⟨b,13,none⟩))),xY]):=(aZ.cons (eY.const _) (aZ.cons (eY.ex fun _=>eY.ex fun _=>eY.and (eY.at vV hrb om _)) (aZ.cons (eY.const _) (aZ.cons (eY.ex fun _=>eY.ex fun _=>eY.ex fun _=>eY.ex fun _=>eY.and (eY.and (eY.at (eu jc) hrb om _))) (aZ.cons (eY.const _) (aZ.cons eY.D7 (aZ.cons (eY.const _) (aZ.cons eY.D7 aZ.nil))))))));go_cut [] (fun wx=>∃(a:Ty) (j:Nat) (c:List Bd) (k:Nat) (u1:Value) (u3:Value),lm f R.l jm d=.ok a j∧fG f R.l j=.ok c k∧Sv R v1 b d I57 wx k (.cells #[aI s23,.slice nN a26.bI.length nO,ah rc,aI lf,.slice pa ps.length pc,kN (u1) 0,kN (u1) 1,kN (u1) 2,kN (u1) 3,kN (u1) 4,kN (u1) 5,kN (u1) 6,kN (u1) 7,u3,ak,ah tk.line,ah tk.col] 83 (0,0))∧N_ wx (fun q=>v1.heap.size≤q) a u1∧(lT EX) wx (fun q=>v1.heap.size≤q) c u3);case first=>
          obtain⟨Jx,hJx⟩:=bF (RJ R v1 b d I57 (fun(L:Nat→Bool) (ix:Nat)=>cond (L 3) (∃a j c,lm f R.l jm d=.ok a j∧fG f R.l j=.ok c ix) (cond (L 1) (∃a,lm f R.l jm d=.ok a ix) (ix=jm))) (fun(L:Nat→Bool) (V:Nat→Value)=>Obj.cells #[aI s23,.slice nN a26.bI.length nO,ah rc,aI lf,.slice pa ps.length pc,cond (L 5) (kN (V 1) 0) (ah 0),cond (L 5) (kN (V 1) 1) (aV),cond (L 5) (kN (V 1) 2) (aV),cond (L 5) (kN (V 1) 3) (aW),cond (L 5) (kN (V 1) 4) (ak),cond (L 5) (kN (V 1) 5) (ak),cond (L 5) (kN (V 1) 6) (ah 0),cond (L 5) (kN (V 1) 7) (ah 0),cond (L 7) (V 3) (ak),ak,ah tk.line,ah tk.col] 83 (0,0)) (Xo nM) [(3,1),(5,1),(7,3)]);have fQ:=ai hJx;clear hJx;refine bD kr (Jx) 8 rfl kr kr kr kr ?h0 ?hs ?hdone;case h0=>rw[fQ.o];exact RJ.zero OA.o Di.o (bg.drew) rfl
          case hs=>
           refine⟨?_,?_,?_,?_,?_,?_,?_,?_,trivial⟩
           all_goals (intro L V X a ev ig hdf hL ay hJ;rw[fQ.o]at hJ)
           ·have o2:=ig 2 rfl;change a.tmps[2]?.getD undef=.pointer (some ⟨w.heap.size,0,none⟩)at o2;obtain⟨i9,dO,-⟩:=id hJ.sv;have p0:=bZ.o X dO.st;clear dO;go_simp;exact tN
           ·have e66:=(ev 0 66 rfl (ay 0 rfl)).trans (hJ.fs 0 (ay 0 rfl));obtain⟨i9,dO,jD⟩:=id hJ.sv;rw[hJ.dR 3 1 dc hL,hL]at jD;have jD:i9=jm:=jD;rw[jD]at dO;clear jD;go_simp;refine(MC f (Pv.o f (Nat.le_refl _)) R X jm d HL.o dO.rd hd (fun e=>fH.o (by rw[A8.o,e];rfl))).mono ?_;intro e wq hp;cases hx:lm f R.l jm d with
            |out=>exact absurd hx (fun e=>fH.o (by rw[A8.o,e];rfl))
            |err cc ln col=>rw[hx]at hp;obtain⟨rfl,hs⟩:=hp;exact⟨hdf,aK.aU cc ln col (by rw[A8.o,hx];rfl) rfl (d_.o _ (dO.err hs))⟩
            |ok c9 k9=>rw[hx]at hp;obtain⟨⟨v,rfl,hv⟩,hr,hs⟩:=hp;exact⟨_,rfl,by rw[fQ.o];exact hJ.call OA.o nM.o hrb 1 v hr hs ⟨_,_,hx,vV.mono _ _ (fun q _ hq=>by have:=dO.st.size;omega) (show N_ _ _ _ _ from hv)⟩ (np rfl) (by have e5:=hJ.dR 5 1 dc hL;simp only[dP,gY];rw[e5];rfl) (by show cond (L 3) _ _;rw[hJ.dR 3 1 dc hL];exact⟨_,hx⟩)⟩
           ·have o2:=ig 2 rfl;change a.tmps[2]?.getD undef=.pointer (some ⟨w.heap.size,0,none⟩)at o2;obtain⟨i9,dO,-⟩:=id hJ.sv;have p0:=bZ.o X dO.st;clear dO;go_simp;exact tN
           ·have e68:=(ev 2 68 rfl (ay 2 rfl)).trans (hJ.fs 2 (ay 2 rfl));obtain⟨i9,dO,jD⟩:=id hJ.sv;rw[hL,ay 1 rfl]at jD;obtain⟨a9,h9⟩:∃a,lm f R.l jm d=.ok a i9:=jD;go_simp;refine(z_ f R X i9 d HL.o dO.rd (fun e=>fH.o (by rw[A8.o,h9,dI.bind_ok];rw[e];rfl))).mono ?_;intro e wq hp;cases hx:fG f R.l i9 with
            |out=>exact absurd hx (fun e=>fH.o (by rw[A8.o,h9,dI.bind_ok];rw[e];rfl))
            |err cc ln col=>rw[hx]at hp;obtain⟨rfl,hs⟩:=hp;exact⟨hdf,aK.aU cc ln col (by rw[A8.o,h9,dI.bind_ok];rw[hx];rfl) rfl (d_.o _ (dO.err hs))⟩
            |ok c9 k9=>rw[hx]at hp;obtain⟨⟨v,rfl,hv⟩,hr,hs⟩:=hp;exact⟨_,rfl,by rw[fQ.o];exact hJ.call OA.o nM.o hrb 3 v hr hs ⟨_,_,_,_,h9,hx,(eu jc).mono _ _ (fun q _ hq=>by have:=dO.st.size;omega) (show(lT EX) _ _ _ _ from hv)⟩ (mc ⟨fun _=>ay 1 rfl,(mc ⟨nd dc,(mc ⟨nd dc,nR⟩)⟩)⟩) (by have e7:=hJ.dR 7 3 dc hL;simp only[dP,gY];rw[e7];rfl) ⟨_,_,_,h9,hx⟩⟩
           ·have o5:=ig 5 rfl;change a.tmps[5]?.getD undef=.pointer (some ⟨b,0,none⟩)at o5;go_simp;exact tN
           ·have e70:=(ev 4 70 rfl (ay 4 rfl)).trans (hJ.fs 4 (ay 4 rfl));obtain⟨i9,dO,-⟩:=id hJ.sv;have iW:=dO.blk;obtain⟨a8,j8,h8,ct8,h6,h7⟩:=hJ.fs 1 (ay 1 rfl);obtain⟨mF,mG,mJ,mM,mO,mP,mQ,ta2,mV,mW,tl1,mX,hct⟩:=gG.parts h7;rw[hct]at h6;have hV:V 1=.agg #[ah mF,aI mG,aI mJ,bK mM,.slice mO mP mQ,.slice ta2 mV mW,ah tl1,ah mX]:=h6;have e67:=(ev 1 67 rfl (ay 1 rfl)).trans hV;refine fC 46 (.tmp 70) (.tmp 67) rfl b 5 83 _ [.int .i64 mF,.string mG,.string mJ,.bool mM,.slice mO mP mQ,.slice ta2 mV mW,.int .i64 tl1,.int .i64 mX] (by rw[bW];exact e70) (by rw[bW];exact e67) iW Tryz.gB (show 5+8≤17 by decide) (bn rfl) ?_;intro w9 hb8 hs8;exact⟨undef,rfl,by rw[fQ.o];exact hJ.put OA.o nM.o hrb 5 undef hs8 (by rw[hb8];show _=some (Obj.cells #[aI s23,.slice nN a26.bI.length nO,ah rc,aI lf,.slice pa ps.length pc,cond (dP L 5 5) (kN (V 1) 0) (ah 0),cond (dP L 5 5) (kN (V 1) 1) (aV),cond (dP L 5 5) (kN (V 1) 2) (aV),cond (dP L 5 5) (kN (V 1) 3) (aW),cond (dP L 5 5) (kN (V 1) 4) (ak),cond (dP L 5 5) (kN (V 1) 5) (ak),cond (dP L 5 5) (kN (V 1) 6) (ah 0),cond (dP L 5 5) (kN (V 1) 7) (ah 0),cond (dP L 5 7) (V 3) (ak),ak,ah tk.line,ah tk.col] 83 (0,0));rw[hV];rfl) rfl (mc ⟨nd dc,(mc ⟨fun _=>ay 1 rfl,(mc ⟨nd dc,nR⟩)⟩)⟩) rfl⟩
           ·have o5:=ig 5 rfl;change a.tmps[5]?.getD undef=.pointer (some ⟨b,0,none⟩)at o5;go_simp;exact tN
           ·have e71:=(ev 6 71 rfl (ay 6 rfl)).trans (hJ.fs 6 (ay 6 rfl));obtain⟨i9,dO,-⟩:=id hJ.sv;have iW:=dO.blk;obtain⟨a8,j8,c8,k8,h8,h7,Za,uo,-⟩:=hJ.fs 3 (ay 3 rfl);obtain⟨g8,n8,hV⟩:=uo.parts;have e69:=(ev 3 69 rfl (ay 3 rfl)).trans hV;have iC:∃v,X.cell? ⟨b,13,none⟩=some v:=⟨_,aj iW 13 _ rfl⟩;obtain⟨vc,ES⟩:=iC;have hfz:=aG iW 13;have hx:(X.setCell ⟨b,13,none⟩ (V 3)).heap[b]?=_:=aQ iW 13 (V 3);rw[hV]at hx;have hxx:=hx;go_simp;exact⟨undef,by rw[fQ.o];exact hJ.put OA.o nM.o hrb 7 undef (bg.setCell _ _ iV) (by rw[←hV];exact aQ iW 13 (V 3)) rfl (mc ⟨nd dc,(mc ⟨nd dc,(mc ⟨fun _=>ay 3 rfl,nR⟩)⟩)⟩) rfl⟩
          case hdone=>intro L V X hall hJ;rw[fQ.o]at hJ;obtain⟨i9,dO,jD⟩:=hJ.sv;rw[hall 3 dc]at jD;obtain⟨a9,j9,c9,uG,xZ⟩:∃a j c,lm f R.l jm d=.ok a j∧fG f R.l j=.ok c i9:=jD;have f1:=hJ.fs 1 (hall 1 dc);obtain⟨a8,j8,pW,g1⟩:=f1;rw[uG]at pW;cases pW;have f3:=hJ.fs 3 (hall 3 dc);obtain⟨a8,j8,c8,k8,pW,Dh,g3⟩:=f3;rw[uG]at pW;cases pW;rw[xZ]at Dh;cases Dh;(have dO:Sv R v1 b d I57 X i9 (Obj.cells #[aI s23,.slice nN a26.bI.length nO,ah rc,aI lf,.slice pa ps.length pc,kN (V 1) 0,kN (V 1) 1,kN (V 1) 2,kN (V 1) 3,kN (V 1) 4,kN (V 1) 5,kN (V 1) 6,kN (V 1) 7,V 3,ak,ah tk.line,ah tk.col] 83 (0,0)):=by have h:=dO;rw[hall 5 dc,hall 7 dc]at h;exact h);have kP:=ai dO;have ND:=ai g1;have KG:=ai g3;have Rl:=ai uG;have Rn:=ai xZ;rw[Nk];simp only[lW,dZ,FB,Bj];clear hJ hall dO uG xZ g1 g3;go_wp2_with fail;go_meet;case rel=>exact⟨a9,j9,c9,i9,V 1,V 3,Rl.o,Rn.o,kP.o,ND.o,KG.o⟩
         case rest=>
          obtain⟨a58,j58,Dn,Sj,u1,u3,hn1,hn2,hsv,hg1,hg3⟩:=hcut;obtain⟨w58,rfl⟩:=bF wc;obtain⟨ct,rfl,hty⟩:=hg1;obtain⟨mF,mG,mJ,mM,mO,mP,mQ,ta2,mV,mW,tl1,mX,rfl⟩:=hty.parts;obtain⟨wa,wu,rfl⟩:=lT.parts hg3;have hg1:N_ _ _ _ _:=⟨_,rfl,hty⟩;have qQ:Hid (Sv R v1 b d I57 w58 Sj (.cells #[aI s23,.slice nN a26.bI.length nO,ah rc,aI lf,.slice pa ps.length pc,ah mF,aI mG,aI mJ,bK mM,.slice mO mP mQ,.slice ta2 mV mW,ah tl1,ah mX,.slice wa Dn.length wu,ak,ah tk.line,ah tk.col] 83 (0,0))):=hsv;have lS:=ai hn1;have qw:=ai hn2;obtain⟨I58,QT,QU,IW⟩:=qQ.o.keep OA.o (J:=fun X=>N_ X (fun q=>v1.heap.size≤q) a58 (.agg #[ah mF,aI mG,aI mJ,bK mM,.slice mO mP mQ,.slice ta2 mV mW,ah tl1,ah mX])∧lT EX X (fun q=>v1.heap.size≤q) Dn (.slice wa Dn.length wu)) (g_.and (g_.at vV hrb om _ _) (g_.at (eu jc) hrb om _ _)) (⟨hg1,hg3⟩);have QV:=ai QT;have Es:=ai QU;have rH:=ai IW;clear QT QU IW;clear hn1 hn2 hsv hg1 hg3 hty;(have UU:Hid (r=(if body then bU f R.l Sj d else(aJ R.l Sj [59]).bind fun _ k=>.ok [] k).bind fun b k=>.ok ⟨s23,a26.bI,rc,lf,ps,a58,Dn,b,tk.line,tk.col⟩ k):=by show _=_;rw[A8.o,lS.o,dI.bind_ok];rw[qw.o];rfl);have p0:=bZ.o w58 rH.o.st;cases body with
          |true=>
           (have Oo:Hid (r=(bU f R.l Sj d).bind fun b k=>.ok ⟨s23,a26.bI,rc,lf,ps,a58,Dn,b,tk.line,tk.col⟩ k):=by show _=_;exact UU.o);go_wp2_with fail;refine(L_.o R _ Sj d HL.o rH.o.rd hd (fun e=>fH.o (by rw[Oo.o,e];rfl))).mono ?_;rintro e v61 hp;have hp2:aK R d (NS w58.heap.size) (bU f R.l Sj d) _ e v61:=hp;cases hn:bU f R.l Sj d with
           |out=>exact absurd (by rw[Oo.o,hn];rfl) fH.o
           |err c ln col=>rw[hn]at hp2;obtain⟨rfl,hs⟩:=hp2;refine⟨rfl,aK.aU c ln col (by rw[Oo.o,hn];rfl) rfl (d_.o _ (rH.o.err hs))⟩
           |ok a61 j61=>
            have HN61:=ai hn;rw[hn]at hp2;obtain⟨⟨v,rfl,hv⟩,hr,hs⟩:=hp2;obtain⟨Gs,Gt,rfl⟩:=gZ.parts hv;obtain⟨I61,hI61,hF61,XK⟩:=rH.o.got kC QV.o hrb om hr hs (At:=gZ) hv;have HI61:=ai hI61;have Sl:=ai hF61;have qP:=ai XK;clear hn hr hs hp hv hI61 hF61 XK p0;(have Gh:Hid (r=.ok ⟨s23,a26.bI,rc,lf,ps,a58,Dn,a61,tk.line,tk.col⟩ j61):=by show _=_;rw[Oo.o,HN61.o];rfl);have p0:=bZ.o v61 qP.o.st;have Rt:=aj qP.o.blk 14 _ rfl;have Ru:=aG qP.o.blk 14;obtain⟨v63,Zp⟩:=bF (v61.setCell ⟨b,14,none⟩ (.slice Gs a61.length Gt));(have sZ:Hid (Sv R v1 b d I61 v63 j61 (.cells #[aI s23,.slice nN a26.bI.length nO,ah rc,aI lf,.slice pa ps.length pc,ah mF,aI mG,aI mJ,bK mM,.slice mO mP mQ,.slice ta2 mV mW,ah tl1,ah mX,.slice wa Dn.length wu,.slice Gs a61.length Gt,ah tk.line,ah tk.col] 83 (0,0))):=by rw[Zp];exact(qP.o.set HI61.o hrb 14 (.slice Gs a61.length Gt)));(go_upto_region 23 with fail);rw[←Zp];clear Zp p0 Rt Ru;have p0:=bZ.o v63 sZ.o.st;(have bJ:Hid (∀(jj:Nat) v,[Value.string s23,.slice nN a26.bI.length nO,ah rc,aI lf,.slice pa ps.length pc,ah mF,aI mG,aI mJ,bK mM,.slice mO mP mQ,.slice ta2 mV mW,ah tl1,ah mX,.slice wa Dn.length wu,.slice Gs a61.length Gt,ah tk.line,ah tk.col][jj]?=some v→v63.cell? ⟨b,0+jj,none⟩=some v):=by intro jj v hv;rw[Nat.zero_add];exact aj sZ.o.blk jj v pO);have dQ:Hid (∀u∈[Value.string s23,.slice nN a26.bI.length nO,ah rc,aI lf,.slice pa ps.length pc,ah mF,aI mG,aI mJ,bK mM,.slice mO mP mQ,.slice ta2 mV mW,ah tl1,ah mX,.slice wa Dn.length wu,.slice Gs a61.length Gt,ah tk.line,ah tk.col],u.oneCell'=true):=bn rfl;have kS:=ai (sQ.o v63 sZ.o.st);obtain⟨Po,Ja,Jb⟩:=(Es.o _ (Sl.o _ sZ.o.inv).1).2.1;(obtain rfl:Po=[Value.int .i64 mF,aI mG,aI mJ,bK mM,.slice mO mP mQ,.slice ta2 mV mW,ah tl1,ah mX]:=by simpa using Ja.symm);obtain⟨Zq,Zr,hgv,hgn,-⟩:=(HF26.o _ (Vp.o _ (Es.o _ (Sl.o _ sZ.o.inv).1).1).1).2;(obtain⟨rfl,rfl⟩:Zq=.slice nN a26.bI.length nO∧Zr=.slice u_ a26.types.length vg:=by simpa using hgv.symm);have HEX:Hid (Ou v63 (fun q=>v1.heap.size≤q) ⟨s23,a26.bI,rc,lf,ps,a58,Dn,a61,tk.line,tk.col⟩ [.string s23,.slice nN a26.bI.length nO,.int .i64 rc,.string lf,.slice pa ps.length pc,.int .i64 mF,.string mG,.string mJ,.bool mM,.slice mO mP mQ,.slice ta2 mV mW,.int .i64 tl1,.int .i64 mX,.slice wa Dn.length wu,.slice Gs a61.length Gt,.int .i64 tk.line,.int .i64 tk.col]):=⟨[.int .i64 mF,.string mG,.string mJ,.bool mM,.slice mO mP mQ,.slice ta2 mV mW,.int .i64 tl1,.int .i64 mX],_,_,_,_,rfl,XG.o,NI.o,hgn,(Vp.o _ (Es.o _ (Sl.o _ sZ.o.inv).1).1).2,Jb,(Es.o _ (Sl.o _ sZ.o.inv).1).2.2,(Sl.o _ sZ.o.inv).2⟩;clear p0 Jb hgn hgv Ja;go_wp2_with (first
             |(refine aN rfl 83 (.tmp 5) rfl b 0 rfl [Value.string s23,.slice nN a26.bI.length nO,ah rc,aI lf,.slice pa ps.length pc,ah mF,aI mG,aI mJ,bK mM,.slice mO mP mQ,.slice ta2 mV mW,ah tl1,ah mX,.slice wa Dn.length wu,.slice Gs a61.length Gt,ah tk.line,ah tk.col] _ bJ.o Tryz.underlying83 rfl Tryz.nG ?_)
             |(refine aB (w:=v63) rfl 83 (.tmp 4) (.tmp 80) rfl (w.heap.size+1) 0 83 _ [Value.string s23,.slice nN a26.bI.length nO,ah rc,aI lf,.slice pa ps.length pc,ah mF,aI mG,aI mJ,bK mM,.slice mO mP mQ,.slice ta2 mV mW,ah tl1,ah mX,.slice wa Dn.length wu,.slice Gs a61.length Gt,ah tk.line,ah tk.col] rfl rfl kS.o Tryz.nG (Nat.le_of_eq rfl) dQ.o ?_;intro wR hbR di))
            have h_:wR.heap[w.heap.size+1]?=some (.cells [Value.string s23,.slice nN a26.bI.length nO,ah rc,aI lf,.slice pa ps.length pc,ah mF,aI mG,aI mJ,bK mM,.slice mO mP mQ,.slice ta2 mV mW,ah tl1,ah mX,.slice wa Dn.length wu,.slice Gs a61.length Gt,ah tk.line,ah tk.col].toArray 83 (0,0)):=hbR;refine bodyPost_ret (aS rfl _ (w.heap.size+1) 83 _ _ rfl h_ Tryz.underlying83 rfl Tryz.nG) rfl ?_;refine aK.dN (a:=⟨s23,a26.bI,rc,lf,ps,a58,Dn,a61,tk.line,tk.col⟩) (j:=j61) Gh.o rfl ⟨_,rfl,jI.mono _ _ oi (jI.step _ _ di oi HEX.o)⟩ (sZ.o.rd.step di oi) ((d_.o _ sZ.o.st).then di oi)
          |false=>
           (have RF:Hid (r=((aJ R.l Sj [59]).bind fun _ k=>.ok [] k).bind fun b k=>.ok ⟨s23,a26.bI,rc,lf,ps,a58,Dn,b,tk.line,tk.col⟩ k):=by show _=_;exact UU.o);go_wp2_with fail;refine(dL R HL.o w58.heap.size ⟨#[59]⟩ _ Sj d (rH.o.rd.quiet (bg.alloc _)) dc (aj (aC _ _) 0 _ rfl)).mono ?_;rintro e v65 hp;have hp2:aK R d iJ (aJ R.l Sj [59]) _ e v65:=hp;cases hn:aJ R.l Sj [59]with
           |out=>exact(dJ hn).elim
           |err c ln col=>rw[hn]at hp2;obtain⟨rfl,hs⟩:=hp2;refine⟨rfl,aK.aU c ln col (by rw[RF.o,hn];rfl) rfl (d_.o _ (rH.o.err (((Step.refl (·=R.rb) _).alloc _).trans hs)))⟩
           |ok u65 j65=>
            have HN65:=ai hn;rw[hn]at hp2;obtain⟨⟨v,rfl,rfl⟩,hr,hs⟩:=hp2;have tq:=ai (rH.o.read QV.o hrb hr (((Step.refl (·=R.rb) _).alloc _).trans hs));clear hn hr hs hp p0;(have Oi:Hid (r=.ok ⟨s23,a26.bI,rc,lf,ps,a58,Dn,[],tk.line,tk.col⟩ j65):=by show _=_;rw[RF.o,HN65.o];rfl);have p0:=bZ.o v65 tq.o.st;(go_upto_region 23 with fail);(have bJ:Hid (∀(jj:Nat) v,[Value.string s23,.slice nN a26.bI.length nO,ah rc,aI lf,.slice pa ps.length pc,ah mF,aI mG,aI mJ,bK mM,.slice mO mP mQ,.slice ta2 mV mW,ah tl1,ah mX,.slice wa Dn.length wu,ak,ah tk.line,ah tk.col][jj]?=some v→v65.cell? ⟨b,0+jj,none⟩=some v):=by intro jj v hv;rw[Nat.zero_add];exact aj tq.o.blk jj v pO);have dQ:Hid (∀u∈[Value.string s23,.slice nN a26.bI.length nO,ah rc,aI lf,.slice pa ps.length pc,ah mF,aI mG,aI mJ,bK mM,.slice mO mP mQ,.slice ta2 mV mW,ah tl1,ah mX,.slice wa Dn.length wu,ak,ah tk.line,ah tk.col],u.oneCell'=true):=bn rfl;have kS:=ai (sQ.o v65 tq.o.st);obtain⟨Po,Ja,Jb⟩:=(Es.o _ tq.o.inv).2.1;(obtain rfl:Po=[Value.int .i64 mF,aI mG,aI mJ,bK mM,.slice mO mP mQ,.slice ta2 mV mW,ah tl1,ah mX]:=by simpa using Ja.symm);obtain⟨Zq,Zr,hgv,hgn,-⟩:=(HF26.o _ (Vp.o _ (Es.o _ tq.o.inv).1).1).2;(obtain⟨rfl,rfl⟩:Zq=.slice nN a26.bI.length nO∧Zr=.slice u_ a26.types.length vg:=by simpa using hgv.symm);have HEX:Hid (Ou v65 (fun q=>v1.heap.size≤q) ⟨s23,a26.bI,rc,lf,ps,a58,Dn,[],tk.line,tk.col⟩ [.string s23,.slice nN a26.bI.length nO,.int .i64 rc,.string lf,.slice pa ps.length pc,.int .i64 mF,.string mG,.string mJ,.bool mM,.slice mO mP mQ,.slice ta2 mV mW,.int .i64 tl1,.int .i64 mX,.slice wa Dn.length wu,.slice none 0 0,.int .i64 tk.line,.int .i64 tk.col]):=⟨[.int .i64 mF,.string mG,.string mJ,.bool mM,.slice mO mP mQ,.slice ta2 mV mW,.int .i64 tl1,.int .i64 mX],_,_,_,_,rfl,XG.o,NI.o,hgn,(Vp.o _ (Es.o _ tq.o.inv).1).2,Jb,(Es.o _ tq.o.inv).2.2,gZ.nil _ _⟩;clear p0 Jb hgn hgv Ja;go_wp2_with (first
             |(refine aN rfl 83 (.tmp 5) rfl b 0 rfl [Value.string s23,.slice nN a26.bI.length nO,ah rc,aI lf,.slice pa ps.length pc,ah mF,aI mG,aI mJ,bK mM,.slice mO mP mQ,.slice ta2 mV mW,ah tl1,ah mX,.slice wa Dn.length wu,ak,ah tk.line,ah tk.col] _ bJ.o Tryz.underlying83 rfl Tryz.nG ?_)
             |(refine aB (w:=v65) rfl 83 (.tmp 4) (.tmp 80) rfl (w.heap.size+1) 0 83 _ [Value.string s23,.slice nN a26.bI.length nO,ah rc,aI lf,.slice pa ps.length pc,ah mF,aI mG,aI mJ,bK mM,.slice mO mP mQ,.slice ta2 mV mW,ah tl1,ah mX,.slice wa Dn.length wu,ak,ah tk.line,ah tk.col] rfl rfl kS.o Tryz.nG (Nat.le_of_eq rfl) dQ.o ?_;intro wR hbR di))
            have h_:wR.heap[w.heap.size+1]?=some (.cells [Value.string s23,.slice nN a26.bI.length nO,ah rc,aI lf,.slice pa ps.length pc,ah mF,aI mG,aI mJ,bK mM,.slice mO mP mQ,.slice ta2 mV mW,ah tl1,ah mX,.slice wa Dn.length wu,ak,ah tk.line,ah tk.col].toArray 83 (0,0)):=hbR;refine bodyPost_ret (aS rfl _ (w.heap.size+1) 83 _ _ rfl h_ Tryz.underlying83 rfl Tryz.nG) rfl ?_;refine aK.dN (a:=⟨s23,a26.bI,rc,lf,ps,a58,Dn,[],tk.line,tk.col⟩) (j:=j65) Oi.o rfl ⟨_,rfl,jI.mono _ _ oi (jI.step _ _ di oi HEX.o)⟩ (tq.o.rd.step di oi) ((d_.o _ tq.o.st).then di oi)
def sB (l:List UInt8):ByteArray:=⟨l.toArray⟩
def bM (l:List (List ByteArray)):List ByteArray:=if l.length=0 then[]else[⟨#[60]⟩]++aF l++[⟨#[62]⟩]
def AB (l:List ByteArray):List (List ByteArray):=l.map fun s=>[s]
mutual
def gu:Ty→List ByteArray
 | .mk k nm lf mu ls ar _ _=>
  if k=1 then[⟨#[105,110,116]⟩]else if k=2 then[⟨#[98,111,111,108]⟩]else if k=3 then[⟨#[102,54,52]⟩]else if k=4 then[⟨#[40]⟩,⟨#[41]⟩]
  else if k=5 then[nm]++bM (AB ls++Bc ar)
  else if k=6 then[⟨#[66,111,120]⟩]++([⟨#[60]⟩]++aF (Bc ar)++[⟨#[62]⟩])
  else if k=7 then[⟨#[38]⟩]++(if lf=⟨#[]⟩then[]else[lf])++(if mu then[⟨#[109,117,116]⟩]else[])++aF (Bc ar)
  else if k=8 then[⟨#[100,121,110]⟩,nm]++(if lf=⟨#[]⟩then[]else[⟨#[43]⟩,lf])
  else[]
def Bc:List Ty→List (List ByteArray)
 |[]=>[]
 |t::r=>gu t::Bc r
end
theorem qW:∀l,Bc l=l.map gu
 |[]=>by rw[Bc];rfl
 |t::r=>by rw[Bc,qW r];rfl
def pM (n:Nat):List UInt8:=if n<10 then[UInt8.ofNat (n+48)]else pM (n/10)++[UInt8.ofNat (n%10+48)]
termination_by n
decreasing_by omega
def Dp (d:Nat):UInt8:=if d<10 then UInt8.ofNat (d+48)else UInt8.ofNat (d+87)
def hexL:Nat→Nat→List UInt8
 |0,_=>[]
 |n+1,v=>hexL n (v/16)++[Dp (v%16)]
def lZ (l:List (List ByteArray)):List ByteArray:=l.headD []
mutual
def dM:Ex→List ByteArray
 | .mk k nm v mu ar ns bo _ _=>
  if k=1 then[sB (pM v.toNat)]else if k=2 then[if v=1 then⟨#[116,114,117,101]⟩else⟨#[102,97,108,115,101]⟩]else if k=3 then[⟨#[48,102]⟩++sB (hexL 16 v.toNat)]else if k=4 then[⟨#[40]⟩,⟨#[41]⟩]
  else if k=5 then[nm]
  else if k=6 then lZ (dF ar)++[⟨#[46]⟩,nm]
  else if k=7 then[⟨#[42]⟩]++lZ (dF ar)
  else if k=8 then(if mu then[⟨#[38]⟩,⟨#[109,117,116]⟩]else[⟨#[38]⟩])++lZ (dF ar)
  else if k=9 then[⟨#[66,111,120]⟩]++([⟨#[40]⟩]++lZ (dF ar)++[⟨#[41]⟩])
  else if k=10 then[⟨#[117,110,98,111,120]⟩]++([⟨#[40]⟩]++lZ (dF ar)++[⟨#[41]⟩])
  else if k=11 then[⟨#[110,101,119]⟩,nm]++([⟨#[123]⟩]++aF ((ns.zip (dF ar)).map fun p=>[p.1,⟨#[58]⟩]++p.2)++[⟨#[125]⟩])
  else if k=12 then[nm]++([⟨#[40]⟩]++aF (dF ar)++[⟨#[41]⟩])
  else if k=13 then lZ (dF ar)++[⟨#[46]⟩,nm]++([⟨#[40]⟩]++aF ((dF ar).drop 1)++[⟨#[41]⟩])
  else if k=14 then lZ (dF ar)++[nm]++(if 1<(dF ar).length then(dF ar).getD 1 []else[])
  else if k=15 then[nm]++lZ (dF ar)
  else if k=16 then[⟨#[99,104,111,111,115,101]⟩]
  else if k=17 then[⟨#[97,115]⟩,nm]++([⟨#[124]⟩]++aF (AB ns)++[⟨#[124]⟩])++([⟨#[123]⟩]++eX bo++[⟨#[125]⟩])
  else if k=18 then[⟨#[40]⟩]++lZ (dF ar)++[⟨#[41]⟩]
  else[]
def dF:List Ex→List (List ByteArray)
 |[]=>[]
 |t::r=>dM t::dF r
def uY:St→List ByteArray
 | .mk k nm ty pl e bo el ot _ _=>
  if k=1 then[⟨#[108,101,116]⟩,nm]++(match ty with| .mk tk _ _ _ _ _ _ _=>if tk=0 then[]else[⟨#[58]⟩]++gu ty)++(if e.length=0 then[]else[⟨#[61]⟩]++aF (dF e))++[⟨#[59]⟩]
  else if k=2 then aF (dF pl)++[⟨#[61]⟩]++aF (dF e)++[⟨#[59]⟩]
  else if k=3 then aF (dF e)++[⟨#[59]⟩]
  else if k=4 then[⟨#[105,102]⟩]++aF (dF e)++([⟨#[123]⟩]++eX bo++[⟨#[125]⟩])++(if ot then[⟨#[101,108,115,101]⟩]++([⟨#[123]⟩]++eX el++[⟨#[125]⟩])else[])
  else if k=5 then[⟨#[119,104,105,108,101]⟩]++aF (dF e)++([⟨#[123]⟩]++eX bo++[⟨#[125]⟩])
  else if k=6 then[⟨#[114,101,116,117,114,110]⟩]++aF (dF e)++[⟨#[59]⟩]
  else if k=7 then[⟨#[97,98,111,114,116]⟩,⟨#[59]⟩]
  else if k=8 then[⟨#[123]⟩]++eX bo++[⟨#[125]⟩]
  else[]
def eX:List St→List ByteArray
 |[]=>[]
 |s::r=>uY s++eX r
end
theorem iY:∀l,dF l=l.map dM
 |[]=>by rw[dF];rfl
 |t::r=>by rw[dF,iY r];rfl
theorem fU {ls:List (List ByteArray)} {x:List ByteArray} (h:x∈ls):x.length≤(aF ls).length:=by obtain⟨i,hi⟩:=List.getElem?_of_mem h;have h1:=(List.getElem?_eq_some_iff.1 hi).1;have h2:=XB ls (i+1) ls.length h1;rw[cm,wO hi]at h2;simp only[List.length_append]at h2;unfold aF;omega
def KH (l:List St):Prop:=∀(v:Value) (w:World) (D:Nat→Prop) (xs:List Value),dh w D v l.length xs→eP w D l xs→([⟨#[123]⟩]++eX l++[⟨#[125]⟩]:List ByteArray).length≤100000000→Calls Tryz.prog 29 #[v] w (Mk (aH ([⟨#[123]⟩]++eX l++[⟨#[125]⟩])) w)
def xI (t:Ty):Prop:=∀(cs:List Value) (w:World) (D:Nat→Prop),gG w D t cs→(gu t).length≤100000000→Calls Tryz.prog 56 #[.agg cs.toArray] w (Mk (aH (gu t)) w)
def qA (x:Ex):Prop:=∀(cs:List Value) (w:World) (D:Nat→Prop),dA w D x cs→(dM x).length≤100000000→Calls Tryz.prog 12 #[.agg cs.toArray] w (Mk (aH (dM x)) w)
theorem wB (l:List ByteArray) (v:Value) (w:World) (D:Nat→Prop) (hv:zf w D v l) (hl:l.length≤100000000):Calls Tryz.prog 24 #[v] w (Mk (jw (l.map fun s=>[s])) w):=by
 obtain⟨a,c,rfl,-,-,-,hr⟩:=hv;obtain⟨n,hn⟩:=bF l.length;have HN:=ai hn;rw[←hn]at hl⊢;clear hn;go_enter Tryz.func24,Tryz.ntmps24;go_wp2_with fail;go_loopg [3,4] n (fun gg s3 s4 wr=>∃(i:Nat) (C:Nat→Prop),s4=.int .i64 i∧i≤n∧n-i≤gg∧(jw ((l.map fun s=>[s]).take i)).r s3 wr C∧(∀q,C q→w.heap.size≤q)∧Step Sf w wr);case atStart=>exact⟨0,Sf,rfl,Nat.zero_le _,by omega,oz.nil _ _,(fun _ h=>h.elim),Step.refl _ _⟩
 case round=>
  obtain⟨i,C,rfl,hi,hg,hu,hC,hst⟩:=hrel;have HU:=ai hu;have HC:=ai hC;have HST:=ai hst;clear hu hC hst;by_cases hlt:i<n
  ·skip
   have hlt2:i<l.length:=by rw[←HN.o];exact hlt
   obtain⟨x,hx⟩:∃x,l[i]?=some x:=⟨l[i],List.getElem?_eq_getElem hlt2⟩
   have HX:Hid ((l.map fun s=>[s]).take (i+1)=(l.map fun s=>[s]).take i++[[x]]):=show _=_ from take_snoc (by rw[List.getElem?_map,hx];rfl)
   have h8:=hr om
   obtain⟨g,o,rfl,h6,h7,h9⟩:=h8
   have h10:=h9 i (.string x) (by rw[List.getElem?_map,hx];rfl)
   have Ih:Hid (∀X,Step Sf w X→X.cell? ⟨g,o+i,none⟩=some (.string x)):=show∀X,_ from fun X hX=>hX.cell h10 (fun h=>h)
   clear h6 h7 h9 h10 hx hr
   go_upto_region 5 with fail
   refine au w [.r [9] (jw ((l.map fun s=>[s]).take i)),.p (.slice (some ⟨g,o,none⟩) n c),.p (.int .i64 i),.p (.pointer (some ⟨g,o+i,none⟩)),.p (.string x),.r [] (aH [x]),.r [5] (jw [[x]]),.r [0,6] (jw ((l.map fun s=>[s]).take (i+1))),.r [7] (jw ((l.map fun s=>[s]).take (i+1))),.r [] (Kp (jw ((l.map fun s=>[s]).take i)) (u3))] kr HST.o (jf rfl rfl HU.o HC.o) ?_ kr ?_
   ·
    refine OB.mi 3 ?_
    refine OB.p ?_
    refine OB.p ?_
    refine OB.p ?_
    refine OB.p ?_ (fun X hX=>by have c:=Ih.o X hX;go_simp)
    refine OB.bs [x] 1 ?_
    refine OB.ls 16 ?_
    refine OB.to (congrArg jw HX.o) ?_
    refine OB.la 11 17 (by have h:=HN.o;simp only[List.length_take,List.length_singleton];omega) ?_
    refine OB.mv 18 ?_
    exact OB.nil
   intro V X f hX hf
   have h4:(jw _).r _ X _:=hf 8 kr
   simp only[dm,Act.put,List.setIfInBounds_toArray,List.set_cons_zero,List.set_cons_succ,Nat.zero_add]
   go_wp2_with fail
   go_roundg (gk-1)
   case rel=>exact⟨i+1,_,by go_num,by omega,by omega,h4,(fun q h=>h.1),hX⟩
   case measure=>omega
  ·skip
   go_wp2
   go_ret
   have:i=(l.map fun s=>[s]).length:=by have:=HN.o;simp only[List.length_map];omega
   have h:=HU.o
   rw[this,List.take_length]at h
   exact⟨_,rfl,HST.o,(jw _).ok.mono (fun q _ h=>HC.o q h) h⟩
theorem qB (l:List Ty) (v:Value) (w:World) (D:Nat→Prop) (xs:List Value) (hv:dh w D v l.length xs) (hel:fV w D l xs) (hl:l.length≤100000000) (ih:∀t∈l,xI t) (hb:∀t∈l,(gu t).length≤100000000):Calls Tryz.prog 97 #[v] w (Mk (jw (l.map gu)) w):=by
 obtain⟨a,c,rfl,-,-,-,hr⟩:=hv;obtain⟨n,hn⟩:=bF l.length;have HN:=ai hn;rw[←hn]at hl⊢;clear hn;go_enter Tryz.func97,Tryz.ntmps97;go_wp2_with fail;go_loopg [3,4] n (fun gg s3 s4 wr=>∃(i:Nat) (C:Nat→Prop),s4=.int .i64 i∧i≤n∧n-i≤gg∧(jw ((l.map gu).take i)).r s3 wr C∧(∀q,C q→w.heap.size≤q)∧Step Sf w wr);case atStart=>exact⟨0,Sf,rfl,Nat.zero_le _,by omega,oz.nil _ _,(fun _ h=>h.elim),Step.refl _ _⟩
 case round=>
  obtain⟨i,C,rfl,hi,hg,hu,hC,hst⟩:=hrel;have HU:=ai hu;have HC:=ai hC;have HST:=ai hst;clear hu hC hst;by_cases hlt:i<n
  ·skip
   have hlt2:i<l.length:=by rw[←HN.o];exact hlt
   obtain⟨x,hx⟩:∃x,l[i]?=some x:=⟨l[i],List.getElem?_eq_getElem hlt2⟩
   have HX:Hid ((l.map gu).take (i+1)=(l.map gu).take i++[gu x]):=show _=_ from take_snoc (by rw[List.getElem?_map,hx];rfl)
   obtain⟨g,o,rfl,h6,h7,h9⟩:=hr om
   obtain⟨cs,hat,hf⟩:=fV.cells hel hx h9
   have HF:Hid (∀X,Step Sf w X→∀(j:Nat) v,cs[j]?=some v→X.cell? ⟨g,o+i*8+j,none⟩=some v):=show∀X,_ from fun X hX j v h=>hX.cell (hf j v h) (fun h=>h)
   have hm:=List.mem_of_getElem? hx
   have hcx:=ih x hm
   have hbx:=hb x hm
   have HAT:=ai hat
   have hcl:(Tryz.prog.info? 46).map (·.size)=some cs.length:=by rw[hat.len];exact Tryz.gB
   clear h6 h7 h9 hx hr hf hat hm hel ih hb
   go_upto_region 5 with fail
   refine au w [.r [9] (jw ((l.map gu).take i)),.p (.slice (some ⟨g,o,none⟩) n c),.p (.int .i64 i),.p (.pointer (some ⟨g,o+i*8,none⟩)),.p (.agg cs.toArray),.r [] (aH (gu x)),.r [5] (jw [(gu x)]),.r [0,6] (jw ((l.map gu).take (i+1))),.r [7] (jw ((l.map gu).take (i+1))),.r [] (Kp (jw ((l.map gu).take i)) (u3))] kr HST.o (jf rfl rfl HU.o HC.o) ?_ kr ?_
   ·
    refine OB.mi 3 ?_
    refine OB.p ?_
    refine OB.p ?_
    refine OB.p ?_
    refine OB.ld g (o+i*8) cs _ HF.o Tryz.underlying46 hcl ?_
    refine OB.c #[.agg cs.toArray] Tryz.func56 (fun X hX=>hcx cs X D (gG.step hX (fun _ _ h=>h) _ _ HAT.o) hbx) ?_
    refine OB.ls 16 ?_
    refine OB.to (congrArg jw HX.o) ?_
    refine OB.la 11 17 (by have h:=HN.o;simp only[List.length_take,List.length_singleton];omega) ?_
    refine OB.mv 18 ?_
    exact OB.nil
   intro V X f hX hf
   have h4:(jw _).r _ X _:=hf 8 kr
   simp only[dm,Act.put,List.setIfInBounds_toArray,List.set_cons_zero,List.set_cons_succ,Nat.zero_add]
   go_wp2_with fail
   go_roundg (gk-1)
   case rel=>exact⟨i+1,_,by go_num,by omega,by omega,h4,(fun q h=>h.1),hX⟩
   case measure=>omega
  ·skip
   go_wp2
   go_ret
   have:i=(l.map gu).length:=by have:=HN.o;simp only[List.length_map];omega
   have h:=HU.o
   rw[this,List.take_length]at h
   exact⟨_,rfl,HST.o,(jw _).ok.mono (fun q _ h=>HC.o q h) h⟩
theorem kJ (l:List Ex) (v:Value) (w:World) (D:Nat→Prop) (xs:List Value) (hv:dh w D v l.length xs) (hel:bY w D l xs) (hl:l.length≤100000000) (ih:∀t∈l,qA t) (hb:∀t∈l,(dM t).length≤100000000) (hbc:(aF (l.map dM)).length≤100000000):Calls Tryz.prog 35 #[v] w (Mk (aH (aF (l.map dM))) w):=by
 obtain⟨a,c,rfl,-,-,-,hr⟩:=hv;obtain⟨n,hn⟩:=bF l.length;have HN:=ai hn;rw[←hn]at hl⊢;clear hn;go_enter Tryz.func35,Tryz.ntmps35;go_wp2_with fail;go_loopg [3,4] n (fun gg s3 s4 wr=>∃(i:Nat) (C:Nat→Prop),s4=.int .i64 i∧i≤n∧n-i≤gg∧(jw ((l.map dM).take i)).r s3 wr C∧(∀q,C q→w.heap.size≤q)∧Step Sf w wr);case atStart=>exact⟨0,Sf,rfl,Nat.zero_le _,by omega,oz.nil _ _,(fun _ h=>h.elim),Step.refl _ _⟩
 case round=>
  obtain⟨i,C,rfl,hi,hg,hu,hC,hst⟩:=hrel;have HU:=ai hu;have HC:=ai hC;have HST:=ai hst;clear hu hC hst;by_cases hlt:i<n
  ·skip
   have hlt2:i<l.length:=by rw[←HN.o];exact hlt
   obtain⟨x,hx⟩:∃x,l[i]?=some x:=⟨l[i],List.getElem?_eq_getElem hlt2⟩
   have HX:Hid ((l.map dM).take (i+1)=(l.map dM).take i++[dM x]):=show _=_ from take_snoc (by rw[List.getElem?_map,hx];rfl)
   obtain⟨g,o,rfl,h6,h7,h9⟩:=hr om
   obtain⟨cs,hat,hf⟩:=bY.cells hel hx h9
   have HF:Hid (∀X,Step Sf w X→∀(j:Nat) v,cs[j]?=some v→X.cell? ⟨g,o+i*9+j,none⟩=some v):=show∀X,_ from fun X hX j v h=>hX.cell (hf j v h) (fun h=>h)
   have hm:=List.mem_of_getElem? hx
   have hcx:=ih x hm
   have hbx:=hb x hm
   have HAT:=ai hat
   have hcl:(Tryz.prog.info? 56).map (·.size)=some cs.length:=by rw[hat.len];exact Tryz.aO
   clear h6 h7 h9 hx hr hf hat hm hel ih hb
   go_upto_region 5 with fail
   refine au w [.r [9] (jw ((l.map dM).take i)),.p (.slice (some ⟨g,o,none⟩) n c),.p (.int .i64 i),.p (.pointer (some ⟨g,o+i*9,none⟩)),.p (.agg cs.toArray),.r [] (aH (dM x)),.r [5] (jw [(dM x)]),.r [0,6] (jw ((l.map dM).take (i+1))),.r [7] (jw ((l.map dM).take (i+1))),.r [] (Kp (jw ((l.map dM).take i)) (u3))] kr HST.o (jf rfl rfl HU.o HC.o) ?_ kr ?_
   ·
    refine OB.mi 3 ?_
    refine OB.p ?_
    refine OB.p ?_
    refine OB.p ?_
    refine OB.ld g (o+i*9) cs _ HF.o Tryz.underlying56 hcl ?_
    refine OB.c #[.agg cs.toArray] Tryz.func12 (fun X hX=>hcx cs X D (dA.step hX (fun _ _ h=>h) _ _ HAT.o) hbx) ?_
    refine OB.ls 16 ?_
    refine OB.to (congrArg jw HX.o) ?_
    refine OB.la 11 17 (by have h:=HN.o;simp only[List.length_take,List.length_singleton];omega) ?_
    refine OB.mv 18 ?_
    exact OB.nil
   intro V X f hX hf
   have h4:(jw _).r _ X _:=hf 8 kr
   simp only[dm,Act.put,List.setIfInBounds_toArray,List.set_cons_zero,List.set_cons_succ,Nat.zero_add]
   go_wp2_with fail
   go_roundg (gk-1)
   case rel=>exact⟨i+1,_,by go_num,by omega,by omega,h4,(fun q h=>h.1),hX⟩
   case measure=>omega
  ·skip
   have hn2:i=(l.map dM).length:=by have:=HN.o;simp only[List.length_map];omega
   have h:=HU.o
   rw[hn2,List.take_length]at h
   have OC:=ai h
   have hl3:(l.map dM).length≤100000000:=by rw[←hn2];omega
   clear h hn2 HU
   go_upto_region 6 with fail
   refine au w [.r [3] (jw (l.map dM)),.r [0] (aH (aF (l.map dM))),.r [1] (aH (aF (l.map dM))),.r [] (Kp (jw (l.map dM)) (u3))] kr HST.o (jf rfl rfl OC.o HC.o) ?_ kr ?_
   ·
    refine OB.mi 3 ?_
    refine OB.cu (ok:=jw (l.map dM)) 19 (fun v=> #[v]) Tryz.func34 (fun X v C hX hv=>jT _ v X C (oz.ls hv) hl3 hbc) ?_
    refine OB.mv 20 ?_
    exact OB.nil
   intro V X f hX hf
   have h4:(aH _).r _ X _:=hf 2 kr
   simp only[dm,Act.put,List.setIfInBounds_toArray,List.set_cons_zero,List.set_cons_succ,Nat.zero_add]
   go_wp2_with fail
   go_ret
   exact⟨_,rfl,hX,(aH _).ok.mono (fun _ _ h=>h.1) h4⟩
end Go.Proofs.YtggjfinekcenpaaGreat
