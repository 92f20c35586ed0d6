import Derived.Test.YtggjfinekcenpaaGreatPkL
set_option maxRecDepth 100000
set_option maxHeartbeats 80000000
namespace Go.Proofs.YtggjfinekcenpaaGreat
open Go.RowKit
open Vt
theorem Tryz.KP:(Tryz.prog.info? 83).map (fun i=>(i.zero,i.size,i.bytes))=some (some (.agg #[dG,ak,ah 0,dG,ak,ah 0,dG,dG,aW,ak,ak,ah 0,ah 0,ak,ak,ah 0,ah 0]),17,264):=by kernel_rfl
def MtsV (n0:Nat) (w':World) (a:List Mt) (v:Value):Prop:=lT Ou w' (fun k=>n0≤k) a v
theorem AL (f:Nat) (ER:∀f',f'≤f→rF f') (RZ:∀f',f'≤f→vN f') (R:gI) (w:World) (i d:Nat) (body:Bool) (hl:oJ R.l) (h:bC R w i d) (hd:d≤40) (hno:iO f R.l i d body≠.out):Calls Tryz.prog 92 #[.agg #[gW R.rb 0],.bool body] w (aK R d (MtsV w.heap.size) (iO f R.l i d body) w):=by
 have HL:=ai hl;have L_:=ai ER;have Pv:=ai RZ;obtain⟨r,hr⟩:=bF (iO f R.l i d body);have HRR:Hid (r=(aJ R.l i [123]).bind fun _ j=>oV f R.l j d body []):=by show _=_;rw[hr,iO]
 rw[←hr]at hno⊢;have fH:=ai hno;obtain⟨i0,hi0,hz0,hz1,hz2⟩:=info_parts Tryz.KP;have HI:=ai hi0;have HZ0:=ai hz0;have HZ1:=ai hz1;have HZ2:=ai hz2;obtain⟨w1,hw1⟩:=bF (w.alloc (.cells #[gW R.rb 0] 75));have dH:=nS hw1
 have kK:=nB hw1
 have HW1:=ai hw1;have H1:=ai (h.quiet dH.o);have hn1:=aP kK.o;have uq:=aP h.blk;have hwz:R.rb<w1.heap.size:=by omega
 have bZ:Hid (∀X:World,Step (·=R.rb) w1 X→X.cell? ⟨w.heap.size,0,none⟩=some (.pointer (some ⟨R.rb,0,none⟩))):=fun X hX=>aj (hX.keep kK.o om) 0 _ rfl
 have d_:Hid (∀X:World,Step (·=R.rb) w1 X→Step (·=R.rb) w X):=fun X hX=>(dH.o.mono fe).trans hX
 clear hw1;have p0:=bZ.o w1 bg;clear ER RZ hl h hno hr hi0 hz0 hz1 hz2;go_enter Tryz.func92,Tryz.ntmps92;go_upto_region 2 with fail
 rw[←HW1.o];go_wp2_with fail;refine(dL R HL.o w1.heap.size ⟨#[123]⟩ _ i d (H1.o.quiet (bg.alloc _)) dc (aj (aC _ _) 0 _ rfl)).mono ?_;rintro e w2 hp;have hp2:aK R d iJ (aJ R.l i [123]) _ e w2:=hp;cases hn:aJ R.l i [123]with
 |out=>exact(dJ hn).elim
 |err c ln col=>rw[hn]at hp2;obtain⟨rfl,sb⟩:=hp2;exact⟨rfl,aK.aU c ln col (by rw[HRR.o,hn];rfl) rfl (d_.o _ (((Step.refl (·=R.rb) _).alloc _).trans sb))⟩
 |ok u2 i2=>
  have qw:=ai hn;rw[hn]at hp2;obtain⟨⟨v,rfl,rfl⟩,hr2,s2⟩:=hp2;have HR2:=ai hr2;have HS2:Hid (Step (·=R.rb) w1 w2):=((Step.refl (·=R.rb) _).alloc _).trans s2;have kU:Hid (r=oV f R.l i2 d body []):=by show _=_;rw[HRR.o,qw.o];rfl
  clear hn hr2 s2 p0 hp;go_wp2_with fail;go_loopg [5] f (fun gg s5 wr=>gg≤f∧∃(i':Nat) (acc:List Mt) (xs:List Value),r=oV gg R.l i' d body acc∧y_ Ou 83 17 R w1 d wr i' acc s5 xs);case atStart=>exact⟨Nat.le_refl _,i2,[],[],kU.o,HR2.o,World.ownsRow_nil _ _ _ _,rfl,HS2.o⟩
  case round=>
   obtain⟨hgf,i',acc,xs,hrq,hst⟩:=hrel;obtain⟨gn,rfl⟩:∃gn,gk=gn+1:=by
    cases gk with
    |zero=>exact absurd hrq (by rw[oV];exact fH.o)
    |succ gn=>exact⟨gn,rfl⟩
   (have tX:Hid (r=if bG R.l i' [125]then .ok acc (i'+1)else(eU acc.length 12 R.l i').bind fun _ i=>(ny gn R.l i d body).bind fun x j=>oV gn R.l j d body (acc++[x])):=by show _=_;rw[hrq,oV]);obtain⟨oa,oc,rfl⟩:=b_ hst.ow;have HST:=ai hst;have p0:=bZ.o wr hst.st;clear hrq hst;go_wp2_with fail;cases hb:bG R.l i' [125]with
   |true=>have HB:=ai hb;clear hb;refine(cZ R HL.o ⟨#[125]⟩ _ i' d HST.o.rd dc HB.o).mono ?_;rintro e w6 ⟨rfl,o9,s6⟩;have fA:=ai (HST.o.read jI hwz o9 s6);(have yR:=ai (tX.o.trans (if_pos HB.o)));clear o9 s6 p0;go_wp2_with fail;go_ret;have hsz:=dH.o.size;exact aK.dN yR.o rfl ⟨_,dh.jd fA.o.ow (fun q hq=>by have:=(fA.o.ow.lt q hq).1;omega),ou.mono jI (fun q _ hq=>by have:=hq.1;omega) _ _ fA.o.el⟩ fA.o.rd (d_.o _ fA.o.st)
   |false=>
    have HB:=ai hb;clear hb;refine(dU R HL.o ⟨#[125]⟩ _ i' d HST.o.rd dc HB.o).mono ?_;rintro e wq ⟨rfl,o9,s6⟩;have zl:=ai (HST.o.read jI hwz o9 s6);(have Sr:=ai (tX.o.trans (wZ HB.o)));clear o9 s6 p0;have p0:=bZ.o wq zl.o.st;go_wp2_with fail;refine(mr R wq acc.length 12 i' d zl.o.rd).mono ?_;rintro e w3 hp;cases hn:eU acc.length 12 R.l i' with
    |out=>exact(kX hn).elim
    |err c ln col=>rw[hn]at hp;obtain⟨rfl,s3⟩:=hp;exact⟨rfl,aK.aU c ln col (by rw[Sr.o,hn];rfl) rfl (d_.o _ (zl.o.st.trans s3))⟩
    |ok u j3=>
     have hji:j3=i'∧acc.length<12:=by
      unfold eU at hn;split at hn
      ·cases hn
      ·cases hn;exact⟨rfl,by omega⟩
     obtain⟨hj3,hlt⟩:=hji;have uZ:=ai hn;rw[hn]at hp;obtain⟨⟨v,rfl,rfl⟩,hr3,s3⟩:=hp;have fP:=ai (zl.o.read jI hwz hr3 s3);have qf:=ai (Sr.o.trans (tV uZ.o));clear hn hr3 s3 p0 hj3;have p0:=bZ.o w3 fP.o.st;go_wp2_with fail;refine(KE gn (L_.o gn om) (fun f' hf=>Pv.o f' om) R w3 j3 d body HL.o fP.o.rd hd (fun e=>fH.o (by rw[qf.o,e];rfl))).mono ?_;rintro e wx hp;have hp2:aK R d (MtV w3.heap.size) (ny gn R.l j3 d body) _ e wx:=hp;cases hx:ny gn R.l j3 d body with
     |out=>exact absurd (by rw[qf.o,hx];rfl) fH.o
     |err c ln col=>rw[hx]at hp2;obtain⟨rfl,sq⟩:=hp2;exact⟨rfl,aK.aU c ln col (by rw[qf.o,hx];rfl) rfl (d_.o _ (fP.o.st.trans sq))⟩
     |ok x jx=>
      have HX:=ai hx;rw[hx]at hp2;obtain⟨⟨v,rfl,cs,rfl,hy⟩,hrx,hsx⟩:=hp2;have I_:=ai (jI.len _ _ hy);have dQ:=ai (jI.one _ _ hy);have Ph:=ai (qf.o.trans (tV HX.o));obtain⟨w4,hw4⟩:=bF (wx.alloc (.cells cs.toArray 83));(have ji:Hid (jg wx w4):=by rw[hw4];exact bg.alloc _);have fD:=ai ((fP.o.read jI hwz hrx hsx).quiet jI ji.o);have NZ:Hid (Ou w4 (fun q=>w3.heap.size≤q) x cs):=jI.step _ _ ji.o (fun _ _ h=>h) hy;(have F5:Hid ((wx.alloc (.cells cs.toArray 83)).ownsRow w1.heap.size 83 17 (.slice oa acc.length oc) acc.length xs):=by rw[←hw4];exact fD.o.ow);have yU:Hid (Row (wx.alloc (.cells cs.toArray 83)) (wx.heap.size+1) (.slice (some ⟨wx.heap.size,0,none⟩) 1 1) 1 cs):=Row.new (aC _ _) dc;(have F6:Hid (w1.heap.size≤(wx.alloc (.cells cs.toArray 83)).heap.size):=by rw[←hw4];exact fD.o.st.size);have UE:=ai hw4;have CQ:=ai hlt;(have TV:i0.size=cs.length:=by rw[I_.o];exact HZ1.o);(have hC2:(Value.agg #[dG,ak,ah 0,dG,ak,ah 0,dG,dG,aW,ak,ak,ah 0,ah 0,ak,ak,ah 0,ah 0]).cells.size=cs.length:=by rw[I_.o];rfl);(have XD:0<cs.length:=by rw[I_.o];decide);(have XE:cs.length≤16777216:=by rw[I_.o];decide);(have XF:cs.length=1*17:=by rw[I_.o]);have HC:=ai (And.intro TV (And.intro hC2 (And.intro XD (And.intro XE XF))));clear hx hp hy hrx hsx p0 hw4 hlt TV hC2 XD XE XF;go_wp2_with (first
       |(refine lU rfl 48 (.tmp 21) rfl 83 i0 (.agg #[dG,ak,ah 0,dG,ak,ah 0,dG,dG,aW,ak,ak,ah 0,ah 0,ak,ak,ah 0,ah 0]) cs rfl Tryz.underlying48 HI.o HZ0.o HC.o.1 HC.o.2.1 HC.o.2.2.1 HC.o.2.2.2.1 ?_)
       |(refine jU _ rfl (wx.heap.size+1) (.tmp 18) (.tmp 22) 48 rfl w1.heap.size 83 i0 (.agg #[dG,ak,ah 0,dG,ak,ah 0,dG,dG,aW,ak,ak,ah 0,ah 0,ak,ak,ah 0,ah 0]) 17 264 Tryz.underlying48 HI.o HZ0.o HZ1.o HZ2.o rfl dc _ _ _ (by rfl) F5.o _ 1 _ (by rfl) yU.o HC.o.2.2.2.2 dQ.o (by have:=CQ.o;unfold maxLen;omega) (by have:=CQ.o;omega) F6.o ?_;intro v9 w9 iU gJ oG))
      rw[←UE.o]at gJ oG;have iM:=ai (fP.o.push jI fD.o NZ.o iU gJ oG hwz);clear iU gJ oG;have p0:=bZ.o w9 iM.o.st;go_roundg gn;case rel=>exact⟨by omega,jx,acc++[x],_,Ph.o,iM.o⟩
      case measure=>omega
end Go.Proofs.YtggjfinekcenpaaGreat
