import Derived.Test.YtggjfinekcenpaaGreatPkJ
set_option maxRecDepth 100000
set_option maxHeartbeats 80000000
namespace Go.Proofs.YtggjfinekcenpaaGreat
open Go.RowKit
theorem Aw {p:Prop} (h:p:=by exact fun _ _ _=>by omega):p:=h
open Vt
def Hz (w:World) (P:Nat→Prop) (g:Gn) (v:Value):Prop:=∃vl vt:Value,v=.agg #[vl,vt]∧fB w P g.bI vl∧fB w P g.types vt
theorem x9:CS Hz:=⟨fun _ _ hs hP ⟨vl,vt,h1,h2,h3⟩=>⟨vl,vt,h1,dY.step _ _ hs hP h2,dY.step _ _ hs hP h3⟩,fun _ _ hp ⟨vl,vt,h1,h2,h3⟩=>⟨vl,vt,h1,dY.mono _ _ hp h2,dY.mono _ _ hp h3⟩⟩
def GnV (n0:Nat) (w':World) (a:Gn) (v:Value):Prop:=Hz w' (fun k=>n0≤k) a v
theorem Gq (f:Nat) (R:gI) (w:World) (i d:Nat) (hl:oJ R.l) (h:bC R w i d) (hno:oU f R.l i≠.out):Calls Tryz.prog 90 #[.agg #[gW R.rb 0]] w (aK R d (GnV w.heap.size) (oU f R.l i) w):=by
 have HL:=ai hl;obtain⟨r,hr⟩:=bF (oU f R.l i);have HRR:Hid (r=if bG R.l i [60]then mY f R.l (i+1) [] []else .ok ⟨[],[]⟩ i):=by show _=_;rw[hr,oU]
 rw[←hr]at hno⊢;have fH:=ai hno;have uq:=aP h.blk;obtain⟨w1,hw1⟩:=bF (((w.alloc (.cells #[gW R.rb 0] 75)).alloc (.cells #[ak,ak] 42)).alloc (.cells #[ak,ak] 42));have dH:Hid (jg w w1):=by rw[hw1];exact((bg.alloc _).alloc _).alloc _
 have kK:Hid (w1.heap[w.heap.size]?=some (.cells #[gW R.rb 0] 75 (0,0))):=by rw[hw1];exact aT (aT (aC _ _))
 have lS:Hid (w1.heap[w.heap.size+1]?=some (.cells #[ak,ak] 42 (0,0))):=by rw[hw1];exact aT (qF _ _ _)
 have HB1:Hid (w1.heap[w.heap.size+1+1]?=some (.cells #[ak,ak] 42 (0,0))):=by show _=_;rw[hw1];have h:=aC ((w.alloc (.cells #[gW R.rb 0] 75)).alloc (.cells #[ak,ak] 42)) (.cells #[ak,ak] 42);simpa using h
 have HW1:=ai hw1;have H1:=ai (h.quiet dH.o);obtain⟨i0,hi0,hz0,hz1,hz2⟩:=info_parts Tryz.oN;have HI:=ai hi0;have HZ0:=ai hz0;have HZ1:=ai hz1;have HZ2:=ai hz2;have hbw:=aP HB1.o;clear hl h hno hr hw1 hi0 hz0 hz1 hz2;go_enter Tryz.func90,Tryz.ntmps90;go_upto_region 2 with fail
 rw[←HW1.o];obtain⟨b,hb⟩:=bF (w.heap.size+1+1);rw[←hb]at HB1 hbw⊢;have hrb:R.rb<b:=by omega
 have hwb:w.heap.size+1<b:=by omega
 have d_:Hid (∀X:World,Step (fun q=>q=R.rb∨q=b) w1 X→Step (·=R.rb) w X):=fun X hX=>(dH.o.mono fe).then hX Aw
 have bZ:Hid (∀X:World,Step (fun q=>q=R.rb∨q=b) w1 X→X.cell? ⟨w.heap.size,0,none⟩=some (.pointer (some ⟨R.rb,0,none⟩))):=fun X hX=>aj (hX.keep kK.o om) 0 _ rfl
 have sQ:Hid (∀X:World,Step (fun q=>q=R.rb∨q=b) w1 X→X.heap[w.heap.size+1]?=some (.cells #[ak,ak] 42 (0,0))):=fun X hX=>hX.keep lS.o om
 have hsz1:=dH.o.size;have Cf:Hid (N2 9 (fun va vb=>.cells #[va,vb] 42 (0,0)) R w1 b d w1 i [] [] (.slice none 0 0) (.slice none 0 0)):=⟨H1.o,HB1.o,World.ownsRow_nil _ _ _ _,World.ownsRow_nil _ _ _ _,nR,nR,nR,by simp,Step.refl _ _⟩;clear hb;have p0:=bZ.o w1 bg;go_wp2_with fail;cases hb:bG R.l i [60]with
 |false=>
  have HB:=ai hb;clear hb;refine(dU R HL.o ⟨#[60]⟩ _ i d Cf.o.rd dc HB.o).mono ?_;rintro e w2 ⟨rfl,hr2,h2⟩;have zO:=ai (Cf.o.read hrb om hr2 h2);have kU:=ai (HRR.o.trans (wZ HB.o))
  clear hr2 h2 p0;have q0:=aj zO.o.blk 0 _ rfl;have q1:=aj zO.o.blk 1 _ rfl;obtain⟨⟨d0,d1⟩,z0,z1⟩:=Nj (sQ.o w2 zO.o.st);go_wp2_with fail;refine bodyPost_ret (v:=.agg #[ak,ak]) (by simp[results,Tryz.results90,go_sem,d0,d1]) rfl ?_;have hs2:Step (·=w.heap.size+1) w2 ((w2.setCell ⟨w.heap.size+1,0,none⟩ (.slice none 0 0)).setCell ⟨w.heap.size+1,1,none⟩ (.slice none 0 0)):=((Step.refl (·=w.heap.size+1) _).setCell _ _ iV).setCell _ _ iV;exact aK.dN kU.o rfl ⟨_,_,rfl,fB.nil _ _,fB.nil _ _⟩ (zO.o.rd.step hs2 Aw) ((d_.o _ zO.o.st).then hs2 Aw)
 |true=>
  have HB:=ai hb;clear hb;refine(cZ R HL.o ⟨#[60]⟩ _ i d Cf.o.rd dc HB.o).mono ?_;rintro e w2 ⟨rfl,hr2,h2⟩;have zO:=ai (Cf.o.read hrb om hr2 h2);have kU:=ai (HRR.o.trans (if_pos HB.o))
  clear hr2 h2 p0;go_wp2_with fail;go_loopg [] f (fun gg wr=>gg≤f∧∃(i':Nat) (ls ts:List ByteArray) (vl vt:Value),r=mY gg R.l i' ls ts∧N2 9 (fun va vb=>.cells #[va,vb] 42 (0,0)) R w1 b d wr i' ls ts vl vt);case atStart=>exact⟨Nat.le_refl _,i+1,[],[],_,_,kU.o,zO.o⟩
  case round=>
   obtain⟨hgf,i',ls,ts,vl,vt,hrq,hst⟩:=hrel;obtain⟨gn,rfl⟩:∃gn,gk=gn+1:=by
    cases gk with
    |zero=>exact absurd hrq (by rw[mY];exact fH.o)
    |succ gn=>exact⟨gn,rfl⟩
   (have tX:Hid (r=(eU (ls.length+ts.length) 8 R.l i').bind fun _ i=>(if(tokA R.l i).kind=2∧ts.length=0 then(jl R.l i).bind fun x j=>.ok (ls++[x],ts) j else(bH R.l i).bind fun x j=>.ok (ls,ts++[x]) j).bind fun p j=>if bG R.l j [44]then mY gn R.l (j+1) p.1 p.2 else(aJ R.l j [62]).bind fun _ j=>.ok ⟨p.1,p.2⟩ j):=by show _=_;rw[hrq,mY]);obtain⟨oa,oc,rfl⟩:=b_ hst.oa;obtain⟨pa,pc,rfl⟩:=b_ hst.ob;have HST:=ai hst;have p0:=bZ.o wr hst.st;have q0:=aj hst.blk 0 _ rfl;have q1:=aj hst.blk 1 _ rfl;have hfew:=hst.few;(have R1:IntKind.i64.wrap ((ls.length:Int)+(ts.length:Int))=((ls.length+ts.length:Nat):Int):=by rw[show((ls.length:Int)+(ts.length:Int))=((ls.length+ts.length:Nat):Int) by omega];exact IntWalk.i64_in _ om);clear hrq hst;go_wp2_with fail;clear R1;refine(mr R wr (ls.length+ts.length) 8 i' d HST.o.rd).mono ?_;rintro e w3 hp;cases hn:eU (ls.length+ts.length) 8 R.l i' with
   |out=>exact(kX hn).elim
   |err c ln col=>rw[hn]at hp;obtain⟨rfl,s3⟩:=hp;exact⟨rfl,aK.aU c ln col (by rw[tX.o,hn];rfl) rfl (d_.o _ (HST.o.err s3))⟩
   |ok u j=>
    have hji:j=i'∧ls.length+ts.length<8:=by
     unfold eU at hn;split at hn
     ·cases hn
     ·cases hn;exact⟨rfl,by omega⟩
    obtain⟨rfl,FW⟩:=hji;have HN:=ai hn;rw[hn]at hp;obtain⟨⟨v,rfl,rfl⟩,hr3,s3⟩:=hp;have fP:=ai (HST.o.read hrb om hr3 s3);(have qf:Hid (r=(if(tokA R.l j).kind=2∧ts.length=0 then(jl R.l j).bind fun x j=>.ok (ls++[x],ts) j else(bH R.l j).bind fun x j=>.ok (ls,ts++[x]) j).bind fun p j=>if bG R.l j [44]then mY gn R.l (j+1) p.1 p.2 else(aJ R.l j [62]).bind fun _ j=>.ok ⟨p.1,p.2⟩ j):=by show _=_;rw[tX.o,HN.o];rfl);clear hn hr3 s3 p0 q0 q1;obtain⟨tk,htk⟩:=bF (tokA R.l j);(have UC:Hid (R.l[j]?=some tk):=by rw[htk];exact fP.o.rd.tok);have NE:=ai htk;obtain⟨cb,hcb⟩:=bF (tk.kind==2&&ts.length==0);have MB:=ai hcb;(have hfd0:∀(a0 a1 a2 a3 a4:Value) (w:World),(Instr.field 111 (.agg #[a0,a1,a2,a3,a4]) 0).run Tryz.prog w=.ok a0 w:=fun _ _ _ _ _ _=>by kernel_rfl);clear htk hcb;(go_upto_region 5 with fail);go_cut [28] (fun s28 wx=>s28=.bool cb∧jg w3 wx);case first=>
     have p0:=bZ.o w3 fP.o.st;go_wp2_with fail;refine(lF R _ j d tk fP.o.rd UC.o).mono ?_;rintro e w4 ⟨rfl,h4⟩;have hb4:=h4.keep fP.o.blk (fun h=>h);have q1:=aj hb4 1 _ rfl;have ji:=ai h4;clear p0 h4 hb4;by_cases hk:tk.kind=2
     ·(have e1:((tk.kind:Int)==2)=true:=by rw[kF tk.kind 2 2 rfl,hk];rfl);obtain⟨b0,hb0⟩:∃b0,((ts.length:Int)==0)=b0:=⟨_,rfl⟩;(have hcb:cb=b0:=by rw[MB.o,hk,←hb0,kF ts.length 0 0 rfl];rfl);have HC2:=ai hcb;clear hcb;go_wp2_with fail;go_meet;case rel=>exact⟨by rw[HC2.o],ji.o⟩
     ·(have e1:((tk.kind:Int)==2)=false:=by rw[kF tk.kind 2 2 rfl,beq_eq_false_iff_ne.2 hk]);(have hcb:cb=false:=by rw[MB.o,beq_eq_false_iff_ne.2 hk];rfl);have HC2:=ai hcb;clear hcb;go_wp2_with fail;go_meet;case rel=>exact⟨by rw[HC2.o],ji.o⟩
    case rest=>
     obtain⟨rfl,hs4⟩:=hcut;obtain⟨w6,rfl⟩:=bF wc;have oQ:=ai (fP.o.quiet hs4);clear hs4;(go_upto_if 28 with fail);go_cut [] (fun wx=>∃(jn:Nat) (la lb:List ByteArray) (va vb:Value),r=(if bG R.l jn [44]then mY gn R.l (jn+1) la lb else(aJ R.l jn [62]).bind fun _ j=>.ok ⟨la,lb⟩ j)∧N2 9 (fun va vb=>.cells #[va,vb] 42 (0,0)) R w1 b d wx jn la lb va vb);case first=>
      cases cb with
      |true=>
       (have hc:tk.kind=2∧ts.length=0:=by simpa using MB.o.symm);(have D6:Hid (r=((jl R.l j).bind fun x j=>.ok (ls++[x],ts) j).bind fun p j=>if bG R.l j [44]then mY gn R.l (j+1) p.1 p.2 else(aJ R.l j [62]).bind fun _ j=>.ok ⟨p.1,p.2⟩ j):=by show _=_;rw[qf.o,←NE.o,if_pos hc]);clear hc;have p0:=bZ.o w6 oQ.o.st;(go_upto_region 6 with fail);obtain⟨r1,hr1⟩:=bF (jl R.l j);have HR1:=ai hr1;(have pV:Hid (r1≠.out):=by rw[hr1];exact fun e=>zQ e);(have kU:Hid (r=(r1.bind fun x j=>.ok (ls++[x],ts) j).bind fun p j=>if bG R.l j [44]then mY gn R.l (j+1) p.1 p.2 else(aJ R.l j [62]).bind fun _ j=>.ok ⟨p.1,p.2⟩ j):=by show _=_;rw[D6.o,hr1]);have x_:Hid (XC R b w6 w1.heap.size (.slice oa ls.length oc) 1 3 4 5 7):=⟨by decide,by decide,hrb,hbw,oQ.o.st.size,fun q hq=>oQ.o.oa.lt q hq⟩;have Hr:Hid (∀X:World,Step (fun q=>q=R.rb∨q=b∨(Value.slice oa ls.length oc).ownBlock=some q) w6 X→X.cell? ⟨w.heap.size,0,none⟩=some (.pointer (some ⟨R.rb,0,none⟩))):=by
        show∀X,_;intro X hX;refine hX.cell (bZ.o w6 oQ.o.st) (fun e=> ?_);have e2:w.heap.size=R.rb∨w.heap.size=b∨(Value.slice oa ls.length oc).ownBlock=some w.heap.size:=e;rcases e2 with e2|e2|e2
        ·omega
        ·omega
        ·have:=(x_.o.own _ e2).1;omega
       obtain⟨Jx,hJx⟩:=bF (NJ R j d b w6 (fun v=>.cells #[v,.slice pa ts.length pc] 42 (0,0)) w1.heap.size 9 (.slice oa ls.length oc) ls.length (ls.map .string) r1 1 3 4 5 7 [some (.pointer (some ⟨b,0,none⟩)),some (.slice oa ls.length oc),some (.agg #[gW R.rb 0]),none,none,none,some (.pointer (some ⟨b,0,none⟩)),none]);have fQ:=ai hJx;(have KD:Hid (∀V,Jx (fun _=>false) V w6.drew):=by intro V;rw[hJx];exact NJ.zero (bg.drew) oQ.o.rd oQ.o.oa oQ.o.blk);have Zi:Hid (∀X:World,Step (fun q=>q=R.rb∨q=b∨(Value.slice oa ls.length oc).ownBlock=some q) w6 X→Step (fun q=>q=R.rb∨q=b) w1 X):=by
        show∀X,_;intro X hX;refine oQ.o.st.then hX (fun q hq e=> ?_);rcases e with e|e|e
        ·exact .inl e
        ·exact .inr e
        ·have:=(x_.o.own _ e).1;omega
       clear hr1 hJx p0;refine bD kr Jx 8 rfl kr kr kr kr ?h0 ?hs ?hdone;case h0=>exact KD.o _
       case hs=>
        refine⟨?_,?_,?_,?_,?_,?_,?_,?_,trivial⟩
        all_goals (intro L V X a ev ig hdf hL ay hJ;rw[fQ.o]at hJ)
        ·have o3:=ig 3 rfl;change a.tmps[3]?.getD undef=.pointer (some ⟨b,0,none⟩)at o3;go_simp;exact AY
        ·have e29:=(ev 0 29 rfl (ay 0 rfl)).trans (hJ.iD 0 _ rfl (ay 0 rfl));have hA:L 5=false:=by
          cases e:L 5 with
          |false=>rfl
          |true=>rw[hJ.ql e]at hL;cases hL
         have hb:=hJ.blk;rw[hJ.FV hA]at hb;have q0:X.cell? ⟨b,0,none⟩=some (.slice oa ls.length oc):=aj hb 0 _ rfl;go_simp;exact AY
        ·have o1:=ig 1 rfl;change a.tmps[1]?.getD undef=.pointer (some ⟨w.heap.size,0,none⟩)at o1;have p0:=Hr.o X hJ.st;go_simp;exact AY
        ·have e31:=(ev 2 31 rfl (ay 2 rfl)).trans (hJ.iD 2 _ rfl (ay 2 rfl));obtain⟨i9,y1,y2⟩:=hJ.rd;rw[hL]at y2;have y3:i9=j:=y2;subst y3;go_simp;refine(vM R HL.o X i9 d y1).mono ?_;intro e wq hp;rw[←HR1.o]at hp;cases hx:r1 with
         |out=>exact absurd hx pV.o
         |err cc ln col=>rw[hx]at hp;obtain⟨rfl,hs⟩:=hp;exact⟨hdf,aK.aU cc ln col (by rw[kU.o,hx];rfl) rfl (d_.o _ ((Zi.o X hJ.st).trans (hs.mono RG)))⟩
         |ok s9 k9=>have hx0:=hx;rw[hx]at hp;obtain⟨⟨v,rfl,rfl⟩,hr,hs⟩:=hp;exact⟨_,rfl,by rw[fQ.o];exact hJ.call x_.o hL rfl hs hr hx0⟩
        ·obtain⟨s9,k9,y1,y2⟩:=hJ.vc (ay 3 rfl);have e32:=(ev 3 32 rfl (ay 3 rfl)).trans y2;go_simp;exact⟨_,rfl,by rw[fQ.o];exact hJ.build x_.o hL (ay 3 rfl) rfl y2⟩
        ·have e30:=(ev 1 30 rfl (ay 1 rfl)).trans (hJ.iD 1 _ rfl (ay 1 rfl));have e33:=ev 4 33 rfl (ay 4 rfl);obtain⟨s9,k9,g9,y1,y2,y3,y4⟩:=hJ.vb (ay 4 rfl) hL;have hon:=hJ.own hL;have hwz:=Nat.le_trans x_.o.bw hJ.st.size;have hfw:=oQ.o.few;refine gq _ (g9+1) (.tmp 30) (.tmp 33) 40 rfl w1.heap.size 9 i0 (.string ⟨#[]⟩) 1 16 Tryz.underlying40 HI.o HZ0.o HZ1.o HZ2.o rfl dc (.slice oa ls.length oc) ls.length (ls.map .string) (by rw[bW];exact e30) hon (V 4) 1 [.string s9] (by rw[bW];exact e33) (by rw[y2];exact Row.new y4 dc) rfl (bn rfl) (by unfold maxLen;omega) om hwz ?_;intro v8 w8 sO oO zU;exact⟨v8,rfl,by rw[fQ.o];exact hJ.app x_.o hL (ay 4 rfl) (ay 1 rfl) rfl y1 sO oO zU⟩
        ·have o3:=ig 3 rfl;change a.tmps[3]?.getD undef=.pointer (some ⟨b,0,none⟩)at o3;go_simp;exact AY
        ·have e35:=(ev 6 35 rfl (ay 6 rfl)).trans (hJ.iD 6 _ rfl (ay 6 rfl));obtain⟨s9,k9,y1,y2,y3⟩:=hJ.va (ay 5 rfl);obtain⟨a9,c9,hV⟩:=b_ y2;have e34:=(ev 5 34 rfl (ay 5 rfl)).trans hV;have hb:=hJ.blk;rw[hL]at hb;have iC:∃v,X.cell? ⟨b,0,none⟩=some v:=⟨_,aj hb 0 _ rfl⟩;obtain⟨vc,ES⟩:=iC;have hfz:X.frozen? ⟨b,0,none⟩=false:=aG hb 0;go_simp;exact⟨undef,by rw[fQ.o];exact hJ.put x_.o (ay 5 rfl) (fun u hu=>by cases hu) (bg.setCell _ _ iV) (by rw[←hV];exact aQ hb 0 (V 5)) undef⟩
       case hdone=>intro L V X hall hJ;rw[fQ.o]at hJ;obtain⟨s9,k9,v9,h1,h2,h3,h4,h5,h6⟩:=hJ.done (hall 3 dc) (hall 5 dc) (hall 7 dc);(have Eu:jl R.l j=.ok s9 k9:=by rw[←HR1.o];exact h1);have hsz:=xQ HL.o oQ.o.rd.lt Eu;rw[Nk];simp only[lW,dZ,FB,Bj];(have D5:Hid (r=(if bG R.l k9 [44]then mY gn R.l (k9+1) (ls++[s9]) ts else(aJ R.l k9 [62]).bind fun _ j=>.ok ⟨(ls++[s9]),ts⟩ j)):=by show _=_;rw[D6.o,Eu];rfl);have kP:Hid (N2 9 (fun va vb=>.cells #[va,vb] 42 (0,0)) R w1 b d X k9 (ls++[s9]) ts v9 (.slice pa ts.length pc)):=oQ.o.LY hrb hbw h2 h3 h4 h5 h6 hsz FW;clear hJ hall h1 h2 h3 h4 h5 h6 Eu hsz;go_wp2_with fail;go_meet;case rel=>exact⟨k9,_,_,_,_,D5.o,kP.o⟩
      |false=>
       (have hc:¬(tk.kind=2∧ts.length=0):=by intro hc;have h9:=MB.o;rw[hc.1,hc.2]at h9;cases h9);(have D6:Hid (r=((bH R.l j).bind fun x j=>.ok (ls,ts++[x]) j).bind fun p j=>if bG R.l j [44]then mY gn R.l (j+1) p.1 p.2 else(aJ R.l j [62]).bind fun _ j=>.ok ⟨p.1,p.2⟩ j):=by show _=_;rw[qf.o,←NE.o,if_neg hc]);clear hc;have p0:=bZ.o w6 oQ.o.st;(go_upto_region 7 with fail);obtain⟨r1,hr1⟩:=bF (bH R.l j);have HR1:=ai hr1;(have pV:Hid (r1≠.out):=by rw[hr1];exact fun e=>iQ e);(have kU:Hid (r=(r1.bind fun x j=>.ok (ls,ts++[x]) j).bind fun p j=>if bG R.l j [44]then mY gn R.l (j+1) p.1 p.2 else(aJ R.l j [62]).bind fun _ j=>.ok ⟨p.1,p.2⟩ j):=by show _=_;rw[D6.o,hr1]);have x_:Hid (XC R b w6 w1.heap.size (.slice pa ts.length pc) 1 4 5 6 8):=⟨by decide,by decide,hrb,hbw,oQ.o.st.size,fun q hq=>oQ.o.ob.lt q hq⟩;have Hr:Hid (∀X:World,Step (fun q=>q=R.rb∨q=b∨(Value.slice pa ts.length pc).ownBlock=some q) w6 X→X.cell? ⟨w.heap.size,0,none⟩=some (.pointer (some ⟨R.rb,0,none⟩))):=by
        show∀X,_;intro X hX;refine hX.cell (bZ.o w6 oQ.o.st) (fun e=> ?_);have e2:w.heap.size=R.rb∨w.heap.size=b∨(Value.slice pa ts.length pc).ownBlock=some w.heap.size:=e;rcases e2 with e2|e2|e2
        ·omega
        ·omega
        ·have:=(x_.o.own _ e2).1;omega
       obtain⟨Jx,hJx⟩:=bF (NJ R j d b w6 (fun v=>.cells #[.slice oa ls.length oc,v] 42 (0,0)) w1.heap.size 9 (.slice pa ts.length pc) ts.length (ts.map .string) r1 1 4 5 6 8 [some (.pointer (some ⟨b,1,none⟩)),some (.slice pa ts.length pc),some (.pointer (some ⟨w.heap.size,0,none⟩)),some (.pointer (some ⟨R.rb,0,none⟩)),none,none,none,some (.pointer (some ⟨b,1,none⟩)),none]);have fQ:=ai hJx;(have KD:Hid (∀V,Jx (fun _=>false) V w6.drew):=by intro V;rw[hJx];exact NJ.zero (bg.drew) oQ.o.rd oQ.o.ob oQ.o.blk);have Zi:Hid (∀X:World,Step (fun q=>q=R.rb∨q=b∨(Value.slice pa ts.length pc).ownBlock=some q) w6 X→Step (fun q=>q=R.rb∨q=b) w1 X):=by
        show∀X,_;intro X hX;refine oQ.o.st.then hX (fun q hq e=> ?_);rcases e with e|e|e
        ·exact .inl e
        ·exact .inr e
        ·have:=(x_.o.own _ e).1;omega
       clear hr1 hJx p0;refine bD kr Jx 9 rfl kr kr kr kr ?h0 ?hs ?hdone;case h0=>exact KD.o _
       case hs=>
        refine⟨?_,?_,?_,?_,?_,?_,?_,?_,?_,trivial⟩
        all_goals (intro L V X a ev ig hdf hL ay hJ;rw[fQ.o]at hJ)
        ·have o3:=ig 3 rfl;change a.tmps[3]?.getD undef=.pointer (some ⟨b,0,none⟩)at o3;go_simp;exact AY
        ·have e36:=(ev 0 36 rfl (ay 0 rfl)).trans (hJ.iD 0 _ rfl (ay 0 rfl));have hA:L 6=false:=by
          cases e:L 6 with
          |false=>rfl
          |true=>rw[hJ.ql e]at hL;cases hL
         have hb:=hJ.blk;rw[hJ.FV hA]at hb;have q1:X.cell? ⟨b,1,none⟩=some (.slice pa ts.length pc):=aj hb 1 _ rfl;go_simp;exact AY
        ·have o1:=ig 1 rfl;change a.tmps[1]?.getD undef=.pointer (some ⟨w.heap.size,0,none⟩)at o1;go_simp;exact AY
        ·have e38:=(ev 2 38 rfl (ay 2 rfl)).trans (hJ.iD 2 _ rfl (ay 2 rfl));have p0:=Hr.o X hJ.st;go_simp;exact AY
        ·have e39:=(ev 3 39 rfl (ay 3 rfl)).trans (hJ.iD 3 _ rfl (ay 3 rfl));obtain⟨i9,y1,y2⟩:=hJ.rd;rw[hL]at y2;have y3:i9=j:=y2;subst y3;go_simp;refine(name_any R HL.o X i9 d y1).mono ?_;intro e wq hp;rw[←HR1.o]at hp;cases hx:r1 with
         |out=>exact absurd hx pV.o
         |err cc ln col=>rw[hx]at hp;obtain⟨rfl,hs⟩:=hp;exact⟨hdf,aK.aU cc ln col (by rw[kU.o,hx];rfl) rfl (d_.o _ ((Zi.o X hJ.st).trans (hs.mono RG)))⟩
         |ok s9 k9=>have hx0:=hx;rw[hx]at hp;obtain⟨⟨v,rfl,rfl⟩,hr,hs⟩:=hp;exact⟨_,rfl,by rw[fQ.o];exact hJ.call x_.o hL rfl hs hr hx0⟩
        ·obtain⟨s9,k9,y1,y2⟩:=hJ.vc (ay 4 rfl);have e40:=(ev 4 40 rfl (ay 4 rfl)).trans y2;go_simp;exact⟨_,rfl,by rw[fQ.o];exact hJ.build x_.o hL (ay 4 rfl) rfl y2⟩
        ·have e37:=(ev 1 37 rfl (ay 1 rfl)).trans (hJ.iD 1 _ rfl (ay 1 rfl));have e41:=ev 5 41 rfl (ay 5 rfl);obtain⟨s9,k9,g9,y1,y2,y3,y4⟩:=hJ.vb (ay 5 rfl) hL;have hon:=hJ.own hL;have hwz:=Nat.le_trans x_.o.bw hJ.st.size;have hfw:=oQ.o.few;refine gq _ (g9+1) (.tmp 37) (.tmp 41) 40 rfl w1.heap.size 9 i0 (.string ⟨#[]⟩) 1 16 Tryz.underlying40 HI.o HZ0.o HZ1.o HZ2.o rfl dc (.slice pa ts.length pc) ts.length (ts.map .string) (by rw[bW];exact e37) hon (V 5) 1 [.string s9] (by rw[bW];exact e41) (by rw[y2];exact Row.new y4 dc) rfl (bn rfl) (by unfold maxLen;omega) om hwz ?_;intro v8 w8 sO oO zU;exact⟨v8,rfl,by rw[fQ.o];exact hJ.app x_.o hL (ay 5 rfl) (ay 1 rfl) rfl y1 sO oO zU⟩
        ·have o3:=ig 3 rfl;change a.tmps[3]?.getD undef=.pointer (some ⟨b,0,none⟩)at o3;go_simp;exact AY
        ·have e43:=(ev 7 43 rfl (ay 7 rfl)).trans (hJ.iD 7 _ rfl (ay 7 rfl));obtain⟨s9,k9,y1,y2,y3⟩:=hJ.va (ay 6 rfl);obtain⟨a9,c9,hV⟩:=b_ y2;have e42:=(ev 6 42 rfl (ay 6 rfl)).trans hV;have hb:=hJ.blk;rw[hL]at hb;have iC:∃v,X.cell? ⟨b,1,none⟩=some v:=⟨_,aj hb 1 _ rfl⟩;obtain⟨vc,ES⟩:=iC;have hfz:X.frozen? ⟨b,1,none⟩=false:=aG hb 1;go_simp;exact⟨undef,by rw[fQ.o];exact hJ.put x_.o (ay 6 rfl) (fun u hu=>by cases hu) (bg.setCell _ _ iV) (by rw[←hV];exact aQ hb 1 (V 6)) undef⟩
       case hdone=>intro L V X hall hJ;rw[fQ.o]at hJ;obtain⟨s9,k9,v9,h1,h2,h3,h4,h5,h6⟩:=hJ.done (hall 4 dc) (hall 6 dc) (hall 8 dc);(have Eu:bH R.l j=.ok s9 k9:=by rw[←HR1.o];exact h1);have hsz:=fF HL.o oQ.o.rd.lt Eu;rw[PK];simp only[lW,dZ,FB,Bj];(have D5:Hid (r=(if bG R.l k9 [44]then mY gn R.l (k9+1) ls (ts++[s9])else(aJ R.l k9 [62]).bind fun _ j=>.ok ⟨ls,(ts++[s9])⟩ j)):=by show _=_;rw[D6.o,Eu];rfl);have kP:Hid (N2 9 (fun va vb=>.cells #[va,vb] 42 (0,0)) R w1 b d X k9 ls (ts++[s9]) (.slice oa ls.length oc) v9):=oQ.o.pushB hrb hbw h2 h3 h4 h5 h6 hsz FW;clear hJ hall h1 h2 h3 h4 h5 h6 Eu hsz;go_wp2_with fail;go_meet;case rel=>exact⟨k9,_,_,_,_,D5.o,kP.o⟩
     case rest=>
      obtain⟨jn,la,lb,va,vb,hrn,hls⟩:=hcut;obtain⟨w9,rfl⟩:=bF wc;obtain⟨a1,c1,rfl⟩:=b_ hls.oa;obtain⟨a2,c2,rfl⟩:=b_ hls.ob;have iM:=ai hls;have pV:=ai hrn;clear hls hrn;have p0:=bZ.o w9 iM.o.st;go_wp2_with fail;cases hc:bG R.l jn [44]with
      |true=>
       have HC:=ai hc;clear hc;refine(cZ R HL.o ⟨#[44]⟩ _ jn d iM.o.rd dc HC.o).mono ?_;rintro e wa ⟨rfl,hra,sa⟩;have jk:=ai (iM.o.read hrb om hra sa);(have Ov:Hid (r=mY gn R.l (jn+1) la lb):=by show _=_;rw[pV.o,HC.o,if_pos rfl]);clear hra sa p0;go_wp2_with fail;go_roundg gn;case rel=>exact⟨by omega,jn+1,la,lb,_,_,Ov.o,jk.o⟩
       case measure=>omega
      |false=>
       have HC:=ai hc;clear hc;refine(dU R HL.o ⟨#[44]⟩ _ jn d iM.o.rd dc HC.o).mono ?_;rintro e wa ⟨rfl,hra,sa⟩;have jk:=ai (iM.o.read hrb om hra sa);(have Ov:Hid (r=(aJ R.l jn [62]).bind fun _ j=>.ok ⟨la,lb⟩ j):=by show _=_;rw[pV.o,HC.o,if_neg dc]);clear hra sa p0;have p0:=bZ.o wa jk.o.st;go_wp2_with fail;refine(dL R HL.o wa.heap.size ⟨#[62]⟩ _ jn d (jk.o.rd.quiet (bg.alloc _)) dc (aj (aC _ _) 0 _ rfl)).mono ?_;rintro e wb hp;have hp2:aK R d iJ (aJ R.l jn [62]) _ e wb:=hp;cases hn:aJ R.l jn [62]with
       |out=>exact(dJ hn).elim
       |err c ln col=>rw[hn]at hp2;obtain⟨rfl,sb⟩:=hp2;exact⟨rfl,aK.aU c ln col (by rw[Ov.o,hn];rfl) rfl (d_.o _ (jk.o.err (((Step.refl (·=R.rb) _).alloc _).trans sb)))⟩
       |ok u2 jz=>have IK:=ai hn;rw[hn]at hp2;obtain⟨⟨v,rfl,rfl⟩,uD,sb⟩:=hp2;have rZ:=ai (jk.o.read hrb om uD (((Step.refl (·=R.rb) _).alloc _).trans sb));(have J9:Hid (r=.ok ⟨la,lb⟩ jz):=by show _=_;rw[Ov.o,IK.o];rfl);clear hn uD sb p0 hp;have q0:=aj rZ.o.blk 0 _ rfl;have q1:=aj rZ.o.blk 1 _ rfl;obtain⟨⟨d0,d1⟩,z0,z1⟩:=Nj (sQ.o wb rZ.o.st);have Vg:=ai rZ.o.names;go_wp2_with fail;refine bodyPost_ret (v:=.agg #[.slice a1 la.length c1,.slice a2 lb.length c2]) (by simp[results,Tryz.results90,go_sem,d0,d1]) rfl ?_;have hs2:Step (·=w.heap.size+1) wb ((wb.setCell ⟨w.heap.size+1,0,none⟩ (.slice a1 la.length c1)).setCell ⟨w.heap.size+1,1,none⟩ (.slice a2 lb.length c2)):=((Step.refl (·=w.heap.size+1) _).setCell _ _ iV).setCell _ _ iV;exact aK.dN J9.o rfl ⟨_,_,rfl,dY.mono _ _ Aw (dY.step _ _ hs2 Aw Vg.o.1),dY.mono _ _ Aw (dY.step _ _ hs2 Aw Vg.o.2)⟩ (rZ.o.rd.step hs2 Aw) ((d_.o _ rZ.o.st).then hs2 Aw)
theorem RV (R:gI) (hl:oJ R.l) (w:World) (i d:Nat) (h:bC R w i d):Calls Tryz.prog 79 #[.agg #[gW R.rb 0]] w (aK R d Ef (.ok (rV R.l i) (pG R.l i)) w):=
 (FQ R hl w i d h).mono fun _ _ hp=>⟨⟨_,hp.1,rfl⟩,hp.2⟩
theorem EY {R:gI} (hl:oJ R.l) {i:Nat} (hi:i<R.l.length):(rV R.l i).size≤9223372036854775807:=by
 unfold rV;split
 ·exact yN (hl.text _ (List.mem_of_getElem? (sH hi)))
 ·decide
structure AJ (R:gI) (i0 d:Nat) (w1:World) (zc:Array Value) (nc:ByteArray→Array Value) (T:Nat) (r1:dI ByteArray) (ic ib il iz:Nat) (vals:List (Option Value)) (L:Nat→Bool) (V:Nat→Value) (X:World):Prop where
 iD:∀(i:Nat) v,vals[i]?=some (some v)→L i=true→V i=v
 vc:L ic=true→∃s k,r1=.ok s k∧V ic=.string s
 vb:L ib=true→∃s k,r1=.ok s k∧V ib=.agg (nc s)
 vl:L il=true→∃b,V il=.pointer (some ⟨b,0,none⟩)∧w1.heap.size≤b∧(L iz=false→X.heap[b]?=some (.cells zc T (0,0)))∧(L iz=true→∃s k,r1=.ok s k∧X.heap[b]?=some (.cells (nc s) T (0,0)))
 rd:∃i,bC R X i d∧cond (L ic) (∃s,r1=.ok s i) (i=i0)
 st:Step (·=R.rb) w1 X
 qb:L ib=true→L ic=true
 qz:L iz=true→L ib=true∧L il=true
 qc:L ic=true→L 2=true
theorem zi {L:Nat→Bool} (i:Nat) {k:Nat} (h:L k=true):dP L i k=true:=by
 by_cases e:k=i
 ·rw[e];exact jK _ _
 ·rw[aA _ e];exact h
section
variable {R : gI} {i0 d : Nat} {w1 : World} {zc : Array Value} {nc : ByteArray → Array Value} {T : Nat} {r1 : dI ByteArray} {ic ib il iz : Nat} {vals : List (Option Value)} {L : Nat → Bool} {V : Nat → Value} {X X' : World}
theorem AJ.zero (hs:jg w1 X) (hr:bC R w1 i0 d):AJ R i0 d w1 zc nc T r1 ic ib il iz vals (fun _=>false) V X:=
 ⟨fun _ _ _ h=>(nomatch h),lg,lg,lg,⟨i0,hr.quiet hs,rfl⟩,hs.mono fe,lg,lg,lg⟩
theorem AJ.up (h:AJ R i0 d w1 zc nc T r1 ic ib il iz vals L V X) (i:Nat) {v:Value} (hv:vals[i]?=some (some v)) (h1:i≠ic) (h2:i≠ib) (h3:i≠il) (h4:i≠iz):AJ R i0 d w1 zc nc T r1 ic ib il iz vals (dP L i) (gY V i v) X:=by
 refine⟨jb h.iD i v (fun u hu=>by rw[hv]at hu;cases hu;rfl),?_,?_,?_,?_,h.st,?_,?_,fun e=>zi i (h.qc (by rw[aA _ (Ne.symm h1)]at e;exact e))⟩
 ·rw[aA _ (Ne.symm h1),bV _ _ (Ne.symm h1)];exact h.vc
 ·rw[aA _ (Ne.symm h2),bV _ _ (Ne.symm h2)];exact h.vb
 ·rw[aA _ (Ne.symm h3),bV _ _ (Ne.symm h3),aA _ (Ne.symm h4)];exact h.vl
 ·rw[aA _ (Ne.symm h1)];exact h.rd
 ·rw[aA _ (Ne.symm h2),aA _ (Ne.symm h1)];exact h.qb
 ·rw[aA _ (Ne.symm h4),aA _ (Ne.symm h2),aA _ (Ne.symm h3)];exact h.qz
theorem AJ.move (h:AJ R i0 d w1 zc nc T r1 ic ib il iz vals L V X) (hs:jg X X'):AJ R i0 d w1 zc nc T r1 ic ib il iz vals L V X':=by
 refine⟨h.iD,h.vc,h.vb,?_,?_,h.st.trans (hs.mono fe),h.qb,h.qz,h.qc⟩
 ·intro e;obtain⟨b,h1,h2,h3,h4⟩:=h.vl e;refine⟨b,h1,h2,fun e2=>hs.keep (h3 e2) (fun h=>h),fun e2=> ?_⟩;obtain⟨s,k,h5,h6⟩:=h4 e2;exact⟨s,k,h5,hs.keep h6 (fun h=>h)⟩
 ·obtain⟨i,h1,h2⟩:=h.rd;exact⟨i,h1.quiet hs,h2⟩
theorem AJ.FV (h:AJ R i0 d w1 zc nc T r1 ic ib il iz vals L V X) (hL:L ic=false):L iz=false:=by
 cases e:L iz with
 |false=>rfl
 |true=>rw[h.qb (h.qz e).1]at hL;cases hL
theorem AJ.call (hne:ic≠ib∧ic≠il∧ic≠iz) (hw:R.rb<w1.heap.size) (h:AJ R i0 d w1 zc nc T r1 ic ib il iz vals L V X) (hL:L ic=false) (h2:L 2=true) (kH:vals[ic]?=some none) (hs:Step (·=R.rb) X X') {k:Nat} (hr:bC R X' k d) {s:ByteArray} (hx:r1=.ok s k):AJ R i0 d w1 zc nc T r1 ic ib il iz vals (dP L ic) (gY V ic (.string s)) X':=by
 have hZ:=h.FV hL;obtain⟨n1,n2,n3⟩:=hne;refine⟨jb h.iD ic _ (fun u hu=>by rw[kH]at hu;cases hu),fun _=>⟨s,k,hx,lI _ _ _⟩,?_,?_,⟨k,hr,by rw[jK];exact⟨s,hx⟩⟩,h.st.trans hs,fun _=>jK _ _,?_,fun _=>zi ic h2⟩
 ·rw[aA _ (Ne.symm n1),bV _ _ (Ne.symm n1)];exact h.vb
 ·rw[aA _ (Ne.symm n2),bV _ _ (Ne.symm n2),aA _ (Ne.symm n3)];intro e;obtain⟨b,h1,h2,h3,h4⟩:=h.vl e;exact⟨b,h1,h2,fun e2=>hs.keep (h3 e2) om,fun e2=>by rw[hZ]at e2;cases e2⟩
 ·rw[aA _ (Ne.symm n3),hZ];intro e;cases e
theorem AJ.build (hne:ic≠ib∧ib≠il∧ib≠iz) (h:AJ R i0 d w1 zc nc T r1 ic ib il iz vals L V X) (hC:L ic=true) (hL:L ib=false) (kH:vals[ib]?=some none) {s:ByteArray} (hs:V ic=.string s):AJ R i0 d w1 zc nc T r1 ic ib il iz vals (dP L ib) (gY V ib (.agg (nc s))) X:=by
 obtain⟨n1,n2,n3⟩:=hne;refine⟨jb h.iD ib _ (fun u hu=>by rw[kH]at hu;cases hu),?_,?_,?_,?_,h.st,?_,?_,fun _=>zi ib (h.qc hC)⟩
 ·rw[aA _ n1,bV _ _ n1];exact h.vc
 ·intro _;obtain⟨s',k,h1,h2⟩:=h.vc hC;rw[hs]at h2;cases h2;exact⟨s,k,h1,lI _ _ _⟩
 ·rw[aA _ (Ne.symm n2),bV _ _ (Ne.symm n2),aA _ (Ne.symm n3)];exact h.vl
 ·rw[aA _ n1];exact h.rd
 ·intro _;rw[aA _ n1];exact hC
 ·rw[aA _ (Ne.symm n3)];intro e;obtain⟨h1,h2⟩:=h.qz e;rw[hL]at h1;cases h1
theorem AJ.alloc (hne:ic≠il∧ib≠il∧il≠iz) (h:AJ R i0 d w1 zc nc T r1 ic ib il iz vals L V X) (hL:L il=false) (kH:vals[il]?=some none):AJ R i0 d w1 zc nc T r1 ic ib il iz vals (dP L il) (gY V il (.pointer (some ⟨X.heap.size,0,none⟩))) (X.alloc (.cells zc T)):=by
 obtain⟨n1,n2,n3⟩:=hne;have hZ:L iz=false:=by
  cases e:L iz with
  |false=>rfl
  |true=>rw[(h.qz e).2]at hL;cases hL
 have hs:jg X (X.alloc (.cells zc T)):=bg.alloc _;refine⟨jb h.iD il _ (fun u hu=>by rw[kH]at hu;cases hu),?_,?_,?_,?_,h.st.alloc _,?_,?_,fun e=>zi il (h.qc (by rw[aA _ n1]at e;exact e))⟩
 ·rw[aA _ n1,bV _ _ n1];exact h.vc
 ·rw[aA _ n2,bV _ _ n2];exact h.vb
 ·intro _;refine⟨X.heap.size,lI _ _ _,h.st.size,fun _=>aC _ _,fun e=> ?_⟩;rw[aA _ (Ne.symm n3),hZ]at e;cases e
 ·rw[aA _ n1];obtain⟨i,h1,h2⟩:=h.rd;exact⟨i,h1.quiet hs,h2⟩
 ·rw[aA _ n2,aA _ n1];exact h.qb
 ·rw[aA _ (Ne.symm n3),hZ];intro e;cases e
theorem AJ.put (hne:ic≠iz∧ib≠iz∧il≠iz) (hw:R.rb<w1.heap.size) (h:AJ R i0 d w1 zc nc T r1 ic ib il iz vals L V X) (hB:L ib=true) (hA:L il=true) (kH:∀u,vals[iz]?=some (some u)→False) {s:ByteArray} {k:Nat} (hx:r1=.ok s k) {b:Nat} (hp:V il=.pointer (some ⟨b,0,none⟩)) (hs:Step (·=b) X X') (hb:X'.heap[b]?=some (.cells (nc s) T (0,0))) (v:Value):AJ R i0 d w1 zc nc T r1 ic ib il iz vals (dP L iz) (gY V iz v) X':=by
 obtain⟨n1,n2,n3⟩:=hne;obtain⟨b',h1,h2,-,-⟩:=h.vl hA;rw[hp]at h1;cases h1;refine⟨jb h.iD iz _ (fun u hu=>(kH u hu).elim),?_,?_,?_,?_,h.st.then hs Aw,?_,?_,fun e=>zi iz (h.qc (by rw[aA _ n1]at e;exact e))⟩
 ·rw[aA _ n1,bV _ _ n1];exact h.vc
 ·rw[aA _ n2,bV _ _ n2];exact h.vb
 ·intro _;rw[bV _ _ n3];exact⟨b,hp,h2,fun e=>(by rw[jK]at e;cases e),fun _=>⟨s,k,hx,hb⟩⟩
 ·rw[aA _ n1];obtain⟨i,h3,h4⟩:=h.rd;exact⟨i,h3.step hs Aw,h4⟩
 ·rw[aA _ n2,aA _ n1];exact h.qb
 ·intro _;rw[aA _ n2,aA _ n3];exact⟨hB,hA⟩
theorem AJ.done (h:AJ R i0 d w1 zc nc T r1 ic ib il iz vals L V X) (hC:L ic=true) (hA:L il=true) (hZ:L iz=true):∃s k b,r1=.ok s k∧V il=.pointer (some ⟨b,0,none⟩)∧bC R X k d∧w1.heap.size≤b∧X.heap[b]?=some (.cells (nc s) T (0,0))∧Step (·=R.rb) w1 X:=by obtain⟨b,h1,h2,-,h3⟩:=h.vl hA;obtain⟨s,k,h4,h5⟩:=h3 hZ;obtain⟨i,h6,h7⟩:=h.rd;rw[hC]at h7;obtain⟨s',h8⟩:∃s,r1=.ok s i:=h7;rw[h4]at h8;cases h8;exact⟨s,k,b,h4,h1,h6,h2,h5,h.st⟩
end
theorem Tryz.wP:(Tryz.prog.info? 124).map (·.size)=some 5:=by kernel_rfl
def BdV (n0:Nat) (w':World) (a:Bd) (v:Value):Prop:=ElQ EX w' (fun k=>n0≤k) a v
theorem Ox (f:Nat) (R:gI) (w:World) (i d:Nat) (hl:oJ R.l) (h:bC R w i d) (hno:pX f R.l i≠.out):Calls Tryz.prog 125 #[.agg #[gW R.rb 0]] w (aK R d (BdV w.heap.size) (pX f R.l i) w):=by
 have HL:=ai hl;obtain⟨r,hr⟩:=bF (pX f R.l i);obtain⟨tk,htk⟩:=bF (tokA R.l i);have HRR:Hid (r=(if(rV R.l i).size=0 then(bH R.l (pG R.l i)).bind fun n j=>.ok (n,true) j else .ok (rV R.l i,false) (pG R.l i)).bind fun p j=>(aJ R.l j [58]).bind fun _ j=>(gQ f R.l j p.2 [] []).bind fun q j=>.ok ⟨p.1,q.1,q.2,tk.line,tk.col⟩ j):=by show _=_;rw[hr,pX,←htk]
 rw[←hr]at hno⊢;have fH:=ai hno;have uq:=aP h.blk;obtain⟨w1,hw1⟩:=bF ((w.alloc (.cells #[gW R.rb 0] 75)).alloc (.cells #[dG,ak,ak,ah 0,ah 0] 124));have dH:=nT hw1
 have kK:=nC hw1
 have lS:=nD hw1
 have HW1:=ai hw1;have H1:=ai (h.quiet dH.o);have HT:=ai (show R.l[i]?=some tk by rw[htk];exact h.tok);have HOZ:=ai (EY hl h.lt);obtain⟨i0,hi0,hz0,hz1,hz2⟩:=info_parts Tryz.oN;have HI:=ai hi0;have HZ0:=ai hz0;have HZ1:=ai hz1;have HZ2:=ai hz2;have hn1:=aP lS.o;have Vh:Hid (∀X:World,Step (·=R.rb) w1 X→X.cell? ⟨w.heap.size,0,none⟩=some (.pointer (some ⟨R.rb,0,none⟩))):=fun X hX=>aj (hX.keep kK.o om) 0 _ rfl
 clear hl h hno hr hw1 hi0 hz0 hz1 hz2 htk;go_enter Tryz.func125,Tryz.ntmps125;go_upto_region 1 with fail
 rw[←HW1.o];obtain⟨Jx,hJx⟩:=bF (AJ R i d w1 #[.string ⟨#[]⟩,.slice none 0 0,.slice none 0 0,.int .i64 0,.int .i64 0] (fun s=> #[.string s,.slice none 0 0,.slice none 0 0,.int .i64 tk.line,.int .i64 tk.col]) 124 (.ok (rV R.l i) (pG R.l i)) 4 5 6 7 [some (.pointer (some ⟨w.heap.size,0,none⟩)),some (.pointer (some ⟨R.rb,0,none⟩)),some (.agg #[ah tk.line,ah tk.col]),some (.agg #[gW R.rb 0]),none,none,none,none]);have fQ:=ai hJx;clear hJx;go_cut [3] (fun s3 wx=>∃b:Nat,s3=.pointer (some ⟨b,0,none⟩)∧bC R wx (pG R.l i) d∧w1.heap.size≤b∧wx.heap[b]?=some (.cells #[aI (rV R.l i),ak,ak,ah tk.line,ah tk.col] 124 (0,0))∧Step (·=R.rb) w1 wx);case first=>
  refine bD kr Jx 8 rfl kr kr kr kr ?h0 ?hs ?hdone;case h0=>rw[fQ.o];exact AJ.zero (bg.drew) H1.o
  case hs=>
   refine⟨?_,?_,?_,?_,?_,?_,?_,?_,trivial⟩
   all_goals (intro L V X a ev ig hdf hL ay hJ;rw[fQ.o]at hJ)
   ·have o1:=ig 1 rfl;change a.tmps[1]?.getD undef=.pointer (some ⟨w.heap.size,0,none⟩)at o1;go_simp;exact AY
   ·have e5:=(ev 0 5 rfl (ay 0 rfl)).trans (hJ.iD 0 _ rfl (ay 0 rfl));have p0:=Vh.o X hJ.st;go_simp;exact AY
   ·have e6:=(ev 1 6 rfl (ay 1 rfl)).trans (hJ.iD 1 _ rfl (ay 1 rfl));have h4:L 4=false:=by
     cases e:L 4 with
     |false=>rfl
     |true=>exact absurd (hJ.qc e) (by rw[hL];decide)
    obtain⟨i9,y1,y2⟩:=hJ.rd;rw[h4]at y2;have y3:i9=i:=y2;subst y3;go_simp;refine(at_at R X i9 d tk y1 HT.o).mono ?_;rintro e wq ⟨rfl,hs⟩;exact⟨_,rfl,by rw[fQ.o];exact(hJ.move hs).up 2 rfl dc dc dc dc⟩
   ·have o1:=ig 1 rfl;change a.tmps[1]?.getD undef=.pointer (some ⟨w.heap.size,0,none⟩)at o1;have p0:=Vh.o X hJ.st;go_simp;exact AY
   ·have e8:=(ev 3 8 rfl (ay 3 rfl)).trans (hJ.iD 3 _ rfl (ay 3 rfl));obtain⟨i9,y1,y2⟩:=hJ.rd;rw[hL]at y2;have y3:i9=i:=y2;subst y3;go_simp;refine(RV R HL.o X i9 d y1).mono ?_;rintro e wq ⟨⟨v,rfl,rfl⟩,hr,hs⟩;exact⟨_,rfl,by rw[fQ.o];exact hJ.call dc om hL (ay 2 rfl) rfl hs hr rfl⟩
   ·have e7:=(ev 2 7 rfl (ay 2 rfl)).trans (hJ.iD 2 _ rfl (ay 2 rfl));obtain⟨s9,k9,y1,y2⟩:=hJ.vc (ay 4 rfl);have e9:=(ev 4 9 rfl (ay 4 rfl)).trans y2;go_simp;exact⟨_,rfl,by rw[fQ.o];exact hJ.build dc (ay 4 rfl) hL rfl y2⟩
   ·go_simp;exact⟨_,rfl,by rw[fQ.o];exact hJ.alloc dc hL rfl⟩
   ·obtain⟨b9,y1,y2,y3,-⟩:=hJ.vl (ay 6 rfl);obtain⟨s9,k9,y4,y5⟩:=hJ.vb (ay 5 rfl);have e3:=(ev 6 3 rfl (ay 6 rfl)).trans y1;have e10:=(ev 5 10 rfl (ay 5 rfl)).trans y5;refine fC 124 (.tmp 3) (.tmp 10) rfl b9 0 124 _ [.string s9,.slice none 0 0,.slice none 0 0,.int .i64 tk.line,.int .i64 tk.col] (by rw[bW];exact e3) (by rw[bW];exact e10) (y3 hL) Tryz.wP (Nat.le_of_eq rfl) (bn rfl) ?_;intro w9 iW hs9;exact⟨undef,rfl,by rw[fQ.o];exact hJ.put dc om (ay 5 rfl) (ay 6 rfl) (fun u hu=>by cases hu) y4 y1 hs9 iW undef⟩
  case hdone=>intro L V X hall hJ;rw[fQ.o]at hJ;obtain⟨s9,k9,b9,h1,h2,h3,h4,h5,h6⟩:=hJ.done (hall 4 dc) (hall 6 dc) (hall 7 dc);cases h1;have HD3:=ai h3;have HD5:=ai h5;have HD6:=ai h6;rw[Nk];simp only[lW,dZ,List.getElem?_toArray,List.getElem?_cons_zero,List.getElem?_cons_succ,Option.bind_some,Act.put,List.setIfInBounds_toArray,List.set_cons_zero,List.set_cons_succ,h2];clear hJ hall h2 h3 h5 h6;go_wp2_with fail;go_meet;case rel=>exact⟨b9,rfl,HD3.o,h4,HD5.o,HD6.o⟩
 case rest=>
  obtain⟨b,rfl,hr1,hb1,hblk,hs1⟩:=hcut;obtain⟨v0,rfl⟩:=bF wc;have HR1:=ai hr1;have HB1:=ai hblk;have Zj:=ai hs1;have hbv:=aP hblk;have hsz1:=dH.o.size;have hrb:R.rb<b:=by omega
  clear hr1 hblk hs1;obtain⟨on,hon⟩:=bF (rV R.l i);obtain⟨oi,hoi⟩:=bF (pG R.l i);rw[←hon]at HB1 HRR HOZ;rw[←hoi]at HR1 HRR;obtain⟨pl,hpl⟩:=bF (on.size==0);have HPL:=ai hpl;clear hon hoi hpl;go_upto_region 2 with fail
  go_cut [4] (fun s4 wx=>s4=.bool pl∧v0=wx);case first=>
   have q0:=aj HB1.o 0 _ rfl;by_cases hz:on.size=0
   ·(have hpl:pl=true:=by rw[HPL.o,hz];rfl);(have hon:on=⟨#[]⟩:=by obtain⟨a⟩:=on;have h2:a.size=0:=hz;rw[Array.eq_empty_of_size_eq_zero h2]);rw[hon]at q0;go_wp2_with fail;go_meet;case rel=>exact⟨by rw[hpl],rfl⟩
   ·(have hpl:pl=false:=by rw[HPL.o];simpa using hz);have he:=jR on om;have he':=jF on om;go_wp2_with fail;go_meet;case rel=>exact⟨by rw[hpl],rfl⟩
  case rest=>
   obtain⟨rfl,hwx⟩:=hcut;subst hwx;(go_upto_if 14 with fail);go_cut [] (fun wx=>∃(nm:ByteArray) (jn:Nat),r=((aJ R.l jn [58]).bind fun _ j=>(gQ f R.l j pl [] []).bind fun q j=>.ok ⟨nm,q.1,q.2,tk.line,tk.col⟩ j)∧nm.size≤9223372036854775807∧bC R wx jn d∧wx.heap[b]?=some (.cells #[aI nm,ak,ak,ah tk.line,ah tk.col] 124 (0,0))∧Step (fun q=>q=R.rb∨q=b) v0 wx);case first=>
    cases pl with
    |false=>(have hz:¬on.size=0:=by simpa using HPL.o.symm);(have kY:Hid (r=((aJ R.l oi [58]).bind fun _ j=>(gQ f R.l j false [] []).bind fun q j=>.ok ⟨on,q.1,q.2,tk.line,tk.col⟩ j)):=by show _=_;rw[HRR.o,if_neg hz];rfl);go_wp2_with fail;go_meet;case rel=>exact⟨on,oi,kY.o,HOZ.o,HR1.o,HB1.o,Step.refl _ _⟩
    |true=>
     (have hz:on.size=0:=by simpa using HPL.o.symm);(have kY:Hid (r=((bH R.l oi).bind fun n j=>.ok (n,true) j).bind fun p j=>(aJ R.l j [58]).bind fun _ j=>(gQ f R.l j p.2 [] []).bind fun q j=>.ok ⟨p.1,q.1,q.2,tk.line,tk.col⟩ j):=by show _=_;rw[HRR.o,if_pos hz]);have p0:=Vh.o v0 Zj.o;go_wp2_with fail;refine(name_any R HL.o _ oi d HR1.o).mono ?_;rintro e w7 hp;have hp2:aK R d Ef (bH R.l oi) _ e w7:=hp;cases hn:bH R.l oi with
     |out=>exact(iQ hn).elim
     |err c ln col=>rw[hn]at hp2;obtain⟨rfl,hs⟩:=hp2;exact⟨rfl,aK.aU c ln col (by rw[kY.o,hn];rfl) rfl (((dH.o.mono fe).trans Zj.o).trans hs)⟩
     |ok nm j=>have HN:=ai hn;have QA:=ai (fF HL.o HR1.o.lt hn);rw[hn]at hp2;obtain⟨⟨v,rfl,rfl⟩,hr,hs⟩:=hp2;have HR7:=ai hr;have Kr:=ai hs;have FT:=ai (hs.keep HB1.o om);(have jV:Hid (r=((aJ R.l j [58]).bind fun _ j=>(gQ f R.l j true [] []).bind fun q j=>.ok ⟨nm,q.1,q.2,tk.line,tk.col⟩ j)):=by show _=_;rw[kY.o,HN.o];rfl);clear hn hr hs hp p0;have m_:=aj FT.o 0 _ rfl;have ng:=aG FT.o 0;have Pj:Hid (Step (·=b) w7 (w7.setCell ⟨b,0,none⟩ (.string nm))):=(Step.refl (·=b) _).setCell _ _ iV;have Xc:Hid ((w7.setCell ⟨b,0,none⟩ (.string nm)).heap[b]?=some (.cells #[aI nm,ak,ak,ah tk.line,ah tk.col] 124 (0,0))):=aQ FT.o 0 (.string nm);go_wp2_with fail;go_meet;case rel=>exact⟨nm,j,jV.o,QA.o,HR7.o.step Pj.o Aw,Xc.o,(Kr.o.mono RG).trans (Pj.o.mono ir)⟩
   case rest=>
    obtain⟨nm,jn,hrn,hnz,hr2,hblk2,hs2⟩:=hcut;obtain⟨v1,rfl⟩:=bF wc;have pV:=ai hrn;have QH:=ai hnz;have qo:=ai hs2;have hbw:b<v1.heap.size:=aP hblk2;have hszv:=hs2.size;have Cf:Hid (N2 9 (fun va vb=>.cells #[aI nm,va,vb,ah tk.line,ah tk.col] 124 (0,0)) R v1 b d v1 jn [] [] (.slice none 0 0) (.slice none 0 0)):=⟨hr2,hblk2,World.ownsRow_nil _ _ _ _,World.ownsRow_nil _ _ _ _,nR,nR,nR,by simp,Step.refl _ _⟩;clear hrn hnz hr2 hblk2 hs2;(have HBV:Hid (∀X:World,Step (fun q=>q=R.rb∨q=b) v1 X→Step (·=R.rb) w1 X):=by intro X hX;exact(Zj.o.then qo.o Aw).then hX Aw);(have d_:Hid (∀X:World,Step (fun q=>q=R.rb∨q=b) v1 X→Step (·=R.rb) w X):=by intro X hX;exact(dH.o.mono fe).trans (HBV.o X hX));(have bZ:Hid (∀X:World,Step (fun q=>q=R.rb∨q=b) v1 X→X.cell? ⟨w.heap.size,0,none⟩=some (.pointer (some ⟨R.rb,0,none⟩))):=by intro X hX;exact Vh.o X (HBV.o X hX));(have sQ:Hid (∀X:World,Step (fun q=>q=R.rb∨q=b) v1 X→X.heap[w.heap.size+1]?=some (.cells #[dG,ak,ak,ah 0,ah 0] 124 (0,0))):=by intro X hX;exact(HBV.o X hX).keep lS.o om);have p0:=bZ.o v1 bg;go_wp2_with fail;refine(dL R HL.o v1.heap.size ⟨#[58]⟩ _ jn d (Cf.o.rd.quiet (bg.alloc _)) dc (aj (aC _ _) 0 _ rfl)).mono ?_;rintro e w2 hp;have hp2:aK R d iJ (aJ R.l jn [58]) _ e w2:=hp;cases hn:aJ R.l jn [58]with
    |out=>exact(dJ hn).elim
    |err c ln col=>rw[hn]at hp2;obtain⟨rfl,sb⟩:=hp2;exact⟨rfl,aK.aU c ln col (by rw[pV.o,hn];rfl) rfl (d_.o _ (Cf.o.err (((Step.refl (·=R.rb) _).alloc _).trans sb)))⟩
    |ok u2 jy=>
     have IK:=ai hn;rw[hn]at hp2;obtain⟨⟨v,rfl,rfl⟩,uD,sb⟩:=hp2;have zO:=ai (Cf.o.read hrb om uD (((Step.refl (·=R.rb) _).alloc _).trans sb));(have kU:Hid (r=((gQ f R.l jy pl [] []).bind fun q j=>.ok ⟨nm,q.1,q.2,tk.line,tk.col⟩ j)):=by show _=_;rw[pV.o,IK.o];rfl);clear hn uD sb p0 hp;go_wp2_with fail;go_loopg [] f (fun gg wr=>gg≤f∧∃(i':Nat) (ts ls:List ByteArray) (vt vl:Value),r=((gQ gg R.l i' pl ts ls).bind fun q j=>.ok ⟨nm,q.1,q.2,tk.line,tk.col⟩ j)∧N2 9 (fun va vb=>.cells #[aI nm,va,vb,ah tk.line,ah tk.col] 124 (0,0)) R v1 b d wr i' ts ls vt vl);case atStart=>exact⟨Nat.le_refl _,jy,[],[],_,_,kU.o,zO.o⟩
     case round=>
      obtain⟨hgf,i',ts,ls,vt,vl,hrq,hst⟩:=hrel;obtain⟨gn,rfl⟩:∃gn,gk=gn+1:=by
       cases gk with
       |zero=>exact absurd hrq (by rw[gQ];exact fH.o)
       |succ gn=>exact⟨gn,rfl⟩
      (have tX:Hid (r=((eU (ls.length+ts.length) 8 R.l i').bind fun _ i=>(if pl=true∧ls.length=0∧(tokA R.l i).kind≠2 then(bH R.l i).bind fun x j=>.ok (ts++[x],ls) j else(jl R.l i).bind fun x j=>.ok (ts,ls++[x]) j).bind fun q j=>if bG R.l j [43]then gQ gn R.l (j+1) pl q.1 q.2 else .ok q j).bind fun q j=>.ok ⟨nm,q.1,q.2,tk.line,tk.col⟩ j):=by show _=_;rw[hrq,gQ]);obtain⟨oa,oc,rfl⟩:=b_ hst.oa;obtain⟨pa,pc,rfl⟩:=b_ hst.ob;have HST:=ai hst;have p0:=bZ.o wr hst.st;have q1:=aj hst.blk 1 _ rfl;have q2:=aj hst.blk 2 _ rfl;have hfew:=hst.few;(have R1:IntKind.i64.wrap ((ls.length:Int)+(ts.length:Int))=((ls.length+ts.length:Nat):Int):=by rw[show((ls.length:Int)+(ts.length:Int))=((ls.length+ts.length:Nat):Int) by omega];exact IntWalk.i64_in _ om);clear hrq hst;go_wp2_with fail;clear R1;refine(mr R wr (ls.length+ts.length) 8 i' d HST.o.rd).mono ?_;rintro e w3 hp;cases hn:eU (ls.length+ts.length) 8 R.l i' with
      |out=>exact(kX hn).elim
      |err c ln col=>rw[hn]at hp;obtain⟨rfl,s3⟩:=hp;exact⟨rfl,aK.aU c ln col (by rw[tX.o,hn];rfl) rfl (d_.o _ (HST.o.err s3))⟩
      |ok u j=>
       have hji:j=i'∧ls.length+ts.length<8:=by
        unfold eU at hn;split at hn
        ·cases hn
        ·cases hn;exact⟨rfl,by omega⟩
       obtain⟨rfl,FW⟩:=hji;have HN:=ai hn;rw[hn]at hp;obtain⟨⟨v,rfl,rfl⟩,hr3,s3⟩:=hp;have fP:=ai (HST.o.read hrb om hr3 s3);obtain⟨tj,htj⟩:=bF (tokA R.l j);(have qf:Hid (r=((if pl=true∧ls.length=0∧tj.kind≠2 then(bH R.l j).bind fun x j=>.ok (ts++[x],ls) j else(jl R.l j).bind fun x j=>.ok (ts,ls++[x]) j).bind fun q j=>if bG R.l j [43]then gQ gn R.l (j+1) pl q.1 q.2 else .ok q j).bind fun q j=>.ok ⟨nm,q.1,q.2,tk.line,tk.col⟩ j):=by show _=_;rw[tX.o,HN.o,htj];rfl);clear hn hr3 s3 p0 q1 q2;(have UC:Hid (R.l[j]?=some tj):=by rw[htj];exact fP.o.rd.tok);obtain⟨cb,hcb⟩:=bF (pl&&ls.length==0&&tj.kind !=2);have MB:=ai hcb;(have hfd0:∀(a0 a1 a2 a3 a4:Value) (w:World),(Instr.field 111 (.agg #[a0,a1,a2,a3,a4]) 0).run Tryz.prog w=.ok a0 w:=fun _ _ _ _ _ _=>by kernel_rfl);clear htj hcb;(go_upto_region 7 with fail);go_cut [45] (fun s45 wx=>s45=.bool cb∧jg w3 wx);case first=>
        have p0:=bZ.o w3 fP.o.st;have q2:=aj fP.o.blk 2 _ rfl;obtain⟨b0,hb0⟩:∃b0,((ls.length:Int)==0)=b0:=⟨_,rfl⟩;have HB0:Hid ((ls.length==0)=b0):=(kF ls.length 0 0 rfl).symm.trans hb0;cases pl with
        |false=>(have HC2:Hid (cb=false):=by show _=_;rw[MB.o];rfl);go_wp2_with fail;go_meet;case rel=>exact⟨by rw[HC2.o],Step.refl _ _⟩
        |true=>
         cases b0 with
         |false=>(have HC2:Hid (cb=false):=by show _=_;rw[MB.o,HB0.o];rfl);go_wp2_with fail;go_meet;case rel=>exact⟨by rw[HC2.o],Step.refl _ _⟩
         |true=>obtain⟨b2,hb2⟩:∃b2,((tj.kind:Int) !=2)=b2:=⟨_,rfl⟩;(have HC2:Hid (cb=b2):=by show _=_;rw[MB.o,HB0.o,←hb2,bne,bne,kF tj.kind 2 2 rfl];rfl);go_wp2_with fail;refine(lF R _ j d tj fP.o.rd UC.o).mono ?_;rintro e w4 ⟨rfl,h4⟩;have ji:=ai h4;clear h4 p0;go_wp2_with fail;go_meet;case rel=>exact⟨by rw[HC2.o],ji.o⟩
       case rest=>
        obtain⟨rfl,hs4⟩:=hcut;obtain⟨w6,rfl⟩:=bF wc;have oQ:=ai (fP.o.quiet hs4);clear hs4;(go_upto_if 45 with fail);go_cut [] (fun wx=>∃(jn:Nat) (la lb:List ByteArray) (va vb:Value),r=((if bG R.l jn [43]then gQ gn R.l (jn+1) pl la lb else .ok (la,lb) jn).bind fun q j=>.ok ⟨nm,q.1,q.2,tk.line,tk.col⟩ j)∧N2 9 (fun va vb=>.cells #[aI nm,va,vb,ah tk.line,ah tk.col] 124 (0,0)) R v1 b d wx jn la lb va vb);case first=>
         cases cb with
         |true=>
          (have hc:pl=true∧ls.length=0∧tj.kind≠2:=by have h9:=MB.o.symm;simp at h9;exact⟨h9.1.1,by rw[h9.1.2];rfl,h9.2⟩);(have D6:Hid (r=(((bH R.l j).bind fun x j=>.ok (ts++[x],ls) j).bind fun q j=>if bG R.l j [43]then gQ gn R.l (j+1) pl q.1 q.2 else .ok q j).bind fun q j=>.ok ⟨nm,q.1,q.2,tk.line,tk.col⟩ j):=by show _=_;rw[qf.o,if_pos hc]);clear hc;have p0:=bZ.o w6 oQ.o.st;(go_upto_region 8 with fail);obtain⟨r1,hr1⟩:=bF (bH R.l j);have HR1:=ai hr1;(have pV:Hid (r1≠.out):=by rw[hr1];exact fun e=>iQ e);(have kU:Hid (r=((r1.bind fun x j=>.ok (ts++[x],ls) j).bind fun q j=>if bG R.l j [43]then gQ gn R.l (j+1) pl q.1 q.2 else .ok q j).bind fun q j=>.ok ⟨nm,q.1,q.2,tk.line,tk.col⟩ j):=by show _=_;rw[D6.o,hr1]);have x_:Hid (XC R b w6 v1.heap.size (.slice oa ts.length oc) 1 4 5 6 8):=⟨by decide,by decide,hrb,hbw,oQ.o.st.size,fun q hq=>oQ.o.oa.lt q hq⟩;have Hr:Hid (∀X:World,Step (fun q=>q=R.rb∨q=b∨(Value.slice oa ts.length oc).ownBlock=some q) w6 X→X.cell? ⟨w.heap.size,0,none⟩=some (.pointer (some ⟨R.rb,0,none⟩))):=by
           show∀X,_;intro X hX;refine hX.cell (bZ.o w6 oQ.o.st) (fun e=> ?_);have e2:w.heap.size=R.rb∨w.heap.size=b∨(Value.slice oa ts.length oc).ownBlock=some w.heap.size:=e;rcases e2 with e2|e2|e2
           ·omega
           ·omega
           ·have:=(x_.o.own _ e2).1;omega
          obtain⟨Jx,hJx⟩:=bF (NJ R j d b w6 (fun v=>.cells #[aI nm,v,.slice pa ls.length pc,ah tk.line,ah tk.col] 124 (0,0)) v1.heap.size 9 (.slice oa ts.length oc) ts.length (ts.map .string) r1 1 4 5 6 8 [some (.pointer (some ⟨b,1,none⟩)),some (.slice oa ts.length oc),some (.pointer (some ⟨w.heap.size,0,none⟩)),some (.pointer (some ⟨R.rb,0,none⟩)),none,none,none,some (.pointer (some ⟨b,1,none⟩)),none]);have fQ:=ai hJx;(have KD:Hid (∀V,Jx (fun _=>false) V w6.drew):=by intro V;rw[hJx];exact NJ.zero (bg.drew) oQ.o.rd oQ.o.oa oQ.o.blk);have Zi:Hid (∀X:World,Step (fun q=>q=R.rb∨q=b∨(Value.slice oa ts.length oc).ownBlock=some q) w6 X→Step (fun q=>q=R.rb∨q=b) v1 X):=by
           show∀X,_;intro X hX;refine oQ.o.st.then hX (fun q hq e=> ?_);rcases e with e|e|e
           ·exact .inl e
           ·exact .inr e
           ·have:=(x_.o.own _ e).1;omega
          clear hr1 hJx p0;refine bD kr Jx 9 rfl kr kr kr kr ?h0 ?hs ?hdone;case h0=>exact KD.o _
          case hs=>
           refine⟨?_,?_,?_,?_,?_,?_,?_,?_,?_,trivial⟩
           all_goals (intro L V X a ev ig hdf hL ay hJ;rw[fQ.o]at hJ)
           ·have o3:=ig 3 rfl;change a.tmps[3]?.getD undef=.pointer (some ⟨b,0,none⟩)at o3;go_simp;exact AY
           ·have e46:=(ev 0 46 rfl (ay 0 rfl)).trans (hJ.iD 0 _ rfl (ay 0 rfl));have hA:L 6=false:=by
             cases e:L 6 with
             |false=>rfl
             |true=>rw[hJ.ql e]at hL;cases hL
            have hb:=hJ.blk;rw[hJ.FV hA]at hb;have q1:X.cell? ⟨b,1,none⟩=some (.slice oa ts.length oc):=aj hb 1 _ rfl;go_simp;exact AY
           ·have o1:=ig 1 rfl;change a.tmps[1]?.getD undef=.pointer (some ⟨w.heap.size,0,none⟩)at o1;go_simp;exact AY
           ·have e48:=(ev 2 48 rfl (ay 2 rfl)).trans (hJ.iD 2 _ rfl (ay 2 rfl));have p0:=Hr.o X hJ.st;go_simp;exact AY
           ·have e49:=(ev 3 49 rfl (ay 3 rfl)).trans (hJ.iD 3 _ rfl (ay 3 rfl));obtain⟨i9,y1,y2⟩:=hJ.rd;rw[hL]at y2;have y3:i9=j:=y2;subst y3;go_simp;refine(name_any R HL.o X i9 d y1).mono ?_;intro e wq hp;rw[←HR1.o]at hp;cases hx:r1 with
            |out=>exact absurd hx pV.o
            |err cc ln col=>rw[hx]at hp;obtain⟨rfl,hs⟩:=hp;exact⟨hdf,aK.aU cc ln col (by rw[kU.o,hx];rfl) rfl (d_.o _ ((Zi.o X hJ.st).trans (hs.mono RG)))⟩
            |ok s9 k9=>have hx0:=hx;rw[hx]at hp;obtain⟨⟨v,rfl,rfl⟩,hr,hs⟩:=hp;exact⟨_,rfl,by rw[fQ.o];exact hJ.call x_.o hL rfl hs hr hx0⟩
           ·obtain⟨s9,k9,y1,y2⟩:=hJ.vc (ay 4 rfl);have e50:=(ev 4 50 rfl (ay 4 rfl)).trans y2;go_simp;exact⟨_,rfl,by rw[fQ.o];exact hJ.build x_.o hL (ay 4 rfl) rfl y2⟩
           ·have e47:=(ev 1 47 rfl (ay 1 rfl)).trans (hJ.iD 1 _ rfl (ay 1 rfl));have e51:=ev 5 51 rfl (ay 5 rfl);obtain⟨s9,k9,g9,y1,y2,y3,y4⟩:=hJ.vb (ay 5 rfl) hL;have hon:=hJ.own hL;have hwz:=Nat.le_trans x_.o.bw hJ.st.size;have hfw:=oQ.o.few;refine gq _ (g9+1) (.tmp 47) (.tmp 51) 40 rfl v1.heap.size 9 i0 (.string ⟨#[]⟩) 1 16 Tryz.underlying40 HI.o HZ0.o HZ1.o HZ2.o rfl dc (.slice oa ts.length oc) ts.length (ts.map .string) (by rw[bW];exact e47) hon (V 5) 1 [.string s9] (by rw[bW];exact e51) (by rw[y2];exact Row.new y4 dc) rfl (bn rfl) (by unfold maxLen;omega) om hwz ?_;intro v8 w8 sO oO zU;exact⟨v8,rfl,by rw[fQ.o];exact hJ.app x_.o hL (ay 5 rfl) (ay 1 rfl) rfl y1 sO oO zU⟩
           ·have o3:=ig 3 rfl;change a.tmps[3]?.getD undef=.pointer (some ⟨b,0,none⟩)at o3;go_simp;exact AY
           ·have e53:=(ev 7 53 rfl (ay 7 rfl)).trans (hJ.iD 7 _ rfl (ay 7 rfl));obtain⟨s9,k9,y1,y2,y3⟩:=hJ.va (ay 6 rfl);obtain⟨a9,c9,hV⟩:=b_ y2;have e52:=(ev 6 52 rfl (ay 6 rfl)).trans hV;have hb:=hJ.blk;rw[hL]at hb;have iC:∃v,X.cell? ⟨b,1,none⟩=some v:=⟨_,aj hb 1 _ rfl⟩;obtain⟨vc,ES⟩:=iC;have hfz:X.frozen? ⟨b,1,none⟩=false:=aG hb 1;go_simp;exact⟨undef,by rw[fQ.o];exact hJ.put x_.o (ay 6 rfl) (fun u hu=>by cases hu) (bg.setCell _ _ iV) (by rw[←hV];exact aQ hb 1 (V 6)) undef⟩
          case hdone=>intro L V X hall hJ;rw[fQ.o]at hJ;obtain⟨s9,k9,v9,h1,h2,h3,h4,h5,h6⟩:=hJ.done (hall 4 dc) (hall 6 dc) (hall 8 dc);(have Eu:bH R.l j=.ok s9 k9:=by rw[←HR1.o];exact h1);have hsz:=fF HL.o oQ.o.rd.lt Eu;rw[PK];simp only[lW,dZ,FB,Bj];(have D5:Hid (r=((if bG R.l k9 [43]then gQ gn R.l (k9+1) pl (ts++[s9]) ls else .ok ((ts++[s9]),ls) k9).bind fun q j=>.ok ⟨nm,q.1,q.2,tk.line,tk.col⟩ j)):=by show _=_;rw[D6.o,Eu];rfl);have kP:Hid (N2 9 (fun va vb=>.cells #[aI nm,va,vb,ah tk.line,ah tk.col] 124 (0,0)) R v1 b d X k9 (ts++[s9]) ls v9 (.slice pa ls.length pc)):=oQ.o.LY hrb hbw h2 h3 h4 h5 h6 hsz om;clear hJ hall h1 h2 h3 h4 h5 h6 Eu hsz;go_wp2_with fail;go_meet;case rel=>exact⟨k9,_,_,_,_,D5.o,kP.o⟩
         |false=>
          (have hc:¬(pl=true∧ls.length=0∧tj.kind≠2):=by intro hc;have h9:=MB.o;rw[hc.1,hc.2.1]at h9;simp at h9;exact hc.2.2 h9);(have D6:Hid (r=(((jl R.l j).bind fun x j=>.ok (ts,ls++[x]) j).bind fun q j=>if bG R.l j [43]then gQ gn R.l (j+1) pl q.1 q.2 else .ok q j).bind fun q j=>.ok ⟨nm,q.1,q.2,tk.line,tk.col⟩ j):=by show _=_;rw[qf.o,if_neg hc]);clear hc;have p0:=bZ.o w6 oQ.o.st;(go_upto_region 9 with fail);obtain⟨r1,hr1⟩:=bF (jl R.l j);have HR1:=ai hr1;(have pV:Hid (r1≠.out):=by rw[hr1];exact fun e=>zQ e);(have kU:Hid (r=((r1.bind fun x j=>.ok (ts,ls++[x]) j).bind fun q j=>if bG R.l j [43]then gQ gn R.l (j+1) pl q.1 q.2 else .ok q j).bind fun q j=>.ok ⟨nm,q.1,q.2,tk.line,tk.col⟩ j):=by show _=_;rw[D6.o,hr1]);have x_:Hid (XC R b w6 v1.heap.size (.slice pa ls.length pc) 1 3 4 5 7):=⟨by decide,by decide,hrb,hbw,oQ.o.st.size,fun q hq=>oQ.o.ob.lt q hq⟩;have Hr:Hid (∀X:World,Step (fun q=>q=R.rb∨q=b∨(Value.slice pa ls.length pc).ownBlock=some q) w6 X→X.cell? ⟨w.heap.size,0,none⟩=some (.pointer (some ⟨R.rb,0,none⟩))):=by
           show∀X,_;intro X hX;refine hX.cell (bZ.o w6 oQ.o.st) (fun e=> ?_);have e2:w.heap.size=R.rb∨w.heap.size=b∨(Value.slice pa ls.length pc).ownBlock=some w.heap.size:=e;rcases e2 with e2|e2|e2
           ·omega
           ·omega
           ·have:=(x_.o.own _ e2).1;omega
          obtain⟨Jx,hJx⟩:=bF (NJ R j d b w6 (fun v=>.cells #[aI nm,.slice oa ts.length oc,v,ah tk.line,ah tk.col] 124 (0,0)) v1.heap.size 9 (.slice pa ls.length pc) ls.length (ls.map .string) r1 1 3 4 5 7 [some (.pointer (some ⟨b,2,none⟩)),some (.slice pa ls.length pc),some (.agg #[gW R.rb 0]),none,none,none,some (.pointer (some ⟨b,2,none⟩)),none]);have fQ:=ai hJx;(have KD:Hid (∀V,Jx (fun _=>false) V w6.drew):=by intro V;rw[hJx];exact NJ.zero (bg.drew) oQ.o.rd oQ.o.ob oQ.o.blk);have Zi:Hid (∀X:World,Step (fun q=>q=R.rb∨q=b∨(Value.slice pa ls.length pc).ownBlock=some q) w6 X→Step (fun q=>q=R.rb∨q=b) v1 X):=by
           show∀X,_;intro X hX;refine oQ.o.st.then hX (fun q hq e=> ?_);rcases e with e|e|e
           ·exact .inl e
           ·exact .inr e
           ·have:=(x_.o.own _ e).1;omega
          clear hr1 hJx p0;refine bD kr Jx 8 rfl kr kr kr kr ?h0 ?hs ?hdone;case h0=>exact KD.o _
          case hs=>
           refine⟨?_,?_,?_,?_,?_,?_,?_,?_,trivial⟩
           all_goals (intro L V X a ev ig hdf hL ay hJ;rw[fQ.o]at hJ)
           ·have o3:=ig 3 rfl;change a.tmps[3]?.getD undef=.pointer (some ⟨b,0,none⟩)at o3;go_simp;exact AY
           ·have e54:=(ev 0 54 rfl (ay 0 rfl)).trans (hJ.iD 0 _ rfl (ay 0 rfl));have hA:L 5=false:=by
             cases e:L 5 with
             |false=>rfl
             |true=>rw[hJ.ql e]at hL;cases hL
            have hb:=hJ.blk;rw[hJ.FV hA]at hb;have q2:X.cell? ⟨b,2,none⟩=some (.slice pa ls.length pc):=aj hb 2 _ rfl;go_simp;exact AY
           ·have o1:=ig 1 rfl;change a.tmps[1]?.getD undef=.pointer (some ⟨w.heap.size,0,none⟩)at o1;have p0:=Hr.o X hJ.st;go_simp;exact AY
           ·have e56:=(ev 2 56 rfl (ay 2 rfl)).trans (hJ.iD 2 _ rfl (ay 2 rfl));obtain⟨i9,y1,y2⟩:=hJ.rd;rw[hL]at y2;have y3:i9=j:=y2;subst y3;go_simp;refine(vM R HL.o X i9 d y1).mono ?_;intro e wq hp;rw[←HR1.o]at hp;cases hx:r1 with
            |out=>exact absurd hx pV.o
            |err cc ln col=>rw[hx]at hp;obtain⟨rfl,hs⟩:=hp;exact⟨hdf,aK.aU cc ln col (by rw[kU.o,hx];rfl) rfl (d_.o _ ((Zi.o X hJ.st).trans (hs.mono RG)))⟩
            |ok s9 k9=>have hx0:=hx;rw[hx]at hp;obtain⟨⟨v,rfl,rfl⟩,hr,hs⟩:=hp;exact⟨_,rfl,by rw[fQ.o];exact hJ.call x_.o hL rfl hs hr hx0⟩
           ·obtain⟨s9,k9,y1,y2⟩:=hJ.vc (ay 3 rfl);have e57:=(ev 3 57 rfl (ay 3 rfl)).trans y2;go_simp;exact⟨_,rfl,by rw[fQ.o];exact hJ.build x_.o hL (ay 3 rfl) rfl y2⟩
           ·have e55:=(ev 1 55 rfl (ay 1 rfl)).trans (hJ.iD 1 _ rfl (ay 1 rfl));have e58:=ev 4 58 rfl (ay 4 rfl);obtain⟨s9,k9,g9,y1,y2,y3,y4⟩:=hJ.vb (ay 4 rfl) hL;have hon:=hJ.own hL;have hwz:=Nat.le_trans x_.o.bw hJ.st.size;have hfw:=oQ.o.few;refine gq _ (g9+1) (.tmp 55) (.tmp 58) 40 rfl v1.heap.size 9 i0 (.string ⟨#[]⟩) 1 16 Tryz.underlying40 HI.o HZ0.o HZ1.o HZ2.o rfl dc (.slice pa ls.length pc) ls.length (ls.map .string) (by rw[bW];exact e55) hon (V 4) 1 [.string s9] (by rw[bW];exact e58) (by rw[y2];exact Row.new y4 dc) rfl (bn rfl) (by unfold maxLen;omega) om hwz ?_;intro v8 w8 sO oO zU;exact⟨v8,rfl,by rw[fQ.o];exact hJ.app x_.o hL (ay 4 rfl) (ay 1 rfl) rfl y1 sO oO zU⟩
           ·have o3:=ig 3 rfl;change a.tmps[3]?.getD undef=.pointer (some ⟨b,0,none⟩)at o3;go_simp;exact AY
           ·have e60:=(ev 6 60 rfl (ay 6 rfl)).trans (hJ.iD 6 _ rfl (ay 6 rfl));obtain⟨s9,k9,y1,y2,y3⟩:=hJ.va (ay 5 rfl);obtain⟨a9,c9,hV⟩:=b_ y2;have e59:=(ev 5 59 rfl (ay 5 rfl)).trans hV;have hb:=hJ.blk;rw[hL]at hb;have iC:∃v,X.cell? ⟨b,2,none⟩=some v:=⟨_,aj hb 2 _ rfl⟩;obtain⟨vc,ES⟩:=iC;have hfz:X.frozen? ⟨b,2,none⟩=false:=aG hb 2;go_simp;exact⟨undef,by rw[fQ.o];exact hJ.put x_.o (ay 5 rfl) (fun u hu=>by cases hu) (bg.setCell _ _ iV) (by rw[←hV];exact aQ hb 2 (V 5)) undef⟩
          case hdone=>intro L V X hall hJ;rw[fQ.o]at hJ;obtain⟨s9,k9,v9,h1,h2,h3,h4,h5,h6⟩:=hJ.done (hall 3 dc) (hall 5 dc) (hall 7 dc);(have Eu:jl R.l j=.ok s9 k9:=by rw[←HR1.o];exact h1);have hsz:=xQ HL.o oQ.o.rd.lt Eu;rw[Nk];simp only[lW,dZ,FB,Bj];(have D5:Hid (r=((if bG R.l k9 [43]then gQ gn R.l (k9+1) pl ts (ls++[s9])else .ok (ts,(ls++[s9])) k9).bind fun q j=>.ok ⟨nm,q.1,q.2,tk.line,tk.col⟩ j)):=by show _=_;rw[D6.o,Eu];rfl);have kP:Hid (N2 9 (fun va vb=>.cells #[aI nm,va,vb,ah tk.line,ah tk.col] 124 (0,0)) R v1 b d X k9 ts (ls++[s9]) (.slice oa ts.length oc) v9):=oQ.o.pushB hrb hbw h2 h3 h4 h5 h6 hsz om;clear hJ hall h1 h2 h3 h4 h5 h6 Eu hsz;go_wp2_with fail;go_meet;case rel=>exact⟨k9,_,_,_,_,D5.o,kP.o⟩
        case rest=>
         obtain⟨jn,la,lb,va,vb,hrn,hls⟩:=hcut;obtain⟨w9,rfl⟩:=bF wc;obtain⟨a1,c1,rfl⟩:=b_ hls.oa;obtain⟨a2,c2,rfl⟩:=b_ hls.ob;have iM:=ai hls;have HRN9:=ai hrn;clear hls hrn;have p0:=bZ.o w9 iM.o.st;go_wp2_with fail;cases hc:bG R.l jn [43]with
         |true=>
          have HC:=ai hc;clear hc;refine(cZ R HL.o ⟨#[43]⟩ _ jn d iM.o.rd dc HC.o).mono ?_;rintro e wa ⟨rfl,hra,sa⟩;have jk:=ai (iM.o.read hrb om hra sa);(have Ov:Hid (r=((gQ gn R.l (jn+1) pl la lb).bind fun q j=>.ok ⟨nm,q.1,q.2,tk.line,tk.col⟩ j)):=by show _=_;rw[HRN9.o,HC.o,if_pos rfl]);clear hra sa p0;go_wp2_with fail;go_roundg gn;case rel=>exact⟨by omega,jn+1,la,lb,_,_,Ov.o,jk.o⟩
          case measure=>omega
         |false=>
          have HC:=ai hc;clear hc;refine(dU R HL.o ⟨#[43]⟩ _ jn d iM.o.rd dc HC.o).mono ?_;rintro e wa ⟨rfl,hra,sa⟩;have jk:=ai (iM.o.read hrb om hra sa);(have J9:Hid (r=.ok ⟨nm,la,lb,tk.line,tk.col⟩ jn):=by show _=_;rw[HRN9.o,HC.o,if_neg dc];rfl);clear hra sa p0;have Vg:=ai jk.o.names;(have bJ:Hid (∀(jj:Nat) v,[Value.string nm,.slice a1 la.length c1,.slice a2 lb.length c2,ah tk.line,ah tk.col][jj]?=some v→wa.cell? ⟨b,0+jj,none⟩=some v):=by intro jj v hv;rw[Nat.zero_add];exact aj jk.o.blk jj v pO);have dQ:Hid (∀u∈[Value.string nm,.slice a1 la.length c1,.slice a2 lb.length c2,ah tk.line,ah tk.col],u.oneCell'=true):=bn rfl;have kS:=ai (sQ.o wa jk.o.st);go_wp2_with (first
           |(refine aN rfl 124 (.tmp 3) rfl b 0 rfl [Value.string nm,.slice a1 la.length c1,.slice a2 lb.length c2,ah tk.line,ah tk.col] _ bJ.o Tryz.underlying124 rfl Tryz.wP ?_)
           |(refine aB (w:=wa) rfl 124 (.tmp 2) (.tmp 65) rfl (w.heap.size+1) 0 124 _ [Value.string nm,.slice a1 la.length c1,.slice a2 lb.length c2,ah tk.line,ah tk.col] rfl rfl kS.o Tryz.wP (Nat.le_of_eq rfl) dQ.o ?_;intro wR hbR di))
          have h_:wR.heap[w.heap.size+1]?=some (.cells [Value.string nm,.slice a1 la.length c1,.slice a2 lb.length c2,ah tk.line,ah tk.col].toArray 124 (0,0)):=hbR;refine bodyPost_ret (aS rfl _ (w.heap.size+1) 124 _ _ rfl h_ Tryz.underlying124 rfl Tryz.wP) rfl ?_;exact aK.dN J9.o rfl ⟨_,rfl,_,_,rfl,QH.o,dY.mono _ _ Aw (dY.step _ _ di Aw Vg.o.1),dY.mono _ _ Aw (dY.step _ _ di Aw Vg.o.2)⟩ (jk.o.rd.step di Aw) ((d_.o _ jk.o.st).then di Aw)
theorem Tryz.Oy:(Tryz.prog.info? 124).map (fun i=>(i.zero,i.size,i.bytes))=some (some (.agg #[dG,ak,ak,ah 0,ah 0]),5,80):=by kernel_rfl
def BdsV (n0:Nat) (w':World) (a:List Bd) (v:Value):Prop:=lT EX w' (fun k=>n0≤k) a v
theorem z_ (f:Nat) (R:gI) (w:World) (i d:Nat) (hl:oJ R.l) (h:bC R w i d) (hno:fG f R.l i≠.out):Calls Tryz.prog 94 #[.agg #[gW R.rb 0]] w (aK R d (BdsV w.heap.size) (fG f R.l i) w):=by
 have HL:=ai hl;obtain⟨r,hr⟩:=bF (fG f R.l i);have HRR:Hid (r=if bG R.l i [119,104,101,114,101]then lV f R.l (i+1) []else .ok [] i):=by show _=_;rw[hr,fG]
 rw[←hr]at hno⊢;have fH:=ai hno;obtain⟨i0,hi0,hz0,hz1,hz2⟩:=info_parts Tryz.Oy;have HI:=ai hi0;have HZ0:=ai hz0;have HZ1:=ai hz1;have HZ2:=ai hz2;obtain⟨w1,hw1⟩:=bF (w.alloc (.cells #[gW R.rb 0] 75));have dH:=nS hw1
 have kK:=nB hw1
 have HW1:=ai hw1;have H1:=ai (h.quiet dH.o);have hn1:=aP kK.o;have uq:=aP h.blk;have hwz:R.rb<w1.heap.size:=by omega
 have bZ:Hid (∀X:World,Step (·=R.rb) w1 X→X.cell? ⟨w.heap.size,0,none⟩=some (.pointer (some ⟨R.rb,0,none⟩))):=fun X hX=>aj (hX.keep kK.o om) 0 _ rfl
 have d_:Hid (∀X:World,Step (·=R.rb) w1 X→Step (·=R.rb) w X):=fun X hX=>(dH.o.mono fe).trans hX
 clear hw1;have p0:=bZ.o w1 bg;clear hl h hno hr hi0 hz0 hz1 hz2;go_enter Tryz.func94,Tryz.ntmps94;go_upto_region 2 with fail
 rw[←HW1.o];go_wp2_with fail;cases hb:bG R.l i [119,104,101,114,101]with
 |false=>
  have HB:=ai hb;clear hb;refine(dU R HL.o ⟨#[119,104,101,114,101]⟩ _ i d H1.o dc HB.o).mono ?_;rintro e w2 ⟨rfl,hr2,h2⟩;have kU:=ai (HRR.o.trans (wZ HB.o))
  have HR2:=ai hr2;have HS2:=ai h2;clear hr2 h2 p0;go_wp2_with fail;go_ret;exact aK.dN kU.o rfl (lT.nil _ _) HR2.o (d_.o _ HS2.o)
 |true=>
  have HB:=ai hb;clear hb;refine(cZ R HL.o ⟨#[119,104,101,114,101]⟩ _ i d H1.o dc HB.o).mono ?_;rintro e w2 ⟨rfl,hr2,h2⟩;have kU:=ai (HRR.o.trans (if_pos HB.o))
  have HR2:=ai hr2;have HS2:=ai h2;clear hr2 h2 p0;go_wp2_with fail;go_loopg [3] f (fun gg s3 wr=>gg≤f∧∃(i':Nat) (acc:List Bd) (xs:List Value),r=lV gg R.l i' acc∧y_ EX 124 5 R w1 d wr i' acc s3 xs);case atStart=>exact⟨Nat.le_refl _,i+1,[],[],kU.o,HR2.o,World.ownsRow_nil _ _ _ _,rfl,HS2.o⟩
  case round=>
   obtain⟨hgf,i',acc,xs,hrq,hst⟩:=hrel;obtain⟨gn,rfl⟩:∃gn,gk=gn+1:=by
    cases gk with
    |zero=>exact absurd hrq (by rw[lV];exact fH.o)
    |succ gn=>exact⟨gn,rfl⟩
   (have tX:Hid (r=(eU acc.length 16 R.l i').bind fun _ i=>(pX gn R.l i).bind fun x j=>if bG R.l j [44]then lV gn R.l (j+1) (acc++[x])else .ok (acc++[x]) j):=by show _=_;rw[hrq,lV]);obtain⟨oa,oc,rfl⟩:=b_ hst.ow;have HST:=ai hst;have p0:=bZ.o wr hst.st;clear hrq hst;go_wp2_with fail;refine(mr R wr acc.length 16 i' d HST.o.rd).mono ?_;rintro e w3 hp;cases hn:eU acc.length 16 R.l i' with
   |out=>exact(kX hn).elim
   |err c ln col=>rw[hn]at hp;obtain⟨rfl,s3⟩:=hp;exact⟨rfl,aK.aU c ln col (by rw[tX.o,hn];rfl) rfl (d_.o _ (HST.o.st.trans s3))⟩
   |ok u j3=>
    have hji:j3=i'∧acc.length<16:=by
     unfold eU at hn;split at hn
     ·cases hn
     ·cases hn;exact⟨rfl,by omega⟩
    obtain⟨hj3,hlt⟩:=hji;have uZ:=ai hn;rw[hn]at hp;obtain⟨⟨v,rfl,rfl⟩,hr3,s3⟩:=hp;have fP:=ai (HST.o.read jc hwz hr3 s3);have qf:=ai (tX.o.trans (tV uZ.o));clear hn hr3 s3 p0 hj3;have p0:=bZ.o w3 fP.o.st;go_wp2_with fail;refine(Ox gn R w3 j3 d HL.o fP.o.rd (fun e=>fH.o (by rw[qf.o,e];rfl))).mono ?_;rintro e wx hp;have hp2:aK R d (BdV w3.heap.size) (pX gn R.l j3) _ e wx:=hp;cases hx:pX gn R.l j3 with
    |out=>exact absurd (by rw[qf.o,hx];rfl) fH.o
    |err c ln col=>rw[hx]at hp2;obtain⟨rfl,sq⟩:=hp2;exact⟨rfl,aK.aU c ln col (by rw[qf.o,hx];rfl) rfl (d_.o _ (fP.o.st.trans sq))⟩
    |ok x jx=>
     have HX:=ai hx;rw[hx]at hp2;obtain⟨⟨v,rfl,cs,rfl,hy⟩,hrx,hsx⟩:=hp2;have I_:=ai (jc.len _ _ hy);have dQ:=ai (jc.one _ _ hy);have Ph:=ai (qf.o.trans (tV HX.o));obtain⟨w4,hw4⟩:=bF (wx.alloc (.cells cs.toArray 124));(have ji:Hid (jg wx w4):=by rw[hw4];exact bg.alloc _);have fD:=ai ((fP.o.read jc hwz hrx hsx).quiet jc ji.o);have NZ:Hid (EX w4 (fun q=>w3.heap.size≤q) x cs):=jc.step _ _ ji.o (fun _ _ h=>h) hy;(have F5:Hid ((wx.alloc (.cells cs.toArray 124)).ownsRow w1.heap.size 124 5 (.slice oa acc.length oc) acc.length xs):=by rw[←hw4];exact fD.o.ow);have yU:Hid (Row (wx.alloc (.cells cs.toArray 124)) (wx.heap.size+1) (.slice (some ⟨wx.heap.size,0,none⟩) 1 1) 1 cs):=Row.new (aC _ _) dc;(have F6:Hid (w1.heap.size≤(wx.alloc (.cells cs.toArray 124)).heap.size):=by rw[←hw4];exact fD.o.st.size);have UE:=ai hw4;have CQ:=ai hlt;(have TV:i0.size=cs.length:=by rw[I_.o];exact HZ1.o);(have hC2:(Value.agg #[dG,ak,ak,ah 0,ah 0]).cells.size=cs.length:=by rw[I_.o];rfl);(have XD:0<cs.length:=by rw[I_.o];decide);(have XE:cs.length≤16777216:=by rw[I_.o];decide);(have XF:cs.length=1*5:=by rw[I_.o]);have HC:=ai (And.intro TV (And.intro hC2 (And.intro XD (And.intro XE XF))));clear hx hp hy hrx hsx p0 hw4 hlt TV hC2 XD XE XF;go_upto_region 6 with(first
      |(refine lU rfl 47 (.tmp 15) rfl 124 i0 (.agg #[dG,ak,ak,ah 0,ah 0]) cs rfl Tryz.underlying47 HI.o HZ0.o HC.o.1 HC.o.2.1 HC.o.2.2.1 HC.o.2.2.2.1 ?_)
      |(refine jU _ rfl (wx.heap.size+1) (.tmp 13) (.tmp 16) 47 rfl w1.heap.size 124 i0 (.agg #[dG,ak,ak,ah 0,ah 0]) 5 80 Tryz.underlying47 HI.o HZ0.o HZ1.o HZ2.o rfl dc _ _ _ (by rfl) F5.o _ 1 _ (by rfl) yU.o HC.o.2.2.2.2 dQ.o (by have:=CQ.o;unfold maxLen;omega) (by have:=CQ.o;omega) F6.o ?_;intro v9 w9 iU gJ oG))
     rw[←UE.o]at gJ oG;have iM:=ai (fP.o.push jc fD.o NZ.o iU gJ oG hwz);clear iU gJ oG;have p0:=bZ.o w9 iM.o.st;go_wp2_with fail;cases hc:bG R.l jx [44]with
     |true=>
      have RX:=ai hc;clear hc;refine(cZ R HL.o ⟨#[44]⟩ _ jx d iM.o.rd dc RX.o).mono ?_;rintro e w6 ⟨rfl,o9,s6⟩;have fA:=ai (iM.o.read jc hwz o9 s6);(have yR:Hid (r=lV gn R.l (jx+1) (acc++[x])):=by show _=_;rw[Ph.o,RX.o,if_pos rfl]);clear o9 s6 p0;go_wp2_with fail;go_roundg gn;case rel=>exact⟨by omega,jx+1,acc++[x],_,yR.o,fA.o⟩
      case measure=>omega
     |false=>have RX:=ai hc;clear hc;refine(dU R HL.o ⟨#[44]⟩ _ jx d iM.o.rd dc RX.o).mono ?_;rintro e w6 ⟨rfl,o9,s6⟩;have fA:=ai (iM.o.read jc hwz o9 s6);(have yR:Hid (r=.ok (acc++[x]) jx):=by show _=_;rw[Ph.o,RX.o,if_neg dc]);clear o9 s6 p0;go_wp2_with fail;go_ret;have hsz:=dH.o.size;exact aK.dN yR.o rfl ⟨_,dh.jd fA.o.ow (fun q hq=>by have:=(fA.o.ow.lt q hq).1;omega),ou.mono jc (fun q _ hq=>by have:=hq.1;omega) _ _ fA.o.el⟩ fA.o.rd (d_.o _ fA.o.st)
theorem MC (f:Nat) (ih:vN f) (R:gI) (w:World) (i d:Nat) (hl:oJ R.l) (h:bC R w i d) (hd:d≤40) (hno:lm f R.l i d≠.out):Calls Tryz.prog 95 #[.agg #[gW R.rb 0]] w (aK R d (TyV w.heap.size) (lm f R.l i d) w):=by
 have HL:=ai hl;have IH:=ai ih;obtain⟨r,hr⟩:=bF (lm f R.l i d);have HRR:Hid (r=if bG R.l i [45,62]then kG f R.l (i+1) d else .ok fK i):=by show _=_;rw[hr,lm]
 rw[←hr]at hno⊢;have fH:=ai hno;have uq:=aP h.blk;obtain⟨w1,hw1⟩:=bF ((w.alloc (.cells #[gW R.rb 0] 75)).alloc (.cells #[ah 0,dG,dG,aW,ak,ak,ah 0,ah 0] 46));have dH:=nT hw1
 have kK:=nC hw1
 have lS:=nD hw1
 have HW1:=ai hw1;have H1:=ai (h.quiet dH.o);have hn1:=aP lS.o;have hsz:=dH.o.size;have bZ:Hid (∀X:World,Step (·=R.rb) w1 X→X.cell? ⟨w.heap.size,0,none⟩=some (.pointer (some ⟨R.rb,0,none⟩))):=fun X hX=>aj (hX.keep kK.o om) 0 _ rfl
 have p0:=bZ.o w1 bg;clear ih hl h hno hr hw1;go_enter Tryz.func95,Tryz.ntmps95;go_upto_region 1 with fail
 rw[←HW1.o];go_wp2_with fail;cases hb:bG R.l i [45,62]with
 |false=>
  have HB:=ai hb;clear hb;refine(dU R HL.o ⟨#[45,62]⟩ _ i d H1.o dc HB.o).mono ?_;rintro e w2 ⟨rfl,hr2,h2⟩;have kU:=ai (HRR.o.trans (wZ HB.o))
  have HR2:=ai hr2;have HS2:=ai h2;have kS:=ai (h2.keep lS.o om);clear hr2 h2 p0
  go_wp2_with (refine aB (w:=w2) rfl 46 (.tmp 2) (.tmp 7) rfl (w.heap.size+1) 0 46 _ [.int .i64 0,.string dB,.string dB,.bool false,.slice none 0 0,.slice none 0 0,.int .i64 0,.int .i64 0] rfl rfl kS.o Tryz.gB (Nat.le_of_eq rfl) (bn rfl) ?_
               intro wR hbR di)
  have h_:wR.heap[w.heap.size+1]?=some (.cells ([.int .i64 0,.string dB,.string dB,.bool false,.slice none 0 0,.slice none 0 0,.int .i64 0,.int .i64 0]:List Value).toArray 46 (0,0)):=hbR;refine bodyPost_ret (aS rfl _ (w.heap.size+1) 46 _ _ rfl h_ Tryz.underlying46 rfl Tryz.gB) rfl ?_;exact aK.dN kU.o rfl ⟨_,rfl,rG _ _⟩ (HR2.o.step di Aw) (((dH.o.mono fe).trans HS2.o).then di Aw)
 |true=>
  have HB:=ai hb;clear hb;refine(cZ R HL.o ⟨#[45,62]⟩ _ i d H1.o dc HB.o).mono ?_;rintro e w2 ⟨rfl,hr2,h2⟩;have kU:=ai (HRR.o.trans (if_pos HB.o))
  have HR2:=ai hr2;have HS2:=ai h2;clear hr2 h2 p0;have p0:=bZ.o w2 HS2.o;go_wp2_with fail;refine(IH.o R _ (i+1) d HL.o HR2.o hd (fun e=>fH.o (by rw[kU.o,e]))).mono ?_;rintro e wx hp;have hp2:aK R d (TyV w2.heap.size) (kG f R.l (i+1) d) _ e wx:=hp;cases hx:kG f R.l (i+1) d with
  |out=>exact absurd (by rw[kU.o,hx]) fH.o
  |err c ln col=>rw[hx]at hp2;obtain⟨rfl,sq⟩:=hp2;exact⟨rfl,aK.aU c ln col (by rw[kU.o,hx]) rfl (((dH.o.mono fe).trans HS2.o).trans sq)⟩
  |ok ty jx=>
   have HX:=ai hx;rw[hx]at hp2;obtain⟨⟨v,rfl,cs,rfl,hy⟩,hrx,hsx⟩:=hp2;obtain⟨mF,mG,mJ,mM,mO,mP,mQ,ta2,mV,mW,tl1,mX,rfl⟩:=hy.parts;have HY:=ai hy;have vO:=ai hrx;have qm:=ai (HS2.o.trans hsx);have kS:=ai ((HS2.o.trans hsx).keep lS.o om);have hz2:=HS2.o.size;clear hx hp hy hrx hsx p0
   go_wp2_with (refine aB (w:=wx) rfl 46 (.tmp 2) (.tmp 9) rfl (w.heap.size+1) 0 46 _ [.int .i64 mF,.string mG,.string mJ,.bool mM,.slice mO mP mQ,.slice ta2 mV mW,.int .i64 tl1,.int .i64 mX] rfl rfl kS.o Tryz.gB (Nat.le_of_eq rfl) (bn rfl) ?_
                intro wR hbR di)
   have h_:wR.heap[w.heap.size+1]?=some (.cells [Value.int .i64 mF,aI mG,aI mJ,bK mM,.slice mO mP mQ,.slice ta2 mV mW,ah tl1,ah mX].toArray 46 (0,0)):=hbR;refine bodyPost_ret (aS rfl _ (w.heap.size+1) 46 _ _ rfl h_ Tryz.underlying46 rfl Tryz.gB) rfl ?_;exact aK.dN (by rw[kU.o,HX.o]) rfl ⟨_,rfl,gG.mono Aw _ _ (gG.step di Aw _ _ HY.o)⟩ (vO.o.step di Aw) (((dH.o.mono fe).trans qm.o).then di Aw)
end Go.Proofs.YtggjfinekcenpaaGreat
