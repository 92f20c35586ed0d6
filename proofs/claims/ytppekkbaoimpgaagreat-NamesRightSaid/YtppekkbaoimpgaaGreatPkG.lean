import Derived.Test.YtppekkbaoimpgaaGreatPkF
set_option maxRecDepth 100000
set_option maxHeartbeats 80000000
namespace Go.Proofs.YtppekkbaoimpgaaGreat
open Go.RowKit
open Vt
theorem ExEl (a:Ex):A7 (fun w P cs=>fA w P a cs):=⟨fun _ _ _ _ cs hs hP h=>fA.step hs hP a cs h,fun _ _ _ cs hp h=>fA.mono hp a cs h⟩
def Bg (f:Nat) (l:List Tok) (i d:Nat):dV (ByteArray×List ByteArray×List Ex):=(aS l i).bind fun n j=>(aH l j [123]).bind fun _ j=>if bF l j [125]then .ok (n,[],[]) (j+1)else(l9 f l j d [] []).bind fun p j=>.ok (n,p.1,p.2) j
def Bh (n0 bt:Nat) (t:Tok) (w':World) (a:ByteArray×List ByteArray×List Ex):Prop:=∃(xa:List Value) (vn va:Value),w'.heap[bt]?=some (.cells #[ak 11,a_ a.1,cO 0,aT,va,vn,ay,ak t.line,ak t.col] 56 (0,0))∧
 a.1.size≤9223372036854775807∧(∀s∈a.2.1,s.size≤9223372036854775807)∧cu w' (fun k=>n0≤k) vn a.2.1.length (a.2.1.map .string)∧dM w' (fun k=>n0≤k) a.2.2 xa∧cu w' (fun k=>n0≤k) va a.2.2.length xa
def Po (f:Nat):Prop:=∀(R:gJ) (w:World) (i d bt:Nat) (t:Tok),oZ R.l→bI R w i d→d≤40→R.rb<bt→w.heap[bt]?=some (.cells #[ak 0,aO,cO 0,aT,ay,ay,ay,ak t.line,ak t.col] 56 (0,0))→Bg f R.l i d≠.out→
 Calls Tryz.prog 222 #[.agg #[eU R.rb 0],.pointer (some ⟨bt,0,none⟩)] w (bg R d bt (Bh w.heap.size bt t) (Bg f R.l i d) w)
structure uQ (R:gJ) (w1:World) (bt:Nat) (nm:ByteArray) (t:Tok) (d:Nat) (X:World) (i':Nat) (ns:List ByteArray) (al:List Ex) (vn va:Value) (xs:List Value):Prop where
 rd:bI R X i' d
 blk:X.heap[bt]?=some (.cells #[ak 11,a_ nm,cO 0,aT,va,vn,ay,ak t.line,ak t.col] 56 (0,0))
 on:X.ownsRow w1.heap.size 9 1 vn ns.length (ns.map .string)
 oa:X.ownsRow w1.heap.size 56 9 va al.length xs
 el:dM X (fun q=>w1.heap.size≤q∧va.ownBlock≠some q∧vn.ownBlock≠some q) al xs
 ne:∀q,vn.ownBlock=some q→va.ownBlock≠some q
 sz:∀s∈ns,s.size≤9223372036854775807
 few:ns.length≤12∧al.length≤ns.length
 st:Step (fun k=>k=R.rb∨k=bt) w1 X
theorem uQ.quiet {R:gJ} {w1:World} {bt:Nat} {nm:ByteArray} {t:Tok} {d:Nat} {X X':World} {i':Nat} {ns:List ByteArray} {al:List Ex} {vn va:Value} {xs:List Value} (h:uQ R w1 bt nm t d X i' ns al vn va xs) (hs:StF X X'):uQ R w1 bt nm t d X' i' ns al vn va xs:=
 ⟨h.rd.quiet hs,hs.keep h.blk (fun h=>h),hs.owns h.on (fun _ _ h=>h),hs.owns h.oa (fun _ _ h=>h),dM.step hs (fun _ _ h=>h) _ _ h.el,h.ne,h.sz,h.few,h.st.trans (hs.mono fe)⟩
theorem uQ.read {R:gJ} {w1:World} {bt:Nat} {nm:ByteArray} {t:Tok} {d:Nat} {X X':World} {i' i2:Nat} {ns:List ByteArray} {al:List Ex} {vn va:Value} {xs:List Value} (h:uQ R w1 bt nm t d X i' ns al vn va xs) (hrb:R.rb<bt) (hw:R.rb<w1.heap.size) (hr:bI R X' i2 d) (hs:Step (·=R.rb) X X'):uQ R w1 bt nm t d X' i2 ns al vn va xs:=
 ⟨hr,hs.keep h.blk om,hs.owns h.on oi,hs.owns h.oa oi,dM.step hs (fun _ hk h=>by have:=hk.1;omega) _ _ h.el,h.ne,h.sz,h.few,h.st.trans (hs.mono il)⟩
theorem uQ.pushN {R:gJ} {w1:World} {bt:Nat} {nm:ByteArray} {t:Tok} {d:Nat} {X X2 X3:World} {i':Nat} {ns:List ByteArray} {al:List Ex} {vn va v9:Value} {xs:List Value} {s:ByteArray} (h:uQ R w1 bt nm t d X i' ns al vn va xs) (hrb:R.rb<bt) (hbt:bt<w1.heap.size) (h2:StF X X2) (hown:X3.ownsRow w1.heap.size 9 1 v9 (ns.length+1) (ns.map .string++[.string s])) (hgrow:X2.grownBy X3 vn.ownBlock) (hat:v9.ownBlock=vn.ownBlock∨v9.ownBlock=some X2.heap.size) (hs:s.size≤9223372036854775807) (hlt:ns.length<12):uQ R w1 bt nm t d (X3.setCell ⟨bt,5,none⟩ v9) i' (ns++[s]) al v9 va xs:=by
 have h3:Step (fun q=>vn.ownBlock=some q) X2 X3:=bQ hgrow;have h4:Step (·=bt) X3 (X3.setCell ⟨bt,5,none⟩ v9):=bK.setCell _ _ iW;have ho:∀q,vn.ownBlock=some q→w1.heap.size≤q∧q<X.heap.size:=fun q hq=>h.on.lt q hq;have hlen:(ns++[s]).length=ns.length+1:=by simp
 have hb3:=h3.keep (h2.keep h.blk (fun h=>h)) (fun e=>by have:=(ho bt e).1;omega);refine⟨((h.rd.quiet h2).step h3 (fun q hq e=>by have:=(ho q e).1;omega)).step h4 oi,aW hb3 5 v9,?_,?_,?_,?_,?_,⟨by rw[hlen];omega,by rw[hlen];have:=h.few.2;omega⟩,?_⟩
 ·rw[hlen,List.map_append];exact jM hown h4 (fun q hq e=>by have:=(hown.lt q hq).1;omega)
 ·refine jM (jM (h2.owns h.oa (fun _ _ h=>h)) h3 (fun q hq e=>h.ne q e hq)) h4 (fun q hq e=>by have:=(h.oa.lt q hq).1;omega)
 ·have h5:=dM.mono (P':=fun q=>(w1.heap.size≤q∧va.ownBlock≠some q∧vn.ownBlock≠some q)∧q<X.heap.size) (fun q h7 h8=>⟨h8,h7⟩) _ _ h.el;have h6:=dM.step h4 (fun q hq e=>by have:=hq.1.1;omega) _ _ (dM.step h3 (fun q hq e=>hq.1.2.2 e) _ _ (dM.step h2 (fun _ _ h=>h) _ _ h5));refine dM.mono (fun q _ hq=>⟨hq.1.1,hq.1.2.1,fun e=> ?_⟩) _ _ h6;rcases hat with h7|h7
  ·exact hq.1.2.2 (by rw[←h7];exact e)
  ·rw[h7]at e;have e2:X2.heap.size=q:=Option.some.inj e;have:=h2.size;have:=hq.2;omega
 ·intro q hq e;rcases hat with h7|h7
  ·exact h.ne q (by rw[←h7];exact hq) e
  ·rw[h7]at hq;have e2:X2.heap.size=q:=Option.some.inj hq;have:=(h.oa.lt q e).2;have:=h2.size;omega
 ·intro x hx;rcases List.mem_append.1 hx with hx|hx
  ·exact h.sz x hx
  ·rw[List.mem_singleton.1 hx];exact hs
 ·refine((h.st.trans (h2.mono fe)).then h3 (fun q hq e=>by have:=(ho q e).1;omega)).trans (h4.mono ir)
theorem uQ.QK {R:gJ} {w1:World} {bt:Nat} {nm:ByteArray} {t:Tok} {d:Nat} {w4 X:World} {j8 j9:Nat} {ns:List ByteArray} {al:List Ex} {H8 sU:Option Addr} {H9 sV:Nat} {xs:List Value} {ex:Ex} {g9 c9:Nat} {A8:List Value} (h:uQ R w1 bt nm t d w4 j8 ns al (.slice H8 ns.length H9) (.slice sU al.length sV) xs) (hrb:R.rb<bt) (hbt:bt<w1.heap.size) (hlt:al.length<ns.length) (h1:bI R X j9 d) (h2:X.heap[bt]?=some (.cells #[ak 11,a_ nm,cO 0,aT,.slice (some ⟨g9,0,none⟩) (al.length+1) c9,.slice H8 ns.length H9,ay,ak t.line,ak t.col] 56 (0,0))) (h3:X.ownsRow w1.heap.size 56 9 (.slice (some ⟨g9,0,none⟩) (al.length+1) c9) (al.length+1) (xs++A8)) (h4:fA X (fun q=>w4.heap.size≤q∧q≠g9) ex A8) (h5:(Value.slice sU al.length sV).ownBlock=some g9∨w4.heap.size≤g9) (h6:Step (fun q=>q=R.rb∨q=bt∨(Value.slice sU al.length sV).ownBlock=some q) w4 X):uQ R w1 bt nm t d X j9 ns (al++[ex]) (.slice H8 ns.length H9) (.slice (some ⟨g9,0,none⟩) (al.length+1) c9) (xs++A8):=by
 have hol:=h.on;have hne:=h.ne;have hg9:∀q,(Value.slice H8 ns.length H9).ownBlock=some q→q≠g9:=by
  intro q hq e;subst e;rcases h5 with h5|h5
  ·exact hne q hq h5
  ·have:=(hol.lt q hq).2;omega
 have hlen:(al++[ex]).length=al.length+1:=by simp
 refine⟨h1,h2,jM hol h6 (fun q hq e=> ?_),by rw[hlen];exact h3,dM.snoc ?_ ?_,fun q hq e=> ?_,h.sz,⟨h.few.1,by rw[hlen];omega⟩,h.st.then h6 (fun q hq e=> ?_)⟩
 ·have h7:=(hol.lt q hq).1;rcases e with e|e|e
  ·omega
  ·omega
  ·exact hne q hq e
 ·refine dM.mono ?_ _ _ (dM.step h6 ?_ _ _ (dM.mono (P':=fun q=>(w1.heap.size≤q∧(Value.slice sU al.length sV).ownBlock≠some q∧(Value.slice H8 ns.length H9).ownBlock≠some q)∧q<w4.heap.size) (fun q h7 h8=>⟨h8,h7⟩) _ _ h.el))
  ·intro q _ hq;refine⟨hq.1.1,fun e=> ?_,hq.1.2.2⟩;have e2:g9=q:=Option.some.inj e;rcases h5 with h5|h5
   ·exact hq.1.2.1 (by rw[←e2];exact h5)
   ·have:=hq.2;omega
  ·intro q hq e;rcases e with e|e|e
   ·have:=hq.1.1;omega
   ·have:=hq.1.1;omega
   ·exact hq.1.2.1 e
 ·refine fA.mono (fun q _ hq=>⟨Nat.le_trans h.st.size hq.1,fun e=>hq.2 (Option.some.inj e).symm,fun e=> ?_⟩) _ _ h4;have:=(hol.lt q e).2;have:=hq.1;omega
 ·exact hg9 q hq (Option.some.inj e).symm
 ·rcases e with e|e|e
  ·exact .inl e
  ·exact .inr e
  ·have:=(h.oa.lt _ e).1;omega
theorem Tj (f:Nat) (ih:∀f',f'<f→oC f'):Po f:=by
 intro R w i d bt t hl h hd hrb hbt hno;have HL:=au hl;have IH:=au ih;obtain⟨r,hr⟩:=aN (Bg f R.l i d);have HRR:Hid (r=(aS R.l i).bind fun n j=>(aH R.l j [123]).bind fun _ j=>if bF R.l j [125]then .ok (n,[],[]) (j+1)else(l9 f R.l j d [] []).bind fun p j=>.ok (n,p.1,p.2) j):=by show _=_;rw[hr,Bg]
 rw[←hr]at hno⊢;have eX:=au hno;have MC:=aK hbt;obtain⟨w1,hw1⟩:=aN (w.alloc (.cells #[eU R.rb 0] 97));have dH:=nS hw1
 have kL:=nB hw1
 have H7:=au (dH.o.keep hbt (fun h=>h));have HW1:=au hw1;have H1:=au (h.quiet dH.o);have hn1:=aK kL.o;have cZ:Hid (∀X:World,Step (fun q=>q=R.rb∨q=bt) w1 X→X.cell? ⟨w.heap.size,0,none⟩=some (.pointer (some ⟨R.rb,0,none⟩))):=fun X hX=>aj (hX.keep kL.o om) 0 _ rfl
 obtain⟨i0,hi0,hz0,hz1,hz2⟩:=info_parts Tryz.rW;have HI:=au hi0;have HZ0:=au hz0;have HZ1:=au hz1;have HZ2:=au hz2;have p0:=cZ.o w1 bK;obtain⟨j0,hj0,hy0,hy1,hy2⟩:=info_parts Tryz.FD;have HJ:=au hj0;have HY0:=au hy0;have HY1:=au hy1;have HY2:=au hy2;clear ih hl h hno hr hw1 hbt hi0 hz0 hz1 hz2 hj0 hy0 hy1 hy2;go_enter Tryz.func222,Tryz.ntmps222;go_upto_region 1 with fail
 rw[←HW1.o];go_wp2_with fail;cases hn:aS R.l i with
 |out=>exact(iV hn).elim
 |err c ln col=>have HN:=au hn;clear hn;refine(name_any R HL.o _ i d H1.o).mono ?_;rintro e wq hp;rw[HN.o]at hp;obtain⟨rfl,sq⟩:=hp;refine⟨rfl,bg.aZ (c:=c) (ln:=ln) (col:=col) (by rw[HRR.o,HN.o];rfl) rfl ?_⟩;exact((dH.o.mono fe).trans sq).mono il
 |ok nm j=>
  have HN:=au hn;have S9:=au (fV HL.o H1.o.lt hn);clear hn;refine(name_any R HL.o _ i d H1.o).mono ?_;rintro e w2 hp;rw[HN.o]at hp;obtain⟨⟨v,rfl,rfl⟩,hr2,s2⟩:=hp;have HR2:=au hr2;have HS2:=au s2;have rM:=au (s2.keep H7.o om);have oK:Hid (r=(aH R.l j [123]).bind fun _ j=>if bF R.l j [125]then .ok (nm,[],[]) (j+1)else(l9 f R.l j d [] []).bind fun p j=>.ok (nm,p.1,p.2) j):=by show _=_;rw[HRR.o,HN.o];rfl
  have ou:=aj rM.o 0 _ rfl;have oz:=aI rM.o 0;have Hz:=aj rM.o 1 _ rfl;have H6:=aI rM.o 1;obtain⟨w3,hw3⟩:=aN ((w2.setCell ⟨bt,0,none⟩ (.int .i64 11)).setCell ⟨bt,1,none⟩ (.string nm));have fK:Hid (Step (·=bt) w2 w3):=by rw[hw3];exact((Step.refl (·=bt) _).setCell _ _ iW).setCell _ _ iW
  have MG:Hid (w3.heap[bt]?=some (.cells #[ak 11,a_ nm,cO 0,aT,ay,ay,ay,ak t.line,ak t.col] 56 (0,0))):=by rw[hw3];exact aW (aW rM.o 0 (.int .i64 11)) 1 (.string nm)
  have kK:Hid (Step (fun q=>q=R.rb∨q=bt) w1 w3):=(HS2.o.mono il).trans (fK.o.mono ir);have gu:Hid (uQ R w1 bt nm t d w3 j [] [] (.slice none 0 0) (.slice none 0 0) []):=⟨HR2.o.step fK.o oi,MG.o,World.ownsRow_nil _ _ _ _,World.ownsRow_nil _ _ _ _,by rw[dM],lu,lu,by simp,kK.o⟩;clear hr2 s2 p0;go_upto_region 2 with fail
  rw[←hw3];clear hw3 ou oz Hz H6;have p0:=cZ.o w3 kK.o;go_wp2_with fail;refine(dP R HL.o w3.heap.size ⟨#[123]⟩ _ j d (gu.o.rd.quiet (bK.alloc _)) dc (aj (aC _ _) 0 _ rfl)).mono ?_;rintro e w4 hp;have hp2:aJ R d iQ (aH R.l j [123]) _ e w4:=hp;cases hn:aH R.l j [123]with
  |out=>exact(dJ hn).elim
  |err c ln col=>rw[hn]at hp2;obtain⟨rfl,s4⟩:=hp2;refine⟨rfl,bg.aZ (c:=c) (ln:=ln) (col:=col) (by rw[oK.o,hn];rfl) rfl ?_⟩;exact((dH.o.mono fe).trans gu.o.st).trans ((((Step.refl (·=R.rb) _).alloc _).trans s4).mono il)
  |ok u j4=>
   have OU:=au hn;rw[hn]at hp2;obtain⟨⟨v,rfl,rfl⟩,hr4,s4⟩:=hp2;have fC:=au (gu.o.read hrb om hr4 (((Step.refl (·=R.rb) _).alloc _).trans s4));(have o_:Hid (r=if bF R.l j4 [125]then .ok (nm,[],[]) (j4+1)else(l9 f R.l j4 d [] []).bind fun p j=>.ok (nm,p.1,p.2) j):=by show _=_;rw[oK.o,OU.o];rfl);clear hn hr4 s4 p0 hp;have p0:=cZ.o w4 fC.o.st;go_wp2_with fail;cases hb:bF R.l j4 [125]with
   |true=>have HB:=au hb;clear hb;refine(dA R HL.o ⟨#[125]⟩ _ j4 d fC.o.rd dc HB.o).mono ?_;rintro e w5 ⟨rfl,MN,h5⟩;have mD:=au (fC.o.read hrb om MN h5);clear MN h5 p0;go_wp2_with fail;refine bodyPost_ret (results_none rfl _ _ _) rfl ?_;refine bg.dU (a:=(nm,[],[])) (j:=j4+1) (by rw[o_.o,HB.o,if_pos rfl]) rfl ⟨[],_,_,mD.o.blk,S9.o,lu,cu.nil _ _ _,by rw[dM],cu.nil _ _ _⟩ mD.o.rd ((dH.o.mono fe).trans mD.o.st)
   |false=>
    have HB:=au hb;clear hb;refine(dQ R HL.o ⟨#[125]⟩ _ j4 d fC.o.rd dc HB.o).mono ?_;rintro e w5 ⟨rfl,MN,h5⟩;have mD:=au (fC.o.read hrb om MN h5);(have y8:=au (o_.o.trans (LD HB.o)));clear MN h5 p0;go_wp2_with fail;go_loopg [] f (fun gg wr=>gg≤f∧∃(i':Nat) (ns:List ByteArray) (al:List Ex) (vn va:Value) (xs:List Value),r=((l9 gg R.l i' d ns al).bind fun p j=>.ok (nm,p.1,p.2) j)∧uQ R w1 bt nm t d wr i' ns al vn va xs);case atStart=>exact⟨Nat.le_refl _,j4,[],[],_,_,[],y8.o,mD.o⟩
    case round=>
     obtain⟨hgf,i',ns,al,vn,va,xs,hrq,hst⟩:=hrel;obtain⟨gn,rfl⟩:∃gn,gk=gn+1:=by
      cases gk with
      |zero=>exact absurd hrq (by rw[l9];exact eX.o)
      |succ gn=>exact⟨gn,rfl⟩
     (have vI:Hid (r=((eY ns.length 12 R.l i').bind fun _ i=>(aS R.l i).bind fun n j=>(aH R.l j [58]).bind fun _ j=>(bG gn R.l j d 0).bind fun x j=>if bF R.l j [44]then l9 gn R.l (j+1) d (ns++[n]) (al++[x])else(aH R.l j [125]).bind fun _ j=>.ok (ns++[n],al++[x]) j).bind fun p j=>.ok (nm,p.1,p.2) j):=by show _=_;rw[hrq,l9]);obtain⟨H8,H9,rfl⟩:=aV hst.on;obtain⟨sU,sV,rfl⟩:=aV hst.oa;have HST:=au hst;have hfew:=hst.few;have p0:=cZ.o wr hst.st;have zT:=aj hst.blk 5 _ rfl;clear hrq hst;(go_upto_region 4 with fail);go_still_tail 6,kr;change wpList _ _ _ _ _ wr.drew;obtain⟨wd,hwd⟩:=aN wr.drew;(have vZ:Hid (uQ R w1 bt nm t d wd i' ns al (.slice H8 ns.length H9) (.slice sU al.length sV) xs):=by rw[hwd];exact HST.o.quiet (bK.drew));rw[←hwd];clear hwd p0 zT;have p0:=cZ.o wd vZ.o.st;have zT:=aj vZ.o.blk 5 _ rfl;go_wp2_with fail;refine(nH R wd ns.length 12 i' d vZ.o.rd).mono ?_;rintro e w6 hp;cases hn:eY ns.length 12 R.l i' with
     |out=>exact(lH hn).elim
     |err c ln col=>rw[hn]at hp;obtain⟨rfl,s6⟩:=hp;refine⟨rfl,bg.aZ (c:=c) (ln:=ln) (col:=col) (by rw[vI.o,hn];rfl) rfl ?_⟩;exact((dH.o.mono fe).trans vZ.o.st).trans (s6.mono il)
     |ok u j6=>
      have hji:j6=i'∧ns.length<12:=by
       unfold eY at hn;split at hn
       ·cases hn
       ·cases hn;exact⟨rfl,by omega⟩
      obtain⟨rfl,hlt12⟩:=hji;have pX:=au hn;rw[hn]at hp;obtain⟨⟨v,rfl,rfl⟩,qj,s6⟩:=hp;have fG:=au (vZ.o.read hrb om qj s6);(have uD:Hid (r=((aS R.l j6).bind fun n j=>(aH R.l j [58]).bind fun _ j=>(bG gn R.l j d 0).bind fun x j=>if bF R.l j [44]then l9 gn R.l (j+1) d (ns++[n]) (al++[x])else(aH R.l j [125]).bind fun _ j=>.ok (ns++[n],al++[x]) j).bind fun p j=>.ok (nm,p.1,p.2) j):=by show _=_;rw[vI.o,pX.o];rfl);clear hn qj s6 p0 zT;have p0:=cZ.o w6 fG.o.st;have zT:=aj fG.o.blk 5 _ rfl;(go_upto_region 5 with fail);cases hn:aS R.l j6 with
      |out=>exact(iV hn).elim
      |err c ln col=>
       have HN:=au hn;(have G8:Hid (∀X,bI R X j6 d→Calls Tryz.prog 113 #[.pointer (some ⟨R.rb,0,none⟩)] X fun e w'=>e=.panicked [{v:=.iface 251 (.agg #[ak c,ak ln,ak col]),recovered:=false}]∧Step (·=R.rb) X w'):=by intro X hX;have h9:=name_any R HL.o X j6 d hX;rw[HN.o]at h9;exact h9);(have FB:Hid (∀wq:World,Step (·=R.rb) w6.drew wq→bg R d bt (Bh w.heap.size bt t) r w (.panicked [{v:=.iface 251 (.agg #[ak c,ak ln,ak col]),recovered:=false}]) wq):=by intro wq hs;refine bg.aZ (c:=c) (ln:=ln) (col:=col) (by rw[uD.o,HN.o];rfl) rfl ?_;exact((dH.o.mono fe).trans fG.o.st).trans ((((Step.refl (·=R.rb) _).drew).trans hs).mono il));clear hn;refine bP kr (ClJ R bt w.heap.size (.slice H8 ns.length H9) w6.drew) 13 rfl kr kr kr kr ?h0 ?hs ?hdone;case h0=>exact⟨rfl,rfl,gQ,gQ,gQ,gQ,gQ,gQ,gQ,gQ,gQ⟩
       case hs=>
        refine⟨?_,?_,?_,?_,?_,?_,?_,?_,?_,?_,?_,?_,?_,trivial⟩
        all_goals intro L V X a ev dG hdf hL ax hJ
        ·have hwx:=hJ.wx;subst hwx;have o1:=dG 1 rfl;change a.tmps[1]?.getD undef=.pointer (some ⟨bt,0,none⟩)at o1;go_simp;exact⟨_,rfl,{hJ with no:=by rw[aF _ dc];exact hJ.no,v0:=fun _=>rfl}⟩
        ·have hwx:=hJ.wx;subst hwx;have o1:=dG 1 rfl;change a.tmps[1]?.getD undef=.pointer (some ⟨bt,0,none⟩)at o1;go_simp;exact⟨_,rfl,{hJ with no:=by rw[aF _ dc];exact hJ.no,v1:=fun _=>rfl}⟩
        ·have hwx:=hJ.wx;subst hwx;have e28:=(ev 1 28 rfl (ax 1 rfl)).trans (hJ.v1 (ax 1 rfl));go_simp;exact⟨_,rfl,{hJ with no:=by rw[aF _ dc];exact hJ.no,v2:=fun _=>rfl}⟩
        ·have hwx:=hJ.wx;subst hwx;have e29:=(ev 2 29 rfl (ax 2 rfl)).trans (hJ.v2 (ax 2 rfl));go_simp;exact⟨_,rfl,{hJ with no:=by rw[aF _ dc];exact hJ.no,v3:=fun _=>rfl}⟩
        ·have hwx:=hJ.wx;subst hwx;have e30:=(ev 3 30 rfl (ax 3 rfl)).trans (hJ.v3 (ax 3 rfl));have q5:=aj (((Step.refl (fun _=>False) w6).drew).keep fG.o.blk (fun h=>h)) 5 _ rfl;go_simp;exact⟨_,rfl,{hJ with no:=by rw[aF _ dc];exact hJ.no,v4:=fun _=>rfl}⟩
        ·have hwx:=hJ.wx;subst hwx;have o2:=dG 2 rfl;change a.tmps[2]?.getD undef=.pointer (some ⟨w.heap.size,0,none⟩)at o2;go_simp;exact⟨_,rfl,{hJ with no:=by rw[aF _ dc];exact hJ.no,v5:=fun _=>rfl}⟩
        ·have hwx:=hJ.wx;subst hwx;have e32:=(ev 5 32 rfl (ax 5 rfl)).trans (hJ.v5 (ax 5 rfl));have q0:=cZ.o w6.drew (fG.o.st.trans (bK.drew));go_simp;exact⟨_,rfl,{hJ with no:=by rw[aF _ dc];exact hJ.no,v6:=fun _=>rfl}⟩
        ·have hwx:=hJ.wx;subst hwx;have e33:=(ev 6 33 rfl (ax 6 rfl)).trans (hJ.v6 (ax 6 rfl));go_simp;refine(G8.o _ (fG.o.rd.quiet (bK.drew))).mono ?_;rintro e wq ⟨rfl,hs⟩;exact⟨hdf,FB.o wq hs⟩
        ·have hwx:=hJ.wx;subst hwx;exact absurd hJ.no (by rw[ax 7 rfl];decide)
        ·have hwx:=hJ.wx;subst hwx;exact absurd hJ.no (by rw[ax 7 rfl];decide)
        ·have hwx:=hJ.wx;subst hwx;have e27:=(ev 0 27 rfl (ax 0 rfl)).trans (hJ.v0 (ax 0 rfl));go_simp;exact⟨_,rfl,{hJ with no:=by rw[aF _ dc];exact hJ.no,v10:=fun _=>rfl}⟩
        ·have hwx:=hJ.wx;subst hwx;have e37:=(ev 10 37 rfl (ax 10 rfl)).trans (hJ.v10 (ax 10 rfl));go_simp;exact⟨_,rfl,{hJ with no:=by rw[aF _ dc];exact hJ.no,v11:=fun _=>rfl}⟩
        ·have hwx:=hJ.wx;subst hwx;exact absurd hJ.no (by rw[ax 7 rfl];decide)
       case hdone=>intro L V X hall hJ;exact absurd hJ.no (by rw[hall 7 dc];decide)
      |ok s j7=>
       have HN:=au hn;have HSS:=au (fV HL.o fG.o.rd.lt hn);(have G8:Hid (∀X,bI R X j6 d→Calls Tryz.prog 113 #[.pointer (some ⟨R.rb,0,none⟩)] X fun e w'=>e=.returned (.string s)∧bI R w' j7 d∧Step (·=R.rb) X w'):=by intro X hX;refine(name_any R HL.o X j6 d hX).mono ?_;intro e w' hp;rw[HN.o]at hp;obtain⟨⟨v,he,hv⟩,h1,h2⟩:=hp;exact⟨by rw[he,hv],h1,h2⟩);(have Ic:Hid (r=((aH R.l j7 [58]).bind fun _ j=>(bG gn R.l j d 0).bind fun x j=>if bF R.l j [44]then l9 gn R.l (j+1) d (ns++[s]) (al++[x])else(aH R.l j [125]).bind fun _ j=>.ok (ns++[s],al++[x]) j).bind fun p j=>.ok (nm,p.1,p.2) j):=by show _=_;rw[uD.o,HN.o];rfl);clear hn;go_cut [] (fun wx=>∃v9:Value,uQ R w1 bt nm t d wx j7 (ns++[s]) al v9 (.slice sU al.length sV) xs);case first=>
        first
        |(go_region_law (first
            |(refine n_ _ rfl (w8.heap.size+1) (.tmp 31) (.tmp 35) 40 rfl w1.heap.size 9 i0 (.string ⟨#[]⟩) 1 16 Tryz.underlying40 HI.o HZ0.o HZ1.o HZ2.o rfl dc _ _ _ (by simp[Act.eval]) Vr.o _ 1 _ (by simp[Act.eval]) MK.o rfl ML.o (by unfold maxLen;omega) om Vs.o ?_;intro v9 w9 gZ gU pF;obtain⟨a9,c9,rfl⟩:=aV gZ;have lI:Hid (uQ R w1 bt nm t d (w9.setCell ⟨bt,5,none⟩ (.slice a9 (ns.length+1) c9)) j7 (ns++[s]) al (.slice a9 (ns.length+1) c9) (.slice sU al.length sV) xs):=jO.o.pushN hrb om (bK.alloc _) gZ gU pF HSS.o hlt12;have hbb:=(bQ gU).keep (aP (o':=.cells #[a_ s] 9) jO.o.blk) (fun e=>by have:=(jO.o.on.lt _ e).1;omega);have bt5':=aj hbb 5 _ rfl;have bz5':=aI hbb 5;clear hbb gZ gU pF)
            |(go_simp;go_at_call 113;refine(G8.o _ (fG.o.rd.quiet (bK.drew))).mono ?_;rintro e8 w8 ⟨rfl,vW,hs8⟩;have jO:=au ((fG.o.quiet (bK.drew)).read hrb om vW hs8);have Vr:Hid ((w8.alloc (.cells #[a_ s] 9)).ownsRow w1.heap.size 9 1 (.slice H8 ns.length H9) ns.length (ns.map .string)):=jO.o.on.alloc _;have MK:Hid (Row (w8.alloc (.cells #[a_ s] 9)) (w8.heap.size+1) (.slice (some ⟨w8.heap.size,0,none⟩) 1 1) 1 [.string s]):=Row.new (aC _ _) dc;have ML:Hid (∀u∈[Value.string s],u.oneCell'=true):=by
               show∀u∈_,_
               intro u hu
               simp at hu
               subst hu;rfl
              have Vs:Hid (w1.heap.size≤(w8.alloc (.cells #[a_ s] 9)).heap.size):=by
               show _≤_
               have:=jO.o.st.size
               simp;omega
              have bt58:=aj jO.o.blk 5 _ rfl
              have bt59:=aj (aP (o':=.cells #[a_ s] 9) jO.o.blk) 5 _ rfl
              clear vW hs8)))
        |fail
        all_goals (
         clear p0 zT
         go_wp2_with fail
         go_meet
         case rel=>exact⟨_,lI.o⟩)
       case rest=>
        obtain⟨v9,hls⟩:=hcut;obtain⟨w9,rfl⟩:=aN wc;obtain⟨JS,hns8⟩:∃q,q=ns++[s]:=⟨_,rfl⟩;rw[←hns8]at hls Ic;have iR:=au hls;(have HLT8:Hid (al.length<JS.length):=by show _<_;rw[hns8];simp;omega);clear hls p0 zT hns8;have p0:=cZ.o w9 iR.o.st;go_wp2_with fail;refine(dP R HL.o w9.heap.size ⟨#[58]⟩ _ j7 d (iR.o.rd.quiet (bK.alloc _)) dc (aj (aC _ _) 0 _ rfl)).mono ?_;rintro e wa hp;have hp2:aJ R d iQ (aH R.l j7 [58]) _ e wa:=hp;cases hn:aH R.l j7 [58]with
        |out=>exact(dJ hn).elim
        |err c ln col=>rw[hn]at hp2;obtain⟨rfl,sa⟩:=hp2;refine⟨rfl,bg.aZ (c:=c) (ln:=ln) (col:=col) (by rw[Ic.o,hn];rfl) rfl ?_⟩;exact((dH.o.mono fe).trans iR.o.st).trans ((((Step.refl (·=R.rb) _).alloc _).trans sa).mono il)
        |ok u j8=>
         have VL:=au hn;rw[hn]at hp2;obtain⟨⟨v,rfl,rfl⟩,hra,sa⟩:=hp2;obtain⟨a8,c8,rfl⟩:=aV iR.o.on;have jB:=au (iR.o.read hrb om hra (((Step.refl (·=R.rb) _).alloc _).trans sa));(have mP:Hid (r=((bG gn R.l j8 d 0).bind fun x j=>if bF R.l j [44]then l9 gn R.l (j+1) d JS (al++[x])else(aH R.l j [125]).bind fun _ j=>.ok (JS,al++[x]) j).bind fun p j=>.ok (nm,p.1,p.2) j):=by show _=_;rw[Ic.o,VL.o];rfl);clear hn hra sa p0 hp;obtain⟨w4,rfl⟩:=aN wa;have Ef:Hid (∀X:World,Step (fun q=>q=R.rb∨q=bt∨(Value.slice sU al.length sV).ownBlock=some q) w4 X→X.cell? ⟨w.heap.size,0,none⟩=some (.pointer (some ⟨R.rb,0,none⟩))):=by
          show∀X,_;intro X hX;refine hX.cell (cZ.o w4 jB.o.st) (fun e=> ?_);have e2:w.heap.size=R.rb∨w.heap.size=bt∨(Value.slice sU al.length sV).ownBlock=some w.heap.size:=e;rcases e2 with e2|e2|e2
          ·omega
          ·omega
          ·have:=(jB.o.oa.lt _ e2).1;omega
         have Ak:Hid (al.length<JS.length):=HLT8;(have hal12:al.length≤12:=by have:=jB.o.few;omega);have HO:Hid (zA R w4 5 7 8 9 10 13 bt w1.heap.size 9 al.length (.slice sU al.length sV) xs [Value.int .i64 0,di,cO 0,aT,ay,ay,ay,ak 0,ak 0]):=
          ⟨by decide,by decide,by decide,by decide,by decide,by decide,by decide,by decide,by decide,hrb,by omega,jB.o.st.size,fun q hq=>jB.o.oa.lt q hq,jB.o.el.len,rfl⟩
         (have Vu:Hid (∀u∈[Value.int .i64 0,di,cO 0,aT,ay,ay,ay,ak 0,ak 0],u.oneCell'=true):=by intro u hu;simp at hu;rcases hu with rfl|rfl|rfl|rfl|rfl|rfl|rfl|rfl|rfl<;>rfl);(go_upto_region 7 with fail);cases hx:bG gn R.l j8 d 0 with
         |out=>exact absurd (by rw[mP.o,hx];rfl) eX.o
         |err c ln col=>
          have HX:=au hx;clear hx;obtain⟨ex,-⟩:∃ex:Ex,ex=dm 0 bZ 0 false [] [] [] QC:=⟨_,rfl⟩;obtain⟨j9,-⟩:∃j9,j9=j8:=⟨_,rfl⟩;have HE:Hid (A7 (fun w P cs=>fA w P ex cs)):=ExEl ex;have xO:Hid (∀V,jR R j8 j9 d w4 5 7 8 9 10 13 bt (fun v=>.cells #[ak 11,a_ nm,cO 0,aT,v,.slice a8 JS.length c8,ay,ak t.line,ak t.col] 56 (0,0)) w1.heap.size 56 9 al.length (.slice sU al.length sV) xs [Value.int .i64 0,di,cO 0,aT,ay,ay,ay,ak 0,ak 0] (fun w P cs=>fA w P ex cs) [some (.pointer (some ⟨bt,0,none⟩)),some (.pointer (some ⟨bt,0,none⟩)),some (.pointer (some ⟨bt,4,none⟩)),some (.slice sU al.length sV),some (.agg #[eU R.rb 0]),none,some (.int .i64 (al.length:Int)),none,none,none,none,some (.pointer (some ⟨bt,0,none⟩)),some (.pointer (some ⟨bt,4,none⟩)),none] (fun _=>false) V w4.drew):=fun V=>jR.zero (bK.drew) jB.o.rd jB.o.oa jB.o.blk;(have xP:Hid (∀X,bI R X j8 d→Calls Tryz.prog 77 #[.agg #[eU R.rb 0]] X fun e wq=>e=.panicked [{v:=.iface 251 (.agg #[ak c,ak ln,ak col]),recovered:=false}]∧Step (·=R.rb) X wq):=by intro X hX;have h9:=nJ gn (IH.o gn om) R X j8 d HL.o hX hd (by rw[HX.o];intro h;cases h);rw[HX.o]at h9;exact h9);have FB:Hid (∀X wq:World,Step (fun q=>q=R.rb∨q=bt∨(Value.slice sU al.length sV).ownBlock=some q) w4 X→Step (·=R.rb) X wq→bg R d bt (Bh w.heap.size bt t) r w (.panicked [{v:=.iface 251 (.agg #[ak c,ak ln,ak col]),recovered:=false}]) wq):=by
           show∀X wq,_;intro X wq h1 h2;refine bg.aZ (c:=c) (ln:=ln) (col:=col) (by rw[mP.o,HX.o];rfl) rfl (((dH.o.mono fe).trans jB.o.st).then (h1.trans (h2.mono il)) (fun q hq e=> ?_));rcases e with e|e|e
           ·exact .inl e
           ·exact .inr e
           ·have:=(jB.o.oa.lt _ e).1;have:=dH.o.size;omega
          refine bP kr (fun L V X=>jR R j8 j9 d w4 5 7 8 9 10 13 bt (fun v=>.cells #[ak 11,a_ nm,cO 0,aT,v,.slice a8 JS.length c8,ay,ak t.line,ak t.col] 56 (0,0)) w1.heap.size 56 9 al.length (.slice sU al.length sV) xs [Value.int .i64 0,di,cO 0,aT,ay,ay,ay,ak 0,ak 0] (fun w P cs=>fA w P ex cs) [some (.pointer (some ⟨bt,0,none⟩)),some (.pointer (some ⟨bt,0,none⟩)),some (.pointer (some ⟨bt,4,none⟩)),some (.slice sU al.length sV),some (.agg #[eU R.rb 0]),none,some (.int .i64 (al.length:Int)),none,none,none,none,some (.pointer (some ⟨bt,0,none⟩)),some (.pointer (some ⟨bt,4,none⟩)),none] L V X∧L 5=false) 14 rfl kr kr kr kr ?h0 ?hs ?hdone;case h0=>exact⟨xO.o _,rfl⟩
          case hs=>
           refine⟨?_,?_,?_,?_,?_,?_,?_,?_,?_,?_,?_,?_,?_,?_,trivial⟩
           all_goals intro L V X a ev dG hdf hL ax hJ
           ·have o1:=dG 1 rfl;change a.tmps[1]?.getD undef=.pointer (some ⟨bt,0,none⟩)at o1;go_simp;exact⟨_,rfl,⟨hJ.1.up 0 dc dc dc dc dc dc rfl,by rw[aF _ dc];exact hJ.2⟩⟩
           ·have e43:=(ev 0 43 rfl (ax 0 rfl)).trans (hJ.1.iK 0 _ rfl (ax 0 rfl));go_simp;exact⟨_,rfl,⟨hJ.1.up 1 dc dc dc dc dc dc rfl,by rw[aF _ dc];exact hJ.2⟩⟩
           ·have e44:=(ev 1 44 rfl (ax 1 rfl)).trans (hJ.1.iK 1 _ rfl (ax 1 rfl));go_simp;exact⟨_,rfl,⟨hJ.1.up 2 dc dc dc dc dc dc rfl,by rw[aF _ dc];exact hJ.2⟩⟩
           ·have e45:=(ev 2 45 rfl (ax 2 rfl)).trans (hJ.1.iK 2 _ rfl (ax 2 rfl));have hZ:=(hJ.1.JJ (hJ.1.Vo dc hL)).1;have hb:=hJ.1.blk;rw[hZ,if_neg dc]at hb;have q4:X.cell? ⟨bt,4,none⟩=some (.slice sU al.length sV):=aj hb 4 _ rfl;go_simp;exact⟨_,rfl,⟨hJ.1.up 3 dc dc dc dc dc dc rfl,by rw[aF _ dc];exact hJ.2⟩⟩
           ·have o2:=dG 2 rfl;change a.tmps[2]?.getD undef=.pointer (some ⟨w.heap.size,0,none⟩)at o2;have p0:=Ef.o X hJ.1.st;go_simp;exact⟨_,rfl,⟨hJ.1.up 4 dc dc dc dc dc dc rfl,by rw[aF _ dc];exact hJ.2⟩⟩
           ·have e47:=(ev 4 47 rfl (ax 4 rfl)).trans (hJ.1.iK 4 _ rfl (ax 4 rfl));have hrd:=hJ.1.rd;rw[hL,if_neg dc]at hrd;go_simp;refine(xP.o X hrd).mono ?_;rintro e wq ⟨rfl,hs⟩;exact⟨hdf,FB.o X wq hJ.1.st hs⟩
           ·have e46:=(ev 3 46 rfl (ax 3 rfl)).trans (hJ.1.iK 3 _ rfl (ax 3 rfl));go_simp;exact⟨_,rfl,⟨hJ.1.up 6 dc dc dc dc dc dc rfl,by rw[aF _ dc];exact hJ.2⟩⟩
           ·have hu:=hJ.1.build HE.o HO.o hL rfl;go_simp;exact⟨_,rfl,⟨hu,by rw[aF _ dc];exact hJ.2⟩⟩
           ·have e46:=(ev 3 46 rfl (ax 3 rfl)).trans (hJ.1.iK 3 _ rfl (ax 3 rfl));exact absurd hJ.2 (by rw[ax 5 rfl];decide)
           ·have e49:=(ev 6 49 rfl (ax 6 rfl)).trans (hJ.1.iK 6 _ rfl (ax 6 rfl));exact absurd hJ.2 (by rw[ax 5 rfl];decide)
           ·exact absurd hJ.2 (by rw[ax 5 rfl];decide)
           ·have e43:=(ev 0 43 rfl (ax 0 rfl)).trans (hJ.1.iK 0 _ rfl (ax 0 rfl));go_simp;exact⟨_,rfl,⟨hJ.1.up 11 dc dc dc dc dc dc rfl,by rw[aF _ dc];exact hJ.2⟩⟩
           ·have e53:=(ev 11 53 rfl (ax 11 rfl)).trans (hJ.1.iK 11 _ rfl (ax 11 rfl));go_simp;exact⟨_,rfl,⟨hJ.1.up 12 dc dc dc dc dc dc rfl,by rw[aF _ dc];exact hJ.2⟩⟩
           ·have e54:=(ev 12 54 rfl (ax 12 rfl)).trans (hJ.1.iK 12 _ rfl (ax 12 rfl));exact absurd hJ.2 (by rw[ax 5 rfl];decide)
          case hdone=>intro L V X hall hJ;exact absurd hJ.2 (by rw[hall 5 dc];decide)
         |ok ex j9=>
          have HX:=au hx;clear hx;have HE:Hid (A7 (fun w P cs=>fA w P ex cs)):=ExEl ex;have xO:Hid (∀V,jR R j8 j9 d w4 5 7 8 9 10 13 bt (fun v=>.cells #[ak 11,a_ nm,cO 0,aT,v,.slice a8 JS.length c8,ay,ak t.line,ak t.col] 56 (0,0)) w1.heap.size 56 9 al.length (.slice sU al.length sV) xs [Value.int .i64 0,di,cO 0,aT,ay,ay,ay,ak 0,ak 0] (fun w P cs=>fA w P ex cs) [some (.pointer (some ⟨bt,0,none⟩)),some (.pointer (some ⟨bt,0,none⟩)),some (.pointer (some ⟨bt,4,none⟩)),some (.slice sU al.length sV),some (.agg #[eU R.rb 0]),none,some (.int .i64 (al.length:Int)),none,none,none,none,some (.pointer (some ⟨bt,0,none⟩)),some (.pointer (some ⟨bt,4,none⟩)),none] (fun _=>false) V w4.drew):=fun V=>jR.zero (bK.drew) jB.o.rd jB.o.oa jB.o.blk;(have xP:Hid (∀X,bI R X j8 d→Calls Tryz.prog 77 #[.agg #[eU R.rb 0]] X fun e wq=>(∃v,e=.returned v∧∃cs:List Value,v=.agg cs.toArray∧fA wq (fun q=>X.heap.size≤q) ex cs)∧bI R wq j9 d∧Step (·=R.rb) X wq):=by intro X hX;have h9:=nJ gn (IH.o gn om) R X j8 d HL.o hX hd (by rw[HX.o];intro h;cases h);rw[HX.o]at h9;exact h9);have HRG:Hid (r=(if bF R.l j9 [44]then l9 gn R.l (j9+1) d JS (al++[ex])else(aH R.l j9 [125]).bind fun _ j=>.ok (JS,al++[ex]) j).bind fun p j=>.ok (nm,p.1,p.2) j):=by show _=_;rw[mP.o,HX.o];rfl
          have lI:Hid (∀(g9 c9:Nat) (A8:List Value) (X:World),bI R X j9 d→X.heap[bt]?=some (.cells #[ak 11,a_ nm,cO 0,aT,.slice (some ⟨g9,0,none⟩) (al.length+1) c9,.slice a8 JS.length c8,ay,ak t.line,ak t.col] 56 (0,0))→X.ownsRow w1.heap.size 56 9 (.slice (some ⟨g9,0,none⟩) (al.length+1) c9) (al.length+1) (xs++A8)→fA X (fun q=>w4.heap.size≤q∧q≠g9) ex A8→((Value.slice sU al.length sV).ownBlock=some g9∨w4.heap.size≤g9)→Step (fun q=>q=R.rb∨q=bt∨(Value.slice sU al.length sV).ownBlock=some q) w4 X→
            uQ R w1 bt nm t d X j9 JS (al++[ex]) (.slice a8 JS.length c8) (.slice (some ⟨g9,0,none⟩) (al.length+1) c9) (xs++A8)):=by
           show∀g9 c9 A8 X,_
           intro g9 c9 A8 X h1 h2 h3 h4 h5 h6
           exact jB.o.QK hrb om Ak.o h1 h2 h3 h4 h5 h6
          go_cut [] (fun wx=>∃(OY:Value) (Oy:List Value),uQ R w1 bt nm t d wx j9 JS (al++[ex]) (.slice a8 JS.length c8) OY Oy);case first=>
           refine bP kr (jR R j8 j9 d w4 5 7 8 9 10 13 bt (fun v=>.cells #[ak 11,a_ nm,cO 0,aT,v,.slice a8 JS.length c8,ay,ak t.line,ak t.col] 56 (0,0)) w1.heap.size 56 9 al.length (.slice sU al.length sV) xs [Value.int .i64 0,di,cO 0,aT,ay,ay,ay,ak 0,ak 0] (fun w P cs=>fA w P ex cs) [some (.pointer (some ⟨bt,0,none⟩)),some (.pointer (some ⟨bt,0,none⟩)),some (.pointer (some ⟨bt,4,none⟩)),some (.slice sU al.length sV),some (.agg #[eU R.rb 0]),none,some (.int .i64 (al.length:Int)),none,none,none,none,some (.pointer (some ⟨bt,0,none⟩)),some (.pointer (some ⟨bt,4,none⟩)),none]) 14 rfl kr kr kr kr ?h0 ?hs ?hdone;case h0=>exact xO.o _
           case hs=>
            refine⟨?_,?_,?_,?_,?_,?_,?_,?_,?_,?_,?_,?_,?_,?_,trivial⟩
            all_goals intro L V X a ev dG hdf hL ax hJ
            ·have o1:=dG 1 rfl;change a.tmps[1]?.getD undef=.pointer (some ⟨bt,0,none⟩)at o1;go_simp;exact⟨_,rfl,hJ.up 0 dc dc dc dc dc dc rfl⟩
            ·have e43:=(ev 0 43 rfl (ax 0 rfl)).trans (hJ.iK 0 _ rfl (ax 0 rfl));go_simp;exact⟨_,rfl,hJ.up 1 dc dc dc dc dc dc rfl⟩
            ·have e44:=(ev 1 44 rfl (ax 1 rfl)).trans (hJ.iK 1 _ rfl (ax 1 rfl));go_simp;exact⟨_,rfl,hJ.up 2 dc dc dc dc dc dc rfl⟩
            ·have e45:=(ev 2 45 rfl (ax 2 rfl)).trans (hJ.iK 2 _ rfl (ax 2 rfl));have hZ:=(hJ.JJ (hJ.Vo dc hL)).1;have hb:=hJ.blk;rw[hZ,if_neg dc]at hb;have q4:X.cell? ⟨bt,4,none⟩=some (.slice sU al.length sV):=aj hb 4 _ rfl;go_simp;exact⟨_,rfl,hJ.up 3 dc dc dc dc dc dc rfl⟩
            ·have o2:=dG 2 rfl;change a.tmps[2]?.getD undef=.pointer (some ⟨w.heap.size,0,none⟩)at o2;have p0:=Ef.o X hJ.st;go_simp;exact⟨_,rfl,hJ.up 4 dc dc dc dc dc dc rfl⟩
            ·have e47:=(ev 4 47 rfl (ax 4 rfl)).trans (hJ.iK 4 _ rfl (ax 4 rfl));have hrd:=hJ.rd;rw[hL,if_neg dc]at hrd;go_simp;refine(xP.o X hrd).mono ?_;rintro e wq ⟨⟨v,rfl,cs,rfl,hty⟩,hr,hs⟩;exact⟨_,rfl,hJ.call HE.o HO.o hL rfl hs hr hty⟩
            ·have e46:=(ev 3 46 rfl (ax 3 rfl)).trans (hJ.iK 3 _ rfl (ax 3 rfl));go_simp;exact⟨_,rfl,hJ.up 6 dc dc dc dc dc dc rfl⟩
            ·have hu:=hJ.build HE.o HO.o hL rfl;go_simp;exact⟨_,rfl,hu⟩
            ·have e46:=(ev 3 46 rfl (ax 3 rfl)).trans (hJ.iK 3 _ rfl (ax 3 rfl));have e50:=ev 7 50 rfl (ax 7 rfl);obtain⟨zb,z1,z2,z3⟩:=hJ.bl (ax 7 rfl) hL;have hall:∀i,i<8→L i=true:=by
              intro i hi;rcases(show i=0∨i=1∨i=2∨i=3∨i=4∨i=5∨i=6∨i=7 by omega)with rfl|rfl|rfl|rfl|rfl|rfl|rfl|rfl
              ·exact ax 0 rfl
              ·exact ax 1 rfl
              ·exact ax 2 rfl
              ·exact ax 3 rfl
              ·exact ax 4 rfl
              ·exact ax 5 rfl
              ·exact ax 6 rfl
              ·exact ax 7 rfl
             refine f_ _ X.heap.size (.tmp 46) (.tmp 50) 54 rfl w1.heap.size 56 j0 (.agg #[ak 0,di,cO 0,aT,ay,ay,ay,ak 0,ak 0]) 9 128 Tryz.underlying54 HJ.o HY0.o HY1.o HY2.o rfl dc _ _ _ (by rw[bM];exact e46) (hJ.old hL) (V 7) 1 _ (by rw[bM];exact e50) (by rw[z1];exact(Row.new z3 dc).mono (aK z3)) rfl Vu.o (by unfold maxLen;omega) om (Nat.le_trans HO.o.bw hJ.st.size) ?_;intro v8 w8 qU ni C9;exact⟨v8,rfl,hJ.app HE.o HO.o hL hall rfl qU ni C9⟩
            ·have e49:=(ev 6 49 rfl (ax 6 rfl)).trans (hJ.iK 6 _ rfl (ax 6 rfl));have e51:=ev 8 51 rfl (ax 8 rfl);obtain⟨g,c,hV,-⟩:=hJ.new (ax 8 rfl);rw[hV]at e51;(have hi0:(0:Int)≤(al.length:Int):=by omega);(have hi1:(al.length:Int)<((al.length+1:Nat):Int):=by omega);(have hi2:(al.length:Int)<(al.length:Int)+1:=by omega);have hu:=hJ.index HO.o (ax 8 rfl) rfl hV;go_simp;exact⟨_,rfl,hu⟩
            ·have h8:=ax 8 rfl;have h9:=ax 9 rfl;have h5:=ax 5 rfl;obtain⟨g,c,hV,-,ys,hown,-⟩:=hJ.new h8;have ep:=(ev 9 52 rfl h9).trans ((hJ.ix h9).2 g c hV);obtain⟨cs,c1,c2⟩:=hJ.el h5;have ec:=(ev 5 48 rfl h5).trans c1;rw[hV]at hown;obtain⟨g',c',cur,hg',-,hcur,hsz⟩:=vY hown om;cases hg';have hcl:cs.length=9:=fA.len c2;refine eH 56 (.tmp 52) (.tmp 48) rfl g (al.length*9) 56 cur cs (by rw[bM];exact ep) (by rw[bM];exact ec) hcur (by rw[hcl];exact Tryz.bf) om (fA.one c2) ?_;intro w6 hb6 hs6;exact⟨undef,rfl,hJ.put HE.o HO.o h8 (fun u hu=>by cases hu) hV c1 hcl hcur hb6 hs6⟩
            ·have e43:=(ev 0 43 rfl (ax 0 rfl)).trans (hJ.iK 0 _ rfl (ax 0 rfl));go_simp;exact⟨_,rfl,hJ.up 11 dc dc dc dc dc dc rfl⟩
            ·have e53:=(ev 11 53 rfl (ax 11 rfl)).trans (hJ.iK 11 _ rfl (ax 11 rfl));go_simp;exact⟨_,rfl,hJ.up 12 dc dc dc dc dc dc rfl⟩
            ·have e54:=(ev 12 54 rfl (ax 12 rfl)).trans (hJ.iK 12 _ rfl (ax 12 rfl));have h8:=ax 8 rfl;have ev8:=ev 8 51 rfl h8;obtain⟨g,c,hV,-⟩:=hJ.new h8;rw[hV]at ev8;have hb:=hJ.blk;rw[hL,if_neg dc]at hb;have q5:=aj hb 4 _ rfl;have z5:=aI hb 4;have hu:=hJ.last (X':=X.setCell ⟨bt,4,none⟩ (.slice (some ⟨g,0,none⟩) (al.length+1) c)) HE.o HO.o h8 (fun u hu=>by cases hu) (by rw[hV];exact aW hb 4 _) (bK.setCell _ _ iW);go_simp;exact⟨undef,hu⟩
           case hdone=>intro L V X hall hJ;obtain⟨g9,c9,A8,SE,SG,gZ,SH,SI,yZ,hgb9⟩:=hJ.done ⟨hall 5 dc,hall 8 dc,hall 10 dc,hall 13 dc⟩;rw[rgQ14];simp only[kJ,fO,gsQ,o9];clear hJ hall;have HEND9:=au (lI.o g9 c9 A8 X SE SG gZ SH SI yZ);go_wp2_with fail;go_meet;case rel=>exact⟨_,_,HEND9.o⟩
          case rest=>
           obtain⟨OY,Oy,hls⟩:=hcut;obtain⟨w5,rfl⟩:=aN wc;have mD:=au hls;clear hls;have p0:=cZ.o w5 mD.o.st;go_wp2_with fail;cases hc:bF R.l j9 [44]with
           |true=>
            have HC:=au hc;clear hc;refine(dA R HL.o ⟨#[44]⟩ _ j9 d mD.o.rd dc HC.o).mono ?_;rintro e wa ⟨rfl,hra,sa⟩;have uq:=au (mD.o.read hrb om hra sa);(have HRI:=au (bpQ HRG.o HC.o));clear hra sa p0;go_wp2_with fail;go_roundg gn;case rel=>exact⟨by omega,j9+1,JS,al++[ex],_,OY,Oy,HRI.o,uq.o⟩
            case measure=>omega
           |false=>
            have HC:=au hc;clear hc;refine(dQ R HL.o ⟨#[44]⟩ _ j9 d mD.o.rd dc HC.o).mono ?_;rintro e wa ⟨rfl,hra,sa⟩;have uq:=au (mD.o.read hrb om hra sa);(have HRI:=au (bmQ HRG.o HC.o));clear hra sa p0;have p0:=cZ.o wa uq.o.st;go_wp2_with fail;refine(dP R HL.o wa.heap.size ⟨#[125]⟩ _ j9 d (uq.o.rd.quiet (bK.alloc _)) dc (aj (aC _ _) 0 _ rfl)).mono ?_;rintro e wb hp;have hp2:aJ R d iQ (aH R.l j9 [125]) _ e wb:=hp;cases hn:aH R.l j9 [125]with
            |out=>exact(dJ hn).elim
            |err c ln col=>rw[hn]at hp2;obtain⟨rfl,sb⟩:=hp2;refine⟨rfl,bg.aZ (c:=c) (ln:=ln) (col:=col) (by rw[HRI.o,hn];rfl) rfl ?_⟩;exact((dH.o.mono fe).trans uq.o.st).trans ((((Step.refl (·=R.rb) _).alloc _).trans sb).mono il)
            |ok u2 jz=>have HNC:=au hn;rw[hn]at hp2;obtain⟨⟨v,rfl,rfl⟩,wu,sb⟩:=hp2;have JU:=au (uq.o.read hrb om wu (((Step.refl (·=R.rb) _).alloc _).trans sb));clear hn wu sb p0 hp;have hs1:=dH.o.size;go_wp2_with fail;refine bodyPost_end (results_none rfl _ _ _) rfl ?_;refine bg.dU (a:=(nm,JS,al++[ex])) (j:=jz) (by rw[HRI.o,HNC.o];rfl) rfl ⟨Oy,_,OY,JU.o.blk,S9.o,JU.o.sz,cu.eu JU.o.on (fun q hq=>by have:=(JU.o.on.lt q hq).1;omega),dM.mono (fun q _ hq=>by have:=hq.1;omega) _ _ JU.o.el,cu.eu JU.o.oa (fun q hq=>by have:=(JU.o.oa.lt q hq).1;omega)⟩ JU.o.rd ((dH.o.mono fe).trans JU.o.st)
end Go.Proofs.YtppekkbaoimpgaaGreat
