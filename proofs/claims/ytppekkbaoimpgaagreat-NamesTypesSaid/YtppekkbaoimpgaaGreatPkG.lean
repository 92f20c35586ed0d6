/- Mad -/
import Derived.Test.YtppekkbaoimpgaaGreatPkF
set_option maxRecDepth 100000
set_option maxHeartbeats 8000000
namespace Go.Proofs.YtppekkbaoimpgaaGreat
open Go.RowKit
open Vt
theorem ExEl (a:Ex):yP (fun w P cs=>dW w P a cs):=⟨fun _ _ _ _ cs hs hP h=>dW.step hs hP a cs h,fun _ _ _ cs hp h=>dW.mono hp a cs h⟩
def yX (f:Nat) (l:List Tok) (i d:Nat):dO (ByteArray×List ByteArray×List Ex):=(aS l i).bind fun n j=>(aH l j [123]).bind fun _ j=>if bD l j [125]then .ok (n,[],[]) (j+1)else(lQ f l j d [] []).bind fun p j=>.ok (n,p.1,p.2) j
def yY (n0 bt:Nat) (t:Tok) (w':World) (a:ByteArray×List ByteArray×List Ex):Prop:=∃(xa:List Value) (vn va:Value),w'.heap[bt]?=some (.cells #[ah 11,aY a.1,bK 0,aO,va,vn,au,ah t.line,ah t.col] 56 (0,0))∧
 a.1.size≤9223372036854775807∧(∀s∈a.2.1,s.size≤9223372036854775807)∧di w' (fun k=>n0≤k) vn a.2.1.length (a.2.1.map .string)∧dG w' (fun k=>n0≤k) a.2.2 xa∧di w' (fun k=>n0≤k) va a.2.2.length xa
def Le (f:Nat):Prop:=∀(R:fV) (w:World) (i d bt:Nat) (t:Tok),nK R.l→bC R w i d→d≤40→R.rb<bt→w.heap[bt]?=some (.cells #[ah 0,aK,bK 0,aO,au,au,au,ah t.line,ah t.col] 56 (0,0))→yX f R.l i d≠.out→
 Calls Tryz.prog 222 #[.agg #[dY R.rb 0],.pointer (some ⟨bt,0,none⟩)] w (aZ R d bt (yY w.heap.size bt t) (yX f R.l i d) w)
structure su (R:fV) (w1:World) (bt:Nat) (nm:ByteArray) (t:Tok) (d:Nat) (X:World) (i':Nat) (ns:List ByteArray) (al:List Ex) (vn va:Value) (xs:List Value):Prop where
 rd:bC R X i' d
 blk:X.heap[bt]?=some (.cells #[ah 11,aY nm,bK 0,aO,va,vn,au,ah t.line,ah t.col] 56 (0,0))
 on:X.ownsRow w1.heap.size 9 1 vn ns.length (ns.map .string)
 oa:X.ownsRow w1.heap.size 56 9 va al.length xs
 el:dG X (fun q=>w1.heap.size≤q∧va.ownBlock≠some q∧vn.ownBlock≠some q) al xs
 ne:∀q,vn.ownBlock=some q→va.ownBlock≠some q
 sz:∀s∈ns,s.size≤9223372036854775807
 few:ns.length≤12∧al.length≤ns.length
 st:Step (fun k=>k=R.rb∨k=bt) w1 X
theorem su.quiet {R:fV} {w1:World} {bt:Nat} {nm:ByteArray} {t:Tok} {d:Nat} {X X':World} {i':Nat} {ns:List ByteArray} {al:List Ex} {vn va:Value} {xs:List Value} (h:su R w1 bt nm t d X i' ns al vn va xs) (hs:Step (fun _=>False) X X'):su R w1 bt nm t d X' i' ns al vn va xs:=
 ⟨h.rd.quiet hs,hs.keep h.blk (fun h=>h),hs.owns h.on (fun _ _ h=>h),hs.owns h.oa (fun _ _ h=>h),dG.step hs (fun _ _ h=>h) _ _ h.el,h.ne,h.sz,h.few,h.st.trans (hs.mono fe)⟩
theorem su.read {R:fV} {w1:World} {bt:Nat} {nm:ByteArray} {t:Tok} {d:Nat} {X X':World} {i' i2:Nat} {ns:List ByteArray} {al:List Ex} {vn va:Value} {xs:List Value} (h:su R w1 bt nm t d X i' ns al vn va xs) (hrb:R.rb<bt) (hw:R.rb<w1.heap.size) (hr:bC R X' i2 d) (hs:Step (·=R.rb) X X'):su R w1 bt nm t d X' i2 ns al vn va xs:=
 ⟨hr,hs.keep h.blk om,hs.owns h.on oi,hs.owns h.oa oi,dG.step hs (fun _ hk h=>by have:=hk.1;omega) _ _ h.el,h.ne,h.sz,h.few,h.st.trans (hs.mono il)⟩
theorem su.pushN {R:fV} {w1:World} {bt:Nat} {nm:ByteArray} {t:Tok} {d:Nat} {X X2 X3:World} {i':Nat} {ns:List ByteArray} {al:List Ex} {vn va v9:Value} {xs:List Value} {s:ByteArray} (h:su R w1 bt nm t d X i' ns al vn va xs) (hrb:R.rb<bt) (hbt:bt<w1.heap.size) (h2:Step (fun _=>False) X X2) (hown:X3.ownsRow w1.heap.size 9 1 v9 (ns.length+1) (ns.map .string++[.string s])) (hgrow:X2.grownBy X3 vn.ownBlock) (hat:v9.ownBlock=vn.ownBlock∨v9.ownBlock=some X2.heap.size) (hs:s.size≤9223372036854775807) (hlt:ns.length<12):su R w1 bt nm t d (X3.setCell ⟨bt,5,none⟩ v9) i' (ns++[s]) al v9 va xs:=by
 have h3:Step (fun q=>vn.ownBlock=some q) X2 X3:=bM hgrow;have h4:Step (·=bt) X3 (X3.setCell ⟨bt,5,none⟩ v9):=bJ.setCell _ _ iI;have ho:∀q,vn.ownBlock=some q→w1.heap.size≤q∧q<X.heap.size:=fun q hq=>h.on.lt q hq;have hlen:(ns++[s]).length=ns.length+1:=by simp
 have hb3:=h3.keep (h2.keep h.blk (fun h=>h)) (fun e=>by have:=(ho bt e).1;omega);refine⟨((h.rd.quiet h2).step h3 (fun q hq e=>by have:=(ho q e).1;omega)).step h4 oi,aV hb3 5 v9,?_,?_,?_,?_,?_,⟨by rw[hlen];omega,by rw[hlen];have:=h.few.2;omega⟩,?_⟩
 ·rw[hlen,List.map_append];exact ji hown h4 (fun q hq e=>by have:=(hown.lt q hq).1;omega)
 ·refine ji (ji (h2.owns h.oa (fun _ _ h=>h)) h3 (fun q hq e=>h.ne q e hq)) h4 (fun q hq e=>by have:=(h.oa.lt q hq).1;omega)
 ·have h5:=dG.mono (P':=fun q=>(w1.heap.size≤q∧va.ownBlock≠some q∧vn.ownBlock≠some q)∧q<X.heap.size) (fun q h7 h8=>⟨h8,h7⟩) _ _ h.el;have h6:=dG.step h4 (fun q hq e=>by have:=hq.1.1;omega) _ _ (dG.step h3 (fun q hq e=>hq.1.2.2 e) _ _ (dG.step h2 (fun _ _ h=>h) _ _ h5));refine dG.mono (fun q _ hq=>⟨hq.1.1,hq.1.2.1,fun e=> ?_⟩) _ _ h6;rcases hat with h7|h7
  ·exact hq.1.2.2 (by rw[←h7];exact e)
  ·rw[h7]at e;have e2:X2.heap.size=q:=Option.some.inj e;have:=h2.size;have:=hq.2;omega
 ·intro q hq e;rcases hat with h7|h7
  ·exact h.ne q (by rw[←h7];exact hq) e
  ·rw[h7]at hq;have e2:X2.heap.size=q:=Option.some.inj hq;have:=(h.oa.lt q e).2;have:=h2.size;omega
 ·intro x hx;rcases List.mem_append.1 hx with hx|hx
  ·exact h.sz x hx
  ·rw[List.mem_singleton.1 hx];exact hs
 ·refine((h.st.trans (h2.mono fe)).then h3 (fun q hq e=>by have:=(ho q e).1;omega)).trans (h4.mono ir)
theorem su.Nh {R:fV} {w1:World} {bt:Nat} {nm:ByteArray} {t:Tok} {d:Nat} {w4 X:World} {j8 j9:Nat} {ns:List ByteArray} {al:List Ex} {EH qJ:Option Addr} {EI qK:Nat} {xs:List Value} {ex:Ex} {g9 c9:Nat} {yQ:List Value} (h:su R w1 bt nm t d w4 j8 ns al (.slice EH ns.length EI) (.slice qJ al.length qK) xs) (hrb:R.rb<bt) (hbt:bt<w1.heap.size) (hlt:al.length<ns.length) (h1:bC R X j9 d) (h2:X.heap[bt]?=some (.cells #[ah 11,aY nm,bK 0,aO,.slice (some ⟨g9,0,none⟩) (al.length+1) c9,.slice EH ns.length EI,au,ah t.line,ah t.col] 56 (0,0))) (h3:X.ownsRow w1.heap.size 56 9 (.slice (some ⟨g9,0,none⟩) (al.length+1) c9) (al.length+1) (xs++yQ)) (h4:dW X (fun q=>w4.heap.size≤q∧q≠g9) ex yQ) (h5:(Value.slice qJ al.length qK).ownBlock=some g9∨w4.heap.size≤g9) (h6:Step (fun q=>q=R.rb∨q=bt∨(Value.slice qJ al.length qK).ownBlock=some q) w4 X):su R w1 bt nm t d X j9 ns (al++[ex]) (.slice EH ns.length EI) (.slice (some ⟨g9,0,none⟩) (al.length+1) c9) (xs++yQ):=by
 have hol:=h.on;have hne:=h.ne;have hg9:∀q,(Value.slice EH ns.length EI).ownBlock=some q→q≠g9:=by
  intro q hq e;subst e;rcases h5 with h5|h5
  ·exact hne q hq h5
  ·have:=(hol.lt q hq).2;omega
 have hlen:(al++[ex]).length=al.length+1:=by simp
 refine⟨h1,h2,ji hol h6 (fun q hq e=> ?_),by rw[hlen];exact h3,dG.snoc ?_ ?_,fun q hq e=> ?_,h.sz,⟨h.few.1,by rw[hlen];omega⟩,h.st.then h6 (fun q hq e=> ?_)⟩
 ·have h7:=(hol.lt q hq).1;rcases e with e|e|e
  ·omega
  ·omega
  ·exact hne q hq e
 ·refine dG.mono ?_ _ _ (dG.step h6 ?_ _ _ (dG.mono (P':=fun q=>(w1.heap.size≤q∧(Value.slice qJ al.length qK).ownBlock≠some q∧(Value.slice EH ns.length EI).ownBlock≠some q)∧q<w4.heap.size) (fun q h7 h8=>⟨h8,h7⟩) _ _ h.el))
  ·intro q _ hq;refine⟨hq.1.1,fun e=> ?_,hq.1.2.2⟩;have e2:g9=q:=Option.some.inj e;rcases h5 with h5|h5
   ·exact hq.1.2.1 (by rw[←e2];exact h5)
   ·have:=hq.2;omega
  ·intro q hq e;rcases e with e|e|e
   ·have:=hq.1.1;omega
   ·have:=hq.1.1;omega
   ·exact hq.1.2.1 e
 ·refine dW.mono (fun q _ hq=>⟨Nat.le_trans h.st.size hq.1,fun e=>hq.2 (Option.some.inj e).symm,fun e=> ?_⟩) _ _ h4;have:=(hol.lt q e).2;have:=hq.1;omega
 ·exact hg9 q hq (Option.some.inj e).symm
 ·rcases e with e|e|e
  ·exact .inl e
  ·exact .inr e
  ·have:=(h.oa.lt _ e).1;omega
theorem OT (f:Nat) (ih:∀f',f'<f→mW f'):Le f:=by
 intro R w i d bt t hl h hd hrb hbt hno;have HL:=ak hl;have IH:=ak ih;obtain⟨r,hr⟩:=aU (yX f R.l i d);have HRR:Hid (r=(aS R.l i).bind fun n j=>(aH R.l j [123]).bind fun _ j=>if bD R.l j [125]then .ok (n,[],[]) (j+1)else(lQ f R.l j d [] []).bind fun p j=>.ok (n,p.1,p.2) j):=by show _=_;rw[hr,yX]
 rw[←hr]at hno⊢;have eH:=ak hno;have KA:=aI hbt;obtain⟨w1,hw1⟩:=aU (w.alloc (.cells #[dY R.rb 0] 97));have cZ:Hid (Step (fun _=>False) w w1):=by show Step _ _ _;rw[hw1];exact bJ.alloc _
 have jL:Hid (w1.heap[w.heap.size]?=some (.cells #[dY R.rb 0] 97 (0,0))):=by show _=_;rw[hw1];exact aA _ _
 have EG:=ak (cZ.o.keep hbt (fun h=>h));have HW1:=ak hw1;have H1:=ak (h.quiet cZ.o);have hn1:=aI jL.o;have bY:Hid (∀X:World,Step (fun q=>q=R.rb∨q=bt) w1 X→X.cell? ⟨w.heap.size,0,none⟩=some (.pointer (some ⟨R.rb,0,none⟩))):=by show∀X,_;intro X hX;exact aj (hX.keep jL.o om) 0 _ rfl
 obtain⟨i0,hi0,hz0,hz1,hz2⟩:=info_parts Tryz.qf;have HI:=ak hi0;have HZ0:=ak hz0;have HZ1:=ak hz1;have HZ2:=ak hz2;have p0:=bY.o w1 bJ;obtain⟨j0,hj0,hy0,hy1,hy2⟩:=info_parts Tryz.Dl;have HJ:=ak hj0;have HY0:=ak hy0;have HY1:=ak hy1;have HY2:=ak hy2;clear ih hl h hno hr hw1 hbt hi0 hz0 hz1 hz2 hj0 hy0 hy1 hy2;go_enter Tryz.func222,Tryz.ntmps222;go_upto_region 1 with fail
 rw[←HW1.o];go_wp2_with fail;cases hn:aS R.l i with
 |out=>exact(iF hn).elim
 |err c ln col=>have HN:=ak hn;clear hn;refine(name_any R HL.o _ i d H1.o).mono ?_;rintro e wq hp;rw[HN.o]at hp;obtain⟨rfl,sq⟩:=hp;refine⟨rfl,aZ.aX (c:=c) (ln:=ln) (col:=col) (by rw[HRR.o,HN.o];rfl) rfl ?_⟩;exact((cZ.o.mono fe).trans sq).mono il
 |ok nm j=>
  have HN:=ak hn;have OJ:=ak (fC HL.o H1.o.lt hn);clear hn;refine(name_any R HL.o _ i d H1.o).mono ?_;rintro e w2 hp;rw[HN.o]at hp;obtain⟨⟨v,rfl,rfl⟩,hr2,s2⟩:=hp;have HR2:=ak hr2;have HS2:=ak s2;have pW:=ak (s2.keep EG.o om);have wX:Hid (r=(aH R.l j [123]).bind fun _ j=>if bD R.l j [125]then .ok (nm,[],[]) (j+1)else(lQ f R.l j d [] []).bind fun p j=>.ok (nm,p.1,p.2) j):=by show _=_;rw[HRR.o,HN.o];rfl
  have mQ:=aj pW.o 0 _ rfl;have mV:=aG pW.o 0;have ED:=aj pW.o 1 _ rfl;have EF:=aG pW.o 1;obtain⟨w3,hw3⟩:=aU ((w2.setCell ⟨bt,0,none⟩ (.int .i64 11)).setCell ⟨bt,1,none⟩ (.string nm));have eX:Hid (Step (·=bt) w2 w3):=by show Step _ _ _;rw[hw3];exact((Step.refl (·=bt) _).setCell _ _ iI).setCell _ _ iI
  have I_:Hid (w3.heap[bt]?=some (.cells #[ah 11,aY nm,bK 0,aO,au,au,au,ah t.line,ah t.col] 56 (0,0))):=by show _=_;rw[hw3];exact aV (aV pW.o 0 (.int .i64 11)) 1 (.string nm)
  have nN:Hid (Step (fun q=>q=R.rb∨q=bt) w1 w3):=(HS2.o.mono il).trans (eX.o.mono ir);have fJ:Hid (su R w1 bt nm t d w3 j [] [] (.slice none 0 0) (.slice none 0 0) []):=⟨HR2.o.step eX.o oi,I_.o,World.ownsRow_nil _ _ _ _,World.ownsRow_nil _ _ _ _,by rw[dG],nJ,nJ,by simp,nN.o⟩;clear hr2 s2 p0;go_upto_region 2 with fail
  rw[←hw3];clear hw3 mQ mV ED EF;have p0:=bY.o w3 nN.o;go_wp2_with fail;refine(dH R HL.o w3.heap.size ⟨#[123]⟩ _ j d (fJ.o.rd.quiet (bJ.alloc _)) dc (aj (aA _ _) 0 _ rfl)).mono ?_;rintro e w4 hp;have hp2:aJ R d iC (aH R.l j [123]) _ e w4:=hp;cases hn:aH R.l j [123]with
  |out=>exact(dw hn).elim
  |err c ln col=>rw[hn]at hp2;obtain⟨rfl,s4⟩:=hp2;refine⟨rfl,aZ.aX (c:=c) (ln:=ln) (col:=col) (by rw[wX.o,hn];rfl) rfl ?_⟩;exact((cZ.o.mono fe).trans fJ.o.st).trans ((((Step.refl (·=R.rb) _).alloc _).trans s4).mono il)
  |ok u j4=>
   have KG:=ak hn;rw[hn]at hp2;obtain⟨⟨v,rfl,rfl⟩,hr4,s4⟩:=hp2;have eP:=ak (fJ.o.read hrb om hr4 (((Step.refl (·=R.rb) _).alloc _).trans s4));(have rM:Hid (r=if bD R.l j4 [125]then .ok (nm,[],[]) (j4+1)else(lQ f R.l j4 d [] []).bind fun p j=>.ok (nm,p.1,p.2) j):=by show _=_;rw[wX.o,KG.o];rfl);clear hn hr4 s4 p0 hp;have p0:=bY.o w4 eP.o.st;go_wp2_with fail;cases hb:bD R.l j4 [125]with
   |true=>have HB:=ak hb;clear hb;refine(cO R HL.o ⟨#[125]⟩ _ j4 d eP.o.rd dc HB.o).mono ?_;rintro e w5 ⟨rfl,Jf,h5⟩;have kY:=ak (eP.o.read hrb om Jf h5);clear Jf h5 p0;go_wp2_with fail;refine bodyPost_ret (results_none rfl _ _ _) rfl ?_;refine aZ.dK (a:=(nm,[],[])) (j:=j4+1) (by rw[rM.o,HB.o,if_pos rfl]) rfl ⟨[],_,_,kY.o.blk,OJ.o,nJ,di.nil _ _ _,by rw[dG],di.nil _ _ _⟩ kY.o.rd ((cZ.o.mono fe).trans kY.o.st)
   |false=>
    have HB:=ak hb;clear hb;refine(dJ R HL.o ⟨#[125]⟩ _ j4 d eP.o.rd dc HB.o).mono ?_;rintro e w5 ⟨rfl,Jf,h5⟩;have kY:=ak (eP.o.read hrb om Jf h5);(have IE:Hid (r=(lQ f R.l j4 d [] []).bind fun p j=>.ok (nm,p.1,p.2) j):=by show _=_;rw[rM.o,HB.o,if_neg dc]);clear Jf h5 p0;go_wp2_with fail;go_loopg [] f (fun gg wr=>gg≤f∧∃(i':Nat) (ns:List ByteArray) (al:List Ex) (vn va:Value) (xs:List Value),r=((lQ gg R.l i' d ns al).bind fun p j=>.ok (nm,p.1,p.2) j)∧su R w1 bt nm t d wr i' ns al vn va xs);case atStart=>exact⟨Nat.le_refl _,j4,[],[],_,_,[],IE.o,kY.o⟩
    case round=>
     obtain⟨hgf,i',ns,al,vn,va,xs,hrq,hst⟩:=hrel;obtain⟨gn,rfl⟩:∃gn,gk=gn+1:=by
      cases gk with
      |zero=>exact absurd hrq (by rw[lQ];exact eH.o)
      |succ gn=>exact⟨gn,rfl⟩
     (have sS:Hid (r=((d_ ns.length 12 R.l i').bind fun _ i=>(aS R.l i).bind fun n j=>(aH R.l j [58]).bind fun _ j=>(bf gn R.l j d 0).bind fun x j=>if bD R.l j [44]then lQ gn R.l (j+1) d (ns++[n]) (al++[x])else(aH R.l j [125]).bind fun _ j=>.ok (ns++[n],al++[x]) j).bind fun p j=>.ok (nm,p.1,p.2) j):=by show _=_;rw[hrq,lQ]);obtain⟨EH,EI,rfl⟩:=a_ hst.on;obtain⟨qJ,qK,rfl⟩:=a_ hst.oa;have HST:=ak hst;have hfew:=hst.few;have p0:=bY.o wr hst.st;have xM:=aj hst.blk 5 _ rfl;clear hrq hst;(go_upto_region 4 with fail);go_still_tail 6,kr;change wpList _ _ _ _ _ wr.drew;obtain⟨wd,hwd⟩:=aU wr.drew;(have tN:Hid (su R w1 bt nm t d wd i' ns al (.slice EH ns.length EI) (.slice qJ al.length qK) xs):=by show su _ _ _ _ _ _ _ _ _ _ _ _ _;rw[hwd];exact HST.o.quiet (bJ.drew));rw[←hwd];clear hwd p0 xM;have p0:=bY.o wd tN.o.st;have xM:=aj tN.o.blk 5 _ rfl;go_wp2_with fail;refine(lS R wd ns.length 12 i' d tN.o.rd).mono ?_;rintro e w6 hp;cases hn:d_ ns.length 12 R.l i' with
     |out=>exact(kH hn).elim
     |err c ln col=>rw[hn]at hp;obtain⟨rfl,s6⟩:=hp;refine⟨rfl,aZ.aX (c:=c) (ln:=ln) (col:=col) (by rw[sS.o,hn];rfl) rfl ?_⟩;exact((cZ.o.mono fe).trans tN.o.st).trans (s6.mono il)
     |ok u j6=>
      have hji:j6=i'∧ns.length<12:=by
       unfold d_ at hn;split at hn
       ·cases hn
       ·cases hn;exact⟨rfl,by omega⟩
      obtain⟨rfl,hlt12⟩:=hji;have nU:=ak hn;rw[hn]at hp;obtain⟨⟨v,rfl,rfl⟩,n_,s6⟩:=hp;have eU:=ak (tN.o.read hrb om n_ s6);(have uN:Hid (r=((aS R.l j6).bind fun n j=>(aH R.l j [58]).bind fun _ j=>(bf gn R.l j d 0).bind fun x j=>if bD R.l j [44]then lQ gn R.l (j+1) d (ns++[n]) (al++[x])else(aH R.l j [125]).bind fun _ j=>.ok (ns++[n],al++[x]) j).bind fun p j=>.ok (nm,p.1,p.2) j):=by show _=_;rw[sS.o,nU.o];rfl);clear hn n_ s6 p0 xM;have p0:=bY.o w6 eU.o.st;have xM:=aj eU.o.blk 5 _ rfl;(go_upto_region 5 with fail);cases hn:aS R.l j6 with
      |out=>exact(iF hn).elim
      |err c ln col=>
       have HN:=ak hn;(have Dt:Hid (∀X,bC R X j6 d→Calls Tryz.prog 113 #[.pointer (some ⟨R.rb,0,none⟩)] X fun e w'=>e=.panicked [{v:=.iface 251 (.agg #[ah c,ah ln,ah col]),recovered:=false}]∧Step (·=R.rb) X w'):=by show∀X,_;intro X hX;have h9:=name_any R HL.o X j6 d hX;rw[HN.o]at h9;exact h9);(have Dj:Hid (∀wq:World,Step (·=R.rb) w6.drew wq→aZ R d bt (yY w.heap.size bt t) r w (.panicked [{v:=.iface 251 (.agg #[ah c,ah ln,ah col]),recovered:=false}]) wq):=by show∀wq,_;intro wq hs;refine aZ.aX (c:=c) (ln:=ln) (col:=col) (by rw[uN.o,HN.o];rfl) rfl ?_;exact((cZ.o.mono fe).trans eU.o.st).trans ((((Step.refl (·=R.rb) _).drew).trans hs).mono il));clear hn;refine bH kr (ClJ R bt w.heap.size (.slice EH ns.length EI) w6.drew) 13 rfl kr kr kr kr ?h0 ?hs ?hdone;case h0=>exact⟨rfl,rfl,gJ,gJ,gJ,gJ,gJ,gJ,gJ,gJ,gJ⟩
       case hs=>
        refine⟨?_,?_,?_,?_,?_,?_,?_,?_,?_,?_,?_,?_,?_,trivial⟩
        all_goals intro L V X a ev dn hdf hL ax hJ
        ·have hwx:=hJ.wx;subst hwx;have o1:=dn 1 rfl;change a.tmps[1]?.getD undef=.pointer (some ⟨bt,0,none⟩)at o1;go_simp;exact⟨_,rfl,{hJ with no:=by rw[aB _ dc];exact hJ.no,v0:=fun _=>rfl}⟩
        ·have hwx:=hJ.wx;subst hwx;have o1:=dn 1 rfl;change a.tmps[1]?.getD undef=.pointer (some ⟨bt,0,none⟩)at o1;go_simp;exact⟨_,rfl,{hJ with no:=by rw[aB _ dc];exact hJ.no,v1:=fun _=>rfl}⟩
        ·have hwx:=hJ.wx;subst hwx;have e28:=(ev 1 28 rfl (ax 1 rfl)).trans (hJ.v1 (ax 1 rfl));go_simp;exact⟨_,rfl,{hJ with no:=by rw[aB _ dc];exact hJ.no,v2:=fun _=>rfl}⟩
        ·have hwx:=hJ.wx;subst hwx;have e29:=(ev 2 29 rfl (ax 2 rfl)).trans (hJ.v2 (ax 2 rfl));go_simp;exact⟨_,rfl,{hJ with no:=by rw[aB _ dc];exact hJ.no,v3:=fun _=>rfl}⟩
        ·have hwx:=hJ.wx;subst hwx;have e30:=(ev 3 30 rfl (ax 3 rfl)).trans (hJ.v3 (ax 3 rfl));have q5:=aj (((Step.refl (fun _=>False) w6).drew).keep eU.o.blk (fun h=>h)) 5 _ rfl;go_simp;exact⟨_,rfl,{hJ with no:=by rw[aB _ dc];exact hJ.no,v4:=fun _=>rfl}⟩
        ·have hwx:=hJ.wx;subst hwx;have o2:=dn 2 rfl;change a.tmps[2]?.getD undef=.pointer (some ⟨w.heap.size,0,none⟩)at o2;go_simp;exact⟨_,rfl,{hJ with no:=by rw[aB _ dc];exact hJ.no,v5:=fun _=>rfl}⟩
        ·have hwx:=hJ.wx;subst hwx;have e32:=(ev 5 32 rfl (ax 5 rfl)).trans (hJ.v5 (ax 5 rfl));have q0:=bY.o w6.drew (eU.o.st.trans (bJ.drew));go_simp;exact⟨_,rfl,{hJ with no:=by rw[aB _ dc];exact hJ.no,v6:=fun _=>rfl}⟩
        ·have hwx:=hJ.wx;subst hwx;have e33:=(ev 6 33 rfl (ax 6 rfl)).trans (hJ.v6 (ax 6 rfl));go_simp;refine(Dt.o _ (eU.o.rd.quiet (bJ.drew))).mono ?_;rintro e wq ⟨rfl,hs⟩;exact⟨hdf,Dj.o wq hs⟩
        ·have hwx:=hJ.wx;subst hwx;exact absurd hJ.no (by rw[ax 7 rfl];decide)
        ·have hwx:=hJ.wx;subst hwx;exact absurd hJ.no (by rw[ax 7 rfl];decide)
        ·have hwx:=hJ.wx;subst hwx;have e27:=(ev 0 27 rfl (ax 0 rfl)).trans (hJ.v0 (ax 0 rfl));go_simp;exact⟨_,rfl,{hJ with no:=by rw[aB _ dc];exact hJ.no,v10:=fun _=>rfl}⟩
        ·have hwx:=hJ.wx;subst hwx;have e37:=(ev 10 37 rfl (ax 10 rfl)).trans (hJ.v10 (ax 10 rfl));go_simp;exact⟨_,rfl,{hJ with no:=by rw[aB _ dc];exact hJ.no,v11:=fun _=>rfl}⟩
        ·have hwx:=hJ.wx;subst hwx;exact absurd hJ.no (by rw[ax 7 rfl];decide)
       case hdone=>intro L V X hall hJ;exact absurd hJ.no (by rw[hall 7 dc];decide)
      |ok s j7=>
       have HN:=ak hn;have Xz:=ak (fC HL.o eU.o.rd.lt hn);(have Dt:Hid (∀X,bC R X j6 d→Calls Tryz.prog 113 #[.pointer (some ⟨R.rb,0,none⟩)] X fun e w'=>e=.returned (.string s)∧bC R w' j7 d∧Step (·=R.rb) X w'):=by show∀X,_;intro X hX;refine(name_any R HL.o X j6 d hX).mono ?_;intro e w' hp;rw[HN.o]at hp;obtain⟨⟨v,he,hv⟩,h1,h2⟩:=hp;exact⟨by rw[he,hv],h1,h2⟩);(have EN:Hid (r=((aH R.l j7 [58]).bind fun _ j=>(bf gn R.l j d 0).bind fun x j=>if bD R.l j [44]then lQ gn R.l (j+1) d (ns++[s]) (al++[x])else(aH R.l j [125]).bind fun _ j=>.ok (ns++[s],al++[x]) j).bind fun p j=>.ok (nm,p.1,p.2) j):=by show _=_;rw[uN.o,HN.o];rfl);clear hn;go_cut [] (fun wx=>∃v9:Value,su R w1 bt nm t d wx j7 (ns++[s]) al v9 (.slice qJ al.length qK) xs);case first=>
        first
        |(go_region_law (first
            |(refine mM _ rfl (w8.heap.size+1) (.tmp 31) (.tmp 35) 40 rfl w1.heap.size 9 i0 (.string ⟨#[]⟩) 1 16 Tryz.underlying40 HI.o HZ0.o HZ1.o HZ2.o rfl dc _ _ _ (by simp[Act.eval]) Q5.o _ 1 _ (by simp[Act.eval]) Jd.o rfl Je.o (by unfold maxLen;omega) om Q7.o ?_;intro v9 w9 gG gm nM;obtain⟨a9,c9,rfl⟩:=a_ gG;have kK:Hid (su R w1 bt nm t d (w9.setCell ⟨bt,5,none⟩ (.slice a9 (ns.length+1) c9)) j7 (ns++[s]) al (.slice a9 (ns.length+1) c9) (.slice qJ al.length qK) xs):=jk.o.pushN hrb om (bJ.alloc _) gG gm nM Xz.o hlt12;have hbb:=(bM gm).keep (aN (o':=.cells #[aY s] 9) jk.o.blk) (fun e=>by have:=(jk.o.on.lt _ e).1;omega);have bt5':=aj hbb 5 _ rfl;have bz5':=aG hbb 5;clear hbb gG gm nM)
            |(go_simp;go_at_call 113;refine(Dt.o _ (eU.o.rd.quiet (bJ.drew))).mono ?_;rintro e8 w8 ⟨rfl,tJ,hs8⟩;have jk:=ak ((eU.o.quiet (bJ.drew)).read hrb om tJ hs8);have Q5:Hid ((w8.alloc (.cells #[aY s] 9)).ownsRow w1.heap.size 9 1 (.slice EH ns.length EI) ns.length (ns.map .string)):=jk.o.on.alloc _;have Jd:Hid (Row (w8.alloc (.cells #[aY s] 9)) (w8.heap.size+1) (.slice (some ⟨w8.heap.size,0,none⟩) 1 1) 1 [.string s]):=Row.new (aA _ _) dc;have Je:Hid (∀u∈[Value.string s],u.oneCell'=true):=by
               show∀u∈_,_
               intro u hu
               simp at hu
               subst hu;rfl
              have Q7:Hid (w1.heap.size≤(w8.alloc (.cells #[aY s] 9)).heap.size):=by
               show _≤_
               have:=jk.o.st.size
               simp;omega
              have bt58:=aj jk.o.blk 5 _ rfl
              have bt59:=aj (aN (o':=.cells #[aY s] 9) jk.o.blk) 5 _ rfl
              clear tJ hs8)))
        |fail
        all_goals (
         clear p0 xM
         go_wp2_with fail
         go_meet
         case rel=>exact⟨_,kK.o⟩)
       case rest=>
        obtain⟨v9,hls⟩:=hcut;obtain⟨w9,rfl⟩:=aU wc;obtain⟨GU,Zh⟩:∃q,q=ns++[s]:=⟨_,rfl⟩;rw[←Zh]at hls EN;have iD:=ak hls;(have HLT8:Hid (al.length<GU.length):=by show _<_;rw[Zh];simp;omega);clear hls p0 xM Zh;have p0:=bY.o w9 iD.o.st;go_wp2_with fail;refine(dH R HL.o w9.heap.size ⟨#[58]⟩ _ j7 d (iD.o.rd.quiet (bJ.alloc _)) dc (aj (aA _ _) 0 _ rfl)).mono ?_;rintro e wa hp;have hp2:aJ R d iC (aH R.l j7 [58]) _ e wa:=hp;cases hn:aH R.l j7 [58]with
        |out=>exact(dw hn).elim
        |err c ln col=>rw[hn]at hp2;obtain⟨rfl,sa⟩:=hp2;refine⟨rfl,aZ.aX (c:=c) (ln:=ln) (col:=col) (by rw[EN.o,hn];rfl) rfl ?_⟩;exact((cZ.o.mono fe).trans iD.o.st).trans ((((Step.refl (·=R.rb) _).alloc _).trans sa).mono il)
        |ok u j8=>
         have Ry:=ak hn;rw[hn]at hp2;obtain⟨⟨v,rfl,rfl⟩,hra,sa⟩:=hp2;obtain⟨a8,c8,rfl⟩:=a_ iD.o.on;have iZ:=ak (iD.o.read hrb om hra (((Step.refl (·=R.rb) _).alloc _).trans sa));(have ng:Hid (r=((bf gn R.l j8 d 0).bind fun x j=>if bD R.l j [44]then lQ gn R.l (j+1) d GU (al++[x])else(aH R.l j [125]).bind fun _ j=>.ok (GU,al++[x]) j).bind fun p j=>.ok (nm,p.1,p.2) j):=by show _=_;rw[EN.o,Ry.o];rfl);clear hn hra sa p0 hp;obtain⟨w4,rfl⟩:=aU wa;have IB:Hid (∀X:World,Step (fun q=>q=R.rb∨q=bt∨(Value.slice qJ al.length qK).ownBlock=some q) w4 X→X.cell? ⟨w.heap.size,0,none⟩=some (.pointer (some ⟨R.rb,0,none⟩))):=by
          show∀X,_;intro X hX;refine hX.cell (bY.o w4 iZ.o.st) (fun e=> ?_);have e2:w.heap.size=R.rb∨w.heap.size=bt∨(Value.slice qJ al.length qK).ownBlock=some w.heap.size:=e;rcases e2 with e2|e2|e2
          ·omega
          ·omega
          ·have:=(iZ.o.oa.lt _ e2).1;omega
         have EO:Hid (al.length<GU.length):=HLT8;(have hal12:al.length≤12:=by have:=iZ.o.few;omega);have HO:Hid (wY R w4 5 7 8 9 10 13 bt w1.heap.size 9 al.length (.slice qJ al.length qK) xs [Value.int .i64 0,bP,bK 0,aO,au,au,au,ah 0,ah 0]):=
          ⟨by decide,by decide,by decide,by decide,by decide,by decide,by decide,by decide,by decide,hrb,by omega,iZ.o.st.size,fun q hq=>iZ.o.oa.lt q hq,iZ.o.el.len,rfl⟩
         (have Q8:Hid (∀u∈[Value.int .i64 0,bP,bK 0,aO,au,au,au,ah 0,ah 0],u.oneCell'=true):=by show∀u∈_,_;intro u hu;simp at hu;rcases hu with rfl|rfl|rfl|rfl|rfl|rfl|rfl|rfl|rfl<;>rfl);(go_upto_region 7 with fail);cases hx:bf gn R.l j8 d 0 with
         |out=>exact absurd (by rw[ng.o,hx];rfl) eH.o
         |err c ln col=>
          have HX:=ak hx;clear hx;obtain⟨ex,-⟩:∃ex:Ex,ex=bZ 0 bU 0 false [] [] [] MX:=⟨_,rfl⟩;obtain⟨j9,-⟩:∃j9,j9=j8:=⟨_,rfl⟩;have HE:Hid (yP (fun w P cs=>dW w P ex cs)):=ExEl ex;have vk:Hid (∀V,jh R j8 j9 d w4 5 7 8 9 10 13 bt (fun v=>.cells #[ah 11,aY nm,bK 0,aO,v,.slice a8 GU.length c8,au,ah t.line,ah t.col] 56 (0,0)) w1.heap.size 56 9 al.length (.slice qJ al.length qK) xs [Value.int .i64 0,bP,bK 0,aO,au,au,au,ah 0,ah 0] (fun w P cs=>dW w P ex cs) [some (.pointer (some ⟨bt,0,none⟩)),some (.pointer (some ⟨bt,0,none⟩)),some (.pointer (some ⟨bt,4,none⟩)),some (.slice qJ al.length qK),some (.agg #[dY R.rb 0]),none,some (.int .i64 (al.length:Int)),none,none,none,none,some (.pointer (some ⟨bt,0,none⟩)),some (.pointer (some ⟨bt,4,none⟩)),none] (fun _=>false) V w4.drew):=fun V=>jh.zero (bJ.drew) iZ.o.rd iZ.o.oa iZ.o.blk;(have vC:Hid (∀X,bC R X j8 d→Calls Tryz.prog 77 #[.agg #[dY R.rb 0]] X fun e wq=>e=.panicked [{v:=.iface 251 (.agg #[ah c,ah ln,ah col]),recovered:=false}]∧Step (·=R.rb) X wq):=by show∀X,_;intro X hX;have h9:=kZ gn (IH.o gn om) R X j8 d HL.o hX hd (by rw[HX.o];intro h;cases h);rw[HX.o]at h9;exact h9);have Dj:Hid (∀X wq:World,Step (fun q=>q=R.rb∨q=bt∨(Value.slice qJ al.length qK).ownBlock=some q) w4 X→Step (·=R.rb) X wq→aZ R d bt (yY w.heap.size bt t) r w (.panicked [{v:=.iface 251 (.agg #[ah c,ah ln,ah col]),recovered:=false}]) wq):=by
           show∀X wq,_;intro X wq h1 h2;refine aZ.aX (c:=c) (ln:=ln) (col:=col) (by rw[ng.o,HX.o];rfl) rfl (((cZ.o.mono fe).trans iZ.o.st).then (h1.trans (h2.mono il)) (fun q hq e=> ?_));rcases e with e|e|e
           ·exact .inl e
           ·exact .inr e
           ·have:=(iZ.o.oa.lt _ e).1;have:=cZ.o.size;omega
          refine bH kr (fun L V X=>jh R j8 j9 d w4 5 7 8 9 10 13 bt (fun v=>.cells #[ah 11,aY nm,bK 0,aO,v,.slice a8 GU.length c8,au,ah t.line,ah t.col] 56 (0,0)) w1.heap.size 56 9 al.length (.slice qJ al.length qK) xs [Value.int .i64 0,bP,bK 0,aO,au,au,au,ah 0,ah 0] (fun w P cs=>dW w P ex cs) [some (.pointer (some ⟨bt,0,none⟩)),some (.pointer (some ⟨bt,0,none⟩)),some (.pointer (some ⟨bt,4,none⟩)),some (.slice qJ al.length qK),some (.agg #[dY R.rb 0]),none,some (.int .i64 (al.length:Int)),none,none,none,none,some (.pointer (some ⟨bt,0,none⟩)),some (.pointer (some ⟨bt,4,none⟩)),none] L V X∧L 5=false) 14 rfl kr kr kr kr ?h0 ?hs ?hdone;case h0=>exact⟨vk.o _,rfl⟩
          case hs=>
           refine⟨?_,?_,?_,?_,?_,?_,?_,?_,?_,?_,?_,?_,?_,?_,trivial⟩
           all_goals intro L V X a ev dn hdf hL ax hJ
           ·have o1:=dn 1 rfl;change a.tmps[1]?.getD undef=.pointer (some ⟨bt,0,none⟩)at o1;go_simp;exact⟨_,rfl,⟨hJ.1.up 0 dc dc dc dc dc dc rfl,by rw[aB _ dc];exact hJ.2⟩⟩
           ·have e43:=(ev 0 43 rfl (ax 0 rfl)).trans (hJ.1.gZ 0 _ rfl (ax 0 rfl));go_simp;exact⟨_,rfl,⟨hJ.1.up 1 dc dc dc dc dc dc rfl,by rw[aB _ dc];exact hJ.2⟩⟩
           ·have e44:=(ev 1 44 rfl (ax 1 rfl)).trans (hJ.1.gZ 1 _ rfl (ax 1 rfl));go_simp;exact⟨_,rfl,⟨hJ.1.up 2 dc dc dc dc dc dc rfl,by rw[aB _ dc];exact hJ.2⟩⟩
           ·have e45:=(ev 2 45 rfl (ax 2 rfl)).trans (hJ.1.gZ 2 _ rfl (ax 2 rfl));have hZ:=(hJ.1.Gz (hJ.1.QW dc hL)).1;have hb:=hJ.1.blk;rw[hZ,if_neg dc]at hb;have q4:X.cell? ⟨bt,4,none⟩=some (.slice qJ al.length qK):=aj hb 4 _ rfl;go_simp;exact⟨_,rfl,⟨hJ.1.up 3 dc dc dc dc dc dc rfl,by rw[aB _ dc];exact hJ.2⟩⟩
           ·have o2:=dn 2 rfl;change a.tmps[2]?.getD undef=.pointer (some ⟨w.heap.size,0,none⟩)at o2;have p0:=IB.o X hJ.1.st;go_simp;exact⟨_,rfl,⟨hJ.1.up 4 dc dc dc dc dc dc rfl,by rw[aB _ dc];exact hJ.2⟩⟩
           ·have e47:=(ev 4 47 rfl (ax 4 rfl)).trans (hJ.1.gZ 4 _ rfl (ax 4 rfl));have hrd:=hJ.1.rd;rw[hL,if_neg dc]at hrd;go_simp;refine(vC.o X hrd).mono ?_;rintro e wq ⟨rfl,hs⟩;exact⟨hdf,Dj.o X wq hJ.1.st hs⟩
           ·have e46:=(ev 3 46 rfl (ax 3 rfl)).trans (hJ.1.gZ 3 _ rfl (ax 3 rfl));go_simp;exact⟨_,rfl,⟨hJ.1.up 6 dc dc dc dc dc dc rfl,by rw[aB _ dc];exact hJ.2⟩⟩
           ·have hu:=hJ.1.build HE.o HO.o hL rfl;go_simp;exact⟨_,rfl,⟨hu,by rw[aB _ dc];exact hJ.2⟩⟩
           ·have e46:=(ev 3 46 rfl (ax 3 rfl)).trans (hJ.1.gZ 3 _ rfl (ax 3 rfl));exact absurd hJ.2 (by rw[ax 5 rfl];decide)
           ·have e49:=(ev 6 49 rfl (ax 6 rfl)).trans (hJ.1.gZ 6 _ rfl (ax 6 rfl));exact absurd hJ.2 (by rw[ax 5 rfl];decide)
           ·exact absurd hJ.2 (by rw[ax 5 rfl];decide)
           ·have e43:=(ev 0 43 rfl (ax 0 rfl)).trans (hJ.1.gZ 0 _ rfl (ax 0 rfl));go_simp;exact⟨_,rfl,⟨hJ.1.up 11 dc dc dc dc dc dc rfl,by rw[aB _ dc];exact hJ.2⟩⟩
           ·have e53:=(ev 11 53 rfl (ax 11 rfl)).trans (hJ.1.gZ 11 _ rfl (ax 11 rfl));go_simp;exact⟨_,rfl,⟨hJ.1.up 12 dc dc dc dc dc dc rfl,by rw[aB _ dc];exact hJ.2⟩⟩
           ·have e54:=(ev 12 54 rfl (ax 12 rfl)).trans (hJ.1.gZ 12 _ rfl (ax 12 rfl));exact absurd hJ.2 (by rw[ax 5 rfl];decide)
          case hdone=>intro L V X hall hJ;exact absurd hJ.2 (by rw[hall 5 dc];decide)
         |ok ex j9=>
          have HX:=ak hx;clear hx;have HE:Hid (yP (fun w P cs=>dW w P ex cs)):=ExEl ex;have vk:Hid (∀V,jh R j8 j9 d w4 5 7 8 9 10 13 bt (fun v=>.cells #[ah 11,aY nm,bK 0,aO,v,.slice a8 GU.length c8,au,ah t.line,ah t.col] 56 (0,0)) w1.heap.size 56 9 al.length (.slice qJ al.length qK) xs [Value.int .i64 0,bP,bK 0,aO,au,au,au,ah 0,ah 0] (fun w P cs=>dW w P ex cs) [some (.pointer (some ⟨bt,0,none⟩)),some (.pointer (some ⟨bt,0,none⟩)),some (.pointer (some ⟨bt,4,none⟩)),some (.slice qJ al.length qK),some (.agg #[dY R.rb 0]),none,some (.int .i64 (al.length:Int)),none,none,none,none,some (.pointer (some ⟨bt,0,none⟩)),some (.pointer (some ⟨bt,4,none⟩)),none] (fun _=>false) V w4.drew):=fun V=>jh.zero (bJ.drew) iZ.o.rd iZ.o.oa iZ.o.blk;(have vC:Hid (∀X,bC R X j8 d→Calls Tryz.prog 77 #[.agg #[dY R.rb 0]] X fun e wq=>(∃v,e=.returned v∧∃cs:List Value,v=.agg cs.toArray∧dW wq (fun q=>X.heap.size≤q) ex cs)∧bC R wq j9 d∧Step (·=R.rb) X wq):=by show∀X,_;intro X hX;have h9:=kZ gn (IH.o gn om) R X j8 d HL.o hX hd (by rw[HX.o];intro h;cases h);rw[HX.o]at h9;exact h9);have HRG:Hid (r=(if bD R.l j9 [44]then lQ gn R.l (j9+1) d GU (al++[ex])else(aH R.l j9 [125]).bind fun _ j=>.ok (GU,al++[ex]) j).bind fun p j=>.ok (nm,p.1,p.2) j):=by show _=_;rw[ng.o,HX.o];rfl
          have kK:Hid (∀(g9 c9:Nat) (yQ:List Value) (X:World),bC R X j9 d→X.heap[bt]?=some (.cells #[ah 11,aY nm,bK 0,aO,.slice (some ⟨g9,0,none⟩) (al.length+1) c9,.slice a8 GU.length c8,au,ah t.line,ah t.col] 56 (0,0))→X.ownsRow w1.heap.size 56 9 (.slice (some ⟨g9,0,none⟩) (al.length+1) c9) (al.length+1) (xs++yQ)→dW X (fun q=>w4.heap.size≤q∧q≠g9) ex yQ→((Value.slice qJ al.length qK).ownBlock=some g9∨w4.heap.size≤g9)→Step (fun q=>q=R.rb∨q=bt∨(Value.slice qJ al.length qK).ownBlock=some q) w4 X→
            su R w1 bt nm t d X j9 GU (al++[ex]) (.slice a8 GU.length c8) (.slice (some ⟨g9,0,none⟩) (al.length+1) c9) (xs++yQ)):=by
           show∀g9 c9 yQ X,_
           intro g9 c9 yQ X h1 h2 h3 h4 h5 h6
           exact iZ.o.Nh hrb om EO.o h1 h2 h3 h4 h5 h6
          go_cut [] (fun wx=>∃(KJ:Value) (KL:List Value),su R w1 bt nm t d wx j9 GU (al++[ex]) (.slice a8 GU.length c8) KJ KL);case first=>
           refine bH kr (jh R j8 j9 d w4 5 7 8 9 10 13 bt (fun v=>.cells #[ah 11,aY nm,bK 0,aO,v,.slice a8 GU.length c8,au,ah t.line,ah t.col] 56 (0,0)) w1.heap.size 56 9 al.length (.slice qJ al.length qK) xs [Value.int .i64 0,bP,bK 0,aO,au,au,au,ah 0,ah 0] (fun w P cs=>dW w P ex cs) [some (.pointer (some ⟨bt,0,none⟩)),some (.pointer (some ⟨bt,0,none⟩)),some (.pointer (some ⟨bt,4,none⟩)),some (.slice qJ al.length qK),some (.agg #[dY R.rb 0]),none,some (.int .i64 (al.length:Int)),none,none,none,none,some (.pointer (some ⟨bt,0,none⟩)),some (.pointer (some ⟨bt,4,none⟩)),none]) 14 rfl kr kr kr kr ?h0 ?hs ?hdone;case h0=>exact vk.o _
           case hs=>
            refine⟨?_,?_,?_,?_,?_,?_,?_,?_,?_,?_,?_,?_,?_,?_,trivial⟩
            all_goals intro L V X a ev dn hdf hL ax hJ
            ·have o1:=dn 1 rfl;change a.tmps[1]?.getD undef=.pointer (some ⟨bt,0,none⟩)at o1;go_simp;exact⟨_,rfl,hJ.up 0 dc dc dc dc dc dc rfl⟩
            ·have e43:=(ev 0 43 rfl (ax 0 rfl)).trans (hJ.gZ 0 _ rfl (ax 0 rfl));go_simp;exact⟨_,rfl,hJ.up 1 dc dc dc dc dc dc rfl⟩
            ·have e44:=(ev 1 44 rfl (ax 1 rfl)).trans (hJ.gZ 1 _ rfl (ax 1 rfl));go_simp;exact⟨_,rfl,hJ.up 2 dc dc dc dc dc dc rfl⟩
            ·have e45:=(ev 2 45 rfl (ax 2 rfl)).trans (hJ.gZ 2 _ rfl (ax 2 rfl));have hZ:=(hJ.Gz (hJ.QW dc hL)).1;have hb:=hJ.blk;rw[hZ,if_neg dc]at hb;have q4:X.cell? ⟨bt,4,none⟩=some (.slice qJ al.length qK):=aj hb 4 _ rfl;go_simp;exact⟨_,rfl,hJ.up 3 dc dc dc dc dc dc rfl⟩
            ·have o2:=dn 2 rfl;change a.tmps[2]?.getD undef=.pointer (some ⟨w.heap.size,0,none⟩)at o2;have p0:=IB.o X hJ.st;go_simp;exact⟨_,rfl,hJ.up 4 dc dc dc dc dc dc rfl⟩
            ·have e47:=(ev 4 47 rfl (ax 4 rfl)).trans (hJ.gZ 4 _ rfl (ax 4 rfl));have hrd:=hJ.rd;rw[hL,if_neg dc]at hrd;go_simp;refine(vC.o X hrd).mono ?_;rintro e wq ⟨⟨v,rfl,cs,rfl,hty⟩,hr,hs⟩;exact⟨_,rfl,hJ.call HE.o HO.o hL rfl hs hr hty⟩
            ·have e46:=(ev 3 46 rfl (ax 3 rfl)).trans (hJ.gZ 3 _ rfl (ax 3 rfl));go_simp;exact⟨_,rfl,hJ.up 6 dc dc dc dc dc dc rfl⟩
            ·have hu:=hJ.build HE.o HO.o hL rfl;go_simp;exact⟨_,rfl,hu⟩
            ·have e46:=(ev 3 46 rfl (ax 3 rfl)).trans (hJ.gZ 3 _ rfl (ax 3 rfl));have e50:=ev 7 50 rfl (ax 7 rfl);obtain⟨zb,z1,z2,z3⟩:=hJ.bl (ax 7 rfl) hL;have hall:∀i,i<8→L i=true:=by
              intro i hi;rcases(show i=0∨i=1∨i=2∨i=3∨i=4∨i=5∨i=6∨i=7 by omega)with rfl|rfl|rfl|rfl|rfl|rfl|rfl|rfl
              ·exact ax 0 rfl
              ·exact ax 1 rfl
              ·exact ax 2 rfl
              ·exact ax 3 rfl
              ·exact ax 4 rfl
              ·exact ax 5 rfl
              ·exact ax 6 rfl
              ·exact ax 7 rfl
             refine fF _ X.heap.size (.tmp 46) (.tmp 50) 54 rfl w1.heap.size 56 j0 (.agg #[ah 0,bP,bK 0,aO,au,au,au,ah 0,ah 0]) 9 128 Tryz.underlying54 HJ.o HY0.o HY1.o HY2.o rfl dc _ _ _ (by rw[bF];exact e46) (hJ.old hL) (V 7) 1 _ (by rw[bF];exact e50) (by rw[z1];exact(Row.new z3 dc).mono (aI z3)) rfl Q8.o (by unfold maxLen;omega) om (Nat.le_trans HO.o.bw hJ.st.size) ?_;intro v8 w8 oU lJ Aa;exact⟨v8,rfl,hJ.app HE.o HO.o hL hall rfl oU lJ Aa⟩
            ·have e49:=(ev 6 49 rfl (ax 6 rfl)).trans (hJ.gZ 6 _ rfl (ax 6 rfl));have e51:=ev 8 51 rfl (ax 8 rfl);obtain⟨g,c,hV,-⟩:=hJ.new (ax 8 rfl);rw[hV]at e51;(have hi0:(0:Int)≤(al.length:Int):=by omega);(have hi1:(al.length:Int)<((al.length+1:Nat):Int):=by omega);(have hi2:(al.length:Int)<(al.length:Int)+1:=by omega);have hu:=hJ.index HO.o (ax 8 rfl) rfl hV;go_simp;exact⟨_,rfl,hu⟩
            ·have h8:=ax 8 rfl;have h9:=ax 9 rfl;have h5:=ax 5 rfl;obtain⟨g,c,hV,-,ys,hown,-⟩:=hJ.new h8;have ep:=(ev 9 52 rfl h9).trans ((hJ.ix h9).2 g c hV);obtain⟨cs,c1,c2⟩:=hJ.el h5;have ec:=(ev 5 48 rfl h5).trans c1;rw[hV]at hown;obtain⟨g',c',cur,hg',-,hcur,hsz⟩:=tK hown om;cases hg';have hcl:cs.length=9:=dW.len c2;refine dM 56 (.tmp 52) (.tmp 48) rfl g (al.length*9) 56 cur cs (by rw[bF];exact ep) (by rw[bF];exact ec) hcur (by rw[hcl];exact Tryz.aQ) om (dW.one c2) ?_;intro w6 hb6 hs6;exact⟨undef,rfl,hJ.put HE.o HO.o h8 (fun u hu=>by cases hu) hV c1 hcl hcur hb6 hs6⟩
            ·have e43:=(ev 0 43 rfl (ax 0 rfl)).trans (hJ.gZ 0 _ rfl (ax 0 rfl));go_simp;exact⟨_,rfl,hJ.up 11 dc dc dc dc dc dc rfl⟩
            ·have e53:=(ev 11 53 rfl (ax 11 rfl)).trans (hJ.gZ 11 _ rfl (ax 11 rfl));go_simp;exact⟨_,rfl,hJ.up 12 dc dc dc dc dc dc rfl⟩
            ·have e54:=(ev 12 54 rfl (ax 12 rfl)).trans (hJ.gZ 12 _ rfl (ax 12 rfl));have h8:=ax 8 rfl;have ev8:=ev 8 51 rfl h8;obtain⟨g,c,hV,-⟩:=hJ.new h8;rw[hV]at ev8;have hb:=hJ.blk;rw[hL,if_neg dc]at hb;have q5:=aj hb 4 _ rfl;have z5:=aG hb 4;have hu:=hJ.last (X':=X.setCell ⟨bt,4,none⟩ (.slice (some ⟨g,0,none⟩) (al.length+1) c)) HE.o HO.o h8 (fun u hu=>by cases hu) (by rw[hV];exact aV hb 4 _) (bJ.setCell _ _ iI);go_simp;exact⟨undef,hu⟩
           case hdone=>intro L V X hall hJ;obtain⟨g9,c9,yQ,Ov,Ox,gG,Oy,Oz,wJ,hgb9⟩:=hJ.done ⟨hall 5 dc,hall 8 dc,hall 10 dc,hall 13 dc⟩;rw[show List.range 14=[0,1,2,3,4,5,6,7,8,9,10,11,12,13] from rfl];simp only[kC,fU,List.getElem?_toArray,List.getElem?_cons_zero,List.getElem?_cons_succ,Option.bind_some,Act.put,List.setIfInBounds_toArray,List.set_cons_zero,List.set_cons_succ];clear hJ hall;have HEND9:=ak (kK.o g9 c9 yQ X Ov Ox gG Oy Oz wJ);go_wp2_with fail;go_meet;case rel=>exact⟨_,_,HEND9.o⟩
          case rest=>
           obtain⟨KJ,KL,hls⟩:=hcut;obtain⟨w5,rfl⟩:=aU wc;have kY:=ak hls;clear hls;have p0:=bY.o w5 kY.o.st;go_wp2_with fail;cases hc:bD R.l j9 [44]with
           |true=>
            have HC:=ak hc;clear hc;refine(cO R HL.o ⟨#[44]⟩ _ j9 d kY.o.rd dc HC.o).mono ?_;rintro e wa ⟨rfl,hra,sa⟩;have rJ:=ak (kY.o.read hrb om hra sa);(have HRI:Hid (r=(lQ gn R.l (j9+1) d GU (al++[ex])).bind fun p j=>.ok (nm,p.1,p.2) j):=by show _=_;rw[HRG.o,HC.o,if_pos rfl]);clear hra sa p0;go_wp2_with fail;go_roundg gn;case rel=>exact⟨by omega,j9+1,GU,al++[ex],_,KJ,KL,HRI.o,rJ.o⟩
            case measure=>omega
           |false=>
            have HC:=ak hc;clear hc;refine(dJ R HL.o ⟨#[44]⟩ _ j9 d kY.o.rd dc HC.o).mono ?_;rintro e wa ⟨rfl,hra,sa⟩;have rJ:=ak (kY.o.read hrb om hra sa);(have HRI:Hid (r=((aH R.l j9 [125]).bind fun _ j=>.ok (GU,al++[ex]) j).bind fun p j=>.ok (nm,p.1,p.2) j):=by show _=_;rw[HRG.o,HC.o,if_neg dc]);clear hra sa p0;have p0:=bY.o wa rJ.o.st;go_wp2_with fail;refine(dH R HL.o wa.heap.size ⟨#[125]⟩ _ j9 d (rJ.o.rd.quiet (bJ.alloc _)) dc (aj (aA _ _) 0 _ rfl)).mono ?_;rintro e wb hp;have hp2:aJ R d iC (aH R.l j9 [125]) _ e wb:=hp;cases hn:aH R.l j9 [125]with
            |out=>exact(dw hn).elim
            |err c ln col=>rw[hn]at hp2;obtain⟨rfl,sb⟩:=hp2;refine⟨rfl,aZ.aX (c:=c) (ln:=ln) (col:=col) (by rw[HRI.o,hn];rfl) rfl ?_⟩;exact((cZ.o.mono fe).trans rJ.o.st).trans ((((Step.refl (·=R.rb) _).alloc _).trans sb).mono il)
            |ok u2 jz=>have HNC:=ak hn;rw[hn]at hp2;obtain⟨⟨v,rfl,rfl⟩,tX,sb⟩:=hp2;have GV:=ak (rJ.o.read hrb om tX (((Step.refl (·=R.rb) _).alloc _).trans sb));clear hn tX sb p0 hp;have hs1:=cZ.o.size;go_wp2_with fail;refine bodyPost_end (results_none rfl _ _ _) rfl ?_;refine aZ.dK (a:=(nm,GU,al++[ex])) (j:=jz) (by rw[HRI.o,HNC.o];rfl) rfl ⟨KL,_,KJ,GV.o.blk,OJ.o,GV.o.sz,di.fA GV.o.on (fun q hq=>by have:=(GV.o.on.lt q hq).1;omega),dG.mono (fun q _ hq=>by have:=hq.1;omega) _ _ GV.o.el,di.fA GV.o.oa (fun q hq=>by have:=(GV.o.oa.lt q hq).1;omega)⟩ GV.o.rd ((cZ.o.mono fe).trans GV.o.st)
end Go.Proofs.YtppekkbaoimpgaaGreat
