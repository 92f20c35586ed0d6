/- Nmv, Rg, Nmw, Nmx, Nmy -/
import Derived.Test.YtppekkbaoimpgaaGreatPkP
import Derived.DeepKeys4
set_option maxRecDepth 100000
set_option maxHeartbeats 8000000
namespace Go.Proofs.YtppekkbaoimpgaaGreat
open Go.RowKit
open Vt
set_option maxRecDepth 100000
set_option maxHeartbeats 4000000
def stepW (T:Tab) (x:It) (st:List ByteArray×List ByteArray) (s:ByteArray):List ByteArray×List ByteArray:=if(T.st s).isSome&& !(x.gen.types.any (eqS s))&& !(st.1.any (eqS s))then(st.1++[s],st.2++[s])else st
def yh (T:Tab) (x:It) (st:List ByteArray×List ByteArray) (p:Pm):List ByteArray×List ByteArray:=(jK p.ty).foldl (stepW T x) st
def jG (T:Tab):Nat→List ByteArray→List ByteArray→Option (List ByteArray)
 |0,_,_=>none
 |_+1,[],out=>some out
 |f+1,t::r,out=>jG T f (((T.get T.st t).getD vO).fields.foldl (yh T ((T.get T.st t).getD vO)) (out,r)).2 (((T.get T.st t).getD vO).fields.foldl (yh T ((T.get T.st t).getD vO)) (out,r)).1
def Yy (a b:List ByteArray×List ByteArray):Prop:=a.1.length≤b.1.length∧b.2.length+a.1.length=a.2.length+b.1.length
theorem Yy.trans {a b c:List ByteArray×List ByteArray} (h:Yy a b) (k:Yy b c):Yy a c:=⟨Nat.le_trans h.1 k.1,by have:=h.2;have:=k.2;omega⟩
theorem Ea (T:Tab) (x:It) (st:List ByteArray×List ByteArray) (s:ByteArray):Yy st (stepW T x st s):=by
 unfold stepW;split
 ·exact⟨by simp,by simp;omega⟩
 ·exact⟨Nat.le_refl _,Nat.add_comm _ _▸rfl⟩
theorem qF {α:Type} (f:List ByteArray×List ByteArray→α→List ByteArray×List ByteArray) (hf:∀st a,Yy st (f st a)):∀(l:List α) (st:List ByteArray×List ByteArray),Yy st (l.foldl f st)
 |[],_=>⟨Nat.le_refl _,Nat.add_comm _ _▸rfl⟩
 |a::r,st=>(hf st a).trans (qF f hf r (f st a))
theorem NH (T:Tab) (x:It) (st:List ByteArray×List ByteArray) (p:Pm):Yy st (yh T x st p):=qF _ (Ea T x) _ _
theorem Bh (T:Tab):∀(f:Nat) (todo out res:List ByteArray),jG T f todo out=some res→out.length≤res.length
 |0,_,_,_,h=>by rw[jG]at h;cases h
 |f+1,[],out,res,h=>by rw[jG]at h;cases h;exact Nat.le_refl _
 |f+1,t::r,out,res,h=>by
  rw[jG]at h
  exact Nat.le_trans (qF _ (NH T _) _ (out,r)).1 (Bh T f _ _ res h)
mutual
theorem NI {w:World} {P:Nat→Prop}:∀(t:Ty) (cs:List Value),iG w P t cs→∀s∈jK t,s.size≤9223372036854775807
 | .mk k n _ _ _ ar _ _,cs,h,s,hs=>by
  rw[iG]at h
  obtain⟨_,_,xs,-,hn,-,-,-,hta,-⟩:=h
  rw[jK]at hs
  split at hs
  ·
   rcases List.mem_cons.1 hs with rfl|hs
   ·
    exact hn
   ·
    exact JO ar xs hta s hs
  ·
   cases hs
theorem JO {w:World} {P:Nat→Prop}:∀(l:List Ty) (xs:List Value),fP w P l xs→∀s∈lM l,s.size≤9223372036854775807
 |[],_,_,s,hs=>by rw[lM]at hs;cases hs
 |t::r,xs,h,s,hs=>by
  rw[fP]at h
  obtain⟨c1,c2,-,h1,h2⟩:=h
  rw[lM]at hs
  rcases List.mem_append.1 hs with hs|hs
  ·
   exact NI t c1 h1 s hs
  ·
   exact JO r c2 h2 s hs
end
theorem fold_at {α β:Type} (f:β→α→β) {l:List α} {k:Nat} {a:α} (h:l[k]?=some a) (st:β):(l.drop k).foldl f st=(l.drop (k+1)).foldl f (f st a):=by obtain⟨hk,rfl⟩:=List.getElem?_eq_some_iff.1 h;rw[List.drop_eq_getElem_cons hk,List.foldl_cons]
structure En (wA:World) (oA tA:Value) (X:World) (vo vt:Value):Prop where
 st:Step (fun q=>oA.ownBlock=some q∨tA.ownBlock=some q) wA X
 no:vo.ownBlock=oA.ownBlock∨∀q,vo.ownBlock=some q→wA.heap.size≤q
 nt:vt.ownBlock=tA.ownBlock∨∀q,vt.ownBlock=some q→wA.heap.size≤q
theorem En.refl (wA:World) (oA tA:Value):En wA oA tA wA oA tA:=⟨Step.refl _ _,.inl rfl,.inl rfl⟩
theorem En.quiet {wA X X':World} {oA tA vo vt:Value} (h:En wA oA tA X vo vt) (hs:Step (fun _=>False) X X'):En wA oA tA X' vo vt:=⟨h.st.trans (hs.mono fun _ _ h=>h.elim),h.no,h.nt⟩
theorem En.trans {wA X X':World} {oA tA vo vt vo' vt':Value} (h:En wA oA tA X vo vt) (k:En X vo vt X' vo' vt'):En wA oA tA X' vo' vt' where
 st:=h.st.then k.st (fun i hi e=>by
  rcases e with e|e
  ·
   rcases h.no with h1|h1
   ·
    exact .inl (h1▸e)
   ·
    have:=h1 i e;omega
  ·
   rcases h.nt with h1|h1
   ·
    exact .inr (h1▸e)
   ·
    have:=h1 i e;omega)
 no:=by
  rcases k.no with h1|h1
  ·
   rw[h1];exact h.no
  ·
   exact .inr fun q hq=>Nat.le_trans h.st.size (h1 q hq)
 nt:=by
  rcases k.nt with h1|h1
  ·
   rw[h1];exact h.nt
  ·
   exact .inr fun q hq=>Nat.le_trans h.st.size (h1 q hq)
theorem En.Um {wA X X':World} {oA tA vo vt v6:Value} (h:En wA oA tA X vo vt) (hgrow:X.grownBy X' vo.ownBlock) (hat:v6.ownBlock=vo.ownBlock∨v6.ownBlock=some X.heap.size):En wA oA tA X' v6 vt:=
 h.trans ⟨(bM hgrow).mono (fun _ _ h=>.inl h),hat.imp id (fun h1 q hq=>by rw[h1]at hq;cases hq;exact Nat.le_refl _),.inl rfl⟩
theorem En.room {wA X:World} {oA tA vo u:Value} {g o n c i n2:Nat} (h:En wA oA tA X vo (.slice (some ⟨g,o,none⟩) n c)):En wA oA tA (X.setCell ⟨g,i,none⟩ u) vo (.slice (some ⟨g,o,none⟩) n2 c):=
 h.trans ⟨bJ.setCell _ _ (fun _=>.inr rfl),.inl rfl,.inl rfl⟩
theorem En.grow {wA X X':World} {oA tA vo vt v6:Value} {e:TypeId} {size n:Nat} {xs:List Value} (h:En wA oA tA X vo vt) (hown:X'.ownsRow X.heap.size e size v6 n xs) (hgrow:X.grownBy X' none):En wA oA tA X' vo v6:=
 h.trans ⟨(bM hgrow).mono (fun _ _ h=>nomatch h),.inl rfl,.inr fun q hq=>(hown.lt q hq).1⟩
theorem F6.olds {w:World} {base g o n c:Nat} {l:List ByteArray} (h:F6 w base (.slice (some ⟨g,o,none⟩) n c) l):n=l.length∧(∀(j:Nat) u,(mJ l)[j]?=some u→w.cell? ⟨g,o+j,none⟩=some u)∧(n+1≤c→∀j,j<[Value.string ⟨#[]⟩].length→(w.cell? ⟨g,o+n*1+j,none⟩).isSome=true∧w.frozen? ⟨g,o+n*1+j,none⟩=false)∧n≤c∧c≤maxLen:=by
 obtain⟨g',o',c',cur,hv,h1,h2,h3,h4,h5,h6⟩:=h;cases hv;refine⟨rfl,fun j u hu=> ?_,fun hr j hj=> ?_,h3,h5⟩
 ·rw[mJ,List.getElem?_map]at hu;obtain⟨x,hx,rfl⟩:=Option.map_eq_some_iff.1 hu;exact aj h2 _ _ (h6 j x hx)
 ·simp at hj;subst hj;have hlt:o+l.length*1+0<cur.size:=by omega
  exact⟨by rw[aj h2 _ _ (Array.getElem?_eq_getElem hlt)];rfl,aG h2 _⟩
theorem sO.off {w0 X:World} {vo vt:Value} {out todo:List ByteArray} (h:sO w0 X vo vt out todo) {b:Nat} (hb:X.heap.size≤b):¬(vo.ownBlock=some b∨vt.ownBlock=some b):=by
 rintro(e|e)
 ·have:=(h.out.lt b e).2;omega
 ·have:=(h.todo.lt b e).2;omega
theorem JP {IM:World→Nat→(ByteArray→ByteArray→Option Nat)→Prop} (him:vP IM) (cb tb:Nat) (T:Tab) (P:Nat→Prop) (v:Value) (name:ByteArray) (F:Nat) (res:List ByteArray) (w:World) (hP:∀k,P k→k<w.heap.size) (hT:TabAt IM tb T w P) (hcb:w.heap[cb]?=some (.cells #[dY tb 0,v] 130 (0,0))) (hfd:∀x∈T.items,∀p∈x.fields,(jK p.ty).length≤1000000) (hns:name.size≤9223372036854775807) (hw:jG T F [name] []=some res) (hrl:res.length≤1000000):Calls Tryz.prog 105 #[.pointer (some ⟨cb,0,none⟩),.string name] w (yg res w):=by
 obtain⟨i0,hi0,hz0,hz1,hz2⟩:=info_parts Tryz.zC;have HI:=ak hi0;have HZ0:=ak hz0;have HZ1:=ak hz1;have HZ2:=ak hz2;have HW:=ak hw;have OJ:=ak hns;have HKT:Hid (∀X,Step (fun _=>False) w X→TabAt IM tb T X P):=fun X hX=>(qA him tb T).step hX (fun _ _ h=>h) hT;have IJ:Hid (∀X,Step (fun _=>False) w X→X.cell? ⟨cb,0,none⟩=some (.pointer (some ⟨tb,0,none⟩))):=fun X hX=>aj (hX.keep hcb (fun h=>h)) 0 _ rfl;have HP:=ak hP;have w_:Hid (∀t,∀p∈((T.get T.st t).getD vO).fields,(jK p.ty).length≤1000000):=by
  intro t p hp;cases hg:T.get T.st t with
  |none=>rw[hg]at hp;cases hp
  |some x=>rw[hg]at hp;rw[Tab.get]at hg;obtain⟨i,-,hi⟩:=Option.bind_eq_some_iff.1 hg;exact hfd x (List.mem_of_getElem? hi) p hp
 clear hi0 hz0 hz1 hz2 hw hT hcb hP hfd hns;go_enter Tryz.func105,Tryz.ntmps105;go_wp2_with fail;have hst0:sO w (w.alloc (.cells #[aY name] 9)) (.slice none 0 0) (.slice (some ⟨w.heap.size,0,none⟩) 1 1) [] [name]:=
  ⟨bJ.alloc _,⟨rfl,.inl ⟨rfl,rfl⟩⟩,F6.fA ⟨rfl,.inr ⟨w.heap.size,1,#[.string name],rfl,Nat.le_refl _,aA _ _,Nat.le_refl _,by decide,rfl,rfl⟩⟩ (by simp),(fun q h=>nomatch h)⟩
 have HST0:=ak hst0;clear hst0;go_loopg [5,6,7,8,10,12,13,14] F (fun gg s5 s6 _ _ _ _ _ _ wr=>∃(out todo:List ByteArray) (f:Nat),sO w wr s5 s6 out todo∧f≤gg∧jG T f todo out=some res∧todo.length≤out.length+1∧∀s∈todo,s.size≤9223372036854775807);case atStart=>exact⟨[],[name],F,HST0.o,Nat.le_refl _,HW.o,by simp,fun s hs=>by rw[List.mem_singleton.1 hs];exact OJ.o⟩
 case round=>
  obtain⟨out,todo,f,hwi,hfg,hwf,htl,hts⟩:=hrel;have U5:=ak hwi;obtain⟨vo1,vo2,Xg⟩:=a_ hwi.out;subst Xg;cases todo with
  |nil=>
   obtain⟨g,o,c,cur,hq,-⟩:=hwi.todo;subst hq;have HRES:Hid (out=res):=by
    show _=_;cases f with
    |zero=>rw[jG]at hwf;cases hwf
    |succ f=>rw[jG]at hwf;exact Option.some.inj hwf
   clear hwi hwf htl hts;go_wp2_with fail;go_ret;exact⟨⟨_,rfl,by rw[←HRES.o];exact U5.o.out⟩,U5.o.st⟩
  |cons t r=>
   obtain⟨f,rfl⟩:∃f',f=f'+1:=by
    cases f with
    |zero=>rw[jG]at hwf;cases hwf
    |succ f=>exact⟨f,rfl⟩
   obtain⟨x,hx⟩:=aU ((T.get T.st t).getD vO);rw[jG,←hx]at hwf;obtain⟨fin,hfin⟩:=aU (x.fields.foldl (yh T x) (out,r));rw[←hfin]at hwf;have HFIN:=ak hfin;have HWF:=ak hwf;have pO:=ak (Bh T f _ _ res hwf);have HX:=ak hx;have HTS:=ak hts;(have HTL:Hid (r.length≤out.length+1):=by show _≤_;simp at htl;omega);obtain⟨g,o,c,hq,hcell,hc0,hrc,hqr⟩:=hwi.todo.first;subst hq;have HQR:=ak hqr;have BB:=ak hcell;obtain⟨ok,hok⟩:=aU (T.st t).isSome;(have Qs:Hid (∀X,Step (fun _=>False) wr X→Calls Tryz.prog 25 #[.pointer (some ⟨tb,0,none⟩),.string t] X (fun e w'=>(∃cs:List Value,e=.returned (.tuple #[.agg cs.toArray,dV ok])∧nX w' P x cs)∧Step (fun _=>False) X w')):=by rw[hok,hx];intro X hX;exact H_ him tb T _ t X (HKT.o X (U5.o.st.trans hX)) (hts t (List.mem_cons_self)) (fun k hk=>Nat.lt_of_lt_of_le (HP.o k hk) (U5.o.st.trans hX).size));(have L6:Hid (∀X,Step (fun _=>False) wr X→X.cell? ⟨cb,0,none⟩=some (.pointer (some ⟨tb,0,none⟩))∧X.cell? ⟨g,o,none⟩=some (.string t)):=by intro X hX;exact⟨IJ.o X (U5.o.st.trans hX),hX.cell BB.o (fun h=>h)⟩);have JL:Hid (U3 wr 19 (fun X cs=>nX X P x cs)):=⟨fun X X' cs hs h=>aT.step _ _ hs (fun k hk e=>by have:=HP.o k hk;have:=U5.o.st.size;omega) h,fun X cs h=>⟨aT.len _ _ h,aT.one _ _ h⟩⟩;(have hn1:(0:Int)<((r.length+1:Nat):Int):=by omega);clear hwi hwf htl hts hx hok hqr hcell hfin;(go_upto_region 4 with fail);go_cut [7,8] (fun s7 s8 wx=>∃(b7:Nat) (ci:List Value),s7=.pointer (some ⟨b7,0,none⟩)∧s8=.bool ok∧wr.heap.size≤b7∧wx.heap[b7]?=some (.cells ci.toArray 51 (0,0))∧nX wx P x ci∧Step (fun _=>False) wr wx);case first=>
    refine jR kr (P_ wr (.pointer (some ⟨cb,0,none⟩)) (.pointer (some ⟨cb,0,none⟩)) (.pointer (some ⟨tb,0,none⟩)) (.slice (some ⟨g,o,none⟩) (r.length+1) c) (.pointer (some ⟨g,o,none⟩)) (.string t) (fun X cs=>nX X P x cs) ok 51 19) 14 rfl kr kr kr kr ?h0 ?hs ?hdone;case h0=>exact P_.zero (bJ.drew)
    case hs=>
     refine⟨?_,?_,?_,?_,?_,?_,?_,?_,?_,?_,?_,?_,?_,?_,trivial⟩
     ·intro L V X a ev dn hL ax hJ;have o0:=dn 0 rfl;change a.tmps[0]?.getD undef=.pointer (some ⟨cb,0,none⟩)at o0;go_simp;exact⟨_,rfl,{hJ with p0:=fun _=>rfl}⟩
     ·intro L V X a ev dn hL ax hJ;have e21:=(ev 0 21 rfl (ax 0 rfl)).trans (hJ.p0 (ax 0 rfl));go_simp;exact⟨_,rfl,{hJ with p1:=fun _=>rfl}⟩
     ·intro L V X a ev dn hL ax hJ;have e22:=(ev 1 22 rfl (ax 1 rfl)).trans (hJ.p1 (ax 1 rfl));go_simp;exact⟨_,rfl,{hJ with p2:=fun _=>rfl}⟩
     ·intro L V X a ev dn hL ax hJ;have e23:=(ev 2 23 rfl (ax 2 rfl)).trans (hJ.p2 (ax 2 rfl));obtain⟨k1,k2⟩:=L6.o X hJ.st;go_simp;exact⟨_,rfl,{hJ with p3:=fun _=>rfl}⟩
     ·intro L V X a ev dn hL ax hJ;have o4:=dn 6 rfl;change a.tmps[6]?.getD undef=.slice (some ⟨g,o,none⟩) (r.length+1) c at o4;go_simp;exact⟨_,rfl,{hJ with p4:=fun _=>rfl}⟩
     ·intro L V X a ev dn hL ax hJ;have e25:=(ev 4 25 rfl (ax 4 rfl)).trans (hJ.p4 (ax 4 rfl));go_simp;exact⟨_,rfl,{hJ with p5:=fun _=>rfl}⟩
     ·intro L V X a ev dn hL ax hJ;have e26:=(ev 5 26 rfl (ax 5 rfl)).trans (hJ.p5 (ax 5 rfl));obtain⟨k1,k2⟩:=L6.o X hJ.st;go_simp;exact⟨_,rfl,{hJ with p6:=fun _=>rfl}⟩
     ·intro L V X a ev dn hL ax hJ;have e24:=(ev 3 24 rfl (ax 3 rfl)).trans (hJ.p3 (ax 3 rfl));have e27:=(ev 6 27 rfl (ax 6 rfl)).trans (hJ.p6 (ax 6 rfl));go_simp;refine(Qs.o X hJ.st).mono ?_;rintro e w6 ⟨⟨cs,rfl,hat⟩,h6⟩;exact⟨_,rfl,{hJ.step JL.o h6 with p7:=fun _=>⟨cs,rfl,hat⟩}⟩
     ·intro L V X a ev dn hL ax hJ;obtain⟨cs,y1,y2⟩:=hJ.p7 (ax 7 rfl);have e28:=(ev 7 28 rfl (ax 7 rfl)).trans (y1);go_simp;exact⟨_,rfl,{hJ with p8:=fun _=>⟨cs,rfl,y2⟩}⟩
     ·intro L V X a ev dn hL ax hJ;obtain⟨cs,y1,y2⟩:=hJ.p8 (ax 8 rfl);have e20:=(ev 8 20 rfl (ax 8 rfl)).trans (y1);go_simp;exact⟨_,rfl,{hJ with p9:=fun _=>⟨cs,rfl,y2⟩}⟩
     ·intro L V X a ev dn hL ax hJ;obtain⟨cs,y1,y2⟩:=hJ.p8 (ax 8 rfl);have e20:=(ev 8 20 rfl (ax 8 rfl)).trans (y1);go_simp;exact⟨_,rfl,{hJ with p10:=fun _=>rfl}⟩
     ·intro L V X a ev dn hL ax hJ;go_simp;exact⟨_,rfl,hJ.TN JL.o _ rfl hL⟩
     ·intro L V X a ev dn hL ax hJ;obtain⟨b9,c9,y1,y2,y3,y4,-⟩:=hJ.p11 (ax 11 rfl);obtain⟨cs,z1,z2⟩:=hJ.p9 (ax 9 rfl);obtain⟨z3,z4⟩:=JL.o.2 _ _ z2;have e7:=(ev 11 7 rfl (ax 11 rfl)).trans (y1);have e29:=(ev 9 29 rfl (ax 9 rfl)).trans (z1);refine dM 51 (.tmp 7) (.tmp 29) rfl b9 0 51 c9 cs (by rw[bF];exact e7) (by rw[bF];exact e29) y4 (by rw[z3];exact Tryz.dF) om z4 ?_;intro w9 gu hs9;rw[BZ om]at gu;exact⟨undef,rfl,hJ.up12 JL.o y1 (ax 11 rfl) z2 undef gu hs9⟩
     ·intro L V X a ev dn hL ax hJ;have e30:=(ev 10 30 rfl (ax 10 rfl)).trans (hJ.p10 (ax 10 rfl));go_simp;exact⟨_,rfl,{hJ with p13:=fun _=>rfl}⟩
    case hdone=>intro L V X hall hJ;obtain⟨b8,c8,h1,h2,-,h4,h5⟩:=hJ.p11 (hall 11 dc);obtain⟨cs8,rfl,hcs⟩:=h5 (hall 12 dc);have h12:=hJ.p13 (hall 13 dc);have hst:=hJ.st;rw[show List.range 14=[0,1,2,3,4,5,6,7,8,9,10,11,12,13] from rfl];simp only[kC,fU,List.getElem?_toArray,List.getElem?_cons_zero,List.getElem?_cons_succ,Option.bind_some,Act.put,List.setIfInBounds_toArray,List.set_cons_zero,List.set_cons_succ];go_wp2_with fail;go_meet;case rel=>exact⟨b8,cs8,by first|exact h1|rfl,by first|exact h12|rfl,h2,h4,hcs,hst⟩
   case rest=>
    obtain⟨b7,ci,rfl,rfl,hb7,hblk,hat,hst⟩:=hcut;obtain⟨w7,rfl⟩:=aU wc;have IA:=ak hblk;obtain⟨vl7,vt7,vf7,vw7,vm7,ct7,⟨-,-,-,-,ic4,ic5,-,-,-,-⟩,⟨-,igt,ifs,-,-⟩,-⟩:=hat.get;obtain⟨at7,act7,rfl⟩:=igt.2.parts;obtain⟨af7,cf7,rfl⟩:=ifs.parts;have HGTY:=ak igt;have HFS:=ak ifs;have HIC4:=ak ic4;obtain⟨fl,hfl⟩:=aU x.fields;(have HFDX:Hid (∀p∈fl,(jK p.ty).length≤1000000):=by rw[hfl,HX.o];exact w_.o t);rw[←hfl]at HFIN HFS ic5;have hw70:sO w w7 (.slice vo1 out.length vo2) (.slice (some ⟨g,o,none⟩) (r.length+1) c) out (t::r):=U5.o.quiet hst;have HW70:=ak hw70;have i5:=aj IA.o 5 _ (by rw[List.getElem?_toArray];exact ic5);have hlt7:=aI IA.o;have HQ7:Hid (F6 w7 w.heap.size (.slice (some ⟨g,o+1,none⟩) r.length (c-1)) r):=HQR.o.keep hst (fun _ _ h=>h);clear hblk hat hst ic4 ic5 igt ifs hfl hw70 Qs L6 JL hn1;(go_upto_region 5 with fail);go_cut [6] (fun s6 wx=>w7=wx∧F6 w7 w.heap.size s6 r∧s6.ownBlock=some g);case first=>
     clear i5;(have hc1:1≤r.length+1:=by omega);by_cases hcc:c=1
     ·subst hcc;obtain rfl:r=[]:=List.length_eq_zero_iff.1 om;go_wp2_with fail;go_meet;case rel=>refine⟨rfl,?_,rfl⟩;obtain⟨g',o',c',cur,hv,y1,y2,-,y4,-⟩:=HW70.o.todo;cases hv;exact⟨g,o,0,cur,rfl,y1,y2,Nat.le_refl _,by omega,by decide,fun i x hx=>by simp at hx⟩
     ·(have hc2:1≤c:=by omega);go_wp2_with fail;go_meet;case rel=>exact⟨rfl,HQ7.o,rfl⟩
    case rest=>
     obtain⟨hwx,hq7,hg7⟩:=hcut;subst hwx;obtain⟨g6,o6,c6,cur6,hv6,hq6⟩:=hq7;subst hv6;(obtain rfl:g6=g:=by cases hg7;rfl);have hw7:sO w w7 (.slice vo1 out.length vo2) (.slice (some ⟨g6,o6,none⟩) r.length c6) out r:=
      {HW70.o with todo:=⟨g6,o6,c6,cur6,rfl,hq6⟩,ne:=fun q hq e=>HW70.o.ne q hq e}
     have HW7:=ak hw7;have HO7:Hid (¬((Value.slice vo1 out.length vo2).ownBlock=some b7∨(Value.slice (some ⟨g6,o6,none⟩) r.length c6).ownBlock=some b7)):=U5.o.off hb7;have HPO:Hid (∀k,P k→¬((Value.slice vo1 out.length vo2).ownBlock=some k∨(Value.slice (some ⟨g6,o6,none⟩) r.length c6).ownBlock=some k)):=by
      intro k hk e;have h1:=HP.o k hk;rcases e with e|e
      ·have:=(HW7.o.out.lt k e).1;omega
      ·have:=(HW7.o.todo.lt k e).1;omega
     have HTS7:Hid (∀s∈r,s.size≤9223372036854775807):=fun s hs=>HTS.o s (List.mem_cons_of_mem _ hs);clear hq6 hg7 hw7;obtain⟨go1,rfl⟩:=aU (gk:Nat);obtain⟨wo,rfl⟩:=aU wr;go_wp2_with fail;clear i5;go_loopg [5,6,10,12,13,14,36] fl.length (fun g9 s5 s6 _ _ _ _ s36 wr=>∃(k:Nat) (out1 vX:List ByteArray),s36=.int .i64 k∧k≤fl.length∧fl.length-k≤g9∧sO w wr s5 s6 out1 vX∧En w7 (.slice vo1 out.length vo2) (.slice (some ⟨g6,o6,none⟩) r.length c6) wr s5 s6∧(fl.drop k).foldl (yh T x) (out1,vX)=fin∧vX.length≤out1.length+1∧∀s∈vX,s.size≤9223372036854775807);case atStart=>exact⟨0,out,r,rfl,Nat.zero_le _,by omega,HW7.o,En.refl _ _ _,HFIN.o.symm,HTL.o,HTS7.o⟩
     case round=>
      obtain⟨k,out1,vX,rfl,hk,hgk,hw1,hm1,hf1,htl1,hts1⟩:=hrel;have HW1:=ak hw1;have EX:=ak hm1;have HF1:=ak hf1;have HTL1:=ak htl1;have HTS1:=ak hts1;by_cases hlt:k<fl.length
      ·obtain⟨p,hx⟩:∃p,fl[k]?=some p:=⟨fl[k],List.getElem?_eq_getElem hlt⟩;obtain⟨xs,⟨a',c',hva,hcl,hcm,-,hra⟩,hls⟩:=(bQ fK).step _ _ hm1.st (fun k hk e=>HPO.o k hk e) HFS.o;(obtain⟨rfl,rfl⟩:af7=a'∧cf7=c':=by cases hva;exact⟨rfl,rfl⟩);obtain⟨gp,op,rfl,-,-,hcell⟩:=hra om;obtain⟨cp,hat,hget⟩:=lG.get fK k hls hx;(have iH:Hid (∀(jj:Nat) v,cp[jj]?=some v→wr.cell? ⟨gp,op+k*11+jj,none⟩=some v):=by show∀jj v,_;intro jj v hv;rw[Nat.add_assoc];exact hcell _ _ (hget jj v hv));(have mX:Hid ((Tryz.prog.info? 167).map (·.size)=some cp.length):=by show _=_;rw[fK.len _ _ hat];exact Tryz.sK);have HL11:=ak (fK.len _ _ hat);have DL:=ak (fK.one _ _ hat);obtain⟨w8,hw8⟩:=aU (wr.alloc (.cells cp.toArray 167));(have La:Hid (Step (fun _=>False) wr w8):=by show Step _ _ _;rw[hw8];exact bJ.alloc _);(have J9:Hid (w8.heap[wr.heap.size]?=some (.cells cp.toArray 167 (0,0))):=by show _=_;rw[hw8];exact aA _ _);have HW8:=ak hw8;obtain⟨-,-,-,ct,hty,hct⟩:=hat.get;(have EO:Hid (∀(jj:Nat) v,ct[jj]?=some v→w8.cell? ⟨wr.heap.size,1+jj,none⟩=some v):=by show∀jj v,_;intro jj v hv;exact aj J9.o _ _ (by rw[List.getElem?_toArray];exact hct _ _ hv));(have Mc:Hid ((Tryz.prog.info? 46).map (·.size)=some ct.length):=by show _=_;rw[hty.len];exact Tryz.fM);have HHS:=ak (NI p.ty ct hty);have HHC:=ak (JM P (SizeOf.sizeOf p.ty+1) p.ty ct w8 (Nat.lt_succ_self _) (iG.step La.o (fun _ _ h=>h) _ _ hty) (HFDX.o p (List.mem_of_getElem? hx)));obtain⟨hs,hhs⟩:=aU (jK p.ty);obtain⟨st2,hst2⟩:=aU (yh T x (out1,vX) p);(have HF2:Hid ((fl.drop (k+1)).foldl (yh T x) st2=fin):=by show _=_;rw[hst2,←fold_at _ hx];exact hf1);rw[yh,←hhs]at hst2;have ou:=ak hst2;(have hhl:hs.length≤1000000:=by rw[hhs];exact HFDX.o p (List.mem_of_getElem? hx));unfold yg at HHC;rw[←hhs]at HHC HHS;(have hlb:fl.length≤9223372036854775807:=by omega);obtain⟨vo3,vo4,Xg⟩:=a_ hw1.out;subst Xg;obtain⟨g3,o3,c3,vW,hv3,-⟩:=hw1.todo;subst hv3;clear hx hva hcl hcm hra hcell hls hat hget hw8 hty hct hhs hst2 hw1 hm1 hf1 htl1 hts1;go_wp2_with (first
        |(refine ay rfl 167 (.tmp 38) rfl gp (op+k*11) rfl cp _ iH.o Tryz.underlying167 rfl mX.o ?_)
        |(refine bW rfl 167 (.tmp 10) (.tmp 39) rfl _ cp rfl rfl mX.o (by rw[HL11.o];rfl) DL.o ?_;rw[←HW8.o])
        |(refine ay rfl 46 (.tmp 40) rfl wr.heap.size 1 rfl ct _ EO.o Tryz.underlying46 rfl Mc.o ?_))
       refine HHC.o.mono ?_;rintro e w9 ⟨⟨v9,rfl,gG⟩,h9⟩;have Vr:=ak (La.o.trans h9);have HW9:=ak (HW1.o.quiet Vr.o);have HR9:Hid (di w9 (fun q=>v9.ownBlock=some q) v9 hs.length (mJ hs)):=di.fA gG (fun _ h=>h);(have HO9:Hid (∀q,v9.ownBlock=some q→¬((Value.slice vo3 out1.length vo4).ownBlock=some q∨(Value.slice (some ⟨g3,o3,none⟩) vX.length c3).ownBlock=some q)):=by intro q hq;exact HW1.o.off (Nat.le_trans La.o.size (gG.lt q hq).1));obtain⟨va9,vc9,rfl⟩:=a_ gG;clear gG h9;obtain⟨go2,rfl⟩:=aU (gk:Nat);obtain⟨wq,rfl⟩:=aU wr;go_wp2_with fail;go_loopg [5,6,12,13,14,44] hs.length (fun g9 s5 s6 _ _ _ s44 wr=>∃(j:Nat) (oO kT:List ByteArray),s44=.int .i64 j∧j≤hs.length∧hs.length-j≤g9∧sO w wr s5 s6 oO kT∧En w9 (.slice vo3 out1.length vo4) (.slice (some ⟨g3,o3,none⟩) vX.length c3) wr s5 s6∧(hs.drop j).foldl (stepW T x) (oO,kT)=st2∧kT.length≤oO.length+1∧∀s∈kT,s.size≤9223372036854775807);case atStart=>exact⟨0,out1,vX,rfl,Nat.zero_le _,by omega,HW9.o,En.refl _ _ _,ou.o.symm,HTL1.o,HTS1.o⟩
       case round=>
        obtain⟨j,oO,kT,rfl,hj,hgj,hw2,hm2,hf2,htl2,hts2⟩:=hrel;have HW2:=ak hw2;have qV:=ak hm2;have HFJ:=ak hf2;have Qa:=ak htl2;have Un:=ak hts2;by_cases hlj:j<hs.length
        ·obtain⟨s,hx⟩:∃s,hs[j]?=some s:=⟨hs[j],List.getElem?_eq_getElem hlj⟩;obtain⟨a',c',hva,hcl,hcm,-,hra⟩:=HR9.o.step hm2.st (fun q hq e=>HO9.o q hq e);(obtain⟨rfl,rfl⟩:va9=a'∧vc9=c':=by cases hva;exact⟨rfl,rfl⟩);obtain⟨gh,oh,rfl,-,-,hcell⟩:=hra om;have f0:=hcell j _ (qU _ j s hx);have hta:=HKT.o wr hw2.st;obtain⟨vi,ms,mt,mf,mi,t0,-,⟨-,t4⟩,-⟩:=hta.ex;have Xz:=ak (HHS.o s (List.mem_of_getElem? hx));have hlk:=t4.look s Xz.o;have k0:=IJ.o wr hw2.st;have t2:=aj t0 1 _ rfl;have oV:=ak ((EX.o.quiet Vr.o).trans hm2);have HB7r:=ak (oV.o.st.keep IA.o HO7.o);have i4:=aj HB7r.o 4 _ (by rw[List.getElem?_toArray];exact HIC4.o);have Yq:Hid (Calls Tryz.prog 104 #[.slice at7 x.gen.types.length act7,.string s] wr fun e w'=>e=.returned (.bool (x.gen.types.any (eqS s)))∧Step (fun _=>False) wr w'):=
          jM P s _ _ _ (bG.step _ _ oV.o.st (fun k hk e=>HPO.o k hk e) HGTY.o).2
         obtain⟨vo5,vo6,Xg⟩:=a_ hw2.out;subst Xg;obtain⟨g4,o4,c4,cur4,hv4,-⟩:=hw2.todo;subst hv4;have HCO:Hid (∀X,Step (fun _=>False) wr X→Calls Tryz.prog 104 #[.slice vo5 oO.length vo6,.string s] X fun e w'=>e=.returned (.bool (oO.any (eqS s)))∧Step (fun _=>False) X w'):=fun X hX=>
          jM (fun _=>True) s oO _ X (di.fA (HW2.o.quiet hX).out (fun _ _=>trivial))
         obtain⟨ok2,hok2⟩:=aU (T.st s).isSome;obtain⟨b2,hb2⟩:=aU (x.gen.types.any (eqS s));obtain⟨b3,hb3⟩:=aU (oO.any (eqS s));(have NG:Hid ((hs.drop (j+1)).foldl (stepW T x) (if ok2&& !b2&& !b3 then(oO++[s],kT++[s])else(oO,kT))=st2):=by show _=_;have:=hf2;rw[fold_at _ hx,stepW,←hok2,←hb2,←hb3]at this;exact this);rw[←hok2]at hlk;rw[←hb2]at Yq;rw[←hb3]at HCO;(have hlb2:hs.length≤9223372036854775807:=by omega);clear hx hva hcl hcm hra hcell hta t0 t4 hw2 hm2 hf2 htl2 hts2 hok2 hb2 hb3;cases ok2 with
         |false=>
          have JQ:Hid ((hs.drop (j+1)).foldl (stepW T x) (oO,kT)=st2):=NG.o;go_wp2_with fail;go_roundg (gk-1);case rel=>exact⟨j+1,oO,kT,by go_num,hlj,by rw[←Nat.sub_sub];exact Nat.sub_le_sub_right hgj 1,HW2.o,qV.o,JQ.o,Qa.o,Un.o⟩
          case measure=>omega
         |true=>
          go_wp2_with fail;refine Yq.o.mono ?_;rintro e wa ⟨rfl,hsa⟩;have Gw:=ak hsa;have HWA:=ak (HW2.o.quiet hsa);have HMA:=ak (qV.o.quiet hsa);clear hsa hlk k0 t2 i4 f0;cases b2 with
          |true=>
           have JQ:Hid ((hs.drop (j+1)).foldl (stepW T x) (oO,kT)=st2):=NG.o;go_wp2_with fail;go_roundg (gk-1);case rel=>exact⟨j+1,oO,kT,by go_num,hlj,by rw[←Nat.sub_sub];exact Nat.sub_le_sub_right hgj 1,HWA.o,HMA.o,JQ.o,Qa.o,Un.o⟩
           case measure=>omega
          |false=>
           go_wp2_with fail;refine(HCO.o _ Gw.o).mono ?_;rintro e wb ⟨rfl,hsb⟩;have U2:=ak (HWA.o.quiet hsb);have HMB:=ak (HMA.o.quiet hsb);clear hsb;cases b3 with
           |true=>
            have JQ:Hid ((hs.drop (j+1)).foldl (stepW T x) (oO,kT)=st2):=NG.o;go_wp2_with fail;go_roundg (gk-1);case rel=>exact⟨j+1,oO,kT,by go_num,hlj,by rw[←Nat.sub_sub];exact Nat.sub_le_sub_right hgj 1,U2.o,HMB.o,JQ.o,Qa.o,Un.o⟩
            case measure=>omega
           |false=>
            have HPUT:Hid ((hs.drop (j+1)).foldl (stepW T x) (oO++[s],kT++[s])=st2):=NG.o;(have hob:oO.length+1≤1000000:=by have h1:=(qF (stepW T x) (Ea T x) (hs.drop (j+1)) (oO++[s],kT++[s])).1;rw[HPUT.o]at h1;have h2:=(qF (yh T x) (NH T x) (fl.drop (k+1)) st2).1;rw[HF2.o]at h2;have h3:=pO.o;simp only[List.length_append,List.length_singleton]at h1;omega);(have htb:kT.length+1≤1000001:=by have:=Qa.o;omega);(have HLP:Hid ((kT++[s]).length≤(oO++[s]).length+1):=by show _≤_;have:=Qa.o;simp only[List.length_append,List.length_singleton];omega);have HSP:Hid (∀z∈kT++[s],z.size≤9223372036854775807):=by
             intro z hz;rcases List.mem_append.1 hz with hz|hz
             ·exact Un.o z hz
             ·rw[List.mem_singleton.1 hz];exact Xz.o
            have D6:Hid (Step (fun _=>False) wb (wb.alloc (.cells #[aY s] 9))):=bJ.alloc _;have HWC:=ak (U2.o.quiet D6.o);have HMC:=ak (HMB.o.quiet D6.o);have HRW:Hid (Row (wb.alloc (.cells #[aY s] 9)) (wb.heap.size+1) (.slice (some ⟨wb.heap.size,0,none⟩) 1 1) 1 [.string s]):=Row.new (cs:=[.string s]) (aA _ _) dc;have hsz:=HWC.o.st.size;(go_upto_region 15 with(refine fG _ rfl (wb.heap.size+1) (.tmp 75) (.tmp 77) 40 rfl w.heap.size 9 i0 (.string ⟨#[]⟩) 1 16 Tryz.underlying40 HI.o HZ0.o HZ1.o HZ2.o rfl dc _ oO.length _ (by simp[Act.eval]) HWC.o.out _ 1 [.string s] (by simp[Act.eval]) HRW.o rfl (aP rfl) (by unfold maxLen;omega) om hsz ?_;intro v6 w6 hown6 hgrow6 hat6));have HWP:=ak (HWC.o.Um hown6 hgrow6 hat6);have HMP:=ak (HMC.o.Um hgrow6 hat6);obtain⟨vo7,vo8,hv6⟩:=a_ hown6;subst hv6;have U1:Hid (Step (fun _=>False) w6 (w6.alloc (.cells #[aY s] 9))):=bJ.alloc _;have HW7':=ak (HWP.o.quiet U1.o);have HM7':=ak (HMP.o.quiet U1.o);obtain⟨-,hold,hspare,hnc,hcm⟩:=HW7'.out.todo.olds;have HOLD:=ak hold;have HSPARE:=ak hspare;(have HNEW:Hid (∀(j:Nat) u,[Value.string s][j]?=some u→(w6.alloc (.cells #[aY s] 9)).cell? ((⟨w6.heap.size,0,none⟩:Addr).add j)=some u):=by intro j u hu;rw[Addr.add_lit];refine aj (aA w6 (.cells #[aY s] 9)) _ u ?_;rw[Nat.zero_add];simpa using hu);clear hown6 hgrow6 hat6 hold hspare;go_wp2_with (refine wpList_append_arg _ rfl (.tmp 79) (.tmp 81) 40 rfl 9 i0 (.string ⟨#[]⟩) 1 16 Tryz.underlying40 HI.o HZ0.o HZ1.o HZ2.o rfl dc g4 o4 kT.length c4 (mJ kT) (by rfl) (by simp[mJ]) HOLD.o ⟨w6.heap.size,0,none⟩ 1 1 [.string s] (by rfl) rfl HNEW.o (aP rfl) HSPARE.o (by unfold maxLen;omega) om (fun hroom=> ?_) (fun hgr v8 w8 oU lJ=> ?_))
            ·rw[setCells_one];go_roundg (gk-1);case rel=>exact⟨j+1,oO++[s],kT++[s],by go_num,hlj,by rw[←Nat.sub_sub];exact Nat.sub_le_sub_right hgj 1,HW7'.out.room rfl hroom,HM7'.out.room,HPUT.o,HLP.o,HSP.o⟩
             case measure=>omega
            ·go_roundg (gk-1);case rel=>exact⟨j+1,oO++[s],kT++[s],by go_num,hlj,by rw[←Nat.sub_sub];exact Nat.sub_le_sub_right hgj 1,HW7'.out.grow oU lJ,HM7'.out.grow oU lJ,HPUT.o,HLP.o,HSP.o⟩
             case measure=>omega
        ·(have hj2:j=hs.length:=by omega);(have HFE:Hid ((oO,kT)=st2):=by show _=_;have:=hf2;rw[hj2,List.drop_length]at this;exact this);have oV:=ak ((EX.o.quiet Vr.o).trans hm2);obtain⟨vo5,vo6,Xg⟩:=a_ hw2.out;subst Xg;obtain⟨g4,o4,c4,cur4,hv4,-⟩:=hw2.todo;subst hv4;clear hw2 hm2 hf2 htl2 hts2 hj2;go_wp2_with fail;go_roundg (go2-1);case rel=>exact⟨k+1,oO,kT,by go_num,hlt,by rw[←Nat.sub_sub];exact Nat.sub_le_sub_right hgk 1,HW2.o,oV.o,by rw[HFE.o];exact HF2.o,Qa.o,Un.o⟩
         case measure=>omega
      ·(have hk2:k=fl.length:=by omega);(have HFE:Hid ((out1,vX)=fin):=by show _=_;have:=hf1;rw[hk2,List.drop_length]at this;exact this);obtain⟨vo3,vo4,Xg⟩:=a_ hw1.out;subst Xg;obtain⟨g3,o3,c3,vW,hv3,-⟩:=hw1.todo;subst hv3;clear hw1 hm1 hf1 htl1 hts1 hk2;go_wp2_with fail;go_roundg (go1-1);case rel=>exact⟨out1,vX,f,HW1.o,by omega,by have:=HWF.o;rw[←HFE.o]at this;exact this,HTL1.o,HTS1.o⟩
       case measure=>omega
theorem JR {ops:Array Oper} {L:Nat→Bool} {V:Nat→Value}:∀(is:List Nat) (a:Act),(rC ops L V is a).tmps.size=a.tmps.size
 |[],_=>rfl
 |i::r,a=>by
  simp only[rC]
  rw[JR r]
  split
  ·
   exact IK _ _ _
  ·
   rfl
def gdD (md:Region.Mode) (ops:Array Oper):Bool:=(List.range ops.size).all fun i=>match ops[i]? with
 |some o=>(match o.guard with
  |none=>true
  |some (j,_)=>(uO md o).contains j&&(fU ops j).isSome)
 |none=>true
section
variable {P : Program} {md : Region.Mode} {ops : Array Oper} {Q : Exit → Act → World → Prop} {a0 : Act} {n : Nat} {J : (Nat → Bool) → (Nat → Value) → World → Prop}
def qG (P:Program) (Q:Exit→Act→World→Prop) (J:(Nat→Bool)→(Nat→Value)→World→Prop) (L:Nat→Bool) (V:Nat→Value) (w:World) (a:Act) (i:Nat) (o:Oper):Prop:=
 match o.guard with
 |none=>o.wp P a w (fun a' w'=>∃v,a'=a.put o.dst v∧J (dP L i) (iW V i v) w') Q
 |some (j,want)=>(V j=.bool want∧o.wp P a w (fun a' w'=>∃v,a'=a.put o.dst v∧J (dP L i) (iW V i v) w') Q)∨(V j≠.bool want∧J (dP L i) (iW V i undef) w)
def yj (P:Program) (md:Region.Mode) (ops:Array Oper) (Q:Exit→Act→World→Prop) (a0:Act) (n:Nat) (J:(Nat→Bool)→(Nat→Value)→World→Prop):Nat→List Oper→Prop
 |_,[]=>True
 |i,o::r=>(∀(L:Nat→Bool) (V:Nat→Value) (w:World) (a:Act),(∀j k,fU ops j=some k→L j=true→a.tmps[k]?.getD undef=V j)→(∀k,N9 ops (List.range n) k=true→a.tmps[k]?.getD undef=a0.tmps[k]?.getD undef)→
   L i=false→(∀j,(uO md o).contains j=true→L j=true)→J L V w→qG P Q J L V w a i o)∧yj P md ops Q a0 n J (i+1) r
theorem yj.get:∀(l:List Oper) (i k:Nat) (o:Oper),yj P md ops Q a0 n J k l→l[i]?=some o→
  ∀(L:Nat→Bool) (V:Nat→Value) (w:World) (a:Act),(∀j k,fU ops j=some k→L j=true→a.tmps[k]?.getD undef=V j)→(∀k,N9 ops (List.range n) k=true→a.tmps[k]?.getD undef=a0.tmps[k]?.getD undef)→
   L (k+i)=false→(∀j,(uO md o).contains j=true→L j=true)→J L V w→qG P Q J L V w a (k+i) o
 |[],i,k,o,_,h=>by simp at h
 |x::r,0,k,o,hs,h=>by
  simp at h;subst h
  exact hs.1
 |x::r,i+1,k,o,hs,h=>by
  have:=yj.get r i (k+1) o hs.2 (by simpa using h)
  rwa [Nat.add_assoc,Nat.add_comm 1 i]at this
theorem JS (hn:ops.size=n) (hd:xB ops (List.range n)=true) (hb:Fh md ops=true) (hr:Fj ops (List.range n) a0.tmps.size=true) (hg:gdD md ops=true) (hs:yj P md ops Q a0 n J 0 ops.toList) (hdone:∀L V w,(∀i,i<n→L i=true)→J L V w→Q .normal (kC ops V (List.range n) a0) w):
  ∀(fuel:Nat) (listed:Array Bool) (L:Nat→Bool) (V:Nat→Value) (w:World),listed.size=n→(∀i,i<n→L i=listed.getD i true)→uP listed≤fuel→J L V w→
   wpAny P md ops Q fuel listed (rC ops L V (List.range n) a0) w:=by
 have hall:∀(listed:Array Bool) (L:Nat→Bool) (V:Nat→Value) (w:World),(∀i,i<n→L i=listed.getD i true)→(∀i,listed.getD i true=true)→J L V w→Q .normal (rC ops L V (List.range n) a0) w:=by
  intro listed L V w hL h hJ
  rw[BO _ _ (fun i hi=>by rw[hL i (List.mem_range.1 hi),h i])]
  exact hdone L V w (fun i hi=>by rw[hL i hi,h i]) hJ
 have hmono:∀(i:Nat) (o:Oper),ops[i]?=some o→∀e∈o.after,Region.binds md e=true→e.on<i:=by
  intro i o ho e he hbe
  have hi:i<ops.size:=(Array.getElem?_eq_some_iff.1 ho).1
  have h:=List.all_eq_true.1 hb i (List.mem_range.2 hi)
  simp only[ho]at h
  have h2:=Array.all_eq_true_iff_forall_mem.1 h e he
  simpa[hbe]using h2
 intro fuel
 induction fuel with
 |zero=>
  intro listed L V w hsz hL hc hJ
  have h0:=xC (Nat.le_zero.1 hc)
  refine⟨List.eq_nil_iff_forall_not_mem.2 (fun i hi=> ?_),hall listed L V w hL h0 hJ⟩
  have:=(mem_ready.1 hi).1
  rw[h0 i]at this;cases this
 |succ fuel ih=>
  intro listed L V w hsz hL hc hJ
  refine⟨fun hnil=> ?_,fun i hi=> ?_⟩
  ·
   refine hall listed L V w hL (fun i=> ?_) hJ
   induction i using Nat.strongRecOn with
   |ind i ihi=>
    cases hlt:listed.getD i true with
    |true=>rfl
    |false=>
     have hi:i<listed.size:=by
      rcases Nat.lt_or_ge i listed.size with h|h
      ·
       exact h
      ·
       rw[Array.getD_eq_getD_getElem?,Array.getElem?_eq_none h]at hlt;cases hlt
     have hmem:i∈Region.ready md ops listed:=by
      refine mem_ready.2 ⟨hlt,ops[i]' om,Array.getElem?_eq_getElem om,fun e he hbe=> ?_⟩
      have h1:=hmono i _ (Array.getElem?_eq_getElem om) e he hbe
      have h2:=ihi e.on h1
      rw[Array.getD_eq_getD_getElem?]at h2⊢
      rw[Array.getElem?_eq_getElem (show e.on<listed.size by omega)]at h2⊢
      simpa using h2
     rw[hnil]at hmem;cases hmem
  ·
   obtain⟨h1,o,ho,h2⟩:=mem_ready.1 hi
   have hin:i<n:=by rw[←hn];exact(Array.getElem?_eq_some_iff.1 ho).1
   have hLi:L i=false:=by rw[hL i hin];exact h1
   have hap:∀j,j∈List.range n→i≠j→∀d,fU ops j=some d→fU ops i≠some d:=fun j hj hne d h3=>nR hd hj (List.mem_range.2 hin) (Ne.symm hne) d h3
   have hev:∀j k,fU ops j=some k→L j=true→(rC ops L V (List.range n) a0).tmps[k]?.getD undef=V j∧k<a0.tmps.size:=(fun j k hjk YH=>by
     have hjn:j<n:=by
      rw[←hn]
      rcases Nat.lt_or_ge j ops.size with h|h
      ·
       exact h
      ·
       simp[fU,Array.getElem?_eq_none h]at hjk
     have hk:k<a0.tmps.size:=by
      have:=List.all_eq_true.1 hr j (List.mem_range.2 hjn)
      simp only[hjk]at this
      simpa using this
     rw[←bF]
     exact⟨yC hjk YH _ _ List.nodup_range (List.mem_range.2 hjn) (fun m hm hne=>nR hd (List.mem_range.2 hjn) hm hne k hjk) hk,hk⟩)
   have ax:∀j,(uO md o).contains j=true→L j=true:=(fun j hj=>by
     have hj':j∈uO md o:=by simpa using hj
     obtain⟨e,he,rfl⟩:=List.mem_map.1 hj'
     obtain⟨he1,he2⟩:=List.mem_filter.1 he
     have h3:=h2 e (by simpa using he1) he2
     have h4:=hmono i o ho e (by simpa using he1) he2
     rw[hL e.on om]
     rw[Array.getD_eq_getD_getElem?]at h3⊢
     rw[Array.getElem?_eq_getElem (show e.on<listed.size by omega)]at h3⊢
     simpa using h3)
   have hob:=yj.get ops.toList i 0 o hs (by simpa using ho) L V w (rC ops L V (List.range n) a0) (fun j k h1 h2=>(hev j k h1 h2).1)
    (fun k hk=>by
     rw[←bF,←bF]
     exact yB _ _ (fun j hj e=>by
     have:=List.all_eq_true.1 hk j hj
     simp[e]at this))
    (by rw[Nat.zero_add];exact hLi)
    ax hJ
   rw[Nat.zero_add]at hob
   have hdst:o.dst=fU ops i:=by simp[fU,ho]
   have hnext:∀(v:Value) (w':World),J (dP L i) (iW V i v) w'→wpAny P md ops Q fuel (listed.setIfInBounds i true) ((rC ops L V (List.range n) a0).put o.dst v) w':=by
    intro v w' hJ'
    rw[hdst,yA hLi _ _ List.nodup_range (List.mem_range.2 hin) hap]
    refine ih (listed.setIfInBounds i true) _ _ w' (by simp[hsz]) (fun j hj=> ?_) (by have:=zM listed i h1;omega) hJ'
    unfold dP
    by_cases e:j=i
    ·
     subst e
     rw[if_pos rfl,Array.getD_eq_getD_getElem?,Array.getElem?_setIfInBounds_self_of_lt om];rfl
    ·
     rw[if_neg e,hL j hj,Array.getD_eq_getD_getElem?,Array.getD_eq_getD_getElem?,Array.getElem?_setIfInBounds_ne (Ne.symm e)]
   unfold wpOp
   simp only[ho]
   unfold qG at hob
   cases hgo:o.guard with
   |none=>
    rw[hgo]at hob
    have hw:Region.wanted o (yielded ops (rC ops L V (List.range n) a0).tmps)=true:=by simp[Region.wanted,hgo]
    rw[if_pos hw]
    refine .inl (Oper.wp_mono ?_ hob)
    rintro a' w' ⟨v,rfl,hJ'⟩
    exact hnext v w' hJ'
   |some gw=>
    obtain⟨j,want⟩:=gw
    rw[hgo]at hob
    have hgd:=List.all_eq_true.1 hg i (List.mem_range.2 om)
    simp only[ho,hgo,Bool.and_eq_true]at hgd
    have YH:=ax j hgd.1
    obtain⟨k,hk⟩:=Option.isSome_iff_exists.1 hgd.2
    obtain⟨hv,hks⟩:=hev j k hk YH
    have h3:(ops[j]?).bind (·.dst)=some k:=hk
    have h4:(rC ops L V (List.range n) a0).tmps[k]?=some (V j):=by
     have hsz2:k<(rC ops L V (List.range n) a0).tmps.size:=by rw[JR];exact hks
     rw[Array.getElem?_eq_getElem hsz2]at hv⊢
     rw[←hv];rfl
    have hyl:yielded ops (rC ops L V (List.range n) a0).tmps j=match V j with| .bool b=>some b|_=>none:=by
     unfold yielded
     rw[h3,Option.bind_some,h4]
     cases V j<;>rfl
    rcases hob with⟨hb,hob⟩|⟨hb,hJ'⟩
    ·
     have hw:Region.wanted o (yielded ops (rC ops L V (List.range n) a0).tmps)=true:=by simp[Region.wanted,hgo,hyl,hb]
     rw[if_pos hw]
     refine .inl (Oper.wp_mono ?_ hob)
     rintro a' w' ⟨v,rfl,hJ'⟩
     exact hnext v w' hJ'
    ·
     have hw:¬Region.wanted o (yielded ops (rC ops L V (List.range n) a0).tmps)=true:=by
       simp only[Region.wanted,hgo,hyl]
       intro h5
       refine hb ?_
       cases e:V j with
       |bool b=>
        rw[e]at h5
        have h6:some b=some want:=by simpa using h5
        cases h6
        rfl
       |_=>rw[e]at h5;simp at h5
     rw[if_neg hw]
     exact hnext undef w hJ'
theorem BN {id:Nat} {w:World} (hm:P.follows .mixedOrders=true) (J:(Nat→Bool)→(Nat→Value)→World→Prop) (n:Nat) (hn:ops.size=n) (hd:xB ops (List.range n)=true) (hb:Fh .any ops=true) (hr:Fj ops (List.range n) a0.tmps.size=true) (hg:gdD .any ops=true) (h0:J (fun _=>false) (fun _=>undef) w.drew) (hs:yj P .any ops Q a0 n J 0 ops.toList) (hdone:∀L V w,(∀i,i<n→L i=true)→J L V w→Q .normal (kC ops V (List.range n) a0) w):(Code.region id ops true).wp P Q a0 w:=by
 refine wp_region_any hm ?_;have h:=JS (P:=P) hn hd hb hr hg hs hdone ops.size (Array.replicate ops.size false) (fun _=>false) (fun _=>undef) w.drew (by simp[hn])
  (fun i hi=>by rw[Array.getD_eq_getD_getElem?,Array.getElem?_replicate,if_pos om];rfl) (by
   unfold uP
   simp only[Array.toList_replicate]
   exact Nat.le_trans List.countP_le_length (by simp)) h0
 rw[yD _ _ iI]at h;exact h
end
set_option maxRecDepth 100000
set_option maxHeartbeats 4000000
def witF (T:Tab) (F:Nat) (n:ByteArray):List ByteArray:=(jG T F [n] []).getD []
def Qb (T:Tab) (F i:Nat) (x:It):List Er:=if x.kind=1∧T.st x.name=some i∧(witF T F x.name).any (eqS x.name)=true then[(7,x.line,x.col)]else[]
def JU (T:Tab) (F:Nat):Nat→List It→List Er
 |_,[]=>[]
 |i,x::r=>Qb T F i x++JU T F (i+1) r
theorem szE_at {T:Tab} {F:Nat} {l:List It} {k:Nat} {x:It} (h:l[k]?=some x):JU T F k (l.drop k)=Qb T F k x++JU T F (k+1) (l.drop (k+1)):=by obtain⟨hk,rfl⟩:=List.getElem?_eq_some_iff.1 h;rw[List.drop_eq_getElem_cons hk,JU]
structure Qc (vals:List (Option Value)) (w:World) (res:List ByteArray) (L:Nat→Bool) (V:Nat→Value) (X:World):Prop where
 d:∀(i:Nat) v,vals[i]?=some (some v)→L i=true→V i=v
 st:Step (fun _=>False) w X
 r:L 15=true→X.ownsRow w.heap.size 9 1 (V 15) res.length (mJ res)
theorem Qc.zero {vals:List (Option Value)} {w X:World} {res:List ByteArray} {V:Nat→Value} (h:Step (fun _=>False) w X):Qc vals w res (fun _=>false) V X:=⟨fun _ _ _ h=>(nomatch h),h,gJ⟩
theorem Qc.up {vals:List (Option Value)} {w X:World} {res:List ByteArray} {L:Nat→Bool} {V:Nat→Value} (h:Qc vals w res L V X) (i:Nat) {v:Value} (hi:i≠15) (hv:vals[i]?=some (some v)):Qc vals w res (dP L i) (iW V i v) X:=by
 refine⟨fun j u hu hL=> ?_,h.st,fun hL=> ?_⟩
 ·unfold dP iW at*;by_cases e:j=i
  ·subst e;rw[hv]at hu;cases hu;rw[if_pos rfl]
  ·rw[if_neg e]at hL⊢;exact h.d j u hu hL
 ·unfold dP iW at*;rw[if_neg (Ne.symm hi)]at hL⊢;exact h.r hL
theorem Qc.step {vals:List (Option Value)} {w X X':World} {res:List ByteArray} {L:Nat→Bool} {V:Nat→Value} (h:Qc vals w res L V X) (hs:Step (fun _=>False) X X'):Qc vals w res L V X':=⟨h.d,h.st.trans hs,fun e=>hs.owns (h.r e) (fun _ _ h=>h)⟩
theorem Qc.up15 {vals:List (Option Value)} {w X X':World} {res:List ByteArray} {L:Nat→Bool} {V:Nat→Value} {v:Value} (h:Qc vals w res L V X) (hv:X'.ownsRow X.heap.size 9 1 v res.length (mJ res)) (hs:Step (fun _=>False) X X') (h15:vals[15]?=some none):Qc vals w res (dP L 15) (iW V 15 v) X':=by
 refine⟨fun j u hu hL=> ?_,h.st.trans hs,fun _=> ?_⟩
 ·unfold dP iW at*;by_cases e:j=15
  ·subst e;rw[h15]at hu;cases hu
  ·rw[if_neg e]at hL⊢;exact h.d j u hu hL
 ·exact rP hv h.st.size
theorem MI {IM:World→Nat→(ByteArray→ByteArray→Option Nat)→Prop} (him:vP IM) (cb tb:Nat) (T:Tab) (F:Nat) (es:List Er) (v:Value) (w:World) (hfd:∀x∈T.items,∀p∈x.fields,(jK p.ty).length≤1000000) (hwf:∀x∈T.items,∃res,jG T F [x.name] []=some res∧res.length≤1000000) (h:lm cb (.pointer (some ⟨tb,0,none⟩)) (TabAt IM tb T) w v es) (hb:(es++JU T F 0 T.items).length≤1000000000):Calls Tryz.prog 67 #[.pointer (some ⟨cb,0,none⟩)] w (lK cb (.pointer (some ⟨tb,0,none⟩)) (TabAt IM tb T) w v (es++JU T F 0 T.items)):=by
 have w_:=ak hfd;have HWF:=ak hwf;have NC:=ak h;obtain⟨vi,ms,mt,mf,mi,t0,hit,-⟩:=h.tab.ex;obtain⟨ai,ci,rfl⟩:=hit.parts;have HIT:=ak hit;have c0:=aj h.blk 0 _ rfl;have t1:w.cell? ⟨tb,0,none⟩=some (.slice ai T.items.length ci):=aj t0 0 _ rfl;obtain⟨tot,ht⟩:=aU (es++JU T F 0 T.items);rw[←ht]at hb⊢;have HT:=ak ht;obtain⟨l,hl⟩:=aU T.items;rw[←hl]at HIT t1 HT w_ HWF;have HLL:=ak hl;clear h hit t0 ht hfd hwf hl;go_enter Tryz.func67,Tryz.ntmps67;go_wp2_with fail;clear c0 t1;go_loopg [2,3,4,5,14] l.length (fun g9 _ _ _ _ s14 wr=>∃(k:Nat) (cur:List Er) (v1:Value),s14=.int .i64 k∧k≤l.length∧l.length-k≤g9∧lm cb (.pointer (some ⟨tb,0,none⟩)) (TabAt IM tb T) wr v1 cur∧Mv cb w v wr v1∧cur++JU T F k (l.drop k)=tot);case atStart=>exact⟨0,es,v,rfl,Nat.zero_le _,by omega,NC.o,Mv.refl _ _ _,HT.o.symm⟩
 case round=>
  obtain⟨k,cur,v1,rfl,hk,hgg,hc,hm,he⟩:=hrel;have HC:=ak hc;have HM:=ak hm;have HE:=ak he;clear hc hm he;by_cases hlt:k<l.length
  ·obtain⟨x,hx⟩:∃x,l[k]?=some x:=⟨l[k],List.getElem?_eq_getElem hlt⟩;obtain⟨xs,⟨a',c',hva,hcl,hcm,-,hra⟩,hls⟩:=(bQ aT).mv HM.o HIT.o;(obtain⟨rfl,rfl⟩:ai=a'∧ci=c':=by cases hva;exact⟨rfl,rfl⟩);obtain⟨g,o,rfl,hg,hgw,hcell⟩:=hra om;obtain⟨cs,hat,hget⟩:=lG.get aT k hls hx;(have iH:Hid (∀(jj:Nat) v,cs[jj]?=some v→wr.cell? ⟨g,o+k*19+jj,none⟩=some v):=by show∀jj v,_;intro jj v hv;rw[Nat.add_assoc];exact hcell _ _ (hget jj v hv));(have mX:Hid ((Tryz.prog.info? 51).map (·.size)=some cs.length):=by show _=_;rw[aT.len _ _ hat];exact Tryz.dF);have qM:=ak (aT.len _ _ hat);have DL:=ak (aT.one _ _ hat);obtain⟨_,_,_,_,_,_,⟨ic0,ic1,-,-,-,-,-,-,ic17,ic18⟩,-,-,-,hnn,-⟩:=hat.get;obtain⟨w3,hw3⟩:=aU (wr.alloc (.cells cs.toArray 51));(have eX:Hid (Step (fun _=>False) wr w3):=by show Step _ _ _;rw[hw3];exact bJ.alloc _);(have HB3:Hid (w3.heap[wr.heap.size]?=some (.cells cs.toArray 51 (0,0))):=by show _=_;rw[hw3];exact aA _ _);have HW3:=ak hw3;have NF:=ak (HC.o.new (k:=wr.heap.size) (Nat.le_refl _) (aI HB3.o));have oV:=ak (HM.o.then eX.o);have rO:=ak (HC.o.quiet eX.o);obtain⟨res,hres,hrl⟩:=HWF.o x (List.mem_of_getElem? hx);have Pz:=ak hnn;(have U5:Hid (∀X,Step (fun _=>False) w3 X→Calls Tryz.prog 105 #[.pointer (some ⟨cb,0,none⟩),.string x.name] X (yg res X)):=by intro X hX;have h9:=rO.o.quiet hX;exact JP him cb tb T (Out cb v1 X) v1 x.name F res X (fun k hk=>hk.1) h9.tab h9.blk (by rw[←HLL.o];exact w_.o) Pz.o hres hrl);have HIC:Hid (cs[1]?=some (.string x.name)∧cs[17]?=some (.int .i64 x.line)∧cs[18]?=some (.int .i64 x.col)):=⟨ic1,ic17,ic18⟩;obtain⟨E1,hE1⟩:=aU (Qb T F k x);have kU:Hid ((cur++E1)++JU T F (k+1) (l.drop (k+1))=tot):=fE (by rw[hE1,←szE_at hx];exact HE.o);(have hWT:witF T F x.name=res:=by rw[witF,hres];rfl);rw[Qb,hWT]at hE1;have zK:=ak hE1;obtain⟨kd,hkd⟩:=aU x.kind;obtain⟨so,hso⟩:=aU (T.st x.name);rw[←hkd,←hso]at zK;have i0:=aj HB3.o 0 _ (by rw[List.getElem?_toArray];exact ic0);have i1:=aj HB3.o 1 _ (by rw[List.getElem?_toArray];exact ic1);rw[←hkd]at i0;obtain⟨_,ms2,mt2,mf2,mi2,t0,-,⟨-,t4⟩,-⟩:=rO.o.tab.ex;(have hlk:∀n,(Instr.lookup 124 (.map (some ms2)) (.string x.name) true).run Tryz.prog (w3.drewN n)=.ok (.tuple #[ah (so.getD 0:Nat),dV so.isSome]) (w3.drewN n):=fun n=>by rw[hso];exact(t4.step (S:=fun _=>False) (bJ.drewN n) (fun h=>h)).look x.name Pz.o);have c0:=aj rO.o.blk 0 _ rfl;have t1:=aj t0 1 _ rfl;(have hlb:l.length≤9223372036854775807:=by omega);clear hcell hx hva hcl hcm hra hg hgw hls hget hat hw3 ic0 ic1 ic17 ic18 hnn hres hE1 hWT hkd hso t4 t0;go_upto_region 3 with(first
    |(refine ay rfl 51 (.tmp 17) rfl g (o+k*19) rfl cs _ iH.o Tryz.underlying51 rfl mX.o ?_)
    |(refine bW rfl 51 (.tmp 3) (.tmp 18) rfl _ cs rfl rfl mX.o (by rw[qM.o];rfl) DL.o ?_;rw[←HW3.o]))
   simp only[Act.put];go_quiet (fail);clear hlk c0 t1;have U6:Hid (Step (fun _=>False) w3 (w3.drewN nq)):=bJ.drewN nq;have HCq:=ak (rO.o.quiet U6.o);have HMq:=ak (oV.o.then U6.o);obtain⟨w4,hw4⟩:=aU (w3.drewN nq);(have j0:w4.cell? ⟨wr.heap.size,0,none⟩=some (.int .i64 kd):=by rw[hw4];exact i0);(have j1:w4.cell? ⟨wr.heap.size,1,none⟩=some (.string x.name):=by rw[hw4];exact i1);rw[←hw4]at U6 HCq HMq⊢;clear hw4 i0 i1;(go_upto_region 4 with fail);by_cases hk1:kd=1
   ·subst hk1;cases so with
    |none=>
     (have B_:Hid (E1=[]):=by show _=_;rw[zK.o,if_neg (fun h=>nomatch h.2.1)]);go_quiet (fail);have Yz:Hid (Step (fun _=>False) w4 (w4.drewN nq)):=bJ.drewN nq;have HCr:=ak (HCq.o.quiet Yz.o);have HMr:=ak (HMq.o.then Yz.o);go_wp2_with fail;go_roundg (gk-1);case rel=>exact⟨k+1,cur,v1,by go_num,hlt,by rw[←Nat.sub_sub];exact Nat.sub_le_sub_right hgg 1,HCr.o,HMr.o,by have:=kU.o;rw[B_.o,List.append_nil]at this;exact this⟩
     case measure=>omega
    |some at0=>
     by_cases hat0:at0=k
     ·subst hat0;(have q1:((at0:Int)==(at0:Int))=true:=by simp);obtain⟨cb2,hcb2⟩:=aU (res.any (eqS x.name));(have B_:Hid (E1=if cb2 then[(7,x.line,x.col)]else[]):=by show _=_;rw[zK.o,hcb2];cases res.any (eqS x.name)<;>simp);have Ah:=ak hcb2;clear hcb2;go_cut [51] (fun s51 wx=>s51=.bool cb2∧Step (fun _=>False) w4 wx);case first=>
       have HWI4:Hid (∀X,Step (fun _=>False) w4 X→Calls Tryz.prog 105 #[.pointer (some ⟨cb,0,none⟩),.string x.name] X (yg res X)):=fun X hX=>U5.o X (U6.o.trans hX);have EM:Hid (∀X,Step (fun _=>False) w4 X→X.cell? ⟨wr.heap.size,0,none⟩=some (.int .i64 1)∧X.cell? ⟨wr.heap.size,1,none⟩=some (.string x.name)):=fun X hX=>⟨hX.cell j0 (fun h=>h),hX.cell j1 (fun h=>h)⟩;refine BN kr (Qc [some (.pointer (some ⟨wr.heap.size,0,none⟩)),some (.int .i64 1),some (.bool true),some (.bool true),some (.bool true),some (.bool true),some (.bool true),some (.int .i64 at0),some (.int .i64 at0),some (.bool true),some (.bool true),some (.bool true),some (.pointer (some ⟨cb,0,none⟩)),some (.pointer (some ⟨wr.heap.size,1,none⟩)),some (.string x.name),none,some (.pointer (some ⟨wr.heap.size,1,none⟩)),some (.string x.name),some (.bool cb2),some (.bool cb2)] w4 res) 20 rfl kr kr kr kr ?h0 ?hs ?hdone;case h0=>exact Qc.zero (bJ.drew)
       case hs=>
        refine⟨?_,?_,?_,?_,?_,?_,?_,?_,?_,?_,?_,?_,?_,?_,?_,?_,?_,?_,?_,?_,trivial⟩
        ·intro L V X a ev dn hL ax hJ;unfold qG;dsimp only;have o3:=dn 3 rfl;change a.tmps[3]?.getD undef=.pointer (some ⟨wr.heap.size,0,none⟩)at o3;go_simp;exact⟨_,rfl,hJ.up 0 dc rfl⟩
        ·intro L V X a ev dn hL ax hJ;unfold qG;dsimp only;have e32:=(ev 0 32 rfl (ax 0 rfl)).trans (hJ.d 0 _ rfl (ax 0 rfl));obtain⟨k0,k1⟩:=EM.o X hJ.st;go_simp;exact⟨_,rfl,hJ.up 1 dc rfl⟩
        ·intro L V X a ev dn hL ax hJ;unfold qG;dsimp only;have e33:=(ev 1 33 rfl (ax 1 rfl)).trans (hJ.d 1 _ rfl (ax 1 rfl));go_simp;exact⟨_,rfl,hJ.up 2 dc rfl⟩
        ·intro L V X a ev dn hL ax hJ;unfold qG;dsimp only;have e34:=(ev 2 34 rfl (ax 2 rfl)).trans (hJ.d 2 _ rfl (ax 2 rfl));go_simp;exact⟨_,rfl,hJ.up 3 dc rfl⟩
        ·intro L V X a ev dn hL ax hJ;unfold qG;dsimp only;refine .inl ⟨hJ.d 3 _ rfl (ax 3 rfl),?_⟩;have o5:=dn 5 rfl;change a.tmps[5]?.getD undef=.bool true at o5;go_simp;exact⟨_,rfl,hJ.up 4 dc rfl⟩
        ·intro L V X a ev dn hL ax hJ;unfold qG;dsimp only;have e35:=(ev 3 35 rfl (ax 3 rfl)).trans (hJ.d 3 _ rfl (ax 3 rfl));have e36:=(ev 4 36 rfl (ax 4 rfl)).trans (hJ.d 4 _ rfl (ax 4 rfl));go_simp;exact⟨_,rfl,hJ.up 5 dc rfl⟩
        ·intro L V X a ev dn hL ax hJ;unfold qG;dsimp only;have e37:=(ev 5 37 rfl (ax 5 rfl)).trans (hJ.d 5 _ rfl (ax 5 rfl));go_simp;exact⟨_,rfl,hJ.up 6 dc rfl⟩
        ·intro L V X a ev dn hL ax hJ;unfold qG;dsimp only;refine .inl ⟨hJ.d 6 _ rfl (ax 6 rfl),?_⟩;have o4:=dn 4 rfl;change a.tmps[4]?.getD undef=.int .i64 at0 at o4;go_simp;exact⟨_,rfl,hJ.up 7 dc rfl⟩
        ·intro L V X a ev dn hL ax hJ;unfold qG;dsimp only;refine .inl ⟨hJ.d 6 _ rfl (ax 6 rfl),?_⟩;have o2:=dn 2 rfl;change a.tmps[2]?.getD undef=.int .i64 at0 at o2;go_simp;exact⟨_,rfl,hJ.up 8 dc rfl⟩
        ·intro L V X a ev dn hL ax hJ;unfold qG;dsimp only;refine .inl ⟨hJ.d 6 _ rfl (ax 6 rfl),?_⟩;have e39:=(ev 7 39 rfl (ax 7 rfl)).trans (hJ.d 7 _ rfl (ax 7 rfl));have e40:=(ev 8 40 rfl (ax 8 rfl)).trans (hJ.d 8 _ rfl (ax 8 rfl));go_simp;exact⟨_,rfl,hJ.up 9 dc rfl⟩
        ·intro L V X a ev dn hL ax hJ;unfold qG;dsimp only;have e38:=(ev 6 38 rfl (ax 6 rfl)).trans (hJ.d 6 _ rfl (ax 6 rfl));have e41:=(ev 9 41 rfl (ax 9 rfl)).trans (hJ.d 9 _ rfl (ax 9 rfl));go_simp;exact⟨_,rfl,hJ.up 10 dc rfl⟩
        ·intro L V X a ev dn hL ax hJ;unfold qG;dsimp only;have e42:=(ev 10 42 rfl (ax 10 rfl)).trans (hJ.d 10 _ rfl (ax 10 rfl));go_simp;exact⟨_,rfl,hJ.up 11 dc rfl⟩
        ·intro L V X a ev dn hL ax hJ;unfold qG;dsimp only;refine .inl ⟨hJ.d 11 _ rfl (ax 11 rfl),?_⟩;have o0:=dn 0 rfl;change a.tmps[0]?.getD undef=.pointer (some ⟨cb,0,none⟩)at o0;go_simp;exact⟨_,rfl,hJ.up 12 dc rfl⟩
        ·intro L V X a ev dn hL ax hJ;unfold qG;dsimp only;refine .inl ⟨hJ.d 11 _ rfl (ax 11 rfl),?_⟩;have o3:=dn 3 rfl;change a.tmps[3]?.getD undef=.pointer (some ⟨wr.heap.size,0,none⟩)at o3;go_simp;exact⟨_,rfl,hJ.up 13 dc rfl⟩
        ·intro L V X a ev dn hL ax hJ;unfold qG;dsimp only;refine .inl ⟨hJ.d 11 _ rfl (ax 11 rfl),?_⟩;have e45:=(ev 13 45 rfl (ax 13 rfl)).trans (hJ.d 13 _ rfl (ax 13 rfl));obtain⟨k0,k1⟩:=EM.o X hJ.st;go_simp;exact⟨_,rfl,hJ.up 14 dc rfl⟩
        ·intro L V X a ev dn hL ax hJ;unfold qG;dsimp only;refine .inl ⟨hJ.d 11 _ rfl (ax 11 rfl),?_⟩;have e44:=(ev 12 44 rfl (ax 12 rfl)).trans (hJ.d 12 _ rfl (ax 12 rfl));have e46:=(ev 14 46 rfl (ax 14 rfl)).trans (hJ.d 14 _ rfl (ax 14 rfl));go_simp;refine(HWI4.o X hJ.st).mono ?_;rintro e5 w5 ⟨⟨v5,rfl,hown5⟩,h5⟩;exact⟨_,rfl,hJ.up15 hown5 h5 rfl⟩
        ·intro L V X a ev dn hL ax hJ;unfold qG;dsimp only;refine .inl ⟨hJ.d 11 _ rfl (ax 11 rfl),?_⟩;have o3:=dn 3 rfl;change a.tmps[3]?.getD undef=.pointer (some ⟨wr.heap.size,0,none⟩)at o3;go_simp;exact⟨_,rfl,hJ.up 16 dc rfl⟩
        ·intro L V X a ev dn hL ax hJ;unfold qG;dsimp only;refine .inl ⟨hJ.d 11 _ rfl (ax 11 rfl),?_⟩;have e48:=(ev 16 48 rfl (ax 16 rfl)).trans (hJ.d 16 _ rfl (ax 16 rfl));obtain⟨k0,k1⟩:=EM.o X hJ.st;go_simp;exact⟨_,rfl,hJ.up 17 dc rfl⟩
        ·intro L V X a ev dn hL ax hJ;unfold qG;dsimp only;refine .inl ⟨hJ.d 11 _ rfl (ax 11 rfl),?_⟩;have e49:=(ev 17 49 rfl (ax 17 rfl)).trans (hJ.d 17 _ rfl (ax 17 rfl));have hr:=hJ.r (ax 15 rfl);obtain⟨va5,vc5,hv5⟩:=a_ hr;have e47:=(ev 15 47 rfl (ax 15 rfl)).trans hv5;rw[hv5]at hr;go_simp;refine(jM (fun _=>True) x.name res _ X (di.fA hr (fun _ _=>trivial))).mono ?_;rintro e6 w6 ⟨rfl,h6⟩;exact⟨_,rfl,by rw[←Ah.o];exact(hJ.step h6).up 18 dc rfl⟩
        ·intro L V X a ev dn hL ax hJ;unfold qG;dsimp only;have e43:=(ev 11 43 rfl (ax 11 rfl)).trans (hJ.d 11 _ rfl (ax 11 rfl));have e50:=(ev 18 50 rfl (ax 18 rfl)).trans (hJ.d 18 _ rfl (ax 18 rfl));go_simp;exact⟨_,rfl,hJ.up 19 dc rfl⟩
       case hdone=>intro L V X hall hJ;have h19:=hJ.d 19 _ rfl (hall 19 dc);have hst:=hJ.st;rw[show List.range 20=[0,1,2,3,4,5,6,7,8,9,10,11,12,13,14,15,16,17,18,19] from rfl];simp only[kC,fU,List.getElem?_toArray,List.getElem?_cons_zero,List.getElem?_cons_succ,Option.bind_some,Act.put,List.setIfInBounds_toArray,List.set_cons_zero,List.set_cons_succ];go_wp2_with fail;go_meet;case rel=>exact⟨by first|exact h19|rfl,hst⟩
      case rest=>
       obtain⟨rfl,hst⟩:=hcut;obtain⟨w7,rfl⟩:=aU wc;have TW:=ak (HCq.o.quiet hst);have HM7:=ak (HMq.o.then hst);have hb7:=(U6.o.trans hst).keep HB3.o (fun h=>h);have e17:=aj hb7 17 _ (by rw[List.getElem?_toArray];exact HIC.o.2.1);have e18:=aj hb7 18 _ (by rw[List.getElem?_toArray];exact HIC.o.2.2);clear hst hb7;cases cb2 with
       |true=>
        go_wp2_with fail;refine(eu cb _ _ 7 x.line x.col cur v1 _ TW.o (dB HE.o hb)).mono ?_;rintro e w8 ⟨rfl,v8,h8,g8⟩;have TY:=ak h8;have HM8:=ak (HM7.o.trans g8);clear h8 g8;go_wp2_with fail;go_roundg (gk-1);case rel=>exact⟨at0+1,_,v8,by go_num,hlt,by rw[←Nat.sub_sub];exact Nat.sub_le_sub_right hgg 1,TY.o,HM8.o,by simpa[B_.o]using kU.o⟩
        case measure=>omega
       |false=>
        go_wp2_with fail;go_roundg (gk-1);case rel=>exact⟨at0+1,cur,v1,by go_num,hlt,by rw[←Nat.sub_sub];exact Nat.sub_le_sub_right hgg 1,TW.o,HM7.o,by simpa[B_.o]using kU.o⟩
        case measure=>omega
     ·(have B_:Hid (E1=[]):=by show _=_;rw[zK.o,if_neg (fun h=>hat0 (Option.some.inj h.2.1))]);(have q1:((at0:Int)==(k:Int))=false:=by simp;omega);(have q2:¬(at0:Int)=(k:Int):=by omega);clear hat0;go_quiet (fail);have Yz:Hid (Step (fun _=>False) w4 (w4.drewN nq)):=bJ.drewN nq;have HCr:=ak (HCq.o.quiet Yz.o);have HMr:=ak (HMq.o.then Yz.o);go_wp2_with fail;go_roundg (gk-1);case rel=>exact⟨k+1,cur,v1,by go_num,hlt,by rw[←Nat.sub_sub];exact Nat.sub_le_sub_right hgg 1,HCr.o,HMr.o,by have:=kU.o;rw[B_.o,List.append_nil]at this;exact this⟩
      case measure=>omega
   ·(have B_:Hid (E1=[]):=by show _=_;rw[zK.o,if_neg (fun h=>hk1 h.1)]);(have q1:(kd==1)=false:=by simpa using hk1);have q2:¬kd=1:=hk1;clear hk1;go_quiet (fail);have Yz:Hid (Step (fun _=>False) w4 (w4.drewN nq)):=bJ.drewN nq;have HCr:=ak (HCq.o.quiet Yz.o);have HMr:=ak (HMq.o.then Yz.o);go_wp2_with fail;go_roundg (gk-1);case rel=>exact⟨k+1,cur,v1,by go_num,hlt,by rw[←Nat.sub_sub];exact Nat.sub_le_sub_right hgg 1,HCr.o,HMr.o,by have:=kU.o;rw[B_.o,List.append_nil]at this;exact this⟩
    case measure=>omega
  ·(have hk2:k=l.length:=by omega);(have Bo:Hid (cur=tot):=by show _=_;have:=HE.o;rw[hk2,List.drop_length,JU,List.append_nil]at this;exact this);go_wp2_with fail;refine bodyPost_ret (results_none rfl _ _ _) rfl ?_;exact⟨rfl,v1,Bo.o▸HC.o,HM.o⟩
set_option maxRecDepth 100000
set_option maxHeartbeats 2000000
theorem Tryz.wideK:(match Tryz.prog.underlying 144 with|some (.array _ _)|some (.struct _)=>true|_=>false)=true:=by kernel_rfl
theorem Tryz.rowK:(144:TypeId)<Tryz.prog.types.size:=of_decide_eq_true kr
theorem Tryz.Uo:laidOutB Tryz.prog=true:=by kernel_rfl
theorem Tryz.Ur:Go.Maps.Keyed Tryz.prog 144:=Go.Maps.Keyed.of_law (deep_law_laid Tryz.Uo (m:=3) om Tryz.rowK kr Tryz.wideK)
theorem Tryz.keyTK:Tryz.prog.keyType 144=true:=by kernel_rfl
theorem Tryz.Us:Tryz.prog.cellsOf 144=2:=by kernel_rfl
theorem Tryz.cellsS:Tryz.prog.cellsOf 9=1:=by kernel_rfl
def Fa (a b:ByteArray):Value:=.agg #[aY a,aY b]
theorem NK (a b:ByteArray) (ha:a.size≤maxLen) (hb:b.size≤maxLen):∃kl,keyOf Tryz.prog 144 (Fa a b)=some kl:=by
 have hf:(Fa a b).formed Tryz.prog 144=true:=by unfold Fa Value.formed;rw[Tryz.underlying144,Tryz.Us];rfl
 have hs:∀(d:Nat) (s:ByteArray),s.size≤maxLen→Tryz.prog.keyLits (d+1) 9 [.string s]=some [.string s.data.toList]:=by intro d s hs;unfold Program.keyLits;rw[Tryz.underlying9];simp[hs]
 obtain⟨n,hn⟩:∃n,Tryz.prog.types.size=n+1:=⟨_,(Nat.succ_pred_eq_of_pos (Nat.lt_of_le_of_lt (Nat.zero_le _) Tryz.rowK)).symm⟩;unfold keyOf;rw[Tryz.underlying144];simp only[Tryz.keyTK,hf,Bool.and_self,if_true];rw[hn];unfold Program.keyLits;rw[Tryz.underlying144];simp[Tryz.Us,Tryz.cellsS,Fa,Value.cells,hs n a ha,hs n b hb]
theorem Ut {a b x y:ByteArray} (h:Fa a b=Fa x y):a=x∧b=y:=by unfold Fa at h;have h2:=Value.agg.inj h;have h3:=List.toArray_inj h2;simp at h3;exact h3
def ImD (D:DataW Unit) (m:ByteArray→ByteArray→Option Nat):Prop:=∀(a b:ByteArray) (kl:Lit),keyOf Tryz.prog 144 (Fa a b)=some kl→Maps.has D kl=(m a b).isSome∧∀i,m a b=some i→D.atKey kl (.lit (.int .i64 0))=.lit (.int .i64 i)
def Eb (w:World) (b:Nat) (m:ByteArray→ByteArray→Option Nat):Prop:=∃(n:Nat) (D:DataW Unit),w.ownsMap Tryz.prog 144 (plainElem Tryz.prog 3) b n D∧n≤1000∧ImD D m
theorem zH:vP Eb where
 step:=fun hs hb ⟨n,D,⟨es,ck,h1,h2⟩,h3⟩=>⟨n,D,⟨es,ck,hs.keep h1 hb,h2⟩,h3⟩
 lt:=fun⟨_,_,h,_⟩=>h.lt
theorem Eb.look {w:World} {b:Nat} {m:ByteArray→ByteArray→Option Nat} (h:Eb w b m) (x y:ByteArray) (hx:x.size≤9223372036854775807) (hy:y.size≤9223372036854775807):(Instr.lookup 125 (.map (some b)) (.agg #[aY x,aY y]) true).run Tryz.prog w=.ok (.tuple #[ah ((m x y).getD 0:Nat),dV (m x y).isSome]) w:=by
 obtain⟨n,D,h1,-,hD⟩:=h;obtain⟨kl,hkl⟩:=NK x y hx hy;obtain⟨v,ps,hrun,hv⟩:=h1.look_ok Tryz.Ur Tryz.underlying125 (Tryz.X5 w) (plainElem_int Tryz.underlying3 dc) hkl;obtain⟨c,rfl,hc,-⟩:=plainElem_int_inv Tryz.underlying3 hv;obtain⟨ha,hb⟩:=hD x y kl hkl;have hc1:=congrArg Prod.fst hc;have hrun2:(Instr.lookup 125 (.map (some b)) (.agg #[aY x,aY y]) true).run Tryz.prog w=.ok (.tuple #[ah c,dV (Maps.has D kl)]) w:=hrun;rw[hrun2,ha];cases hm:m x y with
 |none=>have h2:=Maps.atKey_of_not_has (by rw[ha,hm];rfl:Maps.has D kl=false) (.lit (.int .i64 0):DataW Unit);have h3:(DataW.lit (.int .i64 0):DataW Unit)=.lit (.int .i64 c):=h2.symm.trans hc1;cases h3;rfl
 |some i=>have h3:(DataW.lit (.int .i64 i):DataW Unit)=.lit (.int .i64 c):=(hb i hm).symm.trans hc1;cases h3;rfl
def yt (m:ByteArray→ByteArray→Option Nat) (a b:ByteArray) (i:Nat):ByteArray→ByteArray→Option Nat:=fun x y=>if eqS x a&&eqS y b then some i else m x y
theorem ImD.put {D:DataW Unit} {m:ByteArray→ByteArray→Option Nat} (h:ImD D m) (hD:Maps.IsMap D) (a b:ByteArray) (i:Nat) (kl:Lit) (hk:keyOf Tryz.prog 144 (Fa a b)=some kl):ImD (D.put kl (.lit (.int .i64 i))) (yt m a b i):=by
 intro x y kx hkx;cases hx:eqS x a&&eqS y b with
 |true=>
  have h1:=Bool.and_eq_true_iff.1 hx;obtain rfl:=kQ.1 h1.1;obtain rfl:=kQ.1 h1.2;obtain rfl:kl=kx:=by rw[hk]at hkx;exact Option.some.inj hkx
  rw[show yt m x y i x y=some i from if_pos hx];exact⟨Maps.has_put_same hD (Tryz.Ur.key hk) _,fun j hj=>by cases hj;exact Maps.atKey_put_same hD (Tryz.Ur.key hk) _ _⟩
 |false=>
  have hne:kx≠kl:=by rintro rfl;obtain⟨rfl,rfl⟩:=Ut (Tryz.Ur.inj hkx hk);rw[kQ.2 rfl,kQ.2 rfl]at hx;cases hx
  rw[show yt m a b i x y=m x y from if_neg (by rw[hx];decide)];exact⟨(Maps.has_put_other hne _).trans (h x y kx hkx).1,fun j hj=>(Maps.atKey_put_other hne _ _).trans ((h x y kx hkx).2 j hj)⟩
def Au (w:World) (b:Nat) (m:ByteArray→Option Nat) (N:Nat):Prop:=∃(n:Nat) (D:DataW Unit),w.ownsMap Tryz.prog 9 (plainElem Tryz.prog 3) b n D∧n≤N∧MpD D m
def Ko (w:World) (b:Nat) (m:ByteArray→ByteArray→Option Nat) (N:Nat):Prop:=∃(n:Nat) (D:DataW Unit),w.ownsMap Tryz.prog 144 (plainElem Tryz.prog 3) b n D∧n≤N∧ImD D m
theorem Au.at' {w:World} {b N:Nat} {m:ByteArray→Option Nat} (h:Au w b m N) (hN:N≤1000):BA w b m:=let⟨n,D,h1,h2,h3⟩:=h;⟨n,D,h1,Nat.le_trans h2 hN,h3⟩
theorem Ko.at' {w:World} {b N:Nat} {m:ByteArray→ByteArray→Option Nat} (h:Ko w b m N) (hN:N≤1000):Eb w b m:=let⟨n,D,h1,h2,h3⟩:=h;⟨n,D,h1,Nat.le_trans h2 hN,h3⟩
theorem Au.step {w w':World} {S:Nat→Prop} {b N:Nat} {m:ByteArray→Option Nat} (hs:Step S w w') (hb:¬S b) (h:Au w b m N):Au w' b m N:=by obtain⟨n,D,⟨es,ck,h1,h2⟩,h3⟩:=h;exact⟨n,D,⟨es,ck,hs.keep h1 hb,h2⟩,h3⟩
theorem Ko.step {w w':World} {S:Nat→Prop} {b N:Nat} {m:ByteArray→ByteArray→Option Nat} (hs:Step S w w') (hb:¬S b) (h:Ko w b m N):Ko w' b m N:=by obtain⟨n,D,⟨es,ck,h1,h2⟩,h3⟩:=h;exact⟨n,D,⟨es,ck,hs.keep h1 hb,h2⟩,h3⟩
theorem Au.mono {w:World} {b N N':Nat} {m:ByteArray→Option Nat} (h:Au w b m N) (hN:N≤N'):Au w b m N':=let⟨n,D,h1,h2,h3⟩:=h;⟨n,D,h1,Nat.le_trans h2 hN,h3⟩
theorem Ko.mono {w:World} {b N N':Nat} {m:ByteArray→ByteArray→Option Nat} (h:Ko w b m N) (hN:N≤N'):Ko w b m N':=let⟨n,D,h1,h2,h3⟩:=h;⟨n,D,h1,Nat.le_trans h2 hN,h3⟩
theorem Au.lt {w:World} {b N:Nat} {m:ByteArray→Option Nat} (h:Au w b m N):b<w.heap.size:=let⟨_,_,h,_⟩:=h;h.lt
theorem Ko.lt {w:World} {b N:Nat} {m:ByteArray→ByteArray→Option Nat} (h:Ko w b m N):b<w.heap.size:=let⟨_,_,h,_⟩:=h;h.lt
structure Fb where
 n0:Nat
 tb:Nat
 ms:Nat
 mt:Nat
 mf:Nat
 mi:Nat
 gi:Option Nat
def Fb.pi (B:Fb) (k:Nat):Prop:=k<B.n0∨B.gi=some k
structure Fb.Ok (B:Fb):Prop where
 t:B.n0≤B.tb
 s:B.n0≤B.ms
 r:B.n0≤B.mt
 f:B.n0≤B.mf
 i:B.n0≤B.mi
 ne:B.ms≠B.mt∧B.ms≠B.mf∧B.ms≠B.mi∧B.mt≠B.mf∧B.mt≠B.mi∧B.mf≠B.mi∧B.tb≠B.ms∧B.tb≠B.mt∧B.tb≠B.mf∧B.tb≠B.mi
 gi:∀k,B.gi=some k→k≠B.ms∧k≠B.mt∧k≠B.mf∧k≠B.mi
structure sQ (B:Fb) (vi:Value) (N:Nat) (T:Tab) (w:World) (P:Nat→Prop):Prop where
 ok:B.Ok
 pt:P B.tb
 ps:P B.ms
 pr:P B.mt
 pf:P B.mf
 pim:P B.mi
 pp:∀k,B.pi k→k<w.heap.size∧P k
 blk:w.heap[B.tb]?=some (.cells #[vi,.map (some B.ms),.map (some B.mt),.map (some B.mf),.map (some B.mi)] 127 (0,0))
 items:jF nX w B.pi T.items vi
 ms:Au w B.ms T.st N
 mt:Au w B.mt T.tr N
 mf:Au w B.mf T.fn N
 mi:Ko w B.mi T.im N
 st:∀s i,T.st s=some i→i<T.items.length
 tr:∀s i,T.tr s=some i→i<T.items.length
 fn:∀s i,T.fn s=some i→i<T.items.length
theorem Ij (B:Fb) (vi:Value) (N:Nat) (T:Tab):RD (sQ B vi N T) where
 step:=fun hs hP h=>{h with
  pp:=fun k hk=>⟨Nat.lt_of_lt_of_le (h.pp k hk).1 hs.size,(h.pp k hk).2⟩
  blk:=hs.keep h.blk (hP _ h.pt)
  items:=(bQ aT).step _ _ hs (fun k hk e=>hP k (h.pp k hk).2 e) h.items
  ms:=h.ms.step hs (hP _ h.ps)
  mt:=h.mt.step hs (hP _ h.pr)
  mf:=h.mf.step hs (hP _ h.pf)
  mi:=h.mi.step hs (hP _ h.pim)}
 mono:=fun hp h=>{h with
  pt:=hp _ (aI h.blk) h.pt
  ps:=hp _ h.ms.lt h.ps
  pr:=hp _ h.mt.lt h.pr
  pf:=hp _ h.mf.lt h.pf
  pim:=hp _ h.mi.lt h.pim
  pp:=fun k hk=>⟨(h.pp k hk).1,hp k (h.pp k hk).1 (h.pp k hk).2⟩}
theorem sQ.tab {B:Fb} {vi:Value} {N:Nat} {T:Tab} {w:World} {P:Nat→Prop} (h:sQ B vi N T w P) (hN:N≤1000):TabAt Eb B.tb T w P:=
 ⟨h.pt,⟨vi,B.ms,B.mt,B.mf,B.mi,h.blk,(bQ aT).mono _ _ (fun k _ hk=>(h.pp k hk).2) h.items,⟨h.ps,h.ms.at' hN⟩,⟨h.pr,h.mt.at' hN⟩,⟨h.pf,h.mf.at' hN⟩,h.pim,h.mi.at' hN⟩,h.st,h.tr,h.fn⟩
theorem Ik {w w':World} {S:Nat→Prop} {base:Nat} {e:TypeId} {size:Nat} {v:Value} {n:Nat} {xs:List Value} (h:w.ownsRow base e size v n xs) (hs:Step S w w') (hn:∀q,v.ownBlock=some q→¬S q):w'.ownsRow base e size v n xs:=by
 obtain⟨h0,h|⟨g,cap,cur,rfl,h1,h2,h3⟩⟩:=h
 ·exact⟨h0,.inl h⟩
 ·exact⟨h0,.inr ⟨g,cap,cur,rfl,h1,hs.keep h2 (hn g rfl),h3⟩⟩
theorem lm.upd {cb:Nat} {u vi:Value} {B:Fb} {N:Nat} {T T':Tab} {w w':World} {v:Value} {es:List Er} {b:Nat} (h:lm cb u (sQ B vi N T) w v es) (hg:w.grownBy w' (some b)) (hb:Out cb v w b) (hbt:B.tb≠b) (hbg:∀k,B.pi k→k≠b) (hi:T'.items=T.items) (h1:Au w' B.ms T'.st (N+1)) (h2:Au w' B.mt T'.tr (N+1)) (h3:Au w' B.mf T'.fn (N+1)) (h4:Ko w' B.mi T'.im (N+1)) (h5:∀s i,T'.st s=some i→i<T'.items.length) (h6:∀s i,T'.tr s=some i→i<T'.items.length) (h7:∀s i,T'.fn s=some i→i<T'.items.length):lm cb u (sQ B vi (N+1) T') w' v es:=by have hs:=bM hg;have hO:∀{k},Out cb v w k→Out cb v w' k:=fun hk=>⟨Nat.lt_of_lt_of_le hk.1 hs.size,hk.2⟩;refine⟨hs.keep h.blk (fun e=>hb.2.1 (Option.some.inj e)),Ik h.own hs (fun q hq e=>hb.2.2 (by rw[hq];exact e.symm)),?_,Ij _ _ _ _⟩;have t:=h.tab;exact⟨t.ok,hO t.pt,hO t.ps,hO t.pr,hO t.pf,hO t.pim,fun k hk=>⟨Nat.lt_of_lt_of_le (t.pp k hk).1 hs.size,hO (t.pp k hk).2⟩,hs.keep t.blk (fun e=>hbt (Option.some.inj e).symm),by rw[hi];exact(bQ aT).step _ _ hs (fun k hk e=>hbg k hk (Option.some.inj e).symm) t.items,h1,h2,h3,h4,h5,h6,h7⟩
set_option maxRecDepth 100000
set_option maxHeartbeats 4000000
def uo (T:Tab) (k:Int):ByteArray→Option Nat:=if k=1 then T.st else if k=2 then T.tr else T.fn
def Tab.put (T:Tab) (k:Int) (s:ByteArray) (i:Nat):Tab:=if k=1 then{T with st:=xX T.st s i}else if k=2 then{T with tr:=xX T.tr s i}else{T with fn:=xX T.fn s i}
def Fb.bm (B:Fb) (k:Int):Nat:=if k=1 then B.ms else if k=2 then B.mt else B.mf
def kF (T:Tab) (i:Nat) (x:It):Tab×List Er:=
 if x.kind=3 then(if(T.im x.name x.head).isSome then(T,[(4,x.line,x.col)])else({T with im:=yt T.im x.name x.head i},[]))
 else if(uo T x.kind x.name).isSome||(decide (x.kind≠4)&&((T.st x.name).isSome||(T.tr x.name).isSome))then(T,[(4,x.line,x.col)])else(T.put x.kind x.name i,[])
theorem Il {m:ByteArray→Option Nat} {s:ByteArray} {i n:Nat} (h:∀s j,m s=some j→j<n) (hi:i<n):∀x j,xX m s i x=some j→j<n:=by
 intro x j hj;unfold xX at hj;split at hj
 ·cases hj;exact hi
 ·exact h x j hj
theorem Au.put' {w w':World} {b n N i:Nat} {D:DataW Unit} {m:ByteArray→Option Nat} {s:ByteArray} (h1:w.ownsMap Tryz.prog 9 (plainElem Tryz.prog 3) b n D) (h2:n≤N) (h3:MpD D m) (h:w'.ownsMap Tryz.prog 9 (plainElem Tryz.prog 3) b (n+1) (D.put (keyS s) (.lit (.int .i64 i)))):Au w' b (xX m s i) (N+1):=
 ⟨n+1,_,h,by omega,h3.put h1.isMap s i⟩
section
variable {cb : Nat} {u vi : Value} {B : Fb} {N : Nat} {T : Tab} {w w' : World} {v : Value} {es : List Er}
theorem lm.bump (h:lm cb u (sQ B vi N T) w v es):lm cb u (sQ B vi (N+1) T) w v es:=
 ⟨h.blk,h.own,{h.tab with ms:=h.tab.ms.mono (Nat.le_succ _),mt:=h.tab.mt.mono (Nat.le_succ _),mf:=h.tab.mf.mono (Nat.le_succ _),mi:=h.tab.mi.mono (Nat.le_succ _)},Ij _ _ _ _⟩
theorem Fb.Ok.pi (h:B.Ok) {b:Nat} (hb:b=B.ms∨b=B.mt∨b=B.mf∨b=B.mi):∀k,B.pi k→k≠b:=by
 intro k hk e;have h1:=h.s;have h2:=h.r;have h3:=h.f;have h4:=h.i;rcases hk with hk|hk
 ·rcases hb with rfl|rfl|rfl|rfl<;>omega
 ·have h5:=h.gi k hk;rcases hb with rfl|rfl|rfl|rfl
  ·exact h5.1 e
  ·exact h5.2.1 e
  ·exact h5.2.2.1 e
  ·exact h5.2.2.2 e
theorem lm.ent (h:lm cb u (sQ B vi N T) w v es) {k:Int} {s:ByteArray} {i:Nat} (hi:i<T.items.length) (hg:w.grownBy w' (some (B.bm k))) (hm:Au w' (B.bm k) (xX (uo T k) s i) (N+1)):lm cb u (sQ B vi (N+1) (T.put k s i)) w' v es:=by
 have t:=h.tab;obtain⟨n1,n2,n3,n4,n5,n6,n7,n8,n9,n10⟩:=t.ok.ne;have hs:=bM hg;unfold Tab.put;unfold Fb.bm at hg hm;unfold uo at hm;by_cases h1:k=1
 ·rw[if_pos h1]at hg hm⊢;rw[if_pos h1]at hm;exact h.upd hg t.ps n7 (t.ok.pi (.inl rfl)) rfl hm ((t.mt.step (bM hg) (fun e=>n1 (Option.some.inj e))).mono (Nat.le_succ _)) ((t.mf.step (bM hg) (fun e=>n2 (Option.some.inj e))).mono (Nat.le_succ _)) ((t.mi.step (bM hg) (fun e=>n3 (Option.some.inj e))).mono (Nat.le_succ _)) (Il t.st hi) t.tr t.fn
 ·rw[if_neg h1]at hg hm⊢;rw[if_neg h1]at hm;by_cases h2:k=2
  ·rw[if_pos h2]at hg hm⊢;rw[if_pos h2]at hm;exact h.upd hg t.pr n8 (t.ok.pi (.inr (.inl rfl))) rfl ((t.ms.step (bM hg) (fun e=>n1 (Option.some.inj e).symm)).mono (Nat.le_succ _)) hm ((t.mf.step (bM hg) (fun e=>n4 (Option.some.inj e))).mono (Nat.le_succ _)) ((t.mi.step (bM hg) (fun e=>n5 (Option.some.inj e))).mono (Nat.le_succ _)) t.st (Il t.tr hi) t.fn
  ·rw[if_neg h2]at hg hm⊢;rw[if_neg h2]at hm;exact h.upd hg t.pf n9 (t.ok.pi (.inr (.inr (.inl rfl)))) rfl ((t.ms.step (bM hg) (fun e=>n2 (Option.some.inj e).symm)).mono (Nat.le_succ _)) ((t.mt.step (bM hg) (fun e=>n4 (Option.some.inj e).symm)).mono (Nat.le_succ _)) hm ((t.mi.step (bM hg) (fun e=>n6 (Option.some.inj e))).mono (Nat.le_succ _)) t.st t.tr (Il t.fn hi)
theorem lm.bmAt (h:lm cb u (sQ B vi N T) w v es) (k:Int):Au w (B.bm k) (uo T k) N:=by
 unfold Fb.bm uo;split
 ·exact h.tab.ms
 ·split
  ·exact h.tab.mt
  ·exact h.tab.mf
theorem lm.entI (h:lm cb u (sQ B vi N T) w v es) {a b:ByteArray} {i:Nat} (hg:w.grownBy w' (some B.mi)) (hm:Ko w' B.mi (yt T.im a b i) (N+1)):lm cb u (sQ B vi (N+1) {T with im:=yt T.im a b i}) w' v es:=by have t:=h.tab;obtain⟨n1,n2,n3,n4,n5,n6,n7,n8,n9,n10⟩:=t.ok.ne;exact h.upd hg t.pim n10 (t.ok.pi (.inr (.inr (.inr rfl)))) rfl ((t.ms.step (bM hg) (fun e=>n3 (Option.some.inj e).symm)).mono (Nat.le_succ _)) ((t.mt.step (bM hg) (fun e=>n5 (Option.some.inj e).symm)).mono (Nat.le_succ _)) ((t.mf.step (bM hg) (fun e=>n6 (Option.some.inj e).symm)).mono (Nat.le_succ _)) hm t.st t.tr t.fn
end
def Ec (cb:Nat) (B:Fb) (vi:Value) (N:Nat) (T:Tab) (es:List Er) (w:World) (e:Ending) (w':World):Prop:=
 e=.returned (.tuple #[])∧∃v',lm cb (.pointer (some ⟨B.tb,0,none⟩)) (sQ B vi N T) w' v' es∧Step (fun q=>B.n0≤q) w w'
theorem MJ (cb:Nat) (B:Fb) (vi:Value) (N:Nat) (T:Tab) (i:Nat) (it:It) (cs:List Value) (es:List Er) (v:Value) (w:World) (hN:N<1000) (hi:i<T.items.length) (hi9:i<1000) (hcb:B.n0≤cb) (h:lm cb (.pointer (some ⟨B.tb,0,none⟩)) (sQ B vi N T) w v es) (hit:nX w (Out cb v w) it cs) (hl:es.length≤1000000000):Calls Tryz.prog 65 #[.pointer (some ⟨cb,0,none⟩),.int .i64 i,.agg cs.toArray] w (Ec cb B vi (N+1) (kF T i it).1 (es++(kF T i it).2) w):=by
 obtain⟨w1,hw1⟩:=aU (w.alloc (.cells cs.toArray 51));have HST:Hid (Step (fun _=>False) w w1):=by show Step _ _ _;rw[hw1];exact bJ.alloc _
 have HB0:Hid (w1.heap[w.heap.size]?=some (.cells cs.toArray 51 (0,0))):=by show _=_;rw[hw1];exact aA _ _
 have HW1:=ak hw1;have oM:=ak (h.quiet HST.o);have FY:=ak (h.new (w':=w1) (k:=w.heap.size) (Nat.le_refl _) (aI HB0.o));obtain⟨_,_,_,_,_,_,⟨hc0,hc1,hc2,-,-,-,-,-,hc17,hc18⟩,-,-,-,hnn,hnh⟩:=hit.get;have sW:Hid (cs[0]?=some (.int .i64 it.kind)∧cs[1]?=some (.string it.name)∧cs[2]?=some (.string it.head)∧cs[17]?=some (.int .i64 it.line)∧cs[18]?=some (.int .i64 it.col)):=⟨hc0,hc1,hc2,hc17,hc18⟩;have sZ:Hid (∀(X:World),Step (fun _=>False) w1 X→∀(j:Nat) u,cs[j]?=some u→X.cell? ⟨w.heap.size,j,none⟩=some u):=by intro X hX j u hu;exact aj (hX.keep HB0.o (fun h=>h)) j u (by rw[List.getElem?_toArray];exact hu)
 have Pz:=ak hnn;have HNH:=ak hnh;have HII:=ak hi;have IJ:Hid (∀X,Step (fun _=>False) w1 X→X.cell? ⟨cb,0,none⟩=some (.pointer (some ⟨B.tb,0,none⟩))∧X.cell? ⟨B.tb,1,none⟩=some (.map (some B.ms))∧X.cell? ⟨B.tb,2,none⟩=some (.map (some B.mt))∧X.cell? ⟨B.tb,3,none⟩=some (.map (some B.mf))∧X.cell? ⟨B.tb,4,none⟩=some (.map (some B.mi))):=by intro X hX;have h2:=oM.o.quiet hX;have h3:=h2.tab.blk;exact⟨aj h2.blk 0 _ rfl,aj h3 1 _ rfl,aj h3 2 _ rfl,aj h3 3 _ rfl,aj h3 4 _ rfl⟩
 obtain⟨kd,hkd⟩:=aU it.kind;obtain⟨R,hR⟩:=aU (kF T i it);rw[←hR]
 have HR:Hid (R=if kd=3 then(if(T.im it.name it.head).isSome then(T,[(4,it.line,it.col)])else({T with im:=yt T.im it.name it.head i},[]))
  else if(uo T kd it.name).isSome||(decide (kd≠4)&&((T.st it.name).isSome||(T.tr it.name).isSome))then(T,[(4,it.line,it.col)])else(T.put kd it.name i,[])):=by show _=_;rw[hR,kF,hkd]
 have HFA:Hid (∀(X:World),Step (fun _=>False) w1 X→R=(T,[(4,it.line,it.col)])→Calls Tryz.prog 97 #[.pointer (some ⟨cb,0,none⟩),.int .i64 4,.agg #[ah it.line,ah it.col]] X (Ec cb B vi (N+1) R.1 (es++R.2) w)):=by
  intro X hX hRe;refine(eu cb _ _ 4 it.line it.col es v X (oM.o.quiet hX) hl).mono ?_;rintro e w5 ⟨rfl,v5,h5,g5⟩;refine⟨rfl,v5,by rw[hRe];exact h5.bump,((HST.o.trans hX).mono fe).trans (g5.st.mono (fun q _ e=> ?_))⟩;rcases e with rfl|e
  ·exact hcb
  ·have h8:=(h.own.lt q e).1;omega
 have HKD:=ak hkd.symm;have i0:w1.cell? ⟨w.heap.size,0,none⟩=some (.int .i64 kd):=by rw[hkd];exact sZ.o w1 bJ 0 _ hc0
 obtain⟨k0,k1,k2,k3,k4⟩:=IJ.o w1 bJ;clear hw1 h hit hc0 hc1 hc2 hc17 hc18 hnn hnh hkd hR hl hi;go_enter Tryz.func65,Tryz.ntmps65;go_upto_region 1 with fail
 rw[←HW1.o];by_cases h3:kd=3
 ·subst h3;have HR3:=ak (HR.o.trans (if_pos rfl));go_upto_region 8 with fail
  obtain⟨so,hso⟩:=aU (T.im it.name it.head);rw[←hso]at HR3;have hlk:∀n,(Instr.lookup 125 (.map (some B.mi)) (.agg #[aY it.name,aY it.head]) true).run Tryz.prog (w1.drewN n)=.ok (.tuple #[ah (so.getD 0:Nat),dV so.isSome]) (w1.drewN n):=fun n=>by rw[hso];exact(zH.step (S:=fun _=>False) ((Step.refl _ w1).drewN n) (fun h=>h) (oM.o.tab.mi.at' (Nat.le_of_lt hN))).look it.name it.head Pz.o HNH.o
  have i1:=sZ.o w1 bJ 1 _ sW.o.2.1;have i2:=sZ.o w1 bJ 2 _ sW.o.2.2.1;have HSO:=ak hso;clear hso;go_quiet (fail);have HS2:Hid (Step (fun _=>False) w1 (w1.drewN nq)):=bJ.drewN nq;obtain⟨w2,hw2⟩:=aU (w1.drewN nq);rw[←hw2]at HS2⊢;clear hw2 hlk i0 i1 i2 k0 k1 k2 k3 k4;cases so with
  |some j=>have hRe:R=(T,[(4,it.line,it.col)]):=HR3.o;have ng:=ak hRe;clear hRe;have e17:=sZ.o w2 HS2.o 17 _ sW.o.2.2.2.1;have e18:=sZ.o w2 HS2.o 18 _ sW.o.2.2.2.2;go_wp2_with fail;refine(HFA.o _ HS2.o ng.o).mono ?_;rintro e w5 hp;obtain⟨rfl,hq⟩:Ec _ _ _ _ _ _ _ _ _:=hp;have HQ:=ak hq;clear hq;go_wp2_with fail;refine bodyPost_ret (results_none rfl _ _ _) rfl ?_;exact⟨rfl,HQ.o⟩
  |none=>have hRe:R=({T with im:=yt T.im it.name it.head i},[]):=HR3.o;have ng:=ak hRe;clear hRe;(go_upto_region 11 with fail);have HSd:Hid (Step (fun _=>False) w1 w2.drew):=HS2.o.drew;obtain⟨wd,hwd⟩:=aU w2.drew;(have HCd:Hid (lm cb (.pointer (some ⟨B.tb,0,none⟩)) (sQ B vi N T) wd v es):=by rw[hwd];exact oM.o.quiet HSd.o);obtain⟨n,D,hown,hnN,hD⟩:=HCd.o.tab.mi;obtain⟨kl,hkl⟩:=NK it.name it.head Pz.o HNH.o;have HOWN:=ak hown;have HKL:=ak hkl;have HD:=ak hD;have QH:=ak hwd;obtain⟨k0,k1,k2,k3,k4⟩:=IJ.o w2 HS2.o;have i1:=sZ.o w2 HS2.o 1 _ sW.o.2.1;have i2:=sZ.o w2 HS2.o 2 _ sW.o.2.2.1;clear hown hkl hD hwd;go_still_tail 13,kr;change wpList _ _ _ _ _ w2.drew;rw[←QH.o];go_wp2_with (refine wpList_mapUpdate_own _ rfl (.tmp 71) (.tmp 76) (.tmp 77) 125 rfl 144 3 Tryz.Ur Tryz.underlying125 (plainElem Tryz.prog 3) B.mi n D (by rfl) HOWN.o (by unfold maxLen;omega) (Fa it.name it.head) (.int .i64 i) kl (by rfl) (by rfl) HKL.o (.lit (.int .i64 i)) [] (plainElem_int Tryz.underlying3 (WalkArith.wf_i64 om)) ?_;intro w6 hown6 hgrow6);have YA:Hid (lm cb (.pointer (some ⟨B.tb,0,none⟩)) (sQ B vi (N+1) {T with im:=yt T.im it.name it.head i}) w6 v es):=HCd.o.entI hgrow6 ⟨n+1,_,hown6,by omega,HD.o.put HOWN.o.isMap it.name it.head i kl HKL.o⟩;have Xx:Hid (Step (fun q=>B.n0≤q) w w6):=((HST.o.trans (by rw[QH.o];exact HSd.o)).mono fe).trans ((bM hgrow6).mono (fun q _ e=>by have:=HCd.o.tab.ok.i;have e2:=Option.some.inj e;omega));clear hown6 hgrow6;go_wp2_with fail;refine bodyPost_ret (results_none rfl _ _ _) rfl ?_;exact⟨rfl,v,by rw[ng.o,List.append_nil];exact YA.o,Xx.o⟩
 ·have vG:=ak (HR.o.trans (if_neg h3));obtain⟨bm,hbm⟩:=aU (B.bm kd);have HBM:=ak hbm;have HMP:Hid (∀X,Step (fun _=>False) w1 X→Au X bm (uo T kd) N):=fun X hX=>by rw[HBM.o];exact(oM.o.quiet hX).bmAt kd
  clear hbm;go_upto_block 0 with fail
  go_cut [6] (fun s6 wx=>s6=.map (some bm)∧w1=wx);case first=>
   by_cases h1:kd=1
   ·(have hb:bm=B.ms:=by rw[HBM.o,Fb.bm,if_pos h1]);subst h1;go_wp2_with fail;go_meet;case rel=>exact⟨by rw[hb],rfl⟩
   ·by_cases h2:kd=2
    ·(have hb:bm=B.mt:=by rw[HBM.o,Fb.bm,if_neg h1,if_pos h2]);subst h2;go_wp2_with fail;go_meet;case rel=>exact⟨by rw[hb],rfl⟩
    ·(have hb:bm=B.mf:=by rw[HBM.o,Fb.bm,if_neg h1,if_neg h2]);go_wp2_with fail;go_meet;case rel=>exact⟨by rw[hb],rfl⟩
  case rest=>
   obtain⟨rfl,hwx⟩:=hcut;subst hwx;obtain⟨so,hso⟩:=aU (uo T kd it.name);obtain⟨sa,hsa⟩:=aU (T.st it.name);obtain⟨sb,hsb⟩:=aU (T.tr it.name);(have hlk:(Instr.lookup 124 (.map (some bm)) (.string it.name) true).run Tryz.prog w1=.ok (.tuple #[ah (so.getD 0:Nat),dV so.isSome]) w1:=by rw[hso];exact((HMP.o w1 bJ).at' (Nat.le_of_lt hN)).look it.name Pz.o);rw[←hso,←hsa,←hsb]at vG;have i1:=sZ.o w1 bJ 1 _ sW.o.2.1;(have Gw:Hid (∀X,Step (fun _=>False) w1 X→(Instr.lookup 124 (.map (some B.ms)) (.string it.name) true).run Tryz.prog X=.ok (.tuple #[ah (sa.getD 0:Nat),dV sa.isSome]) X):=fun X hX=>by rw[hsa];exact((oM.o.quiet hX).tab.ms.at' (Nat.le_of_lt hN)).look it.name Pz.o);(have Ky:Hid (∀X,Step (fun _=>False) w1 X→(Instr.lookup 124 (.map (some B.mt)) (.string it.name) true).run Tryz.prog X=.ok (.tuple #[ah (sb.getD 0:Nat),dV sb.isSome]) X):=fun X hX=>by rw[hsb];exact((oM.o.quiet hX).tab.mt.at' (Nat.le_of_lt hN)).look it.name Pz.o);clear hso hsa hsb;(go_upto_region 13 with fail);clear hlk;have hlk:∀n,(Instr.lookup 124 (.map (some B.ms)) (.string it.name) true).run Tryz.prog (w1.drewN n)=.ok (.tuple #[ah (sa.getD 0:Nat),dV sa.isSome]) (w1.drewN n):=fun n=>Gw.o _ ((Step.refl _ w1).drewN n);go_quiet (fail);have HS2:Hid (Step (fun _=>False) w1 (w1.drewN nq)):=bJ.drewN nq;obtain⟨w2,hw2⟩:=aU (w1.drewN nq);rw[←hw2]at HS2⊢;clear hw2 hlk i0 i1 k0 k1 k2 k3 k4;obtain⟨k0,k1,k2,k3,k4⟩:=IJ.o w2 HS2.o;have i1:=sZ.o w2 HS2.o 1 _ sW.o.2.1;(go_upto_region 14 with fail);have hlk:∀n,(Instr.lookup 124 (.map (some B.mt)) (.string it.name) true).run Tryz.prog (w2.drewN n)=.ok (.tuple #[ah (sb.getD 0:Nat),dV sb.isSome]) (w2.drewN n):=fun n=>Ky.o _ (HS2.o.drewN n);go_quiet (fail);have eX:Hid (Step (fun _=>False) w1 (w2.drewN nq)):=HS2.o.drewN nq;obtain⟨w3,hw3⟩:=aU (w2.drewN nq);rw[←hw3]at eX⊢;clear hw3 hlk i1 k0 k1 k2 k3 k4;have e0:=sZ.o w3 eX.o 0 _ sW.o.1;have Vo:Hid (it.kind=kd):=HKD.o;rw[Vo.o]at e0;(go_upto_region 15 with fail);go_cut [122] (fun s wx=>s=.bool (so.isSome||(decide (kd≠4)&&(sa.isSome||sb.isSome)))∧w3=wx);case first=>
    by_cases h4:kd=4
    ·subst h4;cases so<;>cases sa<;>cases sb<;>(go_wp2_with fail;go_meet;case rel=>exact⟨rfl,rfl⟩)
    ·have e4:decide (kd≠4)=true:=decide_eq_true h4;have FD:=ak e4;have Dn:Hid ((kd !=4)=true):=ak (by simp[h4]);clear e4;cases so<;>cases sa<;>cases sb<;>(go_wp2_with fail;go_meet;case rel=>first|exact⟨by rw[FD.o];rfl,rfl⟩|exact⟨by rw[FD.o,Dn.o];rfl,rfl⟩)
   case rest=>
    obtain⟨rfl,hwx⟩:=hcut;subst hwx;clear e0;obtain⟨bb,hbb⟩:=aU (so.isSome||(decide (kd≠4)&&(sa.isSome||sb.isSome)));rw[←hbb]at vG⊢;clear hbb;cases bb with
    |true=>have ng:Hid (R=(T,[(4,it.line,it.col)])):=vG.o;have e17:=sZ.o w3 eX.o 17 _ sW.o.2.2.2.1;have e18:=sZ.o w3 eX.o 18 _ sW.o.2.2.2.2;go_wp2_with fail;refine(HFA.o _ eX.o ng.o).mono ?_;rintro e w5 hp;obtain⟨rfl,hq⟩:Ec _ _ _ _ _ _ _ _ _:=hp;have HQ:=ak hq;clear hq;go_wp2_with fail;refine bodyPost_ret (results_none rfl _ _ _) rfl ?_;exact⟨rfl,HQ.o⟩
    |false=>have ng:Hid (R=(T.put kd it.name i,[])):=vG.o;have i1:=sZ.o w3 eX.o 1 _ sW.o.2.1;have HCd:Hid (lm cb (.pointer (some ⟨B.tb,0,none⟩)) (sQ B vi N T) w3 v es):=oM.o.quiet eX.o;obtain⟨n,D,hown,hnN,hD⟩:=HMP.o w3 eX.o;have HOWN:=ak hown;have HD:=ak hD;clear hown hD;go_wp2_with (refine wpList_mapUpdate_own _ rfl (.tmp 127) (.tmp 129) (.tmp 130) 124 rfl 9 3 Tryz.lawS Tryz.underlying124 (plainElem Tryz.prog 3) bm n D (by rfl) HOWN.o (by unfold maxLen;omega) (.string it.name) (.int .i64 i) (keyS it.name) (by rfl) (by rfl) (WideMaps.keyOf_string_mk Tryz.underlying9 Pz.o) (.lit (.int .i64 i)) [] (plainElem_int Tryz.underlying3 (WalkArith.wf_i64 om)) ?_;intro w6 hown6 hgrow6);have YA:Hid (lm cb (.pointer (some ⟨B.tb,0,none⟩)) (sQ B vi (N+1) (T.put kd it.name i)) w6 v es):=HCd.o.ent HII.o (by rw[←HBM.o];exact hgrow6) (by rw[←HBM.o];exact Au.put' HOWN.o hnN HD.o hown6);have Xx:Hid (Step (fun q=>B.n0≤q) w w6):=((HST.o.trans eX.o).mono fe).trans ((bM hgrow6).mono (fun q _ e=>by have:=HCd.o.tab.ok;have e2:=Option.some.inj e;rw[HBM.o]at e2;rw[←e2];unfold Fb.bm;split;exact this.s;split;exact this.r;exact this.f));clear hown6 hgrow6;go_wp2_with fail;refine bodyPost_ret (results_none rfl _ _ _) rfl ?_;exact⟨rfl,v,by rw[ng.o,List.append_nil];exact YA.o,Xx.o⟩
end Go.Proofs.YtppekkbaoimpgaaGreat
