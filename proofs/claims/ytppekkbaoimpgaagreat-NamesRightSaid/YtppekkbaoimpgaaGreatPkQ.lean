import Derived.Test.YtppekkbaoimpgaaGreatPkP
import Derived.DeepKeys4
import Derived.WideMake
set_option maxRecDepth 100000
set_option maxHeartbeats 80000000
namespace Go.Proofs.YtppekkbaoimpgaaGreat
open Go.RowKit
open Vt
def stepW (T:Tab) (x:It) (st:List ByteArray×List ByteArray) (s:ByteArray):List ByteArray×List ByteArray:=if(T.st s).isSome&& !(x.gen.types.any (eqS s))&& !(st.1.any (eqS s))then(st.1++[s],st.2++[s])else st
def yB (T:Tab) (x:It) (st:List ByteArray×List ByteArray) (p:Pm):List ByteArray×List ByteArray:=(jU p.ty).foldl (stepW T x) st
def iI (T:Tab):Nat→List ByteArray→List ByteArray→Option (List ByteArray)
 |0,_,_=>none
 |_+1,[],out=>some out
 |f+1,t::r,out=>iI T f (((T.get T.st t).getD qZ).fields.foldl (yB T ((T.get T.st t).getD qZ)) (out,r)).2 (((T.get T.st t).getD qZ).fields.foldl (yB T ((T.get T.st t).getD qZ)) (out,r)).1
def LeW (a b:List ByteArray×List ByteArray):Prop:=a.1.length≤b.1.length∧b.2.length+a.1.length=a.2.length+b.1.length
theorem LeW.trans {a b c:List ByteArray×List ByteArray} (h:LeW a b) (k:LeW b c):LeW a c:=⟨Nat.le_trans h.1 k.1,by have:=h.2;have:=k.2;omega⟩
theorem Gl (T:Tab) (x:It) (st:List ByteArray×List ByteArray) (s:ByteArray):LeW st (stepW T x st s):=by
 unfold stepW;split
 ·exact⟨by simp,by simp;omega⟩
 ·exact⟨Nat.le_refl _,Nat.add_comm _ _▸rfl⟩
theorem sN {α:Type} (f:List ByteArray×List ByteArray→α→List ByteArray×List ByteArray) (hf:∀st a,LeW st (f st a)):∀(l:List α) (st:List ByteArray×List ByteArray),LeW st (l.foldl f st)
 |[],_=>⟨Nat.le_refl _,Nat.add_comm _ _▸rfl⟩
 |a::r,st=>(hf st a).trans (sN f hf r (f st a))
theorem Q7 (T:Tab) (x:It) (st:List ByteArray×List ByteArray) (p:Pm):LeW st (yB T x st p):=sN _ (Gl T x) _ _
theorem Ea (T:Tab):∀(f:Nat) (todo out res:List ByteArray),iI T f todo out=some res→out.length≤res.length
 |0,_,_,_,h=>by rw[iI]at h;cases h
 |f+1,[],out,res,h=>by rw[iI]at h;cases h;exact Nat.le_refl _
 |f+1,t::r,out,res,h=>by
  rw[iI]at h
  exact Nat.le_trans (sN _ (Q7 T _) _ (out,r)).1 (Ea T f _ _ res h)
mutual
theorem Q8 {w:World} {P:Nat→Prop}:∀(t:Ty) (cs:List Value),iC w P t cs→∀s∈jU t,s.size≤9223372036854775807
 | .mk k n _ _ _ ar _ _,cs,h,s,hs=>by
  rw[iC]at h
  obtain⟨_,_,xs,-,hn,-,-,-,hta,-⟩:=h
  rw[jU]at hs
  split at hs
  ·
   rcases List.mem_cons.1 hs with rfl|hs
   ·
    exact hn
   ·
    exact NQ ar xs hta s hs
  ·
   cases hs
theorem NQ {w:World} {P:Nat→Prop}:∀(l:List Ty) (xs:List Value),gy w P l xs→∀s∈kZ l,s.size≤9223372036854775807
 |[],_,_,s,hs=>by rw[kZ]at hs;cases hs
 |t::r,xs,h,s,hs=>by
  rw[gy]at h
  obtain⟨c1,c2,-,h1,h2⟩:=h
  rw[kZ]at hs
  rcases List.mem_append.1 hs with hs|hs
  ·
   exact Q8 t c1 h1 s hs
  ·
   exact NQ r c2 h2 s hs
end
theorem fold_at {α β:Type} (f:β→α→β) {l:List α} {k:Nat} {a:α} (h:l[k]?=some a) (st:β):(l.drop k).foldl f st=(l.drop (k+1)).foldl f (f st a):=by obtain⟨hk,rfl⟩:=List.getElem?_eq_some_iff.1 h;rw[List.drop_eq_getElem_cons hk,List.foldl_cons]
structure Hg (wA:World) (oA tA:Value) (X:World) (vo vt:Value):Prop where
 st:Step (fun q=>oA.ownBlock=some q∨tA.ownBlock=some q) wA X
 no:vo.ownBlock=oA.ownBlock∨∀q,vo.ownBlock=some q→wA.heap.size≤q
 nt:vt.ownBlock=tA.ownBlock∨∀q,vt.ownBlock=some q→wA.heap.size≤q
theorem Hg.refl (wA:World) (oA tA:Value):Hg wA oA tA wA oA tA:=⟨Step.refl _ _,.inl rfl,.inl rfl⟩
theorem Hg.quiet {wA X X':World} {oA tA vo vt:Value} (h:Hg wA oA tA X vo vt) (hs:StF X X'):Hg wA oA tA X' vo vt:=⟨h.st.trans (hs.mono fun _ _ h=>h.elim),h.no,h.nt⟩
theorem Hg.trans {wA X X':World} {oA tA vo vt vo' vt':Value} (h:Hg wA oA tA X vo vt) (k:Hg X vo vt X' vo' vt'):Hg wA oA tA X' vo' vt' where
 st:=h.st.then k.st (fun i hi e=>by
  rcases e with e|e
  ·
   rcases h.no with h1|h1
   ·
    exact .inl (h1▸e)
   ·
    have:=h1 i e;omega
  ·
   rcases h.nt with h1|h1
   ·
    exact .inr (h1▸e)
   ·
    have:=h1 i e;omega)
 no:=by
  rcases k.no with h1|h1
  ·
   rw[h1];exact h.no
  ·
   exact .inr fun q hq=>Nat.le_trans h.st.size (h1 q hq)
 nt:=by
  rcases k.nt with h1|h1
  ·
   rw[h1];exact h.nt
  ·
   exact .inr fun q hq=>Nat.le_trans h.st.size (h1 q hq)
theorem Hg.Xz {wA X X':World} {oA tA vo vt v6:Value} (h:Hg wA oA tA X vo vt) (hgrow:X.grownBy X' vo.ownBlock) (hat:v6.ownBlock=vo.ownBlock∨v6.ownBlock=some X.heap.size):Hg wA oA tA X' v6 vt:=
 h.trans ⟨(bQ hgrow).mono (fun _ _ h=>.inl h),hat.imp id (fun h1 q hq=>by rw[h1]at hq;cases hq;exact Nat.le_refl _),.inl rfl⟩
theorem Hg.room {wA X:World} {oA tA vo u:Value} {g o n c i n2:Nat} (h:Hg wA oA tA X vo (.slice (some ⟨g,o,none⟩) n c)):Hg wA oA tA (X.setCell ⟨g,i,none⟩ u) vo (.slice (some ⟨g,o,none⟩) n2 c):=
 h.trans ⟨bK.setCell _ _ (fun _=>.inr rfl),.inl rfl,.inl rfl⟩
theorem Hg.grow {wA X X':World} {oA tA vo vt v6:Value} {e:TypeId} {size n:Nat} {xs:List Value} (h:Hg wA oA tA X vo vt) (hown:X'.ownsRow X.heap.size e size v6 n xs) (hgrow:X.grownBy X' none):Hg wA oA tA X' vo v6:=
 h.trans ⟨(bQ hgrow).mono (fun _ _ h=>nomatch h),.inl rfl,.inr fun q hq=>(hown.lt q hq).1⟩
theorem Jh.olds {w:World} {base g o n c:Nat} {l:List ByteArray} (h:Jh w base (.slice (some ⟨g,o,none⟩) n c) l):n=l.length∧(∀(j:Nat) u,(iG l)[j]?=some u→w.cell? ⟨g,o+j,none⟩=some u)∧(n+1≤c→∀j,j<[Value.string ⟨#[]⟩].length→(w.cell? ⟨g,o+n*1+j,none⟩).isSome=true∧w.frozen? ⟨g,o+n*1+j,none⟩=false)∧n≤c∧c≤maxLen:=by
 obtain⟨g',o',c',cur,hv,h1,h2,h3,h4,h5,h6⟩:=h;cases hv;refine⟨rfl,fun j u hu=> ?_,fun hr j hj=> ?_,h3,h5⟩
 ·rw[iG,List.getElem?_map]at hu;obtain⟨x,hx,rfl⟩:=Option.map_eq_some_iff.1 hu;exact aj h2 _ _ (h6 j x hx)
 ·simp at hj;subst hj;have hlt:o+l.length*1+0<cur.size:=by omega
  exact⟨by rw[aj h2 _ _ (Array.getElem?_eq_getElem hlt)];rfl,aI h2 _⟩
theorem u_.off {w0 X:World} {vo vt:Value} {out todo:List ByteArray} (h:u_ w0 X vo vt out todo) {b:Nat} (hb:X.heap.size≤b):¬(vo.ownBlock=some b∨vt.ownBlock=some b):=by
 rintro(e|e)
 ·have:=(h.out.lt b e).2;omega
 ·have:=(h.todo.lt b e).2;omega
theorem NR {IM:World→Nat→(ByteArray→ByteArray→Option Nat)→Prop} (him:x_ IM) (cb tb:Nat) (T:Tab) (P:Nat→Prop) (v:Value) (name:ByteArray) (F:Nat) (res:List ByteArray) (w:World) (hP:∀k,P k→k<w.heap.size) (hT:TabAt IM tb T w P) (hcb:w.heap[cb]?=some (.cells #[eU tb 0,v] 130 (0,0))) (hfd:∀x∈T.items,∀p∈x.fields,(jU p.ty).length≤1000000) (hns:name.size≤9223372036854775807) (hw:iI T F [name] []=some res) (hrl:res.length≤1000000):Calls Tryz.prog 105 #[.pointer (some ⟨cb,0,none⟩),.string name] w (wI res w):=by
 obtain⟨i0,hi0,hz0,hz1,hz2⟩:=info_parts Tryz.qE;have HI:=au hi0;have HZ0:=au hz0;have HZ1:=au hz1;have HZ2:=au hz2;have HW:=au hw;have S9:=au hns;have HKT:Hid (∀X,StF w X→TabAt IM tb T X P):=fun X hX=>(sJ him tb T).step hX (fun _ _ h=>h) hT;have qF:Hid (∀X,StF w X→X.cell? ⟨cb,0,none⟩=some (.pointer (some ⟨tb,0,none⟩))):=fun X hX=>aj (hX.keep hcb (fun h=>h)) 0 _ rfl;have HP:=au hP;have mO:Hid (∀t,∀p∈((T.get T.st t).getD qZ).fields,(jU p.ty).length≤1000000):=by
  intro t p hp;cases hg:T.get T.st t with
  |none=>rw[hg]at hp;cases hp
  |some x=>rw[hg]at hp;rw[Tab.get]at hg;obtain⟨i,-,hi⟩:=Option.bind_eq_some_iff.1 hg;exact hfd x (List.mem_of_getElem? hi) p hp
 clear hi0 hz0 hz1 hz2 hw hT hcb hP hfd hns;go_enter Tryz.func105,Tryz.ntmps105;go_wp2_with fail;have hst0:u_ w (w.alloc (.cells #[a_ name] 9)) (.slice none 0 0) (.slice (some ⟨w.heap.size,0,none⟩) 1 1) [] [name]:=
  ⟨bK.alloc _,⟨rfl,.inl ⟨rfl,rfl⟩⟩,Jh.eu ⟨rfl,.inr ⟨w.heap.size,1,#[.string name],rfl,Nat.le_refl _,aC _ _,Nat.le_refl _,by decide,rfl,rfl⟩⟩ (by simp),(fun q h=>nomatch h)⟩
 have HST0:=au hst0;clear hst0;go_loopg [5,6,7,8,10,12,13,14] F (fun gg s5 s6 _ _ _ _ _ _ wr=>∃(out todo:List ByteArray) (f:Nat),u_ w wr s5 s6 out todo∧f≤gg∧iI T f todo out=some res∧todo.length≤out.length+1∧∀s∈todo,s.size≤9223372036854775807);case atStart=>exact⟨[],[name],F,HST0.o,Nat.le_refl _,HW.o,by simp,fun s hs=>by rw[List.mem_singleton.1 hs];exact S9.o⟩
 case round=>
  obtain⟨out,todo,f,hwi,hfg,hwf,htl,hts⟩:=hrel;have YM:=au hwi;obtain⟨vo1,vo2,hvo⟩:=aV hwi.out;subst hvo;cases todo with
  |nil=>
   obtain⟨g,o,c,cur,hq,-⟩:=hwi.todo;subst hq;have HRES:Hid (out=res):=by
    show _=_;cases f with
    |zero=>rw[iI]at hwf;cases hwf
    |succ f=>rw[iI]at hwf;exact Option.some.inj hwf
   clear hwi hwf htl hts;go_wp2_with fail;go_ret;exact⟨⟨_,rfl,by rw[←HRES.o];exact YM.o.out⟩,YM.o.st⟩
  |cons t r=>
   obtain⟨f,rfl⟩:∃f',f=f'+1:=by
    cases f with
    |zero=>rw[iI]at hwf;cases hwf
    |succ f=>exact⟨f,rfl⟩
   obtain⟨x,hx⟩:=aN ((T.get T.st t).getD qZ);rw[iI,←hx]at hwf;obtain⟨fin,hfin⟩:=aN (x.fields.foldl (yB T x) (out,r));rw[←hfin]at hwf;have HFIN:=au hfin;have HWF:=au hwf;have rD:=au (Ea T f _ _ res hwf);have HX:=au hx;have HTS:=au hts;(have HTL:Hid (r.length≤out.length+1):=by show _≤_;simp at htl;omega);obtain⟨g,o,c,hq,hcell,hc0,hrc,hqr⟩:=hwi.todo.first;subst hq;have HQR:=au hqr;have Dl:=au hcell;obtain⟨ok,hok⟩:=aN (T.st t).isSome;(have UR:Hid (∀X,StF wr X→Calls Tryz.prog 25 #[.pointer (some ⟨tb,0,none⟩),.string t] X (fun e w'=>(∃cs:List Value,e=.returned (.tuple #[.agg cs.toArray,dW ok])∧lm w' P x cs)∧StF X w')):=by rw[hok,hx];intro X hX;exact KF him tb T _ t X (HKT.o X (YM.o.st.trans hX)) (hts t (List.mem_cons_self)) (fun k hk=>Nat.lt_of_lt_of_le (HP.o k hk) (YM.o.st.trans hX).size));(have P5:Hid (∀X,StF wr X→X.cell? ⟨cb,0,none⟩=some (.pointer (some ⟨tb,0,none⟩))∧X.cell? ⟨g,o,none⟩=some (.string t)):=by intro X hX;exact⟨qF.o X (YM.o.st.trans hX),hX.cell Dl.o (fun h=>h)⟩);have NI:Hid (YJ wr 19 (fun X cs=>lm X P x cs)):=⟨fun X X' cs hs h=>aQ.step _ _ hs (fun k hk e=>by have:=HP.o k hk;have:=YM.o.st.size;omega) h,fun X cs h=>⟨aQ.len _ _ h,aQ.one _ _ h⟩⟩;(have hn1:(0:Int)<((r.length+1:Nat):Int):=by omega);clear hwi hwf htl hts hx hok hqr hcell hfin;(go_upto_region 4 with fail);go_cut [7,8] (fun s7 s8 wx=>∃(b7:Nat) (ci:List Value),s7=.pointer (some ⟨b7,0,none⟩)∧s8=.bool ok∧wr.heap.size≤b7∧wx.heap[b7]?=some (.cells ci.toArray 51 (0,0))∧lm wx P x ci∧StF wr wx);case first=>
    refine kP kr (Ur wr (.pointer (some ⟨cb,0,none⟩)) (.pointer (some ⟨cb,0,none⟩)) (.pointer (some ⟨tb,0,none⟩)) (.slice (some ⟨g,o,none⟩) (r.length+1) c) (.pointer (some ⟨g,o,none⟩)) (.string t) (fun X cs=>lm X P x cs) ok 51 19) 14 rfl kr kr kr kr ?h0 ?hs ?hdone;case h0=>exact Ur.zero (bK.drew)
    case hs=>
     refine⟨?_,?_,?_,?_,?_,?_,?_,?_,?_,?_,?_,?_,?_,?_,trivial⟩
     ·intro L V X a ev dG hL ax hJ;have o0:=dG 0 rfl;change a.tmps[0]?.getD undef=.pointer (some ⟨cb,0,none⟩)at o0;go_simp;exact⟨_,rfl,{hJ with p0:=fun _=>rfl}⟩
     ·intro L V X a ev dG hL ax hJ;have e21:=(ev 0 21 rfl (ax 0 rfl)).trans (hJ.p0 (ax 0 rfl));go_simp;exact⟨_,rfl,{hJ with p1:=fun _=>rfl}⟩
     ·intro L V X a ev dG hL ax hJ;have e22:=(ev 1 22 rfl (ax 1 rfl)).trans (hJ.p1 (ax 1 rfl));go_simp;exact⟨_,rfl,{hJ with p2:=fun _=>rfl}⟩
     ·intro L V X a ev dG hL ax hJ;have e23:=(ev 2 23 rfl (ax 2 rfl)).trans (hJ.p2 (ax 2 rfl));obtain⟨k1,k2⟩:=P5.o X hJ.st;go_simp;exact⟨_,rfl,{hJ with p3:=fun _=>rfl}⟩
     ·intro L V X a ev dG hL ax hJ;have o4:=dG 6 rfl;change a.tmps[6]?.getD undef=.slice (some ⟨g,o,none⟩) (r.length+1) c at o4;go_simp;exact⟨_,rfl,{hJ with p4:=fun _=>rfl}⟩
     ·intro L V X a ev dG hL ax hJ;have e25:=(ev 4 25 rfl (ax 4 rfl)).trans (hJ.p4 (ax 4 rfl));go_simp;exact⟨_,rfl,{hJ with p5:=fun _=>rfl}⟩
     ·intro L V X a ev dG hL ax hJ;have e26:=(ev 5 26 rfl (ax 5 rfl)).trans (hJ.p5 (ax 5 rfl));obtain⟨k1,k2⟩:=P5.o X hJ.st;go_simp;exact⟨_,rfl,{hJ with p6:=fun _=>rfl}⟩
     ·intro L V X a ev dG hL ax hJ;have e24:=(ev 3 24 rfl (ax 3 rfl)).trans (hJ.p3 (ax 3 rfl));have e27:=(ev 6 27 rfl (ax 6 rfl)).trans (hJ.p6 (ax 6 rfl));go_simp;refine(UR.o X hJ.st).mono ?_;rintro e w6 ⟨⟨cs,rfl,hat⟩,h6⟩;exact⟨_,rfl,{hJ.step NI.o h6 with p7:=fun _=>⟨cs,rfl,hat⟩}⟩
     ·intro L V X a ev dG hL ax hJ;obtain⟨cs,y1,y2⟩:=hJ.p7 (ax 7 rfl);have e28:=(ev 7 28 rfl (ax 7 rfl)).trans (y1);go_simp;exact⟨_,rfl,{hJ with p8:=fun _=>⟨cs,rfl,y2⟩}⟩
     ·intro L V X a ev dG hL ax hJ;obtain⟨cs,y1,y2⟩:=hJ.p8 (ax 8 rfl);have e20:=(ev 8 20 rfl (ax 8 rfl)).trans (y1);go_simp;exact⟨_,rfl,{hJ with p9:=fun _=>⟨cs,rfl,y2⟩}⟩
     ·intro L V X a ev dG hL ax hJ;obtain⟨cs,y1,y2⟩:=hJ.p8 (ax 8 rfl);have e20:=(ev 8 20 rfl (ax 8 rfl)).trans (y1);go_simp;exact⟨_,rfl,{hJ with p10:=fun _=>rfl}⟩
     ·intro L V X a ev dG hL ax hJ;go_simp;exact⟨_,rfl,hJ.Xd NI.o _ rfl hL⟩
     ·intro L V X a ev dG hL ax hJ;obtain⟨b9,c9,y1,y2,y3,y4,-⟩:=hJ.p11 (ax 11 rfl);obtain⟨cs,z1,z2⟩:=hJ.p9 (ax 9 rfl);obtain⟨z3,z4⟩:=NI.o.2 _ _ z2;have e7:=(ev 11 7 rfl (ax 11 rfl)).trans (y1);have e29:=(ev 9 29 rfl (ax 9 rfl)).trans (z1);refine eH 51 (.tmp 7) (.tmp 29) rfl b9 0 51 c9 cs (by rw[bM];exact e7) (by rw[bM];exact e29) y4 (by rw[z3];exact Tryz.dI) om z4 ?_;intro w9 iJ hs9;rw[EF om]at iJ;exact⟨undef,rfl,hJ.up12 NI.o y1 (ax 11 rfl) z2 undef iJ hs9⟩
     ·intro L V X a ev dG hL ax hJ;have e30:=(ev 10 30 rfl (ax 10 rfl)).trans (hJ.p10 (ax 10 rfl));go_simp;exact⟨_,rfl,{hJ with p13:=fun _=>rfl}⟩
    case hdone=>intro L V X hall hJ;obtain⟨b8,c8,h1,h2,-,h4,h5⟩:=hJ.p11 (hall 11 dc);obtain⟨cs8,rfl,hcs⟩:=h5 (hall 12 dc);have h12:=hJ.p13 (hall 13 dc);have hst:=hJ.st;rw[rgQ14];simp only[kJ,fO,gsQ,o9];go_wp2_with fail;go_meet;case rel=>exact⟨b8,cs8,by first|exact h1|rfl,by first|exact h12|rfl,h2,h4,hcs,hst⟩
   case rest=>
    obtain⟨b7,ci,rfl,rfl,hb7,hblk,hat,hst⟩:=hcut;obtain⟨w7,rfl⟩:=aN wc;have LG:=au hblk;obtain⟨vl7,vt7,vf7,vw7,vm7,ct7,⟨-,-,-,-,ic4,ic5,-,-,-,-⟩,⟨-,igt,ifs,-,-⟩,-⟩:=hat.get;obtain⟨at7,act7,rfl⟩:=igt.2.parts;obtain⟨af7,cf7,rfl⟩:=ifs.parts;have HGTY:=au igt;have HFS:=au ifs;have HIC4:=au ic4;obtain⟨fl,hfl⟩:=aN x.fields;(have HFDX:Hid (∀p∈fl,(jU p.ty).length≤1000000):=by rw[hfl,HX.o];exact mO.o t);rw[←hfl]at HFIN HFS ic5;have hw70:u_ w w7 (.slice vo1 out.length vo2) (.slice (some ⟨g,o,none⟩) (r.length+1) c) out (t::r):=YM.o.quiet hst;have HW70:=au hw70;have i5:=aj LG.o 5 _ (by rw[List.getElem?_toArray];exact ic5);have hlt7:=aK LG.o;have HQ7:Hid (Jh w7 w.heap.size (.slice (some ⟨g,o+1,none⟩) r.length (c-1)) r):=HQR.o.keep hst (fun _ _ h=>h);clear hblk hat hst ic4 ic5 igt ifs hfl hw70 UR P5 NI hn1;(go_upto_region 5 with fail);go_cut [6] (fun s6 wx=>w7=wx∧Jh w7 w.heap.size s6 r∧s6.ownBlock=some g);case first=>
     clear i5;(have hc1:1≤r.length+1:=by omega);by_cases hcc:c=1
     ·subst hcc;obtain rfl:r=[]:=List.length_eq_zero_iff.1 om;go_wp2_with fail;go_meet;case rel=>refine⟨rfl,?_,rfl⟩;obtain⟨g',o',c',cur,hv,y1,y2,-,y4,-⟩:=HW70.o.todo;cases hv;exact⟨g,o,0,cur,rfl,y1,y2,Nat.le_refl _,by omega,by decide,fun i x hx=>by simp at hx⟩
     ·(have hc2:1≤c:=by omega);go_wp2_with fail;go_meet;case rel=>exact⟨rfl,HQ7.o,rfl⟩
    case rest=>
     obtain⟨hwx,hq7,hg7⟩:=hcut;subst hwx;obtain⟨g6,o6,c6,cur6,hv6,hq6⟩:=hq7;subst hv6;(obtain rfl:g6=g:=by cases hg7;rfl);have hw7:u_ w w7 (.slice vo1 out.length vo2) (.slice (some ⟨g6,o6,none⟩) r.length c6) out r:=
      {HW70.o with todo:=⟨g6,o6,c6,cur6,rfl,hq6⟩,ne:=fun q hq e=>HW70.o.ne q hq e}
     have HW7:=au hw7;have HO7:Hid (¬((Value.slice vo1 out.length vo2).ownBlock=some b7∨(Value.slice (some ⟨g6,o6,none⟩) r.length c6).ownBlock=some b7)):=YM.o.off hb7;have HPO:Hid (∀k,P k→¬((Value.slice vo1 out.length vo2).ownBlock=some k∨(Value.slice (some ⟨g6,o6,none⟩) r.length c6).ownBlock=some k)):=by
      intro k hk e;have h1:=HP.o k hk;rcases e with e|e
      ·have:=(HW7.o.out.lt k e).1;omega
      ·have:=(HW7.o.todo.lt k e).1;omega
     have HTS7:Hid (∀s∈r,s.size≤9223372036854775807):=fun s hs=>HTS.o s (List.mem_cons_of_mem _ hs);clear hq6 hg7 hw7;obtain⟨go1,rfl⟩:=aN (gk:Nat);obtain⟨wo,rfl⟩:=aN wr;go_wp2_with fail;clear i5;go_loopg [5,6,10,12,13,14,36] fl.length (fun g9 s5 s6 _ _ _ _ s36 wr=>∃(k:Nat) (out1 yC:List ByteArray),s36=.int .i64 k∧k≤fl.length∧fl.length-k≤g9∧u_ w wr s5 s6 out1 yC∧Hg w7 (.slice vo1 out.length vo2) (.slice (some ⟨g6,o6,none⟩) r.length c6) wr s5 s6∧(fl.drop k).foldl (yB T x) (out1,yC)=fin∧yC.length≤out1.length+1∧∀s∈yC,s.size≤9223372036854775807);case atStart=>exact⟨0,out,r,rfl,Nat.zero_le _,by omega,HW7.o,Hg.refl _ _ _,HFIN.o.symm,HTL.o,HTS7.o⟩
     case round=>
      obtain⟨k,out1,yC,rfl,hk,hgk,hw1,hm1,hf1,htl1,hts1⟩:=hrel;have HW1:=au hw1;have KD:=au hm1;have HF1:=au hf1;have HTL1:=au htl1;have HTS1:=au hts1;by_cases hlt:k<fl.length
      ·obtain⟨p,hx⟩:∃p,fl[k]?=some p:=⟨fl[k],List.getElem?_eq_getElem hlt⟩;obtain⟨xs,⟨a',c',hva,hcl,hcm,-,hra⟩,hls⟩:=(bH fH).step _ _ hm1.st (fun k hk e=>HPO.o k hk e) HFS.o;(obtain⟨rfl,rfl⟩:af7=a'∧cf7=c':=by cases hva;exact⟨rfl,rfl⟩);obtain⟨gp,op,rfl,-,-,hcell⟩:=hra om;obtain⟨cp,hat,hget⟩:=oG.get fH k hls hx;(have iD:Hid (∀(jj:Nat) v,cp[jj]?=some v→wr.cell? ⟨gp,op+k*11+jj,none⟩=some v):=by intro jj v hv;rw[Nat.add_assoc];exact hcell _ _ (hget jj v hv));(have lq:Hid ((Tryz.prog.info? 167).map (·.size)=some cp.length):=by rw[fH.len _ _ hat];exact Tryz.uY);have HL11:=au (fH.len _ _ hat);have Eh:=au (fH.one _ _ hat);obtain⟨w8,hw8⟩:=aN (wr.alloc (.cells cp.toArray 167));(have Aj:Hid (StF wr w8):=by rw[hw8];exact bK.alloc _);(have OA:Hid (w8.heap[wr.heap.size]?=some (.cells cp.toArray 167 (0,0))):=by rw[hw8];exact aC _ _);have HW8:=au hw8;obtain⟨-,-,-,ct,hty,hct⟩:=hat.get;(have Ak:Hid (∀(jj:Nat) v,ct[jj]?=some v→w8.cell? ⟨wr.heap.size,1+jj,none⟩=some v):=by intro jj v hv;exact aj OA.o _ _ (by rw[List.getElem?_toArray];exact hct _ _ hv));(have Gh:Hid ((Tryz.prog.info? 46).map (·.size)=some ct.length):=by rw[hty.len];exact Tryz.eF);have HHS:=au (Q8 p.ty ct hty);have HHC:=au (NP P (SizeOf.sizeOf p.ty+1) p.ty ct w8 (Nat.lt_succ_self _) (iC.step Aj.o (fun _ _ h=>h) _ _ hty) (HFDX.o p (List.mem_of_getElem? hx)));obtain⟨hs,hhs⟩:=aN (jU p.ty);obtain⟨st2,hst2⟩:=aN (yB T x (out1,yC) p);(have HF2:Hid ((fl.drop (k+1)).foldl (yB T x) st2=fin):=by rw[hst2,←fold_at _ hx];exact hf1);rw[yB,←hhs]at hst2;have qx:=au hst2;(have hhl:hs.length≤1000000:=by rw[hhs];exact HFDX.o p (List.mem_of_getElem? hx));unfold wI at HHC;rw[←hhs]at HHC HHS;(have hlb:fl.length≤9223372036854775807:=by omega);obtain⟨vo3,vo4,hvo⟩:=aV hw1.out;subst hvo;obtain⟨g3,o3,c3,yu,hv3,-⟩:=hw1.todo;subst hv3;clear hx hva hcl hcm hra hcell hls hat hget hw8 hty hct hhs hst2 hw1 hm1 hf1 htl1 hts1;go_wp2_with (first
        |(refine aA rfl 167 (.tmp 38) rfl gp (op+k*11) rfl cp _ iD.o Tryz.underlying167 rfl lq.o ?_)
        |(refine bT rfl 167 (.tmp 10) (.tmp 39) rfl _ cp rfl rfl lq.o (by rw[HL11.o];rfl) Eh.o ?_;rw[←HW8.o])
        |(refine aA rfl 46 (.tmp 40) rfl wr.heap.size 1 rfl ct _ Ak.o Tryz.underlying46 rfl Gh.o ?_))
       refine HHC.o.mono ?_;rintro e w9 ⟨⟨v9,rfl,gZ⟩,h9⟩;have Ov:=au (Aj.o.trans h9);have HW9:=au (HW1.o.quiet Ov.o);have QE:Hid (cu w9 (fun q=>v9.ownBlock=some q) v9 hs.length (iG hs)):=cu.eu gZ (fun _ h=>h);(have HO9:Hid (∀q,v9.ownBlock=some q→¬((Value.slice vo3 out1.length vo4).ownBlock=some q∨(Value.slice (some ⟨g3,o3,none⟩) yC.length c3).ownBlock=some q)):=by intro q hq;exact HW1.o.off (Nat.le_trans Aj.o.size (gZ.lt q hq).1));obtain⟨va9,vc9,rfl⟩:=aV gZ;clear gZ h9;obtain⟨go2,rfl⟩:=aN (gk:Nat);obtain⟨wq,rfl⟩:=aN wr;go_wp2_with fail;go_loopg [5,6,12,13,14,44] hs.length (fun g9 s5 s6 _ _ _ s44 wr=>∃(j:Nat) (qQ lV:List ByteArray),s44=.int .i64 j∧j≤hs.length∧hs.length-j≤g9∧u_ w wr s5 s6 qQ lV∧Hg w9 (.slice vo3 out1.length vo4) (.slice (some ⟨g3,o3,none⟩) yC.length c3) wr s5 s6∧(hs.drop j).foldl (stepW T x) (qQ,lV)=st2∧lV.length≤qQ.length+1∧∀s∈lV,s.size≤9223372036854775807);case atStart=>exact⟨0,out1,yC,rfl,Nat.zero_le _,by omega,HW9.o,Hg.refl _ _ _,qx.o.symm,HTL1.o,HTS1.o⟩
       case round=>
        obtain⟨j,qQ,lV,rfl,hj,hgj,hw2,hm2,hf2,htl2,hts2⟩:=hrel;have HW2:=au hw2;have tK:=au hm2;have HFJ:=au hf2;have Us:=au htl2;have XA:=au hts2;by_cases hlj:j<hs.length
        ·obtain⟨s,hx⟩:∃s,hs[j]?=some s:=⟨hs[j],List.getElem?_eq_getElem hlj⟩;obtain⟨a',c',hva,hcl,hcm,-,hra⟩:=QE.o.step hm2.st (fun q hq e=>HO9.o q hq e);(obtain⟨rfl,rfl⟩:va9=a'∧vc9=c':=by cases hva;exact⟨rfl,rfl⟩);obtain⟨gh,oh,rfl,-,-,hcell⟩:=hra om;have f0:=hcell j _ (kz _ j s hx);have hta:=HKT.o wr hw2.st;obtain⟨vi,ms,mt,mf,mi,t0,-,⟨-,t4⟩,-⟩:=hta.ex;have HSS:=au (HHS.o s (List.mem_of_getElem? hx));have hlk:=t4.look s HSS.o;have k0:=qF.o wr hw2.st;have t2:=aj t0 1 _ rfl;have qV:=au ((KD.o.quiet Ov.o).trans hm2);have HB7r:=au (qV.o.st.keep LG.o HO7.o);have i4:=aj HB7r.o 4 _ (by rw[List.getElem?_toArray];exact HIC4.o);have QZ:Hid (Calls Tryz.prog 104 #[.slice at7 x.gen.types.length act7,.string s] wr fun e w'=>e=.returned (.bool (x.gen.types.any (eqS s)))∧StF wr w'):=
          kD P s _ _ _ (aX.step _ _ qV.o.st (fun k hk e=>HPO.o k hk e) HGTY.o).2
         obtain⟨vo5,vo6,hvo⟩:=aV hw2.out;subst hvo;obtain⟨g4,o4,c4,cur4,hv4,-⟩:=hw2.todo;subst hv4;have HCO:Hid (∀X,StF wr X→Calls Tryz.prog 104 #[.slice vo5 qQ.length vo6,.string s] X fun e w'=>e=.returned (.bool (qQ.any (eqS s)))∧StF X w'):=fun X hX=>
          kD (fun _=>True) s qQ _ X (cu.eu (HW2.o.quiet hX).out (fun _ _=>trivial))
         obtain⟨ok2,hok2⟩:=aN (T.st s).isSome;obtain⟨b2,hb2⟩:=aN (x.gen.types.any (eqS s));obtain⟨b3,hb3⟩:=aN (qQ.any (eqS s));(have Q5:Hid ((hs.drop (j+1)).foldl (stepW T x) (if ok2&& !b2&& !b3 then(qQ++[s],lV++[s])else(qQ,lV))=st2):=by show _=_;have:=hf2;rw[fold_at _ hx,stepW,←hok2,←hb2,←hb3]at this;exact this);rw[←hok2]at hlk;rw[←hb2]at QZ;rw[←hb3]at HCO;(have hlb2:hs.length≤9223372036854775807:=by omega);clear hx hva hcl hcm hra hcell hta t0 t4 hw2 hm2 hf2 htl2 hts2 hok2 hb2 hb3;cases ok2 with
         |false=>
          have NS:Hid ((hs.drop (j+1)).foldl (stepW T x) (qQ,lV)=st2):=Q5.o;go_wp2_with fail;go_roundg (gk-1);case rel=>exact⟨j+1,qQ,lV,by go_num,hlj,sbQ hgj,HW2.o,tK.o,NS.o,Us.o,XA.o⟩
          case measure=>omega
         |true=>
          go_wp2_with fail;refine QZ.o.mono ?_;rintro e wa ⟨rfl,hsa⟩;have CJ:=au hsa;have HWA:=au (HW2.o.quiet hsa);have HMA:=au (tK.o.quiet hsa);clear hsa hlk k0 t2 i4 f0;cases b2 with
          |true=>
           have NS:Hid ((hs.drop (j+1)).foldl (stepW T x) (qQ,lV)=st2):=Q5.o;go_wp2_with fail;go_roundg (gk-1);case rel=>exact⟨j+1,qQ,lV,by go_num,hlj,sbQ hgj,HWA.o,HMA.o,NS.o,Us.o,XA.o⟩
           case measure=>omega
          |false=>
           go_wp2_with fail;refine(HCO.o _ CJ.o).mono ?_;rintro e wb ⟨rfl,hsb⟩;have YH:=au (HWA.o.quiet hsb);have HMB:=au (HMA.o.quiet hsb);clear hsb;cases b3 with
           |true=>
            have NS:Hid ((hs.drop (j+1)).foldl (stepW T x) (qQ,lV)=st2):=Q5.o;go_wp2_with fail;go_roundg (gk-1);case rel=>exact⟨j+1,qQ,lV,by go_num,hlj,sbQ hgj,YH.o,HMB.o,NS.o,Us.o,XA.o⟩
            case measure=>omega
           |false=>
            have HPUT:Hid ((hs.drop (j+1)).foldl (stepW T x) (qQ++[s],lV++[s])=st2):=Q5.o;(have hob:qQ.length+1≤1000000:=by have h1:=(sN (stepW T x) (Gl T x) (hs.drop (j+1)) (qQ++[s],lV++[s])).1;rw[HPUT.o]at h1;have h2:=(sN (yB T x) (Q7 T x) (fl.drop (k+1)) st2).1;rw[HF2.o]at h2;have h3:=rD.o;simp only[List.length_append,List.length_singleton]at h1;omega);(have htb:lV.length+1≤1000001:=by have:=Us.o;omega);(have HLP:Hid ((lV++[s]).length≤(qQ++[s]).length+1):=by show _≤_;have:=Us.o;simp only[List.length_append,List.length_singleton];omega);have HSP:Hid (∀z∈lV++[s],z.size≤9223372036854775807):=by
             intro z hz;rcases List.mem_append.1 hz with hz|hz
             ·exact XA.o z hz
             ·rw[List.mem_singleton.1 hz];exact HSS.o
            have vM:Hid (StF wb (wb.alloc (.cells #[a_ s] 9))):=bK.alloc _;have HWC:=au (YH.o.quiet vM.o);have HMC:=au (HMB.o.quiet vM.o);have HRW:Hid (Row (wb.alloc (.cells #[a_ s] 9)) (wb.heap.size+1) (.slice (some ⟨wb.heap.size,0,none⟩) 1 1) 1 [.string s]):=Row.new (cs:=[.string s]) (aC _ _) dc;have hsz:=HWC.o.st.size;(go_upto_region 15 with(refine dK _ rfl (wb.heap.size+1) (.tmp 75) (.tmp 77) 40 rfl w.heap.size 9 i0 (.string ⟨#[]⟩) 1 16 Tryz.underlying40 HI.o HZ0.o HZ1.o HZ2.o rfl dc _ qQ.length _ (by simp[Act.eval]) HWC.o.out _ 1 [.string s] (by simp[Act.eval]) HRW.o rfl (aU rfl) (by unfold maxLen;omega) om hsz ?_;intro v6 w6 hown6 hgrow6 hat6));have HWP:=au (HWC.o.Xz hown6 hgrow6 hat6);have HMP:=au (HMC.o.Xz hgrow6 hat6);obtain⟨vo7,vo8,hv6⟩:=aV hown6;subst hv6;have CO:Hid (StF w6 (w6.alloc (.cells #[a_ s] 9))):=bK.alloc _;have HW7':=au (HWP.o.quiet CO.o);have HM7':=au (HMP.o.quiet CO.o);obtain⟨-,hold,hspare,hnc,hcm⟩:=HW7'.out.todo.olds;have HOLD:=au hold;have HSPARE:=au hspare;(have HNEW:Hid (∀(j:Nat) u,[Value.string s][j]?=some u→(w6.alloc (.cells #[a_ s] 9)).cell? ((⟨w6.heap.size,0,none⟩:Addr).add j)=some u):=by intro j u hu;rw[Addr.add_lit];refine aj (aC w6 (.cells #[a_ s] 9)) _ u ?_;rw[Nat.zero_add];simpa using hu);clear hown6 hgrow6 hat6 hold hspare;go_wp2_with (refine wpList_append_arg _ rfl (.tmp 79) (.tmp 81) 40 rfl 9 i0 (.string ⟨#[]⟩) 1 16 Tryz.underlying40 HI.o HZ0.o HZ1.o HZ2.o rfl dc g4 o4 lV.length c4 (iG lV) (by rfl) (by simp[iG]) HOLD.o ⟨w6.heap.size,0,none⟩ 1 1 [.string s] (by rfl) rfl HNEW.o (aU rfl) HSPARE.o (by unfold maxLen;omega) om (fun hroom=> ?_) (fun hgr v8 w8 qU ni=> ?_))
            ·rw[setCells_one];go_roundg (gk-1);case rel=>exact⟨j+1,qQ++[s],lV++[s],by go_num,hlj,sbQ hgj,HW7'.out.room rfl hroom,HM7'.out.room,HPUT.o,HLP.o,HSP.o⟩
             case measure=>omega
            ·go_roundg (gk-1);case rel=>exact⟨j+1,qQ++[s],lV++[s],by go_num,hlj,sbQ hgj,HW7'.out.grow qU ni,HM7'.out.grow qU ni,HPUT.o,HLP.o,HSP.o⟩
             case measure=>omega
        ·(have hj2:j=hs.length:=by omega);(have HFE:Hid ((qQ,lV)=st2):=by show _=_;have:=hf2;rw[hj2,List.drop_length]at this;exact this);have qV:=au ((KD.o.quiet Ov.o).trans hm2);obtain⟨vo5,vo6,hvo⟩:=aV hw2.out;subst hvo;obtain⟨g4,o4,c4,cur4,hv4,-⟩:=hw2.todo;subst hv4;clear hw2 hm2 hf2 htl2 hts2 hj2;go_wp2_with fail;go_roundg (go2-1);case rel=>exact⟨k+1,qQ,lV,by go_num,hlt,sbQ hgk,HW2.o,qV.o,by rw[HFE.o];exact HF2.o,Us.o,XA.o⟩
         case measure=>omega
      ·(have hk2:k=fl.length:=by omega);(have HFE:Hid ((out1,yC)=fin):=by show _=_;have:=hf1;rw[hk2,List.drop_length]at this;exact this);obtain⟨vo3,vo4,hvo⟩:=aV hw1.out;subst hvo;obtain⟨g3,o3,c3,yu,hv3,-⟩:=hw1.todo;subst hv3;clear hw1 hm1 hf1 htl1 hts1 hk2;go_wp2_with fail;go_roundg (go1-1);case rel=>exact⟨out1,yC,f,HW1.o,by omega,by have:=HWF.o;rw[←HFE.o]at this;exact this,HTL1.o,HTS1.o⟩
       case measure=>omega
section
variable {P : Program} {md : Region.Mode} {ops : Array Oper} {Q : Exit → Act → World → Prop} {a0 : Act} {n : Nat} {J : (Nat → Bool) → (Nat → Value) → World → Prop}
def Ad (P:Program) (md:Region.Mode) (ops:Array Oper) (Q:Exit→Act→World→Prop) (a0:Act) (n:Nat) (J:(Nat→Bool)→(Nat→Value)→World→Prop):Nat→List Oper→Prop:=AllOp fun i o=>∀(L:Nat→Bool) (V:Nat→Value) (w:World) (a:Act),(∀j k,fO ops j=some k→L j=true→a.tmps[k]?.getD undef=V j)→(∀k,LU ops (List.range n) k=true→a.tmps[k]?.getD undef=a0.tmps[k]?.getD undef)→L i=false→(∀j,(rG md o).contains j=true→L j=true)→J L V w→oV P Q J L V w a i o
theorem wZ {id:Nat} {w:World} (hm:P.follows .mixedOrders=true) (J:(Nat→Bool)→(Nat→Value)→World→Prop) (n:Nat) (hn:ops.size=n) (hd:vP ops (List.range n)=true) (hb:DL .any ops=true) (hr:DN ops (List.range n) a0.tmps.size=true) (hg:gdD .any ops=true) (h0:J (fun _=>false) (fun _=>undef) w.drew) (hs:Ad P .any ops Q a0 n J 0 ops.toList) (hdone:∀L V w,(∀i,i<n→L i=true)→J L V w→Q .normal (kJ ops V (List.range n) a0) w):(Code.region id ops true).wp P Q a0 w:=
 wp_region_relyA hm J n hn hd hb hr hg h0 (fun _ _ ho L V w a h1 h2 _ h3 h4 h5=>hs.at ho L V w a h1 h2 h3 h4 h5) hdone
end
def XB (T:Tab) (F:Nat) (n:ByteArray):List ByteArray:=(iI T F [n] []).getD []
def Qh (T:Tab) (F i:Nat) (x:It):List Er:=if x.kind=1∧T.st x.name=some i∧(XB T F x.name).any (eqS x.name)=true then[(7,x.line,x.col)]else[]
def Iz (T:Tab) (F:Nat):Nat→List It→List Er
 |_,[]=>[]
 |i,x::r=>Qh T F i x++Iz T F (i+1) r
theorem szE_at {T:Tab} {F:Nat} {l:List It} {k:Nat} {x:It} (h:l[k]?=some x):Iz T F k (l.drop k)=Qh T F k x++Iz T F (k+1) (l.drop (k+1)):=by obtain⟨hk,rfl⟩:=List.getElem?_eq_some_iff.1 h;rw[List.drop_eq_getElem_cons hk,Iz]
structure Ut (vals:List (Option Value)) (w:World) (res:List ByteArray) (L:Nat→Bool) (V:Nat→Value) (X:World):Prop where
 d:∀(i:Nat) v,vals[i]?=some (some v)→L i=true→V i=v
 st:StF w X
 r:L 15=true→X.ownsRow w.heap.size 9 1 (V 15) res.length (iG res)
theorem Ut.zero {vals:List (Option Value)} {w X:World} {res:List ByteArray} {V:Nat→Value} (h:StF w X):Ut vals w res (fun _=>false) V X:=⟨fun _ _ _ h=>(nomatch h),h,gQ⟩
theorem Ut.up {vals:List (Option Value)} {w X:World} {res:List ByteArray} {L:Nat→Bool} {V:Nat→Value} (h:Ut vals w res L V X) (i:Nat) {v:Value} (hi:i≠15) (hv:vals[i]?=some (some v)):Ut vals w res (dO L i) (iY V i v) X:=by
 refine⟨fun j u hu hL=> ?_,h.st,fun hL=> ?_⟩
 ·unfold dO iY at*;by_cases e:j=i
  ·subst e;rw[hv]at hu;cases hu;rw[if_pos rfl]
  ·rw[if_neg e]at hL⊢;exact h.d j u hu hL
 ·unfold dO iY at*;rw[if_neg (Ne.symm hi)]at hL⊢;exact h.r hL
theorem Ut.step {vals:List (Option Value)} {w X X':World} {res:List ByteArray} {L:Nat→Bool} {V:Nat→Value} (h:Ut vals w res L V X) (hs:StF X X'):Ut vals w res L V X':=⟨h.d,h.st.trans hs,fun e=>hs.owns (h.r e) (fun _ _ h=>h)⟩
theorem Ut.up15 {vals:List (Option Value)} {w X X':World} {res:List ByteArray} {L:Nat→Bool} {V:Nat→Value} {v:Value} (h:Ut vals w res L V X) (hv:X'.ownsRow X.heap.size 9 1 v res.length (iG res)) (hs:StF X X') (h15:vals[15]?=some none):Ut vals w res (dO L 15) (iY V 15 v) X':=by
 refine⟨fun j u hu hL=> ?_,h.st.trans hs,fun _=> ?_⟩
 ·unfold dO iY at*;by_cases e:j=15
  ·subst e;rw[h15]at hu;cases hu
  ·rw[if_neg e]at hL⊢;exact h.d j u hu hL
 ·exact pO hv h.st.size
theorem Qi {IM:World→Nat→(ByteArray→ByteArray→Option Nat)→Prop} (him:x_ IM) (cb tb:Nat) (T:Tab) (F:Nat) (es:List Er) (v:Value) (w:World) (hfd:∀x∈T.items,∀p∈x.fields,(jU p.ty).length≤1000000) (hwf:∀x∈T.items,∃res,iI T F [x.name] []=some res∧res.length≤1000000) (h:mQ cb (.pointer (some ⟨tb,0,none⟩)) (TabAt IM tb T) w v es) (hb:(es++Iz T F 0 T.items).length≤1000000000):Calls Tryz.prog 67 #[.pointer (some ⟨cb,0,none⟩)] w (ny cb (.pointer (some ⟨tb,0,none⟩)) (TabAt IM tb T) w v (es++Iz T F 0 T.items)):=by
 have mO:=au hfd;have HWF:=au hwf;have UO:=au h;obtain⟨vi,ms,mt,mf,mi,t0,hit,-⟩:=h.tab.ex;obtain⟨ai,ci,rfl⟩:=hit.parts;have HIT:=au hit;have c0:=aj h.blk 0 _ rfl;have t1:w.cell? ⟨tb,0,none⟩=some (.slice ai T.items.length ci):=aj t0 0 _ rfl;obtain⟨tot,ht⟩:=aN (es++Iz T F 0 T.items);rw[←ht]at hb⊢;have HT:=au ht;obtain⟨l,hl⟩:=aN T.items;rw[←hl]at HIT t1 HT mO HWF;have HLL:=au hl;clear h hit t0 ht hfd hwf hl;go_enter Tryz.func67,Tryz.ntmps67;go_wp2_with fail;clear c0 t1;go_loopg [2,3,4,5,14] l.length (fun g9 _ _ _ _ s14 wr=>∃(k:Nat) (cur:List Er) (v1:Value),s14=.int .i64 k∧k≤l.length∧l.length-k≤g9∧mQ cb (.pointer (some ⟨tb,0,none⟩)) (TabAt IM tb T) wr v1 cur∧Mv cb w v wr v1∧cur++Iz T F k (l.drop k)=tot);case atStart=>exact⟨0,es,v,rfl,Nat.zero_le _,by omega,UO.o,Mv.refl _ _ _,HT.o.symm⟩
 case round=>
  obtain⟨k,cur,v1,rfl,hk,hgg,hc,hm,he⟩:=hrel;have HC:=au hc;have HM:=au hm;have HE:=au he;clear hc hm he;by_cases hlt:k<l.length
  ·obtain⟨x,hx⟩:∃x,l[k]?=some x:=⟨l[k],List.getElem?_eq_getElem hlt⟩;obtain⟨xs,⟨a',c',hva,hcl,hcm,-,hra⟩,hls⟩:=(bH aQ).mv HM.o HIT.o;(obtain⟨rfl,rfl⟩:ai=a'∧ci=c':=by cases hva;exact⟨rfl,rfl⟩);obtain⟨g,o,rfl,hg,hgw,hcell⟩:=hra om;obtain⟨cs,hat,hget⟩:=oG.get aQ k hls hx;(have iD:Hid (∀(jj:Nat) v,cs[jj]?=some v→wr.cell? ⟨g,o+k*19+jj,none⟩=some v):=by intro jj v hv;rw[Nat.add_assoc];exact hcell _ _ (hget jj v hv));(have lq:Hid ((Tryz.prog.info? 51).map (·.size)=some cs.length):=by rw[aQ.len _ _ hat];exact Tryz.dI);have wG:=au (aQ.len _ _ hat);have Eh:=au (aQ.one _ _ hat);obtain⟨_,_,_,_,_,_,⟨ic0,ic1,-,-,-,-,-,-,ic17,ic18⟩,-,-,-,hnn,-⟩:=hat.get;obtain⟨w3,hw3⟩:=aN (wr.alloc (.cells cs.toArray 51));(have fK:Hid (StF wr w3):=by rw[hw3];exact bK.alloc _);(have HB3:Hid (w3.heap[wr.heap.size]?=some (.cells cs.toArray 51 (0,0))):=by rw[hw3];exact aC _ _);have HW3:=au hw3;have QY:=au (HC.o.new (k:=wr.heap.size) (Nat.le_refl _) (aK HB3.o));have qV:=au (HM.o.then fK.o);have uF:=au (HC.o.quiet fK.o);obtain⟨res,hres,hrl⟩:=HWF.o x (List.mem_of_getElem? hx);have Xq:=au hnn;(have YM:Hid (∀X,StF w3 X→Calls Tryz.prog 105 #[.pointer (some ⟨cb,0,none⟩),.string x.name] X (wI res X)):=by intro X hX;have h9:=uF.o.quiet hX;exact NR him cb tb T (Out cb v1 X) v1 x.name F res X (fun k hk=>hk.1) h9.tab h9.blk (by rw[←HLL.o];exact mO.o) Xq.o hres hrl);have HIC:Hid (cs[1]?=some (.string x.name)∧cs[17]?=some (.int .i64 x.line)∧cs[18]?=some (.int .i64 x.col)):=⟨ic1,ic17,ic18⟩;obtain⟨E1,hE1⟩:=aN (Qh T F k x);have mY:Hid ((cur++E1)++Iz T F (k+1) (l.drop (k+1))=tot):=fZ (by rw[hE1,←szE_at hx];exact HE.o);(have hWT:XB T F x.name=res:=by rw[XB,hres];rfl);rw[Qh,hWT]at hE1;have CQ:=au hE1;obtain⟨kd,hkd⟩:=aN x.kind;obtain⟨so,hso⟩:=aN (T.st x.name);rw[←hkd,←hso]at CQ;have i0:=aj HB3.o 0 _ (by rw[List.getElem?_toArray];exact ic0);have i1:=aj HB3.o 1 _ (by rw[List.getElem?_toArray];exact ic1);rw[←hkd]at i0;obtain⟨_,ms2,mt2,mf2,mi2,t0,-,⟨-,t4⟩,-⟩:=uF.o.tab.ex;(have hlk:∀n,(Instr.lookup 124 (.map (some ms2)) (.string x.name) true).run Tryz.prog (w3.drewN n)=.ok (.tuple #[ak (so.getD 0:Nat),dW so.isSome]) (w3.drewN n):=fun n=>by rw[hso];exact(t4.step (S:=fun _=>False) (bK.drewN n) (fun h=>h)).look x.name Xq.o);have c0:=aj uF.o.blk 0 _ rfl;have t1:=aj t0 1 _ rfl;(have hlb:l.length≤9223372036854775807:=by omega);clear hcell hx hva hcl hcm hra hg hgw hls hget hat hw3 ic0 ic1 ic17 ic18 hnn hres hE1 hWT hkd hso t4 t0;go_upto_region 3 with(first
    |(refine aA rfl 51 (.tmp 17) rfl g (o+k*19) rfl cs _ iD.o Tryz.underlying51 rfl lq.o ?_)
    |(refine bT rfl 51 (.tmp 3) (.tmp 18) rfl _ cs rfl rfl lq.o (by rw[wG.o];rfl) Eh.o ?_;rw[←HW3.o]))
   simp only[Act.put];go_quiet (fail);clear hlk c0 t1;have HSq:Hid (StF w3 (w3.drewN nq)):=bK.drewN nq;have HCq:=au (uF.o.quiet HSq.o);have HMq:=au (qV.o.then HSq.o);obtain⟨w4,hw4⟩:=aN (w3.drewN nq);(have j0:w4.cell? ⟨wr.heap.size,0,none⟩=some (.int .i64 kd):=by rw[hw4];exact i0);(have j1:w4.cell? ⟨wr.heap.size,1,none⟩=some (.string x.name):=by rw[hw4];exact i1);rw[←hw4]at HSq HCq HMq⊢;clear hw4 i0 i1;(go_upto_region 4 with fail);by_cases hk1:kd=1
   ·subst hk1;cases so with
    |none=>
     (have EG:Hid (E1=[]):=by show _=_;rw[CQ.o,if_neg (fun h=>nomatch h.2.1)]);go_quiet (fail);have HSr:Hid (StF w4 (w4.drewN nq)):=bK.drewN nq;have HCr:=au (HCq.o.quiet HSr.o);have HMr:=au (HMq.o.then HSr.o);go_wp2_with fail;go_roundg (gk-1);case rel=>exact⟨k+1,cur,v1,by go_num,hlt,sbQ hgg,HCr.o,HMr.o,by have:=mY.o;rw[EG.o,List.append_nil]at this;exact this⟩
     case measure=>omega
    |some at0=>
     by_cases hat0:at0=k
     ·subst hat0;(have q1:((at0:Int)==(at0:Int))=true:=by simp);obtain⟨cb2,hcb2⟩:=aN (res.any (eqS x.name));(have EG:Hid (E1=if cb2 then[(7,x.line,x.col)]else[]):=by show _=_;rw[CQ.o,hcb2];cases res.any (eqS x.name)<;>simp);have Em:=au hcb2;clear hcb2;go_cut [51] (fun s51 wx=>s51=.bool cb2∧StF w4 wx);case first=>
       have HWI4:Hid (∀X,StF w4 X→Calls Tryz.prog 105 #[.pointer (some ⟨cb,0,none⟩),.string x.name] X (wI res X)):=fun X hX=>YM.o X (HSq.o.trans hX);have Ib:Hid (∀X,StF w4 X→X.cell? ⟨wr.heap.size,0,none⟩=some (.int .i64 1)∧X.cell? ⟨wr.heap.size,1,none⟩=some (.string x.name)):=fun X hX=>⟨hX.cell j0 (fun h=>h),hX.cell j1 (fun h=>h)⟩;refine wZ kr (Ut [some (.pointer (some ⟨wr.heap.size,0,none⟩)),some (.int .i64 1),some (.bool true),some (.bool true),some (.bool true),some (.bool true),some (.bool true),some (.int .i64 at0),some (.int .i64 at0),some (.bool true),some (.bool true),some (.bool true),some (.pointer (some ⟨cb,0,none⟩)),some (.pointer (some ⟨wr.heap.size,1,none⟩)),some (.string x.name),none,some (.pointer (some ⟨wr.heap.size,1,none⟩)),some (.string x.name),some (.bool cb2),some (.bool cb2)] w4 res) 20 rfl kr kr kr kr ?h0 ?hs ?hdone;case h0=>exact Ut.zero (bK.drew)
       case hs=>
        refine⟨?_,?_,?_,?_,?_,?_,?_,?_,?_,?_,?_,?_,?_,?_,?_,?_,?_,?_,?_,?_,trivial⟩
        ·intro L V X a ev dG hL ax hJ;unfold oV;dsimp only;have o3:=dG 3 rfl;change a.tmps[3]?.getD undef=.pointer (some ⟨wr.heap.size,0,none⟩)at o3;go_simp;exact⟨_,rfl,hJ.up 0 dc rfl⟩
        ·intro L V X a ev dG hL ax hJ;unfold oV;dsimp only;have e32:=(ev 0 32 rfl (ax 0 rfl)).trans (hJ.d 0 _ rfl (ax 0 rfl));obtain⟨k0,k1⟩:=Ib.o X hJ.st;go_simp;exact⟨_,rfl,hJ.up 1 dc rfl⟩
        ·intro L V X a ev dG hL ax hJ;unfold oV;dsimp only;have e33:=(ev 1 33 rfl (ax 1 rfl)).trans (hJ.d 1 _ rfl (ax 1 rfl));go_simp;exact⟨_,rfl,hJ.up 2 dc rfl⟩
        ·intro L V X a ev dG hL ax hJ;unfold oV;dsimp only;have e34:=(ev 2 34 rfl (ax 2 rfl)).trans (hJ.d 2 _ rfl (ax 2 rfl));go_simp;exact⟨_,rfl,hJ.up 3 dc rfl⟩
        ·intro L V X a ev dG hL ax hJ;unfold oV;dsimp only;refine .inl ⟨hJ.d 3 _ rfl (ax 3 rfl),?_⟩;have o5:=dG 5 rfl;change a.tmps[5]?.getD undef=.bool true at o5;go_simp;exact⟨_,rfl,hJ.up 4 dc rfl⟩
        ·intro L V X a ev dG hL ax hJ;unfold oV;dsimp only;have e35:=(ev 3 35 rfl (ax 3 rfl)).trans (hJ.d 3 _ rfl (ax 3 rfl));have e36:=(ev 4 36 rfl (ax 4 rfl)).trans (hJ.d 4 _ rfl (ax 4 rfl));go_simp;exact⟨_,rfl,hJ.up 5 dc rfl⟩
        ·intro L V X a ev dG hL ax hJ;unfold oV;dsimp only;have e37:=(ev 5 37 rfl (ax 5 rfl)).trans (hJ.d 5 _ rfl (ax 5 rfl));go_simp;exact⟨_,rfl,hJ.up 6 dc rfl⟩
        ·intro L V X a ev dG hL ax hJ;unfold oV;dsimp only;refine .inl ⟨hJ.d 6 _ rfl (ax 6 rfl),?_⟩;have o4:=dG 4 rfl;change a.tmps[4]?.getD undef=.int .i64 at0 at o4;go_simp;exact⟨_,rfl,hJ.up 7 dc rfl⟩
        ·intro L V X a ev dG hL ax hJ;unfold oV;dsimp only;refine .inl ⟨hJ.d 6 _ rfl (ax 6 rfl),?_⟩;have o2:=dG 2 rfl;change a.tmps[2]?.getD undef=.int .i64 at0 at o2;go_simp;exact⟨_,rfl,hJ.up 8 dc rfl⟩
        ·intro L V X a ev dG hL ax hJ;unfold oV;dsimp only;refine .inl ⟨hJ.d 6 _ rfl (ax 6 rfl),?_⟩;have e39:=(ev 7 39 rfl (ax 7 rfl)).trans (hJ.d 7 _ rfl (ax 7 rfl));have e40:=(ev 8 40 rfl (ax 8 rfl)).trans (hJ.d 8 _ rfl (ax 8 rfl));go_simp;exact⟨_,rfl,hJ.up 9 dc rfl⟩
        ·intro L V X a ev dG hL ax hJ;unfold oV;dsimp only;have e38:=(ev 6 38 rfl (ax 6 rfl)).trans (hJ.d 6 _ rfl (ax 6 rfl));have e41:=(ev 9 41 rfl (ax 9 rfl)).trans (hJ.d 9 _ rfl (ax 9 rfl));go_simp;exact⟨_,rfl,hJ.up 10 dc rfl⟩
        ·intro L V X a ev dG hL ax hJ;unfold oV;dsimp only;have e42:=(ev 10 42 rfl (ax 10 rfl)).trans (hJ.d 10 _ rfl (ax 10 rfl));go_simp;exact⟨_,rfl,hJ.up 11 dc rfl⟩
        ·intro L V X a ev dG hL ax hJ;unfold oV;dsimp only;refine .inl ⟨hJ.d 11 _ rfl (ax 11 rfl),?_⟩;have o0:=dG 0 rfl;change a.tmps[0]?.getD undef=.pointer (some ⟨cb,0,none⟩)at o0;go_simp;exact⟨_,rfl,hJ.up 12 dc rfl⟩
        ·intro L V X a ev dG hL ax hJ;unfold oV;dsimp only;refine .inl ⟨hJ.d 11 _ rfl (ax 11 rfl),?_⟩;have o3:=dG 3 rfl;change a.tmps[3]?.getD undef=.pointer (some ⟨wr.heap.size,0,none⟩)at o3;go_simp;exact⟨_,rfl,hJ.up 13 dc rfl⟩
        ·intro L V X a ev dG hL ax hJ;unfold oV;dsimp only;refine .inl ⟨hJ.d 11 _ rfl (ax 11 rfl),?_⟩;have e45:=(ev 13 45 rfl (ax 13 rfl)).trans (hJ.d 13 _ rfl (ax 13 rfl));obtain⟨k0,k1⟩:=Ib.o X hJ.st;go_simp;exact⟨_,rfl,hJ.up 14 dc rfl⟩
        ·intro L V X a ev dG hL ax hJ;unfold oV;dsimp only;refine .inl ⟨hJ.d 11 _ rfl (ax 11 rfl),?_⟩;have e44:=(ev 12 44 rfl (ax 12 rfl)).trans (hJ.d 12 _ rfl (ax 12 rfl));have e46:=(ev 14 46 rfl (ax 14 rfl)).trans (hJ.d 14 _ rfl (ax 14 rfl));go_simp;refine(HWI4.o X hJ.st).mono ?_;rintro e5 w5 ⟨⟨v5,rfl,hown5⟩,h5⟩;exact⟨_,rfl,hJ.up15 hown5 h5 rfl⟩
        ·intro L V X a ev dG hL ax hJ;unfold oV;dsimp only;refine .inl ⟨hJ.d 11 _ rfl (ax 11 rfl),?_⟩;have o3:=dG 3 rfl;change a.tmps[3]?.getD undef=.pointer (some ⟨wr.heap.size,0,none⟩)at o3;go_simp;exact⟨_,rfl,hJ.up 16 dc rfl⟩
        ·intro L V X a ev dG hL ax hJ;unfold oV;dsimp only;refine .inl ⟨hJ.d 11 _ rfl (ax 11 rfl),?_⟩;have e48:=(ev 16 48 rfl (ax 16 rfl)).trans (hJ.d 16 _ rfl (ax 16 rfl));obtain⟨k0,k1⟩:=Ib.o X hJ.st;go_simp;exact⟨_,rfl,hJ.up 17 dc rfl⟩
        ·intro L V X a ev dG hL ax hJ;unfold oV;dsimp only;refine .inl ⟨hJ.d 11 _ rfl (ax 11 rfl),?_⟩;have e49:=(ev 17 49 rfl (ax 17 rfl)).trans (hJ.d 17 _ rfl (ax 17 rfl));have hr:=hJ.r (ax 15 rfl);obtain⟨va5,vc5,hv5⟩:=aV hr;have e47:=(ev 15 47 rfl (ax 15 rfl)).trans hv5;rw[hv5]at hr;go_simp;refine(kD (fun _=>True) x.name res _ X (cu.eu hr (fun _ _=>trivial))).mono ?_;rintro e6 w6 ⟨rfl,h6⟩;exact⟨_,rfl,by rw[←Em.o];exact(hJ.step h6).up 18 dc rfl⟩
        ·intro L V X a ev dG hL ax hJ;unfold oV;dsimp only;have e43:=(ev 11 43 rfl (ax 11 rfl)).trans (hJ.d 11 _ rfl (ax 11 rfl));have e50:=(ev 18 50 rfl (ax 18 rfl)).trans (hJ.d 18 _ rfl (ax 18 rfl));go_simp;exact⟨_,rfl,hJ.up 19 dc rfl⟩
       case hdone=>intro L V X hall hJ;have h19:=hJ.d 19 _ rfl (hall 19 dc);have hst:=hJ.st;rw[show List.range 20=[0,1,2,3,4,5,6,7,8,9,10,11,12,13,14,15,16,17,18,19] from rfl];simp only[kJ,fO,gsQ,o9];go_wp2_with fail;go_meet;case rel=>exact⟨by first|exact h19|rfl,hst⟩
      case rest=>
       obtain⟨rfl,hst⟩:=hcut;obtain⟨w7,rfl⟩:=aN wc;have Xl:=au (HCq.o.quiet hst);have HM7:=au (HMq.o.then hst);have hb7:=(HSq.o.trans hst).keep HB3.o (fun h=>h);have e17:=aj hb7 17 _ (by rw[List.getElem?_toArray];exact HIC.o.2.1);have e18:=aj hb7 18 _ (by rw[List.getElem?_toArray];exact HIC.o.2.2);clear hst hb7;cases cb2 with
       |true=>
        go_wp2_with fail;refine(fB cb _ _ 7 x.line x.col cur v1 _ Xl.o (dL HE.o hb)).mono ?_;rintro e w8 ⟨rfl,v8,h8,g8⟩;have Xm:=au h8;have HM8:=au (HM7.o.trans g8);clear h8 g8;go_wp2_with fail;go_roundg (gk-1);case rel=>exact⟨at0+1,_,v8,by go_num,hlt,sbQ hgg,Xm.o,HM8.o,by simpa[EG.o]using mY.o⟩
        case measure=>omega
       |false=>
        go_wp2_with fail;go_roundg (gk-1);case rel=>exact⟨at0+1,cur,v1,by go_num,hlt,sbQ hgg,Xl.o,HM7.o,by simpa[EG.o]using mY.o⟩
        case measure=>omega
     ·(have EG:Hid (E1=[]):=by show _=_;rw[CQ.o,if_neg (fun h=>hat0 (Option.some.inj h.2.1))]);(have q1:((at0:Int)==(k:Int))=false:=by simp;omega);(have q2:¬(at0:Int)=(k:Int):=by omega);clear hat0;go_quiet (fail);have HSr:Hid (StF w4 (w4.drewN nq)):=bK.drewN nq;have HCr:=au (HCq.o.quiet HSr.o);have HMr:=au (HMq.o.then HSr.o);go_wp2_with fail;go_roundg (gk-1);case rel=>exact⟨k+1,cur,v1,by go_num,hlt,sbQ hgg,HCr.o,HMr.o,by have:=mY.o;rw[EG.o,List.append_nil]at this;exact this⟩
      case measure=>omega
   ·(have EG:Hid (E1=[]):=by show _=_;rw[CQ.o,if_neg (fun h=>hk1 h.1)]);(have q1:(kd==1)=false:=by simpa using hk1);have q2:¬kd=1:=hk1;clear hk1;go_quiet (fail);have HSr:Hid (StF w4 (w4.drewN nq)):=bK.drewN nq;have HCr:=au (HCq.o.quiet HSr.o);have HMr:=au (HMq.o.then HSr.o);go_wp2_with fail;go_roundg (gk-1);case rel=>exact⟨k+1,cur,v1,by go_num,hlt,sbQ hgg,HCr.o,HMr.o,by have:=mY.o;rw[EG.o,List.append_nil]at this;exact this⟩
    case measure=>omega
  ·(have hk2:k=l.length:=by omega);(have Df:Hid (cur=tot):=by show _=_;have:=HE.o;rw[hk2,List.drop_length,Iz,List.append_nil]at this;exact this);go_wp2_with fail;refine bodyPost_ret (results_none rfl _ _ _) rfl ?_;exact⟨rfl,v1,Df.o▸HC.o,HM.o⟩
theorem Tryz.wideK:(match Tryz.prog.underlying 144 with|some (.array _ _)|some (.struct _)=>true|_=>false)=true:=by kernel_rfl
theorem Tryz.rowK:(144:TypeId)<Tryz.prog.types.size:=of_decide_eq_true kr
theorem Tryz.XC:laidOutB Tryz.prog=true:=by kernel_rfl
theorem Tryz.XD:Go.Maps.Keyed Tryz.prog 144:=Go.Maps.Keyed.of_law (deep_law_laid Tryz.XC (m:=3) om Tryz.rowK kr Tryz.wideK)
theorem Tryz.keyTK:Tryz.prog.keyType 144=true:=by kernel_rfl
theorem Tryz.XE:Tryz.prog.cellsOf 144=2:=by kernel_rfl
theorem Tryz.cellsS:Tryz.prog.cellsOf 9=1:=by kernel_rfl
def IA (a b:ByteArray):Value:=.agg #[a_ a,a_ b]
theorem Q9 (a b:ByteArray) (ha:a.size≤maxLen) (hb:b.size≤maxLen):∃kl,keyOf Tryz.prog 144 (IA a b)=some kl:=by
 have hf:(IA a b).formed Tryz.prog 144=true:=by unfold IA Value.formed;rw[Tryz.underlying144,Tryz.XE];rfl
 have hs:∀(d:Nat) (s:ByteArray),s.size≤maxLen→Tryz.prog.keyLits (d+1) 9 [.string s]=some [.string s.data.toList]:=by intro d s hs;unfold Program.keyLits;rw[Tryz.underlying9];simp[hs]
 obtain⟨n,hn⟩:∃n,Tryz.prog.types.size=n+1:=⟨_,(Nat.succ_pred_eq_of_pos (Nat.lt_of_le_of_lt (Nat.zero_le _) Tryz.rowK)).symm⟩;unfold keyOf;rw[Tryz.underlying144];simp only[Tryz.keyTK,hf,Bool.and_self,if_true];rw[hn];unfold Program.keyLits;rw[Tryz.underlying144];simp[Tryz.XE,Tryz.cellsS,IA,Value.cells,hs n a ha,hs n b hb]
theorem XF {a b x y:ByteArray} (h:IA a b=IA x y):a=x∧b=y:=by unfold IA at h;have h2:=Value.agg.inj h;have h3:=List.toArray_inj h2;simp at h3;exact h3
def ImD (D:DataW Unit) (m:ByteArray→ByteArray→Option Nat):Prop:=∀(a b:ByteArray) (kl:Lit),keyOf Tryz.prog 144 (IA a b)=some kl→Maps.has D kl=(m a b).isSome∧∀i,m a b=some i→D.atKey kl (.lit (.int .i64 0))=.lit (.int .i64 i)
def Gp (w:World) (b:Nat) (m:ByteArray→ByteArray→Option Nat):Prop:=∃(n:Nat) (D:DataW Unit),w.ownsMap Tryz.prog 144 (plainElem Tryz.prog 3) b n D∧n≤1000∧ImD D m
theorem BR:x_ Gp where
 step:=fun hs hb ⟨n,D,⟨es,ck,h1,h2⟩,h3⟩=>⟨n,D,⟨es,ck,hs.keep h1 hb,h2⟩,h3⟩
 lt:=fun⟨_,_,h,_⟩=>h.lt
theorem Gp.look {w:World} {b:Nat} {m:ByteArray→ByteArray→Option Nat} (h:Gp w b m) (x y:ByteArray) (hx:x.size≤9223372036854775807) (hy:y.size≤9223372036854775807):(Instr.lookup 125 (.map (some b)) (.agg #[a_ x,a_ y]) true).run Tryz.prog w=.ok (.tuple #[ak ((m x y).getD 0:Nat),dW (m x y).isSome]) w:=by
 obtain⟨n,D,h1,-,hD⟩:=h;obtain⟨kl,hkl⟩:=Q9 x y hx hy;obtain⟨v,ps,hrun,hv⟩:=h1.look_ok Tryz.XD Tryz.underlying125 (Tryz.zeroI w) (plainElem_int Tryz.underlying3 dc) hkl;obtain⟨c,rfl,hc,-⟩:=plainElem_int_inv Tryz.underlying3 hv;obtain⟨ha,hb⟩:=hD x y kl hkl;have hc1:=congrArg Prod.fst hc;have hrun2:(Instr.lookup 125 (.map (some b)) (.agg #[a_ x,a_ y]) true).run Tryz.prog w=.ok (.tuple #[ak c,dW (Maps.has D kl)]) w:=hrun;rw[hrun2,ha];cases hm:m x y with
 |none=>have h2:=Maps.atKey_of_not_has (by rw[ha,hm];rfl:Maps.has D kl=false) (.lit (.int .i64 0):DataW Unit);have h3:(DataW.lit (.int .i64 0):DataW Unit)=.lit (.int .i64 c):=h2.symm.trans hc1;cases h3;rfl
 |some i=>have h3:(DataW.lit (.int .i64 i):DataW Unit)=.lit (.int .i64 c):=(hb i hm).symm.trans hc1;cases h3;rfl
def xh (m:ByteArray→ByteArray→Option Nat) (a b:ByteArray) (i:Nat):ByteArray→ByteArray→Option Nat:=fun x y=>if eqS x a&&eqS y b then some i else m x y
theorem ImD.put {D:DataW Unit} {m:ByteArray→ByteArray→Option Nat} (h:ImD D m) (hD:Maps.IsMap D) (a b:ByteArray) (i:Nat) (kl:Lit) (hk:keyOf Tryz.prog 144 (IA a b)=some kl):ImD (D.put kl (.lit (.int .i64 i))) (xh m a b i):=by
 intro x y kx hkx;cases hx:eqS x a&&eqS y b with
 |true=>
  have h1:=Bool.and_eq_true_iff.1 hx;obtain rfl:=fF.1 h1.1;obtain rfl:=fF.1 h1.2;obtain rfl:kl=kx:=by rw[hk]at hkx;exact Option.some.inj hkx
  rw[show xh m x y i x y=some i from if_pos hx];exact⟨Maps.has_put_same hD (Tryz.XD.key hk) _,fun j hj=>by cases hj;exact Maps.atKey_put_same hD (Tryz.XD.key hk) _ _⟩
 |false=>
  have hne:kx≠kl:=by rintro rfl;obtain⟨rfl,rfl⟩:=XF (Tryz.XD.inj hkx hk);rw[fF.2 rfl,fF.2 rfl]at hx;cases hx
  rw[show xh m a b i x y=m x y from if_neg (by rw[hx];decide)];exact⟨(Maps.has_put_other hne _).trans (h x y kx hkx).1,fun j hj=>(Maps.atKey_put_other hne _ _).trans ((h x y kx hkx).2 j hj)⟩
def Dv (w:World) (b:Nat) (m:ByteArray→Option Nat) (N:Nat):Prop:=∃(n:Nat) (D:DataW Unit),w.ownsMap Tryz.prog 9 (plainElem Tryz.prog 3) b n D∧n≤N∧MpD D m
def OC (w:World) (b:Nat) (m:ByteArray→ByteArray→Option Nat) (N:Nat):Prop:=∃(n:Nat) (D:DataW Unit),w.ownsMap Tryz.prog 144 (plainElem Tryz.prog 3) b n D∧n≤N∧ImD D m
theorem Dv.at' {w:World} {b N:Nat} {m:ByteArray→Option Nat} (h:Dv w b m N) (hN:N≤1000):Ej w b m:=let⟨n,D,h1,h2,h3⟩:=h;⟨n,D,h1,Nat.le_trans h2 hN,h3⟩
theorem OC.at' {w:World} {b N:Nat} {m:ByteArray→ByteArray→Option Nat} (h:OC w b m N) (hN:N≤1000):Gp w b m:=let⟨n,D,h1,h2,h3⟩:=h;⟨n,D,h1,Nat.le_trans h2 hN,h3⟩
theorem Dv.step {w w':World} {S:Nat→Prop} {b N:Nat} {m:ByteArray→Option Nat} (hs:Step S w w') (hb:¬S b) (h:Dv w b m N):Dv w' b m N:=by obtain⟨n,D,⟨es,ck,h1,h2⟩,h3⟩:=h;exact⟨n,D,⟨es,ck,hs.keep h1 hb,h2⟩,h3⟩
theorem OC.step {w w':World} {S:Nat→Prop} {b N:Nat} {m:ByteArray→ByteArray→Option Nat} (hs:Step S w w') (hb:¬S b) (h:OC w b m N):OC w' b m N:=by obtain⟨n,D,⟨es,ck,h1,h2⟩,h3⟩:=h;exact⟨n,D,⟨es,ck,hs.keep h1 hb,h2⟩,h3⟩
theorem Dv.mono {w:World} {b N N':Nat} {m:ByteArray→Option Nat} (h:Dv w b m N) (hN:N≤N'):Dv w b m N':=let⟨n,D,h1,h2,h3⟩:=h;⟨n,D,h1,Nat.le_trans h2 hN,h3⟩
theorem OC.mono {w:World} {b N N':Nat} {m:ByteArray→ByteArray→Option Nat} (h:OC w b m N) (hN:N≤N'):OC w b m N':=let⟨n,D,h1,h2,h3⟩:=h;⟨n,D,h1,Nat.le_trans h2 hN,h3⟩
theorem Dv.lt {w:World} {b N:Nat} {m:ByteArray→Option Nat} (h:Dv w b m N):b<w.heap.size:=let⟨_,_,h,_⟩:=h;h.lt
theorem OC.lt {w:World} {b N:Nat} {m:ByteArray→ByteArray→Option Nat} (h:OC w b m N):b<w.heap.size:=let⟨_,_,h,_⟩:=h;h.lt
structure IB where
 n0:Nat
 tb:Nat
 ms:Nat
 mt:Nat
 mf:Nat
 mi:Nat
 gi:Option Nat
def IB.pi (B:IB) (k:Nat):Prop:=k<B.n0∨B.gi=some k
structure IB.Ok (B:IB):Prop where
 t:B.n0≤B.tb
 s:B.n0≤B.ms
 r:B.n0≤B.mt
 f:B.n0≤B.mf
 i:B.n0≤B.mi
 ne:B.ms≠B.mt∧B.ms≠B.mf∧B.ms≠B.mi∧B.mt≠B.mf∧B.mt≠B.mi∧B.mf≠B.mi∧B.tb≠B.ms∧B.tb≠B.mt∧B.tb≠B.mf∧B.tb≠B.mi
 gi:∀k,B.gi=some k→k≠B.ms∧k≠B.mt∧k≠B.mf∧k≠B.mi
structure vg (B:IB) (vi:Value) (N:Nat) (T:Tab) (w:World) (P:Nat→Prop):Prop where
 ok:B.Ok
 pt:P B.tb
 ps:P B.ms
 pr:P B.mt
 pf:P B.mf
 pim:P B.mi
 pp:∀k,B.pi k→k<w.heap.size∧P k
 blk:w.heap[B.tb]?=some (.cells #[vi,.map (some B.ms),.map (some B.mt),.map (some B.mf),.map (some B.mi)] 127 (0,0))
 items:ig lm w B.pi T.items vi
 ms:Dv w B.ms T.st N
 mt:Dv w B.mt T.tr N
 mf:Dv w B.mf T.fn N
 mi:OC w B.mi T.im N
 st:∀s i,T.st s=some i→i<T.items.length
 tr:∀s i,T.tr s=some i→i<T.items.length
 fn:∀s i,T.fn s=some i→i<T.items.length
theorem KR (B:IB) (vi:Value) (N:Nat) (T:Tab):VO (vg B vi N T) where
 step:=fun hs hP h=>{h with
  pp:=fun k hk=>⟨Nat.lt_of_lt_of_le (h.pp k hk).1 hs.size,(h.pp k hk).2⟩
  blk:=hs.keep h.blk (hP _ h.pt)
  items:=(bH aQ).step _ _ hs (fun k hk e=>hP k (h.pp k hk).2 e) h.items
  ms:=h.ms.step hs (hP _ h.ps)
  mt:=h.mt.step hs (hP _ h.pr)
  mf:=h.mf.step hs (hP _ h.pf)
  mi:=h.mi.step hs (hP _ h.pim)}
 mono:=fun hp h=>{h with
  pt:=hp _ (aK h.blk) h.pt
  ps:=hp _ h.ms.lt h.ps
  pr:=hp _ h.mt.lt h.pr
  pf:=hp _ h.mf.lt h.pf
  pim:=hp _ h.mi.lt h.pim
  pp:=fun k hk=>⟨(h.pp k hk).1,hp k (h.pp k hk).1 (h.pp k hk).2⟩}
theorem vg.tab {B:IB} {vi:Value} {N:Nat} {T:Tab} {w:World} {P:Nat→Prop} (h:vg B vi N T w P) (hN:N≤1000):TabAt Gp B.tb T w P:=
 ⟨h.pt,⟨vi,B.ms,B.mt,B.mf,B.mi,h.blk,(bH aQ).mono _ _ (fun k _ hk=>(h.pp k hk).2) h.items,⟨h.ps,h.ms.at' hN⟩,⟨h.pr,h.mt.at' hN⟩,⟨h.pf,h.mf.at' hN⟩,h.pim,h.mi.at' hN⟩,h.st,h.tr,h.fn⟩
theorem BU {w w':World} {S:Nat→Prop} {base:Nat} {e:TypeId} {size:Nat} {v:Value} {n:Nat} {xs:List Value} (h:w.ownsRow base e size v n xs) (hs:Step S w w') (hn:∀q,v.ownBlock=some q→¬S q):w'.ownsRow base e size v n xs:=by
 obtain⟨h0,h|⟨g,cap,cur,rfl,h1,h2,h3⟩⟩:=h
 ·exact⟨h0,.inl h⟩
 ·exact⟨h0,.inr ⟨g,cap,cur,rfl,h1,hs.keep h2 (hn g rfl),h3⟩⟩
theorem mQ.upd {cb:Nat} {u vi:Value} {B:IB} {N:Nat} {T T':Tab} {w w':World} {v:Value} {es:List Er} {b:Nat} (h:mQ cb u (vg B vi N T) w v es) (hg:w.grownBy w' (some b)) (hb:Out cb v w b) (hbt:B.tb≠b) (hbg:∀k,B.pi k→k≠b) (hi:T'.items=T.items) (h1:Dv w' B.ms T'.st (N+1)) (h2:Dv w' B.mt T'.tr (N+1)) (h3:Dv w' B.mf T'.fn (N+1)) (h4:OC w' B.mi T'.im (N+1)) (h5:∀s i,T'.st s=some i→i<T'.items.length) (h6:∀s i,T'.tr s=some i→i<T'.items.length) (h7:∀s i,T'.fn s=some i→i<T'.items.length):mQ cb u (vg B vi (N+1) T') w' v es:=by have hs:=bQ hg;have hO:∀{k},Out cb v w k→Out cb v w' k:=fun hk=>⟨Nat.lt_of_lt_of_le hk.1 hs.size,hk.2⟩;refine⟨hs.keep h.blk (fun e=>hb.2.1 (Option.some.inj e)),BU h.own hs (fun q hq e=>hb.2.2 (by rw[hq];exact e.symm)),?_,KR _ _ _ _⟩;have t:=h.tab;exact⟨t.ok,hO t.pt,hO t.ps,hO t.pr,hO t.pf,hO t.pim,fun k hk=>⟨Nat.lt_of_lt_of_le (t.pp k hk).1 hs.size,hO (t.pp k hk).2⟩,hs.keep t.blk (fun e=>hbt (Option.some.inj e).symm),by rw[hi];exact(bH aQ).step _ _ hs (fun k hk e=>hbg k hk (Option.some.inj e).symm) t.items,h1,h2,h3,h4,h5,h6,h7⟩
def tu (T:Tab) (k:Int):ByteArray→Option Nat:=if k=1 then T.st else if k=2 then T.tr else T.fn
def Tab.put (T:Tab) (k:Int) (s:ByteArray) (i:Nat):Tab:=if k=1 then{T with st:=tq T.st s i}else if k=2 then{T with tr:=tq T.tr s i}else{T with fn:=tq T.fn s i}
def IB.bm (B:IB) (k:Int):Nat:=if k=1 then B.ms else if k=2 then B.mt else B.mf
def jd (T:Tab) (i:Nat) (x:It):Tab×List Er:=
 if x.kind=3 then(if(T.im x.name x.head).isSome then(T,[(4,x.line,x.col)])else({T with im:=xh T.im x.name x.head i},[]))
 else if(tu T x.kind x.name).isSome||(decide (x.kind≠4)&&((T.st x.name).isSome||(T.tr x.name).isSome))then(T,[(4,x.line,x.col)])else(T.put x.kind x.name i,[])
theorem KT {m:ByteArray→Option Nat} {s:ByteArray} {i n:Nat} (h:∀s j,m s=some j→j<n) (hi:i<n):∀x j,tq m s i x=some j→j<n:=by
 intro x j hj;unfold tq at hj;split at hj
 ·cases hj;exact hi
 ·exact h x j hj
theorem Dv.put' {w w':World} {b n N i:Nat} {D:DataW Unit} {m:ByteArray→Option Nat} {s:ByteArray} (h1:w.ownsMap Tryz.prog 9 (plainElem Tryz.prog 3) b n D) (h2:n≤N) (h3:MpD D m) (h:w'.ownsMap Tryz.prog 9 (plainElem Tryz.prog 3) b (n+1) (D.put (keyS s) (.lit (.int .i64 i)))):Dv w' b (tq m s i) (N+1):=
 ⟨n+1,_,h,by omega,h3.put h1.isMap s i⟩
section
variable {cb : Nat} {u vi : Value} {B : IB} {N : Nat} {T : Tab} {w w' : World} {v : Value} {es : List Er}
theorem mQ.bump (h:mQ cb u (vg B vi N T) w v es):mQ cb u (vg B vi (N+1) T) w v es:=
 ⟨h.blk,h.own,{h.tab with ms:=h.tab.ms.mono (Nat.le_succ _),mt:=h.tab.mt.mono (Nat.le_succ _),mf:=h.tab.mf.mono (Nat.le_succ _),mi:=h.tab.mi.mono (Nat.le_succ _)},KR _ _ _ _⟩
theorem IB.Ok.pi (h:B.Ok) {b:Nat} (hb:b=B.ms∨b=B.mt∨b=B.mf∨b=B.mi):∀k,B.pi k→k≠b:=by
 intro k hk e;have h1:=h.s;have h2:=h.r;have h3:=h.f;have h4:=h.i;rcases hk with hk|hk
 ·rcases hb with rfl|rfl|rfl|rfl<;>omega
 ·have h5:=h.gi k hk;rcases hb with rfl|rfl|rfl|rfl
  ·exact h5.1 e
  ·exact h5.2.1 e
  ·exact h5.2.2.1 e
  ·exact h5.2.2.2 e
theorem mQ.ent (h:mQ cb u (vg B vi N T) w v es) {k:Int} {s:ByteArray} {i:Nat} (hi:i<T.items.length) (hg:w.grownBy w' (some (B.bm k))) (hm:Dv w' (B.bm k) (tq (tu T k) s i) (N+1)):mQ cb u (vg B vi (N+1) (T.put k s i)) w' v es:=by
 have t:=h.tab;obtain⟨n1,n2,n3,n4,n5,n6,n7,n8,n9,n10⟩:=t.ok.ne;have hs:=bQ hg;unfold Tab.put;unfold IB.bm at hg hm;unfold tu at hm;by_cases h1:k=1
 ·rw[if_pos h1]at hg hm⊢;rw[if_pos h1]at hm;exact h.upd hg t.ps n7 (t.ok.pi (.inl rfl)) rfl hm ((t.mt.step (bQ hg) (fun e=>n1 (Option.some.inj e))).mono (Nat.le_succ _)) ((t.mf.step (bQ hg) (fun e=>n2 (Option.some.inj e))).mono (Nat.le_succ _)) ((t.mi.step (bQ hg) (fun e=>n3 (Option.some.inj e))).mono (Nat.le_succ _)) (KT t.st hi) t.tr t.fn
 ·rw[if_neg h1]at hg hm⊢;rw[if_neg h1]at hm;by_cases h2:k=2
  ·rw[if_pos h2]at hg hm⊢;rw[if_pos h2]at hm;exact h.upd hg t.pr n8 (t.ok.pi (.inr (.inl rfl))) rfl ((t.ms.step (bQ hg) (fun e=>n1 (Option.some.inj e).symm)).mono (Nat.le_succ _)) hm ((t.mf.step (bQ hg) (fun e=>n4 (Option.some.inj e))).mono (Nat.le_succ _)) ((t.mi.step (bQ hg) (fun e=>n5 (Option.some.inj e))).mono (Nat.le_succ _)) t.st (KT t.tr hi) t.fn
  ·rw[if_neg h2]at hg hm⊢;rw[if_neg h2]at hm;exact h.upd hg t.pf n9 (t.ok.pi (.inr (.inr (.inl rfl)))) rfl ((t.ms.step (bQ hg) (fun e=>n2 (Option.some.inj e).symm)).mono (Nat.le_succ _)) ((t.mt.step (bQ hg) (fun e=>n4 (Option.some.inj e).symm)).mono (Nat.le_succ _)) hm ((t.mi.step (bQ hg) (fun e=>n6 (Option.some.inj e))).mono (Nat.le_succ _)) t.st t.tr (KT t.fn hi)
theorem mQ.bmAt (h:mQ cb u (vg B vi N T) w v es) (k:Int):Dv w (B.bm k) (tu T k) N:=by
 unfold IB.bm tu;split
 ·exact h.tab.ms
 ·split
  ·exact h.tab.mt
  ·exact h.tab.mf
theorem mQ.entI (h:mQ cb u (vg B vi N T) w v es) {a b:ByteArray} {i:Nat} (hg:w.grownBy w' (some B.mi)) (hm:OC w' B.mi (xh T.im a b i) (N+1)):mQ cb u (vg B vi (N+1) {T with im:=xh T.im a b i}) w' v es:=by have t:=h.tab;obtain⟨n1,n2,n3,n4,n5,n6,n7,n8,n9,n10⟩:=t.ok.ne;exact h.upd hg t.pim n10 (t.ok.pi (.inr (.inr (.inr rfl)))) rfl ((t.ms.step (bQ hg) (fun e=>n3 (Option.some.inj e).symm)).mono (Nat.le_succ _)) ((t.mt.step (bQ hg) (fun e=>n5 (Option.some.inj e).symm)).mono (Nat.le_succ _)) ((t.mf.step (bQ hg) (fun e=>n6 (Option.some.inj e).symm)).mono (Nat.le_succ _)) hm t.st t.tr t.fn
end
def Gq (cb:Nat) (B:IB) (vi:Value) (N:Nat) (T:Tab) (es:List Er) (w:World) (e:Ending) (w':World):Prop:=
 e=.returned (.tuple #[])∧∃v',mQ cb (.pointer (some ⟨B.tb,0,none⟩)) (vg B vi N T) w' v' es∧Step (fun q=>B.n0≤q) w w'
theorem Qj (cb:Nat) (B:IB) (vi:Value) (N:Nat) (T:Tab) (i:Nat) (it:It) (cs:List Value) (es:List Er) (v:Value) (w:World) (hN:N<1000) (hi:i<T.items.length) (hi9:i<1000) (hcb:B.n0≤cb) (h:mQ cb (.pointer (some ⟨B.tb,0,none⟩)) (vg B vi N T) w v es) (hit:lm w (Out cb v w) it cs) (hl:es.length≤1000000000):Calls Tryz.prog 65 #[.pointer (some ⟨cb,0,none⟩),.int .i64 i,.agg cs.toArray] w (Gq cb B vi (N+1) (jd T i it).1 (es++(jd T i it).2) w):=by
 obtain⟨w1,hw1⟩:=aN (w.alloc (.cells cs.toArray 51));have HST:=nS hw1
 have HB0:=nB hw1
 have HW1:=au hw1;have qm:=au (h.quiet HST.o);have Jf:=au (h.new (w':=w1) (k:=w.heap.size) (Nat.le_refl _) (aK HB0.o));obtain⟨_,_,_,_,_,_,⟨hc0,hc1,hc2,-,-,-,-,-,hc17,hc18⟩,-,-,-,hnn,hnh⟩:=hit.get;have vN:Hid (cs[0]?=some (.int .i64 it.kind)∧cs[1]?=some (.string it.name)∧cs[2]?=some (.string it.head)∧cs[17]?=some (.int .i64 it.line)∧cs[18]?=some (.int .i64 it.col)):=⟨hc0,hc1,hc2,hc17,hc18⟩;have lG:Hid (∀(X:World),StF w1 X→∀(j:Nat) u,cs[j]?=some u→X.cell? ⟨w.heap.size,j,none⟩=some u):=by intro X hX j u hu;exact aj (hX.keep HB0.o (fun h=>h)) j u (by rw[List.getElem?_toArray];exact hu)
 have Xq:=au hnn;have HNH:=au hnh;have HII:=au hi;have qF:Hid (∀X,StF w1 X→X.cell? ⟨cb,0,none⟩=some (.pointer (some ⟨B.tb,0,none⟩))∧X.cell? ⟨B.tb,1,none⟩=some (.map (some B.ms))∧X.cell? ⟨B.tb,2,none⟩=some (.map (some B.mt))∧X.cell? ⟨B.tb,3,none⟩=some (.map (some B.mf))∧X.cell? ⟨B.tb,4,none⟩=some (.map (some B.mi))):=by intro X hX;have h2:=qm.o.quiet hX;have h3:=h2.tab.blk;exact⟨aj h2.blk 0 _ rfl,aj h3 1 _ rfl,aj h3 2 _ rfl,aj h3 3 _ rfl,aj h3 4 _ rfl⟩
 obtain⟨kd,hkd⟩:=aN it.kind;obtain⟨R,hR⟩:=aN (jd T i it);rw[←hR]
 have HR:Hid (R=if kd=3 then(if(T.im it.name it.head).isSome then(T,[(4,it.line,it.col)])else({T with im:=xh T.im it.name it.head i},[]))
  else if(tu T kd it.name).isSome||(decide (kd≠4)&&((T.st it.name).isSome||(T.tr it.name).isSome))then(T,[(4,it.line,it.col)])else(T.put kd it.name i,[])):=by show _=_;rw[hR,jd,hkd]
 have PI:Hid (∀(X:World),StF w1 X→R=(T,[(4,it.line,it.col)])→Calls Tryz.prog 97 #[.pointer (some ⟨cb,0,none⟩),.int .i64 4,.agg #[ak it.line,ak it.col]] X (Gq cb B vi (N+1) R.1 (es++R.2) w)):=by
  intro X hX hRe;refine(fB cb _ _ 4 it.line it.col es v X (qm.o.quiet hX) hl).mono ?_;rintro e w5 ⟨rfl,v5,h5,g5⟩;refine⟨rfl,v5,by rw[hRe];exact h5.bump,((HST.o.trans hX).mono fe).trans (g5.st.mono (fun q _ e=> ?_))⟩;rcases e with rfl|e
  ·exact hcb
  ·have h8:=(h.own.lt q e).1;omega
 have HKD:=au hkd.symm;have i0:w1.cell? ⟨w.heap.size,0,none⟩=some (.int .i64 kd):=by rw[hkd];exact lG.o w1 bK 0 _ hc0
 obtain⟨k0,k1,k2,k3,k4⟩:=qF.o w1 bK;clear hw1 h hit hc0 hc1 hc2 hc17 hc18 hnn hnh hkd hR hl hi;go_enter Tryz.func65,Tryz.ntmps65;go_upto_region 1 with fail
 rw[←HW1.o];by_cases h3:kd=3
 ·subst h3;have HR3:=au (HR.o.trans (if_pos rfl));go_upto_region 8 with fail
  obtain⟨so,hso⟩:=aN (T.im it.name it.head);rw[←hso]at HR3;have hlk:∀n,(Instr.lookup 125 (.map (some B.mi)) (.agg #[a_ it.name,a_ it.head]) true).run Tryz.prog (w1.drewN n)=.ok (.tuple #[ak (so.getD 0:Nat),dW so.isSome]) (w1.drewN n):=fun n=>by rw[hso];exact(BR.step (S:=fun _=>False) ((Step.refl _ w1).drewN n) (fun h=>h) (qm.o.tab.mi.at' (Nat.le_of_lt hN))).look it.name it.head Xq.o HNH.o
  have i1:=lG.o w1 bK 1 _ vN.o.2.1;have i2:=lG.o w1 bK 2 _ vN.o.2.2.1;have HSO:=au hso;clear hso;go_quiet (fail);have HS2:Hid (StF w1 (w1.drewN nq)):=bK.drewN nq;obtain⟨w2,hw2⟩:=aN (w1.drewN nq);rw[←hw2]at HS2⊢;clear hw2 hlk i0 i1 i2 k0 k1 k2 k3 k4;cases so with
  |some j=>have hRe:R=(T,[(4,it.line,it.col)]):=HR3.o;have mP:=au hRe;clear hRe;have e17:=lG.o w2 HS2.o 17 _ vN.o.2.2.2.1;have e18:=lG.o w2 HS2.o 18 _ vN.o.2.2.2.2;go_wp2_with fail;refine(PI.o _ HS2.o mP.o).mono ?_;rintro e w5 hp;obtain⟨rfl,hq⟩:Gq _ _ _ _ _ _ _ _ _:=hp;have HQ:=au hq;clear hq;go_wp2_with fail;refine bodyPost_ret (results_none rfl _ _ _) rfl ?_;exact⟨rfl,HQ.o⟩
  |none=>have hRe:R=({T with im:=xh T.im it.name it.head i},[]):=HR3.o;have mP:=au hRe;clear hRe;(go_upto_region 11 with fail);have HSd:Hid (StF w1 w2.drew):=HS2.o.drew;obtain⟨wd,hwd⟩:=aN w2.drew;(have HCd:Hid (mQ cb (.pointer (some ⟨B.tb,0,none⟩)) (vg B vi N T) wd v es):=by rw[hwd];exact qm.o.quiet HSd.o);obtain⟨n,D,hown,hnN,hD⟩:=HCd.o.tab.mi;obtain⟨kl,hkl⟩:=Q9 it.name it.head Xq.o HNH.o;have HOWN:=au hown;have HKL:=au hkl;have HD:=au hD;have U_:=au hwd;obtain⟨k0,k1,k2,k3,k4⟩:=qF.o w2 HS2.o;have i1:=lG.o w2 HS2.o 1 _ vN.o.2.1;have i2:=lG.o w2 HS2.o 2 _ vN.o.2.2.1;clear hown hkl hD hwd;go_still_tail 13,kr;change wpList _ _ _ _ _ w2.drew;rw[←U_.o];go_wp2_with (refine wpList_mapUpdate_own _ rfl (.tmp 71) (.tmp 76) (.tmp 77) 125 rfl 144 3 Tryz.XD Tryz.underlying125 (plainElem Tryz.prog 3) B.mi n D (by rfl) HOWN.o (by unfold maxLen;omega) (IA it.name it.head) (.int .i64 i) kl (by rfl) (by rfl) HKL.o (.lit (.int .i64 i)) [] (plainElem_int Tryz.underlying3 (WalkArith.wf_i64 om)) ?_;intro w6 hown6 hgrow6);have HCE:Hid (mQ cb (.pointer (some ⟨B.tb,0,none⟩)) (vg B vi (N+1) {T with im:=xh T.im it.name it.head i}) w6 v es):=HCd.o.entI hgrow6 ⟨n+1,_,hown6,by omega,HD.o.put HOWN.o.isMap it.name it.head i kl HKL.o⟩;have HSE:Hid (Step (fun q=>B.n0≤q) w w6):=((HST.o.trans (by rw[U_.o];exact HSd.o)).mono fe).trans ((bQ hgrow6).mono (fun q _ e=>by have:=HCd.o.tab.ok.i;have e2:=Option.some.inj e;omega));clear hown6 hgrow6;go_wp2_with fail;refine bodyPost_ret (results_none rfl _ _ _) rfl ?_;exact⟨rfl,v,by rw[mP.o,List.append_nil];exact HCE.o,HSE.o⟩
 ·have pG:=au (HR.o.trans (if_neg h3));obtain⟨bm,hbm⟩:=aN (B.bm kd);have HBM:=au hbm;have HMP:Hid (∀X,StF w1 X→Dv X bm (tu T kd) N):=fun X hX=>by rw[HBM.o];exact(qm.o.quiet hX).bmAt kd
  clear hbm;go_upto_block 0 with fail
  go_cut [6] (fun s6 wx=>s6=.map (some bm)∧w1=wx);case first=>
   by_cases h1:kd=1
   ·(have hb:bm=B.ms:=by rw[HBM.o,IB.bm,if_pos h1]);subst h1;go_wp2_with fail;go_meet;case rel=>exact⟨by rw[hb],rfl⟩
   ·by_cases h2:kd=2
    ·(have hb:bm=B.mt:=by rw[HBM.o,IB.bm,if_neg h1,if_pos h2]);subst h2;go_wp2_with fail;go_meet;case rel=>exact⟨by rw[hb],rfl⟩
    ·(have hb:bm=B.mf:=by rw[HBM.o,IB.bm,if_neg h1,if_neg h2]);go_wp2_with fail;go_meet;case rel=>exact⟨by rw[hb],rfl⟩
  case rest=>
   obtain⟨rfl,hwx⟩:=hcut;subst hwx;obtain⟨so,hso⟩:=aN (tu T kd it.name);obtain⟨sa,hsa⟩:=aN (T.st it.name);obtain⟨sb,hsb⟩:=aN (T.tr it.name);(have hlk:(Instr.lookup 124 (.map (some bm)) (.string it.name) true).run Tryz.prog w1=.ok (.tuple #[ak (so.getD 0:Nat),dW so.isSome]) w1:=by rw[hso];exact((HMP.o w1 bK).at' (Nat.le_of_lt hN)).look it.name Xq.o);rw[←hso,←hsa,←hsb]at pG;have i1:=lG.o w1 bK 1 _ vN.o.2.1;(have CJ:Hid (∀X,StF w1 X→(Instr.lookup 124 (.map (some B.ms)) (.string it.name) true).run Tryz.prog X=.ok (.tuple #[ak (sa.getD 0:Nat),dW sa.isSome]) X):=fun X hX=>by rw[hsa];exact((qm.o.quiet hX).tab.ms.at' (Nat.le_of_lt hN)).look it.name Xq.o);(have G6:Hid (∀X,StF w1 X→(Instr.lookup 124 (.map (some B.mt)) (.string it.name) true).run Tryz.prog X=.ok (.tuple #[ak (sb.getD 0:Nat),dW sb.isSome]) X):=fun X hX=>by rw[hsb];exact((qm.o.quiet hX).tab.mt.at' (Nat.le_of_lt hN)).look it.name Xq.o);clear hso hsa hsb;(go_upto_region 13 with fail);clear hlk;have hlk:∀n,(Instr.lookup 124 (.map (some B.ms)) (.string it.name) true).run Tryz.prog (w1.drewN n)=.ok (.tuple #[ak (sa.getD 0:Nat),dW sa.isSome]) (w1.drewN n):=fun n=>CJ.o _ ((Step.refl _ w1).drewN n);go_quiet (fail);have HS2:Hid (StF w1 (w1.drewN nq)):=bK.drewN nq;obtain⟨w2,hw2⟩:=aN (w1.drewN nq);rw[←hw2]at HS2⊢;clear hw2 hlk i0 i1 k0 k1 k2 k3 k4;obtain⟨k0,k1,k2,k3,k4⟩:=qF.o w2 HS2.o;have i1:=lG.o w2 HS2.o 1 _ vN.o.2.1;(go_upto_region 14 with fail);have hlk:∀n,(Instr.lookup 124 (.map (some B.mt)) (.string it.name) true).run Tryz.prog (w2.drewN n)=.ok (.tuple #[ak (sb.getD 0:Nat),dW sb.isSome]) (w2.drewN n):=fun n=>G6.o _ (HS2.o.drewN n);go_quiet (fail);have fK:Hid (StF w1 (w2.drewN nq)):=HS2.o.drewN nq;obtain⟨w3,hw3⟩:=aN (w2.drewN nq);rw[←hw3]at fK⊢;clear hw3 hlk i1 k0 k1 k2 k3 k4;have e0:=lG.o w3 fK.o 0 _ vN.o.1;have Y3:Hid (it.kind=kd):=HKD.o;rw[Y3.o]at e0;(go_upto_region 15 with fail);go_cut [122] (fun s wx=>s=.bool (so.isSome||(decide (kd≠4)&&(sa.isSome||sb.isSome)))∧w3=wx);case first=>
    by_cases h4:kd=4
    ·subst h4;cases so<;>cases sa<;>cases sb<;>(go_wp2_with fail;go_meet;case rel=>exact⟨rfl,rfl⟩)
    ·have e4:decide (kd≠4)=true:=decide_eq_true h4;have IW:=au e4;have FH:Hid ((kd !=4)=true):=au (by simp[h4]);clear e4;cases so<;>cases sa<;>cases sb<;>(go_wp2_with fail;go_meet;case rel=>first|exact⟨by rw[IW.o];rfl,rfl⟩|exact⟨by rw[IW.o,FH.o];rfl,rfl⟩)
   case rest=>
    obtain⟨rfl,hwx⟩:=hcut;subst hwx;clear e0;obtain⟨bb,hbb⟩:=aN (so.isSome||(decide (kd≠4)&&(sa.isSome||sb.isSome)));rw[←hbb]at pG⊢;clear hbb;cases bb with
    |true=>have mP:Hid (R=(T,[(4,it.line,it.col)])):=pG.o;have e17:=lG.o w3 fK.o 17 _ vN.o.2.2.2.1;have e18:=lG.o w3 fK.o 18 _ vN.o.2.2.2.2;go_wp2_with fail;refine(PI.o _ fK.o mP.o).mono ?_;rintro e w5 hp;obtain⟨rfl,hq⟩:Gq _ _ _ _ _ _ _ _ _:=hp;have HQ:=au hq;clear hq;go_wp2_with fail;refine bodyPost_ret (results_none rfl _ _ _) rfl ?_;exact⟨rfl,HQ.o⟩
    |false=>have mP:Hid (R=(T.put kd it.name i,[])):=pG.o;have i1:=lG.o w3 fK.o 1 _ vN.o.2.1;have HCd:Hid (mQ cb (.pointer (some ⟨B.tb,0,none⟩)) (vg B vi N T) w3 v es):=qm.o.quiet fK.o;obtain⟨n,D,hown,hnN,hD⟩:=HMP.o w3 fK.o;have HOWN:=au hown;have HD:=au hD;clear hown hD;go_wp2_with (refine wpList_mapUpdate_own _ rfl (.tmp 127) (.tmp 129) (.tmp 130) 124 rfl 9 3 Tryz.lawS Tryz.underlying124 (plainElem Tryz.prog 3) bm n D (by rfl) HOWN.o (by unfold maxLen;omega) (.string it.name) (.int .i64 i) (keyS it.name) (by rfl) (by rfl) (WideMaps.keyOf_string_mk Tryz.underlying9 Xq.o) (.lit (.int .i64 i)) [] (plainElem_int Tryz.underlying3 (WalkArith.wf_i64 om)) ?_;intro w6 hown6 hgrow6);have HCE:Hid (mQ cb (.pointer (some ⟨B.tb,0,none⟩)) (vg B vi (N+1) (T.put kd it.name i)) w6 v es):=HCd.o.ent HII.o (by rw[←HBM.o];exact hgrow6) (by rw[←HBM.o];exact Dv.put' HOWN.o hnN HD.o hown6);have HSE:Hid (Step (fun q=>B.n0≤q) w w6):=((HST.o.trans fK.o).mono fe).trans ((bQ hgrow6).mono (fun q _ e=>by have:=HCd.o.tab.ok;have e2:=Option.some.inj e;rw[HBM.o]at e2;rw[←e2];unfold IB.bm;split;exact this.s;split;exact this.r;exact this.f));clear hown6 hgrow6;go_wp2_with fail;refine bodyPost_ret (results_none rfl _ _ _) rfl ?_;exact⟨rfl,v,by rw[mP.o,List.append_nil];exact HCE.o,HSE.o⟩
def qo:Tab→Nat→List It→Tab×List Er
 |T,_,[]=>(T,[])
 |T,i,x::r=>((qo (jd T i x).1 (i+1) r).1,(jd T i x).2++(qo (jd T i x).1 (i+1) r).2)
def uy (l:List It):Tab:=⟨l,fun _=>none,fun _=>none,fun _=>none,fun _ _=>none⟩
def mJ (l:List It):Tab:=(qo (uy l) 0 l).1
def yD (F:Nat) (l:List It):List Er:=(qo (uy l) 0 l).2++(l.flatMap (Qg (mJ l))++Iz (mJ l) F 0 l)
theorem Ae (T:Tab) (i:Nat) (x:It):(jd T i x).1.items=T.items:=by
 unfold jd;split
 ·split<;>rfl
 ·split
  ·rfl
  ·show(Tab.put _ _ _ _).items=_;unfold Tab.put;split
   ·rfl
   ·split<;>rfl
theorem Ji:∀(l:List It) (T:Tab) (i:Nat),(qo T i l).1.items=T.items
 |[],_,_=>rfl
 |x::r,T,i=>by rw[qo];exact(Ji r _ _).trans (Ae _ _ _)
theorem oH (l:List It):(mJ l).items=l:=Ji l _ _
theorem enL_at {T:Tab} {l:List It} {k i:Nat} {x:It} (h:l[k]?=some x):qo T i (l.drop k)=((qo (jd T i x).1 (i+1) (l.drop (k+1))).1,(jd T i x).2++(qo (jd T i x).1 (i+1) (l.drop (k+1))).2):=by obtain⟨hk,rfl⟩:=List.getElem?_eq_some_iff.1 h;rw[List.drop_eq_getElem_cons hk,qo]
theorem flat_at {α β:Type} {f:α→List β} {l:List α} {k:Nat} {x:α} (h:l[k]?=some x):(l.drop k).flatMap f=f x++(l.drop (k+1)).flatMap f:=by obtain⟨hk,rfl⟩:=List.getElem?_eq_some_iff.1 h;rw[List.drop_eq_getElem_cons hk,List.flatMap_cons]
theorem Dv.made (w:World):Dv (w.alloc (.map #[] 0)) w.heap.size (fun _=>none) 0:=⟨0,_,World.ownsMap_made _ _ _ _,Nat.le_refl _,fun _=>⟨rfl,fun _ h=>nomatch h⟩⟩
theorem OC.made (w:World):OC (w.alloc (.map #[] 0)) w.heap.size (fun _ _=>none) 0:=⟨0,_,World.ownsMap_made _ _ _ _,Nat.le_refl _,fun _ _ _ _=>⟨rfl,fun _ h=>nomatch h⟩⟩
def XG (n0 nc:Nat) (gi:Option Nat):IB:=⟨n0,nc+4,nc,nc+1,nc+2,nc+3,gi⟩
def NU (wc:World) (v:Value):World:=
 (((((wc.alloc (.map #[] 0)).alloc (.map #[] 0)).alloc (.map #[] 0)).alloc (.map #[] 0)).alloc (.cells #[v,.map (some wc.heap.size),.map (some (wc.heap.size+1)),.map (some (wc.heap.size+2)),.map (some (wc.heap.size+3))] 127)).alloc (.cells #[eU (wc.heap.size+4) 0,ay] 130)
theorem XH {P:Nat→Prop} {w wc:World} {l:List It} {v:Value} {xs:List Value} (h:oG lm w P l xs) (hP:∀k,P k→k<w.heap.size) (hs:StF w wc) (ho:wc.ownsRow w.heap.size 51 19 v l.length xs):mQ (wc.heap.size+5) (.pointer (some ⟨(XG w.heap.size wc.heap.size v.ownBlock).tb,0,none⟩)) (vg (XG w.heap.size wc.heap.size v.ownBlock) v 0 (uy l)) (NU wc v) (.slice none 0 0) []:=by
 have hsz:=hs.size;have z1:(wc.alloc (.map #[] 0)).heap.size=wc.heap.size+1:=by simp
 have z2:((wc.alloc (.map #[] 0)).alloc (.map #[] 0)).heap.size=wc.heap.size+2:=by simp
 have z3:(((wc.alloc (.map #[] 0)).alloc (.map #[] 0)).alloc (.map #[] 0)).heap.size=wc.heap.size+3:=by simp
 have z4:((((wc.alloc (.map #[] 0)).alloc (.map #[] 0)).alloc (.map #[] 0)).alloc (.map #[] 0)).heap.size=wc.heap.size+4:=by simp
 have z5:(((((wc.alloc (.map #[] 0)).alloc (.map #[] 0)).alloc (.map #[] 0)).alloc (.map #[] 0)).alloc (.cells #[v,.map (some wc.heap.size),.map (some (wc.heap.size+1)),.map (some (wc.heap.size+2)),.map (some (wc.heap.size+3))] 127)).heap.size=wc.heap.size+5:=by simp
 have z6:(NU wc v).heap.size=wc.heap.size+6:=by simp[NU]
 have hg:∀k,v.ownBlock=some k→w.heap.size≤k∧k<wc.heap.size:=fun k hk=>ho.lt k hk;have hS:StF wc (NU wc v):=(((((bK.alloc _).alloc _).alloc _).alloc _).alloc _).alloc _;have hO:∀k,k<wc.heap.size+5→Out (wc.heap.size+5) (.slice none 0 0) (NU wc v) k:=fun k hk=>⟨by omega,by omega,fun e=>by cases e⟩;have b5:=aC (((((wc.alloc (.map #[] 0)).alloc (.map #[] 0)).alloc (.map #[] 0)).alloc (.map #[] 0)).alloc (.cells #[v,.map (some wc.heap.size),.map (some (wc.heap.size+1)),.map (some (wc.heap.size+2)),.map (some (wc.heap.size+3))] 127)) (.cells #[eU (wc.heap.size+4) 0,ay] 130);have b4:=aC ((((wc.alloc (.map #[] 0)).alloc (.map #[] 0)).alloc (.map #[] 0)).alloc (.map #[] 0)) (.cells #[v,.map (some wc.heap.size),.map (some (wc.heap.size+1)),.map (some (wc.heap.size+2)),.map (some (wc.heap.size+3))] 127);rw[z5]at b5;rw[z4]at b4;have m0:=Dv.made wc;have m1:=Dv.made (wc.alloc (.map #[] 0));have m2:=Dv.made ((wc.alloc (.map #[] 0)).alloc (.map #[] 0));have m3:=OC.made (((wc.alloc (.map #[] 0)).alloc (.map #[] 0)).alloc (.map #[] 0));rw[z1]at m1;rw[z2]at m2;rw[z3]at m3;refine⟨b5,⟨rfl,.inl ⟨rfl,rfl⟩⟩,?_,KR _ _ _ _⟩;have hls:oG lm (NU wc v) (XG w.heap.size wc.heap.size v.ownBlock).pi l xs:=oG.step aQ hS (fun _ _ h=>h) l xs (oG.mono aQ (fun k _ hk=>.inl (hP k hk)) l xs (oG.step aQ hs (fun _ _ h=>h) l xs h));refine⟨⟨(by show w.heap.size≤wc.heap.size+4;omega),(by show w.heap.size≤wc.heap.size;omega),(by show w.heap.size≤wc.heap.size+1;omega),(by show w.heap.size≤wc.heap.size+2;omega),(by show w.heap.size≤wc.heap.size+3;omega),?_,?_⟩,hO _ (by show _+4<_;omega),hO _ (by show wc.heap.size<_;omega),hO _ (by show _+1<_;omega),hO _ (by show _+2<_;omega),hO _ (by show _+3<_;omega),?_,(((Step.refl (fun _=>False) _).alloc _).keep b4 (fun h=>h)),⟨xs,(cu.eu (P:=(XG w.heap.size wc.heap.size v.ownBlock).pi) ho (fun k hk=>.inr hk)).step hS (fun _ _ h=>h),hls⟩,?_,?_,?_,?_,(fun _ _ h=>nomatch h),(fun _ _ h=>nomatch h),(fun _ _ h=>nomatch h)⟩
 ·show wc.heap.size≠wc.heap.size+1∧wc.heap.size≠wc.heap.size+2∧wc.heap.size≠wc.heap.size+3∧wc.heap.size+1≠wc.heap.size+2∧wc.heap.size+1≠wc.heap.size+3∧wc.heap.size+2≠wc.heap.size+3∧wc.heap.size+4≠wc.heap.size∧wc.heap.size+4≠wc.heap.size+1∧wc.heap.size+4≠wc.heap.size+2∧wc.heap.size+4≠wc.heap.size+3;omega
 ·intro k hk;have:=(hg k hk).2;show k≠wc.heap.size∧k≠wc.heap.size+1∧k≠wc.heap.size+2∧k≠wc.heap.size+3;omega
 ·intro k hk;have h3:k<wc.heap.size:=by
   rcases hk with hk|hk
   ·have h4:k<w.heap.size:=hk;omega
   ·exact(hg k hk).2
  exact⟨by omega,hO k om⟩
 ·exact m0.step (S:=fun _=>False) ((((((bK.alloc _).alloc _).alloc _).alloc _).alloc _)) (fun h=>h)
 ·exact m1.step (S:=fun _=>False) (((((bK.alloc _).alloc _).alloc _).alloc _)) (fun h=>h)
 ·exact m2.step (S:=fun _=>False) ((((bK.alloc _).alloc _).alloc _)) (fun h=>h)
 ·exact m3.step (S:=fun _=>False) (((bK.alloc _).alloc _)) (fun h=>h)
def KU (F:Nat) (l:List It) (w:World) (e:Ending) (w':World):Prop:=
 ∃(cb tb:Nat) (v:Value),e=.returned (.tuple #[eU tb 0,v])∧w.heap.size≤cb∧w.heap.size≤tb∧mQ cb (.pointer (some ⟨tb,0,none⟩)) (TabAt Gp tb (mJ l)) w' v (yD F l)∧StF w w'
theorem ig.old {w w':World} {l:List It} {v:Value} {n:Nat} (h:ig lm w (fun k=>k<n) l v) (hs:Step (fun q=>n≤q) w w'):ig lm w' (fun k=>k<n) l v:=(bH aQ).step _ _ hs oi h
theorem mQ.old {cb:Nat} {u:Value} {TA:World→(Nat→Prop)→Prop} {w:World} {v:Value} {es:List Er} (h:mQ cb u TA w v es) {n:Nat} (hn:n≤cb):∀k,k<w.heap.size→k<n→Out cb v w k:=fun k hk hk2=>⟨hk,by omega,fun e=>by have:=(h.own.lt k e).1;omega⟩
theorem XI (F:Nat) (l:List It) (vl:Value) (w:World) (hl:l.length<1000) (hfit:∀x∈l,Gi x) (hfd:∀x∈l,∀p∈x.fields,(jU p.ty).length≤1000000) (hwf:∀x∈l,∃res,iI (mJ l) F [x.name] []=some res∧res.length≤1000000) (hb:(yD F l).length≤1000000000) (h:ig lm w (fun k=>k<w.heap.size) l vl):Calls Tryz.prog 21 #[vl] w (KU F l w):=by
 have sK:=au hfit;have mO:=au hfd;have HWF:=au hwf;have QG:=au h;obtain⟨xs,hrow,hls⟩:=h;have hlen:=oG.len aQ hls;have hone:=oG.one aQ hls;have Dl:Hid (Calls Tryz.prog 64 #[vl] w fun e w'=>(∃v':Value,e=.returned v'∧w'.ownsRow w.heap.size 51 19 v' l.length xs)∧StF w w'):=au (NF _ _ xs vl w hrow om hlen hone);have HLP:=au hls;obtain⟨al,cl,rfl⟩:=hrow.parts;clear hfit hfd hwf hrow hls hlen hone;have HMK1:∀(X:World),(Instr.makeMap 124 none).run Tryz.prog X=.ok (.map (some X.heap.size)) (X.alloc (.map #[] 0)):=fun X=>run_makeMap_plain X _;have HMK2:∀(X:World),(Instr.makeMap 125 none).run Tryz.prog X=.ok (.map (some X.heap.size)) (X.alloc (.map #[] 0)):=fun X=>run_makeMap_plain X _;go_enter Tryz.func21,Tryz.ntmps21;go_upto_region 1 with fail
 go_wp2_with fail;refine Dl.o.mono ?_;rintro e wc ⟨⟨vc,rfl,hown⟩,hst⟩;have HCK:=au (XH HLP.o (fun k hk=>hk) hst hown);have vM:=au hst;obtain⟨ac,cc,rfl⟩:=aV hown;clear hown hst;go_upto_region 2 with fail
 go_upto_region 3 with fail
 obtain⟨w2,hw2⟩:=aN (NU wc (.slice ac l.length cc));have Qk:=HCK.o;have qx:Hid (Step (fun q=>w.heap.size≤q) w w2):=au ((vM.o.mono fe).trans (by rw[hw2];exact(((((bK.alloc _).alloc _).alloc _).alloc _).alloc _).alloc _));rw[←hw2]at Qk;unfold NU at hw2;rw[←hw2];obtain⟨B,hB⟩:=aN (XG w.heap.size wc.heap.size (Value.slice ac l.length cc).ownBlock);rw[←hB]at Qk;have EC:Hid (B.tb=wc.heap.size+4):=by show _=_;rw[hB];rfl
 have HBN:Hid (B.n0=w.heap.size):=by show _=_;rw[hB];rfl
 have gK:Hid (B.Ok):=au Qk.tab.ok;obtain⟨tb,htb⟩:=aN (wc.heap.size+4);obtain⟨cb,hcb⟩:=aN (wc.heap.size+5);rw[←hcb]at Qk⊢;rw[←htb]at EC⊢;have Em:Hid (w.heap.size≤cb):=by rw[hcb];exact Nat.le_trans vM.o.size (Nat.le_add_right _ _)
 rw[EC.o]at Qk;have UO:=au Qk;have HTL:Hid ((uy l).items=l):=au rfl;clear Qk HCK HMK1 HMK2 hB hw2 htb hcb;go_upto_region 4 with fail
 obtain⟨E0,hE0⟩:=aN (qo (uy l) 0 l).2;obtain⟨T,hT⟩:=aN (mJ l);obtain⟨tot,htot⟩:=aN (yD F l);have YK:Hid (T.items=l):=by rw[hT];exact oH l
 have HTOT:Hid (E0++(l.flatMap (Qg T)++Iz T F 0 l)=tot):=by show _=_;rw[htot,hT,hE0];rfl
 have HT:=au hT;have HE00:=au hE0;have HTT:=au htot;rw[←htot]at hb;rw[←hT]at HWF;clear hE0 hT htot;go_loopg [6,7,23] l.length (fun g9 _ _ s23 wr=>∃(k:Nat) (T1:Tab) (cur:List Er) (v1:Value),s23=.int .i64 k∧k≤l.length∧l.length-k≤g9∧T1.items=l∧mQ cb (.pointer (some ⟨tb,0,none⟩)) (vg B (.slice ac l.length cc) k T1) wr v1 cur∧Step (fun q=>w.heap.size≤q) w wr∧(qo T1 k (l.drop k)).1=T∧cur++(qo T1 k (l.drop k)).2=E0);case atStart=>exact⟨0,uy l,[],_,rfl,Nat.zero_le _,by omega,HTL.o,UO.o,qx.o,HT.o.symm,HE00.o.symm⟩
 case round=>
  obtain⟨k,T1,cur,v1,rfl,hk,hgg,hti,hc,hst,het,hee⟩:=hrel;have HC:=au hc;have HST:=au hst;have HE:=au hee;have HET:=au het;have HTI1:=au hti;clear hc hst hee het hti;by_cases hlt:k<l.length
  ·skip
   obtain⟨x,hx⟩:∃x,l[k]?=some x:=⟨l[k],List.getElem?_eq_getElem hlt⟩
   obtain⟨xs9,⟨a',c',hva,hcl,hcm,-,hra⟩,hls⟩:=QG.o.old HST.o
   obtain⟨rfl,rfl⟩:al=a'∧cl=c':=by cases hva;exact⟨rfl,rfl⟩
   obtain⟨g,o,rfl,hg,hgw,hcell⟩:=hra om
   obtain⟨cs,hat,hget⟩:=oG.get aQ k hls hx
   have iD:Hid (∀(jj:Nat) v,cs[jj]?=some v→wr.cell? ⟨g,o+k*19+jj,none⟩=some v):=by
    show∀jj v,_
    intro jj v hv
    rw[Nat.add_assoc];exact hcell _ _ (hget jj v hv)
   have lq:Hid ((Tryz.prog.info? 51).map (·.size)=some cs.length):=by rw[aQ.len _ _ hat];exact Tryz.dI
   have wG:=au (aQ.len _ _ hat)
   have Eh:=au (aQ.one _ _ hat)
   obtain⟨w3,hw3⟩:=aN (wr.alloc (.cells cs.toArray 51))
   have fK:=nS hw3
   have HB3:=nB hw3
   have HW3:=au hw3
   have uF:=au (HC.o.quiet fK.o)
   have HAT9:Hid (lm w3 (fun q=>q<w3.heap.size∧q<w.heap.size) x cs):=au (aQ.mono _ _ (fun q h1 h=>⟨h1,h⟩) (aQ.step _ _ fK.o (fun _ _ h=>h) hat))
   rw[enL_at hx]at HE HET
   have Df:Hid (∀X,StF w3 X→Calls Tryz.prog 65 #[.pointer (some ⟨cb,0,none⟩),.int .i64 k,.agg cs.toArray] X (Gq cb B (.slice ac l.length cc) (k+1) (jd T1 k x).1 (cur++(jd T1 k x).2) X)):=by
    intro X hX
    have h9:=uF.o.quiet hX
    rw[←EC.o]at h9
    exact Qj cb B _ k T1 k x cs cur v1 X om (by rw[HTI1.o];exact hlt) om (by rw[HBN.o];exact Em.o) h9 (aQ.mono _ _ (fun q hq h=>h9.old Em.o q hq h.2) (aQ.step _ _ hX (fun _ _ h=>h) HAT9.o)) (dL HE.o (dL HTOT.o hb))
   have hlb:l.length≤9223372036854775807:=by omega
   clear hcell hva hcl hcm hra hg hgw hls hget hat hw3
   go_upto_region 6 with(first
    |(refine aA rfl 51 (.tmp 26) rfl g (o+k*19) rfl cs _ iD.o Tryz.underlying51 rfl lq.o ?_)
    |(refine bT rfl 51 (.tmp 7) (.tmp 27) rfl _ cs rfl rfl lq.o (by rw[wG.o];rfl) Eh.o ?_;rw[←HW3.o]))
   simp only[Act.put]
   go_wp2_with (refine aA rfl 51 (.tmp 7) rfl wr.heap.size 0 rfl cs _ (fJ HB3.o) Tryz.underlying51 rfl lq.o ?_)
   refine(Df.o _ bK).mono ?_
   rintro e w5 ⟨rfl,v5,h5,g5⟩
   rw[EC.o]at h5
   rw[HBN.o]at g5
   have wH:=au h5
   have oD:Hid (Step (fun q=>w.heap.size≤q) w w5):=au ((HST.o.trans (fK.o.mono fe)).trans g5)
   have HI5:Hid ((jd T1 k x).1.items=l):=au ((Ae _ _ _).trans HTI1.o)
   clear h5 g5
   go_wp2_with fail
   go_roundg (gk-1)
   case rel=>exact⟨k+1,(jd T1 k x).1,_,v5,by go_num,hlt,sbQ hgg,HI5.o,wH.o,oD.o,HET.o,fZ HE.o⟩
   case measure=>omega
  ·(have hk2:k=l.length:=by omega);(have HE2:Hid (cur=E0):=by show _=_;have:=HE.o;rw[hk2,List.drop_length,qo,List.append_nil]at this;exact this);(have HET2:Hid (T1=T):=by show _=_;have:=HET.o;rw[hk2,List.drop_length,qo]at this;exact this);(have Xm:Hid (mQ cb (.pointer (some ⟨tb,0,none⟩)) (TabAt Gp tb T) wr v1 E0):=by have h9:=HC.o;rw[HE2.o,HET2.o]at h9;have h10:=h9.tab.tab (by omega:k≤1000);rw[EC.o]at h10;exact⟨h9.blk,h9.own,h10,sJ BR _ _⟩);obtain⟨w8,hw8⟩:=aN wr;obtain⟨v8,hv8⟩:=aN (v1:Value);rw[←hw8]at Xm HST⊢;rw[←hv8]at Xm;have jO:=au HST.o;clear HC HST HE HET HTI1 HE2 HET2 hw8 hv8;obtain⟨gold,rfl⟩:=aN gk;obtain⟨wold,rfl⟩:=aN wr;go_wp2_with fail;clear hk2 hlt hk hgg;go_loopg [9,35] l.length (fun g9 _ s35 wr=>∃(k:Nat) (cur:List Er) (v1:Value),s35=.int .i64 k∧k≤l.length∧l.length-k≤g9∧mQ cb (.pointer (some ⟨tb,0,none⟩)) (TabAt Gp tb T) wr v1 cur∧Step (fun q=>w.heap.size≤q) w wr∧cur++((l.drop k).flatMap (Qg T)++Iz T F 0 l)=tot);case atStart=>exact⟨0,E0,v8,rfl,Nat.zero_le _,by omega,Xm.o,jO.o,HTOT.o⟩
   case round=>
    obtain⟨k,cur,v1,rfl,hk,hgg,hc,hst,hee⟩:=hrel;have HC:=au hc;have HST:=au hst;have HE:=au hee;clear hc hst hee;by_cases hlt:k<l.length
    ·skip
     obtain⟨x,hx⟩:∃x,l[k]?=some x:=⟨l[k],List.getElem?_eq_getElem hlt⟩
     obtain⟨xs9,⟨a',c',hva,hcl,hcm,-,hra⟩,hls⟩:=QG.o.old HST.o
     obtain⟨rfl,rfl⟩:al=a'∧cl=c':=by cases hva;exact⟨rfl,rfl⟩
     obtain⟨g,o,rfl,hg,hgw,hcell⟩:=hra om
     obtain⟨cs,hat,hget⟩:=oG.get aQ k hls hx
     have iD:Hid (∀(jj:Nat) v,cs[jj]?=some v→wr.cell? ⟨g,o+k*19+jj,none⟩=some v):=by
      show∀jj v,_
      intro jj v hv
      rw[Nat.add_assoc];exact hcell _ _ (hget jj v hv)
     have lq:Hid ((Tryz.prog.info? 51).map (·.size)=some cs.length):=by rw[aQ.len _ _ hat];exact Tryz.dI
     have wG:=au (aQ.len _ _ hat)
     have Eh:=au (aQ.one _ _ hat)
     obtain⟨w3,hw3⟩:=aN (wr.alloc (.cells cs.toArray 51))
     have fK:=nS hw3
     have HB3:=nB hw3
     have HW3:=au hw3
     have uF:=au (HC.o.quiet fK.o)
     have HAT9:Hid (lm w3 (fun q=>q<w3.heap.size∧q<w.heap.size) x cs):=au (aQ.mono _ _ (fun q h1 h=>⟨h1,h⟩) (aQ.step _ _ fK.o (fun _ _ h=>h) hat))
     rw[flat_at hx,List.append_assoc (Qg T x)]at HE
     have Df:Hid (∀X,StF w3 X→Calls Tryz.prog 66 #[.pointer (some ⟨cb,0,none⟩),.agg cs.toArray] X (ny cb (.pointer (some ⟨tb,0,none⟩)) (TabAt Gp tb T) X v1 (cur++Qg T x))):=by
      intro X hX
      have h9:=uF.o.quiet hX
      exact Um BR cb tb T x cs cur v1 X (by rw[YK.o];exact sK.o) (sK.o x (List.mem_of_getElem? hx)) h9 (aQ.mono _ _ (fun q hq h=>h9.old Em.o q hq h.2) (aQ.step _ _ hX (fun _ _ h=>h) HAT9.o)) (dL (fZ HE.o) hb)
     have hlb:l.length≤9223372036854775807:=by omega
     clear hcell hva hcl hcm hra hg hgw hls hget hat hw3
     go_upto_region 11 with(first
      |(refine aA rfl 51 (.tmp 37) rfl g (o+k*19) rfl cs _ iD.o Tryz.underlying51 rfl lq.o ?_)
      |(refine bT rfl 51 (.tmp 9) (.tmp 38) rfl _ cs rfl rfl lq.o (by rw[wG.o];rfl) Eh.o ?_;rw[←HW3.o]))
     simp only[Act.put]
     go_wp2_with (refine aA rfl 51 (.tmp 9) rfl wr.heap.size 0 rfl cs _ (fJ HB3.o) Tryz.underlying51 rfl lq.o ?_)
     refine(Df.o _ bK).mono ?_
     rintro e w5 ⟨rfl,v5,h5,g5⟩
     have wH:=au h5
     have oD:Hid (Step (fun q=>w.heap.size≤q) w w5):=au ((HST.o.trans (fK.o.mono fe)).trans (g5.st.mono (fun q _ e=>by
      rcases e with rfl|e
      ·
       exact Em.o
      ·
       have h8:=(uF.o.own.lt q e).1
       have:=Em.o
       omega)))
     clear h5 g5
     go_wp2_with fail
     go_roundg (gk-1)
     case rel=>exact⟨k+1,_,v5,by go_num,hlt,sbQ hgg,wH.o,oD.o,fZ HE.o⟩
     case measure=>omega
    ·(have hk2:k=l.length:=by omega);(have HE2:Hid (cur++Iz T F 0 T.items=tot):=by show _=_;have:=HE.o;rw[hk2,List.drop_length,List.flatMap_nil,List.nil_append]at this;rw[YK.o];exact this);(have Fv:Hid (∀X,StF wr X→Calls Tryz.prog 67 #[.pointer (some ⟨cb,0,none⟩)] X (ny cb (.pointer (some ⟨tb,0,none⟩)) (TabAt Gp tb T) X v1 tot)):=by intro X hX;have h9:=HC.o.quiet hX;have h10:=Qi BR cb tb T F cur v1 X (by rw[YK.o];exact mO.o) (by rw[YK.o];exact HWF.o) h9 (by rw[HE2.o];exact hb);rw[HE2.o]at h10;exact h10);go_wp2_with fail;refine(Fv.o _ bK).mono ?_;rintro e w5 ⟨rfl,v5,h5,g5⟩;have wH:=au h5
     have oD:Hid (Step (fun q=>w.heap.size≤q) w w5):=au (HST.o.trans (g5.st.mono (fun q _ e=>by
      rcases e with rfl|e
      ·
       exact Em.o
      ·
       have h8:=(HC.o.own.lt q e).1
       have:=Em.o
       omega)))
     have c0:=aj h5.blk 1 _ rfl;clear h5 g5;(go_upto_region 14 with fail);go_quiet (fail);have HSq:Hid (StF w5 (w5.drewN nq)):=bK.drewN nq;have HCq:=au (wH.o.quiet HSq.o);go_wp2_with fail;refine bodyPost_ret (results_tmp2 rfl _ _ _) rfl ?_;exact⟨cb,tb,v5,rfl,Em.o,by rw[←EC.o,←HBN.o];exact gK.o.t,by rw[←HTT.o,←HT.o];exact HCq.o,(Step.refl (fun _=>False) w).then (oD.o.trans (HSq.o.mono fe)) (fun q hq e=>absurd hq (Nat.not_lt.2 e))⟩
mutual
def AllE (Nd:Ex→Prop):Ex→Prop
 | .mk k nm v m args ns body l c=>Nd (.mk k nm v m args ns body l c)∧AllEs Nd args∧AllSs Nd body
def AllEs (Nd:Ex→Prop):List Ex→Prop
 |[]=>True
 |x::r=>AllE Nd x∧AllEs Nd r
def AllS (Nd:Ex→Prop):St→Prop
 | .mk _ _ _ pl e bs ls _ _ _=>AllEs Nd pl∧AllEs Nd e∧AllSs Nd bs∧AllSs Nd ls
def AllSs (Nd:Ex→Prop):List St→Prop
 |[]=>True
 |s::r=>AllS Nd s∧AllSs Nd r
end
def bU {α:Type} (Q:α→Prop) (r:dV α):Prop:=∀a j,r=.ok a j→Q a
theorem bU.bind {α β:Type} {Q:α→Prop} {Q2:β→Prop} {r:dV α} {f:α→Nat→dV β} (h:bU Q r) (hf:∀a j,Q a→bU Q2 (f a j)):bU Q2 (r.bind f):=by
 intro b k e;cases r with
 |ok a j=>exact hf a j (h a j rfl) b k e
 |err=>cases e
 |out=>cases e
theorem bU.any {α:Type} (r:dV α):bU (fun _=>True) r:=fun _ _ _=>trivial
theorem bU.ok {α:Type} {Q:α→Prop} {a:α} {j:Nat} (h:Q a):bU Q (.ok a j):=by intro b k e;cases e;exact h
theorem bU.fail {α:Type} {Q:α→Prop} {c:Nat} {l:List Tok} {i:Nat}:bU Q (eP c l i):=by intro b k e;cases e
theorem bU.out {α:Type} {Q:α→Prop}:bU Q (.out:dV α):=by intro b k e;cases e
section
variable {l : List Tok}
end
mutual
def NV:Ty→Nat
 | .mk _ _ _ _ ls ar _ _=>1+ls.length+sO ar
def sO:List Ty→Nat
 |[]=>0
 |t::r=>NV t+sO r
end
theorem Jj:∀(l:List Ty) (t:Ty),sO (l++[t])=sO l+NV t
 |[],t=>by rw[List.nil_append,sO,sO,sO];omega
 |x::r,t=>by rw[List.cons_append,sO,sO,Jj r t];omega
theorem jl.snoc:∀{l:List Ty} {t:Ty},jl l→mF t→jl (l++[t])
 |[],t,_,h=>by rw[List.nil_append,jl,jl];exact⟨h,trivial⟩
 |x::r,t,h,h2=>by rw[jl]at h;rw[List.cons_append,jl];exact⟨h.1,jl.snoc h.2 h2⟩
theorem jl.nil:jl []:=by rw[jl];trivial
def kX {α:Type} (Q:α→Nat→Prop) (r:dV α):Prop:=∀a j,r=.ok a j→Q a j
theorem kX.bind {α β:Type} {Q:α→Nat→Prop} {Q2:β→Nat→Prop} {r:dV α} {f:α→Nat→dV β} (h:kX Q r) (hf:∀a j,Q a j→kX Q2 (f a j)):kX Q2 (r.bind f):=by
 intro b k e;cases r with
 |ok a j=>exact hf a j (h a j rfl) b k e
 |err=>cases e
 |out=>cases e
theorem kX.ok {α:Type} {Q:α→Nat→Prop} {a:α} {j:Nat} (h:Q a j):kX Q (.ok a j):=by intro b k e;cases e;exact h
theorem kX.fail {α:Type} {Q:α→Nat→Prop} {c:Nat} {l:List Tok} {i:Nat}:kX Q (eP c l i):=by intro b k e;cases e
theorem kX.hold {α:Type} {Q:α→Nat→Prop} {Q2:α→Prop} {r:dV α} (h:kX Q r) (hq:∀a j,Q a j→Q2 a):bU Q2 r:=fun a j e=>hq a j (h a j e)
theorem Dw {n m:Nat} {l:List Tok} {i:Nat}:bU (fun _=>n<m) (eY n m l i):=by
 intro a j e;unfold eY at e;split at e
 ·cases e
 ·omega
section
variable {l : List Tok}
theorem tok_len {i:Nat} (h:tokA l i≠QC):i<l.length:=by
 rcases Nat.lt_or_ge i l.length with h1|h1
 ·exact h1
 ·exact absurd (by unfold tokA;rw[List.getD_eq_getElem?_getD,List.getElem?_eq_none h1];rfl) h
variable (hl : oZ l)
include hl
theorem XJ {i:Nat} (h:(tokA l i).kind≠0):i+1<l.length:=yR hl (tok_len (fun e=>h (by rw[e];rfl))) h
theorem is_lt {i:Nat} {s:List UInt8} (h:bF l i s=true):i+1<l.length:=XJ hl (zM h)
theorem KW {i:Nat} {s:List UInt8}:kX (fun _ j=>j=i+1∧j<l.length) (aH l i s):=by
 intro a j e;unfold aH at e;split at e
 ·rename_i h;cases e;exact⟨rfl,is_lt hl h⟩
 ·cases e
theorem XK {i:Nat}:kX (fun _ j=>j=i+1∧j<l.length) (aS l i):=by
 intro a j e;unfold aS at e;split at e
 ·rename_i h;cases e;exact⟨rfl,XJ hl (fun h0=>by simp[xH,h0]at h)⟩
 ·cases e
theorem XL {i:Nat}:kX (fun _ j=>j=i+1∧j<l.length) (jw l i):=by
 intro a j e;unfold jw at e;split at e
 ·rename_i h;cases e;exact⟨rfl,XJ hl om⟩
 ·cases e
omit hl in
theorem room_j {n m i:Nat}:kX (fun _ j=>j=i∧n<m) (eY n m l i):=by
 intro a j e;unfold eY at e;split at e
 ·cases e
 ·cases e;exact⟨rfl,by omega⟩
omit hl in
theorem Af {k:Int} {n lf:ByteArray} {b:Bool} {ln cl:Int} {i j:Nat} (h:i+1≤j) (h2:j<l.length):kX (fun t j=>i+NV t≤j∧j<l.length∧mF t) (.ok (.mk k n lf b [] [] ln cl) j):=
 kX.ok ⟨by rw[NV,sO];simpa using h,h2,by rw[mF];exact⟨by decide,jl.nil⟩⟩
omit hl in
theorem one_j {k:Int} {n lf:ByteArray} {b:Bool} {ln cl:Int} {a:Ty} {i j:Nat} (h:i+1+NV a≤j) (h2:j<l.length) (h3:mF a):kX (fun t j=>i+NV t≤j∧j<l.length∧mF t) (.ok (.mk k n lf b [] [a] ln cl) j):=
 kX.ok ⟨by rw[NV,sO,sO];simp;omega,h2,by rw[mF];exact⟨by simp,jl.snoc jl.nil h3⟩⟩
theorem ty_sz:∀f,(∀i d,kX (fun t j=>i+NV t≤j∧j<l.length∧mF t) (jY f l i d))∧(∀i d ls ts,jl ts→kX (fun p j=>p.1.length+p.2.length≤8∧jl p.2∧i+(p.1.length+sO p.2)≤j+(ls.length+sO ts)∧j<l.length) (lQ f l i d ls ts)):=by
 intro f;induction f with
 |zero=>exact⟨(fun i d a j e=>by rw[jY]at e;cases e),(fun i d ls ts _ a j e=>by rw[lQ]at e;cases e)⟩
 |succ f ih=>
  obtain⟨iht,iha⟩:=ih;constructor
  ·intro i d;rw[jY];split
   ·exact kX.fail
   split
   ·rename_i h;exact Af (Nat.le_refl _) (is_lt hl h)
   split
   ·rename_i h;exact Af (Nat.le_refl _) (is_lt hl h)
   split
   ·rename_i h;exact Af (Nat.le_refl _) (is_lt hl h)
   split
   ·refine(KW hl).bind ?_;rintro _ j ⟨rfl,h2⟩;exact Af om h2
   split
   ·refine(KW hl).bind ?_;rintro _ j ⟨rfl,h2⟩;refine(iht _ _).bind ?_;rintro a j ⟨h3,h4,h5⟩;refine(KW hl).bind ?_;rintro _ j ⟨rfl,h6⟩;exact one_j om h6 h5
   split
   ·refine(iht _ _).bind ?_;rintro a j ⟨h3,h4,h5⟩;refine one_j ?_ h4 h5;(have h6:i+1≤jb l (qy l (i+1)) [109,117,116]:=by unfold jb qy;split<;>split<;>omega);omega
   split
   ·refine(XK hl).bind ?_;rintro n j ⟨rfl,h2⟩;split
    ·refine(XL hl).bind ?_;rintro n j ⟨rfl,h2⟩;exact Af om h2
    ·exact Af om h2
   ·refine(XK hl).bind ?_;rintro n j ⟨rfl,h2⟩;split
    ·refine(iha _ _ [] [] jl.nil).bind ?_;rintro p j ⟨h3,h4,h5,h6⟩;refine kX.ok ⟨?_,h6,by rw[mF];exact⟨h3,h4⟩⟩;rw[NV];simp[sO]at h5;omega
    ·exact Af om h2
  ·intro i d ls ts hts;rw[lQ];refine(room_j).bind ?_;rintro _ i ⟨rfl,hr⟩;refine kX.bind (Q:=fun p j=>p.1.length+p.2.length=ls.length+ts.length+1∧jl p.2∧i+(p.1.length+sO p.2)≤j+(ls.length+sO ts)∧j<l.length) ?_ ?_
   ·split
    ·refine(XL hl).bind ?_;rintro x j ⟨rfl,h2⟩;exact kX.ok ⟨by simp;omega,hts,by simp;omega,h2⟩
    ·refine(iht _ _).bind ?_;rintro x j ⟨h3,h4,h5⟩;exact kX.ok ⟨by simp;omega,hts.snoc h5,by show _+(ls.length+sO (ts++[x]))≤_;rw[Jj];omega,h4⟩
   ·rintro p j ⟨h1,h2,h3,h4⟩;split
    ·intro q k e;obtain⟨h5,h6,h7,h8⟩:=iha (j+1) d p.1 p.2 h2 q k e;exact⟨h5,h6,by omega,h8⟩
    ·refine(KW hl).bind ?_;rintro _ j ⟨rfl,h6⟩;exact kX.ok ⟨by omega,h2,by omega,h6⟩
theorem ty_h (f i d:Nat):bU (fun t=>NV t≤8001∧mF t) (jY f l i d):=((ty_sz hl f).1 i d).hold (fun t j h=>⟨by have:=hl.len;omega,h.2.2⟩)
end
end Go.Proofs.YtppekkbaoimpgaaGreat
