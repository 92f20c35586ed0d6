/- Nmp, Nmq, Nmr, Nms, Nmt, Nmu -/
import Derived.Test.YtppekkbaoimpgaaGreatPkO
import Derived.ArgAppend
set_option maxRecDepth 100000
set_option maxHeartbeats 8000000
namespace Go.Proofs.YtppekkbaoimpgaaGreat
open Go.RowKit
open Vt
set_option maxRecDepth 100000
set_option maxHeartbeats 2000000
def mtE (T:Tab) (g:Gn) (d:List Mt) (m:Mt):List Er:=
 (if d.any (fun y=>eqS y.name m.name)then[(4,m.line,m.col)]else[])++(r_ m.line m.col [] (g.aF++m.aF)++((if m.life.size=0 then[]else jV (g.aF++m.aF) m.life m.line m.col)++
  (lI T ⟨g.aF++m.aF,g.types,true⟩ [] m.params++(BH T ⟨g.aF++m.aF,g.types,true⟩ m.ret++zL T ⟨g.aF++m.aF,[],false⟩ m.wh))))
def oH (T:Tab) (g:Gn):List Mt→List Mt→List Er
 |_,[]=>[]
 |d,m::r=>mtE T g d m++oH T g (d++[m]) r
theorem W_ {T:Tab} {g:Gn} {l:List Mt} {k:Nat} {x:Mt} (h:l[k]?=some x):oH T g (l.take k) (l.drop k)=mtE T g (l.take k) x++oH T g (l.take (k+1)) (l.drop (k+1)):=by obtain⟨hk,rfl⟩:=List.getElem?_eq_some_iff.1 h;rw[List.drop_eq_getElem_cons hk,oH,List.take_succ_eq_append_getElem hk]
def Yr (m:Mt):Prop:=(∀p∈m.params,lg p.ty)∧lg m.ret∧m.aF.length≤8
theorem cu.fA {w:World} {P:Nat→Prop} {base:Nat} {v:Value} {l:List ByteArray} (h:w.ownsRow base 9 1 v l.length (l.map .string)) (hs:∀s∈l,s.size≤9223372036854775807) (hp:∀k,v.ownBlock=some k→P k):cu w P l v:=⟨hs,di.fA h hp⟩
structure CaJ (w0:World) (u0 u1 u3 u4:Value) (n m:Nat) (xs ys:List Value) (L:Nat→Bool) (V:Nat→Value) (X:World):Prop where
 st:Step (fun _=>False) w0 X
 p0:L 0=true→V 0=u0
 p1:L 1=true→V 1=u1
 p2:L 2=true→L 5=false→X.ownsRow w0.heap.size 9 1 (V 2) n xs
 p3:L 3=true→V 3=u3
 p4:L 4=true→V 4=u4
 p5:L 5=true→X.ownsRow w0.heap.size 9 1 (V 5) (n+m) (xs++ys)
 p6:L 6=true→V 6=V 5
 q5:L 5=true→L 2=true
 q6:L 6=true→L 5=true
theorem CaJ.zero {w0 X:World} {u0 u1 u3 u4:Value} {n m:Nat} {xs ys:List Value} (h:Step (fun _=>False) w0 X):CaJ w0 u0 u1 u3 u4 n m xs ys (fun _=>false) (fun _=>undef) X:=
 ⟨h,gJ,gJ,gJ,gJ,gJ,gJ,gJ,gJ,gJ⟩
theorem zD {IM:World→Nat→(ByteArray→ByteArray→Option Nat)→Prop} (him:vP IM) (cb tb:Nat) (T:Tab) (it:It) (gg:Gn) (cs:List Value) (ug:Value) (es:List Er) (v:Value) (w:World) (hfit:∀m∈it.methods,Yr m) (hgf:gg.aF.length≤8) (h:lm cb (.pointer (some ⟨tb,0,none⟩)) (TabAt IM tb T) w v es) (hit:nX w (Out cb v w) it cs) (hg:PK w (Out cb v w) gg ug) (hb:(es++oH T gg [] it.methods).length≤1000000000):Calls Tryz.prog 100 #[.pointer (some ⟨cb,0,none⟩),.agg cs.toArray,ug] w (lK cb (.pointer (some ⟨tb,0,none⟩)) (TabAt IM tb T) w v (es++oH T gg [] it.methods)):=by
 have qE:=ak hfit;have TR:=ak hgf;obtain⟨a1,c1,a2,c2,rfl,hg1,hg2⟩:=hg;obtain⟨vl,vt,vf,vw,vm,ct,⟨-,-,-,-,-,-,-,zF,-,-⟩,⟨-,-,-,-,hms⟩,-⟩:=hit.get;obtain⟨al,cl,rfl⟩:=hms.parts;obtain⟨l,hl⟩:=aU it.methods;rw[←hl]at zF hms qE hb⊢;have HC15:=ak zF;have hmf:∀(fn:Fn) (first cap:Array Value) (w:World),(Instr.makeFunc fn first cap).run Tryz.prog w=.ok (.func fn first cap) w:=fun _ _ _ _=>by kernel_rfl
 obtain⟨w1,hw1⟩:=aU ((w.alloc (.cells cs.toArray 51)).alloc (.cells #[.slice a1 gg.aF.length c1,.slice a2 gg.types.length c2] 42));have HST:Hid (Step (fun _=>False) w w1):=by show Step _ _ _;rw[hw1];exact(bJ.alloc _).alloc _
 have HB0:Hid (w1.heap[w.heap.size]?=some (.cells cs.toArray 51 (0,0))):=by show _=_;rw[hw1];exact aN (aA _ _)
 have HB1:Hid (w1.heap[w.heap.size+1]?=some (.cells #[.slice a1 gg.aF.length c1,.slice a2 gg.types.length c2] 42 (0,0))):=by show _=_;rw[hw1];exact dX _ _ _
 have HW1:=ak hw1;have oM:=ak (h.quiet HST.o);have HL:=ak ((bQ dD).mv (Mv.quiet HST.o) hms);have Ql:=ak (bG.mv (Mv.quiet HST.o) hg1);have HG2:=ak (bG.mv (Mv.quiet HST.o) hg2);have FY:=ak (h.new (w':=w1) (k:=w.heap.size) (Nat.le_refl _) (aI HB0.o));have PO:=ak (h.new (w':=w1) (k:=w.heap.size+1) (Nat.le_succ _) (aI HB1.o));obtain⟨tot,ht⟩:=aU (es++oH T gg [] l);rw[←ht]at hb⊢;have HT:=ak ht;have d15:=aj HB0.o 15 _ (by rw[List.getElem?_toArray];exact zF);clear h hw1 hl ht hfit hgf hit hg1 hg2 hms zF;go_enter Tryz.func100,Tryz.ntmps100;go_upto_region 1 with fail
 rw[←HW1.o];go_wp2_with fail;clear d15;go_loopg [6,7,8,9,13] l.length (fun g9 _ _ _ _ s13 wr=>∃(k:Nat) (cur:List Er) (v1:Value),s13=.int .i64 k∧k≤l.length∧l.length-k≤g9∧lm cb (.pointer (some ⟨tb,0,none⟩)) (TabAt IM tb T) wr v1 cur∧Mv cb w1 v wr v1∧cur++oH T gg (l.take k) (l.drop k)=tot);case atStart=>exact⟨0,es,v,rfl,Nat.zero_le _,by omega,oM.o,Mv.refl _ _ _,HT.o.symm⟩
 case round=>
  obtain⟨k,cur,v1,rfl,hk,hgg,hc,hm,he⟩:=hrel;have HC:=ak hc;have HM:=ak hm;have HE:=ak he;clear hc hm he;by_cases hlt:k<l.length
  ·obtain⟨m,hx⟩:∃m,l[k]?=some m:=⟨l[k],List.getElem?_eq_getElem hlt⟩;have hlq:=(bQ dD).mv HM.o HL.o;have J7:=ak (jF.take dD hlq k hk om);obtain⟨xs,⟨a',c',hva,hcl,hcm,-,hra⟩,hls⟩:=hlq;(obtain⟨rfl,rfl⟩:al=a'∧cl=c':=by cases hva;exact⟨rfl,rfl⟩);obtain⟨g,o,rfl,hg,hgw,hcell⟩:=hra om;obtain⟨cm,hat,hget⟩:=lG.get dD k hls hx;(have iH:Hid (∀(jj:Nat) v,cm[jj]?=some v→wr.cell? ⟨g,o+k*17+jj,none⟩=some v):=by show∀jj v,_;intro jj v hv;rw[Nat.add_assoc];exact hcell _ _ (hget jj v hv));(have mX:Hid ((Tryz.prog.info? 105).map (·.size)=some cm.length):=by show _=_;rw[dD.len _ _ hat];exact Tryz.gQ);have MB:=ak (dD.len _ _ hat);have DL:=ak (dD.one _ _ hat);obtain⟨w3,hw3⟩:=aU (wr.alloc (.cells cm.toArray 105));(have eX:Hid (Step (fun _=>False) wr w3):=by show Step _ _ _;rw[hw3];exact bJ.alloc _);(have HB3:Hid (w3.heap[wr.heap.size]?=some (.cells cm.toArray 105 (0,0))):=by show _=_;rw[hw3];exact aA _ _);have HW3:=ak hw3;have NF:=ak (HC.o.new (k:=wr.heap.size) (Nat.le_refl _) (aI HB3.o));have oV:=ak (HM.o.then eX.o);have rO:=ak (HC.o.quiet eX.o);obtain⟨vml,vmp,vmw,cty,⟨hc0,hc1,-,hc3,hc4,hc13,hc16,hc17⟩,⟨hq1,hq2,hq3⟩,hty,hct,hnsz⟩:=hat.get;obtain⟨al1,cl1,rfl⟩:=hq1.2.parts;obtain⟨al2,cl2,rfl⟩:=hq2.parts;obtain⟨al3,cl3,rfl⟩:=hq3.parts;have HML:=ak (bG.mv (Mv.quiet eX.o) hq1);have HMP:=ak ((bQ fK).mv (Mv.quiet eX.o) hq2);have HMW:=ak ((bQ gI).mv (Mv.quiet eX.o) hq3);have O3:Hid (Eg w3 (Out cb v1 w3) m.ret (.agg cty.toArray)):=⟨cty,rfl,iG.mono (fun q _ hq=>(Mv.quiet eX.o).out hq) _ _ (iG.step eX.o (fun _ _ h=>h) _ _ hty)⟩;have Yq:=ak hct;have BB:=ak hty.len;have HCM:Hid (cm[0]?=some (.string m.name)∧cm[1]?=some (.slice al1 m.aF.length cl1)∧cm[3]?=some (.string m.life)∧cm[4]?=some (.slice al2 m.params.length cl2)∧cm[13]?=some (.slice al3 m.wh.length cl3)∧cm[15]?=some (.int .i64 m.line)∧cm[16]?=some (.int .i64 m.col)):=⟨hc0,hc1,hc3,hc4,hc13,hc16,hc17⟩;(have IJ:Hid (∀(X:World) (vx:Value),Mv cb w3 v1 X vx→∀(j:Nat) u,cm[j]?=some u→X.cell? ⟨wr.heap.size,j,none⟩=some u):=by intro X vx hX j u hu;exact aj (hX.keep HB3.o NF.o) j u (by rw[List.getElem?_toArray];exact hu));have PN:=ak (qE.o m (List.mem_of_getElem? hx));have TU:Hid (Calls Tryz.prog 151 #[.slice (some ⟨g,o,none⟩) k cl,.func (.func 152) #[] #[.pointer (some ⟨wr.heap.size,0,none⟩)]] w3 fun e w'=>e=.returned (.bool ((l.take k).any (fun y=>eqS y.name m.name)))∧Step (fun _=>False) w3 w'):=
    E8 _ _ (Out cb v1 wr) _ _ _ _ Aq ((bQ dD).step _ _ eX.o (fun _ _ h=>h) J7.o) (fun y _ cy w' hw hy=>E_ m.name wr.heap.size y cy _ w' (aj (hw.keep HB3.o (fun h=>h)) 0 _ (by rw[List.getElem?_toArray];exact HCM.o.1)) hy)
   obtain⟨bc,hbc⟩:=aU ((l.take k).any (fun y=>eqS y.name m.name));obtain⟨E1,hE1⟩:=aU (if bc then[(4,m.line,m.col)]else[]:List Er);have zK:=ak hE1;obtain⟨ls,hls9⟩:=aU (gg.aF++m.aF);obtain⟨rest,hrest⟩:=aU (oH T gg (l.take (k+1)) (l.drop (k+1)));obtain⟨E3,hE3⟩:=aU (if m.life.size=0 then[]else jV ls m.life m.line m.col:List Er);have kU:=ak hE3;(have FD:Hid ((cur++E1)++(r_ m.line m.col [] ls++(E3++(lI T ⟨ls,gg.types,true⟩ [] m.params++(BH T ⟨ls,gg.types,true⟩ m.ret++(zL T ⟨ls,[],false⟩ m.wh++rest)))))=tot):=by show _=_;have:=HE.o;rw[W_ hx,←hrest,mtE,←hbc,←hE1,←hls9,←hE3]at this;simpa only[List.append_assoc]using this);have TV:=ak hrest;have Qm:=ak hls9;rw[←hbc]at TU;(have hlb:l.length≤9223372036854775807:=by omega);(have hkc:k≤cl:=by omega);(have Zf:(k:Int)≤(cl:Int):=by omega);have d15:=aj (oV.o.keep HB0.o FY.o) 15 _ (by rw[List.getElem?_toArray];exact HC15.o);clear hcell hx hva hcl hcm hra hg hgw hls hget hat hw3 hc0 hc1 hc3 hc4 hc13 hc16 hc17 hq1 hq2 hq3 hty hct hbc hE1 hls9 hrest hE3 hnsz;go_wp2_with (first
    |(refine ay rfl 105 (.tmp 16) rfl g (o+k*17) rfl cm _ iH.o Tryz.underlying105 rfl mX.o ?_)
    |(refine bW rfl 105 (.tmp 7) (.tmp 17) rfl _ cm rfl rfl mX.o (by rw[MB.o];rfl) DL.o ?_;rw[←HW3.o]))
   refine TU.o.mono ?_;rintro e w4 ⟨rfl,h4⟩;have EZ:=ak (rO.o.quiet h4);have Ig:=ak (Mv.quiet (cb:=cb) (v:=v1) h4);clear h4 d15 hkc Zf;(go_upto_if 23 with fail);go_cut [] (fun wx=>∃v5:Value,lm cb (.pointer (some ⟨tb,0,none⟩)) (TabAt IM tb T) wx v5 (cur++E1)∧Mv cb w3 v1 wx v5);case first=>
    cases bc with
    |true=>have e9:=IJ.o _ _ Ig.o 15 _ HCM.o.2.2.2.2.2.1;have e10:=IJ.o _ _ Ig.o 16 _ HCM.o.2.2.2.2.2.2;go_wp2_with fail;refine(eu cb _ _ 4 m.line m.col cur v1 _ EZ.o (dB HE.o hb)).mono ?_;rintro e w5 ⟨rfl,v5,h5,g5⟩;have um:=ak h5;have BD:=ak (Ig.o.trans g5);clear h5 g5 e9 e10;go_wp2_with fail;go_meet;case rel=>exact⟨v5,by simpa[zK.o]using um.o,BD.o⟩
    |false=>go_wp2_with fail;go_meet;case rel=>exact⟨v1,by simpa[zK.o]using EZ.o,Ig.o⟩
   case rest=>
    obtain⟨v5,h5,g5⟩:=hcut;obtain⟨w5,rfl⟩:=aU wc;have um:=ak h5;have L_:=ak g5;have Ua:=ak (oV.o.trans g5);clear h5 g5;(go_upto_region 6 with fail);have HG1m:=ak (bG.mv Ua.o Ql.o);have HMLm:=ak (bG.mv L_.o HML.o);(have HLL:Hid (ls.length=gg.aF.length+m.aF.length):=by show _=_;rw[Qm.o,List.length_append]);(have HCLN:Hid (∀X,Step (fun _=>False) w5 X→Calls Tryz.prog 153 #[.slice a1 gg.aF.length c1] X fun e w'=>(∃v':Value,e=.returned v'∧w'.ownsRow X.heap.size 9 1 v' gg.aF.length (gg.aF.map .string))∧Step (fun _=>False) X w'):=by intro X hX;exact JJ _ _ _ _ X (HG1m.o.2.step hX (fun _ _ h=>h)) (by have:=TR.o;omega) (by simp) (Me _));(have EM:Hid (∀X,Step (fun _=>False) w5 X→X.cell? ⟨w.heap.size+1,0,none⟩=some (.slice a1 gg.aF.length c1)∧X.cell? ⟨wr.heap.size,1,none⟩=some (.slice al1 m.aF.length cl1)):=by intro X hX;exact⟨aj (hX.keep (Ua.o.keep HB1.o PO.o) (fun h=>h)) 0 _ rfl,hX.cell (IJ.o _ _ L_.o 1 _ HCM.o.2.1) (fun h=>h)⟩);go_cut [8] (fun s8 wx=>wx.ownsRow w5.heap.size 9 1 s8 ls.length (ls.map .string)∧Step (fun _=>False) w5 wx);case first=>
     obtain⟨i0,hi0,hz0,hz1,hz2⟩:=info_parts Tryz.zC;have HI:=ak hi0;have HZ0:=ak hz0;have HZ1:=ak hz1;have HZ2:=ak hz2;clear hi0 hz0 hz1 hz2;refine jR kr (CaJ w5 (.pointer (some ⟨w.heap.size+1,0,none⟩)) (.slice a1 gg.aF.length c1) (.pointer (some ⟨wr.heap.size,1,none⟩)) (.slice al1 m.aF.length cl1) gg.aF.length m.aF.length (gg.aF.map .string) (m.aF.map .string)) 7 rfl kr kr kr kr ?h0 ?hs ?hdone;case h0=>exact CaJ.zero (bJ.drew)
     case hs=>
      refine⟨?_,?_,?_,?_,?_,?_,?_,trivial⟩
      ·intro L V X a ev dn hL ax hJ;have o5:=dn 5 rfl;change a.tmps[5]?.getD undef=.pointer (some ⟨w.heap.size+1,0,none⟩)at o5;go_simp;exact⟨_,rfl,{hJ with p0:=fun _=>rfl}⟩
      ·intro L V X a ev dn hL ax hJ;have e28:=(ev 0 28 rfl (ax 0 rfl)).trans (hJ.p0 (ax 0 rfl));obtain⟨k1,k2⟩:=EM.o X hJ.st;go_simp;exact⟨_,rfl,{hJ with p1:=fun _=>rfl}⟩
      ·intro L V X a ev dn hL ax hJ;have e29:=(ev 1 29 rfl (ax 1 rfl)).trans (hJ.p1 (ax 1 rfl));have hL5:L 5=false:=by
        cases e:L 5 with
        |false=>rfl
        |true=>rw[hJ.q5 e]at hL;cases hL
       go_simp;refine(HCLN.o X hJ.st).mono ?_;rintro e w6 ⟨⟨v6,rfl,hown⟩,h6⟩;exact⟨_,rfl,{hJ with st:=hJ.st.trans h6,p2:=fun _ _=>rP hown hJ.st.size,p5:=(fun e=>by rw[show dP L 2 5=L 5 from rfl,hL5]at e;cases e),q5:=fun _=>rfl}⟩
      ·intro L V X a ev dn hL ax hJ;have o7:=dn 7 rfl;change a.tmps[7]?.getD undef=.pointer (some ⟨wr.heap.size,0,none⟩)at o7;go_simp;exact⟨_,rfl,{hJ with p3:=fun _=>rfl}⟩
      ·intro L V X a ev dn hL ax hJ;have e31:=(ev 3 31 rfl (ax 3 rfl)).trans (hJ.p3 (ax 3 rfl));obtain⟨k1,k2⟩:=EM.o X hJ.st;go_simp;exact⟨_,rfl,{hJ with p4:=fun _=>rfl}⟩
      ·intro L V X a ev dn hL ax hJ;have e30:=ev 2 30 rfl (ax 2 rfl);have e32:=(ev 4 32 rfl (ax 4 rfl)).trans (hJ.p4 (ax 4 rfl));have hon:=hJ.p2 (ax 2 rfl) hL;have hrow:Row X X.heap.size (.slice al1 m.aF.length cl1) m.aF.length (m.aF.map .string):=(HMLm.o.2.step hJ.st (fun _ _ h=>h)).row (fun _ h _=>h);have hgf:=TR.o;have hmf8:=PN.o.2.2;refine fF _ X.heap.size (.tmp 30) (.tmp 32) 40 rfl w5.heap.size 9 i0 (.string ⟨#[]⟩) 1 16 Tryz.underlying40 HI.o HZ0.o HZ1.o HZ2.o rfl dc (V 2) gg.aF.length _ (by rw[bF];exact e30) hon _ m.aF.length _ (by rw[bF];exact e32) hrow (by simp) (Me _) (by unfold maxLen;omega) om hJ.st.size ?_;intro v7 w7 hown hgrow hat;exact⟨v7,rfl,{hJ with st:=hJ.st.then (bM hgrow) (fun i hi e=>by have:=(hon.lt i e).1;omega),p2:=(fun _ e=>by rw[show dP L 5 5=true from rfl]at e;cases e),p5:=fun _=>hown,p6:=(fun e=>by rw[show dP L 5 6=L 6 from rfl]at e;exact absurd e (by have:=hJ.q6;intro e2;have h3:=this e2;rw[hL]at h3;cases h3)),q5:=fun _=>ax 2 rfl,q6:=fun _=>rfl}⟩
      ·intro L V X a ev dn hL ax hJ;have e33:=ev 5 33 rfl (ax 5 rfl);obtain⟨va,vb,hv5⟩:=a_ (hJ.p5 (ax 5 rfl));rw[hv5]at e33;go_simp;exact⟨_,rfl,{hJ with p6:=fun _=>hv5.symm,q6:=fun _=>ax 5 rfl}⟩
     case hdone=>intro L V X hall hJ;have h5:=hJ.p5 (hall 5 dc);have h6:=hJ.p6 (hall 6 dc);have hst:=hJ.st;rw[show List.range 7=[0,1,2,3,4,5,6] from rfl];simp only[kC,fU,List.getElem?_toArray,List.getElem?_cons_zero,List.getElem?_cons_succ,Option.bind_some,Act.put,List.setIfInBounds_toArray,List.set_cons_zero,List.set_cons_succ];go_wp2_with fail;go_meet;case rel=>exact⟨by rw[HLL.o,Qm.o,List.map_append];exact h5,hst⟩
    case rest=>
     obtain⟨hown,hst⟩:=hcut;obtain⟨w6,rfl⟩:=aU wc;have kz:Hid (∀x∈ls,x.size≤9223372036854775807):=by
      rw[Qm.o];intro x hx;rcases List.mem_append.1 hx with hx|hx
      ·exact Ql.o.1 x hx
      ·exact HML.o.1 x hx
     have Ej:=ak (um.o.quiet hst);have HM56:=ak (Mv.quiet (cb:=cb) (v:=v5) hst);have HM36:=ak (L_.o.trans HM56.o);obtain⟨va,vc,rfl⟩:=a_ hown;have HALL:Hid (cu w6 (Out cb v5 w6) ls (.slice va ls.length vc)):=cu.fA hown kz.o (fun q hq=>um.o.new (hown.lt q hq).1 (hown.lt q hq).2);clear hown hst HCLN EM HG1m HMLm;have HT6:=ak (fE FD.o);have e15:=IJ.o _ _ HM36.o 15 _ HCM.o.2.2.2.2.2.1;have e16:=IJ.o _ _ HM36.o 16 _ HCM.o.2.2.2.2.2.2;go_wp2_with fail;refine(xU cb _ _ ls _ m.line m.col _ v5 _ Ej.o HALL.o (dB HT6.o hb)).mono ?_;rintro e w7 ⟨rfl,v7,h7,g7⟩;have TW:=ak h7;have HM67:=ak g7;have HM37:=ak (HM36.o.trans g7);have Ih:=ak (oV.o.trans HM37.o);clear h7 g7 e15 e16;obtain⟨w8,hw8⟩:=aU (w7.alloc (.cells [Value.slice va ls.length vc,.slice a2 gg.types.length c2,dV true].toArray 138));(have La:Hid (Step (fun _=>False) w7 w8):=by show Step _ _ _;rw[hw8];exact bJ.alloc _);(have J9:Hid (w8.heap[w7.heap.size]?=some (.cells [Value.slice va ls.length vc,.slice a2 gg.types.length c2,dV true].toArray 138 (0,0))):=by show _=_;rw[hw8];exact aA _ _);have HW8:=ak hw8;have HO8:=ak (TW.o.new (k:=w7.heap.size) (Nat.le_refl _) (aI J9.o));have TY:=ak (TW.o.quiet La.o);have Xa:=ak (HM37.o.then La.o);have Yt:=ak (bG.mv (HM67.o.then La.o) HALL.o);have HSC8:Hid (Qo w8 (Out cb v7 w8) ⟨ls,gg.types,true⟩ (.agg #[.slice va ls.length vc,.slice a2 gg.types.length c2,dV true])):=⟨_,_,_,_,rfl,Yt.o,bG.mv (Ih.o.then La.o) HG2.o⟩;have HSN8:Hid (Qo w8 (Out cb v7 w8) ⟨ls,[],false⟩ (.agg #[.slice va ls.length vc,au,aO])):=⟨_,_,_,_,rfl,Yt.o,cu.nil _ _⟩;have g1:=aj (Ih.o.keep HB1.o PO.o) 1 _ rfl;have e3:w8.cell? ⟨wr.heap.size,3,none⟩=some (.string m.life):=IJ.o _ _ Xa.o 3 _ HCM.o.2.2.1;have HT7:=ak (fE HT6.o);clear hw8;(go_upto_region 9 with(refine bW rfl 138 (.tmp 9) (.tmp 42) rfl _ [Value.slice va ls.length vc,.slice a2 gg.types.length c2,.bool true] rfl rfl Tryz.fO rfl (aP rfl) ?_;rw[←HW8.o]));clear g1;obtain⟨c,hcc⟩:=aU ( !(decide (m.life.size=0)):Bool);have sW:=ak hcc;have Dn:Hid (E3=if c then jV ls m.life m.line m.col else[]):=by
      show _=_;rw[kU.o,hcc];by_cases hz:m.life.size=0
      ·rw[if_pos hz,decide_eq_true hz];rfl
      ·rw[if_neg hz,decide_eq_false hz];rfl
     clear hcc;simp only[Act.put];go_cut [45] (fun s45 wx=>s45=.bool c∧w8=wx);case first=>
      obtain⟨lf,hlf⟩:=aU m.life;rw[←hlf]at e3 sW;clear hlf;by_cases hz:lf.size=0
      ·(have hon:lf=⟨#[]⟩:=by obtain⟨a⟩:=lf;have h2:a.size=0:=hz;rw[Array.eq_empty_of_size_eq_zero h2]);(have he0:lf.toList=[]:=by rw[hon,Lib.toList_data]);(have hcv:c=false:=by rw[sW.o];simp[hz]);clear hz hon;go_wp2_with fail;go_meet;case rel=>exact⟨by rw[hcv],rfl⟩
      ·(have hcv:c=true:=by rw[sW.o];simp[hz]);have he:=kG lf om;have he':=ku lf om;clear hz;go_wp2_with fail;go_meet;case rel=>exact⟨by rw[hcv],rfl⟩
     case rest=>
      obtain⟨rfl,hwx⟩:=hcut;subst hwx;(go_upto_if 45 with fail);go_cut [] (fun wx=>∃v9:Value,lm cb (.pointer (some ⟨tb,0,none⟩)) (TabAt IM tb T) wx v9 (((cur++E1)++r_ m.line m.col [] ls)++E3)∧Mv cb w8 v7 wx v9);case first=>
       cases c with
       |true=>have e15:=IJ.o _ _ Xa.o 15 _ HCM.o.2.2.2.2.2.1;have e16:=IJ.o _ _ Xa.o 16 _ HCM.o.2.2.2.2.2.2;go_wp2_with (refine ay rfl 138 (.tmp 9) rfl w7.heap.size 0 rfl [.slice va ls.length vc,.slice a2 gg.types.length c2,.bool true] _ (gU J9.o) Tryz.underlying138 rfl Tryz.fO ?_);refine(pM cb _ _ m.life ⟨ls,gg.types,true⟩ _ m.line m.col _ v7 _ TY.o HSC8.o (dB HT6.o hb|>fun _=>dB HT7.o hb|>fun h=>by have:=HT7.o;exact dB (List.append_assoc _ _ _▸this) hb)).mono ?_;rintro e w9 ⟨rfl,v9,h9,g9⟩;have zh:=ak h9;have Qu:=ak g9;clear h9 g9 e15 e16 e3;go_wp2_with fail;go_meet;case rel=>exact⟨v9,by simpa[Dn.o]using zh.o,Qu.o⟩
       |false=>go_wp2_with fail;go_meet;case rel=>exact⟨v7,by simpa[Dn.o]using TY.o,Mv.refl _ _ _⟩
      case rest=>
       obtain⟨v9,h9,g9⟩:=hcut;obtain⟨w9,rfl⟩:=aU wc;have zh:=ak h9;have HM89:=ak g9;have HM39:=ak (Xa.o.trans g9);have HB89:=ak (g9.keep J9.o HO8.o);have HT9:=ak (fE HT7.o);clear h9 g9 e3;have e4:=IJ.o _ _ HM39.o 4 _ HCM.o.2.2.2.1;go_wp2_with (refine ay rfl 138 (.tmp 9) rfl w7.heap.size 0 rfl [.slice va ls.length vc,.slice a2 gg.types.length c2,.bool true] _ (gU HB89.o) Tryz.underlying138 rfl Tryz.fO ?_);refine(vV him cb tb T m.params _ _ ⟨ls,gg.types,true⟩ _ v9 _ PN.o.1 zh.o ((bQ fK).mv HM39.o HMP.o) (jB.mv HM89.o HSC8.o) (dB HT9.o hb)).mono ?_;rintro e w10 ⟨rfl,v10,h10,g10⟩;have D7:=ak h10;have HM8A:=ak (HM89.o.trans g10);have HM3A:=ak (HM39.o.trans g10);have HB8A:=ak (HM8A.o.keep J9.o HO8.o);have WX:=ak (fE HT9.o);(have EO:Hid (∀(jj:Nat) v,cty[jj]?=some v→w10.cell? ⟨wr.heap.size,5+jj,none⟩=some v):=by show∀jj v,_;intro jj v hv;exact IJ.o _ _ HM3A.o _ _ (Yq.o _ _ hv));(have Mc:Hid ((Tryz.prog.info? 46).map (·.size)=some cty.length):=by show _=_;rw[BB.o];exact Tryz.fM);clear h10 g10 e4;go_wp2_with (first
        |(refine ay rfl 46 (.tmp 59) rfl wr.heap.size 5 rfl cty _ EO.o Tryz.underlying46 rfl Mc.o ?_)
        |(refine ay rfl 138 (.tmp 9) rfl w7.heap.size 0 rfl [.slice va ls.length vc,.slice a2 gg.types.length c2,.bool true] _ (gU HB8A.o) Tryz.underlying138 rfl Tryz.fO ?_))
       refine(JH him cb tb T m.ret _ _ ⟨ls,gg.types,true⟩ _ v10 _ PN.o.2.1 D7.o (nV.mv HM3A.o O3.o) (jB.mv HM8A.o HSC8.o) (dB WX.o hb)).mono ?_;rintro e w11 ⟨rfl,v11,h11,g11⟩;have HC11:=ak h11;have HM8B:=ak (HM8A.o.trans g11);have HM3B:=ak (HM3A.o.trans g11);have HTB:=ak (fE WX.o);clear h11 g11;have e13:=IJ.o _ _ HM3B.o 13 _ HCM.o.2.2.2.2.1;go_wp2_with fail;refine(x9 cb tb T m.wh _ _ ⟨ls,[],false⟩ _ v11 _ HC11.o ((bQ gI).mv HM3B.o HMW.o) (jB.mv HM8B.o HSN8.o) (dB HTB.o hb)).mono ?_;rintro e w12 ⟨rfl,v12,h12,g12⟩;have HC12:=ak h12;have HM12:=ak ((oV.o.trans HM3B.o).trans g12);clear h12 g12 e13;go_wp2_with fail;go_roundg (gk-1);case rel=>exact⟨k+1,_,v12,by go_num,hlt,by rw[←Nat.sub_sub];exact Nat.sub_le_sub_right hgg 1,HC12.o,HM12.o,by rw[←TV.o];exact HTB.o⟩
       case measure=>omega
  ·(have hk2:k=l.length:=by omega);(have Bo:Hid (cur=tot):=by show _=_;have:=HE.o;rw[hk2,List.drop_length,oH,List.append_nil]at this;exact this);go_wp2_with fail;refine bodyPost_ret (results_none rfl _ _ _) rfl ?_;exact⟨rfl,v1,Bo.o▸HC.o,(Mv.quiet HST.o).trans HM.o⟩
set_option maxRecDepth 100000
set_option maxHeartbeats 2000000
def noMt:Mt:=⟨bU,[],0,bU,[],dN,[],[],0,0⟩
abbrev mtZ:List Value:=[.string ⟨#[]⟩,.slice none 0 0,.int .i64 0,.string ⟨#[]⟩,.slice none 0 0,.int .i64 0,.string ⟨#[]⟩,.string ⟨#[]⟩,.bool false,.slice none 0 0,.slice none 0 0,.int .i64 0,.int .i64 0,.slice none 0 0,.slice none 0 0,.int .i64 0,.int .i64 0]
theorem mtZ_at (w:World) (P:Nat→Prop):Bz w P noMt mtZ:=
 ⟨[.int .i64 0,.string ⟨#[]⟩,.string ⟨#[]⟩,.bool false,.slice none 0 0,.slice none 0 0,.int .i64 0,.int .i64 0],_,_,_,_,rfl,by decide,by decide,cu.nil _ _,jF.nil _ _,qi _ _,jF.nil _ _,gy.nil _ _⟩
def BL (l:List Mt) (s:ByteArray):Option Mt:=l.find? fun m=>eqS m.name s
theorem Ub (l:List Mt) (s:ByteArray):(BL l s=none∧rZ (fun m=>eqS m.name s) l= -1)∨∃(i:Nat) (m:Mt),BL l s=some m∧rZ (fun m=>eqS m.name s) l=i∧l[i]?=some m:=by
 unfold BL rZ;cases h:l.findIdx? (fun m=>eqS m.name s)with
 |none=>exact .inl ⟨List.find?_eq_none.2 (fun x hx=>by rw[List.findIdx?_eq_none_iff.1 h x hx];decide),rfl⟩
 |some i=>obtain⟨hi,hp,hn⟩:=List.findIdx?_eq_some_iff_getElem.1 h;exact .inr ⟨i,l[i],List.find?_eq_some_iff_getElem.2 ⟨hp,i,hi,rfl,fun j hj=>by have:=hn j hj;simpa using this⟩,rfl,List.getElem?_eq_getElem hi⟩
def Cb (P:Nat→Prop) (l:List Mt) (s:ByteArray) (w:World) (e:Ending) (w':World):Prop:=
 (∃cs:List Value,e=.returned (.tuple #[.agg cs.toArray,dV (BL l s).isSome])∧Bz w' P ((BL l s).getD noMt) cs)∧Step (fun _=>False) w w'
theorem Bg (P:Nat→Prop) (it:It) (cs:List Value) (s:ByteArray) (w:World) (hit:nX w P it cs) (hP:∀k,P k→k<w.heap.size):Calls Tryz.prog 154 #[.agg cs.toArray,.string s] w (Cb P it.methods s w):=by
 obtain⟨vl,vt,vf,vw,vm,ct,⟨-,-,-,-,-,-,-,zF,-,-⟩,⟨-,-,-,-,hms⟩,-⟩:=hit.get;obtain⟨al,cl,rfl⟩:=hms.parts;obtain⟨l,hl⟩:=aU it.methods;rw[←hl]at zF hms⊢;have hmf:∀(fn:Fn) (first cap:Array Value) (w:World),(Instr.makeFunc fn first cap).run Tryz.prog w=.ok (.func fn first cap) w:=fun _ _ _ _=>by kernel_rfl
 obtain⟨w1,hw1⟩:=aU (((w.alloc (.cells cs.toArray 51)).alloc (.cells #[aY s] 9)).alloc (.cells mtZ.toArray 105));have HST:Hid (Step (fun _=>False) w w1):=by show Step _ _ _;rw[hw1];exact((bJ.alloc _).alloc _).alloc _
 have HB0:Hid (w1.heap[w.heap.size]?=some (.cells cs.toArray 51 (0,0))):=by show _=_;rw[hw1];exact aN (aN (aA _ _))
 have HB1:Hid (w1.heap[w.heap.size+1]?=some (.cells #[aY s] 9 (0,0))):=by show _=_;rw[hw1];exact aN (dX _ _ _)
 have HB2:Hid (w1.heap[w.heap.size+1+1]?=some (.cells mtZ.toArray 105 (0,0))):=by show _=_;rw[hw1];have:=aA ((w.alloc (.cells cs.toArray 51)).alloc (.cells #[aY s] 9)) (.cells mtZ.toArray 105);simpa using this
 have HW1:=ak hw1;have HL:=ak ((bQ dD).step _ _ HST.o (fun _ _ h=>h) hms);have HP:=ak hP;have QV:Hid (Calls Tryz.prog 189 #[.slice al l.length cl,.func (.func 190) #[] #[.pointer (some ⟨w.heap.size+1,0,none⟩)]] w1 fun e w'=>e=.returned (.int .i64 (rZ (fun m=>eqS m.name s) l))∧Step (fun _=>False) w1 w'):=
  D8 _ _ P _ _ _ _ BG HL.o (fun y _ cy w' hw hy=>Ie s (w.heap.size+1) y cy P w' (hw.cell (aj HB1.o 0 _ rfl) (fun h=>h)) hy)
 have d15:=aj HB0.o 15 _ (by rw[List.getElem?_toArray];exact zF);have HC15:=ak zF;obtain⟨ix,hix⟩:=aU (rZ (fun m=>eqS m.name s) l);rw[←hix]at QV;have PN:=Ub l s;rw[←hix]at PN;obtain⟨r,hr⟩:=aU (BL l s);rw[←hr]at PN;have HR:=ak hr;have PN:=ak PN;have hlt:=aI HB2.o;have HPO:Hid (∀(cm:List Value) (X:World),Bz w1 P (r.getD noMt) cm→Step (·=w.heap.size+1+1) w1 X→Cb P l s w (.returned (.tuple #[.agg cm.toArray,dV r.isSome])) X):=by intro cm X h1 h2;refine⟨⟨cm,by rw[←hr],?_⟩,HST.o.then h2 (fun i hi e=>by omega)⟩;rw[←hr];exact dD.step _ _ h2 (fun k hk e=>by have:=HP.o k hk;omega) h1
 clear hw1 hl hit hms zF hix hr hP;go_enter Tryz.func154,Tryz.ntmps154;go_upto_region 1 with fail
 rw[←HW1.o];go_wp2_with fail;refine QV.o.mono ?_;rintro e w2 ⟨rfl,h2⟩;have HB22:=ak (h2.keep HB2.o (fun h=>h));have HS2:=ak h2;clear d15;have d15:=aj (h2.keep HB0.o (fun h=>h)) 15 _ (by rw[List.getElem?_toArray];exact HC15.o);clear h2;rcases PN.o with⟨hn,hi⟩|⟨i,m,hs,hi,hx⟩
 ·have hRN:Hid (r=none):=hn;subst hi;clear hn;go_wp2_with (refine fH rfl 105 (.tmp 4) (.tmp 13) rfl (w.heap.size+1+1) 105 _ mtZ rfl rfl HB22.o Tryz.gQ rfl (aP rfl) ?_;intro wR hbR bT);refine bodyPost_ret (fZ rfl _ (w.heap.size+1+1) 105 mtZ _ _ rfl rfl hbR Tryz.underlying105 rfl Tryz.gQ) rfl ?_;have:=HPO.o mtZ wR (by rw[hRN.out];exact mtZ_at _ _) ((HS2.o.mono fe).trans bT);rw[hRN.out]at this;exact this
 ·obtain⟨xs,⟨a',c',hva,hcl,hcm,-,hra⟩,hls⟩:=(bQ dD).step _ _ HS2.o (fun _ _ h=>h) HL.o;obtain⟨rfl,rfl⟩:al=a'∧cl=c':=by cases hva;exact⟨rfl,rfl⟩
  have hil:=(List.getElem?_eq_some_iff.1 hx).1;obtain⟨g,o,rfl,hg,hgw,hcell⟩:=hra om;obtain⟨cm,hat,hget⟩:=lG.get dD i hls hx;have iH:Hid (∀(jj:Nat) v,cm[jj]?=some v→w2.cell? ⟨g,o+i*17+jj,none⟩=some v):=by show∀jj v,_;intro jj v hv;rw[Nat.add_assoc];exact hcell _ _ (hget jj v hv)
  have mX:Hid ((Tryz.prog.info? 105).map (·.size)=some cm.length):=by show _=_;rw[dD.len _ _ hat];exact Tryz.gQ
  have MB:=ak (dD.len _ _ hat);have DL:=ak (dD.one _ _ hat);have Qq:Hid (r=some m):=hs;have HAT:=ak hat;have hneg:¬(i:Int)<0:=by omega
  subst hi;clear hs hx hva hcl hcm hra hls hg hgw hcell hget hat;go_wp2_with (first
   |(refine ay rfl 105 (.tmp 17) rfl g (o+i*17) rfl cm _ iH.o Tryz.underlying105 rfl mX.o ?_)
   |(refine fH rfl 105 (.tmp 4) (.tmp 18) rfl (w.heap.size+1+1) 105 _ cm rfl rfl HB22.o mX.o (by rw[MB.o];rfl) DL.o ?_;intro wR hbR bT))
  refine bodyPost_ret (fZ rfl _ (w.heap.size+1+1) 105 cm _ _ rfl rfl hbR Tryz.underlying105 rfl mX.o) rfl ?_;refine⟨⟨cm,by rw[←HR.o,Qq.o];rfl,?_⟩,(HST.o.trans HS2.o).then bT (fun i hi e=>by omega)⟩;rw[←HR.o,Qq.o];exact dD.step _ _ bT (fun k hk e=>by have:=HP.o k hk;omega) HAT.o
set_option maxRecDepth 100000
set_option maxHeartbeats 4000000
def MC:List Bd→List Er
 |[]=>[]
 |b::r=>(if 0<b.aF.length then[(8,b.line,b.col)]else[])++MC r
theorem ovE_at {l:List Bd} {k:Nat} {b:Bd} (h:l[k]?=some b):MC (l.drop k)=(if 0<b.aF.length then[(8,b.line,b.col)]else[])++MC (l.drop (k+1)):=by obtain⟨hk,rfl⟩:=List.getElem?_eq_some_iff.1 h;rw[List.drop_eq_getElem_cons hk,MC]
def FZ (tr:It) (m:Mt):List Er:=match BL tr.methods m.name with
 |none=>[(3,m.line,m.col)]
 |some y=>if y.recv≠m.recv∨y.params.length≠m.params.length then[(5,m.line,m.col)]else[]
def BM (tr:It):List Mt→List Er
 |[]=>[]
 |m::r=>FZ tr m++BM tr r
theorem Xb {tr:It} {l:List Mt} {k:Nat} {m:Mt} (h:l[k]?=some m):BM tr (l.drop k)=FZ tr m++BM tr (l.drop (k+1)):=by obtain⟨hk,rfl⟩:=List.getElem?_eq_some_iff.1 h;rw[List.drop_eq_getElem_cons hk,BM]
def yc (x:It):List Mt→List Er
 |[]=>[]
 |m::r=>(if(BL x.methods m.name).isSome then[]else[(3,x.line,x.col)])++yc x r
theorem Xc {x:It} {l:List Mt} {k:Nat} {m:Mt} (h:l[k]?=some m):yc x (l.drop k)=(if(BL x.methods m.name).isSome then[]else[(3,x.line,x.col)])++yc x (l.drop (k+1)):=by obtain⟨hk,rfl⟩:=List.getElem?_eq_some_iff.1 h;rw[List.drop_eq_getElem_cons hk,yc]
def PY (T:Tab) (x:It):List Er:=match T.get T.tr x.name with
 |none=>[(3,x.line,x.col)]
 |some tr=>BM tr x.methods++yc x tr.methods
def zG (T:Tab) (x:It):List Er:=
 (if qC x.head||(T.st x.head).isSome then[]else[(3,x.line,x.col)])++(MC x.wh++(zL T ⟨[],(T.of x.head).types,false⟩ x.wh++(oH T (T.of x.head) [] x.methods++PY T x)))
theorem vN.mv {α:Type} {El:World→(Nat→Prop)→α→List Value→Prop} {k:Nat} (hE:vN El k) {cb:Nat} {w w':World} {v v':Value} {a:α} {cs:List Value} (h:Mv cb w v w' v') (hx:El w (Out cb v w) a cs):El w' (Out cb v' w') a cs:=
 hE.mono _ _ (fun _ _ hk=>h.out hk) (hE.step _ _ h.st (fun _ hk e=>hk.off e) hx)
structure D9 (x:It):Prop where
 gl:x.gen.aF.length≤8
 fs:∀p∈x.fields,lg p.ty
 rt:lg x.ret
 ms:∀m∈x.methods,Yr m
theorem Tab.Uc {T:Tab} (h:∀x∈T.items,D9 x) (s:ByteArray):(T.of s).aF.length≤8:=by
 unfold Tab.of;split
 ·decide
 ·cases hg:T.get T.st s with
  |none=>decide
  |some x=>rw[Tab.get]at hg;obtain⟨i,-,hi⟩:=Option.bind_eq_some_iff.1 hg;exact(h x (List.mem_of_getElem? hi)).gl
theorem F5 {w:World} {P:Nat→Prop} {g:Gn} {cs:List Value} (h:PK w P g (.agg cs.toArray)):∃(a1:Option Addr) (c1:Nat) (a2:Option Addr) (c2:Nat),cs=[.slice a1 g.aF.length c1,.slice a2 g.types.length c2]:=by obtain⟨a1,c1,a2,c2,h,-⟩:=h;refine⟨a1,c1,a2,c2,?_⟩;have h2:=Value.agg.inj h;exact List.toArray_inj h2
theorem PZ {IM:World→Nat→(ByteArray→ByteArray→Option Nat)→Prop} (him:vP IM) (cb tb:Nat) (T:Tab) (it:It) (cs:List Value) (es:List Er) (v:Value) (w:World) (hTf:∀x∈T.items,D9 x) (hfit:D9 it) (h:lm cb (.pointer (some ⟨tb,0,none⟩)) (TabAt IM tb T) w v es) (hit:nX w (Out cb v w) it cs) (hb:(es++zG T it).length≤1000000000):Calls Tryz.prog 101 #[.pointer (some ⟨cb,0,none⟩),.agg cs.toArray] w (lK cb (.pointer (some ⟨tb,0,none⟩)) (TabAt IM tb T) w v (es++zG T it)):=by
 have qE:=ak hfit;have TR:=ak (Tab.Uc hTf it.head);obtain⟨w1,hw1⟩:=aU (w.alloc (.cells cs.toArray 51));have HST:Hid (Step (fun _=>False) w w1):=by show Step _ _ _;rw[hw1];exact bJ.alloc _
 have HB0:Hid (w1.heap[w.heap.size]?=some (.cells cs.toArray 51 (0,0))):=by show _=_;rw[hw1];exact aA _ _
 have HW1:=ak hw1;have oM:=ak (h.quiet HST.o);have HIT:Hid (nX w1 (Out cb v w1) it cs):=aT.mono _ _ (fun _ _ hk=>(Mv.quiet HST.o).out hk) (aT.step _ _ HST.o (fun _ _ h=>h) hit);have FY:=ak (h.new (w':=w1) (k:=w.heap.size) (Nat.le_refl _) (aI HB0.o));have mX:Hid ((Tryz.prog.info? 51).map (·.size)=some cs.length):=by show _=_;rw[aT.len _ _ hit];exact Tryz.dF
 obtain⟨vl,vt,vf,vw,vm,ct,⟨hc0,hc1,hc2,-,-,-,Ud,zF,hc17,hc18⟩,⟨-,-,-,hwh,hms⟩,-,-,hnn,hnh⟩:=HIT.o.get;obtain⟨aw,cw,rfl⟩:=hwh.parts;obtain⟨am,cm,rfl⟩:=hms.parts;have sW:Hid (cs[1]?=some (.string it.name)∧cs[2]?=some (.string it.head)∧cs[14]?=some (.slice aw it.wh.length cw)∧cs[15]?=some (.slice am it.methods.length cm)∧cs[17]?=some (.int .i64 it.line)∧cs[18]?=some (.int .i64 it.col)):=⟨hc1,hc2,Ud,zF,hc17,hc18⟩;have HWH:=ak hwh;have HMS:=ak hms;have Pz:=ak hnn;have HNH:=ak hnh;have sZ:Hid (∀(X:World) (vx:Value),Mv cb w1 v X vx→∀(j:Nat) u,cs[j]?=some u→X.cell? ⟨w.heap.size,j,none⟩=some u):=by intro X vx hX j u hu;exact aj (hX.keep HB0.o FY.o) j u (by rw[List.getElem?_toArray];exact hu)
 obtain⟨tot,ht⟩:=aU (es++zG T it);rw[←ht]at hb⊢;obtain⟨ok,hok⟩:=aU (qC it.head||(T.st it.head).isSome);obtain⟨gg,hgg⟩:=aU (T.of it.head);obtain⟨ET,hET⟩:=aU (PY T it);obtain⟨E1,hE1⟩:=aU (if ok then[]else[(3,it.line,it.col)]:List Er);have zK:=ak hE1;have HET:=ak hET;have HT:Hid ((es++E1)++(MC it.wh++(zL T ⟨[],gg.types,false⟩ it.wh++(oH T gg [] it.methods++ET)))=tot):=by show _=_;rw[ht,zG,←hok,←hgg,←hET,←hE1,List.append_assoc]
 rw[←hgg]at TR;have t_:=ak hok;have HGG:=ak hgg;have hlen0:=dB (a:=es) (b:=E1++(MC it.wh++(zL T ⟨[],gg.types,false⟩ it.wh++(oH T gg [] it.methods++ET)))) (by rw[←List.append_assoc];exact HT.o) hb;clear h hw1 hit hc0 hc1 hc2 Ud zF hc17 hc18 hwh hms hnn hnh ht hok hgg hET hE1 hTf hfit;go_enter Tryz.func101,Tryz.ntmps101;go_upto_region 1 with fail
 rw[←HW1.o];have Qs:Hid (∀X,Step (fun _=>False) w1 X→Calls Tryz.prog 29 #[.pointer (some ⟨tb,0,none⟩),.string it.head] X (fun e w'=>(∃cs:List Value,e=.returned (.tuple #[.agg cs.toArray,dV ok])∧PK w' (Out cb v w1) gg (.agg cs.toArray))∧Step (fun _=>False) X w')):=by intro X hX;refine(WV him tb T _ it.head X (oM.o.ok.step hX (fun _ _ h=>h) oM.o.tab) HNH.o (fun k hk=>Nat.lt_of_lt_of_le hk.1 hX.size)).mono ?_;rintro e w' ⟨⟨x,rfl,hx⟩,hs⟩;rw[←HGG.o]at hx;obtain⟨a1,c1,a2,c2,rfl,h1,h2⟩:=hx;exact⟨⟨[_,_],by rw[t_.o],_,_,_,_,rfl,h1,h2⟩,hs⟩
 have L6:Hid (∀X,Step (fun _=>False) w1 X→X.cell? ⟨cb,0,none⟩=some (.pointer (some ⟨tb,0,none⟩))∧X.cell? ⟨w.heap.size,2,none⟩=some (.string it.head)):=by intro X hX;exact⟨aj (hX.keep oM.o.blk (fun h=>h)) 0 _ rfl,sZ.o X v (Mv.quiet hX) 2 _ sW.o.2.1⟩
 have JL:Hid (U3 w1 2 (fun X cs=>PK X (Out cb v w1) gg (.agg cs.toArray))):=⟨fun X X' cs hs h=>D5.step _ _ hs (fun k hk e=>by have:=hk.1;omega) h,fun X cs h=>by obtain⟨a1,c1,a2,c2,rfl⟩:=F5 h;exact⟨rfl,aP rfl⟩⟩;go_cut [4,5] (fun s4 s5 wx=>∃(b4:Nat) (cg:List Value),s4=.pointer (some ⟨b4,0,none⟩)∧s5=.bool ok∧w1.heap.size≤b4∧wx.heap[b4]?=some (.cells cg.toArray 42 (0,0))∧PK wx (Out cb v w1) gg (.agg cg.toArray)∧Step (fun _=>False) w1 wx);case first=>
  refine jR kr (JF w1 (.pointer (some ⟨cb,0,none⟩)) (.pointer (some ⟨cb,0,none⟩)) (.pointer (some ⟨tb,0,none⟩)) (.pointer (some ⟨w.heap.size,2,none⟩)) (.string it.head) (fun X cs=>PK X (Out cb v w1) gg (.agg cs.toArray)) ok 42 2) 13 rfl kr kr kr kr ?h0 ?hs ?hdone;case h0=>exact JF.zero (bJ.drew)
  case hs=>
   refine⟨?_,?_,?_,?_,?_,?_,?_,?_,?_,?_,?_,?_,?_,trivial⟩
   ·intro L V X a ev dn hL ax hJ;have o0:=dn 0 rfl;change a.tmps[0]?.getD undef=.pointer (some ⟨cb,0,none⟩)at o0;go_simp;exact⟨_,rfl,{hJ with p0:=fun _=>rfl}⟩
   ·intro L V X a ev dn hL ax hJ;have e18:=(ev 0 18 rfl (ax 0 rfl)).trans (hJ.p0 (ax 0 rfl));go_simp;exact⟨_,rfl,{hJ with p1:=fun _=>rfl}⟩
   ·intro L V X a ev dn hL ax hJ;have e19:=(ev 1 19 rfl (ax 1 rfl)).trans (hJ.p1 (ax 1 rfl));go_simp;exact⟨_,rfl,{hJ with p2:=fun _=>rfl}⟩
   ·intro L V X a ev dn hL ax hJ;have e20:=(ev 2 20 rfl (ax 2 rfl)).trans (hJ.p2 (ax 2 rfl));obtain⟨k1,k2⟩:=L6.o X hJ.st;go_simp;exact⟨_,rfl,{hJ with p3:=fun _=>rfl}⟩
   ·intro L V X a ev dn hL ax hJ;have o4:=dn 3 rfl;change a.tmps[3]?.getD undef=.pointer (some ⟨w.heap.size,0,none⟩)at o4;go_simp;exact⟨_,rfl,{hJ with p4:=fun _=>rfl}⟩
   ·intro L V X a ev dn hL ax hJ;have e22:=(ev 4 22 rfl (ax 4 rfl)).trans (hJ.p4 (ax 4 rfl));obtain⟨k1,k2⟩:=L6.o X hJ.st;go_simp;exact⟨_,rfl,{hJ with p5:=fun _=>rfl}⟩
   ·intro L V X a ev dn hL ax hJ;have e21:=(ev 3 21 rfl (ax 3 rfl)).trans (hJ.p3 (ax 3 rfl));have e23:=(ev 5 23 rfl (ax 5 rfl)).trans (hJ.p5 (ax 5 rfl));go_simp;refine(Qs.o X hJ.st).mono ?_;rintro e w6 ⟨⟨cs,rfl,hat⟩,h6⟩;exact⟨_,rfl,{hJ.step JL.o h6 with p6:=fun _=>⟨cs,rfl,hat⟩}⟩
   ·intro L V X a ev dn hL ax hJ;obtain⟨cs,y1,y2⟩:=hJ.p6 (ax 6 rfl);have e24:=(ev 6 24 rfl (ax 6 rfl)).trans (y1);go_simp;exact⟨_,rfl,{hJ with p7:=fun _=>⟨cs,rfl,y2⟩}⟩
   ·intro L V X a ev dn hL ax hJ;obtain⟨cs,y1,y2⟩:=hJ.p7 (ax 7 rfl);have e17:=(ev 7 17 rfl (ax 7 rfl)).trans (y1);go_simp;exact⟨_,rfl,{hJ with p8:=fun _=>⟨cs,rfl,y2⟩}⟩
   ·intro L V X a ev dn hL ax hJ;obtain⟨cs,y1,y2⟩:=hJ.p7 (ax 7 rfl);have e17:=(ev 7 17 rfl (ax 7 rfl)).trans (y1);go_simp;exact⟨_,rfl,{hJ with p9:=fun _=>rfl}⟩
   ·intro L V X a ev dn hL ax hJ;go_simp;exact⟨_,rfl,hJ.up10 JL.o _ rfl hL⟩
   ·intro L V X a ev dn hL ax hJ;obtain⟨b9,c9,y1,y2,y3,y4,-⟩:=hJ.p10 (ax 10 rfl);obtain⟨cs,z1,z2⟩:=hJ.p8 (ax 8 rfl);obtain⟨z3,z4⟩:=JL.o.2 _ _ z2;have e4:=(ev 10 4 rfl (ax 10 rfl)).trans (y1);have e25:=(ev 8 25 rfl (ax 8 rfl)).trans (z1);refine dM 42 (.tmp 4) (.tmp 25) rfl b9 0 42 c9 cs (by rw[bF];exact e4) (by rw[bF];exact e25) y4 (by rw[z3];exact Tryz.jf) om z4 ?_;intro w9 gu hs9;rw[BZ om]at gu;exact⟨undef,rfl,hJ.TN JL.o y1 (ax 10 rfl) z2 undef gu hs9⟩
   ·intro L V X a ev dn hL ax hJ;have e26:=(ev 9 26 rfl (ax 9 rfl)).trans (hJ.p9 (ax 9 rfl));go_simp;exact⟨_,rfl,{hJ with p12:=fun _=>rfl}⟩
  case hdone=>intro L V X hall hJ;obtain⟨b8,c8,h1,h2,-,h4,h5⟩:=hJ.p10 (hall 10 dc);obtain⟨cs8,rfl,hcs⟩:=h5 (hall 11 dc);have h12:=hJ.p12 (hall 12 dc);have hst:=hJ.st;rw[show List.range 13=[0,1,2,3,4,5,6,7,8,9,10,11,12] from rfl];simp only[kC,fU,List.getElem?_toArray,List.getElem?_cons_zero,List.getElem?_cons_succ,Option.bind_some,Act.put,List.setIfInBounds_toArray,List.set_cons_zero,List.set_cons_succ];go_wp2_with fail;go_meet;case rel=>exact⟨b8,cs8,by first|exact h1|rfl,by first|exact h12|rfl,h2,h4,hcs,hst⟩
 case rest=>
  obtain⟨b4,cg,rfl,rfl,hb4,hblk,hgn,hst⟩:=hcut;obtain⟨w2,rfl⟩:=aU wc;obtain⟨a1,c1,a2,c2,rfl⟩:=F5 hgn;have HC2:=ak (oM.o.quiet hst);have qV:Hid (Mv cb w1 v w2 v):=Mv.quiet hst;have HB4:=ak hblk;have HO4:=ak (oM.o.new (k:=b4) hb4 (aI hblk));have HGN:Hid (PK w2 (Out cb v w2) gg (.agg #[.slice a1 gg.aF.length c1,.slice a2 gg.types.length c2])):=D5.mono _ _ (fun _ _ hk=>(Mv.quiet hst).out hk) hgn;clear hb4 hblk hgn hst Qs L6 JL;go_upto_if 28 with fail
  go_cut [] (fun wx=>∃v3:Value,lm cb (.pointer (some ⟨tb,0,none⟩)) (TabAt IM tb T) wx v3 (es++E1)∧Mv cb w2 v wx v3);case first=>
   cases ok with
   |true=>go_wp2_with fail;go_meet;case rel=>exact⟨v,by simpa[zK.o]using HC2.o,Mv.refl _ _ _⟩
   |false=>have e17:=sZ.o _ _ qV.o 17 _ sW.o.2.2.2.2.1;have e18:=sZ.o _ _ qV.o 18 _ sW.o.2.2.2.2.2;go_wp2_with fail;refine(eu cb _ _ 3 it.line it.col es v _ HC2.o hlen0).mono ?_;rintro e w3 ⟨rfl,v3,h3,g3⟩;have rO:=ak h3;have oV:=ak g3;clear h3 g3 e17 e18;go_wp2_with fail;go_meet;case rel=>exact⟨v3,by simpa[zK.o]using rO.o,oV.o⟩
  case rest=>
   obtain⟨v3,h3,g3⟩:=hcut;obtain⟨w3,rfl⟩:=aU wc;have rO:=ak h3;have HM23:=ak g3;have HM13:=ak (qV.o.trans g3);clear h3 g3;have e14:=sZ.o _ _ HM13.o 14 _ sW.o.2.2.1;go_wp2_with fail;clear e14;go_loopg [7,36] it.wh.length (fun g9 _ s36 wr=>∃(k:Nat) (cur:List Er) (v4:Value),s36=.int .i64 k∧k≤it.wh.length∧it.wh.length-k≤g9∧lm cb (.pointer (some ⟨tb,0,none⟩)) (TabAt IM tb T) wr v4 cur∧Mv cb w2 v wr v4∧cur++(MC (it.wh.drop k)++(zL T ⟨[],gg.types,false⟩ it.wh++(oH T gg [] it.methods++ET)))=tot);case atStart=>exact⟨0,_,v3,rfl,Nat.zero_le _,by omega,rO.o,HM23.o,HT.o⟩
   case round=>
    obtain⟨k,cur,v4,rfl,hk,hgk,hc,hm,he⟩:=hrel;have EZ:=ak hc;have Xd:=ak hm;have HM14:=ak (qV.o.trans hm);have FD:=ak he;clear hc hm he;by_cases hlt:k<it.wh.length
    ·obtain⟨b,hx⟩:∃b,it.wh[k]?=some b:=⟨it.wh[k],List.getElem?_eq_getElem hlt⟩;have HOV:=ak (ovE_at hx);obtain⟨xs,⟨a',c',hva,hcl,hcm,-,hra⟩,hls⟩:=(bQ gI).mv HM14.o HWH.o;(obtain⟨rfl,rfl⟩:aw=a'∧cw=c':=by cases hva;exact⟨rfl,rfl⟩);obtain⟨g,o,rfl,hg,hgw,hcell⟩:=hra om;obtain⟨cb',hat,hget⟩:=lG.get gI k hls hx;obtain⟨bn,BK,Em,bl,bc⟩:=b;obtain⟨vt',vl',rfl,hsz,hnt,hnl⟩:=hat;obtain⟨at',Bf,rfl⟩:=hnt.2.parts;obtain⟨al',cl',rfl⟩:=hnl.2.parts;obtain⟨nb,hnb⟩:=aU Em.length;rw[←hnb]at hget;(have iH:Hid (∀(jj:Nat) v,[Value.string bn,.slice at' BK.length Bf,.slice al' nb cl',ah bl,ah bc][jj]?=some v→wr.cell? ⟨g,o+k*5+jj,none⟩=some v):=by show∀jj v,_;intro jj v hv;rw[Nat.add_assoc];exact hcell _ _ (hget jj v hv));obtain⟨w5,hw5⟩:=aU (wr.alloc (.cells [Value.string bn,.slice at' BK.length Bf,.slice al' nb cl',ah bl,ah bc].toArray 170));(have oQ:Hid (Step (fun _=>False) wr w5):=by show Step _ _ _;rw[hw5];exact bJ.alloc _);(have zX:Hid (w5.heap[wr.heap.size]?=some (.cells [Value.string bn,.slice at' BK.length Bf,.slice al' nb cl',ah bl,ah bc].toArray 170 (0,0))):=by show _=_;rw[hw5];exact aA _ _);have HW5:=ak hw5;have um:=ak (EZ.o.quiet oQ.o);have MF:=ak (Xd.o.then oQ.o);have d2:=aj zX.o 2 _ rfl;have d3:=aj zX.o 3 _ rfl;have d4:=aj zX.o 4 _ rfl;(have Dn:Hid ((cur++(if 0<nb then[((8:Int),bl,bc)]else[]))++(MC (it.wh.drop (k+1))++(zL T ⟨[],gg.types,false⟩ it.wh++(oH T gg [] it.methods++ET)))=tot):=by show _=_;have:=FD.o;rw[HOV.o,←hnb]at this;simpa only[List.append_assoc]using this);(have hlb:it.wh.length≤9223372036854775807:=by omega);clear hcell hx hva hcl hcm hra hg hgw hls hget hw5 hnt hnl hsz HOV hnb;by_cases hz:nb=0
     ·(have q4:¬(0:Int)<(nb:Int):=by omega);(have q9:¬0<nb:=by omega);(have uN:Hid (cur++(MC (it.wh.drop (k+1))++(zL T ⟨[],gg.types,false⟩ it.wh++(oH T gg [] it.methods++ET)))=tot):=by show _=_;have:=Dn.o;rw[if_neg q9,List.append_nil]at this;exact this);clear hz;go_wp2_with (first
       |(refine ay rfl 170 (.tmp 38) rfl g (o+k*5) rfl [Value.string bn,.slice at' BK.length Bf,.slice al' nb cl',ah bl,ah bc] _ iH.o Tryz.underlying170 rfl Tryz.kJ ?_)
       |(refine bW rfl 170 (.tmp 7) (.tmp 39) rfl _ [Value.string bn,.slice at' BK.length Bf,.slice al' nb cl',ah bl,ah bc] rfl rfl Tryz.kJ rfl (aP rfl) ?_;rw[←HW5.o]))
      go_roundg (gk-1);case rel=>exact⟨k+1,cur,v4,by go_num,hlt,by rw[←Nat.sub_sub];exact Nat.sub_le_sub_right hgk 1,um.o,MF.o,uN.o⟩
      case measure=>omega
     ·(have q4:(0:Int)<(nb:Int):=by omega);(have q9:0<nb:=by omega);(have uN:Hid ((cur++[((8:Int),bl,bc)])++(MC (it.wh.drop (k+1))++(zL T ⟨[],gg.types,false⟩ it.wh++(oH T gg [] it.methods++ET)))=tot):=by show _=_;have:=Dn.o;rw[if_pos q9]at this;exact this);clear hz;go_wp2_with (first
       |(refine ay rfl 170 (.tmp 38) rfl g (o+k*5) rfl [Value.string bn,.slice at' BK.length Bf,.slice al' nb cl',ah bl,ah bc] _ iH.o Tryz.underlying170 rfl Tryz.kJ ?_)
       |(refine bW rfl 170 (.tmp 7) (.tmp 39) rfl _ [Value.string bn,.slice at' BK.length Bf,.slice al' nb cl',ah bl,ah bc] rfl rfl Tryz.kJ rfl (aP rfl) ?_;rw[←HW5.o]))
      refine(eu cb _ _ 8 bl bc cur v4 _ um.o (dB FD.o hb)).mono ?_;rintro e w6 ⟨rfl,v6,h6,g6⟩;have Ej:=ak h6;have PU:=ak (MF.o.trans g6);clear h6 g6;go_wp2_with fail;go_roundg (gk-1);case rel=>exact⟨k+1,_,v6,by go_num,hlt,by rw[←Nat.sub_sub];exact Nat.sub_le_sub_right hgk 1,Ej.o,PU.o,uN.o⟩
      case measure=>omega
    ·(have hk2:k=it.wh.length:=by omega);(have Dn:Hid ((cur++zL T ⟨[],gg.types,false⟩ it.wh)++(oH T gg [] it.methods++ET)=tot):=by show _=_;have:=FD.o;rw[hk2,List.drop_length,MC,List.nil_append]at this;exact fE this);clear hk2;obtain⟨go1,rfl⟩:=aU (gk:Nat);obtain⟨wo,rfl⟩:=aU wr;have e14:=sZ.o _ _ HM14.o 14 _ sW.o.2.2.1;have g1:=aj (Xd.o.keep HB4.o HO4.o) 1 _ rfl;(have HSN:Hid (Qo wo (Out cb v4 wo) ⟨[],gg.types,false⟩ (.agg #[au,.slice a2 gg.types.length c2,aO])):=by obtain⟨_,_,_,_,hq,-,hq2⟩:=D5.mv Xd.o HGN.o;cases hq;exact⟨_,_,_,_,rfl,cu.nil _ _,hq2⟩);go_wp2_with fail;refine(x9 cb tb T it.wh _ _ ⟨[],gg.types,false⟩ cur v4 _ EZ.o ((bQ gI).mv HM14.o HWH.o) HSN.o (dB Dn.o hb)).mono ?_;rintro e w5 ⟨rfl,v5,h5,g5⟩;have um:=ak h5;have MF:=ak (Xd.o.trans g5);have Ua:=ak (qV.o.trans MF.o);have HB05:=ak (Ua.o.keep HB0.o FY.o);have Lp:=ak (MF.o.keep HB4.o HO4.o);have uN:=ak (fE Dn.o);clear h5 g5 e14 g1;go_wp2_with (first
      |(refine ay rfl 51 (.tmp 3) rfl w.heap.size 0 rfl cs _ (gU HB05.o) Tryz.underlying51 rfl mX.o ?_)
      |(refine ay rfl 42 (.tmp 4) rfl b4 0 rfl [.slice a1 gg.aF.length c1,.slice a2 gg.types.length c2] _ (gU Lp.o) Tryz.underlying42 rfl Tryz.jf ?_))
     refine(zD him cb tb T it gg cs _ _ v5 _ qE.o.ms TR.o um.o (aT.mv Ua.o HIT.o) (D5.mv MF.o HGN.o) (dB uN.o hb)).mono ?_;rintro e w6 ⟨rfl,v6,h6,g6⟩;have Ej:=ak h6;have HM26:=ak (MF.o.trans g6);have HM16:=ak (qV.o.trans HM26.o);obtain⟨cu6,hcu6⟩:=aU (cur++zL T ⟨[],gg.types,false⟩ it.wh++oH T gg [] it.methods);rw[←hcu6]at Ej uN;clear h6 g6 hcu6;obtain⟨ok2,hok2⟩:=aU (T.tr it.name).isSome;obtain⟨tr,htr⟩:=aU ((T.get T.tr it.name).getD vO);have HOK2:=ak hok2;have HTR:=ak htr;clear hok2 htr;(have Qs:Hid (∀X,Step (fun _=>False) w6 X→Calls Tryz.prog 26 #[.pointer (some ⟨tb,0,none⟩),.string it.name] X (fun e w'=>(∃cs:List Value,e=.returned (.tuple #[.agg cs.toArray,dV ok2])∧nX w' (Out cb v6 w6) tr cs)∧Step (fun _=>False) X w')):=by rw[HOK2.o,HTR.o];intro X hX;exact WU him tb T _ it.name X (Ej.o.ok.step hX (fun _ _ h=>h) Ej.o.tab) Pz.o (fun k hk=>Nat.lt_of_lt_of_le hk.1 hX.size));(have L6:Hid (∀X,Step (fun _=>False) w6 X→X.cell? ⟨cb,0,none⟩=some (.pointer (some ⟨tb,0,none⟩))∧X.cell? ⟨w.heap.size,1,none⟩=some (.string it.name)):=by intro X hX;exact⟨aj (hX.keep Ej.o.blk (fun h=>h)) 0 _ rfl,sZ.o X v6 (HM16.o.then hX) 1 _ sW.o.1⟩);have JL:Hid (U3 w6 19 (fun X cs=>nX X (Out cb v6 w6) tr cs)):=⟨fun X X' cs hs h=>aT.step _ _ hs (fun k hk e=>by have:=hk.1;omega) h,fun X cs h=>⟨aT.len _ _ h,aT.one _ _ h⟩⟩;(go_upto_region 12 with fail);go_cut [8,5] (fun s8 s5 wx=>∃(b8:Nat) (ci:List Value),s8=.pointer (some ⟨b8,0,none⟩)∧s5=.bool ok2∧w6.heap.size≤b8∧wx.heap[b8]?=some (.cells ci.toArray 51 (0,0))∧nX wx (Out cb v6 w6) tr ci∧Step (fun _=>False) w6 wx);case first=>
      refine jR kr (JF w6 (.pointer (some ⟨cb,0,none⟩)) (.pointer (some ⟨cb,0,none⟩)) (.pointer (some ⟨tb,0,none⟩)) (.pointer (some ⟨w.heap.size,1,none⟩)) (.string it.name) (fun X cs=>nX X (Out cb v6 w6) tr cs) ok2 51 19) 13 rfl kr kr kr kr ?h0 ?hs ?hdone;case h0=>exact JF.zero (bJ.drew)
      case hs=>
       refine⟨?_,?_,?_,?_,?_,?_,?_,?_,?_,?_,?_,?_,?_,trivial⟩
       ·intro L V X a ev dn hL ax hJ;have o0:=dn 0 rfl;change a.tmps[0]?.getD undef=.pointer (some ⟨cb,0,none⟩)at o0;go_simp;exact⟨_,rfl,{hJ with p0:=fun _=>rfl}⟩
       ·intro L V X a ev dn hL ax hJ;have e61:=(ev 0 61 rfl (ax 0 rfl)).trans (hJ.p0 (ax 0 rfl));go_simp;exact⟨_,rfl,{hJ with p1:=fun _=>rfl}⟩
       ·intro L V X a ev dn hL ax hJ;have e62:=(ev 1 62 rfl (ax 1 rfl)).trans (hJ.p1 (ax 1 rfl));go_simp;exact⟨_,rfl,{hJ with p2:=fun _=>rfl}⟩
       ·intro L V X a ev dn hL ax hJ;have e63:=(ev 2 63 rfl (ax 2 rfl)).trans (hJ.p2 (ax 2 rfl));obtain⟨k1,k2⟩:=L6.o X hJ.st;go_simp;exact⟨_,rfl,{hJ with p3:=fun _=>rfl}⟩
       ·intro L V X a ev dn hL ax hJ;have o4:=dn 3 rfl;change a.tmps[3]?.getD undef=.pointer (some ⟨w.heap.size,0,none⟩)at o4;go_simp;exact⟨_,rfl,{hJ with p4:=fun _=>rfl}⟩
       ·intro L V X a ev dn hL ax hJ;have e65:=(ev 4 65 rfl (ax 4 rfl)).trans (hJ.p4 (ax 4 rfl));obtain⟨k1,k2⟩:=L6.o X hJ.st;go_simp;exact⟨_,rfl,{hJ with p5:=fun _=>rfl}⟩
       ·intro L V X a ev dn hL ax hJ;have e64:=(ev 3 64 rfl (ax 3 rfl)).trans (hJ.p3 (ax 3 rfl));have e66:=(ev 5 66 rfl (ax 5 rfl)).trans (hJ.p5 (ax 5 rfl));go_simp;refine(Qs.o X hJ.st).mono ?_;rintro e w6 ⟨⟨cs,rfl,hat⟩,h6⟩;exact⟨_,rfl,{hJ.step JL.o h6 with p6:=fun _=>⟨cs,rfl,hat⟩}⟩
       ·intro L V X a ev dn hL ax hJ;obtain⟨cs,y1,y2⟩:=hJ.p6 (ax 6 rfl);have e67:=(ev 6 67 rfl (ax 6 rfl)).trans (y1);go_simp;exact⟨_,rfl,{hJ with p7:=fun _=>⟨cs,rfl,y2⟩}⟩
       ·intro L V X a ev dn hL ax hJ;obtain⟨cs,y1,y2⟩:=hJ.p7 (ax 7 rfl);have e60:=(ev 7 60 rfl (ax 7 rfl)).trans (y1);go_simp;exact⟨_,rfl,{hJ with p8:=fun _=>⟨cs,rfl,y2⟩}⟩
       ·intro L V X a ev dn hL ax hJ;obtain⟨cs,y1,y2⟩:=hJ.p7 (ax 7 rfl);have e60:=(ev 7 60 rfl (ax 7 rfl)).trans (y1);go_simp;exact⟨_,rfl,{hJ with p9:=fun _=>rfl}⟩
       ·intro L V X a ev dn hL ax hJ;go_simp;exact⟨_,rfl,hJ.up10 JL.o _ rfl hL⟩
       ·intro L V X a ev dn hL ax hJ;obtain⟨b9,c9,y1,y2,y3,y4,-⟩:=hJ.p10 (ax 10 rfl);obtain⟨cs,z1,z2⟩:=hJ.p8 (ax 8 rfl);obtain⟨z3,z4⟩:=JL.o.2 _ _ z2;have e8:=(ev 10 8 rfl (ax 10 rfl)).trans (y1);have e68:=(ev 8 68 rfl (ax 8 rfl)).trans (z1);refine dM 51 (.tmp 8) (.tmp 68) rfl b9 0 51 c9 cs (by rw[bF];exact e8) (by rw[bF];exact e68) y4 (by rw[z3];exact Tryz.dF) om z4 ?_;intro w9 gu hs9;rw[BZ om]at gu;exact⟨undef,rfl,hJ.TN JL.o y1 (ax 10 rfl) z2 undef gu hs9⟩
       ·intro L V X a ev dn hL ax hJ;have e69:=(ev 9 69 rfl (ax 9 rfl)).trans (hJ.p9 (ax 9 rfl));go_simp;exact⟨_,rfl,{hJ with p12:=fun _=>rfl}⟩
      case hdone=>intro L V X hall hJ;obtain⟨b8,c8,h1,h2,-,h4,h5⟩:=hJ.p10 (hall 10 dc);obtain⟨cs8,rfl,hcs⟩:=h5 (hall 11 dc);have h12:=hJ.p12 (hall 12 dc);have hst:=hJ.st;rw[show List.range 13=[0,1,2,3,4,5,6,7,8,9,10,11,12] from rfl];simp only[kC,fU,List.getElem?_toArray,List.getElem?_cons_zero,List.getElem?_cons_succ,Option.bind_some,Act.put,List.setIfInBounds_toArray,List.set_cons_zero,List.set_cons_succ];go_wp2_with fail;go_meet;case rel=>exact⟨b8,cs8,by first|exact h1|rfl,by first|exact h12|rfl,h2,h4,hcs,hst⟩
     case rest=>
      obtain⟨b8,ci,rfl,rfl,hb8,hblk,hti,hst⟩:=hcut;obtain⟨w7,rfl⟩:=aU wc;have TW:=ak (Ej.o.quiet hst);have Ih:=ak (HM16.o.then hst);have J9:=ak hblk;have HO8:=ak (Ej.o.new (k:=b8) hb8 (aI hblk));have Yu:Hid (nX w7 (Out cb v6 w7) tr ci):=aT.mono _ _ (fun _ _ hk=>(Mv.quiet hst).out hk) hti;clear hb8 hblk hti hst Qs L6 JL;cases ok2 with
      |false=>have e17:=sZ.o _ _ Ih.o 17 _ sW.o.2.2.2.2.1;have e18:=sZ.o _ _ Ih.o 18 _ sW.o.2.2.2.2.2;(have HET0:Hid (ET=[(3,it.line,it.col)]):=by show _=_;rw[HET.o,PY,Tab.get_none HOK2.o.symm]);go_wp2_with fail;refine(eu cb _ _ 3 it.line it.col _ v6 _ TW.o (dB uN.o hb)).mono ?_;rintro e w9 ⟨rfl,v9,h9,g9⟩;have zh:=ak h9;have Qu:=ak (Ih.o.trans g9);clear h9 g9;go_wp2_with fail;refine bodyPost_ret (results_none rfl _ _ _) rfl ?_;exact⟨rfl,v9,by rw[←uN.o,HET0.o];exact zh.o,(Mv.quiet HST.o).trans Qu.o⟩
      |true=>
       obtain⟨x2,hx2⟩:=Tab.get_some (TW.o.tab.tr it.name) HOK2.o.symm;(obtain rfl:tr=x2:=by rw[HTR.o,hx2];rfl);(have EN:Hid (cu6++(BM tr it.methods++yc it tr.methods)=tot):=by show _=_;rw[←uN.o,HET.o,PY,hx2]);(have HLN8:Hid ((Tryz.prog.info? 51).map (·.size)=some ci.length):=by show _=_;rw[aT.len _ _ Yu.o];exact Tryz.dF);have e15:=sZ.o _ _ Ih.o 15 _ sW.o.2.2.2.1;clear hx2;go_wp2_with fail;clear e15;go_loopg [10,11,12,79] it.methods.length (fun g9 _ _ _ s79 wr=>∃(j:Nat) (cur:List Er) (v8:Value),s79=.int .i64 j∧j≤it.methods.length∧it.methods.length-j≤g9∧lm cb (.pointer (some ⟨tb,0,none⟩)) (TabAt IM tb T) wr v8 cur∧Mv cb w7 v6 wr v8∧cur++(BM tr (it.methods.drop j)++yc it tr.methods)=tot);case atStart=>exact⟨0,_,v6,rfl,Nat.zero_le _,by omega,TW.o,Mv.refl _ _ _,EN.o⟩
       case round=>
        obtain⟨j,cur,v8,rfl,hj,hgj,hc,hm,he⟩:=hrel;have HCX:=ak hc;have HM78:=ak hm;have T_:=ak (Ih.o.trans hm);have HEX:=ak he;clear hc hm he;by_cases hlj:j<it.methods.length
        ·obtain⟨m,hx⟩:∃m,it.methods[j]?=some m:=⟨it.methods[j],List.getElem?_eq_getElem hlj⟩;obtain⟨xs,⟨a',c',hva,hcl,hcm,-,hra⟩,hls⟩:=(bQ dD).mv T_.o HMS.o;(obtain⟨rfl,rfl⟩:am=a'∧cm=c':=by cases hva;exact⟨rfl,rfl⟩);obtain⟨g,o,rfl,hg,hgw,hcell⟩:=hra om;obtain⟨Ue,hat,hget⟩:=lG.get dD j hls hx;(have iH:Hid (∀(jj:Nat) v,Ue[jj]?=some v→wr.cell? ⟨g,o+j*17+jj,none⟩=some v):=by show∀jj v,_;intro jj v hv;rw[Nat.add_assoc];exact hcell _ _ (hget jj v hv));(have Uf:Hid ((Tryz.prog.info? 105).map (·.size)=some Ue.length):=by show _=_;rw[dD.len _ _ hat];exact Tryz.gQ);have MB:=ak (dD.len _ _ hat);have HONM:=ak (dD.one _ _ hat);obtain⟨vml,vmp,vmw,cty,⟨mc0,-,mc2,-,mc4,-,Ug,Uh⟩,⟨-,hq2,-⟩,-⟩:=hat.get;obtain⟨ap1,cp1,rfl⟩:=hq2.parts;have Xe:Hid (Ue[0]?=some (.string m.name)∧Ue[2]?=some (.int .i64 m.recv)∧Ue[4]?=some (.slice ap1 m.params.length cp1)∧Ue[15]?=some (.int .i64 m.line)∧Ue[16]?=some (.int .i64 m.col)):=⟨mc0,mc2,mc4,Ug,Uh⟩;obtain⟨wa,Ii⟩:=aU (wr.alloc (.cells Ue.toArray 105));(have MG:Hid (Step (fun _=>False) wr wa):=by show Step _ _ _;rw[Ii];exact bJ.alloc _);(have P5:Hid (wa.heap[wr.heap.size]?=some (.cells Ue.toArray 105 (0,0))):=by show _=_;rw[Ii];exact aA _ _);have HWwa:=ak Ii;have HOwa:=ak (HCX.o.new (k:=wr.heap.size) (Nat.le_refl _) (aI P5.o));(have hlb:it.methods.length≤9223372036854775807:=by omega);have n0:=aj P5.o 0 _ (by rw[List.getElem?_toArray];exact mc0);clear hcell hva hcl hcm hra hg hgw hls hget hat mc0 mc2 mc4 Ug Uh hq2 Ii;have Ui:=ak (HM78.o.then MG.o);have Xf:=ak (T_.o.then MG.o);have XC:=ak (HCX.o.quiet MG.o);have HBA8:=ak (Ui.o.keep J9.o HO8.o);have HTIA:=ak (aT.mv Ui.o Yu.o);have NG:=ak (Bg (Out cb v8 wa) tr ci m.name wa HTIA.o (fun k hk=>hk.1));obtain⟨fy,hfy⟩:=aU (BL tr.methods m.name);obtain⟨EJ,hEJ⟩:=aU (FZ tr m);have Yv:Hid ((cur++EJ)++(BM tr (it.methods.drop (j+1))++yc it tr.methods)=tot):=fE (by have:=HEX.o;rw[Xb hx,List.append_assoc,←hEJ]at this;exact this);rw[FZ,←hfy]at hEJ;have HEJ:=ak hEJ;unfold Cb at NG;rw[←hfy]at NG;clear hEJ hfy hx;go_wp2_with (first
          |(refine ay rfl 105 (.tmp 81) rfl g (o+j*17) rfl Ue _ iH.o Tryz.underlying105 rfl Uf.o ?_)
          |(refine bW rfl 105 (.tmp 10) (.tmp 82) rfl _ Ue rfl rfl Uf.o (by rw[MB.o];rfl) HONM.o ?_;rw[←HWwa.o])
          |(refine ay rfl 51 (.tmp 8) rfl b8 0 rfl ci _ (gU HBA8.o) Tryz.underlying51 rfl HLN8.o ?_))
         refine NG.o.mono ?_;rintro e wb ⟨⟨cy,rfl,D_⟩,hsb⟩;(have HLNY:Hid ((Tryz.prog.info? 105).map (·.size)=some cy.length):=by show _=_;rw[dD.len _ _ D_];exact Tryz.gQ);have HLY:=ak (dD.len _ _ D_);have HOY:=ak (dD.one _ _ D_);obtain⟨wd,hwd⟩:=aU (wb.alloc (.cells cy.toArray 105));(have HSD:Hid (Step (fun _=>False) wa wd):=by show Step _ _ _;rw[hwd];exact hsb.alloc _);(have HBD:Hid (wd.heap[wb.heap.size]?=some (.cells cy.toArray 105 (0,0))):=by show _=_;rw[hwd];exact aA _ _);have QH:=ak hwd;have HCD:=ak (XC.o.quiet HSD.o);have MH:=ak (Ui.o.then HSD.o);have hbm:=HSD.o.keep P5.o (fun h=>h);have m2:=aj hbm 2 _ (by rw[List.getElem?_toArray];exact Xe.o.2.1);have m4:=aj hbm 4 _ (by rw[List.getElem?_toArray];exact Xe.o.2.2.1);have m15:=aj hbm 15 _ (by rw[List.getElem?_toArray];exact Xe.o.2.2.2.1);have m16:=aj hbm 16 _ (by rw[List.getElem?_toArray];exact Xe.o.2.2.2.2);clear hsb hwd hbm n0;(go_upto_region 19 with(refine bW rfl 105 (.tmp 11) (.tmp 88) rfl _ cy rfl rfl HLNY.o (by rw[HLY.o];rfl) HOY.o ?_;rw[←QH.o]));cases fy with
         |none=>
          have P6:Hid (EJ=[(3,m.line,m.col)]):=HEJ.o;clear D_;go_wp2_with fail;refine(eu cb _ _ 3 m.line m.col cur v8 _ HCD.o (dB HEX.o hb)).mono ?_;rintro e wz ⟨rfl,vz,hz,gz⟩;have HCz:=ak hz;have HMz:=ak (MH.o.trans gz);clear hz gz;go_wp2_with fail;go_roundg (gk-1);case rel=>exact⟨j+1,_,vz,by go_num,hlj,by rw[←Nat.sub_sub];exact Nat.sub_le_sub_right hgj 1,HCz.o,HMz.o,by have:=Yv.o;rw[P6.o]at this;exact this⟩
          case measure=>omega
         |some y=>
          have P6:Hid (EJ=if y.recv≠m.recv∨y.params.length≠m.params.length then[(5,m.line,m.col)]else[]):=HEJ.o;obtain⟨_,vyp,_,_,⟨-,-,yc2,-,yc4,-⟩,⟨-,hyp,-⟩,-⟩:=D_.get;obtain⟨apy,cpy,rfl⟩:=hyp.parts;have y2:=aj HBD.o 2 _ (by rw[List.getElem?_toArray];exact yc2);have y4:=aj HBD.o 4 _ (by rw[List.getElem?_toArray];exact yc4);simp only[Option.getD_some]at y2 y4;clear D_ yc2 yc4 hyp;obtain⟨yr,hyr⟩:=aU y.recv;obtain⟨mr,hmr⟩:=aU m.recv;obtain⟨yn,hyn⟩:=aU y.params.length;obtain⟨mn,hmn⟩:=aU m.params.length;rw[←hyr,←hmr,←hyn,←hmn]at P6;rw[←hyr]at y2;rw[←hyn]at y4;rw[←hmr]at m2;rw[←hmn]at m4;clear hyr hmr hyn hmn;by_cases hq:yr=mr
          ·(have q1:(yr !=mr)=false:=by simpa using hq);by_cases hq2:yn=mn
           ·(have q2:((yn:Int) !=(mn:Int))=false:=by simp;omega);(have Uj:Hid (EJ=[]):=by show _=_;rw[P6.o,if_neg (fun h=>h.elim (fun h=>h hq) (fun h=>h hq2))]);clear hq hq2;go_wp2_with fail;go_roundg (gk-1);case rel=>exact⟨j+1,cur,v8,by go_num,hlj,by rw[←Nat.sub_sub];exact Nat.sub_le_sub_right hgj 1,HCD.o,MH.o,by have:=Yv.o;rw[Uj.o,List.append_nil]at this;exact this⟩
            case measure=>omega
           ·(have q2:((yn:Int) !=(mn:Int))=true:=by simp;omega);(have Uj:Hid (EJ=[(5,m.line,m.col)]):=by show _=_;rw[P6.o,if_pos (.inr hq2)]);clear hq hq2;go_wp2_with fail;refine(eu cb _ _ 5 m.line m.col cur v8 _ HCD.o (dB HEX.o hb)).mono ?_;rintro e wz ⟨rfl,vz,hz,gz⟩;have HCz:=ak hz;have HMz:=ak (MH.o.trans gz);clear hz gz;go_wp2_with fail;go_roundg (gk-1);case rel=>exact⟨j+1,_,vz,by go_num,hlj,by rw[←Nat.sub_sub];exact Nat.sub_le_sub_right hgj 1,HCz.o,HMz.o,by have:=Yv.o;rw[Uj.o]at this;exact this⟩
            case measure=>omega
          ·(have q1:(yr !=mr)=true:=by simpa using hq);(have Uj:Hid (EJ=[(5,m.line,m.col)]):=by show _=_;rw[P6.o,if_pos (.inl hq)]);clear hq;go_wp2_with fail;refine(eu cb _ _ 5 m.line m.col cur v8 _ HCD.o (dB HEX.o hb)).mono ?_;rintro e wz ⟨rfl,vz,hz,gz⟩;have HCz:=ak hz;have HMz:=ak (MH.o.trans gz);clear hz gz;go_wp2_with fail;go_roundg (gk-1);case rel=>exact⟨j+1,_,vz,by go_num,hlj,by rw[←Nat.sub_sub];exact Nat.sub_le_sub_right hgj 1,HCz.o,HMz.o,by have:=Yv.o;rw[Uj.o]at this;exact this⟩
           case measure=>omega
        ·(have hj2:j=it.methods.length:=by omega);(have Qv:Hid (cur++yc it tr.methods=tot):=by show _=_;have:=HEX.o;rw[hj2,List.drop_length,BM,List.nil_append]at this;exact this);clear hj2;obtain⟨go2,rfl⟩:=aU (gk:Nat);obtain⟨wq,rfl⟩:=aU wr;obtain⟨_,_,_,_,vtm,_,⟨-,-,-,-,-,-,-,tc15,-,-⟩,⟨-,-,-,-,htm⟩,-⟩:=Yu.o.get;obtain⟨at9,VZ,rfl⟩:=htm.parts;have HTM:=ak htm;have e15:=aj (HM78.o.keep J9.o HO8.o) 15 _ (by rw[List.getElem?_toArray];exact tc15);clear htm tc15;obtain⟨U4,htms⟩:=aU tr.methods;rw[←htms]at HTM e15 Qv;clear htms;go_wp2_with fail;clear e15;go_loopg [14,15,16,120] U4.length (fun g9 _ _ _ s120 wr=>∃(i:Nat) (vW:List Er) (v9:Value),s120=.int .i64 i∧i≤U4.length∧U4.length-i≤g9∧lm cb (.pointer (some ⟨tb,0,none⟩)) (TabAt IM tb T) wr v9 vW∧Mv cb w7 v6 wr v9∧vW++yc it (U4.drop i)=tot);case atStart=>exact⟨0,_,v8,rfl,Nat.zero_le _,by omega,HCX.o,HM78.o,Qv.o⟩
         case round=>
          obtain⟨i,vW,v9,rfl,hi,hgi,hc,hm,he⟩:=hrel;have HCY:=ak hc;have HM79:=ak hm;have HM19:=ak (Ih.o.trans hm);have Yv:=ak he;clear hc hm he;by_cases hli:i<U4.length
          ·obtain⟨m,hx⟩:∃m,U4[i]?=some m:=⟨U4[i],List.getElem?_eq_getElem hli⟩;obtain⟨xs,⟨a',c',hva,hcl,hcm,-,hra⟩,hls⟩:=(bQ dD).mv HM79.o HTM.o;(obtain⟨rfl,rfl⟩:at9=a'∧VZ=c':=by cases hva;exact⟨rfl,rfl⟩);obtain⟨g,o,rfl,hg,hgw,hcell⟩:=hra om;obtain⟨Uk,hat,hget⟩:=lG.get dD i hls hx;(have iH:Hid (∀(jj:Nat) v,Uk[jj]?=some v→wr.cell? ⟨g,o+i*17+jj,none⟩=some v):=by show∀jj v,_;intro jj v hv;rw[Nat.add_assoc];exact hcell _ _ (hget jj v hv));(have Uf:Hid ((Tryz.prog.info? 105).map (·.size)=some Uk.length):=by show _=_;rw[dD.len _ _ hat];exact Tryz.gQ);have MB:=ak (dD.len _ _ hat);have HONM:=ak (dD.one _ _ hat);obtain⟨vml,vmp,vmw,cty,⟨mc0,-,mc2,-,mc4,-,Ug,Uh⟩,⟨-,hq2,-⟩,-⟩:=hat.get;obtain⟨ap2,cp2,rfl⟩:=hq2.parts;have HMC2:Hid (Uk[0]?=some (.string m.name)∧Uk[2]?=some (.int .i64 m.recv)∧Uk[4]?=some (.slice ap2 m.params.length cp2)∧Uk[15]?=some (.int .i64 m.line)∧Uk[16]?=some (.int .i64 m.col)):=⟨mc0,mc2,mc4,Ug,Uh⟩;obtain⟨wa,Ii⟩:=aU (wr.alloc (.cells Uk.toArray 105));(have MG:Hid (Step (fun _=>False) wr wa):=by show Step _ _ _;rw[Ii];exact bJ.alloc _);(have P5:Hid (wa.heap[wr.heap.size]?=some (.cells Uk.toArray 105 (0,0))):=by show _=_;rw[Ii];exact aA _ _);have HWwa:=ak Ii;have HOwa:=ak (HCY.o.new (k:=wr.heap.size) (Nat.le_refl _) (aI P5.o));(have hlb:U4.length≤9223372036854775807:=by omega);have n0:=aj P5.o 0 _ (by rw[List.getElem?_toArray];exact mc0);clear hcell hva hcl hcm hra hg hgw hls hget hat mc0 mc2 mc4 Ug Uh hq2 Ii;have Ui:=ak (HM79.o.then MG.o);have Xf:=ak (HM19.o.then MG.o);have XC:=ak (HCY.o.quiet MG.o);have HBA0:=ak (Xf.o.keep HB0.o FY.o);have NG:=ak (Bg (Out cb v9 wa) it cs m.name wa (aT.mv Xf.o HIT.o) (fun k hk=>hk.1));obtain⟨fy,hfy⟩:=aU (BL it.methods m.name);have HEZ:Hid ((vW++(if fy.isSome then[]else[((3:Int),it.line,it.col)]))++yc it (U4.drop (i+1))=tot):=fE (by have:=Yv.o;rw[Xc hx,←hfy]at this;exact this);unfold Cb at NG;rw[←hfy]at NG;clear hfy hx;go_wp2_with (first
            |(refine ay rfl 105 (.tmp 122) rfl g (o+i*17) rfl Uk _ iH.o Tryz.underlying105 rfl Uf.o ?_)
            |(refine bW rfl 105 (.tmp 14) (.tmp 123) rfl _ Uk rfl rfl Uf.o (by rw[MB.o];rfl) HONM.o ?_;rw[←HWwa.o])
            |(refine ay rfl 51 (.tmp 3) rfl w.heap.size 0 rfl cs _ (gU HBA0.o) Tryz.underlying51 rfl mX.o ?_))
           refine NG.o.mono ?_;rintro e wb ⟨⟨cy,rfl,D_⟩,hsb⟩;(have HLNY:Hid ((Tryz.prog.info? 105).map (·.size)=some cy.length):=by show _=_;rw[dD.len _ _ D_];exact Tryz.gQ);have HLY:=ak (dD.len _ _ D_);have HOY:=ak (dD.one _ _ D_);obtain⟨wd,hwd⟩:=aU (wb.alloc (.cells cy.toArray 105));(have HSD:Hid (Step (fun _=>False) wa wd):=by show Step _ _ _;rw[hwd];exact hsb.alloc _);have QH:=ak hwd;have HCD:=ak (XC.o.quiet HSD.o);have MH:=ak (Ui.o.then HSD.o);have HM1D:=ak (Xf.o.then HSD.o);have e17:=sZ.o _ _ HM1D.o 17 _ sW.o.2.2.2.2.1;have e18:=sZ.o _ _ HM1D.o 18 _ sW.o.2.2.2.2.2;clear hsb hwd n0 D_;obtain⟨fb,hfb⟩:=aU fy.isSome;rw[←hfb]at HEZ;rw[←hfb];clear hfb;(go_upto_region 28 with(refine bW rfl 105 (.tmp 15) (.tmp 129) rfl _ cy rfl rfl HLNY.o (by rw[HLY.o];rfl) HOY.o ?_;rw[←QH.o]));cases fb with
           |true=>
            go_wp2_with fail;go_roundg (gk-1);case rel=>exact⟨i+1,vW,v9,by go_num,hli,by rw[←Nat.sub_sub];exact Nat.sub_le_sub_right hgi 1,HCD.o,MH.o,by simpa using HEZ.o⟩
            case measure=>omega
           |false=>
            go_wp2_with fail;refine(eu cb _ _ 3 it.line it.col vW v9 _ HCD.o (dB Yv.o hb)).mono ?_;rintro e wz ⟨rfl,vz,hz,gz⟩;have HCz:=ak hz;have HMz:=ak (MH.o.trans gz);clear hz gz;go_wp2_with fail;go_roundg (gk-1);case rel=>exact⟨i+1,_,vz,by go_num,hli,by rw[←Nat.sub_sub];exact Nat.sub_le_sub_right hgi 1,HCz.o,HMz.o,by simpa using HEZ.o⟩
            case measure=>omega
          ·(have hi2:i=U4.length:=by omega);(have Bo:Hid (vW=tot):=by show _=_;have:=Yv.o;rw[hi2,List.drop_length,yc,List.append_nil]at this;exact this);go_wp2_with fail;refine bodyPost_ret (results_none rfl _ _ _) rfl ?_;exact⟨rfl,v9,Bo.o▸HCY.o,(Mv.quiet HST.o).trans HM19.o⟩
set_option maxRecDepth 100000
set_option maxHeartbeats 4000000
def Qw (T:Tab) (x:It):List Er:=
 if x.kind=1 then BJ T x.gen x.line x.col++lI T ⟨x.gen.aF,x.gen.types,false⟩ [] x.fields
 else if x.kind=2 then oH T jX [] x.methods
 else if x.kind=3 then zG T x
 else if x.kind=4 then BJ T x.gen x.line x.col++(lI T ⟨x.gen.aF,x.gen.types,true⟩ [] x.fields++(BH T ⟨x.gen.aF,x.gen.types,true⟩ x.ret++zL T ⟨x.gen.aF,x.gen.types,true⟩ x.wh))
 else[]
theorem P7 {IM:World→Nat→(ByteArray→ByteArray→Option Nat)→Prop} (him:vP IM) (cb tb:Nat) (T:Tab) (it:It) (cs:List Value) (es:List Er) (v:Value) (w:World) (hTf:∀x∈T.items,D9 x) (hfit:D9 it) (h:lm cb (.pointer (some ⟨tb,0,none⟩)) (TabAt IM tb T) w v es) (hit:nX w (Out cb v w) it cs) (hb:(es++Qw T it).length≤1000000000):Calls Tryz.prog 66 #[.pointer (some ⟨cb,0,none⟩),.agg cs.toArray] w (lK cb (.pointer (some ⟨tb,0,none⟩)) (TabAt IM tb T) w v (es++Qw T it)):=by
 have qE:=ak hfit;have ZH:=ak hTf;obtain⟨w1,hw1⟩:=aU (w.alloc (.cells cs.toArray 51));have HST:Hid (Step (fun _=>False) w w1):=by show Step _ _ _;rw[hw1];exact bJ.alloc _
 have HB0:Hid (w1.heap[w.heap.size]?=some (.cells cs.toArray 51 (0,0))):=by show _=_;rw[hw1];exact aA _ _
 have HW1:=ak hw1;have oM:=ak (h.quiet HST.o);have HIT:Hid (nX w1 (Out cb v w1) it cs):=aT.mv (Mv.quiet HST.o) hit;have FY:=ak (h.new (w':=w1) (k:=w.heap.size) (Nat.le_refl _) (aI HB0.o));have mX:Hid ((Tryz.prog.info? 51).map (·.size)=some cs.length):=by show _=_;rw[aT.len _ _ hit];exact Tryz.dF
 obtain⟨vl,vt,vf,vw,vm,ct,⟨hc0,-,-,hc3,hc4,hc5,Ud,zF,hc17,hc18⟩,⟨hgl,hgt,hfs,hwh,-⟩,hty,hct,-,-⟩:=HIT.o.get;obtain⟨al,cl,rfl⟩:=hgl.2.parts;obtain⟨at',Bf,rfl⟩:=hgt.2.parts;obtain⟨af,cf,rfl⟩:=hfs.parts;obtain⟨aw,cw,rfl⟩:=hwh.parts;have sW:Hid (cs[3]?=some (.slice al it.gen.aF.length cl)∧cs[4]?=some (.slice at' it.gen.types.length Bf)∧cs[5]?=some (.slice af it.fields.length cf)∧cs[14]?=some (.slice aw it.wh.length cw)∧cs[17]?=some (.int .i64 it.line)∧cs[18]?=some (.int .i64 it.col)):=⟨hc3,hc4,hc5,Ud,hc17,hc18⟩;have HGW:Hid (PK w1 (Out cb v w1) it.gen (.agg #[.slice al it.gen.aF.length cl,.slice at' it.gen.types.length Bf])):=⟨_,_,_,_,rfl,hgl,hgt⟩;have Gw:Hid (∀b,Qo w1 (Out cb v w1) ⟨it.gen.aF,it.gen.types,b⟩ (.agg #[.slice al it.gen.aF.length cl,.slice at' it.gen.types.length Bf,dV b])):=fun b=>⟨_,_,_,_,rfl,hgl,hgt⟩;have HFS:=ak hfs;have HWH:=ak hwh;have O3:Hid (Eg w1 (Out cb v w1) it.ret (.agg ct.toArray)):=⟨ct,rfl,hty⟩;have Yq:=ak hct;have Mc:Hid ((Tryz.prog.info? 46).map (·.size)=some ct.length):=by show _=_;rw[hty.len];exact Tryz.fM
 have sZ:Hid (∀(X:World) (vx:Value),Mv cb w1 v X vx→∀(j:Nat) u,cs[j]?=some u→X.cell? ⟨w.heap.size,j,none⟩=some u):=by intro X vx hX j u hu;exact aj (hX.keep HB0.o FY.o) j u (by rw[List.getElem?_toArray];exact hu)
 have EX:Hid (Mv cb w1 v w1 v):=Mv.refl _ _ _;obtain⟨kd,hkd⟩:=aU it.kind;obtain⟨tot,ht⟩:=aU (es++Qw T it);rw[←ht]at hb⊢
 have HT:Hid (es++(if kd=1 then BJ T it.gen it.line it.col++lI T ⟨it.gen.aF,it.gen.types,false⟩ [] it.fields
  else if kd=2 then oH T jX [] it.methods
  else if kd=3 then zG T it
  else if kd=4 then BJ T it.gen it.line it.col++(lI T ⟨it.gen.aF,it.gen.types,true⟩ [] it.fields++(BH T ⟨it.gen.aF,it.gen.types,true⟩ it.ret++zL T ⟨it.gen.aF,it.gen.types,true⟩ it.wh))
  else[])=tot):=by show _=_;rw[ht,Qw,hkd]
 have e0:w1.cell? ⟨w.heap.size,0,none⟩=some (.int .i64 kd):=by rw[hkd];exact sZ.o _ _ EX.o 0 _ hc0
 have e3:=sZ.o _ _ EX.o 3 _ hc3;have e4:=sZ.o _ _ EX.o 4 _ hc4;have e17:=sZ.o _ _ EX.o 17 _ hc17;have e18:=sZ.o _ _ EX.o 18 _ hc18;clear h hw1 hit hc0 hc3 hc4 hc5 Ud zF hc17 hc18 hgl hgt hfs hwh hty hct hkd ht hTf hfit;go_enter Tryz.func66,Tryz.ntmps66;go_upto_region 1 with fail
 rw[←HW1.o];by_cases h1:kd=1
 ·subst h1;have HQ:Hid ((es++BJ T it.gen it.line it.col)++lI T ⟨it.gen.aF,it.gen.types,false⟩ [] it.fields=tot):=fE (by rw[←HT.o,if_pos rfl]);go_wp2_with fail;refine(JI cb tb T it.gen _ it.line it.col es v _ oM.o HGW.o (dB HQ.o hb)).mono ?_;rintro e w2 ⟨rfl,v2,h2,g2⟩;have HC2:=ak h2;have qV:=ak g2;clear h2 g2 e0 e3 e4 e17 e18;have e3:=sZ.o _ _ qV.o 3 _ sW.o.1;have e4:=sZ.o _ _ qV.o 4 _ sW.o.2.1;have e5:=sZ.o _ _ qV.o 5 _ sW.o.2.2.1;go_wp2_with fail;refine(vV him cb tb T it.fields _ _ ⟨it.gen.aF,it.gen.types,false⟩ _ v2 _ qE.o.fs HC2.o ((bQ fK).mv qV.o HFS.o) (jB.mv qV.o (Gw.o false)) (by rw[HQ.o];exact hb)).mono ?_;rintro e w3 ⟨rfl,v3,h3,g3⟩;have rO:=ak h3;have oV:=ak (qV.o.trans g3);clear h3 g3 e3 e4 e5;go_wp2_with fail;refine bodyPost_ret (results_none rfl _ _ _) rfl ?_;exact⟨rfl,v3,by rw[←HQ.o];exact rO.o,(Mv.quiet HST.o).trans oV.o⟩
 ·by_cases h2:kd=2
  ·subst h2;(have HQ:Hid (es++oH T jX [] it.methods=tot):=by show _=_;rw[←HT.o,if_neg dc,if_pos rfl]);go_wp2_with (refine ay rfl 51 (.tmp 3) rfl w.heap.size 0 rfl cs _ (gU HB0.o) Tryz.underlying51 rfl mX.o ?_);refine(zD him cb tb T it jX cs _ es v _ qE.o.ms dc oM.o HIT.o ⟨none,0,none,0,rfl,cu.nil _ _,cu.nil _ _⟩ (by rw[HQ.o];exact hb)).mono ?_;rintro e w3 ⟨rfl,v3,h3,g3⟩;have rO:=ak h3;have oV:=ak g3;clear h3 g3 e0 e3 e4 e17 e18;go_wp2_with fail;refine bodyPost_ret (results_none rfl _ _ _) rfl ?_;exact⟨rfl,v3,by rw[←HQ.o];exact rO.o,(Mv.quiet HST.o).trans oV.o⟩
  ·by_cases h3:kd=3
   ·subst h3;(have HQ:Hid (es++zG T it=tot):=by show _=_;rw[←HT.o,if_neg dc,if_neg dc,if_pos rfl]);go_wp2_with (refine ay rfl 51 (.tmp 3) rfl w.heap.size 0 rfl cs _ (gU HB0.o) Tryz.underlying51 rfl mX.o ?_);refine(PZ him cb tb T it cs es v _ ZH.o qE.o oM.o HIT.o (by rw[HQ.o];exact hb)).mono ?_;rintro e w3 ⟨rfl,v3,h3,g3⟩;have rO:=ak h3;have oV:=ak g3;clear h3 g3 e0 e3 e4 e17 e18;go_wp2_with fail;refine bodyPost_ret (results_none rfl _ _ _) rfl ?_;exact⟨rfl,v3,by rw[←HQ.o];exact rO.o,(Mv.quiet HST.o).trans oV.o⟩
   ·by_cases h4:kd=4
    ·subst h4;have HQ:Hid ((es++BJ T it.gen it.line it.col)++(lI T ⟨it.gen.aF,it.gen.types,true⟩ [] it.fields++(BH T ⟨it.gen.aF,it.gen.types,true⟩ it.ret++zL T ⟨it.gen.aF,it.gen.types,true⟩ it.wh))=tot):=fE (by rw[←HT.o,if_neg dc,if_neg dc,if_neg dc,if_pos rfl]);go_wp2_with fail;refine(JI cb tb T it.gen _ it.line it.col es v _ oM.o HGW.o (dB HQ.o hb)).mono ?_;rintro e w2 ⟨rfl,v2,h2,g2⟩;have HC2:=ak h2;have qV:=ak g2;clear h2 g2 e0 e3 e4 e17 e18;have e3:=sZ.o _ _ qV.o 3 _ sW.o.1;have e4:=sZ.o _ _ qV.o 4 _ sW.o.2.1;have e5:=sZ.o _ _ qV.o 5 _ sW.o.2.2.1;obtain⟨w3,hw3⟩:=aU (w2.alloc (.cells [.slice al it.gen.aF.length cl,.slice at' it.gen.types.length Bf,.bool true].toArray 138));(have eX:Hid (Step (fun _=>False) w2 w3):=by show Step _ _ _;rw[hw3];exact bJ.alloc _);(have HB3:Hid (w3.heap[w2.heap.size]?=some (.cells [.slice al it.gen.aF.length cl,.slice at' it.gen.types.length Bf,.bool true].toArray 138 (0,0))):=by show _=_;rw[hw3];exact aA _ _);have HW3:=ak hw3;have rO:=ak (HC2.o.quiet eX.o);have oV:=ak (qV.o.then eX.o);have NF:=ak (HC2.o.new (w':=w3) (k:=w2.heap.size) (Nat.le_refl _) (aI HB3.o));(go_upto_region 12 with(refine bW rfl 138 (.tmp 4) (.tmp 51) rfl _ [.slice al it.gen.aF.length cl,.slice at' it.gen.types.length Bf,.bool true] rfl rfl Tryz.fO rfl (aP rfl) ?_;rw[hw3.symm]));simp only[Act.put];clear e3 e4 e5 hw3;have e5:=sZ.o _ _ oV.o 5 _ sW.o.2.2.1;go_wp2_with (refine ay rfl 138 (.tmp 4) rfl w2.heap.size 0 rfl [.slice al it.gen.aF.length cl,.slice at' it.gen.types.length Bf,.bool true] _ (gU HB3.o) Tryz.underlying138 rfl Tryz.fO ?_);refine(vV him cb tb T it.fields _ _ ⟨it.gen.aF,it.gen.types,true⟩ _ v2 _ qE.o.fs rO.o ((bQ fK).mv oV.o HFS.o) (jB.mv oV.o (Gw.o true)) (dB (fE HQ.o) hb)).mono ?_;rintro e w4 ⟨rfl,v4,h4,g4⟩;have EZ:=ak h4;have Ia:=ak (oV.o.trans g4);have Ig:=ak g4;have HB34:=ak (g4.keep HB3.o NF.o);have HQ4:=ak (fE HQ.o);clear h4 g4 e5;(have EO:Hid (∀(jj:Nat) v,ct[jj]?=some v→w4.cell? ⟨w.heap.size,6+jj,none⟩=some v):=by show∀jj v,_;intro jj v hv;exact sZ.o _ _ Ia.o _ _ (Yq.o _ _ hv));go_wp2_with (first
      |(refine ay rfl 46 (.tmp 58) rfl w.heap.size 6 rfl ct _ EO.o Tryz.underlying46 rfl Mc.o ?_)
      |(refine ay rfl 138 (.tmp 4) rfl w2.heap.size 0 rfl [.slice al it.gen.aF.length cl,.slice at' it.gen.types.length Bf,.bool true] _ (gU HB34.o) Tryz.underlying138 rfl Tryz.fO ?_))
     refine(JH him cb tb T it.ret _ _ ⟨it.gen.aF,it.gen.types,true⟩ _ v4 _ qE.o.rt EZ.o (nV.mv Ia.o O3.o) (jB.mv Ia.o (Gw.o true)) (dB (fE HQ4.o) hb)).mono ?_;rintro e w5 ⟨rfl,v5,h5,g5⟩;have um:=ak h5;have BD:=ak (Ia.o.trans g5);have Lh:=ak ((Ig.o.trans g5).keep HB3.o NF.o);have HQ5:=ak (fE HQ4.o);clear h5 g5;have e14:=sZ.o _ _ BD.o 14 _ sW.o.2.2.2.1;go_wp2_with (refine ay rfl 138 (.tmp 4) rfl w2.heap.size 0 rfl [.slice al it.gen.aF.length cl,.slice at' it.gen.types.length Bf,.bool true] _ (gU Lh.o) Tryz.underlying138 rfl Tryz.fO ?_);refine(x9 cb tb T it.wh _ _ ⟨it.gen.aF,it.gen.types,true⟩ _ v5 _ um.o ((bQ gI).mv BD.o HWH.o) (jB.mv BD.o (Gw.o true)) (by rw[HQ5.o];exact hb)).mono ?_;rintro e w6 ⟨rfl,v6,h6,g6⟩;have Ej:=ak h6;have PU:=ak (BD.o.trans g6);clear h6 g6 e14;go_wp2_with fail;refine bodyPost_ret (results_none rfl _ _ _) rfl ?_;exact⟨rfl,v6,by rw[←HQ5.o];exact Ej.o,(Mv.quiet HST.o).trans PU.o⟩
    ·(have HQ:Hid (es=tot):=by show _=_;rw[←HT.o,if_neg h1,if_neg h2,if_neg h3,if_neg h4,List.append_nil]);go_wp2_with fail;refine bodyPost_ret (results_none rfl _ _ _) rfl ?_;exact⟨rfl,v,by rw[←HQ.o];exact oM.o,Mv.quiet HST.o⟩
set_option maxRecDepth 100000
set_option maxHeartbeats 2000000
mutual
def jK:Ty→List ByteArray
 | .mk k n _ _ _ ar _ _=>if k=5 then n::lM ar else[]
def lM:List Ty→List ByteArray
 |[]=>[]
 |t::r=>jK t++lM r
end
theorem P8 {l:List Ty} {k:Nat} {x:Ty} (h:l[k]?=some x):lM (l.drop k)=jK x++lM (l.drop (k+1)):=by obtain⟨hk,rfl⟩:=List.getElem?_eq_some_iff.1 h;rw[List.drop_eq_getElem_cons hk,lM]
def mJ (l:List ByteArray):List Value:=l.map .string
theorem Ar (a b:List ByteArray):mJ (a++b)=mJ a++mJ b:=List.map_append
def yg (l:List ByteArray) (w:World) (e:Ending) (w':World):Prop:=(∃v':Value,e=.returned v'∧w'.ownsRow w.heap.size 9 1 v' l.length (mJ l))∧Step (fun _=>False) w w'
theorem P9 (n:Nat) (P:Nat→Prop) (ih:∀(t:Ty) (cs:List Value) (w:World),SizeOf.sizeOf t<n→iG w P t cs→(jK t).length≤1000000→Calls Tryz.prog 157 #[.agg cs.toArray] w (yg (jK t) w)) (t:Ty) (cs:List Value) (w:World) (hn:SizeOf.sizeOf t<n+1) (ht:iG w P t cs) (hl:(jK t).length≤1000000):Calls Tryz.prog 157 #[.agg cs.toArray] w (yg (jK t) w):=by
 have IH:=ak ih;obtain⟨k0,nm,lf,mu,ls,ar,ln,cl⟩:=t;have HT:=ak ht;rw[iG]at ht;obtain⟨vl,va,xs,rfl,hnm,-,-,hrl,hta,hra⟩:=ht;obtain⟨al,TQ,rfl⟩:=hrl.parts;obtain⟨aa,ca,rfl⟩:=hra.parts;obtain⟨i0,hi0,hz0,hz1,hz2⟩:=info_parts Tryz.zC;have HI:=ak hi0;have HZ0:=ak hz0;have HZ1:=ak hz1;have HZ2:=ak hz2;obtain⟨w1,hw1⟩:=aU (w.alloc (.cells #[ah k0,aY nm,aY lf,dV mu,.slice al ls.length TQ,.slice aa ar.length ca,ah ln,ah cl] 46));have HST:Hid (Step (fun _=>False) w w1):=by show Step _ _ _;rw[hw1];exact bJ.alloc _
 have HB0:Hid (w1.heap[w.heap.size]?=some (.cells #[ah k0,aY nm,aY lf,dV mu,.slice al ls.length TQ,.slice aa ar.length ca,ah ln,ah cl] 46 (0,0))):=by show _=_;rw[hw1];exact aA _ _
 have HW1:=ak hw1;have WX:Hid (LY w1 P ar (.slice aa ar.length ca)):=pJ.step _ _ HST.o (fun _ _ h=>h) ⟨xs,hra,hta⟩;have J6:Hid (∀x∈ar,SizeOf.sizeOf x<n):=by intro x hx;have:=List.sizeOf_lt_of_mem hx;simp at hn;omega
 obtain⟨res,hres⟩:=aU (jK (.mk k0 nm lf mu ls ar ln cl));rw[←hres]at hl⊢;have HR:Hid (res=if k0=5 then nm::lM ar else[]):=by show _=_;rw[hres,jK]
 have d0:=aj HB0.o 0 _ rfl;have d1:=aj HB0.o 1 _ rfl;clear hrl hra hta hw1 hi0 hz0 hz1 hz2 ih hn hres;go_enter Tryz.func157,Tryz.ntmps157;go_upto_region 1 with fail
 rw[←HW1.o];by_cases hk:k0=5
 ·subst hk;have M_:Hid (res=nm::lM ar):=HR.o.trans (if_pos rfl);obtain⟨w2,hw2⟩:=aU (w1.alloc (.cells #[aY nm] 9));have HS2:Hid (Step (fun _=>False) w1 w2):=by show Step _ _ _;rw[hw2];exact bJ.alloc _
  have HOW:Hid (w2.ownsRow (w.heap.size+1) 9 1 (.slice (some ⟨w1.heap.size,0,none⟩) 1 1) 1 (mJ [nm])):=
   ⟨rfl,.inr ⟨w1.heap.size,1,#[.string nm],rfl,(by have:=aI HB0.o;omega),(by rw[hw2];exact aA _ _),Nat.le_refl _,by decide,rfl,rfl⟩⟩
  have HW2:=ak hw2;have HB02:=ak (HS2.o.keep HB0.o (fun h=>h));go_upto_region 4 with fail
  rw[←HW2.o];clear hw2 d0 d1;have d5:=aj HB02.o 5 _ rfl;have hbl:=aI HB0.o;go_wp2_with fail;clear d5;go_loopg [3,5,15] ar.length (fun g9 s3 _ s15 wr=>∃(k:Nat) (cur:List ByteArray),s15=.int .i64 k∧k≤ar.length∧ar.length-k≤g9∧wr.ownsRow (w.heap.size+1) 9 1 s3 cur.length (mJ cur)∧Step (fun _=>False) w1 wr∧cur++lM (ar.drop k)=res);case atStart=>exact⟨0,[nm],rfl,Nat.zero_le _,by omega,HOW.o,HS2.o,M_.o.symm⟩
  case round=>
   obtain⟨k,cur,rfl,hk,hgg,hown,hst,he⟩:=hrel;have rU:=ak hst;have HE:=ak he;by_cases hlt:k<ar.length
   ·obtain⟨x,hx⟩:∃x,ar[k]?=some x:=⟨ar[k],List.getElem?_eq_getElem hlt⟩;obtain⟨xs,⟨a',c',hva,hcl,hcm,-,hra⟩,hls⟩:=pJ.step _ _ hst (fun _ _ h=>h) WX.o;(obtain⟨rfl,rfl⟩:aa=a'∧ca=c':=by cases hva;exact⟨rfl,rfl⟩);obtain⟨g,o,rfl,hg,hgw,hcell⟩:=hra om;obtain⟨ct,hat,hget⟩:=fP.cells hls hx hcell;have iH:Hid (∀(jj:Nat) v,ct[jj]?=some v→wr.cell? ⟨g,o+k*8+jj,none⟩=some v):=hget;(have mX:Hid ((Tryz.prog.info? 46).map (·.size)=some ct.length):=by show _=_;rw[hat.len];exact Tryz.fM);have HL8:=ak hat.len;have DL:=ak hat.one;obtain⟨w3,hw3⟩:=aU (wr.alloc (.cells ct.toArray 46));(have eX:Hid (Step (fun _=>False) wr w3):=by show Step _ _ _;rw[hw3];exact bJ.alloc _);(have HB3:Hid (w3.heap[wr.heap.size]?=some (.cells ct.toArray 46 (0,0))):=by show _=_;rw[hw3];exact aA _ _);have HW3:=ak hw3;have HX:=ak (J6.o x (List.mem_of_getElem? hx));(have kU:Hid ((cur++jK x)++lM (ar.drop (k+1))=res):=by show _=_;rw[List.append_assoc,←P8 hx];exact he);(have hlen:cur.length+(jK x).length≤1000000:=by have:=congrArg List.length kU.o;simp at this;omega);have HTX:Hid (iG w3 P x ct):=iG.step eX.o (fun _ _ h=>h) _ _ hat;have HOWN:=ak (eX.o.owns hown (fun _ _ h=>h));(have hlb:ar.length≤9223372036854775807:=by omega);obtain⟨va,vc,rfl⟩:=a_ hown;clear hcell hx hva hcl hcm hra hg hgw hls hget hat hw3 hown hst he;go_wp2_with (first
     |(refine ay rfl 46 (.tmp 17) rfl g (o+k*8) rfl ct _ iH.o Tryz.underlying46 rfl mX.o ?_)
     |(refine bW rfl 46 (.tmp 5) (.tmp 18) rfl _ ct rfl rfl mX.o (by rw[HL8.o];rfl) DL.o ?_;rw[←HW3.o])
     |(refine ay rfl 46 (.tmp 5) rfl wr.heap.size 0 rfl ct _ (gU HB3.o) Tryz.underlying46 rfl mX.o ?_))
    refine(IH.o x ct _ HX.o HTX.o om).mono ?_;rintro e w4 ⟨⟨v4,rfl,hown4⟩,h4⟩;have Yw:=ak (h4.owns HOWN.o (fun _ _ h=>h));have HRW:Hid (Row w4 (w4.heap.size) v4 (jK x).length (mJ (jK x))):=Row.fA hown4 (Nat.le_refl _);have eP:=ak ((rU.o.trans eX.o).trans h4);have hsz4:=eP.o.size;obtain⟨v5,v6,rfl⟩:=a_ hown4;clear hown4 h4;go_wp2_with (refine fG _ rfl w4.heap.size (.tmp 19) (.tmp 21) 40 rfl (w.heap.size+1) 9 i0 (.string ⟨#[]⟩) 1 16 Tryz.underlying40 HI.o HZ0.o HZ1.o HZ2.o rfl dc _ cur.length _ (by simp[Act.eval]) Yw.o _ (jK x).length _ (by simp[Act.eval]) HRW.o (by simp[mJ]) (Me _) (by unfold maxLen;omega) om om ?_;intro v7 w7 Yx Ul hat7)
    have qh:Hid (Step (fun _=>False) w1 w7):=eP.o.then (bM Ul) (fun i hi e=>by
     have h1:=(Yw.o.lt i e).1
     have h2:=aI HB0.o
     have h3:w1.heap.size=w.heap.size+1:=by rw[HW1.o];simp
     omega)
    (have HOWN7:Hid (w7.ownsRow (w.heap.size+1) 9 1 v7 (cur++jK x).length (mJ (cur++jK x))):=by have:=Yx;rw[←Ar,←List.length_append]at this;exact this);clear Yx Ul hat7;go_roundg (gk-1);case rel=>exact⟨k+1,cur++jK x,by go_num,hlt,by rw[←Nat.sub_sub];exact Nat.sub_le_sub_right hgg 1,HOWN7.o,qh.o,kU.o⟩
    case measure=>omega
   ·(have hk2:k=ar.length:=by omega);(have Bo:Hid (cur=res):=by show _=_;have:=he;rw[hk2,List.drop_length,lM,List.append_nil]at this;exact this);have HOWN:=ak hown;obtain⟨va,vc,rfl⟩:=a_ hown;clear hown hst he;go_wp2_with fail;go_ret;exact⟨⟨_,rfl,by rw[←Bo.o];exact rP HOWN.o (Nat.le_succ _)⟩,HST.o.trans rU.o⟩
 ·have M_:Hid (res=[]):=HR.o.trans (if_neg hk);have q1:(k0 !=5)=true:=by simpa using hk
  clear hk;go_wp2_with fail;go_ret;exact⟨⟨_,rfl,by rw[M_.o];exact⟨rfl,.inl ⟨rfl,rfl⟩⟩⟩,HST.o⟩
theorem JM (P:Nat→Prop):∀(n:Nat) (t:Ty) (cs:List Value) (w:World),SizeOf.sizeOf t<n→iG w P t cs→(jK t).length≤1000000→Calls Tryz.prog 157 #[.agg cs.toArray] w (yg (jK t) w)
 |0,_,_,_,h,_,_=>absurd h (Nat.not_lt_zero _)
 |n+1,t,cs,w,h,ht,hl=>P9 n P (JM P n) t cs w h ht hl
set_option maxRecDepth 100000
set_option maxHeartbeats 2000000
structure P_ (w0:World) (u0 u2 u3 u4 u45 u5:Value) (F:World→List Value→Prop) (ok:Bool) (ty n:Nat) (L:Nat→Bool) (V:Nat→Value) (X:World):Prop where
 st:Step (fun _=>False) w0 X
 p0:L 0=true→V 0=u0
 p1:L 1=true→V 1=u0
 p2:L 2=true→V 2=u2
 p3:L 3=true→V 3=u3
 p4:L 4=true→V 4=u4
 p5:L 5=true→V 5=u45
 p6:L 6=true→V 6=u5
 p7:L 7=true→∃cs:List Value,V 7=.tuple #[.agg cs.toArray,dV ok]∧F X cs
 p8:L 8=true→∃cs:List Value,V 8=.tuple #[.agg cs.toArray,dV ok]∧F X cs
 p9:L 9=true→∃cs:List Value,V 9=.agg cs.toArray∧F X cs
 p10:L 10=true→V 10=.bool ok
 p11:L 11=true→∃(b:Nat) (c:Array Value),V 11=.pointer (some ⟨b,0,none⟩)∧w0.heap.size≤b∧c.size=n∧X.heap[b]?=some (.cells c ty (0,0))∧(L 12=true→∃cs:List Value,c=cs.toArray∧F X cs)
 p13:L 13=true→V 13=.bool ok
 q12:L 12=true→L 11=true
section
variable {w0 X X' : World} {u0 u2 u3 u4 u45 u5 : Value} {F : World → List Value → Prop} {ok : Bool} {ty n : Nat} {L : Nat → Bool} {V : Nat → Value}
theorem P_.zero (h:Step (fun _=>False) w0 X):P_ w0 u0 u2 u3 u4 u45 u5 F ok ty n (fun _=>false) (fun _=>undef) X:=
 ⟨h,gJ,gJ,gJ,gJ,gJ,gJ,gJ,gJ,gJ,gJ,gJ,gJ,gJ,gJ⟩
theorem P_.step (hF:U3 w0 n F) (h:P_ w0 u0 u2 u3 u4 u45 u5 F ok ty n L V X) (hs:Step (fun _=>False) X X'):P_ w0 u0 u2 u3 u4 u45 u5 F ok ty n L V X':=
 have hm:Step (fun q=>w0.heap.size≤q) X X':=hs.mono fun _ _ h=>h.elim
 {h with
  st:=h.st.trans hs
  p7:=fun e=>let⟨cs,h1,h2⟩:=h.p7 e;⟨cs,h1,hF.1 _ _ _ hm h2⟩
  p8:=fun e=>let⟨cs,h1,h2⟩:=h.p8 e;⟨cs,h1,hF.1 _ _ _ hm h2⟩
  p9:=fun e=>let⟨cs,h1,h2⟩:=h.p9 e;⟨cs,h1,hF.1 _ _ _ hm h2⟩
  p11:=fun e=>let⟨b,c,h1,h2,h3,h4,h5⟩:=h.p11 e;⟨b,c,h1,h2,h3,hs.keep h4 (fun h=>h),fun e2=>let⟨cs,h6,h7⟩:=h5 e2;⟨cs,h6,hF.1 _ _ _ hm h7⟩⟩}
theorem P_.TN (hF:U3 w0 n F) (h:P_ w0 u0 u2 u3 u4 u45 u5 F ok ty n L V X) (c:Array Value) (hc:c.size=n) (TM:L 11=false):P_ w0 u0 u2 u3 u4 u45 u5 F ok ty n (dP L 11) (iW V 11 (.pointer (some ⟨X.heap.size,0,none⟩))) (X.alloc (.cells c ty)):=by
 have h':=h.step hF (bJ.alloc (.cells c ty));have hL:L 12=false:=by
  cases e:L 12 with
  |false=>rfl
  |true=>rw[h.q12 e]at TM;cases TM
 exact{h' with p11:=fun _=>⟨X.heap.size,c,rfl,h.st.size,hc,aA _ _,fun e=>by rw[show dP L 11 12=L 12 from rfl,hL]at e;cases e⟩,q12:=fun _=>rfl}
theorem P_.up12 (hF:U3 w0 n F) (h:P_ w0 u0 u2 u3 u4 u45 u5 F ok ty n L V X) {b:Nat} {cs:List Value} (hb:V 11=.pointer (some ⟨b,0,none⟩)) (hL:L 11=true) (hcs:F X cs) (u:Value) (hX:X'.heap[b]?=some (.cells cs.toArray ty (0,0))) (hs:Step (·=b) X X'):P_ w0 u0 u2 u3 u4 u45 u5 F ok ty n (dP L 12) (iW V 12 u) X':=by
 obtain⟨b',c,h1,h2,h3,h4,h5⟩:=h.p11 hL;obtain rfl:b=b':=by rw[hb]at h1;cases h1;rfl
 have hm:Step (fun q=>w0.heap.size≤q) X X':=hs.mono fun _ _ e=>by rw[e];exact h2
 exact{h with
  st:=h.st.then hs (fun i hi e=>by omega)
  p7:=fun e=>let⟨cs,h1,h2⟩:=h.p7 e;⟨cs,h1,hF.1 _ _ _ hm h2⟩
  p8:=fun e=>let⟨cs,h1,h2⟩:=h.p8 e;⟨cs,h1,hF.1 _ _ _ hm h2⟩
  p9:=fun e=>let⟨cs,h1,h2⟩:=h.p9 e;⟨cs,h1,hF.1 _ _ _ hm h2⟩
  p11:=fun _=>⟨b,cs.toArray,hb,h2,by rw[List.size_toArray];exact(hF.2 _ _ hcs).1,hX,fun _=>⟨cs,rfl,hF.1 _ _ _ hm hcs⟩⟩
  q12:=fun _=>hL}
end
def F6 (w:World) (base:Nat) (v:Value) (l:List ByteArray):Prop:=∃(g o c:Nat) (cur:Array Value),v=.slice (some ⟨g,o,none⟩) l.length c∧base≤g∧w.heap[g]?=some (.cells cur 9 (0,0))∧l.length≤c∧o+c≤cur.size∧c≤maxLen∧∀(i:Nat) x,l[i]?=some x→cur[o+i]?=some (.string x)
theorem F6.keep {w w':World} {S:Nat→Prop} {base:Nat} {v:Value} {l:List ByteArray} (h:F6 w base v l) (hs:Step S w w') (hn:∀q,v.ownBlock=some q→¬S q):F6 w' base v l:=by obtain⟨g,o,c,cur,rfl,h1,h2,h3⟩:=h;exact⟨g,o,c,cur,rfl,h1,hs.keep h2 (hn g rfl),h3⟩
theorem F6.lt {w:World} {base:Nat} {v:Value} {l:List ByteArray} (h:F6 w base v l):∀q,v.ownBlock=some q→base≤q∧q<w.heap.size:=by obtain⟨g,o,c,cur,rfl,h1,h2,h3⟩:=h;intro q hq;cases hq;exact⟨h1,aI h2⟩
theorem F6.fA {w:World} {base:Nat} {v:Value} {l:List ByteArray} (h:w.ownsRow base 9 1 v l.length (mJ l)) (hl:0<l.length):F6 w base v l:=by
 obtain⟨h0,h|⟨g,cap,cur,rfl,h1,h2,h3,h4,h5,h6⟩⟩:=h
 ·exact absurd h.2 om
 ·refine⟨g,0,cap,cur,rfl,h1,h2,h3,by omega,h4,fun i x hx=> ?_⟩;have h7:=qU l i x hx;rw[←mJ,←h6,List.getElem?_take]at h7;split at h7
  ·rw[Nat.zero_add,←Array.getElem?_toList];exact h7
  ·cases h7
theorem F6.first {w:World} {base:Nat} {v:Value} {t:ByteArray} {r:List ByteArray} (h:F6 w base v (t::r)):∃(g o c:Nat),v=.slice (some ⟨g,o,none⟩) (r.length+1) c∧w.cell? ⟨g,o,none⟩=some (.string t)∧0<c∧r.length+1≤c∧F6 w base (.slice (some ⟨g,o+1,none⟩) r.length (c-1)) r:=by obtain⟨g,o,c,cur,rfl,h1,h2,h3,h4,h5,h6⟩:=h;simp only[List.length_cons]at h3;refine⟨g,o,c,rfl,aj h2 o _ (h6 0 t rfl),by omega,h3,g,o+1,c-1,cur,rfl,h1,h2,by omega,by omega,by omega,fun i x hx=> ?_⟩;have:=h6 (i+1) x hx;rw[show o+1+i=o+(i+1) by omega];exact this
theorem setCells_one (w:World) (b o:Nat) (x:Value):w.setCells b o [x]=w.setCell ⟨b,o,none⟩ x:=by simp[World.setCells]
theorem F6.room {w:World} {base g o n c:Nat} {l:List ByteArray} {s:ByteArray} (h:F6 w base (.slice (some ⟨g,o,none⟩) n c) l) (hn:n=l.length) (hc:n+1≤c):F6 (w.setCell ⟨g,o+n,none⟩ (.string s)) base (.slice (some ⟨g,o,none⟩) (n+1) c) (l++[s]):=by
 obtain⟨g',o',c',cur,hv,h1,h2,h3,h4,h5,h6⟩:=h;cases hv;refine⟨g,o,c,_,by rw[List.length_append,List.length_singleton],h1,aV h2 _ _,by simp;omega,by simpa using h4,h5,fun i x hx=> ?_⟩;by_cases hi:i<l.length
 ·rw[List.getElem?_append_left hi]at hx;rw[Array.getElem?_setIfInBounds_ne om];exact h6 i x hx
 ·obtain rfl:i=l.length:=by have:=(List.getElem?_eq_some_iff.1 hx).1;simp at this;omega
  rw[List.getElem?_append_right (Nat.le_refl _),Nat.sub_self]at hx;cases hx;rw[Array.getElem?_setIfInBounds_self_of_lt om]
theorem ownsRow_setCell_other {w:World} {base:Nat} {e:TypeId} {size:Nat} {v u:Value} {n:Nat} {xs:List Value} {a:Addr} (h:w.ownsRow base e size v n xs) (hn:v.ownBlock≠some a.block):(w.setCell a u).ownsRow base e size v n xs:=by
 obtain⟨h0,h|⟨g,cap,cur,rfl,h1,h2,h3⟩⟩:=h
 ·exact⟨h0,.inl h⟩
 ·exact⟨h0,.inr ⟨g,cap,cur,rfl,h1,((Step.refl (fun q=>q=a.block) w).setCell a u iI).keep h2 (fun e=>hn (by rw[←e];rfl)),h3⟩⟩
structure sO (w0 X:World) (vo vt:Value) (out todo:List ByteArray):Prop where
 st:Step (fun _=>False) w0 X
 out:X.ownsRow w0.heap.size 9 1 vo out.length (mJ out)
 todo:F6 X w0.heap.size vt todo
 ne:∀q,vo.ownBlock=some q→vt.ownBlock≠some q
section
variable {w0 X X' : World} {vo vt v6 : Value} {out todo : List ByteArray} {s : ByteArray}
theorem sO.quiet (h:sO w0 X vo vt out todo) (hs:Step (fun _=>False) X X'):sO w0 X' vo vt out todo:=
 ⟨h.st.trans hs,hs.owns h.out (fun _ _ h=>h),h.todo.keep hs (fun _ _ h=>h),h.ne⟩
theorem sO.Um (h:sO w0 X vo vt out todo) (hown:X'.ownsRow w0.heap.size 9 1 v6 (out.length+1) (mJ out++[.string s])) (hgrow:X.grownBy X' vo.ownBlock) (hat:v6.ownBlock=vo.ownBlock∨v6.ownBlock=some X.heap.size):sO w0 X' v6 vt (out++[s]) todo where
 st:=h.st.then (bM hgrow) (fun i hi e=>by have:=(h.out.lt i e).1;omega)
 out:=by rw[List.length_append,Ar];exact hown
 todo:=h.todo.keep (bM hgrow) (fun q hq e=>h.ne q e hq)
 ne:=fun q hq e=>by
  rcases hat with h1|h1
  ·
   exact h.ne q (h1▸hq) e
  ·
   rw[h1]at hq;cases hq;exact absurd (h.todo.lt _ e).2 (Nat.lt_irrefl _)
theorem sO.room {g o n c:Nat} (h:sO w0 X vo (.slice (some ⟨g,o,none⟩) n c) out todo) (hn:n=todo.length) (hc:n+1≤c):sO w0 (X.setCell ⟨g,o+n,none⟩ (.string s)) vo (.slice (some ⟨g,o,none⟩) (n+1) c) out (todo++[s]):=
 have hs:Step (fun q=>q=g) X (X.setCell ⟨g,o+n,none⟩ (.string s)):=bJ.setCell _ _ iI
 {st:=h.st.then hs (fun i hi e=>by have:=(h.todo.lt g rfl).1;omega)
  out:=ownsRow_setCell_other h.out (fun e=>h.ne g e rfl)
  todo:=h.todo.room hn hc
  ne:=h.ne}
theorem sO.grow (h:sO w0 X vo vt out todo) (hown:X'.ownsRow X.heap.size 9 1 v6 (todo.length+1) (mJ todo++[.string s])) (hgrow:X.grownBy X' none):sO w0 X' vo v6 out (todo++[s]):=
 have hs:Step (fun _=>False) X X':=(bM hgrow).mono (fun _ _ h=>nomatch h)
 {st:=h.st.trans hs
  out:=hs.owns h.out (fun _ _ h=>h)
  todo:=F6.fA (by rw[List.length_append,Ar];exact rP hown h.st.size) (by simp)
  ne:=fun q hq e=>by have h1:=(h.out.lt q hq).2;have h2:=(hown.lt q e).1;omega}
end
end Go.Proofs.YtppekkbaoimpgaaGreat
