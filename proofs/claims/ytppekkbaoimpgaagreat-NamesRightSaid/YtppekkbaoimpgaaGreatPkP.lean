import Derived.Test.YtppekkbaoimpgaaGreatPkO
import Derived.ArgAppend
set_option maxRecDepth 100000
set_option maxHeartbeats 80000000
namespace Go.Proofs.YtppekkbaoimpgaaGreat
open Go.RowKit
open Vt
def mtE (T:Tab) (g:Gn) (d:List Mt) (m:Mt):List Er:=
 (if d.any (fun y=>eqS y.name m.name)then[(4,m.line,m.col)]else[])++(sW m.line m.col [] (g.aB++m.aB)++((if m.life.size=0 then[]else jI (g.aB++m.aB) m.life m.line m.col)++
  (lU T ⟨g.aB++m.aB,g.types,true⟩ [] m.params++(BL T ⟨g.aB++m.aB,g.types,true⟩ m.ret++Ap T ⟨g.aB++m.aB,[],false⟩ m.wh))))
def pI (T:Tab) (g:Gn):List Mt→List Mt→List Er
 |_,[]=>[]
 |d,m::r=>mtE T g d m++pI T g (d++[m]) r
theorem mtsE_at {T:Tab} {g:Gn} {l:List Mt} {k:Nat} {x:Mt} (h:l[k]?=some x):pI T g (l.take k) (l.drop k)=mtE T g (l.take k) x++pI T g (l.take (k+1)) (l.drop (k+1)):=by obtain⟨hk,rfl⟩:=List.getElem?_eq_some_iff.1 h;rw[List.drop_eq_getElem_cons hk,pI,List.take_succ_eq_append_getElem hk]
def MtFit (m:Mt):Prop:=(∀p∈m.params,mF p.ty)∧mF m.ret∧m.aB.length≤8
theorem bV.eu {w:World} {P:Nat→Prop} {base:Nat} {v:Value} {l:List ByteArray} (h:w.ownsRow base 9 1 v l.length (l.map .string)) (hs:∀s∈l,s.size≤9223372036854775807) (hp:∀k,v.ownBlock=some k→P k):bV w P l v:=⟨hs,cu.eu h hp⟩
structure CaJ (w0:World) (u0 u1 u3 u4:Value) (n m:Nat) (xs ys:List Value) (L:Nat→Bool) (V:Nat→Value) (X:World):Prop where
 st:StF w0 X
 p0:L 0=true→V 0=u0
 p1:L 1=true→V 1=u1
 p2:L 2=true→L 5=false→X.ownsRow w0.heap.size 9 1 (V 2) n xs
 p3:L 3=true→V 3=u3
 p4:L 4=true→V 4=u4
 p5:L 5=true→X.ownsRow w0.heap.size 9 1 (V 5) (n+m) (xs++ys)
 p6:L 6=true→V 6=V 5
 q5:L 5=true→L 2=true
 q6:L 6=true→L 5=true
theorem CaJ.zero {w0 X:World} {u0 u1 u3 u4:Value} {n m:Nat} {xs ys:List Value} (h:StF w0 X):CaJ w0 u0 u1 u3 u4 n m xs ys (fun _=>false) (fun _=>undef) X:=
 ⟨h,gQ,gQ,gQ,gQ,gQ,gQ,gQ,gQ,gQ⟩
theorem BO {IM:World→Nat→(ByteArray→ByteArray→Option Nat)→Prop} (him:x_ IM) (cb tb:Nat) (T:Tab) (it:It) (gg:Gn) (cs:List Value) (ug:Value) (es:List Er) (v:Value) (w:World) (hfit:∀m∈it.methods,MtFit m) (hgf:gg.aB.length≤8) (h:mQ cb (.pointer (some ⟨tb,0,none⟩)) (TabAt IM tb T) w v es) (hit:lm w (Out cb v w) it cs) (hg:QX w (Out cb v w) gg ug) (hb:(es++pI T gg [] it.methods).length≤1000000000):Calls Tryz.prog 100 #[.pointer (some ⟨cb,0,none⟩),.agg cs.toArray,ug] w (ny cb (.pointer (some ⟨tb,0,none⟩)) (TabAt IM tb T) w v (es++pI T gg [] it.methods)):=by
 have sK:=au hfit;have Xg:=au hgf;obtain⟨a1,c1,a2,c2,rfl,hg1,hg2⟩:=hg;obtain⟨vl,vt,vf,vw,vm,ct,⟨-,-,-,-,-,-,-,qP,-,-⟩,⟨-,-,-,-,hms⟩,-⟩:=hit.get;obtain⟨al,cl,rfl⟩:=hms.parts;obtain⟨l,hl⟩:=aN it.methods;rw[←hl]at qP hms sK hb⊢;have HC15:=au qP;have hmf:∀(fn:Fn) (first cap:Array Value) (w:World),(Instr.makeFunc fn first cap).run Tryz.prog w=.ok (.func fn first cap) w:=fun _ _ _ _=>by kernel_rfl
 obtain⟨w1,hw1⟩:=aN ((w.alloc (.cells cs.toArray 51)).alloc (.cells #[.slice a1 gg.aB.length c1,.slice a2 gg.types.length c2] 42));have HST:=nT hw1
 have HB0:=nC hw1
 have HB1:=nD hw1
 have HW1:=au hw1;have qm:=au (h.quiet HST.o);have HL:=au ((bH dh).mv (Mv.quiet HST.o) hms);have IL:=au (aX.mv (Mv.quiet HST.o) hg1);have HG2:=au (aX.mv (Mv.quiet HST.o) hg2);have Jf:=au (h.new (w':=w1) (k:=w.heap.size) (Nat.le_refl _) (aK HB0.o));have Nz:=au (h.new (w':=w1) (k:=w.heap.size+1) (Nat.le_succ _) (aK HB1.o));obtain⟨tot,ht⟩:=aN (es++pI T gg [] l);rw[←ht]at hb⊢;have HT:=au ht;have d15:=aj HB0.o 15 _ (by rw[List.getElem?_toArray];exact qP);clear h hw1 hl ht hfit hgf hit hg1 hg2 hms qP;go_enter Tryz.func100,Tryz.ntmps100;go_upto_region 1 with fail
 rw[←HW1.o];go_wp2_with fail;clear d15;go_loopg [6,7,8,9,13] l.length (fun g9 _ _ _ _ s13 wr=>∃(k:Nat) (cur:List Er) (v1:Value),s13=.int .i64 k∧k≤l.length∧l.length-k≤g9∧mQ cb (.pointer (some ⟨tb,0,none⟩)) (TabAt IM tb T) wr v1 cur∧Mv cb w1 v wr v1∧cur++pI T gg (l.take k) (l.drop k)=tot);case atStart=>exact⟨0,es,v,rfl,Nat.zero_le _,by omega,qm.o,Mv.refl _ _ _,HT.o.symm⟩
 case round=>
  obtain⟨k,cur,v1,rfl,hk,hgg,hc,hm,he⟩:=hrel;have HC:=au hc;have HM:=au hm;have HE:=au he;clear hc hm he;by_cases hlt:k<l.length
  ·obtain⟨m,hx⟩:∃m,l[k]?=some m:=⟨l[k],List.getElem?_eq_getElem hlt⟩;have hlq:=(bH dh).mv HM.o HL.o;have LH:=au (ig.take dh hlq k hk om);obtain⟨xs,⟨a',c',hva,hcl,hcm,-,hra⟩,hls⟩:=hlq;(obtain⟨rfl,rfl⟩:al=a'∧cl=c':=by cases hva;exact⟨rfl,rfl⟩);obtain⟨g,o,rfl,hg,hgw,hcell⟩:=hra om;obtain⟨cm,hat,hget⟩:=oG.get dh k hls hx;(have iD:Hid (∀(jj:Nat) v,cm[jj]?=some v→wr.cell? ⟨g,o+k*17+jj,none⟩=some v):=by intro jj v hv;rw[Nat.add_assoc];exact hcell _ _ (hget jj v hv));(have lq:Hid ((Tryz.prog.info? 105).map (·.size)=some cm.length):=by rw[dh.len _ _ hat];exact Tryz.gV);have KO:=au (dh.len _ _ hat);have Eh:=au (dh.one _ _ hat);obtain⟨w3,hw3⟩:=aN (wr.alloc (.cells cm.toArray 105));(have fK:Hid (StF wr w3):=by rw[hw3];exact bK.alloc _);(have HB3:Hid (w3.heap[wr.heap.size]?=some (.cells cm.toArray 105 (0,0))):=by rw[hw3];exact aC _ _);have HW3:=au hw3;have QY:=au (HC.o.new (k:=wr.heap.size) (Nat.le_refl _) (aK HB3.o));have qV:=au (HM.o.then fK.o);have uF:=au (HC.o.quiet fK.o);obtain⟨vml,vmp,vmw,cty,⟨hc0,hc1,-,hc3,hc4,hc13,hc16,hc17⟩,⟨hq1,hq2,hq3⟩,hty,hct,hnsz⟩:=hat.get;obtain⟨al1,cl1,rfl⟩:=hq1.2.parts;obtain⟨al2,cl2,rfl⟩:=hq2.parts;obtain⟨al3,cl3,rfl⟩:=hq3.parts;have HML:=au (aX.mv (Mv.quiet fK.o) hq1);have HMP:=au ((bH fH).mv (Mv.quiet fK.o) hq2);have HMW:=au ((bH fP).mv (Mv.quiet fK.o) hq3);have G_:Hid (CP w3 (Out cb v1 w3) m.ret (.agg cty.toArray)):=⟨cty,rfl,iC.mono (fun q _ hq=>(Mv.quiet fK.o).out hq) _ _ (iC.step fK.o (fun _ _ h=>h) _ _ hty)⟩;have QZ:=au hct;have Dl:=au hty.len;have HCM:Hid (cm[0]?=some (.string m.name)∧cm[1]?=some (.slice al1 m.aB.length cl1)∧cm[3]?=some (.string m.life)∧cm[4]?=some (.slice al2 m.params.length cl2)∧cm[13]?=some (.slice al3 m.wh.length cl3)∧cm[15]?=some (.int .i64 m.line)∧cm[16]?=some (.int .i64 m.col)):=⟨hc0,hc1,hc3,hc4,hc13,hc16,hc17⟩;(have qF:Hid (∀(X:World) (vx:Value),Mv cb w3 v1 X vx→∀(j:Nat) u,cm[j]?=some u→X.cell? ⟨wr.heap.size,j,none⟩=some u):=by intro X vx hX j u hu;exact aj (hX.keep HB3.o QY.o) j u (by rw[List.getElem?_toArray];exact hu));have Uf:=au (sK.o m (List.mem_of_getElem? hx));have Xj:Hid (Calls Tryz.prog 151 #[.slice (some ⟨g,o,none⟩) k cl,.func (.func 152) #[] #[.pointer (some ⟨wr.heap.size,0,none⟩)]] w3 fun e w'=>e=.returned (.bool ((l.take k).any (fun y=>eqS y.name m.name)))∧StF w3 w'):=
    Iu _ _ (Out cb v1 wr) _ _ _ _ Du ((bH dh).step _ _ fK.o (fun _ _ h=>h) LH.o) (fun y _ cy w' hw hy=>Iw m.name wr.heap.size y cy _ w' (aj (hw.keep HB3.o (fun h=>h)) 0 _ (by rw[List.getElem?_toArray];exact HCM.o.1)) hy)
   obtain⟨bc,hbc⟩:=aN ((l.take k).any (fun y=>eqS y.name m.name));obtain⟨E1,hE1⟩:=aN (if bc then[(4,m.line,m.col)]else[]:List Er);have CQ:=au hE1;obtain⟨ls,Qa⟩:=aN (gg.aB++m.aB);obtain⟨rest,hrest⟩:=aN (pI T gg (l.take (k+1)) (l.drop (k+1)));obtain⟨E3,hE3⟩:=aN (if m.life.size=0 then[]else jI ls m.life m.line m.col:List Er);have mY:=au hE3;(have IW:Hid ((cur++E1)++(sW m.line m.col [] ls++(E3++(lU T ⟨ls,gg.types,true⟩ [] m.params++(BL T ⟨ls,gg.types,true⟩ m.ret++(Ap T ⟨ls,[],false⟩ m.wh++rest)))))=tot):=by show _=_;have:=HE.o;rw[mtsE_at hx,←hrest,mtE,←hbc,←hE1,←Qa,←hE3]at this;simpa only[List.append_assoc]using this);have Xk:=au hrest;have QG:=au Qa;rw[←hbc]at Xj;(have hlb:l.length≤9223372036854775807:=by omega);(have hkc:k≤cl:=by omega);(have Zh:(k:Int)≤(cl:Int):=by omega);have d15:=aj (qV.o.keep HB0.o Jf.o) 15 _ (by rw[List.getElem?_toArray];exact HC15.o);clear hcell hx hva hcl hcm hra hg hgw hls hget hat hw3 hc0 hc1 hc3 hc4 hc13 hc16 hc17 hq1 hq2 hq3 hty hct hbc hE1 Qa hrest hE3 hnsz;go_wp2_with (first
    |(refine aA rfl 105 (.tmp 16) rfl g (o+k*17) rfl cm _ iD.o Tryz.underlying105 rfl lq.o ?_)
    |(refine bT rfl 105 (.tmp 7) (.tmp 17) rfl _ cm rfl rfl lq.o (by rw[KO.o];rfl) Eh.o ?_;rw[←HW3.o]))
   refine Xj.o.mono ?_;rintro e w4 ⟨rfl,h4⟩;have Ip:=au (uF.o.quiet h4);have KN:=au (Mv.quiet (cb:=cb) (v:=v1) h4);clear h4 d15 hkc Zh;(go_upto_if 23 with fail);go_cut [] (fun wx=>∃v5:Value,mQ cb (.pointer (some ⟨tb,0,none⟩)) (TabAt IM tb T) wx v5 (cur++E1)∧Mv cb w3 v1 wx v5);case first=>
    cases bc with
    |true=>have e9:=qF.o _ _ KN.o 15 _ HCM.o.2.2.2.2.2.1;have e10:=qF.o _ _ KN.o 16 _ HCM.o.2.2.2.2.2.2;go_wp2_with fail;refine(fB cb _ _ 4 m.line m.col cur v1 _ Ip.o (dL HE.o hb)).mono ?_;rintro e w5 ⟨rfl,v5,h5,g5⟩;have wH:=au h5;have Eo:=au (KN.o.trans g5);clear h5 g5 e9 e10;go_wp2_with fail;go_meet;case rel=>exact⟨v5,by simpa[CQ.o]using wH.o,Eo.o⟩
    |false=>go_wp2_with fail;go_meet;case rel=>exact⟨v1,by simpa[CQ.o]using Ip.o,KN.o⟩
   case rest=>
    obtain⟨v5,h5,g5⟩:=hcut;obtain⟨w5,rfl⟩:=aN wc;have wH:=au h5;have P8:=au g5;have Xo:=au (qV.o.trans g5);clear h5 g5;(go_upto_region 6 with fail);have HG1m:=au (aX.mv Xo.o IL.o);have HMLm:=au (aX.mv P8.o HML.o);(have HLL:Hid (ls.length=gg.aB.length+m.aB.length):=by show _=_;rw[QG.o,List.length_append]);(have HCLN:Hid (∀X,StF w5 X→Calls Tryz.prog 153 #[.slice a1 gg.aB.length c1] X fun e w'=>(∃v':Value,e=.returned v'∧w'.ownsRow X.heap.size 9 1 v' gg.aB.length (gg.aB.map .string))∧StF X w'):=by intro X hX;exact NE _ _ _ _ X (HG1m.o.2.step hX (fun _ _ h=>h)) (by have:=Xg.o;omega) (by simp) (Ac _));(have Ib:Hid (∀X,StF w5 X→X.cell? ⟨w.heap.size+1,0,none⟩=some (.slice a1 gg.aB.length c1)∧X.cell? ⟨wr.heap.size,1,none⟩=some (.slice al1 m.aB.length cl1)):=by intro X hX;exact⟨aj (hX.keep (Xo.o.keep HB1.o Nz.o) (fun h=>h)) 0 _ rfl,hX.cell (qF.o _ _ P8.o 1 _ HCM.o.2.1) (fun h=>h)⟩);go_cut [8] (fun s8 wx=>wx.ownsRow w5.heap.size 9 1 s8 ls.length (ls.map .string)∧StF w5 wx);case first=>
     obtain⟨i0,hi0,hz0,hz1,hz2⟩:=info_parts Tryz.qE;have HI:=au hi0;have HZ0:=au hz0;have HZ1:=au hz1;have HZ2:=au hz2;clear hi0 hz0 hz1 hz2;refine kP kr (CaJ w5 (.pointer (some ⟨w.heap.size+1,0,none⟩)) (.slice a1 gg.aB.length c1) (.pointer (some ⟨wr.heap.size,1,none⟩)) (.slice al1 m.aB.length cl1) gg.aB.length m.aB.length (gg.aB.map .string) (m.aB.map .string)) 7 rfl kr kr kr kr ?h0 ?hs ?hdone;case h0=>exact CaJ.zero (bK.drew)
     case hs=>
      refine⟨?_,?_,?_,?_,?_,?_,?_,trivial⟩
      ·intro L V X a ev dG hL ax hJ;have o5:=dG 5 rfl;change a.tmps[5]?.getD undef=.pointer (some ⟨w.heap.size+1,0,none⟩)at o5;go_simp;exact⟨_,rfl,{hJ with p0:=fun _=>rfl}⟩
      ·intro L V X a ev dG hL ax hJ;have e28:=(ev 0 28 rfl (ax 0 rfl)).trans (hJ.p0 (ax 0 rfl));obtain⟨k1,k2⟩:=Ib.o X hJ.st;go_simp;exact⟨_,rfl,{hJ with p1:=fun _=>rfl}⟩
      ·intro L V X a ev dG hL ax hJ;have e29:=(ev 1 29 rfl (ax 1 rfl)).trans (hJ.p1 (ax 1 rfl));have hL5:L 5=false:=by
        cases e:L 5 with
        |false=>rfl
        |true=>rw[hJ.q5 e]at hL;cases hL
       go_simp;refine(HCLN.o X hJ.st).mono ?_;rintro e w6 ⟨⟨v6,rfl,hown⟩,h6⟩;exact⟨_,rfl,{hJ with st:=hJ.st.trans h6,p2:=fun _ _=>pO hown hJ.st.size,p5:=(fun e=>by rw[show dO L 2 5=L 5 from rfl,hL5]at e;cases e),q5:=fun _=>rfl}⟩
      ·intro L V X a ev dG hL ax hJ;have o7:=dG 7 rfl;change a.tmps[7]?.getD undef=.pointer (some ⟨wr.heap.size,0,none⟩)at o7;go_simp;exact⟨_,rfl,{hJ with p3:=fun _=>rfl}⟩
      ·intro L V X a ev dG hL ax hJ;have e31:=(ev 3 31 rfl (ax 3 rfl)).trans (hJ.p3 (ax 3 rfl));obtain⟨k1,k2⟩:=Ib.o X hJ.st;go_simp;exact⟨_,rfl,{hJ with p4:=fun _=>rfl}⟩
      ·intro L V X a ev dG hL ax hJ;have e30:=ev 2 30 rfl (ax 2 rfl);have e32:=(ev 4 32 rfl (ax 4 rfl)).trans (hJ.p4 (ax 4 rfl));have hon:=hJ.p2 (ax 2 rfl) hL;have hrow:Row X X.heap.size (.slice al1 m.aB.length cl1) m.aB.length (m.aB.map .string):=(HMLm.o.2.step hJ.st (fun _ _ h=>h)).row (fun _ h _=>h);have hgf:=Xg.o;have hmf8:=Uf.o.2.2;refine f_ _ X.heap.size (.tmp 30) (.tmp 32) 40 rfl w5.heap.size 9 i0 (.string ⟨#[]⟩) 1 16 Tryz.underlying40 HI.o HZ0.o HZ1.o HZ2.o rfl dc (V 2) gg.aB.length _ (by rw[bM];exact e30) hon _ m.aB.length _ (by rw[bM];exact e32) hrow (by simp) (Ac _) (by unfold maxLen;omega) om hJ.st.size ?_;intro v7 w7 hown hgrow hat;exact⟨v7,rfl,{hJ with st:=hJ.st.then (bQ hgrow) (fun i hi e=>by have:=(hon.lt i e).1;omega),p2:=(fun _ e=>by rw[show dO L 5 5=true from rfl]at e;cases e),p5:=fun _=>hown,p6:=(fun e=>by rw[show dO L 5 6=L 6 from rfl]at e;exact absurd e (by have:=hJ.q6;intro e2;have h3:=this e2;rw[hL]at h3;cases h3)),q5:=fun _=>ax 2 rfl,q6:=fun _=>rfl}⟩
      ·intro L V X a ev dG hL ax hJ;have e33:=ev 5 33 rfl (ax 5 rfl);obtain⟨va,vb,hv5⟩:=aV (hJ.p5 (ax 5 rfl));rw[hv5]at e33;go_simp;exact⟨_,rfl,{hJ with p6:=fun _=>hv5.symm,q6:=fun _=>ax 5 rfl}⟩
     case hdone=>intro L V X hall hJ;have h5:=hJ.p5 (hall 5 dc);have h6:=hJ.p6 (hall 6 dc);have hst:=hJ.st;rw[show List.range 7=[0,1,2,3,4,5,6] from rfl];simp only[kJ,fO,gsQ,o9];go_wp2_with fail;go_meet;case rel=>exact⟨by rw[HLL.o,QG.o,List.map_append];first|(rw[h6];exact h5)|simpa only[h6]using h5,hst⟩
    case rest=>
     obtain⟨hown,hst⟩:=hcut;obtain⟨w6,rfl⟩:=aN wc;have kC:Hid (∀x∈ls,x.size≤9223372036854775807):=by
      rw[QG.o];intro x hx;rcases List.mem_append.1 hx with hx|hx
      ·exact IL.o.1 x hx
      ·exact HML.o.1 x hx
     have Hf:=au (wH.o.quiet hst);have HM56:=au (Mv.quiet (cb:=cb) (v:=v5) hst);have HM36:=au (P8.o.trans HM56.o);obtain⟨va,vc,rfl⟩:=aV hown;have HALL:Hid (bV w6 (Out cb v5 w6) ls (.slice va ls.length vc)):=bV.eu hown kC.o (fun q hq=>wH.o.new (hown.lt q hq).1 (hown.lt q hq).2);clear hown hst HCLN Ib HG1m HMLm;have HT6:=au (fZ IW.o);have e15:=qF.o _ _ HM36.o 15 _ HCM.o.2.2.2.2.2.1;have e16:=qF.o _ _ HM36.o 16 _ HCM.o.2.2.2.2.2.2;go_wp2_with fail;refine(zW cb _ _ ls _ m.line m.col _ v5 _ Hf.o HALL.o (dL HT6.o hb)).mono ?_;rintro e w7 ⟨rfl,v7,h7,g7⟩;have Xl:=au h7;have HM67:=au g7;have HM37:=au (HM36.o.trans g7);have KP:=au (qV.o.trans HM37.o);clear h7 g7 e15 e16;obtain⟨w8,hw8⟩:=aN (w7.alloc (.cells [Value.slice va ls.length vc,.slice a2 gg.types.length c2,dW true].toArray 138));(have Aj:Hid (StF w7 w8):=by rw[hw8];exact bK.alloc _);(have OA:Hid (w8.heap[w7.heap.size]?=some (.cells [Value.slice va ls.length vc,.slice a2 gg.types.length c2,dW true].toArray 138 (0,0))):=by rw[hw8];exact aC _ _);have HW8:=au hw8;have HO8:=au (Xl.o.new (k:=w7.heap.size) (Nat.le_refl _) (aK OA.o));have Xm:=au (Xl.o.quiet Aj.o);have HM38:=au (HM37.o.then Aj.o);have HALL8:=au (aX.mv (HM67.o.then Aj.o) HALL.o);have HSC8:Hid (IX w8 (Out cb v7 w8) ⟨ls,gg.types,true⟩ (.agg #[.slice va ls.length vc,.slice a2 gg.types.length c2,dW true])):=⟨_,_,_,_,rfl,HALL8.o,aX.mv (KP.o.then Aj.o) HG2.o⟩;have HSN8:Hid (IX w8 (Out cb v7 w8) ⟨ls,[],false⟩ (.agg #[.slice va ls.length vc,ay,aT])):=⟨_,_,_,_,rfl,HALL8.o,bV.nil _ _⟩;have g1:=aj (KP.o.keep HB1.o Nz.o) 1 _ rfl;have e3:w8.cell? ⟨wr.heap.size,3,none⟩=some (.string m.life):=qF.o _ _ HM38.o 3 _ HCM.o.2.2.1;have HT7:=au (fZ HT6.o);clear hw8;(go_upto_region 9 with(refine bT rfl 138 (.tmp 9) (.tmp 42) rfl _ [Value.slice va ls.length vc,.slice a2 gg.types.length c2,.bool true] rfl rfl Tryz.gB rfl (aU rfl) ?_;rw[←HW8.o]));clear g1;obtain⟨c,hcc⟩:=aN ( !(decide (m.life.size=0)):Bool);have vN:=au hcc;have FH:Hid (E3=if c then jI ls m.life m.line m.col else[]):=by
      show _=_;rw[mY.o,hcc];by_cases hz:m.life.size=0
      ·rw[if_pos hz,decide_eq_true hz];rfl
      ·rw[if_neg hz,decide_eq_false hz];rfl
     clear hcc;simp only[Act.put];go_cut [45] (fun s45 wx=>s45=.bool c∧w8=wx);case first=>
      obtain⟨lf,hlf⟩:=aN m.life;rw[←hlf]at e3 vN;clear hlf;by_cases hz:lf.size=0
      ·(have hon:lf=⟨#[]⟩:=by obtain⟨a⟩:=lf;have h2:a.size=0:=hz;rw[Array.eq_empty_of_size_eq_zero h2]);(have he0:lf.toList=[]:=by rw[hon,Lib.toList_data]);(have hcv:c=false:=by rw[vN.o];simp[hz]);clear hz hon;go_wp2_with fail;go_meet;case rel=>exact⟨by rw[hcv],rfl⟩
      ·(have hcv:c=true:=by rw[vN.o];simp[hz]);have he:=jL lf om;have he':=jA lf om;clear hz;go_wp2_with fail;go_meet;case rel=>exact⟨by rw[hcv],rfl⟩
     case rest=>
      obtain⟨rfl,hwx⟩:=hcut;subst hwx;(go_upto_if 45 with fail);go_cut [] (fun wx=>∃v9:Value,mQ cb (.pointer (some ⟨tb,0,none⟩)) (TabAt IM tb T) wx v9 (((cur++E1)++sW m.line m.col [] ls)++E3)∧Mv cb w8 v7 wx v9);case first=>
       cases c with
       |true=>have e15:=qF.o _ _ HM38.o 15 _ HCM.o.2.2.2.2.2.1;have e16:=qF.o _ _ HM38.o 16 _ HCM.o.2.2.2.2.2.2;go_wp2_with (refine aA rfl 138 (.tmp 9) rfl w7.heap.size 0 rfl [.slice va ls.length vc,.slice a2 gg.types.length c2,.bool true] _ (fJ OA.o) Tryz.underlying138 rfl Tryz.gB ?_);refine(rC cb _ _ m.life ⟨ls,gg.types,true⟩ _ m.line m.col _ v7 _ Xm.o HSC8.o (dL HT6.o hb|>fun _=>dL HT7.o hb|>fun h=>by have:=HT7.o;exact dL (List.append_assoc _ _ _▸this) hb)).mono ?_;rintro e w9 ⟨rfl,v9,h9,g9⟩;have BA:=au h9;have UU:=au g9;clear h9 g9 e15 e16 e3;go_wp2_with fail;go_meet;case rel=>exact⟨v9,by simpa[FH.o]using BA.o,UU.o⟩
       |false=>go_wp2_with fail;go_meet;case rel=>exact⟨v7,by simpa[FH.o]using Xm.o,Mv.refl _ _ _⟩
      case rest=>
       obtain⟨v9,h9,g9⟩:=hcut;obtain⟨w9,rfl⟩:=aN wc;have BA:=au h9;have HM89:=au g9;have HM39:=au (HM38.o.trans g9);have HB89:=au (g9.keep OA.o HO8.o);have HT9:=au (fZ HT7.o);clear h9 g9 e3;have e4:=qF.o _ _ HM39.o 4 _ HCM.o.2.2.2.1;go_wp2_with (refine aA rfl 138 (.tmp 9) rfl w7.heap.size 0 rfl [.slice va ls.length vc,.slice a2 gg.types.length c2,.bool true] _ (fJ HB89.o) Tryz.underlying138 rfl Tryz.gB ?_);refine(yt him cb tb T m.params _ _ ⟨ls,gg.types,true⟩ _ v9 _ Uf.o.1 BA.o ((bH fH).mv HM39.o HMP.o) (jk.mv HM89.o HSC8.o) (dL HT9.o hb)).mono ?_;rintro e w10 ⟨rfl,v10,h10,g10⟩;have Gf:=au h10;have HM8A:=au (HM89.o.trans g10);have HM3A:=au (HM39.o.trans g10);have HB8A:=au (HM8A.o.keep OA.o HO8.o);have Xf:=au (fZ HT9.o);(have Ak:Hid (∀(jj:Nat) v,cty[jj]?=some v→w10.cell? ⟨wr.heap.size,5+jj,none⟩=some v):=by intro jj v hv;exact qF.o _ _ HM3A.o _ _ (QZ.o _ _ hv));(have Gh:Hid ((Tryz.prog.info? 46).map (·.size)=some cty.length):=by rw[Dl.o];exact Tryz.eF);clear h10 g10 e4;go_wp2_with (first
        |(refine aA rfl 46 (.tmp 59) rfl wr.heap.size 5 rfl cty _ Ak.o Tryz.underlying46 rfl Gh.o ?_)
        |(refine aA rfl 138 (.tmp 9) rfl w7.heap.size 0 rfl [.slice va ls.length vc,.slice a2 gg.types.length c2,.bool true] _ (fJ HB8A.o) Tryz.underlying138 rfl Tryz.gB ?_))
       refine(NC him cb tb T m.ret _ _ ⟨ls,gg.types,true⟩ _ v10 _ Uf.o.2.1 Gf.o (pY.mv HM3A.o G_.o) (jk.mv HM8A.o HSC8.o) (dL Xf.o hb)).mono ?_;rintro e w11 ⟨rfl,v11,h11,g11⟩;have HC11:=au h11;have HM8B:=au (HM8A.o.trans g11);have HM3B:=au (HM3A.o.trans g11);have HTB:=au (fZ Xf.o);clear h11 g11;have e13:=qF.o _ _ HM3B.o 13 _ HCM.o.2.2.2.2.1;go_wp2_with fail;refine(z_ cb tb T m.wh _ _ ⟨ls,[],false⟩ _ v11 _ HC11.o ((bH fP).mv HM3B.o HMW.o) (jk.mv HM8B.o HSN8.o) (dL HTB.o hb)).mono ?_;rintro e w12 ⟨rfl,v12,h12,g12⟩;have HC12:=au h12;have HM12:=au ((qV.o.trans HM3B.o).trans g12);clear h12 g12 e13;go_wp2_with fail;go_roundg (gk-1);case rel=>exact⟨k+1,_,v12,by go_num,hlt,sbQ hgg,HC12.o,HM12.o,by rw[←Xk.o];exact HTB.o⟩
       case measure=>omega
  ·(have hk2:k=l.length:=by omega);(have Df:Hid (cur=tot):=by show _=_;have:=HE.o;rw[hk2,List.drop_length,pI,List.append_nil]at this;exact this);go_wp2_with fail;refine bodyPost_ret (results_none rfl _ _ _) rfl ?_;exact⟨rfl,v1,Df.o▸HC.o,(Mv.quiet HST.o).trans HM.o⟩
def noMt:Mt:=⟨bZ,[],0,bZ,[],dR,[],[],0,0⟩
abbrev mtZ:List Value:=[.string ⟨#[]⟩,.slice none 0 0,.int .i64 0,.string ⟨#[]⟩,.slice none 0 0,.int .i64 0,.string ⟨#[]⟩,.string ⟨#[]⟩,.bool false,.slice none 0 0,.slice none 0 0,.int .i64 0,.int .i64 0,.slice none 0 0,.slice none 0 0,.int .i64 0,.int .i64 0]
theorem mtZ_at (w:World) (P:Nat→Prop):Bv w P noMt mtZ:=
 ⟨[.int .i64 0,.string ⟨#[]⟩,.string ⟨#[]⟩,.bool false,.slice none 0 0,.slice none 0 0,.int .i64 0,.int .i64 0],_,_,_,_,rfl,by decide,by decide,bV.nil _ _,ig.nil _ _,rY _ _,ig.nil _ _,gX.nil _ _⟩
def yw (l:List Mt) (s:ByteArray):Option Mt:=l.find? fun m=>eqS m.name s
theorem NG (l:List Mt) (s:ByteArray):(yw l s=none∧pq (fun m=>eqS m.name s) l= -1)∨∃(i:Nat) (m:Mt),yw l s=some m∧pq (fun m=>eqS m.name s) l=i∧l[i]?=some m:=by
 unfold yw pq;cases h:l.findIdx? (fun m=>eqS m.name s)with
 |none=>exact .inl ⟨List.find?_eq_none.2 (fun x hx=>by rw[List.findIdx?_eq_none_iff.1 h x hx];decide),rfl⟩
 |some i=>obtain⟨hi,hp,hn⟩:=List.findIdx?_eq_some_iff_getElem.1 h;exact .inr ⟨i,l[i],List.find?_eq_some_iff_getElem.2 ⟨hp,i,hi,rfl,fun j hj=>by have:=hn j hj;simpa using this⟩,rfl,List.getElem?_eq_getElem hi⟩
def EH (P:Nat→Prop) (l:List Mt) (s:ByteArray) (w:World) (e:Ending) (w':World):Prop:=
 (∃cs:List Value,e=.returned (.tuple #[.agg cs.toArray,dW (yw l s).isSome])∧Bv w' P ((yw l s).getD noMt) cs)∧StF w w'
theorem D9 (P:Nat→Prop) (it:It) (cs:List Value) (s:ByteArray) (w:World) (hit:lm w P it cs) (hP:∀k,P k→k<w.heap.size):Calls Tryz.prog 154 #[.agg cs.toArray,.string s] w (EH P it.methods s w):=by
 obtain⟨vl,vt,vf,vw,vm,ct,⟨-,-,-,-,-,-,-,qP,-,-⟩,⟨-,-,-,-,hms⟩,-⟩:=hit.get;obtain⟨al,cl,rfl⟩:=hms.parts;obtain⟨l,hl⟩:=aN it.methods;rw[←hl]at qP hms⊢;have hmf:∀(fn:Fn) (first cap:Array Value) (w:World),(Instr.makeFunc fn first cap).run Tryz.prog w=.ok (.func fn first cap) w:=fun _ _ _ _=>by kernel_rfl
 obtain⟨w1,hw1⟩:=aN (((w.alloc (.cells cs.toArray 51)).alloc (.cells #[a_ s] 9)).alloc (.cells mtZ.toArray 105));have HST:Hid (StF w w1):=by rw[hw1];exact((bK.alloc _).alloc _).alloc _
 have HB0:Hid (w1.heap[w.heap.size]?=some (.cells cs.toArray 51 (0,0))):=by rw[hw1];exact aP (aP (aC _ _))
 have HB1:Hid (w1.heap[w.heap.size+1]?=some (.cells #[a_ s] 9 (0,0))):=by rw[hw1];exact aP (dY _ _ _)
 have HB2:Hid (w1.heap[w.heap.size+1+1]?=some (.cells mtZ.toArray 105 (0,0))):=by show _=_;rw[hw1];have:=aC ((w.alloc (.cells cs.toArray 51)).alloc (.cells #[a_ s] 9)) (.cells mtZ.toArray 105);simpa using this
 have HW1:=au hw1;have HL:=au ((bH dh).step _ _ HST.o (fun _ _ h=>h) hms);have HP:=au hP;have Ox:Hid (Calls Tryz.prog 189 #[.slice al l.length cl,.func (.func 190) #[] #[.pointer (some ⟨w.heap.size+1,0,none⟩)]] w1 fun e w'=>e=.returned (.int .i64 (pq (fun m=>eqS m.name s) l))∧StF w1 w'):=
  Gg _ _ P _ _ _ _ Es HL.o (fun y _ cy w' hw hy=>KL s (w.heap.size+1) y cy P w' (hw.cell (aj HB1.o 0 _ rfl) (fun h=>h)) hy)
 have d15:=aj HB0.o 15 _ (by rw[List.getElem?_toArray];exact qP);have HC15:=au qP;obtain⟨ix,hix⟩:=aN (pq (fun m=>eqS m.name s) l);rw[←hix]at Ox;have Uf:=NG l s;rw[←hix]at Uf;obtain⟨r,hr⟩:=aN (yw l s);rw[←hr]at Uf;have HR:=au hr;have Uf:=au Uf;have hlt:=aK HB2.o;have HPO:Hid (∀(cm:List Value) (X:World),Bv w1 P (r.getD noMt) cm→Step (·=w.heap.size+1+1) w1 X→EH P l s w (.returned (.tuple #[.agg cm.toArray,dW r.isSome])) X):=by intro cm X h1 h2;refine⟨⟨cm,by rw[←hr],?_⟩,HST.o.then h2 (fun i hi e=>by omega)⟩;rw[←hr];exact dh.step _ _ h2 (fun k hk e=>by have:=HP.o k hk;omega) h1
 clear hw1 hl hit hms qP hix hr hP;go_enter Tryz.func154,Tryz.ntmps154;go_upto_region 1 with fail
 rw[←HW1.o];go_wp2_with fail;refine Ox.o.mono ?_;rintro e w2 ⟨rfl,h2⟩;have HB22:=au (h2.keep HB2.o (fun h=>h));have HS2:=au h2;clear d15;have d15:=aj (h2.keep HB0.o (fun h=>h)) 15 _ (by rw[List.getElem?_toArray];exact HC15.o);clear h2;rcases Uf.o with⟨hn,hi⟩|⟨i,m,hs,hi,hx⟩
 ·have hRN:Hid (r=none):=hn;subst hi;clear hn;go_wp2_with (refine fM rfl 105 (.tmp 4) (.tmp 13) rfl (w.heap.size+1+1) 105 _ mtZ rfl rfl HB22.o Tryz.gV rfl (aU rfl) ?_;intro wR hbR bW);refine bodyPost_ret (gI rfl _ (w.heap.size+1+1) 105 mtZ _ _ rfl rfl hbR Tryz.underlying105 rfl Tryz.gV) rfl ?_;have:=HPO.o mtZ wR (by rw[hRN.out];exact mtZ_at _ _) ((HS2.o.mono fe).trans bW);rw[hRN.out]at this;exact this
 ·obtain⟨xs,⟨a',c',hva,hcl,hcm,-,hra⟩,hls⟩:=(bH dh).step _ _ HS2.o (fun _ _ h=>h) HL.o;obtain⟨rfl,rfl⟩:al=a'∧cl=c':=by cases hva;exact⟨rfl,rfl⟩
  have hil:=(List.getElem?_eq_some_iff.1 hx).1;obtain⟨g,o,rfl,hg,hgw,hcell⟩:=hra om;obtain⟨cm,hat,hget⟩:=oG.get dh i hls hx;have iD:Hid (∀(jj:Nat) v,cm[jj]?=some v→w2.cell? ⟨g,o+i*17+jj,none⟩=some v):=by intro jj v hv;rw[Nat.add_assoc];exact hcell _ _ (hget jj v hv)
  have lq:Hid ((Tryz.prog.info? 105).map (·.size)=some cm.length):=by rw[dh.len _ _ hat];exact Tryz.gV
  have KO:=au (dh.len _ _ hat);have Eh:=au (dh.one _ _ hat);have HRS:Hid (r=some m):=hs;have HAT:=au hat;have hneg:¬(i:Int)<0:=by omega
  subst hi;clear hs hx hva hcl hcm hra hls hg hgw hcell hget hat;go_wp2_with (first
   |(refine aA rfl 105 (.tmp 17) rfl g (o+i*17) rfl cm _ iD.o Tryz.underlying105 rfl lq.o ?_)
   |(refine fM rfl 105 (.tmp 4) (.tmp 18) rfl (w.heap.size+1+1) 105 _ cm rfl rfl HB22.o lq.o (by rw[KO.o];rfl) Eh.o ?_;intro wR hbR bW))
  refine bodyPost_ret (gI rfl _ (w.heap.size+1+1) 105 cm _ _ rfl rfl hbR Tryz.underlying105 rfl lq.o) rfl ?_;refine⟨⟨cm,by rw[←HR.o,HRS.o];rfl,?_⟩,(HST.o.trans HS2.o).then bW (fun i hi e=>by omega)⟩;rw[←HR.o,HRS.o];exact dh.step _ _ bW (fun k hk e=>by have:=HP.o k hk;omega) HAT.o
def NH:List Bd→List Er
 |[]=>[]
 |b::r=>(if 0<b.aB.length then[(8,b.line,b.col)]else[])++NH r
theorem ovE_at {l:List Bd} {k:Nat} {b:Bd} (h:l[k]?=some b):NH (l.drop k)=(if 0<b.aB.length then[(8,b.line,b.col)]else[])++NH (l.drop (k+1)):=by obtain⟨hk,rfl⟩:=List.getElem?_eq_some_iff.1 h;rw[List.drop_eq_getElem_cons hk,NH]
def D_ (tr:It) (m:Mt):List Er:=match yw tr.methods m.name with
 |none=>[(3,m.line,m.col)]
 |some y=>if y.recv≠m.recv∨y.params.length≠m.params.length then[(5,m.line,m.col)]else[]
def BP (tr:It):List Mt→List Er
 |[]=>[]
 |m::r=>D_ tr m++BP tr r
theorem mt1E_at {tr:It} {l:List Mt} {k:Nat} {m:Mt} (h:l[k]?=some m):BP tr (l.drop k)=D_ tr m++BP tr (l.drop (k+1)):=by obtain⟨hk,rfl⟩:=List.getElem?_eq_some_iff.1 h;rw[List.drop_eq_getElem_cons hk,BP]
def yx (x:It):List Mt→List Er
 |[]=>[]
 |m::r=>(if(yw x.methods m.name).isSome then[]else[(3,x.line,x.col)])++yx x r
theorem mt2E_at {x:It} {l:List Mt} {k:Nat} {m:Mt} (h:l[k]?=some m):yx x (l.drop k)=(if(yw x.methods m.name).isSome then[]else[(3,x.line,x.col)])++yx x (l.drop (k+1)):=by obtain⟨hk,rfl⟩:=List.getElem?_eq_some_iff.1 h;rw[List.drop_eq_getElem_cons hk,yx]
def Qb (T:Tab) (x:It):List Er:=match T.get T.tr x.name with
 |none=>[(3,x.line,x.col)]
 |some tr=>BP tr x.methods++yx x tr.methods
def yA (T:Tab) (x:It):List Er:=
 (if lJ x.head||(T.st x.head).isSome then[]else[(3,x.line,x.col)])++(NH x.wh++(Ap T ⟨[],(T.of x.head).types,false⟩ x.wh++(pI T (T.of x.head) [] x.methods++Qb T x)))
theorem xg.mv {α:Type} {El:World→(Nat→Prop)→α→List Value→Prop} {k:Nat} (hE:xg El k) {cb:Nat} {w w':World} {v v':Value} {a:α} {cs:List Value} (h:Mv cb w v w' v') (hx:El w (Out cb v w) a cs):El w' (Out cb v' w') a cs:=
 hE.mono _ _ (fun _ _ hk=>h.out hk) (hE.step _ _ h.st (fun _ hk e=>hk.off e) hx)
structure Gi (x:It):Prop where
 gl:x.gen.aB.length≤8
 fs:∀p∈x.fields,mF p.ty
 rt:mF x.ret
 ms:∀m∈x.methods,MtFit m
theorem Tab.Xp {T:Tab} (h:∀x∈T.items,Gi x) (s:ByteArray):(T.of s).aB.length≤8:=by
 unfold Tab.of;split
 ·decide
 ·cases hg:T.get T.st s with
  |none=>decide
  |some x=>rw[Tab.get]at hg;obtain⟨i,-,hi⟩:=Option.bind_eq_some_iff.1 hg;exact(h x (List.mem_of_getElem? hi)).gl
theorem Jg {w:World} {P:Nat→Prop} {g:Gn} {cs:List Value} (h:QX w P g (.agg cs.toArray)):∃(a1:Option Addr) (c1:Nat) (a2:Option Addr) (c2:Nat),cs=[.slice a1 g.aB.length c1,.slice a2 g.types.length c2]:=by obtain⟨a1,c1,a2,c2,h,-⟩:=h;refine⟨a1,c1,a2,c2,?_⟩;have h2:=Value.agg.inj h;exact List.toArray_inj h2
theorem Uj {IM:World→Nat→(ByteArray→ByteArray→Option Nat)→Prop} (him:x_ IM) (cb tb:Nat) (T:Tab) (it:It) (cs:List Value) (es:List Er) (v:Value) (w:World) (hTf:∀x∈T.items,Gi x) (hfit:Gi it) (h:mQ cb (.pointer (some ⟨tb,0,none⟩)) (TabAt IM tb T) w v es) (hit:lm w (Out cb v w) it cs) (hb:(es++yA T it).length≤1000000000):Calls Tryz.prog 101 #[.pointer (some ⟨cb,0,none⟩),.agg cs.toArray] w (ny cb (.pointer (some ⟨tb,0,none⟩)) (TabAt IM tb T) w v (es++yA T it)):=by
 have sK:=au hfit;have Xg:=au (Tab.Xp hTf it.head);obtain⟨w1,hw1⟩:=aN (w.alloc (.cells cs.toArray 51));have HST:=nS hw1
 have HB0:=nB hw1
 have HW1:=au hw1;have qm:=au (h.quiet HST.o);have HIT:Hid (lm w1 (Out cb v w1) it cs):=aQ.mono _ _ (fun _ _ hk=>(Mv.quiet HST.o).out hk) (aQ.step _ _ HST.o (fun _ _ h=>h) hit);have Jf:=au (h.new (w':=w1) (k:=w.heap.size) (Nat.le_refl _) (aK HB0.o));have lq:Hid ((Tryz.prog.info? 51).map (·.size)=some cs.length):=by rw[aQ.len _ _ hit];exact Tryz.dI
 obtain⟨vl,vt,vf,vw,vm,ct,⟨hc0,hc1,hc2,-,-,-,Gj,qP,hc17,hc18⟩,⟨-,-,-,hwh,hms⟩,-,-,hnn,hnh⟩:=HIT.o.get;obtain⟨aw,cw,rfl⟩:=hwh.parts;obtain⟨am,cm,rfl⟩:=hms.parts;have vN:Hid (cs[1]?=some (.string it.name)∧cs[2]?=some (.string it.head)∧cs[14]?=some (.slice aw it.wh.length cw)∧cs[15]?=some (.slice am it.methods.length cm)∧cs[17]?=some (.int .i64 it.line)∧cs[18]?=some (.int .i64 it.col)):=⟨hc1,hc2,Gj,qP,hc17,hc18⟩;have HWH:=au hwh;have HMS:=au hms;have Xq:=au hnn;have HNH:=au hnh;have lG:Hid (∀(X:World) (vx:Value),Mv cb w1 v X vx→∀(j:Nat) u,cs[j]?=some u→X.cell? ⟨w.heap.size,j,none⟩=some u):=by intro X vx hX j u hu;exact aj (hX.keep HB0.o Jf.o) j u (by rw[List.getElem?_toArray];exact hu)
 obtain⟨tot,ht⟩:=aN (es++yA T it);rw[←ht]at hb⊢;obtain⟨ok,hok⟩:=aN (lJ it.head||(T.st it.head).isSome);obtain⟨gg,hgg⟩:=aN (T.of it.head);obtain⟨ET,hET⟩:=aN (Qb T it);obtain⟨E1,hE1⟩:=aN (if ok then[]else[(3,it.line,it.col)]:List Er);have CQ:=au hE1;have HET:=au hET;have HT:Hid ((es++E1)++(NH it.wh++(Ap T ⟨[],gg.types,false⟩ it.wh++(pI T gg [] it.methods++ET)))=tot):=by show _=_;rw[ht,yA,←hok,←hgg,←hET,←hE1,List.append_assoc]
 rw[←hgg]at Xg;have uG:=au hok;have HGG:=au hgg;have hlen0:=dL (a:=es) (b:=E1++(NH it.wh++(Ap T ⟨[],gg.types,false⟩ it.wh++(pI T gg [] it.methods++ET)))) (by rw[←List.append_assoc];exact HT.o) hb;clear h hw1 hit hc0 hc1 hc2 Gj qP hc17 hc18 hwh hms hnn hnh ht hok hgg hET hE1 hTf hfit;go_enter Tryz.func101,Tryz.ntmps101;go_upto_region 1 with fail
 rw[←HW1.o];have UR:Hid (∀X,StF w1 X→Calls Tryz.prog 29 #[.pointer (some ⟨tb,0,none⟩),.string it.head] X (fun e w'=>(∃cs:List Value,e=.returned (.tuple #[.agg cs.toArray,dW ok])∧QX w' (Out cb v w1) gg (.agg cs.toArray))∧StF X w')):=by intro X hX;refine(aak him tb T _ it.head X (qm.o.ok.step hX (fun _ _ h=>h) qm.o.tab) HNH.o (fun k hk=>Nat.lt_of_lt_of_le hk.1 hX.size)).mono ?_;rintro e w' ⟨⟨x,rfl,hx⟩,hs⟩;rw[←HGG.o]at hx;obtain⟨a1,c1,a2,c2,rfl,h1,h2⟩:=hx;exact⟨⟨[_,_],by rw[uG.o],_,_,_,_,rfl,h1,h2⟩,hs⟩
 have P5:Hid (∀X,StF w1 X→X.cell? ⟨cb,0,none⟩=some (.pointer (some ⟨tb,0,none⟩))∧X.cell? ⟨w.heap.size,2,none⟩=some (.string it.head)):=fun X hX=>⟨aj (hX.keep qm.o.blk (fun h=>h)) 0 _ rfl,lG.o X v (Mv.quiet hX) 2 _ vN.o.2.1⟩
 have NI:Hid (YJ w1 2 (fun X cs=>QX X (Out cb v w1) gg (.agg cs.toArray))):=⟨fun X X' cs hs h=>F_.step _ _ hs (fun k hk e=>by have:=hk.1;omega) h,fun X cs h=>by obtain⟨a1,c1,a2,c2,rfl⟩:=Jg h;exact⟨rfl,aU rfl⟩⟩;go_cut [4,5] (fun s4 s5 wx=>∃(b4:Nat) (cg:List Value),s4=.pointer (some ⟨b4,0,none⟩)∧s5=.bool ok∧w1.heap.size≤b4∧wx.heap[b4]?=some (.cells cg.toArray 42 (0,0))∧QX wx (Out cb v w1) gg (.agg cg.toArray)∧StF w1 wx);case first=>
  refine kP kr (Nw w1 (.pointer (some ⟨cb,0,none⟩)) (.pointer (some ⟨cb,0,none⟩)) (.pointer (some ⟨tb,0,none⟩)) (.pointer (some ⟨w.heap.size,2,none⟩)) (.string it.head) (fun X cs=>QX X (Out cb v w1) gg (.agg cs.toArray)) ok 42 2) 13 rfl kr kr kr kr ?h0 ?hs ?hdone;case h0=>exact Nw.zero (bK.drew)
  case hs=>
   refine⟨?_,?_,?_,?_,?_,?_,?_,?_,?_,?_,?_,?_,?_,trivial⟩
   ·intro L V X a ev dG hL ax hJ;have o0:=dG 0 rfl;change a.tmps[0]?.getD undef=.pointer (some ⟨cb,0,none⟩)at o0;go_simp;exact⟨_,rfl,{hJ with p0:=fun _=>rfl}⟩
   ·intro L V X a ev dG hL ax hJ;have e18:=(ev 0 18 rfl (ax 0 rfl)).trans (hJ.p0 (ax 0 rfl));go_simp;exact⟨_,rfl,{hJ with p1:=fun _=>rfl}⟩
   ·intro L V X a ev dG hL ax hJ;have e19:=(ev 1 19 rfl (ax 1 rfl)).trans (hJ.p1 (ax 1 rfl));go_simp;exact⟨_,rfl,{hJ with p2:=fun _=>rfl}⟩
   ·intro L V X a ev dG hL ax hJ;have e20:=(ev 2 20 rfl (ax 2 rfl)).trans (hJ.p2 (ax 2 rfl));obtain⟨k1,k2⟩:=P5.o X hJ.st;go_simp;exact⟨_,rfl,{hJ with p3:=fun _=>rfl}⟩
   ·intro L V X a ev dG hL ax hJ;have o4:=dG 3 rfl;change a.tmps[3]?.getD undef=.pointer (some ⟨w.heap.size,0,none⟩)at o4;go_simp;exact⟨_,rfl,{hJ with p4:=fun _=>rfl}⟩
   ·intro L V X a ev dG hL ax hJ;have e22:=(ev 4 22 rfl (ax 4 rfl)).trans (hJ.p4 (ax 4 rfl));obtain⟨k1,k2⟩:=P5.o X hJ.st;go_simp;exact⟨_,rfl,{hJ with p5:=fun _=>rfl}⟩
   ·intro L V X a ev dG hL ax hJ;have e21:=(ev 3 21 rfl (ax 3 rfl)).trans (hJ.p3 (ax 3 rfl));have e23:=(ev 5 23 rfl (ax 5 rfl)).trans (hJ.p5 (ax 5 rfl));go_simp;refine(UR.o X hJ.st).mono ?_;rintro e w6 ⟨⟨cs,rfl,hat⟩,h6⟩;exact⟨_,rfl,{hJ.step NI.o h6 with p6:=fun _=>⟨cs,rfl,hat⟩}⟩
   ·intro L V X a ev dG hL ax hJ;obtain⟨cs,y1,y2⟩:=hJ.p6 (ax 6 rfl);have e24:=(ev 6 24 rfl (ax 6 rfl)).trans (y1);go_simp;exact⟨_,rfl,{hJ with p7:=fun _=>⟨cs,rfl,y2⟩}⟩
   ·intro L V X a ev dG hL ax hJ;obtain⟨cs,y1,y2⟩:=hJ.p7 (ax 7 rfl);have e17:=(ev 7 17 rfl (ax 7 rfl)).trans (y1);go_simp;exact⟨_,rfl,{hJ with p8:=fun _=>⟨cs,rfl,y2⟩}⟩
   ·intro L V X a ev dG hL ax hJ;obtain⟨cs,y1,y2⟩:=hJ.p7 (ax 7 rfl);have e17:=(ev 7 17 rfl (ax 7 rfl)).trans (y1);go_simp;exact⟨_,rfl,{hJ with p9:=fun _=>rfl}⟩
   ·intro L V X a ev dG hL ax hJ;go_simp;exact⟨_,rfl,hJ.up10 NI.o _ rfl hL⟩
   ·intro L V X a ev dG hL ax hJ;obtain⟨b9,c9,y1,y2,y3,y4,-⟩:=hJ.p10 (ax 10 rfl);obtain⟨cs,z1,z2⟩:=hJ.p8 (ax 8 rfl);obtain⟨z3,z4⟩:=NI.o.2 _ _ z2;have e4:=(ev 10 4 rfl (ax 10 rfl)).trans (y1);have e25:=(ev 8 25 rfl (ax 8 rfl)).trans (z1);refine eH 42 (.tmp 4) (.tmp 25) rfl b9 0 42 c9 cs (by rw[bM];exact e4) (by rw[bM];exact e25) y4 (by rw[z3];exact Tryz.iT) om z4 ?_;intro w9 iJ hs9;rw[EF om]at iJ;exact⟨undef,rfl,hJ.Xd NI.o y1 (ax 10 rfl) z2 undef iJ hs9⟩
   ·intro L V X a ev dG hL ax hJ;have e26:=(ev 9 26 rfl (ax 9 rfl)).trans (hJ.p9 (ax 9 rfl));go_simp;exact⟨_,rfl,{hJ with p12:=fun _=>rfl}⟩
  case hdone=>intro L V X hall hJ;obtain⟨b8,c8,h1,h2,-,h4,h5⟩:=hJ.p10 (hall 10 dc);obtain⟨cs8,rfl,hcs⟩:=h5 (hall 11 dc);have h12:=hJ.p12 (hall 12 dc);have hst:=hJ.st;rw[rgQ13];simp only[kJ,fO,gsQ,o9];go_wp2_with fail;go_meet;case rel=>exact⟨b8,cs8,by first|exact h1|rfl,by first|exact h12|rfl,h2,h4,hcs,hst⟩
 case rest=>
  obtain⟨b4,cg,rfl,rfl,hb4,hblk,hgn,hst⟩:=hcut;obtain⟨w2,rfl⟩:=aN wc;obtain⟨a1,c1,a2,c2,rfl⟩:=Jg hgn;have HC2:=au (qm.o.quiet hst);have tK:Hid (Mv cb w1 v w2 v):=Mv.quiet hst;have HB4:=au hblk;have HO4:=au (qm.o.new (k:=b4) hb4 (aK hblk));have HGN:Hid (QX w2 (Out cb v w2) gg (.agg #[.slice a1 gg.aB.length c1,.slice a2 gg.types.length c2])):=F_.mono _ _ (fun _ _ hk=>(Mv.quiet hst).out hk) hgn;clear hb4 hblk hgn hst UR P5 NI;go_upto_if 28 with fail
  go_cut [] (fun wx=>∃v3:Value,mQ cb (.pointer (some ⟨tb,0,none⟩)) (TabAt IM tb T) wx v3 (es++E1)∧Mv cb w2 v wx v3);case first=>
   cases ok with
   |true=>go_wp2_with fail;go_meet;case rel=>exact⟨v,by simpa[CQ.o]using HC2.o,Mv.refl _ _ _⟩
   |false=>have e17:=lG.o _ _ tK.o 17 _ vN.o.2.2.2.2.1;have e18:=lG.o _ _ tK.o 18 _ vN.o.2.2.2.2.2;go_wp2_with fail;refine(fB cb _ _ 3 it.line it.col es v _ HC2.o hlen0).mono ?_;rintro e w3 ⟨rfl,v3,h3,g3⟩;have uF:=au h3;have qV:=au g3;clear h3 g3 e17 e18;go_wp2_with fail;go_meet;case rel=>exact⟨v3,by simpa[CQ.o]using uF.o,qV.o⟩
  case rest=>
   obtain⟨v3,h3,g3⟩:=hcut;obtain⟨w3,rfl⟩:=aN wc;have uF:=au h3;have HM23:=au g3;have HM13:=au (tK.o.trans g3);clear h3 g3;have e14:=lG.o _ _ HM13.o 14 _ vN.o.2.2.1;go_wp2_with fail;clear e14;go_loopg [7,36] it.wh.length (fun g9 _ s36 wr=>∃(k:Nat) (cur:List Er) (v4:Value),s36=.int .i64 k∧k≤it.wh.length∧it.wh.length-k≤g9∧mQ cb (.pointer (some ⟨tb,0,none⟩)) (TabAt IM tb T) wr v4 cur∧Mv cb w2 v wr v4∧cur++(NH (it.wh.drop k)++(Ap T ⟨[],gg.types,false⟩ it.wh++(pI T gg [] it.methods++ET)))=tot);case atStart=>exact⟨0,_,v3,rfl,Nat.zero_le _,by omega,uF.o,HM23.o,HT.o⟩
   case round=>
    obtain⟨k,cur,v4,rfl,hk,hgk,hc,hm,he⟩:=hrel;have Ip:=au hc;have HM24:=au hm;have HM14:=au (tK.o.trans hm);have IW:=au he;clear hc hm he;by_cases hlt:k<it.wh.length
    ·obtain⟨b,hx⟩:∃b,it.wh[k]?=some b:=⟨it.wh[k],List.getElem?_eq_getElem hlt⟩;have HOV:=au (ovE_at hx);obtain⟨xs,⟨a',c',hva,hcl,hcm,-,hra⟩,hls⟩:=(bH fP).mv HM14.o HWH.o;(obtain⟨rfl,rfl⟩:aw=a'∧cw=c':=by cases hva;exact⟨rfl,rfl⟩);obtain⟨g,o,rfl,hg,hgw,hcell⟩:=hra om;obtain⟨cb',hat,hget⟩:=oG.get fP k hls hx;obtain⟨bn,rq,p_,bl,bc⟩:=b;obtain⟨vt',vl',rfl,hsz,hnt,hnl⟩:=hat;obtain⟨at',yj,rfl⟩:=hnt.2.parts;obtain⟨al',cl',rfl⟩:=hnl.2.parts;obtain⟨nb,hnb⟩:=aN p_.length;rw[←hnb]at hget;(have iD:Hid (∀(jj:Nat) v,[Value.string bn,.slice at' rq.length yj,.slice al' nb cl',ak bl,ak bc][jj]?=some v→wr.cell? ⟨g,o+k*5+jj,none⟩=some v):=by intro jj v hv;rw[Nat.add_assoc];exact hcell _ _ (hget jj v hv));obtain⟨w5,hw5⟩:=aN (wr.alloc (.cells [Value.string bn,.slice at' rq.length yj,.slice al' nb cl',ak bl,ak bc].toArray 170));(have oD:Hid (StF wr w5):=by rw[hw5];exact bK.alloc _);(have Fq:Hid (w5.heap[wr.heap.size]?=some (.cells [Value.string bn,.slice at' rq.length yj,.slice al' nb cl',ak bl,ak bc].toArray 170 (0,0))):=by rw[hw5];exact aC _ _);have HW5:=au hw5;have wH:=au (Ip.o.quiet oD.o);have Qc:=au (HM24.o.then oD.o);have d2:=aj Fq.o 2 _ rfl;have d3:=aj Fq.o 3 _ rfl;have d4:=aj Fq.o 4 _ rfl;(have FH:Hid ((cur++(if 0<nb then[((8:Int),bl,bc)]else[]))++(NH (it.wh.drop (k+1))++(Ap T ⟨[],gg.types,false⟩ it.wh++(pI T gg [] it.methods++ET)))=tot):=by show _=_;have:=IW.o;rw[HOV.o,←hnb]at this;simpa only[List.append_assoc]using this);(have hlb:it.wh.length≤9223372036854775807:=by omega);clear hcell hx hva hcl hcm hra hg hgw hls hget hw5 hnt hnl hsz HOV hnb;by_cases hz:nb=0
     ·(have q4:¬(0:Int)<(nb:Int):=by omega);(have q9:¬0<nb:=by omega);(have uD:Hid (cur++(NH (it.wh.drop (k+1))++(Ap T ⟨[],gg.types,false⟩ it.wh++(pI T gg [] it.methods++ET)))=tot):=by show _=_;have:=FH.o;rw[if_neg q9,List.append_nil]at this;exact this);clear hz;go_wp2_with (first
       |(refine aA rfl 170 (.tmp 38) rfl g (o+k*5) rfl [Value.string bn,.slice at' rq.length yj,.slice al' nb cl',ak bl,ak bc] _ iD.o Tryz.underlying170 rfl Tryz.j_ ?_)
       |(refine bT rfl 170 (.tmp 7) (.tmp 39) rfl _ [Value.string bn,.slice at' rq.length yj,.slice al' nb cl',ak bl,ak bc] rfl rfl Tryz.j_ rfl (aU rfl) ?_;rw[←HW5.o]))
      go_roundg (gk-1);case rel=>exact⟨k+1,cur,v4,by go_num,hlt,sbQ hgk,wH.o,Qc.o,uD.o⟩
      case measure=>omega
     ·(have q4:(0:Int)<(nb:Int):=by omega);(have q9:0<nb:=by omega);(have uD:Hid ((cur++[((8:Int),bl,bc)])++(NH (it.wh.drop (k+1))++(Ap T ⟨[],gg.types,false⟩ it.wh++(pI T gg [] it.methods++ET)))=tot):=by show _=_;have:=FH.o;rw[if_pos q9]at this;exact this);clear hz;go_wp2_with (first
       |(refine aA rfl 170 (.tmp 38) rfl g (o+k*5) rfl [Value.string bn,.slice at' rq.length yj,.slice al' nb cl',ak bl,ak bc] _ iD.o Tryz.underlying170 rfl Tryz.j_ ?_)
       |(refine bT rfl 170 (.tmp 7) (.tmp 39) rfl _ [Value.string bn,.slice at' rq.length yj,.slice al' nb cl',ak bl,ak bc] rfl rfl Tryz.j_ rfl (aU rfl) ?_;rw[←HW5.o]))
      refine(fB cb _ _ 8 bl bc cur v4 _ wH.o (dL IW.o hb)).mono ?_;rintro e w6 ⟨rfl,v6,h6,g6⟩;have Hf:=au h6;have Uh:=au (Qc.o.trans g6);clear h6 g6;go_wp2_with fail;go_roundg (gk-1);case rel=>exact⟨k+1,_,v6,by go_num,hlt,sbQ hgk,Hf.o,Uh.o,uD.o⟩
      case measure=>omega
    ·(have hk2:k=it.wh.length:=by omega);(have FH:Hid ((cur++Ap T ⟨[],gg.types,false⟩ it.wh)++(pI T gg [] it.methods++ET)=tot):=by show _=_;have:=IW.o;rw[hk2,List.drop_length,NH,List.nil_append]at this;exact fZ this);clear hk2;obtain⟨go1,rfl⟩:=aN (gk:Nat);obtain⟨wo,rfl⟩:=aN wr;have e14:=lG.o _ _ HM14.o 14 _ vN.o.2.2.1;have g1:=aj (HM24.o.keep HB4.o HO4.o) 1 _ rfl;(have HSN:Hid (IX wo (Out cb v4 wo) ⟨[],gg.types,false⟩ (.agg #[ay,.slice a2 gg.types.length c2,aT])):=by obtain⟨_,_,_,_,hq,-,hq2⟩:=F_.mv HM24.o HGN.o;cases hq;exact⟨_,_,_,_,rfl,bV.nil _ _,hq2⟩);go_wp2_with fail;refine(z_ cb tb T it.wh _ _ ⟨[],gg.types,false⟩ cur v4 _ Ip.o ((bH fP).mv HM14.o HWH.o) HSN.o (dL FH.o hb)).mono ?_;rintro e w5 ⟨rfl,v5,h5,g5⟩;have wH:=au h5;have Qc:=au (HM24.o.trans g5);have Xo:=au (tK.o.trans Qc.o);have HB05:=au (Xo.o.keep HB0.o Jf.o);have Pz:=au (Qc.o.keep HB4.o HO4.o);have uD:=au (fZ FH.o);clear h5 g5 e14 g1;go_wp2_with (first
      |(refine aA rfl 51 (.tmp 3) rfl w.heap.size 0 rfl cs _ (fJ HB05.o) Tryz.underlying51 rfl lq.o ?_)
      |(refine aA rfl 42 (.tmp 4) rfl b4 0 rfl [.slice a1 gg.aB.length c1,.slice a2 gg.types.length c2] _ (fJ Pz.o) Tryz.underlying42 rfl Tryz.iT ?_))
     refine(BO him cb tb T it gg cs _ _ v5 _ sK.o.ms Xg.o wH.o (aQ.mv Xo.o HIT.o) (F_.mv Qc.o HGN.o) (dL uD.o hb)).mono ?_;rintro e w6 ⟨rfl,v6,h6,g6⟩;have Hf:=au h6;have HM26:=au (Qc.o.trans g6);have HM16:=au (tK.o.trans HM26.o);obtain⟨cu6,hcu6⟩:=aN (cur++Ap T ⟨[],gg.types,false⟩ it.wh++pI T gg [] it.methods);rw[←hcu6]at Hf uD;clear h6 g6 hcu6;obtain⟨ok2,hok2⟩:=aN (T.tr it.name).isSome;obtain⟨tr,htr⟩:=aN ((T.get T.tr it.name).getD qZ);have HOK2:=au hok2;have HTR:=au htr;clear hok2 htr;(have UR:Hid (∀X,StF w6 X→Calls Tryz.prog 26 #[.pointer (some ⟨tb,0,none⟩),.string it.name] X (fun e w'=>(∃cs:List Value,e=.returned (.tuple #[.agg cs.toArray,dW ok2])∧lm w' (Out cb v6 w6) tr cs)∧StF X w')):=by rw[HOK2.o,HTR.o];intro X hX;exact aaj him tb T _ it.name X (Hf.o.ok.step hX (fun _ _ h=>h) Hf.o.tab) Xq.o (fun k hk=>Nat.lt_of_lt_of_le hk.1 hX.size));(have P5:Hid (∀X,StF w6 X→X.cell? ⟨cb,0,none⟩=some (.pointer (some ⟨tb,0,none⟩))∧X.cell? ⟨w.heap.size,1,none⟩=some (.string it.name)):=by intro X hX;exact⟨aj (hX.keep Hf.o.blk (fun h=>h)) 0 _ rfl,lG.o X v6 (HM16.o.then hX) 1 _ vN.o.1⟩);have NI:Hid (YJ w6 19 (fun X cs=>lm X (Out cb v6 w6) tr cs)):=⟨fun X X' cs hs h=>aQ.step _ _ hs (fun k hk e=>by have:=hk.1;omega) h,fun X cs h=>⟨aQ.len _ _ h,aQ.one _ _ h⟩⟩;(go_upto_region 12 with fail);go_cut [8,5] (fun s8 s5 wx=>∃(b8:Nat) (ci:List Value),s8=.pointer (some ⟨b8,0,none⟩)∧s5=.bool ok2∧w6.heap.size≤b8∧wx.heap[b8]?=some (.cells ci.toArray 51 (0,0))∧lm wx (Out cb v6 w6) tr ci∧StF w6 wx);case first=>
      refine kP kr (Nw w6 (.pointer (some ⟨cb,0,none⟩)) (.pointer (some ⟨cb,0,none⟩)) (.pointer (some ⟨tb,0,none⟩)) (.pointer (some ⟨w.heap.size,1,none⟩)) (.string it.name) (fun X cs=>lm X (Out cb v6 w6) tr cs) ok2 51 19) 13 rfl kr kr kr kr ?h0 ?hs ?hdone;case h0=>exact Nw.zero (bK.drew)
      case hs=>
       refine⟨?_,?_,?_,?_,?_,?_,?_,?_,?_,?_,?_,?_,?_,trivial⟩
       ·intro L V X a ev dG hL ax hJ;have o0:=dG 0 rfl;change a.tmps[0]?.getD undef=.pointer (some ⟨cb,0,none⟩)at o0;go_simp;exact⟨_,rfl,{hJ with p0:=fun _=>rfl}⟩
       ·intro L V X a ev dG hL ax hJ;have e61:=(ev 0 61 rfl (ax 0 rfl)).trans (hJ.p0 (ax 0 rfl));go_simp;exact⟨_,rfl,{hJ with p1:=fun _=>rfl}⟩
       ·intro L V X a ev dG hL ax hJ;have e62:=(ev 1 62 rfl (ax 1 rfl)).trans (hJ.p1 (ax 1 rfl));go_simp;exact⟨_,rfl,{hJ with p2:=fun _=>rfl}⟩
       ·intro L V X a ev dG hL ax hJ;have e63:=(ev 2 63 rfl (ax 2 rfl)).trans (hJ.p2 (ax 2 rfl));obtain⟨k1,k2⟩:=P5.o X hJ.st;go_simp;exact⟨_,rfl,{hJ with p3:=fun _=>rfl}⟩
       ·intro L V X a ev dG hL ax hJ;have o4:=dG 3 rfl;change a.tmps[3]?.getD undef=.pointer (some ⟨w.heap.size,0,none⟩)at o4;go_simp;exact⟨_,rfl,{hJ with p4:=fun _=>rfl}⟩
       ·intro L V X a ev dG hL ax hJ;have e65:=(ev 4 65 rfl (ax 4 rfl)).trans (hJ.p4 (ax 4 rfl));obtain⟨k1,k2⟩:=P5.o X hJ.st;go_simp;exact⟨_,rfl,{hJ with p5:=fun _=>rfl}⟩
       ·intro L V X a ev dG hL ax hJ;have e64:=(ev 3 64 rfl (ax 3 rfl)).trans (hJ.p3 (ax 3 rfl));have e66:=(ev 5 66 rfl (ax 5 rfl)).trans (hJ.p5 (ax 5 rfl));go_simp;refine(UR.o X hJ.st).mono ?_;rintro e w6 ⟨⟨cs,rfl,hat⟩,h6⟩;exact⟨_,rfl,{hJ.step NI.o h6 with p6:=fun _=>⟨cs,rfl,hat⟩}⟩
       ·intro L V X a ev dG hL ax hJ;obtain⟨cs,y1,y2⟩:=hJ.p6 (ax 6 rfl);have e67:=(ev 6 67 rfl (ax 6 rfl)).trans (y1);go_simp;exact⟨_,rfl,{hJ with p7:=fun _=>⟨cs,rfl,y2⟩}⟩
       ·intro L V X a ev dG hL ax hJ;obtain⟨cs,y1,y2⟩:=hJ.p7 (ax 7 rfl);have e60:=(ev 7 60 rfl (ax 7 rfl)).trans (y1);go_simp;exact⟨_,rfl,{hJ with p8:=fun _=>⟨cs,rfl,y2⟩}⟩
       ·intro L V X a ev dG hL ax hJ;obtain⟨cs,y1,y2⟩:=hJ.p7 (ax 7 rfl);have e60:=(ev 7 60 rfl (ax 7 rfl)).trans (y1);go_simp;exact⟨_,rfl,{hJ with p9:=fun _=>rfl}⟩
       ·intro L V X a ev dG hL ax hJ;go_simp;exact⟨_,rfl,hJ.up10 NI.o _ rfl hL⟩
       ·intro L V X a ev dG hL ax hJ;obtain⟨b9,c9,y1,y2,y3,y4,-⟩:=hJ.p10 (ax 10 rfl);obtain⟨cs,z1,z2⟩:=hJ.p8 (ax 8 rfl);obtain⟨z3,z4⟩:=NI.o.2 _ _ z2;have e8:=(ev 10 8 rfl (ax 10 rfl)).trans (y1);have e68:=(ev 8 68 rfl (ax 8 rfl)).trans (z1);refine eH 51 (.tmp 8) (.tmp 68) rfl b9 0 51 c9 cs (by rw[bM];exact e8) (by rw[bM];exact e68) y4 (by rw[z3];exact Tryz.dI) om z4 ?_;intro w9 iJ hs9;rw[EF om]at iJ;exact⟨undef,rfl,hJ.Xd NI.o y1 (ax 10 rfl) z2 undef iJ hs9⟩
       ·intro L V X a ev dG hL ax hJ;have e69:=(ev 9 69 rfl (ax 9 rfl)).trans (hJ.p9 (ax 9 rfl));go_simp;exact⟨_,rfl,{hJ with p12:=fun _=>rfl}⟩
      case hdone=>intro L V X hall hJ;obtain⟨b8,c8,h1,h2,-,h4,h5⟩:=hJ.p10 (hall 10 dc);obtain⟨cs8,rfl,hcs⟩:=h5 (hall 11 dc);have h12:=hJ.p12 (hall 12 dc);have hst:=hJ.st;rw[rgQ13];simp only[kJ,fO,gsQ,o9];go_wp2_with fail;go_meet;case rel=>exact⟨b8,cs8,by first|exact h1|rfl,by first|exact h12|rfl,h2,h4,hcs,hst⟩
     case rest=>
      obtain⟨b8,ci,rfl,rfl,hb8,hblk,hti,hst⟩:=hcut;obtain⟨w7,rfl⟩:=aN wc;have Xl:=au (Hf.o.quiet hst);have KP:=au (HM16.o.then hst);have OA:=au hblk;have HO8:=au (Hf.o.new (k:=b8) hb8 (aK hblk));have YK:Hid (lm w7 (Out cb v6 w7) tr ci):=aQ.mono _ _ (fun _ _ hk=>(Mv.quiet hst).out hk) hti;clear hb8 hblk hti hst UR P5 NI;cases ok2 with
      |false=>have e17:=lG.o _ _ KP.o 17 _ vN.o.2.2.2.2.1;have e18:=lG.o _ _ KP.o 18 _ vN.o.2.2.2.2.2;(have HET0:Hid (ET=[(3,it.line,it.col)]):=by show _=_;rw[HET.o,Qb,Tab.get_none HOK2.o.symm]);go_wp2_with fail;refine(fB cb _ _ 3 it.line it.col _ v6 _ Xl.o (dL uD.o hb)).mono ?_;rintro e w9 ⟨rfl,v9,h9,g9⟩;have BA:=au h9;have UU:=au (KP.o.trans g9);clear h9 g9;go_wp2_with fail;refine bodyPost_ret (results_none rfl _ _ _) rfl ?_;exact⟨rfl,v9,by rw[←uD.o,HET0.o];exact BA.o,(Mv.quiet HST.o).trans UU.o⟩
      |true=>
       obtain⟨x2,hx2⟩:=Tab.get_some (Xl.o.tab.tr it.name) HOK2.o.symm;(obtain rfl:tr=x2:=by rw[HTR.o,hx2];rfl);(have Ic:Hid (cu6++(BP tr it.methods++yx it tr.methods)=tot):=by show _=_;rw[←uD.o,HET.o,Qb,hx2]);(have HLN8:Hid ((Tryz.prog.info? 51).map (·.size)=some ci.length):=by rw[aQ.len _ _ YK.o];exact Tryz.dI);have e15:=lG.o _ _ KP.o 15 _ vN.o.2.2.2.1;clear hx2;go_wp2_with fail;clear e15;go_loopg [10,11,12,79] it.methods.length (fun g9 _ _ _ s79 wr=>∃(j:Nat) (cur:List Er) (v8:Value),s79=.int .i64 j∧j≤it.methods.length∧it.methods.length-j≤g9∧mQ cb (.pointer (some ⟨tb,0,none⟩)) (TabAt IM tb T) wr v8 cur∧Mv cb w7 v6 wr v8∧cur++(BP tr (it.methods.drop j)++yx it tr.methods)=tot);case atStart=>exact⟨0,_,v6,rfl,Nat.zero_le _,by omega,Xl.o,Mv.refl _ _ _,Ic.o⟩
       case round=>
        obtain⟨j,cur,v8,rfl,hj,hgj,hc,hm,he⟩:=hrel;have HCX:=au hc;have HM78:=au hm;have Xn:=au (KP.o.trans hm);have HEX:=au he;clear hc hm he;by_cases hlj:j<it.methods.length
        ·obtain⟨m,hx⟩:∃m,it.methods[j]?=some m:=⟨it.methods[j],List.getElem?_eq_getElem hlj⟩;obtain⟨xs,⟨a',c',hva,hcl,hcm,-,hra⟩,hls⟩:=(bH dh).mv Xn.o HMS.o;(obtain⟨rfl,rfl⟩:am=a'∧cm=c':=by cases hva;exact⟨rfl,rfl⟩);obtain⟨g,o,rfl,hg,hgw,hcell⟩:=hra om;obtain⟨Xr,hat,hget⟩:=oG.get dh j hls hx;(have iD:Hid (∀(jj:Nat) v,Xr[jj]?=some v→wr.cell? ⟨g,o+j*17+jj,none⟩=some v):=by intro jj v hv;rw[Nat.add_assoc];exact hcell _ _ (hget jj v hv));(have NK:Hid ((Tryz.prog.info? 105).map (·.size)=some Xr.length):=by rw[dh.len _ _ hat];exact Tryz.gV);have KO:=au (dh.len _ _ hat);have HONM:=au (dh.one _ _ hat);obtain⟨vml,vmp,vmw,cty,⟨mc0,-,mc2,-,mc4,-,Xt,Xu⟩,⟨-,hq2,-⟩,-⟩:=hat.get;obtain⟨ap1,cp1,rfl⟩:=hq2.parts;have HMC1:Hid (Xr[0]?=some (.string m.name)∧Xr[2]?=some (.int .i64 m.recv)∧Xr[4]?=some (.slice ap1 m.params.length cp1)∧Xr[15]?=some (.int .i64 m.line)∧Xr[16]?=some (.int .i64 m.col)):=⟨mc0,mc2,mc4,Xt,Xu⟩;obtain⟨wa,KQ⟩:=aN (wr.alloc (.cells Xr.toArray 105));(have Qd:Hid (StF wr wa):=by rw[KQ];exact bK.alloc _);(have Uk:Hid (wa.heap[wr.heap.size]?=some (.cells Xr.toArray 105 (0,0))):=by rw[KQ];exact aC _ _);have HWwa:=au KQ;have HOwa:=au (HCX.o.new (k:=wr.heap.size) (Nat.le_refl _) (aK Uk.o));(have hlb:it.methods.length≤9223372036854775807:=by omega);have n0:=aj Uk.o 0 _ (by rw[List.getElem?_toArray];exact mc0);clear hcell hva hcl hcm hra hg hgw hls hget hat mc0 mc2 mc4 Xt Xu hq2 KQ;have Xv:=au (HM78.o.then Qd.o);have HM1A:=au (Xn.o.then Qd.o);have YG:=au (HCX.o.quiet Qd.o);have HBA8:=au (Xv.o.keep OA.o HO8.o);have HTIA:=au (aQ.mv Xv.o YK.o);have Q5:=au (D9 (Out cb v8 wa) tr ci m.name wa HTIA.o (fun k hk=>hk.1));obtain⟨fy,hfy⟩:=aN (yw tr.methods m.name);obtain⟨EJ,hEJ⟩:=aN (D_ tr m);have HEY:Hid ((cur++EJ)++(BP tr (it.methods.drop (j+1))++yx it tr.methods)=tot):=fZ (by have:=HEX.o;rw[mt1E_at hx,List.append_assoc,←hEJ]at this;exact this);rw[D_,←hfy]at hEJ;have HEJ:=au hEJ;unfold EH at Q5;rw[←hfy]at Q5;clear hEJ hfy hx;go_wp2_with (first
          |(refine aA rfl 105 (.tmp 81) rfl g (o+j*17) rfl Xr _ iD.o Tryz.underlying105 rfl NK.o ?_)
          |(refine bT rfl 105 (.tmp 10) (.tmp 82) rfl _ Xr rfl rfl NK.o (by rw[KO.o];rfl) HONM.o ?_;rw[←HWwa.o])
          |(refine aA rfl 51 (.tmp 8) rfl b8 0 rfl ci _ (fJ HBA8.o) Tryz.underlying51 rfl HLN8.o ?_))
         refine Q5.o.mono ?_;rintro e wb ⟨⟨cy,rfl,BQ⟩,hsb⟩;(have HLNY:Hid ((Tryz.prog.info? 105).map (·.size)=some cy.length):=by rw[dh.len _ _ BQ];exact Tryz.gV);have HLY:=au (dh.len _ _ BQ);have HOY:=au (dh.one _ _ BQ);obtain⟨wd,hwd⟩:=aN (wb.alloc (.cells cy.toArray 105));(have HSD:Hid (StF wa wd):=by rw[hwd];exact hsb.alloc _);(have HBD:Hid (wd.heap[wb.heap.size]?=some (.cells cy.toArray 105 (0,0))):=by rw[hwd];exact aC _ _);have U_:=au hwd;have HCD:=au (YG.o.quiet HSD.o);have Qe:=au (Xv.o.then HSD.o);have hbm:=HSD.o.keep Uk.o (fun h=>h);have m2:=aj hbm 2 _ (by rw[List.getElem?_toArray];exact HMC1.o.2.1);have m4:=aj hbm 4 _ (by rw[List.getElem?_toArray];exact HMC1.o.2.2.1);have m15:=aj hbm 15 _ (by rw[List.getElem?_toArray];exact HMC1.o.2.2.2.1);have m16:=aj hbm 16 _ (by rw[List.getElem?_toArray];exact HMC1.o.2.2.2.2);clear hsb hwd hbm n0;(go_upto_region 19 with(refine bT rfl 105 (.tmp 11) (.tmp 88) rfl _ cy rfl rfl HLNY.o (by rw[HLY.o];rfl) HOY.o ?_;rw[←U_.o]));cases fy with
         |none=>
          have Ul:Hid (EJ=[(3,m.line,m.col)]):=HEJ.o;clear BQ;go_wp2_with fail;refine(fB cb _ _ 3 m.line m.col cur v8 _ HCD.o (dL HEX.o hb)).mono ?_;rintro e wz ⟨rfl,vz,hz,gz⟩;have HCz:=au hz;have HMz:=au (Qe.o.trans gz);clear hz gz;go_wp2_with fail;go_roundg (gk-1);case rel=>exact⟨j+1,_,vz,by go_num,hlj,sbQ hgj,HCz.o,HMz.o,by have:=HEY.o;rw[Ul.o]at this;exact this⟩
          case measure=>omega
         |some y=>
          have Ul:Hid (EJ=if y.recv≠m.recv∨y.params.length≠m.params.length then[(5,m.line,m.col)]else[]):=HEJ.o;obtain⟨_,vyp,_,_,⟨-,-,yc2,-,yc4,-⟩,⟨-,hyp,-⟩,-⟩:=BQ.get;obtain⟨apy,cpy,rfl⟩:=hyp.parts;have y2:=aj HBD.o 2 _ (by rw[List.getElem?_toArray];exact yc2);have y4:=aj HBD.o 4 _ (by rw[List.getElem?_toArray];exact yc4);simp only[Option.getD_some]at y2 y4;clear BQ yc2 yc4 hyp;obtain⟨yr,hyr⟩:=aN y.recv;obtain⟨mr,hmr⟩:=aN m.recv;obtain⟨yn,hyn⟩:=aN y.params.length;obtain⟨mn,hmn⟩:=aN m.params.length;rw[←hyr,←hmr,←hyn,←hmn]at Ul;rw[←hyr]at y2;rw[←hyn]at y4;rw[←hmr]at m2;rw[←hmn]at m4;clear hyr hmr hyn hmn;by_cases hq:yr=mr
          ·(have q1:(yr !=mr)=false:=by simpa using hq);by_cases hq2:yn=mn
           ·(have q2:((yn:Int) !=(mn:Int))=false:=by simp;omega);(have Xw:Hid (EJ=[]):=by show _=_;rw[Ul.o,if_neg (fun h=>h.elim (fun h=>h hq) (fun h=>h hq2))]);clear hq hq2;go_wp2_with fail;go_roundg (gk-1);case rel=>exact⟨j+1,cur,v8,by go_num,hlj,sbQ hgj,HCD.o,Qe.o,by have:=HEY.o;rw[Xw.o,List.append_nil]at this;exact this⟩
            case measure=>omega
           ·(have q2:((yn:Int) !=(mn:Int))=true:=by simp;omega);(have Xw:Hid (EJ=[(5,m.line,m.col)]):=by show _=_;rw[Ul.o,if_pos (.inr hq2)]);clear hq hq2;go_wp2_with fail;refine(fB cb _ _ 5 m.line m.col cur v8 _ HCD.o (dL HEX.o hb)).mono ?_;rintro e wz ⟨rfl,vz,hz,gz⟩;have HCz:=au hz;have HMz:=au (Qe.o.trans gz);clear hz gz;go_wp2_with fail;go_roundg (gk-1);case rel=>exact⟨j+1,_,vz,by go_num,hlj,sbQ hgj,HCz.o,HMz.o,by have:=HEY.o;rw[Xw.o]at this;exact this⟩
            case measure=>omega
          ·(have q1:(yr !=mr)=true:=by simpa using hq);(have Xw:Hid (EJ=[(5,m.line,m.col)]):=by show _=_;rw[Ul.o,if_pos (.inl hq)]);clear hq;go_wp2_with fail;refine(fB cb _ _ 5 m.line m.col cur v8 _ HCD.o (dL HEX.o hb)).mono ?_;rintro e wz ⟨rfl,vz,hz,gz⟩;have HCz:=au hz;have HMz:=au (Qe.o.trans gz);clear hz gz;go_wp2_with fail;go_roundg (gk-1);case rel=>exact⟨j+1,_,vz,by go_num,hlj,sbQ hgj,HCz.o,HMz.o,by have:=HEY.o;rw[Xw.o]at this;exact this⟩
           case measure=>omega
        ·(have hj2:j=it.methods.length:=by omega);(have UW:Hid (cur++yx it tr.methods=tot):=by show _=_;have:=HEX.o;rw[hj2,List.drop_length,BP,List.nil_append]at this;exact this);clear hj2;obtain⟨go2,rfl⟩:=aN (gk:Nat);obtain⟨wq,rfl⟩:=aN wr;obtain⟨_,_,_,_,vtm,_,⟨-,-,-,-,-,-,-,tc15,-,-⟩,⟨-,-,-,-,htm⟩,-⟩:=YK.o.get;obtain⟨at9,Zz,rfl⟩:=htm.parts;have HTM:=au htm;have e15:=aj (HM78.o.keep OA.o HO8.o) 15 _ (by rw[List.getElem?_toArray];exact tc15);clear htm tc15;obtain⟨YL,htms⟩:=aN tr.methods;rw[←htms]at HTM e15 UW;clear htms;go_wp2_with fail;clear e15;go_loopg [14,15,16,120] YL.length (fun g9 _ _ _ s120 wr=>∃(i:Nat) (yu:List Er) (v9:Value),s120=.int .i64 i∧i≤YL.length∧YL.length-i≤g9∧mQ cb (.pointer (some ⟨tb,0,none⟩)) (TabAt IM tb T) wr v9 yu∧Mv cb w7 v6 wr v9∧yu++yx it (YL.drop i)=tot);case atStart=>exact⟨0,_,v8,rfl,Nat.zero_le _,by omega,HCX.o,HM78.o,UW.o⟩
         case round=>
          obtain⟨i,yu,v9,rfl,hi,hgi,hc,hm,he⟩:=hrel;have HCY:=au hc;have HM79:=au hm;have HM19:=au (KP.o.trans hm);have HEY:=au he;clear hc hm he;by_cases hli:i<YL.length
          ·obtain⟨m,hx⟩:∃m,YL[i]?=some m:=⟨YL[i],List.getElem?_eq_getElem hli⟩;obtain⟨xs,⟨a',c',hva,hcl,hcm,-,hra⟩,hls⟩:=(bH dh).mv HM79.o HTM.o;(obtain⟨rfl,rfl⟩:at9=a'∧Zz=c':=by cases hva;exact⟨rfl,rfl⟩);obtain⟨g,o,rfl,hg,hgw,hcell⟩:=hra om;obtain⟨Xx,hat,hget⟩:=oG.get dh i hls hx;(have iD:Hid (∀(jj:Nat) v,Xx[jj]?=some v→wr.cell? ⟨g,o+i*17+jj,none⟩=some v):=by intro jj v hv;rw[Nat.add_assoc];exact hcell _ _ (hget jj v hv));(have NK:Hid ((Tryz.prog.info? 105).map (·.size)=some Xx.length):=by rw[dh.len _ _ hat];exact Tryz.gV);have KO:=au (dh.len _ _ hat);have HONM:=au (dh.one _ _ hat);obtain⟨vml,vmp,vmw,cty,⟨mc0,-,mc2,-,mc4,-,Xt,Xu⟩,⟨-,hq2,-⟩,-⟩:=hat.get;obtain⟨ap2,cp2,rfl⟩:=hq2.parts;have HMC2:Hid (Xx[0]?=some (.string m.name)∧Xx[2]?=some (.int .i64 m.recv)∧Xx[4]?=some (.slice ap2 m.params.length cp2)∧Xx[15]?=some (.int .i64 m.line)∧Xx[16]?=some (.int .i64 m.col)):=⟨mc0,mc2,mc4,Xt,Xu⟩;obtain⟨wa,KQ⟩:=aN (wr.alloc (.cells Xx.toArray 105));(have Qd:Hid (StF wr wa):=by rw[KQ];exact bK.alloc _);(have Uk:Hid (wa.heap[wr.heap.size]?=some (.cells Xx.toArray 105 (0,0))):=by rw[KQ];exact aC _ _);have HWwa:=au KQ;have HOwa:=au (HCY.o.new (k:=wr.heap.size) (Nat.le_refl _) (aK Uk.o));(have hlb:YL.length≤9223372036854775807:=by omega);have n0:=aj Uk.o 0 _ (by rw[List.getElem?_toArray];exact mc0);clear hcell hva hcl hcm hra hg hgw hls hget hat mc0 mc2 mc4 Xt Xu hq2 KQ;have Xv:=au (HM79.o.then Qd.o);have HM1A:=au (HM19.o.then Qd.o);have YG:=au (HCY.o.quiet Qd.o);have HBA0:=au (HM1A.o.keep HB0.o Jf.o);have Q5:=au (D9 (Out cb v9 wa) it cs m.name wa (aQ.mv HM1A.o HIT.o) (fun k hk=>hk.1));obtain⟨fy,hfy⟩:=aN (yw it.methods m.name);have HEZ:Hid ((yu++(if fy.isSome then[]else[((3:Int),it.line,it.col)]))++yx it (YL.drop (i+1))=tot):=fZ (by have:=HEY.o;rw[mt2E_at hx,←hfy]at this;exact this);unfold EH at Q5;rw[←hfy]at Q5;clear hfy hx;go_wp2_with (first
            |(refine aA rfl 105 (.tmp 122) rfl g (o+i*17) rfl Xx _ iD.o Tryz.underlying105 rfl NK.o ?_)
            |(refine bT rfl 105 (.tmp 14) (.tmp 123) rfl _ Xx rfl rfl NK.o (by rw[KO.o];rfl) HONM.o ?_;rw[←HWwa.o])
            |(refine aA rfl 51 (.tmp 3) rfl w.heap.size 0 rfl cs _ (fJ HBA0.o) Tryz.underlying51 rfl lq.o ?_))
           refine Q5.o.mono ?_;rintro e wb ⟨⟨cy,rfl,BQ⟩,hsb⟩;(have HLNY:Hid ((Tryz.prog.info? 105).map (·.size)=some cy.length):=by rw[dh.len _ _ BQ];exact Tryz.gV);have HLY:=au (dh.len _ _ BQ);have HOY:=au (dh.one _ _ BQ);obtain⟨wd,hwd⟩:=aN (wb.alloc (.cells cy.toArray 105));(have HSD:Hid (StF wa wd):=by rw[hwd];exact hsb.alloc _);have U_:=au hwd;have HCD:=au (YG.o.quiet HSD.o);have Qe:=au (Xv.o.then HSD.o);have HM1D:=au (HM1A.o.then HSD.o);have e17:=lG.o _ _ HM1D.o 17 _ vN.o.2.2.2.2.1;have e18:=lG.o _ _ HM1D.o 18 _ vN.o.2.2.2.2.2;clear hsb hwd n0 BQ;obtain⟨fb,hfb⟩:=aN fy.isSome;rw[←hfb]at HEZ;rw[←hfb];clear hfb;(go_upto_region 28 with(refine bT rfl 105 (.tmp 15) (.tmp 129) rfl _ cy rfl rfl HLNY.o (by rw[HLY.o];rfl) HOY.o ?_;rw[←U_.o]));cases fb with
           |true=>
            go_wp2_with fail;go_roundg (gk-1);case rel=>exact⟨i+1,yu,v9,by go_num,hli,sbQ hgi,HCD.o,Qe.o,by simpa using HEZ.o⟩
            case measure=>omega
           |false=>
            go_wp2_with fail;refine(fB cb _ _ 3 it.line it.col yu v9 _ HCD.o (dL HEY.o hb)).mono ?_;rintro e wz ⟨rfl,vz,hz,gz⟩;have HCz:=au hz;have HMz:=au (Qe.o.trans gz);clear hz gz;go_wp2_with fail;go_roundg (gk-1);case rel=>exact⟨i+1,_,vz,by go_num,hli,sbQ hgi,HCz.o,HMz.o,by simpa using HEZ.o⟩
            case measure=>omega
          ·(have hi2:i=YL.length:=by omega);(have Df:Hid (yu=tot):=by show _=_;have:=HEY.o;rw[hi2,List.drop_length,yx,List.append_nil]at this;exact this);go_wp2_with fail;refine bodyPost_ret (results_none rfl _ _ _) rfl ?_;exact⟨rfl,v9,Df.o▸HCY.o,(Mv.quiet HST.o).trans HM19.o⟩
def Qg (T:Tab) (x:It):List Er:=
 if x.kind=1 then BN T x.gen x.line x.col++lU T ⟨x.gen.aB,x.gen.types,false⟩ [] x.fields
 else if x.kind=2 then pI T jW [] x.methods
 else if x.kind=3 then yA T x
 else if x.kind=4 then BN T x.gen x.line x.col++(lU T ⟨x.gen.aB,x.gen.types,true⟩ [] x.fields++(BL T ⟨x.gen.aB,x.gen.types,true⟩ x.ret++Ap T ⟨x.gen.aB,x.gen.types,true⟩ x.wh))
 else[]
theorem Um {IM:World→Nat→(ByteArray→ByteArray→Option Nat)→Prop} (him:x_ IM) (cb tb:Nat) (T:Tab) (it:It) (cs:List Value) (es:List Er) (v:Value) (w:World) (hTf:∀x∈T.items,Gi x) (hfit:Gi it) (h:mQ cb (.pointer (some ⟨tb,0,none⟩)) (TabAt IM tb T) w v es) (hit:lm w (Out cb v w) it cs) (hb:(es++Qg T it).length≤1000000000):Calls Tryz.prog 66 #[.pointer (some ⟨cb,0,none⟩),.agg cs.toArray] w (ny cb (.pointer (some ⟨tb,0,none⟩)) (TabAt IM tb T) w v (es++Qg T it)):=by
 have sK:=au hfit;have HTF:=au hTf;obtain⟨w1,hw1⟩:=aN (w.alloc (.cells cs.toArray 51));have HST:=nS hw1
 have HB0:=nB hw1
 have HW1:=au hw1;have qm:=au (h.quiet HST.o);have HIT:Hid (lm w1 (Out cb v w1) it cs):=aQ.mv (Mv.quiet HST.o) hit;have Jf:=au (h.new (w':=w1) (k:=w.heap.size) (Nat.le_refl _) (aK HB0.o));have lq:Hid ((Tryz.prog.info? 51).map (·.size)=some cs.length):=by rw[aQ.len _ _ hit];exact Tryz.dI
 obtain⟨vl,vt,vf,vw,vm,ct,⟨hc0,-,-,hc3,hc4,hc5,Gj,qP,hc17,hc18⟩,⟨hgl,hgt,hfs,hwh,-⟩,hty,hct,-,-⟩:=HIT.o.get;obtain⟨al,cl,rfl⟩:=hgl.2.parts;obtain⟨at',yj,rfl⟩:=hgt.2.parts;obtain⟨af,cf,rfl⟩:=hfs.parts;obtain⟨aw,cw,rfl⟩:=hwh.parts;have vN:Hid (cs[3]?=some (.slice al it.gen.aB.length cl)∧cs[4]?=some (.slice at' it.gen.types.length yj)∧cs[5]?=some (.slice af it.fields.length cf)∧cs[14]?=some (.slice aw it.wh.length cw)∧cs[17]?=some (.int .i64 it.line)∧cs[18]?=some (.int .i64 it.col)):=⟨hc3,hc4,hc5,Gj,hc17,hc18⟩;have HGW:Hid (QX w1 (Out cb v w1) it.gen (.agg #[.slice al it.gen.aB.length cl,.slice at' it.gen.types.length yj])):=⟨_,_,_,_,rfl,hgl,hgt⟩;have CJ:Hid (∀b,IX w1 (Out cb v w1) ⟨it.gen.aB,it.gen.types,b⟩ (.agg #[.slice al it.gen.aB.length cl,.slice at' it.gen.types.length yj,dW b])):=fun b=>⟨_,_,_,_,rfl,hgl,hgt⟩;have HFS:=au hfs;have HWH:=au hwh;have G_:Hid (CP w1 (Out cb v w1) it.ret (.agg ct.toArray)):=⟨ct,rfl,hty⟩;have QZ:=au hct;have Gh:Hid ((Tryz.prog.info? 46).map (·.size)=some ct.length):=by rw[hty.len];exact Tryz.eF
 have lG:Hid (∀(X:World) (vx:Value),Mv cb w1 v X vx→∀(j:Nat) u,cs[j]?=some u→X.cell? ⟨w.heap.size,j,none⟩=some u):=by intro X vx hX j u hu;exact aj (hX.keep HB0.o Jf.o) j u (by rw[List.getElem?_toArray];exact hu)
 have KD:Hid (Mv cb w1 v w1 v):=Mv.refl _ _ _;obtain⟨kd,hkd⟩:=aN it.kind;obtain⟨tot,ht⟩:=aN (es++Qg T it);rw[←ht]at hb⊢
 have HT:Hid (es++(if kd=1 then BN T it.gen it.line it.col++lU T ⟨it.gen.aB,it.gen.types,false⟩ [] it.fields
  else if kd=2 then pI T jW [] it.methods
  else if kd=3 then yA T it
  else if kd=4 then BN T it.gen it.line it.col++(lU T ⟨it.gen.aB,it.gen.types,true⟩ [] it.fields++(BL T ⟨it.gen.aB,it.gen.types,true⟩ it.ret++Ap T ⟨it.gen.aB,it.gen.types,true⟩ it.wh))
  else[])=tot):=by show _=_;rw[ht,Qg,hkd]
 have e0:w1.cell? ⟨w.heap.size,0,none⟩=some (.int .i64 kd):=by rw[hkd];exact lG.o _ _ KD.o 0 _ hc0
 have e3:=lG.o _ _ KD.o 3 _ hc3;have e4:=lG.o _ _ KD.o 4 _ hc4;have e17:=lG.o _ _ KD.o 17 _ hc17;have e18:=lG.o _ _ KD.o 18 _ hc18;clear h hw1 hit hc0 hc3 hc4 hc5 Gj qP hc17 hc18 hgl hgt hfs hwh hty hct hkd ht hTf hfit;go_enter Tryz.func66,Tryz.ntmps66;go_upto_region 1 with fail
 rw[←HW1.o];by_cases h1:kd=1
 ·subst h1;have HQ:Hid ((es++BN T it.gen it.line it.col)++lU T ⟨it.gen.aB,it.gen.types,false⟩ [] it.fields=tot):=fZ (by rw[←HT.o,if_pos rfl]);go_wp2_with fail;refine(ND cb tb T it.gen _ it.line it.col es v _ qm.o HGW.o (dL HQ.o hb)).mono ?_;rintro e w2 ⟨rfl,v2,h2,g2⟩;have HC2:=au h2;have tK:=au g2;clear h2 g2 e0 e3 e4 e17 e18;have e3:=lG.o _ _ tK.o 3 _ vN.o.1;have e4:=lG.o _ _ tK.o 4 _ vN.o.2.1;have e5:=lG.o _ _ tK.o 5 _ vN.o.2.2.1;go_wp2_with fail;refine(yt him cb tb T it.fields _ _ ⟨it.gen.aB,it.gen.types,false⟩ _ v2 _ sK.o.fs HC2.o ((bH fH).mv tK.o HFS.o) (jk.mv tK.o (CJ.o false)) (by rw[HQ.o];exact hb)).mono ?_;rintro e w3 ⟨rfl,v3,h3,g3⟩;have uF:=au h3;have qV:=au (tK.o.trans g3);clear h3 g3 e3 e4 e5;go_wp2_with fail;refine bodyPost_ret (results_none rfl _ _ _) rfl ?_;exact⟨rfl,v3,by rw[←HQ.o];exact uF.o,(Mv.quiet HST.o).trans qV.o⟩
 ·by_cases h2:kd=2
  ·subst h2;(have HQ:Hid (es++pI T jW [] it.methods=tot):=by show _=_;rw[←HT.o,if_neg dc,if_pos rfl]);go_wp2_with (refine aA rfl 51 (.tmp 3) rfl w.heap.size 0 rfl cs _ (fJ HB0.o) Tryz.underlying51 rfl lq.o ?_);refine(BO him cb tb T it jW cs _ es v _ sK.o.ms dc qm.o HIT.o ⟨none,0,none,0,rfl,bV.nil _ _,bV.nil _ _⟩ (by rw[HQ.o];exact hb)).mono ?_;rintro e w3 ⟨rfl,v3,h3,g3⟩;have uF:=au h3;have qV:=au g3;clear h3 g3 e0 e3 e4 e17 e18;go_wp2_with fail;refine bodyPost_ret (results_none rfl _ _ _) rfl ?_;exact⟨rfl,v3,by rw[←HQ.o];exact uF.o,(Mv.quiet HST.o).trans qV.o⟩
  ·by_cases h3:kd=3
   ·subst h3;(have HQ:Hid (es++yA T it=tot):=by show _=_;rw[←HT.o,if_neg dc,if_neg dc,if_pos rfl]);go_wp2_with (refine aA rfl 51 (.tmp 3) rfl w.heap.size 0 rfl cs _ (fJ HB0.o) Tryz.underlying51 rfl lq.o ?_);refine(Uj him cb tb T it cs es v _ HTF.o sK.o qm.o HIT.o (by rw[HQ.o];exact hb)).mono ?_;rintro e w3 ⟨rfl,v3,h3,g3⟩;have uF:=au h3;have qV:=au g3;clear h3 g3 e0 e3 e4 e17 e18;go_wp2_with fail;refine bodyPost_ret (results_none rfl _ _ _) rfl ?_;exact⟨rfl,v3,by rw[←HQ.o];exact uF.o,(Mv.quiet HST.o).trans qV.o⟩
   ·by_cases h4:kd=4
    ·subst h4;have HQ:Hid ((es++BN T it.gen it.line it.col)++(lU T ⟨it.gen.aB,it.gen.types,true⟩ [] it.fields++(BL T ⟨it.gen.aB,it.gen.types,true⟩ it.ret++Ap T ⟨it.gen.aB,it.gen.types,true⟩ it.wh))=tot):=fZ (by rw[←HT.o,if_neg dc,if_neg dc,if_neg dc,if_pos rfl]);go_wp2_with fail;refine(ND cb tb T it.gen _ it.line it.col es v _ qm.o HGW.o (dL HQ.o hb)).mono ?_;rintro e w2 ⟨rfl,v2,h2,g2⟩;have HC2:=au h2;have tK:=au g2;clear h2 g2 e0 e3 e4 e17 e18;have e3:=lG.o _ _ tK.o 3 _ vN.o.1;have e4:=lG.o _ _ tK.o 4 _ vN.o.2.1;have e5:=lG.o _ _ tK.o 5 _ vN.o.2.2.1;obtain⟨w3,hw3⟩:=aN (w2.alloc (.cells [.slice al it.gen.aB.length cl,.slice at' it.gen.types.length yj,.bool true].toArray 138));(have fK:Hid (StF w2 w3):=by rw[hw3];exact bK.alloc _);(have HB3:Hid (w3.heap[w2.heap.size]?=some (.cells [.slice al it.gen.aB.length cl,.slice at' it.gen.types.length yj,.bool true].toArray 138 (0,0))):=by rw[hw3];exact aC _ _);have HW3:=au hw3;have uF:=au (HC2.o.quiet fK.o);have qV:=au (tK.o.then fK.o);have QY:=au (HC2.o.new (w':=w3) (k:=w2.heap.size) (Nat.le_refl _) (aK HB3.o));(go_upto_region 12 with(refine bT rfl 138 (.tmp 4) (.tmp 51) rfl _ [.slice al it.gen.aB.length cl,.slice at' it.gen.types.length yj,.bool true] rfl rfl Tryz.gB rfl (aU rfl) ?_;rw[hw3.symm]));simp only[Act.put];clear e3 e4 e5 hw3;have e5:=lG.o _ _ qV.o 5 _ vN.o.2.2.1;go_wp2_with (refine aA rfl 138 (.tmp 4) rfl w2.heap.size 0 rfl [.slice al it.gen.aB.length cl,.slice at' it.gen.types.length yj,.bool true] _ (fJ HB3.o) Tryz.underlying138 rfl Tryz.gB ?_);refine(yt him cb tb T it.fields _ _ ⟨it.gen.aB,it.gen.types,true⟩ _ v2 _ sK.o.fs uF.o ((bH fH).mv qV.o HFS.o) (jk.mv qV.o (CJ.o true)) (dL (fZ HQ.o) hb)).mono ?_;rintro e w4 ⟨rfl,v4,h4,g4⟩;have Ip:=au h4;have KH:=au (qV.o.trans g4);have KN:=au g4;have HB34:=au (g4.keep HB3.o QY.o);have HQ4:=au (fZ HQ.o);clear h4 g4 e5;(have Ak:Hid (∀(jj:Nat) v,ct[jj]?=some v→w4.cell? ⟨w.heap.size,6+jj,none⟩=some v):=by intro jj v hv;exact lG.o _ _ KH.o _ _ (QZ.o _ _ hv));go_wp2_with (first
      |(refine aA rfl 46 (.tmp 58) rfl w.heap.size 6 rfl ct _ Ak.o Tryz.underlying46 rfl Gh.o ?_)
      |(refine aA rfl 138 (.tmp 4) rfl w2.heap.size 0 rfl [.slice al it.gen.aB.length cl,.slice at' it.gen.types.length yj,.bool true] _ (fJ HB34.o) Tryz.underlying138 rfl Tryz.gB ?_))
     refine(NC him cb tb T it.ret _ _ ⟨it.gen.aB,it.gen.types,true⟩ _ v4 _ sK.o.rt Ip.o (pY.mv KH.o G_.o) (jk.mv KH.o (CJ.o true)) (dL (fZ HQ4.o) hb)).mono ?_;rintro e w5 ⟨rfl,v5,h5,g5⟩;have wH:=au h5;have Eo:=au (KH.o.trans g5);have Pq:=au ((KN.o.trans g5).keep HB3.o QY.o);have HQ5:=au (fZ HQ4.o);clear h5 g5;have e14:=lG.o _ _ Eo.o 14 _ vN.o.2.2.2.1;go_wp2_with (refine aA rfl 138 (.tmp 4) rfl w2.heap.size 0 rfl [.slice al it.gen.aB.length cl,.slice at' it.gen.types.length yj,.bool true] _ (fJ Pq.o) Tryz.underlying138 rfl Tryz.gB ?_);refine(z_ cb tb T it.wh _ _ ⟨it.gen.aB,it.gen.types,true⟩ _ v5 _ wH.o ((bH fP).mv Eo.o HWH.o) (jk.mv Eo.o (CJ.o true)) (by rw[HQ5.o];exact hb)).mono ?_;rintro e w6 ⟨rfl,v6,h6,g6⟩;have Hf:=au h6;have Uh:=au (Eo.o.trans g6);clear h6 g6 e14;go_wp2_with fail;refine bodyPost_ret (results_none rfl _ _ _) rfl ?_;exact⟨rfl,v6,by rw[←HQ5.o];exact Hf.o,(Mv.quiet HST.o).trans Uh.o⟩
    ·(have HQ:Hid (es=tot):=by show _=_;rw[←HT.o,if_neg h1,if_neg h2,if_neg h3,if_neg h4,List.append_nil]);go_wp2_with fail;refine bodyPost_ret (results_none rfl _ _ _) rfl ?_;exact⟨rfl,v,by rw[←HQ.o];exact qm.o,Mv.quiet HST.o⟩
mutual
def jU:Ty→List ByteArray
 | .mk k n _ _ _ ar _ _=>if k=5 then n::kZ ar else[]
def kZ:List Ty→List ByteArray
 |[]=>[]
 |t::r=>jU t++kZ r
end
theorem Un {l:List Ty} {k:Nat} {x:Ty} (h:l[k]?=some x):kZ (l.drop k)=jU x++kZ (l.drop (k+1)):=by obtain⟨hk,rfl⟩:=List.getElem?_eq_some_iff.1 h;rw[List.drop_eq_getElem_cons hk,kZ]
def iG (l:List ByteArray):List Value:=l.map .string
theorem qf (a b:List ByteArray):iG (a++b)=iG a++iG b:=List.map_append
def wI (l:List ByteArray) (w:World) (e:Ending) (w':World):Prop:=(∃v':Value,e=.returned v'∧w'.ownsRow w.heap.size 9 1 v' l.length (iG l))∧StF w w'
theorem Uo (n:Nat) (P:Nat→Prop) (ih:∀(t:Ty) (cs:List Value) (w:World),SizeOf.sizeOf t<n→iC w P t cs→(jU t).length≤1000000→Calls Tryz.prog 157 #[.agg cs.toArray] w (wI (jU t) w)) (t:Ty) (cs:List Value) (w:World) (hn:SizeOf.sizeOf t<n+1) (ht:iC w P t cs) (hl:(jU t).length≤1000000):Calls Tryz.prog 157 #[.agg cs.toArray] w (wI (jU t) w):=by
 have IH:=au ih;obtain⟨k0,nm,lf,mu,ls,ar,ln,cl⟩:=t;have HT:=au ht;rw[iC]at ht;obtain⟨vl,va,xs,rfl,hnm,-,-,hrl,hta,hra⟩:=ht;obtain⟨al,Iq,rfl⟩:=hrl.parts;obtain⟨aa,ca,rfl⟩:=hra.parts;obtain⟨i0,hi0,hz0,hz1,hz2⟩:=info_parts Tryz.qE;have HI:=au hi0;have HZ0:=au hz0;have HZ1:=au hz1;have HZ2:=au hz2;obtain⟨w1,hw1⟩:=aN (w.alloc (.cells #[ak k0,a_ nm,a_ lf,dW mu,.slice al ls.length Iq,.slice aa ar.length ca,ak ln,ak cl] 46));have HST:=nS hw1
 have HB0:=nB hw1
 have HW1:=au hw1;have Xf:Hid (KG w1 P ar (.slice aa ar.length ca)):=oU.step _ _ HST.o (fun _ _ h=>h) ⟨xs,hra,hta⟩;have Fv:Hid (∀x∈ar,SizeOf.sizeOf x<n):=by intro x hx;have:=List.sizeOf_lt_of_mem hx;simp at hn;omega
 obtain⟨res,hres⟩:=aN (jU (.mk k0 nm lf mu ls ar ln cl));rw[←hres]at hl⊢;have HR:Hid (res=if k0=5 then nm::kZ ar else[]):=by show _=_;rw[hres,jU]
 have d0:=aj HB0.o 0 _ rfl;have d1:=aj HB0.o 1 _ rfl;clear hrl hra hta hw1 hi0 hz0 hz1 hz2 ih hn hres;go_enter Tryz.func157,Tryz.ntmps157;go_upto_region 1 with fail
 rw[←HW1.o];by_cases hk:k0=5
 ·subst hk;have DY:Hid (res=nm::kZ ar):=HR.o.trans (if_pos rfl);obtain⟨w2,hw2⟩:=aN (w1.alloc (.cells #[a_ nm] 9));have HS2:=nS hw2
  have HOW:Hid (w2.ownsRow (w.heap.size+1) 9 1 (.slice (some ⟨w1.heap.size,0,none⟩) 1 1) 1 (iG [nm])):=
   ⟨rfl,.inr ⟨w1.heap.size,1,#[.string nm],rfl,(by have:=aK HB0.o;omega),(by rw[hw2];exact aC _ _),Nat.le_refl _,by decide,rfl,rfl⟩⟩
  have HW2:=au hw2;have HB02:=au (HS2.o.keep HB0.o (fun h=>h));go_upto_region 4 with fail
  rw[←HW2.o];clear hw2 d0 d1;have d5:=aj HB02.o 5 _ rfl;have hbl:=aK HB0.o;go_wp2_with fail;clear d5;go_loopg [3,5,15] ar.length (fun g9 s3 _ s15 wr=>∃(k:Nat) (cur:List ByteArray),s15=.int .i64 k∧k≤ar.length∧ar.length-k≤g9∧wr.ownsRow (w.heap.size+1) 9 1 s3 cur.length (iG cur)∧StF w1 wr∧cur++kZ (ar.drop k)=res);case atStart=>exact⟨0,[nm],rfl,Nat.zero_le _,by omega,HOW.o,HS2.o,DY.o.symm⟩
  case round=>
   obtain⟨k,cur,rfl,hk,hgg,hown,hst,he⟩:=hrel;have qL:=au hst;have HE:=au he;by_cases hlt:k<ar.length
   ·obtain⟨x,hx⟩:∃x,ar[k]?=some x:=⟨ar[k],List.getElem?_eq_getElem hlt⟩;obtain⟨xs,⟨a',c',hva,hcl,hcm,-,hra⟩,hls⟩:=oU.step _ _ hst (fun _ _ h=>h) Xf.o;(obtain⟨rfl,rfl⟩:aa=a'∧ca=c':=by cases hva;exact⟨rfl,rfl⟩);obtain⟨g,o,rfl,hg,hgw,hcell⟩:=hra om;obtain⟨ct,hat,hget⟩:=gy.cells hls hx hcell;have iD:Hid (∀(jj:Nat) v,ct[jj]?=some v→wr.cell? ⟨g,o+k*8+jj,none⟩=some v):=hget;(have lq:Hid ((Tryz.prog.info? 46).map (·.size)=some ct.length):=by rw[hat.len];exact Tryz.eF);have HL8:=au hat.len;have Eh:=au hat.one;obtain⟨w3,hw3⟩:=aN (wr.alloc (.cells ct.toArray 46));(have fK:Hid (StF wr w3):=by rw[hw3];exact bK.alloc _);(have HB3:Hid (w3.heap[wr.heap.size]?=some (.cells ct.toArray 46 (0,0))):=by rw[hw3];exact aC _ _);have HW3:=au hw3;have HX:=au (Fv.o x (List.mem_of_getElem? hx));(have mY:Hid ((cur++jU x)++kZ (ar.drop (k+1))=res):=by rw[List.append_assoc,←Un hx];exact he);(have hlen:cur.length+(jU x).length≤1000000:=by have:=congrArg List.length mY.o;simp at this;omega);have HTX:Hid (iC w3 P x ct):=iC.step fK.o (fun _ _ h=>h) _ _ hat;have HOWN:=au (fK.o.owns hown (fun _ _ h=>h));(have hlb:ar.length≤9223372036854775807:=by omega);obtain⟨va,vc,rfl⟩:=aV hown;clear hcell hx hva hcl hcm hra hg hgw hls hget hat hw3 hown hst he;go_wp2_with (first
     |(refine aA rfl 46 (.tmp 17) rfl g (o+k*8) rfl ct _ iD.o Tryz.underlying46 rfl lq.o ?_)
     |(refine bT rfl 46 (.tmp 5) (.tmp 18) rfl _ ct rfl rfl lq.o (by rw[HL8.o];rfl) Eh.o ?_;rw[←HW3.o])
     |(refine aA rfl 46 (.tmp 5) rfl wr.heap.size 0 rfl ct _ (fJ HB3.o) Tryz.underlying46 rfl lq.o ?_))
    refine(IH.o x ct _ HX.o HTX.o om).mono ?_;rintro e w4 ⟨⟨v4,rfl,hown4⟩,h4⟩;have NM:=au (h4.owns HOWN.o (fun _ _ h=>h));have HRW:Hid (Row w4 (w4.heap.size) v4 (jU x).length (iG (jU x))):=Row.eu hown4 (Nat.le_refl _);have fC:=au ((qL.o.trans fK.o).trans h4);have hsz4:=fC.o.size;obtain⟨v5,v6,rfl⟩:=aV hown4;clear hown4 h4;go_wp2_with (refine dK _ rfl w4.heap.size (.tmp 19) (.tmp 21) 40 rfl (w.heap.size+1) 9 i0 (.string ⟨#[]⟩) 1 16 Tryz.underlying40 HI.o HZ0.o HZ1.o HZ2.o rfl dc _ cur.length _ (by simp[Act.eval]) NM.o _ (jU x).length _ (by simp[Act.eval]) HRW.o (by simp[iG]) (Ac _) (by unfold maxLen;omega) om om ?_;intro v7 w7 qG mG Et)
    have pU:Hid (StF w1 w7):=fC.o.then (bQ mG) (fun i hi e=>by
     have h1:=(NM.o.lt i e).1
     have h2:=aK HB0.o
     have h3:w1.heap.size=w.heap.size+1:=by rw[HW1.o];simp
     omega)
    (have Xy:Hid (w7.ownsRow (w.heap.size+1) 9 1 v7 (cur++jU x).length (iG (cur++jU x))):=by have:=qG;rw[←qf,←List.length_append]at this;exact this);clear qG mG Et;go_roundg (gk-1);case rel=>exact⟨k+1,cur++jU x,by go_num,hlt,sbQ hgg,Xy.o,pU.o,mY.o⟩
    case measure=>omega
   ·(have hk2:k=ar.length:=by omega);(have Df:Hid (cur=res):=by show _=_;have:=he;rw[hk2,List.drop_length,kZ,List.append_nil]at this;exact this);have HOWN:=au hown;obtain⟨va,vc,rfl⟩:=aV hown;clear hown hst he;go_wp2_with fail;go_ret;exact⟨⟨_,rfl,by rw[←Df.o];exact pO HOWN.o (Nat.le_succ _)⟩,HST.o.trans qL.o⟩
 ·have DY:Hid (res=[]):=HR.o.trans (if_neg hk);have q1:(k0 !=5)=true:=by simpa using hk
  clear hk;go_wp2_with fail;go_ret;exact⟨⟨_,rfl,by rw[DY.o];exact⟨rfl,.inl ⟨rfl,rfl⟩⟩⟩,HST.o⟩
theorem NP (P:Nat→Prop):∀(n:Nat) (t:Ty) (cs:List Value) (w:World),SizeOf.sizeOf t<n→iC w P t cs→(jU t).length≤1000000→Calls Tryz.prog 157 #[.agg cs.toArray] w (wI (jU t) w)
 |0,_,_,_,h,_,_=>absurd h (Nat.not_lt_zero _)
 |n+1,t,cs,w,h,ht,hl=>Uo n P (NP P n) t cs w h ht hl
structure Ur (w0:World) (u0 u2 u3 u4 u45 u5:Value) (F:World→List Value→Prop) (ok:Bool) (ty n:Nat) (L:Nat→Bool) (V:Nat→Value) (X:World):Prop where
 st:StF w0 X
 p0:L 0=true→V 0=u0
 p1:L 1=true→V 1=u0
 p2:L 2=true→V 2=u2
 p3:L 3=true→V 3=u3
 p4:L 4=true→V 4=u4
 p5:L 5=true→V 5=u45
 p6:L 6=true→V 6=u5
 p7:L 7=true→∃cs:List Value,V 7=.tuple #[.agg cs.toArray,dW ok]∧F X cs
 p8:L 8=true→∃cs:List Value,V 8=.tuple #[.agg cs.toArray,dW ok]∧F X cs
 p9:L 9=true→∃cs:List Value,V 9=.agg cs.toArray∧F X cs
 p10:L 10=true→V 10=.bool ok
 p11:L 11=true→∃(b:Nat) (c:Array Value),V 11=.pointer (some ⟨b,0,none⟩)∧w0.heap.size≤b∧c.size=n∧X.heap[b]?=some (.cells c ty (0,0))∧(L 12=true→∃cs:List Value,c=cs.toArray∧F X cs)
 p13:L 13=true→V 13=.bool ok
 q12:L 12=true→L 11=true
section
variable {w0 X X' : World} {u0 u2 u3 u4 u45 u5 : Value} {F : World → List Value → Prop} {ok : Bool} {ty n : Nat} {L : Nat → Bool} {V : Nat → Value}
theorem Ur.zero (h:StF w0 X):Ur w0 u0 u2 u3 u4 u45 u5 F ok ty n (fun _=>false) (fun _=>undef) X:=
 ⟨h,gQ,gQ,gQ,gQ,gQ,gQ,gQ,gQ,gQ,gQ,gQ,gQ,gQ,gQ⟩
theorem Ur.step (hF:YJ w0 n F) (h:Ur w0 u0 u2 u3 u4 u45 u5 F ok ty n L V X) (hs:StF X X'):Ur w0 u0 u2 u3 u4 u45 u5 F ok ty n L V X':=
 have hm:Step (fun q=>w0.heap.size≤q) X X':=hs.mono fun _ _ h=>h.elim
 {h with
  st:=h.st.trans hs
  p7:=fun e=>let⟨cs,h1,h2⟩:=h.p7 e;⟨cs,h1,hF.1 _ _ _ hm h2⟩
  p8:=fun e=>let⟨cs,h1,h2⟩:=h.p8 e;⟨cs,h1,hF.1 _ _ _ hm h2⟩
  p9:=fun e=>let⟨cs,h1,h2⟩:=h.p9 e;⟨cs,h1,hF.1 _ _ _ hm h2⟩
  p11:=fun e=>let⟨b,c,h1,h2,h3,h4,h5⟩:=h.p11 e;⟨b,c,h1,h2,h3,hs.keep h4 (fun h=>h),fun e2=>let⟨cs,h6,h7⟩:=h5 e2;⟨cs,h6,hF.1 _ _ _ hm h7⟩⟩}
theorem Ur.Xd (hF:YJ w0 n F) (h:Ur w0 u0 u2 u3 u4 u45 u5 F ok ty n L V X) (c:Array Value) (hc:c.size=n) (Xc:L 11=false):Ur w0 u0 u2 u3 u4 u45 u5 F ok ty n (dO L 11) (iY V 11 (.pointer (some ⟨X.heap.size,0,none⟩))) (X.alloc (.cells c ty)):=by
 have h':=h.step hF (bK.alloc (.cells c ty));have hL:L 12=false:=by
  cases e:L 12 with
  |false=>rfl
  |true=>rw[h.q12 e]at Xc;cases Xc
 exact{h' with p11:=fun _=>⟨X.heap.size,c,rfl,h.st.size,hc,aC _ _,fun e=>by rw[show dO L 11 12=L 12 from rfl,hL]at e;cases e⟩,q12:=fun _=>rfl}
theorem Ur.up12 (hF:YJ w0 n F) (h:Ur w0 u0 u2 u3 u4 u45 u5 F ok ty n L V X) {b:Nat} {cs:List Value} (hb:V 11=.pointer (some ⟨b,0,none⟩)) (hL:L 11=true) (hcs:F X cs) (u:Value) (hX:X'.heap[b]?=some (.cells cs.toArray ty (0,0))) (hs:Step (·=b) X X'):Ur w0 u0 u2 u3 u4 u45 u5 F ok ty n (dO L 12) (iY V 12 u) X':=by
 obtain⟨b',c,h1,h2,h3,h4,h5⟩:=h.p11 hL;obtain rfl:b=b':=by rw[hb]at h1;cases h1;rfl
 have hm:Step (fun q=>w0.heap.size≤q) X X':=hs.mono fun _ _ e=>by rw[e];exact h2
 exact{h with
  st:=h.st.then hs (fun i hi e=>by omega)
  p7:=fun e=>let⟨cs,h1,h2⟩:=h.p7 e;⟨cs,h1,hF.1 _ _ _ hm h2⟩
  p8:=fun e=>let⟨cs,h1,h2⟩:=h.p8 e;⟨cs,h1,hF.1 _ _ _ hm h2⟩
  p9:=fun e=>let⟨cs,h1,h2⟩:=h.p9 e;⟨cs,h1,hF.1 _ _ _ hm h2⟩
  p11:=fun _=>⟨b,cs.toArray,hb,h2,by rw[List.size_toArray];exact(hF.2 _ _ hcs).1,hX,fun _=>⟨cs,rfl,hF.1 _ _ _ hm hcs⟩⟩
  q12:=fun _=>hL}
end
def Jh (w:World) (base:Nat) (v:Value) (l:List ByteArray):Prop:=∃(g o c:Nat) (cur:Array Value),v=.slice (some ⟨g,o,none⟩) l.length c∧base≤g∧w.heap[g]?=some (.cells cur 9 (0,0))∧l.length≤c∧o+c≤cur.size∧c≤maxLen∧∀(i:Nat) x,l[i]?=some x→cur[o+i]?=some (.string x)
theorem Jh.keep {w w':World} {S:Nat→Prop} {base:Nat} {v:Value} {l:List ByteArray} (h:Jh w base v l) (hs:Step S w w') (hn:∀q,v.ownBlock=some q→¬S q):Jh w' base v l:=by obtain⟨g,o,c,cur,rfl,h1,h2,h3⟩:=h;exact⟨g,o,c,cur,rfl,h1,hs.keep h2 (hn g rfl),h3⟩
theorem Jh.lt {w:World} {base:Nat} {v:Value} {l:List ByteArray} (h:Jh w base v l):∀q,v.ownBlock=some q→base≤q∧q<w.heap.size:=by obtain⟨g,o,c,cur,rfl,h1,h2,h3⟩:=h;intro q hq;cases hq;exact⟨h1,aK h2⟩
theorem Jh.eu {w:World} {base:Nat} {v:Value} {l:List ByteArray} (h:w.ownsRow base 9 1 v l.length (iG l)) (hl:0<l.length):Jh w base v l:=by
 obtain⟨h0,h|⟨g,cap,cur,rfl,h1,h2,h3,h4,h5,h6⟩⟩:=h
 ·exact absurd h.2 om
 ·refine⟨g,0,cap,cur,rfl,h1,h2,h3,by omega,h4,fun i x hx=> ?_⟩;have h7:=kz l i x hx;rw[←iG,←h6,List.getElem?_take]at h7;split at h7
  ·rw[Nat.zero_add,←Array.getElem?_toList];exact h7
  ·cases h7
theorem Jh.first {w:World} {base:Nat} {v:Value} {t:ByteArray} {r:List ByteArray} (h:Jh w base v (t::r)):∃(g o c:Nat),v=.slice (some ⟨g,o,none⟩) (r.length+1) c∧w.cell? ⟨g,o,none⟩=some (.string t)∧0<c∧r.length+1≤c∧Jh w base (.slice (some ⟨g,o+1,none⟩) r.length (c-1)) r:=by obtain⟨g,o,c,cur,rfl,h1,h2,h3,h4,h5,h6⟩:=h;simp only[List.length_cons]at h3;refine⟨g,o,c,rfl,aj h2 o _ (h6 0 t rfl),by omega,h3,g,o+1,c-1,cur,rfl,h1,h2,by omega,by omega,by omega,fun i x hx=> ?_⟩;have:=h6 (i+1) x hx;rw[show o+1+i=o+(i+1) by omega];exact this
theorem setCells_one (w:World) (b o:Nat) (x:Value):w.setCells b o [x]=w.setCell ⟨b,o,none⟩ x:=by simp[World.setCells]
theorem Jh.room {w:World} {base g o n c:Nat} {l:List ByteArray} {s:ByteArray} (h:Jh w base (.slice (some ⟨g,o,none⟩) n c) l) (hn:n=l.length) (hc:n+1≤c):Jh (w.setCell ⟨g,o+n,none⟩ (.string s)) base (.slice (some ⟨g,o,none⟩) (n+1) c) (l++[s]):=by
 obtain⟨g',o',c',cur,hv,h1,h2,h3,h4,h5,h6⟩:=h;cases hv;refine⟨g,o,c,_,by rw[List.length_append,List.length_singleton],h1,aW h2 _ _,by simp;omega,by simpa using h4,h5,fun i x hx=> ?_⟩;by_cases hi:i<l.length
 ·rw[List.getElem?_append_left hi]at hx;rw[Array.getElem?_setIfInBounds_ne om];exact h6 i x hx
 ·obtain rfl:i=l.length:=by have:=(List.getElem?_eq_some_iff.1 hx).1;simp at this;omega
  rw[List.getElem?_append_right (Nat.le_refl _),Nat.sub_self]at hx;cases hx;rw[Array.getElem?_setIfInBounds_self_of_lt om]
theorem ownsRow_setCell_other {w:World} {base:Nat} {e:TypeId} {size:Nat} {v u:Value} {n:Nat} {xs:List Value} {a:Addr} (h:w.ownsRow base e size v n xs) (hn:v.ownBlock≠some a.block):(w.setCell a u).ownsRow base e size v n xs:=by
 obtain⟨h0,h|⟨g,cap,cur,rfl,h1,h2,h3⟩⟩:=h
 ·exact⟨h0,.inl h⟩
 ·exact⟨h0,.inr ⟨g,cap,cur,rfl,h1,((Step.refl (fun q=>q=a.block) w).setCell a u iW).keep h2 (fun e=>hn (by rw[←e];rfl)),h3⟩⟩
structure u_ (w0 X:World) (vo vt:Value) (out todo:List ByteArray):Prop where
 st:StF w0 X
 out:X.ownsRow w0.heap.size 9 1 vo out.length (iG out)
 todo:Jh X w0.heap.size vt todo
 ne:∀q,vo.ownBlock=some q→vt.ownBlock≠some q
section
variable {w0 X X' : World} {vo vt v6 : Value} {out todo : List ByteArray} {s : ByteArray}
theorem u_.quiet (h:u_ w0 X vo vt out todo) (hs:StF X X'):u_ w0 X' vo vt out todo:=
 ⟨h.st.trans hs,hs.owns h.out (fun _ _ h=>h),h.todo.keep hs (fun _ _ h=>h),h.ne⟩
theorem u_.Xz (h:u_ w0 X vo vt out todo) (hown:X'.ownsRow w0.heap.size 9 1 v6 (out.length+1) (iG out++[.string s])) (hgrow:X.grownBy X' vo.ownBlock) (hat:v6.ownBlock=vo.ownBlock∨v6.ownBlock=some X.heap.size):u_ w0 X' v6 vt (out++[s]) todo where
 st:=h.st.then (bQ hgrow) (fun i hi e=>by have:=(h.out.lt i e).1;omega)
 out:=by rw[List.length_append,qf];exact hown
 todo:=h.todo.keep (bQ hgrow) (fun q hq e=>h.ne q e hq)
 ne:=fun q hq e=>by
  rcases hat with h1|h1
  ·
   exact h.ne q (h1▸hq) e
  ·
   rw[h1]at hq;cases hq;exact absurd (h.todo.lt _ e).2 (Nat.lt_irrefl _)
theorem u_.room {g o n c:Nat} (h:u_ w0 X vo (.slice (some ⟨g,o,none⟩) n c) out todo) (hn:n=todo.length) (hc:n+1≤c):u_ w0 (X.setCell ⟨g,o+n,none⟩ (.string s)) vo (.slice (some ⟨g,o,none⟩) (n+1) c) out (todo++[s]):=
 have hs:Step (fun q=>q=g) X (X.setCell ⟨g,o+n,none⟩ (.string s)):=bK.setCell _ _ iW
 {st:=h.st.then hs (fun i hi e=>by have:=(h.todo.lt g rfl).1;omega)
  out:=ownsRow_setCell_other h.out (fun e=>h.ne g e rfl)
  todo:=h.todo.room hn hc
  ne:=h.ne}
theorem u_.grow (h:u_ w0 X vo vt out todo) (hown:X'.ownsRow X.heap.size 9 1 v6 (todo.length+1) (iG todo++[.string s])) (hgrow:X.grownBy X' none):u_ w0 X' vo v6 out (todo++[s]):=
 have hs:StF X X':=(bQ hgrow).mono (fun _ _ h=>nomatch h)
 {st:=h.st.trans hs
  out:=hs.owns h.out (fun _ _ h=>h)
  todo:=Jh.eu (by rw[List.length_append,qf];exact pO hown h.st.size) (by simp)
  ne:=fun q hq e=>by have h1:=(h.out.lt q hq).2;have h2:=(hown.lt q e).1;omega}
end
end Go.Proofs.YtppekkbaoimpgaaGreat
