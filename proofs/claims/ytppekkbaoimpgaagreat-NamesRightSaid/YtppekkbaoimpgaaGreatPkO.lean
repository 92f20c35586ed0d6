import Derived.Test.YtppekkbaoimpgaaGreatPkN
set_option maxRecDepth 100000
set_option maxHeartbeats 80000000
namespace Go.Proofs.YtppekkbaoimpgaaGreat
open Go.RowKit
open Vt
def Xe (T:Tab) (s:Sc):Ty→List Er
 | .mk _ n _ _ ls ar ln cl=>jH s.aB ln cl ls++(g_ T s false ar++Dt T s n ls.length ar.length ln cl)
theorem Tab.get_none {T:Tab} {m:ByteArray→Option Nat} {s:ByteArray} (h:(m s).isSome=false):T.get m s=none:=by
 rw[Tab.get];cases hm:m s with
 |none=>rfl
 |some i=>rw[hm]at h;cases h
theorem Tab.get_some {T:Tab} {m:ByteArray→Option Nat} {s:ByteArray} (hm:∀i,m s=some i→i<T.items.length) (h:(m s).isSome=true):∃x,T.get m s=some x:=by
 rw[Tab.get];cases h2:m s with
 |none=>rw[h2]at h;cases h
 |some i=>exact⟨T.items[i]'(hm i h2),by rw[Option.bind_some];exact List.getElem?_eq_getElem _⟩
theorem Ny {IM:World→Nat→(ByteArray→ByteArray→Option Nat)→Prop} (him:x_ IM) (cb tb:Nat) (T:Tab) (n:Nat) (ih:BJ cb (.pointer (some ⟨tb,0,none⟩)) (TabAt IM tb T) T n) (t:Ty) (ut us:Value) (s:Sc) (es:List Er) (v:Value) (w:World) (hn:SizeOf.sizeOf t<n+1) (hfit:mF t) (h:mQ cb (.pointer (some ⟨tb,0,none⟩)) (TabAt IM tb T) w v es) (ht:CP w (Out cb v w) t ut) (hs:IX w (Out cb v w) s us) (hb:(es++Xe T s t).length≤1000000000):Calls Tryz.prog 118 #[.pointer (some ⟨cb,0,none⟩),ut,us] w (ny cb (.pointer (some ⟨tb,0,none⟩)) (TabAt IM tb T) w v (es++Xe T s t)):=by
 have vM:=au hs;have IH:=au ih;obtain⟨a1,c1,a2,c2,rfl,-,-⟩:=hs;obtain⟨k0,nm,lf,mu,ls,ar,ln,cl⟩:=t;obtain⟨cs,rfl,hty⟩:=ht;rw[iC]at hty;rw[mF]at hfit;have sK:=au hfit;obtain⟨vl,va,xs,rfl,hnm,-,hls,hrl,hta,hra⟩:=hty;obtain⟨al,Iq,rfl⟩:=hrl.parts;obtain⟨aa,ca,rfl⟩:=hra.parts;obtain⟨w1,hw1⟩:=aN ((w.alloc (.cells #[ak k0,a_ nm,a_ lf,dW mu,.slice al ls.length Iq,.slice aa ar.length ca,ak ln,ak cl] 46)).alloc (.cells #[.slice a1 s.aB.length c1,.slice a2 s.types.length c2,dW s.dF] 138));have HST:=nT hw1
 have HB0:=nC hw1
 have HB1:=nD hw1
 have HW1:=au hw1;have qm:=au (h.quiet HST.o);have HNL:Hid (bV w1 (Out cb v w1) ls (.slice al ls.length Iq)):=aX.mv (Mv.quiet HST.o) ⟨hls,hrl⟩;have Xf:Hid (KG w1 (Out cb v w1) ar (.slice aa ar.length ca)):=oU.mv (Mv.quiet HST.o) ⟨xs,hra,hta⟩;have HS:=au (jk.mv (Mv.quiet HST.o) vM.o);have Jf:=au (h.new (w':=w1) (k:=w.heap.size) (Nat.le_refl _) (aK HB0.o));have Nz:=au (h.new (w':=w1) (k:=w.heap.size+1) (Nat.le_succ _) (aK HB1.o));have G8:=au hnm;obtain⟨tot,htt⟩:=aN (es++Xe T s (.mk k0 nm lf mu ls ar ln cl));rw[←htt]at hb⊢;have HT:Hid (es++(jH s.aB ln cl ls++(g_ T s false ar++Dt T s nm ls.length ar.length ln cl))=tot):=htt.symm;have Fv:Hid (SizeOf.sizeOf ar<n):=by show _<_;simp at hn;omega
 clear h hw1 hls hrl hta hra htt ih vM hn hnm hfit;go_enter Tryz.func118,Tryz.ntmps118;go_upto_region 1 with fail
 rw[←HW1.o];have d4:=aj HB0.o 4 _ rfl;go_wp2_with fail;clear d4;go_loopg [7,13] ls.length (fun gg _ s13 wr=>∃(k:Nat) (cur:List Er) (v1:Value),s13=.int .i64 k∧k≤ls.length∧ls.length-k≤gg∧mQ cb (.pointer (some ⟨tb,0,none⟩)) (TabAt IM tb T) wr v1 cur∧Mv cb w1 v wr v1∧cur++(jH s.aB ln cl (ls.drop k)++(g_ T s false ar++Dt T s nm ls.length ar.length ln cl))=tot);case atStart=>exact⟨0,es,v,rfl,Nat.zero_le _,by omega,qm.o,Mv.refl _ _ _,HT.o⟩
 case round=>
  obtain⟨k,cur,v1,rfl,hk,hgg,hc,hm,he⟩:=hrel;have HC:=au hc;have HM:=au hm;have HE:=au he;clear hc hm he;have aam:=au (HM.o.keep HB0.o Jf.o);have HBM1:=au (HM.o.keep HB1.o Nz.o);by_cases hlt:k<ls.length
  ·obtain⟨x,hx⟩:∃x,ls[k]?=some x:=⟨ls[k],List.getElem?_eq_getElem hlt⟩;obtain⟨a',c',hva,hcl,hcm,-,hra⟩:=(aX.mv HM.o HNL.o).2;(obtain⟨rfl,rfl⟩:al=a'∧Iq=c':=by cases hva;exact⟨rfl,rfl⟩);obtain⟨g,o,rfl,-,-,hcell⟩:=hra om;have f0:=hcell k _ (kz ls k x hx);have e6:=aj aam.o 6 _ rfl;have e7:=aj aam.o 7 _ rfl;have mY:Hid ((cur++jI s.aB x ln cl)++(jH s.aB ln cl (ls.drop (k+1))++(g_ T s false ar++Dt T s nm ls.length ar.length ln cl))=tot):=fZ (by rw[←List.append_assoc (jI _ _ _ _),←Je hx];exact HE.o);(have hlb:ls.length≤9223372036854775807:=by omega);clear hcell hx hva hcl hcm hra;go_wp2_with (refine aA rfl 138 (.tmp 5) rfl (w.heap.size+1) 0 rfl [.slice a1 s.aB.length c1,.slice a2 s.types.length c2,.bool s.dF] _ (fJ HBM1.o) Tryz.underlying138 rfl Tryz.gB ?_);refine(rC cb _ _ x s _ ln cl cur v1 _ HC.o (jk.mv HM.o HS.o) (dL (List.append_assoc _ _ _▸mY.o) hb)).mono ?_;rintro e w4 ⟨rfl,v4,h4,h5⟩;have Ip:=au h4;have KH:=au (HM.o.trans h5);clear h4 h5 e6 e7;go_wp2_with fail;go_roundg (gk-1);case rel=>exact⟨k+1,_,v4,by go_num,hlt,sbQ hgg,Ip.o,KH.o,mY.o⟩
   case measure=>omega
  ·(have hk2:k=ls.length:=by omega);(have HE2:Hid ((cur++g_ T s false ar)++Dt T s nm ls.length ar.length ln cl=tot):=by show _=_;have:=HE.o;rw[hk2,List.drop_length,jH,List.nil_append]at this;exact fZ this);have e5:=aj aam.o 5 _ rfl;clear hk2;go_wp2_with (refine aA rfl 138 (.tmp 5) rfl (w.heap.size+1) 0 rfl [.slice a1 s.aB.length c1,.slice a2 s.types.length c2,.bool s.dF] _ (fJ HBM1.o) Tryz.underlying138 rfl Tryz.gB ?_);refine(IH.o ar _ _ s false cur v1 _ Fv.o sK.o.2 HC.o (oU.mv HM.o Xf.o) (jk.mv HM.o HS.o) (dL HE2.o hb)).mono ?_;rintro e w4 ⟨rfl,v4,h4,h5⟩;have Ip:=au h4;have KH:=au (HM.o.trans h5);have HB40:=au (KH.o.keep HB0.o Jf.o);have Ig:=au (KH.o.keep HB1.o Nz.o);clear h4 h5 e5 aam HBM1 HE HC;have g1:=aj Ig.o 1 _ rfl;have g2:=aj HB40.o 1 _ rfl;(have Y8:Hid (Calls Tryz.prog 104 #[.slice a2 s.types.length c2,.string nm] w4 fun e w'=>e=.returned (.bool (s.types.any (eqS nm)))∧StF w4 w'):=by obtain⟨_,_,_,_,hq,-,hq2⟩:=jk.mv KH.o HS.o;cases hq;exact kD _ nm _ _ _ hq2.2);obtain⟨bc,hbc⟩:=aN (s.types.any (eqS nm));rw[←hbc]at Y8;obtain⟨E,hE⟩:=aN (Dt T s nm ls.length ar.length ln cl);rw[←hE]at HE2;rw[Dt,←hbc]at hE;have HEE:=au hE;clear hE hbc;go_wp2_with fail;refine Y8.o.mono ?_;rintro e w5 ⟨rfl,h5⟩;have wH:=au (Ip.o.quiet h5);have Eo:=au (KH.o.then h5);have Ug:=au (h5.keep HB40.o (fun h=>h));have HB51:=au (h5.keep Ig.o (fun h=>h));clear h5 g1 g2;cases bc with
   |true=>
    have e4:=aj Ug.o 4 _ rfl;have e5:=aj Ug.o 5 _ rfl;have hf8:=sK.o.1;(have hsum:wrap64 ((ls.length:Int)+(ar.length:Int))=(ls.length:Int)+(ar.length:Int):=by unfold wrap64;omega);by_cases hz:ls.length+ar.length=0
    ·(have EG:Hid (E=[]):=by show _=_;rw[HEE.o,if_pos rfl,if_neg om]);(have hgt:¬(0:Int)<(ls.length:Int)+(ar.length:Int):=by omega);clear hz;go_wp2_with fail;refine bodyPost_ret (results_none rfl _ _ _) rfl ?_;exact⟨rfl,v4,by rw[←HE2.o,EG.o,List.append_nil];exact wH.o,(Mv.quiet HST.o).trans Eo.o⟩
    ·(have EG:Hid (E=[(5,ln,cl)]):=by show _=_;rw[HEE.o,if_pos rfl,if_pos om]);(have hgt:(0:Int)<(ls.length:Int)+(ar.length:Int):=by omega);have e6:=aj Ug.o 6 _ rfl;have e7:=aj Ug.o 7 _ rfl;clear hz;go_wp2_with fail;refine(fB cb _ _ 5 ln cl _ v4 _ wH.o (dL HE2.o hb)).mono ?_;rintro e w6 ⟨rfl,v6,h6,h7⟩;have Hf:=au h6;have Uh:=au (Eo.o.trans h7);clear h6 h7 e6 e7 e4 e5;go_wp2_with fail;refine bodyPost_ret (results_none rfl _ _ _) rfl ?_;exact⟨rfl,v6,by rw[←HE2.o,EG.o];exact Hf.o,(Mv.quiet HST.o).trans Uh.o⟩
   |false=>
    (have HEF:Hid (E=match T.get T.st nm with|none=>[(3,ln,cl)]|some x=>if ar.length≠x.gen.types.length then[(5,ln,cl)]else if ls.length≠x.gen.aB.length∧(0<ls.length∨s.dF=false)then[(5,ln,cl)]else[]):=by show _=_;rw[HEE.o,if_neg dc];rfl);(have UR:Hid (∀X,StF w5 X→Calls Tryz.prog 25 #[.pointer (some ⟨tb,0,none⟩),.string nm] X (fun e w'=>(∃cs:List Value,e=.returned (.tuple #[.agg cs.toArray,dW (T.st nm).isSome])∧lm w' (Out cb v4 w5) ((T.get T.st nm).getD qZ) cs)∧StF X w')):=by intro X hX;exact KF him tb T _ nm X (wH.o.ok.step hX (fun _ _ h=>h) wH.o.tab) G8.o (fun k hk=>Nat.lt_of_lt_of_le hk.1 hX.size));(have P5:Hid (∀X,StF w5 X→X.cell? ⟨cb,0,none⟩=some (.pointer (some ⟨tb,0,none⟩))∧X.cell? ⟨w.heap.size,1,none⟩=some (.string nm)):=by intro X hX;exact⟨aj (hX.keep wH.o.blk (fun h=>h)) 0 _ rfl,aj (hX.keep Ug.o (fun h=>h)) 1 _ rfl⟩);obtain⟨ok,hok⟩:=aN (T.st nm).isSome;have uG:=au hok;obtain⟨it,hit⟩:=aN ((T.get T.st nm).getD qZ);have HIT:=au hit;clear hok hit;have Xg:Hid (YJ w5 19 (fun X cs=>lm X (Out cb v4 w5) it cs)):=⟨fun X X' cs hs h=>aQ.step _ _ hs (fun k hk e=>by have:=hk.1;omega) h,fun X cs h=>⟨aQ.len _ _ h,aQ.one _ _ h⟩⟩;rw[←uG.o,←HIT.o]at UR;(go_upto_region 10 with fail);go_cut [8,9] (fun s8 s9 wx=>∃(b8:Nat) (cs:List Value),s8=.pointer (some ⟨b8,0,none⟩)∧s9=.bool ok∧w5.heap.size≤b8∧wx.heap[b8]?=some (.cells cs.toArray 51 (0,0))∧lm wx (Out cb v4 w5) it cs∧StF w5 wx);case first=>
     refine kP kr (Nw w5 (.pointer (some ⟨cb,0,none⟩)) (.pointer (some ⟨cb,0,none⟩)) (.pointer (some ⟨tb,0,none⟩)) (.pointer (some ⟨w.heap.size,1,none⟩)) (.string nm) (fun X cs=>lm X (Out cb v4 w5) it cs) ok 51 19) 13 rfl kr kr kr kr ?h0 ?hs ?hdone;case h0=>exact Nw.zero (bK.drew)
     case hs=>
      refine⟨?_,?_,?_,?_,?_,?_,?_,?_,?_,?_,?_,?_,?_,trivial⟩
      ·intro L V X a ev dG hL ax hJ;have o0:=dG 0 rfl;change a.tmps[0]?.getD undef=.pointer (some ⟨cb,0,none⟩)at o0;go_simp;exact⟨_,rfl,{hJ with p0:=fun _=>rfl}⟩
      ·intro L V X a ev dG hL ax hJ;have e47:=(ev 0 47 rfl (ax 0 rfl)).trans (hJ.p0 (ax 0 rfl));go_simp;exact⟨_,rfl,{hJ with p1:=fun _=>rfl}⟩
      ·intro L V X a ev dG hL ax hJ;have e48:=(ev 1 48 rfl (ax 1 rfl)).trans (hJ.p1 (ax 1 rfl));go_simp;exact⟨_,rfl,{hJ with p2:=fun _=>rfl}⟩
      ·intro L V X a ev dG hL ax hJ;have e49:=(ev 2 49 rfl (ax 2 rfl)).trans (hJ.p2 (ax 2 rfl));obtain⟨k1,k2⟩:=P5.o X hJ.st;go_simp;exact⟨_,rfl,{hJ with p3:=fun _=>rfl}⟩
      ·intro L V X a ev dG hL ax hJ;have o4:=dG 4 rfl;change a.tmps[4]?.getD undef=.pointer (some ⟨w.heap.size,0,none⟩)at o4;go_simp;exact⟨_,rfl,{hJ with p4:=fun _=>rfl}⟩
      ·intro L V X a ev dG hL ax hJ;have e51:=(ev 4 51 rfl (ax 4 rfl)).trans (hJ.p4 (ax 4 rfl));obtain⟨k1,k2⟩:=P5.o X hJ.st;go_simp;exact⟨_,rfl,{hJ with p5:=fun _=>rfl}⟩
      ·intro L V X a ev dG hL ax hJ;have e50:=(ev 3 50 rfl (ax 3 rfl)).trans (hJ.p3 (ax 3 rfl));have e52:=(ev 5 52 rfl (ax 5 rfl)).trans (hJ.p5 (ax 5 rfl));go_simp;refine(UR.o X hJ.st).mono ?_;rintro e w6 ⟨⟨cs,rfl,hat⟩,h6⟩;exact⟨_,rfl,{hJ.step Xg.o h6 with p6:=fun _=>⟨cs,rfl,hat⟩}⟩
      ·intro L V X a ev dG hL ax hJ;obtain⟨cs,y1,y2⟩:=hJ.p6 (ax 6 rfl);have e53:=(ev 6 53 rfl (ax 6 rfl)).trans (y1);go_simp;exact⟨_,rfl,{hJ with p7:=fun _=>⟨cs,rfl,y2⟩}⟩
      ·intro L V X a ev dG hL ax hJ;obtain⟨cs,y1,y2⟩:=hJ.p7 (ax 7 rfl);have e46:=(ev 7 46 rfl (ax 7 rfl)).trans (y1);go_simp;exact⟨_,rfl,{hJ with p8:=fun _=>⟨cs,rfl,y2⟩}⟩
      ·intro L V X a ev dG hL ax hJ;obtain⟨cs,y1,y2⟩:=hJ.p7 (ax 7 rfl);have e46:=(ev 7 46 rfl (ax 7 rfl)).trans (y1);go_simp;exact⟨_,rfl,{hJ with p9:=fun _=>rfl}⟩
      ·intro L V X a ev dG hL ax hJ;go_simp;exact⟨_,rfl,hJ.up10 Xg.o _ rfl hL⟩
      ·intro L V X a ev dG hL ax hJ;obtain⟨b9,c9,y1,y2,y3,y4,-⟩:=hJ.p10 (ax 10 rfl);obtain⟨cs,z1,z2⟩:=hJ.p8 (ax 8 rfl);obtain⟨z3,z4⟩:=Xg.o.2 _ _ z2;have e8:=(ev 10 8 rfl (ax 10 rfl)).trans (y1);have e54:=(ev 8 54 rfl (ax 8 rfl)).trans (z1);refine eH 51 (.tmp 8) (.tmp 54) rfl b9 0 51 c9 cs (by rw[bM];exact e8) (by rw[bM];exact e54) y4 (by rw[z3];exact Tryz.dI) om z4 ?_;intro w9 iJ hs9;rw[EF om]at iJ;exact⟨undef,rfl,hJ.Xd Xg.o y1 (ax 10 rfl) z2 undef iJ hs9⟩
      ·intro L V X a ev dG hL ax hJ;have e55:=(ev 9 55 rfl (ax 9 rfl)).trans (hJ.p9 (ax 9 rfl));go_simp;exact⟨_,rfl,{hJ with p12:=fun _=>rfl}⟩
     case hdone=>intro L V X hall hJ;obtain⟨b8,c8,h1,h2,-,h4,h5⟩:=hJ.p10 (hall 10 dc);obtain⟨cs8,rfl,hcs⟩:=h5 (hall 11 dc);have h12:=hJ.p12 (hall 12 dc);have hst:=hJ.st;rw[rgQ13];simp only[kJ,fO,gsQ,o9];go_wp2_with fail;go_meet;case rel=>exact⟨b8,cs8,h1,h12,h2,h4,hcs,hst⟩
    case rest=>
     obtain⟨b8,cs,rfl,rfl,hb8,hblk,hat,hst⟩:=hcut;obtain⟨w9,rfl⟩:=aN wc;have BA:=au (wH.o.quiet hst);have UU:=au (Eo.o.then hst);have hb0:=hst.keep Ug.o (fun h=>h);have hb1:=hst.keep HB51.o (fun h=>h);have e4:=aj hb0 4 _ rfl;have e5:=aj hb0 5 _ rfl;have e6:=aj hb0 6 _ rfl;have e7:=aj hb0 7 _ rfl;have s2:=aj hb1 2 _ rfl;have hfit8:=sK.o.1;(obtain⟨a3,c3,a4,c4,hc3,hc4⟩:∃(a3:Option Addr) (c3:Nat) (a4:Option Addr) (c4:Nat),cs[3]?=some (.slice a3 it.gen.aB.length c3)∧cs[4]?=some (.slice a4 it.gen.types.length c4):=by obtain⟨ct,vl,vt,vf,vw,vm,vb,rfl,-,-,hl,ht,-⟩:=hat;obtain⟨al,cl,rfl⟩:=hl.2.parts;obtain⟨at',yj,rfl⟩:=ht.2.parts;exact⟨_,_,_,_,rfl,rfl⟩);have g3:=aj hblk 3 _ (by rw[List.getElem?_toArray];exact hc3);have g4:=aj hblk 4 _ (by rw[List.getElem?_toArray];exact hc4);clear hb0 hb1 hc3 hc4 hat hst hblk UR P5 Xg;cases ok with
     |false=>(have EG:Hid (E=[(3,ln,cl)]):=by show _=_;rw[HEF.o,Tab.get_none uG.o.symm]);go_wp2_with fail;refine(fB cb _ _ 3 ln cl _ v4 _ BA.o (dL HE2.o hb)).mono ?_;rintro e w10 ⟨rfl,v10,h10,h11⟩;have Gf:=au h10;have P6:=au (UU.o.trans h11);clear h10 h11;go_wp2_with fail;refine bodyPost_ret (results_none rfl _ _ _) rfl ?_;exact⟨rfl,v10,by rw[←HE2.o,EG.o];exact Gf.o,(Mv.quiet HST.o).trans P6.o⟩
     |true=>
      obtain⟨x,hx⟩:=Tab.get_some (BA.o.tab.st nm) uG.o.symm;(obtain rfl:it=x:=by rw[HIT.o,hx];rfl);(have HEG:Hid (E=if ar.length≠it.gen.types.length then[(5,ln,cl)]else if ls.length≠it.gen.aB.length∧(0<ls.length∨s.dF=false)then[(5,ln,cl)]else[]):=by show _=_;rw[HEF.o,hx]);clear hx;by_cases hq:ar.length=it.gen.types.length
      ·(have HEH:Hid (E=if ls.length≠it.gen.aB.length∧(0<ls.length∨s.dF=false)then[(5,ln,cl)]else[]):=by show _=_;rw[HEG.o,if_neg om]);(have q1:((ar.length:Int) !=(it.gen.types.length:Int))=false:=by simp;omega);by_cases hq2:ls.length=it.gen.aB.length
       ·(have EG:Hid (E=[]):=by show _=_;rw[HEH.o,if_neg om]);(have q2:((ls.length:Int) !=(it.gen.aB.length:Int))=false:=by simp;omega);clear hq hq2;go_wp2_with fail;refine bodyPost_ret (results_none rfl _ _ _) rfl ?_;exact⟨rfl,v4,by rw[←HE2.o,EG.o,List.append_nil];exact BA.o,(Mv.quiet HST.o).trans UU.o⟩
       ·(have q2:((ls.length:Int) !=(it.gen.aB.length:Int))=true:=by simp;omega);by_cases hz:ls.length=0
        ·obtain rfl:ls=[]:=List.length_eq_zero_iff.1 hz;(have q5:((0:Int) !=(it.gen.aB.length:Int))=true:=by simpa using q2);clear q2;obtain⟨el,hel⟩:=aN s.dF;rw[←hel]at HEH s2;clear hel;cases el with
         |true=>(have EG:Hid (E=[]):=by show _=_;rw[HEH.o,if_neg (fun h=>h.2.elim (fun h=>Nat.lt_irrefl _ h) gQ)]);clear hq hq2 hz;go_wp2_with fail;refine bodyPost_ret (results_none rfl _ _ _) rfl ?_;exact⟨rfl,v4,by rw[←HE2.o,EG.o,List.append_nil];exact BA.o,(Mv.quiet HST.o).trans UU.o⟩
         |false=>(have EG:Hid (E=[(5,ln,cl)]):=by show _=_;rw[HEH.o,if_pos ⟨hq2,.inr rfl⟩]);clear hq hq2 hz;go_wp2_with fail;refine(fB cb _ _ 5 ln cl _ v4 _ BA.o (dL HE2.o hb)).mono ?_;rintro e w10 ⟨rfl,v10,h10,h11⟩;have Gf:=au h10;have P6:=au (UU.o.trans h11);clear h10 h11;go_wp2_with fail;refine bodyPost_ret (results_none rfl _ _ _) rfl ?_;exact⟨rfl,v10,by rw[←HE2.o,EG.o];exact Gf.o,(Mv.quiet HST.o).trans P6.o⟩
        ·(have q4:(0:Int)<(ls.length:Int):=by omega);have q8:¬ls=[]:=fun e=>hz (by rw[e];rfl);(have q9:0<ls.length:=by omega);(have EG:Hid (E=[(5,ln,cl)]):=by show _=_;rw[HEH.o,if_pos ⟨hq2,.inl om⟩]);clear hq hq2 hz;go_wp2_with fail;refine(fB cb _ _ 5 ln cl _ v4 _ BA.o (dL HE2.o hb)).mono ?_;rintro e w10 ⟨rfl,v10,h10,h11⟩;have Gf:=au h10;have P6:=au (UU.o.trans h11);clear h10 h11;go_wp2_with fail;refine bodyPost_ret (results_none rfl _ _ _) rfl ?_;exact⟨rfl,v10,by rw[←HE2.o,EG.o];exact Gf.o,(Mv.quiet HST.o).trans P6.o⟩
      ·(have q1:((ar.length:Int) !=(it.gen.types.length:Int))=true:=by simp;omega);(have EG:Hid (E=[(5,ln,cl)]):=by show _=_;rw[HEG.o,if_pos hq]);clear hq;go_wp2_with fail;refine(fB cb _ _ 5 ln cl _ v4 _ BA.o (dL HE2.o hb)).mono ?_;rintro e w10 ⟨rfl,v10,h10,h11⟩;have Gf:=au h10;have P6:=au (UU.o.trans h11);clear h10 h11;go_wp2_with fail;refine bodyPost_ret (results_none rfl _ _ _) rfl ?_;exact⟨rfl,v10,by rw[←HE2.o,EG.o];exact Gf.o,(Mv.quiet HST.o).trans P6.o⟩
theorem Ui {IM:World→Nat→(ByteArray→ByteArray→Option Nat)→Prop} (him:x_ IM) (cb tb:Nat) (T:Tab) (n:Nat) (ih:BJ cb (.pointer (some ⟨tb,0,none⟩)) (TabAt IM tb T) T n):PZ cb (.pointer (some ⟨tb,0,none⟩)) (TabAt IM tb T) T (n+1):=by
 intro t ut us s b es v w hn hfit h ht hs hb;have vM:=au hs;have IH:=au ih;have OW:=au ht;have HFF:=au hfit;have HN:=au hn;obtain⟨a1,c1,a2,c2,rfl,-,-⟩:=hs;obtain⟨k0,nm,lf,mu,ls,ar,ln,cl⟩:=t;obtain⟨cs,rfl,hty⟩:=ht;rw[iC]at hty;rw[mF]at hfit;obtain⟨vl,va,xs,rfl,hnm,hlf,hls,hrl,hta,hra⟩:=hty;obtain⟨al,Iq,rfl⟩:=hrl.parts;obtain⟨aa,ca,rfl⟩:=hra.parts;obtain⟨w1,hw1⟩:=aN ((w.alloc (.cells #[ak k0,a_ nm,a_ lf,dW mu,.slice al ls.length Iq,.slice aa ar.length ca,ak ln,ak cl] 46)).alloc (.cells #[.slice a1 s.aB.length c1,.slice a2 s.types.length c2,dW s.dF] 138));have HST:=nT hw1
 have HB0:=nC hw1
 have HB1:=nD hw1
 have HW1:=au hw1;have qm:=au (h.quiet HST.o);have Xf:Hid (KG w1 (Out cb v w1) ar (.slice aa ar.length ca)):=oU.mv (Mv.quiet HST.o) ⟨xs,hra,hta⟩;have G_:=au (pY.mv (Mv.quiet HST.o) OW.o);have HS:=au (jk.mv (Mv.quiet HST.o) vM.o);have Jf:=au (h.new (w':=w1) (k:=w.heap.size) (Nat.le_refl _) (aK HB0.o));have Nz:=au (h.new (w':=w1) (k:=w.heap.size+1) (Nat.le_succ _) (aK HB1.o));have G8:=au hnm;have HFI:=au hfit.2;have Fv:Hid (SizeOf.sizeOf ar<n):=by show _<_;simp at hn;omega
 obtain⟨E,hE⟩:=aN (qO T s b (.mk k0 nm lf mu ls ar ln cl));rw[←hE]at hb⊢
 have HE:Hid (E=if k0=6 then g_ T s true ar
  else if k0=7 then(if lf.size=0∧s.dF=true then[]else jI s.aB lf ln cl)++g_ T s true ar
  else if k0=8 then(if b then[]else[(5,ln,cl)])++((if(T.tr nm).isSome then[]else[(3,ln,cl)])++(if lf.size=0 then[]else jI s.aB lf ln cl))
  else if k0=5 then Xe T s (.mk k0 nm lf mu ls ar ln cl)
  else[]):=by show _=_;rw[hE,qO];rfl
 clear h hw1 hls hrl hta hra hE ih vM hn hnm hlf hfit OW;have d0:=aj HB0.o 0 _ rfl;have d2:w1.cell? ⟨w.heap.size,2,none⟩=some (.string lf):=aj HB0.o 2 _ rfl;have d5:=aj HB0.o 5 _ rfl;have d6:=aj HB0.o 6 _ rfl;have d7:=aj HB0.o 7 _ rfl;have d12:w1.cell? ⟨w.heap.size+1,2,none⟩=some (.bool s.dF):=aj HB1.o 2 _ rfl;go_enter Tryz.func70,Tryz.ntmps70;go_upto_region 1 with fail
 rw[←HW1.o];have KD:Hid (Mv cb w1 v w1 v):=Mv.refl _ _ _;by_cases h6:k0=6
 ·subst h6;have HQ:Hid (E=g_ T s true ar):=HE.o.trans (if_pos rfl);go_wp2_with (refine aA rfl 138 (.tmp 6) rfl (w.heap.size+1) 0 rfl [.slice a1 s.aB.length c1,.slice a2 s.types.length c2,.bool s.dF] _ (fJ HB1.o) Tryz.underlying138 rfl Tryz.gB ?_);refine(IH.o ar _ _ s true (es) v _ Fv.o HFI.o qm.o (oU.mv KD.o Xf.o) (jk.mv KD.o HS.o) (by rw[←HQ.o];exact hb)).mono ?_;rintro e w2 ⟨rfl,v2,h2,g2⟩;have HC2:=au h2;have tK:=au (KD.o.trans g2);clear h2 g2;go_wp2_with fail;refine bodyPost_ret (results_none rfl _ _ _) rfl ?_;exact⟨rfl,v2,by rw[HQ.o];exact HC2.o,(Mv.quiet HST.o).trans tK.o⟩
 ·have uD:=au (HE.o.trans (if_neg h6));by_cases h7:k0=7
  ·subst h7;have Ic:Hid (E=(if lf.size=0∧s.dF=true then[]else jI s.aB lf ln cl)++g_ T s true ar):=uD.o.trans (if_pos rfl);obtain⟨c,hc⟩:=aN ( !(decide (lf.size=0∧s.dF=true)):Bool);have vN:=au hc;obtain⟨E1,hE1⟩:=aN (if c then jI s.aB lf ln cl else[]);have CQ:=au hE1;have HQ:Hid (E=E1++g_ T s true ar):=by
    show _=_;rw[Ic.o,hE1,hc];by_cases hz:lf.size=0∧s.dF=true
    ·rw[if_pos hz,decide_eq_true hz];rfl
    ·rw[if_neg hz,decide_eq_false hz];rfl
   clear hc hE1;(go_upto_region 5 with fail);go_cut [28] (fun s28 wx=>s28=.bool c∧w1=wx);case first=>
    by_cases hz:lf.size=0
    ·(have hon:lf=⟨#[]⟩:=by obtain⟨a⟩:=lf;have h2:a.size=0:=hz;rw[Array.eq_empty_of_size_eq_zero h2]);(have he0:lf.toList=[]:=by rw[hon,Lib.toList_data]);obtain⟨el,hel⟩:=aN s.dF;(have hcv:c= !el:=by rw[vN.o,←hel];cases el<;>simp[hz]);rw[←hel]at d12;clear hz hon hel;cases el with
     |true=>go_wp2_with fail;go_meet;case rel=>exact⟨by rw[hcv];rfl,rfl⟩
     |false=>go_wp2_with fail;go_meet;case rel=>exact⟨by rw[hcv];rfl,rfl⟩
    ·(have hcv:c=true:=by rw[vN.o];simp[hz]);have he:=jL lf om;have he':=jA lf om;clear hz;go_wp2_with fail;go_meet;case rel=>exact⟨by rw[hcv],rfl⟩
   case rest=>
    obtain⟨rfl,hwx⟩:=hcut;subst hwx;(go_upto_if 28 with fail);go_cut [] (fun wx=>∃v2:Value,mQ cb (.pointer (some ⟨tb,0,none⟩)) (TabAt IM tb T) wx v2 (es++E1)∧Mv cb w1 v wx v2);case first=>
     cases c with
     |true=>go_wp2_with (refine aA rfl 138 (.tmp 6) rfl (w.heap.size+1) 0 rfl [.slice a1 s.aB.length c1,.slice a2 s.types.length c2,.bool s.dF] _ (fJ HB1.o) Tryz.underlying138 rfl Tryz.gB ?_);refine(rC cb _ _ lf s _ ln cl es v _ qm.o HS.o (by have:=hb;rw[List.length_append]at this;omega)).mono ?_;rintro e w2 ⟨rfl,v2,h2,g2⟩;have HC2:=au h2;have tK:=au g2;clear h2 g2;go_wp2_with fail;go_meet;case rel=>exact⟨v2,by simpa[CQ.o]using HC2.o,tK.o⟩
     |false=>go_wp2_with fail;go_meet;case rel=>exact⟨v,by rw[CQ.o,if_neg dc,List.append_nil];exact qm.o,KD.o⟩
    case rest=>obtain⟨v2,h2,g2⟩:=hcut;obtain⟨w2,rfl⟩:=aN wc;have HC2:=au h2;have tK:=au g2;have Px:=au (g2.keep HB1.o Nz.o);have e5:=aj (g2.keep HB0.o Jf.o) 5 _ rfl;clear h2 g2 d0 d2 d5 d6 d7 d12;go_wp2_with (refine aA rfl 138 (.tmp 6) rfl (w.heap.size+1) 0 rfl [.slice a1 s.aB.length c1,.slice a2 s.types.length c2,.bool s.dF] _ (fJ Px.o) Tryz.underlying138 rfl Tryz.gB ?_);refine(IH.o ar _ _ s true (es++E1) v2 _ Fv.o HFI.o HC2.o (oU.mv tK.o Xf.o) (jk.mv tK.o HS.o) (by rw[List.append_assoc,←HQ.o];exact hb)).mono ?_;rintro e w3 ⟨rfl,v3,h3,g3⟩;have uF:=au h3;have qV:=au (tK.o.trans g3);clear h3 g3 e5;go_wp2_with fail;refine bodyPost_ret (results_none rfl _ _ _) rfl ?_;exact⟨rfl,v3,by rw[HQ.o,←List.append_assoc];exact uF.o,(Mv.quiet HST.o).trans qV.o⟩
  ·have Ic:=au (uD.o.trans (if_neg h7));by_cases h8:k0=8
   ·subst h8;have UW:Hid (E=(if b then[]else[(5,ln,cl)])++((if(T.tr nm).isSome then[]else[(3,ln,cl)])++(if lf.size=0 then[]else jI s.aB lf ln cl))):=Ic.o.trans (if_pos rfl);obtain⟨E1,hE1⟩:=aN (if b then[]else[(5,ln,cl)]:List Er);obtain⟨ok,hok⟩:=aN (T.tr nm).isSome;obtain⟨E2,hE2⟩:=aN (if ok then[]else[(3,ln,cl)]:List Er);rw[←hE1,←hok,←hE2]at UW;have uG:=au hok;have CQ:=au hE1;have HE2:=au hE2;(have HLEN:Hid (es.length+E1.length+E2.length≤1000000000):=by show _≤_;have:=hb;rw[UW.o]at this;simp at this;omega);clear hE1 hE2 hok;(go_upto_if 44 with fail);go_cut [] (fun wx=>∃v2:Value,mQ cb (.pointer (some ⟨tb,0,none⟩)) (TabAt IM tb T) wx v2 (es++E1)∧Mv cb w1 v wx v2);case first=>
     cases b with
     |true=>go_wp2_with fail;go_meet;case rel=>exact⟨v,by simpa[CQ.o]using qm.o,KD.o⟩
     |false=>go_wp2_with fail;refine(fB cb _ _ 5 ln cl es v _ qm.o (by have:=HLEN.o;omega)).mono ?_;rintro e w2 ⟨rfl,v2,h2,g2⟩;have HC2:=au h2;have tK:=au g2;clear h2 g2;go_wp2_with fail;go_meet;case rel=>exact⟨v2,by rw[CQ.o,if_neg dc];exact HC2.o,tK.o⟩
    case rest=>
     obtain⟨v2,h2,g2⟩:=hcut;obtain⟨w2,rfl⟩:=aN wc;have HC2:=au h2;have tK:=au g2;have HB20:=au (g2.keep HB0.o Jf.o);obtain⟨vi,ms,mt,mf,mi,t0,-,-,⟨-,t4⟩,-⟩:=h2.tab.ex;(have hlk:∀n,(Instr.lookup 124 (.map (some mt)) (.string nm) true).run Tryz.prog (w2.drewN n)=.ok (.tuple #[ak ((T.tr nm).getD 0:Nat),dW ok]) (w2.drewN n):=fun n=>by rw[uG.o];exact(t4.step (S:=fun _=>False) (bK.drewN n) (fun h=>h)).look nm G8.o);have c0:=aj h2.blk 0 _ rfl;have t2:=aj t0 2 _ rfl;have e1:=aj HB20.o 1 _ rfl;clear h2 g2 d0 d2 d5 d6 d7 d12 t0 t4;(go_upto_region 11 with fail);go_quiet (fail);clear hlk c0 t2 e1;have HC2q:=au (HC2.o.quiet ((Step.refl (fun _=>False) w2).drewN nq));have Xh:=au (tK.o.then ((Step.refl (fun _=>False) w2).drewN nq));obtain⟨w3,hw3⟩:=aN (w2.drewN nq);rw[←hw3]at HC2q Xh⊢;clear hw3 HB20;have e6:=aj (Xh.o.keep HB0.o Jf.o) 6 _ rfl;have e7:=aj (Xh.o.keep HB0.o Jf.o) 7 _ rfl;(go_upto_if 63 with fail);go_cut [] (fun wx=>∃v4:Value,mQ cb (.pointer (some ⟨tb,0,none⟩)) (TabAt IM tb T) wx v4 ((es++E1)++E2)∧Mv cb w1 v wx v4);case first=>
      cases ok with
      |true=>go_wp2_with fail;go_meet;case rel=>exact⟨v2,by simpa[HE2.o]using HC2q.o,Xh.o⟩
      |false=>go_wp2_with fail;refine(fB cb _ _ 3 ln cl _ v2 _ HC2q.o (by have:=HLEN.o;rw[List.length_append];omega)).mono ?_;rintro e w4 ⟨rfl,v4,h4,g4⟩;have Ip:=au h4;have KH:=au (Xh.o.trans g4);clear h4 g4;go_wp2_with fail;go_meet;case rel=>exact⟨v4,by rw[HE2.o,if_neg dc];exact Ip.o,KH.o⟩
     case rest=>
      obtain⟨v4,h4,g4⟩:=hcut;obtain⟨w4,rfl⟩:=aN wc;have Ip:=au h4;have KH:=au g4;have Ig:=au (g4.keep HB1.o Nz.o);have hb0:=g4.keep HB0.o Jf.o;clear e6 e7;have e2:=aj hb0 2 _ rfl;have e6:=aj hb0 6 _ rfl;have e7:=aj hb0 7 _ rfl;clear h4 g4 hb0;by_cases hz:lf.size=0
      ·(have hon:lf=⟨#[]⟩:=by obtain⟨a⟩:=lf;have h2:a.size=0:=hz;rw[Array.eq_empty_of_size_eq_zero h2]);(have HQ:Hid (E=(E1++E2)):=by show _=_;rw[UW.o,if_pos hz,List.append_nil]);rw[hon]at e2;clear hz hon;go_wp2_with fail;refine bodyPost_ret (results_none rfl _ _ _) rfl ?_;exact⟨rfl,v4,by rw[HQ.o,←List.append_assoc];exact Ip.o,(Mv.quiet HST.o).trans KH.o⟩
      ·(have HQ:Hid (E=E1++(E2++jI s.aB lf ln cl)):=by show _=_;rw[UW.o,if_neg hz]);have he:=jL lf om;have he':=jA lf om;clear hz;go_wp2_with (refine aA rfl 138 (.tmp 6) rfl (w.heap.size+1) 0 rfl [.slice a1 s.aB.length c1,.slice a2 s.types.length c2,.bool s.dF] _ (fJ Ig.o) Tryz.underlying138 rfl Tryz.gB ?_);refine(rC cb _ _ lf s _ ln cl _ v4 _ Ip.o (jk.mv KH.o HS.o) (by have:=HLEN.o;rw[List.length_append,List.length_append];omega)).mono ?_;rintro e w5 ⟨rfl,v5,h5,g5⟩;have wH:=au h5;have Eo:=au (KH.o.trans g5);clear h5 g5;go_wp2_with fail;refine bodyPost_ret (results_none rfl _ _ _) rfl ?_;exact⟨rfl,v5,by rw[HQ.o,←List.append_assoc,←List.append_assoc];exact wH.o,(Mv.quiet HST.o).trans Eo.o⟩
   ·have UW:=au (Ic.o.trans (if_neg h8));by_cases h5:k0=5
    ·subst h5;have HQ:Hid (E=Xe T s (.mk 5 nm lf mu ls ar ln cl)):=UW.o.trans (if_pos rfl);go_wp2_with (first
      |(refine aA rfl 46 (.tmp 5) rfl w.heap.size 0 rfl [.int .i64 5,.string nm,.string lf,.bool mu,.slice al ls.length Iq,.slice aa ar.length ca,.int .i64 ln,.int .i64 cl] _ (fJ HB0.o) Tryz.underlying46 rfl Tryz.eF ?_)
      |(refine aA rfl 138 (.tmp 6) rfl (w.heap.size+1) 0 rfl [.slice a1 s.aB.length c1,.slice a2 s.types.length c2,.bool s.dF] _ (fJ HB1.o) Tryz.underlying138 rfl Tryz.gB ?_))
     refine(Ny him cb tb T n IH.o (.mk 5 nm lf mu ls ar ln cl) _ _ s es v _ HN.o HFF.o qm.o G_.o HS.o (by rw[←HQ.o];exact hb)).mono ?_;rintro e w2 ⟨rfl,v2,h2,g2⟩;have HC2:=au h2;have tK:=au g2;clear h2 g2;go_wp2_with fail;refine bodyPost_ret (results_none rfl _ _ _) rfl ?_;exact⟨rfl,v2,by rw[HQ.o];exact HC2.o,(Mv.quiet HST.o).trans tK.o⟩
    ·have HQ:Hid (E=[]):=UW.o.trans (if_neg h5);go_wp2_with fail;refine bodyPost_ret (results_none rfl _ _ _) rfl ?_;exact⟨rfl,v,by rw[HQ.o,List.append_nil];exact qm.o,Mv.quiet HST.o⟩
theorem BK {IM:World→Nat→(ByteArray→ByteArray→Option Nat)→Prop} (him:x_ IM) (cb tb:Nat) (T:Tab):∀n,PZ cb (.pointer (some ⟨tb,0,none⟩)) (TabAt IM tb T) T n∧BJ cb (.pointer (some ⟨tb,0,none⟩)) (TabAt IM tb T) T n
 |0=>⟨fun _ _ _ _ _ _ _ _ h=>absurd h (Nat.not_lt_zero _),fun _ _ _ _ _ _ _ _ h=>absurd h (Nat.not_lt_zero _)⟩
 |n+1=>⟨Ui him cb tb T n (BK him cb tb T n).2,Nv cb _ _ T n (BK him cb tb T n).1⟩
theorem List.KI {l:List Value} {n i:Nat} {x:Value} (h:(l.take n)[i]?=some x):l[i]?=some x:=by
 rw[List.getElem?_take]at h;split at h
 ·exact h
 ·cases h
theorem oG.take {α:Type} {El:World→(Nat→Prop)→α→List Value→Prop} {k:Nat} (hE:xg El k) {w:World} {P:Nat→Prop}:∀(i:Nat) {l:List α} {xs:List Value},oG El w P l xs→oG El w P (l.take i) (xs.take (i*k))
 |0,l,xs,_=>by simp;rfl
 |i+1,[],xs,h=>by cases h;simp;rfl
 |i+1,a::r,xs,h=>by
  obtain⟨c1,c2,rfl,h1,h2⟩:=h
  have hl:=hE.len _ _ h1
  have e:(c1++c2).take ((i+1)*k)=c1++c2.take (i*k):=by
   rw[List.take_append,hl,show(i+1)*k-k=i*k by rw[Nat.add_mul];omega,List.take_of_length_le (l:=c1) (by rw[hl,Nat.add_mul];omega)]
  rw[List.take_succ_cons,e]
  exact⟨c1,_,rfl,h1,oG.take hE i h2⟩
theorem ig.take {α:Type} {El:World→(Nat→Prop)→α→List Value→Prop} {k:Nat} (hE:xg El k) {w:World} {P:Nat→Prop} {l:List α} {a:Option Addr} {n c:Nat} (h:ig El w P l (.slice a n c)) (i:Nat) (hi:i≤l.length) (h0:0<l.length):ig El w P (l.take i) (.slice a i c):=by obtain⟨xs,⟨a',c',hv,hc,hm,hz,hr⟩,hl⟩:=h;cases hv;obtain⟨g,o,rfl,hg,hgw,hcell⟩:=hr h0;refine⟨xs.take (i*k),⟨some ⟨g,o,none⟩,c,by rw[List.length_take,Nat.min_eq_left hi],by rw[List.length_take];omega,hm,gQ,fun _=>⟨g,o,rfl,hg,hgw,fun j x hx=>hcell j x (List.KI hx)⟩⟩,oG.take hE i hl⟩
theorem P7 (kf:Nat) (caps:Array Value) (P:Nat→Prop) (p:Pm→Bool) (l:List Pm) (v:Value) (w:World) (hen:Enters kf) (h:ig Ei w P l v) (hc:∀x∈l,∀(cs:List Value) (w':World),StF w w'→Ei w' P x cs→Calls Tryz.prog kf (#[.agg cs.toArray]++caps) w' fun e w2=>e=.returned (.bool (p x))∧StF w' w2):Calls Tryz.prog 188 #[v,.func (.func kf) #[] caps] w fun e w'=>e=.returned (.int .i64 (pq p l))∧StF w w':=by
 have H:=au h;obtain⟨a,c,rfl⟩:=h.parts;have HC:=au hc;unfold Enters at hen;clear h hc;go_enter Tryz.func188,Tryz.ntmps188;go_wp2_with fail;go_loopg [5,8] l.length (fun gg _ s8 wr=>∃i:Nat,s8=.int .i64 i∧i≤l.length∧l.length-i≤gg∧(∀j,j<i→∀y,l[j]?=some y→p y=false)∧StF w wr);case atStart=>exact⟨0,rfl,Nat.zero_le _,by omega,fun j hj=>absurd hj (Nat.not_lt_zero _),Step.refl _ _⟩
 case round=>
  obtain⟨i,rfl,hi,hgg,hno,hst⟩:=hrel;have eX:=au hno;have HST:=au hst;clear hno hst;by_cases hlt:i<l.length
  ·obtain⟨x,hx⟩:∃x,l[i]?=some x:=⟨l[i],List.getElem?_eq_getElem hlt⟩;obtain⟨xs,⟨a',c',hva,hcl,hcm,-,hra⟩,hls⟩:=(bH fH).step _ _ HST.o (fun _ _ h=>h) H.o;(obtain⟨rfl,rfl⟩:a=a'∧c=c':=by cases hva;exact⟨rfl,rfl⟩);obtain⟨g,o,rfl,-,-,hcell⟩:=hra om;obtain⟨cs,hat,hget⟩:=oG.get fH i hls hx;(have iD:Hid (∀(jj:Nat) v,cs[jj]?=some v→wr.cell? ⟨g,o+i*11+jj,none⟩=some v):=by intro jj v hv;rw[Nat.add_assoc];exact hcell _ _ (hget jj v hv));(have lq:Hid ((Tryz.prog.info? 167).map (·.size)=some cs.length):=by rw[fH.len _ _ hat];exact Tryz.uY);have HAT:=au hat;have HX:=au hx;(have hlb:l.length≤9223372036854775807:=by omega);clear hcell hx hva hcl hcm hra hls hget hat;go_wp2_with (refine aA rfl 167 (.tmp 14) rfl g (o+i*11) rfl cs _ iD.o Tryz.underlying167 rfl lq.o ?_);refine(HC.o x (List.mem_of_getElem? HX.o) cs _ HST.o HAT.o).mono ?_;rintro e w1 ⟨rfl,h1⟩;have qL:=au (HST.o.trans h1);clear h1;cases hp:p x with
   |true=>have HI:=au (uO HX.o hp eX.o);clear hp;go_wp2_with fail;go_ret;exact⟨nZ HI.o.symm,qL.o⟩
   |false=>
    have HP:=au hp;clear hp;go_wp2_with fail;go_roundg (gk-1);case rel=>
     refine⟨i+1,by go_num,hlt,sbQ hgg,fun j hj y hy=> ?_,qL.o⟩;rcases Nat.lt_succ_iff_lt_or_eq.1 hj with h|rfl
     ·exact eX.o j h y hy
     ·rw[HX.o]at hy;cases hy;exact HP.o
    case measure=>omega
  ·(have HI:Hid (pq p l= -1):=yQ fun x hx=>by obtain⟨j,hj⟩:=List.getElem?_of_mem hx;exact eX.o j (by have:=(List.getElem?_eq_some_iff.1 hj).1;omega) x hj);go_wp2_with fail;go_ret;exact⟨nZ HI.o.symm,HST.o⟩
theorem Ir (kf:Nat) (caps:Array Value) (P:Nat→Prop) (p:Pm→Bool) (l:List Pm) (v:Value) (w:World) (hen:Enters kf) (h:ig Ei w P l v) (hc:∀x∈l,∀(cs:List Value) (w':World),StF w w'→Ei w' P x cs→Calls Tryz.prog kf (#[.agg cs.toArray]++caps) w' fun e w2=>e=.returned (.bool (p x))∧StF w' w2):Calls Tryz.prog 149 #[v,.func (.func kf) #[] caps] w fun e w'=>e=.returned (.bool (l.any p))∧StF w w':=by
 have HGE:=au (JI p l);have Ox:=au (P7 kf caps P p l v w hen h hc);obtain⟨b,hb⟩:=aN (l.any p);obtain⟨ix,hix⟩:=aN (pq p l);rw[←hb,←hix]at HGE;rw[←hb];rw[←hix]at Ox;clear h hb hix hc;go_enter Tryz.func149,Tryz.ntmps149;go_wp2_with fail;refine Ox.o.mono ?_;rintro e w1 ⟨rfl,h1⟩;have hge:=HGE.o;cases b with
 |true=>have h2:=of_decide_eq_true hge;go_wp2;go_ret;exact⟨rfl,h1⟩
 |false=>have h2:=of_decide_eq_false hge;go_wp2;go_ret;exact⟨rfl,h1⟩
theorem Gg (kf:Nat) (caps:Array Value) (P:Nat→Prop) (p:Mt→Bool) (l:List Mt) (v:Value) (w:World) (hen:Enters kf) (h:ig Bv w P l v) (hc:∀x∈l,∀(cs:List Value) (w':World),StF w w'→Bv w' P x cs→Calls Tryz.prog kf (#[.agg cs.toArray]++caps) w' fun e w2=>e=.returned (.bool (p x))∧StF w' w2):Calls Tryz.prog 189 #[v,.func (.func kf) #[] caps] w fun e w'=>e=.returned (.int .i64 (pq p l))∧StF w w':=by
 have H:=au h;obtain⟨a,c,rfl⟩:=h.parts;have HC:=au hc;unfold Enters at hen;clear h hc;go_enter Tryz.func189,Tryz.ntmps189;go_wp2_with fail;go_loopg [5,8] l.length (fun gg _ s8 wr=>∃i:Nat,s8=.int .i64 i∧i≤l.length∧l.length-i≤gg∧(∀j,j<i→∀y,l[j]?=some y→p y=false)∧StF w wr);case atStart=>exact⟨0,rfl,Nat.zero_le _,by omega,fun j hj=>absurd hj (Nat.not_lt_zero _),Step.refl _ _⟩
 case round=>
  obtain⟨i,rfl,hi,hgg,hno,hst⟩:=hrel;have eX:=au hno;have HST:=au hst;clear hno hst;by_cases hlt:i<l.length
  ·obtain⟨x,hx⟩:∃x,l[i]?=some x:=⟨l[i],List.getElem?_eq_getElem hlt⟩;obtain⟨xs,⟨a',c',hva,hcl,hcm,-,hra⟩,hls⟩:=(bH dh).step _ _ HST.o (fun _ _ h=>h) H.o;(obtain⟨rfl,rfl⟩:a=a'∧c=c':=by cases hva;exact⟨rfl,rfl⟩);obtain⟨g,o,rfl,-,-,hcell⟩:=hra om;obtain⟨cs,hat,hget⟩:=oG.get dh i hls hx;(have iD:Hid (∀(jj:Nat) v,cs[jj]?=some v→wr.cell? ⟨g,o+i*17+jj,none⟩=some v):=by intro jj v hv;rw[Nat.add_assoc];exact hcell _ _ (hget jj v hv));(have lq:Hid ((Tryz.prog.info? 105).map (·.size)=some cs.length):=by rw[dh.len _ _ hat];exact Tryz.gV);have HAT:=au hat;have HX:=au hx;(have hlb:l.length≤9223372036854775807:=by omega);clear hcell hx hva hcl hcm hra hls hget hat;go_wp2_with (refine aA rfl 105 (.tmp 14) rfl g (o+i*17) rfl cs _ iD.o Tryz.underlying105 rfl lq.o ?_);refine(HC.o x (List.mem_of_getElem? HX.o) cs _ HST.o HAT.o).mono ?_;rintro e w1 ⟨rfl,h1⟩;have qL:=au (HST.o.trans h1);clear h1;cases hp:p x with
   |true=>have HI:=au (uO HX.o hp eX.o);clear hp;go_wp2_with fail;go_ret;exact⟨nZ HI.o.symm,qL.o⟩
   |false=>
    have HP:=au hp;clear hp;go_wp2_with fail;go_roundg (gk-1);case rel=>
     refine⟨i+1,by go_num,hlt,sbQ hgg,fun j hj y hy=> ?_,qL.o⟩;rcases Nat.lt_succ_iff_lt_or_eq.1 hj with h|rfl
     ·exact eX.o j h y hy
     ·rw[HX.o]at hy;cases hy;exact HP.o
    case measure=>omega
  ·(have HI:Hid (pq p l= -1):=yQ fun x hx=>by obtain⟨j,hj⟩:=List.getElem?_of_mem hx;exact eX.o j (by have:=(List.getElem?_eq_some_iff.1 hj).1;omega) x hj);go_wp2_with fail;go_ret;exact⟨nZ HI.o.symm,HST.o⟩
theorem Iu (kf:Nat) (caps:Array Value) (P:Nat→Prop) (p:Mt→Bool) (l:List Mt) (v:Value) (w:World) (hen:Enters kf) (h:ig Bv w P l v) (hc:∀x∈l,∀(cs:List Value) (w':World),StF w w'→Bv w' P x cs→Calls Tryz.prog kf (#[.agg cs.toArray]++caps) w' fun e w2=>e=.returned (.bool (p x))∧StF w' w2):Calls Tryz.prog 151 #[v,.func (.func kf) #[] caps] w fun e w'=>e=.returned (.bool (l.any p))∧StF w w':=by
 have HGE:=au (JI p l);have Ox:=au (Gg kf caps P p l v w hen h hc);obtain⟨b,hb⟩:=aN (l.any p);obtain⟨ix,hix⟩:=aN (pq p l);rw[←hb,←hix]at HGE;rw[←hb];rw[←hix]at Ox;clear h hb hix hc;go_enter Tryz.func151,Tryz.ntmps151;go_wp2_with fail;refine Ox.o.mono ?_;rintro e w1 ⟨rfl,h1⟩;have hge:=HGE.o;cases b with
 |true=>have h2:=of_decide_eq_true hge;go_wp2;go_ret;exact⟨rfl,h1⟩
 |false=>have h2:=of_decide_eq_false hge;go_wp2;go_ret;exact⟨rfl,h1⟩
theorem KJ (nm:ByteArray) (b:Nat) (x:Pm) (cs:List Value) (P:Nat→Prop) (w:World) (hb:w.cell? ⟨b,0,none⟩=some (.string nm)) (hx:Ei w P x cs):Calls Tryz.prog 150 #[.agg cs.toArray,.pointer (some ⟨b,0,none⟩)] w fun e w'=>e=.returned (.bool (eqS x.name nm))∧StF w w':=by
 obtain⟨w1,hw1⟩:=aN (w.alloc (.cells cs.toArray 167));have HST:=nS hw1
 have hb1:=HST.o.cell hb (fun h=>h);have hc0:cs[0]?=some (.string x.name):=by obtain⟨ct,rfl,-⟩:=hx;rfl
 have hn:w1.cell? ⟨w.heap.size,0,none⟩=some (.string x.name):=by rw[hw1];exact aj (aC _ _) 0 _ (by rw[List.getElem?_toArray];exact hc0)
 have HW1:=au hw1;obtain⟨r,hr⟩:=aN (eqS x.name nm);have HR:=au hr;rw[←hr];clear hw1 hx hc0 hb hr;go_enter Tryz.func150,Tryz.ntmps150;go_upto_region 1 with fail
 rw[←HW1.o];cases hp:(x.name.toList==nm.toList)with
 |true=>have HR2:Hid (r=true):=HR.o.trans (ng hp);go_wp2_with fail;go_ret;exact⟨bD HR2.o.symm,HST.o⟩
 |false=>have HR2:Hid (r=false):=HR.o.trans (ng hp);go_wp2_with fail;go_ret;exact⟨bD HR2.o.symm,HST.o⟩
theorem Ep:Enters 150:=fun xs w=>by go_simp
theorem Iw (nm:ByteArray) (b:Nat) (x:Mt) (cs:List Value) (P:Nat→Prop) (w:World) (hb:w.cell? ⟨b,0,none⟩=some (.string nm)) (hx:Bv w P x cs):Calls Tryz.prog 152 #[.agg cs.toArray,.pointer (some ⟨b,0,none⟩)] w fun e w'=>e=.returned (.bool (eqS x.name nm))∧StF w w':=by
 obtain⟨w1,hw1⟩:=aN (w.alloc (.cells cs.toArray 105));have HST:=nS hw1
 have hb1:=HST.o.cell hb (fun h=>h);have hc0:cs[0]?=some (.string x.name):=by obtain⟨ct,vl,vp,vw,vb,rfl,-⟩:=hx;rfl
 have hn:w1.cell? ⟨w.heap.size,0,none⟩=some (.string x.name):=by rw[hw1];exact aj (aC _ _) 0 _ (by rw[List.getElem?_toArray];exact hc0)
 have HW1:=au hw1;obtain⟨r,hr⟩:=aN (eqS x.name nm);have HR:=au hr;rw[←hr];clear hw1 hx hc0 hb hr;go_enter Tryz.func152,Tryz.ntmps152;go_upto_region 1 with fail
 rw[←HW1.o];cases hp:(x.name.toList==nm.toList)with
 |true=>have HR2:Hid (r=true):=HR.o.trans (ng hp);go_wp2_with fail;go_ret;exact⟨bD HR2.o.symm,HST.o⟩
 |false=>have HR2:Hid (r=false):=HR.o.trans (ng hp);go_wp2_with fail;go_ret;exact⟨bD HR2.o.symm,HST.o⟩
theorem Du:Enters 152:=fun xs w=>by go_simp
theorem KL (nm:ByteArray) (b:Nat) (x:Mt) (cs:List Value) (P:Nat→Prop) (w:World) (hb:w.cell? ⟨b,0,none⟩=some (.string nm)) (hx:Bv w P x cs):Calls Tryz.prog 190 #[.agg cs.toArray,.pointer (some ⟨b,0,none⟩)] w fun e w'=>e=.returned (.bool (eqS x.name nm))∧StF w w':=by
 obtain⟨w1,hw1⟩:=aN (w.alloc (.cells cs.toArray 105));have HST:=nS hw1
 have hb1:=HST.o.cell hb (fun h=>h);have hc0:cs[0]?=some (.string x.name):=by obtain⟨ct,vl,vp,vw,vb,rfl,-⟩:=hx;rfl
 have hn:w1.cell? ⟨w.heap.size,0,none⟩=some (.string x.name):=by rw[hw1];exact aj (aC _ _) 0 _ (by rw[List.getElem?_toArray];exact hc0)
 have HW1:=au hw1;obtain⟨r,hr⟩:=aN (eqS x.name nm);have HR:=au hr;rw[←hr];clear hw1 hx hc0 hb hr;go_enter Tryz.func190,Tryz.ntmps190;go_upto_region 1 with fail
 rw[←HW1.o];cases hp:(x.name.toList==nm.toList)with
 |true=>have HR2:Hid (r=true):=HR.o.trans (ng hp);go_wp2_with fail;go_ret;exact⟨bD HR2.o.symm,HST.o⟩
 |false=>have HR2:Hid (r=false):=HR.o.trans (ng hp);go_wp2_with fail;go_ret;exact⟨bD HR2.o.symm,HST.o⟩
theorem Es:Enters 190:=fun xs w=>by go_simp
def lU (T:Tab) (s:Sc):List Pm→List Pm→List Er
 |_,[]=>[]
 |d,x::r=>(if d.any (fun y=>eqS y.name x.name)then[(4,x.line,x.col)]else[])++(qO T s false x.ty++lU T s (d++[x]) r)
theorem Xi {T:Tab} {s:Sc} {l:List Pm} {k:Nat} {x:Pm} (h:l[k]?=some x):lU T s (l.take k) (l.drop k)=(if(l.take k).any (fun y=>eqS y.name x.name)then[(4,x.line,x.col)]else[])++(qO T s false x.ty++lU T s (l.take (k+1)) (l.drop (k+1))):=by obtain⟨hk,rfl⟩:=List.getElem?_eq_some_iff.1 h;rw[List.drop_eq_getElem_cons hk,lU,List.take_succ_eq_append_getElem hk]
theorem Ei.get {w:World} {P:Nat→Prop} {p:Pm} {cs:List Value} (h:Ei w P p cs):cs[0]?=some (.string p.name)∧cs[9]?=some (.int .i64 p.line)∧cs[10]?=some (.int .i64 p.col)∧∃ct,iC w P p.ty ct∧∀(j:Nat) v,ct[j]?=some v→cs[1+j]?=some v:=by
 obtain⟨ct,rfl,-,h3⟩:=h;have hl:=h3.len;refine⟨rfl,?_,?_,ct,h3,fun j v hv=> ?_⟩
 ·rw[List.getElem?_append_right (by simp;omega)];simp[hl]
 ·rw[List.getElem?_append_right (by simp;omega)];simp[hl]
 ·rw[List.getElem?_append_left (by have:=(List.getElem?_eq_some_iff.1 hv).1;simp;omega),List.getElem?_append_right (by simp)];simpa using hv
theorem yt {IM:World→Nat→(ByteArray→ByteArray→Option Nat)→Prop} (him:x_ IM) (cb tb:Nat) (T:Tab) (l:List Pm) (ul us:Value) (s:Sc) (es:List Er) (v:Value) (w:World) (hfit:∀x∈l,mF x.ty) (h:mQ cb (.pointer (some ⟨tb,0,none⟩)) (TabAt IM tb T) w v es) (hl:ig Ei w (Out cb v w) l ul) (hs:IX w (Out cb v w) s us) (hb:(es++lU T s [] l).length≤1000000000):Calls Tryz.prog 99 #[.pointer (some ⟨cb,0,none⟩),ul,us] w (ny cb (.pointer (some ⟨tb,0,none⟩)) (TabAt IM tb T) w v (es++lU T s [] l)):=by
 have vM:=au hs;have sK:=au hfit;obtain⟨a1,c1,a2,c2,rfl,-,-⟩:=hs;obtain⟨al,cl,rfl⟩:=hl.parts;have hmf:∀(fn:Fn) (first cap:Array Value) (w:World),(Instr.makeFunc fn first cap).run Tryz.prog w=.ok (.func fn first cap) w:=fun _ _ _ _=>by kernel_rfl
 obtain⟨w1,hw1⟩:=aN (w.alloc (.cells #[.slice a1 s.aB.length c1,.slice a2 s.types.length c2,dW s.dF] 138));have HST:=nS hw1
 have HB1:=nB hw1
 have HW1:=au hw1;have qm:=au (h.quiet HST.o);have HL:=au ((bH fH).mv (Mv.quiet HST.o) hl);have HS:=au (jk.mv (Mv.quiet HST.o) vM.o);have HO:=au (h.new (k:=w.heap.size) (Nat.le_refl _) (aK HB1.o));obtain⟨tot,ht⟩:=aN (es++lU T s [] l);rw[←ht]at hb⊢;have HT:=au ht;clear h hw1 hl ht vM hfit;go_enter Tryz.func99,Tryz.ntmps99;go_upto_region 1 with fail
 rw[←HW1.o];go_wp2_with fail;go_loopg [6,7,10] l.length (fun gg _ _ s10 wr=>∃(k:Nat) (cur:List Er) (v1:Value),s10=.int .i64 k∧k≤l.length∧l.length-k≤gg∧mQ cb (.pointer (some ⟨tb,0,none⟩)) (TabAt IM tb T) wr v1 cur∧Mv cb w1 v wr v1∧cur++lU T s (l.take k) (l.drop k)=tot);case atStart=>exact⟨0,es,v,rfl,Nat.zero_le _,by omega,qm.o,Mv.refl _ _ _,HT.o.symm⟩
 case round=>
  obtain⟨k,cur,v1,rfl,hk,hgg,hc,hm,he⟩:=hrel;have HC:=au hc;have HM:=au hm;have HE:=au he;clear hc hm he;by_cases hlt:k<l.length
  ·obtain⟨x,hx⟩:∃x,l[k]?=some x:=⟨l[k],List.getElem?_eq_getElem hlt⟩;have hlq:=(bH fH).mv HM.o HL.o;have LH:=au (ig.take fH hlq k hk om);obtain⟨xs,⟨a',c',hva,hcl,hcm,-,hra⟩,hls⟩:=hlq;(obtain⟨rfl,rfl⟩:al=a'∧cl=c':=by cases hva;exact⟨rfl,rfl⟩);obtain⟨g,o,rfl,hg,hgw,hcell⟩:=hra om;obtain⟨cs,hat,hget⟩:=oG.get fH k hls hx;(have iD:Hid (∀(jj:Nat) v,cs[jj]?=some v→wr.cell? ⟨g,o+k*11+jj,none⟩=some v):=by intro jj v hv;rw[Nat.add_assoc];exact hcell _ _ (hget jj v hv));(have lq:Hid ((Tryz.prog.info? 167).map (·.size)=some cs.length):=by rw[fH.len _ _ hat];exact Tryz.uY);have HL11:=au (fH.len _ _ hat);have Eh:=au (fH.one _ _ hat);obtain⟨w3,hw3⟩:=aN (wr.alloc (.cells cs.toArray 167));(have fK:Hid (StF wr w3):=by rw[hw3];exact bK.alloc _);(have HB3:Hid (w3.heap[wr.heap.size]?=some (.cells cs.toArray 167 (0,0))):=by rw[hw3];exact aC _ _);have HW3:=au hw3;have QY:=au (HC.o.new (k:=wr.heap.size) (Nat.le_refl _) (aK HB3.o));have qV:=au (HM.o.then fK.o);have uF:=au (HC.o.quiet fK.o);obtain⟨hc0,hc9,hc10,ct,hty,hct⟩:=hat.get;have QZ:Hid (∀(j:Nat) v,ct[j]?=some v→cs[1+j]?=some v):=hct;have Dl:=au hty.len;have G_:Hid (CP w3 (Out cb v1 w3) x.ty (.agg ct.toArray)):=⟨ct,rfl,iC.mono (fun q _ hq=>(Mv.quiet fK.o).out hq) _ _ (iC.step fK.o (fun _ _ h=>h) _ _ hty)⟩;have UO:=au hc0;have BA:=au hc9;have Gf:=au hc10;have Uf:=au (sK.o x (List.mem_of_getElem? hx));have Xj:Hid (Calls Tryz.prog 149 #[.slice (some ⟨g,o,none⟩) k cl,.func (.func 150) #[] #[.pointer (some ⟨wr.heap.size,0,none⟩)]] w3 fun e w'=>e=.returned (.bool ((l.take k).any (fun y=>eqS y.name x.name)))∧StF w3 w'):=
    Ir _ _ (Out cb v1 wr) _ _ _ _ Ep ((bH fH).step _ _ fK.o (fun _ _ h=>h) LH.o) (fun y _ cy w' hw hy=>KJ x.name wr.heap.size y cy _ w' (aj (hw.keep HB3.o (fun h=>h)) 0 _ (by rw[List.getElem?_toArray];exact UO.o)) hy)
   obtain⟨bc,hbc⟩:=aN ((l.take k).any (fun y=>eqS y.name x.name));obtain⟨E1,hE1⟩:=aN (if bc then[(4,x.line,x.col)]else[]:List Er);have CQ:=au hE1;have mY:Hid ((cur++E1)++(qO T s false x.ty++lU T s (l.take (k+1)) (l.drop (k+1)))=tot):=fZ (by rw[hE1,hbc,←Xi hx];exact HE.o);rw[←hbc]at Xj;(have hlb:l.length≤9223372036854775807:=by omega);(have hkc:k≤cl:=by omega);(have Zh:(k:Int)≤(cl:Int):=by omega);clear hcell hx hva hcl hcm hra hg hgw hls hget hat hw3 hc0 hc9 hc10 hty hct hbc hE1;go_wp2_with (first
    |(refine aA rfl 167 (.tmp 13) rfl g (o+k*11) rfl cs _ iD.o Tryz.underlying167 rfl lq.o ?_)
    |(refine bT rfl 167 (.tmp 7) (.tmp 14) rfl _ cs rfl rfl lq.o (by rw[HL11.o];rfl) Eh.o ?_;rw[←HW3.o]))
   refine Xj.o.mono ?_;rintro e w4 ⟨rfl,h4⟩;have Ip:=au (uF.o.quiet h4);have KN:=au (Mv.quiet (cb:=cb) (v:=v1) h4);have HB4:=au (h4.keep HB3.o (fun h=>h));clear h4;(go_upto_if 19 with fail);go_cut [] (fun wx=>∃v5:Value,mQ cb (.pointer (some ⟨tb,0,none⟩)) (TabAt IM tb T) wx v5 (cur++E1)∧Mv cb w3 v1 wx v5);case first=>
    cases bc with
    |true=>have e9:=aj HB4.o 9 _ (by rw[List.getElem?_toArray];exact BA.o);have e10:=aj HB4.o 10 _ (by rw[List.getElem?_toArray];exact Gf.o);go_wp2_with fail;refine(fB cb _ _ 4 x.line x.col cur v1 _ Ip.o (dL HE.o hb)).mono ?_;rintro e w5 ⟨rfl,v5,h5,g5⟩;have wH:=au h5;have Eo:=au (KN.o.trans g5);clear h5 g5 e9 e10;go_wp2_with fail;go_meet;case rel=>exact⟨v5,by simpa[CQ.o]using wH.o,Eo.o⟩
    |false=>go_wp2_with fail;go_meet;case rel=>exact⟨v1,by simpa[CQ.o]using Ip.o,KN.o⟩
   case rest=>
    obtain⟨v5,h5,g5⟩:=hcut;obtain⟨w5,rfl⟩:=aN wc;have wH:=au h5;have P8:=au g5;have Eo:=au (qV.o.trans g5);have Fq:=au (g5.keep HB3.o QY.o);have HB15:=au (Eo.o.keep HB1.o HO.o);(have Ak:Hid (∀(jj:Nat) v,ct[jj]?=some v→w5.cell? ⟨wr.heap.size,1+jj,none⟩=some v):=by intro jj v hv;exact aj Fq.o _ _ (by rw[List.getElem?_toArray];exact QZ.o _ _ hv));(have Gh:Hid ((Tryz.prog.info? 46).map (·.size)=some ct.length):=by rw[Dl.o];exact Tryz.eF);clear h5 g5;go_wp2_with (first
     |(refine aA rfl 46 (.tmp 25) rfl wr.heap.size 1 rfl ct _ Ak.o Tryz.underlying46 rfl Gh.o ?_)
     |(refine aA rfl 138 (.tmp 5) rfl w.heap.size 0 rfl [.slice a1 s.aB.length c1,.slice a2 s.types.length c2,.bool s.dF] _ (fJ HB15.o) Tryz.underlying138 rfl Tryz.gB ?_))
    refine((BK him cb tb T (SizeOf.sizeOf x.ty+1)).1 x.ty _ _ s false (cur++E1) v5 _ (Nat.lt_succ_self _) Uf.o wH.o (pY.mv P8.o G_.o) (jk.mv Eo.o HS.o) (dL (fZ mY.o) hb)).mono ?_;rintro e w6 ⟨rfl,v6,h6,g6⟩;have Hf:=au h6;have Uh:=au (Eo.o.trans g6);clear h6 g6;go_wp2_with fail;go_roundg (gk-1);case rel=>exact⟨k+1,_,v6,by go_num,hlt,sbQ hgg,Hf.o,Uh.o,fZ mY.o⟩
    case measure=>omega
  ·(have hk2:k=l.length:=by omega);(have Df:Hid (cur=tot):=by show _=_;have:=HE.o;rw[hk2,List.drop_length,lU,List.append_nil]at this;exact this);go_wp2_with fail;refine bodyPost_ret (results_none rfl _ _ _) rfl ?_;exact⟨rfl,v1,Df.o▸HC.o,(Mv.quiet HST.o).trans HM.o⟩
def Ty.kind:Ty→Int
 | .mk k _ _ _ _ _ _ _=>k
def BL (T:Tab) (s:Sc) (t:Ty):List Er:=if t.kind=0 then[]else qO T s false t
theorem NC {IM:World→Nat→(ByteArray→ByteArray→Option Nat)→Prop} (him:x_ IM) (cb tb:Nat) (T:Tab) (t:Ty) (ut us:Value) (s:Sc) (es:List Er) (v:Value) (w:World) (hfit:mF t) (h:mQ cb (.pointer (some ⟨tb,0,none⟩)) (TabAt IM tb T) w v es) (ht:CP w (Out cb v w) t ut) (hs:IX w (Out cb v w) s us) (hb:(es++BL T s t).length≤1000000000):Calls Tryz.prog 102 #[.pointer (some ⟨cb,0,none⟩),ut,us] w (ny cb (.pointer (some ⟨tb,0,none⟩)) (TabAt IM tb T) w v (es++BL T s t)):=by
 have vM:=au hs;have OW:=au ht;have sK:=au hfit;obtain⟨a1,c1,a2,c2,rfl,-,-⟩:=hs;obtain⟨cs,rfl,hty⟩:=ht;have HL8:=au hty.len;have lq:Hid ((Tryz.prog.info? 46).map (·.size)=some cs.length):=by rw[hty.len];exact Tryz.eF
 have hc0:cs[0]?=some (.int .i64 t.kind):=by cases t;rw[iC]at hty;obtain⟨_,_,_,rfl,_⟩:=hty;rfl
 obtain⟨w1,hw1⟩:=aN ((w.alloc (.cells cs.toArray 46)).alloc (.cells #[.slice a1 s.aB.length c1,.slice a2 s.types.length c2,dW s.dF] 138));have HST:=nT hw1
 have HB0:=nC hw1
 have HB1:=nD hw1
 have HW1:=au hw1;have qm:=au (h.quiet HST.o);have G_:=au (pY.mv (Mv.quiet HST.o) OW.o);have HS:=au (jk.mv (Mv.quiet HST.o) vM.o);have d0:=aj HB0.o 0 _ (by rw[List.getElem?_toArray];exact hc0);obtain⟨E,hE⟩:=aN (BL T s t);rw[←hE]at hb⊢;have HE:=au hE;obtain⟨kd,hkd⟩:=aN t.kind;rw[←hkd]at d0;have HKD:=au hkd;clear h hw1 hty hc0 hE vM OW hfit hkd;go_enter Tryz.func102,Tryz.ntmps102;go_upto_region 1 with fail
 rw[←HW1.o];by_cases hk:kd=0
 ·have HQ:Hid (E=[]):=by show _=_;rw[HE.o,BL,if_pos (by rw[←HKD.o];exact hk)]
  subst hk;go_wp2_with fail;refine bodyPost_ret (results_none rfl _ _ _) rfl ?_;exact⟨rfl,v,by rw[HQ.o,List.append_nil];exact qm.o,Mv.quiet HST.o⟩
 ·have HQ:Hid (E=qO T s false t):=by show _=_;rw[HE.o,BL,if_neg (by rw[←HKD.o];exact hk)]
  have q1:(kd !=0)=true:=by simpa using hk
  clear hk;go_wp2_with (first
   |(refine aA rfl 46 (.tmp 4) rfl w.heap.size 0 rfl cs _ (fJ HB0.o) Tryz.underlying46 rfl lq.o ?_)
   |(refine aA rfl 138 (.tmp 5) rfl (w.heap.size+1) 0 rfl [.slice a1 s.aB.length c1,.slice a2 s.types.length c2,.bool s.dF] _ (fJ HB1.o) Tryz.underlying138 rfl Tryz.gB ?_))
  refine((BK him cb tb T (SizeOf.sizeOf t+1)).1 t _ _ s false es v _ (Nat.lt_succ_self _) sK.o qm.o G_.o HS.o (by rw[←HQ.o];exact hb)).mono ?_;rintro e w2 ⟨rfl,v2,h2,g2⟩;have HC2:=au h2;have tK:=au g2;clear h2 g2;go_wp2_with fail;refine bodyPost_ret (results_none rfl _ _ _) rfl ?_;exact⟨rfl,v2,by rw[HQ.o];exact HC2.o,(Mv.quiet HST.o).trans tK.o⟩
def BM (T:Tab) (ln cl:Int):List ByteArray→List Er
 |[]=>[]
 |x::r=>(if(T.st x).isSome then[(4,ln,cl)]else[])++BM T ln cl r
theorem dblE_at {T:Tab} {ln cl:Int} {l:List ByteArray} {k:Nat} {x:ByteArray} (h:l[k]?=some x):BM T ln cl (l.drop k)=(if(T.st x).isSome then[(4,ln,cl)]else[])++BM T ln cl (l.drop (k+1)):=by obtain⟨hk,rfl⟩:=List.getElem?_eq_some_iff.1 h;rw[List.drop_eq_getElem_cons hk,BM]
def BN (T:Tab) (g:Gn) (ln cl:Int):List Er:=sW ln cl [] g.aB++(sW ln cl [] g.types++BM T ln cl g.types)
theorem ND {IM:World→Nat→(ByteArray→ByteArray→Option Nat)→Prop} (cb tb:Nat) (T:Tab) (gg:Gn) (ug:Value) (ln cl:Int) (es:List Er) (v:Value) (w:World) (h:mQ cb (.pointer (some ⟨tb,0,none⟩)) (TabAt IM tb T) w v es) (hg:QX w (Out cb v w) gg ug) (hb:(es++BN T gg ln cl).length≤1000000000):Calls Tryz.prog 98 #[.pointer (some ⟨cb,0,none⟩),ug,.agg #[ak ln,ak cl]] w (ny cb (.pointer (some ⟨tb,0,none⟩)) (TabAt IM tb T) w v (es++BN T gg ln cl)):=by
 obtain⟨a1,c1,a2,c2,rfl,hg1,hg2⟩:=hg;obtain⟨w1,hw1⟩:=aN ((w.alloc (.cells #[.slice a1 gg.aB.length c1,.slice a2 gg.types.length c2] 42)).alloc (.cells #[ak ln,ak cl] 25));have HST:=nT hw1
 have HB0:=nC hw1
 have HB1:=nD hw1
 have HW1:=au hw1;have qm:=au (h.quiet HST.o);have IL:=au (aX.mv (Mv.quiet HST.o) hg1);have HG2:=au (aX.mv (Mv.quiet HST.o) hg2);have Jf:=au (h.new (w':=w1) (k:=w.heap.size) (Nat.le_refl _) (aK HB0.o));have Nz:=au (h.new (w':=w1) (k:=w.heap.size+1) (Nat.le_succ _) (aK HB1.o));obtain⟨tot,htt⟩:=aN (es++BN T gg ln cl);rw[←htt]at hb⊢;have HT:Hid ((es++sW ln cl [] gg.aB)++(sW ln cl [] gg.types++BM T ln cl gg.types)=tot):=by show _=_;rw[htt,BN,List.append_assoc]
 have HT2:=au (fZ HT.o);clear h hw1 hg1 hg2 htt;have d0:=aj HB0.o 0 _ rfl;have d1:=aj HB1.o 0 _ rfl;have d2:=aj HB1.o 1 _ rfl;go_enter Tryz.func98,Tryz.ntmps98;go_upto_region 1 with fail
 rw[←HW1.o];go_wp2_with fail;refine(zW cb _ _ gg.aB _ ln cl es v _ qm.o IL.o (dL HT.o hb)).mono ?_;rintro e w2 ⟨rfl,v2,h2,g2⟩;have HC2:=au h2;have tK:=au g2;clear d0 d1 d2;have d0:=aj (g2.keep HB0.o Jf.o) 1 _ rfl;have d1:=aj (g2.keep HB1.o Nz.o) 0 _ rfl;have d2:=aj (g2.keep HB1.o Nz.o) 1 _ rfl;clear h2 g2;go_wp2_with fail;refine(zW cb _ _ gg.types _ ln cl _ v2 _ HC2.o (aX.mv tK.o HG2.o) (dL HT2.o hb)).mono ?_;rintro e w3 ⟨rfl,v3,h3,g3⟩;have uF:=au h3;have qV:=au (tK.o.trans g3);clear d0 d1 d2 h3 g3;have d0:=aj (qV.o.keep HB0.o Jf.o) 1 _ rfl;go_wp2_with fail;clear d0;go_loopg [7,8,9,23] gg.types.length (fun g9 _ _ _ s23 wr=>∃(k:Nat) (cur:List Er) (v1:Value),s23=.int .i64 k∧k≤gg.types.length∧gg.types.length-k≤g9∧mQ cb (.pointer (some ⟨tb,0,none⟩)) (TabAt IM tb T) wr v1 cur∧Mv cb w1 v wr v1∧cur++BM T ln cl (gg.types.drop k)=tot);case atStart=>exact⟨0,_,v3,rfl,Nat.zero_le _,by omega,uF.o,qV.o,HT2.o⟩
 case round=>
  obtain⟨k,cur,v1,rfl,hk,hgg,hc,hm,he⟩:=hrel;have HC:=au hc;have HM:=au hm;have HE:=au he;by_cases hlt:k<gg.types.length
  ·obtain⟨x,hx⟩:∃x,gg.types[k]?=some x:=⟨gg.types[k],List.getElem?_eq_getElem hlt⟩;obtain⟨hsz,a',c',hva,hcl,hcm,-,hra⟩:=aX.mv hm HG2.o;(obtain⟨rfl,rfl⟩:a2=a'∧c2=c':=by cases hva;exact⟨rfl,rfl⟩);obtain⟨g,o,rfl,hg,hgw,hcell⟩:=hra om;have f0:=hcell k _ (kz _ k x hx);obtain⟨vi,ms,mt,mf,mi,t0,-,⟨-,t4⟩,-⟩:=hc.tab.ex;have hlk:=t4.look x (hsz x (List.mem_of_getElem? hx));have c0:=aj hc.blk 0 _ rfl;have t2:=aj t0 1 _ rfl;have d1:=aj (hm.keep HB1.o Nz.o) 0 _ rfl;have d2:=aj (hm.keep HB1.o Nz.o) 1 _ rfl;obtain⟨ok,hok⟩:=aN (T.st x).isSome;have mY:Hid ((cur++(if ok then[((4:Int),ln,cl)]else[]))++BM T ln cl (gg.types.drop (k+1))=tot):=fZ (by rw[hok,←dblE_at hx];exact he);rw[←hok]at hlk;(have hlb:gg.types.length≤9223372036854775807:=by omega);clear hcell hx hva hcl hcm hra hg hgw hc hm he t0 t4 hsz hok;cases ok with
   |true=>
    go_wp2_with fail;refine(fB cb _ _ 4 ln cl cur v1 _ HC.o (dL HE.o hb)).mono ?_;rintro e w5 ⟨rfl,v5,h5,g5⟩;have wH:=au h5;have Eo:=au (HM.o.trans g5);clear h5 g5;go_wp2_with fail;go_roundg (gk-1);case rel=>exact⟨k+1,_,v5,by go_num,hlt,sbQ hgg,wH.o,Eo.o,mY.o⟩
    case measure=>omega
   |false=>
    go_wp2_with fail;go_roundg (gk-1);case rel=>exact⟨k+1,cur,v1,by go_num,hlt,sbQ hgg,HC.o,HM.o,by simpa using mY.o⟩
    case measure=>omega
  ·(have hk2:k=gg.types.length:=by omega);(have Df:Hid (cur=tot):=by show _=_;have:=HE.o;rw[hk2,List.drop_length,BM,List.append_nil]at this;exact this);clear hc hm he;go_wp2_with fail;refine bodyPost_ret (results_none rfl _ _ _) rfl ?_;exact⟨rfl,v1,Df.o▸HC.o,(Mv.quiet HST.o).trans HM.o⟩
def Iy (b:ByteArray):Bool:=Lib.hasPrefix b.data.toList [39]
def P9 (T:Tab) (ln cl:Int):List ByteArray→List Er
 |[]=>[]
 |x::r=>(if(T.tr x).isSome then[]else[(3,ln,cl)])++P9 T ln cl r
theorem trE_at {T:Tab} {ln cl:Int} {l:List ByteArray} {k:Nat} {x:ByteArray} (h:l[k]?=some x):P9 T ln cl (l.drop k)=(if(T.tr x).isSome then[]else[(3,ln,cl)])++P9 T ln cl (l.drop (k+1)):=by obtain⟨hk,rfl⟩:=List.getElem?_eq_some_iff.1 h;rw[List.drop_eq_getElem_cons hk,P9]
def bnE (s:Sc) (b:Bd):List Er:=if Iy b.name then jI s.aB b.name b.line b.col else if s.types.any (eqS b.name)then[]else[(3,b.line,b.col)]
def Ap (T:Tab) (s:Sc):List Bd→List Er
 |[]=>[]
 |b::r=>bnE s b++(P9 T b.line b.col b.uw++(jH s.aB b.line b.col b.aB++Ap T s r))
theorem whE_at {T:Tab} {s:Sc} {l:List Bd} {k:Nat} {b:Bd} (h:l[k]?=some b):Ap T s (l.drop k)=bnE s b++(P9 T b.line b.col b.uw++(jH s.aB b.line b.col b.aB++Ap T s (l.drop (k+1)))):=by obtain⟨hk,rfl⟩:=List.getElem?_eq_some_iff.1 h;rw[List.drop_eq_getElem_cons hk,Ap]
theorem z_ {IM:World→Nat→(ByteArray→ByteArray→Option Nat)→Prop} (cb tb:Nat) (T:Tab) (l:List Bd) (ul us:Value) (s:Sc) (es:List Er) (v:Value) (w:World) (h:mQ cb (.pointer (some ⟨tb,0,none⟩)) (TabAt IM tb T) w v es) (hl:ig Am w (Out cb v w) l ul) (hs:IX w (Out cb v w) s us) (hb:(es++Ap T s l).length≤1000000000):Calls Tryz.prog 103 #[.pointer (some ⟨cb,0,none⟩),ul,us] w (ny cb (.pointer (some ⟨tb,0,none⟩)) (TabAt IM tb T) w v (es++Ap T s l)):=by
 have vM:=au hs;obtain⟨a1,c1,a2,c2,rfl,-,-⟩:=hs;obtain⟨al,cl,rfl⟩:=hl.parts;obtain⟨w1,hw1⟩:=aN (w.alloc (.cells #[.slice a1 s.aB.length c1,.slice a2 s.types.length c2,dW s.dF] 138));have HST:=nS hw1
 have HB1:=nB hw1
 have HW1:=au hw1;have qm:=au (h.quiet HST.o);have HL:=au ((bH fP).mv (Mv.quiet HST.o) hl);have HS:=au (jk.mv (Mv.quiet HST.o) vM.o);have HO:=au (h.new (k:=w.heap.size) (Nat.le_refl _) (aK HB1.o));obtain⟨tot,ht⟩:=aN (es++Ap T s l);rw[←ht]at hb⊢;have HT:=au ht;clear h hw1 hl ht vM;go_enter Tryz.func103,Tryz.ntmps103;go_upto_region 1 with fail
 rw[←HW1.o];go_wp2_with fail;go_loopg [7,9,10,11,13,16] l.length (fun gg _ _ _ _ _ s16 wr=>∃(k:Nat) (cur:List Er) (v1:Value),s16=.int .i64 k∧k≤l.length∧l.length-k≤gg∧mQ cb (.pointer (some ⟨tb,0,none⟩)) (TabAt IM tb T) wr v1 cur∧Mv cb w1 v wr v1∧cur++Ap T s (l.drop k)=tot);case atStart=>exact⟨0,es,v,rfl,Nat.zero_le _,by omega,qm.o,Mv.refl _ _ _,HT.o.symm⟩
 case round=>
  obtain⟨k,cur,v1,rfl,hk,hgg,hc,hm,he⟩:=hrel;have HC:=au hc;have HM:=au hm;have HE:=au he;clear hc hm he;by_cases hlt:k<l.length
  ·obtain⟨b,hx⟩:∃b,l[k]?=some b:=⟨l[k],List.getElem?_eq_getElem hlt⟩;obtain⟨xs,⟨a',c',hva,hcl,hcm,-,hra⟩,hls⟩:=(bH fP).mv HM.o HL.o;(obtain⟨rfl,rfl⟩:al=a'∧cl=c':=by cases hva;exact⟨rfl,rfl⟩);obtain⟨g,o,rfl,hg,hgw,hcell⟩:=hra om;obtain⟨cs,hat,hget⟩:=oG.get fP k hls hx;have HWX:=au (whE_at (T:=T) (s:=s) hx);obtain⟨bn,rq,p_,bl,bc⟩:=b;obtain⟨vt,vl,rfl,hsz,hnt,hnl⟩:=hat;obtain⟨at',yj,rfl⟩:=hnt.2.parts;obtain⟨al',cl',rfl⟩:=hnl.2.parts;(have iD:Hid (∀(jj:Nat) v,[Value.string bn,.slice at' rq.length yj,.slice al' p_.length cl',ak bl,ak bc][jj]?=some v→wr.cell? ⟨g,o+k*5+jj,none⟩=some v):=by intro jj v hv;rw[Nat.add_assoc];exact hcell _ _ (hget jj v hv));obtain⟨w3,hw3⟩:=aN (wr.alloc (.cells [Value.string bn,.slice at' rq.length yj,.slice al' p_.length cl',ak bl,ak bc].toArray 170));(have fK:Hid (StF wr w3):=by rw[hw3];exact bK.alloc _);(have HB3:Hid (w3.heap[wr.heap.size]?=some (.cells [Value.string bn,.slice at' rq.length yj,.slice al' p_.length cl',ak bl,ak bc].toArray 170 (0,0))):=by rw[hw3];exact aC _ _);have HW3:=au hw3;have QY:=au (HC.o.new (k:=wr.heap.size) (Nat.le_refl _) (aK HB3.o));have qV:=au (HM.o.then fK.o);have uF:=au (HC.o.quiet fK.o);have aal:=au (qV.o.keep HB1.o HO.o);have HNT:=au (aX.mv (Mv.quiet fK.o) hnt);have HNL:=au (aX.mv (Mv.quiet fK.o) hnl);have Fv:=au hsz;have HS3Q:=au (jk.mv qV.o HS.o);obtain⟨E1,hE1⟩:=aN (bnE s ⟨bn,rq,p_,bl,bc⟩:List Er);have CQ:Hid (E1=if Iy bn then jI s.aB bn bl bc else if s.types.any (eqS bn)then[]else[(3,bl,bc)]):=hE1;obtain⟨rest,hrest⟩:=aN (Ap T s (l.drop (k+1)));have mY:Hid ((cur++E1)++(P9 T bl bc rq++(jH s.aB bl bc p_++rest))=tot):=fZ (by rw[hE1,hrest];have:=HE.o;rw[HWX.o]at this;exact this);have Xk:=au hrest;have HPF:Hid (Calls Tryz.prog 155 #[.string bn,.string ⟨#[39]⟩] w3 fun e w'=>e=.returned (.bool (Iy bn))∧w'=w3):=Tryz.strings_HasPrefix _ _ _;obtain⟨pf,hpf⟩:=aN (Iy bn);rw[←hpf]at CQ HPF;(have hlb:l.length≤9223372036854775807:=by omega);have d0:=aj HB3.o 0 _ rfl;clear hcell hx hva hcl hcm hra hg hgw hls hget hw3 hnt hnl hsz hE1 hrest hpf HWX;go_wp2_with (first
    |(refine aA rfl 170 (.tmp 18) rfl g (o+k*5) rfl [Value.string bn,.slice at' rq.length yj,.slice al' p_.length cl',ak bl,ak bc] _ iD.o Tryz.underlying170 rfl Tryz.j_ ?_)
    |(refine bT rfl 170 (.tmp 7) (.tmp 19) rfl _ [Value.string bn,.slice at' rq.length yj,.slice al' p_.length cl',ak bl,ak bc] rfl rfl Tryz.j_ rfl (aU rfl) ?_;rw[←HW3.o]))
   refine HPF.o.mono ?_;rintro e w4 ⟨rfl,rfl⟩;(go_upto_if 22 with fail);clear d0;go_cut [] (fun wx=>∃v5:Value,mQ cb (.pointer (some ⟨tb,0,none⟩)) (TabAt IM tb T) wx v5 (cur++E1)∧Mv cb w4 v1 wx v5);case first=>
    have d0:=aj HB3.o 0 _ rfl;have d3:=aj HB3.o 3 _ rfl;have d4:=aj HB3.o 4 _ rfl;have d1:=aj aal.o 1 _ rfl;cases pf with
    |true=>go_wp2_with (refine aA rfl 138 (.tmp 5) rfl w.heap.size 0 rfl [.slice a1 s.aB.length c1,.slice a2 s.types.length c2,.bool s.dF] _ (fJ aal.o) Tryz.underlying138 rfl Tryz.gB ?_);refine(rC cb _ _ bn s _ bl bc cur v1 _ uF.o HS3Q.o (dL HE.o hb)).mono ?_;rintro e w5 ⟨rfl,v5,h5,g5⟩;have wH:=au h5;have Eo:=au g5;clear h5 g5 d0 d3 d4 d1;go_wp2_with fail;go_meet;case rel=>exact⟨v5,by simpa[CQ.o]using wH.o,Eo.o⟩
    |false=>
     (have Y8:Hid (Calls Tryz.prog 104 #[.slice a2 s.types.length c2,.string bn] w4 fun e w'=>e=.returned (.bool (s.types.any (eqS bn)))∧StF w4 w'):=by obtain⟨_,_,_,_,hq,-,hq2⟩:=HS3Q.o;cases hq;exact kD _ bn _ _ _ hq2.2);obtain⟨bcn,hbc⟩:=aN (s.types.any (eqS bn));rw[←hbc]at Y8 CQ;clear hbc;go_wp2_with fail;refine Y8.o.mono ?_;rintro e w5 ⟨rfl,h5⟩;have wH:=au (uF.o.quiet h5);have Eo:=au (Mv.quiet (cb:=cb) (v:=v1) h5);clear d0 d3 d4 d1;have d3:=aj (h5.keep HB3.o (fun h=>h)) 3 _ rfl;have d4:=aj (h5.keep HB3.o (fun h=>h)) 4 _ rfl;clear h5;cases bcn with
     |true=>go_wp2_with fail;go_meet;case rel=>exact⟨v1,by simpa[CQ.o]using wH.o,Eo.o⟩
     |false=>go_wp2_with fail;refine(fB cb _ _ 3 bl bc cur v1 _ wH.o (dL HE.o hb)).mono ?_;rintro e w6 ⟨rfl,v6,h6,g6⟩;have Hf:=au h6;have Uh:=au (Eo.o.trans g6);clear h6 g6;go_wp2_with fail;go_meet;case rel=>exact⟨v6,by simpa[CQ.o]using Hf.o,Uh.o⟩
   case rest=>
    obtain⟨v5,h5,g5⟩:=hcut;obtain⟨w5,rfl⟩:=aN wc;have wH:=au h5;have P8:=au g5;have d1:=aj (g5.keep HB3.o QY.o) 1 _ rfl;clear h5 g5;obtain⟨go1,rfl⟩:=aN (gk:Nat);obtain⟨wo,rfl⟩:=aN wr;go_wp2_with fail;clear d1;go_loopg [9,10,11,43] rq.length (fun g9 _ _ _ s43 wr=>∃(j:Nat) (P_:List Er) (v6:Value),s43=.int .i64 j∧j≤rq.length∧rq.length-j≤g9∧mQ cb (.pointer (some ⟨tb,0,none⟩)) (TabAt IM tb T) wr v6 P_∧Mv cb w4 v1 wr v6∧P_++(P9 T bl bc (rq.drop j)++(jH s.aB bl bc p_++rest))=tot);case atStart=>exact⟨0,_,v5,rfl,Nat.zero_le _,by omega,wH.o,P8.o,mY.o⟩
    case round=>
     obtain⟨j,P_,v6,rfl,hj,hgj,hc,hm,he⟩:=hrel;have Hf:=au hc;have Uh:=au hm;have uD:=au he;by_cases hlj:j<rq.length
     ·obtain⟨x,hx⟩:∃x,rq[j]?=some x:=⟨rq[j],List.getElem?_eq_getElem hlj⟩;obtain⟨hsz,a',c',hva,hcl,hcm,-,hra⟩:=aX.mv hm HNT.o;(obtain⟨rfl,rfl⟩:at'=a'∧yj=c':=by cases hva;exact⟨rfl,rfl⟩);obtain⟨g',o',rfl,hg,hgw,hcell⟩:=hra om;have f0:=hcell j _ (kz _ j x hx);obtain⟨vi,ms,mt,mf,mi,t0,-,-,⟨-,t4⟩,-⟩:=hc.tab.ex;have hlk:=t4.look x (hsz x (List.mem_of_getElem? hx));have c0:=aj hc.blk 0 _ rfl;have t2:=aj t0 2 _ rfl;have d3:=aj (hm.keep HB3.o QY.o) 3 _ rfl;have d4:=aj (hm.keep HB3.o QY.o) 4 _ rfl;obtain⟨ok,hok⟩:=aN (T.tr x).isSome;have Ic:Hid ((P_++(if ok then[]else[((3:Int),bl,bc)]))++(P9 T bl bc (rq.drop (j+1))++(jH s.aB bl bc p_++rest))=tot):=fZ (by rw[hok];have:=he;rw[trE_at hx,List.append_assoc]at this;exact this);rw[←hok]at hlk;(have hlb2:rq.length≤9223372036854775807:=by omega);clear hcell hx hva hcl hcm hra hg hgw hc hm he t0 t4 hsz hok;cases ok with
      |false=>
       go_wp2_with fail;refine(fB cb _ _ 3 bl bc P_ v6 _ Hf.o (dL uD.o hb)).mono ?_;rintro e w7 ⟨rfl,v7,h7,g7⟩;have Xl:=au h7;have HM7:=au (Uh.o.trans g7);clear h7 g7;go_wp2_with fail;go_roundg (gk-1);case rel=>exact⟨j+1,_,v7,by go_num,hlj,sbQ hgj,Xl.o,HM7.o,by simpa using Ic.o⟩
       case measure=>omega
      |true=>
       go_wp2_with fail;go_roundg (gk-1);case rel=>exact⟨j+1,P_,v6,by go_num,hlj,sbQ hgj,Hf.o,Uh.o,by simpa using Ic.o⟩
       case measure=>omega
     ·(have hj2:j=rq.length:=by omega);(have Ic:Hid (P_++(jH s.aB bl bc p_++rest)=tot):=by show _=_;rw[hj2,List.drop_length,P9,List.nil_append]at he;exact he);have d2:=aj (hm.keep HB3.o QY.o) 2 _ rfl;clear hc hm he hj2;obtain⟨go2,rfl⟩:=aN (gk:Nat);obtain⟨wq,rfl⟩:=aN wr;go_wp2_with fail;clear d2;go_loopg [13,69] p_.length (fun g9 _ s69 wr=>∃(i:Nat) (yu:List Er) (v8:Value),s69=.int .i64 i∧i≤p_.length∧p_.length-i≤g9∧mQ cb (.pointer (some ⟨tb,0,none⟩)) (TabAt IM tb T) wr v8 yu∧Mv cb w4 v1 wr v8∧yu++(jH s.aB bl bc (p_.drop i)++rest)=tot);case atStart=>exact⟨0,_,v6,rfl,Nat.zero_le _,by omega,Hf.o,Uh.o,Ic.o⟩
      case round=>
       obtain⟨i,yu,v8,rfl,hi,hgi,hc,hm,he⟩:=hrel;have Xm:=au hc;have HM8:=au hm;have UW:=au he;by_cases hli:i<p_.length
       ·obtain⟨x,hx⟩:∃x,p_[i]?=some x:=⟨p_[i],List.getElem?_eq_getElem hli⟩;obtain⟨-,a',c',hva,hcl,hcm,-,hra⟩:=aX.mv hm HNL.o;(obtain⟨rfl,rfl⟩:al'=a'∧cl'=c':=by cases hva;exact⟨rfl,rfl⟩);obtain⟨g',o',rfl,hg,hgw,hcell⟩:=hra om;have f0:=hcell i _ (kz _ i x hx);have d3:=aj (hm.keep HB3.o QY.o) 3 _ rfl;have d4:=aj (hm.keep HB3.o QY.o) 4 _ rfl;have Xn:=au (qV.o.trans hm);have HB18:=au (Xn.o.keep HB1.o HO.o);have HE9:Hid ((yu++jI s.aB x bl bc)++(jH s.aB bl bc (p_.drop (i+1))++rest)=tot):=fZ (by rw[←List.append_assoc (jI _ _ _ _),←Je hx];exact he);(have hlb3:p_.length≤9223372036854775807:=by omega);clear hcell hx hva hcl hcm hra hg hgw hc hm he;go_wp2_with (refine aA rfl 138 (.tmp 5) rfl w.heap.size 0 rfl [.slice a1 s.aB.length c1,.slice a2 s.types.length c2,.bool s.dF] _ (fJ HB18.o) Tryz.underlying138 rfl Tryz.gB ?_);refine(rC cb _ _ x s _ bl bc yu v8 _ Xm.o (jk.mv Xn.o HS.o) (dL UW.o hb)).mono ?_;rintro e w9 ⟨rfl,v9,h9,g9⟩;have BA:=au h9;have UU:=au (HM8.o.trans g9);clear h9 g9;go_wp2_with fail;go_roundg (gk-1);case rel=>exact⟨i+1,_,v9,by go_num,hli,sbQ hgi,BA.o,UU.o,HE9.o⟩
        case measure=>omega
       ·(have hi2:i=p_.length:=by omega);(have HE9:Hid (yu++rest=tot):=by show _=_;rw[hi2,List.drop_length,jH,List.nil_append]at he;exact he);clear hc hm he hi2;go_wp2_with fail;go_roundg (go1-1);case rel=>exact⟨k+1,yu,v8,by go_num,hlt,sbQ hgg,Xm.o,qV.o.trans HM8.o,by rw[←Xk.o];exact HE9.o⟩
        case measure=>omega
  ·(have hk2:k=l.length:=by omega);(have Df:Hid (cur=tot):=by show _=_;have:=HE.o;rw[hk2,List.drop_length,Ap,List.append_nil]at this;exact this);go_wp2_with fail;refine bodyPost_ret (results_none rfl _ _ _) rfl ?_;exact⟨rfl,v1,Df.o▸HC.o,(Mv.quiet HST.o).trans HM.o⟩
theorem Tryz.qE:(Tryz.prog.info? 9).map (fun i=>(i.zero,i.size,i.bytes))=some (some (.string ⟨#[]⟩),1,16):=by kernel_rfl
theorem Aa {w:World} {base:Nat} {e:TypeId} {size b:Nat} (hb:w.heap[b]?=some (.cells #[] e (0,0))) (hl:base≤b):w.ownsRow base e size (.slice (some ⟨b,0,none⟩) 0 0) 0 []:=
 ⟨by simp,.inr ⟨b,0,#[],rfl,hl,hb,Nat.le_refl _,by decide,by simp,by simp⟩⟩
theorem Ac (l:List ByteArray):∀u∈l.map Value.string,u.oneCell'=true:=by intro u hu;obtain⟨_,_,rfl⟩:=List.mem_map.1 hu;rfl
theorem NE (P:Nat→Prop) (n:Nat) (xs:List Value) (v:Value) (w:World) (h:cu w P v n xs) (hl:n≤1000000) (hxl:xs.length=n*1) (h1:∀u∈xs,u.oneCell'=true):Calls Tryz.prog 153 #[v] w fun e w'=>(∃v':Value,e=.returned v'∧w'.ownsRow w.heap.size 9 1 v' n xs)∧StF w w':=by
 have HH:=au (cu.row (B:=w.heap.size) h (fun _ h _=>h));have HXL:=au hxl;have H1:=au h1;obtain⟨a,c,rfl,hc,hcm,hz,-⟩:=h;obtain⟨i0,hi0,hz0,hz1,hz2⟩:=info_parts Tryz.qE;have HI:=au hi0;have HZ0:=au hz0;have HZ1:=au hz1;have HZ2:=au hz2;clear hi0 hz0 hz1 hz2 hxl h1;cases a with
 |none=>
  obtain⟨rfl,rfl⟩:=hz rfl;have hfe:∀(w:World),(binOp .eql 40 (.slice none 0 0) (.slice none 0 0)).run Tryz.prog w=.ok (.bool true) w:=fun _=>by kernel_rfl
  go_enter Tryz.func153,Tryz.ntmps153;go_wp2_with fail;go_ret;refine⟨⟨.slice none 0 0,rfl,?_,.inl ⟨rfl,rfl⟩⟩,Step.refl _ _⟩;rw[HXL.o]
 |some ad=>
  have HST:Hid (StF w (w.alloc (.cells #[] 9))):=bK.alloc _;have HRW:Hid (Row (w.alloc (.cells #[] 9)) (w.heap.size+1) (.slice (some ad) n c) n xs):=HH.o.step HST.o (fun _ _ h=>h)|>.mono (Nat.le_succ _);have HOW:Hid ((w.alloc (.cells #[] 9)).ownsRow w.heap.size 9 1 (.slice (some ⟨w.heap.size,0,none⟩) 0 0) 0 []):=Aa (aC _ _) (Nat.le_refl _);have hfe:∀(ad:Addr) (n c:Nat) (w:World),(binOp .eql 40 (.slice (some ad) n c) (.slice none 0 0)).run Tryz.prog w=.ok (.bool false) w:=fun _ _ _ _=>by kernel_rfl
  clear hz;go_enter Tryz.func153,Tryz.ntmps153;go_wp2_with (refine dK _ rfl (w.heap.size+1) (.tmp 5) (.tmp 6) 40 rfl w.heap.size 9 i0 (.string ⟨#[]⟩) 1 16 Tryz.underlying40 HI.o HZ0.o HZ1.o HZ2.o rfl dc _ _ _ (by simp[Act.eval]) HOW.o _ n _ (by simp[Act.eval]) HRW.o HXL.o H1.o (by unfold maxLen;omega) om (by simp) ?_;intro v6 w6 hown hgrow hat);go_ret;refine⟨⟨v6,rfl,by simpa using hown⟩,HST.o.then (bQ hgrow) (fun i hi e=> ?_)⟩;cases e;exact absurd hi (Nat.lt_irrefl _)
theorem NF (P:Nat→Prop) (n:Nat) (xs:List Value) (v:Value) (w:World) (h:cu w P v n xs) (hl:n≤1000000) (hxl:xs.length=n*19) (h1:∀u∈xs,u.oneCell'=true):Calls Tryz.prog 64 #[v] w fun e w'=>(∃v':Value,e=.returned v'∧w'.ownsRow w.heap.size 51 19 v' n xs)∧StF w w':=by
 have HH:=au (cu.row (B:=w.heap.size) h (fun _ h _=>h));have HXL:=au hxl;have H1:=au h1;obtain⟨a,c,rfl,hc,hcm,hz,-⟩:=h;obtain⟨i0,hi0,hz0,hz1,hz2⟩:=info_parts Tryz.Nk;have HI:=au hi0;have HZ0:=au hz0;have HZ1:=au hz1;have HZ2:=au hz2;clear hi0 hz0 hz1 hz2 hxl h1;cases a with
 |none=>
  obtain⟨rfl,rfl⟩:=hz rfl;have hfe:∀(w:World),(binOp .eql 22 (.slice none 0 0) (.slice none 0 0)).run Tryz.prog w=.ok (.bool true) w:=fun _=>by kernel_rfl
  go_enter Tryz.func64,Tryz.ntmps64;go_wp2_with fail;go_ret;refine⟨⟨.slice none 0 0,rfl,?_,.inl ⟨rfl,rfl⟩⟩,Step.refl _ _⟩;rw[HXL.o]
 |some ad=>
  have HST:Hid (StF w (w.alloc (.cells #[] 51))):=bK.alloc _;have HRW:Hid (Row (w.alloc (.cells #[] 51)) (w.heap.size+1) (.slice (some ad) n c) n xs):=HH.o.step HST.o (fun _ _ h=>h)|>.mono (Nat.le_succ _);have HOW:Hid ((w.alloc (.cells #[] 51)).ownsRow w.heap.size 51 19 (.slice (some ⟨w.heap.size,0,none⟩) 0 0) 0 []):=Aa (aC _ _) (Nat.le_refl _);have hfe:∀(ad:Addr) (n c:Nat) (w:World),(binOp .eql 22 (.slice (some ad) n c) (.slice none 0 0)).run Tryz.prog w=.ok (.bool false) w:=fun _ _ _ _=>by kernel_rfl
  clear hz;go_enter Tryz.func64,Tryz.ntmps64;go_wp2_with (refine dK _ rfl (w.heap.size+1) (.tmp 5) (.tmp 6) 22 rfl w.heap.size 51 i0 _ 19 _ Tryz.underlying22 HI.o HZ0.o HZ1.o HZ2.o rfl dc _ _ _ (by simp[Act.eval]) HOW.o _ n _ (by simp[Act.eval]) HRW.o HXL.o H1.o (by unfold maxLen;omega) om (by simp) ?_;intro v6 w6 hown hgrow hat);go_ret;refine⟨⟨v6,rfl,by simpa using hown⟩,HST.o.then (bQ hgrow) (fun i hi e=> ?_)⟩;cases e;exact absurd hi (Nat.lt_irrefl _)
theorem lm.get {w:World} {P:Nat→Prop} {x:It} {cs:List Value} (h:lm w P x cs):∃(vl vt vf vw vm:Value) (ct:List Value),(cs[0]?=some (.int .i64 x.kind)∧cs[1]?=some (.string x.name)∧cs[2]?=some (.string x.head)∧cs[3]?=some vl∧cs[4]?=some vt∧cs[5]?=some vf∧cs[14]?=some vw∧cs[15]?=some vm∧cs[17]?=some (.int .i64 x.line)∧cs[18]?=some (.int .i64 x.col))∧(bV w P x.gen.aB vl∧bV w P x.gen.types vt∧ig Ei w P x.fields vf∧ig Am w P x.wh vw∧ig Bv w P x.methods vm)∧iC w P x.ret ct∧(∀(j:Nat) v,ct[j]?=some v→cs[6+j]?=some v)∧x.name.size≤9223372036854775807∧x.head.size≤9223372036854775807:=by
 obtain⟨ct,vl,vt,vf,vw,vm,vb,rfl,hn,hh,h4,h5,h6,h7,h8,h9,h10⟩:=h;have hl:=h7.len;refine⟨vl,vt,vf,vw,vm,ct,⟨rfl,rfl,rfl,rfl,rfl,rfl,?_,?_,?_,?_⟩,⟨h4,h5,h6,h8,h9⟩,h7,fun j v hv=> ?_,hn,hh⟩
 ·rw[List.getElem?_append_right (by simp;omega)];simp[hl]
 ·rw[List.getElem?_append_right (by simp;omega)];simp[hl]
 ·rw[List.getElem?_append_right (by simp;omega)];simp[hl]
 ·rw[List.getElem?_append_right (by simp;omega)];simp[hl]
 ·rw[List.getElem?_append_left (by have:=(List.getElem?_eq_some_iff.1 hv).1;simp;omega),List.getElem?_append_right (by simp)];simpa using hv
theorem Bv.get {w:World} {P:Nat→Prop} {m:Mt} {cs:List Value} (h:Bv w P m cs):∃(vl vp vw:Value) (ct:List Value),(cs[0]?=some (.string m.name)∧cs[1]?=some vl∧cs[2]?=some (.int .i64 m.recv)∧cs[3]?=some (.string m.life)∧cs[4]?=some vp∧cs[13]?=some vw∧cs[15]?=some (.int .i64 m.line)∧cs[16]?=some (.int .i64 m.col))∧(bV w P m.aB vl∧ig Ei w P m.params vp∧ig Am w P m.wh vw)∧iC w P m.ret ct∧(∀(j:Nat) v,ct[j]?=some v→cs[5+j]?=some v)∧m.name.size≤9223372036854775807:=by
 obtain⟨ct,vl,vp,vw,vb,rfl,hn,hh,h4,h5,h6,h7,h8⟩:=h;have hl:=h6.len;refine⟨vl,vp,vw,ct,⟨rfl,rfl,rfl,rfl,rfl,?_,?_,?_⟩,⟨h4,h5,h7⟩,h6,fun j v hv=> ?_,hn⟩
 ·rw[List.getElem?_append_right (by simp;omega)];simp[hl]
 ·rw[List.getElem?_append_right (by simp;omega)];simp[hl]
 ·rw[List.getElem?_append_right (by simp;omega)];simp[hl]
 ·rw[List.getElem?_append_left (by have:=(List.getElem?_eq_some_iff.1 hv).1;simp;omega),List.getElem?_append_right (by simp)];simpa using hv
end Go.Proofs.YtppekkbaoimpgaaGreat
