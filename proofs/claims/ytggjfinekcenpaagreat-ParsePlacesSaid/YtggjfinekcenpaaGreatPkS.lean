import Derived.Test.YtggjfinekcenpaaGreatPkR
set_option maxRecDepth 100000
set_option maxHeartbeats 80000000
namespace Go.Proofs.YtggjfinekcenpaaGreat
open Go.RowKit
open Vt
def qY:List Mt→Bool→List ByteArray
 |[],_=>[]
 |m::r,b=>Py m b++qY r b
theorem GY:∀(l m:List Mt) (b:Bool),qY (l++m) b=qY l b++qY m b
 |[],m,b=>rfl
 |a::r,m,b=>by rw[List.cons_append,qY,qY,GY r m,List.append_assoc]
theorem Td (l:List Mt) (m:Mt) (b:Bool):qY (l++[m]) b=qY l b++Py m b:=by rw[GY,qY,qY,List.append_nil]
theorem Z4 (l:List Mt) (b:Bool) (i:Nat):(qY (l.take i) b).length≤(qY l b).length:=by have h:=GY (l.take i) (l.drop i) b;rw[List.take_append_drop]at h;rw[h,List.length_append];omega
def Jz (g:Gn):List ByteArray:=bM ((g.bI.map fun s=>[s])++g.types.map fun s=>[s])
def MS (x:It):List ByteArray:=
 if x.kind=1 then[⟨#[115,116,114,117,99,116]⟩,x.name]++Jz x.gen++([⟨#[123]⟩]++aF (x.fields.map jh)++[⟨#[125]⟩])
 else if x.kind=2 then[⟨#[116,114,97,105,116]⟩,x.name]++([⟨#[123]⟩]++qY x.methods false++[⟨#[125]⟩])
 else if x.kind=3 then[⟨#[105,109,112,108]⟩,x.name,⟨#[102,111,114]⟩,x.head]++gX fK x.wh++([⟨#[123]⟩]++qY x.methods true++[⟨#[125]⟩])
 else if x.kind=4 then[⟨#[102,110]⟩,x.name]++Jz x.gen++([⟨#[40]⟩]++aF (x.fields.map jh)++[⟨#[41]⟩])++gX x.ret x.wh++([⟨#[123]⟩]++eX x.body++[⟨#[125]⟩])
 else[]
theorem BB (x:It):MS x=if x.kind=1 then[⟨#[115,116,114,117,99,116]⟩,x.name]++Jz x.gen++([⟨#[123]⟩]++aF (x.fields.map jh)++[⟨#[125]⟩])else if x.kind=2 then[⟨#[116,114,97,105,116]⟩,x.name]++([⟨#[123]⟩]++qY x.methods false++[⟨#[125]⟩])else if x.kind=3 then[⟨#[105,109,112,108]⟩,x.name,⟨#[102,111,114]⟩,x.head]++gX fK x.wh++([⟨#[123]⟩]++qY x.methods true++[⟨#[125]⟩])else if x.kind=4 then[⟨#[102,110]⟩,x.name]++Jz x.gen++([⟨#[40]⟩]++aF (x.fields.map jh)++[⟨#[41]⟩])++gX x.ret x.wh++([⟨#[123]⟩]++eX x.body++[⟨#[125]⟩])else[]:=rfl
def ItC (x:It):Prop:=∀(cs:List Value) (w:World) (D:Nat→Prop),Hy w D x cs→(MS x).length≤99999980→(Jz x.gen).length≤99999980→(qY x.methods (x.kind==3)).length≤99999980→Calls Tryz.prog 9 #[.agg cs.toArray] w (Mk (aH (MS x)) w)
structure ItW (x:It):Prop where
 kd:x.kind=1∨x.kind=2∨x.kind=3∨x.kind=4
 ls:x.gen.bI.length≤1000000
 ts:x.gen.types.length≤1000000
 fs:x.fields.length≤1000000
 wh:x.wh.length≤1000000
 wa:∀b∈x.wh,b.kQ.length+b.bI.length≤1000000
 ms:x.methods.length≤1000000
 pt:∀p∈x.fields,xI p.ty
 rt:tyK x.ret≠0→xI x.ret
 mw:∀m∈x.methods,MtW m
 bo:KH x.body
theorem Tf {x:It} (hw:ItW x):ItC x:=by
 intro cs w D hx hb hbg hbm;obtain⟨kd,nm,hd,⟨ls,ts⟩,fs,rt,wh,ms,bo,l,c⟩:=x;obtain⟨tk,tn,tl,tm,fO,tar,fM,bT⟩:=rt;obtain⟨hkd,OW,Z5,hfsl,WI,WJ,hmsl,hfp,htr,hmw,hbl⟩:=hw;replace OW:ls.length≤1000000:=OW;replace Z5:ts.length≤1000000:=Z5;obtain⟨ct,vl,vt,vf,vw,vm,vb,rfl,-,-,hn,hnt,hfs,hty,hwh,hms,JJ⟩:=hx;have Bq:=ai hty;rw[gG]at hty;obtain⟨v1,v2,x2,rfl,-,-,-,hr1,-,hr2⟩:=hty;obtain⟨q1,d1,rfl⟩:=hr1.parts;obtain⟨q2,d2,rfl⟩:=hr2.parts;obtain⟨al,cl,rfl⟩:=hn.parts;obtain⟨WA,ct1,rfl⟩:=hnt.parts;obtain⟨af,cf,rfl⟩:=hfs.parts;obtain⟨aw,cw,rfl⟩:=hwh.parts;obtain⟨am,cm1,rfl⟩:=hms.parts;obtain⟨ab,cb,rfl⟩:=JJ.parts;have HN:=ai hn.2;have HNT:=ai hnt.2;have HFS:=ai hfs;have HWH:=ai hwh;obtain⟨xm,hrm,hem⟩:=hms;have HEM:=ai hem;obtain⟨_,_,he,-,-,-,hrm2⟩:=hrm;cases he;have HRM:=ai hrm2;obtain⟨xb,hrb,hb2⟩:=JJ;have jV:=ai hrb;have HB2:=ai hb2;obtain⟨G,hG⟩:=bF (bM ((ls.map fun s=>[s])++ts.map fun s=>[s]));have HG:=ai hG;have hbg:G.length≤99999980:=by rw[hG];exact hbg
 obtain⟨bk,hbk⟩:=bF ((kd==3):Bool);have d_:=ai hbk;have hbm:(qY ms bk).length≤99999980:=by rw[hbk];exact hbm
 have HBM:=ai hbm;have HB:=ai hb;have HKD:=ai hkd;obtain⟨n,hn0⟩:=bF ms.length;have LX:=ai hn0;have hnl:n≤1000000:=by rw[hn0];exact hmsl
 clear hr1 hr2 hn hnt hfs hwh hrm2 hem hrb hb2 hb hG hbk hbm hkd hn0;obtain⟨W,hW⟩:=bF (w.alloc (.cells #[Value.int .i64 kd,aI nm,aI hd,.slice al ls.length cl,.slice WA ts.length ct1,.slice af fs.length cf,ah tk,aI tn,aI tl,bK tm,.slice q1 fO.length d1,.slice q2 tar.length d2,ah fM,ah bT,.slice aw wh.length cw,.slice am ms.length cm1,.slice ab bo.length cb,ah l,ah c] 51));have ST0:Hid (Step Sf w W):=by rw[hW];exact bg.alloc _
 have bJ:Hid (∀X,Step Sf W X→∀(j:Nat) u,[Value.int .i64 kd,aI nm,aI hd,.slice al ls.length cl,.slice WA ts.length ct1,.slice af fs.length cf,ah tk,aI tn,aI tl,bK tm,.slice q1 fO.length d1,.slice q2 tar.length d2,ah fM,ah bT,.slice aw wh.length cw,.slice am ms.length cm1,.slice ab bo.length cb,ah l,ah c][j]?=some u→X.cell? ⟨w.heap.size,0+j,none⟩=some u):=by intro X hX j u hu;rw[hW]at hX;rw[Nat.zero_add];exact aj (hX.keep (aC _ _) (fun h=>h)) j u (by simpa using hu)
 have HW:=ai hW;have hsz:w.heap.size≤W.heap.size:=ST0.o.size;clear hW;go_enter Tryz.func9,Tryz.ntmps9;go_upto_region 1 with fail
 rw[←HW.o];have CQ:Hid (∀X,Step Sf W X→∀(j:Nat) u,[Value.int .i64 tk,aI tn,aI tl,bK tm,.slice q1 fO.length d1,.slice q2 tar.length d2,ah fM,ah bT][j]?=some u→X.cell? ⟨w.heap.size,6+j,none⟩=some u):=by intro X hX j u hu;have h:=bJ.o X hX (6+j) u (by rw[Nat.add_comm];exact(List.getElem?_append_left (l₂:=[.slice aw wh.length cw,.slice am ms.length cm1,.slice ab bo.length cb,.int .i64 l,.int .i64 c]) (List.getElem?_eq_some_iff.1 hu).1).trans hu);rw[Nat.zero_add]at h;exact h
 go_upto_region 1 with fail
 refine au W [.p (.pointer (some ⟨w.heap.size,3,none⟩)),.p (.pointer (some ⟨w.heap.size,3,none⟩)),.p (.slice al ls.length cl),.r [] (jw (ls.map fun s=>[s])),.p (.pointer (some ⟨w.heap.size,3,none⟩)),.p (.pointer (some ⟨w.heap.size,4,none⟩)),.p (.slice WA ts.length ct1),.r [] (jw (ts.map fun s=>[s])),.r [3,7] (jw ((ls.map fun s=>[s])++(ts.map fun s=>[s]))),.r [8] (aH G),.r [9] (aH G)] kr bg (iR (Nat.le_refl _)) ?_ kr ?_
 ·refine OB.p ?_;refine OB.p ?_;refine OB.p ?_ (fun X hX=>by have c:=bJ.o X hX 3 _ rfl;rw[Nat.zero_add]at c;go_simp);refine OB.c #[.slice al ls.length cl] Tryz.func24 (fun X hX=>wB ls _ X D (HN.o.step (ST0.o.trans hX) (fun _ _ h=>h)) (Nat.le_trans OW dc)) ?_;refine OB.p ?_;refine OB.p ?_;refine OB.p ?_ (fun X hX=>by have c:=bJ.o X hX 4 _ rfl;rw[Nat.zero_add]at c;go_simp);refine OB.c #[.slice WA ts.length ct1] Tryz.func24 (fun X hX=>wB ts _ X D (HNT.o.step (ST0.o.trans hX) (fun _ _ h=>h)) (Nat.le_trans Z5 dc)) ?_;refine OB.la 11 15 (by simp only[List.length_map];omega) ?_;refine OB.to (congrArg aH HG.o) ?_;refine OB.cu (ok:=jw ((ls.map fun s=>[s])++ts.map fun s=>[s])) 16 (fun v=> #[v]) Tryz.func23 (fun X v C hX hv=>yh _ v X C (oz.ls hv) (by simp only[List.length_append,List.length_map];omega) (by rw[←HG.o];omega)) ?_;refine OB.mv 17 ?_;exact OB.nil
 intro V0 X0 f0 hX0 hf0;have qy:(aH _).r _ X0 _:=hf0 10 kr;simp only[dm,Act.put,List.setIfInBounds_toArray,List.set_cons_zero,List.set_cons_succ,Nat.zero_add];obtain⟨u3,hu3⟩:∃u,u=V0 10:=⟨_,rfl⟩;rw[←hu3]at qy⊢;have H3:=ai qy;have HX0:=ai hX0;have hx0:=hX0.size;have hkb:(kd==3)=bk:=d_.o.symm;have HL15:Hid (∀X,Step Sf X0 X→X.cell? ⟨w.heap.size,15,none⟩=some (.slice am n cm1)):=by intro X hX;have h:=bJ.o X (HX0.o.trans hX) 15 _ rfl;rw[Nat.zero_add,←LX.o]at h;exact h
 have HL0:Hid (∀X,Step Sf X0 X→X.cell? ⟨w.heap.size,0,none⟩=some (.int .i64 kd)):=by intro X hX;have h:=bJ.o X (HX0.o.trans hX) 0 _ rfl;exact h
 clear qy hf0 hX0 hu3;go_wp2_with fail;go_loopg [4,5] n (fun gg s4 s5 wr=>∃(i:Nat) (C:Nat→Prop),s5=.int .i64 i∧i≤n∧n-i≤gg∧(aH (qY (ms.take i) bk)).r s4 wr C∧(∀q,C q→X0.heap.size≤q)∧Step Sf X0 wr);case atStart=>exact⟨0,Sf,rfl,Nat.zero_le _,by omega,aH.nil _ _,(fun _ h=>h.elim),Step.refl _ _⟩
 case round=>
  obtain⟨i,C,rfl,hi,hg,hu,hC,hst⟩:=hrel;have HU:=ai hu;have HC:=ai hC;have HST:=ai hst;have c15:=HL15.o wr hst;clear hu hC hst;by_cases hlt:i<n
  ·skip
   have hlt2:i<ms.length:=by rw[←LX.o];exact hlt
   obtain⟨x,hx⟩:∃x,ms[i]?=some x:=⟨ms[i],List.getElem?_eq_getElem hlt2⟩
   have HX:Hid (qY (ms.take (i+1)) bk=qY (ms.take i) bk++Py x bk):=by show _=_;rw[take_snoc hx,Td]
   obtain⟨g,o,rfl,h6,h7,h9⟩:=HRM.o (by rw[←LX.o];omega)
   obtain⟨cs,hat,hf⟩:=ou.get jI i HEM.o hx
   have HF:Hid (∀X,Step Sf X0 X→∀(j:Nat) v,cs[j]?=some v→X.cell? ⟨g,o+i*17+j,none⟩=some v):=by
    show∀X,_
    intro X hX j v h
    rw[Nat.add_assoc]
    exact hX.cell (HX0.o.cell (ST0.o.cell (h9 _ _ (hf j v h)) (fun h=>h)) (fun h=>h)) (fun h=>h)
   have hcx:MtC x bk:=WH (hmw x (List.mem_of_getElem? hx))
   have hbt:(qY (ms.take i) bk).length+(Py x bk).length≤99999980:=by
    have h:=HBM.o
    have h2:=Z4 ms bk (i+1)
    rw[HX.o,List.length_append]at h2
    omega
   have hbx:(Py x bk).length≤99999990:=by omega
   have HAT:=ai hat
   have hcl:(Tryz.prog.info? 83).map (·.size)=some cs.length:=by rw[jI.len _ _ hat];exact Tryz.nG
   clear h6 h7 h9 hx hf hat
   go_upto_region 6 with fail
   refine au X0 [.r [12] (aH (qY (ms.take i) bk)),.p (.pointer (some ⟨w.heap.size,15,none⟩)),.p (.slice (some ⟨g,o,none⟩) n cm1),.p (.int .i64 i),.p (.pointer (some ⟨g,o+i*17,none⟩)),.p (.agg cs.toArray),.p (.pointer (some ⟨w.heap.size,0,none⟩)),.p (.int .i64 kd),.p (.bool bk),.r [] (aH (Py x bk)),.r [0,9] (aH (qY (ms.take (i+1)) bk)),.r [10] (aH (qY (ms.take (i+1)) bk)),.r [] (Kp (aH (qY (ms.take i) bk)) (u4))] kr HST.o (jf rfl rfl HU.o HC.o) ?_ kr ?_
   ·
    refine OB.mi 4 ?_
    refine OB.p ?_
    refine OB.p ?_ (fun X hX=>by have c:=HL15.o X hX;go_simp)
    refine OB.p ?_
    refine OB.p ?_
    refine OB.ld g (o+i*17) cs _ HF.o Tryz.underlying83 hcl ?_
    refine OB.p ?_
    refine OB.p ?_ (fun X hX=>by have c:=HL0.o X hX;go_simp)
    refine OB.p ?_
    refine OB.c #[.agg cs.toArray,.bool bk] Tryz.func25 (fun X hX=>hcx cs X D (jI.step _ _ (ST0.o.trans (HX0.o.trans hX)) (fun _ _ h=>h) HAT.o) hbx) ?_
    refine OB.to (congrArg aH HX.o) ?_
    refine OB.app 25 34 om ?_
    refine OB.mv 35 ?_
    exact OB.nil
   intro V X f hX hf
   have h4:(aH _).r _ X _:=hf 11 kr
   simp only[dm,Act.put,List.setIfInBounds_toArray,List.set_cons_zero,List.set_cons_succ,Nat.zero_add]
   go_wp2_with fail
   go_roundg (gk-1)
   case rel=>exact⟨i+1,_,by go_num,by omega,by omega,h4,(fun q h=>h.1),hX⟩
   case measure=>omega
  ·skip
   have hin:i=ms.length:=by have h:=LX.o;omega
   have h:=HU.o
   rw[hin,List.take_length]at h
   have OC:=ai h
   have h3:=(aH G).ok.step HST.o (fun _ _ h=>h) ((aH G).ok.mono (P':=fun q=>W.heap.size≤q∧q<X0.heap.size) (fun q hq h=>⟨h.1,hq⟩) H3.o)
   have H3':=ai h3
   have hWr:=HX0.o.trans HST.o
   have Px:=ai hWr
   have c0:=HL0.o wr HST.o
   have hMB:=HBM.o
   have hFP:=fun X (hX:Step Sf W X)=>(eu kR).step _ _ (ST0.o.trans hX) (fun _ _ h=>h) HFS.o
   have HFP:=ai hFP
   clear h hin HU h3 hWr hFP hkb H3
   rcases HKD.o with hk|hk|hk|hk
   ·skip
    subst hk
    have hI:MS ⟨1,nm,hd,⟨ls,ts⟩,fs,.mk tk tn tl tm fO tar fM bT,wh,ms,bo,l,c⟩=[⟨#[115,116,114,117,99,116]⟩,nm]++bM ((ls.map fun s=>[s])++ts.map fun s=>[s])++([⟨#[123]⟩]++aF (fs.map jh)++[⟨#[125]⟩]):=by rw[BB];rfl
    have hb2:=HB.o
    rw[hI]at hb2
    have p_:=ai hb2
    have HI:=ai hI
    clear hb2 hI
    rw[←HG.o]at HI
    rw[←HG.o]at p_
    go_upto_region 9 with fail
    refine au W [.p (.pointer (some ⟨w.heap.size,1,none⟩)),.p (.string nm),.r [] (aH [⟨#[115,116,114,117,99,116]⟩,nm]),.r [11] (aH G),.r [2,3] (aH ([⟨#[115,116,114,117,99,116]⟩,nm]++G)),.p (.pointer (some ⟨w.heap.size,5,none⟩)),.p (.slice af fs.length cf),.r [] (aH (aF (fs.map jh))),.r [7] (aH ([⟨#[123]⟩]++aF (fs.map jh)++[⟨#[125]⟩])),.r [4,8] (aH (([⟨#[115,116,114,117,99,116]⟩,nm]++G)++([⟨#[123]⟩]++aF (fs.map jh)++[⟨#[125]⟩]))),.r [9] (aH (([⟨#[115,116,114,117,99,116]⟩,nm]++G)++([⟨#[123]⟩]++aF (fs.map jh)++[⟨#[125]⟩]))),.r [] (Kp (aH G) (u3))] kr Px.o (jf rfl rfl H3'.out (fun q h=>h.1)) ?_ kr ?_
    ·
     refine OB.p ?_
     refine OB.p ?_ (fun X hX=>by have c:=bJ.o X hX 1 _ rfl;rw[Nat.zero_add]at c;go_simp)
     refine OB.bs [⟨#[115,116,114,117,99,116]⟩,nm] 2 ?_
     refine OB.mi 3 ?_
     refine OB.app 42 43 (by have h:=p_.out;first|omega|(simp at h⊢;omega)) ?_
     refine OB.p ?_
     refine OB.p ?_ (fun X hX=>by have c:=bJ.o X hX 5 _ rfl;rw[Nat.zero_add]at c;go_simp)
     refine OB.c #[.slice af fs.length cf] Tryz.func27 (fun X hX=>wF fs _ X D (HFP.o X hX) (Nat.le_trans hfsl dc) hfp (by have h:=p_.out;simp at h;omega)) ?_
     refine OB.cu (ok:=aH (aF (fs.map jh))) 47 (fun v=> #[.string ⟨#[123]⟩,v,.string ⟨#[125]⟩]) Tryz.func26 (fun X v C hX hv=>gK _ _ _ v X C (aH.strs hv) (by have h:=p_.out;first|omega|(simp at h;omega))) ?_
     refine OB.app 44 48 (by have h:=p_.out;first|omega|(simp at h⊢;omega)) ?_
     refine OB.mv 49 ?_
     exact OB.nil
    intro V X f hX hf
    have h4:(aH _).r _ X _:=hf 10 kr
    simp only[dm,Act.put,List.setIfInBounds_toArray,List.set_cons_zero,List.set_cons_succ,Nat.zero_add]
    go_wp2_with fail
    go_ret
    exact⟨_,rfl,ST0.o.trans hX,by rw[HI.o];exact(aH _).ok.mono (fun q _ h=>Nat.le_trans hsz h.1) h4⟩
   ·skip
    subst hk
    have hI:MS ⟨2,nm,hd,⟨ls,ts⟩,fs,.mk tk tn tl tm fO tar fM bT,wh,ms,bo,l,c⟩=[⟨#[116,114,97,105,116]⟩,nm]++([⟨#[123]⟩]++qY ms false++[⟨#[125]⟩]):=by rw[BB];rfl
    have hb2:=HB.o
    rw[hI]at hb2
    have p_:=ai hb2
    have HI:=ai hI
    clear hb2 hI
    have hbf:bk=false:=by rw[d_.o];rfl
    rw[←hbf]at HI p_
    clear hbf
    go_upto_region 11 with fail
    refine au W [.p (.pointer (some ⟨w.heap.size,1,none⟩)),.p (.string nm),.r [] (aH [⟨#[116,114,97,105,116]⟩,nm]),.r [7] (aH (qY ms bk)),.r [3] (aH ([⟨#[123]⟩]++qY ms bk++[⟨#[125]⟩])),.r [2,4] (aH ([⟨#[116,114,97,105,116]⟩,nm]++([⟨#[123]⟩]++qY ms bk++[⟨#[125]⟩]))),.r [5] (aH ([⟨#[116,114,97,105,116]⟩,nm]++([⟨#[123]⟩]++qY ms bk++[⟨#[125]⟩]))),.r [] (Kp (aH (qY ms bk)) (u4))] kr Px.o (jf rfl rfl OC.o (fun q h=>Nat.le_trans hx0 (HC.o q h))) ?_ kr ?_
    ·
     refine OB.p ?_
     refine OB.p ?_ (fun X hX=>by have c:=bJ.o X hX 1 _ rfl;rw[Nat.zero_add]at c;go_simp)
     refine OB.bs [⟨#[116,114,97,105,116]⟩,nm] 2 ?_
     refine OB.mi 4 ?_
     refine OB.cu (ok:=aH (qY ms bk)) 55 (fun v=> #[.string ⟨#[123]⟩,v,.string ⟨#[125]⟩]) Tryz.func26 (fun X v C hX hv=>gK _ _ _ v X C (aH.strs hv) (by have h:=p_.out;first|omega|(simp at h;omega))) ?_
     refine OB.app 54 56 (by have h:=p_.out;first|omega|(simp at h⊢;omega)) ?_
     refine OB.mv 57 ?_
     exact OB.nil
    intro V X f hX hf
    have h4:(aH _).r _ X _:=hf 6 kr
    simp only[dm,Act.put,List.setIfInBounds_toArray,List.set_cons_zero,List.set_cons_succ,Nat.zero_add]
    go_wp2_with fail
    go_ret
    exact⟨_,rfl,ST0.o.trans hX,by rw[HI.o];exact(aH _).ok.mono (fun q _ h=>Nat.le_trans hsz h.1) h4⟩
   ·skip
    subst hk
    have hI:MS ⟨3,nm,hd,⟨ls,ts⟩,fs,.mk tk tn tl tm fO tar fM bT,wh,ms,bo,l,c⟩=[⟨#[105,109,112,108]⟩,nm,⟨#[102,111,114]⟩,hd]++gX fK wh++([⟨#[123]⟩]++qY ms true++[⟨#[125]⟩]):=by rw[BB];rfl
    have hb2:=HB.o
    rw[hI]at hb2
    have p_:=ai hb2
    have HI:=ai hI
    clear hb2 hI
    have hbf:bk=true:=by rw[d_.o];rfl
    rw[←hbf]at HI p_
    clear hbf
    go_upto_region 13 with fail
    refine au wr [.p (.pointer (some ⟨w.heap.size,1,none⟩)),.p (.string nm),.p (.pointer (some ⟨w.heap.size,2,none⟩)),.p (.string hd),.r [] (aH [⟨#[105,109,112,108]⟩,nm,⟨#[102,111,114]⟩,hd]),.p (.agg [Value.int .i64 0,dG,dG,aW,ak,ak,ah 0,ah 0].toArray),.p (.pointer (some ⟨w.heap.size,14,none⟩)),.p (.slice aw wh.length cw),.r [] (aH (gX fK wh)),.r [4,8] (aH ([⟨#[105,109,112,108]⟩,nm,⟨#[102,111,114]⟩,hd]++(gX fK wh))),.r [9] (aH ([⟨#[105,109,112,108]⟩,nm,⟨#[102,111,114]⟩,hd]++(gX fK wh)))] kr bg (iR (Nat.le_refl _)) ?_ kr ?_
    ·
     refine OB.p ?_
     refine OB.p ?_ (fun X hX=>by have c:=bJ.o X (Px.o.trans hX) 1 _ rfl;rw[Nat.zero_add]at c;go_simp)
     refine OB.p ?_
     refine OB.p ?_ (fun X hX=>by have c:=bJ.o X (Px.o.trans hX) 2 _ rfl;rw[Nat.zero_add]at c;go_simp)
     refine OB.bs [⟨#[105,109,112,108]⟩,nm,⟨#[102,111,114]⟩,hd] 4 ?_
     refine OB.p ?_
     refine OB.p ?_
     refine OB.p ?_ (fun X hX=>by have c:=bJ.o X (Px.o.trans hX) 14 _ rfl;rw[Nat.zero_add]at c;go_simp)
     refine OB.c #[.agg [Value.int .i64 0,dG,dG,aW,ak,ak,ah 0,ah 0].toArray,.slice aw wh.length cw] Tryz.func28 (fun X hX=>Ad _ wh _ _ X D (rG _ _) ((eu jc).step _ _ (ST0.o.trans (Px.o.trans hX)) (fun _ _ h=>h) HWH.o) WI WJ (fun h=>absurd rfl h) (by have h:=p_.out;first|omega|(simp at h;omega))) ?_
     refine OB.app 64 68 (by have h:=p_.out;first|omega|(simp at h⊢;omega)) ?_
     refine OB.mv 69 ?_
     exact OB.nil
    intro V6 X6 f6 hX6 hf6
    have h46:(aH _).r _ X6 _:=hf6 10 kr
    simp only[dm,Act.put,List.setIfInBounds_toArray,List.set_cons_zero,List.set_cons_succ,Nat.zero_add]
    have hm4:=(aH (qY ms bk)).ok.step hX6 (fun _ _ h=>h) ((aH (qY ms bk)).ok.mono (P':=fun q=>C q∧q<wr.heap.size) (fun q hq h=>⟨h,hq⟩) OC.o)
    have hWs:=Px.o.size
    go_upto_region 14 with fail
    refine au W [.r [5] (aH ([⟨#[105,109,112,108]⟩,nm,⟨#[102,111,114]⟩,hd]++gX fK wh)),.r [6] (aH (qY ms bk)),.r [1] (aH ([⟨#[123]⟩]++qY ms bk++[⟨#[125]⟩])),.r [0,2] (aH (([⟨#[105,109,112,108]⟩,nm,⟨#[102,111,114]⟩,hd]++gX fK wh)++([⟨#[123]⟩]++qY ms bk++[⟨#[125]⟩]))),.r [3] (aH (([⟨#[105,109,112,108]⟩,nm,⟨#[102,111,114]⟩,hd]++gX fK wh)++([⟨#[123]⟩]++qY ms bk++[⟨#[125]⟩]))),.r [] (Kp (aH ([⟨#[105,109,112,108]⟩,nm,⟨#[102,111,114]⟩,hd]++gX fK wh)) (V6 10)),.r [] (Kp (aH (qY ms bk)) (u4))] kr (Px.o.trans hX6) (Yl rfl rfl rfl h46 hm4 (fun q h=>Nat.le_trans hWs h.1) (fun q h=>Nat.le_trans hx0 (HC.o q h.1)) (fun q h h2=>by have:=h.1;have:=h2.2;omega)) ?_ kr ?_
    ·
     refine OB.mi 6 ?_
     refine OB.mi 4 ?_
     refine OB.cu (ok:=aH (qY ms bk)) 71 (fun v=> #[.string ⟨#[123]⟩,v,.string ⟨#[125]⟩]) Tryz.func26 (fun X v C hX hv=>gK _ _ _ v X C (aH.strs hv) (by have h:=p_.out;first|omega|(simp at h;omega))) ?_
     refine OB.app 70 72 (by have h:=p_.out;first|omega|(simp at h⊢;omega)) ?_
     refine OB.mv 73 ?_
     exact OB.nil
    intro V X f hX hf
    have h4:(aH _).r _ X _:=hf 4 kr
    simp only[dm,Act.put,List.setIfInBounds_toArray,List.set_cons_zero,List.set_cons_succ,Nat.zero_add]
    go_wp2_with fail
    go_ret
    exact⟨_,rfl,ST0.o.trans hX,by rw[HI.o];exact(aH _).ok.mono (fun q _ h=>Nat.le_trans hsz h.1) h4⟩
   ·skip
    subst hk
    have hI:MS ⟨4,nm,hd,⟨ls,ts⟩,fs,.mk tk tn tl tm fO tar fM bT,wh,ms,bo,l,c⟩=[⟨#[102,110]⟩,nm]++bM ((ls.map fun s=>[s])++ts.map fun s=>[s])++([⟨#[40]⟩]++aF (fs.map jh)++[⟨#[41]⟩])++gX (.mk tk tn tl tm fO tar fM bT) wh++([⟨#[123]⟩]++eX bo++[⟨#[125]⟩]):=by rw[BB];rfl
    have hb2:=HB.o
    rw[hI]at hb2
    have p_:=ai hb2
    have HI:=ai hI
    clear hb2 hI
    rw[←HG.o]at HI
    rw[←HG.o]at p_
    go_upto_region 16 with fail
    refine au W [.p (.pointer (some ⟨w.heap.size,1,none⟩)),.p (.string nm),.r [] (aH [⟨#[102,110]⟩,nm]),.r [6] (aH G),.r [2,3] (aH ([⟨#[102,110]⟩,nm]++G)),.r [4] (aH ([⟨#[102,110]⟩,nm]++G)),.r [] (Kp (aH G) (u3))] kr Px.o (jf rfl rfl H3'.out (fun q h=>h.1)) ?_ kr ?_
    ·
     refine OB.p ?_
     refine OB.p ?_ (fun X hX=>by have c:=bJ.o X hX 1 _ rfl;rw[Nat.zero_add]at c;go_simp)
     refine OB.bs [⟨#[102,110]⟩,nm] 2 ?_
     refine OB.mi 3 ?_
     refine OB.app 78 79 (by have h:=p_.out;first|omega|(simp at h⊢;omega)) ?_
     refine OB.mv 80 ?_
     exact OB.nil
    intro V6 X6 f6 hX6 hf6
    have h46:(aH _).r _ X6 _:=hf6 5 kr
    simp only[dm,Act.put,List.setIfInBounds_toArray,List.set_cons_zero,List.set_cons_succ,Nat.zero_add]
    go_upto_region 17 with fail
    refine au W [.r [7] (aH ([⟨#[102,110]⟩,nm]++G)),.p (.pointer (some ⟨w.heap.size,5,none⟩)),.p (.slice af fs.length cf),.r [] (aH (aF (fs.map jh))),.r [3] (aH ([⟨#[40]⟩]++aF (fs.map jh)++[⟨#[41]⟩])),.r [0,4] (aH (([⟨#[102,110]⟩,nm]++G)++([⟨#[40]⟩]++aF (fs.map jh)++[⟨#[41]⟩]))),.r [5] (aH (([⟨#[102,110]⟩,nm]++G)++([⟨#[40]⟩]++aF (fs.map jh)++[⟨#[41]⟩]))),.r [] (Kp (aH ([⟨#[102,110]⟩,nm]++G)) (V6 5))] kr hX6 (jf rfl rfl h46 (fun _ h=>h.1)) ?_ kr ?_
    ·
     refine OB.mi 7 ?_
     refine OB.p ?_
     refine OB.p ?_ (fun X hX=>by have c:=bJ.o X hX 5 _ rfl;rw[Nat.zero_add]at c;go_simp)
     refine OB.c #[.slice af fs.length cf] Tryz.func27 (fun X hX=>wF fs _ X D (HFP.o X hX) (Nat.le_trans hfsl dc) hfp (by have h:=p_.out;simp at h;omega)) ?_
     refine OB.cu (ok:=aH (aF (fs.map jh))) 84 (fun v=> #[.string ⟨#[40]⟩,v,.string ⟨#[41]⟩]) Tryz.func26 (fun X v C hX hv=>gK _ _ _ v X C (aH.strs hv) (by have h:=p_.out;first|omega|(simp at h;omega))) ?_
     refine OB.app 81 85 (by have h:=p_.out;first|omega|(simp at h⊢;omega)) ?_
     refine OB.mv 86 ?_
     exact OB.nil
    intro V7 X7 f7 hX7 hf7
    have h47:(aH _).r _ X7 _:=hf7 6 kr
    simp only[dm,Act.put,List.setIfInBounds_toArray,List.set_cons_zero,List.set_cons_succ,Nat.zero_add]
    go_upto_region 18 with fail
    refine au W [.r [8] (aH ([⟨#[102,110]⟩,nm]++G++([⟨#[40]⟩]++aF (fs.map jh)++[⟨#[41]⟩]))),.p (.pointer (some ⟨w.heap.size,6,none⟩)),.p (.agg [Value.int .i64 tk,aI tn,aI tl,bK tm,.slice q1 fO.length d1,.slice q2 tar.length d2,ah fM,ah bT].toArray),.p (.pointer (some ⟨w.heap.size,14,none⟩)),.p (.slice aw wh.length cw),.r [] (aH (gX (.mk tk tn tl tm fO tar fM bT) wh)),.r [0,5] (aH (([⟨#[102,110]⟩,nm]++G++([⟨#[40]⟩]++aF (fs.map jh)++[⟨#[41]⟩]))++(gX (.mk tk tn tl tm fO tar fM bT) wh))),.r [6] (aH (([⟨#[102,110]⟩,nm]++G++([⟨#[40]⟩]++aF (fs.map jh)++[⟨#[41]⟩]))++(gX (.mk tk tn tl tm fO tar fM bT) wh))),.r [] (Kp (aH ([⟨#[102,110]⟩,nm]++G++([⟨#[40]⟩]++aF (fs.map jh)++[⟨#[41]⟩]))) (V7 6))] kr hX7 (jf rfl rfl h47 (fun _ h=>h.1)) ?_ kr ?_
    ·
     refine OB.mi 7 ?_
     refine OB.p ?_
     refine OB.ld w.heap.size 6 [Value.int .i64 tk,aI tn,aI tl,bK tm,.slice q1 fO.length d1,.slice q2 tar.length d2,ah fM,ah bT] _ CQ.o Tryz.underlying46 Tryz.gB ?_
     refine OB.p ?_
     refine OB.p ?_ (fun X hX=>by have c:=bJ.o X hX 14 _ rfl;rw[Nat.zero_add]at c;go_simp)
     refine OB.c #[.agg [Value.int .i64 tk,aI tn,aI tl,bK tm,.slice q1 fO.length d1,.slice q2 tar.length d2,ah fM,ah bT].toArray,.slice aw wh.length cw] Tryz.func28 (fun X hX=>Ad _ wh _ _ X D (gG.step (ST0.o.trans hX) (fun _ _ h=>h) _ _ Bq.o) ((eu jc).step _ _ (ST0.o.trans hX) (fun _ _ h=>h) HWH.o) WI WJ htr (by have h:=p_.out;first|omega|(simp at h;omega))) ?_
     refine OB.app 87 92 (by have h:=p_.out;first|omega|(simp at h⊢;omega)) ?_
     refine OB.mv 93 ?_
     exact OB.nil
    intro V8 X8 f8 hX8 hf8
    have h48:(aH _).r _ X8 _:=hf8 7 kr
    simp only[dm,Act.put,List.setIfInBounds_toArray,List.set_cons_zero,List.set_cons_succ,Nat.zero_add]
    go_upto_region 19 with fail
    refine au W [.r [6] (aH ([⟨#[102,110]⟩,nm]++G++([⟨#[40]⟩]++aF (fs.map jh)++[⟨#[41]⟩])++gX (.mk tk tn tl tm fO tar fM bT) wh)),.p (.pointer (some ⟨w.heap.size,16,none⟩)),.p (.slice ab bo.length cb),.r [] (aH ([⟨#[123]⟩]++eX bo++[⟨#[125]⟩])),.r [0,3] (aH (([⟨#[102,110]⟩,nm]++G++([⟨#[40]⟩]++aF (fs.map jh)++[⟨#[41]⟩])++gX (.mk tk tn tl tm fO tar fM bT) wh)++([⟨#[123]⟩]++eX bo++[⟨#[125]⟩]))),.r [4] (aH (([⟨#[102,110]⟩,nm]++G++([⟨#[40]⟩]++aF (fs.map jh)++[⟨#[41]⟩])++gX (.mk tk tn tl tm fO tar fM bT) wh)++([⟨#[123]⟩]++eX bo++[⟨#[125]⟩]))),.r [] (Kp (aH ([⟨#[102,110]⟩,nm]++G++([⟨#[40]⟩]++aF (fs.map jh)++[⟨#[41]⟩])++gX (.mk tk tn tl tm fO tar fM bT) wh)) (V8 7))] kr hX8 (jf rfl rfl h48 (fun _ h=>h.1)) ?_ kr ?_
    ·
     refine OB.mi 7 ?_
     refine OB.p ?_
     refine OB.p ?_ (fun X hX=>by have c:=bJ.o X hX 16 _ rfl;rw[Nat.zero_add]at c;go_simp)
     refine OB.c #[.slice ab bo.length cb] Tryz.func29 (fun X hX=>hbl _ X D xb (jV.o.step (ST0.o.trans hX) (fun _ _ h=>h)) (eP.step (ST0.o.trans hX) (fun _ _ h=>h) _ _ HB2.o) (by have h:=p_.out;simp at h⊢;omega)) ?_
     refine OB.app 94 97 (by have h:=p_.out;first|omega|(simp at h⊢;omega)) ?_
     refine OB.mv 98 ?_
     exact OB.nil
    intro V X f hX hf
    have h4:(aH _).r _ X _:=hf 5 kr
    simp only[dm,Act.put,List.setIfInBounds_toArray,List.set_cons_zero,List.set_cons_succ,Nat.zero_add]
    go_wp2_with fail
    go_ret
    exact⟨_,rfl,ST0.o.trans hX,by rw[HI.o];exact(aH _).ok.mono (fun q _ h=>Nat.le_trans hsz h.1) h4⟩
def Ti (t:Ty):Prop:=zL t≤8001
def BoB (ts:List Tok) (b:List St):Prop:=nH b≤8001∧f_ (Pd ts) b
theorem GZ (ts:List Tok):BoB ts []:=⟨by rw[eF];decide,f_.nl⟩
def OX (l:List Bd):Prop:=l.length≤16∧∀b∈l,b.kQ.length+b.bI.length≤8
def Ld (l:List Pm):Prop:=l.length≤12∧∀p∈l,Ti p.ty
structure MtB (ts:List Tok) (m:Mt):Prop where
 lf:m.bI.length≤8
 ps:Ld m.params
 rt:Ti m.ret
 wh:OX m.wh
 bo:BoB ts m.body
def WL (ts:List Tok) (l:List Mt):Prop:=l.length≤12∧∀m∈l,MtB ts m
structure ItB (ts:List Tok) (x:It):Prop where
 kd:x.kind=1∨x.kind=2∨x.kind=3∨x.kind=4
 gn:x.gen.bI.length+x.gen.types.length≤8
 fs:Ld x.fields
 rt:Ti x.ret
 wh:OX x.wh
 ms:WL ts x.methods
 bo:BoB ts x.body
 pl:∃t∈ts,x.line=t.line∧x.col=t.col∧(MS x).head?=some (lX t.text)
theorem DN:Ti fK:=by unfold Ti;rw[oC];decide
theorem BD:Ld []:=⟨Nat.zero_le _,fun _ h=>nomatch h⟩
theorem G5:OX []:=⟨Nat.zero_le _,fun _ h=>nomatch h⟩
theorem MV (ts:List Tok):WL ts []:=⟨Nat.zero_le _,fun _ h=>nomatch h⟩
theorem zG {α:Type} {P:α→Prop} {l:List α} {x:α} (h:∀y∈l,P y) (hx:P x):∀y∈l++[x],P y:=by
 intro y hy;rcases List.mem_append.1 hy with h1|h1
 ·exact h y h1
 ·rw[List.mem_singleton]at h1;subst h1;exact hx
theorem Ae {n m:Nat} {l:List Tok} {i:Nat}:eH (fun _=>n<m) (eU n m l i):=by
 intro a j e;unfold eU at e;split at e
 ·cases e
 ·omega
section
variable {l : List Tok} (hl : oJ l) (htk : ∀ t ∈ l, K_ t)
theorem Tj:∀(f i:Nat) (ls ts:List ByteArray),eH (fun g=>g.bI.length+g.types.length≤8) (mY f l i ls ts)
 |0,i,ls,ts=>by rw[mY];exact eH.out
 |f+1,i,ls,ts=>by
  rw[mY]
  refine Ae.bind ?_
  intro _ i hr
  refine eH.bind (Q:=fun p=>p.1.length+p.2.length≤8) ?_ ?_
  ·
   split
   ·
    exact(eH.any _).bind fun x j _=>eH.ok (by simp;omega)
   ·
    exact(eH.any _).bind fun x j _=>eH.ok (by simp;omega)
  ·
   intro p j h
   split
   ·
    exact Tj f _ _ _
   ·
    exact(eH.any _).bind fun _ j _=>eH.ok h
theorem Tm (f i:Nat):eH (fun g=>g.bI.length+g.types.length≤8) (oU f l i):=by
 unfold oU;split
 ·exact Tj _ _ _ _
 ·exact eH.ok (by simp)
theorem JA:∀(f i:Nat) (p:Bool) (ts ls:List ByteArray),eH (fun q=>q.1.length+q.2.length≤8) (gQ f l i p ts ls)
 |0,i,p,ls,ts=>by rw[gQ];exact eH.out
 |f+1,i,p,ls,ts=>by
  rw[gQ]
  refine Ae.bind ?_
  intro _ i hr
  refine eH.bind (Q:=fun p=>p.1.length+p.2.length≤8) ?_ ?_
  ·
   split
   ·
    exact(eH.any _).bind fun x j _=>eH.ok (by simp;omega)
   ·
    exact(eH.any _).bind fun x j _=>eH.ok (by simp;omega)
  ·
   intro p j h
   split
   ·
    exact JA f _ _ _ _
   ·
    exact eH.ok h
theorem WM (f i:Nat):eH (fun b=>b.kQ.length+b.bI.length≤8) (pX f l i):=by unfold pX;refine(eH.any _).bind fun p j _=> ?_;refine(eH.any _).bind fun _ j _=> ?_;exact(JA _ _ _ _ _).bind fun q j h=>eH.ok h
theorem JB:∀(f i:Nat) (acc:List Bd),(∀b∈acc,b.kQ.length+b.bI.length≤8)→eH OX (lV f l i acc)
 |0,i,acc,_=>by rw[lV];exact eH.out
 |f+1,i,acc,ha=>by
  rw[lV]
  refine Ae.bind ?_
  intro _ i hr
  refine(WM _ _).bind fun b j hb=> ?_
  have h2:=zG (P:=fun b:Bd=>b.kQ.length+b.bI.length≤8) ha hb
  split
  ·
   exact JB f _ _ h2
  ·
   exact eH.ok ⟨by simp;omega,h2⟩
theorem G6 (f i:Nat):eH OX (fG f l i):=by
 unfold fG;split
 ·exact JB _ _ _ nR
 ·exact eH.ok G5
include hl
theorem ty_h (f i d:Nat):eH Ti (kG f l i d):=fun t j e=>by have h:=(XY hl f).1 i d t j e;have:=hl.len;show zL t≤8001;omega
include htk in
theorem MW (f i d:Nat):eH (BoB l) (bU f l i d):=fun t j e=>by have h:=(ZX hl htk f).block i d t j e;have:=hl.len;exact⟨by omega,h.2.2⟩
theorem Tn:∀(f i d:Nat) (e:List UInt8) (m:Nat) (acc:List Pm),m≤12→(∀p∈acc,Ti p.ty)→eH Ld (qU f l i d e m acc)
 |0,i,d,e,m,acc,_,_=>by rw[qU];exact eH.out
 |f+1,i,d,e,m,acc,hm,ha=>by
  rw[qU]
  refine Ae.bind ?_
  intro _ i hr
  refine(eH.any _).bind fun n j _=> ?_
  refine(eH.any _).bind fun _ j _=> ?_
  refine(ty_h hl _ _ _).bind fun t j ht=> ?_
  have h2:=zG (P:=fun p:Pm=>Ti p.ty) (x:=⟨n,t,(tokA l i).line,(tokA l i).col⟩) ha ht
  split
  ·
   exact Tn f _ _ _ _ _ hm h2
  ·
   exact(eH.any _).bind fun _ j _=>eH.ok ⟨by simp;omega,h2⟩
theorem DR (f i d:Nat) (e:List UInt8) (m:Nat) (hm:m≤12):eH Ld (fZ f l i d e m):=by
 unfold fZ;split
 ·exact eH.ok BD
 ·exact Tn hl _ _ _ _ _ _ hm nR
theorem X9 (f i d:Nat):eH Ti (lm f l i d):=by
 unfold lm;split
 ·exact ty_h hl _ _ _
 ·exact eH.ok DN
include htk in
theorem Tq (f i d:Nat) (body:Bool):eH (MtB l) (ny f l i d body):=by
 unfold ny;refine(eH.any _).bind fun _ j _=> ?_;refine(eH.any _).bind fun n j _=> ?_;refine(Tm _ _).bind fun g j hg=> ?_;refine(eH.any _).bind fun _ j _=> ?_;refine(eH.any _).bind fun _ j _=> ?_;refine(eH.any _).bind fun _ k _=> ?_;refine eH.bind (Q:=Ld) ?_ fun ps k hp=> ?_
 ·split
  ·split
   ·exact eH.fail
   ·exact DR hl _ _ _ _ _ dc
  ·exact(eH.any _).bind fun _ j _=>eH.ok BD
 refine(X9 hl _ _ _).bind fun t k ht=> ?_;refine(G6 _ _).bind fun wh k hw=> ?_;refine eH.bind (Q:=BoB l) ?_ fun b k hb=> ?_
 ·split
  ·exact MW hl htk _ _ _
  ·exact(eH.any _).bind fun _ k _=>eH.ok (GZ l)
 exact eH.ok ⟨by show g.bI.length≤8;omega,hp,ht,hw,hb⟩
include htk in
theorem MX:∀(f i d:Nat) (body:Bool) (acc:List Mt),acc.length≤12→(∀m∈acc,MtB l m)→eH (WL l) (oV f l i d body acc)
 |0,i,d,body,acc,_,_=>by rw[oV];exact eH.out
 |f+1,i,d,body,acc,hn,ha=>by
  rw[oV]
  split
  ·
   exact eH.ok ⟨hn,ha⟩
  refine Ae.bind ?_
  intro _ i hr
  refine(Tq hl htk _ _ _ _).bind fun m j hm=> ?_
  exact MX f _ _ _ _ (by simp;omega) (zG ha hm)
include htk in
theorem Ff (f i d:Nat) (body:Bool):eH (WL l) (iO f l i d body):=by unfold iO;exact(eH.any _).bind fun _ j _=>MX hl htk _ _ _ _ _ (Nat.zero_le _) nR
include htk in
theorem Z7 (f i d:Nat):eH (ItB l) (tu f l i d):=by
 have hpl:∀(s:List UInt8) (x:It),bG l i s=true→x.line=(tokA l i).line→x.col=(tokA l i).col→(MS x).head?=some (lX s)→∃t∈l,x.line=t.line∧x.col=t.col∧(MS x).head?=some (lX t.text):=
  fun s x h h1 h2 h3=>⟨tokA l i,DK h,h1,h2,by rw[zF h];exact h3⟩
 unfold tu;split
 ·rename_i h0;refine(eH.any _).bind fun n j _=> ?_;refine(Tm _ _).bind fun g j hg=> ?_;refine(eH.any _).bind fun _ j _=> ?_;exact(DR hl _ _ _ _ _ dc).bind fun fs j hf=>eH.ok ⟨.inl rfl,hg,hf,DN,G5,MV l,GZ l,hpl _ _ h0 rfl rfl rfl⟩
 split
 ·rename_i h0;refine(eH.any _).bind fun n j _=> ?_;exact(Ff hl htk _ _ _ _).bind fun ms j hm=>eH.ok ⟨.inr (.inl rfl),Nat.zero_le 8,BD,DN,G5,hm,GZ l,hpl _ _ h0 rfl rfl rfl⟩
 split
 ·rename_i h0;refine(eH.any _).bind fun n j _=> ?_;refine(eH.any _).bind fun _ j _=> ?_;refine(eH.any _).bind fun h j _=> ?_;refine(G6 _ _).bind fun wh j hw=> ?_;exact(Ff hl htk _ _ _ _).bind fun ms j hm=>eH.ok ⟨.inr (.inr (.inl rfl)),Nat.zero_le 8,BD,DN,hw,hm,GZ l,hpl _ _ h0 rfl rfl rfl⟩
 split
 ·rename_i h0;refine(eH.any _).bind fun n j _=> ?_;refine(Tm _ _).bind fun g j hg=> ?_;refine(eH.any _).bind fun _ j _=> ?_;refine(DR hl _ _ _ _ _ dc).bind fun fs j hf=> ?_;refine(X9 hl _ _ _).bind fun t j ht=> ?_;refine(G6 _ _).bind fun wh j hw=> ?_;refine(MW hl htk _ _ _).bind fun b j hb=> ?_;exact eH.ok ⟨.inr (.inr (.inr rfl)),hg,hf,ht,hw,MV l,hb,hpl _ _ h0 rfl rfl rfl⟩
 ·exact eH.fail
include htk in
theorem MZ:∀(f i d:Nat) (acc:List It),acc.length≤60→(∀x∈acc,ItB l x)→eH (fun r=>r.length≤60∧∀x∈r,ItB l x) (lq f l i d acc)
 |0,i,d,acc,_,_=>by rw[lq];exact eH.out
 |f+1,i,d,acc,hn,ha=>by
  rw[lq]
  split
  ·
   exact eH.ok ⟨hn,ha⟩
  refine Ae.bind ?_
  intro _ i hr
  refine(Z7 hl htk _ _ _).bind fun m j hm=> ?_
  exact MZ f _ _ _ (by simp;omega) (zG ha hm)
end
theorem Z8 {s:List UInt8} {l:List It} (h:wC s=.ok l):∃ts,nP s=.ok ts∧oJ ts∧l.length≤60∧∀x∈l,ItB ts x:=by
 unfold wC Dw at h;split at h
 ·cases h
 ·rename_i toks he;split at h
  ·rename_i a j hr;cases h;unfold GK at hr;split at hr
   ·rename_i a2 j2 hr2;split at hr
    ·cases hr;have hL:=(zo he).1;obtain⟨h1,h2⟩:=MZ hL (Wv he) _ _ _ [] (Nat.zero_le _) nR _ _ hr2;exact⟨toks,he,hL,h1,h2⟩
    ·cases hr
   ·cases hr
   ·cases hr
  ·cases h
  ·cases h
def l9:List (List ByteArray)→Nat
 |[]=>0
 |x::r=>x.length+1+l9 r
theorem Fg:∀(l:List (List ByteArray)) (x:List ByteArray),l9 (l++[x])=l9 l+(x.length+1)
 |[],x=>by show x.length+1+0=0+(x.length+1);omega
 |a::r,x=>by rw[List.cons_append,l9,l9,Fg r x];omega
theorem Tt (l:List (List ByteArray)):∀i,i≤l.length→(cm l i).length≤l9 (l.take i)
 |0,_=>Nat.zero_le _
 |i+1,h=>by
  have h1:=Tt l i om
  have h2:l[i]?=some l[i]:=List.getElem?_eq_getElem om
  have h3:(sep i).length≤1:=by unfold sep;split<;>simp
  rw[take_snoc h2,Fg,cm,wO h2]
  simp only[List.length_append]
  omega
theorem kZ (l:List (List ByteArray)):(aF l).length≤l9 l:=by have h:=Tt l l.length (Nat.le_refl _);rw[List.take_length]at h;exact h
theorem DT:∀(l m:List (List ByteArray)),l9 (l++m)=l9 l+l9 m
 |[],m=>by show l9 m=0+l9 m;omega
 |a::r,m=>by rw[List.cons_append,l9,l9,DT r m];omega
theorem qC:∀l:List ByteArray,l9 (l.map fun s=>[s])=2*l.length
 |[]=>rfl
 |a::r=>by rw[List.map_cons,l9,qC r];simp only[List.length_cons,List.length_nil];omega
theorem yB (l:List (List ByteArray)):(bM l).length≤2+l9 l:=by
 unfold bM;split
 ·exact Nat.zero_le _
 ·have:=kZ l;simp only[List.length_append,List.length_cons,List.length_nil];omega
mutual
theorem BF:∀t:Ty,(gu t).length+4≤10*zL t
 | .mk k nm lf mu ls ar l c=>by
  have h1:=JC ar
  have h2:=kZ (Bc ar)
  have h3:=yB (AB ls++Bc ar)
  have h4:=qC ls
  have h5:(if lf=⟨#[]⟩then[]else[lf]:List ByteArray).length≤1:=by split<;>simp
  have h6:(if mu then[⟨#[109,117,116]⟩]else[]:List ByteArray).length≤1:=by split<;>simp
  have h7:(if lf=⟨#[]⟩then[]else[⟨#[43]⟩,lf]:List ByteArray).length≤2:=by split<;>simp
  rw[DT]at h3
  unfold AB at h3
  rw[h4]at h3
  rw[gu,zL]
  unfold AB
  repeat' split
  all_goals simp only[List.length_append,List.length_cons,List.length_nil]at*
  all_goals omega
theorem JC:∀l:List Ty,l9 (Bc l)≤10*pY l
 |[]=>by rw[Bc];exact Nat.zero_le _
 |t::r=>by
  have h1:=BF t
  have h2:=JC r
  rw[Bc,l9,pY];omega
end
theorem Z9 (l:List (List ByteArray)):(lZ l).length+l9 (l.drop 1)≤l9 l:=by
 cases l with
 |nil=>exact Nat.zero_le _
 |cons x r=>show x.length+l9 r≤x.length+1+l9 r;omega
theorem WN (l:List (List ByteArray)):(l.getD 1 []).length≤l9 (l.drop 1):=by
 match l with
 |[]=>exact Nat.zero_le _
 |[x]=>exact Nat.zero_le _
 |x::y::r=>show y.length≤y.length+1+l9 r;omega
theorem M_:∀(ns:List ByteArray) (l:List (List ByteArray)),l9 ((ns.zip l).map fun p=>[p.1,⟨#[58]⟩]++p.2)≤2*ns.length+l9 l
 |[],l=>by rw[List.zip_nil_left];exact Nat.zero_le _
 |n::ns,[]=>by rw[List.zip_nil_right];exact Nat.zero_le _
 |n::ns,x::l=>by
  have h:=M_ ns l
  rw[List.zip_cons_cons,List.map_cons,l9,l9]
  simp only[List.length_append,List.length_cons,List.length_nil];omega
mutual
theorem Na:∀x:Ex,(dM x).length+4≤10*DC x
 | .mk k nm v mu ar ns bo l c=>by
  have h1:=zH ar
  have h2:=kZ (dF ar)
  have h3:=Z9 (dF ar)
  have h4:=kZ ((dF ar).drop 1)
  have h5:=WN (dF ar)
  have h6:=kZ ((ns.zip (dF ar)).map fun p=>[p.1,⟨#[58]⟩]++p.2)
  have h7:=M_ ns (dF ar)
  have h8:=kZ (AB ns)
  have h9:=qC ns
  have h10:=tK bo
  have h11:(if mu then[⟨#[38]⟩,⟨#[109,117,116]⟩]else[⟨#[38]⟩]:List ByteArray).length≤2:=by split<;>simp
  have h12:(if 1<(dF ar).length then(dF ar).getD 1 []else[]).length≤((dF ar).getD 1 []).length:=by split<;>simp
  unfold AB at h8
  rw[dM,DC]
  unfold AB
  by_cases k1:k=1
  ·
   rw[if_pos k1];simp only[List.length_cons,List.length_nil];omega
  rw[if_neg k1]
  by_cases k2:k=2
  ·
   rw[if_pos k2];simp only[List.length_cons,List.length_nil];omega
  rw[if_neg k2]
  by_cases k3:k=3
  ·
   rw[if_pos k3];simp only[List.length_cons,List.length_nil];omega
  rw[if_neg k3]
  by_cases k4:k=4
  ·
   rw[if_pos k4];simp only[List.length_cons,List.length_nil];omega
  rw[if_neg k4]
  by_cases k5:k=5
  ·
   rw[if_pos k5];simp only[List.length_cons,List.length_nil];omega
  rw[if_neg k5]
  by_cases k6:k=6
  ·
   rw[if_pos k6];simp only[List.length_append,List.length_cons,List.length_nil];omega
  rw[if_neg k6]
  by_cases k7:k=7
  ·
   rw[if_pos k7];simp only[List.length_append,List.length_cons,List.length_nil];omega
  rw[if_neg k7]
  by_cases k8:k=8
  ·
   rw[if_pos k8,List.length_append];omega
  rw[if_neg k8]
  by_cases k9:k=9
  ·
   rw[if_pos k9];simp only[List.length_append,List.length_cons,List.length_nil];omega
  rw[if_neg k9]
  by_cases k10:k=10
  ·
   rw[if_pos k10];simp only[List.length_append,List.length_cons,List.length_nil];omega
  rw[if_neg k10]
  by_cases k11:k=11
  ·
   rw[if_pos k11];simp only[List.length_append,List.length_cons,List.length_nil];omega
  rw[if_neg k11]
  by_cases k12:k=12
  ·
   rw[if_pos k12];simp only[List.length_append,List.length_cons,List.length_nil];omega
  rw[if_neg k12]
  by_cases k13:k=13
  ·
   rw[if_pos k13];simp only[List.length_append,List.length_cons,List.length_nil];omega
  rw[if_neg k13]
  by_cases k14:k=14
  ·
   rw[if_pos k14];rw[List.length_append,List.length_append,List.length_singleton];omega
  rw[if_neg k14]
  by_cases k15:k=15
  ·
   rw[if_pos k15];simp only[List.length_append,List.length_cons,List.length_nil];omega
  rw[if_neg k15]
  by_cases k16:k=16
  ·
   rw[if_pos k16];simp only[List.length_cons,List.length_nil];omega
  rw[if_neg k16]
  by_cases k17:k=17
  ·
   rw[if_pos k17];simp only[List.length_append,List.length_cons,List.length_nil];omega
  rw[if_neg k17]
  by_cases k18:k=18
  ·
   rw[if_pos k18];simp only[List.length_append,List.length_cons,List.length_nil];omega
  rw[if_neg k18];simp only[List.length_nil];omega
theorem zH:∀l:List Ex,l9 (dF l)+l.length≤10*jQ l
 |[]=>by rw[dF];exact Nat.zero_le _
 |t::r=>by
  have h1:=Na t
  have h2:=zH r
  rw[dF,l9,jQ,List.length_cons];omega
theorem WO:∀s:St,(uY s).length≤10*stM s
 | .mk k nm ⟨tk,tn,tl,tm,fO,tar,fM,bT⟩ pl e bo el ot l c=>by
  have h1:=zH pl
  have h2:=zH e
  have h3:=kZ (dF pl)
  have h4:=kZ (dF e)
  have h5:=tK bo
  have h6:=tK el
  have h7:=BF (.mk tk tn tl tm fO tar fM bT)
  have h8:=GU (.mk tk tn tl tm fO tar fM bT)
  have h9:(if tk=0 then[]else[⟨#[58]⟩]++gu (.mk tk tn tl tm fO tar fM bT):List ByteArray).length≤(gu (.mk tk tn tl tm fO tar fM bT)).length+1:=by
   split
   ·
    exact Nat.zero_le _
   ·
    simp only[List.length_append,List.length_cons,List.length_nil];omega
  have h10:(if e.length=0 then[]else[⟨#[61]⟩]++aF (dF e):List ByteArray).length≤10*jQ e:=by
   split
   ·
    exact Nat.zero_le _
   ·
    simp only[List.length_append,List.length_cons,List.length_nil];omega
  have h11:(if ot then[⟨#[101,108,115,101]⟩]++([⟨#[123]⟩]++eX el++[⟨#[125]⟩])else[]:List ByteArray).length≤3+(eX el).length:=by
   split
   ·
    simp only[List.length_append,List.length_cons,List.length_nil];omega
   ·
    exact Nat.zero_le _
  rw[uY,stM]
  by_cases k1:k=1
  ·
   rw[if_pos k1]
   rw[List.length_append,List.length_append,List.length_append,List.length_singleton]
   show 2+_+_+1≤_
   have h9:(match Ty.mk tk tn tl tm fO tar fM bT with| .mk tk _ _ _ _ _ _ _=>if tk=0 then[]else[⟨#[58]⟩]++gu (.mk tk tn tl tm fO tar fM bT):List ByteArray).length≤_:=h9
   omega
  rw[if_neg k1]
  by_cases k2:k=2
  ·
   rw[if_pos k2];simp only[List.length_append,List.length_cons,List.length_nil];omega
  rw[if_neg k2]
  by_cases k3:k=3
  ·
   rw[if_pos k3];simp only[List.length_append,List.length_cons,List.length_nil];omega
  rw[if_neg k3]
  by_cases k4:k=4
  ·
   rw[if_pos k4,List.length_append];simp only[List.length_append,List.length_cons,List.length_nil]at h11⊢;omega
  rw[if_neg k4]
  by_cases k5:k=5
  ·
   rw[if_pos k5];simp only[List.length_append,List.length_cons,List.length_nil];omega
  rw[if_neg k5]
  by_cases k6:k=6
  ·
   rw[if_pos k6];simp only[List.length_append,List.length_cons,List.length_nil];omega
  rw[if_neg k6]
  by_cases k7:k=7
  ·
   rw[if_pos k7];simp only[List.length_cons,List.length_nil];omega
  rw[if_neg k7]
  by_cases k8:k=8
  ·
   rw[if_pos k8];simp only[List.length_append,List.length_cons,List.length_nil];omega
  rw[if_neg k8];exact Nat.zero_le _
theorem tK:∀l:List St,(eX l).length≤10*nH l
 |[]=>by rw[eX];exact Nat.zero_le _
 |t::r=>by
  have h1:=WO t
  have h2:=tK r
  rw[eX,nH,List.length_append];omega
end
mutual
theorem X_ {ts:List Tok}:∀x:Ex,wE (Pd ts) x→wE VB x
 | .mk k nm v mu ar ns bo l c,h=>by
  rw[wE]at h⊢
  exact⟨h.1.1,G7 ar h.2.1,DU bo h.2.2⟩
theorem G7 {ts:List Tok}:∀l:List Ex,dK (Pd ts) l→dK VB l
 |[],_=>dK.nil _
 |x::r,h=>by
  rw[dK]at h⊢
  exact⟨X_ x h.1,G7 r h.2⟩
theorem as_vb {ts:List Tok}:∀s:St,yu (Pd ts) s→yu VB s
 | .mk k nm ty pl e bo el ot l c,h=>by
  rw[yu]at h⊢
  exact⟨G7 pl h.1,G7 e h.2.1,DU bo h.2.2.1,DU el h.2.2.2⟩
theorem DU {ts:List Tok}:∀l:List St,f_ (Pd ts) l→f_ VB l
 |[],_=>f_.nil _
 |x::r,h=>by
  rw[f_]at h⊢
  exact⟨as_vb x h.1,DU r h.2⟩
end
theorem Le {α:Type} {f:α→List ByteArray} {n:Nat}:∀{l:List α},(∀x∈l,(f x).length+1≤n)→l9 (l.map f)≤l.length*n
 |[],_=>Nat.zero_le _
 |a::r,h=>by
  have h1:=h a (List.mem_cons_self ..)
  have h2:=Le (l:=r) (fun x hx=>h x (List.mem_cons_of_mem _ hx))
  rw[List.map_cons,l9,List.length_cons,Nat.add_mul,Nat.one_mul];omega
theorem Nb {l:List Pm} (h:Ld l):(aF (l.map jh)).length≤1000000:=by
 have h1:=kZ (l.map jh)
 have h2:=Le (f:=jh) (n:=80020) (l:=l) (fun p hp=>by
  have h3:=BF p.ty
  have h4:zL p.ty≤8001:=h.2 p hp
  unfold jh
  simp only[List.length_append,List.length_cons,List.length_nil];omega)
 have h3:l.length*80020≤12*80020:=Nat.mul_le_mul_right _ h.1;omega
theorem DV {rt:Ty} {l:List Bd} (hr:Ti rt) (hw:OX l):(gX rt l).length≤100000:=by
 have h1:=kZ (l.map yA)
 have h2:=Le (f:=yA) (n:=20) (l:=l) (fun b hb=>by
  have h3:=DL (b.kQ++b.bI) (b.kQ++b.bI).length
  have h4:=hw.2 b hb
  unfold yA
  rw[List.length_append]at h3
  simp only[List.length_append,List.length_cons,List.length_nil]at h3⊢;omega)
 have h3:l.length*20≤16*20:=Nat.mul_le_mul_right _ hw.1;have h4:=BF rt;have h5:zL rt≤8001:=hr;unfold gX;obtain⟨k,nm,lf,mu,ls,ar,ln,col⟩:=rt;have h6:(if k=0 then[]else[⟨#[45,62]⟩]++gu (.mk k nm lf mu ls ar ln col):List ByteArray).length≤90000:=by
  split
  ·exact Nat.zero_le _
  ·simp only[List.length_append,List.length_cons,List.length_nil];omega
 have h7:(if(l.map yA).length=0 then[]else[⟨#[119,104,101,114,101]⟩]++aF (l.map yA):List ByteArray).length≤400:=by
  split
  ·exact Nat.zero_le _
  ·simp only[List.length_append,List.length_cons,List.length_nil];omega
 rw[List.length_append];show(if k=0 then _ else _:List ByteArray).length+_≤_;omega
theorem Z_ {ts:List Tok} {m:Mt} (h:MtB ts m) (b:Bool):(Py m b).length≤2000000:=by
 obtain⟨h1,h2,h3,h4,h5⟩:=h;have h6:=yB (m.bI.map fun s=>[s]);rw[qC]at h6;have h7:=Nb h2;have h8:=DV h3 h4;have h9:=tK m.body;have h10:=h5.1;have h11:(WC m.recv m.life).length≤2:=by unfold WC;split<;>(try split)<;>simp
 have h12:(WE m.recv).length≤1:=by unfold WE;split<;>simp
 have h13:(WG m.params).length≤1+(aF (m.params.map jh)).length:=by
  unfold WG;split
  ·exact Nat.zero_le _
  ·simp only[List.length_append,List.length_cons,List.length_nil];omega
 have h14:(if b then[⟨#[123]⟩]++eX m.body++[⟨#[125]⟩]else[⟨#[59]⟩]:List ByteArray).length≤2+(eX m.body).length:=by split<;>(simp only[List.length_append,List.length_cons,List.length_nil];omega)
 unfold Py;simp only[List.length_append,List.length_cons,List.length_nil]at h14⊢;omega
theorem Tv {ts:List Tok}:∀{l:List Mt} (b:Bool),(∀m∈l,MtB ts m)→(qY l b).length≤l.length*2000000
 |[],b,_=>Nat.zero_le _
 |m::r,b,h=>by
  have h1:=Z_ (h m (List.mem_cons_self ..)) b
  have h2:=Tv (l:=r) b (fun x hx=>h x (List.mem_cons_of_mem _ hx))
  rw[qY,List.length_append,List.length_cons,Nat.add_mul,Nat.one_mul];omega
theorem G8 {t:Ty} (h:Ti t):xI t:=DF _ t (Nat.lt_succ_self _) (Nat.le_trans h dc)
theorem Tz {ts:List Tok} {b:List St} (h:BoB ts b):KH b:=(DI (SizeOf.sizeOf b+1)).2 b (Nat.lt_succ_self _) (DU _ h.2) (Nat.le_trans h.1 dc)
theorem it_ok {ts:List Tok} {x:It} (h:ItB ts x):ItW x∧(MS x).length≤99999980∧(Jz x.gen).length≤99999980∧(qY x.methods (x.kind==3)).length≤99999980:=by
 obtain⟨h1,h2,h3,h4,h5,h6,h7,h8⟩:=h;have g1:(Jz x.gen).length≤100:=by have:=yB ((x.gen.bI.map fun s=>[s])++x.gen.types.map fun s=>[s]);rw[DT,qC,qC]at this;unfold Jz;omega
 have g2:∀b,(qY x.methods b).length≤24000000:=fun b=>Nat.le_trans (Tv b h6.2) (Nat.mul_le_mul_right _ h6.1);have g3:=Nb h3;have g4:=DV h4 h5;have g5:=DV DN h5;have g6:=tK x.body;have g7:=h7.1;have g8:=g2 false;have g9:=g2 true;refine⟨⟨h1,by omega,by omega,by have:=h3.1;omega,by have:=h5.1;omega,fun b hb=>by have:=h5.2 b hb;omega,by have:=h6.1;omega,fun p hp=>G8 (h3.2 p hp),fun _=>G8 h4,fun m hm=> ?_,Tz h7⟩,?_,by omega,by have:=g2 (x.kind==3);omega⟩
 ·obtain⟨k1,k2,k3,k4,k5⟩:=h6.2 m hm;exact⟨by omega,by have:=k2.1;omega,by have:=k4.1;omega,fun b hb=>by have:=k4.2 b hb;omega,fun p hp=>G8 (k2.2 p hp),fun _=>G8 k3,Tz k5⟩
 ·unfold MS
  repeat' split
  all_goals simp only[List.length_append,List.length_cons,List.length_nil]
  all_goals omega
def lC (ab:Nat) (w:World):Prop:=w.heap[ab]?=some (.cells #[bK true] 4 (0,0))
def Vis (kf:Nat) (caps:List Value) (ab:Nat) (P:Nat→Prop) (Nd:Ex→Prop) (W0:World):Prop:=∀(x:Ex) (cs:List Value) (w:World),Nd x→dA w P x cs→lC ab w→Step (·=ab) W0 w→
 Calls Tryz.prog kf (.agg cs.toArray::caps).toArray w fun e w'=>e=.returned (.tuple #[])∧lC ab w'∧Step (·=ab) w w'
def WkE (kf:Nat) (caps:List Value) (ab:Nat) (P:Nat→Prop) (Nd:Ex→Prop) (W0:World) (n:Nat):Prop:=∀(x:Ex) (cs:List Value) (w:World),SizeOf.sizeOf x<n→wE Nd x→dA w P x cs→lC ab w→Step (·=ab) W0 w→
 Calls Tryz.prog 30 #[.agg cs.toArray,.func (.func kf) #[] caps.toArray] w fun e w'=>e=.returned (.tuple #[])∧lC ab w'∧Step (·=ab) w w'
def WkS (kf:Nat) (caps:List Value) (ab:Nat) (P:Nat→Prop) (Nd:Ex→Prop) (W0:World) (n:Nat):Prop:=∀(l:List St) (u:Value) (xs:List Value) (w:World),SizeOf.sizeOf l<n→f_ Nd l→eP w P l xs→dh w P u l.length xs→lC ab w→Step (·=ab) W0 w→
 Calls Tryz.prog 10 #[u,.func (.func kf) #[] caps.toArray] w fun e w'=>e=.returned (.tuple #[])∧lC ab w'∧Step (·=ab) w w'
theorem TA (kf:Nat) (caps:List Value) (ab:Nat) (P:Nat→Prop) (Nd:Ex→Prop) (W0:World) (n:Nat) (hen:Enters kf) (hP:∀q,P q→q≠ab) (WQ:Vis kf caps ab P Nd W0) (IQ:WkE kf caps ab P Nd W0 n) (Xp:WkS kf caps ab P Nd W0 n):WkE kf caps ab P Nd W0 (n+1):=by
 intro x cs w hn hall h hfl h0;have HX:=ai h;have HALLX:=ai hall;have habl:=aP hfl;have hfe:∀(fn:Fn) (x y:Array Value) (w:World),(binOp .eql 58 (.func fn x y) .nilFunc).run Tryz.prog w=.ok (.bool false) w:=fun _ _ _ _=>by kernel_rfl
 obtain⟨k,name,val,m,args,names,body,l,c⟩:=x;rw[wE]at hall;rw[dA]at h;obtain⟨va,vn,vb,xa,xb,rfl,-,-,ha,hra,hrn,hb,hrb⟩:=h;obtain⟨an,cn,rfl⟩:=hrn.parts;have JK:=ai hP;obtain⟨W,hW⟩:=bF (w.alloc (.cells #[ah k,aI name,aX val,bK m,va,.slice an names.length cn,vb,ah l,ah c] 56));have ST0:jg w W:=by rw[hW];exact bg.alloc _
 have HST0:=ai ST0;have d_:=nB hW
 have nM:=ai (ST0.keep hfl (fun h=>h));have Ya:=ai (h0.trans (ST0.mono fe));have HA:=ai (bY.step ST0 (fun _ _ h=>h) args xa ha);have HB:=ai (eP.step ST0 (fun _ _ h=>h) body xb hb);have jV:=ai (hrb.step ST0 (fun _ _ h=>h));obtain⟨aa,ca,rfl,hca,hcma,-,hrA⟩:=hra.step ST0 (fun _ _ h=>h);obtain⟨ab',cb,hvb,-⟩:=id hrb;subst hvb;have kY:=ai hrA;have Uc:=ai IQ;have IHS:=ai Xp;have aac:=ai WQ;have La:=ai hall;have HEX:=ai (dA.step ST0 (fun _ _ h=>h) _ _ HX.o);have hsz:Hid (∀x∈args,SizeOf.sizeOf x<n):=by intro x hx;have:=List.sizeOf_lt_of_mem hx;simp at hn;omega
 have hszb:Hid (SizeOf.sizeOf body<n):=by show _<_;simp at hn;omega
 unfold Enters at hen;have HW:=ai hW;clear ha hra hb hrA IQ Xp WQ hn hrb hall hfl h0 hW ST0 hP;go_enter Tryz.func30,Tryz.ntmps30;go_upto_region 1 with fail
 rw[←HW.o];have c4:W.cell? ⟨w.heap.size,4,none⟩=some (.slice aa args.length ca):=aj d_.o 4 _ rfl;go_wp2_with fail;clear c4;go_loopg [5,11] args.length (fun gg _ s11 wr=>∃i:Nat,s11=.int .i64 i∧i≤args.length∧args.length-i≤gg∧lC ab wr∧Step (·=ab) W wr);case atStart=>exact⟨0,rfl,Nat.zero_le _,by omega,nM.o,Step.refl _ _⟩
 case round=>
  obtain⟨i,rfl,hi,hgg,hg1,hc1⟩:=hrel;by_cases hlt:i<args.length
  ·obtain⟨x,hx⟩:∃x,args[i]?=some x:=⟨args[i],List.getElem?_eq_getElem hlt⟩;obtain⟨g,o,rfl,hgb,hgw,hcell⟩:=kY.o om;obtain⟨cs,hat,f⟩:=bY.cells (bY.step hc1 (fun q hq e=>JK.o q hq e) _ _ HA.o) hx (fun i x hx=>hc1.cell (hcell i x hx) (fun e=>JK.o g hgb e));have HXM:=ai (hsz.out x (List.mem_of_getElem? hx));have HXA:=ai (La.o.2.1.get (List.mem_of_getElem? hx));have HAT:=ai hat;obtain⟨k1,Nc,v2,m1,args1,aad,body1,l1,c1⟩:=x;rw[dA]at hat;obtain⟨va1,vn1,vb1,xa1,xb1,rfl,-,-,-,⟨a5,c5,rfl,-⟩,⟨a6,c6,rfl,-⟩,-,⟨a7,c7,rfl,-⟩⟩:=hat;have f0:=f 0 _ rfl;have f1:=f 1 _ rfl;have f2:=f 2 _ rfl;have f3:=f 3 _ rfl;have f4:=f 4 _ rfl;have f5:=f 5 _ rfl;have f6:=f 6 _ rfl;have f7:=f 7 _ rfl;have f8:=f 8 _ rfl;rw[Nat.add_zero]at f0;have ND:=ai hg1;have MR:=ai hc1;clear f hcell hx hg1 hc1;go_wp2_with fail;have st2:jg wr (wr.alloc (.cells #[ah k1,aI Nc,aX v2,bK m1,.slice a5 args1.length c5,.slice a6 aad.length c6,.slice a7 body1.length c7,ah l1,ah c1] 56)):=bg.alloc _;refine(Uc.o _ _ _ HXM.o HXA.o (dA.step st2 (fun _ _ h=>h) _ _ HAT.o) (st2.keep ND.o (fun h=>h)) ((Ya.o.trans MR.o).trans (st2.mono fe))).mono ?_;rintro e w3 ⟨rfl,hg3,hc3⟩;have KG:=ai hg3;have Fh:Hid (Step (·=ab) W w3):=MR.o.trans ((st2.mono fe).trans hc3);clear hg3 hc3;go_wp2;go_roundg (gk-1);case rel=>exact⟨i+1,by go_num,by omega,by omega,KG.o,Fh.o⟩
   case measure=>omega
  ·have ND:=ai hg1;have MR:=ai hc1;have hblk:=hc1.keep d_.o om;have c6:wr.cell? ⟨w.heap.size,6,none⟩=some (.slice ab' body.length cb):=aj hblk 6 _ rfl;clear hg1 hc1 hblk;go_wp2_with fail;refine(IHS.o body _ xb wr hszb.out La.o.2.2 (eP.step MR.o (fun q hq e=>JK.o q hq e) _ _ HB.o) (jV.o.step MR.o (fun q hq e=>JK.o q hq e)) ND.o (Ya.o.trans MR.o)).mono ?_;rintro e w3 ⟨rfl,hg3,hc3⟩;have KG:=ai hg3;have Fh:=ai (MR.o.trans hc3);clear hg3 hc3 c6;(have bJ:Hid (∀(jj:Nat) v,[Value.int .i64 k,aI name,aX val,bK m,.slice aa args.length ca,.slice an names.length cn,.slice ab' body.length cb,ah l,ah c][jj]?=some v→w3.cell? ⟨w.heap.size,0+jj,none⟩=some v):=by intro jj v hv;rw[Nat.zero_add];exact aj (Fh.o.keep d_.o om) jj v pO);go_wp2_with (refine aN rfl 56 (.tmp 2) rfl w.heap.size 0 rfl [Value.int .i64 k,aI name,aX val,bK m,.slice aa args.length ca,.slice an names.length cn,.slice ab' body.length cb,ah l,ah c] _ bJ.o Tryz.underlying56 rfl Tryz.aO ?_);refine(aac.o _ _ w3 La.o.1 (dA.step Fh.o (fun q hq e=>JK.o q hq e) _ _ HEX.o) KG.o (Ya.o.trans Fh.o)).mono ?_;rintro e w4 ⟨rfl,hg4,hc4⟩;have U6:=ai hg4;have HC4:=ai (Fh.o.trans hc4);clear hg4 hc4;go_wp2;go_end0;exact⟨rfl,U6.o,(HST0.o.mono fe).trans HC4.o⟩
theorem TB (kf:Nat) (caps:List Value) (ab:Nat) (P:Nat→Prop) (Nd:Ex→Prop) (W0:World) (n:Nat) (hP:∀q,P q→q≠ab) (IQ:WkE kf caps ab P Nd W0 n) (Xp:WkS kf caps ab P Nd W0 n):WkS kf caps ab P Nd W0 (n+1):=by
 intro l u xs w hn hall hxs hr hfl h0;have HXS:=ai hxs;obtain⟨a,c,rfl,hc,hcm,-,hrr⟩:=hr;have HRR:=ai hrr;have nM:=ai hfl;have Ya:=ai h0;have La:=ai hall;have JK:=ai hP;have habl:=aP hfl;have Uc:=ai IQ;have IHS:=ai Xp;have HN:=ai hn;clear hxs hrr IQ Xp hn hfl h0 hall hP;go_enter Tryz.func10,Tryz.ntmps10;go_wp2_with fail;go_loopg [5,7,9,12] l.length (fun gg _ _ _ s12 wr=>∃i:Nat,s12=.int .i64 i∧i≤l.length∧l.length-i≤gg∧lC ab wr∧Step (·=ab) w wr);case atStart=>exact⟨0,rfl,Nat.zero_le _,by omega,nM.o,Step.refl _ _⟩
 case round=>
  obtain⟨i,rfl,hi,hgg,hg1,hc1⟩:=hrel;by_cases hlt:i<l.length
  ·obtain⟨x,hx⟩:∃x,l[i]?=some x:=⟨l[i],List.getElem?_eq_getElem hlt⟩;obtain⟨g,o,rfl,hgb,hgw,hcell⟩:=HRR.o om;obtain⟨cs,hat,f⟩:=eP.cells (eP.step hc1 (fun q hq e=>JK.o q hq e) _ _ HXS.o) hx (fun i x hx=>hc1.cell (hcell i x hx) (fun e=>JK.o g hgb e));have hszx:=List.sizeOf_lt_of_mem (List.mem_of_getElem? hx);have hax:=La.o.get (List.mem_of_getElem? hx);obtain⟨k1,Nc,ty1,place,e,body,els,other,l1,c1⟩:=x;rw[yu]at hax;have HAX:=ai hax;have hnn:=HN.o;simp at hszx;(have HSP:Hid (SizeOf.sizeOf place<n):=by show _<_;omega);(have HSE:Hid (SizeOf.sizeOf e<n):=by show _<_;omega);(have JQ:Hid (SizeOf.sizeOf body<n):=by show _<_;omega);(have HSL:Hid (SizeOf.sizeOf els<n):=by show _<_;omega);rw[jS]at hat;obtain⟨ct,vp,ve,vb,vl,xp,xe,xb,xl,rfl,hs1,hty,hp,oI,he,hre,hb,hrb,hl,hrl⟩:=hat;obtain⟨k2,name2,Yb,m2,TD,Yc,l2,c2⟩:=ty1;rw[gG]at hty;obtain⟨Xa,JF,JG,rfl,-,-,-,⟨a4,c4,rfl,-⟩,-,⟨a5,c5,rfl,-⟩⟩:=hty;have f0:=f 0 _ rfl;have f1:=f 1 _ rfl;have f2:=f 2 _ rfl;have f3:=f 3 _ rfl;have f4:=f 4 _ rfl;have f5:=f 5 _ rfl;have f6:=f 6 _ rfl;have f7:=f 7 _ rfl;have f8:=f 8 _ rfl;have f9:=f 9 _ rfl;have f10:=f 10 _ rfl;have f11:=f 11 _ rfl;have f12:=f 12 _ rfl;have f13:=f 13 _ rfl;have f14:=f 14 _ rfl;have f15:=f 15 _ rfl;have f16:=f 16 _ rfl;rw[Nat.add_zero]at f0;have HP:=ai hp;have HE:=ai he;have HB:=ai hb;have jV:=ai hrb;have HL:=ai hl;have tY:=ai hrl;obtain⟨ap,cp,rfl,hcp,hcmp,-,hrP⟩:=oI;obtain⟨ae,ce,rfl,hce,hcme,-,hrE⟩:=hre;obtain⟨ab',cb,rfl,-⟩:=id hrb;obtain⟨al,cl,rfl,-⟩:=id hrl;have KO:=ai hrP;have kU:=ai hrE;have ND:=ai hg1;have MR:=ai hc1;have hwr:=hc1.size;clear f hcell hx hg1 hc1 hp he hb hl hrP hrE hszx hnn hrb hrl hax;obtain⟨w1,hw1⟩:=bF (wr.alloc (.cells #[ah k1,aI Nc,ah k2,aI name2,aI Yb,bK m2,.slice a4 TD.length c4,.slice a5 Yc.length c5,ah l2,ah c2,.slice ap place.length cp,.slice ae e.length ce,.slice ab' body.length cb,.slice al els.length cl,bK other,ah l1,ah c1] 89));(have ST1:jg wr w1:=by rw[hw1];exact bg.alloc _);have HW1:=ai hw1;(have aae:Hid (w1.heap[wr.heap.size]?=some (.cells #[ah k1,aI Nc,ah k2,aI name2,aI Yb,bK m2,.slice a4 TD.length c4,.slice a5 Yc.length c5,ah l2,ah c2,.slice ap place.length cp,.slice ae e.length ce,.slice ab' body.length cb,.slice al els.length cl,bK other,ah l1,ah c1] 89 (0,0))):=by rw[hw1];exact aC _ _);clear hw1;have HG2:=ai (ST1.keep ND.o (fun h=>h));have TF:Hid (Step (·=ab) w w1):=MR.o.trans (ST1.mono fe);have HP2:=ai (bY.step ST1 (fun _ _ h=>h) _ _ HP.o);have HE2:=ai (bY.step ST1 (fun _ _ h=>h) _ _ HE.o);have HB2:=ai (eP.step ST1 (fun _ _ h=>h) _ _ HB.o);have HL2:=ai (eP.step ST1 (fun _ _ h=>h) _ _ HL.o);have HRB2:=ai (jV.o.step ST1 (fun _ _ h=>h));have HRL2:=ai (tY.o.step ST1 (fun _ _ h=>h));obtain⟨go,hgo⟩:=bF (gk:Nat);obtain⟨wo,hwo⟩:=bF wr;go_wp2_with fail;rw[←HW1.o];subst hwo;go_loopg [7,19] place.length (fun gg _ s wr=>∃j:Nat,s=.int .i64 j∧j≤place.length∧place.length-j≤gg∧lC ab wr∧Step (·=ab) w1 wr);case atStart=>exact⟨0,rfl,Nat.zero_le _,by omega,HG2.o,Step.refl _ _⟩
   case round=>
    obtain⟨j,rfl,hj,hggj,hg2,hc2⟩:=hrel;by_cases aaf:j<place.length
    ·obtain⟨y,hy⟩:∃y,place[j]?=some y:=⟨place[j],List.getElem?_eq_getElem aaf⟩;obtain⟨g2,o2,rfl,aag,hgw2,hcell2⟩:=KO.o om;obtain⟨cs,hat,f⟩:=bY.cells (bY.step hc2 (fun q hq e=>JK.o q hq e) _ _ HP2.o) hy (fun i x hx=>hc2.cell (ST1.cell (hcell2 i x hx) (fun h=>h)) (fun e=>JK.o g2 aag e));(have HYM:Hid (SizeOf.sizeOf y<n):=by have h1:=List.sizeOf_lt_of_mem (List.mem_of_getElem? hy);have h2:=HSP.o;show _<_;omega);have HYA:=ai (HAX.o.1.get (List.mem_of_getElem? hy));have HAT:=ai hat;obtain⟨k3,name3,v3,m3,TG,Lh,body3,l3,c3⟩:=y;rw[dA]at hat;obtain⟨va3,vn3,vb3,xa3,xb3,rfl,-,-,-,⟨a5',c5',rfl,-⟩,⟨a6',c6',rfl,-⟩,-,⟨a7',c7',rfl,-⟩⟩:=hat;have f0:=f 0 _ rfl;have f1:=f 1 _ rfl;have f2:=f 2 _ rfl;have f3:=f 3 _ rfl;have f4:=f 4 _ rfl;have f5:=f 5 _ rfl;have f6:=f 6 _ rfl;have f7:=f 7 _ rfl;have f8:=f 8 _ rfl;rw[Nat.add_zero]at f0;have HGJ:=ai hg2;have HCJ:=ai hc2;clear f hcell2 hy hg2 hc2;go_wp2_with fail;have st2:jg wr (wr.alloc (.cells #[ah k3,aI name3,aX v3,bK m3,.slice a5' TG.length c5',.slice a6' Lh.length c6',.slice a7' body3.length c7',ah l3,ah c3] 56)):=bg.alloc _;refine(Uc.o _ _ _ HYM.o HYA.o (dA.step st2 (fun _ _ h=>h) _ _ HAT.o) (st2.keep HGJ.o (fun h=>h)) (((Ya.o.trans TF.o).trans HCJ.o).trans (st2.mono fe))).mono ?_;rintro e w3 ⟨rfl,hg3,hc3⟩;have KG:=ai hg3;have Fh:Hid (Step (·=ab) w1 w3):=HCJ.o.trans ((st2.mono fe).trans hc3);clear hg3 hc3;go_wp2;go_roundg (gk-1);case rel=>exact⟨j+1,by go_num,by omega,by omega,KG.o,Fh.o⟩
     case measure=>omega
    ·have HGP':=ai hg2;have HCP':=ai hc2;have Yd:=hc2.keep aae.o om;clear hg2 hc2;have c11:wr.cell? ⟨wo.heap.size,11,none⟩=some (.slice ae e.length ce):=aj Yd 11 _ rfl;clear Yd;go_wp2_with fail;clear c11;go_loopg [9,30] e.length (fun gg _ s wr=>∃j:Nat,s=.int .i64 j∧j≤e.length∧e.length-j≤gg∧lC ab wr∧Step (·=ab) w1 wr);case atStart=>exact⟨0,rfl,Nat.zero_le _,by omega,HGP'.out,HCP'.out⟩
     case round=>
      obtain⟨j,rfl,hj,hggj,hg2,hc2⟩:=hrel;by_cases aaf:j<e.length
      ·obtain⟨y,hy⟩:∃y,e[j]?=some y:=⟨e[j],List.getElem?_eq_getElem aaf⟩;obtain⟨g2,o2,rfl,aag,hgw2,hcell2⟩:=kU.o om;obtain⟨cs,hat,f⟩:=bY.cells (bY.step hc2 (fun q hq e=>JK.o q hq e) _ _ HE2.o) hy (fun i x hx=>hc2.cell (ST1.cell (hcell2 i x hx) (fun h=>h)) (fun e=>JK.o g2 aag e));(have HYM:Hid (SizeOf.sizeOf y<n):=by have h1:=List.sizeOf_lt_of_mem (List.mem_of_getElem? hy);have h2:=HSE.o;show _<_;omega);have HYA:=ai (HAX.o.2.1.get (List.mem_of_getElem? hy));have HAT:=ai hat;obtain⟨k3,name3,v3,m3,TG,Lh,body3,l3,c3⟩:=y;rw[dA]at hat;obtain⟨va3,vn3,vb3,xa3,xb3,rfl,-,-,-,⟨a5',c5',rfl,-⟩,⟨a6',c6',rfl,-⟩,-,⟨a7',c7',rfl,-⟩⟩:=hat;have f0:=f 0 _ rfl;have f1:=f 1 _ rfl;have f2:=f 2 _ rfl;have f3:=f 3 _ rfl;have f4:=f 4 _ rfl;have f5:=f 5 _ rfl;have f6:=f 6 _ rfl;have f7:=f 7 _ rfl;have f8:=f 8 _ rfl;rw[Nat.add_zero]at f0;have HGJ:=ai hg2;have HCJ:=ai hc2;clear f hcell2 hy hg2 hc2;go_wp2_with fail;have st2:jg wr (wr.alloc (.cells #[ah k3,aI name3,aX v3,bK m3,.slice a5' TG.length c5',.slice a6' Lh.length c6',.slice a7' body3.length c7',ah l3,ah c3] 56)):=bg.alloc _;refine(Uc.o _ _ _ HYM.o HYA.o (dA.step st2 (fun _ _ h=>h) _ _ HAT.o) (st2.keep HGJ.o (fun h=>h)) (((Ya.o.trans TF.o).trans HCJ.o).trans (st2.mono fe))).mono ?_;rintro e w3 ⟨rfl,hg3,hc3⟩;have KG:=ai hg3;have Fh:Hid (Step (·=ab) w1 w3):=HCJ.o.trans ((st2.mono fe).trans hc3);clear hg3 hc3;go_wp2;go_roundg (gk-1);case rel=>exact⟨j+1,by go_num,by omega,by omega,KG.o,Fh.o⟩
       case measure=>omega
      ·have HGE':=ai hg2;have WR:=ai hc2;have Ye:=hc2.keep aae.o om;clear hg2 hc2;have c12:wr.cell? ⟨wo.heap.size,12,none⟩=some (.slice ab' body.length cb):=aj Ye 12 _ rfl;clear Ye;go_wp2_with fail;refine(IHS.o body _ xb wr JQ.o HAX.o.2.2.1 (eP.step WR.out (fun q hq e=>JK.o q hq e) _ _ HB2.o) (HRB2.o.step WR.out (fun q hq e=>JK.o q hq e)) HGE'.out ((Ya.o.trans TF.o).trans WR.out)).mono ?_;rintro e w3 ⟨rfl,hg3,hc3⟩;have KG:=ai hg3;have Fh:=ai (WR.out.trans hc3);have hblk3:=Fh.o.keep aae.o om;have c13:w3.cell? ⟨wo.heap.size,13,none⟩=some (.slice al els.length cl):=aj hblk3 13 _ rfl;clear hg3 hc3 hblk3 c12;go_wp2_with fail;refine(IHS.o els _ xl w3 HSL.o HAX.o.2.2.2 (eP.step Fh.o (fun q hq e=>JK.o q hq e) _ _ HL2.o) (HRL2.o.step Fh.o (fun q hq e=>JK.o q hq e)) KG.o ((Ya.o.trans TF.o).trans Fh.o)).mono ?_;rintro e w4 ⟨rfl,hg4,hc4⟩;have U6:=ai hg4;have HC4:=ai (Fh.o.trans hc4);clear hg4 hc4 c13;go_wp2;go_roundg (go-1);case rel=>exact⟨i+1,by go_num,by omega,by omega,U6.o,TF.o.trans HC4.o⟩
       case measure=>omega
  ·go_wp2;go_end0;exact⟨rfl,hg1,hc1⟩
theorem WS (kf:Nat) (caps:List Value) (ab:Nat) (P:Nat→Prop) (Nd:Ex→Prop) (W0:World) (hen:Enters kf) (hP:∀q,P q→q≠ab) (WQ:Vis kf caps ab P Nd W0):∀n,WkE kf caps ab P Nd W0 n∧WkS kf caps ab P Nd W0 n:=by
 intro n;induction n with
 |zero=>exact⟨fun _ _ _ h=>absurd h (Nat.not_lt_zero _),fun _ _ _ _ h=>absurd h (Nat.not_lt_zero _)⟩
 |succ n ih=>exact⟨TA kf caps ab P Nd W0 n hen hP WQ ih.1 ih.2,TB kf caps ab P Nd W0 n hP ih.1 ih.2⟩
end Go.Proofs.YtggjfinekcenpaaGreat
