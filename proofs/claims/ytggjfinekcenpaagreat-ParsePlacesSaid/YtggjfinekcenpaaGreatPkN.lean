import Derived.Test.YtggjfinekcenpaaGreatPkM
set_option maxRecDepth 100000
set_option maxHeartbeats 80000000
namespace Go.Proofs.YtggjfinekcenpaaGreat
open Go.RowKit
open Vt
theorem Vz {nm:ByteArray} {v:Int} {mu:Bool} {ar:List Ex} {ns:List ByteArray} {bo:List St} {l c:Int} (ih:∀y∈ar,qA y) (hal:ar.length≤1000000):qA (.mk 14 nm v mu ar ns bo l c):=by
 intro cs w D hx hb;by_cases h2:1<ar.length
 ·skip
  obtain⟨y1,hy1⟩:∃y1,ar[1]?=some y1:=⟨ar[1],List.getElem?_eq_getElem h2⟩
  have h0:dM (.mk 14 nm v mu ar ns bo l c)=lZ (dF ar)++[nm]++dM y1:=by
   rw[dM]
   show _++[nm]++(if 1<(dF ar).length then _ else _)=_
   rw[if_pos (by rw[iY,List.length_map];exact h2),wO (x:=dM y1) (by rw[iY,List.getElem?_map,hy1];rfl)]
  rw[h0]at hb⊢
  have hlen:(1:Int)<ar.length:=by omega
  clear h0
  have vk:=ai hx
  rw[dA]at hx
  obtain⟨va,vn,vb,xa,xb,rfl,-,-,ha,hra,hrn,hb2,hrb⟩:=hx
  obtain⟨aa,ca,rfl⟩:=hra.parts
  obtain⟨an,cn,rfl⟩:=hrn.parts
  obtain⟨ab,cb,rfl⟩:=hrb.parts
  have HA:=ai ha
  have kY:=ai hra
  have pV:=ai hrn
  have HB2:=ai hb2
  have jV:=ai hrb
  have HB:=ai hb
  clear ha hra hrn hb2 hrb hb
  obtain⟨W,hW⟩:=bF (w.alloc (.cells #[Value.int .i64 14,aI nm,aX v,bK mu,.slice aa ar.length ca,.slice an ns.length cn,.slice ab bo.length cb,ah l,ah c] 56))
  have ST0:Hid (Step Sf w W):=by rw[hW];exact bg.alloc _
  have d_:Hid (∀X,Step Sf W X→X.heap[w.heap.size]?=some (.cells #[Value.int .i64 14,aI nm,aX v,bK mu,.slice aa ar.length ca,.slice an ns.length cn,.slice ab bo.length cb,ah l,ah c] 56 (0,0))):=by
   show∀X,_
   intro X hX
   rw[hW]at hX
   exact hX.keep (aC _ _) (fun h=>h)
  have HW:=ai hW
  have hsz:w.heap.size≤W.heap.size:=ST0.o.size
  clear hW
  have bJ:Hid (∀X,Step Sf W X→∀(j:Nat) u,[Value.int .i64 14,aI nm,aX v,bK mu,.slice aa ar.length ca,.slice an ns.length cn,.slice ab bo.length cb,ah l,ah c][j]?=some u→X.cell? ⟨w.heap.size,0+j,none⟩=some u):=by
   show∀X,_
   intro X hX j u hu
   rw[Nat.zero_add];exact aj (d_.o X hX) j u (by simpa using hu)
  have b0:=bJ.o W bg 0 _ rfl
  rw[Nat.add_zero]at b0
  go_enter Tryz.func12,Tryz.ntmps12
  go_upto_region 1 with fail
  rw[←HW.o]
  obtain⟨_,_,he,-,-,-,hr⟩:=kY.o
  cases he
  obtain⟨g,o,rfl,h6,h7,h9⟩:=hr om
  obtain⟨cy,hat,hf⟩:=bY.cells (i:=1) HA.o hy1 h9
  have HF:Hid (∀X,Step Sf W X→∀(j:Nat) v,cy[j]?=some v→X.cell? ⟨g,o+9+j,none⟩=some v):=by
   show∀X,_
   intro X hX j v h
   have h2:=hf j v h
   rw[Nat.one_mul]at h2
   exact hX.cell (ST0.o.cell h2 (fun h=>h)) (fun h=>h)
  have hcl:(Tryz.prog.info? 56).map (·.size)=some cy.length:=by rw[hat.len];exact Tryz.aO
  have HAT:=ai (dA.step ST0.o (fun _ _ h=>h) _ _ hat)
  have hcx:=ih y1 (List.mem_of_getElem? hy1)
  have hbx:(dM y1).length≤100000000:=by have h:=HB.o;simp only[List.length_append,List.length_cons,List.length_nil]at h;omega
  clear h6 h7 h9 hr hf hat h2 hy1
  go_upto_region 38 with fail
  refine au W [.p (.agg [Value.int .i64 14,aI nm,aX v,bK mu,.slice (some ⟨g,o,none⟩) ar.length ca,.slice an ns.length cn,.slice ab bo.length cb,ah l,ah c].toArray),.r [] (aH (lZ (dF ar))),.p (.pointer (some ⟨w.heap.size,1,none⟩)),.p (.string nm),.r [] (aH [nm]),.r [1,4] (aH ((lZ (dF ar))++[nm])),.r [5] (aH ((lZ (dF ar))++[nm]))] kr bg (iR (Nat.le_refl _)) ?_ kr ?_
  ·
   refine OB.ld w.heap.size 0 [Value.int .i64 14,aI nm,aX v,bK mu,.slice (some ⟨g,o,none⟩) ar.length ca,.slice an ns.length cn,.slice ab bo.length cb,ah l,ah c] _ bJ.o Tryz.underlying56 Tryz.aO ?_
   refine OB.c #[.agg [Value.int .i64 14,aI nm,aX v,bK mu,.slice (some ⟨g,o,none⟩) ar.length ca,.slice an ns.length cn,.slice ab bo.length cb,ah l,ah c].toArray] Tryz.func33 (fun X hX=>first_any ih _ X D (dA.step (ST0.o.trans hX) (fun _ _ h=>h) _ _ vk.o) hal (by have h:=HB.o;simp only[List.length_append,List.length_cons,List.length_nil]at h⊢;omega)) ?_
   refine OB.p ?_
   refine OB.p ?_ (fun X hX=>by have c:=bJ.o X hX 1 _ rfl;rw[Nat.zero_add]at c;go_simp)
   refine OB.bs [nm] 1 ?_
   refine OB.app 144 147 (by have h:=HB.o;simp only[List.length_append,List.length_cons,List.length_nil]at h⊢;omega) ?_
   refine OB.mv 148 ?_
   exact OB.nil
  intro V0 X0 f0 hX0 hf0
  have qy:(aH _).r _ X0 _:=hf0 6 kr
  simp only[dm,Act.put,List.setIfInBounds_toArray,List.set_cons_zero,List.set_cons_succ,Nat.zero_add]
  have c4:=bJ.o X0 hX0 4 _ rfl
  rw[Nat.zero_add]at c4
  clear b0
  go_upto_region 40 with fail
  refine au W [.r [8] (aH (lZ (dF ar)++[nm])),.p (.pointer (some ⟨w.heap.size,4,none⟩)),.p (.slice (some ⟨g,o,none⟩) ar.length ca),.p (.pointer (some ⟨g,o+9,none⟩)),.p (.agg cy.toArray),.r [] (aH (dM y1)),.r [0,5] (aH ((lZ (dF ar)++[nm])++(dM y1))),.r [6] (aH ((lZ (dF ar)++[nm])++(dM y1))),.r [] (Kp (aH (lZ (dF ar)++[nm])) (V0 6))] kr hX0 (jf rfl rfl qy (fun _ h=>h.1)) ?_ kr ?_
  ·
   refine OB.mi 5 ?_
   refine OB.p ?_
   refine OB.p ?_ (fun X hX=>by have c:=bJ.o X hX 4 _ rfl;rw[Nat.zero_add]at c;go_simp)
   refine OB.p ?_
   refine OB.ld g (o+9) cy _ HF.o Tryz.underlying56 hcl ?_
   refine OB.c #[.agg cy.toArray] Tryz.func12 (fun X hX=>hcx cy X D (dA.step hX (fun _ _ h=>h) _ _ HAT.o) hbx) ?_
   refine OB.app 153 158 (by have h:=HB.o;simp only[List.length_append,List.length_cons,List.length_nil]at h⊢;omega) ?_
   refine OB.mv 159 ?_
   exact OB.nil
  intro V X f hX hf
  have h4:(aH _).r _ X _:=hf 7 kr
  simp only[dm,Act.put,List.setIfInBounds_toArray,List.set_cons_zero,List.set_cons_succ,Nat.zero_add]
  go_wp2_with fail
  go_ret
  exact⟨_,rfl,ST0.o.trans hX,(aH _).ok.mono (fun q _ h=>Nat.le_trans hsz h.1) h4⟩
 ·skip
  have h0:dM (.mk 14 nm v mu ar ns bo l c)=lZ (dF ar)++[nm]:=by
   rw[dM]
   show _++[nm]++(if 1<(dF ar).length then _ else _)=_
   rw[if_neg (by rw[iY,List.length_map];exact h2),List.append_nil]
  rw[h0]at hb⊢
  clear h0
  have vk:=ai hx
  rw[dA]at hx
  obtain⟨va,vn,vb,xa,xb,rfl,-,-,ha,hra,hrn,hb2,hrb⟩:=hx
  obtain⟨aa,ca,rfl⟩:=hra.parts
  obtain⟨an,cn,rfl⟩:=hrn.parts
  obtain⟨ab,cb,rfl⟩:=hrb.parts
  have HA:=ai ha
  have kY:=ai hra
  have pV:=ai hrn
  have HB2:=ai hb2
  have jV:=ai hrb
  have HB:=ai hb
  clear ha hra hrn hb2 hrb hb
  obtain⟨W,hW⟩:=bF (w.alloc (.cells #[Value.int .i64 14,aI nm,aX v,bK mu,.slice aa ar.length ca,.slice an ns.length cn,.slice ab bo.length cb,ah l,ah c] 56))
  have ST0:Hid (Step Sf w W):=by rw[hW];exact bg.alloc _
  have d_:Hid (∀X,Step Sf W X→X.heap[w.heap.size]?=some (.cells #[Value.int .i64 14,aI nm,aX v,bK mu,.slice aa ar.length ca,.slice an ns.length cn,.slice ab bo.length cb,ah l,ah c] 56 (0,0))):=by
   show∀X,_
   intro X hX
   rw[hW]at hX
   exact hX.keep (aC _ _) (fun h=>h)
  have HW:=ai hW
  have hsz:w.heap.size≤W.heap.size:=ST0.o.size
  clear hW
  have bJ:Hid (∀X,Step Sf W X→∀(j:Nat) u,[Value.int .i64 14,aI nm,aX v,bK mu,.slice aa ar.length ca,.slice an ns.length cn,.slice ab bo.length cb,ah l,ah c][j]?=some u→X.cell? ⟨w.heap.size,0+j,none⟩=some u):=by
   show∀X,_
   intro X hX j u hu
   rw[Nat.zero_add];exact aj (d_.o X hX) j u (by simpa using hu)
  have b0:=bJ.o W bg 0 _ rfl
  rw[Nat.add_zero]at b0
  go_enter Tryz.func12,Tryz.ntmps12
  go_upto_region 1 with fail
  rw[←HW.o]
  go_upto_region 38 with fail
  refine au W [.p (.agg [Value.int .i64 14,aI nm,aX v,bK mu,.slice aa ar.length ca,.slice an ns.length cn,.slice ab bo.length cb,ah l,ah c].toArray),.r [] (aH (lZ (dF ar))),.p (.pointer (some ⟨w.heap.size,1,none⟩)),.p (.string nm),.r [] (aH [nm]),.r [1,4] (aH ((lZ (dF ar))++[nm])),.r [5] (aH ((lZ (dF ar))++[nm]))] kr bg (iR (Nat.le_refl _)) ?_ kr ?_
  ·
   refine OB.ld w.heap.size 0 [Value.int .i64 14,aI nm,aX v,bK mu,.slice aa ar.length ca,.slice an ns.length cn,.slice ab bo.length cb,ah l,ah c] _ bJ.o Tryz.underlying56 Tryz.aO ?_
   refine OB.c #[.agg [Value.int .i64 14,aI nm,aX v,bK mu,.slice aa ar.length ca,.slice an ns.length cn,.slice ab bo.length cb,ah l,ah c].toArray] Tryz.func33 (fun X hX=>first_any ih _ X D (dA.step (ST0.o.trans hX) (fun _ _ h=>h) _ _ vk.o) hal (by have h:=HB.o;simp only[List.length_append,List.length_cons,List.length_nil]at h⊢;omega)) ?_
   refine OB.p ?_
   refine OB.p ?_ (fun X hX=>by have c:=bJ.o X hX 1 _ rfl;rw[Nat.zero_add]at c;go_simp)
   refine OB.bs [nm] 1 ?_
   refine OB.app 144 147 (by have h:=HB.o;simp only[List.length_append,List.length_cons,List.length_nil]at h⊢;omega) ?_
   refine OB.mv 148 ?_
   exact OB.nil
  intro V X f hX hf
  have h4:(aH _).r _ X _:=hf 6 kr
  simp only[dm,Act.put,List.setIfInBounds_toArray,List.set_cons_zero,List.set_cons_succ,Nat.zero_add]
  have c4:=bJ.o X hX 4 _ rfl
  rw[Nat.zero_add]at c4
  clear b0
  have hlen:¬(1:Int)<ar.length:=by omega
  go_wp2_with fail
  go_ret
  exact⟨_,rfl,ST0.o.trans hX,(aH _).ok.mono (fun q _ h=>Nat.le_trans hsz h.1) h4⟩
theorem VA {nm:ByteArray} {v:Int} {mu:Bool} {ar:List Ex} {ns:List ByteArray} {bo:List St} {l c:Int} (ih:∀y∈ar,qA y) (hal:ar.length≤1000000):qA (.mk 11 nm v mu ar ns bo l c):=by
 intro cs w D hx hb;have h0:dM (.mk 11 nm v mu ar ns bo l c)=[⟨#[110,101,119]⟩,nm]++([⟨#[123]⟩]++aF ((ns.zip (ar.map dM)).map fun p=>[p.1,⟨#[58]⟩]++p.2)++[⟨#[125]⟩]):=by rw[dM,iY];rfl
 rw[h0]at hb⊢;clear h0;obtain⟨ls,hls⟩:=bF ((ns.zip (ar.map dM)).map fun p=>[p.1,⟨#[58]⟩]++p.2);rw[←hls]at hb⊢;have YD:=ai hls;clear hls;have vk:=ai hx;rw[dA]at hx;obtain⟨va,vn,vb,xa,xb,rfl,-,-,ha,hra,hrn,hb2,hrb⟩:=hx;obtain⟨aa,ca,rfl⟩:=hra.parts;obtain⟨an,cn,rfl⟩:=hrn.parts;obtain⟨ab,cb,rfl⟩:=hrb.parts;have HA:=ai ha;have kY:=ai hra;have pV:=ai hrn;have HB2:=ai hb2;have jV:=ai hrb;have HB:=ai hb;clear ha hra hrn hb2 hrb hb;obtain⟨W,hW⟩:=bF (w.alloc (.cells #[Value.int .i64 11,aI nm,aX v,bK mu,.slice aa ar.length ca,.slice an ns.length cn,.slice ab bo.length cb,ah l,ah c] 56));have ST0:Hid (Step Sf w W):=by rw[hW];exact bg.alloc _
 have d_:Hid (∀X,Step Sf W X→X.heap[w.heap.size]?=some (.cells #[Value.int .i64 11,aI nm,aX v,bK mu,.slice aa ar.length ca,.slice an ns.length cn,.slice ab bo.length cb,ah l,ah c] 56 (0,0))):=by intro X hX;rw[hW]at hX;exact hX.keep (aC _ _) (fun h=>h)
 have HW:=ai hW;have hsz:w.heap.size≤W.heap.size:=ST0.o.size;clear hW;have bJ:Hid (∀X,Step Sf W X→∀(j:Nat) u,[Value.int .i64 11,aI nm,aX v,bK mu,.slice aa ar.length ca,.slice an ns.length cn,.slice ab bo.length cb,ah l,ah c][j]?=some u→X.cell? ⟨w.heap.size,0+j,none⟩=some u):=by intro X hX j u hu;rw[Nat.zero_add];exact aj (d_.o X hX) j u (by simpa using hu)
 have b0:=bJ.o W bg 0 _ rfl;rw[Nat.add_zero]at b0;go_enter Tryz.func12,Tryz.ntmps12;go_upto_region 1 with fail
 rw[←HW.o];obtain⟨na,hna⟩:∃n,n=ar.length:=⟨_,rfl⟩;obtain⟨nn,hnn⟩:∃n,n=ns.length:=⟨_,rfl⟩;have Vg:=ai hna;have MI:=ai hnn;obtain⟨m,hm⟩:=bF (min nn na);have HLL:Hid (ls.length=m):=by show _=_;rw[YD.o,hm,hnn,hna];simp
 have hm1:m≤nn:=by omega
 have hm2:m≤na:=by omega
 have hmx:¬m<nn→m=nn:=by omega
 have HM:Hid (m=min nn na):=hm;have hma:m≤1000000:=by omega
 clear hm hna hnn hmx;have HL4:Hid (∀X,Step Sf W X→X.cell? ⟨w.heap.size,4,none⟩=some (.slice aa na ca)):=by intro X hX;have h:=bJ.o X hX 4 _ rfl;rw[Nat.zero_add,←Vg.o]at h;exact h
 have HL5:Hid (∀X,Step Sf W X→X.cell? ⟨w.heap.size,5,none⟩=some (.slice an nn cn)):=by intro X hX;have h:=bJ.o X hX 5 _ rfl;rw[Nat.zero_add,←MI.o]at h;exact h
 go_wp2_with fail;clear b0;go_loopg [3,4] m (fun gg s3 s4 wr=>∃(i:Nat) (C:Nat→Prop),s4=.int .i64 i∧i≤m∧m-i≤gg∧(jw (ls.take i)).r s3 wr C∧(∀q,C q→W.heap.size≤q)∧Step Sf W wr);case atStart=>exact⟨0,Sf,rfl,Nat.zero_le _,by omega,oz.nil _ _,(fun _ h=>h.elim),Step.refl _ _⟩
 case round=>
  obtain⟨i,C,rfl,hi,hg,hu,hC,hst⟩:=hrel;have HU:=ai hu;have HC:=ai hC;have HST:=ai hst;have c4:=HL4.o wr hst;have c5:=HL5.o wr hst;clear hu hC hst;by_cases hlt:i<m
  ·skip
   have hi1:(i:Int)<nn:=by omega
   have hi2:(i:Int)<na:=by omega
   obtain⟨y,hy⟩:∃y,ar[i]?=some y:=⟨ar[i]'(by rw[←Vg.o];omega),List.getElem?_eq_getElem _⟩
   obtain⟨s,hs⟩:∃s,ns[i]?=some s:=⟨ns[i]'(by rw[←MI.o];omega),List.getElem?_eq_getElem _⟩
   have hx:ls[i]?=some ([s,⟨#[58]⟩]++dM y):=by rw[YD.o,List.getElem?_map,List.getElem?_zip_eq_some (z:=(s,dM y))|>.2 ⟨hs,by rw[List.getElem?_map,hy];rfl⟩];rfl
   have HX:Hid (ls.take (i+1)=ls.take i++[[s,⟨#[58]⟩]++dM y]):=show _=_ from take_snoc hx
   obtain⟨_,_,he,-,-,-,hr⟩:=kY.o
   cases he
   obtain⟨g,o,rfl,h6,h7,h9⟩:=hr (by rw[←Vg.o];omega)
   obtain⟨cy,hat,hf⟩:=bY.cells HA.o hy h9
   have HF:Hid (∀X,Step Sf W X→∀(j:Nat) v,cy[j]?=some v→X.cell? ⟨g,o+i*9+j,none⟩=some v):=show∀X,_ from fun X hX j v h=>hX.cell (ST0.o.cell (hf j v h) (fun h=>h)) (fun h=>h)
   have hcl:(Tryz.prog.info? 56).map (·.size)=some cy.length:=by rw[hat.len];exact Tryz.aO
   have HAT:=ai (dA.step ST0.o (fun _ _ h=>h) _ _ hat)
   have hcx:=ih y (List.mem_of_getElem? hy)
   have hbx:(dM y).length≤100000000:=by
    have h1:=fU (List.mem_of_getElem? hx)
    have h:=HB.o
    simp only[List.length_append,List.length_cons,List.length_nil]at h h1
    omega
   have hrn2:dh w D (.slice an ns.length cn) ns.length (ns.map .string):=pV.o
   obtain⟨_,_,he2,-,-,-,hr2⟩:=hrn2
   cases he2
   obtain⟨g2,o2,rfl,k6,k7,k9⟩:=hr2 (by rw[←MI.o];omega)
   have h10:=k9 i (.string s) (by rw[List.getElem?_map,hs];rfl)
   have Ih:Hid (∀X,Step Sf W X→X.cell? ⟨g2,o2+i,none⟩=some (.string s)):=show∀X,_ from fun X hX=>hX.cell (ST0.o.cell h10 (fun h=>h)) (fun h=>h)
   clear h6 h7 h9 hr hf hat hr2 k6 k7 k9 h10 hx hy hs
   go_upto_region 31 with fail
   refine au W [.r [17] (jw (ls.take i)),.p (.pointer (some ⟨w.heap.size,5,none⟩)),.p (.slice (some ⟨g2,o2,none⟩) nn cn),.p (.int .i64 i),.p (.pointer (some ⟨g2,o2+i,none⟩)),.p (.string s),.r [] (aH [s,⟨#[58]⟩]),.p (.pointer (some ⟨w.heap.size,4,none⟩)),.p (.slice (some ⟨g,o,none⟩) na ca),.p (.int .i64 i),.p (.pointer (some ⟨g,o+i*9,none⟩)),.p (.agg cy.toArray),.r [] (aH (dM y)),.r [6,12] (aH ([s,⟨#[58]⟩]++(dM y))),.r [13] (jw [([s,⟨#[58]⟩]++(dM y))]),.r [0,14] (jw (ls.take (i+1))),.r [15] (jw (ls.take (i+1))),.r [] (Kp (jw (ls.take i)) (u3))] kr HST.o (jf rfl rfl HU.o HC.o) ?_ kr ?_
   ·
    refine OB.mi 3 ?_
    refine OB.p ?_
    refine OB.p ?_ (fun X hX=>by have c:=HL5.o X hX;go_simp)
    refine OB.p ?_
    refine OB.p ?_
    refine OB.p ?_ (fun X hX=>by have c:=Ih.o X hX;go_simp)
    refine OB.bs [s,⟨#[58]⟩] 2 ?_
    refine OB.p ?_
    refine OB.p ?_ (fun X hX=>by have c:=HL4.o X hX;go_simp)
    refine OB.p ?_
    refine OB.p ?_
    refine OB.ld g (o+i*9) cy _ HF.o Tryz.underlying56 hcl ?_
    refine OB.c #[.agg cy.toArray] Tryz.func12 (fun X hX=>hcx cy X D (dA.step hX (fun _ _ h=>h) _ _ HAT.o) hbx) ?_
    refine OB.app 102 108 (by simp only[List.length_cons,List.length_nil];omega) ?_
    refine OB.ls 109 ?_
    refine OB.to (congrArg jw HX.o) ?_
    refine OB.la 96 110 (by simp only[List.length_take,List.length_singleton];omega) ?_
    refine OB.mv 111 ?_
    exact OB.nil
   intro V X f hX hf
   have h4:(jw _).r _ X _:=hf 16 kr
   simp only[dm,Act.put,List.setIfInBounds_toArray,List.set_cons_zero,List.set_cons_succ,Nat.zero_add]
   go_wp2_with fail
   go_roundg (gk-1)
   case rel=>exact⟨i+1,_,by go_num,by omega,by omega,h4,(fun q h=>h.1),hX⟩
   case measure=>omega
  ·skip
   have hmi:i=m:=by omega
   have h:=HU.o
   rw[hmi,←HLL.o,List.take_length]at h
   have OC:=ai h
   clear h HU
   have hcm:(aF ls).length≤100000000:=by have h:=HB.o;simp only[List.length_append,List.length_cons,List.length_nil]at h;omega
   have hll:ls.length≤100000000:=by rw[HLL.o];omega
   have hdec:(i:Int)<nn∨¬(i:Int)<nn:=by omega
   have hna2:¬(i:Int)<nn∨¬(i:Int)<na:=by have h:=HM.o;omega
   by_cases hi1:(i:Int)<nn
   ·skip
    have hi2:¬(i:Int)<na:=by omega
    clear hdec hna2
    go_upto_region 32 with fail
    refine au W [.p (.pointer (some ⟨w.heap.size,1,none⟩)),.p (.string nm),.r [] (aH [⟨#[110,101,119]⟩,nm]),.r [8] (jw ls),.r [3] (aH (aF ls)),.r [4] (aH ([⟨#[123]⟩]++aF ls++[⟨#[125]⟩])),.r [2,5] (aH ([⟨#[110,101,119]⟩,nm]++([⟨#[123]⟩]++aF ls++[⟨#[125]⟩]))),.r [6] (aH ([⟨#[110,101,119]⟩,nm]++([⟨#[123]⟩]++aF ls++[⟨#[125]⟩]))),.r [] (Kp (jw ls) (u3))] kr HST.o (jf rfl rfl OC.o HC.o) ?_ kr ?_
    ·
     refine OB.p ?_
     refine OB.p ?_ (fun X hX=>by have c:=bJ.o X hX 1 _ rfl;rw[Nat.zero_add]at c;go_simp)
     refine OB.bs [⟨#[110,101,119]⟩,nm] 2 ?_
     refine OB.mi 3 ?_
     refine OB.cu (ok:=jw ls) 115 (fun v=> #[v]) Tryz.func34 (fun X v C hX hv=>jT _ v X C (oz.ls hv) hll hcm) ?_
     refine OB.cu (ok:=aH (aF ls)) 116 (fun v=> #[.string ⟨#[123]⟩,v,.string ⟨#[125]⟩]) Tryz.func26 (fun X v C hX hv=>gK _ _ _ v X C (aH.strs hv) (by have h:=HB.o;simp only[List.length_append,List.length_cons,List.length_nil]at h⊢;omega)) ?_
     refine OB.app 114 117 (by have h:=HB.o;simp only[List.length_append,List.length_cons,List.length_nil]at h⊢;omega) ?_
     refine OB.mv 118 ?_
     exact OB.nil
    intro V X f hX hf
    have h4:(aH _).r _ X _:=hf 7 kr
    simp only[dm,Act.put,List.setIfInBounds_toArray,List.set_cons_zero,List.set_cons_succ,Nat.zero_add]
    go_wp2_with fail
    go_ret
    exact⟨_,rfl,ST0.o.trans hX,(aH _).ok.mono (fun q _ h=>Nat.le_trans hsz h.1) h4⟩
   ·skip
    clear hdec hna2
    go_upto_region 32 with fail
    refine au W [.p (.pointer (some ⟨w.heap.size,1,none⟩)),.p (.string nm),.r [] (aH [⟨#[110,101,119]⟩,nm]),.r [8] (jw ls),.r [3] (aH (aF ls)),.r [4] (aH ([⟨#[123]⟩]++aF ls++[⟨#[125]⟩])),.r [2,5] (aH ([⟨#[110,101,119]⟩,nm]++([⟨#[123]⟩]++aF ls++[⟨#[125]⟩]))),.r [6] (aH ([⟨#[110,101,119]⟩,nm]++([⟨#[123]⟩]++aF ls++[⟨#[125]⟩]))),.r [] (Kp (jw ls) (u3))] kr HST.o (jf rfl rfl OC.o HC.o) ?_ kr ?_
    ·
     refine OB.p ?_
     refine OB.p ?_ (fun X hX=>by have c:=bJ.o X hX 1 _ rfl;rw[Nat.zero_add]at c;go_simp)
     refine OB.bs [⟨#[110,101,119]⟩,nm] 2 ?_
     refine OB.mi 3 ?_
     refine OB.cu (ok:=jw ls) 115 (fun v=> #[v]) Tryz.func34 (fun X v C hX hv=>jT _ v X C (oz.ls hv) hll hcm) ?_
     refine OB.cu (ok:=aH (aF ls)) 116 (fun v=> #[.string ⟨#[123]⟩,v,.string ⟨#[125]⟩]) Tryz.func26 (fun X v C hX hv=>gK _ _ _ v X C (aH.strs hv) (by have h:=HB.o;simp only[List.length_append,List.length_cons,List.length_nil]at h⊢;omega)) ?_
     refine OB.app 114 117 (by have h:=HB.o;simp only[List.length_append,List.length_cons,List.length_nil]at h⊢;omega) ?_
     refine OB.mv 118 ?_
     exact OB.nil
    intro V X f hX hf
    have h4:(aH _).r _ X _:=hf 7 kr
    simp only[dm,Act.put,List.setIfInBounds_toArray,List.set_cons_zero,List.set_cons_succ,Nat.zero_add]
    go_wp2_with fail
    go_ret
    exact⟨_,rfl,ST0.o.trans hX,(aH _).ok.mono (fun q _ h=>Nat.le_trans hsz h.1) h4⟩
theorem Sm (n:Int) (w:World) (h:0≤n) (h2:n<9223372036854775808):Calls Tryz.prog 58 #[.int .i64 n] w fun e w'=>e=.returned (.tuple #[aW,aX n])∧w=w':=by go_enter Tryz.func58,Tryz.ntmps58;go_wp2;go_ret2;exact⟨rfl,rfl⟩
theorem zk (w:World) (z:Int) (h0:0≤z) (h1:z<256):(convert 128 9 (.slice (some ⟨w.heap.size,0,none⟩) 1 1)).run Tryz.prog (w.alloc (.cells #[.int .u8 z] 5))=.ok (.string ⟨#[UInt8.ofNat z.toNat]⟩) (w.alloc (.cells #[.int .u8 z] 5)):=by
 refine run_convert_bytes_back _ _ _ 5 ⟨w.heap.size,0,none⟩ 1 [UInt8.ofNat z.toNat] Tryz.underlying128 Tryz.underlying5 Tryz.underlying9 (fun j hj=> ?_);obtain rfl:j=0:=by simp at hj;omega
 have h:(w.alloc (.cells #[.int .u8 z] 5)).heap[w.heap.size]?=some (.cells #[.int .u8 z] 5 (0,0)):=aC _ _;have h2:=aj h 0 _ rfl;have h3:(((UInt8.ofNat z.toNat).toNat:Nat):Int)=z:=by rw[UInt8.toNat_ofNat'];omega
 show(w.alloc _).cell? (Addr.add ⟨w.heap.size,0,none⟩ 0)=some (.int .u8 (((UInt8.ofNat z.toNat).toNat:Nat):Int));rw[h3];exact h2
theorem Dt (a b:List UInt8):sB (a++b)=sB a++sB b:=by unfold sB;apply ByteArray.ext;simp
theorem Gu {n:Nat} (h:n<10):pM n=[UInt8.ofNat (n+48)]:=by rw[pM,if_pos h]
theorem VD (n:Nat) (w0:World) (h2:n<9223372036854775808):Calls Tryz.prog 31 #[.int .i64 n] w0 fun e w'=>e=.returned (.string (sB (pM n)))∧Step Sf w0 w':=by
 go_enter Tryz.func31,Tryz.ntmps31;go_wp2_with (go_at_call 58;refine(Sm n _ om om).mono ?_;rintro e w' ⟨rfl,rfl⟩);go_loopg [4,5] n (fun gg s4 s5 wr=>∃(f:Nat) (s:ByteArray),s4=.int .u64 f∧s5=.string s∧f≤gg∧9*s.size+f≤n∧sB (pM n)=sB (pM f)++s∧Step Sf w0 wr);case atStart=>exact⟨n,⟨#[]⟩,rfl,rfl,Nat.le_refl _,by show 9*0+n≤n;omega,by rw[show(⟨#[]⟩:ByteArray)=sB [] from rfl,←Dt,List.append_nil],Step.refl _ _⟩
 case round=>
  obtain⟨f,s,rfl,rfl,hg,hf,hs,hst⟩:=hrel;have HS:=ai hs;have HST:=ai hst;clear hs hst;by_cases h10:10≤f
  ·(have hi:(10:Int)≤f:=by omega);obtain⟨ch,hch⟩:=bF (UInt8.ofNat (f%10+48));have ZC:=ai hch;have hc:=zk wr ((f:Int)%10+48) om om;rw[show UInt8.ofNat (Int.toNat ((f:Int)%10+48))=ch by first|(rw[hch];done)|(rw[hch];rfl)]at hc;clear hch;go_wp2;go_roundg (gk-1);case rel=>
    refine⟨f/10,⟨#[ch]⟩++s,by simp,rfl,by omega,?_,?_,(HST.o.alloc _)⟩
    ·rw[ByteArray.size_append];show 9*(1+s.size)+f/10≤n;omega
    ·rw[show(⟨#[ch]⟩:ByteArray)=sB [UInt8.ofNat (f%10+48)] by rw[ZC.o];rfl,HS.o,show pM f=pM (f/10)++[UInt8.ofNat (f%10+48)] by rw[pM,if_neg om],Dt,ByteArray.append_assoc]
   case measure=>omega
  ·(have hi:¬(10:Int)≤f:=by omega);obtain⟨ch,hch⟩:=bF (UInt8.ofNat (f+48));have ZC:=ai hch;have hc:=zk wr ((f:Int)+48) om om;rw[show UInt8.ofNat (Int.toNat ((f:Int)+48))=ch by first|(rw[hch];done)|(rw[hch];rfl)]at hc;clear hch;go_wp2;go_ret;refine⟨?_,HST.o.alloc _⟩;rw[HS.o,Gu om,←ZC.o];rfl
theorem VE (n:Nat) (w:World) (h2:n<18446744073709551616):Calls Tryz.prog 32 #[.int .u64 n] w fun e w'=>e=.returned (.string (sB (hexL 16 n)))∧Step Sf w w':=by
 go_enter Tryz.func32,Tryz.ntmps32;go_wp2;go_loopg [0,3,4] 16 (fun gg s0 s3 s4 wr=>∃(i f:Nat) (s:ByteArray),s0=.int .u64 f∧s3=.string s∧s4=.int .i64 i∧i≤16∧16-i≤gg∧f≤n∧s.size≤i∧sB (hexL 16 n)=sB (hexL (16-i) f)++s∧Step Sf w wr);case atStart=>exact⟨0,n,⟨#[]⟩,rfl,rfl,rfl,by omega,by omega,Nat.le_refl _,Nat.le_refl _,by rw[show(⟨#[]⟩:ByteArray)=sB [] from rfl,←Dt,List.append_nil],Step.refl _ _⟩
 case round=>
  obtain⟨i,f,s,rfl,rfl,rfl,hi,hg,hf,hsz,hs,hst⟩:=hrel;have HS:=ai hs;have HST:=ai hst;clear hs hst;by_cases h16:i<16
  ·obtain⟨d,hd⟩:=bF (f%16);(have HH:Hid (sB (hexL (16-i) f)=sB (hexL (16-(i+1)) (f/16))++sB [Dp d]):=by show _=_;rw[←Dt,show 16-i=(16-(i+1))+1 by omega,hexL,hd]);(have hr:(f:Int)%16=d:=by omega);(have hd16:d<16:=by omega);clear hd;by_cases h10:d<10
   ·(have hdi:(d:Int)<10:=by omega);(have HD:Hid (Dp d=UInt8.ofNat (d+48)):=show _=_ by unfold Dp;rw[if_pos h10]);obtain⟨ch,hch⟩:=bF (UInt8.ofNat (d+48));have ZC:=ai hch;have hc:=zk wr ((d:Int)+48) om om;rw[show UInt8.ofNat (Int.toNat ((d:Int)+48))=ch by first|(rw[hch];done)|(rw[hch];rfl)]at hc;clear hch;go_wp2;go_roundg (gk-1);case rel=>
     refine⟨i+1,f/16,⟨#[ch]⟩++s,by simp,rfl,by go_num,by omega,by omega,by omega,?_,?_,(HST.o.alloc _)⟩
     ·rw[ByteArray.size_append];show 1+s.size≤i+1;omega
     ·rw[show(⟨#[ch]⟩:ByteArray)=sB [Dp d] by rw[ZC.o,HD.o];rfl,HS.o,HH.o,ByteArray.append_assoc]
    case measure=>omega
   ·(have hdi:¬(d:Int)<10:=by omega);(have HD:Hid (Dp d=UInt8.ofNat (d+87)):=show _=_ by unfold Dp;rw[if_neg h10]);obtain⟨ch,hch⟩:=bF (UInt8.ofNat (d+87));have ZC:=ai hch;have hc:=zk wr ((d:Int)+87) om om;rw[show UInt8.ofNat (Int.toNat ((d:Int)+87))=ch by first|(rw[hch];done)|(rw[hch];rfl)]at hc;clear hch;go_wp2;go_roundg (gk-1);case rel=>
     refine⟨i+1,f/16,⟨#[ch]⟩++s,by simp,rfl,by go_num,by omega,by omega,by omega,?_,?_,(HST.o.alloc _)⟩
     ·rw[ByteArray.size_append];show 1+s.size≤i+1;omega
     ·rw[show(⟨#[ch]⟩:ByteArray)=sB [Dp d] by rw[ZC.o,HD.o];rfl,HS.o,HH.o,ByteArray.append_assoc]
    case measure=>omega
  ·go_wp2;go_ret;(have:i=16:=by omega);subst this;refine⟨?_,HST.o⟩;rw[HS.o,Nat.sub_self,hexL,show sB []=(⟨#[]⟩:ByteArray) from rfl];congr 2
def Aa (b:ByteArray):Rb:=⟨fun v _ _=>v=.string b,⟨fun _ _ h=>h,fun _ h=>h⟩⟩
section
variable {ops : Array Oper} {dD : List Sp} {w1 : World} {o : Oper} {a : Act} {r : List Oper} {ss : List Sp}
theorem OB.b1 {b:ByteArray} {k:Nat} (t:Tmp) (h:zh ops dD w1 r ss a) (hy:∀X,o.wp Tryz.prog (a.put (some t) (.string b)) X (fun a' X'=>a'=(a.put (some t) (.string b)).put o.dst (.slice (some ⟨X.heap.size,0,none⟩) 1 1)∧X'=X.alloc (.cells #[aI b] 9)) QN:=by intro X;go_simp) (hk:(ku dD k).out=(Aa b).r:=by rfl) (ht:dZ ops k=some t:=by rfl) (hw:Region.wanted o (yielded ops a.tmps)=true:=by kernel_rfl):zh ops dD w1 (o::r) (.r [k] (aH [b])::ss) a:=
 OB.u t (ok:=Aa b) (fun X v _ _ hv _=>by
  have hv:v=.string b:=hv
  subst hv
  exact Oper.wp_mono (fun a' X' ⟨h1,h2⟩=>⟨_,h1,by rw[h2];exact bg.alloc _,by rw[h2];exact(aH [b]).ok.mono (fun _ _ h=>.inr h) (aH.mk (xs:=[b]) rfl dc dc)⟩) (hy X)) h hk ht hw
theorem OB.ad {b c:ByteArray} {k:Nat} (t:Tmp) (h:zh ops dD w1 r ss a) (hy:∀X,o.wp Tryz.prog (a.put (some t) (.string b)) X (fun a' X'=>a'=(a.put (some t) (.string b)).put o.dst (.string (c++b))∧X'=X) QN) (hk:(ku dD k).out=(Aa b).r:=by rfl) (ht:dZ ops k=some t:=by rfl) (hw:Region.wanted o (yielded ops a.tmps)=true:=by kernel_rfl):zh ops dD w1 (o::r) (.r [k] (Aa (c++b))::ss) a:=
 OB.u t (ok:=Aa b) (fun X v _ _ hv _=>by
  have hv:v=.string b:=hv
  subst hv
  exact Oper.wp_mono (fun a' X' ⟨h1,h2⟩=>⟨_,h1,by rw[h2];exact Step.refl _ _,rfl⟩) (hy X)) h hk ht hw
end
theorem Je:∀(k n:Nat),(hexL k n).length=k
 |0,_=>rfl
 |k+1,n=>by rw[hexL,List.length_append,Je k];rfl
theorem ZE {nm:ByteArray} {v:Int} {mu:Bool} {ar:List Ex} {ns:List ByteArray} {bo:List St} {l c:Int} (h0:0≤v) (h1:v<9223372036854775808):qA (.mk 1 nm v mu ar ns bo l c):=by
 intro cs w D hx hb;have h0:dM (.mk 1 nm v mu ar ns bo l c)=[sB (pM v.toNat)]:=by rw[dM];rfl
 rw[h0]at hb⊢;clear h0;obtain⟨n,rfl⟩:∃n:Nat,v=n:=⟨v.toNat,by omega⟩;have hn:n<9223372036854775808:=by omega
 have vk:=ai hx;rw[dA]at hx;obtain⟨va,vn,vb,xa,xb,rfl,-,-,ha,hra,hrn,hb2,hrb⟩:=hx;obtain⟨aa,ca,rfl⟩:=hra.parts;obtain⟨an,cn,rfl⟩:=hrn.parts;obtain⟨ab,cb,rfl⟩:=hrb.parts;have HA:=ai ha;have kY:=ai hra;have pV:=ai hrn;have HB2:=ai hb2;have jV:=ai hrb;have HB:=ai hb;clear ha hra hrn hb2 hrb hb;obtain⟨W,hW⟩:=bF (w.alloc (.cells #[Value.int .i64 1,aI nm,aX n,bK mu,.slice aa ar.length ca,.slice an ns.length cn,.slice ab bo.length cb,ah l,ah c] 56));have ST0:Hid (Step Sf w W):=by rw[hW];exact bg.alloc _
 have d_:Hid (∀X,Step Sf W X→X.heap[w.heap.size]?=some (.cells #[Value.int .i64 1,aI nm,aX n,bK mu,.slice aa ar.length ca,.slice an ns.length cn,.slice ab bo.length cb,ah l,ah c] 56 (0,0))):=by intro X hX;rw[hW]at hX;exact hX.keep (aC _ _) (fun h=>h)
 have HW:=ai hW;have hsz:w.heap.size≤W.heap.size:=ST0.o.size;clear hW;have bJ:Hid (∀X,Step Sf W X→∀(j:Nat) u,[Value.int .i64 1,aI nm,aX n,bK mu,.slice aa ar.length ca,.slice an ns.length cn,.slice ab bo.length cb,ah l,ah c][j]?=some u→X.cell? ⟨w.heap.size,0+j,none⟩=some u):=by intro X hX j u hu;rw[Nat.zero_add];exact aj (d_.o X hX) j u (by simpa using hu)
 have b0:=bJ.o W bg 0 _ rfl;rw[Nat.add_zero]at b0;go_enter Tryz.func12,Tryz.ntmps12;go_upto_region 1 with fail
 rw[←HW.o];have hw1:IntKind.u64.wrap ((n:Int)*2)=n*2:=by simp[IntKind.wrap,IntKind.bits,IntKind.signed];omega
 have hw2:IntKind.i64.wrap (n:Int)=n:=by simp[IntKind.wrap,IntKind.bits,IntKind.signed];omega
 go_upto_region 3 with fail
 refine au W [.p (.pointer (some ⟨w.heap.size,2,none⟩)),.p (.int .u64 n),.p (.int .u64 ((n*2:Nat):Int)),.p (.int .u64 n),.p (.int .i64 n),.r [] (Aa (sB (pM n))),.r [5] (aH [sB (pM n)]),.r [6] (aH [sB (pM n)])] kr bg (iR (Nat.le_refl _)) ?_ kr ?_
 ·refine OB.p ?_;refine OB.p ?_ (fun X hX=>by have c:=bJ.o X hX 2 _ rfl;rw[Nat.zero_add]at c;go_simp);refine OB.p ?_;refine OB.p ?_;refine OB.p ?_;refine OB.c #[.int .i64 n] Tryz.func31 (fun X hX=>(VD n X hn).mono fun _ _ ⟨h1,h2⟩=>⟨_,h1,h2,rfl⟩) ?_;refine OB.b1 16 ?_;refine OB.mv 17 ?_;exact OB.nil
 intro V X f hX hf;have h4:(aH _).r _ X _:=hf 7 kr;simp only[dm,Act.put,List.setIfInBounds_toArray,List.set_cons_zero,List.set_cons_succ,Nat.zero_add];go_wp2_with fail;go_ret;exact⟨_,rfl,ST0.o.trans hX,(aH _).ok.mono (fun q _ h=>Nat.le_trans hsz h.1) h4⟩
theorem ZF {nm:ByteArray} {v:Int} {mu:Bool} {ar:List Ex} {ns:List ByteArray} {bo:List St} {l c:Int} (h0:0≤v) (h1:v<18446744073709551616):qA (.mk 3 nm v mu ar ns bo l c):=by
 intro cs w D hx hb;have h0:dM (.mk 3 nm v mu ar ns bo l c)=[⟨#[48,102]⟩++sB (hexL 16 v.toNat)]:=by rw[dM];rfl
 rw[h0]at hb⊢;clear h0;obtain⟨n,rfl⟩:∃n:Nat,v=n:=⟨v.toNat,by omega⟩;have hn:n<18446744073709551616:=by omega
 have vk:=ai hx;rw[dA]at hx;obtain⟨va,vn,vb,xa,xb,rfl,-,-,ha,hra,hrn,hb2,hrb⟩:=hx;obtain⟨aa,ca,rfl⟩:=hra.parts;obtain⟨an,cn,rfl⟩:=hrn.parts;obtain⟨ab,cb,rfl⟩:=hrb.parts;have HA:=ai ha;have kY:=ai hra;have pV:=ai hrn;have HB2:=ai hb2;have jV:=ai hrb;have HB:=ai hb;clear ha hra hrn hb2 hrb hb;obtain⟨W,hW⟩:=bF (w.alloc (.cells #[Value.int .i64 3,aI nm,aX n,bK mu,.slice aa ar.length ca,.slice an ns.length cn,.slice ab bo.length cb,ah l,ah c] 56));have ST0:Hid (Step Sf w W):=by rw[hW];exact bg.alloc _
 have d_:Hid (∀X,Step Sf W X→X.heap[w.heap.size]?=some (.cells #[Value.int .i64 3,aI nm,aX n,bK mu,.slice aa ar.length ca,.slice an ns.length cn,.slice ab bo.length cb,ah l,ah c] 56 (0,0))):=by intro X hX;rw[hW]at hX;exact hX.keep (aC _ _) (fun h=>h)
 have HW:=ai hW;have hsz:w.heap.size≤W.heap.size:=ST0.o.size;clear hW;have bJ:Hid (∀X,Step Sf W X→∀(j:Nat) u,[Value.int .i64 3,aI nm,aX n,bK mu,.slice aa ar.length ca,.slice an ns.length cn,.slice ab bo.length cb,ah l,ah c][j]?=some u→X.cell? ⟨w.heap.size,0+j,none⟩=some u):=by intro X hX j u hu;rw[Nat.zero_add];exact aj (d_.o X hX) j u (by simpa using hu)
 have b0:=bJ.o W bg 0 _ rfl;rw[Nat.add_zero]at b0;go_enter Tryz.func12,Tryz.ntmps12;go_upto_region 1 with fail
 rw[←HW.o];have hs:∀X:World,(Op.stringOp .add ⟨#[48,102]⟩ (sB (hexL 16 n))).run Tryz.prog X=.ok (.string (⟨#[48,102]⟩++sB (hexL 16 n))) X:=fun X=>run_string_add_sum X _ _ (by rw[show(sB (hexL 16 n)).size=16 from Je 16 n];decide);go_upto_region 9 with fail
 refine au W [.p (.pointer (some ⟨w.heap.size,2,none⟩)),.p (.int .u64 n),.r [] (Aa (sB (hexL 16 n))),.r [2] (Aa (⟨#[48,102]⟩++sB (hexL 16 n))),.r [3] (aH [⟨#[48,102]⟩++sB (hexL 16 n)]),.r [4] (aH [⟨#[48,102]⟩++sB (hexL 16 n)])] kr bg (iR (Nat.le_refl _)) ?_ kr ?_
 ·refine OB.p ?_;refine OB.p ?_ (fun X hX=>by have c:=bJ.o X hX 2 _ rfl;rw[Nat.zero_add]at c;go_simp);refine OB.c #[.int .u64 n] Tryz.func32 (fun X hX=>(VE n X hn).mono fun _ _ ⟨h1,h2⟩=>⟨_,h1,h2,rfl⟩) ?_;refine OB.ad 29 ?_ (fun X=>by have h:=hs X;go_simp);refine OB.b1 30 ?_;refine OB.mv 31 ?_;exact OB.nil
 intro V X f hX hf;have h4:(aH _).r _ X _:=hf 5 kr;simp only[dm,Act.put,List.setIfInBounds_toArray,List.set_cons_zero,List.set_cons_succ,Nat.zero_add];go_wp2_with fail;go_ret;exact⟨_,rfl,ST0.o.trans hX,(aH _).ok.mono (fun q _ h=>Nat.le_trans hsz h.1) h4⟩
def KN (s:St):Prop:=∀(cs:List Value) (w:World) (D:Nat→Prop),jS w D s cs→(uY s).length≤100000000→Calls Tryz.prog 57 #[.agg cs.toArray] w (Mk (aH (uY s)) w)
theorem E5:∀(l:List St) (s:St),eX (l++[s])=eX l++uY s
 |[],s=>by rw[List.nil_append,eX,eX,eX];exact List.append_nil _
 |a::r,s=>by rw[List.cons_append,eX,eX,E5 r s,List.append_assoc]
theorem Jf:∀(l m:List St),eX (l++m)=eX l++eX m
 |[],m=>by rw[List.nil_append,eX];rfl
 |a::r,m=>by rw[List.cons_append,eX,eX,Jf r m,List.append_assoc]
theorem VF (l:List St) (i:Nat):(eX (l.take i)).length≤(eX l).length:=by have h:=Jf (l.take i) (l.drop i);rw[List.take_append_drop]at h;rw[h,List.length_append];omega
theorem VG {nm tn tl:ByteArray} {tk fM bT:Int} {tm ot:Bool} {fO:List ByteArray} {tar:List Ty} {pl e:List Ex} {bo el:List St} {l c:Int} (Ud:xI (.mk tk tn tl tm fO tar fM bT)) (ht:¬tk=0) (Bz:∀y∈e,qA y) (he:e.length≤1000000) (hx0:0<e.length):KN (.mk 1 nm (.mk tk tn tl tm fO tar fM bT) pl e bo el ot l c):=by
 intro cs w D hx hb;have h0:uY (.mk 1 nm (.mk tk tn tl tm fO tar fM bT) pl e bo el ot l c)=[⟨#[108,101,116]⟩,nm]++[⟨#[58]⟩]++gu (.mk tk tn tl tm fO tar fM bT)++[⟨#[61]⟩]++aF (e.map dM)++[⟨#[59]⟩]:=by rw[uY];show[⟨#[108,101,116]⟩,nm]++(if tk=0 then[]else[⟨#[58]⟩]++gu (.mk tk tn tl tm fO tar fM bT))++(if e.length=0 then[]else[⟨#[61]⟩]++aF (dF e))++[⟨#[59]⟩]=_;rw[if_neg ht,if_neg om,iY];simp only[List.append_assoc]
 rw[h0]at hb⊢;clear h0;have hk:(tk==0)=false:=by rw[beq_eq_false_iff_ne];exact ht
 clear ht;rw[jS]at hx;obtain⟨ct,vp,ve,vb,vl,xp,xe,xb,xl,rfl,-,hty,hp,oI,he0,hre,hb2,hrb,hl2,hrl⟩:=hx;have Bq:=ai hty;rw[gG]at hty;obtain⟨v1,v2,x2,rfl,-,-,-,hr1,-,hr2⟩:=hty;obtain⟨q1,d1,rfl⟩:=hr1.parts;obtain⟨q2,d2,rfl⟩:=hr2.parts;obtain⟨ap,cp,rfl⟩:=oI.parts;obtain⟨ae,ce,rfl⟩:=hre.parts;obtain⟨ab,cb,rfl⟩:=hrb.parts;obtain⟨ax,cx,rfl⟩:=hrl.parts;have HP:=ai hp;have KO:=ai oI;have HE:=ai he0;have kU:=ai hre;have HB2:=ai hb2;have jV:=ai hrb;have HL2:=ai hl2;have tY:=ai hrl;have HB:=ai hb;clear hr1 hr2 hp oI he0 hre hb2 hrb hl2 hrl hb;obtain⟨W,hW⟩:=bF (w.alloc (.cells #[Value.int .i64 1,aI nm,ah tk,aI tn,aI tl,bK tm,.slice q1 fO.length d1,.slice q2 tar.length d2,ah fM,ah bT,.slice ap pl.length cp,.slice ae e.length ce,.slice ab bo.length cb,.slice ax el.length cx,bK ot,ah l,ah c] 89));have ST0:Hid (Step Sf w W):=by rw[hW];exact bg.alloc _
 have bJ:Hid (∀X,Step Sf W X→∀(j:Nat) u,[Value.int .i64 1,aI nm,ah tk,aI tn,aI tl,bK tm,.slice q1 fO.length d1,.slice q2 tar.length d2,ah fM,ah bT,.slice ap pl.length cp,.slice ae e.length ce,.slice ab bo.length cb,.slice ax el.length cx,bK ot,ah l,ah c][j]?=some u→X.cell? ⟨w.heap.size,0+j,none⟩=some u):=by intro X hX j u hu;rw[hW]at hX;rw[Nat.zero_add];exact aj (hX.keep (aC _ _) (fun h=>h)) j u (by simpa using hu)
 have HW:=ai hW;have hsz:w.heap.size≤W.heap.size:=ST0.o.size;clear hW;go_enter Tryz.func57,Tryz.ntmps57;go_upto_region 1 with fail
 rw[←HW.o];have hbs:∀y∈e,(dM y).length≤100000000:=fun y hy=>Nat.le_trans (fU (ls:=e.map dM) (List.mem_map_of_mem hy)) (by have h:=HB.o;simp only[List.length_append,List.length_cons,List.length_nil]at h⊢;omega);have hlen:(0:Int)<e.length:=by omega
 clear hx0;have CQ:Hid (∀X,Step Sf W X→∀(j:Nat) u,[Value.int .i64 tk,aI tn,aI tl,bK tm,.slice q1 fO.length d1,.slice q2 tar.length d2,ah fM,ah bT][j]?=some u→X.cell? ⟨w.heap.size,2+j,none⟩=some u):=by intro X hX j u hu;have h:=bJ.o X hX (2+j) u (by rw[Nat.add_comm];exact(List.getElem?_append_left (l₂:=[.slice ap pl.length cp,.slice ae e.length ce,.slice ab bo.length cb,.slice ax el.length cx,.bool ot,.int .i64 l,.int .i64 c]) (List.getElem?_eq_some_iff.1 hu).1).trans hu);rw[Nat.zero_add]at h;exact h
 have c0:=bJ.o W bg 0 _ rfl;rw[Nat.add_zero]at c0;have c2:=bJ.o W bg 2 _ rfl;rw[Nat.zero_add]at c2;have c11:=bJ.o W bg 11 _ rfl;rw[Nat.zero_add]at c11;go_upto_region 3 with fail
 refine au W [.p (.pointer (some ⟨w.heap.size,1,none⟩)),.p (.string nm),.r [] (aH [⟨#[108,101,116]⟩,nm]),.r [2] (aH [⟨#[108,101,116]⟩,nm])] kr bg (iR (Nat.le_refl _)) ?_ kr ?_
 ·refine OB.p ?_;refine OB.p ?_ (fun X hX=>by have c:=bJ.o X hX 1 _ rfl;rw[Nat.zero_add]at c;go_simp);refine OB.bs [⟨#[108,101,116]⟩,nm] 2 ?_;refine OB.mv 12 ?_;exact OB.nil
 intro V0 X0 f0 hX0 hf0;have qy:(aH _).r _ X0 _:=hf0 3 kr;simp only[dm,Act.put,List.setIfInBounds_toArray,List.set_cons_zero,List.set_cons_succ,Nat.zero_add];clear c2 c11;have c2:=bJ.o X0 hX0 2 _ rfl;rw[Nat.zero_add]at c2;have c11:=bJ.o X0 hX0 11 _ rfl;rw[Nat.zero_add]at c11;go_upto_region 5 with fail
 refine au W [.r [8] (aH [⟨#[108,101,116]⟩,nm]),.r [] (aH [⟨#[58]⟩]),.r [0,1] (aH ([⟨#[108,101,116]⟩,nm]++[⟨#[58]⟩])),.p (.pointer (some ⟨w.heap.size,2,none⟩)),.p (.agg [Value.int .i64 tk,aI tn,aI tl,bK tm,.slice q1 fO.length d1,.slice q2 tar.length d2,ah fM,ah bT].toArray),.r [] (aH (gu (.mk tk tn tl tm fO tar fM bT))),.r [2,5] (aH (([⟨#[108,101,116]⟩,nm]++[⟨#[58]⟩])++(gu (.mk tk tn tl tm fO tar fM bT)))),.r [6] (aH (([⟨#[108,101,116]⟩,nm]++[⟨#[58]⟩])++(gu (.mk tk tn tl tm fO tar fM bT)))),.r [] (Kp (aH [⟨#[108,101,116]⟩,nm]) (V0 3))] kr hX0 (jf rfl rfl qy (fun _ h=>h.1)) ?_ kr ?_
 ·refine OB.mi 3 ?_;refine OB.bs [⟨#[58]⟩] 1 ?_;refine OB.app 17 18 (by have h:=HB.o;simp only[List.length_append,List.length_cons,List.length_nil]at h⊢;omega) ?_;refine OB.p ?_;refine OB.ld w.heap.size 2 [Value.int .i64 tk,aI tn,aI tl,bK tm,.slice q1 fO.length d1,.slice q2 tar.length d2,ah fM,ah bT] _ CQ.o Tryz.underlying46 Tryz.gB ?_;refine OB.c #[.agg [Value.int .i64 tk,aI tn,aI tl,bK tm,.slice q1 fO.length d1,.slice q2 tar.length d2,ah fM,ah bT].toArray] Tryz.func56 (fun X hX=>Ud _ X D (gG.step (ST0.o.trans hX) (fun _ _ h=>h) _ _ Bq.o) (by have h:=HB.o;simp only[List.length_append,List.length_cons,List.length_nil]at h⊢;omega)) ?_;refine OB.app 19 22 (by have h:=HB.o;simp only[List.length_append,List.length_cons,List.length_nil]at h⊢;omega) ?_;refine OB.mv 23 ?_;exact OB.nil
 intro V1 X1 f1 hX1 hf1;have Dq:(aH _).r _ X1 _:=hf1 7 kr;simp only[dm,Act.put,List.setIfInBounds_toArray,List.set_cons_zero,List.set_cons_succ,Nat.zero_add];clear c2 c11;have c2:=bJ.o X1 hX1 2 _ rfl;rw[Nat.zero_add]at c2;have c11:=bJ.o X1 hX1 11 _ rfl;rw[Nat.zero_add]at c11;go_upto_region 7 with fail
 refine au W [.r [8] (aH ([⟨#[108,101,116]⟩,nm]++[⟨#[58]⟩]++gu (.mk tk tn tl tm fO tar fM bT))),.r [] (aH [⟨#[61]⟩]),.r [0,1] (aH (([⟨#[108,101,116]⟩,nm]++[⟨#[58]⟩]++gu (.mk tk tn tl tm fO tar fM bT))++[⟨#[61]⟩])),.p (.pointer (some ⟨w.heap.size,11,none⟩)),.p (.slice ae e.length ce),.r [] (aH (aF (e.map dM))),.r [2,5] (aH ((([⟨#[108,101,116]⟩,nm]++[⟨#[58]⟩]++gu (.mk tk tn tl tm fO tar fM bT))++[⟨#[61]⟩])++(aF (e.map dM)))),.r [6] (aH ((([⟨#[108,101,116]⟩,nm]++[⟨#[58]⟩]++gu (.mk tk tn tl tm fO tar fM bT))++[⟨#[61]⟩])++(aF (e.map dM)))),.r [] (Kp (aH ([⟨#[108,101,116]⟩,nm]++[⟨#[58]⟩]++gu (.mk tk tn tl tm fO tar fM bT))) (V1 7))] kr hX1 (jf rfl rfl Dq (fun _ h=>h.1)) ?_ kr ?_
 ·refine OB.mi 3 ?_;refine OB.bs [⟨#[61]⟩] 1 ?_;refine OB.app 28 29 (by have h:=HB.o;simp only[List.length_append,List.length_cons,List.length_nil]at h⊢;omega) ?_;refine OB.p ?_;refine OB.p ?_ (fun X hX=>by have c:=bJ.o X hX 11 _ rfl;rw[Nat.zero_add]at c;go_simp);refine OB.c #[.slice ae e.length ce] Tryz.func35 (fun X hX=>kJ e _ X D xe (kU.o.step (ST0.o.trans hX) (fun _ _ h=>h)) (bY.step (ST0.o.trans hX) (fun _ _ h=>h) _ _ HE.o) (Nat.le_trans he dc) Bz hbs (by have h:=HB.o;simp only[List.length_append,List.length_cons,List.length_nil]at h⊢;omega)) ?_;refine OB.app 30 33 (by have h:=HB.o;simp only[List.length_append,List.length_cons,List.length_nil]at h⊢;omega) ?_;refine OB.mv 34 ?_;exact OB.nil
 intro V2 X2 f2 hX2 hf2;have h42:(aH _).r _ X2 _:=hf2 7 kr;simp only[dm,Act.put,List.setIfInBounds_toArray,List.set_cons_zero,List.set_cons_succ,Nat.zero_add];clear c2 c11;have c2:=bJ.o X2 hX2 2 _ rfl;rw[Nat.zero_add]at c2;have c11:=bJ.o X2 hX2 11 _ rfl;rw[Nat.zero_add]at c11;go_upto_region 8 with fail
 refine au W [.r [4] (aH ([⟨#[108,101,116]⟩,nm]++[⟨#[58]⟩]++gu (.mk tk tn tl tm fO tar fM bT)++[⟨#[61]⟩]++aF (e.map dM))),.r [] (aH [⟨#[59]⟩]),.r [0,1] (aH (([⟨#[108,101,116]⟩,nm]++[⟨#[58]⟩]++gu (.mk tk tn tl tm fO tar fM bT)++[⟨#[61]⟩]++aF (e.map dM))++[⟨#[59]⟩])),.r [2] (aH (([⟨#[108,101,116]⟩,nm]++[⟨#[58]⟩]++gu (.mk tk tn tl tm fO tar fM bT)++[⟨#[61]⟩]++aF (e.map dM))++[⟨#[59]⟩])),.r [] (Kp (aH ([⟨#[108,101,116]⟩,nm]++[⟨#[58]⟩]++gu (.mk tk tn tl tm fO tar fM bT)++[⟨#[61]⟩]++aF (e.map dM))) (V2 7))] kr hX2 (jf rfl rfl h42 (fun _ h=>h.1)) ?_ kr ?_
 ·refine OB.mi 3 ?_;refine OB.bs [⟨#[59]⟩] 1 ?_;refine OB.app 35 36 (by have h:=HB.o;simp only[List.length_append,List.length_cons,List.length_nil]at h⊢;omega) ?_;refine OB.mv 37 ?_;exact OB.nil
 intro V X f hX hf;have h4:(aH _).r _ X _:=hf 3 kr;simp only[dm,Act.put,List.setIfInBounds_toArray,List.set_cons_zero,List.set_cons_succ,Nat.zero_add];go_wp2_with fail;go_ret;exact⟨_,rfl,ST0.o.trans hX,(aH _).ok.mono (fun q _ h=>Nat.le_trans hsz h.1) h4⟩
theorem VH {nm tn tl:ByteArray} {tk fM bT:Int} {tm ot:Bool} {fO:List ByteArray} {tar:List Ty} {pl e:List Ex} {bo el:List St} {l c:Int} (Ud:xI (.mk tk tn tl tm fO tar fM bT)) (ht:¬tk=0) (hx0:e=[]):KN (.mk 1 nm (.mk tk tn tl tm fO tar fM bT) pl e bo el ot l c):=by
 intro cs w D hx hb;have h0:uY (.mk 1 nm (.mk tk tn tl tm fO tar fM bT) pl e bo el ot l c)=[⟨#[108,101,116]⟩,nm]++[⟨#[58]⟩]++gu (.mk tk tn tl tm fO tar fM bT)++[⟨#[59]⟩]:=by rw[uY];show[⟨#[108,101,116]⟩,nm]++(if tk=0 then[]else[⟨#[58]⟩]++gu (.mk tk tn tl tm fO tar fM bT))++(if e.length=0 then[]else[⟨#[61]⟩]++aF (dF e))++[⟨#[59]⟩]=_;rw[if_neg ht,if_pos (by rw[hx0];rfl),List.append_nil];simp only[List.append_assoc]
 rw[h0]at hb⊢;clear h0;have hk:(tk==0)=false:=by rw[beq_eq_false_iff_ne];exact ht
 clear ht;have HX0:=ai hx0;clear hx0;rw[jS]at hx;obtain⟨ct,vp,ve,vb,vl,xp,xe,xb,xl,rfl,-,hty,hp,oI,he0,hre,hb2,hrb,hl2,hrl⟩:=hx;have Bq:=ai hty;rw[gG]at hty;obtain⟨v1,v2,x2,rfl,-,-,-,hr1,-,hr2⟩:=hty;obtain⟨q1,d1,rfl⟩:=hr1.parts;obtain⟨q2,d2,rfl⟩:=hr2.parts;obtain⟨ap,cp,rfl⟩:=oI.parts;obtain⟨ae,ce,rfl⟩:=hre.parts;obtain⟨ab,cb,rfl⟩:=hrb.parts;obtain⟨ax,cx,rfl⟩:=hrl.parts;have HP:=ai hp;have KO:=ai oI;have HE:=ai he0;have kU:=ai hre;have HB2:=ai hb2;have jV:=ai hrb;have HL2:=ai hl2;have tY:=ai hrl;have HB:=ai hb;clear hr1 hr2 hp oI he0 hre hb2 hrb hl2 hrl hb;obtain⟨W,hW⟩:=bF (w.alloc (.cells #[Value.int .i64 1,aI nm,ah tk,aI tn,aI tl,bK tm,.slice q1 fO.length d1,.slice q2 tar.length d2,ah fM,ah bT,.slice ap pl.length cp,.slice ae e.length ce,.slice ab bo.length cb,.slice ax el.length cx,bK ot,ah l,ah c] 89));have ST0:Hid (Step Sf w W):=by rw[hW];exact bg.alloc _
 have bJ:Hid (∀X,Step Sf W X→∀(j:Nat) u,[Value.int .i64 1,aI nm,ah tk,aI tn,aI tl,bK tm,.slice q1 fO.length d1,.slice q2 tar.length d2,ah fM,ah bT,.slice ap pl.length cp,.slice ae e.length ce,.slice ab bo.length cb,.slice ax el.length cx,bK ot,ah l,ah c][j]?=some u→X.cell? ⟨w.heap.size,0+j,none⟩=some u):=by intro X hX j u hu;rw[hW]at hX;rw[Nat.zero_add];exact aj (hX.keep (aC _ _) (fun h=>h)) j u (by simpa using hu)
 have HW:=ai hW;have hsz:w.heap.size≤W.heap.size:=ST0.o.size;clear hW;go_enter Tryz.func57,Tryz.ntmps57;go_upto_region 1 with fail
 rw[←HW.o];have hlen2:¬(0:Int)<e.length:=by rw[HX0.o];decide
 have CQ:Hid (∀X,Step Sf W X→∀(j:Nat) u,[Value.int .i64 tk,aI tn,aI tl,bK tm,.slice q1 fO.length d1,.slice q2 tar.length d2,ah fM,ah bT][j]?=some u→X.cell? ⟨w.heap.size,2+j,none⟩=some u):=by intro X hX j u hu;have h:=bJ.o X hX (2+j) u (by rw[Nat.add_comm];exact(List.getElem?_append_left (l₂:=[.slice ap pl.length cp,.slice ae e.length ce,.slice ab bo.length cb,.slice ax el.length cx,.bool ot,.int .i64 l,.int .i64 c]) (List.getElem?_eq_some_iff.1 hu).1).trans hu);rw[Nat.zero_add]at h;exact h
 have c0:=bJ.o W bg 0 _ rfl;rw[Nat.add_zero]at c0;have c2:=bJ.o W bg 2 _ rfl;rw[Nat.zero_add]at c2;have c11:=bJ.o W bg 11 _ rfl;rw[Nat.zero_add]at c11;go_upto_region 3 with fail
 refine au W [.p (.pointer (some ⟨w.heap.size,1,none⟩)),.p (.string nm),.r [] (aH [⟨#[108,101,116]⟩,nm]),.r [2] (aH [⟨#[108,101,116]⟩,nm])] kr bg (iR (Nat.le_refl _)) ?_ kr ?_
 ·refine OB.p ?_;refine OB.p ?_ (fun X hX=>by have c:=bJ.o X hX 1 _ rfl;rw[Nat.zero_add]at c;go_simp);refine OB.bs [⟨#[108,101,116]⟩,nm] 2 ?_;refine OB.mv 12 ?_;exact OB.nil
 intro V0 X0 f0 hX0 hf0;have qy:(aH _).r _ X0 _:=hf0 3 kr;simp only[dm,Act.put,List.setIfInBounds_toArray,List.set_cons_zero,List.set_cons_succ,Nat.zero_add];clear c2 c11;have c2:=bJ.o X0 hX0 2 _ rfl;rw[Nat.zero_add]at c2;have c11:=bJ.o X0 hX0 11 _ rfl;rw[Nat.zero_add]at c11;go_upto_region 5 with fail
 refine au W [.r [8] (aH [⟨#[108,101,116]⟩,nm]),.r [] (aH [⟨#[58]⟩]),.r [0,1] (aH ([⟨#[108,101,116]⟩,nm]++[⟨#[58]⟩])),.p (.pointer (some ⟨w.heap.size,2,none⟩)),.p (.agg [Value.int .i64 tk,aI tn,aI tl,bK tm,.slice q1 fO.length d1,.slice q2 tar.length d2,ah fM,ah bT].toArray),.r [] (aH (gu (.mk tk tn tl tm fO tar fM bT))),.r [2,5] (aH (([⟨#[108,101,116]⟩,nm]++[⟨#[58]⟩])++(gu (.mk tk tn tl tm fO tar fM bT)))),.r [6] (aH (([⟨#[108,101,116]⟩,nm]++[⟨#[58]⟩])++(gu (.mk tk tn tl tm fO tar fM bT)))),.r [] (Kp (aH [⟨#[108,101,116]⟩,nm]) (V0 3))] kr hX0 (jf rfl rfl qy (fun _ h=>h.1)) ?_ kr ?_
 ·refine OB.mi 3 ?_;refine OB.bs [⟨#[58]⟩] 1 ?_;refine OB.app 17 18 (by have h:=HB.o;simp only[List.length_append,List.length_cons,List.length_nil]at h⊢;omega) ?_;refine OB.p ?_;refine OB.ld w.heap.size 2 [Value.int .i64 tk,aI tn,aI tl,bK tm,.slice q1 fO.length d1,.slice q2 tar.length d2,ah fM,ah bT] _ CQ.o Tryz.underlying46 Tryz.gB ?_;refine OB.c #[.agg [Value.int .i64 tk,aI tn,aI tl,bK tm,.slice q1 fO.length d1,.slice q2 tar.length d2,ah fM,ah bT].toArray] Tryz.func56 (fun X hX=>Ud _ X D (gG.step (ST0.o.trans hX) (fun _ _ h=>h) _ _ Bq.o) (by have h:=HB.o;simp only[List.length_append,List.length_cons,List.length_nil]at h⊢;omega)) ?_;refine OB.app 19 22 (by have h:=HB.o;simp only[List.length_append,List.length_cons,List.length_nil]at h⊢;omega) ?_;refine OB.mv 23 ?_;exact OB.nil
 intro V1 X1 f1 hX1 hf1;have Dq:(aH _).r _ X1 _:=hf1 7 kr;simp only[dm,Act.put,List.setIfInBounds_toArray,List.set_cons_zero,List.set_cons_succ,Nat.zero_add];clear c2 c11;have c2:=bJ.o X1 hX1 2 _ rfl;rw[Nat.zero_add]at c2;have c11:=bJ.o X1 hX1 11 _ rfl;rw[Nat.zero_add]at c11;go_upto_region 8 with fail
 refine au W [.r [4] (aH ([⟨#[108,101,116]⟩,nm]++[⟨#[58]⟩]++gu (.mk tk tn tl tm fO tar fM bT))),.r [] (aH [⟨#[59]⟩]),.r [0,1] (aH (([⟨#[108,101,116]⟩,nm]++[⟨#[58]⟩]++gu (.mk tk tn tl tm fO tar fM bT))++[⟨#[59]⟩])),.r [2] (aH (([⟨#[108,101,116]⟩,nm]++[⟨#[58]⟩]++gu (.mk tk tn tl tm fO tar fM bT))++[⟨#[59]⟩])),.r [] (Kp (aH ([⟨#[108,101,116]⟩,nm]++[⟨#[58]⟩]++gu (.mk tk tn tl tm fO tar fM bT))) (V1 7))] kr hX1 (jf rfl rfl Dq (fun _ h=>h.1)) ?_ kr ?_
 ·refine OB.mi 3 ?_;refine OB.bs [⟨#[59]⟩] 1 ?_;refine OB.app 35 36 (by have h:=HB.o;simp only[List.length_append,List.length_cons,List.length_nil]at h⊢;omega) ?_;refine OB.mv 37 ?_;exact OB.nil
 intro V X f hX hf;have h4:(aH _).r _ X _:=hf 3 kr;simp only[dm,Act.put,List.setIfInBounds_toArray,List.set_cons_zero,List.set_cons_succ,Nat.zero_add];go_wp2_with fail;go_ret;exact⟨_,rfl,ST0.o.trans hX,(aH _).ok.mono (fun q _ h=>Nat.le_trans hsz h.1) h4⟩
theorem VI {nm tn tl:ByteArray} {fM bT:Int} {tm ot:Bool} {fO:List ByteArray} {tar:List Ty} {pl e:List Ex} {bo el:List St} {l c:Int} (Bz:∀y∈e,qA y) (he:e.length≤1000000) (hx0:0<e.length):KN (.mk 1 nm (.mk 0 tn tl tm fO tar fM bT) pl e bo el ot l c):=by
 intro cs w D hx hb;have h0:uY (.mk 1 nm (.mk 0 tn tl tm fO tar fM bT) pl e bo el ot l c)=[⟨#[108,101,116]⟩,nm]++[⟨#[61]⟩]++aF (e.map dM)++[⟨#[59]⟩]:=by rw[uY];show[⟨#[108,101,116]⟩,nm]++(if(0:Int)=0 then[]else[⟨#[58]⟩]++gu (.mk 0 tn tl tm fO tar fM bT))++(if e.length=0 then[]else[⟨#[61]⟩]++aF (dF e))++[⟨#[59]⟩]=_;rw[if_pos rfl,if_neg om,iY];simp only[List.append_assoc,List.append_nil]
 rw[h0]at hb⊢;clear h0;rw[jS]at hx;obtain⟨ct,vp,ve,vb,vl,xp,xe,xb,xl,rfl,-,hty,hp,oI,he0,hre,hb2,hrb,hl2,hrl⟩:=hx;have Bq:=ai hty;rw[gG]at hty;obtain⟨v1,v2,x2,rfl,-,-,-,hr1,-,hr2⟩:=hty;obtain⟨q1,d1,rfl⟩:=hr1.parts;obtain⟨q2,d2,rfl⟩:=hr2.parts;obtain⟨ap,cp,rfl⟩:=oI.parts;obtain⟨ae,ce,rfl⟩:=hre.parts;obtain⟨ab,cb,rfl⟩:=hrb.parts;obtain⟨ax,cx,rfl⟩:=hrl.parts;have HP:=ai hp;have KO:=ai oI;have HE:=ai he0;have kU:=ai hre;have HB2:=ai hb2;have jV:=ai hrb;have HL2:=ai hl2;have tY:=ai hrl;have HB:=ai hb;clear hr1 hr2 hp oI he0 hre hb2 hrb hl2 hrl hb;obtain⟨W,hW⟩:=bF (w.alloc (.cells #[Value.int .i64 1,aI nm,ah 0,aI tn,aI tl,bK tm,.slice q1 fO.length d1,.slice q2 tar.length d2,ah fM,ah bT,.slice ap pl.length cp,.slice ae e.length ce,.slice ab bo.length cb,.slice ax el.length cx,bK ot,ah l,ah c] 89));have ST0:Hid (Step Sf w W):=by rw[hW];exact bg.alloc _
 have bJ:Hid (∀X,Step Sf W X→∀(j:Nat) u,[Value.int .i64 1,aI nm,ah 0,aI tn,aI tl,bK tm,.slice q1 fO.length d1,.slice q2 tar.length d2,ah fM,ah bT,.slice ap pl.length cp,.slice ae e.length ce,.slice ab bo.length cb,.slice ax el.length cx,bK ot,ah l,ah c][j]?=some u→X.cell? ⟨w.heap.size,0+j,none⟩=some u):=by intro X hX j u hu;rw[hW]at hX;rw[Nat.zero_add];exact aj (hX.keep (aC _ _) (fun h=>h)) j u (by simpa using hu)
 have HW:=ai hW;have hsz:w.heap.size≤W.heap.size:=ST0.o.size;clear hW;go_enter Tryz.func57,Tryz.ntmps57;go_upto_region 1 with fail
 rw[←HW.o];have hbs:∀y∈e,(dM y).length≤100000000:=fun y hy=>Nat.le_trans (fU (ls:=e.map dM) (List.mem_map_of_mem hy)) (by have h:=HB.o;simp only[List.length_append,List.length_cons,List.length_nil]at h⊢;omega);have hlen:(0:Int)<e.length:=by omega
 clear hx0;have c0:=bJ.o W bg 0 _ rfl;rw[Nat.add_zero]at c0;have c2:=bJ.o W bg 2 _ rfl;rw[Nat.zero_add]at c2;have c11:=bJ.o W bg 11 _ rfl;rw[Nat.zero_add]at c11;go_upto_region 3 with fail
 refine au W [.p (.pointer (some ⟨w.heap.size,1,none⟩)),.p (.string nm),.r [] (aH [⟨#[108,101,116]⟩,nm]),.r [2] (aH [⟨#[108,101,116]⟩,nm])] kr bg (iR (Nat.le_refl _)) ?_ kr ?_
 ·refine OB.p ?_;refine OB.p ?_ (fun X hX=>by have c:=bJ.o X hX 1 _ rfl;rw[Nat.zero_add]at c;go_simp);refine OB.bs [⟨#[108,101,116]⟩,nm] 2 ?_;refine OB.mv 12 ?_;exact OB.nil
 intro V0 X0 f0 hX0 hf0;have qy:(aH _).r _ X0 _:=hf0 3 kr;simp only[dm,Act.put,List.setIfInBounds_toArray,List.set_cons_zero,List.set_cons_succ,Nat.zero_add];clear c2 c11;have c2:=bJ.o X0 hX0 2 _ rfl;rw[Nat.zero_add]at c2;have c11:=bJ.o X0 hX0 11 _ rfl;rw[Nat.zero_add]at c11;go_upto_region 7 with fail
 refine au W [.r [8] (aH [⟨#[108,101,116]⟩,nm]),.r [] (aH [⟨#[61]⟩]),.r [0,1] (aH ([⟨#[108,101,116]⟩,nm]++[⟨#[61]⟩])),.p (.pointer (some ⟨w.heap.size,11,none⟩)),.p (.slice ae e.length ce),.r [] (aH (aF (e.map dM))),.r [2,5] (aH (([⟨#[108,101,116]⟩,nm]++[⟨#[61]⟩])++(aF (e.map dM)))),.r [6] (aH (([⟨#[108,101,116]⟩,nm]++[⟨#[61]⟩])++(aF (e.map dM)))),.r [] (Kp (aH [⟨#[108,101,116]⟩,nm]) (V0 3))] kr hX0 (jf rfl rfl qy (fun _ h=>h.1)) ?_ kr ?_
 ·refine OB.mi 3 ?_;refine OB.bs [⟨#[61]⟩] 1 ?_;refine OB.app 28 29 (by have h:=HB.o;simp only[List.length_append,List.length_cons,List.length_nil]at h⊢;omega) ?_;refine OB.p ?_;refine OB.p ?_ (fun X hX=>by have c:=bJ.o X hX 11 _ rfl;rw[Nat.zero_add]at c;go_simp);refine OB.c #[.slice ae e.length ce] Tryz.func35 (fun X hX=>kJ e _ X D xe (kU.o.step (ST0.o.trans hX) (fun _ _ h=>h)) (bY.step (ST0.o.trans hX) (fun _ _ h=>h) _ _ HE.o) (Nat.le_trans he dc) Bz hbs (by have h:=HB.o;simp only[List.length_append,List.length_cons,List.length_nil]at h⊢;omega)) ?_;refine OB.app 30 33 (by have h:=HB.o;simp only[List.length_append,List.length_cons,List.length_nil]at h⊢;omega) ?_;refine OB.mv 34 ?_;exact OB.nil
 intro V1 X1 f1 hX1 hf1;have Dq:(aH _).r _ X1 _:=hf1 7 kr;simp only[dm,Act.put,List.setIfInBounds_toArray,List.set_cons_zero,List.set_cons_succ,Nat.zero_add];clear c2 c11;have c2:=bJ.o X1 hX1 2 _ rfl;rw[Nat.zero_add]at c2;have c11:=bJ.o X1 hX1 11 _ rfl;rw[Nat.zero_add]at c11;go_upto_region 8 with fail
 refine au W [.r [4] (aH ([⟨#[108,101,116]⟩,nm]++[⟨#[61]⟩]++aF (e.map dM))),.r [] (aH [⟨#[59]⟩]),.r [0,1] (aH (([⟨#[108,101,116]⟩,nm]++[⟨#[61]⟩]++aF (e.map dM))++[⟨#[59]⟩])),.r [2] (aH (([⟨#[108,101,116]⟩,nm]++[⟨#[61]⟩]++aF (e.map dM))++[⟨#[59]⟩])),.r [] (Kp (aH ([⟨#[108,101,116]⟩,nm]++[⟨#[61]⟩]++aF (e.map dM))) (V1 7))] kr hX1 (jf rfl rfl Dq (fun _ h=>h.1)) ?_ kr ?_
 ·refine OB.mi 3 ?_;refine OB.bs [⟨#[59]⟩] 1 ?_;refine OB.app 35 36 (by have h:=HB.o;simp only[List.length_append,List.length_cons,List.length_nil]at h⊢;omega) ?_;refine OB.mv 37 ?_;exact OB.nil
 intro V X f hX hf;have h4:(aH _).r _ X _:=hf 3 kr;simp only[dm,Act.put,List.setIfInBounds_toArray,List.set_cons_zero,List.set_cons_succ,Nat.zero_add];go_wp2_with fail;go_ret;exact⟨_,rfl,ST0.o.trans hX,(aH _).ok.mono (fun q _ h=>Nat.le_trans hsz h.1) h4⟩
theorem VJ {nm tn tl:ByteArray} {fM bT:Int} {tm ot:Bool} {fO:List ByteArray} {tar:List Ty} {pl e:List Ex} {bo el:List St} {l c:Int} (hx0:e=[]):KN (.mk 1 nm (.mk 0 tn tl tm fO tar fM bT) pl e bo el ot l c):=by
 intro cs w D hx hb;have h0:uY (.mk 1 nm (.mk 0 tn tl tm fO tar fM bT) pl e bo el ot l c)=[⟨#[108,101,116]⟩,nm]++[⟨#[59]⟩]:=by rw[uY];show[⟨#[108,101,116]⟩,nm]++(if(0:Int)=0 then[]else[⟨#[58]⟩]++gu (.mk 0 tn tl tm fO tar fM bT))++(if e.length=0 then[]else[⟨#[61]⟩]++aF (dF e))++[⟨#[59]⟩]=_;rw[if_pos rfl,if_pos (by rw[hx0];rfl)];rfl
 rw[h0]at hb⊢;clear h0;have HX0:=ai hx0;clear hx0;rw[jS]at hx;obtain⟨ct,vp,ve,vb,vl,xp,xe,xb,xl,rfl,-,hty,hp,oI,he0,hre,hb2,hrb,hl2,hrl⟩:=hx;have Bq:=ai hty;rw[gG]at hty;obtain⟨v1,v2,x2,rfl,-,-,-,hr1,-,hr2⟩:=hty;obtain⟨q1,d1,rfl⟩:=hr1.parts;obtain⟨q2,d2,rfl⟩:=hr2.parts;obtain⟨ap,cp,rfl⟩:=oI.parts;obtain⟨ae,ce,rfl⟩:=hre.parts;obtain⟨ab,cb,rfl⟩:=hrb.parts;obtain⟨ax,cx,rfl⟩:=hrl.parts;have HP:=ai hp;have KO:=ai oI;have HE:=ai he0;have kU:=ai hre;have HB2:=ai hb2;have jV:=ai hrb;have HL2:=ai hl2;have tY:=ai hrl;have HB:=ai hb;clear hr1 hr2 hp oI he0 hre hb2 hrb hl2 hrl hb;obtain⟨W,hW⟩:=bF (w.alloc (.cells #[Value.int .i64 1,aI nm,ah 0,aI tn,aI tl,bK tm,.slice q1 fO.length d1,.slice q2 tar.length d2,ah fM,ah bT,.slice ap pl.length cp,.slice ae e.length ce,.slice ab bo.length cb,.slice ax el.length cx,bK ot,ah l,ah c] 89));have ST0:Hid (Step Sf w W):=by rw[hW];exact bg.alloc _
 have bJ:Hid (∀X,Step Sf W X→∀(j:Nat) u,[Value.int .i64 1,aI nm,ah 0,aI tn,aI tl,bK tm,.slice q1 fO.length d1,.slice q2 tar.length d2,ah fM,ah bT,.slice ap pl.length cp,.slice ae e.length ce,.slice ab bo.length cb,.slice ax el.length cx,bK ot,ah l,ah c][j]?=some u→X.cell? ⟨w.heap.size,0+j,none⟩=some u):=by intro X hX j u hu;rw[hW]at hX;rw[Nat.zero_add];exact aj (hX.keep (aC _ _) (fun h=>h)) j u (by simpa using hu)
 have HW:=ai hW;have hsz:w.heap.size≤W.heap.size:=ST0.o.size;clear hW;go_enter Tryz.func57,Tryz.ntmps57;go_upto_region 1 with fail
 rw[←HW.o];have hlen2:¬(0:Int)<e.length:=by rw[HX0.o];decide
 have c0:=bJ.o W bg 0 _ rfl;rw[Nat.add_zero]at c0;have c2:=bJ.o W bg 2 _ rfl;rw[Nat.zero_add]at c2;have c11:=bJ.o W bg 11 _ rfl;rw[Nat.zero_add]at c11;go_upto_region 3 with fail
 refine au W [.p (.pointer (some ⟨w.heap.size,1,none⟩)),.p (.string nm),.r [] (aH [⟨#[108,101,116]⟩,nm]),.r [2] (aH [⟨#[108,101,116]⟩,nm])] kr bg (iR (Nat.le_refl _)) ?_ kr ?_
 ·refine OB.p ?_;refine OB.p ?_ (fun X hX=>by have c:=bJ.o X hX 1 _ rfl;rw[Nat.zero_add]at c;go_simp);refine OB.bs [⟨#[108,101,116]⟩,nm] 2 ?_;refine OB.mv 12 ?_;exact OB.nil
 intro V0 X0 f0 hX0 hf0;have qy:(aH _).r _ X0 _:=hf0 3 kr;simp only[dm,Act.put,List.setIfInBounds_toArray,List.set_cons_zero,List.set_cons_succ,Nat.zero_add];clear c2 c11;have c2:=bJ.o X0 hX0 2 _ rfl;rw[Nat.zero_add]at c2;have c11:=bJ.o X0 hX0 11 _ rfl;rw[Nat.zero_add]at c11;go_upto_region 8 with fail
 refine au W [.r [4] (aH [⟨#[108,101,116]⟩,nm]),.r [] (aH [⟨#[59]⟩]),.r [0,1] (aH ([⟨#[108,101,116]⟩,nm]++[⟨#[59]⟩])),.r [2] (aH ([⟨#[108,101,116]⟩,nm]++[⟨#[59]⟩])),.r [] (Kp (aH [⟨#[108,101,116]⟩,nm]) (V0 3))] kr hX0 (jf rfl rfl qy (fun _ h=>h.1)) ?_ kr ?_
 ·refine OB.mi 3 ?_;refine OB.bs [⟨#[59]⟩] 1 ?_;refine OB.app 35 36 (by have h:=HB.o;simp only[List.length_append,List.length_cons,List.length_nil]at h⊢;omega) ?_;refine OB.mv 37 ?_;exact OB.nil
 intro V X f hX hf;have h4:(aH _).r _ X _:=hf 3 kr;simp only[dm,Act.put,List.setIfInBounds_toArray,List.set_cons_zero,List.set_cons_succ,Nat.zero_add];go_wp2_with fail;go_ret;exact⟨_,rfl,ST0.o.trans hX,(aH _).ok.mono (fun q _ h=>Nat.le_trans hsz h.1) h4⟩
theorem stm_2 {nm tn tl:ByteArray} {tk fM bT:Int} {tm ot:Bool} {fO:List ByteArray} {tar:List Ty} {pl e:List Ex} {bo el:List St} {l c:Int} (ihp:∀y∈pl,qA y) (hpl:pl.length≤1000000) (Bz:∀y∈e,qA y) (he:e.length≤1000000):KN (.mk 2 nm (.mk tk tn tl tm fO tar fM bT) pl e bo el ot l c):=by
 intro cs w D hx hb;have h0:uY (.mk 2 nm (.mk tk tn tl tm fO tar fM bT) pl e bo el ot l c)=aF (pl.map dM)++[⟨#[61]⟩]++aF (e.map dM)++[⟨#[59]⟩]:=by rw[uY,iY,iY];rfl
 rw[h0]at hb⊢;clear h0;rw[jS]at hx;obtain⟨ct,vp,ve,vb,vl,xp,xe,xb,xl,rfl,-,hty,hp,oI,he0,hre,hb2,hrb,hl2,hrl⟩:=hx;have Bq:=ai hty;rw[gG]at hty;obtain⟨v1,v2,x2,rfl,-,-,-,hr1,-,hr2⟩:=hty;obtain⟨q1,d1,rfl⟩:=hr1.parts;obtain⟨q2,d2,rfl⟩:=hr2.parts;obtain⟨ap,cp,rfl⟩:=oI.parts;obtain⟨ae,ce,rfl⟩:=hre.parts;obtain⟨ab,cb,rfl⟩:=hrb.parts;obtain⟨ax,cx,rfl⟩:=hrl.parts;have HP:=ai hp;have KO:=ai oI;have HE:=ai he0;have kU:=ai hre;have HB2:=ai hb2;have jV:=ai hrb;have HL2:=ai hl2;have tY:=ai hrl;have HB:=ai hb;clear hr1 hr2 hp oI he0 hre hb2 hrb hl2 hrl hb;obtain⟨W,hW⟩:=bF (w.alloc (.cells #[Value.int .i64 2,aI nm,ah tk,aI tn,aI tl,bK tm,.slice q1 fO.length d1,.slice q2 tar.length d2,ah fM,ah bT,.slice ap pl.length cp,.slice ae e.length ce,.slice ab bo.length cb,.slice ax el.length cx,bK ot,ah l,ah c] 89));have ST0:Hid (Step Sf w W):=by rw[hW];exact bg.alloc _
 have bJ:Hid (∀X,Step Sf W X→∀(j:Nat) u,[Value.int .i64 2,aI nm,ah tk,aI tn,aI tl,bK tm,.slice q1 fO.length d1,.slice q2 tar.length d2,ah fM,ah bT,.slice ap pl.length cp,.slice ae e.length ce,.slice ab bo.length cb,.slice ax el.length cx,bK ot,ah l,ah c][j]?=some u→X.cell? ⟨w.heap.size,0+j,none⟩=some u):=by intro X hX j u hu;rw[hW]at hX;rw[Nat.zero_add];exact aj (hX.keep (aC _ _) (fun h=>h)) j u (by simpa using hu)
 have HW:=ai hW;have hsz:w.heap.size≤W.heap.size:=ST0.o.size;clear hW;go_enter Tryz.func57,Tryz.ntmps57;go_upto_region 1 with fail
 rw[←HW.o];have hbs:∀y∈e,(dM y).length≤100000000:=fun y hy=>Nat.le_trans (fU (ls:=e.map dM) (List.mem_map_of_mem hy)) (by have h:=HB.o;simp only[List.length_append,List.length_cons,List.length_nil]at h⊢;omega);have hbp:∀y∈pl,(dM y).length≤100000000:=fun y hy=>Nat.le_trans (fU (ls:=pl.map dM) (List.mem_map_of_mem hy)) (by have h:=HB.o;simp only[List.length_append,List.length_cons,List.length_nil]at h⊢;omega);have c0:=bJ.o W bg 0 _ rfl;rw[Nat.add_zero]at c0;go_upto_region 10 with fail
 refine au W [.p (.pointer (some ⟨w.heap.size,10,none⟩)),.p (.slice ap pl.length cp),.r [] (aH (aF (pl.map dM))),.r [] (aH [⟨#[61]⟩]),.r [2,3] (aH ((aF (pl.map dM))++[⟨#[61]⟩])),.r [4] (aH ((aF (pl.map dM))++[⟨#[61]⟩]))] kr bg (iR (Nat.le_refl _)) ?_ kr ?_
 ·refine OB.p ?_;refine OB.p ?_ (fun X hX=>by have c:=bJ.o X hX 10 _ rfl;rw[Nat.zero_add]at c;go_simp);refine OB.c #[.slice ap pl.length cp] Tryz.func35 (fun X hX=>kJ pl _ X D xp (KO.o.step (ST0.o.trans hX) (fun _ _ h=>h)) (bY.step (ST0.o.trans hX) (fun _ _ h=>h) _ _ HP.o) (Nat.le_trans hpl dc) ihp hbp (by have h:=HB.o;simp only[List.length_append,List.length_cons,List.length_nil]at h⊢;omega)) ?_;refine OB.bs [⟨#[61]⟩] 1 ?_;refine OB.app 42 43 (by have h:=HB.o;simp only[List.length_append,List.length_cons,List.length_nil]at h⊢;omega) ?_;refine OB.mv 44 ?_;exact OB.nil
 intro V0 X0 f0 hX0 hf0;have qy:(aH _).r _ X0 _:=hf0 5 kr;simp only[dm,Act.put,List.setIfInBounds_toArray,List.set_cons_zero,List.set_cons_succ,Nat.zero_add];go_upto_region 11 with fail
 refine au W [.r [8] (aH (aF (pl.map dM)++[⟨#[61]⟩])),.p (.pointer (some ⟨w.heap.size,11,none⟩)),.p (.slice ae e.length ce),.r [] (aH (aF (e.map dM))),.r [0,3] (aH ((aF (pl.map dM)++[⟨#[61]⟩])++(aF (e.map dM)))),.r [] (aH [⟨#[59]⟩]),.r [4,5] (aH (((aF (pl.map dM)++[⟨#[61]⟩])++(aF (e.map dM)))++[⟨#[59]⟩])),.r [6] (aH (((aF (pl.map dM)++[⟨#[61]⟩])++(aF (e.map dM)))++[⟨#[59]⟩])),.r [] (Kp (aH (aF (pl.map dM)++[⟨#[61]⟩])) (V0 5))] kr hX0 (jf rfl rfl qy (fun _ h=>h.1)) ?_ kr ?_
 ·refine OB.mi 4 ?_;refine OB.p ?_;refine OB.p ?_ (fun X hX=>by have c:=bJ.o X hX 11 _ rfl;rw[Nat.zero_add]at c;go_simp);refine OB.c #[.slice ae e.length ce] Tryz.func35 (fun X hX=>kJ e _ X D xe (kU.o.step (ST0.o.trans hX) (fun _ _ h=>h)) (bY.step (ST0.o.trans hX) (fun _ _ h=>h) _ _ HE.o) (Nat.le_trans he dc) Bz hbs (by have h:=HB.o;simp only[List.length_append,List.length_cons,List.length_nil]at h⊢;omega)) ?_;refine OB.app 45 48 (by have h:=HB.o;simp only[List.length_append,List.length_cons,List.length_nil]at h⊢;omega) ?_;refine OB.bs [⟨#[59]⟩] 1 ?_;refine OB.app 49 50 (by have h:=HB.o;simp only[List.length_append,List.length_cons,List.length_nil]at h⊢;omega) ?_;refine OB.mv 51 ?_;exact OB.nil
 intro V X f hX hf;have h4:(aH _).r _ X _:=hf 7 kr;simp only[dm,Act.put,List.setIfInBounds_toArray,List.set_cons_zero,List.set_cons_succ,Nat.zero_add];go_wp2_with fail;go_ret;exact⟨_,rfl,ST0.o.trans hX,(aH _).ok.mono (fun q _ h=>Nat.le_trans hsz h.1) h4⟩
theorem stm_3 {nm tn tl:ByteArray} {tk fM bT:Int} {tm ot:Bool} {fO:List ByteArray} {tar:List Ty} {pl e:List Ex} {bo el:List St} {l c:Int} (Bz:∀y∈e,qA y) (he:e.length≤1000000):KN (.mk 3 nm (.mk tk tn tl tm fO tar fM bT) pl e bo el ot l c):=by
 intro cs w D hx hb;have h0:uY (.mk 3 nm (.mk tk tn tl tm fO tar fM bT) pl e bo el ot l c)=aF (e.map dM)++[⟨#[59]⟩]:=by rw[uY,iY];rfl
 rw[h0]at hb⊢;clear h0;rw[jS]at hx;obtain⟨ct,vp,ve,vb,vl,xp,xe,xb,xl,rfl,-,hty,hp,oI,he0,hre,hb2,hrb,hl2,hrl⟩:=hx;have Bq:=ai hty;rw[gG]at hty;obtain⟨v1,v2,x2,rfl,-,-,-,hr1,-,hr2⟩:=hty;obtain⟨q1,d1,rfl⟩:=hr1.parts;obtain⟨q2,d2,rfl⟩:=hr2.parts;obtain⟨ap,cp,rfl⟩:=oI.parts;obtain⟨ae,ce,rfl⟩:=hre.parts;obtain⟨ab,cb,rfl⟩:=hrb.parts;obtain⟨ax,cx,rfl⟩:=hrl.parts;have HP:=ai hp;have KO:=ai oI;have HE:=ai he0;have kU:=ai hre;have HB2:=ai hb2;have jV:=ai hrb;have HL2:=ai hl2;have tY:=ai hrl;have HB:=ai hb;clear hr1 hr2 hp oI he0 hre hb2 hrb hl2 hrl hb;obtain⟨W,hW⟩:=bF (w.alloc (.cells #[Value.int .i64 3,aI nm,ah tk,aI tn,aI tl,bK tm,.slice q1 fO.length d1,.slice q2 tar.length d2,ah fM,ah bT,.slice ap pl.length cp,.slice ae e.length ce,.slice ab bo.length cb,.slice ax el.length cx,bK ot,ah l,ah c] 89));have ST0:Hid (Step Sf w W):=by rw[hW];exact bg.alloc _
 have bJ:Hid (∀X,Step Sf W X→∀(j:Nat) u,[Value.int .i64 3,aI nm,ah tk,aI tn,aI tl,bK tm,.slice q1 fO.length d1,.slice q2 tar.length d2,ah fM,ah bT,.slice ap pl.length cp,.slice ae e.length ce,.slice ab bo.length cb,.slice ax el.length cx,bK ot,ah l,ah c][j]?=some u→X.cell? ⟨w.heap.size,0+j,none⟩=some u):=by intro X hX j u hu;rw[hW]at hX;rw[Nat.zero_add];exact aj (hX.keep (aC _ _) (fun h=>h)) j u (by simpa using hu)
 have HW:=ai hW;have hsz:w.heap.size≤W.heap.size:=ST0.o.size;clear hW;go_enter Tryz.func57,Tryz.ntmps57;go_upto_region 1 with fail
 rw[←HW.o];have hbs:∀y∈e,(dM y).length≤100000000:=fun y hy=>Nat.le_trans (fU (ls:=e.map dM) (List.mem_map_of_mem hy)) (by have h:=HB.o;simp only[List.length_append,List.length_cons,List.length_nil]at h⊢;omega);have c0:=bJ.o W bg 0 _ rfl;rw[Nat.add_zero]at c0;go_upto_region 13 with fail
 refine au W [.p (.pointer (some ⟨w.heap.size,11,none⟩)),.p (.slice ae e.length ce),.r [] (aH (aF (e.map dM))),.r [] (aH [⟨#[59]⟩]),.r [2,3] (aH ((aF (e.map dM))++[⟨#[59]⟩])),.r [4] (aH ((aF (e.map dM))++[⟨#[59]⟩]))] kr bg (iR (Nat.le_refl _)) ?_ kr ?_
 ·refine OB.p ?_;refine OB.p ?_ (fun X hX=>by have c:=bJ.o X hX 11 _ rfl;rw[Nat.zero_add]at c;go_simp);refine OB.c #[.slice ae e.length ce] Tryz.func35 (fun X hX=>kJ e _ X D xe (kU.o.step (ST0.o.trans hX) (fun _ _ h=>h)) (bY.step (ST0.o.trans hX) (fun _ _ h=>h) _ _ HE.o) (Nat.le_trans he dc) Bz hbs (by have h:=HB.o;simp only[List.length_append,List.length_cons,List.length_nil]at h⊢;omega)) ?_;refine OB.bs [⟨#[59]⟩] 1 ?_;refine OB.app 56 57 (by have h:=HB.o;simp only[List.length_append,List.length_cons,List.length_nil]at h⊢;omega) ?_;refine OB.mv 58 ?_;exact OB.nil
 intro V X f hX hf;have h4:(aH _).r _ X _:=hf 5 kr;simp only[dm,Act.put,List.setIfInBounds_toArray,List.set_cons_zero,List.set_cons_succ,Nat.zero_add];go_wp2_with fail;go_ret;exact⟨_,rfl,ST0.o.trans hX,(aH _).ok.mono (fun q _ h=>Nat.le_trans hsz h.1) h4⟩
theorem ZG {nm tn tl:ByteArray} {tk fM bT:Int} {tm:Bool} {fO:List ByteArray} {tar:List Ty} {pl e:List Ex} {bo el:List St} {l c:Int} (Bz:∀y∈e,qA y) (he:e.length≤1000000) (ihb:KH bo) (ihl:KH el):KN (.mk 4 nm (.mk tk tn tl tm fO tar fM bT) pl e bo el true l c):=by
 intro cs w D hx hb;have h0:uY (.mk 4 nm (.mk tk tn tl tm fO tar fM bT) pl e bo el true l c)=[⟨#[105,102]⟩]++aF (e.map dM)++([⟨#[123]⟩]++eX bo++[⟨#[125]⟩])++[⟨#[101,108,115,101]⟩]++([⟨#[123]⟩]++eX el++[⟨#[125]⟩]):=by rw[uY,iY];show _++_++_++([(⟨#[101,108,115,101]⟩:ByteArray)]++_)=_;simp only[List.append_assoc]
 rw[h0]at hb⊢;clear h0;rw[jS]at hx;obtain⟨ct,vp,ve,vb,vl,xp,xe,xb,xl,rfl,-,hty,hp,oI,he0,hre,hb2,hrb,hl2,hrl⟩:=hx;have Bq:=ai hty;rw[gG]at hty;obtain⟨v1,v2,x2,rfl,-,-,-,hr1,-,hr2⟩:=hty;obtain⟨q1,d1,rfl⟩:=hr1.parts;obtain⟨q2,d2,rfl⟩:=hr2.parts;obtain⟨ap,cp,rfl⟩:=oI.parts;obtain⟨ae,ce,rfl⟩:=hre.parts;obtain⟨ab,cb,rfl⟩:=hrb.parts;obtain⟨ax,cx,rfl⟩:=hrl.parts;have HP:=ai hp;have KO:=ai oI;have HE:=ai he0;have kU:=ai hre;have HB2:=ai hb2;have jV:=ai hrb;have HL2:=ai hl2;have tY:=ai hrl;have HB:=ai hb;clear hr1 hr2 hp oI he0 hre hb2 hrb hl2 hrl hb;obtain⟨W,hW⟩:=bF (w.alloc (.cells #[Value.int .i64 4,aI nm,ah tk,aI tn,aI tl,bK tm,.slice q1 fO.length d1,.slice q2 tar.length d2,ah fM,ah bT,.slice ap pl.length cp,.slice ae e.length ce,.slice ab bo.length cb,.slice ax el.length cx,bK true,ah l,ah c] 89));have ST0:Hid (Step Sf w W):=by rw[hW];exact bg.alloc _
 have bJ:Hid (∀X,Step Sf W X→∀(j:Nat) u,[Value.int .i64 4,aI nm,ah tk,aI tn,aI tl,bK tm,.slice q1 fO.length d1,.slice q2 tar.length d2,ah fM,ah bT,.slice ap pl.length cp,.slice ae e.length ce,.slice ab bo.length cb,.slice ax el.length cx,bK true,ah l,ah c][j]?=some u→X.cell? ⟨w.heap.size,0+j,none⟩=some u):=by intro X hX j u hu;rw[hW]at hX;rw[Nat.zero_add];exact aj (hX.keep (aC _ _) (fun h=>h)) j u (by simpa using hu)
 have HW:=ai hW;have hsz:w.heap.size≤W.heap.size:=ST0.o.size;clear hW;go_enter Tryz.func57,Tryz.ntmps57;go_upto_region 1 with fail
 rw[←HW.o];have hbs:∀y∈e,(dM y).length≤100000000:=fun y hy=>Nat.le_trans (fU (ls:=e.map dM) (List.mem_map_of_mem hy)) (by have h:=HB.o;simp only[List.length_append,List.length_cons,List.length_nil]at h⊢;omega);have c0:=bJ.o W bg 0 _ rfl;rw[Nat.add_zero]at c0;have c14:=bJ.o W bg 14 _ rfl;rw[Nat.zero_add]at c14;go_upto_region 15 with fail
 refine au W [.r [] (aH [⟨#[105,102]⟩]),.p (.pointer (some ⟨w.heap.size,11,none⟩)),.p (.slice ae e.length ce),.r [] (aH (aF (e.map dM))),.r [0,3] (aH ([⟨#[105,102]⟩]++(aF (e.map dM)))),.r [4] (aH ([⟨#[105,102]⟩]++(aF (e.map dM))))] kr bg (iR (Nat.le_refl _)) ?_ kr ?_
 ·refine OB.bs [⟨#[105,102]⟩] 1 ?_;refine OB.p ?_;refine OB.p ?_ (fun X hX=>by have c:=bJ.o X hX 11 _ rfl;rw[Nat.zero_add]at c;go_simp);refine OB.c #[.slice ae e.length ce] Tryz.func35 (fun X hX=>kJ e _ X D xe (kU.o.step (ST0.o.trans hX) (fun _ _ h=>h)) (bY.step (ST0.o.trans hX) (fun _ _ h=>h) _ _ HE.o) (Nat.le_trans he dc) Bz hbs (by have h:=HB.o;simp only[List.length_append,List.length_cons,List.length_nil]at h⊢;omega)) ?_;refine OB.app 61 64 (by have h:=HB.o;simp only[List.length_append,List.length_cons,List.length_nil]at h⊢;omega) ?_;refine OB.mv 65 ?_;exact OB.nil
 intro V0 X0 f0 hX0 hf0;have qy:(aH _).r _ X0 _:=hf0 5 kr;simp only[dm,Act.put,List.setIfInBounds_toArray,List.set_cons_zero,List.set_cons_succ,Nat.zero_add];clear c14;have c14:=bJ.o X0 hX0 14 _ rfl;rw[Nat.zero_add]at c14;go_upto_region 16 with fail
 refine au W [.r [6] (aH ([⟨#[105,102]⟩]++aF (e.map dM))),.p (.pointer (some ⟨w.heap.size,12,none⟩)),.p (.slice ab bo.length cb),.r [] (aH ([⟨#[123]⟩]++eX bo++[⟨#[125]⟩])),.r [0,3] (aH (([⟨#[105,102]⟩]++aF (e.map dM))++([⟨#[123]⟩]++eX bo++[⟨#[125]⟩]))),.r [4] (aH (([⟨#[105,102]⟩]++aF (e.map dM))++([⟨#[123]⟩]++eX bo++[⟨#[125]⟩]))),.r [] (Kp (aH ([⟨#[105,102]⟩]++aF (e.map dM))) (V0 5))] kr hX0 (jf rfl rfl qy (fun _ h=>h.1)) ?_ kr ?_
 ·refine OB.mi 5 ?_;refine OB.p ?_;refine OB.p ?_ (fun X hX=>by have c:=bJ.o X hX 12 _ rfl;rw[Nat.zero_add]at c;go_simp);refine OB.c #[.slice ab bo.length cb] Tryz.func29 (fun X hX=>ihb _ X D xb (jV.o.step (ST0.o.trans hX) (fun _ _ h=>h)) (eP.step (ST0.o.trans hX) (fun _ _ h=>h) _ _ HB2.o) (by have h:=HB.o;simp only[List.length_append,List.length_cons,List.length_nil]at h⊢;omega)) ?_;refine OB.app 66 69 (by have h:=HB.o;simp only[List.length_append,List.length_cons,List.length_nil]at h⊢;omega) ?_;refine OB.mv 70 ?_;exact OB.nil
 intro V1 X1 f1 hX1 hf1;have Dq:(aH _).r _ X1 _:=hf1 5 kr;simp only[dm,Act.put,List.setIfInBounds_toArray,List.set_cons_zero,List.set_cons_succ,Nat.zero_add];clear c14;have c14:=bJ.o X1 hX1 14 _ rfl;rw[Nat.zero_add]at c14;go_upto_region 18 with fail
 refine au W [.r [8] (aH ([⟨#[105,102]⟩]++aF (e.map dM)++([⟨#[123]⟩]++eX bo++[⟨#[125]⟩]))),.r [] (aH [⟨#[101,108,115,101]⟩]),.r [0,1] (aH (([⟨#[105,102]⟩]++aF (e.map dM)++([⟨#[123]⟩]++eX bo++[⟨#[125]⟩]))++[⟨#[101,108,115,101]⟩])),.p (.pointer (some ⟨w.heap.size,13,none⟩)),.p (.slice ax el.length cx),.r [] (aH ([⟨#[123]⟩]++eX el++[⟨#[125]⟩])),.r [2,5] (aH ((([⟨#[105,102]⟩]++aF (e.map dM)++([⟨#[123]⟩]++eX bo++[⟨#[125]⟩]))++[⟨#[101,108,115,101]⟩])++([⟨#[123]⟩]++eX el++[⟨#[125]⟩]))),.r [6] (aH ((([⟨#[105,102]⟩]++aF (e.map dM)++([⟨#[123]⟩]++eX bo++[⟨#[125]⟩]))++[⟨#[101,108,115,101]⟩])++([⟨#[123]⟩]++eX el++[⟨#[125]⟩]))),.r [] (Kp (aH ([⟨#[105,102]⟩]++aF (e.map dM)++([⟨#[123]⟩]++eX bo++[⟨#[125]⟩]))) (V1 5))] kr hX1 (jf rfl rfl Dq (fun _ h=>h.1)) ?_ kr ?_
 ·refine OB.mi 5 ?_;refine OB.bs [⟨#[101,108,115,101]⟩] 1 ?_;refine OB.app 73 74 (by have h:=HB.o;simp only[List.length_append,List.length_cons,List.length_nil]at h⊢;omega) ?_;refine OB.p ?_;refine OB.p ?_ (fun X hX=>by have c:=bJ.o X hX 13 _ rfl;rw[Nat.zero_add]at c;go_simp);refine OB.c #[.slice ax el.length cx] Tryz.func29 (fun X hX=>ihl _ X D xl (tY.o.step (ST0.o.trans hX) (fun _ _ h=>h)) (eP.step (ST0.o.trans hX) (fun _ _ h=>h) _ _ HL2.o) (by have h:=HB.o;simp only[List.length_append,List.length_cons,List.length_nil]at h⊢;omega)) ?_;refine OB.app 75 78 (by have h:=HB.o;simp only[List.length_append,List.length_cons,List.length_nil]at h⊢;omega) ?_;refine OB.mv 79 ?_;exact OB.nil
 intro V X f hX hf;have h4:(aH _).r _ X _:=hf 7 kr;simp only[dm,Act.put,List.setIfInBounds_toArray,List.set_cons_zero,List.set_cons_succ,Nat.zero_add];go_wp2_with fail;go_ret;exact⟨_,rfl,ST0.o.trans hX,(aH _).ok.mono (fun q _ h=>Nat.le_trans hsz h.1) h4⟩
theorem ZH {nm tn tl:ByteArray} {tk fM bT:Int} {tm:Bool} {fO:List ByteArray} {tar:List Ty} {pl e:List Ex} {bo el:List St} {l c:Int} (Bz:∀y∈e,qA y) (he:e.length≤1000000) (ihb:KH bo):KN (.mk 4 nm (.mk tk tn tl tm fO tar fM bT) pl e bo el false l c):=by
 intro cs w D hx hb;have h0:uY (.mk 4 nm (.mk tk tn tl tm fO tar fM bT) pl e bo el false l c)=[⟨#[105,102]⟩]++aF (e.map dM)++([⟨#[123]⟩]++eX bo++[⟨#[125]⟩]):=by rw[uY,iY];exact List.append_nil _
 rw[h0]at hb⊢;clear h0;rw[jS]at hx;obtain⟨ct,vp,ve,vb,vl,xp,xe,xb,xl,rfl,-,hty,hp,oI,he0,hre,hb2,hrb,hl2,hrl⟩:=hx;have Bq:=ai hty;rw[gG]at hty;obtain⟨v1,v2,x2,rfl,-,-,-,hr1,-,hr2⟩:=hty;obtain⟨q1,d1,rfl⟩:=hr1.parts;obtain⟨q2,d2,rfl⟩:=hr2.parts;obtain⟨ap,cp,rfl⟩:=oI.parts;obtain⟨ae,ce,rfl⟩:=hre.parts;obtain⟨ab,cb,rfl⟩:=hrb.parts;obtain⟨ax,cx,rfl⟩:=hrl.parts;have HP:=ai hp;have KO:=ai oI;have HE:=ai he0;have kU:=ai hre;have HB2:=ai hb2;have jV:=ai hrb;have HL2:=ai hl2;have tY:=ai hrl;have HB:=ai hb;clear hr1 hr2 hp oI he0 hre hb2 hrb hl2 hrl hb;obtain⟨W,hW⟩:=bF (w.alloc (.cells #[Value.int .i64 4,aI nm,ah tk,aI tn,aI tl,bK tm,.slice q1 fO.length d1,.slice q2 tar.length d2,ah fM,ah bT,.slice ap pl.length cp,.slice ae e.length ce,.slice ab bo.length cb,.slice ax el.length cx,aW,ah l,ah c] 89));have ST0:Hid (Step Sf w W):=by rw[hW];exact bg.alloc _
 have bJ:Hid (∀X,Step Sf W X→∀(j:Nat) u,[Value.int .i64 4,aI nm,ah tk,aI tn,aI tl,bK tm,.slice q1 fO.length d1,.slice q2 tar.length d2,ah fM,ah bT,.slice ap pl.length cp,.slice ae e.length ce,.slice ab bo.length cb,.slice ax el.length cx,aW,ah l,ah c][j]?=some u→X.cell? ⟨w.heap.size,0+j,none⟩=some u):=by intro X hX j u hu;rw[hW]at hX;rw[Nat.zero_add];exact aj (hX.keep (aC _ _) (fun h=>h)) j u (by simpa using hu)
 have HW:=ai hW;have hsz:w.heap.size≤W.heap.size:=ST0.o.size;clear hW;go_enter Tryz.func57,Tryz.ntmps57;go_upto_region 1 with fail
 rw[←HW.o];have hbs:∀y∈e,(dM y).length≤100000000:=fun y hy=>Nat.le_trans (fU (ls:=e.map dM) (List.mem_map_of_mem hy)) (by have h:=HB.o;simp only[List.length_append,List.length_cons,List.length_nil]at h⊢;omega);have c0:=bJ.o W bg 0 _ rfl;rw[Nat.add_zero]at c0;have c14:=bJ.o W bg 14 _ rfl;rw[Nat.zero_add]at c14;go_upto_region 15 with fail
 refine au W [.r [] (aH [⟨#[105,102]⟩]),.p (.pointer (some ⟨w.heap.size,11,none⟩)),.p (.slice ae e.length ce),.r [] (aH (aF (e.map dM))),.r [0,3] (aH ([⟨#[105,102]⟩]++(aF (e.map dM)))),.r [4] (aH ([⟨#[105,102]⟩]++(aF (e.map dM))))] kr bg (iR (Nat.le_refl _)) ?_ kr ?_
 ·refine OB.bs [⟨#[105,102]⟩] 1 ?_;refine OB.p ?_;refine OB.p ?_ (fun X hX=>by have c:=bJ.o X hX 11 _ rfl;rw[Nat.zero_add]at c;go_simp);refine OB.c #[.slice ae e.length ce] Tryz.func35 (fun X hX=>kJ e _ X D xe (kU.o.step (ST0.o.trans hX) (fun _ _ h=>h)) (bY.step (ST0.o.trans hX) (fun _ _ h=>h) _ _ HE.o) (Nat.le_trans he dc) Bz hbs (by have h:=HB.o;simp only[List.length_append,List.length_cons,List.length_nil]at h⊢;omega)) ?_;refine OB.app 61 64 (by have h:=HB.o;simp only[List.length_append,List.length_cons,List.length_nil]at h⊢;omega) ?_;refine OB.mv 65 ?_;exact OB.nil
 intro V0 X0 f0 hX0 hf0;have qy:(aH _).r _ X0 _:=hf0 5 kr;simp only[dm,Act.put,List.setIfInBounds_toArray,List.set_cons_zero,List.set_cons_succ,Nat.zero_add];clear c14;have c14:=bJ.o X0 hX0 14 _ rfl;rw[Nat.zero_add]at c14;go_upto_region 16 with fail
 refine au W [.r [6] (aH ([⟨#[105,102]⟩]++aF (e.map dM))),.p (.pointer (some ⟨w.heap.size,12,none⟩)),.p (.slice ab bo.length cb),.r [] (aH ([⟨#[123]⟩]++eX bo++[⟨#[125]⟩])),.r [0,3] (aH (([⟨#[105,102]⟩]++aF (e.map dM))++([⟨#[123]⟩]++eX bo++[⟨#[125]⟩]))),.r [4] (aH (([⟨#[105,102]⟩]++aF (e.map dM))++([⟨#[123]⟩]++eX bo++[⟨#[125]⟩]))),.r [] (Kp (aH ([⟨#[105,102]⟩]++aF (e.map dM))) (V0 5))] kr hX0 (jf rfl rfl qy (fun _ h=>h.1)) ?_ kr ?_
 ·refine OB.mi 5 ?_;refine OB.p ?_;refine OB.p ?_ (fun X hX=>by have c:=bJ.o X hX 12 _ rfl;rw[Nat.zero_add]at c;go_simp);refine OB.c #[.slice ab bo.length cb] Tryz.func29 (fun X hX=>ihb _ X D xb (jV.o.step (ST0.o.trans hX) (fun _ _ h=>h)) (eP.step (ST0.o.trans hX) (fun _ _ h=>h) _ _ HB2.o) (by have h:=HB.o;simp only[List.length_append,List.length_cons,List.length_nil]at h⊢;omega)) ?_;refine OB.app 66 69 (by have h:=HB.o;simp only[List.length_append,List.length_cons,List.length_nil]at h⊢;omega) ?_;refine OB.mv 70 ?_;exact OB.nil
 intro V X f hX hf;have h4:(aH _).r _ X _:=hf 5 kr;simp only[dm,Act.put,List.setIfInBounds_toArray,List.set_cons_zero,List.set_cons_succ,Nat.zero_add];clear c14;have c14:=bJ.o X hX 14 _ rfl;rw[Nat.zero_add]at c14;go_wp2_with fail;go_ret;exact⟨_,rfl,ST0.o.trans hX,(aH _).ok.mono (fun q _ h=>Nat.le_trans hsz h.1) h4⟩
theorem stm_5 {nm tn tl:ByteArray} {tk fM bT:Int} {tm ot:Bool} {fO:List ByteArray} {tar:List Ty} {pl e:List Ex} {bo el:List St} {l c:Int} (Bz:∀y∈e,qA y) (he:e.length≤1000000) (ihb:KH bo):KN (.mk 5 nm (.mk tk tn tl tm fO tar fM bT) pl e bo el ot l c):=by
 intro cs w D hx hb;have h0:uY (.mk 5 nm (.mk tk tn tl tm fO tar fM bT) pl e bo el ot l c)=[⟨#[119,104,105,108,101]⟩]++aF (e.map dM)++([⟨#[123]⟩]++eX bo++[⟨#[125]⟩]):=by rw[uY,iY];rfl
 rw[h0]at hb⊢;clear h0;rw[jS]at hx;obtain⟨ct,vp,ve,vb,vl,xp,xe,xb,xl,rfl,-,hty,hp,oI,he0,hre,hb2,hrb,hl2,hrl⟩:=hx;have Bq:=ai hty;rw[gG]at hty;obtain⟨v1,v2,x2,rfl,-,-,-,hr1,-,hr2⟩:=hty;obtain⟨q1,d1,rfl⟩:=hr1.parts;obtain⟨q2,d2,rfl⟩:=hr2.parts;obtain⟨ap,cp,rfl⟩:=oI.parts;obtain⟨ae,ce,rfl⟩:=hre.parts;obtain⟨ab,cb,rfl⟩:=hrb.parts;obtain⟨ax,cx,rfl⟩:=hrl.parts;have HP:=ai hp;have KO:=ai oI;have HE:=ai he0;have kU:=ai hre;have HB2:=ai hb2;have jV:=ai hrb;have HL2:=ai hl2;have tY:=ai hrl;have HB:=ai hb;clear hr1 hr2 hp oI he0 hre hb2 hrb hl2 hrl hb;obtain⟨W,hW⟩:=bF (w.alloc (.cells #[Value.int .i64 5,aI nm,ah tk,aI tn,aI tl,bK tm,.slice q1 fO.length d1,.slice q2 tar.length d2,ah fM,ah bT,.slice ap pl.length cp,.slice ae e.length ce,.slice ab bo.length cb,.slice ax el.length cx,bK ot,ah l,ah c] 89));have ST0:Hid (Step Sf w W):=by rw[hW];exact bg.alloc _
 have bJ:Hid (∀X,Step Sf W X→∀(j:Nat) u,[Value.int .i64 5,aI nm,ah tk,aI tn,aI tl,bK tm,.slice q1 fO.length d1,.slice q2 tar.length d2,ah fM,ah bT,.slice ap pl.length cp,.slice ae e.length ce,.slice ab bo.length cb,.slice ax el.length cx,bK ot,ah l,ah c][j]?=some u→X.cell? ⟨w.heap.size,0+j,none⟩=some u):=by intro X hX j u hu;rw[hW]at hX;rw[Nat.zero_add];exact aj (hX.keep (aC _ _) (fun h=>h)) j u (by simpa using hu)
 have HW:=ai hW;have hsz:w.heap.size≤W.heap.size:=ST0.o.size;clear hW;go_enter Tryz.func57,Tryz.ntmps57;go_upto_region 1 with fail
 rw[←HW.o];have hbs:∀y∈e,(dM y).length≤100000000:=fun y hy=>Nat.le_trans (fU (ls:=e.map dM) (List.mem_map_of_mem hy)) (by have h:=HB.o;simp only[List.length_append,List.length_cons,List.length_nil]at h⊢;omega);have c0:=bJ.o W bg 0 _ rfl;rw[Nat.add_zero]at c0;go_upto_region 21 with fail
 refine au W [.r [] (aH [⟨#[119,104,105,108,101]⟩]),.p (.pointer (some ⟨w.heap.size,11,none⟩)),.p (.slice ae e.length ce),.r [] (aH (aF (e.map dM))),.r [0,3] (aH ([⟨#[119,104,105,108,101]⟩]++(aF (e.map dM)))),.p (.pointer (some ⟨w.heap.size,12,none⟩)),.p (.slice ab bo.length cb),.r [] (aH ([⟨#[123]⟩]++eX bo++[⟨#[125]⟩])),.r [4,7] (aH (([⟨#[119,104,105,108,101]⟩]++(aF (e.map dM)))++([⟨#[123]⟩]++eX bo++[⟨#[125]⟩]))),.r [8] (aH (([⟨#[119,104,105,108,101]⟩]++(aF (e.map dM)))++([⟨#[123]⟩]++eX bo++[⟨#[125]⟩])))] kr bg (iR (Nat.le_refl _)) ?_ kr ?_
 ·refine OB.bs [⟨#[119,104,105,108,101]⟩] 1 ?_;refine OB.p ?_;refine OB.p ?_ (fun X hX=>by have c:=bJ.o X hX 11 _ rfl;rw[Nat.zero_add]at c;go_simp);refine OB.c #[.slice ae e.length ce] Tryz.func35 (fun X hX=>kJ e _ X D xe (kU.o.step (ST0.o.trans hX) (fun _ _ h=>h)) (bY.step (ST0.o.trans hX) (fun _ _ h=>h) _ _ HE.o) (Nat.le_trans he dc) Bz hbs (by have h:=HB.o;simp only[List.length_append,List.length_cons,List.length_nil]at h⊢;omega)) ?_;refine OB.app 83 86 (by have h:=HB.o;simp only[List.length_append,List.length_cons,List.length_nil]at h⊢;omega) ?_;refine OB.p ?_;refine OB.p ?_ (fun X hX=>by have c:=bJ.o X hX 12 _ rfl;rw[Nat.zero_add]at c;go_simp);refine OB.c #[.slice ab bo.length cb] Tryz.func29 (fun X hX=>ihb _ X D xb (jV.o.step (ST0.o.trans hX) (fun _ _ h=>h)) (eP.step (ST0.o.trans hX) (fun _ _ h=>h) _ _ HB2.o) (by have h:=HB.o;simp only[List.length_append,List.length_cons,List.length_nil]at h⊢;omega)) ?_;refine OB.app 87 90 (by have h:=HB.o;simp only[List.length_append,List.length_cons,List.length_nil]at h⊢;omega) ?_;refine OB.mv 91 ?_;exact OB.nil
 intro V X f hX hf;have h4:(aH _).r _ X _:=hf 9 kr;simp only[dm,Act.put,List.setIfInBounds_toArray,List.set_cons_zero,List.set_cons_succ,Nat.zero_add];go_wp2_with fail;go_ret;exact⟨_,rfl,ST0.o.trans hX,(aH _).ok.mono (fun q _ h=>Nat.le_trans hsz h.1) h4⟩
theorem stm_6 {nm tn tl:ByteArray} {tk fM bT:Int} {tm ot:Bool} {fO:List ByteArray} {tar:List Ty} {pl e:List Ex} {bo el:List St} {l c:Int} (Bz:∀y∈e,qA y) (he:e.length≤1000000):KN (.mk 6 nm (.mk tk tn tl tm fO tar fM bT) pl e bo el ot l c):=by
 intro cs w D hx hb;have h0:uY (.mk 6 nm (.mk tk tn tl tm fO tar fM bT) pl e bo el ot l c)=[⟨#[114,101,116,117,114,110]⟩]++aF (e.map dM)++[⟨#[59]⟩]:=by rw[uY,iY];rfl
 rw[h0]at hb⊢;clear h0;rw[jS]at hx;obtain⟨ct,vp,ve,vb,vl,xp,xe,xb,xl,rfl,-,hty,hp,oI,he0,hre,hb2,hrb,hl2,hrl⟩:=hx;have Bq:=ai hty;rw[gG]at hty;obtain⟨v1,v2,x2,rfl,-,-,-,hr1,-,hr2⟩:=hty;obtain⟨q1,d1,rfl⟩:=hr1.parts;obtain⟨q2,d2,rfl⟩:=hr2.parts;obtain⟨ap,cp,rfl⟩:=oI.parts;obtain⟨ae,ce,rfl⟩:=hre.parts;obtain⟨ab,cb,rfl⟩:=hrb.parts;obtain⟨ax,cx,rfl⟩:=hrl.parts;have HP:=ai hp;have KO:=ai oI;have HE:=ai he0;have kU:=ai hre;have HB2:=ai hb2;have jV:=ai hrb;have HL2:=ai hl2;have tY:=ai hrl;have HB:=ai hb;clear hr1 hr2 hp oI he0 hre hb2 hrb hl2 hrl hb;obtain⟨W,hW⟩:=bF (w.alloc (.cells #[Value.int .i64 6,aI nm,ah tk,aI tn,aI tl,bK tm,.slice q1 fO.length d1,.slice q2 tar.length d2,ah fM,ah bT,.slice ap pl.length cp,.slice ae e.length ce,.slice ab bo.length cb,.slice ax el.length cx,bK ot,ah l,ah c] 89));have ST0:Hid (Step Sf w W):=by rw[hW];exact bg.alloc _
 have bJ:Hid (∀X,Step Sf W X→∀(j:Nat) u,[Value.int .i64 6,aI nm,ah tk,aI tn,aI tl,bK tm,.slice q1 fO.length d1,.slice q2 tar.length d2,ah fM,ah bT,.slice ap pl.length cp,.slice ae e.length ce,.slice ab bo.length cb,.slice ax el.length cx,bK ot,ah l,ah c][j]?=some u→X.cell? ⟨w.heap.size,0+j,none⟩=some u):=by intro X hX j u hu;rw[hW]at hX;rw[Nat.zero_add];exact aj (hX.keep (aC _ _) (fun h=>h)) j u (by simpa using hu)
 have HW:=ai hW;have hsz:w.heap.size≤W.heap.size:=ST0.o.size;clear hW;go_enter Tryz.func57,Tryz.ntmps57;go_upto_region 1 with fail
 rw[←HW.o];have hbs:∀y∈e,(dM y).length≤100000000:=fun y hy=>Nat.le_trans (fU (ls:=e.map dM) (List.mem_map_of_mem hy)) (by have h:=HB.o;simp only[List.length_append,List.length_cons,List.length_nil]at h⊢;omega);have c0:=bJ.o W bg 0 _ rfl;rw[Nat.add_zero]at c0;go_upto_region 23 with fail
 refine au W [.p (.pointer (some ⟨w.heap.size,11,none⟩)),.p (.slice ae e.length ce),.r [] (aH (aF (e.map dM))),.r [2] (aH ([⟨#[114,101,116,117,114,110]⟩]++aF (e.map dM)++[⟨#[59]⟩])),.r [3] (aH ([⟨#[114,101,116,117,114,110]⟩]++aF (e.map dM)++[⟨#[59]⟩]))] kr bg (iR (Nat.le_refl _)) ?_ kr ?_
 ·refine OB.p ?_;refine OB.p ?_ (fun X hX=>by have c:=bJ.o X hX 11 _ rfl;rw[Nat.zero_add]at c;go_simp);refine OB.c #[.slice ae e.length ce] Tryz.func35 (fun X hX=>kJ e _ X D xe (kU.o.step (ST0.o.trans hX) (fun _ _ h=>h)) (bY.step (ST0.o.trans hX) (fun _ _ h=>h) _ _ HE.o) (Nat.le_trans he dc) Bz hbs (by have h:=HB.o;simp only[List.length_append,List.length_cons,List.length_nil]at h⊢;omega)) ?_;refine OB.cu (ok:=aH (aF (e.map dM))) 96 (fun v=> #[.string ⟨#[114,101,116,117,114,110]⟩,v,.string ⟨#[59]⟩]) Tryz.func26 (fun X v C hX hv=>gK _ _ _ v X C (aH.strs hv) (by have h:=HB.o;simp only[List.length_append,List.length_cons,List.length_nil]at h⊢;omega)) ?_;refine OB.mv 97 ?_;exact OB.nil
 intro V X f hX hf;have h4:(aH _).r _ X _:=hf 4 kr;simp only[dm,Act.put,List.setIfInBounds_toArray,List.set_cons_zero,List.set_cons_succ,Nat.zero_add];go_wp2_with fail;go_ret;exact⟨_,rfl,ST0.o.trans hX,(aH _).ok.mono (fun q _ h=>Nat.le_trans hsz h.1) h4⟩
theorem stm_7 {nm tn tl:ByteArray} {tk fM bT:Int} {tm ot:Bool} {fO:List ByteArray} {tar:List Ty} {pl e:List Ex} {bo el:List St} {l c:Int}:KN (.mk 7 nm (.mk tk tn tl tm fO tar fM bT) pl e bo el ot l c):=by
 intro cs w D hx hb;have h0:uY (.mk 7 nm (.mk tk tn tl tm fO tar fM bT) pl e bo el ot l c)=[⟨#[97,98,111,114,116]⟩,⟨#[59]⟩]:=by rw[uY];rfl
 rw[h0]at hb⊢;clear h0;rw[jS]at hx;obtain⟨ct,vp,ve,vb,vl,xp,xe,xb,xl,rfl,-,hty,hp,oI,he0,hre,hb2,hrb,hl2,hrl⟩:=hx;have Bq:=ai hty;rw[gG]at hty;obtain⟨v1,v2,x2,rfl,-,-,-,hr1,-,hr2⟩:=hty;obtain⟨q1,d1,rfl⟩:=hr1.parts;obtain⟨q2,d2,rfl⟩:=hr2.parts;obtain⟨ap,cp,rfl⟩:=oI.parts;obtain⟨ae,ce,rfl⟩:=hre.parts;obtain⟨ab,cb,rfl⟩:=hrb.parts;obtain⟨ax,cx,rfl⟩:=hrl.parts;have HP:=ai hp;have KO:=ai oI;have HE:=ai he0;have kU:=ai hre;have HB2:=ai hb2;have jV:=ai hrb;have HL2:=ai hl2;have tY:=ai hrl;have HB:=ai hb;clear hr1 hr2 hp oI he0 hre hb2 hrb hl2 hrl hb;obtain⟨W,hW⟩:=bF (w.alloc (.cells #[Value.int .i64 7,aI nm,ah tk,aI tn,aI tl,bK tm,.slice q1 fO.length d1,.slice q2 tar.length d2,ah fM,ah bT,.slice ap pl.length cp,.slice ae e.length ce,.slice ab bo.length cb,.slice ax el.length cx,bK ot,ah l,ah c] 89));have ST0:Hid (Step Sf w W):=by rw[hW];exact bg.alloc _
 have bJ:Hid (∀X,Step Sf W X→∀(j:Nat) u,[Value.int .i64 7,aI nm,ah tk,aI tn,aI tl,bK tm,.slice q1 fO.length d1,.slice q2 tar.length d2,ah fM,ah bT,.slice ap pl.length cp,.slice ae e.length ce,.slice ab bo.length cb,.slice ax el.length cx,bK ot,ah l,ah c][j]?=some u→X.cell? ⟨w.heap.size,0+j,none⟩=some u):=by intro X hX j u hu;rw[hW]at hX;rw[Nat.zero_add];exact aj (hX.keep (aC _ _) (fun h=>h)) j u (by simpa using hu)
 have HW:=ai hW;have hsz:w.heap.size≤W.heap.size:=ST0.o.size;clear hW;go_enter Tryz.func57,Tryz.ntmps57;go_upto_region 1 with fail
 rw[←HW.o];have c0:=bJ.o W bg 0 _ rfl;rw[Nat.add_zero]at c0;go_upto_region 25 with fail
 refine au W [.r [] (aH [⟨#[97,98,111,114,116]⟩,⟨#[59]⟩]),.r [0] (aH [⟨#[97,98,111,114,116]⟩,⟨#[59]⟩])] kr bg (iR (Nat.le_refl _)) ?_ kr ?_
 ·refine OB.bs [⟨#[97,98,111,114,116]⟩,⟨#[59]⟩] 2 ?_;refine OB.mv 100 ?_;exact OB.nil
 intro V X f hX hf;have h4:(aH _).r _ X _:=hf 1 kr;simp only[dm,Act.put,List.setIfInBounds_toArray,List.set_cons_zero,List.set_cons_succ,Nat.zero_add];go_wp2_with fail;go_ret;exact⟨_,rfl,ST0.o.trans hX,(aH _).ok.mono (fun q _ h=>Nat.le_trans hsz h.1) h4⟩
theorem stm_8 {nm tn tl:ByteArray} {tk fM bT:Int} {tm ot:Bool} {fO:List ByteArray} {tar:List Ty} {pl e:List Ex} {bo el:List St} {l c:Int} (ihb:KH bo):KN (.mk 8 nm (.mk tk tn tl tm fO tar fM bT) pl e bo el ot l c):=by
 intro cs w D hx hb;have h0:uY (.mk 8 nm (.mk tk tn tl tm fO tar fM bT) pl e bo el ot l c)=[⟨#[123]⟩]++eX bo++[⟨#[125]⟩]:=by rw[uY];rfl
 rw[h0]at hb⊢;clear h0;rw[jS]at hx;obtain⟨ct,vp,ve,vb,vl,xp,xe,xb,xl,rfl,-,hty,hp,oI,he0,hre,hb2,hrb,hl2,hrl⟩:=hx;have Bq:=ai hty;rw[gG]at hty;obtain⟨v1,v2,x2,rfl,-,-,-,hr1,-,hr2⟩:=hty;obtain⟨q1,d1,rfl⟩:=hr1.parts;obtain⟨q2,d2,rfl⟩:=hr2.parts;obtain⟨ap,cp,rfl⟩:=oI.parts;obtain⟨ae,ce,rfl⟩:=hre.parts;obtain⟨ab,cb,rfl⟩:=hrb.parts;obtain⟨ax,cx,rfl⟩:=hrl.parts;have HP:=ai hp;have KO:=ai oI;have HE:=ai he0;have kU:=ai hre;have HB2:=ai hb2;have jV:=ai hrb;have HL2:=ai hl2;have tY:=ai hrl;have HB:=ai hb;clear hr1 hr2 hp oI he0 hre hb2 hrb hl2 hrl hb;obtain⟨W,hW⟩:=bF (w.alloc (.cells #[Value.int .i64 8,aI nm,ah tk,aI tn,aI tl,bK tm,.slice q1 fO.length d1,.slice q2 tar.length d2,ah fM,ah bT,.slice ap pl.length cp,.slice ae e.length ce,.slice ab bo.length cb,.slice ax el.length cx,bK ot,ah l,ah c] 89));have ST0:Hid (Step Sf w W):=by rw[hW];exact bg.alloc _
 have bJ:Hid (∀X,Step Sf W X→∀(j:Nat) u,[Value.int .i64 8,aI nm,ah tk,aI tn,aI tl,bK tm,.slice q1 fO.length d1,.slice q2 tar.length d2,ah fM,ah bT,.slice ap pl.length cp,.slice ae e.length ce,.slice ab bo.length cb,.slice ax el.length cx,bK ot,ah l,ah c][j]?=some u→X.cell? ⟨w.heap.size,0+j,none⟩=some u):=by intro X hX j u hu;rw[hW]at hX;rw[Nat.zero_add];exact aj (hX.keep (aC _ _) (fun h=>h)) j u (by simpa using hu)
 have HW:=ai hW;have hsz:w.heap.size≤W.heap.size:=ST0.o.size;clear hW;go_enter Tryz.func57,Tryz.ntmps57;go_upto_region 1 with fail
 rw[←HW.o];have c0:=bJ.o W bg 0 _ rfl;rw[Nat.add_zero]at c0;go_upto_region 27 with fail
 refine au W [.p (.pointer (some ⟨w.heap.size,12,none⟩)),.p (.slice ab bo.length cb),.r [] (aH ([⟨#[123]⟩]++eX bo++[⟨#[125]⟩])),.r [2] (aH ([⟨#[123]⟩]++eX bo++[⟨#[125]⟩]))] kr bg (iR (Nat.le_refl _)) ?_ kr ?_
 ·refine OB.p ?_;refine OB.p ?_ (fun X hX=>by have c:=bJ.o X hX 12 _ rfl;rw[Nat.zero_add]at c;go_simp);refine OB.c #[.slice ab bo.length cb] Tryz.func29 (fun X hX=>ihb _ X D xb (jV.o.step (ST0.o.trans hX) (fun _ _ h=>h)) (eP.step (ST0.o.trans hX) (fun _ _ h=>h) _ _ HB2.o) (by have h:=HB.o;simp only[List.length_append,List.length_cons,List.length_nil]at h⊢;omega)) ?_;refine OB.mv 105 ?_;exact OB.nil
 intro V X f hX hf;have h4:(aH _).r _ X _:=hf 3 kr;simp only[dm,Act.put,List.setIfInBounds_toArray,List.set_cons_zero,List.set_cons_succ,Nat.zero_add];go_wp2_with fail;go_ret;exact⟨_,rfl,ST0.o.trans hX,(aH _).ok.mono (fun q _ h=>Nat.le_trans hsz h.1) h4⟩
theorem VK {l:List St} (ih:∀s∈l,KN s) (hl:l.length≤1000000):KH l:=by
 intro v w D xs hv hel hb;obtain⟨a,c,rfl,-,-,-,hr⟩:=hv;have HR:=ai hr;have Az:=ai hel;have HB:=ai hb;obtain⟨n,hn⟩:=bF l.length;have HN:=ai hn;rw[←hn]at hl⊢;clear hr hel hb hn;go_enter Tryz.func29,Tryz.ntmps29;go_wp2_with fail;go_loopg [3,4] n (fun gg s3 s4 wr=>∃(i:Nat) (C:Nat→Prop),s4=.int .i64 i∧i≤n∧n-i≤gg∧(aH (eX (l.take i))).r s3 wr C∧(∀q,C q→w.heap.size≤q)∧Step Sf w wr);case atStart=>exact⟨0,Sf,rfl,Nat.zero_le _,by omega,by rw[List.take_zero,eX];exact aH.nil _ _,(fun _ h=>h.elim),Step.refl _ _⟩
 case round=>
  obtain⟨i,C,rfl,hi,hg,hu,hC,hst⟩:=hrel;have HU:=ai hu;have HC:=ai hC;have HST:=ai hst;clear hu hC hst;by_cases hlt:i<n
  ·skip
   have hlt2:i<l.length:=by rw[←HN.o];exact hlt
   obtain⟨x,hx⟩:∃x,l[i]?=some x:=⟨l[i],List.getElem?_eq_getElem hlt2⟩
   have HX:Hid (eX (l.take (i+1))=eX (l.take i)++uY x):=by show _=_;rw[take_snoc hx,E5]
   obtain⟨g,o,rfl,h6,h7,h9⟩:=HR.o om
   obtain⟨cs,hat,hf⟩:=eP.cells Az.o hx h9
   have HF:Hid (∀X,Step Sf w X→∀(j:Nat) v,cs[j]?=some v→X.cell? ⟨g,o+i*17+j,none⟩=some v):=show∀X,_ from fun X hX j v h=>hX.cell (hf j v h) (fun h=>h)
   have hcx:=ih x (List.mem_of_getElem? hx)
   have hle:=VF l (i+1)
   have hbt:(eX (l.take i)++uY x).length≤100000000:=by
    rw[←HX.o]
    have h:=HB.o
    simp only[List.length_append,List.length_cons,List.length_nil]at h
    omega
   have hbx:(uY x).length≤100000000:=by rw[List.length_append]at hbt;omega
   have hba:(eX (l.take i)).length+(uY x).length≤1000000000:=by rw[List.length_append]at hbt;omega
   have HAT:=ai hat
   have hcl:(Tryz.prog.info? 89).map (·.size)=some cs.length:=by rw[hat.len];exact Tryz.eG
   clear h6 h7 h9 hx hf hat hle hbt
   go_upto_region 5 with fail
   refine au w [.r [8] (aH (eX (l.take i))),.p (.slice (some ⟨g,o,none⟩) n c),.p (.int .i64 i),.p (.pointer (some ⟨g,o+i*17,none⟩)),.p (.agg cs.toArray),.r [] (aH (uY x)),.r [0,5] (aH (eX (l.take (i+1)))),.r [6] (aH (eX (l.take (i+1)))),.r [] (Kp (aH (eX (l.take i))) (u3))] kr HST.o (jf rfl rfl HU.o HC.o) ?_ kr ?_
   ·
    refine OB.mi 3 ?_
    refine OB.p ?_
    refine OB.p ?_
    refine OB.p ?_
    refine OB.ld g (o+i*17) cs _ HF.o Tryz.underlying89 hcl ?_
    refine OB.c #[.agg cs.toArray] Tryz.func57 (fun X hX=>hcx cs X D (jS.step hX (fun _ _ h=>h) _ _ HAT.o) hbx) ?_
    refine OB.to (congrArg aH HX.o) ?_
    refine OB.app 11 16 hba ?_
    refine OB.mv 17 ?_
    exact OB.nil
   intro V X f hX hf
   have h4:(aH _).r _ X _:=hf 7 kr
   simp only[dm,Act.put,List.setIfInBounds_toArray,List.set_cons_zero,List.set_cons_succ,Nat.zero_add]
   go_wp2_with fail
   go_roundg (gk-1)
   case rel=>exact⟨i+1,_,by go_num,by omega,by omega,h4,(fun q h=>h.1),hX⟩
   case measure=>omega
  ·skip
   have hin:i=l.length:=by have h:=HN.o;omega
   have h:=HU.o
   rw[hin,List.take_length]at h
   have OC:=ai h
   clear h hin HU
   go_upto_region 6 with fail
   refine au w [.r [3] (aH (eX l)),.r [0] (aH ([⟨#[123]⟩]++eX l++[⟨#[125]⟩])),.r [1] (aH ([⟨#[123]⟩]++eX l++[⟨#[125]⟩])),.r [] (Kp (aH (eX l)) (u3))] kr HST.o (jf rfl rfl OC.o HC.o) ?_ kr ?_
   ·
    refine OB.mi 3 ?_
    refine OB.cu (ok:=aH (eX l)) 18 (fun v=> #[.string ⟨#[123]⟩,v,.string ⟨#[125]⟩]) Tryz.func26 (fun X v C hX hv=>gK _ _ _ v X C (aH.strs hv) (by have h:=HB.o;simp only[List.length_append,List.length_cons,List.length_nil]at h⊢;omega)) ?_
    refine OB.mv 19 ?_
    exact OB.nil
   intro V X f hX hf
   have h4:(aH _).r _ X _:=hf 2 kr
   simp only[dm,Act.put,List.setIfInBounds_toArray,List.set_cons_zero,List.set_cons_succ,Nat.zero_add]
   go_wp2_with fail
   go_ret
   exact⟨_,rfl,hX,(aH _).ok.mono (fun _ _ h=>h.1) h4⟩
end Go.Proofs.YtggjfinekcenpaaGreat
