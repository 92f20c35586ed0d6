import Derived.Test.YtggjfinekcenpaaGreatPkL
set_option maxRecDepth 100000
set_option maxHeartbeats 80000000
namespace Go.Proofs.YtggjfinekcenpaaGreat
open Go.RowKit
open Vt
theorem tC {s:ByteArray} (h:s.size=0):s=⟨#[]⟩:=by obtain⟨a⟩:=s;have h:a.size=0:=h;rw[Array.size_eq_zero_iff]at h;rw[h]
theorem OD (ls:List (List ByteArray)):(aF ls).length≤(bM ls).length:=by
 unfold bM;split
 ·rename_i h;rw[List.eq_nil_of_length_eq_zero h];decide
 ·simp only[List.length_append];omega
theorem typ_1 {nm lf:ByteArray} {mu:Bool} {ls:List ByteArray} {ar:List Ty} {l c:Int}:xI (.mk 1 nm lf mu ls ar l c):=by
 intro cs w D hx hb;have h0:gu (.mk 1 nm lf mu ls ar l c)=[⟨#[105,110,116]⟩]:=by rw[gu];rfl
 rw[h0]at hb⊢;clear h0;have MG:=ai hx;rw[gG]at hx;obtain⟨vl,va,xs,rfl,-,-,-,hrl,hel,hra⟩:=hx;obtain⟨al,cl,rfl⟩:=hrl.parts;obtain⟨aa,ca,rfl⟩:=hra.parts;have tY:=ai hrl;have Az:=ai hel;have kY:=ai hra;have HB:=ai hb;clear hrl hel hra hb;obtain⟨W,hW⟩:=bF (w.alloc (.cells #[Value.int .i64 1,aI nm,aI lf,bK mu,.slice al ls.length cl,.slice aa ar.length ca,ah l,ah c] 46));have ST0:Hid (Step Sf w W):=by rw[hW];exact bg.alloc _
 have bJ:Hid (∀X,Step Sf W X→∀(j:Nat) u,[Value.int .i64 1,aI nm,aI lf,bK mu,.slice al ls.length cl,.slice aa ar.length ca,ah l,ah c][j]?=some u→X.cell? ⟨w.heap.size,0+j,none⟩=some u):=by intro X hX j u hu;rw[hW]at hX;rw[Nat.zero_add];exact aj (hX.keep (aC _ _) (fun h=>h)) j u (by simpa using hu)
 have HW:=ai hW;have hsz:w.heap.size≤W.heap.size:=ST0.o.size;clear hW;go_enter Tryz.func56,Tryz.ntmps56;go_upto_region 1 with fail
 rw[←HW.o];have c0:=bJ.o W bg 0 _ rfl;rw[Nat.add_zero]at c0;go_upto_region 3 with fail
 refine au W [.r [] (aH [⟨#[105,110,116]⟩]),.r [0] (aH [⟨#[105,110,116]⟩])] kr bg (iR (Nat.le_refl _)) ?_ kr ?_
 ·refine OB.bs [⟨#[105,110,116]⟩] 1 ?_;refine OB.mv 9 ?_;exact OB.nil
 intro V X f hX hf;have h4:(aH _).r _ X _:=hf 1 kr;simp only[dm,Act.put,List.setIfInBounds_toArray,List.set_cons_zero,List.set_cons_succ,Nat.zero_add];go_wp2_with fail;go_ret;exact⟨_,rfl,ST0.o.trans hX,(aH _).ok.mono (fun q _ h=>Nat.le_trans hsz h.1) h4⟩
theorem typ_2 {nm lf:ByteArray} {mu:Bool} {ls:List ByteArray} {ar:List Ty} {l c:Int}:xI (.mk 2 nm lf mu ls ar l c):=by
 intro cs w D hx hb;have h0:gu (.mk 2 nm lf mu ls ar l c)=[⟨#[98,111,111,108]⟩]:=by rw[gu];rfl
 rw[h0]at hb⊢;clear h0;have MG:=ai hx;rw[gG]at hx;obtain⟨vl,va,xs,rfl,-,-,-,hrl,hel,hra⟩:=hx;obtain⟨al,cl,rfl⟩:=hrl.parts;obtain⟨aa,ca,rfl⟩:=hra.parts;have tY:=ai hrl;have Az:=ai hel;have kY:=ai hra;have HB:=ai hb;clear hrl hel hra hb;obtain⟨W,hW⟩:=bF (w.alloc (.cells #[Value.int .i64 2,aI nm,aI lf,bK mu,.slice al ls.length cl,.slice aa ar.length ca,ah l,ah c] 46));have ST0:Hid (Step Sf w W):=by rw[hW];exact bg.alloc _
 have bJ:Hid (∀X,Step Sf W X→∀(j:Nat) u,[Value.int .i64 2,aI nm,aI lf,bK mu,.slice al ls.length cl,.slice aa ar.length ca,ah l,ah c][j]?=some u→X.cell? ⟨w.heap.size,0+j,none⟩=some u):=by intro X hX j u hu;rw[hW]at hX;rw[Nat.zero_add];exact aj (hX.keep (aC _ _) (fun h=>h)) j u (by simpa using hu)
 have HW:=ai hW;have hsz:w.heap.size≤W.heap.size:=ST0.o.size;clear hW;go_enter Tryz.func56,Tryz.ntmps56;go_upto_region 1 with fail
 rw[←HW.o];have c0:=bJ.o W bg 0 _ rfl;rw[Nat.add_zero]at c0;go_upto_region 5 with fail
 refine au W [.r [] (aH [⟨#[98,111,111,108]⟩]),.r [0] (aH [⟨#[98,111,111,108]⟩])] kr bg (iR (Nat.le_refl _)) ?_ kr ?_
 ·refine OB.bs [⟨#[98,111,111,108]⟩] 1 ?_;refine OB.mv 12 ?_;exact OB.nil
 intro V X f hX hf;have h4:(aH _).r _ X _:=hf 1 kr;simp only[dm,Act.put,List.setIfInBounds_toArray,List.set_cons_zero,List.set_cons_succ,Nat.zero_add];go_wp2_with fail;go_ret;exact⟨_,rfl,ST0.o.trans hX,(aH _).ok.mono (fun q _ h=>Nat.le_trans hsz h.1) h4⟩
theorem typ_3 {nm lf:ByteArray} {mu:Bool} {ls:List ByteArray} {ar:List Ty} {l c:Int}:xI (.mk 3 nm lf mu ls ar l c):=by
 intro cs w D hx hb;have h0:gu (.mk 3 nm lf mu ls ar l c)=[⟨#[102,54,52]⟩]:=by rw[gu];rfl
 rw[h0]at hb⊢;clear h0;have MG:=ai hx;rw[gG]at hx;obtain⟨vl,va,xs,rfl,-,-,-,hrl,hel,hra⟩:=hx;obtain⟨al,cl,rfl⟩:=hrl.parts;obtain⟨aa,ca,rfl⟩:=hra.parts;have tY:=ai hrl;have Az:=ai hel;have kY:=ai hra;have HB:=ai hb;clear hrl hel hra hb;obtain⟨W,hW⟩:=bF (w.alloc (.cells #[Value.int .i64 3,aI nm,aI lf,bK mu,.slice al ls.length cl,.slice aa ar.length ca,ah l,ah c] 46));have ST0:Hid (Step Sf w W):=by rw[hW];exact bg.alloc _
 have bJ:Hid (∀X,Step Sf W X→∀(j:Nat) u,[Value.int .i64 3,aI nm,aI lf,bK mu,.slice al ls.length cl,.slice aa ar.length ca,ah l,ah c][j]?=some u→X.cell? ⟨w.heap.size,0+j,none⟩=some u):=by intro X hX j u hu;rw[hW]at hX;rw[Nat.zero_add];exact aj (hX.keep (aC _ _) (fun h=>h)) j u (by simpa using hu)
 have HW:=ai hW;have hsz:w.heap.size≤W.heap.size:=ST0.o.size;clear hW;go_enter Tryz.func56,Tryz.ntmps56;go_upto_region 1 with fail
 rw[←HW.o];have c0:=bJ.o W bg 0 _ rfl;rw[Nat.add_zero]at c0;go_upto_region 7 with fail
 refine au W [.r [] (aH [⟨#[102,54,52]⟩]),.r [0] (aH [⟨#[102,54,52]⟩])] kr bg (iR (Nat.le_refl _)) ?_ kr ?_
 ·refine OB.bs [⟨#[102,54,52]⟩] 1 ?_;refine OB.mv 15 ?_;exact OB.nil
 intro V X f hX hf;have h4:(aH _).r _ X _:=hf 1 kr;simp only[dm,Act.put,List.setIfInBounds_toArray,List.set_cons_zero,List.set_cons_succ,Nat.zero_add];go_wp2_with fail;go_ret;exact⟨_,rfl,ST0.o.trans hX,(aH _).ok.mono (fun q _ h=>Nat.le_trans hsz h.1) h4⟩
theorem typ_4 {nm lf:ByteArray} {mu:Bool} {ls:List ByteArray} {ar:List Ty} {l c:Int}:xI (.mk 4 nm lf mu ls ar l c):=by
 intro cs w D hx hb;have h0:gu (.mk 4 nm lf mu ls ar l c)=[⟨#[40]⟩,⟨#[41]⟩]:=by rw[gu];rfl
 rw[h0]at hb⊢;clear h0;have MG:=ai hx;rw[gG]at hx;obtain⟨vl,va,xs,rfl,-,-,-,hrl,hel,hra⟩:=hx;obtain⟨al,cl,rfl⟩:=hrl.parts;obtain⟨aa,ca,rfl⟩:=hra.parts;have tY:=ai hrl;have Az:=ai hel;have kY:=ai hra;have HB:=ai hb;clear hrl hel hra hb;obtain⟨W,hW⟩:=bF (w.alloc (.cells #[Value.int .i64 4,aI nm,aI lf,bK mu,.slice al ls.length cl,.slice aa ar.length ca,ah l,ah c] 46));have ST0:Hid (Step Sf w W):=by rw[hW];exact bg.alloc _
 have bJ:Hid (∀X,Step Sf W X→∀(j:Nat) u,[Value.int .i64 4,aI nm,aI lf,bK mu,.slice al ls.length cl,.slice aa ar.length ca,ah l,ah c][j]?=some u→X.cell? ⟨w.heap.size,0+j,none⟩=some u):=by intro X hX j u hu;rw[hW]at hX;rw[Nat.zero_add];exact aj (hX.keep (aC _ _) (fun h=>h)) j u (by simpa using hu)
 have HW:=ai hW;have hsz:w.heap.size≤W.heap.size:=ST0.o.size;clear hW;go_enter Tryz.func56,Tryz.ntmps56;go_upto_region 1 with fail
 rw[←HW.o];have c0:=bJ.o W bg 0 _ rfl;rw[Nat.add_zero]at c0;go_upto_region 9 with fail
 refine au W [.r [] (aH [⟨#[40]⟩,⟨#[41]⟩]),.r [0] (aH [⟨#[40]⟩,⟨#[41]⟩])] kr bg (iR (Nat.le_refl _)) ?_ kr ?_
 ·refine OB.bs [⟨#[40]⟩,⟨#[41]⟩] 2 ?_;refine OB.mv 18 ?_;exact OB.nil
 intro V X f hX hf;have h4:(aH _).r _ X _:=hf 1 kr;simp only[dm,Act.put,List.setIfInBounds_toArray,List.set_cons_zero,List.set_cons_succ,Nat.zero_add];go_wp2_with fail;go_ret;exact⟨_,rfl,ST0.o.trans hX,(aH _).ok.mono (fun q _ h=>Nat.le_trans hsz h.1) h4⟩
theorem yh (ls:List (List ByteArray)) (v:Value) (w:World) (D:Nat→Prop) (hv:lT TkE w D ls v) (hl:ls.length≤100000000) (hb:(bM ls).length≤100000000):Calls Tryz.prog 23 #[v] w (Mk (aH (bM ls)) w):=by
 obtain⟨a,c,rfl⟩:=hv.parts;have HV:=ai hv;obtain⟨n,hn⟩:=bF ls.length;have HN:=ai hn;rw[←hn]at hl⊢;clear hv hn;by_cases h0:n=0
 ·skip
  have h1:bM ls=[]:=by unfold bM;rw[if_pos (by rw[←HN.o];exact h0)]
  rw[h1]
  subst h0
  clear h1 hb
  go_enter Tryz.func23,Tryz.ntmps23
  go_wp2_with fail
  go_ret
  exact⟨_,rfl,Step.refl _ _,aH.nil _ _⟩
 ·skip
  have h1:bM ls=[⟨#[60]⟩]++aF ls++[⟨#[62]⟩]:=by unfold bM;rw[if_neg (by rw[←HN.o];exact h0)]
  rw[h1]at hb⊢
  have HB:=ai hb
  have hi:((n:Int)==0)=false:=by rw[beq_eq_false_iff_ne];omega
  clear h1 hb
  have hln:ls.length≤100000000:=by rw[←HN.o];exact hl
  go_enter Tryz.func23,Tryz.ntmps23
  go_upto_region 3 with fail
  refine au w [.p (.slice a n c),.r [] (aH (aF ls)),.r [1] (aH ([⟨#[60]⟩]++aF ls++[⟨#[62]⟩])),.r [2] (aH ([⟨#[60]⟩]++aF ls++[⟨#[62]⟩]))] kr bg (iR (Nat.le_refl _)) ?_ kr ?_
  ·
   refine OB.p ?_
   refine OB.c #[.slice a n c] Tryz.func34 (fun X hX=>by have h:=(eu KC).step _ _ hX (fun _ _ h=>h) HV.o;have h2:=jT ls _ X D h hln (by have h:=HB.o;simp only[List.length_append,List.length_cons,List.length_nil]at h⊢;omega);rw[←HN.o]at h2;exact h2) ?_
   refine OB.cu (ok:=aH (aF ls)) 7 (fun v=> #[.string ⟨#[60]⟩,v,.string ⟨#[62]⟩]) Tryz.func26 (fun X v C hX hv=>gK _ _ _ v X C (aH.strs hv) (by have h:=HB.o;simp only[List.length_append,List.length_cons,List.length_nil]at h⊢;omega)) ?_
   refine OB.mv 8 ?_
   exact OB.nil
  intro V X f hX hf
  have h4:(aH _).r _ X _:=hf 3 kr
  simp only[dm,Act.put,List.setIfInBounds_toArray,List.set_cons_zero,List.set_cons_succ,Nat.zero_add]
  go_wp2_with fail
  go_ret
  exact⟨_,rfl,hX,(aH _).ok.mono (fun _ _ h=>h.1) h4⟩
theorem typ_5 {nm lf:ByteArray} {mu:Bool} {ls:List ByteArray} {ar:List Ty} {l c:Int} (ih:∀y∈ar,xI y) (hal:ar.length≤1000000) (hll:ls.length≤1000000):xI (.mk 5 nm lf mu ls ar l c):=by
 intro cs w D hx hb;have h0:gu (.mk 5 nm lf mu ls ar l c)=[nm]++bM ((ls.map fun s=>[s])++ar.map gu):=by rw[gu,qW];rfl
 rw[h0]at hb⊢;clear h0;have MG:=ai hx;rw[gG]at hx;obtain⟨vl,va,xs,rfl,-,-,-,hrl,hel,hra⟩:=hx;obtain⟨al,cl,rfl⟩:=hrl.parts;obtain⟨aa,ca,rfl⟩:=hra.parts;have tY:=ai hrl;have Az:=ai hel;have kY:=ai hra;have HB:=ai hb;clear hrl hel hra hb;obtain⟨W,hW⟩:=bF (w.alloc (.cells #[Value.int .i64 5,aI nm,aI lf,bK mu,.slice al ls.length cl,.slice aa ar.length ca,ah l,ah c] 46));have ST0:Hid (Step Sf w W):=by rw[hW];exact bg.alloc _
 have bJ:Hid (∀X,Step Sf W X→∀(j:Nat) u,[Value.int .i64 5,aI nm,aI lf,bK mu,.slice al ls.length cl,.slice aa ar.length ca,ah l,ah c][j]?=some u→X.cell? ⟨w.heap.size,0+j,none⟩=some u):=by intro X hX j u hu;rw[hW]at hX;rw[Nat.zero_add];exact aj (hX.keep (aC _ _) (fun h=>h)) j u (by simpa using hu)
 have HW:=ai hW;have hsz:w.heap.size≤W.heap.size:=ST0.o.size;clear hW;go_enter Tryz.func56,Tryz.ntmps56;go_upto_region 1 with fail
 rw[←HW.o];have c0:=bJ.o W bg 0 _ rfl;rw[Nat.add_zero]at c0;have hbs:∀y∈ar,(gu y).length≤100000000:=fun y hy=>Nat.le_trans (fU (ls:=(ls.map fun s=>[s])++ar.map gu) (List.mem_append_right _ (List.mem_map_of_mem hy))) (Nat.le_trans (OD _) (by have h:=HB.o;simp only[List.length_append,List.length_cons,List.length_nil]at h⊢;omega));have hlen:((ls.map fun s=>[s])++ar.map gu).length≤100000000:=by simp only[List.length_append,List.length_map];omega
 go_upto_region 11 with fail
 refine au W [.p (.pointer (some ⟨w.heap.size,1,none⟩)),.p (.string nm),.r [] (aH [nm]),.p (.pointer (some ⟨w.heap.size,4,none⟩)),.p (.slice al ls.length cl),.r [] (jw (ls.map fun s=>[s])),.p (.pointer (some ⟨w.heap.size,5,none⟩)),.p (.slice aa ar.length ca),.r [] (jw (ar.map gu)),.r [5,8] (jw ((ls.map fun s=>[s])++(ar.map gu))),.r [9] (aH (bM ((ls.map fun s=>[s])++ar.map gu))),.r [2,10] (aH ([nm]++(bM ((ls.map fun s=>[s])++ar.map gu)))),.r [11] (aH ([nm]++(bM ((ls.map fun s=>[s])++ar.map gu))))] kr bg (iR (Nat.le_refl _)) ?_ kr ?_
 ·refine OB.p ?_;refine OB.p ?_ (fun X hX=>by have c:=bJ.o X hX 1 _ rfl;rw[Nat.zero_add]at c;go_simp);refine OB.bs [nm] 1 ?_;refine OB.p ?_;refine OB.p ?_ (fun X hX=>by have c:=bJ.o X hX 4 _ rfl;rw[Nat.zero_add]at c;go_simp);refine OB.c #[.slice al ls.length cl] Tryz.func24 (fun X hX=>wB ls _ X D (tY.o.step (ST0.o.trans hX) (fun _ _ h=>h)) (Nat.le_trans hll dc)) ?_;refine OB.p ?_;refine OB.p ?_ (fun X hX=>by have c:=bJ.o X hX 5 _ rfl;rw[Nat.zero_add]at c;go_simp);refine OB.c #[.slice aa ar.length ca] Tryz.func97 (fun X hX=>qB ar _ X D xs (kY.o.step (ST0.o.trans hX) (fun _ _ h=>h)) (fV.step (ST0.o.trans hX) (fun _ _ h=>h) _ _ Az.o) (Nat.le_trans hal dc) ih hbs) ?_;refine OB.la 26 29 (by simp only[List.length_map];omega) ?_;refine OB.cu (ok:=jw ((ls.map fun s=>[s])++(ar.map gu))) 30 (fun v=> #[v]) Tryz.func23 (fun X v C hX hv=>yh _ v X C (oz.ls hv) hlen (by have h:=HB.o;simp only[List.length_append,List.length_cons,List.length_nil]at h⊢;omega)) ?_;refine OB.app 23 31 (by have h:=HB.o;simp only[List.length_append,List.length_cons,List.length_nil]at h⊢;omega) ?_;refine OB.mv 32 ?_;exact OB.nil
 intro V X f hX hf;have h4:(aH _).r _ X _:=hf 12 kr;simp only[dm,Act.put,List.setIfInBounds_toArray,List.set_cons_zero,List.set_cons_succ,Nat.zero_add];go_wp2_with fail;go_ret;exact⟨_,rfl,ST0.o.trans hX,(aH _).ok.mono (fun q _ h=>Nat.le_trans hsz h.1) h4⟩
theorem typ_6 {nm lf:ByteArray} {mu:Bool} {ls:List ByteArray} {ar:List Ty} {l c:Int} (ih:∀y∈ar,xI y) (hal:ar.length≤1000000):xI (.mk 6 nm lf mu ls ar l c):=by
 intro cs w D hx hb;have h0:gu (.mk 6 nm lf mu ls ar l c)=[⟨#[66,111,120]⟩]++([⟨#[60]⟩]++aF (ar.map gu)++[⟨#[62]⟩]):=by rw[gu,qW];rfl
 rw[h0]at hb⊢;clear h0;have MG:=ai hx;rw[gG]at hx;obtain⟨vl,va,xs,rfl,-,-,-,hrl,hel,hra⟩:=hx;obtain⟨al,cl,rfl⟩:=hrl.parts;obtain⟨aa,ca,rfl⟩:=hra.parts;have tY:=ai hrl;have Az:=ai hel;have kY:=ai hra;have HB:=ai hb;clear hrl hel hra hb;obtain⟨W,hW⟩:=bF (w.alloc (.cells #[Value.int .i64 6,aI nm,aI lf,bK mu,.slice al ls.length cl,.slice aa ar.length ca,ah l,ah c] 46));have ST0:Hid (Step Sf w W):=by rw[hW];exact bg.alloc _
 have bJ:Hid (∀X,Step Sf W X→∀(j:Nat) u,[Value.int .i64 6,aI nm,aI lf,bK mu,.slice al ls.length cl,.slice aa ar.length ca,ah l,ah c][j]?=some u→X.cell? ⟨w.heap.size,0+j,none⟩=some u):=by intro X hX j u hu;rw[hW]at hX;rw[Nat.zero_add];exact aj (hX.keep (aC _ _) (fun h=>h)) j u (by simpa using hu)
 have HW:=ai hW;have hsz:w.heap.size≤W.heap.size:=ST0.o.size;clear hW;go_enter Tryz.func56,Tryz.ntmps56;go_upto_region 1 with fail
 rw[←HW.o];have c0:=bJ.o W bg 0 _ rfl;rw[Nat.add_zero]at c0;have hbs:∀y∈ar,(gu y).length≤100000000:=fun y hy=>Nat.le_trans (fU (ls:=ar.map gu) (List.mem_map_of_mem hy)) (by have h:=HB.o;simp only[List.length_append,List.length_cons,List.length_nil]at h⊢;omega);go_upto_region 13 with fail
 refine au W [.r [] (aH [⟨#[66,111,120]⟩]),.p (.pointer (some ⟨w.heap.size,5,none⟩)),.p (.slice aa ar.length ca),.r [] (jw (ar.map gu)),.r [3] (aH (aF (ar.map gu))),.r [4] (aH ([⟨#[60]⟩]++aF (ar.map gu)++[⟨#[62]⟩])),.r [0,5] (aH ([⟨#[66,111,120]⟩]++([⟨#[60]⟩]++aF (ar.map gu)++[⟨#[62]⟩]))),.r [6] (aH ([⟨#[66,111,120]⟩]++([⟨#[60]⟩]++aF (ar.map gu)++[⟨#[62]⟩])))] kr bg (iR (Nat.le_refl _)) ?_ kr ?_
 ·refine OB.bs [⟨#[66,111,120]⟩] 1 ?_;refine OB.p ?_;refine OB.p ?_ (fun X hX=>by have c:=bJ.o X hX 5 _ rfl;rw[Nat.zero_add]at c;go_simp);refine OB.c #[.slice aa ar.length ca] Tryz.func97 (fun X hX=>qB ar _ X D xs (kY.o.step (ST0.o.trans hX) (fun _ _ h=>h)) (fV.step (ST0.o.trans hX) (fun _ _ h=>h) _ _ Az.o) (Nat.le_trans hal dc) ih hbs) ?_;refine OB.cu (ok:=jw (ar.map gu)) 38 (fun v=> #[v]) Tryz.func34 (fun X v C hX hv=>jT _ v X C (oz.ls hv) (by rw[List.length_map];exact Nat.le_trans hal dc) (by have h:=HB.o;simp only[List.length_append,List.length_cons,List.length_nil]at h⊢;omega)) ?_;refine OB.cu (ok:=aH (aF (ar.map gu))) 39 (fun v=> #[.string ⟨#[60]⟩,v,.string ⟨#[62]⟩]) Tryz.func26 (fun X v C hX hv=>gK _ _ _ v X C (aH.strs hv) (by have h:=HB.o;simp only[List.length_append,List.length_cons,List.length_nil]at h⊢;omega)) ?_;refine OB.app 35 40 (by have h:=HB.o;simp only[List.length_append,List.length_cons,List.length_nil]at h⊢;omega) ?_;refine OB.mv 41 ?_;exact OB.nil
 intro V X f hX hf;have h4:(aH _).r _ X _:=hf 7 kr;simp only[dm,Act.put,List.setIfInBounds_toArray,List.set_cons_zero,List.set_cons_succ,Nat.zero_add];go_wp2_with fail;go_ret;exact⟨_,rfl,ST0.o.trans hX,(aH _).ok.mono (fun q _ h=>Nat.le_trans hsz h.1) h4⟩
theorem KI {nm lf:ByteArray} {ls:List ByteArray} {ar:List Ty} {l c:Int} (ih:∀y∈ar,xI y) (hal:ar.length≤1000000) (hlf:¬lf=⟨#[]⟩):xI (.mk 7 nm lf true ls ar l c):=by
 intro cs w D hx hb;have h0:gu (.mk 7 nm lf true ls ar l c)=[⟨#[38]⟩]++[lf]++[⟨#[109,117,116]⟩]++aF (ar.map gu):=by rw[gu,qW];show[⟨#[38]⟩]++(if lf=⟨#[]⟩then[]else[lf])++_++_=_;rw[if_neg hlf];rfl
 rw[h0]at hb⊢;clear h0;have hpos:0<lf.size:=by
  rcases Nat.eq_zero_or_pos lf.size with h|h
  ·exact absurd (tC h) hlf
  ·exact h
 have he:=jR lf hpos;have he':=jF lf hpos;clear hpos hlf;have MG:=ai hx;rw[gG]at hx;obtain⟨vl,va,xs,rfl,-,-,-,hrl,hel,hra⟩:=hx;obtain⟨al,cl,rfl⟩:=hrl.parts;obtain⟨aa,ca,rfl⟩:=hra.parts;have tY:=ai hrl;have Az:=ai hel;have kY:=ai hra;have HB:=ai hb;clear hrl hel hra hb;obtain⟨W,hW⟩:=bF (w.alloc (.cells #[Value.int .i64 7,aI nm,aI lf,bK true,.slice al ls.length cl,.slice aa ar.length ca,ah l,ah c] 46));have ST0:Hid (Step Sf w W):=by rw[hW];exact bg.alloc _
 have bJ:Hid (∀X,Step Sf W X→∀(j:Nat) u,[Value.int .i64 7,aI nm,aI lf,bK true,.slice al ls.length cl,.slice aa ar.length ca,ah l,ah c][j]?=some u→X.cell? ⟨w.heap.size,0+j,none⟩=some u):=by intro X hX j u hu;rw[hW]at hX;rw[Nat.zero_add];exact aj (hX.keep (aC _ _) (fun h=>h)) j u (by simpa using hu)
 have HW:=ai hW;have hsz:w.heap.size≤W.heap.size:=ST0.o.size;clear hW;go_enter Tryz.func56,Tryz.ntmps56;go_upto_region 1 with fail
 rw[←HW.o];have c0:=bJ.o W bg 0 _ rfl;rw[Nat.add_zero]at c0;have c2:=bJ.o W bg 2 _ rfl;rw[Nat.zero_add]at c2;have c3:=bJ.o W bg 3 _ rfl;rw[Nat.zero_add]at c3;have hbs:∀y∈ar,(gu y).length≤100000000:=fun y hy=>Nat.le_trans (fU (ls:=ar.map gu) (List.mem_map_of_mem hy)) (by have h:=HB.o;simp only[List.length_append,List.length_cons,List.length_nil]at h⊢;omega);go_upto_region 15 with fail
 refine au W [.r [] (aH [⟨#[38]⟩]),.r [0] (aH [⟨#[38]⟩])] kr bg (iR (Nat.le_refl _)) ?_ kr ?_
 ·refine OB.bs [⟨#[38]⟩] 1 ?_;refine OB.mv 44 ?_;exact OB.nil
 intro V0 X0 f0 hX0 hf0;have qy:(aH _).r _ X0 _:=hf0 1 kr;simp only[dm,Act.put,List.setIfInBounds_toArray,List.set_cons_zero,List.set_cons_succ,Nat.zero_add];clear c2 c3;have c2:=bJ.o X0 hX0 2 _ rfl;rw[Nat.zero_add]at c2;have c3:=bJ.o X0 hX0 3 _ rfl;rw[Nat.zero_add]at c3;go_upto_region 17 with fail
 refine au W [.r [6] (aH [⟨#[38]⟩]),.p (.pointer (some ⟨w.heap.size,2,none⟩)),.p (.string lf),.r [] (aH [lf]),.r [0,3] (aH ([⟨#[38]⟩]++[lf])),.r [4] (aH ([⟨#[38]⟩]++[lf])),.r [] (Kp (aH [⟨#[38]⟩]) (V0 1))] kr hX0 (jf rfl rfl qy (fun _ h=>h.1)) ?_ kr ?_
 ·refine OB.mi 3 ?_;refine OB.p ?_;refine OB.p ?_ (fun X hX=>by have c:=bJ.o X hX 2 _ rfl;rw[Nat.zero_add]at c;go_simp);refine OB.bs [lf] 1 ?_;refine OB.app 48 51 (by have h:=HB.o;simp only[List.length_append,List.length_cons,List.length_nil]at h⊢;omega) ?_;refine OB.mv 52 ?_;exact OB.nil
 intro V1 X1 f1 hX1 hf1;have Dq:(aH _).r _ X1 _:=hf1 5 kr;simp only[dm,Act.put,List.setIfInBounds_toArray,List.set_cons_zero,List.set_cons_succ,Nat.zero_add];clear c2 c3;have c2:=bJ.o X1 hX1 2 _ rfl;rw[Nat.zero_add]at c2;have c3:=bJ.o X1 hX1 3 _ rfl;rw[Nat.zero_add]at c3;go_upto_region 19 with fail
 refine au W [.r [4] (aH ([⟨#[38]⟩]++[lf])),.r [] (aH [⟨#[109,117,116]⟩]),.r [0,1] (aH (([⟨#[38]⟩]++[lf])++[⟨#[109,117,116]⟩])),.r [2] (aH (([⟨#[38]⟩]++[lf])++[⟨#[109,117,116]⟩])),.r [] (Kp (aH ([⟨#[38]⟩]++[lf])) (V1 5))] kr hX1 (jf rfl rfl Dq (fun _ h=>h.1)) ?_ kr ?_
 ·refine OB.mi 3 ?_;refine OB.bs [⟨#[109,117,116]⟩] 1 ?_;refine OB.app 55 56 (by have h:=HB.o;simp only[List.length_append,List.length_cons,List.length_nil]at h⊢;omega) ?_;refine OB.mv 57 ?_;exact OB.nil
 intro V2 X2 f2 hX2 hf2;have h42:(aH _).r _ X2 _:=hf2 3 kr;simp only[dm,Act.put,List.setIfInBounds_toArray,List.set_cons_zero,List.set_cons_succ,Nat.zero_add];clear c2 c3;have c2:=bJ.o X2 hX2 2 _ rfl;rw[Nat.zero_add]at c2;have c3:=bJ.o X2 hX2 3 _ rfl;rw[Nat.zero_add]at c3;go_upto_region 20 with fail
 refine au W [.r [7] (aH ([⟨#[38]⟩]++[lf]++[⟨#[109,117,116]⟩])),.p (.pointer (some ⟨w.heap.size,5,none⟩)),.p (.slice aa ar.length ca),.r [] (jw (ar.map gu)),.r [3] (aH (aF (ar.map gu))),.r [0,4] (aH (([⟨#[38]⟩]++[lf]++[⟨#[109,117,116]⟩])++(aF (ar.map gu)))),.r [5] (aH (([⟨#[38]⟩]++[lf]++[⟨#[109,117,116]⟩])++(aF (ar.map gu)))),.r [] (Kp (aH ([⟨#[38]⟩]++[lf]++[⟨#[109,117,116]⟩])) (V2 3))] kr hX2 (jf rfl rfl h42 (fun _ h=>h.1)) ?_ kr ?_
 ·refine OB.mi 3 ?_;refine OB.p ?_;refine OB.p ?_ (fun X hX=>by have c:=bJ.o X hX 5 _ rfl;rw[Nat.zero_add]at c;go_simp);refine OB.c #[.slice aa ar.length ca] Tryz.func97 (fun X hX=>qB ar _ X D xs (kY.o.step (ST0.o.trans hX) (fun _ _ h=>h)) (fV.step (ST0.o.trans hX) (fun _ _ h=>h) _ _ Az.o) (Nat.le_trans hal dc) ih hbs) ?_;refine OB.cu (ok:=jw (ar.map gu)) 61 (fun v=> #[v]) Tryz.func34 (fun X v C hX hv=>jT _ v X C (oz.ls hv) (by rw[List.length_map];exact Nat.le_trans hal dc) (by have h:=HB.o;simp only[List.length_append,List.length_cons,List.length_nil]at h⊢;omega)) ?_;refine OB.app 58 62 (by have h:=HB.o;simp only[List.length_append,List.length_cons,List.length_nil]at h⊢;omega) ?_;refine OB.mv 63 ?_;exact OB.nil
 intro V X f hX hf;have h4:(aH _).r _ X _:=hf 6 kr;simp only[dm,Act.put,List.setIfInBounds_toArray,List.set_cons_zero,List.set_cons_succ,Nat.zero_add];go_wp2_with fail;go_ret;exact⟨_,rfl,ST0.o.trans hX,(aH _).ok.mono (fun q _ h=>Nat.le_trans hsz h.1) h4⟩
theorem KJ {nm:ByteArray} {ls:List ByteArray} {ar:List Ty} {l c:Int} (ih:∀y∈ar,xI y) (hal:ar.length≤1000000):xI (.mk 7 nm ⟨#[]⟩ true ls ar l c):=by
 intro cs w D hx hb;have h0:gu (.mk 7 nm ⟨#[]⟩ true ls ar l c)=[⟨#[38]⟩]++[⟨#[109,117,116]⟩]++aF (ar.map gu):=by rw[gu,qW];rfl
 rw[h0]at hb⊢;clear h0;have MG:=ai hx;rw[gG]at hx;obtain⟨vl,va,xs,rfl,-,-,-,hrl,hel,hra⟩:=hx;obtain⟨al,cl,rfl⟩:=hrl.parts;obtain⟨aa,ca,rfl⟩:=hra.parts;have tY:=ai hrl;have Az:=ai hel;have kY:=ai hra;have HB:=ai hb;clear hrl hel hra hb;obtain⟨W,hW⟩:=bF (w.alloc (.cells #[Value.int .i64 7,aI nm,dG,bK true,.slice al ls.length cl,.slice aa ar.length ca,ah l,ah c] 46));have ST0:Hid (Step Sf w W):=by rw[hW];exact bg.alloc _
 have bJ:Hid (∀X,Step Sf W X→∀(j:Nat) u,[Value.int .i64 7,aI nm,dG,bK true,.slice al ls.length cl,.slice aa ar.length ca,ah l,ah c][j]?=some u→X.cell? ⟨w.heap.size,0+j,none⟩=some u):=by intro X hX j u hu;rw[hW]at hX;rw[Nat.zero_add];exact aj (hX.keep (aC _ _) (fun h=>h)) j u (by simpa using hu)
 have HW:=ai hW;have hsz:w.heap.size≤W.heap.size:=ST0.o.size;clear hW;go_enter Tryz.func56,Tryz.ntmps56;go_upto_region 1 with fail
 rw[←HW.o];have c0:=bJ.o W bg 0 _ rfl;rw[Nat.add_zero]at c0;have c2:=bJ.o W bg 2 _ rfl;rw[Nat.zero_add]at c2;have c3:=bJ.o W bg 3 _ rfl;rw[Nat.zero_add]at c3;have hbs:∀y∈ar,(gu y).length≤100000000:=fun y hy=>Nat.le_trans (fU (ls:=ar.map gu) (List.mem_map_of_mem hy)) (by have h:=HB.o;simp only[List.length_append,List.length_cons,List.length_nil]at h⊢;omega);go_upto_region 15 with fail
 refine au W [.r [] (aH [⟨#[38]⟩]),.r [0] (aH [⟨#[38]⟩])] kr bg (iR (Nat.le_refl _)) ?_ kr ?_
 ·refine OB.bs [⟨#[38]⟩] 1 ?_;refine OB.mv 44 ?_;exact OB.nil
 intro V0 X0 f0 hX0 hf0;have qy:(aH _).r _ X0 _:=hf0 1 kr;simp only[dm,Act.put,List.setIfInBounds_toArray,List.set_cons_zero,List.set_cons_succ,Nat.zero_add];clear c2 c3;have c2:=bJ.o X0 hX0 2 _ rfl;rw[Nat.zero_add]at c2;have c3:=bJ.o X0 hX0 3 _ rfl;rw[Nat.zero_add]at c3;go_upto_region 19 with fail
 refine au W [.r [4] (aH [⟨#[38]⟩]),.r [] (aH [⟨#[109,117,116]⟩]),.r [0,1] (aH ([⟨#[38]⟩]++[⟨#[109,117,116]⟩])),.r [2] (aH ([⟨#[38]⟩]++[⟨#[109,117,116]⟩])),.r [] (Kp (aH [⟨#[38]⟩]) (V0 1))] kr hX0 (jf rfl rfl qy (fun _ h=>h.1)) ?_ kr ?_
 ·refine OB.mi 3 ?_;refine OB.bs [⟨#[109,117,116]⟩] 1 ?_;refine OB.app 55 56 (by have h:=HB.o;simp only[List.length_append,List.length_cons,List.length_nil]at h⊢;omega) ?_;refine OB.mv 57 ?_;exact OB.nil
 intro V1 X1 f1 hX1 hf1;have Dq:(aH _).r _ X1 _:=hf1 3 kr;simp only[dm,Act.put,List.setIfInBounds_toArray,List.set_cons_zero,List.set_cons_succ,Nat.zero_add];clear c2 c3;have c2:=bJ.o X1 hX1 2 _ rfl;rw[Nat.zero_add]at c2;have c3:=bJ.o X1 hX1 3 _ rfl;rw[Nat.zero_add]at c3;go_upto_region 20 with fail
 refine au W [.r [7] (aH ([⟨#[38]⟩]++[⟨#[109,117,116]⟩])),.p (.pointer (some ⟨w.heap.size,5,none⟩)),.p (.slice aa ar.length ca),.r [] (jw (ar.map gu)),.r [3] (aH (aF (ar.map gu))),.r [0,4] (aH (([⟨#[38]⟩]++[⟨#[109,117,116]⟩])++(aF (ar.map gu)))),.r [5] (aH (([⟨#[38]⟩]++[⟨#[109,117,116]⟩])++(aF (ar.map gu)))),.r [] (Kp (aH ([⟨#[38]⟩]++[⟨#[109,117,116]⟩])) (V1 3))] kr hX1 (jf rfl rfl Dq (fun _ h=>h.1)) ?_ kr ?_
 ·refine OB.mi 3 ?_;refine OB.p ?_;refine OB.p ?_ (fun X hX=>by have c:=bJ.o X hX 5 _ rfl;rw[Nat.zero_add]at c;go_simp);refine OB.c #[.slice aa ar.length ca] Tryz.func97 (fun X hX=>qB ar _ X D xs (kY.o.step (ST0.o.trans hX) (fun _ _ h=>h)) (fV.step (ST0.o.trans hX) (fun _ _ h=>h) _ _ Az.o) (Nat.le_trans hal dc) ih hbs) ?_;refine OB.cu (ok:=jw (ar.map gu)) 61 (fun v=> #[v]) Tryz.func34 (fun X v C hX hv=>jT _ v X C (oz.ls hv) (by rw[List.length_map];exact Nat.le_trans hal dc) (by have h:=HB.o;simp only[List.length_append,List.length_cons,List.length_nil]at h⊢;omega)) ?_;refine OB.app 58 62 (by have h:=HB.o;simp only[List.length_append,List.length_cons,List.length_nil]at h⊢;omega) ?_;refine OB.mv 63 ?_;exact OB.nil
 intro V X f hX hf;have h4:(aH _).r _ X _:=hf 6 kr;simp only[dm,Act.put,List.setIfInBounds_toArray,List.set_cons_zero,List.set_cons_succ,Nat.zero_add];go_wp2_with fail;go_ret;exact⟨_,rfl,ST0.o.trans hX,(aH _).ok.mono (fun q _ h=>Nat.le_trans hsz h.1) h4⟩
theorem Jc {nm lf:ByteArray} {ls:List ByteArray} {ar:List Ty} {l c:Int} (ih:∀y∈ar,xI y) (hal:ar.length≤1000000) (hlf:¬lf=⟨#[]⟩):xI (.mk 7 nm lf false ls ar l c):=by
 intro cs w D hx hb;have h0:gu (.mk 7 nm lf false ls ar l c)=[⟨#[38]⟩]++[lf]++aF (ar.map gu):=by rw[gu,qW];show[⟨#[38]⟩]++(if lf=⟨#[]⟩then[]else[lf])++_++_=_;rw[if_neg hlf];rfl
 rw[h0]at hb⊢;clear h0;have hpos:0<lf.size:=by
  rcases Nat.eq_zero_or_pos lf.size with h|h
  ·exact absurd (tC h) hlf
  ·exact h
 have he:=jR lf hpos;have he':=jF lf hpos;clear hpos hlf;have MG:=ai hx;rw[gG]at hx;obtain⟨vl,va,xs,rfl,-,-,-,hrl,hel,hra⟩:=hx;obtain⟨al,cl,rfl⟩:=hrl.parts;obtain⟨aa,ca,rfl⟩:=hra.parts;have tY:=ai hrl;have Az:=ai hel;have kY:=ai hra;have HB:=ai hb;clear hrl hel hra hb;obtain⟨W,hW⟩:=bF (w.alloc (.cells #[Value.int .i64 7,aI nm,aI lf,aW,.slice al ls.length cl,.slice aa ar.length ca,ah l,ah c] 46));have ST0:Hid (Step Sf w W):=by rw[hW];exact bg.alloc _
 have bJ:Hid (∀X,Step Sf W X→∀(j:Nat) u,[Value.int .i64 7,aI nm,aI lf,aW,.slice al ls.length cl,.slice aa ar.length ca,ah l,ah c][j]?=some u→X.cell? ⟨w.heap.size,0+j,none⟩=some u):=by intro X hX j u hu;rw[hW]at hX;rw[Nat.zero_add];exact aj (hX.keep (aC _ _) (fun h=>h)) j u (by simpa using hu)
 have HW:=ai hW;have hsz:w.heap.size≤W.heap.size:=ST0.o.size;clear hW;go_enter Tryz.func56,Tryz.ntmps56;go_upto_region 1 with fail
 rw[←HW.o];have c0:=bJ.o W bg 0 _ rfl;rw[Nat.add_zero]at c0;have c2:=bJ.o W bg 2 _ rfl;rw[Nat.zero_add]at c2;have c3:=bJ.o W bg 3 _ rfl;rw[Nat.zero_add]at c3;have hbs:∀y∈ar,(gu y).length≤100000000:=fun y hy=>Nat.le_trans (fU (ls:=ar.map gu) (List.mem_map_of_mem hy)) (by have h:=HB.o;simp only[List.length_append,List.length_cons,List.length_nil]at h⊢;omega);go_upto_region 15 with fail
 refine au W [.r [] (aH [⟨#[38]⟩]),.r [0] (aH [⟨#[38]⟩])] kr bg (iR (Nat.le_refl _)) ?_ kr ?_
 ·refine OB.bs [⟨#[38]⟩] 1 ?_;refine OB.mv 44 ?_;exact OB.nil
 intro V0 X0 f0 hX0 hf0;have qy:(aH _).r _ X0 _:=hf0 1 kr;simp only[dm,Act.put,List.setIfInBounds_toArray,List.set_cons_zero,List.set_cons_succ,Nat.zero_add];clear c2 c3;have c2:=bJ.o X0 hX0 2 _ rfl;rw[Nat.zero_add]at c2;have c3:=bJ.o X0 hX0 3 _ rfl;rw[Nat.zero_add]at c3;go_upto_region 17 with fail
 refine au W [.r [6] (aH [⟨#[38]⟩]),.p (.pointer (some ⟨w.heap.size,2,none⟩)),.p (.string lf),.r [] (aH [lf]),.r [0,3] (aH ([⟨#[38]⟩]++[lf])),.r [4] (aH ([⟨#[38]⟩]++[lf])),.r [] (Kp (aH [⟨#[38]⟩]) (V0 1))] kr hX0 (jf rfl rfl qy (fun _ h=>h.1)) ?_ kr ?_
 ·refine OB.mi 3 ?_;refine OB.p ?_;refine OB.p ?_ (fun X hX=>by have c:=bJ.o X hX 2 _ rfl;rw[Nat.zero_add]at c;go_simp);refine OB.bs [lf] 1 ?_;refine OB.app 48 51 (by have h:=HB.o;simp only[List.length_append,List.length_cons,List.length_nil]at h⊢;omega) ?_;refine OB.mv 52 ?_;exact OB.nil
 intro V1 X1 f1 hX1 hf1;have Dq:(aH _).r _ X1 _:=hf1 5 kr;simp only[dm,Act.put,List.setIfInBounds_toArray,List.set_cons_zero,List.set_cons_succ,Nat.zero_add];clear c2 c3;have c2:=bJ.o X1 hX1 2 _ rfl;rw[Nat.zero_add]at c2;have c3:=bJ.o X1 hX1 3 _ rfl;rw[Nat.zero_add]at c3;go_upto_region 20 with fail
 refine au W [.r [7] (aH ([⟨#[38]⟩]++[lf])),.p (.pointer (some ⟨w.heap.size,5,none⟩)),.p (.slice aa ar.length ca),.r [] (jw (ar.map gu)),.r [3] (aH (aF (ar.map gu))),.r [0,4] (aH (([⟨#[38]⟩]++[lf])++(aF (ar.map gu)))),.r [5] (aH (([⟨#[38]⟩]++[lf])++(aF (ar.map gu)))),.r [] (Kp (aH ([⟨#[38]⟩]++[lf])) (V1 5))] kr hX1 (jf rfl rfl Dq (fun _ h=>h.1)) ?_ kr ?_
 ·refine OB.mi 3 ?_;refine OB.p ?_;refine OB.p ?_ (fun X hX=>by have c:=bJ.o X hX 5 _ rfl;rw[Nat.zero_add]at c;go_simp);refine OB.c #[.slice aa ar.length ca] Tryz.func97 (fun X hX=>qB ar _ X D xs (kY.o.step (ST0.o.trans hX) (fun _ _ h=>h)) (fV.step (ST0.o.trans hX) (fun _ _ h=>h) _ _ Az.o) (Nat.le_trans hal dc) ih hbs) ?_;refine OB.cu (ok:=jw (ar.map gu)) 61 (fun v=> #[v]) Tryz.func34 (fun X v C hX hv=>jT _ v X C (oz.ls hv) (by rw[List.length_map];exact Nat.le_trans hal dc) (by have h:=HB.o;simp only[List.length_append,List.length_cons,List.length_nil]at h⊢;omega)) ?_;refine OB.app 58 62 (by have h:=HB.o;simp only[List.length_append,List.length_cons,List.length_nil]at h⊢;omega) ?_;refine OB.mv 63 ?_;exact OB.nil
 intro V X f hX hf;have h4:(aH _).r _ X _:=hf 6 kr;simp only[dm,Act.put,List.setIfInBounds_toArray,List.set_cons_zero,List.set_cons_succ,Nat.zero_add];go_wp2_with fail;go_ret;exact⟨_,rfl,ST0.o.trans hX,(aH _).ok.mono (fun q _ h=>Nat.le_trans hsz h.1) h4⟩
theorem Jd {nm:ByteArray} {ls:List ByteArray} {ar:List Ty} {l c:Int} (ih:∀y∈ar,xI y) (hal:ar.length≤1000000):xI (.mk 7 nm ⟨#[]⟩ false ls ar l c):=by
 intro cs w D hx hb;have h0:gu (.mk 7 nm ⟨#[]⟩ false ls ar l c)=[⟨#[38]⟩]++aF (ar.map gu):=by rw[gu,qW];rfl
 rw[h0]at hb⊢;clear h0;have MG:=ai hx;rw[gG]at hx;obtain⟨vl,va,xs,rfl,-,-,-,hrl,hel,hra⟩:=hx;obtain⟨al,cl,rfl⟩:=hrl.parts;obtain⟨aa,ca,rfl⟩:=hra.parts;have tY:=ai hrl;have Az:=ai hel;have kY:=ai hra;have HB:=ai hb;clear hrl hel hra hb;obtain⟨W,hW⟩:=bF (w.alloc (.cells #[Value.int .i64 7,aI nm,dG,aW,.slice al ls.length cl,.slice aa ar.length ca,ah l,ah c] 46));have ST0:Hid (Step Sf w W):=by rw[hW];exact bg.alloc _
 have bJ:Hid (∀X,Step Sf W X→∀(j:Nat) u,[Value.int .i64 7,aI nm,dG,aW,.slice al ls.length cl,.slice aa ar.length ca,ah l,ah c][j]?=some u→X.cell? ⟨w.heap.size,0+j,none⟩=some u):=by intro X hX j u hu;rw[hW]at hX;rw[Nat.zero_add];exact aj (hX.keep (aC _ _) (fun h=>h)) j u (by simpa using hu)
 have HW:=ai hW;have hsz:w.heap.size≤W.heap.size:=ST0.o.size;clear hW;go_enter Tryz.func56,Tryz.ntmps56;go_upto_region 1 with fail
 rw[←HW.o];have c0:=bJ.o W bg 0 _ rfl;rw[Nat.add_zero]at c0;have c2:=bJ.o W bg 2 _ rfl;rw[Nat.zero_add]at c2;have c3:=bJ.o W bg 3 _ rfl;rw[Nat.zero_add]at c3;have hbs:∀y∈ar,(gu y).length≤100000000:=fun y hy=>Nat.le_trans (fU (ls:=ar.map gu) (List.mem_map_of_mem hy)) (by have h:=HB.o;simp only[List.length_append,List.length_cons,List.length_nil]at h⊢;omega);go_upto_region 15 with fail
 refine au W [.r [] (aH [⟨#[38]⟩]),.r [0] (aH [⟨#[38]⟩])] kr bg (iR (Nat.le_refl _)) ?_ kr ?_
 ·refine OB.bs [⟨#[38]⟩] 1 ?_;refine OB.mv 44 ?_;exact OB.nil
 intro V0 X0 f0 hX0 hf0;have qy:(aH _).r _ X0 _:=hf0 1 kr;simp only[dm,Act.put,List.setIfInBounds_toArray,List.set_cons_zero,List.set_cons_succ,Nat.zero_add];clear c2 c3;have c2:=bJ.o X0 hX0 2 _ rfl;rw[Nat.zero_add]at c2;have c3:=bJ.o X0 hX0 3 _ rfl;rw[Nat.zero_add]at c3;go_upto_region 20 with fail
 refine au W [.r [7] (aH [⟨#[38]⟩]),.p (.pointer (some ⟨w.heap.size,5,none⟩)),.p (.slice aa ar.length ca),.r [] (jw (ar.map gu)),.r [3] (aH (aF (ar.map gu))),.r [0,4] (aH ([⟨#[38]⟩]++(aF (ar.map gu)))),.r [5] (aH ([⟨#[38]⟩]++(aF (ar.map gu)))),.r [] (Kp (aH [⟨#[38]⟩]) (V0 1))] kr hX0 (jf rfl rfl qy (fun _ h=>h.1)) ?_ kr ?_
 ·refine OB.mi 3 ?_;refine OB.p ?_;refine OB.p ?_ (fun X hX=>by have c:=bJ.o X hX 5 _ rfl;rw[Nat.zero_add]at c;go_simp);refine OB.c #[.slice aa ar.length ca] Tryz.func97 (fun X hX=>qB ar _ X D xs (kY.o.step (ST0.o.trans hX) (fun _ _ h=>h)) (fV.step (ST0.o.trans hX) (fun _ _ h=>h) _ _ Az.o) (Nat.le_trans hal dc) ih hbs) ?_;refine OB.cu (ok:=jw (ar.map gu)) 61 (fun v=> #[v]) Tryz.func34 (fun X v C hX hv=>jT _ v X C (oz.ls hv) (by rw[List.length_map];exact Nat.le_trans hal dc) (by have h:=HB.o;simp only[List.length_append,List.length_cons,List.length_nil]at h⊢;omega)) ?_;refine OB.app 58 62 (by have h:=HB.o;simp only[List.length_append,List.length_cons,List.length_nil]at h⊢;omega) ?_;refine OB.mv 63 ?_;exact OB.nil
 intro V X f hX hf;have h4:(aH _).r _ X _:=hf 6 kr;simp only[dm,Act.put,List.setIfInBounds_toArray,List.set_cons_zero,List.set_cons_succ,Nat.zero_add];go_wp2_with fail;go_ret;exact⟨_,rfl,ST0.o.trans hX,(aH _).ok.mono (fun q _ h=>Nat.le_trans hsz h.1) h4⟩
theorem Zt {nm lf:ByteArray} {mu:Bool} {ls:List ByteArray} {ar:List Ty} {l c:Int} (hlf:¬lf=⟨#[]⟩):xI (.mk 8 nm lf mu ls ar l c):=by
 intro cs w D hx hb;have h0:gu (.mk 8 nm lf mu ls ar l c)=[⟨#[100,121,110]⟩,nm]++[⟨#[43]⟩,lf]:=by rw[gu];show[_,nm]++(if lf=⟨#[]⟩then[]else[_,lf])=_;rw[if_neg hlf]
 rw[h0]at hb⊢;clear h0;have hpos:0<lf.size:=by
  rcases Nat.eq_zero_or_pos lf.size with h|h
  ·exact absurd (tC h) hlf
  ·exact h
 have he:=jR lf hpos;have he':=jF lf hpos;clear hpos hlf;have MG:=ai hx;rw[gG]at hx;obtain⟨vl,va,xs,rfl,-,-,-,hrl,hel,hra⟩:=hx;obtain⟨al,cl,rfl⟩:=hrl.parts;obtain⟨aa,ca,rfl⟩:=hra.parts;have tY:=ai hrl;have Az:=ai hel;have kY:=ai hra;have HB:=ai hb;clear hrl hel hra hb;obtain⟨W,hW⟩:=bF (w.alloc (.cells #[Value.int .i64 8,aI nm,aI lf,bK mu,.slice al ls.length cl,.slice aa ar.length ca,ah l,ah c] 46));have ST0:Hid (Step Sf w W):=by rw[hW];exact bg.alloc _
 have bJ:Hid (∀X,Step Sf W X→∀(j:Nat) u,[Value.int .i64 8,aI nm,aI lf,bK mu,.slice al ls.length cl,.slice aa ar.length ca,ah l,ah c][j]?=some u→X.cell? ⟨w.heap.size,0+j,none⟩=some u):=by intro X hX j u hu;rw[hW]at hX;rw[Nat.zero_add];exact aj (hX.keep (aC _ _) (fun h=>h)) j u (by simpa using hu)
 have HW:=ai hW;have hsz:w.heap.size≤W.heap.size:=ST0.o.size;clear hW;go_enter Tryz.func56,Tryz.ntmps56;go_upto_region 1 with fail
 rw[←HW.o];have c0:=bJ.o W bg 0 _ rfl;rw[Nat.add_zero]at c0;have c2:=bJ.o W bg 2 _ rfl;rw[Nat.zero_add]at c2;go_upto_region 22 with fail
 refine au W [.p (.pointer (some ⟨w.heap.size,1,none⟩)),.p (.string nm),.r [] (aH [⟨#[100,121,110]⟩,nm]),.r [2] (aH [⟨#[100,121,110]⟩,nm])] kr bg (iR (Nat.le_refl _)) ?_ kr ?_
 ·refine OB.p ?_;refine OB.p ?_ (fun X hX=>by have c:=bJ.o X hX 1 _ rfl;rw[Nat.zero_add]at c;go_simp);refine OB.bs [⟨#[100,121,110]⟩,nm] 2 ?_;refine OB.mv 68 ?_;exact OB.nil
 intro V0 X0 f0 hX0 hf0;have qy:(aH _).r _ X0 _:=hf0 3 kr;simp only[dm,Act.put,List.setIfInBounds_toArray,List.set_cons_zero,List.set_cons_succ,Nat.zero_add];clear c2;have c2:=bJ.o X0 hX0 2 _ rfl;rw[Nat.zero_add]at c2;go_upto_region 24 with fail
 refine au W [.r [6] (aH [⟨#[100,121,110]⟩,nm]),.p (.pointer (some ⟨w.heap.size,2,none⟩)),.p (.string lf),.r [] (aH [⟨#[43]⟩,lf]),.r [0,3] (aH ([⟨#[100,121,110]⟩,nm]++[⟨#[43]⟩,lf])),.r [4] (aH ([⟨#[100,121,110]⟩,nm]++[⟨#[43]⟩,lf])),.r [] (Kp (aH [⟨#[100,121,110]⟩,nm]) (V0 3))] kr hX0 (jf rfl rfl qy (fun _ h=>h.1)) ?_ kr ?_
 ·refine OB.mi 4 ?_;refine OB.p ?_;refine OB.p ?_ (fun X hX=>by have c:=bJ.o X hX 2 _ rfl;rw[Nat.zero_add]at c;go_simp);refine OB.bs [⟨#[43]⟩,lf] 2 ?_;refine OB.app 72 75 (by have h:=HB.o;simp only[List.length_append,List.length_cons,List.length_nil]at h⊢;omega) ?_;refine OB.mv 76 ?_;exact OB.nil
 intro V X f hX hf;have h4:(aH _).r _ X _:=hf 5 kr;simp only[dm,Act.put,List.setIfInBounds_toArray,List.set_cons_zero,List.set_cons_succ,Nat.zero_add];go_wp2_with fail;go_ret;exact⟨_,rfl,ST0.o.trans hX,(aH _).ok.mono (fun q _ h=>Nat.le_trans hsz h.1) h4⟩
theorem Zu {nm:ByteArray} {mu:Bool} {ls:List ByteArray} {ar:List Ty} {l c:Int}:xI (.mk 8 nm ⟨#[]⟩ mu ls ar l c):=by
 intro cs w D hx hb;have h0:gu (.mk 8 nm ⟨#[]⟩ mu ls ar l c)=[⟨#[100,121,110]⟩,nm]:=by rw[gu];rfl
 rw[h0]at hb⊢;clear h0;have MG:=ai hx;rw[gG]at hx;obtain⟨vl,va,xs,rfl,-,-,-,hrl,hel,hra⟩:=hx;obtain⟨al,cl,rfl⟩:=hrl.parts;obtain⟨aa,ca,rfl⟩:=hra.parts;have tY:=ai hrl;have Az:=ai hel;have kY:=ai hra;have HB:=ai hb;clear hrl hel hra hb;obtain⟨W,hW⟩:=bF (w.alloc (.cells #[Value.int .i64 8,aI nm,dG,bK mu,.slice al ls.length cl,.slice aa ar.length ca,ah l,ah c] 46));have ST0:Hid (Step Sf w W):=by rw[hW];exact bg.alloc _
 have bJ:Hid (∀X,Step Sf W X→∀(j:Nat) u,[Value.int .i64 8,aI nm,dG,bK mu,.slice al ls.length cl,.slice aa ar.length ca,ah l,ah c][j]?=some u→X.cell? ⟨w.heap.size,0+j,none⟩=some u):=by intro X hX j u hu;rw[hW]at hX;rw[Nat.zero_add];exact aj (hX.keep (aC _ _) (fun h=>h)) j u (by simpa using hu)
 have HW:=ai hW;have hsz:w.heap.size≤W.heap.size:=ST0.o.size;clear hW;go_enter Tryz.func56,Tryz.ntmps56;go_upto_region 1 with fail
 rw[←HW.o];have c0:=bJ.o W bg 0 _ rfl;rw[Nat.add_zero]at c0;have c2:=bJ.o W bg 2 _ rfl;rw[Nat.zero_add]at c2;go_upto_region 22 with fail
 refine au W [.p (.pointer (some ⟨w.heap.size,1,none⟩)),.p (.string nm),.r [] (aH [⟨#[100,121,110]⟩,nm]),.r [2] (aH [⟨#[100,121,110]⟩,nm])] kr bg (iR (Nat.le_refl _)) ?_ kr ?_
 ·refine OB.p ?_;refine OB.p ?_ (fun X hX=>by have c:=bJ.o X hX 1 _ rfl;rw[Nat.zero_add]at c;go_simp);refine OB.bs [⟨#[100,121,110]⟩,nm] 2 ?_;refine OB.mv 68 ?_;exact OB.nil
 intro V X f hX hf;have h4:(aH _).r _ X _:=hf 3 kr;simp only[dm,Act.put,List.setIfInBounds_toArray,List.set_cons_zero,List.set_cons_succ,Nat.zero_add];clear c2;have c2:=bJ.o X hX 2 _ rfl;rw[Nat.zero_add]at c2;go_wp2_with fail;go_ret;exact⟨_,rfl,ST0.o.trans hX,(aH _).ok.mono (fun q _ h=>Nat.le_trans hsz h.1) h4⟩
theorem first_any {k:Int} {nm:ByteArray} {v:Int} {mu:Bool} {ar:List Ex} {ns:List ByteArray} {bo:List St} {l c:Int} (ih:∀y∈ar,qA y) (cs:List Value) (w:World) (D:Nat→Prop) (hx:dA w D (.mk k nm v mu ar ns bo l c) cs) (hal:ar.length≤1000000) (hb:(lZ (dF ar)).length≤100000000):Calls Tryz.prog 33 #[.agg cs.toArray] w (Mk (aH (lZ (dF ar))) w):=by
 have vk:=ai hx;rw[dA]at hx;obtain⟨va,vn,vb,xa,xb,rfl,-,-,ha,hra,hrn,hb2,hrb⟩:=hx;obtain⟨aa,ca,rfl⟩:=hra.parts;obtain⟨an,cn,rfl⟩:=hrn.parts;obtain⟨ab,cb,rfl⟩:=hrb.parts;have HA:=ai ha;have kY:=ai hra;have pV:=ai hrn;have HB2:=ai hb2;have jV:=ai hrb;have HB:=ai hb;clear ha hra hrn hb2 hrb hb;obtain⟨W,hW⟩:=bF (w.alloc (.cells #[Value.int .i64 k,aI nm,aX v,bK mu,.slice aa ar.length ca,.slice an ns.length cn,.slice ab bo.length cb,ah l,ah c] 56));have ST0:Hid (Step Sf w W):=by rw[hW];exact bg.alloc _
 have d_:Hid (∀X,Step Sf W X→X.heap[w.heap.size]?=some (.cells #[Value.int .i64 k,aI nm,aX v,bK mu,.slice aa ar.length ca,.slice an ns.length cn,.slice ab bo.length cb,ah l,ah c] 56 (0,0))):=by intro X hX;rw[hW]at hX;exact hX.keep (aC _ _) (fun h=>h)
 have HW:=ai hW;have hsz:w.heap.size≤W.heap.size:=ST0.o.size;clear hW;have bJ:Hid (∀X,Step Sf W X→∀(j:Nat) u,[Value.int .i64 k,aI nm,aX v,bK mu,.slice aa ar.length ca,.slice an ns.length cn,.slice ab bo.length cb,ah l,ah c][j]?=some u→X.cell? ⟨w.heap.size,0+j,none⟩=some u):=by intro X hX j u hu;rw[Nat.zero_add];exact aj (d_.o X hX) j u (by simpa using hu)
 have b0:=bJ.o W bg 0 _ rfl;rw[Nat.add_zero]at b0;go_enter Tryz.func33,Tryz.ntmps33;go_upto_region 1 with fail
 rw[←HW.o];have IH:=ai ih;clear ih;have c4:=bJ.o W bg 4 _ rfl;rw[Nat.zero_add]at c4;cases ar with
 |nil=>go_wp2_with fail;go_ret;exact⟨_,rfl,ST0.o,aH.nil _ _⟩
 |cons y r=>
  obtain⟨xs1,hrow,hel⟩:∃xs,dh w D (.slice aa (y::r).length ca) (y::r).length xs∧bY w D (y::r) xs:=⟨xa,kY.o,HA.o⟩;obtain⟨_,_,he,-,-,-,hr⟩:=hrow;cases he;obtain⟨g,o,rfl,h6,h7,h9⟩:=hr (by simp);obtain⟨cy,hat,hf⟩:=bY.cells (i:=0) hel rfl h9;have hcx:=IH.o y (List.mem_cons_self ..);have HF:Hid (∀X,Step Sf W X→∀(j:Nat) v,cy[j]?=some v→X.cell? ⟨g,o+j,none⟩=some v):=by intro X hX j v h;have h2:=hf j v h;rw[Nat.zero_mul,Nat.add_zero]at h2;exact hX.cell (ST0.o.cell h2 (fun h=>h)) (fun h=>h)
  have hcl:(Tryz.prog.info? 56).map (·.size)=some cy.length:=by rw[hat.len];exact Tryz.aO
  have HAT:=ai (dA.step ST0.o (fun _ _ h=>h) _ _ hat);have hbx:(dM y).length≤100000000:=by have h:=HB.o;rw[dF]at h;exact h
  clear h6 h7 h9 hr hf hat hel b0;have hlen:(0:Int)<((r.length+1:Nat):Int):=by omega
  go_upto_region 3 with fail
  refine au W [.p (.pointer (some ⟨w.heap.size,4,none⟩)),.p (.slice (some ⟨g,o,none⟩) (y::r).length ca),.p (.pointer (some ⟨g,o,none⟩)),.p (.agg cy.toArray),.r [] (aH (dM y)),.r [4] (aH (dM y))] kr bg (iR (Nat.le_refl _)) ?_ kr ?_
  ·refine OB.p ?_;refine OB.p ?_ (fun X hX=>by have c:=bJ.o X hX 4 _ rfl;rw[Nat.zero_add]at c;go_simp);refine OB.p ?_;refine OB.ld g o cy _ HF.o Tryz.underlying56 hcl ?_;refine OB.c #[.agg cy.toArray] Tryz.func12 (fun X hX=>hcx cy X D (dA.step hX (fun _ _ h=>h) _ _ HAT.o) hbx) ?_;refine OB.mv 11 ?_;exact OB.nil
  intro V X f hX hf;have h4:(aH _).r _ X _:=hf 5 kr;simp only[dm,Act.put,List.setIfInBounds_toArray,List.set_cons_zero,List.set_cons_succ,Nat.zero_add];rw[show lZ (dF (y::r))=dM y by rw[dF];rfl];go_wp2_with fail;go_ret;exact⟨_,rfl,ST0.o.trans hX,(aH _).ok.mono (fun q _ h=>Nat.le_trans hsz h.1) h4⟩
theorem KL {k:Int} {nm:ByteArray} {v:Int} {mu:Bool} {ar:List Ex} {ns:List ByteArray} {bo:List St} {l c:Int} (ih:∀y∈ar,qA y) (cs:List Value) (w:World) (D:Nat→Prop) (hx:dA w D (.mk k nm v mu ar ns bo l c) cs) (hal:ar.length≤1000000) (hb:(aF ((dF ar).drop 1)).length≤100000000) (hbs:∀y∈ar.drop 1,(dM y).length≤100000000):Calls Tryz.prog 36 #[.agg cs.toArray] w (Mk (aH (aF ((dF ar).drop 1))) w):=by
 have vk:=ai hx;rw[dA]at hx;obtain⟨va,vn,vb,xa,xb,rfl,-,-,ha,hra,hrn,hb2,hrb⟩:=hx;obtain⟨aa,ca,rfl⟩:=hra.parts;obtain⟨an,cn,rfl⟩:=hrn.parts;obtain⟨ab,cb,rfl⟩:=hrb.parts;have HA:=ai ha;have kY:=ai hra;have pV:=ai hrn;have HB2:=ai hb2;have jV:=ai hrb;have HB:=ai hb;clear ha hra hrn hb2 hrb hb;obtain⟨W,hW⟩:=bF (w.alloc (.cells #[Value.int .i64 k,aI nm,aX v,bK mu,.slice aa ar.length ca,.slice an ns.length cn,.slice ab bo.length cb,ah l,ah c] 56));have ST0:Hid (Step Sf w W):=by rw[hW];exact bg.alloc _
 have d_:Hid (∀X,Step Sf W X→X.heap[w.heap.size]?=some (.cells #[Value.int .i64 k,aI nm,aX v,bK mu,.slice aa ar.length ca,.slice an ns.length cn,.slice ab bo.length cb,ah l,ah c] 56 (0,0))):=by intro X hX;rw[hW]at hX;exact hX.keep (aC _ _) (fun h=>h)
 have HW:=ai hW;have hsz:w.heap.size≤W.heap.size:=ST0.o.size;clear hW;have bJ:Hid (∀X,Step Sf W X→∀(j:Nat) u,[Value.int .i64 k,aI nm,aX v,bK mu,.slice aa ar.length ca,.slice an ns.length cn,.slice ab bo.length cb,ah l,ah c][j]?=some u→X.cell? ⟨w.heap.size,0+j,none⟩=some u):=by intro X hX j u hu;rw[Nat.zero_add];exact aj (d_.o X hX) j u (by simpa using hu)
 have b0:=bJ.o W bg 0 _ rfl;rw[Nat.add_zero]at b0;go_enter Tryz.func36,Tryz.ntmps36;go_upto_region 1 with fail
 rw[←HW.o];have IH:=ai ih;clear ih;have c4:=bJ.o W bg 4 _ rfl;rw[Nat.zero_add]at c4;have hnil:ar.length<2→aF ((dF ar).drop 1)=[]:=by
  intro h2;have h3:(dF ar).length=ar.length:=by rw[iY,List.length_map]
  rw[List.drop_eq_nil_of_le om];rfl
 obtain⟨n,hn⟩:=bF ar.length;have HN:=ai hn;have HNIL:=ai hnil;clear hnil;rw[←hn]at c4 hal;clear hn;have HL4:Hid (∀X,Step Sf W X→X.cell? ⟨w.heap.size,4,none⟩=some (.slice aa n ca)):=by intro X hX;have h:=bJ.o X hX 4 _ rfl;rw[Nat.zero_add,←HN.o]at h;exact h
 by_cases h2:n<2
 ·skip
  have hi:(n:Int)<2:=by omega
  go_wp2_with fail
  go_ret
  exact⟨_,rfl,ST0.o,by rw[HNIL.o (by have h:=HN.o;omega)];exact aH.nil _ _⟩
 ·skip
  have hi:¬(n:Int)<2:=by omega
  obtain⟨_,_,he,hnc,hcm,-,hr⟩:=kY.o
  cases he
  obtain⟨g,o,rfl,h6,h7,h9⟩:=hr (by have h:=HN.o;omega)
  have hnc2:n≤ca:=by rw[HN.o];exact hnc
  have hi1:(1:Int)≤n:=by omega
  have hi2:(n:Int)≤ca:=by omega
  obtain⟨y,r,rfl⟩:∃y r,ar=y::r:=by
   cases ar with
   |nil=>have h:=HN.o;simp only[List.length_nil]at h;omega
   |cons y r=>exact⟨y,r,rfl⟩
  have hel:=HA.o
  rw[bY]at hel
  obtain⟨c1,c2,rfl,hy,hel2⟩:=hel
  have hnr:n-1=r.length:=by have h:=HN.o;simp only[List.length_cons]at h;omega
  have hrow:dh W D (.slice (some ⟨g,o+9,none⟩) (n-1) (ca-1)) r.length c2:=by
   refine⟨some ⟨g,o+9,none⟩,ca-1,by rw[hnr],by omega,by omega,lg,fun _=>⟨g,o+9,rfl,h6,Nat.lt_of_lt_of_le h7 ST0.o.size,fun i x hx=> ?_⟩⟩
   have h:=h9 (9+i) x (by rw[List.getElem?_append_right (by rw[hy.len];omega),hy.len,show 9+i-9=i by omega];exact hx)
   rw[Nat.add_assoc]
   exact ST0.o.cell h (fun h=>h)
  have hd:(dF (y::r)).drop 1=r.map dM:=by rw[dF,iY];rfl
  have hcb:=HB.o
  rw[hd]at hcb
  have HD:=ai hd
  have hcall:=kJ r _ W D c2 hrow (bY.step ST0.o (fun _ _ h=>h) _ _ hel2) om (fun t ht=>IH.o t (List.mem_cons_of_mem _ ht)) (fun t ht=>hbs t ht) hcb
  have MH:=ai hcall
  clear h2 HNIL hd hcall hrow hel2 h9 h7 h6 hr hcb hnr hy hbs hnc hcm hnc2
  go_upto_region 3 with fail
  go_wp2_with fail
  refine MH.o.mono ?_
  rintro e X ⟨u,rfl,hX,hu⟩
  go_wp2_with fail
  go_ret
  exact⟨_,rfl,ST0.o.trans hX,by rw[HD.o];exact(aH _).ok.mono (fun q _ h=>Nat.le_trans hsz h) hu⟩
theorem Zv {nm:ByteArray} {v:Int} {mu:Bool} {ar:List Ex} {ns:List ByteArray} {bo:List St} {l c:Int}:qA (.mk 4 nm v mu ar ns bo l c):=by
 intro cs w D hx hb;have h0:dM (.mk 4 nm v mu ar ns bo l c)=[⟨#[40]⟩,⟨#[41]⟩]:=by rw[dM];rfl
 rw[h0]at hb⊢;clear h0;have vk:=ai hx;rw[dA]at hx;obtain⟨va,vn,vb,xa,xb,rfl,-,-,ha,hra,hrn,hb2,hrb⟩:=hx;obtain⟨aa,ca,rfl⟩:=hra.parts;obtain⟨an,cn,rfl⟩:=hrn.parts;obtain⟨ab,cb,rfl⟩:=hrb.parts;have HA:=ai ha;have kY:=ai hra;have pV:=ai hrn;have HB2:=ai hb2;have jV:=ai hrb;have HB:=ai hb;clear ha hra hrn hb2 hrb hb;obtain⟨W,hW⟩:=bF (w.alloc (.cells #[Value.int .i64 4,aI nm,aX v,bK mu,.slice aa ar.length ca,.slice an ns.length cn,.slice ab bo.length cb,ah l,ah c] 56));have ST0:Hid (Step Sf w W):=by rw[hW];exact bg.alloc _
 have d_:Hid (∀X,Step Sf W X→X.heap[w.heap.size]?=some (.cells #[Value.int .i64 4,aI nm,aX v,bK mu,.slice aa ar.length ca,.slice an ns.length cn,.slice ab bo.length cb,ah l,ah c] 56 (0,0))):=by intro X hX;rw[hW]at hX;exact hX.keep (aC _ _) (fun h=>h)
 have HW:=ai hW;have hsz:w.heap.size≤W.heap.size:=ST0.o.size;clear hW;have bJ:Hid (∀X,Step Sf W X→∀(j:Nat) u,[Value.int .i64 4,aI nm,aX v,bK mu,.slice aa ar.length ca,.slice an ns.length cn,.slice ab bo.length cb,ah l,ah c][j]?=some u→X.cell? ⟨w.heap.size,0+j,none⟩=some u):=by intro X hX j u hu;rw[Nat.zero_add];exact aj (d_.o X hX) j u (by simpa using hu)
 have b0:=bJ.o W bg 0 _ rfl;rw[Nat.add_zero]at b0;go_enter Tryz.func12,Tryz.ntmps12;go_upto_region 1 with fail
 rw[←HW.o];go_upto_region 11 with fail
 refine au W [.r [] (aH [⟨#[40]⟩,⟨#[41]⟩]),.r [0] (aH [⟨#[40]⟩,⟨#[41]⟩])] kr bg (iR (Nat.le_refl _)) ?_ kr ?_
 ·refine OB.bs [⟨#[40]⟩,⟨#[41]⟩] 2 ?_;refine OB.mv 34 ?_;exact OB.nil
 intro V X f hX hf;have h4:(aH _).r _ X _:=hf 1 kr;simp only[dm,Act.put,List.setIfInBounds_toArray,List.set_cons_zero,List.set_cons_succ,Nat.zero_add];go_wp2_with fail;go_ret;exact⟨_,rfl,ST0.o.trans hX,(aH _).ok.mono (fun q _ h=>Nat.le_trans hsz h.1) h4⟩
theorem Zw {nm:ByteArray} {v:Int} {mu:Bool} {ar:List Ex} {ns:List ByteArray} {bo:List St} {l c:Int}:qA (.mk 5 nm v mu ar ns bo l c):=by
 intro cs w D hx hb;have h0:dM (.mk 5 nm v mu ar ns bo l c)=[nm]:=by rw[dM];rfl
 rw[h0]at hb⊢;clear h0;have vk:=ai hx;rw[dA]at hx;obtain⟨va,vn,vb,xa,xb,rfl,-,-,ha,hra,hrn,hb2,hrb⟩:=hx;obtain⟨aa,ca,rfl⟩:=hra.parts;obtain⟨an,cn,rfl⟩:=hrn.parts;obtain⟨ab,cb,rfl⟩:=hrb.parts;have HA:=ai ha;have kY:=ai hra;have pV:=ai hrn;have HB2:=ai hb2;have jV:=ai hrb;have HB:=ai hb;clear ha hra hrn hb2 hrb hb;obtain⟨W,hW⟩:=bF (w.alloc (.cells #[Value.int .i64 5,aI nm,aX v,bK mu,.slice aa ar.length ca,.slice an ns.length cn,.slice ab bo.length cb,ah l,ah c] 56));have ST0:Hid (Step Sf w W):=by rw[hW];exact bg.alloc _
 have d_:Hid (∀X,Step Sf W X→X.heap[w.heap.size]?=some (.cells #[Value.int .i64 5,aI nm,aX v,bK mu,.slice aa ar.length ca,.slice an ns.length cn,.slice ab bo.length cb,ah l,ah c] 56 (0,0))):=by intro X hX;rw[hW]at hX;exact hX.keep (aC _ _) (fun h=>h)
 have HW:=ai hW;have hsz:w.heap.size≤W.heap.size:=ST0.o.size;clear hW;have bJ:Hid (∀X,Step Sf W X→∀(j:Nat) u,[Value.int .i64 5,aI nm,aX v,bK mu,.slice aa ar.length ca,.slice an ns.length cn,.slice ab bo.length cb,ah l,ah c][j]?=some u→X.cell? ⟨w.heap.size,0+j,none⟩=some u):=by intro X hX j u hu;rw[Nat.zero_add];exact aj (d_.o X hX) j u (by simpa using hu)
 have b0:=bJ.o W bg 0 _ rfl;rw[Nat.add_zero]at b0;go_enter Tryz.func12,Tryz.ntmps12;go_upto_region 1 with fail
 rw[←HW.o];go_upto_region 13 with fail
 refine au W [.p (.pointer (some ⟨w.heap.size,1,none⟩)),.p (.string nm),.r [] (aH [nm]),.r [2] (aH [nm])] kr bg (iR (Nat.le_refl _)) ?_ kr ?_
 ·refine OB.p ?_;refine OB.p ?_ (fun X hX=>by have c:=bJ.o X hX 1 _ rfl;rw[Nat.zero_add]at c;go_simp);refine OB.bs [nm] 1 ?_;refine OB.mv 39 ?_;exact OB.nil
 intro V X f hX hf;have h4:(aH _).r _ X _:=hf 3 kr;simp only[dm,Act.put,List.setIfInBounds_toArray,List.set_cons_zero,List.set_cons_succ,Nat.zero_add];go_wp2_with fail;go_ret;exact⟨_,rfl,ST0.o.trans hX,(aH _).ok.mono (fun q _ h=>Nat.le_trans hsz h.1) h4⟩
theorem Zx {nm:ByteArray} {v:Int} {mu:Bool} {ar:List Ex} {ns:List ByteArray} {bo:List St} {l c:Int} (ih:∀y∈ar,qA y) (hal:ar.length≤1000000):qA (.mk 6 nm v mu ar ns bo l c):=by
 intro cs w D hx hb;have h0:dM (.mk 6 nm v mu ar ns bo l c)=lZ (dF ar)++[⟨#[46]⟩,nm]:=by rw[dM];rfl
 rw[h0]at hb⊢;clear h0;have vk:=ai hx;rw[dA]at hx;obtain⟨va,vn,vb,xa,xb,rfl,-,-,ha,hra,hrn,hb2,hrb⟩:=hx;obtain⟨aa,ca,rfl⟩:=hra.parts;obtain⟨an,cn,rfl⟩:=hrn.parts;obtain⟨ab,cb,rfl⟩:=hrb.parts;have HA:=ai ha;have kY:=ai hra;have pV:=ai hrn;have HB2:=ai hb2;have jV:=ai hrb;have HB:=ai hb;clear ha hra hrn hb2 hrb hb;obtain⟨W,hW⟩:=bF (w.alloc (.cells #[Value.int .i64 6,aI nm,aX v,bK mu,.slice aa ar.length ca,.slice an ns.length cn,.slice ab bo.length cb,ah l,ah c] 56));have ST0:Hid (Step Sf w W):=by rw[hW];exact bg.alloc _
 have d_:Hid (∀X,Step Sf W X→X.heap[w.heap.size]?=some (.cells #[Value.int .i64 6,aI nm,aX v,bK mu,.slice aa ar.length ca,.slice an ns.length cn,.slice ab bo.length cb,ah l,ah c] 56 (0,0))):=by intro X hX;rw[hW]at hX;exact hX.keep (aC _ _) (fun h=>h)
 have HW:=ai hW;have hsz:w.heap.size≤W.heap.size:=ST0.o.size;clear hW;have bJ:Hid (∀X,Step Sf W X→∀(j:Nat) u,[Value.int .i64 6,aI nm,aX v,bK mu,.slice aa ar.length ca,.slice an ns.length cn,.slice ab bo.length cb,ah l,ah c][j]?=some u→X.cell? ⟨w.heap.size,0+j,none⟩=some u):=by intro X hX j u hu;rw[Nat.zero_add];exact aj (d_.o X hX) j u (by simpa using hu)
 have b0:=bJ.o W bg 0 _ rfl;rw[Nat.add_zero]at b0;go_enter Tryz.func12,Tryz.ntmps12;go_upto_region 1 with fail
 rw[←HW.o];go_upto_region 15 with fail
 refine au W [.p (.agg [Value.int .i64 6,aI nm,aX v,bK mu,.slice aa ar.length ca,.slice an ns.length cn,.slice ab bo.length cb,ah l,ah c].toArray),.r [] (aH (lZ (dF ar))),.p (.pointer (some ⟨w.heap.size,1,none⟩)),.p (.string nm),.r [] (aH [⟨#[46]⟩,nm]),.r [1,4] (aH ((lZ (dF ar))++[⟨#[46]⟩,nm])),.r [5] (aH ((lZ (dF ar))++[⟨#[46]⟩,nm]))] kr bg (iR (Nat.le_refl _)) ?_ kr ?_
 ·refine OB.ld w.heap.size 0 [Value.int .i64 6,aI nm,aX v,bK mu,.slice aa ar.length ca,.slice an ns.length cn,.slice ab bo.length cb,ah l,ah c] _ bJ.o Tryz.underlying56 Tryz.aO ?_;refine OB.c #[.agg [Value.int .i64 6,aI nm,aX v,bK mu,.slice aa ar.length ca,.slice an ns.length cn,.slice ab bo.length cb,ah l,ah c].toArray] Tryz.func33 (fun X hX=>first_any ih _ X D (dA.step (ST0.o.trans hX) (fun _ _ h=>h) _ _ vk.o) hal (by have h:=HB.o;simp only[List.length_append,List.length_cons,List.length_nil]at h⊢;omega)) ?_;refine OB.p ?_;refine OB.p ?_ (fun X hX=>by have c:=bJ.o X hX 1 _ rfl;rw[Nat.zero_add]at c;go_simp);refine OB.bs [⟨#[46]⟩,nm] 2 ?_;refine OB.app 43 46 (by have h:=HB.o;simp only[List.length_append,List.length_cons,List.length_nil]at h⊢;omega) ?_;refine OB.mv 47 ?_;exact OB.nil
 intro V X f hX hf;have h4:(aH _).r _ X _:=hf 6 kr;simp only[dm,Act.put,List.setIfInBounds_toArray,List.set_cons_zero,List.set_cons_succ,Nat.zero_add];go_wp2_with fail;go_ret;exact⟨_,rfl,ST0.o.trans hX,(aH _).ok.mono (fun q _ h=>Nat.le_trans hsz h.1) h4⟩
theorem Zy {nm:ByteArray} {v:Int} {mu:Bool} {ar:List Ex} {ns:List ByteArray} {bo:List St} {l c:Int} (ih:∀y∈ar,qA y) (hal:ar.length≤1000000):qA (.mk 7 nm v mu ar ns bo l c):=by
 intro cs w D hx hb;have h0:dM (.mk 7 nm v mu ar ns bo l c)=[⟨#[42]⟩]++lZ (dF ar):=by rw[dM];rfl
 rw[h0]at hb⊢;clear h0;have vk:=ai hx;rw[dA]at hx;obtain⟨va,vn,vb,xa,xb,rfl,-,-,ha,hra,hrn,hb2,hrb⟩:=hx;obtain⟨aa,ca,rfl⟩:=hra.parts;obtain⟨an,cn,rfl⟩:=hrn.parts;obtain⟨ab,cb,rfl⟩:=hrb.parts;have HA:=ai ha;have kY:=ai hra;have pV:=ai hrn;have HB2:=ai hb2;have jV:=ai hrb;have HB:=ai hb;clear ha hra hrn hb2 hrb hb;obtain⟨W,hW⟩:=bF (w.alloc (.cells #[Value.int .i64 7,aI nm,aX v,bK mu,.slice aa ar.length ca,.slice an ns.length cn,.slice ab bo.length cb,ah l,ah c] 56));have ST0:Hid (Step Sf w W):=by rw[hW];exact bg.alloc _
 have d_:Hid (∀X,Step Sf W X→X.heap[w.heap.size]?=some (.cells #[Value.int .i64 7,aI nm,aX v,bK mu,.slice aa ar.length ca,.slice an ns.length cn,.slice ab bo.length cb,ah l,ah c] 56 (0,0))):=by intro X hX;rw[hW]at hX;exact hX.keep (aC _ _) (fun h=>h)
 have HW:=ai hW;have hsz:w.heap.size≤W.heap.size:=ST0.o.size;clear hW;have bJ:Hid (∀X,Step Sf W X→∀(j:Nat) u,[Value.int .i64 7,aI nm,aX v,bK mu,.slice aa ar.length ca,.slice an ns.length cn,.slice ab bo.length cb,ah l,ah c][j]?=some u→X.cell? ⟨w.heap.size,0+j,none⟩=some u):=by intro X hX j u hu;rw[Nat.zero_add];exact aj (d_.o X hX) j u (by simpa using hu)
 have b0:=bJ.o W bg 0 _ rfl;rw[Nat.add_zero]at b0;go_enter Tryz.func12,Tryz.ntmps12;go_upto_region 1 with fail
 rw[←HW.o];go_upto_region 17 with fail
 refine au W [.r [] (aH [⟨#[42]⟩]),.p (.agg [Value.int .i64 7,aI nm,aX v,bK mu,.slice aa ar.length ca,.slice an ns.length cn,.slice ab bo.length cb,ah l,ah c].toArray),.r [] (aH (lZ (dF ar))),.r [0,2] (aH ([⟨#[42]⟩]++(lZ (dF ar)))),.r [3] (aH ([⟨#[42]⟩]++(lZ (dF ar))))] kr bg (iR (Nat.le_refl _)) ?_ kr ?_
 ·refine OB.bs [⟨#[42]⟩] 1 ?_;refine OB.ld w.heap.size 0 [Value.int .i64 7,aI nm,aX v,bK mu,.slice aa ar.length ca,.slice an ns.length cn,.slice ab bo.length cb,ah l,ah c] _ bJ.o Tryz.underlying56 Tryz.aO ?_;refine OB.c #[.agg [Value.int .i64 7,aI nm,aX v,bK mu,.slice aa ar.length ca,.slice an ns.length cn,.slice ab bo.length cb,ah l,ah c].toArray] Tryz.func33 (fun X hX=>first_any ih _ X D (dA.step (ST0.o.trans hX) (fun _ _ h=>h) _ _ vk.o) hal (by have h:=HB.o;simp only[List.length_append,List.length_cons,List.length_nil]at h⊢;omega)) ?_;refine OB.app 50 52 (by have h:=HB.o;simp only[List.length_append,List.length_cons,List.length_nil]at h⊢;omega) ?_;refine OB.mv 53 ?_;exact OB.nil
 intro V X f hX hf;have h4:(aH _).r _ X _:=hf 4 kr;simp only[dm,Act.put,List.setIfInBounds_toArray,List.set_cons_zero,List.set_cons_succ,Nat.zero_add];go_wp2_with fail;go_ret;exact⟨_,rfl,ST0.o.trans hX,(aH _).ok.mono (fun q _ h=>Nat.le_trans hsz h.1) h4⟩
theorem Zz {nm:ByteArray} {v:Int} {mu:Bool} {ar:List Ex} {ns:List ByteArray} {bo:List St} {l c:Int} (ih:∀y∈ar,qA y) (hal:ar.length≤1000000):qA (.mk 9 nm v mu ar ns bo l c):=by
 intro cs w D hx hb;have h0:dM (.mk 9 nm v mu ar ns bo l c)=[⟨#[66,111,120]⟩]++([⟨#[40]⟩]++lZ (dF ar)++[⟨#[41]⟩]):=by rw[dM];rfl
 rw[h0]at hb⊢;clear h0;have vk:=ai hx;rw[dA]at hx;obtain⟨va,vn,vb,xa,xb,rfl,-,-,ha,hra,hrn,hb2,hrb⟩:=hx;obtain⟨aa,ca,rfl⟩:=hra.parts;obtain⟨an,cn,rfl⟩:=hrn.parts;obtain⟨ab,cb,rfl⟩:=hrb.parts;have HA:=ai ha;have kY:=ai hra;have pV:=ai hrn;have HB2:=ai hb2;have jV:=ai hrb;have HB:=ai hb;clear ha hra hrn hb2 hrb hb;obtain⟨W,hW⟩:=bF (w.alloc (.cells #[Value.int .i64 9,aI nm,aX v,bK mu,.slice aa ar.length ca,.slice an ns.length cn,.slice ab bo.length cb,ah l,ah c] 56));have ST0:Hid (Step Sf w W):=by rw[hW];exact bg.alloc _
 have d_:Hid (∀X,Step Sf W X→X.heap[w.heap.size]?=some (.cells #[Value.int .i64 9,aI nm,aX v,bK mu,.slice aa ar.length ca,.slice an ns.length cn,.slice ab bo.length cb,ah l,ah c] 56 (0,0))):=by intro X hX;rw[hW]at hX;exact hX.keep (aC _ _) (fun h=>h)
 have HW:=ai hW;have hsz:w.heap.size≤W.heap.size:=ST0.o.size;clear hW;have bJ:Hid (∀X,Step Sf W X→∀(j:Nat) u,[Value.int .i64 9,aI nm,aX v,bK mu,.slice aa ar.length ca,.slice an ns.length cn,.slice ab bo.length cb,ah l,ah c][j]?=some u→X.cell? ⟨w.heap.size,0+j,none⟩=some u):=by intro X hX j u hu;rw[Nat.zero_add];exact aj (d_.o X hX) j u (by simpa using hu)
 have b0:=bJ.o W bg 0 _ rfl;rw[Nat.add_zero]at b0;go_enter Tryz.func12,Tryz.ntmps12;go_upto_region 1 with fail
 rw[←HW.o];go_upto_region 23 with fail
 refine au W [.r [] (aH [⟨#[66,111,120]⟩]),.p (.agg [Value.int .i64 9,aI nm,aX v,bK mu,.slice aa ar.length ca,.slice an ns.length cn,.slice ab bo.length cb,ah l,ah c].toArray),.r [] (aH (lZ (dF ar))),.r [2] (aH ([⟨#[40]⟩]++(lZ (dF ar))++[⟨#[41]⟩])),.r [0,3] (aH ([⟨#[66,111,120]⟩]++([⟨#[40]⟩]++(lZ (dF ar))++[⟨#[41]⟩]))),.r [4] (aH ([⟨#[66,111,120]⟩]++([⟨#[40]⟩]++(lZ (dF ar))++[⟨#[41]⟩])))] kr bg (iR (Nat.le_refl _)) ?_ kr ?_
 ·refine OB.bs [⟨#[66,111,120]⟩] 1 ?_;refine OB.ld w.heap.size 0 [Value.int .i64 9,aI nm,aX v,bK mu,.slice aa ar.length ca,.slice an ns.length cn,.slice ab bo.length cb,ah l,ah c] _ bJ.o Tryz.underlying56 Tryz.aO ?_;refine OB.c #[.agg [Value.int .i64 9,aI nm,aX v,bK mu,.slice aa ar.length ca,.slice an ns.length cn,.slice ab bo.length cb,ah l,ah c].toArray] Tryz.func33 (fun X hX=>first_any ih _ X D (dA.step (ST0.o.trans hX) (fun _ _ h=>h) _ _ vk.o) hal (by have h:=HB.o;simp only[List.length_append,List.length_cons,List.length_nil]at h⊢;omega)) ?_;refine OB.cu (ok:=aH (lZ (dF ar))) 70 (fun v=> #[.string ⟨#[40]⟩,v,.string ⟨#[41]⟩]) Tryz.func26 (fun X v C hX hv=>gK _ _ _ v X C (aH.strs hv) (by have h:=HB.o;simp only[List.length_append,List.length_cons,List.length_nil]at h⊢;omega)) ?_;refine OB.app 68 71 (by have h:=HB.o;simp only[List.length_append,List.length_cons,List.length_nil]at h⊢;omega) ?_;refine OB.mv 72 ?_;exact OB.nil
 intro V X f hX hf;have h4:(aH _).r _ X _:=hf 5 kr;simp only[dm,Act.put,List.setIfInBounds_toArray,List.set_cons_zero,List.set_cons_succ,Nat.zero_add];go_wp2_with fail;go_ret;exact⟨_,rfl,ST0.o.trans hX,(aH _).ok.mono (fun q _ h=>Nat.le_trans hsz h.1) h4⟩
theorem Vq {nm:ByteArray} {v:Int} {mu:Bool} {ar:List Ex} {ns:List ByteArray} {bo:List St} {l c:Int} (ih:∀y∈ar,qA y) (hal:ar.length≤1000000):qA (.mk 10 nm v mu ar ns bo l c):=by
 intro cs w D hx hb;have h0:dM (.mk 10 nm v mu ar ns bo l c)=[⟨#[117,110,98,111,120]⟩]++([⟨#[40]⟩]++lZ (dF ar)++[⟨#[41]⟩]):=by rw[dM];rfl
 rw[h0]at hb⊢;clear h0;have vk:=ai hx;rw[dA]at hx;obtain⟨va,vn,vb,xa,xb,rfl,-,-,ha,hra,hrn,hb2,hrb⟩:=hx;obtain⟨aa,ca,rfl⟩:=hra.parts;obtain⟨an,cn,rfl⟩:=hrn.parts;obtain⟨ab,cb,rfl⟩:=hrb.parts;have HA:=ai ha;have kY:=ai hra;have pV:=ai hrn;have HB2:=ai hb2;have jV:=ai hrb;have HB:=ai hb;clear ha hra hrn hb2 hrb hb;obtain⟨W,hW⟩:=bF (w.alloc (.cells #[Value.int .i64 10,aI nm,aX v,bK mu,.slice aa ar.length ca,.slice an ns.length cn,.slice ab bo.length cb,ah l,ah c] 56));have ST0:Hid (Step Sf w W):=by rw[hW];exact bg.alloc _
 have d_:Hid (∀X,Step Sf W X→X.heap[w.heap.size]?=some (.cells #[Value.int .i64 10,aI nm,aX v,bK mu,.slice aa ar.length ca,.slice an ns.length cn,.slice ab bo.length cb,ah l,ah c] 56 (0,0))):=by intro X hX;rw[hW]at hX;exact hX.keep (aC _ _) (fun h=>h)
 have HW:=ai hW;have hsz:w.heap.size≤W.heap.size:=ST0.o.size;clear hW;have bJ:Hid (∀X,Step Sf W X→∀(j:Nat) u,[Value.int .i64 10,aI nm,aX v,bK mu,.slice aa ar.length ca,.slice an ns.length cn,.slice ab bo.length cb,ah l,ah c][j]?=some u→X.cell? ⟨w.heap.size,0+j,none⟩=some u):=by intro X hX j u hu;rw[Nat.zero_add];exact aj (d_.o X hX) j u (by simpa using hu)
 have b0:=bJ.o W bg 0 _ rfl;rw[Nat.add_zero]at b0;go_enter Tryz.func12,Tryz.ntmps12;go_upto_region 1 with fail
 rw[←HW.o];go_upto_region 25 with fail
 refine au W [.r [] (aH [⟨#[117,110,98,111,120]⟩]),.p (.agg [Value.int .i64 10,aI nm,aX v,bK mu,.slice aa ar.length ca,.slice an ns.length cn,.slice ab bo.length cb,ah l,ah c].toArray),.r [] (aH (lZ (dF ar))),.r [2] (aH ([⟨#[40]⟩]++(lZ (dF ar))++[⟨#[41]⟩])),.r [0,3] (aH ([⟨#[117,110,98,111,120]⟩]++([⟨#[40]⟩]++(lZ (dF ar))++[⟨#[41]⟩]))),.r [4] (aH ([⟨#[117,110,98,111,120]⟩]++([⟨#[40]⟩]++(lZ (dF ar))++[⟨#[41]⟩])))] kr bg (iR (Nat.le_refl _)) ?_ kr ?_
 ·refine OB.bs [⟨#[117,110,98,111,120]⟩] 1 ?_;refine OB.ld w.heap.size 0 [Value.int .i64 10,aI nm,aX v,bK mu,.slice aa ar.length ca,.slice an ns.length cn,.slice ab bo.length cb,ah l,ah c] _ bJ.o Tryz.underlying56 Tryz.aO ?_;refine OB.c #[.agg [Value.int .i64 10,aI nm,aX v,bK mu,.slice aa ar.length ca,.slice an ns.length cn,.slice ab bo.length cb,ah l,ah c].toArray] Tryz.func33 (fun X hX=>first_any ih _ X D (dA.step (ST0.o.trans hX) (fun _ _ h=>h) _ _ vk.o) hal (by have h:=HB.o;simp only[List.length_append,List.length_cons,List.length_nil]at h⊢;omega)) ?_;refine OB.cu (ok:=aH (lZ (dF ar))) 77 (fun v=> #[.string ⟨#[40]⟩,v,.string ⟨#[41]⟩]) Tryz.func26 (fun X v C hX hv=>gK _ _ _ v X C (aH.strs hv) (by have h:=HB.o;simp only[List.length_append,List.length_cons,List.length_nil]at h⊢;omega)) ?_;refine OB.app 75 78 (by have h:=HB.o;simp only[List.length_append,List.length_cons,List.length_nil]at h⊢;omega) ?_;refine OB.mv 79 ?_;exact OB.nil
 intro V X f hX hf;have h4:(aH _).r _ X _:=hf 5 kr;simp only[dm,Act.put,List.setIfInBounds_toArray,List.set_cons_zero,List.set_cons_succ,Nat.zero_add];go_wp2_with fail;go_ret;exact⟨_,rfl,ST0.o.trans hX,(aH _).ok.mono (fun q _ h=>Nat.le_trans hsz h.1) h4⟩
theorem Vr {nm:ByteArray} {v:Int} {mu:Bool} {ar:List Ex} {ns:List ByteArray} {bo:List St} {l c:Int} (ih:∀y∈ar,qA y) (hal:ar.length≤1000000):qA (.mk 15 nm v mu ar ns bo l c):=by
 intro cs w D hx hb;have h0:dM (.mk 15 nm v mu ar ns bo l c)=[nm]++lZ (dF ar):=by rw[dM];rfl
 rw[h0]at hb⊢;clear h0;have vk:=ai hx;rw[dA]at hx;obtain⟨va,vn,vb,xa,xb,rfl,-,-,ha,hra,hrn,hb2,hrb⟩:=hx;obtain⟨aa,ca,rfl⟩:=hra.parts;obtain⟨an,cn,rfl⟩:=hrn.parts;obtain⟨ab,cb,rfl⟩:=hrb.parts;have HA:=ai ha;have kY:=ai hra;have pV:=ai hrn;have HB2:=ai hb2;have jV:=ai hrb;have HB:=ai hb;clear ha hra hrn hb2 hrb hb;obtain⟨W,hW⟩:=bF (w.alloc (.cells #[Value.int .i64 15,aI nm,aX v,bK mu,.slice aa ar.length ca,.slice an ns.length cn,.slice ab bo.length cb,ah l,ah c] 56));have ST0:Hid (Step Sf w W):=by rw[hW];exact bg.alloc _
 have d_:Hid (∀X,Step Sf W X→X.heap[w.heap.size]?=some (.cells #[Value.int .i64 15,aI nm,aX v,bK mu,.slice aa ar.length ca,.slice an ns.length cn,.slice ab bo.length cb,ah l,ah c] 56 (0,0))):=by intro X hX;rw[hW]at hX;exact hX.keep (aC _ _) (fun h=>h)
 have HW:=ai hW;have hsz:w.heap.size≤W.heap.size:=ST0.o.size;clear hW;have bJ:Hid (∀X,Step Sf W X→∀(j:Nat) u,[Value.int .i64 15,aI nm,aX v,bK mu,.slice aa ar.length ca,.slice an ns.length cn,.slice ab bo.length cb,ah l,ah c][j]?=some u→X.cell? ⟨w.heap.size,0+j,none⟩=some u):=by intro X hX j u hu;rw[Nat.zero_add];exact aj (d_.o X hX) j u (by simpa using hu)
 have b0:=bJ.o W bg 0 _ rfl;rw[Nat.add_zero]at b0;go_enter Tryz.func12,Tryz.ntmps12;go_upto_region 1 with fail
 rw[←HW.o];go_upto_region 43 with fail
 refine au W [.p (.pointer (some ⟨w.heap.size,1,none⟩)),.p (.string nm),.r [] (aH [nm]),.p (.agg [Value.int .i64 15,aI nm,aX v,bK mu,.slice aa ar.length ca,.slice an ns.length cn,.slice ab bo.length cb,ah l,ah c].toArray),.r [] (aH (lZ (dF ar))),.r [2,4] (aH ([nm]++(lZ (dF ar)))),.r [5] (aH ([nm]++(lZ (dF ar))))] kr bg (iR (Nat.le_refl _)) ?_ kr ?_
 ·refine OB.p ?_;refine OB.p ?_ (fun X hX=>by have c:=bJ.o X hX 1 _ rfl;rw[Nat.zero_add]at c;go_simp);refine OB.bs [nm] 1 ?_;refine OB.ld w.heap.size 0 [Value.int .i64 15,aI nm,aX v,bK mu,.slice aa ar.length ca,.slice an ns.length cn,.slice ab bo.length cb,ah l,ah c] _ bJ.o Tryz.underlying56 Tryz.aO ?_;refine OB.c #[.agg [Value.int .i64 15,aI nm,aX v,bK mu,.slice aa ar.length ca,.slice an ns.length cn,.slice ab bo.length cb,ah l,ah c].toArray] Tryz.func33 (fun X hX=>first_any ih _ X D (dA.step (ST0.o.trans hX) (fun _ _ h=>h) _ _ vk.o) hal (by have h:=HB.o;simp only[List.length_append,List.length_cons,List.length_nil]at h⊢;omega)) ?_;refine OB.app 165 167 (by have h:=HB.o;simp only[List.length_append,List.length_cons,List.length_nil]at h⊢;omega) ?_;refine OB.mv 168 ?_;exact OB.nil
 intro V X f hX hf;have h4:(aH _).r _ X _:=hf 6 kr;simp only[dm,Act.put,List.setIfInBounds_toArray,List.set_cons_zero,List.set_cons_succ,Nat.zero_add];go_wp2_with fail;go_ret;exact⟨_,rfl,ST0.o.trans hX,(aH _).ok.mono (fun q _ h=>Nat.le_trans hsz h.1) h4⟩
theorem Vs {nm:ByteArray} {v:Int} {mu:Bool} {ar:List Ex} {ns:List ByteArray} {bo:List St} {l c:Int}:qA (.mk 16 nm v mu ar ns bo l c):=by
 intro cs w D hx hb;have h0:dM (.mk 16 nm v mu ar ns bo l c)=[⟨#[99,104,111,111,115,101]⟩]:=by rw[dM];rfl
 rw[h0]at hb⊢;clear h0;have vk:=ai hx;rw[dA]at hx;obtain⟨va,vn,vb,xa,xb,rfl,-,-,ha,hra,hrn,hb2,hrb⟩:=hx;obtain⟨aa,ca,rfl⟩:=hra.parts;obtain⟨an,cn,rfl⟩:=hrn.parts;obtain⟨ab,cb,rfl⟩:=hrb.parts;have HA:=ai ha;have kY:=ai hra;have pV:=ai hrn;have HB2:=ai hb2;have jV:=ai hrb;have HB:=ai hb;clear ha hra hrn hb2 hrb hb;obtain⟨W,hW⟩:=bF (w.alloc (.cells #[Value.int .i64 16,aI nm,aX v,bK mu,.slice aa ar.length ca,.slice an ns.length cn,.slice ab bo.length cb,ah l,ah c] 56));have ST0:Hid (Step Sf w W):=by rw[hW];exact bg.alloc _
 have d_:Hid (∀X,Step Sf W X→X.heap[w.heap.size]?=some (.cells #[Value.int .i64 16,aI nm,aX v,bK mu,.slice aa ar.length ca,.slice an ns.length cn,.slice ab bo.length cb,ah l,ah c] 56 (0,0))):=by intro X hX;rw[hW]at hX;exact hX.keep (aC _ _) (fun h=>h)
 have HW:=ai hW;have hsz:w.heap.size≤W.heap.size:=ST0.o.size;clear hW;have bJ:Hid (∀X,Step Sf W X→∀(j:Nat) u,[Value.int .i64 16,aI nm,aX v,bK mu,.slice aa ar.length ca,.slice an ns.length cn,.slice ab bo.length cb,ah l,ah c][j]?=some u→X.cell? ⟨w.heap.size,0+j,none⟩=some u):=by intro X hX j u hu;rw[Nat.zero_add];exact aj (d_.o X hX) j u (by simpa using hu)
 have b0:=bJ.o W bg 0 _ rfl;rw[Nat.add_zero]at b0;go_enter Tryz.func12,Tryz.ntmps12;go_upto_region 1 with fail
 rw[←HW.o];go_upto_region 45 with fail
 refine au W [.r [] (aH [⟨#[99,104,111,111,115,101]⟩]),.r [0] (aH [⟨#[99,104,111,111,115,101]⟩])] kr bg (iR (Nat.le_refl _)) ?_ kr ?_
 ·refine OB.bs [⟨#[99,104,111,111,115,101]⟩] 1 ?_;refine OB.mv 171 ?_;exact OB.nil
 intro V X f hX hf;have h4:(aH _).r _ X _:=hf 1 kr;simp only[dm,Act.put,List.setIfInBounds_toArray,List.set_cons_zero,List.set_cons_succ,Nat.zero_add];go_wp2_with fail;go_ret;exact⟨_,rfl,ST0.o.trans hX,(aH _).ok.mono (fun q _ h=>Nat.le_trans hsz h.1) h4⟩
theorem Vu {nm:ByteArray} {v:Int} {mu:Bool} {ar:List Ex} {ns:List ByteArray} {bo:List St} {l c:Int} (ih:∀y∈ar,qA y) (hal:ar.length≤1000000):qA (.mk 18 nm v mu ar ns bo l c):=by
 intro cs w D hx hb;have h0:dM (.mk 18 nm v mu ar ns bo l c)=[⟨#[40]⟩]++lZ (dF ar)++[⟨#[41]⟩]:=by rw[dM];rfl
 rw[h0]at hb⊢;clear h0;have vk:=ai hx;rw[dA]at hx;obtain⟨va,vn,vb,xa,xb,rfl,-,-,ha,hra,hrn,hb2,hrb⟩:=hx;obtain⟨aa,ca,rfl⟩:=hra.parts;obtain⟨an,cn,rfl⟩:=hrn.parts;obtain⟨ab,cb,rfl⟩:=hrb.parts;have HA:=ai ha;have kY:=ai hra;have pV:=ai hrn;have HB2:=ai hb2;have jV:=ai hrb;have HB:=ai hb;clear ha hra hrn hb2 hrb hb;obtain⟨W,hW⟩:=bF (w.alloc (.cells #[Value.int .i64 18,aI nm,aX v,bK mu,.slice aa ar.length ca,.slice an ns.length cn,.slice ab bo.length cb,ah l,ah c] 56));have ST0:Hid (Step Sf w W):=by rw[hW];exact bg.alloc _
 have d_:Hid (∀X,Step Sf W X→X.heap[w.heap.size]?=some (.cells #[Value.int .i64 18,aI nm,aX v,bK mu,.slice aa ar.length ca,.slice an ns.length cn,.slice ab bo.length cb,ah l,ah c] 56 (0,0))):=by intro X hX;rw[hW]at hX;exact hX.keep (aC _ _) (fun h=>h)
 have HW:=ai hW;have hsz:w.heap.size≤W.heap.size:=ST0.o.size;clear hW;have bJ:Hid (∀X,Step Sf W X→∀(j:Nat) u,[Value.int .i64 18,aI nm,aX v,bK mu,.slice aa ar.length ca,.slice an ns.length cn,.slice ab bo.length cb,ah l,ah c][j]?=some u→X.cell? ⟨w.heap.size,0+j,none⟩=some u):=by intro X hX j u hu;rw[Nat.zero_add];exact aj (d_.o X hX) j u (by simpa using hu)
 have b0:=bJ.o W bg 0 _ rfl;rw[Nat.add_zero]at b0;go_enter Tryz.func12,Tryz.ntmps12;go_upto_region 1 with fail
 rw[←HW.o];go_upto_region 50 with fail
 refine au W [.p (.agg [Value.int .i64 18,aI nm,aX v,bK mu,.slice aa ar.length ca,.slice an ns.length cn,.slice ab bo.length cb,ah l,ah c].toArray),.r [] (aH (lZ (dF ar))),.r [1] (aH ([⟨#[40]⟩]++(lZ (dF ar))++[⟨#[41]⟩])),.r [2] (aH ([⟨#[40]⟩]++(lZ (dF ar))++[⟨#[41]⟩]))] kr bg (iR (Nat.le_refl _)) ?_ kr ?_
 ·refine OB.ld w.heap.size 0 [Value.int .i64 18,aI nm,aX v,bK mu,.slice aa ar.length ca,.slice an ns.length cn,.slice ab bo.length cb,ah l,ah c] _ bJ.o Tryz.underlying56 Tryz.aO ?_;refine OB.c #[.agg [Value.int .i64 18,aI nm,aX v,bK mu,.slice aa ar.length ca,.slice an ns.length cn,.slice ab bo.length cb,ah l,ah c].toArray] Tryz.func33 (fun X hX=>first_any ih _ X D (dA.step (ST0.o.trans hX) (fun _ _ h=>h) _ _ vk.o) hal (by have h:=HB.o;simp only[List.length_append,List.length_cons,List.length_nil]at h⊢;omega)) ?_;refine OB.cu (ok:=aH (lZ (dF ar))) 191 (fun v=> #[.string ⟨#[40]⟩,v,.string ⟨#[41]⟩]) Tryz.func26 (fun X v C hX hv=>gK _ _ _ v X C (aH.strs hv) (by have h:=HB.o;simp only[List.length_append,List.length_cons,List.length_nil]at h⊢;omega)) ?_;refine OB.mv 192 ?_;exact OB.nil
 intro V X f hX hf;have h4:(aH _).r _ X _:=hf 3 kr;simp only[dm,Act.put,List.setIfInBounds_toArray,List.set_cons_zero,List.set_cons_succ,Nat.zero_add];go_wp2_with fail;go_ret;exact⟨_,rfl,ST0.o.trans hX,(aH _).ok.mono (fun q _ h=>Nat.le_trans hsz h.1) h4⟩
theorem Vw {nm:ByteArray} {v:Int} {mu:Bool} {ar:List Ex} {ns:List ByteArray} {bo:List St} {l c:Int} (ih:∀y∈ar,qA y) (hal:ar.length≤1000000):qA (.mk 12 nm v mu ar ns bo l c):=by
 intro cs w D hx hb;have h0:dM (.mk 12 nm v mu ar ns bo l c)=[nm]++([⟨#[40]⟩]++aF (ar.map dM)++[⟨#[41]⟩]):=by rw[dM,iY];rfl
 rw[h0]at hb⊢;clear h0;have vk:=ai hx;rw[dA]at hx;obtain⟨va,vn,vb,xa,xb,rfl,-,-,ha,hra,hrn,hb2,hrb⟩:=hx;obtain⟨aa,ca,rfl⟩:=hra.parts;obtain⟨an,cn,rfl⟩:=hrn.parts;obtain⟨ab,cb,rfl⟩:=hrb.parts;have HA:=ai ha;have kY:=ai hra;have pV:=ai hrn;have HB2:=ai hb2;have jV:=ai hrb;have HB:=ai hb;clear ha hra hrn hb2 hrb hb;obtain⟨W,hW⟩:=bF (w.alloc (.cells #[Value.int .i64 12,aI nm,aX v,bK mu,.slice aa ar.length ca,.slice an ns.length cn,.slice ab bo.length cb,ah l,ah c] 56));have ST0:Hid (Step Sf w W):=by rw[hW];exact bg.alloc _
 have d_:Hid (∀X,Step Sf W X→X.heap[w.heap.size]?=some (.cells #[Value.int .i64 12,aI nm,aX v,bK mu,.slice aa ar.length ca,.slice an ns.length cn,.slice ab bo.length cb,ah l,ah c] 56 (0,0))):=by intro X hX;rw[hW]at hX;exact hX.keep (aC _ _) (fun h=>h)
 have HW:=ai hW;have hsz:w.heap.size≤W.heap.size:=ST0.o.size;clear hW;have bJ:Hid (∀X,Step Sf W X→∀(j:Nat) u,[Value.int .i64 12,aI nm,aX v,bK mu,.slice aa ar.length ca,.slice an ns.length cn,.slice ab bo.length cb,ah l,ah c][j]?=some u→X.cell? ⟨w.heap.size,0+j,none⟩=some u):=by intro X hX j u hu;rw[Nat.zero_add];exact aj (d_.o X hX) j u (by simpa using hu)
 have b0:=bJ.o W bg 0 _ rfl;rw[Nat.add_zero]at b0;go_enter Tryz.func12,Tryz.ntmps12;go_upto_region 1 with fail
 rw[←HW.o];have hbs:∀y∈ar,(dM y).length≤100000000:=fun y hy=>Nat.le_trans (fU (List.mem_map_of_mem hy)) (by have h:=HB.o;simp only[List.length_append,List.length_cons,List.length_nil]at h⊢;omega);go_upto_region 34 with fail
 refine au W [.p (.pointer (some ⟨w.heap.size,1,none⟩)),.p (.string nm),.r [] (aH [nm]),.p (.pointer (some ⟨w.heap.size,4,none⟩)),.p (.slice aa ar.length ca),.r [] (aH (aF (ar.map dM))),.r [5] (aH ([⟨#[40]⟩]++aF (ar.map dM)++[⟨#[41]⟩])),.r [2,6] (aH ([nm]++([⟨#[40]⟩]++aF (ar.map dM)++[⟨#[41]⟩]))),.r [7] (aH ([nm]++([⟨#[40]⟩]++aF (ar.map dM)++[⟨#[41]⟩])))] kr bg (iR (Nat.le_refl _)) ?_ kr ?_
 ·refine OB.p ?_;refine OB.p ?_ (fun X hX=>by have c:=bJ.o X hX 1 _ rfl;rw[Nat.zero_add]at c;go_simp);refine OB.bs [nm] 1 ?_;refine OB.p ?_;refine OB.p ?_ (fun X hX=>by have c:=bJ.o X hX 4 _ rfl;rw[Nat.zero_add]at c;go_simp);refine OB.c #[.slice aa ar.length ca] Tryz.func35 (fun X hX=>kJ ar _ X D xa (kY.o.step (ST0.o.trans hX) (fun _ _ h=>h)) (bY.step (ST0.o.trans hX) (fun _ _ h=>h) _ _ HA.o) (Nat.le_trans hal dc) ih hbs (by have h:=HB.o;simp only[List.length_append,List.length_cons,List.length_nil]at h⊢;omega)) ?_;refine OB.cu (ok:=aH (aF (ar.map dM))) 126 (fun v=> #[.string ⟨#[40]⟩,v,.string ⟨#[41]⟩]) Tryz.func26 (fun X v C hX hv=>gK _ _ _ v X C (aH.strs hv) (by have h:=HB.o;simp only[List.length_append,List.length_cons,List.length_nil]at h⊢;omega)) ?_;refine OB.app 123 127 (by have h:=HB.o;simp only[List.length_append,List.length_cons,List.length_nil]at h⊢;omega) ?_;refine OB.mv 128 ?_;exact OB.nil
 intro V X f hX hf;have h4:(aH _).r _ X _:=hf 8 kr;simp only[dm,Act.put,List.setIfInBounds_toArray,List.set_cons_zero,List.set_cons_succ,Nat.zero_add];go_wp2_with fail;go_ret;exact⟨_,rfl,ST0.o.trans hX,(aH _).ok.mono (fun q _ h=>Nat.le_trans hsz h.1) h4⟩
theorem Vx {nm:ByteArray} {v:Int} {mu:Bool} {ar:List Ex} {ns:List ByteArray} {bo:List St} {l c:Int} (ih:∀y∈ar,qA y) (hal:ar.length≤1000000):qA (.mk 13 nm v mu ar ns bo l c):=by
 intro cs w D hx hb;have h0:dM (.mk 13 nm v mu ar ns bo l c)=lZ (dF ar)++[⟨#[46]⟩,nm]++([⟨#[40]⟩]++aF ((dF ar).drop 1)++[⟨#[41]⟩]):=by rw[dM];rfl
 rw[h0]at hb⊢;clear h0;have vk:=ai hx;rw[dA]at hx;obtain⟨va,vn,vb,xa,xb,rfl,-,-,ha,hra,hrn,hb2,hrb⟩:=hx;obtain⟨aa,ca,rfl⟩:=hra.parts;obtain⟨an,cn,rfl⟩:=hrn.parts;obtain⟨ab,cb,rfl⟩:=hrb.parts;have HA:=ai ha;have kY:=ai hra;have pV:=ai hrn;have HB2:=ai hb2;have jV:=ai hrb;have HB:=ai hb;clear ha hra hrn hb2 hrb hb;obtain⟨W,hW⟩:=bF (w.alloc (.cells #[Value.int .i64 13,aI nm,aX v,bK mu,.slice aa ar.length ca,.slice an ns.length cn,.slice ab bo.length cb,ah l,ah c] 56));have ST0:Hid (Step Sf w W):=by rw[hW];exact bg.alloc _
 have d_:Hid (∀X,Step Sf W X→X.heap[w.heap.size]?=some (.cells #[Value.int .i64 13,aI nm,aX v,bK mu,.slice aa ar.length ca,.slice an ns.length cn,.slice ab bo.length cb,ah l,ah c] 56 (0,0))):=by intro X hX;rw[hW]at hX;exact hX.keep (aC _ _) (fun h=>h)
 have HW:=ai hW;have hsz:w.heap.size≤W.heap.size:=ST0.o.size;clear hW;have bJ:Hid (∀X,Step Sf W X→∀(j:Nat) u,[Value.int .i64 13,aI nm,aX v,bK mu,.slice aa ar.length ca,.slice an ns.length cn,.slice ab bo.length cb,ah l,ah c][j]?=some u→X.cell? ⟨w.heap.size,0+j,none⟩=some u):=by intro X hX j u hu;rw[Nat.zero_add];exact aj (d_.o X hX) j u (by simpa using hu)
 have b0:=bJ.o W bg 0 _ rfl;rw[Nat.add_zero]at b0;go_enter Tryz.func12,Tryz.ntmps12;go_upto_region 1 with fail
 rw[←HW.o];have hbs:∀y∈ar.drop 1,(dM y).length≤100000000:=fun y hy=>Nat.le_trans (fU (ls:=(dF ar).drop 1) (by rw[iY,←List.map_drop];exact List.mem_map_of_mem hy)) (by have h:=HB.o;simp only[List.length_append,List.length_cons,List.length_nil]at h⊢;omega);go_upto_region 36 with fail
 refine au W [.p (.agg [Value.int .i64 13,aI nm,aX v,bK mu,.slice aa ar.length ca,.slice an ns.length cn,.slice ab bo.length cb,ah l,ah c].toArray),.r [] (aH (lZ (dF ar))),.p (.pointer (some ⟨w.heap.size,1,none⟩)),.p (.string nm),.r [] (aH [⟨#[46]⟩,nm]),.r [1,4] (aH ((lZ (dF ar))++[⟨#[46]⟩,nm])),.p (.agg [Value.int .i64 13,aI nm,aX v,bK mu,.slice aa ar.length ca,.slice an ns.length cn,.slice ab bo.length cb,ah l,ah c].toArray),.r [] (aH (aF ((dF ar).drop 1))),.r [7] (aH ([⟨#[40]⟩]++aF ((dF ar).drop 1)++[⟨#[41]⟩])),.r [5,8] (aH (((lZ (dF ar))++[⟨#[46]⟩,nm])++([⟨#[40]⟩]++aF ((dF ar).drop 1)++[⟨#[41]⟩]))),.r [9] (aH (((lZ (dF ar))++[⟨#[46]⟩,nm])++([⟨#[40]⟩]++aF ((dF ar).drop 1)++[⟨#[41]⟩])))] kr bg (iR (Nat.le_refl _)) ?_ kr ?_
 ·refine OB.ld w.heap.size 0 [Value.int .i64 13,aI nm,aX v,bK mu,.slice aa ar.length ca,.slice an ns.length cn,.slice ab bo.length cb,ah l,ah c] _ bJ.o Tryz.underlying56 Tryz.aO ?_;refine OB.c #[.agg [Value.int .i64 13,aI nm,aX v,bK mu,.slice aa ar.length ca,.slice an ns.length cn,.slice ab bo.length cb,ah l,ah c].toArray] Tryz.func33 (fun X hX=>first_any ih _ X D (dA.step (ST0.o.trans hX) (fun _ _ h=>h) _ _ vk.o) hal (by have h:=HB.o;simp only[List.length_append,List.length_cons,List.length_nil]at h⊢;omega)) ?_;refine OB.p ?_;refine OB.p ?_ (fun X hX=>by have c:=bJ.o X hX 1 _ rfl;rw[Nat.zero_add]at c;go_simp);refine OB.bs [⟨#[46]⟩,nm] 2 ?_;refine OB.app 132 135 (by have h:=HB.o;simp only[List.length_append,List.length_cons,List.length_nil]at h⊢;omega) ?_;refine OB.ld w.heap.size 0 [Value.int .i64 13,aI nm,aX v,bK mu,.slice aa ar.length ca,.slice an ns.length cn,.slice ab bo.length cb,ah l,ah c] _ bJ.o Tryz.underlying56 Tryz.aO ?_;refine OB.c #[.agg [Value.int .i64 13,aI nm,aX v,bK mu,.slice aa ar.length ca,.slice an ns.length cn,.slice ab bo.length cb,ah l,ah c].toArray] Tryz.func36 (fun X hX=>KL ih _ X D (dA.step (ST0.o.trans hX) (fun _ _ h=>h) _ _ vk.o) hal (by have h:=HB.o;simp only[List.length_append,List.length_cons,List.length_nil]at h⊢;omega) hbs) ?_;refine OB.cu (ok:=aH (aF ((dF ar).drop 1))) 138 (fun v=> #[.string ⟨#[40]⟩,v,.string ⟨#[41]⟩]) Tryz.func26 (fun X v C hX hv=>gK _ _ _ v X C (aH.strs hv) (by have h:=HB.o;simp only[List.length_append,List.length_cons,List.length_nil]at h⊢;omega)) ?_;refine OB.app 136 139 (by have h:=HB.o;simp only[List.length_append,List.length_cons,List.length_nil]at h⊢;omega) ?_;refine OB.mv 140 ?_;exact OB.nil
 intro V X f hX hf;have h4:(aH _).r _ X _:=hf 10 kr;simp only[dm,Act.put,List.setIfInBounds_toArray,List.set_cons_zero,List.set_cons_succ,Nat.zero_add];go_wp2_with fail;go_ret;exact⟨_,rfl,ST0.o.trans hX,(aH _).ok.mono (fun q _ h=>Nat.le_trans hsz h.1) h4⟩
theorem Vy {nm:ByteArray} {v:Int} {mu:Bool} {ar:List Ex} {ns:List ByteArray} {bo:List St} {l c:Int} (ihb:KH bo) (hnl:ns.length≤1000000):qA (.mk 17 nm v mu ar ns bo l c):=by
 intro cs w D hx hb;have h0:dM (.mk 17 nm v mu ar ns bo l c)=[⟨#[97,115]⟩,nm]++([⟨#[124]⟩]++aF (ns.map fun s=>[s])++[⟨#[124]⟩])++([⟨#[123]⟩]++eX bo++[⟨#[125]⟩]):=by rw[dM];rfl
 rw[h0]at hb⊢;clear h0;have vk:=ai hx;rw[dA]at hx;obtain⟨va,vn,vb,xa,xb,rfl,-,-,ha,hra,hrn,hb2,hrb⟩:=hx;obtain⟨aa,ca,rfl⟩:=hra.parts;obtain⟨an,cn,rfl⟩:=hrn.parts;obtain⟨ab,cb,rfl⟩:=hrb.parts;have HA:=ai ha;have kY:=ai hra;have pV:=ai hrn;have HB2:=ai hb2;have jV:=ai hrb;have HB:=ai hb;clear ha hra hrn hb2 hrb hb;obtain⟨W,hW⟩:=bF (w.alloc (.cells #[Value.int .i64 17,aI nm,aX v,bK mu,.slice aa ar.length ca,.slice an ns.length cn,.slice ab bo.length cb,ah l,ah c] 56));have ST0:Hid (Step Sf w W):=by rw[hW];exact bg.alloc _
 have d_:Hid (∀X,Step Sf W X→X.heap[w.heap.size]?=some (.cells #[Value.int .i64 17,aI nm,aX v,bK mu,.slice aa ar.length ca,.slice an ns.length cn,.slice ab bo.length cb,ah l,ah c] 56 (0,0))):=by intro X hX;rw[hW]at hX;exact hX.keep (aC _ _) (fun h=>h)
 have HW:=ai hW;have hsz:w.heap.size≤W.heap.size:=ST0.o.size;clear hW;have bJ:Hid (∀X,Step Sf W X→∀(j:Nat) u,[Value.int .i64 17,aI nm,aX v,bK mu,.slice aa ar.length ca,.slice an ns.length cn,.slice ab bo.length cb,ah l,ah c][j]?=some u→X.cell? ⟨w.heap.size,0+j,none⟩=some u):=by intro X hX j u hu;rw[Nat.zero_add];exact aj (d_.o X hX) j u (by simpa using hu)
 have b0:=bJ.o W bg 0 _ rfl;rw[Nat.add_zero]at b0;go_enter Tryz.func12,Tryz.ntmps12;go_upto_region 1 with fail
 rw[←HW.o];go_upto_region 47 with fail
 refine au W [.p (.pointer (some ⟨w.heap.size,1,none⟩)),.p (.string nm),.r [] (aH [⟨#[97,115]⟩,nm]),.p (.pointer (some ⟨w.heap.size,5,none⟩)),.p (.slice an ns.length cn),.r [] (jw (ns.map fun s=>[s])),.r [5] (aH (aF (ns.map fun s=>[s]))),.r [6] (aH ([⟨#[124]⟩]++aF (ns.map fun s=>[s])++[⟨#[124]⟩])),.r [2,7] (aH ([⟨#[97,115]⟩,nm]++([⟨#[124]⟩]++aF (ns.map fun s=>[s])++[⟨#[124]⟩]))),.r [8] (aH ([⟨#[97,115]⟩,nm]++([⟨#[124]⟩]++aF (ns.map fun s=>[s])++[⟨#[124]⟩])))] kr bg (iR (Nat.le_refl _)) ?_ kr ?_
 ·refine OB.p ?_;refine OB.p ?_ (fun X hX=>by have c:=bJ.o X hX 1 _ rfl;rw[Nat.zero_add]at c;go_simp);refine OB.bs [⟨#[97,115]⟩,nm] 2 ?_;refine OB.p ?_;refine OB.p ?_ (fun X hX=>by have c:=bJ.o X hX 5 _ rfl;rw[Nat.zero_add]at c;go_simp);refine OB.c #[.slice an ns.length cn] Tryz.func24 (fun X hX=>wB ns _ X D (pV.o.step (ST0.o.trans hX) (fun _ _ h=>h)) (Nat.le_trans hnl dc)) ?_;refine OB.cu (ok:=jw (ns.map fun s=>[s])) 179 (fun v=> #[v]) Tryz.func34 (fun X v C hX hv=>jT _ v X C (oz.ls hv) (by rw[List.length_map];exact Nat.le_trans hnl dc) (by have h:=HB.o;simp only[List.length_append,List.length_cons,List.length_nil]at h⊢;omega)) ?_;refine OB.cu (ok:=aH (aF (ns.map fun s=>[s]))) 180 (fun v=> #[.string ⟨#[124]⟩,v,.string ⟨#[124]⟩]) Tryz.func26 (fun X v C hX hv=>gK _ _ _ v X C (aH.strs hv) (by have h:=HB.o;simp only[List.length_append,List.length_cons,List.length_nil]at h⊢;omega)) ?_;refine OB.app 176 181 (by have h:=HB.o;simp only[List.length_append,List.length_cons,List.length_nil]at h⊢;omega) ?_;refine OB.mv 182 ?_;exact OB.nil
 intro V0 X0 f0 hX0 hf0;have qy:(aH _).r _ X0 _:=hf0 9 kr;simp only[dm,Act.put,List.setIfInBounds_toArray,List.set_cons_zero,List.set_cons_succ,Nat.zero_add];go_upto_region 48 with fail
 refine au W [.r [6] (aH ([⟨#[97,115]⟩,nm]++([⟨#[124]⟩]++aF (ns.map fun s=>[s])++[⟨#[124]⟩]))),.p (.pointer (some ⟨w.heap.size,6,none⟩)),.p (.slice ab bo.length cb),.r [] (aH ([⟨#[123]⟩]++eX bo++[⟨#[125]⟩])),.r [0,3] (aH (([⟨#[97,115]⟩,nm]++([⟨#[124]⟩]++aF (ns.map fun s=>[s])++[⟨#[124]⟩]))++([⟨#[123]⟩]++eX bo++[⟨#[125]⟩]))),.r [4] (aH (([⟨#[97,115]⟩,nm]++([⟨#[124]⟩]++aF (ns.map fun s=>[s])++[⟨#[124]⟩]))++([⟨#[123]⟩]++eX bo++[⟨#[125]⟩]))),.r [] (Kp (aH ([⟨#[97,115]⟩,nm]++([⟨#[124]⟩]++aF (ns.map fun s=>[s])++[⟨#[124]⟩]))) (V0 9))] kr hX0 (jf rfl rfl qy (fun _ h=>h.1)) ?_ kr ?_
 ·refine OB.mi 6 ?_;refine OB.p ?_;refine OB.p ?_ (fun X hX=>by have c:=bJ.o X hX 6 _ rfl;rw[Nat.zero_add]at c;go_simp);refine OB.c #[.slice ab bo.length cb] Tryz.func29 (fun X hX=>ihb _ X D xb (jV.o.step (ST0.o.trans hX) (fun _ _ h=>h)) (eP.step (ST0.o.trans hX) (fun _ _ h=>h) _ _ HB2.o) (by have h:=HB.o;simp only[List.length_append,List.length_cons,List.length_nil]at h⊢;omega)) ?_;refine OB.app 183 186 (by have h:=HB.o;simp only[List.length_append,List.length_cons,List.length_nil]at h⊢;omega) ?_;refine OB.mv 187 ?_;exact OB.nil
 intro V X f hX hf;have h4:(aH _).r _ X _:=hf 5 kr;simp only[dm,Act.put,List.setIfInBounds_toArray,List.set_cons_zero,List.set_cons_succ,Nat.zero_add];go_wp2_with fail;go_ret;exact⟨_,rfl,ST0.o.trans hX,(aH _).ok.mono (fun q _ h=>Nat.le_trans hsz h.1) h4⟩
theorem ZA {nm:ByteArray} {v:Int} {mu:Bool} {ar:List Ex} {ns:List ByteArray} {bo:List St} {l c:Int}:qA (.mk 2 nm v mu ar ns bo l c):=by
 intro cs w D hx hb;by_cases h1:v=1
 ·skip
  have h0:dM (.mk 2 nm v mu ar ns bo l c)=[⟨#[116,114,117,101]⟩]:=by rw[dM];rw[h1];rfl
  rw[h0]at hb⊢
  clear h0
  have HV1:Hid ((v==1)=true):=by show _=_;rw[h1];rfl
  clear h1
  have vk:=ai hx
  rw[dA]at hx
  obtain⟨va,vn,vb,xa,xb,rfl,-,-,ha,hra,hrn,hb2,hrb⟩:=hx
  obtain⟨aa,ca,rfl⟩:=hra.parts
  obtain⟨an,cn,rfl⟩:=hrn.parts
  obtain⟨ab,cb,rfl⟩:=hrb.parts
  have HA:=ai ha
  have kY:=ai hra
  have pV:=ai hrn
  have HB2:=ai hb2
  have jV:=ai hrb
  have HB:=ai hb
  clear ha hra hrn hb2 hrb hb
  obtain⟨W,hW⟩:=bF (w.alloc (.cells #[Value.int .i64 2,aI nm,aX v,bK mu,.slice aa ar.length ca,.slice an ns.length cn,.slice ab bo.length cb,ah l,ah c] 56))
  have ST0:Hid (Step Sf w W):=by rw[hW];exact bg.alloc _
  have d_:Hid (∀X,Step Sf W X→X.heap[w.heap.size]?=some (.cells #[Value.int .i64 2,aI nm,aX v,bK mu,.slice aa ar.length ca,.slice an ns.length cn,.slice ab bo.length cb,ah l,ah c] 56 (0,0))):=by
   show∀X,_
   intro X hX
   rw[hW]at hX
   exact hX.keep (aC _ _) (fun h=>h)
  have HW:=ai hW
  have hsz:w.heap.size≤W.heap.size:=ST0.o.size
  clear hW
  have bJ:Hid (∀X,Step Sf W X→∀(j:Nat) u,[Value.int .i64 2,aI nm,aX v,bK mu,.slice aa ar.length ca,.slice an ns.length cn,.slice ab bo.length cb,ah l,ah c][j]?=some u→X.cell? ⟨w.heap.size,0+j,none⟩=some u):=by
   show∀X,_
   intro X hX j u hu
   rw[Nat.zero_add];exact aj (d_.o X hX) j u (by simpa using hu)
  have b0:=bJ.o W bg 0 _ rfl
  rw[Nat.add_zero]at b0
  go_enter Tryz.func12,Tryz.ntmps12
  go_upto_region 1 with fail
  rw[←HW.o]
  have hv1:=HV1.o
  have b2:=bJ.o W bg 2 _ rfl
  rw[Nat.zero_add]at b2
  go_upto_region 6 with fail
  refine au W [.r [] (aH [⟨#[116,114,117,101]⟩]),.r [0] (aH [⟨#[116,114,117,101]⟩])] kr bg (iR (Nat.le_refl _)) ?_ kr ?_
  ·
   refine OB.bs [⟨#[116,114,117,101]⟩] 1 ?_
   refine OB.mv 23 ?_
   exact OB.nil
  intro V X f hX hf
  have h4:(aH _).r _ X _:=hf 1 kr
  simp only[dm,Act.put,List.setIfInBounds_toArray,List.set_cons_zero,List.set_cons_succ,Nat.zero_add]
  go_wp2_with fail
  go_ret
  exact⟨_,rfl,ST0.o.trans hX,(aH _).ok.mono (fun q _ h=>Nat.le_trans hsz h.1) h4⟩
 ·skip
  have h0:dM (.mk 2 nm v mu ar ns bo l c)=[⟨#[102,97,108,115,101]⟩]:=by rw[dM];show[if v=1 then _ else _]=_;rw[if_neg h1]
  rw[h0]at hb⊢
  clear h0
  have HV1:Hid ((v==1)=false):=by rw[beq_eq_false_iff_ne];exact h1
  clear h1
  have vk:=ai hx
  rw[dA]at hx
  obtain⟨va,vn,vb,xa,xb,rfl,-,-,ha,hra,hrn,hb2,hrb⟩:=hx
  obtain⟨aa,ca,rfl⟩:=hra.parts
  obtain⟨an,cn,rfl⟩:=hrn.parts
  obtain⟨ab,cb,rfl⟩:=hrb.parts
  have HA:=ai ha
  have kY:=ai hra
  have pV:=ai hrn
  have HB2:=ai hb2
  have jV:=ai hrb
  have HB:=ai hb
  clear ha hra hrn hb2 hrb hb
  obtain⟨W,hW⟩:=bF (w.alloc (.cells #[Value.int .i64 2,aI nm,aX v,bK mu,.slice aa ar.length ca,.slice an ns.length cn,.slice ab bo.length cb,ah l,ah c] 56))
  have ST0:Hid (Step Sf w W):=by rw[hW];exact bg.alloc _
  have d_:Hid (∀X,Step Sf W X→X.heap[w.heap.size]?=some (.cells #[Value.int .i64 2,aI nm,aX v,bK mu,.slice aa ar.length ca,.slice an ns.length cn,.slice ab bo.length cb,ah l,ah c] 56 (0,0))):=by
   show∀X,_
   intro X hX
   rw[hW]at hX
   exact hX.keep (aC _ _) (fun h=>h)
  have HW:=ai hW
  have hsz:w.heap.size≤W.heap.size:=ST0.o.size
  clear hW
  have bJ:Hid (∀X,Step Sf W X→∀(j:Nat) u,[Value.int .i64 2,aI nm,aX v,bK mu,.slice aa ar.length ca,.slice an ns.length cn,.slice ab bo.length cb,ah l,ah c][j]?=some u→X.cell? ⟨w.heap.size,0+j,none⟩=some u):=by
   show∀X,_
   intro X hX j u hu
   rw[Nat.zero_add];exact aj (d_.o X hX) j u (by simpa using hu)
  have b0:=bJ.o W bg 0 _ rfl
  rw[Nat.add_zero]at b0
  go_enter Tryz.func12,Tryz.ntmps12
  go_upto_region 1 with fail
  rw[←HW.o]
  have hv1:=HV1.o
  have b2:=bJ.o W bg 2 _ rfl
  rw[Nat.zero_add]at b2
  go_upto_region 7 with fail
  refine au W [.r [] (aH [⟨#[102,97,108,115,101]⟩]),.r [0] (aH [⟨#[102,97,108,115,101]⟩])] kr bg (iR (Nat.le_refl _)) ?_ kr ?_
  ·
   refine OB.bs [⟨#[102,97,108,115,101]⟩] 1 ?_
   refine OB.mv 24 ?_
   exact OB.nil
  intro V X f hX hf
  have h4:(aH _).r _ X _:=hf 1 kr
  simp only[dm,Act.put,List.setIfInBounds_toArray,List.set_cons_zero,List.set_cons_succ,Nat.zero_add]
  go_wp2_with fail
  go_ret
  exact⟨_,rfl,ST0.o.trans hX,(aH _).ok.mono (fun q _ h=>Nat.le_trans hsz h.1) h4⟩
theorem ZB {nm:ByteArray} {v:Int} {mu:Bool} {ar:List Ex} {ns:List ByteArray} {bo:List St} {l c:Int} (ih:∀y∈ar,qA y) (hal:ar.length≤1000000):qA (.mk 8 nm v mu ar ns bo l c):=by
 intro cs w D hx hb;cases mu with
 |true=>
  have h0:dM (.mk 8 nm v true ar ns bo l c)=[⟨#[38]⟩,⟨#[109,117,116]⟩]++lZ (dF ar):=by rw[dM];rfl
  rw[h0]at hb⊢;clear h0;have vk:=ai hx;rw[dA]at hx;obtain⟨va,vn,vb,xa,xb,rfl,-,-,ha,hra,hrn,hb2,hrb⟩:=hx;obtain⟨aa,ca,rfl⟩:=hra.parts;obtain⟨an,cn,rfl⟩:=hrn.parts;obtain⟨ab,cb,rfl⟩:=hrb.parts;have HA:=ai ha;have kY:=ai hra;have pV:=ai hrn;have HB2:=ai hb2;have jV:=ai hrb;have HB:=ai hb;clear ha hra hrn hb2 hrb hb;obtain⟨W,hW⟩:=bF (w.alloc (.cells #[Value.int .i64 8,aI nm,aX v,bK true,.slice aa ar.length ca,.slice an ns.length cn,.slice ab bo.length cb,ah l,ah c] 56));have ST0:Hid (Step Sf w W):=by rw[hW];exact bg.alloc _
  have d_:Hid (∀X,Step Sf W X→X.heap[w.heap.size]?=some (.cells #[Value.int .i64 8,aI nm,aX v,bK true,.slice aa ar.length ca,.slice an ns.length cn,.slice ab bo.length cb,ah l,ah c] 56 (0,0))):=by intro X hX;rw[hW]at hX;exact hX.keep (aC _ _) (fun h=>h)
  have HW:=ai hW;have hsz:w.heap.size≤W.heap.size:=ST0.o.size;clear hW;have bJ:Hid (∀X,Step Sf W X→∀(j:Nat) u,[Value.int .i64 8,aI nm,aX v,bK true,.slice aa ar.length ca,.slice an ns.length cn,.slice ab bo.length cb,ah l,ah c][j]?=some u→X.cell? ⟨w.heap.size,0+j,none⟩=some u):=by intro X hX j u hu;rw[Nat.zero_add];exact aj (d_.o X hX) j u (by simpa using hu)
  have b0:=bJ.o W bg 0 _ rfl;rw[Nat.add_zero]at b0;go_enter Tryz.func12,Tryz.ntmps12;go_upto_region 1 with fail
  rw[←HW.o];have b3:=bJ.o W bg 3 _ rfl;rw[Nat.zero_add]at b3;go_upto_region 20 with fail
  refine au W [.r [] (aH [⟨#[38]⟩,⟨#[109,117,116]⟩]),.p (.agg [Value.int .i64 8,aI nm,aX v,bK true,.slice aa ar.length ca,.slice an ns.length cn,.slice ab bo.length cb,ah l,ah c].toArray),.r [] (aH (lZ (dF ar))),.r [0,2] (aH ([⟨#[38]⟩,⟨#[109,117,116]⟩]++(lZ (dF ar)))),.r [3] (aH ([⟨#[38]⟩,⟨#[109,117,116]⟩]++(lZ (dF ar))))] kr bg (iR (Nat.le_refl _)) ?_ kr ?_
  ·refine OB.bs [⟨#[38]⟩,⟨#[109,117,116]⟩] 2 ?_;refine OB.ld w.heap.size 0 [Value.int .i64 8,aI nm,aX v,bK true,.slice aa ar.length ca,.slice an ns.length cn,.slice ab bo.length cb,ah l,ah c] _ bJ.o Tryz.underlying56 Tryz.aO ?_;refine OB.c #[.agg [Value.int .i64 8,aI nm,aX v,bK true,.slice aa ar.length ca,.slice an ns.length cn,.slice ab bo.length cb,ah l,ah c].toArray] Tryz.func33 (fun X hX=>first_any ih _ X D (dA.step (ST0.o.trans hX) (fun _ _ h=>h) _ _ vk.o) hal (by have h:=HB.o;simp only[List.length_append,List.length_cons,List.length_nil]at h⊢;omega)) ?_;refine OB.app 58 60 (by have h:=HB.o;simp only[List.length_append,List.length_cons,List.length_nil]at h⊢;omega) ?_;refine OB.mv 61 ?_;exact OB.nil
  intro V X f hX hf;have h4:(aH _).r _ X _:=hf 4 kr;simp only[dm,Act.put,List.setIfInBounds_toArray,List.set_cons_zero,List.set_cons_succ,Nat.zero_add];go_wp2_with fail;go_ret;exact⟨_,rfl,ST0.o.trans hX,(aH _).ok.mono (fun q _ h=>Nat.le_trans hsz h.1) h4⟩
 |false=>
  have h0:dM (.mk 8 nm v false ar ns bo l c)=[⟨#[38]⟩]++lZ (dF ar):=by rw[dM];rfl
  rw[h0]at hb⊢;clear h0;have vk:=ai hx;rw[dA]at hx;obtain⟨va,vn,vb,xa,xb,rfl,-,-,ha,hra,hrn,hb2,hrb⟩:=hx;obtain⟨aa,ca,rfl⟩:=hra.parts;obtain⟨an,cn,rfl⟩:=hrn.parts;obtain⟨ab,cb,rfl⟩:=hrb.parts;have HA:=ai ha;have kY:=ai hra;have pV:=ai hrn;have HB2:=ai hb2;have jV:=ai hrb;have HB:=ai hb;clear ha hra hrn hb2 hrb hb;obtain⟨W,hW⟩:=bF (w.alloc (.cells #[Value.int .i64 8,aI nm,aX v,aW,.slice aa ar.length ca,.slice an ns.length cn,.slice ab bo.length cb,ah l,ah c] 56));have ST0:Hid (Step Sf w W):=by rw[hW];exact bg.alloc _
  have d_:Hid (∀X,Step Sf W X→X.heap[w.heap.size]?=some (.cells #[Value.int .i64 8,aI nm,aX v,aW,.slice aa ar.length ca,.slice an ns.length cn,.slice ab bo.length cb,ah l,ah c] 56 (0,0))):=by intro X hX;rw[hW]at hX;exact hX.keep (aC _ _) (fun h=>h)
  have HW:=ai hW;have hsz:w.heap.size≤W.heap.size:=ST0.o.size;clear hW;have bJ:Hid (∀X,Step Sf W X→∀(j:Nat) u,[Value.int .i64 8,aI nm,aX v,aW,.slice aa ar.length ca,.slice an ns.length cn,.slice ab bo.length cb,ah l,ah c][j]?=some u→X.cell? ⟨w.heap.size,0+j,none⟩=some u):=by intro X hX j u hu;rw[Nat.zero_add];exact aj (d_.o X hX) j u (by simpa using hu)
  have b0:=bJ.o W bg 0 _ rfl;rw[Nat.add_zero]at b0;go_enter Tryz.func12,Tryz.ntmps12;go_upto_region 1 with fail
  rw[←HW.o];have b3:=bJ.o W bg 3 _ rfl;rw[Nat.zero_add]at b3;go_upto_region 21 with fail
  refine au W [.r [] (aH [⟨#[38]⟩]),.p (.agg [Value.int .i64 8,aI nm,aX v,aW,.slice aa ar.length ca,.slice an ns.length cn,.slice ab bo.length cb,ah l,ah c].toArray),.r [] (aH (lZ (dF ar))),.r [0,2] (aH ([⟨#[38]⟩]++(lZ (dF ar)))),.r [3] (aH ([⟨#[38]⟩]++(lZ (dF ar))))] kr bg (iR (Nat.le_refl _)) ?_ kr ?_
  ·refine OB.bs [⟨#[38]⟩] 1 ?_;refine OB.ld w.heap.size 0 [Value.int .i64 8,aI nm,aX v,aW,.slice aa ar.length ca,.slice an ns.length cn,.slice ab bo.length cb,ah l,ah c] _ bJ.o Tryz.underlying56 Tryz.aO ?_;refine OB.c #[.agg [Value.int .i64 8,aI nm,aX v,aW,.slice aa ar.length ca,.slice an ns.length cn,.slice ab bo.length cb,ah l,ah c].toArray] Tryz.func33 (fun X hX=>first_any ih _ X D (dA.step (ST0.o.trans hX) (fun _ _ h=>h) _ _ vk.o) hal (by have h:=HB.o;simp only[List.length_append,List.length_cons,List.length_nil]at h⊢;omega)) ?_;refine OB.app 62 64 (by have h:=HB.o;simp only[List.length_append,List.length_cons,List.length_nil]at h⊢;omega) ?_;refine OB.mv 65 ?_;exact OB.nil
  intro V X f hX hf;have h4:(aH _).r _ X _:=hf 4 kr;simp only[dm,Act.put,List.setIfInBounds_toArray,List.set_cons_zero,List.set_cons_succ,Nat.zero_add];go_wp2_with fail;go_ret;exact⟨_,rfl,ST0.o.trans hX,(aH _).ok.mono (fun q _ h=>Nat.le_trans hsz h.1) h4⟩
end Go.Proofs.YtggjfinekcenpaaGreat
