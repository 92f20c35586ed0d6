import Derived.Test.YtggjfinekcenpaaGreatPkP
set_option maxRecDepth 100000
set_option maxHeartbeats 80000000
namespace Go.Proofs.YtggjfinekcenpaaGreat
open Go.RowKit
open Vt
theorem Tryz.SC:(Tryz.prog.info? 51).map (fun i=>(i.zero,i.size,i.bytes))=some (some (.agg #[ah 0,dG,dG,ak,ak,ak,ah 0,dG,dG,aW,ak,ak,ah 0,ah 0,ak,ak,ak,ah 0,ah 0]),19,312):=by kernel_rfl
def ItsV (n0:Nat) (w':World) (a:List It) (v:Value):Prop:=lT Hy w' (fun k=>n0≤k) a v
theorem OG (f:Nat) (ER:∀f',f'≤f→rF f') (RZ:∀f',f'≤f→vN f') (R:gI) (w:World) (i d:Nat) (hl:oJ R.l) (h:bC R w i d) (hd:d≤40) (hno:lq f R.l i d []≠.out):Calls Tryz.prog 21 #[.agg #[gW R.rb 0]] w (aK R d (ItsV w.heap.size) (lq f R.l i d []) w):=by
 have HL:=ai hl;have L_:=ai ER;have Pv:=ai RZ;obtain⟨r,hr⟩:=bF (lq f R.l i d []);have kU:=ai hr;rw[←hr]at hno⊢;have fH:=ai hno;obtain⟨i0,hi0,hz0,hz1,hz2⟩:=info_parts Tryz.SC;have HI:=ai hi0;have HZ0:=ai hz0;have HZ1:=ai hz1;have HZ2:=ai hz2;have hfd0:∀(a0 a1 a2 a3 a4:Value) (w:World),(Instr.field 111 (.agg #[a0,a1,a2,a3,a4]) 0).run Tryz.prog w=.ok a0 w:=fun _ _ _ _ _ _=>by kernel_rfl
 obtain⟨w1,hw1⟩:=bF (w.alloc (.cells #[gW R.rb 0] 75));have dH:=nS hw1
 have kK:=nB hw1
 have HW1:=ai hw1;have H1:=ai (h.quiet dH.o);have hn1:=aP kK.o;have uq:=aP h.blk;have hwz:R.rb<w1.heap.size:=by omega
 have bZ:Hid (∀X:World,Step (·=R.rb) w1 X→X.cell? ⟨w.heap.size,0,none⟩=some (.pointer (some ⟨R.rb,0,none⟩))):=fun X hX=>aj (hX.keep kK.o om) 0 _ rfl
 have d_:Hid (∀X:World,Step (·=R.rb) w1 X→Step (·=R.rb) w X):=fun X hX=>(dH.o.mono fe).trans hX
 clear hw1;have p0:=bZ.o w1 bg;clear ER RZ hl h hno hr hi0 hz0 hz1 hz2 p0;go_enter Tryz.func21,Tryz.ntmps21;go_upto_block 0 with fail
 rw[←HW1.o];go_wp2_with fail;go_loopg [3] f (fun gg s3 wr=>gg≤f∧∃(i':Nat) (acc:List It) (xs:List Value),r=lq gg R.l i' d acc∧y_ Hy 51 19 R w1 d wr i' acc s3 xs);case atStart=>exact⟨Nat.le_refl _,i,[],[],kU.o,H1.o,World.ownsRow_nil _ _ _ _,rfl,Step.refl _ _⟩
 case round=>
  obtain⟨hgf,i',acc,xs,hrq,hst⟩:=hrel;obtain⟨gn,rfl⟩:∃gn,gk=gn+1:=by
   cases gk with
   |zero=>exact absurd hrq (by rw[lq];exact fH.o)
   |succ gn=>exact⟨gn,rfl⟩
  obtain⟨tk,htk⟩:=bF (tokA R.l i');have tX:Hid (r=if tk.kind=0 then .ok acc i' else(eU acc.length 60 R.l i').bind fun _ i=>(tu gn R.l i d).bind fun x j=>lq gn R.l j d (acc++[x])):=by show _=_;rw[hrq,lq,htk]
  have HT:=ai (show R.l[i']?=some tk by rw[htk];exact hst.rd.tok);obtain⟨oa,oc,rfl⟩:=b_ hst.ow;have HST:=ai hst;have p0:=bZ.o wr hst.st;clear hrq hst htk;go_wp2_with fail;refine(lF R _ i' d tk HST.o.rd HT.o).mono ?_;rintro e wq ⟨rfl,hq⟩;have zl:=ai (HST.o.quiet gV hq);clear hq p0;by_cases hk:tk.kind=0
  ·(have e1:((tk.kind:Int) !=0)=false:=by rw[bne,kF tk.kind 0 0 rfl,hk];rfl);(have yR:Hid (r=.ok acc i'):=by show _=_;rw[tX.o,if_pos hk]);clear hk;go_wp2_with fail;go_ret;have hsz:=dH.o.size;exact aK.dN yR.o rfl ⟨_,dh.jd zl.o.ow (fun q hq=>by have:=(zl.o.ow.lt q hq).1;omega),ou.mono gV (fun q _ hq=>by have:=hq.1;omega) _ _ zl.o.el⟩ zl.o.rd (d_.o _ zl.o.st)
  ·(have e1:((tk.kind:Int) !=0)=true:=by rw[bne,kF tk.kind 0 0 rfl,beq_eq_false_iff_ne.2 hk];rfl);(have Sr:Hid (r=(eU acc.length 60 R.l i').bind fun _ i=>(tu gn R.l i d).bind fun x j=>lq gn R.l j d (acc++[x])):=by show _=_;rw[tX.o,if_neg hk]);clear hk;have p0:=bZ.o wq zl.o.st;go_wp2_with fail;refine(mr R wq acc.length 60 i' d zl.o.rd).mono ?_;rintro e w3 hp;cases hn:eU acc.length 60 R.l i' with
   |out=>exact(kX hn).elim
   |err c ln col=>rw[hn]at hp;obtain⟨rfl,s3⟩:=hp;exact⟨rfl,aK.aU c ln col (by rw[Sr.o,hn];rfl) rfl (d_.o _ (zl.o.st.trans s3))⟩
   |ok u j3=>
    have hji:j3=i'∧acc.length<60:=by
     unfold eU at hn;split at hn
     ·cases hn
     ·cases hn;exact⟨rfl,by omega⟩
    obtain⟨hj3,hlt⟩:=hji;have uZ:=ai hn;rw[hn]at hp;obtain⟨⟨v,rfl,rfl⟩,hr3,s3⟩:=hp;have fP:=ai (zl.o.read gV hwz hr3 s3);have qf:=ai (Sr.o.trans (tV uZ.o));clear hn hr3 s3 p0 hj3;have p0:=bZ.o w3 fP.o.st;go_wp2_with fail;refine(Sz gn (fun f' hf=>L_.o f' om) (fun f' hf=>Pv.o f' om) R w3 j3 d HL.o fP.o.rd hd (fun e=>fH.o (by rw[qf.o,e];rfl))).mono ?_;rintro e wx hp;have hp2:aK R d (ItV w3.heap.size) (tu gn R.l j3 d) _ e wx:=hp;cases hx:tu gn R.l j3 d with
    |out=>exact absurd (by rw[qf.o,hx];rfl) fH.o
    |err c ln col=>rw[hx]at hp2;obtain⟨rfl,sq⟩:=hp2;exact⟨rfl,aK.aU c ln col (by rw[qf.o,hx];rfl) rfl (d_.o _ (fP.o.st.trans sq))⟩
    |ok x jx=>
     have HX:=ai hx;rw[hx]at hp2;obtain⟨⟨v,rfl,cs,rfl,hy⟩,hrx,hsx⟩:=hp2;have I_:=ai (gV.len _ _ hy);have dQ:=ai (gV.one _ _ hy);have Ph:=ai (qf.o.trans (tV HX.o));obtain⟨w4,hw4⟩:=bF (wx.alloc (.cells cs.toArray 51));(have ji:Hid (jg wx w4):=by rw[hw4];exact bg.alloc _);have fD:=ai ((fP.o.read gV hwz hrx hsx).quiet gV ji.o);have NZ:Hid (Hy w4 (fun q=>w3.heap.size≤q) x cs):=gV.step _ _ ji.o (fun _ _ h=>h) hy;(have F5:Hid ((wx.alloc (.cells cs.toArray 51)).ownsRow w1.heap.size 51 19 (.slice oa acc.length oc) acc.length xs):=by rw[←hw4];exact fD.o.ow);have yU:Hid (Row (wx.alloc (.cells cs.toArray 51)) (wx.heap.size+1) (.slice (some ⟨wx.heap.size,0,none⟩) 1 1) 1 cs):=Row.new (aC _ _) dc;(have F6:Hid (w1.heap.size≤(wx.alloc (.cells cs.toArray 51)).heap.size):=by rw[←hw4];exact fD.o.st.size);have UE:=ai hw4;have CQ:=ai hlt;(have TV:i0.size=cs.length:=by rw[I_.o];exact HZ1.o);(have hC2:(Value.agg #[ah 0,dG,dG,ak,ak,ak,ah 0,dG,dG,aW,ak,ak,ah 0,ah 0,ak,ak,ak,ah 0,ah 0]).cells.size=cs.length:=by rw[I_.o];rfl);(have XD:0<cs.length:=by rw[I_.o];decide);(have XE:cs.length≤16777216:=by rw[I_.o];decide);(have XF:cs.length=1*19:=by rw[I_.o]);have HC:=ai (And.intro TV (And.intro hC2 (And.intro XD (And.intro XE XF))));clear hx hp hy hrx hsx p0 hw4 hlt TV hC2 XD XE XF;go_wp2_with (first
      |(refine lU rfl 22 (.tmp 15) rfl 51 i0 (.agg #[ah 0,dG,dG,ak,ak,ak,ah 0,dG,dG,aW,ak,ak,ah 0,ah 0,ak,ak,ak,ah 0,ah 0]) cs rfl Tryz.underlying22 HI.o HZ0.o HC.o.1 HC.o.2.1 HC.o.2.2.1 HC.o.2.2.2.1 ?_)
      |(refine jU _ rfl (wx.heap.size+1) (.tmp 13) (.tmp 16) 22 rfl w1.heap.size 51 i0 (.agg #[ah 0,dG,dG,ak,ak,ak,ah 0,dG,dG,aW,ak,ak,ah 0,ah 0,ak,ak,ak,ah 0,ah 0]) 19 312 Tryz.underlying22 HI.o HZ0.o HZ1.o HZ2.o rfl dc _ _ _ (by rfl) F5.o _ 1 _ (by rfl) yU.o HC.o.2.2.2.2 dQ.o (by have:=CQ.o;unfold maxLen;omega) (by have:=CQ.o;omega) F6.o ?_;intro v9 w9 iU gJ oG))
     rw[←UE.o]at gJ oG;have iM:=ai (fP.o.push gV fD.o NZ.o iU gJ oG hwz);clear iU gJ oG;have p0:=bZ.o w9 iM.o.st;go_roundg gn;case rel=>exact⟨by omega,jx,acc++[x],_,Ph.o,iM.o⟩
     case measure=>omega
def Good (t:Tok):Prop:=∃r,jO r=.ok (t.kind,t.text.length,t.val)∧t.text=r.take t.text.length
def uI (l:List Tok):Nat:=(l.map (·.text.length)).sum
theorem Jh (l:List Tok) (t:Tok):uI (l++[t])=uI l+t.text.length:=by simp[uI]
theorem OH:∀(k:Nat) (r:List UInt8) (p l f:Nat) (acc res:List Tok),uj k r p l f acc=.ok res→f≤p→(∀t∈acc,Good t)→uI acc≤p→acc.length≤8000→∃body e,res=body++[e]∧(∀t∈body,Good t)∧uI body≤p+r.length∧body.length≤8000∧e.kind=0∧e.text=[]∧e.val=0:=by
 intro k;induction k with
 |zero=>intro r p l f acc res h;simp[uj]at h
 |succ k ih=>
  intro r p l f acc res h hf hg hs hl;have hi:=xK r false p l f _ _ _ rfl hf;rw[uj]at h;generalize dS false r p l f=q at*;obtain⟨q1,q2,q3⟩:=q;dsimp only at hi h;split at h
  ·simp at h;exact⟨acc,_,h.symm,hg,by omega,hl,rfl,rfl,rfl⟩
  ·split at h
   ·simp at h
   ·split at h
    ·simp at h
    ·rename_i kind n val hn;obtain⟨hn1,hn2,_⟩:=wL hn;rw[List.length_drop]at hn2;have hlen:((r.drop (q1-p)).take n).length=n:=by rw[List.length_take,List.length_drop];omega
     have:=ih _ _ _ _ _ _ h om (by
      intro t ht
      rcases List.mem_append.1 ht with h1|h1
      ·
       exact hg t h1
      ·
       simp at h1;subst h1
       exact⟨r.drop (q1-p),by rw[hlen];exact hn,by simp[hlen]⟩) (by rw[Jh,hlen];omega) (by simp;omega)
     obtain⟨body,e,h1,h2,h3,h4⟩:=this;refine⟨body,e,h1,h2,?_,h4⟩;simp only[List.length_drop]at h3;omega
theorem SE:∀(k:Nat) (r:List UInt8) (p l f:Nat) (acc:List Tok) (c ln col:Nat),r.length<k→uj k r p l f acc=.error (c,ln,col)→c≠0:=by
 intro k;induction k with
 |zero=>intro r p l f acc c ln col h;omega
 |succ k ih=>
  intro r p l f acc c ln col hk h;rw[uj]at h;generalize dS false r p l f=q at*;obtain⟨q1,q2,q3⟩:=q;dsimp only at h;split at h
  ·simp at h
  ·split at h
   ·simp at h;omega
   ·split at h
    ·rename_i e he;simp at h;have:=wM he;omega
    ·rename_i kind n val hn;obtain⟨hn1,hn2,_⟩:=wL hn;refine ih _ _ _ _ _ _ _ _ ?_ h;simp only[List.length_drop]at hn2⊢;omega
theorem Ji {s:List UInt8} {c ln col:Nat} (h:nP s=.error (c,ln,col)):c≠0:=by
 unfold nP at h;split at h
 ·simp at h;omega
 ·exact SE _ _ _ _ _ _ _ _ _ om h
theorem OI {l:List Tok} {t:Tok} (h:t∈l):t.text.length≤uI l:=by
 induction l with
 |nil=>cases h
 |cons a l ih=>
  simp only[uI,List.map_cons,List.sum_cons]at ih⊢;rcases List.mem_cons.1 h with rfl|h
  ·omega
  ·have:=ih h;omega
theorem KT {s:List UInt8} {l:List Tok} (h:nP s=.ok l):∃body e,l=body++[e]∧(∀t∈body,Good t)∧uI body≤s.length∧s.length≤20000∧body.length≤8000∧e.kind=0∧e.text=[]∧e.val=0:=by
 unfold nP at h;split at h
 ·simp at h
 ·rename_i hs;obtain⟨body,e,h1,h2,h3,h4,h5⟩:=OH _ _ _ _ _ _ _ h (Nat.le_refl _) (by simp) (by simp[uI]) (by simp);exact⟨body,e,h1,h2,by omega,by omega,h4,h5⟩
theorem zo {s:List UInt8} {l:List Tok} (h:nP s=.ok l):oJ l∧0<l.length:=by
 obtain⟨body,e,rfl,hg,hs,hz,hb,he,ht,-⟩:=KT h;refine⟨⟨?_,by simp;omega,?_⟩,by simp⟩
 ·intro i t hi hk;have hlt:=(List.getElem?_eq_some_iff.1 hi).1;simp at hlt⊢;rcases Nat.lt_or_ge i body.length with h1|h1
  ·omega
  ·(have:i=body.length:=by omega);subst this;rw[List.getElem?_append_right (Nat.le_refl _),Nat.sub_self]at hi;simp at hi;subst hi;exact absurd he hk
 ·intro t ht2;rcases List.mem_append.1 ht2 with h1|h1
  ·have:=OI h1;omega
  ·rw[List.mem_singleton.1 h1,ht];decide
def Gd {α:Type} (N i:Nat) (r:dI α):Prop:=match r with
 | .ok _ j=>i<j∧j<N
 | .err c _ _=>c≠0
 | .out=>False
def iE {α:Type} (N i:Nat) (r:dI α):Prop:=match r with
 | .ok _ j=>i≤j∧j<N
 | .err c _ _=>c≠0
 | .out=>False
theorem Gd.weak {α:Type} {N i:Nat} {r:dI α} (h:Gd N i r):iE N i r:=by
 cases r with
 |ok a j=>exact⟨Nat.le_of_lt h.1,h.2⟩
 |err=>exact h
 |out=>exact h
theorem Gd.ne {α:Type} {N i:Nat} {r:dI α} (h:Gd N i r):r≠.out:=by rintro rfl;exact h
theorem iE.ne {α:Type} {N i:Nat} {r:dI α} (h:iE N i r):r≠.out:=by rintro rfl;exact h
theorem Gd.bind {α β:Type} {N i:Nat} {r:dI α} {f:α→Nat→dI β} (h:Gd N i r) (hf:∀a j,i<j→j<N→iE N j (f a j)):Gd N i (r.bind f):=by
 cases r with
 |ok a j=>
  have:=hf a j h.1 h.2;show Gd N i (f a j);cases hx:f a j with
  |ok b k=>rw[hx]at this;exact⟨Nat.lt_of_lt_of_le h.1 this.1,this.2⟩
  |err=>rw[hx]at this;exact this
  |out=>rw[hx]at this;exact this
 |err=>exact h
 |out=>exact h
theorem iE.bind {α β:Type} {N i:Nat} {r:dI α} {f:α→Nat→dI β} (h:iE N i r) (hf:∀a j,i≤j→j<N→iE N j (f a j)):iE N i (r.bind f):=by
 cases r with
 |ok a j=>
  have:=hf a j h.1 h.2;show iE N i (f a j);cases hx:f a j with
  |ok b k=>rw[hx]at this;exact⟨Nat.le_trans h.1 this.1,this.2⟩
  |err=>rw[hx]at this;exact this
  |out=>rw[hx]at this;exact this
 |err=>exact h
 |out=>exact h
theorem iE.xJ {α β:Type} {N i:Nat} {r:dI α} {f:α→Nat→dI β} (h:iE N i r) (hf:∀a j,i≤j→j<N→Gd N j (f a j)):Gd N i (r.bind f):=by
 cases r with
 |ok a j=>
  have:=hf a j h.1 h.2;show Gd N i (f a j);cases hx:f a j with
  |ok b k=>rw[hx]at this;exact⟨Nat.lt_of_le_of_lt h.1 this.1,this.2⟩
  |err=>rw[hx]at this;exact this
  |out=>rw[hx]at this;exact this
 |err=>exact h
 |out=>exact h
theorem iE.from {α:Type} {N i j:Nat} {r:dI α} (h:iE N j r) (hij:i≤j):iE N i r:=by
 cases r with
 |ok a k=>exact⟨Nat.le_trans hij h.1,h.2⟩
 |err=>exact h
 |out=>exact h
theorem iE.strict {α:Type} {N i j:Nat} {r:dI α} (h:iE N j r) (hij:i<j):Gd N i r:=by
 cases r with
 |ok a k=>exact⟨Nat.lt_of_lt_of_le hij h.1,h.2⟩
 |err=>exact h
 |out=>exact h
theorem iE.ok {α:Type} {N i:Nat} (a:α) (h:i<N):iE N i (.ok a i):=⟨Nat.le_refl _,h⟩
section
variable {l : List Tok} (hl : oJ l)
include hl
theorem zq {i:Nat} (hi:i<l.length) (h:(tokA l i).kind≠0):i+1<l.length:=hl.next i _ (sH hi) h
theorem dw {i:Nat} {s:List UInt8} (hi:i<l.length) (h:bG l i s=true):i+1<l.length:=zq hl hi (ul h)
theorem dX {i:Nat} {s:List UInt8} (hi:i<l.length):Gd l.length i (aJ l i s):=by
 unfold aJ;split
 ·rename_i h;exact⟨Nat.lt_succ_self i,dw hl hi h⟩
 ·exact Nat.succ_ne_zero _
theorem iP {i:Nat} (hi:i<l.length):Gd l.length i (bH l i):=by
 unfold bH;split
 ·rename_i h;refine⟨Nat.lt_succ_self i,zq hl hi ?_⟩;intro e;simp[um,e]at h
 ·exact Nat.succ_ne_zero _
theorem zu {i:Nat} (hi:i<l.length):Gd l.length i (jl l i):=by
 unfold jl;split
 ·rename_i h;exact⟨Nat.lt_succ_self i,zq hl hi om⟩
 ·exact Nat.succ_ne_zero _
omit hl in
theorem mZ {n m i:Nat} (hi:i<l.length):iE l.length i (eU n m l i):=by
 unfold eU;split
 ·exact Nat.succ_ne_zero _
 ·exact iE.ok _ hi
theorem Du {i:Nat} {s:List UInt8} (hi:i<l.length):i≤iH l i s∧iH l i s<l.length:=by
 unfold iH;split
 ·rename_i h;exact⟨by omega,dw hl hi h⟩
 ·exact⟨Nat.le_refl _,hi⟩
theorem GI {i:Nat} (hi:i<l.length):i≤pG l i∧pG l i<l.length:=by
 unfold pG;split
 ·rename_i h;exact⟨by omega,zq hl hi om⟩
 ·exact⟨Nat.le_refl _,hi⟩
structure Fu (l:List Tok) (f:Nat):Prop where
 typ:∀i d,i<l.length→16*(l.length-i)+1≤f→Gd l.length i (kG f l i d)
 args:∀i d ls ts,i<l.length→16*(l.length-i)+2≤f→Gd l.length i (mg f l i d ls ts)
 bars:∀i ns,i<l.length→16*(l.length-i)+1≤f→Gd l.length i (lK f l i ns)
 level:∀i d n,i<l.length→n≤5→16*(l.length-i)+(9-n)≤f→Gd l.length i (a_ f l i d n)
 row:∀i d n x,i<l.length→n≤4→16*(l.length-i)+1≤f→iE l.length i (vK f l i d n x)
 unary:∀i d,i<l.length→16*(l.length-i)+3≤f→Gd l.length i (iI f l i d)
 post:∀i d,i<l.length→16*(l.length-i)+2≤f→Gd l.length i (rD f l i d)
 dots:∀i d x,i<l.length→16*(l.length-i)+1≤f→iE l.length i (nJ f l i d x)
 list:∀i d,i<l.length→16*(l.length-i)+11≤f→Gd l.length i (lG f l i d)
 more:∀i d acc,i<l.length→16*(l.length-i)+10≤f→Gd l.length i (oK f l i d acc)
 one:∀i d,i<l.length→16*(l.length-i)+1≤f→Gd l.length i (qJ f l i d)
 made:∀i d ns al,i<l.length→16*(l.length-i)+1≤f→Gd l.length i (lH f l i d ns al)
 RI:∀i d,i<l.length→16*(l.length-i)+1≤f→Gd l.length i (qg f l i d)
 block:∀i d,i<l.length→16*(l.length-i)+1≤f→Gd l.length i (bU f l i d)
 stmts:∀i d acc,i<l.length→16*(l.length-i)+12≤f→Gd l.length i (lY f l i d acc)
 ZK:∀i d,i<l.length→16*(l.length-i)+1≤f→Gd l.length i (xO f l i d)
 ZL:∀i d,i<l.length→16*(l.length-i)+10≤f→Gd l.length i (xP f l i d)
 stmt:∀i d,i<l.length→16*(l.length-i)+11≤f→Gd l.length i (rE f l i d)
theorem ZM (f:Nat) (h:Fu l f) (i d:Nat) (hi:i<l.length) (hf:16*(l.length-i)+1≤f+1):Gd l.length i (kG (f+1) l i d):=by
 rw[kG];have one:∀(b:Bool) (s:List UInt8) (a:Ty),bG l i s=b→b=true→Gd l.length i (.ok a (i+1)):=fun b s a e hb=>⟨Nat.lt_succ_self i,dw hl hi (by rw[e];exact hb)⟩;split
 ·exact Nat.succ_ne_zero _
 ·split
  ·rename_i h1;exact one _ _ _ rfl h1
  ·split
   ·rename_i h1;exact one _ _ _ rfl h1
   ·split
    ·rename_i h1;exact one _ _ _ rfl h1
    ·split
     ·rename_i h1;have h2:=dw hl hi h1;exact iE.strict ((dX hl h2).bind fun _ j _ hj=>iE.ok _ hj).weak (Nat.lt_succ_self i)
     ·split
      ·rename_i h1;have h2:=dw hl hi h1;exact iE.strict ((dX hl h2).bind fun _ j h3 hj=>((h.typ j _ hj om).bind fun a k h4 hk=>((dX hl hk).bind fun _ m _ hm=>iE.ok _ hm).weak).weak).weak (Nat.lt_succ_self i)
      ·split
       ·rename_i h1;have h2:=dw hl hi h1;have h3:=GI hl h2;have h4:=Du hl (s:=[109,117,116]) h3.2;exact iE.strict ((h.typ _ _ h4.2 om).bind fun a k _ hk=>iE.ok _ hk).weak om
       ·split
        ·rename_i h1;have h2:=dw hl hi h1;refine iE.strict ((iP hl h2).bind fun n j h3 hj=> ?_).weak (Nat.lt_succ_self i);split
         ·rename_i h4;exact(((zu hl (dw hl hj h4)).bind fun x k _ hk=>iE.ok _ hk).weak).from om
         ·exact iE.ok _ hj
        ·refine(iP hl hi).bind fun n j h3 hj=> ?_;split
         ·rename_i h4;have h5:=dw hl hj h4;exact((h.args (j+1) _ _ _ h5 om).bind fun p k _ hk=>iE.ok _ hk).weak.from om
         ·exact iE.ok _ hj
theorem VO (f:Nat) (h:Fu l f) (i d:Nat) (ls:List ByteArray) (ts:List Ty) (hi:i<l.length) (hf:16*(l.length-i)+2≤f+1):Gd l.length i (mg (f+1) l i d ls ts):=by
 rw[mg];refine(mZ hi).xJ fun _ i2 h0 hi2=> ?_;refine Gd.bind ?_ fun p j h1 hj=> ?_
 ·split
  ·exact(zu hl hi2).bind fun x j _ hj=>iE.ok _ hj
  ·exact(h.typ i2 d hi2 om).bind fun x j _ hj=>iE.ok _ hj
 ·split
  ·rename_i h2;exact((h.args (j+1) d _ _ (dw hl hj h2) om).weak).from om
  ·exact((dX hl hj).bind fun _ k _ hk=>iE.ok _ hk).weak
theorem VP (f:Nat) (h:Fu l f) (i:Nat) (ns:List ByteArray) (hi:i<l.length) (hf:16*(l.length-i)+1≤f+1):Gd l.length i (lK (f+1) l i ns):=by
 rw[lK];refine(mZ hi).xJ fun _ i2 h0 hi2=> ?_;refine(iP hl hi2).bind fun n j h1 hj=> ?_;split
 ·rename_i h2;exact((h.bars (j+1) _ (dw hl hj h2) om).weak).from om
 ·exact((dX hl hj).bind fun _ k _ hk=>iE.ok _ hk).weak
omit hl in
theorem SG (f:Nat) (h:Fu l f) (i d n:Nat) (hi:i<l.length) (hn:n≤5) (hf:16*(l.length-i)+(9-n)≤f+1):Gd l.length i (a_ (f+1) l i d n):=by
 rw[a_];split
 ·exact h.unary i d hi om
 ·exact(h.level i d (n+1) hi om om).bind fun x j h1 hj=>h.row j d n x hj om om
theorem ZN (f:Nat) (h:Fu l f) (i d n:Nat) (x:Ex) (hi:i<l.length) (hn:n≤4) (hf:16*(l.length-i)+1≤f+1):iE l.length i (vK (f+1) l i d n x):=by
 rw[vK];cases ho:xu l i n with
 |none=>exact iE.ok _ hi
 |some s=>
  have h1:bG l i s=true:=by simpa using List.find?_some ho
  have h2:=dw hl hi h1;refine(((h.level (i+1) d (n+1) h2 om om).bind fun y j h3 hj=> ?_).weak).from om;split
  ·exact iE.ok _ hj
  ·exact h.row j d n _ hj hn om
theorem SH (f:Nat) (h:Fu l f) (i d:Nat) (hi:i<l.length) (hf:16*(l.length-i)+3≤f+1):Gd l.length i (iI (f+1) l i d):=by
 rw[iI];have step:∀(s:List UInt8) (k:Nat) (g:Ex→Ex),bG l i s=true→i+1≤k→k<l.length→Gd l.length i ((iI f l k (d+1)).bind fun y j=>.ok (g y) j):=fun s k g h1 h2 h3=>
  iE.strict ((h.unary k (d+1) h3 om).bind fun y j _ hj=>iE.ok _ hj).weak om
 split
 ·exact Nat.succ_ne_zero _
 ·split
  ·rename_i h1;exact step _ _ _ h1 (Nat.le_refl _) (dw hl hi h1)
  ·split
   ·rename_i h1;exact step _ _ _ h1 (Nat.le_refl _) (dw hl hi h1)
   ·split
    ·rename_i h1;exact step _ _ _ h1 (Nat.le_refl _) (dw hl hi h1)
    ·split
     ·rename_i h1;have h2:=Du hl (s:=[109,117,116]) (dw hl hi h1);exact step _ _ _ h1 h2.1 h2.2
     ·exact h.post i (d+1) hi om
omit hl in
theorem VQ (f:Nat) (h:Fu l f) (i d:Nat) (hi:i<l.length) (hf:16*(l.length-i)+2≤f+1):Gd l.length i (rD (f+1) l i d):=by rw[rD];exact(h.RI i d hi om).bind fun x j h1 hj=>h.dots j d x hj om
theorem VR (f:Nat) (h:Fu l f) (i d:Nat) (x:Ex) (hi:i<l.length) (hf:16*(l.length-i)+1≤f+1):iE l.length i (nJ (f+1) l i d x):=by
 rw[nJ];split
 ·rename_i h1;have h2:=dw hl hi h1;refine(((iP hl h2).bind fun n j h3 hj=> ?_).weak).from om;split
  ·rename_i h4;have h5:=dw hl hj h4;exact(((h.list (j+1) d h5 om).bind fun al k h6 hk=>h.dots k d _ hk om).weak).from om
  ·exact h.dots j d _ hj om
 ·exact iE.ok _ hi
theorem VS (f:Nat) (h:Fu l f) (i d:Nat) (hi:i<l.length) (hf:16*(l.length-i)+11≤f+1):Gd l.length i (lG (f+1) l i d):=by
 rw[lG];split
 ·rename_i h1;exact⟨Nat.lt_succ_self i,dw hl hi h1⟩
 ·exact h.more i d [] hi om
theorem VT (f:Nat) (h:Fu l f) (i d:Nat) (acc:List Ex) (hi:i<l.length) (hf:16*(l.length-i)+10≤f+1):Gd l.length i (oK (f+1) l i d acc):=by
 rw[oK];refine(mZ hi).xJ fun _ i2 h0 hi2=> ?_;refine(h.level i2 d 0 hi2 om om).bind fun x j h1 hj=> ?_;split
 ·rename_i h2;exact((h.more (j+1) d _ (dw hl hj h2) om).weak).from om
 ·exact((dX hl hj).bind fun _ k _ hk=>iE.ok _ hk).weak
theorem ZO (f:Nat) (h:Fu l f) (i d:Nat) (hi:i<l.length) (hf:16*(l.length-i)+1≤f+1):Gd l.length i (qJ (f+1) l i d):=by rw[qJ];exact(dX hl hi).bind fun _ j h1 hj=>((h.level j d 0 hj om om).bind fun x k h2 hk=>((dX hl hk).bind fun _ m _ hm=>iE.ok _ hm).weak).weak
theorem VU (f:Nat) (h:Fu l f) (i d:Nat) (ns:List ByteArray) (al:List Ex) (hi:i<l.length) (hf:16*(l.length-i)+1≤f+1):Gd l.length i (lH (f+1) l i d ns al):=by
 rw[lH];refine(mZ hi).xJ fun _ i2 h0 hi2=> ?_;refine(iP hl hi2).bind fun n j h1 hj=> ?_;refine((dX hl hj).bind fun _ j2 h2 hj2=> ?_).weak;refine((h.level j2 d 0 hj2 om om).bind fun x k h3 hk=> ?_).weak;split
 ·rename_i h4;exact((h.made (k+1) d _ _ (dw hl hk h4) om).weak).from om
 ·exact((dX hl hk).bind fun _ m _ hm=>iE.ok _ hm).weak
theorem SI (f:Nat) (h:Fu l f) (i d:Nat) (hi:i<l.length) (hf:16*(l.length-i)+1≤f+1):Gd l.length i (bU (f+1) l i d):=by
 rw[bU];split
 ·exact Nat.succ_ne_zero _
 ·exact(dX hl hi).bind fun _ j h1 hj=>(h.stmts j _ [] hj om).weak
theorem SK (f:Nat) (h:Fu l f) (i d:Nat) (acc:List St) (hi:i<l.length) (hf:16*(l.length-i)+12≤f+1):Gd l.length i (lY (f+1) l i d acc):=by
 rw[lY];split
 ·rename_i h1;exact⟨Nat.lt_succ_self i,dw hl hi h1⟩
 ·exact(h.stmt i d hi om).bind fun s j h1 hj=>(h.stmts j d _ hj om).weak
theorem ZP (f:Nat) (h:Fu l f) (i d:Nat) (hi:i<l.length) (hf:16*(l.length-i)+1≤f+1):Gd l.length i (xO (f+1) l i d):=by
 rw[xO];refine(iP hl hi).bind fun n j h1 hj=> ?_;refine iE.bind ?_ fun ty k h2 hk=> ?_
 ·split
  ·rename_i h3;exact((h.typ (j+1) d (dw hl hj h3) om).weak).from om
  ·exact iE.ok _ hj
 ·refine iE.bind ?_ fun e m h4 hm=>((dX hl hm).bind fun _ p _ hp=>iE.ok _ hp).weak;split
  ·rename_i h3;exact(((h.level (k+1) d 0 (dw hl hk h3) om om).bind fun x q _ hq=>iE.ok _ hq).weak).from om
  ·exact iE.ok _ hk
theorem ZQ (f:Nat) (h:Fu l f) (i d:Nat) (hi:i<l.length) (hf:16*(l.length-i)+10≤f+1):Gd l.length i (xP (f+1) l i d):=by
 rw[xP];refine(h.level i d 0 hi om om).bind fun x j h1 hj=> ?_;refine iE.bind ?_ fun p m h4 hm=>((dX hl hm).bind fun _ p _ hp=>iE.ok _ hp).weak;split
 ·rename_i h3;exact(((h.level (j+1) d 0 (dw hl hj h3) om om).bind fun x q _ hq=>iE.ok _ hq).weak).from om
 ·exact iE.ok _ hj
theorem VW (f:Nat) (h:Fu l f) (i d:Nat) (hi:i<l.length) (hf:16*(l.length-i)+11≤f+1):Gd l.length i (rE (f+1) l i d):=by
 rw[rE];split
 ·rename_i h1;exact iE.strict ((h.ZK (i+1) d (dw hl hi h1) om).bind fun p j _ hj=>iE.ok _ hj).weak (Nat.lt_succ_self i)
 ·split
  ·rename_i h1;refine iE.strict ((h.level (i+1) d 0 (dw hl hi h1) om om).bind fun x j h2 hj=> ?_).weak (Nat.lt_succ_self i);refine((h.block j d hj om).bind fun b k h3 hk=> ?_).weak;split
   ·rename_i h4;exact(((h.block (k+1) d (dw hl hk h4) om).bind fun c m _ hm=>iE.ok _ hm).weak).from om
   ·exact iE.ok _ hk
  ·split
   ·rename_i h1;exact iE.strict ((h.level (i+1) d 0 (dw hl hi h1) om om).bind fun x j h2 hj=>((h.block j d hj om).bind fun b k h3 hk=>iE.ok _ hk).weak).weak (Nat.lt_succ_self i)
   ·split
    ·rename_i h1;have h2:=dw hl hi h1;refine iE.strict (iE.bind (i:=i+1) ?_ fun e m h4 hm=>((dX hl hm).bind fun _ p _ hp=>iE.ok _ hp).weak) (Nat.lt_succ_self i);split
     ·exact iE.ok _ h2
     ·exact((h.level (i+1) d 0 h2 om om).bind fun x q _ hq=>iE.ok _ hq).weak
    ·split
     ·rename_i h1;exact iE.strict ((dX hl (dw hl hi h1)).bind fun _ j _ hj=>iE.ok _ hj).weak (Nat.lt_succ_self i)
     ·split
      ·exact(h.block i d hi om).bind fun b j _ hj=>iE.ok _ hj
      ·exact(h.ZL i d hi om).bind fun p j _ hj=>iE.ok _ hj
theorem VX (f:Nat) (h:Fu l f) (i d:Nat) (hi:i<l.length) (hf:16*(l.length-i)+1≤f+1):Gd l.length i (qg (f+1) l i d):=by
 rw[qg];have ok1:∀(x:Ex),(tokA l i).kind≠0→Gd l.length i (.ok x (i+1)):=fun x hk=>⟨Nat.lt_succ_self i,zq hl hi hk⟩;have okF:∀(s:List UInt8) (x:Ex),bG l i s=true→Gd l.length i (.ok x (i+1)):=fun s x hk=>⟨Nat.lt_succ_self i,dw hl hi hk⟩;by_cases h1:(tokA l i).kind=3
 ·rw[if_pos h1];exact ok1 _ om
 rw[if_neg h1];clear h1;by_cases h1:(tokA l i).kind=4
 ·rw[if_pos h1];exact ok1 _ om
 rw[if_neg h1];clear h1;by_cases h1:bG l i [116,114,117,101]=true
 ·rw[if_pos h1];exact okF _ _ h1
 rw[if_neg h1];clear h1;by_cases h1:bG l i [102,97,108,115,101]=true
 ·rw[if_pos h1];exact okF _ _ h1
 rw[if_neg h1];clear h1;by_cases h1:bG l i [99,104,111,111,115,101]=true
 ·rw[if_pos h1];exact okF _ _ h1
 rw[if_neg h1];clear h1;by_cases h1:bG l i [66,111,120]=true
 ·rw[if_pos h1];exact iE.strict ((h.one (i+1) d (dw hl hi h1) (by have:=dw hl hi h1;omega)).bind fun x j _ hj=>iE.ok _ hj).weak (Nat.lt_succ_self i)
 rw[if_neg h1];clear h1;by_cases h1:bG l i [117,110,98,111,120]=true
 ·rw[if_pos h1];exact iE.strict ((h.one (i+1) d (dw hl hi h1) (by have:=dw hl hi h1;omega)).bind fun x j _ hj=>iE.ok _ hj).weak (Nat.lt_succ_self i)
 rw[if_neg h1];clear h1;by_cases h1:bG l i [110,101,119]=true
 ·rw[if_pos h1];have h2:=dw hl hi h1;refine iE.strict ((iP hl h2).bind fun n j h3 hj=> ?_).weak (Nat.lt_succ_self i);refine((dX hl hj).bind fun _ k h4 hk=> ?_).weak;split
  ·rename_i h5;exact⟨by omega,dw hl hk h5⟩
  ·exact((h.made k d _ _ hk om).bind fun p m _ hm=>iE.ok _ hm).weak
 rw[if_neg h1];clear h1;by_cases h1:bG l i [97,115]=true
 ·rw[if_pos h1];have h2:=dw hl hi h1;refine iE.strict ((iP hl h2).bind fun n j h3 hj=> ?_).weak (Nat.lt_succ_self i);refine((dX hl hj).bind fun _ k h4 hk=> ?_).weak;refine iE.bind ?_ fun ns m h5 hm=>((h.block m d hm om).bind fun b p _ hp=>iE.ok _ hp).weak;split
  ·rename_i h6;exact⟨by omega,dw hl hk h6⟩
  ·exact(h.bars k _ hk om).weak
 rw[if_neg h1];clear h1;by_cases h1:bG l i [40]=true
 ·rw[if_pos h1];have h2:=dw hl hi h1;split
  ·rename_i h3;exact⟨by omega,dw hl h2 h3⟩
  ·exact iE.strict ((h.level (i+1) d 0 h2 om om).bind fun x j h3 hj=>((dX hl hj).bind fun _ k _ hk=>iE.ok _ hk).weak).weak (Nat.lt_succ_self i)
 rw[if_neg h1];clear h1;by_cases h1:bG l i [115,101,108,102]=true
 ·rw[if_pos h1];exact okF _ _ h1
 rw[if_neg h1];clear h1;refine(iP hl hi).bind fun n j h3 hj=> ?_;split
 ·rename_i h4;exact(((h.list (j+1) d (dw hl hj h4) (by have:=dw hl hj h4;omega)).bind fun al k _ hk=>iE.ok _ hk).weak).from om
 ·exact iE.ok _ hj
theorem Dv:∀f,Fu l f:=by
 intro f;induction f with
 |zero=>constructor<;>intros<;>omega
 |succ f ih=>
  exact⟨fun i d=>ZM hl f ih i d,fun i d ls ts=>VO hl f ih i d ls ts,fun i ns=>VP hl f ih i ns,fun i d n=>SG f ih i d n,fun i d n x=>ZN hl f ih i d n x,fun i d=>SH hl f ih i d,fun i d=>VQ f ih i d,fun i d x=>VR hl f ih i d x,
   fun i d=>VS hl f ih i d,fun i d acc=>VT hl f ih i d acc,fun i d=>ZO hl f ih i d,fun i d ns al=>VU hl f ih i d ns al,fun i d=>VX hl f ih i d,fun i d=>SI hl f ih i d,fun i d acc=>SK hl f ih i d acc,fun i d=>ZP hl f ih i d,fun i d=>ZQ hl f ih i d,fun i d=>VW hl f ih i d⟩
end
theorem catch_panicking (b:Nat) (c ln col:Int) (v0 v1 v2:Value) (older:List PanicEntry) (w:World) (hc:w.heap[b]?=some (.cells #[v0,v1,v2] 27 (0,0))):
  CallsD Tryz.prog 123 #[.pointer (some ⟨b,0,none⟩)] (.panicking ({v:=.iface 184 (.agg #[ah c,ah ln,ah col]),recovered:=false}::older)) w fun e u' w'=>
   e=.returned (.tuple #[])∧u'=.panicking ({v:=.iface 184 (.agg #[ah c,ah ln,ah col]),recovered:=true}::older)∧w'.heap[b]?=some (.cells #[ah c,ah ln,ah col] 27 (0,0))∧Step (·=b) w w':=by
 refine callsD_of_wpS Tryz.func123 rfl fun c₀ cs hu=> ?_
 obtain⟨⟨g0,g1,g2⟩,k0,k1,k2⟩:=qG hc
 have hlt:b<w.heap.size:=aP hc
 apply wpS_seq
 apply wpS_region
 have hta:∀(x:Value) (w:World),(Instr.typeAssert (.iface 184 x) 20 184 true).run Tryz.prog w=.ok (.tuple #[x,bK true]) w:=fun _ _=>by kernel_rfl
 simp[wpOpsS,go_sem,recoverD,hu,Tryz.ntmps123,Exit.thenS]
 refine wpS_of_wp ?_
 simp only[Array.replicate_succ,Array.replicate_zero,List.push_toArray,List.append_toArray,List.nil_append,List.cons_append,List.setIfInBounds_toArray,List.set_cons_zero,List.set_cons_succ]
 go_wp2
 refine⟨rfl,_,rfl,.tuple #[],by simp[results,Tryz.results123,go_sem],rfl,rfl,?_,?_⟩
 ·
  have:=aQ (aQ (aQ hc 0 (.int .i64 c)) 1 (.int .i64 ln)) 2 (.int .i64 col)
  exact aT this
 ·
  exact((((Step.refl (·=b) w).setCell ⟨b,0,none⟩ _ iV).setCell ⟨b,1,none⟩ _ iV).setCell ⟨b,2,none⟩ _ iV).alloc _
theorem catch_idle (b:Nat) (w:World):CallsD Tryz.prog 123 #[.pointer (some ⟨b,0,none⟩)] .returning w fun e u' w'=>e=.returned (.tuple #[])∧u'=.returning∧w'=w:=by refine callsD_of_wpS Tryz.func123 rfl fun c₀ cs hu=> ?_;apply wpS_seq;apply wpS_region;simp[wpOpsS,go_sem,recoverD,hu,Tryz.ntmps123,Exit.thenS];refine wpS_of_wp ?_;simp only[Array.replicate_succ,Array.replicate_zero,List.push_toArray,List.append_toArray,List.nil_append,List.cons_append,List.setIfInBounds_toArray,List.set_cons_zero,List.set_cons_succ];go_wp2;cases c₀;simp_all [bodyPostS,results,Tryz.results123,go_sem]
def tH (w:World) (lv:Value):World:=(w.alloc (.cells #[ah 0,ah 0,ah 0] 27)).alloc (.cells #[lv,ah 0,ah 0] 152)
theorem OJ (a:Option Addr) (n cap k:Nat) (caps:List Value) (w:World) (c ln col:Nat) (Q:World→Prop) (hk:Enters k)
  (hby:Calls Tryz.prog k (.pointer (some ⟨w.heap.size+1,0,none⟩)::caps).toArray (tH w (.slice a n cap)) fun e w'=>
   e=.panicked [{v:=.iface 184 (.agg #[ah c,ah ln,ah col]),recovered:=false}]∧(w'.heap[w.heap.size]?=some (.cells #[ah 0,ah 0,ah 0] 27 (0,0)))∧Q w'):
  Calls Tryz.prog 87 #[.slice a n cap,.func (.func k) #[] caps.toArray] w fun e w'=>
   e=.returned (.agg #[ah c,ah ln,ah col])∧∃w1,Q w1∧Step (·=w.heap.size) w1 w':=by
 have hmf:∀(fn:Fn) (first cap:Array Value) (w:World),(Instr.makeFunc fn first cap).run Tryz.prog w=.ok (.func fn first cap) w:=fun _ _ _ _=>rfl
 have hfe:∀(fn:Fn) (x y:Array Value) (w:World),(binOp .eql 150 (.func fn x y) .nilFunc).run Tryz.prog w=.ok (.bool false) w:=fun _ _ _ _=>by kernel_rfl
 have hen:Enters k:=hk
 unfold Enters at hen
 have HB:=ai hby
 clear hby hk
 go_enter_defers Tryz.func87,Tryz.ntmps87
 go_wp2_with fail
 refine HB.o.mono ?_
 rintro e w1 ⟨rfl,hE,hQ⟩
 refine leaves_cons (f:=123) (args:= #[.pointer (some ⟨w.heap.size,0,none⟩)]) (by simp) (by simp[go_sem]) ?_
 refine(catch_panicking w.heap.size c ln col _ _ _ [] w1 hE).mono ?_
 rintro e u' w2 ⟨rfl,rfl,hE2,hst⟩
 obtain⟨⟨g0,g1,g2⟩,_⟩:=qG hE2
 simp[Leaves,settle,results,Tryz.results87,go_sem,g0,g1,g2]
 exact⟨w1,hQ,hst⟩
theorem VY (a:Option Addr) (n cap k:Nat) (caps:List Value) (w:World) (Q:World→Prop) (hk:Enters k)
  (hby:Calls Tryz.prog k (.pointer (some ⟨w.heap.size+1,0,none⟩)::caps).toArray (tH w (.slice a n cap)) fun e w'=>
   e=.returned (.tuple #[])∧(w'.heap[w.heap.size]?=some (.cells #[ah 0,ah 0,ah 0] 27 (0,0)))∧Q w'):
  Calls Tryz.prog 87 #[.slice a n cap,.func (.func k) #[] caps.toArray] w fun e w'=>
   e=.returned (.agg #[ah 0,ah 0,ah 0])∧∃w1,Q w1∧Step (·=w.heap.size) w1 w':=by
 have hmf:∀(fn:Fn) (first cap:Array Value) (w:World),(Instr.makeFunc fn first cap).run Tryz.prog w=.ok (.func fn first cap) w:=fun _ _ _ _=>rfl
 have hfe:∀(fn:Fn) (x y:Array Value) (w:World),(binOp .eql 150 (.func fn x y) .nilFunc).run Tryz.prog w=.ok (.bool false) w:=fun _ _ _ _=>by kernel_rfl
 have hen:Enters k:=hk
 unfold Enters at hen
 have HB:=ai hby
 clear hby hk
 go_enter_defers Tryz.func87,Tryz.ntmps87
 go_wp2_with fail
 refine HB.o.mono ?_
 rintro e w1 ⟨rfl,hE,hQ⟩
 have q0:=aj hE 0 _ rfl
 have q1:=aj hE 1 _ rfl
 have q2:=aj hE 2 _ rfl
 have z0:=aG hE 0
 have z1:=aG hE 1
 have z2:=aG hE 2
 have HQ:=ai hQ
 have hb2:=aQ (aQ (aQ hE 0 (.int .i64 0)) 1 (.int .i64 0)) 2 (.int .i64 0)
 have hs2:Step (·=w.heap.size) w1 (((w1.setCell ⟨w.heap.size,0,none⟩ (.int .i64 0)).setCell ⟨w.heap.size,1,none⟩ (.int .i64 0)).setCell ⟨w.heap.size,2,none⟩ (.int .i64 0)):=(((Step.refl (·=w.heap.size) _).setCell _ _ iV).setCell _ _ iV).setCell _ _ iV
 have HB2:=ai hb2
 have HS2:=ai hs2
 clear hQ hb2 hs2
 go_wp2_with fail
 refine leaves_cons (f:=123) (args:= #[.pointer (some ⟨w.heap.size,0,none⟩)]) (by simp) (by simp[go_sem]) ?_
 refine(catch_idle w.heap.size _).mono ?_
 rintro e u' w2 ⟨rfl,rfl,rfl⟩
 obtain⟨⟨g0,g1,g2⟩,_⟩:=qG HB2.o
 simp[Leaves,settle,results,Tryz.results87,go_sem,g0,g1,g2]
 exact⟨w1,HQ.o,HS2.o⟩
def GK {α:Type} (r:dI α) (l:List Tok):dI α:=match r with
 | .ok a j=>if(tokA l j).kind=0 then .ok a j else iw 1 l j
 | .err c ln col=>.err c ln col
 | .out=>.out
def Dw {α:Type} (s:List UInt8) (p:List Tok→dI α):Except (Nat×Nat×Nat) α:=match nP s with
 | .error e=>.error e
 | .ok l=>match GK (p l) l with
  | .ok a _=>.ok a
  | .err c ln col=>.error (c,ln,col)
  | .out=>.error (1,0,0)
theorem bC.apart {R:gI} {w w':World} {i d bo:Nat} (h:bC R w i d) (hs:Step (·=bo) w w') (h0:0<bo) (h1:bo≠R.rb) (h2:∀g o p,R.a=some ⟨g,o,p⟩→g≠bo):bC R w' i d:=by
 refine⟨hs.keep h.blk (fun e=>h1 e.symm),?_,hs.cell h.Nz (fun e=>by have e2:0=bo:=e;omega),h.pos,h.lt⟩;obtain⟨a,c,hv,hc,hm,hz,hr⟩:=h.row;refine⟨a,c,hv,hc,hm,hz,fun hn=> ?_⟩;obtain⟨g,o,ha,hg,hgw,hcell⟩:=hr hn;have hra:R.a=some ⟨g,o,none⟩:=by rw[←ha];cases hv;rfl
 exact⟨g,o,ha,hg,Nat.lt_of_lt_of_le hgw hs.size,fun i x hx=>hs.cell (hcell i x hx) (h2 g o none hra)⟩
theorem Dx {α:Type} {s:List UInt8} {p:List Tok→dI α} (hc:∀l c ln col,nP s=.ok l→p l=.err c ln col→c≠0) {c ln col:Nat} (h:Dw s p=.error (c,ln,col)):c≠0:=by
 unfold Dw at h;cases hx:nP s with
 |error e=>rw[hx]at h;obtain⟨c',ln',col'⟩:=e;cases h;exact Ji hx
 |ok l=>
  rw[hx]at h;dsimp only at h;cases hy:p l with
  |out=>rw[hy]at h;cases h;decide
  |err c' ln' col'=>rw[hy]at h;cases h;exact hc l _ _ _ hx hy
  |ok a j=>
   rw[hy]at h;dsimp only[GK]at h;by_cases hz:(tokA l j).kind=0
   ·rw[if_pos hz]at h;cases h
   ·rw[if_neg hz,iw]at h;cases h;decide
theorem VZ (s:ByteArray) (w:World) (m:Int) (hm:w.cell? ⟨0,0,none⟩=some (.int .i64 m)):Calls Tryz.prog 86 #[.string s] w (FN w.heap.size w (nP s.data.toList)):=by
 rcases Nat.lt_or_ge 20000 s.size with h|h
 ·exact P8 s w h
 ·exact Ur s w m hm h
theorem OL {α:Type} (R:gI) (k:Nat) (caps:List Value) (bc bo:Nat) (Left:World→α→Prop) (r:dI α) (w:World) (hk:Enters k) (hbc:w.cell? ⟨bc,0,none⟩=some (.func (.func k) #[] caps.toArray)) (hno:r≠.out) (hby:Calls Tryz.prog k (.agg #[gW R.rb 0]::caps).toArray w (aY R 0 bo Left r w)) (hst:∀X Y a,jg X Y→Left X a→Left Y a):Calls Tryz.prog 88 #[.pointer (some ⟨R.rb,0,none⟩),.pointer (some ⟨bc,0,none⟩)] w (aY R 0 bo Left (GK r R.l) w):=by
 have hen:Enters k:=hk;unfold Enters at hen;have HB:=ai hby;have HST:=ai hst;have fH:=ai hno;have hfd0:∀(a0 a1 a2 a3 a4:Value) (w:World),(Instr.field 111 (.agg #[a0,a1,a2,a3,a4]) 0).run Tryz.prog w=.ok a0 w:=fun _ _ _ _ _ _=>by kernel_rfl
 clear hby hk hst hno;go_enter Tryz.func88,Tryz.ntmps88;go_wp2_with fail;refine HB.o.mono ?_;rintro e w1 hp;cases r with
 |out=>exact absurd rfl fH.o
 |err c ln col=>obtain⟨rfl,hs⟩:=hp;exact⟨rfl,rfl,hs⟩
 |ok a j=>
  obtain⟨rfl,hleft,hr,hs⟩:=hp;obtain⟨tk,htk⟩:=bF (tokA R.l j);have HT:=ai (show R.l[j]?=some tk by rw[htk];exact hr.tok);have NE:=ai htk;have HR:=ai hr;have NI:=ai hleft;have HS:=ai hs;clear htk hr hleft hs hbc;go_wp2_with fail;refine(lF R _ j 0 tk HR.o HT.o).mono ?_;rintro e w2 ⟨rfl,h2⟩;have HR2:=ai (HR.o.quiet h2);have HS2:=ai h2;clear h2;by_cases hz:tk.kind=0
  ·(have e1:((tk.kind:Int) !=0)=false:=by rw[bne,kF tk.kind 0 0 rfl,hz];rfl);(have HE:Hid (GK (.ok a j) R.l=.ok a j):=by show(if(tokA R.l j).kind=0 then dI.ok a j else iw 1 R.l j)=_;rw[←NE.o,if_pos hz]);clear hz;go_wp2_with fail;refine bodyPost_end (results_none rfl _ _ _) rfl ?_;exact aY.dN HE.o rfl (HST.o _ _ _ HS2.o NI.o) HR2.o (HS.o.trans (HS2.o.mono fe))
  ·(have e1:((tk.kind:Int) !=0)=true:=by rw[bne,kF tk.kind 0 0 rfl,beq_eq_false_iff_ne.2 hz];rfl);(have HE:Hid (GK (.ok a j) R.l=.err 1 tk.line tk.col):=by show(if(tokA R.l j).kind=0 then dI.ok a j else iw 1 R.l j)=_;rw[←NE.o,if_neg hz,iw,←NE.o]);clear hz;go_wp2_with fail;refine(oZ R 1 _ j 0 tk HR2.o HT.o).mono ?_;rintro e w3 ⟨rfl,h3⟩;exact⟨rfl,aY.aU HE.o rfl (HS.o.trans ((HS2.o.trans h3).mono fe))⟩
theorem zx:Enters 88:=fun xs w=>by go_simp
def MJ {α:Type} (bo:Nat) (Left:World→World→α→Prop) (r:Except (Nat×Nat×Nat) α) (w:World) (e:Ending) (w':World):Prop:=
 match r with
 | .ok a=>e=.returned (.agg #[ah 0,ah 0,ah 0])∧(∃X,w.heap.size≤X.heap.size∧Left X w' a)∧Step (·=bo) w w'
 | .error (c,ln,col)=>e=.returned (.agg #[ah c,ah ln,ah col])∧Step (·=bo) w w'
theorem E8 {α:Type} (s:ByteArray) (k:Nat) (caps:List Value) (bo:Nat) (p:List Tok→dI α) (Left:World→World→α→Prop) (w:World) (m:Int) (hm:w.cell? ⟨0,0,none⟩=some (.int .i64 m)) (hbw:bo<w.heap.size) (hk:Enters k) (hp:∀l,nP s.data.toList=.ok l→p l≠.out) (hst:∀X Y Z a,w.heap.size≤X.heap.size→Step (fun q=>w.heap.size≤q∧q<X.heap.size) Y Z→Left X Y a→Left X Z a) (hby:∀(R:gI) (X:World),nP s.data.toList=.ok R.l→oJ R.l→bC R X 0 0→w.heap.size<R.rb→(∀g o p,R.a=some ⟨g,o,p⟩→w.heap.size≤g)→jg w X→Calls Tryz.prog k (.agg #[gW R.rb 0]::caps).toArray X (aY R 0 bo (Left X) (p R.l) X)):Calls Tryz.prog 46 #[.string s,.func (.func k) #[] caps.toArray] w (MJ bo Left (Dw s.data.toList p) w):=by
 have hmf:∀(fn:Fn) (first cap:Array Value) (w:World),(Instr.makeFunc fn first cap).run Tryz.prog w=.ok (.func fn first cap) w:=fun _ _ _ _=>rfl;obtain⟨w1,hw1⟩:=bF ((w.alloc (.cells #[.func (.func k) #[] caps.toArray] 109)).alloc (.cells #[ah 0,ah 0,ah 0] 27));have dH:=nT hw1
 have kK:=nC hw1
 have lS:=nD hw1
 have HW1:=ai hw1;have HM1:=ai (dH.o.cell hm (fun h=>h));have HLX:=ai (VZ s w1 m HM1.o);have HB:=ai hby;have HP:=ai hp;have HST:=ai hst;have hn1:=aP lS.o;have hsz1:=dH.o.size;have HK:=ai hk;obtain⟨rl,hrl⟩:=bF (nP s.data.toList);have tY:=ai hrl;rw[←hrl]at HLX;clear hm hk hp hst hby hw1 hrl;go_enter Tryz.func46,Tryz.ntmps46;go_upto_region 1 with fail
 rw[←HW1.o];go_wp2_with fail;refine HLX.o.mono ?_;rintro e w2 ⟨hp,h2⟩;cases rl with
 |error q=>
  obtain⟨c,ln,col⟩:=q;have hp2:e=.returned (.tuple #[ak,.agg #[ah c,ah ln,ah col]]):=hp;subst hp2;have hc0:c≠0:=Ji tY.o.symm;have bc:((c:Int)==0)=false:=by rw[beq_eq_false_iff_ne];omega
  have HS2:=ai h2;have kS:=ai (h2.keep lS.o (fun h=>h));have hz2:=h2.size;obtain⟨⟨d0,d1,d2⟩,z0,z1,z2⟩:=qG (aT (o':=.cells #[ah c,ah ln,ah col] 27) kS.o);clear hp h2 hc0;go_wp2_with fail;refine bodyPost_ret (v:=.agg #[ah c,ah ln,ah col]) (by simp[results,Tryz.results46,go_sem,d0,d1,d2]) rfl ?_;unfold MJ Dw;rw[←tY.o];refine⟨rfl,?_⟩;have hs3:Step (·=w.heap.size+1) w2 ((((w2.alloc (.cells #[ah c,ah ln,ah col] 27)).setCell ⟨w.heap.size+1,0,none⟩ (.int .i64 c)).setCell ⟨w.heap.size+1,1,none⟩ (.int .i64 ln)).setCell ⟨w.heap.size+1,2,none⟩ (.int .i64 col)):=((((Step.refl (·=w.heap.size+1) _).alloc _).setCell _ _ iV).setCell _ _ iV).setCell _ _ iV;exact((dH.o.trans HS2.o).mono fe).then hs3 oi
 |ok l=>
  obtain⟨v,rfl,hown⟩:∃v,e=.returned (.tuple #[v,.agg #[ah 0,ah 0,ah 0]])∧w2.ownsRow w1.heap.size 111 5 v l.length (pF l):=hp;obtain⟨a,c,rfl⟩:=b_ hown;obtain⟨hlk,hl0⟩:=zo tY.o.symm;have hpn:=HP.o l tY.o.symm;obtain⟨w3,hw3⟩:=bF (w2.alloc (.cells #[ah 0,ah 0,ah 0] 27));have jX:Hid (jg w w3):=by rw[hw3];exact(dH.o.trans h2).alloc _
  have oH:Hid (jg w1 w3):=by rw[hw3];exact h2.alloc _
  have qf:=nB hw3
  have HOW:=ai ((show jg w2 w3 by rw[hw3];exact bg.alloc _).owns hown (fun _ _ h=>h));have HM3:=ai (oH.o.cell HM1.o (fun h=>h));have zJ:=ai (oH.o.keep kK.o (fun h=>h));have uZ:=ai (oH.o.keep lS.o (fun h=>h));have HW3:=ai hw3;have hz13:=oH.o.size;clear hown h2 hw3;obtain⟨R,hR⟩:∃R:gI,R=⟨w3.heap.size+1,a,c,l,m⟩:=⟨_,rfl⟩;have hrb:R.rb=w3.heap.size+1:=by rw[hR]
  have hRl:R.l=l:=by rw[hR]
  have hRD:bC R (tH w3 (.slice a l.length c)) 0 0:=by rw[hR];have h3:jg w3 (tH w3 (.slice a l.length c)):=(bg.alloc _).alloc _;exact⟨qF _ _ _,(Row.jd HOW.o (Nat.le_refl _)).step h3 (fun _ _ h=>h)|>.mono (Nat.le_succ _),h3.cell HM3.o (fun h=>h),Nat.succ_pos _,hl0⟩
  have hRA:∀g o p,R.a=some ⟨g,o,p⟩→w.heap.size≤g:=by intro g o p e;rw[hR]at e;have e2:a=some ⟨g,o,p⟩:=e;have:=(HOW.o.lt g (by rw[e2];rfl)).1;omega
  have V4:jg w (tH w3 (.slice a l.length c)):=(jX.o.alloc _).alloc _;have hcall:=OL R k caps w.heap.size bo (Left (tH w3 (.slice a l.length c))) (p R.l) (tH w3 (.slice a l.length c)) HK.o (dV (dV (aj zJ.o 0 _ rfl))) (by rw[hRl];exact hpn)
   (HB.o R _ (by rw[hRl];exact tY.o.symm) (by rw[hRl];exact hlk) hRD om hRA V4) (fun X Y a hs hl=>HST.o _ X Y a V4.size (hs.mono fe) hl)
  rw[hRl,hrb]at hcall;have herr:(tH w3 (.slice a l.length c)).heap[w3.heap.size]?=some (.cells #[ah 0,ah 0,ah 0] 27 (0,0)):=aT (aC _ _);have hzr:(tH w3 (.slice a l.length c)).heap.size=w3.heap.size+2:=by simp[tH]
  have ZR:Hid (Dw s.data.toList p=match GK (p l) l with| .ok a _=>.ok a| .err c ln col=>.error (c,ln,col)| .out=>.error (1,0,0)):=by show _=_;unfold Dw;rw[←tY.o]
  obtain⟨r,hr⟩:=bF (GK (p l) l);rw[←hr]at hcall ZR;have MH:=ai hcall;have hrn:r≠.out:=by
   rw[hr];unfold GK;cases hx:p l with
   |out=>exact absurd hx hpn
   |err=>intro e;cases e
   |ok a j=>dsimp only;split<;>(intro e;cases e)
  obtain⟨⟨g0,g1,g2⟩,-⟩:=qG qf.o;have hlt3:w.heap.size+1<w3.heap.size:=by omega
  clear hcall hRD hRA hR hr hlk hl0 hpn;cases r with
  |out=>exact absurd rfl hrn
  |err ce ln col=>have J9:=ai (OJ a l.length c 88 [.pointer (some ⟨w.heap.size,0,none⟩)] w3 ce ln col (fun X=>Step (fun q=>q=w3.heap.size+1∨q=bo) (tH w3 (.slice a l.length c)) X) zx (MH.o.mono fun e X hp=>⟨hp.1,hp.2.keep herr om,(by have h9:=hp.2;rw[hrb]at h9;exact h9)⟩));(go_upto_region 2 with fail);rw[←HW3.o];go_wp2_with fail;refine J9.o.mono ?_;rintro e w5 ⟨rfl,w4,h4,h5⟩;have KU:Step (·=bo) w3 w5:=((((Step.refl (fun _=>False) _).alloc _).alloc _).mono fe|>.then h4 oi).then h5 oi;have ZT:=ai KU;obtain⟨⟨d0,d1,d2⟩,z0,z1,z2⟩:=qG (KU.keep uZ.o om);clear h4 h5 KU g0 g1 g2;go_wp2_with fail;refine bodyPost_ret (v:=.agg #[ah ce,ah ln,ah col]) (by simp[results,Tryz.results46,go_sem,d0,d1,d2]) rfl ?_;rw[ZR.o];refine⟨rfl,?_⟩;have hs3:Step (·=w.heap.size+1) w5 (((w5.setCell ⟨w.heap.size+1,0,none⟩ (.int .i64 ce)).setCell ⟨w.heap.size+1,1,none⟩ (.int .i64 ln)).setCell ⟨w.heap.size+1,2,none⟩ (.int .i64 col)):=(((Step.refl (·=w.heap.size+1) _).setCell _ _ iV).setCell _ _ iV).setCell _ _ iV;exact((jX.o.mono fe).trans ZT.o).then hs3 oi
  |ok x j=>have HRO:=ai (VY a l.length c 88 [.pointer (some ⟨w.heap.size,0,none⟩)] w3 (fun X=>Left (tH w3 (.slice a l.length c)) X x∧Step (fun q=>q=w3.heap.size+1∨q=bo) (tH w3 (.slice a l.length c)) X) zx (MH.o.mono fun e X hp=>⟨hp.1,hp.2.2.2.keep herr om,hp.2.1,(by have h9:=hp.2.2.2;rw[hrb]at h9;exact h9)⟩));(go_upto_region 2 with fail);rw[←HW3.o];go_wp2_with fail;refine HRO.o.mono ?_;rintro e w5 ⟨rfl,w4,⟨hleft,h4⟩,h5⟩;have KU:Step (·=bo) w3 w5:=((((Step.refl (fun _=>False) _).alloc _).alloc _).mono fe|>.then h4 oi).then h5 oi;have ZT:=ai KU;have NI:=ai hleft;have sK:=ai h5;obtain⟨⟨d0,d1,d2⟩,z0,z1,z2⟩:=qG (KU.keep uZ.o om);clear h4 h5 KU g0 g1 g2 hleft;go_wp2_with fail;refine bodyPost_ret (v:=.agg #[ah 0,ah 0,ah 0]) (by simp[results,Tryz.results46,go_sem,d0,d1,d2]) rfl ?_;rw[ZR.o];have hs3:Step (·=w.heap.size+1) w5 (((w5.setCell ⟨w.heap.size+1,0,none⟩ (.int .i64 0)).setCell ⟨w.heap.size+1,1,none⟩ (.int .i64 0)).setCell ⟨w.heap.size+1,2,none⟩ (.int .i64 0)):=(((Step.refl (·=w.heap.size+1) _).setCell _ _ iV).setCell _ _ iV).setCell _ _ iV;refine⟨rfl,⟨_,V4.size,HST.o _ w4 _ x V4.size ?_ NI.o⟩,((jX.o.mono fe).trans ZT.o).then hs3 oi⟩;refine(sK.o.mono (fun q _ e=>⟨by omega,by omega⟩)).trans (hs3.mono (fun q _ e=>⟨by omega,by omega⟩))
section
variable {P : Program} {w : World}
theorem AO {fn:Func} {x y t t2:Nat} (h:fn.results= #[.cell x t,.cell y t2]) (tmps:Array Value) (b b2 tt tt2:Nat) (cs ds:List Value) (d d2:TypeDesc) (hx:tmps.getD x undef=.pointer (some ⟨b,0,none⟩)) (hy:tmps.getD y undef=.pointer (some ⟨b2,0,none⟩)) (hb:w.heap[b]?=some (.cells cs.toArray tt (0,0))) (hu:P.underlying t=some d) (hd:d.isRow=true) (hi:(P.info? t).map (·.size)=some cs.length) (hb2:w.heap[b2]?=some (.cells ds.toArray tt2 (0,0))) (hu2:P.underlying t2=some d2) (hd2:d2.isRow=true) (hi2:(P.info? t2).map (·.size)=some ds.length):(results fn tmps).run P w=.ok (.tuple #[.agg cs.toArray,.agg ds.toArray]) w:=by have hl:=run_loadVar_mid (P:=P) w b 0 t cs d (fun j v hv=>by rw[Nat.zero_add];exact aj hb j v pO) hu hd hi;have hl2:=run_loadVar_mid (P:=P) w b2 0 t2 ds d2 (fun j v hv=>by rw[Nat.zero_add];exact aj hb2 j v pO) hu2 hd2 hi2;rw[Array.getD_eq_getD_getElem?]at hx hy;simp[results,h,hx,hy,asAddr,hl,hl2]
theorem qp {fn:Func} {x y t2:Nat} (h:fn.results= #[.tmp x,.cell y t2]) (tmps:Array Value) (b2 tt2:Nat) (v:Value) (ds:List Value) (d2:TypeDesc) (hx:tmps.getD x undef=v) (hy:tmps.getD y undef=.pointer (some ⟨b2,0,none⟩)) (hb2:w.heap[b2]?=some (.cells ds.toArray tt2 (0,0))) (hu2:P.underlying t2=some d2) (hd2:d2.isRow=true) (hi2:(P.info? t2).map (·.size)=some ds.length):(results fn tmps).run P w=.ok (.tuple #[v,.agg ds.toArray]) w:=by have hl2:=run_loadVar_mid (P:=P) w b2 0 t2 ds d2 (fun j v hv=>by rw[Nat.zero_add];exact aj hb2 j v pO) hu2 hd2 hi2;rw[Array.getD_eq_getD_getElem?]at hx hy;simp[results,h,hx,hy,asAddr,hl2]
end
theorem Tryz.jL:(Tryz.prog.info? 27).map (·.size)=some 3:=by kernel_rfl
def qX:Nat:=200000
theorem Gd.code {α:Type} {N i:Nat} {r:dI α} (h:Gd N i r) {c ln col:Nat} (e:r=.err c ln col):c≠0:=by subst e;exact h
def MK (s:List UInt8):Except (Nat×Nat×Nat) Ex:=Dw s fun l=>a_ qX l 0 0 0
theorem BA {s:List UInt8} {l:List Tok} (h:nP s=.ok l):Gd l.length 0 (a_ qX l 0 0 0):=by obtain⟨hl,h0⟩:=zo h;exact(Dv hl qX).level 0 0 0 h0 om (by have:=hl.len;unfold qX;omega)
def KW (X w':World) (a:Ex) (cs:List Value):Prop:=dA w' (fun q=>X.heap.size≤q) a cs
theorem AQ {X Y Z:World} {a:Ex} {cs:List Value} {S:Nat→Prop} (hs:Step S Y Z) (hS:∀q,X.heap.size≤q→¬S q) (h:KW X Y a cs):KW X Z a cs:=dA.step hs hS a cs h
theorem zy:Enters 67:=fun xs w=>by go_simp
theorem Jj:Enters 40:=fun xs w=>by go_simp
def GL (bo:Nat) (X w':World) (a:Ex):Prop:=∃cs:List Value,w'.heap[bo]?=some (.cells cs.toArray 56 (0,0))∧KW X w' a cs
theorem Jk (R:gI) (bb bo:Nat) (r:dI (Ex)) (w:World) (h:bC R w 0 0) (hbb:w.cell? ⟨bb,0,none⟩=some (.func (.func 40) #[] #[])) (JJ:w.heap[bo]?=some (.cells #[ah 0,dG,aX 0,aW,ak,ak,ak,ah 0,ah 0] 56 (0,0))) (h0:0<bo) (hne:bo≠R.rb) (hra:∀g o p,R.a=some ⟨g,o,p⟩→g≠bo) (hno:r≠.out) (hc:∀X:World,bC R X 0 0→Calls Tryz.prog 40 #[.agg #[gW R.rb 0]] X (aK R 0 (JH X.heap.size) r X)):Calls Tryz.prog 67 #[.agg #[gW R.rb 0],.pointer (some ⟨bb,0,none⟩),.pointer (some ⟨bo,0,none⟩)] w (aY R 0 bo (GL bo w) r w):=by
 have hen:=Jj;unfold Enters at hen;obtain⟨w1,hw1⟩:=bF (w.alloc (.cells #[gW R.rb 0] 75));have dH:=nS hw1
 have kK:=nB hw1
 have HW1:=ai hw1;have H1:=ai (h.quiet dH.o);have p0:=aj kK.o 0 _ rfl;have b0:=dH.o.cell hbb (fun h=>h);have HBO:=ai (dH.o.keep JJ (fun h=>h));have hbl:=aP JJ;have HC:=ai (hc w1 H1.o);have fH:=ai hno;clear h hno hw1 hbb JJ hc;go_enter Tryz.func67,Tryz.ntmps67;go_upto_region 1 with fail
 rw[←HW1.o];go_wp2_with fail;refine HC.o.mono ?_;rintro e wx hp;cases r with
 |out=>exact absurd rfl fH.o
 |err c ln col=>obtain⟨rfl,sq⟩:=hp;exact⟨rfl,rfl,((dH.o.mono fe).trans sq).mono il⟩
 |ok y jx=>
  obtain⟨⟨v,rfl,cs,rfl,hy⟩,hrx,hsx⟩:=hp;have HY:=ai hy;have dQ:=ai hy.one;obtain⟨k0,iK,v0,iL,a1,n1,c1,a2,n2,c2,a3,n3,c3,l0,c0,rfl⟩:=hy.parts;have vO:=ai hrx;have qm:=ai hsx;have Ua:=ai (hsx.keep HBO.o hne);clear hy hrx hsx p0 b0
  go_wp2_with (refine aB (w:=wx) rfl 56 (.tmp 2) (.tmp 6) rfl bo 0 56 _ [.int .i64 k0,.string iK,.int .u64 v0,.bool iL,.slice a1 n1 c1,.slice a2 n2 c2,.slice a3 n3 c3,.int .i64 l0,.int .i64 c0] rfl rfl Ua.o Tryz.aO (Nat.le_of_eq rfl) dQ.o ?_
               intro w6 hb6 vT)
  have IJ:w6.heap[bo]?=some (.cells [Value.int .i64 k0,aI iK,aX v0,bK iL,.slice a1 n1 c1,.slice a2 n2 c2,.slice a3 n3 c3,ah l0,ah c0].toArray 56 (0,0)):=hb6;refine bodyPost_end (results_none rfl _ _ _) rfl ?_;have hz1:=dH.o.size;refine aY.dN rfl rfl ⟨_,IJ,dA.mono oi _ _ (dA.step vT oi _ _ HY.o)⟩ (vO.o.apart vT h0 hne hra) ?_;exact(((dH.o.mono fe).trans qm.o).mono il).trans (vT.mono ir)
def ML (r:Except (Nat×Nat×Nat) (Ex)) (w:World) (e:Ending) (w':World):Prop:=
 (match r with
  | .ok a=>∃v,e=.returned (.tuple #[v,.agg #[ah 0,ah 0,ah 0]])∧zK w' (fun q=>w.heap.size≤q) a v
  | .error (c,ln,col)=>e=.returned (.tuple #[.agg #[ah 0,dG,aX 0,aW,ak,ak,ak,ah 0,ah 0],.agg #[ah c,ah ln,ah col]]))∧jg w w'
theorem ZU (s:ByteArray) (w:World) (m:Int) (hm:w.cell? ⟨0,0,none⟩=some (.int .i64 m)):Calls Tryz.prog 39 #[.string s,.func (.func 40) #[] #[]] w (ML (MK s.data.toList) w):=by
 have hmf:∀(fn:Fn) (first cap:Array Value) (w:World),(Instr.makeFunc fn first cap).run Tryz.prog w=.ok (.func fn first cap) w:=fun _ _ _ _=>rfl;obtain⟨w1,hw1⟩:=bF (((((w.alloc (.cells #[.func (.func 40) #[] #[]] 101)).alloc (.cells #[ah 0,dG,aX 0,aW,ak,ak,ak,ah 0,ah 0] 56)).alloc (.cells #[ah 0,ah 0,ah 0] 27)).alloc (.cells #[ah 0,dG,aX 0,aW,ak,ak,ak,ah 0,ah 0] 56)).alloc (.cells #[ah 0,dG,aX 0,aW,ak,ak,ak,ah 0,ah 0] 56));have dH:Hid (jg w w1):=by rw[hw1];exact(((((bg.alloc _).alloc _).alloc _).alloc _).alloc _)
 have hpos:0<w.heap.size:=by
  rcases Nat.eq_zero_or_pos w.heap.size with h|h
  ·exact absurd hm (by simp[World.cell?,Array.getElem?_eq_none (show w.heap.size≤0 by omega)])
  ·exact h
 have HA0:Hid (w1.heap[w.heap.size]?=some (.cells #[.func (.func 40) #[] #[]] 101 (0,0))):=by rw[hw1];exact aT (aT (aT (aT ((show(w.alloc (.cells #[.func (.func 40) #[] #[]] 101)).heap[w.heap.size]?=some (.cells #[.func (.func 40) #[] #[]] 101 (0,0)) by have h:=aC w (.cells #[.func (.func 40) #[] #[]] 101);simpa using h)))))
 have HA1:Hid (w1.heap[w.heap.size+1]?=some (.cells #[ah 0,dG,aX 0,aW,ak,ak,ak,ah 0,ah 0] 56 (0,0))):=by rw[hw1];exact aT (aT (aT ((show((w.alloc (.cells #[.func (.func 40) #[] #[]] 101)).alloc (.cells #[ah 0,dG,aX 0,aW,ak,ak,ak,ah 0,ah 0] 56)).heap[w.heap.size+1]?=some (.cells #[ah 0,dG,aX 0,aW,ak,ak,ak,ah 0,ah 0] 56 (0,0)) by have h:=aC (w.alloc (.cells #[.func (.func 40) #[] #[]] 101)) (.cells #[ah 0,dG,aX 0,aW,ak,ak,ak,ah 0,ah 0] 56);simpa using h))))
 have HA2:Hid (w1.heap[w.heap.size+1+1]?=some (.cells #[ah 0,ah 0,ah 0] 27 (0,0))):=by rw[hw1];exact aT (aT ((show(((w.alloc (.cells #[.func (.func 40) #[] #[]] 101)).alloc (.cells #[ah 0,dG,aX 0,aW,ak,ak,ak,ah 0,ah 0] 56)).alloc (.cells #[ah 0,ah 0,ah 0] 27)).heap[w.heap.size+1+1]?=some (.cells #[ah 0,ah 0,ah 0] 27 (0,0)) by have h:=aC ((w.alloc (.cells #[.func (.func 40) #[] #[]] 101)).alloc (.cells #[ah 0,dG,aX 0,aW,ak,ak,ak,ah 0,ah 0] 56)) (.cells #[ah 0,ah 0,ah 0] 27);simpa using h)))
 have HA3:Hid (w1.heap[w.heap.size+1+1+1]?=some (.cells #[ah 0,dG,aX 0,aW,ak,ak,ak,ah 0,ah 0] 56 (0,0))):=by rw[hw1];exact aT ((show((((w.alloc (.cells #[.func (.func 40) #[] #[]] 101)).alloc (.cells #[ah 0,dG,aX 0,aW,ak,ak,ak,ah 0,ah 0] 56)).alloc (.cells #[ah 0,ah 0,ah 0] 27)).alloc (.cells #[ah 0,dG,aX 0,aW,ak,ak,ak,ah 0,ah 0] 56)).heap[w.heap.size+1+1+1]?=some (.cells #[ah 0,dG,aX 0,aW,ak,ak,ak,ah 0,ah 0] 56 (0,0)) by have h:=aC (((w.alloc (.cells #[.func (.func 40) #[] #[]] 101)).alloc (.cells #[ah 0,dG,aX 0,aW,ak,ak,ak,ah 0,ah 0] 56)).alloc (.cells #[ah 0,ah 0,ah 0] 27)) (.cells #[ah 0,dG,aX 0,aW,ak,ak,ak,ah 0,ah 0] 56);simpa using h))
 have HA4:Hid (w1.heap[w.heap.size+1+1+1+1]?=some (.cells #[ah 0,dG,aX 0,aW,ak,ak,ak,ah 0,ah 0] 56 (0,0))):=by rw[hw1];exact(show(((((w.alloc (.cells #[.func (.func 40) #[] #[]] 101)).alloc (.cells #[ah 0,dG,aX 0,aW,ak,ak,ak,ah 0,ah 0] 56)).alloc (.cells #[ah 0,ah 0,ah 0] 27)).alloc (.cells #[ah 0,dG,aX 0,aW,ak,ak,ak,ah 0,ah 0] 56)).alloc (.cells #[ah 0,dG,aX 0,aW,ak,ak,ak,ah 0,ah 0] 56)).heap[w.heap.size+1+1+1+1]?=some (.cells #[ah 0,dG,aX 0,aW,ak,ak,ak,ah 0,ah 0] 56 (0,0)) by have h:=aC ((((w.alloc (.cells #[.func (.func 40) #[] #[]] 101)).alloc (.cells #[ah 0,dG,aX 0,aW,ak,ak,ak,ah 0,ah 0] 56)).alloc (.cells #[ah 0,ah 0,ah 0] 27)).alloc (.cells #[ah 0,dG,aX 0,aW,ak,ak,ak,ah 0,ah 0] 56)) (.cells #[ah 0,dG,aX 0,aW,ak,ak,ak,ah 0,ah 0] 56);simpa using h)
 have HW1:=ai hw1;have HM1:=ai (dH.o.cell hm (fun h=>h));have hn1:=aP HA4.o;have hsz:=dH.o.size
 have H7:=ai (E8 s 67 [.pointer (some ⟨w.heap.size,0,none⟩),.pointer (some ⟨w.heap.size+1+1+1,0,none⟩)] (w.heap.size+1+1+1) (fun l=>a_ qX l 0 0 0) (GL (w.heap.size+1+1+1)) w1 m HM1.o (aP HA3.o) zy (fun l hl=>(BA hl).ne)
  (fun X Y Z a h1 h2 h3=>by
   obtain⟨cs,c1,c2⟩:=h3
   exact⟨cs,h2.keep c1 (fun e=>by have:=aP HA3.o;omega),AQ h2 oi c2⟩)
  (fun R X hlx hl h hrb hra hs=>Jk R _ _ _ X h (aj (hs.keep HA0.o (fun h=>h)) 0 _ rfl) (hs.keep HA3.o (fun h=>h)) om (by have:=aP HA3.o;omega) (fun g o p e e2=>by have:=hra g o p e;have:=aP HA3.o;omega) ((BA hlx).ne) (fun X hX=>lQ qX (I8 qX dc).level R X 0 0 hl hX dc ((BA hlx).ne))))
 obtain⟨r,hr⟩:=bF (MK s.data.toList);have hrd:r=Dw s.data.toList (fun l=>a_ qX l 0 0 0):=hr;have SL:Hid (∀c ln col,r=.error (c,ln,col)→c≠0):=by intro c ln col e;rw[hr]at e;exact Dx (fun l c ln col hl he=>(BA hl).code he) e
 rw[←hrd]at H7;rw[←hr];clear hm hw1 hr hrd;go_enter Tryz.func39,Tryz.ntmps39;go_upto_region 2 with fail
 rw[←HW1.o];go_wp2_with fail;refine H7.o.mono ?_;rintro e w2 hp;cases r with
 |error q=>
  obtain⟨c,ln,col⟩:=q;obtain⟨rfl,h2⟩:e=.returned (.agg #[ah c,ah ln,ah col])∧Step (·=w.heap.size+1+1+1) w1 w2:=hp;have hc0:=SL.o c ln col rfl;have bc:((c:Int)==0)=false:=by rw[beq_eq_false_iff_ne];omega
  obtain⟨w3,hw3⟩:=bF (w2.alloc (.cells #[ah c,ah ln,ah col] 27));have jX:Hid (Step (·=w.heap.size+1+1+1) w1 w3):=by rw[hw3];exact h2.alloc _
  have qf:=nB hw3
  have HW3:=ai hw3;have SN:=ai (jX.o.keep HA2.o om);obtain⟨be,hbe⟩:=bF w2.heap.size;have hbe1:w1.heap.size≤be:=by rw[hbe];exact h2.size
  rw[←hbe]at qf;obtain⟨⟨g0,g1,g2⟩,-⟩:=qG qf.o;have zV:Hid (jg w w3):=dH.o.then jX.o oi;clear hc0 h2 hw3;have HRS:=ai (jX.o.keep HA1.o om);have MI:=ai (jX.o.keep HA4.o om);go_upto_region 3 with fail
  rw[←HW3.o,←hbe];clear hbe;go_upto_region 4 with fail
  clear g0 g1 g2;obtain⟨Jx,hJx⟩:∃Jx:(Nat→Bool)→(Nat→Value)→World→Prop,Jx=fun L V X=>(L 0=true→V 0=.agg #[ah 0,dG,aX 0,aW,ak,ak,ak,ah 0,ah 0])∧(L 1=true→V 1=.agg #[ah c,ah ln,ah col])∧X.heap[w.heap.size+1]?=some (.cells #[ah 0,dG,aX 0,aW,ak,ak,ak,ah 0,ah 0] 56 (0,0))∧X.heap[w.heap.size+1+1+1+1]?=some (.cells #[ah 0,dG,aX 0,aW,ak,ak,ak,ah 0,ah 0] 56 (0,0))∧X.heap[be]?=some (.cells #[ah c,ah ln,ah col] 27 (0,0))∧X.heap[w.heap.size+1+1]?=some (.cells (cond (L 3) #[.int .i64 c,.int .i64 ln,.int .i64 col] #[.int .i64 0,.int .i64 0,.int .i64 0]) 27 (0,0))∧jg w X:=⟨_,rfl⟩;have fQ:=ai hJx;clear hJx;refine bD kr Jx 4 rfl kr kr kr kr ?h0 ?hs ?hdone;case h0=>rw[fQ.o];exact⟨lg,lg,qE HRS.o,qE MI.o,qE qf.o,qE SN.o,zV.o.drew⟩
  case hs=>
   refine⟨?_,?_,?_,?_,trivial⟩
   all_goals (intro L V X a ev ig hdf hL ay hJ;rw[fQ.o]at hJ)
   ·obtain⟨j0,j1,j2,j3,j4,j5,j6⟩:=hJ;have o7:=ig 7 rfl;change a.tmps[7]?.getD undef=.pointer (some ⟨w.heap.size+1+1+1+1,0,none⟩)at o7;refine wp_load_mid 56 (.tmp 7) rfl (w.heap.size+1+1+1+1) 0 (by rw[bW];exact o7) [Value.int .i64 0,dG,aX 0,aW,ak,ak,ak,ah 0,ah 0] _ (fun jj v hv=>by rw[Nat.zero_add];exact aj j3 jj v pO) Tryz.underlying56 rfl Tryz.aO ?_;exact⟨_,rfl,by rw[fQ.o];exact⟨fun _=>rfl,j1,j2,j3,j4,j5,j6⟩⟩
   ·obtain⟨j0,j1,j2,j3,j4,j5,j6⟩:=hJ;have o8:=ig 8 rfl;change a.tmps[8]?.getD undef=.pointer (some ⟨be,0,none⟩)at o8;refine wp_load_mid 27 (.tmp 8) rfl be 0 (by rw[bW];exact o8) [Value.int .i64 c,ah ln,ah col] _ (fun jj v hv=>by rw[Nat.zero_add];exact aj j4 jj v pO) Tryz.underlying27 rfl Tryz.jL ?_;exact⟨_,rfl,by rw[fQ.o];exact⟨j0,fun _=>rfl,j2,j3,j4,j5,j6⟩⟩
   ·obtain⟨j0,j1,j2,j3,j4,j5,j6⟩:=hJ;have o4:=ig 4 rfl;change a.tmps[4]?.getD undef=.pointer (some ⟨w.heap.size+1,0,none⟩)at o4;have e15:=(ev 0 15 rfl (ay 0 rfl)).trans (j0 (ay 0 rfl));refine fC 56 (.tmp 4) (.tmp 15) rfl (w.heap.size+1) 0 56 _ [.int .i64 0,.string ⟨#[]⟩,.int .u64 0,.bool false,.slice none 0 0,.slice none 0 0,.slice none 0 0,.int .i64 0,.int .i64 0] (by rw[bW];exact o4) (by rw[bW];exact e15) j2 Tryz.aO (Nat.le_of_eq rfl) (bn rfl) ?_;intro w9 iW hs9;exact⟨undef,rfl,by rw[fQ.o];exact⟨j0,j1,iW,hs9.keep j3 om,hs9.keep j4 om,hs9.keep j5 om,j6.then hs9 oi⟩⟩
   ·obtain⟨j0,j1,j2,j3,j4,j5,j6⟩:=hJ;rw[hL]at j5;have o5:=ig 5 rfl;change a.tmps[5]?.getD undef=.pointer (some ⟨w.heap.size+1+1,0,none⟩)at o5;have e16:=(ev 1 16 rfl (ay 1 rfl)).trans (j1 (ay 1 rfl));refine fC 27 (.tmp 5) (.tmp 16) rfl (w.heap.size+1+1) 0 27 _ [.int .i64 c,.int .i64 ln,.int .i64 col] (by rw[bW];exact o5) (by rw[bW];exact e16) j5 Tryz.jL (Nat.le_of_eq rfl) (bn rfl) ?_;intro w9 iW hs9;exact⟨undef,rfl,by rw[fQ.o];exact⟨j0,j1,hs9.keep j2 om,hs9.keep j3 om,hs9.keep j4 om,iW,j6.then hs9 oi⟩⟩
  case hdone=>intro L V X hall hJ;rw[fQ.o]at hJ;obtain⟨j0,j1,j2,j3,j4,j5,j6⟩:=hJ;rw[hall 3 dc]at j5;have HD2:=ai j2;have HD5:Hid (X.heap[w.heap.size+1+1]?=some (.cells [Value.int .i64 c,ah ln,ah col].toArray 27 (0,0))):=j5;have HD6:=ai j6;clear hall j0 j1 j2 j3 j4 j5 j6;rw[show List.range 4=[0,1,2,3] from rfl];simp only[lW,dZ,FB,Bj];go_wp2_with fail;refine bodyPost_ret (AO rfl _ (w.heap.size+1) (w.heap.size+1+1) 56 27 [Value.int .i64 0,dG,aX 0,aW,ak,ak,ak,ah 0,ah 0] [Value.int .i64 c,ah ln,ah col] _ _ rfl rfl HD2.o Tryz.underlying56 rfl Tryz.aO HD5.o Tryz.underlying27 rfl Tryz.jL) rfl ?_;exact⟨rfl,HD6.o⟩
 |ok y=>
  obtain⟨rfl,⟨X0,hX0,hleft⟩,h2⟩:e=.returned (.agg #[ah 0,ah 0,ah 0])∧(∃X:World,w1.heap.size≤X.heap.size∧GL (w.heap.size+1+1+1) X w2 y)∧Step (·=w.heap.size+1+1+1) w1 w2:=hp;obtain⟨w3,hw3⟩:=bF (w2.alloc (.cells #[ah 0,ah 0,ah 0] 27));have lM:=nS hw3
  have jX:Hid (Step (·=w.heap.size+1+1+1) w1 w3):=by rw[hw3];exact h2.alloc _
  have qf:=nB hw3
  have HW3:=ai hw3;have SN:=ai (jX.o.keep HA2.o om);obtain⟨be,hbe⟩:=bF w2.heap.size;rw[←hbe]at qf;obtain⟨⟨g0,g1,g2⟩,-⟩:=qG qf.o;have zV:Hid (jg w w3):=dH.o.then jX.o oi;clear h2 hw3;obtain⟨cs,hcb,hat⟩:=hleft;obtain⟨k0,iK,v0,iL,a1,n1,c1,a2,n2,c2,a3,n3,c3,l0,c0,rfl⟩:=dA.parts hat;have HAT:=ai (AQ lM.o (fun _ _ h=>h) hat);have MB:=ai (lM.o.keep hcb (fun h=>h));have HRS:=ai (jX.o.keep HA1.o om);have bJ:Hid (∀(jj:Nat) v,[Value.int .i64 k0,aI iK,aX v0,bK iL,.slice a1 n1 c1,.slice a2 n2 c2,.slice a3 n3 c3,ah l0,ah c0][jj]?=some v→w3.cell? ⟨w.heap.size+1+1+1,0+jj,none⟩=some v):=by intro jj v hv;rw[Nat.zero_add];exact aj MB.o jj v pO
  have dQ:Hid (∀u∈[Value.int .i64 k0,aI iK,aX v0,bK iL,.slice a1 n1 c1,.slice a2 n2 c2,.slice a3 n3 c3,ah l0,ah c0],u.oneCell'=true):=bn rfl;clear hat hcb;go_upto_region 3 with fail
  rw[←HW3.o,←hbe];clear hbe;go_upto_region 5 with fail
  clear g0 g1 g2;have er0:=SN.o;go_wp2_with (first
   |(refine aN rfl 56 (.tmp 6) rfl (w.heap.size+1+1+1) 0 rfl [Value.int .i64 k0,aI iK,aX v0,bK iL,.slice a1 n1 c1,.slice a2 n2 c2,.slice a3 n3 c3,ah l0,ah c0] _ bJ.o Tryz.underlying56 rfl Tryz.aO ?_)
   |(refine aB (w:=w3) rfl 56 (.tmp 4) (.tmp 17) rfl (w.heap.size+1) 0 56 _ [Value.int .i64 k0,aI iK,aX v0,bK iL,.slice a1 n1 c1,.slice a2 n2 c2,.slice a3 n3 c3,ah l0,ah c0] rfl rfl HRS.o Tryz.aO (Nat.le_of_eq rfl) dQ.o ?_;intro w4 hb4 wS;have V9:=wS.keep SN.o om;clear er0)
   |(refine aB (w:=w4) rfl 27 (.tmp 5) (.tmp 18) rfl (w.heap.size+1+1) 0 27 _ [Value.int .i64 0,ah 0,ah 0] rfl rfl V9 Tryz.jL (Nat.le_of_eq rfl) (bn rfl) ?_;intro w5 hb5 hst5))
  have P_:w5.heap[w.heap.size+1]?=some (.cells [Value.int .i64 k0,aI iK,aX v0,bK iL,.slice a1 n1 c1,.slice a2 n2 c2,.slice a3 n3 c3,ah l0,ah c0].toArray 56 (0,0)):=hst5.keep hb4 om;have Cm:w5.heap[w.heap.size+1+1]?=some (.cells [Value.int .i64 0,ah 0,ah 0].toArray 27 (0,0)):=hb5;refine bodyPost_ret (AO rfl _ (w.heap.size+1) (w.heap.size+1+1) 56 27 [Value.int .i64 k0,aI iK,aX v0,bK iL,.slice a1 n1 c1,.slice a2 n2 c2,.slice a3 n3 c3,ah l0,ah c0] [Value.int .i64 0,ah 0,ah 0] _ _ rfl rfl P_ Tryz.underlying56 rfl Tryz.aO Cm Tryz.underlying27 rfl Tryz.jL) rfl ?_;exact⟨⟨_,rfl,_,rfl,dA.mono oi _ _ (dA.step hst5 oi _ _ (dA.step wS oi _ _ HAT.o))⟩,(zV.o.then wS oi).then hst5 oi⟩
theorem iE.code {α:Type} {N i:Nat} {r:dI α} (h:iE N i r) {c ln col:Nat} (e:r=.err c ln col):c≠0:=by subst e;exact h
section
variable {l : List Tok} (hl : oJ l)
include hl
theorem V_:∀(f i:Nat) (ls ts:List ByteArray),i<l.length→16*(l.length-i)+1≤f→Gd l.length i (mY f l i ls ts):=by
 intro f;induction f with
 |zero=>intro i ls ts hi hf;omega
 |succ f ih=>
  intro i ls ts hi hf;rw[mY];refine(mZ hi).xJ fun _ i2 h0 hi2=> ?_;refine Gd.bind ?_ fun p j h1 hj=> ?_
  ·split
   ·exact(zu hl hi2).bind fun x j _ hj=>iE.ok _ hj
   ·exact(iP hl hi2).bind fun x j _ hj=>iE.ok _ hj
  ·split
   ·rename_i h2;exact((ih (j+1) _ _ (dw hl hj h2) om).weak).from om
   ·exact((dX hl hj).bind fun _ k _ hk=>iE.ok _ hk).weak
theorem KX (f i:Nat) (hi:i<l.length) (hf:16*(l.length-i)+1≤f):iE l.length i (oU f l i):=by
 unfold oU;split
 ·rename_i h;exact((V_ hl f (i+1) _ _ (dw hl hi h) om).weak).from om
 ·exact iE.ok _ hi
theorem Wh:∀(f i d:Nat) (e:List UInt8) (m:Nat) (acc:List Pm),i<l.length→16*(l.length-i)+1≤f→Gd l.length i (qU f l i d e m acc):=by
 intro f;induction f with
 |zero=>intro i d e m acc hi hf;omega
 |succ f ih=>
  intro i d e m acc hi hf;rw[qU];refine(mZ hi).xJ fun _ i2 h0 hi2=> ?_;refine(iP hl hi2).bind fun n j h1 hj=> ?_;refine((dX hl hj).bind fun _ j2 h2 hj2=> ?_).weak;refine(((Dv hl f).typ j2 d hj2 om).bind fun ty k h3 hk=> ?_).weak;split
  ·rename_i h4;exact((ih (k+1) d e m _ (dw hl hk h4) om).weak).from om
  ·exact((dX hl hk).bind fun _ q _ hq=>iE.ok _ hq).weak
theorem Ac (f i d:Nat) (e:List UInt8) (m:Nat) (hi:i<l.length) (hf:16*(l.length-i)+1≤f):Gd l.length i (fZ f l i d e m):=by
 unfold fZ;split
 ·rename_i h;exact⟨Nat.lt_succ_self i,dw hl hi h⟩
 ·exact Wh hl f i d e m [] hi hf
theorem SQ (f i d:Nat) (hi:i<l.length) (hf:16*(l.length-i)+1≤f):iE l.length i (lm f l i d):=by
 unfold lm;split
 ·rename_i h;exact(((Dv hl f).typ (i+1) d (dw hl hi h) om).weak).from om
 ·exact iE.ok _ hi
theorem OM:∀(f i:Nat) (p:Bool) (ts ls:List ByteArray),i<l.length→16*(l.length-i)+1≤f→Gd l.length i (gQ f l i p ts ls):=by
 intro f;induction f with
 |zero=>intro i p ts ls hi hf;omega
 |succ f ih=>
  intro i p ts ls hi hf;rw[gQ];refine(mZ hi).xJ fun _ i2 h0 hi2=> ?_;refine Gd.bind ?_ fun q j h1 hj=> ?_
  ·split
   ·exact(iP hl hi2).bind fun x j _ hj=>iE.ok _ hj
   ·exact(zu hl hi2).bind fun x j _ hj=>iE.ok _ hj
  ·split
   ·rename_i h2;exact((ih (j+1) p _ _ (dw hl hj h2) om).weak).from om
   ·exact iE.ok _ hj
theorem SS (f i:Nat) (hi:i<l.length) (hf:16*(l.length-i)+1≤f):Gd l.length i (pX f l i):=by
 unfold pX;have ho:=GI hl hi;refine iE.xJ ?_ fun p j h1 hj=>(dX hl hj).bind fun _ k h2 hk=>((OM hl f k p.2 [] [] hk om).bind fun q m _ hm=>iE.ok _ hm).weak;split
 ·exact(((iP hl ho.2).bind fun n j _ hj=>iE.ok _ hj).weak).from ho.1
 ·exact⟨ho.1,ho.2⟩
theorem OO:∀(f i:Nat) (acc:List Bd),i<l.length→16*(l.length-i)+2≤f→Gd l.length i (lV f l i acc):=by
 intro f;induction f with
 |zero=>intro i acc hi hf;omega
 |succ f ih=>
  intro i acc hi hf;rw[lV];refine(mZ hi).xJ fun _ i2 h0 hi2=> ?_;refine(SS hl f i2 hi2 om).bind fun b j h1 hj=> ?_;split
  ·rename_i h2;exact((ih (j+1) _ (dw hl hj h2) om).weak).from om
  ·exact iE.ok _ hj
theorem Dy (f i:Nat) (hi:i<l.length) (hf:16*(l.length-i)+1≤f):iE l.length i (fG f l i):=by
 unfold fG;split
 ·rename_i h;exact((OO hl f (i+1) [] (dw hl hi h) om).weak).from om
 ·exact iE.ok _ hi
theorem Wi (i:Nat) (hi:i<l.length):i≤(kW l i).2∧(kW l i).2<l.length:=by
 unfold kW;split
 ·rename_i h;have h1:=dw hl hi h;have h2:=GI hl h1;have h3:=Du hl (s:=[109,117,116]) h2.2;exact⟨by show i≤iH l _ _;omega,h3.2⟩
 ·exact⟨Nat.le_refl _,hi⟩
theorem OQ (f i d:Nat) (body:Bool) (hi:i<l.length) (hf:16*(l.length-i)+1≤f):Gd l.length i (ny f l i d body):=by
 unfold ny;refine(dX hl hi).bind fun _ j h1 hj=> ?_;refine((iP hl hj).bind fun n j2 h2 hj2=> ?_).weak;refine(KX hl f j2 hj2 om).bind fun g j3 h3 hj3=> ?_;refine iE.bind ?_ fun _ j4 h4 hj4=> ?_
 ·split
  ·exact Nat.succ_ne_zero _
  ·exact iE.ok _ hj3
 refine((dX hl hj4).bind fun _ j5 h5 YW=> ?_).weak;have hr:=Wi hl j5 YW;refine(((dX hl hr.2).bind fun _ k h6 hk=> ?_).weak).from hr.1;refine iE.bind ?_ fun ps k2 h7 hk2=> ?_
 ·split
  ·rename_i h8;have h9:=dw hl hk h8;split
   ·exact Nat.succ_ne_zero _
   ·exact((Ac hl f (k+1) d [41] 8 h9 om).weak).from om
  ·exact((dX hl hk).bind fun _ q _ hq=>iE.ok _ hq).weak
 refine(SQ hl f k2 d hk2 om).bind fun t k3 h8 hk3=> ?_;refine(Dy hl f k3 hk3 om).bind fun wh k4 h9 hk4=> ?_;refine iE.bind ?_ fun b k5 _ hk5=>iE.ok _ hk5;split
 ·exact((Dv hl f).block k4 d hk4 om).weak
 ·exact((dX hl hk4).bind fun _ q _ hq=>iE.ok _ hq).weak
theorem SV:∀(f i d:Nat) (body:Bool) (acc:List Mt),i<l.length→16*(l.length-i)+2≤f→Gd l.length i (oV f l i d body acc):=by
 intro f;induction f with
 |zero=>intro i d body acc hi hf;omega
 |succ f ih=>
  intro i d body acc hi hf;rw[oV];split
  ·rename_i h;exact⟨Nat.lt_succ_self i,dw hl hi h⟩
  ·refine(mZ hi).xJ fun _ i2 h0 hi2=> ?_;exact(OQ hl f i2 d body hi2 om).bind fun m j h1 hj=>(ih j d body _ hj om).weak
theorem Dz (f i d:Nat) (body:Bool) (hi:i<l.length) (hf:16*(l.length-i)+1≤f):Gd l.length i (iO f l i d body):=by unfold iO;exact(dX hl hi).bind fun _ j h1 hj=>(SV hl f j d body [] hj om).weak
theorem Wj (i:Nat) (hi:i<l.length):Gd l.length i (pK l i):=by
 unfold pK;split
 ·rename_i h;exact⟨Nat.lt_succ_self i,dw hl hi h⟩
 ·split
  ·rename_i h;exact⟨Nat.lt_succ_self i,dw hl hi h⟩
  ·split
   ·rename_i h;exact⟨Nat.lt_succ_self i,dw hl hi h⟩
   ·exact iP hl hi
theorem Wl (f i d:Nat) (hi:i<l.length) (hf:16*(l.length-i)+1≤f):Gd l.length i (tu f l i d):=by
 unfold tu;by_cases h1:bG l i [115,116,114,117,99,116]=true
 ·rw[if_pos h1];have h2:=dw hl hi h1;refine iE.strict ((iP hl h2).bind fun n j h3 hj=> ?_).weak (Nat.lt_succ_self i);refine(KX hl f j hj om).bind fun g j2 h4 hj2=> ?_;refine((dX hl hj2).bind fun _ j3 h5 hj3=> ?_).weak;exact((Ac hl f j3 d [125] 12 hj3 om).bind fun fs j _ hj=>iE.ok _ hj).weak
 rw[if_neg h1];by_cases h1:bG l i [116,114,97,105,116]=true
 ·rw[if_pos h1];have h2:=dw hl hi h1;refine iE.strict ((iP hl h2).bind fun n j h3 hj=> ?_).weak (Nat.lt_succ_self i);exact((Dz hl f j d false hj om).bind fun fs j _ hj=>iE.ok _ hj).weak
 rw[if_neg h1];by_cases h1:bG l i [105,109,112,108]=true
 ·rw[if_pos h1];have h2:=dw hl hi h1;refine iE.strict ((iP hl h2).bind fun n j h3 hj=> ?_).weak (Nat.lt_succ_self i);refine((dX hl hj).bind fun _ j2 h4 hj2=> ?_).weak;refine((Wj hl j2 hj2).bind fun hd j3 h5 hj3=> ?_).weak;refine(Dy hl f j3 hj3 om).bind fun wh j4 h6 hj4=> ?_;exact((Dz hl f j4 d true hj4 om).bind fun fs j _ hj=>iE.ok _ hj).weak
 rw[if_neg h1];by_cases h1:bG l i [102,110]=true
 ·rw[if_pos h1];have h2:=dw hl hi h1;refine iE.strict ((iP hl h2).bind fun n j h3 hj=> ?_).weak (Nat.lt_succ_self i);refine(KX hl f j hj om).bind fun g j2 h4 hj2=> ?_;refine((dX hl hj2).bind fun _ j3 h5 hj3=> ?_).weak;refine((Ac hl f j3 d [41] 8 hj3 om).bind fun fs j4 h6 hj4=> ?_).weak;refine(SQ hl f j4 d hj4 om).bind fun t j5 h7 YW=> ?_;refine(Dy hl f j5 YW om).bind fun wh j6 h8 hj6=> ?_;exact(((Dv hl f).block j6 d hj6 om).bind fun b j _ hj=>iE.ok _ hj).weak
 rw[if_neg h1];exact Nat.succ_ne_zero _
theorem SX:∀(f i d:Nat) (acc:List It),i<l.length→16*(l.length-i)+2≤f→iE l.length i (lq f l i d acc):=by
 intro f;induction f with
 |zero=>intro i d acc hi hf;omega
 |succ f ih=>
  intro i d acc hi hf;rw[lq];split
  ·exact iE.ok _ hi
  ·refine(mZ hi).bind fun _ i2 h0 hi2=> ?_;exact((Wl hl f i2 d hi2 om).bind fun x j h1 hj=>ih j d _ hj om).weak
end
def wC (s:List UInt8):Except (Nat×Nat×Nat) (List It):=Dw s fun l=>lq qX l 0 0 []
theorem zA {s:List UInt8} {l:List Tok} (h:nP s=.ok l):iE l.length 0 (lq qX l 0 0 []):=by obtain⟨hl,h0⟩:=zo h;exact SX hl qX 0 0 [] h0 (by have:=hl.len;unfold qX;omega)
def KY (X w':World) (a:List It) (cs:List Value):Prop:=∃v,cs=[v]∧lT Hy w' (fun q=>X.heap.size≤q) a v
theorem Jl {X Y Z:World} {a:List It} {cs:List Value} {S:Nat→Prop} (hs:Step S Y Z) (hS:∀q,X.heap.size≤q→¬S q) (h:KY X Y a cs):KY X Z a cs:=by obtain⟨v,h1,h2⟩:=h;exact⟨v,h1,(eu gV).step _ _ hs hS h2⟩
theorem zB:Enters 47:=fun xs w=>by go_simp
theorem Jm:Enters 21:=fun xs w=>by go_simp
def GN (bo:Nat) (X w':World) (a:List It):Prop:=∃cs:List Value,w'.heap[bo]?=some (.cells cs.toArray 22 (0,0))∧KY X w' a cs
theorem Jo (R:gI) (bb bo:Nat) (r:dI (List It)) (w:World) (h:bC R w 0 0) (hbb:w.cell? ⟨bb,0,none⟩=some (.func (.func 21) #[] #[])) (JJ:w.heap[bo]?=some (.cells #[ak] 22 (0,0))) (h0:0<bo) (hne:bo≠R.rb) (hra:∀g o p,R.a=some ⟨g,o,p⟩→g≠bo) (hno:r≠.out) (hc:∀X:World,bC R X 0 0→Calls Tryz.prog 21 #[.agg #[gW R.rb 0]] X (aK R 0 (ItsV X.heap.size) r X)):Calls Tryz.prog 47 #[.agg #[gW R.rb 0],.pointer (some ⟨bb,0,none⟩),.pointer (some ⟨bo,0,none⟩)] w (aY R 0 bo (GN bo w) r w):=by
 have hen:=Jm;unfold Enters at hen;obtain⟨w1,hw1⟩:=bF (w.alloc (.cells #[gW R.rb 0] 75));have dH:=nS hw1
 have kK:=nB hw1
 have HW1:=ai hw1;have H1:=ai (h.quiet dH.o);have p0:=aj kK.o 0 _ rfl;have b0:=dH.o.cell hbb (fun h=>h);have HBO:=ai (dH.o.keep JJ (fun h=>h));have hbl:=aP JJ;have HC:=ai (hc w1 H1.o);have fH:=ai hno;clear h hno hw1 hbb JJ hc;go_enter Tryz.func47,Tryz.ntmps47;go_upto_region 1 with fail
 rw[←HW1.o];go_wp2_with fail;refine HC.o.mono ?_;rintro e wx hp;cases r with
 |out=>exact absurd rfl fH.o
 |err c ln col=>obtain⟨rfl,sq⟩:=hp;exact⟨rfl,rfl,((dH.o.mono fe).trans sq).mono il⟩
 |ok y jx=>obtain⟨⟨v,rfl,hy⟩,hrx,hsx⟩:=hp;obtain⟨va,vc,rfl⟩:=lT.parts hy;have HY:=ai hy;have vO:=ai hrx;have qm:=ai hsx;have Ua:=ai (hsx.keep HBO.o hne);clear hy hrx hsx p0 b0;have m_:=aj Ua.o 0 _ rfl;have ng:=aG Ua.o 0;have fA:Hid (Step (·=bo) wx (wx.setCell ⟨bo,0,none⟩ (.slice va y.length vc))):=(Step.refl (·=bo) _).setCell _ _ iV;have EK:Hid ((wx.setCell ⟨bo,0,none⟩ (.slice va y.length vc)).heap[bo]?=some (.cells #[.slice va y.length vc] 22 (0,0))):=aQ Ua.o 0 _;go_wp2_with fail;refine bodyPost_end (results_none rfl _ _ _) rfl ?_;have hz1:=dH.o.size;refine aY.dN rfl rfl ⟨[_],EK.o,_,rfl,(eu gV).mono _ _ oi ((eu gV).step _ _ fA.o oi HY.o)⟩ (vO.o.apart fA.o h0 hne hra) ?_;exact(((dH.o.mono fe).trans qm.o).mono il).trans (fA.o.mono ir)
def GR (r:Except (Nat×Nat×Nat) (List It)) (w:World) (e:Ending) (w':World):Prop:=
 (match r with
  | .ok a=>∃v,e=.returned (.tuple #[v,.agg #[ah 0,ah 0,ah 0]])∧lT Hy w' (fun q=>w.heap.size≤q) a v
  | .error (c,ln,col)=>e=.returned (.tuple #[ak,.agg #[ah c,ah ln,ah col]]))∧jg w w'
theorem KZ (s:ByteArray) (w:World) (m:Int) (hm:w.cell? ⟨0,0,none⟩=some (.int .i64 m)):Calls Tryz.prog 20 #[.string s,.func (.func 21) #[] #[]] w (GR (wC s.data.toList) w):=by
 have hmf:∀(fn:Fn) (first cap:Array Value) (w:World),(Instr.makeFunc fn first cap).run Tryz.prog w=.ok (.func fn first cap) w:=fun _ _ _ _=>rfl;obtain⟨w1,hw1⟩:=bF (((w.alloc (.cells #[.func (.func 21) #[] #[]] 71)).alloc (.cells #[ah 0,ah 0,ah 0] 27)).alloc (.cells #[ak] 22));have dH:Hid (jg w w1):=by rw[hw1];exact(((bg.alloc _).alloc _).alloc _)
 have hpos:0<w.heap.size:=by
  rcases Nat.eq_zero_or_pos w.heap.size with h|h
  ·exact absurd hm (by simp[World.cell?,Array.getElem?_eq_none (show w.heap.size≤0 by omega)])
  ·exact h
 have HA0:Hid (w1.heap[w.heap.size]?=some (.cells #[.func (.func 21) #[] #[]] 71 (0,0))):=by rw[hw1];exact aT (aT ((show(w.alloc (.cells #[.func (.func 21) #[] #[]] 71)).heap[w.heap.size]?=some (.cells #[.func (.func 21) #[] #[]] 71 (0,0)) by have h:=aC w (.cells #[.func (.func 21) #[] #[]] 71);simpa using h)))
 have HA1:Hid (w1.heap[w.heap.size+1]?=some (.cells #[ah 0,ah 0,ah 0] 27 (0,0))):=by rw[hw1];exact aT ((show((w.alloc (.cells #[.func (.func 21) #[] #[]] 71)).alloc (.cells #[ah 0,ah 0,ah 0] 27)).heap[w.heap.size+1]?=some (.cells #[ah 0,ah 0,ah 0] 27 (0,0)) by have h:=aC (w.alloc (.cells #[.func (.func 21) #[] #[]] 71)) (.cells #[ah 0,ah 0,ah 0] 27);simpa using h))
 have HA2:Hid (w1.heap[w.heap.size+1+1]?=some (.cells #[ak] 22 (0,0))):=by rw[hw1];exact(show(((w.alloc (.cells #[.func (.func 21) #[] #[]] 71)).alloc (.cells #[ah 0,ah 0,ah 0] 27)).alloc (.cells #[ak] 22)).heap[w.heap.size+1+1]?=some (.cells #[ak] 22 (0,0)) by have h:=aC ((w.alloc (.cells #[.func (.func 21) #[] #[]] 71)).alloc (.cells #[ah 0,ah 0,ah 0] 27)) (.cells #[ak] 22);simpa using h)
 have HW1:=ai hw1;have HM1:=ai (dH.o.cell hm (fun h=>h));have hn1:=aP HA2.o;have hsz:=dH.o.size
 have H7:=ai (E8 s 47 [.pointer (some ⟨w.heap.size,0,none⟩),.pointer (some ⟨w.heap.size+1+1,0,none⟩)] (w.heap.size+1+1) (fun l=>lq qX l 0 0 []) (GN (w.heap.size+1+1)) w1 m HM1.o (aP HA2.o) zB (fun l hl=>(zA hl).ne)
  (fun X Y Z a h1 h2 h3=>by
   obtain⟨cs,c1,c2⟩:=h3
   exact⟨cs,h2.keep c1 (fun e=>by have:=aP HA2.o;omega),Jl h2 oi c2⟩)
  (fun R X hlx hl h hrb hra hs=>Jo R _ _ _ X h (aj (hs.keep HA0.o (fun h=>h)) 0 _ rfl) (hs.keep HA2.o (fun h=>h)) om (by have:=aP HA2.o;omega) (fun g o p e e2=>by have:=hra g o p e;have:=aP HA2.o;omega) ((zA hlx).ne) (fun X hX=>OG qX (fun f' hf=>(I8 f' (Nat.le_trans hf dc)).block) (fun f' _=>(FX f').1) R X 0 0 hl hX dc ((zA hlx).ne))))
 obtain⟨r,hr⟩:=bF (wC s.data.toList);have hrd:r=Dw s.data.toList (fun l=>lq qX l 0 0 []):=hr;have SL:Hid (∀c ln col,r=.error (c,ln,col)→c≠0):=by intro c ln col e;rw[hr]at e;exact Dx (fun l c ln col hl he=>(zA hl).code he) e
 rw[←hrd]at H7;rw[←hr];clear hm hw1 hr hrd;go_enter Tryz.func20,Tryz.ntmps20;go_upto_region 2 with fail
 rw[←HW1.o];go_wp2_with fail;refine H7.o.mono ?_;rintro e w2 hp;cases r with
 |error q=>
  obtain⟨c,ln,col⟩:=q;obtain⟨rfl,h2⟩:e=.returned (.agg #[ah c,ah ln,ah col])∧Step (·=w.heap.size+1+1) w1 w2:=hp;have hc0:=SL.o c ln col rfl;have bc:((c:Int)==0)=false:=by rw[beq_eq_false_iff_ne];omega
  obtain⟨w3,hw3⟩:=bF (w2.alloc (.cells #[ah c,ah ln,ah col] 27));have jX:Hid (Step (·=w.heap.size+1+1) w1 w3):=by rw[hw3];exact h2.alloc _
  have qf:=nB hw3
  have HW3:=ai hw3;have SN:=ai (jX.o.keep HA1.o om);obtain⟨be,hbe⟩:=bF w2.heap.size;have hbe1:w1.heap.size≤be:=by rw[hbe];exact h2.size
  rw[←hbe]at qf;obtain⟨⟨g0,g1,g2⟩,-⟩:=qG qf.o;have zV:Hid (jg w w3):=dH.o.then jX.o oi;clear hc0 h2 hw3;go_upto_region 3 with fail
  rw[←HW3.o,←hbe];clear hbe;go_upto_region 4 with fail
  clear g0 g1 g2;obtain⟨Jx,hJx⟩:∃Jx:(Nat→Bool)→(Nat→Value)→World→Prop,Jx=fun L V X=>(L 0=true→V 0=.slice none 0 0)∧(L 1=true→V 1=.agg #[ah c,ah ln,ah col])∧(L 2=true→V 2=.slice none 0 0)∧X.heap[be]?=some (.cells #[ah c,ah ln,ah col] 27 (0,0))∧X.heap[w.heap.size+1]?=some (.cells (cond (L 3) #[.int .i64 c,.int .i64 ln,.int .i64 col] #[.int .i64 0,.int .i64 0,.int .i64 0]) 27 (0,0))∧jg w X:=⟨_,rfl⟩;have fQ:=ai hJx;clear hJx;refine bD kr Jx 4 rfl kr kr kr kr ?h0 ?hs ?hdone;case h0=>rw[fQ.o];exact⟨lg,lg,lg,qE qf.o,qE SN.o,zV.o.drew⟩
  case hs=>
   refine⟨?_,?_,?_,?_,trivial⟩
   all_goals (intro L V X a ev ig hdf hL ay hJ;rw[fQ.o]at hJ)
   ·obtain⟨j0,j1,j2,j4,j5,j6⟩:=hJ;have o7:=ig 7 rfl;change a.tmps[7]?.getD undef=.slice none 0 0 at o7;go_simp;exact⟨_,rfl,by rw[fQ.o];exact⟨fun _=>rfl,j1,j2,j4,j5,j6⟩⟩
   ·obtain⟨j0,j1,j2,j4,j5,j6⟩:=hJ;have o8:=ig 8 rfl;change a.tmps[8]?.getD undef=.pointer (some ⟨be,0,none⟩)at o8;refine wp_load_mid 27 (.tmp 8) rfl be 0 (by rw[bW];exact o8) [Value.int .i64 c,ah ln,ah col] _ (fun jj v hv=>by rw[Nat.zero_add];exact aj j4 jj v pO) Tryz.underlying27 rfl Tryz.jL ?_;exact⟨_,rfl,by rw[fQ.o];exact⟨j0,fun _=>rfl,j2,j4,j5,j6⟩⟩
   ·obtain⟨j0,j1,j2,j4,j5,j6⟩:=hJ;have e15:=(ev 0 15 rfl (ay 0 rfl)).trans (j0 (ay 0 rfl));go_simp;exact⟨_,rfl,by rw[fQ.o];exact⟨j0,j1,fun _=>rfl,j4,j5,j6⟩⟩
   ·obtain⟨j0,j1,j2,j4,j5,j6⟩:=hJ;rw[hL]at j5;have o5:=ig 5 rfl;change a.tmps[5]?.getD undef=.pointer (some ⟨w.heap.size+1,0,none⟩)at o5;have e16:=(ev 1 16 rfl (ay 1 rfl)).trans (j1 (ay 1 rfl));refine fC 27 (.tmp 5) (.tmp 16) rfl (w.heap.size+1) 0 27 _ [.int .i64 c,.int .i64 ln,.int .i64 col] (by rw[bW];exact o5) (by rw[bW];exact e16) j5 Tryz.jL (Nat.le_of_eq rfl) (bn rfl) ?_;intro w9 iW hs9;exact⟨undef,rfl,by rw[fQ.o];exact⟨j0,j1,j2,hs9.keep j4 om,iW,j6.then hs9 oi⟩⟩
  case hdone=>intro L V X hall hJ;rw[fQ.o]at hJ;obtain⟨j0,j1,j2,j4,j5,j6⟩:=hJ;rw[hall 3 dc]at j5;have h2v:=j2 (hall 2 dc);have HD5:Hid (X.heap[w.heap.size+1]?=some (.cells [Value.int .i64 c,ah ln,ah col].toArray 27 (0,0))):=j5;have HD6:=ai j6;rw[show List.range 4=[0,1,2,3] from rfl];simp only[lW,dZ,List.getElem?_toArray,List.getElem?_cons_zero,List.getElem?_cons_succ,Option.bind_some,Act.put,List.setIfInBounds_toArray,List.set_cons_zero,List.set_cons_succ,h2v];clear hall j0 j1 j2 j4 j5 j6 h2v;go_wp2_with fail;refine bodyPost_ret (qp rfl _ (w.heap.size+1) 27 (.slice none 0 0) [Value.int .i64 c,ah ln,ah col] _ rfl rfl HD5.o Tryz.underlying27 rfl Tryz.jL) rfl ?_;exact⟨rfl,HD6.o⟩
 |ok y=>
  obtain⟨rfl,⟨X0,hX0,hleft⟩,h2⟩:e=.returned (.agg #[ah 0,ah 0,ah 0])∧(∃X:World,w1.heap.size≤X.heap.size∧GN (w.heap.size+1+1) X w2 y)∧Step (·=w.heap.size+1+1) w1 w2:=hp;obtain⟨w3,hw3⟩:=bF (w2.alloc (.cells #[ah 0,ah 0,ah 0] 27));have lM:=nS hw3
  have jX:Hid (Step (·=w.heap.size+1+1) w1 w3):=by rw[hw3];exact h2.alloc _
  have qf:=nB hw3
  have HW3:=ai hw3;have SN:=ai (jX.o.keep HA1.o om);obtain⟨be,hbe⟩:=bF w2.heap.size;rw[←hbe]at qf;obtain⟨⟨g0,g1,g2⟩,-⟩:=qG qf.o;have zV:Hid (jg w w3):=dH.o.then jX.o oi;clear h2 hw3;obtain⟨cs,hcb,v,rfl,hat⟩:=hleft;obtain⟨va,vc,rfl⟩:=lT.parts hat;have HAT:=ai ((eu gV).step _ _ lM.o (fun _ _ h=>h) hat);have MB:=ai (lM.o.keep hcb (fun h=>h));clear hat hcb;go_upto_region 3 with fail
  rw[←HW3.o,←hbe];clear hbe;go_upto_region 5 with fail
  clear g0 g1 g2;have q0:=aj MB.o 0 _ rfl
  go_wp2_with (refine aB (w:=w3) rfl 27 (.tmp 5) (.tmp 18) rfl (w.heap.size+1) 0 27 _ [Value.int .i64 0,ah 0,ah 0] rfl rfl SN.o Tryz.jL (Nat.le_of_eq rfl) (bn rfl) ?_
               intro w5 hb5 hst5)
  have Cm:w5.heap[w.heap.size+1]?=some (.cells [Value.int .i64 0,ah 0,ah 0].toArray 27 (0,0)):=hb5;refine bodyPost_ret (qp rfl _ (w.heap.size+1) 27 (.slice va y.length vc) [Value.int .i64 0,ah 0,ah 0] _ rfl rfl Cm Tryz.underlying27 rfl Tryz.jL) rfl ?_;exact⟨⟨_,rfl,(eu gV).mono _ _ oi ((eu gV).step _ _ hst5 oi HAT.o)⟩,zV.o.then hst5 oi⟩
theorem E_ (s:ByteArray) (w:World) (m:Int) (hm:w.cell? ⟨0,0,none⟩=some (.int .i64 m)):Calls Tryz.prog 5 #[.string s] w (GR (wC s.data.toList) w):=by
 obtain⟨w1,hw1⟩:=bF (w.alloc (.cells #[ah 0,ah 0,ah 0] 27));have dH:=nS hw1
 have lS:=nB hw1
 have HW1:=ai hw1;have H7:=ai (KZ s w1 m (dH.o.cell hm (fun h=>h)));have hn1:=aP lS.o;have hsz:=dH.o.size;obtain⟨r,hr⟩:=bF (wC s.data.toList);rw[←hr]at H7⊢;clear hm hw1 hr;go_enter Tryz.func5,Tryz.ntmps5;go_upto_region 1 with fail
 rw[←HW1.o];go_wp2_with fail;refine H7.o.mono ?_;rintro e w2 ⟨hp,h2⟩;have HS2:=ai h2;have SN:=ai (h2.keep lS.o (fun h=>h));have hz2:=h2.size;cases r with
 |error q=>
  obtain⟨c,ln,col⟩:=q;have hp2:e=.returned (.tuple #[ak,.agg #[ah c,ah ln,ah col]]):=hp;subst hp2;clear hp h2
  go_wp2_with (refine aB (w:=w2) rfl 27 (.tmp 3) (.tmp 7) rfl (w.heap.size) 0 27 _ [.int .i64 c,.int .i64 ln,.int .i64 col] rfl rfl SN.o Tryz.jL (Nat.le_of_eq rfl) (bn rfl) ?_
               intro w5 hb5 hst5)
  have Cm:w5.heap[w.heap.size]?=some (.cells [Value.int .i64 c,ah ln,ah col].toArray 27 (0,0)):=hb5;refine bodyPost_ret (qp rfl _ (w.heap.size) 27 (.slice none 0 0) [Value.int .i64 c,ah ln,ah col] _ rfl rfl Cm Tryz.underlying27 rfl Tryz.jL) rfl ?_;exact⟨rfl,(dH.o.trans HS2.o).then hst5 oi⟩
 |ok x=>
  obtain⟨v,rfl,hy⟩:∃v,e=.returned (.tuple #[v,.agg #[ah 0,ah 0,ah 0]])∧lT Hy w2 (fun q=>w1.heap.size≤q) x v:=hp;obtain⟨va,vc,rfl⟩:=lT.parts hy;have HY:=ai hy;clear hy h2
  go_wp2_with (refine aB (w:=w2) rfl 27 (.tmp 3) (.tmp 7) rfl (w.heap.size) 0 27 _ [.int .i64 0,.int .i64 0,.int .i64 0] rfl rfl SN.o Tryz.jL (Nat.le_of_eq rfl) (bn rfl) ?_
               intro w5 hb5 hst5)
  have Cm:w5.heap[w.heap.size]?=some (.cells [Value.int .i64 0,ah 0,ah 0].toArray 27 (0,0)):=hb5;refine bodyPost_ret (qp rfl _ (w.heap.size) 27 (.slice va x.length vc) [Value.int .i64 0,ah 0,ah 0] _ rfl rfl Cm Tryz.underlying27 rfl Tryz.jL) rfl ?_;exact⟨⟨_,rfl,(eu gV).mono _ _ oi ((eu gV).step _ _ hst5 oi HY.o)⟩,(dH.o.trans HS2.o).then hst5 oi⟩
mutual
def wE (Nd:Ex→Prop):Ex→Prop
 | .mk k nm v m args ns body l c=>Nd (.mk k nm v m args ns body l c)∧dK Nd args∧f_ Nd body
def dK (Nd:Ex→Prop):List Ex→Prop
 |[]=>True
 |x::r=>wE Nd x∧dK Nd r
def yu (Nd:Ex→Prop):St→Prop
 | .mk _ _ _ pl e bs ls _ _ _=>dK Nd pl∧dK Nd e∧f_ Nd bs∧f_ Nd ls
def f_ (Nd:Ex→Prop):List St→Prop
 |[]=>True
 |s::r=>yu Nd s∧f_ Nd r
end
theorem dK.get {Nd:Ex→Prop}:∀{l:List Ex} {x:Ex},dK Nd l→x∈l→wE Nd x
 |y::r,x,h,hx=>by
  rw[dK]at h
  rcases List.mem_cons.1 hx with rfl|hx
  ·
   exact h.1
  ·
   exact dK.get h.2 hx
theorem f_.get {Nd:Ex→Prop}:∀{l:List St} {x:St},f_ Nd l→x∈l→yu Nd x
 |y::r,x,h,hx=>by
  rw[f_]at h
  rcases List.mem_cons.1 hx with rfl|hx
  ·
   exact h.1
  ·
   exact f_.get h.2 hx
theorem dK.snoc {Nd:Ex→Prop}:∀{l:List Ex} {x:Ex},dK Nd l→wE Nd x→dK Nd (l++[x])
 |[],x,_,hx=>by rw[List.nil_append,dK];exact⟨hx,by rw[dK];trivial⟩
 |y::r,x,h,hx=>by
  rw[dK]at h
  rw[List.cons_append,dK]
  exact⟨h.1,dK.snoc h.2 hx⟩
theorem f_.snoc {Nd:Ex→Prop}:∀{l:List St} {x:St},f_ Nd l→yu Nd x→f_ Nd (l++[x])
 |[],x,_,hx=>by rw[List.nil_append,f_];exact⟨hx,by rw[f_];trivial⟩
 |y::r,x,h,hx=>by
  rw[f_]at h
  rw[List.cons_append,f_]
  exact⟨h.1,f_.snoc h.2 hx⟩
theorem dK.nil (Nd:Ex→Prop):dK Nd []:=by rw[dK];trivial
theorem f_.nil (Nd:Ex→Prop):f_ Nd []:=by rw[f_];trivial
theorem dK.one {Nd:Ex→Prop} {x:Ex} (h:wE Nd x):dK Nd [x]:=dK.snoc (dK.nil Nd) h
def Ex.kind:Ex→Int
 | .mk k _ _ _ _ _ _ _ _=>k
def Ex.name:Ex→ByteArray
 | .mk _ nm _ _ _ _ _ _ _=>nm
def eH {α:Type} (Q:α→Prop) (r:dI α):Prop:=∀a j,r=.ok a j→Q a
theorem eH.bind {α β:Type} {Q:α→Prop} {Q2:β→Prop} {r:dI α} {f:α→Nat→dI β} (h:eH Q r) (hf:∀a j,Q a→eH Q2 (f a j)):eH Q2 (r.bind f):=by
 intro b k e;cases r with
 |ok a j=>exact hf a j (h a j rfl) b k e
 |err=>cases e
 |out=>cases e
theorem eH.any {α:Type} (r:dI α):eH (fun _=>True) r:=fun _ _ _=>trivial
theorem eH.ok {α:Type} {Q:α→Prop} {a:α} {j:Nat} (h:Q a):eH Q (.ok a j):=by intro b k e;cases e;exact h
theorem eH.fail {α:Type} {Q:α→Prop} {c:Nat} {l:List Tok} {i:Nat}:eH Q (iw c l i):=by intro b k e;cases e
theorem eH.out {α:Type} {Q:α→Prop}:eH Q (.out:dI α):=by intro b k e;cases e
section
variable {l : List Tok}
end
end Go.Proofs.YtggjfinekcenpaaGreat
