import Derived.Test.YtppekkbaoimpgaaGreatPkM
set_option maxRecDepth 100000
set_option maxHeartbeats 80000000
namespace Go.Proofs.YtppekkbaoimpgaaGreat
open Go.RowKit
open Vt
theorem Tryz.Nk:(Tryz.prog.info? 51).map (fun i=>(i.zero,i.size,i.bytes))=some (some (.agg #[ak 0,di,di,ay,ay,ay,ak 0,di,di,aT,ay,ay,ak 0,ak 0,ay,ay,ay,ak 0,ak 0]),19,312):=by kernel_rfl
def ItsV (n0:Nat) (w':World) (a:List It) (v:Value):Prop:=ig lm w' (fun k=>n0≤k) a v
theorem TT (f:Nat) (zG:∀f',f'≤f→mZ f') (BB:∀f',f'≤f→qR f') (R:gJ) (w:World) (i d:Nat) (hl:oZ R.l) (h:bI R w i d) (hd:d≤40) (hno:kF f R.l i d []≠.out):Calls Tryz.prog 42 #[.agg #[eU R.rb 0]] w (aJ R d (ItsV w.heap.size) (kF f R.l i d []) w):=by
 have HL:=au hl;have LM:=au zG;have OB:=au BB;obtain⟨r,hr⟩:=aN (kF f R.l i d []);have mP:=au hr;rw[←hr]at hno⊢;have eX:=au hno;obtain⟨i0,hi0,hz0,hz1,hz2⟩:=info_parts Tryz.Nk;have HI:=au hi0;have HZ0:=au hz0;have HZ1:=au hz1;have HZ2:=au hz2;have hfd0:∀(a0 a1 a2 a3 a4:Value) (w:World),(Instr.field 157 (.agg #[a0,a1,a2,a3,a4]) 0).run Tryz.prog w=.ok a0 w:=fun _ _ _ _ _ _=>by kernel_rfl
 obtain⟨w1,hw1⟩:=aN (w.alloc (.cells #[eU R.rb 0] 97));have dH:=nS hw1
 have kL:=nB hw1
 have HW1:=au hw1;have H1:=au (h.quiet dH.o);have hn1:=aK kL.o;have rU:=aK h.blk;have hwz:R.rb<w1.heap.size:=by omega
 have cZ:Hid (∀X:World,Step (·=R.rb) w1 X→X.cell? ⟨w.heap.size,0,none⟩=some (.pointer (some ⟨R.rb,0,none⟩))):=fun X hX=>aj (hX.keep kL.o om) 0 _ rfl
 have gK:Hid (∀X:World,Step (·=R.rb) w1 X→Step (·=R.rb) w X):=fun X hX=>(dH.o.mono fe).trans hX
 clear hw1;have p0:=cZ.o w1 bK;clear zG BB hl h hno hr hi0 hz0 hz1 hz2 p0;go_enter Tryz.func42,Tryz.ntmps42;go_upto_block 0 with fail
 rw[←HW1.o];go_wp2_with fail;go_loopg [3] f (fun gg s3 wr=>gg≤f∧∃(i':Nat) (acc:List It) (xs:List Value),r=kF gg R.l i' d acc∧Bq lm 51 19 R w1 d wr i' acc s3 xs);case atStart=>exact⟨Nat.le_refl _,i,[],[],mP.o,H1.o,World.ownsRow_nil _ _ _ _,rfl,Step.refl _ _⟩
 case round=>
  obtain⟨hgf,i',acc,xs,hrq,hst⟩:=hrel;obtain⟨gn,rfl⟩:∃gn,gk=gn+1:=by
   cases gk with
   |zero=>exact absurd hrq (by rw[kF];exact eX.o)
   |succ gn=>exact⟨gn,rfl⟩
  obtain⟨tk,htk⟩:=aN (tokA R.l i');have vI:Hid (r=if tk.kind=0 then .ok acc i' else(eY acc.length 60 R.l i').bind fun _ i=>(jD gn R.l i d).bind fun x j=>kF gn R.l j d (acc++[x])):=by show _=_;rw[hrq,kF,htk]
  have HT:=au (show R.l[i']?=some tk by rw[htk];exact hst.rd.tok);obtain⟨oa,oc,rfl⟩:=aV hst.ow;have HST:=au hst;have p0:=cZ.o wr hst.st;clear hrq hst htk;go_wp2_with fail;refine(lN R _ i' d tk HST.o.rd HT.o).mono ?_;rintro e wq ⟨rfl,hq⟩;have BD:=au (HST.o.quiet aQ hq);clear hq p0;by_cases hk:tk.kind=0
  ·(have e1:((tk.kind:Int) !=0)=false:=by rw[bne,kQ tk.kind 0 0 rfl,hk];rfl);(have xQ:Hid (r=.ok acc i'):=by show _=_;rw[vI.o,if_pos hk]);clear hk;go_wp2_with fail;go_ret;have hsz:=dH.o.size;exact aJ.dU xQ.o rfl ⟨_,cu.eu BD.o.ow (fun q hq=>by have:=(BD.o.ow.lt q hq).1;omega),oG.mono aQ (fun q _ hq=>by have:=hq.1;omega) _ _ BD.o.el⟩ BD.o.rd (gK.o _ BD.o.st)
  ·(have e1:((tk.kind:Int) !=0)=true:=by rw[bne,kQ tk.kind 0 0 rfl,beq_eq_false_iff_ne.2 hk];rfl);(have WQ:Hid (r=(eY acc.length 60 R.l i').bind fun _ i=>(jD gn R.l i d).bind fun x j=>kF gn R.l j d (acc++[x])):=by show _=_;rw[vI.o,if_neg hk]);clear hk;have p0:=cZ.o wq BD.o.st;go_wp2_with fail;refine(nH R wq acc.length 60 i' d BD.o.rd).mono ?_;rintro e w3 hp;cases hn:eY acc.length 60 R.l i' with
   |out=>exact(lH hn).elim
   |err c ln col=>rw[hn]at hp;obtain⟨rfl,s3⟩:=hp;exact⟨rfl,aJ.aZ c ln col (by rw[WQ.o,hn];rfl) rfl (gK.o _ (BD.o.st.trans s3))⟩
   |ok u j3=>
    have hji:j3=i'∧acc.length<60:=by
     unfold eY at hn;split at hn
     ·cases hn
     ·cases hn;exact⟨rfl,by omega⟩
    obtain⟨hj3,hlt⟩:=hji;have tJ:=au hn;rw[hn]at hp;obtain⟨⟨v,rfl,rfl⟩,hr3,s3⟩:=hp;have gu:=au (BD.o.read aQ hwz hr3 s3);have mY:=au (WQ.o.trans (zO tJ.o));clear hn hr3 s3 p0 hj3;have p0:=cZ.o w3 gu.o.st;go_wp2_with fail;refine(WT gn (fun f' hf=>LM.o f' om) (fun f' hf=>OB.o f' om) R w3 j3 d HL.o gu.o.rd hd (fun e=>eX.o (by rw[mY.o,e];rfl))).mono ?_;rintro e wx hp;have hp2:aJ R d (ItV w3.heap.size) (jD gn R.l j3 d) _ e wx:=hp;cases hx:jD gn R.l j3 d with
    |out=>exact absurd (by rw[mY.o,hx];rfl) eX.o
    |err c ln col=>rw[hx]at hp2;obtain⟨rfl,sq⟩:=hp2;exact⟨rfl,aJ.aZ c ln col (by rw[mY.o,hx];rfl) rfl (gK.o _ (gu.o.st.trans sq))⟩
    |ok x jx=>
     have HX:=au hx;rw[hx]at hp2;obtain⟨⟨v,rfl,cs,rfl,hy⟩,hrx,hsx⟩:=hp2;have Dl:=au (aQ.len _ _ hy);have eG:=au (aQ.one _ _ hy);have FH:=au (mY.o.trans (zO HX.o));obtain⟨w4,hw4⟩:=aN (wx.alloc (.cells cs.toArray 51));(have gq:Hid (StF wx w4):=by rw[hw4];exact bK.alloc _);have fC:=au ((gu.o.read aQ hwz hrx hsx).quiet aQ gq.o);have SY:Hid (lm w4 (fun q=>w3.heap.size≤q) x cs):=aQ.step _ _ gq.o (fun _ _ h=>h) hy;(have JQ:Hid ((wx.alloc (.cells cs.toArray 51)).ownsRow w1.heap.size 51 19 (.slice oa acc.length oc) acc.length xs):=by rw[←hw4];exact fC.o.ow);have Bc:Hid (Row (wx.alloc (.cells cs.toArray 51)) (wx.heap.size+1) (.slice (some ⟨wx.heap.size,0,none⟩) 1 1) 1 cs):=Row.new (aC _ _) dc;(have JR:Hid (w1.heap.size≤(wx.alloc (.cells cs.toArray 51)).heap.size):=by rw[←hw4];exact fC.o.st.size);have O8:=au hw4;have Ak:=au hlt;(have UN:i0.size=cs.length:=by rw[Dl.o];exact HZ1.o);(have hC2:(Value.agg #[ak 0,di,di,ay,ay,ay,ak 0,di,di,aT,ay,ay,ak 0,ak 0,ay,ay,ay,ak 0,ak 0]).cells.size=cs.length:=by rw[Dl.o];rfl);(have hC3:0<cs.length:=by rw[Dl.o];decide);(have hC4:cs.length≤16777216:=by rw[Dl.o];decide);(have hC5:cs.length=1*19:=by rw[Dl.o]);have HC:=au (And.intro UN (And.intro hC2 (And.intro hC3 (And.intro hC4 hC5))));clear hx hp hy hrx hsx p0 hw4 hlt UN hC2 hC3 hC4 hC5;go_wp2_with (first
      |(refine mX rfl 22 (.tmp 15) rfl 51 i0 (.agg #[ak 0,di,di,ay,ay,ay,ak 0,di,di,aT,ay,ay,ak 0,ak 0,ay,ay,ay,ak 0,ak 0]) cs rfl Tryz.underlying22 HI.o HZ0.o HC.o.1 HC.o.2.1 HC.o.2.2.1 HC.o.2.2.2.1 ?_)
      |(refine dK _ rfl (wx.heap.size+1) (.tmp 13) (.tmp 16) 22 rfl w1.heap.size 51 i0 (.agg #[ak 0,di,di,ay,ay,ay,ak 0,di,di,aT,ay,ay,ak 0,ak 0,ay,ay,ay,ak 0,ak 0]) 19 312 Tryz.underlying22 HI.o HZ0.o HZ1.o HZ2.o rfl dc _ _ _ (by rfl) JQ.o _ 1 _ (by rfl) Bc.o HC.o.2.2.2.2 eG.o (by have:=Ak.o;unfold maxLen;omega) (by have:=Ak.o;omega) JR.o ?_;intro v9 w9 gZ gU pF))
     rw[←O8.o]at gU pF;have iR:=au (gu.o.push aQ fC.o SY.o gZ gU pF hwz);clear gZ gU pF;have p0:=cZ.o w9 iR.o.st;go_roundg gn;case rel=>exact⟨by omega,jx,acc++[x],_,FH.o,iR.o⟩
     case measure=>omega
def Good (t:Tok):Prop:=∃r,oL r=.ok (t.kind,t.text.length,t.val)∧t.text=r.take t.text.length
def wF (l:List Tok):Nat:=(l.map (·.text.length)).sum
theorem Nl (l:List Tok) (t:Tok):wF (l++[t])=wF l+t.text.length:=by simp[wF]
theorem Good.pos {t:Tok} (h:Good t):1≤t.text.length:=by obtain⟨r,h1,_⟩:=h;exact(yP h1).1
theorem TU:∀(k:Nat) (r:List UInt8) (p l f:Nat) (acc res:List Tok),CU k r p l f acc=.ok res→f≤p→(∀t∈acc,Good t)→wF acc≤p→acc.length≤8000→∃body e,res=body++[e]∧(∀t∈body,Good t)∧wF body≤p+r.length∧body.length≤8000∧e.kind=0∧e.text=[]∧e.val=0:=by
 intro k;induction k with
 |zero=>intro r p l f acc res h;simp[CU]at h
 |succ k ih=>
  intro r p l f acc res h hf hg hs hl;have hi:=Fg r false p l f _ _ _ rfl hf;rw[CU]at h;generalize gY false r p l f=q at*;obtain⟨q1,q2,q3⟩:=q;dsimp only at hi h;split at h
  ·simp at h;exact⟨acc,_,h.symm,hg,by omega,hl,rfl,rfl,rfl⟩
  ·split at h
   ·simp at h
   ·split at h
    ·simp at h
    ·rename_i kind n val hn;obtain⟨hn1,hn2,_⟩:=yP hn;rw[List.length_drop]at hn2;have hlen:((r.drop (q1-p)).take n).length=n:=by rw[List.length_take,List.length_drop];omega
     have:=ih _ _ _ _ _ _ h om (by
      intro t ht
      rcases List.mem_append.1 ht with h1|h1
      ·
       exact hg t h1
      ·
       simp at h1;subst h1
       exact⟨r.drop (q1-p),by rw[hlen];exact hn,by simp[hlen]⟩) (by rw[Nl,hlen];omega) (by simp;omega)
     obtain⟨body,e,h1,h2,h3,h4⟩:=this;refine⟨body,e,h1,h2,?_,h4⟩;simp only[List.length_drop]at h3;omega
theorem WU:∀(k:Nat) (r:List UInt8) (p l f:Nat) (acc:List Tok) (c ln col:Nat),r.length<k→CU k r p l f acc=.error (c,ln,col)→c≠0:=by
 intro k;induction k with
 |zero=>intro r p l f acc c ln col h;omega
 |succ k ih=>
  intro r p l f acc c ln col hk h;rw[CU]at h;generalize gY false r p l f=q at*;obtain⟨q1,q2,q3⟩:=q;dsimp only at h;split at h
  ·simp at h
  ·split at h
   ·simp at h;omega
   ·split at h
    ·rename_i e he;simp at h;have:=IK he;omega
    ·rename_i kind n val hn;obtain⟨hn1,hn2,_⟩:=yP hn;refine ih _ _ _ _ _ _ _ _ ?_ h;simp only[List.length_drop]at hn2⊢;omega
theorem Np {s:List UInt8} {c ln col:Nat} (h:sS s=.error (c,ln,col)):c≠0:=by
 unfold sS at h;split at h
 ·simp at h;omega
 ·exact WU _ _ _ _ _ _ _ _ _ om h
theorem TV {l:List Tok} {t:Tok} (h:t∈l):t.text.length≤wF l:=by
 induction l with
 |nil=>cases h
 |cons a l ih=>
  simp only[wF,List.map_cons,List.sum_cons]at ih⊢;rcases List.mem_cons.1 h with rfl|h
  ·omega
  ·have:=ih h;omega
theorem FZ {s:List UInt8} {l:List Tok} (h:sS s=.ok l):∃body e,l=body++[e]∧(∀t∈body,Good t)∧wF body≤s.length∧s.length≤20000∧body.length≤8000∧e.kind=0∧e.text=[]∧e.val=0:=by
 unfold sS at h;split at h
 ·simp at h
 ·rename_i hs;obtain⟨body,e,h1,h2,h3,h4,h5⟩:=TU _ _ _ _ _ _ _ h (Nat.le_refl _) (by simp) (by simp[wF]) (by simp);exact⟨body,e,h1,h2,by omega,by omega,h4,h5⟩
theorem F5 {s:List UInt8} {l:List Tok} (h:sS s=.ok l):oZ l∧0<l.length:=by
 obtain⟨body,e,rfl,hg,hs,hz,hb,he,ht,-⟩:=FZ h;refine⟨⟨?_,by simp;omega,?_⟩,by simp⟩
 ·intro i t hi hk;have hlt:=(List.getElem?_eq_some_iff.1 hi).1;simp at hlt⊢;rcases Nat.lt_or_ge i body.length with h1|h1
  ·omega
  ·(have:i=body.length:=by omega);subst this;rw[List.getElem?_append_right (Nat.le_refl _),Nat.sub_self]at hi;simp at hi;subst hi;exact absurd he hk
 ·intro t ht2;rcases List.mem_append.1 ht2 with h1|h1
  ·have:=TV h1;omega
  ·rw[List.mem_singleton.1 h1,ht];decide
def Gd {α:Type} (N i:Nat) (r:dV α):Prop:=match r with
 | .ok _ j=>i<j∧j<N
 | .err c _ _=>c≠0
 | .out=>False
def iL {α:Type} (N i:Nat) (r:dV α):Prop:=match r with
 | .ok _ j=>i≤j∧j<N
 | .err c _ _=>c≠0
 | .out=>False
theorem Gd.weak {α:Type} {N i:Nat} {r:dV α} (h:Gd N i r):iL N i r:=by
 cases r with
 |ok a j=>exact⟨Nat.le_of_lt h.1,h.2⟩
 |err=>exact h
 |out=>exact h
theorem iL.ne {α:Type} {N i:Nat} {r:dV α} (h:iL N i r):r≠.out:=by rintro rfl;exact h
theorem Gd.bind {α β:Type} {N i:Nat} {r:dV α} {f:α→Nat→dV β} (h:Gd N i r) (hf:∀a j,i<j→j<N→iL N j (f a j)):Gd N i (r.bind f):=by
 cases r with
 |ok a j=>
  have:=hf a j h.1 h.2;show Gd N i (f a j);cases hx:f a j with
  |ok b k=>rw[hx]at this;exact⟨Nat.lt_of_lt_of_le h.1 this.1,this.2⟩
  |err=>rw[hx]at this;exact this
  |out=>rw[hx]at this;exact this
 |err=>exact h
 |out=>exact h
theorem iL.bind {α β:Type} {N i:Nat} {r:dV α} {f:α→Nat→dV β} (h:iL N i r) (hf:∀a j,i≤j→j<N→iL N j (f a j)):iL N i (r.bind f):=by
 cases r with
 |ok a j=>
  have:=hf a j h.1 h.2;show iL N i (f a j);cases hx:f a j with
  |ok b k=>rw[hx]at this;exact⟨Nat.le_trans h.1 this.1,this.2⟩
  |err=>rw[hx]at this;exact this
  |out=>rw[hx]at this;exact this
 |err=>exact h
 |out=>exact h
theorem iL.zH {α β:Type} {N i:Nat} {r:dV α} {f:α→Nat→dV β} (h:iL N i r) (hf:∀a j,i≤j→j<N→Gd N j (f a j)):Gd N i (r.bind f):=by
 cases r with
 |ok a j=>
  have:=hf a j h.1 h.2;show Gd N i (f a j);cases hx:f a j with
  |ok b k=>rw[hx]at this;exact⟨Nat.lt_of_le_of_lt h.1 this.1,this.2⟩
  |err=>rw[hx]at this;exact this
  |out=>rw[hx]at this;exact this
 |err=>exact h
 |out=>exact h
theorem iL.from {α:Type} {N i j:Nat} {r:dV α} (h:iL N j r) (hij:i≤j):iL N i r:=by
 cases r with
 |ok a k=>exact⟨Nat.le_trans hij h.1,h.2⟩
 |err=>exact h
 |out=>exact h
theorem iL.strict {α:Type} {N i j:Nat} {r:dV α} (h:iL N j r) (hij:i<j):Gd N i r:=by
 cases r with
 |ok a k=>exact⟨Nat.lt_of_lt_of_le hij h.1,h.2⟩
 |err=>exact h
 |out=>exact h
theorem iL.ok {α:Type} {N i:Nat} (a:α) (h:i<N):iL N i (.ok a i):=⟨Nat.le_refl _,h⟩
section
variable {l : List Tok} (hl : oZ l)
include hl
theorem yR {i:Nat} (hi:i<l.length) (h:(tokA l i).kind≠0):i+1<l.length:=hl.next i _ (uM hi) h
theorem dD {i:Nat} {s:List UInt8} (hi:i<l.length) (h:bF l i s=true):i+1<l.length:=yR hl hi (zM h)
theorem d_ {i:Nat} {s:List UInt8} (hi:i<l.length):Gd l.length i (aH l i s):=by
 unfold aH;split
 ·rename_i h;exact⟨Nat.lt_succ_self i,dD hl hi h⟩
 ·exact Nat.succ_ne_zero _
theorem iU {i:Nat} (hi:i<l.length):Gd l.length i (aS l i):=by
 unfold aS;split
 ·rename_i h;refine⟨Nat.lt_succ_self i,yR hl hi ?_⟩;intro e;simp[xH,e]at h
 ·exact Nat.succ_ne_zero _
theorem BF {i:Nat} (hi:i<l.length):Gd l.length i (jw l i):=by
 unfold jw;split
 ·rename_i h;exact⟨Nat.lt_succ_self i,yR hl hi om⟩
 ·exact Nat.succ_ne_zero _
omit hl in
theorem nX {n m i:Nat} (hi:i<l.length):iL l.length i (eY n m l i):=by
 unfold eY;split
 ·exact Nat.succ_ne_zero _
 ·exact iL.ok _ hi
theorem F6 {i:Nat} {s:List UInt8} (hi:i<l.length):i≤jb l i s∧jb l i s<l.length:=by
 unfold jb;split
 ·rename_i h;exact⟨by omega,dD hl hi h⟩
 ·exact⟨Nat.le_refl _,hi⟩
theorem KA {i:Nat} (hi:i<l.length):i≤qy l i∧qy l i<l.length:=by
 unfold qy;split
 ·rename_i h;exact⟨by omega,yR hl hi om⟩
 ·exact⟨Nat.le_refl _,hi⟩
structure Fu (l:List Tok) (f:Nat):Prop where
 typ:∀i d,i<l.length→16*(l.length-i)+1≤f→Gd l.length i (jY f l i d)
 args:∀i d ls ts,i<l.length→16*(l.length-i)+2≤f→Gd l.length i (lQ f l i d ls ts)
 bars:∀i ns,i<l.length→16*(l.length-i)+1≤f→Gd l.length i (barsR f l i ns)
 level:∀i d n,i<l.length→n≤5→16*(l.length-i)+(9-n)≤f→Gd l.length i (bG f l i d n)
 row:∀i d n x,i<l.length→n≤4→16*(l.length-i)+1≤f→iL l.length i (AY f l i d n x)
 unary:∀i d,i<l.length→16*(l.length-i)+3≤f→Gd l.length i (ji f l i d)
 post:∀i d,i<l.length→16*(l.length-i)+2≤f→Gd l.length i (xJ f l i d)
 dots:∀i d x,i<l.length→16*(l.length-i)+1≤f→iL l.length i (nG f l i d x)
 list:∀i d,i<l.length→16*(l.length-i)+11≤f→Gd l.length i (lZ f l i d)
 more:∀i d acc,i<l.length→16*(l.length-i)+10≤f→Gd l.length i (rJ f l i d acc)
 one:∀i d,i<l.length→16*(l.length-i)+1≤f→Gd l.length i (uK f l i d)
 made:∀i d ns al,i<l.length→16*(l.length-i)+1≤f→Gd l.length i (l9 f l i d ns al)
 prim:∀i d,i<l.length→16*(l.length-i)+1≤f→Gd l.length i (wP f l i d)
 block:∀i d,i<l.length→16*(l.length-i)+1≤f→Gd l.length i (bJ f l i d)
 stmts:∀i d acc,i<l.length→16*(l.length-i)+12≤f→Gd l.length i (pR f l i d acc)
 lett:∀i d,i<l.length→16*(l.length-i)+1≤f→Gd l.length i (CV f l i d)
 sett:∀i d,i<l.length→16*(l.length-i)+10≤f→Gd l.length i (CW f l i d)
 stmt:∀i d,i<l.length→16*(l.length-i)+11≤f→Gd l.length i (xK f l i d)
theorem typ_fu (f:Nat) (h:Fu l f) (i d:Nat) (hi:i<l.length) (hf:16*(l.length-i)+1≤f+1):Gd l.length i (jY (f+1) l i d):=by
 rw[jY];have one:∀(b:Bool) (s:List UInt8) (a:Ty),bF l i s=b→b=true→Gd l.length i (.ok a (i+1)):=fun b s a e hb=>⟨Nat.lt_succ_self i,dD hl hi (by rw[e];exact hb)⟩;split
 ·exact Nat.succ_ne_zero _
 ·split
  ·rename_i h1;exact one _ _ _ rfl h1
  ·split
   ·rename_i h1;exact one _ _ _ rfl h1
   ·split
    ·rename_i h1;exact one _ _ _ rfl h1
    ·split
     ·rename_i h1;have h2:=dD hl hi h1;exact iL.strict ((d_ hl h2).bind fun _ j _ hj=>iL.ok _ hj).weak (Nat.lt_succ_self i)
     ·split
      ·rename_i h1;have h2:=dD hl hi h1;exact iL.strict ((d_ hl h2).bind fun _ j h3 hj=>((h.typ j _ hj om).bind fun a k h4 hk=>((d_ hl hk).bind fun _ m _ hm=>iL.ok _ hm).weak).weak).weak (Nat.lt_succ_self i)
      ·split
       ·rename_i h1;have h2:=dD hl hi h1;have h3:=KA hl h2;have h4:=F6 hl (s:=[109,117,116]) h3.2;exact iL.strict ((h.typ _ _ h4.2 om).bind fun a k _ hk=>iL.ok _ hk).weak om
       ·split
        ·rename_i h1;have h2:=dD hl hi h1;refine iL.strict ((iU hl h2).bind fun n j h3 hj=> ?_).weak (Nat.lt_succ_self i);split
         ·rename_i h4;exact(((BF hl (dD hl hj h4)).bind fun x k _ hk=>iL.ok _ hk).weak).from om
         ·exact iL.ok _ hj
        ·refine(iU hl hi).bind fun n j h3 hj=> ?_;split
         ·rename_i h4;have h5:=dD hl hj h4;exact((h.args (j+1) _ _ _ h5 om).bind fun p k _ hk=>iL.ok _ hk).weak.from om
         ·exact iL.ok _ hj
theorem ZV (f:Nat) (h:Fu l f) (i d:Nat) (ls:List ByteArray) (ts:List Ty) (hi:i<l.length) (hf:16*(l.length-i)+2≤f+1):Gd l.length i (lQ (f+1) l i d ls ts):=by
 rw[lQ];refine(nX hi).zH fun _ i2 h0 hi2=> ?_;refine Gd.bind ?_ fun p j h1 hj=> ?_
 ·split
  ·exact(BF hl hi2).bind fun x j _ hj=>iL.ok _ hj
  ·exact(h.typ i2 d hi2 om).bind fun x j _ hj=>iL.ok _ hj
 ·split
  ·rename_i h2;exact((h.args (j+1) d _ _ (dD hl hj h2) om).weak).from om
  ·exact((d_ hl hj).bind fun _ k _ hk=>iL.ok _ hk).weak
theorem ZW (f:Nat) (h:Fu l f) (i:Nat) (ns:List ByteArray) (hi:i<l.length) (hf:16*(l.length-i)+1≤f+1):Gd l.length i (barsR (f+1) l i ns):=by
 rw[barsR];refine(nX hi).zH fun _ i2 h0 hi2=> ?_;refine(iU hl hi2).bind fun n j h1 hj=> ?_;split
 ·rename_i h2;exact((h.bars (j+1) _ (dD hl hj h2) om).weak).from om
 ·exact((d_ hl hj).bind fun _ k _ hk=>iL.ok _ hk).weak
omit hl in
theorem WV (f:Nat) (h:Fu l f) (i d n:Nat) (hi:i<l.length) (hn:n≤5) (hf:16*(l.length-i)+(9-n)≤f+1):Gd l.length i (bG (f+1) l i d n):=by
 rw[bG];split
 ·exact h.unary i d hi om
 ·exact(h.level i d (n+1) hi om om).bind fun x j h1 hj=>h.row j d n x hj om om
theorem row_fu (f:Nat) (h:Fu l f) (i d n:Nat) (x:Ex) (hi:i<l.length) (hn:n≤4) (hf:16*(l.length-i)+1≤f+1):iL l.length i (AY (f+1) l i d n x):=by
 rw[AY];cases ho:zQ l i n with
 |none=>exact iL.ok _ hi
 |some s=>
  have h1:bF l i s=true:=by simpa using List.find?_some ho
  have h2:=dD hl hi h1;refine(((h.level (i+1) d (n+1) h2 om om).bind fun y j h3 hj=> ?_).weak).from om;split
  ·exact iL.ok _ hj
  ·exact h.row j d n _ hj hn om
theorem WW (f:Nat) (h:Fu l f) (i d:Nat) (hi:i<l.length) (hf:16*(l.length-i)+3≤f+1):Gd l.length i (ji (f+1) l i d):=by
 rw[ji];have step:∀(s:List UInt8) (k:Nat) (g:Ex→Ex),bF l i s=true→i+1≤k→k<l.length→Gd l.length i ((ji f l k (d+1)).bind fun y j=>.ok (g y) j):=fun s k g h1 h2 h3=>
  iL.strict ((h.unary k (d+1) h3 om).bind fun y j _ hj=>iL.ok _ hj).weak om
 split
 ·exact Nat.succ_ne_zero _
 ·split
  ·rename_i h1;exact step _ _ _ h1 (Nat.le_refl _) (dD hl hi h1)
  ·split
   ·rename_i h1;exact step _ _ _ h1 (Nat.le_refl _) (dD hl hi h1)
   ·split
    ·rename_i h1;exact step _ _ _ h1 (Nat.le_refl _) (dD hl hi h1)
    ·split
     ·rename_i h1;have h2:=F6 hl (s:=[109,117,116]) (dD hl hi h1);exact step _ _ _ h1 h2.1 h2.2
     ·exact h.post i (d+1) hi om
omit hl in
theorem ZX (f:Nat) (h:Fu l f) (i d:Nat) (hi:i<l.length) (hf:16*(l.length-i)+2≤f+1):Gd l.length i (xJ (f+1) l i d):=by rw[xJ];exact(h.prim i d hi om).bind fun x j h1 hj=>h.dots j d x hj om
theorem ZY (f:Nat) (h:Fu l f) (i d:Nat) (x:Ex) (hi:i<l.length) (hf:16*(l.length-i)+1≤f+1):iL l.length i (nG (f+1) l i d x):=by
 rw[nG];split
 ·rename_i h1;have h2:=dD hl hi h1;refine(((iU hl h2).bind fun n j h3 hj=> ?_).weak).from om;split
  ·rename_i h4;have h5:=dD hl hj h4;exact(((h.list (j+1) d h5 om).bind fun al k h6 hk=>h.dots k d _ hk om).weak).from om
  ·exact h.dots j d _ hj om
 ·exact iL.ok _ hi
theorem Z4 (f:Nat) (h:Fu l f) (i d:Nat) (hi:i<l.length) (hf:16*(l.length-i)+11≤f+1):Gd l.length i (lZ (f+1) l i d):=by
 rw[lZ];split
 ·rename_i h1;exact⟨Nat.lt_succ_self i,dD hl hi h1⟩
 ·exact h.more i d [] hi om
theorem Z5 (f:Nat) (h:Fu l f) (i d:Nat) (acc:List Ex) (hi:i<l.length) (hf:16*(l.length-i)+10≤f+1):Gd l.length i (rJ (f+1) l i d acc):=by
 rw[rJ];refine(nX hi).zH fun _ i2 h0 hi2=> ?_;refine(h.level i2 d 0 hi2 om om).bind fun x j h1 hj=> ?_;split
 ·rename_i h2;exact((h.more (j+1) d _ (dD hl hj h2) om).weak).from om
 ·exact((d_ hl hj).bind fun _ k _ hk=>iL.ok _ hk).weak
theorem one_fu (f:Nat) (h:Fu l f) (i d:Nat) (hi:i<l.length) (hf:16*(l.length-i)+1≤f+1):Gd l.length i (uK (f+1) l i d):=by rw[uK];exact(d_ hl hi).bind fun _ j h1 hj=>((h.level j d 0 hj om om).bind fun x k h2 hk=>((d_ hl hk).bind fun _ m _ hm=>iL.ok _ hm).weak).weak
theorem Z7 (f:Nat) (h:Fu l f) (i d:Nat) (ns:List ByteArray) (al:List Ex) (hi:i<l.length) (hf:16*(l.length-i)+1≤f+1):Gd l.length i (l9 (f+1) l i d ns al):=by
 rw[l9];refine(nX hi).zH fun _ i2 h0 hi2=> ?_;refine(iU hl hi2).bind fun n j h1 hj=> ?_;refine((d_ hl hj).bind fun _ j2 h2 hj2=> ?_).weak;refine((h.level j2 d 0 hj2 om om).bind fun x k h3 hk=> ?_).weak;split
 ·rename_i h4;exact((h.made (k+1) d _ _ (dD hl hk h4) om).weak).from om
 ·exact((d_ hl hk).bind fun _ m _ hm=>iL.ok _ hm).weak
theorem WX (f:Nat) (h:Fu l f) (i d:Nat) (hi:i<l.length) (hf:16*(l.length-i)+1≤f+1):Gd l.length i (bJ (f+1) l i d):=by
 rw[bJ];split
 ·exact Nat.succ_ne_zero _
 ·exact(d_ hl hi).bind fun _ j h1 hj=>(h.stmts j _ [] hj om).weak
theorem WY (f:Nat) (h:Fu l f) (i d:Nat) (acc:List St) (hi:i<l.length) (hf:16*(l.length-i)+12≤f+1):Gd l.length i (pR (f+1) l i d acc):=by
 rw[pR];split
 ·rename_i h1;exact⟨Nat.lt_succ_self i,dD hl hi h1⟩
 ·exact(h.stmt i d hi om).bind fun s j h1 hj=>(h.stmts j d _ hj om).weak
theorem let_fu (f:Nat) (h:Fu l f) (i d:Nat) (hi:i<l.length) (hf:16*(l.length-i)+1≤f+1):Gd l.length i (CV (f+1) l i d):=by
 rw[CV];refine(iU hl hi).bind fun n j h1 hj=> ?_;refine iL.bind ?_ fun ty k h2 hk=> ?_
 ·split
  ·rename_i h3;exact((h.typ (j+1) d (dD hl hj h3) om).weak).from om
  ·exact iL.ok _ hj
 ·refine iL.bind ?_ fun e m h4 hm=>((d_ hl hm).bind fun _ p _ hp=>iL.ok _ hp).weak;split
  ·rename_i h3;exact(((h.level (k+1) d 0 (dD hl hk h3) om om).bind fun x q _ hq=>iL.ok _ hq).weak).from om
  ·exact iL.ok _ hk
theorem set_fu (f:Nat) (h:Fu l f) (i d:Nat) (hi:i<l.length) (hf:16*(l.length-i)+10≤f+1):Gd l.length i (CW (f+1) l i d):=by
 rw[CW];refine(h.level i d 0 hi om om).bind fun x j h1 hj=> ?_;refine iL.bind ?_ fun p m h4 hm=>((d_ hl hm).bind fun _ p _ hp=>iL.ok _ hp).weak;split
 ·rename_i h3;exact(((h.level (j+1) d 0 (dD hl hj h3) om om).bind fun x q _ hq=>iL.ok _ hq).weak).from om
 ·exact iL.ok _ hj
theorem Z8 (f:Nat) (h:Fu l f) (i d:Nat) (hi:i<l.length) (hf:16*(l.length-i)+11≤f+1):Gd l.length i (xK (f+1) l i d):=by
 rw[xK];split
 ·rename_i h1;exact iL.strict ((h.lett (i+1) d (dD hl hi h1) om).bind fun p j _ hj=>iL.ok _ hj).weak (Nat.lt_succ_self i)
 ·split
  ·rename_i h1;refine iL.strict ((h.level (i+1) d 0 (dD hl hi h1) om om).bind fun x j h2 hj=> ?_).weak (Nat.lt_succ_self i);refine((h.block j d hj om).bind fun b k h3 hk=> ?_).weak;split
   ·rename_i h4;exact(((h.block (k+1) d (dD hl hk h4) om).bind fun c m _ hm=>iL.ok _ hm).weak).from om
   ·exact iL.ok _ hk
  ·split
   ·rename_i h1;exact iL.strict ((h.level (i+1) d 0 (dD hl hi h1) om om).bind fun x j h2 hj=>((h.block j d hj om).bind fun b k h3 hk=>iL.ok _ hk).weak).weak (Nat.lt_succ_self i)
   ·split
    ·rename_i h1;have h2:=dD hl hi h1;refine iL.strict (iL.bind (i:=i+1) ?_ fun e m h4 hm=>((d_ hl hm).bind fun _ p _ hp=>iL.ok _ hp).weak) (Nat.lt_succ_self i);split
     ·exact iL.ok _ h2
     ·exact((h.level (i+1) d 0 h2 om om).bind fun x q _ hq=>iL.ok _ hq).weak
    ·split
     ·rename_i h1;exact iL.strict ((d_ hl (dD hl hi h1)).bind fun _ j _ hj=>iL.ok _ hj).weak (Nat.lt_succ_self i)
     ·split
      ·exact(h.block i d hi om).bind fun b j _ hj=>iL.ok _ hj
      ·exact(h.sett i d hi om).bind fun p j _ hj=>iL.ok _ hj
theorem Z9 (f:Nat) (h:Fu l f) (i d:Nat) (hi:i<l.length) (hf:16*(l.length-i)+1≤f+1):Gd l.length i (wP (f+1) l i d):=by
 rw[wP];have ok1:∀(x:Ex),(tokA l i).kind≠0→Gd l.length i (.ok x (i+1)):=fun x hk=>⟨Nat.lt_succ_self i,yR hl hi hk⟩;have okF:∀(s:List UInt8) (x:Ex),bF l i s=true→Gd l.length i (.ok x (i+1)):=fun s x hk=>⟨Nat.lt_succ_self i,dD hl hi hk⟩;by_cases h1:(tokA l i).kind=3
 ·rw[if_pos h1];exact ok1 _ om
 rw[if_neg h1];clear h1;by_cases h1:(tokA l i).kind=4
 ·rw[if_pos h1];exact ok1 _ om
 rw[if_neg h1];clear h1;by_cases h1:bF l i [116,114,117,101]=true
 ·rw[if_pos h1];exact okF _ _ h1
 rw[if_neg h1];clear h1;by_cases h1:bF l i [102,97,108,115,101]=true
 ·rw[if_pos h1];exact okF _ _ h1
 rw[if_neg h1];clear h1;by_cases h1:bF l i [99,104,111,111,115,101]=true
 ·rw[if_pos h1];exact okF _ _ h1
 rw[if_neg h1];clear h1;by_cases h1:bF l i [66,111,120]=true
 ·rw[if_pos h1];exact iL.strict ((h.one (i+1) d (dD hl hi h1) (by have:=dD hl hi h1;omega)).bind fun x j _ hj=>iL.ok _ hj).weak (Nat.lt_succ_self i)
 rw[if_neg h1];clear h1;by_cases h1:bF l i [117,110,98,111,120]=true
 ·rw[if_pos h1];exact iL.strict ((h.one (i+1) d (dD hl hi h1) (by have:=dD hl hi h1;omega)).bind fun x j _ hj=>iL.ok _ hj).weak (Nat.lt_succ_self i)
 rw[if_neg h1];clear h1;by_cases h1:bF l i [110,101,119]=true
 ·rw[if_pos h1];have h2:=dD hl hi h1;refine iL.strict ((iU hl h2).bind fun n j h3 hj=> ?_).weak (Nat.lt_succ_self i);refine((d_ hl hj).bind fun _ k h4 hk=> ?_).weak;split
  ·rename_i h5;exact⟨by omega,dD hl hk h5⟩
  ·exact((h.made k d _ _ hk om).bind fun p m _ hm=>iL.ok _ hm).weak
 rw[if_neg h1];clear h1;by_cases h1:bF l i [97,115]=true
 ·rw[if_pos h1];have h2:=dD hl hi h1;refine iL.strict ((iU hl h2).bind fun n j h3 hj=> ?_).weak (Nat.lt_succ_self i);refine((d_ hl hj).bind fun _ k h4 hk=> ?_).weak;refine iL.bind ?_ fun ns m h5 hm=>((h.block m d hm om).bind fun b p _ hp=>iL.ok _ hp).weak;split
  ·rename_i h6;exact⟨by omega,dD hl hk h6⟩
  ·exact(h.bars k _ hk om).weak
 rw[if_neg h1];clear h1;by_cases h1:bF l i [40]=true
 ·rw[if_pos h1];have h2:=dD hl hi h1;split
  ·rename_i h3;exact⟨by omega,dD hl h2 h3⟩
  ·exact iL.strict ((h.level (i+1) d 0 h2 om om).bind fun x j h3 hj=>((d_ hl hj).bind fun _ k _ hk=>iL.ok _ hk).weak).weak (Nat.lt_succ_self i)
 rw[if_neg h1];clear h1;by_cases h1:bF l i [115,101,108,102]=true
 ·rw[if_pos h1];exact okF _ _ h1
 rw[if_neg h1];clear h1;refine(iU hl hi).bind fun n j h3 hj=> ?_;split
 ·rename_i h4;exact(((h.list (j+1) d (dD hl hj h4) (by have:=dD hl hj h4;omega)).bind fun al k _ hk=>iL.ok _ hk).weak).from om
 ·exact iL.ok _ hj
theorem KC:∀f,Fu l f:=by
 intro f;induction f with
 |zero=>constructor<;>intros<;>omega
 |succ f ih=>
  exact⟨fun i d=>typ_fu hl f ih i d,fun i d ls ts=>ZV hl f ih i d ls ts,fun i ns=>ZW hl f ih i ns,fun i d n=>WV f ih i d n,fun i d n x=>row_fu hl f ih i d n x,fun i d=>WW hl f ih i d,fun i d=>ZX f ih i d,fun i d x=>ZY hl f ih i d x,
   fun i d=>Z4 hl f ih i d,fun i d acc=>Z5 hl f ih i d acc,fun i d=>one_fu hl f ih i d,fun i d ns al=>Z7 hl f ih i d ns al,fun i d=>Z9 hl f ih i d,fun i d=>WX hl f ih i d,fun i d acc=>WY hl f ih i d acc,fun i d=>let_fu hl f ih i d,fun i d=>set_fu hl f ih i d,fun i d=>Z8 hl f ih i d⟩
end
theorem catch_panicking (b:Nat) (c ln col:Int) (v0 v1 v2:Value) (older:List PanicEntry) (w:World) (hc:w.heap[b]?=some (.cells #[v0,v1,v2] 27 (0,0))):
  CallsD Tryz.prog 183 #[.pointer (some ⟨b,0,none⟩)] (.panicking ({v:=.iface 251 (.agg #[ak c,ak ln,ak col]),recovered:=false}::older)) w fun e u' w'=>
   e=.returned (.tuple #[])∧u'=.panicking ({v:=.iface 251 (.agg #[ak c,ak ln,ak col]),recovered:=true}::older)∧w'.heap[b]?=some (.cells #[ak c,ak ln,ak col] 27 (0,0))∧Step (·=b) w w':=by
 refine callsD_of_wpS Tryz.func183 rfl fun c₀ cs hu=> ?_
 obtain⟨⟨g0,g1,g2⟩,k0,k1,k2⟩:=Ar hc
 have hlt:b<w.heap.size:=aK hc
 apply wpS_seq
 apply wpS_region
 have hta:∀(x:Value) (w:World),(Instr.typeAssert (.iface 251 x) 20 251 true).run Tryz.prog w=.ok (.tuple #[x,dW true]) w:=fun _ _=>by kernel_rfl
 simp[wpOpsS,go_sem,recoverD,hu,Tryz.ntmps183,Exit.thenS]
 refine wpS_of_wp ?_
 simp only[Array.replicate_succ,Array.replicate_zero,List.push_toArray,List.append_toArray,List.nil_append,List.cons_append,List.setIfInBounds_toArray,List.set_cons_zero,List.set_cons_succ]
 go_wp2
 refine⟨rfl,_,rfl,.tuple #[],by simp[results,Tryz.results183,go_sem],rfl,rfl,?_,?_⟩
 ·
  have:=aW (aW (aW hc 0 (.int .i64 c)) 1 (.int .i64 ln)) 2 (.int .i64 col)
  exact aP this
 ·
  exact((((Step.refl (·=b) w).setCell ⟨b,0,none⟩ _ iW).setCell ⟨b,1,none⟩ _ iW).setCell ⟨b,2,none⟩ _ iW).alloc _
theorem catch_idle (b:Nat) (w:World):CallsD Tryz.prog 183 #[.pointer (some ⟨b,0,none⟩)] .returning w fun e u' w'=>e=.returned (.tuple #[])∧u'=.returning∧w'=w:=by refine callsD_of_wpS Tryz.func183 rfl fun c₀ cs hu=> ?_;apply wpS_seq;apply wpS_region;simp[wpOpsS,go_sem,recoverD,hu,Tryz.ntmps183,Exit.thenS];refine wpS_of_wp ?_;simp only[Array.replicate_succ,Array.replicate_zero,List.push_toArray,List.append_toArray,List.nil_append,List.cons_append,List.setIfInBounds_toArray,List.set_cons_zero,List.set_cons_succ];go_wp2;cases c₀;simp_all [bodyPostS,results,Tryz.results183,go_sem]
def uZ (w:World) (lv:Value):World:=(w.alloc (.cells #[ak 0,ak 0,ak 0] 27)).alloc (.cells #[lv,ak 0,ak 0] 210)
theorem TW (a:Option Addr) (n cap k:Nat) (caps:List Value) (w:World) (c ln col:Nat) (Q:World→Prop) (hk:Enters k)
  (hby:Calls Tryz.prog k (.pointer (some ⟨w.heap.size+1,0,none⟩)::caps).toArray (uZ w (.slice a n cap)) fun e w'=>
   e=.panicked [{v:=.iface 251 (.agg #[ak c,ak ln,ak col]),recovered:=false}]∧(w'.heap[w.heap.size]?=some (.cells #[ak 0,ak 0,ak 0] 27 (0,0)))∧Q w'):
  Calls Tryz.prog 137 #[.slice a n cap,.func (.func k) #[] caps.toArray] w fun e w'=>
   e=.returned (.agg #[ak c,ak ln,ak col])∧∃w1,Q w1∧Step (·=w.heap.size) w1 w':=by
 have hmf:∀(fn:Fn) (first cap:Array Value) (w:World),(Instr.makeFunc fn first cap).run Tryz.prog w=.ok (.func fn first cap) w:=fun _ _ _ _=>rfl
 have hfe:∀(fn:Fn) (x y:Array Value) (w:World),(binOp .eql 208 (.func fn x y) .nilFunc).run Tryz.prog w=.ok (.bool false) w:=fun _ _ _ _=>by kernel_rfl
 have hen:Enters k:=hk
 unfold Enters at hen
 have HB:=au hby
 clear hby hk
 go_enter_defers Tryz.func137,Tryz.ntmps137
 go_wp2_with fail
 refine HB.o.mono ?_
 rintro e w1 ⟨rfl,hE,hQ⟩
 refine leaves_cons (f:=183) (args:= #[.pointer (some ⟨w.heap.size,0,none⟩)]) (by simp) (by simp[go_sem]) ?_
 refine(catch_panicking w.heap.size c ln col _ _ _ [] w1 hE).mono ?_
 rintro e u' w2 ⟨rfl,rfl,hE2,hst⟩
 obtain⟨⟨g0,g1,g2⟩,_⟩:=Ar hE2
 simp[Leaves,settle,results,Tryz.results137,go_sem,g0,g1,g2]
 exact⟨w1,hQ,hst⟩
theorem Z_ (a:Option Addr) (n cap k:Nat) (caps:List Value) (w:World) (Q:World→Prop) (hk:Enters k)
  (hby:Calls Tryz.prog k (.pointer (some ⟨w.heap.size+1,0,none⟩)::caps).toArray (uZ w (.slice a n cap)) fun e w'=>
   e=.returned (.tuple #[])∧(w'.heap[w.heap.size]?=some (.cells #[ak 0,ak 0,ak 0] 27 (0,0)))∧Q w'):
  Calls Tryz.prog 137 #[.slice a n cap,.func (.func k) #[] caps.toArray] w fun e w'=>
   e=.returned (.agg #[ak 0,ak 0,ak 0])∧∃w1,Q w1∧Step (·=w.heap.size) w1 w':=by
 have hmf:∀(fn:Fn) (first cap:Array Value) (w:World),(Instr.makeFunc fn first cap).run Tryz.prog w=.ok (.func fn first cap) w:=fun _ _ _ _=>rfl
 have hfe:∀(fn:Fn) (x y:Array Value) (w:World),(binOp .eql 208 (.func fn x y) .nilFunc).run Tryz.prog w=.ok (.bool false) w:=fun _ _ _ _=>by kernel_rfl
 have hen:Enters k:=hk
 unfold Enters at hen
 have HB:=au hby
 clear hby hk
 go_enter_defers Tryz.func137,Tryz.ntmps137
 go_wp2_with fail
 refine HB.o.mono ?_
 rintro e w1 ⟨rfl,hE,hQ⟩
 have q0:=aj hE 0 _ rfl
 have q1:=aj hE 1 _ rfl
 have q2:=aj hE 2 _ rfl
 have z0:=aI hE 0
 have z1:=aI hE 1
 have z2:=aI hE 2
 have HQ:=au hQ
 have hb2:=aW (aW (aW hE 0 (.int .i64 0)) 1 (.int .i64 0)) 2 (.int .i64 0)
 have hs2:Step (·=w.heap.size) w1 (((w1.setCell ⟨w.heap.size,0,none⟩ (.int .i64 0)).setCell ⟨w.heap.size,1,none⟩ (.int .i64 0)).setCell ⟨w.heap.size,2,none⟩ (.int .i64 0)):=(((Step.refl (·=w.heap.size) _).setCell _ _ iW).setCell _ _ iW).setCell _ _ iW
 have HB2:=au hb2
 have HS2:=au hs2
 clear hQ hb2 hs2
 go_wp2_with fail
 refine leaves_cons (f:=183) (args:= #[.pointer (some ⟨w.heap.size,0,none⟩)]) (by simp) (by simp[go_sem]) ?_
 refine(catch_idle w.heap.size _).mono ?_
 rintro e u' w2 ⟨rfl,rfl,rfl⟩
 obtain⟨⟨g0,g1,g2⟩,_⟩:=Ar HB2.o
 simp[Leaves,settle,results,Tryz.results137,go_sem,g0,g1,g2]
 exact⟨w1,HQ.o,HS2.o⟩
def Ik {α:Type} (r:dV α) (l:List Tok):dV α:=match r with
 | .ok a j=>if(tokA l j).kind=0 then .ok a j else eP 1 l j
 | .err c ln col=>.err c ln col
 | .out=>.out
def Il {α:Type} (s:List UInt8) (p:List Tok→dV α):Except (Nat×Nat×Nat) α:=match sS s with
 | .error e=>.error e
 | .ok l=>match Ik (p l) l with
  | .ok a _=>.ok a
  | .err c ln col=>.error (c,ln,col)
  | .out=>.error (1,0,0)
theorem bI.apart {R:gJ} {w w':World} {i d bo:Nat} (h:bI R w i d) (hs:Step (·=bo) w w') (h0:0<bo) (h1:bo≠R.rb) (h2:∀g o p,R.a=some ⟨g,o,p⟩→g≠bo):bI R w' i d:=by
 refine⟨hs.keep h.blk (fun e=>h1 e.symm),?_,hs.cell h.Sm (fun e=>by have e2:0=bo:=e;omega),h.pos,h.lt⟩;obtain⟨a,c,hv,hc,hm,hz,hr⟩:=h.row;refine⟨a,c,hv,hc,hm,hz,fun hn=> ?_⟩;obtain⟨g,o,ha,hg,hgw,hcell⟩:=hr hn;have hra:R.a=some ⟨g,o,none⟩:=by rw[←ha];cases hv;rfl
 exact⟨g,o,ha,hg,Nat.lt_of_lt_of_le hgw hs.size,fun i x hx=>hs.cell (hcell i x hx) (h2 g o none hra)⟩
theorem Nq {α:Type} {s:List UInt8} {p:List Tok→dV α} (hc:∀l c ln col,sS s=.ok l→p l=.err c ln col→c≠0) {c ln col:Nat} (h:Il s p=.error (c,ln,col)):c≠0:=by
 unfold Il at h;cases hx:sS s with
 |error e=>rw[hx]at h;obtain⟨c',ln',col'⟩:=e;cases h;exact Np hx
 |ok l=>
  rw[hx]at h;dsimp only at h;cases hy:p l with
  |out=>rw[hy]at h;cases h;decide
  |err c' ln' col'=>rw[hy]at h;cases h;exact hc l _ _ _ hx hy
  |ok a j=>
   rw[hy]at h;dsimp only[Ik]at h;by_cases hz:(tokA l j).kind=0
   ·rw[if_pos hz]at h;cases h
   ·rw[if_neg hz,eP]at h;cases h;decide
theorem aac (s:ByteArray) (w:World) (m:Int) (hm:w.cell? ⟨0,0,none⟩=some (.int .i64 m)):Calls Tryz.prog 136 #[.string s] w (JC w.heap.size w (sS s.data.toList)):=by
 rcases Nat.lt_or_ge 20000 s.size with h|h
 ·exact U8 s w h
 ·exact YZ s w m hm h
theorem TY {α:Type} (R:gJ) (k:Nat) (caps:List Value) (bc bo:Nat) (Left:World→α→Prop) (r:dV α) (w:World) (hk:Enters k) (hbc:w.cell? ⟨bc,0,none⟩=some (.func (.func k) #[] caps.toArray)) (hno:r≠.out) (hby:Calls Tryz.prog k (.agg #[eU R.rb 0]::caps).toArray w (bg R 0 bo Left r w)) (hst:∀X Y a,StF X Y→Left X a→Left Y a):Calls Tryz.prog 138 #[.pointer (some ⟨R.rb,0,none⟩),.pointer (some ⟨bc,0,none⟩)] w (bg R 0 bo Left (Ik r R.l) w):=by
 have hen:Enters k:=hk;unfold Enters at hen;have HB:=au hby;have HST:=au hst;have eX:=au hno;have hfd0:∀(a0 a1 a2 a3 a4:Value) (w:World),(Instr.field 157 (.agg #[a0,a1,a2,a3,a4]) 0).run Tryz.prog w=.ok a0 w:=fun _ _ _ _ _ _=>by kernel_rfl
 clear hby hk hst hno;go_enter Tryz.func138,Tryz.ntmps138;go_wp2_with fail;refine HB.o.mono ?_;rintro e w1 hp;cases r with
 |out=>exact absurd rfl eX.o
 |err c ln col=>obtain⟨rfl,hs⟩:=hp;exact⟨rfl,rfl,hs⟩
 |ok a j=>
  obtain⟨rfl,hleft,hr,hs⟩:=hp;obtain⟨tk,htk⟩:=aN (tokA R.l j);have HT:=au (show R.l[j]?=some tk by rw[htk];exact hr.tok);have Sr:=au htk;have HR:=au hr;have IV:=au hleft;have HS:=au hs;clear htk hr hleft hs hbc;go_wp2_with fail;refine(lN R _ j 0 tk HR.o HT.o).mono ?_;rintro e w2 ⟨rfl,h2⟩;have HR2:=au (HR.o.quiet h2);have HS2:=au h2;clear h2;by_cases hz:tk.kind=0
  ·(have e1:((tk.kind:Int) !=0)=false:=by rw[bne,kQ tk.kind 0 0 rfl,hz];rfl);(have HE:Hid (Ik (.ok a j) R.l=.ok a j):=by show(if(tokA R.l j).kind=0 then dV.ok a j else eP 1 R.l j)=_;rw[←Sr.o,if_pos hz]);clear hz;go_wp2_with fail;refine bodyPost_end (results_none rfl _ _ _) rfl ?_;exact bg.dU HE.o rfl (HST.o _ _ _ HS2.o IV.o) HR2.o (HS.o.trans (HS2.o.mono fe))
  ·(have e1:((tk.kind:Int) !=0)=true:=by rw[bne,kQ tk.kind 0 0 rfl,beq_eq_false_iff_ne.2 hz];rfl);(have HE:Hid (Ik (.ok a j) R.l=.err 1 tk.line tk.col):=by show(if(tokA R.l j).kind=0 then dV.ok a j else eP 1 R.l j)=_;rw[←Sr.o,if_neg hz,eP,←Sr.o]);clear hz;go_wp2_with fail;refine(qi R 1 _ j 0 tk HR2.o HT.o).mono ?_;rintro e w3 ⟨rfl,h3⟩;exact⟨rfl,bg.aZ HE.o rfl (HS.o.trans ((HS2.o.trans h3).mono fe))⟩
theorem BG:Enters 138:=fun xs w=>by go_simp
def QV {α:Type} (bo:Nat) (Left:World→World→α→Prop) (r:Except (Nat×Nat×Nat) α) (w:World) (e:Ending) (w':World):Prop:=
 match r with
 | .ok a=>e=.returned (.agg #[ak 0,ak 0,ak 0])∧(∃X,w.heap.size≤X.heap.size∧Left X w' a)∧Step (·=bo) w w'
 | .error (c,ln,col)=>e=.returned (.agg #[ak c,ak ln,ak col])∧Step (·=bo) w w'
theorem T_ {α:Type} (s:ByteArray) (k:Nat) (caps:List Value) (bo:Nat) (p:List Tok→dV α) (Left:World→World→α→Prop) (w:World) (m:Int) (hm:w.cell? ⟨0,0,none⟩=some (.int .i64 m)) (hbw:bo<w.heap.size) (hk:Enters k) (hp:∀l,sS s.data.toList=.ok l→p l≠.out) (hst:∀X Y Z a,w.heap.size≤X.heap.size→Step (fun q=>w.heap.size≤q∧q<X.heap.size) Y Z→Left X Y a→Left X Z a) (hby:∀(R:gJ) (X:World),sS s.data.toList=.ok R.l→oZ R.l→bI R X 0 0→w.heap.size<R.rb→(∀g o p,R.a=some ⟨g,o,p⟩→w.heap.size≤g)→StF w X→Calls Tryz.prog k (.agg #[eU R.rb 0]::caps).toArray X (bg R 0 bo (Left X) (p R.l) X)):Calls Tryz.prog 81 #[.string s,.func (.func k) #[] caps.toArray] w (QV bo Left (Il s.data.toList p) w):=by
 have hmf:∀(fn:Fn) (first cap:Array Value) (w:World),(Instr.makeFunc fn first cap).run Tryz.prog w=.ok (.func fn first cap) w:=fun _ _ _ _=>rfl;obtain⟨w1,hw1⟩:=aN ((w.alloc (.cells #[.func (.func k) #[] caps.toArray] 155)).alloc (.cells #[ak 0,ak 0,ak 0] 27));have dH:=nT hw1
 have kL:=nC hw1
 have kT:=nD hw1
 have HW1:=au hw1;have KD:=au (dH.o.cell hm (fun h=>h));have Jd:=au (aac s w1 m KD.o);have HB:=au hby;have HP:=au hp;have HST:=au hst;have hn1:=aK kT.o;have hsz1:=dH.o.size;have HK:=au hk;obtain⟨rl,hrl⟩:=aN (sS s.data.toList);have xN:=au hrl;rw[←hrl]at Jd;clear hm hk hp hst hby hw1 hrl;go_enter Tryz.func81,Tryz.ntmps81;go_upto_region 1 with fail
 rw[←HW1.o];go_wp2_with fail;refine Jd.o.mono ?_;rintro e w2 ⟨hp,h2⟩;cases rl with
 |error q=>
  obtain⟨c,ln,col⟩:=q;have hp2:e=.returned (.tuple #[ay,.agg #[ak c,ak ln,ak col]]):=hp;subst hp2;have hc0:c≠0:=Np xN.o.symm;have bc:((c:Int)==0)=false:=by rw[beq_eq_false_iff_ne];omega
  have HS2:=au h2;have kC:=au (h2.keep kT.o (fun h=>h));have hz2:=h2.size;obtain⟨⟨d0,d1,d2⟩,z0,z1,z2⟩:=Ar (aP (o':=.cells #[ak c,ak ln,ak col] 27) kC.o);clear hp h2 hc0;go_wp2_with fail;refine bodyPost_ret (v:=.agg #[ak c,ak ln,ak col]) (by simp[results,Tryz.results81,go_sem,d0,d1,d2]) rfl ?_;unfold QV Il;rw[←xN.o];refine⟨rfl,?_⟩;have hs3:Step (·=w.heap.size+1) w2 ((((w2.alloc (.cells #[ak c,ak ln,ak col] 27)).setCell ⟨w.heap.size+1,0,none⟩ (.int .i64 c)).setCell ⟨w.heap.size+1,1,none⟩ (.int .i64 ln)).setCell ⟨w.heap.size+1,2,none⟩ (.int .i64 col)):=((((Step.refl (·=w.heap.size+1) _).alloc _).setCell _ _ iW).setCell _ _ iW).setCell _ _ iW;exact((dH.o.trans HS2.o).mono fe).then hs3 oi
 |ok l=>
  obtain⟨v,rfl,hown⟩:∃v,e=.returned (.tuple #[v,.agg #[ak 0,ak 0,ak 0]])∧w2.ownsRow w1.heap.size 157 5 v l.length (xC l):=hp;obtain⟨a,c,rfl⟩:=aV hown;obtain⟨hlk,hl0⟩:=F5 xN.o.symm;have hpn:=HP.o l xN.o.symm;obtain⟨w3,hw3⟩:=aN (w2.alloc (.cells #[ak 0,ak 0,ak 0] 27));have fK:Hid (StF w w3):=by rw[hw3];exact(dH.o.trans h2).alloc _
  have kK:Hid (StF w1 w3):=by rw[hw3];exact h2.alloc _
  have mY:=nB hw3
  have HOW:=au ((show StF w2 w3 by rw[hw3];exact bK.alloc _).owns hown (fun _ _ h=>h));have qV:=au (kK.o.cell KD.o (fun h=>h));have yY:=au (kK.o.keep kL.o (fun h=>h));have tJ:=au (kK.o.keep kT.o (fun h=>h));have HW3:=au hw3;have hz13:=kK.o.size;clear hown h2 hw3;obtain⟨R,hR⟩:∃R:gJ,R=⟨w3.heap.size+1,a,c,l,m⟩:=⟨_,rfl⟩;have hrb:R.rb=w3.heap.size+1:=by rw[hR]
  have hRl:R.l=l:=by rw[hR]
  have hRD:bI R (uZ w3 (.slice a l.length c)) 0 0:=by rw[hR];have h3:StF w3 (uZ w3 (.slice a l.length c)):=(bK.alloc _).alloc _;exact⟨dY _ _ _,(Row.eu HOW.o (Nat.le_refl _)).step h3 (fun _ _ h=>h)|>.mono (Nat.le_succ _),h3.cell qV.o (fun h=>h),Nat.succ_pos _,hl0⟩
  have hRA:∀g o p,R.a=some ⟨g,o,p⟩→w.heap.size≤g:=by intro g o p e;rw[hR]at e;have e2:a=some ⟨g,o,p⟩:=e;have:=(HOW.o.lt g (by rw[e2];rfl)).1;omega
  have aad:StF w (uZ w3 (.slice a l.length c)):=(fK.o.alloc _).alloc _;have hcall:=TY R k caps w.heap.size bo (Left (uZ w3 (.slice a l.length c))) (p R.l) (uZ w3 (.slice a l.length c)) HK.o (dX (dX (aj yY.o 0 _ rfl))) (by rw[hRl];exact hpn)
   (HB.o R _ (by rw[hRl];exact xN.o.symm) (by rw[hRl];exact hlk) hRD om hRA aad) (fun X Y a hs hl=>HST.o _ X Y a aad.size (hs.mono fe) hl)
  rw[hRl,hrb]at hcall;have herr:(uZ w3 (.slice a l.length c)).heap[w3.heap.size]?=some (.cells #[ak 0,ak 0,ak 0] 27 (0,0)):=aP (aC _ _);have hzr:(uZ w3 (.slice a l.length c)).heap.size=w3.heap.size+2:=by simp[uZ]
  have HOUT:Hid (Il s.data.toList p=match Ik (p l) l with| .ok a _=>.ok a| .err c ln col=>.error (c,ln,col)| .out=>.error (1,0,0)):=by show _=_;unfold Il;rw[←xN.o]
  obtain⟨r,hr⟩:=aN (Ik (p l) l);rw[←hr]at hcall HOUT;have HCALL:=au hcall;have hrn:r≠.out:=by
   rw[hr];unfold Ik;cases hx:p l with
   |out=>exact absurd hx hpn
   |err=>intro e;cases e
   |ok a j=>dsimp only;split<;>(intro e;cases e)
  obtain⟨⟨g0,g1,g2⟩,-⟩:=Ar mY.o;have hlt3:w.heap.size+1<w3.heap.size:=by omega
  clear hcall hRD hRA hR hr hlk hl0 hpn;cases r with
  |out=>exact absurd rfl hrn
  |err ce ln col=>have kU:=au (TW a l.length c 138 [.pointer (some ⟨w.heap.size,0,none⟩)] w3 ce ln col (fun X=>Step (fun q=>q=w3.heap.size+1∨q=bo) (uZ w3 (.slice a l.length c)) X) BG (HCALL.o.mono fun e X hp=>⟨hp.1,hp.2.keep herr om,(by have h9:=hp.2;rw[hrb]at h9;exact h9)⟩));(go_upto_region 2 with fail);rw[←HW3.o];go_wp2_with fail;refine kU.o.mono ?_;rintro e w5 ⟨rfl,w4,h4,h5⟩;have PS:Step (·=bo) w3 w5:=((((Step.refl (fun _=>False) _).alloc _).alloc _).mono fe|>.then h4 oi).then h5 oi;have Io:=au PS;obtain⟨⟨d0,d1,d2⟩,z0,z1,z2⟩:=Ar (PS.keep tJ.o om);clear h4 h5 PS g0 g1 g2;go_wp2_with fail;refine bodyPost_ret (v:=.agg #[ak ce,ak ln,ak col]) (by simp[results,Tryz.results81,go_sem,d0,d1,d2]) rfl ?_;rw[HOUT.o];refine⟨rfl,?_⟩;have hs3:Step (·=w.heap.size+1) w5 (((w5.setCell ⟨w.heap.size+1,0,none⟩ (.int .i64 ce)).setCell ⟨w.heap.size+1,1,none⟩ (.int .i64 ln)).setCell ⟨w.heap.size+1,2,none⟩ (.int .i64 col)):=(((Step.refl (·=w.heap.size+1) _).setCell _ _ iW).setCell _ _ iW).setCell _ _ iW;exact((fK.o.mono fe).trans Io.o).then hs3 oi
  |ok x j=>have HRO:=au (Z_ a l.length c 138 [.pointer (some ⟨w.heap.size,0,none⟩)] w3 (fun X=>Left (uZ w3 (.slice a l.length c)) X x∧Step (fun q=>q=w3.heap.size+1∨q=bo) (uZ w3 (.slice a l.length c)) X) BG (HCALL.o.mono fun e X hp=>⟨hp.1,hp.2.2.2.keep herr om,hp.2.1,(by have h9:=hp.2.2.2;rw[hrb]at h9;exact h9)⟩));(go_upto_region 2 with fail);rw[←HW3.o];go_wp2_with fail;refine HRO.o.mono ?_;rintro e w5 ⟨rfl,w4,⟨hleft,h4⟩,h5⟩;have PS:Step (·=bo) w3 w5:=((((Step.refl (fun _=>False) _).alloc _).alloc _).mono fe|>.then h4 oi).then h5 oi;have Io:=au PS;have IV:=au hleft;have oD:=au h5;obtain⟨⟨d0,d1,d2⟩,z0,z1,z2⟩:=Ar (PS.keep tJ.o om);clear h4 h5 PS g0 g1 g2 hleft;go_wp2_with fail;refine bodyPost_ret (v:=.agg #[ak 0,ak 0,ak 0]) (by simp[results,Tryz.results81,go_sem,d0,d1,d2]) rfl ?_;rw[HOUT.o];have hs3:Step (·=w.heap.size+1) w5 (((w5.setCell ⟨w.heap.size+1,0,none⟩ (.int .i64 0)).setCell ⟨w.heap.size+1,1,none⟩ (.int .i64 0)).setCell ⟨w.heap.size+1,2,none⟩ (.int .i64 0)):=(((Step.refl (·=w.heap.size+1) _).setCell _ _ iW).setCell _ _ iW).setCell _ _ iW;refine⟨rfl,⟨_,aad.size,HST.o _ w4 _ x aad.size ?_ IV.o⟩,((fK.o.mono fe).trans Io.o).then hs3 oi⟩;refine(oD.o.mono (fun q _ e=>⟨by omega,by omega⟩)).trans (hs3.mono (fun q _ e=>⟨by omega,by omega⟩))
section
variable {P : Program} {w : World}
theorem rf {fn:Func} {x y t2:Nat} (h:fn.results= #[.tmp x,.cell y t2]) (tmps:Array Value) (b2 tt2:Nat) (v:Value) (ds:List Value) (d2:TypeDesc) (hx:tmps.getD x undef=v) (hy:tmps.getD y undef=.pointer (some ⟨b2,0,none⟩)) (hb2:w.heap[b2]?=some (.cells ds.toArray tt2 (0,0))) (hu2:P.underlying t2=some d2) (hd2:d2.isRow=true) (hi2:(P.info? t2).map (·.size)=some ds.length):(results fn tmps).run P w=.ok (.tuple #[v,.agg ds.toArray]) w:=by have hl2:=run_loadVar_mid (P:=P) w b2 0 t2 ds d2 (fun j v hv=>by rw[Nat.zero_add];exact aj hb2 j v rF) hu2 hd2 hi2;rw[Array.getD_eq_getD_getElem?]at hx hy;simp[results,h,hx,hy,asAddr,hl2]
end
theorem Tryz.oQ:(Tryz.prog.info? 27).map (·.size)=some 3:=by kernel_rfl
def F7:Nat:=200000
theorem iL.code {α:Type} {N i:Nat} {r:dV α} (h:iL N i r) {c ln col:Nat} (e:r=.err c ln col):c≠0:=by subst e;exact h
section
variable {l : List Tok} (hl : oZ l)
include hl
theorem aae:∀(f i:Nat) (ls ts:List ByteArray),i<l.length→16*(l.length-i)+1≤f→Gd l.length i (lD f l i ls ts):=by
 intro f;induction f with
 |zero=>intro i ls ts hi hf;omega
 |succ f ih=>
  intro i ls ts hi hf;rw[lD];refine(nX hi).zH fun _ i2 h0 hi2=> ?_;refine Gd.bind ?_ fun p j h1 hj=> ?_
  ·split
   ·exact(BF hl hi2).bind fun x j _ hj=>iL.ok _ hj
   ·exact(iU hl hi2).bind fun x j _ hj=>iL.ok _ hj
  ·split
   ·rename_i h2;exact((ih (j+1) _ _ (dD hl hj h2) om).weak).from om
   ·exact((d_ hl hj).bind fun _ k _ hk=>iL.ok _ hk).weak
theorem PU (f i:Nat) (hi:i<l.length) (hf:16*(l.length-i)+1≤f):iL l.length i (jC f l i):=by
 unfold jC;split
 ·rename_i h;exact((aae hl f (i+1) _ _ (dD hl hi h) om).weak).from om
 ·exact iL.ok _ hi
theorem aaf:∀(f i d:Nat) (e:List UInt8) (m:Nat) (acc:List Pm),i<l.length→16*(l.length-i)+1≤f→Gd l.length i (oP f l i d e m acc):=by
 intro f;induction f with
 |zero=>intro i d e m acc hi hf;omega
 |succ f ih=>
  intro i d e m acc hi hf;rw[oP];refine(nX hi).zH fun _ i2 h0 hi2=> ?_;refine(iU hl hi2).bind fun n j h1 hj=> ?_;refine((d_ hl hj).bind fun _ j2 h2 hj2=> ?_).weak;refine(((KC hl f).typ j2 d hj2 om).bind fun ty k h3 hk=> ?_).weak;split
  ·rename_i h4;exact((ih (k+1) d e m _ (dD hl hk h4) om).weak).from om
  ·exact((d_ hl hk).bind fun _ q _ hq=>iL.ok _ hq).weak
theorem Dp (f i d:Nat) (e:List UInt8) (m:Nat) (hi:i<l.length) (hf:16*(l.length-i)+1≤f):Gd l.length i (dw f l i d e m):=by
 unfold dw;split
 ·rename_i h;exact⟨Nat.lt_succ_self i,dD hl hi h⟩
 ·exact aaf hl f i d e m [] hi hf
theorem WZ (f i d:Nat) (hi:i<l.length) (hf:16*(l.length-i)+1≤f):iL l.length i (iw f l i d):=by
 unfold iw;split
 ·rename_i h;exact(((KC hl f).typ (i+1) d (dD hl hi h) om).weak).from om
 ·exact iL.ok _ hi
theorem Ua:∀(f i:Nat) (p:Bool) (ts ls:List ByteArray),i<l.length→16*(l.length-i)+1≤f→Gd l.length i (gW f l i p ts ls):=by
 intro f;induction f with
 |zero=>intro i p ts ls hi hf;omega
 |succ f ih=>
  intro i p ts ls hi hf;rw[gW];refine(nX hi).zH fun _ i2 h0 hi2=> ?_;refine Gd.bind ?_ fun q j h1 hj=> ?_
  ·split
   ·exact(iU hl hi2).bind fun x j _ hj=>iL.ok _ hj
   ·exact(BF hl hi2).bind fun x j _ hj=>iL.ok _ hj
  ·split
   ·rename_i h2;exact((ih (j+1) p _ _ (dD hl hj h2) om).weak).from om
   ·exact iL.ok _ hj
theorem W9 (f i:Nat) (hi:i<l.length) (hf:16*(l.length-i)+1≤f):Gd l.length i (qN f l i):=by
 unfold qN;have ho:=KA hl hi;refine iL.zH ?_ fun p j h1 hj=>(d_ hl hj).bind fun _ k h2 hk=>((Ua hl f k p.2 [] [] hk om).bind fun q m _ hm=>iL.ok _ hm).weak;split
 ·exact(((iU hl ho.2).bind fun n j _ hj=>iL.ok _ hj).weak).from ho.1
 ·exact⟨ho.1,ho.2⟩
theorem Ub:∀(f i:Nat) (acc:List Bd),i<l.length→16*(l.length-i)+2≤f→Gd l.length i (lT f l i acc):=by
 intro f;induction f with
 |zero=>intro i acc hi hf;omega
 |succ f ih=>
  intro i acc hi hf;rw[lT];refine(nX hi).zH fun _ i2 h0 hi2=> ?_;refine(W9 hl f i2 hi2 om).bind fun b j h1 hj=> ?_;split
  ·rename_i h2;exact((ih (j+1) _ (dD hl hj h2) om).weak).from om
  ·exact iL.ok _ hj
theorem F8 (f i:Nat) (hi:i<l.length) (hf:16*(l.length-i)+1≤f):iL l.length i (bY f l i):=by
 unfold bY;split
 ·rename_i h;exact((Ub hl f (i+1) [] (dD hl hi h) om).weak).from om
 ·exact iL.ok _ hi
theorem aag (i:Nat) (hi:i<l.length):i≤(jT l i).2∧(jT l i).2<l.length:=by
 unfold jT;split
 ·rename_i h;have h1:=dD hl hi h;have h2:=KA hl h1;have h3:=F6 hl (s:=[109,117,116]) h2.2;exact⟨by show i≤jb l _ _;omega,h3.2⟩
 ·exact⟨Nat.le_refl _,hi⟩
theorem Uc (f i d:Nat) (body:Bool) (hi:i<l.length) (hf:16*(l.length-i)+1≤f):Gd l.length i (kN f l i d body):=by
 unfold kN;refine(d_ hl hi).bind fun _ j h1 hj=> ?_;refine((iU hl hj).bind fun n j2 h2 hj2=> ?_).weak;refine(PU hl f j2 hj2 om).bind fun g j3 h3 hj3=> ?_;refine iL.bind ?_ fun _ j4 h4 hj4=> ?_
 ·split
  ·exact Nat.succ_ne_zero _
  ·exact iL.ok _ hj3
 refine((d_ hl hj4).bind fun _ j5 h5 hj5=> ?_).weak;have hr:=aag hl j5 hj5;refine(((d_ hl hr.2).bind fun _ k h6 hk=> ?_).weak).from hr.1;refine iL.bind ?_ fun ps k2 h7 hk2=> ?_
 ·split
  ·rename_i h8;have h9:=dD hl hk h8;split
   ·exact Nat.succ_ne_zero _
   ·exact((Dp hl f (k+1) d [41] 8 h9 om).weak).from om
  ·exact((d_ hl hk).bind fun _ q _ hq=>iL.ok _ hq).weak
 refine(WZ hl f k2 d hk2 om).bind fun t k3 h8 hk3=> ?_;refine(F8 hl f k3 hk3 om).bind fun wh k4 h9 hk4=> ?_;refine iL.bind ?_ fun b k5 _ hk5=>iL.ok _ hk5;split
 ·exact((KC hl f).block k4 d hk4 om).weak
 ·exact((d_ hl hk4).bind fun _ q _ hq=>iL.ok _ hq).weak
theorem W_:∀(f i d:Nat) (body:Bool) (acc:List Mt),i<l.length→16*(l.length-i)+2≤f→Gd l.length i (kY f l i d body acc):=by
 intro f;induction f with
 |zero=>intro i d body acc hi hf;omega
 |succ f ih=>
  intro i d body acc hi hf;rw[kY];split
  ·rename_i h;exact⟨Nat.lt_succ_self i,dD hl hi h⟩
  ·refine(nX hi).zH fun _ i2 h0 hi2=> ?_;exact(Uc hl f i2 d body hi2 om).bind fun m j h1 hj=>(ih j d body _ hj om).weak
theorem F9 (f i d:Nat) (body:Bool) (hi:i<l.length) (hf:16*(l.length-i)+1≤f):Gd l.length i (dn f l i d body):=by unfold dn;exact(d_ hl hi).bind fun _ j h1 hj=>(W_ hl f j d body [] hj om).weak
theorem aah (i:Nat) (hi:i<l.length):Gd l.length i (jJ l i):=by
 unfold jJ;split
 ·rename_i h;exact⟨Nat.lt_succ_self i,dD hl hi h⟩
 ·split
  ·rename_i h;exact⟨Nat.lt_succ_self i,dD hl hi h⟩
  ·split
   ·rename_i h;exact⟨Nat.lt_succ_self i,dD hl hi h⟩
   ·exact iU hl hi
theorem aai (f i d:Nat) (hi:i<l.length) (hf:16*(l.length-i)+1≤f):Gd l.length i (jD f l i d):=by
 unfold jD;by_cases h1:bF l i [115,116,114,117,99,116]=true
 ·rw[if_pos h1];have h2:=dD hl hi h1;refine iL.strict ((iU hl h2).bind fun n j h3 hj=> ?_).weak (Nat.lt_succ_self i);refine(PU hl f j hj om).bind fun g j2 h4 hj2=> ?_;refine((d_ hl hj2).bind fun _ j3 h5 hj3=> ?_).weak;exact((Dp hl f j3 d [125] 12 hj3 om).bind fun fs j _ hj=>iL.ok _ hj).weak
 rw[if_neg h1];by_cases h1:bF l i [116,114,97,105,116]=true
 ·rw[if_pos h1];have h2:=dD hl hi h1;refine iL.strict ((iU hl h2).bind fun n j h3 hj=> ?_).weak (Nat.lt_succ_self i);exact((F9 hl f j d false hj om).bind fun fs j _ hj=>iL.ok _ hj).weak
 rw[if_neg h1];by_cases h1:bF l i [105,109,112,108]=true
 ·rw[if_pos h1];have h2:=dD hl hi h1;refine iL.strict ((iU hl h2).bind fun n j h3 hj=> ?_).weak (Nat.lt_succ_self i);refine((d_ hl hj).bind fun _ j2 h4 hj2=> ?_).weak;refine((aah hl j2 hj2).bind fun hd j3 h5 hj3=> ?_).weak;refine(F8 hl f j3 hj3 om).bind fun wh j4 h6 hj4=> ?_;exact((F9 hl f j4 d true hj4 om).bind fun fs j _ hj=>iL.ok _ hj).weak
 rw[if_neg h1];by_cases h1:bF l i [102,110]=true
 ·rw[if_pos h1];have h2:=dD hl hi h1;refine iL.strict ((iU hl h2).bind fun n j h3 hj=> ?_).weak (Nat.lt_succ_self i);refine(PU hl f j hj om).bind fun g j2 h4 hj2=> ?_;refine((d_ hl hj2).bind fun _ j3 h5 hj3=> ?_).weak;refine((Dp hl f j3 d [41] 8 hj3 om).bind fun fs j4 h6 hj4=> ?_).weak;refine(WZ hl f j4 d hj4 om).bind fun t j5 h7 hj5=> ?_;refine(F8 hl f j5 hj5 om).bind fun wh j6 h8 hj6=> ?_;exact(((KC hl f).block j6 d hj6 om).bind fun b j _ hj=>iL.ok _ hj).weak
 rw[if_neg h1];exact Nat.succ_ne_zero _
theorem Xa:∀(f i d:Nat) (acc:List It),i<l.length→16*(l.length-i)+2≤f→iL l.length i (kF f l i d acc):=by
 intro f;induction f with
 |zero=>intro i d acc hi hf;omega
 |succ f ih=>
  intro i d acc hi hf;rw[kF];split
  ·exact iL.ok _ hi
  ·refine(nX hi).bind fun _ i2 h0 hi2=> ?_;exact((aai hl f i2 d hi2 om).bind fun x j h1 hj=>ih j d _ hj om).weak
end
def wY (s:List UInt8):Except (Nat×Nat×Nat) (List It):=Il s fun l=>kF F7 l 0 0 []
theorem BH {s:List UInt8} {l:List Tok} (h:sS s=.ok l):iL l.length 0 (kF F7 l 0 0 []):=by obtain⟨hl,h0⟩:=F5 h;exact Xa hl F7 0 0 [] h0 (by have:=hl.len;unfold F7;omega)
def PV (X w':World) (a:List It) (cs:List Value):Prop:=∃v,cs=[v]∧ig lm w' (fun q=>X.heap.size≤q) a v
theorem Nr {X Y Z:World} {a:List It} {cs:List Value} {S:Nat→Prop} (hs:Step S Y Z) (hS:∀q,X.heap.size≤q→¬S q) (h:PV X Y a cs):PV X Z a cs:=by obtain⟨v,h1,h2⟩:=h;exact⟨v,h1,(bH aQ).step _ _ hs hS h2⟩
theorem BI:Enters 82:=fun xs w=>by go_simp
theorem Ns:Enters 42:=fun xs w=>by go_simp
def KE (bo:Nat) (X w':World) (a:List It):Prop:=∃cs:List Value,w'.heap[bo]?=some (.cells cs.toArray 22 (0,0))∧PV X w' a cs
theorem Nu (R:gJ) (bb bo:Nat) (r:dV (List It)) (w:World) (h:bI R w 0 0) (hbb:w.cell? ⟨bb,0,none⟩=some (.func (.func 42) #[] #[])) (hbo:w.heap[bo]?=some (.cells #[ay] 22 (0,0))) (h0:0<bo) (hne:bo≠R.rb) (hra:∀g o p,R.a=some ⟨g,o,p⟩→g≠bo) (hno:r≠.out) (hc:∀X:World,bI R X 0 0→Calls Tryz.prog 42 #[.agg #[eU R.rb 0]] X (aJ R 0 (ItsV X.heap.size) r X)):Calls Tryz.prog 82 #[.agg #[eU R.rb 0],.pointer (some ⟨bb,0,none⟩),.pointer (some ⟨bo,0,none⟩)] w (bg R 0 bo (KE bo w) r w):=by
 have hen:=Ns;unfold Enters at hen;obtain⟨w1,hw1⟩:=aN (w.alloc (.cells #[eU R.rb 0] 97));have dH:=nS hw1
 have kL:=nB hw1
 have HW1:=au hw1;have H1:=au (h.quiet dH.o);have p0:=aj kL.o 0 _ rfl;have b0:=dH.o.cell hbb (fun h=>h);have HBO:=au (dH.o.keep hbo (fun h=>h));have hbl:=aK hbo;have HC:=au (hc w1 H1.o);have eX:=au hno;clear h hno hw1 hbb hbo hc;go_enter Tryz.func82,Tryz.ntmps82;go_upto_region 1 with fail
 rw[←HW1.o];go_wp2_with fail;refine HC.o.mono ?_;rintro e wx hp;cases r with
 |out=>exact absurd rfl eX.o
 |err c ln col=>obtain⟨rfl,sq⟩:=hp;exact⟨rfl,rfl,((dH.o.mono fe).trans sq).mono il⟩
 |ok y jx=>obtain⟨⟨v,rfl,hy⟩,hrx,hsx⟩:=hp;obtain⟨va,vc,rfl⟩:=ig.parts hy;have HY:=au hy;have vX:=au hrx;have rQ:=au hsx;have Vj:=au (hsx.keep HBO.o hne);clear hy hrx hsx p0 b0;have ou:=aj Vj.o 0 _ rfl;have oz:=aI Vj.o 0;have fG:Hid (Step (·=bo) wx (wx.setCell ⟨bo,0,none⟩ (.slice va y.length vc))):=(Step.refl (·=bo) _).setCell _ _ iW;have DW:Hid ((wx.setCell ⟨bo,0,none⟩ (.slice va y.length vc)).heap[bo]?=some (.cells #[.slice va y.length vc] 22 (0,0))):=aW Vj.o 0 _;go_wp2_with fail;refine bodyPost_end (results_none rfl _ _ _) rfl ?_;have hz1:=dH.o.size;refine bg.dU rfl rfl ⟨[_],DW.o,_,rfl,(bH aQ).mono _ _ oi ((bH aQ).step _ _ fG.o oi HY.o)⟩ (vX.o.apart fG.o h0 hne hra) ?_;exact(((dH.o.mono fe).trans rQ.o).mono il).trans (fG.o.mono ir)
def QW (r:Except (Nat×Nat×Nat) (List It)) (w:World) (e:Ending) (w':World):Prop:=
 (match r with
  | .ok a=>∃v,e=.returned (.tuple #[v,.agg #[ak 0,ak 0,ak 0]])∧ig lm w' (fun q=>w.heap.size≤q) a v
  | .error (c,ln,col)=>e=.returned (.tuple #[ay,.agg #[ak c,ak ln,ak col]]))∧StF w w'
theorem PW (s:ByteArray) (w:World) (m:Int) (hm:w.cell? ⟨0,0,none⟩=some (.int .i64 m)):Calls Tryz.prog 41 #[.string s,.func (.func 42) #[] #[]] w (QW (wY s.data.toList) w):=by
 have hmf:∀(fn:Fn) (first cap:Array Value) (w:World),(Instr.makeFunc fn first cap).run Tryz.prog w=.ok (.func fn first cap) w:=fun _ _ _ _=>rfl;obtain⟨w1,hw1⟩:=aN (((w.alloc (.cells #[.func (.func 42) #[] #[]] 93)).alloc (.cells #[ak 0,ak 0,ak 0] 27)).alloc (.cells #[ay] 22));have dH:Hid (StF w w1):=by rw[hw1];exact(((bK.alloc _).alloc _).alloc _)
 have hpos:0<w.heap.size:=by
  rcases Nat.eq_zero_or_pos w.heap.size with h|h
  ·exact absurd hm (by simp[World.cell?,Array.getElem?_eq_none (show w.heap.size≤0 by omega)])
  ·exact h
 have HA0:Hid (w1.heap[w.heap.size]?=some (.cells #[.func (.func 42) #[] #[]] 93 (0,0))):=by rw[hw1];exact aP (aP ((show(w.alloc (.cells #[.func (.func 42) #[] #[]] 93)).heap[w.heap.size]?=some (.cells #[.func (.func 42) #[] #[]] 93 (0,0)) by have h:=aC w (.cells #[.func (.func 42) #[] #[]] 93);simpa using h)))
 have HA1:Hid (w1.heap[w.heap.size+1]?=some (.cells #[ak 0,ak 0,ak 0] 27 (0,0))):=by rw[hw1];exact aP ((show((w.alloc (.cells #[.func (.func 42) #[] #[]] 93)).alloc (.cells #[ak 0,ak 0,ak 0] 27)).heap[w.heap.size+1]?=some (.cells #[ak 0,ak 0,ak 0] 27 (0,0)) by have h:=aC (w.alloc (.cells #[.func (.func 42) #[] #[]] 93)) (.cells #[ak 0,ak 0,ak 0] 27);simpa using h))
 have HA2:Hid (w1.heap[w.heap.size+1+1]?=some (.cells #[ay] 22 (0,0))):=by rw[hw1];exact(show(((w.alloc (.cells #[.func (.func 42) #[] #[]] 93)).alloc (.cells #[ak 0,ak 0,ak 0] 27)).alloc (.cells #[ay] 22)).heap[w.heap.size+1+1]?=some (.cells #[ay] 22 (0,0)) by have h:=aC ((w.alloc (.cells #[.func (.func 42) #[] #[]] 93)).alloc (.cells #[ak 0,ak 0,ak 0] 27)) (.cells #[ay] 22);simpa using h)
 have HW1:=au hw1;have KD:=au (dH.o.cell hm (fun h=>h));have hn1:=aK HA2.o;have hsz:=dH.o.size
 have LP:=au (T_ s 82 [.pointer (some ⟨w.heap.size,0,none⟩),.pointer (some ⟨w.heap.size+1+1,0,none⟩)] (w.heap.size+1+1) (fun l=>kF F7 l 0 0 []) (KE (w.heap.size+1+1)) w1 m KD.o (aK HA2.o) BI (fun l hl=>(BH hl).ne)
  (fun X Y Z a h1 h2 h3=>by
   obtain⟨cs,c1,c2⟩:=h3
   exact⟨cs,h2.keep c1 (fun e=>by have:=aK HA2.o;omega),Nr h2 oi c2⟩)
  (fun R X hlx hl h hrb hra hs=>Nu R _ _ _ X h (aj (hs.keep HA0.o (fun h=>h)) 0 _ rfl) (hs.keep HA2.o (fun h=>h)) om (by have:=aK HA2.o;omega) (fun g o p e e2=>by have:=hra g o p e;have:=aK HA2.o;omega) ((BH hlx).ne) (fun X hX=>TT F7 (fun f' hf=>(WH f' (Nat.le_trans hf dc)).block) (fun f' _=>(JL f').1) R X 0 0 hl hX dc ((BH hlx).ne))))
 obtain⟨r,hr⟩:=aN (wY s.data.toList);have hrd:r=Il s.data.toList (fun l=>kF F7 l 0 0 []):=hr;have UO:Hid (∀c ln col,r=.error (c,ln,col)→c≠0):=by intro c ln col e;rw[hr]at e;exact Nq (fun l c ln col hl he=>(BH hl).code he) e
 rw[←hrd]at LP;rw[←hr];clear hm hw1 hr hrd;go_enter Tryz.func41,Tryz.ntmps41;go_upto_region 2 with fail
 rw[←HW1.o];go_wp2_with fail;refine LP.o.mono ?_;rintro e w2 hp;cases r with
 |error q=>
  obtain⟨c,ln,col⟩:=q;obtain⟨rfl,h2⟩:e=.returned (.agg #[ak c,ak ln,ak col])∧Step (·=w.heap.size+1+1) w1 w2:=hp;have hc0:=UO.o c ln col rfl;have bc:((c:Int)==0)=false:=by rw[beq_eq_false_iff_ne];omega
  obtain⟨w3,hw3⟩:=aN (w2.alloc (.cells #[ak c,ak ln,ak col] 27));have fK:Hid (Step (·=w.heap.size+1+1) w1 w3):=by rw[hw3];exact h2.alloc _
  have mY:=nB hw3
  have HW3:=au hw3;have HER:=au (fK.o.keep HA1.o om);obtain⟨be,hbe⟩:=aN w2.heap.size;have hbe1:w1.heap.size≤be:=by rw[hbe];exact h2.size
  rw[←hbe]at mY;obtain⟨⟨g0,g1,g2⟩,-⟩:=Ar mY.o;have JP:Hid (StF w w3):=dH.o.then fK.o oi;clear hc0 h2 hw3;go_upto_region 3 with fail
  rw[←HW3.o,←hbe];clear hbe;go_upto_region 4 with fail
  clear g0 g1 g2;obtain⟨Jx,hJx⟩:∃Jx:(Nat→Bool)→(Nat→Value)→World→Prop,Jx=fun L V X=>(L 0=true→V 0=.slice none 0 0)∧(L 1=true→V 1=.agg #[ak c,ak ln,ak col])∧(L 2=true→V 2=.slice none 0 0)∧X.heap[be]?=some (.cells #[ak c,ak ln,ak col] 27 (0,0))∧X.heap[w.heap.size+1]?=some (.cells (cond (L 3) #[.int .i64 c,.int .i64 ln,.int .i64 col] #[.int .i64 0,.int .i64 0,.int .i64 0]) 27 (0,0))∧StF w X:=⟨_,rfl⟩;have dB:=au hJx;clear hJx;refine bP kr Jx 4 rfl kr kr kr kr ?h0 ?hs ?hdone;case h0=>rw[dB.o];exact⟨gQ,gQ,gQ,Aq mY.o,Aq HER.o,JP.o.drew⟩
  case hs=>
   refine⟨?_,?_,?_,?_,trivial⟩
   all_goals (intro L V X a ev dG hdf hL ax hJ;rw[dB.o]at hJ)
   ·obtain⟨j0,j1,j2,j4,j5,j6⟩:=hJ;have o7:=dG 7 rfl;change a.tmps[7]?.getD undef=.slice none 0 0 at o7;go_simp;exact⟨_,rfl,by rw[dB.o];exact⟨fun _=>rfl,j1,j2,j4,j5,j6⟩⟩
   ·obtain⟨j0,j1,j2,j4,j5,j6⟩:=hJ;have o8:=dG 8 rfl;change a.tmps[8]?.getD undef=.pointer (some ⟨be,0,none⟩)at o8;refine wp_load_mid 27 (.tmp 8) rfl be 0 (by rw[bM];exact o8) [Value.int .i64 c,ak ln,ak col] _ (fun jj v hv=>by rw[Nat.zero_add];exact aj j4 jj v rF) Tryz.underlying27 rfl Tryz.oQ ?_;exact⟨_,rfl,by rw[dB.o];exact⟨j0,fun _=>rfl,j2,j4,j5,j6⟩⟩
   ·obtain⟨j0,j1,j2,j4,j5,j6⟩:=hJ;have e15:=(ev 0 15 rfl (ax 0 rfl)).trans (j0 (ax 0 rfl));go_simp;exact⟨_,rfl,by rw[dB.o];exact⟨j0,j1,fun _=>rfl,j4,j5,j6⟩⟩
   ·obtain⟨j0,j1,j2,j4,j5,j6⟩:=hJ;rw[hL]at j5;have o5:=dG 5 rfl;change a.tmps[5]?.getD undef=.pointer (some ⟨w.heap.size+1,0,none⟩)at o5;have e16:=(ev 1 16 rfl (ax 1 rfl)).trans (j1 (ax 1 rfl));refine eH 27 (.tmp 5) (.tmp 16) rfl (w.heap.size+1) 0 27 _ [.int .i64 c,.int .i64 ln,.int .i64 col] (by rw[bM];exact o5) (by rw[bM];exact e16) j5 Tryz.oQ (Nat.le_of_eq rfl) (aU rfl) ?_;intro w9 iJ hs9;exact⟨undef,rfl,by rw[dB.o];exact⟨j0,j1,j2,hs9.keep j4 om,iJ,j6.then hs9 oi⟩⟩
  case hdone=>intro L V X hall hJ;rw[dB.o]at hJ;obtain⟨j0,j1,j2,j4,j5,j6⟩:=hJ;rw[hall 3 dc]at j5;have h2v:=j2 (hall 2 dc);have HD5:Hid (X.heap[w.heap.size+1]?=some (.cells [Value.int .i64 c,ak ln,ak col].toArray 27 (0,0))):=j5;have HD6:=au j6;rw[show List.range 4=[0,1,2,3] from rfl];simp only[kJ,fO,List.getElem?_toArray,List.getElem?_cons_zero,List.getElem?_cons_succ,Option.bind_some,Act.put,List.setIfInBounds_toArray,List.set_cons_zero,List.set_cons_succ,h2v];clear hall j0 j1 j2 j4 j5 j6 h2v;go_wp2_with fail;refine bodyPost_ret (rf rfl _ (w.heap.size+1) 27 (.slice none 0 0) [Value.int .i64 c,ak ln,ak col] _ rfl rfl HD5.o Tryz.underlying27 rfl Tryz.oQ) rfl ?_;exact⟨rfl,HD6.o⟩
 |ok y=>
  obtain⟨rfl,⟨X0,hX0,hleft⟩,h2⟩:e=.returned (.agg #[ak 0,ak 0,ak 0])∧(∃X:World,w1.heap.size≤X.heap.size∧KE (w.heap.size+1+1) X w2 y)∧Step (·=w.heap.size+1+1) w1 w2:=hp;obtain⟨w3,hw3⟩:=aN (w2.alloc (.cells #[ak 0,ak 0,ak 0] 27));have jv:=nS hw3
  have fK:Hid (Step (·=w.heap.size+1+1) w1 w3):=by rw[hw3];exact h2.alloc _
  have mY:=nB hw3
  have HW3:=au hw3;have HER:=au (fK.o.keep HA1.o om);obtain⟨be,hbe⟩:=aN w2.heap.size;rw[←hbe]at mY;obtain⟨⟨g0,g1,g2⟩,-⟩:=Ar mY.o;have JP:Hid (StF w w3):=dH.o.then fK.o oi;clear h2 hw3;obtain⟨cs,hcb,v,rfl,hat⟩:=hleft;obtain⟨va,vc,rfl⟩:=ig.parts hat;have HAT:=au ((bH aQ).step _ _ jv.o (fun _ _ h=>h) hat);have Em:=au (jv.o.keep hcb (fun h=>h));clear hat hcb;go_upto_region 3 with fail
  rw[←HW3.o,←hbe];clear hbe;go_upto_region 5 with fail
  clear g0 g1 g2;have q0:=aj Em.o 0 _ rfl
  go_wp2_with (refine aG (w:=w3) rfl 27 (.tmp 5) (.tmp 18) rfl (w.heap.size+1) 0 27 _ [Value.int .i64 0,ak 0,ak 0] rfl rfl HER.o Tryz.oQ (Nat.le_of_eq rfl) (aU rfl) ?_
               intro w5 hb5 hst5)
  have JH:w5.heap[w.heap.size+1]?=some (.cells [Value.int .i64 0,ak 0,ak 0].toArray 27 (0,0)):=hb5;refine bodyPost_ret (rf rfl _ (w.heap.size+1) 27 (.slice va y.length vc) [Value.int .i64 0,ak 0,ak 0] _ rfl rfl JH Tryz.underlying27 rfl Tryz.oQ) rfl ?_;exact⟨⟨_,rfl,(bH aQ).mono _ _ oi ((bH aQ).step _ _ hst5 oi HAT.o)⟩,JP.o.then hst5 oi⟩
theorem Ud (s:ByteArray) (w:World) (m:Int) (hm:w.cell? ⟨0,0,none⟩=some (.int .i64 m)):Calls Tryz.prog 10 #[.string s] w (QW (wY s.data.toList) w):=by
 obtain⟨w1,hw1⟩:=aN (w.alloc (.cells #[ak 0,ak 0,ak 0] 27));have dH:=nS hw1
 have kT:=nB hw1
 have HW1:=au hw1;have LP:=au (PW s w1 m (dH.o.cell hm (fun h=>h)));have hn1:=aK kT.o;have hsz:=dH.o.size;obtain⟨r,hr⟩:=aN (wY s.data.toList);rw[←hr]at LP⊢;clear hm hw1 hr;go_enter Tryz.func10,Tryz.ntmps10;go_upto_region 1 with fail
 rw[←HW1.o];go_wp2_with fail;refine LP.o.mono ?_;rintro e w2 ⟨hp,h2⟩;have HS2:=au h2;have HER:=au (h2.keep kT.o (fun h=>h));have hz2:=h2.size;cases r with
 |error q=>
  obtain⟨c,ln,col⟩:=q;have hp2:e=.returned (.tuple #[ay,.agg #[ak c,ak ln,ak col]]):=hp;subst hp2;clear hp h2
  go_wp2_with (refine aG (w:=w2) rfl 27 (.tmp 3) (.tmp 7) rfl (w.heap.size) 0 27 _ [.int .i64 c,.int .i64 ln,.int .i64 col] rfl rfl HER.o Tryz.oQ (Nat.le_of_eq rfl) (aU rfl) ?_
               intro w5 hb5 hst5)
  have JH:w5.heap[w.heap.size]?=some (.cells [Value.int .i64 c,ak ln,ak col].toArray 27 (0,0)):=hb5;refine bodyPost_ret (rf rfl _ (w.heap.size) 27 (.slice none 0 0) [Value.int .i64 c,ak ln,ak col] _ rfl rfl JH Tryz.underlying27 rfl Tryz.oQ) rfl ?_;exact⟨rfl,(dH.o.trans HS2.o).then hst5 oi⟩
 |ok x=>
  obtain⟨v,rfl,hy⟩:∃v,e=.returned (.tuple #[v,.agg #[ak 0,ak 0,ak 0]])∧ig lm w2 (fun q=>w1.heap.size≤q) x v:=hp;obtain⟨va,vc,rfl⟩:=ig.parts hy;have HY:=au hy;clear hy h2
  go_wp2_with (refine aG (w:=w2) rfl 27 (.tmp 3) (.tmp 7) rfl (w.heap.size) 0 27 _ [.int .i64 0,.int .i64 0,.int .i64 0] rfl rfl HER.o Tryz.oQ (Nat.le_of_eq rfl) (aU rfl) ?_
               intro w5 hb5 hst5)
  have JH:w5.heap[w.heap.size]?=some (.cells [Value.int .i64 0,ak 0,ak 0].toArray 27 (0,0)):=hb5;refine bodyPost_ret (rf rfl _ (w.heap.size) 27 (.slice va x.length vc) [Value.int .i64 0,ak 0,ak 0] _ rfl rfl JH Tryz.underlying27 rfl Tryz.oQ) rfl ?_;exact⟨⟨_,rfl,(bH aQ).mono _ _ oi ((bH aQ).step _ _ hst5 oi HY.o)⟩,(dH.o.trans HS2.o).then hst5 oi⟩
section
variable {P : Program} {w : World}
theorem fM {ops:Array Oper} {rest:List Oper} {op:Oper} {a:Act} {Q:Exit→Act→World→Prop} (hgd:op.guard=none) (ty:TypeId) (x y:Operand) (ho:op.op=.store ty x y) (b t:Nat) (c:Array Value) (vs:List Value) (hx:a.eval x=.pointer (some ⟨b,0,none⟩)) (hy:a.eval y=.agg vs.toArray) (hb:w.heap[b]?=some (.cells c t (0,0))) (hi:(P.info? ty).map (·.size)=some vs.length) (hc:vs.length=c.size) (h1:∀v∈vs,v.oneCell'=true) (h:∀w',w'.heap[b]?=some (.cells vs.toArray t (0,0))→Step (·=b) w w'→wpList P ops Q rest (a.put op.dst undef) w'):wpList P ops Q (op::rest) a w:=by refine aG hgd ty x y ho b 0 t c vs hx hy hb hi om h1 (fun w' hb' hs=>h w' ?_ hs);rw[hb',List.drop_eq_nil_of_le (by rw[Nat.zero_add,Array.length_toList];omega),List.append_nil];rfl
theorem gI {fn:Func} {x y t:Nat} (h:fn.results= #[.cell x t,.tmp y]) (tmps:Array Value) (b tt:Nat) (cs:List Value) (v:Value) (d:TypeDesc) (hx:tmps.getD x undef=.pointer (some ⟨b,0,none⟩)) (hy:tmps.getD y undef=v) (hb:w.heap[b]?=some (.cells cs.toArray tt (0,0))) (hu:P.underlying t=some d) (hd:d.isRow=true) (hi:(P.info? t).map (·.size)=some cs.length):(results fn tmps).run P w=.ok (.tuple #[.agg cs.toArray,v]) w:=by have hl:=run_loadVar_mid w b 0 t cs d (fun j v hv=>by rw[Nat.zero_add];exact aj hb j v rF) hu hd hi;rw[Array.getD_eq_getD_getElem?]at hx hy;simp[results,h,hx,hy,asAddr,hl]
end
abbrev UQ:List Value:=[.int .i64 0,.string ⟨#[]⟩,.string ⟨#[]⟩,.slice none 0 0,.slice none 0 0,.slice none 0 0,.int .i64 0,.string ⟨#[]⟩,.string ⟨#[]⟩,.bool false,.slice none 0 0,.slice none 0 0,.int .i64 0,.int .i64 0,.slice none 0 0,.slice none 0 0,.slice none 0 0,.int .i64 0,.int .i64 0]
theorem itZ_at (w:World) (P:Nat→Prop):lm w P qZ UQ:=
 ⟨[.int .i64 0,.string ⟨#[]⟩,.string ⟨#[]⟩,.bool false,.slice none 0 0,.slice none 0 0,.int .i64 0,.int .i64 0],_,_,_,_,_,_,rfl,by decide,by decide,bV.nil _ _,bV.nil _ _,ig.nil _ _,rY _ _,ig.nil _ _,ig.nil _ _,gX.nil _ _⟩
def GetPost (P:Nat→Prop) (T:Tab) (m:ByteArray→Option Nat) (s:ByteArray) (w:World) (e:Ending) (w':World):Prop:=
 (∃cs:List Value,e=.returned (.tuple #[.agg cs.toArray,dW (m s).isSome])∧lm w' P ((T.get m s).getD qZ) cs)∧StF w w'
theorem Dq {IM:World→Nat→(ByteArray→ByteArray→Option Nat)→Prop} (him:x_ IM) (tb:Nat) (T:Tab) (P:Nat→Prop) (m:ByteArray→Option Nat) (b:Nat) (s:ByteArray) (w:World) (hT:TabAt IM tb T w P) (hM:Ej w b m) (hm:∀i,m s=some i→i<T.items.length) (hs:s.size≤9223372036854775807) (hP:∀k,P k→k<w.heap.size):Calls Tryz.prog 73 #[.pointer (some ⟨tb,0,none⟩),.map (some b),.string s] w (GetPost P T m s w):=by
 obtain⟨w1,hw1⟩:=aN (w.alloc (.cells UQ.toArray 51));have HST:=nS hw1
 have HB1:=nB hw1
 have HW1:=au hw1;have HT:=au ((sJ him tb T).step HST.o (fun _ _ h=>h) hT);have hlook:=(hM.step HST.o (fun h=>h)).look s hs;obtain⟨r,hr⟩:=aN (m s);have HR:=au hr;rw[←hr]at hm hlook;have HM:=au hm;have hlt:=aK HB1.o;have HP:=au hP;have HPO:Hid (∀(cs:List Value) (X:World),lm w1 P ((r.bind fun i=>T.items[i]?).getD qZ) cs→Step (·=w.heap.size) w1 X→GetPost P T m s w (.returned (.tuple #[.agg cs.toArray,dW r.isSome])) X):=by intro cs X h1 h2;refine⟨⟨cs,by rw[hr],?_⟩,HST.o.then h2 (fun i hi e=>by omega)⟩;rw[Tab.get,←hr];exact aQ.step _ _ h2 (fun k hk e=>by have:=HP.o k hk;omega) h1
 clear hw1 hT hM hm hr hP;go_enter Tryz.func73,Tryz.ntmps73;go_upto_region 1 with fail
 rw[←HW1.o];cases r with
 |none=>go_wp2_with (refine fM rfl 51 (.tmp 6) (.tmp 18) rfl w.heap.size 51 _ UQ rfl rfl HB1.o Tryz.dI rfl (aU rfl) ?_;intro wR hbR bW);refine bodyPost_ret (gI rfl _ w.heap.size 51 UQ _ _ rfl rfl hbR Tryz.underlying51 rfl Tryz.dI) rfl ?_;exact HPO.o UQ wR (itZ_at _ _) bW
 |some i=>
  obtain⟨vi,ms,mt,mf,mi,h1,⟨xs,⟨a,c,rfl,hcl,hcm,-,hrow⟩,hls⟩,-⟩:=HT.o.ex;have hil:=HM.o i rfl;obtain⟨x,hx⟩:∃x,T.items[i]?=some x:=⟨T.items[i],List.getElem?_eq_getElem hil⟩;obtain⟨g,o,rfl,hg,hgw,hcell⟩:=hrow om;obtain⟨cs,hat,hget⟩:=oG.get aQ i hls hx;have iD:Hid (∀(jj:Nat) v,cs[jj]?=some v→w1.cell? ⟨g,o+i*19+jj,none⟩=some v):=by intro jj v hv;rw[Nat.add_assoc];exact hcell _ _ (hget jj v hv)
  have HX:Hid (((some i).bind fun i=>T.items[i]?).getD qZ=x):=by show _=_;rw[Option.bind_some,hx];rfl
  have HAT:=au hat;have lq:Hid ((Tryz.prog.info? 51).map (·.size)=some cs.length):=by rw[aQ.len _ _ hat];exact Tryz.dI
  have wG:=au (aQ.len _ _ hat);have t0:=aj h1 0 _ rfl;clear hrow hls hx hcell hget hat h1;go_wp2_with (first
   |(refine aA rfl 51 (.tmp 24) rfl g (o+i*19) rfl cs _ iD.o Tryz.underlying51 rfl lq.o ?_)
   |(refine fM rfl 51 (.tmp 6) (.tmp 25) rfl w.heap.size 51 _ cs rfl rfl HB1.o lq.o (by rw[wG.o];rfl) (aQ.one _ _ HAT.o) ?_;intro wR hbR bW))
  refine bodyPost_ret (gI rfl _ w.heap.size 51 cs _ _ rfl rfl hbR Tryz.underlying51 rfl lq.o) rfl ?_;exact HPO.o cs wR (by rw[HX.o];exact HAT.o) bW
theorem KF {IM:World→Nat→(ByteArray→ByteArray→Option Nat)→Prop} (him:x_ IM) (tb:Nat) (T:Tab) (P:Nat→Prop) (s:ByteArray) (w:World) (hT:TabAt IM tb T w P) (hs:s.size≤9223372036854775807) (hP:∀k,P k→k<w.heap.size):Calls Tryz.prog 25 #[.pointer (some ⟨tb,0,none⟩),.string s] w (GetPost P T T.st s w):=by
 obtain⟨w1,hw1⟩:=aN (w.alloc (.cells UQ.toArray 51));have HST:=nS hw1
 have HB1:=nB hw1
 have HW1:=au hw1;have ht:=(sJ him tb T).step HST.o (fun _ _ h=>h) hT;obtain⟨vi,ms,mt,mf,mi,h1,h2,h3,h4,h5,h6⟩:=ht.ex;have HIT:=au (Dq him tb T P T.st ms s w1 ht h3.2 (fun i hi=>hT.st s i hi) hs (fun k hk=>Nat.lt_of_lt_of_le (hP k hk) HST.o.size));have t1:=aj h1 1 _ rfl;have HP:=au hP;clear hw1 hT ht h1 h2 h3 h4 h5 h6 hP;go_enter Tryz.func25,Tryz.ntmps25;go_upto_region 1 with fail
 rw[←HW1.o];go_wp2_with fail;refine HIT.o.mono ?_;rintro e w2 ⟨⟨cs,rfl,hat⟩,h2⟩;have HB2:=au (h2.keep HB1.o (fun h=>h));have qx:=au (HST.o.trans h2);have HAT:=au hat;have lq:Hid ((Tryz.prog.info? 51).map (·.size)=some cs.length):=by rw[aQ.len _ _ hat];exact Tryz.dI
 have wG:=au (aQ.len _ _ hat);clear h2 hat t1;go_wp2_with (refine fM rfl 51 (.tmp 4) (.tmp 16) rfl w.heap.size 51 _ cs rfl rfl HB2.o lq.o (by rw[wG.o];rfl) (aQ.one _ _ HAT.o) ?_;intro wR hbR bW);refine bodyPost_ret (gI rfl _ w.heap.size 51 cs _ _ rfl rfl hbR Tryz.underlying51 rfl lq.o) rfl ?_;exact⟨⟨cs,rfl,aQ.step _ _ bW (fun k hk e=>by have:=HP.o k hk;omega) HAT.o⟩,qx.o.then bW (fun i hi e=>by omega)⟩
theorem aaj {IM:World→Nat→(ByteArray→ByteArray→Option Nat)→Prop} (him:x_ IM) (tb:Nat) (T:Tab) (P:Nat→Prop) (s:ByteArray) (w:World) (hT:TabAt IM tb T w P) (hs:s.size≤9223372036854775807) (hP:∀k,P k→k<w.heap.size):Calls Tryz.prog 26 #[.pointer (some ⟨tb,0,none⟩),.string s] w (GetPost P T T.tr s w):=by
 obtain⟨w1,hw1⟩:=aN (w.alloc (.cells UQ.toArray 51));have HST:=nS hw1
 have HB1:=nB hw1
 have HW1:=au hw1;have ht:=(sJ him tb T).step HST.o (fun _ _ h=>h) hT;obtain⟨vi,ms,mt,mf,mi,h1,h2,h3,h4,h5,h6⟩:=ht.ex;have HIT:=au (Dq him tb T P T.tr mt s w1 ht h4.2 (fun i hi=>hT.tr s i hi) hs (fun k hk=>Nat.lt_of_lt_of_le (hP k hk) HST.o.size));have t1:=aj h1 2 _ rfl;have HP:=au hP;clear hw1 hT ht h1 h2 h3 h4 h5 h6 hP;go_enter Tryz.func26,Tryz.ntmps26;go_upto_region 1 with fail
 rw[←HW1.o];go_wp2_with fail;refine HIT.o.mono ?_;rintro e w2 ⟨⟨cs,rfl,hat⟩,h2⟩;have HB2:=au (h2.keep HB1.o (fun h=>h));have qx:=au (HST.o.trans h2);have HAT:=au hat;have lq:Hid ((Tryz.prog.info? 51).map (·.size)=some cs.length):=by rw[aQ.len _ _ hat];exact Tryz.dI
 have wG:=au (aQ.len _ _ hat);clear h2 hat t1;go_wp2_with (refine fM rfl 51 (.tmp 4) (.tmp 16) rfl w.heap.size 51 _ cs rfl rfl HB2.o lq.o (by rw[wG.o];rfl) (aQ.one _ _ HAT.o) ?_;intro wR hbR bW);refine bodyPost_ret (gI rfl _ w.heap.size 51 cs _ _ rfl rfl hbR Tryz.underlying51 rfl lq.o) rfl ?_;exact⟨⟨cs,rfl,aQ.step _ _ bW (fun k hk e=>by have:=HP.o k hk;omega) HAT.o⟩,qx.o.then bW (fun i hi e=>by omega)⟩
def lJ (s:ByteArray):Bool:=eqS s ⟨#[105,110,116]⟩||(eqS s ⟨#[98,111,111,108]⟩||eqS s ⟨#[102,54,52]⟩)
theorem PY (s:ByteArray) (w:World):Calls Tryz.prog 33 #[.string s] w fun e w'=>e=.returned (.bool (lJ s))∧w=w':=by
 have HQ:Hid (lJ s=(eqS s ⟨#[105,110,116]⟩||(eqS s ⟨#[98,111,111,108]⟩||eqS s ⟨#[102,54,52]⟩))):=rfl;obtain⟨r,hr⟩:=aN (lJ s);rw[←hr]at HQ⊢;clear hr;go_enter Tryz.func33,Tryz.ntmps33;cases h1:(s.toList==[105,110,116])with
 |true=>
  have HR:Hid (r=true):=by show _=_;rw[HQ.o,show eqS s ⟨#[105,110,116]⟩=true from mg h1];rfl
  go_wp2_with fail;go_ret;exact⟨bD HR.o.symm,rfl⟩
 |false=>
  cases h2:(s.toList==[98,111,111,108])with
  |true=>(have HR:Hid (r=true):=by show _=_;rw[HQ.o,show eqS s ⟨#[98,111,111,108]⟩=true from mg h2,Bool.true_or,Bool.or_true]);go_wp2_with fail;go_ret;exact⟨bD HR.o.symm,rfl⟩
  |false=>
   (have HR:Hid (r=eqS s ⟨#[102,54,52]⟩):=by show _=_;rw[HQ.o,show eqS s ⟨#[105,110,116]⟩=false from mg h1,show eqS s ⟨#[98,111,111,108]⟩=false from mg h2];rfl);cases h3:(s.toList==[102,54,52])with
   |true=>have HR3:Hid (r=true):=HR.o.trans (mg h3);go_wp2_with fail;go_ret;exact⟨bD HR3.o.symm,rfl⟩
   |false=>have HR3:Hid (r=false):=HR.o.trans (mg h3);go_wp2_with fail;go_ret;exact⟨bD HR3.o.symm,rfl⟩
def QX (w:World) (P:Nat→Prop) (g:Gn) (x:Value):Prop:=∃(a1:Option Addr) (c1:Nat) (a2:Option Addr) (c2:Nat),x=.agg #[.slice a1 g.aB.length c1,.slice a2 g.types.length c2]∧bV w P g.aB (.slice a1 g.aB.length c1)∧bV w P g.types (.slice a2 g.types.length c2)
theorem F_:y_ QX:=⟨fun _ _ hs hP ⟨a1,c1,a2,c2,h,h1,h2⟩=>⟨a1,c1,a2,c2,h,aX.step _ _ hs hP h1,aX.step _ _ hs hP h2⟩,fun _ _ hp ⟨a1,c1,a2,c2,h,h1,h2⟩=>⟨a1,c1,a2,c2,h,aX.mono _ _ hp h1,aX.mono _ _ hp h2⟩⟩
def Tab.of (T:Tab) (s:ByteArray):Gn:=if lJ s then jW else((T.get T.st s).getD qZ).gen
def Xb (P:Nat→Prop) (T:Tab) (s:ByteArray) (w:World) (e:Ending) (w':World):Prop:=
 (∃x:Value,e=.returned (.tuple #[x,dW (lJ s||(T.st s).isSome)])∧QX w' P (T.of s) x)∧StF w w'
theorem aak {IM:World→Nat→(ByteArray→ByteArray→Option Nat)→Prop} (him:x_ IM) (tb:Nat) (T:Tab) (P:Nat→Prop) (s:ByteArray) (w:World) (hT:TabAt IM tb T w P) (hs:s.size≤9223372036854775807) (hP:∀k,P k→k<w.heap.size):Calls Tryz.prog 29 #[.pointer (some ⟨tb,0,none⟩),.string s] w (Xb P T s w):=by
 obtain⟨w1,hw1⟩:=aN (w.alloc (.cells #[ay,ay] 42));have HST:=nS hw1
 have HB1:=nB hw1
 have HW1:=au hw1;have HIT:=au (KF him tb T P s w1 ((sJ him tb T).step HST.o (fun _ _ h=>h) hT) hs (fun k hk=>Nat.lt_of_lt_of_le (hP k hk) HST.o.size));have YI:=au (PY s w1);have HP:=au hP;obtain⟨g,hg⟩:=aN (T.of s);have HG:Hid (g=if lJ s then jW else((T.get T.st s).getD qZ).gen):=hg;have HOP:Hid (∀(x:Value) (b:Bool) (X:World),b=(lJ s||(T.st s).isSome)→QX X P g x→Step (·=w.heap.size) w1 X→Xb P T s w (.returned (.tuple #[x,dW b])) X):=fun x b X h1 h2 h3=>⟨⟨x,by rw[h1],hg▸h2⟩,HST.o.then h3 (fun i hi e=>by omega)⟩
 obtain⟨pl,hpl⟩:=aN (lJ s);rw[←hpl]at YI HG HOP;have hlt1:=aK HB1.o;clear hw1 hT hP hg hpl;go_enter Tryz.func29,Tryz.ntmps29;go_upto_region 1 with fail
 rw[←HW1.o];go_wp2_with fail;refine YI.o.mono ?_;rintro e w2 ⟨rfl,rfl⟩;cases pl with
 |true=>go_wp2_with (refine fM rfl 42 (.tmp 4) (.tmp 10) rfl w.heap.size 42 _ [.slice none 0 0,.slice none 0 0] rfl rfl HB1.o Tryz.iT rfl (aU rfl) ?_;intro wR hbR bW);refine bodyPost_ret (gI rfl _ w.heap.size 42 [.slice none 0 0,.slice none 0 0] _ _ rfl rfl hbR Tryz.underlying42 rfl Tryz.iT) rfl ?_;exact HOP.o _ _ wR rfl (by rw[HG.o];exact⟨_,_,_,_,rfl,bV.nil _ _,bV.nil _ _⟩) bW
 |false=>
  go_wp2_with fail;refine HIT.o.mono ?_;rintro e w3 ⟨⟨cs,rfl,hat⟩,h2⟩;obtain⟨it,hit⟩:=aN ((T.get T.st s).getD qZ);rw[←hit]at HG hat;have HAT:=au hat;have lq:Hid ((Tryz.prog.info? 51).map (·.size)=some cs.length):=by rw[aQ.len _ _ hat];exact Tryz.dI
  have wG:=au (aQ.len _ _ hat);obtain⟨w4,hw4⟩:=aN (w3.alloc (.cells cs.toArray 51));have gq:Hid (StF w1 w4):=by rw[hw4];exact h2.alloc _
  have HB4:=nB hw4
  have l_:Hid (Step (fun q=>q=w.heap.size) w3 w4):=by rw[hw4];exact bK.alloc _
  have HB2:=au (gq.o.keep HB1.o (fun h=>h));have O8:=au hw4;obtain⟨a1,c1,a2,c2,hc3,hc4,hl,ht⟩:∃(a1:Option Addr) (c1:Nat) (a2:Option Addr) (c2:Nat),cs[3]?=some (.slice a1 it.gen.aB.length c1)∧cs[4]?=some (.slice a2 it.gen.types.length c2)∧bV w3 P it.gen.aB (.slice a1 it.gen.aB.length c1)∧bV w3 P it.gen.types (.slice a2 it.gen.types.length c2):=by obtain⟨ct,vl,vt,vf,vw,vm,vb,rfl,-,-,hl,ht,-⟩:=hat;obtain⟨al,cl,rfl⟩:=hl.2.parts;obtain⟨at',yj,rfl⟩:=ht.2.parts;exact⟨_,_,_,_,rfl,rfl,hl,ht⟩
  have iD:Hid (∀(jj:Nat) v,[Value.slice a1 it.gen.aB.length c1,.slice a2 it.gen.types.length c2][jj]?=some v→w4.cell? ⟨w3.heap.size,3+jj,none⟩=some v):=by
   show∀jj v,_;intro jj v hv;refine aj HB4.o _ _ ?_;rw[List.getElem?_toArray]
   match jj,hv with
   |0,hv=>rw[←hv];exact hc3
   |1,hv=>rw[←hv];exact hc4
   |_+2,hv=>simp at hv
  have HGW:Hid (QX w3 P it.gen (.agg #[.slice a1 it.gen.aB.length c1,.slice a2 it.gen.types.length c2])):=⟨_,_,_,_,rfl,hl,ht⟩;have hlt3:=h2.size;clear h2 hat hl ht hw4 hit;go_wp2_with (first
   |(refine bT rfl 51 (.tmp 6) (.tmp 15) rfl _ cs rfl rfl lq.o (by rw[wG.o];rfl) (aQ.one _ _ HAT.o) ?_;rw[←O8.o])
   |(refine aA rfl 42 (.tmp 17) rfl w3.heap.size 3 rfl [.slice a1 it.gen.aB.length c1,.slice a2 it.gen.types.length c2] _ iD.o Tryz.underlying42 rfl Tryz.iT ?_)
   |(refine fM rfl 42 (.tmp 4) (.tmp 18) rfl w.heap.size 42 _ [.slice a1 it.gen.aB.length c1,.slice a2 it.gen.types.length c2] rfl rfl HB2.o Tryz.iT rfl (aU rfl) ?_;intro wR hbR bW))
  refine bodyPost_ret (gI rfl _ w.heap.size 42 [.slice a1 it.gen.aB.length c1,.slice a2 it.gen.types.length c2] _ _ rfl rfl hbR Tryz.underlying42 rfl Tryz.iT) rfl ?_;exact HOP.o _ _ wR rfl (by rw[HG.o];exact F_.step _ _ (l_.o.then bW (fun i hi e=>e)) (fun k hk e=>by have:=HP.o k hk;omega) HGW.o) ((gq.o.mono fe).trans bW)
def KG (w:World) (P:Nat→Prop) (l:List Ty) (v:Value):Prop:=∃xs:List Value,cu w P v l.length xs∧gy w P l xs
theorem oU:y_ KG:=⟨fun _ _ hs hP ⟨xs,h1,h2⟩=>⟨xs,h1.step hs hP,gy.step hs hP _ xs h2⟩,fun _ _ hp ⟨xs,h1,h2⟩=>⟨xs,h1.mono hp,gy.mono hp _ xs h2⟩⟩
theorem KG.parts {w:World} {P:Nat→Prop} {l:List Ty} {v:Value} (h:KG w P l v):∃(a:Option Addr) (c:Nat),v=.slice a l.length c:=by obtain⟨_,h,-⟩:=h;exact h.parts
def Dt (T:Tab) (s:Sc) (n:ByteArray) (nl na:Nat) (ln cl:Int):List Er:=
 if s.types.any (eqS n)then(if 0<nl+na then[(5,ln,cl)]else[])
 else match T.get T.st n with
  |none=>[(3,ln,cl)]
  |some x=>if na≠x.gen.types.length then[(5,ln,cl)]else if nl≠x.gen.aB.length∧(0<nl∨s.dF=false)then[(5,ln,cl)]else[]
def jH (ls:List ByteArray) (ln cl:Int):List ByteArray→List Er
 |[]=>[]
 |x::r=>jI ls x ln cl++jH ls ln cl r
mutual
def qO (T:Tab) (s:Sc):Bool→Ty→List Er
 |b,.mk k n lf _ ls ar ln cl=>
  if k=6 then g_ T s true ar
  else if k=7 then(if lf.size=0∧s.dF=true then[]else jI s.aB lf ln cl)++g_ T s true ar
  else if k=8 then(if b then[]else[(5,ln,cl)])++((if(T.tr n).isSome then[]else[(3,ln,cl)])++(if lf.size=0 then[]else jI s.aB lf ln cl))
  else if k=5 then jH s.aB ln cl ls++(g_ T s false ar++Dt T s n ls.length ar.length ln cl)
  else[]
def g_ (T:Tab) (s:Sc):Bool→List Ty→List Er
 |_,[]=>[]
 |b,t::r=>qO T s b t++g_ T s b r
end
mutual
def mF:Ty→Prop
 | .mk _ _ _ _ ls ar _ _=>ls.length+ar.length≤8∧jl ar
def jl:List Ty→Prop
 |[]=>True
 |t::r=>mF t∧jl r
end
theorem jl.get:∀{l:List Ty} {t:Ty},jl l→t∈l→mF t
 |_::_,_,h,ht=>by
  rw[jl]at h
  rcases List.mem_cons.1 ht with rfl|ht
  ·
   exact h.1
  ·
   exact jl.get h.2 ht
theorem Ue {T:Tab} {s:Sc} {b:Bool} {l:List Ty} {k:Nat} {x:Ty} (h:l[k]?=some x):g_ T s b (l.drop k)=qO T s b x++g_ T s b (l.drop (k+1)):=by obtain⟨hk,rfl⟩:=List.getElem?_eq_some_iff.1 h;rw[List.drop_eq_getElem_cons hk,g_]
theorem Je {ls:List ByteArray} {ln cl:Int} {l:List ByteArray} {k:Nat} {x:ByteArray} (h:l[k]?=some x):jH ls ln cl (l.drop k)=jI ls x ln cl++jH ls ln cl (l.drop (k+1)):=by obtain⟨hk,rfl⟩:=List.getElem?_eq_some_iff.1 h;rw[List.drop_eq_getElem_cons hk,jH]
def PZ (cb:Nat) (u:Value) (TA:World→(Nat→Prop)→Prop) (T:Tab) (n:Nat):Prop:=∀(t:Ty) (ut us:Value) (s:Sc) (b:Bool) (es:List Er) (v:Value) (w:World),SizeOf.sizeOf t<n→mF t→mQ cb u TA w v es→CP w (Out cb v w) t ut→IX w (Out cb v w) s us→(es++qO T s b t).length≤1000000000→
 Calls Tryz.prog 70 #[.pointer (some ⟨cb,0,none⟩),ut,us,.bool b] w (ny cb u TA w v (es++qO T s b t))
def BJ (cb:Nat) (u:Value) (TA:World→(Nat→Prop)→Prop) (T:Tab) (n:Nat):Prop:=∀(l:List Ty) (ul us:Value) (s:Sc) (b:Bool) (es:List Er) (v:Value) (w:World),SizeOf.sizeOf l<n→jl l→mQ cb u TA w v es→KG w (Out cb v w) l ul→IX w (Out cb v w) s us→(es++g_ T s b l).length≤1000000000→
 Calls Tryz.prog 116 #[.pointer (some ⟨cb,0,none⟩),ul,us,.bool b] w (ny cb u TA w v (es++g_ T s b l))
theorem fJ {w:World} {b t:Nat} {cs:List Value} (h:w.heap[b]?=some (.cells cs.toArray t (0,0))):∀(jj:Nat) v,cs[jj]?=some v→w.cell? ⟨b,0+jj,none⟩=some v:=fun jj v hv=>by rw[Nat.zero_add];exact aj h jj v (by rw[List.getElem?_toArray];exact hv)
theorem Tryz.gB:(Tryz.prog.info? 138).map (·.size)=some 3:=by kernel_rfl
theorem Nv (cb:Nat) (u:Value) (TA:World→(Nat→Prop)→Prop) (T:Tab) (n:Nat) (ih:PZ cb u TA T n):BJ cb u TA T (n+1):=by
 intro l ul us s b es v w hn hfit h hl hs hb;have sK:=au hfit;have vM:=au hs;have IH:=au ih;obtain⟨a1,c1,a2,c2,rfl,-,-⟩:=hs;obtain⟨al,cl,rfl⟩:=hl.parts;obtain⟨w1,hw1⟩:=aN (w.alloc (.cells #[.slice a1 s.aB.length c1,.slice a2 s.types.length c2,dW s.dF] 138));have HST:=nS hw1
 have HB1:=nB hw1
 have HW1:=au hw1;have qm:=au (h.quiet HST.o);have HL:=au (oU.mv (Mv.quiet HST.o) hl);have HS:=au (jk.mv (Mv.quiet HST.o) vM.o);have HO:=au (h.new (k:=w.heap.size) (Nat.le_refl _) (aK HB1.o));obtain⟨tot,ht⟩:=aN (es++g_ T s b l);rw[←ht]at hb⊢;have HT:=au ht;have hsz:Hid (∀x∈l,SizeOf.sizeOf x<n):=by intro x hx;have:=List.sizeOf_lt_of_mem hx;omega
 clear h hw1 hl ht ih vM hn hfit;go_enter Tryz.func116,Tryz.ntmps116;go_upto_region 1 with fail
 rw[←HW1.o];go_wp2_with fail;go_loopg [9,12] l.length (fun gg _ s12 wr=>∃(k:Nat) (cur:List Er) (v1:Value),s12=.int .i64 k∧k≤l.length∧l.length-k≤gg∧mQ cb u TA wr v1 cur∧Mv cb w1 v wr v1∧cur++g_ T s b (l.drop k)=tot);case atStart=>exact⟨0,es,v,rfl,Nat.zero_le _,by omega,qm.o,Mv.refl _ _ _,HT.o.symm⟩
 case round=>
  obtain⟨k,cur,v1,rfl,hk,hgg,hc,hm,he⟩:=hrel;have HC:=au hc;have HM:=au hm;have HE:=au he;clear hc hm he;by_cases hlt:k<l.length
  ·obtain⟨x,hx⟩:∃x,l[k]?=some x:=⟨l[k],List.getElem?_eq_getElem hlt⟩;obtain⟨xs,⟨a',c',hva,hcl,hcm,-,hra⟩,hls⟩:=oU.mv HM.o HL.o;(obtain⟨rfl,rfl⟩:al=a'∧cl=c':=by cases hva;exact⟨rfl,rfl⟩);obtain⟨g,o,rfl,hg,hgw,hcell⟩:=hra om;obtain⟨cs,hat,hget⟩:=gy.cells hls hx hcell;have iD:Hid (∀(jj:Nat) v,cs[jj]?=some v→wr.cell? ⟨g,o+k*8+jj,none⟩=some v):=hget;(have lq:Hid ((Tryz.prog.info? 46).map (·.size)=some cs.length):=by rw[hat.len];exact Tryz.eF);have HL8:=au hat.len;have Eh:=au hat.one;obtain⟨w3,hw3⟩:=aN (wr.alloc (.cells cs.toArray 46));(have fK:Hid (StF wr w3):=by rw[hw3];exact bK.alloc _);(have HB3:Hid (w3.heap[wr.heap.size]?=some (.cells cs.toArray 46 (0,0))):=by rw[hw3];exact aC _ _);have HW3:=au hw3;have qV:=au (HM.o.then fK.o);have aal:=au (qV.o.keep HB1.o HO.o);have uF:=au (HC.o.quiet fK.o);have G_:Hid (CP w3 (Out cb v1 w3) x (.agg cs.toArray)):=⟨cs,rfl,iC.mono (fun q _ hq=>(Mv.quiet fK.o).out hq) _ _ (iC.step fK.o (fun _ _ h=>h) _ _ hat)⟩;have HX:=au (hsz.out x (List.mem_of_getElem? hx));have Uf:=au (sK.o.get (List.mem_of_getElem? hx));have mY:Hid ((cur++qO T s b x)++g_ T s b (l.drop (k+1))=tot):=fZ (by rw[←Ue hx];exact HE.o);(have hlb:l.length≤9223372036854775807:=by omega);clear hcell hx hva hcl hcm hra hg hgw hls hget hat hw3;go_wp2_with (first
    |(refine aA rfl 46 (.tmp 14) rfl g (o+k*8) rfl cs _ iD.o Tryz.underlying46 rfl lq.o ?_)
    |(refine bT rfl 46 (.tmp 9) (.tmp 15) rfl _ cs rfl rfl lq.o (by rw[HL8.o];rfl) Eh.o ?_;rw[←HW3.o])
    |(refine aA rfl 46 (.tmp 9) rfl wr.heap.size 0 rfl cs _ (fJ HB3.o) Tryz.underlying46 rfl lq.o ?_)
    |(refine aA rfl 138 (.tmp 6) rfl w.heap.size 0 rfl [.slice a1 s.aB.length c1,.slice a2 s.types.length c2,.bool s.dF] _ (fJ aal.o) Tryz.underlying138 rfl Tryz.gB ?_))
   refine(IH.o x _ _ s b cur v1 _ HX.o Uf.o uF.o G_.o (jk.mv qV.o HS.o) (dL mY.o hb)).mono ?_;rintro e w4 ⟨rfl,v4,h4,h5⟩;have Ip:=au h4;have KH:=au (qV.o.trans h5);clear h4 h5;go_wp2_with fail;go_roundg (gk-1);case rel=>exact⟨k+1,_,v4,by go_num,hlt,sbQ hgg,Ip.o,KH.o,mY.o⟩
   case measure=>omega
  ·(have hk2:k=l.length:=by omega);(have Df:Hid (cur=tot):=by show _=_;have:=HE.o;rw[hk2,List.drop_length,g_,List.append_nil]at this;exact this);go_wp2_with fail;refine bodyPost_ret (results_none rfl _ _ _) rfl ?_;exact⟨rfl,v1,Df.o▸HC.o,(Mv.quiet HST.o).trans HM.o⟩
structure Nw (w0:World) (u0 u2 u3 u4 u5:Value) (F:World→List Value→Prop) (ok:Bool) (ty n:Nat) (L:Nat→Bool) (V:Nat→Value) (X:World):Prop where
 st:StF w0 X
 p0:L 0=true→V 0=u0
 p1:L 1=true→V 1=u0
 p2:L 2=true→V 2=u2
 p3:L 3=true→V 3=u3
 p4:L 4=true→V 4=u4
 p5:L 5=true→V 5=u5
 p6:L 6=true→∃cs:List Value,V 6=.tuple #[.agg cs.toArray,dW ok]∧F X cs
 p7:L 7=true→∃cs:List Value,V 7=.tuple #[.agg cs.toArray,dW ok]∧F X cs
 p8:L 8=true→∃cs:List Value,V 8=.agg cs.toArray∧F X cs
 p9:L 9=true→V 9=.bool ok
 p10:L 10=true→∃(b:Nat) (c:Array Value),V 10=.pointer (some ⟨b,0,none⟩)∧w0.heap.size≤b∧c.size=n∧X.heap[b]?=some (.cells c ty (0,0))∧(L 11=true→∃cs:List Value,c=cs.toArray∧F X cs)
 p12:L 12=true→V 12=.bool ok
 q11:L 11=true→L 10=true
def YJ (w0:World) (n:Nat) (F:World→List Value→Prop):Prop:=(∀(X X':World) cs,Step (fun q=>w0.heap.size≤q) X X'→F X cs→F X' cs)∧∀(X:World) cs,F X cs→cs.length=n∧∀v∈cs,v.oneCell'=true
section
variable {w0 X X' : World} {u0 u2 u3 u4 u5 : Value} {F : World → List Value → Prop} {ok : Bool} {ty n : Nat} {L : Nat → Bool} {V : Nat → Value}
theorem Nw.zero (h:StF w0 X):Nw w0 u0 u2 u3 u4 u5 F ok ty n (fun _=>false) (fun _=>undef) X:=
 ⟨h,gQ,gQ,gQ,gQ,gQ,gQ,gQ,gQ,gQ,gQ,gQ,gQ,gQ⟩
theorem Nw.step (hF:YJ w0 n F) (h:Nw w0 u0 u2 u3 u4 u5 F ok ty n L V X) (hs:StF X X'):Nw w0 u0 u2 u3 u4 u5 F ok ty n L V X':=
 have hm:Step (fun q=>w0.heap.size≤q) X X':=hs.mono fun _ _ h=>h.elim
 {h with
  st:=h.st.trans hs
  p6:=fun e=>let⟨cs,h1,h2⟩:=h.p6 e;⟨cs,h1,hF.1 _ _ _ hm h2⟩
  p7:=fun e=>let⟨cs,h1,h2⟩:=h.p7 e;⟨cs,h1,hF.1 _ _ _ hm h2⟩
  p8:=fun e=>let⟨cs,h1,h2⟩:=h.p8 e;⟨cs,h1,hF.1 _ _ _ hm h2⟩
  p10:=fun e=>let⟨b,c,h1,h2,h3,h4,h5⟩:=h.p10 e;⟨b,c,h1,h2,h3,hs.keep h4 (fun h=>h),fun e2=>let⟨cs,h6,h7⟩:=h5 e2;⟨cs,h6,hF.1 _ _ _ hm h7⟩⟩}
theorem Nw.up10 (hF:YJ w0 n F) (h:Nw w0 u0 u2 u3 u4 u5 F ok ty n L V X) (c:Array Value) (hc:c.size=n) (Xc:L 10=false):Nw w0 u0 u2 u3 u4 u5 F ok ty n (dO L 10) (iY V 10 (.pointer (some ⟨X.heap.size,0,none⟩))) (X.alloc (.cells c ty)):=by
 have h':=h.step hF (bK.alloc (.cells c ty));have hL:L 11=false:=by
  cases e:L 11 with
  |false=>rfl
  |true=>rw[h.q11 e]at Xc;cases Xc
 exact{h' with p10:=fun _=>⟨X.heap.size,c,rfl,h.st.size,hc,aC _ _,fun e=>by rw[show dO L 10 11=L 11 from rfl,hL]at e;cases e⟩,q11:=fun _=>rfl}
theorem Nw.Xd (hF:YJ w0 n F) (h:Nw w0 u0 u2 u3 u4 u5 F ok ty n L V X) {b:Nat} {cs:List Value} (hb:V 10=.pointer (some ⟨b,0,none⟩)) (hL:L 10=true) (hcs:F X cs) (u:Value) (hX:X'.heap[b]?=some (.cells cs.toArray ty (0,0))) (hs:Step (·=b) X X'):Nw w0 u0 u2 u3 u4 u5 F ok ty n (dO L 11) (iY V 11 u) X':=by
 obtain⟨b',c,h1,h2,h3,h4,h5⟩:=h.p10 hL;obtain rfl:b=b':=by rw[hb]at h1;cases h1;rfl
 have hm:Step (fun q=>w0.heap.size≤q) X X':=hs.mono fun _ _ e=>by rw[e];exact h2
 exact{h with
  st:=h.st.then hs (fun i hi e=>by omega)
  p6:=fun e=>let⟨cs,h1,h2⟩:=h.p6 e;⟨cs,h1,hF.1 _ _ _ hm h2⟩
  p7:=fun e=>let⟨cs,h1,h2⟩:=h.p7 e;⟨cs,h1,hF.1 _ _ _ hm h2⟩
  p8:=fun e=>let⟨cs,h1,h2⟩:=h.p8 e;⟨cs,h1,hF.1 _ _ _ hm h2⟩
  p10:=fun _=>⟨b,cs.toArray,hb,h2,by rw[List.size_toArray];exact(hF.2 _ _ hcs).1,hX,fun _=>⟨cs,rfl,hF.1 _ _ _ hm hcs⟩⟩
  q11:=fun _=>hL}
theorem EF {c:Array Value} {cs:List Value} (h:cs.length=c.size):(c.toList.take 0++(cs++c.toList.drop (0+cs.length))).toArray=cs.toArray:=by rw[List.drop_eq_nil_of_le (by rw[Nat.zero_add,Array.length_toList];omega),List.append_nil];rfl
end
end Go.Proofs.YtppekkbaoimpgaaGreat
