/- Its, Pl, Rea, Rp, Who, PlI, Whi, Top, Nme, Nmf, Nmg, Nmi -/
import Derived.Test.YtppekkbaoimpgaaGreatPkM
set_option maxRecDepth 100000
set_option maxHeartbeats 8000000
namespace Go.Proofs.YtppekkbaoimpgaaGreat
open Go.RowKit
open Vt
theorem Tryz.DT:(Tryz.prog.info? 51).map (fun i=>(i.zero,i.size,i.bytes))=some (some (.agg #[ah 0,bP,bP,au,au,au,ah 0,bP,bP,aO,au,au,ah 0,ah 0,au,au,au,ah 0,ah 0]),19,312):=by kernel_rfl
def ItsV (n0:Nat) (w':World) (a:List It) (v:Value):Prop:=jF nX w' (fun k=>n0≤k) a v
theorem Po (f:Nat) (xq:∀f',f'≤f→lD f') (zi:∀f',f'≤f→oP f') (R:fV) (w:World) (i d:Nat) (hl:nK R.l) (h:bC R w i d) (hd:d≤40) (hno:kL f R.l i d []≠.out):Calls Tryz.prog 42 #[.agg #[dY R.rb 0]] w (aJ R d (ItsV w.heap.size) (kL f R.l i d []) w):=by
 have HL:=ak hl;have II:=ak xq;have J_:=ak zi;obtain⟨r,hr⟩:=aU (kL f R.l i d []);have ng:=ak hr;rw[←hr]at hno⊢;have eH:=ak hno;obtain⟨i0,hi0,hz0,hz1,hz2⟩:=info_parts Tryz.DT;have HI:=ak hi0;have HZ0:=ak hz0;have HZ1:=ak hz1;have HZ2:=ak hz2;have hfd0:∀(a0 a1 a2 a3 a4:Value) (w:World),(Instr.field 157 (.agg #[a0,a1,a2,a3,a4]) 0).run Tryz.prog w=.ok a0 w:=fun _ _ _ _ _ _=>by kernel_rfl
 obtain⟨w1,hw1⟩:=aU (w.alloc (.cells #[dY R.rb 0] 97));have cZ:Hid (Step (fun _=>False) w w1):=by show Step _ _ _;rw[hw1];exact bJ.alloc _
 have jL:Hid (w1.heap[w.heap.size]?=some (.cells #[dY R.rb 0] 97 (0,0))):=by show _=_;rw[hw1];exact aA _ _
 have HW1:=ak hw1;have H1:=ak (h.quiet cZ.o);have hn1:=aI jL.o;have pY:=aI h.blk;have hwz:R.rb<w1.heap.size:=by omega
 have bY:Hid (∀X:World,Step (·=R.rb) w1 X→X.cell? ⟨w.heap.size,0,none⟩=some (.pointer (some ⟨R.rb,0,none⟩))):=by show∀X,_;intro X hX;exact aj (hX.keep jL.o om) 0 _ rfl
 have f_:Hid (∀X:World,Step (·=R.rb) w1 X→Step (·=R.rb) w X):=by show∀X,_;intro X hX;exact(cZ.o.mono fe).trans hX
 clear hw1;have p0:=bY.o w1 bJ;clear xq zi hl h hno hr hi0 hz0 hz1 hz2 p0;go_enter Tryz.func42,Tryz.ntmps42;go_upto_block 0 with fail
 rw[←HW1.o];go_wp2_with fail;go_loopg [3] f (fun gg s3 wr=>gg≤f∧∃(i':Nat) (acc:List It) (xs:List Value),r=kL gg R.l i' d acc∧y_ nX 51 19 R w1 d wr i' acc s3 xs);case atStart=>exact⟨Nat.le_refl _,i,[],[],ng.o,H1.o,World.ownsRow_nil _ _ _ _,rfl,Step.refl _ _⟩
 case round=>
  obtain⟨hgf,i',acc,xs,hrq,hst⟩:=hrel;obtain⟨gn,rfl⟩:∃gn,gk=gn+1:=by
   cases gk with
   |zero=>exact absurd hrq (by rw[kL];exact eH.o)
   |succ gn=>exact⟨gn,rfl⟩
  obtain⟨tk,htk⟩:=aU (tokA R.l i');have sS:Hid (r=if tk.kind=0 then .ok acc i' else(d_ acc.length 60 R.l i').bind fun _ i=>(jD gn R.l i d).bind fun x j=>kL gn R.l j d (acc++[x])):=by show _=_;rw[hrq,kL,htk]
  have HT:=ak (show R.l[i']?=some tk by rw[htk];exact hst.rd.tok);obtain⟨oa,oc,rfl⟩:=a_ hst.ow;have HST:=ak hst;have p0:=bY.o wr hst.st;clear hrq hst htk;go_wp2_with fail;refine(kP R _ i' d tk HST.o.rd HT.o).mono ?_;rintro e wq ⟨rfl,hq⟩;have zk:=ak (HST.o.quiet aT hq);clear hq p0;by_cases hk:tk.kind=0
  ·(have e1:((tk.kind:Int) !=0)=false:=by rw[bne,jS tk.kind 0 0 rfl,hk];rfl);(have yR:Hid (r=.ok acc i'):=by show _=_;rw[sS.o,if_pos hk]);clear hk;go_wp2_with fail;go_ret;have hsz:=cZ.o.size;exact aJ.dK yR.o rfl ⟨_,di.fA zk.o.ow (fun q hq=>by have:=(zk.o.ow.lt q hq).1;omega),lG.mono aT (fun q _ hq=>by have:=hq.1;omega) _ _ zk.o.el⟩ zk.o.rd (f_.o _ zk.o.st)
  ·(have e1:((tk.kind:Int) !=0)=true:=by rw[bne,jS tk.kind 0 0 rfl,beq_eq_false_iff_ne.2 hk];rfl);(have Tj:Hid (r=(d_ acc.length 60 R.l i').bind fun _ i=>(jD gn R.l i d).bind fun x j=>kL gn R.l j d (acc++[x])):=by show _=_;rw[sS.o,if_neg hk]);clear hk;have p0:=bY.o wq zk.o.st;go_wp2_with fail;refine(lS R wq acc.length 60 i' d zk.o.rd).mono ?_;rintro e w3 hp;cases hn:d_ acc.length 60 R.l i' with
   |out=>exact(kH hn).elim
   |err c ln col=>rw[hn]at hp;obtain⟨rfl,s3⟩:=hp;exact⟨rfl,aJ.aX (c:=c) (ln:=ln) (col:=col) (by rw[Tj.o,hn];rfl) rfl (f_.o _ (zk.o.st.trans s3))⟩
   |ok u j3=>
    have hji:j3=i'∧acc.length<60:=by
     unfold d_ at hn;split at hn
     ·cases hn
     ·cases hn;exact⟨rfl,by omega⟩
    obtain⟨hj3,hlt⟩:=hji;have qR:=ak hn;rw[hn]at hp;obtain⟨⟨v,rfl,rfl⟩,hr3,s3⟩:=hp;have fJ:=ak (zk.o.read aT hwz hr3 s3);have kU:=ak (Tj.o.trans (pU qR.o));clear hn hr3 s3 p0 hj3;have p0:=bY.o w3 fJ.o.st;go_wp2_with fail;refine(Tq gn (fun f' hf=>II.o f' om) (fun f' hf=>J_.o f' om) R w3 j3 d HL.o fJ.o.rd hd (fun e=>eH.o (by rw[kU.o,e];rfl))).mono ?_;rintro e wx hp;have hp2:aJ R d (ZQ w3.heap.size) (jD gn R.l j3 d) _ e wx:=hp;cases hx:jD gn R.l j3 d with
    |out=>exact absurd (by rw[kU.o,hx];rfl) eH.o
    |err c ln col=>rw[hx]at hp2;obtain⟨rfl,sq⟩:=hp2;exact⟨rfl,aJ.aX (c:=c) (ln:=ln) (col:=col) (by rw[kU.o,hx];rfl) rfl (f_.o _ (fJ.o.st.trans sq))⟩
    |ok x jx=>
     have HX:=ak hx;rw[hx]at hp2;obtain⟨⟨v,rfl,cs,rfl,hy⟩,hrx,hsx⟩:=hp2;have BB:=ak (aT.len _ _ hy);have dS:=ak (aT.one _ _ hy);have Dn:=ak (kU.o.trans (pU HX.o));obtain⟨w4,hw4⟩:=aU (wx.alloc (.cells cs.toArray 51));(have iP:Hid (Step (fun _=>False) wx w4):=by show Step _ _ _;rw[hw4];exact bJ.alloc _);have eP:=ak ((fJ.o.read aT hwz hrx hsx).quiet aT iP.o);have OH:Hid (nX w4 (fun q=>w3.heap.size≤q) x cs):=aT.step _ _ iP.o (fun _ _ h=>h) hy;(have GN:Hid ((wx.alloc (.cells cs.toArray 51)).ownsRow w1.heap.size 51 19 (.slice oa acc.length oc) acc.length xs):=by show World.ownsRow _ _ _ _ _ _ _;rw[←hw4];exact eP.o.ow);have yU:Hid (Row (wx.alloc (.cells cs.toArray 51)) (wx.heap.size+1) (.slice (some ⟨wx.heap.size,0,none⟩) 1 1) 1 cs):=Row.new (aA _ _) dc;(have GR:Hid (w1.heap.size≤(wx.alloc (.cells cs.toArray 51)).heap.size):=by show _≤_;rw[←hw4];exact eP.o.st.size);have OI:=ak hw4;have EO:=ak hlt;(have X7:i0.size=cs.length:=by rw[BB.o];exact HZ1.o);(have hC2:(Value.agg #[ah 0,bP,bP,au,au,au,ah 0,bP,bP,aO,au,au,ah 0,ah 0,au,au,au,ah 0,ah 0]).cells.size=cs.length:=by rw[BB.o];rfl);(have X8:0<cs.length:=by rw[BB.o];decide);(have X9:cs.length≤16777216:=by rw[BB.o];decide);(have X_:cs.length=1*19:=by rw[BB.o]);have HC:=ak (And.intro X7 (And.intro hC2 (And.intro X8 (And.intro X9 X_))));clear hx hp hy hrx hsx p0 hw4 hlt X7 hC2 X8 X9 X_;go_wp2_with (first
      |(refine lC rfl 22 (.tmp 15) rfl 51 i0 (.agg #[ah 0,bP,bP,au,au,au,ah 0,bP,bP,aO,au,au,ah 0,ah 0,au,au,au,ah 0,ah 0]) cs rfl Tryz.underlying22 HI.o HZ0.o HC.o.1 HC.o.2.1 HC.o.2.2.1 HC.o.2.2.2.1 ?_)
      |(refine fG _ rfl (wx.heap.size+1) (.tmp 13) (.tmp 16) 22 rfl w1.heap.size 51 i0 (.agg #[ah 0,bP,bP,au,au,au,ah 0,bP,bP,aO,au,au,ah 0,ah 0,au,au,au,ah 0,ah 0]) 19 312 Tryz.underlying22 HI.o HZ0.o HZ1.o HZ2.o rfl dc _ _ _ (by rfl) GN.o _ 1 _ (by rfl) yU.o HC.o.2.2.2.2 dS.o (by have:=EO.o;unfold maxLen;omega) (by have:=EO.o;omega) GR.o ?_;intro v9 w9 gG gm nM))
     rw[←OI.o]at gm nM;have iD:=ak (fJ.o.push aT eP.o OH.o gG gm nM hwz);clear gG gm nM;have p0:=bY.o w9 iD.o.st;go_roundg gn;case rel=>exact⟨by omega,jx,acc++[x],_,Dn.o,iD.o⟩
     case measure=>omega
def Good (t:Tok):Prop:=∃r,ny r=.ok (t.kind,t.text.length,t.val)∧t.text=r.take t.text.length
def uj (l:List Tok):Nat:=(l.map (·.text.length)).sum
theorem Jw (l:List Tok) (t:Tok):uj (l++[t])=uj l+t.text.length:=by simp[uj]
theorem Pq:∀(k:Nat) (r:List UInt8) (p l f:Nat) (acc res:List Tok),zO k r p l f acc=.ok res→f≤p→(∀t∈acc,Good t)→uj acc≤p→acc.length≤8000→∃body e,res=body++[e]∧(∀t∈body,Good t)∧uj body≤p+r.length∧body.length≤8000∧e.kind=0∧e.text=[]∧e.val=0:=by
 intro k;induction k with
 |zero=>intro r p l f acc res h;simp[zO]at h
 |succ k ih=>
  intro r p l f acc res h hf hg hs hl;have hi:=C_ r false p l f _ _ _ rfl hf;rw[zO]at h;generalize gB false r p l f=q at*;obtain⟨q1,q2,q3⟩:=q;dsimp only at hi h;split at h
  ·simp at h;exact⟨acc,_,h.symm,hg,by omega,hl,rfl,rfl,rfl⟩
  ·split at h
   ·simp at h
   ·split at h
    ·simp at h
    ·rename_i kind n val hn;obtain⟨hn1,hn2,_⟩:=zQ hn;rw[List.length_drop]at hn2;have hlen:((r.drop (q1-p)).take n).length=n:=by rw[List.length_take,List.length_drop];omega
     have:=ih _ _ _ _ _ _ h om (by
      intro t ht
      rcases List.mem_append.1 ht with h1|h1
      ·
       exact hg t h1
      ·
       simp at h1;subst h1
       exact⟨r.drop (q1-p),by rw[hlen];exact hn,by simp[hlen]⟩) (by rw[Jw,hlen];omega) (by simp;omega)
     obtain⟨body,e,h1,h2,h3,h4⟩:=this;refine⟨body,e,h1,h2,?_,h4⟩;simp only[List.length_drop]at h3;omega
theorem Tt:∀(k:Nat) (r:List UInt8) (p l f:Nat) (acc:List Tok) (c ln col:Nat),r.length<k→zO k r p l f acc=.error (c,ln,col)→c≠0:=by
 intro k;induction k with
 |zero=>intro r p l f acc c ln col h;omega
 |succ k ih=>
  intro r p l f acc c ln col hk h;rw[zO]at h;generalize gB false r p l f=q at*;obtain⟨q1,q2,q3⟩:=q;dsimp only at h;split at h
  ·simp at h
  ·split at h
   ·simp at h;omega
   ·split at h
    ·rename_i e he;simp at h;have:=Fv he;omega
    ·rename_i kind n val hn;obtain⟨hn1,hn2,_⟩:=zQ hn;refine ih _ _ _ _ _ _ _ _ ?_ h;simp only[List.length_drop]at hn2⊢;omega
theorem Jy {s:List UInt8} {c ln col:Nat} (h:qI s=.error (c,ln,col)):c≠0:=by
 unfold qI at h;split at h
 ·simp at h;omega
 ·exact Tt _ _ _ _ _ _ _ _ _ om h
theorem Pv {l:List Tok} {t:Tok} (h:t∈l):t.text.length≤uj l:=by
 induction l with
 |nil=>cases h
 |cons a l ih=>
  simp only[uj,List.map_cons,List.sum_cons]at ih⊢;rcases List.mem_cons.1 h with rfl|h
  ·omega
  ·have:=ih h;omega
theorem LK {s:List UInt8} {l:List Tok} (h:qI s=.ok l):∃body e,l=body++[e]∧(∀t∈body,Good t)∧uj body≤s.length∧s.length≤20000∧body.length≤8000∧e.kind=0∧e.text=[]∧e.val=0:=by
 unfold qI at h;split at h
 ·simp at h
 ·rename_i hs;obtain⟨body,e,h1,h2,h3,h4,h5⟩:=Pq _ _ _ _ _ _ _ h (Nat.le_refl _) (by simp) (by simp[uj]) (by simp);exact⟨body,e,h1,h2,by omega,by omega,h4,h5⟩
theorem zl {s:List UInt8} {l:List Tok} (h:qI s=.ok l):nK l∧0<l.length:=by
 obtain⟨body,e,rfl,hg,hs,hz,hb,he,ht,-⟩:=LK h;refine⟨⟨?_,by simp;omega,?_⟩,by simp⟩
 ·intro i t hi hk;have hlt:=(List.getElem?_eq_some_iff.1 hi).1;simp at hlt⊢;rcases Nat.lt_or_ge i body.length with h1|h1
  ·omega
  ·(have:i=body.length:=by omega);subst this;rw[List.getElem?_append_right (Nat.le_refl _),Nat.sub_self]at hi;simp at hi;subst hi;exact absurd he hk
 ·intro t ht2;rcases List.mem_append.1 ht2 with h1|h1
  ·have:=Pv h1;omega
  ·rw[List.mem_singleton.1 h1,ht];decide
def Gd {α:Type} (N i:Nat) (r:dO α):Prop:=match r with
 | .ok _ j=>i<j∧j<N
 | .err c _ _=>c≠0
 | .out=>False
def g_ {α:Type} (N i:Nat) (r:dO α):Prop:=match r with
 | .ok _ j=>i≤j∧j<N
 | .err c _ _=>c≠0
 | .out=>False
theorem Gd.weak {α:Type} {N i:Nat} {r:dO α} (h:Gd N i r):g_ N i r:=by
 cases r with
 |ok a j=>exact⟨Nat.le_of_lt h.1,h.2⟩
 |err=>exact h
 |out=>exact h
theorem g_.ne {α:Type} {N i:Nat} {r:dO α} (h:g_ N i r):r≠.out:=by rintro rfl;exact h
theorem Gd.bind {α β:Type} {N i:Nat} {r:dO α} {f:α→Nat→dO β} (h:Gd N i r) (hf:∀a j,i<j→j<N→g_ N j (f a j)):Gd N i (r.bind f):=by
 cases r with
 |ok a j=>
  have:=hf a j h.1 h.2;show Gd N i (f a j);cases hx:f a j with
  |ok b k=>rw[hx]at this;exact⟨Nat.lt_of_lt_of_le h.1 this.1,this.2⟩
  |err=>rw[hx]at this;exact this
  |out=>rw[hx]at this;exact this
 |err=>exact h
 |out=>exact h
theorem g_.bind {α β:Type} {N i:Nat} {r:dO α} {f:α→Nat→dO β} (h:g_ N i r) (hf:∀a j,i≤j→j<N→g_ N j (f a j)):g_ N i (r.bind f):=by
 cases r with
 |ok a j=>
  have:=hf a j h.1 h.2;show g_ N i (f a j);cases hx:f a j with
  |ok b k=>rw[hx]at this;exact⟨Nat.le_trans h.1 this.1,this.2⟩
  |err=>rw[hx]at this;exact this
  |out=>rw[hx]at this;exact this
 |err=>exact h
 |out=>exact h
theorem g_.xu {α β:Type} {N i:Nat} {r:dO α} {f:α→Nat→dO β} (h:g_ N i r) (hf:∀a j,i≤j→j<N→Gd N j (f a j)):Gd N i (r.bind f):=by
 cases r with
 |ok a j=>
  have:=hf a j h.1 h.2;show Gd N i (f a j);cases hx:f a j with
  |ok b k=>rw[hx]at this;exact⟨Nat.lt_of_le_of_lt h.1 this.1,this.2⟩
  |err=>rw[hx]at this;exact this
  |out=>rw[hx]at this;exact this
 |err=>exact h
 |out=>exact h
theorem g_.from {α:Type} {N i j:Nat} {r:dO α} (h:g_ N j r) (hij:i≤j):g_ N i r:=by
 cases r with
 |ok a k=>exact⟨Nat.le_trans hij h.1,h.2⟩
 |err=>exact h
 |out=>exact h
theorem g_.strict {α:Type} {N i j:Nat} {r:dO α} (h:g_ N j r) (hij:i<j):Gd N i r:=by
 cases r with
 |ok a k=>exact⟨Nat.lt_of_lt_of_le hij h.1,h.2⟩
 |err=>exact h
 |out=>exact h
theorem g_.ok {α:Type} {N i:Nat} (a:α) (h:i<N):g_ N i (.ok a i):=⟨Nat.le_refl _,h⟩
section
variable {l : List Tok} (hl : nK l)
include hl
theorem wC {i:Nat} (hi:i<l.length) (h:(tokA l i).kind≠0):i+1<l.length:=hl.next i _ (rX hi) h
theorem dm {i:Nat} {s:List UInt8} (hi:i<l.length) (h:bD l i s=true):i+1<l.length:=wC hl hi (xH h)
theorem dU {i:Nat} {s:List UInt8} (hi:i<l.length):Gd l.length i (aH l i s):=by
 unfold aH;split
 ·rename_i h;exact⟨Nat.lt_succ_self i,dm hl hi h⟩
 ·exact Nat.succ_ne_zero _
theorem iE {i:Nat} (hi:i<l.length):Gd l.length i (aS l i):=by
 unfold aS;split
 ·rename_i h;refine⟨Nat.lt_succ_self i,wC hl hi ?_⟩;intro e;simp[uU,e]at h
 ·exact Nat.succ_ne_zero _
theorem zn {i:Nat} (hi:i<l.length):Gd l.length i (jA l i):=by
 unfold jA;split
 ·rename_i h;exact⟨Nat.lt_succ_self i,wC hl hi om⟩
 ·exact Nat.succ_ne_zero _
omit hl in
theorem mG {n m i:Nat} (hi:i<l.length):g_ l.length i (d_ n m l i):=by
 unfold d_;split
 ·exact Nat.succ_ne_zero _
 ·exact g_.ok _ hi
theorem DU {i:Nat} {s:List UInt8} (hi:i<l.length):i≤iL l i s∧iL l i s<l.length:=by
 unfold iL;split
 ·rename_i h;exact⟨by omega,dm hl hi h⟩
 ·exact⟨Nat.le_refl _,hi⟩
theorem H6 {i:Nat} (hi:i<l.length):i≤oz l i∧oz l i<l.length:=by
 unfold oz;split
 ·rename_i h;exact⟨by omega,wC hl hi om⟩
 ·exact⟨Nat.le_refl _,hi⟩
structure Fu (l:List Tok) (f:Nat):Prop where
 typ:∀i d,i<l.length→16*(l.length-i)+1≤f→Gd l.length i (jT f l i d)
 args:∀i d ls ts,i<l.length→16*(l.length-i)+2≤f→Gd l.length i (m_ f l i d ls ts)
 bars:∀i ns,i<l.length→16*(l.length-i)+1≤f→Gd l.length i (nC f l i ns)
 level:∀i d n,i<l.length→n≤5→16*(l.length-i)+(9-n)≤f→Gd l.length i (bf f l i d n)
 row:∀i d n x,i<l.length→n≤4→16*(l.length-i)+1≤f→g_ l.length i (yN f l i d n x)
 unary:∀i d,i<l.length→16*(l.length-i)+3≤f→Gd l.length i (iR f l i d)
 post:∀i d,i<l.length→16*(l.length-i)+2≤f→Gd l.length i (uX f l i d)
 dots:∀i d x,i<l.length→16*(l.length-i)+1≤f→g_ l.length i (lN f l i d x)
 list:∀i d,i<l.length→16*(l.length-i)+11≤f→Gd l.length i (kX f l i d)
 more:∀i d acc,i<l.length→16*(l.length-i)+10≤f→Gd l.length i (pV f l i d acc)
 one:∀i d,i<l.length→16*(l.length-i)+1≤f→Gd l.length i (rW f l i d)
 made:∀i d ns al,i<l.length→16*(l.length-i)+1≤f→Gd l.length i (lQ f l i d ns al)
 ZE:∀i d,i<l.length→16*(l.length-i)+1≤f→Gd l.length i (uD f l i d)
 block:∀i d,i<l.length→16*(l.length-i)+1≤f→Gd l.length i (bI f l i d)
 stmts:∀i d acc,i<l.length→16*(l.length-i)+12≤f→Gd l.length i (nS f l i d acc)
 lett:∀i d,i<l.length→16*(l.length-i)+1≤f→Gd l.length i (zT f l i d)
 sett:∀i d,i<l.length→16*(l.length-i)+10≤f→Gd l.length i (zU f l i d)
 stmt:∀i d,i<l.length→16*(l.length-i)+11≤f→Gd l.length i (uY f l i d)
theorem Z4 (f:Nat) (h:Fu l f) (i d:Nat) (hi:i<l.length) (hf:16*(l.length-i)+1≤f+1):Gd l.length i (jT (f+1) l i d):=by
 rw[jT];have one:∀(b:Bool) (s:List UInt8) (a:Ty),bD l i s=b→b=true→Gd l.length i (.ok a (i+1)):=fun b s a e hb=>⟨Nat.lt_succ_self i,dm hl hi (by rw[e];exact hb)⟩;split
 ·exact Nat.succ_ne_zero _
 ·split
  ·rename_i h1;exact one _ _ _ rfl h1
  ·split
   ·rename_i h1;exact one _ _ _ rfl h1
   ·split
    ·rename_i h1;exact one _ _ _ rfl h1
    ·split
     ·rename_i h1;have h2:=dm hl hi h1;exact g_.strict ((dU hl h2).bind fun _ j _ hj=>g_.ok _ hj).weak (Nat.lt_succ_self i)
     ·split
      ·rename_i h1;have h2:=dm hl hi h1;exact g_.strict ((dU hl h2).bind fun _ j h3 hj=>((h.typ j _ hj om).bind fun a k h4 hk=>((dU hl hk).bind fun _ m _ hm=>g_.ok _ hm).weak).weak).weak (Nat.lt_succ_self i)
      ·split
       ·rename_i h1;have h2:=dm hl hi h1;have h3:=H6 hl h2;have h4:=DU hl (s:=[109,117,116]) h3.2;exact g_.strict ((h.typ _ _ h4.2 om).bind fun a k _ hk=>g_.ok _ hk).weak om
       ·split
        ·rename_i h1;have h2:=dm hl hi h1;refine g_.strict ((iE hl h2).bind fun n j h3 hj=> ?_).weak (Nat.lt_succ_self i);split
         ·rename_i h4;exact(((zn hl (dm hl hj h4)).bind fun x k _ hk=>g_.ok _ hk).weak).from om
         ·exact g_.ok _ hj
        ·refine(iE hl hi).bind fun n j h3 hj=> ?_;split
         ·rename_i h4;have h5:=dm hl hj h4;exact((h.args (j+1) _ _ _ h5 om).bind fun p k _ hk=>g_.ok _ hk).weak.from om
         ·exact g_.ok _ hj
theorem Wy (f:Nat) (h:Fu l f) (i d:Nat) (ls:List ByteArray) (ts:List Ty) (hi:i<l.length) (hf:16*(l.length-i)+2≤f+1):Gd l.length i (m_ (f+1) l i d ls ts):=by
 rw[m_];refine(mG hi).xu fun _ i2 h0 hi2=> ?_;refine Gd.bind ?_ fun p j h1 hj=> ?_
 ·split
  ·exact(zn hl hi2).bind fun x j _ hj=>g_.ok _ hj
  ·exact(h.typ i2 d hi2 om).bind fun x j _ hj=>g_.ok _ hj
 ·split
  ·rename_i h2;exact((h.args (j+1) d _ _ (dm hl hj h2) om).weak).from om
  ·exact((dU hl hj).bind fun _ k _ hk=>g_.ok _ hk).weak
theorem WA (f:Nat) (h:Fu l f) (i:Nat) (ns:List ByteArray) (hi:i<l.length) (hf:16*(l.length-i)+1≤f+1):Gd l.length i (nC (f+1) l i ns):=by
 rw[nC];refine(mG hi).xu fun _ i2 h0 hi2=> ?_;refine(iE hl hi2).bind fun n j h1 hj=> ?_;split
 ·rename_i h2;exact((h.bars (j+1) _ (dm hl hj h2) om).weak).from om
 ·exact((dU hl hj).bind fun _ k _ hk=>g_.ok _ hk).weak
omit hl in
theorem Tv (f:Nat) (h:Fu l f) (i d n:Nat) (hi:i<l.length) (hn:n≤5) (hf:16*(l.length-i)+(9-n)≤f+1):Gd l.length i (bf (f+1) l i d n):=by
 rw[bf];split
 ·exact h.unary i d hi om
 ·exact(h.level i d (n+1) hi om om).bind fun x j h1 hj=>h.row j d n x hj om om
theorem Z5 (f:Nat) (h:Fu l f) (i d n:Nat) (x:Ex) (hi:i<l.length) (hn:n≤4) (hf:16*(l.length-i)+1≤f+1):g_ l.length i (yN (f+1) l i d n x):=by
 rw[yN];cases ho:xJ l i n with
 |none=>exact g_.ok _ hi
 |some s=>
  have h1:bD l i s=true:=by simpa using List.find?_some ho
  have h2:=dm hl hi h1;refine(((h.level (i+1) d (n+1) h2 om om).bind fun y j h3 hj=> ?_).weak).from om;split
  ·exact g_.ok _ hj
  ·exact h.row j d n _ hj hn om
theorem Tz (f:Nat) (h:Fu l f) (i d:Nat) (hi:i<l.length) (hf:16*(l.length-i)+3≤f+1):Gd l.length i (iR (f+1) l i d):=by
 rw[iR];have step:∀(s:List UInt8) (k:Nat) (g:Ex→Ex),bD l i s=true→i+1≤k→k<l.length→Gd l.length i ((iR f l k (d+1)).bind fun y j=>.ok (g y) j):=fun s k g h1 h2 h3=>
  g_.strict ((h.unary k (d+1) h3 om).bind fun y j _ hj=>g_.ok _ hj).weak om
 split
 ·exact Nat.succ_ne_zero _
 ·split
  ·rename_i h1;exact step _ _ _ h1 (Nat.le_refl _) (dm hl hi h1)
  ·split
   ·rename_i h1;exact step _ _ _ h1 (Nat.le_refl _) (dm hl hi h1)
   ·split
    ·rename_i h1;exact step _ _ _ h1 (Nat.le_refl _) (dm hl hi h1)
    ·split
     ·rename_i h1;have h2:=DU hl (s:=[109,117,116]) (dm hl hi h1);exact step _ _ _ h1 h2.1 h2.2
     ·exact h.post i (d+1) hi om
omit hl in
theorem WB (f:Nat) (h:Fu l f) (i d:Nat) (hi:i<l.length) (hf:16*(l.length-i)+2≤f+1):Gd l.length i (uX (f+1) l i d):=by rw[uX];exact(h.ZE i d hi om).bind fun x j h1 hj=>h.dots j d x hj om
theorem WC (f:Nat) (h:Fu l f) (i d:Nat) (x:Ex) (hi:i<l.length) (hf:16*(l.length-i)+1≤f+1):g_ l.length i (lN (f+1) l i d x):=by
 rw[lN];split
 ·rename_i h1;have h2:=dm hl hi h1;refine(((iE hl h2).bind fun n j h3 hj=> ?_).weak).from om;split
  ·rename_i h4;have h5:=dm hl hj h4;exact(((h.list (j+1) d h5 om).bind fun al k h6 hk=>h.dots k d _ hk om).weak).from om
  ·exact h.dots j d _ hj om
 ·exact g_.ok _ hi
theorem WE (f:Nat) (h:Fu l f) (i d:Nat) (hi:i<l.length) (hf:16*(l.length-i)+11≤f+1):Gd l.length i (kX (f+1) l i d):=by
 rw[kX];split
 ·rename_i h1;exact⟨Nat.lt_succ_self i,dm hl hi h1⟩
 ·exact h.more i d [] hi om
theorem WG (f:Nat) (h:Fu l f) (i d:Nat) (acc:List Ex) (hi:i<l.length) (hf:16*(l.length-i)+10≤f+1):Gd l.length i (pV (f+1) l i d acc):=by
 rw[pV];refine(mG hi).xu fun _ i2 h0 hi2=> ?_;refine(h.level i2 d 0 hi2 om om).bind fun x j h1 hj=> ?_;split
 ·rename_i h2;exact((h.more (j+1) d _ (dm hl hj h2) om).weak).from om
 ·exact((dU hl hj).bind fun _ k _ hk=>g_.ok _ hk).weak
theorem Z7 (f:Nat) (h:Fu l f) (i d:Nat) (hi:i<l.length) (hf:16*(l.length-i)+1≤f+1):Gd l.length i (rW (f+1) l i d):=by rw[rW];exact(dU hl hi).bind fun _ j h1 hj=>((h.level j d 0 hj om om).bind fun x k h2 hk=>((dU hl hk).bind fun _ m _ hm=>g_.ok _ hm).weak).weak
theorem WH (f:Nat) (h:Fu l f) (i d:Nat) (ns:List ByteArray) (al:List Ex) (hi:i<l.length) (hf:16*(l.length-i)+1≤f+1):Gd l.length i (lQ (f+1) l i d ns al):=by
 rw[lQ];refine(mG hi).xu fun _ i2 h0 hi2=> ?_;refine(iE hl hi2).bind fun n j h1 hj=> ?_;refine((dU hl hj).bind fun _ j2 h2 hj2=> ?_).weak;refine((h.level j2 d 0 hj2 om om).bind fun x k h3 hk=> ?_).weak;split
 ·rename_i h4;exact((h.made (k+1) d _ _ (dm hl hk h4) om).weak).from om
 ·exact((dU hl hk).bind fun _ m _ hm=>g_.ok _ hm).weak
theorem TB (f:Nat) (h:Fu l f) (i d:Nat) (hi:i<l.length) (hf:16*(l.length-i)+1≤f+1):Gd l.length i (bI (f+1) l i d):=by
 rw[bI];split
 ·exact Nat.succ_ne_zero _
 ·exact(dU hl hi).bind fun _ j h1 hj=>(h.stmts j _ [] hj om).weak
theorem TD (f:Nat) (h:Fu l f) (i d:Nat) (acc:List St) (hi:i<l.length) (hf:16*(l.length-i)+12≤f+1):Gd l.length i (nS (f+1) l i d acc):=by
 rw[nS];split
 ·rename_i h1;exact⟨Nat.lt_succ_self i,dm hl hi h1⟩
 ·exact(h.stmt i d hi om).bind fun s j h1 hj=>(h.stmts j d _ hj om).weak
theorem Z8 (f:Nat) (h:Fu l f) (i d:Nat) (hi:i<l.length) (hf:16*(l.length-i)+1≤f+1):Gd l.length i (zT (f+1) l i d):=by
 rw[zT];refine(iE hl hi).bind fun n j h1 hj=> ?_;refine g_.bind ?_ fun ty k h2 hk=> ?_
 ·split
  ·rename_i h3;exact((h.typ (j+1) d (dm hl hj h3) om).weak).from om
  ·exact g_.ok _ hj
 ·refine g_.bind ?_ fun e m h4 hm=>((dU hl hm).bind fun _ p _ hp=>g_.ok _ hp).weak;split
  ·rename_i h3;exact(((h.level (k+1) d 0 (dm hl hk h3) om om).bind fun x q _ hq=>g_.ok _ hq).weak).from om
  ·exact g_.ok _ hk
theorem Z9 (f:Nat) (h:Fu l f) (i d:Nat) (hi:i<l.length) (hf:16*(l.length-i)+10≤f+1):Gd l.length i (zU (f+1) l i d):=by
 rw[zU];refine(h.level i d 0 hi om om).bind fun x j h1 hj=> ?_;refine g_.bind ?_ fun p m h4 hm=>((dU hl hm).bind fun _ p _ hp=>g_.ok _ hp).weak;split
 ·rename_i h3;exact(((h.level (j+1) d 0 (dm hl hj h3) om om).bind fun x q _ hq=>g_.ok _ hq).weak).from om
 ·exact g_.ok _ hj
theorem WI (f:Nat) (h:Fu l f) (i d:Nat) (hi:i<l.length) (hf:16*(l.length-i)+11≤f+1):Gd l.length i (uY (f+1) l i d):=by
 rw[uY];split
 ·rename_i h1;exact g_.strict ((h.lett (i+1) d (dm hl hi h1) om).bind fun p j _ hj=>g_.ok _ hj).weak (Nat.lt_succ_self i)
 ·split
  ·rename_i h1;refine g_.strict ((h.level (i+1) d 0 (dm hl hi h1) om om).bind fun x j h2 hj=> ?_).weak (Nat.lt_succ_self i);refine((h.block j d hj om).bind fun b k h3 hk=> ?_).weak;split
   ·rename_i h4;exact(((h.block (k+1) d (dm hl hk h4) om).bind fun c m _ hm=>g_.ok _ hm).weak).from om
   ·exact g_.ok _ hk
  ·split
   ·rename_i h1;exact g_.strict ((h.level (i+1) d 0 (dm hl hi h1) om om).bind fun x j h2 hj=>((h.block j d hj om).bind fun b k h3 hk=>g_.ok _ hk).weak).weak (Nat.lt_succ_self i)
   ·split
    ·rename_i h1;have h2:=dm hl hi h1;refine g_.strict (g_.bind (i:=i+1) ?_ fun e m h4 hm=>((dU hl hm).bind fun _ p _ hp=>g_.ok _ hp).weak) (Nat.lt_succ_self i);split
     ·exact g_.ok _ h2
     ·exact((h.level (i+1) d 0 h2 om om).bind fun x q _ hq=>g_.ok _ hq).weak
    ·split
     ·rename_i h1;exact g_.strict ((dU hl (dm hl hi h1)).bind fun _ j _ hj=>g_.ok _ hj).weak (Nat.lt_succ_self i)
     ·split
      ·exact(h.block i d hi om).bind fun b j _ hj=>g_.ok _ hj
      ·exact(h.sett i d hi om).bind fun p j _ hj=>g_.ok _ hj
theorem WJ (f:Nat) (h:Fu l f) (i d:Nat) (hi:i<l.length) (hf:16*(l.length-i)+1≤f+1):Gd l.length i (uD (f+1) l i d):=by
 rw[uD];have ok1:∀(x:Ex),(tokA l i).kind≠0→Gd l.length i (.ok x (i+1)):=fun x hk=>⟨Nat.lt_succ_self i,wC hl hi hk⟩;have okF:∀(s:List UInt8) (x:Ex),bD l i s=true→Gd l.length i (.ok x (i+1)):=fun s x hk=>⟨Nat.lt_succ_self i,dm hl hi hk⟩;by_cases h1:(tokA l i).kind=3
 ·rw[if_pos h1];exact ok1 _ om
 rw[if_neg h1];clear h1;by_cases h1:(tokA l i).kind=4
 ·rw[if_pos h1];exact ok1 _ om
 rw[if_neg h1];clear h1;by_cases h1:bD l i [116,114,117,101]=true
 ·rw[if_pos h1];exact okF _ _ h1
 rw[if_neg h1];clear h1;by_cases h1:bD l i [102,97,108,115,101]=true
 ·rw[if_pos h1];exact okF _ _ h1
 rw[if_neg h1];clear h1;by_cases h1:bD l i [99,104,111,111,115,101]=true
 ·rw[if_pos h1];exact okF _ _ h1
 rw[if_neg h1];clear h1;by_cases h1:bD l i [66,111,120]=true
 ·rw[if_pos h1];exact g_.strict ((h.one (i+1) d (dm hl hi h1) (by have:=dm hl hi h1;omega)).bind fun x j _ hj=>g_.ok _ hj).weak (Nat.lt_succ_self i)
 rw[if_neg h1];clear h1;by_cases h1:bD l i [117,110,98,111,120]=true
 ·rw[if_pos h1];exact g_.strict ((h.one (i+1) d (dm hl hi h1) (by have:=dm hl hi h1;omega)).bind fun x j _ hj=>g_.ok _ hj).weak (Nat.lt_succ_self i)
 rw[if_neg h1];clear h1;by_cases h1:bD l i [110,101,119]=true
 ·rw[if_pos h1];have h2:=dm hl hi h1;refine g_.strict ((iE hl h2).bind fun n j h3 hj=> ?_).weak (Nat.lt_succ_self i);refine((dU hl hj).bind fun _ k h4 hk=> ?_).weak;split
  ·rename_i h5;exact⟨by omega,dm hl hk h5⟩
  ·exact((h.made k d _ _ hk om).bind fun p m _ hm=>g_.ok _ hm).weak
 rw[if_neg h1];clear h1;by_cases h1:bD l i [97,115]=true
 ·rw[if_pos h1];have h2:=dm hl hi h1;refine g_.strict ((iE hl h2).bind fun n j h3 hj=> ?_).weak (Nat.lt_succ_self i);refine((dU hl hj).bind fun _ k h4 hk=> ?_).weak;refine g_.bind ?_ fun ns m h5 hm=>((h.block m d hm om).bind fun b p _ hp=>g_.ok _ hp).weak;split
  ·rename_i h6;exact⟨by omega,dm hl hk h6⟩
  ·exact(h.bars k _ hk om).weak
 rw[if_neg h1];clear h1;by_cases h1:bD l i [40]=true
 ·rw[if_pos h1];have h2:=dm hl hi h1;split
  ·rename_i h3;exact⟨by omega,dm hl h2 h3⟩
  ·exact g_.strict ((h.level (i+1) d 0 h2 om om).bind fun x j h3 hj=>((dU hl hj).bind fun _ k _ hk=>g_.ok _ hk).weak).weak (Nat.lt_succ_self i)
 rw[if_neg h1];clear h1;by_cases h1:bD l i [115,101,108,102]=true
 ·rw[if_pos h1];exact okF _ _ h1
 rw[if_neg h1];clear h1;refine(iE hl hi).bind fun n j h3 hj=> ?_;split
 ·rename_i h4;exact(((h.list (j+1) d (dm hl hj h4) (by have:=dm hl hj h4;omega)).bind fun al k _ hk=>g_.ok _ hk).weak).from om
 ·exact g_.ok _ hj
theorem DV:∀f,Fu l f:=by
 intro f;induction f with
 |zero=>constructor<;>intros<;>omega
 |succ f ih=>
  exact⟨fun i d=>Z4 hl f ih i d,fun i d ls ts=>Wy hl f ih i d ls ts,fun i ns=>WA hl f ih i ns,fun i d n=>Tv f ih i d n,fun i d n x=>Z5 hl f ih i d n x,fun i d=>Tz hl f ih i d,fun i d=>WB f ih i d,fun i d x=>WC hl f ih i d x,
   fun i d=>WE hl f ih i d,fun i d acc=>WG hl f ih i d acc,fun i d=>Z7 hl f ih i d,fun i d ns al=>WH hl f ih i d ns al,fun i d=>WJ hl f ih i d,fun i d=>TB hl f ih i d,fun i d acc=>TD hl f ih i d acc,fun i d=>Z8 hl f ih i d,fun i d=>Z9 hl f ih i d,fun i d=>WI hl f ih i d⟩
end
theorem catch_panicking (b:Nat) (c ln col:Int) (v0 v1 v2:Value) (older:List PanicEntry) (w:World) (hc:w.heap[b]?=some (.cells #[v0,v1,v2] 27 (0,0))):
  CallsD Tryz.prog 183 #[.pointer (some ⟨b,0,none⟩)] (.panicking ({v:=.iface 251 (.agg #[ah c,ah ln,ah col]),recovered:=false}::older)) w fun e u' w'=>
   e=.returned (.tuple #[])∧u'=.panicking ({v:=.iface 251 (.agg #[ah c,ah ln,ah col]),recovered:=true}::older)∧w'.heap[b]?=some (.cells #[ah c,ah ln,ah col] 27 (0,0))∧Step (·=b) w w':=by
 refine callsD_of_wpS Tryz.func183 rfl fun c₀ cs hu=> ?_
 obtain⟨⟨g0,g1,g2⟩,k0,k1,k2⟩:=wE hc
 have hlt:b<w.heap.size:=aI hc
 apply wpS_seq
 apply wpS_region
 have hta:∀(x:Value) (w:World),(Instr.typeAssert (.iface 251 x) 20 251 true).run Tryz.prog w=.ok (.tuple #[x,dV true]) w:=fun _ _=>by kernel_rfl
 simp[wpOpsS,go_sem,recoverD,hu,Tryz.ntmps183,Exit.thenS]
 refine wpS_of_wp ?_
 simp only[Array.replicate_succ,Array.replicate_zero,List.push_toArray,List.append_toArray,List.nil_append,List.cons_append,List.setIfInBounds_toArray,List.set_cons_zero,List.set_cons_succ]
 go_wp2
 refine⟨rfl,_,rfl,.tuple #[],by simp[results,Tryz.results183,go_sem],rfl,rfl,?_,?_⟩
 ·
  have:=aV (aV (aV hc 0 (.int .i64 c)) 1 (.int .i64 ln)) 2 (.int .i64 col)
  exact aN this
 ·
  exact((((Step.refl (·=b) w).setCell ⟨b,0,none⟩ _ iI).setCell ⟨b,1,none⟩ _ iI).setCell ⟨b,2,none⟩ _ iI).alloc _
theorem catch_idle (b:Nat) (w:World):CallsD Tryz.prog 183 #[.pointer (some ⟨b,0,none⟩)] .returning w fun e u' w'=>e=.returned (.tuple #[])∧u'=.returning∧w'=w:=by refine callsD_of_wpS Tryz.func183 rfl fun c₀ cs hu=> ?_;apply wpS_seq;apply wpS_region;simp[wpOpsS,go_sem,recoverD,hu,Tryz.ntmps183,Exit.thenS];refine wpS_of_wp ?_;simp only[Array.replicate_succ,Array.replicate_zero,List.push_toArray,List.append_toArray,List.nil_append,List.cons_append,List.setIfInBounds_toArray,List.set_cons_zero,List.set_cons_succ];go_wp2;cases c₀;simp_all [bodyPostS,results,Tryz.results183,go_sem]
def sN (w:World) (lv:Value):World:=(w.alloc (.cells #[ah 0,ah 0,ah 0] 27)).alloc (.cells #[lv,ah 0,ah 0] 210)
theorem Px (a:Option Addr) (n cap k:Nat) (caps:List Value) (w:World) (c ln col:Nat) (Q:World→Prop) (hk:Enters k)
  (hby:Calls Tryz.prog k (.pointer (some ⟨w.heap.size+1,0,none⟩)::caps).toArray (sN w (.slice a n cap)) fun e w'=>
   e=.panicked [{v:=.iface 251 (.agg #[ah c,ah ln,ah col]),recovered:=false}]∧(w'.heap[w.heap.size]?=some (.cells #[ah 0,ah 0,ah 0] 27 (0,0)))∧Q w'):
  Calls Tryz.prog 137 #[.slice a n cap,.func (.func k) #[] caps.toArray] w fun e w'=>
   e=.returned (.agg #[ah c,ah ln,ah col])∧∃w1,Q w1∧Step (·=w.heap.size) w1 w':=by
 have hmf:∀(fn:Fn) (first cap:Array Value) (w:World),(Instr.makeFunc fn first cap).run Tryz.prog w=.ok (.func fn first cap) w:=fun _ _ _ _=>rfl
 have hfe:∀(fn:Fn) (x y:Array Value) (w:World),(binOp .eql 208 (.func fn x y) .nilFunc).run Tryz.prog w=.ok (.bool false) w:=fun _ _ _ _=>by kernel_rfl
 have hen:Enters k:=hk
 unfold Enters at hen
 have HB:=ak hby
 clear hby hk
 go_enter_defers Tryz.func137,Tryz.ntmps137
 go_wp2_with fail
 refine HB.o.mono ?_
 rintro e w1 ⟨rfl,hE,hQ⟩
 refine leaves_cons (f:=183) (args:= #[.pointer (some ⟨w.heap.size,0,none⟩)]) (by simp) (by simp[go_sem]) ?_
 refine(catch_panicking w.heap.size c ln col _ _ _ [] w1 hE).mono ?_
 rintro e u' w2 ⟨rfl,rfl,hE2,hst⟩
 obtain⟨⟨g0,g1,g2⟩,_⟩:=wE hE2
 simp[Leaves,settle,results,Tryz.results137,go_sem,g0,g1,g2]
 exact⟨w1,hQ,hst⟩
theorem WL (a:Option Addr) (n cap k:Nat) (caps:List Value) (w:World) (Q:World→Prop) (hk:Enters k)
  (hby:Calls Tryz.prog k (.pointer (some ⟨w.heap.size+1,0,none⟩)::caps).toArray (sN w (.slice a n cap)) fun e w'=>
   e=.returned (.tuple #[])∧(w'.heap[w.heap.size]?=some (.cells #[ah 0,ah 0,ah 0] 27 (0,0)))∧Q w'):
  Calls Tryz.prog 137 #[.slice a n cap,.func (.func k) #[] caps.toArray] w fun e w'=>
   e=.returned (.agg #[ah 0,ah 0,ah 0])∧∃w1,Q w1∧Step (·=w.heap.size) w1 w':=by
 have hmf:∀(fn:Fn) (first cap:Array Value) (w:World),(Instr.makeFunc fn first cap).run Tryz.prog w=.ok (.func fn first cap) w:=fun _ _ _ _=>rfl
 have hfe:∀(fn:Fn) (x y:Array Value) (w:World),(binOp .eql 208 (.func fn x y) .nilFunc).run Tryz.prog w=.ok (.bool false) w:=fun _ _ _ _=>by kernel_rfl
 have hen:Enters k:=hk
 unfold Enters at hen
 have HB:=ak hby
 clear hby hk
 go_enter_defers Tryz.func137,Tryz.ntmps137
 go_wp2_with fail
 refine HB.o.mono ?_
 rintro e w1 ⟨rfl,hE,hQ⟩
 have q0:=aj hE 0 _ rfl
 have q1:=aj hE 1 _ rfl
 have q2:=aj hE 2 _ rfl
 have z0:=aG hE 0
 have z1:=aG hE 1
 have z2:=aG hE 2
 have HQ:=ak hQ
 have hb2:=aV (aV (aV hE 0 (.int .i64 0)) 1 (.int .i64 0)) 2 (.int .i64 0)
 have hs2:Step (·=w.heap.size) w1 (((w1.setCell ⟨w.heap.size,0,none⟩ (.int .i64 0)).setCell ⟨w.heap.size,1,none⟩ (.int .i64 0)).setCell ⟨w.heap.size,2,none⟩ (.int .i64 0)):=(((Step.refl (·=w.heap.size) _).setCell _ _ iI).setCell _ _ iI).setCell _ _ iI
 have HB2:=ak hb2
 have HS2:=ak hs2
 clear hQ hb2 hs2
 go_wp2_with fail
 refine leaves_cons (f:=183) (args:= #[.pointer (some ⟨w.heap.size,0,none⟩)]) (by simp) (by simp[go_sem]) ?_
 refine(catch_idle w.heap.size _).mono ?_
 rintro e u' w2 ⟨rfl,rfl,rfl⟩
 obtain⟨⟨g0,g1,g2⟩,_⟩:=wE HB2.o
 simp[Leaves,settle,results,Tryz.results137,go_sem,g0,g1,g2]
 exact⟨w1,HQ.o,HS2.o⟩
def H7 {α:Type} (r:dO α) (l:List Tok):dO α:=match r with
 | .ok a j=>if(tokA l j).kind=0 then .ok a j else fD 1 l j
 | .err c ln col=>.err c ln col
 | .out=>.out
def DW {α:Type} (s:List UInt8) (p:List Tok→dO α):Except (Nat×Nat×Nat) α:=match qI s with
 | .error e=>.error e
 | .ok l=>match H7 (p l) l with
  | .ok a _=>.ok a
  | .err c ln col=>.error (c,ln,col)
  | .out=>.error (1,0,0)
theorem bC.apart {R:fV} {w w':World} {i d bo:Nat} (h:bC R w i d) (hs:Step (·=bo) w w') (h0:0<bo) (h1:bo≠R.rb) (h2:∀g o p,R.a=some ⟨g,o,p⟩→g≠bo):bC R w' i d:=by
 refine⟨hs.keep h.blk (fun e=>h1 e.symm),?_,hs.cell h.Oj (fun e=>by have e2:0=bo:=e;omega),h.pos,h.lt⟩;obtain⟨a,c,hv,hc,hm,hz,hr⟩:=h.row;refine⟨a,c,hv,hc,hm,hz,fun hn=> ?_⟩;obtain⟨g,o,ha,hg,hgw,hcell⟩:=hr hn;have hra:R.a=some ⟨g,o,none⟩:=by rw[←ha];cases hv;rfl
 exact⟨g,o,ha,hg,Nat.lt_of_lt_of_le hgw hs.size,fun i x hx=>hs.cell (hcell i x hx) (h2 g o none hra)⟩
theorem DX {α:Type} {s:List UInt8} {p:List Tok→dO α} (hc:∀l c ln col,qI s=.ok l→p l=.err c ln col→c≠0) {c ln col:Nat} (h:DW s p=.error (c,ln,col)):c≠0:=by
 unfold DW at h;cases hx:qI s with
 |error e=>rw[hx]at h;obtain⟨c',ln',col'⟩:=e;cases h;exact Jy hx
 |ok l=>
  rw[hx]at h;dsimp only at h;cases hy:p l with
  |out=>rw[hy]at h;cases h;decide
  |err c' ln' col'=>rw[hy]at h;cases h;exact hc l _ _ _ hx hy
  |ok a j=>
   rw[hy]at h;dsimp only[H7]at h;by_cases hz:(tokA l j).kind=0
   ·rw[if_pos hz]at h;cases h
   ·rw[if_neg hz,fD]at h;cases h;decide
theorem WM (s:ByteArray) (w:World) (m:Int) (hm:w.cell? ⟨0,0,none⟩=some (.int .i64 m)):Calls Tryz.prog 136 #[.string s] w (Gq w.heap.size w (qI s.data.toList)):=by
 rcases Nat.lt_or_ge 20000 s.size with h|h
 ·exact QF s w h
 ·exact Vj s w m hm h
theorem Py {α:Type} (R:fV) (k:Nat) (caps:List Value) (bc bo:Nat) (Left:World→α→Prop) (r:dO α) (w:World) (hk:Enters k) (hbc:w.cell? ⟨bc,0,none⟩=some (.func (.func k) #[] caps.toArray)) (hno:r≠.out) (hby:Calls Tryz.prog k (.agg #[dY R.rb 0]::caps).toArray w (aZ R 0 bo Left r w)) (hst:∀X Y a,Step (fun _=>False) X Y→Left X a→Left Y a):Calls Tryz.prog 138 #[.pointer (some ⟨R.rb,0,none⟩),.pointer (some ⟨bc,0,none⟩)] w (aZ R 0 bo Left (H7 r R.l) w):=by
 have hen:Enters k:=hk;unfold Enters at hen;have HB:=ak hby;have HST:=ak hst;have eH:=ak hno;have hfd0:∀(a0 a1 a2 a3 a4:Value) (w:World),(Instr.field 157 (.agg #[a0,a1,a2,a3,a4]) 0).run Tryz.prog w=.ok a0 w:=fun _ _ _ _ _ _=>by kernel_rfl
 clear hby hk hst hno;go_enter Tryz.func138,Tryz.ntmps138;go_wp2_with fail;refine HB.o.mono ?_;rintro e w1 hp;cases r with
 |out=>exact absurd rfl eH.o
 |err c ln col=>obtain⟨rfl,hs⟩:=hp;exact⟨rfl,rfl,hs⟩
 |ok a j=>
  obtain⟨rfl,hleft,hr,hs⟩:=hp;obtain⟨tk,htk⟩:=aU (tokA R.l j);have HT:=ak (show R.l[j]?=some tk by rw[htk];exact hr.tok);have Om:=ak htk;have HR:=ak hr;have Ou:=ak hleft;have HS:=ak hs;clear htk hr hleft hs hbc;go_wp2_with fail;refine(kP R _ j 0 tk HR.o HT.o).mono ?_;rintro e w2 ⟨rfl,h2⟩;have HR2:=ak (HR.o.quiet h2);have HS2:=ak h2;clear h2;by_cases hz:tk.kind=0
  ·(have e1:((tk.kind:Int) !=0)=false:=by rw[bne,jS tk.kind 0 0 rfl,hz];rfl);(have HE:Hid (H7 (.ok a j) R.l=.ok a j):=by show(if(tokA R.l j).kind=0 then dO.ok a j else fD 1 R.l j)=_;rw[←Om.o,if_pos hz]);clear hz;go_wp2_with fail;refine bodyPost_end (results_none rfl _ _ _) rfl ?_;exact aZ.dK HE.o rfl (HST.o _ _ _ HS2.o Ou.o) HR2.o (HS.o.trans (HS2.o.mono fe))
  ·(have e1:((tk.kind:Int) !=0)=true:=by rw[bne,jS tk.kind 0 0 rfl,beq_eq_false_iff_ne.2 hz];rfl);(have HE:Hid (H7 (.ok a j) R.l=.err 1 tk.line tk.col):=by show(if(tokA R.l j).kind=0 then dO.ok a j else fD 1 R.l j)=_;rw[←Om.o,if_neg hz,fD,←Om.o]);clear hz;go_wp2_with fail;refine(nZ R 1 _ j 0 tk HR2.o HT.o).mono ?_;rintro e w3 ⟨rfl,h3⟩;exact⟨rfl,aZ.aX HE.o rfl (HS.o.trans ((HS2.o.trans h3).mono fe))⟩
theorem zo:Enters 138:=fun xs w=>by go_simp
def Nw {α:Type} (bo:Nat) (Left:World→World→α→Prop) (r:Except (Nat×Nat×Nat) α) (w:World) (e:Ending) (w':World):Prop:=
 match r with
 | .ok a=>e=.returned (.agg #[ah 0,ah 0,ah 0])∧(∃X,w.heap.size≤X.heap.size∧Left X w' a)∧Step (·=bo) w w'
 | .error (c,ln,col)=>e=.returned (.agg #[ah c,ah ln,ah col])∧Step (·=bo) w w'
theorem FW {α:Type} (s:ByteArray) (k:Nat) (caps:List Value) (bo:Nat) (p:List Tok→dO α) (Left:World→World→α→Prop) (w:World) (m:Int) (hm:w.cell? ⟨0,0,none⟩=some (.int .i64 m)) (hbw:bo<w.heap.size) (hk:Enters k) (hp:∀l,qI s.data.toList=.ok l→p l≠.out) (hst:∀X Y Z a,w.heap.size≤X.heap.size→Step (fun q=>w.heap.size≤q∧q<X.heap.size) Y Z→Left X Y a→Left X Z a) (hby:∀(R:fV) (X:World),qI s.data.toList=.ok R.l→nK R.l→bC R X 0 0→w.heap.size<R.rb→(∀g o p,R.a=some ⟨g,o,p⟩→w.heap.size≤g)→Step (fun _=>False) w X→Calls Tryz.prog k (.agg #[dY R.rb 0]::caps).toArray X (aZ R 0 bo (Left X) (p R.l) X)):Calls Tryz.prog 81 #[.string s,.func (.func k) #[] caps.toArray] w (Nw bo Left (DW s.data.toList p) w):=by
 have hmf:∀(fn:Fn) (first cap:Array Value) (w:World),(Instr.makeFunc fn first cap).run Tryz.prog w=.ok (.func fn first cap) w:=fun _ _ _ _=>rfl;obtain⟨w1,hw1⟩:=aU ((w.alloc (.cells #[.func (.func k) #[] caps.toArray] 155)).alloc (.cells #[ah 0,ah 0,ah 0] 27));have cZ:Hid (Step (fun _=>False) w w1):=by show Step _ _ _;rw[hw1];exact(bJ.alloc _).alloc _
 have jL:Hid (w1.heap[w.heap.size]?=some (.cells #[.func (.func k) #[] caps.toArray] 155 (0,0))):=by show _=_;rw[hw1];exact aN (aA _ _)
 have jW:Hid (w1.heap[w.heap.size+1]?=some (.cells #[ah 0,ah 0,ah 0] 27 (0,0))):=by show _=_;rw[hw1];exact dX _ _ _
 have HW1:=ak hw1;have EX:=ak (cZ.o.cell hm (fun h=>h));have HLX:=ak (WM s w1 m EX.o);have HB:=ak hby;have HP:=ak hp;have HST:=ak hst;have hn1:=aI jW.o;have hsz1:=cZ.o.size;have HK:=ak hk;obtain⟨rl,hrl⟩:=aU (qI s.data.toList);have UZ:=ak hrl;rw[←hrl]at HLX;clear hm hk hp hst hby hw1 hrl;go_enter Tryz.func81,Tryz.ntmps81;go_upto_region 1 with fail
 rw[←HW1.o];go_wp2_with fail;refine HLX.o.mono ?_;rintro e w2 ⟨hp,h2⟩;cases rl with
 |error q=>
  obtain⟨c,ln,col⟩:=q;have hp2:e=.returned (.tuple #[au,.agg #[ah c,ah ln,ah col]]):=hp;subst hp2;have hc0:c≠0:=Jy UZ.o.symm;have bc:((c:Int)==0)=false:=by rw[beq_eq_false_iff_ne];omega
  have HS2:=ak h2;have kz:=ak (h2.keep jW.o (fun h=>h));have hz2:=h2.size;obtain⟨⟨d0,d1,d2⟩,z0,z1,z2⟩:=wE (aN (o':=.cells #[ah c,ah ln,ah col] 27) kz.o);clear hp h2 hc0;go_wp2_with fail;refine bodyPost_ret (v:=.agg #[ah c,ah ln,ah col]) (by simp[results,Tryz.results81,go_sem,d0,d1,d2]) rfl ?_;unfold Nw DW;rw[←UZ.o];refine⟨rfl,?_⟩;have hs3:Step (·=w.heap.size+1) w2 ((((w2.alloc (.cells #[ah c,ah ln,ah col] 27)).setCell ⟨w.heap.size+1,0,none⟩ (.int .i64 c)).setCell ⟨w.heap.size+1,1,none⟩ (.int .i64 ln)).setCell ⟨w.heap.size+1,2,none⟩ (.int .i64 col)):=((((Step.refl (·=w.heap.size+1) _).alloc _).setCell _ _ iI).setCell _ _ iI).setCell _ _ iI;exact((cZ.o.trans HS2.o).mono fe).then hs3 oi
 |ok l=>
  obtain⟨v,rfl,hown⟩:∃v,e=.returned (.tuple #[v,.agg #[ah 0,ah 0,ah 0]])∧w2.ownsRow w1.heap.size 157 5 v l.length (uS l):=hp;obtain⟨a,c,rfl⟩:=a_ hown;obtain⟨hlk,hl0⟩:=zl UZ.o.symm;have hpn:=HP.o l UZ.o.symm;obtain⟨w3,hw3⟩:=aU (w2.alloc (.cells #[ah 0,ah 0,ah 0] 27));have eX:Hid (Step (fun _=>False) w w3):=by show Step _ _ _;rw[hw3];exact(cZ.o.trans h2).alloc _
  have nN:Hid (Step (fun _=>False) w1 w3):=by show Step _ _ _;rw[hw3];exact h2.alloc _
  have kU:Hid (w3.heap[w2.heap.size]?=some (.cells #[ah 0,ah 0,ah 0] 27 (0,0))):=by show _=_;rw[hw3];exact aA _ _
  have HOW:=ak ((show Step (fun _=>False) w2 w3 by rw[hw3];exact bJ.alloc _).owns hown (fun _ _ h=>h));have oV:=ak (nN.o.cell EX.o (fun h=>h));have wH:=ak (nN.o.keep jL.o (fun h=>h));have qR:=ak (nN.o.keep jW.o (fun h=>h));have HW3:=ak hw3;have hz13:=nN.o.size;clear hown h2 hw3;obtain⟨R,hR⟩:∃R:fV,R=⟨w3.heap.size+1,a,c,l,m⟩:=⟨_,rfl⟩;have hrb:R.rb=w3.heap.size+1:=by rw[hR]
  have hRl:R.l=l:=by rw[hR]
  have hRD:bC R (sN w3 (.slice a l.length c)) 0 0:=by rw[hR];have h3:Step (fun _=>False) w3 (sN w3 (.slice a l.length c)):=(bJ.alloc _).alloc _;exact⟨dX _ _ _,(Row.fA HOW.o (Nat.le_refl _)).step h3 (fun _ _ h=>h)|>.mono (Nat.le_succ _),h3.cell oV.o (fun h=>h),Nat.succ_pos _,hl0⟩
  have hRA:∀g o p,R.a=some ⟨g,o,p⟩→w.heap.size≤g:=by intro g o p e;rw[hR]at e;have e2:a=some ⟨g,o,p⟩:=e;have:=(HOW.o.lt g (by rw[e2];rfl)).1;omega
  have WN:Step (fun _=>False) w (sN w3 (.slice a l.length c)):=(eX.o.alloc _).alloc _;have hcall:=Py R k caps w.heap.size bo (Left (sN w3 (.slice a l.length c))) (p R.l) (sN w3 (.slice a l.length c)) HK.o (dQ (dQ (aj wH.o 0 _ rfl))) (by rw[hRl];exact hpn)
   (HB.o R _ (by rw[hRl];exact UZ.o.symm) (by rw[hRl];exact hlk) hRD om hRA WN) (fun X Y a hs hl=>HST.o _ X Y a WN.size (hs.mono fe) hl)
  rw[hRl,hrb]at hcall;have herr:(sN w3 (.slice a l.length c)).heap[w3.heap.size]?=some (.cells #[ah 0,ah 0,ah 0] 27 (0,0)):=aN (aA _ _);have hzr:(sN w3 (.slice a l.length c)).heap.size=w3.heap.size+2:=by simp[sN]
  have Z_:Hid (DW s.data.toList p=match H7 (p l) l with| .ok a _=>.ok a| .err c ln col=>.error (c,ln,col)| .out=>.error (1,0,0)):=by show _=_;unfold DW;rw[←UZ.o]
  obtain⟨r,hr⟩:=aU (H7 (p l) l);rw[←hr]at hcall Z_;have Yo:=ak hcall;have hrn:r≠.out:=by
   rw[hr];unfold H7;cases hx:p l with
   |out=>exact absurd hx hpn
   |err=>intro e;cases e
   |ok a j=>dsimp only;split<;>(intro e;cases e)
  obtain⟨⟨g0,g1,g2⟩,-⟩:=wE kU.o;have hlt3:w.heap.size+1<w3.heap.size:=by omega
  clear hcall hRD hRA hR hr hlk hl0 hpn;cases r with
  |out=>exact absurd rfl hrn
  |err ce ln col=>have KU:=ak (Px a l.length c 138 [.pointer (some ⟨w.heap.size,0,none⟩)] w3 ce ln col (fun X=>Step (fun q=>q=w3.heap.size+1∨q=bo) (sN w3 (.slice a l.length c)) X) zo (Yo.o.mono fun e X hp=>⟨hp.1,hp.2.keep herr om,(by have h9:=hp.2;rw[hrb]at h9;exact h9)⟩));(go_upto_region 2 with fail);rw[←HW3.o];go_wp2_with fail;refine KU.o.mono ?_;rintro e w5 ⟨rfl,w4,h4,h5⟩;have LM:Step (·=bo) w3 w5:=((((Step.refl (fun _=>False) _).alloc _).alloc _).mono fe|>.then h4 oi).then h5 oi;have aac:=ak LM;obtain⟨⟨d0,d1,d2⟩,z0,z1,z2⟩:=wE (LM.keep qR.o om);clear h4 h5 LM g0 g1 g2;go_wp2_with fail;refine bodyPost_ret (v:=.agg #[ah ce,ah ln,ah col]) (by simp[results,Tryz.results81,go_sem,d0,d1,d2]) rfl ?_;rw[Z_.o];refine⟨rfl,?_⟩;have hs3:Step (·=w.heap.size+1) w5 (((w5.setCell ⟨w.heap.size+1,0,none⟩ (.int .i64 ce)).setCell ⟨w.heap.size+1,1,none⟩ (.int .i64 ln)).setCell ⟨w.heap.size+1,2,none⟩ (.int .i64 col)):=(((Step.refl (·=w.heap.size+1) _).setCell _ _ iI).setCell _ _ iI).setCell _ _ iI;exact((eX.o.mono fe).trans aac.o).then hs3 oi
  |ok x j=>have HRO:=ak (WL a l.length c 138 [.pointer (some ⟨w.heap.size,0,none⟩)] w3 (fun X=>Left (sN w3 (.slice a l.length c)) X x∧Step (fun q=>q=w3.heap.size+1∨q=bo) (sN w3 (.slice a l.length c)) X) zo (Yo.o.mono fun e X hp=>⟨hp.1,hp.2.2.2.keep herr om,hp.2.1,(by have h9:=hp.2.2.2;rw[hrb]at h9;exact h9)⟩));(go_upto_region 2 with fail);rw[←HW3.o];go_wp2_with fail;refine HRO.o.mono ?_;rintro e w5 ⟨rfl,w4,⟨hleft,h4⟩,h5⟩;have LM:Step (·=bo) w3 w5:=((((Step.refl (fun _=>False) _).alloc _).alloc _).mono fe|>.then h4 oi).then h5 oi;have aac:=ak LM;have Ou:=ak hleft;have oQ:=ak h5;obtain⟨⟨d0,d1,d2⟩,z0,z1,z2⟩:=wE (LM.keep qR.o om);clear h4 h5 LM g0 g1 g2 hleft;go_wp2_with fail;refine bodyPost_ret (v:=.agg #[ah 0,ah 0,ah 0]) (by simp[results,Tryz.results81,go_sem,d0,d1,d2]) rfl ?_;rw[Z_.o];have hs3:Step (·=w.heap.size+1) w5 (((w5.setCell ⟨w.heap.size+1,0,none⟩ (.int .i64 0)).setCell ⟨w.heap.size+1,1,none⟩ (.int .i64 0)).setCell ⟨w.heap.size+1,2,none⟩ (.int .i64 0)):=(((Step.refl (·=w.heap.size+1) _).setCell _ _ iI).setCell _ _ iI).setCell _ _ iI;refine⟨rfl,⟨_,WN.size,HST.o _ w4 _ x WN.size ?_ Ou.o⟩,((eX.o.mono fe).trans aac.o).then hs3 oi⟩;refine(oQ.o.mono (fun q _ e=>⟨by omega,by omega⟩)).trans (hs3.mono (fun q _ e=>⟨by omega,by omega⟩))
section
variable {P : Program} {w : World}
theorem pI {fn:Func} {x y t2:Nat} (h:fn.results= #[.tmp x,.cell y t2]) (tmps:Array Value) (b2 tt2:Nat) (v:Value) (ds:List Value) (d2:TypeDesc) (hx:tmps.getD x undef=v) (hy:tmps.getD y undef=.pointer (some ⟨b2,0,none⟩)) (hb2:w.heap[b2]?=some (.cells ds.toArray tt2 (0,0))) (hu2:P.underlying t2=some d2) (hd2:d2.isRow=true) (hi2:(P.info? t2).map (·.size)=some ds.length):(results fn tmps).run P w=.ok (.tuple #[v,.agg ds.toArray]) w:=by have hl2:=run_loadVar_mid (P:=P) w b2 0 t2 ds d2 (fun j v hv=>by rw[Nat.zero_add];exact aj hb2 j v oJ) hu2 hd2 hi2;rw[Array.getD_eq_getD_getElem?]at hx hy;simp[results,h,hx,hy,asAddr,hl2]
end
theorem Tryz.iY:(Tryz.prog.info? 27).map (·.size)=some 3:=by kernel_rfl
def qB:Nat:=200000
theorem g_.code {α:Type} {N i:Nat} {r:dO α} (h:g_ N i r) {c ln col:Nat} (e:r=.err c ln col):c≠0:=by subst e;exact h
section
variable {l : List Tok} (hl : nK l)
include hl
theorem WO:∀(f i:Nat) (ls ts:List ByteArray),i<l.length→16*(l.length-i)+1≤f→Gd l.length i (mF f l i ls ts):=by
 intro f;induction f with
 |zero=>intro i ls ts hi hf;omega
 |succ f ih=>
  intro i ls ts hi hf;rw[mF];refine(mG hi).xu fun _ i2 h0 hi2=> ?_;refine Gd.bind ?_ fun p j h1 hj=> ?_
  ·split
   ·exact(zn hl hi2).bind fun x j _ hj=>g_.ok _ hj
   ·exact(iE hl hi2).bind fun x j _ hj=>g_.ok _ hj
  ·split
   ·rename_i h2;exact((ih (j+1) _ _ (dm hl hj h2) om).weak).from om
   ·exact((dU hl hj).bind fun _ k _ hk=>g_.ok _ hk).weak
theorem LU (f i:Nat) (hi:i<l.length) (hf:16*(l.length-i)+1≤f):g_ l.length i (jl f l i):=by
 unfold jl;split
 ·rename_i h;exact((WO hl f (i+1) _ _ (dm hl hi h) om).weak).from om
 ·exact g_.ok _ hi
theorem WQ:∀(f i d:Nat) (e:List UInt8) (m:Nat) (acc:List Pm),i<l.length→16*(l.length-i)+1≤f→Gd l.length i (pq f l i d e m acc):=by
 intro f;induction f with
 |zero=>intro i d e m acc hi hf;omega
 |succ f ih=>
  intro i d e m acc hi hf;rw[pq];refine(mG hi).xu fun _ i2 h0 hi2=> ?_;refine(iE hl hi2).bind fun n j h1 hj=> ?_;refine((dU hl hj).bind fun _ j2 h2 hj2=> ?_).weak;refine(((DV hl f).typ j2 d hj2 om).bind fun ty k h3 hk=> ?_).weak;split
  ·rename_i h4;exact((ih (k+1) d e m _ (dm hl hk h4) om).weak).from om
  ·exact((dU hl hk).bind fun _ q _ hq=>g_.ok _ hq).weak
theorem Am (f i d:Nat) (e:List UInt8) (m:Nat) (hi:i<l.length) (hf:16*(l.length-i)+1≤f):Gd l.length i (dA f l i d e m):=by
 unfold dA;split
 ·rename_i h;exact⟨Nat.lt_succ_self i,dm hl hi h⟩
 ·exact WQ hl f i d e m [] hi hf
theorem TG (f i d:Nat) (hi:i<l.length) (hf:16*(l.length-i)+1≤f):g_ l.length i (iT f l i d):=by
 unfold iT;split
 ·rename_i h;exact(((DV hl f).typ (i+1) d (dm hl hi h) om).weak).from om
 ·exact g_.ok _ hi
theorem PD:∀(f i:Nat) (p:Bool) (ts ls:List ByteArray),i<l.length→16*(l.length-i)+1≤f→Gd l.length i (gq f l i p ts ls):=by
 intro f;induction f with
 |zero=>intro i p ts ls hi hf;omega
 |succ f ih=>
  intro i p ts ls hi hf;rw[gq];refine(mG hi).xu fun _ i2 h0 hi2=> ?_;refine Gd.bind ?_ fun q j h1 hj=> ?_
  ·split
   ·exact(iE hl hi2).bind fun x j _ hj=>g_.ok _ hj
   ·exact(zn hl hi2).bind fun x j _ hj=>g_.ok _ hj
  ·split
   ·rename_i h2;exact((ih (j+1) p _ _ (dm hl hj h2) om).weak).from om
   ·exact g_.ok _ hj
theorem TI (f i:Nat) (hi:i<l.length) (hf:16*(l.length-i)+1≤f):Gd l.length i (oN f l i):=by
 unfold oN;have ho:=H6 hl hi;refine g_.xu ?_ fun p j h1 hj=>(dU hl hj).bind fun _ k h2 hk=>((PD hl f k p.2 [] [] hk om).bind fun q m _ hm=>g_.ok _ hm).weak;split
 ·exact(((iE hl ho.2).bind fun n j _ hj=>g_.ok _ hj).weak).from ho.1
 ·exact⟨ho.1,ho.2⟩
theorem PE:∀(f i:Nat) (acc:List Bd),i<l.length→16*(l.length-i)+2≤f→Gd l.length i (kS f l i acc):=by
 intro f;induction f with
 |zero=>intro i acc hi hf;omega
 |succ f ih=>
  intro i acc hi hf;rw[kS];refine(mG hi).xu fun _ i2 h0 hi2=> ?_;refine(TI hl f i2 hi2 om).bind fun b j h1 hj=> ?_;split
  ·rename_i h2;exact((ih (j+1) _ (dm hl hj h2) om).weak).from om
  ·exact g_.ok _ hj
theorem DY (f i:Nat) (hi:i<l.length) (hf:16*(l.length-i)+1≤f):g_ l.length i (b_ f l i):=by
 unfold b_;split
 ·rename_i h;exact((PE hl f (i+1) [] (dm hl hi h) om).weak).from om
 ·exact g_.ok _ hi
theorem WR (i:Nat) (hi:i<l.length):i≤(lH l i).2∧(lH l i).2<l.length:=by
 unfold lH;split
 ·rename_i h;have h1:=dm hl hi h;have h2:=H6 hl h1;have h3:=DU hl (s:=[109,117,116]) h2.2;exact⟨by show i≤iL l _ _;omega,h3.2⟩
 ·exact⟨Nat.le_refl _,hi⟩
theorem PG (f i d:Nat) (body:Bool) (hi:i<l.length) (hf:16*(l.length-i)+1≤f):Gd l.length i (lF f l i d body):=by
 unfold lF;refine(dU hl hi).bind fun _ j h1 hj=> ?_;refine((iE hl hj).bind fun n j2 h2 hj2=> ?_).weak;refine(LU hl f j2 hj2 om).bind fun g j3 h3 hj3=> ?_;refine g_.bind ?_ fun _ j4 h4 hj4=> ?_
 ·split
  ·exact Nat.succ_ne_zero _
  ·exact g_.ok _ hj3
 refine((dU hl hj4).bind fun _ j5 h5 Zd=> ?_).weak;have hr:=WR hl j5 Zd;refine(((dU hl hr.2).bind fun _ k h6 hk=> ?_).weak).from hr.1;refine g_.bind ?_ fun ps k2 h7 hk2=> ?_
 ·split
  ·rename_i h8;have h9:=dm hl hk h8;split
   ·exact Nat.succ_ne_zero _
   ·exact((Am hl f (k+1) d [41] 8 h9 om).weak).from om
  ·exact((dU hl hk).bind fun _ q _ hq=>g_.ok _ hq).weak
 refine(TG hl f k2 d hk2 om).bind fun t k3 h8 hk3=> ?_;refine(DY hl f k3 hk3 om).bind fun wh k4 h9 hk4=> ?_;refine g_.bind ?_ fun b k5 _ hk5=>g_.ok _ hk5;split
 ·exact((DV hl f).block k4 d hk4 om).weak
 ·exact((dU hl hk4).bind fun _ q _ hq=>g_.ok _ hq).weak
theorem TJ:∀(f i d:Nat) (body:Bool) (acc:List Mt),i<l.length→16*(l.length-i)+2≤f→Gd l.length i (nI f l i d body acc):=by
 intro f;induction f with
 |zero=>intro i d body acc hi hf;omega
 |succ f ih=>
  intro i d body acc hi hf;rw[nI];split
  ·rename_i h;exact⟨Nat.lt_succ_self i,dm hl hi h⟩
  ·refine(mG hi).xu fun _ i2 h0 hi2=> ?_;exact(PG hl f i2 d body hi2 om).bind fun m j h1 hj=>(ih j d body _ hj om).weak
theorem DZ (f i d:Nat) (body:Bool) (hi:i<l.length) (hf:16*(l.length-i)+1≤f):Gd l.length i (dh f l i d body):=by unfold dh;exact(dU hl hi).bind fun _ j h1 hj=>(TJ hl f j d body [] hj om).weak
theorem WS (i:Nat) (hi:i<l.length):Gd l.length i (jg l i):=by
 unfold jg;split
 ·rename_i h;exact⟨Nat.lt_succ_self i,dm hl hi h⟩
 ·split
  ·rename_i h;exact⟨Nat.lt_succ_self i,dm hl hi h⟩
  ·split
   ·rename_i h;exact⟨Nat.lt_succ_self i,dm hl hi h⟩
   ·exact iE hl hi
theorem WT (f i d:Nat) (hi:i<l.length) (hf:16*(l.length-i)+1≤f):Gd l.length i (jD f l i d):=by
 unfold jD;by_cases h1:bD l i [115,116,114,117,99,116]=true
 ·rw[if_pos h1];have h2:=dm hl hi h1;refine g_.strict ((iE hl h2).bind fun n j h3 hj=> ?_).weak (Nat.lt_succ_self i);refine(LU hl f j hj om).bind fun g j2 h4 hj2=> ?_;refine((dU hl hj2).bind fun _ j3 h5 hj3=> ?_).weak;exact((Am hl f j3 d [125] 12 hj3 om).bind fun fs j _ hj=>g_.ok _ hj).weak
 rw[if_neg h1];by_cases h1:bD l i [116,114,97,105,116]=true
 ·rw[if_pos h1];have h2:=dm hl hi h1;refine g_.strict ((iE hl h2).bind fun n j h3 hj=> ?_).weak (Nat.lt_succ_self i);exact((DZ hl f j d false hj om).bind fun fs j _ hj=>g_.ok _ hj).weak
 rw[if_neg h1];by_cases h1:bD l i [105,109,112,108]=true
 ·rw[if_pos h1];have h2:=dm hl hi h1;refine g_.strict ((iE hl h2).bind fun n j h3 hj=> ?_).weak (Nat.lt_succ_self i);refine((dU hl hj).bind fun _ j2 h4 hj2=> ?_).weak;refine((WS hl j2 hj2).bind fun hd j3 h5 hj3=> ?_).weak;refine(DY hl f j3 hj3 om).bind fun wh j4 h6 hj4=> ?_;exact((DZ hl f j4 d true hj4 om).bind fun fs j _ hj=>g_.ok _ hj).weak
 rw[if_neg h1];by_cases h1:bD l i [102,110]=true
 ·rw[if_pos h1];have h2:=dm hl hi h1;refine g_.strict ((iE hl h2).bind fun n j h3 hj=> ?_).weak (Nat.lt_succ_self i);refine(LU hl f j hj om).bind fun g j2 h4 hj2=> ?_;refine((dU hl hj2).bind fun _ j3 h5 hj3=> ?_).weak;refine((Am hl f j3 d [41] 8 hj3 om).bind fun fs j4 h6 hj4=> ?_).weak;refine(TG hl f j4 d hj4 om).bind fun t j5 h7 Zd=> ?_;refine(DY hl f j5 Zd om).bind fun wh j6 h8 hj6=> ?_;exact(((DV hl f).block j6 d hj6 om).bind fun b j _ hj=>g_.ok _ hj).weak
 rw[if_neg h1];exact Nat.succ_ne_zero _
theorem TK:∀(f i d:Nat) (acc:List It),i<l.length→16*(l.length-i)+2≤f→g_ l.length i (kL f l i d acc):=by
 intro f;induction f with
 |zero=>intro i d acc hi hf;omega
 |succ f ih=>
  intro i d acc hi hf;rw[kL];split
  ·exact g_.ok _ hi
  ·refine(mG hi).bind fun _ i2 h0 hi2=> ?_;exact((WT hl f i2 d hi2 om).bind fun x j h1 hj=>ih j d _ hj om).weak
end
def xw (s:List UInt8):Except (Nat×Nat×Nat) (List It):=DW s fun l=>kL qB l 0 0 []
theorem zu {s:List UInt8} {l:List Tok} (h:qI s=.ok l):g_ l.length 0 (kL qB l 0 0 []):=by obtain⟨hl,h0⟩:=zl h;exact TK hl qB 0 0 [] h0 (by have:=hl.len;unfold qB;omega)
def LV (X w':World) (a:List It) (cs:List Value):Prop:=∃v,cs=[v]∧jF nX w' (fun q=>X.heap.size≤q) a v
theorem JB {X Y Z:World} {a:List It} {cs:List Value} {S:Nat→Prop} (hs:Step S Y Z) (hS:∀q,X.heap.size≤q→¬S q) (h:LV X Y a cs):LV X Z a cs:=by obtain⟨v,h1,h2⟩:=h;exact⟨v,h1,(bQ aT).step _ _ hs hS h2⟩
theorem zx:Enters 82:=fun xs w=>by go_simp
theorem JC:Enters 42:=fun xs w=>by go_simp
def H9 (bo:Nat) (X w':World) (a:List It):Prop:=∃cs:List Value,w'.heap[bo]?=some (.cells cs.toArray 22 (0,0))∧LV X w' a cs
theorem JD (R:fV) (bb bo:Nat) (r:dO (List It)) (w:World) (h:bC R w 0 0) (hbb:w.cell? ⟨bb,0,none⟩=some (.func (.func 42) #[] #[])) (hbo:w.heap[bo]?=some (.cells #[au] 22 (0,0))) (h0:0<bo) (hne:bo≠R.rb) (hra:∀g o p,R.a=some ⟨g,o,p⟩→g≠bo) (hno:r≠.out) (hc:∀X:World,bC R X 0 0→Calls Tryz.prog 42 #[.agg #[dY R.rb 0]] X (aJ R 0 (ItsV X.heap.size) r X)):Calls Tryz.prog 82 #[.agg #[dY R.rb 0],.pointer (some ⟨bb,0,none⟩),.pointer (some ⟨bo,0,none⟩)] w (aZ R 0 bo (H9 bo w) r w):=by
 have hen:=JC;unfold Enters at hen;obtain⟨w1,hw1⟩:=aU (w.alloc (.cells #[dY R.rb 0] 97));have cZ:Hid (Step (fun _=>False) w w1):=by show Step _ _ _;rw[hw1];exact bJ.alloc _
 have jL:Hid (w1.heap[w.heap.size]?=some (.cells #[dY R.rb 0] 97 (0,0))):=by show _=_;rw[hw1];exact aA _ _
 have HW1:=ak hw1;have H1:=ak (h.quiet cZ.o);have p0:=aj jL.o 0 _ rfl;have b0:=cZ.o.cell hbb (fun h=>h);have HBO:=ak (cZ.o.keep hbo (fun h=>h));have hbl:=aI hbo;have HC:=ak (hc w1 H1.o);have eH:=ak hno;clear h hno hw1 hbb hbo hc;go_enter Tryz.func82,Tryz.ntmps82;go_upto_region 1 with fail
 rw[←HW1.o];go_wp2_with fail;refine HC.o.mono ?_;rintro e wx hp;cases r with
 |out=>exact absurd rfl eH.o
 |err c ln col=>obtain⟨rfl,sq⟩:=hp;exact⟨rfl,rfl,((cZ.o.mono fe).trans sq).mono il⟩
 |ok y jx=>obtain⟨⟨v,rfl,hy⟩,hrx,hsx⟩:=hp;obtain⟨va,vc,rfl⟩:=jF.parts hy;have HY:=ak hy;have u_:=ak hrx;have pF:=ak hsx;have U0:=ak (hsx.keep HBO.o hne);clear hy hrx hsx p0 b0;have mQ:=aj U0.o 0 _ rfl;have mV:=aG U0.o 0;have eU:Hid (Step (·=bo) wx (wx.setCell ⟨bo,0,none⟩ (.slice va y.length vc))):=(Step.refl (·=bo) _).setCell _ _ iI;have FB:Hid ((wx.setCell ⟨bo,0,none⟩ (.slice va y.length vc)).heap[bo]?=some (.cells #[.slice va y.length vc] 22 (0,0))):=aV U0.o 0 _;go_wp2_with fail;refine bodyPost_end (results_none rfl _ _ _) rfl ?_;have hz1:=cZ.o.size;refine aZ.dK rfl rfl ⟨[_],FB.o,_,rfl,(bQ aT).mono _ _ oi ((bQ aT).step _ _ eU.o oi HY.o)⟩ (u_.o.apart eU.o h0 hne hra) ?_;exact(((cZ.o.mono fe).trans pF.o).mono il).trans (eU.o.mono ir)
def NE (r:Except (Nat×Nat×Nat) (List It)) (w:World) (e:Ending) (w':World):Prop:=
 (match r with
  | .ok a=>∃v,e=.returned (.tuple #[v,.agg #[ah 0,ah 0,ah 0]])∧jF nX w' (fun q=>w.heap.size≤q) a v
  | .error (c,ln,col)=>e=.returned (.tuple #[au,.agg #[ah c,ah ln,ah col]]))∧Step (fun _=>False) w w'
theorem LW (s:ByteArray) (w:World) (m:Int) (hm:w.cell? ⟨0,0,none⟩=some (.int .i64 m)):Calls Tryz.prog 41 #[.string s,.func (.func 42) #[] #[]] w (NE (xw s.data.toList) w):=by
 have hmf:∀(fn:Fn) (first cap:Array Value) (w:World),(Instr.makeFunc fn first cap).run Tryz.prog w=.ok (.func fn first cap) w:=fun _ _ _ _=>rfl;obtain⟨w1,hw1⟩:=aU (((w.alloc (.cells #[.func (.func 42) #[] #[]] 93)).alloc (.cells #[ah 0,ah 0,ah 0] 27)).alloc (.cells #[au] 22));have cZ:Hid (Step (fun _=>False) w w1):=by show Step _ _ _;rw[hw1];exact(((bJ.alloc _).alloc _).alloc _)
 have hpos:0<w.heap.size:=by
  rcases Nat.eq_zero_or_pos w.heap.size with h|h
  ·exact absurd hm (by simp[World.cell?,Array.getElem?_eq_none (show w.heap.size≤0 by omega)])
  ·exact h
 have HA0:Hid (w1.heap[w.heap.size]?=some (.cells #[.func (.func 42) #[] #[]] 93 (0,0))):=by show _=_;rw[hw1];exact aN (aN ((show(w.alloc (.cells #[.func (.func 42) #[] #[]] 93)).heap[w.heap.size]?=some (.cells #[.func (.func 42) #[] #[]] 93 (0,0)) by have h:=aA w (.cells #[.func (.func 42) #[] #[]] 93);simpa using h)))
 have HA1:Hid (w1.heap[w.heap.size+1]?=some (.cells #[ah 0,ah 0,ah 0] 27 (0,0))):=by show _=_;rw[hw1];exact aN ((show((w.alloc (.cells #[.func (.func 42) #[] #[]] 93)).alloc (.cells #[ah 0,ah 0,ah 0] 27)).heap[w.heap.size+1]?=some (.cells #[ah 0,ah 0,ah 0] 27 (0,0)) by have h:=aA (w.alloc (.cells #[.func (.func 42) #[] #[]] 93)) (.cells #[ah 0,ah 0,ah 0] 27);simpa using h))
 have HA2:Hid (w1.heap[w.heap.size+1+1]?=some (.cells #[au] 22 (0,0))):=by show _=_;rw[hw1];exact(show(((w.alloc (.cells #[.func (.func 42) #[] #[]] 93)).alloc (.cells #[ah 0,ah 0,ah 0] 27)).alloc (.cells #[au] 22)).heap[w.heap.size+1+1]?=some (.cells #[au] 22 (0,0)) by have h:=aA ((w.alloc (.cells #[.func (.func 42) #[] #[]] 93)).alloc (.cells #[ah 0,ah 0,ah 0] 27)) (.cells #[au] 22);simpa using h)
 have HW1:=ak hw1;have EX:=ak (cZ.o.cell hm (fun h=>h));have hn1:=aI HA2.o;have hsz:=cZ.o.size
 have LD:=ak (FW s 82 [.pointer (some ⟨w.heap.size,0,none⟩),.pointer (some ⟨w.heap.size+1+1,0,none⟩)] (w.heap.size+1+1) (fun l=>kL qB l 0 0 []) (H9 (w.heap.size+1+1)) w1 m EX.o (aI HA2.o) zx (fun l hl=>(zu hl).ne)
  (fun X Y Z a h1 h2 h3=>by
   obtain⟨cs,c1,c2⟩:=h3
   exact⟨cs,h2.keep c1 (fun e=>by have:=aI HA2.o;omega),JB h2 oi c2⟩)
  (fun R X hlx hl h hrb hra hs=>JD R _ _ _ X h (aj (hs.keep HA0.o (fun h=>h)) 0 _ rfl) (hs.keep HA2.o (fun h=>h)) om (by have:=aI HA2.o;omega) (fun g o p e e2=>by have:=hra g o p e;have:=aI HA2.o;omega) ((zu hlx).ne) (fun X hX=>Po qB (fun f' hf=>(Js f' (Nat.le_trans hf dc)).block) (fun f' _=>(GI f').1) R X 0 0 hl hX dc ((zu hlx).ne))))
 obtain⟨r,hr⟩:=aU (xw s.data.toList);have hrd:r=DW s.data.toList (fun l=>kL qB l 0 0 []):=hr;have NC:Hid (∀c ln col,r=.error (c,ln,col)→c≠0):=by show∀c ln col,_;intro c ln col e;rw[hr]at e;exact DX (fun l c ln col hl he=>(zu hl).code he) e
 rw[←hrd]at LD;rw[←hr];clear hm hw1 hr hrd;go_enter Tryz.func41,Tryz.ntmps41;go_upto_region 2 with fail
 rw[←HW1.o];go_wp2_with fail;refine LD.o.mono ?_;rintro e w2 hp;cases r with
 |error q=>
  obtain⟨c,ln,col⟩:=q;obtain⟨rfl,h2⟩:e=.returned (.agg #[ah c,ah ln,ah col])∧Step (·=w.heap.size+1+1) w1 w2:=hp;have hc0:=NC.o c ln col rfl;have bc:((c:Int)==0)=false:=by rw[beq_eq_false_iff_ne];omega
  obtain⟨w3,hw3⟩:=aU (w2.alloc (.cells #[ah c,ah ln,ah col] 27));have eX:Hid (Step (·=w.heap.size+1+1) w1 w3):=by show Step _ _ _;rw[hw3];exact h2.alloc _
  have kU:Hid (w3.heap[w2.heap.size]?=some (.cells #[ah c,ah ln,ah col] 27 (0,0))):=by show _=_;rw[hw3];exact aA _ _
  have HW3:=ak hw3;have ND:=ak (eX.o.keep HA1.o om);obtain⟨be,hbe⟩:=aU w2.heap.size;have hbe1:w1.heap.size≤be:=by rw[hbe];exact h2.size
  rw[←hbe]at kU;obtain⟨⟨g0,g1,g2⟩,-⟩:=wE kU.o;have Ac:Hid (Step (fun _=>False) w w3):=cZ.o.then eX.o oi;clear hc0 h2 hw3;go_upto_region 3 with fail
  rw[←HW3.o,←hbe];clear hbe;go_upto_region 4 with fail
  clear g0 g1 g2;obtain⟨Jx,hJx⟩:∃Jx:(Nat→Bool)→(Nat→Value)→World→Prop,Jx=fun L V X=>(L 0=true→V 0=.slice none 0 0)∧(L 1=true→V 1=.agg #[ah c,ah ln,ah col])∧(L 2=true→V 2=.slice none 0 0)∧X.heap[be]?=some (.cells #[ah c,ah ln,ah col] 27 (0,0))∧X.heap[w.heap.size+1]?=some (.cells (cond (L 3) #[.int .i64 c,.int .i64 ln,.int .i64 col] #[.int .i64 0,.int .i64 0,.int .i64 0]) 27 (0,0))∧Step (fun _=>False) w X:=⟨_,rfl⟩;have dL:=ak hJx;clear hJx;refine bH kr Jx 4 rfl kr kr kr kr ?h0 ?hs ?hdone;case h0=>rw[dL.o];exact⟨gJ,gJ,gJ,og kU.o,og ND.o,Ac.o.drew⟩
  case hs=>
   refine⟨?_,?_,?_,?_,trivial⟩
   all_goals (intro L V X a ev dn hdf hL ax hJ;rw[dL.o]at hJ)
   ·obtain⟨j0,j1,j2,j4,j5,j6⟩:=hJ;have o7:=dn 7 rfl;change a.tmps[7]?.getD undef=.slice none 0 0 at o7;go_simp;exact⟨_,rfl,by rw[dL.o];exact⟨fun _=>rfl,j1,j2,j4,j5,j6⟩⟩
   ·obtain⟨j0,j1,j2,j4,j5,j6⟩:=hJ;have o8:=dn 8 rfl;change a.tmps[8]?.getD undef=.pointer (some ⟨be,0,none⟩)at o8;refine wp_load_mid 27 (.tmp 8) rfl be 0 (by rw[bF];exact o8) [Value.int .i64 c,ah ln,ah col] _ (fun jj v hv=>by rw[Nat.zero_add];exact aj j4 jj v oJ) Tryz.underlying27 rfl Tryz.iY ?_;exact⟨_,rfl,by rw[dL.o];exact⟨j0,fun _=>rfl,j2,j4,j5,j6⟩⟩
   ·obtain⟨j0,j1,j2,j4,j5,j6⟩:=hJ;have e15:=(ev 0 15 rfl (ax 0 rfl)).trans (j0 (ax 0 rfl));go_simp;exact⟨_,rfl,by rw[dL.o];exact⟨j0,j1,fun _=>rfl,j4,j5,j6⟩⟩
   ·obtain⟨j0,j1,j2,j4,j5,j6⟩:=hJ;rw[hL]at j5;have o5:=dn 5 rfl;change a.tmps[5]?.getD undef=.pointer (some ⟨w.heap.size+1,0,none⟩)at o5;have e16:=(ev 1 16 rfl (ax 1 rfl)).trans (j1 (ax 1 rfl));refine dM 27 (.tmp 5) (.tmp 16) rfl (w.heap.size+1) 0 27 _ [.int .i64 c,.int .i64 ln,.int .i64 col] (by rw[bF];exact o5) (by rw[bF];exact e16) j5 Tryz.iY (Nat.le_of_eq rfl) (aP rfl) ?_;intro w9 gu hs9;exact⟨undef,rfl,by rw[dL.o];exact⟨j0,j1,j2,hs9.keep j4 om,gu,j6.then hs9 oi⟩⟩
  case hdone=>intro L V X hall hJ;rw[dL.o]at hJ;obtain⟨j0,j1,j2,j4,j5,j6⟩:=hJ;rw[hall 3 dc]at j5;have h2v:=j2 (hall 2 dc);have HD5:Hid (X.heap[w.heap.size+1]?=some (.cells [Value.int .i64 c,ah ln,ah col].toArray 27 (0,0))):=j5;have HD6:=ak j6;rw[show List.range 4=[0,1,2,3] from rfl];simp only[kC,fU,List.getElem?_toArray,List.getElem?_cons_zero,List.getElem?_cons_succ,Option.bind_some,Act.put,List.setIfInBounds_toArray,List.set_cons_zero,List.set_cons_succ,h2v];clear hall j0 j1 j2 j4 j5 j6 h2v;go_wp2_with fail;refine bodyPost_ret (pI rfl _ (w.heap.size+1) 27 (.slice none 0 0) [Value.int .i64 c,ah ln,ah col] _ rfl rfl HD5.o Tryz.underlying27 rfl Tryz.iY) rfl ?_;exact⟨rfl,HD6.o⟩
 |ok y=>
  obtain⟨rfl,⟨X0,hX0,hleft⟩,h2⟩:e=.returned (.agg #[ah 0,ah 0,ah 0])∧(∃X:World,w1.heap.size≤X.heap.size∧H9 (w.heap.size+1+1) X w2 y)∧Step (·=w.heap.size+1+1) w1 w2:=hp;obtain⟨w3,hw3⟩:=aU (w2.alloc (.cells #[ah 0,ah 0,ah 0] 27));have iM:Hid (Step (fun _=>False) w2 w3):=by show Step _ _ _;rw[hw3];exact bJ.alloc _
  have eX:Hid (Step (·=w.heap.size+1+1) w1 w3):=by show Step _ _ _;rw[hw3];exact h2.alloc _
  have kU:Hid (w3.heap[w2.heap.size]?=some (.cells #[ah 0,ah 0,ah 0] 27 (0,0))):=by show _=_;rw[hw3];exact aA _ _
  have HW3:=ak hw3;have ND:=ak (eX.o.keep HA1.o om);obtain⟨be,hbe⟩:=aU w2.heap.size;rw[←hbe]at kU;obtain⟨⟨g0,g1,g2⟩,-⟩:=wE kU.o;have Ac:Hid (Step (fun _=>False) w w3):=cZ.o.then eX.o oi;clear h2 hw3;obtain⟨cs,hcb,v,rfl,hat⟩:=hleft;obtain⟨va,vc,rfl⟩:=jF.parts hat;have HAT:=ak ((bQ aT).step _ _ iM.o (fun _ _ h=>h) hat);have Ah:=ak (iM.o.keep hcb (fun h=>h));clear hat hcb;go_upto_region 3 with fail
  rw[←HW3.o,←hbe];clear hbe;go_upto_region 5 with fail
  clear g0 g1 g2;have q0:=aj Ah.o 0 _ rfl
  go_wp2_with (refine aC (w:=w3) rfl 27 (.tmp 5) (.tmp 18) rfl (w.heap.size+1) 0 27 _ [Value.int .i64 0,ah 0,ah 0] rfl rfl ND.o Tryz.iY (Nat.le_of_eq rfl) (aP rfl) ?_
               intro w5 hb5 hst5)
  have xN:w5.heap[w.heap.size+1]?=some (.cells [Value.int .i64 0,ah 0,ah 0].toArray 27 (0,0)):=hb5;refine bodyPost_ret (pI rfl _ (w.heap.size+1) 27 (.slice va y.length vc) [Value.int .i64 0,ah 0,ah 0] _ rfl rfl xN Tryz.underlying27 rfl Tryz.iY) rfl ?_;exact⟨⟨_,rfl,(bQ aT).mono _ _ oi ((bQ aT).step _ _ hst5 oi HAT.o)⟩,Ac.o.then hst5 oi⟩
theorem PI (s:ByteArray) (w:World) (m:Int) (hm:w.cell? ⟨0,0,none⟩=some (.int .i64 m)):Calls Tryz.prog 10 #[.string s] w (NE (xw s.data.toList) w):=by
 obtain⟨w1,hw1⟩:=aU (w.alloc (.cells #[ah 0,ah 0,ah 0] 27));have cZ:Hid (Step (fun _=>False) w w1):=by show Step _ _ _;rw[hw1];exact bJ.alloc _
 have jW:Hid (w1.heap[w.heap.size]?=some (.cells #[ah 0,ah 0,ah 0] 27 (0,0))):=by show _=_;rw[hw1];exact aA _ _
 have HW1:=ak hw1;have LD:=ak (LW s w1 m (cZ.o.cell hm (fun h=>h)));have hn1:=aI jW.o;have hsz:=cZ.o.size;obtain⟨r,hr⟩:=aU (xw s.data.toList);rw[←hr]at LD⊢;clear hm hw1 hr;go_enter Tryz.func10,Tryz.ntmps10;go_upto_region 1 with fail
 rw[←HW1.o];go_wp2_with fail;refine LD.o.mono ?_;rintro e w2 ⟨hp,h2⟩;have HS2:=ak h2;have ND:=ak (h2.keep jW.o (fun h=>h));have hz2:=h2.size;cases r with
 |error q=>
  obtain⟨c,ln,col⟩:=q;have hp2:e=.returned (.tuple #[au,.agg #[ah c,ah ln,ah col]]):=hp;subst hp2;clear hp h2
  go_wp2_with (refine aC (w:=w2) rfl 27 (.tmp 3) (.tmp 7) rfl (w.heap.size) 0 27 _ [.int .i64 c,.int .i64 ln,.int .i64 col] rfl rfl ND.o Tryz.iY (Nat.le_of_eq rfl) (aP rfl) ?_
               intro w5 hb5 hst5)
  have xN:w5.heap[w.heap.size]?=some (.cells [Value.int .i64 c,ah ln,ah col].toArray 27 (0,0)):=hb5;refine bodyPost_ret (pI rfl _ (w.heap.size) 27 (.slice none 0 0) [Value.int .i64 c,ah ln,ah col] _ rfl rfl xN Tryz.underlying27 rfl Tryz.iY) rfl ?_;exact⟨rfl,(cZ.o.trans HS2.o).then hst5 oi⟩
 |ok x=>
  obtain⟨v,rfl,hy⟩:∃v,e=.returned (.tuple #[v,.agg #[ah 0,ah 0,ah 0]])∧jF nX w2 (fun q=>w1.heap.size≤q) x v:=hp;obtain⟨va,vc,rfl⟩:=jF.parts hy;have HY:=ak hy;clear hy h2
  go_wp2_with (refine aC (w:=w2) rfl 27 (.tmp 3) (.tmp 7) rfl (w.heap.size) 0 27 _ [.int .i64 0,.int .i64 0,.int .i64 0] rfl rfl ND.o Tryz.iY (Nat.le_of_eq rfl) (aP rfl) ?_
               intro w5 hb5 hst5)
  have xN:w5.heap[w.heap.size]?=some (.cells [Value.int .i64 0,ah 0,ah 0].toArray 27 (0,0)):=hb5;refine bodyPost_ret (pI rfl _ (w.heap.size) 27 (.slice va x.length vc) [Value.int .i64 0,ah 0,ah 0] _ rfl rfl xN Tryz.underlying27 rfl Tryz.iY) rfl ?_;exact⟨⟨_,rfl,(bQ aT).mono _ _ oi ((bQ aT).step _ _ hst5 oi HY.o)⟩,(cZ.o.trans HS2.o).then hst5 oi⟩
section
variable {P : Program} {w : World}
theorem fH {ops:Array Oper} {rest:List Oper} {op:Oper} {a:Act} {Q:Exit→Act→World→Prop} (hgd:op.guard=none) (ty:TypeId) (x y:Operand) (ho:op.op=.store ty x y) (b t:Nat) (c:Array Value) (vs:List Value) (hx:a.eval x=.pointer (some ⟨b,0,none⟩)) (hy:a.eval y=.agg vs.toArray) (hb:w.heap[b]?=some (.cells c t (0,0))) (hi:(P.info? ty).map (·.size)=some vs.length) (hc:vs.length=c.size) (h1:∀v∈vs,v.oneCell'=true) (h:∀w',w'.heap[b]?=some (.cells vs.toArray t (0,0))→Step (·=b) w w'→wpList P ops Q rest (a.put op.dst undef) w'):wpList P ops Q (op::rest) a w:=by refine aC hgd ty x y ho b 0 t c vs hx hy hb hi om h1 (fun w' hb' hs=>h w' ?_ hs);rw[hb',List.drop_eq_nil_of_le (by rw[Nat.zero_add,Array.length_toList];omega),List.append_nil];rfl
theorem fZ {fn:Func} {x y t:Nat} (h:fn.results= #[.cell x t,.tmp y]) (tmps:Array Value) (b tt:Nat) (cs:List Value) (v:Value) (d:TypeDesc) (hx:tmps.getD x undef=.pointer (some ⟨b,0,none⟩)) (hy:tmps.getD y undef=v) (hb:w.heap[b]?=some (.cells cs.toArray tt (0,0))) (hu:P.underlying t=some d) (hd:d.isRow=true) (hi:(P.info? t).map (·.size)=some cs.length):(results fn tmps).run P w=.ok (.tuple #[.agg cs.toArray,v]) w:=by have hl:=run_loadVar_mid w b 0 t cs d (fun j v hv=>by rw[Nat.zero_add];exact aj hb j v oJ) hu hd hi;rw[Array.getD_eq_getD_getElem?]at hx hy;simp[results,h,hx,hy,asAddr,hl]
end
abbrev Qr:List Value:=[.int .i64 0,.string ⟨#[]⟩,.string ⟨#[]⟩,.slice none 0 0,.slice none 0 0,.slice none 0 0,.int .i64 0,.string ⟨#[]⟩,.string ⟨#[]⟩,.bool false,.slice none 0 0,.slice none 0 0,.int .i64 0,.int .i64 0,.slice none 0 0,.slice none 0 0,.slice none 0 0,.int .i64 0,.int .i64 0]
theorem itZ_at (w:World) (P:Nat→Prop):nX w P vO Qr:=
 ⟨[.int .i64 0,.string ⟨#[]⟩,.string ⟨#[]⟩,.bool false,.slice none 0 0,.slice none 0 0,.int .i64 0,.int .i64 0],_,_,_,_,_,_,rfl,by decide,by decide,cu.nil _ _,cu.nil _ _,jF.nil _ _,qi _ _,jF.nil _ _,jF.nil _ _,gy.nil _ _⟩
def GetPost (P:Nat→Prop) (T:Tab) (m:ByteArray→Option Nat) (s:ByteArray) (w:World) (e:Ending) (w':World):Prop:=
 (∃cs:List Value,e=.returned (.tuple #[.agg cs.toArray,dV (m s).isSome])∧nX w' P ((T.get m s).getD vO) cs)∧Step (fun _=>False) w w'
theorem Ap {IM:World→Nat→(ByteArray→ByteArray→Option Nat)→Prop} (him:vP IM) (tb:Nat) (T:Tab) (P:Nat→Prop) (m:ByteArray→Option Nat) (b:Nat) (s:ByteArray) (w:World) (hT:TabAt IM tb T w P) (hM:BA w b m) (hm:∀i,m s=some i→i<T.items.length) (hs:s.size≤9223372036854775807) (hP:∀k,P k→k<w.heap.size):Calls Tryz.prog 73 #[.pointer (some ⟨tb,0,none⟩),.map (some b),.string s] w (GetPost P T m s w):=by
 obtain⟨w1,hw1⟩:=aU (w.alloc (.cells Qr.toArray 51));have HST:Hid (Step (fun _=>False) w w1):=by show Step _ _ _;rw[hw1];exact bJ.alloc _
 have HB1:Hid (w1.heap[w.heap.size]?=some (.cells Qr.toArray 51 (0,0))):=by show _=_;rw[hw1];exact aA _ _
 have HW1:=ak hw1;have HT:=ak ((qA him tb T).step HST.o (fun _ _ h=>h) hT);have hlook:=(hM.step HST.o (fun h=>h)).look s hs;obtain⟨r,hr⟩:=aU (m s);have HR:=ak hr;rw[←hr]at hm hlook;have HM:=ak hm;have hlt:=aI HB1.o;have HP:=ak hP;have HPO:Hid (∀(cs:List Value) (X:World),nX w1 P ((r.bind fun i=>T.items[i]?).getD vO) cs→Step (·=w.heap.size) w1 X→GetPost P T m s w (.returned (.tuple #[.agg cs.toArray,dV r.isSome])) X):=by intro cs X h1 h2;refine⟨⟨cs,by rw[hr],?_⟩,HST.o.then h2 (fun i hi e=>by omega)⟩;rw[Tab.get,←hr];exact aT.step _ _ h2 (fun k hk e=>by have:=HP.o k hk;omega) h1
 clear hw1 hT hM hm hr hP;go_enter Tryz.func73,Tryz.ntmps73;go_upto_region 1 with fail
 rw[←HW1.o];cases r with
 |none=>go_wp2_with (refine fH rfl 51 (.tmp 6) (.tmp 18) rfl w.heap.size 51 _ Qr rfl rfl HB1.o Tryz.dF rfl (aP rfl) ?_;intro wR hbR bT);refine bodyPost_ret (fZ rfl _ w.heap.size 51 Qr _ _ rfl rfl hbR Tryz.underlying51 rfl Tryz.dF) rfl ?_;exact HPO.o Qr wR (itZ_at _ _) bT
 |some i=>
  obtain⟨vi,ms,mt,mf,mi,h1,⟨xs,⟨a,c,rfl,hcl,hcm,-,hrow⟩,hls⟩,-⟩:=HT.o.ex;have hil:=HM.o i rfl;obtain⟨x,hx⟩:∃x,T.items[i]?=some x:=⟨T.items[i],List.getElem?_eq_getElem hil⟩;obtain⟨g,o,rfl,hg,hgw,hcell⟩:=hrow om;obtain⟨cs,hat,hget⟩:=lG.get aT i hls hx;have iH:Hid (∀(jj:Nat) v,cs[jj]?=some v→w1.cell? ⟨g,o+i*19+jj,none⟩=some v):=by show∀jj v,_;intro jj v hv;rw[Nat.add_assoc];exact hcell _ _ (hget jj v hv)
  have HX:Hid (((some i).bind fun i=>T.items[i]?).getD vO=x):=by show _=_;rw[Option.bind_some,hx];rfl
  have HAT:=ak hat;have mX:Hid ((Tryz.prog.info? 51).map (·.size)=some cs.length):=by show _=_;rw[aT.len _ _ hat];exact Tryz.dF
  have qM:=ak (aT.len _ _ hat);have t0:=aj h1 0 _ rfl;clear hrow hls hx hcell hget hat h1;go_wp2_with (first
   |(refine ay rfl 51 (.tmp 24) rfl g (o+i*19) rfl cs _ iH.o Tryz.underlying51 rfl mX.o ?_)
   |(refine fH rfl 51 (.tmp 6) (.tmp 25) rfl w.heap.size 51 _ cs rfl rfl HB1.o mX.o (by rw[qM.o];rfl) (aT.one _ _ HAT.o) ?_;intro wR hbR bT))
  refine bodyPost_ret (fZ rfl _ w.heap.size 51 cs _ _ rfl rfl hbR Tryz.underlying51 rfl mX.o) rfl ?_;exact HPO.o cs wR (by rw[HX.o];exact HAT.o) bT
set_option maxRecDepth 100000
set_option maxHeartbeats 1000000
theorem H_ {IM:World→Nat→(ByteArray→ByteArray→Option Nat)→Prop} (him:vP IM) (tb:Nat) (T:Tab) (P:Nat→Prop) (s:ByteArray) (w:World) (hT:TabAt IM tb T w P) (hs:s.size≤9223372036854775807) (hP:∀k,P k→k<w.heap.size):Calls Tryz.prog 25 #[.pointer (some ⟨tb,0,none⟩),.string s] w (GetPost P T T.st s w):=by
 obtain⟨w1,hw1⟩:=aU (w.alloc (.cells Qr.toArray 51));have HST:Hid (Step (fun _=>False) w w1):=by show Step _ _ _;rw[hw1];exact bJ.alloc _
 have HB1:Hid (w1.heap[w.heap.size]?=some (.cells Qr.toArray 51 (0,0))):=by show _=_;rw[hw1];exact aA _ _
 have HW1:=ak hw1;have ht:=(qA him tb T).step HST.o (fun _ _ h=>h) hT;obtain⟨vi,ms,mt,mf,mi,h1,h2,h3,h4,h5,h6⟩:=ht.ex;have HIT:=ak (Ap him tb T P T.st ms s w1 ht h3.2 (fun i hi=>hT.st s i hi) hs (fun k hk=>Nat.lt_of_lt_of_le (hP k hk) HST.o.size));have t1:=aj h1 1 _ rfl;have HP:=ak hP;clear hw1 hT ht h1 h2 h3 h4 h5 h6 hP;go_enter Tryz.func25,Tryz.ntmps25;go_upto_region 1 with fail
 rw[←HW1.o];go_wp2_with fail;refine HIT.o.mono ?_;rintro e w2 ⟨⟨cs,rfl,hat⟩,h2⟩;have HB2:=ak (h2.keep HB1.o (fun h=>h));have ou:=ak (HST.o.trans h2);have HAT:=ak hat;have mX:Hid ((Tryz.prog.info? 51).map (·.size)=some cs.length):=by show _=_;rw[aT.len _ _ hat];exact Tryz.dF
 have qM:=ak (aT.len _ _ hat);clear h2 hat t1;go_wp2_with (refine fH rfl 51 (.tmp 4) (.tmp 16) rfl w.heap.size 51 _ cs rfl rfl HB2.o mX.o (by rw[qM.o];rfl) (aT.one _ _ HAT.o) ?_;intro wR hbR bT);refine bodyPost_ret (fZ rfl _ w.heap.size 51 cs _ _ rfl rfl hbR Tryz.underlying51 rfl mX.o) rfl ?_;exact⟨⟨cs,rfl,aT.step _ _ bT (fun k hk e=>by have:=HP.o k hk;omega) HAT.o⟩,ou.o.then bT (fun i hi e=>by omega)⟩
theorem WU {IM:World→Nat→(ByteArray→ByteArray→Option Nat)→Prop} (him:vP IM) (tb:Nat) (T:Tab) (P:Nat→Prop) (s:ByteArray) (w:World) (hT:TabAt IM tb T w P) (hs:s.size≤9223372036854775807) (hP:∀k,P k→k<w.heap.size):Calls Tryz.prog 26 #[.pointer (some ⟨tb,0,none⟩),.string s] w (GetPost P T T.tr s w):=by
 obtain⟨w1,hw1⟩:=aU (w.alloc (.cells Qr.toArray 51));have HST:Hid (Step (fun _=>False) w w1):=by show Step _ _ _;rw[hw1];exact bJ.alloc _
 have HB1:Hid (w1.heap[w.heap.size]?=some (.cells Qr.toArray 51 (0,0))):=by show _=_;rw[hw1];exact aA _ _
 have HW1:=ak hw1;have ht:=(qA him tb T).step HST.o (fun _ _ h=>h) hT;obtain⟨vi,ms,mt,mf,mi,h1,h2,h3,h4,h5,h6⟩:=ht.ex;have HIT:=ak (Ap him tb T P T.tr mt s w1 ht h4.2 (fun i hi=>hT.tr s i hi) hs (fun k hk=>Nat.lt_of_lt_of_le (hP k hk) HST.o.size));have t1:=aj h1 2 _ rfl;have HP:=ak hP;clear hw1 hT ht h1 h2 h3 h4 h5 h6 hP;go_enter Tryz.func26,Tryz.ntmps26;go_upto_region 1 with fail
 rw[←HW1.o];go_wp2_with fail;refine HIT.o.mono ?_;rintro e w2 ⟨⟨cs,rfl,hat⟩,h2⟩;have HB2:=ak (h2.keep HB1.o (fun h=>h));have ou:=ak (HST.o.trans h2);have HAT:=ak hat;have mX:Hid ((Tryz.prog.info? 51).map (·.size)=some cs.length):=by show _=_;rw[aT.len _ _ hat];exact Tryz.dF
 have qM:=ak (aT.len _ _ hat);clear h2 hat t1;go_wp2_with (refine fH rfl 51 (.tmp 4) (.tmp 16) rfl w.heap.size 51 _ cs rfl rfl HB2.o mX.o (by rw[qM.o];rfl) (aT.one _ _ HAT.o) ?_;intro wR hbR bT);refine bodyPost_ret (fZ rfl _ w.heap.size 51 cs _ _ rfl rfl hbR Tryz.underlying51 rfl mX.o) rfl ?_;exact⟨⟨cs,rfl,aT.step _ _ bT (fun k hk e=>by have:=HP.o k hk;omega) HAT.o⟩,ou.o.then bT (fun i hi e=>by omega)⟩
def qC (s:ByteArray):Bool:=eqS s ⟨#[105,110,116]⟩||(eqS s ⟨#[98,111,111,108]⟩||eqS s ⟨#[102,54,52]⟩)
theorem LX (s:ByteArray) (w:World):Calls Tryz.prog 33 #[.string s] w fun e w'=>e=.returned (.bool (qC s))∧w=w':=by
 have HQ:Hid (qC s=(eqS s ⟨#[105,110,116]⟩||(eqS s ⟨#[98,111,111,108]⟩||eqS s ⟨#[102,54,52]⟩))):=rfl;obtain⟨r,hr⟩:=aU (qC s);rw[←hr]at HQ⊢;clear hr;go_enter Tryz.func33,Tryz.ntmps33;cases h1:(s.toList==[105,110,116])with
 |true=>
  have HR:Hid (r=true):=by show _=_;rw[HQ.o,show eqS s ⟨#[105,110,116]⟩=true from rH h1];rfl
  go_wp2_with fail;go_ret;exact⟨iJ HR.o.symm,rfl⟩
 |false=>
  cases h2:(s.toList==[98,111,111,108])with
  |true=>(have HR:Hid (r=true):=by show _=_;rw[HQ.o,show eqS s ⟨#[98,111,111,108]⟩=true from rH h2,Bool.true_or,Bool.or_true]);go_wp2_with fail;go_ret;exact⟨iJ HR.o.symm,rfl⟩
  |false=>
   (have HR:Hid (r=eqS s ⟨#[102,54,52]⟩):=by show _=_;rw[HQ.o,show eqS s ⟨#[105,110,116]⟩=false from rH h1,show eqS s ⟨#[98,111,111,108]⟩=false from rH h2];rfl);cases h3:(s.toList==[102,54,52])with
   |true=>have HR3:Hid (r=true):=HR.o.trans (rH h3);go_wp2_with fail;go_ret;exact⟨iJ HR3.o.symm,rfl⟩
   |false=>have HR3:Hid (r=false):=HR.o.trans (rH h3);go_wp2_with fail;go_ret;exact⟨iJ HR3.o.symm,rfl⟩
def PK (w:World) (P:Nat→Prop) (g:Gn) (x:Value):Prop:=∃(a1:Option Addr) (c1:Nat) (a2:Option Addr) (c2:Nat),x=.agg #[.slice a1 g.aF.length c1,.slice a2 g.types.length c2]∧cu w P g.aF (.slice a1 g.aF.length c1)∧cu w P g.types (.slice a2 g.types.length c2)
theorem D5:wL PK:=⟨fun _ _ hs hP ⟨a1,c1,a2,c2,h,h1,h2⟩=>⟨a1,c1,a2,c2,h,bG.step _ _ hs hP h1,bG.step _ _ hs hP h2⟩,fun _ _ hp ⟨a1,c1,a2,c2,h,h1,h2⟩=>⟨a1,c1,a2,c2,h,bG.mono _ _ hp h1,bG.mono _ _ hp h2⟩⟩
def Tab.of (T:Tab) (s:ByteArray):Gn:=if qC s then jX else((T.get T.st s).getD vO).gen
def TL (P:Nat→Prop) (T:Tab) (s:ByteArray) (w:World) (e:Ending) (w':World):Prop:=
 (∃x:Value,e=.returned (.tuple #[x,dV (qC s||(T.st s).isSome)])∧PK w' P (T.of s) x)∧Step (fun _=>False) w w'
theorem WV {IM:World→Nat→(ByteArray→ByteArray→Option Nat)→Prop} (him:vP IM) (tb:Nat) (T:Tab) (P:Nat→Prop) (s:ByteArray) (w:World) (hT:TabAt IM tb T w P) (hs:s.size≤9223372036854775807) (hP:∀k,P k→k<w.heap.size):Calls Tryz.prog 29 #[.pointer (some ⟨tb,0,none⟩),.string s] w (TL P T s w):=by
 obtain⟨w1,hw1⟩:=aU (w.alloc (.cells #[au,au] 42));have HST:Hid (Step (fun _=>False) w w1):=by show Step _ _ _;rw[hw1];exact bJ.alloc _
 have HB1:Hid (w1.heap[w.heap.size]?=some (.cells #[au,au] 42 (0,0))):=by show _=_;rw[hw1];exact aA _ _
 have HW1:=ak hw1;have HIT:=ak (H_ him tb T P s w1 ((qA him tb T).step HST.o (fun _ _ h=>h) hT) hs (fun k hk=>Nat.lt_of_lt_of_le (hP k hk) HST.o.size));have ZG:=ak (LX s w1);have HP:=ak hP;obtain⟨g,hg⟩:=aU (T.of s);have HG:Hid (g=if qC s then jX else((T.get T.st s).getD vO).gen):=hg;have HOP:Hid (∀(x:Value) (b:Bool) (X:World),b=(qC s||(T.st s).isSome)→PK X P g x→Step (·=w.heap.size) w1 X→TL P T s w (.returned (.tuple #[x,dV b])) X):=by intro x b X h1 h2 h3;exact⟨⟨x,by rw[h1],hg▸h2⟩,HST.o.then h3 (fun i hi e=>by omega)⟩
 obtain⟨pl,hpl⟩:=aU (qC s);rw[←hpl]at ZG HG HOP;have hlt1:=aI HB1.o;clear hw1 hT hP hg hpl;go_enter Tryz.func29,Tryz.ntmps29;go_upto_region 1 with fail
 rw[←HW1.o];go_wp2_with fail;refine ZG.o.mono ?_;rintro e w2 ⟨rfl,rfl⟩;cases pl with
 |true=>go_wp2_with (refine fH rfl 42 (.tmp 4) (.tmp 10) rfl w.heap.size 42 _ [.slice none 0 0,.slice none 0 0] rfl rfl HB1.o Tryz.jf rfl (aP rfl) ?_;intro wR hbR bT);refine bodyPost_ret (fZ rfl _ w.heap.size 42 [.slice none 0 0,.slice none 0 0] _ _ rfl rfl hbR Tryz.underlying42 rfl Tryz.jf) rfl ?_;exact HOP.o _ _ wR rfl (by rw[HG.o];exact⟨_,_,_,_,rfl,cu.nil _ _,cu.nil _ _⟩) bT
 |false=>
  go_wp2_with fail;refine HIT.o.mono ?_;rintro e w3 ⟨⟨cs,rfl,hat⟩,h2⟩;obtain⟨it,hit⟩:=aU ((T.get T.st s).getD vO);rw[←hit]at HG hat;have HAT:=ak hat;have mX:Hid ((Tryz.prog.info? 51).map (·.size)=some cs.length):=by show _=_;rw[aT.len _ _ hat];exact Tryz.dF
  have qM:=ak (aT.len _ _ hat);obtain⟨w4,hw4⟩:=aU (w3.alloc (.cells cs.toArray 51));have iP:Hid (Step (fun _=>False) w1 w4):=by show Step _ _ _;rw[hw4];exact h2.alloc _
  have HB4:Hid (w4.heap[w3.heap.size]?=some (.cells cs.toArray 51 (0,0))):=by show _=_;rw[hw4];exact aA _ _
  have wI:Hid (Step (fun q=>q=w.heap.size) w3 w4):=by show Step _ _ _;rw[hw4];exact bJ.alloc _
  have HB2:=ak (iP.o.keep HB1.o (fun h=>h));have OI:=ak hw4;obtain⟨a1,c1,a2,c2,hc3,hc4,hl,ht⟩:∃(a1:Option Addr) (c1:Nat) (a2:Option Addr) (c2:Nat),cs[3]?=some (.slice a1 it.gen.aF.length c1)∧cs[4]?=some (.slice a2 it.gen.types.length c2)∧cu w3 P it.gen.aF (.slice a1 it.gen.aF.length c1)∧cu w3 P it.gen.types (.slice a2 it.gen.types.length c2):=by obtain⟨ct,vl,vt,vf,vw,vm,vb,rfl,-,-,hl,ht,-⟩:=hat;obtain⟨al,cl,rfl⟩:=hl.2.parts;obtain⟨at',Bf,rfl⟩:=ht.2.parts;exact⟨_,_,_,_,rfl,rfl,hl,ht⟩
  have iH:Hid (∀(jj:Nat) v,[Value.slice a1 it.gen.aF.length c1,.slice a2 it.gen.types.length c2][jj]?=some v→w4.cell? ⟨w3.heap.size,3+jj,none⟩=some v):=by
   show∀jj v,_;intro jj v hv;refine aj HB4.o _ _ ?_;rw[List.getElem?_toArray]
   match jj,hv with
   |0,hv=>rw[←hv];exact hc3
   |1,hv=>rw[←hv];exact hc4
   |_+2,hv=>simp at hv
  have HGW:Hid (PK w3 P it.gen (.agg #[.slice a1 it.gen.aF.length c1,.slice a2 it.gen.types.length c2])):=⟨_,_,_,_,rfl,hl,ht⟩;have hlt3:=h2.size;clear h2 hat hl ht hw4 hit;go_wp2_with (first
   |(refine bW rfl 51 (.tmp 6) (.tmp 15) rfl _ cs rfl rfl mX.o (by rw[qM.o];rfl) (aT.one _ _ HAT.o) ?_;rw[←OI.o])
   |(refine ay rfl 42 (.tmp 17) rfl w3.heap.size 3 rfl [.slice a1 it.gen.aF.length c1,.slice a2 it.gen.types.length c2] _ iH.o Tryz.underlying42 rfl Tryz.jf ?_)
   |(refine fH rfl 42 (.tmp 4) (.tmp 18) rfl w.heap.size 42 _ [.slice a1 it.gen.aF.length c1,.slice a2 it.gen.types.length c2] rfl rfl HB2.o Tryz.jf rfl (aP rfl) ?_;intro wR hbR bT))
  refine bodyPost_ret (fZ rfl _ w.heap.size 42 [.slice a1 it.gen.aF.length c1,.slice a2 it.gen.types.length c2] _ _ rfl rfl hbR Tryz.underlying42 rfl Tryz.jf) rfl ?_;exact HOP.o _ _ wR rfl (by rw[HG.o];exact D5.step _ _ (wI.o.then bT (fun i hi e=>e)) (fun k hk e=>by have:=HP.o k hk;omega) HGW.o) ((iP.o.mono fe).trans bT)
set_option maxRecDepth 100000
set_option maxHeartbeats 1000000
def LY (w:World) (P:Nat→Prop) (l:List Ty) (v:Value):Prop:=∃xs:List Value,di w P v l.length xs∧fP w P l xs
theorem pJ:wL LY:=⟨fun _ _ hs hP ⟨xs,h1,h2⟩=>⟨xs,h1.step hs hP,fP.step hs hP _ xs h2⟩,fun _ _ hp ⟨xs,h1,h2⟩=>⟨xs,h1.mono hp,fP.mono hp _ xs h2⟩⟩
theorem LY.parts {w:World} {P:Nat→Prop} {l:List Ty} {v:Value} (h:LY w P l v):∃(a:Option Addr) (c:Nat),v=.slice a l.length c:=by obtain⟨_,h,-⟩:=h;exact h.parts
def EY (T:Tab) (s:Sc) (n:ByteArray) (nl na:Nat) (ln cl:Int):List Er:=
 if s.types.any (eqS n)then(if 0<nl+na then[(5,ln,cl)]else[])
 else match T.get T.st n with
  |none=>[(3,ln,cl)]
  |some x=>if na≠x.gen.types.length then[(5,ln,cl)]else if nl≠x.gen.aF.length∧(0<nl∨s.ig=false)then[(5,ln,cl)]else[]
def jP (ls:List ByteArray) (ln cl:Int):List ByteArray→List Er
 |[]=>[]
 |x::r=>jV ls x ln cl++jP ls ln cl r
mutual
def zy (T:Tab) (s:Sc):Bool→Ty→List Er
 |b,.mk k n lf _ ls ar ln cl=>
  if k=6 then iU T s true ar
  else if k=7 then(if lf.size=0∧s.ig=true then[]else jV s.aF lf ln cl)++iU T s true ar
  else if k=8 then(if b then[]else[(5,ln,cl)])++((if(T.tr n).isSome then[]else[(3,ln,cl)])++(if lf.size=0 then[]else jV s.aF lf ln cl))
  else if k=5 then jP s.aF ln cl ls++(iU T s false ar++EY T s n ls.length ar.length ln cl)
  else[]
def iU (T:Tab) (s:Sc):Bool→List Ty→List Er
 |_,[]=>[]
 |b,t::r=>zy T s b t++iU T s b r
end
mutual
def lg:Ty→Prop
 | .mk _ _ _ _ ls ar _ _=>ls.length+ar.length≤8∧iV ar
def iV:List Ty→Prop
 |[]=>True
 |t::r=>lg t∧iV r
end
theorem iV.get:∀{l:List Ty} {t:Ty},iV l→t∈l→lg t
 |_::_,_,h,ht=>by
  rw[iV]at h
  rcases List.mem_cons.1 ht with rfl|ht
  ·
   exact h.1
  ·
   exact iV.get h.2 ht
theorem PL {T:Tab} {s:Sc} {b:Bool} {l:List Ty} {k:Nat} {x:Ty} (h:l[k]?=some x):iU T s b (l.drop k)=zy T s b x++iU T s b (l.drop (k+1)):=by obtain⟨hk,rfl⟩:=List.getElem?_eq_some_iff.1 h;rw[List.drop_eq_getElem_cons hk,iU]
theorem FX {ls:List ByteArray} {ln cl:Int} {l:List ByteArray} {k:Nat} {x:ByteArray} (h:l[k]?=some x):jP ls ln cl (l.drop k)=jV ls x ln cl++jP ls ln cl (l.drop (k+1)):=by obtain⟨hk,rfl⟩:=List.getElem?_eq_some_iff.1 h;rw[List.drop_eq_getElem_cons hk,jP]
def LZ (cb:Nat) (u:Value) (TA:World→(Nat→Prop)→Prop) (T:Tab) (n:Nat):Prop:=∀(t:Ty) (ut us:Value) (s:Sc) (b:Bool) (es:List Er) (v:Value) (w:World),SizeOf.sizeOf t<n→lg t→lm cb u TA w v es→Eg w (Out cb v w) t ut→Qo w (Out cb v w) s us→(es++zy T s b t).length≤1000000000→
 Calls Tryz.prog 70 #[.pointer (some ⟨cb,0,none⟩),ut,us,.bool b] w (lK cb u TA w v (es++zy T s b t))
def zA (cb:Nat) (u:Value) (TA:World→(Nat→Prop)→Prop) (T:Tab) (n:Nat):Prop:=∀(l:List Ty) (ul us:Value) (s:Sc) (b:Bool) (es:List Er) (v:Value) (w:World),SizeOf.sizeOf l<n→iV l→lm cb u TA w v es→LY w (Out cb v w) l ul→Qo w (Out cb v w) s us→(es++iU T s b l).length≤1000000000→
 Calls Tryz.prog 116 #[.pointer (some ⟨cb,0,none⟩),ul,us,.bool b] w (lK cb u TA w v (es++iU T s b l))
theorem gU {w:World} {b t:Nat} {cs:List Value} (h:w.heap[b]?=some (.cells cs.toArray t (0,0))):∀(jj:Nat) v,cs[jj]?=some v→w.cell? ⟨b,0+jj,none⟩=some v:=fun jj v hv=>by rw[Nat.zero_add];exact aj h jj v (by rw[List.getElem?_toArray];exact hv)
theorem Tryz.fO:(Tryz.prog.info? 138).map (·.size)=some 3:=by kernel_rfl
theorem JE (cb:Nat) (u:Value) (TA:World→(Nat→Prop)→Prop) (T:Tab) (n:Nat) (ih:LZ cb u TA T n):zA cb u TA T (n+1):=by
 intro l ul us s b es v w hn hfit h hl hs hb;have qE:=ak hfit;have D6:=ak hs;have IH:=ak ih;obtain⟨a1,c1,a2,c2,rfl,-,-⟩:=hs;obtain⟨al,cl,rfl⟩:=hl.parts;obtain⟨w1,hw1⟩:=aU (w.alloc (.cells #[.slice a1 s.aF.length c1,.slice a2 s.types.length c2,dV s.ig] 138));have HST:Hid (Step (fun _=>False) w w1):=by show Step _ _ _;rw[hw1];exact bJ.alloc _
 have HB1:Hid (w1.heap[w.heap.size]?=some (.cells [.slice a1 s.aF.length c1,.slice a2 s.types.length c2,.bool s.ig].toArray 138 (0,0))):=by show _=_;rw[hw1];exact aA _ _
 have HW1:=ak hw1;have oM:=ak (h.quiet HST.o);have HL:=ak (pJ.mv (Mv.quiet HST.o) hl);have HS:=ak (jB.mv (Mv.quiet HST.o) D6.o);have HO:=ak (h.new (k:=w.heap.size) (Nat.le_refl _) (aI HB1.o));obtain⟨tot,ht⟩:=aU (es++iU T s b l);rw[←ht]at hb⊢;have HT:=ak ht;have hsz:Hid (∀x∈l,SizeOf.sizeOf x<n):=by intro x hx;have:=List.sizeOf_lt_of_mem hx;omega
 clear h hw1 hl ht ih D6 hn hfit;go_enter Tryz.func116,Tryz.ntmps116;go_upto_region 1 with fail
 rw[←HW1.o];go_wp2_with fail;go_loopg [9,12] l.length (fun gg _ s12 wr=>∃(k:Nat) (cur:List Er) (v1:Value),s12=.int .i64 k∧k≤l.length∧l.length-k≤gg∧lm cb u TA wr v1 cur∧Mv cb w1 v wr v1∧cur++iU T s b (l.drop k)=tot);case atStart=>exact⟨0,es,v,rfl,Nat.zero_le _,by omega,oM.o,Mv.refl _ _ _,HT.o.symm⟩
 case round=>
  obtain⟨k,cur,v1,rfl,hk,hgg,hc,hm,he⟩:=hrel;have HC:=ak hc;have HM:=ak hm;have HE:=ak he;clear hc hm he;by_cases hlt:k<l.length
  ·obtain⟨x,hx⟩:∃x,l[k]?=some x:=⟨l[k],List.getElem?_eq_getElem hlt⟩;obtain⟨xs,⟨a',c',hva,hcl,hcm,-,hra⟩,hls⟩:=pJ.mv HM.o HL.o;(obtain⟨rfl,rfl⟩:al=a'∧cl=c':=by cases hva;exact⟨rfl,rfl⟩);obtain⟨g,o,rfl,hg,hgw,hcell⟩:=hra om;obtain⟨cs,hat,hget⟩:=fP.cells hls hx hcell;have iH:Hid (∀(jj:Nat) v,cs[jj]?=some v→wr.cell? ⟨g,o+k*8+jj,none⟩=some v):=hget;(have mX:Hid ((Tryz.prog.info? 46).map (·.size)=some cs.length):=by show _=_;rw[hat.len];exact Tryz.fM);have HL8:=ak hat.len;have DL:=ak hat.one;obtain⟨w3,hw3⟩:=aU (wr.alloc (.cells cs.toArray 46));(have eX:Hid (Step (fun _=>False) wr w3):=by show Step _ _ _;rw[hw3];exact bJ.alloc _);(have HB3:Hid (w3.heap[wr.heap.size]?=some (.cells cs.toArray 46 (0,0))):=by show _=_;rw[hw3];exact aA _ _);have HW3:=ak hw3;have oV:=ak (HM.o.then eX.o);have WW:=ak (oV.o.keep HB1.o HO.o);have rO:=ak (HC.o.quiet eX.o);have O3:Hid (Eg w3 (Out cb v1 w3) x (.agg cs.toArray)):=⟨cs,rfl,iG.mono (fun q _ hq=>(Mv.quiet eX.o).out hq) _ _ (iG.step eX.o (fun _ _ h=>h) _ _ hat)⟩;have HX:=ak (hsz.out x (List.mem_of_getElem? hx));have PN:=ak (qE.o.get (List.mem_of_getElem? hx));have kU:Hid ((cur++zy T s b x)++iU T s b (l.drop (k+1))=tot):=fE (by rw[←PL hx];exact HE.o);(have hlb:l.length≤9223372036854775807:=by omega);clear hcell hx hva hcl hcm hra hg hgw hls hget hat hw3;go_wp2_with (first
    |(refine ay rfl 46 (.tmp 14) rfl g (o+k*8) rfl cs _ iH.o Tryz.underlying46 rfl mX.o ?_)
    |(refine bW rfl 46 (.tmp 9) (.tmp 15) rfl _ cs rfl rfl mX.o (by rw[HL8.o];rfl) DL.o ?_;rw[←HW3.o])
    |(refine ay rfl 46 (.tmp 9) rfl wr.heap.size 0 rfl cs _ (gU HB3.o) Tryz.underlying46 rfl mX.o ?_)
    |(refine ay rfl 138 (.tmp 6) rfl w.heap.size 0 rfl [.slice a1 s.aF.length c1,.slice a2 s.types.length c2,.bool s.ig] _ (gU WW.o) Tryz.underlying138 rfl Tryz.fO ?_))
   refine(IH.o x _ _ s b cur v1 _ HX.o PN.o rO.o O3.o (jB.mv oV.o HS.o) (dB kU.o hb)).mono ?_;rintro e w4 ⟨rfl,v4,h4,h5⟩;have EZ:=ak h4;have Ia:=ak (oV.o.trans h5);clear h4 h5;go_wp2_with fail;go_roundg (gk-1);case rel=>exact⟨k+1,_,v4,by go_num,hlt,by rw[←Nat.sub_sub];exact Nat.sub_le_sub_right hgg 1,EZ.o,Ia.o,kU.o⟩
   case measure=>omega
  ·(have hk2:k=l.length:=by omega);(have Bo:Hid (cur=tot):=by show _=_;have:=HE.o;rw[hk2,List.drop_length,iU,List.append_nil]at this;exact this);go_wp2_with fail;refine bodyPost_ret (results_none rfl _ _ _) rfl ?_;exact⟨rfl,v1,Bo.o▸HC.o,(Mv.quiet HST.o).trans HM.o⟩
set_option maxRecDepth 100000
set_option maxHeartbeats 2000000
structure JF (w0:World) (u0 u2 u3 u4 u5:Value) (F:World→List Value→Prop) (ok:Bool) (ty n:Nat) (L:Nat→Bool) (V:Nat→Value) (X:World):Prop where
 st:Step (fun _=>False) w0 X
 p0:L 0=true→V 0=u0
 p1:L 1=true→V 1=u0
 p2:L 2=true→V 2=u2
 p3:L 3=true→V 3=u3
 p4:L 4=true→V 4=u4
 p5:L 5=true→V 5=u5
 p6:L 6=true→∃cs:List Value,V 6=.tuple #[.agg cs.toArray,dV ok]∧F X cs
 p7:L 7=true→∃cs:List Value,V 7=.tuple #[.agg cs.toArray,dV ok]∧F X cs
 p8:L 8=true→∃cs:List Value,V 8=.agg cs.toArray∧F X cs
 p9:L 9=true→V 9=.bool ok
 p10:L 10=true→∃(b:Nat) (c:Array Value),V 10=.pointer (some ⟨b,0,none⟩)∧w0.heap.size≤b∧c.size=n∧X.heap[b]?=some (.cells c ty (0,0))∧(L 11=true→∃cs:List Value,c=cs.toArray∧F X cs)
 p12:L 12=true→V 12=.bool ok
 q11:L 11=true→L 10=true
def U3 (w0:World) (n:Nat) (F:World→List Value→Prop):Prop:=(∀(X X':World) cs,Step (fun q=>w0.heap.size≤q) X X'→F X cs→F X' cs)∧∀(X:World) cs,F X cs→cs.length=n∧∀v∈cs,v.oneCell'=true
section
variable {w0 X X' : World} {u0 u2 u3 u4 u5 : Value} {F : World → List Value → Prop} {ok : Bool} {ty n : Nat} {L : Nat → Bool} {V : Nat → Value}
theorem JF.zero (h:Step (fun _=>False) w0 X):JF w0 u0 u2 u3 u4 u5 F ok ty n (fun _=>false) (fun _=>undef) X:=
 ⟨h,gJ,gJ,gJ,gJ,gJ,gJ,gJ,gJ,gJ,gJ,gJ,gJ,gJ⟩
theorem JF.step (hF:U3 w0 n F) (h:JF w0 u0 u2 u3 u4 u5 F ok ty n L V X) (hs:Step (fun _=>False) X X'):JF w0 u0 u2 u3 u4 u5 F ok ty n L V X':=
 have hm:Step (fun q=>w0.heap.size≤q) X X':=hs.mono fun _ _ h=>h.elim
 {h with
  st:=h.st.trans hs
  p6:=fun e=>let⟨cs,h1,h2⟩:=h.p6 e;⟨cs,h1,hF.1 _ _ _ hm h2⟩
  p7:=fun e=>let⟨cs,h1,h2⟩:=h.p7 e;⟨cs,h1,hF.1 _ _ _ hm h2⟩
  p8:=fun e=>let⟨cs,h1,h2⟩:=h.p8 e;⟨cs,h1,hF.1 _ _ _ hm h2⟩
  p10:=fun e=>let⟨b,c,h1,h2,h3,h4,h5⟩:=h.p10 e;⟨b,c,h1,h2,h3,hs.keep h4 (fun h=>h),fun e2=>let⟨cs,h6,h7⟩:=h5 e2;⟨cs,h6,hF.1 _ _ _ hm h7⟩⟩}
theorem JF.up10 (hF:U3 w0 n F) (h:JF w0 u0 u2 u3 u4 u5 F ok ty n L V X) (c:Array Value) (hc:c.size=n) (TM:L 10=false):JF w0 u0 u2 u3 u4 u5 F ok ty n (dP L 10) (iW V 10 (.pointer (some ⟨X.heap.size,0,none⟩))) (X.alloc (.cells c ty)):=by
 have h':=h.step hF (bJ.alloc (.cells c ty));have hL:L 11=false:=by
  cases e:L 11 with
  |false=>rfl
  |true=>rw[h.q11 e]at TM;cases TM
 exact{h' with p10:=fun _=>⟨X.heap.size,c,rfl,h.st.size,hc,aA _ _,fun e=>by rw[show dP L 10 11=L 11 from rfl,hL]at e;cases e⟩,q11:=fun _=>rfl}
theorem JF.TN (hF:U3 w0 n F) (h:JF w0 u0 u2 u3 u4 u5 F ok ty n L V X) {b:Nat} {cs:List Value} (hb:V 10=.pointer (some ⟨b,0,none⟩)) (hL:L 10=true) (hcs:F X cs) (u:Value) (hX:X'.heap[b]?=some (.cells cs.toArray ty (0,0))) (hs:Step (·=b) X X'):JF w0 u0 u2 u3 u4 u5 F ok ty n (dP L 11) (iW V 11 u) X':=by
 obtain⟨b',c,h1,h2,h3,h4,h5⟩:=h.p10 hL;obtain rfl:b=b':=by rw[hb]at h1;cases h1;rfl
 have hm:Step (fun q=>w0.heap.size≤q) X X':=hs.mono fun _ _ e=>by rw[e];exact h2
 exact{h with
  st:=h.st.then hs (fun i hi e=>by omega)
  p6:=fun e=>let⟨cs,h1,h2⟩:=h.p6 e;⟨cs,h1,hF.1 _ _ _ hm h2⟩
  p7:=fun e=>let⟨cs,h1,h2⟩:=h.p7 e;⟨cs,h1,hF.1 _ _ _ hm h2⟩
  p8:=fun e=>let⟨cs,h1,h2⟩:=h.p8 e;⟨cs,h1,hF.1 _ _ _ hm h2⟩
  p10:=fun _=>⟨b,cs.toArray,hb,h2,by rw[List.size_toArray];exact(hF.2 _ _ hcs).1,hX,fun _=>⟨cs,rfl,hF.1 _ _ _ hm hcs⟩⟩
  q11:=fun _=>hL}
theorem BZ {c:Array Value} {cs:List Value} (h:cs.length=c.size):(c.toList.take 0++(cs++c.toList.drop (0+cs.length))).toArray=cs.toArray:=by rw[List.drop_eq_nil_of_le (by rw[Nat.zero_add,Array.length_toList];omega),List.append_nil];rfl
end
end Go.Proofs.YtppekkbaoimpgaaGreat
