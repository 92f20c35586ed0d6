import Derived.Test.YtggjfinekcenpaaGreatPkM
set_option maxRecDepth 100000
set_option maxHeartbeats 80000000
namespace Go.Proofs.YtggjfinekcenpaaGreat
open Go.RowKit
open Vt
theorem Tryz.WT:(Tryz.prog.info? 51).map (fun i=>(i.zero,i.size,i.bytes))=some (some (.agg #[af 0,bW,bW,aj,aj,aj,af 0,bW,bW,aT,aj,aj,af 0,af 0,aj,aj,aj,af 0,af 0]),19,312):=by kernel_rfl
def ItsV (n0:Nat) (w':World) (a:List It) (v:Value):Prop:=kP LY w' (fun k=>n0≤k) a v
theorem TA (f:Nat) (Bo:∀f',f'≤f→tC f') (WH:∀f',f'≤f→xE f') (R:h_) (w:World) (i d:Nat) (hl:pF R.l) (h:bD R w i d) (hd:d≤40) (hno:jl f R.l i d []≠.out):Calls Tryz.prog 21 #[.agg #[fM R.rb 0]] w (aJ R d (ItsV w.heap.size) (jl f R.l i d []) w):=by
 have HL:=ai hl;have Qw:=ai Bo;have UD:=ai WH;obtain⟨r,hr⟩:=bn (jl f R.l i d []);have lJ:=ai hr;rw[←hr]at hno⊢;have f_:=ai hno;obtain⟨i0,hi0,hz0,hz1,hz2⟩:=info_parts Tryz.WT;have HI:=ai hi0;have HZ0:=ai hz0;have HZ1:=ai hz1;have HZ2:=ai hz2;have hfd0:∀(a0 a1 a2 a3 a4:Value) (w:World),(Instr.field 111 (.agg #[a0,a1,a2,a3,a4]) 0).run Tryz.prog w=.ok a0 w:=fun _ _ _ _ _ _=>by kernel_rfl
 obtain⟨w1,hw1⟩:=bn (w.alloc (.cells #[fM R.rb 0] 75));have dF:=nS hw1
 have kG:=nB hw1
 have HW1:=ai hw1;have H1:=ai (h.quiet dF.o);have hn1:=aC kG.o;have vK:=aC h.blk;have hwz:R.rb<w1.heap.size:=by omega
 have dh:Hid (∀X:World,Step (·=R.rb) w1 X→X.cell? ⟨w.heap.size,0,none⟩=some (.pointer (some ⟨R.rb,0,none⟩))):=fun X hX=>ah (hX.keep kG.o om) 0 _ rfl
 have gI:Hid (∀X:World,Step (·=R.rb) w1 X→Step (·=R.rb) w X):=fun X hX=>(dF.o.mono fe).trans hX
 clear hw1;have p0:=dh.o w1 bV;clear Bo WH hl h hno hr hi0 hz0 hz1 hz2 p0;go_enter Tryz.func21,Tryz.ntmps21;go_upto_block 0 with fail
 rw[←HW1.o];go_wp2_with fail;go_loopg [3] f (fun gg s3 wr=>gg≤f∧∃(i':Nat) (acc:List It) (xs:List Value),r=jl gg R.l i' d acc∧AA LY 51 19 R w1 d wr i' acc s3 xs);case atStart=>exact⟨Nat.le_refl _,i,[],[],lJ.o,H1.o,World.ownsRow_nil _ _ _ _,rfl,Step.refl _ _⟩
 case round=>
  obtain⟨hgf,i',acc,xs,hrq,hst⟩:=hrel;obtain⟨gn,rfl⟩:∃gn,gk=gn+1:=by
   cases gk with
   |zero=>exact absurd hrq (by rw[jl];exact f_.o)
   |succ gn=>exact⟨gn,rfl⟩
  obtain⟨tk,htk⟩:=bn (tokA R.l i');have vF:Hid (r=if tk.kind=0 then .ok acc i' else(eH acc.length 60 R.l i').bind fun _ i=>(qm gn R.l i d).bind fun x j=>jl gn R.l j d (acc++[x])):=by show _=_;rw[hrq,jl,htk]
  have HT:=ai (show R.l[i']?=some tk by rw[htk];exact hst.rd.tok);obtain⟨oa,oc,rfl⟩:=b_ hst.ow;have HST:=ai hst;have p0:=dh.o wr hst.st;clear hrq hst htk;go_wp2_with fail;refine(l_ R _ i' d tk HST.o.rd HT.o).mono ?_;rintro e wq ⟨rfl,hq⟩;have AO:=ai (HST.o.quiet gB hq);clear hq p0;by_cases hk:tk.kind=0
  ·(have e1:((tk.kind:Int) !=0)=false:=by rw[bne,kX tk.kind 0 0 rfl,hk];rfl);(have Ah:Hid (r=.ok acc i'):=by show _=_;rw[vF.o,if_pos hk]);clear hk;go_wp2_with fail;go_ret;have hsz:=dF.o.size;exact aJ.dQ Ah.o rfl ⟨_,aS.jb AO.o.ow (fun q hq=>by have:=(AO.o.ow.lt q hq).1;omega),wQ.mono gB (fun q _ hq=>by have:=hq.1;omega) _ _ AO.o.el⟩ AO.o.rd (gI.o _ AO.o.st)
  ·(have e1:((tk.kind:Int) !=0)=true:=by rw[bne,kX tk.kind 0 0 rfl,beq_eq_false_iff_ne.2 hk];rfl);(have WO:Hid (r=(eH acc.length 60 R.l i').bind fun _ i=>(qm gn R.l i d).bind fun x j=>jl gn R.l j d (acc++[x])):=by show _=_;rw[vF.o,if_neg hk]);clear hk;have p0:=dh.o wq AO.o.st;go_wp2_with fail;refine(nH R wq acc.length 60 i' d AO.o.rd).mono ?_;rintro e w3 hp;cases hn:eH acc.length 60 R.l i' with
   |out=>exact(lV hn).elim
   |err c ln col=>rw[hn]at hp;obtain⟨rfl,s3⟩:=hp;exact⟨rfl,aJ.aW c ln col (by rw[WO.o,hn];rfl) rfl (gI.o _ (AO.o.st.trans s3))⟩
   |ok u j3=>
    have hji:j3=i'∧acc.length<60:=by
     unfold eH at hn;split at hn
     ·cases hn
     ·cases hn;exact⟨rfl,by omega⟩
    obtain⟨hj3,hlt⟩:=hji;have wW:=ai hn;rw[hn]at hp;obtain⟨⟨v,rfl,rfl⟩,hr3,s3⟩:=hp;have gu:=ai (AO.o.read gB hwz hr3 s3);have qw:=ai (WO.o.trans (yG wW.o));clear hn hr3 s3 p0 hj3;have p0:=dh.o w3 gu.o.st;go_wp2_with fail;refine(WQ gn (fun f' hf=>Qw.o f' om) (fun f' hf=>UD.o f' om) R w3 j3 d HL.o gu.o.rd hd (fun e=>f_.o (by rw[qw.o,e];rfl))).mono ?_;rintro e wx hp;have hp2:aJ R d (ItV w3.heap.size) (qm gn R.l j3 d) _ e wx:=hp;cases hx:qm gn R.l j3 d with
    |out=>exact absurd (by rw[qw.o,hx];rfl) f_.o
    |err c ln col=>rw[hx]at hp2;obtain⟨rfl,sq⟩:=hp2;exact⟨rfl,aJ.aW c ln col (by rw[qw.o,hx];rfl) rfl (gI.o _ (gu.o.st.trans sq))⟩
    |ok x jx=>
     have HX:=ai hx;rw[hx]at hp2;obtain⟨⟨v,rfl,cs,rfl,hy⟩,hrx,hsx⟩:=hp2;have vU:=ai (gB.len _ _ hy);have dL:=ai (gB.one _ _ hy);have NG:=ai (qw.o.trans (yG HX.o));obtain⟨w4,hw4⟩:=bn (wx.alloc (.cells cs.toArray 51));(have jv:Hid (jP wx w4):=by rw[hw4];exact bV.alloc _);have fP:=ai ((gu.o.read gB hwz hrx hsx).quiet gB jv.o);have SE:Hid (LY w4 (fun q=>w3.heap.size≤q) x cs):=gB.step _ _ jv.o (fun _ _ h=>h) hy;(have Jd:Hid ((wx.alloc (.cells cs.toArray 51)).ownsRow w1.heap.size 51 19 (.slice oa acc.length oc) acc.length xs):=by rw[←hw4];exact fP.o.ow);have Ak:Hid (Row (wx.alloc (.cells cs.toArray 51)) (wx.heap.size+1) (.slice (some ⟨wx.heap.size,0,none⟩) 1 1) 1 cs):=Row.new (aB _ _) dc;(have Je:Hid (w1.heap.size≤(wx.alloc (.cells cs.toArray 51)).heap.size):=by rw[←hw4];exact fP.o.st.size);have Y4:=ai hw4;have SK:=ai hlt;(have hC1:i0.size=cs.length:=by rw[vU.o];exact HZ1.o);(have hC2:(Value.agg #[af 0,bW,bW,aj,aj,aj,af 0,bW,bW,aT,aj,aj,af 0,af 0,aj,aj,aj,af 0,af 0]).cells.size=cs.length:=by rw[vU.o];rfl);(have hC3:0<cs.length:=by rw[vU.o];decide);(have hC4:cs.length≤16777216:=by rw[vU.o];decide);(have hC5:cs.length=1*19:=by rw[vU.o]);have HC:=ai (And.intro hC1 (And.intro hC2 (And.intro hC3 (And.intro hC4 hC5))));clear hx hp hy hrx hsx p0 hw4 hlt hC1 hC2 hC3 hC4 hC5;go_wp2_with (first
      |(refine mV rfl 22 (.tmp 15) rfl 51 i0 (.agg #[af 0,bW,bW,aj,aj,aj,af 0,bW,bW,aT,aj,aj,af 0,af 0,aj,aj,aj,af 0,af 0]) cs rfl Tryz.underlying22 HI.o HZ0.o HC.o.1 HC.o.2.1 HC.o.2.2.1 HC.o.2.2.2.1 ?_)
      |(refine kH _ rfl (wx.heap.size+1) (.tmp 13) (.tmp 16) 22 rfl w1.heap.size 51 i0 (.agg #[af 0,bW,bW,aj,aj,aj,af 0,bW,bW,aT,aj,aj,af 0,af 0,aj,aj,aj,af 0,af 0]) 19 312 Tryz.underlying22 HI.o HZ0.o HZ1.o HZ2.o rfl dc _ _ _ (by rfl) Jd.o _ 1 _ (by rfl) Ak.o HC.o.2.2.2.2 dL.o (by have:=SK.o;unfold maxLen;omega) (by have:=SK.o;omega) Je.o ?_;intro v9 w9 iY iq p_))
     rw[←Y4.o]at iq p_;have iF:=ai (gu.o.push gB fP.o SE.o iY iq p_ hwz);clear iY iq p_;have p0:=dh.o w9 iF.o.st;go_roundg gn;case rel=>exact⟨by omega,jx,acc++[x],_,NG.o,iF.o⟩
     case measure=>omega
def Good (t:Tok):Prop:=∃r,jL r=.ok (t.kind,t.text.length,t.val)∧t.text=r.take t.text.length
def oG (l:List Tok):Nat:=(l.map (·.text.length)).sum
theorem Md (l:List Tok) (t:Tok):oG (l++[t])=oG l+t.text.length:=by simp[oG]
theorem Good.pos {t:Tok} (h:Good t):1≤t.text.length:=by obtain⟨r,h1,_⟩:=h;exact(rJ h1).1
theorem Ie:∀(k:Nat) (r:List UInt8) (p l f:Nat) (acc res:List Tok),uG k r p l f acc=.ok res→f≤p→(∀t∈acc,Good t)→oG acc≤p→acc.length≤8000→∃body e,res=body++[e]∧(∀t∈body,Good t)∧oG body≤p+r.length∧body.length≤8000∧e.kind=0∧e.text=[]∧e.val=0:=by
 intro k;induction k with
 |zero=>intro r p l f acc res h;simp[uG]at h
 |succ k ih=>
  intro r p l f acc res h hf hg hs hl;have hi:=Ew r false p l f _ _ _ rfl hf;rw[uG]at h;generalize gG false r p l f=q at*;obtain⟨q1,q2,q3⟩:=q;dsimp only at hi h;split at h
  ·simp at h;exact⟨acc,_,h.symm,hg,by omega,hl,rfl,rfl,rfl⟩
  ·split at h
   ·simp at h
   ·split at h
    ·simp at h
    ·rename_i kind n val hn;obtain⟨hn1,hn2,_⟩:=rJ hn;rw[List.length_drop]at hn2;have hlen:((r.drop (q1-p)).take n).length=n:=by rw[List.length_take,List.length_drop];omega
     have:=ih _ _ _ _ _ _ h om (by
      intro t ht
      rcases List.mem_append.1 ht with h1|h1
      ·
       exact hg t h1
      ·
       simp at h1;subst h1
       exact⟨r.drop (q1-p),by rw[hlen];exact hn,by simp[hlen]⟩) (by rw[Md,hlen];omega) (by simp;omega)
     obtain⟨body,e,h1,h2,h3,h4⟩:=this;refine⟨body,e,h1,h2,?_,h4⟩;simp only[List.length_drop]at h3;omega
theorem WU:∀(k:Nat) (r:List UInt8) (p l f:Nat) (acc:List Tok) (c ln col:Nat),r.length<k→uG k r p l f acc=.error (c,ln,col)→c≠0:=by
 intro k;induction k with
 |zero=>intro r p l f acc c ln col h;omega
 |succ k ih=>
  intro r p l f acc c ln col hk h;rw[uG]at h;generalize gG false r p l f=q at*;obtain⟨q1,q2,q3⟩:=q;dsimp only at h;split at h
  ·simp at h
  ·split at h
   ·simp at h;omega
   ·split at h
    ·rename_i e he;simp at h;have:=G_ he;omega
    ·rename_i kind n val hn;obtain⟨hn1,hn2,_⟩:=rJ hn;refine ih _ _ _ _ _ _ _ _ ?_ h;simp only[List.length_drop]at hn2⊢;omega
theorem Me {s:List UInt8} {c ln col:Nat} (h:ng s=.error (c,ln,col)):c≠0:=by
 unfold ng at h;split at h
 ·simp at h;omega
 ·exact WU _ _ _ _ _ _ _ _ _ om h
theorem TB {l:List Tok} {t:Tok} (h:t∈l):t.text.length≤oG l:=by
 induction l with
 |nil=>cases h
 |cons a l ih=>
  simp only[oG,List.map_cons,List.sum_cons]at ih⊢;rcases List.mem_cons.1 h with rfl|h
  ·omega
  ·have:=ih h;omega
theorem vV {s:List UInt8} {l:List Tok} (h:ng s=.ok l):∃body e,l=body++[e]∧(∀t∈body,Good t)∧oG body≤s.length∧s.length≤20000∧body.length≤8000∧e.kind=0∧e.text=[]∧e.val=0:=by
 unfold ng at h;split at h
 ·simp at h
 ·rename_i hs;obtain⟨body,e,h1,h2,h3,h4,h5⟩:=Ie _ _ _ _ _ _ _ h (Nat.le_refl _) (by simp) (by simp[oG]) (by simp);exact⟨body,e,h1,h2,by omega,by omega,h4,h5⟩
theorem pO {s:List UInt8} {l:List Tok} (h:ng s=.ok l):pF l∧0<l.length:=by
 obtain⟨body,e,rfl,hg,hs,hz,hb,he,ht,-⟩:=vV h;refine⟨⟨?_,by simp;omega,?_⟩,by simp⟩
 ·intro i t hi hk;have hlt:=(List.getElem?_eq_some_iff.1 hi).1;simp at hlt⊢;rcases Nat.lt_or_ge i body.length with h1|h1
  ·omega
  ·(have:i=body.length:=by omega);subst this;rw[List.getElem?_append_right (Nat.le_refl _),Nat.sub_self]at hi;simp at hi;subst hi;exact absurd he hk
 ·intro t ht2;rcases List.mem_append.1 ht2 with h1|h1
  ·have:=TB h1;omega
  ·rw[List.mem_singleton.1 h1,ht];decide
def Gd {α:Type} (N i:Nat) (r:dB α):Prop:=match r with
 | .ok _ j=>i<j∧j<N
 | .err c _ _=>c≠0
 | .out=>False
def iP {α:Type} (N i:Nat) (r:dB α):Prop:=match r with
 | .ok _ j=>i≤j∧j<N
 | .err c _ _=>c≠0
 | .out=>False
theorem Gd.weak {α:Type} {N i:Nat} {r:dB α} (h:Gd N i r):iP N i r:=by
 cases r with
 |ok a j=>exact⟨Nat.le_of_lt h.1,h.2⟩
 |err=>exact h
 |out=>exact h
theorem Gd.ne {α:Type} {N i:Nat} {r:dB α} (h:Gd N i r):r≠.out:=by rintro rfl;exact h
theorem iP.ne {α:Type} {N i:Nat} {r:dB α} (h:iP N i r):r≠.out:=by rintro rfl;exact h
theorem Gd.bind {α β:Type} {N i:Nat} {r:dB α} {f:α→Nat→dB β} (h:Gd N i r) (hf:∀a j,i<j→j<N→iP N j (f a j)):Gd N i (r.bind f):=by
 cases r with
 |ok a j=>
  have:=hf a j h.1 h.2;show Gd N i (f a j);cases hx:f a j with
  |ok b k=>rw[hx]at this;exact⟨Nat.lt_of_lt_of_le h.1 this.1,this.2⟩
  |err=>rw[hx]at this;exact this
  |out=>rw[hx]at this;exact this
 |err=>exact h
 |out=>exact h
theorem iP.bind {α β:Type} {N i:Nat} {r:dB α} {f:α→Nat→dB β} (h:iP N i r) (hf:∀a j,i≤j→j<N→iP N j (f a j)):iP N i (r.bind f):=by
 cases r with
 |ok a j=>
  have:=hf a j h.1 h.2;show iP N i (f a j);cases hx:f a j with
  |ok b k=>rw[hx]at this;exact⟨Nat.le_trans h.1 this.1,this.2⟩
  |err=>rw[hx]at this;exact this
  |out=>rw[hx]at this;exact this
 |err=>exact h
 |out=>exact h
theorem iP.yP {α β:Type} {N i:Nat} {r:dB α} {f:α→Nat→dB β} (h:iP N i r) (hf:∀a j,i≤j→j<N→Gd N j (f a j)):Gd N i (r.bind f):=by
 cases r with
 |ok a j=>
  have:=hf a j h.1 h.2;show Gd N i (f a j);cases hx:f a j with
  |ok b k=>rw[hx]at this;exact⟨Nat.lt_of_le_of_lt h.1 this.1,this.2⟩
  |err=>rw[hx]at this;exact this
  |out=>rw[hx]at this;exact this
 |err=>exact h
 |out=>exact h
theorem iP.from {α:Type} {N i j:Nat} {r:dB α} (h:iP N j r) (hij:i≤j):iP N i r:=by
 cases r with
 |ok a k=>exact⟨Nat.le_trans hij h.1,h.2⟩
 |err=>exact h
 |out=>exact h
theorem iP.strict {α:Type} {N i j:Nat} {r:dB α} (h:iP N j r) (hij:i<j):Gd N i r:=by
 cases r with
 |ok a k=>exact⟨Nat.lt_of_lt_of_le hij h.1,h.2⟩
 |err=>exact h
 |out=>exact h
theorem iP.ok {α:Type} {N i:Nat} (a:α) (h:i<N):iP N i (.ok a i):=⟨Nat.le_refl _,h⟩
section
variable {l : List Tok} (hl : pF l)
include hl
theorem AU {i:Nat} (hi:i<l.length) (h:(tokA l i).kind≠0):i+1<l.length:=hl.next i _ (uM hi) h
theorem dD {i:Nat} {s:List UInt8} (hi:i<l.length) (h:bH l i s=true):i+1<l.length:=AU hl hi (rO h)
theorem eu {i:Nat} {s:List UInt8} (hi:i<l.length):Gd l.length i (aI l i s):=by
 unfold aI;split
 ·rename_i h;exact⟨Nat.lt_succ_self i,dD hl hi h⟩
 ·exact Nat.succ_ne_zero _
theorem iT {i:Nat} (hi:i<l.length):Gd l.length i (bI l i):=by
 unfold bI;split
 ·rename_i h;refine⟨Nat.lt_succ_self i,AU hl hi ?_⟩;intro e;simp[rP,e]at h
 ·exact Nat.succ_ne_zero _
theorem AV {i:Nat} (hi:i<l.length):Gd l.length i (jh l i):=by
 unfold jh;split
 ·rename_i h;exact⟨Nat.lt_succ_self i,AU hl hi om⟩
 ·exact Nat.succ_ne_zero _
omit hl in
theorem og {n m i:Nat} (hi:i<l.length):iP l.length i (eH n m l i):=by
 unfold eH;split
 ·exact Nat.succ_ne_zero _
 ·exact iP.ok _ hi
theorem E5 {i:Nat} {s:List UInt8} (hi:i<l.length):i≤iw l i s∧iw l i s<l.length:=by
 unfold iw;split
 ·rename_i h;exact⟨by omega,dD hl hi h⟩
 ·exact⟨Nat.le_refl _,hi⟩
theorem JF {i:Nat} (hi:i<l.length):i≤ny l i∧ny l i<l.length:=by
 unfold ny;split
 ·rename_i h;exact⟨by omega,AU hl hi om⟩
 ·exact⟨Nat.le_refl _,hi⟩
structure Fu (l:List Tok) (f:Nat):Prop where
 typ:∀i d,i<l.length→16*(l.length-i)+1≤f→Gd l.length i (iZ f l i d)
 args:∀i d ls ts,i<l.length→16*(l.length-i)+2≤f→Gd l.length i (kz f l i d ls ts)
 bars:∀i ns,i<l.length→16*(l.length-i)+1≤f→Gd l.length i (jM f l i ns)
 level:∀i d n,i<l.length→n≤5→16*(l.length-i)+(9-n)≤f→Gd l.length i (a_ f l i d n)
 row:∀i d n x,i<l.length→n≤4→16*(l.length-i)+1≤f→iP l.length i (qN f l i d n x)
 unary:∀i d,i<l.length→16*(l.length-i)+3≤f→Gd l.length i (gm f l i d)
 post:∀i d,i<l.length→16*(l.length-i)+2≤f→Gd l.length i (mJ f l i d)
 dots:∀i d x,i<l.length→16*(l.length-i)+1≤f→iP l.length i (jV f l i d x)
 list:∀i d,i<l.length→16*(l.length-i)+11≤f→Gd l.length i (jE f l i d)
 more:∀i d acc,i<l.length→16*(l.length-i)+10≤f→Gd l.length i (kY f l i d acc)
 one:∀i d,i<l.length→16*(l.length-i)+1≤f→Gd l.length i (nG f l i d)
 made:∀i d ns al,i<l.length→16*(l.length-i)+1≤f→Gd l.length i (jF f l i d ns al)
 Js:∀i d,i<l.length→16*(l.length-i)+1≤f→Gd l.length i (kR f l i d)
 block:∀i d,i<l.length→16*(l.length-i)+1≤f→Gd l.length i (bM f l i d)
 stmts:∀i d acc,i<l.length→16*(l.length-i)+12≤f→Gd l.length i (jC f l i d acc)
 OM:∀i d,i<l.length→16*(l.length-i)+1≤f→Gd l.length i (rD f l i d)
 OO:∀i d,i<l.length→16*(l.length-i)+10≤f→Gd l.length i (rE f l i d)
 stmt:∀i d,i<l.length→16*(l.length-i)+11≤f→Gd l.length i (lq f l i d)
theorem typ_fu (f:Nat) (h:Fu l f) (i d:Nat) (hi:i<l.length) (hf:16*(l.length-i)+1≤f+1):Gd l.length i (iZ (f+1) l i d):=by
 rw[iZ];have one:∀(b:Bool) (s:List UInt8) (a:Ty),bH l i s=b→b=true→Gd l.length i (.ok a (i+1)):=fun b s a e hb=>⟨Nat.lt_succ_self i,dD hl hi (by rw[e];exact hb)⟩;split
 ·exact Nat.succ_ne_zero _
 ·split
  ·rename_i h1;exact one _ _ _ rfl h1
  ·split
   ·rename_i h1;exact one _ _ _ rfl h1
   ·split
    ·rename_i h1;exact one _ _ _ rfl h1
    ·split
     ·rename_i h1;have h2:=dD hl hi h1;exact iP.strict ((eu hl h2).bind fun _ j _ hj=>iP.ok _ hj).weak (Nat.lt_succ_self i)
     ·split
      ·rename_i h1;have h2:=dD hl hi h1;exact iP.strict ((eu hl h2).bind fun _ j h3 hj=>((h.typ j _ hj om).bind fun a k h4 hk=>((eu hl hk).bind fun _ m _ hm=>iP.ok _ hm).weak).weak).weak (Nat.lt_succ_self i)
      ·split
       ·rename_i h1;have h2:=dD hl hi h1;have h3:=JF hl h2;have h4:=E5 hl (s:=[109,117,116]) h3.2;exact iP.strict ((h.typ _ _ h4.2 om).bind fun a k _ hk=>iP.ok _ hk).weak om
       ·split
        ·rename_i h1;have h2:=dD hl hi h1;refine iP.strict ((iT hl h2).bind fun n j h3 hj=> ?_).weak (Nat.lt_succ_self i);split
         ·rename_i h4;exact(((AV hl (dD hl hj h4)).bind fun x k _ hk=>iP.ok _ hk).weak).from om
         ·exact iP.ok _ hj
        ·refine(iT hl hi).bind fun n j h3 hj=> ?_;split
         ·rename_i h4;have h5:=dD hl hj h4;exact((h.args (j+1) _ _ _ h5 om).bind fun p k _ hk=>iP.ok _ hk).weak.from om
         ·exact iP.ok _ hj
theorem ZO (f:Nat) (h:Fu l f) (i d:Nat) (ls:List ByteArray) (ts:List Ty) (hi:i<l.length) (hf:16*(l.length-i)+2≤f+1):Gd l.length i (kz (f+1) l i d ls ts):=by
 rw[kz];refine(og hi).yP fun _ i2 h0 hi2=> ?_;refine Gd.bind ?_ fun p j h1 hj=> ?_
 ·split
  ·exact(AV hl hi2).bind fun x j _ hj=>iP.ok _ hj
  ·exact(h.typ i2 d hi2 om).bind fun x j _ hj=>iP.ok _ hj
 ·split
  ·rename_i h2;exact((h.args (j+1) d _ _ (dD hl hj h2) om).weak).from om
  ·exact((eu hl hj).bind fun _ k _ hk=>iP.ok _ hk).weak
theorem ZP (f:Nat) (h:Fu l f) (i:Nat) (ns:List ByteArray) (hi:i<l.length) (hf:16*(l.length-i)+1≤f+1):Gd l.length i (jM (f+1) l i ns):=by
 rw[jM];refine(og hi).yP fun _ i2 h0 hi2=> ?_;refine(iT hl hi2).bind fun n j h1 hj=> ?_;split
 ·rename_i h2;exact((h.bars (j+1) _ (dD hl hj h2) om).weak).from om
 ·exact((eu hl hj).bind fun _ k _ hk=>iP.ok _ hk).weak
omit hl in
theorem WV (f:Nat) (h:Fu l f) (i d n:Nat) (hi:i<l.length) (hn:n≤5) (hf:16*(l.length-i)+(9-n)≤f+1):Gd l.length i (a_ (f+1) l i d n):=by
 rw[a_];split
 ·exact h.unary i d hi om
 ·exact(h.level i d (n+1) hi om om).bind fun x j h1 hj=>h.row j d n x hj om om
theorem row_fu (f:Nat) (h:Fu l f) (i d n:Nat) (x:Ex) (hi:i<l.length) (hn:n≤4) (hf:16*(l.length-i)+1≤f+1):iP l.length i (qN (f+1) l i d n x):=by
 rw[qN];cases ho:wO l i n with
 |none=>exact iP.ok _ hi
 |some s=>
  have h1:bH l i s=true:=by simpa using List.find?_some ho
  have h2:=dD hl hi h1;refine(((h.level (i+1) d (n+1) h2 om om).bind fun y j h3 hj=> ?_).weak).from om;split
  ·exact iP.ok _ hj
  ·exact h.row j d n _ hj hn om
theorem WW (f:Nat) (h:Fu l f) (i d:Nat) (hi:i<l.length) (hf:16*(l.length-i)+3≤f+1):Gd l.length i (gm (f+1) l i d):=by
 rw[gm];have step:∀(s:List UInt8) (k:Nat) (g:Ex→Ex),bH l i s=true→i+1≤k→k<l.length→Gd l.length i ((gm f l k (d+1)).bind fun y j=>.ok (g y) j):=fun s k g h1 h2 h3=>
  iP.strict ((h.unary k (d+1) h3 om).bind fun y j _ hj=>iP.ok _ hj).weak om
 split
 ·exact Nat.succ_ne_zero _
 ·split
  ·rename_i h1;exact step _ _ _ h1 (Nat.le_refl _) (dD hl hi h1)
  ·split
   ·rename_i h1;exact step _ _ _ h1 (Nat.le_refl _) (dD hl hi h1)
   ·split
    ·rename_i h1;exact step _ _ _ h1 (Nat.le_refl _) (dD hl hi h1)
    ·split
     ·rename_i h1;have h2:=E5 hl (s:=[109,117,116]) (dD hl hi h1);exact step _ _ _ h1 h2.1 h2.2
     ·exact h.post i (d+1) hi om
omit hl in
theorem ZQ (f:Nat) (h:Fu l f) (i d:Nat) (hi:i<l.length) (hf:16*(l.length-i)+2≤f+1):Gd l.length i (mJ (f+1) l i d):=by rw[mJ];exact(h.Js i d hi om).bind fun x j h1 hj=>h.dots j d x hj om
theorem ZR (f:Nat) (h:Fu l f) (i d:Nat) (x:Ex) (hi:i<l.length) (hf:16*(l.length-i)+1≤f+1):iP l.length i (jV (f+1) l i d x):=by
 rw[jV];split
 ·rename_i h1;have h2:=dD hl hi h1;refine(((iT hl h2).bind fun n j h3 hj=> ?_).weak).from om;split
  ·rename_i h4;have h5:=dD hl hj h4;exact(((h.list (j+1) d h5 om).bind fun al k h6 hk=>h.dots k d _ hk om).weak).from om
  ·exact h.dots j d _ hj om
 ·exact iP.ok _ hi
theorem ZT (f:Nat) (h:Fu l f) (i d:Nat) (hi:i<l.length) (hf:16*(l.length-i)+11≤f+1):Gd l.length i (jE (f+1) l i d):=by
 rw[jE];split
 ·rename_i h1;exact⟨Nat.lt_succ_self i,dD hl hi h1⟩
 ·exact h.more i d [] hi om
theorem ZU (f:Nat) (h:Fu l f) (i d:Nat) (acc:List Ex) (hi:i<l.length) (hf:16*(l.length-i)+10≤f+1):Gd l.length i (kY (f+1) l i d acc):=by
 rw[kY];refine(og hi).yP fun _ i2 h0 hi2=> ?_;refine(h.level i2 d 0 hi2 om om).bind fun x j h1 hj=> ?_;split
 ·rename_i h2;exact((h.more (j+1) d _ (dD hl hj h2) om).weak).from om
 ·exact((eu hl hj).bind fun _ k _ hk=>iP.ok _ hk).weak
theorem one_fu (f:Nat) (h:Fu l f) (i d:Nat) (hi:i<l.length) (hf:16*(l.length-i)+1≤f+1):Gd l.length i (nG (f+1) l i d):=by rw[nG];exact(eu hl hi).bind fun _ j h1 hj=>((h.level j d 0 hj om om).bind fun x k h2 hk=>((eu hl hk).bind fun _ m _ hm=>iP.ok _ hm).weak).weak
theorem ZV (f:Nat) (h:Fu l f) (i d:Nat) (ns:List ByteArray) (al:List Ex) (hi:i<l.length) (hf:16*(l.length-i)+1≤f+1):Gd l.length i (jF (f+1) l i d ns al):=by
 rw[jF];refine(og hi).yP fun _ i2 h0 hi2=> ?_;refine(iT hl hi2).bind fun n j h1 hj=> ?_;refine((eu hl hj).bind fun _ j2 h2 hj2=> ?_).weak;refine((h.level j2 d 0 hj2 om om).bind fun x k h3 hk=> ?_).weak;split
 ·rename_i h4;exact((h.made (k+1) d _ _ (dD hl hk h4) om).weak).from om
 ·exact((eu hl hk).bind fun _ m _ hm=>iP.ok _ hm).weak
theorem WX (f:Nat) (h:Fu l f) (i d:Nat) (hi:i<l.length) (hf:16*(l.length-i)+1≤f+1):Gd l.length i (bM (f+1) l i d):=by
 rw[bM];split
 ·exact Nat.succ_ne_zero _
 ·exact(eu hl hi).bind fun _ j h1 hj=>(h.stmts j _ [] hj om).weak
theorem WY (f:Nat) (h:Fu l f) (i d:Nat) (acc:List St) (hi:i<l.length) (hf:16*(l.length-i)+12≤f+1):Gd l.length i (jC (f+1) l i d acc):=by
 rw[jC];split
 ·rename_i h1;exact⟨Nat.lt_succ_self i,dD hl hi h1⟩
 ·exact(h.stmt i d hi om).bind fun s j h1 hj=>(h.stmts j d _ hj om).weak
theorem let_fu (f:Nat) (h:Fu l f) (i d:Nat) (hi:i<l.length) (hf:16*(l.length-i)+1≤f+1):Gd l.length i (rD (f+1) l i d):=by
 rw[rD];refine(iT hl hi).bind fun n j h1 hj=> ?_;refine iP.bind ?_ fun ty k h2 hk=> ?_
 ·split
  ·rename_i h3;exact((h.typ (j+1) d (dD hl hj h3) om).weak).from om
  ·exact iP.ok _ hj
 ·refine iP.bind ?_ fun e m h4 hm=>((eu hl hm).bind fun _ p _ hp=>iP.ok _ hp).weak;split
  ·rename_i h3;exact(((h.level (k+1) d 0 (dD hl hk h3) om om).bind fun x q _ hq=>iP.ok _ hq).weak).from om
  ·exact iP.ok _ hk
theorem set_fu (f:Nat) (h:Fu l f) (i d:Nat) (hi:i<l.length) (hf:16*(l.length-i)+10≤f+1):Gd l.length i (rE (f+1) l i d):=by
 rw[rE];refine(h.level i d 0 hi om om).bind fun x j h1 hj=> ?_;refine iP.bind ?_ fun p m h4 hm=>((eu hl hm).bind fun _ p _ hp=>iP.ok _ hp).weak;split
 ·rename_i h3;exact(((h.level (j+1) d 0 (dD hl hj h3) om om).bind fun x q _ hq=>iP.ok _ hq).weak).from om
 ·exact iP.ok _ hj
theorem ZW (f:Nat) (h:Fu l f) (i d:Nat) (hi:i<l.length) (hf:16*(l.length-i)+11≤f+1):Gd l.length i (lq (f+1) l i d):=by
 rw[lq];split
 ·rename_i h1;exact iP.strict ((h.OM (i+1) d (dD hl hi h1) om).bind fun p j _ hj=>iP.ok _ hj).weak (Nat.lt_succ_self i)
 ·split
  ·rename_i h1;refine iP.strict ((h.level (i+1) d 0 (dD hl hi h1) om om).bind fun x j h2 hj=> ?_).weak (Nat.lt_succ_self i);refine((h.block j d hj om).bind fun b k h3 hk=> ?_).weak;split
   ·rename_i h4;exact(((h.block (k+1) d (dD hl hk h4) om).bind fun c m _ hm=>iP.ok _ hm).weak).from om
   ·exact iP.ok _ hk
  ·split
   ·rename_i h1;exact iP.strict ((h.level (i+1) d 0 (dD hl hi h1) om om).bind fun x j h2 hj=>((h.block j d hj om).bind fun b k h3 hk=>iP.ok _ hk).weak).weak (Nat.lt_succ_self i)
   ·split
    ·rename_i h1;have h2:=dD hl hi h1;refine iP.strict (iP.bind (i:=i+1) ?_ fun e m h4 hm=>((eu hl hm).bind fun _ p _ hp=>iP.ok _ hp).weak) (Nat.lt_succ_self i);split
     ·exact iP.ok _ h2
     ·exact((h.level (i+1) d 0 h2 om om).bind fun x q _ hq=>iP.ok _ hq).weak
    ·split
     ·rename_i h1;exact iP.strict ((eu hl (dD hl hi h1)).bind fun _ j _ hj=>iP.ok _ hj).weak (Nat.lt_succ_self i)
     ·split
      ·exact(h.block i d hi om).bind fun b j _ hj=>iP.ok _ hj
      ·exact(h.OO i d hi om).bind fun p j _ hj=>iP.ok _ hj
theorem ZX (f:Nat) (h:Fu l f) (i d:Nat) (hi:i<l.length) (hf:16*(l.length-i)+1≤f+1):Gd l.length i (kR (f+1) l i d):=by
 rw[kR];have ok1:∀(x:Ex),(tokA l i).kind≠0→Gd l.length i (.ok x (i+1)):=fun x hk=>⟨Nat.lt_succ_self i,AU hl hi hk⟩;have okF:∀(s:List UInt8) (x:Ex),bH l i s=true→Gd l.length i (.ok x (i+1)):=fun s x hk=>⟨Nat.lt_succ_self i,dD hl hi hk⟩;by_cases h1:(tokA l i).kind=3
 ·rw[if_pos h1];exact ok1 _ om
 rw[if_neg h1];clear h1;by_cases h1:(tokA l i).kind=4
 ·rw[if_pos h1];exact ok1 _ om
 rw[if_neg h1];clear h1;by_cases h1:bH l i [116,114,117,101]=true
 ·rw[if_pos h1];exact okF _ _ h1
 rw[if_neg h1];clear h1;by_cases h1:bH l i [102,97,108,115,101]=true
 ·rw[if_pos h1];exact okF _ _ h1
 rw[if_neg h1];clear h1;by_cases h1:bH l i [99,104,111,111,115,101]=true
 ·rw[if_pos h1];exact okF _ _ h1
 rw[if_neg h1];clear h1;by_cases h1:bH l i [66,111,120]=true
 ·rw[if_pos h1];exact iP.strict ((h.one (i+1) d (dD hl hi h1) (by have:=dD hl hi h1;omega)).bind fun x j _ hj=>iP.ok _ hj).weak (Nat.lt_succ_self i)
 rw[if_neg h1];clear h1;by_cases h1:bH l i [117,110,98,111,120]=true
 ·rw[if_pos h1];exact iP.strict ((h.one (i+1) d (dD hl hi h1) (by have:=dD hl hi h1;omega)).bind fun x j _ hj=>iP.ok _ hj).weak (Nat.lt_succ_self i)
 rw[if_neg h1];clear h1;by_cases h1:bH l i [110,101,119]=true
 ·rw[if_pos h1];have h2:=dD hl hi h1;refine iP.strict ((iT hl h2).bind fun n j h3 hj=> ?_).weak (Nat.lt_succ_self i);refine((eu hl hj).bind fun _ k h4 hk=> ?_).weak;split
  ·rename_i h5;exact⟨by omega,dD hl hk h5⟩
  ·exact((h.made k d _ _ hk om).bind fun p m _ hm=>iP.ok _ hm).weak
 rw[if_neg h1];clear h1;by_cases h1:bH l i [97,115]=true
 ·rw[if_pos h1];have h2:=dD hl hi h1;refine iP.strict ((iT hl h2).bind fun n j h3 hj=> ?_).weak (Nat.lt_succ_self i);refine((eu hl hj).bind fun _ k h4 hk=> ?_).weak;refine iP.bind ?_ fun ns m h5 hm=>((h.block m d hm om).bind fun b p _ hp=>iP.ok _ hp).weak;split
  ·rename_i h6;exact⟨by omega,dD hl hk h6⟩
  ·exact(h.bars k _ hk om).weak
 rw[if_neg h1];clear h1;by_cases h1:bH l i [40]=true
 ·rw[if_pos h1];have h2:=dD hl hi h1;split
  ·rename_i h3;exact⟨by omega,dD hl h2 h3⟩
  ·exact iP.strict ((h.level (i+1) d 0 h2 om om).bind fun x j h3 hj=>((eu hl hj).bind fun _ k _ hk=>iP.ok _ hk).weak).weak (Nat.lt_succ_self i)
 rw[if_neg h1];clear h1;by_cases h1:bH l i [115,101,108,102]=true
 ·rw[if_pos h1];exact okF _ _ h1
 rw[if_neg h1];clear h1;refine(iT hl hi).bind fun n j h3 hj=> ?_;split
 ·rename_i h4;exact(((h.list (j+1) d (dD hl hj h4) (by have:=dD hl hj h4;omega)).bind fun al k _ hk=>iP.ok _ hk).weak).from om
 ·exact iP.ok _ hj
theorem BN:∀f,Fu l f:=by
 intro f;induction f with
 |zero=>constructor<;>intros<;>omega
 |succ f ih=>
  exact⟨fun i d=>typ_fu hl f ih i d,fun i d ls ts=>ZO hl f ih i d ls ts,fun i ns=>ZP hl f ih i ns,fun i d n=>WV f ih i d n,fun i d n x=>row_fu hl f ih i d n x,fun i d=>WW hl f ih i d,fun i d=>ZQ f ih i d,fun i d x=>ZR hl f ih i d x,
   fun i d=>ZT hl f ih i d,fun i d acc=>ZU hl f ih i d acc,fun i d=>one_fu hl f ih i d,fun i d ns al=>ZV hl f ih i d ns al,fun i d=>ZX hl f ih i d,fun i d=>WX hl f ih i d,fun i d acc=>WY hl f ih i d acc,fun i d=>let_fu hl f ih i d,fun i d=>set_fu hl f ih i d,fun i d=>ZW hl f ih i d⟩
end
theorem catch_panicking (b:Nat) (c ln col:Int) (v0 v1 v2:Value) (older:List PanicEntry) (w:World) (hc:w.heap[b]?=some (.cells #[v0,v1,v2] 27 (0,0))):
  CallsD Tryz.prog 123 #[.pointer (some ⟨b,0,none⟩)] (.panicking ({v:=.iface 184 (.agg #[af c,af ln,af col]),recovered:=false}::older)) w fun e u' w'=>
   e=.returned (.tuple #[])∧u'=.panicking ({v:=.iface 184 (.agg #[af c,af ln,af col]),recovered:=true}::older)∧w'.heap[b]?=some (.cells #[af c,af ln,af col] 27 (0,0))∧Step (·=b) w w':=by
 refine callsD_of_wpS Tryz.func123 rfl fun c₀ cs hu=> ?_
 obtain⟨⟨g0,g1,g2⟩,k0,k1,k2⟩:=wL hc
 have hlt:b<w.heap.size:=aC hc
 apply wpS_seq
 apply wpS_region
 have hta:∀(x:Value) (w:World),(Instr.typeAssert (.iface 184 x) 20 184 true).run Tryz.prog w=.ok (.tuple #[x,bC true]) w:=fun _ _=>by kernel_rfl
 simp[wpOpsS,go_sem,recoverD,hu,Tryz.ntmps123,Exit.thenS]
 refine wpS_of_wp ?_
 simp only[Array.replicate_succ,Array.replicate_zero,List.push_toArray,List.append_toArray,List.nil_append,List.cons_append,List.setIfInBounds_toArray,List.set_cons_zero,List.set_cons_succ]
 go_wp2
 refine⟨rfl,_,rfl,.tuple #[],by simp[results,Tryz.results123,go_sem],rfl,rfl,?_,?_⟩
 ·
  have:=aU (aU (aU hc 0 (.int .i64 c)) 1 (.int .i64 ln)) 2 (.int .i64 col)
  exact aN this
 ·
  exact((((Step.refl (·=b) w).setCell ⟨b,0,none⟩ _ jd).setCell ⟨b,1,none⟩ _ jd).setCell ⟨b,2,none⟩ _ jd).alloc _
theorem catch_idle (b:Nat) (w:World):CallsD Tryz.prog 123 #[.pointer (some ⟨b,0,none⟩)] .returning w fun e u' w'=>e=.returned (.tuple #[])∧u'=.returning∧w'=w:=by refine callsD_of_wpS Tryz.func123 rfl fun c₀ cs hu=> ?_;apply wpS_seq;apply wpS_region;simp[wpOpsS,go_sem,recoverD,hu,Tryz.ntmps123,Exit.thenS];refine wpS_of_wp ?_;simp only[Array.replicate_succ,Array.replicate_zero,List.push_toArray,List.append_toArray,List.nil_append,List.cons_append,List.setIfInBounds_toArray,List.set_cons_zero,List.set_cons_succ];go_wp2;cases c₀;simp_all [bodyPostS,results,Tryz.results123,go_sem]
def uZ (w:World) (lv:Value):World:=(w.alloc (.cells #[af 0,af 0,af 0] 27)).alloc (.cells #[lv,af 0,af 0] 152)
theorem TD (a:Option Addr) (n cap k:Nat) (caps:List Value) (w:World) (c ln col:Nat) (Q:World→Prop) (hk:Enters k)
  (hby:Calls Tryz.prog k (.pointer (some ⟨w.heap.size+1,0,none⟩)::caps).toArray (uZ w (.slice a n cap)) fun e w'=>
   e=.panicked [{v:=.iface 184 (.agg #[af c,af ln,af col]),recovered:=false}]∧(w'.heap[w.heap.size]?=some (.cells #[af 0,af 0,af 0] 27 (0,0)))∧Q w'):
  Calls Tryz.prog 87 #[.slice a n cap,.func (.func k) #[] caps.toArray] w fun e w'=>
   e=.returned (.agg #[af c,af ln,af col])∧∃w1,Q w1∧Step (·=w.heap.size) w1 w':=by
 have hmf:∀(fn:Fn) (first cap:Array Value) (w:World),(Instr.makeFunc fn first cap).run Tryz.prog w=.ok (.func fn first cap) w:=fun _ _ _ _=>rfl
 have hfe:∀(fn:Fn) (x y:Array Value) (w:World),(binOp .eql 150 (.func fn x y) .nilFunc).run Tryz.prog w=.ok (.bool false) w:=fun _ _ _ _=>by kernel_rfl
 have hen:Enters k:=hk
 unfold Enters at hen
 have HB:=ai hby
 clear hby hk
 go_enter_defers Tryz.func87,Tryz.ntmps87
 go_wp2_with fail
 refine HB.o.mono ?_
 rintro e w1 ⟨rfl,hE,hQ⟩
 refine leaves_cons (f:=123) (args:= #[.pointer (some ⟨w.heap.size,0,none⟩)]) (by simp) (by simp[go_sem]) ?_
 refine(catch_panicking w.heap.size c ln col _ _ _ [] w1 hE).mono ?_
 rintro e u' w2 ⟨rfl,rfl,hE2,hst⟩
 obtain⟨⟨g0,g1,g2⟩,_⟩:=wL hE2
 simp[Leaves,settle,results,Tryz.results87,go_sem,g0,g1,g2]
 exact⟨w1,hQ,hst⟩
theorem ZY (a:Option Addr) (n cap k:Nat) (caps:List Value) (w:World) (Q:World→Prop) (hk:Enters k)
  (hby:Calls Tryz.prog k (.pointer (some ⟨w.heap.size+1,0,none⟩)::caps).toArray (uZ w (.slice a n cap)) fun e w'=>
   e=.returned (.tuple #[])∧(w'.heap[w.heap.size]?=some (.cells #[af 0,af 0,af 0] 27 (0,0)))∧Q w'):
  Calls Tryz.prog 87 #[.slice a n cap,.func (.func k) #[] caps.toArray] w fun e w'=>
   e=.returned (.agg #[af 0,af 0,af 0])∧∃w1,Q w1∧Step (·=w.heap.size) w1 w':=by
 have hmf:∀(fn:Fn) (first cap:Array Value) (w:World),(Instr.makeFunc fn first cap).run Tryz.prog w=.ok (.func fn first cap) w:=fun _ _ _ _=>rfl
 have hfe:∀(fn:Fn) (x y:Array Value) (w:World),(binOp .eql 150 (.func fn x y) .nilFunc).run Tryz.prog w=.ok (.bool false) w:=fun _ _ _ _=>by kernel_rfl
 have hen:Enters k:=hk
 unfold Enters at hen
 have HB:=ai hby
 clear hby hk
 go_enter_defers Tryz.func87,Tryz.ntmps87
 go_wp2_with fail
 refine HB.o.mono ?_
 rintro e w1 ⟨rfl,hE,hQ⟩
 have q0:=ah hE 0 _ rfl
 have q1:=ah hE 1 _ rfl
 have q2:=ah hE 2 _ rfl
 have z0:=aH hE 0
 have z1:=aH hE 1
 have z2:=aH hE 2
 have HQ:=ai hQ
 have hb2:=aU (aU (aU hE 0 (.int .i64 0)) 1 (.int .i64 0)) 2 (.int .i64 0)
 have hs2:Step (·=w.heap.size) w1 (((w1.setCell ⟨w.heap.size,0,none⟩ (.int .i64 0)).setCell ⟨w.heap.size,1,none⟩ (.int .i64 0)).setCell ⟨w.heap.size,2,none⟩ (.int .i64 0)):=(((Step.refl (·=w.heap.size) _).setCell _ _ jd).setCell _ _ jd).setCell _ _ jd
 have HB2:=ai hb2
 have HS2:=ai hs2
 clear hQ hb2 hs2
 go_wp2_with fail
 refine leaves_cons (f:=123) (args:= #[.pointer (some ⟨w.heap.size,0,none⟩)]) (by simp) (by simp[go_sem]) ?_
 refine(catch_idle w.heap.size _).mono ?_
 rintro e u' w2 ⟨rfl,rfl,rfl⟩
 obtain⟨⟨g0,g1,g2⟩,_⟩:=wL HB2.o
 simp[Leaves,settle,results,Tryz.results87,go_sem,g0,g1,g2]
 exact⟨w1,HQ.o,HS2.o⟩
def wS {α:Type} (r:dB α) (l:List Tok):dB α:=match r with
 | .ok a j=>if(tokA l j).kind=0 then .ok a j else gW 1 l j
 | .err c ln col=>.err c ln col
 | .out=>.out
def vW {α:Type} (s:List UInt8) (p:List Tok→dB α):Except (Nat×Nat×Nat) α:=match ng s with
 | .error e=>.error e
 | .ok l=>match wS (p l) l with
  | .ok a _=>.ok a
  | .err c ln col=>.error (c,ln,col)
  | .out=>.error (1,0,0)
theorem bD.apart {R:h_} {w w':World} {i d bo:Nat} (h:bD R w i d) (hs:Step (·=bo) w w') (h0:0<bo) (h1:bo≠R.rb) (h2:∀g o p,R.a=some ⟨g,o,p⟩→g≠bo):bD R w' i d:=by
 refine⟨hs.keep h.blk (fun e=>h1 e.symm),?_,hs.cell h.RN (fun e=>by have e2:0=bo:=e;omega),h.pos,h.lt⟩;obtain⟨a,c,hv,hc,hm,hz,hr⟩:=h.row;refine⟨a,c,hv,hc,hm,hz,fun hn=> ?_⟩;obtain⟨g,o,ha,hg,hgw,hcell⟩:=hr hn;have hra:R.a=some ⟨g,o,none⟩:=by rw[←ha];cases hv;rfl
 exact⟨g,o,ha,hg,Nat.lt_of_lt_of_le hgw hs.size,fun i x hx=>hs.cell (hcell i x hx) (h2 g o none hra)⟩
theorem u_ {α:Type} {s:List UInt8} {p:List Tok→dB α} (hc:∀l c ln col,ng s=.ok l→p l=.err c ln col→c≠0) {c ln col:Nat} (h:vW s p=.error (c,ln,col)):c≠0:=by
 unfold vW at h;cases hx:ng s with
 |error e=>rw[hx]at h;obtain⟨c',ln',col'⟩:=e;cases h;exact Me hx
 |ok l=>
  rw[hx]at h;dsimp only at h;cases hy:p l with
  |out=>rw[hy]at h;cases h;decide
  |err c' ln' col'=>rw[hy]at h;cases h;exact hc l _ _ _ hx hy
  |ok a j=>
   rw[hy]at h;dsimp only[wS]at h;by_cases hz:(tokA l j).kind=0
   ·rw[if_pos hz]at h;cases h
   ·rw[if_neg hz,gW]at h;cases h;decide
theorem Z4 (s:ByteArray) (w:World) (m:Int) (hm:w.cell? ⟨0,0,none⟩=some (.int .i64 m)):Calls Tryz.prog 86 #[.string s] w (I4 w.heap.size w (ng s.data.toList)):=by
 rcases Nat.lt_or_ge 20000 s.size with h|h
 ·exact UZ s w h
 ·exact YP s w m hm h
theorem TF {α:Type} (R:h_) (k:Nat) (caps:List Value) (bc bo:Nat) (Left:World→α→Prop) (r:dB α) (w:World) (hk:Enters k) (hbc:w.cell? ⟨bc,0,none⟩=some (.func (.func k) #[] caps.toArray)) (hno:r≠.out) (hby:Calls Tryz.prog k (.agg #[fM R.rb 0]::caps).toArray w (aY R 0 bo Left r w)) (hst:∀X Y a,jP X Y→Left X a→Left Y a):Calls Tryz.prog 88 #[.pointer (some ⟨R.rb,0,none⟩),.pointer (some ⟨bc,0,none⟩)] w (aY R 0 bo Left (wS r R.l) w):=by
 have hen:Enters k:=hk;unfold Enters at hen;have HB:=ai hby;have HST:=ai hst;have f_:=ai hno;have hfd0:∀(a0 a1 a2 a3 a4:Value) (w:World),(Instr.field 111 (.agg #[a0,a1,a2,a3,a4]) 0).run Tryz.prog w=.ok a0 w:=fun _ _ _ _ _ _=>by kernel_rfl
 clear hby hk hst hno;go_enter Tryz.func88,Tryz.ntmps88;go_wp2_with fail;refine HB.o.mono ?_;rintro e w1 hp;cases r with
 |out=>exact absurd rfl f_.o
 |err c ln col=>obtain⟨rfl,hs⟩:=hp;exact⟨rfl,rfl,hs⟩
 |ok a j=>
  obtain⟨rfl,hleft,hr,hs⟩:=hp;obtain⟨tk,htk⟩:=bn (tokA R.l j);have HT:=ai (show R.l[j]?=some tk by rw[htk];exact hr.tok);have RQ:=ai htk;have HR:=ai hr;have RY:=ai hleft;have HS:=ai hs;clear htk hr hleft hs hbc;go_wp2_with fail;refine(l_ R _ j 0 tk HR.o HT.o).mono ?_;rintro e w2 ⟨rfl,h2⟩;have HR2:=ai (HR.o.quiet h2);have HS2:=ai h2;clear h2;by_cases hz:tk.kind=0
  ·(have e1:((tk.kind:Int) !=0)=false:=by rw[bne,kX tk.kind 0 0 rfl,hz];rfl);(have HE:Hid (wS (.ok a j) R.l=.ok a j):=by show(if(tokA R.l j).kind=0 then dB.ok a j else gW 1 R.l j)=_;rw[←RQ.o,if_pos hz]);clear hz;go_wp2_with fail;refine bodyPost_end (results_none rfl _ _ _) rfl ?_;exact aY.dQ HE.o rfl (HST.o _ _ _ HS2.o RY.o) HR2.o (HS.o.trans (HS2.o.mono fe))
  ·(have e1:((tk.kind:Int) !=0)=true:=by rw[bne,kX tk.kind 0 0 rfl,beq_eq_false_iff_ne.2 hz];rfl);(have HE:Hid (wS (.ok a j) R.l=.err 1 tk.line tk.col):=by show(if(tokA R.l j).kind=0 then dB.ok a j else gW 1 R.l j)=_;rw[←RQ.o,if_neg hz,gW,←RQ.o]);clear hz;go_wp2_with fail;refine(qG R 1 _ j 0 tk HR2.o HT.o).mono ?_;rintro e w3 ⟨rfl,h3⟩;exact⟨rfl,aY.aW HE.o rfl (HS.o.trans ((HS2.o.trans h3).mono fe))⟩
theorem AX:Enters 88:=fun xs w=>by go_simp
def QC {α:Type} (bo:Nat) (Left:World→World→α→Prop) (r:Except (Nat×Nat×Nat) α) (w:World) (e:Ending) (w':World):Prop:=
 match r with
 | .ok a=>e=.returned (.agg #[af 0,af 0,af 0])∧(∃X,w.heap.size≤X.heap.size∧Left X w' a)∧Step (·=bo) w w'
 | .error (c,ln,col)=>e=.returned (.agg #[af c,af ln,af col])∧Step (·=bo) w w'
theorem BO {α:Type} (s:ByteArray) (k:Nat) (caps:List Value) (bo:Nat) (p:List Tok→dB α) (Left:World→World→α→Prop) (w:World) (m:Int) (hm:w.cell? ⟨0,0,none⟩=some (.int .i64 m)) (hbw:bo<w.heap.size) (hk:Enters k) (hp:∀l,ng s.data.toList=.ok l→p l≠.out) (hst:∀X Y Z a,w.heap.size≤X.heap.size→Step (fun q=>w.heap.size≤q∧q<X.heap.size) Y Z→Left X Y a→Left X Z a) (hby:∀(R:h_) (X:World),ng s.data.toList=.ok R.l→pF R.l→bD R X 0 0→w.heap.size<R.rb→(∀g o p,R.a=some ⟨g,o,p⟩→w.heap.size≤g)→jP w X→Calls Tryz.prog k (.agg #[fM R.rb 0]::caps).toArray X (aY R 0 bo (Left X) (p R.l) X)):Calls Tryz.prog 46 #[.string s,.func (.func k) #[] caps.toArray] w (QC bo Left (vW s.data.toList p) w):=by
 have hmf:∀(fn:Fn) (first cap:Array Value) (w:World),(Instr.makeFunc fn first cap).run Tryz.prog w=.ok (.func fn first cap) w:=fun _ _ _ _=>rfl;obtain⟨w1,hw1⟩:=bn ((w.alloc (.cells #[.func (.func k) #[] caps.toArray] 109)).alloc (.cells #[af 0,af 0,af 0] 27));have dF:=nT hw1
 have kG:=nC hw1
 have lm:=nD hw1
 have HW1:=ai hw1;have HM1:=ai (dF.o.cell hm (fun h=>h));have HLX:=ai (Z4 s w1 m HM1.o);have HB:=ai hby;have HP:=ai hp;have HST:=ai hst;have hn1:=aC lm.o;have hsz1:=dF.o.size;have HK:=ai hk;obtain⟨rl,hrl⟩:=bn (ng s.data.toList);have Bl:=ai hrl;rw[←hrl]at HLX;clear hm hk hp hst hby hw1 hrl;go_enter Tryz.func46,Tryz.ntmps46;go_upto_region 1 with fail
 rw[←HW1.o];go_wp2_with fail;refine HLX.o.mono ?_;rintro e w2 ⟨hp,h2⟩;cases rl with
 |error q=>
  obtain⟨c,ln,col⟩:=q;have hp2:e=.returned (.tuple #[aj,.agg #[af c,af ln,af col]]):=hp;subst hp2;have hc0:c≠0:=Me Bl.o.symm;have bc:((c:Int)==0)=false:=by rw[beq_eq_false_iff_ne];omega
  have HS2:=ai h2;have lN:=ai (h2.keep lm.o (fun h=>h));have hz2:=h2.size;obtain⟨⟨d0,d1,d2⟩,z0,z1,z2⟩:=wL (aN (o':=.cells #[af c,af ln,af col] 27) lN.o);clear hp h2 hc0;go_wp2_with fail;refine bodyPost_ret (v:=.agg #[af c,af ln,af col]) (by simp[results,Tryz.results46,go_sem,d0,d1,d2]) rfl ?_;unfold QC vW;rw[←Bl.o];refine⟨rfl,?_⟩;have hs3:Step (·=w.heap.size+1) w2 ((((w2.alloc (.cells #[af c,af ln,af col] 27)).setCell ⟨w.heap.size+1,0,none⟩ (.int .i64 c)).setCell ⟨w.heap.size+1,1,none⟩ (.int .i64 ln)).setCell ⟨w.heap.size+1,2,none⟩ (.int .i64 col)):=((((Step.refl (·=w.heap.size+1) _).alloc _).setCell _ _ jd).setCell _ _ jd).setCell _ _ jd;exact((dF.o.trans HS2.o).mono fe).then hs3 oi
 |ok l=>
  obtain⟨v,rfl,hown⟩:∃v,e=.returned (.tuple #[v,.agg #[af 0,af 0,af 0]])∧w2.ownsRow w1.heap.size 111 5 v l.length (xw l):=hp;obtain⟨a,c,rfl⟩:=b_ hown;obtain⟨hlk,hl0⟩:=pO Bl.o.symm;have hpn:=HP.o l Bl.o.symm;obtain⟨w3,hw3⟩:=bn (w2.alloc (.cells #[af 0,af 0,af 0] 27));have jA:Hid (jP w w3):=by rw[hw3];exact(dF.o.trans h2).alloc _
  have qf:Hid (jP w1 w3):=by rw[hw3];exact h2.alloc _
  have qw:=nB hw3
  have HOW:=ai ((show jP w2 w3 by rw[hw3];exact bV.alloc _).owns hown (fun _ _ h=>h));have HM3:=ai (qf.o.cell HM1.o (fun h=>h));have yJ:=ai (qf.o.keep kG.o (fun h=>h));have wW:=ai (qf.o.keep lm.o (fun h=>h));have HW3:=ai hw3;have hz13:=qf.o.size;clear hown h2 hw3;obtain⟨R,hR⟩:∃R:h_,R=⟨w3.heap.size+1,a,c,l,m⟩:=⟨_,rfl⟩;have hrb:R.rb=w3.heap.size+1:=by rw[hR]
  have hRl:R.l=l:=by rw[hR]
  have hRD:bD R (uZ w3 (.slice a l.length c)) 0 0:=by rw[hR];have h3:jP w3 (uZ w3 (.slice a l.length c)):=(bV.alloc _).alloc _;exact⟨fO _ _ _,(Row.jb HOW.o (Nat.le_refl _)).step h3 (fun _ _ h=>h)|>.mono (Nat.le_succ _),h3.cell HM3.o (fun h=>h),Nat.succ_pos _,hl0⟩
  have hRA:∀g o p,R.a=some ⟨g,o,p⟩→w.heap.size≤g:=by intro g o p e;rw[hR]at e;have e2:a=some ⟨g,o,p⟩:=e;have:=(HOW.o.lt g (by rw[e2];rfl)).1;omega
  have Z5:jP w (uZ w3 (.slice a l.length c)):=(jA.o.alloc _).alloc _;have hcall:=TF R k caps w.heap.size bo (Left (uZ w3 (.slice a l.length c))) (p R.l) (uZ w3 (.slice a l.length c)) HK.o (d_ (d_ (ah yJ.o 0 _ rfl))) (by rw[hRl];exact hpn)
   (HB.o R _ (by rw[hRl];exact Bl.o.symm) (by rw[hRl];exact hlk) hRD om hRA Z5) (fun X Y a hs hl=>HST.o _ X Y a Z5.size (hs.mono fe) hl)
  rw[hRl,hrb]at hcall;have herr:(uZ w3 (.slice a l.length c)).heap[w3.heap.size]?=some (.cells #[af 0,af 0,af 0] 27 (0,0)):=aN (aB _ _);have hzr:(uZ w3 (.slice a l.length c)).heap.size=w3.heap.size+2:=by simp[uZ]
  have HOUT:Hid (vW s.data.toList p=match wS (p l) l with| .ok a _=>.ok a| .err c ln col=>.error (c,ln,col)| .out=>.error (1,0,0)):=by show _=_;unfold vW;rw[←Bl.o]
  obtain⟨r,hr⟩:=bn (wS (p l) l);rw[←hr]at hcall HOUT;have HCALL:=ai hcall;have hrn:r≠.out:=by
   rw[hr];unfold wS;cases hx:p l with
   |out=>exact absurd hx hpn
   |err=>intro e;cases e
   |ok a j=>dsimp only;split<;>(intro e;cases e)
  obtain⟨⟨g0,g1,g2⟩,-⟩:=wL qw.o;have hlt3:w.heap.size+1<w3.heap.size:=by omega
  clear hcall hRD hRA hR hr hlk hl0 hpn;cases r with
  |out=>exact absurd rfl hrn
  |err ce ln col=>have Oj:=ai (TD a l.length c 88 [.pointer (some ⟨w.heap.size,0,none⟩)] w3 ce ln col (fun X=>Step (fun q=>q=w3.heap.size+1∨q=bo) (uZ w3 (.slice a l.length c)) X) AX (HCALL.o.mono fun e X hp=>⟨hp.1,hp.2.keep herr om,(by have h9:=hp.2;rw[hrb]at h9;exact h9)⟩));(go_upto_region 2 with fail);rw[←HW3.o];go_wp2_with fail;refine Oj.o.mono ?_;rintro e w5 ⟨rfl,w4,h4,h5⟩;have OQ:Step (·=bo) w3 w5:=((((Step.refl (fun _=>False) _).alloc _).alloc _).mono fe|>.then h4 oi).then h5 oi;have HS35:=ai OQ;obtain⟨⟨d0,d1,d2⟩,z0,z1,z2⟩:=wL (OQ.keep wW.o om);clear h4 h5 OQ g0 g1 g2;go_wp2_with fail;refine bodyPost_ret (v:=.agg #[af ce,af ln,af col]) (by simp[results,Tryz.results46,go_sem,d0,d1,d2]) rfl ?_;rw[HOUT.o];refine⟨rfl,?_⟩;have hs3:Step (·=w.heap.size+1) w5 (((w5.setCell ⟨w.heap.size+1,0,none⟩ (.int .i64 ce)).setCell ⟨w.heap.size+1,1,none⟩ (.int .i64 ln)).setCell ⟨w.heap.size+1,2,none⟩ (.int .i64 col)):=(((Step.refl (·=w.heap.size+1) _).setCell _ _ jd).setCell _ _ jd).setCell _ _ jd;exact((jA.o.mono fe).trans HS35.o).then hs3 oi
  |ok x j=>have HRO:=ai (ZY a l.length c 88 [.pointer (some ⟨w.heap.size,0,none⟩)] w3 (fun X=>Left (uZ w3 (.slice a l.length c)) X x∧Step (fun q=>q=w3.heap.size+1∨q=bo) (uZ w3 (.slice a l.length c)) X) AX (HCALL.o.mono fun e X hp=>⟨hp.1,hp.2.2.2.keep herr om,hp.2.1,(by have h9:=hp.2.2.2;rw[hrb]at h9;exact h9)⟩));(go_upto_region 2 with fail);rw[←HW3.o];go_wp2_with fail;refine HRO.o.mono ?_;rintro e w5 ⟨rfl,w4,⟨hleft,h4⟩,h5⟩;have OQ:Step (·=bo) w3 w5:=((((Step.refl (fun _=>False) _).alloc _).alloc _).mono fe|>.then h4 oi).then h5 oi;have HS35:=ai OQ;have RY:=ai hleft;have um:=ai h5;obtain⟨⟨d0,d1,d2⟩,z0,z1,z2⟩:=wL (OQ.keep wW.o om);clear h4 h5 OQ g0 g1 g2 hleft;go_wp2_with fail;refine bodyPost_ret (v:=.agg #[af 0,af 0,af 0]) (by simp[results,Tryz.results46,go_sem,d0,d1,d2]) rfl ?_;rw[HOUT.o];have hs3:Step (·=w.heap.size+1) w5 (((w5.setCell ⟨w.heap.size+1,0,none⟩ (.int .i64 0)).setCell ⟨w.heap.size+1,1,none⟩ (.int .i64 0)).setCell ⟨w.heap.size+1,2,none⟩ (.int .i64 0)):=(((Step.refl (·=w.heap.size+1) _).setCell _ _ jd).setCell _ _ jd).setCell _ _ jd;refine⟨rfl,⟨_,Z5.size,HST.o _ w4 _ x Z5.size ?_ RY.o⟩,((jA.o.mono fe).trans HS35.o).then hs3 oi⟩;refine(um.o.mono (fun q _ e=>⟨by omega,by omega⟩)).trans (hs3.mono (fun q _ e=>⟨by omega,by omega⟩))
section
variable {P : Program} {w : World}
theorem lF {fn:Func} {x y t t2:Nat} (h:fn.results= #[.cell x t,.cell y t2]) (tmps:Array Value) (b b2 tt tt2:Nat) (cs ds:List Value) (d d2:TypeDesc) (hx:tmps.getD x undef=.pointer (some ⟨b,0,none⟩)) (hy:tmps.getD y undef=.pointer (some ⟨b2,0,none⟩)) (hb:w.heap[b]?=some (.cells cs.toArray tt (0,0))) (hu:P.underlying t=some d) (hd:d.isRow=true) (hi:(P.info? t).map (·.size)=some cs.length) (hb2:w.heap[b2]?=some (.cells ds.toArray tt2 (0,0))) (hu2:P.underlying t2=some d2) (hd2:d2.isRow=true) (hi2:(P.info? t2).map (·.size)=some ds.length):(results fn tmps).run P w=.ok (.tuple #[.agg cs.toArray,.agg ds.toArray]) w:=by have hl:=run_loadVar_mid (P:=P) w b 0 t cs d (fun j v hv=>by rw[Nat.zero_add];exact ah hb j v qE) hu hd hi;have hl2:=run_loadVar_mid (P:=P) w b2 0 t2 ds d2 (fun j v hv=>by rw[Nat.zero_add];exact ah hb2 j v qE) hu2 hd2 hi2;rw[Array.getD_eq_getD_getElem?]at hx hy;simp[results,h,hx,hy,asAddr,hl,hl2]
theorem rH {fn:Func} {x y t2:Nat} (h:fn.results= #[.tmp x,.cell y t2]) (tmps:Array Value) (b2 tt2:Nat) (v:Value) (ds:List Value) (d2:TypeDesc) (hx:tmps.getD x undef=v) (hy:tmps.getD y undef=.pointer (some ⟨b2,0,none⟩)) (hb2:w.heap[b2]?=some (.cells ds.toArray tt2 (0,0))) (hu2:P.underlying t2=some d2) (hd2:d2.isRow=true) (hi2:(P.info? t2).map (·.size)=some ds.length):(results fn tmps).run P w=.ok (.tuple #[v,.agg ds.toArray]) w:=by have hl2:=run_loadVar_mid (P:=P) w b2 0 t2 ds d2 (fun j v hv=>by rw[Nat.zero_add];exact ah hb2 j v qE) hu2 hd2 hi2;rw[Array.getD_eq_getD_getElem?]at hx hy;simp[results,h,hx,hy,asAddr,hl2]
end
theorem Tryz.dG:(Tryz.prog.info? 27).map (·.size)=some 3:=by kernel_rfl
def kD:Nat:=200000
theorem Gd.code {α:Type} {N i:Nat} {r:dB α} (h:Gd N i r) {c ln col:Nat} (e:r=.err c ln col):c≠0:=by subst e;exact h
def sH (s:List UInt8):Except (Nat×Nat×Nat) Ex:=vW s fun l=>a_ kD l 0 0 0
theorem AY {s:List UInt8} {l:List Tok} (h:ng s=.ok l):Gd l.length 0 (a_ kD l 0 0 0):=by obtain⟨hl,h0⟩:=pO h;exact(BN hl kD).level 0 0 0 h0 om (by have:=hl.len;unfold kD;omega)
def OT (X w':World) (a:Ex) (cs:List Value):Prop:=cZ w' (fun q=>X.heap.size≤q) a cs
theorem CW {X Y Z:World} {a:Ex} {cs:List Value} {S:Nat→Prop} (hs:Step S Y Z) (hS:∀q,X.heap.size≤q→¬S q) (h:OT X Y a cs):OT X Z a cs:=cZ.step hs hS a cs h
theorem AZ:Enters 67:=fun xs w=>by go_simp
theorem MB:Enters 40:=fun xs w=>by go_simp
def JG (bo:Nat) (X w':World) (a:Ex):Prop:=∃cs:List Value,w'.heap[bo]?=some (.cells cs.toArray 56 (0,0))∧OT X w' a cs
theorem MC (R:h_) (bb bo:Nat) (r:dB (Ex)) (w:World) (h:bD R w 0 0) (hbb:w.cell? ⟨bb,0,none⟩=some (.func (.func 40) #[] #[])) (E8:w.heap[bo]?=some (.cells #[af 0,bW,bf 0,aT,aj,aj,aj,af 0,af 0] 56 (0,0))) (h0:0<bo) (hne:bo≠R.rb) (hra:∀g o p,R.a=some ⟨g,o,p⟩→g≠bo) (hno:r≠.out) (hc:∀X:World,bD R X 0 0→Calls Tryz.prog 40 #[.agg #[fM R.rb 0]] X (aJ R 0 (NE X.heap.size) r X)):Calls Tryz.prog 67 #[.agg #[fM R.rb 0],.pointer (some ⟨bb,0,none⟩),.pointer (some ⟨bo,0,none⟩)] w (aY R 0 bo (JG bo w) r w):=by
 have hen:=MB;unfold Enters at hen;obtain⟨w1,hw1⟩:=bn (w.alloc (.cells #[fM R.rb 0] 75));have dF:=nS hw1
 have kG:=nB hw1
 have HW1:=ai hw1;have H1:=ai (h.quiet dF.o);have p0:=ah kG.o 0 _ rfl;have b0:=dF.o.cell hbb (fun h=>h);have HBO:=ai (dF.o.keep E8 (fun h=>h));have hbl:=aC E8;have HC:=ai (hc w1 H1.o);have f_:=ai hno;clear h hno hw1 hbb E8 hc;go_enter Tryz.func67,Tryz.ntmps67;go_upto_region 1 with fail
 rw[←HW1.o];go_wp2_with fail;refine HC.o.mono ?_;rintro e wx hp;cases r with
 |out=>exact absurd rfl f_.o
 |err c ln col=>obtain⟨rfl,sq⟩:=hp;exact⟨rfl,rfl,((dF.o.mono fe).trans sq).mono il⟩
 |ok y jx=>
  obtain⟨⟨v,rfl,cs,rfl,hy⟩,hrx,hsx⟩:=hp;have HY:=ai hy;have dL:=ai hy.one;obtain⟨k0,gZ,v0,g_,a1,n1,c1,a2,n2,c2,a3,n3,c3,l0,c0,rfl⟩:=hy.parts;have wP:=ai hrx;have qW:=ai hsx;have UB:=ai (hsx.keep HBO.o hne);clear hy hrx hsx p0 b0
  go_wp2_with (refine au (w:=wx) rfl 56 (.tmp 2) (.tmp 6) rfl bo 0 56 _ [.int .i64 k0,.string gZ,.int .u64 v0,.bool g_,.slice a1 n1 c1,.slice a2 n2 c2,.slice a3 n3 c3,.int .i64 l0,.int .i64 c0] rfl rfl UB.o Tryz.aK (Nat.le_of_eq rfl) dL.o ?_
               intro w6 hb6 uw)
  have GH:w6.heap[bo]?=some (.cells [Value.int .i64 k0,aG gZ,bf v0,bC g_,.slice a1 n1 c1,.slice a2 n2 c2,.slice a3 n3 c3,af l0,af c0].toArray 56 (0,0)):=hb6;refine bodyPost_end (results_none rfl _ _ _) rfl ?_;have hz1:=dF.o.size;refine aY.dQ rfl rfl ⟨_,GH,cZ.mono oi _ _ (cZ.step uw oi _ _ HY.o)⟩ (wP.o.apart uw h0 hne hra) ?_;exact(((dF.o.mono fe).trans qW.o).mono il).trans (uw.mono ir)
def DR (r:Except (Nat×Nat×Nat) (Ex)) (w:World) (e:Ending) (w':World):Prop:=
 (match r with
  | .ok a=>∃v,e=.returned (.tuple #[v,.agg #[af 0,af 0,af 0]])∧Ar w' (fun q=>w.heap.size≤q) a v
  | .error (c,ln,col)=>e=.returned (.tuple #[.agg #[af 0,bW,bf 0,aT,aj,aj,aj,af 0,af 0],.agg #[af c,af ln,af col]]))∧jP w w'
theorem OU (s:ByteArray) (w:World) (m:Int) (hm:w.cell? ⟨0,0,none⟩=some (.int .i64 m)):Calls Tryz.prog 39 #[.string s,.func (.func 40) #[] #[]] w (DR (sH s.data.toList) w):=by
 have hmf:∀(fn:Fn) (first cap:Array Value) (w:World),(Instr.makeFunc fn first cap).run Tryz.prog w=.ok (.func fn first cap) w:=fun _ _ _ _=>rfl;obtain⟨w1,hw1⟩:=bn (((((w.alloc (.cells #[.func (.func 40) #[] #[]] 101)).alloc (.cells #[af 0,bW,bf 0,aT,aj,aj,aj,af 0,af 0] 56)).alloc (.cells #[af 0,af 0,af 0] 27)).alloc (.cells #[af 0,bW,bf 0,aT,aj,aj,aj,af 0,af 0] 56)).alloc (.cells #[af 0,bW,bf 0,aT,aj,aj,aj,af 0,af 0] 56));have dF:Hid (jP w w1):=by rw[hw1];exact(((((bV.alloc _).alloc _).alloc _).alloc _).alloc _)
 have hpos:0<w.heap.size:=by
  rcases Nat.eq_zero_or_pos w.heap.size with h|h
  ·exact absurd hm (by simp[World.cell?,Array.getElem?_eq_none (show w.heap.size≤0 by omega)])
  ·exact h
 have HA0:Hid (w1.heap[w.heap.size]?=some (.cells #[.func (.func 40) #[] #[]] 101 (0,0))):=by rw[hw1];exact aN (aN (aN (aN ((show(w.alloc (.cells #[.func (.func 40) #[] #[]] 101)).heap[w.heap.size]?=some (.cells #[.func (.func 40) #[] #[]] 101 (0,0)) by have h:=aB w (.cells #[.func (.func 40) #[] #[]] 101);simpa using h)))))
 have HA1:Hid (w1.heap[w.heap.size+1]?=some (.cells #[af 0,bW,bf 0,aT,aj,aj,aj,af 0,af 0] 56 (0,0))):=by rw[hw1];exact aN (aN (aN ((show((w.alloc (.cells #[.func (.func 40) #[] #[]] 101)).alloc (.cells #[af 0,bW,bf 0,aT,aj,aj,aj,af 0,af 0] 56)).heap[w.heap.size+1]?=some (.cells #[af 0,bW,bf 0,aT,aj,aj,aj,af 0,af 0] 56 (0,0)) by have h:=aB (w.alloc (.cells #[.func (.func 40) #[] #[]] 101)) (.cells #[af 0,bW,bf 0,aT,aj,aj,aj,af 0,af 0] 56);simpa using h))))
 have HA2:Hid (w1.heap[w.heap.size+1+1]?=some (.cells #[af 0,af 0,af 0] 27 (0,0))):=by rw[hw1];exact aN (aN ((show(((w.alloc (.cells #[.func (.func 40) #[] #[]] 101)).alloc (.cells #[af 0,bW,bf 0,aT,aj,aj,aj,af 0,af 0] 56)).alloc (.cells #[af 0,af 0,af 0] 27)).heap[w.heap.size+1+1]?=some (.cells #[af 0,af 0,af 0] 27 (0,0)) by have h:=aB ((w.alloc (.cells #[.func (.func 40) #[] #[]] 101)).alloc (.cells #[af 0,bW,bf 0,aT,aj,aj,aj,af 0,af 0] 56)) (.cells #[af 0,af 0,af 0] 27);simpa using h)))
 have WZ:Hid (w1.heap[w.heap.size+1+1+1]?=some (.cells #[af 0,bW,bf 0,aT,aj,aj,aj,af 0,af 0] 56 (0,0))):=by rw[hw1];exact aN ((show((((w.alloc (.cells #[.func (.func 40) #[] #[]] 101)).alloc (.cells #[af 0,bW,bf 0,aT,aj,aj,aj,af 0,af 0] 56)).alloc (.cells #[af 0,af 0,af 0] 27)).alloc (.cells #[af 0,bW,bf 0,aT,aj,aj,aj,af 0,af 0] 56)).heap[w.heap.size+1+1+1]?=some (.cells #[af 0,bW,bf 0,aT,aj,aj,aj,af 0,af 0] 56 (0,0)) by have h:=aB (((w.alloc (.cells #[.func (.func 40) #[] #[]] 101)).alloc (.cells #[af 0,bW,bf 0,aT,aj,aj,aj,af 0,af 0] 56)).alloc (.cells #[af 0,af 0,af 0] 27)) (.cells #[af 0,bW,bf 0,aT,aj,aj,aj,af 0,af 0] 56);simpa using h))
 have HA4:Hid (w1.heap[w.heap.size+1+1+1+1]?=some (.cells #[af 0,bW,bf 0,aT,aj,aj,aj,af 0,af 0] 56 (0,0))):=by rw[hw1];exact(show(((((w.alloc (.cells #[.func (.func 40) #[] #[]] 101)).alloc (.cells #[af 0,bW,bf 0,aT,aj,aj,aj,af 0,af 0] 56)).alloc (.cells #[af 0,af 0,af 0] 27)).alloc (.cells #[af 0,bW,bf 0,aT,aj,aj,aj,af 0,af 0] 56)).alloc (.cells #[af 0,bW,bf 0,aT,aj,aj,aj,af 0,af 0] 56)).heap[w.heap.size+1+1+1+1]?=some (.cells #[af 0,bW,bf 0,aT,aj,aj,aj,af 0,af 0] 56 (0,0)) by have h:=aB ((((w.alloc (.cells #[.func (.func 40) #[] #[]] 101)).alloc (.cells #[af 0,bW,bf 0,aT,aj,aj,aj,af 0,af 0] 56)).alloc (.cells #[af 0,af 0,af 0] 27)).alloc (.cells #[af 0,bW,bf 0,aT,aj,aj,aj,af 0,af 0] 56)) (.cells #[af 0,bW,bf 0,aT,aj,aj,aj,af 0,af 0] 56);simpa using h)
 have HW1:=ai hw1;have HM1:=ai (dF.o.cell hm (fun h=>h));have hn1:=aC HA4.o;have hsz:=dF.o.size
 have GU:=ai (BO s 67 [.pointer (some ⟨w.heap.size,0,none⟩),.pointer (some ⟨w.heap.size+1+1+1,0,none⟩)] (w.heap.size+1+1+1) (fun l=>a_ kD l 0 0 0) (JG (w.heap.size+1+1+1)) w1 m HM1.o (aC WZ.o) AZ (fun l hl=>(AY hl).ne)
  (fun X Y Z a h1 h2 h3=>by
   obtain⟨cs,c1,c2⟩:=h3
   exact⟨cs,h2.keep c1 (fun e=>by have:=aC WZ.o;omega),CW h2 oi c2⟩)
  (fun R X hlx hl h hrb hra hs=>MC R _ _ _ X h (ah (hs.keep HA0.o (fun h=>h)) 0 _ rfl) (hs.keep WZ.o (fun h=>h)) om (by have:=aC WZ.o;omega) (fun g o p e e2=>by have:=hra g o p e;have:=aC WZ.o;omega) ((AY hlx).ne) (fun X hX=>mO kD (LX kD dc).level R X 0 0 hl hX dc ((AY hlx).ne))))
 obtain⟨r,hr⟩:=bn (sH s.data.toList);have hrd:r=vW s.data.toList (fun l=>a_ kD l 0 0 0):=hr;have Ig:Hid (∀c ln col,r=.error (c,ln,col)→c≠0):=by intro c ln col e;rw[hr]at e;exact u_ (fun l c ln col hl he=>(AY hl).code he) e
 rw[←hrd]at GU;rw[←hr];clear hm hw1 hr hrd;go_enter Tryz.func39,Tryz.ntmps39;go_upto_region 2 with fail
 rw[←HW1.o];go_wp2_with fail;refine GU.o.mono ?_;rintro e w2 hp;cases r with
 |error q=>
  obtain⟨c,ln,col⟩:=q;obtain⟨rfl,h2⟩:e=.returned (.agg #[af c,af ln,af col])∧Step (·=w.heap.size+1+1+1) w1 w2:=hp;have hc0:=Ig.o c ln col rfl;have bc:((c:Int)==0)=false:=by rw[beq_eq_false_iff_ne];omega
  obtain⟨w3,hw3⟩:=bn (w2.alloc (.cells #[af c,af ln,af col] 27));have jA:Hid (Step (·=w.heap.size+1+1+1) w1 w3):=by rw[hw3];exact h2.alloc _
  have qw:=nB hw3
  have HW3:=ai hw3;have F9:=ai (jA.o.keep HA2.o om);obtain⟨be,hbe⟩:=bn w2.heap.size;have hbe1:w1.heap.size≤be:=by rw[hbe];exact h2.size
  rw[←hbe]at qw;obtain⟨⟨g0,g1,g2⟩,-⟩:=wL qw.o;have xI:Hid (jP w w3):=dF.o.then jA.o oi;clear hc0 h2 hw3;have TG:=ai (jA.o.keep HA1.o om);have HNN:=ai (jA.o.keep HA4.o om);go_upto_region 3 with fail
  rw[←HW3.o,←hbe];clear hbe;go_upto_region 4 with fail
  clear g0 g1 g2;obtain⟨Jx,hJx⟩:∃Jx:(Nat→Bool)→(Nat→Value)→World→Prop,Jx=fun L V X=>(L 0=true→V 0=.agg #[af 0,bW,bf 0,aT,aj,aj,aj,af 0,af 0])∧(L 1=true→V 1=.agg #[af c,af ln,af col])∧X.heap[w.heap.size+1]?=some (.cells #[af 0,bW,bf 0,aT,aj,aj,aj,af 0,af 0] 56 (0,0))∧X.heap[w.heap.size+1+1+1+1]?=some (.cells #[af 0,bW,bf 0,aT,aj,aj,aj,af 0,af 0] 56 (0,0))∧X.heap[be]?=some (.cells #[af c,af ln,af col] 27 (0,0))∧X.heap[w.heap.size+1+1]?=some (.cells (cond (L 3) #[.int .i64 c,.int .i64 ln,.int .i64 col] #[.int .i64 0,.int .i64 0,.int .i64 0]) 27 (0,0))∧jP w X:=⟨_,rfl⟩;have dV:=ai hJx;clear hJx;refine bG kr Jx 4 rfl kr kr kr kr ?h0 ?hs ?hdone;case h0=>rw[dV.o];exact⟨lW,lW,mD TG.o,mD HNN.o,mD qw.o,mD F9.o,xI.o.drew⟩
  case hs=>
   refine⟨?_,?_,?_,?_,trivial⟩
   all_goals (intro L V X a ev gJ hdf hL ak hJ;rw[dV.o]at hJ)
   ·obtain⟨j0,j1,j2,j3,j4,j5,j6⟩:=hJ;have o7:=gJ 7 rfl;change a.tmps[7]?.getD undef=.pointer (some ⟨w.heap.size+1+1+1+1,0,none⟩)at o7;refine wp_load_mid 56 (.tmp 7) rfl (w.heap.size+1+1+1+1) 0 (by rw[bK];exact o7) [Value.int .i64 0,bW,bf 0,aT,aj,aj,aj,af 0,af 0] _ (fun jj v hv=>by rw[Nat.zero_add];exact ah j3 jj v qE) Tryz.underlying56 rfl Tryz.aK ?_;exact⟨_,rfl,by rw[dV.o];exact⟨fun _=>rfl,j1,j2,j3,j4,j5,j6⟩⟩
   ·obtain⟨j0,j1,j2,j3,j4,j5,j6⟩:=hJ;have o8:=gJ 8 rfl;change a.tmps[8]?.getD undef=.pointer (some ⟨be,0,none⟩)at o8;refine wp_load_mid 27 (.tmp 8) rfl be 0 (by rw[bK];exact o8) [Value.int .i64 c,af ln,af col] _ (fun jj v hv=>by rw[Nat.zero_add];exact ah j4 jj v qE) Tryz.underlying27 rfl Tryz.dG ?_;exact⟨_,rfl,by rw[dV.o];exact⟨j0,fun _=>rfl,j2,j3,j4,j5,j6⟩⟩
   ·obtain⟨j0,j1,j2,j3,j4,j5,j6⟩:=hJ;have o4:=gJ 4 rfl;change a.tmps[4]?.getD undef=.pointer (some ⟨w.heap.size+1,0,none⟩)at o4;have e15:=(ev 0 15 rfl (ak 0 rfl)).trans (j0 (ak 0 rfl));refine eG 56 (.tmp 4) (.tmp 15) rfl (w.heap.size+1) 0 56 _ [.int .i64 0,.string ⟨#[]⟩,.int .u64 0,.bool false,.slice none 0 0,.slice none 0 0,.slice none 0 0,.int .i64 0,.int .i64 0] (by rw[bK];exact o4) (by rw[bK];exact e15) j2 Tryz.aK (Nat.le_of_eq rfl) (aP rfl) ?_;intro w9 ig hs9;exact⟨undef,rfl,by rw[dV.o];exact⟨j0,j1,ig,hs9.keep j3 om,hs9.keep j4 om,hs9.keep j5 om,j6.then hs9 oi⟩⟩
   ·obtain⟨j0,j1,j2,j3,j4,j5,j6⟩:=hJ;rw[hL]at j5;have o5:=gJ 5 rfl;change a.tmps[5]?.getD undef=.pointer (some ⟨w.heap.size+1+1,0,none⟩)at o5;have e16:=(ev 1 16 rfl (ak 1 rfl)).trans (j1 (ak 1 rfl));refine eG 27 (.tmp 5) (.tmp 16) rfl (w.heap.size+1+1) 0 27 _ [.int .i64 c,.int .i64 ln,.int .i64 col] (by rw[bK];exact o5) (by rw[bK];exact e16) j5 Tryz.dG (Nat.le_of_eq rfl) (aP rfl) ?_;intro w9 ig hs9;exact⟨undef,rfl,by rw[dV.o];exact⟨j0,j1,hs9.keep j2 om,hs9.keep j3 om,hs9.keep j4 om,ig,j6.then hs9 oi⟩⟩
  case hdone=>intro L V X hall hJ;rw[dV.o]at hJ;obtain⟨j0,j1,j2,j3,j4,j5,j6⟩:=hJ;rw[hall 3 dc]at j5;have HD2:=ai j2;have HD5:Hid (X.heap[w.heap.size+1+1]?=some (.cells [Value.int .i64 c,af ln,af col].toArray 27 (0,0))):=j5;have HD6:=ai j6;clear hall j0 j1 j2 j3 j4 j5 j6;rw[show List.range 4=[0,1,2,3] from rfl];simp only[lX,dZ,F5,Ef];go_wp2_with fail;refine bodyPost_ret (lF rfl _ (w.heap.size+1) (w.heap.size+1+1) 56 27 [Value.int .i64 0,bW,bf 0,aT,aj,aj,aj,af 0,af 0] [Value.int .i64 c,af ln,af col] _ _ rfl rfl HD2.o Tryz.underlying56 rfl Tryz.aK HD5.o Tryz.underlying27 rfl Tryz.dG) rfl ?_;exact⟨rfl,HD6.o⟩
 |ok y=>
  obtain⟨rfl,⟨X0,hX0,hleft⟩,h2⟩:e=.returned (.agg #[af 0,af 0,af 0])∧(∃X:World,w1.heap.size≤X.heap.size∧JG (w.heap.size+1+1+1) X w2 y)∧Step (·=w.heap.size+1+1+1) w1 w2:=hp;obtain⟨w3,hw3⟩:=bn (w2.alloc (.cells #[af 0,af 0,af 0] 27));have lS:=nS hw3
  have jA:Hid (Step (·=w.heap.size+1+1+1) w1 w3):=by rw[hw3];exact h2.alloc _
  have qw:=nB hw3
  have HW3:=ai hw3;have F9:=ai (jA.o.keep HA2.o om);obtain⟨be,hbe⟩:=bn w2.heap.size;rw[←hbe]at qw;obtain⟨⟨g0,g1,g2⟩,-⟩:=wL qw.o;have xI:Hid (jP w w3):=dF.o.then jA.o oi;clear h2 hw3;obtain⟨cs,hcb,hat⟩:=hleft;obtain⟨k0,gZ,v0,g_,a1,n1,c1,a2,n2,c2,a3,n3,c3,l0,c0,rfl⟩:=cZ.parts hat;have HAT:=ai (CW lS.o (fun _ _ h=>h) hat);have NH:=ai (lS.o.keep hcb (fun h=>h));have TG:=ai (jA.o.keep HA1.o om);have bY:Hid (∀(jj:Nat) v,[Value.int .i64 k0,aG gZ,bf v0,bC g_,.slice a1 n1 c1,.slice a2 n2 c2,.slice a3 n3 c3,af l0,af c0][jj]?=some v→w3.cell? ⟨w.heap.size+1+1+1,0+jj,none⟩=some v):=by intro jj v hv;rw[Nat.zero_add];exact ah NH.o jj v qE
  have dL:Hid (∀u∈[Value.int .i64 k0,aG gZ,bf v0,bC g_,.slice a1 n1 c1,.slice a2 n2 c2,.slice a3 n3 c3,af l0,af c0],u.oneCell'=true):=aP rfl;clear hat hcb;go_upto_region 3 with fail
  rw[←HW3.o,←hbe];clear hbe;go_upto_region 5 with fail
  clear g0 g1 g2;have er0:=F9.o;go_wp2_with (first
   |(refine ay rfl 56 (.tmp 6) rfl (w.heap.size+1+1+1) 0 rfl [Value.int .i64 k0,aG gZ,bf v0,bC g_,.slice a1 n1 c1,.slice a2 n2 c2,.slice a3 n3 c3,af l0,af c0] _ bY.o Tryz.underlying56 rfl Tryz.aK ?_)
   |(refine au (w:=w3) rfl 56 (.tmp 4) (.tmp 17) rfl (w.heap.size+1) 0 56 _ [Value.int .i64 k0,aG gZ,bf v0,bC g_,.slice a1 n1 c1,.slice a2 n2 c2,.slice a3 n3 c3,af l0,af c0] rfl rfl TG.o Tryz.aK (Nat.le_of_eq rfl) dL.o ?_;intro w4 hb4 m_;have A7:=m_.keep F9.o om;clear er0)
   |(refine au (w:=w4) rfl 27 (.tmp 5) (.tmp 18) rfl (w.heap.size+1+1) 0 27 _ [Value.int .i64 0,af 0,af 0] rfl rfl A7 Tryz.dG (Nat.le_of_eq rfl) (aP rfl) ?_;intro w5 hb5 hst5))
  have yU:w5.heap[w.heap.size+1]?=some (.cells [Value.int .i64 k0,aG gZ,bf v0,bC g_,.slice a1 n1 c1,.slice a2 n2 c2,.slice a3 n3 c3,af l0,af c0].toArray 56 (0,0)):=hst5.keep hb4 om;have uo:w5.heap[w.heap.size+1+1]?=some (.cells [Value.int .i64 0,af 0,af 0].toArray 27 (0,0)):=hb5;refine bodyPost_ret (lF rfl _ (w.heap.size+1) (w.heap.size+1+1) 56 27 [Value.int .i64 k0,aG gZ,bf v0,bC g_,.slice a1 n1 c1,.slice a2 n2 c2,.slice a3 n3 c3,af l0,af c0] [Value.int .i64 0,af 0,af 0] _ _ rfl rfl yU Tryz.underlying56 rfl Tryz.aK uo Tryz.underlying27 rfl Tryz.dG) rfl ?_;exact⟨⟨_,rfl,_,rfl,cZ.mono oi _ _ (cZ.step hst5 oi _ _ (cZ.step m_ oi _ _ HAT.o))⟩,(xI.o.then m_ oi).then hst5 oi⟩
theorem iP.code {α:Type} {N i:Nat} {r:dB α} (h:iP N i r) {c ln col:Nat} (e:r=.err c ln col):c≠0:=by subst e;exact h
section
variable {l : List Tok} (hl : pF l)
include hl
theorem Z7:∀(f i:Nat) (ls ts:List ByteArray),i<l.length→16*(l.length-i)+1≤f→Gd l.length i (kC f l i ls ts):=by
 intro f;induction f with
 |zero=>intro i ls ts hi hf;omega
 |succ f ih=>
  intro i ls ts hi hf;rw[kC];refine(og hi).yP fun _ i2 h0 hi2=> ?_;refine Gd.bind ?_ fun p j h1 hj=> ?_
  ·split
   ·exact(AV hl hi2).bind fun x j _ hj=>iP.ok _ hj
   ·exact(iT hl hi2).bind fun x j _ hj=>iP.ok _ hj
  ·split
   ·rename_i h2;exact((ih (j+1) _ _ (dD hl hj h2) om).weak).from om
   ·exact((eu hl hj).bind fun _ k _ hk=>iP.ok _ hk).weak
theorem OV (f i:Nat) (hi:i<l.length) (hf:16*(l.length-i)+1≤f):iP l.length i (nZ f l i):=by
 unfold nZ;split
 ·rename_i h;exact((Z7 hl f (i+1) _ _ (dD hl hi h) om).weak).from om
 ·exact iP.ok _ hi
theorem Z8:∀(f i d:Nat) (e:List UInt8) (m:Nat) (acc:List Pm),i<l.length→16*(l.length-i)+1≤f→Gd l.length i (mr f l i d e m acc):=by
 intro f;induction f with
 |zero=>intro i d e m acc hi hf;omega
 |succ f ih=>
  intro i d e m acc hi hf;rw[mr];refine(og hi).yP fun _ i2 h0 hi2=> ?_;refine(iT hl hi2).bind fun n j h1 hj=> ?_;refine((eu hl hj).bind fun _ j2 h2 hj2=> ?_).weak;refine(((BN hl f).typ j2 d hj2 om).bind fun ty k h3 hk=> ?_).weak;split
  ·rename_i h4;exact((ih (k+1) d e m _ (dD hl hk h4) om).weak).from om
  ·exact((eu hl hk).bind fun _ q _ hq=>iP.ok _ hq).weak
theorem BP (f i d:Nat) (e:List UInt8) (m:Nat) (hi:i<l.length) (hf:16*(l.length-i)+1≤f):Gd l.length i (fD f l i d e m):=by
 unfold fD;split
 ·rename_i h;exact⟨Nat.lt_succ_self i,dD hl hi h⟩
 ·exact Z8 hl f i d e m [] hi hf
theorem W9 (f i d:Nat) (hi:i<l.length) (hf:16*(l.length-i)+1≤f):iP l.length i (kK f l i d):=by
 unfold kK;split
 ·rename_i h;exact(((BN hl f).typ (i+1) d (dD hl hi h) om).weak).from om
 ·exact iP.ok _ hi
theorem TI:∀(f i:Nat) (p:Bool) (ts ls:List ByteArray),i<l.length→16*(l.length-i)+1≤f→Gd l.length i (fA f l i p ts ls):=by
 intro f;induction f with
 |zero=>intro i p ts ls hi hf;omega
 |succ f ih=>
  intro i p ts ls hi hf;rw[fA];refine(og hi).yP fun _ i2 h0 hi2=> ?_;refine Gd.bind ?_ fun q j h1 hj=> ?_
  ·split
   ·exact(iT hl hi2).bind fun x j _ hj=>iP.ok _ hj
   ·exact(AV hl hi2).bind fun x j _ hj=>iP.ok _ hj
  ·split
   ·rename_i h2;exact((ih (j+1) p _ _ (dD hl hj h2) om).weak).from om
   ·exact iP.ok _ hj
theorem W_ (f i:Nat) (hi:i<l.length) (hf:16*(l.length-i)+1≤f):Gd l.length i (mP f l i):=by
 unfold mP;have ho:=JF hl hi;refine iP.yP ?_ fun p j h1 hj=>(eu hl hj).bind fun _ k h2 hk=>((TI hl f k p.2 [] [] hk om).bind fun q m _ hm=>iP.ok _ hm).weak;split
 ·exact(((iT hl ho.2).bind fun n j _ hj=>iP.ok _ hj).weak).from ho.1
 ·exact⟨ho.1,ho.2⟩
theorem TJ:∀(f i:Nat) (acc:List Bd),i<l.length→16*(l.length-i)+2≤f→Gd l.length i (jc f l i acc):=by
 intro f;induction f with
 |zero=>intro i acc hi hf;omega
 |succ f ih=>
  intro i acc hi hf;rw[jc];refine(og hi).yP fun _ i2 h0 hi2=> ?_;refine(W_ hl f i2 hi2 om).bind fun b j h1 hj=> ?_;split
  ·rename_i h2;exact((ih (j+1) _ (dD hl hj h2) om).weak).from om
  ·exact iP.ok _ hj
theorem E_ (f i:Nat) (hi:i<l.length) (hf:16*(l.length-i)+1≤f):iP l.length i (eU f l i):=by
 unfold eU;split
 ·rename_i h;exact((TJ hl f (i+1) [] (dD hl hi h) om).weak).from om
 ·exact iP.ok _ hi
theorem Z9 (i:Nat) (hi:i<l.length):i≤(iD l i).2∧(iD l i).2<l.length:=by
 unfold iD;split
 ·rename_i h;have h1:=dD hl hi h;have h2:=JF hl h1;have h3:=E5 hl (s:=[109,117,116]) h2.2;exact⟨by show i≤iw l _ _;omega,h3.2⟩
 ·exact⟨Nat.le_refl _,hi⟩
theorem TK (f i d:Nat) (body:Bool) (hi:i<l.length) (hf:16*(l.length-i)+1≤f):Gd l.length i (jZ f l i d body):=by
 unfold jZ;refine(eu hl hi).bind fun _ j h1 hj=> ?_;refine((iT hl hj).bind fun n j2 h2 hj2=> ?_).weak;refine(OV hl f j2 hj2 om).bind fun g j3 h3 hj3=> ?_;refine iP.bind ?_ fun _ j4 h4 hj4=> ?_
 ·split
  ·exact Nat.succ_ne_zero _
  ·exact iP.ok _ hj3
 refine((eu hl hj4).bind fun _ j5 h5 hj5=> ?_).weak;have hr:=Z9 hl j5 hj5;refine(((eu hl hr.2).bind fun _ k h6 hk=> ?_).weak).from hr.1;refine iP.bind ?_ fun ps k2 h7 hk2=> ?_
 ·split
  ·rename_i h8;have h9:=dD hl hk h8;split
   ·exact Nat.succ_ne_zero _
   ·exact((BP hl f (k+1) d [41] 8 h9 om).weak).from om
  ·exact((eu hl hk).bind fun _ q _ hq=>iP.ok _ hq).weak
 refine(W9 hl f k2 d hk2 om).bind fun t k3 h8 hk3=> ?_;refine(E_ hl f k3 hk3 om).bind fun wh k4 h9 hk4=> ?_;refine iP.bind ?_ fun b k5 _ hk5=>iP.ok _ hk5;split
 ·exact((BN hl f).block k4 d hk4 om).weak
 ·exact((eu hl hk4).bind fun _ q _ hq=>iP.ok _ hq).weak
theorem Xc:∀(f i d:Nat) (body:Bool) (acc:List Mt),i<l.length→16*(l.length-i)+2≤f→Gd l.length i (jJ f l i d body acc):=by
 intro f;induction f with
 |zero=>intro i d body acc hi hf;omega
 |succ f ih=>
  intro i d body acc hi hf;rw[jJ];split
  ·rename_i h;exact⟨Nat.lt_succ_self i,dD hl hi h⟩
  ·refine(og hi).yP fun _ i2 h0 hi2=> ?_;exact(TK hl f i2 d body hi2 om).bind fun m j h1 hj=>(ih j d body _ hj om).weak
theorem Fa (f i d:Nat) (body:Bool) (hi:i<l.length) (hf:16*(l.length-i)+1≤f):Gd l.length i (gQ f l i d body):=by unfold gQ;exact(eu hl hi).bind fun _ j h1 hj=>(Xc hl f j d body [] hj om).weak
theorem Z_ (i:Nat) (hi:i<l.length):Gd l.length i (n_ l i):=by
 unfold n_;split
 ·rename_i h;exact⟨Nat.lt_succ_self i,dD hl hi h⟩
 ·split
  ·rename_i h;exact⟨Nat.lt_succ_self i,dD hl hi h⟩
  ·split
   ·rename_i h;exact⟨Nat.lt_succ_self i,dD hl hi h⟩
   ·exact iT hl hi
theorem aac (f i d:Nat) (hi:i<l.length) (hf:16*(l.length-i)+1≤f):Gd l.length i (qm f l i d):=by
 unfold qm;by_cases h1:bH l i [115,116,114,117,99,116]=true
 ·rw[if_pos h1];have h2:=dD hl hi h1;refine iP.strict ((iT hl h2).bind fun n j h3 hj=> ?_).weak (Nat.lt_succ_self i);refine(OV hl f j hj om).bind fun g j2 h4 hj2=> ?_;refine((eu hl hj2).bind fun _ j3 h5 hj3=> ?_).weak;exact((BP hl f j3 d [125] 12 hj3 om).bind fun fs j _ hj=>iP.ok _ hj).weak
 rw[if_neg h1];by_cases h1:bH l i [116,114,97,105,116]=true
 ·rw[if_pos h1];have h2:=dD hl hi h1;refine iP.strict ((iT hl h2).bind fun n j h3 hj=> ?_).weak (Nat.lt_succ_self i);exact((Fa hl f j d false hj om).bind fun fs j _ hj=>iP.ok _ hj).weak
 rw[if_neg h1];by_cases h1:bH l i [105,109,112,108]=true
 ·rw[if_pos h1];have h2:=dD hl hi h1;refine iP.strict ((iT hl h2).bind fun n j h3 hj=> ?_).weak (Nat.lt_succ_self i);refine((eu hl hj).bind fun _ j2 h4 hj2=> ?_).weak;refine((Z_ hl j2 hj2).bind fun hd j3 h5 hj3=> ?_).weak;refine(E_ hl f j3 hj3 om).bind fun wh j4 h6 hj4=> ?_;exact((Fa hl f j4 d true hj4 om).bind fun fs j _ hj=>iP.ok _ hj).weak
 rw[if_neg h1];by_cases h1:bH l i [102,110]=true
 ·rw[if_pos h1];have h2:=dD hl hi h1;refine iP.strict ((iT hl h2).bind fun n j h3 hj=> ?_).weak (Nat.lt_succ_self i);refine(OV hl f j hj om).bind fun g j2 h4 hj2=> ?_;refine((eu hl hj2).bind fun _ j3 h5 hj3=> ?_).weak;refine((BP hl f j3 d [41] 8 hj3 om).bind fun fs j4 h6 hj4=> ?_).weak;refine(W9 hl f j4 d hj4 om).bind fun t j5 h7 hj5=> ?_;refine(E_ hl f j5 hj5 om).bind fun wh j6 h8 hj6=> ?_;exact(((BN hl f).block j6 d hj6 om).bind fun b j _ hj=>iP.ok _ hj).weak
 rw[if_neg h1];exact Nat.succ_ne_zero _
theorem Xd:∀(f i d:Nat) (acc:List It),i<l.length→16*(l.length-i)+2≤f→iP l.length i (jl f l i d acc):=by
 intro f;induction f with
 |zero=>intro i d acc hi hf;omega
 |succ f ih=>
  intro i d acc hi hf;rw[jl];split
  ·exact iP.ok _ hi
  ·refine(og hi).bind fun _ i2 h0 hi2=> ?_;exact((aac hl f i2 d hi2 om).bind fun x j h1 hj=>ih j d _ hj om).weak
end
def qQ (s:List UInt8):Except (Nat×Nat×Nat) (List It):=vW s fun l=>jl kD l 0 0 []
theorem A8 {s:List UInt8} {l:List Tok} (h:ng s=.ok l):iP l.length 0 (jl kD l 0 0 []):=by obtain⟨hl,h0⟩:=pO h;exact Xd hl kD 0 0 [] h0 (by have:=hl.len;unfold kD;omega)
def OW (X w':World) (a:List It) (cs:List Value):Prop:=∃v,cs=[v]∧kP LY w' (fun q=>X.heap.size≤q) a v
theorem MF {X Y Z:World} {a:List It} {cs:List Value} {S:Nat→Prop} (hs:Step S Y Z) (hS:∀q,X.heap.size≤q→¬S q) (h:OW X Y a cs):OW X Z a cs:=by obtain⟨v,h1,h2⟩:=h;exact⟨v,h1,(bT gB).step _ _ hs hS h2⟩
theorem A_:Enters 47:=fun xs w=>by go_simp
theorem MG:Enters 21:=fun xs w=>by go_simp
def JH (bo:Nat) (X w':World) (a:List It):Prop:=∃cs:List Value,w'.heap[bo]?=some (.cells cs.toArray 22 (0,0))∧OW X w' a cs
theorem MH (R:h_) (bb bo:Nat) (r:dB (List It)) (w:World) (h:bD R w 0 0) (hbb:w.cell? ⟨bb,0,none⟩=some (.func (.func 21) #[] #[])) (E8:w.heap[bo]?=some (.cells #[aj] 22 (0,0))) (h0:0<bo) (hne:bo≠R.rb) (hra:∀g o p,R.a=some ⟨g,o,p⟩→g≠bo) (hno:r≠.out) (hc:∀X:World,bD R X 0 0→Calls Tryz.prog 21 #[.agg #[fM R.rb 0]] X (aJ R 0 (ItsV X.heap.size) r X)):Calls Tryz.prog 47 #[.agg #[fM R.rb 0],.pointer (some ⟨bb,0,none⟩),.pointer (some ⟨bo,0,none⟩)] w (aY R 0 bo (JH bo w) r w):=by
 have hen:=MG;unfold Enters at hen;obtain⟨w1,hw1⟩:=bn (w.alloc (.cells #[fM R.rb 0] 75));have dF:=nS hw1
 have kG:=nB hw1
 have HW1:=ai hw1;have H1:=ai (h.quiet dF.o);have p0:=ah kG.o 0 _ rfl;have b0:=dF.o.cell hbb (fun h=>h);have HBO:=ai (dF.o.keep E8 (fun h=>h));have hbl:=aC E8;have HC:=ai (hc w1 H1.o);have f_:=ai hno;clear h hno hw1 hbb E8 hc;go_enter Tryz.func47,Tryz.ntmps47;go_upto_region 1 with fail
 rw[←HW1.o];go_wp2_with fail;refine HC.o.mono ?_;rintro e wx hp;cases r with
 |out=>exact absurd rfl f_.o
 |err c ln col=>obtain⟨rfl,sq⟩:=hp;exact⟨rfl,rfl,((dF.o.mono fe).trans sq).mono il⟩
 |ok y jx=>obtain⟨⟨v,rfl,hy⟩,hrx,hsx⟩:=hp;obtain⟨va,vc,rfl⟩:=kP.parts hy;have HY:=ai hy;have wP:=ai hrx;have qW:=ai hsx;have UB:=ai (hsx.keep HBO.o hne);clear hy hrx hsx p0 b0;have oq:=ah UB.o 0 _ rfl;have ou:=aH UB.o 0;have fH:Hid (Step (·=bo) wx (wx.setCell ⟨bo,0,none⟩ (.slice va y.length vc))):=(Step.refl (·=bo) _).setCell _ _ jd;have Hf:Hid ((wx.setCell ⟨bo,0,none⟩ (.slice va y.length vc)).heap[bo]?=some (.cells #[.slice va y.length vc] 22 (0,0))):=aU UB.o 0 _;go_wp2_with fail;refine bodyPost_end (results_none rfl _ _ _) rfl ?_;have hz1:=dF.o.size;refine aY.dQ rfl rfl ⟨[_],Hf.o,_,rfl,(bT gB).mono _ _ oi ((bT gB).step _ _ fH.o oi HY.o)⟩ (wP.o.apart fH.o h0 hne hra) ?_;exact(((dF.o.mono fe).trans qW.o).mono il).trans (fH.o.mono ir)
def DT (r:Except (Nat×Nat×Nat) (List It)) (w:World) (e:Ending) (w':World):Prop:=
 (match r with
  | .ok a=>∃v,e=.returned (.tuple #[v,.agg #[af 0,af 0,af 0]])∧kP LY w' (fun q=>w.heap.size≤q) a v
  | .error (c,ln,col)=>e=.returned (.tuple #[aj,.agg #[af c,af ln,af col]]))∧jP w w'
theorem OX (s:ByteArray) (w:World) (m:Int) (hm:w.cell? ⟨0,0,none⟩=some (.int .i64 m)):Calls Tryz.prog 20 #[.string s,.func (.func 21) #[] #[]] w (DT (qQ s.data.toList) w):=by
 have hmf:∀(fn:Fn) (first cap:Array Value) (w:World),(Instr.makeFunc fn first cap).run Tryz.prog w=.ok (.func fn first cap) w:=fun _ _ _ _=>rfl;obtain⟨w1,hw1⟩:=bn (((w.alloc (.cells #[.func (.func 21) #[] #[]] 71)).alloc (.cells #[af 0,af 0,af 0] 27)).alloc (.cells #[aj] 22));have dF:Hid (jP w w1):=by rw[hw1];exact(((bV.alloc _).alloc _).alloc _)
 have hpos:0<w.heap.size:=by
  rcases Nat.eq_zero_or_pos w.heap.size with h|h
  ·exact absurd hm (by simp[World.cell?,Array.getElem?_eq_none (show w.heap.size≤0 by omega)])
  ·exact h
 have HA0:Hid (w1.heap[w.heap.size]?=some (.cells #[.func (.func 21) #[] #[]] 71 (0,0))):=by rw[hw1];exact aN (aN ((show(w.alloc (.cells #[.func (.func 21) #[] #[]] 71)).heap[w.heap.size]?=some (.cells #[.func (.func 21) #[] #[]] 71 (0,0)) by have h:=aB w (.cells #[.func (.func 21) #[] #[]] 71);simpa using h)))
 have HA1:Hid (w1.heap[w.heap.size+1]?=some (.cells #[af 0,af 0,af 0] 27 (0,0))):=by rw[hw1];exact aN ((show((w.alloc (.cells #[.func (.func 21) #[] #[]] 71)).alloc (.cells #[af 0,af 0,af 0] 27)).heap[w.heap.size+1]?=some (.cells #[af 0,af 0,af 0] 27 (0,0)) by have h:=aB (w.alloc (.cells #[.func (.func 21) #[] #[]] 71)) (.cells #[af 0,af 0,af 0] 27);simpa using h))
 have HA2:Hid (w1.heap[w.heap.size+1+1]?=some (.cells #[aj] 22 (0,0))):=by rw[hw1];exact(show(((w.alloc (.cells #[.func (.func 21) #[] #[]] 71)).alloc (.cells #[af 0,af 0,af 0] 27)).alloc (.cells #[aj] 22)).heap[w.heap.size+1+1]?=some (.cells #[aj] 22 (0,0)) by have h:=aB ((w.alloc (.cells #[.func (.func 21) #[] #[]] 71)).alloc (.cells #[af 0,af 0,af 0] 27)) (.cells #[aj] 22);simpa using h)
 have HW1:=ai hw1;have HM1:=ai (dF.o.cell hm (fun h=>h));have hn1:=aC HA2.o;have hsz:=dF.o.size
 have GU:=ai (BO s 47 [.pointer (some ⟨w.heap.size,0,none⟩),.pointer (some ⟨w.heap.size+1+1,0,none⟩)] (w.heap.size+1+1) (fun l=>jl kD l 0 0 []) (JH (w.heap.size+1+1)) w1 m HM1.o (aC HA2.o) A_ (fun l hl=>(A8 hl).ne)
  (fun X Y Z a h1 h2 h3=>by
   obtain⟨cs,c1,c2⟩:=h3
   exact⟨cs,h2.keep c1 (fun e=>by have:=aC HA2.o;omega),MF h2 oi c2⟩)
  (fun R X hlx hl h hrb hra hs=>MH R _ _ _ X h (ah (hs.keep HA0.o (fun h=>h)) 0 _ rfl) (hs.keep HA2.o (fun h=>h)) om (by have:=aC HA2.o;omega) (fun g o p e e2=>by have:=hra g o p e;have:=aC HA2.o;omega) ((A8 hlx).ne) (fun X hX=>TA kD (fun f' hf=>(LX f' (Nat.le_trans hf dc)).block) (fun f' _=>(DK f').1) R X 0 0 hl hX dc ((A8 hlx).ne))))
 obtain⟨r,hr⟩:=bn (qQ s.data.toList);have hrd:r=vW s.data.toList (fun l=>jl kD l 0 0 []):=hr;have Ig:Hid (∀c ln col,r=.error (c,ln,col)→c≠0):=by intro c ln col e;rw[hr]at e;exact u_ (fun l c ln col hl he=>(A8 hl).code he) e
 rw[←hrd]at GU;rw[←hr];clear hm hw1 hr hrd;go_enter Tryz.func20,Tryz.ntmps20;go_upto_region 2 with fail
 rw[←HW1.o];go_wp2_with fail;refine GU.o.mono ?_;rintro e w2 hp;cases r with
 |error q=>
  obtain⟨c,ln,col⟩:=q;obtain⟨rfl,h2⟩:e=.returned (.agg #[af c,af ln,af col])∧Step (·=w.heap.size+1+1) w1 w2:=hp;have hc0:=Ig.o c ln col rfl;have bc:((c:Int)==0)=false:=by rw[beq_eq_false_iff_ne];omega
  obtain⟨w3,hw3⟩:=bn (w2.alloc (.cells #[af c,af ln,af col] 27));have jA:Hid (Step (·=w.heap.size+1+1) w1 w3):=by rw[hw3];exact h2.alloc _
  have qw:=nB hw3
  have HW3:=ai hw3;have F9:=ai (jA.o.keep HA1.o om);obtain⟨be,hbe⟩:=bn w2.heap.size;have hbe1:w1.heap.size≤be:=by rw[hbe];exact h2.size
  rw[←hbe]at qw;obtain⟨⟨g0,g1,g2⟩,-⟩:=wL qw.o;have xI:Hid (jP w w3):=dF.o.then jA.o oi;clear hc0 h2 hw3;go_upto_region 3 with fail
  rw[←HW3.o,←hbe];clear hbe;go_upto_region 4 with fail
  clear g0 g1 g2;obtain⟨Jx,hJx⟩:∃Jx:(Nat→Bool)→(Nat→Value)→World→Prop,Jx=fun L V X=>(L 0=true→V 0=.slice none 0 0)∧(L 1=true→V 1=.agg #[af c,af ln,af col])∧(L 2=true→V 2=.slice none 0 0)∧X.heap[be]?=some (.cells #[af c,af ln,af col] 27 (0,0))∧X.heap[w.heap.size+1]?=some (.cells (cond (L 3) #[.int .i64 c,.int .i64 ln,.int .i64 col] #[.int .i64 0,.int .i64 0,.int .i64 0]) 27 (0,0))∧jP w X:=⟨_,rfl⟩;have dV:=ai hJx;clear hJx;refine bG kr Jx 4 rfl kr kr kr kr ?h0 ?hs ?hdone;case h0=>rw[dV.o];exact⟨lW,lW,lW,mD qw.o,mD F9.o,xI.o.drew⟩
  case hs=>
   refine⟨?_,?_,?_,?_,trivial⟩
   all_goals (intro L V X a ev gJ hdf hL ak hJ;rw[dV.o]at hJ)
   ·obtain⟨j0,j1,j2,j4,j5,j6⟩:=hJ;have o7:=gJ 7 rfl;change a.tmps[7]?.getD undef=.slice none 0 0 at o7;go_simp;exact⟨_,rfl,by rw[dV.o];exact⟨fun _=>rfl,j1,j2,j4,j5,j6⟩⟩
   ·obtain⟨j0,j1,j2,j4,j5,j6⟩:=hJ;have o8:=gJ 8 rfl;change a.tmps[8]?.getD undef=.pointer (some ⟨be,0,none⟩)at o8;refine wp_load_mid 27 (.tmp 8) rfl be 0 (by rw[bK];exact o8) [Value.int .i64 c,af ln,af col] _ (fun jj v hv=>by rw[Nat.zero_add];exact ah j4 jj v qE) Tryz.underlying27 rfl Tryz.dG ?_;exact⟨_,rfl,by rw[dV.o];exact⟨j0,fun _=>rfl,j2,j4,j5,j6⟩⟩
   ·obtain⟨j0,j1,j2,j4,j5,j6⟩:=hJ;have e15:=(ev 0 15 rfl (ak 0 rfl)).trans (j0 (ak 0 rfl));go_simp;exact⟨_,rfl,by rw[dV.o];exact⟨j0,j1,fun _=>rfl,j4,j5,j6⟩⟩
   ·obtain⟨j0,j1,j2,j4,j5,j6⟩:=hJ;rw[hL]at j5;have o5:=gJ 5 rfl;change a.tmps[5]?.getD undef=.pointer (some ⟨w.heap.size+1,0,none⟩)at o5;have e16:=(ev 1 16 rfl (ak 1 rfl)).trans (j1 (ak 1 rfl));refine eG 27 (.tmp 5) (.tmp 16) rfl (w.heap.size+1) 0 27 _ [.int .i64 c,.int .i64 ln,.int .i64 col] (by rw[bK];exact o5) (by rw[bK];exact e16) j5 Tryz.dG (Nat.le_of_eq rfl) (aP rfl) ?_;intro w9 ig hs9;exact⟨undef,rfl,by rw[dV.o];exact⟨j0,j1,j2,hs9.keep j4 om,ig,j6.then hs9 oi⟩⟩
  case hdone=>intro L V X hall hJ;rw[dV.o]at hJ;obtain⟨j0,j1,j2,j4,j5,j6⟩:=hJ;rw[hall 3 dc]at j5;have h2v:=j2 (hall 2 dc);have HD5:Hid (X.heap[w.heap.size+1]?=some (.cells [Value.int .i64 c,af ln,af col].toArray 27 (0,0))):=j5;have HD6:=ai j6;rw[show List.range 4=[0,1,2,3] from rfl];simp only[lX,dZ,List.getElem?_toArray,List.getElem?_cons_zero,List.getElem?_cons_succ,Option.bind_some,Act.put,List.setIfInBounds_toArray,List.set_cons_zero,List.set_cons_succ,h2v];clear hall j0 j1 j2 j4 j5 j6 h2v;go_wp2_with fail;refine bodyPost_ret (rH rfl _ (w.heap.size+1) 27 (.slice none 0 0) [Value.int .i64 c,af ln,af col] _ rfl rfl HD5.o Tryz.underlying27 rfl Tryz.dG) rfl ?_;exact⟨rfl,HD6.o⟩
 |ok y=>
  obtain⟨rfl,⟨X0,hX0,hleft⟩,h2⟩:e=.returned (.agg #[af 0,af 0,af 0])∧(∃X:World,w1.heap.size≤X.heap.size∧JH (w.heap.size+1+1) X w2 y)∧Step (·=w.heap.size+1+1) w1 w2:=hp;obtain⟨w3,hw3⟩:=bn (w2.alloc (.cells #[af 0,af 0,af 0] 27));have lS:=nS hw3
  have jA:Hid (Step (·=w.heap.size+1+1) w1 w3):=by rw[hw3];exact h2.alloc _
  have qw:=nB hw3
  have HW3:=ai hw3;have F9:=ai (jA.o.keep HA1.o om);obtain⟨be,hbe⟩:=bn w2.heap.size;rw[←hbe]at qw;obtain⟨⟨g0,g1,g2⟩,-⟩:=wL qw.o;have xI:Hid (jP w w3):=dF.o.then jA.o oi;clear h2 hw3;obtain⟨cs,hcb,v,rfl,hat⟩:=hleft;obtain⟨va,vc,rfl⟩:=kP.parts hat;have HAT:=ai ((bT gB).step _ _ lS.o (fun _ _ h=>h) hat);have NH:=ai (lS.o.keep hcb (fun h=>h));clear hat hcb;go_upto_region 3 with fail
  rw[←HW3.o,←hbe];clear hbe;go_upto_region 5 with fail
  clear g0 g1 g2;have q0:=ah NH.o 0 _ rfl
  go_wp2_with (refine au (w:=w3) rfl 27 (.tmp 5) (.tmp 18) rfl (w.heap.size+1) 0 27 _ [Value.int .i64 0,af 0,af 0] rfl rfl F9.o Tryz.dG (Nat.le_of_eq rfl) (aP rfl) ?_
               intro w5 hb5 hst5)
  have uo:w5.heap[w.heap.size+1]?=some (.cells [Value.int .i64 0,af 0,af 0].toArray 27 (0,0)):=hb5;refine bodyPost_ret (rH rfl _ (w.heap.size+1) 27 (.slice va y.length vc) [Value.int .i64 0,af 0,af 0] _ rfl rfl uo Tryz.underlying27 rfl Tryz.dG) rfl ?_;exact⟨⟨_,rfl,(bT gB).mono _ _ oi ((bT gB).step _ _ hst5 oi HAT.o)⟩,xI.o.then hst5 oi⟩
theorem BQ (s:ByteArray) (w:World) (m:Int) (hm:w.cell? ⟨0,0,none⟩=some (.int .i64 m)):Calls Tryz.prog 14 #[.string s] w (DR (sH s.data.toList) w):=by
 obtain⟨w1,hw1⟩:=bn ((w.alloc (.cells #[af 0,bW,bf 0,aT,aj,aj,aj,af 0,af 0] 56)).alloc (.cells #[af 0,af 0,af 0] 27));have dF:=nT hw1
 have kG:=nC hw1
 have lm:=nD hw1
 have HW1:=ai hw1;have GU:=ai (OU s w1 m (dF.o.cell hm (fun h=>h)));have hn1:=aC lm.o;have hsz:=dF.o.size;obtain⟨r,hr⟩:=bn (sH s.data.toList);rw[←hr]at GU⊢;clear hm hw1 hr;go_enter Tryz.func14,Tryz.ntmps14;go_upto_region 1 with fail
 rw[←HW1.o];go_wp2_with fail;refine GU.o.mono ?_;rintro e w2 ⟨hp,h2⟩;have HS2:=ai h2;have TG:=ai (h2.keep kG.o (fun h=>h));have F9:=ai (h2.keep lm.o (fun h=>h));have hz2:=h2.size;cases r with
 |error q=>
  obtain⟨c,ln,col⟩:=q;have hp2:e=.returned (.tuple #[.agg #[af 0,bW,bf 0,aT,aj,aj,aj,af 0,af 0],.agg #[af c,af ln,af col]]):=hp;subst hp2;clear hp h2;go_wp2_with (first
   |(refine au (w:=w2) rfl 56 (.tmp 2) (.tmp 6) rfl (w.heap.size) 0 56 _ [.int .i64 0,.string ⟨#[]⟩,.int .u64 0,.bool false,.slice none 0 0,.slice none 0 0,.slice none 0 0,.int .i64 0,.int .i64 0] rfl rfl TG.o Tryz.aK (Nat.le_of_eq rfl) (aP rfl) ?_;intro w4 hb4 m_;have A7:=m_.keep F9.o om)
   |(refine au (w:=w4) rfl 27 (.tmp 3) (.tmp 7) rfl (w.heap.size+1) 0 27 _ [.int .i64 c,.int .i64 ln,.int .i64 col] rfl rfl A7 Tryz.dG (Nat.le_of_eq rfl) (aP rfl) ?_;intro w5 hb5 hst5))
  have yU:w5.heap[w.heap.size]?=some (.cells [Value.int .i64 0,bW,bf 0,aT,aj,aj,aj,af 0,af 0].toArray 56 (0,0)):=hst5.keep hb4 om;have uo:w5.heap[w.heap.size+1]?=some (.cells [Value.int .i64 c,af ln,af col].toArray 27 (0,0)):=hb5;refine bodyPost_ret (lF rfl _ (w.heap.size) (w.heap.size+1) 56 27 [Value.int .i64 0,bW,bf 0,aT,aj,aj,aj,af 0,af 0] [Value.int .i64 c,af ln,af col] _ _ rfl rfl yU Tryz.underlying56 rfl Tryz.aK uo Tryz.underlying27 rfl Tryz.dG) rfl ?_;exact⟨rfl,((dF.o.trans HS2.o).then m_ oi).then hst5 oi⟩
 |ok x=>
  obtain⟨v,rfl,cs,rfl,hy⟩:∃v,e=.returned (.tuple #[v,.agg #[af 0,af 0,af 0]])∧Ar w2 (fun q=>w1.heap.size≤q) x v:=hp;obtain⟨k0,gZ,v0,g_,a1,n1,c1,a2,n2,c2,a3,n3,c3,l0,c0,rfl⟩:=hy.parts;have HY:=ai hy;clear hy h2;go_wp2_with (first
   |(refine au (w:=w2) rfl 56 (.tmp 2) (.tmp 6) rfl (w.heap.size) 0 56 _ [.int .i64 k0,.string gZ,.int .u64 v0,.bool g_,.slice a1 n1 c1,.slice a2 n2 c2,.slice a3 n3 c3,.int .i64 l0,.int .i64 c0] rfl rfl TG.o Tryz.aK (Nat.le_of_eq rfl) (aP rfl) ?_;intro w4 hb4 m_;have A7:=m_.keep F9.o om)
   |(refine au (w:=w4) rfl 27 (.tmp 3) (.tmp 7) rfl (w.heap.size+1) 0 27 _ [.int .i64 0,.int .i64 0,.int .i64 0] rfl rfl A7 Tryz.dG (Nat.le_of_eq rfl) (aP rfl) ?_;intro w5 hb5 hst5))
  have yU:w5.heap[w.heap.size]?=some (.cells [Value.int .i64 k0,aG gZ,bf v0,bC g_,.slice a1 n1 c1,.slice a2 n2 c2,.slice a3 n3 c3,af l0,af c0].toArray 56 (0,0)):=hst5.keep hb4 om;have uo:w5.heap[w.heap.size+1]?=some (.cells [Value.int .i64 0,af 0,af 0].toArray 27 (0,0)):=hb5;refine bodyPost_ret (lF rfl _ (w.heap.size) (w.heap.size+1) 56 27 [Value.int .i64 k0,aG gZ,bf v0,bC g_,.slice a1 n1 c1,.slice a2 n2 c2,.slice a3 n3 c3,af l0,af c0] [Value.int .i64 0,af 0,af 0] _ _ rfl rfl yU Tryz.underlying56 rfl Tryz.aK uo Tryz.underlying27 rfl Tryz.dG) rfl ?_;exact⟨⟨_,rfl,_,rfl,cZ.mono oi _ _ (cZ.step hst5 oi _ _ (cZ.step m_ oi _ _ HY.o))⟩,((dF.o.trans HS2.o).then m_ oi).then hst5 oi⟩
theorem BR (s:ByteArray) (w:World) (m:Int) (hm:w.cell? ⟨0,0,none⟩=some (.int .i64 m)):Calls Tryz.prog 5 #[.string s] w (DT (qQ s.data.toList) w):=by
 obtain⟨w1,hw1⟩:=bn (w.alloc (.cells #[af 0,af 0,af 0] 27));have dF:=nS hw1
 have lm:=nB hw1
 have HW1:=ai hw1;have GU:=ai (OX s w1 m (dF.o.cell hm (fun h=>h)));have hn1:=aC lm.o;have hsz:=dF.o.size;obtain⟨r,hr⟩:=bn (qQ s.data.toList);rw[←hr]at GU⊢;clear hm hw1 hr;go_enter Tryz.func5,Tryz.ntmps5;go_upto_region 1 with fail
 rw[←HW1.o];go_wp2_with fail;refine GU.o.mono ?_;rintro e w2 ⟨hp,h2⟩;have HS2:=ai h2;have F9:=ai (h2.keep lm.o (fun h=>h));have hz2:=h2.size;cases r with
 |error q=>
  obtain⟨c,ln,col⟩:=q;have hp2:e=.returned (.tuple #[aj,.agg #[af c,af ln,af col]]):=hp;subst hp2;clear hp h2
  go_wp2_with (refine au (w:=w2) rfl 27 (.tmp 3) (.tmp 7) rfl (w.heap.size) 0 27 _ [.int .i64 c,.int .i64 ln,.int .i64 col] rfl rfl F9.o Tryz.dG (Nat.le_of_eq rfl) (aP rfl) ?_
               intro w5 hb5 hst5)
  have uo:w5.heap[w.heap.size]?=some (.cells [Value.int .i64 c,af ln,af col].toArray 27 (0,0)):=hb5;refine bodyPost_ret (rH rfl _ (w.heap.size) 27 (.slice none 0 0) [Value.int .i64 c,af ln,af col] _ rfl rfl uo Tryz.underlying27 rfl Tryz.dG) rfl ?_;exact⟨rfl,(dF.o.trans HS2.o).then hst5 oi⟩
 |ok x=>
  obtain⟨v,rfl,hy⟩:∃v,e=.returned (.tuple #[v,.agg #[af 0,af 0,af 0]])∧kP LY w2 (fun q=>w1.heap.size≤q) x v:=hp;obtain⟨va,vc,rfl⟩:=kP.parts hy;have HY:=ai hy;clear hy h2
  go_wp2_with (refine au (w:=w2) rfl 27 (.tmp 3) (.tmp 7) rfl (w.heap.size) 0 27 _ [.int .i64 0,.int .i64 0,.int .i64 0] rfl rfl F9.o Tryz.dG (Nat.le_of_eq rfl) (aP rfl) ?_
               intro w5 hb5 hst5)
  have uo:w5.heap[w.heap.size]?=some (.cells [Value.int .i64 0,af 0,af 0].toArray 27 (0,0)):=hb5;refine bodyPost_ret (rH rfl _ (w.heap.size) 27 (.slice va x.length vc) [Value.int .i64 0,af 0,af 0] _ rfl rfl uo Tryz.underlying27 rfl Tryz.dG) rfl ?_;exact⟨⟨_,rfl,(bT gB).mono _ _ oi ((bT gB).step _ _ hst5 oi HY.o)⟩,(dF.o.trans HS2.o).then hst5 oi⟩
mutual
def Dy (Nd:Ex→Prop):Ex→Prop
 | .mk k nm v m args ns body l c=>Nd (.mk k nm v m args ns body l c)∧dP Nd args∧iE Nd body
def dP (Nd:Ex→Prop):List Ex→Prop
 |[]=>True
 |x::r=>Dy Nd x∧dP Nd r
def Fb (Nd:Ex→Prop):St→Prop
 | .mk _ _ _ pl e bs ls _ _ _=>dP Nd pl∧dP Nd e∧iE Nd bs∧iE Nd ls
def iE (Nd:Ex→Prop):List St→Prop
 |[]=>True
 |s::r=>Fb Nd s∧iE Nd r
end
theorem dP.get {Nd:Ex→Prop}:∀{l:List Ex} {x:Ex},dP Nd l→x∈l→Dy Nd x
 |y::r,x,h,hx=>by
  rw[dP]at h
  rcases List.mem_cons.1 hx with rfl|hx
  ·
   exact h.1
  ·
   exact dP.get h.2 hx
theorem iE.get {Nd:Ex→Prop}:∀{l:List St} {x:St},iE Nd l→x∈l→Fb Nd x
 |y::r,x,h,hx=>by
  rw[iE]at h
  rcases List.mem_cons.1 hx with rfl|hx
  ·
   exact h.1
  ·
   exact iE.get h.2 hx
theorem dP.snoc {Nd:Ex→Prop}:∀{l:List Ex} {x:Ex},dP Nd l→Dy Nd x→dP Nd (l++[x])
 |[],x,_,hx=>by rw[List.nil_append,dP];exact⟨hx,by rw[dP];trivial⟩
 |y::r,x,h,hx=>by
  rw[dP]at h
  rw[List.cons_append,dP]
  exact⟨h.1,dP.snoc h.2 hx⟩
theorem iE.snoc {Nd:Ex→Prop}:∀{l:List St} {x:St},iE Nd l→Fb Nd x→iE Nd (l++[x])
 |[],x,_,hx=>by rw[List.nil_append,iE];exact⟨hx,by rw[iE];trivial⟩
 |y::r,x,h,hx=>by
  rw[iE]at h
  rw[List.cons_append,iE]
  exact⟨h.1,iE.snoc h.2 hx⟩
theorem dP.nil (Nd:Ex→Prop):dP Nd []:=by rw[dP];trivial
theorem iE.nil (Nd:Ex→Prop):iE Nd []:=by rw[iE];trivial
theorem dP.one {Nd:Ex→Prop} {x:Ex} (h:Dy Nd x):dP Nd [x]:=dP.snoc (dP.nil Nd) h
def Ex.kind:Ex→Int
 | .mk k _ _ _ _ _ _ _ _=>k
def Ex.name:Ex→ByteArray
 | .mk _ nm _ _ _ _ _ _ _=>nm
def fB {α:Type} (Q:α→Prop) (r:dB α):Prop:=∀a j,r=.ok a j→Q a
theorem fB.bind {α β:Type} {Q:α→Prop} {Q2:β→Prop} {r:dB α} {f:α→Nat→dB β} (h:fB Q r) (hf:∀a j,Q a→fB Q2 (f a j)):fB Q2 (r.bind f):=by
 intro b k e;cases r with
 |ok a j=>exact hf a j (h a j rfl) b k e
 |err=>cases e
 |out=>cases e
theorem fB.any {α:Type} (r:dB α):fB (fun _=>True) r:=fun _ _ _=>trivial
theorem fB.ok {α:Type} {Q:α→Prop} {a:α} {j:Nat} (h:Q a):fB Q (.ok a j):=by intro b k e;cases e;exact h
theorem fB.fail {α:Type} {Q:α→Prop} {c:Nat} {l:List Tok} {i:Nat}:fB Q (gW c l i):=by intro b k e;cases e
theorem fB.out {α:Type} {Q:α→Prop}:fB Q (.out:dB α):=by intro b k e;cases e
section
variable {l : List Tok}
end
end Go.Proofs.YtggjfinekcenpaaGreat
