import Derived.Test.YtppekkbaoimpgaaGreatPkQ
import Derived.WideMake
import Derived.ProofKit
import Derived.Orders
set_option maxRecDepth 100000
set_option maxHeartbeats 80000000
namespace Go.Proofs.YtppekkbaoimpgaaGreat
open Go.RowKit
open Vt
def qN:Tab→Nat→List It→Tab×List Er
 |T,_,[]=>(T,[])
 |T,i,x::r=>((qN (kF T i x).1 (i+1) r).1,(kF T i x).2++(qN (kF T i x).1 (i+1) r).2)
def zI (l:List It):Tab:=⟨l,fun _=>none,fun _=>none,fun _=>none,fun _ _=>none⟩
def wP (l:List It):Tab:=(qN (zI l) 0 l).1
def nO (F:Nat) (l:List It):List Er:=(qN (zI l) 0 l).2++(l.flatMap (Qw (wP l))++JU (wP l) F 0 l)
theorem yu (T:Tab) (i:Nat) (x:It):(kF T i x).1.items=T.items:=by
 unfold kF;split
 ·split<;>rfl
 ·split
  ·rfl
  ·show(Tab.put _ _ _ _).items=_;unfold Tab.put;split
   ·rfl
   ·split<;>rfl
theorem F7:∀(l:List It) (T:Tab) (i:Nat),(qN T i l).1.items=T.items
 |[],_,_=>rfl
 |x::r,T,i=>by rw[qN];exact(F7 r _ _).trans (yu _ _ _)
theorem uq (l:List It):(wP l).items=l:=F7 l _ _
theorem enL_at {T:Tab} {l:List It} {k i:Nat} {x:It} (h:l[k]?=some x):qN T i (l.drop k)=((qN (kF T i x).1 (i+1) (l.drop (k+1))).1,(kF T i x).2++(qN (kF T i x).1 (i+1) (l.drop (k+1))).2):=by obtain⟨hk,rfl⟩:=List.getElem?_eq_some_iff.1 h;rw[List.drop_eq_getElem_cons hk,qN]
theorem Xh {α β:Type} {f:α→List β} {l:List α} {k:Nat} {x:α} (h:l[k]?=some x):(l.drop k).flatMap f=f x++(l.drop (k+1)).flatMap f:=by obtain⟨hk,rfl⟩:=List.getElem?_eq_some_iff.1 h;rw[List.drop_eq_getElem_cons hk,List.flatMap_cons]
theorem Au.made (w:World):Au (w.alloc (.map #[] 0)) w.heap.size (fun _=>none) 0:=⟨0,_,World.ownsMap_made _ _ _ _,Nat.le_refl _,fun _=>⟨rfl,fun _ h=>nomatch h⟩⟩
theorem Ko.made (w:World):Ko (w.alloc (.map #[] 0)) w.heap.size (fun _ _=>none) 0:=⟨0,_,World.ownsMap_made _ _ _ _,Nat.le_refl _,fun _ _ _ _=>⟨rfl,fun _ h=>nomatch h⟩⟩
def Uu (n0 nc:Nat) (gi:Option Nat):Fb:=⟨n0,nc+4,nc,nc+1,nc+2,nc+3,gi⟩
def JV (wc:World) (v:Value):World:=
 (((((wc.alloc (.map #[] 0)).alloc (.map #[] 0)).alloc (.map #[] 0)).alloc (.map #[] 0)).alloc (.cells #[v,.map (some wc.heap.size),.map (some (wc.heap.size+1)),.map (some (wc.heap.size+2)),.map (some (wc.heap.size+3))] 127)).alloc (.cells #[dY (wc.heap.size+4) 0,au] 130)
theorem Uw {P:Nat→Prop} {w wc:World} {l:List It} {v:Value} {xs:List Value} (h:lG nX w P l xs) (hP:∀k,P k→k<w.heap.size) (hs:Step (fun _=>False) w wc) (ho:wc.ownsRow w.heap.size 51 19 v l.length xs):lm (wc.heap.size+5) (.pointer (some ⟨(Uu w.heap.size wc.heap.size v.ownBlock).tb,0,none⟩)) (sQ (Uu w.heap.size wc.heap.size v.ownBlock) v 0 (zI l)) (JV wc v) (.slice none 0 0) []:=by
 have hsz:=hs.size;have z1:(wc.alloc (.map #[] 0)).heap.size=wc.heap.size+1:=by simp
 have z2:((wc.alloc (.map #[] 0)).alloc (.map #[] 0)).heap.size=wc.heap.size+2:=by simp
 have z3:(((wc.alloc (.map #[] 0)).alloc (.map #[] 0)).alloc (.map #[] 0)).heap.size=wc.heap.size+3:=by simp
 have z4:((((wc.alloc (.map #[] 0)).alloc (.map #[] 0)).alloc (.map #[] 0)).alloc (.map #[] 0)).heap.size=wc.heap.size+4:=by simp
 have z5:(((((wc.alloc (.map #[] 0)).alloc (.map #[] 0)).alloc (.map #[] 0)).alloc (.map #[] 0)).alloc (.cells #[v,.map (some wc.heap.size),.map (some (wc.heap.size+1)),.map (some (wc.heap.size+2)),.map (some (wc.heap.size+3))] 127)).heap.size=wc.heap.size+5:=by simp
 have z6:(JV wc v).heap.size=wc.heap.size+6:=by simp[JV]
 have hg:∀k,v.ownBlock=some k→w.heap.size≤k∧k<wc.heap.size:=fun k hk=>ho.lt k hk;have hS:Step (fun _=>False) wc (JV wc v):=(((((bJ.alloc _).alloc _).alloc _).alloc _).alloc _).alloc _;have hO:∀k,k<wc.heap.size+5→Out (wc.heap.size+5) (.slice none 0 0) (JV wc v) k:=fun k hk=>⟨by omega,by omega,fun e=>by cases e⟩;have b5:=aA (((((wc.alloc (.map #[] 0)).alloc (.map #[] 0)).alloc (.map #[] 0)).alloc (.map #[] 0)).alloc (.cells #[v,.map (some wc.heap.size),.map (some (wc.heap.size+1)),.map (some (wc.heap.size+2)),.map (some (wc.heap.size+3))] 127)) (.cells #[dY (wc.heap.size+4) 0,au] 130);have b4:=aA ((((wc.alloc (.map #[] 0)).alloc (.map #[] 0)).alloc (.map #[] 0)).alloc (.map #[] 0)) (.cells #[v,.map (some wc.heap.size),.map (some (wc.heap.size+1)),.map (some (wc.heap.size+2)),.map (some (wc.heap.size+3))] 127);rw[z5]at b5;rw[z4]at b4;have m0:=Au.made wc;have m1:=Au.made (wc.alloc (.map #[] 0));have m2:=Au.made ((wc.alloc (.map #[] 0)).alloc (.map #[] 0));have m3:=Ko.made (((wc.alloc (.map #[] 0)).alloc (.map #[] 0)).alloc (.map #[] 0));rw[z1]at m1;rw[z2]at m2;rw[z3]at m3;refine⟨b5,⟨rfl,.inl ⟨rfl,rfl⟩⟩,?_,Ij _ _ _ _⟩;have hls:lG nX (JV wc v) (Uu w.heap.size wc.heap.size v.ownBlock).pi l xs:=lG.step aT hS (fun _ _ h=>h) l xs (lG.mono aT (fun k _ hk=>.inl (hP k hk)) l xs (lG.step aT hs (fun _ _ h=>h) l xs h));refine⟨⟨(by show w.heap.size≤wc.heap.size+4;omega),(by show w.heap.size≤wc.heap.size;omega),(by show w.heap.size≤wc.heap.size+1;omega),(by show w.heap.size≤wc.heap.size+2;omega),(by show w.heap.size≤wc.heap.size+3;omega),?_,?_⟩,hO _ (by show _+4<_;omega),hO _ (by show wc.heap.size<_;omega),hO _ (by show _+1<_;omega),hO _ (by show _+2<_;omega),hO _ (by show _+3<_;omega),?_,(((Step.refl (fun _=>False) _).alloc _).keep b4 (fun h=>h)),⟨xs,(di.fA (P:=(Uu w.heap.size wc.heap.size v.ownBlock).pi) ho (fun k hk=>.inr hk)).step hS (fun _ _ h=>h),hls⟩,?_,?_,?_,?_,(fun _ _ h=>nomatch h),(fun _ _ h=>nomatch h),(fun _ _ h=>nomatch h)⟩
 ·show wc.heap.size≠wc.heap.size+1∧wc.heap.size≠wc.heap.size+2∧wc.heap.size≠wc.heap.size+3∧wc.heap.size+1≠wc.heap.size+2∧wc.heap.size+1≠wc.heap.size+3∧wc.heap.size+2≠wc.heap.size+3∧wc.heap.size+4≠wc.heap.size∧wc.heap.size+4≠wc.heap.size+1∧wc.heap.size+4≠wc.heap.size+2∧wc.heap.size+4≠wc.heap.size+3;omega
 ·intro k hk;have:=(hg k hk).2;show k≠wc.heap.size∧k≠wc.heap.size+1∧k≠wc.heap.size+2∧k≠wc.heap.size+3;omega
 ·intro k hk;have h3:k<wc.heap.size:=by
   rcases hk with hk|hk
   ·have h4:k<w.heap.size:=hk;omega
   ·exact(hg k hk).2
  exact⟨by omega,hO k om⟩
 ·exact m0.step (S:=fun _=>False) ((((((bJ.alloc _).alloc _).alloc _).alloc _).alloc _)) (fun h=>h)
 ·exact m1.step (S:=fun _=>False) (((((bJ.alloc _).alloc _).alloc _).alloc _)) (fun h=>h)
 ·exact m2.step (S:=fun _=>False) ((((bJ.alloc _).alloc _).alloc _)) (fun h=>h)
 ·exact m3.step (S:=fun _=>False) (((bJ.alloc _).alloc _)) (fun h=>h)
def Cc (F:Nat) (l:List It) (w:World) (e:Ending) (w':World):Prop:=
 ∃(cb tb:Nat) (v:Value),e=.returned (.tuple #[dY tb 0,v])∧w.heap.size≤cb∧w.heap.size≤tb∧lm cb (.pointer (some ⟨tb,0,none⟩)) (TabAt Eb tb (wP l)) w' v (nO F l)∧Step (fun _=>False) w w'
theorem jF.old {w w':World} {l:List It} {v:Value} {n:Nat} (h:jF nX w (fun k=>k<n) l v) (hs:Step (fun q=>n≤q) w w'):jF nX w' (fun k=>k<n) l v:=(bQ aT).step _ _ hs oi h
theorem lm.old {cb:Nat} {u:Value} {TA:World→(Nat→Prop)→Prop} {w:World} {v:Value} {es:List Er} (h:lm cb u TA w v es) {n:Nat} (hn:n≤cb):∀k,k<w.heap.size→k<n→Out cb v w k:=fun k hk hk2=>⟨hk,by omega,fun e=>by have:=(h.own.lt k e).1;omega⟩
theorem Ux (F:Nat) (l:List It) (vl:Value) (w:World) (hl:l.length<1000) (hfit:∀x∈l,D9 x) (hfd:∀x∈l,∀p∈x.fields,(jK p.ty).length≤1000000) (hwf:∀x∈l,∃res,jG (wP l) F [x.name] []=some res∧res.length≤1000000) (hb:(nO F l).length≤1000000000) (h:jF nX w (fun k=>k<w.heap.size) l vl):Calls Tryz.prog 21 #[vl] w (Cc F l w):=by
 have qE:=ak hfit;have w_:=ak hfd;have HWF:=ak hwf;have Qm:=ak h;obtain⟨xs,hrow,hls⟩:=h;have hlen:=lG.len aT hls;have hone:=lG.one aT hls;have BB:Hid (Calls Tryz.prog 64 #[vl] w fun e w'=>(∃v':Value,e=.returned v'∧w'.ownsRow w.heap.size 51 19 v' l.length xs)∧Step (fun _=>False) w w'):=ak (JK _ _ xs vl w hrow om hlen hone);have HLP:=ak hls;obtain⟨al,cl,rfl⟩:=hrow.parts;clear hfit hfd hwf hrow hls hlen hone;have HMK1:∀(X:World),(Instr.makeMap 124 none).run Tryz.prog X=.ok (.map (some X.heap.size)) (X.alloc (.map #[] 0)):=fun X=>run_makeMap_plain X _;have HMK2:∀(X:World),(Instr.makeMap 125 none).run Tryz.prog X=.ok (.map (some X.heap.size)) (X.alloc (.map #[] 0)):=fun X=>run_makeMap_plain X _;go_enter Tryz.func21,Tryz.ntmps21;go_upto_region 1 with fail
 go_wp2_with fail;refine BB.o.mono ?_;rintro e wc ⟨⟨vc,rfl,hown⟩,hst⟩;have HCK:=ak (Uw HLP.o (fun k hk=>hk) hst hown);have D6:=ak hst;obtain⟨ac,cc,rfl⟩:=a_ hown;clear hown hst;go_upto_region 2 with fail
 go_upto_region 3 with fail
 obtain⟨w2,hw2⟩:=aU (JV wc (.slice ac l.length cc));have MK:=HCK.o;have ou:Hid (Step (fun q=>w.heap.size≤q) w w2):=ak ((D6.o.mono fe).trans (by rw[hw2];exact(((((bJ.alloc _).alloc _).alloc _).alloc _).alloc _).alloc _));rw[←hw2]at MK;unfold JV at hw2;rw[←hw2];obtain⟨B,hB⟩:=aU (Uu w.heap.size wc.heap.size (Value.slice ac l.length cc).ownBlock);rw[←hB]at MK;have BU:Hid (B.tb=wc.heap.size+4):=by show _=_;rw[hB];rfl
 have HBN:Hid (B.n0=w.heap.size):=by show _=_;rw[hB];rfl
 have f_:Hid (B.Ok):=ak MK.tab.ok;obtain⟨tb,htb⟩:=aU (wc.heap.size+4);obtain⟨cb,hcb⟩:=aU (wc.heap.size+5);rw[←hcb]at MK⊢;rw[←htb]at BU⊢;have Ah:Hid (w.heap.size≤cb):=by show _≤_;rw[hcb];exact Nat.le_trans D6.o.size (Nat.le_add_right _ _)
 rw[BU.o]at MK;have NC:=ak MK;have HTL:Hid ((zI l).items=l):=ak rfl;clear MK HCK HMK1 HMK2 hB hw2 htb hcb;go_upto_region 4 with fail
 obtain⟨E0,hE0⟩:=aU (qN (zI l) 0 l).2;obtain⟨T,hT⟩:=aU (wP l);obtain⟨tot,htot⟩:=aU (nO F l);have Yu:Hid (T.items=l):=by show _=_;rw[hT];exact uq l
 have HTOT:Hid (E0++(l.flatMap (Qw T)++JU T F 0 l)=tot):=by show _=_;rw[htot,hT,hE0];rfl
 have HT:=ak hT;have HE00:=ak hE0;have HTT:=ak htot;rw[←htot]at hb;rw[←hT]at HWF;clear hE0 hT htot;go_loopg [6,7,23] l.length (fun g9 _ _ s23 wr=>∃(k:Nat) (T1:Tab) (cur:List Er) (v1:Value),s23=.int .i64 k∧k≤l.length∧l.length-k≤g9∧T1.items=l∧lm cb (.pointer (some ⟨tb,0,none⟩)) (sQ B (.slice ac l.length cc) k T1) wr v1 cur∧Step (fun q=>w.heap.size≤q) w wr∧(qN T1 k (l.drop k)).1=T∧cur++(qN T1 k (l.drop k)).2=E0);case atStart=>exact⟨0,zI l,[],_,rfl,Nat.zero_le _,by omega,HTL.o,NC.o,ou.o,HT.o.symm,HE00.o.symm⟩
 case round=>
  obtain⟨k,T1,cur,v1,rfl,hk,hgg,hti,hc,hst,het,hee⟩:=hrel;have HC:=ak hc;have HST:=ak hst;have HE:=ak hee;have HET:=ak het;have HTI1:=ak hti;clear hc hst hee het hti;by_cases hlt:k<l.length
  ·skip
   obtain⟨x,hx⟩:∃x,l[k]?=some x:=⟨l[k],List.getElem?_eq_getElem hlt⟩
   obtain⟨xs9,⟨a',c',hva,hcl,hcm,-,hra⟩,hls⟩:=Qm.o.old HST.o
   obtain⟨rfl,rfl⟩:al=a'∧cl=c':=by cases hva;exact⟨rfl,rfl⟩
   obtain⟨g,o,rfl,hg,hgw,hcell⟩:=hra om
   obtain⟨cs,hat,hget⟩:=lG.get aT k hls hx
   have iH:Hid (∀(jj:Nat) v,cs[jj]?=some v→wr.cell? ⟨g,o+k*19+jj,none⟩=some v):=by
    show∀jj v,_
    intro jj v hv
    rw[Nat.add_assoc];exact hcell _ _ (hget jj v hv)
   have mX:Hid ((Tryz.prog.info? 51).map (·.size)=some cs.length):=by show _=_;rw[aT.len _ _ hat];exact Tryz.dF
   have qM:=ak (aT.len _ _ hat)
   have DL:=ak (aT.one _ _ hat)
   obtain⟨w3,hw3⟩:=aU (wr.alloc (.cells cs.toArray 51))
   have eX:Hid (Step (fun _=>False) wr w3):=by show Step _ _ _;rw[hw3];exact bJ.alloc _
   have HB3:Hid (w3.heap[wr.heap.size]?=some (.cells cs.toArray 51 (0,0))):=by show _=_;rw[hw3];exact aA _ _
   have HW3:=ak hw3
   have rO:=ak (HC.o.quiet eX.o)
   have HAT9:Hid (nX w3 (fun q=>q<w3.heap.size∧q<w.heap.size) x cs):=ak (aT.mono _ _ (fun q h1 h=>⟨h1,h⟩) (aT.step _ _ eX.o (fun _ _ h=>h) hat))
   rw[enL_at hx]at HE HET
   have Bo:Hid (∀X,Step (fun _=>False) w3 X→Calls Tryz.prog 65 #[.pointer (some ⟨cb,0,none⟩),.int .i64 k,.agg cs.toArray] X (Ec cb B (.slice ac l.length cc) (k+1) (kF T1 k x).1 (cur++(kF T1 k x).2) X)):=by
    intro X hX
    have h9:=rO.o.quiet hX
    rw[←BU.o]at h9
    exact MJ cb B _ k T1 k x cs cur v1 X om (by rw[HTI1.o];exact hlt) om (by rw[HBN.o];exact Ah.o) h9 (aT.mono _ _ (fun q hq h=>h9.old Ah.o q hq h.2) (aT.step _ _ hX (fun _ _ h=>h) HAT9.o)) (dB HE.o (dB HTOT.o hb))
   have hlb:l.length≤9223372036854775807:=by omega
   clear hcell hva hcl hcm hra hg hgw hls hget hat hw3
   go_upto_region 6 with(first
    |(refine ay rfl 51 (.tmp 26) rfl g (o+k*19) rfl cs _ iH.o Tryz.underlying51 rfl mX.o ?_)
    |(refine bW rfl 51 (.tmp 7) (.tmp 27) rfl _ cs rfl rfl mX.o (by rw[qM.o];rfl) DL.o ?_;rw[←HW3.o]))
   simp only[Act.put]
   go_wp2_with (refine ay rfl 51 (.tmp 7) rfl wr.heap.size 0 rfl cs _ (gU HB3.o) Tryz.underlying51 rfl mX.o ?_)
   refine(Bo.o _ bJ).mono ?_
   rintro e w5 ⟨rfl,v5,h5,g5⟩
   rw[BU.o]at h5
   rw[HBN.o]at g5
   have um:=ak h5
   have oQ:Hid (Step (fun q=>w.heap.size≤q) w w5):=ak ((HST.o.trans (eX.o.mono fe)).trans g5)
   have HI5:Hid ((kF T1 k x).1.items=l):=ak ((yu _ _ _).trans HTI1.o)
   clear h5 g5
   go_wp2_with fail
   go_roundg (gk-1)
   case rel=>exact⟨k+1,(kF T1 k x).1,_,v5,by go_num,hlt,by rw[←Nat.sub_sub];exact Nat.sub_le_sub_right hgg 1,HI5.o,um.o,oQ.o,HET.o,fE HE.o⟩
   case measure=>omega
  ·(have hk2:k=l.length:=by omega);(have HE2:Hid (cur=E0):=by show _=_;have:=HE.o;rw[hk2,List.drop_length,qN,List.append_nil]at this;exact this);(have HET2:Hid (T1=T):=by show _=_;have:=HET.o;rw[hk2,List.drop_length,qN]at this;exact this);(have TY:Hid (lm cb (.pointer (some ⟨tb,0,none⟩)) (TabAt Eb tb T) wr v1 E0):=by have h9:=HC.o;rw[HE2.o,HET2.o]at h9;have h10:=h9.tab.tab (by omega:k≤1000);rw[BU.o]at h10;exact⟨h9.blk,h9.own,h10,qA zH _ _⟩);obtain⟨w8,hw8⟩:=aU wr;obtain⟨v8,XB⟩:=aU (v1:Value);rw[←hw8]at TY HST⊢;rw[←XB]at TY;have jk:=ak HST.o;clear HC HST HE HET HTI1 HE2 HET2 hw8 XB;obtain⟨gold,rfl⟩:=aU gk;obtain⟨wold,rfl⟩:=aU wr;go_wp2_with fail;clear hk2 hlt hk hgg;go_loopg [9,35] l.length (fun g9 _ s35 wr=>∃(k:Nat) (cur:List Er) (v1:Value),s35=.int .i64 k∧k≤l.length∧l.length-k≤g9∧lm cb (.pointer (some ⟨tb,0,none⟩)) (TabAt Eb tb T) wr v1 cur∧Step (fun q=>w.heap.size≤q) w wr∧cur++((l.drop k).flatMap (Qw T)++JU T F 0 l)=tot);case atStart=>exact⟨0,E0,v8,rfl,Nat.zero_le _,by omega,TY.o,jk.o,HTOT.o⟩
   case round=>
    obtain⟨k,cur,v1,rfl,hk,hgg,hc,hst,hee⟩:=hrel;have HC:=ak hc;have HST:=ak hst;have HE:=ak hee;clear hc hst hee;by_cases hlt:k<l.length
    ·skip
     obtain⟨x,hx⟩:∃x,l[k]?=some x:=⟨l[k],List.getElem?_eq_getElem hlt⟩
     obtain⟨xs9,⟨a',c',hva,hcl,hcm,-,hra⟩,hls⟩:=Qm.o.old HST.o
     obtain⟨rfl,rfl⟩:al=a'∧cl=c':=by cases hva;exact⟨rfl,rfl⟩
     obtain⟨g,o,rfl,hg,hgw,hcell⟩:=hra om
     obtain⟨cs,hat,hget⟩:=lG.get aT k hls hx
     have iH:Hid (∀(jj:Nat) v,cs[jj]?=some v→wr.cell? ⟨g,o+k*19+jj,none⟩=some v):=by
      show∀jj v,_
      intro jj v hv
      rw[Nat.add_assoc];exact hcell _ _ (hget jj v hv)
     have mX:Hid ((Tryz.prog.info? 51).map (·.size)=some cs.length):=by show _=_;rw[aT.len _ _ hat];exact Tryz.dF
     have qM:=ak (aT.len _ _ hat)
     have DL:=ak (aT.one _ _ hat)
     obtain⟨w3,hw3⟩:=aU (wr.alloc (.cells cs.toArray 51))
     have eX:Hid (Step (fun _=>False) wr w3):=by show Step _ _ _;rw[hw3];exact bJ.alloc _
     have HB3:Hid (w3.heap[wr.heap.size]?=some (.cells cs.toArray 51 (0,0))):=by show _=_;rw[hw3];exact aA _ _
     have HW3:=ak hw3
     have rO:=ak (HC.o.quiet eX.o)
     have HAT9:Hid (nX w3 (fun q=>q<w3.heap.size∧q<w.heap.size) x cs):=ak (aT.mono _ _ (fun q h1 h=>⟨h1,h⟩) (aT.step _ _ eX.o (fun _ _ h=>h) hat))
     rw[Xh hx,List.append_assoc (Qw T x)]at HE
     have Bo:Hid (∀X,Step (fun _=>False) w3 X→Calls Tryz.prog 66 #[.pointer (some ⟨cb,0,none⟩),.agg cs.toArray] X (lK cb (.pointer (some ⟨tb,0,none⟩)) (TabAt Eb tb T) X v1 (cur++Qw T x))):=by
      intro X hX
      have h9:=rO.o.quiet hX
      exact P7 zH cb tb T x cs cur v1 X (by rw[Yu.o];exact qE.o) (qE.o x (List.mem_of_getElem? hx)) h9 (aT.mono _ _ (fun q hq h=>h9.old Ah.o q hq h.2) (aT.step _ _ hX (fun _ _ h=>h) HAT9.o)) (dB (fE HE.o) hb)
     have hlb:l.length≤9223372036854775807:=by omega
     clear hcell hva hcl hcm hra hg hgw hls hget hat hw3
     go_upto_region 11 with(first
      |(refine ay rfl 51 (.tmp 37) rfl g (o+k*19) rfl cs _ iH.o Tryz.underlying51 rfl mX.o ?_)
      |(refine bW rfl 51 (.tmp 9) (.tmp 38) rfl _ cs rfl rfl mX.o (by rw[qM.o];rfl) DL.o ?_;rw[←HW3.o]))
     simp only[Act.put]
     go_wp2_with (refine ay rfl 51 (.tmp 9) rfl wr.heap.size 0 rfl cs _ (gU HB3.o) Tryz.underlying51 rfl mX.o ?_)
     refine(Bo.o _ bJ).mono ?_
     rintro e w5 ⟨rfl,v5,h5,g5⟩
     have um:=ak h5
     have oQ:Hid (Step (fun q=>w.heap.size≤q) w w5):=ak ((HST.o.trans (eX.o.mono fe)).trans (g5.st.mono (fun q _ e=>by
      rcases e with rfl|e
      ·
       exact Ah.o
      ·
       have h8:=(rO.o.own.lt q e).1
       have:=Ah.o
       omega)))
     clear h5 g5
     go_wp2_with fail
     go_roundg (gk-1)
     case rel=>exact⟨k+1,_,v5,by go_num,hlt,by rw[←Nat.sub_sub];exact Nat.sub_le_sub_right hgg 1,um.o,oQ.o,fE HE.o⟩
     case measure=>omega
    ·(have hk2:k=l.length:=by omega);(have HE2:Hid (cur++JU T F 0 T.items=tot):=by show _=_;have:=HE.o;rw[hk2,List.drop_length,List.flatMap_nil,List.nil_append]at this;rw[Yu.o];exact this);(have J6:Hid (∀X,Step (fun _=>False) wr X→Calls Tryz.prog 67 #[.pointer (some ⟨cb,0,none⟩)] X (lK cb (.pointer (some ⟨tb,0,none⟩)) (TabAt Eb tb T) X v1 tot)):=by intro X hX;have h9:=HC.o.quiet hX;have h10:=MI zH cb tb T F cur v1 X (by rw[Yu.o];exact w_.o) (by rw[Yu.o];exact HWF.o) h9 (by rw[HE2.o];exact hb);rw[HE2.o]at h10;exact h10);go_wp2_with fail;refine(J6.o _ bJ).mono ?_;rintro e w5 ⟨rfl,v5,h5,g5⟩;have um:=ak h5
     have oQ:Hid (Step (fun q=>w.heap.size≤q) w w5):=ak (HST.o.trans (g5.st.mono (fun q _ e=>by
      rcases e with rfl|e
      ·
       exact Ah.o
      ·
       have h8:=(HC.o.own.lt q e).1
       have:=Ah.o
       omega)))
     have c0:=aj h5.blk 1 _ rfl;clear h5 g5;(go_upto_region 14 with fail);go_quiet (fail);have U6:Hid (Step (fun _=>False) w5 (w5.drewN nq)):=bJ.drewN nq;have HCq:=ak (um.o.quiet U6.o);go_wp2_with fail;refine bodyPost_ret (results_tmp2 rfl _ _ _) rfl ?_;exact⟨cb,tb,v5,rfl,Ah.o,by rw[←BU.o,←HBN.o];exact f_.o.t,by rw[←HTT.o,←HT.o];exact HCq.o,(Step.refl (fun _=>False) w).then (oQ.o.trans (U6.o.mono fe)) (fun q hq e=>absurd hq (Nat.not_lt.2 e))⟩
def dZ {α:Type} (Q:α→Prop) (r:dO α):Prop:=∀a j,r=.ok a j→Q a
theorem dZ.bind {α β:Type} {Q:α→Prop} {Q2:β→Prop} {r:dO α} {f:α→Nat→dO β} (h:dZ Q r) (hf:∀a j,Q a→dZ Q2 (f a j)):dZ Q2 (r.bind f):=by
 intro b k e;cases r with
 |ok a j=>exact hf a j (h a j rfl) b k e
 |err=>cases e
 |out=>cases e
theorem dZ.any {α:Type} (r:dO α):dZ (fun _=>True) r:=fun _ _ _=>trivial
theorem dZ.ok {α:Type} {Q:α→Prop} {a:α} {j:Nat} (h:Q a):dZ Q (.ok a j):=by intro b k e;cases e;exact h
theorem dZ.fail {α:Type} {Q:α→Prop} {c:Nat} {l:List Tok} {i:Nat}:dZ Q (fD c l i):=by intro b k e;cases e
theorem dZ.out {α:Type} {Q:α→Prop}:dZ Q (.out:dO α):=by intro b k e;cases e
section
variable {l : List Tok}
end
mutual
def Kq:Ty→Nat
 | .mk _ _ _ _ ls ar _ _=>1+ls.length+qH ar
def qH:List Ty→Nat
 |[]=>0
 |t::r=>Kq t+qH r
end
theorem F8:∀(l:List Ty) (t:Ty),qH (l++[t])=qH l+Kq t
 |[],t=>by rw[List.nil_append,qH,qH,qH];omega
 |x::r,t=>by rw[List.cons_append,qH,qH,F8 r t];omega
theorem iV.snoc:∀{l:List Ty} {t:Ty},iV l→lg t→iV (l++[t])
 |[],t,_,h=>by rw[List.nil_append,iV,iV];exact⟨h,trivial⟩
 |x::r,t,h,h2=>by rw[iV]at h;rw[List.cons_append,iV];exact⟨h.1,iV.snoc h.2 h2⟩
theorem iV.nil:iV []:=by rw[iV];trivial
def j_ {α:Type} (Q:α→Nat→Prop) (r:dO α):Prop:=∀a j,r=.ok a j→Q a j
theorem j_.bind {α β:Type} {Q:α→Nat→Prop} {Q2:β→Nat→Prop} {r:dO α} {f:α→Nat→dO β} (h:j_ Q r) (hf:∀a j,Q a j→j_ Q2 (f a j)):j_ Q2 (r.bind f):=by
 intro b k e;cases r with
 |ok a j=>exact hf a j (h a j rfl) b k e
 |err=>cases e
 |out=>cases e
theorem j_.ok {α:Type} {Q:α→Nat→Prop} {a:α} {j:Nat} (h:Q a j):j_ Q (.ok a j):=by intro b k e;cases e;exact h
theorem j_.fail {α:Type} {Q:α→Nat→Prop} {c:Nat} {l:List Tok} {i:Nat}:j_ Q (fD c l i):=by intro b k e;cases e
theorem j_.hold {α:Type} {Q:α→Nat→Prop} {Q2:α→Prop} {r:dO α} (h:j_ Q r) (hq:∀a j,Q a j→Q2 a):dZ Q2 r:=fun a j e=>hq a j (h a j e)
theorem Aw {n m:Nat} {l:List Tok} {i:Nat}:dZ (fun _=>n<m) (d_ n m l i):=by
 intro a j e;unfold d_ at e;split at e
 ·cases e
 ·omega
section
variable {l : List Tok}
theorem Xi {i:Nat} (h:tokA l i≠MX):i<l.length:=by
 rcases Nat.lt_or_ge i l.length with h1|h1
 ·exact h1
 ·exact absurd (by unfold tokA;rw[List.getD_eq_getElem?_getD,List.getElem?_eq_none h1];rfl) h
variable (hl : nK l)
include hl
theorem Uy {i:Nat} (h:(tokA l i).kind≠0):i+1<l.length:=wC hl (Xi (fun e=>h (by rw[e];rfl))) h
theorem is_lt {i:Nat} {s:List UInt8} (h:bD l i s=true):i+1<l.length:=Uy hl (xH h)
theorem Io {i:Nat} {s:List UInt8}:j_ (fun _ j=>j=i+1∧j<l.length) (aH l i s):=by
 intro a j e;unfold aH at e;split at e
 ·rename_i h;cases e;exact⟨rfl,is_lt hl h⟩
 ·cases e
theorem Uz {i:Nat}:j_ (fun _ j=>j=i+1∧j<l.length) (aS l i):=by
 intro a j e;unfold aS at e;split at e
 ·rename_i h;cases e;exact⟨rfl,Uy hl (fun h0=>by simp[uU,h0]at h)⟩
 ·cases e
theorem UA {i:Nat}:j_ (fun _ j=>j=i+1∧j<l.length) (jA l i):=by
 intro a j e;unfold jA at e;split at e
 ·rename_i h;cases e;exact⟨rfl,Uy hl om⟩
 ·cases e
omit hl in
theorem room_j {n m i:Nat}:j_ (fun _ j=>j=i∧n<m) (d_ n m l i):=by
 intro a j e;unfold d_ at e;split at e
 ·cases e
 ·cases e;exact⟨rfl,by omega⟩
omit hl in
theorem yw {k:Int} {n lf:ByteArray} {b:Bool} {ln cl:Int} {i j:Nat} (h:i+1≤j) (h2:j<l.length):j_ (fun t j=>i+Kq t≤j∧j<l.length∧lg t) (.ok (.mk k n lf b [] [] ln cl) j):=
 j_.ok ⟨by rw[Kq,qH];simpa using h,h2,by rw[lg];exact⟨by decide,iV.nil⟩⟩
omit hl in
theorem YB {k:Int} {n lf:ByteArray} {b:Bool} {ln cl:Int} {a:Ty} {i j:Nat} (h:i+1+Kq a≤j) (h2:j<l.length) (h3:lg a):j_ (fun t j=>i+Kq t≤j∧j<l.length∧lg t) (.ok (.mk k n lf b [] [a] ln cl) j):=
 j_.ok ⟨by rw[Kq,qH,qH];simp;omega,h2,by rw[lg];exact⟨by simp,iV.snoc iV.nil h3⟩⟩
theorem ty_sz:∀f,(∀i d,j_ (fun t j=>i+Kq t≤j∧j<l.length∧lg t) (jT f l i d))∧(∀i d ls ts,iV ts→j_ (fun p j=>p.1.length+p.2.length≤8∧iV p.2∧i+(p.1.length+qH p.2)≤j+(ls.length+qH ts)∧j<l.length) (m_ f l i d ls ts)):=by
 intro f;induction f with
 |zero=>exact⟨(fun i d a j e=>by rw[jT]at e;cases e),(fun i d ls ts _ a j e=>by rw[m_]at e;cases e)⟩
 |succ f ih=>
  obtain⟨iht,iha⟩:=ih;constructor
  ·intro i d;rw[jT];split
   ·exact j_.fail
   split
   ·rename_i h;exact yw (Nat.le_refl _) (is_lt hl h)
   split
   ·rename_i h;exact yw (Nat.le_refl _) (is_lt hl h)
   split
   ·rename_i h;exact yw (Nat.le_refl _) (is_lt hl h)
   split
   ·refine(Io hl).bind ?_;rintro _ j ⟨rfl,h2⟩;exact yw om h2
   split
   ·refine(Io hl).bind ?_;rintro _ j ⟨rfl,h2⟩;refine(iht _ _).bind ?_;rintro a j ⟨h3,h4,h5⟩;refine(Io hl).bind ?_;rintro _ j ⟨rfl,h6⟩;exact YB om h6 h5
   split
   ·refine(iht _ _).bind ?_;rintro a j ⟨h3,h4,h5⟩;refine YB ?_ h4 h5;(have h6:i+1≤iL l (oz l (i+1)) [109,117,116]:=by unfold iL oz;split<;>split<;>omega);omega
   split
   ·refine(Uz hl).bind ?_;rintro n j ⟨rfl,h2⟩;split
    ·refine(UA hl).bind ?_;rintro n j ⟨rfl,h2⟩;exact yw om h2
    ·exact yw om h2
   ·refine(Uz hl).bind ?_;rintro n j ⟨rfl,h2⟩;split
    ·refine(iha _ _ [] [] iV.nil).bind ?_;rintro p j ⟨h3,h4,h5,h6⟩;refine j_.ok ⟨?_,h6,by rw[lg];exact⟨h3,h4⟩⟩;rw[Kq];simp[qH]at h5;omega
    ·exact yw om h2
  ·intro i d ls ts hts;rw[m_];refine(room_j).bind ?_;rintro _ i ⟨rfl,hr⟩;refine j_.bind (Q:=fun p j=>p.1.length+p.2.length=ls.length+ts.length+1∧iV p.2∧i+(p.1.length+qH p.2)≤j+(ls.length+qH ts)∧j<l.length) ?_ ?_
   ·split
    ·refine(UA hl).bind ?_;rintro x j ⟨rfl,h2⟩;exact j_.ok ⟨by simp;omega,hts,by simp;omega,h2⟩
    ·refine(iht _ _).bind ?_;rintro x j ⟨h3,h4,h5⟩;exact j_.ok ⟨by simp;omega,hts.snoc h5,by show _+(ls.length+qH (ts++[x]))≤_;rw[F8];omega,h4⟩
   ·rintro p j ⟨h1,h2,h3,h4⟩;split
    ·intro q k e;obtain⟨h5,h6,h7,h8⟩:=iha (j+1) d p.1 p.2 h2 q k e;exact⟨h5,h6,by omega,h8⟩
    ·refine(Io hl).bind ?_;rintro _ j ⟨rfl,h6⟩;exact j_.ok ⟨by omega,h2,by omega,h6⟩
theorem ty_h (f i d:Nat):dZ (fun t=>Kq t≤8001∧lg t) (jT f l i d):=((ty_sz hl f).1 i d).hold (fun t j h=>⟨by have:=hl.len;omega,h.2.2⟩)
end
def UW (t:Ty):Prop:=Kq t≤8001∧lg t
def Qd (l:List Bd):Prop:=l.length≤16∧∀b∈l,b.tZ.length+b.aF.length≤8
def ML (l:List Pm):Prop:=l.length≤12∧∀p∈l,UW p.ty
structure MtB (m:Mt):Prop where
 lf:m.aF.length≤8
 ps:ML m.params
 rt:UW m.ret
 wh:Qd m.wh
def UB (l:List Mt):Prop:=l.length≤12∧∀m∈l,MtB m
structure Fe (x:It):Prop where
 kd:x.kind=1∨x.kind=2∨x.kind=3∨x.kind=4
 gn:x.gen.aF.length+x.gen.types.length≤8
 fs:ML x.fields
 rt:UW x.ret
 wh:Qd x.wh
 ms:UB x.methods
theorem Ip:UW dN:=⟨by rw[dN,Kq,qH];decide,by rw[dN,lg];exact⟨by decide,iV.nil⟩⟩
theorem Ce:ML []:=⟨Nat.zero_le _,fun _ h=>nomatch h⟩
theorem Iq:Qd []:=⟨Nat.zero_le _,fun _ h=>nomatch h⟩
theorem NM:UB []:=⟨Nat.zero_le _,fun _ h=>nomatch h⟩
theorem vY {α:Type} {P:α→Prop} {l:List α} {x:α} (h:∀y∈l,P y) (hx:P x):∀y∈l++[x],P y:=by
 intro y hy;rcases List.mem_append.1 hy with h1|h1
 ·exact h y h1
 ·rw[List.mem_singleton]at h1;subst h1;exact hx
section
variable {l : List Tok} (hl : nK l)
theorem UC:∀(f i:Nat) (ls ts:List ByteArray),dZ (fun g=>g.aF.length+g.types.length≤8) (mF f l i ls ts)
 |0,i,ls,ts=>by rw[mF];exact dZ.out
 |f+1,i,ls,ts=>by
  rw[mF]
  refine Aw.bind ?_
  intro _ i hr
  refine dZ.bind (Q:=fun p=>p.1.length+p.2.length≤8) ?_ ?_
  ·
   split
   ·
    exact(dZ.any _).bind fun x j _=>dZ.ok (by simp;omega)
   ·
    exact(dZ.any _).bind fun x j _=>dZ.ok (by simp;omega)
  ·
   intro p j h
   split
   ·
    exact UC f _ _ _
   ·
    exact(dZ.any _).bind fun _ j _=>dZ.ok h
theorem UD (f i:Nat):dZ (fun g=>g.aF.length+g.types.length≤8) (jl f l i):=by
 unfold jl;split
 ·exact UC _ _ _ _
 ·exact dZ.ok (by simp)
theorem JW:∀(f i:Nat) (p:Bool) (ts ls:List ByteArray),dZ (fun q=>q.1.length+q.2.length≤8) (gq f l i p ts ls)
 |0,i,p,ls,ts=>by rw[gq];exact dZ.out
 |f+1,i,p,ls,ts=>by
  rw[gq]
  refine Aw.bind ?_
  intro _ i hr
  refine dZ.bind (Q:=fun p=>p.1.length+p.2.length≤8) ?_ ?_
  ·
   split
   ·
    exact(dZ.any _).bind fun x j _=>dZ.ok (by simp;omega)
   ·
    exact(dZ.any _).bind fun x j _=>dZ.ok (by simp;omega)
  ·
   intro p j h
   split
   ·
    exact JW f _ _ _ _
   ·
    exact dZ.ok h
theorem Xj (f i:Nat):dZ (fun b=>b.tZ.length+b.aF.length≤8) (oN f l i):=by unfold oN;refine(dZ.any _).bind fun p j _=> ?_;refine(dZ.any _).bind fun _ j _=> ?_;exact(JW _ _ _ _ _).bind fun q j h=>dZ.ok h
theorem JX:∀(f i:Nat) (acc:List Bd),(∀b∈acc,b.tZ.length+b.aF.length≤8)→dZ Qd (kS f l i acc)
 |0,i,acc,_=>by rw[kS];exact dZ.out
 |f+1,i,acc,ha=>by
  rw[kS]
  refine Aw.bind ?_
  intro _ i hr
  refine(Xj _ _).bind fun b j hb=> ?_
  have h2:=vY (P:=fun b:Bd=>b.tZ.length+b.aF.length≤8) ha hb
  split
  ·
   exact JX f _ _ h2
  ·
   exact dZ.ok ⟨by simp;omega,h2⟩
theorem Ir (f i:Nat):dZ Qd (b_ f l i):=by
 unfold b_;split
 ·exact JX _ _ _ nJ
 ·exact dZ.ok Iq
include hl
theorem UE:∀(f i d:Nat) (e:List UInt8) (m:Nat) (acc:List Pm),m≤12→(∀p∈acc,UW p.ty)→dZ ML (pq f l i d e m acc)
 |0,i,d,e,m,acc,_,_=>by rw[pq];exact dZ.out
 |f+1,i,d,e,m,acc,hm,ha=>by
  rw[pq]
  refine Aw.bind ?_
  intro _ i hr
  refine(dZ.any _).bind fun n j _=> ?_
  refine(dZ.any _).bind fun _ j _=> ?_
  refine(ty_h hl _ _ _).bind fun t j ht=> ?_
  have h2:=vY (P:=fun p:Pm=>UW p.ty) (x:=⟨n,t,(tokA l i).line,(tokA l i).col⟩) ha ht
  split
  ·
   exact UE f _ _ _ _ _ hm h2
  ·
   exact(dZ.any _).bind fun _ j _=>dZ.ok ⟨by simp;omega,h2⟩
theorem Ed (f i d:Nat) (e:List UInt8) (m:Nat) (hm:m≤12):dZ ML (dA f l i d e m):=by
 unfold dA;split
 ·exact dZ.ok Ce
 ·exact UE hl _ _ _ _ _ _ hm nJ
theorem YC (f i d:Nat):dZ UW (iT f l i d):=by
 unfold iT;split
 ·exact ty_h hl _ _ _
 ·exact dZ.ok Ip
theorem UF (f i d:Nat) (body:Bool):dZ MtB (lF f l i d body):=by
 unfold lF;refine(dZ.any _).bind fun _ j _=> ?_;refine(dZ.any _).bind fun n j _=> ?_;refine(UD _ _).bind fun g j hg=> ?_;refine(dZ.any _).bind fun _ j _=> ?_;refine(dZ.any _).bind fun _ j _=> ?_;refine(dZ.any _).bind fun _ k _=> ?_;refine dZ.bind (Q:=ML) ?_ fun ps k hp=> ?_
 ·split
  ·split
   ·exact dZ.fail
   ·exact Ed hl _ _ _ _ _ dc
  ·exact(dZ.any _).bind fun _ j _=>dZ.ok Ce
 refine(YC hl _ _ _).bind fun t k ht=> ?_;refine(Ir _ _).bind fun wh k hw=> ?_;refine(dZ.any _).bind fun b k _=> ?_;exact dZ.ok ⟨by show g.aF.length≤8;omega,hp,ht,hw⟩
theorem NP:∀(f i d:Nat) (body:Bool) (acc:List Mt),acc.length≤12→(∀m∈acc,MtB m)→dZ UB (nI f l i d body acc)
 |0,i,d,body,acc,_,_=>by rw[nI];exact dZ.out
 |f+1,i,d,body,acc,hn,ha=>by
  rw[nI]
  split
  ·
   exact dZ.ok ⟨hn,ha⟩
  refine Aw.bind ?_
  intro _ i hr
  refine(UF hl _ _ _ _).bind fun m j hm=> ?_
  exact NP f _ _ _ _ (by simp;omega) (vY ha hm)
theorem F9 (f i d:Nat) (body:Bool):dZ UB (dh f l i d body):=by unfold dh;exact(dZ.any _).bind fun _ j _=>NP hl _ _ _ _ _ (Nat.zero_le _) nJ
theorem item_b (f i d:Nat):dZ Fe (jD f l i d):=by
 unfold jD;split
 ·refine(dZ.any _).bind fun n j _=> ?_;refine(UD _ _).bind fun g j hg=> ?_;refine(dZ.any _).bind fun _ j _=> ?_;exact(Ed hl _ _ _ _ _ dc).bind fun fs j hf=>dZ.ok ⟨.inl rfl,hg,hf,Ip,Iq,NM⟩
 split
 ·refine(dZ.any _).bind fun n j _=> ?_;exact(F9 hl _ _ _ _).bind fun ms j hm=>dZ.ok ⟨.inr (.inl rfl),Nat.zero_le 8,Ce,Ip,Iq,hm⟩
 split
 ·refine(dZ.any _).bind fun n j _=> ?_;refine(dZ.any _).bind fun _ j _=> ?_;refine(dZ.any _).bind fun h j _=> ?_;refine(Ir _ _).bind fun wh j hw=> ?_;exact(F9 hl _ _ _ _).bind fun ms j hm=>dZ.ok ⟨.inr (.inr (.inl rfl)),Nat.zero_le 8,Ce,Ip,hw,hm⟩
 split
 ·refine(dZ.any _).bind fun n j _=> ?_;refine(UD _ _).bind fun g j hg=> ?_;refine(dZ.any _).bind fun _ j _=> ?_;refine(Ed hl _ _ _ _ _ dc).bind fun fs j hf=> ?_;refine(YC hl _ _ _).bind fun t j ht=> ?_;refine(Ir _ _).bind fun wh j hw=> ?_;refine(dZ.any _).bind fun b j _=> ?_;exact dZ.ok ⟨.inr (.inr (.inr rfl)),hg,hf,ht,hw,NM⟩
 ·exact dZ.fail
theorem NQ:∀(f i d:Nat) (acc:List It),acc.length≤60→(∀x∈acc,Fe x)→dZ (fun r=>r.length≤60∧∀x∈r,Fe x) (kL f l i d acc)
 |0,i,d,acc,_,_=>by rw[kL];exact dZ.out
 |f+1,i,d,acc,hn,ha=>by
  rw[kL]
  split
  ·
   exact dZ.ok ⟨hn,ha⟩
  refine Aw.bind ?_
  intro _ i hr
  refine(item_b hl _ _ _).bind fun m j hm=> ?_
  exact NQ f _ _ _ (by simp;omega) (vY ha hm)
end
theorem prog_b {s:List UInt8} {l:List It} (h:xw s=.ok l):l.length≤60∧∀x∈l,Fe x:=by
 unfold xw DW at h;split at h
 ·cases h
 ·rename_i toks he;split at h
  ·rename_i a j hr;cases h;unfold H7 at hr;split at hr
   ·rename_i a2 j2 hr2;split at hr
    ·cases hr;exact NQ (zl he).1 _ _ _ [] (Nat.zero_le _) nJ _ _ hr2
    ·cases hr
   ·cases hr
   ·cases hr
  ·cases h
  ·cases h
theorem vZ (ls:List ByteArray) (x:ByteArray) (ln cl:Int):(jV ls x ln cl).length≤1:=OQ _ _ _ _
theorem Az (ls:List ByteArray) (ln cl:Int):∀l:List ByteArray,(jP ls ln cl l).length≤l.length
 |[]=>Nat.le_refl _
 |x::r=>by
  rw[jP,List.length_append,List.length_cons]
  have:=Az ls ln cl r
  have:=vZ ls x ln cl
  omega
theorem AA {c:Prop} [Decidable c] {e:Er}:(if c then[]else[e]).length≤1:=by split<;>simp
theorem pK {c:Prop} [Decidable c] {e:Er}:(if c then[e]else[]).length≤1:=by split<;>simp
theorem Xk (T:Tab) (s:Sc) (n:ByteArray) (nl na:Nat) (ln cl:Int):(EY T s n nl na ln cl).length≤1:=by
 unfold EY;split
 ·exact pK
 ·split
  ·simp
  ·split
   ·simp
   ·exact pK
mutual
theorem Iu (T:Tab) (s:Sc):∀(b:Bool) (t:Ty),(zy T s b t).length≤3*Kq t
 |b,.mk k n lf _ ls ar ln cl=>by
  rw[zy,Kq]
  have h1:=AB T s true ar
  have h2:=AB T s false ar
  split
  ·
   omega
  split
  ·
   rw[List.length_append]
   have:(if lf.size=0∧s.ig=true then[]else jV s.aF lf ln cl).length≤1:=by split;simp;exact vZ _ _ _ _
   omega
  split
  ·
   rw[List.length_append,List.length_append]
   have h3:(if lf.size=0 then[]else jV s.aF lf ln cl).length≤1:=by split;simp;exact vZ _ _ _ _
   have h4:(if b=true then[]else[((5:Int),ln,cl)]).length≤1:=AA
   have h5:(if(T.tr n).isSome=true then[]else[((3:Int),ln,cl)]).length≤1:=AA
   omega
  split
  ·
   rw[List.length_append,List.length_append]
   have h3:=Az s.aF ln cl ls
   have h4:=Xk T s n ls.length ar.length ln cl
   omega
  ·
   simp
theorem AB (T:Tab) (s:Sc):∀(b:Bool) (l:List Ty),(iU T s b l).length≤3*qH l
 |b,[]=>by rw[iU];simp
 |b,t::r=>by
  rw[iU,qH,List.length_append]
  have h1:=Iu T s b t
  have h2:=AB T s b r
  omega
end
mutual
theorem JY:∀t:Ty,(jK t).length≤Kq t
 | .mk k n _ _ ls ar _ _=>by
  rw[jK,Kq]
  split
  ·
   rw[List.length_cons];have:=F_ ar;omega
  ·
   simp
theorem F_:∀l:List Ty,(lM l).length≤qH l
 |[]=>by rw[lM];simp
 |t::r=>by
  rw[lM,qH,List.length_append]
  have:=JY t
  have:=F_ r
  omega
end
theorem Cf (ln cl:Int):∀(l d:List ByteArray),(r_ ln cl d l).length≤l.length
 |[],d=>by rw[r_];simp
 |x::r,d=>by
  rw[r_,List.length_append,List.length_cons]
  have:=Cf ln cl r (d++[x])
  have:(if eqS x stat||d.any (eqS x)then[((4:Int),ln,cl)]else[]).length≤1:=pK
  omega
theorem NR (T:Tab) (ln cl:Int):∀(l:List ByteArray),(BI T ln cl l).length≤l.length
 |[]=>by rw[BI];simp
 |x::r=>by
  rw[BI,List.length_append,List.length_cons]
  have:=NR T ln cl r
  have:(if(T.st x).isSome=true then[((4:Int),ln,cl)]else[]).length≤1:=pK
  omega
theorem UG (T:Tab) (ln cl:Int):∀(l:List ByteArray),(PW T ln cl l).length≤l.length
 |[]=>by rw[PW];simp
 |x::r=>by
  rw[PW,List.length_append,List.length_cons]
  have:=UG T ln cl r
  have:(if(T.tr x).isSome=true then[]else[((3:Int),ln,cl)]).length≤1:=AA
  omega
theorem Xl (T:Tab) (g:Gn) (ln cl:Int):(BJ T g ln cl).length≤g.aF.length+2*g.types.length:=by rw[BJ,List.length_append,List.length_append];have:=Cf ln cl g.aF [];have:=Cf ln cl g.types [];have:=NR T ln cl g.types;omega
theorem JZ (T:Tab) (s:Sc):∀(l d:List Pm),(∀p∈l,UW p.ty)→(lI T s d l).length≤l.length*24004
 |[],d,_=>by rw[lI];simp
 |x::r,d,h=>by
  rw[lI,List.length_append,List.length_append,List.length_cons]
  have h1:=JZ T s r (d++[x]) (fun p hp=>h p (List.mem_cons_of_mem _ hp))
  have h2:(if d.any (fun y=>eqS y.name x.name)then[((4:Int),x.line,x.col)]else[]).length≤1:=pK
  have h3:=Iu T s false x.ty
  have h4:=(h x List.mem_cons_self).1
  omega
theorem Iw (T:Tab) (s:Sc) {l:List Pm} (h:ML l):(lI T s [] l).length≤288048:=by have h1:=JZ T s l [] h.2;have h2:=h.1;omega
theorem NS (T:Tab) (s:Sc) {t:Ty} (h:UW t):(BH T s t).length≤24003:=by
 unfold BH;split
 ·simp
 ·have h3:=Iu T s false t;have h4:=h.1;omega
theorem UH (T:Tab) (s:Sc):∀(l:List Bd),(∀b∈l,b.tZ.length+b.aF.length≤8)→(zL T s l).length≤l.length*9
 |[],_=>by rw[zL];simp
 |x::r,h=>by
  rw[zL,List.length_append,List.length_append,List.length_append,List.length_cons]
  have h1:=UH T s r (fun p hp=>h p (List.mem_cons_of_mem _ hp))
  have h2:(bnE s x).length≤1:=by
   unfold bnE
   split
   ·
    exact vZ _ _ _ _
   ·
    exact AA
  have h3:=UG T x.line x.col x.tZ
  have h5:=Az s.aF x.line x.col x.aF
  have h4:=h x List.mem_cons_self
  omega
theorem Iy (T:Tab) (s:Sc) {l:List Bd} (h:Qd l):(zL T s l).length≤144:=by have h1:=UH T s l h.2;have h2:=h.1;omega
theorem mtE_le (T:Tab) (g:Gn) (d:List Mt) {m:Mt} (hg:g.aF.length≤8) (h:MtB m):(mtE T g d m).length≤320000:=by
 rw[mtE,List.length_append,List.length_append,List.length_append,List.length_append,List.length_append];have h1:(if d.any (fun y=>eqS y.name m.name)then[((4:Int),m.line,m.col)]else[]).length≤1:=pK;have h2:=Cf m.line m.col (g.aF++m.aF) [];have h3:(if m.life.size=0 then[]else jV (g.aF++m.aF) m.life m.line m.col).length≤1:=by split;simp;exact vZ _ _ _ _
 have h4:=Iw T ⟨g.aF++m.aF,g.types,true⟩ h.ps;have h5:=NS T ⟨g.aF++m.aF,g.types,true⟩ h.rt;have h6:=Iy T ⟨g.aF++m.aF,[],false⟩ h.wh;have h7:=h.lf;rw[List.length_append]at h2;omega
theorem NT (T:Tab) (g:Gn) (hg:g.aF.length≤8):∀(l d:List Mt),(∀m∈l,MtB m)→(oH T g d l).length≤l.length*320000
 |[],d,_=>by rw[oH];simp
 |x::r,d,h=>by
  rw[oH,List.length_append,List.length_cons]
  have h1:=NT T g hg r (d++[x]) (fun p hp=>h p (List.mem_cons_of_mem _ hp))
  have h2:=mtE_le T g d hg (h x List.mem_cons_self)
  omega
theorem J3 (T:Tab) (g:Gn) (hg:g.aF.length≤8) {l:List Mt} (h:UB l):(oH T g [] l).length≤3840000:=by have h1:=NT T g hg l [] h.2;have h2:=h.1;omega
theorem UI:∀(l:List Bd),(MC l).length≤l.length
 |[]=>by rw[MC];simp
 |x::r=>by
  rw[MC,List.length_append,List.length_cons]
  have:=UI r
  have:(if 0<x.aF.length then[((8:Int),x.line,x.col)]else[]).length≤1:=pK
  omega
theorem NU (tr:It):∀(l:List Mt),(BM tr l).length≤l.length
 |[]=>by rw[BM];simp
 |x::r=>by
  rw[BM,List.length_append,List.length_cons]
  have:=NU tr r
  have:(FZ tr x).length≤1:=by
   unfold FZ
   split
   ·
    simp
   ·
    exact pK
  omega
theorem NV (x:It):∀(l:List Mt),(yc x l).length≤l.length
 |[]=>by rw[yc];simp
 |m::r=>by
  rw[yc,List.length_append,List.length_cons]
  have:=NV x r
  have:(if(BL x.methods m.name).isSome then[]else[((3:Int),x.line,x.col)]).length≤1:=AA
  omega
theorem Fe.fit {x:It} (h:Fe x):D9 x:=⟨by have:=h.gn;omega,fun p hp=>(h.fs.2 p hp).2,h.rt.2,fun m hm=>⟨fun p hp=>((h.ms.2 m hm).ps.2 p hp).2,(h.ms.2 m hm).rt.2,(h.ms.2 m hm).lf⟩⟩
theorem Tab.get_mem {T:Tab} {m:ByteArray→Option Nat} {s:ByteArray} {x:It} (h:T.get m s=some x):x∈T.items:=by
 unfold Tab.get at h;cases hm:m s with
 |none=>rw[hm]at h;cases h
 |some i=>rw[hm]at h;exact List.mem_of_getElem? h
theorem UJ (T:Tab) (hT:∀x∈T.items,Fe x) {x:It} (h:Fe x):(zG T x).length≤3900000:=by
 rw[zG,List.length_append,List.length_append,List.length_append,List.length_append];have h1:(if qC x.head||(T.st x.head).isSome then[]else[((3:Int),x.line,x.col)]).length≤1:=AA;have h2:=UI x.wh;have h3:=Iy T ⟨[],(T.of x.head).types,false⟩ h.wh;have h4:=J3 T (T.of x.head) (Tab.Uc (fun x hx=>(hT x hx).fit) _) h.ms;have h5:=h.wh.1;have h7:=h.ms.1;have h6:(PY T x).length≤24:=by
  unfold PY;split
  ·simp
  ·rename_i tr ht;rw[List.length_append];have h8:=NU tr x.methods;have h9:=NV x tr.methods;have h10:=(hT tr (Tab.get_mem ht)).ms.1;omega
 omega
theorem itE_le (T:Tab) (hT:∀x∈T.items,Fe x) {x:It} (h:Fe x):(Qw T x).length≤4000000:=by
 unfold Qw;have h1:=Xl T x.gen x.line x.col;have h2:=h.gn;have h3:=Iw T ⟨x.gen.aF,x.gen.types,false⟩ h.fs;have h4:=Iw T ⟨x.gen.aF,x.gen.types,true⟩ h.fs;have h5:=NS T ⟨x.gen.aF,x.gen.types,true⟩ h.rt;have h6:=Iy T ⟨x.gen.aF,x.gen.types,true⟩ h.wh;have h7:=UJ T hT h;have h8:=J3 T jX dc h.ms;split
 ·rw[List.length_append];omega
 split
 ·omega
 split
 ·omega
 split
 ·rw[List.length_append,List.length_append,List.length_append];omega
 ·simp
theorem NW (T:Tab) (hT:∀x∈T.items,Fe x):∀(l:List It),(∀x∈l,Fe x)→(l.flatMap (Qw T)).length≤l.length*4000000
 |[],_=>by simp
 |x::r,h=>by
  rw[List.flatMap_cons,List.length_append,List.length_cons]
  have h1:=NW T hT r (fun p hp=>h p (List.mem_cons_of_mem _ hp))
  have h2:=itE_le T hT (h x List.mem_cons_self)
  omega
theorem UK (T:Tab) (F:Nat):∀(l:List It) (i:Nat),(JU T F i l).length≤l.length
 |[],i=>by rw[JU];simp
 |x::r,i=>by
  rw[JU,List.length_append,List.length_cons]
  have:=UK T F r (i+1)
  have:(Qb T F i x).length≤1:=by unfold Qb;exact pK
  omega
theorem Xm (T:Tab) (i:Nat) (x:It):(kF T i x).2.length≤1:=by
 unfold kF;split
 ·split<;>simp
 ·split<;>simp
theorem UL:∀(l:List It) (T:Tab) (i:Nat),(qN T i l).2.length≤l.length
 |[],_,_=>by rw[qN];simp
 |x::r,T,i=>by
  rw[qN]
  show(_++_:List Er).length≤_
  rw[List.length_append,List.length_cons]
  have:=UL r (kF T i x).1 (i+1)
  have:=Xm T i x
  omega
theorem Xn (F:Nat) {l:List It} (h:∀x∈l,Fe x) (hn:l.length≤100):(nO F l).length≤1000000000:=by unfold nO;rw[List.length_append,List.length_append];have h1:=UL l (zI l) 0;have h2:=NW (wP l) (by rw[uq];exact h) l h;have h3:=UK (wP l) F l 0;omega
structure Iz (T:Tab):Prop where
 st:∀s i,T.st s=some i→∃x,T.items[i]?=some x∧x.name=s∧x.kind=1
 tr:∀s i,T.tr s=some i→∃x,T.items[i]?=some x∧x.name=s∧x.kind=2
 fn:∀s i,T.fn s=some i→∃x,T.items[i]?=some x∧x.name=s∧x.kind=4
 im:∀s t i,T.im s t=some i→∃x,T.items[i]?=some x∧x.name=s∧x.head=t∧x.kind=3
theorem MN {m:ByteArray→Option Nat} {Q:ByteArray→Nat→Prop} {s:ByteArray} {i:Nat} (h:∀s j,m s=some j→Q s j) (hi:Q s i):∀x j,xX m s i x=some j→Q x j:=by
 intro x j hj;unfold xX at hj;split at hj
 ·rename_i he;cases hj;rw[kQ.1 he];exact hi
 ·exact h x j hj
theorem Iz.ent {T:Tab} (h:Iz T) {i:Nat} {x:It} (hx:T.items[i]?=some x) (hk:x.kind=1∨x.kind=2∨x.kind=3∨x.kind=4):Iz (kF T i x).1:=by
 unfold kF;split
 ·rename_i h3;split
  ·exact h
  ·refine⟨h.st,h.tr,h.fn,?_⟩;intro s t j hj;have hj':yt T.im x.name x.head i s t=some j:=hj;unfold yt at hj';split at hj'
   ·rename_i he;cases hj';rw[Bool.and_eq_true]at he;exact⟨x,hx,(kQ.1 he.1).symm,(kQ.1 he.2).symm,h3⟩
   ·exact h.im s t j hj'
 ·rename_i h3;split
  ·exact h
  ·show Iz (Tab.put _ _ _ _);unfold Tab.put;split
   ·rename_i h1;exact⟨MN (Q:=fun s j=>∃y,T.items[j]?=some y∧y.name=s∧y.kind=1) h.st ⟨x,hx,rfl,h1⟩,h.tr,h.fn,h.im⟩
   ·split
    ·rename_i h1;exact⟨h.st,MN (Q:=fun s j=>∃y,T.items[j]?=some y∧y.name=s∧y.kind=2) h.tr ⟨x,hx,rfl,h1⟩,h.fn,h.im⟩
    ·exact⟨h.st,h.tr,MN (Q:=fun s j=>∃y,T.items[j]?=some y∧y.name=s∧y.kind=4) h.fn ⟨x,hx,rfl,by omega⟩,h.im⟩
theorem YD:∀(l:List It) (T:Tab) (i:Nat),Iz T→(∀k x,l[k]?=some x→T.items[i+k]?=some x∧(x.kind=1∨x.kind=2∨x.kind=3∨x.kind=4))→Iz (qN T i l).1
 |[],_,_,h,_=>h
 |x::r,T,i,h,hx=>by
  rw[qN]
  have h0:=hx 0 x rfl
  refine YD r _ (i+1) (h.ent h0.1 h0.2) (fun k y hy=> ?_)
  have h1:=hx (k+1) y hy
  rw[yu]
  rw[Nat.add_assoc,Nat.add_comm 1 k]
  exact h1
theorem newT_w {l:List It} (h:∀x∈l,Fe x):Iz (wP l):=
 YD l (zI l) 0 ⟨(fun _ _ h=>nomatch h),(fun _ _ h=>nomatch h),(fun _ _ h=>nomatch h),(fun _ _ _ h=>nomatch h)⟩ (fun k x hx=>⟨by rw[Nat.zero_add];exact hx,(h x (List.mem_of_getElem? hx)).kd⟩)
theorem AL:∀(n:Nat) (l:List Nat),l.Nodup→(∀x∈l,x<n)→l.length≤n
 |0,l,_,h=>by
  cases l with
  |nil=>simp
  |cons a r=>exact absurd (h a (List.mem_cons_self ..)) (Nat.not_lt_zero _)
 |n+1,l,hn,h=>by
  by_cases hm:n∈l
  ·
   have h1:=AL n (l.erase n) (hn.erase n) (fun x hx=>by
     have h2:=(hn.mem_erase_iff).1 hx
     have:=h x h2.2
     have h3:=h2.1
     omega)
   have h2:=List.length_erase_of_mem hm
   omega
  ·
   have:=AL n l hn (fun x hx=>by
     have h2:=h x hx
     have h3:x≠n:=fun e=>hm (e▸hx)
     omega)
   omega
structure Ff (T:Tab) (out:List ByteArray):Prop where
 nd:out.Nodup
 st:∀s∈out,(T.st s).isSome=true
theorem Ff.len {T:Tab} (hT:Iz T) {out:List ByteArray} (h:Ff T out):out.length≤T.items.length:=by
 have h1:((out.map fun s=>(T.st s).getD 0)).Nodup:=by
  have h2:∀l:List ByteArray,l.Nodup→(∀s∈l,(T.st s).isSome=true)→(l.map fun s=>(T.st s).getD 0).Nodup:=by
   intro l;induction l with
   |nil=>intro _ _;exact List.nodup_nil
   |cons a r ih=>intro hn hs;rw[List.nodup_cons]at hn;rw[List.map_cons,List.nodup_cons];refine⟨fun hm=> ?_,ih hn.2 (fun s hs'=>hs s (List.mem_cons_of_mem _ hs'))⟩;obtain⟨b,hb,he⟩:=List.mem_map.1 hm;obtain⟨i,hi⟩:=Option.isSome_iff_exists.1 (hs a List.mem_cons_self);obtain⟨j,hj⟩:=Option.isSome_iff_exists.1 (hs b (List.mem_cons_of_mem _ hb));rw[hi,hj]at he;have he2:j=i:=he;subst he2;obtain⟨x,hx,hxa,-⟩:=hT.st _ _ hi;obtain⟨y,hy,hyb,-⟩:=hT.st _ _ hj;rw[hx]at hy;cases hy;exact hn.1 (by rw[←hxa,hyb];exact hb)
  exact h2 out h.nd h.st
 have h3:=AL T.items.length _ h1 (fun i hi=>by
  obtain⟨s,hs,rfl⟩:=List.mem_map.1 hi
  obtain⟨j,hj⟩:=Option.isSome_iff_exists.1 (h.st s hs)
  obtain⟨x,hx,-⟩:=hT.st _ _ hj
  rw[hj]
  exact(List.getElem?_eq_some_iff.1 hx).1)
 simpa using h3
theorem Xo {l:List ByteArray} {s:ByteArray}:l.any (eqS s)=true↔s∈l:=by
 rw[List.any_eq_true];constructor
 ·rintro⟨x,hx,h⟩;rw[kQ.1 h];exact hx
 ·intro h;exact⟨s,h,kQ.2 rfl⟩
theorem Qe {T:Tab} {x:It} {st:List ByteArray×List ByteArray} {s:ByteArray} (h:Ff T st.1):Ff T (stepW T x st s).1:=by
 unfold stepW;split
 ·rename_i hc;rw[Bool.and_eq_true,Bool.and_eq_true]at hc;refine⟨?_,?_⟩
  ·show(st.1++[s]).Nodup;rw[List.nodup_append];refine⟨h.nd,by simp,?_⟩;intro a ha b hb e;rw[List.mem_singleton]at hb;subst hb;subst e;have:=Xo.2 ha;rw[this]at hc;exact absurd hc.2 dc
  ·intro t ht;rcases List.mem_append.1 ht with h1|h1
   ·exact h.st t h1
   ·rw[List.mem_singleton]at h1;subst h1;exact hc.1.1
 ·exact h
theorem AO {α:Type} {T:Tab} (f:List ByteArray×List ByteArray→α→List ByteArray×List ByteArray) (hf:∀st a,Ff T st.1→Ff T (f st a).1):∀(l:List α) (st:List ByteArray×List ByteArray),Ff T st.1→Ff T (l.foldl f st).1
 |[],_,h=>h
 |a::r,st,h=>by rw[List.foldl_cons];exact AO f hf r _ (hf st a h)
theorem Bj {T:Tab} (hT:Iz T):∀(f:Nat) (q out:List ByteArray),Ff T out→q.length+T.items.length<f+out.length→∃res,jG T f q out=some res∧Ff T res
 |0,q,out,ho,h=>by have:=ho.len hT;omega
 |f+1,[],out,ho,h=>⟨out,by rw[jG],ho⟩
 |f+1,t::r,out,ho,h=>by
  rw[jG]
  generalize (T.get T.st t).getD vO=x
  have h1:=qF (yh T x) (fun st p=>by unfold yh;exact qF _ (Ea T x) _ _) x.fields (out,r)
  have h2:=AO (T:=T) (yh T x) (fun st p h=>by unfold yh;exact AO _ (fun st a h=>Qe h) _ _ h) x.fields (out,r) ho
  refine Bj hT f _ _ h2 ?_
  obtain⟨h3,h4⟩:=h1
  rw[List.length_cons]at h
  have h5:(List.foldl (yh T x) (out,r) x.fields).2.length+out.length=r.length+(List.foldl (yh T x) (out,r) x.fields).1.length:=h4
  omega
def nP:Nat:=1000
theorem MO {l:List It} (h:∀x∈l,Fe x) (hn:l.length≤100) (s:ByteArray):∃res,jG (wP l) nP [s] []=some res∧res.length≤1000000:=by have hT:=newT_w h;obtain⟨res,h1,h2⟩:=Bj hT nP [s] [] ⟨List.nodup_nil,fun _ h=>nomatch h⟩ (by rw[uq];unfold nP;simp;omega);have h3:=h2.len hT;rw[uq]at h3;exact⟨res,h1,by omega⟩
theorem new_any (l:List It) (vl:Value) (w:World) (hl:l.length≤100) (hb:∀x∈l,Fe x) (h:jF nX w (fun k=>k<w.heap.size) l vl):Calls Tryz.prog 21 #[vl] w (Cc nP l w):=
 Ux nP l vl w om (fun x hx=>(hb x hx).fit) (fun x hx p hp=>by have h1:=JY p.ty;have h2:=((hb x hx).fs.2 p hp).1;omega) (fun x _=>MO hb hl x.name) (Xn nP hb hl) h
theorem Xp {IM:World→Nat→(ByteArray→ByteArray→Option Nat)→Prop} (him:vP IM) (tb:Nat) (T:Tab) (P:Nat→Prop) (s:ByteArray) (w:World) (hT:TabAt IM tb T w P) (hs:s.size≤9223372036854775807) (hP:∀k,P k→k<w.heap.size):Calls Tryz.prog 27 #[.pointer (some ⟨tb,0,none⟩),.string s] w (GetPost P T T.fn s w):=by
 obtain⟨w1,hw1⟩:=aU (w.alloc (.cells Qr.toArray 51));have HST:Hid (Step (fun _=>False) w w1):=by show Step _ _ _;rw[hw1];exact bJ.alloc _
 have HB1:Hid (w1.heap[w.heap.size]?=some (.cells Qr.toArray 51 (0,0))):=by show _=_;rw[hw1];exact aA _ _
 have HW1:=ak hw1;have ht:=(qA him tb T).step HST.o (fun _ _ h=>h) hT;obtain⟨vi,ms,mt,mf,mi,h1,h2,h3,h4,h5,h6⟩:=ht.ex;have HIT:=ak (Ap him tb T P T.fn mf s w1 ht h5.2 (fun i hi=>hT.fn s i hi) hs (fun k hk=>Nat.lt_of_lt_of_le (hP k hk) HST.o.size));have t1:=aj h1 3 _ rfl;have HP:=ak hP;clear hw1 hT ht h1 h2 h3 h4 h5 h6 hP;go_enter Tryz.func27,Tryz.ntmps27;go_upto_region 1 with fail
 rw[←HW1.o];go_wp2_with fail;refine HIT.o.mono ?_;rintro e w2 ⟨⟨cs,rfl,hat⟩,h2⟩;have HB2:=ak (h2.keep HB1.o (fun h=>h));have ou:=ak (HST.o.trans h2);have HAT:=ak hat;have mX:Hid ((Tryz.prog.info? 51).map (·.size)=some cs.length):=by show _=_;rw[aT.len _ _ hat];exact Tryz.dF
 have qM:=ak (aT.len _ _ hat);clear h2 hat t1;go_wp2_with (refine fH rfl 51 (.tmp 4) (.tmp 16) rfl w.heap.size 51 _ cs rfl rfl HB2.o mX.o (by rw[qM.o];rfl) (aT.one _ _ HAT.o) ?_;intro wR hbR bT);refine bodyPost_ret (fZ rfl _ w.heap.size 51 cs _ _ rfl rfl hbR Tryz.underlying51 rfl mX.o) rfl ?_;exact⟨⟨cs,rfl,aT.step _ _ bT (fun k hk e=>by have:=HP.o k hk;omega) HAT.o⟩,ou.o.then bT (fun i hi e=>by omega)⟩
def zJ (s:ByteArray):Option (List It):=if s.size≤6000 then(match xw s.data.toList with| .ok l=>some l| .error _=>none)else none
theorem NY {s:ByteArray} {l:List It} (h:zJ s=some l):l.length≤60∧∀x∈l,Fe x:=by
 unfold zJ at h;split at h
 ·split at h
  ·rename_i l2 h2;cases h;exact prog_b h2
  ·cases h
 ·cases h
theorem uw {fn:Func} {t u v x:Tmp} (h:fn.results= #[.tmp t,.tmp u,.tmp v,.tmp x]) (tmps:Array Value) (P:Program) (w:World):(results fn tmps).run P w=.ok (.tuple #[tmps.getD t undef,tmps.getD u undef,tmps.getD v undef,tmps.getD x undef]) w:=by simp[results,h]
def oI (r:Option (List It)) (w:World) (e:Ending) (w':World):Prop:=
 (match r with
  |none=>e=.returned (.tuple #[au,.pointer none,au,aO])
  |some l=>∃(cb tb:Nat) (vl v:Value),e=.returned (.tuple #[vl,dY tb 0,v,dV true])∧w.heap.size≤cb∧w.heap.size≤tb∧jF nX w' (fun k=>w.heap.size≤k) l vl∧lm cb (.pointer (some ⟨tb,0,none⟩)) (TabAt Eb tb (wP l)) w' v (nO nP l))∧Step (fun _=>False) w w'
theorem oI.no {w w':World} (h:Step (fun _=>False) w w'):oI none w (.returned (.tuple #[au,.pointer none,au,aO])) w':=⟨rfl,h⟩
theorem Ee (s:ByteArray) (w:World) (m:Int) (hm:w.cell? ⟨0,0,none⟩=some (.int .i64 m)):Calls Tryz.prog 18 #[.string s] w (oI (zJ s) w):=by
 have HM:=ak hm;have YA:=ak (PI s w m hm);have NC:Hid (∀c ln col,xw s.data.toList=.error (c,ln,col)→c≠0):=by show∀c ln col,_;intro c ln col e;exact DX (fun l c ln col hl he=>(zu hl).code he) e
 obtain⟨R,hR⟩:=aU (zJ s);rw[←hR];have HB:Hid (∀l,R=some l→l.length≤60∧∀x∈l,Fe x):=by show∀l,_;intro l e;exact NY (hR.symm.trans e)
 have HR:Hid (R=if s.size≤6000 then(match xw s.data.toList with| .ok l=>some l| .error _=>none)else none):=hR;clear hm hR;obtain⟨r,hr⟩:=aU (xw s.data.toList);rw[←hr]at YA NC HR;clear hr;go_enter Tryz.func18,Tryz.ntmps18;go_upto_region 1 with fail
 go_wp2_with fail;refine YA.o.mono ?_;cases r with
 |error q=>
  obtain⟨c,ln,col⟩:=q;obtain⟨ec,hec⟩:∃e:Int,e=(c:Nat):=⟨_,rfl⟩;obtain⟨eln,heln⟩:∃e:Int,e=(ln:Nat):=⟨_,rfl⟩;obtain⟨ecol,YE⟩:∃e:Int,e=(col:Nat):=⟨_,rfl⟩;have hc0:=NC.o c ln col rfl;have bc:(ec==0)=false:=by rw[beq_eq_false_iff_ne,hec];omega
  have vG:Hid (R=none):=by show _=_;rw[HR.o];split<;>rfl
  rintro e w1 ⟨he,h1⟩;have he:e=.returned (.tuple #[au,.agg #[ah (c:Nat),ah (ln:Nat),ah (col:Nat)]]):=he;rw[←hec,←heln,←YE]at he;subst he;have cZ:=ak h1;clear h1 hc0 hec heln YE NC YA HR;obtain⟨w2,hw2⟩:=aU (w1.alloc (.cells #[ah 0,ah 0,ah 0] 27));have HS2:Hid (Step (fun _=>False) w1 w2):=by show Step _ _ _;rw[hw2];exact bJ.alloc _
  have HB2:Hid (w2.heap[w1.heap.size]?=some (.cells #[ah 0,ah 0,ah 0] 27 (0,0))):=by show _=_;rw[hw2];exact aA _ _
  have HW2:=ak hw2;clear hw2;go_upto_region 2 with(first
   |(refine aC (w:=w2) rfl 27 (.tmp 7) (.tmp 14) rfl w1.heap.size 0 27 _ [.int .i64 ec,.int .i64 eln,.int .i64 ecol] rfl rfl HB2.o Tryz.iY (Nat.le_of_eq rfl) (aP rfl) ?_;intro w5 hb5 hst5)
   |rw[←HW2.o])
  have hs5:Step (fun _=>False) w w5:=((cZ.o.trans HS2.o).then hst5 (fun q hq e=>by have:=cZ.o.size;omega));have hB5:w5.heap[w1.heap.size]?=some (.cells #[ah ec,ah eln,ah ecol] 27 (0,0)):=hb5;have oQ:=ak hs5;obtain⟨⟨j0,j1,j2⟩,-⟩:=wE hB5;clear hs5 hB5 hb5 hst5;go_wp2_with fail;refine bodyPost_ret (uw rfl _ _ _) rfl ?_;rw[vG.o];exact oI.no oQ.o
 |ok l=>
  rintro e w1 ⟨⟨vl,rfl,hls⟩,h1⟩;obtain⟨al,cl,rfl⟩:=hls.parts;have Qm:=ak hls;have cZ:=ak h1;clear h1 hls NC YA;obtain⟨w2,hw2⟩:=aU (w1.alloc (.cells #[ah 0,ah 0,ah 0] 27));have HS2:Hid (Step (fun _=>False) w1 w2):=by show Step _ _ _;rw[hw2];exact bJ.alloc _
  have HB2:Hid (w2.heap[w1.heap.size]?=some (.cells #[ah 0,ah 0,ah 0] 27 (0,0))):=by show _=_;rw[hw2];exact aA _ _
  have HW2:=ak hw2;clear hw2;go_upto_region 2 with(first
   |(refine aC (w:=w2) rfl 27 (.tmp 7) (.tmp 14) rfl w1.heap.size 0 27 _ [.int .i64 0,.int .i64 0,.int .i64 0] rfl rfl HB2.o Tryz.iY (Nat.le_of_eq rfl) (aP rfl) ?_;intro w5 hb5 hst5)
   |rw[←HW2.o])
  have kY:Hid (Step (·=w1.heap.size) w1 w5):=ak ((HS2.o.mono fe).trans hst5);have oQ:Hid (Step (fun _=>False) w w5):=ak (cZ.o.then kY.o (fun q hq e=>by have:=cZ.o.size;omega));have hB5:w5.heap[w1.heap.size]?=some (.cells #[ah 0,ah 0,ah 0] 27 (0,0)):=hb5;obtain⟨⟨j0,j1,j2⟩,-⟩:=wE hB5;have HL5:Hid (jF nX w5 (fun k=>w.heap.size≤k∧k<w1.heap.size) l (.slice al l.length cl)):=ak ((bQ aT).step _ _ kY.o oi ((bQ aT).mono _ _ (fun k h1 h2=>⟨h2,h1⟩) Qm.o));clear hB5 hb5 hst5;by_cases hz:s.size≤6000
  ·(have Qq:Hid (R=some l):=by show _=_;rw[HR.o,if_pos hz]);(have hzz:(s.size:Int)≤6000:=by omega);(have HNW:Hid (∀X,Step (fun _=>False) w5 X→Calls Tryz.prog 21 #[.slice al l.length cl] X (Cc nP l X)):=by intro X hX;have hb:=HB.o l Qq.o;exact new_any l _ X om hb.2 ((bQ aT).mono _ _ (fun k h1 _=>h1) ((bQ aT).step _ _ hX (fun _ _ h=>h) HL5.o)));go_wp2_with fail;refine(HNW.o _ bJ).mono ?_;rintro e w6 ⟨cb,tb,v,rfl,hcb,htb,hck,h6⟩;obtain⟨av,cv,rfl⟩:=a_ hck.own;have HCK:=ak hck;have wB:=ak h6;have Ah:=ak hcb;have HTB:=ak htb;clear hcb htb hck h6;go_wp2_with fail;refine bodyPost_ret (uw rfl _ _ _) rfl ?_;rw[Qq.o];exact⟨⟨cb,tb,_,_,rfl,Nat.le_trans oQ.o.size Ah.o,Nat.le_trans oQ.o.size HTB.o,(bQ aT).mono _ _ (fun k _ hk=>hk.1) ((bQ aT).step _ _ wB.o (fun _ _ h=>h) HL5.o),HCK.o⟩,oQ.o.trans wB.o⟩
  ·(have vG:Hid (R=none):=by show _=_;rw[HR.o,if_neg hz]);(have hzz:(6000:Int)<s.size:=by omega);go_wp2_with fail;refine bodyPost_ret (uw rfl _ _ _) rfl ?_;rw[vG.o];exact oI.no oQ.o
def txA:ByteArray:=⟨#[115,116,114,117,99,116,32,83,32,123,32,115,32,58,32,83,32,125]⟩
def txB:ByteArray:=⟨#[115,116,114,117,99,116,32,83,32,123,32,115,32,58,32,66,111,120,32,60,32,83,32,62,32,125,32,102,110,32,102,32,40,32,41,32,123,32,125]⟩
def chkA:Bool:=match zJ txA with
 |some l=>decide (nO nP l=[(7,1,1)])
 |none=>false
def chkB:Bool:=match zJ txB with
 |some l=>decide (nO nP l=[])&&((wP l).fn ⟨#[102]⟩).isSome
 |none=>false
theorem Qg:chkA=true:=by kernel_rfl
theorem Qh:chkB=true:=by kernel_rfl
theorem txA_ok:∃l,zJ txA=some l∧nO nP l=[(7,1,1)]:=by
 have h:=Qg;unfold chkA at h;split at h
 ·rename_i l h2;exact⟨l,h2,of_decide_eq_true h⟩
 ·cases h
theorem txB_ok:∃l,zJ txB=some l∧nO nP l=[]∧((wP l).fn ⟨#[102]⟩).isSome=true:=by
 have h:=Qh;unfold chkB at h;split at h
 ·rename_i l h2;rw[Bool.and_eq_true]at h;exact⟨l,h2,of_decide_eq_true h.1,h.2⟩
 ·cases h
theorem Qi (w:World) (m:Int) (hm:w.cell? ⟨0,0,none⟩=some (.int .i64 m)):Calls Tryz.prog 19 #[] w fun e w'=>e=.returned (.bool true)∧Step (fun _=>False) w w':=by
 obtain⟨l1,hl1,he1⟩:=txA_ok;obtain⟨l2,hl2,he2,hf2⟩:=txB_ok;have HM:=ak hm;have h1:=Ee txA w m hm;rw[hl1]at h1;have wX:Hid (Calls Tryz.prog 18 #[.string ⟨#[115,116,114,117,99,116,32,83,32,123,32,115,32,58,32,83,32,125]⟩] w (oI (some l1) w)):=h1;have rM:Hid (∀X,Step (fun _=>False) w X→Calls Tryz.prog 18 #[.string ⟨#[115,116,114,117,99,116,32,83,32,123,32,115,32,58,32,66,111,120,32,60,32,83,32,62,32,125,32,102,110,32,102,32,40,32,41,32,123,32,125]⟩] X (oI (some l2) X)):=by show∀X,_;intro X hX;have h2:=Ee txB X m (hX.cell hm (fun h=>h));rw[hl2]at h2;exact h2
 have zK:=ak he1;have HE2:=ak he2;have HF2:=ak hf2;clear h1 hl1 hl2 he1 he2 hf2 hm;go_enter Tryz.func19,Tryz.ntmps19;go_upto_region 1 with fail
 go_wp2_with fail;refine wX.o.mono ?_;rintro e w1 ⟨⟨cb,tb,vl,v,rfl,-,-,hls,hck⟩,h1⟩;obtain⟨al,cl,rfl⟩:=hls.parts;have hown:=hck.own;rw[zK.o]at hown;obtain⟨a1,c1,hv,-,-,-,hrow⟩:=di.fA (P:=fun _=>True) hown (fun _ _=>trivial);obtain⟨g,o,rfl,-,hg,hcell⟩:=hrow dc;have hv2:v=.slice (some ⟨g,o,none⟩) 1 c1:=hv;subst hv2;have c0:w1.cell? ⟨g,o+0,none⟩=some (.int .i64 7):=hcell 0 _ rfl;have c1':w1.cell? ⟨g,o+1,none⟩=some (.int .i64 1):=hcell 1 _ rfl;have c2:w1.cell? ⟨g,o+2,none⟩=some (.int .i64 1):=hcell 2 _ rfl;rw[Nat.add_zero]at c0;have HCS:Hid (∀X,Step (fun _=>False) w1 X→X.cell? ⟨g,o,none⟩=some (.int .i64 7)∧X.cell? ⟨g,o+1,none⟩=some (.int .i64 1)∧X.cell? ⟨g,o+2,none⟩=some (.int .i64 1)):=by intro X hX;exact⟨hX.cell c0 (fun h=>h),hX.cell c1' (fun h=>h),hX.cell c2 (fun h=>h)⟩
 have cZ:=ak h1;have HRB1:Hid (Calls Tryz.prog 18 #[.string ⟨#[115,116,114,117,99,116,32,83,32,123,32,115,32,58,32,66,111,120,32,60,32,83,32,62,32,125,32,102,110,32,102,32,40,32,41,32,123,32,125]⟩] w1 (oI (some l2) w1)):=ak (rM.o w1 h1);clear h1 hls hck hown hv hrow hcell c0 c1' c2 hg;go_upto_region 2 with fail
 go_wp2_with fail;refine HRB1.o.mono ?_;rintro e w2 ⟨⟨cb2,tb2,Y2,v2,rfl,-,-,hls,hck⟩,h2⟩;obtain⟨al2,cl2,rfl⟩:=hls.parts;have hown:=hck.own;rw[HE2.o]at hown;obtain⟨a2,cc2,hv⟩:=a_ hown;have hv2:v2=.slice a2 0 cc2:=hv;subst hv2;have HS2:=ak h2;have NG:Hid (Calls Tryz.prog 27 #[.pointer (some ⟨tb2,0,none⟩),.string ⟨#[102]⟩] w2 (GetPost (Out cb2 (.slice a2 0 cc2) w2) (wP l2) (wP l2).fn ⟨#[102]⟩ w2)):=ak (Xp zH tb2 (wP l2) _ ⟨#[102]⟩ w2 hck.tab dc (fun k hk=>hk.1));clear h2 hls hck hown hv;go_upto_region 3 with fail
 go_wp2_with fail;refine NG.o.mono ?_;rintro e w3 ⟨⟨cs,rfl,hat⟩,h3⟩;rw[HF2.o];have mX:Hid ((Tryz.prog.info? 51).map (·.size)=some cs.length):=by show _=_;rw[aT.len _ _ hat];exact Tryz.dF
 have qM:=ak (aT.len _ _ hat);have DL:=ak (aT.one _ _ hat);obtain⟨w4,hw4⟩:=aU (w3.alloc (.cells cs.toArray 51));have iP:Hid (Step (fun _=>False) w3 w4):=by show Step _ _ _;rw[hw4];exact bJ.alloc _
 have OI:=ak hw4;have eX:=ak h3;clear hat h3 hw4;go_upto_region 4 with(first
  |(refine bW rfl 51 (.tmp 9) (.tmp 26) rfl _ cs rfl rfl mX.o (by rw[qM.o];rfl) DL.o ?_;rw[←OI.o]))
 obtain⟨k0,k1,k2⟩:=HCS.o w4 ((HS2.o.trans eX.o).trans iP.o);go_wp2_with fail;go_ret;exact⟨rfl,((cZ.o.trans HS2.o).trans eX.o).trans iP.o⟩
theorem im_put (T:Tab) (k:Int) (s:ByteArray) (i:Nat):(T.put k s i).im=T.im:=by
 unfold Tab.put;split
 ·rfl
 ·split<;>rfl
def aaS (k q:Int):Bool:=decide (q=k)||(decide (k=1∨k=2)&&decide (q=1∨q=2))
def aad (k:Int) (s:ByteArray):Nat→List It→Option Nat
 |_,[]=>none
 |i,x::r=>if eqS x.name s&&aaS k x.kind then(if x.kind=k then some i else none)else aad k s (i+1) r
def fndI (s t:ByteArray):Nat→List It→Option Nat
 |_,[]=>none
 |i,x::r=>if decide (x.kind=3)&&(eqS x.name s&&eqS x.head t)then some i else fndI s t (i+1) r
theorem aaL (a b:ByteArray):eqS a b=eqS b a:=by
 cases h:eqS a b with
 |true=>rw[kQ.1 h,kQ.2 rfl]
 |false=>
  cases h2:eqS b a with
  |true=>rw[kQ.1 h2,kQ.2 rfl]at h;cases h
  |false=>rfl
theorem aah (m:ByteArray→Option Nat) (s t:ByteArray) (i:Nat):xX m s i t=if eqS s t then some i else m t:=by rw[aaL];rfl
def stP (a b:Option Nat) (i:Nat) (x:It) (s:ByteArray):Option Nat×Option Nat:=
 if eqS x.name s&&(decide (x.kind=1)||decide (x.kind=2))then(if a.isSome||b.isSome then(a,b)else if x.kind=1 then(some i,b)else(a,some i))else(a,b)
theorem ent_pair (T:Tab) (i:Nat) (x:It) (s:ByteArray) (hk:x.kind=1∨x.kind=2∨x.kind=3∨x.kind=4):((kF T i x).1.st s,(kF T i x).1.tr s)=stP (T.st s) (T.tr s) i x s:=by
 have e4:∀c:Bool,(c||(decide ((1:Int)≠4)&&(c||(T.tr x.name).isSome)))=(c||(T.tr x.name).isSome):=by intro c;cases c<;>rfl
 have e5:∀c:Bool,((T.tr x.name).isSome||(decide ((2:Int)≠4)&&(c||(T.tr x.name).isSome)))=(c||(T.tr x.name).isSome):=by intro c;cases c<;>cases (T.tr x.name).isSome<;>rfl
 unfold kF stP;rcases hk with hk|hk|hk|hk
 ·rw[hk,if_neg dc,show uo T 1=T.st from rfl,e4];cases he:eqS x.name s with
  |true=>
   obtain rfl:=kQ.1 he;cases hc:((T.st x.name).isSome||(T.tr x.name).isSome)with
   |true=>rfl
   |false=>show(xX T.st x.name i x.name,T.tr x.name)=(some i,T.tr x.name);rw[aah,he];rfl
  |false=>
   split
   ·rfl
   ·show(xX T.st x.name i s,T.tr s)=_;rw[aah,he];rfl
 ·rw[hk,if_neg dc,show uo T 2=T.tr from rfl,e5];cases he:eqS x.name s with
  |true=>
   obtain rfl:=kQ.1 he;cases hc:((T.st x.name).isSome||(T.tr x.name).isSome)with
   |true=>rfl
   |false=>show(T.st x.name,xX T.tr x.name i x.name)=(T.st x.name,some i);rw[aah,he];rfl
  |false=>
   split
   ·rfl
   ·show(T.st s,xX T.tr x.name i s)=_;rw[aah,he];rfl
 ·rw[hk,if_pos rfl,show(decide ((3:Int)=1)||decide ((3:Int)=2))=false from rfl,Bool.and_false];split<;>rfl
 ·rw[hk,if_neg dc,show(decide ((4:Int)=1)||decide ((4:Int)=2))=false from rfl,Bool.and_false];split<;>rfl
theorem ent_fn (T:Tab) (i:Nat) (x:It) (s:ByteArray) (hk:x.kind=1∨x.kind=2∨x.kind=3∨x.kind=4):(kF T i x).1.fn s=if eqS x.name s&&decide (x.kind=4)then(if(T.fn s).isSome then T.fn s else some i)else T.fn s:=by
 unfold kF;rcases hk with hk|hk|hk|hk
 ·rw[hk,if_neg dc,show decide ((1:Int)=4)=false from rfl,Bool.and_false];split<;>rfl
 ·rw[hk,if_neg dc,show decide ((2:Int)=4)=false from rfl,Bool.and_false];split<;>rfl
 ·rw[hk,if_pos rfl,show decide ((3:Int)=4)=false from rfl,Bool.and_false];split<;>rfl
 ·rw[hk,if_neg dc,show uo T 4=T.fn from rfl,show(decide ((4:Int)≠4))=false from rfl,Bool.false_and,Bool.or_false];cases he:eqS x.name s with
  |true=>
   obtain rfl:=kQ.1 he;cases hc:(T.fn x.name).isSome with
   |true=>rfl
   |false=>show xX T.fn x.name i x.name=some i;rw[aah,he];rfl
  |false=>
   split
   ·rfl
   ·show xX T.fn x.name i s=_;rw[aah,he];rfl
theorem ent_im (T:Tab) (i:Nat) (x:It) (s t:ByteArray):(kF T i x).1.im s t=if decide (x.kind=3)&&(eqS x.name s&&eqS x.head t)then(if(T.im s t).isSome then T.im s t else some i)else T.im s t:=by
 unfold kF;by_cases hk:x.kind=3
 ·rw[if_pos hk,hk];have hp:yt T.im x.name x.head i s t=if eqS x.name s&&eqS x.head t then some i else T.im s t:=by rw[aaL x.name,aaL x.head];rfl
  cases he:(eqS x.name s&&eqS x.head t)with
  |true=>
   have h2:=Bool.and_eq_true_iff.1 he;obtain rfl:=kQ.1 h2.1;obtain rfl:=kQ.1 h2.2;cases hc:(T.im x.name x.head).isSome with
   |true=>rfl
   |false=>show yt T.im x.name x.head i x.name x.head=some i;rw[hp,he];rfl
  |false=>
   split
   ·rfl
   ·show yt T.im x.name x.head i s t=_;rw[hp,he];rfl
 ·rw[if_neg hk,decide_eq_false hk,Bool.false_and];split
  ·rfl
  ·show(T.put _ _ _).im s t=_;rw[im_put];rfl
def Rj (a b F:Option Nat):Option Nat:=if a.isSome then a else if b.isSome then none else F
theorem stP_1 (a b F:Option Nat) (i:Nat) (x:It) (s:ByteArray):Rj (stP a b i x s).1 (stP a b i x s).2 F=Rj a b (if eqS x.name s&&aaS 1 x.kind then(if x.kind=1 then some i else none)else F):=by
 unfold stP aaS;by_cases h1:x.kind=1
 ·rw[h1];cases eqS x.name s<;>cases a<;>cases b<;>rfl
 ·by_cases h2:x.kind=2
  ·rw[h2];cases eqS x.name s<;>cases a<;>cases b<;>rfl
  ·rw[decide_eq_false h1,decide_eq_false h2,show decide (x.kind=1∨x.kind=2)=false from decide_eq_false (fun e=>e.elim h1 h2)];cases eqS x.name s<;>rfl
theorem stP_2 (a b F:Option Nat) (i:Nat) (x:It) (s:ByteArray):Rj (stP a b i x s).2 (stP a b i x s).1 F=Rj b a (if eqS x.name s&&aaS 2 x.kind then(if x.kind=2 then some i else none)else F):=by
 unfold stP aaS;by_cases h1:x.kind=1
 ·rw[h1];cases eqS x.name s<;>cases a<;>cases b<;>rfl
 ·by_cases h2:x.kind=2
  ·rw[h2];cases eqS x.name s<;>cases a<;>cases b<;>rfl
  ·rw[decide_eq_false h1,decide_eq_false h2,show decide (x.kind=1∨x.kind=2)=false from decide_eq_false (fun e=>e.elim h1 h2)];cases eqS x.name s<;>rfl
theorem aae:∀(l:List It) (T:Tab) (i:Nat) (s t:ByteArray),(∀x∈l,x.kind=1∨x.kind=2∨x.kind=3∨x.kind=4)→Rj ((qN T i l).1.st s) ((qN T i l).1.tr s) none=Rj (T.st s) (T.tr s) (aad 1 s i l)∧Rj ((qN T i l).1.tr s) ((qN T i l).1.st s) none=Rj (T.tr s) (T.st s) (aad 2 s i l)∧(qN T i l).1.fn s=Rj (T.fn s) none (aad 4 s i l)∧(qN T i l).1.im s t=Rj (T.im s t) none (fndI s t i l)
 |[],T,i,s,t,_=>by
  refine⟨rfl,rfl,?_,?_⟩
  ·
   show T.fn s=_;unfold Rj aad;cases T.fn s<;>rfl
  ·
   show T.im s t=_;unfold Rj fndI;cases T.im s t<;>rfl
 |x::r,T,i,s,t,h=>by
  have hx:=h x List.mem_cons_self
  obtain⟨h1,h2,h3,h4⟩:=aae r (kF T i x).1 (i+1) s t (fun y hy=>h y (List.mem_cons_of_mem _ hy))
  have hp:=ent_pair T i x s hx
  rw[qN]
  refine⟨h1.trans ?_,h2.trans ?_,h3.trans ?_,h4.trans ?_⟩
  ·
   rw[show(kF T i x).1.st s=(stP (T.st s) (T.tr s) i x s).1 from congrArg Prod.fst hp,show(kF T i x).1.tr s=(stP (T.st s) (T.tr s) i x s).2 from congrArg Prod.snd hp,stP_1,aad]
  ·
   rw[show(kF T i x).1.st s=(stP (T.st s) (T.tr s) i x s).1 from congrArg Prod.fst hp,show(kF T i x).1.tr s=(stP (T.st s) (T.tr s) i x s).2 from congrArg Prod.snd hp,stP_2,aad]
  ·
   rw[ent_fn T i x s hx,aad,show aaS 4 x.kind=decide (x.kind=4) by unfold aaS;simp]
   cases eqS x.name s
   ·
    rfl
   ·
    by_cases h4:x.kind=4
    ·
     rw[decide_eq_true h4,if_pos h4];cases T.fn s<;>rfl
    ·
     rw[decide_eq_false h4];rfl
  ·
   rw[ent_im,fndI]
   cases (decide (x.kind=3)&&(eqS x.name s&&eqS x.head t))
   ·
    rfl
   ·
    cases T.im s t<;>rfl
structure TabF (T:Tab):Prop where
 st:∀s,T.st s=aad 1 s 0 T.items
 tr:∀s,T.tr s=aad 2 s 0 T.items
 fn:∀s,T.fn s=aad 4 s 0 T.items
 im:∀s t,T.im s t=fndI s t 0 T.items
theorem fndK_not:∀(l:List It) (i:Nat) (s:ByteArray),(aad 1 s i l).isSome=true→(aad 2 s i l).isSome=true→False
 |[],_,_,h,_=>nomatch h
 |x::r,i,s,h,h2=>by
  rw[aad]at h h2
  have e:aaS 2 x.kind=aaS 1 x.kind:=by
   unfold aaS
   by_cases h1:x.kind=1
   ·
    rw[h1];rfl
   ·
    by_cases h2:x.kind=2
    ·
     rw[h2];rfl
    ·
     rw[decide_eq_false h1,decide_eq_false h2];rfl
  rw[e]at h2
  split at h
  ·
   rename_i hc
   rw[if_pos hc]at h2
   split at h
   ·
    rename_i h3;rw[h3]at h2;cases h2
   ·
    cases h
  ·
   rename_i hc
   rw[if_neg hc]at h2
   exact fndK_not r (i+1) s h h2
theorem newT_fnd {l:List It} (h:∀x∈l,Fe x):TabF (wP l):=by
 have hi:=uq l;have hk:∀x∈l,x.kind=1∨x.kind=2∨x.kind=3∨x.kind=4:=fun x hx=>(h x hx).kd;have hw:=newT_w h;have hX:∀s,¬((wP l).st s).isSome=true∨¬((wP l).tr s).isSome=true:=by
  intro s;have h1:=(aae l (zI l) 0 s s hk).1;have h2:=(aae l (zI l) 0 s s hk).2.1;have h1:Rj ((wP l).st s) ((wP l).tr s) none=aad 1 s 0 l:=h1;have h2:Rj ((wP l).tr s) ((wP l).st s) none=aad 2 s 0 l:=h2;by_cases ha:((wP l).st s).isSome=true
  ·refine .inr fun hb=>fndK_not l 0 s ?_ ?_
   ·rw[←h1];unfold Rj;rw[if_pos ha];exact ha
   ·rw[←h2];unfold Rj;rw[if_pos hb];exact hb
  ·exact .inl ha
 have ho:∀a b:Option Nat,¬a.isSome=true∨¬b.isSome=true→Rj a b none=a:=by intro a b hab;cases a<;>cases b<;>first|rfl|(exfalso;simp at hab)
 refine⟨fun s=> ?_,fun s=> ?_,fun s=> ?_,fun s t=> ?_⟩
 ·rw[hi];have h1:=(aae l (zI l) 0 s s hk).1;have h1:Rj ((wP l).st s) ((wP l).tr s) none=aad 1 s 0 l:=h1;rw[←h1,ho _ _ (hX s)]
 ·rw[hi];have h1:=(aae l (zI l) 0 s s hk).2.1;have h1:Rj ((wP l).tr s) ((wP l).st s) none=aad 2 s 0 l:=h1;rw[←h1,ho _ _ (hX s).symm]
 ·rw[hi];exact(aae l (zI l) 0 s s hk).2.2.1
 ·rw[hi];exact(aae l (zI l) 0 s t hk).2.2.2
theorem jF.el {α:Type} {El:World→(Nat→Prop)→α→List Value→Prop} {k:Nat} (hE:vN El k) {w:World} {P:Nat→Prop} {l:List α} {v:Value} (h:jF El w P l v) {i:Nat} {x:α} (hx:l[i]?=some x):∃(g o c:Nat) (cs:List Value),v=.slice (some ⟨g,o,none⟩) l.length c∧El w P x cs∧∀(jj:Nat) v,cs[jj]?=some v→w.cell? ⟨g,o+i*k+jj,none⟩=some v:=by obtain⟨xs,⟨a,c,rfl,-,-,-,hra⟩,hls⟩:=h;obtain⟨g,o,rfl,-,-,hcell⟩:=hra (by have:=(List.getElem?_eq_some_iff.1 hx).1;omega);obtain⟨cs,hat,hget⟩:=lG.get hE i hls hx;exact⟨g,o,c,cs,rfl,hat,fun jj v hv=>by rw[Nat.add_assoc];exact hcell _ _ (hget jj v hv)⟩
theorem jF.lenle {α:Type} {El:World→(Nat→Prop)→α→List Value→Prop} {w:World} {P:Nat→Prop} {l:List α} {v:Value} (h:jF El w P l v):l.length≤9223372036854775807:=by obtain⟨xs,⟨a,c,rfl,hcl,hcm,-,hra⟩,hls⟩:=h;omega
def aag:Option Nat→Int
 |some i=>i
 |none=> -1
theorem fndK_at {k:Int} {s:ByteArray} {l:List It} {i:Nat} {x:It} (h:l[i]?=some x):aad k s i (l.drop i)=if eqS x.name s&&aaS k x.kind then(if x.kind=k then some i else none)else aad k s (i+1) (l.drop (i+1)):=by obtain⟨hk,rfl⟩:=List.getElem?_eq_some_iff.1 h;rw[List.drop_eq_getElem_cons hk,aad]
def KindOk (l:List It):Prop:=∀x∈l,x.kind=1∨x.kind=2∨x.kind=3∨x.kind=4
theorem aai (k:Int) (hk:k=1∨k=2∨k=4) (s:ByteArray) (P:Nat→Prop) (l:List It) (v:Value) (w:World) (h:jF nX w P l v) (hki:KindOk l):Calls Tryz.prog 30 #[v,.int .i64 k,.string s] w fun e w'=>e=.returned (.int .i64 (aag (aad k s 0 l)))∧w=w':=by
 have H:=ak h;have HK:=ak hki;have HKK:=ak hk;have hlen:=h.lenle;obtain⟨a,c,rfl⟩:=h.parts;clear h hki hk;go_enter Tryz.func30,Tryz.ntmps30;go_wp2_with fail;go_loopg [7] l.length (fun gg s7 wr=>∃i:Nat,s7=.int .i64 i∧i≤l.length∧l.length-i≤gg∧aad k s 0 l=aad k s i (l.drop i)∧wr=w);case atStart=>exact⟨0,rfl,Nat.zero_le _,by omega,rfl,rfl⟩
 case round=>
  obtain⟨i,rfl,hi,hgg,hfd,rfl⟩:=hrel;have HF:=ak hfd;clear hfd;by_cases hlt:i<l.length
  ·obtain⟨x,hx⟩:∃x,l[i]?=some x:=⟨l[i],List.getElem?_eq_getElem hlt⟩;obtain⟨g,o,c',cs,hva,hat,hcell⟩:=H.o.el aT hx;(obtain⟨rfl,rfl⟩:a=some ⟨g,o,none⟩∧c=c':=by cases hva;exact⟨rfl,rfl⟩);have HK4:=HK.o x (List.mem_of_getElem? hx);have HFA:=HF.o.trans (fndK_at hx);obtain⟨ct,vl,vt,vf,vw,vm,vb,rfl,-⟩:=hat;have f0:=hcell 0 _ rfl;rw[Nat.add_zero]at f0;have f1:=hcell 1 _ rfl;obtain⟨q,hq⟩:=aU x.kind;rw[←hq]at f0 HFA HK4;obtain⟨nm,hnm⟩:=aU x.name;rw[←hnm]at f1 HFA;have Ol:=ak HK4;have HFB:=ak HFA;clear hcell hva hx hq hnm HK4 HFA;cases hp:(nm.toList==s.toList)
   all_goals (
    have HP:=ak (vg hp)
    rcases HKK.o with rfl|rfl|rfl
    all_goals (
     rcases Ol.o with rfl|rfl|rfl|rfl
     all_goals (
      have he:=HFB.o
      rw[HP.o]at he
      have HE:=ak he
      clear he
      first
      |(go_wp2_with fail;go_ret;exact⟨v_ (congrArg aag HE.o).symm,rfl⟩)
      |(go_wp2_with fail;go_roundg (gk-1);(case rel=>exact⟨i+1,by go_num,hlt,by rw[←Nat.sub_sub];exact Nat.sub_le_sub_right hgg 1,HE.o,rfl⟩);(case measure=>omega)))))
  ·have HE:Hid (aad k s 0 l=none):=HF.o.trans (by rw[List.drop_eq_nil_of_le om];rfl);go_wp2_with fail;go_ret;exact⟨v_ (congrArg aag HE.o).symm,rfl⟩
section
variable {P : Program} {ops : Array Oper} {Q : Exit → Act → World → Prop} {md : Region.Mode} {S : World → Prop}
end
theorem Nj {x y:ByteArray} {b:Bool} (h:(y.toList==x.toList)=b):eqS x y=b:=by rw[aaL];exact vg h
theorem rin_any (P:Nat→Prop) (x:ByteArray) (l:List ByteArray) (v:Value) (w:World) (h:di w P v l.length (l.map .string)):Calls Tryz.prog 72 #[v,.string x] w fun e w'=>e=.returned (.bool (l.any (eqS x)))∧Step (fun _=>False) w w':=by
 obtain⟨a,c,rfl,hcl,hcm,-,hr⟩:=h;have HR:=ak hr;obtain⟨r,hrr⟩:=aU (l.any (eqS x));have HRR:=ak hrr;rw[←hrr];clear hr hrr;go_enter Tryz.func72,Tryz.ntmps72;go_wp2_with fail;go_loopg [5] l.length (fun gg s5 wr=>∃i:Nat,s5=.int .i64 i∧i≤l.length∧l.length-i≤gg∧(∀j,j<i→∀y,l[j]?=some y→eqS x y=false)∧Step (fun _=>False) w wr);case atStart=>exact⟨0,rfl,Nat.zero_le _,by omega,fun j hj=>absurd hj (Nat.not_lt_zero _),Step.refl _ _⟩
 case round=>
  obtain⟨i,rfl,hi,hgg,hno,hst⟩:=hrel;have eH:=ak hno;clear hno;by_cases hlt:i<l.length
  ·obtain⟨y,hx⟩:∃y,l[i]?=some y:=⟨l[i],List.getElem?_eq_getElem hlt⟩;obtain⟨g,o,rfl,-,-,hcell⟩:=HR.o om;have f0:=hst.cell (hcell i _ (qU l i y hx)) (fun h=>h);have HX:=ak hx;clear hcell hx;cases hp:(y.toList==x.toList)with
   |true=>(have HI:Hid (r=true):=by show _=_;rw[HRR.o];exact List.any_eq_true.2 ⟨y,List.mem_of_getElem? HX.o,Nj hp⟩);go_wp2_with fail;go_ret;exact⟨iJ HI.o.symm,hst⟩
   |false=>
    have HP:=ak (Nj hp);go_wp2_with fail;go_roundg (gk-1);case rel=>
     refine⟨i+1,by go_num,by omega,by omega,fun j hj y hy=> ?_,hst⟩;rcases Nat.lt_succ_iff_lt_or_eq.1 hj with h|rfl
     ·exact eH.o j h y hy
     ·rw[HX.o]at hy;cases hy;exact HP.o
    case measure=>omega
  ·(have HI:Hid (r=false):=by show _=_;rw[HRR.o,List.any_eq_false];intro y hy;obtain⟨j,hj⟩:=List.getElem?_of_mem hy;rw[eH.o j (by have:=(List.getElem?_eq_some_iff.1 hj).1;omega) y hj];decide);go_wp2;go_ret;exact⟨iJ HI.o.symm,hst⟩
def aaF (ls:List ByteArray) (x:ByteArray):Bool:=eqS x stat||ls.any (eqS x)
theorem aaQ (P:Nat→Prop) (x:ByteArray) (s:Sc) (us:Value) (w:World) (hs:Qo w P s us):Calls Tryz.prog 71 #[.string x,us] w fun e w'=>e=.returned (.bool (aaF s.aF x))∧Step (fun _=>False) w w':=by
 obtain⟨a1,c1,a2,c2,rfl,hs1,hs2⟩:=hs;obtain⟨w1,hw1⟩:=aU (w.alloc (.cells #[.slice a1 s.aF.length c1,.slice a2 s.types.length c2,dV s.ig] 73));have HST:Hid (Step (fun _=>False) w w1):=by show Step _ _ _;rw[hw1];exact bJ.alloc _
 have HB0:Hid (w1.heap[w.heap.size]?=some (.cells #[.slice a1 s.aF.length c1,.slice a2 s.types.length c2,dV s.ig] 73 (0,0))):=by show _=_;rw[hw1];exact aA _ _
 have HN:Hid (Calls Tryz.prog 72 #[.slice a1 s.aF.length c1,.string x] w1 fun e w'=>e=.returned (.bool (s.aF.any (eqS x)))∧Step (fun _=>False) w1 w'):=rin_any _ x _ _ _ (hs1.2.step HST.o (fun _ _ h=>h));have HW1:=ak hw1;have b0:=aj HB0.o 0 _ rfl;obtain⟨r,hr⟩:=aU (aaF s.aF x);have HR:=ak hr;rw[←hr];clear hr hw1 hs1 hs2;go_enter Tryz.func71,Tryz.ntmps71;go_upto_region 1 with fail
 rw[←HW1.o];cases hp:(x.toList==[39,115,116,97,116,105,99])with
 |true=>
  have HRT:Hid (r=true):=by show _=_;rw[HR.o];unfold aaF;rw[show eqS x stat=true from rH hp];rfl
  go_wp2_with fail;go_ret;exact⟨iJ HRT.o.symm,HST.o⟩
 |false=>
  have HRT:Hid (r=s.aF.any (eqS x)):=by show _=_;rw[HR.o];unfold aaF;rw[show eqS x stat=false from rH hp];rfl
  go_wp2_with fail;refine HN.o.mono ?_;rintro e w2 ⟨rfl,h2⟩;rw[←HRT.o];go_wp2_with fail;go_ret;exact⟨rfl,HST.o.trans h2⟩
structure FnJ (vals:List (Value×Bool)) (w:World) (L:Nat→Bool) (V:Nat→Value) (X:World):Prop where
 v:∀(i:Nat) u c,vals[i]?=some (u,c)→L i=true→V i=if c then u else undef
 st:Step (fun _=>False) w X
theorem FnJ.d {vals:List (Value×Bool)} {w X:World} {L:Nat→Bool} {V:Nat→Value} (h:FnJ vals w L V X) (i:Nat) (u:Value) (hv:vals[i]?=some (u,true)) (hL:L i=true):V i=u:=h.v i u true hv hL
theorem FnJ.zero {vals:List (Value×Bool)} {w X:World} {V:Nat→Value} (h:Step (fun _=>False) w X):FnJ vals w (fun _=>false) V X:=⟨(fun _ _ _ _ h=>nomatch h),h⟩
theorem FnJ.step {vals:List (Value×Bool)} {w X X':World} {L:Nat→Bool} {V:Nat→Value} (h:FnJ vals w L V X) (hs:Step (fun _=>False) X X'):FnJ vals w L V X':=⟨h.v,h.st.trans hs⟩
theorem FnJ.up {vals:List (Value×Bool)} {w X:World} {L:Nat→Bool} {V:Nat→Value} (h:FnJ vals w L V X) (i:Nat) (v:Value) (hv:∀u c,vals[i]?=some (u,c)→v=if c then u else undef):FnJ vals w (dP L i) (iW V i v) X:=by
 refine⟨fun j u c hu hL=> ?_,h.st⟩;unfold dP iW at*;by_cases e:j=i
 ·subst e;rw[if_pos rfl];exact hv u c hu
 ·rw[if_neg e]at hL⊢;exact h.v j u c hu hL
def oneD (ops:Array Oper) (is:List Nat) (k j0:Nat):Bool:=is.all fun i=>i==j0||fU ops i !=some k
theorem frF_yet {ops:Array Oper} {L:Nat→Bool} {V:Nat→Value} {k:Nat}:∀(is:List Nat) (a:Act),(∀j∈is,fU ops j=some k→L j=false)→(rC ops L V is a).eval (.tmp k)=a.eval (.tmp k)
 |[],_,_=>rfl
 |i::r,a,h=>by
  simp only[rC]
  rw[frF_yet r _ (fun j hj=>h j (List.mem_cons_of_mem _ hj))]
  split
  ·
   rename_i hL
   exact Act.eval_put (fun d hd e=>by cases e;rw[h i (List.mem_cons_self ..) hd]at hL;cases hL)
  ·
   rfl
section
variable {P : Program} {md : Region.Mode} {ops : Array Oper} {Q : Exit → Act → World → Prop} {a0 : Act} {n : Nat} {J : (Nat → Bool) → (Nat → Value) → World → Prop}
def aaK (P:Program) (md:Region.Mode) (ops:Array Oper) (Q:Exit→Act→World→Prop) (a0:Act) (n:Nat) (J:(Nat→Bool)→(Nat→Value)→World→Prop):Nat→List Oper→Prop
 |_,[]=>True
 |i,o::r=>(∀(L:Nat→Bool) (V:Nat→Value) (w:World) (a:Act),(∀j k,fU ops j=some k→L j=true→a.tmps[k]?.getD undef=V j)→(∀k,N9 ops (List.range n) k=true→a.tmps[k]?.getD undef=a0.tmps[k]?.getD undef)→(∀k j0,oneD ops (List.range n) k j0=true→L j0=false→a.tmps[k]?.getD undef=a0.tmps[k]?.getD undef)→
   L i=false→(∀j,(uO md o).contains j=true→L j=true)→J L V w→qG P Q J L V w a i o)∧aaK P md ops Q a0 n J (i+1) r
theorem aaK.get:∀(l:List Oper) (i k:Nat) (o:Oper),aaK P md ops Q a0 n J k l→l[i]?=some o→
  ∀(L:Nat→Bool) (V:Nat→Value) (w:World) (a:Act),(∀j k,fU ops j=some k→L j=true→a.tmps[k]?.getD undef=V j)→(∀k,N9 ops (List.range n) k=true→a.tmps[k]?.getD undef=a0.tmps[k]?.getD undef)→(∀k j0,oneD ops (List.range n) k j0=true→L j0=false→a.tmps[k]?.getD undef=a0.tmps[k]?.getD undef)→
   L (k+i)=false→(∀j,(uO md o).contains j=true→L j=true)→J L V w→qG P Q J L V w a (k+i) o
 |[],i,k,o,_,h=>by simp at h
 |x::r,0,k,o,hs,h=>by
  simp at h;subst h
  exact hs.1
 |x::r,i+1,k,o,hs,h=>by
  have:=aaK.get r i (k+1) o hs.2 (by simpa using h)
  rwa [Nat.add_assoc,Nat.add_comm 1 i]at this
theorem wpAny_relyH (hn:ops.size=n) (hd:xB ops (List.range n)=true) (hb:Fh md ops=true) (hr:Fj ops (List.range n) a0.tmps.size=true) (hg:gdD md ops=true) (hs:aaK P md ops Q a0 n J 0 ops.toList) (hdone:∀L V w,(∀i,i<n→L i=true)→J L V w→Q .normal (kC ops V (List.range n) a0) w):
  ∀(fuel:Nat) (listed:Array Bool) (L:Nat→Bool) (V:Nat→Value) (w:World),listed.size=n→(∀i,i<n→L i=listed.getD i true)→uP listed≤fuel→J L V w→
   wpAny P md ops Q fuel listed (rC ops L V (List.range n) a0) w:=by
 have hall:∀(listed:Array Bool) (L:Nat→Bool) (V:Nat→Value) (w:World),(∀i,i<n→L i=listed.getD i true)→(∀i,listed.getD i true=true)→J L V w→Q .normal (rC ops L V (List.range n) a0) w:=by
  intro listed L V w hL h hJ
  rw[BO _ _ (fun i hi=>by rw[hL i (List.mem_range.1 hi),h i])]
  exact hdone L V w (fun i hi=>by rw[hL i hi,h i]) hJ
 have hmono:∀(i:Nat) (o:Oper),ops[i]?=some o→∀e∈o.after,Region.binds md e=true→e.on<i:=by
  intro i o ho e he hbe
  have hi:i<ops.size:=(Array.getElem?_eq_some_iff.1 ho).1
  have h:=List.all_eq_true.1 hb i (List.mem_range.2 hi)
  simp only[ho]at h
  have h2:=Array.all_eq_true_iff_forall_mem.1 h e he
  simpa[hbe]using h2
 intro fuel
 induction fuel with
 |zero=>
  intro listed L V w hsz hL hc hJ
  have h0:=xC (Nat.le_zero.1 hc)
  refine⟨List.eq_nil_iff_forall_not_mem.2 (fun i hi=> ?_),hall listed L V w hL h0 hJ⟩
  have:=(mem_ready.1 hi).1
  rw[h0 i]at this;cases this
 |succ fuel ih=>
  intro listed L V w hsz hL hc hJ
  refine⟨fun hnil=> ?_,fun i hi=> ?_⟩
  ·
   refine hall listed L V w hL (fun i=> ?_) hJ
   induction i using Nat.strongRecOn with
   |ind i ihi=>
    cases hlt:listed.getD i true with
    |true=>rfl
    |false=>
     have hi:i<listed.size:=by
      rcases Nat.lt_or_ge i listed.size with h|h
      ·
       exact h
      ·
       rw[Array.getD_eq_getD_getElem?,Array.getElem?_eq_none h]at hlt;cases hlt
     have hmem:i∈Region.ready md ops listed:=by
      refine mem_ready.2 ⟨hlt,ops[i]' om,Array.getElem?_eq_getElem om,fun e he hbe=> ?_⟩
      have h1:=hmono i _ (Array.getElem?_eq_getElem om) e he hbe
      have h2:=ihi e.on h1
      rw[Array.getD_eq_getD_getElem?]at h2⊢
      rw[Array.getElem?_eq_getElem (show e.on<listed.size by omega)]at h2⊢
      simpa using h2
     rw[hnil]at hmem;cases hmem
  ·
   obtain⟨h1,o,ho,h2⟩:=mem_ready.1 hi
   have hin:i<n:=by rw[←hn];exact(Array.getElem?_eq_some_iff.1 ho).1
   have hLi:L i=false:=by rw[hL i hin];exact h1
   have hap:∀j,j∈List.range n→i≠j→∀d,fU ops j=some d→fU ops i≠some d:=fun j hj hne d h3=>nR hd hj (List.mem_range.2 hin) (Ne.symm hne) d h3
   have hev:∀j k,fU ops j=some k→L j=true→(rC ops L V (List.range n) a0).tmps[k]?.getD undef=V j∧k<a0.tmps.size:=(fun j k hjk YH=>by
     have hjn:j<n:=by
      rw[←hn]
      rcases Nat.lt_or_ge j ops.size with h|h
      ·
       exact h
      ·
       simp[fU,Array.getElem?_eq_none h]at hjk
     have hk:k<a0.tmps.size:=by
      have:=List.all_eq_true.1 hr j (List.mem_range.2 hjn)
      simp only[hjk]at this
      simpa using this
     rw[←bF]
     exact⟨yC hjk YH _ _ List.nodup_range (List.mem_range.2 hjn) (fun m hm hne=>nR hd (List.mem_range.2 hjn) hm hne k hjk) hk,hk⟩)
   have ax:∀j,(uO md o).contains j=true→L j=true:=(fun j hj=>by
     have hj':j∈uO md o:=by simpa using hj
     obtain⟨e,he,rfl⟩:=List.mem_map.1 hj'
     obtain⟨he1,he2⟩:=List.mem_filter.1 he
     have h3:=h2 e (by simpa using he1) he2
     have h4:=hmono i o ho e (by simpa using he1) he2
     rw[hL e.on om]
     rw[Array.getD_eq_getD_getElem?]at h3⊢
     rw[Array.getElem?_eq_getElem (show e.on<listed.size by omega)]at h3⊢
     simpa using h3)
   have hob:=aaK.get ops.toList i 0 o hs (by simpa using ho) L V w (rC ops L V (List.range n) a0) (fun j k h1 h2=>(hev j k h1 h2).1)
    (fun k hk=>by
     rw[←bF,←bF]
     exact yB _ _ (fun j hj e=>by
     have:=List.all_eq_true.1 hk j hj
     simp[e]at this))
    (fun k j0 hk hj0=>by
     rw[←bF,←bF]
     exact frF_yet _ _ (fun j hj e=>by
      have:=List.all_eq_true.1 hk j hj
      simp only[e,bne_self_eq_false,Bool.or_false,beq_iff_eq]at this
      rw[this];exact hj0))
    (by rw[Nat.zero_add];exact hLi)
    ax hJ
   rw[Nat.zero_add]at hob
   have hdst:o.dst=fU ops i:=by simp[fU,ho]
   have hnext:∀(v:Value) (w':World),J (dP L i) (iW V i v) w'→wpAny P md ops Q fuel (listed.setIfInBounds i true) ((rC ops L V (List.range n) a0).put o.dst v) w':=by
    intro v w' hJ'
    rw[hdst,yA hLi _ _ List.nodup_range (List.mem_range.2 hin) hap]
    refine ih (listed.setIfInBounds i true) _ _ w' (by simp[hsz]) (fun j hj=> ?_) (by have:=zM listed i h1;omega) hJ'
    unfold dP
    by_cases e:j=i
    ·
     subst e
     rw[if_pos rfl,Array.getD_eq_getD_getElem?,Array.getElem?_setIfInBounds_self_of_lt om];rfl
    ·
     rw[if_neg e,hL j hj,Array.getD_eq_getD_getElem?,Array.getD_eq_getD_getElem?,Array.getElem?_setIfInBounds_ne (Ne.symm e)]
   unfold wpOp
   simp only[ho]
   unfold qG at hob
   cases hgo:o.guard with
   |none=>
    rw[hgo]at hob
    have hw:Region.wanted o (yielded ops (rC ops L V (List.range n) a0).tmps)=true:=by simp[Region.wanted,hgo]
    rw[if_pos hw]
    refine .inl (Oper.wp_mono ?_ hob)
    rintro a' w' ⟨v,rfl,hJ'⟩
    exact hnext v w' hJ'
   |some gw=>
    obtain⟨j,want⟩:=gw
    rw[hgo]at hob
    have hgd:=List.all_eq_true.1 hg i (List.mem_range.2 om)
    simp only[ho,hgo,Bool.and_eq_true]at hgd
    have YH:=ax j hgd.1
    obtain⟨k,hk⟩:=Option.isSome_iff_exists.1 hgd.2
    obtain⟨hv,hks⟩:=hev j k hk YH
    have h3:(ops[j]?).bind (·.dst)=some k:=hk
    have h4:(rC ops L V (List.range n) a0).tmps[k]?=some (V j):=by
     have hsz2:k<(rC ops L V (List.range n) a0).tmps.size:=by rw[JR];exact hks
     rw[Array.getElem?_eq_getElem hsz2]at hv⊢
     rw[←hv];rfl
    have hyl:yielded ops (rC ops L V (List.range n) a0).tmps j=match V j with| .bool b=>some b|_=>none:=by
     unfold yielded
     rw[h3,Option.bind_some,h4]
     cases V j<;>rfl
    rcases hob with⟨hb,hob⟩|⟨hb,hJ'⟩
    ·
     have hw:Region.wanted o (yielded ops (rC ops L V (List.range n) a0).tmps)=true:=by simp[Region.wanted,hgo,hyl,hb]
     rw[if_pos hw]
     refine .inl (Oper.wp_mono ?_ hob)
     rintro a' w' ⟨v,rfl,hJ'⟩
     exact hnext v w' hJ'
    ·
     have hw:¬Region.wanted o (yielded ops (rC ops L V (List.range n) a0).tmps)=true:=by
       simp only[Region.wanted,hgo,hyl]
       intro h5
       refine hb ?_
       cases e:V j with
       |bool b=>
        rw[e]at h5
        have h6:some b=some want:=by simpa using h5
        cases h6
        rfl
       |_=>rw[e]at h5;simp at h5
     rw[if_neg hw]
     exact hnext undef w hJ'
theorem aaI {id:Nat} {w:World} (hm:P.follows .mixedOrders=true) (J:(Nat→Bool)→(Nat→Value)→World→Prop) (n:Nat) (hn:ops.size=n) (hd:xB ops (List.range n)=true) (hb:Fh .any ops=true) (hr:Fj ops (List.range n) a0.tmps.size=true) (hg:gdD .any ops=true) (h0:J (fun _=>false) (fun _=>undef) w.drew) (hs:aaK P .any ops Q a0 n J 0 ops.toList) (hdone:∀L V w,(∀i,i<n→L i=true)→J L V w→Q .normal (kC ops V (List.range n) a0) w):(Code.region id ops true).wp P Q a0 w:=by
 refine wp_region_any hm ?_;have h:=wpAny_relyH (P:=P) hn hd hb hr hg hs hdone ops.size (Array.replicate ops.size false) (fun _=>false) (fun _=>undef) w.drew (by simp[hn])
  (fun i hi=>by rw[Array.getD_eq_getD_getElem?,Array.getElem?_replicate,if_pos om];rfl) (by
   unfold uP
   simp only[Array.toList_replicate]
   exact Nat.le_trans List.countP_le_length (by simp)) h0
 rw[yD _ _ iI]at h;exact h
end
structure FnH (j i0:Nat) (vals:List (Value×Bool)) (w:World) (L:Nat→Bool) (V:Nat→Value) (X:World):Prop where
 b:FnJ vals w L V X
 ch:L j=true→L i0=true
theorem FnH.zero {j i0:Nat} {vals:List (Value×Bool)} {w X:World} {V:Nat→Value} (h:Step (fun _=>False) w X):FnH j i0 vals w (fun _=>false) V X:=⟨FnJ.zero h,fun h=>nomatch h⟩
theorem FnH.step {j i0:Nat} {vals:List (Value×Bool)} {w X X':World} {L:Nat→Bool} {V:Nat→Value} (h:FnH j i0 vals w L V X) (hs:Step (fun _=>False) X X'):FnH j i0 vals w L V X':=⟨h.b.step hs,h.ch⟩
theorem FnH.d {j i0:Nat} {vals:List (Value×Bool)} {w X:World} {L:Nat→Bool} {V:Nat→Value} (h:FnH j i0 vals w L V X) (i:Nat) (u:Value) (hv:vals[i]?=some (u,true)) (hL:L i=true):V i=u:=h.b.d i u hv hL
theorem FnH.st {j i0:Nat} {vals:List (Value×Bool)} {w X:World} {L:Nat→Bool} {V:Nat→Value} (h:FnH j i0 vals w L V X):Step (fun _=>False) w X:=h.b.st
theorem FnH.up {j i0:Nat} {vals:List (Value×Bool)} {w X:World} {L:Nat→Bool} {V:Nat→Value} (h:FnH j i0 vals w L V X) (i:Nat) (v:Value) (hv:∀u c,vals[i]?=some (u,c)→v=if c then u else undef) (hc:i≠j∨L i0=true):FnH j i0 vals w (dP L i) (iW V i v) X:=by
 refine⟨h.b.up i v hv,fun hL=> ?_⟩;unfold dP at*;by_cases e:i0=i
 ·rw[if_pos e]
 ·rw[if_neg e];rcases hc with hc|hc
  ·rw[if_neg (Ne.symm hc)]at hL;exact h.ch hL
  ·exact hc
theorem FnH.no {j i0:Nat} {vals:List (Value×Bool)} {w X:World} {L:Nat→Bool} {V:Nat→Value} (h:FnH j i0 vals w L V X) (hL:L i0=false):L j=false:=by
 cases e:L j with
 |false=>rfl
 |true=>rw[h.ch e]at hL;cases hL
end Go.Proofs.YtppekkbaoimpgaaGreat
