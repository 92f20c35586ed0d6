import Derived.Test.YtggjfinekcenpaaGreatPkN
import Derived.ProofKit
set_option maxRecDepth 100000
set_option maxHeartbeats 80000000
namespace Go.Proofs.YtggjfinekcenpaaGreat
open Go.RowKit
open Vt
mutual
def DU:Ty→Nat
 | .mk _ _ _ _ ls ar _ _=>1+ls.length+sJ ar
def sJ:List Ty→Nat
 |[]=>0
 |t::r=>DU t+sJ r
end
mutual
def DV:Ex→Nat
 | .mk _ _ _ _ ar ns bo _ _=>1+ns.length+kT ar+oP bo
def kT:List Ex→Nat
 |[]=>0
 |t::r=>DV t+kT r
def stM:St→Nat
 | .mk _ _ ty pl e bo el _ _ _=>DU ty+kT pl+kT e+oP bo+oP el
def oP:List St→Nat
 |[]=>0
 |t::r=>stM t+oP r
end
theorem QD:∀t,0<DU t
 | .mk _ _ _ _ _ _ _ _=>by rw[DU];omega
theorem aad:∀t,0<DV t
 | .mk _ _ _ _ _ _ _ _ _=>by rw[DV];omega
theorem aae:∀t,0<stM t
 | .mk _ _ ty _ _ _ _ _ _ _=>by rw[stM];have:=QD ty;omega
theorem MI:∀{l:List Ty} {t:Ty},t∈l→DU t≤sJ l
 |a::r,t,h=>by
  rw[sJ]
  rcases List.mem_cons.1 h with rfl|h
  ·
   omega
  ·
   have:=MI h;omega
theorem MJ:∀l:List Ty,l.length≤sJ l
 |[]=>Nat.zero_le _
 |a::r=>by rw[sJ,List.length_cons];have:=QD a;have:=MJ r;omega
theorem sK:∀{l:List Ex} {t:Ex},t∈l→DV t≤kT l
 |a::r,t,h=>by
  rw[kT]
  rcases List.mem_cons.1 h with rfl|h
  ·
   omega
  ·
   have:=sK h;omega
theorem sN:∀l:List Ex,l.length≤kT l
 |[]=>Nat.zero_le _
 |a::r=>by rw[kT,List.length_cons];have:=aad a;have:=sN r;omega
theorem Fe:∀{l:List St} {t:St},t∈l→stM t≤oP l
 |a::r,t,h=>by
  rw[oP]
  rcases List.mem_cons.1 h with rfl|h
  ·
   omega
  ·
   have:=Fe h;omega
theorem Ff:∀l:List St,l.length≤oP l
 |[]=>Nat.zero_le _
 |a::r=>by rw[oP,List.length_cons];have:=aae a;have:=Ff r;omega
def exV:Ex→Int
 | .mk _ _ v _ _ _ _ _ _=>v
def VB (x:Ex):Prop:=1≤x.kind∧x.kind≤18∧0≤exV x∧exV x<18446744073709551616∧(x.kind=1→exV x<9223372036854775808)
theorem TL {v d:Nat} (h:0<v) (hd:d<10):pM (v*10+d)=pM v++[UInt8.ofNat (d+48)]:=by rw[pM,if_neg om,show(v*10+d)/10=v by omega,show(v*10+d)%10=d by omega]
theorem aaf (n:Nat):pM n≠[]:=by
 rw[pM];split
 ·simp
 ·simp
theorem zo {c:UInt8} (h:isDigit c.toNat=true):c.toNat-48<10∧UInt8.ofNat (c.toNat-48+48)=c:=by
 simp only[isDigit,Bool.and_eq_true,decide_eq_true_eq]at h;have h1:48≤c.toNat∧c.toNat≤57:=by omega
 refine⟨by omega,?_⟩;rw[show c.toNat-48+48=c.toNat by omega,UInt8.ofNat_toNat]
theorem MK:∀(r p:List UInt8) (c0:UInt8) (v n:Nat),p=pM v→p.head?=some c0→uh c0 r p.length v=.ok n→pM n=p++r
 |[],p,c0,v,n,hp,_,h=>by
  rw[uh]at h;cases h;simp[hp]
 |c::r,p,c0,v,n,hp,h0,h=>by
  rw[uh]at h
  split at h
  ·
   cases h
  ·
   rename_i h1
   split at h
   ·
    cases h
   ·
    have hd:isDigit c.toNat=true:=by
      cases e:isDigit c.toNat
      ·
       exact absurd (.inl e) h1
      ·
       rfl
    obtain⟨hd1,hd2⟩:=zo hd
    have hv:0<v:=by
     rcases Nat.eq_zero_or_pos v with e|e
     ·
      subst e
      have e2:pM 0=[48]:=by rw[Jy dc];rfl
      rw[hp,e2]at h0
      refine absurd (.inr ⟨by rw[hp,e2];rfl,?_⟩) h1
      simpa using h0.symm
     ·
      exact e
    have h2:=MK r (p++[c]) c0 _ n (by rw[TL hv hd1,hd2,hp]) (by
     cases p with
     |nil=>exact absurd hp.symm (aaf v)
     |cons a q=>exact h0) (by rw[List.length_append];exact h)
    rw[h2];simp
theorem TM {c:UInt8} {r:List UInt8} {n:Nat} (h:uh c (c::r) 0 0=.ok n):pM n=c::r:=by
 rw[uh]at h;split at h
 ·cases h
 ·rename_i h1;split at h
  ·cases h
  ·have hd:isDigit c.toNat=true:=by
    cases e:isDigit c.toNat
    ·exact absurd (.inl e) h1
    ·rfl
   obtain⟨hd1,hd2⟩:=zo hd;rw[show 0*10+(c.toNat-48)=c.toNat-48 by omega]at h;exact MK r [c] c _ n (by rw[Jy hd1,hd2]) rfl h
theorem QF {c:UInt8} {x:Nat} (h:Gi c=some x):x<16∧yA x=c:=by
 unfold Gi at h;split at h
 ·rename_i hd;obtain⟨h1,h2⟩:=zo hd;cases h;exact⟨by omega,by rw[yA,if_pos h1,h2]⟩
 ·split at h
  ·rename_i h1;cases h;refine⟨by omega,?_⟩;rw[yA,if_neg om,show c.toNat-87+87=c.toNat by omega,UInt8.ofNat_toNat]
  ·cases h
theorem Fg:∀(r s:List UInt8) (a v:Nat),hexL s.length a=s→qp a r=some v→hexL (s.length+r.length) v=s++r
 |[],s,a,v,hs,h=>by
  rw[qp]at h;cases h;simpa using hs
 |c::r,s,a,v,hs,h=>by
  rw[qp]at h
  split at h
  ·
   rename_i x hx
   obtain⟨h1,h2⟩:=QF hx
   have h3:=Fg r (s++[c]) (a*16+x) v (by
    rw[List.length_append]
    show hexL (s.length+1) _=_
    rw[hexL,show(a*16+x)/16=a by omega,show(a*16+x)%16=x by omega,hs,h2]) h
   rw[show s.length+(c::r).length=(s++[c]).length+r.length by simp;omega,h3];simp
  ·
   cases h
theorem ML {r:List UInt8} {v:Nat} (h:qp 0 r=some v):hexL r.length v=r:=by simpa using Fg r [] 0 v rfl h
def Xe (k v:Nat):List UInt8:=if k=4 then[48,102]++hexL 16 v else pM v
theorem TN {l:List UInt8} {k n v:Nat} (hl:l≠[]) (h:Gj l=.ok (k,n,v)):Xe k v=l∧n=l.length∧(k=3∨k=4):=by
 unfold Gj at h;split at h
 ·rename_i h1;split at h
  ·rename_i v2 h2;cases h;refine⟨?_,rfl,.inr rfl⟩;rw[Xe,if_pos rfl];have h3:=ML h2;rw[show(l.drop 2).length=16 by simp;omega]at h3;rw[h3,←h1.2,List.take_append_drop]
  ·cases h
 ·split at h
  ·rename_i v2 h2;cases h;refine⟨?_,rfl,.inl rfl⟩;rw[Xe,if_neg dc];cases l with
   |nil=>exact absurd rfl hl
   |cons c r=>exact TM h2
  ·cases h
theorem QG {c0:UInt8}:∀(r:List UInt8) (i v n:Nat),v≤9223372036854775807→uh c0 r i v=.ok n→n≤9223372036854775807
 |[],i,v,n,hv,h=>by rw[uh]at h;cases h;exact hv
 |c::r,i,v,n,hv,h=>by
  rw[uh]at h
  split at h
  ·
   cases h
  ·
   split at h
   ·
    cases h
   ·
    exact QG r _ _ n om h
theorem Ih:∀(r:List UInt8) (a v:Nat),qp a r=some v→v<(a+1)*16^r.length
 |[],a,v,h=>by rw[qp]at h;cases h;simp
 |c::r,a,v,h=>by
  rw[qp]at h
  split at h
  ·
   rename_i x hx
   have h1:=(QF hx).1
   have h2:=Ih r _ v h
   rw[List.length_cons,Nat.pow_succ]
   refine Nat.lt_of_lt_of_le h2 ?_
   have h3:a*16+x+1≤(a+1)*16:=by omega
   calc (a*16+x+1)*16^r.length≤((a+1)*16)*16^r.length:=Nat.mul_le_mul_right _ h3
    _=(a+1)*(16^r.length*16):=by rw[Nat.mul_assoc,Nat.mul_comm 16]
  ·
   cases h
def GV (t:Tok):Prop:=(t.kind=3→pM t.val=t.text∧t.val<9223372036854775808)∧(t.kind=4→[48,102]++hexL 16 t.val=t.text∧t.val<18446744073709551616)
theorem aag {l:List UInt8} {k n v:Nat} (h:Gj l=.ok (k,n,v)):(k=3→v<9223372036854775808)∧(k=4→v<18446744073709551616):=by
 unfold Gj at h;split at h
 ·rename_i h1;split at h
  ·rename_i v2 h2;cases h;refine⟨fun e=>absurd e dc,fun _=> ?_⟩;have h3:=Ih _ _ _ h2;rw[show(l.drop 2).length=16 by simp;omega]at h3;simpa using h3
  ·cases h
 ·split at h
  ·rename_i v2 h2;cases h;refine⟨fun _=> ?_,fun e=>absurd e dc⟩;have:=QG _ _ _ _ dc h2;omega
  ·cases h
theorem Xf {r:List UInt8} {kind n val:Nat} (ln col:Nat) (h:jL r=.ok (kind,n,val)):GV ⟨kind,r.take n,ln,col,val⟩:=by
 cases r with
 |nil=>simp[jL]at h
 |cons c r=>
  rw[jL]at h;split at h
  ·unfold yD at h;split at h
   ·cases h
   ·cases h;exact⟨fun e=>absurd e (show¬(1:Nat)=3 by decide),fun e=>absurd e (show¬(1:Nat)=4 by decide)⟩
  ·split at h
   ·rw[yE]at h;split at h
    ·cases h
    ·split at h
     ·cases h
     ·cases h;exact⟨fun e=>absurd e (show¬(2:Nat)=3 by decide),fun e=>absurd e (show¬(2:Nat)=4 by decide)⟩
   ·split at h
    ·rename_i hd;unfold o_ at h;have hpos:0<jg (c::r):=Ey (by simp[lH,hd]);have hle:=mY (c::r);(have hne:(c::r).take (jg (c::r))≠[]:=by intro e;have h2:=congrArg List.length e;rw[List.length_take]at h2;simp only[List.length_nil]at h2;omega);obtain⟨h1,h2,h3⟩:=TN hne h;have h4:=aag h;(have h5:(c::r).take n=(c::r).take (jg (c::r)):=by rw[h2,List.length_take,Nat.min_eq_left hle]);refine⟨fun e=> ?_,fun e=> ?_⟩
     ·have e:kind=3:=e;rw[Xe,if_neg om]at h1;exact⟨h1.trans h5.symm,h4.1 e⟩
     ·have e:kind=4:=e;rw[Xe,if_pos e]at h1;exact⟨h1.trans h5.symm,h4.2 e⟩
    ·have hk:kind=5:=by
      unfold lg at h
      repeat' split at h
      (all_goals cases h);all_goals rfl
     exact⟨fun e=>by have e:kind=3:=e;omega,fun e=>by have e:kind=4:=e;omega⟩
theorem QH:∀(k:Nat) (r:List UInt8) (p l f:Nat) (acc ts:List Tok),(∀t∈acc,GV t)→uG k r p l f acc=.ok ts→∀t∈ts,GV t
 |0,r,p,l,f,acc,ts,_,h=>by rw[uG]at h;cases h
 |k+1,r,p,l,f,acc,ts,ha,h=>by
  rw[uG]at h
  split at h
  ·
   cases h
   intro t ht
   rcases List.mem_append.1 ht with ht|ht
   ·
    exact ha t ht
   ·
    rw[List.mem_singleton]at ht;subst ht
    exact⟨fun e=>absurd e (show¬(0:Nat)=3 by decide),fun e=>absurd e (show¬(0:Nat)=4 by decide)⟩
  ·
   split at h
   ·
    cases h
   ·
    split at h
    ·
     cases h
    ·
     rename_i kind n val hn
     refine QH k _ _ _ _ _ ts (fun t ht=> ?_) h
     rcases List.mem_append.1 ht with ht|ht
     ·
      exact ha t ht
     ·
      rw[List.mem_singleton]at ht;subst ht
      exact Xf _ _ hn
theorem DW {s:List UInt8} {ts:List Tok} (h:ng s=.ok ts):∀t∈ts,GV t:=by
 unfold ng at h;split at h
 ·cases h
 ·exact QH _ _ _ _ _ [] ts oQ h
def exLn:Ex→Int
 | .mk _ _ _ _ _ _ _ l _=>l
def exCl:Ex→Int
 | .mk _ _ _ _ _ _ _ _ c=>c
def OY (x:Ex) (t:Tok):Prop:=if x.kind=14 then x.name=mG t.text else if x.kind=6∨x.kind=13 then t.text=[46]else(dK x).head?=some (mG t.text)
def Pd (l:List Tok) (x:Ex):Prop:=VB x∧∃t∈l,exLn x=t.line∧exCl x=t.col∧OY x t
def aF {α:Type} (Q:α→Nat→Prop) (r:dB α):Prop:=∀a j,r=.ok a j→Q a j
theorem aF.bind {α β:Type} {Q:α→Nat→Prop} {Q2:β→Nat→Prop} {r:dB α} {f:α→Nat→dB β} (h:aF Q r) (hf:∀a j,Q a j→aF Q2 (f a j)):aF Q2 (r.bind f):=by
 intro b k e;cases r with
 |ok a j=>exact hf a j (h a j rfl) b k e
 |err=>cases e
 |out=>cases e
theorem aF.ok {α:Type} {Q:α→Nat→Prop} {a:α} {j:Nat} (h:Q a j):aF Q (.ok a j):=by intro b k e;cases e;exact h
theorem aF.fail {α:Type} {Q:α→Nat→Prop} {c:Nat} {l:List Tok} {i:Nat}:aF Q (gW c l i):=by intro b k e;cases e
theorem aF.out {α:Type} {Q:α→Nat→Prop}:aF Q (.out:dB α):=by intro b k e;cases e
theorem aF.weak {α:Type} {Q Q2:α→Nat→Prop} {r:dB α} (h:aF Q r) (hq:∀a j,Q a j→Q2 a j):aF Q2 r:=fun a j e=>hq a j (h a j e)
theorem Ii:∀(l:List Ty) (t:Ty),sJ (l++[t])=sJ l+DU t
 |[],t=>by rw[List.nil_append,sJ,sJ,sJ];omega
 |x::r,t=>by rw[List.cons_append,sJ,sJ,Ii r t];omega
theorem vg:∀(l:List Ex) (t:Ex),kT (l++[t])=kT l+DV t
 |[],t=>by rw[List.nil_append,kT,kT,kT];omega
 |x::r,t=>by rw[List.cons_append,kT,kT,vg r t];omega
theorem Ij:∀(l:List St) (t:St),oP (l++[t])=oP l+stM t
 |[],t=>by rw[List.nil_append,oP,oP,oP];omega
 |x::r,t=>by rw[List.cons_append,oP,oP,Ij r t];omega
theorem jH (x:Ex):kT [x]=DV x:=by rw[kT,kT];rfl
theorem gU:kT []=0:=by rw[kT]
theorem eP:oP []=0:=by rw[oP]
theorem pR:DU dU=1:=by rw[dU,DU,sJ];rfl
section
variable {l : List Tok}
theorem xU {i:Nat} {s:List UInt8} (h:bH l i s=true):(tokA l i).text=s:=by unfold bH uJ at h;simp only[Bool.and_eq_true,beq_iff_eq]at h;exact h.1
theorem QI {i:Nat} (h:tokA l i≠Ql):i<l.length:=by
 rcases Nat.lt_or_ge i l.length with h1|h1
 ·exact h1
 ·exact absurd (by unfold tokA;rw[List.getD_eq_getElem?_getD,List.getElem?_eq_none h1];rfl) h
theorem zq {i:Nat} (h:(tokA l i).kind≠0):tokA l i∈l:=by have h1:=QI (fun e=>h (by rw[e];rfl));unfold tokA;rw[List.getD_eq_getElem?_getD,List.getElem?_eq_getElem h1];exact List.getElem_mem h1
theorem Fh {i:Nat} {s:List UInt8} (h:bH l i s=true):tokA l i∈l:=zq (rO h)
theorem QJ {i:Nat} (h:rP (tokA l i)=true):(tokA l i).kind=1:=by unfold rP at h;simp only[Bool.and_eq_true,beq_iff_eq]at h;exact h.1
variable (hl : pF l)
include hl
theorem Ik {i:Nat} (h:(tokA l i).kind≠0):i+1<l.length:=by have h1:=QI (fun e=>h (by rw[e];rfl));refine hl.next i (tokA l i) ?_ h;unfold tokA;rw[List.getD_eq_getElem?_getD,List.getElem?_eq_getElem h1];rfl
theorem is_lt {i:Nat} {s:List UInt8} (h:bH l i s=true):i+1<l.length:=Ik hl (rO h)
theorem lY {i:Nat} {s:List UInt8}:aF (fun _ j=>j=i+1∧j<l.length) (aI l i s):=by
 intro a j e;unfold aI at e;split at e
 ·rename_i h;cases e;exact⟨rfl,is_lt hl h⟩
 ·cases e
theorem vX {i:Nat}:aF (fun n j=>j=i+1∧j<l.length∧n=mG (tokA l i).text∧tokA l i∈l) (bI l i):=by
 intro a j e;unfold bI at e;split at e
 ·rename_i h;have h1:(tokA l i).kind≠0:=by rw[QJ h];decide
  cases e;exact⟨rfl,Ik hl h1,rfl,zq h1⟩
 ·cases e
theorem Xg {i:Nat}:aF (fun _ j=>j=i+1∧j<l.length) (jh l i):=by
 intro a j e;unfold jh at e;split at e
 ·rename_i h;cases e;exact⟨rfl,Ik hl om⟩
 ·cases e
omit hl in
theorem JI {n m i:Nat}:aF (fun _ j=>j=i∧n<m) (eH n m l i):=by
 intro a j e;unfold eH at e;split at e
 ·cases e
 ·cases e;exact⟨rfl,by omega⟩
omit hl in
theorem zu {k:Int} {n lf:ByteArray} {b:Bool} {ln cl:Int} {i j:Nat} (h:i+1≤j) (h2:j<l.length):aF (fun t j=>i+DU t≤j∧j<l.length) (.ok (.mk k n lf b [] [] ln cl) j):=
 aF.ok ⟨by rw[DU,sJ];simpa using h,h2⟩
omit hl in
theorem one_j {k:Int} {n lf:ByteArray} {b:Bool} {ln cl:Int} {a:Ty} {i j:Nat} (h:i+1+DU a≤j) (h2:j<l.length):aF (fun t j=>i+DU t≤j∧j<l.length) (.ok (.mk k n lf b [] [a] ln cl) j):=
 aF.ok ⟨by rw[DU,sJ,sJ];simp;omega,h2⟩
theorem Xh:∀f,(∀i d,aF (fun t j=>i+DU t≤j∧j<l.length) (iZ f l i d))∧(∀i d ls ts,aF (fun p j=>i+(p.1.length+sJ p.2)≤j+(ls.length+sJ ts)∧j<l.length) (kz f l i d ls ts)):=by
 intro f;induction f with
 |zero=>exact⟨(fun i d a j e=>by rw[iZ]at e;cases e),(fun i d ls ts a j e=>by rw[kz]at e;cases e)⟩
 |succ f ih=>
  obtain⟨KH,iha⟩:=ih;constructor
  ·intro i d;rw[iZ];split
   ·exact aF.fail
   split
   ·rename_i h;exact zu (Nat.le_refl _) (is_lt hl h)
   split
   ·rename_i h;exact zu (Nat.le_refl _) (is_lt hl h)
   split
   ·rename_i h;exact zu (Nat.le_refl _) (is_lt hl h)
   split
   ·refine(lY hl).bind ?_;rintro _ j ⟨rfl,h2⟩;exact zu om h2
   split
   ·refine(lY hl).bind ?_;rintro _ j ⟨rfl,h2⟩;refine(KH _ _).bind ?_;rintro a j ⟨h3,h4⟩;refine(lY hl).bind ?_;rintro _ j ⟨rfl,h6⟩;exact one_j om h6
   split
   ·refine(KH _ _).bind ?_;rintro a j ⟨h3,h4⟩;refine one_j ?_ h4;(have h6:i+1≤iw l (ny l (i+1)) [109,117,116]:=by unfold iw ny;split<;>split<;>omega);omega
   split
   ·refine(vX hl).bind ?_;rintro n j ⟨rfl,h2,-,-⟩;split
    ·refine(Xg hl).bind ?_;rintro n j ⟨rfl,h2⟩;exact zu om h2
    ·exact zu om h2
   ·refine(vX hl).bind ?_;rintro n j ⟨rfl,h2,-,-⟩;split
    ·refine(iha _ _ [] []).bind ?_;rintro p j ⟨h5,h6⟩;refine aF.ok ⟨?_,h6⟩;rw[DU];simp[sJ]at h5;omega
    ·exact zu om h2
  ·intro i d ls ts;rw[kz];refine(JI).bind ?_;rintro _ i ⟨rfl,hr⟩;refine aF.bind (Q:=fun p j=>i+(p.1.length+sJ p.2)≤j+(ls.length+sJ ts)∧j<l.length) ?_ ?_
   ·split
    ·refine(Xg hl).bind ?_;rintro x j ⟨rfl,h2⟩;exact aF.ok ⟨by simp;omega,h2⟩
    ·refine(KH _ _).bind ?_;rintro x j ⟨h3,h4⟩;exact aF.ok ⟨by show _+(ls.length+sJ (ts++[x]))≤_;rw[Ii];omega,h4⟩
   ·rintro p j ⟨h3,h4⟩;split
    ·intro q k e;obtain⟨h7,h8⟩:=iha (j+1) d p.1 p.2 q k e;exact⟨by omega,h8⟩
    ·refine(lY hl).bind ?_;rintro _ j ⟨rfl,h6⟩;exact aF.ok ⟨by omega,h6⟩
theorem Xi:∀f i ns,aF (fun p j=>i+p.length≤j+ns.length∧j<l.length) (jM f l i ns)
 |0,i,ns=>by rw[jM];exact aF.out
 |f+1,i,ns=>by
  rw[jM]
  refine(JI).bind ?_
  rintro _ i ⟨rfl,hr⟩
  refine(vX hl).bind ?_
  rintro n j ⟨rfl,h2,-,-⟩
  split
  ·
   refine(Xi f _ _).weak ?_
   rintro p j ⟨h3,h4⟩
   simp at h3
   exact⟨by omega,h4⟩
  ·
   refine(lY hl).bind ?_
   rintro _ j ⟨rfl,h6⟩
   exact aF.ok ⟨by simp;omega,h6⟩
end
abbrev AP (l:List Tok):=Dy (Pd l)
def QE (l:List Tok) (i:Nat) (x:Ex) (j:Nat):Prop:=i+DV x≤j∧j<l.length∧AP l x
structure Lp (l:List Tok) (f:Nat):Prop where
 level:∀i d n,aF (QE l i) (a_ f l i d n)
 row:∀i0 i d n x,i0+DV x≤i→i<l.length→AP l x→aF (QE l i0) (qN f l i d n x)
 unary:∀i d,aF (QE l i) (gm f l i d)
 post:∀i d,aF (QE l i) (mJ f l i d)
 dots:∀i0 i d x,i0+DV x≤i→i<l.length→AP l x→aF (QE l i0) (jV f l i d x)
 list:∀i d,aF (fun al j=>i+kT al<j∧j<l.length∧dP (Pd l) al) (jE f l i d)
 more:∀i d acc,dP (Pd l) acc→aF (fun al j=>i+kT al<j+kT acc∧j<l.length∧dP (Pd l) al) (kY f l i d acc)
 one:∀i d,aF (QE l i) (nG f l i d)
 made:∀i d ns al,dP (Pd l) al→aF (fun p j=>i+(p.1.length+kT p.2)≤j+(ns.length+kT al)∧j<l.length∧dP (Pd l) p.2) (jF f l i d ns al)
 Js:∀i d,aF (QE l i) (kR f l i d)
 block:∀i d,aF (fun b j=>i+oP b<j∧j<l.length∧iE (Pd l) b) (bM f l i d)
 stmts:∀i d acc,iE (Pd l) acc→aF (fun b j=>i+oP b<j+oP acc∧j<l.length∧iE (Pd l) b) (jC f l i d acc)
 OM:∀i d,aF (fun p j=>i+(DU p.2.1+kT p.2.2)≤j∧j<l.length∧dP (Pd l) p.2.2) (rD f l i d)
 OO:∀i d,aF (fun p j=>i+(kT p.1+DV p.2)<j∧j<l.length∧dP (Pd l) p.1∧AP l p.2) (rE f l i d)
 stmt:∀i d,aF (fun s j=>i+stM s≤j∧j<l.length∧Fb (Pd l) s) (lq f l i d)
section
variable {l : List Tok} (hl : pF l) (htk : ∀ t ∈ l, GV t)
theorem CX {k:Int} {nm:ByteArray} {v:Int} {m:Bool} {al:List Ex} {ns:List ByteArray} {bs:List St} {t:Tok} (hm:t∈l) (hv:VB (aZ k nm v m al ns bs t)) (hh:OY (aZ k nm v m al ns bs t) t) (h2:dP (Pd l) al) (h3:iE (Pd l) bs):AP l (aZ k nm v m al ns bs t):=by have h1:Pd l (aZ k nm v m al ns bs t):=⟨hv,t,hm,rfl,rfl,hh⟩;rw[aZ]at h1⊢;unfold AP;rw[Dy];exact⟨h1,h2,h3⟩
theorem vb0 {k:Int} {nm:ByteArray} {m:Bool} {al:List Ex} {ns:List ByteArray} {bs:List St} {t:Tok} (h:1≤k) (h2:k≤18):VB (aZ k nm 0 m al ns bs t):=⟨h,h2,Int.le_refl 0,by show(0:Int)<_;decide,fun _=>by show(0:Int)<_;decide⟩
theorem MN {x:Ex} {t:Tok} (h1:x.kind≠14) (h2:x.kind≠6) (h3:x.kind≠13) (h:(dK x).head?=some (mG t.text)):OY x t:=by unfold OY;rw[if_neg h1,if_neg om];exact h
theorem vY {k:Int} {nm:ByteArray} {v:Int} {m:Bool} {al:List Ex} {ns:List ByteArray} {bs:List St} {t:Tok}:DV (aZ k nm v m al ns bs t)=1+ns.length+kT al+oP bs:=by rw[aZ,DV]
end
section
variable {l : List Tok} (hl : pF l) (htk : ∀ t ∈ l, GV t)
theorem hdF {x:Ex} {i:Nat} {s:List UInt8} (h:bH l i s=true) (h1:x.kind≠14) (h2:x.kind≠6) (h3:x.kind≠13) (hp:(dK x).head?=some (mG s)):OY x (tokA l i):=MN h1 h2 h3 (by rw[xU h];exact hp)
theorem dP.nl:dP (Pd l) []:=dP.nil _
theorem iE.nl:iE (Pd l) []:=iE.nil _
theorem tX {k:Int} {nm:ByteArray} {m:Bool} {al:List Ex} {ns:List ByteArray} {bs:List St} {i i0 j:Nat} {s:List UInt8} (h:bH l i s=true) (hk:1≤k∧k≤18) (h1:k≠14) (h2:k≠6) (h3:k≠13) (hp:(dK (aZ k nm 0 m al ns bs (tokA l i))).head?=some (mG s)) (hm:i0+(1+ns.length+kT al+oP bs)≤j) (hj:j<l.length) (ha:dP (Pd l) al) (hb:iE (Pd l) bs):aF (QE l i0) (.ok (aZ k nm 0 m al ns bs (tokA l i)) j):=
 aF.ok ⟨by rw[vY];exact hm,hj,CX (Fh h) (vb0 hk.1 hk.2) (hdF h h1 h2 h3 hp) ha hb⟩
include hl htk
theorem aah (f:Nat) (h:Lp l f) (i d:Nat):aF (QE l i) (kR (f+1) l i d):=by
 rw[kR];have N:dP (Pd l) []:=dP.nl;have S:iE (Pd l) []:=iE.nl;by_cases h1:(tokA l i).kind=3
 ·rw[if_pos h1];have h0:(tokA l i).kind≠0:=by omega
  have hm:=zq h0;have hlt:=Ik hl h0;obtain⟨h2,h3⟩:=(htk _ hm).1 h1;refine aF.ok ⟨by rw[vY,gU,eP];exact Nat.le_refl _,hlt,CX hm ⟨by show(1:Int)≤1;decide,by show(1:Int)≤18;decide,by show(0:Int)≤((tokA l i).val:Int);omega,by show((tokA l i).val:Int)<_;omega,fun _=>by show((tokA l i).val:Int)<_;omega⟩ (MN (by show(1:Int)≠14;decide) (by show(1:Int)≠6;decide) (by show(1:Int)≠13;decide) ?_) N S⟩;rw[aZ,dK];show some (sB (pM (tokA l i).val))=_;rw[h2];rfl
 rw[if_neg h1];clear h1;by_cases h1:(tokA l i).kind=4
 ·rw[if_pos h1];have h0:(tokA l i).kind≠0:=by omega
  have hm:=zq h0;have hlt:=Ik hl h0;obtain⟨h2,h3⟩:=(htk _ hm).2 h1;refine aF.ok ⟨by rw[vY,gU,eP];exact Nat.le_refl _,hlt,CX hm ⟨by show(1:Int)≤3;decide,by show(3:Int)≤18;decide,by show(0:Int)≤((tokA l i).val:Int);omega,by show((tokA l i).val:Int)<_;omega,fun e=>absurd e (by show¬(3:Int)=1;decide)⟩ (MN (by show(3:Int)≠14;decide) (by show(3:Int)≠6;decide) (by show(3:Int)≠13;decide) ?_) N S⟩;rw[aZ,dK];show some (sB [48,102]++sB (hexL 16 (tokA l i).val))=_;rw[←WN,h2];rfl
 rw[if_neg h1];clear h1;by_cases h1:bH l i [116,114,117,101]=true
 ·rw[if_pos h1];refine aF.ok ⟨by rw[vY,gU,eP];exact Nat.le_refl _,is_lt hl h1,CX (Fh h1) ⟨by show(1:Int)≤2;decide,by show(2:Int)≤18;decide,by show(0:Int)≤1;decide,by show(1:Int)<_;decide,fun _=>by show(1:Int)<_;decide⟩ (hdF h1 (by show(2:Int)≠14;decide) (by show(2:Int)≠6;decide) (by show(2:Int)≠13;decide) ?_) N S⟩;rw[aZ,dK];rfl
 rw[if_neg h1];clear h1;by_cases h1:bH l i [102,97,108,115,101]=true
 ·rw[if_pos h1];exact tX h1 dc dc dc dc (by rw[aZ,dK];rfl) (by rw[gU,eP];exact Nat.le_refl _) (is_lt hl h1) N S
 rw[if_neg h1];clear h1;by_cases h1:bH l i [99,104,111,111,115,101]=true
 ·rw[if_pos h1];exact tX h1 dc dc dc dc (by rw[aZ,dK];rfl) (by rw[gU,eP];exact Nat.le_refl _) (is_lt hl h1) N S
 rw[if_neg h1];clear h1;by_cases h1:bH l i [66,111,120]=true
 ·rw[if_pos h1];refine(h.one _ d).bind ?_;rintro x j ⟨h2,h3,h4⟩;exact tX h1 dc dc dc dc (by rw[aZ,dK];rfl) (by rw[jH,eP];simp;omega) h3 (dP.one h4) S
 rw[if_neg h1];clear h1;by_cases h1:bH l i [117,110,98,111,120]=true
 ·rw[if_pos h1];refine(h.one _ d).bind ?_;rintro x j ⟨h2,h3,h4⟩;exact tX h1 dc dc dc dc (by rw[aZ,dK];rfl) (by rw[jH,eP];simp;omega) h3 (dP.one h4) S
 rw[if_neg h1];clear h1;by_cases h1:bH l i [110,101,119]=true
 ·rw[if_pos h1];refine(vX hl).bind ?_;rintro n j ⟨rfl,h2,-,-⟩;refine(lY hl).bind ?_;rintro _ j ⟨rfl,h3⟩;split
  ·rename_i h5;exact tX h1 dc dc dc dc (by rw[aZ,dK];rfl) (by rw[gU,eP];simp) (is_lt hl h5) N S
  ·refine(h.made _ d [] [] N).bind ?_;rintro p j ⟨h4,h5,h6⟩;rw[gU]at h4;exact tX h1 dc dc dc dc (by rw[aZ,dK];rfl) (by rw[eP];simp at h4;omega) h5 h6 S
 rw[if_neg h1];clear h1;by_cases h1:bH l i [97,115]=true
 ·rw[if_pos h1];refine(vX hl).bind ?_;rintro n j ⟨rfl,h2,-,-⟩;refine(lY hl).bind ?_;rintro _ j ⟨rfl,h3⟩;refine aF.bind (Q:=fun ns j=>i+3+ns.length≤j∧j<l.length) ?_ ?_
  ·split
   ·rename_i h5;exact aF.ok ⟨by simp,is_lt hl h5⟩
   ·refine(Xi hl f _ []).weak ?_;rintro p j ⟨h4,h5⟩;exact⟨by simpa using h4,h5⟩
  ·rintro ns j ⟨h4,h5⟩;refine(h.block _ d).bind ?_;rintro b j ⟨h6,h7,h8⟩;exact tX h1 dc dc dc dc (by rw[aZ,dK];rfl) (by rw[gU];omega) h7 N h8
 rw[if_neg h1];clear h1;by_cases h1:bH l i [40]=true
 ·rw[if_pos h1];split
  ·rename_i h5;have h6:=is_lt hl h5;exact tX h1 dc dc dc dc (by rw[aZ,dK];rfl) (by rw[gU,eP];simp) om N S
  ·refine(h.level _ d 0).bind ?_;rintro x j ⟨h2,h3,h4⟩;refine(lY hl).bind ?_;rintro _ j ⟨rfl,h5⟩;exact tX h1 dc dc dc dc (by rw[aZ,dK];rfl) (by rw[jH,eP];simp;omega) h5 (dP.one h4) S
 rw[if_neg h1];clear h1;by_cases h1:bH l i [115,101,108,102]=true
 ·rw[if_pos h1];exact tX h1 dc dc dc dc (by rw[aZ,dK];rfl) (by rw[gU,eP];exact Nat.le_refl _) (is_lt hl h1) N S
 rw[if_neg h1];clear h1;refine(vX hl).bind ?_;rintro n j ⟨rfl,h2,rfl,h3⟩;split
 ·refine(h.list _ d).bind ?_;rintro al j ⟨h4,h5,h6⟩;exact aF.ok ⟨by rw[vY,eP];simp;omega,h5,CX h3 (vb0 dc dc) (MN (by show(12:Int)≠14;decide) (by show(12:Int)≠6;decide) (by show(12:Int)≠13;decide) (by rw[aZ,dK];rfl)) h6 S⟩
 ·exact aF.ok ⟨by rw[vY,gU,eP];simp,h2,CX h3 (vb0 dc dc) (MN (by show(5:Int)≠14;decide) (by show(5:Int)≠6;decide) (by show(5:Int)≠13;decide) (by rw[aZ,dK];rfl)) N S⟩
theorem Xj:∀f,Lp l f:=by
 intro f;induction f with
 |zero=>exact⟨fun _ _ _=>by rw[a_];exact aF.out,fun _ _ _ _ _ _ _ _=>by rw[qN];exact aF.out,fun _ _=>by rw[gm];exact aF.out,fun _ _=>by rw[mJ];exact aF.out,fun _ _ _ _ _ _ _=>by rw[jV];exact aF.out,fun _ _=>by rw[jE];exact aF.out,fun _ _ _ _=>by rw[kY];exact aF.out,fun _ _=>by rw[nG];exact aF.out,fun _ _ _ _ _=>by rw[jF];exact aF.out,fun _ _=>by rw[kR];exact aF.out,fun _ _=>by rw[bM];exact aF.out,fun _ _ _ _=>by rw[jC];exact aF.out,fun _ _=>by rw[rD];exact aF.out,fun _ _=>by rw[rE];exact aF.out,fun _ _=>by rw[lq];exact aF.out⟩
 |succ f h=>
  have N:dP (Pd l) []:=dP.nl;have S:iE (Pd l) []:=iE.nl;refine⟨?_,?_,?_,?_,?_,?_,?_,?_,?_,fun i d=>aah hl htk f h i d,?_,?_,?_,?_,?_⟩
  ·intro i d n;rw[a_];split
   ·exact h.unary i d
   ·exact(h.level i d (n+1)).bind fun x j hx=>h.row i j d n x hx.1 hx.2.1 hx.2.2
  ·intro i0 i d n x hi hj hx;rw[qN];cases ho:wO l i n with
   |none=>exact aF.ok ⟨hi,hj,hx⟩
   |some s=>
    have hs:bH l i s=true:=List.find?_some ho;refine(h.level (i+1) d (n+1)).bind ?_;rintro y j ⟨h2,h3,h4⟩;(have hm:i0+DV (aZ 14 (mG s) 0 false [x,y] [] [] (tokA l i))≤j:=by rw[vY,kT,jH,eP];simp;omega);(have hp:AP l (aZ 14 (mG s) 0 false [x,y] [] [] (tokA l i)):=by refine CX (Fh hs) (vb0 dc dc) ?_ (dP.snoc (dP.one hx) h4) S;unfold OY;rw[if_pos (show(aZ 14 (mG s) 0 false [x,y] [] [] (tokA l i)).kind=14 from rfl),xU hs];rfl);split
    ·exact aF.ok ⟨hm,h3,hp⟩
    ·exact h.row i0 j d n _ hm h3 hp
  ·intro i d;rw[gm];split
   ·exact aF.fail
   split
   ·rename_i h1;refine(h.unary _ _).bind ?_;rintro y j ⟨h2,h3,h4⟩;exact tX h1 dc dc dc dc (by rw[aZ,dK];rfl) (by rw[jH,eP];simp;omega) h3 (dP.one h4) S
   split
   ·rename_i h1;refine(h.unary _ _).bind ?_;rintro y j ⟨h2,h3,h4⟩;exact tX h1 dc dc dc dc (by rw[aZ,dK];rfl) (by rw[jH,eP];simp;omega) h3 (dP.one h4) S
   split
   ·rename_i h1;refine(h.unary _ _).bind ?_;rintro y j ⟨h2,h3,h4⟩;exact tX h1 dc dc dc dc (by rw[aZ,dK];rfl) (by rw[jH,eP];simp;omega) h3 (dP.one h4) S
   split
   ·rename_i h1;(have h6:i+1≤iw l (i+1) [109,117,116]:=by unfold iw;split<;>omega);refine(h.unary _ _).bind ?_;rintro y j ⟨h2,h3,h4⟩;refine tX h1 dc dc dc dc ?_ (by rw[jH,eP];simp;omega) h3 (dP.one h4) S;rw[aZ,dK];cases bH l (i+1) [109,117,116]<;>rfl
   ·exact h.post i (d+1)
  ·intro i d;rw[mJ];exact(h.Js i d).bind fun x j hx=>h.dots i j d x hx.1 hx.2.1 hx.2.2
  ·intro i0 i d x hi hj hx;rw[jV];split
   ·rename_i h1;refine(vX hl).bind ?_;rintro n j ⟨rfl,h2,-,-⟩;(have hd:∀(k:Int) (al:List Ex),(k=6∨k=13)→dP (Pd l) al→AP l (aZ k n 0 false al [] [] (tokA l i)):=by intro k al hk hal;refine CX (Fh h1) (vb0 om om) ?_ hal S;unfold OY;rw[if_neg (show¬(aZ k n 0 false al [] [] (tokA l i)).kind=14 from fun e=>by have e:k=14:=e;omega),if_pos (show(aZ k n 0 false al [] [] (tokA l i)).kind=6∨(aZ k n 0 false al [] [] (tokA l i)).kind=13 from hk)];exact xU h1);split
    ·refine(h.list _ d).bind ?_;rintro al k ⟨h4,h5,h6⟩;refine h.dots i0 k d _ ?_ h5 (hd 13 _ (.inr rfl) (by rw[dP];exact⟨hx,h6⟩));rw[vY,kT,eP];simp;omega
    ·refine h.dots i0 _ d _ ?_ h2 (hd 6 _ (.inl rfl) (dP.one hx));rw[vY,jH,eP];simp;omega
   ·exact aF.ok ⟨hi,hj,hx⟩
  ·intro i d;rw[jE];split
   ·rename_i h1;exact aF.ok ⟨by rw[gU];omega,is_lt hl h1,N⟩
   ·refine(h.more i d [] N).weak ?_;rintro al j ⟨h2,h3,h4⟩;rw[gU]at h2;exact⟨by omega,h3,h4⟩
  ·intro i d acc hacc;rw[kY];refine JI.bind ?_;rintro _ i ⟨rfl,-⟩;refine(h.level i d 0).bind ?_;rintro x j ⟨h2,h3,h4⟩;split
   ·refine(h.more _ d _ (dP.snoc hacc h4)).weak ?_;rintro al k ⟨h5,h6,h7⟩;rw[vg]at h5;exact⟨by omega,h6,h7⟩
   ·refine(lY hl).bind ?_;rintro _ j ⟨rfl,h5⟩;exact aF.ok ⟨by rw[vg];omega,h5,dP.snoc hacc h4⟩
  ·intro i d;rw[nG];refine(lY hl).bind ?_;rintro _ j ⟨rfl,h1⟩;refine(h.level _ d 0).bind ?_;rintro x j ⟨h2,h3,h4⟩;refine(lY hl).bind ?_;rintro _ j ⟨rfl,h5⟩;exact aF.ok ⟨by omega,h5,h4⟩
  ·intro i d ns al hal;rw[jF];refine JI.bind ?_;rintro _ i ⟨rfl,-⟩;refine(vX hl).bind ?_;rintro n j ⟨rfl,h1,-,-⟩;refine(lY hl).bind ?_;rintro _ j ⟨rfl,h2⟩;refine(h.level _ d 0).bind ?_;rintro x j ⟨h3,h4,h5⟩;split
   ·refine(h.made _ d _ _ (dP.snoc hal h5)).weak ?_;rintro p k ⟨h6,h7,h8⟩;rw[vg]at h6;simp at h6;exact⟨by omega,h7,h8⟩
   ·refine(lY hl).bind ?_;rintro _ j ⟨rfl,h6⟩;exact aF.ok ⟨by show _+((ns++[n]).length+kT (al++[x]))≤_;rw[vg];simp;omega,h6,dP.snoc hal h5⟩
  ·intro i d;rw[bM];split
   ·exact aF.fail
   ·refine(lY hl).bind ?_;rintro _ j ⟨rfl,h1⟩;refine(h.stmts _ _ [] S).weak ?_;rintro b k ⟨h2,h3,h4⟩;rw[eP]at h2;exact⟨by omega,h3,h4⟩
  ·intro i d acc hacc;rw[jC];split
   ·rename_i h1;exact aF.ok ⟨by omega,is_lt hl h1,hacc⟩
   ·refine(h.stmt i d).bind ?_;rintro s j ⟨h1,h2,h3⟩;refine(h.stmts _ _ _ (iE.snoc hacc h3)).weak ?_;rintro b k ⟨h4,h5,h6⟩;rw[Ij]at h4;exact⟨by omega,h5,h6⟩
  ·intro i d;rw[rD];refine(vX hl).bind ?_;rintro n j ⟨rfl,h1,-,-⟩;refine aF.bind (Q:=fun ty j=>i+DU ty≤j∧j<l.length) ?_ ?_
   ·split
    ·refine((Xh hl f).1 _ _).weak ?_;rintro t j ⟨h2,h3⟩;exact⟨by omega,h3⟩
    ·exact aF.ok ⟨by rw[pR];omega,h1⟩
   ·rintro ty j ⟨h2,h3⟩;refine aF.bind (Q:=fun e j=>i+(DU ty+kT e)≤j∧j<l.length∧dP (Pd l) e) ?_ ?_
    ·split
     ·refine(h.level _ d 0).bind ?_;rintro x k ⟨h4,h5,h6⟩;exact aF.ok ⟨by rw[jH];omega,h5,dP.one h6⟩
     ·exact aF.ok ⟨by rw[gU];omega,h3,N⟩
    ·rintro e j ⟨h4,h5,h6⟩;refine(lY hl).bind ?_;rintro _ j ⟨rfl,h7⟩;exact aF.ok ⟨by show _+(DU ty+kT e)≤_;omega,h7,h6⟩
  ·intro i d;rw[rE];refine(h.level i d 0).bind ?_;rintro x j ⟨h1,h2,h3⟩;refine aF.bind (Q:=fun p j=>i+(kT p.1+DV p.2)≤j∧j<l.length∧dP (Pd l) p.1∧AP l p.2) ?_ ?_
   ·split
    ·refine(h.level _ d 0).bind ?_;rintro y k ⟨h4,h5,h6⟩;exact aF.ok ⟨by show _+(kT [x]+DV y)≤_;rw[jH];omega,h5,dP.one h3,h6⟩
    ·exact aF.ok ⟨by show _+(kT []+DV x)≤_;rw[gU];omega,h2,N,h3⟩
   ·rintro p j ⟨h4,h5,h6,h7⟩;refine(lY hl).bind ?_;rintro _ j ⟨rfl,h8⟩;exact aF.ok ⟨by omega,h8,h6,h7⟩
  ·intro i d;rw[lq];(have mkS:∀(k:Int) (n:ByteArray) (ty:Ty) (p e:List Ex) (b c:List St) (o:Bool) (t:Tok),dP (Pd l) p→dP (Pd l) e→iE (Pd l) b→iE (Pd l) c→Fb (Pd l) (gy k n ty p e b c o t):=by intro k n ty p e b c o t h1 h2 h3 h4;rw[gy,Fb];exact⟨h1,h2,h3,h4⟩);(have mkM:∀(k:Int) (n:ByteArray) (ty:Ty) (p e:List Ex) (b c:List St) (o:Bool) (t:Tok),stM (gy k n ty p e b c o t)=DU ty+kT p+kT e+oP b+oP c:=by intro k n ty p e b c o t;rw[gy,stM]);split
   ·refine(h.OM _ d).bind ?_;rintro p j ⟨h1,h2,h3⟩;exact aF.ok ⟨by rw[mkM,gU,eP];omega,h2,mkS _ _ _ _ _ _ _ _ _ N h3 S S⟩
   split
   ·refine(h.level _ d 0).bind ?_;rintro x j ⟨h1,h2,h3⟩;refine(h.block j d).bind ?_;rintro b j ⟨h4,h5,h6⟩;split
    ·refine(h.block _ d).bind ?_;rintro c j ⟨h7,h8,h9⟩;exact aF.ok ⟨by rw[mkM,gU,jH,pR];omega,h8,mkS _ _ _ _ _ _ _ _ _ N (dP.one h3) h6 h9⟩
    ·exact aF.ok ⟨by rw[mkM,gU,jH,eP,pR];omega,h5,mkS _ _ _ _ _ _ _ _ _ N (dP.one h3) h6 S⟩
   split
   ·refine(h.level _ d 0).bind ?_;rintro x j ⟨h1,h2,h3⟩;refine(h.block j d).bind ?_;rintro b j ⟨h4,h5,h6⟩;exact aF.ok ⟨by rw[mkM,gU,jH,eP,pR];omega,h5,mkS _ _ _ _ _ _ _ _ _ N (dP.one h3) h6 S⟩
   split
   ·rename_i h0;have hlt:=is_lt hl h0;refine aF.bind (Q:=fun e j=>i+1+kT e≤j∧j<l.length∧dP (Pd l) e) ?_ ?_
    ·split
     ·exact aF.ok ⟨by rw[gU];omega,hlt,N⟩
     ·refine(h.level _ d 0).bind ?_;rintro x j ⟨h1,h2,h3⟩;exact aF.ok ⟨by rw[jH];omega,h2,dP.one h3⟩
    ·rintro e j ⟨h1,h2,h3⟩;refine(lY hl).bind ?_;rintro _ j ⟨rfl,h4⟩;exact aF.ok ⟨by rw[mkM,gU,eP,pR];omega,h4,mkS _ _ _ _ _ _ _ _ _ N h3 S S⟩
   split
   ·refine(lY hl).bind ?_;rintro _ j ⟨rfl,h1⟩;exact aF.ok ⟨by rw[mkM,gU,eP,pR];omega,h1,mkS _ _ _ _ _ _ _ _ _ N N S S⟩
   split
   ·refine(h.block i d).bind ?_;rintro b j ⟨h1,h2,h3⟩;exact aF.ok ⟨by rw[mkM,gU,eP,pR];omega,h2,mkS _ _ _ _ _ _ _ _ _ N N h3 S⟩
   ·refine(h.OO i d).bind ?_;rintro p j ⟨h1,h2,h3,h4⟩;exact aF.ok ⟨by rw[mkM,jH,eP,pR];omega,h2,mkS _ _ _ _ _ _ _ _ _ h3 (dP.one h4) S S⟩
end
def oH (p:Pm):List ByteArray:=[p.name,⟨#[58]⟩]++jR p.ty
def psep (k:Nat):List ByteArray:=if 0<k then[⟨#[43]⟩]else[]
def kE (l:List ByteArray):Nat→List ByteArray
 |0=>[]
 |k+1=>kE l k++psep k++[l.getD k ⟨#[]⟩]
def sW (b:Bd):List ByteArray:=[b.name,⟨#[58]⟩]++kE (b.qX++b.bJ) (b.qX++b.bJ).length
def tyK:Ty→Int
 | .mk k _ _ _ _ _ _ _=>k
def xW (rt:Ty) (l:List Bd):List ByteArray:=(match rt with| .mk k _ _ _ _ _ _ _=>if k=0 then[]else[⟨#[45,62]⟩]++jR rt)++(if(l.map sW).length=0 then[]else[⟨#[119,104,101,114,101]⟩]++aO (l.map sW))
def zx (rv:Int) (lf:ByteArray):List ByteArray:=if rv=1 then[]else[⟨#[38]⟩]++(if lf=⟨#[]⟩then[]else[lf])
def zy (rv:Int):List ByteArray:=if rv=3 then[⟨#[109,117,116]⟩]else[]
def zA (ps:List Pm):List ByteArray:=if ps.length=0 then[]else[⟨#[44]⟩]++aO (ps.map oH)
def Xk (m:Mt) (body:Bool):List ByteArray:=[⟨#[102,110]⟩,m.name]++j_ (m.bJ.map fun s=>[s])++[⟨#[40]⟩]++zx m.recv m.life++zy m.recv++[⟨#[115,101,108,102]⟩]++zA m.params++[⟨#[41]⟩]++xW m.ret m.wh++(if body then[⟨#[123]⟩]++jG m.body++[⟨#[125]⟩]else[⟨#[59]⟩])
def yB:List Mt→Bool→List ByteArray
 |[],_=>[]
 |m::r,b=>Xk m b++yB r b
theorem JJ:∀(l m:List Mt) (b:Bool),yB (l++m) b=yB l b++yB m b
 |[],m,b=>rfl
 |a::r,m,b=>by rw[List.cons_append,yB,yB,JJ r m,List.append_assoc]
theorem MO (l:List Mt) (m:Mt) (b:Bool):yB (l++[m]) b=yB l b++Xk m b:=by rw[JJ,yB,yB,List.append_nil]
theorem msL_le (l:List Mt) (b:Bool) (i:Nat):(yB (l.take i) b).length≤(yB l b).length:=by have h:=JJ (l.take i) (l.drop i) b;rw[List.take_append_drop]at h;rw[h,List.length_append];omega
def JK (g:Gn):List ByteArray:=j_ ((g.bJ.map fun s=>[s])++g.types.map fun s=>[s])
def QK (x:It):List ByteArray:=
 if x.kind=1 then[⟨#[115,116,114,117,99,116]⟩,x.name]++JK x.gen++([⟨#[123]⟩]++aO (x.fields.map oH)++[⟨#[125]⟩])
 else if x.kind=2 then[⟨#[116,114,97,105,116]⟩,x.name]++([⟨#[123]⟩]++yB x.methods false++[⟨#[125]⟩])
 else if x.kind=3 then[⟨#[105,109,112,108]⟩,x.name,⟨#[102,111,114]⟩,x.head]++xW dU x.wh++([⟨#[123]⟩]++yB x.methods true++[⟨#[125]⟩])
 else if x.kind=4 then[⟨#[102,110]⟩,x.name]++JK x.gen++([⟨#[40]⟩]++aO (x.fields.map oH)++[⟨#[41]⟩])++xW x.ret x.wh++([⟨#[123]⟩]++jG x.body++[⟨#[125]⟩])
 else[]
theorem DX (x:It):QK x=if x.kind=1 then[⟨#[115,116,114,117,99,116]⟩,x.name]++JK x.gen++([⟨#[123]⟩]++aO (x.fields.map oH)++[⟨#[125]⟩])else if x.kind=2 then[⟨#[116,114,97,105,116]⟩,x.name]++([⟨#[123]⟩]++yB x.methods false++[⟨#[125]⟩])else if x.kind=3 then[⟨#[105,109,112,108]⟩,x.name,⟨#[102,111,114]⟩,x.head]++xW dU x.wh++([⟨#[123]⟩]++yB x.methods true++[⟨#[125]⟩])else if x.kind=4 then[⟨#[102,110]⟩,x.name]++JK x.gen++([⟨#[40]⟩]++aO (x.fields.map oH)++[⟨#[41]⟩])++xW x.ret x.wh++([⟨#[123]⟩]++jG x.body++[⟨#[125]⟩])else[]:=rfl
def Xl (t:Ty):Prop:=DU t≤8001
def BoB (ts:List Tok) (b:List St):Prop:=oP b≤8001∧iE (Pd ts) b
theorem JL (ts:List Tok):BoB ts []:=⟨by rw[eP];decide,iE.nl⟩
def Xm (l:List Bd):Prop:=l.length≤16∧∀b∈l,b.qX.length+b.bJ.length≤8
def TP (l:List Pm):Prop:=l.length≤12∧∀p∈l,Xl p.ty
structure MtB (ts:List Tok) (m:Mt):Prop where
 lf:m.bJ.length≤8
 ps:TP m.params
 rt:Xl m.ret
 wh:Xm m.wh
 bo:BoB ts m.body
def aai (ts:List Tok) (l:List Mt):Prop:=l.length≤12∧∀m∈l,MtB ts m
structure ItB (ts:List Tok) (x:It):Prop where
 kd:x.kind=1∨x.kind=2∨x.kind=3∨x.kind=4
 gn:x.gen.bJ.length+x.gen.types.length≤8
 fs:TP x.fields
 rt:Xl x.ret
 wh:Xm x.wh
 ms:aai ts x.methods
 bo:BoB ts x.body
 pl:∃t∈ts,x.line=t.line∧x.col=t.col∧(QK x).head?=some (mG t.text)
theorem JM:Xl dU:=by unfold Xl;rw[pR];decide
theorem DY:TP []:=⟨Nat.zero_le _,fun _ h=>nomatch h⟩
theorem JO:Xm []:=⟨Nat.zero_le _,fun _ h=>nomatch h⟩
theorem QL (ts:List Tok):aai ts []:=⟨Nat.zero_le _,fun _ h=>nomatch h⟩
theorem Ba {α:Type} {P:α→Prop} {l:List α} {x:α} (h:∀y∈l,P y) (hx:P x):∀y∈l++[x],P y:=by
 intro y hy;rcases List.mem_append.1 hy with h1|h1
 ·exact h y h1
 ·rw[List.mem_singleton]at h1;subst h1;exact hx
theorem BU {n m:Nat} {l:List Tok} {i:Nat}:fB (fun _=>n<m) (eH n m l i):=by
 intro a j e;unfold eH at e;split at e
 ·cases e
 ·omega
section
variable {l : List Tok} (hl : pF l) (htk : ∀ t ∈ l, GV t)
theorem Xn:∀(f i:Nat) (ls ts:List ByteArray),fB (fun g=>g.bJ.length+g.types.length≤8) (kC f l i ls ts)
 |0,i,ls,ts=>by rw[kC];exact fB.out
 |f+1,i,ls,ts=>by
  rw[kC]
  refine BU.bind ?_
  intro _ i hr
  refine fB.bind (Q:=fun p=>p.1.length+p.2.length≤8) ?_ ?_
  ·
   split
   ·
    exact(fB.any _).bind fun x j _=>fB.ok (by simp;omega)
   ·
    exact(fB.any _).bind fun x j _=>fB.ok (by simp;omega)
  ·
   intro p j h
   split
   ·
    exact Xn f _ _ _
   ·
    exact(fB.any _).bind fun _ j _=>fB.ok h
theorem Xo (f i:Nat):fB (fun g=>g.bJ.length+g.types.length≤8) (nZ f l i):=by
 unfold nZ;split
 ·exact Xn _ _ _ _
 ·exact fB.ok (by simp)
theorem MP:∀(f i:Nat) (p:Bool) (ts ls:List ByteArray),fB (fun q=>q.1.length+q.2.length≤8) (fA f l i p ts ls)
 |0,i,p,ls,ts=>by rw[fA];exact fB.out
 |f+1,i,p,ls,ts=>by
  rw[fA]
  refine BU.bind ?_
  intro _ i hr
  refine fB.bind (Q:=fun p=>p.1.length+p.2.length≤8) ?_ ?_
  ·
   split
   ·
    exact(fB.any _).bind fun x j _=>fB.ok (by simp;omega)
   ·
    exact(fB.any _).bind fun x j _=>fB.ok (by simp;omega)
  ·
   intro p j h
   split
   ·
    exact MP f _ _ _ _
   ·
    exact fB.ok h
theorem aaj (f i:Nat):fB (fun b=>b.qX.length+b.bJ.length≤8) (mP f l i):=by unfold mP;refine(fB.any _).bind fun p j _=> ?_;refine(fB.any _).bind fun _ j _=> ?_;exact(MP _ _ _ _ _).bind fun q j h=>fB.ok h
theorem MQ:∀(f i:Nat) (acc:List Bd),(∀b∈acc,b.qX.length+b.bJ.length≤8)→fB Xm (jc f l i acc)
 |0,i,acc,_=>by rw[jc];exact fB.out
 |f+1,i,acc,ha=>by
  rw[jc]
  refine BU.bind ?_
  intro _ i hr
  refine(aaj _ _).bind fun b j hb=> ?_
  have h2:=Ba (P:=fun b:Bd=>b.qX.length+b.bJ.length≤8) ha hb
  split
  ·
   exact MQ f _ _ h2
  ·
   exact fB.ok ⟨by simp;omega,h2⟩
theorem JP (f i:Nat):fB Xm (eU f l i):=by
 unfold eU;split
 ·exact MQ _ _ _ oQ
 ·exact fB.ok JO
include hl
theorem ty_h (f i d:Nat):fB Xl (iZ f l i d):=by intro t j e;have h:=(Xh hl f).1 i d t j e;have:=hl.len;show DU t≤8001;omega
include htk in
theorem QM (f i d:Nat):fB (BoB l) (bM f l i d):=by intro t j e;have h:=(Xj hl htk f).block i d t j e;have:=hl.len;exact⟨by omega,h.2.2⟩
theorem Xq:∀(f i d:Nat) (e:List UInt8) (m:Nat) (acc:List Pm),m≤12→(∀p∈acc,Xl p.ty)→fB TP (mr f l i d e m acc)
 |0,i,d,e,m,acc,_,_=>by rw[mr];exact fB.out
 |f+1,i,d,e,m,acc,hm,ha=>by
  rw[mr]
  refine BU.bind ?_
  intro _ i hr
  refine(fB.any _).bind fun n j _=> ?_
  refine(fB.any _).bind fun _ j _=> ?_
  refine(ty_h hl _ _ _).bind fun t j ht=> ?_
  have h2:=Ba (P:=fun p:Pm=>Xl p.ty) (x:=⟨n,t,(tokA l i).line,(tokA l i).col⟩) ha ht
  split
  ·
   exact Xq f _ _ _ _ _ hm h2
  ·
   exact(fB.any _).bind fun _ j _=>fB.ok ⟨by simp;omega,h2⟩
theorem Fj (f i d:Nat) (e:List UInt8) (m:Nat) (hm:m≤12):fB TP (fD f l i d e m):=by
 unfold fD;split
 ·exact fB.ok DY
 ·exact Xq hl _ _ _ _ _ _ hm oQ
theorem ret_b (f i d:Nat):fB Xl (kK f l i d):=by
 unfold kK;split
 ·exact ty_h hl _ _ _
 ·exact fB.ok JM
include htk in
theorem Xr (f i d:Nat) (body:Bool):fB (MtB l) (jZ f l i d body):=by
 unfold jZ;refine(fB.any _).bind fun _ j _=> ?_;refine(fB.any _).bind fun n j _=> ?_;refine(Xo _ _).bind fun g j hg=> ?_;refine(fB.any _).bind fun _ j _=> ?_;refine(fB.any _).bind fun _ j _=> ?_;refine(fB.any _).bind fun _ k _=> ?_;refine fB.bind (Q:=TP) ?_ fun ps k hp=> ?_
 ·split
  ·split
   ·exact fB.fail
   ·exact Fj hl _ _ _ _ _ dc
  ·exact(fB.any _).bind fun _ j _=>fB.ok DY
 refine(ret_b hl _ _ _).bind fun t k ht=> ?_;refine(JP _ _).bind fun wh k hw=> ?_;refine fB.bind (Q:=BoB l) ?_ fun b k hb=> ?_
 ·split
  ·exact QM hl htk _ _ _
  ·exact(fB.any _).bind fun _ k _=>fB.ok (JL l)
 exact fB.ok ⟨by show g.bJ.length≤8;omega,hp,ht,hw,hb⟩
include htk in
theorem QO:∀(f i d:Nat) (body:Bool) (acc:List Mt),acc.length≤12→(∀m∈acc,MtB l m)→fB (aai l) (jJ f l i d body acc)
 |0,i,d,body,acc,_,_=>by rw[jJ];exact fB.out
 |f+1,i,d,body,acc,hn,ha=>by
  rw[jJ]
  split
  ·
   exact fB.ok ⟨hn,ha⟩
  refine BU.bind ?_
  intro _ i hr
  refine(Xr hl htk _ _ _ _).bind fun m j hm=> ?_
  exact QO f _ _ _ _ (by simp;omega) (Ba ha hm)
include htk in
theorem Il (f i d:Nat) (body:Bool):fB (aai l) (gQ f l i d body):=by unfold gQ;exact(fB.any _).bind fun _ j _=>QO hl htk _ _ _ _ _ (Nat.zero_le _) oQ
include htk in
theorem item_b (f i d:Nat):fB (ItB l) (qm f l i d):=by
 have hpl:∀(s:List UInt8) (x:It),bH l i s=true→x.line=(tokA l i).line→x.col=(tokA l i).col→(QK x).head?=some (mG s)→∃t∈l,x.line=t.line∧x.col=t.col∧(QK x).head?=some (mG t.text):=
  fun s x h h1 h2 h3=>⟨tokA l i,Fh h,h1,h2,by rw[xU h];exact h3⟩
 unfold qm;split
 ·rename_i h0;refine(fB.any _).bind fun n j _=> ?_;refine(Xo _ _).bind fun g j hg=> ?_;refine(fB.any _).bind fun _ j _=> ?_;exact(Fj hl _ _ _ _ _ dc).bind fun fs j hf=>fB.ok ⟨.inl rfl,hg,hf,JM,JO,QL l,JL l,hpl _ _ h0 rfl rfl rfl⟩
 split
 ·rename_i h0;refine(fB.any _).bind fun n j _=> ?_;exact(Il hl htk _ _ _ _).bind fun ms j hm=>fB.ok ⟨.inr (.inl rfl),Nat.zero_le 8,DY,JM,JO,hm,JL l,hpl _ _ h0 rfl rfl rfl⟩
 split
 ·rename_i h0;refine(fB.any _).bind fun n j _=> ?_;refine(fB.any _).bind fun _ j _=> ?_;refine(fB.any _).bind fun h j _=> ?_;refine(JP _ _).bind fun wh j hw=> ?_;exact(Il hl htk _ _ _ _).bind fun ms j hm=>fB.ok ⟨.inr (.inr (.inl rfl)),Nat.zero_le 8,DY,JM,hw,hm,JL l,hpl _ _ h0 rfl rfl rfl⟩
 split
 ·rename_i h0;refine(fB.any _).bind fun n j _=> ?_;refine(Xo _ _).bind fun g j hg=> ?_;refine(fB.any _).bind fun _ j _=> ?_;refine(Fj hl _ _ _ _ _ dc).bind fun fs j hf=> ?_;refine(ret_b hl _ _ _).bind fun t j ht=> ?_;refine(JP _ _).bind fun wh j hw=> ?_;refine(QM hl htk _ _ _).bind fun b j hb=> ?_;exact fB.ok ⟨.inr (.inr (.inr rfl)),hg,hf,ht,hw,QL l,hb,hpl _ _ h0 rfl rfl rfl⟩
 ·exact fB.fail
include htk in
theorem QR:∀(f i d:Nat) (acc:List It),acc.length≤60→(∀x∈acc,ItB l x)→fB (fun r=>r.length≤60∧∀x∈r,ItB l x) (jl f l i d acc)
 |0,i,d,acc,_,_=>by rw[jl];exact fB.out
 |f+1,i,d,acc,hn,ha=>by
  rw[jl]
  split
  ·
   exact fB.ok ⟨hn,ha⟩
  refine BU.bind ?_
  intro _ i hr
  refine(item_b hl htk _ _ _).bind fun m j hm=> ?_
  exact QR f _ _ _ (by simp;omega) (Ba ha hm)
end
theorem prog_v {s:List UInt8} {l:List It} (h:qQ s=.ok l):∃ts,ng s=.ok ts∧pF ts∧l.length≤60∧∀x∈l,ItB ts x:=by
 unfold qQ vW at h;split at h
 ·cases h
 ·rename_i toks he;split at h
  ·rename_i a j hr;cases h;unfold wS at hr;split at hr
   ·rename_i a2 j2 hr2;split at hr
    ·cases hr;have hL:=(pO he).1;obtain⟨h1,h2⟩:=QR hL (DW he) _ _ _ [] (Nat.zero_le _) oQ _ _ hr2;exact⟨toks,he,hL,h1,h2⟩
    ·cases hr
   ·cases hr
   ·cases hr
  ·cases h
  ·cases h
mutual
theorem ae_vb {ts:List Tok}:∀x:Ex,Dy (Pd ts) x→Dy VB x
 | .mk k nm v mu ar ns bo l c,h=>by
  rw[Dy]at h⊢
  exact⟨h.1.1,JQ ar h.2.1,Fp bo h.2.2⟩
theorem JQ {ts:List Tok}:∀l:List Ex,dP (Pd ts) l→dP VB l
 |[],_=>dP.nil _
 |x::r,h=>by
  rw[dP]at h⊢
  exact⟨ae_vb x h.1,JQ r h.2⟩
theorem as_vb {ts:List Tok}:∀s:St,Fb (Pd ts) s→Fb VB s
 | .mk k nm ty pl e bo el ot l c,h=>by
  rw[Fb]at h⊢
  exact⟨JQ pl h.1,JQ e h.2.1,Fp bo h.2.2.1,Fp el h.2.2.2⟩
theorem Fp {ts:List Tok}:∀l:List St,iE (Pd ts) l→iE VB l
 |[],_=>iE.nil _
 |x::r,h=>by
  rw[iE]at h⊢
  exact⟨as_vb x h.1,Fp r h.2⟩
end
theorem Fq {s:ByteArray} {l:List UInt8} (h:s.data.toList=l):s=⟨l.toArray⟩:=by obtain⟨⟨d⟩⟩:=s;have h:d=l:=h;rw[h]
def chkE (r:Except (Nat×Nat×Nat) Ex):Bool:=match r with
 | .ok (.mk k nm _ _ [.mk k1 _ _ _ _ _ _ _ _,.mk _ nm2 _ _ _ _ _ _ _] _ _ _ _)=>decide (k=14)&&decide (nm.data.toList=[43])&&decide (k1=6)&&decide (nm2.data.toList=[42])
 |_=>false
theorem aak {r:Except (Nat×Nat×Nat) Ex} (h:chkE r=true):∃v m nm1 v1 m1 as1 ns1 bs1 l1 c1 k2 v2 m2 as2 ns2 bs2 l2 c2 ns bs l c,r=.ok (.mk 14 ⟨#[43]⟩ v m [.mk 6 nm1 v1 m1 as1 ns1 bs1 l1 c1,.mk k2 ⟨#[42]⟩ v2 m2 as2 ns2 bs2 l2 c2] ns bs l c):=by
 unfold chkE at h;split at h
 ·simp only[Bool.and_eq_true,decide_eq_true_eq]at h;obtain⟨⟨⟨h1,h2⟩,h3⟩,h4⟩:=h;rw[Fq h2,Fq h4,h1,h3];exact⟨_,_,_,_,_,_,_,_,_,_,_,_,_,_,_,_,_,_,_,_,_,_,rfl⟩
 ·cases h
def chkP (r:Except (Nat×Nat×Nat) (List It)):Bool:=match r with
 | .ok [it]=>decide (it.name.data.toList=[102])
 |_=>false
theorem aal {r:Except (Nat×Nat×Nat) (List It)} (h:chkP r=true):∃it,r=.ok [it]∧it.name=⟨#[102]⟩:=by
 unfold chkP at h;split at h
 ·rename_i it;exact⟨it,rfl,Fq (of_decide_eq_true h)⟩
 ·cases h
theorem TQ:chkE (sH [97,32,46,32,98,32,43,32,49,32,42,32,99])=true:=by kernel_rfl
theorem TR:chkP (qQ [102,110,32,102,32,40,32,41,32,123,32,125])=true:=by kernel_rfl
theorem Fv (w:World) (m:Int) (hm:w.cell? ⟨0,0,none⟩=some (.int .i64 m)):Calls Tryz.prog 6 #[] w fun e w'=>e=.returned (.bool true)∧jP w w':=by
 obtain⟨v,mu,nm1,v1,m1,as1,ns1,bs1,l1,c1,k2,v2,m2,as2,ns2,bs2,l2,c2,ns,bs,l,c,hx⟩:=aak TQ;obtain⟨it,hp,hname⟩:=aal TR;have HM:=ai hm;have hce:=BQ ⟨#[97,32,46,32,98,32,43,32,49,32,42,32,99]⟩ w m hm;have hce:Calls Tryz.prog 14 #[.string ⟨#[97,32,46,32,98,32,43,32,49,32,42,32,99]⟩] w (DR (sH [97,32,46,32,98,32,43,32,49,32,42,32,99]) w):=hce;rw[hx]at hce;have HCE:=ai hce;have HX:=ai hp;clear hx hce hm hp;go_enter Tryz.func6,Tryz.ntmps6;go_upto_region 1 with fail
 go_wp2_with fail;refine HCE.o.mono ?_;rintro e w1 ⟨⟨u,rfl,cs,rfl,hy⟩,h1⟩;have hlen:=hy.len;have hone:=hy.one;rw[cZ]at hy;obtain⟨va,vn,vb,xa,xb,rfl,-,-,hxa,hra,hrn,-,hrb⟩:=hy;obtain⟨e2,d2,rfl⟩:=hrn.parts;obtain⟨e3,d3,rfl⟩:=hrb.parts;obtain⟨a1,n1,rfl,-,-,-,hrow⟩:=hra;obtain⟨g,o,rfl,-,hgw,hcell⟩:=hrow (by simp);obtain⟨n2,hn2⟩:∃n,n=ns.length:=⟨_,rfl⟩;obtain⟨n3,hn3⟩:∃n,n=bs.length:=⟨_,rfl⟩;rw[←hn2,←hn3]at hone;rw[←hn2,←hn3];rw[bF]at hxa;obtain⟨ca,cr,rfl,hl1,hr1⟩:=hxa;rw[bF]at hr1;obtain⟨cb,cz,rfl,hl2,hz⟩:=hr1;rw[cZ]at hl1 hl2;obtain⟨p1,p2,p3,p4,p5,rfl,-⟩:=hl1;obtain⟨q1,q2,q3,q4,q5,rfl,-⟩:=hl2;have hf0:w1.cell? ⟨g,o,none⟩=some (.int .i64 6):=by have h9:=hcell 0 _ rfl;rw[Nat.add_zero]at h9;exact h9
 have hf1:w1.cell? ⟨g,o+10,none⟩=some (.string ⟨#[42]⟩):=hcell 10 _ rfl;obtain⟨w2,hw2⟩:=bn ((w1.alloc (.cells #[af 0,bW,bf 0,aT,aj,aj,aj,af 0,af 0] 56)).alloc (.cells #[af 0,af 0,af 0] 27));have HS2:=nT hw2
 have HA:=nC hw2
 have HB:=nD hw2
 have HW2:=ai hw2;have HF0:=ai hf0;have HF1:=ai hf1;have dF:=ai h1;have dL:Hid (∀u∈([.int .i64 14,.string ⟨#[43]⟩,.int .u64 v,.bool mu,.slice (some ⟨g,o,none⟩) 2 n1,.slice e2 n2 d2,.slice e3 n3 d3,.int .i64 l,.int .i64 c]:List Value),u.oneCell'=true):=hone;clear hcell hrow hlen hz hn2 hn3 hw2 hf0 hf1 h1 hone;go_wp2_with (first
  |(refine au (w:=w2) rfl 56 (.tmp 1) (.tmp 7) rfl w1.heap.size 0 56 _ [.int .i64 14,.string ⟨#[43]⟩,.int .u64 v,.bool mu,.slice (some ⟨g,o,none⟩) 2 n1,.slice e2 n2 d2,.slice e3 n3 d3,.int .i64 l,.int .i64 c] rfl rfl HA.o Tryz.aK (Nat.le_of_eq rfl) dL.o ?_;intro w4 hb4 m_;have A7:=m_.keep HB.o om)
  |(refine au (w:=w4) rfl 27 (.tmp 2) (.tmp 8) rfl (w1.heap.size+1) 0 27 _ [.int .i64 0,.int .i64 0,.int .i64 0] rfl rfl A7 Tryz.dG (Nat.le_of_eq rfl) (aP rfl) ?_;intro w5 hb5 hst5)
  |rw[←HW2.o])
 have hs5:jP w w5:=(((dF.o.trans HS2.o).then m_ (fun q hq e=>by have:=dF.o.size;omega)).then hst5 (fun q hq e=>by have:=dF.o.size;omega));have hs15:Step (fun q=>q=w1.heap.size∨q=w1.heap.size+1) w1 w5:=((HS2.o.mono fe).trans (m_.mono il)).trans (hst5.mono ir);have hcp:=BR ⟨#[102,110,32,102,32,40,32,41,32,123,32,125]⟩ w5 m (hs5.cell HM.o (fun h=>h));have hcp:Calls Tryz.prog 5 #[.string ⟨#[102,110,32,102,32,40,32,41,32,123,32,125]⟩] w5 (DT (qQ [102,110,32,102,32,40,32,41,32,123,32,125]) w5):=hcp;rw[HX.o]at hcp;have hgne:¬(g=w1.heap.size∨g=w1.heap.size+1):=by omega
 have HF05:=ai (hs15.cell HF0.o hgne);have HF15:=ai (hs15.cell HF1.o hgne);have hA5:w5.heap[w1.heap.size]?=some (.cells #[af 14,.string ⟨#[43]⟩,bf v,bC mu,.slice (some ⟨g,o,none⟩) 2 n1,.slice e2 n2 d2,.slice e3 n3 d3,af l,af c] 56 (0,0)):=hst5.keep hb4 om;have hB5:w5.heap[w1.heap.size+1]?=some (.cells #[af 0,af 0,af 0] 27 (0,0)):=hb5;have HA5:=ai hA5;have CJ:=ai hB5;have um:=ai hs5;have HCP:=ai hcp;have HGW:=ai hgw;clear hs5 hs15 hcp hA5 hB5 hb4 hb5 m_ hst5 A7;refine HCP.o.mono ?_;rintro e w6 ⟨⟨pv,rfl,xs,hrow2,hls⟩,h6⟩;obtain⟨pa,pc,rfl,-,-,-,hrow2⟩:=hrow2;obtain⟨g2,o2,rfl,-,hg2,hcell2⟩:=hrow2 (by simp);obtain⟨y1,y2,rfl,hit,-⟩:=hls;obtain⟨ct,vl,vt,vf,vw,vm,vb2,rfl,-⟩:=hit;have hf2:w6.cell? ⟨g2,o2+1,none⟩=some (.string ⟨#[102]⟩):=by rw[←hname];exact hcell2 1 _ rfl
 obtain⟨w7,hw7⟩:=bn (w6.alloc (.cells #[af 0,af 0,af 0] 27));have Y5:=nS hw7
 have HC7:=nB hw7
 have HW7:=ai hw7;have wX:=ai h6;have HF2:=ai hf2;have HG2:=ai hg2;clear hcell2 hrow2 hf2 h6 hw7 hg2;go_upto_region 3 with(first
  |(refine au (w:=w7) rfl 27 (.tmp 4) (.tmp 12) rfl w6.heap.size 0 27 _ [.int .i64 0,.int .i64 0,.int .i64 0] rfl rfl HC7.o Tryz.dG (Nat.le_of_eq rfl) (aP rfl) ?_;intro w8 hb8 hst8)
  |rw[←HW7.o])
 have hz1:=aC HA5.o;have hz2:=aC CJ.o;have hz3:=wX.o.size;have hz4:=HG2.o;have hz5:=um.o.size;have s78:Step (·=w6.heap.size) w6 w8:=(Y5.o.mono fe).trans hst8;have s58:Step (·=w6.heap.size) w5 w8:=(wX.o.mono fe).trans s78;have hA8:=s58.keep HA5.o om;have hB8:=s58.keep CJ.o om;have i0:=ah hA8 0 _ rfl;have i1:=ah hA8 1 _ rfl;have i4:=ah hA8 4 _ rfl;obtain⟨⟨j0,j1,j2⟩,-⟩:=wL hB8;have hb8':w8.heap[w6.heap.size]?=some (.cells #[af 0,af 0,af 0] 27 (0,0)):=hb8;obtain⟨⟨k0,k1,k3⟩,-⟩:=wL hb8';have n1:=s78.cell HF2.o (show¬g2=w6.heap.size by omega);have f0:=s58.cell HF05.o (show¬g=w6.heap.size by have:=HGW.o;omega);have f1:=s58.cell HF15.o (show¬g=w6.heap.size by have:=HGW.o;omega);have lI:Hid (jP w w8):=um.o.then s58 oi;clear hz1 hz2 hz3 hz4 hz5 s78 s58 hA8 hB8 hb8 hb8' hst8;go_wp2_with fail;go_ret;exact⟨rfl,lI.o⟩
theorem Step.back {S T:Nat→Prop} {w w':World} (h:Step S w w') (ht:∀q,q<w.heap.size→S q→T q):Step T w w':=⟨h.os,h.tape,h.output,h.size,fun k hk hn=>h.block k hk (fun e=>hn (ht k hk e))⟩
def gX (b:Nat) (xs:List ByteArray):Rb:=⟨fun _ X C=>∃v,X.heap[b]?=some (.cells #[v] 97 (0,0))∧C b∧(qU xs).r v X C∧v.ownBlock≠some b,
 ⟨fun hs hp ⟨v,h1,h2,h3,h4⟩=>⟨v,hs.keep h1 (hp b h2),h2,(qU xs).ok.step hs hp h3,h4⟩,fun hp ⟨v,h1,h2,h3,h4⟩=>⟨v,h1,hp b (aC h1) h2,(qU xs).ok.mono hp h3,h4⟩⟩⟩
def PrL (b:Nat) (xs:List ByteArray):Rb:=⟨fun u X C=>X.heap[b]?=some (.cells #[u] 97 (0,0))∧C b∧(qU xs).r u X C∧u.ownBlock≠some b,
 ⟨fun hs hp ⟨h1,h2,h3,h4⟩=>⟨hs.keep h1 (hp b h2),h2,(qU xs).ok.step hs hp h3,h4⟩,fun hp ⟨h1,h2,h3,h4⟩=>⟨h1,hp b (aC h1) h2,(qU xs).ok.mono hp h3,h4⟩⟩⟩
def PrM (b:Nat) (xs:List ByteArray):Rb:=⟨fun u X C=>(∃v,X.heap[b]?=some (.cells #[v] 97 (0,0)))∧C b∧(qU xs).r u X C∧u.ownBlock≠some b,
 ⟨fun hs hp ⟨⟨v,h1⟩,h2,h3,h4⟩=>⟨⟨v,hs.keep h1 (hp b h2)⟩,h2,(qU xs).ok.step hs hp h3,h4⟩,fun hp ⟨⟨v,h1⟩,h2,h3,h4⟩=>⟨⟨v,h1⟩,hp b (aC h1) h2,(qU xs).ok.mono hp h3,h4⟩⟩⟩
def Pt (b:Nat) (ys:List ByteArray) (C:Nat→Prop) (X:World) (e:Ending) (w':World):Prop:=e=.returned (.tuple #[])∧Step C X w'∧(gX b ys).r undef w' (fun q=>C q∨X.heap.size≤q)
section
variable {ops : Array Oper} {dI : List Sp} {N : Nat → Prop} {w1 : World} {o : Oper} {a : Act} {r : List Oper} {ss : List Sp}
theorem ON.ui {out o1 o2:Rb} {k1 k2:Nat} (t1:Tmp) (hy:∀X v1 v2 C D,Step N w1 X→o1.r v1 X C→o2.r v2 X D→(∀q,C q→N q)→(∀q,D q→N q∧¬C q)→Cj Tryz.prog o out (fun q=>C q∨D q) (a.put (some t1) v1) X) (h:qg ops dI N w1 r ss a) (hk1:(lG dI k1).out=o1.r:=by rfl) (hk2:(lG dI k2).out=o2.r:=by rfl) (ht1:dZ ops k1=some t1:=by rfl) (ht2:dZ ops k2=none:=by rfl) (hw:Region.wanted o (yielded ops a.tmps)=true:=by kernel_rfl):qg ops dI N w1 (o::r) (.r [k1,k2] out::ss) a:=
 ⟨⟨hw,fun X hX v1 C hv1 hC v2 D hv2 hD=>by
  unfold Uy;rw[ht1,ht2]
  exact Cj.mono (fun _ e=>e.imp .inr id) (hy X v1 v2 C D hX (by rw[←hk1];exact hv1) (by rw[←hk2];exact hv2) (fun q hq=>(hC q hq).1) (fun q hq=>⟨(hD q hq).1,fun hc=>(hD q hq).2 (.inr hc)⟩))⟩,h⟩
end
theorem Xt {b:Nat} {xs:List ByteArray} {v:Value} {X:World} {C:Nat→Prop} (h3:(qU xs).r v X C) (h4:v.ownBlock≠some b):(qU xs).r v X (fun q=>C q∧q≠b):=⟨h3.1,fun q hq=>⟨h3.2 q hq,fun e=>h4 (by rw[hq,e])⟩⟩
section
variable {ops : Array Oper} {dI : List Sp} {N : Nat → Prop} {w1 : World} {o : Oper} {a : Act} {r : List Oper} {ss : List Sp}
theorem ON.pl {b k:Nat} {xs:List ByteArray} {u:Value} (h:qg ops dI N w1 r ss a) (hy:∀X v,X.cell? ⟨b,0,none⟩=some v→o.wp Tryz.prog a X (fun a' X'=>a'=a.put o.dst v∧X'=X) QN:=by intro X v c0;go_simp) (hk:(lG dI k).out=(Kp (gX b xs) u).r:=by rfl) (ht:dZ ops k=none:=by rfl) (hw:Region.wanted o (yielded ops a.tmps)=true:=by kernel_rfl):qg ops dI N w1 (o::r) (.r [k] (PrL b xs)::ss) a:=
 ON.i (ok:=Kp (gX b xs) u) (fun X _ C hX hv _=>by
  obtain⟨v,h1,h2,h3,h4⟩:=hv
  exact Oper.wp_mono (fun a' X' ⟨e1,e2⟩=>⟨v,e1,by rw[e2];exact Step.refl _ _,by rw[e2];exact⟨h1,.inl h2,(qU xs).ok.mono (fun _ _ h=>.inl h) h3,h4⟩⟩) (hy X v (ah h1 0 _ rfl))) h hk ht hw
theorem ON.pa {b k:Nat} {xs ys:List ByteArray} (t x:Tmp) {u:Value} {D:Nat→Prop} (hu:∀X,Step N w1 X→jB X D u ys) (hl:xs.length+ys.length≤1000000000) (h:qg ops dI N w1 r ss a) (ho:o.op=.call {callee:=.builtin .append,args:= #[.tmp t,.tmp x],argTypes:= #[40,40]}:=by rfl) (hs:∀v,(a.put (some t) v).eval (.tmp t)=v:=by intro v;kernel_rfl) (hx:∀v,(a.put (some t) v).eval (.tmp x)=u:=by intro v;kernel_rfl) (hk:(lG dI k).out=(PrL b xs).r:=by rfl) (ht:dZ ops k=some t:=by rfl) (hw:Region.wanted o (yielded ops a.tmps)=true:=by kernel_rfl):qg ops dI N w1 (o::r) (.r [k] (PrM b (xs++ys))::ss) a:=
 ON.u t (ok:=PrL b xs) (fun X v C hX hv _=>by
  obtain⟨h1,h2,h3,h4⟩:=hv
  have h5:=WB _ _ ho (hs v) (hx v) (Xt h3 h4) (hu X hX) hl
  exact Oper.wp_mono (fun a' X' ⟨z,e1,e2,e3⟩=>⟨z,e1,e2.mono (fun _ _ h=>h.1),⟨v,e2.keep h1 (fun h=>h.2 rfl)⟩,.inl h2,(qU _).ok.mono (fun q _ h=>h.imp And.left id) e3,fun e=>(e3.2 b e).elim (fun h=>h.2 rfl) (fun h=>by have:=aC h1;omega)⟩) h5) h hk ht hw
theorem ON.ps {b k:Nat} {xs:List ByteArray} (t:Tmp) (h:qg ops dI N w1 r ss a) (hy:∀X oa n oc v,X.cell? ⟨b,0,none⟩=some v→X.frozen? ⟨b,0,none⟩=false→o.wp Tryz.prog (a.put (some t) (.slice oa n oc)) X (fun a' X'=>a'=(a.put (some t) (.slice oa n oc)).put o.dst undef∧X'=X.setCell ⟨b,0,none⟩ (.slice oa n oc)) QN:=by intro X oa n oc v c0 z0;go_simp) (hk:(lG dI k).out=(PrM b xs).r:=by rfl) (ht:dZ ops k=some t:=by rfl) (hw:Region.wanted o (yielded ops a.tmps)=true:=by kernel_rfl):qg ops dI N w1 (o::r) (.r [k] (gX b xs)::ss) a:=
 ON.u t (ok:=PrM b xs) (fun X z C hX hv _=>by
  obtain⟨⟨v,h1⟩,h2,h3,h4⟩:=hv
  obtain⟨oa,oc,rfl⟩:=b_ h3.1
  have hst:Step (fun q=>q=b) X (X.setCell ⟨b,0,none⟩ (.slice oa xs.length oc)):=bV.setCell _ _ jd
  exact Oper.wp_mono (fun a' X' ⟨e1,e2⟩=>⟨undef,e1,by rw[e2];exact hst.mono (fun q _ e=>by rw[e];exact h2),by
   rw[e2]
   exact⟨_,aU h1 0 _,.inl h2,(qU xs).ok.mono (fun _ _ h=>.inl h.1) ((qU xs).ok.step hst (fun q hq e=>hq.2 e) (Xt h3 h4)),h4⟩⟩) (hy X oa _ oc v (ah h1 0 _ rfl) (aH h1 _))) h hk ht hw
end
theorem put_any (b:Nat) (xs ys:List ByteArray) (u:Value) (w:World) (C D:Nat→Prop) (h:(gX b xs).r undef w C) (hu:jB w D u ys) (hd:∀q,D q→¬C q) (hl:xs.length+ys.length≤1000000000):Calls Tryz.prog 59 #[.pointer (some ⟨b,0,none⟩),u] w (Pt b (xs++ys) C w):=by
 obtain⟨N,hN⟩:∃N:Nat→Prop,N=fun q=>C q∨w.heap.size≤q:=⟨_,rfl⟩;have HN:Hid (∀q,w.heap.size≤q→N q):=show∀q,_ from fun q h=>by rw[hN];exact .inr h
 have HC:Hid (∀q,C q→N q):=show∀q,_ from fun q h=>by rw[hN];exact .inl h
 have HB:Hid (∀X,Step N w X→Step C w X):=show∀X,_ from fun X h=>h.back (fun q hq e=>by rw[hN]at e;exact e.resolve_right om);have HE:Hid (∀(q:Nat),N q→C q∨w.heap.size≤q):=show∀q,_ from fun q h=>by rw[hN]at h;exact h
 have HU:Hid (∀X,Step N w X→jB X D u ys):=show∀X,_ from fun X hX=>hu.step (HB.o X hX) hd;have H:=ai h;clear hu h hN;go_enter Tryz.func59,Tryz.ntmps59;refine fC N w [.p (.pointer (some ⟨b,0,none⟩)),.p (.pointer (some ⟨b,0,none⟩)),.p (.pointer (some ⟨b,0,none⟩)),.p (.pointer (some ⟨b,0,none⟩)),.r [10] (PrL b xs),.p u,.r [4] (PrM b (xs++ys)),.p (.pointer (some ⟨b,0,none⟩)),.p (.pointer (some ⟨b,0,none⟩)),.r [6] (gX b (xs++ys)),.r [] (Kp (gX b xs) undef)] HN.o kr bV (tq rfl rfl H.o HC.o) ?_ kr ?_
 ·refine ON.p ?_;refine ON.p ?_;refine ON.p ?_;refine ON.p ?_;refine ON.pl ?_;refine ON.p ?_;refine ON.pa 8 9 HU.o hl ?_;refine ON.p ?_;refine ON.p ?_;refine ON.ps 10 ?_;exact OB.nil
 intro V X f hX hf;have h9:(gX b (xs++ys)).r undef X (fun q=>N q∧f q=9):=hf 9 kr;simp only[pX,Act.put,List.setIfInBounds_toArray,List.set_cons_zero,List.set_cons_succ,Nat.zero_add];go_wp2;go_end0;exact⟨rfl,HB.o X hX,(gX b (xs++ys)).ok.mono (fun q _ h=>HE.o q h.1) h9⟩
theorem JR {o:Oper} {a:Act} {X:World} {b:Nat} {ys:List ByteArray} {C:Nat→Prop} {f:FuncId} {fn:Func} {xs:Array Operand} {ats:Array TypeId} {vs:Array Value} (ho:o.op=.call {callee:=.value (.func f),args:=xs,argTypes:=ats}) (hv:xs.map a.eval=vs) (hf:Tryz.prog.funcs[f]?=some fn) (hb:fn.body.isNone=false) (hn:(fn.name== "runtime.NumGoroutine")=false) (h:Calls Tryz.prog f vs X (Pt b ys C X)):Cj Tryz.prog o (gX b ys) C a X:=by obtain⟨dst,op,type,pos,after,guard⟩:=o;have ho:op=_:=ho;subst ho;unfold Cj Oper.wp;rw[execOp_call_go];simp only[Array.empty_append,Array.append_empty];rw[hv,EY hf hb hn];refine h.mono ?_;rintro e w' ⟨rfl,h1,h2⟩;exact⟨_,rfl,h1,h2⟩
section
variable {ops : Array Oper} {dI : List Sp} {N : Nat → Prop} {w1 : World} {o : Oper} {a : Act} {r : List Oper} {ss : List Sp}
theorem ON.pc {b k:Nat} {l l2:List ByteArray} {u:Value} {f:FuncId} {fn:Func} {xs:Array Operand} {ats:Array TypeId} (vs:Array Value) (hf:Tryz.prog.funcs[f]?=some fn) (hc:∀X C,Step N w1 X→(gX b l).r undef X C→(∀q,C q→N q)→Calls Tryz.prog f vs X (Pt b l2 C X)) (h:qg ops dI N w1 r ss a) (ho:o.op=.call {callee:=.value (.func f),args:=xs,argTypes:=ats}:=by rfl) (hv:xs.map a.eval=vs:=by kernel_rfl) (hb:fn.body.isNone=false:=by kernel_rfl) (hn:(fn.name== "runtime.NumGoroutine")=false:=by kernel_rfl) (hk:(lG dI k).out=(Kp (gX b l) u).r:=by rfl) (ht:dZ ops k=none:=by rfl) (hw:Region.wanted o (yielded ops a.tmps)=true:=by kernel_rfl):qg ops dI N w1 (o::r) (.r [k] (gX b l2)::ss) a:=
 ON.i (ok:=Kp (gX b l) u) (fun X _ C hX hp hC=>JR ho hv hf hb hn (hc X C hX hp hC)) h hk ht hw
theorem ON.put {b k1 k2:Nat} {l ys:List ByteArray} {u:Value} {xs:Array Operand} {ats:Array TypeId} (t:Tmp) (hl:l.length+ys.length≤1000000000) (h:qg ops dI N w1 r ss a) (ho:o.op=.call {callee:=.value (.func 59),args:=xs,argTypes:=ats}:=by rfl) (hv:∀v,xs.map (a.put (some t) v).eval= #[.pointer (some ⟨b,0,none⟩),v]:=by intro v;kernel_rfl) (hk1:(lG dI k1).out=(qU ys).r:=by rfl) (hk2:(lG dI k2).out=(Kp (gX b l) u).r:=by rfl) (ht1:dZ ops k1=some t:=by rfl) (ht2:dZ ops k2=none:=by rfl) (hw:Region.wanted o (yielded ops a.tmps)=true:=by kernel_rfl):qg ops dI N w1 (o::r) (.r [k1,k2] (gX b (l++ys))::ss) a:=
 ON.ui t (o1:=qU ys) (o2:=Kp (gX b l) u) (fun X v _ C D hX hv1 hv2 hC hD=>(JR ho (hv v) Tryz.func59 kr kr (put_any b l ys v X D C hv2 (qU.strs hv1) (fun q hq hd=>(hD q hd).2 hq) hl)).mono (fun _=>.inr)) h hk1 hk2 ht1 ht2 hw
end
theorem sz_0:∀{s:ByteArray},s.size=0→s=⟨#[]⟩
 |⟨a⟩,h=>by rw[Array.size_eq_zero_iff.1 (show a.size=0 from h)]
theorem MR (w:World) (C:Nat→Prop):∃N:Nat→Prop,Hid (∀q,w.heap.size≤q→N q)∧Hid (∀q,C q→N q)∧Hid (∀X,Step N w X→Step C w X)∧Hid (∀q,N q→C q∨w.heap.size≤q):=
 ⟨fun q=>C q∨w.heap.size≤q,fun _ h=>.inr h,fun _ h=>.inl h,fun _ h=>h.back (fun q hq e=>e.resolve_right om),fun _ h=>h⟩
theorem Pt.nop {b:Nat} {l:List ByteArray} {C:Nat→Prop} {w w':World} (h:(gX b l).r undef w C) (hs:Step Sf w w'):Pt b l C w (.returned (.tuple #[])) w':=
 ⟨rfl,hs.mono fe,(gX b l).ok.mono (fun _ _ h=>.inl h) ((gX b l).ok.step hs (fun _ _ h=>h) h)⟩
def BV (s:ByteArray):List ByteArray:=if s=⟨#[]⟩then[]else[s]
theorem JS (b:Nat) (l:List ByteArray) (s:ByteArray) (w:World) (C:Nat→Prop) (h:(gX b l).r undef w C) (hl:l.length+(BV s).length≤1000000000):Calls Tryz.prog 84 #[.pointer (some ⟨b,0,none⟩),.string s] w (Pt b (l++BV s) C w):=by
 obtain⟨N,HN,HC,HB,HE⟩:=MR w C;have H:=ai h;clear h;by_cases hs:s=⟨#[]⟩
 ·subst hs;go_enter Tryz.func84,Tryz.ntmps84;go_wp2;go_end0;rw[show l++BV ⟨#[]⟩=l by unfold BV;rw[if_pos rfl,List.append_nil]];exact Pt.nop H.o bV
 ·have hpos:0<s.size:=by
   rcases Nat.eq_zero_or_pos s.size with h|h
   ·exact absurd (sz_0 h) hs
   ·exact h
  have he:=mZ s hpos;have he':=mF s hpos;have HO:Hid (BV s=[s]):=show _=_ by unfold BV;rw[if_neg hs]
  have hl:l.length+1≤1000000000:=by rw[HO.o]at hl;exact hl
  clear hs hpos;go_enter Tryz.func84,Tryz.ntmps84;go_upto_region 1 with fail
  refine fC N w [.p (.pointer (some ⟨b,0,none⟩)),.p (.string s),.r [] (qU [s]),.r [2,4] (gX b (l++[s])),.r [] (Kp (gX b l) undef)] HN.o kr bV (tq rfl rfl H.o HC.o) ?_ kr ?_
  ·refine ON.p ?_;refine ON.p ?_;refine OB.bs [s] 1 ?_;refine ON.put 8 hl ?_;exact OB.nil
  intro V X f hX hf;have h9:(gX b (l++[s])).r undef X (fun q=>N q∧f q=3):=hf 3 kr;simp only[pX,Act.put,List.setIfInBounds_toArray,List.set_cons_zero,List.set_cons_succ,Nat.zero_add];go_wp2;go_end0;rw[HO.o];exact⟨rfl,HB.o X hX,(gX b (l++[s])).ok.mono (fun q _ h=>HE.o q h.1) h9⟩
def sO (kf:Nat) (caps:List Value) (b:Nat) (L:List (List ByteArray)) (C:Nat→Prop) (w:World):Prop:=∀(i:Nat) (y:List ByteArray) (X:World) (l:List ByteArray) (E:Nat→Prop),L[i]?=some y→Step C w X→(∀q,E q→C q∨w.heap.size≤q)→(gX b l).r undef X E→l.length+y.length≤1000000000→
 Calls Tryz.prog kf (.int .i64 i::caps).toArray X (Pt b (l++y) E X)
theorem vZ (kf:Nat) (caps:List Value) (b:Nat) (l:List ByteArray) (L:List (List ByteArray)) (w:World) (C:Nat→Prop) (hen:Enters kf) (h:(gX b l).r undef w C) (ho:sO kf caps b L C w) (hl:L.length≤100000000) (hb:l.length+(aO L).length≤1000000000):Calls Tryz.prog 99 #[.pointer (some ⟨b,0,none⟩),.int .i64 L.length,.func (.func kf) #[] caps.toArray] w (Pt b (l++aO L) C w):=by
 have H:=ai h;have HO:=ai ho;have HL:=ai hb;unfold Enters at hen;obtain⟨n,hn⟩:=bn L.length;have HN:=ai hn;rw[←hn]at hl⊢;clear h ho hn hb;go_enter Tryz.func99,Tryz.ntmps99;go_wp2_with fail;go_loopg [6,8] n (fun gg _ s8 wr=>∃(i:Nat),s8=.int .i64 i∧i≤n∧n-i≤gg∧(gX b (l++cm L i)).r undef wr (fun q=>C q∨w.heap.size≤q)∧Step C w wr);case atStart=>exact⟨0,rfl,Nat.zero_le _,by omega,by rw[cm,List.append_nil];exact(gX b l).ok.mono (fun _ _ h=>.inl h) H.o,Step.refl _ _⟩
 case round=>
  obtain⟨i,rfl,hi,hg,hp,hst⟩:=hrel;have HP:=ai hp;have HST:=ai hst;clear hp hst;by_cases hlt:i<n
  ·obtain⟨y,hy⟩:∃y,L[i]?=some y:=⟨L[i]'(by rw[←HN.o];exact hlt),List.getElem?_eq_getElem _⟩;(have hb7:(l++cm L i++sep i).length+y.length≤1000000000:=by have h11:=HL.o;have h12:=cm_le L (i+1) L.length (by rw[←HN.o];exact hlt);rw[cm,DN hy,List.length_append]at h12;unfold aO at h11;simp only[List.length_append]at h12⊢;omega);have Ll:=ai hb7;(have HX:Hid (l++cm L (i+1)=l++cm L i++sep i++y):=by show _=_;rw[cm,DN hy];simp only[List.append_assoc]);have HY:=ai hy;(have HON:Hid (∀X,Step C w X→(gX b (l++cm L i++sep i)).r undef X (fun q=>C q∨w.heap.size≤q)→Calls Tryz.prog kf (.int .i64 i::caps).toArray X fun e w'=>e=.returned (.tuple #[])∧(gX b (l++cm L (i+1))).r undef w' (fun q=>C q∨w.heap.size≤q)∧Step C w w'):=by intro X hX hp;refine(HO.o i y X _ _ HY.o hX (fun _ h=>h) hp Ll.o).mono ?_;rintro e w' ⟨he,h1,h2⟩;refine⟨he,?_,hX.then h1 (fun q hq e=>e.resolve_right om)⟩;rw[HX.o];exact(gX b _).ok.mono (fun q _ h=>h.elim id (fun h=>.inr (Nat.le_trans hX.size h))) h2);clear hb7 hy;by_cases h0:i=0
   ·subst h0;(have hp0:(gX b (l++cm L 0++sep 0)).r undef wr (fun q=>C q∨w.heap.size≤q):=by have h:=HP.o;rw[show sep 0=[] from rfl,List.append_nil];exact h);have HP0:=ai hp0;clear hp0;go_wp2_with fail;refine(HON.o wr HST.o HP0.o).mono ?_;rintro e w' ⟨rfl,h1,h2⟩;have H1:=ai h1;have H2:=ai h2;clear h1 h2;go_wp2_with fail;go_roundg (gk-1);case rel=>exact⟨1,by go_num,by omega,by omega,H1.o,H2.o⟩
    case measure=>omega
   ·(have hi0:0<i:=by omega);(have hs:sep i=[⟨#[44]⟩]:=by unfold sep;rw[if_pos hi0]);have HSP:=ai hs;clear hs h0;(go_upto_region 4 with fail);go_wp2_with fail;have hal:Step Sf wr (wr.alloc (.cells #[.string ⟨#[44]⟩] 9)):=bV.alloc _;have hp1:(gX b (l++cm L i)).r undef (wr.alloc (.cells #[.string ⟨#[44]⟩] 9)) (fun q=>(C q∨w.heap.size≤q)∧q<wr.heap.size):=(gX b _).ok.step hal (fun _ _ h=>h) ((gX b _).ok.mono (fun q hq h=>⟨h,hq⟩) HP.o);refine(put_any b _ [⟨#[44]⟩] _ _ _ (fun q=>wr.heap.size≤q) hp1 (qU.strs (qU.mk (xs:=[⟨#[44]⟩]) (n:=1) rfl dc dc)) (fun q h1 h2=>by omega) (by have h:=Ll.o;rw[HSP.o]at h;simp only[List.length_append,List.length_cons,List.length_nil]at h⊢;omega)).mono ?_;rintro e w' ⟨rfl,h1,h2⟩;have hsw:w.heap.size≤wr.heap.size:=HST.o.size;have hsa:=hal.size;have h3:Step C w w':=(HST.o.trans (hal.mono fe)).then h1 (fun q hq e=>e.1.resolve_right om);(have h4:(gX b (l++cm L i++sep i)).r undef w' (fun q=>C q∨w.heap.size≤q):=by rw[HSP.o];exact(gX b _).ok.mono (fun q _ h=>h.elim And.left (fun h=>.inr (Nat.le_trans (Nat.le_trans hsw hsa) h))) h2);have HC:=ai (HON.o w' h3 h4);clear hal hp1 h1 h2 h3 h4 hsw hsa;go_wp2_with fail;refine HC.o.mono ?_;rintro e w2 ⟨rfl,h1,h2⟩;have H1:=ai h1;have H2:=ai h2;clear h1 h2;go_wp2_with fail;go_roundg (gk-1);case rel=>exact⟨i+1,by go_num,by omega,by omega,H1.o,H2.o⟩
    case measure=>omega
  ·(have hin:i=L.length:=by have:=HN.o;omega);subst hin;go_wp2_with fail;go_end0;exact⟨rfl,HST.o,HP.o⟩
def Pk (b:Nat) (l:List ByteArray) (N:Nat→Prop) (w1 X:World):Prop:=(gX b l).r undef X N∧Step N w1 X
theorem bQ {b:Nat} {l:List ByteArray} {C:Nat→Prop} {w w1:World} (h:(gX b l).r undef w C) (hs:Step Sf w w1):∃N:Nat→Prop,Hid (∀q,w1.heap.size≤q→N q)∧Hid (Pk b l N w1 w1)∧Hid (∀X l',Pk b l' N w1 X→Pt b l' C w (.returned (.tuple #[])) X)∧Hid (∀X,Step N w1 X→Step C w X)∧Hid (∀q,w.heap.size≤q→q<w1.heap.size→¬N q)∧Hid (∀D:Nat→Prop,(∀q,D q→¬C q)→∀q,D q∧q<w.heap.size→¬N q):=by
 have hz:=hs.size
 have hst:∀X,Step (fun q=>(C q∧q<w.heap.size)∨w1.heap.size≤q) w1 X→Step C w X:=fun X hX=>(hs.mono fe).then hX (fun q hq e=>by
  rcases e with e|e
  ·
   exact e.1
  ·
   omega)
 refine⟨fun q=>(C q∧q<w.heap.size)∨w1.heap.size≤q,fun q h=>.inr h,⟨?_,Step.refl _ _⟩,?_,hst,?_,?_⟩
 ·have h1:=(gX b l).ok.mono (P':=fun q=>C q∧q<w.heap.size) (fun q hq h=>⟨h,hq⟩) h;exact(gX b l).ok.mono (fun _ _ h=>.inl h) ((gX b l).ok.step hs (fun _ _ h=>h) h1)
 ·rintro X l' ⟨h1,h2⟩;exact⟨rfl,hst X h2,(gX b l').ok.mono (fun q _ h=>h.imp And.left (fun h=>Nat.le_trans hz h)) h1⟩
 ·rintro q h1 h2 (h3|h3)
  ·omega
  ·omega
 ·rintro D hD q ⟨h1,h2⟩ (h3|h3)
  ·exact hD q h1 h3.1
  ·omega
theorem aap {b:Nat} {l:List ByteArray} {C:Nat→Prop} {w:World} (L:List Value) (t:TypeId) (h:(gX b l).r undef w C):∃W:World,W=w.alloc (.cells L.toArray t)∧∃N:Nat→Prop,Hid (∀q,W.heap.size≤q→N q)∧Hid (Pk b l N W W)∧Hid (∀X l',Pk b l' N W X→Pt b l' C w (.returned (.tuple #[])) X)∧Hid (∀X,Step N W X→Step C w X)∧Hid (∀q,w.heap.size≤q→q<W.heap.size→¬N q)∧Hid (∀D:Nat→Prop,(∀q,D q→¬C q)→∀q,D q∧q<w.heap.size→¬N q)∧Hid (∀X,Step N W X→∀(j:Nat) u,L[j]?=some u→X.cell? ⟨w.heap.size,j,none⟩=some u):=by have hs:Step Sf w (w.alloc (.cells L.toArray t)):=bV.alloc _;obtain⟨N,HN,HP,HF,HS,HO,HD⟩:=bQ h hs;refine⟨_,rfl,N,HN,HP,HF,HS,HO,HD,?_⟩;show∀X,_;intro X hX j u hu;have hbk:(w.alloc (.cells L.toArray t)).heap[w.heap.size]?=some (.cells L.toArray t (0,0)):=aB _ _;exact ah (hX.keep hbk (HO.o _ (Nat.le_refl _) (aC hbk))) j u (by simpa using hu)
theorem aaw {b:Nat} {l:List ByteArray} {C:Nat→Prop} {w:World} (L:List Value) (t:TypeId) (h:(gX b l).r undef w C):∃W:World,W=w.alloc (.cells L.toArray t)∧∃N:Nat→Prop,Hid (∀q,W.heap.size≤q→N q)∧Hid (Pk b l N W W)∧Hid (∀X l',Pk b l' N W X→Pt b l' C w (.returned (.tuple #[])) X)∧Hid (∀X,Step N W X→Step C w X)∧Hid (∀q,w.heap.size≤q→q<W.heap.size→¬N q)∧Hid (∀D:Nat→Prop,(∀q,D q→¬C q)→∀q,D q∧q<w.heap.size→¬N q)∧Hid (∀X,Step N W X→∀(j:Nat) u,L[j]?=some u→X.cell? ⟨w.heap.size,0+j,none⟩=some u):=by obtain⟨W,hW,N,HN,HP,HF,HS,HO,HD,HL⟩:=aap L t h;refine⟨W,hW,N,HN,HP,HF,HS,HO,HD,?_⟩;show∀X,_;intro X hX j u hu;rw[Nat.zero_add];exact HL.o X hX j u hu
theorem aan {N C D:Nat→Prop} {w W:World} {v:Value} {n:Nat} {xs:List Value} (HS:Hid (∀X,Step N W X→Step C w X)) (hD:∀q,D q→¬C q) (h:aS w D v n xs):Hid (∀X,Step N W X→aS X (fun q=>D q∧q<w.heap.size) v n xs):=show∀_,_ from fun X hX=>(aS.mono h (fun _ hq h=>⟨h,hq⟩)).step (HS.o X hX) (fun q hq=>hD q hq.1)
theorem aau {N C D:Nat→Prop} {w W:World} {v:Value} {xs:List ByteArray} (HS:Hid (∀X,Step N W X→Step C w X)) (hD:∀q,D q→¬C q) (h:jB w D v xs):Hid (∀X,Step N W X→jB X (fun q=>D q∧q<w.heap.size) v xs):=show∀_,_ from fun X hX=>(aS.mono h (fun _ hq h=>⟨h,hq⟩)).step (HS.o X hX) (fun q hq=>hD q hq.1)
theorem okc {α:Type} {x y:α} {j:Nat} (h:x=y):dB.ok x j=dB.ok y j:=by rw[h]
theorem aat {N C D:Nat→Prop} {w W:World} {x:Ty} {xs:List Value} (HS:Hid (∀X,Step N W X→Step C w X)) (hD:∀q,D q→¬C q) (h:dJ w D x xs):Hid (∀X,Step N W X→dJ X (fun q=>D q∧q<w.heap.size) x xs):=show∀_,_ from fun X hX=>dJ.step (HS.o X hX) (fun q hq=>hD q hq.1) _ _ (dJ.mono (fun _ hq h=>⟨h,hq⟩) _ _ h)
theorem aav {N C D:Nat→Prop} {w W:World} {x:List Ty} {xs:List Value} (HS:Hid (∀X,Step N W X→Step C w X)) (hD:∀q,D q→¬C q) (h:dM w D x xs):Hid (∀X,Step N W X→dM X (fun q=>D q∧q<w.heap.size) x xs):=show∀_,_ from fun X hX=>dM.step (HS.o X hX) (fun q hq=>hD q hq.1) _ _ (dM.mono (fun _ hq h=>⟨h,hq⟩) _ _ h)
theorem aay {N C D:Nat→Prop} {w W:World} {x:Ex} {xs:List Value} (HS:Hid (∀X,Step N W X→Step C w X)) (hD:∀q,D q→¬C q) (h:cZ w D x xs):Hid (∀X,Step N W X→cZ X (fun q=>D q∧q<w.heap.size) x xs):=show∀_,_ from fun X hX=>cZ.step (HS.o X hX) (fun q hq=>hD q hq.1) _ _ (cZ.mono (fun _ hq h=>⟨h,hq⟩) _ _ h)
theorem aaq {N C D:Nat→Prop} {w W:World} {x:List Ex} {xs:List Value} (HS:Hid (∀X,Step N W X→Step C w X)) (hD:∀q,D q→¬C q) (h:bF w D x xs):Hid (∀X,Step N W X→bF X (fun q=>D q∧q<w.heap.size) x xs):=show∀_,_ from fun X hX=>bF.step (HS.o X hX) (fun q hq=>hD q hq.1) _ _ (bF.mono (fun _ hq h=>⟨h,hq⟩) _ _ h)
theorem aao {N C D:Nat→Prop} {w W:World} {x:List St} {xs:List Value} (HS:Hid (∀X,Step N W X→Step C w X)) (hD:∀q,D q→¬C q) (h:bU w D x xs):Hid (∀X,Step N W X→bU X (fun q=>D q∧q<w.heap.size) x xs):=show∀_,_ from fun X hX=>bU.step (HS.o X hX) (fun q hq=>hD q hq.1) _ _ (bU.mono (fun _ hq h=>⟨h,hq⟩) _ _ h)
section
variable {b : Nat} {l ys : List ByteArray} {N : Nat → Prop} {w1 X : World}
theorem Pk.call {f:FuncId} {args:Array Value} (hN:∀q,w1.heap.size≤q→N q) (h:Pk b l N w1 X) (hc:(gX b l).r undef X N→Calls Tryz.prog f args X (Pt b ys N X)):Calls Tryz.prog f args X (fun e w'=>e=.returned (.tuple #[])∧Pk b ys N w1 w'):=by refine(hc h.1).mono ?_;rintro e w' ⟨rfl,h1,h2⟩;have hz:=h.2.size;exact⟨rfl,(gX b ys).ok.mono (fun q _ h=>h.elim id (fun h=>hN q (Nat.le_trans hz h))) h2,h.2.trans h1⟩
theorem Pk.put (xs:List ByteArray) {n:Nat} (hN:∀q,w1.heap.size≤q→N q) (h:Pk b l N w1 X) (hl:l.length+xs.length≤1000000000) (hn:xs.length=n:=by rfl) (hp:0<n:=by decide) (hm:n≤1000000000:=by decide):Calls Tryz.prog 59 #[.pointer (some ⟨b,0,none⟩),.slice (some ⟨X.heap.size,0,none⟩) n n] (X.alloc (.cells (xs.map Value.string).toArray 9)) (fun e w'=>e=.returned (.tuple #[])∧Pk b (l++xs) N w1 w'):=by have hal:Step Sf X (X.alloc (.cells (xs.map Value.string).toArray 9)):=bV.alloc _;have hp1:(gX b l).r undef (X.alloc (.cells (xs.map Value.string).toArray 9)) (fun q=>N q∧q<X.heap.size):=(gX b _).ok.step hal (fun _ _ h=>h) ((gX b _).ok.mono (fun q hq h=>⟨h,hq⟩) h.1);refine(put_any b _ xs _ _ _ (fun q=>X.heap.size≤q) hp1 (qU.strs (qU.mk hn hp hm)) (fun q h1 h2=>by omega) hl).mono ?_;rintro e w' ⟨rfl,h1,h2⟩;have hsz:=h.2.size;have hsa:=hal.size;exact⟨rfl,(gX b _).ok.mono (fun q _ h=>h.elim And.left (fun h=>hN q om)) h2,h.2.trans ((hal.mono fe).then h1 (fun q hq e=>e.1))⟩
end
theorem hqQ {p:Prop} (h:p:=by have h:=HB.o;simp only[List.length_append,List.length_cons,List.length_nil]at h⊢;omega):p:=h
theorem hrQ {p:Prop} (h:p:=by have h:=HB.o;simp only[qh,List.length_append,List.length_cons,List.length_nil]at h⊢;omega):p:=h
theorem aaF {b:Nat} {l:List ByteArray} {N:Nat→Prop} {w1 X:World} {Q:Ending→World→Prop} (xs:List ByteArray) {n:Nat} (h:Hid (Pk b l N w1 X)) (k:∀X0,Hid (Pk b (l++xs) N w1 X0)→Q (.returned (.tuple #[])) X0) (hN:Hid (∀q,w1.heap.size≤q→N q):=by exact HN) (hl:l.length+xs.length≤1000000000:=by have h:=HB.o;simp only[List.length_append,List.length_cons,List.length_nil]at h⊢;omega) (hn:xs.length=n:=by rfl) (hp:0<n:=by decide) (hm:n≤1000000000:=by decide):Calls Tryz.prog 59 #[.pointer (some ⟨b,0,none⟩),.slice (some ⟨X.heap.size,0,none⟩) n n] (X.alloc (.cells (xs.map Value.string).toArray 9)) Q:=
 (Pk.put xs hN.out h.out hl hn hp hm).mono fun e X0 h0=>by rw[h0.1];exact k X0 (ai h0.2)
theorem aaG {b:Nat} {l ys:List ByteArray} {N:Nat→Prop} {w1 X:World} {Q:Ending→World→Prop} {f:FuncId} {args:Array Value} (h:Hid (Pk b l N w1 X)) (hc:(gX b l).r undef X N→Calls Tryz.prog f args X (Pt b ys N X)) (k:∀X0,Hid (Pk b ys N w1 X0)→Q (.returned (.tuple #[])) X0) (hN:Hid (∀q,w1.heap.size≤q→N q):=by exact HN):Calls Tryz.prog f args X Q:=
 (Pk.call hN.out h.out hc).mono fun e X0 h0=>by rw[h0.1];exact k X0 (ai h0.2)
section
variable {ops : Array Oper} {dI : List Sp} {N : Nat → Prop} {w1 : World} {o : Oper} {a : Act} {r : List Oper} {ss : List Sp}
theorem aam {X:World} {b:Nat} {ys:List ByteArray} {C:Nat→Prop} {f:FuncId} {fn:Func} {t:Nat} {xs:Array Operand} {ats:Array TypeId} {vs bs:Array Value} (ho:o.op=.call {callee:=.value (.tmp t),args:=xs,argTypes:=ats}) (hb:a.eval (.tmp t)=.func (.func f) bs #[]) (hv:bs++xs.map a.eval=vs) (hf:Tryz.prog.funcs[f]?=some fn) (hbn:fn.body.isNone=false) (hn:(fn.name== "runtime.NumGoroutine")=false) (h:Calls Tryz.prog f vs X (Pt b ys C X)):Cj Tryz.prog o (gX b ys) C a X:=by
 have he:execOp a.eval o=callFunc f vs:=by unfold execOp;simp[ho,resolve,Deferred.ofValue,invoke,hb,hv]
 unfold Cj Oper.wp;rw[he,EY hf hbn hn];refine h.mono ?_;rintro e w' ⟨rfl,h1,h2⟩;exact⟨_,rfl,h1,h2⟩
theorem ON.pcv {b k:Nat} {l l2:List ByteArray} {u:Value} {f:FuncId} {fn:Func} {t:Nat} {xs:Array Operand} {ats:Array TypeId} (vs bs:Array Value) (hf:Tryz.prog.funcs[f]?=some fn) (hc:∀X C,Step N w1 X→(gX b l).r undef X C→(∀q,C q→N q)→Calls Tryz.prog f vs X (Pt b l2 C X)) (h:qg ops dI N w1 r ss a) (ho:o.op=.call {callee:=.value (.tmp t),args:=xs,argTypes:=ats}:=by rfl) (hb:a.eval (.tmp t)=.func (.func f) bs #[]:=by kernel_rfl) (hv:bs++xs.map a.eval=vs:=by kernel_rfl) (hbn:fn.body.isNone=false:=by kernel_rfl) (hn:(fn.name== "runtime.NumGoroutine")=false:=by kernel_rfl) (hk:(lG dI k).out=(Kp (gX b l) u).r:=by rfl) (ht:dZ ops k=none:=by rfl) (hw:Region.wanted o (yielded ops a.tmps)=true:=by kernel_rfl):qg ops dI N w1 (o::r) (.r [k] (gX b l2)::ss) a:=
 ON.i (ok:=Kp (gX b l) u) (fun X _ C hX hp hC=>aam ho hb hv hf hbn hn (hc X C hX hp hC)) h hk ht hw
end
theorem GX:Enters 128:=fun xs w=>by go_simp
theorem TS (b pb rb:Nat) (xs:List ByteArray) (a:Option Addr) (c:Nat) (D:Nat→Prop) (i:Nat) (x:ByteArray) (w:World) (l:List ByteArray) (E:Nat→Prop) (hx:xs[i]?=some x) (h:(gX b l).r undef w E) (h1:w.heap[pb]?=some (.cells #[fM b 0] 95 (0,0))) (h2:w.heap[rb]?=some (.cells #[.slice a xs.length c] 40 (0,0))) (hv:jB w D (.slice a xs.length c) xs) (hn1:¬E pb) (hn2:¬E rb) (hD:∀q,D q→¬E q) (hl:l.length+1≤1000000000) (hxl:xs.length≤100000000):Calls Tryz.prog 128 #[.int .i64 i,.pointer (some ⟨pb,0,none⟩),.pointer (some ⟨rb,0,none⟩)] w (Pt b (l++[x]) E w):=by
 obtain⟨N,HN,HC,HB,HE⟩:=MR w E;obtain⟨n,hn⟩:=bn xs.length;have hi:i<n:=by rw[hn];exact(List.getElem?_eq_some_iff.1 hx).1
 obtain⟨_,_,he,-,-,-,hr⟩:=hv;cases he;obtain⟨g,o,rfl,h6,h7,h9⟩:=hr om;have h10:=h9 i (.string x) (by rw[List.getElem?_map,hx];rfl);have Kz:Hid (∀X,Step N w X→X.cell? ⟨g,o+i,none⟩=some (.string x)):=show∀X,_ from fun X hX=>(HB.o X hX).cell h10 (hD g h6);have H1:Hid (∀X,Step N w X→X.cell? ⟨pb,0,none⟩=some (.pointer (some ⟨b,0,none⟩))):=show∀X,_ from fun X hX=>ah ((HB.o X hX).keep h1 hn1) 0 _ rfl;have H2:Hid (∀X,Step N w X→X.cell? ⟨rb,0,none⟩=some (.slice (some ⟨g,o,none⟩) xs.length c)):=show∀X,_ from fun X hX=>ah ((HB.o X hX).keep h2 hn2) 0 _ rfl;have H:=ai h;rw[←hn]at H2 hxl;clear h h1 h2 hr h6 h7 h9 h10 hx hD hn1 hn2 hn;go_enter Tryz.func128,Tryz.ntmps128;refine fC N w [.p (.pointer (some ⟨b,0,none⟩)),.p (.slice (some ⟨g,o,none⟩) n c),.p (.int .i64 i),.p (.pointer (some ⟨g,o+i,none⟩)),.p (.string x),.r [] (qU [x]),.r [5,7] (gX b (l++[x])),.r [] (Kp (gX b l) undef)] HN.o kr bV (tq rfl rfl H.o HC.o) ?_ kr ?_
 ·refine ON.p ?_ (fun X hX=>by have c:=H1.o X hX;go_simp);refine ON.p ?_ (fun X hX=>by have c:=H2.o X hX;go_simp);refine ON.p ?_;refine ON.p ?_;refine ON.p ?_ (fun X hX=>by have c:=Kz.o X hX;go_simp);refine OB.bs [x] 1 ?_;refine ON.put 9 hl ?_;exact OB.nil
 intro V X f hX hf;have h9:(gX b (l++[x])).r undef X (fun q=>N q∧f q=6):=hf 6 kr;simp only[pX,Act.put,List.setIfInBounds_toArray,List.set_cons_zero,List.set_cons_succ,Nat.zero_add];go_wp2;go_end0;exact⟨rfl,HB.o X hX,(gX b (l++[x])).ok.mono (fun q _ h=>HE.o q h.1) h9⟩
theorem MS (b:Nat) (l xs:List ByteArray) (v:Value) (w:World) (C D:Nat→Prop) (h:(gX b l).r undef w C) (hv:jB w D v xs) (hD:∀q,D q→¬C q) (hl:xs.length≤100000000) (hb:l.length+(aO (cO xs)).length≤1000000000):Calls Tryz.prog 98 #[.pointer (some ⟨b,0,none⟩),v] w (Pt b (l++aO (cO xs)) C w):=by
 obtain⟨a,c,rfl⟩:=hv.parts;obtain⟨W,hW⟩:=bn ((w.alloc (.cells #[fM b 0] 95)).alloc (.cells #[.slice a xs.length c] 40));have hs:Step Sf w W:=by rw[hW];exact(bV.alloc _).alloc _
 obtain⟨N,HN,HP,HF,HS,HO,HD⟩:=bQ h hs;have h1:W.heap[w.heap.size]?=some (.cells #[fM b 0] 95 (0,0)):=by rw[hW];exact aN (aB _ _)
 have h2:W.heap[w.heap.size+1]?=some (.cells #[.slice a xs.length c] 40 (0,0)):=by rw[hW];exact fO _ _ _
 have hz:=aC h2;have c1:=ah h1 0 _ rfl;have c2:=ah h2 0 _ rfl;have hv2:jB w (fun q=>D q∧q<w.heap.size) (.slice a xs.length c) xs:=aS.mono hv (fun q hq h=>⟨h,hq⟩);have JU:Hid (sO 128 [.pointer (some ⟨w.heap.size,0,none⟩),.pointer (some ⟨w.heap.size+1,0,none⟩)] b (cO xs) N W):=by
  show sO _ _ _ _ _ _;intro i y X l' E hy hX hE hp hl';have Bv:∀q,E q→N q:=fun q hq=>(hE q hq).elim id (HN.o q);rw[cO,List.getElem?_map]at hy;cases hx:xs[i]? with
  |none=>rw[hx]at hy;cases hy
  |some x=>rw[hx]at hy;cases hy;exact TS b _ _ xs a c (fun q=>D q∧q<w.heap.size) i x X l' E hx hp (hX.keep h1 (HO.o _ om om)) (hX.keep h2 (HO.o _ om om)) (hv2.step (HS.o X hX) (fun q hq=>hD q hq.1)) (fun e=>HO.o _ om om (Bv _ e)) (fun e=>HO.o _ om om (Bv _ e)) (fun q hq e=>HD.o D hD q hq (Bv q e)) hl' hl
 have HW:=ai hW;have HH:=ai hb;have hln:(cO xs).length=xs.length:=by rw[cO,List.length_map]
 have hc:=vZ 128 [.pointer (some ⟨w.heap.size,0,none⟩),.pointer (some ⟨w.heap.size+1,0,none⟩)] b l (cO xs) W N GX HP.o.1 JU.o (by rw[hln];exact hl) hb;rw[hln]at hc;have vU:Hid _:=hc;obtain⟨n,hn⟩:=bn xs.length;rw[←hn]at c2 hl vU HW⊢;clear hc hln hb hW hs h h1 h2 hz hv hv2 hD hn JU;go_enter Tryz.func98,Tryz.ntmps98;go_upto_region 1 with fail
 rw[←HW.o];go_wp2_with fail;refine(Pk.call HN.o HP.o (fun _=>vU.o)).mono ?_;rintro e w' ⟨rfl,hk⟩;have HK:=ai hk;clear hk;go_wp2_with fail;go_end0;exact HF.o _ _ HK.o
end Go.Proofs.YtggjfinekcenpaaGreat
