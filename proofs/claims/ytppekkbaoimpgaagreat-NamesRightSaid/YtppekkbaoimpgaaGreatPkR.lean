import Derived.Test.YtppekkbaoimpgaaGreatPkQ
import Derived.ProofKit
import Derived.Orders
set_option maxRecDepth 100000
set_option maxHeartbeats 80000000
namespace Go.Proofs.YtppekkbaoimpgaaGreat
open Go.RowKit
open Vt
def TyB (t:Ty):Prop:=NV t≤8001∧mF t
def Uu (l:List Bd):Prop:=l.length≤16∧∀b∈l,b.uw.length+b.aB.length≤8
def Ql (l:List Pm):Prop:=l.length≤12∧∀p∈l,TyB p.ty
structure MtB (m:Mt):Prop where
 lf:m.aB.length≤8
 ps:Ql m.params
 rt:TyB m.ret
 wh:Uu m.wh
def XM (l:List Mt):Prop:=l.length≤12∧∀m∈l,MtB m
structure Eb (x:It):Prop where
 kd:x.kind=1∨x.kind=2∨x.kind=3∨x.kind=4
 gn:x.gen.aB.length+x.gen.types.length≤8
 fs:Ql x.fields
 rt:TyB x.ret
 wh:Uu x.wh
 ms:XM x.methods
theorem KX:TyB dR:=⟨by rw[dR,NV,sO];decide,by rw[dR,mF];exact⟨by decide,jl.nil⟩⟩
theorem EI:Ql []:=⟨Nat.zero_le _,fun _ h=>nomatch h⟩
theorem KY:Uu []:=⟨Nat.zero_le _,fun _ h=>nomatch h⟩
theorem Q_:XM []:=⟨Nat.zero_le _,fun _ h=>nomatch h⟩
theorem qH {α:Type} {P:α→Prop} {l:List α} {x:α} (h:∀y∈l,P y) (hx:P x):∀y∈l++[x],P y:=by
 intro y hy;rcases List.mem_append.1 hy with h1|h1
 ·exact h y h1
 ·rw[List.mem_singleton]at h1;subst h1;exact hx
section
variable {l : List Tok} (hl : oZ l)
theorem XO:∀(f i:Nat) (ls ts:List ByteArray),bU (fun g=>g.aB.length+g.types.length≤8) (lD f l i ls ts)
 |0,i,ls,ts=>by rw[lD];exact bU.out
 |f+1,i,ls,ts=>by
  rw[lD]
  refine Dw.bind ?_
  intro _ i hr
  refine bU.bind (Q:=fun p=>p.1.length+p.2.length≤8) ?_ ?_
  ·
   split
   ·
    exact(bU.any _).bind fun x j _=>bU.ok (by simp;omega)
   ·
    exact(bU.any _).bind fun x j _=>bU.ok (by simp;omega)
  ·
   intro p j h
   split
   ·
    exact XO f _ _ _
   ·
    exact(bU.any _).bind fun _ j _=>bU.ok h
theorem XP (f i:Nat):bU (fun g=>g.aB.length+g.types.length≤8) (jC f l i):=by
 unfold jC;split
 ·exact XO _ _ _ _
 ·exact bU.ok (by simp)
theorem NW:∀(f i:Nat) (p:Bool) (ts ls:List ByteArray),bU (fun q=>q.1.length+q.2.length≤8) (gW f l i p ts ls)
 |0,i,p,ls,ts=>by rw[gW];exact bU.out
 |f+1,i,p,ls,ts=>by
  rw[gW]
  refine Dw.bind ?_
  intro _ i hr
  refine bU.bind (Q:=fun p=>p.1.length+p.2.length≤8) ?_ ?_
  ·
   split
   ·
    exact(bU.any _).bind fun x j _=>bU.ok (by simp;omega)
   ·
    exact(bU.any _).bind fun x j _=>bU.ok (by simp;omega)
  ·
   intro p j h
   split
   ·
    exact NW f _ _ _ _
   ·
    exact bU.ok h
theorem bound_b (f i:Nat):bU (fun b=>b.uw.length+b.aB.length≤8) (qN f l i):=by unfold qN;refine(bU.any _).bind fun p j _=> ?_;refine(bU.any _).bind fun _ j _=> ?_;exact(NW _ _ _ _ _).bind fun q j h=>bU.ok h
theorem NY:∀(f i:Nat) (acc:List Bd),(∀b∈acc,b.uw.length+b.aB.length≤8)→bU Uu (lT f l i acc)
 |0,i,acc,_=>by rw[lT];exact bU.out
 |f+1,i,acc,ha=>by
  rw[lT]
  refine Dw.bind ?_
  intro _ i hr
  refine(bound_b _ _).bind fun b j hb=> ?_
  have h2:=qH (P:=fun b:Bd=>b.uw.length+b.aB.length≤8) ha hb
  split
  ·
   exact NY f _ _ h2
  ·
   exact bU.ok ⟨by simp;omega,h2⟩
theorem KZ (f i:Nat):bU Uu (bY f l i):=by
 unfold bY;split
 ·exact NY _ _ _ lu
 ·exact bU.ok KY
include hl
theorem XQ:∀(f i d:Nat) (e:List UInt8) (m:Nat) (acc:List Pm),m≤12→(∀p∈acc,TyB p.ty)→bU Ql (oP f l i d e m acc)
 |0,i,d,e,m,acc,_,_=>by rw[oP];exact bU.out
 |f+1,i,d,e,m,acc,hm,ha=>by
  rw[oP]
  refine Dw.bind ?_
  intro _ i hr
  refine(bU.any _).bind fun n j _=> ?_
  refine(bU.any _).bind fun _ j _=> ?_
  refine(ty_h hl _ _ _).bind fun t j ht=> ?_
  have h2:=qH (P:=fun p:Pm=>TyB p.ty) (x:=⟨n,t,(tokA l i).line,(tokA l i).col⟩) ha ht
  split
  ·
   exact XQ f _ _ _ _ _ hm h2
  ·
   exact(bU.any _).bind fun _ j _=>bU.ok ⟨by simp;omega,h2⟩
theorem Gs (f i d:Nat) (e:List UInt8) (m:Nat) (hm:m≤12):bU Ql (dw f l i d e m):=by
 unfold dw;split
 ·exact bU.ok EI
 ·exact XQ hl _ _ _ _ _ _ hm lu
theorem ret_b (f i d:Nat):bU TyB (iw f l i d):=by
 unfold iw;split
 ·exact ty_h hl _ _ _
 ·exact bU.ok KX
theorem XR (f i d:Nat) (body:Bool):bU MtB (kN f l i d body):=by
 unfold kN;refine(bU.any _).bind fun _ j _=> ?_;refine(bU.any _).bind fun n j _=> ?_;refine(XP _ _).bind fun g j hg=> ?_;refine(bU.any _).bind fun _ j _=> ?_;refine(bU.any _).bind fun _ j _=> ?_;refine(bU.any _).bind fun _ k _=> ?_;refine bU.bind (Q:=Ql) ?_ fun ps k hp=> ?_
 ·split
  ·split
   ·exact bU.fail
   ·exact Gs hl _ _ _ _ _ dc
  ·exact(bU.any _).bind fun _ j _=>bU.ok EI
 refine(ret_b hl _ _ _).bind fun t k ht=> ?_;refine(KZ _ _).bind fun wh k hw=> ?_;refine(bU.any _).bind fun b k _=> ?_;exact bU.ok ⟨by show g.aB.length≤8;omega,hp,ht,hw⟩
theorem Rf:∀(f i d:Nat) (body:Bool) (acc:List Mt),acc.length≤12→(∀m∈acc,MtB m)→bU XM (kY f l i d body acc)
 |0,i,d,body,acc,_,_=>by rw[kY];exact bU.out
 |f+1,i,d,body,acc,hn,ha=>by
  rw[kY]
  split
  ·
   exact bU.ok ⟨hn,ha⟩
  refine Dw.bind ?_
  intro _ i hr
  refine(XR hl _ _ _ _).bind fun m j hm=> ?_
  exact Rf f _ _ _ _ (by simp;omega) (qH ha hm)
theorem Jk (f i d:Nat) (body:Bool):bU XM (dn f l i d body):=by unfold dn;exact(bU.any _).bind fun _ j _=>Rf hl _ _ _ _ _ (Nat.zero_le _) lu
theorem item_b (f i d:Nat):bU Eb (jD f l i d):=by
 unfold jD;split
 ·refine(bU.any _).bind fun n j _=> ?_;refine(XP _ _).bind fun g j hg=> ?_;refine(bU.any _).bind fun _ j _=> ?_;exact(Gs hl _ _ _ _ _ dc).bind fun fs j hf=>bU.ok ⟨.inl rfl,hg,hf,KX,KY,Q_⟩
 split
 ·refine(bU.any _).bind fun n j _=> ?_;exact(Jk hl _ _ _ _).bind fun ms j hm=>bU.ok ⟨.inr (.inl rfl),Nat.zero_le 8,EI,KX,KY,hm⟩
 split
 ·refine(bU.any _).bind fun n j _=> ?_;refine(bU.any _).bind fun _ j _=> ?_;refine(bU.any _).bind fun h j _=> ?_;refine(KZ _ _).bind fun wh j hw=> ?_;exact(Jk hl _ _ _ _).bind fun ms j hm=>bU.ok ⟨.inr (.inr (.inl rfl)),Nat.zero_le 8,EI,KX,hw,hm⟩
 split
 ·refine(bU.any _).bind fun n j _=> ?_;refine(XP _ _).bind fun g j hg=> ?_;refine(bU.any _).bind fun _ j _=> ?_;refine(Gs hl _ _ _ _ _ dc).bind fun fs j hf=> ?_;refine(ret_b hl _ _ _).bind fun t j ht=> ?_;refine(KZ _ _).bind fun wh j hw=> ?_;refine(bU.any _).bind fun b j _=> ?_;exact bU.ok ⟨.inr (.inr (.inr rfl)),hg,hf,ht,hw,Q_⟩
 ·exact bU.fail
theorem Rh:∀(f i d:Nat) (acc:List It),acc.length≤60→(∀x∈acc,Eb x)→bU (fun r=>r.length≤60∧∀x∈r,Eb x) (kF f l i d acc)
 |0,i,d,acc,_,_=>by rw[kF];exact bU.out
 |f+1,i,d,acc,hn,ha=>by
  rw[kF]
  split
  ·
   exact bU.ok ⟨hn,ha⟩
  refine Dw.bind ?_
  intro _ i hr
  refine(item_b hl _ _ _).bind fun m j hm=> ?_
  exact Rh f _ _ _ (by simp;omega) (qH ha hm)
end
theorem prog_b {s:List UInt8} {l:List It} (h:wY s=.ok l):l.length≤60∧∀x∈l,Eb x:=by
 unfold wY Il at h;split at h
 ·cases h
 ·rename_i toks he;split at h
  ·rename_i a j hr;cases h;unfold Ik at hr;split at hr
   ·rename_i a2 j2 hr2;split at hr
    ·cases hr;exact Rh (F5 he).1 _ _ _ [] (Nat.zero_le _) lu _ _ hr2
    ·cases hr
   ·cases hr
   ·cases hr
  ·cases h
  ·cases h
theorem yE (ls:List ByteArray) (x:ByteArray) (ln cl:Int):(jI ls x ln cl).length≤1:=Ti _ _ _ _
theorem Dx (ls:List ByteArray) (ln cl:Int):∀l:List ByteArray,(jH ls ln cl l).length≤l.length
 |[]=>Nat.le_refl _
 |x::r=>by
  rw[jH,List.length_append,List.length_cons]
  have:=Dx ls ln cl r
  have:=yE ls x ln cl
  omega
theorem Dy {c:Prop} [Decidable c] {e:Er}:(if c then[]else[e]).length≤1:=by split<;>simp
theorem ru {c:Prop} [Decidable c] {e:Er}:(if c then[e]else[]).length≤1:=by split<;>simp
theorem namE_le (T:Tab) (s:Sc) (n:ByteArray) (nl na:Nat) (ln cl:Int):(Dt T s n nl na ln cl).length≤1:=by
 unfold Dt;split
 ·exact ru
 ·split
  ·simp
  ·split
   ·simp
   ·exact ru
mutual
theorem K_ (T:Tab) (s:Sc):∀(b:Bool) (t:Ty),(qO T s b t).length≤3*NV t
 |b,.mk k n lf _ ls ar ln cl=>by
  rw[qO,NV]
  have h1:=Dz T s true ar
  have h2:=Dz T s false ar
  split
  ·
   omega
  split
  ·
   rw[List.length_append]
   have:(if lf.size=0∧s.dF=true then[]else jI s.aB lf ln cl).length≤1:=by split;simp;exact yE _ _ _ _
   omega
  split
  ·
   rw[List.length_append,List.length_append]
   have h3:(if lf.size=0 then[]else jI s.aB lf ln cl).length≤1:=by split;simp;exact yE _ _ _ _
   have h4:(if b=true then[]else[((5:Int),ln,cl)]).length≤1:=Dy
   have h5:(if(T.tr n).isSome=true then[]else[((3:Int),ln,cl)]).length≤1:=Dy
   omega
  split
  ·
   rw[List.length_append,List.length_append]
   have h3:=Dx s.aB ln cl ls
   have h4:=namE_le T s n ls.length ar.length ln cl
   omega
  ·
   simp
theorem Dz (T:Tab) (s:Sc):∀(b:Bool) (l:List Ty),(g_ T s b l).length≤3*sO l
 |b,[]=>by rw[g_];simp
 |b,t::r=>by
  rw[g_,sO,List.length_append]
  have h1:=K_ T s b t
  have h2:=Dz T s b r
  omega
end
mutual
theorem Gt:∀t:Ty,(jU t).length≤NV t
 | .mk k n _ _ ls ar _ _=>by
  rw[jU,NV]
  split
  ·
   rw[List.length_cons];have:=Jl ar;omega
  ·
   simp
theorem Jl:∀l:List Ty,(kZ l).length≤sO l
 |[]=>by rw[kZ];simp
 |t::r=>by
  rw[kZ,sO,List.length_append]
  have:=Gt t
  have:=Jl r
  omega
end
theorem EK (ln cl:Int):∀(l d:List ByteArray),(sW ln cl d l).length≤l.length
 |[],d=>by rw[sW];simp
 |x::r,d=>by
  rw[sW,List.length_append,List.length_cons]
  have:=EK ln cl r (d++[x])
  have:(if eqS x stat||d.any (eqS x)then[((4:Int),ln,cl)]else[]).length≤1:=ru
  omega
theorem Ri (T:Tab) (ln cl:Int):∀(l:List ByteArray),(BM T ln cl l).length≤l.length
 |[]=>by rw[BM];simp
 |x::r=>by
  rw[BM,List.length_append,List.length_cons]
  have:=Ri T ln cl r
  have:(if(T.st x).isSome=true then[((4:Int),ln,cl)]else[]).length≤1:=ru
  omega
theorem XT (T:Tab) (ln cl:Int):∀(l:List ByteArray),(P9 T ln cl l).length≤l.length
 |[]=>by rw[P9];simp
 |x::r=>by
  rw[P9,List.length_append,List.length_cons]
  have:=XT T ln cl r
  have:(if(T.tr x).isSome=true then[]else[((3:Int),ln,cl)]).length≤1:=Dy
  omega
theorem genE_le (T:Tab) (g:Gn) (ln cl:Int):(BN T g ln cl).length≤g.aB.length+2*g.types.length:=by rw[BN,List.length_append,List.length_append];have:=EK ln cl g.aB [];have:=EK ln cl g.types [];have:=Ri T ln cl g.types;omega
theorem NZ (T:Tab) (s:Sc):∀(l d:List Pm),(∀p∈l,TyB p.ty)→(lU T s d l).length≤l.length*24004
 |[],d,_=>by rw[lU];simp
 |x::r,d,h=>by
  rw[lU,List.length_append,List.length_append,List.length_cons]
  have h1:=NZ T s r (d++[x]) (fun p hp=>h p (List.mem_cons_of_mem _ hp))
  have h2:(if d.any (fun y=>eqS y.name x.name)then[((4:Int),x.line,x.col)]else[]).length≤1:=ru
  have h3:=K_ T s false x.ty
  have h4:=(h x List.mem_cons_self).1
  omega
theorem La (T:Tab) (s:Sc) {l:List Pm} (h:Ql l):(lU T s [] l).length≤288048:=by have h1:=NZ T s l [] h.2;have h2:=h.1;omega
theorem Rj (T:Tab) (s:Sc) {t:Ty} (h:TyB t):(BL T s t).length≤24003:=by
 unfold BL;split
 ·simp
 ·have h3:=K_ T s false t;have h4:=h.1;omega
theorem XU (T:Tab) (s:Sc):∀(l:List Bd),(∀b∈l,b.uw.length+b.aB.length≤8)→(Ap T s l).length≤l.length*9
 |[],_=>by rw[Ap];simp
 |x::r,h=>by
  rw[Ap,List.length_append,List.length_append,List.length_append,List.length_cons]
  have h1:=XU T s r (fun p hp=>h p (List.mem_cons_of_mem _ hp))
  have h2:(bnE s x).length≤1:=by
   unfold bnE
   split
   ·
    exact yE _ _ _ _
   ·
    exact Dy
  have h3:=XT T x.line x.col x.uw
  have h5:=Dx s.aB x.line x.col x.aB
  have h4:=h x List.mem_cons_self
  omega
theorem Lc (T:Tab) (s:Sc) {l:List Bd} (h:Uu l):(Ap T s l).length≤144:=by have h1:=XU T s l h.2;have h2:=h.1;omega
theorem mtE_le (T:Tab) (g:Gn) (d:List Mt) {m:Mt} (hg:g.aB.length≤8) (h:MtB m):(mtE T g d m).length≤320000:=by
 rw[mtE,List.length_append,List.length_append,List.length_append,List.length_append,List.length_append];have h1:(if d.any (fun y=>eqS y.name m.name)then[((4:Int),m.line,m.col)]else[]).length≤1:=ru;have h2:=EK m.line m.col (g.aB++m.aB) [];have h3:(if m.life.size=0 then[]else jI (g.aB++m.aB) m.life m.line m.col).length≤1:=by split;simp;exact yE _ _ _ _
 have h4:=La T ⟨g.aB++m.aB,g.types,true⟩ h.ps;have h5:=Rj T ⟨g.aB++m.aB,g.types,true⟩ h.rt;have h6:=Lc T ⟨g.aB++m.aB,[],false⟩ h.wh;have h7:=h.lf;rw[List.length_append]at h2;omega
theorem Rk (T:Tab) (g:Gn) (hg:g.aB.length≤8):∀(l d:List Mt),(∀m∈l,MtB m)→(pI T g d l).length≤l.length*320000
 |[],d,_=>by rw[pI];simp
 |x::r,d,h=>by
  rw[pI,List.length_append,List.length_cons]
  have h1:=Rk T g hg r (d++[x]) (fun p hp=>h p (List.mem_cons_of_mem _ hp))
  have h2:=mtE_le T g d hg (h x List.mem_cons_self)
  omega
theorem N7 (T:Tab) (g:Gn) (hg:g.aB.length≤8) {l:List Mt} (h:XM l):(pI T g [] l).length≤3840000:=by have h1:=Rk T g hg l [] h.2;have h2:=h.1;omega
theorem XV:∀(l:List Bd),(NH l).length≤l.length
 |[]=>by rw[NH];simp
 |x::r=>by
  rw[NH,List.length_append,List.length_cons]
  have:=XV r
  have:(if 0<x.aB.length then[((8:Int),x.line,x.col)]else[]).length≤1:=ru
  omega
theorem Rl (tr:It):∀(l:List Mt),(BP tr l).length≤l.length
 |[]=>by rw[BP];simp
 |x::r=>by
  rw[BP,List.length_append,List.length_cons]
  have:=Rl tr r
  have:(D_ tr x).length≤1:=by
   unfold D_
   split
   ·
    simp
   ·
    exact ru
  omega
theorem Rn (x:It):∀(l:List Mt),(yx x l).length≤l.length
 |[]=>by rw[yx];simp
 |m::r=>by
  rw[yx,List.length_append,List.length_cons]
  have:=Rn x r
  have:(if(yw x.methods m.name).isSome then[]else[((3:Int),x.line,x.col)]).length≤1:=Dy
  omega
theorem Eb.fit {x:It} (h:Eb x):Gi x:=⟨by have:=h.gn;omega,fun p hp=>(h.fs.2 p hp).2,h.rt.2,fun m hm=>⟨fun p hp=>((h.ms.2 m hm).ps.2 p hp).2,(h.ms.2 m hm).rt.2,(h.ms.2 m hm).lf⟩⟩
theorem Tab.get_mem {T:Tab} {m:ByteArray→Option Nat} {s:ByteArray} {x:It} (h:T.get m s=some x):x∈T.items:=by
 unfold Tab.get at h;cases hm:m s with
 |none=>rw[hm]at h;cases h
 |some i=>rw[hm]at h;exact List.mem_of_getElem? h
theorem XW (T:Tab) (hT:∀x∈T.items,Eb x) {x:It} (h:Eb x):(yA T x).length≤3900000:=by
 rw[yA,List.length_append,List.length_append,List.length_append,List.length_append];have h1:(if lJ x.head||(T.st x.head).isSome then[]else[((3:Int),x.line,x.col)]).length≤1:=Dy;have h2:=XV x.wh;have h3:=Lc T ⟨[],(T.of x.head).types,false⟩ h.wh;have h4:=N7 T (T.of x.head) (Tab.Xp (fun x hx=>(hT x hx).fit) _) h.ms;have h5:=h.wh.1;have h7:=h.ms.1;have h6:(Qb T x).length≤24:=by
  unfold Qb;split
  ·simp
  ·rename_i tr ht;rw[List.length_append];have h8:=Rl tr x.methods;have h9:=Rn x tr.methods;have h10:=(hT tr (Tab.get_mem ht)).ms.1;omega
 omega
theorem itE_le (T:Tab) (hT:∀x∈T.items,Eb x) {x:It} (h:Eb x):(Qg T x).length≤4000000:=by
 unfold Qg;have h1:=genE_le T x.gen x.line x.col;have h2:=h.gn;have h3:=La T ⟨x.gen.aB,x.gen.types,false⟩ h.fs;have h4:=La T ⟨x.gen.aB,x.gen.types,true⟩ h.fs;have h5:=Rj T ⟨x.gen.aB,x.gen.types,true⟩ h.rt;have h6:=Lc T ⟨x.gen.aB,x.gen.types,true⟩ h.wh;have h7:=XW T hT h;have h8:=N7 T jW dc h.ms;split
 ·rw[List.length_append];omega
 split
 ·omega
 split
 ·omega
 split
 ·rw[List.length_append,List.length_append,List.length_append];omega
 ·simp
theorem Ro (T:Tab) (hT:∀x∈T.items,Eb x):∀(l:List It),(∀x∈l,Eb x)→(l.flatMap (Qg T)).length≤l.length*4000000
 |[],_=>by simp
 |x::r,h=>by
  rw[List.flatMap_cons,List.length_append,List.length_cons]
  have h1:=Ro T hT r (fun p hp=>h p (List.mem_cons_of_mem _ hp))
  have h2:=itE_le T hT (h x List.mem_cons_self)
  omega
theorem XY (T:Tab) (F:Nat):∀(l:List It) (i:Nat),(Iz T F i l).length≤l.length
 |[],i=>by rw[Iz];simp
 |x::r,i=>by
  rw[Iz,List.length_append,List.length_cons]
  have:=XY T F r (i+1)
  have:(Qh T F i x).length≤1:=by unfold Qh;exact ru
  omega
theorem entF_le (T:Tab) (i:Nat) (x:It):(jd T i x).2.length≤1:=by
 unfold jd;split
 ·split<;>simp
 ·split<;>simp
theorem XZ:∀(l:List It) (T:Tab) (i:Nat),(qo T i l).2.length≤l.length
 |[],_,_=>by rw[qo];simp
 |x::r,T,i=>by
  rw[qo]
  show(_++_:List Er).length≤_
  rw[List.length_append,List.length_cons]
  have:=XZ r (jd T i x).1 (i+1)
  have:=entF_le T i x
  omega
theorem newE_le (F:Nat) {l:List It} (h:∀x∈l,Eb x) (hn:l.length≤100):(yD F l).length≤1000000000:=by unfold yD;rw[List.length_append,List.length_append];have h1:=XZ l (uy l) 0;have h2:=Ro (mJ l) (by rw[oH];exact h) l h;have h3:=XY (mJ l) F l 0;omega
structure Ld (T:Tab):Prop where
 st:∀s i,T.st s=some i→∃x,T.items[i]?=some x∧x.name=s∧x.kind=1
 tr:∀s i,T.tr s=some i→∃x,T.items[i]?=some x∧x.name=s∧x.kind=2
 fn:∀s i,T.fn s=some i→∃x,T.items[i]?=some x∧x.name=s∧x.kind=4
 im:∀s t i,T.im s t=some i→∃x,T.items[i]?=some x∧x.name=s∧x.head=t∧x.kind=3
theorem Qm {m:ByteArray→Option Nat} {Q:ByteArray→Nat→Prop} {s:ByteArray} {i:Nat} (h:∀s j,m s=some j→Q s j) (hi:Q s i):∀x j,tq m s i x=some j→Q x j:=by
 intro x j hj;unfold tq at hj;split at hj
 ·rename_i he;cases hj;rw[fF.1 he];exact hi
 ·exact h x j hj
theorem Ld.ent {T:Tab} (h:Ld T) {i:Nat} {x:It} (hx:T.items[i]?=some x) (hk:x.kind=1∨x.kind=2∨x.kind=3∨x.kind=4):Ld (jd T i x).1:=by
 unfold jd;split
 ·rename_i h3;split
  ·exact h
  ·refine⟨h.st,h.tr,h.fn,?_⟩;intro s t j hj;have hj':xh T.im x.name x.head i s t=some j:=hj;unfold xh at hj';split at hj'
   ·rename_i he;cases hj';rw[Bool.and_eq_true]at he;exact⟨x,hx,(fF.1 he.1).symm,(fF.1 he.2).symm,h3⟩
   ·exact h.im s t j hj'
 ·rename_i h3;split
  ·exact h
  ·show Ld (Tab.put _ _ _ _);unfold Tab.put;split
   ·rename_i h1;exact⟨Qm (Q:=fun s j=>∃y,T.items[j]?=some y∧y.name=s∧y.kind=1) h.st ⟨x,hx,rfl,h1⟩,h.tr,h.fn,h.im⟩
   ·split
    ·rename_i h1;exact⟨h.st,Qm (Q:=fun s j=>∃y,T.items[j]?=some y∧y.name=s∧y.kind=2) h.tr ⟨x,hx,rfl,h1⟩,h.fn,h.im⟩
    ·exact⟨h.st,h.tr,Qm (Q:=fun s j=>∃y,T.items[j]?=some y∧y.name=s∧y.kind=4) h.fn ⟨x,hx,rfl,by omega⟩,h.im⟩
theorem enL_w:∀(l:List It) (T:Tab) (i:Nat),Ld T→(∀k x,l[k]?=some x→T.items[i+k]?=some x∧(x.kind=1∨x.kind=2∨x.kind=3∨x.kind=4))→Ld (qo T i l).1
 |[],_,_,h,_=>h
 |x::r,T,i,h,hx=>by
  rw[qo]
  have h0:=hx 0 x rfl
  refine enL_w r _ (i+1) (h.ent h0.1 h0.2) (fun k y hy=> ?_)
  have h1:=hx (k+1) y hy
  rw[Ae]
  rw[Nat.add_assoc,Nat.add_comm 1 k]
  exact h1
theorem X4 {l:List It} (h:∀x∈l,Eb x):Ld (mJ l):=
 enL_w l (uy l) 0 ⟨(fun _ _ h=>nomatch h),(fun _ _ h=>nomatch h),(fun _ _ h=>nomatch h),(fun _ _ _ h=>nomatch h)⟩ (fun k x hx=>⟨by rw[Nat.zero_add];exact hx,(h x (List.mem_of_getElem? hx)).kd⟩)
theorem DC:∀(n:Nat) (l:List Nat),l.Nodup→(∀x∈l,x<n)→l.length≤n
 |0,l,_,h=>by
  cases l with
  |nil=>simp
  |cons a r=>exact absurd (h a (List.mem_cons_self ..)) (Nat.not_lt_zero _)
 |n+1,l,hn,h=>by
  by_cases hm:n∈l
  ·
   have h1:=DC n (l.erase n) (hn.erase n) (fun x hx=>by
     have h2:=(hn.mem_erase_iff).1 hx
     have:=h x h2.2
     have h3:=h2.1
     omega)
   have h2:=List.length_erase_of_mem hm
   omega
  ·
   have:=DC n l hn (fun x hx=>by
     have h2:=h x hx
     have h3:x≠n:=fun e=>hm (e▸hx)
     omega)
   omega
structure IC (T:Tab) (out:List ByteArray):Prop where
 nd:out.Nodup
 st:∀s∈out,(T.st s).isSome=true
theorem IC.len {T:Tab} (hT:Ld T) {out:List ByteArray} (h:IC T out):out.length≤T.items.length:=by
 have h1:((out.map fun s=>(T.st s).getD 0)).Nodup:=by
  have h2:∀l:List ByteArray,l.Nodup→(∀s∈l,(T.st s).isSome=true)→(l.map fun s=>(T.st s).getD 0).Nodup:=by
   intro l;induction l with
   |nil=>intro _ _;exact List.nodup_nil
   |cons a r ih=>intro hn hs;rw[List.nodup_cons]at hn;rw[List.map_cons,List.nodup_cons];refine⟨fun hm=> ?_,ih hn.2 (fun s hs'=>hs s (List.mem_cons_of_mem _ hs'))⟩;obtain⟨b,hb,he⟩:=List.mem_map.1 hm;obtain⟨i,hi⟩:=Option.isSome_iff_exists.1 (hs a List.mem_cons_self);obtain⟨j,hj⟩:=Option.isSome_iff_exists.1 (hs b (List.mem_cons_of_mem _ hb));rw[hi,hj]at he;have he2:j=i:=he;subst he2;obtain⟨x,hx,hxa,-⟩:=hT.st _ _ hi;obtain⟨y,hy,hyb,-⟩:=hT.st _ _ hj;rw[hx]at hy;cases hy;exact hn.1 (by rw[←hxa,hyb];exact hb)
  exact h2 out h.nd h.st
 have h3:=DC T.items.length _ h1 (fun i hi=>by
  obtain⟨s,hs,rfl⟩:=List.mem_map.1 hi
  obtain⟨j,hj⟩:=Option.isSome_iff_exists.1 (h.st s hs)
  obtain⟨x,hx,-⟩:=hT.st _ _ hj
  rw[hj]
  exact(List.getElem?_eq_some_iff.1 hx).1)
 simpa using h3
theorem qp {l:List ByteArray} {s:ByteArray}:l.any (eqS s)=true↔s∈l:=by
 rw[List.any_eq_true];constructor
 ·rintro⟨x,hx,h⟩;rw[fF.1 h];exact hx
 ·intro h;exact⟨s,h,fF.2 rfl⟩
theorem Uw {T:Tab} {x:It} {st:List ByteArray×List ByteArray} {s:ByteArray} (h:IC T st.1):IC T (stepW T x st s).1:=by
 unfold stepW;split
 ·rename_i hc;rw[Bool.and_eq_true,Bool.and_eq_true]at hc;refine⟨?_,?_⟩
  ·show(st.1++[s]).Nodup;rw[List.nodup_append];refine⟨h.nd,by simp,?_⟩;intro a ha b hb e;rw[List.mem_singleton]at hb;subst hb;subst e;have:=qp.2 ha;rw[this]at hc;exact absurd hc.2 dc
  ·intro t ht;rcases List.mem_append.1 ht with h1|h1
   ·exact h.st t h1
   ·rw[List.mem_singleton]at h1;subst h1;exact hc.1.1
 ·exact h
theorem DF {α:Type} {T:Tab} (f:List ByteArray×List ByteArray→α→List ByteArray×List ByteArray) (hf:∀st a,IC T st.1→IC T (f st a).1):∀(l:List α) (st:List ByteArray×List ByteArray),IC T st.1→IC T (l.foldl f st).1
 |[],_,h=>h
 |a::r,st,h=>by rw[List.foldl_cons];exact DF f hf r _ (hf st a h)
theorem Ec {T:Tab} (hT:Ld T):∀(f:Nat) (q out:List ByteArray),IC T out→q.length+T.items.length<f+out.length→∃res,iI T f q out=some res∧IC T res
 |0,q,out,ho,h=>by have:=ho.len hT;omega
 |f+1,[],out,ho,h=>⟨out,by rw[iI],ho⟩
 |f+1,t::r,out,ho,h=>by
  rw[iI]
  generalize (T.get T.st t).getD qZ=x
  have h1:=sN (yB T x) (fun st p=>by unfold yB;exact sN _ (Gl T x) _ _) x.fields (out,r)
  have h2:=DF (T:=T) (yB T x) (fun st p h=>by unfold yB;exact DF _ (fun st a h=>Uw h) _ _ h) x.fields (out,r) ho
  refine Ec hT f _ _ h2 ?_
  obtain⟨h3,h4⟩:=h1
  rw[List.length_cons]at h
  have h5:(List.foldl (yB T x) (out,r) x.fields).2.length+out.length=r.length+(List.foldl (yB T x) (out,r) x.fields).1.length:=h4
  omega
def BV:Nat:=1000
theorem Gu {l:List It} (h:∀x∈l,Eb x) (hn:l.length≤100) (s:ByteArray):∃res,iI (mJ l) BV [s] []=some res∧res.length≤1000000:=by have hT:=X4 h;obtain⟨res,h1,h2⟩:=Ec hT BV [s] [] ⟨List.nodup_nil,fun _ h=>nomatch h⟩ (by rw[oH];unfold BV;simp;omega);have h3:=h2.len hT;rw[oH]at h3;exact⟨res,h1,by omega⟩
theorem new_any (l:List It) (vl:Value) (w:World) (hl:l.length≤100) (hb:∀x∈l,Eb x) (h:ig lm w (fun k=>k<w.heap.size) l vl):Calls Tryz.prog 21 #[vl] w (KU BV l w):=
 XI BV l vl w om (fun x hx=>(hb x hx).fit) (fun x hx p hp=>by have h1:=Gt p.ty;have h2:=((hb x hx).fs.2 p hp).1;omega) (fun x _=>Gu hb hl x.name) (newE_le BV hb hl) h
theorem tfn_any {IM:World→Nat→(ByteArray→ByteArray→Option Nat)→Prop} (him:x_ IM) (tb:Nat) (T:Tab) (P:Nat→Prop) (s:ByteArray) (w:World) (hT:TabAt IM tb T w P) (hs:s.size≤9223372036854775807) (hP:∀k,P k→k<w.heap.size):Calls Tryz.prog 27 #[.pointer (some ⟨tb,0,none⟩),.string s] w (GetPost P T T.fn s w):=by
 obtain⟨w1,hw1⟩:=aN (w.alloc (.cells UQ.toArray 51));have HST:=nS hw1
 have HB1:=nB hw1
 have HW1:=au hw1;have ht:=(sJ him tb T).step HST.o (fun _ _ h=>h) hT;obtain⟨vi,ms,mt,mf,mi,h1,h2,h3,h4,h5,h6⟩:=ht.ex;have HIT:=au (Dq him tb T P T.fn mf s w1 ht h5.2 (fun i hi=>hT.fn s i hi) hs (fun k hk=>Nat.lt_of_lt_of_le (hP k hk) HST.o.size));have t1:=aj h1 3 _ rfl;have HP:=au hP;clear hw1 hT ht h1 h2 h3 h4 h5 h6 hP;go_enter Tryz.func27,Tryz.ntmps27;go_upto_region 1 with fail
 rw[←HW1.o];go_wp2_with fail;refine HIT.o.mono ?_;rintro e w2 ⟨⟨cs,rfl,hat⟩,h2⟩;have HB2:=au (h2.keep HB1.o (fun h=>h));have qx:=au (HST.o.trans h2);have HAT:=au hat;have lq:Hid ((Tryz.prog.info? 51).map (·.size)=some cs.length):=by rw[aQ.len _ _ hat];exact Tryz.dI
 have wG:=au (aQ.len _ _ hat);clear h2 hat t1;go_wp2_with (refine fM rfl 51 (.tmp 4) (.tmp 16) rfl w.heap.size 51 _ cs rfl rfl HB2.o lq.o (by rw[wG.o];rfl) (aQ.one _ _ HAT.o) ?_;intro wR hbR bW);refine bodyPost_ret (gI rfl _ w.heap.size 51 cs _ _ rfl rfl hbR Tryz.underlying51 rfl lq.o) rfl ?_;exact⟨⟨cs,rfl,aQ.step _ _ bW (fun k hk e=>by have:=HP.o k hk;omega) HAT.o⟩,qx.o.then bW (fun i hi e=>by omega)⟩
def yF (s:ByteArray):Option (List It):=if s.size≤6000 then(match wY s.data.toList with| .ok l=>some l| .error _=>none)else none
theorem Rq {s:ByteArray} {l:List It} (h:yF s=some l):l.length≤60∧∀x∈l,Eb x:=by
 unfold yF at h;split at h
 ·split at h
  ·rename_i l2 h2;cases h;exact prog_b h2
  ·cases h
 ·cases h
theorem wJ {fn:Func} {t u v x:Tmp} (h:fn.results= #[.tmp t,.tmp u,.tmp v,.tmp x]) (tmps:Array Value) (P:Program) (w:World):(results fn tmps).run P w=.ok (.tuple #[tmps.getD t undef,tmps.getD u undef,tmps.getD v undef,tmps.getD x undef]) w:=by simp[results,h]
def qI (r:Option (List It)) (w:World) (e:Ending) (w':World):Prop:=
 (match r with
  |none=>e=.returned (.tuple #[ay,.pointer none,ay,aT])
  |some l=>∃(cb tb:Nat) (vl v:Value),e=.returned (.tuple #[vl,eU tb 0,v,dW true])∧w.heap.size≤cb∧w.heap.size≤tb∧ig lm w' (fun k=>w.heap.size≤k) l vl∧mQ cb (.pointer (some ⟨tb,0,none⟩)) (TabAt Gp tb (mJ l)) w' v (yD BV l))∧StF w w'
theorem qI.no {w w':World} (h:StF w w'):qI none w (.returned (.tuple #[ay,.pointer none,ay,aT])) w':=⟨rfl,h⟩
theorem Gv (s:ByteArray) (w:World) (m:Int) (hm:w.cell? ⟨0,0,none⟩=some (.int .i64 m)):Calls Tryz.prog 18 #[.string s] w (qI (yF s) w):=by
 have HM:=au hm;have HCE:=au (Ud s w m hm);have UO:Hid (∀c ln col,wY s.data.toList=.error (c,ln,col)→c≠0):=fun c ln col e=>Nq (fun l c ln col hl he=>(BH hl).code he) e
 obtain⟨R,hR⟩:=aN (yF s);rw[←hR];have HB:Hid (∀l,R=some l→l.length≤60∧∀x∈l,Eb x):=fun l e=>Rq (hR.symm.trans e)
 have HR:Hid (R=if s.size≤6000 then(match wY s.data.toList with| .ok l=>some l| .error _=>none)else none):=hR;clear hm hR;obtain⟨r,hr⟩:=aN (wY s.data.toList);rw[←hr]at HCE UO HR;clear hr;go_enter Tryz.func18,Tryz.ntmps18;go_upto_region 1 with fail
 go_wp2_with fail;refine HCE.o.mono ?_;cases r with
 |error q=>
  obtain⟨c,ln,col⟩:=q;obtain⟨ec,hec⟩:∃e:Int,e=(c:Nat):=⟨_,rfl⟩;obtain⟨eln,heln⟩:∃e:Int,e=(ln:Nat):=⟨_,rfl⟩;obtain⟨ecol,hecol⟩:∃e:Int,e=(col:Nat):=⟨_,rfl⟩;have hc0:=UO.o c ln col rfl;have bc:(ec==0)=false:=by rw[beq_eq_false_iff_ne,hec];omega
  have pG:Hid (R=none):=by show _=_;rw[HR.o];split<;>rfl
  rintro e w1 ⟨he,h1⟩;have he:e=.returned (.tuple #[ay,.agg #[ak (c:Nat),ak (ln:Nat),ak (col:Nat)]]):=he;rw[←hec,←heln,←hecol]at he;subst he;have dH:=au h1;clear h1 hc0 hec heln hecol UO HCE HR;obtain⟨w2,hw2⟩:=aN (w1.alloc (.cells #[ak 0,ak 0,ak 0] 27));have HS2:=nS hw2
  have HB2:=nB hw2
  have HW2:=au hw2;clear hw2;go_upto_region 2 with(first
   |(refine aG (w:=w2) rfl 27 (.tmp 7) (.tmp 14) rfl w1.heap.size 0 27 _ [.int .i64 ec,.int .i64 eln,.int .i64 ecol] rfl rfl HB2.o Tryz.oQ (Nat.le_of_eq rfl) (aU rfl) ?_;intro w5 hb5 hst5)
   |rw[←HW2.o])
  have hs5:StF w w5:=((dH.o.trans HS2.o).then hst5 (fun q hq e=>by have:=dH.o.size;omega));have hB5:w5.heap[w1.heap.size]?=some (.cells #[ak ec,ak eln,ak ecol] 27 (0,0)):=hb5;have oD:=au hs5;obtain⟨⟨j0,j1,j2⟩,-⟩:=Ar hB5;clear hs5 hB5 hb5 hst5;go_wp2_with fail;refine bodyPost_ret (wJ rfl _ _ _) rfl ?_;rw[pG.o];exact qI.no oD.o
 |ok l=>
  rintro e w1 ⟨⟨vl,rfl,hls⟩,h1⟩;obtain⟨al,cl,rfl⟩:=hls.parts;have QG:=au hls;have dH:=au h1;clear h1 hls UO HCE;obtain⟨w2,hw2⟩:=aN (w1.alloc (.cells #[ak 0,ak 0,ak 0] 27));have HS2:=nS hw2
  have HB2:=nB hw2
  have HW2:=au hw2;clear hw2;go_upto_region 2 with(first
   |(refine aG (w:=w2) rfl 27 (.tmp 7) (.tmp 14) rfl w1.heap.size 0 27 _ [.int .i64 0,.int .i64 0,.int .i64 0] rfl rfl HB2.o Tryz.oQ (Nat.le_of_eq rfl) (aU rfl) ?_;intro w5 hb5 hst5)
   |rw[←HW2.o])
  have mD:Hid (Step (·=w1.heap.size) w1 w5):=au ((HS2.o.mono fe).trans hst5);have oD:Hid (StF w w5):=au (dH.o.then mD.o (fun q hq e=>by have:=dH.o.size;omega));have hB5:w5.heap[w1.heap.size]?=some (.cells #[ak 0,ak 0,ak 0] 27 (0,0)):=hb5;obtain⟨⟨j0,j1,j2⟩,-⟩:=Ar hB5;have HL5:Hid (ig lm w5 (fun k=>w.heap.size≤k∧k<w1.heap.size) l (.slice al l.length cl)):=au ((bH aQ).step _ _ mD.o J_ ((bH aQ).mono _ _ (fun k h1 h2=>⟨h2,h1⟩) QG.o));clear hB5 hb5 hst5;by_cases hz:s.size≤6000
  ·(have HRS:Hid (R=some l):=by show _=_;rw[HR.o,if_pos hz]);(have hzz:(s.size:Int)≤6000:=by omega);(have HNW:Hid (∀X,StF w5 X→Calls Tryz.prog 21 #[.slice al l.length cl] X (KU BV l X)):=by intro X hX;have hb:=HB.o l HRS.o;exact new_any l _ X om hb.2 ((bH aQ).mono _ _ (fun k h1 _=>h1) ((bH aQ).step _ _ hX (fun _ _ h=>h) HL5.o)));go_wp2_with fail;refine(HNW.o _ bK).mono ?_;rintro e w6 ⟨cb,tb,v,rfl,hcb,htb,hck,h6⟩;obtain⟨av,cv,rfl⟩:=aV hck.own;have HCK:=au hck;have rP:=au h6;have Em:=au hcb;have HTB:=au htb;clear hcb htb hck h6;go_wp2_with fail;refine bodyPost_ret (wJ rfl _ _ _) rfl ?_;rw[HRS.o];exact⟨⟨cb,tb,_,_,rfl,Nat.le_trans oD.o.size Em.o,Nat.le_trans oD.o.size HTB.o,(bH aQ).mono _ _ (fun k _ hk=>hk.1) ((bH aQ).step _ _ rP.o (fun _ _ h=>h) HL5.o),HCK.o⟩,oD.o.trans rP.o⟩
  ·(have pG:Hid (R=none):=by show _=_;rw[HR.o,if_neg hz]);(have hzz:(6000:Int)<s.size:=by omega);go_wp2_with fail;refine bodyPost_ret (wJ rfl _ _ _) rfl ?_;rw[pG.o];exact qI.no oD.o
def txA:ByteArray:=⟨#[115,116,114,117,99,116,32,83,32,123,32,115,32,58,32,83,32,125]⟩
def txB:ByteArray:=⟨#[115,116,114,117,99,116,32,83,32,123,32,115,32,58,32,66,111,120,32,60,32,83,32,62,32,125,32,102,110,32,102,32,40,32,41,32,123,32,125]⟩
def chkA:Bool:=match yF txA with
 |some l=>decide (yD BV l=[(7,1,1)])
 |none=>false
def chkB:Bool:=match yF txB with
 |some l=>decide (yD BV l=[])&&((mJ l).fn ⟨#[102]⟩).isSome
 |none=>false
theorem Ux:chkA=true:=by kernel_rfl
theorem Uy:chkB=true:=by kernel_rfl
theorem txA_ok:∃l,yF txA=some l∧yD BV l=[(7,1,1)]:=by
 have h:=Ux;unfold chkA at h;split at h
 ·rename_i l h2;exact⟨l,h2,of_decide_eq_true h⟩
 ·cases h
theorem txB_ok:∃l,yF txB=some l∧yD BV l=[]∧((mJ l).fn ⟨#[102]⟩).isSome=true:=by
 have h:=Uy;unfold chkB at h;split at h
 ·rename_i l h2;rw[Bool.and_eq_true]at h;exact⟨l,h2,of_decide_eq_true h.1,h.2⟩
 ·cases h
theorem Uz (w:World) (m:Int) (hm:w.cell? ⟨0,0,none⟩=some (.int .i64 m)):Calls Tryz.prog 19 #[] w fun e w'=>e=.returned (.bool true)∧StF w w':=by
 obtain⟨l1,hl1,he1⟩:=txA_ok;obtain⟨l2,hl2,he2,hf2⟩:=txB_ok;have HM:=au hm;have h1:=Gv txA w m hm;rw[hl1]at h1;have oK:Hid (Calls Tryz.prog 18 #[.string ⟨#[115,116,114,117,99,116,32,83,32,123,32,115,32,58,32,83,32,125]⟩] w (qI (some l1) w)):=h1;have o_:Hid (∀X,StF w X→Calls Tryz.prog 18 #[.string ⟨#[115,116,114,117,99,116,32,83,32,123,32,115,32,58,32,66,111,120,32,60,32,83,32,62,32,125,32,102,110,32,102,32,40,32,41,32,123,32,125]⟩] X (qI (some l2) X)):=by intro X hX;have h2:=Gv txB X m (hX.cell hm (fun h=>h));rw[hl2]at h2;exact h2
 have CQ:=au he1;have HE2:=au he2;have HF2:=au hf2;clear h1 hl1 hl2 he1 he2 hf2 hm;go_enter Tryz.func19,Tryz.ntmps19;go_upto_region 1 with fail
 go_wp2_with fail;refine oK.o.mono ?_;rintro e w1 ⟨⟨cb,tb,vl,v,rfl,-,-,hls,hck⟩,h1⟩;obtain⟨al,cl,rfl⟩:=hls.parts;have hown:=hck.own;rw[CQ.o]at hown;obtain⟨a1,c1,hv,-,-,-,hrow⟩:=cu.eu (P:=fun _=>True) hown (fun _ _=>trivial);obtain⟨g,o,rfl,-,hg,hcell⟩:=hrow dc;have hv2:v=.slice (some ⟨g,o,none⟩) 1 c1:=hv;subst hv2;have c0:w1.cell? ⟨g,o+0,none⟩=some (.int .i64 7):=hcell 0 _ rfl;have c1':w1.cell? ⟨g,o+1,none⟩=some (.int .i64 1):=hcell 1 _ rfl;have c2:w1.cell? ⟨g,o+2,none⟩=some (.int .i64 1):=hcell 2 _ rfl;rw[Nat.add_zero]at c0;have HCS:Hid (∀X,StF w1 X→X.cell? ⟨g,o,none⟩=some (.int .i64 7)∧X.cell? ⟨g,o+1,none⟩=some (.int .i64 1)∧X.cell? ⟨g,o+2,none⟩=some (.int .i64 1)):=fun X hX=>⟨hX.cell c0 (fun h=>h),hX.cell c1' (fun h=>h),hX.cell c2 (fun h=>h)⟩
 have dH:=au h1;have HRB1:Hid (Calls Tryz.prog 18 #[.string ⟨#[115,116,114,117,99,116,32,83,32,123,32,115,32,58,32,66,111,120,32,60,32,83,32,62,32,125,32,102,110,32,102,32,40,32,41,32,123,32,125]⟩] w1 (qI (some l2) w1)):=au (o_.o w1 h1);clear h1 hls hck hown hv hrow hcell c0 c1' c2 hg;go_upto_region 2 with fail
 go_wp2_with fail;refine HRB1.o.mono ?_;rintro e w2 ⟨⟨cb2,tb2,vl2,v2,rfl,-,-,hls,hck⟩,h2⟩;obtain⟨al2,cl2,rfl⟩:=hls.parts;have hown:=hck.own;rw[HE2.o]at hown;obtain⟨a2,cc2,hv⟩:=aV hown;have hv2:v2=.slice a2 0 cc2:=hv;subst hv2;have HS2:=au h2;have Q5:Hid (Calls Tryz.prog 27 #[.pointer (some ⟨tb2,0,none⟩),.string ⟨#[102]⟩] w2 (GetPost (Out cb2 (.slice a2 0 cc2) w2) (mJ l2) (mJ l2).fn ⟨#[102]⟩ w2)):=au (tfn_any BR tb2 (mJ l2) _ ⟨#[102]⟩ w2 hck.tab dc (fun k hk=>hk.1));clear h2 hls hck hown hv;go_upto_region 3 with fail
 go_wp2_with fail;refine Q5.o.mono ?_;rintro e w3 ⟨⟨cs,rfl,hat⟩,h3⟩;rw[HF2.o];have lq:Hid ((Tryz.prog.info? 51).map (·.size)=some cs.length):=by rw[aQ.len _ _ hat];exact Tryz.dI
 have wG:=au (aQ.len _ _ hat);have Eh:=au (aQ.one _ _ hat);obtain⟨w4,hw4⟩:=aN (w3.alloc (.cells cs.toArray 51));have gq:=nS hw4
 have O8:=au hw4;have fK:=au h3;clear hat h3 hw4;go_upto_region 4 with(first
  |(refine bT rfl 51 (.tmp 9) (.tmp 26) rfl _ cs rfl rfl lq.o (by rw[wG.o];rfl) Eh.o ?_;rw[←O8.o]))
 obtain⟨k0,k1,k2⟩:=HCS.o w4 ((HS2.o.trans fK.o).trans gq.o);go_wp2_with fail;go_ret;exact⟨rfl,((dH.o.trans HS2.o).trans fK.o).trans gq.o⟩
theorem X8 (T:Tab) (k:Int) (s:ByteArray) (i:Nat):(T.put k s i).im=T.im:=by
 unfold Tab.put;split
 ·rfl
 ·split<;>rfl
def vk (k q:Int):Bool:=decide (q=k)||(decide (k=1∨k=2)&&decide (q=1∨q=2))
def dN (k:Int) (s:ByteArray):Nat→List It→Option Nat
 |_,[]=>none
 |i,x::r=>if eqS x.name s&&vk k x.kind then(if x.kind=k then some i else none)else dN k s (i+1) r
def xk (s t:ByteArray):Nat→List It→Option Nat
 |_,[]=>none
 |i,x::r=>if decide (x.kind=3)&&(eqS x.name s&&eqS x.head t)then some i else xk s t (i+1) r
theorem yG (a b:ByteArray):eqS a b=eqS b a:=by
 cases h:eqS a b with
 |true=>rw[fF.1 h,fF.2 rfl]
 |false=>
  cases h2:eqS b a with
  |true=>rw[fF.1 h2,fF.2 rfl]at h;cases h
  |false=>rfl
theorem yS (m:ByteArray→Option Nat) (s t:ByteArray) (i:Nat):tq m s i t=if eqS s t then some i else m t:=by rw[yG];rfl
def Qo (a b:Option Nat) (i:Nat) (x:It) (s:ByteArray):Option Nat×Option Nat:=
 if eqS x.name s&&(decide (x.kind=1)||decide (x.kind=2))then(if a.isSome||b.isSome then(a,b)else if x.kind=1 then(some i,b)else(a,some i))else(a,b)
theorem N9 (T:Tab) (i:Nat) (x:It) (s:ByteArray) (hk:x.kind=1∨x.kind=2∨x.kind=3∨x.kind=4):((jd T i x).1.st s,(jd T i x).1.tr s)=Qo (T.st s) (T.tr s) i x s:=by
 have e4:∀c:Bool,(c||(decide ((1:Int)≠4)&&(c||(T.tr x.name).isSome)))=(c||(T.tr x.name).isSome):=by intro c;cases c<;>rfl
 have e5:∀c:Bool,((T.tr x.name).isSome||(decide ((2:Int)≠4)&&(c||(T.tr x.name).isSome)))=(c||(T.tr x.name).isSome):=by intro c;cases c<;>cases (T.tr x.name).isSome<;>rfl
 unfold jd Qo;rcases hk with hk|hk|hk|hk
 ·rw[hk,if_neg dc,show tu T 1=T.st from rfl,e4];cases he:eqS x.name s with
  |true=>
   obtain rfl:=fF.1 he;cases hc:((T.st x.name).isSome||(T.tr x.name).isSome)with
   |true=>rfl
   |false=>show(tq T.st x.name i x.name,T.tr x.name)=(some i,T.tr x.name);rw[yS,he];rfl
  |false=>
   split
   ·rfl
   ·show(tq T.st x.name i s,T.tr s)=_;rw[yS,he];rfl
 ·rw[hk,if_neg dc,show tu T 2=T.tr from rfl,e5];cases he:eqS x.name s with
  |true=>
   obtain rfl:=fF.1 he;cases hc:((T.st x.name).isSome||(T.tr x.name).isSome)with
   |true=>rfl
   |false=>show(T.st x.name,tq T.tr x.name i x.name)=(T.st x.name,some i);rw[yS,he];rfl
  |false=>
   split
   ·rfl
   ·show(T.st s,tq T.tr x.name i s)=_;rw[yS,he];rfl
 ·rw[hk,if_pos rfl,show(decide ((3:Int)=1)||decide ((3:Int)=2))=false from rfl,Bool.and_false];split<;>rfl
 ·rw[hk,if_neg dc,show(decide ((4:Int)=1)||decide ((4:Int)=2))=false from rfl,Bool.and_false];split<;>rfl
theorem Ya (T:Tab) (i:Nat) (x:It) (s:ByteArray) (hk:x.kind=1∨x.kind=2∨x.kind=3∨x.kind=4):(jd T i x).1.fn s=if eqS x.name s&&decide (x.kind=4)then(if(T.fn s).isSome then T.fn s else some i)else T.fn s:=by
 unfold jd;rcases hk with hk|hk|hk|hk
 ·rw[hk,if_neg dc,show decide ((1:Int)=4)=false from rfl,Bool.and_false];split<;>rfl
 ·rw[hk,if_neg dc,show decide ((2:Int)=4)=false from rfl,Bool.and_false];split<;>rfl
 ·rw[hk,if_pos rfl,show decide ((3:Int)=4)=false from rfl,Bool.and_false];split<;>rfl
 ·rw[hk,if_neg dc,show tu T 4=T.fn from rfl,show(decide ((4:Int)≠4))=false from rfl,Bool.false_and,Bool.or_false];cases he:eqS x.name s with
  |true=>
   obtain rfl:=fF.1 he;cases hc:(T.fn x.name).isSome with
   |true=>rfl
   |false=>show tq T.fn x.name i x.name=some i;rw[yS,he];rfl
  |false=>
   split
   ·rfl
   ·show tq T.fn x.name i s=_;rw[yS,he];rfl
theorem Yb (T:Tab) (i:Nat) (x:It) (s t:ByteArray):(jd T i x).1.im s t=if decide (x.kind=3)&&(eqS x.name s&&eqS x.head t)then(if(T.im s t).isSome then T.im s t else some i)else T.im s t:=by
 unfold jd;by_cases hk:x.kind=3
 ·rw[if_pos hk,hk];have hp:xh T.im x.name x.head i s t=if eqS x.name s&&eqS x.head t then some i else T.im s t:=by rw[yG x.name,yG x.head];rfl
  cases he:(eqS x.name s&&eqS x.head t)with
  |true=>
   have h2:=Bool.and_eq_true_iff.1 he;obtain rfl:=fF.1 h2.1;obtain rfl:=fF.1 h2.2;cases hc:(T.im x.name x.head).isSome with
   |true=>rfl
   |false=>show xh T.im x.name x.head i x.name x.head=some i;rw[hp,he];rfl
  |false=>
   split
   ·rfl
   ·show xh T.im x.name x.head i s t=_;rw[hp,he];rfl
 ·rw[if_neg hk,decide_eq_false hk,Bool.false_and];split
  ·rfl
  ·show(T.put _ _ _).im s t=_;rw[X8];rfl
def Le (a b F:Option Nat):Option Nat:=if a.isSome then a else if b.isSome then none else F
theorem stP_1 (a b F:Option Nat) (i:Nat) (x:It) (s:ByteArray):Le (Qo a b i x s).1 (Qo a b i x s).2 F=Le a b (if eqS x.name s&&vk 1 x.kind then(if x.kind=1 then some i else none)else F):=by
 unfold Qo vk;by_cases h1:x.kind=1
 ·rw[h1];cases eqS x.name s<;>cases a<;>cases b<;>rfl
 ·by_cases h2:x.kind=2
  ·rw[h2];cases eqS x.name s<;>cases a<;>cases b<;>rfl
  ·rw[decide_eq_false h1,decide_eq_false h2,show decide (x.kind=1∨x.kind=2)=false from decide_eq_false (fun e=>e.elim h1 h2)];cases eqS x.name s<;>rfl
theorem stP_2 (a b F:Option Nat) (i:Nat) (x:It) (s:ByteArray):Le (Qo a b i x s).2 (Qo a b i x s).1 F=Le b a (if eqS x.name s&&vk 2 x.kind then(if x.kind=2 then some i else none)else F):=by
 unfold Qo vk;by_cases h1:x.kind=1
 ·rw[h1];cases eqS x.name s<;>cases a<;>cases b<;>rfl
 ·by_cases h2:x.kind=2
  ·rw[h2];cases eqS x.name s<;>cases a<;>cases b<;>rfl
  ·rw[decide_eq_false h1,decide_eq_false h2,show decide (x.kind=1∨x.kind=2)=false from decide_eq_false (fun e=>e.elim h1 h2)];cases eqS x.name s<;>rfl
theorem wK:∀(l:List It) (T:Tab) (i:Nat) (s t:ByteArray),(∀x∈l,x.kind=1∨x.kind=2∨x.kind=3∨x.kind=4)→Le ((qo T i l).1.st s) ((qo T i l).1.tr s) none=Le (T.st s) (T.tr s) (dN 1 s i l)∧Le ((qo T i l).1.tr s) ((qo T i l).1.st s) none=Le (T.tr s) (T.st s) (dN 2 s i l)∧(qo T i l).1.fn s=Le (T.fn s) none (dN 4 s i l)∧(qo T i l).1.im s t=Le (T.im s t) none (xk s t i l)
 |[],T,i,s,t,_=>by
  refine⟨rfl,rfl,?_,?_⟩
  ·
   show T.fn s=_;unfold Le dN;cases T.fn s<;>rfl
  ·
   show T.im s t=_;unfold Le xk;cases T.im s t<;>rfl
 |x::r,T,i,s,t,h=>by
  have hx:=h x List.mem_cons_self
  obtain⟨h1,h2,h3,h4⟩:=wK r (jd T i x).1 (i+1) s t (fun y hy=>h y (List.mem_cons_of_mem _ hy))
  have hp:=N9 T i x s hx
  rw[qo]
  refine⟨h1.trans ?_,h2.trans ?_,h3.trans ?_,h4.trans ?_⟩
  ·
   rw[show(jd T i x).1.st s=(Qo (T.st s) (T.tr s) i x s).1 from congrArg Prod.fst hp,show(jd T i x).1.tr s=(Qo (T.st s) (T.tr s) i x s).2 from congrArg Prod.snd hp,stP_1,dN]
  ·
   rw[show(jd T i x).1.st s=(Qo (T.st s) (T.tr s) i x s).1 from congrArg Prod.fst hp,show(jd T i x).1.tr s=(Qo (T.st s) (T.tr s) i x s).2 from congrArg Prod.snd hp,stP_2,dN]
  ·
   rw[Ya T i x s hx,dN,show vk 4 x.kind=decide (x.kind=4) by unfold vk;simp]
   cases eqS x.name s
   ·
    rfl
   ·
    by_cases h4:x.kind=4
    ·
     rw[decide_eq_true h4,if_pos h4];cases T.fn s<;>rfl
    ·
     rw[decide_eq_false h4];rfl
  ·
   rw[Yb,xk]
   cases (decide (x.kind=3)&&(eqS x.name s&&eqS x.head t))
   ·
    rfl
   ·
    cases T.im s t<;>rfl
structure TabF (T:Tab):Prop where
 st:∀s,T.st s=dN 1 s 0 T.items
 tr:∀s,T.tr s=dN 2 s 0 T.items
 fn:∀s,T.fn s=dN 4 s 0 T.items
 im:∀s t,T.im s t=xk s t 0 T.items
theorem N_:∀(l:List It) (i:Nat) (s:ByteArray),(dN 1 s i l).isSome=true→(dN 2 s i l).isSome=true→False
 |[],_,_,h,_=>nomatch h
 |x::r,i,s,h,h2=>by
  rw[dN]at h h2
  have e:vk 2 x.kind=vk 1 x.kind:=by
   unfold vk
   by_cases h1:x.kind=1
   ·
    rw[h1];rfl
   ·
    by_cases h2:x.kind=2
    ·
     rw[h2];rfl
    ·
     rw[decide_eq_false h1,decide_eq_false h2];rfl
  rw[e]at h2
  split at h
  ·
   rename_i hc
   rw[if_pos hc]at h2
   split at h
   ·
    rename_i h3;rw[h3]at h2;cases h2
   ·
    cases h
  ·
   rename_i hc
   rw[if_neg hc]at h2
   exact N_ r (i+1) s h h2
theorem Oa {l:List It} (h:∀x∈l,Eb x):TabF (mJ l):=by
 have hi:=oH l;have hk:∀x∈l,x.kind=1∨x.kind=2∨x.kind=3∨x.kind=4:=fun x hx=>(h x hx).kd;have hw:=X4 h;have hX:∀s,¬((mJ l).st s).isSome=true∨¬((mJ l).tr s).isSome=true:=by
  intro s;have h1:=(wK l (uy l) 0 s s hk).1;have h2:=(wK l (uy l) 0 s s hk).2.1;have h1:Le ((mJ l).st s) ((mJ l).tr s) none=dN 1 s 0 l:=h1;have h2:Le ((mJ l).tr s) ((mJ l).st s) none=dN 2 s 0 l:=h2;by_cases ha:((mJ l).st s).isSome=true
  ·refine .inr fun hb=>N_ l 0 s ?_ ?_
   ·rw[←h1];unfold Le;rw[if_pos ha];exact ha
   ·rw[←h2];unfold Le;rw[if_pos hb];exact hb
  ·exact .inl ha
 have ho:∀a b:Option Nat,¬a.isSome=true∨¬b.isSome=true→Le a b none=a:=by intro a b hab;cases a<;>cases b<;>first|rfl|(exfalso;simp at hab)
 refine⟨fun s=> ?_,fun s=> ?_,fun s=> ?_,fun s t=> ?_⟩
 ·rw[hi];have h1:=(wK l (uy l) 0 s s hk).1;have h1:Le ((mJ l).st s) ((mJ l).tr s) none=dN 1 s 0 l:=h1;rw[←h1,ho _ _ (hX s)]
 ·rw[hi];have h1:=(wK l (uy l) 0 s s hk).2.1;have h1:Le ((mJ l).tr s) ((mJ l).st s) none=dN 2 s 0 l:=h1;rw[←h1,ho _ _ (hX s).symm]
 ·rw[hi];exact(wK l (uy l) 0 s s hk).2.2.1
 ·rw[hi];exact(wK l (uy l) 0 s t hk).2.2.2
theorem ig.el {α:Type} {El:World→(Nat→Prop)→α→List Value→Prop} {k:Nat} (hE:xg El k) {w:World} {P:Nat→Prop} {l:List α} {v:Value} (h:ig El w P l v) {i:Nat} {x:α} (hx:l[i]?=some x):∃(g o c:Nat) (cs:List Value),v=.slice (some ⟨g,o,none⟩) l.length c∧El w P x cs∧∀(jj:Nat) v,cs[jj]?=some v→w.cell? ⟨g,o+i*k+jj,none⟩=some v:=by obtain⟨xs,⟨a,c,rfl,-,-,-,hra⟩,hls⟩:=h;obtain⟨g,o,rfl,-,-,hcell⟩:=hra (by have:=(List.getElem?_eq_some_iff.1 hx).1;omega);obtain⟨cs,hat,hget⟩:=oG.get hE i hls hx;exact⟨g,o,c,cs,rfl,hat,fun jj v hv=>by rw[Nat.add_assoc];exact hcell _ _ (hget jj v hv)⟩
theorem ig.t_ {α:Type} {El:World→(Nat→Prop)→α→List Value→Prop} {w:World} {P:Nat→Prop} {l:List α} {v:Value} (h:ig El w P l v):l.length≤9223372036854775807:=by obtain⟨xs,⟨a,c,rfl,hcl,hcm,-,hra⟩,hls⟩:=h;omega
def aan:Option Nat→Int
 |some i=>i
 |none=> -1
theorem fndK_at {k:Int} {s:ByteArray} {l:List It} {i:Nat} {x:It} (h:l[i]?=some x):dN k s i (l.drop i)=if eqS x.name s&&vk k x.kind then(if x.kind=k then some i else none)else dN k s (i+1) (l.drop (i+1)):=by obtain⟨hk,rfl⟩:=List.getElem?_eq_some_iff.1 h;rw[List.drop_eq_getElem_cons hk,dN]
theorem fndI_at {s t:ByteArray} {l:List It} {i:Nat} {x:It} (h:l[i]?=some x):xk s t i (l.drop i)=if decide (x.kind=3)&&(eqS x.name s&&eqS x.head t)then some i else xk s t (i+1) (l.drop (i+1)):=by obtain⟨hk,rfl⟩:=List.getElem?_eq_some_iff.1 h;rw[List.drop_eq_getElem_cons hk,xk]
def uz (l:List It):Prop:=∀x∈l,x.kind=1∨x.kind=2∨x.kind=3∨x.kind=4
theorem kS (k:Int) (hk:k=1∨k=2∨k=4) (s:ByteArray) (P:Nat→Prop) (l:List It) (v:Value) (w:World) (h:ig lm w P l v) (hki:uz l):Calls Tryz.prog 30 #[v,.int .i64 k,.string s] w fun e w'=>e=.returned (.int .i64 (aan (dN k s 0 l)))∧w=w':=by
 have H:=au h;have HK:=au hki;have HKK:=au hk;have hlen:=h.t_;obtain⟨a,c,rfl⟩:=h.parts;clear h hki hk;go_enter Tryz.func30,Tryz.ntmps30;go_wp2_with fail;go_loopg [7] l.length (fun gg s7 wr=>∃i:Nat,s7=.int .i64 i∧i≤l.length∧l.length-i≤gg∧dN k s 0 l=dN k s i (l.drop i)∧wr=w);case atStart=>exact⟨0,rfl,Nat.zero_le _,by omega,rfl,rfl⟩
 case round=>
  obtain⟨i,rfl,hi,hgg,hfd,rfl⟩:=hrel;have HF:=au hfd;clear hfd;by_cases hlt:i<l.length
  ·obtain⟨x,hx⟩:∃x,l[i]?=some x:=⟨l[i],List.getElem?_eq_getElem hlt⟩;obtain⟨g,o,c',cs,hva,hat,hcell⟩:=H.o.el aQ hx;(obtain⟨rfl,rfl⟩:a=some ⟨g,o,none⟩∧c=c':=by cases hva;exact⟨rfl,rfl⟩);have HK4:=HK.o x (List.mem_of_getElem? hx);have PI:=HF.o.trans (fndK_at hx);obtain⟨ct,vl,vt,vf,vw,vm,vb,rfl,-⟩:=hat;have f0:=hcell 0 _ rfl;rw[Nat.add_zero]at f0;have f1:=hcell 1 _ rfl;obtain⟨q,hq⟩:=aN x.kind;rw[←hq]at f0 PI HK4;obtain⟨nm,hnm⟩:=aN x.name;rw[←hnm]at f1 PI;have OJ:=au HK4;have HFB:=au PI;clear hcell hva hx hq hnm HK4 PI;cases hp:(nm.toList==s.toList)
   all_goals (
    have HP:=au (ng hp)
    rcases HKK.o with rfl|rfl|rfl
    all_goals (
     rcases OJ.o with rfl|rfl|rfl|rfl
     all_goals (
      have he:=HFB.o
      rw[HP.o]at he
      have HE:=au he
      clear he
      first
      |(go_wp2_with fail;go_ret;exact⟨nZ (congrArg aan HE.o).symm,rfl⟩)
      |(go_wp2_with fail;go_roundg (gk-1);(case rel=>exact⟨i+1,by go_num,hlt,sbQ hgg,HE.o,rfl⟩);(case measure=>omega)))))
  ·have HE:Hid (dN k s 0 l=none):=HF.o.trans (by rw[List.drop_eq_nil_of_le om];rfl);go_wp2_with fail;go_ret;exact⟨nZ (congrArg aan HE.o).symm,rfl⟩
theorem UC (s t:ByteArray) (P:Nat→Prop) (l:List It) (v:Value) (w:World) (h:ig lm w P l v):Calls Tryz.prog 31 #[v,.string s,.string t] w fun e w'=>e=.returned (.int .i64 (aan (xk s t 0 l)))∧w=w':=by
 have H:=au h;have hlen:=h.t_;obtain⟨a,c,rfl⟩:=h.parts;clear h;go_enter Tryz.func31,Tryz.ntmps31;go_wp2_with fail;go_loopg [7] l.length (fun gg s7 wr=>∃i:Nat,s7=.int .i64 i∧i≤l.length∧l.length-i≤gg∧xk s t 0 l=xk s t i (l.drop i)∧wr=w);case atStart=>exact⟨0,rfl,Nat.zero_le _,by omega,rfl,rfl⟩
 case round=>
  obtain⟨i,rfl,hi,hgg,hfd,rfl⟩:=hrel;have HF:=au hfd;clear hfd;by_cases hlt:i<l.length
  ·obtain⟨x,hx⟩:∃x,l[i]?=some x:=⟨l[i],List.getElem?_eq_getElem hlt⟩;obtain⟨g,o,c',cs,hva,hat,hcell⟩:=H.o.el aQ hx;(obtain⟨rfl,rfl⟩:a=some ⟨g,o,none⟩∧c=c':=by cases hva;exact⟨rfl,rfl⟩);have PI:=HF.o.trans (fndI_at hx);obtain⟨ct,vl,vt,vf,vw,vm,vb,rfl,-⟩:=hat;have f0:=hcell 0 _ rfl;rw[Nat.add_zero]at f0;have f1:=hcell 1 _ rfl;have f2:=hcell 2 _ rfl;obtain⟨q,hq⟩:=aN x.kind;rw[←hq]at f0 PI;obtain⟨nm,hnm⟩:=aN x.name;rw[←hnm]at f1 PI;obtain⟨hm,hhm⟩:=aN x.head;rw[←hhm]at f2 PI;have HFB:=au PI;clear hcell hva hx hq hnm hhm PI;by_cases h3:q=3
   ·subst h3;cases hp:(nm.toList==s.toList)
    all_goals (
     have HP:=au (ng hp)
     cases hp2:(hm.toList==t.toList)
     all_goals (
      have HP2:=au (ng hp2)
      have he:=HFB.o
      rw[HP.o,HP2.o]at he
      have HE:=au he
      clear he
      first
      |(go_wp2_with fail;go_ret;exact⟨nZ (congrArg aan HE.o).symm,rfl⟩)
      |(go_wp2_with fail;go_roundg (gk-1);(case rel=>exact⟨i+1,by go_num,hlt,sbQ hgg,HE.o,rfl⟩);(case measure=>omega))))
   ·have he:=HFB.o;rw[decide_eq_false h3,Bool.false_and]at he;have HE:=au he;(have h3b:(q==3)=false:=by simpa using h3);clear he h3;go_wp2_with fail;go_roundg (gk-1);case rel=>exact⟨i+1,by go_num,hlt,sbQ hgg,HE.o,rfl⟩
    case measure=>omega
  ·have HE:Hid (xk s t 0 l=none):=HF.o.trans (by rw[List.drop_eq_nil_of_le om];rfl);go_wp2_with fail;go_ret;exact⟨nZ (congrArg aan HE.o).symm,rfl⟩
theorem Qp (s:ByteArray) (w:World):Calls Tryz.prog 32 #[.string s] w fun e w'=>e=.returned (.bool (lJ s))∧w=w':=by
 have HQ:Hid (lJ s=(eqS s ⟨#[105,110,116]⟩||(eqS s ⟨#[98,111,111,108]⟩||eqS s ⟨#[102,54,52]⟩))):=rfl;obtain⟨r,hr⟩:=aN (lJ s);rw[←hr]at HQ⊢;clear hr;go_enter Tryz.func32,Tryz.ntmps32;cases h1:(s.toList==[105,110,116])
 all_goals (
  cases h2:(s.toList==[98,111,111,108])
  all_goals (
   cases h3:(s.toList==[102,54,52])
   all_goals (
    have hq:=HQ.o
    rw[show eqS s ⟨#[105,110,116]⟩=_ from mg h1,show eqS s ⟨#[98,111,111,108]⟩=_ from mg h2,show eqS s ⟨#[102,54,52]⟩=_ from mg h3]at hq
    have HR:=au hq
    clear hq
    go_wp2_with fail
    go_ret
    exact⟨bD HR.o.symm,rfl⟩)))
section
variable {P : Program} {ops : Array Oper} {Q : Exit → Act → World → Prop} {md : Region.Mode} {S : World → Prop}
abbrev QF:Exit→Act→World→Prop:=fun _ _ _=>False
theorem BX {a b:Act} (hs:b.tmps.size=a.tmps.size) {d:Option Tmp} {u v:Value} (h:a.put d u=a.put d v):b.put d u=b.put d v:=by
 cases d with
 |none=>rfl
 |some d=>
  have h2:a.tmps.setIfInBounds d u=a.tmps.setIfInBounds d v:=congrArg Act.tmps h;by_cases hd:d<a.tmps.size
  ·have h3:=congrArg (fun x:Array Value=>x[d]?) h2;simp[hd]at h3;rw[h3]
  ·show({b with tmps:=b.tmps.setIfInBounds d u}:Act)={b with tmps:=b.tmps.setIfInBounds d v};(have h5:b.tmps.size≤d:=by rw[hs];exact Nat.le_of_not_lt hd);rw[Array.setIfInBounds_eq_of_size_le h5,Array.setIfInBounds_eq_of_size_le h5]
theorem put_defers (a:Act) (d:Option Tmp) (v:Value):(a.put d v).defers=a.defers:=by cases d<;>rfl
theorem Jo (a:Act) (d:Option Tmp) (v:Value):(a.put d v).tmps.size=a.tmps.size:=by cases d<;>simp[Act.put]
theorem UD {o:Oper} {a b:Act} {v:Value} (hs:b.tmps.size=a.tmps.size) {r:Result Next} (h:o.upon P a (fun a' w'=>a'=a.put o.dst v∧S w') QF r):o.upon P b (fun b' w'=>b'=b.put o.dst v∧S w') QF r:=by
 cases r with
 |ok n w'=>
  cases n<;>simp only[Oper.upon]at h⊢;case value u=>exact⟨BX hs h.1,h.2⟩
  case skip=>exact⟨BX hs h.1,h.2⟩
  case defer d=>have h2:=congrArg Act.defers h.1;rw[put_defers,put_defers]at h2;have h3:=congrArg List.length h2;simp at h3
  case enter f args=>
   refine Calls.mono h fun e w2 he=> ?_;cases e with
   |returned u=>exact⟨BX hs he.1,he.2⟩
   |panicked c=>exact he
   |outgrown=>exact he
  case row row args=>exact Rows.mono h fun u w2 he=>⟨BX hs he.1,he.2⟩
 |halt x w'=>cases x;all_goals first|exact h.elim|(simp only[Oper.upon]at h)
theorem UE {o:Oper} {a:Act} {K K2:Act→World→Prop} (hk:∀a w,K a w→K2 a w) {r:Result Next} (h:o.upon P a K QF r):o.upon P a K2 Q r:=by
 cases r with
 |ok n w'=>
  cases n<;>simp only[Oper.upon]at h⊢;case value u=>exact hk _ _ h
  case skip=>exact hk _ _ h
  case defer d=>exact hk _ _ h
  case enter f args=>
   refine Calls.mono h fun e w2 he=> ?_;cases e with
   |returned u=>exact hk _ _ he
   |panicked c=>exact he.elim
   |outgrown=>exact(let⟨_,_,h⟩:=he;h.elim)
  case row row args=>exact Rows.mono h fun u w2 he=>hk _ _ he
 |halt x w'=>cases x;all_goals first|exact h.elim|(simp only[Oper.upon]at h)
def YU (P:Program) (ops:Array Oper) (S:World→Prop) (o:Oper) (v:Value) (a:Act):Prop:=
 (Region.wanted o (yielded ops a.tmps)=true∧∀w,S w→o.wp P a w (fun a' w'=>a'=a.put o.dst v∧S w') QF)∨(Region.wanted o (yielded ops a.tmps)=false∧v=undef)
theorem YU.same {o:Oper} {v:Value} {a b:Act} (h:YU P ops S o v a) (hs:b.tmps.size=a.tmps.size) (he:execOp b.eval o=execOp a.eval o) (hw:Region.wanted o (yielded ops b.tmps)=Region.wanted o (yielded ops a.tmps)):YU P ops S o v b:=by unfold YU at*;rw[hw];refine h.imp (fun⟨h1,h2⟩=>⟨h1,fun w hS=> ?_⟩) id;have h3:=h2 w hS;unfold Oper.wp at*;rw[he];exact UD hs h3
theorem YU.put {o:Oper} (hsel:∀cs b,o.op≠.select cs b) {v u:Value} {a:Act} {d:Option Tmp} (h:∀x,d=some x→x∉o.looksAt ops):YU P ops S o v (a.put d u)↔YU P ops S o v a:=
 ⟨fun hy=>hy.same (Jo _ _ _).symm (execOp_put o hsel a d u h).symm (wanted_put o a d u h).symm,fun hy=>hy.same (Jo _ _ _) (execOp_put o hsel a d u h) (wanted_put o a d u h)⟩
def wpU (P:Program) (md:Region.Mode) (ops:Array Oper) (Q:Exit→Act→World→Prop) (S:World→Prop):Nat→Array Bool→Act→Prop
 |0,listed,a=>Region.ready md ops listed=[]∧∀w,S w→Q .normal a w
 |fuel+1,listed,a=>(Region.ready md ops listed=[]→∀w,S w→Q .normal a w)∧
  ∀i∈Region.ready md ops listed,∃o v,ops[i]?=some o∧YU P ops S o v a∧wpU P md ops Q S fuel (listed.setIfInBounds i true) (a.put o.dst v)
theorem Lh:∀(fuel:Nat) (listed:Array Bool) (a:Act) (w:World),S w→wpU P md ops Q S fuel listed a→wpAny P md ops Q fuel listed a w
 |0,_,_,_,hS,h=>⟨h.1,h.2 _ hS⟩
 |fuel+1,listed,a,w,hS,h=>by
  refine⟨fun hr=>h.1 hr w hS,fun i hi=> ?_⟩
  obtain⟨o,v,ho,hy,hn⟩:=h.2 i hi
  unfold wpOp
  simp only[ho]
  rcases hy with⟨hw,hy⟩|⟨hw,rfl⟩
  ·
   rw[if_pos hw]
   refine .inl (UE ?_ (hy w hS))
   rintro a2 w2 ⟨rfl,h2⟩
   exact Lh fuel _ _ _ h2 hn
  ·
   rw[if_neg (by rw[hw];decide)]
   exact Lh fuel _ _ _ hS hn
theorem UF {i:Nat} {oi:Oper} {v:Value} (hi:ops[i]?=some oi) (hsel:∀(j:Nat) (o:Oper) cs b,ops[j]?=some o→o.op≠.select cs b):
  ∀(fuel:Nat) (listed:Array Bool) (a:Act),
   (∀j oj,ops[j]?=some oj→j≠i→listed.getD j true=false→(∀e∈oj.after,Region.binds md e=true→e.on≠i)→oi.apart ops oj=true)→
   i∈Region.ready md ops listed→YU P ops S oi v a→wpU P md ops Q S fuel (listed.setIfInBounds i true) (a.put oi.dst v)→wpU P md ops Q S (fuel+1) listed a:=by
 intro fuel
 induction fuel with
 |zero=>
  intro listed a _ hr hy H
  refine⟨fun h=>(by rw[h]at hr;cases hr),fun j hj=> ?_⟩
  by_cases hji:j=i
  ·
   subst hji;exact⟨oi,v,hi,hy,H⟩
  ·
   have:=ready_mono hj hji
   rw[H.1]at this
   cases this
 |succ fuel ih=>
  intro listed a hfree hr hy H
  refine⟨fun h=>(by rw[h]at hr;cases hr),fun j hj=> ?_⟩
  by_cases hji:j=i
  ·
   subst hji;exact⟨oi,v,hi,hy,H⟩
  ·
   obtain⟨oj,u,hoj,hyj,hn⟩:=H.2 j (ready_mono hj hji)
   obtain⟨hjun,oj',hoj',hall⟩:=mem_ready.1 hj
   obtain rfl:oj=oj':=by rw[hoj]at hoj';exact Option.some.inj hoj'
   have hnot:∀e∈oj.after,Region.binds md e=true→e.on≠i:=fun e he hb heq=>by
    have h1:=hall e he hb
    have h0:=(mem_ready.1 hr).1
    rw[heq]at h1
    rcases Nat.lt_or_ge i listed.size with h'|h'
    ·
     simp[h']at h0 h1;rw[h0]at h1;cases h1
    ·
     simp[Array.getElem?_eq_none h']at h1
   obtain⟨p1,p2,p3⟩:=Oper.apart_spec (hfree j oj hoj hji hjun hnot)
   refine⟨oj,u,hoj,(YU.put (fun cs b=>hsel j oj cs b hoj) p1).1 hyj,ih _ _ ?_ (ready_mono hr (Ne.symm hji)) ((YU.put (fun cs b=>hsel i oi cs b hi) p3).2 hy) ?_⟩
   ·
    intro k ok hk hki hun hno
    refine hfree k ok hk hki ?_ hno
    by_cases hjk:j=k
    ·
     subst hjk;exact hjun
    ·
     rw[getD_set_ne true hjk]at hun;exact hun
   ·
    rw[Array.setIfInBounds_comm _ _ hji,Act.put_comm a u v (fun d hd e=>p2 d e hd)]
    exact hn
def Lj (n:Nat):Nat→Array Bool
 |0=>Array.replicate n false
 |i+1=>(Lj n i).setIfInBounds i true
theorem Jp (n:Nat):∀i,(Lj n i).size=n
 |0=>by simp[Lj]
 |i+1=>by rw[Lj,Array.size_setIfInBounds,Jp n i]
theorem yH (n:Nat):∀(i j:Nat),j<n→(Lj n i)[j]?=some (decide (j<i))
 |0,j,h=>by rw[Lj,Array.getElem?_replicate,if_pos h];rfl
 |i+1,j,h=>by
  rw[Lj]
  by_cases e:i=j
  ·
   subst e
   rw[Array.getElem?_setIfInBounds_self_of_lt (by rw[Jp];exact h)]
   simp
  ·
   rw[Array.getElem?_setIfInBounds_ne e,yH n i j h]
   congr 1
   exact decide_eq_decide.2 om
def chkU (md:Region.Mode) (ops:Array Oper):Bool:=(List.range ops.size).all fun i=>match ops[i]? with
 |none=>false
 |some o=>(o.after.toList.all fun e=> !Region.binds md e||decide (e.on<i))&&(match o.op with| .select _ _=>false|_=>true)&&
  (List.range ops.size).all fun j=>decide (j≤i)||(match ops[j]? with|none=>false|some oj=>(oj.after.toList.any fun e=>Region.binds md e&&decide (e.on=i))||o.apart ops oj)
def SU (P:Program) (ops:Array Oper) (S:World→Prop) (Q:Exit→Act→World→Prop):List Oper→Act→Prop
 |[],a=>∀w,S w→Q .normal a w
 |o::r,a=>∃v,YU P ops S o v a∧SU P ops S Q r (a.put o.dst v)
theorem SU.wpU (hc:chkU md ops=true):∀(k i:Nat) (a:Act),i+k=ops.size→SU P ops S Q (ops.toList.drop i) a→wpU P md ops Q S k (Lj ops.size i) a
 |0,i,a,hi,h=>by
  rw[List.drop_eq_nil_of_le (by simp;omega)]at h
  refine⟨?_,h⟩
  rw[List.eq_nil_iff_forall_not_mem]
  intro j hj
  obtain⟨h0,o,ho,-⟩:=mem_ready.1 hj
  have hlt:=(Array.getElem?_eq_some_iff.1 ho).1
  rw[Array.getD_eq_getD_getElem?,yH _ _ _ hlt]at h0
  simp at h0;omega
 |k+1,i,a,hi,h=>by
  have hlt:i<ops.toList.length:=by simp;omega
  rw[List.drop_eq_getElem_cons hlt]at h
  obtain⟨v,hy,hr⟩:=h
  have hoi:ops[i]?=some (ops.toList[i]):=by rw[Array.getElem?_eq_getElem (by simpa using hlt)];simp
  have hall:=List.all_eq_true.1 hc
  have hci:=hall i (List.mem_range.2 om)
  simp only[hoi,Bool.and_eq_true]at hci
  obtain⟨⟨hd,-⟩,hap⟩:=hci
  refine UF hoi ?_ k _ a ?_ ?_ hy ?_
  ·
   intro j o cs b ho e
   have hcj:=hall j (List.mem_range.2 (Array.getElem?_eq_some_iff.1 ho).1)
   simp only[ho,e]at hcj
   simp at hcj
  ·
   intro j oj hoj hji hun hno
   have hj:=(Array.getElem?_eq_some_iff.1 hoj).1
   rw[Array.getD_eq_getD_getElem?,yH _ _ _ hj]at hun
   have hge:¬j<i:=by simpa using hun
   have h2:=List.all_eq_true.1 hap j (List.mem_range.2 hj)
   simp only[hoj,Bool.or_eq_true,decide_eq_true_eq,List.any_eq_true,Bool.and_eq_true]at h2
   rcases h2 with h2|⟨e,he,hb,h3⟩|h2
   ·
    omega
   ·
    exact absurd h3 (hno e (by simpa using he) hb)
   ·
    exact h2
  ·
   refine mem_ready.2 ⟨?_,_,hoi,fun e he hb=> ?_⟩
   ·
    rw[Array.getD_eq_getD_getElem?,yH _ _ _ om];simp
   ·
    have h2:=List.all_eq_true.1 hd e (by simpa using he)
    rw[hb]at h2
    have h3:e.on<i:=by simpa using h2
    rw[Array.getD_eq_getD_getElem?,yH _ _ _ om]
    simpa using h3
  ·
   have:=SU.wpU hc k (i+1) _ om hr
   rw[Lj]at this
   exact this
theorem kG {id:Nat} {a:Act} {w:World} (hm:P.follows .mixedOrders=true) (S:World→Prop) (h0:S w.drew) (hc:chkU .any ops=true) (h:SU P ops S Q ops.toList a):(Code.region id ops true).wp P Q a w:=
 wp_region_any hm (Lh _ _ _ _ h0 (SU.wpU hc ops.size 0 a om h))
theorem SU.skip {o:Oper} {r:List Oper} {a:Act} (hw:Region.wanted o (yielded ops a.tmps)=false) (h:SU P ops S Q r (a.put o.dst undef)):SU P ops S Q (o::r) a:=⟨undef,.inr ⟨hw,rfl⟩,h⟩
theorem SU.op {o:Oper} {r:List Oper} {a:Act} (v:Value) (hw:Region.wanted o (yielded ops a.tmps)=true) (hy:∀w,S w→o.wp P a w (fun a' w'=>a'=a.put o.dst v∧S w') QF) (h:SU P ops S Q r (a.put o.dst v)):SU P ops S Q (o::r) a:=⟨v,.inl ⟨hw,hy⟩,h⟩
end
theorem SU.nil {P:Program} {ops:Array Oper} {Q:Exit→Act→World→Prop} {S:World→Prop} {a:Act} (h:∀w,S w→Q .normal a w):SU P ops S Q [] a:=h
section
variable {PR : Program} {ops : Array Oper} {Q : Exit → Act → World → Prop} {S : World → Prop}
theorem SU.o {o:Oper} {r:List Oper} {a:Act} (v:Value) (h:SU PR ops S Q r (a.put o.dst v)) (hy:∀X,S X→o.wp PR a X (fun a' w'=>a'=a.put o.dst v∧S w') QF:=by intro X hX;go_simp) (hw:Region.wanted o (yielded ops a.tmps)=true:=by kernel_rfl):SU PR ops S Q (o::r) a:=SU.op v hw hy h
theorem SU.ld {o:Oper} {r:List Oper} {a:Act} (ty:TypeId) (x:Operand) (b of:Nat) (cs:List Value) (d:TypeDesc) (h:SU PR ops S Q r (a.put o.dst (.agg cs.toArray))) (hc:∀X,S X→∀(j:Nat) v,cs[j]?=some v→X.cell? ⟨b,of+j,none⟩=some v) (hu:PR.underlying ty=some d) (hd:d.isRow=true) (hi:(PR.info? ty).map (·.size)=some cs.length) (ho:o.op=.load ty x:=by rfl) (hx:a.eval x=.pointer (some ⟨b,of,none⟩):=by kernel_rfl) (hw:Region.wanted o (yielded ops a.tmps)=true:=by kernel_rfl):SU PR ops S Q (o::r) a:=
 SU.op _ hw (fun X hX=>wp_load_mid ty x ho b of hx cs d (hc X hX) hu hd hi ⟨rfl,hX⟩) h
theorem SU.no {o:Oper} {r:List Oper} {a:Act} (h:SU PR ops S Q r (a.put o.dst undef)) (hw:Region.wanted o (yielded ops a.tmps)=false:=by kernel_rfl):SU PR ops S Q (o::r) a:=SU.skip hw h
end
theorem yT {x y:ByteArray} {b:Bool} (h:(y.toList==x.toList)=b):eqS x y=b:=by rw[yG];exact ng h
theorem Rw (P:Nat→Prop) (x:ByteArray) (l:List ByteArray) (v:Value) (w:World) (h:cu w P v l.length (l.map .string)):Calls Tryz.prog 72 #[v,.string x] w fun e w'=>e=.returned (.bool (l.any (eqS x)))∧StF w w':=by
 obtain⟨a,c,rfl,hcl,hcm,-,hr⟩:=h;have HR:=au hr;obtain⟨r,hrr⟩:=aN (l.any (eqS x));have HRR:=au hrr;rw[←hrr];clear hr hrr;go_enter Tryz.func72,Tryz.ntmps72;go_wp2_with fail;go_loopg [5] l.length (fun gg s5 wr=>∃i:Nat,s5=.int .i64 i∧i≤l.length∧l.length-i≤gg∧(∀j,j<i→∀y,l[j]?=some y→eqS x y=false)∧StF w wr);case atStart=>exact⟨0,rfl,Nat.zero_le _,by omega,fun j hj=>absurd hj (Nat.not_lt_zero _),Step.refl _ _⟩
 case round=>
  obtain⟨i,rfl,hi,hgg,hno,hst⟩:=hrel;have eX:=au hno;clear hno;by_cases hlt:i<l.length
  ·obtain⟨y,hx⟩:∃y,l[i]?=some y:=⟨l[i],List.getElem?_eq_getElem hlt⟩;obtain⟨g,o,rfl,-,-,hcell⟩:=HR.o om;have f0:=hst.cell (hcell i _ (kz l i y hx)) (fun h=>h);have HX:=au hx;clear hcell hx;cases hp:(y.toList==x.toList)with
   |true=>(have HI:Hid (r=true):=by rw[HRR.o];exact List.any_eq_true.2 ⟨y,List.mem_of_getElem? HX.o,yT hp⟩);go_wp2_with fail;go_ret;exact⟨bD HI.o.symm,hst⟩
   |false=>
    have HP:=au (yT hp);go_wp2_with fail;go_roundg (gk-1);case rel=>
     refine⟨i+1,by go_num,by omega,by omega,fun j hj y hy=> ?_,hst⟩;rcases Nat.lt_succ_iff_lt_or_eq.1 hj with h|rfl
     ·exact eX.o j h y hy
     ·rw[HX.o]at hy;cases hy;exact HP.o
    case measure=>omega
  ·(have HI:Hid (r=false):=by show _=_;rw[HRR.o,List.any_eq_false];intro y hy;obtain⟨j,hj⟩:=List.getElem?_of_mem hy;rw[eX.o j (by have:=(List.getElem?_eq_some_iff.1 hj).1;omega) y hj];decide);go_wp2;go_ret;exact⟨bD HI.o.symm,hst⟩
def iH (ls:List ByteArray) (x:ByteArray):Bool:=eqS x stat||ls.any (eqS x)
theorem vC (P:Nat→Prop) (x:ByteArray) (s:Sc) (us:Value) (w:World) (hs:IX w P s us):Calls Tryz.prog 71 #[.string x,us] w fun e w'=>e=.returned (.bool (iH s.aB x))∧StF w w':=by
 obtain⟨a1,c1,a2,c2,rfl,hs1,hs2⟩:=hs;obtain⟨w1,hw1⟩:=aN (w.alloc (.cells #[.slice a1 s.aB.length c1,.slice a2 s.types.length c2,dW s.dF] 73));have HST:=nS hw1
 have HB0:=nB hw1
 have HN:Hid (Calls Tryz.prog 72 #[.slice a1 s.aB.length c1,.string x] w1 fun e w'=>e=.returned (.bool (s.aB.any (eqS x)))∧StF w1 w'):=Rw _ x _ _ _ (hs1.2.step HST.o (fun _ _ h=>h));have HW1:=au hw1;have b0:=aj HB0.o 0 _ rfl;obtain⟨r,hr⟩:=aN (iH s.aB x);have HR:=au hr;rw[←hr];clear hr hw1 hs1 hs2;go_enter Tryz.func71,Tryz.ntmps71;go_upto_region 1 with fail
 rw[←HW1.o];cases hp:(x.toList==[39,115,116,97,116,105,99])with
 |true=>
  have BZ:Hid (r=true):=by show _=_;rw[HR.o];unfold iH;rw[show eqS x stat=true from mg hp];rfl
  go_wp2_with fail;go_ret;exact⟨bD BZ.o.symm,HST.o⟩
 |false=>
  have BZ:Hid (r=s.aB.any (eqS x)):=by show _=_;rw[HR.o];unfold iH;rw[show eqS x stat=false from mg hp];rfl
  go_wp2_with fail;refine HN.o.mono ?_;rintro e w2 ⟨rfl,h2⟩;rw[←BZ.o];go_wp2_with fail;go_ret;exact⟨rfl,HST.o.trans h2⟩
mutual
def pJ (l:List It) (c:Sc):Bool→Ty→Bool
 |b,.mk k n lf _ ls ar _ _=>
  if k=5 then
   if c.types.any (eqS n)then(jK l c false ar&&ls.all (iH c.aB))&&(decide (ls.length=0)&&decide (ar.length=0))
   else match(dN 1 n 0 l).bind fun i=>l[i]? with
    |none=>false
    |some x=>decide (ar.length=x.gen.types.length)&&((jK l c false ar&&ls.all (iH c.aB))&&(decide (ls.length=x.gen.aB.length)||(c.dF&&decide (ls.length=0))))
  else if k=7 then(if lf.size=0 then jK l c true ar&&c.dF else jK l c true ar&&iH c.aB lf)
  else if k=8 then b&&((dN 2 n 0 l).isSome&&(decide (lf.size=0)||iH c.aB lf))
  else jK l c (decide (k=6)) ar
def jK (l:List It) (c:Sc):Bool→List Ty→Bool
 |_,[]=>true
 |b,t::r=>pJ l c b t&&jK l c b r
end
theorem Gw (l:List It) (c:Sc) (b:Bool) (x:Ty):∀a:List Ty,jK l c b (a++[x])=(jK l c b a&&pJ l c b x)
 |[]=>by rw[List.nil_append,jK,jK,jK,Bool.and_true,Bool.true_and]
 |t::r=>by rw[List.cons_append,jK,jK,Gw l c b x r,Bool.and_assoc]
theorem Yd {l:List It} {c:Sc} {b:Bool} {ar:List Ty} {i:Nat} {x:Ty} (h:ar[i]?=some x):jK l c b (ar.take (i+1))=(jK l c b (ar.take i)&&pJ l c b x):=by obtain⟨hk,rfl⟩:=List.getElem?_eq_some_iff.1 h;rw[List.take_succ_eq_append_getElem hk,Gw]
theorem Ye {α:Type} {p:α→Bool} {l:List α} {i:Nat} {x:α} (h:l[i]?=some x):(l.take (i+1)).all p=((l.take i).all p&&p x):=by obtain⟨hk,rfl⟩:=List.getElem?_eq_some_iff.1 h;rw[List.take_succ_eq_append_getElem hk,List.all_append];simp
theorem B_ {k:Int} {s:ByteArray}:∀(l:List It) (j i:Nat),dN k s j l=some i→j≤i∧i<j+l.length
 |[],_,_,h=>by rw[dN]at h;cases h
 |x::r,j,i,h=>by
  rw[dN]at h
  split at h
  ·
   split at h
   ·
    cases h;simp
   ·
    cases h
  ·
   have:=B_ r (j+1) i h
   simp;omega
theorem lm.gn2 {w:World} {P:Nat→Prop} {x:It} {cs:List Value} (h:lm w P x cs):∃vl vt:Value,cs[3]?=some vl∧cs[4]?=some vt∧bV w P x.gen.aB vl∧bV w P x.gen.types vt:=by obtain⟨ct,vl,vt,vf,vw,vm,vb,rfl,-,-,h4,h5,-⟩:=h;exact⟨vl,vt,rfl,rfl,h4,h5⟩
def Qq (l:List It) (n:Nat):Prop:=∀(t:Ty) (ut us vl:Value) (c:Sc) (b:Bool) (P:Nat→Prop) (w:World),SizeOf.sizeOf t<n→uz l→ig lm w P l vl→CP w P t ut→IX w P c us→
 Calls Tryz.prog 24 #[vl,ut,us,.bool b] w fun e w'=>e=.returned (.bool (pJ l c b t))∧StF w w'
theorem Yf (l:List It) (n:Nat) (ih:Qq l n):Qq l (n+1):=by
 intro t ut us vl c b P w hn hki hls ht hs;have IH:=au ih;have lG:=au hki;have vM:=au hs;have G_:=au ht;have hll:=hls.t_;obtain⟨a1,c1,a2,c2,rfl,hs1,hs2⟩:=hs;obtain⟨k0,nm,lf,mu,ls,ar,ln,cl⟩:=t;obtain⟨cs,rfl,hty⟩:=ht;rw[iC]at hty;obtain⟨vv,va,xs,rfl,hnm,hlf,hlz,hrl,hta,hra⟩:=hty;obtain⟨al,Iq,rfl⟩:=hrl.parts;obtain⟨aa,ca,rfl⟩:=hra.parts;obtain⟨av,cv,rfl⟩:=hls.parts;have hlsl:ls.length≤9223372036854775807:=by obtain⟨_,c',hv,h1,h2,-⟩:=hrl;cases hv;omega
 have harl:ar.length≤9223372036854775807:=by obtain⟨_,c',hv,h1,h2,-⟩:=hra;cases hv;omega
 obtain⟨w1,hw1⟩:=aN ((w.alloc (.cells #[ak k0,a_ nm,a_ lf,dW mu,.slice al ls.length Iq,.slice aa ar.length ca,ak ln,ak cl] 46)).alloc (.cells #[.slice a1 c.aB.length c1,.slice a2 c.types.length c2,dW c.dF] 73));have HST:=nT hw1
 have HB0:=nC hw1
 have HB1:=nD hw1
 have HW1:=au hw1;have HD:Hid (∀X,StF w1 X→X.cell? ⟨w.heap.size,0,none⟩=some (.int .i64 k0)∧X.cell? ⟨w.heap.size,1,none⟩=some (.string nm)∧X.cell? ⟨w.heap.size,2,none⟩=some (.string lf)∧X.cell? ⟨w.heap.size,4,none⟩=some (.slice al ls.length Iq)∧X.cell? ⟨w.heap.size,5,none⟩=some (.slice aa ar.length ca)):=by intro X hX;have h:=hX.keep HB0.o (fun h=>h);exact⟨aj h 0 _ rfl,aj h 1 _ rfl,aj h 2 _ rfl,aj h 4 _ rfl,aj h 5 _ rfl⟩
 have HE:Hid (∀X,StF w1 X→X.cell? ⟨w.heap.size+1,0,none⟩=some (.slice a1 c.aB.length c1)∧X.cell? ⟨w.heap.size+1,1,none⟩=some (.slice a2 c.types.length c2)∧X.cell? ⟨w.heap.size+1,2,none⟩=some (.bool c.dF)):=by intro X hX;have h:=hX.keep HB1.o (fun h=>h);exact⟨aj h 0 _ rfl,aj h 1 _ rfl,aj h 2 _ rfl⟩
 have Cb:Hid (∀X,StF w1 X→ig lm X P l (.slice av l.length cv)):=fun X hX=>(bH aQ).step _ _ (HST.o.trans hX) (fun _ _ h=>h) hls
 have HSQ:Hid (∀X,StF w1 X→IX X P c (.agg #[.slice a1 c.aB.length c1,.slice a2 c.types.length c2,dW c.dF])):=fun X hX=>jk.step _ _ (HST.o.trans hX) (fun _ _ h=>h) vM.o
 have HAQ:Hid (∀X,StF w1 X→KG X P ar (.slice aa ar.length ca)):=fun X hX=>oU.step _ _ (HST.o.trans hX) (fun _ _ h=>h) ⟨xs,hra,hta⟩
 have HLSQ:Hid (∀X,StF w1 X→cu X P (.slice al ls.length Iq) ls.length (ls.map .string)):=fun X hX=>hrl.step (HST.o.trans hX) (fun _ _ h=>h)
 have OW:Hid (∀X,StF w1 X→cu X P (.slice a2 c.types.length c2) c.types.length (c.types.map .string)):=fun X hX=>hs2.2.step (HST.o.trans hX) (fun _ _ h=>h)
 have Fv:Hid (∀x∈ar,SizeOf.sizeOf x<n):=by intro x hx;have:=List.sizeOf_lt_of_mem hx;simp at hn;omega
 obtain⟨R,hR⟩:=aN (pJ l c b (.mk k0 nm lf mu ls ar ln cl));rw[←hR];have HR0:=au hR;obtain⟨nx,hnx⟩:=aN ((k0==6)||(k0==7));have kC:=au hnx;have IV:=au hlf;clear hn hki hls hrl hra hta hs1 hs2 hw1 hR hnx ih hnm hlf hlz;go_enter Tryz.func24,Tryz.ntmps24;go_upto_region 1 with fail
 rw[←HW1.o];go_upto_region 2 with fail
 go_cut [10] (fun s10 wx=>s10=.bool nx∧w1=wx);case first=>
  obtain⟨d0,d1,d2,d4,d5⟩:=HD.o w1 bK;cases e6:(k0==6)with
  |true=>(have hq:nx=true:=by rw[kC.o,e6];rfl);go_wp2_with fail;go_meet;case rel=>exact⟨by rw[hq],rfl⟩
  |false=>(have hq:nx=(k0==7):=by rw[kC.o,e6];rfl);go_wp2_with fail;go_meet;case rel=>exact⟨by rw[hq],rfl⟩
 case rest=>
  obtain⟨rfl,rfl⟩:=hcut;go_upto_region 3 with fail
  go_wp2_with fail;go_loopg [9,11] ar.length (fun gg s9 s11 wr=>∃i:Nat,s11=.int .i64 i∧s9=.bool (jK l c nx (ar.take i))∧i≤ar.length∧ar.length-i≤gg∧StF w1 wr);case atStart=>exact⟨0,rfl,(by rw[List.take_zero,jK]),Nat.zero_le _,by omega,Step.refl _ _⟩
  case round=>
   obtain⟨i,rfl,rfl,hi,hgg,hst⟩:=hrel;have pM:=au hst;obtain⟨d0,d1,d2,d4,d5⟩:=HD.o wr hst;clear hst;by_cases hlt:i<ar.length
   ·obtain⟨x,hx⟩:∃x,ar[i]?=some x:=⟨ar[i],List.getElem?_eq_getElem hlt⟩;have HAT:=au (Yd (l:=l) (c:=c) (b:=nx) hx);obtain⟨ok,hok⟩:=aN (jK l c nx (ar.take i));rw[←hok]at HAT⊢;clear hok;cases ok with
    |false=>
     (have HT:Hid (Value.bool false=.bool (jK l c nx (ar.take (i+1)))):=by show _=_;rw[HAT.o];rfl);clear hx;obtain⟨wi,rfl⟩:=aN wr;(go_upto_region 6 with fail);go_quiet (fail);go_wp2_with fail;go_roundg (gk-1);case rel=>exact⟨i+1,by go_num,HT.o,hlt,sbQ hgg,pM.o.trans (bK.drewN _)⟩
     case measure=>omega
    |true=>obtain⟨rx,hrx⟩:=aN (pJ l c nx x);(have HT:Hid (Value.bool rx=.bool (jK l c nx (ar.take (i+1)))):=by show _=_;rw[HAT.o,hrx];rfl);obtain⟨Oy,⟨a',c',hva,hcl,hcm,-,hra⟩,hls⟩:=HAQ.o wr pM.o;(obtain⟨rfl,rfl⟩:aa=a'∧ca=c':=by cases hva;exact⟨rfl,rfl⟩);obtain⟨g,o,rfl,-,-,hcell⟩:=hra om;obtain⟨cs,hat,hget⟩:=gy.cells hls hx hcell;have iD:Hid (∀(jj:Nat) v,cs[jj]?=some v→wr.cell? ⟨g,o+i*8+jj,none⟩=some v):=hget;(have lq:Hid ((Tryz.prog.info? 46).map (·.size)=some cs.length):=by rw[hat.len];exact Tryz.eF);(have YG:Hid (∀X,StF wr X→Calls Tryz.prog 24 #[.slice av l.length cv,.agg cs.toArray,.agg #[.slice a1 c.aB.length c1,.slice a2 c.types.length c2,dW c.dF],.bool nx] X fun e w'=>e=.returned (.bool rx)∧StF X w'):=by intro X hX;rw[hrx];exact IH.o x _ _ _ c nx P X (Fv.o x (List.mem_of_getElem? hx)) lG.o (Cb.o X (pM.o.trans hX)) ⟨cs,rfl,iC.step hX (fun _ _ h=>h) _ cs hat⟩ (HSQ.o X (pM.o.trans hX)));clear hva hcl hcm hra hls hcell hat hget hx hrx;obtain⟨wi,rfl⟩:=aN wr;(go_upto_region 6 with fail);refine kG kr (fun X=>StF wi X) (bK.drew) kr ?_;refine SU.o (.bool true) ?_;refine SU.o (.bool true) ?_;refine SU.o (.slice av l.length cv) ?_;refine SU.o (.pointer (some ⟨w.heap.size,5,none⟩)) ?_;simp only[o9];refine SU.o (.slice (some ⟨g,o,none⟩) ar.length ca) ?_ (fun X hX=>by obtain⟨d0,d1,d2,d4,d5⟩:=HD.o X (pM.o.trans hX);go_simp);refine SU.o (.int .i64 i) ?_;refine SU.o (.pointer (some ⟨g,o+i*8,none⟩)) ?_;simp only[o9];refine SU.ld 46 (.tmp 35) g (o+i*8) cs _ ?_ (fun X hX jj v hv=>hX.cell (iD.o jj v hv) (fun h=>h)) Tryz.underlying46 rfl lq.o;simp only[o9];refine SU.o (.agg #[.slice a1 c.aB.length c1,.slice a2 c.types.length c2,dW c.dF]) ?_ (fun X hX=>by obtain⟨e0,e1,e2⟩:=HE.o X (pM.o.trans hX);go_simp);refine SU.o (.bool nx) ?_;simp only[o9];refine SU.o (.bool rx) ?_ (fun X hX=>by go_simp;refine(YG.o X hX).mono ?_;rintro e w5 ⟨rfl,h5⟩;exact⟨rfl,hX.trans h5⟩);refine SU.o (.bool rx) ?_;refine SU.o (.bool rx) ?_;refine SU.nil (fun X hX=> ?_);simp only[o9];go_wp2_with fail;go_roundg (gk-1);(case rel=>exact⟨i+1,by go_num,HT.o,hlt,sbQ hgg,pM.o.trans hX⟩);(case measure=>omega)
   ·(have HT:Hid (jK l c nx (ar.take i)=jK l c nx ar):=by show _=_;rw[List.take_of_length_le om]);rw[HT.o];(go_upto_region 7 with fail);obtain⟨w2,rfl⟩:=aN wr;have HS2:=au pM.o;clear d0 d1 d2 d4 d5 hlt hi hgg;obtain⟨ok1,hok1⟩:=aN (jK l c nx ar);rw[←hok1];have Nz:=au hok1;clear hok1;obtain⟨d0,d1,d2,d4,d5⟩:=HD.o w2 HS2.o;by_cases h5:k0=5
    ·subst h5;have hnx:nx=false:=kC.o;subst hnx
     have DY:Hid (R=if c.types.any (eqS nm)then(ok1&&ls.all (iH c.aB))&&(decide (ls.length=0)&&decide (ar.length=0))
      else match(dN 1 nm 0 l).bind fun i=>l[i]? with
       |none=>false
       |some x=>decide (ar.length=x.gen.types.length)&&((ok1&&ls.all (iH c.aB))&&(decide (ls.length=x.gen.aB.length)||(c.dF&&decide (ls.length=0))))):=by
      show _=_
      rw[HR0.o,pJ,if_pos rfl,Nz.o]
     go_wp2_with fail;go_loopg [9,12] ls.length (fun gg s9 s12 wr=>∃i:Nat,s12=.int .i64 i∧s9=.bool (ok1&&(ls.take i).all (iH c.aB))∧i≤ls.length∧ls.length-i≤gg∧StF w2 wr);case atStart=>exact⟨0,rfl,(by rw[List.take_zero,List.all_nil,Bool.and_true]),Nat.zero_le _,by omega,Step.refl _ _⟩
     case round=>
      obtain⟨i,rfl,rfl,hi,hgg,hst⟩:=hrel;have pM:Hid (StF w1 wr):=HS2.o.trans hst;have HSJ:=au hst;clear d0 d1 d2 d4 d5;obtain⟨d0,d1,d2,d4,d5⟩:=HD.o wr pM.o;clear hst;by_cases hlt:i<ls.length
      ·obtain⟨x,hx⟩:∃x,ls[i]?=some x:=⟨ls[i],List.getElem?_eq_getElem hlt⟩;(have HAT:Hid ((ok1&&(ls.take (i+1)).all (iH c.aB))=((ok1&&(ls.take i).all (iH c.aB))&&iH c.aB x)):=by show _=_;rw[Ye hx,Bool.and_assoc]);obtain⟨ok2,hok⟩:=aN (ok1&&(ls.take i).all (iH c.aB));rw[←hok]at HAT⊢;clear hok;obtain⟨lx,hlx⟩:=aN (iH c.aB x);rw[←hlx]at HAT;(have HT:Hid (Value.bool (ok2&&lx)=.bool (ok1&&(ls.take (i+1)).all (iH c.aB))):=by show _=_;rw[HAT.o]);obtain⟨a',c',hva,hcl,hcm,-,hra⟩:=HLSQ.o wr pM.o;(obtain⟨rfl,rfl⟩:al=a'∧Iq=c':=by cases hva;exact⟨rfl,rfl⟩);obtain⟨g,o,rfl,-,-,hcell⟩:=hra om;have HF0:=au (hcell i _ (kz ls i x hx));(have Dl:Hid (∀X,StF wr X→Calls Tryz.prog 71 #[.string x,.agg #[.slice a1 c.aB.length c1,.slice a2 c.types.length c2,dW c.dF]] X fun e w'=>e=.returned (.bool lx)∧StF X w'):=by intro X hX;rw[hlx];exact vC P x c _ X (HSQ.o X (pM.o.trans hX)));clear hva hcl hcm hra hcell hx hlx;obtain⟨wi,rfl⟩:=aN wr;cases ok2 with
       |false=>
        have HT':Hid (Value.bool false=.bool (ok1&&(ls.take (i+1)).all (iH c.aB))):=HT.o;(go_upto_region 12 with fail);go_quiet (fail);go_wp2_with fail;go_roundg (gk-1);case rel=>exact⟨i+1,by go_num,HT'.out,hlt,sbQ hgg,HSJ.o.trans (bK.drewN _)⟩
        case measure=>omega
       |true=>have HT':Hid (Value.bool lx=.bool (ok1&&(ls.take (i+1)).all (iH c.aB))):=HT.o;(go_upto_region 12 with fail);refine kG kr (fun X=>StF wi X) (bK.drew) kr ?_;refine SU.o (.bool true) ?_;refine SU.o (.bool true) ?_;refine SU.o (.pointer (some ⟨w.heap.size,4,none⟩)) ?_;simp only[o9];refine SU.o (.slice (some ⟨g,o,none⟩) ls.length Iq) ?_ (fun X hX=>by obtain⟨d0,d1,d2,d4,d5⟩:=HD.o X (pM.o.trans hX);go_simp);refine SU.o (.int .i64 i) ?_;refine SU.o (.pointer (some ⟨g,o+i,none⟩)) ?_;simp only[o9];refine SU.o (.string x) ?_ (fun X hX=>by have f0:=hX.cell HF0.o (fun h=>h);go_simp);simp only[o9];refine SU.o (.agg #[.slice a1 c.aB.length c1,.slice a2 c.types.length c2,dW c.dF]) ?_ (fun X hX=>by obtain⟨e0,e1,e2⟩:=HE.o X (pM.o.trans hX);go_simp);simp only[o9];refine SU.o (.bool lx) ?_ (fun X hX=>by go_simp;refine(Dl.o X hX).mono ?_;rintro e w5 ⟨rfl,h5⟩;exact⟨rfl,hX.trans h5⟩);refine SU.o (.bool lx) ?_;refine SU.o (.bool lx) ?_;refine SU.nil (fun X hX=> ?_);simp only[o9];go_wp2_with fail;go_roundg (gk-1);(case rel=>exact⟨i+1,by go_num,HT'.out,hlt,sbQ hgg,HSJ.o.trans hX⟩);(case measure=>omega)
      ·(have HT:Hid ((ls.take i).all (iH c.aB)=ls.all (iH c.aB)):=by show _=_;rw[List.take_of_length_le om]);rw[HT.o];(go_upto_region 13 with fail);clear HT hlt hi hgg;obtain⟨ok2,hok⟩:=aN (ok1&&ls.all (iH c.aB));rw[←hok]at DY⊢;clear hok;obtain⟨w3,rfl⟩:=aN wr;obtain⟨s0,s1,s2⟩:=HE.o w3 pM.o;go_wp2_with fail;refine(Rw P nm c.types _ w3 (OW.o w3 pM.o)).mono ?_;rintro e w4 ⟨rfl,h4⟩;obtain⟨inT,hin⟩:=aN (c.types.any (eqS nm));rw[←hin]at DY⊢;have gq:Hid (StF w1 w4):=pM.o.trans h4;clear h4 hin d0 d1 d2 d4 d5 s0 s1 s2;obtain⟨d0,d1,d2,d4,d5⟩:=HD.o w4 gq.o;obtain⟨s0,s1,s2⟩:=HE.o w4 gq.o;obtain⟨z1,hz1⟩:=aN ((ls.length:Int)==0);(have hzd:decide (ls.length=0)=z1:=by rw[hz1];exact decide_eq_decide.2 om);have xQ:=DY.o;rw[hzd]at xQ;clear hzd;have q1:=hz1.symm;clear hz1;cases inT with
       |true=>
        obtain⟨z2,hz2⟩:=aN ((ar.length:Int)==0);(have hzd:decide (ar.length=0)=z2:=by rw[hz2];exact decide_eq_decide.2 om);(have Oz:Hid (R=(ok2&&(z1&&z2))):=by show _=_;rw[xQ,if_pos rfl,hzd]);have q2:=hz2.symm;clear hz2 hzd xQ;cases ok2 with
        |false=>have HRR:Hid (R=false):=Oz.o;go_wp2_with fail;go_ret;exact⟨bD HRR.o.symm,HST.o.trans gq.o⟩
        |true=>
         cases z1 with
         |false=>have HRR:Hid (R=false):=Oz.o;go_wp2_with fail;go_ret;exact⟨bD HRR.o.symm,HST.o.trans gq.o⟩
         |true=>have HRR:Hid (R=z2):=Oz.o;go_wp2_with fail;go_ret;exact⟨bD HRR.o.symm,HST.o.trans gq.o⟩
       |false=>
        have Oz:=au (xQ.trans (if_neg dc));clear xQ;(go_upto_region 15 with fail);go_wp2_with fail;refine(kS 1 om nm P l _ w4 (Cb.o w4 gq.o) lG.o).mono ?_;rintro e w5 ⟨rfl,rfl⟩;cases hf:dN 1 nm 0 l with
        |none=>(have HRR:Hid (R=false):=by show _=_;rw[Oz.o,hf];rfl);rw[show aan none=(-1:Int) from rfl];clear hf;(go_upto_region 16 with fail);go_quiet (fail);go_wp2_with fail;go_ret;exact⟨bD HRR.o.symm,(HST.o.trans gq.o).trans (bK.drewN _)⟩
        |some q=>
         rw[show aan (some q)=(q:Int) from rfl];have hq:=B_ l 0 q hf;(have hql:q<l.length:=by omega);obtain⟨y,hy⟩:∃y,l[q]?=some y:=⟨l[q],List.getElem?_eq_getElem hql⟩;(have VE:Hid (R=(decide (ar.length=y.gen.types.length)&&(ok2&&(decide (ls.length=y.gen.aB.length)||(c.dF&&z1))))):=by show _=_;rw[Oz.o,hf,Option.bind_some,hy]);obtain⟨g,o,c',cs,hva,hat,hcell⟩:=(Cb.o w4 gq.o).el aQ hy;(obtain⟨rfl,rfl⟩:av=some ⟨g,o,none⟩∧cv=c':=by cases hva;exact⟨rfl,rfl⟩);obtain⟨l1,l2,h3,h4,hn1,hn2⟩:=hat.gn2;obtain⟨b1,e1,rfl⟩:=hn1.parts;obtain⟨b2,e2,rfl⟩:=hn2.parts;have y3:=hcell 3 _ h3;have y4:=hcell 4 _ h4;have hq0:(0:Int)≤(q:Int):=Int.natCast_nonneg _;(have hq1:((q:Int)<0)=False:=by simp);(have hqd:decide ((q:Int)<0)=false:=by simp);obtain⟨t1,ht1⟩:=aN ((ar.length:Int) !=(y.gen.types.length:Int));obtain⟨t2,ht2⟩:=aN ((ls.length:Int)==(y.gen.aB.length:Int));(have hd1:decide (ar.length=y.gen.types.length)= !t1:=by rw[ht1,bne,Bool.not_not];exact decide_eq_decide.2 om);(have hd2:decide (ls.length=y.gen.aB.length)=t2:=by rw[ht2];exact decide_eq_decide.2 om);(have QE:Hid (R=(!t1&&(ok2&&(t2||(c.dF&&z1))))):=by show _=_;rw[VE.o,hd1,hd2]);have p1:=ht1.symm;have p2:=ht2.symm;obtain⟨el,hel⟩:=aN c.dF;rw[←hel]at QE s2⊢;clear hva hat hcell hn1 hn2 h3 h4 hy hf hq ht1 ht2 hd1 hd2 hel d0 d1 d2;cases t1 with
         |true=>have HRR:Hid (R=false):=QE.o;(go_upto_region 16 with fail);go_quiet (fail);go_wp2_with fail;go_ret;exact⟨bD HRR.o.symm,(HST.o.trans gq.o).trans (bK.drewN _)⟩
         |false=>
          (go_upto_region 16 with fail);go_quiet (fail);(go_upto_region 18 with fail);cases ok2 with
          |false=>have HRR:Hid (R=false):=QE.o;go_quiet (fail);go_wp2_with fail;go_ret;exact⟨bD HRR.o.symm,(HST.o.trans gq.o).trans ((bK.drewN _).drewN _)⟩
          |true=>
           cases t2 with
           |true=>have HRR:Hid (R=true):=QE.o;go_quiet (fail);go_wp2_with fail;go_ret;exact⟨bD HRR.o.symm,(HST.o.trans gq.o).trans ((bK.drewN _).drewN _)⟩
           |false=>
            have HRR:Hid (R=(el&&z1)):=QE.o;cases el with
            |false=>go_quiet (fail);go_wp2_with fail;go_ret;exact⟨bD HRR.o.symm,(HST.o.trans gq.o).trans ((bK.drewN _).drewN _)⟩
            |true=>go_quiet (fail);go_wp2_with fail;go_ret;exact⟨bD HRR.o.symm,(HST.o.trans gq.o).trans ((bK.drewN _).drewN _)⟩
    ·by_cases h7:k0=7
     ·subst h7;have hnx:nx=true:=kC.o;subst hnx;(have Oz:Hid (R=if lf.size=0 then ok1&&c.dF else ok1&&iH c.aB lf):=by show _=_;rw[HR0.o,pJ,if_neg dc,if_pos rfl,Nz.o]);obtain⟨s0,s1,s2⟩:=HE.o w2 HS2.o;by_cases hz:lf.size=0
      ·(have hon:lf=⟨#[]⟩:=by obtain⟨a⟩:=lf;have h2:a.size=0:=hz;rw[Array.eq_empty_of_size_eq_zero h2]);(have he0:lf.toList=[]:=by rw[hon,Lib.toList_data]);have HRR:=au (Oz.o.trans (if_pos hz));clear hz hon;cases ok1 with
       |false=>have kU:Hid (R=false):=HRR.o;go_wp2_with fail;go_ret;exact⟨bD kU.o.symm,HST.o.trans HS2.o⟩
       |true=>have kU:Hid (R=c.dF):=HRR.o;go_wp2_with fail;go_ret;exact⟨bD kU.o.symm,HST.o.trans HS2.o⟩
      ·have HRR:=au (Oz.o.trans (if_neg hz));have he:=jL lf om;have he':=jA lf om;clear hz;cases ok1 with
       |false=>have kU:Hid (R=false):=HRR.o;go_wp2_with fail;go_ret;exact⟨bD kU.o.symm,HST.o.trans HS2.o⟩
       |true=>have kU:Hid (R=iH c.aB lf):=HRR.o;go_wp2_with fail;refine(vC P lf c _ w2 (HSQ.o w2 HS2.o)).mono ?_;rintro e w3 ⟨rfl,h3⟩;rw[←kU.o];go_wp2_with fail;go_ret;exact⟨rfl,HST.o.trans (HS2.o.trans h3)⟩
     ·(have hk5:(k0==5)=false:=by simp[h5]);(have hk7:(k0==7)=false:=by simp[h7]);by_cases h8:k0=8
      ·subst h8;(have VE:Hid (R=(b&&((dN 2 nm 0 l).isSome&&(decide (lf.size=0)||iH c.aB lf)))):=by show _=_;rw[HR0.o,pJ,if_neg dc,if_neg dc,if_pos rfl]);obtain⟨s0,s1,s2⟩:=HE.o w2 HS2.o;cases b with
       |false=>have kU:Hid (R=false):=VE.o;go_wp2_with fail;go_ret;exact⟨bD kU.o.symm,HST.o.trans HS2.o⟩
       |true=>
        have QE:Hid (R=((dN 2 nm 0 l).isSome&&(decide (lf.size=0)||iH c.aB lf))):=VE.o;go_wp2_with fail;refine(kS 2 om nm P l _ w2 (Cb.o w2 HS2.o) lG.o).mono ?_;rintro e w5 ⟨rfl,rfl⟩;cases hf:dN 2 nm 0 l with
        |none=>(have kU:Hid (R=false):=by show _=_;rw[QE.o,hf];rfl);clear hf;go_wp2_with fail;go_ret;exact⟨bD kU.o.symm,HST.o.trans HS2.o⟩
        |some q=>
         (have oK:Hid (R=(decide (lf.size=0)||iH c.aB lf)):=by show _=_;rw[QE.o,hf];rfl);clear hf;have hq0:(0:Int)≤(q:Int):=Int.natCast_nonneg _;by_cases hz:lf.size=0
         ·(have hon:lf=⟨#[]⟩:=by obtain⟨a⟩:=lf;have h2:a.size=0:=hz;rw[Array.eq_empty_of_size_eq_zero h2]);(have he0:lf.toList=[]:=by rw[hon,Lib.toList_data]);(have kU:Hid (R=true):=by show _=_;rw[oK.o,decide_eq_true hz];rfl);clear hz hon;go_wp2_with fail;go_ret;exact⟨bD kU.o.symm,HST.o.trans HS2.o⟩
         ·(have kU:Hid (R=iH c.aB lf):=by show _=_;rw[oK.o,decide_eq_false hz];rfl);have he:=jL lf om;have he':=jA lf om;clear hz;go_wp2_with fail;refine(vC P lf c _ w2 (HSQ.o w2 HS2.o)).mono ?_;rintro e w3 ⟨rfl,h3⟩;rw[←kU.o];go_wp2_with fail;go_ret;exact⟨rfl,HST.o.trans (HS2.o.trans h3)⟩
      ·(have hk8:(k0==8)=false:=by simp[h8]);(have mP:Hid (R=ok1):=by show _=_;rw[HR0.o,pJ,if_neg h5,if_neg h7,if_neg h8,Nz.o,kC.o,hk7,Bool.or_false];rfl);go_wp2_with fail;go_ret;exact⟨bD mP.o.symm,HST.o.trans HS2.o⟩
mutual
def zi:Ty→Prop
 | .mk k _ _ _ _ ar _ _=>(k=5∨k=6∨k=7∨ar=[])∧qJ ar
def qJ:List Ty→Prop
 |[]=>True
 |t::r=>zi t∧qJ r
end
theorem qJ.nil:qJ []:=by rw[qJ];trivial
theorem qJ.one {t:Ty} (h:zi t):qJ [t]:=by rw[qJ];exact⟨h,qJ.nil⟩
theorem qJ.snoc:∀{ts:List Ty} {t:Ty},qJ ts→zi t→qJ (ts++[t])
 |[],_,_,h=>qJ.one h
 |a::r,t,h,h2=>by
  rw[qJ]at h
  rw[List.cons_append,qJ]
  exact⟨h.1,qJ.snoc h.2 h2⟩
theorem zi.leaf {k:Int} {n lf:ByteArray} {b:Bool} {ns:List ByteArray} {ln cl:Int} {j:Nat}:bU zi (.ok (.mk k n lf b ns [] ln cl) j):=bU.ok (by rw[zi];exact⟨.inr (.inr (.inr rfl)),qJ.nil⟩)
theorem ty_s {l:List Tok}:∀f,(∀i d,bU zi (jY f l i d))∧(∀i d ls ts,qJ ts→bU (fun p=>qJ p.2) (lQ f l i d ls ts)):=by
 intro f;induction f with
 |zero=>exact⟨(fun i d a j e=>by rw[jY]at e;cases e),(fun i d ls ts _ a j e=>by rw[lQ]at e;cases e)⟩
 |succ f ih=>
  obtain⟨iht,iha⟩:=ih;constructor
  ·intro i d;rw[jY];split
   ·exact bU.fail
   split
   ·exact zi.leaf
   split
   ·exact zi.leaf
   split
   ·exact zi.leaf
   split
   ·exact(bU.any _).bind fun _ j _=>zi.leaf
   split
   ·exact(bU.any _).bind fun _ j _=>(iht _ _).bind fun a j ha=>(bU.any _).bind fun _ j _=>bU.ok (by rw[zi];exact⟨.inr (.inl rfl),qJ.one ha⟩)
   split
   ·exact(iht _ _).bind fun a j ha=>bU.ok (by rw[zi];exact⟨.inr (.inr (.inl rfl)),qJ.one ha⟩)
   split
   ·refine(bU.any _).bind fun n j _=> ?_;split
    ·exact(bU.any _).bind fun _ j _=>zi.leaf
    ·exact zi.leaf
   ·refine(bU.any _).bind fun n j _=> ?_;split
    ·exact(iha _ _ [] [] qJ.nil).bind fun p j hp=>bU.ok (by rw[zi];exact⟨.inl rfl,hp⟩)
    ·exact zi.leaf
  ·intro i d ls ts hts;rw[lQ];refine(bU.any _).bind fun _ i _=> ?_;refine bU.bind (Q:=fun p=>qJ p.2) ?_ ?_
   ·split
    ·exact(bU.any _).bind fun x j _=>bU.ok hts
    ·exact(iht _ _).bind fun x j hx=>bU.ok (hts.snoc hx)
   ·intro p j hp;split
    ·exact iha _ _ _ _ hp
    ·exact(bU.any _).bind fun _ j _=>bU.ok hp
structure yI (T:Tab) (l:List It):Prop where
 st:∀n,T.get T.st n=(dN 1 n 0 l).bind fun i=>l[i]?
 tr:∀n,(T.tr n).isSome=(dN 2 n 0 l).isSome
theorem newT_l {l:List It} (h:∀x∈l,Eb x):yI (mJ l) l:=by have h1:=Oa h;have h2:=oH l;exact⟨fun n=>by rw[Tab.get,h1.st,h2],fun n=>by rw[h1.tr,h2]⟩
theorem rE {ls:List ByteArray} {x:ByteArray} {ln cl:Int}:jI ls x ln cl=[]↔iH ls x=true:=by
 unfold jI iH;split
 ·rename_i h;exact⟨fun _=>h,fun _=>rfl⟩
 ·rename_i h;exact⟨(fun e=>nomatch e),fun e=>absurd e h⟩
theorem Ah {ls:List ByteArray} {ln cl:Int}:∀xs:List ByteArray,jH ls ln cl xs=[]↔xs.all (iH ls)=true
 |[]=>⟨fun _=>rfl,fun _=>rfl⟩
 |x::r=>by rw[jH,List.append_eq_nil_iff,rE,Ah r,List.all_cons,Bool.and_eq_true]
section
variable {T : Tab} {l : List It}
theorem Yg (hT:yI T l) (s:Sc) (n:ByteArray) (nl na:Nat) (ln cl:Int):Dt T s n nl na ln cl=[]↔(if s.types.any (eqS n)then decide (nl=0)&&decide (na=0)
   else match(dN 1 n 0 l).bind fun i=>l[i]? with
    |none=>false
    |some x=>decide (na=x.gen.types.length)&&(decide (nl=x.gen.aB.length)||(s.dF&&decide (nl=0))))=true:=by
 unfold Dt
 rw[hT.st]
 split
 ·
  split
  ·
   rename_i h;refine⟨(fun e=>nomatch e),fun e=> ?_⟩;simp at e;omega
  ·
   rename_i h;refine⟨fun _=> ?_,fun _=>rfl⟩;simp;omega
 ·
  cases (dN 1 n 0 l).bind fun i=>l[i]? with
  |none=>exact⟨(fun e=>nomatch e),(fun e=>nomatch e)⟩
  |some x=>
   dsimp only
   split
   ·
    rename_i h;refine⟨(fun e=>nomatch e),fun e=> ?_⟩;simp at e;exact absurd e.1 h
   ·
    rename_i h
    have h:na=x.gen.types.length:=Classical.not_not.1 h
    split
    ·
     rename_i h2
     refine⟨(fun e=>nomatch e),fun e=> ?_⟩
     simp at e
     rcases e.2 with h3|h3
     ·
      exact absurd h3 h2.1
     ·
      rcases h2.2 with h4|h4
      ·
       omega
      ·
       rw[h3.1]at h4;cases h4
    ·
     rename_i h2
     refine⟨fun _=> ?_,fun _=>rfl⟩
     rw[decide_eq_true h,Bool.true_and,Bool.or_eq_true,Bool.and_eq_true,decide_eq_true_eq,decide_eq_true_eq]
     by_cases h3:nl=x.gen.aB.length
     ·
      exact .inl h3
     ·
      refine .inr ⟨?_,?_⟩
      ·
       cases h4:s.dF with
       |true=>rfl
       |false=>exact absurd ⟨h3,.inr h4⟩ h2
      ·
       rcases Nat.eq_zero_or_pos nl with h4|h4
       ·
        exact h4
       ·
        exact absurd ⟨h3,.inl h4⟩ h2
mutual
theorem Ll (hT:yI T l) (s:Sc) (hE:s.dF=true∨iH s.aB ⟨#[]⟩=false):∀(b:Bool) (t:Ty),zi t→(qO T s b t=[]↔pJ l s b t=true)
 |b,.mk k n lf m ls ar ln cl,h=>by
  rw[zi]at h
  obtain⟨hk,hs⟩:=h
  by_cases h6:k=6
  ·
   subst h6
   have e1:qO T s b (.mk 6 n lf m ls ar ln cl)=g_ T s true ar:=by rw[qO,if_pos rfl]
   have e2:pJ l s b (.mk 6 n lf m ls ar ln cl)=jK l s true ar:=by rw[pJ,if_neg dc,if_neg dc,if_neg dc];rfl
   rw[e1,e2]
   exact Cc hT s hE true ar hs
  by_cases h7:k=7
  ·
   subst h7
   have e1:qO T s b (.mk 7 n lf m ls ar ln cl)=(if lf.size=0∧s.dF=true then[]else jI s.aB lf ln cl)++g_ T s true ar:=by rw[qO,if_neg dc,if_pos rfl]
   have e2:pJ l s b (.mk 7 n lf m ls ar ln cl)=if lf.size=0 then jK l s true ar&&s.dF else jK l s true ar&&iH s.aB lf:=by rw[pJ,if_neg dc,if_pos rfl]
   rw[e1,e2,List.append_eq_nil_iff,Cc hT s hE true ar hs]
   by_cases hz:lf.size=0
   ·
    rw[if_pos hz]
    cases he:s.dF with
    |true=>rw[if_pos ⟨hz,rfl⟩,Bool.and_true];exact⟨fun h=>h.2,fun h=>⟨rfl,h⟩⟩
    |false=>
     rw[if_neg (by rintro⟨-,h⟩;cases h),Bool.and_false,rE]
     have hon:lf=⟨#[]⟩:=by
      obtain⟨a⟩:=lf
      have h2:a.size=0:=hz
      rw[Array.eq_empty_of_size_eq_zero h2]
     have h9:iH s.aB ⟨#[]⟩=false:=hE.resolve_left (by rw[he];decide)
     rw[hon,h9]
     exact⟨(fun h=>nomatch h.1),gQ⟩
   ·
    rw[if_neg hz,if_neg (fun h=>hz h.1),rE,Bool.and_eq_true]
    exact⟨fun h=>⟨h.2,h.1⟩,fun h=>⟨h.2,h.1⟩⟩
  by_cases h8:k=8
  ·
   subst h8
   have e1:qO T s b (.mk 8 n lf m ls ar ln cl)=(if b then[]else[(5,ln,cl)])++((if(T.tr n).isSome then[]else[(3,ln,cl)])++(if lf.size=0 then[]else jI s.aB lf ln cl)):=by rw[qO,if_neg dc,if_neg dc,if_pos rfl]
   have e2:pJ l s b (.mk 8 n lf m ls ar ln cl)=(b&&((dN 2 n 0 l).isSome&&(decide (lf.size=0)||iH s.aB lf))):=by rw[pJ,if_neg dc,if_neg dc,if_pos rfl]
   rw[e1,e2,List.append_eq_nil_iff,List.append_eq_nil_iff,hT.tr]
   cases b with
   |false=>exact⟨(fun h=>nomatch h.1),gQ⟩
   |true=>
    cases (dN 2 n 0 l).isSome with
    |false=>exact⟨(fun h=>nomatch h.2.1),gQ⟩
    |true=>
     by_cases hz:lf.size=0
     ·
      rw[if_pos hz,decide_eq_true hz]
      exact⟨fun _=>rfl,fun _=>⟨rfl,rfl,rfl⟩⟩
     ·
      rw[if_neg hz,decide_eq_false hz,rE]
      exact⟨fun h=>h.2.2,fun h=>⟨rfl,rfl,h⟩⟩
  by_cases h5:k=5
  ·
   subst h5
   have e1:qO T s b (.mk 5 n lf m ls ar ln cl)=jH s.aB ln cl ls++(g_ T s false ar++Dt T s n ls.length ar.length ln cl):=by rw[qO,if_neg dc,if_neg dc,if_neg dc,if_pos rfl]
   have e2:pJ l s b (.mk 5 n lf m ls ar ln cl)=if s.types.any (eqS n)then(jK l s false ar&&ls.all (iH s.aB))&&(decide (ls.length=0)&&decide (ar.length=0))
    else match(dN 1 n 0 l).bind fun i=>l[i]? with
     |none=>false
     |some x=>decide (ar.length=x.gen.types.length)&&((jK l s false ar&&ls.all (iH s.aB))&&(decide (ls.length=x.gen.aB.length)||(s.dF&&decide (ls.length=0)))):=by rw[pJ,if_pos rfl];try (split<;>rfl)
   rw[e1,e2,List.append_eq_nil_iff,List.append_eq_nil_iff,Ah,Cc hT s hE false ar hs,Yg hT s]
   split
   ·
    generalize (decide (ls.length=0)&&decide (ar.length=0))=q
    rw[Bool.and_eq_true,Bool.and_eq_true]
    exact⟨fun h=>⟨⟨h.2.1,h.1⟩,h.2.2⟩,fun h=>⟨h.1.2,h.1.1,h.2⟩⟩
   ·
    cases (dN 1 n 0 l).bind fun i=>l[i]? with
    |none=>exact⟨(fun h=>nomatch h.2.2),gQ⟩
    |some x=>
     dsimp only
     generalize (decide (ls.length=x.gen.aB.length)||(s.dF&&decide (ls.length=0)))=q
     rw[Bool.and_eq_true,Bool.and_eq_true,Bool.and_eq_true,Bool.and_eq_true]
     exact⟨fun h=>⟨h.2.2.1,⟨h.2.1,h.1⟩,h.2.2.2⟩,fun h=>⟨h.2.1.2,h.2.1.1,h.1,h.2.2⟩⟩
  ·
   have ha:ar=[]:=by
     rcases hk with h|h|h|h
     ·
      exact absurd h h5
     ·
      exact absurd h h6
     ·
      exact absurd h h7
     ·
      exact h
   have e1:qO T s b (.mk k n lf m ls ar ln cl)=[]:=by rw[qO,if_neg h6,if_neg h7,if_neg h8,if_neg h5]
   have e2:pJ l s b (.mk k n lf m ls ar ln cl)=true:=by rw[pJ,if_neg h5,if_neg h7,if_neg h8,ha,jK]
   rw[e1,e2]
   exact⟨fun _=>rfl,fun _=>rfl⟩
theorem Cc (hT:yI T l) (s:Sc) (hE:s.dF=true∨iH s.aB ⟨#[]⟩=false):∀(b:Bool) (ts:List Ty),qJ ts→(g_ T s b ts=[]↔jK l s b ts=true)
 |b,[],_=>by rw[g_,jK];exact⟨fun _=>rfl,fun _=>rfl⟩
 |b,x::r,h=>by
  rw[qJ]at h
  rw[g_,jK,List.append_eq_nil_iff,Bool.and_eq_true,Ll hT s hE b x h.1,Cc hT s hE b r h.2]
end
end
theorem EL (l:List It):∀n,Qq l n
 |0=>fun _ _ _ _ _ _ _ _ h=>absurd h (Nat.not_lt_zero _)
 |n+1=>Yf l n (EL l n)
theorem vF (P:Nat→Prop) (x:ByteArray) (l:List ByteArray) (v:Value) (w:World) (h:cu w P v l.length (l.map .string)):Calls Tryz.prog 72 #[v,.string x] w fun e w'=>e=.returned (.bool (l.any (eqS x)))∧w=w':=by
 obtain⟨a,c,rfl,hcl,hcm,-,hr⟩:=h;have HR:=au hr;obtain⟨r,hrr⟩:=aN (l.any (eqS x));have HRR:=au hrr;rw[←hrr];clear hr hrr;go_enter Tryz.func72,Tryz.ntmps72;go_wp2_with fail;go_loopg [5] l.length (fun gg s5 wr=>∃i:Nat,s5=.int .i64 i∧i≤l.length∧l.length-i≤gg∧(∀j,j<i→∀y,l[j]?=some y→eqS x y=false)∧w=wr);case atStart=>exact⟨0,rfl,Nat.zero_le _,by omega,fun j hj=>absurd hj (Nat.not_lt_zero _),rfl⟩
 case round=>
  obtain⟨i,rfl,hi,hgg,hno,rfl⟩:=hrel;have eX:=au hno;clear hno;by_cases hlt:i<l.length
  ·obtain⟨y,hx⟩:∃y,l[i]?=some y:=⟨l[i],List.getElem?_eq_getElem hlt⟩;obtain⟨g,o,rfl,-,-,hcell⟩:=HR.o om;have f0:=hcell i _ (kz l i y hx);have HX:=au hx;clear hcell hx;cases hp:(y.toList==x.toList)with
   |true=>(have HI:Hid (r=true):=by rw[HRR.o];exact List.any_eq_true.2 ⟨y,List.mem_of_getElem? HX.o,yT hp⟩);go_wp2_with fail;go_ret;exact⟨bD HI.o.symm,rfl⟩
   |false=>
    have HP:=au (yT hp);go_wp2_with fail;go_roundg (gk-1);case rel=>
     refine⟨i+1,by go_num,by omega,by omega,fun j hj y hy=> ?_,rfl⟩;rcases Nat.lt_succ_iff_lt_or_eq.1 hj with h|rfl
     ·exact eX.o j h y hy
     ·rw[HX.o]at hy;cases hy;exact HP.o
    case measure=>omega
  ·(have HI:Hid (r=false):=by show _=_;rw[HRR.o,List.any_eq_false];intro y hy;obtain⟨j,hj⟩:=List.getElem?_of_mem hy;rw[eX.o j (by have:=(List.getElem?_eq_some_iff.1 hj).1;omega) y hj];decide);go_wp2;go_ret;exact⟨bD HI.o.symm,rfl⟩
def wL:List ByteArray→List ByteArray→Bool
 |_,[]=>true
 |d,x::r=> !(eqS x stat||d.any (eqS x))&&wL (d++[x]) r
theorem unlB_at {l:List ByteArray} {k:Nat} {x:ByteArray} (h:l[k]?=some x):wL (l.take k) (l.drop k)=(!(eqS x stat||(l.take k).any (eqS x))&&wL (l.take (k+1)) (l.drop (k+1))):=by obtain⟨hk,rfl⟩:=List.getElem?_eq_some_iff.1 h;rw[List.drop_eq_getElem_cons hk,wL,List.take_succ_eq_append_getElem hk]
theorem EM (ln cl:Int):∀l d:List ByteArray,sW ln cl d l=[]↔wL d l=true
 |[],_=>⟨fun _=>rfl,fun _=>rfl⟩
 |x::r,d=>by
  rw[sW,wL,List.append_eq_nil_iff,EM ln cl r,Bool.and_eq_true]
  cases eqS x stat||d.any (eqS x)with
  |true=>exact⟨(fun h=>nomatch h.1),(fun h=>nomatch h.1)⟩
  |false=>exact⟨fun h=>⟨rfl,h.2⟩,fun h=>⟨rfl,h.2⟩⟩
theorem Gx (P:Nat→Prop) (l:List ByteArray) (v:Value) (w:World) (h:cu w P v l.length (l.map .string)):Calls Tryz.prog 94 #[v] w fun e w'=>e=.returned (.bool (wL [] l))∧StF w w':=by
 obtain⟨a1,c1,rfl,hcl,hcm,-,hr⟩:=h;have HR:=au hr;obtain⟨r,hrr⟩:=aN (wL [] l);have HRR:=au hrr;rw[←hrr];clear hr hrr;go_enter Tryz.func94,Tryz.ntmps94;go_wp2_with fail;go_loopg [3] l.length (fun gg s3 wr=>∃i:Nat,s3=.int .i64 i∧i≤l.length∧l.length-i≤gg∧r=wL (l.take i) (l.drop i)∧StF w wr);case atStart=>exact⟨0,rfl,Nat.zero_le _,by omega,HRR.o,Step.refl _ _⟩
 case round=>
  obtain⟨i,rfl,hi,hgg,hrl,hst⟩:=hrel;have xN:=au hrl;have pM:=au hst;clear hrl hst;by_cases hlt:i<l.length
  ·obtain⟨x,hx⟩:∃x,l[i]?=some x:=⟨l[i],List.getElem?_eq_getElem hlt⟩;obtain⟨g,o,rfl,hg,hgw,hcell⟩:=HR.o om;have f0:=pM.o.cell (hcell i _ (kz l i x hx)) (fun h=>h);have HF0:=au f0;have oK:=au (xN.o.trans (unlB_at hx));obtain⟨bc,hbc⟩:=aN ((l.take i).any (eqS x));rw[←hbc]at oK;have LH:Hid (∀X,StF w X→Calls Tryz.prog 72 #[.slice (some ⟨g,o,none⟩) i c1,.string x] X fun e w'=>e=.returned (.bool bc)∧X=w'):=by
    show∀X,_;intro X hX;rw[hbc];refine vF P x _ _ _ ?_;rw[List.length_take,Nat.min_eq_left hi];refine⟨_,c1,rfl,by omega,by omega,gQ,fun _=>⟨g,o,rfl,hg,Nat.lt_of_lt_of_le hgw hX.size,fun i y hy=>hX.cell (hcell i y ?_) (fun h=>h)⟩⟩;rw[List.map_take,List.getElem?_take]at hy;split at hy
    ·exact hy
    ·cases hy
   (have hkc:i≤c1:=by omega);(have hlb:l.length≤9223372036854775807:=by omega);(have Zh:(i:Int)≤(c1:Int):=by omega);clear hcell hx hbc hg hgw;obtain⟨wi,rfl⟩:=aN wr;cases hp:(x.toList==[39,115,116,97,116,105,99])with
   |true=>have HP:Hid (eqS x stat=true):=mg hp;(have kU:Hid (r=false):=by show _=_;rw[oK.o,HP.o];rfl);(go_upto_region 4 with fail);go_quiet (fail);go_wp2_with fail;go_ret;exact⟨bD kU.o.symm,pM.o.trans (bK.drewN _)⟩
   |false=>
    have HP:Hid (eqS x stat=false):=mg hp;(go_upto_region 4 with fail);refine kG kr (fun X=>StF wi X) (bK.drew) kr ?_;refine SU.o (.slice (some ⟨g,o,none⟩) l.length c1) ?_;refine SU.o (.int .i64 i) ?_;refine SU.o (.pointer (some ⟨g,o+i,none⟩)) ?_;simp only[o9];refine SU.o (.string x) ?_ (fun X hX=>by have f0:=hX.cell HF0.o (fun h=>h);go_simp);refine SU.o (.bool false) ?_;refine SU.o (.bool false) ?_;refine SU.o (.slice (some ⟨g,o,none⟩) l.length c1) ?_;refine SU.o (.int .i64 i) ?_;simp only[o9];refine SU.o (.slice (some ⟨g,o,none⟩) i c1) ?_;refine SU.o (.slice (some ⟨g,o,none⟩) l.length c1) ?_;refine SU.o (.int .i64 i) ?_;refine SU.o (.pointer (some ⟨g,o+i,none⟩)) ?_;simp only[o9];refine SU.o (.string x) ?_ (fun X hX=>by have f0:=hX.cell HF0.o (fun h=>h);go_simp);simp only[o9];refine SU.o (.bool bc) ?_ (fun X hX=>by go_simp;refine(LH.o X (pM.o.trans hX)).mono ?_;rintro e w5 ⟨rfl,rfl⟩;exact⟨rfl,hX⟩);refine SU.o (.bool bc) ?_;refine SU.nil (fun X hst=> ?_);simp only[o9];cases bc with
    |true=>(have kU:Hid (r=false):=by show _=_;rw[oK.o,HP.o];rfl);go_wp2_with fail;go_ret;exact⟨bD kU.o.symm,pM.o.trans hst⟩
    |false=>
     (have kU:Hid (r=wL (l.take (i+1)) (l.drop (i+1))):=by show _=_;rw[oK.o,HP.o];rfl);go_wp2_with fail;go_roundg (gk-1);case rel=>exact⟨i+1,by go_num,hlt,sbQ hgg,kU.o,pM.o.trans hst⟩
     case measure=>omega
  ·(have BZ:Hid (r=true):=by show _=_;rw[xN.o,List.drop_eq_nil_of_le om,wL]);go_wp2_with fail;go_ret;exact⟨bD BZ.o.symm,pM.o⟩
def Gy (l:List It) (g:Gn):Bool:=g.types.all (fun s=>(dN 1 s 0 l).isNone)&&(wL [] g.aB&&wL [] g.types)
theorem Rz {T:Tab} {l:List It} (hT:∀n,(T.st n).isSome=(dN 1 n 0 l).isSome) (ln cl:Int):∀xs:List ByteArray,BM T ln cl xs=[]↔xs.all (fun s=>(dN 1 s 0 l).isNone)=true
 |[]=>⟨fun _=>rfl,fun _=>rfl⟩
 |x::r=>by
  rw[BM,List.append_eq_nil_iff,Rz hT ln cl r,List.all_cons,Bool.and_eq_true,hT]
  cases dN 1 x 0 l with
  |none=>exact⟨fun h=>⟨rfl,h.2⟩,fun h=>⟨rfl,h.2⟩⟩
  |some i=>exact⟨(fun h=>nomatch h.1),(fun h=>nomatch h.1)⟩
theorem RD {T:Tab} {l:List It} (hT:∀n,(T.st n).isSome=(dN 1 n 0 l).isSome) (g:Gn) (ln cl:Int):BN T g ln cl=[]↔Gy l g=true:=by unfold BN Gy;rw[List.append_eq_nil_iff,List.append_eq_nil_iff,EM,EM,Rz hT,Bool.and_eq_true,Bool.and_eq_true];exact⟨fun h=>⟨h.2.2,h.1,h.2.1⟩,fun h=>⟨h.2.1,h.2.2,h.1⟩⟩
theorem Oc (P:Nat→Prop) (l:List It) (g:Gn) (vl:Value) (a1 a2:Option Addr) (c1 c2:Nat) (w:World) (hls:ig lm w P l vl) (hki:uz l) (h1:cu w P (.slice a1 g.aB.length c1) g.aB.length (g.aB.map .string)) (h2:cu w P (.slice a2 g.types.length c2) g.types.length (g.types.map .string)):Calls Tryz.prog 58 #[vl,.agg #[.slice a1 g.aB.length c1,.slice a2 g.types.length c2]] w fun e w'=>e=.returned (.bool (Gy l g))∧StF w w':=by
 have lG:=au hki;obtain⟨av,cv,rfl⟩:=hls.parts;obtain⟨w1,hw1⟩:=aN (w.alloc (.cells #[.slice a1 g.aB.length c1,.slice a2 g.types.length c2] 42));have HST:=nS hw1
 have HB0:=nB hw1
 have HW1:=au hw1;have HD:Hid (∀X,StF w1 X→X.cell? ⟨w.heap.size,0,none⟩=some (.slice a1 g.aB.length c1)∧X.cell? ⟨w.heap.size,1,none⟩=some (.slice a2 g.types.length c2)):=by intro X hX;have h:=hX.keep HB0.o (fun h=>h);exact⟨aj h 0 _ rfl,aj h 1 _ rfl⟩
 have Cb:Hid (∀X,StF w1 X→ig lm X P l (.slice av l.length cv)):=fun X hX=>(bH aQ).step _ _ (HST.o.trans hX) (fun _ _ h=>h) hls
 have HR1:Hid (∀X,StF w1 X→cu X P (.slice a1 g.aB.length c1) g.aB.length (g.aB.map .string)):=fun X hX=>h1.step (HST.o.trans hX) (fun _ _ h=>h)
 have HR2:Hid (∀X,StF w1 X→cu X P (.slice a2 g.types.length c2) g.types.length (g.types.map .string)):=fun X hX=>h2.step (HST.o.trans hX) (fun _ _ h=>h)
 have hbt:g.types.length≤9223372036854775807:=by obtain⟨_,c',hv,h3,h4,-⟩:=h2;cases hv;omega
 obtain⟨R,hR⟩:=aN (Gy l g);have HRR:=au hR;rw[←hR];clear hls hki h1 h2 hw1 hR;go_enter Tryz.func58,Tryz.ntmps58;go_upto_region 1 with fail
 rw[←HW1.o];go_wp2_with fail;go_loopg [5] g.types.length (fun gg s5 wr=>∃i:Nat,s5=.int .i64 i∧i≤g.types.length∧g.types.length-i≤gg∧(g.types.take i).all (fun s=>(dN 1 s 0 l).isNone)=true∧StF w1 wr);case atStart=>exact⟨0,rfl,Nat.zero_le _,by omega,rfl,Step.refl _ _⟩
 case round=>
  obtain⟨i,rfl,hi,hgg,hal,hst⟩:=hrel;have HAL:=au hal;have pM:=au hst;obtain⟨d0,d1⟩:=HD.o wr hst;clear hal hst;by_cases hlt:i<g.types.length
  ·obtain⟨x,hx⟩:∃x,g.types[i]?=some x:=⟨g.types[i],List.getElem?_eq_getElem hlt⟩;have HAT:=au (Ye (p:=fun s=>(dN 1 s 0 l).isNone) hx);obtain⟨a',c',hva,hcl,hcm,-,hra⟩:=HR2.o wr pM.o;(obtain⟨rfl,rfl⟩:a2=a'∧c2=c':=by cases hva;exact⟨rfl,rfl⟩);obtain⟨gb,ob,rfl,-,-,hcell⟩:=hra om;have f0:=hcell i _ (kz _ i x hx);have HX:=au hx;clear hva hcl hcm hra hcell hx;go_wp2_with fail;refine(kS 1 om x P l _ wr (Cb.o wr pM.o) lG.o).mono ?_;rintro e w5 ⟨rfl,rfl⟩;cases hf:dN 1 x 0 l with
   |none=>
    (have HN:Hid ((g.types.take (i+1)).all (fun s=>(dN 1 s 0 l).isNone)=true):=by show _=_;rw[HAT.o,HAL.o,hf];rfl);rw[show aan none=(-1:Int) from rfl];clear hf;go_wp2_with fail;go_roundg (gk-1);case rel=>exact⟨i+1,by go_num,hlt,sbQ hgg,HN.o,pM.o⟩
    case measure=>omega
   |some q=>(have kU:Hid (R=false):=by show _=_;(have h9:g.types.all (fun s=>(dN 1 s 0 l).isNone)=false:=by rw[List.all_eq_false];exact⟨x,List.mem_of_getElem? HX.o,by rw[hf];exact fun e=>nomatch e⟩);rw[HRR.o,Gy,h9];rfl);rw[show aan (some q)=(q:Int) from rfl];have hq0:(0:Int)≤(q:Int):=Int.natCast_nonneg _;clear hf;go_wp2_with fail;go_ret;exact⟨bD kU.o.symm,HST.o.trans pM.o⟩
  ·(have BZ:Hid (R=(wL [] g.aB&&wL [] g.types)):=by show _=_;have h9:=HAL.o;rw[List.take_of_length_le om]at h9;rw[HRR.o,Gy,h9,Bool.true_and]);(go_upto_region 6 with fail);clear hlt hi hgg;go_wp2_with fail;refine(Gx P g.aB _ wr (HR1.o wr pM.o)).mono ?_;rintro e w2 ⟨rfl,h2⟩;have HS2:Hid (StF w1 w2):=pM.o.trans h2;clear d0 d1 h2;obtain⟨d0,d1⟩:=HD.o w2 HS2.o;cases hu:wL [] g.aB with
   |false=>(have kU:Hid (R=false):=by show _=_;rw[BZ.o,hu];rfl);clear hu;go_wp2_with fail;go_ret;exact⟨bD kU.o.symm,HST.o.trans HS2.o⟩
   |true=>(have kU:Hid (R=wL [] g.types):=by show _=_;rw[BZ.o,hu];rfl);clear hu;go_wp2_with fail;refine(Gx P g.types _ w2 (HR2.o w2 HS2.o)).mono ?_;rintro e w3 ⟨rfl,h3⟩;rw[←kU.o];go_wp2_with fail;go_ret;exact⟨rfl,HST.o.trans (HS2.o.trans h3)⟩
def oW (l:List It) (c:Sc):List Pm→List Pm→Bool
 |_,[]=>true
 |d,x::r=> !((d.map Pm.name).any (eqS x.name))&&(pJ l c false x.ty&&oW l c (d++[x]) r)
def rbnB (s:Sc) (b:Bd):Bool:=if Iy b.name then iH s.aB b.name else s.types.any (eqS b.name)
def zk (l:List It) (s:Sc) (b:Bd):Bool:=rbnB s b&&(b.uw.all (fun n=>(dN 2 n 0 l).isSome)&&b.aB.all (iH s.aB))
def zI (l:List It) (c:Sc) (t:Ty):Bool:=decide (t.kind=0)||pJ l c false t
def Yh (l:List It) (g:Gn) (d:List Mt) (m:Mt):Bool:=
 !(d.any (fun y=>eqS y.name m.name))&&(wL [] (g.aB++m.aB)&&((decide (m.life.size=0)||iH (g.aB++m.aB) m.life)&&(oW l ⟨g.aB++m.aB,g.types,true⟩ [] m.params&&
  (zI l ⟨g.aB++m.aB,g.types,true⟩ m.ret&&m.wh.all (zk l ⟨g.aB++m.aB,[],false⟩)))))
def mM (l:List It) (g:Gn):List Mt→List Mt→Bool
 |_,[]=>true
 |d,m::r=>Yh l g d m&&mM l g (d++[m]) r
def sQ (tr:It) (m:Mt):Bool:=match yw tr.methods m.name with
 |none=>false
 |some y=>decide (y.recv=m.recv)&&decide (y.params.length=m.params.length)
def Qr (l:List It) (h:ByteArray):Gn:=if lJ h then jW else(((dN 1 h 0 l).bind fun i=>l[i]?).getD qZ).gen
def Qs (l:List It) (x:It):Bool:=(lJ x.head||(dN 1 x.head 0 l).isSome)&&(x.wh.all (fun b=>decide (b.aB.length=0))&&(match(dN 2 x.name 0 l).bind fun i=>l[i]? with
 |none=>false
 |some tr=>x.wh.all (zk l ⟨[],(Qr l x.head).types,false⟩)&&(mM l (Qr l x.head) [] x.methods&&(decide (x.methods.length=tr.methods.length)&&x.methods.all (sQ tr)))))
theorem EN {c:Prop} [Decidable c] {e:Er}:(if c then[]else[e])=[]↔c:=by
 split
 ·rename_i h;exact⟨fun _=>h,fun _=>rfl⟩
 ·rename_i h;exact⟨(fun e=>nomatch e),fun e=>absurd e h⟩
theorem yJ {c:Prop} [Decidable c] {e:Er}:(if c then[e]else[])=[]↔¬c:=by
 split
 ·rename_i h;exact⟨(fun e=>nomatch e),fun e=>absurd h e⟩
 ·rename_i h;exact⟨fun _=>h,fun _=>rfl⟩
theorem Gz {b:Bool}:(!b)=true↔¬b=true:=by cases b<;>decide
theorem GH (x:ByteArray):∀d:List Pm,(d.map Pm.name).any (eqS x)=d.any (fun y=>eqS y.name x)
 |[]=>rfl
 |y::r=>by rw[List.map_cons,List.any_cons,List.any_cons,GH x r,yG]
section
variable {T : Tab} {l : List It}
theorem Ce (hT:yI T l) (s:Sc) (hE:s.dF=true∨iH s.aB ⟨#[]⟩=false):∀(ps d:List Pm),(∀p∈ps,zi p.ty)→(lU T s d ps=[]↔oW l s d ps=true)
 |[],_,_=>⟨fun _=>rfl,fun _=>rfl⟩
 |x::r,d,h=>by
  rw[lU,oW,List.append_eq_nil_iff,List.append_eq_nil_iff,yJ,Ll hT s hE false x.ty (h x List.mem_cons_self),Ce hT s hE r _ (fun p hp=>h p (List.mem_cons_of_mem _ hp)),Bool.and_eq_true,Bool.and_eq_true,Gz,GH]
theorem RF (hT:yI T l) (ln cl:Int):∀xs:List ByteArray,P9 T ln cl xs=[]↔xs.all (fun n=>(dN 2 n 0 l).isSome)=true
 |[]=>⟨fun _=>rfl,fun _=>rfl⟩
 |x::r=>by rw[P9,List.append_eq_nil_iff,EN,hT.tr,RF hT ln cl r,List.all_cons,Bool.and_eq_true]
theorem rbn_iff (s:Sc) (b:Bd):bnE s b=[]↔rbnB s b=true:=by
 unfold bnE rbnB;split
 ·exact rE
 ·exact EN
theorem EO (hT:yI T l) (s:Sc):∀bs:List Bd,Ap T s bs=[]↔bs.all (zk l s)=true
 |[]=>⟨fun _=>rfl,fun _=>rfl⟩
 |b::r=>by
  rw[Ap,List.append_eq_nil_iff,List.append_eq_nil_iff,List.append_eq_nil_iff,rbn_iff,RF hT,Ah,EO hT s r,List.all_cons,zk,Bool.and_eq_true,Bool.and_eq_true,Bool.and_eq_true]
  exact⟨fun h=>⟨⟨h.1,h.2.1,h.2.2.1⟩,h.2.2.2⟩,fun h=>⟨h.1.1,h.1.2.1,h.1.2.2,h.2⟩⟩
theorem Oe (hT:yI T l) (s:Sc) (hE:s.dF=true) (t:Ty) (h:zi t):BL T s t=[]↔zI l s t=true:=by
 unfold BL zI;split
 ·rename_i h2;rw[decide_eq_true h2];exact⟨fun _=>rfl,fun _=>rfl⟩
 ·rename_i h2;rw[decide_eq_false h2];exact Ll hT s (.inl hE) false t h
structure MtS (m:Mt):Prop where
 ps:∀p∈m.params,zi p.ty
 rt:zi m.ret
theorem rmt_iff (hT:yI T l) (g:Gn) (d:List Mt) (m:Mt) (h:MtS m):mtE T g d m=[]↔Yh l g d m=true:=by
 unfold mtE Yh
 rw[List.append_eq_nil_iff,List.append_eq_nil_iff,List.append_eq_nil_iff,List.append_eq_nil_iff,List.append_eq_nil_iff,yJ,EM,Ce hT _ (.inl rfl) _ _ h.ps,Oe hT _ rfl _ h.rt,EO hT,
  Bool.and_eq_true,Bool.and_eq_true,Bool.and_eq_true,Bool.and_eq_true,Bool.and_eq_true,Gz]
 have e:(if m.life.size=0 then[]else jI (g.aB++m.aB) m.life m.line m.col)=[]↔(decide (m.life.size=0)||iH (g.aB++m.aB) m.life)=true:=by
  split
  ·rename_i h2;rw[decide_eq_true h2];exact⟨fun _=>rfl,fun _=>rfl⟩
  ·rename_i h2;rw[decide_eq_false h2];exact rE
 rw[e]
theorem Cf (hT:yI T l) (g:Gn):∀(ms d:List Mt),(∀m∈ms,MtS m)→(pI T g d ms=[]↔mM l g d ms=true)
 |[],_,_=>⟨fun _=>rfl,fun _=>rfl⟩
 |m::r,d,h=>by
  rw[pI,mM,List.append_eq_nil_iff,rmt_iff hT g d m (h m List.mem_cons_self),Cf hT g r _ (fun p hp=>h p (List.mem_cons_of_mem _ hp)),Bool.and_eq_true]
def mtN:List Mt→List Mt→Prop
 |_,[]=>True
 |d,m::r=>(∀y∈d,y.name≠m.name)∧mtN (d++[m]) r
theorem Ci (g:Gn):∀(ms d:List Mt),mM l g d ms=true→mtN d ms
 |[],_,_=>trivial
 |m::r,d,h=>by
  rw[mM,Bool.and_eq_true]at h
  refine⟨fun y hy e=> ?_,Ci g r _ h.2⟩
  have h1:=h.1
  unfold Yh at h1
  rw[Bool.and_eq_true,Gz]at h1
  exact h1.1 (List.any_eq_true.2 ⟨y,hy,fF.2 e⟩)
theorem yU:∀(ms d:List Mt),mtN d ms→(d.map Mt.name).Nodup→((d++ms).map Mt.name).Nodup
 |[],d,_,h=>by rw[List.append_nil];exact h
 |m::r,d,h,hd=>by
  have:=yU r (d++[m]) h.2 (by
   rw[List.map_append,List.nodup_append]
   refine⟨hd,by simp,?_⟩
   intro a ha b hb
   simp at hb
   subst hb
   obtain⟨y,hy,rfl⟩:=List.mem_map.1 ha
   exact h.1 y hy)
  rw[List.append_assoc]at this
  exact this
theorem DJ {α:Type} [DecidableEq α]:∀(a b:List α),a.Nodup→(∀x∈a,x∈b)→a.length≤b.length
 |[],_,_,_=>Nat.zero_le _
 |x::r,b,h,hs=>by
  have h1:=List.nodup_cons.1 h
  have h2:=DJ r (b.erase x) h1.2 (fun y hy=>(List.mem_erase_of_ne (by rintro rfl;exact h1.1 hy)).2 (hs y (List.mem_cons_of_mem _ hy)))
  have h3:=List.length_erase_of_mem (hs x List.mem_cons_self)
  have h4:=List.length_pos_of_mem (hs x List.mem_cons_self)
  rw[List.length_cons];omega
theorem nd_all {α:Type} [DecidableEq α] (a b:List α) (h:a.Nodup) (hs:∀x∈a,x∈b) (hl:b.length≤a.length):∀y∈b,y∈a:=by
 intro y hy;by_cases hm:y∈a
 ·exact hm
 ·have:=DJ (y::a) b (List.nodup_cons.2 ⟨hm,h⟩) (fun x hx=>by rcases List.mem_cons.1 hx with rfl|hx;exact hy;exact hs x hx);rw[List.length_cons]at this;omega
theorem Og {ms:List Mt} {s:ByteArray}:(yw ms s).isSome=true↔s∈ms.map Mt.name:=by unfold yw;rw[List.find?_isSome,List.mem_map];exact⟨fun⟨m,h1,h2⟩=>⟨m,h1,fF.1 h2⟩,fun⟨m,h1,h2⟩=>⟨m,h1,fF.2 h2⟩⟩
theorem mt1_iff (tr:It) (m:Mt):D_ tr m=[]↔sQ tr m=true:=by
 unfold D_ sQ;cases yw tr.methods m.name with
 |none=>exact⟨(fun e=>nomatch e),(fun e=>nomatch e)⟩
 |some y=>dsimp only;rw[yJ,Bool.and_eq_true,decide_eq_true_eq,decide_eq_true_eq];exact⟨fun h=>⟨Classical.not_not.1 fun e=>h (.inl e),Classical.not_not.1 fun e=>h (.inr e)⟩,fun h e=>e.elim (fun e=>e h.1) (fun e=>e h.2)⟩
theorem Oh (tr:It):∀ms:List Mt,BP tr ms=[]↔ms.all (sQ tr)=true
 |[]=>⟨fun _=>rfl,fun _=>rfl⟩
 |m::r=>by rw[BP,List.append_eq_nil_iff,mt1_iff,Oh tr r,List.all_cons,Bool.and_eq_true]
theorem RG (x:It):∀ms:List Mt,yx x ms=[]↔∀m∈ms,m.name∈x.methods.map Mt.name
 |[]=>⟨(fun _ _ h=>nomatch h),fun _=>rfl⟩
 |m::r=>by
  rw[yx,List.append_eq_nil_iff,EN,Og,RG x r]
  exact⟨fun h y hy=>by rcases List.mem_cons.1 hy with rfl|hy;exact h.1;exact h.2 y hy,fun h=>⟨h m List.mem_cons_self,fun y hy=>h y (List.mem_cons_of_mem _ hy)⟩⟩
theorem Yi:∀bs:List Bd,NH bs=[]↔bs.all (fun b=>decide (b.aB.length=0))=true
 |[]=>⟨fun _=>rfl,fun _=>rfl⟩
 |b::r=>by
  rw[NH,List.append_eq_nil_iff,yJ,Yi r,List.all_cons,Bool.and_eq_true,decide_eq_true_eq]
  exact⟨fun h=>⟨by omega,h.2⟩,fun h=>⟨by omega,h.2⟩⟩
theorem GI {tr:It} {ms:List Mt} (h:ms.all (sQ tr)=true):∀s∈ms.map Mt.name,s∈tr.methods.map Mt.name:=by
 intro s hs;obtain⟨m,hm,rfl⟩:=List.mem_map.1 hs;have h1:=List.all_eq_true.1 h m hm;unfold sQ at h1;refine Og.1 ?_;cases hf:yw tr.methods m.name with
 |none=>rw[hf]at h1;cases h1
 |some y=>rfl
theorem rgn_eq (hT:yI T l) (h:ByteArray):T.of h=Qr l h:=by unfold Tab.of Qr;rw[hT.st]
theorem rim_iff (hT:yI T l) (hS:∀n,(T.st n).isSome=(dN 1 n 0 l).isSome) (hR:T.get T.tr=fun n=>(dN 2 n 0 l).bind fun i=>l[i]?) (x:It) (hx:∀m∈x.methods,MtS m) (hN:∀tr,tr∈l→tr.kind=2→mtN [] tr.methods) (hK:∀tr,(dN 2 x.name 0 l).bind (fun i=>l[i]?)=some tr→tr∈l∧tr.kind=2):yA T x=[]↔Qs l x=true:=by
 unfold yA Qs Qb;rw[List.append_eq_nil_iff,List.append_eq_nil_iff,List.append_eq_nil_iff,List.append_eq_nil_iff,EN,hS,Yi,EO hT,rgn_eq hT,Cf hT _ _ _ hx,hR];simp only[Bool.and_eq_true];refine and_congr Iff.rfl (and_congr Iff.rfl ?_);cases ht:(dN 2 x.name 0 l).bind (fun i=>l[i]?)with
 |none=>exact⟨(fun h=>nomatch h.2.2),gQ⟩
 |some tr=>
  obtain⟨h1,h2⟩:=hK tr ht;have ht2:=yU _ _ (hN tr h1 h2) List.nodup_nil;rw[List.nil_append]at ht2;dsimp only;rw[List.append_eq_nil_iff,Oh,RG];simp only[Bool.and_eq_true,decide_eq_true_eq];refine and_congr Iff.rfl ⟨fun h=>⟨h.1,?_,h.2.1⟩,fun h=>⟨h.1,h.2.2,?_⟩⟩
  ·have h3:=yU _ _ (Ci _ _ _ h.1) List.nodup_nil;rw[List.nil_append]at h3;have h4:=DJ _ _ h3 (GI h.2.1);have h5:=DJ _ _ ht2 (fun s hs=>by obtain⟨m,hm,rfl⟩:=List.mem_map.1 hs;exact h.2.2 m hm);rw[List.length_map,List.length_map]at h4 h5;omega
  ·have h3:=yU _ _ (Ci _ _ _ h.1) List.nodup_nil;rw[List.nil_append]at h3;have h6:=nd_all _ _ h3 (GI h.2.2) (by rw[List.length_map,List.length_map];omega);exact fun m hm=>h6 _ (List.mem_map_of_mem hm)
end
mutual
def nY (l:List It) (h:List ByteArray):Ty→List ByteArray
 | .mk k n _ _ _ ar _ _=>if k=5 then(if(dN 1 n 0 l).isSome&& !(h.any (eqS n))then[n]else[])++qg l h ar else[]
def qg (l:List It) (h:List ByteArray):List Ty→List ByteArray
 |[]=>[]
 |t::r=>nY l h t++qg l h r
end
def Lm (l:List It) (s:ByteArray):It:=(((dN 1 s 0 l).bind fun i=>l[i]?).getD qZ)
def DK (a:ByteArray) (inn:List ByteArray):Option (List ByteArray)→ByteArray→Option (List ByteArray)
 |none,_=>none
 |some m,h=>if eqS h a then none else some (if inn.any (eqS h)||m.any (eqS h)then m else m++[h])
def IE (l:List It) (a:ByteArray) (inn:List ByteArray) (x:It) (st:Option (List ByteArray)) (p:Pm):Option (List ByteArray):=(nY l x.gen.types p.ty).foldl (DK a inn) st
def vG (l:List It) (a:ByteArray) (inn:List ByteArray) (st:Option (List ByteArray)) (s:ByteArray):Option (List ByteArray):=(Lm l s).fields.foldl (IE l a inn (Lm l s)) st
def vH (l:List It) (a:ByteArray):Nat→List ByteArray→Bool
 |0,_=>false
 |f+1,inn=>match inn.foldl (vG l a inn) (some [])with
  |none=>true
  |some more=>vH l a f (inn++more)
mutual
theorem yK (l:List It) (h:List ByteArray):∀t:Ty,nY l h t=(jU t).filter fun n=>(dN 1 n 0 l).isSome&& !(h.any (eqS n))
 | .mk k n _ _ _ ar _ _=>by
  rw[nY,jU]
  split
  ·
   rw[List.filter_cons,Jq l h ar]
   split<;>rfl
  ·
   rfl
theorem Jq (l:List It) (h:List ByteArray):∀ts:List Ty,qg l h ts=(kZ ts).filter fun n=>(dN 1 n 0 l).isSome&& !(h.any (eqS n))
 |[]=>by rw[qg,kZ];rfl
 |t::r=>by rw[qg,kZ,List.filter_append,yK l h t,Jq l h r]
end
def zl (l:List It) (s:ByteArray):List ByteArray:=(Lm l s).fields.flatMap fun p=>nY l (Lm l s).gen.types p.ty
inductive UX (l:List It) (s:ByteArray):ByteArray→Prop
 |one (t:ByteArray):t∈zl l s→UX l s t
 |step (t u:ByteArray):UX l s t→u∈zl l t→UX l s u
theorem rin_eq (l:List It) (a:ByteArray) (inn:List ByteArray) (st:Option (List ByteArray)) (s:ByteArray):vG l a inn st s=(zl l s).foldl (DK a inn) st:=by unfold vG zl;rw[List.foldl_flatMap];rfl
theorem Cj (a:ByteArray) (inn:List ByteArray):∀H:List ByteArray,H.foldl (DK a inn) none=none
 |[]=>rfl
 |_::r=>Cj a inn r
theorem Cm (a:ByteArray) (inn:List ByteArray):∀(H m:List ByteArray),m.Nodup→(∀x∈m,x∉inn)→(H.foldl (DK a inn) (some m)=none∧a∈H)∨∃m',H.foldl (DK a inn) (some m)=some m'∧a∉H∧m'.Nodup∧(∀x∈m',x∉inn)∧∀x,x∈m'↔x∈m∨(x∈H∧x∉inn)
 |[],m,h1,h2=>.inr ⟨m,rfl,gQ,h1,h2,fun x=>⟨.inl,fun h=>h.elim id (fun h=>nomatch h.1)⟩⟩
 |h::r,m,h1,h2=>by
  rw[List.foldl_cons,DK]
  cases he:eqS h a with
  |true=>
   rw[if_pos rfl,Cj]
   exact .inl ⟨rfl,by rw[fF.1 he];exact List.mem_cons_self⟩
  |false=>
   rw[if_neg dc]
   have hne:a≠h:=by rintro rfl;rw[fF.2 rfl]at he;cases he
   by_cases hc:(inn.any (eqS h)||m.any (eqS h))=true
   ·
    rw[if_pos hc]
    rw[Bool.or_eq_true,qp,qp]at hc
    rcases Cm a inn r m h1 h2 with⟨e,h3⟩|⟨m',e,h3,h4,h5,h6⟩
    ·
     exact .inl ⟨e,List.mem_cons_of_mem _ h3⟩
    ·
     refine .inr ⟨m',e,fun hm=>(List.mem_cons.1 hm).elim hne h3,h4,h5,fun x=>(h6 x).trans ⟨fun h=>h.imp id (fun h=>⟨List.mem_cons_of_mem _ h.1,h.2⟩),fun h=>h.elim .inl (fun⟨h7,h8⟩=> ?_)⟩⟩
     rcases List.mem_cons.1 h7 with rfl|h7
     ·
      exact hc.elim (fun h=>absurd h h8) .inl
     ·
      exact .inr ⟨h7,h8⟩
   ·
    rw[if_neg hc]
    rw[Bool.or_eq_true,qp,qp,not_or]at hc
    have h1':(m++[h]).Nodup:=by
     rw[List.nodup_append]
     refine⟨h1,by simp,?_⟩
     intro x hx y hy e
     rw[List.mem_singleton]at hy
     subst hy;subst e
     exact hc.2 hx
    have h2':∀x∈m++[h],x∉inn:=by
     intro x hx
     rcases List.mem_append.1 hx with hx|hx
     ·
      exact h2 x hx
     ·
      rw[List.mem_singleton]at hx;subst hx;exact hc.1
    rcases Cm a inn r (m++[h]) h1' h2' with⟨e,h3⟩|⟨m',e,h3,h4,h5,h6⟩
    ·
     exact .inl ⟨e,List.mem_cons_of_mem _ h3⟩
    ·
     refine .inr ⟨m',e,fun hm=>(List.mem_cons.1 hm).elim hne h3,h4,h5,fun x=>(h6 x).trans ⟨fun h=> ?_,fun h=> ?_⟩⟩
     ·
      rcases h with h|h
      ·
       rcases List.mem_append.1 h with h|h
       ·
        exact .inl h
       ·
        rw[List.mem_singleton]at h;subst h;exact .inr ⟨List.mem_cons_self,hc.1⟩
      ·
       exact .inr ⟨List.mem_cons_of_mem _ h.1,h.2⟩
     ·
      rcases h with h|⟨h7,h8⟩
      ·
       exact .inl (List.mem_append_left _ h)
      ·
       rcases List.mem_cons.1 h7 with rfl|h7
       ·
        exact .inl (List.mem_append_right _ (List.mem_singleton.2 rfl))
       ·
        exact .inr ⟨h7,h8⟩
theorem Oi (l:List It) (a:ByteArray) (inn:List ByteArray):inn.foldl (vG l a inn) (some [])=(inn.flatMap (zl l)).foldl (DK a inn) (some []):=by rw[List.foldl_flatMap,show vG l a inn=fun st s=>(zl l s).foldl (DK a inn) st from funext fun st=>funext fun s=>rin_eq l a inn st s]
theorem Oj (l:List It) (a b:ByteArray):∀(f:Nat) (inn:List ByteArray),(∀s∈inn,s=b∨UX l b s)→vH l a f inn=true→UX l b a
 |0,_,_,h=>nomatch h
 |f+1,inn,hin,h=>by
  have hs:∀t,t∈inn.flatMap (zl l)→UX l b t:=fun t ht=>by
   obtain⟨s,h1,h2⟩:=List.mem_flatMap.1 ht
   rcases hin s h1 with rfl|h3
   ·
    exact .one t h2
   ·
    exact .step s t h3 h2
  rw[vH,Oi]at h
  rcases Cm a inn (inn.flatMap (zl l)) [] List.nodup_nil lu with⟨e,h3⟩|⟨m',e,h3,h4,h5,h6⟩
  ·
   exact hs a h3
  ·
   rw[e]at h
   refine Oj l a b f (inn++m') (fun s hs2=> ?_) h
   rcases List.mem_append.1 hs2 with h7|h7
   ·
    exact hin s h7
   ·
    exact .inr (hs s (((h6 s).1 h7).elim gQ (fun h=>h.1)))
theorem Lp {k:Int} {s:ByteArray}:∀(l:List It) (i:Nat),(dN k s i l).isSome=true→s∈l.map It.name
 |[],_,h=>nomatch h
 |x::r,i,h=>by
  rw[dN]at h
  rw[List.map_cons]
  split at h
  ·
   rename_i h2
   rw[Bool.and_eq_true]at h2
   rw[fF.1 h2.1]
   exact List.mem_cons_self
  ·
   exact List.mem_cons_of_mem _ (Lp r _ h)
theorem hol_mem {l:List It} {s t:ByteArray} (h:t∈zl l s):t∈l.map It.name:=by unfold zl at h;obtain⟨p,-,h2⟩:=List.mem_flatMap.1 h;rw[yK,List.mem_filter,Bool.and_eq_true]at h2;exact Lp l 0 h2.2.1
theorem Jr (l:List It) (a:ByteArray):∀(f:Nat) (inn:List ByteArray),inn.Nodup→(∀s∈inn,s∈l.map It.name)→l.length<f+inn.length→vH l a f inn=false→∃C:List ByteArray,(∀s∈inn,s∈C)∧∀s∈C,∀t∈zl l s,t∈C∧t≠a
 |0,inn,h1,h2,h3,_=>by
  have:=DJ _ _ h1 h2
  rw[List.length_map]at this
  omega
 |f+1,inn,h1,h2,h3,h=>by
  rw[vH,Oi]at h
  rcases Cm a inn (inn.flatMap (zl l)) [] List.nodup_nil lu with⟨e,h4⟩|⟨m',e,h4,h5,h6,h7⟩
  ·
   rw[e]at h;cases h
  ·
   rw[e]at h
   cases m' with
   |nil=>
    refine⟨inn,fun _ h=>h,fun s hs t ht=> ?_⟩
    have ht2:=List.mem_flatMap.2 ⟨s,hs,ht⟩
    refine⟨?_,by rintro rfl;exact h4 ht2⟩
    by_cases hm:t∈inn
    ·
     exact hm
    ·
     exact nomatch (h7 t).2 (.inr ⟨ht2,hm⟩)
   |cons y ys=>
    obtain⟨C,h8,h9⟩:=Jr l a f (inn++y::ys) (by
     rw[List.nodup_append]
     refine⟨h1,h5,?_⟩
     rintro p hp q hq rfl
     exact h6 p hq hp) (fun s hs=>by
      rcases List.mem_append.1 hs with hs|hs
      ·
       exact h2 s hs
      ·
       rcases(h7 s).1 hs with h|h
       ·
        cases h
       ·
        obtain⟨u,-,hu⟩:=List.mem_flatMap.1 h.1
        exact hol_mem hu) (by rw[List.length_append,List.length_cons];omega) h
    exact⟨C,fun s hs=>h8 s (List.mem_append_left _ hs),h9⟩
theorem rwi_iff (l:List It) (n:ByteArray) (hn:n∈l.map It.name):vH l n (l.length+1) [n]=true↔UX l n n:=by
 refine⟨Oj l n n _ _ (fun s hs=>.inl (List.mem_singleton.1 hs)),fun h=> ?_⟩;cases hr:vH l n (l.length+1) [n]with
 |true=>rfl
 |false=>
  obtain⟨C,h1,h2⟩:=Jr l n _ [n] (by simp) (fun s hs=>by rw[List.mem_singleton.1 hs];exact hn) (by simp;omega) hr;have h3:∀t,UX l n t→t∈C∧t≠n:=by
   intro t ht;induction ht with
   |one t h=>exact h2 n (h1 n (by simp)) t h
   |step t u _ h4 ih=>exact h2 t ih.1 u h4
  exact absurd rfl (h3 n h).2
def Yj (st:List ByteArray×List ByteArray) (s:ByteArray):List ByteArray×List ByteArray:=if st.1.any (eqS s)then st else(st.1++[s],st.2++[s])
theorem GK:∀(H:List ByteArray) (st:List ByteArray×List ByteArray),∃nw,H.foldl Yj st=(st.1++nw,st.2++nw)∧(∀x∈nw,x∈H)∧∀x∈H,x∈st.1++nw
 |[],st=>⟨[],by simp,lu,lu⟩
 |h::r,st=>by
  rw[List.foldl_cons]
  unfold Yj
  split
  ·
   rename_i h1
   obtain⟨nw,e,h2,h3⟩:=GK r st
   refine⟨nw,e,fun x hx=>List.mem_cons_of_mem _ (h2 x hx),fun x hx=> ?_⟩
   rcases List.mem_cons.1 hx with rfl|hx
   ·
    exact List.mem_append_left _ (qp.1 h1)
   ·
    exact h3 x hx
  ·
   obtain⟨nw,e,h2,h3⟩:=GK r (st.1++[h],st.2++[h])
   refine⟨h::nw,by unfold Yj at e;rw[e];simp,fun x hx=> ?_,fun x hx=> ?_⟩
   ·
    rcases List.mem_cons.1 hx with rfl|hx
    ·
     exact List.mem_cons_self
    ·
     exact List.mem_cons_of_mem _ (h2 x hx)
   ·
    rcases List.mem_cons.1 hx with rfl|hx
    ·
     simp
    ·
     have:=h3 x hx
     rw[List.append_assoc]at this
     exact this
section
variable {T : Tab} {l : List It}
theorem fld_eq (hT:yI T l) (hS:∀n,(T.st n).isSome=(dN 1 n 0 l).isSome) (s:ByteArray) (st:List ByteArray×List ByteArray):((T.get T.st s).getD qZ).fields.foldl (yB T ((T.get T.st s).getD qZ)) st=(zl l s).foldl Yj st:=by
 have e:(T.get T.st s).getD qZ=Lm l s:=by rw[hT.st];rfl
 rw[e];unfold zl;rw[List.foldl_flatMap];congr 1;funext st p;unfold yB;rw[yK,List.foldl_filter];congr 1;funext st u;unfold stepW Yj;rw[hS];cases (dN 1 u 0 l).isSome<;>cases (Lm l s).gen.types.any (eqS u)<;>cases st.1.any (eqS u)<;>rfl
theorem Ol (hT:yI T l) (hS:∀n,(T.st n).isSome=(dN 1 n 0 l).isSome) (n:ByteArray):∀(f:Nat) (todo out res:List ByteArray),iI T f todo out=some res→(∀s∈todo,s=n∨UX l n s)→(∀s∈out,UX l n s)→(∀s,s=n∨s∈out→s∈todo∨∀t∈zl l s,t∈out)→∀s,s∈res↔UX l n s
 |0,_,_,_,h,_,_,_=>nomatch h
 |f+1,[],out,res,h,_,h2,h3=>by
  rw[iI]at h
  cases h
  refine fun s=>⟨h2 s,fun h=> ?_⟩
  induction h with
  |one t h=>exact(h3 n (.inl rfl)).elim gQ (fun h4=>h4 t h)
  |step t u _ h4 ih=>exact(h3 t (.inr ih)).elim gQ (fun h5=>h5 u h4)
 |f+1,t::r,out,res,h,h1,h2,h3=>by
  rw[iI,fld_eq hT hS]at h
  obtain⟨nw,e,h4,h5⟩:=GK (zl l t) (out,r)
  rw[e]at h
  have h6:∀s∈nw,UX l n s:=fun s hs=>by
   rcases h1 t List.mem_cons_self with rfl|h7
   ·
    exact .one s (h4 s hs)
   ·
    exact .step t s h7 (h4 s hs)
  refine Ol hT hS n f _ _ res h (fun s hs=> ?_) (fun s hs=> ?_) (fun s hs=> ?_)
  ·
   rcases List.mem_append.1 hs with hs|hs
   ·
    exact h1 s (List.mem_cons_of_mem _ hs)
   ·
    exact .inr (h6 s hs)
  ·
   rcases List.mem_append.1 hs with hs|hs
   ·
    exact h2 s hs
   ·
    exact h6 s hs
  ·
   have h9:(s=n∨s∈out)∨s∈nw:=by
     rcases hs with hs|hs
     ·
      exact .inl (.inl hs)
     ·
      exact(List.mem_append.1 hs).imp .inr id
   rcases h9 with h9|h9
   ·
    rcases h3 s h9 with h10|h10
    ·
     rcases List.mem_cons.1 h10 with rfl|h10
     ·
      exact .inr h5
     ·
      exact .inl (List.mem_append_left _ h10)
    ·
     exact .inr fun t ht=>List.mem_append_left _ (h10 t ht)
   ·
    exact .inl (List.mem_append_right _ h9)
theorem wit_iff (hT:yI T l) (hS:∀n,(T.st n).isSome=(dN 1 n 0 l).isSome) (F:Nat) (n:ByteArray) (hn:n∈l.map It.name) (hw:∃res,iI T F [n] []=some res):(XB T F n).any (eqS n)=vH l n (l.length+1) [n]:=by obtain⟨res,hr⟩:=hw;have h1:=Ol hT hS n F _ _ _ hr (fun s hs=>.inl (List.mem_singleton.1 hs)) lu (fun s hs=>.inl (hs.elim (fun h=>List.mem_singleton.2 h) gQ)) n;rw[Bool.eq_iff_iff,rwi_iff l n hn,←h1,XB,hr,qp];rfl
end
def yL (x y:It):Bool:=if x.kind=3 then decide (y.kind=3)&&(eqS y.name x.name&&eqS y.head x.head)else eqS y.name x.name&&vk x.kind y.kind
def zn (d:List It) (x:It):Bool:= !(d.any (yL x))
def GL:List It→List It→Bool
 |_,[]=>true
 |d,x::r=>zn d x&&GL (d++[x]) r
structure Yk (T:Tab) (d:List It):Prop where
 st:∀s,((T.st s).isSome||(T.tr s).isSome)=d.any (fun y=>eqS y.name s&&(decide (y.kind=1)||decide (y.kind=2)))
 fn:∀s,(T.fn s).isSome=d.any (fun y=>eqS y.name s&&decide (y.kind=4))
 im:∀s t,(T.im s t).isSome=d.any (fun y=>decide (y.kind=3)&&(eqS y.name s&&eqS y.head t))
theorem GN {α:Type} (p:α→Bool) (d:List α) (x:α):(d++[x]).any p=(d.any p||p x):=by rw[List.any_append];simp
theorem Yk.ent {T:Tab} {d:List It} (h:Yk T d) (i:Nat) (x:It) (hk:x.kind=1∨x.kind=2∨x.kind=3∨x.kind=4):Yk (jd T i x).1 (d++[x]):=by
 refine⟨fun s=> ?_,fun s=> ?_,fun s t=> ?_⟩
 ·have hp:=N9 T i x s hk;rw[GN,←h.st,show(jd T i x).1.st s=(Qo (T.st s) (T.tr s) i x s).1 from congrArg Prod.fst hp,show(jd T i x).1.tr s=(Qo (T.st s) (T.tr s) i x s).2 from congrArg Prod.snd hp];unfold Qo;cases (eqS x.name s&&(decide (x.kind=1)||decide (x.kind=2)))
  ·rw[if_neg dc,Bool.or_false]
  ·rw[if_pos rfl,Bool.or_true];cases ha:((T.st s).isSome||(T.tr s).isSome)
   ·rw[if_neg dc];split
    ·rfl
    ·show((T.st s).isSome||true)=true;rw[Bool.or_true]
   ·rw[if_pos rfl];exact ha
 ·rw[GN,←h.fn,Ya T i x s hk];cases (eqS x.name s&&decide (x.kind=4))
  ·rw[if_neg dc,Bool.or_false]
  ·rw[if_pos rfl,Bool.or_true];cases hf:T.fn s<;>rfl
 ·rw[GN,←h.im,Yb];cases (decide (x.kind=3)&&(eqS x.name s&&eqS x.head t))
  ·rw[if_neg dc,Bool.or_false]
  ·rw[if_pos rfl,Bool.or_true];cases hf:T.im s t<;>rfl
theorem ent_err {T:Tab} {d:List It} (h:Yk T d) (i:Nat) (x:It) (hk:x.kind=1∨x.kind=2∨x.kind=3∨x.kind=4):(jd T i x).2=[]↔zn d x=true:=by
 have h12:∀y:It,vk 1 y.kind=(decide (y.kind=1)||decide (y.kind=2))∧vk 2 y.kind=(decide (y.kind=1)||decide (y.kind=2))∧vk 4 y.kind=decide (y.kind=4):=by
  intro y;unfold vk;by_cases h1:y.kind=1
  ·rw[h1];exact⟨rfl,rfl,rfl⟩
  ·by_cases h2:y.kind=2
   ·rw[h2];exact⟨rfl,rfl,rfl⟩
   ·refine⟨?_,?_,?_⟩<;>simp[h1,h2]
 have key:∀c e:Bool,((if c then([(4,x.line,x.col)]:List Er)else[])=[]↔(!e)=true)↔c=e:=by intro c e;cases c<;>cases e<;>simp
 unfold jd zn;rcases hk with hk|hk|hk|hk
 ·rw[hk,if_neg dc];have e:yL x=fun y=>eqS y.name x.name&&(decide (y.kind=1)||decide (y.kind=2)):=by funext y;unfold yL;rw[hk,if_neg dc,(h12 y).1]
  rw[e,←h.st];show(if((T.st x.name).isSome||(true&&((T.st x.name).isSome||(T.tr x.name).isSome)))=true then(T,[(4,x.line,x.col)])else(T.put 1 x.name i,[])).2=[]↔_;cases (T.st x.name).isSome<;>cases (T.tr x.name).isSome<;>simp
 ·rw[hk,if_neg dc];have e:yL x=fun y=>eqS y.name x.name&&(decide (y.kind=1)||decide (y.kind=2)):=by funext y;unfold yL;rw[hk,if_neg dc,(h12 y).2.1]
  rw[e,←h.st];show(if((T.tr x.name).isSome||(true&&((T.st x.name).isSome||(T.tr x.name).isSome)))=true then(T,[(4,x.line,x.col)])else(T.put 2 x.name i,[])).2=[]↔_;cases (T.st x.name).isSome<;>cases (T.tr x.name).isSome<;>simp
 ·rw[hk,if_pos rfl];have e:yL x=fun y=>decide (y.kind=3)&&(eqS y.name x.name&&eqS y.head x.head):=by funext y;unfold yL;rw[if_pos hk]
  rw[e,←h.im];cases (T.im x.name x.head).isSome<;>simp
 ·rw[hk,if_neg dc];have e:yL x=fun y=>eqS y.name x.name&&decide (y.kind=4):=by funext y;unfold yL;rw[hk,if_neg dc,(h12 y).2.2]
  rw[e,←h.fn];show(if((T.fn x.name).isSome||(false&&((T.st x.name).isSome||(T.tr x.name).isSome)))=true then(T,[(4,x.line,x.col)])else(T.put 4 x.name i,[])).2=[]↔_;cases (T.fn x.name).isSome<;>simp
theorem RH:∀(l:List It) (T:Tab) (i:Nat) (d:List It),Yk T d→(∀x∈l,x.kind=1∨x.kind=2∨x.kind=3∨x.kind=4)→((qo T i l).2=[]↔GL d l=true)
 |[],_,_,_,_,_=>⟨fun _=>rfl,fun _=>rfl⟩
 |x::r,T,i,d,h,hk=>by
  have hx:=hk x List.mem_cons_self
  rw[qo,GL]
  dsimp only
  rw[List.append_eq_nil_iff,ent_err h i x hx,RH r _ _ _ (h.ent i x hx) (fun y hy=>hk y (List.mem_cons_of_mem _ hy)),Bool.and_eq_true]
theorem Ai {k:Int} (hk3:k≠3) {x:It} (hx:x.kind=k) {r:List It}:∀(d:List It) (i:Nat),dN k x.name i (d++x::r)=some (i+d.length)↔zn d x=true
 |[],i=>by
  have hh:(eqS x.name x.name&&vk k x.kind)=true:=by rw[fF.2 rfl,hx];unfold vk;simp
  rw[List.nil_append,dN,if_pos hh,if_pos hx]
  exact⟨fun _=>rfl,fun _=>rfl⟩
 |y::d,i=>by
  have ef:zn (y::d) x=(!(yL x y)&&zn d x):=by
   unfold zn
   rw[List.any_cons]
   cases yL x y<;>rfl
  have ep:yL x y=(eqS y.name x.name&&vk k y.kind):=by unfold yL;rw[hx,if_neg hk3]
  rw[List.cons_append,dN,ef,ep]
  cases (eqS y.name x.name&&vk k y.kind)
  ·
   rw[if_neg dc]
   have:=Ai hk3 hx (r:=r) d (i+1)
   rw[show i+(y::d).length=i+1+d.length by rw[List.length_cons];omega,this]
   cases zn d x<;>decide
  ·
   rw[if_pos rfl]
   refine⟨fun h=> ?_,gQ⟩
   split at h
   ·
    have h2:=Option.some.inj h
    rw[List.length_cons]at h2;omega
   ·
    cases h
theorem GR {x:It} (hx:x.kind=3) {r:List It}:∀(d:List It) (i:Nat),xk x.name x.head i (d++x::r)=some (i+d.length)↔zn d x=true
 |[],i=>by
  have hh:(decide (x.kind=3)&&(eqS x.name x.name&&eqS x.head x.head))=true:=by rw[fF.2 rfl,fF.2 rfl,hx];rfl
  rw[List.nil_append,xk,if_pos hh]
  exact⟨fun _=>rfl,fun _=>rfl⟩
 |y::d,i=>by
  have ef:zn (y::d) x=(!(yL x y)&&zn d x):=by
   unfold zn
   rw[List.any_cons]
   cases yL x y<;>rfl
  have ep:yL x y=(decide (y.kind=3)&&(eqS y.name x.name&&eqS y.head x.head)):=by unfold yL;rw[if_pos hx]
  rw[List.cons_append,xk,ef,ep]
  cases (decide (y.kind=3)&&(eqS y.name x.name&&eqS y.head x.head))
  ·
   rw[if_neg dc]
   have:=GR hx (r:=r) d (i+1)
   rw[show i+(y::d).length=i+1+d.length by rw[List.length_cons];omega,this]
   cases zn d x<;>decide
  ·
   rw[if_pos rfl]
   refine⟨fun h=> ?_,gQ⟩
   have h2:=Option.some.inj h
   rw[List.length_cons]at h2;omega
theorem Js {k:Int} {s:ByteArray}:∀(l:List It) (i j:Nat),dN k s i l=some j→∃(n:Nat) (y:It),j=i+n∧l[n]?=some y∧y.kind=k
 |[],_,_,h=>nomatch h
 |x::r,i,j,h=>by
  rw[dN]at h
  split at h
  ·
   split at h
   ·
    rename_i h2
    cases h
    exact⟨0,x,rfl,rfl,h2⟩
   ·
    cases h
  ·
   obtain⟨n,y,h1,h2,h3⟩:=Js r (i+1) j h
   exact⟨n+1,y,by omega,h2,h3⟩
def rfnB (l:List It) (x:It):Bool:=Gy l x.gen&&(oW l ⟨x.gen.aB,x.gen.types,true⟩ [] x.fields&&(x.wh.all (zk l ⟨x.gen.aB,x.gen.types,true⟩)&&zI l ⟨x.gen.aB,x.gen.types,true⟩ x.ret))
def Lr (l:List It) (i:Nat) (x:It):Bool:=
 if x.kind=1 then decide (aan (dN 1 x.name 0 l)=i)&&(Gy l x.gen&&(oW l ⟨x.gen.aB,x.gen.types,false⟩ [] x.fields&& !(vH l x.name (l.length+1) [x.name])))
 else if x.kind=2 then decide (aan (dN 2 x.name 0 l)=i)&&mM l jW [] x.methods
 else if x.kind=3 then decide (aan (xk x.name x.head 0 l)=i)&&Qs l x
 else decide (aan (dN 4 x.name 0 l)=i)&&rfnB l x
def zo (l:List It):Nat→List It→Bool
 |_,[]=>true
 |i,x::r=>Lr l i x&&zo l (i+1) r
def UG (l:List It) (x:It):Bool:=
 if x.kind=1 then Gy l x.gen&&oW l ⟨x.gen.aB,x.gen.types,false⟩ [] x.fields
 else if x.kind=2 then mM l jW [] x.methods
 else if x.kind=3 then Qs l x
 else rfnB l x
theorem Om {o:Option Nat} {i:Nat}:aan o=(i:Int)↔o=some i:=by
 cases o with
 |none=>exact⟨fun h=>by have h:(-1:Int)=i:=h;omega,fun h=>nomatch h⟩
 |some j=>exact⟨fun h=>by have h:(j:Int)=i:=h;rw[Int.ofNat.inj h],fun h=>by cases h;rfl⟩
theorem rit_iff {l d r:List It} {x:It} (hl:l=d++x::r) (hk:x.kind=1∨x.kind=2∨x.kind=3∨x.kind=4):Lr l d.length x=true↔zn d x=true∧UG l x=true∧(x.kind=1→vH l x.name (l.length+1) [x.name]=false):=by
 have h0:∀k:Int,k≠3→x.kind=k→(aan (dN k x.name 0 l)=(d.length:Int)↔zn d x=true):=fun k h3 hx=>by rw[Om,hl,←Ai h3 hx (r:=r) d 0,Nat.zero_add]
 unfold Lr UG;rcases hk with hk|hk|hk|hk
 ·rw[if_pos hk,if_pos hk];simp only[Bool.and_eq_true,decide_eq_true_eq,h0 1 dc hk,Bool.not_eq_true'];exact⟨fun h=>⟨h.1,⟨h.2.1,h.2.2.1⟩,fun _=>h.2.2.2⟩,fun h=>⟨h.1,h.2.1.1,h.2.1.2,h.2.2 hk⟩⟩
 ·rw[if_neg (show¬x.kind=1 by omega),if_neg (show¬x.kind=1 by omega),if_pos hk,if_pos hk];simp only[Bool.and_eq_true,decide_eq_true_eq,h0 2 dc hk];exact⟨fun h=>⟨h.1,h.2,fun e=>by omega⟩,fun h=>⟨h.1,h.2.1⟩⟩
 ·have h3:aan (xk x.name x.head 0 l)=(d.length:Int)↔zn d x=true:=by rw[Om,hl,←GR hk (r:=r) d 0,Nat.zero_add]
  rw[if_neg (show¬x.kind=1 by omega),if_neg (show¬x.kind=1 by omega),if_neg (show¬x.kind=2 by omega),if_neg (show¬x.kind=2 by omega),if_pos hk,if_pos hk];simp only[Bool.and_eq_true,decide_eq_true_eq,h3];exact⟨fun h=>⟨h.1,h.2,fun e=>by omega⟩,fun h=>⟨h.1,h.2.1⟩⟩
 ·rw[if_neg (show¬x.kind=1 by omega),if_neg (show¬x.kind=1 by omega),if_neg (show¬x.kind=2 by omega),if_neg (show¬x.kind=2 by omega),if_neg (show¬x.kind=3 by omega),if_neg (show¬x.kind=3 by omega)];simp only[Bool.and_eq_true,decide_eq_true_eq,h0 4 dc hk];exact⟨fun h=>⟨h.1,h.2,fun e=>by omega⟩,fun h=>⟨h.1,h.2.1⟩⟩
theorem RI {l:List It}:∀(r d:List It),l=d++r→(∀x∈r,x.kind=1∨x.kind=2∨x.kind=3∨x.kind=4)→(zo l d.length r=true↔GL d r=true∧(∀x∈r,UG l x=true)∧∀x∈r,x.kind=1→vH l x.name (l.length+1) [x.name]=false)
 |[],_,_,_=>⟨fun _=>⟨rfl,lu,lu⟩,fun _=>rfl⟩
 |x::r,d,hl,hk=>by
  have ih:=RI r (d++[x]) (hl.trans (List.append_assoc d [x] r).symm) (fun y hy=>hk y (List.mem_cons_of_mem _ hy))
  rw[List.length_append]at ih
  have ih:zo l (d.length+1) r=true↔_:=ih
  rw[zo,GL,Bool.and_eq_true,Bool.and_eq_true,rit_iff hl (hk x List.mem_cons_self),ih,List.forall_mem_cons,List.forall_mem_cons]
  exact⟨fun h=>⟨⟨h.1.1,h.2.1⟩,⟨h.1.2.1,h.2.2.1⟩,h.1.2.2,h.2.2.2⟩,fun h=>⟨⟨h.1.1,h.2.1.1,h.2.2.1⟩,h.1.2,h.2.1.2,h.2.2.2⟩⟩
structure YN (x:It):Prop where
 fs:∀p∈x.fields,zi p.ty
 rt:zi x.ret
 ms:∀m∈x.methods,MtS m
 lf:∀s∈x.gen.aB,0<s.size
theorem YN.el {x:It} (h:YN x):iH x.gen.aB ⟨#[]⟩=false:=by unfold iH;rw[Bool.or_eq_false_iff];refine⟨rfl,?_⟩;rw[←Bool.not_eq_true,qp];intro hm;exact absurd (h.lf _ hm) dc
section
variable {T : Tab} {l : List It}
theorem RN (hT:yI T l) (hS:∀n,(T.st n).isSome=(dN 1 n 0 l).isSome) (hR:T.get T.tr=fun n=>(dN 2 n 0 l).bind fun i=>l[i]?) (hN:∀tr,tr∈l→tr.kind=2→mtN [] tr.methods) (x:It) (hx:YN x) (hk:x.kind=1∨x.kind=2∨x.kind=3∨x.kind=4):Qg T x=[]↔UG l x=true:=by
 unfold Qg UG;rcases hk with hk|hk|hk|hk
 ·rw[if_pos hk,if_pos hk,List.append_eq_nil_iff,RD hS,Ce hT _ (.inr hx.el) _ _ hx.fs,Bool.and_eq_true]
 ·rw[if_neg (show¬x.kind=1 by omega),if_neg (show¬x.kind=1 by omega),if_pos hk,if_pos hk,Cf hT _ _ _ hx.ms]
 ·rw[if_neg (show¬x.kind=1 by omega),if_neg (show¬x.kind=1 by omega),if_neg (show¬x.kind=2 by omega),if_neg (show¬x.kind=2 by omega),if_pos hk,if_pos hk];refine rim_iff hT hS hR x hx.ms hN fun tr ht=> ?_;cases hf:dN 2 x.name 0 l with
  |none=>rw[hf]at ht;cases ht
  |some j=>rw[hf]at ht;obtain⟨n,y,h1,h2,h3⟩:=Js l 0 j hf;rw[Nat.zero_add]at h1;subst h1;have ht:l[j]?=some tr:=ht;rw[h2]at ht;cases ht;exact⟨List.mem_of_getElem? h2,h3⟩
 ·rw[if_neg (show¬x.kind=1 by omega),if_neg (show¬x.kind=1 by omega),if_neg (show¬x.kind=2 by omega),if_neg (show¬x.kind=2 by omega),if_neg (show¬x.kind=3 by omega),if_neg (show¬x.kind=3 by omega),if_pos hk];unfold rfnB;rw[List.append_eq_nil_iff,List.append_eq_nil_iff,List.append_eq_nil_iff,RD hS,Ce hT _ (.inl rfl) _ _ hx.fs,Oe hT _ rfl _ hx.rt,EO hT,Bool.and_eq_true,Bool.and_eq_true,Bool.and_eq_true];exact⟨fun h=>⟨h.1,h.2.1,h.2.2.2,h.2.2.1⟩,fun h=>⟨h.1,h.2.1,h.2.2.2,h.2.2.1⟩⟩
theorem Yl (hT:yI T l) (hS:∀n,T.st n=dN 1 n 0 l) (F:Nat) (hw:∀x∈l,∃res,iI T F [x.name] []=some res):∀(r d:List It),l=d++r→GL d r=true→(Iz T F d.length r=[]↔∀x∈r,x.kind=1→vH l x.name (l.length+1) [x.name]=false)
 |[],_,_,_=>⟨(fun _ _ h=>nomatch h),fun _=>rfl⟩
 |x::r,d,hl,hf=>by
  rw[GL,Bool.and_eq_true]at hf
  have ih:=Yl hT hS F hw r (d++[x]) (hl.trans (List.append_assoc d [x] r).symm) hf.2
  rw[List.length_append]at ih
  have ih:Iz T F (d.length+1) r=[]↔_:=ih
  have hxl:x∈l:=by rw[hl];simp
  rw[Iz,List.append_eq_nil_iff,ih,List.forall_mem_cons]
  refine and_congr ?_ Iff.rfl
  unfold Qh
  rw[yJ,wit_iff hT (fun n=>by rw[hS]) F x.name (List.mem_map_of_mem hxl) (hw x hxl)]
  refine⟨fun h hk=> ?_,fun h h2=> ?_⟩
  ·
   have h1:T.st x.name=some d.length:=by
     rw[hS,hl]
     have:=(Ai dc hk (r:=r) d 0).2 hf.1
     rw[Nat.zero_add]at this
     exact this
   rw[←Bool.not_eq_true]
   exact fun h3=>h ⟨hk,h1,h3⟩
  ·
   rw[h h2.1]at h2
   exact absurd h2.2.2 dc
end
theorem UH {l:List It} (F:Nat) (hb:∀x∈l,Eb x) (hs:∀x∈l,YN x) (hw:∀x∈l,∃res,iI (mJ l) F [x.name] []=some res):yD F l=[]↔zo l 0 l=true:=by
 have hk:∀x∈l,x.kind=1∨x.kind=2∨x.kind=3∨x.kind=4:=fun x hx=>(hb x hx).kd;have hF:=Oa hb;have hi:=oH l;have hT:=newT_l hb;have hS:∀n,(mJ l).st n=dN 1 n 0 l:=fun n=>by rw[hF.st,hi]
 have hR:(mJ l).get (mJ l).tr=fun n=>(dN 2 n 0 l).bind fun i=>l[i]?:=by funext n;unfold Tab.get;rw[hF.tr,hi]
 have hS2:∀n,((mJ l).st n).isSome=(dN 1 n 0 l).isSome:=fun n=>by rw[hS]
 have h1:=RH l (uy l) 0 [] ⟨fun _=>rfl,fun _=>rfl,fun _ _=>rfl⟩ hk;have h2:=RI (l:=l) l [] rfl hk;have h2:zo l 0 l=true↔_:=h2;unfold yD;rw[List.append_eq_nil_iff,List.append_eq_nil_iff,h1,h2,List.flatMap_eq_nil_iff];refine and_congr_right fun hf=> ?_;have h3:=Yl hT hS F hw l [] rfl hf;have h3:Iz (mJ l) F 0 l=[]↔_:=h3;rw[h3];refine and_congr_left fun _=> ?_;refine⟨fun h x hx=> ?_,fun h x hx=> ?_⟩
 ·refine(RN hT hS2 hR (fun tr ht h2=> ?_) x (hs x hx) (hk x hx)).1 (h x hx);have h4:=h tr ht;unfold Qg at h4;rw[if_neg (show¬tr.kind=1 by omega),if_pos h2,Cf hT _ _ _ (hs tr ht).ms]at h4;exact Ci _ _ _ h4
 ·refine(RN hT hS2 hR (fun tr ht h2=> ?_) x (hs x hx) (hk x hx)).2 (h x hx);have h4:=h tr ht;unfold UG at h4;rw[if_neg (show¬tr.kind=1 by omega),if_pos h2]at h4;exact Ci _ _ _ h4
def Ym (l:List Tok):Prop:=∀i,(tokA l i).kind=2→0<(AQ (tokA l i).text).size
theorem lf_ok {s:List UInt8} {l:List Tok} (h:sS s=.ok l):Ym l:=by
 obtain⟨body,e,rfl,hg,-,-,-,he,-,-⟩:=FZ h;intro i hk;have hp:∀t∈body++[e],t.kind=2→0<(AQ t.text).size:=by
  intro t ht h2;rcases List.mem_append.1 ht with h1|h1
  ·have:=(hg t h1).pos;show 0<t.text.toArray.size;rw[List.size_toArray];omega
  ·rw[List.mem_singleton]at h1;subst h1;omega
 unfold tokA at hk⊢;rw[List.getD_eq_getElem?_getD]at hk⊢;cases hx:(body++[e])[i]? with
 |none=>rw[hx]at hk;exact absurd hk dc
 |some t=>rw[hx]at hk;exact hp t (List.mem_of_getElem? hx) hk
section
variable {l : List Tok}
theorem Yn (hl:Ym l):∀(f i:Nat) (ls ts:List ByteArray),(∀s∈ls,0<s.size)→bU (fun g=>∀s∈g.aB,0<s.size) (lD f l i ls ts)
 |0,i,ls,ts,_=>by rw[lD];exact bU.out
 |f+1,i,ls,ts,h0=>by
  rw[lD]
  refine(bU.any _).bind fun _ i _=> ?_
  refine bU.bind (Q:=fun p=>∀s∈p.1,0<s.size) ?_ ?_
  ·
   split
   ·
    rename_i hc
    refine bU.bind (Q:=fun x=>0<x.size) ?_ fun x j hx=>bU.ok (qH h0 hx)
    unfold jw
    rw[if_pos hc.1]
    exact bU.ok (hl i hc.1)
   ·
    exact(bU.any _).bind fun x j _=>bU.ok h0
  ·
   intro p j h
   split
   ·
    exact Yn hl f _ _ _ h
   ·
    exact(bU.any _).bind fun _ j _=>bU.ok h
theorem gen_s (hl:Ym l) (f i:Nat):bU (fun g=>∀s∈g.aB,0<s.size) (jC f l i):=by
 unfold jC;split
 ·exact Yn hl _ _ _ _ lu
 ·exact bU.ok lu
theorem Ls:zi dR:=by rw[dR,zi];exact⟨.inr (.inr (.inr rfl)),qJ.nil⟩
theorem Yo:∀(f i d:Nat) (e:List UInt8) (m:Nat) (acc:List Pm),(∀p∈acc,zi p.ty)→bU (fun r=>∀p∈r,zi p.ty) (oP f l i d e m acc)
 |0,i,d,e,m,acc,_=>by rw[oP];exact bU.out
 |f+1,i,d,e,m,acc,ha=>by
  rw[oP]
  refine(bU.any _).bind fun _ i _=> ?_
  refine(bU.any _).bind fun n j _=> ?_
  refine(bU.any _).bind fun _ j _=> ?_
  refine((ty_s _).1 _ _).bind fun t j ht=> ?_
  have h2:=qH (P:=fun p:Pm=>zi p.ty) (x:=⟨n,t,(tokA l i).line,(tokA l i).col⟩) ha ht
  split
  ·
   exact Yo f _ _ _ _ _ h2
  ·
   exact(bU.any _).bind fun _ j _=>bU.ok h2
theorem GU (f i d:Nat) (e:List UInt8) (m:Nat):bU (fun r=>∀p∈r,zi p.ty) (dw f l i d e m):=by
 unfold dw;split
 ·exact bU.ok lu
 ·exact Yo _ _ _ _ _ _ lu
theorem ret_s (f i d:Nat):bU zi (iw f l i d):=by
 unfold iw;split
 ·exact(ty_s _).1 _ _
 ·exact bU.ok Ls
theorem Yp (f i d:Nat) (body:Bool):bU MtS (kN f l i d body):=by
 unfold kN;refine(bU.any _).bind fun _ j _=> ?_;refine(bU.any _).bind fun n j _=> ?_;refine(bU.any _).bind fun g j hg=> ?_;refine(bU.any _).bind fun _ j _=> ?_;refine(bU.any _).bind fun _ j _=> ?_;refine(bU.any _).bind fun _ k _=> ?_;refine bU.bind (Q:=fun r=>∀p∈r,zi p.ty) ?_ fun ps k hp=> ?_
 ·split
  ·split
   ·exact bU.fail
   ·exact GU _ _ _ _ _
  ·exact(bU.any _).bind fun _ j _=>bU.ok lu
 refine(ret_s _ _ _).bind fun t k ht=> ?_;refine(bU.any _).bind fun wh k _=> ?_;refine(bU.any _).bind fun b k _=> ?_;exact bU.ok ⟨hp,ht⟩
theorem RP:∀(f i d:Nat) (body:Bool) (acc:List Mt),(∀m∈acc,MtS m)→bU (fun r=>∀m∈r,MtS m) (kY f l i d body acc)
 |0,i,d,body,acc,_=>by rw[kY];exact bU.out
 |f+1,i,d,body,acc,ha=>by
  rw[kY]
  split
  ·
   exact bU.ok ha
  refine(bU.any _).bind fun _ i _=> ?_
  refine(Yp _ _ _ _).bind fun m j hm=> ?_
  exact RP f _ _ _ _ (qH ha hm)
theorem Jt (f i d:Nat) (body:Bool):bU (fun r=>∀m∈r,MtS m) (dn f l i d body):=by unfold dn;exact(bU.any _).bind fun _ j _=>RP _ _ _ _ _ lu
theorem item_s (hl:Ym l) (f i d:Nat):bU YN (jD f l i d):=by
 unfold jD;split
 ·refine(bU.any _).bind fun n j _=> ?_;refine(gen_s hl _ _).bind fun g j hg=> ?_;refine(bU.any _).bind fun _ j _=> ?_;exact(GU _ _ _ _ _).bind fun fs j hf=>bU.ok ⟨hf,Ls,lu,hg⟩
 split
 ·refine(bU.any _).bind fun n j _=> ?_;exact(Jt _ _ _ _).bind fun ms j hm=>bU.ok ⟨lu,Ls,hm,lu⟩
 split
 ·refine(bU.any _).bind fun n j _=> ?_;refine(bU.any _).bind fun _ j _=> ?_;refine(bU.any _).bind fun h j _=> ?_;refine(bU.any _).bind fun wh j hw=> ?_;exact(Jt _ _ _ _).bind fun ms j hm=>bU.ok ⟨lu,Ls,hm,lu⟩
 split
 ·refine(bU.any _).bind fun n j _=> ?_;refine(gen_s hl _ _).bind fun g j hg=> ?_;refine(bU.any _).bind fun _ j _=> ?_;refine(GU _ _ _ _ _).bind fun fs j hf=> ?_;refine(ret_s _ _ _).bind fun t j ht=> ?_;refine(bU.any _).bind fun wh j hw=> ?_;refine(bU.any _).bind fun b j _=> ?_;exact bU.ok ⟨hf,ht,lu,hg⟩
 ·exact bU.fail
theorem RQ (hl:Ym l):∀(f i d:Nat) (acc:List It),(∀x∈acc,YN x)→bU (fun r=>∀x∈r,YN x) (kF f l i d acc)
 |0,i,d,acc,_=>by rw[kF];exact bU.out
 |f+1,i,d,acc,ha=>by
  rw[kF]
  split
  ·
   exact bU.ok ha
  refine(bU.any _).bind fun _ i _=> ?_
  refine(item_s hl _ _ _).bind fun m j hm=> ?_
  exact RQ hl f _ _ _ (qH ha hm)
end
theorem prog_s {s:List UInt8} {l:List It} (h:wY s=.ok l):∀x∈l,YN x:=by
 unfold wY Il at h;split at h
 ·cases h
 ·rename_i toks he;split at h
  ·rename_i a j hr;cases h;unfold Ik at hr;split at hr
   ·rename_i a2 j2 hr2;split at hr
    ·cases hr;exact RQ (lf_ok he) _ _ _ [] lu _ _ hr2
    ·cases hr
   ·cases hr
   ·cases hr
  ·cases h
  ·cases h
theorem readF_s {s:ByteArray} {l:List It} (h:yF s=some l):∀x∈l,YN x:=by
 unfold yF at h;split at h
 ·split at h
  ·rename_i l2 h2;cases h;exact prog_s h2
  ·cases h
 ·cases h
theorem Ed (P:Nat→Prop) (it:It) (cs:List Value) (s:ByteArray) (w:World) (hit:lm w P it cs):Calls Tryz.prog 96 #[.agg cs.toArray,.string s] w fun e w'=>e=.returned (.int .i64 (pq (fun y=>eqS y.name s) it.methods))∧StF w w':=by
 obtain⟨vl,vt,vf,vw,vm,ct,⟨-,-,-,-,-,-,-,qP,-,-⟩,⟨-,-,-,-,hms⟩,-⟩:=hit.get;obtain⟨am,cm,rfl⟩:=hms.parts;obtain⟨l,hl⟩:=aN it.methods;rw[←hl]at qP hms⊢;have hlen:=hms.t_;obtain⟨w1,hw1⟩:=aN (w.alloc (.cells cs.toArray 51));have HST:=nS hw1
 have HB0:=nB hw1
 have HW1:=au hw1;have HMQ:Hid (ig Bv w1 P l (.slice am l.length cm)):=(bH dh).step _ _ HST.o (fun _ _ h=>h) hms;have d15:=aj HB0.o 15 _ (by rw[List.getElem?_toArray];exact qP);obtain⟨r,hr⟩:=aN (pq (fun y=>eqS y.name s) l);have HR:=au hr;rw[←hr];clear hw1 hit hms qP hr hl;go_enter Tryz.func96,Tryz.ntmps96;go_upto_region 1 with fail
 rw[←HW1.o];go_wp2_with fail;go_loopg [5] l.length (fun gg s5 wr=>∃i:Nat,s5=.int .i64 i∧i≤l.length∧l.length-i≤gg∧(∀j,j<i→∀y,l[j]?=some y→eqS y.name s=false)∧w1=wr);case atStart=>exact⟨0,rfl,Nat.zero_le _,by omega,fun j hj=>absurd hj (Nat.not_lt_zero _),rfl⟩
 case round=>
  obtain⟨i,rfl,hi,hgg,hno,rfl⟩:=hrel;have eX:=au hno;clear hno;by_cases hlt:i<l.length
  ·obtain⟨x,hx⟩:∃x,l[i]?=some x:=⟨l[i],List.getElem?_eq_getElem hlt⟩;obtain⟨g,o,c',cx,hva,hat,hcell⟩:=HMQ.o.el dh hx;(obtain⟨rfl,rfl⟩:am=some ⟨g,o,none⟩∧cm=c':=by cases hva;exact⟨rfl,rfl⟩);obtain⟨_,_,_,_,⟨m0,-⟩,-⟩:=hat.get;have f0:=hcell 0 _ m0;rw[Nat.add_zero]at f0;have HX:=au hx;obtain⟨nm,hnm⟩:=aN x.name;rw[←hnm]at f0;have G8:=au hnm;clear hcell hva hx hat m0 hnm;cases hp:(nm.toList==s.toList)with
   |true=>have HI:Hid (r=(i:Int)):=HR.o.trans (uO (p:=fun y:Mt=>eqS y.name s) HX.o (by rw[←G8.o];exact ng hp) eX.o);go_wp2_with fail;go_ret;exact⟨nZ HI.o.symm,HST.o⟩
   |false=>
    (have HP:Hid (eqS x.name s=false):=by rw[←G8.o];exact ng hp);go_wp2_with fail;go_roundg (gk-1);case rel=>
     refine⟨i+1,by go_num,by omega,by omega,fun j hj y hy=> ?_,rfl⟩;rcases Nat.lt_succ_iff_lt_or_eq.1 hj with h|rfl
     ·exact eX.o j h y hy
     ·rw[HX.o]at hy;cases hy;exact HP.o
    case measure=>omega
  ·have HI:Hid (r= -1):=HR.o.trans (yQ fun y hy=>by
     obtain⟨j,hj⟩:=List.getElem?_of_mem hy
     exact eX.o j (by have:=(List.getElem?_eq_some_iff.1 hj).1;omega) y hj)
   go_wp2_with fail;go_ret;exact⟨nZ HI.o.symm,HST.o⟩
theorem Tryz.kH:(Tryz.prog.info? 73).map (·.size)=some 3:=by kernel_rfl
theorem GV {α:Type} {p:α→Bool} {l:List α} {k:Nat} {x:α} (h:l[k]?=some x):(l.drop k).all p=(p x&&(l.drop (k+1)).all p):=by obtain⟨hk,rfl⟩:=List.getElem?_eq_some_iff.1 h;rw[List.drop_eq_getElem_cons hk,List.all_cons]
theorem UI {b:ByteArray} (h:¬0<b.size):Iy b=false:=by
 obtain⟨⟨d⟩⟩:=b;cases d with
 |nil=>rfl
 |cons x r=>exact absurd (Nat.succ_pos _) h
theorem Yq {b:ByteArray} (h:0<b.size):Iy b=decide ((b[0].toNat:Int)=39):=by
 obtain⟨⟨d⟩⟩:=b;cases d with
 |nil=>exact absurd h (Nat.lt_irrefl _)
 |cons x r=>
  have e:Iy ⟨⟨x::r⟩⟩=(39==x):=by show[(39:UInt8)].isPrefixOf (x::r)=_;simp[List.isPrefixOf]
  rw[e];show(39==x)=decide ((x.toNat:Int)=39);rw[Bool.eq_iff_iff,beq_iff_eq,decide_eq_true_eq];exact⟨fun h=>by rw[←h];rfl,fun h=>UInt8.toNat_inj.1 (by rw[show x.toNat=39 from by omega];rfl)⟩
theorem Lu (P:Nat→Prop) (l:List It) (c:Sc) (bs:List Bd) (vl vb us:Value) (w:World) (hki:uz l) (hls:ig lm w P l vl) (hbs:ig Am w P bs vb) (hs:IX w P c us):Calls Tryz.prog 63 #[vl,vb,us] w fun e w'=>e=.returned (.bool (bs.all (zk l c)))∧StF w w':=by
 have lG:=au hki;have vM:=au hs;have hll:=hls.t_;have hbl:=hbs.t_;obtain⟨a1,c1,a2,c2,rfl,hs1,hs2⟩:=hs;obtain⟨av,cv,rfl⟩:=hls.parts;obtain⟨ab,cb,rfl⟩:=hbs.parts;obtain⟨w1,hw1⟩:=aN (w.alloc (.cells #[.slice a1 c.aB.length c1,.slice a2 c.types.length c2,dW c.dF] 73));have HST:=nS hw1
 have HB0:=nB hw1
 have HW1:=au hw1;have HE:Hid (∀X,StF w1 X→X.cell? ⟨w.heap.size,0,none⟩=some (.slice a1 c.aB.length c1)∧X.cell? ⟨w.heap.size,1,none⟩=some (.slice a2 c.types.length c2)∧X.cell? ⟨w.heap.size,2,none⟩=some (.bool c.dF)):=by intro X hX;have h:=hX.keep HB0.o (fun h=>h);exact⟨aj h 0 _ rfl,aj h 1 _ rfl,aj h 2 _ rfl⟩
 have Cb:Hid (∀X,StF w1 X→ig lm X P l (.slice av l.length cv)):=fun X hX=>(bH aQ).step _ _ (HST.o.trans hX) (fun _ _ h=>h) hls
 have VK:Hid (∀X,StF w1 X→ig Am X P bs (.slice ab bs.length cb)):=fun X hX=>(bH fP).step _ _ (HST.o.trans hX) (fun _ _ h=>h) hbs
 have IV:Hid (∀(X:World) (x:ByteArray),StF w1 X→Calls Tryz.prog 71 #[.string x,.agg #[.slice a1 c.aB.length c1,.slice a2 c.types.length c2,dW c.dF]] X fun e w'=>e=.returned (.bool (iH c.aB x))∧StF X w'):=fun X x hX=>vC P x c _ X (jk.step _ _ (HST.o.trans hX) (fun _ _ h=>h) vM.o)
 have UY:Hid (∀(X:World) (x:ByteArray),StF w1 X→Calls Tryz.prog 72 #[.slice a2 c.types.length c2,.string x] X fun e w'=>e=.returned (.bool (c.types.any (eqS x)))∧X=w'):=fun X x hX=>vF P x _ _ _ (hs2.2.step (HST.o.trans hX) (fun _ _ h=>h))
 obtain⟨R,hR⟩:=aN (bs.all (zk l c));have HR:Hid (R=(bs.drop 0).all (zk l c)):=hR;rw[←hR];clear hki hls hbs hs1 hs2 hw1 hR vM;go_enter Tryz.func63,Tryz.ntmps63;go_upto_region 1 with fail
 rw[←HW1.o];go_wp2_with fail;go_loopg [7,8,9,10] bs.length (fun gg s7 _ _ _ wr=>∃i:Nat,s7=.int .i64 i∧i≤bs.length∧bs.length-i≤gg∧R=(bs.drop i).all (zk l c)∧StF w1 wr);case atStart=>exact⟨0,rfl,Nat.zero_le _,by omega,HR.o,Step.refl _ _⟩
 case round=>
  obtain⟨i,rfl,hi,hgg,hrl,hst⟩:=hrel;have xN:=au hrl;have pM:=au hst;clear hrl hst;by_cases hlt:i<bs.length
  ·obtain⟨b,hx⟩:∃b,bs[i]?=some b:=⟨bs[i],List.getElem?_eq_getElem hlt⟩;have hra:=xN.o.trans (GV (p:=zk l c) hx);obtain⟨g,o,c',cs,hva,hat,hcell⟩:=(VK.o wr pM.o).el fP hx;(obtain⟨rfl,rfl⟩:ab=some ⟨g,o,none⟩∧cb=c':=by cases hva;exact⟨rfl,rfl⟩);obtain⟨bn,rq,p_,bl,bc⟩:=b;obtain⟨vt,vl',rfl,hsz,hnt,hnl⟩:=hat;obtain⟨at',yj,rfl⟩:=hnt.2.parts;obtain⟨al',cl',rfl⟩:=hnl.2.parts;have iD:Hid (∀(jj:Nat) v,[Value.string bn,.slice at' rq.length yj,.slice al' p_.length cl',ak bl,ak bc][jj]?=some v→wr.cell? ⟨g,o+i*5+jj,none⟩=some v):=hcell;obtain⟨w3,hw3⟩:=aN (wr.alloc (.cells [Value.string bn,.slice at' rq.length yj,.slice al' p_.length cl',ak bl,ak bc].toArray 170));(have fK:Hid (StF wr w3):=by rw[hw3];exact bK.alloc _);(have HB3:Hid (w3.heap[wr.heap.size]?=some (.cells [Value.string bn,.slice at' rq.length yj,.slice al' p_.length cl',ak bl,ak bc].toArray 170 (0,0))):=by rw[hw3];exact aC _ _);have HW3:=au hw3;(have HD:Hid (∀X,StF w3 X→X.cell? ⟨wr.heap.size,0,none⟩=some (.string bn)∧X.cell? ⟨wr.heap.size,1,none⟩=some (.slice at' rq.length yj)∧X.cell? ⟨wr.heap.size,2,none⟩=some (.slice al' p_.length cl')):=by intro X hX;have h:=hX.keep HB3.o (fun h=>h);exact⟨aj h 0 _ rfl,aj h 1 _ rfl,aj h 2 _ rfl⟩);have kK:=au (pM.o.trans fK.o);(have HNT:Hid (∀X,StF w3 X→cu X P (.slice at' rq.length yj) rq.length (rq.map .string)):=by intro X hX;exact hnt.2.step (fK.o.trans hX) (fun _ _ h=>h));(have HNL:Hid (∀X,StF w3 X→cu X P (.slice al' p_.length cl') p_.length (p_.map .string)):=by intro X hX;exact hnl.2.step (fK.o.trans hX) (fun _ _ h=>h));(have MC:rq.length≤9223372036854775807:=by have h9:=hnt.2;dsimp only at h9;obtain⟨_,c'',hv,h1,h2,-⟩:=h9;cases hv;omega);(have hbll:p_.length≤9223372036854775807:=by have h9:=hnl.2;dsimp only at h9;obtain⟨_,c'',hv,h1,h2,-⟩:=h9;cases hv;omega);obtain⟨rst,hrst⟩:=aN ((bs.drop (i+1)).all (zk l c));have HRST:=au hrst;(have oK:Hid (R=((if Iy bn then iH c.aB bn else c.types.any (eqS bn))&&(rq.all (fun n=>(dN 2 n 0 l).isSome)&&p_.all (iH c.aB))&&rst)):=by show _=_;rw[hra,←hrst];rfl);have hlb:bs.length≤9223372036854775807:=hbl;obtain⟨wi,rfl⟩:=aN wr;clear hcell hx hva hw3 hnt hnl hsz hra hrst;go_upto_region 5 with(first
    |(refine aA rfl 170 (.tmp 19) rfl g (o+i*5) rfl [Value.string bn,.slice at' rq.length yj,.slice al' p_.length cl',ak bl,ak bc] _ iD.o Tryz.underlying170 rfl Tryz.j_ ?_)
    |(refine bT rfl 170 (.tmp 8) (.tmp 20) rfl _ [Value.string bn,.slice at' rq.length yj,.slice al' p_.length cl',ak bl,ak bc] rfl rfl Tryz.j_ rfl (aU rfl) ?_;rw[←HW3.o]))
   obtain⟨pf,hpf⟩:=aN (Iy bn);rw[←hpf]at oK;have HPF:=au hpf;clear hpf;simp only[Act.put];go_cut [30] (fun s30 wx=>s30=.bool pf∧w3=wx);case first=>
    obtain⟨d0,d1,d2⟩:=HD.o w3 bK;by_cases h0:0<bn.size
    ·have hq:pf=decide ((bn[0].toNat:Int)=39):=HPF.o.trans (Yq h0);have hz:(0:Int)<(bn.size:Int):=Int.ofNat_lt.2 h0;by_cases R_:(bn[0].toNat:Int)=39
     ·rw[decide_eq_true R_]at hq;go_wp2_with fail;go_meet;case rel=>exact⟨by rw[hq],rfl⟩
     ·rw[decide_eq_false R_]at hq;go_wp2_with fail;go_meet;case rel=>exact⟨by rw[hq,beq_eq_false_iff_ne.2 R_],rfl⟩
    ·have hq:pf=false:=HPF.o.trans (UI h0);(have hz:bn.size=0:=by omega);go_wp2_with fail;go_meet;case rel=>exact⟨by rw[hq],rfl⟩
   case rest=>
    obtain⟨rfl,rfl⟩:=hcut;(go_upto_if 30 with fail);go_cut [] (fun wx=>(if pf then iH c.aB bn else c.types.any (eqS bn))=true∧StF w3 wx);case first=>
     obtain⟨d0,d1,d2⟩:=HD.o w3 bK;obtain⟨e0,e1,e2⟩:=HE.o w3 kK.o;cases pf with
     |true=>
      have HRP:Hid (R=(iH c.aB bn&&(rq.all (fun n=>(dN 2 n 0 l).isSome)&&p_.all (iH c.aB))&&rst)):=oK.o;have HL3:=au (IV.o w3 bn kK.o);obtain⟨lb,hlb⟩:=aN (iH c.aB bn);rw[←hlb]at HL3;have UJ:=au hlb;clear hlb;go_wp2_with (refine aA rfl 73 (.tmp 5) rfl w.heap.size 0 rfl [.slice a1 c.aB.length c1,.slice a2 c.types.length c2,.bool c.dF] _ (fJ (kK.o.keep HB0.o (fun h=>h))) Tryz.underlying73 rfl Tryz.kH ?_);refine HL3.o.mono ?_;rintro e w4 ⟨rfl,h4⟩;cases lb with
      |false=>(have kU:Hid (R=false):=by show _=_;rw[HRP.o,←UJ.o];rfl);go_wp2_with fail;go_ret;exact⟨bD kU.o.symm,(HST.o.trans kK.o).trans h4⟩
      |true=>go_wp2_with fail;go_meet;case rel=>exact⟨UJ.o.symm,h4⟩
     |false=>
      have HRP:Hid (R=(c.types.any (eqS bn)&&(rq.all (fun n=>(dN 2 n 0 l).isSome)&&p_.all (iH c.aB))&&rst)):=oK.o;have HL3:=au (UY.o w3 bn kK.o);obtain⟨lb,hlb⟩:=aN (c.types.any (eqS bn));rw[←hlb]at HL3;have UJ:=au hlb;clear hlb;go_wp2_with fail;refine HL3.o.mono ?_;rintro e w4 ⟨rfl,rfl⟩;cases lb with
      |false=>(have kU:Hid (R=false):=by show _=_;rw[HRP.o,←UJ.o];rfl);go_wp2_with fail;go_ret;exact⟨bD kU.o.symm,HST.o.trans kK.o⟩
      |true=>go_wp2_with fail;go_meet;case rel=>exact⟨UJ.o.symm,Step.refl _ _⟩
    case rest=>
     obtain⟨hbn,xG⟩:=hcut;(have o_:Hid (R=((rq.drop 0).all (fun n=>(dN 2 n 0 l).isSome)&&p_.all (iH c.aB)&&rst)):=by show _=_;rw[oK.o,hbn,Bool.true_and];rfl);have gq:=au xG;clear hbn xG;obtain⟨go1,rfl⟩:=aN (gk:Nat);obtain⟨w4,rfl⟩:=aN wc;go_wp2_with fail;go_loopg [9] rq.length (fun g9 s9 wr=>∃j:Nat,s9=.int .i64 j∧j≤rq.length∧rq.length-j≤g9∧R=((rq.drop j).all (fun n=>(dN 2 n 0 l).isSome)&&p_.all (iH c.aB)&&rst)∧w4=wr);case atStart=>exact⟨0,rfl,Nat.zero_le _,by omega,o_.o,rfl⟩
     case round=>
      obtain⟨j,rfl,hj,hgj,hrl,rfl⟩:=hrel;have HRJ:=au hrl;clear hrl;obtain⟨d0,d1,d2⟩:=HD.o w4 gq.o;by_cases hlj:j<rq.length
      ·obtain⟨x,hx⟩:∃x,rq[j]?=some x:=⟨rq[j],List.getElem?_eq_getElem hlj⟩;have hrx:=HRJ.o;rw[GV hx]at hrx;obtain⟨a',c',hva,hcl,hcm,-,hra⟩:=HNT.o w4 gq.o;(obtain⟨rfl,rfl⟩:at'=a'∧yj=c':=by cases hva;exact⟨rfl,rfl⟩);obtain⟨g',o',rfl,-,-,hcell⟩:=hra om;have f0:=hcell j _ (kz _ j x hx);have mO:=au (kS 2 om x P l _ w4 (Cb.o w4 (kK.o.trans gq.o)) lG.o);clear hva hcl hcm hra hcell hx;cases hf:dN 2 x 0 l with
       |none=>(have kU:Hid (R=false):=by show _=_;rw[hrx,hf];rfl);rw[hf,show aan none=(-1:Int) from rfl]at mO;clear hf hrx;go_wp2_with fail;refine mO.o.mono ?_;rintro e w5 ⟨rfl,rfl⟩;go_wp2_with fail;go_ret;exact⟨bD kU.o.symm,(HST.o.trans kK.o).trans gq.o⟩
       |some q=>
        (have pG:Hid (R=((rq.drop (j+1)).all (fun n=>(dN 2 n 0 l).isSome)&&p_.all (iH c.aB)&&rst)):=by show _=_;rw[hrx,hf];rfl);rw[hf,show aan (some q)=(q:Int) from rfl]at mO;have hq0:(0:Int)≤(q:Int):=Int.natCast_nonneg _;clear hf hrx;go_wp2_with fail;refine mO.o.mono ?_;rintro e w5 ⟨rfl,rfl⟩;go_wp2_with fail;go_roundg (gk-1);case rel=>exact⟨j+1,by go_num,hlj,sbQ hgj,pG.o,rfl⟩
        case measure=>omega
      ·(have y8:Hid (R=((p_.drop 0).all (iH c.aB)&&rst)):=by show _=_;rw[HRJ.o,List.drop_eq_nil_of_le om];rfl);(go_upto_region 15 with fail);go_cut [10] (fun s10 wx=>s10=.int .i64 0∧w4=wx);case first=>go_wp2_with fail;go_meet;case rel=>exact⟨rfl,rfl⟩
       case rest=>
        obtain⟨rfl,rfl⟩:=hcut;go_wp2_with fail;go_loopg [10] p_.length (fun g9 s10 wr=>∃j:Nat,s10=.int .i64 j∧j≤p_.length∧p_.length-j≤g9∧R=((p_.drop j).all (iH c.aB)&&rst)∧StF w4 wr);case atStart=>exact⟨0,rfl,Nat.zero_le _,by omega,y8.o,Step.refl _ _⟩
        case round=>
         obtain⟨j,rfl,hj,hgj,hrl,hst⟩:=hrel;have HRJ:=au hrl;have oD:=au (gq.o.trans hst);have SA:=au (kK.o.trans oD.o);have MQ:=au hst;clear hrl hst;obtain⟨d0,d1,d2⟩:=HD.o wr oD.o;obtain⟨wj,rfl⟩:=aN wr;by_cases hlj:j<p_.length
         ·obtain⟨x,hx⟩:∃x,p_[j]?=some x:=⟨p_[j],List.getElem?_eq_getElem hlj⟩;have hrx:=HRJ.o;rw[GV hx]at hrx;obtain⟨a',c',hva,hcl,hcm,-,hra⟩:=HNL.o wj oD.o;(obtain⟨rfl,rfl⟩:al'=a'∧cl'=c':=by cases hva;exact⟨rfl,rfl⟩);obtain⟨g',o',rfl,-,-,hcell⟩:=hra om;have hf0:=hcell j _ (kz _ j x hx);have HF0:Hid (∀X,StF wj X→X.cell? ⟨g',o'+j,none⟩=some (.string x)):=fun X hX=>hX.cell hf0 (fun h=>h);obtain⟨lb,hlb⟩:=aN (iH c.aB x);(have Jd:Hid (∀X,StF wj X→Calls Tryz.prog 71 #[.string x,.agg #[.slice a1 c.aB.length c1,.slice a2 c.types.length c2,dW c.dF]] X fun e w'=>e=.returned (.bool lb)∧StF X w'):=by intro X hX;rw[hlb];exact IV.o X x (SA.o.trans hX));rw[←hlb]at hrx;have vX:=au hrx;clear hva hcl hcm hra hcell hx hf0 hlb hrx;(go_upto_region 18 with fail);refine kG kr (fun X=>StF wj X) (bK.drew) kr ?_;show SU _ _ _ _ [_,_,_,_,_,_,_,_] _;refine SU.op (.pointer (some ⟨wi.heap.size,2,none⟩)) kr (fun X hX=>by go_simp) ?_;refine SU.op (.slice (some ⟨g',o',none⟩) p_.length cl') kr (fun X hX=>by obtain⟨k0,k1,k2⟩:=HD.o X (oD.o.trans hX);go_simp) ?_;simp only[o9];refine SU.op (.int .i64 j) kr (fun X hX=>by go_simp) ?_;refine SU.op (.pointer (some ⟨g',o'+j,none⟩)) kr (fun X hX=>by go_simp) ?_;simp only[o9];refine SU.op (.string x) kr (fun X hX=>by have f0:=HF0.o X hX;go_simp) ?_;refine SU.op (.agg #[.slice a1 c.aB.length c1,.slice a2 c.types.length c2,dW c.dF]) kr (fun X hX=>by obtain⟨e0,e1,e2⟩:=HE.o X (SA.o.trans hX);go_simp) ?_;simp only[o9];refine SU.op (.bool lb) kr (fun X hX=>by go_simp;refine(Jd.o X hX).mono ?_;rintro e w5 ⟨rfl,h5⟩;exact⟨rfl,hX.trans h5⟩) ?_;refine SU.op (.bool !lb) kr (fun X hX=>by go_simp) ?_;refine SU.nil (fun X hX=> ?_);simp only[o9];cases lb with
          |false=>have kU:Hid (R=false):=vX.o;go_wp2_with fail;go_ret;exact⟨bD kU.o.symm,(HST.o.trans SA.o).trans hX⟩
          |true=>
           have pG:Hid (R=((p_.drop (j+1)).all (iH c.aB)&&rst)):=vX.o.trans (by rw[Bool.true_and]);go_wp2_with fail;go_roundg (gk-1);case rel=>exact⟨j+1,by go_num,hlj,sbQ hgj,pG.o,MQ.o.trans hX⟩
           case measure=>omega
         ·(have LP:Hid (R=(bs.drop (i+1)).all (zk l c)):=by show _=_;rw[HRJ.o,List.drop_eq_nil_of_le om,List.all_nil,Bool.true_and,HRST.o]);go_wp2_with fail;go_roundg (go1-1);case rel=>exact⟨i+1,by go_num,hlt,sbQ hgg,LP.o,pM.o.trans (fK.o.trans oD.o)⟩
          case measure=>omega
  ·(have BZ:Hid (R=true):=by show _=_;rw[xN.o,List.drop_eq_nil_of_le om,List.all_nil]);go_wp2_with fail;go_ret;exact⟨bD BZ.o.symm,HST.o.trans pM.o⟩
theorem UK {l:List It} {h:List ByteArray} {ts:List Ty} {k:Nat} {x:Ty} (hx:ts[k]?=some x):qg l h (ts.drop k)=nY l h x++qg l h (ts.drop (k+1)):=by obtain⟨hk,rfl⟩:=List.getElem?_eq_some_iff.1 hx;rw[List.drop_eq_getElem_cons hk,qg]
theorem Yr (l:List It) (h:List ByteArray) (t:Ty):(nY l h t).length≤NV t:=by rw[yK];exact Nat.le_trans (List.length_filter_le _ _) (Gt t)
def Yt (l:List It) (n:Nat):Prop:=∀(t:Ty) (cs:List Value) (h:List ByteArray) (vl vh:Value) (P:Nat→Prop) (w:World),SizeOf.sizeOf t<n→uz l→ig lm w P l vl→iC w P t cs→cu w P vh h.length (h.map .string)→(nY l h t).length≤1000000→
 Calls Tryz.prog 95 #[vl,.agg cs.toArray,vh] w (wI (nY l h t) w)
theorem Qu (l:List It) (n:Nat) (ih:Yt l n):Yt l (n+1):=by
 intro t cs h vl vh P w hn hki hls ht hrh hl;have IH:=au ih;have lG:=au hki;obtain⟨k0,nm,lf,mu,ls,ar,ln,cl⟩:=t;rw[iC]at ht;obtain⟨vv,va,xs,rfl,hnm,-,-,hrl,hta,hra⟩:=ht;obtain⟨al,Iq,rfl⟩:=hrl.parts;obtain⟨aa,ca,rfl⟩:=hra.parts;obtain⟨av,cv,rfl⟩:=hls.parts;obtain⟨ah,ch,rfl⟩:=hrh.parts;obtain⟨i0,hi0,hz0,hz1,hz2⟩:=info_parts Tryz.qE;have HI:=au hi0;have HZ0:=au hz0;have HZ1:=au hz1;have HZ2:=au hz2;obtain⟨w1,hw1⟩:=aN (w.alloc (.cells #[ak k0,a_ nm,a_ lf,dW mu,.slice al ls.length Iq,.slice aa ar.length ca,ak ln,ak cl] 46));have HST:=nS hw1
 have HB0:=nB hw1
 have HW1:=au hw1;have HSZ1:Hid (w1.heap.size=w.heap.size+1):=by show _=_;rw[hw1];simp
 have HD:Hid (∀X,StF w1 X→X.cell? ⟨w.heap.size,0,none⟩=some (.int .i64 k0)∧X.cell? ⟨w.heap.size,1,none⟩=some (.string nm)∧X.cell? ⟨w.heap.size,5,none⟩=some (.slice aa ar.length ca)):=by intro X hX;have h:=hX.keep HB0.o (fun h=>h);exact⟨aj h 0 _ rfl,aj h 1 _ rfl,aj h 5 _ rfl⟩
 have Xf:Hid (∀X,StF w1 X→KG X P ar (.slice aa ar.length ca)):=fun X hX=>oU.step _ _ (HST.o.trans hX) (fun _ _ h=>h) ⟨xs,hra,hta⟩
 have Cb:Hid (∀X,StF w1 X→ig lm X P l (.slice av l.length cv)):=fun X hX=>(bH aQ).step _ _ (HST.o.trans hX) (fun _ _ h=>h) hls
 have HHQ:Hid (∀X,StF w1 X→cu X P (.slice ah h.length ch) h.length (h.map .string)):=fun X hX=>hrh.step (HST.o.trans hX) (fun _ _ h=>h)
 have Fv:Hid (∀x∈ar,SizeOf.sizeOf x<n):=by intro x hx;have:=List.sizeOf_lt_of_mem hx;simp at hn;omega
 obtain⟨res,hres⟩:=aN (nY l h (.mk k0 nm lf mu ls ar ln cl));rw[←hres]at hl⊢;have HR:Hid (res=if k0=5 then(if(dN 1 nm 0 l).isSome&& !(h.any (eqS nm))then[nm]else[])++qg l h ar else[]):=by show _=_;rw[hres,nY]
 obtain⟨d0,d1,d5⟩:=HD.o w1 bK;clear hrl hra hta hw1 hi0 hz0 hz1 hz2 ih hn hres hki hls hrh;go_enter Tryz.func95,Tryz.ntmps95;go_upto_region 1 with fail
 rw[←HW1.o];by_cases hk:k0=5
 ·subst hk;have DY:Hid (res=(if(dN 1 nm 0 l).isSome&& !(h.any (eqS nm))then[nm]else[])++qg l h ar):=HR.o.trans (if_pos rfl);have mO:=au (kS 1 om nm P l _ w1 (Cb.o w1 bK) lG.o);have UY:=au (vF P nm h _ w1 (HHQ.o w1 bK));obtain⟨hb,hhb⟩:=aN (h.any (eqS nm));rw[←hhb]at UY DY;obtain⟨so,hso⟩:=aN (dN 1 nm 0 l).isSome;rw[←hso]at DY;clear hhb;go_upto_region 4 with fail
  go_cut [23] (fun s23 wx=>s23=.bool (so&& !hb)∧w1=wx);case first=>
   cases hf:dN 1 nm 0 l with
   |none=>rw[hf]at hso mO;rw[show aan none=(-1:Int) from rfl]at mO;have hs2:so=false:=hso;clear hso;subst hs2;clear hf;go_wp2_with fail;refine mO.o.mono ?_;rintro e w2 ⟨rfl,rfl⟩;go_wp2_with fail;go_meet;case rel=>exact⟨rfl,rfl⟩
   |some q=>rw[hf]at hso mO;rw[show aan (some q)=(q:Int) from rfl]at mO;have hs2:so=true:=hso;clear hso;subst hs2;have hq0:(0:Int)≤(q:Int):=Int.natCast_nonneg _;clear hf;go_wp2_with fail;refine mO.o.mono ?_;rintro e w2 ⟨rfl,rfl⟩;go_wp2_with fail;refine UY.o.mono ?_;rintro e w2 ⟨rfl,rfl⟩;go_wp2_with fail;go_meet;case rel=>exact⟨by cases hb<;>rfl,rfl⟩
  case rest=>
   obtain⟨rfl,rfl⟩:=hcut;obtain⟨b5,hb5⟩:=aN (so&& !hb);rw[←hb5]at DY⊢;clear hb5 hso mO UY;obtain⟨fst,hfst⟩:=aN (if b5 then[nm]else[]);rw[←hfst]at DY;have HFST:=au hfst;clear hfst;(go_upto_if 23 with fail);go_cut [7] (fun s7 wx=>wx.ownsRow (w.heap.size+1) 9 1 s7 fst.length (iG fst)∧StF w1 wx);case first=>
    cases b5 with
    |true=>have HFT:Hid (fst=[nm]):=HFST.o;obtain⟨w2,hw2⟩:=aN (w1.alloc (.cells #[a_ nm] 9));(have HS2:Hid (StF w1 w2):=by rw[hw2];exact bK.alloc _);have HRW:Hid (Row (w1.alloc (.cells #[a_ nm] 9)) (w1.heap.size+1) (.slice (some ⟨w1.heap.size,0,none⟩) 1 1) 1 [.string nm]):=Row.new (cs:=[.string nm]) (aC _ _) dc;have HOA:Hid ((w1.alloc (.cells #[a_ nm] 9)).ownsRow (w.heap.size+1) 9 1 (.slice none 0 0) 0 []):=⟨rfl,.inl ⟨rfl,rfl⟩⟩;(have hsA:w.heap.size+1≤(w1.alloc (.cells #[a_ nm] 9)).heap.size:=by have h1:=HS2.o.size;rw[hw2]at h1;have:=HSZ1.o;omega);rw[hw2]at HS2;clear hw2;go_wp2_with (refine dK _ rfl (w1.heap.size+1) (.tmp 24) (.tmp 27) 40 rfl (w.heap.size+1) 9 i0 (.string ⟨#[]⟩) 1 16 Tryz.underlying40 HI.o HZ0.o HZ1.o HZ2.o rfl dc _ 0 _ (by simp[Act.eval]) HOA.o _ 1 _ (by simp[Act.eval]) HRW.o rfl (aU rfl) dc dc hsA ?_;intro v7 w7 qG mG Et);have CO:Hid (StF w1 w7):=HS2.o.then (bQ mG) (fun k hk e=>nomatch e);(have HO7:Hid (w7.ownsRow (w.heap.size+1) 9 1 v7 fst.length (iG fst)):=by rw[HFT.o];exact qG);clear qG mG Et;go_meet;case rel=>exact⟨HO7.o,CO.o⟩
    |false=>have HFT:Hid (fst=[]):=HFST.o;go_wp2_with fail;go_meet;case rel=>exact⟨by rw[HFT.o];exact⟨rfl,.inl ⟨rfl,rfl⟩⟩,Step.refl _ _⟩
   case rest=>
    obtain⟨hown,hst⟩:=hcut;obtain⟨w2,rfl⟩:=aN wc;have HOW:=au hown;have HS2:=au hst;clear hown hst d0 d1 d5;go_wp2_with fail;go_loopg [7,8] ar.length (fun g9 s7 s8 wr=>∃(k:Nat) (cur:List ByteArray),s8=.int .i64 k∧k≤ar.length∧ar.length-k≤g9∧wr.ownsRow (w.heap.size+1) 9 1 s7 cur.length (iG cur)∧StF w1 wr∧cur++qg l h (ar.drop k)=res);case atStart=>exact⟨0,fst,rfl,Nat.zero_le _,by omega,HOW.o,HS2.o,DY.o.symm⟩
    case round=>
     obtain⟨k,cur,rfl,hk,hgg,hown,hst,he⟩:=hrel;have qL:=au hst;have HE:=au he;obtain⟨d0,d1,d5⟩:=HD.o wr hst;by_cases hlt:k<ar.length
     ·obtain⟨x,hx⟩:∃x,ar[k]?=some x:=⟨ar[k],List.getElem?_eq_getElem hlt⟩;obtain⟨xs,⟨a',c',hva,hcl,hcm,-,hra⟩,hls⟩:=Xf.o wr hst;(obtain⟨rfl,rfl⟩:aa=a'∧ca=c':=by cases hva;exact⟨rfl,rfl⟩);obtain⟨g,o,rfl,hg,hgw,hcell⟩:=hra om;obtain⟨ct,hat,hget⟩:=gy.cells hls hx hcell;have iD:Hid (∀(jj:Nat) v,ct[jj]?=some v→wr.cell? ⟨g,o+k*8+jj,none⟩=some v):=hget;(have lq:Hid ((Tryz.prog.info? 46).map (·.size)=some ct.length):=by rw[hat.len];exact Tryz.eF);have HX:=au (Fv.o x (List.mem_of_getElem? hx));(have mY:Hid ((cur++nY l h x)++qg l h (ar.drop (k+1))=res):=by rw[List.append_assoc,←UK hx];exact he);(have hlen:cur.length+(nY l h x).length≤1000000:=by have:=congrArg List.length mY.o;simp at this;omega);have HTX:=au hat;have HOWN:=au hown;(have hlb:ar.length≤9223372036854775807:=by omega);obtain⟨va,vc,rfl⟩:=aV hown;obtain⟨wo,rfl⟩:=aN wr;clear hcell hx hva hcl hcm hra hg hgw hls hget hat hown hst he;go_wp2_with (refine aA rfl 46 (.tmp 41) rfl g (o+k*8) rfl ct _ iD.o Tryz.underlying46 rfl lq.o ?_);refine(IH.o x ct h _ _ P _ HX.o lG.o (Cb.o wo qL.o) HTX.o (HHQ.o wo qL.o) om).mono ?_;rintro e w4 ⟨⟨v4,rfl,hown4⟩,h4⟩;have NM:=au (h4.owns HOWN.o (fun _ _ h=>h));have HRW:Hid (Row w4 (w4.heap.size) v4 (nY l h x).length (iG (nY l h x))):=Row.eu hown4 (Nat.le_refl _);have fC:=au (qL.o.trans h4);have hsz4:=fC.o.size;have hsz1:=HSZ1.o;obtain⟨v5,v6,rfl⟩:=aV hown4;clear hown4 h4 d0 d1 d5;go_wp2_with (refine dK _ rfl w4.heap.size (.tmp 36) (.tmp 44) 40 rfl (w.heap.size+1) 9 i0 (.string ⟨#[]⟩) 1 16 Tryz.underlying40 HI.o HZ0.o HZ1.o HZ2.o rfl dc _ cur.length _ (by simp[Act.eval]) NM.o _ (nY l h x).length _ (by simp[Act.eval]) HRW.o (by simp[iG]) (Ac _) (by unfold maxLen;omega) om om ?_;intro v7 w7 qG mG Et)
      have pU:Hid (StF w1 w7):=fC.o.then (bQ mG) (fun i hi e=>by
       have h1:=(NM.o.lt i e).1
       have h3:=HSZ1.o
       omega)
      (have Xy:Hid (w7.ownsRow (w.heap.size+1) 9 1 v7 (cur++nY l h x).length (iG (cur++nY l h x))):=by have:=qG;rw[←qf,←List.length_append]at this;exact this);clear qG mG Et;go_roundg (gk-1);case rel=>exact⟨k+1,cur++nY l h x,by go_num,hlt,sbQ hgg,Xy.o,pU.o,mY.o⟩
      case measure=>omega
     ·(have hk2:k=ar.length:=by omega);(have Df:Hid (cur=res):=by show _=_;have:=he;rw[hk2,List.drop_length,qg,List.append_nil]at this;exact this);have HOWN:=au hown;obtain⟨va,vc,rfl⟩:=aV hown;clear hown hst he;go_wp2_with fail;go_ret;exact⟨⟨_,rfl,by rw[←Df.o];exact pO HOWN.o (Nat.le_succ _)⟩,HST.o.trans qL.o⟩
 ·have DY:Hid (res=[]):=HR.o.trans (if_neg hk);have q1:(k0 !=5)=true:=by simpa using hk
  clear hk;go_wp2_with fail;go_ret;exact⟨⟨_,rfl,by rw[DY.o];exact⟨rfl,.inl ⟨rfl,rfl⟩⟩⟩,HST.o⟩
theorem Ju (l:List It):∀n,Yt l n
 |0=>fun _ _ _ _ _ _ _ h=>absurd h (Nat.not_lt_zero _)
 |n+1=>Qu l n (Ju l n)
theorem Yu {l:List It} {c:Sc} {ps:List Pm} {k:Nat} {x:Pm} (h:ps[k]?=some x):oW l c (ps.take k) (ps.drop k)=(!(((ps.take k).map Pm.name).any (eqS x.name))&&(pJ l c false x.ty&&oW l c (ps.take (k+1)) (ps.drop (k+1)))):=by obtain⟨hk,rfl⟩:=List.getElem?_eq_some_iff.1 h;rw[List.drop_eq_getElem_cons hk,oW,List.take_succ_eq_append_getElem hk]
theorem Yv {ps:List Pm} {k:Nat} {x:Pm} (h:ps[k]?=some x):iG ((ps.take (k+1)).map Pm.name)=iG ((ps.take k).map Pm.name)++[.string x.name]:=by obtain⟨hk,rfl⟩:=List.getElem?_eq_some_iff.1 h;rw[List.take_succ_eq_append_getElem hk,List.map_append,qf];rfl
theorem GX (P:Nat→Prop) (l:List It) (c:Sc) (ps:List Pm) (vl vp us:Value) (w:World) (hki:uz l) (hls:ig lm w P l vl) (hps:ig Ei w P ps vp) (hs:IX w P c us) (hpl:ps.length≤1000):Calls Tryz.prog 59 #[vl,vp,us] w fun e w'=>e=.returned (.bool (oW l c [] ps))∧StF w w':=by
 have vM:=au hs;obtain⟨a1,c1,a2,c2,rfl,hs1,hs2⟩:=hs;obtain⟨av,cv,rfl⟩:=hls.parts;obtain⟨ab,cb,rfl⟩:=hps.parts;obtain⟨i0,hi0,hz0,hz1,hz2⟩:=info_parts Tryz.qE;have HI:=au hi0;have HZ0:=au hz0;have HZ1:=au hz1;have HZ2:=au hz2;obtain⟨w1,hw1⟩:=aN (w.alloc (.cells #[.slice a1 c.aB.length c1,.slice a2 c.types.length c2,dW c.dF] 73));have HST:=nS hw1
 have HB0:=nB hw1
 have HW1:=au hw1;have Fv:Hid (w1.heap.size=w.heap.size+1):=by show _=_;rw[hw1];simp
 have HE:Hid (∀X,StF w1 X→X.cell? ⟨w.heap.size,0,none⟩=some (.slice a1 c.aB.length c1)∧X.cell? ⟨w.heap.size,1,none⟩=some (.slice a2 c.types.length c2)∧X.cell? ⟨w.heap.size,2,none⟩=some (.bool c.dF)):=by intro X hX;have h:=hX.keep HB0.o (fun h=>h);exact⟨aj h 0 _ rfl,aj h 1 _ rfl,aj h 2 _ rfl⟩
 have HPQ:Hid (∀X,StF w1 X→ig Ei X P ps (.slice ab ps.length cb)):=fun X hX=>(bH fH).step _ _ (HST.o.trans hX) (fun _ _ h=>h) hps
 have OW:Hid (∀(X:World) (t:Ty) (ut:Value),StF w1 X→CP X P t ut→Calls Tryz.prog 24 #[.slice av l.length cv,ut,.agg #[.slice a1 c.aB.length c1,.slice a2 c.types.length c2,dW c.dF],.bool false] X fun e w'=>e=.returned (.bool (pJ l c false t))∧StF X w'):=fun X t ut hX hT=>EL l (SizeOf.sizeOf t+1) t ut _ _ c false P X (Nat.lt_succ_self _) hki ((bH aQ).step _ _ (HST.o.trans hX) (fun _ _ h=>h) hls) hT (jk.step _ _ (HST.o.trans hX) (fun _ _ h=>h) vM.o)
 obtain⟨R,hR⟩:=aN (oW l c [] ps);have HR:Hid (R=oW l c (ps.take 0) (ps.drop 0)):=hR;rw[←hR];clear hki hls hps hs1 hs2 hw1 hR vM hi0 hz0 hz1 hz2;go_enter Tryz.func59,Tryz.ntmps59;go_upto_region 1 with fail
 rw[←HW1.o];go_wp2_with fail;go_loopg [7,8] ps.length (fun gg s7 s8 wr=>∃i:Nat,s8=.int .i64 i∧i≤ps.length∧ps.length-i≤gg∧R=oW l c (ps.take i) (ps.drop i)∧wr.ownsRow (w.heap.size+1) 9 1 s7 i (iG ((ps.take i).map Pm.name))∧StF w1 wr);case atStart=>exact⟨0,rfl,Nat.zero_le _,by omega,HR.o,⟨rfl,.inl ⟨rfl,rfl⟩⟩,Step.refl _ _⟩
 case round=>
  obtain⟨i,rfl,hi,hgg,hrl,hown,hst⟩:=hrel;have xN:=au hrl;have pM:=au hst;have HOW:=au hown;obtain⟨va,vc,rfl⟩:=aV hown;clear hrl hst hown;obtain⟨wj,rfl⟩:=aN wr;by_cases hlt:i<ps.length
  ·obtain⟨x,hx⟩:∃x,ps[i]?=some x:=⟨ps[i],List.getElem?_eq_getElem hlt⟩;have hra:=xN.o.trans (Yu hx);have HNA:=au (Yv hx);obtain⟨g,o,c',cs,hva,hat,hcell⟩:=(HPQ.o wj pM.o).el fH hx;(obtain⟨rfl,rfl⟩:ab=some ⟨g,o,none⟩∧cb=c':=by cases hva;exact⟨rfl,rfl⟩);obtain⟨p0,-,-,ct,hty,hget⟩:=hat.get;have f0:=hcell 0 _ p0;rw[Nat.add_zero]at f0;(have iD:Hid (∀(jj:Nat) v,ct[jj]?=some v→wj.cell? ⟨g,o+i*11+1+jj,none⟩=some v):=fun jj v hv=>by rw[Nat.add_assoc (o+i*11)];exact hcell _ _ (hget jj v hv));(have lq:Hid ((Tryz.prog.info? 46).map (·.size)=some ct.length):=by rw[hty.len];exact Tryz.eF);obtain⟨nm,hnm⟩:=aN x.name;rw[←hnm]at f0 hra HNA;have HF0:Hid (∀X,StF wj X→X.cell? ⟨g,o+i*11,none⟩=some (.string nm)):=fun X hX=>hX.cell f0 (fun h=>h);obtain⟨d,hd⟩:=aN (((ps.take i).map Pm.name).any (eqS nm));obtain⟨tb,htb⟩:=aN (pJ l c false x.ty);(have UY:Hid (∀X,StF wj X→Calls Tryz.prog 72 #[.slice va i vc,.string nm] X fun e w'=>e=.returned (.bool d)∧X=w'):=by intro X hX;rw[hd];have hh:=cu.eu (P:=fun _=>True) (hX.owns HOW.o (fun _ _ h=>h)) (fun _ _=>trivial);refine vF (fun _=>True) nm _ _ X ?_;rw[List.length_map,List.length_take,Nat.min_eq_left hi];exact hh);(have HTX:Hid (∀X,StF wj X→Calls Tryz.prog 24 #[.slice av l.length cv,.agg ct.toArray,.agg #[.slice a1 c.aB.length c1,.slice a2 c.types.length c2,dW c.dF],.bool false] X fun e w'=>e=.returned (.bool tb)∧StF X w'):=by intro X hX;rw[htb];exact OW.o X x.ty _ (pM.o.trans hX) ⟨ct,rfl,iC.step hX (fun _ _ h=>h) _ ct hty⟩);rw[←hd,←htb]at hra;have oK:=au hra;(have hlb:ps.length≤9223372036854775807:=by omega);clear hcell hx hva hat p0 hget hnm hd htb hra hty f0;(go_upto_region 5 with fail);refine kG kr (fun X=>StF wj X) (bK.drew) kr ?_;refine SU.o (.slice va i vc) ?_;refine SU.o (.slice (some ⟨g,o,none⟩) ps.length cb) ?_;refine SU.o (.int .i64 i) ?_;refine SU.o (.pointer (some ⟨g,o+i*11,none⟩)) ?_;refine SU.o (.pointer (some ⟨g,o+i*11,none⟩)) ?_;simp only[o9];refine SU.o (.string nm) ?_ (fun X hX=>by have f0:=HF0.o X hX;go_simp);refine SU.o (.bool d) ?_ (fun X hX=>by go_simp;refine(UY.o X hX).mono ?_;rintro e w5 ⟨rfl,rfl⟩;exact⟨rfl,hX⟩);refine SU.o (.bool d) ?_;cases d with
   |true=>have kU:Hid (R=false):=oK.o;(iterate 9 refine SU.no ?_);simp only[o9];refine SU.o (.bool true) ?_;refine SU.nil (fun X hX=> ?_);simp only[o9];go_wp2_with fail;go_ret;exact⟨bD kU.o.symm,(HST.o.trans pM.o).trans hX⟩
   |false=>
    refine SU.o (.slice av l.length cv) ?_;refine SU.o (.slice (some ⟨g,o,none⟩) ps.length cb) ?_;refine SU.o (.int .i64 i) ?_;refine SU.o (.pointer (some ⟨g,o+i*11,none⟩)) ?_;refine SU.o (.pointer (some ⟨g,o+i*11+1,none⟩)) ?_;simp only[o9];refine SU.ld 46 (.tmp 27) g (o+i*11+1) ct _ ?_ (fun X hX=>(fun jj v hv=>hX.cell (iD.o jj v hv) (fun h=>h))) Tryz.underlying46 rfl lq.o;refine SU.o (.agg #[.slice a1 c.aB.length c1,.slice a2 c.types.length c2,dW c.dF]) ?_ (fun X hX=>by obtain⟨e0,e1,e2⟩:=HE.o X (pM.o.trans hX);go_simp);simp only[o9];refine SU.o (.bool tb) ?_ (fun X hX=>by go_simp;refine(HTX.o X hX).mono ?_;rintro e w5 ⟨rfl,h5⟩;exact⟨rfl,hX.trans h5⟩);refine SU.o (.bool !tb) ?_;refine SU.o (.bool !tb) ?_;refine SU.nil (fun X hX=> ?_);simp only[o9];cases tb with
    |false=>have kU:Hid (R=false):=oK.o;go_wp2_with fail;go_ret;exact⟨bD kU.o.symm,(HST.o.trans pM.o).trans hX⟩
    |true=>
     have pG:Hid (R=oW l c (ps.take (i+1)) (ps.drop (i+1))):=oK.o;have HOX:=au (hX.owns HOW.o (fun _ _ h=>h));have HS1X:=au (pM.o.trans hX);have HRW:Hid (Row (X.alloc (.cells #[a_ nm] 9)) (X.heap.size+1) (.slice (some ⟨X.heap.size,0,none⟩) 1 1) 1 [.string nm]):=Row.new (cs:=[.string nm]) (aC _ _) dc;have CJ:Hid (StF X (X.alloc (.cells #[a_ nm] 9))):=bK.alloc _;have HOA:=au (CJ.o.owns HOX.o (fun _ _ h=>h));have hszX:=HS1X.o.size;have hszA:=CJ.o.size;have f0:=HF0.o X hX;go_wp2_with (refine dK _ rfl (X.heap.size+1) (.tmp 33) (.tmp 39) 40 rfl (w.heap.size+1) 9 i0 (.string ⟨#[]⟩) 1 16 Tryz.underlying40 HI.o HZ0.o HZ1.o HZ2.o rfl dc _ i _ (by simp[Act.eval]) HOA.o _ 1 _ (by simp[Act.eval]) HRW.o rfl (aU rfl) (by unfold maxLen;omega) om (by have:=Fv.o;omega) ?_;intro v7 w7 qG mG Et)
     have pU:Hid (StF w1 w7):=(HS1X.o.trans CJ.o).then (bQ mG) (fun k hk e=>by
      have h1:=(HOA.o.lt k e).1
      have h3:=Fv.o
      omega)
     (have HOW7:Hid (w7.ownsRow (w.heap.size+1) 9 1 v7 (i+1) (iG ((ps.take (i+1)).map Pm.name))):=by rw[HNA.o];exact qG);clear qG mG Et;go_roundg (gk-1);case rel=>exact⟨i+1,by go_num,hlt,sbQ hgg,pG.o,HOW7.o,pU.o⟩
     case measure=>omega
  ·(have BZ:Hid (R=true):=by show _=_;rw[xN.o,List.drop_eq_nil_of_le om,oW]);go_wp2_with fail;go_ret;exact⟨bD BZ.o.symm,HST.o.trans pM.o⟩
end Go.Proofs.YtppekkbaoimpgaaGreat
