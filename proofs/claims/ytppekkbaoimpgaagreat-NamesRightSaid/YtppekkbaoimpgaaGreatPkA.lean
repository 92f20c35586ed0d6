import Derived.Test.YtppekkbaoimpgaaGreatRows
import Derived.WalkKit
import Derived.WalkSpells
import Derived.WalkLawsBesides
import Derived.Deep.QuietTactic
import Derived.BigQuiet
import Derived.BigRegion
import Derived.Deep.LoopGhost
import Derived.Deep.RegionHeld3
import Derived.Lib.Hide
import Derived.Laws.AppendOwnNone
import Derived.Laws.BitsAllLaws
import Derived.IntWalk
import Derived.Deep.AppendLies
import Derived.ChangeArms
import Derived.ReadAgain
import Derived.Below
import Derived.ChangeSame
import Derived.Deep.Slices
import Derived.Deep.MidRow
import Derived.Orders
import Derived.Test.YtppekkbaoimpgaaGreatShelf
import Derived.Deep.DeepFit
set_option maxRecDepth 100000
set_option maxHeartbeats 80000000
namespace Go.Proofs.YtppekkbaoimpgaaGreat
open Go.RowKit
theorem dc {p:Prop} (h:p:=by decide):p:=h
theorem om {p:Prop} (h:p:=by omega):p:=h
theorem kr {p:Prop} (h:p:=by kernel_rfl):p:=h
theorem rF {p:Prop} (h:p:=by simpa using hv):p:=h
theorem oi {p:Prop} (h:p:=by exact fun _ _ _=>by omega):p:=h
theorem fe {p:Prop} (h:p:=by exact fun _ _ h=>h.elim):p:=h
theorem il {p:Prop} (h:p:=by exact fun _ _ e=>.inl e):p:=h
theorem ir {p:Prop} (h:p:=by exact fun _ _ e=>.inr e):p:=h
theorem gQ {p:Prop} (h:p:=by exact fun h=>nomatch h):p:=h
theorem lu {p:Prop} (h:p:=by exact fun _ h=>nomatch h):p:=h
theorem iW {p:Prop} (h:p:=by exact fun _=>rfl):p:=h
def Hid (p:Prop):Prop:=p
theorem au {p:Prop} (h:p):Hid p:=h
theorem Hid.o {p:Prop} (h:Hid p):p:=h
theorem Hid.out {p:Prop} (h:Hid p):p:=h
theorem LD {α:Type} {b:Bool} {x y:α} (h:b=false):(if b=true then x else y)=y:=by rw[h];rfl
theorem aN {α:Sort _} (a:α):∃b,b=a:=⟨a,rfl⟩
inductive Vt
 |ay|ak (x:Int)|di|aO|a_ (x:ByteArray)|aT|dW (x:Bool)|cO (x:Int)|eU (b o:Nat)
open Vt
instance:CoeDep Vt ay Value:=⟨.slice none 0 0⟩
instance {x}:CoeDep Vt (ak x) Value:=⟨.int .i64 x⟩
instance:CoeDep Vt di Value:=⟨.string ⟨#[]⟩⟩
instance {x}:CoeDep Vt (a_ x) Value:=⟨.string x⟩
instance:CoeDep Vt aT Value:=⟨.bool false⟩
instance {x}:CoeDep Vt (dW x) Value:=⟨.bool x⟩
instance {x}:CoeDep Vt (cO x) Value:=⟨.int .u64 x⟩
instance {b o}:CoeDep Vt (eU b o) Value:=⟨.pointer (some ⟨b,o,none⟩)⟩
theorem mc {β:Type} {p:β→Prop} {a:β} {l:List β} (h:p a∧∀x∈l,p x):∀x∈a::l,p x:=List.forall_mem_cons.2 h
theorem nd {a b:Prop} (h:¬a):a→b:=fun e=>absurd e h
theorem np {ps:List (Nat×Nat)} {k:Nat} {Q:Nat×Nat→Prop} (h:(ps.all fun p=>p.1 !=k)=true):∀p∈ps,p.1=k→Q p:=by intro p hp e;have h2:=List.all_eq_true.1 h p hp;rw[e]at h2;simp at h2
theorem bD {a b:Bool} (h:a=b):Ending.returned (.bool a)=.returned (.bool b):=by rw[h]
theorem nZ {k:IntKind} {a b:Int} (h:a=b):Ending.returned (.int k a)=.returned (.int k b):=by rw[h]
theorem aj {w:World} {b t:Nat} {cs:Array Value} (h:w.heap[b]?=some (.cells cs t (0,0))) (i:Nat) (v:Value) (hv:cs[i]?=some v):w.cell? ⟨b,i,none⟩=some v:=by simp[World.cell?,h,hv]
theorem aI {w:World} {b t:Nat} {cs:Array Value} (h:w.heap[b]?=some (.cells cs t (0,0))) (i:Nat):w.frozen? ⟨b,i,none⟩=false:=by simp[World.frozen?,h]
theorem aW {w:World} {b t:Nat} {cs:Array Value} (h:w.heap[b]?=some (.cells cs t (0,0))) (i:Nat) (v:Value):(w.setCell ⟨b,i,none⟩ v).heap[b]?=some (.cells (cs.setIfInBounds i v) t (0,0)):=by simp[World.setCell,Array.getElem?_modify,h]
theorem Aq {w:World} {b:Nat} {o:Option Obj} (h:w.heap[b]?=o):w.drew.heap[b]?=o:=h
theorem oI {w:World} {b n:Nat} {o:Option Obj} (h:w.heap[b]?=o):(w.drewN n).heap[b]?=o:=h
theorem aP {w:World} {b:Nat} {o o':Obj} (h:w.heap[b]?=some o):(w.alloc o').heap[b]?=some o:=by
 have hb:b<w.heap.size:=by
  rcases Nat.lt_or_ge b w.heap.size with h1|h1
  ·exact h1
  ·simp[Array.getElem?_eq_none h1]at h
 rw[Below.heap_alloc w o' b hb];exact h
structure Step (S:Nat→Prop) (w w':World):Prop where
 os:w'.os=w.os
 tape:w'.tape=w.tape
 output:w'.output=w.output
 size:w.heap.size≤w'.heap.size
 block:∀k,k<w.heap.size→¬S k→w'.heap[k]?=w.heap[k]?
theorem Step.refl (S:Nat→Prop) (w:World):Step S w w:=⟨rfl,rfl,rfl,Nat.le_refl _,fun _ _ _=>rfl⟩
theorem bK {S:Nat→Prop} {w:World}:Step S w w:=Step.refl _ _
theorem Step.trans {S:Nat→Prop} {a b c:World} (h:Step S a b) (k:Step S b c):Step S a c:=
 ⟨k.os.trans h.os,k.tape.trans h.tape,k.output.trans h.output,Nat.le_trans h.size k.size,fun i hi hs=>(k.block i (Nat.lt_of_lt_of_le hi h.size) hs).trans (h.block i hi hs)⟩
theorem Step.mono {S T:Nat→Prop} {w w':World} (h:Step S w w') (hs:∀k,k<w.heap.size→S k→T k):Step T w w':=
 ⟨h.os,h.tape,h.output,h.size,fun k hk ht=>h.block k hk fun e=>ht (hs k hk e)⟩
theorem Step.then {S T:Nat→Prop} {a b c:World} (h:Step S a b) (k:Step T b c) (hs:∀i,i<a.heap.size→T i→S i):Step S a c:=
 ⟨k.os.trans h.os,k.tape.trans h.tape,k.output.trans h.output,Nat.le_trans h.size k.size,fun i hi hn=>(k.block i (Nat.lt_of_lt_of_le hi h.size) fun e=>hn (hs i hi e)).trans (h.block i hi hn)⟩
theorem Step.drew {S:Nat→Prop} {a w:World} (h:Step S a w):Step S a w.drew:=⟨h.os,h.tape,h.output,h.size,h.block⟩
theorem Step.drewN {S:Nat→Prop} {a w:World} (h:Step S a w) (n:Nat):Step S a (w.drewN n):=⟨h.os,h.tape,h.output,h.size,h.block⟩
theorem Step.alloc {S:Nat→Prop} {a w:World} (h:Step S a w) (o:Obj):Step S a (w.alloc o):=
 h.trans ⟨rfl,rfl,rfl,by simp,fun k hk _=>Below.heap_alloc _ _ _ hk⟩
theorem Step.setCell {S:Nat→Prop} {a w:World} (h:Step S a w) (p:Addr) (u:Value) (hp:p.block<a.heap.size→S p.block):Step S a (w.setCell p u):=by refine⟨h.os,h.tape,h.output,Nat.le_trans h.size (by simp[World.setCell]),fun k hk hs=> ?_⟩;rw[Below.heap_setCell _ _ _ _ (fun e=>hs (by subst e;exact hp hk))];exact h.block k hk hs
theorem Step.grown {S:Nat→Prop} {a w w':World} {row:Option Nat} (h:Step S a w) (hg:w.grownBy w' row) (hr:∀k,row=some k→k<a.heap.size→S k):Step S a w':=
 ⟨hg.os.trans h.os,hg.tape.trans h.tape,hg.output.trans h.output,Nat.le_trans h.size hg.size,fun k hk hs=>
  (hg.block k (Nat.lt_of_lt_of_le hk h.size) fun e=>hs (hr k e.symm hk)).trans (h.block k hk hs)⟩
theorem Step.keep {S:Nat→Prop} {w w':World} (h:Step S w w') {b:Nat} {o:Obj} (hb:w.heap[b]?=some o) (hs:¬S b):w'.heap[b]?=some o:=by
 have hlt:b<w.heap.size:=by
  rcases Nat.lt_or_ge b w.heap.size with h1|h1
  ·exact h1
  ·simp[Array.getElem?_eq_none h1]at hb
 rw[h.block b hlt hs];exact hb
theorem aK {w:World} {b:Nat} {o:Obj} (hb:w.heap[b]?=some o):b<w.heap.size:=by
 rcases Nat.lt_or_ge b w.heap.size with h1|h1
 ·exact h1
 ·simp[Array.getElem?_eq_none h1]at hb
theorem tC (w:World) (a:Addr) (v:Value) (o:Obj):((w.setCell a v).alloc o).heap[w.heap.size]?=some o:=by have:=heap_alloc_new (w.setCell a v) o;simpa[World.setCell]using this
theorem aC (w:World) (o:Obj):(w.alloc o).heap[w.heap.size]?=some o:=heap_alloc_new w o
theorem dX {w:World} {a:Addr} {v:Value} {o:Obj} (h:w.cell? a=some v):(w.alloc o).cell? a=some v:=
 (World.grownBy_alloc w o none).cell h (by simp)
theorem Step.cell {S:Nat→Prop} {w w':World} {a:Addr} {v:Value} (hs:Step S w w') (h:w.cell? a=some v) (hn:¬S a.block):w'.cell? a=some v:=
 (World.cell?_of_block (hs.block a.block (World.block_lt_of_cell? w a h) hn)).trans h
theorem vO {w:World} {b t:Nat} {cs:List Value} (h:w.heap[b]?=some (.cells cs.toArray t (0,0))):∀(j:Nat) (u:Value),cs[j]?=some u→w.cell? ((⟨b,0,none⟩:Addr).add j)=some u:=by
 intro j u hu;have hadd:(⟨b,0,none⟩:Addr).add j=⟨b,j,none⟩:=by unfold Addr.add;split<;>simp_all
 rw[hadd];exact aj h j u (by simpa using hu)
theorem dY (w:World) (o1 o2:Obj):((w.alloc o1).alloc o2).heap[w.heap.size+1]?=some o2:=by have:=heap_alloc_new (w.alloc o1) o2;simpa using this
theorem II {w:World} {base:Nat} {e:TypeId} {size:Nat} {v:Value} {n:Nat} {xs:List Value} (h:w.ownsRow base e size v n xs):∀k,v.ownBlock=some k→base≤k:=fun k hk=>(h.lt k hk).1
theorem zJ {w w':World} {row:Option Nat} (hg:w.grownBy w' row) {b:Nat} {o:Obj} (hb:w.heap[b]?=some o) (hn:∀k,row=some k→b≠k):w'.heap[b]?=some o:=by rw[hg.block b (aK hb) (fun e=>hn b e.symm rfl)];exact hb
theorem pO {w:World} {base base':Nat} {e:TypeId} {size:Nat} {v:Value} {n:Nat} {xs:List Value} (h:w.ownsRow base e size v n xs) (hb:base'≤base):w.ownsRow base' e size v n xs:=by
 refine⟨h.1,?_⟩;rcases h.2 with hz|⟨g,cap,cur,rfl,hg,rest⟩
 ·exact .inl hz
 ·exact .inr ⟨g,cap,cur,rfl,by omega,rest⟩
theorem RS {w:World} {b t:Nat} {a0 a1:Value} (h:w.heap[b]?=some (.cells #[a0,a1] t (0,0))):(w.cell? ⟨b,0,none⟩=some a0∧w.cell? ⟨b,1,none⟩=some a1)∧(w.frozen? ⟨b,0,none⟩=false∧w.frozen? ⟨b,1,none⟩=false):=
 ⟨⟨aj h 0 _ rfl,aj h 1 _ rfl⟩,⟨aI h 0,aI h 1⟩⟩
theorem Ar {w:World} {b t:Nat} {a0 a1 a2:Value} (h:w.heap[b]?=some (.cells #[a0,a1,a2] t (0,0))):(w.cell? ⟨b,0,none⟩=some a0∧w.cell? ⟨b,1,none⟩=some a1∧w.cell? ⟨b,2,none⟩=some a2)∧(w.frozen? ⟨b,0,none⟩=false∧w.frozen? ⟨b,1,none⟩=false∧w.frozen? ⟨b,2,none⟩=false):=
 ⟨⟨aj h 0 _ rfl,aj h 1 _ rfl,aj h 2 _ rfl⟩,⟨aI h 0,aI h 1,aI h 2⟩⟩
theorem aV {w:World} {base:Nat} {e:TypeId} {size:Nat} {v:Value} {n:Nat} {xs:List Value} (h:w.ownsRow base e size v n xs):∃a c,v=.slice a n c:=by
 rcases h.2 with⟨hv,h0⟩|⟨g,cap,cur,hv,_⟩
 ·exact⟨none,0,by rw[hv,h0]⟩
 ·exact⟨_,_,hv⟩
theorem Step.owns {S:Nat→Prop} {w w':World} {base:Nat} {e:TypeId} {size:Nat} {v:Value} {n:Nat} {xs:List Value} (hs:Step S w w') (h:w.ownsRow base e size v n xs) (hn:∀k,base≤k→¬S k):w'.ownsRow base e size v n xs:=by
 refine⟨h.1,?_⟩;rcases h.2 with hz|⟨g,cap,cur,rfl,hb,hgg,rest⟩
 ·exact .inl hz
 ·exact .inr ⟨g,cap,cur,rfl,hb,hs.keep hgg (hn g hb),rest⟩
theorem bQ {w w':World} {row:Option Nat} (h:w.grownBy w' row):Step (fun k=>row=some k) w w':=bK.grown h (fun _ hk _=>hk)
theorem Step.YQ {w w':World} (h:Step (fun _=>False) w w'):Below w.heap.size w w':=⟨h.os,h.tape,h.output,h.size,fun k hk=>h.block k hk (fun e=>e)⟩
def Row (w:World) (B:Nat) (v:Value) (n:Nat) (xs:List Value):Prop:=
 ∃a c,v=.slice a n c∧n≤c∧c≤9223372036854775807∧(a=none→n=0∧c=0)∧(0<n→∃g o,a=some ⟨g,o,none⟩∧g<B∧g<w.heap.size∧∀(i:Nat) x,xs[i]?=some x→w.cell? ⟨g,o+i,none⟩=some x)
theorem Row.step {w w':World} {B:Nat} {v:Value} {n:Nat} {xs:List Value} {S:Nat→Prop} (h:Row w B v n xs) (hs:Step S w w') (hS:∀k,k<B→¬S k):Row w' B v n xs:=by obtain⟨a,c,hv,hc,hm,hz,hr⟩:=h;refine⟨a,c,hv,hc,hm,hz,fun hn=> ?_⟩;obtain⟨g,o,ha,hg,hgw,hcell⟩:=hr hn;exact⟨g,o,ha,hg,Nat.lt_of_lt_of_le hgw hs.size,fun i x hx=>hs.cell (hcell i x hx) (hS g hg)⟩
theorem Row.mono {w:World} {B B':Nat} {v:Value} {n:Nat} {xs:List Value} (h:Row w B v n xs) (hb:B≤B'):Row w B' v n xs:=by obtain⟨a,c,hv,hc,hm,hz,hr⟩:=h;refine⟨a,c,hv,hc,hm,hz,fun hn=> ?_⟩;obtain⟨g,o,ha,hg,hgw,hcell⟩:=hr hn;exact⟨g,o,ha,by omega,hgw,hcell⟩
theorem Jv (g o j:Nat):(⟨g,o,none⟩:Addr).add j=⟨g,o+j,none⟩:=by unfold Addr.add;split<;>simp_all
theorem Row.eu {w:World} {base B:Nat} {e:TypeId} {size:Nat} {v:Value} {n:Nat} {xs:List Value} (h:w.ownsRow base e size v n xs) (hB:w.heap.size≤B):Row w B v n xs:=by
 have hh:=h;rcases h.2 with⟨rfl,rfl⟩|⟨g,cap,cur,rfl,hb,hg,hn,hm,_⟩
 ·exact⟨none,0,rfl,Nat.le_refl _,by omega,fun _=>⟨rfl,rfl⟩,fun h=>absurd h (Nat.lt_irrefl _)⟩
 ·refine⟨_,cap,rfl,hn,by simpa[maxLen]using hm,fun h=>(by cases h),fun _=>⟨g,0,rfl,Nat.lt_of_lt_of_le (aK hg) hB,aK hg,fun i x hx=> ?_⟩⟩;have:=hh.cells (g:=g) rfl i x hx
  rwa [Jv]at this
section
variable {P : Program} (w : World)
theorem EP (B:Nat) (base:Nat) (t ty e:TypeId) (i:TypeInfo) (z:Value) (size bytes:Nat) (ht:P.underlying t=some (.slice e)) (hi:P.info? e=some i) (hz:i.zero=some z) (hsize:i.size=size) (hby:i.bytes=bytes) (hzs:z.cells.size=size) (hsz:0<size) (v:Value) (n:Nat) (xs:List Value) (hown:w.ownsRow base e size v n xs) (vs:Value) (m:Nat) (news:List Value) (hrow:Row w B vs m news) (hl:news.length=m*size) (h1:∀u∈news,u.oneCell'=true) (h63:n+m≤maxLen) (hbytes:(n+m)*bytes≤140737488355328) (hbase:base≤w.heap.size):∃v' w',(Builtin.append_ #[t,t] ty #[v,vs]).run P w=.ok v' w'∧w'.ownsRow base e size v' (n+m) (xs++news)∧w.grownBy w' v.ownBlock∧(v'.ownBlock=v.ownBlock∨v'.ownBlock=some w.heap.size):=by
 obtain⟨a,c,rfl,hc,hm,hnil,hr⟩:=hrow;cases a with
 |none=>obtain⟨rfl,rfl⟩:=hnil rfl;have:news=[]:=List.eq_nil_of_length_eq_zero om;subst this;refine⟨v,w,run_append_owned_none (P:=P) w base t ty e i size ht hi v n xs hown,?_,⟨rfl,rfl,rfl,Nat.le_refl _,fun _ _ _=>rfl⟩,.inl rfl⟩;rw[List.append_nil];exact hown
 |some ad=>
  have hnews:∀j u,news[j]?=some u→w.cell? (ad.add j)=some u:=by
   intro j u hu;have hlt:=(List.getElem?_eq_some_iff.1 hu).1;have hpos:0<m:=by
    rcases Nat.eq_zero_or_pos m with h0|h0
    ·subst h0;omega
    ·exact h0
   obtain⟨g,o,ha,_,_,hcell⟩:=hr hpos;cases ha;rw[Jv];exact hcell j u hu
  obtain⟨v',w',r1,r2,r3,_,r5⟩:=run_append_own_at (P:=P) w base t ty e i z size bytes ht hi hz hsize hby hzs hsz v n xs hown ad m c news hl hnews h1 h63 hbytes hbase;exact⟨v',w',r1,r2,r3,r5⟩
theorem f_ {o:Oper} {a:Act} {K:Act→World→Prop} {Q:Exit→Act→World→Prop} (B:Nat) (s x:Operand) (t:TypeId) (ho:o.op=.call {callee:=.builtin .append,args:= #[s,x],argTypes:= #[t,t]}) (base:Nat) (e:TypeId) (i:TypeInfo) (z:Value) (size bytes:Nat) (ht:P.underlying t=some (.slice e)) (hi:P.info? e=some i) (hz:i.zero=some z) (hsize:i.size=size) (hby:i.bytes=bytes) (hzs:z.cells.size=size) (hsz:0<size) (v:Value) (n:Nat) (xs:List Value) (hs:a.eval s=v) (hown:w.ownsRow base e size v n xs) (vs:Value) (m:Nat) (news:List Value) (hx:a.eval x=vs) (hrow:Row w B vs m news) (hl:news.length=m*size) (h1:∀u∈news,u.oneCell'=true) (h63:n+m≤maxLen) (hbytes:(n+m)*bytes≤140737488355328) (hbase:base≤w.heap.size) (h:∀v' w',w'.ownsRow base e size v' (n+m) (xs++news)→w.grownBy w' v.ownBlock→(v'.ownBlock=v.ownBlock∨v'.ownBlock=some w.heap.size)→K (a.put o.dst v') w'):o.wp P a w K Q:=by obtain⟨v',w',hr,h2,h3,h4⟩:=EP (P:=P) w B base t o.type e i z size bytes ht hi hz hsize hby hzs hsz v n xs hown vs m news hrow hl h1 h63 hbytes hbase;unfold Oper.wp execOp;simp only[ho,resolve,invoke,builtin,Sem.run_bind,Sem.run_pure,Result.andThen_ok,List.map_toArray,List.map_cons,List.map_nil,hs,hx,hr];exact h v' w' h2 h3 h4
theorem dK {ops:Array Oper} {rest:List Oper} {o:Oper} {a:Act} {Q:Exit→Act→World→Prop} (hgd:o.guard=none) (B:Nat) (s x:Operand) (t:TypeId) (ho:o.op=.call {callee:=.builtin .append,args:= #[s,x],argTypes:= #[t,t]}) (base:Nat) (e:TypeId) (i:TypeInfo) (z:Value) (size bytes:Nat) (ht:P.underlying t=some (.slice e)) (hi:P.info? e=some i) (hz:i.zero=some z) (hsize:i.size=size) (hby:i.bytes=bytes) (hzs:z.cells.size=size) (hsz:0<size) (v:Value) (n:Nat) (xs:List Value) (hs:a.eval s=v) (hown:w.ownsRow base e size v n xs) (vs:Value) (m:Nat) (news:List Value) (hx:a.eval x=vs) (hrow:Row w B vs m news) (hl:news.length=m*size) (h1:∀u∈news,u.oneCell'=true) (h63:n+m≤maxLen) (hbytes:(n+m)*bytes≤140737488355328) (hbase:base≤w.heap.size) (h:∀v' w',w'.ownsRow base e size v' (n+m) (xs++news)→w.grownBy w' v.ownBlock→(v'.ownBlock=v.ownBlock∨v'.ownBlock=some w.heap.size)→wpList P ops Q rest (a.put o.dst v') w'):wpList P ops Q (o::rest) a w:=
 wpList_plain hgd fun _ hK=>f_ w B s x t ho base e i z size bytes ht hi hz hsize hby hzs hsz v n xs hs hown vs m news hx hrow hl h1 h63 hbytes hbase fun v' w' h2 h3 h4=>hK _ _ (h v' w' h2 h3 h4)
theorem n_ {ops:Array Oper} {o:Oper} {a:Act} {K:Act→World→Prop} {Q:Exit→Act→World→Prop} {E:Prop} (hgd:o.guard=none) (B:Nat) (s x:Operand) (t:TypeId) (ho:o.op=.call {callee:=.builtin .append,args:= #[s,x],argTypes:= #[t,t]}) (base:Nat) (e:TypeId) (i:TypeInfo) (z:Value) (size bytes:Nat) (ht:P.underlying t=some (.slice e)) (hi:P.info? e=some i) (hz:i.zero=some z) (hsize:i.size=size) (hby:i.bytes=bytes) (hzs:z.cells.size=size) (hsz:0<size) (v:Value) (n:Nat) (xs:List Value) (hs:a.eval s=v) (hown:w.ownsRow base e size v n xs) (vs:Value) (m:Nat) (news:List Value) (hx:a.eval x=vs) (hrow:Row w B vs m news) (hl:news.length=m*size) (h1:∀u∈news,u.oneCell'=true) (h63:n+m≤maxLen) (hbytes:(n+m)*bytes≤140737488355328) (hbase:base≤w.heap.size) (h:∀v' w',w'.ownsRow base e size v' (n+m) (xs++news)→w.grownBy w' v.ownBlock→(v'.ownBlock=v.ownBlock∨v'.ownBlock=some w.heap.size)→K (a.put o.dst v') w'):if Region.wanted o (yielded ops a.tmps)=true then Oper.wp P o a w K Q else E:=by
 have hw:Region.wanted o (yielded ops a.tmps)=true:=by simp[Region.wanted,hgd]
 rw[if_pos hw];exact f_ w B s x t ho base e i z size bytes ht hi hz hsize hby hzs hsz v n xs hs hown vs m news hx hrow hl h1 h63 hbytes hbase h
end
section
open Go.WideShapes Go.ChangeShapes
section
variable {H : Type} {enc : TypeId × Value → H} {P : Program} {w : World} {spare : Nat → Bool} {held : Bool}
end
end
section
variable {α : Type} {R R' : α → List Value → Prop}
end
theorem Row.new {w:World} {b t n:Nat} {cs:List Value} (h:w.heap[b]?=some (.cells cs.toArray t (0,0))) (hn:n≤9223372036854775807):Row w (b+1) (.slice (some ⟨b,0,none⟩) n n) n cs:=by
 refine⟨_,n,rfl,Nat.le_refl _,hn,gQ,fun _=>⟨b,0,rfl,by omega,aK h,fun i x hx=> ?_⟩⟩;have:=vO h i x hx
 rwa [Jv]at this
section
variable {P : Program} {w : World}
theorem Au (t:TypeId):∀(vs:List Value) (o:Nat) (c:Array Value),(w.alloc (.cells c t)).setCells w.heap.size o vs=w.alloc (.cells (vs.zipIdx.foldl (fun c x=>c.setIfInBounds (o+x.2) x.1) c) t)
 |[],o,c=>rfl
 |v::r,o,c=>by
  show((w.alloc (.cells c t)).setCell ⟨w.heap.size,o,none⟩ v).setCells w.heap.size (o+1) r=_
  rw[World.setCell_alloc_new,Au t r (o+1) _]
  congr 2
  rw[List.zipIdx_cons,List.foldl_cons,Nat.add_zero,List.zipIdx_succ,List.foldl_map]
  have hf:(fun(c:Array Value) (x:Value×Nat)=>c.setIfInBounds (o+(x.2+1)) x.1)=fun c x=>c.setIfInBounds ((o+1)+x.2) x.1:=by
   funext c x;congr 1;omega
  exact(congrFun (congrFun (congrArg (fun f=>List.foldl f) hf) _) _).symm
theorem EQ:∀(vs:List Value) (o:Nat) (c:Array Value) (j:Nat),o+vs.length≤c.size→(vs.zipIdx.foldl (fun c x=>c.setIfInBounds (o+x.2) x.1) c)[j]?=if o≤j∧j<o+vs.length then vs[j-o]? else c[j]?
 |[],o,c,j,_=>by
  have:¬(o≤j∧j<o+0):=by omega
  simp only[List.length_nil,if_neg this];rfl
 |v::r,o,c,j,h=>by
  rw[List.zipIdx_cons,List.foldl_cons,Nat.add_zero,List.zipIdx_succ,List.foldl_map]
  have hf:(fun(c:Array Value) (x:Value×Nat)=>c.setIfInBounds (o+(x.2+1)) x.1)=fun c x=>c.setIfInBounds ((o+1)+x.2) x.1:=by
   funext c x;congr 1;omega
  simp only[List.length_cons]at h⊢
  show(r.zipIdx.foldl (fun(c:Array Value) (x:Value×Nat)=>c.setIfInBounds (o+(x.2+1)) x.1) (c.setIfInBounds o v))[j]?=_
  rw[hf,EQ r (o+1) (c.setIfInBounds o v) j (by simp;omega)]
  by_cases h1:o+1≤j∧j<o+1+r.length
  ·
   rw[if_pos h1,if_pos om,show j-o=(j-(o+1))+1 by omega,List.getElem?_cons_succ]
  ·
   rw[if_neg h1]
   by_cases h2:j=o
   ·
    subst h2
    rw[if_pos om,Nat.sub_self,Array.getElem?_setIfInBounds_self_of_lt om];rfl
   ·
    rw[if_neg om,Array.getElem?_setIfInBounds_ne om]
theorem ER (t:TypeId) (c:Array Value) (vs:List Value) (h:c.size=vs.length):(w.alloc (.cells c t)).setCells w.heap.size 0 vs=w.alloc (.cells vs.toArray t):=by
 rw[Au];congr 2;apply Array.ext_getElem?;intro j;rw[EQ vs 0 c j om];by_cases hj:j<vs.length
 ·rw[if_pos om,Nat.sub_zero,List.getElem?_toArray]
 ·rw[if_neg om,Array.getElem?_eq_none om,List.getElem?_toArray,List.getElem?_eq_none om]
theorem bT {ops:Array Oper} {rest:List Oper} {op:Oper} {a:Act} {Q:Exit→Act→World→Prop} (hgd:op.guard=none) (ty:TypeId) (x y:Operand) (ho:op.op=.store ty x y) (c:Array Value) (vs:List Value) (hx:a.eval x=.pointer (some ⟨w.heap.size,0,none⟩)) (hy:a.eval y=.agg vs.toArray) (hi:(P.info? ty).map (·.size)=some vs.length) (hc:c.size=vs.length) (h1:∀v∈vs,v.oneCell'=true) (h:wpList P ops Q rest (a.put op.dst undef) (w.alloc (.cells vs.toArray ty))):wpList P ops Q (op::rest) a (w.alloc (.cells c ty)):=by
 refine wpList_store_mid hgd ty x y ho w.heap.size 0 vs.toArray hx hy (fun j hj=> ?_) (by simpa using hi) (all_oneCell_toArray h1) ?_
 ·have hb:=aC w (.cells c ty);have hj':j<c.size:=by rw[hc];simpa using hj
  rw[Nat.zero_add,aj hb j _ (Array.getElem?_eq_getElem hj'),aI hb];exact⟨rfl,rfl⟩
 ·rw[ER ty c _ (by simpa using hc)];exact h
theorem aA {ops:Array Oper} {rest:List Oper} {op:Oper} {a:Act} {Q:Exit→Act→World→Prop} (hgd:op.guard=none) (ty:TypeId) (x:Operand) (ho:op.op=.load ty x) (b o:Nat) (hx:a.eval x=.pointer (some ⟨b,o,none⟩)) (cs:List Value) (d:TypeDesc) (hc:∀(j:Nat) v,cs[j]?=some v→w.cell? ⟨b,o+j,none⟩=some v) (hu:P.underlying ty=some d) (hd:d.isRow=true) (hi:(P.info? ty).map (·.size)=some cs.length) (h:wpList P ops Q rest (a.put op.dst (.agg cs.toArray)) w):wpList P ops Q (op::rest) a w:=
 wpList_load_mid hgd ty x ho b o hx cs d hc hu hd hi h
end
section
variable {P : Program} {w : World}
theorem uf {b t:Nat}:∀(vs:List Value) (o:Nat) (c:Array Value) (w:World),w.heap[b]?=some (.cells c t (0,0))→(w.setCells b o vs).heap[b]?=some (.cells (vs.zipIdx.foldl (fun c x=>c.setIfInBounds (o+x.2) x.1) c) t (0,0))∧Step (·=b) w (w.setCells b o vs)
 |[],o,c,w,h=>⟨h,Step.refl _ _⟩
 |v::r,o,c,w,h=>by
  have h1:=aW h o v
  obtain⟨h2,h3⟩:=uf r (o+1) (c.setIfInBounds o v) _ h1
  have hf:(fun(c:Array Value) (x:Value×Nat)=>c.setIfInBounds (o+(x.2+1)) x.1)=fun c x=>c.setIfInBounds ((o+1)+x.2) x.1:=by
   funext c x;congr 1;omega
  refine⟨?_,Step.trans (bK.setCell _ _ iW) h3⟩
  show((w.setCell ⟨b,o,none⟩ v).setCells b (o+1) r).heap[b]?=_
  rw[h2,List.zipIdx_cons,List.foldl_cons,Nat.add_zero,List.zipIdx_succ,List.foldl_map]
  exact congrArg some (congrArg (fun a=>Obj.cells a t (0,0)) (congrFun (congrFun (congrArg (fun f=>List.foldl f) hf) _) _).symm)
theorem xq (vs:List Value) (o:Nat) (c:Array Value) (h:o+vs.length≤c.size):vs.zipIdx.foldl (fun c x=>c.setIfInBounds (o+x.2) x.1) c=(c.toList.take o++(vs++c.toList.drop (o+vs.length))).toArray:=by
 apply Array.ext_getElem?;intro j;have e:∀(l:List Value) (j:Nat),l.toArray[j]?=l[j]?:=fun l j=>by simp
 rw[EQ vs o c j h,e (c.toList.take o++(vs++c.toList.drop (o+vs.length))) j];have hl:(c.toList.take o).length=o:=by simp;omega
 by_cases h1:j<o
 ·rw[if_neg om,List.getElem?_append_left om,List.getElem?_take,if_pos h1];simp
 ·rw[List.getElem?_append_right om,hl];by_cases h2:j<o+vs.length
  ·rw[if_pos om,List.getElem?_append_left om]
  ·rw[if_neg om,List.getElem?_append_right om,List.getElem?_drop,show o+vs.length+(j-o-vs.length)=j by omega];simp
theorem aG {ops:Array Oper} {rest:List Oper} {op:Oper} {a:Act} {Q:Exit→Act→World→Prop} (hgd:op.guard=none) (ty:TypeId) (x y:Operand) (ho:op.op=.store ty x y) (b o t:Nat) (c:Array Value) (vs:List Value) (hx:a.eval x=.pointer (some ⟨b,o,none⟩)) (hy:a.eval y=.agg vs.toArray) (hb:w.heap[b]?=some (.cells c t (0,0))) (hi:(P.info? ty).map (·.size)=some vs.length) (hc:o+vs.length≤c.size) (h1:∀v∈vs,v.oneCell'=true) (h:∀w',w'.heap[b]?=some (.cells (c.toList.take o++(vs++c.toList.drop (o+vs.length))).toArray t (0,0))→Step (·=b) w w'→wpList P ops Q rest (a.put op.dst undef) w'):wpList P ops Q (op::rest) a w:=by
 refine wpList_store_mid hgd ty x y ho b o vs.toArray hx hy (fun j hj=> ?_) (by simpa using hi) (all_oneCell_toArray h1) ?_
 ·have hj':o+j<c.size:=by (have:j<vs.length:=by simpa using hj);omega
  rw[aj hb (o+j) _ (Array.getElem?_eq_getElem hj'),aI hb];exact⟨rfl,rfl⟩
 ·obtain⟨h2,h3⟩:=uf vs o c w hb;rw[xq vs o c hc]at h2;exact h _ (by simpa using h2) (by simpa using h3)
theorem Hl {fn:Func} {x t:Nat} (h:fn.results= #[.cell x t]) (tmps:Array Value) (b o:Nat) (cs:List Value) (d:TypeDesc) (hx:tmps.getD x undef=.pointer (some ⟨b,o,none⟩)) (hc:∀(j:Nat) v,cs[j]?=some v→w.cell? ⟨b,o+j,none⟩=some v) (hu:P.underlying t=some d) (hd:d.isRow=true) (hi:(P.info? t).map (·.size)=some cs.length):(results fn tmps).run P w=.ok (.agg cs.toArray) w:=by have hl:=run_loadVar_mid w b o t cs d hc hu hd hi;rw[Array.getD_eq_getD_getElem?]at hx;simp[results,h,hx,asAddr,hl]
theorem aY {fn:Func} {x t:Nat} (h:fn.results= #[.cell x t]) (tmps:Array Value) (b tt:Nat) (cs:List Value) (d:TypeDesc) (hx:tmps.getD x undef=.pointer (some ⟨b,0,none⟩)) (hb:w.heap[b]?=some (.cells cs.toArray tt (0,0))) (hu:P.underlying t=some d) (hd:d.isRow=true) (hi:(P.info? t).map (·.size)=some cs.length):(results fn tmps).run P w=.ok (.agg cs.toArray) w:=
 Hl h tmps b 0 cs d hx (fun j v hv=>by rw[Nat.zero_add];exact aj hb j v rF) hu hd hi
end
def fO (ops:Array Oper) (i:Nat):Option Tmp:=(ops[i]?).bind (·.dst)
def pK (ops:Array Oper) (L:Nat→Bool) (V:Nat→Value):List Nat→Act→Act
 |[],a=>a
 |i::r,a=>pK ops L V r (if L i then a.put (fO ops i) (V i)else a)
def kJ (ops:Array Oper) (V:Nat→Value):List Nat→Act→Act
 |[],a=>a
 |i::r,a=>kJ ops V r (a.put (fO ops i) (V i))
def dO (L:Nat→Bool) (i:Nat):Nat→Bool:=fun j=>if j=i then true else L j
def iY (V:Nat→Value) (i:Nat) (v:Value):Nat→Value:=fun j=>if j=i then v else V j
def vP (ops:Array Oper) (is:List Nat):Bool:=is.all fun i=>is.all fun j=>i==j||(fO ops i).isNone||(fO ops i !=fO ops j)
def DL (md:Region.Mode) (ops:Array Oper):Bool:=(List.range ops.size).all fun i=>match ops[i]? with
 |some o=>o.after.all fun e=> !Region.binds md e||decide (e.on<i)
 |none=>true
def DN (ops:Array Oper) (is:List Nat) (n:Nat):Bool:=is.all fun i=>match fO ops i with
 |some d=>decide (d<n)
 |none=>true
def rG (md:Region.Mode) (o:Oper):List Nat:=(o.after.toList.filter fun e=>Region.binds md e).map (·.on)
def LU (ops:Array Oper) (is:List Nat) (k:Nat):Bool:=is.all fun i=>fO ops i !=some k
section
variable {ops : Array Oper} {L L' : Nat → Bool} {V V' : Nat → Value}
theorem lX {is:List Nat} (h:vP ops is=true) {i j:Nat} (hi:i∈is) (hj:j∈is) (hne:i≠j):∀d,fO ops i=some d→fO ops j≠some d:=by intro d h1 h2;have h3:=List.all_eq_true.1 (List.all_eq_true.1 h i hi) j hj;simp[h1,h2,hne]at h3
theorem Qx {x:Option Tmp} {v:Value}:∀(is:List Nat) (a:Act),(∀j∈is,∀d,fO ops j=some d→x≠some d)→(pK ops L V is a).put x v=pK ops L V is (a.put x v)
 |[],_,_=>rfl
 |i::r,a,h=>by
  simp only[pK]
  rw[Qx r _ (fun j hj=>h j (List.mem_cons_of_mem _ hj))]
  congr 1
  split
  ·
   exact Act.put_comm _ _ _ (h i (List.mem_cons_self ..))
  ·
   rfl
theorem IJ:∀(is:List Nat) (a:Act),(∀j∈is,L j=L' j∧V j=V' j)→pK ops L V is a=pK ops L' V' is a
 |[],_,_=>rfl
 |i::r,a,h=>by
  simp only[pK]
  rw[(h i (List.mem_cons_self ..)).1,(h i (List.mem_cons_self ..)).2]
  exact IJ r _ (fun j hj=>h j (List.mem_cons_of_mem _ hj))
theorem xu {i:Nat} {v:Value} (hL:L i=false):∀(is:List Nat) (a:Act),is.Nodup→i∈is→(∀j∈is,i≠j→∀d,fO ops j=some d→fO ops i≠some d)→(pK ops L V is a).put (fO ops i) v=pK ops (dO L i) (iY V i v) is a
 |[],_,_,hi,_=>nomatch hi
 |j::r,a,hn,hi,hd=>by
  obtain⟨hj,hn⟩:=List.nodup_cons.1 hn
  by_cases e:j=i
  ·
   subst e
   have h0:dO L j j=true:=by simp[dO]
   have h1:iY V j v j=v:=by simp[iY]
   have h2:L j=false:=hL
   simp only[pK]
   rw[h0,h1,h2]
   simp only[Bool.false_eq_true,if_false,if_true]
   rw[Qx r a (fun k hk=>hd k (List.mem_cons_of_mem _ hk) (fun e=>hj (e▸hk)))]
   exact IJ r _ (fun k hk=>by
    have:k≠j:=fun e=>hj (e▸hk)
    simp[dO,iY,this])
  ·
   have h0:dO L i j=L j:=by simp[dO,e]
   have h1:iY V i v j=V j:=by simp[iY,e]
   simp only[pK]
   rw[h0,h1]
   exact xu hL r _ hn ((List.mem_cons.1 hi).resolve_left (fun h=>e h.symm)) (fun k hk=>hd k (List.mem_cons_of_mem _ hk))
theorem yM {k:Nat}:∀(is:List Nat) (a:Act),(∀j∈is,fO ops j≠some k)→(pK ops L V is a).eval (.tmp k)=a.eval (.tmp k)
 |[],_,_=>rfl
 |i::r,a,h=>by
  simp only[pK]
  rw[yM r _ (fun j hj=>h j (List.mem_cons_of_mem _ hj))]
  split
  ·
   exact Act.eval_put (fun d hd e=>by cases e;exact h i (List.mem_cons_self ..) hd)
  ·
   rfl
theorem bM (a:Act) (k:Nat):a.eval (.tmp k)=a.tmps[k]?.getD undef:=by simp[Act.eval]
theorem LV (a:Act) (x:Option Tmp) (v:Value):(a.put x v).tmps.size=a.tmps.size:=by cases x<;>simp[Act.put]
theorem xw {i k:Nat} (hk:fO ops i=some k) (hL:L i=true):∀(is:List Nat) (a:Act),is.Nodup→i∈is→(∀j∈is,i≠j→fO ops j≠some k)→k<a.tmps.size→(pK ops L V is a).eval (.tmp k)=V i
 |[],_,_,hi,_,_=>nomatch hi
 |j::r,a,hn,hi,hd,hs=>by
  obtain⟨hj,hn⟩:=List.nodup_cons.1 hn
  by_cases e:j=i
  ·
   subst e
   have h2:L j=true:=hL
   simp only[pK]
   rw[h2]
   simp only[if_true]
   rw[yM r _ (fun m hm=>hd m (List.mem_cons_of_mem _ hm) (fun e=>hj (e▸hm))),hk]
   simp[Act.eval,Act.put,hs]
  ·
   simp only[pK]
   refine xw hk hL r _ hn ((List.mem_cons.1 hi).resolve_left (fun h=>e h.symm)) (fun m hm=>hd m (List.mem_cons_of_mem _ hm)) ?_
   split
   ·
    rw[LV];exact hs
   ·
    exact hs
theorem Aw:∀(is:List Nat) (a:Act),(∀i∈is,L i=true)→pK ops L V is a=kJ ops V is a
 |[],_,_=>rfl
 |i::r,a,h=>by
  simp only[pK,kJ]
  rw[h i (List.mem_cons_self ..)]
  exact Aw r _ (fun j hj=>h j (List.mem_cons_of_mem _ hj))
theorem xA:∀(is:List Nat) (a:Act),(∀i,L i=false)→pK ops L V is a=a
 |[],_,_=>rfl
 |i::r,a,h=>by
  simp only[pK]
  rw[h i]
  exact xA r _ h
end
def uH (listed:Array Bool):Nat:=listed.toList.countP (fun b=> !b)
theorem yN (listed:Array Bool) (i:Nat) (h:listed.getD i true=false):uH (listed.setIfInBounds i true)+1=uH listed:=by
 have key:∀(l:List Bool) (i:Nat),l[i]?=some false→(l.set i true).countP (fun b=> !b)+1=l.countP (fun b=> !b):=by
  intro l;induction l with
  |nil=>intro i h;simp at h
  |cons b r ih=>
   intro i h;cases i with
   |zero=>simp at h;subst h;simp
   |succ i=>have:=ih i (by simpa using h);simp only[List.set_cons_succ,List.countP_cons];omega
 have hi:listed[i]?=some false:=by
  rw[Array.getD_eq_getD_getElem?]at h;cases e:listed[i]? with
  |none=>rw[e]at h;simp at h
  |some b=>rw[e]at h;simp at h;rw[h]
 unfold uH;rw[Array.toList_setIfInBounds];exact key _ _ (by simpa using hi)
theorem vS {listed:Array Bool} (h:uH listed=0) (i:Nat):listed.getD i true=true:=by
 rw[Array.getD_eq_getD_getElem?];cases e:listed[i]? with
 |none=>rfl
 |some b=>
  unfold uH at h;have hm:b∈listed.toList:=by simpa using Array.mem_of_getElem? e
  have:=List.countP_eq_zero.1 h b hm;simpa using this
section
variable {P : Program} {md : Region.Mode} {ops : Array Oper} {Q : Exit → Act → World → Prop} {a0 : Act} {n : Nat} {J : (Nat → Bool) → (Nat → Value) → World → Prop}
def AllOp (F:Nat→Oper→Prop):Nat→List Oper→Prop
 |_,[]=>True
 |i,o::r=>F i o∧AllOp F (i+1) r
theorem AllOp.get {F:Nat→Oper→Prop}:∀(l:List Oper) (i k:Nat) (o:Oper),AllOp F k l→l[i]?=some o→F (k+i) o
 |[],i,k,o,_,h=>by simp at h
 |x::r,0,k,o,hs,h=>by
  simp at h;subst h
  exact hs.1
 |x::r,i+1,k,o,hs,h=>by
  have:=AllOp.get r i (k+1) o hs.2 (by simpa using h)
  rwa [Nat.add_assoc,Nat.add_comm 1 i]at this
theorem AllOp.at {F:Nat→Oper→Prop} {ops:Array Oper} (h:AllOp F 0 ops.toList) {i:Nat} {o:Oper} (ho:ops[i]?=some o):F i o:=by
 have:=AllOp.get ops.toList i 0 o h (by simpa using ho)
 rwa [Nat.zero_add]at this
theorem Fz {ops:Array Oper} {L:Nat→Bool} {V:Nat→Value}:∀(is:List Nat) (a:Act),(pK ops L V is a).defers=a.defers
 |[],_=>rfl
 |i::r,a=>by
  simp only[pK]
  rw[Fz r]
  split
  ·
   cases fO ops i<;>rfl
  ·
   rfl
theorem Gm {ops:Array Oper} {L:Nat→Bool} {V:Nat→Value}:∀(is:List Nat) (a:Act),(pK ops L V is a).tmps.size=a.tmps.size
 |[],_=>rfl
 |i::r,a=>by
  simp only[pK]
  rw[Gm r]
  split
  ·
   exact LV _ _ _
  ·
   rfl
def gdD (md:Region.Mode) (ops:Array Oper):Bool:=(List.range ops.size).all fun i=>match ops[i]? with
 |some o=>(match o.guard with
  |none=>true
  |some (j,_)=>(rG md o).contains j&&(fO ops j).isSome)
 |none=>true
def oV (P:Program) (Q:Exit→Act→World→Prop) (J:(Nat→Bool)→(Nat→Value)→World→Prop) (L:Nat→Bool) (V:Nat→Value) (w:World) (a:Act) (i:Nat) (o:Oper):Prop:=
 match o.guard with
 |none=>o.wp P a w (fun a' w'=>∃v,a'=a.put o.dst v∧J (dO L i) (iY V i v) w') Q
 |some (j,want)=>(V j=.bool want∧o.wp P a w (fun a' w'=>∃v,a'=a.put o.dst v∧J (dO L i) (iY V i v) w') Q)∨(V j≠.bool want∧J (dO L i) (iY V i undef) w)
theorem wpAny_relyA (hn:ops.size=n) (hd:vP ops (List.range n)=true) (hb:DL md ops=true) (hr:DN ops (List.range n) a0.tmps.size=true) (hg:gdD md ops=true) (hs:∀i o,ops[i]?=some o→∀(L:Nat→Bool) (V:Nat→Value) (w:World) (a:Act),(∀j k,fO ops j=some k→L j=true→a.tmps[k]?.getD undef=V j)→(∀k,LU ops (List.range n) k=true→a.tmps[k]?.getD undef=a0.tmps[k]?.getD undef)→a.defers=a0.defers→L i=false→(∀j,(rG md o).contains j=true→L j=true)→J L V w→oV P Q J L V w a i o) (hdone:∀L V w,(∀i,i<n→L i=true)→J L V w→Q .normal (kJ ops V (List.range n) a0) w):
  ∀(fuel:Nat) (listed:Array Bool) (L:Nat→Bool) (V:Nat→Value) (w:World),listed.size=n→(∀i,i<n→L i=listed.getD i true)→uH listed≤fuel→J L V w→
   wpAny P md ops Q fuel listed (pK ops L V (List.range n) a0) w:=by
 have hall:∀(listed:Array Bool) (L:Nat→Bool) (V:Nat→Value) (w:World),(∀i,i<n→L i=listed.getD i true)→(∀i,listed.getD i true=true)→J L V w→Q .normal (pK ops L V (List.range n) a0) w:=by
  intro listed L V w hL h hJ
  rw[Aw _ _ (fun i hi=>by rw[hL i (List.mem_range.1 hi),h i])]
  exact hdone L V w (fun i hi=>by rw[hL i hi,h i]) hJ
 have hmono:∀(i:Nat) (o:Oper),ops[i]?=some o→∀e∈o.after,Region.binds md e=true→e.on<i:=by
  intro i o ho e he hbe
  have hi:i<ops.size:=(Array.getElem?_eq_some_iff.1 ho).1
  have h:=List.all_eq_true.1 hb i (List.mem_range.2 hi)
  simp only[ho]at h
  have h2:=Array.all_eq_true_iff_forall_mem.1 h e he
  simpa[hbe]using h2
 intro fuel
 induction fuel with
 |zero=>
  intro listed L V w hsz hL hc hJ
  have h0:=vS (Nat.le_zero.1 hc)
  refine⟨List.eq_nil_iff_forall_not_mem.2 (fun i hi=> ?_),hall listed L V w hL h0 hJ⟩
  have:=(mem_ready.1 hi).1
  rw[h0 i]at this;cases this
 |succ fuel ih=>
  intro listed L V w hsz hL hc hJ
  refine⟨fun hnil=> ?_,fun i hi=> ?_⟩
  ·
   refine hall listed L V w hL (fun i=> ?_) hJ
   induction i using Nat.strongRecOn with
   |ind i ihi=>
    cases hlt:listed.getD i true with
    |true=>rfl
    |false=>
     have hi:i<listed.size:=by
      rcases Nat.lt_or_ge i listed.size with h|h
      ·
       exact h
      ·
       rw[Array.getD_eq_getD_getElem?,Array.getElem?_eq_none h]at hlt;cases hlt
     have hmem:i∈Region.ready md ops listed:=by
      refine mem_ready.2 ⟨hlt,ops[i]' om,Array.getElem?_eq_getElem om,fun e he hbe=> ?_⟩
      have h1:=hmono i _ (Array.getElem?_eq_getElem om) e he hbe
      have h2:=ihi e.on h1
      rw[Array.getD_eq_getD_getElem?]at h2⊢
      rw[Array.getElem?_eq_getElem (show e.on<listed.size by omega)]at h2⊢
      simpa using h2
     rw[hnil]at hmem;cases hmem
  ·
   obtain⟨h1,o,ho,h2⟩:=mem_ready.1 hi
   have hin:i<n:=by rw[←hn];exact(Array.getElem?_eq_some_iff.1 ho).1
   have hLi:L i=false:=by rw[hL i hin];exact h1
   have hap:∀j,j∈List.range n→i≠j→∀d,fO ops j=some d→fO ops i≠some d:=fun j hj hne d h3=>lX hd hj (List.mem_range.2 hin) (Ne.symm hne) d h3
   have hev:∀j k,fO ops j=some k→L j=true→(pK ops L V (List.range n) a0).tmps[k]?.getD undef=V j∧k<a0.tmps.size:=(fun j k hjk UZ=>by
     have hjn:j<n:=by
      rw[←hn]
      rcases Nat.lt_or_ge j ops.size with h|h
      ·
       exact h
      ·
       simp[fO,Array.getElem?_eq_none h]at hjk
     have hk:k<a0.tmps.size:=by
      have:=List.all_eq_true.1 hr j (List.mem_range.2 hjn)
      simp only[hjk]at this
      simpa using this
     rw[←bM]
     exact⟨xw hjk UZ _ _ List.nodup_range (List.mem_range.2 hjn) (fun m hm hne=>lX hd (List.mem_range.2 hjn) hm hne k hjk) hk,hk⟩)
   have ax:∀j,(rG md o).contains j=true→L j=true:=(fun j hj=>by
     have hj':j∈rG md o:=by simpa using hj
     obtain⟨e,he,rfl⟩:=List.mem_map.1 hj'
     obtain⟨he1,he2⟩:=List.mem_filter.1 he
     have h3:=h2 e (by simpa using he1) he2
     have h4:=hmono i o ho e (by simpa using he1) he2
     rw[hL e.on om]
     rw[Array.getD_eq_getD_getElem?]at h3⊢
     rw[Array.getElem?_eq_getElem (show e.on<listed.size by omega)]at h3⊢
     simpa using h3)
   have hob:=hs i o ho L V w (pK ops L V (List.range n) a0) (fun j k h1 h2=>(hev j k h1 h2).1)
    (fun k hk=>by
     rw[←bM,←bM]
     exact yM _ _ (fun j hj e=>by
     have:=List.all_eq_true.1 hk j hj
     simp[e]at this))
    (Fz _ _) hLi ax hJ
   have hdst:o.dst=fO ops i:=by simp[fO,ho]
   have hnext:∀(v:Value) (w':World),J (dO L i) (iY V i v) w'→wpAny P md ops Q fuel (listed.setIfInBounds i true) ((pK ops L V (List.range n) a0).put o.dst v) w':=by
    intro v w' hJ'
    rw[hdst,xu hLi _ _ List.nodup_range (List.mem_range.2 hin) hap]
    refine ih (listed.setIfInBounds i true) _ _ w' (by simp[hsz]) (fun j hj=> ?_) (by have:=yN listed i h1;omega) hJ'
    unfold dO
    by_cases e:j=i
    ·
     subst e
     rw[if_pos rfl,Array.getD_eq_getD_getElem?,Array.getElem?_setIfInBounds_self_of_lt om];rfl
    ·
     rw[if_neg e,hL j hj,Array.getD_eq_getD_getElem?,Array.getD_eq_getD_getElem?,Array.getElem?_setIfInBounds_ne (Ne.symm e)]
   unfold wpOp
   simp only[ho]
   unfold oV at hob
   cases hgo:o.guard with
   |none=>
    rw[hgo]at hob
    have hw:Region.wanted o (yielded ops (pK ops L V (List.range n) a0).tmps)=true:=by simp[Region.wanted,hgo]
    rw[if_pos hw]
    refine .inl (Oper.wp_mono ?_ hob)
    rintro a' w' ⟨v,rfl,hJ'⟩
    exact hnext v w' hJ'
   |some gw=>
    obtain⟨j,want⟩:=gw
    rw[hgo]at hob
    have hgd:=List.all_eq_true.1 hg i (List.mem_range.2 om)
    simp only[ho,hgo,Bool.and_eq_true]at hgd
    have UZ:=ax j hgd.1
    obtain⟨k,hk⟩:=Option.isSome_iff_exists.1 hgd.2
    obtain⟨hv,hks⟩:=hev j k hk UZ
    have h3:(ops[j]?).bind (·.dst)=some k:=hk
    have h4:(pK ops L V (List.range n) a0).tmps[k]?=some (V j):=by
     have hsz2:k<(pK ops L V (List.range n) a0).tmps.size:=by rw[Gm];exact hks
     rw[Array.getElem?_eq_getElem hsz2]at hv⊢
     rw[←hv];rfl
    have hyl:yielded ops (pK ops L V (List.range n) a0).tmps j=match V j with| .bool b=>some b|_=>none:=by
     unfold yielded
     rw[h3,Option.bind_some,h4]
     cases V j<;>rfl
    rcases hob with⟨hb,hob⟩|⟨hb,hJ'⟩
    ·
     have hw:Region.wanted o (yielded ops (pK ops L V (List.range n) a0).tmps)=true:=by simp[Region.wanted,hgo,hyl,hb]
     rw[if_pos hw]
     refine .inl (Oper.wp_mono ?_ hob)
     rintro a' w' ⟨v,rfl,hJ'⟩
     exact hnext v w' hJ'
    ·
     have hw:¬Region.wanted o (yielded ops (pK ops L V (List.range n) a0).tmps)=true:=by
       simp only[Region.wanted,hgo,hyl]
       intro h5
       refine hb ?_
       cases e:V j with
       |bool b=>
        rw[e]at h5
        have h6:some b=some want:=by simpa using h5
        cases h6
        rfl
       |_=>rw[e]at h5;simp at h5
     rw[if_neg hw]
     exact hnext undef w hJ'
theorem wp_region_relyA {id:Nat} {w:World} (hm:P.follows .mixedOrders=true) (J:(Nat→Bool)→(Nat→Value)→World→Prop) (n:Nat) (hn:ops.size=n) (hd:vP ops (List.range n)=true) (hb:DL .any ops=true) (hr:DN ops (List.range n) a0.tmps.size=true) (hg:gdD .any ops=true) (h0:J (fun _=>false) (fun _=>undef) w.drew) (hs:∀i o,ops[i]?=some o→∀(L:Nat→Bool) (V:Nat→Value) (w:World) (a:Act),(∀j k,fO ops j=some k→L j=true→a.tmps[k]?.getD undef=V j)→(∀k,LU ops (List.range n) k=true→a.tmps[k]?.getD undef=a0.tmps[k]?.getD undef)→a.defers=a0.defers→L i=false→(∀j,(rG .any o).contains j=true→L j=true)→J L V w→oV P Q J L V w a i o) (hdone:∀L V w,(∀i,i<n→L i=true)→J L V w→Q .normal (kJ ops V (List.range n) a0) w):(Code.region id ops true).wp P Q a0 w:=by
 refine wp_region_any hm ?_;have h:=wpAny_relyA (P:=P) hn hd hb hr hg hs hdone ops.size (Array.replicate ops.size false) (fun _=>false) (fun _=>undef) w.drew (by simp[hn])
  (fun i hi=>by rw[Array.getD_eq_getD_getElem?,Array.getElem?_replicate,if_pos om];rfl) (by
   unfold uH
   simp only[Array.toList_replicate]
   exact Nat.le_trans List.countP_le_length (by simp)) h0
 rw[xA _ _ iW]at h;exact h
theorem gdD_none {md:Region.Mode} (hg:(ops.toList.all fun o=>o.guard.isNone)=true):gdD md ops=true:=by refine List.all_eq_true.2 fun i hi=> ?_;have hlt:=List.mem_range.1 hi;rw[Array.getElem?_eq_getElem hlt];have h:=List.all_eq_true.1 hg ops[i] (by simp);simp only[Option.isNone_iff_eq_none]at h;simp only[h]
theorem guard_none (hg:(ops.toList.all fun o=>o.guard.isNone)=true) {i:Nat} {o:Oper} (ho:ops[i]?=some o):o.guard=none:=by have:=List.all_eq_true.1 hg o (by simpa using Array.mem_of_getElem? ho);simpa using this
def zK (P:Program) (md:Region.Mode) (ops:Array Oper) (Q:Exit→Act→World→Prop) (a0:Act) (n:Nat) (J:(Nat→Bool)→(Nat→Value)→World→Prop):Nat→List Oper→Prop:=AllOp fun i o=>∀(L:Nat→Bool) (V:Nat→Value) (w:World) (a:Act),(∀j k,fO ops j=some k→L j=true→a.tmps[k]?.getD undef=V j)→(∀k,LU ops (List.range n) k=true→a.tmps[k]?.getD undef=a0.tmps[k]?.getD undef)→L i=false→(∀j,(rG md o).contains j=true→L j=true)→J L V w→o.wp P a w (fun a' w'=>∃v,a'=a.put o.dst v∧J (dO L i) (iY V i v) w') Q
theorem kP {id:Nat} {w:World} (hm:P.follows .mixedOrders=true) (J:(Nat→Bool)→(Nat→Value)→World→Prop) (n:Nat) (hn:ops.size=n) (hd:vP ops (List.range n)=true) (hb:DL .any ops=true) (hr:DN ops (List.range n) a0.tmps.size=true) (hg:(ops.toList.all fun o=>o.guard.isNone)=true) (h0:J (fun _=>false) (fun _=>undef) w.drew) (hs:zK P .any ops Q a0 n J 0 ops.toList) (hdone:∀L V w,(∀i,i<n→L i=true)→J L V w→Q .normal (kJ ops V (List.range n) a0) w):(Code.region id ops true).wp P Q a0 w:=
 wp_region_relyA hm J n hn hd hb hr (gdD_none hg) h0 (fun i o ho L V w a h1 h2 _ h3 h4 h5=>by unfold oV;rw[guard_none hg ho];exact hs.at ho L V w a h1 h2 h3 h4 h5) hdone
end
theorem eH {P:Program} {op:Oper} {a:Act} {w:World} {K:Act→World→Prop} {Q:Exit→Act→World→Prop} (ty:TypeId) (x y:Operand) (ho:op.op=.store ty x y) (b o t:Nat) (c:Array Value) (vs:List Value) (hx:a.eval x=.pointer (some ⟨b,o,none⟩)) (hy:a.eval y=.agg vs.toArray) (hb:w.heap[b]?=some (.cells c t (0,0))) (hi:(P.info? ty).map (·.size)=some vs.length) (hc:o+vs.length≤c.size) (h1:∀v∈vs,v.oneCell'=true) (h:∀w',w'.heap[b]?=some (.cells (c.toList.take o++(vs++c.toList.drop (o+vs.length))).toArray t (0,0))→Step (·=b) w w'→K (a.put op.dst undef) w'):op.wp P a w K Q:=by
 refine wp_store_mid ty x y ho b o vs.toArray hx hy (fun j hj=> ?_) (by simpa using hi) (all_oneCell_toArray h1) ?_
 ·have hj':o+j<c.size:=by (have:j<vs.length:=by simpa using hj);omega
  rw[aj hb (o+j) _ (Array.getElem?_eq_getElem hj'),aI hb];exact⟨rfl,rfl⟩
 ·obtain⟨h2,h3⟩:=uf vs o c w hb;rw[xq vs o c hc]at h2;exact h _ (by simpa using h2) (by simpa using h3)
section
variable {P : Program}
theorem Ho (w:World) (t e:TypeId) (i:TypeInfo) (z:Value) (vs:List Value) (ht:P.underlying t=some (.slice e)) (hi:P.info? e=some i) (hz:i.zero=some z) (hsize:i.size=vs.length) (hzs:z.cells.size=vs.length) (h0:0<vs.length) (hm:vs.length≤16777216):(Instr.buildSlice t 1 #[(0,.agg vs.toArray)]).run P w=.ok (.slice (some ⟨w.heap.size,0,none⟩) 1 1) (w.alloc (.cells vs.toArray e)):=by
 have hf:vs.zipIdx.foldl (fun(c:Array Value) (x:Value×Nat)=>c.setIfInBounds (0+x.2) x.1) ((Array.range vs.length).map (z.cells[· %z.cells.size]!))=vs.toArray:=by rw[xq vs 0 _ (by simp)];simp
 simp only[Nat.zero_add]at hf;have hc:(Value.agg vs.toArray).cells=vs.toArray:=rfl;have n1:¬16777216<vs.length:=by omega
 have n2:¬vs.length=0:=by omega
 simp[Instr.buildSlice,run_underlying ht,sizeOf,typeInfo,hi,zeroValue,hz,newRow,Instr.fill,hsize,n1,n2,hc,hf]
theorem mX {ops:Array Oper} {rest:List Oper} {op:Oper} {a:Act} {w:World} {Q:Exit→Act→World→Prop} (hgd:op.guard=none) (t:TypeId) (y:Operand) (ho:op.op=.buildSlice t 1 #[(0,y)]) (e:TypeId) (i:TypeInfo) (z:Value) (vs:List Value) (hy:a.eval y=.agg vs.toArray) (ht:P.underlying t=some (.slice e)) (hi:P.info? e=some i) (hz:i.zero=some z) (hsize:i.size=vs.length) (hzs:z.cells.size=vs.length) (h0:0<vs.length) (hm:vs.length≤16777216) (h:wpList P ops Q rest (a.put op.dst (.slice (some ⟨w.heap.size,0,none⟩) 1 1)) (w.alloc (.cells vs.toArray e))):wpList P ops Q (op::rest) a w:=by refine wpList_plain hgd fun _ hK=> ?_;unfold Oper.wp execOp;simp only[ho,List.map_toArray,List.map_cons,List.map_nil,hy,Sem.run_bind,Sem.run_pure,Ho w t e i z vs ht hi hz hsize hzs h0 hm,Result.andThen_ok];exact hK _ _ h
end
section
variable {P : Program}
end
def qh (a:Int):Bool:=decide (97≤a)&&decide (a≤122)
def isDigit (a:Int):Bool:=decide (48≤a)&&decide (a≤57)
def jh (a:Int):Bool:=qh a||(decide (65≤a)&&decide (a≤90))||decide (a=95)
def lK (a:Int):Bool:=jh a||isDigit a
theorem yO (a:Int) (w:World) (h0:0≤a) (h1:a≤255):Calls Tryz.prog 214 #[.int .u8 a] w fun e w'=>e=.returned (.bool (qh a))∧w=w':=by go_enter Tryz.func214,Tryz.ntmps214;go_wp2;all_goals (go_ret;exact⟨by simp[qh];omega,rfl⟩)
theorem jZ (a:Int) (w:World) (h0:0≤a) (h1:a≤255):Calls Tryz.prog 203 #[.int .u8 a] w fun e w'=>e=.returned (.bool (isDigit a))∧w=w':=by go_enter Tryz.func203,Tryz.ntmps203;go_wp2;all_goals (go_ret;exact⟨by simp[isDigit];omega,rfl⟩)
theorem jQ (a:Int) (w:World) (h0:0≤a) (h1:a≤255):Calls Tryz.prog 200 #[.int .u8 a] w fun e w'=>e=.returned (.bool (jh a))∧w=w':=by
 go_enter Tryz.func200,Tryz.ntmps200;cases hs:qh a;all_goals
  have hq:=yO a
  rw[hs]at hq
  go_wp2_with (go_at_call 214;refine(hq _ h0 h1).mono ?_;rintro e w' ⟨rfl,rfl⟩)
  all_goals (go_ret;exact⟨bD (by rw[Bool.eq_iff_iff];simp[jh,hs];try omega),rfl⟩)
theorem RU (a:Int) (w:World) (h0:0≤a) (h1:a≤255):Calls Tryz.prog 216 #[.int .u8 a] w fun e w'=>e=.returned (.bool (lK a))∧w=w':=by
 go_enter Tryz.func216,Tryz.ntmps216;cases hs:jh a;all_goals
  have hq:=jQ a
  rw[hs]at hq
  go_wp2_with (first|(go_at_call 200;refine(hq _ h0 h1).mono ?_;rintro e w' ⟨rfl,rfl⟩)|(go_at_call 203;refine(jZ _ _ h0 h1).mono ?_;rintro e w' ⟨rfl,rfl⟩))
  all_goals (go_ret;exact⟨by simp[lK,hs],rfl⟩)
theorem RV (a:Int) (w:World) (h0:0≤a) (h1:a≤255):Calls Tryz.prog 217 #[.int .u8 a] w fun e w'=>e=.returned (.bool (lK a))∧w=w':=by
 go_enter Tryz.func217,Tryz.ntmps217;cases hs:jh a;all_goals
  have hq:=jQ a
  rw[hs]at hq
  go_wp2_with (first|(go_at_call 200;refine(hq _ h0 h1).mono ?_;rintro e w' ⟨rfl,rfl⟩)|(go_at_call 203;refine(jZ _ _ h0 h1).mono ?_;rintro e w' ⟨rfl,rfl⟩))
  all_goals (go_ret;exact⟨by simp[lK,hs],rfl⟩)
theorem LW (a:Int) (w:World) (h0:0≤a) (h1:a≤255):Calls Tryz.prog 218 #[.int .u8 a] w fun e w'=>e=.returned (.bool (lK a))∧w=w':=by
 go_enter Tryz.func218,Tryz.ntmps218;cases hs:jh a;all_goals
  have hq:=jQ a
  rw[hs]at hq
  go_wp2_with (first|(go_at_call 200;refine(hq _ h0 h1).mono ?_;rintro e w' ⟨rfl,rfl⟩)|(go_at_call 203;refine(jZ _ _ h0 h1).mono ?_;rintro e w' ⟨rfl,rfl⟩))
  all_goals (go_ret;exact⟨by simp[lK,hs],rfl⟩)
structure Cut (w:World) (b:Nat) (s:ByteArray) (at' line from':Nat):Prop where
 out:w.heap[b]?=some (.cells #[a_ s,ak at',ak line,ak from'] 247 (0,0))
theorem Cut.cells {w:World} {b:Nat} {s:ByteArray} {p l f:Nat} (h:Cut w b s p l f):w.cell? ⟨b,0,none⟩=some (.string s)∧w.cell? ⟨b,1,none⟩=some (.int .i64 p)∧w.cell? ⟨b,2,none⟩=some (.int .i64 l)∧w.cell? ⟨b,3,none⟩=some (.int .i64 f)∧w.frozen? ⟨b,0,none⟩=false∧w.frozen? ⟨b,1,none⟩=false∧w.frozen? ⟨b,2,none⟩=false∧w.frozen? ⟨b,3,none⟩=false:=
 ⟨aj h.out 0 _ rfl,aj h.out 1 _ rfl,aj h.out 2 _ rfl,aj h.out 3 _ rfl,aI h.out 0,aI h.out 1,aI h.out 2,aI h.out 3⟩
theorem Cut.drewN {w:World} {b:Nat} {s:ByteArray} {p l f:Nat} (h:Cut w b s p l f) (n:Nat):Cut (w.drewN n) b s p l f:=⟨h.out⟩
theorem Cut.alloc {w:World} {b:Nat} {s:ByteArray} {p l f:Nat} (h:Cut w b s p l f) (o:Obj):Cut (w.alloc o) b s p l f:=⟨aP h.out⟩
theorem Cut.set1 {w:World} {b:Nat} {s:ByteArray} {p l f q:Nat} {z:Int} (e:z=q) (h:Cut w b s p l f):Cut (w.setCell ⟨b,1,none⟩ (.int .i64 z)) b s q l f:=by subst e;exact⟨aW h.out 1 _⟩
theorem Cut.set2 {w:World} {b:Nat} {s:ByteArray} {p l f q:Nat} {z:Int} (e:z=q) (h:Cut w b s p l f):Cut (w.setCell ⟨b,2,none⟩ (.int .i64 z)) b s p q f:=by subst e;exact⟨aW h.out 2 _⟩
theorem Cut.set3 {w:World} {b:Nat} {s:ByteArray} {p l f q:Nat} {z:Int} (e:z=q) (h:Cut w b s p l f):Cut (w.setCell ⟨b,3,none⟩ (.int .i64 z)) b s p l q:=by subst e;exact⟨aW h.out 3 _⟩
theorem Cut.step {w w':World} {b:Nat} {s:ByteArray} {p l f:Nat} {S:Nat→Prop} (h:Cut w b s p l f) (hs:Step S w w') (hb:¬S b):Cut w' b s p l f:=⟨hs.keep h.out hb⟩
theorem YR (b:Nat) (s:ByteArray) (p l f:Nat) (w:World) (h:Cut w b s p l f) (hf:f≤p) (hp:p≤100000):Calls Tryz.prog 181 #[.pointer (some ⟨b,0,none⟩)] w fun e w'=>e=.returned (.agg #[ak l,ak ((p:Int)-f+1)])∧Step (fun _=>False) w w':=by obtain⟨c0,c1,c2,c3,f0,f1,f2,f3⟩:=h.cells;have hlt:b<w.heap.size:=aK h.out;go_enter Tryz.func181,Tryz.ntmps181;go_wp2;go_region;go_wp2;exact bodyPost_ret (v:=.agg #[ak l,ak ((p:Int)-f+1)]) (by simp[results,Tryz.results181,go_sem]) rfl ⟨rfl,(bK.alloc _).drew⟩
theorem drop_cons (s:ByteArray) (p:Nat) (h:p<s.size):s.data.toList.drop p=s[p]::s.data.toList.drop (p+1):=by rw[List.drop_eq_getElem_cons (by simpa using h)];rfl
theorem Qy {c:UInt8} (k:UInt8) (h:((c.toNat:Int)==(k.toNat:Int))=true):c=k:=by have:c.toNat=k.toNat:=Int.ofNat_inj.1 (beq_iff_eq.1 h);exact UInt8.toNat_inj.1 this
theorem lM {c:UInt8} (k:UInt8) (h:(c.toNat:Int)=(k.toNat:Int)):c=k:=UInt8.toNat_inj.1 (Int.ofNat_inj.1 h)
theorem Ew {c:UInt8} (k:UInt8) (h:((c.toNat:Int)==(k.toNat:Int))=false):c≠k:=by intro e;subst e;simp at h
def gY:Bool→List UInt8→Nat→Nat→Nat→Nat×Nat×Nat
 |_,[],p,l,f=>(p,l,f)
 |true,c::r,p,l,f=>if c=10 then gY false r (p+1) (l+1) (p+1)else gY true r (p+1) l f
 |false,c::r,p,l,f=>
  if c=10 then gY false r (p+1) (l+1) (p+1)
  else if c=32∨c=9∨c=13 then gY false r (p+1) l f
  else if c=47∧r.head?=some 47 then gY true r (p+1) l f
  else(p,l,f)
theorem xB {c:UInt8} {r:List UInt8} {p l f:Nat} (h:c=32∨c=9∨c=13):gY false (c::r) p l f=gY false r (p+1) l f:=by rcases h with rfl|rfl|rfl<;>simp[gY]
theorem LX {c:UInt8} {r:List UInt8} {p l f:Nat} (h1:c≠10) (h2:¬(c=32∨c=9∨c=13)) (h3:¬(c=47∧r.head?=some 47)):gY false (c::r) p l f=(p,l,f):=by rw[gY,if_neg h1,if_neg h2,if_neg h3]
theorem LY {c:UInt8} {r:List UInt8} {p l f:Nat} (h:c=47∧r.head?=some 47):gY false (c::r) p l f=gY true (c::r) p l f:=by obtain⟨rfl,h⟩:=h;simp[gY,h]
theorem OE {c:UInt8} {r:List UInt8} {p l f:Nat} (h:c=10):gY true (c::r) p l f=gY false (c::r) p l f:=by subst h;simp[gY]
theorem zq (c:UInt8) (r:List UInt8):Lib.hasPrefix (c::r) [47,47]=decide (c=47∧r.head?=some 47):=by
 cases r with
 |nil=>simp[Lib.hasPrefix,List.isPrefixOf]
 |cons d r=>show((47:UInt8)==c&&((47:UInt8)==d&&true))=decide (c=47∧some d=some 47);rw[Bool.eq_iff_iff];simp;exact⟨fun h=>⟨h.1.symm,h.2.symm⟩,fun h=>⟨h.1.symm,h.2.symm⟩⟩
theorem qw (s:ByteArray) (p:Nat):(s.extract p s.size).data.toList=s.data.toList.drop p:=by rw[Lib.extract_data];simp[List.take_of_length_le]
theorem ES (t:ByteArray) (v:Bool) (h:Lib.hasPrefix t.data.toList [47,47]=v) (w:World):Calls Tryz.prog 155 #[.string t,.string ⟨#[47,47]⟩] w fun e w'=>e=.returned (.bool v)∧w=w':=
 (Tryz.strings_HasPrefix _ _ _).mono fun _ _ hq=>⟨by rw[hq.1];exact bD h,hq.2.symm⟩
theorem RX (b:Nat) (s:ByteArray) (p l f:Nat) (w:World) (h:Cut w b s p l f) (hf:f≤p) (hp:p≤s.size) (hs:s.size≤100000) (hl:l≤p+1):
  Calls Tryz.prog 180 #[.pointer (some ⟨b,0,none⟩)] w fun e w'=>e=.returned (.tuple #[])∧
   ∃p' l' f',(p',l',f')=gY false (s.data.toList.drop p) p l f∧Cut w' b s p' l' f'∧Step (·=b) w w':=by
 go_enter Tryz.func180,Tryz.ntmps180
 go_wp2
 go_loopg [] s.size (fun g wr=>∃p' l' f':Nat,s.size-p'≤g∧p'≤s.size∧f'≤p'∧l'≤p'+1∧gY false (s.data.toList.drop p') p' l' f'=gY false (s.data.toList.drop p) p l f∧Cut wr b s p' l' f'∧Step (·=b) w wr)
 case atStart=>exact⟨p,l,f,by omega,hp,hf,hl,rfl,h,Step.refl _ _⟩
 case round=>
  obtain⟨p',l',f',hg,hp',hf',hl',heq,hc,hst⟩:=hrel
  have HE:=au heq
  clear heq
  obtain⟨c0,c1,c2,c3,f0,f1,f2,f3⟩:=hc.cells
  have hlt:b<wr.heap.size:=aK hc.out
  by_cases hlt':p'<s.size
  ·
   have hdr:=au (drop_cons s p' hlt')
   go_wp2
   go_quiet (fail)
   go_wp2
   go_quiet (fail)
   go_wp2
   ·
    go_roundg (gk-1)
    case rel=>
     refine⟨p'+1,l'+1,p'+1,by omega,by omega,by omega,by omega,?_,?_,?_⟩
     ·
      rw[←HE.o,hdr.out,gY,if_pos (Qy 10 (by assumption))]
     ·
      exact(((hc.drewN _).set1 (q:=p'+1) om).set2 (q:=l'+1) om).set3 (q:=p'+1) om
     ·
      (repeat (with_reducible (first|exact hst|exact Step.refl _ _|refine Step.drew ?_|refine Step.drewN ?_ _|refine Step.alloc ?_ _|refine Step.setCell ?_ _ _ iW)))
    case measure=>omega
   ·
    rename_i h1 h2
    have h3:=lM 32 h2
    go_roundg (gk-1)
    case rel=>
     refine⟨p'+1,l',f',by omega,by omega,by omega,by omega,?_,?_,?_⟩
     ·
      rw[←HE.o,hdr.out,xB (.inl h3)]
     ·
      exact(hc.drewN _).set1 (q:=p'+1) om
     ·
      (repeat (with_reducible (first|exact hst|exact Step.refl _ _|refine Step.drew ?_|refine Step.drewN ?_ _|refine Step.alloc ?_ _|refine Step.setCell ?_ _ _ iW)))
    case measure=>omega
   ·
    rename_i h1 h1b h2
    have h3:=lM 9 h2
    go_roundg (gk-1)
    case rel=>
     refine⟨p'+1,l',f',by omega,by omega,by omega,by omega,?_,?_,?_⟩
     ·
      rw[←HE.o,hdr.out,xB (.inr (.inl h3))]
     ·
      exact(hc.drewN _).set1 (q:=p'+1) om
     ·
      (repeat (with_reducible (first|exact hst|exact Step.refl _ _|refine Step.drew ?_|refine Step.drewN ?_ _|refine Step.alloc ?_ _|refine Step.setCell ?_ _ _ iW)))
    case measure=>omega
   ·
    rename_i h1 h1b h1c h2
    have h3:=Qy 13 (h2.resolve_left (by simp[h1b,h1c]))
    go_roundg (gk-1)
    case rel=>
     refine⟨p'+1,l',f',by omega,by omega,by omega,by omega,?_,?_,?_⟩
     ·
      rw[←HE.o,hdr.out,xB (.inr (.inr h3))]
     ·
      exact(hc.drewN _).set1 (q:=p'+1) om
     ·
      (repeat (with_reducible (first|exact hst|exact Step.refl _ _|refine Step.drew ?_|refine Step.drewN ?_ _|refine Step.alloc ?_ _|refine Step.setCell ?_ _ _ iW)))
    case measure=>omega
   ·
    have hn10:=Ew (c:=s[p']) 10 (by assumption)
    have h2:((((s[p'].toNat:Int)==32)=false∧((s[p'].toNat:Int)==9)=false)∧((s[p'].toNat:Int)==13)=false):=by assumption
    have hns:¬(s[p']=32∨s[p']=9∨s[p']=13):=fun e=>e.elim (Ew 32 h2.1.1) fun e=>e.elim (Ew 9 h2.1.2) (Ew 13 h2.2)
    by_cases hsl:s[p']=47∧(s.data.toList.drop (p'+1)).head?=some 47
    ·
     have hpre:=au (show Lib.hasPrefix (s.extract p' s.size).data.toList [47,47]=true by rw[qw,hdr.out,zq];exact decide_eq_true hsl)
     have HI:Hid (gY true (s.data.toList.drop p') p' l' f'=gY false (s.data.toList.drop p) p l f):=by
      rw[←HE.o,hdr.out,LY hsl];exact rfl
     clear hsl HE
     go_wp2
     go_quiet ((go_at_call 155;exact(ES _ true hpre.out _).mono fun _ _ h=>⟨h.1,_,h.2.symm⟩))
     go_wp2
     obtain⟨wo,rfl⟩:=aN wr
     obtain⟨g0,rfl⟩:∃g:Nat,g=gk:=⟨_,rfl⟩
     go_loopg [] s.size (fun g wi=>∃p2:Nat,s.size-p2≤g∧p2≤s.size∧p'≤p2∧gY true (s.data.toList.drop p2) p2 l' f'=gY false (s.data.toList.drop p) p l f∧Cut wi b s p2 l' f'∧Step (·=b) w wi)
     case atStart=>exact⟨p',by omega,by omega,Nat.le_refl _,HI.o,(hc.drewN _).drewN _,(hst.drewN _).drewN _⟩
     case round=>
      clear c0 c1 c2 c3 f0 f1 f2 f3 hlt hc hst
      obtain⟨p2,hg2,hp2,hpp,heq2,hc,hst⟩:=hrel
      have HE2:=au heq2
      clear heq2
      obtain⟨c0,c1,c2,c3,f0,f1,f2,f3⟩:=hc.cells
      have hlt:b<wr.heap.size:=aK hc.out
      by_cases hlt2:p2<s.size
      ·
       have hdr2:=au (drop_cons s p2 hlt2)
       by_cases h10:s[p2]=10
       ·
        have hb10:((s[p2].toNat:Int)==10)=true:=by rw[h10];rfl
        have hpp2:p'<p2:=by
         rcases Nat.lt_or_ge p' p2 with h|h
         ·
          exact h
         ·
          have:p'=p2:=by omega
          subst this
          exact absurd h10 hn10
        have H10:=au h10
        clear h10
        go_wp2
        go_quiet (fail)
        go_wp2
        go_roundg (g0-1)
        case rel=>
         refine⟨p2,l',f',by omega,by omega,by omega,by omega,?_,hc.drewN _,hst.drewN _⟩
         rw[←HE2.o,hdr2.out,OE H10.o]
        case measure=>omega
       ·
        have hb10:((s[p2].toNat:Int)==10)=false:=by rw[beq_eq_false_iff_ne];exact fun e=>h10 (lM 10 e)
        have H10:=au h10
        clear h10
        go_wp2
        go_quiet (fail)
        go_wp2
        go_roundg (gk-1)
        case rel=>
         refine⟨p2+1,by omega,by omega,by omega,?_,(hc.drewN _).set1 (q:=p2+1) om,?_⟩
         ·
          rw[←HE2.o,hdr2.out,gY,if_neg H10.o]
         ·
          (repeat (with_reducible (first|exact hst|exact Step.refl _ _|refine Step.drew ?_|refine Step.drewN ?_ _|refine Step.alloc ?_ _|refine Step.setCell ?_ _ _ iW)))
        case measure=>omega
      ·
       go_wp2
       go_quiet (fail)
       go_wp2
       go_roundg (g0-1)
       case rel=>
        refine⟨p2,l',f',by omega,by omega,by omega,by omega,?_,hc.drewN _,hst.drewN _⟩
        rw[←HE2.o,List.drop_of_length_le (by simp;omega)];rfl
       case measure=>omega
    ·
     have hpre:=au (show Lib.hasPrefix (s.extract p' s.size).data.toList [47,47]=false by rw[qw,hdr.out,zq];exact decide_eq_false hsl)
     have HS:=au hsl
     clear hsl
     go_wp2
     go_quiet ((go_at_call 155;exact(ES _ false hpre.out _).mono fun _ _ h=>⟨h.1,_,h.2.symm⟩))
     go_wp2
     refine bodyPost_ret (results_none rfl _ _ _) rfl ?_
     refine⟨rfl,p',l',f',?_,(hc.drewN _).drewN _,(hst.drewN _).drewN _⟩
     rw[←HE.o,hdr.out,LX hn10 hns HS.o]
  ·
   go_wp2
   go_quiet (fail)
   go_wp2
   go_end0
   refine⟨rfl,p',l',f',?_,hc.drewN _,hst.drewN _⟩
   rw[←HE.o,List.drop_of_length_le (by simp;omega)];rfl
def Qz (c:UInt8):Bool:=lK c.toNat
def ku (l:List UInt8):Nat:=(l.takeWhile Qz).length
theorem U0:ku []=0:=rfl
theorem EU {c:UInt8} {r:List UInt8} (h:Qz c=true):ku (c::r)=ku r+1:=by simp[ku,h]
theorem QA {c:UInt8} {r:List UInt8} (h:Qz c=false):ku (c::r)=0:=by simp[ku,h]
theorem og (l:List UInt8):ku l≤l.length:=by
 induction l with
 |nil=>simp[ku]
 |cons c r ih=>
  cases h:Qz c
  ·rw[QA h];omega
  ·rw[EU h];simp;omega
structure Tests (k:Nat):Prop where
 enter:∀(xs:Array Value) (w:World),Sem.run Tryz.prog (callFunc k xs) w=.ok (.enter k xs) w
 test:∀(a:Int) (w:World),0≤a→a≤255→Calls Tryz.prog k #[.int .u8 a] w fun e w'=>e=.returned (.bool (lK a))∧w=w'
theorem EW:Tests 216:=⟨fun xs w=>by go_simp,fun a w=>RU a w⟩
theorem vT:Tests 217:=⟨fun xs w=>by go_simp,fun a w=>RV a w⟩
theorem vU:Tests 218:=⟨fun xs w=>by go_simp,fun a w=>LW a w⟩
theorem run_any (k b:Nat) (s:ByteArray) (p l f:Nat) (w:World) (hk:Tests k) (h:Cut w b s p l f) (hp:p≤s.size) (hs:s.size≤100000):
  Calls Tryz.prog 215 #[.pointer (some ⟨b,0,none⟩),.func (.func k) #[] #[]] w fun e w'=>
   e=.returned (.string (s.extract p (p+ku (s.data.toList.drop p))))∧Cut w' b s (p+ku (s.data.toList.drop p)) l f∧Step (·=b) w w':=by
 obtain⟨c0,c1,c2,c3,f0,f1,f2,f3⟩:=h.cells
 have hlt:b<w.heap.size:=aK h.out
 have hen:=hk.enter
 have HK:=au hk.test
 clear hk
 go_enter Tryz.func215,Tryz.ntmps215
 go_wp2
 clear c0 c1 c2 c3 f0 f1 f2 f3 hlt
 go_loopg [] s.size (fun g wr=>∃p':Nat,s.size-p'≤g∧p'≤s.size∧p≤p'∧p'+ku (s.data.toList.drop p')=p+ku (s.data.toList.drop p)∧Cut wr b s p' l f∧Step (·=b) w wr)
 case atStart=>exact⟨p,by omega,hp,Nat.le_refl _,rfl,h,Step.refl _ _⟩
 case round=>
  obtain⟨p',hg,hp',hpp,heq,hc,hst⟩:=hrel
  have HE:=au heq
  clear heq
  obtain⟨c0,c1,c2,c3,f0,f1,f2,f3⟩:=hc.cells
  have hlt:b<wr.heap.size:=aK hc.out
  by_cases hlt':p'<s.size
  ·
   have hdr:=au (drop_cons s p' hlt')
   have iM:((s[p'].toNat:Int))≤255:=by have:=s[p'].toNat_lt;omega
   cases hw:lK (s[p'].toNat:Int)
   ·
    have hq:=HK.o (s[p'].toNat:Int)
    rw[hw]at hq
    have HQ:=au hq
    have HW:=au hw
    clear hq hw
    go_wp2
    go_quiet ((exact(HQ.o _ om iM).mono fun _ _ h=>⟨h.1,_,h.2.symm⟩))
    go_wp2
    go_quiet (fail)
    go_wp2
    go_ret
    rw[←HE.o,hdr.out,QA HW.o]
    exact⟨rfl,(hc.drewN _).drewN _,(hst.drewN _).drewN _⟩
   ·
    have hq:=HK.o (s[p'].toNat:Int)
    rw[hw]at hq
    have HQ:=au hq
    have HW:=au hw
    clear hq hw
    go_wp2
    go_quiet ((exact(HQ.o _ om iM).mono fun _ _ h=>⟨h.1,_,h.2.symm⟩))
    go_wp2
    go_roundg (gk-1)
    case rel=>
     refine⟨p'+1,by omega,by omega,by omega,?_,(hc.drewN _).set1 (q:=p'+1) om,?_⟩
     ·
      rw[←HE.o,hdr.out,EU HW.o];omega
     ·
      (repeat (with_reducible (first|exact hst|exact Step.refl _ _|refine Step.drew ?_|refine Step.drewN ?_ _|refine Step.alloc ?_ _|refine Step.setCell ?_ _ _ iW)))
    case measure=>omega
  ·
   go_wp2
   go_quiet (fail)
   go_wp2
   go_quiet (fail)
   go_wp2
   go_ret
   have:s.data.toList.drop p'=[]:=List.drop_of_length_le (by simp;omega)
   rw[←HE.o,this,U0]
   exact⟨rfl,(hc.drewN _).drewN _,(hst.drewN _).drewN _⟩
theorem vV {w:World} {b t:Nat} {a0 a1 a2 a3 a4:Value} (h:w.heap[b]?=some (.cells #[a0,a1,a2,a3,a4] t (0,0))):(w.cell? ⟨b,0,none⟩=some a0∧w.cell? ⟨b,1,none⟩=some a1∧w.cell? ⟨b,2,none⟩=some a2∧w.cell? ⟨b,3,none⟩=some a3∧w.cell? ⟨b,4,none⟩=some a4)∧(w.frozen? ⟨b,0,none⟩=false∧w.frozen? ⟨b,1,none⟩=false∧w.frozen? ⟨b,2,none⟩=false∧w.frozen? ⟨b,3,none⟩=false∧w.frozen? ⟨b,4,none⟩=false):=
 ⟨⟨aj h 0 _ rfl,aj h 1 _ rfl,aj h 2 _ rfl,aj h 3 _ rfl,aj h 4 _ rfl⟩,⟨aI h 0,aI h 1,aI h 2,aI h 3,aI h 4⟩⟩
theorem RY (w:World) (r b:Nat) (v0 v1 v2 v3 v4:Value) (hr:b≠r):(((((w.setCell ⟨r,0,none⟩ v0).setCell ⟨r,1,none⟩ v1).setCell ⟨r,2,none⟩ v2).setCell ⟨r,3,none⟩ v3).setCell ⟨r,4,none⟩ v4).heap[b]?=w.heap[b]?:=by rw[Below.heap_setCell _ _ _ _ hr,Below.heap_setCell _ _ _ _ hr,Below.heap_setCell _ _ _ _ hr,Below.heap_setCell _ _ _ _ hr,Below.heap_setCell _ _ _ _ hr]
theorem Cut.five {w:World} {b r:Nat} {s:ByteArray} {p l f:Nat} {v0 v1 v2 v3 v4:Value} (h:Cut w b s p l f) (hr:b≠r):Cut (((((w.setCell ⟨r,0,none⟩ v0).setCell ⟨r,1,none⟩ v1).setCell ⟨r,2,none⟩ v2).setCell ⟨r,3,none⟩ v3).setCell ⟨r,4,none⟩ v4) b s p l f:=⟨by rw[RY _ _ _ _ _ _ _ _ hr];exact h.out⟩
theorem Step.five {S:Nat→Prop} {a w:World} {r:Nat} {v0 v1 v2 v3 v4:Value} (h:Step S a w) (hr:a.heap.size≤r):Step S a (((((w.setCell ⟨r,0,none⟩ v0).setCell ⟨r,1,none⟩ v1).setCell ⟨r,2,none⟩ v2).setCell ⟨r,3,none⟩ v3).setCell ⟨r,4,none⟩ v4):=by have hq:∀i,(⟨r,i,none⟩:Addr).block<a.heap.size→S r:=fun i h=>absurd h (Nat.not_lt.2 hr);exact((((h.setCell _ _ (hq 0)).setCell _ _ (hq 1)).setCell _ _ (hq 2)).setCell _ _ (hq 3)).setCell _ _ (hq 4)
theorem Step.iZ {S:Nat→Prop} {w w':World} {o:Obj} (h:Step S (w.alloc o) w'):Step S w w':=((Step.refl S w).alloc o).trans h
theorem Step.Jw {w w':World} {b i:Nat} {v:Value} (h:Step (·=b) (w.setCell ⟨b,i,none⟩ v) w'):Step (·=b) w w':=
 ((Step.refl (·=b) w).setCell ⟨b,i,none⟩ v iW).trans h
structure Gives (k:Nat) (F:List UInt8→Except Nat (Nat×Nat×Nat)) (G:List UInt8→Prop):Prop where
 ok:∀(b:Nat) (s:ByteArray) (p l f:Nat) (w:World) (kind n val:Nat) (m:Int),Cut w b s p l f→p<s.size→s.size≤100000→w.cell? ⟨0,0,none⟩=some (.int .i64 m)→b≠0→G (s.data.toList.drop p)→
  F (s.data.toList.drop p)=.ok (kind,n,val)→
  Calls Tryz.prog k #[.pointer (some ⟨b,0,none⟩)] w fun e w'=>
   e=.returned (.tuple #[.agg #[ak kind,a_ (s.extract p (p+n)),ak 0,ak 0,cO val],ak 0])∧Cut w' b s (p+n) l f∧Step (·=b) w w'
 bad:∀(b:Nat) (s:ByteArray) (p l f:Nat) (w:World) (c:Nat) (m:Int),Cut w b s p l f→p<s.size→s.size≤100000→w.cell? ⟨0,0,none⟩=some (.int .i64 m)→b≠0→G (s.data.toList.drop p)→
  F (s.data.toList.drop p)=.error c→
  Calls Tryz.prog k #[.pointer (some ⟨b,0,none⟩)] w fun e w'=>
   e=.returned (.tuple #[.agg #[ak 0,di,ak 0,ak 0,cO 0],ak c])∧Step (·=b) w w'
def DR (l:List UInt8):Except Nat (Nat×Nat×Nat):=if 24<ku l then .error 2 else .ok (1,ku l,0)
theorem extract_size (s:ByteArray) (p n:Nat) (h:p+n≤s.size):(s.extract p (p+n)).size=n:=by rw[ByteArray.size_extract];omega
theorem YS (b:Nat) (s:ByteArray) (p l f:Nat) (w:World) (h:Cut w b s p l f) (hp:p<s.size) (hs:s.size≤100000) (hn:ku (s.data.toList.drop p)≤24):
  Calls Tryz.prog 201 #[.pointer (some ⟨b,0,none⟩)] w fun e w'=>
   e=.returned (.tuple #[.agg #[ak 1,a_ (s.extract p (p+ku (s.data.toList.drop p))),ak 0,ak 0,cO 0],ak 0])∧Cut w' b s (p+ku (s.data.toList.drop p)) l f∧Step (·=b) w w':=by
 have hlt:b<w.heap.size:=aK h.out
 have hrl:p+ku (s.data.toList.drop p)≤s.size:=by have:=og (s.data.toList.drop p);simp at this;omega
 go_enter Tryz.func201,Tryz.ntmps201
 go_wp2_with fail
 refine(run_any _ _ _ _ _ _ _ EW (h.alloc _) (Nat.le_of_lt hp) hs).mono ?_
 rintro e w1 ⟨rfl,hc,hst⟩
 have hsz:=extract_size s p _ hrl
 generalize hN:ku (s.data.toList.drop p)=N at*
 have hr:=vV (hst.keep (aC w _) om)
 obtain⟨⟨d0,d1,d2,d3,d4⟩,e0,e1,e2,e3,e4⟩:=hr
 have hNN:=au hN
 clear hN
 go_wp2
 refine bodyPost_ret (v:=.tuple #[.agg #[ak 1,a_ (s.extract p (p+N)),ak 0,ak 0,cO 0],ak 0]) (by simp[results,Tryz.results201,go_sem,d0,d1,d2,d3,d4]) rfl ⟨by rw[hNN.out],?_,?_⟩
 ·
  rw[hNN.out];exact hc.five om
 ·
  exact hst.iZ.five (Nat.le_refl _)
theorem U1 (b:Nat) (s:ByteArray) (p l f:Nat) (w:World) (h:Cut w b s p l f) (hp:p<s.size) (hs:s.size≤100000) (hn:24<ku (s.data.toList.drop p)):
  Calls Tryz.prog 201 #[.pointer (some ⟨b,0,none⟩)] w fun e w'=>
   e=.returned (.tuple #[.agg #[ak 0,di,ak 0,ak 0,cO 0],ak 2])∧Step (·=b) w w':=by
 have hlt:b<w.heap.size:=aK h.out
 have hrl:p+ku (s.data.toList.drop p)≤s.size:=by have:=og (s.data.toList.drop p);simp at this;omega
 go_enter Tryz.func201,Tryz.ntmps201
 go_wp2_with fail
 refine(run_any _ _ _ _ _ _ _ EW (h.alloc _) (Nat.le_of_lt hp) hs).mono ?_
 rintro e w1 ⟨rfl,hc,hst⟩
 have hsz:=extract_size s p _ hrl
 generalize hN:ku (s.data.toList.drop p)=N at*
 obtain⟨⟨d0,d1,d2,d3,d4⟩,e0,e1,e2,e3,e4⟩:=vV (hst.keep (aC w _) om)
 clear hN
 go_wp2
 refine bodyPost_ret (v:=.tuple #[.agg #[ak 0,di,ak 0,ak 0,cO 0],ak 2]) (by simp[results,Tryz.results201,go_sem,d0,d1,d2,d3,d4]) rfl ⟨rfl,?_⟩
 exact hst.iZ.five (Nat.le_refl _)
theorem EX:Gives 201 DR (fun _=>True) where
 ok b s p l f w kind n val m h hp hs _ _ _ he:=by
  unfold DR at he
  split at he
  ·
   simp at he
  ·
   simp at he
   obtain⟨rfl,rfl,rfl⟩:=he
   exact YS b s p l f w h hp hs om
 bad b s p l f w c m h hp hs _ _ _ he:=by
  unfold DR at he
  split at he
  ·
   simp at he
   subst he
   exact U1 b s p l f w h hp hs om
  ·
   simp at he
def DT:List UInt8→Except Nat (Nat×Nat×Nat)
 |[]=>.error 1
 |_::r=>if ku r=0∨qh ((r.headD 0).toNat:Int)=false then .error 1 else if 24<ku r then .error 2 else .ok (2,ku r+1,0)
theorem jE (s:ByteArray) (p n:Nat):(s.extract p (p+n)).data.toList=(s.data.toList.drop p).take n:=by rw[Lib.extract_data,Nat.add_sub_cancel_left]
theorem jL (t:ByteArray) (h:0<t.size):¬t.toList=[]:=by intro e;rw[Lib.toList_data]at e;rw[Lib.size_eq,e]at h;exact absurd h (by simp)
theorem jA (t:ByteArray) (h:0<t.size):t.toList.isEmpty=false:=by
 cases e:t.toList.isEmpty
 ·rfl
 ·exact absurd (List.isEmpty_iff.1 e) (jL t h)
theorem Ey {a b:ByteArray} (h:a.data.toList=b.data.toList):a=b:=by have:a.data=b.data:=Array.toList_inj.1 h;cases a;cases b;simp at this;rw[this]
theorem lY (t:ByteArray) (i:Nat) (h:i<t.size):t[i]=t.data.toList.getD i 0:=by
 have h':i<t.data.toList.length:=by simpa using h
 rw[List.getD_eq_getElem?_getD,List.getElem?_eq_getElem h'];rfl
theorem EY (s:ByteArray) (p n:Nat) (hn:0<n) (h:0<(s.extract p (p+n)).size):(s.extract p (p+n))[0]=(s.data.toList.drop p).headD 0:=by
 rw[lY _ 0 h,jE];cases hd:s.data.toList.drop p with
 |nil=>simp
 |cons c r=>cases n with
  |zero=>omega
  |succ n=>rfl
theorem RZ (s:ByteArray) (p N:Nat) (hp:p<s.size) (R_:(s.data.toList.drop p).headD 0=39):(⟨#[39]⟩:ByteArray)++s.extract (p+1) (p+1+N)=s.extract p (p+(N+1)):=by apply Ey;rw[jE,drop_cons s p hp,List.take_succ_cons,ByteArray.data_append,Array.toList_append,jE];rw[drop_cons s p hp]at R_;simp at R_;rw[R_];rfl
theorem YT (b:Nat) (s:ByteArray) (p l f N:Nat) (w:World) (h:Cut w b s p l f) (hp:p<s.size) (hs:s.size≤100000) (hN:ku (s.data.toList.drop (p+1))=N) (R_:(s.data.toList.drop p).headD 0=39) (hpos:0<N) (hn:N≤24) (hsm:qh (((s.data.toList.drop (p+1)).headD 0).toNat:Int)=true):
  Calls Tryz.prog 202 #[.pointer (some ⟨b,0,none⟩)] w fun e w'=>
   e=.returned (.tuple #[.agg #[ak 2,a_ (s.extract p (p+(N+1))),ak 0,ak 0,cO 0],ak 0])∧Cut w' b s (p+(N+1)) l f∧Step (·=b) w w':=by
 have hlt:b<w.heap.size:=aK h.out
 obtain⟨c0,c1,c2,c3,f0,f1,f2,f3⟩:=h.cells
 have hrl:p+1+N≤s.size:=by have:=og (s.data.toList.drop (p+1));simp at this;omega
 have HN:=au hN
 clear hN
 go_enter Tryz.func202,Tryz.ntmps202
 go_wp2_with fail
 refine(run_any _ b s (p+1) l f _ vT ((h.set1 (q:=p+1) om).alloc _) om hs).mono ?_
 rintro e w1 ⟨rfl,hc,hst⟩
 rw[HN.o]at hc⊢
 have hsz:=extract_size s (p+1) N hrl
 generalize ht:s.extract (p+1) (p+1+N)=t at*
 obtain⟨⟨d0,d1,d2,d3,d4⟩,e0,e1,e2,e3,e4⟩:=vV (hst.keep (tC _ _ _ _) om)
 have h0:0<t.size:=by omega
 have HQC:Hid ((⟨#[39]⟩:ByteArray)++t=s.extract p (p+(N+1))):=by subst ht;exact RZ s p N hp R_
 clear R_
 have hh:t[0]=(s.data.toList.drop (p+1)).headD 0:=by subst ht;exact EY s (p+1) N hpos h0
 have hte:=jL t h0
 have hte':=jA t h0
 have iM:((t[0].toNat:Int))≤255:=by have:=t[0].toNat_lt;omega
 have hq:=yO (t[0].toNat:Int)
 rw[hh]at hq
 rw[hsm,←hh]at hq
 have HQ:=au hq
 have HT:=au ht
 clear ht hh hq hsm
 go_wp2_with (go_at_call 214;refine(HQ.o _ om iM).mono ?_;rintro e w' ⟨rfl,rfl⟩)
 rw[HQC.o]
 refine bodyPost_ret (v:=.tuple #[.agg #[ak 2,a_ (s.extract p (p+(N+1))),ak 0,ak 0,cO 0],ak 0]) (by simp[results,Tryz.results202,go_sem,d0,d1,d2,d3,d4]) rfl ⟨rfl,?_,?_⟩
 ·
  have:=hc.five (r:=w.heap.size) (v0:=.int .i64 2) (v1:=.string (s.extract p (p+(N+1)))) (v2:=.int .i64 0) (v3:=.int .i64 0) (v4:=.int .u64 0) om
  rw[show p+(N+1)=p+1+N by omega]at this⊢;exact this
 ·
  exact hst.iZ.Jw.five (Nat.le_refl _)
theorem Si (b:Nat) (s:ByteArray) (p l f N:Nat) (w:World) (h:Cut w b s p l f) (hp:p<s.size) (hs:s.size≤100000) (hN:ku (s.data.toList.drop (p+1))=N) (hn:24<N) (hsm:qh (((s.data.toList.drop (p+1)).headD 0).toNat:Int)=true):
  Calls Tryz.prog 202 #[.pointer (some ⟨b,0,none⟩)] w fun e w'=>
   e=.returned (.tuple #[.agg #[ak 0,di,ak 0,ak 0,cO 0],ak 2])∧Step (·=b) w w':=by
 have hlt:b<w.heap.size:=aK h.out
 obtain⟨c0,c1,c2,c3,f0,f1,f2,f3⟩:=h.cells
 have hrl:p+1+N≤s.size:=by have:=og (s.data.toList.drop (p+1));simp at this;omega
 have HN:=au hN
 clear hN
 go_enter Tryz.func202,Tryz.ntmps202
 go_wp2_with fail
 refine(run_any _ b s (p+1) l f _ vT ((h.set1 (q:=p+1) om).alloc _) om hs).mono ?_
 rintro e w1 ⟨rfl,hc,hst⟩
 rw[HN.o]at hc⊢
 have hsz:=extract_size s (p+1) N hrl
 generalize ht:s.extract (p+1) (p+1+N)=t at*
 obtain⟨⟨d0,d1,d2,d3,d4⟩,e0,e1,e2,e3,e4⟩:=vV (hst.keep (tC _ _ _ _) om)
 have h0:0<t.size:=by omega
 have hh:t[0]=(s.data.toList.drop (p+1)).headD 0:=by subst ht;exact EY s (p+1) N om h0
 have hte:=jL t h0
 have hte':=jA t h0
 have iM:((t[0].toNat:Int))≤255:=by have:=t[0].toNat_lt;omega
 have hq:=yO (t[0].toNat:Int)
 rw[hh]at hq
 rw[hsm,←hh]at hq
 have HQ:=au hq
 clear ht hh hq hsm
 go_wp2_with (go_at_call 214;refine(HQ.o _ om iM).mono ?_;rintro e w' ⟨rfl,rfl⟩)
 refine bodyPost_ret (v:=.tuple #[.agg #[ak 0,di,ak 0,ak 0,cO 0],ak 2]) (by simp[results,Tryz.results202,go_sem,d0,d1,d2,d3,d4]) rfl ⟨rfl,?_⟩
 exact hst.iZ.Jw.five (Nat.le_refl _)
theorem U2 (b:Nat) (s:ByteArray) (p l f N:Nat) (w:World) (h:Cut w b s p l f) (hp:p<s.size) (hs:s.size≤100000) (hN:ku (s.data.toList.drop (p+1))=N) (hn:0<N) (hsm:qh (((s.data.toList.drop (p+1)).headD 0).toNat:Int)=false):
  Calls Tryz.prog 202 #[.pointer (some ⟨b,0,none⟩)] w fun e w'=>
   e=.returned (.tuple #[.agg #[ak 0,di,ak 0,ak 0,cO 0],ak 1])∧Step (·=b) w w':=by
 have hlt:b<w.heap.size:=aK h.out
 obtain⟨c0,c1,c2,c3,f0,f1,f2,f3⟩:=h.cells
 have hrl:p+1+N≤s.size:=by have:=og (s.data.toList.drop (p+1));simp at this;omega
 have HN:=au hN
 clear hN
 go_enter Tryz.func202,Tryz.ntmps202
 go_wp2_with fail
 refine(run_any _ b s (p+1) l f _ vT ((h.set1 (q:=p+1) om).alloc _) om hs).mono ?_
 rintro e w1 ⟨rfl,hc,hst⟩
 rw[HN.o]at hc⊢
 have hsz:=extract_size s (p+1) N hrl
 generalize ht:s.extract (p+1) (p+1+N)=t at*
 obtain⟨⟨d0,d1,d2,d3,d4⟩,e0,e1,e2,e3,e4⟩:=vV (hst.keep (tC _ _ _ _) om)
 have h0:0<t.size:=by omega
 have hh:t[0]=(s.data.toList.drop (p+1)).headD 0:=by subst ht;exact EY s (p+1) N om h0
 have hte:=jL t h0
 have hte':=jA t h0
 have iM:((t[0].toNat:Int))≤255:=by have:=t[0].toNat_lt;omega
 have hq:=yO (t[0].toNat:Int)
 rw[hh]at hq
 rw[hsm,←hh]at hq
 have HQ:=au hq
 clear ht hh hq hsm
 go_wp2_with (go_at_call 214;refine(HQ.o _ om iM).mono ?_;rintro e w' ⟨rfl,rfl⟩)
 refine bodyPost_ret (v:=.tuple #[.agg #[ak 0,di,ak 0,ak 0,cO 0],ak 1]) (by simp[results,Tryz.results202,go_sem,d0,d1,d2,d3,d4]) rfl ⟨rfl,?_⟩
 exact hst.iZ.Jw.five (Nat.le_refl _)
theorem Sj (b:Nat) (s:ByteArray) (p l f:Nat) (w:World) (h:Cut w b s p l f) (hp:p<s.size) (hs:s.size≤100000) (hN:ku (s.data.toList.drop (p+1))=0):
  Calls Tryz.prog 202 #[.pointer (some ⟨b,0,none⟩)] w fun e w'=>
   e=.returned (.tuple #[.agg #[ak 0,di,ak 0,ak 0,cO 0],ak 1])∧Step (·=b) w w':=by
 have hlt:b<w.heap.size:=aK h.out
 obtain⟨c0,c1,c2,c3,f0,f1,f2,f3⟩:=h.cells
 have HN:=au hN
 clear hN
 go_enter Tryz.func202,Tryz.ntmps202
 go_wp2_with fail
 refine(run_any _ b s (p+1) l f _ vT ((h.set1 (q:=p+1) om).alloc _) om hs).mono ?_
 rintro e w1 ⟨rfl,hc,hst⟩
 rw[HN.o]at hc⊢
 have ht:s.extract (p+1) (p+1+0)=⟨#[]⟩:=Ey (by rw[jE];rfl)
 rw[ht]
 obtain⟨⟨d0,d1,d2,d3,d4⟩,e0,e1,e2,e3,e4⟩:=vV (hst.keep (tC _ _ _ _) om)
 clear ht
 go_wp2
 refine bodyPost_ret (v:=.tuple #[.agg #[ak 0,di,ak 0,ak 0,cO 0],ak 1]) (by simp[results,Tryz.results202,go_sem,d0,d1,d2,d3,d4]) rfl ⟨rfl,?_⟩
 exact hst.iZ.Jw.five (Nat.le_refl _)
theorem EZ:Gives 202 DT (fun l=>l.headD 0=39) where
 ok b s p l f w kind n val m h hp hs _ _ R_ he:=by
  have hd:=drop_cons s p hp
  rw[hd,DT]at he
  split at he
  ·
   simp at he
  ·
   rename_i h1
   split at he
   ·
    simp at he
   ·
    simp at he
    obtain⟨rfl,rfl,rfl⟩:=he
    refine YT b s p l f _ w h hp hs rfl R_ ?_ om ?_
    ·
     rcases Nat.eq_zero_or_pos (ku (s.data.toList.drop (p+1)))with e|e
     ·
      exact absurd (.inl e) h1
     ·
      exact e
    ·
     cases e:qh (((s.data.toList.drop (p+1)).headD 0).toNat:Int)
     ·
      exact absurd (.inr e) h1
     ·
      rfl
 bad b s p l f w c m h hp hs _ _ R_ he:=by
  have hd:=drop_cons s p hp
  rw[hd,DT]at he
  by_cases h0:ku (s.data.toList.drop (p+1))=0
  ·
   rw[if_pos (.inl h0)]at he
   simp at he;subst he
   exact Sj b s p l f w h hp hs h0
  ·
   cases e:qh (((s.data.toList.drop (p+1)).headD 0).toNat:Int)
   ·
    rw[if_pos (.inr e)]at he
    simp at he;subst he
    exact U2 b s p l f _ w h hp hs rfl om e
   ·
    rw[if_neg (fun x=>x.elim h0 (by rw[e];simp))]at he
    split at he
    ·
     simp at he;subst he
     exact Si b s p l f _ w h hp hs rfl om e
    ·
     simp at he
def LZ (c:UInt8):Option Nat:=if isDigit c.toNat then some (c.toNat-48)else if 97≤c.toNat∧c.toNat≤102 then some (c.toNat-87)else none
theorem hex_ok (c:UInt8) (v:Nat) (w:World) (h:LZ c=some v):Calls Tryz.prog 219 #[.int .u8 (c.toNat:Int)] w fun e w'=>e=.returned (.tuple #[cO v,dW true])∧w=w':=by
 have hb:(c.toNat:Int)≤255:=by have:=c.toNat_lt;omega
 unfold LZ at h;cases hd:isDigit (c.toNat:Int)
 ·rw[if_neg (by simp[hd])]at h;split at h
  ·rename_i hr;simp at h;(have hr1:(97:Int)≤c.toNat:=by omega);(have hr2:(c.toNat:Int)≤102:=by omega);(have HV:Hid ((c.toNat:Int)-97+10=v):=show _=_ by omega);clear h hr;have hq:=jZ (c.toNat:Int);rw[hd]at hq;have HQ:=au hq;clear hq hd;go_enter Tryz.func219,Tryz.ntmps219;go_wp2_with (go_at_call 203;refine(HQ.o _ om hb).mono ?_;rintro e w' ⟨rfl,rfl⟩);go_ret2;exact⟨by rw[←HV.o];rfl,rfl⟩
  ·simp at h
 ·rw[if_pos (by simp[hd])]at h;simp at h;have h48:(48:Int)≤c.toNat∧(c.toNat:Int)≤57:=by simpa[isDigit]using hd
  obtain⟨h48,h57⟩:=h48;have HV:Hid ((c.toNat:Int)-48=v):=show _=_ by omega
  clear h;have hq:=jZ (c.toNat:Int);rw[hd]at hq;have HQ:=au hq;clear hq hd;go_enter Tryz.func219,Tryz.ntmps219;go_wp2_with (go_at_call 203;refine(HQ.o _ om hb).mono ?_;rintro e w' ⟨rfl,rfl⟩);go_ret2;exact⟨by rw[←HV.o];rfl,rfl⟩
theorem YV (c:UInt8) (w:World) (h:LZ c=none):Calls Tryz.prog 219 #[.int .u8 (c.toNat:Int)] w fun e w'=>e=.returned (.tuple #[cO 0,aT])∧w=w':=by
 have hb:(c.toNat:Int)≤255:=by have:=c.toNat_lt;omega
 unfold LZ at h;cases hd:isDigit (c.toNat:Int)
 ·rw[if_neg (by simp[hd])]at h;have hr:¬(97≤c.toNat∧c.toNat≤102):=by intro e;rw[if_pos e]at h;simp at h
  have hq:=jZ (c.toNat:Int);rw[hd]at hq;have HQ:=au hq;clear hq hd h;by_cases h97:(97:Int)≤c.toNat
  ·(have h102:(102:Int)<c.toNat:=by omega);clear hr;go_enter Tryz.func219,Tryz.ntmps219;go_wp2_with (go_at_call 203;refine(HQ.o _ om hb).mono ?_;rintro e w' ⟨rfl,rfl⟩);go_ret2;exact⟨rfl,rfl⟩
  ·clear hr;go_enter Tryz.func219,Tryz.ntmps219;go_wp2_with (go_at_call 203;refine(HQ.o _ om hb).mono ?_;rintro e w' ⟨rfl,rfl⟩);go_ret2;exact⟨rfl,rfl⟩
 ·rw[if_pos (by simp[hd])]at h;simp at h
def CS:Nat→List UInt8→Option Nat
 |v,[]=>some v
 |v,c::r=>match LZ c with
  |some x=>CS (v*16+x) r
  |none=>none
def uh (c0:UInt8):List UInt8→Nat→Nat→Except Nat Nat
 |[],_,v=>.ok v
 |c::r,i,v=>
  if isDigit c.toNat=false∨(i=1∧c0=48)then .error 1
  else if 9223372036854775807<v*10+(c.toNat-48)then .error 2
  else uh c0 r (i+1) (v*10+(c.toNat-48))
def U3 (l:List UInt8):Except Nat (Nat×Nat×Nat):=
 if l.length=18∧l.take 2=[48,102]then
  match CS 0 (l.drop 2)with
  |some v=>.ok (4,l.length,v)
  |none=>.error 1
 else match uh (l.headD 0) l 0 0 with
  | .ok v=>.ok (3,l.length,v)
  | .error c=>.error c
def tH (l:List UInt8):Except Nat (Nat×Nat×Nat):=U3 (l.take (ku l))
theorem YW {c:UInt8} {x:Nat} (h:LZ c=some x):x<16:=by
 unfold LZ at h;split at h
 ·rename_i hd;have:(48:Int)≤c.toNat∧(c.toNat:Int)≤57:=by simpa[isDigit]using hd
  simp at h;omega
 ·split at h
  ·simp at h;omega
  ·simp at h
theorem or_hex (v x:Nat) (hv:v<1152921504606846976) (hx:x<16):bits BinOp.or IntKind.u64 ((v:Int)*16) x=((v*16+x:Nat):Int):=by
 rw[show((v:Int)*16)=((v*16:Nat):Int) by omega,bits_or_u64_nat _ _ om om];have:v*16|||x=v*16+x:=by have:=Nat.shiftLeft_add_eq_or_of_lt (show x<2^4 by omega) v;rw[Nat.shiftLeft_eq]at this;exact this.symm
 rw[this]
theorem E5 (l:List UInt8) (i:Nat) (h:i<l.length):l.drop i=l.getD i 0::l.drop (i+1):=by rw[List.drop_eq_getElem_cons h,List.getD_eq_getElem?_getD,List.getElem?_eq_getElem h];rfl
def oq (n b:Nat) (s:ByteArray) (p l f:Nat) (w:World) (r:Except Nat (Nat×Nat)) (e:Ending) (w':World):Prop:=
 (match r with
  | .ok (k,v)=>e=.returned (.tuple #[.agg #[ak k,a_ (s.extract p (p+n)),ak 0,ak 0,cO v],ak 0])∧Cut w' b s (p+n) l f
  | .error c=>e=.returned (.tuple #[.agg #[ak 0,di,ak 0,ak 0,cO 0],ak c]))∧Step (·=b) w w'
def floatR:Option Nat→Except Nat (Nat×Nat)
 |some v=>.ok (4,v)
 |none=>.error 1
theorem Az (b:Nat) (s:ByteArray) (p l f:Nat) (w:World) (h:Cut w b s p l f) (hp:p<s.size) (hs:s.size≤100000) (hN:ku (s.data.toList.drop p)=18) (h2:((s.data.toList.drop p).take 18).take 2=[48,102]) (r:Option Nat) (hr:CS 0 (((s.data.toList.drop p).take 18).drop 2)=r):Calls Tryz.prog 204 #[.pointer (some ⟨b,0,none⟩)] w (oq 18 b s p l f w (floatR r)):=by
 have hlt:b<w.heap.size:=aK h.out;have hrl:p+18≤s.size:=by have:=og (s.data.toList.drop p);simp at this;omega
 have HN:=au hN;clear hN;go_enter Tryz.func204,Tryz.ntmps204;go_wp2_with fail;refine(run_any _ b s p l f _ vU (h.alloc _) om hs).mono ?_;rintro e w1 ⟨rfl,hc,hst⟩;rw[HN.o]at hc⊢;have hsz:=extract_size s p 18 hrl;have hL:=jE s p 18;rw[←hL]at h2 hr;generalize ht:s.extract p (p+18)=t at*;have hnb:=hst.keep (aC _ _) om;obtain⟨⟨d0,d1,d2,d3,d4⟩,e0,e1,e2,e3,e4⟩:=vV hnb;have hlt1:w.heap.size<w1.heap.size:=aK hnb;have HT:=au ht;have HR:=au hr;clear ht hL hr;have hs18:((t.size:Int)==18)=true:=by rw[hsz];rfl
 have hfm:((t.extract 0 2).toList==[48,102])=true:=by rw[beq_iff_eq,Lib.toList_data,Lib.extract_data];exact h2
 clear h2;go_wp2_with fail
 go_loopg [24] 16 (fun g s24 wr=>∃(i v:Nat),i≤16∧16-i≤g∧s24=.int .i64 i∧v<16^i∧CS v (t.data.toList.drop (2+i))=r∧
  wr=w1.alloc (.cells #[ak 4,a_ t,ak 0,ak 0,cO v] 157))
 case atStart=>exact⟨0,0,by omega,by omega,rfl,by omega,HR.o,rfl⟩
 case round=>
  obtain⟨i,v,hi,hg,rfl,hv,heq,rfl⟩:=hrel;have HE:=au heq;clear heq;have hv64:v≤18446744073709551615:=by have:=Nat.pow_le_pow_right (show 0<16 by omega) hi;omega
  by_cases hlt16:i<16
  ·(have U4:v<1152921504606846976:=by have:=Nat.pow_le_pow_right (show 0<16 by omega) (show i≤15 by omega);omega);have hgd:=lY t (2+i) om;have hdr:=E5 t.data.toList (2+i) (by rw[←Lib.size_eq];omega);rw[←hgd]at hdr;have HD:=au hdr;clear hdr hgd;cases hx:LZ t[2+i]with
   |none=>have HX:=au hx;clear hx;go_wp2_with (go_at_call 219;refine(YV _ _ HX.o).mono ?_;rintro e w' ⟨rfl,rfl⟩);(have hr0:r=none:=by rw[←HE.o,HD.o,CS,HX.o]);subst hr0;refine bodyPost_ret (v:=.tuple #[.agg #[ak 0,di,ak 0,ak 0,cO 0],ak 1]) (by simp[results,Tryz.results204,go_sem,d0,d1,d2,d3,d4,hlt1]) rfl ⟨rfl,?_⟩;exact(hst.iZ.five (Nat.le_refl _)).alloc _
   |some x=>
    have hx16:=YW hx;have HX:=au hx;clear hx;go_wp2_with (go_at_call 219;refine(hex_ok _ _ _ HX.o).mono ?_;rintro e w' ⟨rfl,rfl⟩);rw[or_hex v x U4 hx16];go_roundg (gk-1);case rel=>
     refine⟨i+1,v*16+x,by omega,by omega,by go_num,?_,?_,rfl⟩
     ·rw[Nat.pow_succ];omega
     ·rw[←HE.o,HD.o,CS,HX.o];rfl
    case measure=>omega
  ·(have hi16:i=16:=by omega);(have hr0:r=some v:=by rw[←HE.o,hi16,List.drop_of_length_le (by rw[←Lib.size_eq];omega)];rfl);have HR0:=au hr0;clear hr0 hi16;go_wp2;rw[HR0.o];refine bodyPost_ret (v:=.tuple #[.agg #[ak 4,a_ t,ak 0,ak 0,cO v],ak 0]) (by simp[results,Tryz.results204,go_sem,d0,d1,d2,d3,d4,hlt1]) rfl ⟨⟨by rw[HT.o];rfl,?_⟩,?_⟩
   ·exact(hc.five om).alloc _
   ·exact(hst.iZ.five (Nat.le_refl _)).alloc _
def intR:Except Nat Nat→Except Nat (Nat×Nat)
 | .ok v=>.ok (3,v)
 | .error c=>.error c
def AA (c0:UInt8) (i v:Nat):Prop:=i=0∧v=0∨(c0=48∧i=1∧v=0)∨(c0≠48∧1≤i∧10^(i-1)≤v)
theorem AA.big {c0:UInt8} {i v:Nat} (h:AA c0 i v) (h1:¬(i=1∧c0=48)) (_hv:v≤9223372036854775807) (h19:19≤i):1000000000000000000≤v:=by
 rcases h with⟨h,_⟩|⟨ha,hb,_⟩|⟨_,_,hc⟩
 ·omega
 ·exact absurd ⟨hb,ha⟩ h1
 ·have:=Nat.pow_le_pow_right (show 0<10 by omega) (show 18≤i-1 by omega);have e:(10:Nat)^18=1000000000000000000:=by decide
  omega
theorem AA.next {c0 c:UInt8} {i v:Nat} (h:AA c0 i v) (h1:¬(i=1∧c0=48)) (hd:48≤c.toNat) (h0:i=0→c=c0):AA c0 (i+1) (v*10+(c.toNat-48)):=by
 rcases h with⟨hi,hv⟩|⟨ha,hb,_⟩|⟨ha,hb,hc⟩
 ·subst hi;subst hv;have:=h0 rfl;subst this;by_cases e:c=48
  ·subst e;exact .inr (.inl ⟨rfl,rfl,rfl⟩)
  ·refine .inr (.inr ⟨e,by omega,?_⟩);have:c.toNat≠48:=fun x=>e (UInt8.toNat_inj.1 x);simp;omega
 ·exact absurd ⟨hb,ha⟩ h1
 ·refine .inr (.inr ⟨ha,by omega,?_⟩);have:10^(i+1-1)=10^(i-1)*10:=by rw[←Nat.pow_succ];congr 1;omega
  omega
theorem E8 (b:Nat) (s:ByteArray) (p l f N:Nat) (w:World) (h:Cut w b s p l f) (hp:p<s.size) (hs:s.size≤100000) (hN:ku (s.data.toList.drop p)=N) (h18:N≠18∨(N=18∧((s.data.toList.drop p).take N).take 2≠[48,102])) (r:Except Nat Nat) (hr:uh (((s.data.toList.drop p).take N).headD 0) ((s.data.toList.drop p).take N) 0 0=r):Calls Tryz.prog 204 #[.pointer (some ⟨b,0,none⟩)] w (oq N b s p l f w (intR r)):=by
 have hlt:b<w.heap.size:=aK h.out;have hrl:p+N≤s.size:=by have:=og (s.data.toList.drop p);simp at this;omega
 have HN:=au hN;clear hN;go_enter Tryz.func204,Tryz.ntmps204;go_wp2_with fail;refine(run_any _ b s p l f _ vU (h.alloc _) om hs).mono ?_;rintro e w1 ⟨rfl,hc,hst⟩;rw[HN.o]at hc⊢;have hsz:=extract_size s p N hrl;have hL:=jE s p N;rw[←hL]at hr h18;generalize ht:s.extract p (p+N)=t at*;have hnb:=hst.keep (aC _ _) om;obtain⟨⟨d0,d1,d2,d3,d4⟩,e0,e1,e2,e3,e4⟩:=vV hnb;have hlt1:w.heap.size<w1.heap.size:=aK hnb;have HT:=au ht;have HR:=au hr;clear ht hL hr;have h9:((N:Int)==18)=false∨(((N:Int)==18)=true∧2≤N∧((t.extract 0 2).toList==[48,102])=false):=by
  rcases h18 with h|⟨h,hno⟩
  ·exact .inl (by rw[beq_eq_false_iff_ne];omega)
  ·exact .inr ⟨by rw[beq_iff_eq];omega,by omega,by rw[beq_eq_false_iff_ne,Lib.toList_data,Lib.extract_data];exact hno⟩
 clear h18;rcases h9 with hs18|⟨hs18,h2N,hfm⟩
 all_goals (
  go_wp2_with fail
  go_loopg [48] N (fun g s48 wr=>∃(i v:Nat),i≤N∧i≤19∧N-i≤g∧s48=.int .i64 i∧v≤9223372036854775807∧AA (t.data.toList.headD 0) i v∧uh (t.data.toList.headD 0) (t.data.toList.drop i) i v=r∧
   wr=w1.alloc (.cells #[ak 3,a_ t,ak 0,ak 0,cO v] 157))
  case atStart=>exact⟨0,0,by omega,by omega,by omega,rfl,by omega,.inl ⟨rfl,rfl⟩,HR.o,rfl⟩
  case round=>
   obtain⟨i,v,hi,hi19,hg,rfl,hv,hat,heq,rfl⟩:=hrel
   have HE:=au heq
   have HA:=au hat
   clear heq hat
   by_cases hlti:i<N
   ·
    have hgd:=lY t i om
    have hdr:=E5 t.data.toList i (by rw[←Lib.size_eq];omega)
    rw[←hgd]at hdr
    have iM:((t[i].toNat:Int))≤255:=by have:=t[i].toNat_lt;omega
    have hlt0:0<t.size:=by omega
    have h00:t[0]=t.data.toList.headD 0:=by rw[lY t 0 hlt0];cases t.data.toList<;>rfl
    rw[←h00]at HA HE
    have H00:=au h00
    clear h00
    have HD:=au hdr
    clear hdr hgd
    have hq:=jZ (t[i].toNat:Int)
    cases hd:isDigit (t[i].toNat:Int)
    ·
     rw[hd]at hq
     have HQ:=au hq
     have HX:=au hd
     clear hq hd
     go_wp2_with (go_at_call 203;refine(HQ.o _ om iM).mono ?_;rintro e w' ⟨rfl,rfl⟩)
     have hr0:r=.error 1:=by rw[←HE.o,HD.o,uh,if_pos (.inl HX.o)]
     subst hr0
     refine bodyPost_ret (v:=.tuple #[.agg #[ak 0,di,ak 0,ak 0,cO 0],ak 1]) (by simp[results,Tryz.results204,go_sem,d0,d1,d2,d3,d4,hlt1]) rfl ⟨rfl,?_⟩
     exact(hst.iZ.five (Nat.le_refl _)).alloc _
    ·
     rw[hd]at hq
     have HQ:=au hq
     have h48:(48:Int)≤t[i].toNat∧(t[i].toNat:Int)≤57:=by simpa[isDigit]using hd
     obtain⟨h48,h57⟩:=h48
     have HX:=au hd
     clear hq hd
     by_cases hi1:i=1∧t[0]=48
     ·
      have hb1:((i:Int)==1)=true:=by rw[hi1.1];rfl
      have hb2:((t[0].toNat:Int)==48)=true:=by rw[hi1.2];rfl
      have H1:=au hi1
      clear hi1
      go_wp2_with (go_at_call 203;refine(HQ.o _ om iM).mono ?_;rintro e w' ⟨rfl,rfl⟩)
      have hr0:r=.error 1:=by rw[←HE.o,HD.o,uh,if_pos (.inr H1.o)]
      subst hr0
      refine bodyPost_ret (v:=.tuple #[.agg #[ak 0,di,ak 0,ak 0,cO 0],ak 1]) (by simp[results,Tryz.results204,go_sem,d0,d1,d2,d3,d4,hlt1]) rfl ⟨rfl,?_⟩
      exact(hst.iZ.five (Nat.le_refl _)).alloc _
     ·
      have hor:(((i:Int)==1)=true∧((t[0].toNat:Int)==48)=false)∨(((i:Int)==1)=false):=by
        by_cases e1:i=1
        ·
         exact .inl ⟨by rw[e1];rfl,by rw[beq_eq_false_iff_ne];exact fun e=>hi1 ⟨e1,lM 48 e⟩⟩
        ·
         exact .inr (by rw[beq_eq_false_iff_ne];omega)
      have H1:=au hi1
      clear hi1
      by_cases h19:19≤i
      ·
       have HR2:Hid (r=.error 2):=by
         show r=.error 2
         rw[←HE.o,HD.o,uh,if_neg (fun e=>e.elim (by rw[HX.o];simp) H1.o),if_pos]
         have:=HA.o.big H1.o om h19
         omega
       have hb1:((i:Int)==1)=false:=by rw[beq_eq_false_iff_ne];omega
       have hge:decide (19≤(i:Int))=true:=by rw[decide_eq_true_eq];omega
       clear hor
       ·
        go_wp2_with (go_at_call 203;refine(HQ.o _ om iM).mono ?_;rintro e w' ⟨rfl,rfl⟩)
        rw[HR2.o]
        refine bodyPost_ret (v:=.tuple #[.agg #[ak 0,di,ak 0,ak 0,cO 0],ak 2]) (by simp[results,Tryz.results204,go_sem,d0,d1,d2,d3,d4,hlt1]) rfl ⟨rfl,?_⟩
        exact(hst.iZ.five (Nat.le_refl _)).alloc _
      ·
       have hge:decide (19≤(i:Int))=false:=by rw[decide_eq_false_iff_not];omega
       by_cases hbig:(v:Int)≤(9223372036854775807-((t[i].toNat:Int)-48))/10
       ·
        have m_:Hid (uh t[0] (t.data.toList.drop (i+1)) (i+1) (v*10+(t[i].toNat-48))=r∧AA t[0] (i+1) (v*10+(t[i].toNat-48))∧v*10+(t[i].toNat-48)≤9223372036854775807∧((v:Int)*10+((t[i].toNat:Int)-48)=((v*10+(t[i].toNat-48):Nat):Int))):=by
          refine⟨?_,?_,by omega,by omega⟩
          ·
           rw[←HE.o,HD.o,uh,if_neg (fun e=>e.elim (by rw[HX.o];simp) H1.o),if_neg om]
          ·
           refine HA.o.next (c:=t[i]) H1.o om ?_
           intro e0
           subst e0
           rfl
        have hgt:decide ((9223372036854775807-((t[i].toNat:Int)-48))/10<(v:Int))=false:=by rw[decide_eq_false_iff_not];omega
        rcases hor with⟨hb1,hb2⟩|hb1
        all_goals
         go_wp2_with (go_at_call 203;refine(HQ.o _ om iM).mono ?_;rintro e w' ⟨rfl,rfl⟩)
         obtain⟨hn1,hn2,hn3,hn4⟩:=m_.o
         rw[hn4]
         go_roundg (gk-1)
         case rel=>
          exact⟨i+1,v*10+(t[i].toNat-48),by omega,by omega,by omega,by go_num,hn3,by rw[←H00.o];exact hn2,by rw[←H00.o];exact hn1,rfl⟩
         case measure=>omega
       ·
        have HR2:Hid (r=.error 2):=by
          show r=.error 2
          rw[←HE.o,HD.o,uh,if_neg (fun e=>e.elim (by rw[HX.o];simp) H1.o),if_pos om]
        have hgt:decide ((9223372036854775807-((t[i].toNat:Int)-48))/10<(v:Int))=true:=by rw[decide_eq_true_eq];omega
        rcases hor with⟨hb1,hb2⟩|hb1
        all_goals
         go_wp2_with (go_at_call 203;refine(HQ.o _ om iM).mono ?_;rintro e w' ⟨rfl,rfl⟩)
         rw[HR2.o]
         refine bodyPost_ret (v:=.tuple #[.agg #[ak 0,di,ak 0,ak 0,cO 0],ak 2]) (by simp[results,Tryz.results204,go_sem,d0,d1,d2,d3,d4,hlt1]) rfl ⟨rfl,?_⟩
         exact(hst.iZ.five (Nat.le_refl _)).alloc _
   ·
    have hr0:Hid (r=.ok v):=by
      show r=.ok v
      rw[←HE.o,List.drop_of_length_le (by rw[←Lib.size_eq];omega)];rfl
    go_wp2
    rw[hr0.out]
    refine bodyPost_ret (v:=.tuple #[.agg #[ak 3,a_ t,ak 0,ak 0,cO v],ak 0]) (by simp[results,Tryz.results204,go_sem,d0,d1,d2,d3,d4,hlt1]) rfl ⟨⟨by rw[HT.o];rfl,?_⟩,?_⟩
    ·
     exact(hc.five om).alloc _
    ·
     exact(hst.iZ.five (Nat.le_refl _)).alloc _)
theorem AL:Gives 204 tH (fun _=>True) where
 ok b s p l f w kind n val m h hp hs _ _ _ he:=by
  have hlen:((s.data.toList.drop p).take (ku (s.data.toList.drop p))).length=ku (s.data.toList.drop p):=by
   rw[List.length_take];have:=og (s.data.toList.drop p);omega
  unfold tH U3 at he
  rw[hlen]at he
  generalize hN:ku (s.data.toList.drop p)=N at*
  split at he
  ·
   rename_i hc
   obtain⟨rfl,h2⟩:=hc
   split at he
   ·
    rename_i v hv
    simp at he
    obtain⟨rfl,rfl,rfl⟩:=he
    refine(Az b s p l f w h hp hs hN h2 (some v) hv).mono fun e w' q=> ?_
    exact⟨q.1.1,q.1.2,q.2⟩
   ·
    simp at he
  ·
   rename_i hc
   split at he
   ·
    rename_i v hv
    simp at he
    obtain⟨rfl,rfl,rfl⟩:=he
    by_cases h18:N=18
    ·
     refine(E8 b s p l f N w h hp hs hN (.inr ⟨h18,fun e=>hc ⟨h18,e⟩⟩) (.ok v) hv).mono fun e w' q=> ?_
     exact⟨q.1.1,q.1.2,q.2⟩
    ·
     refine(E8 b s p l f N w h hp hs hN (.inl h18) (.ok v) hv).mono fun e w' q=> ?_
     exact⟨q.1.1,q.1.2,q.2⟩
   ·
    simp at he
 bad b s p l f w c m h hp hs _ _ _ he:=by
  have hlen:((s.data.toList.drop p).take (ku (s.data.toList.drop p))).length=ku (s.data.toList.drop p):=by
   rw[List.length_take];have:=og (s.data.toList.drop p);omega
  unfold tH U3 at he
  rw[hlen]at he
  generalize hN:ku (s.data.toList.drop p)=N at*
  split at he
  ·
   rename_i hc
   obtain⟨rfl,h2⟩:=hc
   split at he
   ·
    simp at he
   ·
    rename_i hv
    simp at he
    subst he
    exact(Az b s p l f w h hp hs hN h2 none hv).mono fun e w' q=>q
  ·
   rename_i hc
   split at he
   ·
    simp at he
   ·
    rename_i v hv
    simp at he
    subst he
    by_cases h18:N=18
    ·
     exact(E8 b s p l f N w h hp hs hN (.inr ⟨h18,fun e=>hc ⟨h18,e⟩⟩) (.error _) hv).mono fun e w' q=>q
    ·
     exact(E8 b s p l f N w h hp hs hN (.inl h18) (.error _) hv).mono fun e w' q=>q
theorem gbQ {p:Prop} (h:p:=by exact⟨_,rfl,by rw[dB.o];exact hJ.up _ rfl dc dc dc dc⟩):p:=h
theorem gaQ {p:Prop} (h:p:=by exact⟨_,rfl,by rw[dB.o];exact hJ.up _ _ rfl (np rfl) rfl rfl⟩):p:=h
abbrev StF (a b:World):Prop:=Step (fun _=>False) a b
theorem nS {w w1:World} {o:Obj} (h:w1=w.alloc o):Hid (StF w w1):=by rw[h];exact bK.alloc _
theorem nB {w w1:World} {o:Obj} (h:w1=w.alloc o):Hid (w1.heap[w.heap.size]?=some o):=by rw[h];exact aC _ _
theorem nT {w w1:World} {o p:Obj} (h:w1=(w.alloc o).alloc p):Hid (StF w w1):=by rw[h];exact (bK.alloc _).alloc _
theorem nC {w w1:World} {o p:Obj} (h:w1=(w.alloc o).alloc p):Hid (w1.heap[w.heap.size]?=some o):=by rw[h];exact aP (aC _ _)
theorem nD {w w1:World} {o p:Obj} (h:w1=(w.alloc o).alloc p):Hid (w1.heap[w.heap.size+1]?=some p):=by rw[h];exact dY _ _ _
theorem sbQ {a i g:Nat} (h:a-i≤g):a-(i+1)≤g-1:=by omega
theorem o9:(∀(a:Act) (d:Nat) (v:Value),a.put (some d) v={a with tmps:=a.tmps.setIfInBounds d v})∧(∀(a:Act) (v:Value),a.put none v=a)∧(∀(l:List Value) (i:Nat) (v:Value),l.toArray.setIfInBounds i v=(l.set i v).toArray)∧(∀(x v:Value) (l:List Value),(x::l).set 0 v=v::l)∧(∀(x v:Value) (l:List Value) (n:Nat),(x::l).set (n+1) v=x::l.set n v):=⟨fun _ _ _=>rfl,fun _ _=>rfl,fun _ _ _=>List.setIfInBounds_toArray ..,fun _ _ _=>rfl,fun _ _ _ _=>rfl⟩
theorem gsQ:(∀(l:List Oper)(i:Nat),l.toArray[i]?=l[i]?)∧(∀(x:Oper)(l:List Oper),(x::l)[0]?=some x)∧(∀(x:Oper)(l:List Oper)(n:Nat),(x::l)[n+1]?=l[n]?)∧(∀(x:Oper)(f:Oper→Option Tmp),(some x).bind f=f x):=⟨fun _ _=>List.getElem?_toArray ..,fun _ _=>rfl,fun _ _ _=>rfl,fun _ _=>rfl⟩
theorem rgQ8:List.range 8=[0,1,2,3,4,5,6,7]:=rfl
theorem rgQ9:List.range 9=[0,1,2,3,4,5,6,7,8]:=rfl
theorem rgQ11:List.range 11=[0,1,2,3,4,5,6,7,8,9,10]:=rfl
theorem rgQ13:List.range 13=[0,1,2,3,4,5,6,7,8,9,10,11,12]:=rfl
theorem rgQ14:List.range 14=[0,1,2,3,4,5,6,7,8,9,10,11,12,13]:=rfl
end Go.Proofs.YtppekkbaoimpgaaGreat
