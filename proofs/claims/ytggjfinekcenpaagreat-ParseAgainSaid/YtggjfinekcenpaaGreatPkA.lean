import Derived.Test.YtggjfinekcenpaaGreatRows
import Derived.WalkKit
import Derived.WalkSpells
import Derived.WalkLawsBesides
import Derived.Deep.QuietTactic
import Derived.BigQuiet
import Derived.BigRegion
import Derived.Deep.LoopGhost
import Derived.Deep.RegionHeld3
import Derived.Lib.Hide
import Derived.Laws.AppendOwnNone
import Derived.Laws.BitsAllLaws
import Derived.IntWalk
import Derived.Deep.AppendLies
import Derived.ChangeArms
import Derived.ReadAgain
import Derived.Below
import Derived.ChangeSame
import Derived.Deep.Slices
import Derived.Deep.MidRow
import Derived.Orders
set_option maxRecDepth 100000
set_option maxHeartbeats 80000000
namespace Go.Proofs.YtggjfinekcenpaaGreat
open Go.RowKit
theorem dc {p:Prop} (h:p:=by decide):p:=h
theorem om {p:Prop} (h:p:=by omega):p:=h
theorem kr {p:Prop} (h:p:=by kernel_rfl):p:=h
theorem qE {p:Prop} (h:p:=by simpa using hv):p:=h
theorem oi {p:Prop} (h:p:=by exact fun _ _ _=>by omega):p:=h
theorem fe {p:Prop} (h:p:=by exact fun _ _ h=>h.elim):p:=h
theorem il {p:Prop} (h:p:=by exact fun _ _ e=>.inl e):p:=h
theorem ir {p:Prop} (h:p:=by exact fun _ _ e=>.inr e):p:=h
theorem lW {p:Prop} (h:p:=by exact fun h=>nomatch h):p:=h
theorem oQ {p:Prop} (h:p:=by exact fun _ h=>nomatch h):p:=h
theorem jd {p:Prop} (h:p:=by exact fun _=>rfl):p:=h
def Hid (p:Prop):Prop:=p
theorem ai {p:Prop} (h:p):Hid p:=h
theorem Hid.o {p:Prop} (h:Hid p):p:=h
theorem Hid.out {p:Prop} (h:Hid p):p:=h
theorem yR {α:Type} {b:Bool} {x y:α} (h:b=false):(if b=true then x else y)=y:=by rw[h];rfl
theorem bn {α:Sort _} (a:α):∃b,b=a:=⟨a,rfl⟩
inductive Vt
 |aj|af (x:Int)|bW|aX|aG (x:ByteArray)|aT|bC (x:Bool)|bf (x:Int)|fM (b o:Nat)
theorem oV {p:Prop} (h:p:=by omega):p:=h
open Vt
instance:CoeDep Vt aj Value:=⟨.slice none 0 0⟩
instance {x}:CoeDep Vt (af x) Value:=⟨.int .i64 x⟩
instance:CoeDep Vt bW Value:=⟨.string ⟨#[]⟩⟩
instance {x}:CoeDep Vt (aG x) Value:=⟨.string x⟩
instance:CoeDep Vt aT Value:=⟨.bool false⟩
instance {x}:CoeDep Vt (bC x) Value:=⟨.bool x⟩
instance {x}:CoeDep Vt (bf x) Value:=⟨.int .u64 x⟩
instance {b o}:CoeDep Vt (fM b o) Value:=⟨.pointer (some ⟨b,o,none⟩)⟩
theorem mc {β:Type} {p:β→Prop} {a:β} {l:List β} (h:p a∧∀x∈l,p x):∀x∈a::l,p x:=List.forall_mem_cons.2 h
theorem nd {a b:Prop} (h:¬a):a→b:=fun e=>absurd e h
theorem np {ps:List (Nat×Nat)} {k:Nat} {Q:Nat×Nat→Prop} (h:(ps.all fun p=>p.1 !=k)=true):∀p∈ps,p.1=k→Q p:=by intro p hp e;have h2:=List.all_eq_true.1 h p hp;rw[e]at h2;simp at h2
theorem qL {a b:Bool} (h:a=b):Ending.returned (.bool a)=.returned (.bool b):=by rw[h]
theorem ah {w:World} {b t:Nat} {cs:Array Value} (h:w.heap[b]?=some (.cells cs t (0,0))) (i:Nat) (v:Value) (hv:cs[i]?=some v):w.cell? ⟨b,i,none⟩=some v:=by simp[World.cell?,h,hv]
theorem aH {w:World} {b t:Nat} {cs:Array Value} (h:w.heap[b]?=some (.cells cs t (0,0))) (i:Nat):w.frozen? ⟨b,i,none⟩=false:=by simp[World.frozen?,h]
theorem aU {w:World} {b t:Nat} {cs:Array Value} (h:w.heap[b]?=some (.cells cs t (0,0))) (i:Nat) (v:Value):(w.setCell ⟨b,i,none⟩ v).heap[b]?=some (.cells (cs.setIfInBounds i v) t (0,0)):=by simp[World.setCell,Array.getElem?_modify,h]
theorem mD {w:World} {b:Nat} {o:Option Obj} (h:w.heap[b]?=o):w.drew.heap[b]?=o:=h
theorem oJ {w:World} {b n:Nat} {o:Option Obj} (h:w.heap[b]?=o):(w.drewN n).heap[b]?=o:=h
theorem aN {w:World} {b:Nat} {o o':Obj} (h:w.heap[b]?=some o):(w.alloc o').heap[b]?=some o:=by
 have hb:b<w.heap.size:=by
  rcases Nat.lt_or_ge b w.heap.size with h1|h1
  ·exact h1
  ·simp[Array.getElem?_eq_none h1]at h
 rw[Below.heap_alloc w o' b hb];exact h
structure Step (S:Nat→Prop) (w w':World):Prop where
 os:w'.os=w.os
 tape:w'.tape=w.tape
 output:w'.output=w.output
 size:w.heap.size≤w'.heap.size
 block:∀k,k<w.heap.size→¬S k→w'.heap[k]?=w.heap[k]?
theorem Step.refl (S:Nat→Prop) (w:World):Step S w w:=⟨rfl,rfl,rfl,Nat.le_refl _,fun _ _ _=>rfl⟩
theorem bV {S:Nat→Prop} {w:World}:Step S w w:=Step.refl _ _
theorem Step.trans {S:Nat→Prop} {a b c:World} (h:Step S a b) (k:Step S b c):Step S a c:=
 ⟨k.os.trans h.os,k.tape.trans h.tape,k.output.trans h.output,Nat.le_trans h.size k.size,fun i hi hs=>(k.block i (Nat.lt_of_lt_of_le hi h.size) hs).trans (h.block i hi hs)⟩
theorem Step.mono {S T:Nat→Prop} {w w':World} (h:Step S w w') (hs:∀k,k<w.heap.size→S k→T k):Step T w w':=
 ⟨h.os,h.tape,h.output,h.size,fun k hk ht=>h.block k hk fun e=>ht (hs k hk e)⟩
theorem Step.then {S T:Nat→Prop} {a b c:World} (h:Step S a b) (k:Step T b c) (hs:∀i,i<a.heap.size→T i→S i):Step S a c:=
 ⟨k.os.trans h.os,k.tape.trans h.tape,k.output.trans h.output,Nat.le_trans h.size k.size,fun i hi hn=>(k.block i (Nat.lt_of_lt_of_le hi h.size) fun e=>hn (hs i hi e)).trans (h.block i hi hn)⟩
theorem Step.drew {S:Nat→Prop} {a w:World} (h:Step S a w):Step S a w.drew:=⟨h.os,h.tape,h.output,h.size,h.block⟩
theorem Step.drewN {S:Nat→Prop} {a w:World} (h:Step S a w) (n:Nat):Step S a (w.drewN n):=⟨h.os,h.tape,h.output,h.size,h.block⟩
theorem Step.alloc {S:Nat→Prop} {a w:World} (h:Step S a w) (o:Obj):Step S a (w.alloc o):=
 h.trans ⟨rfl,rfl,rfl,by simp,fun k hk _=>Below.heap_alloc _ _ _ hk⟩
theorem Step.setCell {S:Nat→Prop} {a w:World} (h:Step S a w) (p:Addr) (u:Value) (hp:p.block<a.heap.size→S p.block):Step S a (w.setCell p u):=by refine⟨h.os,h.tape,h.output,Nat.le_trans h.size (by simp[World.setCell]),fun k hk hs=> ?_⟩;rw[Below.heap_setCell _ _ _ _ (fun e=>hs (by subst e;exact hp hk))];exact h.block k hk hs
theorem Step.below {S:Nat→Prop} {a w w':World} (h:Step S a w) (hb:Below w.heap.size w w'):Step S a w':=
 h.trans ⟨hb.os,hb.tape,hb.output,hb.size,fun k hk _=>hb.block k hk⟩
theorem Step.grown {S:Nat→Prop} {a w w':World} {row:Option Nat} (h:Step S a w) (hg:w.grownBy w' row) (hr:∀k,row=some k→k<a.heap.size→S k):Step S a w':=
 ⟨hg.os.trans h.os,hg.tape.trans h.tape,hg.output.trans h.output,Nat.le_trans h.size hg.size,fun k hk hs=>
  (hg.block k (Nat.lt_of_lt_of_le hk h.size) fun e=>hs (hr k e.symm hk)).trans (h.block k hk hs)⟩
theorem Step.keep {S:Nat→Prop} {w w':World} (h:Step S w w') {b:Nat} {o:Obj} (hb:w.heap[b]?=some o) (hs:¬S b):w'.heap[b]?=some o:=by
 have hlt:b<w.heap.size:=by
  rcases Nat.lt_or_ge b w.heap.size with h1|h1
  ·exact h1
  ·simp[Array.getElem?_eq_none h1]at hb
 rw[h.block b hlt hs];exact hb
theorem aC {w:World} {b:Nat} {o:Obj} (hb:w.heap[b]?=some o):b<w.heap.size:=by
 rcases Nat.lt_or_ge b w.heap.size with h1|h1
 ·exact h1
 ·simp[Array.getElem?_eq_none h1]at hb
theorem sZ (w:World) (a:Addr) (v:Value) (o:Obj):((w.setCell a v).alloc o).heap[w.heap.size]?=some o:=by have:=heap_alloc_new (w.setCell a v) o;simpa[World.setCell]using this
theorem aB (w:World) (o:Obj):(w.alloc o).heap[w.heap.size]?=some o:=heap_alloc_new w o
theorem d_ {w:World} {a:Addr} {v:Value} {o:Obj} (h:w.cell? a=some v):(w.alloc o).cell? a=some v:=
 (World.grownBy_alloc w o none).cell h (by simp)
theorem Step.cell {S:Nat→Prop} {w w':World} {a:Addr} {v:Value} (hs:Step S w w') (h:w.cell? a=some v) (hn:¬S a.block):w'.cell? a=some v:=
 (World.cell?_of_block (hs.block a.block (World.block_lt_of_cell? w a h) hn)).trans h
theorem vG {w:World} {b t:Nat} {cs:List Value} (h:w.heap[b]?=some (.cells cs.toArray t (0,0))):∀(j:Nat) (u:Value),cs[j]?=some u→w.cell? ((⟨b,0,none⟩:Addr).add j)=some u:=by
 intro j u hu;have hadd:(⟨b,0,none⟩:Addr).add j=⟨b,j,none⟩:=by unfold Addr.add;split<;>simp_all
 rw[hadd];exact ah h j u (by simpa using hu)
theorem fO (w:World) (o1 o2:Obj):((w.alloc o1).alloc o2).heap[w.heap.size+1]?=some o2:=by have:=heap_alloc_new (w.alloc o1) o2;simpa using this
theorem x9 {w:World} {base:Nat} {e:TypeId} {size:Nat} {v:Value} {n:Nat} {xs:List Value} (h:w.ownsRow base e size v n xs):∀k,v.ownBlock=some k→base≤k:=fun k hk=>(h.lt k hk).1
theorem D7 {w w':World} {row:Option Nat} (hg:w.grownBy w' row) {b:Nat} {o:Obj} (hb:w.heap[b]?=some o) (hn:∀k,row=some k→b≠k):w'.heap[b]?=some o:=by rw[hg.block b (aC hb) (fun e=>hn b e.symm rfl)];exact hb
theorem Rt {w:World} {base base':Nat} {e:TypeId} {size:Nat} {v:Value} {n:Nat} {xs:List Value} (h:w.ownsRow base e size v n xs) (hb:base'≤base):w.ownsRow base' e size v n xs:=by
 refine⟨h.1,?_⟩;rcases h.2 with hz|⟨g,cap,cur,rfl,hg,rest⟩
 ·exact .inl hz
 ·exact .inr ⟨g,cap,cur,rfl,by omega,rest⟩
theorem Ru {w:World} {b t:Nat} {a0 a1:Value} (h:w.heap[b]?=some (.cells #[a0,a1] t (0,0))):(w.cell? ⟨b,0,none⟩=some a0∧w.cell? ⟨b,1,none⟩=some a1)∧(w.frozen? ⟨b,0,none⟩=false∧w.frozen? ⟨b,1,none⟩=false):=
 ⟨⟨ah h 0 _ rfl,ah h 1 _ rfl⟩,⟨aH h 0,aH h 1⟩⟩
theorem wL {w:World} {b t:Nat} {a0 a1 a2:Value} (h:w.heap[b]?=some (.cells #[a0,a1,a2] t (0,0))):(w.cell? ⟨b,0,none⟩=some a0∧w.cell? ⟨b,1,none⟩=some a1∧w.cell? ⟨b,2,none⟩=some a2)∧(w.frozen? ⟨b,0,none⟩=false∧w.frozen? ⟨b,1,none⟩=false∧w.frozen? ⟨b,2,none⟩=false):=
 ⟨⟨ah h 0 _ rfl,ah h 1 _ rfl,ah h 2 _ rfl⟩,⟨aH h 0,aH h 1,aH h 2⟩⟩
theorem b_ {w:World} {base:Nat} {e:TypeId} {size:Nat} {v:Value} {n:Nat} {xs:List Value} (h:w.ownsRow base e size v n xs):∃a c,v=.slice a n c:=by
 rcases h.2 with⟨hv,h0⟩|⟨g,cap,cur,hv,_⟩
 ·exact⟨none,0,by rw[hv,h0]⟩
 ·exact⟨_,_,hv⟩
theorem Step.owns {S:Nat→Prop} {w w':World} {base:Nat} {e:TypeId} {size:Nat} {v:Value} {n:Nat} {xs:List Value} (hs:Step S w w') (h:w.ownsRow base e size v n xs) (hn:∀k,base≤k→¬S k):w'.ownsRow base e size v n xs:=by
 refine⟨h.1,?_⟩;rcases h.2 with hz|⟨g,cap,cur,rfl,hb,hgg,rest⟩
 ·exact .inl hz
 ·exact .inr ⟨g,cap,cur,rfl,hb,hs.keep hgg (hn g hb),rest⟩
theorem ji {w w':World} {row:Option Nat} (h:w.grownBy w' row):Step (fun k=>row=some k) w w':=bV.grown h (fun _ hk _=>hk)
theorem Step.YF {w w':World} (h:Step (fun _=>False) w w'):Below w.heap.size w w':=⟨h.os,h.tape,h.output,h.size,fun k hk=>h.block k hk (fun e=>e)⟩
def Row (w:World) (B:Nat) (v:Value) (n:Nat) (xs:List Value):Prop:=
 ∃a c,v=.slice a n c∧n≤c∧c≤9223372036854775807∧(a=none→n=0∧c=0)∧(0<n→∃g o,a=some ⟨g,o,none⟩∧g<B∧g<w.heap.size∧∀(i:Nat) x,xs[i]?=some x→w.cell? ⟨g,o+i,none⟩=some x)
theorem Row.step {w w':World} {B:Nat} {v:Value} {n:Nat} {xs:List Value} {S:Nat→Prop} (h:Row w B v n xs) (hs:Step S w w') (hS:∀k,k<B→¬S k):Row w' B v n xs:=by obtain⟨a,c,hv,hc,hm,hz,hr⟩:=h;refine⟨a,c,hv,hc,hm,hz,fun hn=> ?_⟩;obtain⟨g,o,ha,hg,hgw,hcell⟩:=hr hn;exact⟨g,o,ha,hg,Nat.lt_of_lt_of_le hgw hs.size,fun i x hx=>hs.cell (hcell i x hx) (hS g hg)⟩
theorem Row.mono {w:World} {B B':Nat} {v:Value} {n:Nat} {xs:List Value} (h:Row w B v n xs) (hb:B≤B'):Row w B' v n xs:=by obtain⟨a,c,hv,hc,hm,hz,hr⟩:=h;refine⟨a,c,hv,hc,hm,hz,fun hn=> ?_⟩;obtain⟨g,o,ha,hg,hgw,hcell⟩:=hr hn;exact⟨g,o,ha,by omega,hgw,hcell⟩
theorem IL (g o j:Nat):(⟨g,o,none⟩:Addr).add j=⟨g,o+j,none⟩:=by unfold Addr.add;split<;>simp_all
theorem Row.jb {w:World} {base B:Nat} {e:TypeId} {size:Nat} {v:Value} {n:Nat} {xs:List Value} (h:w.ownsRow base e size v n xs) (hB:w.heap.size≤B):Row w B v n xs:=by
 have hh:=h;rcases h.2 with⟨rfl,rfl⟩|⟨g,cap,cur,rfl,hb,hg,hn,hm,_⟩
 ·exact⟨none,0,rfl,Nat.le_refl _,by omega,fun _=>⟨rfl,rfl⟩,fun h=>absurd h (Nat.lt_irrefl _)⟩
 ·refine⟨_,cap,rfl,hn,by simpa[maxLen]using hm,fun h=>(by cases h),fun _=>⟨g,0,rfl,Nat.lt_of_lt_of_le (aC hg) hB,aC hg,fun i x hx=> ?_⟩⟩;have:=hh.cells (g:=g) rfl i x hx
  rwa [IL]at this
section
variable {P : Program} (w : World)
theorem D8 (B:Nat) (base:Nat) (t ty e:TypeId) (i:TypeInfo) (z:Value) (size bytes:Nat) (ht:P.underlying t=some (.slice e)) (hi:P.info? e=some i) (hz:i.zero=some z) (hsize:i.size=size) (hby:i.bytes=bytes) (hzs:z.cells.size=size) (hsz:0<size) (v:Value) (n:Nat) (xs:List Value) (hown:w.ownsRow base e size v n xs) (vs:Value) (m:Nat) (news:List Value) (hrow:Row w B vs m news) (hl:news.length=m*size) (h1:∀u∈news,u.oneCell'=true) (h63:n+m≤maxLen) (hbytes:(n+m)*bytes≤140737488355328) (hbase:base≤w.heap.size):∃v' w',(Builtin.append_ #[t,t] ty #[v,vs]).run P w=.ok v' w'∧w'.ownsRow base e size v' (n+m) (xs++news)∧w.grownBy w' v.ownBlock∧(v'.ownBlock=v.ownBlock∨v'.ownBlock=some w.heap.size):=by
 obtain⟨a,c,rfl,hc,hm,hnil,hr⟩:=hrow;cases a with
 |none=>obtain⟨rfl,rfl⟩:=hnil rfl;have:news=[]:=List.eq_nil_of_length_eq_zero oV;subst this;refine⟨v,w,run_append_owned_none (P:=P) w base t ty e i size ht hi v n xs hown,?_,⟨rfl,rfl,rfl,Nat.le_refl _,fun _ _ _=>rfl⟩,.inl rfl⟩;rw[List.append_nil];exact hown
 |some ad=>
  have hnews:∀j u,news[j]?=some u→w.cell? (ad.add j)=some u:=by
   intro j u hu;have hlt:=(List.getElem?_eq_some_iff.1 hu).1;have hpos:0<m:=by
    rcases Nat.eq_zero_or_pos m with h0|h0
    ·subst h0;omega
    ·exact h0
   obtain⟨g,o,ha,_,_,hcell⟩:=hr hpos;cases ha;rw[IL];exact hcell j u hu
  obtain⟨v',w',r1,r2,r3,_,r5⟩:=run_append_own_at (P:=P) w base t ty e i z size bytes ht hi hz hsize hby hzs hsz v n xs hown ad m c news hl hnews h1 h63 hbytes hbase;exact⟨v',w',r1,r2,r3,r5⟩
theorem gV {o:Oper} {a:Act} {K:Act→World→Prop} {Q:Exit→Act→World→Prop} (B:Nat) (s x:Operand) (t:TypeId) (ho:o.op=.call {callee:=.builtin .append,args:= #[s,x],argTypes:= #[t,t]}) (base:Nat) (e:TypeId) (i:TypeInfo) (z:Value) (size bytes:Nat) (ht:P.underlying t=some (.slice e)) (hi:P.info? e=some i) (hz:i.zero=some z) (hsize:i.size=size) (hby:i.bytes=bytes) (hzs:z.cells.size=size) (hsz:0<size) (v:Value) (n:Nat) (xs:List Value) (hs:a.eval s=v) (hown:w.ownsRow base e size v n xs) (vs:Value) (m:Nat) (news:List Value) (hx:a.eval x=vs) (hrow:Row w B vs m news) (hl:news.length=m*size) (h1:∀u∈news,u.oneCell'=true) (h63:n+m≤maxLen) (hbytes:(n+m)*bytes≤140737488355328) (hbase:base≤w.heap.size) (h:∀v' w',w'.ownsRow base e size v' (n+m) (xs++news)→w.grownBy w' v.ownBlock→(v'.ownBlock=v.ownBlock∨v'.ownBlock=some w.heap.size)→K (a.put o.dst v') w'):o.wp P a w K Q:=by obtain⟨v',w',hr,h2,h3,h4⟩:=D8 (P:=P) w B base t o.type e i z size bytes ht hi hz hsize hby hzs hsz v n xs hown vs m news hrow hl h1 h63 hbytes hbase;unfold Oper.wp execOp;simp only[ho,resolve,invoke,builtin,Sem.run_bind,Sem.run_pure,Result.andThen_ok,List.map_toArray,List.map_cons,List.map_nil,hs,hx,hr];exact h v' w' h2 h3 h4
theorem kH {ops:Array Oper} {rest:List Oper} {o:Oper} {a:Act} {Q:Exit→Act→World→Prop} (hgd:o.guard=none) (B:Nat) (s x:Operand) (t:TypeId) (ho:o.op=.call {callee:=.builtin .append,args:= #[s,x],argTypes:= #[t,t]}) (base:Nat) (e:TypeId) (i:TypeInfo) (z:Value) (size bytes:Nat) (ht:P.underlying t=some (.slice e)) (hi:P.info? e=some i) (hz:i.zero=some z) (hsize:i.size=size) (hby:i.bytes=bytes) (hzs:z.cells.size=size) (hsz:0<size) (v:Value) (n:Nat) (xs:List Value) (hs:a.eval s=v) (hown:w.ownsRow base e size v n xs) (vs:Value) (m:Nat) (news:List Value) (hx:a.eval x=vs) (hrow:Row w B vs m news) (hl:news.length=m*size) (h1:∀u∈news,u.oneCell'=true) (h63:n+m≤maxLen) (hbytes:(n+m)*bytes≤140737488355328) (hbase:base≤w.heap.size) (h:∀v' w',w'.ownsRow base e size v' (n+m) (xs++news)→w.grownBy w' v.ownBlock→(v'.ownBlock=v.ownBlock∨v'.ownBlock=some w.heap.size)→wpList P ops Q rest (a.put o.dst v') w'):wpList P ops Q (o::rest) a w:=
 wpList_plain hgd fun _ hK=>gV w B s x t ho base e i z size bytes ht hi hz hsize hby hzs hsz v n xs hs hown vs m news hx hrow hl h1 h63 hbytes hbase fun v' w' h2 h3 h4=>hK _ _ (h v' w' h2 h3 h4)
theorem lM {ops:Array Oper} {o:Oper} {a:Act} {K:Act→World→Prop} {Q:Exit→Act→World→Prop} {E:Prop} (hgd:o.guard=none) (B:Nat) (s x:Operand) (t:TypeId) (ho:o.op=.call {callee:=.builtin .append,args:= #[s,x],argTypes:= #[t,t]}) (base:Nat) (e:TypeId) (i:TypeInfo) (z:Value) (size bytes:Nat) (ht:P.underlying t=some (.slice e)) (hi:P.info? e=some i) (hz:i.zero=some z) (hsize:i.size=size) (hby:i.bytes=bytes) (hzs:z.cells.size=size) (hsz:0<size) (v:Value) (n:Nat) (xs:List Value) (hs:a.eval s=v) (hown:w.ownsRow base e size v n xs) (vs:Value) (m:Nat) (news:List Value) (hx:a.eval x=vs) (hrow:Row w B vs m news) (hl:news.length=m*size) (h1:∀u∈news,u.oneCell'=true) (h63:n+m≤maxLen) (hbytes:(n+m)*bytes≤140737488355328) (hbase:base≤w.heap.size) (h:∀v' w',w'.ownsRow base e size v' (n+m) (xs++news)→w.grownBy w' v.ownBlock→(v'.ownBlock=v.ownBlock∨v'.ownBlock=some w.heap.size)→K (a.put o.dst v') w'):if Region.wanted o (yielded ops a.tmps)=true then Oper.wp P o a w K Q else E:=by
 have hw:Region.wanted o (yielded ops a.tmps)=true:=by simp[Region.wanted,hgd]
 rw[if_pos hw];exact gV w B s x t ho base e i z size bytes ht hi hz hsize hby hzs hsz v n xs hs hown vs m news hx hrow hl h1 h63 hbytes hbase h
end
section
open Go.WideShapes Go.ChangeShapes
section
variable {H : Type} {enc : TypeId × Value → H} {P : Program} {w : World} {spare : Nat → Bool} {held : Bool}
end
end
section
variable {α : Type} {R R' : α → List Value → Prop}
end
theorem Row.new {w:World} {b t n:Nat} {cs:List Value} (h:w.heap[b]?=some (.cells cs.toArray t (0,0))) (hn:n≤9223372036854775807):Row w (b+1) (.slice (some ⟨b,0,none⟩) n n) n cs:=by
 refine⟨_,n,rfl,Nat.le_refl _,hn,lW,fun _=>⟨b,0,rfl,by omega,aC h,fun i x hx=> ?_⟩⟩;have:=vG h i x hx
 rwa [IL]at this
section
variable {P : Program} {w : World}
theorem zJ (t:TypeId):∀(vs:List Value) (o:Nat) (c:Array Value),(w.alloc (.cells c t)).setCells w.heap.size o vs=w.alloc (.cells (vs.zipIdx.foldl (fun c x=>c.setIfInBounds (o+x.2) x.1) c) t)
 |[],o,c=>rfl
 |v::r,o,c=>by
  show((w.alloc (.cells c t)).setCell ⟨w.heap.size,o,none⟩ v).setCells w.heap.size (o+1) r=_
  rw[World.setCell_alloc_new,zJ t r (o+1) _]
  congr 2
  rw[List.zipIdx_cons,List.foldl_cons,Nat.add_zero,List.zipIdx_succ,List.foldl_map]
  have hf:(fun(c:Array Value) (x:Value×Nat)=>c.setIfInBounds (o+(x.2+1)) x.1)=fun c x=>c.setIfInBounds ((o+1)+x.2) x.1:=by
   funext c x;congr 1;omega
  exact(congrFun (congrFun (congrArg (fun f=>List.foldl f) hf) _) _).symm
theorem D9:∀(vs:List Value) (o:Nat) (c:Array Value) (j:Nat),o+vs.length≤c.size→(vs.zipIdx.foldl (fun c x=>c.setIfInBounds (o+x.2) x.1) c)[j]?=if o≤j∧j<o+vs.length then vs[j-o]? else c[j]?
 |[],o,c,j,_=>by
  have:¬(o≤j∧j<o+0):=by omega
  simp only[List.length_nil,if_neg this];rfl
 |v::r,o,c,j,h=>by
  rw[List.zipIdx_cons,List.foldl_cons,Nat.add_zero,List.zipIdx_succ,List.foldl_map]
  have hf:(fun(c:Array Value) (x:Value×Nat)=>c.setIfInBounds (o+(x.2+1)) x.1)=fun c x=>c.setIfInBounds ((o+1)+x.2) x.1:=by
   funext c x;congr 1;omega
  simp only[List.length_cons]at h⊢
  show(r.zipIdx.foldl (fun(c:Array Value) (x:Value×Nat)=>c.setIfInBounds (o+(x.2+1)) x.1) (c.setIfInBounds o v))[j]?=_
  rw[hf,D9 r (o+1) (c.setIfInBounds o v) j (by simp;omega)]
  by_cases h1:o+1≤j∧j<o+1+r.length
  ·
   rw[if_pos h1,if_pos oV,show j-o=(j-(o+1))+1 by omega,List.getElem?_cons_succ]
  ·
   rw[if_neg h1]
   by_cases h2:j=o
   ·
    subst h2
    rw[if_pos oV,Nat.sub_self,Array.getElem?_setIfInBounds_self_of_lt oV];rfl
   ·
    rw[if_neg oV,Array.getElem?_setIfInBounds_ne oV]
theorem D_ (t:TypeId) (c:Array Value) (vs:List Value) (h:c.size=vs.length):(w.alloc (.cells c t)).setCells w.heap.size 0 vs=w.alloc (.cells vs.toArray t):=by
 rw[zJ];congr 2;apply Array.ext_getElem?;intro j;rw[D9 vs 0 c j oV];by_cases hj:j<vs.length
 ·rw[if_pos oV,Nat.sub_zero,List.getElem?_toArray]
 ·rw[if_neg oV,Array.getElem?_eq_none oV,List.getElem?_toArray,List.getElem?_eq_none oV]
theorem jO {ops:Array Oper} {rest:List Oper} {op:Oper} {a:Act} {Q:Exit→Act→World→Prop} (hgd:op.guard=none) (ty:TypeId) (x y:Operand) (ho:op.op=.store ty x y) (c:Array Value) (vs:List Value) (hx:a.eval x=.pointer (some ⟨w.heap.size,0,none⟩)) (hy:a.eval y=.agg vs.toArray) (hi:(P.info? ty).map (·.size)=some vs.length) (hc:c.size=vs.length) (h1:∀v∈vs,v.oneCell'=true) (h:wpList P ops Q rest (a.put op.dst undef) (w.alloc (.cells vs.toArray ty))):wpList P ops Q (op::rest) a (w.alloc (.cells c ty)):=by
 refine wpList_store_mid hgd ty x y ho w.heap.size 0 vs.toArray hx hy (fun j hj=> ?_) (by simpa using hi) (all_oneCell_toArray h1) ?_
 ·have hb:=aB w (.cells c ty);have hj':j<c.size:=by rw[hc];simpa using hj
  rw[Nat.zero_add,ah hb j _ (Array.getElem?_eq_getElem hj'),aH hb];exact⟨rfl,rfl⟩
 ·rw[D_ ty c _ (by simpa using hc)];exact h
theorem ay {ops:Array Oper} {rest:List Oper} {op:Oper} {a:Act} {Q:Exit→Act→World→Prop} (hgd:op.guard=none) (ty:TypeId) (x:Operand) (ho:op.op=.load ty x) (b o:Nat) (hx:a.eval x=.pointer (some ⟨b,o,none⟩)) (cs:List Value) (d:TypeDesc) (hc:∀(j:Nat) v,cs[j]?=some v→w.cell? ⟨b,o+j,none⟩=some v) (hu:P.underlying ty=some d) (hd:d.isRow=true) (hi:(P.info? ty).map (·.size)=some cs.length) (h:wpList P ops Q rest (a.put op.dst (.agg cs.toArray)) w):wpList P ops Q (op::rest) a w:=
 wpList_load_mid hgd ty x ho b o hx cs d hc hu hd hi h
end
section
variable {P : Program} {w : World}
theorem uf {b t:Nat}:∀(vs:List Value) (o:Nat) (c:Array Value) (w:World),w.heap[b]?=some (.cells c t (0,0))→(w.setCells b o vs).heap[b]?=some (.cells (vs.zipIdx.foldl (fun c x=>c.setIfInBounds (o+x.2) x.1) c) t (0,0))∧Step (·=b) w (w.setCells b o vs)
 |[],o,c,w,h=>⟨h,Step.refl _ _⟩
 |v::r,o,c,w,h=>by
  have h1:=aU h o v
  obtain⟨h2,h3⟩:=uf r (o+1) (c.setIfInBounds o v) _ h1
  have hf:(fun(c:Array Value) (x:Value×Nat)=>c.setIfInBounds (o+(x.2+1)) x.1)=fun c x=>c.setIfInBounds ((o+1)+x.2) x.1:=by
   funext c x;congr 1;omega
  refine⟨?_,Step.trans (bV.setCell _ _ jd) h3⟩
  show((w.setCell ⟨b,o,none⟩ v).setCells b (o+1) r).heap[b]?=_
  rw[h2,List.zipIdx_cons,List.foldl_cons,Nat.add_zero,List.zipIdx_succ,List.foldl_map]
  exact congrArg some (congrArg (fun a=>Obj.cells a t (0,0)) (congrFun (congrFun (congrArg (fun f=>List.foldl f) hf) _) _).symm)
theorem w_ (vs:List Value) (o:Nat) (c:Array Value) (h:o+vs.length≤c.size):vs.zipIdx.foldl (fun c x=>c.setIfInBounds (o+x.2) x.1) c=(c.toList.take o++(vs++c.toList.drop (o+vs.length))).toArray:=by
 apply Array.ext_getElem?;intro j;have e:∀(l:List Value) (j:Nat),l.toArray[j]?=l[j]?:=fun l j=>by simp
 rw[D9 vs o c j h,e (c.toList.take o++(vs++c.toList.drop (o+vs.length))) j];have hl:(c.toList.take o).length=o:=by simp;omega
 by_cases h1:j<o
 ·rw[if_neg oV,List.getElem?_append_left oV,List.getElem?_take,if_pos h1];simp
 ·rw[List.getElem?_append_right oV,hl];by_cases h2:j<o+vs.length
  ·rw[if_pos oV,List.getElem?_append_left oV]
  ·rw[if_neg oV,List.getElem?_append_right oV,List.getElem?_drop,show o+vs.length+(j-o-vs.length)=j by omega];simp
theorem au {ops:Array Oper} {rest:List Oper} {op:Oper} {a:Act} {Q:Exit→Act→World→Prop} (hgd:op.guard=none) (ty:TypeId) (x y:Operand) (ho:op.op=.store ty x y) (b o t:Nat) (c:Array Value) (vs:List Value) (hx:a.eval x=.pointer (some ⟨b,o,none⟩)) (hy:a.eval y=.agg vs.toArray) (hb:w.heap[b]?=some (.cells c t (0,0))) (hi:(P.info? ty).map (·.size)=some vs.length) (hc:o+vs.length≤c.size) (h1:∀v∈vs,v.oneCell'=true) (h:∀w',w'.heap[b]?=some (.cells (c.toList.take o++(vs++c.toList.drop (o+vs.length))).toArray t (0,0))→Step (·=b) w w'→wpList P ops Q rest (a.put op.dst undef) w'):wpList P ops Q (op::rest) a w:=by
 refine wpList_store_mid hgd ty x y ho b o vs.toArray hx hy (fun j hj=> ?_) (by simpa using hi) (all_oneCell_toArray h1) ?_
 ·have hj':o+j<c.size:=by (have:j<vs.length:=by simpa using hj);omega
  rw[ah hb (o+j) _ (Array.getElem?_eq_getElem hj'),aH hb];exact⟨rfl,rfl⟩
 ·obtain⟨h2,h3⟩:=uf vs o c w hb;rw[w_ vs o c hc]at h2;exact h _ (by simpa using h2) (by simpa using h3)
theorem Gf {fn:Func} {x t:Nat} (h:fn.results= #[.cell x t]) (tmps:Array Value) (b o:Nat) (cs:List Value) (d:TypeDesc) (hx:tmps.getD x undef=.pointer (some ⟨b,o,none⟩)) (hc:∀(j:Nat) v,cs[j]?=some v→w.cell? ⟨b,o+j,none⟩=some v) (hu:P.underlying t=some d) (hd:d.isRow=true) (hi:(P.info? t).map (·.size)=some cs.length):(results fn tmps).run P w=.ok (.agg cs.toArray) w:=by have hl:=run_loadVar_mid w b o t cs d hc hu hd hi;rw[Array.getD_eq_getD_getElem?]at hx;simp[results,h,hx,asAddr,hl]
theorem aV {fn:Func} {x t:Nat} (h:fn.results= #[.cell x t]) (tmps:Array Value) (b tt:Nat) (cs:List Value) (d:TypeDesc) (hx:tmps.getD x undef=.pointer (some ⟨b,0,none⟩)) (hb:w.heap[b]?=some (.cells cs.toArray tt (0,0))) (hu:P.underlying t=some d) (hd:d.isRow=true) (hi:(P.info? t).map (·.size)=some cs.length):(results fn tmps).run P w=.ok (.agg cs.toArray) w:=
 Gf h tmps b 0 cs d hx (fun j v hv=>by rw[Nat.zero_add];exact ah hb j v qE) hu hd hi
end
def dZ (ops:Array Oper) (i:Nat):Option Tmp:=(ops[i]?).bind (·.dst)
def oU (ops:Array Oper) (L:Nat→Bool) (V:Nat→Value):List Nat→Act→Act
 |[],a=>a
 |i::r,a=>oU ops L V r (if L i then a.put (dZ ops i) (V i)else a)
def lX (ops:Array Oper) (V:Nat→Value):List Nat→Act→Act
 |[],a=>a
 |i::r,a=>lX ops V r (a.put (dZ ops i) (V i))
def dN (L:Nat→Bool) (i:Nat):Nat→Bool:=fun j=>if j=i then true else L j
def gY (V:Nat→Value) (i:Nat) (v:Value):Nat→Value:=fun j=>if j=i then v else V j
def ug (ops:Array Oper) (is:List Nat):Bool:=is.all fun i=>is.all fun j=>i==j||(dZ ops i).isNone||(dZ ops i !=dZ ops j)
def Ea (md:Region.Mode) (ops:Array Oper):Bool:=(List.range ops.size).all fun i=>match ops[i]? with
 |some o=>o.after.all fun e=> !Region.binds md e||decide (e.on<i)
 |none=>true
def Eb (ops:Array Oper) (is:List Nat) (n:Nat):Bool:=is.all fun i=>match dZ ops i with
 |some d=>decide (d<n)
 |none=>true
def qi (md:Region.Mode) (o:Oper):List Nat:=(o.after.toList.filter fun e=>Region.binds md e).map (·.on)
def YG (ops:Array Oper) (is:List Nat) (k:Nat):Bool:=is.all fun i=>dZ ops i !=some k
section
variable {ops : Array Oper} {L L' : Nat → Bool} {V V' : Nat → Value}
theorem qo {is:List Nat} (h:ug ops is=true) {i j:Nat} (hi:i∈is) (hj:j∈is) (hne:i≠j):∀d,dZ ops i=some d→dZ ops j≠some d:=by intro d h1 h2;have h3:=List.all_eq_true.1 (List.all_eq_true.1 h i hi) j hj;simp[h1,h2,hne]at h3
theorem Qh {x:Option Tmp} {v:Value}:∀(is:List Nat) (a:Act),(∀j∈is,∀d,dZ ops j=some d→x≠some d)→(oU ops L V is a).put x v=oU ops L V is (a.put x v)
 |[],_,_=>rfl
 |i::r,a,h=>by
  simp only[oU]
  rw[Qh r _ (fun j hj=>h j (List.mem_cons_of_mem _ hj))]
  congr 1
  split
  ·
   exact Act.put_comm _ _ _ (h i (List.mem_cons_self ..))
  ·
   rfl
theorem uF:∀(is:List Nat) (a:Act),(∀j∈is,L j=L' j∧V j=V' j)→oU ops L V is a=oU ops L' V' is a
 |[],_,_=>rfl
 |i::r,a,h=>by
  simp only[oU]
  rw[(h i (List.mem_cons_self ..)).1,(h i (List.mem_cons_self ..)).2]
  exact uF r _ (fun j hj=>h j (List.mem_cons_of_mem _ hj))
theorem xg {i:Nat} {v:Value} (hL:L i=false):∀(is:List Nat) (a:Act),is.Nodup→i∈is→(∀j∈is,i≠j→∀d,dZ ops j=some d→dZ ops i≠some d)→(oU ops L V is a).put (dZ ops i) v=oU ops (dN L i) (gY V i v) is a
 |[],_,_,hi,_=>nomatch hi
 |j::r,a,hn,hi,hd=>by
  obtain⟨hj,hn⟩:=List.nodup_cons.1 hn
  by_cases e:j=i
  ·
   subst e
   have h0:dN L j j=true:=by simp[dN]
   have h1:gY V j v j=v:=by simp[gY]
   have h2:L j=false:=hL
   simp only[oU]
   rw[h0,h1,h2]
   simp only[Bool.false_eq_true,if_false,if_true]
   rw[Qh r a (fun k hk=>hd k (List.mem_cons_of_mem _ hk) (fun e=>hj (e▸hk)))]
   exact uF r _ (fun k hk=>by
    have:k≠j:=fun e=>hj (e▸hk)
    simp[dN,gY,this])
  ·
   have h0:dN L i j=L j:=by simp[dN,e]
   have h1:gY V i v j=V j:=by simp[gY,e]
   simp only[oU]
   rw[h0,h1]
   exact xg hL r _ hn ((List.mem_cons.1 hi).resolve_left (fun h=>e h.symm)) (fun k hk=>hd k (List.mem_cons_of_mem _ hk))
theorem IQ {k:Nat}:∀(is:List Nat) (a:Act),(∀j∈is,dZ ops j≠some k)→(oU ops L V is a).eval (.tmp k)=a.eval (.tmp k)
 |[],_,_=>rfl
 |i::r,a,h=>by
  simp only[oU]
  rw[IQ r _ (fun j hj=>h j (List.mem_cons_of_mem _ hj))]
  split
  ·
   exact Act.eval_put (fun d hd e=>by cases e;exact h i (List.mem_cons_self ..) hd)
  ·
   rfl
theorem bK (a:Act) (k:Nat):a.eval (.tmp k)=a.tmps[k]?.getD undef:=by simp[Act.eval]
theorem KJ (a:Act) (x:Option Tmp) (v:Value):(a.put x v).tmps.size=a.tmps.size:=by cases x<;>simp[Act.put]
theorem Ec {i k:Nat} (hk:dZ ops i=some k) (hL:L i=true):∀(is:List Nat) (a:Act),is.Nodup→i∈is→(∀j∈is,i≠j→dZ ops j≠some k)→k<a.tmps.size→(oU ops L V is a).eval (.tmp k)=V i
 |[],_,_,hi,_,_=>nomatch hi
 |j::r,a,hn,hi,hd,hs=>by
  obtain⟨hj,hn⟩:=List.nodup_cons.1 hn
  by_cases e:j=i
  ·
   subst e
   have h2:L j=true:=hL
   simp only[oU]
   rw[h2]
   simp only[if_true]
   rw[IQ r _ (fun m hm=>hd m (List.mem_cons_of_mem _ hm) (fun e=>hj (e▸hm))),hk]
   simp[Act.eval,Act.put,hs]
  ·
   simp only[oU]
   refine Ec hk hL r _ hn ((List.mem_cons.1 hi).resolve_left (fun h=>e h.symm)) (fun m hm=>hd m (List.mem_cons_of_mem _ hm)) ?_
   split
   ·
    rw[KJ];exact hs
   ·
    exact hs
theorem IU:∀(is:List Nat) (a:Act),(∀i∈is,L i=true)→oU ops L V is a=lX ops V is a
 |[],_,_=>rfl
 |i::r,a,h=>by
  simp only[oU,lX]
  rw[h i (List.mem_cons_self ..)]
  exact IU r _ (fun j hj=>h j (List.mem_cons_of_mem _ hj))
theorem zN:∀(is:List Nat) (a:Act),(∀i,L i=false)→oU ops L V is a=a
 |[],_,_=>rfl
 |i::r,a,h=>by
  simp only[oU]
  rw[h i]
  exact zN r _ h
end
def zO (listed:Array Bool):Nat:=listed.toList.countP (fun b=> !b)
theorem G7 (listed:Array Bool) (i:Nat) (h:listed.getD i true=false):zO (listed.setIfInBounds i true)+1=zO listed:=by
 have key:∀(l:List Bool) (i:Nat),l[i]?=some false→(l.set i true).countP (fun b=> !b)+1=l.countP (fun b=> !b):=by
  intro l;induction l with
  |nil=>intro i h;simp at h
  |cons b r ih=>
   intro i h;cases i with
   |zero=>simp at h;subst h;simp
   |succ i=>have:=ih i (by simpa using h);simp only[List.set_cons_succ,List.countP_cons];omega
 have hi:listed[i]?=some false:=by
  rw[Array.getD_eq_getD_getElem?]at h;cases e:listed[i]? with
  |none=>rw[e]at h;simp at h
  |some b=>rw[e]at h;simp at h;rw[h]
 unfold zO;rw[Array.toList_setIfInBounds];exact key _ _ (by simpa using hi)
theorem Ed {listed:Array Bool} (h:zO listed=0) (i:Nat):listed.getD i true=true:=by
 rw[Array.getD_eq_getD_getElem?];cases e:listed[i]? with
 |none=>rfl
 |some b=>
  unfold zO at h;have hm:b∈listed.toList:=by simpa using Array.mem_of_getElem? e
  have:=List.countP_eq_zero.1 h b hm;simpa using this
section
variable {P : Program} {md : Region.Mode} {ops : Array Oper} {Q : Exit → Act → World → Prop} {a0 : Act} {n : Nat} {J : (Nat → Bool) → (Nat → Value) → World → Prop}
def zQ (F:Nat→Oper→Prop):Nat→List Oper→Prop
 |_,[]=>True
 |i,o::r=>F i o∧zQ F (i+1) r
theorem zQ.get {F:Nat→Oper→Prop}:∀(l:List Oper) (i k:Nat) (o:Oper),zQ F k l→l[i]?=some o→F (k+i) o
 |[],i,k,o,_,h=>by simp at h
 |x::r,0,k,o,hs,h=>by
  simp at h;subst h
  exact hs.1
 |x::r,i+1,k,o,hs,h=>by
  have:=zQ.get r i (k+1) o hs.2 (by simpa using h)
  rwa [Nat.add_assoc,Nat.add_comm 1 i]at this
theorem zQ.at {F:Nat→Oper→Prop} {ops:Array Oper} (h:zQ F 0 ops.toList) {i:Nat} {o:Oper} (ho:ops[i]?=some o):F i o:=by
 have:=zQ.get ops.toList i 0 o h (by simpa using ho)
 rwa [Nat.zero_add]at this
theorem Ee {ops:Array Oper} {L:Nat→Bool} {V:Nat→Value}:∀(is:List Nat) (a:Act),(oU ops L V is a).defers=a.defers
 |[],_=>rfl
 |i::r,a=>by
  simp only[oU]
  rw[Ee r]
  split
  ·
   cases dZ ops i<;>rfl
  ·
   rfl
theorem xh {ops:Array Oper} {L:Nat→Bool} {V:Nat→Value}:∀(is:List Nat) (a:Act),(oU ops L V is a).tmps.size=a.tmps.size
 |[],_=>rfl
 |i::r,a=>by
  simp only[oU]
  rw[xh r]
  split
  ·
   exact KJ _ _ _
  ·
   rfl
def gdD (md:Region.Mode) (ops:Array Oper):Bool:=(List.range ops.size).all fun i=>match ops[i]? with
 |some o=>(match o.guard with
  |none=>true
  |some (j,_)=>(qi md o).contains j&&(dZ ops j).isSome)
 |none=>true
def NK (P:Program) (Q:Exit→Act→World→Prop) (J:(Nat→Bool)→(Nat→Value)→World→Prop) (L:Nat→Bool) (V:Nat→Value) (w:World) (a:Act) (i:Nat) (o:Oper):Prop:=
 match o.guard with
 |none=>o.wp P a w (fun a' w'=>∃v,a'=a.put o.dst v∧J (dN L i) (gY V i v) w') Q
 |some (j,want)=>(V j=.bool want∧o.wp P a w (fun a' w'=>∃v,a'=a.put o.dst v∧J (dN L i) (gY V i v) w') Q)∨(V j≠.bool want∧J (dN L i) (gY V i undef) w)
theorem KL (hn:ops.size=n) (hd:ug ops (List.range n)=true) (hb:Ea md ops=true) (hr:Eb ops (List.range n) a0.tmps.size=true) (hg:gdD md ops=true) (hs:∀i o,ops[i]?=some o→∀(L:Nat→Bool) (V:Nat→Value) (w:World) (a:Act),(∀j k,dZ ops j=some k→L j=true→a.tmps[k]?.getD undef=V j)→(∀k,YG ops (List.range n) k=true→a.tmps[k]?.getD undef=a0.tmps[k]?.getD undef)→a.defers=a0.defers→L i=false→(∀j,(qi md o).contains j=true→L j=true)→J L V w→NK P Q J L V w a i o) (hdone:∀L V w,(∀i,i<n→L i=true)→J L V w→Q .normal (lX ops V (List.range n) a0) w):
  ∀(fuel:Nat) (listed:Array Bool) (L:Nat→Bool) (V:Nat→Value) (w:World),listed.size=n→(∀i,i<n→L i=listed.getD i true)→zO listed≤fuel→J L V w→
   wpAny P md ops Q fuel listed (oU ops L V (List.range n) a0) w:=by
 have hall:∀(listed:Array Bool) (L:Nat→Bool) (V:Nat→Value) (w:World),(∀i,i<n→L i=listed.getD i true)→(∀i,listed.getD i true=true)→J L V w→Q .normal (oU ops L V (List.range n) a0) w:=by
  intro listed L V w hL h hJ
  rw[IU _ _ (fun i hi=>by rw[hL i (List.mem_range.1 hi),h i])]
  exact hdone L V w (fun i hi=>by rw[hL i hi,h i]) hJ
 have hmono:∀(i:Nat) (o:Oper),ops[i]?=some o→∀e∈o.after,Region.binds md e=true→e.on<i:=by
  intro i o ho e he hbe
  have hi:i<ops.size:=(Array.getElem?_eq_some_iff.1 ho).1
  have h:=List.all_eq_true.1 hb i (List.mem_range.2 hi)
  simp only[ho]at h
  have h2:=Array.all_eq_true_iff_forall_mem.1 h e he
  simpa[hbe]using h2
 intro fuel
 induction fuel with
 |zero=>
  intro listed L V w hsz hL hc hJ
  have h0:=Ed (Nat.le_zero.1 hc)
  refine⟨List.eq_nil_iff_forall_not_mem.2 (fun i hi=> ?_),hall listed L V w hL h0 hJ⟩
  have:=(mem_ready.1 hi).1
  rw[h0 i]at this;cases this
 |succ fuel ih=>
  intro listed L V w hsz hL hc hJ
  refine⟨fun hnil=> ?_,fun i hi=> ?_⟩
  ·
   refine hall listed L V w hL (fun i=> ?_) hJ
   induction i using Nat.strongRecOn with
   |ind i ihi=>
    cases hlt:listed.getD i true with
    |true=>rfl
    |false=>
     have hi:i<listed.size:=by
      rcases Nat.lt_or_ge i listed.size with h|h
      ·
       exact h
      ·
       rw[Array.getD_eq_getD_getElem?,Array.getElem?_eq_none h]at hlt;cases hlt
     have hmem:i∈Region.ready md ops listed:=by
      refine mem_ready.2 ⟨hlt,ops[i]' oV,Array.getElem?_eq_getElem oV,fun e he hbe=> ?_⟩
      have h1:=hmono i _ (Array.getElem?_eq_getElem oV) e he hbe
      have h2:=ihi e.on h1
      rw[Array.getD_eq_getD_getElem?]at h2⊢
      rw[Array.getElem?_eq_getElem (show e.on<listed.size by omega)]at h2⊢
      simpa using h2
     rw[hnil]at hmem;cases hmem
  ·
   obtain⟨h1,o,ho,h2⟩:=mem_ready.1 hi
   have hin:i<n:=by rw[←hn];exact(Array.getElem?_eq_some_iff.1 ho).1
   have hLi:L i=false:=by rw[hL i hin];exact h1
   have hap:∀j,j∈List.range n→i≠j→∀d,dZ ops j=some d→dZ ops i≠some d:=fun j hj hne d h3=>qo hd hj (List.mem_range.2 hin) (Ne.symm hne) d h3
   have hev:∀j k,dZ ops j=some k→L j=true→(oU ops L V (List.range n) a0).tmps[k]?.getD undef=V j∧k<a0.tmps.size:=(fun j k hjk Gg=>by
     have hjn:j<n:=by
      rw[←hn]
      rcases Nat.lt_or_ge j ops.size with h|h
      ·
       exact h
      ·
       simp[dZ,Array.getElem?_eq_none h]at hjk
     have hk:k<a0.tmps.size:=by
      have:=List.all_eq_true.1 hr j (List.mem_range.2 hjn)
      simp only[hjk]at this
      simpa using this
     rw[←bK]
     exact⟨Ec hjk Gg _ _ List.nodup_range (List.mem_range.2 hjn) (fun m hm hne=>qo hd (List.mem_range.2 hjn) hm hne k hjk) hk,hk⟩)
   have ak:∀j,(qi md o).contains j=true→L j=true:=(fun j hj=>by
     have hj':j∈qi md o:=by simpa using hj
     obtain⟨e,he,rfl⟩:=List.mem_map.1 hj'
     obtain⟨he1,he2⟩:=List.mem_filter.1 he
     have h3:=h2 e (by simpa using he1) he2
     have h4:=hmono i o ho e (by simpa using he1) he2
     rw[hL e.on oV]
     rw[Array.getD_eq_getD_getElem?]at h3⊢
     rw[Array.getElem?_eq_getElem (show e.on<listed.size by omega)]at h3⊢
     simpa using h3)
   have hob:=hs i o ho L V w (oU ops L V (List.range n) a0) (fun j k h1 h2=>(hev j k h1 h2).1)
    (fun k hk=>by
     rw[←bK,←bK]
     exact IQ _ _ (fun j hj e=>by
     have:=List.all_eq_true.1 hk j hj
     simp[e]at this))
    (Ee _ _) hLi ak hJ
   have hdst:o.dst=dZ ops i:=by simp[dZ,ho]
   have hnext:∀(v:Value) (w':World),J (dN L i) (gY V i v) w'→wpAny P md ops Q fuel (listed.setIfInBounds i true) ((oU ops L V (List.range n) a0).put o.dst v) w':=by
    intro v w' hJ'
    rw[hdst,xg hLi _ _ List.nodup_range (List.mem_range.2 hin) hap]
    refine ih (listed.setIfInBounds i true) _ _ w' (by simp[hsz]) (fun j hj=> ?_) (by have:=G7 listed i h1;omega) hJ'
    unfold dN
    by_cases e:j=i
    ·
     subst e
     rw[if_pos rfl,Array.getD_eq_getD_getElem?,Array.getElem?_setIfInBounds_self_of_lt oV];rfl
    ·
     rw[if_neg e,hL j hj,Array.getD_eq_getD_getElem?,Array.getD_eq_getD_getElem?,Array.getElem?_setIfInBounds_ne (Ne.symm e)]
   unfold wpOp
   simp only[ho]
   unfold NK at hob
   cases hgo:o.guard with
   |none=>
    rw[hgo]at hob
    have hw:Region.wanted o (yielded ops (oU ops L V (List.range n) a0).tmps)=true:=by simp[Region.wanted,hgo]
    rw[if_pos hw]
    refine .inl (Oper.wp_mono ?_ hob)
    rintro a' w' ⟨v,rfl,hJ'⟩
    exact hnext v w' hJ'
   |some gw=>
    obtain⟨j,want⟩:=gw
    rw[hgo]at hob
    have hgd:=List.all_eq_true.1 hg i (List.mem_range.2 oV)
    simp only[ho,hgo,Bool.and_eq_true]at hgd
    have Gg:=ak j hgd.1
    obtain⟨k,hk⟩:=Option.isSome_iff_exists.1 hgd.2
    obtain⟨hv,hks⟩:=hev j k hk Gg
    have h3:(ops[j]?).bind (·.dst)=some k:=hk
    have h4:(oU ops L V (List.range n) a0).tmps[k]?=some (V j):=by
     have hsz2:k<(oU ops L V (List.range n) a0).tmps.size:=by rw[xh];exact hks
     rw[Array.getElem?_eq_getElem hsz2]at hv⊢
     rw[←hv];rfl
    have hyl:yielded ops (oU ops L V (List.range n) a0).tmps j=match V j with| .bool b=>some b|_=>none:=by
     unfold yielded
     rw[h3,Option.bind_some,h4]
     cases V j<;>rfl
    rcases hob with⟨hb,hob⟩|⟨hb,hJ'⟩
    ·
     have hw:Region.wanted o (yielded ops (oU ops L V (List.range n) a0).tmps)=true:=by simp[Region.wanted,hgo,hyl,hb]
     rw[if_pos hw]
     refine .inl (Oper.wp_mono ?_ hob)
     rintro a' w' ⟨v,rfl,hJ'⟩
     exact hnext v w' hJ'
    ·
     have hw:¬Region.wanted o (yielded ops (oU ops L V (List.range n) a0).tmps)=true:=by
       simp only[Region.wanted,hgo,hyl]
       intro h5
       refine hb ?_
       cases e:V j with
       |bool b=>
        rw[e]at h5
        have h6:some b=some want:=by simpa using h5
        cases h6
        rfl
       |_=>rw[e]at h5;simp at h5
     rw[if_neg hw]
     exact hnext undef w hJ'
theorem wB {id:Nat} {w:World} (hm:P.follows .mixedOrders=true) (J:(Nat→Bool)→(Nat→Value)→World→Prop) (n:Nat) (hn:ops.size=n) (hd:ug ops (List.range n)=true) (hb:Ea .any ops=true) (hr:Eb ops (List.range n) a0.tmps.size=true) (hg:gdD .any ops=true) (h0:J (fun _=>false) (fun _=>undef) w.drew) (hs:∀i o,ops[i]?=some o→∀(L:Nat→Bool) (V:Nat→Value) (w:World) (a:Act),(∀j k,dZ ops j=some k→L j=true→a.tmps[k]?.getD undef=V j)→(∀k,YG ops (List.range n) k=true→a.tmps[k]?.getD undef=a0.tmps[k]?.getD undef)→a.defers=a0.defers→L i=false→(∀j,(qi .any o).contains j=true→L j=true)→J L V w→NK P Q J L V w a i o) (hdone:∀L V w,(∀i,i<n→L i=true)→J L V w→Q .normal (lX ops V (List.range n) a0) w):(Code.region id ops true).wp P Q a0 w:=by
 refine wp_region_any hm ?_;have h:=KL (P:=P) hn hd hb hr hg hs hdone ops.size (Array.replicate ops.size false) (fun _=>false) (fun _=>undef) w.drew (by simp[hn])
  (fun i hi=>by rw[Array.getD_eq_getD_getElem?,Array.getElem?_replicate,if_pos oV];rfl) (by
   unfold zO
   simp only[Array.toList_replicate]
   exact Nat.le_trans List.countP_le_length (by simp)) h0
 rw[zN _ _ jd]at h;exact h
theorem UG {md:Region.Mode} (hg:(ops.toList.all fun o=>o.guard.isNone)=true):gdD md ops=true:=by refine List.all_eq_true.2 fun i hi=> ?_;have hlt:=List.mem_range.1 hi;rw[Array.getElem?_eq_getElem hlt];have h:=List.all_eq_true.1 hg ops[i] (by simp);simp only[Option.isNone_iff_eq_none]at h;simp only[h]
theorem NM (hg:(ops.toList.all fun o=>o.guard.isNone)=true) {i:Nat} {o:Oper} (ho:ops[i]?=some o):o.guard=none:=by have:=List.all_eq_true.1 hg o (by simpa using Array.mem_of_getElem? ho);simpa using this
end
theorem eG {P:Program} {op:Oper} {a:Act} {w:World} {K:Act→World→Prop} {Q:Exit→Act→World→Prop} (ty:TypeId) (x y:Operand) (ho:op.op=.store ty x y) (b o t:Nat) (c:Array Value) (vs:List Value) (hx:a.eval x=.pointer (some ⟨b,o,none⟩)) (hy:a.eval y=.agg vs.toArray) (hb:w.heap[b]?=some (.cells c t (0,0))) (hi:(P.info? ty).map (·.size)=some vs.length) (hc:o+vs.length≤c.size) (h1:∀v∈vs,v.oneCell'=true) (h:∀w',w'.heap[b]?=some (.cells (c.toList.take o++(vs++c.toList.drop (o+vs.length))).toArray t (0,0))→Step (·=b) w w'→K (a.put op.dst undef) w'):op.wp P a w K Q:=by
 refine wp_store_mid ty x y ho b o vs.toArray hx hy (fun j hj=> ?_) (by simpa using hi) (all_oneCell_toArray h1) ?_
 ·have hj':o+j<c.size:=by (have:j<vs.length:=by simpa using hj);omega
  rw[ah hb (o+j) _ (Array.getElem?_eq_getElem hj'),aH hb];exact⟨rfl,rfl⟩
 ·obtain⟨h2,h3⟩:=uf vs o c w hb;rw[w_ vs o c hc]at h2;exact h _ (by simpa using h2) (by simpa using h3)
section
variable {P : Program}
theorem Gh (w:World) (t e:TypeId) (i:TypeInfo) (z:Value) (vs:List Value) (ht:P.underlying t=some (.slice e)) (hi:P.info? e=some i) (hz:i.zero=some z) (hsize:i.size=vs.length) (hzs:z.cells.size=vs.length) (h0:0<vs.length) (hm:vs.length≤16777216):(Instr.buildSlice t 1 #[(0,.agg vs.toArray)]).run P w=.ok (.slice (some ⟨w.heap.size,0,none⟩) 1 1) (w.alloc (.cells vs.toArray e)):=by
 have hf:vs.zipIdx.foldl (fun(c:Array Value) (x:Value×Nat)=>c.setIfInBounds (0+x.2) x.1) ((Array.range vs.length).map (z.cells[· %z.cells.size]!))=vs.toArray:=by rw[w_ vs 0 _ (by simp)];simp
 simp only[Nat.zero_add]at hf;have hc:(Value.agg vs.toArray).cells=vs.toArray:=rfl;have n1:¬16777216<vs.length:=by omega
 have n2:¬vs.length=0:=by omega
 simp[Instr.buildSlice,run_underlying ht,sizeOf,typeInfo,hi,zeroValue,hz,newRow,Instr.fill,hsize,n1,n2,hc,hf]
theorem mV {ops:Array Oper} {rest:List Oper} {op:Oper} {a:Act} {w:World} {Q:Exit→Act→World→Prop} (hgd:op.guard=none) (t:TypeId) (y:Operand) (ho:op.op=.buildSlice t 1 #[(0,y)]) (e:TypeId) (i:TypeInfo) (z:Value) (vs:List Value) (hy:a.eval y=.agg vs.toArray) (ht:P.underlying t=some (.slice e)) (hi:P.info? e=some i) (hz:i.zero=some z) (hsize:i.size=vs.length) (hzs:z.cells.size=vs.length) (h0:0<vs.length) (hm:vs.length≤16777216) (h:wpList P ops Q rest (a.put op.dst (.slice (some ⟨w.heap.size,0,none⟩) 1 1)) (w.alloc (.cells vs.toArray e))):wpList P ops Q (op::rest) a w:=by refine wpList_plain hgd fun _ hK=> ?_;unfold Oper.wp execOp;simp only[ho,List.map_toArray,List.map_cons,List.map_nil,hy,Sem.run_bind,Sem.run_pure,Gh w t e i z vs ht hi hz hsize hzs h0 hm,Result.andThen_ok];exact hK _ _ h
end
section
variable {P : Program}
end
abbrev Rs:=Value→World→(Nat→Prop)→Prop
structure Rs.Ok (r:Rs):Prop where
 step:∀{v:Value} {w w':World} {P S:Nat→Prop},Step S w w'→(∀q,P q→¬S q)→r v w P→r v w' P
 mono:∀{v:Value} {w:World} {P P':Nat→Prop},(∀q,q<w.heap.size→P q→P' q)→r v w P→r v w P'
structure Rb where
 r:Rs
 ok:r.Ok
inductive Sp where
 |p (v:Value)
 |r (use:List Nat) (out:Rb)
def Sp.out:Sp→Rs
 | .p v=>fun u _ _=>u=v
 | .r _ o=>o.r
theorem Sp.ok:∀s:Sp,s.out.Ok
 | .p _=>⟨fun _ _ h=>h,fun _ h=>h⟩
 | .r _ o=>o.ok
def Sp.use:Sp→List Nat
 | .p _=>[]
 | .r u _=>u
def Sp.isP:Sp→Bool
 | .p _=>true
 | .r _ _=>false
def Sp.val:Sp→Value
 | .p v=>v
 | .r _ _=>undef
abbrev QN:Exit→Act→World→Prop:=fun _ _ _=>False
abbrev Sf:Nat→Prop:=fun _=>False
def lG (dI:List Sp) (i:Nat):Sp:=dI.getD i (.p undef)
def oW (dI:List Sp) (i j:Nat):Bool:=decide (j<i)&&(lG dI j).isP
def rM (dI:List Sp) (j:Nat):Value:=(lG dI j).val
section
variable (P : Program) (ops : Array Oper) (dI : List Sp) (N : Nat → Prop) (w1 : World)
def Uy (o:Oper) (out:Rs):List Nat→Act→World→(Nat→Prop)→Prop
 |[],a,X,B=>o.wp P a X (fun a' X'=>∃v,a'=a.put o.dst v∧Step B X X'∧out v X' (fun q=>B q∨X.heap.size≤q)) QN
 |k::r,a,X,B=>∀v C,(lG dI k).out v X C→(∀q,C q→N q∧¬B q)→Uy o out r (a.put (dZ ops k) v) X (fun q=>B q∨C q)
def ObA (o:Oper) (s:Sp) (a:Act):Prop:=match s with
 | .p v=>(Region.wanted o (yielded ops a.tmps)=true∧∀X,Step N w1 X→o.wp P a X (fun a' X'=>a'=a.put o.dst v∧X'=X) QN)∨(Region.wanted o (yielded ops a.tmps)=false∧v=undef)
 | .r us out=>Region.wanted o (yielded ops a.tmps)=true∧∀X,Step N w1 X→Uy P ops dI N o out.r us a X Sf
def xk:List Oper→List Sp→Act→Prop
 |o::r,s::ss,a=>ObA P ops dI N w1 o s a∧xk r ss (match s with| .p v=>a.put o.dst v| .r _ _=>a)
 |[],_,_=>True
 |_::_,[],_=>False
end
def chkS (ops:Array Oper) (dI:List Sp):Bool:=(List.range ops.size).all fun i=>match ops[i]? with
 |none=>false
 |some o=>(match o.op with| .select _ _=>false|_=>true)&&(match o.guard with|some (g,_)=>(lG dI g).isP&&(qi .any o).contains g&&(dZ ops g).isSome|none=>true)&&
  ((o.looksAt ops).all fun t=>(List.range ops.size).all fun j=>dZ ops j !=some t||((qi .any o).contains j&&((lG dI j).isP||(lG dI i).use.contains j))||(match ops[j]? with|some oj=>(qi .any oj).contains i|none=>false))&&
  ((lG dI i).use.all fun k=>(decide (ops.size≤k)||((qi .any o).contains k&& !(lG dI k).isP))&&(List.range ops.size).all fun j=>j==i|| !(lG dI j).use.contains k)&&decide (lG dI i).use.Nodup
structure SJ (ops:Array Oper) (dI:List Sp) (N:Nat→Prop) (w1:World) (L:Nat→Bool) (V:Nat→Value) (X:World):Prop where
 ow:∃f:Nat→Nat,∀k,(k<ops.size→L k=true)→(∀j,j<ops.size→L j=true→k∉(lG dI j).use)→(lG dI k).out (V k) X (fun q=>N q∧f q=k)
 st:Step N w1 X
 dn:∀j o,ops[j]?=some o→L j=true→∀d,(qi .any o).contains d=true→L d=true
section
variable {P : Program} {ops : Array Oper} {dI : List Sp} {N : Nat → Prop} {w1 : World} {Q : Exit → Act → World → Prop} {a0 : Act} {n : Nat}
theorem YH {L:Nat→Bool} {V:Nat→Value} (hn:ops.size=n) (hd:ug ops (List.range n)=true) (hr:Eb ops (List.range n) a0.tmps.size=true) {j t:Nat} (hjk:dZ ops j=some t) (hL:L j=true):(oU ops L V (List.range n) a0).tmps[t]?=some (V j):=by
 have hjn:j<n:=by
  rw[←hn];rcases Nat.lt_or_ge j ops.size with h|h
  ·exact h
  ·simp[dZ,Array.getElem?_eq_none h]at hjk
 have hk:t<a0.tmps.size:=by have:=List.all_eq_true.1 hr j (List.mem_range.2 hjn);simp only[hjk]at this;simpa using this
 have h1:=Ec (V:=V) hjk hL (List.range n) a0 List.nodup_range (List.mem_range.2 hjn) (fun m hm hne=>qo hd (List.mem_range.2 hjn) hm hne t hjk) hk;rw[bK]at h1;have h2:t<(oU ops L V (List.range n) a0).tmps.size:=by rw[xh];exact hk
 rw[Array.getElem?_eq_getElem h2]at h1⊢;rw[←h1];rfl
theorem frG2 {L:Nat→Bool} {V:Nat→Value} {t:Nat}:∀(is:List Nat) (a:Act),(∀j∈is,dZ ops j=some t→L j=false)→(oU ops L V is a).tmps[t]?=a.tmps[t]?
 |[],_,_=>rfl
 |i::r,a,h=>by
  simp only[oU]
  rw[frG2 r _ (fun j hj=>h j (List.mem_cons_of_mem _ hj))]
  split
  ·
   rename_i hL
   cases hx:dZ ops i with
   |none=>rfl
   |some d=>
    have hne:d≠t:=fun e=>by rw[h i (List.mem_cons_self ..) (by rw[hx,e])]at hL;cases hL
    simp[Act.put,Array.getElem?_setIfInBounds_ne hne]
  ·
   rfl
theorem x_ {a b:Act} (hs:b.tmps.size=a.tmps.size) {d:Option Tmp} {u v:Value} (h:a.put d u=a.put d v):b.put d u=b.put d v:=by
 cases d with
 |none=>rfl
 |some d=>
  have h2:a.tmps.setIfInBounds d u=a.tmps.setIfInBounds d v:=congrArg Act.tmps h;by_cases hd:d<a.tmps.size
  ·have h3:=congrArg (fun x:Array Value=>x[d]?) h2;simp[hd]at h3;rw[h3]
  ·show({b with tmps:=b.tmps.setIfInBounds d u}:Act)={b with tmps:=b.tmps.setIfInBounds d v};(have h5:b.tmps.size≤d:=by rw[hs];exact Nat.le_of_not_lt hd);rw[Array.setIfInBounds_eq_of_size_le h5,Array.setIfInBounds_eq_of_size_le h5]
theorem Qi (a:Act) (d:Option Tmp) (v:Value):(a.put d v).defers=a.defers:=by cases d<;>rfl
theorem UH {o:Oper} {a b:Act} {R:Value→World→Prop} (hs:b.tmps.size=a.tmps.size) {r:Result Next} (h:o.upon P a (fun a' w'=>∃v,a'=a.put o.dst v∧R v w') QN r):o.upon P b (fun b' w'=>∃v,b'=b.put o.dst v∧R v w') Q r:=by
 cases r with
 |ok n w'=>
  cases n<;>simp only[Oper.upon]at h⊢;case value u=>obtain⟨v,h1,h2⟩:=h;exact⟨v,x_ hs h1,h2⟩
  case skip=>obtain⟨v,h1,h2⟩:=h;exact⟨v,x_ hs h1,h2⟩
  case defer d=>obtain⟨v,h1,-⟩:=h;have h2:=congrArg Act.defers h1;rw[Qi,Qi]at h2;have h3:=congrArg List.length h2;simp at h3
  case enter f args=>
   refine Calls.mono h fun e w2 he=> ?_;cases e with
   |returned u=>obtain⟨v,h1,h2⟩:=he;exact⟨v,x_ hs h1,h2⟩
   |panicked c=>exact he.elim
   |outgrown=>exact(let⟨_,_,h⟩:=he;h.elim)
  case row row args=>exact Rows.mono h fun u w2 he=>(let⟨v,h1,h2⟩:=he;⟨v,x_ hs h1,h2⟩)
 |halt x w'=>cases x;all_goals first|exact h.elim|(simp only[Oper.upon]at h)
theorem UI {o:Oper} {a b:Act} {X:World} {R:Value→World→Prop} (hsel:∀cs b,o.op≠.select cs b) (hs:b.tmps.size=a.tmps.size) (he:∀t∈o.looksAt ops,b.tmps[t]?=a.tmps[t]?) (h:o.wp P a X (fun a' w'=>∃v,a'=a.put o.dst v∧R v w') QN):o.wp P b X (fun b' w'=>∃v,b'=b.put o.dst v∧R v w') Q:=by
 unfold Oper.wp at h⊢;rw[execOp_congr (ρ:=b.eval) (ρ':=a.eval) o hsel (fun x hx=> ?_)]
 ·exact UH hs h
 ·cases x with
  |tmp t=>rw[bK,bK,he t (List.mem_append_left _ (List.mem_filterMap.2 ⟨.tmp t,by simpa using hx,rfl⟩))]
  |_=>rfl
theorem NP {o:Oper} {a b:Act} (he:∀g want t,o.guard=some (g,want)→dZ ops g=some t→b.tmps[t]?=a.tmps[t]?):Region.wanted o (yielded ops b.tmps)=Region.wanted o (yielded ops a.tmps):=by
 unfold Region.wanted;cases hg:o.guard with
 |none=>rfl
 |some gw=>
  obtain⟨g,want⟩:=gw;have hy:yielded ops b.tmps g=yielded ops a.tmps g:=by
   unfold yielded;cases ht:(ops[g]?).bind (·.dst)with
   |none=>rfl
   |some t=>rw[Option.bind_some,Option.bind_some,he g want t hg ht]
  simp only[hy]
theorem SJ.use {L:Nat→Bool} {V:Nat→Value} {X:World} (hN:∀q,w1.heap.size≤q→N q) (h:SJ ops dI N w1 L V X) {i:Nat} (hi:i<ops.size) (hL:L i=false) (f:Nat→Nat) (hf:∀k,(k<ops.size→L k=true)→(∀j,j<ops.size→L j=true→k∉(lG dI j).use)→(lG dI k).out (V k) X (fun q=>N q∧f q=k)) (ak:∀o,ops[i]?=some o→∀d,(qi .any o).contains d=true→L d=true) (v:Value) (X':World) (hs:Step (fun q=>N q∧f q∈(lG dI i).use) X X') (ho:(lG dI i).out v X' (fun q=>(N q∧f q∈(lG dI i).use)∨X.heap.size≤q)):SJ ops dI N w1 (dN L i) (gY V i v) X':=by
 have hOk:∀k,(lG dI k).out.Ok:=fun k=>(lG dI k).ok;have hsz:=h.st.size;refine⟨?_,h.st.trans (hs.mono (fun q _ e=>e.1)),?_⟩
 ·classical
  refine⟨fun q=>if(N q∧f q∈(lG dI i).use)∨X.heap.size≤q then i else f q,fun k hk hlive=> ?_⟩
  by_cases e:k=i
  ·
   subst e
   unfold gY
   rw[if_pos rfl]
   refine(hOk k).mono (fun q _ hq=>⟨?_,if_pos hq⟩) ho
   rcases hq with hq|hq
   ·
    exact hq.1
   ·
    exact hN q oV
  ·
   have hk':k<ops.size→L k=true:=fun hk2=>by have:=hk hk2;unfold dN at this;rwa [if_neg e]at this
   have hl':∀j,j<ops.size→L j=true→k∉(lG dI j).use:=fun j hj Gg=>hlive j hj (by unfold dN;split;rfl;exact Gg)
   have hni:k∉(lG dI i).use:=hlive i hi (by unfold dN;rw[if_pos rfl])
   have h1:=hf k hk' hl'
   have h2:=(hOk k).mono (P':=fun q=>q<X.heap.size∧N q∧f q=k) (fun q hq h=>⟨hq,h⟩) h1
   have h3:=(hOk k).step hs (fun q hq e2=>hni (by rw[←hq.2.2];exact e2.2)) h2
   unfold gY
   rw[if_neg e]
   refine(hOk k).mono (fun q _ hq=>⟨hq.2.1,?_⟩) h3
   refine(if_neg (fun h4=> ?_)).trans hq.2.2
   rcases h4 with h4|h4
   ·
    exact hni (by rw[←hq.2.2];exact h4.2)
   ·
    have:=hq.1;omega
 ·intro j o ho' Gg d hd;unfold dN at Gg⊢;split
  ·rfl
  ·by_cases e:j=i
   ·subst e;exact ak o ho' d hd
   ·rw[if_neg e]at Gg;exact h.dn j o ho' Gg d hd
theorem xk.at (hn:ops.size=n) (hd:ug ops (List.range n)=true) (hlen:n≤dI.length):∀(k i:Nat),i+k=n→xk P ops dI N w1 (ops.toList.drop i) ((dI.take n).drop i) (oU ops (oW dI i) (rM dI) (List.range n) a0)→∀j o,i≤j→ops[j]?=some o→ObA P ops dI N w1 o (lG dI j) (oU ops (oW dI j) (rM dI) (List.range n) a0)
 |0,i,hi,_,j,o,hj,ho=>by
  have:=(Array.getElem?_eq_some_iff.1 ho).1
  omega
 |k+1,i,hi,h,j,o,hj,ho=>by
  have hl1:i<ops.toList.length:=by simp;omega
  have hl2:i<(dI.take n).length:=by rw[List.length_take];omega
  rw[List.drop_eq_getElem_cons hl1,List.drop_eq_getElem_cons hl2]at h
  obtain⟨h1,h2⟩:=h
  have hsp:(dI.take n)[i]=lG dI i:=by
   rw[List.getElem_take]
   unfold lG
   rw[List.getD_eq_getElem?_getD,List.getElem?_eq_getElem oV];rfl
  have hoi:ops[i]?=some (ops.toList[i]):=by rw[Array.getElem?_eq_getElem (by simpa using hl1)];simp
  rw[hsp]at h1 h2
  by_cases e:j=i
  ·
   subst e
   have:o=ops.toList[j]:=by rw[hoi]at ho;exact(Option.some.inj ho).symm
   rw[this];exact h1
  ·
   refine xk.at hn hd hlen k (i+1) oV ?_ j o oV ho
   have hd0:dZ ops i=(ops.toList[i]).dst:=by simp[dZ,hoi]
   have hrg:∀L V L' V',(∀j,j<n→L j=L' j∧V j=V' j)→oU ops L V (List.range n) a0=oU ops L' V' (List.range n) a0:=fun L V L' V' hh=>uF _ _ (fun j hj=>hh j (List.mem_range.1 hj))
   cases hs:lG dI i with
   |p v=>
    rw[hs]at h2
    have h2:xk P ops dI N w1 (ops.toList.drop (i+1)) ((dI.take n).drop (i+1)) ((oU ops (oW dI i) (rM dI) (List.range n) a0).put (ops.toList[i]).dst v):=h2
    rw[←hd0,xg (by simp[oW]) _ _ List.nodup_range (List.mem_range.2 oV) (fun j hj hne d h3=>qo hd hj (List.mem_range.2 oV) (Ne.symm hne) d h3)]at h2
    rw[hrg _ _ (oW dI (i+1)) (rM dI) (fun j _=> ?_)]at h2
    ·
     exact h2
    ·
     unfold dN gY oW rM
     by_cases e2:j=i
     ·
      subst e2
      rw[if_pos rfl,if_pos rfl,hs]
      simp[Sp.isP,Sp.val]
     ·
      rw[if_neg e2,if_neg e2]
      refine⟨?_,rfl⟩
      congr 1
      exact decide_eq_decide.2 oV
   |r us out=>
    rw[hs]at h2
    have h2:xk P ops dI N w1 (ops.toList.drop (i+1)) ((dI.take n).drop (i+1)) (oU ops (oW dI i) (rM dI) (List.range n) a0):=h2
    rw[hrg _ _ (oW dI (i+1)) (rM dI) (fun j _=> ?_)]at h2
    ·
     exact h2
    ·
     unfold oW
     refine⟨?_,rfl⟩
     by_cases e2:j=i
     ·
      subst e2;rw[hs];simp[Sp.isP]
     ·
      congr 1
      exact decide_eq_decide.2 oV
theorem Uy.run {V:Nat→Value} {X:World} {o:Oper} {out:Rs} (hok:out.Ok) (hd:ug ops (List.range n)=true) (hn:ops.size=n) (f:Nat→Nat):
  ∀(us dn:List Nat) (Lc:Nat→Bool) (Vc:Nat→Value) (B:Nat→Prop),(dn++us).Nodup→(∀q,B q↔N q∧f q∈dn)→(∀k∈us,k<n→Lc k=false)→(∀k∈us,(lG dI k).out (V k) X (fun q=>N q∧f q=k))→
   Uy P ops dI N o out us (oU ops Lc Vc (List.range n) a0) X B→
   ∃Lf Vf,(∀j,Lf j=(Lc j||us.contains j))∧(∀j,Vf j=if us.contains j then V j else Vc j)∧
    o.wp P (oU ops Lf Vf (List.range n) a0) X (fun a' X'=>∃v,a'=(oU ops Lf Vf (List.range n) a0).put o.dst v∧Step (fun q=>N q∧f q∈dn++us) X X'∧out v X' (fun q=>(N q∧f q∈dn++us)∨X.heap.size≤q)) QN
 |[],dn,Lc,Vc,B,_,hB,_,_,h=>by
  refine⟨Lc,Vc,fun j=>by simp,fun j=>by simp,Oper.wp_mono ?_ h⟩
  rintro a' X' ⟨v,h1,h2,h3⟩
  rw[List.append_nil]
  exact⟨v,h1,h2.mono (fun q _ e=>(hB q).1 e),hok.mono (fun q _ e=>e.imp (hB q).1 id) h3⟩
 |k::r,dn,Lc,Vc,B,hnd,hB,hL,ho,h=>by
  have hk:=h (V k) _ (ho k (List.mem_cons_self ..)) (fun q hq=>⟨hq.1,fun hb=>by
   have h1:=((hB q).1 hb).2
   rw[hq.2]at h1
   exact(List.nodup_append.1 hnd).2.2 _ h1 _ (List.mem_cons_self ..) rfl⟩)
  have hput:(oU ops Lc Vc (List.range n) a0).put (dZ ops k) (V k)=oU ops (dN Lc k) (gY Vc k (V k)) (List.range n) a0:=by
   by_cases hkn:k<n
   ·
    exact xg (hL k (List.mem_cons_self ..) hkn) _ _ List.nodup_range (List.mem_range.2 hkn) (fun j hj hne d h3=>qo hd hj (List.mem_range.2 hkn) (Ne.symm hne) d h3)
   ·
    have:dZ ops k=none:=by simp[dZ,Array.getElem?_eq_none (show ops.size≤k by omega)]
    rw[this]
    refine uF _ _ (fun j hj=> ?_)
    have:j≠k:=by have:=List.mem_range.1 hj;omega
    simp[dN,gY,this]
  rw[hput]at hk
  have hnd2:((dn++[k])++r).Nodup:=by rw[List.append_assoc];exact hnd
  have hkr:k∉r:=(List.nodup_cons.1 (List.nodup_append.1 hnd).2.1).1
  obtain⟨Lf,Vf,h1,h2,h3⟩:=Uy.run hok hd hn f r (dn++[k]) _ _ _ hnd2 (fun q=>by
    rw[hB q]
    simp only[List.mem_append,List.mem_singleton]
    constructor
    ·
     rintro(⟨h1,h2⟩|⟨h1,h2⟩)
     ·
      exact⟨h1,.inl h2⟩
     ·
      exact⟨h1,.inr h2⟩
    ·
     rintro⟨h1,h2|h2⟩
     ·
      exact .inl ⟨h1,h2⟩
     ·
      exact .inr ⟨h1,h2⟩)
   (fun j hj hjn=>by
    unfold dN
    rw[if_neg (show j≠k from fun e=>hkr (e▸hj))]
    exact hL j (List.mem_cons_of_mem _ hj) hjn)
   (fun j hj=>ho j (List.mem_cons_of_mem _ hj)) hk
  refine⟨Lf,Vf,fun j=> ?_,fun j=> ?_,?_⟩
  ·
   rw[h1]
   unfold dN
   by_cases e:j=k
   ·
    subst e;simp
   ·
    simp[e]
  ·
   rw[h2]
   unfold gY
   by_cases e:j=k
   ·
    subst e
    have:r.contains j=false:=by simpa using hkr
    rw[this];simp
   ·
    simp[e]
  ·
   rw[List.append_assoc]at h3
   exact h3
theorem UJ (hN:∀q,w1.heap.size≤q→N q) (hn:ops.size=n) (hlen:n≤dI.length) (hd:ug ops (List.range n)=true) (hb:Ea .any ops=true) (hr:Eb ops (List.range n) a0.tmps.size=true) (hc:chkS ops dI=true) (hs:xk P ops dI N w1 ops.toList (dI.take n) a0) (hdone:∀L V X,(∀i,i<n→L i=true)→SJ ops dI N w1 L V X→Q .normal (lX ops V (List.range n) a0) X):
  ∀(fuel:Nat) (listed:Array Bool) (L:Nat→Bool) (V:Nat→Value) (w:World),listed.size=n→(∀i,i<n→L i=listed.getD i true)→zO listed≤fuel→SJ ops dI N w1 L V w→
   wpAny P .any ops Q fuel listed (oU ops L V (List.range n) a0) w:=by
 have hall:∀(listed:Array Bool) (L:Nat→Bool) (V:Nat→Value) (w:World),(∀i,i<n→L i=listed.getD i true)→(∀i,listed.getD i true=true)→SJ ops dI N w1 L V w→Q .normal (oU ops L V (List.range n) a0) w:=by
  intro listed L V w hL h hJ
  rw[IU _ _ (fun i hi=>by rw[hL i (List.mem_range.1 hi),h i])]
  exact hdone L V w (fun i hi=>by rw[hL i hi,h i]) hJ
 have hmono:∀(i:Nat) (o:Oper),ops[i]?=some o→∀e∈o.after,Region.binds .any e=true→e.on<i:=by
  intro i o ho e he hbe
  have hi:i<ops.size:=(Array.getElem?_eq_some_iff.1 ho).1
  have h:=List.all_eq_true.1 hb i (List.mem_range.2 hi)
  simp only[ho]at h
  have h2:=Array.all_eq_true_iff_forall_mem.1 h e he
  simpa[hbe]using h2
 have hlt:∀(i:Nat) (o:Oper),ops[i]?=some o→∀j,(qi .any o).contains j=true→j<i:=by
  intro i o ho j hj
  have hj':j∈qi .any o:=by simpa using hj
  obtain⟨e,he,rfl⟩:=List.mem_map.1 hj'
  obtain⟨he1,he2⟩:=List.mem_filter.1 he
  exact hmono i o ho e (by simpa using he1) he2
 have hobs:=xk.at (a0:=a0) (P:=P) (N:=N) (w1:=w1) hn hd hlen n 0 oV (by
  rw[uF (L':=fun _=>false) (V':=rM dI) _ _ (fun j _=>⟨by simp[oW],rfl⟩),zN _ _ jd]
  exact hs)
 intro fuel
 induction fuel with
 |zero=>
  intro listed L V w hsz hL hcc hJ
  have h0:=Ed (Nat.le_zero.1 hcc)
  refine⟨List.eq_nil_iff_forall_not_mem.2 (fun i hi=> ?_),hall listed L V w hL h0 hJ⟩
  have:=(mem_ready.1 hi).1
  rw[h0 i]at this;cases this
 |succ fuel ih=>
  intro listed L V w hsz hL hcc hJ
  refine⟨fun hnil=> ?_,fun i hi=> ?_⟩
  ·
   refine hall listed L V w hL (fun i=> ?_) hJ
   induction i using Nat.strongRecOn with
   |ind i ihi=>
    cases hlt:listed.getD i true with
    |true=>rfl
    |false=>
     have hi:i<listed.size:=by
      rcases Nat.lt_or_ge i listed.size with h|h
      ·
       exact h
      ·
       rw[Array.getD_eq_getD_getElem?,Array.getElem?_eq_none h]at hlt;cases hlt
     have hmem:i∈Region.ready .any ops listed:=by
      refine mem_ready.2 ⟨hlt,ops[i]' oV,Array.getElem?_eq_getElem oV,fun e he hbe=> ?_⟩
      have h1:=hmono i _ (Array.getElem?_eq_getElem oV) e he hbe
      have h2:=ihi e.on h1
      rw[Array.getD_eq_getD_getElem?]at h2⊢
      rw[Array.getElem?_eq_getElem (show e.on<listed.size by omega)]at h2⊢
      simpa using h2
     rw[hnil]at hmem;cases hmem
  ·
   obtain⟨h1,o,ho,h2⟩:=mem_ready.1 hi
   have hin:i<n:=by rw[←hn];exact(Array.getElem?_eq_some_iff.1 ho).1
   have hLi:L i=false:=by rw[hL i hin];exact h1
   have hap:∀j,j∈List.range n→i≠j→∀d,dZ ops j=some d→dZ ops i≠some d:=fun j hj hne d h3=>qo hd hj (List.mem_range.2 hin) (Ne.symm hne) d h3
   have ak:∀j,(qi .any o).contains j=true→L j=true:=(fun j hj=>by
     have hj':j∈qi .any o:=by simpa using hj
     obtain⟨e,he,rfl⟩:=List.mem_map.1 hj'
     obtain⟨he1,he2⟩:=List.mem_filter.1 he
     have h3:=h2 e (by simpa using he1) he2
     have h4:=hmono i o ho e (by simpa using he1) he2
     rw[hL e.on oV]
     rw[Array.getD_eq_getD_getElem?]at h3⊢
     rw[Array.getElem?_eq_getElem (show e.on<listed.size by omega)]at h3⊢
     simpa using h3)
   have hdst:o.dst=dZ ops i:=by simp[dZ,ho]
   obtain⟨f,hf⟩:=hJ.ow
   have hnext:∀(v:Value) (w':World),Step (fun q=>N q∧f q∈(lG dI i).use) w w'→(lG dI i).out v w' (fun q=>(N q∧f q∈(lG dI i).use)∨w.heap.size≤q)→wpAny P .any ops Q fuel (listed.setIfInBounds i true) ((oU ops L V (List.range n) a0).put o.dst v) w':=by
    intro v w' hst hout
    rw[hdst,xg hLi _ _ List.nodup_range (List.mem_range.2 hin) hap]
    refine ih (listed.setIfInBounds i true) _ _ w' (by simp[hsz]) (fun j hj=> ?_) (by have:=G7 listed i h1;omega) (hJ.use hN oV hLi f hf (fun o' ho' d hd=>by rw[ho]at ho';cases ho';exact ak d hd) v w' hst hout)
    unfold dN
    by_cases e:j=i
    ·
     subst e
     rw[if_pos rfl,Array.getD_eq_getD_getElem?,Array.getElem?_setIfInBounds_self_of_lt oV];rfl
    ·
     rw[if_neg e,hL j hj,Array.getD_eq_getD_getElem?,Array.getD_eq_getD_getElem?,Array.getElem?_setIfInBounds_ne (Ne.symm e)]
   --what was checked of it
   have hchk:=List.all_eq_true.1 hc
   have hci:=hchk i (List.mem_range.2 oV)
   simp only[ho,Bool.and_eq_true]at hci
   obtain⟨⟨⟨⟨hsel0,hgd⟩,hlook⟩,huse⟩,hnd⟩:=hci
   have hsel:∀cs b,o.op≠.select cs b:=by intro cs b e;rw[e]at hsel0;cases hsel0
   have hnd:(lG dI i).use.Nodup:=of_decide_eq_true hnd
   have KN:∀k∈(lG dI i).use,(n≤k∨((qi .any o).contains k=true∧(lG dI k).isP=false))∧∀j,j<n→j≠i→k∉(lG dI j).use:=by
    intro k hk
    have h3:=List.all_eq_true.1 huse k hk
    simp only[Bool.and_eq_true,Bool.or_eq_true,decide_eq_true_eq,Bool.not_eq_true']at h3
    refine⟨by rw[←hn];exact h3.1,fun j hj hne=> ?_⟩
    have h4:=List.all_eq_true.1 h3.2 j (List.mem_range.2 oV)
    simpa[hne]using h4
   have hpv:∀j,j<n→L j=true→(lG dI j).isP=true→V j=rM dI j:=by
    intro j hj Gg hp
    have h3:=hf j (fun _=>Gg) (fun m hm _ hmem=>by
     have h4:=hchk m (List.mem_range.2 hm)
     obtain⟨om,hom⟩:∃om,ops[m]?=some om:=⟨_,Array.getElem?_eq_getElem hm⟩
     simp only[hom,Bool.and_eq_true]at h4
     have h5:=List.all_eq_true.1 h4.1.2 j hmem
     simp only[Bool.and_eq_true,Bool.or_eq_true,decide_eq_true_eq,Bool.not_eq_true']at h5
     rcases h5.1 with h6|h6
     ·
      omega
     ·
      rw[h6.2]at hp;cases hp)
    unfold rM
    cases e:lG dI j with
    |p v=>rw[e]at h3;exact h3
    |r us out=>rw[e]at hp;cases hp
   have UK:∀(Lf:Nat→Bool) (Vf:Nat→Value),(∀j,Lf j=(oW dI i j||(lG dI i).use.contains j))→(∀j,Vf j=if(lG dI i).use.contains j then V j else rM dI j)→
     ∀t∈o.looksAt ops,(oU ops L V (List.range n) a0).tmps[t]?=(oU ops Lf Vf (List.range n) a0).tmps[t]?:=by
    intro Lf Vf hLf hVf t ht
    have hl:=List.all_eq_true.1 hlook t ht
    have hw:∀j,j<n→dZ ops j=some t→((L j=true∧Lf j=true∧Vf j=V j)∨(L j=false∧Lf j=false)):=by
     intro j hj hjt
     have h3:=List.all_eq_true.1 hl j (List.mem_range.2 oV)
     have hoj:∃oj,ops[j]?=some oj:=⟨_,Array.getElem?_eq_getElem oV⟩
     obtain⟨oj,hoj⟩:=hoj
     simp only[hjt,hoj,bne_self_eq_false,Bool.false_or,Bool.or_eq_true,Bool.and_eq_true]at h3
     rcases h3 with⟨h3,h4⟩|h3
     ·
      have Gg:=ak j h3
      have hji:=hlt i o ho j h3
      refine .inl ⟨Gg,?_,?_⟩
      ·
       rw[hLf]
       unfold oW
       rw[Bool.or_eq_true,Bool.and_eq_true,decide_eq_true_eq]
       exact h4.imp (fun h=>⟨hji,h⟩) id
      ·
       rw[hVf]
       split
       ·
        rfl
       ·
        rename_i hcn
        exact(hpv j hj Gg (h4.resolve_right hcn)).symm
     ·
      have hij:=hlt j oj hoj i h3
      refine .inr ⟨?_,?_⟩
      ·
       cases e:L j with
       |false=>rfl
       |true=>rw[hJ.dn j oj hoj e i h3]at hLi;cases hLi
      ·
       rw[hLf]
       unfold oW
       rw[decide_eq_false oV,Bool.false_and,Bool.false_or]
       cases e:(lG dI i).use.contains j with
       |false=>rfl
       |true=>
        rcases(KN j (by simpa using e)).1 with h5|h5
        ·
         omega
        ·
         have:=hlt i o ho j h5.1;omega
    by_cases hex:∃j,j<n∧dZ ops j=some t∧L j=true
    ·
     obtain⟨j,hj,hjt,Gg⟩:=hex
     rcases hw j hj hjt with⟨-,h4,h5⟩|⟨h4,-⟩
     ·
      rw[YH hn hd hr hjt Gg,YH hn hd hr hjt h4,h5]
     ·
      rw[h4]at Gg;cases Gg
    ·
     rw[frG2 _ _ (fun j hj hjt=> ?_),frG2 _ _ (fun j hj hjt=> ?_)]
     ·
      rcases hw j (List.mem_range.1 hj) hjt with⟨h4,-,-⟩|⟨-,h4⟩
      ·
       exact absurd ⟨j,List.mem_range.1 hj,hjt,h4⟩ hex
      ·
       exact h4
     ·
      cases e:L j with
      |false=>rfl
      |true=>exact absurd ⟨j,List.mem_range.1 hj,hjt,e⟩ hex
   have hw:Region.wanted o (yielded ops (oU ops L V (List.range n) a0).tmps)=Region.wanted o (yielded ops (oU ops (oW dI i) (rM dI) (List.range n) a0).tmps):=by
    refine NP (fun g want t hg ht=> ?_)
    simp only[hg,Bool.and_eq_true]at hgd
    have h3:=ak g hgd.1.2
    have h4:=hlt i o ho g hgd.1.2
    rw[YH hn hd hr ht h3,YH hn hd hr ht (by unfold oW;rw[hgd.1.1,decide_eq_true h4];rfl),hpv g oV h3 hgd.1.1]
   have hsize:∀(L L':Nat→Bool) (V V':Nat→Value),(oU ops L V (List.range n) a0).tmps.size=(oU ops L' V' (List.range n) a0).tmps.size:=fun _ _ _ _=>by rw[xh,xh]
   have hoi:=hobs i o (Nat.zero_le _) ho
   unfold wpOp
   simp only[ho]
   cases KO:lG dI i with
   |p v=>
    rw[KO]at hoi
    have hag:=UK (oW dI i) (rM dI) (fun j=>by rw[KO];simp[Sp.use]) (fun j=>by rw[KO];simp[Sp.use])
    rcases hoi with⟨h3,h4⟩|⟨h3,h4⟩
    ·
     rw[if_pos (by rw[hw];exact h3)]
     refine .inl (Oper.wp_mono ?_ (UI (R:=fun u X'=>u=v∧X'=w) hsel (hsize _ _ _ _) hag (Oper.wp_mono (fun a' X' hh=>⟨v,hh.1,rfl,hh.2⟩) (h4 w hJ.st))))
     rintro a' X' ⟨u,rfl,rfl,rfl⟩
     exact hnext u X' bV (by rw[KO];rfl)
    ·
     rw[if_neg (by rw[hw,h3];decide)]
     subst h4
     exact hnext undef w bV (by rw[KO];rfl)
   |r us out=>
    have hus:(lG dI i).use=us:=by rw[KO];rfl
    have hoi:ObA P ops dI N w1 o (.r us out) (oU ops (oW dI i) (rM dI) (List.range n) a0):=by rw[←KO];exact hoi
    obtain⟨h3,h4⟩:=hoi
    rw[hus]at hnext KN hnd
    obtain⟨Lf,Vf,h5,h6,h7⟩:=Uy.run out.ok hd hn f us [] (oW dI i) (rM dI) Sf (by rw[List.nil_append];exact hnd) (fun q=>by simp) (fun k hk hkn=>by
      rcases(KN k hk).1 with h8|h8
      ·
       omega
      ·
       unfold oW;rw[h8.2,Bool.and_false])
     (fun k hk=>hf k (fun hkn=>by
       rcases(KN k hk).1 with h8|h8
       ·
        omega
       ·
        exact ak k h8.1) (fun j hj Gg hmem=>by
       by_cases e:j=i
       ·
        subst e;rw[hLi]at Gg;cases Gg
       ·
        exact(KN k hk).2 j oV e hmem))
     (h4 w hJ.st)
    have hag:=UK Lf Vf (fun j=>by rw[hus];exact h5 j) (fun j=>by rw[hus];exact h6 j)
    rw[if_pos (by rw[hw];exact h3)]
    refine .inl (Oper.wp_mono ?_ (UI (R:=fun v X'=>Step (fun q=>N q∧f q∈us) w X'∧out.r v X' (fun q=>(N q∧f q∈us)∨w.heap.size≤q)) hsel (hsize _ _ _ _) hag h7))
    rintro a' X' ⟨u,rfl,h8,h9⟩
    exact hnext u X' h8 (by rw[KO];exact h9)
def pX (V:Nat→Value):List Oper→List Sp→Nat→Act→Act
 |o::r,.p v::ss,i,a=>pX V r ss (i+1) (a.put o.dst v)
 |o::r,.r _ _::ss,i,a=>pX V r ss (i+1) (a.put o.dst (V i))
 |_,_,_,a=>a
theorem Bz {ops:Array Oper} {dI:List Sp} {V:Nat→Value} (hl:ops.size≤dI.length) (hv:∀i v,i<ops.size→lG dI i=.p v→V i=v):∀(k i:Nat) (a:Act),i+k=ops.size→pX V (ops.toList.drop i) (dI.drop i) i a=lX ops V (List.range' i k) a
 |0,i,a,h=>by
  rw[List.drop_eq_nil_of_le (by simp;omega),List.range'_zero]
  simp[pX,lX]
 |k+1,i,a,h=>by
  have h1:i<ops.toList.length:=by simp;omega
  have h2:i<dI.length:=by omega
  have h3:dZ ops i=(ops.toList[i]).dst:=by simp[dZ,Array.getElem?_eq_getElem (show i<ops.size by omega)]
  have h4:lG dI i=dI[i]:=by unfold lG;rw[List.getD_eq_getElem?_getD,List.getElem?_eq_getElem h2];rfl
  rw[List.drop_eq_getElem_cons h1,List.drop_eq_getElem_cons h2,List.range'_succ,lX,h3]
  cases e:dI[i]with
  |p v=>rw[pX,Bz hl hv k (i+1) _ oV,hv i v oV (by rw[h4,e])]
  |r us out=>rw[pX,Bz hl hv k (i+1) _ oV]
def chkR (ops:Array Oper) (dI:List Sp) (m:Nat):Bool:=
 decide (ops.size≤dI.length)&&ug ops (List.range ops.size)&&Ea .any ops&&Eb ops (List.range ops.size) m&&chkS ops dI
def liveS (ops:Array Oper) (dI:List Sp) (k:Nat):Bool:=(List.range ops.size).all fun j=> !(lG dI j).use.contains k
theorem G8 (hb:Ea .any ops=true):∀(k i:Nat) (a:Act) (w:World) (listed:Array Bool),i+k=ops.size→listed.size=ops.size→(∀j,j<ops.size→listed.getD j true=decide (j<i))→wpAny P .any ops Q k listed a w→wpOps P ops Q (List.range' i k) a w
 |0,i,a,w,listed,_,_,_,h=>by rw[List.range'_zero,wpOps];exact h.2
 |k+1,i,a,w,listed,hi,hsz,hl,h=>by
  rw[List.range'_succ,wpOps_cons]
  have hlt:i<ops.size:=by omega
  have hm:i∈Region.ready .any ops listed:=by
   refine mem_ready.2 ⟨by rw[hl i hlt];exact decide_eq_false oV,ops[i],Array.getElem?_eq_getElem hlt,fun e he hbe=> ?_⟩
   have h1:=List.all_eq_true.1 hb i (List.mem_range.2 hlt)
   rw[Array.getElem?_eq_getElem hlt]at h1
   have h2:=Array.all_eq_true_iff_forall_mem.1 h1 e he
   have h3:e.on<i:=by simpa[hbe]using h2
   have h4:=hl e.on oV
   rw[decide_eq_true h3]at h4
   rw[Array.getD_eq_getD_getElem?]at h4⊢
   rw[Array.getElem?_eq_getElem (show e.on<listed.size by omega)]at h4⊢
   exact h4
  refine wpOp_mono (fun a' w' h'=>G8 hb k (i+1) a' w' _ oV (by simp[hsz]) (fun j hj=> ?_) h') (h.2 i hm)
  by_cases e:j=i
  ·
   subst e
   rw[Array.getD_eq_getD_getElem?,Array.getElem?_setIfInBounds_self_of_lt oV]
   simp
  ·
   rw[Array.getD_eq_getD_getElem?,Array.getElem?_setIfInBounds_ne (Ne.symm e),←Array.getD_eq_getD_getElem?,hl j hj]
   exact decide_eq_decide.2 oV
theorem fC {id:Nat} {b:Bool} {w:World} (N:Nat→Prop) (w1:World) (dI:List Sp) (hN:∀q,w1.heap.size≤q→N q) (hm:P.follows .mixedOrders=true) (h1:Step N w1 w) (hini:∃f:Nat→Nat,∀X,Step Sf w X→∀k,ops.size≤k→(lG dI k).out undef X (fun q=>N q∧f q=k)) (hs:xk P ops dI N w1 ops.toList (dI.take ops.size) a0) (hc:chkR ops dI a0.tmps.size=true) (hdone:∀(V:Nat→Value) X (f:Nat→Nat),Step N w1 X→(∀k,liveS ops dI k=true→(lG dI k).out (V k) X (fun q=>N q∧f q=k))→Q .normal (pX V ops.toList dI 0 a0) X):(Code.region id ops b).wp P Q a0 w:=by
 simp only[chkR,Bool.and_eq_true,decide_eq_true_eq]at hc;obtain⟨⟨⟨⟨hlen,hd⟩,hb⟩,hr⟩,hc⟩:=hc;have hfin:∀L V X,(∀i,i<ops.size→L i=true)→SJ ops dI N w1 L V X→Q .normal (lX ops V (List.range ops.size) a0) X:=by
  intro L V X hL hJ;obtain⟨f,hf⟩:=hJ.ow
  have hz:=hdone V X f hJ.st (fun k hk=>
   hf k (fun h=>hL k h) (fun j hj _ hm=>by
    have h2:=List.all_eq_true.1 hk j (List.mem_range.2 hj)
    simp at h2
    exact h2 hm))
  have hp:=Bz (V:=V) hlen (fun i v hi e=>by
   have h3:=hf i (fun h=>hL i h) (fun j hj _ hm=>by
    have h4:=List.all_eq_true.1 hc j (List.mem_range.2 hj)
    rw[Array.getElem?_eq_getElem hj]at h4
    simp only[Bool.and_eq_true]at h4
    have h5:=List.all_eq_true.1 h4.1.2 i hm
    simp only[Bool.and_eq_true,Bool.or_eq_true,decide_eq_true_eq,Bool.not_eq_true']at h5
    rcases h5.1 with h6|h6
    ·
     omega
    ·
     rw[e]at h6;cases h6.2)
   rw[e]at h3
   exact h3) ops.size 0 a0 oV
  rw[List.drop_zero,List.drop_zero,←List.range_eq_range']at hp;rw[←hp];exact hz
 have hgo:∀w0,Step Sf w w0→wpAny P .any ops Q ops.size (Array.replicate ops.size false) a0 w0:=by
  intro w0 h0;obtain⟨f,hf⟩:=hini;have h:=UJ (P:=P) (Q:=Q) (N:=N) (w1:=w1) hN rfl hlen hd hb hr hc hs hfin ops.size (Array.replicate ops.size false) (fun _=>false) (fun _=>undef) w0 (by simp)
   (fun i hi=>by rw[Array.getD_eq_getD_getElem?,Array.getElem?_replicate,if_pos oV];rfl) (by
    unfold zO
    simp only[Array.toList_replicate]
    exact Nat.le_trans List.countP_le_length (by simp)) ⟨⟨f,fun k hk _=>hf w0 h0 k (Nat.le_of_not_lt (fun h=>nomatch hk h))⟩,h1.trans (h0.mono fe),(fun _ _ _ h=>nomatch h)⟩
  rw[zN _ _ jd]at h;exact h
 cases b with
 |true=>exact wp_region_any hm (hgo _ (bV.drew))
 |false=>refine wp_region ?_;rw[List.range_eq_range'];exact G8 hb ops.size 0 a0 w _ oV (by simp) (fun j hj=>by rw[Array.getD_eq_getD_getElem?,Array.getElem?_replicate,if_pos hj];simp) (hgo w bV)
def Nw (w1:World):Nat→Prop:=fun q=>w1.heap.size≤q
theorem Step.sf {X:World} (h:Step (Nw w1) w1 X):Step Sf w1 X:=⟨h.os,h.tape,h.output,h.size,fun k hk _=>h.block k hk (fun e=>by unfold Nw at e;omega)⟩
theorem mW {id:Nat} {b:Bool} {w:World} (w1:World) (dI:List Sp) (hm:P.follows .mixedOrders=true) (h1:Step Sf w1 w) (hini:∃f:Nat→Nat,∀X,Step Sf w X→∀k,ops.size≤k→(lG dI k).out undef X (fun q=>w1.heap.size≤q∧f q=k)) (hs:xk P ops dI (Nw w1) w1 ops.toList (dI.take ops.size) a0) (hc:chkR ops dI a0.tmps.size=true) (hdone:∀(V:Nat→Value) X (f:Nat→Nat),Step Sf w1 X→(∀k,liveS ops dI k=true→(lG dI k).out (V k) X (fun q=>w1.heap.size≤q∧f q=k))→Q .normal (pX V ops.toList dI 0 a0) X):(Code.region id ops b).wp P Q a0 w:=
 fC (Nw w1) w1 dI (fun _ h=>h) hm (h1.mono fe) hini hs hc (fun V X f hX hf=>hdone V X f hX.sf hf)
theorem OB.p {o:Oper} {r:List Oper} {ss:List Sp} {v:Value} {a:Act} (h:xk P ops dI (Nw w1) w1 r ss (a.put o.dst v)) (hy:∀X,Step Sf w1 X→o.wp P a X (fun a' X'=>a'=a.put o.dst v∧X'=X) QN:=by intro X hX;go_simp) (hw:Region.wanted o (yielded ops a.tmps)=true:=by kernel_rfl):xk P ops dI (Nw w1) w1 (o::r) (.p v::ss) a:=⟨.inl ⟨hw,fun X hX=>hy X hX.sf⟩,h⟩
def Cj (P:Program) (o:Oper) (out:Rb) (C:Nat→Prop) (a:Act) (X:World):Prop:=o.wp P a X (fun a' X'=>∃v,a'=a.put o.dst v∧Step C X X'∧out.r v X' (fun q=>C q∨X.heap.size≤q)) QN
theorem Cj.mono {o:Oper} {out:Rb} {C D:Nat→Prop} {a:Act} {X:World} (h:∀q,C q→D q) (h1:Cj P o out C a X):Cj P o out D a X:=
 Oper.wp_mono (fun _ _ ⟨v,h1,h2,h3⟩=>⟨v,h1,h2.mono (fun q _ e=>h q e),out.ok.mono (fun q _ e=>e.imp (h q) id) h3⟩) h1
theorem OB.new {o:Oper} {r:List Oper} {ss:List Sp} {out:Rb} {a:Act} (hy:∀X,Step Sf w1 X→Cj P o out Sf a X) (h:xk P ops dI (Nw w1) w1 r ss a) (hw:Region.wanted o (yielded ops a.tmps)=true:=by kernel_rfl):xk P ops dI (Nw w1) w1 (o::r) (.r [] out::ss) a:=⟨⟨hw,fun X hX=>hy X hX.sf⟩,h⟩
theorem OB.u {o:Oper} {r:List Oper} {ss:List Sp} {out ok:Rb} {k:Nat} {a:Act} (t:Tmp) (hy:∀X v C,Step Sf w1 X→ok.r v X C→(∀q,C q→w1.heap.size≤q)→Cj P o out C (a.put (some t) v) X) (h:xk P ops dI (Nw w1) w1 r ss a) (hk:(lG dI k).out=ok.r:=by rfl) (ht:dZ ops k=some t:=by rfl) (hw:Region.wanted o (yielded ops a.tmps)=true:=by kernel_rfl):xk P ops dI (Nw w1) w1 (o::r) (.r [k] out::ss) a:=
 ⟨⟨hw,fun X hX v C hv hC=>by
  unfold Uy;rw[ht]
  exact Cj.mono (fun _=>.inr) (hy X v C hX.sf (by rw[←hk];exact hv) (fun q hq=>(hC q hq).1))⟩,h⟩
theorem OB.i {o:Oper} {r:List Oper} {ss:List Sp} {out ok:Rb} {k:Nat} {a:Act} (hy:∀X v C,Step Sf w1 X→ok.r v X C→(∀q,C q→w1.heap.size≤q)→Cj P o out C a X) (h:xk P ops dI (Nw w1) w1 r ss a) (hk:(lG dI k).out=ok.r:=by rfl) (ht:dZ ops k=none:=by rfl) (hw:Region.wanted o (yielded ops a.tmps)=true:=by kernel_rfl):xk P ops dI (Nw w1) w1 (o::r) (.r [k] out::ss) a:=
 ⟨⟨hw,fun X hX v C hv hC=>by
  unfold Uy;rw[ht]
  exact Cj.mono (fun _=>.inr) (hy X v C hX.sf (by rw[←hk];exact hv) (fun q hq=>(hC q hq).1))⟩,h⟩
def Kp (r:Rb) (u:Value):Rb:=⟨fun _ X C=>r.r u X C,⟨fun hs hp h1=>r.ok.step hs hp h1,fun hp h1=>r.ok.mono hp h1⟩⟩
theorem ini0 {w:World} (h:dI.length≤ops.size):∃f:Nat→Nat,∀X,Step Sf w X→∀k,ops.size≤k→(lG dI k).out undef X (fun q=>w1.heap.size≤q∧f q=k):=by refine⟨fun _=>0,fun X _ k hk=> ?_⟩;unfold lG;rw[List.getD_eq_getElem?_getD,List.getElem?_eq_none oV];rfl
theorem UL {w:World} {r:Rb} {u:Value} {C:Nat→Prop} (h:dI.length=ops.size+1) (hs:lG dI ops.size=.r [] (Kp r u)) (hu:r.r u w C) (hC:∀q,C q→w1.heap.size≤q):∃f:Nat→Nat,∀X,Step Sf w X→∀k,ops.size≤k→(lG dI k).out undef X (fun q=>w1.heap.size≤q∧f q=k):=by
 refine⟨fun _=>ops.size,fun X hX k hk=> ?_⟩;rcases Nat.lt_or_ge k dI.length with h1|h1
 ·obtain rfl:k=ops.size:=by omega
  rw[hs];exact r.ok.mono (fun q _ hq=>⟨hC q hq,rfl⟩) (r.ok.step hX (fun _ _ h=>h) hu)
 ·unfold lG;rw[List.getD_eq_getElem?_getD,List.getElem?_eq_none h1];rfl
theorem UM {o:Oper} {a:Act} {X:World} {out:Rb} {x:Operand} {v:Value} {C:Nat→Prop} (ho:o.op=.move x∨o.op=.assign x) (hx:a.eval x=v) (h:out.r v X C):Cj P o out C a X:=by
 have h2:=out.ok.mono (P':=fun q=>C q∨X.heap.size≤q) (fun _ _ h=>.inl h) h;obtain⟨dst,op,type,pos,after,guard⟩:=o;rcases ho with h1|h1
 all_goals
  have h1:op=_:=h1
  subst h1
  exact(show∃u,a.put dst (a.eval x)=a.put dst u∧Step C X X∧out.r u X _ from⟨v,by rw[hx],Step.refl _ _,h2⟩)
theorem OB.mv {o:Oper} {r:List Oper} {ss:List Sp} {out:Rb} {k:Nat} {a:Act} (t:Tmp) (h:xk P ops dI (Nw w1) w1 r ss a) (ho:o.op=.move (.tmp t)∨o.op=.assign (.tmp t):=by first|exact .inl rfl|exact .inr rfl) (hx:∀v,(a.put (some t) v).eval (.tmp t)=v:=by intro v;kernel_rfl) (hk:(lG dI k).out=out.r:=by rfl) (ht:dZ ops k=some t:=by rfl) (hw:Region.wanted o (yielded ops a.tmps)=true:=by kernel_rfl):xk P ops dI (Nw w1) w1 (o::r) (.r [k] out::ss) a:=OB.u t (ok:=out) (fun _ v _ _ hv _=>UM ho (hx v) hv) h hk ht hw
theorem OB.mi {o:Oper} {r:List Oper} {ss:List Sp} {out:Rb} {k:Nat} {a:Act} {u:Value} (t:Tmp) (h:xk P ops dI (Nw w1) w1 r ss a) (ho:o.op=.move (.tmp t)∨o.op=.assign (.tmp t):=by first|exact .inl rfl|exact .inr rfl) (hx:a.eval (.tmp t)=u:=by kernel_rfl) (hk:(lG dI k).out=(Kp out u).r:=by rfl) (ht:dZ ops k=none:=by rfl) (hw:Region.wanted o (yielded ops a.tmps)=true:=by kernel_rfl):xk P ops dI (Nw w1) w1 (o::r) (.r [k] out::ss) a:=OB.i (ok:=Kp out u) (fun _ _ _ _ hv _=>UM ho hx hv) h hk ht hw
section
variable {N : Nat → Prop}
theorem ON.p {o:Oper} {r:List Oper} {ss:List Sp} {v:Value} {a:Act} (h:xk P ops dI N w1 r ss (a.put o.dst v)) (hy:∀X,Step N w1 X→o.wp P a X (fun a' X'=>a'=a.put o.dst v∧X'=X) QN:=by intro X hX;go_simp) (hw:Region.wanted o (yielded ops a.tmps)=true:=by kernel_rfl):xk P ops dI N w1 (o::r) (.p v::ss) a:=⟨.inl ⟨hw,hy⟩,h⟩
theorem ON.new {o:Oper} {r:List Oper} {ss:List Sp} {out:Rb} {a:Act} (hy:∀X,Step N w1 X→Cj P o out Sf a X) (h:xk P ops dI N w1 r ss a) (hw:Region.wanted o (yielded ops a.tmps)=true:=by kernel_rfl):xk P ops dI N w1 (o::r) (.r [] out::ss) a:=⟨⟨hw,hy⟩,h⟩
theorem ON.u {o:Oper} {r:List Oper} {ss:List Sp} {out ok:Rb} {k:Nat} {a:Act} (t:Tmp) (hy:∀X v C,Step N w1 X→ok.r v X C→(∀q,C q→N q)→Cj P o out C (a.put (some t) v) X) (h:xk P ops dI N w1 r ss a) (hk:(lG dI k).out=ok.r:=by rfl) (ht:dZ ops k=some t:=by rfl) (hw:Region.wanted o (yielded ops a.tmps)=true:=by kernel_rfl):xk P ops dI N w1 (o::r) (.r [k] out::ss) a:=
 ⟨⟨hw,fun X hX v C hv hC=>by
  unfold Uy;rw[ht]
  exact Cj.mono (fun _=>.inr) (hy X v C hX (by rw[←hk];exact hv) (fun q hq=>(hC q hq).1))⟩,h⟩
theorem ON.i {o:Oper} {r:List Oper} {ss:List Sp} {out ok:Rb} {k:Nat} {a:Act} (hy:∀X v C,Step N w1 X→ok.r v X C→(∀q,C q→N q)→Cj P o out C a X) (h:xk P ops dI N w1 r ss a) (hk:(lG dI k).out=ok.r:=by rfl) (ht:dZ ops k=none:=by rfl) (hw:Region.wanted o (yielded ops a.tmps)=true:=by kernel_rfl):xk P ops dI N w1 (o::r) (.r [k] out::ss) a:=
 ⟨⟨hw,fun X hX v C hv hC=>by
  unfold Uy;rw[ht]
  exact Cj.mono (fun _=>.inr) (hy X v C hX (by rw[←hk];exact hv) (fun q hq=>(hC q hq).1))⟩,h⟩
theorem ON.uu {o:Oper} {r:List Oper} {ss:List Sp} {out o1 o2:Rb} {k1 k2:Nat} {a:Act} (t1 t2:Tmp) (hy:∀X v1 v2 C D,Step N w1 X→o1.r v1 X C→o2.r v2 X D→(∀q,C q→N q)→(∀q,D q→N q∧¬C q)→Cj P o out (fun q=>C q∨D q) ((a.put (some t1) v1).put (some t2) v2) X) (h:xk P ops dI N w1 r ss a) (hk1:(lG dI k1).out=o1.r:=by rfl) (hk2:(lG dI k2).out=o2.r:=by rfl) (ht1:dZ ops k1=some t1:=by rfl) (ht2:dZ ops k2=some t2:=by rfl) (hw:Region.wanted o (yielded ops a.tmps)=true:=by kernel_rfl):xk P ops dI N w1 (o::r) (.r [k1,k2] out::ss) a:=
 ⟨⟨hw,fun X hX v1 C hv1 hC v2 D hv2 hD=>by
  unfold Uy;rw[ht1,ht2]
  exact Cj.mono (fun _ e=>e.imp .inr id) (hy X v1 v2 C D hX (by rw[←hk1];exact hv1) (by rw[←hk2];exact hv2) (fun q hq=>(hC q hq).1) (fun q hq=>⟨(hD q hq).1,fun hc=>(hD q hq).2 (.inr hc)⟩))⟩,h⟩
theorem tq {w:World} {r:Rb} {u:Value} {C:Nat→Prop} (h:dI.length=ops.size+1) (hs:lG dI ops.size=.r [] (Kp r u)) (hu:r.r u w C) (hC:∀q,C q→N q):∃f:Nat→Nat,∀X,Step Sf w X→∀k,ops.size≤k→(lG dI k).out undef X (fun q=>N q∧f q=k):=by
 refine⟨fun _=>ops.size,fun X hX k hk=> ?_⟩;rcases Nat.lt_or_ge k dI.length with h1|h1
 ·obtain rfl:k=ops.size:=by omega
  rw[hs];exact r.ok.mono (fun q _ hq=>⟨hC q hq,rfl⟩) (r.ok.step hX (fun _ _ h=>h) hu)
 ·unfold lG;rw[List.getD_eq_getElem?_getD,List.getElem?_eq_none h1];rfl
end
theorem OB.nil {N:Nat→Prop} {a:Act}:xk P ops dI N w1 [] [] a:=trivial
end
theorem Dk {p:Prop} (h:p:=by exact⟨_,rfl,by rw[dV.o];exact hJ.up _ rfl dc dc dc dc⟩):p:=h
theorem vC {p:Prop} (h:p:=by exact⟨_,rfl,by rw[dV.o];exact hJ.up _ _ rfl (np rfl) rfl rfl⟩):p:=h
abbrev jP (a b:World):Prop:=Step (fun _=>False) a b
theorem nS {w w1:World} {o:Obj} (h:w1=w.alloc o):Hid (jP w w1):=by rw[h];exact bV.alloc _
theorem nB {w w1:World} {o:Obj} (h:w1=w.alloc o):Hid (w1.heap[w.heap.size]?=some o):=by rw[h];exact aB _ _
theorem nT {w w1:World} {o p:Obj} (h:w1=(w.alloc o).alloc p):Hid (jP w w1):=by rw[h];exact (bV.alloc _).alloc _
theorem nC {w w1:World} {o p:Obj} (h:w1=(w.alloc o).alloc p):Hid (w1.heap[w.heap.size]?=some o):=by rw[h];exact aN (aB _ _)
theorem nD {w w1:World} {o p:Obj} (h:w1=(w.alloc o).alloc p):Hid (w1.heap[w.heap.size+1]?=some p):=by rw[h];exact fO _ _ _
theorem sbQ {a i g:Nat} (h:a-i≤g):a-(i+1)≤g-1:=by omega
theorem Ef:(∀(a:Act) (d:Nat) (v:Value),a.put (some d) v={a with tmps:=a.tmps.setIfInBounds d v})∧(∀(a:Act) (v:Value),a.put none v=a)∧(∀(l:List Value) (i:Nat) (v:Value),l.toArray.setIfInBounds i v=(l.set i v).toArray)∧(∀(x v:Value) (l:List Value),(x::l).set 0 v=v::l)∧(∀(x v:Value) (l:List Value) (n:Nat),(x::l).set (n+1) v=x::l.set n v):=⟨fun _ _ _=>rfl,fun _ _=>rfl,fun _ _ _=>List.setIfInBounds_toArray ..,fun _ _ _=>rfl,fun _ _ _ _=>rfl⟩
theorem F5:(∀(l:List Oper)(i:Nat),l.toArray[i]?=l[i]?)∧(∀(x:Oper)(l:List Oper),(x::l)[0]?=some x)∧(∀(x:Oper)(l:List Oper)(n:Nat),(x::l)[n+1]?=l[n]?)∧(∀(x:Oper)(f:Oper→Option Tmp),(some x).bind f=f x):=⟨fun _ _=>List.getElem?_toArray ..,fun _ _=>rfl,fun _ _ _=>rfl,fun _ _=>rfl⟩
theorem Rw:List.range 8=[0,1,2,3,4,5,6,7]:=rfl
theorem UN:List.range 9=[0,1,2,3,4,5,6,7,8]:=rfl
theorem KP:List.range 11=[0,1,2,3,4,5,6,7,8,9,10]:=rfl
theorem rgQ13:List.range 13=[0,1,2,3,4,5,6,7,8,9,10,11,12]:=rfl
theorem rgQ14:List.range 14=[0,1,2,3,4,5,6,7,8,9,10,11,12,13]:=rfl
end Go.Proofs.YtggjfinekcenpaaGreat
