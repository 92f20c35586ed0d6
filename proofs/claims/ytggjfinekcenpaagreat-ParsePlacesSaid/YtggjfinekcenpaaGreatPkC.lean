import Derived.Test.YtggjfinekcenpaaGreatPkB
import Derived.StillTailTactics
import Derived.Deep.DeepCutAuto
import Derived.Deep.CutBlock
set_option maxRecDepth 100000
set_option maxHeartbeats 80000000
namespace Go.Proofs.YtggjfinekcenpaaGreat
open Go.RowKit
open Vt
def Ce:List (List UInt8):=[[115,116,114,117,99,116],[116,114,97,105,116],[105,109,112,108],[102,111,114],[102,110],[119,104,101,114,101],[108,101,116],[105,102],[101,108,115,101],[119,104,105,108,101],[114,101,116,117,114,110],[97,98,111,114,116],[116,114,117,101],[102,97,108,115,101],[109,117,116],[100,121,110],[105,110,116],[98,111,111,108],[102,54,52],[115,101,108,102],[66,111,120],[117,110,98,111,120],[99,104,111,111,115,101],[110,101,119],[97,115]]
def xq (s:List UInt8):Bool:=Ce.contains s
def xM:List (List UInt8)→List UInt8
 |[]=>[32]
 |w::ws=>32::(w++xM ws)
theorem contains_one (l:List UInt8) (a:UInt8):Lib.contains l [a]=l.contains a:=by
 induction l with
 |nil=>rfl
 |cons b l ih=>rw[contains_cons,ih,List.contains_cons];show((a==b&&true)||_)=_;rw[Bool.and_true]
theorem Ed (w l s:List UInt8) (h:32∉w):Lib.contains (w++l) (32::s)=Lib.contains l (32::s):=by
 induction w with
 |nil=>rfl
 |cons b w ih=>
  have hb:((32:UInt8)==b)=false:=by rw[beq_eq_false_iff_ne];exact fun e=>h (e▸List.mem_cons_self)
  rw[List.cons_append,contains_cons,ih (fun e=>h (List.mem_cons_of_mem _ e))];show(((32:UInt8)==b&&_)||_)=_;rw[hb];rfl
theorem Io (ws:List (List UInt8)):∃t,xM ws=32::t:=by
 cases ws with
 |nil=>exact⟨_,rfl⟩
 |cons w ws=>exact⟨_,rfl⟩
theorem FO:∀(s w t:List UInt8),32∉s→32∉w→(s++[32]).isPrefixOf (w++32::t)=(s==w):=by
 intro s;induction s with
 |nil=>
  intro w t _ hw;cases w with
  |nil=>simp[List.isPrefixOf]
  |cons b w=>(have hb:((32:UInt8)==b)=false:=by rw[beq_eq_false_iff_ne];exact fun e=>hw (e▸List.mem_cons_self));show((32:UInt8)==b&&_)=false;rw[hb];rfl
 |cons a s ih=>
  intro w t hs hw;cases w with
  |nil=>(have ha:(a==(32:UInt8))=false:=by rw[beq_eq_false_iff_ne];exact fun e=>hs (e▸List.mem_cons_self));show(a==(32:UInt8)&&_)=false;rw[ha];rfl
  |cons b w=>show(a==b&&(s++[32]).isPrefixOf (w++32::t))=(a==b&&s==w);rw[ih w t (fun e=>hs (List.mem_cons_of_mem _ e)) (fun e=>hw (List.mem_cons_of_mem _ e))]
theorem Ee (s:List UInt8) (hs:s≠[]) (h32:32∉s):∀ws:List (List UInt8),(∀w∈ws,32∉w)→Lib.contains (xM ws) (32::(s++[32]))=ws.contains s:=by
 intro ws;induction ws with
 |nil=>
  intro _;cases s with
  |nil=>exact absurd rfl hs
  |cons a s=>rw[xM,contains_cons,contains_nil];rfl
 |cons w ws ih=>intro hw;obtain⟨t,ht⟩:=Io ws;have hw1:=hw w List.mem_cons_self;rw[xM,contains_cons,Ed w _ _ hw1,ih (fun x hx=>hw x (List.mem_cons_of_mem _ hx)),List.contains_cons];show((32:UInt8)==32&&(s++[32]).isPrefixOf (w++xM ws)||_)=_;rw[ht,FO s w t h32 hw1];rfl
def P9:List UInt8:=[32,115,116,114,117,99,116,32,116,114,97,105,116,32,105,109,112,108,32,102,111,114,32,102,110,32,119,104,101,114,101,32,108,101,116,32,105,102,32,101,108,115,101,32,119,104,105,108,101,32,114,101,116,117,114,110,32,97,98,111,114,116,32,116,114,117,101,32,102,97,108,115,101,32,109,117,116,32,100,121,110,32,105,110,116,32,98,111,111,108,32,102,54,52,32,115,101,108,102,32,66,111,120,32,117,110,98,111,120,32,99,104,111,111,115,101,32,110,101,119,32,97,115,32]
theorem Ip:P9=xM Ce:=by decide
theorem Iq (s:List UInt8) (hs:s≠[]) (h32:32∉s):Lib.contains P9 (32::(s++[32]))=xq s:=by rw[Ip];exact Ee s hs h32 Ce dc
theorem Ir (s:List UInt8) (h:32∈s):xq s=false:=by
 cases e:xq s
 ·rfl
 ·have hm:s∈Ce:=List.contains_iff_mem.1 e;have:∀w∈Ce,32∉w:=by decide
  exact absurd h (this s hm)
def lX (l:List UInt8):ByteArray:=⟨l.toArray⟩
theorem yK (s:ByteArray) (v:Bool) (m:Int) (w:World) (hs:s.size≤100000) (h:Lib.contains s.data.toList [32]=v) (hm:w.cell? ⟨0,0,none⟩=some (.int .i64 m)):Calls Tryz.prog 134 #[.string s,.string ⟨#[32]⟩] w fun e w'=>e=.returned (.bool v)∧w=w':=
 (Tryz.strings_Contains _ _ m _ om hm).mono fun _ _ hq=>⟨by rw[hq.1];exact nV h,hq.2.symm⟩
theorem Iu (s:ByteArray) (w:World) (m:Int) (hs:s.size≤100000) (hm:w.cell? ⟨0,0,none⟩=some (.int .i64 m)):Calls Tryz.prog 117 #[.string s] w fun e w'=>e=.returned (.bool (xq s.data.toList))∧w=w':=by
 by_cases h0:s.data.toList=[]
 ·have hf:Hid (xq s.data.toList=false):=by show _=_;rw[h0];decide
  have he:s.toList=[]:=by rw[Lib.toList_data];exact h0
  have he':s.toList.isEmpty=true:=by rw[he];rfl
  clear h0;go_enter Tryz.func117,Tryz.ntmps117;go_wp2;go_ret;exact⟨nV hf.out.symm,rfl⟩
 ·have hpos:0<s.size:=by rw[Lib.size_eq];exact List.length_pos_iff.2 h0
  have he:=jR s hpos;have he':=jF s hpos;cases hb:Lib.contains s.data.toList [32]
  ·(have h32:32∉s.data.toList:=by rw[contains_one]at hb;intro e;rw[List.contains_iff_mem.2 e]at hb;simp at hb);have hp:=Iq _ h0 h32;have HP:=ai hp;have HB:=ai hb;clear hb h32 hp h0;go_enter Tryz.func117,Tryz.ntmps117;go_wp2_with fail;refine(yK s _ m _ hs HB.o hm).mono ?_;rintro e w' ⟨rfl,rfl⟩;go_wp2_with fail;refine(Tryz.strings_Contains _ _ m _ dc hm).mono ?_;rintro e w' ⟨rfl,rfl⟩;go_wp2;go_ret;refine⟨nV ?_,rfl⟩;rw[←HP.o];rfl
  ·(have hf:Hid (xq s.data.toList=false):=by show _=_;rw[contains_one]at hb;exact Ir _ (List.contains_iff_mem.1 hb));have HB:=ai hb;clear hb h0;go_enter Tryz.func117,Tryz.ntmps117;go_wp2_with fail;refine(yK s _ m _ hs HB.o hm).mono ?_;rintro e w' ⟨rfl,rfl⟩;go_wp2;go_ret;exact⟨nV hf.out.symm,rfl⟩
structure gI where
 rb:Nat
 a:Option Addr
 c:Nat
 l:List Tok
 m:Int
structure bC (R:gI) (w:World) (i d:Nat):Prop where
 blk:w.heap[R.rb]?=some (.cells #[.slice R.a R.l.length R.c,ah (i:Int),ah (d:Int)] 152 (0,0))
 row:Row w R.rb (.slice R.a R.l.length R.c) R.l.length (pF R.l)
 Nz:w.cell? ⟨0,0,none⟩=some (.int .i64 R.m)
 pos:0<R.rb
 lt:i<R.l.length
theorem bC.step {R:gI} {w w':World} {i d:Nat} {S:Nat→Prop} (h:bC R w i d) (hs:Step S w w') (hS:∀k,k≤R.rb→¬S k):bC R w' i d:=
 ⟨hs.keep h.blk (hS _ (Nat.le_refl _)),h.row.step hs (fun k hk=>hS k om),hs.cell h.Nz (hS 0 (Nat.zero_le _)),h.pos,h.lt⟩
theorem bC.quiet {R:gI} {w w':World} {i d:Nat} (h:bC R w i d) (hs:jg w w'):bC R w' i d:=h.step hs (fun _ _ h=>h)
structure oJ (l:List Tok):Prop where
 next:∀(i:Nat) t,l[i]?=some t→t.kind≠0→i+1<l.length
 len:l.length≤8001
 text:∀t∈l,t.text.length≤20000
theorem qx (l:List Tok) (i:Nat) (t:Tok) (h:l[i]?=some t) (j:Nat) (v:Value) (hv:t.cells[j]?=some v):(pF l)[i*5+j]?=some v:=by
 induction l generalizing i with
 |nil=>simp at h
 |cons x r ih=>
  have hc:x.cells.length=5:=rfl;show(x.cells++pF r)[i*5+j]?=some v;cases i with
  |zero=>simp at h;subst h;rw[Nat.zero_mul,Nat.zero_add,List.getElem?_append_left (List.getElem?_eq_some_iff.1 hv).1];exact hv
  |succ i=>rw[List.getElem?_append_right (by rw[hc];omega),hc,show(i+1)*5+j-5=i*5+j by omega];exact ih i (by simpa using h)
theorem Tryz.Bo:(Tryz.prog.info? 111).map (·.size)=some 5:=by kernel_rfl
theorem Yt (t:Tok):∀u∈[Value.int .i64 t.kind,.string ⟨t.text.toArray⟩,ah t.line,ah t.col,aX t.val],u.oneCell'=true:=by intro u hu;simp at hu;rcases hu with rfl|rfl|rfl|rfl|rfl<;>rfl
theorem lF (R:gI) (w:World) (i d:Nat) (t:Tok) (h:bC R w i d) (ht:R.l[i]?=some t):Calls Tryz.prog 48 #[.pointer (some ⟨R.rb,0,none⟩)] w fun e w'=>e=.returned (.agg #[ah t.kind,.string ⟨t.text.toArray⟩,ah t.line,ah t.col,aX t.val])∧jg w w':=by
 obtain⟨rb,a,c,l,m⟩:=R;obtain⟨hb,hr,-,-,hlt⟩:=h;simp only at hb hr ht hlt;obtain⟨a',c',hva,hc1,hc2,-,hrr⟩:=hr;obtain⟨rfl,rfl⟩:a=a'∧c=c':=by cases hva;exact⟨rfl,rfl⟩
 obtain⟨g,o,rfl,-,-,hcell⟩:=hrr om;have f0:=hcell _ _ (qx l i t ht 0 _ rfl);have f1:=hcell _ _ (qx l i t ht 1 _ rfl);have f2:=hcell _ _ (qx l i t ht 2 _ rfl);have f3:=hcell _ _ (qx l i t ht 3 _ rfl);have f4:=hcell _ _ (qx l i t ht 4 _ rfl);rw[Nat.add_zero]at f0;rw[←Nat.add_assoc]at f1 f2 f3 f4;have e0:((l.length:Int)==0)=false:=by simpa using(by omega:¬(l.length:Int)=0)
 have e1:(l.length==0)=false:=by simpa using(by omega:¬l.length=0)
 have e2:decide ((l.length:Int)≤(i:Int))=false:=decide_eq_false om;have hi0:(0:Int)≤(i:Int):=by omega
 have hi1:(i:Int)<(l.length:Int):=by omega
 obtain⟨w1,hw1⟩:=bF (w.alloc (.cells #[ah 0,dG,ah 0,ah 0,aX 0] 111));have HB1:Hid (w1.heap[rb]?=some (.cells #[.slice (some ⟨g,o,none⟩) l.length c,ah (i:Int),ah (d:Int)] 152 (0,0))):=by rw[hw1];exact aT hb
 have Cf:=nS hw1
 have lS:=nB hw1
 have HW1:=ai hw1;have F:Hid (∀X,jg w1 X→X.cell? ⟨rb,0,none⟩=some (.slice (some ⟨g,o,none⟩) l.length c)∧X.cell? ⟨rb,1,none⟩=some (.int .i64 i)∧X.cell? ⟨g,o+i*5,none⟩=some (.int .i64 t.kind)∧X.cell? ⟨g,o+i*5+1,none⟩=some (.string ⟨t.text.toArray⟩)∧X.cell? ⟨g,o+i*5+2,none⟩=some (.int .i64 t.line)∧X.cell? ⟨g,o+i*5+3,none⟩=some (.int .i64 t.col)∧X.cell? ⟨g,o+i*5+4,none⟩=some (.int .u64 t.val)):=by intro X hX;have h:=Cf.o.trans hX;have hb:=hX.keep HB1.o (fun h=>h);exact⟨aj hb 0 _ rfl,aj hb 1 _ rfl,h.cell f0 (fun h=>h),h.cell f1 (fun h=>h),h.cell f2 (fun h=>h),h.cell f3 (fun h=>h),h.cell f4 (fun h=>h)⟩
 clear hcell hrr hva hc1 hc2 ht hb f0 f1 f2 f3 f4 hw1;obtain⟨k0,k1,f0,f1,f2,f3,f4⟩:=F.o w1 bg;go_enter Tryz.func48,Tryz.ntmps48;go_upto_region 1 with fail
 rw[←HW1.o];go_wp2;go_still_tail 10,kr;change wpList _ _ _ _ _ w1.drew;go_wp2;clear k0 k1 f0 f1 f2 f3 f4;obtain⟨w2,hw2⟩:=bF w1.drew;rw[←hw2];have zO:Hid (jg w1 w2):=by rw[hw2];exact bg.drew
 clear hw2;obtain⟨k0,k1,f0,f1,f2,f3,f4⟩:=F.o w2 zO.o;go_still_tail 10,kr;change wpList _ _ _ _ _ w2.drew;have qw:Hid (w2.drew.heap[w.heap.size]?=some (.cells #[ah 0,dG,ah 0,ah 0,aX 0] 111 (0,0))):=qE (zO.o.keep lS.o (fun h=>h));have fP:Hid (jg w w2.drew):=(Cf.o.trans zO.o).drew;have dQ:Hid (∀u∈[Value.int .i64 t.kind,.string ⟨t.text.toArray⟩,ah t.line,ah t.col,aX t.val],u.oneCell'=true):=Yt t;clear k0 k1 f0 f1 f2 f3 f4
 go_wp2_with (refine aB (w:=w2.drew) rfl 111 (.tmp 2) (.tmp 49) rfl w.heap.size 0 111 _ [.int .i64 t.kind,.string ⟨t.text.toArray⟩,.int .i64 t.line,.int .i64 t.col,.int .u64 t.val] rfl rfl qw.o Tryz.Bo (Nat.le_of_eq rfl) dQ.o ?_
              intro w4 hb4 wS)
 have P_:w4.heap[w.heap.size]?=some (.cells [Value.int .i64 t.kind,.string ⟨t.text.toArray⟩,ah t.line,ah t.col,aX t.val].toArray 111 (0,0)):=hb4;refine bodyPost_ret (aS rfl _ w.heap.size 111 _ _ rfl P_ Tryz.underlying111 rfl Tryz.Bo) rfl ⟨rfl,?_⟩;exact fP.o.then wS oi
theorem at_at (R:gI) (w:World) (i d:Nat) (t:Tok) (h:bC R w i d) (ht:R.l[i]?=some t):Calls Tryz.prog 74 #[.pointer (some ⟨R.rb,0,none⟩)] w fun e w'=>e=.returned (.agg #[ah t.line,ah t.col])∧jg w w':=by
 have H:=ai h;have HT:=ai ht;clear h ht;have hfd:∀(a0 a1 a2 a3 a4:Value) (w:World),(Instr.field 111 (.agg #[a0,a1,a2,a3,a4]) 2).run Tryz.prog w=.ok (.agg #[a2,a3]) w:=fun _ _ _ _ _ _=>by kernel_rfl
 go_enter Tryz.func74,Tryz.ntmps74;go_wp2_with fail;refine(lF R _ i d t (H.o.quiet ((Step.refl _ w).alloc _)) HT.o).mono ?_;rintro e w1 ⟨rfl,h1⟩;obtain⟨⟨d0,d1⟩,e0,e1⟩:=Nj (h1.keep (aC w _) (fun h=>h));go_wp2;refine bodyPost_ret (v:=.agg #[ah t.line,ah t.col]) (by simp[results,Tryz.results74,go_sem,d0,d1]) rfl ⟨rfl,?_⟩;have hs:jg w w1:=((Step.refl _ w).alloc _).trans h1;exact(hs.setCell _ _ (fun hl=>absurd hl (Nat.lt_irrefl _))).setCell _ _ (fun hl=>absurd hl (Nat.lt_irrefl _))
theorem oZ (R:gI) (c:Nat) (w:World) (i d:Nat) (t:Tok) (h:bC R w i d) (ht:R.l[i]?=some t):Calls Tryz.prog 89 #[.pointer (some ⟨R.rb,0,none⟩),.int .i64 c] w fun e w'=>e=.panicked [{v:=.iface 184 (.agg #[ah c,ah t.line,ah t.col]),recovered:=false}]∧jg w w':=by have H:=ai h;have HT:=ai ht;clear h ht;go_enter Tryz.func89,Tryz.ntmps89;go_wp2_with fail;refine(at_at R _ i d t H.o HT.o).mono ?_;rintro e w1 ⟨rfl,h1⟩;go_wp2;exact⟨rfl,rfl,h1⟩
theorem kF (n k:Nat) (K:Int) (h:K=(k:Int)):((n:Int)==K)=(n==k):=by
 subst h;by_cases e:n=k
 ·subst e;simp
 ·have h2:¬(n:Int)=(k:Int):=by omega
  rw[beq_eq_false_iff_ne.2 h2,beq_eq_false_iff_ne.2 e]
def sF (t:Tok) (s:List UInt8):Bool:=t.text==s&&(t.kind==5||(t.kind==1&&xq s))
theorem ul {t:Tok} {s:List UInt8} (h:sF t s=true):t.kind≠0:=by unfold sF at h;intro e;rw[e]at h;simp at h
theorem bytes_eq (x s:ByteArray):(x.toList==s.toList)=(x.data.toList==s.data.toList):=by rw[Lib.toList_data,Lib.toList_data]
theorem LM (R:gI) (s:ByteArray) (w:World) (i d:Nat) (t:Tok) (h:bC R w i d) (ht:R.l[i]?=some t) (hs:s.size≤100000):Calls Tryz.prog 115 #[.pointer (some ⟨R.rb,0,none⟩),.string s] w fun e w'=>e=.returned (.bool (sF t s.data.toList))∧jg w w':=by
 have H:=ai h;have HT:=ai ht;obtain⟨x,hx⟩:∃x:ByteArray,x=⟨t.text.toArray⟩:=⟨_,rfl⟩;obtain⟨be,hbe⟩:∃be,(x.toList==s.toList)=be:=⟨_,rfl⟩;have HF:Hid (sF t s.data.toList=(be&&(t.kind==5||(t.kind==1&&xq s.data.toList)))):=by show _=_;unfold sF;rw[←hbe,bytes_eq,hx]
 have Yu:=ai (lF R w i d t h ht);rw[←hx]at Yu;obtain⟨k5,hk5⟩:∃b,((t.kind:Int)==5)=b:=⟨_,rfl⟩;obtain⟨k1,hk1⟩:∃b,((t.kind:Int)==1)=b:=⟨_,rfl⟩;have NC:Hid ((t.kind==5)=k5):=((kF t.kind 5 5 rfl).symm.trans hk5);have HK1:Hid ((t.kind==1)=k1):=((kF t.kind 1 1 rfl).symm.trans hk1);clear h ht hx;go_enter Tryz.func115,Tryz.ntmps115;go_wp2_with fail;refine Yu.o.mono ?_;rintro e w1 ⟨rfl,h1⟩;have ND:=ai ((H.o.quiet h1).Nz);have dH:=ai h1;clear h1;cases be with
 |false=>go_wp2;go_ret;exact⟨by rw[HF.o];rfl,dH.o.alloc _⟩
 |true=>
  cases k5 with
  |true=>go_wp2;go_ret;exact⟨by rw[HF.o,NC.o];rfl,dH.o.alloc _⟩
  |false=>
   cases k1 with
   |false=>go_wp2;go_ret;exact⟨by rw[HF.o,NC.o,HK1.o];rfl,dH.o.alloc _⟩
   |true=>have HWD:=ai (Iu s (w1.alloc (.cells #[ah t.kind,aI x,ah t.line,ah t.col,aX t.val] 111)) R.m hs (((Step.refl (fun _=>False) _).alloc _).cell ND.o (fun h=>h)));go_wp2_with fail;refine HWD.o.mono ?_;rintro e w2 ⟨rfl,rfl⟩;go_wp2;go_ret;exact⟨by rw[HF.o,NC.o,HK1.o];rfl,dH.o.alloc _⟩
theorem bC.next {R:gI} {w w':World} {i d:Nat} (h:bC R w i d) (hi:i+1<R.l.length) (hb:w'.heap[R.rb]?=some (.cells #[.slice R.a R.l.length R.c,ah ((i+1:Nat):Int),ah (d:Int)] 152 (0,0))) (hs:Step (·=R.rb) w w'):bC R w' (i+1) d:=
 ⟨hb,h.row.step hs oi,hs.cell h.Nz (fun e=>by have h2:=h.pos;have e2:0=R.rb:=e;omega),h.pos,hi⟩
def Yv (t:Tok) (s:List UInt8) (i:Nat):Nat:=if sF t s then i+1 else i
theorem W_ (R:gI) (hl:oJ R.l) (s:ByteArray) (w:World) (i d:Nat) (t:Tok) (h:bC R w i d) (ht:R.l[i]?=some t) (hs:s.size≤100000):Calls Tryz.prog 77 #[.pointer (some ⟨R.rb,0,none⟩),.string s] w fun e w'=>e=.returned (.bool (sF t s.data.toList))∧bC R w' (Yv t s.data.toList i) d∧Step (·=R.rb) w w':=by
 have H:=ai h;have HT:=ai ht;have HSE:=ai (LM R s w i d t h ht hs);have hl1:i<8001:=by have:=h.lt;have:=hl.len;omega
 have kS:Hid (sF t s.data.toList=true→i+1<R.l.length):=fun hh=>hl.next i t ht (ul hh);obtain⟨sb,hsb⟩:=bF (sF t s.data.toList);have JQ:=ai hsb;rw[←hsb]at HSE kS;rw[←hsb];have R1:IntKind.i64.wrap ((i:Int)+1)=((i+1:Nat):Int):=by rw[show((i:Int)+1)=((i+1:Nat):Int) by omega];exact IntWalk.i64_in _ om
 clear h ht hl hs hsb;go_enter Tryz.func77,Tryz.ntmps77;go_wp2_with fail;refine HSE.o.mono ?_;rintro e w1 ⟨rfl,h1⟩;have H1:=ai (H.o.quiet h1);have dH:Hid (Step (·=R.rb) w w1):=h1.mono fe;clear h1;cases sb with
 |false=>go_wp2;go_ret;exact⟨rfl,by unfold Yv;rw[←JQ.o,if_neg dc];exact H1.o,dH.o⟩
 |true=>have k1:=aj H1.o.blk 1 _ rfl;have z1:=aG H1.o.blk 1;go_wp2;go_ret;have hset:=aQ H1.o.blk 1 (.int .i64 ((i+1:Nat):Int));have hst:Step (·=R.rb) w1 (w1.setCell ⟨R.rb,1,none⟩ (.int .i64 ((i+1:Nat):Int))):=bg.setCell _ _ iV;refine⟨rfl,?_,dH.o.trans hst⟩;unfold Yv;rw[←JQ.o,if_pos rfl];exact H1.o.next (by simpa using kS.o) hset hst
theorem yL (R:gI) (hl:oJ R.l) (w:World) (i d:Nat) (t:Tok) (h:bC R w i d) (ht:R.l[i]?=some t) (hk:t.kind≠0):Calls Tryz.prog 116 #[.pointer (some ⟨R.rb,0,none⟩)] w fun e w'=>e=.returned (.agg #[ah t.kind,.string ⟨t.text.toArray⟩,ah t.line,ah t.col,aX t.val])∧bC R w' (i+1) d∧Step (·=R.rb) w w':=by
 have H:=ai h;have HT:=ai ht;have hl1:i<8001:=by have:=h.lt;have:=hl.len;omega
 have kS:Hid (i+1<R.l.length):=hl.next i t ht hk;have R1:IntKind.i64.wrap ((i:Int)+1)=(i:Int)+1:=IntWalk.i64_in _ om;have e0:((t.kind:Int)==0)=false:=by rw[kF t.kind 0 0 rfl];exact beq_eq_false_iff_ne.2 hk
 have e1:((t.kind:Int) !=0)=true:=by rw[bne,e0];rfl
 have hlt:=aP h.blk;clear h ht hl hk;go_enter Tryz.func116,Tryz.ntmps116;go_wp2_with fail;refine(lF R _ i d t (H.o.quiet ((Step.refl _ w).alloc _)) HT.o).mono ?_;rintro e w1 ⟨rfl,h1⟩;obtain⟨x,hx⟩:∃x:ByteArray,x=⟨t.text.toArray⟩:=⟨_,rfl⟩;rw[←hx];have HXE:=ai hx;clear hx;have H1:=ai (H.o.quiet (((Step.refl (fun _=>False) w).alloc _).trans h1));have dH:Hid (jg w w1):=((Step.refl (fun _=>False) w).alloc _).trans h1;have lS:=ai (h1.keep (aC w _) (fun h=>h));have hsz:w.heap.size<w1.heap.size:=by have:=h1.size;simp at this;omega
 obtain⟨w2,hw2⟩:=bF (w1.alloc (.cells #[ah t.kind,aI x,ah t.line,ah t.col,aX t.val] 111));have HS2:=nS hw2
 have HB2:=nB hw2
 have HW2:=ai hw2;clear h1 hw2;go_upto_region 2 with fail
 rw[←HW2.o];have H2:=ai (H1.o.quiet HS2.o);have k1:=aj H2.o.blk 1 _ rfl;have z1:=aG H2.o.blk 1;obtain⟨⟨q0,q1,q2,q3,q4⟩,-⟩:=uV HB2.o;go_upto_region 4 with fail
 have hset:=aQ H2.o.blk 1 (.int .i64 ((i:Int)+1));have hst:Step (·=R.rb) w2 (w2.setCell ⟨R.rb,1,none⟩ (.int .i64 ((i:Int)+1))):=bg.setCell _ _ iV;have H3:=ai (H2.o.next kS.o hset hst);obtain⟨w3,hw3⟩:=bF (w2.setCell ⟨R.rb,1,none⟩ (.int .i64 ((i:Int)+1)));rw[←hw3]at hst H3⊢;have jX:Hid (Step (·=R.rb) w w3):=((dH.o.trans HS2.o).mono fe).trans hst;have HB3:=ai (hst.keep HB2.o om);have uZ:=ai (hst.keep (HS2.o.keep lS.o (fun h=>h)) om);clear hst hset hw3 k1 z1 q0 q1 q2 q3 q4;have dQ:Hid (∀u∈[Value.int .i64 t.kind,aI x,ah t.line,ah t.col,aX t.val],u.oneCell'=true):=by intro u hu;simp at hu;rcases hu with rfl|rfl|rfl|rfl|rfl<;>rfl
 obtain⟨⟨q0,q1,q2,q3,q4⟩,-⟩:=uV HB3.o
 go_wp2_with (refine aB (w:=w3) rfl 111 (.tmp 2) (.tmp 16) rfl w.heap.size 0 111 _ [.int .i64 t.kind,.string x,.int .i64 t.line,.int .i64 t.col,.int .u64 t.val] rfl rfl uZ.o Tryz.Bo (Nat.le_of_eq rfl) dQ.o ?_
              intro w4 hb4 wS)
 have P_:w4.heap[w.heap.size]?=some (.cells [Value.int .i64 t.kind,aI x,ah t.line,ah t.col,aX t.val].toArray 111 (0,0)):=hb4;refine bodyPost_ret (aS rfl _ w.heap.size 111 _ _ rfl P_ Tryz.underlying111 rfl Tryz.Bo) rfl ⟨by rw[HXE.o],?_,?_⟩
 ·exact H3.o.step wS oi
 ·exact jX.o.then wS oi
def um (t:Tok):Bool:=t.kind==1&& !xq t.text
def vJ (R:gI) (i d:Nat) (t:Tok) (w:World) (e:Ending) (w':World):Prop:=
 (if um t then e=.returned (.string ⟨t.text.toArray⟩)∧bC R w' (i+1) d else e=.panicked [{v:=.iface 184 (.agg #[ah 1,ah t.line,ah t.col]),recovered:=false}])∧Step (·=R.rb) w w'
theorem Ut (R:gI) (hl:oJ R.l) (w:World) (i d:Nat) (t:Tok) (h:bC R w i d) (ht:R.l[i]?=some t):Calls Tryz.prog 80 #[.pointer (some ⟨R.rb,0,none⟩)] w (vJ R i d t w):=by
 have H:=ai h;have HT:=ai ht;have HL:=ai hl;obtain⟨x,hx⟩:∃x:ByteArray,x=⟨t.text.toArray⟩:=⟨_,rfl⟩;have hxs:x.size≤100000:=by have:=hl.text t (List.mem_of_getElem? ht);rw[hx];show t.text.toArray.size≤100000;simp;omega
 have HXE:Hid (x.data.toList=t.text):=by show _=_;rw[hx]
 have Yu:=ai (lF R w i d t h ht);rw[←hx]at Yu;obtain⟨k1,hk1⟩:∃b,((t.kind:Int) !=1)=b:=⟨_,rfl⟩;have HK1:Hid ((t.kind==1)= !k1):=by show _=_;rw[←hk1,bne,kF t.kind 1 1 rfl,Bool.not_not]
 obtain⟨x2,hx2⟩:=bF (x:ByteArray);have kS:=ai hx;clear h ht hl hx;go_enter Tryz.func80,Tryz.ntmps80;go_wp2_with fail;refine Yu.o.mono ?_;rintro e w1 ⟨rfl,h1⟩;have dH:=ai (h1.alloc (.cells #[ah t.kind,aI x,ah t.line,ah t.col,aX t.val] 111));have H1:=ai (H.o.quiet dH.o);clear h1;cases k1 with
 |true=>
  have fH:Hid (um t=false):=by show _=_;unfold um;rw[HK1.o];rfl
  go_wp2_with fail;refine(oZ R 1 _ i d t H1.o HT.o).mono ?_;rintro e w2 ⟨rfl,h2⟩;refine⟨rfl,?_⟩;unfold vJ;rw[fH.o];exact⟨rfl,(dH.o.trans h2).mono fe⟩
 |false=>
  obtain⟨wb,hwb⟩:=bF (xq x.data.toList);have HWD:=ai (Iu x (w1.alloc (.cells #[ah t.kind,aI x,ah t.line,ah t.col,aX t.val] 111)) R.m hxs H1.o.Nz);rw[←hwb]at HWD;have fH:Hid (um t= !wb):=by show _=_;unfold um;rw[HK1.o,hwb,HXE.o];rfl
  clear hwb;go_wp2_with fail;refine HWD.o.mono ?_;rintro e w2 ⟨rfl,rfl⟩;cases wb with
  |true=>go_wp2_with fail;refine(oZ R 1 _ i d t H1.o HT.o).mono ?_;rintro e w2 ⟨rfl,h2⟩;refine⟨rfl,?_⟩;unfold vJ;rw[fH.o];exact⟨rfl,(dH.o.trans h2).mono fe⟩
  |false=>(have hk0:t.kind≠0:=by intro e;have h2:=HK1.o;rw[e]at h2;cases h2);have HNXT:=ai (yL R HL.o _ i d t H1.o HT.o hk0);rw[←kS.o]at HNXT;(have hfd:∀(a0 a1 a2 a3 a4:Value) (w:World),(Instr.field 111 (.agg #[a0,a1,a2,a3,a4]) 1).run Tryz.prog w=.ok a1 w:=fun _ _ _ _ _ _=>by kernel_rfl);clear hk0;go_wp2_with fail;refine HNXT.o.mono ?_;rintro e w3 ⟨rfl,hr,h3⟩;have HR3:=ai hr;clear hr;go_wp2;go_ret;unfold vJ;rw[fH.o];refine⟨?_,(dH.o.mono fe).trans h3⟩;exact⟨by show Ending.returned (.string x)=_;rw[kS.o],HR3.o⟩
def yM (R:gI) (i d:Nat) (t:Tok) (s:List UInt8) (w:World) (e:Ending) (w':World):Prop:=
 (if sF t s then e=.returned (.tuple #[])∧bC R w' (i+1) d else e=.panicked [{v:=.iface 184 (.agg #[ah 1,ah t.line,ah t.col]),recovered:=false}])∧Step (·=R.rb) w w'
theorem Uu (R:gI) (hl:oJ R.l) (g:Nat) (s:ByteArray) (w:World) (i d:Nat) (t:Tok) (h:bC R w i d) (ht:R.l[i]?=some t) (hs:s.size≤100000) (hg:w.cell? ⟨g,0,none⟩=some (.string s)):Calls Tryz.prog 78 #[.pointer (some ⟨R.rb,0,none⟩),.slice (some ⟨g,0,none⟩) 1 1] w (yM R i d t s.data.toList w):=by
 have H:=ai h;have HT:=ai ht;have HIS:=ai (W_ R hl s w i d t h ht hs);obtain⟨sb,hsb⟩:=bF (sF t s.data.toList);have JQ:=ai hsb;rw[←hsb]at HIS;clear h ht hl hsb;go_enter Tryz.func78,Tryz.ntmps78;go_wp2_with fail;go_loopg [5,8] 2 (fun gg s5 s8 wr=>(s8=.int .i64 0∧wr=w∧1≤gg)∨(s8=.int .i64 1∧sb=true∧bC R wr (i+1) d∧Step (·=R.rb) w wr));case atStart=>exact .inl ⟨rfl,rfl,by omega⟩
 case round=>
  rcases hrel with⟨rfl,rfl,hgg⟩|⟨rfl,rfl,hr,hst⟩
  ·go_wp2_with fail;refine HIS.o.mono ?_;rintro e w2 ⟨rfl,hr,h2⟩;have HR2:=ai hr;have HS2:=ai h2;clear hr h2;cases sb with
   |false=>(have hii:Yv t s.data.toList i=i:=by unfold Yv;rw[←JQ.o,if_neg dc]);(have HR3:Hid (bC R w2 i d):=by have h5:=HR2.o;rw[hii]at h5;exact h5);clear hii;go_wp2_with fail;refine(oZ R 1 _ i d t HR3.o HT.o).mono ?_;rintro e w3 ⟨rfl,h3⟩;refine⟨rfl,?_⟩;unfold yM;rw[←JQ.o];exact⟨rfl,HS2.o.trans (h3.mono fe)⟩
   |true=>
    (have hii:Yv t s.data.toList i=i+1:=by unfold Yv;rw[←JQ.o,if_pos rfl]);(have HR3:Hid (bC R w2 (i+1) d):=by have h5:=HR2.o;rw[hii]at h5;exact h5);clear hii;go_wp2_with fail;go_roundg (gk-1);case rel=>exact .inr ⟨rfl,trivial,HR3.o,HS2.o⟩
    case measure=>omega
  ·have HR:=ai hr;have HS:=ai hst;clear hr hst;go_wp2_with fail;refine bodyPost_end (results_none rfl _ _ _) rfl ?_;unfold yM;rw[←JQ.o];exact⟨⟨rfl,HR.o⟩,HS.o⟩
def Enters (k:Nat):Prop:=∀(xs:Array Value) (w:World),Sem.run Tryz.prog (callFunc k xs) w=.ok (.enter k xs) w
theorem xN (R:gI) (k:Nat) (caps:List Value) (w:World) (i d:Nat) (t:Tok) (h:bC R w i d) (ht:R.l[i]?=some t) (hd:d=40):Calls Tryz.prog 75 #[.pointer (some ⟨R.rb,0,none⟩),.func (.func k) #[] caps.toArray] w fun e w'=>e=.panicked [{v:=.iface 184 (.agg #[ah 2,ah t.line,ah t.col]),recovered:=false}]∧jg w w':=by
 have hfe:∀(fn:Fn) (x y:Array Value) (w:World),(binOp .eql 1 (.func fn x y) .nilFunc).run Tryz.prog w=.ok (.bool false) w:=fun _ _ _ _=>by kernel_rfl
 subst hd;have H:=ai h;have HT:=ai ht;have k2:=aj h.blk 2 _ rfl;clear h ht;go_enter Tryz.func75,Tryz.ntmps75;go_wp2_with fail;refine(oZ R 2 _ i 40 t H.o HT.o).mono ?_;rintro e w1 ⟨rfl,h1⟩;exact⟨rfl,rfl,h1⟩
theorem bC.deep {R:gI} {w w':World} {i d d':Nat} (h:bC R w i d) (hb:w'.heap[R.rb]?=some (.cells #[.slice R.a R.l.length R.c,ah (i:Int),ah (d':Int)] 152 (0,0))) (hs:Step (·=R.rb) w w'):bC R w' i d':=
 ⟨hb,h.row.step hs oi,hs.cell h.Nz (fun e=>by have h2:=h.pos;have e2:0=R.rb:=e;omega),h.pos,h.lt⟩
def Qa (R:gI) (d:Nat) (Q:Nat→World→Prop) (e:Ending) (w':World):Prop:=
 e=.returned (.tuple #[])∧∃(i':Nat) (w2:World),Q i' w2∧bC R w' i' d∧Step (·=R.rb) w2 w'
theorem FP (R:gI) (k:Nat) (caps:List Value) (w:World) (i d:Nat) (Q:Nat→World→Prop) (hk:Enters k) (h:bC R w i d) (hd:d<40) (hby:∀w1,bC R w1 i (d+1)→Step (·=R.rb) w w1→Calls Tryz.prog k caps.toArray w1 fun e w2=>e=.returned (.tuple #[])∧∃i',bC R w2 i' (d+1)∧Q i' w2):Calls Tryz.prog 75 #[.pointer (some ⟨R.rb,0,none⟩),.func (.func k) #[] caps.toArray] w (Qa R d Q):=by
 have hfe:∀(fn:Fn) (x y:Array Value) (w:World),(binOp .eql 1 (.func fn x y) .nilFunc).run Tryz.prog w=.ok (.bool false) w:=fun _ _ _ _=>by kernel_rfl
 have hen:Enters k:=hk;unfold Enters at hen;have H:=ai h;have HBY:=ai hby;have k2:=aj h.blk 2 _ rfl;have z2:=aG h.blk 2;have e40:((d:Int)==40)=false:=by rw[kF d 40 40 rfl];exact beq_eq_false_iff_ne.2 om
 have R1:IntKind.i64.wrap ((d:Int)+1)=(d:Int)+1:=IntWalk.i64_in _ om;have R2:IntKind.i64.wrap ((d:Int)+1-1)=(d:Int):=by rw[show((d:Int)+1-1)=(d:Int) by omega];exact IntWalk.i64_in _ om
 have R3:((d:Int)+1-1)=(d:Int):=by omega
 clear h hby hk;go_enter Tryz.func75,Tryz.ntmps75;go_wp2_with fail;have hset:=aQ H.o.blk 2 (.int .i64 ((d:Int)+1));have hst:Step (·=R.rb) w (w.setCell ⟨R.rb,2,none⟩ (.int .i64 ((d:Int)+1))):=bg.setCell _ _ iV;refine(HBY.o _ (H.o.deep hset hst) hst).mono ?_;rintro e w2 ⟨rfl,i',hr,hq⟩;have HR:=ai hr;have HQ:=ai hq;clear hset hst hr hq k2 z2;have k2:w2.cell? ⟨R.rb,2,none⟩=some (.int .i64 ((d:Int)+1)):=aj HR.o.blk 2 _ rfl;have z2:=aG HR.o.blk 2;go_wp2_with fail;refine bodyPost_end (results_none rfl _ _ _) rfl ?_;have hset:=aQ HR.o.blk 2 (.int .i64 (d:Int));have hst:Step (·=R.rb) w2 (w2.setCell ⟨R.rb,2,none⟩ (.int .i64 (d:Int))):=bg.setCell _ _ iV;exact⟨rfl,i',w2,HQ.o,HR.o.deep hset hst,hst⟩
theorem Ci (R:gI) (k:Nat) (caps:List Value) (w:World) (i d:Nat) (es:List PanicEntry) (Q:World→Prop) (hk:Enters k) (h:bC R w i d) (hd:d<40) (hby:∀w1,bC R w1 i (d+1)→Step (·=R.rb) w w1→Calls Tryz.prog k caps.toArray w1 fun e w2=>e=.panicked es∧Q w2):Calls Tryz.prog 75 #[.pointer (some ⟨R.rb,0,none⟩),.func (.func k) #[] caps.toArray] w fun e w'=>e=.panicked es∧Q w':=by
 have hfe:∀(fn:Fn) (x y:Array Value) (w:World),(binOp .eql 1 (.func fn x y) .nilFunc).run Tryz.prog w=.ok (.bool false) w:=fun _ _ _ _=>by kernel_rfl
 have hen:Enters k:=hk;unfold Enters at hen;have H:=ai h;have HBY:=ai hby;have k2:=aj h.blk 2 _ rfl;have z2:=aG h.blk 2;have e40:((d:Int)==40)=false:=by rw[kF d 40 40 rfl];exact beq_eq_false_iff_ne.2 om
 have R1:IntKind.i64.wrap ((d:Int)+1)=(d:Int)+1:=IntWalk.i64_in _ om;clear h hby hk;go_enter Tryz.func75,Tryz.ntmps75;go_wp2_with fail;have hset:=aQ H.o.blk 2 (.int .i64 ((d:Int)+1));have hst:Step (·=R.rb) w (w.setCell ⟨R.rb,2,none⟩ (.int .i64 ((d:Int)+1))):=bg.setCell _ _ iV;refine(HBY.o _ (H.o.deep hset hst) hst).mono ?_;rintro e w2 ⟨rfl,hq⟩;exact⟨rfl,rfl,hq⟩
def dh (w:World) (P:Nat→Prop) (v:Value) (n:Nat) (xs:List Value):Prop:=
 ∃a c,v=.slice a n c∧n≤c∧c≤9223372036854775807∧(a=none→n=0∧c=0)∧(0<n→∃g o,a=some ⟨g,o,none⟩∧P g∧g<w.heap.size∧∀(i:Nat) x,xs[i]?=some x→w.cell? ⟨g,o+i,none⟩=some x)
theorem dh.step {w w':World} {P:Nat→Prop} {v:Value} {n:Nat} {xs:List Value} {S:Nat→Prop} (h:dh w P v n xs) (hs:Step S w w') (hS:∀k,P k→¬S k):dh w' P v n xs:=by obtain⟨a,c,hv,hc,hm,hz,hr⟩:=h;refine⟨a,c,hv,hc,hm,hz,fun hn=> ?_⟩;obtain⟨g,o,ha,hg,hgw,hcell⟩:=hr hn;exact⟨g,o,ha,hg,Nat.lt_of_lt_of_le hgw hs.size,fun i x hx=>hs.cell (hcell i x hx) (hS g hg)⟩
theorem dh.mono {w:World} {P P':Nat→Prop} {v:Value} {n:Nat} {xs:List Value} (h:dh w P v n xs) (hp:∀k,k<w.heap.size→P k→P' k):dh w P' v n xs:=by obtain⟨a,c,hv,hc,hm,hz,hr⟩:=h;refine⟨a,c,hv,hc,hm,hz,fun hn=> ?_⟩;obtain⟨g,o,ha,hg,hgw,hcell⟩:=hr hn;exact⟨g,o,ha,hp g hgw hg,hgw,hcell⟩
theorem dh.nil (w:World) (P:Nat→Prop) (xs:List Value):dh w P (.slice none 0 0) 0 xs:=⟨none,0,rfl,Nat.le_refl _,by decide,fun _=>⟨rfl,rfl⟩,fun h=>absurd h (Nat.lt_irrefl _)⟩
theorem dh.new {w:World} {P:Nat→Prop} {b t n:Nat} {cs:List Value} (h:w.heap[b]?=some (.cells cs.toArray t (0,0))) (hn:n≤9223372036854775807) (hp:P b):dh w P (.slice (some ⟨b,0,none⟩) n n) n cs:=by
 refine⟨_,n,rfl,Nat.le_refl _,hn,lg,fun _=>⟨b,0,rfl,hp,aP h,fun i x hx=> ?_⟩⟩;have:=oL h i x hx
 rwa [BG]at this
theorem dh.jd {w:World} {P:Nat→Prop} {base:Nat} {e:TypeId} {size:Nat} {v:Value} {n:Nat} {xs:List Value} (h:w.ownsRow base e size v n xs) (hp:∀k,v.ownBlock=some k→P k):dh w P v n xs:=by have h2:=Row.jd (B:=w.heap.size) h (Nat.le_refl _);obtain⟨a,c,hv,hc,hm,hz,hr⟩:=h2;refine⟨a,c,hv,hc,hm,hz,fun hn=> ?_⟩;obtain⟨g,o,ha,hg,hgw,hcell⟩:=hr hn;exact⟨g,o,ha,hp g (by rw[hv,ha];rfl),hgw,hcell⟩
theorem dh.row {w:World} {P:Nat→Prop} {B:Nat} {v:Value} {n:Nat} {xs:List Value} (h:dh w P v n xs) (hp:∀k,k<w.heap.size→P k→k<B):Row w B v n xs:=dh.mono (P':=fun k=>k<B) h hp
inductive Ty where
 |mk (kind:Int) (name life:ByteArray) (mu:Bool) (bI:List ByteArray) (args:List Ty) (line col:Int)
mutual
inductive Ex where
 |mk (kind:Int) (name:ByteArray) (val:Int) (mu:Bool) (args:List Ex) (names:List ByteArray) (body:List St) (line col:Int)
inductive St where
 |mk (kind:Int) (name:ByteArray) (type:Ty) (place e:List Ex) (body els:List St) (other:Bool) (line col:Int)
end
mutual
def gG (w:World) (P:Nat→Prop):Ty→List Value→Prop
 | .mk k name life m bI args l c,cs=>∃vl va xs,cs=[.int .i64 k,.string name,.string life,.bool m,vl,va,.int .i64 l,.int .i64 c]∧name.size≤9223372036854775807∧life.size≤9223372036854775807∧
   (∀s∈bI,s.size≤9223372036854775807)∧dh w P vl bI.length (bI.map .string)∧fV w P args xs∧dh w P va args.length xs
def fV (w:World) (P:Nat→Prop):List Ty→List Value→Prop
 |[],cs=>cs=[]
 |t::r,cs=>∃c1 c2,cs=c1++c2∧gG w P t c1∧fV w P r c2
end
mutual
def dA (w:World) (P:Nat→Prop):Ex→List Value→Prop
 | .mk k name v m args names body l c,cs=>∃va vn vb xa xb,cs=[.int .i64 k,.string name,.int .u64 v,.bool m,va,vn,vb,.int .i64 l,.int .i64 c]∧name.size≤9223372036854775807∧(∀s∈names,s.size≤9223372036854775807)∧
   bY w P args xa∧dh w P va args.length xa∧dh w P vn names.length (names.map .string)∧eP w P body xb∧dh w P vb body.length xb
def bY (w:World) (P:Nat→Prop):List Ex→List Value→Prop
 |[],cs=>cs=[]
 |t::r,cs=>∃c1 c2,cs=c1++c2∧dA w P t c1∧bY w P r c2
def jS (w:World) (P:Nat→Prop):St→List Value→Prop
 | .mk k name ty place e body els other l c,cs=>∃ct vp ve vb vl xp xe xb xl,cs=[.int .i64 k,.string name]++ct++[vp,ve,vb,vl,.bool other,.int .i64 l,.int .i64 c]∧name.size≤9223372036854775807∧gG w P ty ct∧
   bY w P place xp∧dh w P vp place.length xp∧bY w P e xe∧dh w P ve e.length xe∧eP w P body xb∧dh w P vb body.length xb∧eP w P els xl∧dh w P vl els.length xl
def eP (w:World) (P:Nat→Prop):List St→List Value→Prop
 |[],cs=>cs=[]
 |t::r,cs=>∃c1 c2,cs=c1++c2∧jS w P t c1∧eP w P r c2
end
mutual
theorem gG.step {w w':World} {P:Nat→Prop} {S:Nat→Prop} (hs:Step S w w') (hS:∀k,P k→¬S k):∀(t:Ty) (cs:List Value),gG w P t cs→gG w' P t cs
 | .mk k name life m bI args l c,cs,h=>by
  rw[gG]at h⊢
  obtain⟨vl,va,xs,h1,h2,h3,h4,h5,h6,h7⟩:=h
  exact⟨vl,va,xs,h1,h2,h3,h4,h5.step hs hS,fV.step hs hS args xs h6,h7.step hs hS⟩
theorem fV.step {w w':World} {P:Nat→Prop} {S:Nat→Prop} (hs:Step S w w') (hS:∀k,P k→¬S k):∀(l:List Ty) (cs:List Value),fV w P l cs→fV w' P l cs
 |[],cs,h=>by rw[fV]at h⊢;exact h
 |t::r,cs,h=>by
  rw[fV]at h⊢
  obtain⟨c1,c2,h1,h2,h3⟩:=h
  exact⟨c1,c2,h1,gG.step hs hS t c1 h2,fV.step hs hS r c2 h3⟩
end
mutual
theorem dA.step {w w':World} {P:Nat→Prop} {S:Nat→Prop} (hs:Step S w w') (hS:∀k,P k→¬S k):∀(t:Ex) (cs:List Value),dA w P t cs→dA w' P t cs
 | .mk k name v m args names body l c,cs,h=>by
  rw[dA]at h⊢
  obtain⟨va,vn,vb,xa,xb,h1,h2,h3,h4,h5,h6,h7,h8⟩:=h
  exact⟨va,vn,vb,xa,xb,h1,h2,h3,bY.step hs hS args xa h4,h5.step hs hS,h6.step hs hS,eP.step hs hS body xb h7,h8.step hs hS⟩
theorem bY.step {w w':World} {P:Nat→Prop} {S:Nat→Prop} (hs:Step S w w') (hS:∀k,P k→¬S k):∀(l:List Ex) (cs:List Value),bY w P l cs→bY w' P l cs
 |[],cs,h=>by rw[bY]at h⊢;exact h
 |t::r,cs,h=>by
  rw[bY]at h⊢
  obtain⟨c1,c2,h1,h2,h3⟩:=h
  exact⟨c1,c2,h1,dA.step hs hS t c1 h2,bY.step hs hS r c2 h3⟩
theorem jS.step {w w':World} {P:Nat→Prop} {S:Nat→Prop} (hs:Step S w w') (hS:∀k,P k→¬S k):∀(t:St) (cs:List Value),jS w P t cs→jS w' P t cs
 | .mk k name ty place e body els other l c,cs,h=>by
  rw[jS]at h⊢
  obtain⟨ct,vp,ve,vb,vl,xp,xe,xb,xl,h1,h2,h3,h4,h5,h6,h7,h8,h9,h10,h11⟩:=h
  exact⟨ct,vp,ve,vb,vl,xp,xe,xb,xl,h1,h2,gG.step hs hS ty ct h3,bY.step hs hS place xp h4,h5.step hs hS,bY.step hs hS e xe h6,h7.step hs hS,eP.step hs hS body xb h8,h9.step hs hS,eP.step hs hS els xl h10,h11.step hs hS⟩
theorem eP.step {w w':World} {P:Nat→Prop} {S:Nat→Prop} (hs:Step S w w') (hS:∀k,P k→¬S k):∀(l:List St) (cs:List Value),eP w P l cs→eP w' P l cs
 |[],cs,h=>by rw[eP]at h⊢;exact h
 |t::r,cs,h=>by
  rw[eP]at h⊢
  obtain⟨c1,c2,h1,h2,h3⟩:=h
  exact⟨c1,c2,h1,jS.step hs hS t c1 h2,eP.step hs hS r c2 h3⟩
end
theorem gG.len {w:World} {P:Nat→Prop} {t:Ty} {cs:List Value} (h:gG w P t cs):cs.length=8:=by obtain⟨k,name,life,m,bI,args,l,c⟩:=t;rw[gG]at h;obtain⟨_,_,_,rfl,_⟩:=h;rfl
theorem dA.len {w:World} {P:Nat→Prop} {t:Ex} {cs:List Value} (h:dA w P t cs):cs.length=9:=by obtain⟨k,name,v,m,args,names,body,l,c⟩:=t;rw[dA]at h;obtain⟨_,_,_,_,_,rfl,_⟩:=h;rfl
theorem jS.len {w:World} {P:Nat→Prop} {t:St} {cs:List Value} (h:jS w P t cs):cs.length=17:=by obtain⟨k,name,ty,place,e,body,els,other,l,c⟩:=t;rw[jS]at h;obtain⟨ct,_,_,_,_,_,_,_,_,rfl,_,h,_⟩:=h;have:=h.len;simp;omega
theorem fV.get {w:World} {P:Nat→Prop}:∀{l:List Ty} {xs:List Value} (i:Nat) {t:Ty},fV w P l xs→l[i]?=some t→∃cs,gG w P t cs∧∀j x,cs[j]?=some x→xs[i*8+j]?=some x
 |[],_,i,t,_,ht=>by simp at ht
 |a::r,xs,i,t,h,ht=>by
  rw[fV]at h
  obtain⟨c1,c2,rfl,h1,h2⟩:=h
  cases i with
  |zero=>
   simp at ht;subst ht
   refine⟨c1,h1,fun j x hx=> ?_⟩
   rw[Nat.zero_mul,Nat.zero_add,List.getElem?_append_left (List.getElem?_eq_some_iff.1 hx).1];exact hx
  |succ i=>
   obtain⟨cs,h3,h4⟩:=fV.get i h2 (by simpa using ht)
   refine⟨cs,h3,fun j x hx=> ?_⟩
   rw[List.getElem?_append_right (by rw[h1.len];omega),h1.len,show(i+1)*8+j-8=i*8+j by omega]
   exact h4 j x hx
theorem bY.get {w:World} {P:Nat→Prop}:∀{l:List Ex} {xs:List Value} (i:Nat) {t:Ex},bY w P l xs→l[i]?=some t→∃cs,dA w P t cs∧∀j x,cs[j]?=some x→xs[i*9+j]?=some x
 |[],_,i,t,_,ht=>by simp at ht
 |a::r,xs,i,t,h,ht=>by
  rw[bY]at h
  obtain⟨c1,c2,rfl,h1,h2⟩:=h
  cases i with
  |zero=>
   simp at ht;subst ht
   refine⟨c1,h1,fun j x hx=> ?_⟩
   rw[Nat.zero_mul,Nat.zero_add,List.getElem?_append_left (List.getElem?_eq_some_iff.1 hx).1];exact hx
  |succ i=>
   obtain⟨cs,h3,h4⟩:=bY.get i h2 (by simpa using ht)
   refine⟨cs,h3,fun j x hx=> ?_⟩
   rw[List.getElem?_append_right (by rw[h1.len];omega),h1.len,show(i+1)*9+j-9=i*9+j by omega]
   exact h4 j x hx
theorem eP.get {w:World} {P:Nat→Prop}:∀{l:List St} {xs:List Value} (i:Nat) {t:St},eP w P l xs→l[i]?=some t→∃cs,jS w P t cs∧∀j x,cs[j]?=some x→xs[i*17+j]?=some x
 |[],_,i,t,_,ht=>by simp at ht
 |a::r,xs,i,t,h,ht=>by
  rw[eP]at h
  obtain⟨c1,c2,rfl,h1,h2⟩:=h
  cases i with
  |zero=>
   simp at ht;subst ht
   refine⟨c1,h1,fun j x hx=> ?_⟩
   rw[Nat.zero_mul,Nat.zero_add,List.getElem?_append_left (List.getElem?_eq_some_iff.1 hx).1];exact hx
  |succ i=>
   obtain⟨cs,h3,h4⟩:=eP.get i h2 (by simpa using ht)
   refine⟨cs,h3,fun j x hx=> ?_⟩
   rw[List.getElem?_append_right (by rw[h1.len];omega),h1.len,show(i+1)*17+j-17=i*17+j by omega]
   exact h4 j x hx
theorem fV.len {w:World} {P:Nat→Prop}:∀{l:List Ty} {xs:List Value},fV w P l xs→xs.length=l.length*8
 |[],_,h=>by rw[fV]at h;subst h;rfl
 |a::r,xs,h=>by
  rw[fV]at h
  obtain⟨c1,c2,rfl,h1,h2⟩:=h
  rw[List.length_append,h1.len,h2.len,List.length_cons];omega
theorem bY.len {w:World} {P:Nat→Prop}:∀{l:List Ex} {xs:List Value},bY w P l xs→xs.length=l.length*9
 |[],_,h=>by rw[bY]at h;subst h;rfl
 |a::r,xs,h=>by
  rw[bY]at h
  obtain⟨c1,c2,rfl,h1,h2⟩:=h
  rw[List.length_append,h1.len,h2.len,List.length_cons];omega
theorem eP.len {w:World} {P:Nat→Prop}:∀{l:List St} {xs:List Value},eP w P l xs→xs.length=l.length*17
 |[],_,h=>by rw[eP]at h;subst h;rfl
 |a::r,xs,h=>by
  rw[eP]at h
  obtain⟨c1,c2,rfl,h1,h2⟩:=h
  rw[List.length_append,h1.len,h2.len,List.length_cons];omega
theorem dA.one {w:World} {P:Nat→Prop} {t:Ex} {cs:List Value} (h:dA w P t cs):∀u∈cs,u.oneCell'=true:=by obtain⟨k,name,v,m,args,names,body,l,c⟩:=t;rw[dA]at h;obtain⟨_,_,_,_,_,rfl,_,_,_,⟨_,_,rfl,_⟩,⟨_,_,rfl,_⟩,_,_,_,rfl,_⟩:=h;intro u hu;simp at hu;rcases hu with rfl|rfl|rfl|rfl|rfl|rfl|rfl|rfl|rfl<;>rfl
theorem bY.one {w:World} {P:Nat→Prop}:∀{l:List Ex} {xs:List Value},bY w P l xs→∀u∈xs,u.oneCell'=true
 |[],_,h=>by rw[bY]at h;subst h;intro u hu;cases hu
 |a::r,xs,h=>by
  rw[bY]at h
  obtain⟨c1,c2,rfl,h1,h2⟩:=h
  intro u hu
  rcases List.mem_append.1 hu with h|h
  ·
   exact h1.one u h
  ·
   exact bY.one h2 u h
theorem bY.append {w:World} {P:Nat→Prop}:∀{l:List Ex} {xs:List Value} {l':List Ex} {xs':List Value},bY w P l xs→bY w P l' xs'→bY w P (l++l') (xs++xs')
 |[],_,_,_,h,h'=>by rw[bY]at h;subst h;exact h'
 |a::r,xs,l',xs',h,h'=>by
  rw[bY]at h
  obtain⟨c1,c2,rfl,h1,h2⟩:=h
  rw[List.cons_append,bY]
  exact⟨c1,c2++xs',by rw[List.append_assoc],h1,bY.append h2 h'⟩
theorem fV.cells {w:World} {P:Nat→Prop} {l:List Ty} {xs:List Value} {g o i:Nat} {t:Ty} (h:fV w P l xs) (ht:l[i]?=some t) (hc:∀(i:Nat) x,xs[i]?=some x→w.cell? ⟨g,o+i,none⟩=some x):∃cs,gG w P t cs∧∀j x,cs[j]?=some x→w.cell? ⟨g,o+i*8+j,none⟩=some x:=by obtain⟨cs,h1,h2⟩:=fV.get i h ht;exact⟨cs,h1,fun j x hx=>by rw[Nat.add_assoc];exact hc _ _ (h2 j x hx)⟩
theorem bY.cells {w:World} {P:Nat→Prop} {l:List Ex} {xs:List Value} {g o i:Nat} {t:Ex} (h:bY w P l xs) (ht:l[i]?=some t) (hc:∀(i:Nat) x,xs[i]?=some x→w.cell? ⟨g,o+i,none⟩=some x):∃cs,dA w P t cs∧∀j x,cs[j]?=some x→w.cell? ⟨g,o+i*9+j,none⟩=some x:=by obtain⟨cs,h1,h2⟩:=bY.get i h ht;exact⟨cs,h1,fun j x hx=>by rw[Nat.add_assoc];exact hc _ _ (h2 j x hx)⟩
theorem eP.cells {w:World} {P:Nat→Prop} {l:List St} {xs:List Value} {g o i:Nat} {t:St} (h:eP w P l xs) (ht:l[i]?=some t) (hc:∀(i:Nat) x,xs[i]?=some x→w.cell? ⟨g,o+i,none⟩=some x):∃cs,jS w P t cs∧∀j x,cs[j]?=some x→w.cell? ⟨g,o+i*17+j,none⟩=some x:=by obtain⟨cs,h1,h2⟩:=eP.get i h ht;exact⟨cs,h1,fun j x hx=>by rw[Nat.add_assoc];exact hc _ _ (h2 j x hx)⟩
mutual
theorem gG.mono {w:World} {P P':Nat→Prop} (hp:∀k,k<w.heap.size→P k→P' k):∀(t:Ty) (cs:List Value),gG w P t cs→gG w P' t cs
 | .mk k name life m bI args l c,cs,h=>by
  rw[gG]at h⊢
  obtain⟨vl,va,xs,h1,h2,h3,h4,h5,h6,h7⟩:=h
  exact⟨vl,va,xs,h1,h2,h3,h4,h5.mono hp,fV.mono hp args xs h6,h7.mono hp⟩
theorem fV.mono {w:World} {P P':Nat→Prop} (hp:∀k,k<w.heap.size→P k→P' k):∀(l:List Ty) (cs:List Value),fV w P l cs→fV w P' l cs
 |[],cs,h=>by rw[fV]at h⊢;exact h
 |t::r,cs,h=>by
  rw[fV]at h⊢
  obtain⟨c1,c2,h1,h2,h3⟩:=h
  exact⟨c1,c2,h1,gG.mono hp t c1 h2,fV.mono hp r c2 h3⟩
end
mutual
theorem dA.mono {w:World} {P P':Nat→Prop} (hp:∀k,k<w.heap.size→P k→P' k):∀(t:Ex) (cs:List Value),dA w P t cs→dA w P' t cs
 | .mk k name v m args names body l c,cs,h=>by
  rw[dA]at h⊢
  obtain⟨va,vn,vb,xa,xb,h1,h2,h3,h4,h5,h6,h7,h8⟩:=h
  exact⟨va,vn,vb,xa,xb,h1,h2,h3,bY.mono hp args xa h4,h5.mono hp,h6.mono hp,eP.mono hp body xb h7,h8.mono hp⟩
theorem bY.mono {w:World} {P P':Nat→Prop} (hp:∀k,k<w.heap.size→P k→P' k):∀(l:List Ex) (cs:List Value),bY w P l cs→bY w P' l cs
 |[],cs,h=>by rw[bY]at h⊢;exact h
 |t::r,cs,h=>by
  rw[bY]at h⊢
  obtain⟨c1,c2,h1,h2,h3⟩:=h
  exact⟨c1,c2,h1,dA.mono hp t c1 h2,bY.mono hp r c2 h3⟩
theorem jS.mono {w:World} {P P':Nat→Prop} (hp:∀k,k<w.heap.size→P k→P' k):∀(t:St) (cs:List Value),jS w P t cs→jS w P' t cs
 | .mk k name ty place e body els other l c,cs,h=>by
  rw[jS]at h⊢
  obtain⟨ct,vp,ve,vb,vl,xp,xe,xb,xl,h1,h2,h3,h4,h5,h6,h7,h8,h9,h10,h11⟩:=h
  exact⟨ct,vp,ve,vb,vl,xp,xe,xb,xl,h1,h2,gG.mono hp ty ct h3,bY.mono hp place xp h4,h5.mono hp,bY.mono hp e xe h6,h7.mono hp,eP.mono hp body xb h8,h9.mono hp,eP.mono hp els xl h10,h11.mono hp⟩
theorem eP.mono {w:World} {P P':Nat→Prop} (hp:∀k,k<w.heap.size→P k→P' k):∀(l:List St) (cs:List Value),eP w P l cs→eP w P' l cs
 |[],cs,h=>by rw[eP]at h⊢;exact h
 |t::r,cs,h=>by
  rw[eP]at h⊢
  obtain⟨c1,c2,h1,h2,h3⟩:=h
  exact⟨c1,c2,h1,jS.mono hp t c1 h2,eP.mono hp r c2 h3⟩
end
theorem gG.one {w:World} {P:Nat→Prop} {t:Ty} {cs:List Value} (h:gG w P t cs):∀u∈cs,u.oneCell'=true:=by obtain⟨k,name,life,m,bI,args,l,c⟩:=t;rw[gG]at h;obtain⟨_,_,_,rfl,_,_,_,⟨_,_,rfl,_⟩,_,⟨_,_,rfl,_⟩⟩:=h;intro u hu;simp at hu;rcases hu with rfl|rfl|rfl|rfl|rfl|rfl|rfl|rfl<;>rfl
theorem jS.one {w:World} {P:Nat→Prop} {t:St} {cs:List Value} (h:jS w P t cs):∀u∈cs,u.oneCell'=true:=by
 obtain⟨k,name,ty,place,e,body,els,other,l,c⟩:=t;rw[jS]at h;obtain⟨ct,_,_,_,_,_,_,_,_,rfl,_,hty,_,⟨_,_,rfl,_⟩,_,⟨_,_,rfl,_⟩,_,⟨_,_,rfl,_⟩,_,⟨_,_,rfl,_⟩⟩:=h;intro u hu;rcases List.mem_append.1 hu with hu|hu
 ·rcases List.mem_append.1 hu with hu|hu
  ·simp at hu;rcases hu with rfl|rfl<;>rfl
  ·exact hty.one u hu
 ·simp at hu;rcases hu with rfl|rfl|rfl|rfl|rfl|rfl|rfl<;>rfl
theorem fV.snoc {w:World} {P:Nat→Prop}:∀{l:List Ty} {xs:List Value} {t:Ty} {cs:List Value},fV w P l xs→gG w P t cs→fV w P (l++[t]) (xs++cs)
 |[],xs,t,cs,h,h1=>by
  rw[fV]at h;subst h
  rw[List.nil_append,fV]
  exact⟨cs,[],by simp,h1,by rw[fV]⟩
 |a::r,xs,t,cs,h,h1=>by
  rw[fV]at h
  obtain⟨c1,c2,rfl,h2,h3⟩:=h
  rw[List.cons_append,fV]
  exact⟨c1,c2++cs,by rw[List.append_assoc],h2,fV.snoc h3 h1⟩
theorem bY.snoc {w:World} {P:Nat→Prop} {l:List Ex} {xs:List Value} {t:Ex} {cs:List Value} (h:bY w P l xs) (h1:dA w P t cs):bY w P (l++[t]) (xs++cs):=
 bY.append h (by rw[bY];exact⟨cs,[],by simp,h1,by rw[bY]⟩)
theorem eP.snoc {w:World} {P:Nat→Prop}:∀{l:List St} {xs:List Value} {t:St} {cs:List Value},eP w P l xs→jS w P t cs→eP w P (l++[t]) (xs++cs)
 |[],xs,t,cs,h,h1=>by
  rw[eP]at h;subst h
  rw[List.nil_append,eP]
  exact⟨cs,[],by simp,h1,by rw[eP]⟩
 |a::r,xs,t,cs,h,h1=>by
  rw[eP]at h
  obtain⟨c1,c2,rfl,h2,h3⟩:=h
  rw[List.cons_append,eP]
  exact⟨c1,c2++cs,by rw[List.append_assoc],h2,eP.snoc h3 h1⟩
inductive dI (α:Type) where
 |ok (a:α) (i:Nat)
 |err (c ln col:Nat)
 |out
def dI.bind {α β:Type}:dI α→(α→Nat→dI β)→dI β
 | .ok a i,f=>f a i
 | .err c ln col,_=>.err c ln col
 | .out,_=>.out
theorem dI.bind_ok {α β:Type} (a:α) (i:Nat) (f:α→Nat→dI β):(dI.ok a i).bind f=f a i:=rfl
theorem dI.kT {α β:Type} (c ln col:Nat) (f:α→Nat→dI β):(dI.err c ln col:dI α).bind f=.err c ln col:=rfl
theorem dI.sG {α β:Type} (f:α→Nat→dI β):(dI.out:dI α).bind f=.out:=rfl
theorem tV {α β:Type} {x:dI α} {a:α} {j:Nat} {g:α→Nat→dI β} (h:x=.ok a j):x.bind g=g a j:=by rw[h];rfl
def LP:Tok:=⟨0,[],0,0,0⟩
def tokA (l:List Tok) (i:Nat):Tok:=l.getD i LP
def bG (l:List Tok) (i:Nat) (s:List UInt8):Bool:=sF (tokA l i) s
def iw {α:Type} (c:Nat) (l:List Tok) (i:Nat):dI α:=.err c (tokA l i).line (tokA l i).col
def aJ (l:List Tok) (i:Nat) (s:List UInt8):dI Unit:=if bG l i s then .ok () (i+1)else iw 1 l i
def bH (l:List Tok) (i:Nat):dI ByteArray:=if um (tokA l i)then .ok (lX (tokA l i).text) (i+1)else iw 1 l i
def eU (n most:Nat) (l:List Tok) (i:Nat):dI Unit:=if most≤n then iw 2 l i else .ok () i
def jl (l:List Tok) (i:Nat):dI ByteArray:=if(tokA l i).kind=2 then .ok (lX (tokA l i).text) (i+1)else iw 1 l i
def rV (l:List Tok) (i:Nat):ByteArray:=if(tokA l i).kind=2 then lX (tokA l i).text else⟨#[]⟩
def pG (l:List Tok) (i:Nat):Nat:=if(tokA l i).kind=2 then i+1 else i
def iH (l:List Tok) (i:Nat) (s:List UInt8):Nat:=if bG l i s then i+1 else i
def dB:ByteArray:=⟨#[]⟩
instance:CoeDep Vt aV Value:=⟨.string dB⟩
mutual
def kG:Nat→List Tok→Nat→Nat→dI Ty
 |0,_,_,_=>.out
 |f+1,l,i,d=>
  if d=40 then iw 2 l i
  else if bG l i [105,110,116]then .ok (.mk 1 dB dB false [] [] (tokA l i).line (tokA l i).col) (i+1)
  else if bG l i [98,111,111,108]then .ok (.mk 2 dB dB false [] [] (tokA l i).line (tokA l i).col) (i+1)
  else if bG l i [102,54,52]then .ok (.mk 3 dB dB false [] [] (tokA l i).line (tokA l i).col) (i+1)
  else if bG l i [40]then(aJ l (i+1) [41]).bind fun _ j=>.ok (.mk 4 dB dB false [] [] (tokA l i).line (tokA l i).col) j
  else if bG l i [66,111,120]then(aJ l (i+1) [60]).bind fun _ j=>(kG f l j (d+1)).bind fun a j=>(aJ l j [62]).bind fun _ j=>.ok (.mk 6 dB dB false [] [a] (tokA l i).line (tokA l i).col) j
  else if bG l i [38]then(kG f l (iH l (pG l (i+1)) [109,117,116]) (d+1)).bind fun a j=>.ok (.mk 7 dB (rV l (i+1)) (bG l (pG l (i+1)) [109,117,116]) [] [a] (tokA l i).line (tokA l i).col) j
  else if bG l i [100,121,110]then(bH l (i+1)).bind fun n j=>if bG l j [43]then(jl l (j+1)).bind fun x j=>.ok (.mk 8 n x false [] [] (tokA l i).line (tokA l i).col) j else .ok (.mk 8 n dB false [] [] (tokA l i).line (tokA l i).col) j
  else(bH l i).bind fun n j=>if bG l j [60]then(mg f l (j+1) (d+1) [] []).bind fun p j=>.ok (.mk 5 n dB false p.1 p.2 (tokA l i).line (tokA l i).col) j else .ok (.mk 5 n dB false [] [] (tokA l i).line (tokA l i).col) j
def mg:Nat→List Tok→Nat→Nat→List ByteArray→List Ty→dI (List ByteArray×List Ty)
 |0,_,_,_,_,_=>.out
 |f+1,l,i,d,ls,ts=>
  (eU (ls.length+ts.length) 8 l i).bind fun _ i=>
   (if(tokA l i).kind=2∧ts.length=0 then(jl l i).bind fun x j=>.ok (ls++[x],ts) j else(kG f l i d).bind fun x j=>.ok (ls,ts++[x]) j).bind fun p j=>
    if bG l j [44]then mg f l (j+1) d p.1 p.2 else(aJ l j [62]).bind fun _ j=>.ok p j
end
def lK:Nat→List Tok→Nat→List ByteArray→dI (List ByteArray)
 |0,_,_,_=>.out
 |f+1,l,i,ns=>(eU ns.length 8 l i).bind fun _ i=>(bH l i).bind fun n j=>if bG l j [44]then lK f l (j+1) (ns++[n])else(aJ l j [124]).bind fun _ j=>.ok (ns++[n]) j
def opsL:Nat→List (List UInt8)
 |0=>[[124]]
 |1=>[[38,38]]
 |2=>[[61,61],[60]]
 |3=>[[43],[45]]
 |4=>[[42],[47]]
 |_=>[]
def xu (l:List Tok) (i n:Nat):Option (List UInt8):=(opsL n).find? (bG l i)
def bP (k:Int) (name:ByteArray) (v:Int) (m:Bool) (args:List Ex) (names:List ByteArray) (body:List St) (t:Tok):Ex:=.mk k name v m args names body t.line t.col
def jP (k:Int) (name:ByteArray) (ty:Ty) (place e:List Ex) (body els:List St) (other:Bool) (t:Tok):St:=.mk k name ty place e body els other t.line t.col
def fK:Ty:=.mk 0 dB dB false [] [] 0 0
mutual
def a_:Nat→List Tok→Nat→Nat→Nat→dI Ex
 |0,_,_,_,_=>.out
 |f+1,l,i,d,n=>if n=5 then iI f l i d else(a_ f l i d (n+1)).bind fun x j=>vK f l j d n x
def vK:Nat→List Tok→Nat→Nat→Nat→Ex→dI Ex
 |0,_,_,_,_,_=>.out
 |f+1,l,i,d,n,x=>match xu l i n with
  |none=>.ok x i
  |some s=>(a_ f l (i+1) d (n+1)).bind fun y j=>
    if n=2 then .ok (bP 14 (lX s) 0 false [x,y] [] [] (tokA l i)) j else vK f l j d n (bP 14 (lX s) 0 false [x,y] [] [] (tokA l i))
def iI:Nat→List Tok→Nat→Nat→dI Ex
 |0,_,_,_=>.out
 |f+1,l,i,d=>
  if d=40 then iw 2 l i
  else if bG l i [45]then(iI f l (i+1) (d+1)).bind fun y j=>.ok (bP 15 (lX [45]) 0 false [y] [] [] (tokA l i)) j
  else if bG l i [33]then(iI f l (i+1) (d+1)).bind fun y j=>.ok (bP 15 (lX [33]) 0 false [y] [] [] (tokA l i)) j
  else if bG l i [42]then(iI f l (i+1) (d+1)).bind fun y j=>.ok (bP 7 dB 0 false [y] [] [] (tokA l i)) j
  else if bG l i [38]then(iI f l (iH l (i+1) [109,117,116]) (d+1)).bind fun y j=>.ok (bP 8 dB 0 (bG l (i+1) [109,117,116]) [y] [] [] (tokA l i)) j
  else rD f l i (d+1)
def rD:Nat→List Tok→Nat→Nat→dI Ex
 |0,_,_,_=>.out
 |f+1,l,i,d=>(qg f l i d).bind fun x j=>nJ f l j d x
def nJ:Nat→List Tok→Nat→Nat→Ex→dI Ex
 |0,_,_,_,_=>.out
 |f+1,l,i,d,x=>
  if bG l i [46]then(bH l (i+1)).bind fun n j=>
   if bG l j [40]then(lG f l (j+1) d).bind fun al j=>nJ f l j d (bP 13 n 0 false (x::al) [] [] (tokA l i))
   else nJ f l j d (bP 6 n 0 false [x] [] [] (tokA l i))
  else .ok x i
def lG:Nat→List Tok→Nat→Nat→dI (List Ex)
 |0,_,_,_=>.out
 |f+1,l,i,d=>if bG l i [41]then .ok [] (i+1)else oK f l i d []
def oK:Nat→List Tok→Nat→Nat→List Ex→dI (List Ex)
 |0,_,_,_,_=>.out
 |f+1,l,i,d,acc=>(eU acc.length 8 l i).bind fun _ i=>(a_ f l i d 0).bind fun x j=>
  if bG l j [44]then oK f l (j+1) d (acc++[x])else(aJ l j [41]).bind fun _ j=>.ok (acc++[x]) j
def qJ:Nat→List Tok→Nat→Nat→dI Ex
 |0,_,_,_=>.out
 |f+1,l,i,d=>(aJ l i [40]).bind fun _ j=>(a_ f l j d 0).bind fun x j=>(aJ l j [41]).bind fun _ j=>.ok x j
def lH:Nat→List Tok→Nat→Nat→List ByteArray→List Ex→dI (List ByteArray×List Ex)
 |0,_,_,_,_,_=>.out
 |f+1,l,i,d,ns,al=>(eU ns.length 12 l i).bind fun _ i=>(bH l i).bind fun n j=>(aJ l j [58]).bind fun _ j=>(a_ f l j d 0).bind fun x j=>
  if bG l j [44]then lH f l (j+1) d (ns++[n]) (al++[x])else(aJ l j [125]).bind fun _ j=>.ok (ns++[n],al++[x]) j
def qg:Nat→List Tok→Nat→Nat→dI Ex
 |0,_,_,_=>.out
 |f+1,l,i,d=>
  if(tokA l i).kind=3 then .ok (bP 1 dB (tokA l i).val false [] [] [] (tokA l i)) (i+1)
  else if(tokA l i).kind=4 then .ok (bP 3 dB (tokA l i).val false [] [] [] (tokA l i)) (i+1)
  else if bG l i [116,114,117,101]then .ok (bP 2 dB 1 false [] [] [] (tokA l i)) (i+1)
  else if bG l i [102,97,108,115,101]then .ok (bP 2 dB 0 false [] [] [] (tokA l i)) (i+1)
  else if bG l i [99,104,111,111,115,101]then .ok (bP 16 dB 0 false [] [] [] (tokA l i)) (i+1)
  else if bG l i [66,111,120]then(qJ f l (i+1) d).bind fun x j=>.ok (bP 9 dB 0 false [x] [] [] (tokA l i)) j
  else if bG l i [117,110,98,111,120]then(qJ f l (i+1) d).bind fun x j=>.ok (bP 10 dB 0 false [x] [] [] (tokA l i)) j
  else if bG l i [110,101,119]then(bH l (i+1)).bind fun n j=>(aJ l j [123]).bind fun _ j=>
   if bG l j [125]then .ok (bP 11 n 0 false [] [] [] (tokA l i)) (j+1)else(lH f l j d [] []).bind fun p j=>.ok (bP 11 n 0 false p.2 p.1 [] (tokA l i)) j
  else if bG l i [97,115]then(bH l (i+1)).bind fun n j=>(aJ l j [124]).bind fun _ j=>
   (if bG l j [124]then .ok [] (j+1)else lK f l j []).bind fun ns j=>(bU f l j d).bind fun b j=>.ok (bP 17 n 0 false [] ns b (tokA l i)) j
  else if bG l i [40]then
   if bG l (i+1) [41]then .ok (bP 4 dB 0 false [] [] [] (tokA l i)) (i+2)
   else(a_ f l (i+1) d 0).bind fun x j=>(aJ l j [41]).bind fun _ j=>.ok (bP 18 dB 0 false [x] [] [] (tokA l i)) j
  else if bG l i [115,101,108,102]then .ok (bP 5 (lX [115,101,108,102]) 0 false [] [] [] (tokA l i)) (i+1)
  else(bH l i).bind fun n j=>if bG l j [40]then(lG f l (j+1) d).bind fun al j=>.ok (bP 12 n 0 false al [] [] (tokA l i)) j else .ok (bP 5 n 0 false [] [] [] (tokA l i)) j
def bU:Nat→List Tok→Nat→Nat→dI (List St)
 |0,_,_,_=>.out
 |f+1,l,i,d=>if d=40 then iw 2 l i else(aJ l i [123]).bind fun _ j=>lY f l j (d+1) []
def lY:Nat→List Tok→Nat→Nat→List St→dI (List St)
 |0,_,_,_,_=>.out
 |f+1,l,i,d,acc=>if bG l i [125]then .ok acc (i+1)else(rE f l i d).bind fun s j=>lY f l j d (acc++[s])
def xO:Nat→List Tok→Nat→Nat→dI (ByteArray×Ty×List Ex)
 |0,_,_,_=>.out
 |f+1,l,i,d=>(bH l i).bind fun n j=>(if bG l j [58]then kG f l (j+1) d else .ok fK j).bind fun ty j=>
  (if bG l j [61]then(a_ f l (j+1) d 0).bind fun x j=>.ok [x] j else .ok [] j).bind fun e j=>(aJ l j [59]).bind fun _ j=>.ok (n,ty,e) j
def xP:Nat→List Tok→Nat→Nat→dI (List Ex×Ex)
 |0,_,_,_=>.out
 |f+1,l,i,d=>(a_ f l i d 0).bind fun x j=>(if bG l j [61]then(a_ f l (j+1) d 0).bind fun y j=>.ok ([x],y) j else .ok ([],x) j).bind fun p j=>(aJ l j [59]).bind fun _ j=>.ok p j
def rE:Nat→List Tok→Nat→Nat→dI St
 |0,_,_,_=>.out
 |f+1,l,i,d=>
  if bG l i [108,101,116]then(xO f l (i+1) d).bind fun p j=>.ok (jP 1 p.1 p.2.1 [] p.2.2 [] [] false (tokA l i)) j
  else if bG l i [105,102]then(a_ f l (i+1) d 0).bind fun x j=>(bU f l j d).bind fun b j=>
   if bG l j [101,108,115,101]then(bU f l (j+1) d).bind fun c j=>.ok (jP 4 dB fK [] [x] b c true (tokA l i)) j else .ok (jP 4 dB fK [] [x] b [] false (tokA l i)) j
  else if bG l i [119,104,105,108,101]then(a_ f l (i+1) d 0).bind fun x j=>(bU f l j d).bind fun b j=>.ok (jP 5 dB fK [] [x] b [] false (tokA l i)) j
  else if bG l i [114,101,116,117,114,110]then(if bG l (i+1) [59]then .ok [] (i+1)else(a_ f l (i+1) d 0).bind fun x j=>.ok [x] j).bind fun e j=>(aJ l j [59]).bind fun _ j=>.ok (jP 6 dB fK [] e [] [] false (tokA l i)) j
  else if bG l i [97,98,111,114,116]then(aJ l (i+1) [59]).bind fun _ j=>.ok (jP 7 dB fK [] [] [] [] false (tokA l i)) j
  else if bG l i [123]then(bU f l i d).bind fun b j=>.ok (jP 8 dB fK [] [] b [] false (tokA l i)) j
  else(xP f l i d).bind fun p j=>.ok (jP (if p.1.length=0 then 3 else 2) dB fK p.1 [p.2] [] [] false (tokA l i)) j
end
def aK {α:Type} (R:gI) (d:Nat) (At:World→α→Value→Prop) (r:dI α) (w:World) (e:Ending) (w':World):Prop:=
 match r with
 | .ok a j=>(∃v,e=.returned v∧At w' a v)∧bC R w' j d∧Step (·=R.rb) w w'
 | .err c ln col=>e=.panicked [{v:=.iface 184 (.agg #[ah c,ah ln,ah col]),recovered:=false}]∧Step (·=R.rb) w w'
 | .out=>True
def iJ (_:World) (_:Unit) (v:Value):Prop:=v=.tuple #[]
def Ef (_:World) (s:ByteArray) (v:Value):Prop:=v=.string s
theorem sH {l:List Tok} {i:Nat} (h:i<l.length):l[i]?=some (tokA l i):=by rw[tokA,List.getD_eq_getElem?_getD,List.getElem?_eq_getElem h];rfl
theorem bC.tok {R:gI} {w:World} {i d:Nat} (h:bC R w i d):R.l[i]?=some (tokA R.l i):=sH h.lt
theorem dJ {l:List Tok} {i:Nat} {s:List UInt8} (h:aJ l i s=.out):False:=by unfold aJ at h;split at h<;>cases h
theorem iQ {l:List Tok} {i:Nat} (h:bH l i=.out):False:=by unfold bH at h;split at h<;>cases h
theorem zQ {l:List Tok} {i:Nat} (h:jl l i=.out):False:=by unfold jl at h;split at h<;>cases h
theorem kX {n m:Nat} {l:List Tok} {i:Nat} (h:eU n m l i=.out):False:=by unfold eU at h;split at h<;>cases h
theorem rW (R:gI) (hl:oJ R.l) (s:ByteArray) (w:World) (i d:Nat) (h:bC R w i d) (hs:s.size≤100000):Calls Tryz.prog 77 #[.pointer (some ⟨R.rb,0,none⟩),.string s] w fun e w'=>e=.returned (.bool (bG R.l i s.data.toList))∧bC R w' (iH R.l i s.data.toList) d∧Step (·=R.rb) w w':=
 W_ R hl s w i d _ h h.tok hs
theorem cZ (R:gI) (hl:oJ R.l) (s:ByteArray) (w:World) (i d:Nat) (h:bC R w i d) (hs:s.size≤100000) (hb:bG R.l i s.data.toList=true):Calls Tryz.prog 77 #[.pointer (some ⟨R.rb,0,none⟩),.string s] w fun e w'=>e=.returned (.bool true)∧bC R w' (i+1) d∧Step (·=R.rb) w w':=by have h1:=rW R hl s w i d h hs;unfold iH at h1;rw[hb,if_pos rfl]at h1;exact h1
theorem dU (R:gI) (hl:oJ R.l) (s:ByteArray) (w:World) (i d:Nat) (h:bC R w i d) (hs:s.size≤100000) (hb:bG R.l i s.data.toList=false):Calls Tryz.prog 77 #[.pointer (some ⟨R.rb,0,none⟩),.string s] w fun e w'=>e=.returned (.bool false)∧bC R w' i d∧Step (·=R.rb) w w':=by have h1:=rW R hl s w i d h hs;unfold iH at h1;rw[hb,if_neg dc]at h1;exact h1
theorem sJ (R:gI) (s:ByteArray) (w:World) (i d:Nat) (h:bC R w i d) (hs:s.size≤100000) (b:Bool) (hb:bG R.l i s.data.toList=b):Calls Tryz.prog 115 #[.pointer (some ⟨R.rb,0,none⟩),.string s] w fun e w'=>e=.returned (.bool b)∧jg w w':=by rw[←hb];exact LM R s w i d _ h h.tok hs
theorem dL (R:gI) (hl:oJ R.l) (g:Nat) (s:ByteArray) (w:World) (i d:Nat) (h:bC R w i d) (hs:s.size≤100000) (hg:w.cell? ⟨g,0,none⟩=some (.string s)):Calls Tryz.prog 78 #[.pointer (some ⟨R.rb,0,none⟩),.slice (some ⟨g,0,none⟩) 1 1] w (aK R d iJ (aJ R.l i s.data.toList) w):=
 (Uu R hl g s w i d _ h h.tok hs hg).mono fun e w' hp=>by
  unfold yM at hp
  unfold aJ bG
  split at hp
  ·
   rename_i hh
   rw[if_pos hh]
   exact⟨⟨_,hp.1.1,rfl⟩,hp.1.2,hp.2⟩
  ·
   rename_i hh
   rw[if_neg hh]
   exact hp
theorem name_any (R:gI) (hl:oJ R.l) (w:World) (i d:Nat) (h:bC R w i d):Calls Tryz.prog 80 #[.pointer (some ⟨R.rb,0,none⟩)] w (aK R d Ef (bH R.l i) w):=
 (Ut R hl w i d _ h h.tok).mono fun e w' hp=>by
  unfold vJ at hp
  unfold bH
  split at hp
  ·
   rename_i hh
   rw[if_pos hh]
   exact⟨⟨_,hp.1.1,rfl⟩,hp.1.2,hp.2⟩
  ·
   rename_i hh
   rw[if_neg hh]
   exact hp
theorem mr (R:gI) (w:World) (n m i d:Nat) (h:bC R w i d):Calls Tryz.prog 49 #[.agg #[gW R.rb 0],.int .i64 n,.int .i64 m] w (aK R d iJ (eU n m R.l i) w):=by
 have H:=ai h;have HT:=ai h.tok;clear h;by_cases hh:m≤n
 ·have hr:eU n m R.l i=iw 2 R.l i:=by unfold eU;rw[if_pos hh]
  have HR:=ai hr;have e1:decide (m≤n)=true:=decide_eq_true hh;clear hr hh;go_enter Tryz.func49,Tryz.ntmps49;go_wp2_with fail;refine(oZ R 2 _ i d _ (H.o.quiet (bg.alloc _)) HT.o).mono ?_;rintro e w1 ⟨rfl,h1⟩;refine⟨rfl,?_⟩;rw[HR.o];exact⟨rfl,((bg.alloc _).trans h1).mono fe⟩
 ·have hr:eU n m R.l i=.ok () i:=by unfold eU;rw[if_neg hh]
  have HR:=ai hr;have e1:decide (m≤n)=false:=decide_eq_false hh;clear hr hh;go_enter Tryz.func49,Tryz.ntmps49;go_wp2_with fail;refine bodyPost_end (results_none rfl _ _ _) rfl ?_;rw[HR.o];exact⟨⟨_,rfl,rfl⟩,H.o.quiet (bg.alloc _),bg.alloc _⟩
theorem vM (R:gI) (hl:oJ R.l) (w:World) (i d:Nat) (h:bC R w i d):Calls Tryz.prog 81 #[.agg #[gW R.rb 0]] w (aK R d Ef (jl R.l i) w):=by
 obtain⟨t,ht⟩:=bF (tokA R.l i);have HT:=ai h.tok;have NE:=ai ht;rw[←ht]at HT;obtain⟨w1,hw1⟩:=bF (w.alloc (.cells #[gW R.rb 0] 75));have dH:=nS hw1
 have HB1:=nB hw1
 have HW1:=ai hw1;have H1:=ai (h.quiet dH.o);have HL:=ai hl;have hfd0:∀(a0 a1 a2 a3 a4:Value) (w:World),(Instr.field 111 (.agg #[a0,a1,a2,a3,a4]) 0).run Tryz.prog w=.ok a0 w:=fun _ _ _ _ _ _=>by kernel_rfl
 have hfd1:∀(a0 a1 a2 a3 a4:Value) (w:World),(Instr.field 111 (.agg #[a0,a1,a2,a3,a4]) 1).run Tryz.prog w=.ok a1 w:=fun _ _ _ _ _ _=>by kernel_rfl
 have k0:w1.cell? ⟨w.heap.size,0,none⟩=some (.pointer (some ⟨R.rb,0,none⟩)):=aj HB1.o 0 _ rfl;have HX:Hid ((lX t.text)=⟨t.text.toArray⟩):=rfl;clear h hw1 hl ht;by_cases hk:t.kind=2
 ·have e1:((t.kind:Int) !=2)=false:=by rw[bne,kF t.kind 2 2 rfl,hk];rfl
  have HR:Hid (jl R.l i=.ok (lX t.text) (i+1)):=by show _=_;unfold jl;rw[←NE.o,if_pos hk]
  have hk0:t.kind≠0:=by omega
  have Yw:=ai hk0;clear hk hk0;go_enter Tryz.func81,Tryz.ntmps81;go_upto_region 1 with fail
  rw[←HW1.o];go_wp2_with fail;refine(lF R _ i d t H1.o HT.o).mono ?_;rintro e w2 ⟨rfl,h2⟩;have H2:=ai (H1.o.quiet h2);have HS2:=ai (dH.o.trans h2);have k0':w2.cell? ⟨w.heap.size,0,none⟩=some (.pointer (some ⟨R.rb,0,none⟩)):=h2.cell k0 (fun h=>h);clear h2 k0;go_wp2_with fail;refine(yL R HL.o _ i d t H2.o HT.o Yw.o).mono ?_;rintro e w3 ⟨rfl,hr,h3⟩;have H3:=ai hr;have jX:=ai h3;clear k0' hr h3;go_wp2_with fail;go_ret;rw[HR.o];exact⟨⟨_,rfl,rfl⟩,H3.o,(HS2.o.mono fe).trans jX.o⟩
 ·have e1:((t.kind:Int) !=2)=true:=by rw[bne,kF t.kind 2 2 rfl,beq_eq_false_iff_ne.2 hk];rfl
  have HR:Hid (jl R.l i=iw 1 R.l i):=by show _=_;unfold jl;rw[←NE.o,if_neg hk]
  clear hk;go_enter Tryz.func81,Tryz.ntmps81;go_upto_region 1 with fail
  rw[←HW1.o];go_wp2_with fail;refine(lF R _ i d t H1.o HT.o).mono ?_;rintro e w2 ⟨rfl,h2⟩;have H2:=ai (H1.o.quiet h2);have HS2:=ai (dH.o.trans h2);have k0':w2.cell? ⟨w.heap.size,0,none⟩=some (.pointer (some ⟨R.rb,0,none⟩)):=h2.cell k0 (fun h=>h);clear h2 k0;go_wp2_with fail;refine(oZ R 1 _ i d t H2.o HT.o).mono ?_;rintro e w3 ⟨rfl,h3⟩;refine⟨rfl,?_⟩;rw[HR.o];unfold iw;rw[←NE.o];exact⟨rfl,(HS2.o.trans h3).mono fe⟩
theorem FQ (R:gI) (hl:oJ R.l) (w:World) (i d:Nat) (h:bC R w i d):Calls Tryz.prog 79 #[.agg #[gW R.rb 0]] w fun e w'=>e=.returned (.string (rV R.l i))∧bC R w' (pG R.l i) d∧Step (·=R.rb) w w':=by
 obtain⟨t,ht⟩:=bF (tokA R.l i);have HT:=ai h.tok;have NE:=ai ht;rw[←ht]at HT;obtain⟨w1,hw1⟩:=bF (w.alloc (.cells #[gW R.rb 0] 75));have dH:=nS hw1
 have HB1:=nB hw1
 have HW1:=ai hw1;have H1:=ai (h.quiet dH.o);have HL:=ai hl;have hfd0:∀(a0 a1 a2 a3 a4:Value) (w:World),(Instr.field 111 (.agg #[a0,a1,a2,a3,a4]) 0).run Tryz.prog w=.ok a0 w:=fun _ _ _ _ _ _=>by kernel_rfl
 have hfd1:∀(a0 a1 a2 a3 a4:Value) (w:World),(Instr.field 111 (.agg #[a0,a1,a2,a3,a4]) 1).run Tryz.prog w=.ok a1 w:=fun _ _ _ _ _ _=>by kernel_rfl
 have k0:w1.cell? ⟨w.heap.size,0,none⟩=some (.pointer (some ⟨R.rb,0,none⟩)):=aj HB1.o 0 _ rfl;clear h hw1 hl ht;by_cases hk:t.kind=2
 ·have e1:((t.kind:Int) !=2)=false:=by rw[bne,kF t.kind 2 2 rfl,hk];rfl
  have HO:Hid (rV R.l i=⟨t.text.toArray⟩∧pG R.l i=i+1):=by show _∧_;unfold rV pG;rw[←NE.o,if_pos hk,if_pos hk];exact⟨rfl,rfl⟩
  have hk0:t.kind≠0:=by omega
  have Yw:=ai hk0;clear hk hk0;go_enter Tryz.func79,Tryz.ntmps79;go_upto_region 1 with fail
  rw[←HW1.o];go_wp2_with fail;refine(lF R _ i d t H1.o HT.o).mono ?_;rintro e w2 ⟨rfl,h2⟩;have H2:=ai (H1.o.quiet h2);have HS2:=ai (dH.o.trans h2);have k0':w2.cell? ⟨w.heap.size,0,none⟩=some (.pointer (some ⟨R.rb,0,none⟩)):=h2.cell k0 (fun h=>h);clear h2 k0;go_wp2_with fail;refine(yL R HL.o _ i d t H2.o HT.o Yw.o).mono ?_;rintro e w3 ⟨rfl,hr,h3⟩;have H3:=ai hr;have jX:=ai h3;clear k0' hr h3;go_wp2_with fail;go_ret;exact⟨by rw[HO.o.1];rfl,by rw[HO.o.2];exact H3.o,(HS2.o.mono fe).trans jX.o⟩
 ·have e1:((t.kind:Int) !=2)=true:=by rw[bne,kF t.kind 2 2 rfl,beq_eq_false_iff_ne.2 hk];rfl
  have HO:Hid (rV R.l i=⟨#[]⟩∧pG R.l i=i):=by show _∧_;unfold rV pG;rw[←NE.o,if_neg hk,if_neg hk];exact⟨rfl,rfl⟩
  clear hk;go_enter Tryz.func79,Tryz.ntmps79;go_upto_region 1 with fail
  rw[←HW1.o];go_wp2_with fail;refine(lF R _ i d t H1.o HT.o).mono ?_;rintro e w2 ⟨rfl,h2⟩;have H2:=ai (H1.o.quiet h2);have HS2:=ai (dH.o.trans h2);clear h2 k0;go_wp2_with fail;go_ret;exact⟨by rw[HO.o.1];rfl,by rw[HO.o.2];exact H2.o,HS2.o.mono fe⟩
theorem bjQ {α β:Type} {r:dI β} {q:dI α} {f:α→Nat→dI β} {a:α} {j:Nat} (h:r=q.bind f) (h2:q=.ok a j):r=f a j:=by rw[h,h2];rfl
theorem bpQ {α β:Type} {r:dI β} {p:Prop} [Decidable p] {x y:dI α} {f:α→Nat→dI β} (h:r=(if p then x else y).bind f) (h2:p):r=x.bind f:=by rw[h,if_pos h2]
theorem bmQ {α β:Type} {r:dI β} {b:Bool} {x y:dI α} {f:α→Nat→dI β} (h:r=(if b=true then x else y).bind f) (h2:b=false):r=y.bind f:=by rw[h,h2];rfl
end Go.Proofs.YtggjfinekcenpaaGreat
