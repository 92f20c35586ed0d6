import Derived.Test.YtggjfinekcenpaaGreatPkB
import Derived.StillTailTactics
import Derived.Deep.DeepCutAuto
import Derived.Deep.CutBlock
set_option maxRecDepth 100000
set_option maxHeartbeats 80000000
namespace Go.Proofs.YtggjfinekcenpaaGreat
open Go.RowKit
open Vt
def Ez:List (List UInt8):=[[115,116,114,117,99,116],[116,114,97,105,116],[105,109,112,108],[102,111,114],[102,110],[119,104,101,114,101],[108,101,116],[105,102],[101,108,115,101],[119,104,105,108,101],[114,101,116,117,114,110],[97,98,111,114,116],[116,114,117,101],[102,97,108,115,101],[109,117,116],[100,121,110],[105,110,116],[98,111,111,108],[102,54,52],[115,101,108,102],[66,111,120],[117,110,98,111,120],[99,104,111,111,115,101],[110,101,119],[97,115]]
def yF (s:List UInt8):Bool:=Ez.contains s
def yS:List (List UInt8)→List UInt8
 |[]=>[32]
 |w::ws=>32::(w++yS ws)
theorem contains_one (l:List UInt8) (a:UInt8):Lib.contains l [a]=l.contains a:=by
 induction l with
 |nil=>rfl
 |cons b l ih=>rw[contains_cons,ih,List.contains_cons];show((a==b&&true)||_)=_;rw[Bool.and_true]
theorem Gq (w l s:List UInt8) (h:32∉w):Lib.contains (w++l) (32::s)=Lib.contains l (32::s):=by
 induction w with
 |nil=>rfl
 |cons b w ih=>
  have hb:((32:UInt8)==b)=false:=by rw[beq_eq_false_iff_ne];exact fun e=>h (e▸List.mem_cons_self)
  rw[List.cons_append,contains_cons,ih (fun e=>h (List.mem_cons_of_mem _ e))];show(((32:UInt8)==b&&_)||_)=_;rw[hb];rfl
theorem KW (ws:List (List UInt8)):∃t,yS ws=32::t:=by
 cases ws with
 |nil=>exact⟨_,rfl⟩
 |cons w ws=>exact⟨_,rfl⟩
theorem I5:∀(s w t:List UInt8),32∉s→32∉w→(s++[32]).isPrefixOf (w++32::t)=(s==w):=by
 intro s;induction s with
 |nil=>
  intro w t _ hw;cases w with
  |nil=>simp[List.isPrefixOf]
  |cons b w=>(have hb:((32:UInt8)==b)=false:=by rw[beq_eq_false_iff_ne];exact fun e=>hw (e▸List.mem_cons_self));show((32:UInt8)==b&&_)=false;rw[hb];rfl
 |cons a s ih=>
  intro w t hs hw;cases w with
  |nil=>(have ha:(a==(32:UInt8))=false:=by rw[beq_eq_false_iff_ne];exact fun e=>hs (e▸List.mem_cons_self));show(a==(32:UInt8)&&_)=false;rw[ha];rfl
  |cons b w=>show(a==b&&(s++[32]).isPrefixOf (w++32::t))=(a==b&&s==w);rw[ih w t (fun e=>hs (List.mem_cons_of_mem _ e)) (fun e=>hw (List.mem_cons_of_mem _ e))]
theorem Gs (s:List UInt8) (hs:s≠[]) (h32:32∉s):∀ws:List (List UInt8),(∀w∈ws,32∉w)→Lib.contains (yS ws) (32::(s++[32]))=ws.contains s:=by
 intro ws;induction ws with
 |nil=>
  intro _;cases s with
  |nil=>exact absurd rfl hs
  |cons a s=>rw[yS,contains_cons,contains_nil];rfl
 |cons w ws ih=>intro hw;obtain⟨t,ht⟩:=KW ws;have hw1:=hw w List.mem_cons_self;rw[yS,contains_cons,Gq w _ _ hw1,ih (fun x hx=>hw x (List.mem_cons_of_mem _ hx)),List.contains_cons];show((32:UInt8)==32&&(s++[32]).isPrefixOf (w++yS ws)||_)=_;rw[ht,I5 s w t h32 hw1];rfl
def U0:List UInt8:=[32,115,116,114,117,99,116,32,116,114,97,105,116,32,105,109,112,108,32,102,111,114,32,102,110,32,119,104,101,114,101,32,108,101,116,32,105,102,32,101,108,115,101,32,119,104,105,108,101,32,114,101,116,117,114,110,32,97,98,111,114,116,32,116,114,117,101,32,102,97,108,115,101,32,109,117,116,32,100,121,110,32,105,110,116,32,98,111,111,108,32,102,54,52,32,115,101,108,102,32,66,111,120,32,117,110,98,111,120,32,99,104,111,111,115,101,32,110,101,119,32,97,115,32]
theorem KX:U0=yS Ez:=by decide
theorem KY (s:List UInt8) (hs:s≠[]) (h32:32∉s):Lib.contains U0 (32::(s++[32]))=yF s:=by rw[KX];exact Gs s hs h32 Ez dc
theorem K_ (s:List UInt8) (h:32∈s):yF s=false:=by
 cases e:yF s
 ·rfl
 ·have hm:s∈Ez:=List.contains_iff_mem.1 e;have:∀w∈Ez,32∉w:=by decide
  exact absurd h (this s hm)
def mG (l:List UInt8):ByteArray:=⟨l.toArray⟩
theorem zZ (s:ByteArray) (v:Bool) (m:Int) (w:World) (hs:s.size≤100000) (h:Lib.contains s.data.toList [32]=v) (hm:w.cell? ⟨0,0,none⟩=some (.int .i64 m)):Calls Tryz.prog 134 #[.string s,.string ⟨#[32]⟩] w fun e w'=>e=.returned (.bool v)∧w=w':=
 (Tryz.strings_Contains _ _ m _ om hm).mono fun _ _ hq=>⟨by rw[hq.1];exact qL h,hq.2.symm⟩
theorem La (s:ByteArray) (w:World) (m:Int) (hs:s.size≤100000) (hm:w.cell? ⟨0,0,none⟩=some (.int .i64 m)):Calls Tryz.prog 117 #[.string s] w fun e w'=>e=.returned (.bool (yF s.data.toList))∧w=w':=by
 by_cases h0:s.data.toList=[]
 ·have hf:Hid (yF s.data.toList=false):=by show _=_;rw[h0];decide
  have he:s.toList=[]:=by rw[Lib.toList_data];exact h0
  have he':s.toList.isEmpty=true:=by rw[he];rfl
  clear h0;go_enter Tryz.func117,Tryz.ntmps117;go_wp2;go_ret;exact⟨qL hf.out.symm,rfl⟩
 ·have hpos:0<s.size:=by rw[Lib.size_eq];exact List.length_pos_iff.2 h0
  have he:=mZ s hpos;have he':=mF s hpos;cases hb:Lib.contains s.data.toList [32]
  ·(have h32:32∉s.data.toList:=by rw[contains_one]at hb;intro e;rw[List.contains_iff_mem.2 e]at hb;simp at hb);have hp:=KY _ h0 h32;have HP:=ai hp;have HB:=ai hb;clear hb h32 hp h0;go_enter Tryz.func117,Tryz.ntmps117;go_wp2_with fail;refine(zZ s _ m _ hs HB.o hm).mono ?_;rintro e w' ⟨rfl,rfl⟩;go_wp2_with fail;refine(Tryz.strings_Contains _ _ m _ dc hm).mono ?_;rintro e w' ⟨rfl,rfl⟩;go_wp2;go_ret;refine⟨qL ?_,rfl⟩;rw[←HP.o];rfl
  ·(have hf:Hid (yF s.data.toList=false):=by show _=_;rw[contains_one]at hb;exact K_ _ (List.contains_iff_mem.1 hb));have HB:=ai hb;clear hb h0;go_enter Tryz.func117,Tryz.ntmps117;go_wp2_with fail;refine(zZ s _ m _ hs HB.o hm).mono ?_;rintro e w' ⟨rfl,rfl⟩;go_wp2;go_ret;exact⟨qL hf.out.symm,rfl⟩
structure h_ where
 rb:Nat
 a:Option Addr
 c:Nat
 l:List Tok
 m:Int
structure bD (R:h_) (w:World) (i d:Nat):Prop where
 blk:w.heap[R.rb]?=some (.cells #[.slice R.a R.l.length R.c,af (i:Int),af (d:Int)] 152 (0,0))
 row:Row w R.rb (.slice R.a R.l.length R.c) R.l.length (xw R.l)
 RN:w.cell? ⟨0,0,none⟩=some (.int .i64 R.m)
 pos:0<R.rb
 lt:i<R.l.length
theorem bD.step {R:h_} {w w':World} {i d:Nat} {S:Nat→Prop} (h:bD R w i d) (hs:Step S w w') (hS:∀k,k≤R.rb→¬S k):bD R w' i d:=
 ⟨hs.keep h.blk (hS _ (Nat.le_refl _)),h.row.step hs (fun k hk=>hS k om),hs.cell h.RN (hS 0 (Nat.zero_le _)),h.pos,h.lt⟩
theorem bD.quiet {R:h_} {w w':World} {i d:Nat} (h:bD R w i d) (hs:jP w w'):bD R w' i d:=h.step hs (fun _ _ h=>h)
structure pF (l:List Tok):Prop where
 next:∀(i:Nat) t,l[i]?=some t→t.kind≠0→i+1<l.length
 len:l.length≤8001
 text:∀t∈l,t.text.length≤20000
theorem uH (l:List Tok) (i:Nat) (t:Tok) (h:l[i]?=some t) (j:Nat) (v:Value) (hv:t.cells[j]?=some v):(xw l)[i*5+j]?=some v:=by
 induction l generalizing i with
 |nil=>simp at h
 |cons x r ih=>
  have hc:x.cells.length=5:=rfl;show(x.cells++xw r)[i*5+j]?=some v;cases i with
  |zero=>simp at h;subst h;rw[Nat.zero_mul,Nat.zero_add,List.getElem?_append_left (List.getElem?_eq_some_iff.1 hv).1];exact hv
  |succ i=>rw[List.getElem?_append_right (by rw[hc];omega),hc,show(i+1)*5+j-5=i*5+j by omega];exact ih i (by simpa using h)
theorem Tryz.DJ:(Tryz.prog.info? 111).map (·.size)=some 5:=by kernel_rfl
theorem tokOne (t:Tok):∀u∈[Value.int .i64 t.kind,.string ⟨t.text.toArray⟩,af t.line,af t.col,bf t.val],u.oneCell'=true:=by intro u hu;simp at hu;rcases hu with rfl|rfl|rfl|rfl|rfl<;>rfl
theorem l_ (R:h_) (w:World) (i d:Nat) (t:Tok) (h:bD R w i d) (ht:R.l[i]?=some t):Calls Tryz.prog 48 #[.pointer (some ⟨R.rb,0,none⟩)] w fun e w'=>e=.returned (.agg #[af t.kind,.string ⟨t.text.toArray⟩,af t.line,af t.col,bf t.val])∧jP w w':=by
 obtain⟨rb,a,c,l,m⟩:=R;obtain⟨hb,hr,-,-,hlt⟩:=h;simp only at hb hr ht hlt;obtain⟨a',c',hva,hc1,hc2,-,hrr⟩:=hr;obtain⟨rfl,rfl⟩:a=a'∧c=c':=by cases hva;exact⟨rfl,rfl⟩
 obtain⟨g,o,rfl,-,-,hcell⟩:=hrr om;have f0:=hcell _ _ (uH l i t ht 0 _ rfl);have f1:=hcell _ _ (uH l i t ht 1 _ rfl);have f2:=hcell _ _ (uH l i t ht 2 _ rfl);have f3:=hcell _ _ (uH l i t ht 3 _ rfl);have f4:=hcell _ _ (uH l i t ht 4 _ rfl);rw[Nat.add_zero]at f0;rw[←Nat.add_assoc]at f1 f2 f3 f4;have e0:((l.length:Int)==0)=false:=by simpa using(by omega:¬(l.length:Int)=0)
 have e1:(l.length==0)=false:=by simpa using(by omega:¬l.length=0)
 have e2:decide ((l.length:Int)≤(i:Int))=false:=decide_eq_false om;have hi0:(0:Int)≤(i:Int):=by omega
 have hi1:(i:Int)<(l.length:Int):=by omega
 obtain⟨w1,hw1⟩:=bn (w.alloc (.cells #[af 0,bW,af 0,af 0,bf 0] 111));have HB1:Hid (w1.heap[rb]?=some (.cells #[.slice (some ⟨g,o,none⟩) l.length c,af (i:Int),af (d:Int)] 152 (0,0))):=by rw[hw1];exact aN hb
 have uI:=nS hw1
 have lm:=nB hw1
 have HW1:=ai hw1;have F:Hid (∀X,jP w1 X→X.cell? ⟨rb,0,none⟩=some (.slice (some ⟨g,o,none⟩) l.length c)∧X.cell? ⟨rb,1,none⟩=some (.int .i64 i)∧X.cell? ⟨g,o+i*5,none⟩=some (.int .i64 t.kind)∧X.cell? ⟨g,o+i*5+1,none⟩=some (.string ⟨t.text.toArray⟩)∧X.cell? ⟨g,o+i*5+2,none⟩=some (.int .i64 t.line)∧X.cell? ⟨g,o+i*5+3,none⟩=some (.int .i64 t.col)∧X.cell? ⟨g,o+i*5+4,none⟩=some (.int .u64 t.val)):=by intro X hX;have h:=uI.o.trans hX;have hb:=hX.keep HB1.o (fun h=>h);exact⟨ah hb 0 _ rfl,ah hb 1 _ rfl,h.cell f0 (fun h=>h),h.cell f1 (fun h=>h),h.cell f2 (fun h=>h),h.cell f3 (fun h=>h),h.cell f4 (fun h=>h)⟩
 clear hcell hrr hva hc1 hc2 ht hb f0 f1 f2 f3 f4 hw1;obtain⟨k0,k1,f0,f1,f2,f3,f4⟩:=F.o w1 bV;go_enter Tryz.func48,Tryz.ntmps48;go_upto_region 1 with fail
 rw[←HW1.o];go_wp2;go_still_tail 10,kr;change wpList _ _ _ _ _ w1.drew;go_wp2;clear k0 k1 f0 f1 f2 f3 f4;obtain⟨w2,hw2⟩:=bn w1.drew;rw[←hw2];have yT:Hid (jP w1 w2):=by rw[hw2];exact bV.drew
 clear hw2;obtain⟨k0,k1,f0,f1,f2,f3,f4⟩:=F.o w2 yT.o;go_still_tail 10,kr;change wpList _ _ _ _ _ w2.drew;have oO:Hid (w2.drew.heap[w.heap.size]?=some (.cells #[af 0,bW,af 0,af 0,bf 0] 111 (0,0))):=mD (yT.o.keep lm.o (fun h=>h));have gu:Hid (jP w w2.drew):=(uI.o.trans yT.o).drew;have dL:Hid (∀u∈[Value.int .i64 t.kind,.string ⟨t.text.toArray⟩,af t.line,af t.col,bf t.val],u.oneCell'=true):=tokOne t;clear k0 k1 f0 f1 f2 f3 f4
 go_wp2_with (refine au (w:=w2.drew) rfl 111 (.tmp 2) (.tmp 49) rfl w.heap.size 0 111 _ [.int .i64 t.kind,.string ⟨t.text.toArray⟩,.int .i64 t.line,.int .i64 t.col,.int .u64 t.val] rfl rfl oO.o Tryz.DJ (Nat.le_of_eq rfl) dL.o ?_
              intro w4 hb4 m_)
 have yU:w4.heap[w.heap.size]?=some (.cells [Value.int .i64 t.kind,.string ⟨t.text.toArray⟩,af t.line,af t.col,bf t.val].toArray 111 (0,0)):=hb4;refine bodyPost_ret (aV rfl _ w.heap.size 111 _ _ rfl yU Tryz.underlying111 rfl Tryz.DJ) rfl ⟨rfl,?_⟩;exact gu.o.then m_ oi
theorem at_at (R:h_) (w:World) (i d:Nat) (t:Tok) (h:bD R w i d) (ht:R.l[i]?=some t):Calls Tryz.prog 74 #[.pointer (some ⟨R.rb,0,none⟩)] w fun e w'=>e=.returned (.agg #[af t.line,af t.col])∧jP w w':=by
 have H:=ai h;have HT:=ai ht;clear h ht;have hfd:∀(a0 a1 a2 a3 a4:Value) (w:World),(Instr.field 111 (.agg #[a0,a1,a2,a3,a4]) 2).run Tryz.prog w=.ok (.agg #[a2,a3]) w:=fun _ _ _ _ _ _=>by kernel_rfl
 go_enter Tryz.func74,Tryz.ntmps74;go_wp2_with fail;refine(l_ R _ i d t (H.o.quiet ((Step.refl _ w).alloc _)) HT.o).mono ?_;rintro e w1 ⟨rfl,h1⟩;obtain⟨⟨d0,d1⟩,e0,e1⟩:=Ru (h1.keep (aB w _) (fun h=>h));go_wp2;refine bodyPost_ret (v:=.agg #[af t.line,af t.col]) (by simp[results,Tryz.results74,go_sem,d0,d1]) rfl ⟨rfl,?_⟩;have hs:jP w w1:=((Step.refl _ w).alloc _).trans h1;exact(hs.setCell _ _ (fun hl=>absurd hl (Nat.lt_irrefl _))).setCell _ _ (fun hl=>absurd hl (Nat.lt_irrefl _))
theorem qG (R:h_) (c:Nat) (w:World) (i d:Nat) (t:Tok) (h:bD R w i d) (ht:R.l[i]?=some t):Calls Tryz.prog 89 #[.pointer (some ⟨R.rb,0,none⟩),.int .i64 c] w fun e w'=>e=.panicked [{v:=.iface 184 (.agg #[af c,af t.line,af t.col]),recovered:=false}]∧jP w w':=by have H:=ai h;have HT:=ai ht;clear h ht;go_enter Tryz.func89,Tryz.ntmps89;go_wp2_with fail;refine(at_at R _ i d t H.o HT.o).mono ?_;rintro e w1 ⟨rfl,h1⟩;go_wp2;exact⟨rfl,rfl,h1⟩
theorem kX (n k:Nat) (K:Int) (h:K=(k:Int)):((n:Int)==K)=(n==k):=by
 subst h;by_cases e:n=k
 ·subst e;simp
 ·have h2:¬(n:Int)=(k:Int):=by omega
  rw[beq_eq_false_iff_ne.2 h2,beq_eq_false_iff_ne.2 e]
def uJ (t:Tok) (s:List UInt8):Bool:=t.text==s&&(t.kind==5||(t.kind==1&&yF s))
theorem rO {t:Tok} {s:List UInt8} (h:uJ t s=true):t.kind≠0:=by unfold uJ at h;intro e;rw[e]at h;simp at h
theorem bytes_eq (x s:ByteArray):(x.toList==s.toList)=(x.data.toList==s.data.toList):=by rw[Lib.toList_data,Lib.toList_data]
theorem Qk (R:h_) (s:ByteArray) (w:World) (i d:Nat) (t:Tok) (h:bD R w i d) (ht:R.l[i]?=some t) (hs:s.size≤100000):Calls Tryz.prog 115 #[.pointer (some ⟨R.rb,0,none⟩),.string s] w fun e w'=>e=.returned (.bool (uJ t s.data.toList))∧jP w w':=by
 have H:=ai h;have HT:=ai ht;obtain⟨x,hx⟩:∃x:ByteArray,x=⟨t.text.toArray⟩:=⟨_,rfl⟩;obtain⟨be,hbe⟩:∃be,(x.toList==s.toList)=be:=⟨_,rfl⟩;have HF:Hid (uJ t s.data.toList=(be&&(t.kind==5||(t.kind==1&&yF s.data.toList)))):=by show _=_;unfold uJ;rw[←hbe,bytes_eq,hx]
 have HPK:=ai (l_ R w i d t h ht);rw[←hx]at HPK;obtain⟨k5,hk5⟩:∃b,((t.kind:Int)==5)=b:=⟨_,rfl⟩;obtain⟨k1,hk1⟩:∃b,((t.kind:Int)==1)=b:=⟨_,rfl⟩;have RP:Hid ((t.kind==5)=k5):=((kX t.kind 5 5 rfl).symm.trans hk5);have HK1:Hid ((t.kind==1)=k1):=((kX t.kind 1 1 rfl).symm.trans hk1);clear h ht hx;go_enter Tryz.func115,Tryz.ntmps115;go_wp2_with fail;refine HPK.o.mono ?_;rintro e w1 ⟨rfl,h1⟩;have HG1:=ai ((H.o.quiet h1).RN);have dF:=ai h1;clear h1;cases be with
 |false=>go_wp2;go_ret;exact⟨by rw[HF.o];rfl,dF.o.alloc _⟩
 |true=>
  cases k5 with
  |true=>go_wp2;go_ret;exact⟨by rw[HF.o,RP.o];rfl,dF.o.alloc _⟩
  |false=>
   cases k1 with
   |false=>go_wp2;go_ret;exact⟨by rw[HF.o,RP.o,HK1.o];rfl,dF.o.alloc _⟩
   |true=>have HWD:=ai (La s (w1.alloc (.cells #[af t.kind,aG x,af t.line,af t.col,bf t.val] 111)) R.m hs (((Step.refl (fun _=>False) _).alloc _).cell HG1.o (fun h=>h)));go_wp2_with fail;refine HWD.o.mono ?_;rintro e w2 ⟨rfl,rfl⟩;go_wp2;go_ret;exact⟨by rw[HF.o,RP.o,HK1.o];rfl,dF.o.alloc _⟩
theorem bD.next {R:h_} {w w':World} {i d:Nat} (h:bD R w i d) (hi:i+1<R.l.length) (hb:w'.heap[R.rb]?=some (.cells #[.slice R.a R.l.length R.c,af ((i+1:Nat):Int),af (d:Int)] 152 (0,0))) (hs:Step (·=R.rb) w w'):bD R w' (i+1) d:=
 ⟨hb,h.row.step hs oi,hs.cell h.RN (fun e=>by have h2:=h.pos;have e2:0=R.rb:=e;omega),h.pos,hi⟩
def isI (t:Tok) (s:List UInt8) (i:Nat):Nat:=if uJ t s then i+1 else i
theorem is_at (R:h_) (hl:pF R.l) (s:ByteArray) (w:World) (i d:Nat) (t:Tok) (h:bD R w i d) (ht:R.l[i]?=some t) (hs:s.size≤100000):Calls Tryz.prog 77 #[.pointer (some ⟨R.rb,0,none⟩),.string s] w fun e w'=>e=.returned (.bool (uJ t s.data.toList))∧bD R w' (isI t s.data.toList i) d∧Step (·=R.rb) w w':=by
 have H:=ai h;have HT:=ai ht;have HSE:=ai (Qk R s w i d t h ht hs);have hl1:i<8001:=by have:=h.lt;have:=hl.len;omega
 have lN:Hid (uJ t s.data.toList=true→i+1<R.l.length):=fun hh=>hl.next i t ht (rO hh);obtain⟨sb,hsb⟩:=bn (uJ t s.data.toList);have BA:=ai hsb;rw[←hsb]at HSE lN;rw[←hsb];have R1:IntKind.i64.wrap ((i:Int)+1)=((i+1:Nat):Int):=by rw[show((i:Int)+1)=((i+1:Nat):Int) by omega];exact IntWalk.i64_in _ om
 clear h ht hl hs hsb;go_enter Tryz.func77,Tryz.ntmps77;go_wp2_with fail;refine HSE.o.mono ?_;rintro e w1 ⟨rfl,h1⟩;have H1:=ai (H.o.quiet h1);have dF:Hid (Step (·=R.rb) w w1):=h1.mono fe;clear h1;cases sb with
 |false=>go_wp2;go_ret;exact⟨rfl,by unfold isI;rw[←BA.o,if_neg dc];exact H1.o,dF.o⟩
 |true=>have k1:=ah H1.o.blk 1 _ rfl;have z1:=aH H1.o.blk 1;go_wp2;go_ret;have hset:=aU H1.o.blk 1 (.int .i64 ((i+1:Nat):Int));have hst:Step (·=R.rb) w1 (w1.setCell ⟨R.rb,1,none⟩ (.int .i64 ((i+1:Nat):Int))):=bV.setCell _ _ jd;refine⟨rfl,?_,dF.o.trans hst⟩;unfold isI;rw[←BA.o,if_pos rfl];exact H1.o.next (by simpa using lN.o) hset hst
theorem z_ (R:h_) (hl:pF R.l) (w:World) (i d:Nat) (t:Tok) (h:bD R w i d) (ht:R.l[i]?=some t) (hk:t.kind≠0):Calls Tryz.prog 116 #[.pointer (some ⟨R.rb,0,none⟩)] w fun e w'=>e=.returned (.agg #[af t.kind,.string ⟨t.text.toArray⟩,af t.line,af t.col,bf t.val])∧bD R w' (i+1) d∧Step (·=R.rb) w w':=by
 have H:=ai h;have HT:=ai ht;have hl1:i<8001:=by have:=h.lt;have:=hl.len;omega
 have lN:Hid (i+1<R.l.length):=hl.next i t ht hk;have R1:IntKind.i64.wrap ((i:Int)+1)=(i:Int)+1:=IntWalk.i64_in _ om;have e0:((t.kind:Int)==0)=false:=by rw[kX t.kind 0 0 rfl];exact beq_eq_false_iff_ne.2 hk
 have e1:((t.kind:Int) !=0)=true:=by rw[bne,e0];rfl
 have hlt:=aC h.blk;clear h ht hl hk;go_enter Tryz.func116,Tryz.ntmps116;go_wp2_with fail;refine(l_ R _ i d t (H.o.quiet ((Step.refl _ w).alloc _)) HT.o).mono ?_;rintro e w1 ⟨rfl,h1⟩;obtain⟨x,hx⟩:∃x:ByteArray,x=⟨t.text.toArray⟩:=⟨_,rfl⟩;rw[←hx];have HXE:=ai hx;clear hx;have H1:=ai (H.o.quiet (((Step.refl (fun _=>False) w).alloc _).trans h1));have dF:Hid (jP w w1):=((Step.refl (fun _=>False) w).alloc _).trans h1;have lm:=ai (h1.keep (aB w _) (fun h=>h));have hsz:w.heap.size<w1.heap.size:=by have:=h1.size;simp at this;omega
 obtain⟨w2,hw2⟩:=bn (w1.alloc (.cells #[af t.kind,aG x,af t.line,af t.col,bf t.val] 111));have HS2:=nS hw2
 have HB2:=nB hw2
 have HW2:=ai hw2;clear h1 hw2;go_upto_region 2 with fail
 rw[←HW2.o];have H2:=ai (H1.o.quiet HS2.o);have k1:=ah H2.o.blk 1 _ rfl;have z1:=aH H2.o.blk 1;obtain⟨⟨q0,q1,q2,q3,q4⟩,-⟩:=wM HB2.o;go_upto_region 4 with fail
 have hset:=aU H2.o.blk 1 (.int .i64 ((i:Int)+1));have hst:Step (·=R.rb) w2 (w2.setCell ⟨R.rb,1,none⟩ (.int .i64 ((i:Int)+1))):=bV.setCell _ _ jd;have H3:=ai (H2.o.next lN.o hset hst);obtain⟨w3,hw3⟩:=bn (w2.setCell ⟨R.rb,1,none⟩ (.int .i64 ((i:Int)+1)));rw[←hw3]at hst H3⊢;have jA:Hid (Step (·=R.rb) w w3):=((dF.o.trans HS2.o).mono fe).trans hst;have HB3:=ai (hst.keep HB2.o om);have wW:=ai (hst.keep (HS2.o.keep lm.o (fun h=>h)) om);clear hst hset hw3 k1 z1 q0 q1 q2 q3 q4;have dL:Hid (∀u∈[Value.int .i64 t.kind,aG x,af t.line,af t.col,bf t.val],u.oneCell'=true):=by intro u hu;simp at hu;rcases hu with rfl|rfl|rfl|rfl|rfl<;>rfl
 obtain⟨⟨q0,q1,q2,q3,q4⟩,-⟩:=wM HB3.o
 go_wp2_with (refine au (w:=w3) rfl 111 (.tmp 2) (.tmp 16) rfl w.heap.size 0 111 _ [.int .i64 t.kind,.string x,.int .i64 t.line,.int .i64 t.col,.int .u64 t.val] rfl rfl wW.o Tryz.DJ (Nat.le_of_eq rfl) dL.o ?_
              intro w4 hb4 m_)
 have yU:w4.heap[w.heap.size]?=some (.cells [Value.int .i64 t.kind,aG x,af t.line,af t.col,bf t.val].toArray 111 (0,0)):=hb4;refine bodyPost_ret (aV rfl _ w.heap.size 111 _ _ rfl yU Tryz.underlying111 rfl Tryz.DJ) rfl ⟨by rw[HXE.o],?_,?_⟩
 ·exact H3.o.step m_ oi
 ·exact jA.o.then m_ oi
def rP (t:Tok):Bool:=t.kind==1&& !yF t.text
def xB (R:h_) (i d:Nat) (t:Tok) (w:World) (e:Ending) (w':World):Prop:=
 (if rP t then e=.returned (.string ⟨t.text.toArray⟩)∧bD R w' (i+1) d else e=.panicked [{v:=.iface 184 (.agg #[af 1,af t.line,af t.col]),recovered:=false}])∧Step (·=R.rb) w w'
theorem YR (R:h_) (hl:pF R.l) (w:World) (i d:Nat) (t:Tok) (h:bD R w i d) (ht:R.l[i]?=some t):Calls Tryz.prog 80 #[.pointer (some ⟨R.rb,0,none⟩)] w (xB R i d t w):=by
 have H:=ai h;have HT:=ai ht;have HL:=ai hl;obtain⟨x,hx⟩:∃x:ByteArray,x=⟨t.text.toArray⟩:=⟨_,rfl⟩;have hxs:x.size≤100000:=by have:=hl.text t (List.mem_of_getElem? ht);rw[hx];show t.text.toArray.size≤100000;simp;omega
 have HXE:Hid (x.data.toList=t.text):=by show _=_;rw[hx]
 have HPK:=ai (l_ R w i d t h ht);rw[←hx]at HPK;obtain⟨k1,hk1⟩:∃b,((t.kind:Int) !=1)=b:=⟨_,rfl⟩;have HK1:Hid ((t.kind==1)= !k1):=by show _=_;rw[←hk1,bne,kX t.kind 1 1 rfl,Bool.not_not]
 obtain⟨x2,hx2⟩:=bn (x:ByteArray);have lN:=ai hx;clear h ht hl hx;go_enter Tryz.func80,Tryz.ntmps80;go_wp2_with fail;refine HPK.o.mono ?_;rintro e w1 ⟨rfl,h1⟩;have dF:=ai (h1.alloc (.cells #[af t.kind,aG x,af t.line,af t.col,bf t.val] 111));have H1:=ai (H.o.quiet dF.o);clear h1;cases k1 with
 |true=>
  have f_:Hid (rP t=false):=by show _=_;unfold rP;rw[HK1.o];rfl
  go_wp2_with fail;refine(qG R 1 _ i d t H1.o HT.o).mono ?_;rintro e w2 ⟨rfl,h2⟩;refine⟨rfl,?_⟩;unfold xB;rw[f_.o];exact⟨rfl,(dF.o.trans h2).mono fe⟩
 |false=>
  obtain⟨wb,hwb⟩:=bn (yF x.data.toList);have HWD:=ai (La x (w1.alloc (.cells #[af t.kind,aG x,af t.line,af t.col,bf t.val] 111)) R.m hxs H1.o.RN);rw[←hwb]at HWD;have f_:Hid (rP t= !wb):=by show _=_;unfold rP;rw[HK1.o,hwb,HXE.o];rfl
  clear hwb;go_wp2_with fail;refine HWD.o.mono ?_;rintro e w2 ⟨rfl,rfl⟩;cases wb with
  |true=>go_wp2_with fail;refine(qG R 1 _ i d t H1.o HT.o).mono ?_;rintro e w2 ⟨rfl,h2⟩;refine⟨rfl,?_⟩;unfold xB;rw[f_.o];exact⟨rfl,(dF.o.trans h2).mono fe⟩
  |false=>(have hk0:t.kind≠0:=by intro e;have h2:=HK1.o;rw[e]at h2;cases h2);have HNXT:=ai (z_ R HL.o _ i d t H1.o HT.o hk0);rw[←lN.o]at HNXT;(have hfd:∀(a0 a1 a2 a3 a4:Value) (w:World),(Instr.field 111 (.agg #[a0,a1,a2,a3,a4]) 1).run Tryz.prog w=.ok a1 w:=fun _ _ _ _ _ _=>by kernel_rfl);clear hk0;go_wp2_with fail;refine HNXT.o.mono ?_;rintro e w3 ⟨rfl,hr,h3⟩;have HR3:=ai hr;clear hr;go_wp2;go_ret;unfold xB;rw[f_.o];refine⟨?_,(dF.o.mono fe).trans h3⟩;exact⟨by show Ending.returned (.string x)=_;rw[lN.o],HR3.o⟩
def Aa (R:h_) (i d:Nat) (t:Tok) (s:List UInt8) (w:World) (e:Ending) (w':World):Prop:=
 (if uJ t s then e=.returned (.tuple #[])∧bD R w' (i+1) d else e=.panicked [{v:=.iface 184 (.agg #[af 1,af t.line,af t.col]),recovered:=false}])∧Step (·=R.rb) w w'
theorem YS (R:h_) (hl:pF R.l) (g:Nat) (s:ByteArray) (w:World) (i d:Nat) (t:Tok) (h:bD R w i d) (ht:R.l[i]?=some t) (hs:s.size≤100000) (hg:w.cell? ⟨g,0,none⟩=some (.string s)):Calls Tryz.prog 78 #[.pointer (some ⟨R.rb,0,none⟩),.slice (some ⟨g,0,none⟩) 1 1] w (Aa R i d t s.data.toList w):=by
 have H:=ai h;have HT:=ai ht;have HIS:=ai (is_at R hl s w i d t h ht hs);obtain⟨sb,hsb⟩:=bn (uJ t s.data.toList);have BA:=ai hsb;rw[←hsb]at HIS;clear h ht hl hsb;go_enter Tryz.func78,Tryz.ntmps78;go_wp2_with fail;go_loopg [5,8] 2 (fun gg s5 s8 wr=>(s8=.int .i64 0∧wr=w∧1≤gg)∨(s8=.int .i64 1∧sb=true∧bD R wr (i+1) d∧Step (·=R.rb) w wr));case atStart=>exact .inl ⟨rfl,rfl,by omega⟩
 case round=>
  rcases hrel with⟨rfl,rfl,hgg⟩|⟨rfl,rfl,hr,hst⟩
  ·go_wp2_with fail;refine HIS.o.mono ?_;rintro e w2 ⟨rfl,hr,h2⟩;have HR2:=ai hr;have HS2:=ai h2;clear hr h2;cases sb with
   |false=>(have hii:isI t s.data.toList i=i:=by unfold isI;rw[←BA.o,if_neg dc]);(have HR3:Hid (bD R w2 i d):=by have h5:=HR2.o;rw[hii]at h5;exact h5);clear hii;go_wp2_with fail;refine(qG R 1 _ i d t HR3.o HT.o).mono ?_;rintro e w3 ⟨rfl,h3⟩;refine⟨rfl,?_⟩;unfold Aa;rw[←BA.o];exact⟨rfl,HS2.o.trans (h3.mono fe)⟩
   |true=>
    (have hii:isI t s.data.toList i=i+1:=by unfold isI;rw[←BA.o,if_pos rfl]);(have HR3:Hid (bD R w2 (i+1) d):=by have h5:=HR2.o;rw[hii]at h5;exact h5);clear hii;go_wp2_with fail;go_roundg (gk-1);case rel=>exact .inr ⟨rfl,trivial,HR3.o,HS2.o⟩
    case measure=>omega
  ·have HR:=ai hr;have HS:=ai hst;clear hr hst;go_wp2_with fail;refine bodyPost_end (results_none rfl _ _ _) rfl ?_;unfold Aa;rw[←BA.o];exact⟨⟨rfl,HR.o⟩,HS.o⟩
def Enters (k:Nat):Prop:=∀(xs:Array Value) (w:World),Sem.run Tryz.prog (callFunc k xs) w=.ok (.enter k xs) w
theorem yV (R:h_) (k:Nat) (caps:List Value) (w:World) (i d:Nat) (t:Tok) (h:bD R w i d) (ht:R.l[i]?=some t) (hd:d=40):Calls Tryz.prog 75 #[.pointer (some ⟨R.rb,0,none⟩),.func (.func k) #[] caps.toArray] w fun e w'=>e=.panicked [{v:=.iface 184 (.agg #[af 2,af t.line,af t.col]),recovered:=false}]∧jP w w':=by
 have hfe:∀(fn:Fn) (x y:Array Value) (w:World),(binOp .eql 1 (.func fn x y) .nilFunc).run Tryz.prog w=.ok (.bool false) w:=fun _ _ _ _=>by kernel_rfl
 subst hd;have H:=ai h;have HT:=ai ht;have k2:=ah h.blk 2 _ rfl;clear h ht;go_enter Tryz.func75,Tryz.ntmps75;go_wp2_with fail;refine(qG R 2 _ i 40 t H.o HT.o).mono ?_;rintro e w1 ⟨rfl,h1⟩;exact⟨rfl,rfl,h1⟩
theorem bD.deep {R:h_} {w w':World} {i d d':Nat} (h:bD R w i d) (hb:w'.heap[R.rb]?=some (.cells #[.slice R.a R.l.length R.c,af (i:Int),af (d':Int)] 152 (0,0))) (hs:Step (·=R.rb) w w'):bD R w' i d':=
 ⟨hb,h.row.step hs oi,hs.cell h.RN (fun e=>by have h2:=h.pos;have e2:0=R.rb:=e;omega),h.pos,h.lt⟩
def U1 (R:h_) (d:Nat) (Q:Nat→World→Prop) (e:Ending) (w':World):Prop:=
 e=.returned (.tuple #[])∧∃(i':Nat) (w2:World),Q i' w2∧bD R w' i' d∧Step (·=R.rb) w2 w'
theorem I7 (R:h_) (k:Nat) (caps:List Value) (w:World) (i d:Nat) (Q:Nat→World→Prop) (hk:Enters k) (h:bD R w i d) (hd:d<40) (hby:∀w1,bD R w1 i (d+1)→Step (·=R.rb) w w1→Calls Tryz.prog k caps.toArray w1 fun e w2=>e=.returned (.tuple #[])∧∃i',bD R w2 i' (d+1)∧Q i' w2):Calls Tryz.prog 75 #[.pointer (some ⟨R.rb,0,none⟩),.func (.func k) #[] caps.toArray] w (U1 R d Q):=by
 have hfe:∀(fn:Fn) (x y:Array Value) (w:World),(binOp .eql 1 (.func fn x y) .nilFunc).run Tryz.prog w=.ok (.bool false) w:=fun _ _ _ _=>by kernel_rfl
 have hen:Enters k:=hk;unfold Enters at hen;have H:=ai h;have HBY:=ai hby;have k2:=ah h.blk 2 _ rfl;have z2:=aH h.blk 2;have e40:((d:Int)==40)=false:=by rw[kX d 40 40 rfl];exact beq_eq_false_iff_ne.2 om
 have R1:IntKind.i64.wrap ((d:Int)+1)=(d:Int)+1:=IntWalk.i64_in _ om;have R2:IntKind.i64.wrap ((d:Int)+1-1)=(d:Int):=by rw[show((d:Int)+1-1)=(d:Int) by omega];exact IntWalk.i64_in _ om
 have R3:((d:Int)+1-1)=(d:Int):=by omega
 clear h hby hk;go_enter Tryz.func75,Tryz.ntmps75;go_wp2_with fail;have hset:=aU H.o.blk 2 (.int .i64 ((d:Int)+1));have hst:Step (·=R.rb) w (w.setCell ⟨R.rb,2,none⟩ (.int .i64 ((d:Int)+1))):=bV.setCell _ _ jd;refine(HBY.o _ (H.o.deep hset hst) hst).mono ?_;rintro e w2 ⟨rfl,i',hr,hq⟩;have HR:=ai hr;have HQ:=ai hq;clear hset hst hr hq k2 z2;have k2:w2.cell? ⟨R.rb,2,none⟩=some (.int .i64 ((d:Int)+1)):=ah HR.o.blk 2 _ rfl;have z2:=aH HR.o.blk 2;go_wp2_with fail;refine bodyPost_end (results_none rfl _ _ _) rfl ?_;have hset:=aU HR.o.blk 2 (.int .i64 (d:Int));have hst:Step (·=R.rb) w2 (w2.setCell ⟨R.rb,2,none⟩ (.int .i64 (d:Int))):=bV.setCell _ _ jd;exact⟨rfl,i',w2,HQ.o,HR.o.deep hset hst,hst⟩
theorem EC (R:h_) (k:Nat) (caps:List Value) (w:World) (i d:Nat) (es:List PanicEntry) (Q:World→Prop) (hk:Enters k) (h:bD R w i d) (hd:d<40) (hby:∀w1,bD R w1 i (d+1)→Step (·=R.rb) w w1→Calls Tryz.prog k caps.toArray w1 fun e w2=>e=.panicked es∧Q w2):Calls Tryz.prog 75 #[.pointer (some ⟨R.rb,0,none⟩),.func (.func k) #[] caps.toArray] w fun e w'=>e=.panicked es∧Q w':=by
 have hfe:∀(fn:Fn) (x y:Array Value) (w:World),(binOp .eql 1 (.func fn x y) .nilFunc).run Tryz.prog w=.ok (.bool false) w:=fun _ _ _ _=>by kernel_rfl
 have hen:Enters k:=hk;unfold Enters at hen;have H:=ai h;have HBY:=ai hby;have k2:=ah h.blk 2 _ rfl;have z2:=aH h.blk 2;have e40:((d:Int)==40)=false:=by rw[kX d 40 40 rfl];exact beq_eq_false_iff_ne.2 om
 have R1:IntKind.i64.wrap ((d:Int)+1)=(d:Int)+1:=IntWalk.i64_in _ om;clear h hby hk;go_enter Tryz.func75,Tryz.ntmps75;go_wp2_with fail;have hset:=aU H.o.blk 2 (.int .i64 ((d:Int)+1));have hst:Step (·=R.rb) w (w.setCell ⟨R.rb,2,none⟩ (.int .i64 ((d:Int)+1))):=bV.setCell _ _ jd;refine(HBY.o _ (H.o.deep hset hst) hst).mono ?_;rintro e w2 ⟨rfl,hq⟩;exact⟨rfl,rfl,hq⟩
def aS (w:World) (P:Nat→Prop) (v:Value) (n:Nat) (xs:List Value):Prop:=
 ∃a c,v=.slice a n c∧n≤c∧c≤9223372036854775807∧(a=none→n=0∧c=0)∧(0<n→∃g o,a=some ⟨g,o,none⟩∧P g∧g<w.heap.size∧∀(i:Nat) x,xs[i]?=some x→w.cell? ⟨g,o+i,none⟩=some x)
theorem aS.step {w w':World} {P:Nat→Prop} {v:Value} {n:Nat} {xs:List Value} {S:Nat→Prop} (h:aS w P v n xs) (hs:Step S w w') (hS:∀k,P k→¬S k):aS w' P v n xs:=by obtain⟨a,c,hv,hc,hm,hz,hr⟩:=h;refine⟨a,c,hv,hc,hm,hz,fun hn=> ?_⟩;obtain⟨g,o,ha,hg,hgw,hcell⟩:=hr hn;exact⟨g,o,ha,hg,Nat.lt_of_lt_of_le hgw hs.size,fun i x hx=>hs.cell (hcell i x hx) (hS g hg)⟩
theorem aS.mono {w:World} {P P':Nat→Prop} {v:Value} {n:Nat} {xs:List Value} (h:aS w P v n xs) (hp:∀k,k<w.heap.size→P k→P' k):aS w P' v n xs:=by obtain⟨a,c,hv,hc,hm,hz,hr⟩:=h;refine⟨a,c,hv,hc,hm,hz,fun hn=> ?_⟩;obtain⟨g,o,ha,hg,hgw,hcell⟩:=hr hn;exact⟨g,o,ha,hp g hgw hg,hgw,hcell⟩
theorem aS.nil (w:World) (P:Nat→Prop) (xs:List Value):aS w P (.slice none 0 0) 0 xs:=⟨none,0,rfl,Nat.le_refl _,by decide,fun _=>⟨rfl,rfl⟩,fun h=>absurd h (Nat.lt_irrefl _)⟩
theorem aS.new {w:World} {P:Nat→Prop} {b t n:Nat} {cs:List Value} (h:w.heap[b]?=some (.cells cs.toArray t (0,0))) (hn:n≤9223372036854775807) (hp:P b):aS w P (.slice (some ⟨b,0,none⟩) n n) n cs:=by
 refine⟨_,n,rfl,Nat.le_refl _,hn,lW,fun _=>⟨b,0,rfl,hp,aC h,fun i x hx=> ?_⟩⟩;have:=vG h i x hx
 rwa [IL]at this
theorem aS.jb {w:World} {P:Nat→Prop} {base:Nat} {e:TypeId} {size:Nat} {v:Value} {n:Nat} {xs:List Value} (h:w.ownsRow base e size v n xs) (hp:∀k,v.ownBlock=some k→P k):aS w P v n xs:=by have h2:=Row.jb (B:=w.heap.size) h (Nat.le_refl _);obtain⟨a,c,hv,hc,hm,hz,hr⟩:=h2;refine⟨a,c,hv,hc,hm,hz,fun hn=> ?_⟩;obtain⟨g,o,ha,hg,hgw,hcell⟩:=hr hn;exact⟨g,o,ha,hp g (by rw[hv,ha];rfl),hgw,hcell⟩
theorem aS.row {w:World} {P:Nat→Prop} {B:Nat} {v:Value} {n:Nat} {xs:List Value} (h:aS w P v n xs) (hp:∀k,k<w.heap.size→P k→k<B):Row w B v n xs:=aS.mono (P':=fun k=>k<B) h hp
inductive Ty where
 |mk (kind:Int) (name life:ByteArray) (mu:Bool) (bJ:List ByteArray) (args:List Ty) (line col:Int)
mutual
inductive Ex where
 |mk (kind:Int) (name:ByteArray) (val:Int) (mu:Bool) (args:List Ex) (names:List ByteArray) (body:List St) (line col:Int)
inductive St where
 |mk (kind:Int) (name:ByteArray) (type:Ty) (place e:List Ex) (body els:List St) (other:Bool) (line col:Int)
end
mutual
def dJ (w:World) (P:Nat→Prop):Ty→List Value→Prop
 | .mk k name life m bJ args l c,cs=>∃vl va xs,cs=[.int .i64 k,.string name,.string life,.bool m,vl,va,.int .i64 l,.int .i64 c]∧name.size≤9223372036854775807∧life.size≤9223372036854775807∧
   (∀s∈bJ,s.size≤9223372036854775807)∧aS w P vl bJ.length (bJ.map .string)∧dM w P args xs∧aS w P va args.length xs
def dM (w:World) (P:Nat→Prop):List Ty→List Value→Prop
 |[],cs=>cs=[]
 |t::r,cs=>∃c1 c2,cs=c1++c2∧dJ w P t c1∧dM w P r c2
end
mutual
def cZ (w:World) (P:Nat→Prop):Ex→List Value→Prop
 | .mk k name v m args names body l c,cs=>∃va vn vb xa xb,cs=[.int .i64 k,.string name,.int .u64 v,.bool m,va,vn,vb,.int .i64 l,.int .i64 c]∧name.size≤9223372036854775807∧(∀s∈names,s.size≤9223372036854775807)∧
   bF w P args xa∧aS w P va args.length xa∧aS w P vn names.length (names.map .string)∧bU w P body xb∧aS w P vb body.length xb
def bF (w:World) (P:Nat→Prop):List Ex→List Value→Prop
 |[],cs=>cs=[]
 |t::r,cs=>∃c1 c2,cs=c1++c2∧cZ w P t c1∧bF w P r c2
def kF (w:World) (P:Nat→Prop):St→List Value→Prop
 | .mk k name ty place e body els other l c,cs=>∃ct vp ve vb vl xp xe xb xl,cs=[.int .i64 k,.string name]++ct++[vp,ve,vb,vl,.bool other,.int .i64 l,.int .i64 c]∧name.size≤9223372036854775807∧dJ w P ty ct∧
   bF w P place xp∧aS w P vp place.length xp∧bF w P e xe∧aS w P ve e.length xe∧bU w P body xb∧aS w P vb body.length xb∧bU w P els xl∧aS w P vl els.length xl
def bU (w:World) (P:Nat→Prop):List St→List Value→Prop
 |[],cs=>cs=[]
 |t::r,cs=>∃c1 c2,cs=c1++c2∧kF w P t c1∧bU w P r c2
end
mutual
theorem dJ.step {w w':World} {P:Nat→Prop} {S:Nat→Prop} (hs:Step S w w') (hS:∀k,P k→¬S k):∀(t:Ty) (cs:List Value),dJ w P t cs→dJ w' P t cs
 | .mk k name life m bJ args l c,cs,h=>by
  rw[dJ]at h⊢
  obtain⟨vl,va,xs,h1,h2,h3,h4,h5,h6,h7⟩:=h
  exact⟨vl,va,xs,h1,h2,h3,h4,h5.step hs hS,dM.step hs hS args xs h6,h7.step hs hS⟩
theorem dM.step {w w':World} {P:Nat→Prop} {S:Nat→Prop} (hs:Step S w w') (hS:∀k,P k→¬S k):∀(l:List Ty) (cs:List Value),dM w P l cs→dM w' P l cs
 |[],cs,h=>by rw[dM]at h⊢;exact h
 |t::r,cs,h=>by
  rw[dM]at h⊢
  obtain⟨c1,c2,h1,h2,h3⟩:=h
  exact⟨c1,c2,h1,dJ.step hs hS t c1 h2,dM.step hs hS r c2 h3⟩
end
mutual
theorem cZ.step {w w':World} {P:Nat→Prop} {S:Nat→Prop} (hs:Step S w w') (hS:∀k,P k→¬S k):∀(t:Ex) (cs:List Value),cZ w P t cs→cZ w' P t cs
 | .mk k name v m args names body l c,cs,h=>by
  rw[cZ]at h⊢
  obtain⟨va,vn,vb,xa,xb,h1,h2,h3,h4,h5,h6,h7,h8⟩:=h
  exact⟨va,vn,vb,xa,xb,h1,h2,h3,bF.step hs hS args xa h4,h5.step hs hS,h6.step hs hS,bU.step hs hS body xb h7,h8.step hs hS⟩
theorem bF.step {w w':World} {P:Nat→Prop} {S:Nat→Prop} (hs:Step S w w') (hS:∀k,P k→¬S k):∀(l:List Ex) (cs:List Value),bF w P l cs→bF w' P l cs
 |[],cs,h=>by rw[bF]at h⊢;exact h
 |t::r,cs,h=>by
  rw[bF]at h⊢
  obtain⟨c1,c2,h1,h2,h3⟩:=h
  exact⟨c1,c2,h1,cZ.step hs hS t c1 h2,bF.step hs hS r c2 h3⟩
theorem kF.step {w w':World} {P:Nat→Prop} {S:Nat→Prop} (hs:Step S w w') (hS:∀k,P k→¬S k):∀(t:St) (cs:List Value),kF w P t cs→kF w' P t cs
 | .mk k name ty place e body els other l c,cs,h=>by
  rw[kF]at h⊢
  obtain⟨ct,vp,ve,vb,vl,xp,xe,xb,xl,h1,h2,h3,h4,h5,h6,h7,h8,h9,h10,h11⟩:=h
  exact⟨ct,vp,ve,vb,vl,xp,xe,xb,xl,h1,h2,dJ.step hs hS ty ct h3,bF.step hs hS place xp h4,h5.step hs hS,bF.step hs hS e xe h6,h7.step hs hS,bU.step hs hS body xb h8,h9.step hs hS,bU.step hs hS els xl h10,h11.step hs hS⟩
theorem bU.step {w w':World} {P:Nat→Prop} {S:Nat→Prop} (hs:Step S w w') (hS:∀k,P k→¬S k):∀(l:List St) (cs:List Value),bU w P l cs→bU w' P l cs
 |[],cs,h=>by rw[bU]at h⊢;exact h
 |t::r,cs,h=>by
  rw[bU]at h⊢
  obtain⟨c1,c2,h1,h2,h3⟩:=h
  exact⟨c1,c2,h1,kF.step hs hS t c1 h2,bU.step hs hS r c2 h3⟩
end
theorem dJ.len {w:World} {P:Nat→Prop} {t:Ty} {cs:List Value} (h:dJ w P t cs):cs.length=8:=by obtain⟨k,name,life,m,bJ,args,l,c⟩:=t;rw[dJ]at h;obtain⟨_,_,_,rfl,_⟩:=h;rfl
theorem cZ.len {w:World} {P:Nat→Prop} {t:Ex} {cs:List Value} (h:cZ w P t cs):cs.length=9:=by obtain⟨k,name,v,m,args,names,body,l,c⟩:=t;rw[cZ]at h;obtain⟨_,_,_,_,_,rfl,_⟩:=h;rfl
theorem kF.len {w:World} {P:Nat→Prop} {t:St} {cs:List Value} (h:kF w P t cs):cs.length=17:=by obtain⟨k,name,ty,place,e,body,els,other,l,c⟩:=t;rw[kF]at h;obtain⟨ct,_,_,_,_,_,_,_,_,rfl,_,h,_⟩:=h;have:=h.len;simp;omega
theorem dM.get {w:World} {P:Nat→Prop}:∀{l:List Ty} {xs:List Value} (i:Nat) {t:Ty},dM w P l xs→l[i]?=some t→∃cs,dJ w P t cs∧∀j x,cs[j]?=some x→xs[i*8+j]?=some x
 |[],_,i,t,_,ht=>by simp at ht
 |a::r,xs,i,t,h,ht=>by
  rw[dM]at h
  obtain⟨c1,c2,rfl,h1,h2⟩:=h
  cases i with
  |zero=>
   simp at ht;subst ht
   refine⟨c1,h1,fun j x hx=> ?_⟩
   rw[Nat.zero_mul,Nat.zero_add,List.getElem?_append_left (List.getElem?_eq_some_iff.1 hx).1];exact hx
  |succ i=>
   obtain⟨cs,h3,h4⟩:=dM.get i h2 (by simpa using ht)
   refine⟨cs,h3,fun j x hx=> ?_⟩
   rw[List.getElem?_append_right (by rw[h1.len];omega),h1.len,show(i+1)*8+j-8=i*8+j by omega]
   exact h4 j x hx
theorem bF.get {w:World} {P:Nat→Prop}:∀{l:List Ex} {xs:List Value} (i:Nat) {t:Ex},bF w P l xs→l[i]?=some t→∃cs,cZ w P t cs∧∀j x,cs[j]?=some x→xs[i*9+j]?=some x
 |[],_,i,t,_,ht=>by simp at ht
 |a::r,xs,i,t,h,ht=>by
  rw[bF]at h
  obtain⟨c1,c2,rfl,h1,h2⟩:=h
  cases i with
  |zero=>
   simp at ht;subst ht
   refine⟨c1,h1,fun j x hx=> ?_⟩
   rw[Nat.zero_mul,Nat.zero_add,List.getElem?_append_left (List.getElem?_eq_some_iff.1 hx).1];exact hx
  |succ i=>
   obtain⟨cs,h3,h4⟩:=bF.get i h2 (by simpa using ht)
   refine⟨cs,h3,fun j x hx=> ?_⟩
   rw[List.getElem?_append_right (by rw[h1.len];omega),h1.len,show(i+1)*9+j-9=i*9+j by omega]
   exact h4 j x hx
theorem bU.get {w:World} {P:Nat→Prop}:∀{l:List St} {xs:List Value} (i:Nat) {t:St},bU w P l xs→l[i]?=some t→∃cs,kF w P t cs∧∀j x,cs[j]?=some x→xs[i*17+j]?=some x
 |[],_,i,t,_,ht=>by simp at ht
 |a::r,xs,i,t,h,ht=>by
  rw[bU]at h
  obtain⟨c1,c2,rfl,h1,h2⟩:=h
  cases i with
  |zero=>
   simp at ht;subst ht
   refine⟨c1,h1,fun j x hx=> ?_⟩
   rw[Nat.zero_mul,Nat.zero_add,List.getElem?_append_left (List.getElem?_eq_some_iff.1 hx).1];exact hx
  |succ i=>
   obtain⟨cs,h3,h4⟩:=bU.get i h2 (by simpa using ht)
   refine⟨cs,h3,fun j x hx=> ?_⟩
   rw[List.getElem?_append_right (by rw[h1.len];omega),h1.len,show(i+1)*17+j-17=i*17+j by omega]
   exact h4 j x hx
theorem dM.len {w:World} {P:Nat→Prop}:∀{l:List Ty} {xs:List Value},dM w P l xs→xs.length=l.length*8
 |[],_,h=>by rw[dM]at h;subst h;rfl
 |a::r,xs,h=>by
  rw[dM]at h
  obtain⟨c1,c2,rfl,h1,h2⟩:=h
  rw[List.length_append,h1.len,h2.len,List.length_cons];omega
theorem bF.len {w:World} {P:Nat→Prop}:∀{l:List Ex} {xs:List Value},bF w P l xs→xs.length=l.length*9
 |[],_,h=>by rw[bF]at h;subst h;rfl
 |a::r,xs,h=>by
  rw[bF]at h
  obtain⟨c1,c2,rfl,h1,h2⟩:=h
  rw[List.length_append,h1.len,h2.len,List.length_cons];omega
theorem bU.len {w:World} {P:Nat→Prop}:∀{l:List St} {xs:List Value},bU w P l xs→xs.length=l.length*17
 |[],_,h=>by rw[bU]at h;subst h;rfl
 |a::r,xs,h=>by
  rw[bU]at h
  obtain⟨c1,c2,rfl,h1,h2⟩:=h
  rw[List.length_append,h1.len,h2.len,List.length_cons];omega
theorem cZ.one {w:World} {P:Nat→Prop} {t:Ex} {cs:List Value} (h:cZ w P t cs):∀u∈cs,u.oneCell'=true:=by obtain⟨k,name,v,m,args,names,body,l,c⟩:=t;rw[cZ]at h;obtain⟨_,_,_,_,_,rfl,_,_,_,⟨_,_,rfl,_⟩,⟨_,_,rfl,_⟩,_,_,_,rfl,_⟩:=h;intro u hu;simp at hu;rcases hu with rfl|rfl|rfl|rfl|rfl|rfl|rfl|rfl|rfl<;>rfl
theorem bF.one {w:World} {P:Nat→Prop}:∀{l:List Ex} {xs:List Value},bF w P l xs→∀u∈xs,u.oneCell'=true
 |[],_,h=>by rw[bF]at h;subst h;intro u hu;cases hu
 |a::r,xs,h=>by
  rw[bF]at h
  obtain⟨c1,c2,rfl,h1,h2⟩:=h
  intro u hu
  rcases List.mem_append.1 hu with h|h
  ·
   exact h1.one u h
  ·
   exact bF.one h2 u h
theorem bF.append {w:World} {P:Nat→Prop}:∀{l:List Ex} {xs:List Value} {l':List Ex} {xs':List Value},bF w P l xs→bF w P l' xs'→bF w P (l++l') (xs++xs')
 |[],_,_,_,h,h'=>by rw[bF]at h;subst h;exact h'
 |a::r,xs,l',xs',h,h'=>by
  rw[bF]at h
  obtain⟨c1,c2,rfl,h1,h2⟩:=h
  rw[List.cons_append,bF]
  exact⟨c1,c2++xs',by rw[List.append_assoc],h1,bF.append h2 h'⟩
theorem dM.cells {w:World} {P:Nat→Prop} {l:List Ty} {xs:List Value} {g o i:Nat} {t:Ty} (h:dM w P l xs) (ht:l[i]?=some t) (hc:∀(i:Nat) x,xs[i]?=some x→w.cell? ⟨g,o+i,none⟩=some x):∃cs,dJ w P t cs∧∀j x,cs[j]?=some x→w.cell? ⟨g,o+i*8+j,none⟩=some x:=by obtain⟨cs,h1,h2⟩:=dM.get i h ht;exact⟨cs,h1,fun j x hx=>by rw[Nat.add_assoc];exact hc _ _ (h2 j x hx)⟩
theorem bF.cells {w:World} {P:Nat→Prop} {l:List Ex} {xs:List Value} {g o i:Nat} {t:Ex} (h:bF w P l xs) (ht:l[i]?=some t) (hc:∀(i:Nat) x,xs[i]?=some x→w.cell? ⟨g,o+i,none⟩=some x):∃cs,cZ w P t cs∧∀j x,cs[j]?=some x→w.cell? ⟨g,o+i*9+j,none⟩=some x:=by obtain⟨cs,h1,h2⟩:=bF.get i h ht;exact⟨cs,h1,fun j x hx=>by rw[Nat.add_assoc];exact hc _ _ (h2 j x hx)⟩
theorem bU.cells {w:World} {P:Nat→Prop} {l:List St} {xs:List Value} {g o i:Nat} {t:St} (h:bU w P l xs) (ht:l[i]?=some t) (hc:∀(i:Nat) x,xs[i]?=some x→w.cell? ⟨g,o+i,none⟩=some x):∃cs,kF w P t cs∧∀j x,cs[j]?=some x→w.cell? ⟨g,o+i*17+j,none⟩=some x:=by obtain⟨cs,h1,h2⟩:=bU.get i h ht;exact⟨cs,h1,fun j x hx=>by rw[Nat.add_assoc];exact hc _ _ (h2 j x hx)⟩
mutual
theorem dJ.mono {w:World} {P P':Nat→Prop} (hp:∀k,k<w.heap.size→P k→P' k):∀(t:Ty) (cs:List Value),dJ w P t cs→dJ w P' t cs
 | .mk k name life m bJ args l c,cs,h=>by
  rw[dJ]at h⊢
  obtain⟨vl,va,xs,h1,h2,h3,h4,h5,h6,h7⟩:=h
  exact⟨vl,va,xs,h1,h2,h3,h4,h5.mono hp,dM.mono hp args xs h6,h7.mono hp⟩
theorem dM.mono {w:World} {P P':Nat→Prop} (hp:∀k,k<w.heap.size→P k→P' k):∀(l:List Ty) (cs:List Value),dM w P l cs→dM w P' l cs
 |[],cs,h=>by rw[dM]at h⊢;exact h
 |t::r,cs,h=>by
  rw[dM]at h⊢
  obtain⟨c1,c2,h1,h2,h3⟩:=h
  exact⟨c1,c2,h1,dJ.mono hp t c1 h2,dM.mono hp r c2 h3⟩
end
mutual
theorem cZ.mono {w:World} {P P':Nat→Prop} (hp:∀k,k<w.heap.size→P k→P' k):∀(t:Ex) (cs:List Value),cZ w P t cs→cZ w P' t cs
 | .mk k name v m args names body l c,cs,h=>by
  rw[cZ]at h⊢
  obtain⟨va,vn,vb,xa,xb,h1,h2,h3,h4,h5,h6,h7,h8⟩:=h
  exact⟨va,vn,vb,xa,xb,h1,h2,h3,bF.mono hp args xa h4,h5.mono hp,h6.mono hp,bU.mono hp body xb h7,h8.mono hp⟩
theorem bF.mono {w:World} {P P':Nat→Prop} (hp:∀k,k<w.heap.size→P k→P' k):∀(l:List Ex) (cs:List Value),bF w P l cs→bF w P' l cs
 |[],cs,h=>by rw[bF]at h⊢;exact h
 |t::r,cs,h=>by
  rw[bF]at h⊢
  obtain⟨c1,c2,h1,h2,h3⟩:=h
  exact⟨c1,c2,h1,cZ.mono hp t c1 h2,bF.mono hp r c2 h3⟩
theorem kF.mono {w:World} {P P':Nat→Prop} (hp:∀k,k<w.heap.size→P k→P' k):∀(t:St) (cs:List Value),kF w P t cs→kF w P' t cs
 | .mk k name ty place e body els other l c,cs,h=>by
  rw[kF]at h⊢
  obtain⟨ct,vp,ve,vb,vl,xp,xe,xb,xl,h1,h2,h3,h4,h5,h6,h7,h8,h9,h10,h11⟩:=h
  exact⟨ct,vp,ve,vb,vl,xp,xe,xb,xl,h1,h2,dJ.mono hp ty ct h3,bF.mono hp place xp h4,h5.mono hp,bF.mono hp e xe h6,h7.mono hp,bU.mono hp body xb h8,h9.mono hp,bU.mono hp els xl h10,h11.mono hp⟩
theorem bU.mono {w:World} {P P':Nat→Prop} (hp:∀k,k<w.heap.size→P k→P' k):∀(l:List St) (cs:List Value),bU w P l cs→bU w P' l cs
 |[],cs,h=>by rw[bU]at h⊢;exact h
 |t::r,cs,h=>by
  rw[bU]at h⊢
  obtain⟨c1,c2,h1,h2,h3⟩:=h
  exact⟨c1,c2,h1,kF.mono hp t c1 h2,bU.mono hp r c2 h3⟩
end
theorem dJ.one {w:World} {P:Nat→Prop} {t:Ty} {cs:List Value} (h:dJ w P t cs):∀u∈cs,u.oneCell'=true:=by obtain⟨k,name,life,m,bJ,args,l,c⟩:=t;rw[dJ]at h;obtain⟨_,_,_,rfl,_,_,_,⟨_,_,rfl,_⟩,_,⟨_,_,rfl,_⟩⟩:=h;intro u hu;simp at hu;rcases hu with rfl|rfl|rfl|rfl|rfl|rfl|rfl|rfl<;>rfl
theorem kF.one {w:World} {P:Nat→Prop} {t:St} {cs:List Value} (h:kF w P t cs):∀u∈cs,u.oneCell'=true:=by
 obtain⟨k,name,ty,place,e,body,els,other,l,c⟩:=t;rw[kF]at h;obtain⟨ct,_,_,_,_,_,_,_,_,rfl,_,hty,_,⟨_,_,rfl,_⟩,_,⟨_,_,rfl,_⟩,_,⟨_,_,rfl,_⟩,_,⟨_,_,rfl,_⟩⟩:=h;intro u hu;rcases List.mem_append.1 hu with hu|hu
 ·rcases List.mem_append.1 hu with hu|hu
  ·simp at hu;rcases hu with rfl|rfl<;>rfl
  ·exact hty.one u hu
 ·simp at hu;rcases hu with rfl|rfl|rfl|rfl|rfl|rfl|rfl<;>rfl
theorem dM.snoc {w:World} {P:Nat→Prop}:∀{l:List Ty} {xs:List Value} {t:Ty} {cs:List Value},dM w P l xs→dJ w P t cs→dM w P (l++[t]) (xs++cs)
 |[],xs,t,cs,h,h1=>by
  rw[dM]at h;subst h
  rw[List.nil_append,dM]
  exact⟨cs,[],by simp,h1,by rw[dM]⟩
 |a::r,xs,t,cs,h,h1=>by
  rw[dM]at h
  obtain⟨c1,c2,rfl,h2,h3⟩:=h
  rw[List.cons_append,dM]
  exact⟨c1,c2++cs,by rw[List.append_assoc],h2,dM.snoc h3 h1⟩
theorem bF.snoc {w:World} {P:Nat→Prop} {l:List Ex} {xs:List Value} {t:Ex} {cs:List Value} (h:bF w P l xs) (h1:cZ w P t cs):bF w P (l++[t]) (xs++cs):=
 bF.append h (by rw[bF];exact⟨cs,[],by simp,h1,by rw[bF]⟩)
theorem bU.snoc {w:World} {P:Nat→Prop}:∀{l:List St} {xs:List Value} {t:St} {cs:List Value},bU w P l xs→kF w P t cs→bU w P (l++[t]) (xs++cs)
 |[],xs,t,cs,h,h1=>by
  rw[bU]at h;subst h
  rw[List.nil_append,bU]
  exact⟨cs,[],by simp,h1,by rw[bU]⟩
 |a::r,xs,t,cs,h,h1=>by
  rw[bU]at h
  obtain⟨c1,c2,rfl,h2,h3⟩:=h
  rw[List.cons_append,bU]
  exact⟨c1,c2++cs,by rw[List.append_assoc],h2,bU.snoc h3 h1⟩
inductive dB (α:Type) where
 |ok (a:α) (i:Nat)
 |err (c ln col:Nat)
 |out
def dB.bind {α β:Type}:dB α→(α→Nat→dB β)→dB β
 | .ok a i,f=>f a i
 | .err c ln col,_=>.err c ln col
 | .out,_=>.out
theorem dB.bind_ok {α β:Type} (a:α) (i:Nat) (f:α→Nat→dB β):(dB.ok a i).bind f=f a i:=rfl
theorem dB.lQ {α β:Type} (c ln col:Nat) (f:α→Nat→dB β):(dB.err c ln col:dB α).bind f=.err c ln col:=rfl
theorem dB.uK {α β:Type} (f:α→Nat→dB β):(dB.out:dB α).bind f=.out:=rfl
theorem yG {α β:Type} {x:dB α} {a:α} {j:Nat} {g:α→Nat→dB β} (h:x=.ok a j):x.bind g=g a j:=by rw[h];rfl
def Ql:Tok:=⟨0,[],0,0,0⟩
def tokA (l:List Tok) (i:Nat):Tok:=l.getD i Ql
def bH (l:List Tok) (i:Nat) (s:List UInt8):Bool:=uJ (tokA l i) s
def gW {α:Type} (c:Nat) (l:List Tok) (i:Nat):dB α:=.err c (tokA l i).line (tokA l i).col
def aI (l:List Tok) (i:Nat) (s:List UInt8):dB Unit:=if bH l i s then .ok () (i+1)else gW 1 l i
def bI (l:List Tok) (i:Nat):dB ByteArray:=if rP (tokA l i)then .ok (mG (tokA l i).text) (i+1)else gW 1 l i
def eH (n most:Nat) (l:List Tok) (i:Nat):dB Unit:=if most≤n then gW 2 l i else .ok () i
def jh (l:List Tok) (i:Nat):dB ByteArray:=if(tokA l i).kind=2 then .ok (mG (tokA l i).text) (i+1)else gW 1 l i
def pY (l:List Tok) (i:Nat):ByteArray:=if(tokA l i).kind=2 then mG (tokA l i).text else⟨#[]⟩
def ny (l:List Tok) (i:Nat):Nat:=if(tokA l i).kind=2 then i+1 else i
def iw (l:List Tok) (i:Nat) (s:List UInt8):Nat:=if bH l i s then i+1 else i
def di:ByteArray:=⟨#[]⟩
instance:CoeDep Vt aX Value:=⟨.string di⟩
mutual
def iZ:Nat→List Tok→Nat→Nat→dB Ty
 |0,_,_,_=>.out
 |f+1,l,i,d=>
  if d=40 then gW 2 l i
  else if bH l i [105,110,116]then .ok (.mk 1 di di false [] [] (tokA l i).line (tokA l i).col) (i+1)
  else if bH l i [98,111,111,108]then .ok (.mk 2 di di false [] [] (tokA l i).line (tokA l i).col) (i+1)
  else if bH l i [102,54,52]then .ok (.mk 3 di di false [] [] (tokA l i).line (tokA l i).col) (i+1)
  else if bH l i [40]then(aI l (i+1) [41]).bind fun _ j=>.ok (.mk 4 di di false [] [] (tokA l i).line (tokA l i).col) j
  else if bH l i [66,111,120]then(aI l (i+1) [60]).bind fun _ j=>(iZ f l j (d+1)).bind fun a j=>(aI l j [62]).bind fun _ j=>.ok (.mk 6 di di false [] [a] (tokA l i).line (tokA l i).col) j
  else if bH l i [38]then(iZ f l (iw l (ny l (i+1)) [109,117,116]) (d+1)).bind fun a j=>.ok (.mk 7 di (pY l (i+1)) (bH l (ny l (i+1)) [109,117,116]) [] [a] (tokA l i).line (tokA l i).col) j
  else if bH l i [100,121,110]then(bI l (i+1)).bind fun n j=>if bH l j [43]then(jh l (j+1)).bind fun x j=>.ok (.mk 8 n x false [] [] (tokA l i).line (tokA l i).col) j else .ok (.mk 8 n di false [] [] (tokA l i).line (tokA l i).col) j
  else(bI l i).bind fun n j=>if bH l j [60]then(kz f l (j+1) (d+1) [] []).bind fun p j=>.ok (.mk 5 n di false p.1 p.2 (tokA l i).line (tokA l i).col) j else .ok (.mk 5 n di false [] [] (tokA l i).line (tokA l i).col) j
def kz:Nat→List Tok→Nat→Nat→List ByteArray→List Ty→dB (List ByteArray×List Ty)
 |0,_,_,_,_,_=>.out
 |f+1,l,i,d,ls,ts=>
  (eH (ls.length+ts.length) 8 l i).bind fun _ i=>
   (if(tokA l i).kind=2∧ts.length=0 then(jh l i).bind fun x j=>.ok (ls++[x],ts) j else(iZ f l i d).bind fun x j=>.ok (ls,ts++[x]) j).bind fun p j=>
    if bH l j [44]then kz f l (j+1) d p.1 p.2 else(aI l j [62]).bind fun _ j=>.ok p j
end
def jM:Nat→List Tok→Nat→List ByteArray→dB (List ByteArray)
 |0,_,_,_=>.out
 |f+1,l,i,ns=>(eH ns.length 8 l i).bind fun _ i=>(bI l i).bind fun n j=>if bH l j [44]then jM f l (j+1) (ns++[n])else(aI l j [124]).bind fun _ j=>.ok (ns++[n]) j
def opsL:Nat→List (List UInt8)
 |0=>[[124]]
 |1=>[[38,38]]
 |2=>[[61,61],[60]]
 |3=>[[43],[45]]
 |4=>[[42],[47]]
 |_=>[]
def wO (l:List Tok) (i n:Nat):Option (List UInt8):=(opsL n).find? (bH l i)
def aZ (k:Int) (name:ByteArray) (v:Int) (m:Bool) (args:List Ex) (names:List ByteArray) (body:List St) (t:Tok):Ex:=.mk k name v m args names body t.line t.col
def gy (k:Int) (name:ByteArray) (ty:Ty) (place e:List Ex) (body els:List St) (other:Bool) (t:Tok):St:=.mk k name ty place e body els other t.line t.col
def dU:Ty:=.mk 0 di di false [] [] 0 0
mutual
def a_:Nat→List Tok→Nat→Nat→Nat→dB Ex
 |0,_,_,_,_=>.out
 |f+1,l,i,d,n=>if n=5 then gm f l i d else(a_ f l i d (n+1)).bind fun x j=>qN f l j d n x
def qN:Nat→List Tok→Nat→Nat→Nat→Ex→dB Ex
 |0,_,_,_,_,_=>.out
 |f+1,l,i,d,n,x=>match wO l i n with
  |none=>.ok x i
  |some s=>(a_ f l (i+1) d (n+1)).bind fun y j=>
    if n=2 then .ok (aZ 14 (mG s) 0 false [x,y] [] [] (tokA l i)) j else qN f l j d n (aZ 14 (mG s) 0 false [x,y] [] [] (tokA l i))
def gm:Nat→List Tok→Nat→Nat→dB Ex
 |0,_,_,_=>.out
 |f+1,l,i,d=>
  if d=40 then gW 2 l i
  else if bH l i [45]then(gm f l (i+1) (d+1)).bind fun y j=>.ok (aZ 15 (mG [45]) 0 false [y] [] [] (tokA l i)) j
  else if bH l i [33]then(gm f l (i+1) (d+1)).bind fun y j=>.ok (aZ 15 (mG [33]) 0 false [y] [] [] (tokA l i)) j
  else if bH l i [42]then(gm f l (i+1) (d+1)).bind fun y j=>.ok (aZ 7 di 0 false [y] [] [] (tokA l i)) j
  else if bH l i [38]then(gm f l (iw l (i+1) [109,117,116]) (d+1)).bind fun y j=>.ok (aZ 8 di 0 (bH l (i+1) [109,117,116]) [y] [] [] (tokA l i)) j
  else mJ f l i (d+1)
def mJ:Nat→List Tok→Nat→Nat→dB Ex
 |0,_,_,_=>.out
 |f+1,l,i,d=>(kR f l i d).bind fun x j=>jV f l j d x
def jV:Nat→List Tok→Nat→Nat→Ex→dB Ex
 |0,_,_,_,_=>.out
 |f+1,l,i,d,x=>
  if bH l i [46]then(bI l (i+1)).bind fun n j=>
   if bH l j [40]then(jE f l (j+1) d).bind fun al j=>jV f l j d (aZ 13 n 0 false (x::al) [] [] (tokA l i))
   else jV f l j d (aZ 6 n 0 false [x] [] [] (tokA l i))
  else .ok x i
def jE:Nat→List Tok→Nat→Nat→dB (List Ex)
 |0,_,_,_=>.out
 |f+1,l,i,d=>if bH l i [41]then .ok [] (i+1)else kY f l i d []
def kY:Nat→List Tok→Nat→Nat→List Ex→dB (List Ex)
 |0,_,_,_,_=>.out
 |f+1,l,i,d,acc=>(eH acc.length 8 l i).bind fun _ i=>(a_ f l i d 0).bind fun x j=>
  if bH l j [44]then kY f l (j+1) d (acc++[x])else(aI l j [41]).bind fun _ j=>.ok (acc++[x]) j
def nG:Nat→List Tok→Nat→Nat→dB Ex
 |0,_,_,_=>.out
 |f+1,l,i,d=>(aI l i [40]).bind fun _ j=>(a_ f l j d 0).bind fun x j=>(aI l j [41]).bind fun _ j=>.ok x j
def jF:Nat→List Tok→Nat→Nat→List ByteArray→List Ex→dB (List ByteArray×List Ex)
 |0,_,_,_,_,_=>.out
 |f+1,l,i,d,ns,al=>(eH ns.length 12 l i).bind fun _ i=>(bI l i).bind fun n j=>(aI l j [58]).bind fun _ j=>(a_ f l j d 0).bind fun x j=>
  if bH l j [44]then jF f l (j+1) d (ns++[n]) (al++[x])else(aI l j [125]).bind fun _ j=>.ok (ns++[n],al++[x]) j
def kR:Nat→List Tok→Nat→Nat→dB Ex
 |0,_,_,_=>.out
 |f+1,l,i,d=>
  if(tokA l i).kind=3 then .ok (aZ 1 di (tokA l i).val false [] [] [] (tokA l i)) (i+1)
  else if(tokA l i).kind=4 then .ok (aZ 3 di (tokA l i).val false [] [] [] (tokA l i)) (i+1)
  else if bH l i [116,114,117,101]then .ok (aZ 2 di 1 false [] [] [] (tokA l i)) (i+1)
  else if bH l i [102,97,108,115,101]then .ok (aZ 2 di 0 false [] [] [] (tokA l i)) (i+1)
  else if bH l i [99,104,111,111,115,101]then .ok (aZ 16 di 0 false [] [] [] (tokA l i)) (i+1)
  else if bH l i [66,111,120]then(nG f l (i+1) d).bind fun x j=>.ok (aZ 9 di 0 false [x] [] [] (tokA l i)) j
  else if bH l i [117,110,98,111,120]then(nG f l (i+1) d).bind fun x j=>.ok (aZ 10 di 0 false [x] [] [] (tokA l i)) j
  else if bH l i [110,101,119]then(bI l (i+1)).bind fun n j=>(aI l j [123]).bind fun _ j=>
   if bH l j [125]then .ok (aZ 11 n 0 false [] [] [] (tokA l i)) (j+1)else(jF f l j d [] []).bind fun p j=>.ok (aZ 11 n 0 false p.2 p.1 [] (tokA l i)) j
  else if bH l i [97,115]then(bI l (i+1)).bind fun n j=>(aI l j [124]).bind fun _ j=>
   (if bH l j [124]then .ok [] (j+1)else jM f l j []).bind fun ns j=>(bM f l j d).bind fun b j=>.ok (aZ 17 n 0 false [] ns b (tokA l i)) j
  else if bH l i [40]then
   if bH l (i+1) [41]then .ok (aZ 4 di 0 false [] [] [] (tokA l i)) (i+2)
   else(a_ f l (i+1) d 0).bind fun x j=>(aI l j [41]).bind fun _ j=>.ok (aZ 18 di 0 false [x] [] [] (tokA l i)) j
  else if bH l i [115,101,108,102]then .ok (aZ 5 (mG [115,101,108,102]) 0 false [] [] [] (tokA l i)) (i+1)
  else(bI l i).bind fun n j=>if bH l j [40]then(jE f l (j+1) d).bind fun al j=>.ok (aZ 12 n 0 false al [] [] (tokA l i)) j else .ok (aZ 5 n 0 false [] [] [] (tokA l i)) j
def bM:Nat→List Tok→Nat→Nat→dB (List St)
 |0,_,_,_=>.out
 |f+1,l,i,d=>if d=40 then gW 2 l i else(aI l i [123]).bind fun _ j=>jC f l j (d+1) []
def jC:Nat→List Tok→Nat→Nat→List St→dB (List St)
 |0,_,_,_,_=>.out
 |f+1,l,i,d,acc=>if bH l i [125]then .ok acc (i+1)else(lq f l i d).bind fun s j=>jC f l j d (acc++[s])
def rD:Nat→List Tok→Nat→Nat→dB (ByteArray×Ty×List Ex)
 |0,_,_,_=>.out
 |f+1,l,i,d=>(bI l i).bind fun n j=>(if bH l j [58]then iZ f l (j+1) d else .ok dU j).bind fun ty j=>
  (if bH l j [61]then(a_ f l (j+1) d 0).bind fun x j=>.ok [x] j else .ok [] j).bind fun e j=>(aI l j [59]).bind fun _ j=>.ok (n,ty,e) j
def rE:Nat→List Tok→Nat→Nat→dB (List Ex×Ex)
 |0,_,_,_=>.out
 |f+1,l,i,d=>(a_ f l i d 0).bind fun x j=>(if bH l j [61]then(a_ f l (j+1) d 0).bind fun y j=>.ok ([x],y) j else .ok ([],x) j).bind fun p j=>(aI l j [59]).bind fun _ j=>.ok p j
def lq:Nat→List Tok→Nat→Nat→dB St
 |0,_,_,_=>.out
 |f+1,l,i,d=>
  if bH l i [108,101,116]then(rD f l (i+1) d).bind fun p j=>.ok (gy 1 p.1 p.2.1 [] p.2.2 [] [] false (tokA l i)) j
  else if bH l i [105,102]then(a_ f l (i+1) d 0).bind fun x j=>(bM f l j d).bind fun b j=>
   if bH l j [101,108,115,101]then(bM f l (j+1) d).bind fun c j=>.ok (gy 4 di dU [] [x] b c true (tokA l i)) j else .ok (gy 4 di dU [] [x] b [] false (tokA l i)) j
  else if bH l i [119,104,105,108,101]then(a_ f l (i+1) d 0).bind fun x j=>(bM f l j d).bind fun b j=>.ok (gy 5 di dU [] [x] b [] false (tokA l i)) j
  else if bH l i [114,101,116,117,114,110]then(if bH l (i+1) [59]then .ok [] (i+1)else(a_ f l (i+1) d 0).bind fun x j=>.ok [x] j).bind fun e j=>(aI l j [59]).bind fun _ j=>.ok (gy 6 di dU [] e [] [] false (tokA l i)) j
  else if bH l i [97,98,111,114,116]then(aI l (i+1) [59]).bind fun _ j=>.ok (gy 7 di dU [] [] [] [] false (tokA l i)) j
  else if bH l i [123]then(bM f l i d).bind fun b j=>.ok (gy 8 di dU [] [] b [] false (tokA l i)) j
  else(rE f l i d).bind fun p j=>.ok (gy (if p.1.length=0 then 3 else 2) di dU p.1 [p.2] [] [] false (tokA l i)) j
end
def aJ {α:Type} (R:h_) (d:Nat) (At:World→α→Value→Prop) (r:dB α) (w:World) (e:Ending) (w':World):Prop:=
 match r with
 | .ok a j=>(∃v,e=.returned v∧At w' a v)∧bD R w' j d∧Step (·=R.rb) w w'
 | .err c ln col=>e=.panicked [{v:=.iface 184 (.agg #[af c,af ln,af col]),recovered:=false}]∧Step (·=R.rb) w w'
 | .out=>True
def iR (_:World) (_:Unit) (v:Value):Prop:=v=.tuple #[]
def Gt (_:World) (s:ByteArray) (v:Value):Prop:=v=.string s
theorem uM {l:List Tok} {i:Nat} (h:i<l.length):l[i]?=some (tokA l i):=by rw[tokA,List.getD_eq_getElem?_getD,List.getElem?_eq_getElem h];rfl
theorem bD.tok {R:h_} {w:World} {i d:Nat} (h:bD R w i d):R.l[i]?=some (tokA R.l i):=uM h.lt
theorem dH {l:List Tok} {i:Nat} {s:List UInt8} (h:aI l i s=.out):False:=by unfold aI at h;split at h<;>cases h
theorem iV {l:List Tok} {i:Nat} (h:bI l i=.out):False:=by unfold bI at h;split at h<;>cases h
theorem BB {l:List Tok} {i:Nat} (h:jh l i=.out):False:=by unfold jh at h;split at h<;>cases h
theorem lV {n m:Nat} {l:List Tok} {i:Nat} (h:eH n m l i=.out):False:=by unfold eH at h;split at h<;>cases h
theorem uj (R:h_) (hl:pF R.l) (s:ByteArray) (w:World) (i d:Nat) (h:bD R w i d) (hs:s.size≤100000):Calls Tryz.prog 77 #[.pointer (some ⟨R.rb,0,none⟩),.string s] w fun e w'=>e=.returned (.bool (bH R.l i s.data.toList))∧bD R w' (iw R.l i s.data.toList) d∧Step (·=R.rb) w w':=
 is_at R hl s w i d _ h h.tok hs
theorem dw (R:h_) (hl:pF R.l) (s:ByteArray) (w:World) (i d:Nat) (h:bD R w i d) (hs:s.size≤100000) (hb:bH R.l i s.data.toList=true):Calls Tryz.prog 77 #[.pointer (some ⟨R.rb,0,none⟩),.string s] w fun e w'=>e=.returned (.bool true)∧bD R w' (i+1) d∧Step (·=R.rb) w w':=by have h1:=uj R hl s w i d h hs;unfold iw at h1;rw[hb,if_pos rfl]at h1;exact h1
theorem dX (R:h_) (hl:pF R.l) (s:ByteArray) (w:World) (i d:Nat) (h:bD R w i d) (hs:s.size≤100000) (hb:bH R.l i s.data.toList=false):Calls Tryz.prog 77 #[.pointer (some ⟨R.rb,0,none⟩),.string s] w fun e w'=>e=.returned (.bool false)∧bD R w' i d∧Step (·=R.rb) w w':=by have h1:=uj R hl s w i d h hs;unfold iw at h1;rw[hb,if_neg dc]at h1;exact h1
theorem uN (R:h_) (s:ByteArray) (w:World) (i d:Nat) (h:bD R w i d) (hs:s.size≤100000) (b:Bool) (hb:bH R.l i s.data.toList=b):Calls Tryz.prog 115 #[.pointer (some ⟨R.rb,0,none⟩),.string s] w fun e w'=>e=.returned (.bool b)∧jP w w':=by rw[←hb];exact Qk R s w i d _ h h.tok hs
theorem dO (R:h_) (hl:pF R.l) (g:Nat) (s:ByteArray) (w:World) (i d:Nat) (h:bD R w i d) (hs:s.size≤100000) (hg:w.cell? ⟨g,0,none⟩=some (.string s)):Calls Tryz.prog 78 #[.pointer (some ⟨R.rb,0,none⟩),.slice (some ⟨g,0,none⟩) 1 1] w (aJ R d iR (aI R.l i s.data.toList) w):=
 (YS R hl g s w i d _ h h.tok hs hg).mono fun e w' hp=>by
  unfold Aa at hp
  unfold aI bH
  split at hp
  ·
   rename_i hh
   rw[if_pos hh]
   exact⟨⟨_,hp.1.1,rfl⟩,hp.1.2,hp.2⟩
  ·
   rename_i hh
   rw[if_neg hh]
   exact hp
theorem name_any (R:h_) (hl:pF R.l) (w:World) (i d:Nat) (h:bD R w i d):Calls Tryz.prog 80 #[.pointer (some ⟨R.rb,0,none⟩)] w (aJ R d Gt (bI R.l i) w):=
 (YR R hl w i d _ h h.tok).mono fun e w' hp=>by
  unfold xB at hp
  unfold bI
  split at hp
  ·
   rename_i hh
   rw[if_pos hh]
   exact⟨⟨_,hp.1.1,rfl⟩,hp.1.2,hp.2⟩
  ·
   rename_i hh
   rw[if_neg hh]
   exact hp
theorem nH (R:h_) (w:World) (n m i d:Nat) (h:bD R w i d):Calls Tryz.prog 49 #[.agg #[fM R.rb 0],.int .i64 n,.int .i64 m] w (aJ R d iR (eH n m R.l i) w):=by
 have H:=ai h;have HT:=ai h.tok;clear h;by_cases hh:m≤n
 ·have hr:eH n m R.l i=gW 2 R.l i:=by unfold eH;rw[if_pos hh]
  have HR:=ai hr;have e1:decide (m≤n)=true:=decide_eq_true hh;clear hr hh;go_enter Tryz.func49,Tryz.ntmps49;go_wp2_with fail;refine(qG R 2 _ i d _ (H.o.quiet (bV.alloc _)) HT.o).mono ?_;rintro e w1 ⟨rfl,h1⟩;refine⟨rfl,?_⟩;rw[HR.o];exact⟨rfl,((bV.alloc _).trans h1).mono fe⟩
 ·have hr:eH n m R.l i=.ok () i:=by unfold eH;rw[if_neg hh]
  have HR:=ai hr;have e1:decide (m≤n)=false:=decide_eq_false hh;clear hr hh;go_enter Tryz.func49,Tryz.ntmps49;go_wp2_with fail;refine bodyPost_end (results_none rfl _ _ _) rfl ?_;rw[HR.o];exact⟨⟨_,rfl,rfl⟩,H.o.quiet (bV.alloc _),bV.alloc _⟩
theorem xC (R:h_) (hl:pF R.l) (w:World) (i d:Nat) (h:bD R w i d):Calls Tryz.prog 81 #[.agg #[fM R.rb 0]] w (aJ R d Gt (jh R.l i) w):=by
 obtain⟨t,ht⟩:=bn (tokA R.l i);have HT:=ai h.tok;have RQ:=ai ht;rw[←ht]at HT;obtain⟨w1,hw1⟩:=bn (w.alloc (.cells #[fM R.rb 0] 75));have dF:=nS hw1
 have HB1:=nB hw1
 have HW1:=ai hw1;have H1:=ai (h.quiet dF.o);have HL:=ai hl;have hfd0:∀(a0 a1 a2 a3 a4:Value) (w:World),(Instr.field 111 (.agg #[a0,a1,a2,a3,a4]) 0).run Tryz.prog w=.ok a0 w:=fun _ _ _ _ _ _=>by kernel_rfl
 have hfd1:∀(a0 a1 a2 a3 a4:Value) (w:World),(Instr.field 111 (.agg #[a0,a1,a2,a3,a4]) 1).run Tryz.prog w=.ok a1 w:=fun _ _ _ _ _ _=>by kernel_rfl
 have k0:w1.cell? ⟨w.heap.size,0,none⟩=some (.pointer (some ⟨R.rb,0,none⟩)):=ah HB1.o 0 _ rfl;have HX:Hid ((mG t.text)=⟨t.text.toArray⟩):=rfl;clear h hw1 hl ht;by_cases hk:t.kind=2
 ·have e1:((t.kind:Int) !=2)=false:=by rw[bne,kX t.kind 2 2 rfl,hk];rfl
  have HR:Hid (jh R.l i=.ok (mG t.text) (i+1)):=by show _=_;unfold jh;rw[←RQ.o,if_pos hk]
  have hk0:t.kind≠0:=by omega
  have HK0:=ai hk0;clear hk hk0;go_enter Tryz.func81,Tryz.ntmps81;go_upto_region 1 with fail
  rw[←HW1.o];go_wp2_with fail;refine(l_ R _ i d t H1.o HT.o).mono ?_;rintro e w2 ⟨rfl,h2⟩;have H2:=ai (H1.o.quiet h2);have HS2:=ai (dF.o.trans h2);have k0':w2.cell? ⟨w.heap.size,0,none⟩=some (.pointer (some ⟨R.rb,0,none⟩)):=h2.cell k0 (fun h=>h);clear h2 k0;go_wp2_with fail;refine(z_ R HL.o _ i d t H2.o HT.o HK0.o).mono ?_;rintro e w3 ⟨rfl,hr,h3⟩;have H3:=ai hr;have jA:=ai h3;clear k0' hr h3;go_wp2_with fail;go_ret;rw[HR.o];exact⟨⟨_,rfl,rfl⟩,H3.o,(HS2.o.mono fe).trans jA.o⟩
 ·have e1:((t.kind:Int) !=2)=true:=by rw[bne,kX t.kind 2 2 rfl,beq_eq_false_iff_ne.2 hk];rfl
  have HR:Hid (jh R.l i=gW 1 R.l i):=by show _=_;unfold jh;rw[←RQ.o,if_neg hk]
  clear hk;go_enter Tryz.func81,Tryz.ntmps81;go_upto_region 1 with fail
  rw[←HW1.o];go_wp2_with fail;refine(l_ R _ i d t H1.o HT.o).mono ?_;rintro e w2 ⟨rfl,h2⟩;have H2:=ai (H1.o.quiet h2);have HS2:=ai (dF.o.trans h2);have k0':w2.cell? ⟨w.heap.size,0,none⟩=some (.pointer (some ⟨R.rb,0,none⟩)):=h2.cell k0 (fun h=>h);clear h2 k0;go_wp2_with fail;refine(qG R 1 _ i d t H2.o HT.o).mono ?_;rintro e w3 ⟨rfl,h3⟩;refine⟨rfl,?_⟩;rw[HR.o];unfold gW;rw[←RQ.o];exact⟨rfl,(HS2.o.trans h3).mono fe⟩
theorem I8 (R:h_) (hl:pF R.l) (w:World) (i d:Nat) (h:bD R w i d):Calls Tryz.prog 79 #[.agg #[fM R.rb 0]] w fun e w'=>e=.returned (.string (pY R.l i))∧bD R w' (ny R.l i) d∧Step (·=R.rb) w w':=by
 obtain⟨t,ht⟩:=bn (tokA R.l i);have HT:=ai h.tok;have RQ:=ai ht;rw[←ht]at HT;obtain⟨w1,hw1⟩:=bn (w.alloc (.cells #[fM R.rb 0] 75));have dF:=nS hw1
 have HB1:=nB hw1
 have HW1:=ai hw1;have H1:=ai (h.quiet dF.o);have HL:=ai hl;have hfd0:∀(a0 a1 a2 a3 a4:Value) (w:World),(Instr.field 111 (.agg #[a0,a1,a2,a3,a4]) 0).run Tryz.prog w=.ok a0 w:=fun _ _ _ _ _ _=>by kernel_rfl
 have hfd1:∀(a0 a1 a2 a3 a4:Value) (w:World),(Instr.field 111 (.agg #[a0,a1,a2,a3,a4]) 1).run Tryz.prog w=.ok a1 w:=fun _ _ _ _ _ _=>by kernel_rfl
 have k0:w1.cell? ⟨w.heap.size,0,none⟩=some (.pointer (some ⟨R.rb,0,none⟩)):=ah HB1.o 0 _ rfl;clear h hw1 hl ht;by_cases hk:t.kind=2
 ·have e1:((t.kind:Int) !=2)=false:=by rw[bne,kX t.kind 2 2 rfl,hk];rfl
  have HO:Hid (pY R.l i=⟨t.text.toArray⟩∧ny R.l i=i+1):=by show _∧_;unfold pY ny;rw[←RQ.o,if_pos hk,if_pos hk];exact⟨rfl,rfl⟩
  have hk0:t.kind≠0:=by omega
  have HK0:=ai hk0;clear hk hk0;go_enter Tryz.func79,Tryz.ntmps79;go_upto_region 1 with fail
  rw[←HW1.o];go_wp2_with fail;refine(l_ R _ i d t H1.o HT.o).mono ?_;rintro e w2 ⟨rfl,h2⟩;have H2:=ai (H1.o.quiet h2);have HS2:=ai (dF.o.trans h2);have k0':w2.cell? ⟨w.heap.size,0,none⟩=some (.pointer (some ⟨R.rb,0,none⟩)):=h2.cell k0 (fun h=>h);clear h2 k0;go_wp2_with fail;refine(z_ R HL.o _ i d t H2.o HT.o HK0.o).mono ?_;rintro e w3 ⟨rfl,hr,h3⟩;have H3:=ai hr;have jA:=ai h3;clear k0' hr h3;go_wp2_with fail;go_ret;exact⟨by rw[HO.o.1];rfl,by rw[HO.o.2];exact H3.o,(HS2.o.mono fe).trans jA.o⟩
 ·have e1:((t.kind:Int) !=2)=true:=by rw[bne,kX t.kind 2 2 rfl,beq_eq_false_iff_ne.2 hk];rfl
  have HO:Hid (pY R.l i=⟨#[]⟩∧ny R.l i=i):=by show _∧_;unfold pY ny;rw[←RQ.o,if_neg hk,if_neg hk];exact⟨rfl,rfl⟩
  clear hk;go_enter Tryz.func79,Tryz.ntmps79;go_upto_region 1 with fail
  rw[←HW1.o];go_wp2_with fail;refine(l_ R _ i d t H1.o HT.o).mono ?_;rintro e w2 ⟨rfl,h2⟩;have H2:=ai (H1.o.quiet h2);have HS2:=ai (dF.o.trans h2);clear h2 k0;go_wp2_with fail;go_ret;exact⟨by rw[HO.o.1];rfl,by rw[HO.o.2];exact H2.o,HS2.o.mono fe⟩
theorem bjQ {α β:Type} {r:dB β} {q:dB α} {f:α→Nat→dB β} {a:α} {j:Nat} (h:r=q.bind f) (h2:q=.ok a j):r=f a j:=by rw[h,h2];rfl
theorem bpQ {α β:Type} {r:dB β} {p:Prop} [Decidable p] {x y:dB α} {f:α→Nat→dB β} (h:r=(if p then x else y).bind f) (h2:p):r=x.bind f:=by rw[h,if_pos h2]
theorem bmQ {α β:Type} {r:dB β} {b:Bool} {x y:dB α} {f:α→Nat→dB β} (h:r=(if b=true then x else y).bind f) (h2:b=false):r=y.bind f:=by rw[h,h2];rfl
end Go.Proofs.YtggjfinekcenpaaGreat
