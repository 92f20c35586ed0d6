/- Pb, TyA, UW, Own, Nma, jh, RelyD -/
import Derived.Test.YtppekkbaoimpgaaGreatPkB
set_option maxRecDepth 100000
set_option maxHeartbeats 8000000
namespace Go.Proofs.YtppekkbaoimpgaaGreat
open Go.RowKit
open Vt
def aJ {α:Type} (R:fV) (d:Nat) (At:World→α→Value→Prop) (r:dO α) (w:World) (e:Ending) (w':World):Prop:=
 match r with
 | .ok a j=>(∃v,e=.returned v∧At w' a v)∧bC R w' j d∧Step (·=R.rb) w w'
 | .err c ln col=>e=.panicked [{v:=.iface 251 (.agg #[ah c,ah ln,ah col]),recovered:=false}]∧Step (·=R.rb) w w'
 | .out=>True
def iC (_:World) (_:Unit) (v:Value):Prop:=v=.tuple #[]
def EC (_:World) (s:ByteArray) (v:Value):Prop:=v=.string s
theorem rX {l:List Tok} {i:Nat} (h:i<l.length):l[i]?=some (tokA l i):=by rw[tokA,List.getD_eq_getElem?_getD,List.getElem?_eq_getElem h];rfl
theorem bC.tok {R:fV} {w:World} {i d:Nat} (h:bC R w i d):R.l[i]?=some (tokA R.l i):=rX h.lt
theorem dw {l:List Tok} {i:Nat} {s:List UInt8} (h:aH l i s=.out):False:=by unfold aH at h;split at h<;>cases h
theorem iF {l:List Tok} {i:Nat} (h:aS l i=.out):False:=by unfold aS at h;split at h<;>cases h
theorem zV {l:List Tok} {i:Nat} (h:jA l i=.out):False:=by unfold jA at h;split at h<;>cases h
theorem kH {n m:Nat} {l:List Tok} {i:Nat} (h:d_ n m l i=.out):False:=by unfold d_ at h;split at h<;>cases h
theorem rF (R:fV) (hl:nK R.l) (s:ByteArray) (w:World) (i d:Nat) (h:bC R w i d) (hs:s.size≤100000):Calls Tryz.prog 110 #[.pointer (some ⟨R.rb,0,none⟩),.string s] w fun e w'=>e=.returned (.bool (bD R.l i s.data.toList))∧bC R w' (iL R.l i s.data.toList) d∧Step (·=R.rb) w w':=
 Xw R hl s w i d _ h h.tok hs
theorem cO (R:fV) (hl:nK R.l) (s:ByteArray) (w:World) (i d:Nat) (h:bC R w i d) (hs:s.size≤100000) (hb:bD R.l i s.data.toList=true):Calls Tryz.prog 110 #[.pointer (some ⟨R.rb,0,none⟩),.string s] w fun e w'=>e=.returned (.bool true)∧bC R w' (i+1) d∧Step (·=R.rb) w w':=by have h1:=rF R hl s w i d h hs;unfold iL at h1;rw[hb,if_pos rfl]at h1;exact h1
theorem dJ (R:fV) (hl:nK R.l) (s:ByteArray) (w:World) (i d:Nat) (h:bC R w i d) (hs:s.size≤100000) (hb:bD R.l i s.data.toList=false):Calls Tryz.prog 110 #[.pointer (some ⟨R.rb,0,none⟩),.string s] w fun e w'=>e=.returned (.bool false)∧bC R w' i d∧Step (·=R.rb) w w':=by have h1:=rF R hl s w i d h hs;unfold iL at h1;rw[hb,if_neg dc]at h1;exact h1
theorem rY (R:fV) (s:ByteArray) (w:World) (i d:Nat) (h:bC R w i d) (hs:s.size≤100000) (b:Bool) (hb:bD R.l i s.data.toList=b):Calls Tryz.prog 158 #[.pointer (some ⟨R.rb,0,none⟩),.string s] w fun e w'=>e=.returned (.bool b)∧Step (fun _=>False) w w':=by rw[←hb];exact MW R s w i d _ h h.tok hs
theorem dH (R:fV) (hl:nK R.l) (g:Nat) (s:ByteArray) (w:World) (i d:Nat) (h:bC R w i d) (hs:s.size≤100000) (hg:w.cell? ⟨g,0,none⟩=some (.string s)):Calls Tryz.prog 111 #[.pointer (some ⟨R.rb,0,none⟩),.slice (some ⟨g,0,none⟩) 1 1] w (aJ R d iC (aH R.l i s.data.toList) w):=
 (Vm R hl g s w i d _ h h.tok hs hg).mono fun e w' hp=>by
  unfold yM at hp
  unfold aH bD
  split at hp
  ·
   rename_i hh
   rw[if_pos hh]
   exact⟨⟨_,hp.1.1,rfl⟩,hp.1.2,hp.2⟩
  ·
   rename_i hh
   rw[if_neg hh]
   exact hp
theorem name_any (R:fV) (hl:nK R.l) (w:World) (i d:Nat) (h:bC R w i d):Calls Tryz.prog 113 #[.pointer (some ⟨R.rb,0,none⟩)] w (aJ R d EC (aS R.l i) w):=
 (Vl R hl w i d _ h h.tok).mono fun e w' hp=>by
  unfold uV at hp
  unfold aS
  split at hp
  ·
   rename_i hh
   rw[if_pos hh]
   exact⟨⟨_,hp.1.1,rfl⟩,hp.1.2,hp.2⟩
  ·
   rename_i hh
   rw[if_neg hh]
   exact hp
theorem lS (R:fV) (w:World) (n m i d:Nat) (h:bC R w i d):Calls Tryz.prog 84 #[.agg #[dY R.rb 0],.int .i64 n,.int .i64 m] w (aJ R d iC (d_ n m R.l i) w):=by
 have H:=ak h;have HT:=ak h.tok;clear h;by_cases hh:m≤n
 ·have hr:d_ n m R.l i=fD 2 R.l i:=by unfold d_;rw[if_pos hh]
  have HR:=ak hr;have e1:decide (m≤n)=true:=decide_eq_true hh;clear hr hh;go_enter Tryz.func84,Tryz.ntmps84;go_wp2_with fail;refine(nZ R 2 _ i d _ (H.o.quiet (bJ.alloc _)) HT.o).mono ?_;rintro e w1 ⟨rfl,h1⟩;refine⟨rfl,?_⟩;rw[HR.o];exact⟨rfl,((bJ.alloc _).trans h1).mono fe⟩
 ·have hr:d_ n m R.l i=.ok () i:=by unfold d_;rw[if_neg hh]
  have HR:=ak hr;have e1:decide (m≤n)=false:=decide_eq_false hh;clear hr hh;go_enter Tryz.func84,Tryz.ntmps84;go_wp2_with fail;refine bodyPost_end (results_none rfl _ _ _) rfl ?_;rw[HR.o];exact⟨⟨_,rfl,rfl⟩,H.o.quiet (bJ.alloc _),bJ.alloc _⟩
theorem uZ (R:fV) (hl:nK R.l) (w:World) (i d:Nat) (h:bC R w i d):Calls Tryz.prog 114 #[.agg #[dY R.rb 0]] w (aJ R d EC (jA R.l i) w):=by
 obtain⟨t,ht⟩:=aU (tokA R.l i);have HT:=ak h.tok;have Om:=ak ht;rw[←ht]at HT;obtain⟨w1,hw1⟩:=aU (w.alloc (.cells #[dY R.rb 0] 97));have cZ:Hid (Step (fun _=>False) w w1):=by show Step _ _ _;rw[hw1];exact bJ.alloc _
 have HB1:Hid (w1.heap[w.heap.size]?=some (.cells #[dY R.rb 0] 97 (0,0))):=by show _=_;rw[hw1];exact aA _ _
 have HW1:=ak hw1;have H1:=ak (h.quiet cZ.o);have HL:=ak hl;have hfd0:∀(a0 a1 a2 a3 a4:Value) (w:World),(Instr.field 157 (.agg #[a0,a1,a2,a3,a4]) 0).run Tryz.prog w=.ok a0 w:=fun _ _ _ _ _ _=>by kernel_rfl
 have hfd1:∀(a0 a1 a2 a3 a4:Value) (w:World),(Instr.field 157 (.agg #[a0,a1,a2,a3,a4]) 1).run Tryz.prog w=.ok a1 w:=fun _ _ _ _ _ _=>by kernel_rfl
 have k0:w1.cell? ⟨w.heap.size,0,none⟩=some (.pointer (some ⟨R.rb,0,none⟩)):=aj HB1.o 0 _ rfl;have HX:Hid ((zS t.text)=⟨t.text.toArray⟩):=rfl;clear h hw1 hl ht;by_cases hk:t.kind=2
 ·have e1:((t.kind:Int) !=2)=false:=by rw[bne,jS t.kind 2 2 rfl,hk];rfl
  have HR:Hid (jA R.l i=.ok (zS t.text) (i+1)):=by show _=_;unfold jA;rw[←Om.o,if_pos hk]
  have hk0:t.kind≠0:=by omega
  have Vo:=ak hk0;clear hk hk0;go_enter Tryz.func114,Tryz.ntmps114;go_upto_region 1 with fail
  rw[←HW1.o];go_wp2_with fail;refine(kP R _ i d t H1.o HT.o).mono ?_;rintro e w2 ⟨rfl,h2⟩;have H2:=ak (H1.o.quiet h2);have HS2:=ak (cZ.o.trans h2);have k0':w2.cell? ⟨w.heap.size,0,none⟩=some (.pointer (some ⟨R.rb,0,none⟩)):=h2.cell k0 (fun h=>h);clear h2 k0;go_wp2_with fail;refine(yL R HL.o _ i d t H2.o HT.o Vo.o).mono ?_;rintro e w3 ⟨rfl,hr,h3⟩;have H3:=ak hr;have eX:=ak h3;clear k0' hr h3;go_wp2_with fail;go_ret;rw[HR.o];exact⟨⟨_,rfl,rfl⟩,H3.o,(HS2.o.mono fe).trans eX.o⟩
 ·have e1:((t.kind:Int) !=2)=true:=by rw[bne,jS t.kind 2 2 rfl,beq_eq_false_iff_ne.2 hk];rfl
  have HR:Hid (jA R.l i=fD 1 R.l i):=by show _=_;unfold jA;rw[←Om.o,if_neg hk]
  clear hk;go_enter Tryz.func114,Tryz.ntmps114;go_upto_region 1 with fail
  rw[←HW1.o];go_wp2_with fail;refine(kP R _ i d t H1.o HT.o).mono ?_;rintro e w2 ⟨rfl,h2⟩;have H2:=ak (H1.o.quiet h2);have HS2:=ak (cZ.o.trans h2);have k0':w2.cell? ⟨w.heap.size,0,none⟩=some (.pointer (some ⟨R.rb,0,none⟩)):=h2.cell k0 (fun h=>h);clear h2 k0;go_wp2_with fail;refine(nZ R 1 _ i d t H2.o HT.o).mono ?_;rintro e w3 ⟨rfl,h3⟩;refine⟨rfl,?_⟩;rw[HR.o];unfold fD;rw[←Om.o];exact⟨rfl,(HS2.o.trans h3).mono fe⟩
theorem Gv (R:fV) (hl:nK R.l) (w:World) (i d:Nat) (h:bC R w i d):Calls Tryz.prog 112 #[.agg #[dY R.rb 0]] w fun e w'=>e=.returned (.string (rE R.l i))∧bC R w' (oz R.l i) d∧Step (·=R.rb) w w':=by
 obtain⟨t,ht⟩:=aU (tokA R.l i);have HT:=ak h.tok;have Om:=ak ht;rw[←ht]at HT;obtain⟨w1,hw1⟩:=aU (w.alloc (.cells #[dY R.rb 0] 97));have cZ:Hid (Step (fun _=>False) w w1):=by show Step _ _ _;rw[hw1];exact bJ.alloc _
 have HB1:Hid (w1.heap[w.heap.size]?=some (.cells #[dY R.rb 0] 97 (0,0))):=by show _=_;rw[hw1];exact aA _ _
 have HW1:=ak hw1;have H1:=ak (h.quiet cZ.o);have HL:=ak hl;have hfd0:∀(a0 a1 a2 a3 a4:Value) (w:World),(Instr.field 157 (.agg #[a0,a1,a2,a3,a4]) 0).run Tryz.prog w=.ok a0 w:=fun _ _ _ _ _ _=>by kernel_rfl
 have hfd1:∀(a0 a1 a2 a3 a4:Value) (w:World),(Instr.field 157 (.agg #[a0,a1,a2,a3,a4]) 1).run Tryz.prog w=.ok a1 w:=fun _ _ _ _ _ _=>by kernel_rfl
 have k0:w1.cell? ⟨w.heap.size,0,none⟩=some (.pointer (some ⟨R.rb,0,none⟩)):=aj HB1.o 0 _ rfl;clear h hw1 hl ht;by_cases hk:t.kind=2
 ·have e1:((t.kind:Int) !=2)=false:=by rw[bne,jS t.kind 2 2 rfl,hk];rfl
  have HO:Hid (rE R.l i=⟨t.text.toArray⟩∧oz R.l i=i+1):=by show _∧_;unfold rE oz;rw[←Om.o,if_pos hk,if_pos hk];exact⟨rfl,rfl⟩
  have hk0:t.kind≠0:=by omega
  have Vo:=ak hk0;clear hk hk0;go_enter Tryz.func112,Tryz.ntmps112;go_upto_region 1 with fail
  rw[←HW1.o];go_wp2_with fail;refine(kP R _ i d t H1.o HT.o).mono ?_;rintro e w2 ⟨rfl,h2⟩;have H2:=ak (H1.o.quiet h2);have HS2:=ak (cZ.o.trans h2);have k0':w2.cell? ⟨w.heap.size,0,none⟩=some (.pointer (some ⟨R.rb,0,none⟩)):=h2.cell k0 (fun h=>h);clear h2 k0;go_wp2_with fail;refine(yL R HL.o _ i d t H2.o HT.o Vo.o).mono ?_;rintro e w3 ⟨rfl,hr,h3⟩;have H3:=ak hr;have eX:=ak h3;clear k0' hr h3;go_wp2_with fail;go_ret;exact⟨by rw[HO.o.1];rfl,by rw[HO.o.2];exact H3.o,(HS2.o.mono fe).trans eX.o⟩
 ·have e1:((t.kind:Int) !=2)=true:=by rw[bne,jS t.kind 2 2 rfl,beq_eq_false_iff_ne.2 hk];rfl
  have HO:Hid (rE R.l i=⟨#[]⟩∧oz R.l i=i):=by show _∧_;unfold rE oz;rw[←Om.o,if_neg hk,if_neg hk];exact⟨rfl,rfl⟩
  clear hk;go_enter Tryz.func112,Tryz.ntmps112;go_upto_region 1 with fail
  rw[←HW1.o];go_wp2_with fail;refine(kP R _ i d t H1.o HT.o).mono ?_;rintro e w2 ⟨rfl,h2⟩;have H2:=ak (H1.o.quiet h2);have HS2:=ak (cZ.o.trans h2);clear h2 k0;go_wp2_with fail;go_ret;exact⟨by rw[HO.o.1];rfl,by rw[HO.o.2];exact H2.o,HS2.o.mono fe⟩
def oC (f:Nat) (l:List Tok) (i d:Nat):dO Ty:=
 if bD l i [105,110,116]then .ok (.mk 1 bU bU false [] [] (tokA l i).line (tokA l i).col) (i+1)
 else if bD l i [98,111,111,108]then .ok (.mk 2 bU bU false [] [] (tokA l i).line (tokA l i).col) (i+1)
 else if bD l i [102,54,52]then .ok (.mk 3 bU bU false [] [] (tokA l i).line (tokA l i).col) (i+1)
 else if bD l i [40]then(aH l (i+1) [41]).bind fun _ j=>.ok (.mk 4 bU bU false [] [] (tokA l i).line (tokA l i).col) j
 else if bD l i [66,111,120]then(aH l (i+1) [60]).bind fun _ j=>(jT f l j d).bind fun a j=>(aH l j [62]).bind fun _ j=>.ok (.mk 6 bU bU false [] [a] (tokA l i).line (tokA l i).col) j
 else if bD l i [38]then(jT f l (iL l (oz l (i+1)) [109,117,116]) d).bind fun a j=>.ok (.mk 7 bU (rE l (i+1)) (bD l (oz l (i+1)) [109,117,116]) [] [a] (tokA l i).line (tokA l i).col) j
 else if bD l i [100,121,110]then(aS l (i+1)).bind fun n j=>if bD l j [43]then(jA l (j+1)).bind fun x j=>.ok (.mk 8 n x false [] [] (tokA l i).line (tokA l i).col) j else .ok (.mk 8 n bU false [] [] (tokA l i).line (tokA l i).col) j
 else(aS l i).bind fun n j=>if bD l j [60]then(m_ f l (j+1) d [] []).bind fun p j=>.ok (.mk 5 n bU false p.1 p.2 (tokA l i).line (tokA l i).col) j else .ok (.mk 5 n bU false [] [] (tokA l i).line (tokA l i).col) j
theorem Fz (f:Nat) (l:List Tok) (i d:Nat):jT (f+1) l i d=if d=40 then fD 2 l i else oC f l i (d+1):=by rw[jT];rfl
def TyV (n0:Nat) (w':World) (a:Ty) (v:Value):Prop:=∃cs:List Value,v=.agg cs.toArray∧iG w' (fun k=>n0≤k) a cs
def oP (f:Nat):Prop:=∀(R:fV) (w:World) (i d:Nat),nK R.l→bC R w i d→d≤40→jT f R.l i d≠.out→
 Calls Tryz.prog 69 #[.agg #[dY R.rb 0]] w (aJ R d (TyV w.heap.size) (jT f R.l i d) w)
def AX (f:Nat) (l:List Tok) (i d:Nat):dO (List ByteArray×List Ty):=if bD l i [60]then m_ f l (i+1) d [] []else .ok ([],[]) i
def ArgV (w w':World) (bt:Nat) (k:Int) (nm:ByteArray) (t:Tok) (p:List ByteArray×List Ty):Prop:=
 ∃vl va xs,w'.heap[bt]?=some (.cells #[ah k,aY nm,aK,aO,vl,va,ah t.line,ah t.col] 46 (0,0))∧(∀s∈p.1,s.size≤9223372036854775807)∧di w' (fun k=>w.heap.size≤k) vl p.1.length (p.1.map .string)∧fP w' (fun k=>w.heap.size≤k) p.2 xs∧di w' (fun k=>w.heap.size≤k) va p.2.length xs
def MZ (R:fV) (d bt:Nat) (k:Int) (nm:ByteArray) (t:Tok) (r:dO (List ByteArray×List Ty)) (w:World) (e:Ending) (w':World):Prop:=
 match r with
 | .ok p j=>e=.returned (.tuple #[])∧ArgV w w' bt k nm t p∧bC R w' j d∧Step (fun k=>k=R.rb∨k=bt) w w'
 | .err c ln col=>e=.panicked [{v:=.iface 251 (.agg #[ah c,ah ln,ah col]),recovered:=false}]∧Step (fun k=>k=R.rb∨k=bt) w w'
 | .out=>True
def Dh (f:Nat):Prop:=∀(R:fV) (w:World) (i d bt:Nat) (k:Int) (nm:ByteArray) (t:Tok),nK R.l→bC R w i d→d≤40→R.rb<bt→w.heap[bt]?=some (.cells #[ah k,aY nm,aK,aO,au,au,ah t.line,ah t.col] 46 (0,0))→AX f R.l i d≠.out→
 Calls Tryz.prog 115 #[.agg #[dY R.rb 0],.pointer (some ⟨bt,0,none⟩)] w (MZ R d bt k nm t (AX f R.l i d) w)
theorem zW {f:Nat} {l:List Tok} {i d:Nat} (h0:bD l i [105,110,116]=false) (h1:bD l i [98,111,111,108]=false) (h2:bD l i [102,54,52]=false) (h3:bD l i [40]=false) (h4:bD l i [66,111,120]=false) (h5:bD l i [38]=false) (h6:bD l i [100,121,110]=false):oC f l i d=(aS l i).bind fun n j=>(AX f l j d).bind fun p j=>.ok (.mk 5 n bU false p.1 p.2 (tokA l i).line (tokA l i).col) j:=by unfold oC;simp only[h0,h1,h2,h3,h4,h5,h6,Bool.false_eq_true,if_false];congr 1;funext n j;unfold AX;split<;>rfl
def Kz (n0 bt:Nat) (w':World) (a:Ty):Prop:=∃cs:List Value,w'.heap[bt]?=some (.cells cs.toArray 46 (0,0))∧iG w' (fun k=>n0≤k) a cs
def aZ {α:Type} (R:fV) (d bt:Nat) (Left:World→α→Prop) (r:dO α) (w:World) (e:Ending) (w':World):Prop:=
 match r with
 | .ok a j=>e=.returned (.tuple #[])∧Left w' a∧bC R w' j d∧Step (fun k=>k=R.rb∨k=bt) w w'
 | .err c ln col=>e=.panicked [{v:=.iface 251 (.agg #[ah c,ah ln,ah col]),recovered:=false}]∧Step (fun k=>k=R.rb∨k=bt) w w'
 | .out=>True
theorem aZ.dK {α:Type} {R:fV} {d bt:Nat} {Left:World→α→Prop} {r:dO α} {w w':World} {e:Ending} {a:α} {j:Nat} (hr:r=.ok a j) (he:e=.returned (.tuple #[])) (hl:Left w' a) (h:bC R w' j d) (hs:Step (fun k=>k=R.rb∨k=bt) w w'):aZ R d bt Left r w e w':=by rw[hr];exact⟨he,hl,h,hs⟩
theorem aZ.aX {α:Type} {R:fV} {d bt:Nat} {Left:World→α→Prop} {r:dO α} {w w':World} {e:Ending} {c ln col:Nat} (hr:r=.err c ln col) (he:e=.panicked [{v:=.iface 251 (.agg #[ah c,ah ln,ah col]),recovered:=false}]) (hs:Step (fun k=>k=R.rb∨k=bt) w w'):aZ R d bt Left r w e w':=by rw[hr];exact⟨he,hs⟩
theorem yO {l:List UInt8} (h:l.length≤20000):(zS l).size≤9223372036854775807:=by show l.toArray.size≤_;simp;omega
theorem fC {R:fV} (hl:nK R.l) {i j:Nat} {s:ByteArray} (hi:i<R.l.length) (h:aS R.l i=.ok s j):s.size≤9223372036854775807:=by
 unfold aS at h;split at h
 ·cases h;exact yO (hl.text _ (List.mem_of_getElem? (rX hi)))
 ·cases h
theorem xK {R:fV} (hl:nK R.l) {i j:Nat} {s:ByteArray} (hi:i<R.l.length) (h:jA R.l i=.ok s j):s.size≤9223372036854775807:=by
 unfold jA at h;split at h
 ·cases h;exact yO (hl.text _ (List.mem_of_getElem? (rX hi)))
 ·cases h
theorem I8 {R:fV} (hl:nK R.l) {i:Nat} (hi:i<R.l.length):(zS (tokA R.l i).text).size≤9223372036854775807:=yO (hl.text _ (List.mem_of_getElem? (rX hi)))
theorem QJ (R:fV) (f:Nat) (ih:oP f) (iha:Dh f) (bp bt:Nat) (w:World) (i d:Nat) (t:Tok) (hl:nK R.l) (h:bC R w i d) (hd:d≤40) (hbp:w.heap[bp]?=some (.cells #[dY R.rb 0] 97 (0,0))) (hbt:w.heap[bt]?=some (.cells #[ah 0,aK,aK,aO,au,au,ah t.line,ah t.col] 46 (0,0))) (hb1:R.rb<bp) (hb2:bp<bt) (ht:t=tokA R.l i) (hno:oC f R.l i d≠.out):Calls Tryz.prog 109 #[.pointer (some ⟨bp,0,none⟩),.pointer (some ⟨bt,0,none⟩)] w (aZ R d bt (Kz w.heap.size bt) (oC f R.l i d) w):=by
 have HL:=ak hl;have H0:=ak h;have HT:=ak ht;have IH:=ak ih;have IHA:=ak iha;obtain⟨r,hr⟩:=aU (oC f R.l i d);have HRR:=ak hr;rw[←hr]at hno⊢;have eH:=ak hno;have hil:=h.lt;have KA:=aI hbt;have HKB:Hid (∀X:World,Step (·=R.rb) w X→X.cell? ⟨bp,0,none⟩=some (.pointer (some ⟨R.rb,0,none⟩))∧X.heap[bt]?=some (.cells #[ah 0,aK,aK,aO,au,au,ah t.line,ah t.col] 46 (0,0))):=by show∀X,_;intro X hX;exact⟨aj (hX.keep hbp om) 0 _ rfl,hX.keep hbt om⟩
 have HBP:Hid (w.cell? ⟨bp,0,none⟩=some (.pointer (some ⟨R.rb,0,none⟩))):=aj hbp 0 _ rfl;obtain⟨p0,-⟩:=HKB.o w bJ;clear ih iha hl h hbp hbt hr hno ht;go_enter Tryz.func109,Tryz.ntmps109;go_wp2_with fail;cases hb0:bD R.l i [105,110,116]with
 |true=>have HB0:=ak hb0;clear hb0;refine(cO R HL.o ⟨#[105,110,116]⟩ _ i d H0.o dc HB0.o).mono ?_;rintro e wy ⟨rfl,wV,hsy⟩;have AY:=ak wV;have uF:Hid (Step (·=R.rb) w wy):=bJ.trans hsy;clear wV hsy p0;obtain⟨p0,hbt⟩:=HKB.o wy uF.o;have BU:=ak hbt;clear hbt;have mQ:=aj BU.o 0 _ rfl;have mV:=aG BU.o 0;go_wp2_with fail;refine bodyPost_end (results_none rfl _ _ _) rfl ?_;have hst:Step (·=bt) wy (wy.setCell ⟨bt,0,none⟩ (.int .i64 1)):=bJ.setCell _ _ iI;refine aZ.dK (a:=.mk 1 bU bU false [] [] (tokA R.l i).line (tokA R.l i).col) (j:=i+1) (by rw[HRR.o];unfold oC;simp only[HB0.o,if_true]) rfl ⟨[.int .i64 1,.string bU,.string bU,.bool false,.slice none 0 0,.slice none 0 0,.int .i64 t.line,.int .i64 t.col],aV BU.o 0 (.int .i64 1),?_⟩ (AY.o.step hst oi) ((uF.o.mono il).trans (hst.mono ir));rw[iG,←HT.o];exact⟨_,_,[],rfl,by decide,by decide,nJ,di.nil _ _ _,by rw[fP],di.nil _ _ _⟩
 |false=>
  have HB0:=ak hb0;clear hb0;refine(dJ R HL.o ⟨#[105,110,116]⟩ _ i d H0.o dc HB0.o).mono ?_;rintro e wn0 ⟨rfl,hrn,hsn⟩;have QK:=ak hrn;have KC:Hid (Step (·=R.rb) w wn0):=bJ.trans hsn;clear hrn hsn p0;obtain⟨p0,-⟩:=HKB.o wn0 KC.o;go_wp2_with fail;cases hb1:bD R.l i [98,111,111,108]with
  |true=>have HB1:=ak hb1;clear hb1;refine(cO R HL.o ⟨#[98,111,111,108]⟩ _ i d QK.o dc HB1.o).mono ?_;rintro e wy ⟨rfl,wV,hsy⟩;have AY:=ak wV;have uF:Hid (Step (·=R.rb) w wy):=KC.o.trans hsy;clear wV hsy p0;obtain⟨p0,hbt⟩:=HKB.o wy uF.o;have BU:=ak hbt;clear hbt;have mQ:=aj BU.o 0 _ rfl;have mV:=aG BU.o 0;go_wp2_with fail;refine bodyPost_end (results_none rfl _ _ _) rfl ?_;have hst:Step (·=bt) wy (wy.setCell ⟨bt,0,none⟩ (.int .i64 2)):=bJ.setCell _ _ iI;refine aZ.dK (a:=.mk 2 bU bU false [] [] (tokA R.l i).line (tokA R.l i).col) (j:=i+1) (by rw[HRR.o];unfold oC;simp only[HB0.o,HB1.o,Bool.false_eq_true,if_false,if_true]) rfl ⟨[.int .i64 2,.string bU,.string bU,.bool false,.slice none 0 0,.slice none 0 0,.int .i64 t.line,.int .i64 t.col],aV BU.o 0 (.int .i64 2),?_⟩ (AY.o.step hst oi) ((uF.o.mono il).trans (hst.mono ir));rw[iG,←HT.o];exact⟨_,_,[],rfl,by decide,by decide,nJ,di.nil _ _ _,by rw[fP],di.nil _ _ _⟩
  |false=>
   have HB1:=ak hb1;clear hb1;refine(dJ R HL.o ⟨#[98,111,111,108]⟩ _ i d QK.o dc HB1.o).mono ?_;rintro e wn1 ⟨rfl,hrn,hsn⟩;have QL:=ak hrn;have KD:Hid (Step (·=R.rb) w wn1):=KC.o.trans hsn;clear hrn hsn p0;obtain⟨p0,-⟩:=HKB.o wn1 KD.o;go_wp2_with fail;cases hb2:bD R.l i [102,54,52]with
   |true=>have HB2:=ak hb2;clear hb2;refine(cO R HL.o ⟨#[102,54,52]⟩ _ i d QL.o dc HB2.o).mono ?_;rintro e wy ⟨rfl,wV,hsy⟩;have AY:=ak wV;have uF:Hid (Step (·=R.rb) w wy):=KD.o.trans hsy;clear wV hsy p0;obtain⟨p0,hbt⟩:=HKB.o wy uF.o;have BU:=ak hbt;clear hbt;have mQ:=aj BU.o 0 _ rfl;have mV:=aG BU.o 0;go_wp2_with fail;refine bodyPost_end (results_none rfl _ _ _) rfl ?_;have hst:Step (·=bt) wy (wy.setCell ⟨bt,0,none⟩ (.int .i64 3)):=bJ.setCell _ _ iI;refine aZ.dK (a:=.mk 3 bU bU false [] [] (tokA R.l i).line (tokA R.l i).col) (j:=i+1) (by rw[HRR.o];unfold oC;simp only[HB0.o,HB1.o,HB2.o,Bool.false_eq_true,if_false,if_true]) rfl ⟨[.int .i64 3,.string bU,.string bU,.bool false,.slice none 0 0,.slice none 0 0,.int .i64 t.line,.int .i64 t.col],aV BU.o 0 (.int .i64 3),?_⟩ (AY.o.step hst oi) ((uF.o.mono il).trans (hst.mono ir));rw[iG,←HT.o];exact⟨_,_,[],rfl,by decide,by decide,nJ,di.nil _ _ _,by rw[fP],di.nil _ _ _⟩
   |false=>
    have HB2:=ak hb2;clear hb2;refine(dJ R HL.o ⟨#[102,54,52]⟩ _ i d QL.o dc HB2.o).mono ?_;rintro e wn2 ⟨rfl,hrn,hsn⟩;have QM:=ak hrn;have KE:Hid (Step (·=R.rb) w wn2):=KD.o.trans hsn;clear hrn hsn p0;obtain⟨p0,-⟩:=HKB.o wn2 KE.o;go_wp2_with fail;cases hb3:bD R.l i [40]with
    |true=>
     have HB3:=ak hb3;clear hb3;refine(cO R HL.o ⟨#[40]⟩ _ i d QM.o dc HB3.o).mono ?_;rintro e wy ⟨rfl,wV,hsy⟩;have AY:=ak wV;have uF:Hid (Step (·=R.rb) w wy):=KE.o.trans hsy;clear wV hsy p0;obtain⟨p0,hbt⟩:=HKB.o wy uF.o;have BU:=ak hbt;clear hbt;go_wp2_with fail;cases hn0:aH R.l (i+1) [41]with
     |out=>exact(dw hn0).elim
     |err c ln col=>have HN0:=ak hn0;clear hn0;refine(dH R HL.o wy.heap.size ⟨#[41]⟩ _ (i+1) d (AY.o.quiet (bJ.alloc _)) dc (aj (aA _ _) 0 _ rfl)).mono ?_;rintro e wq hp;have hp2:aJ R d iC (aH R.l (i+1) [41]) _ e wq:=hp;rw[HN0.o]at hp2;obtain⟨rfl,sq⟩:=hp2;refine⟨rfl,aZ.aX (c:=c) (ln:=ln) (col:=col) (by rw[HRR.o];unfold oC;simp only[HB0.o,HB1.o,HB2.o,HB3.o,HN0.o,Bool.false_eq_true,if_false,if_true,dO.kD]) rfl ?_⟩;exact((uF.o).mono il).trans ((((Step.refl (·=R.rb) _).alloc _).trans sq).mono il)
     |ok u j0=>have HN0:=ak hn0;clear hn0;refine(dH R HL.o wy.heap.size ⟨#[41]⟩ _ (i+1) d (AY.o.quiet (bJ.alloc _)) dc (aj (aA _ _) 0 _ rfl)).mono ?_;rintro e wq0 hp;have hp2:aJ R d iC (aH R.l (i+1) [41]) _ e wq0:=hp;rw[HN0.o]at hp2;obtain⟨⟨v,rfl,rfl⟩,hrq,sq⟩:=hp2;have HRQ0:=ak hrq;have HSQ0:Hid (Step (·=R.rb) wy wq0):=((Step.refl (·=R.rb) _).alloc _).trans sq;clear hrq sq p0 hp;obtain⟨p0,hbt⟩:=HKB.o wq0 (uF.o.trans HSQ0.o);have pW:=ak hbt;have mQ:=aj hbt 0 _ rfl;have mV:=aG hbt 0;clear hbt;go_wp2_with fail;refine bodyPost_end (results_none rfl _ _ _) rfl ?_;have hst:Step (·=bt) wq0 (wq0.setCell ⟨bt,0,none⟩ (.int .i64 4)):=bJ.setCell _ _ iI;refine aZ.dK (a:=.mk 4 bU bU false [] [] (tokA R.l i).line (tokA R.l i).col) (j:=j0) (by rw[HRR.o];unfold oC;simp only[HB0.o,HB1.o,HB2.o,HB3.o,HN0.o,Bool.false_eq_true,if_false,if_true,dO.bind_ok]) rfl ⟨[.int .i64 4,.string bU,.string bU,.bool false,.slice none 0 0,.slice none 0 0,.int .i64 t.line,.int .i64 t.col],aV pW.o 0 (.int .i64 4),?_⟩ (HRQ0.o.step hst oi) (((uF.o.trans HSQ0.o).mono il).trans (hst.mono ir));rw[iG,←HT.o];exact⟨_,_,[],rfl,by decide,by decide,nJ,di.nil _ _ _,by rw[fP],di.nil _ _ _⟩
    |false=>
     have HB3:=ak hb3;clear hb3;refine(dJ R HL.o ⟨#[40]⟩ _ i d QM.o dc HB3.o).mono ?_;rintro e wn3 ⟨rfl,hrn,hsn⟩;have QN:=ak hrn;have I9:Hid (Step (·=R.rb) w wn3):=KE.o.trans hsn;clear hrn hsn p0;obtain⟨p0,-⟩:=HKB.o wn3 I9.o;go_wp2_with fail;cases hb4:bD R.l i [66,111,120]with
     |true=>
      have HB4:=ak hb4;clear hb4;refine(cO R HL.o ⟨#[66,111,120]⟩ _ i d QN.o dc HB4.o).mono ?_;rintro e wy ⟨rfl,wV,hsy⟩;have AY:=ak wV;have uF:Hid (Step (·=R.rb) w wy):=I9.o.trans hsy;clear wV hsy p0;obtain⟨p0,hbt⟩:=HKB.o wy uF.o;have BU:=ak hbt;clear hbt;go_wp2_with fail;cases hn1:aH R.l (i+1) [60]with
      |out=>exact(dw hn1).elim
      |err c ln col=>have jW:=ak hn1;clear hn1;refine(dH R HL.o wy.heap.size ⟨#[60]⟩ _ (i+1) d (AY.o.quiet (bJ.alloc _)) dc (aj (aA _ _) 0 _ rfl)).mono ?_;rintro e wq hp;have hp2:aJ R d iC (aH R.l (i+1) [60]) _ e wq:=hp;rw[jW.o]at hp2;obtain⟨rfl,sq⟩:=hp2;refine⟨rfl,aZ.aX (c:=c) (ln:=ln) (col:=col) (by rw[HRR.o];unfold oC;simp only[HB0.o,HB1.o,HB2.o,HB3.o,HB4.o,jW.o,Bool.false_eq_true,if_false,if_true,dO.kD]) rfl ?_⟩;exact((uF.o).mono il).trans ((((Step.refl (·=R.rb) _).alloc _).trans sq).mono il)
      |ok u j1=>
       have jW:=ak hn1;clear hn1;refine(dH R HL.o wy.heap.size ⟨#[60]⟩ _ (i+1) d (AY.o.quiet (bJ.alloc _)) dc (aj (aA _ _) 0 _ rfl)).mono ?_;rintro e wq1 hp;have hp2:aJ R d iC (aH R.l (i+1) [60]) _ e wq1:=hp;rw[jW.o]at hp2;obtain⟨⟨v,rfl,rfl⟩,hrq,sq⟩:=hp2;have HRQ1:=ak hrq;have HSQ1:Hid (Step (·=R.rb) wy wq1):=((Step.refl (·=R.rb) _).alloc _).trans sq;clear hrq sq p0 hp;obtain⟨p0,hbt⟩:=HKB.o wq1 (uF.o.trans HSQ1.o);have Gw:Hid (Step (·=R.rb) w wq1):=uF.o.trans HSQ1.o;clear hbt;go_wp2_with fail;cases hx0:jT f R.l j1 d with
       |out=>exact absurd (by rw[HRR.o];unfold oC;simp only[HB0.o,HB1.o,HB2.o,HB3.o,HB4.o,jW.o,(ak hx0).out,Bool.false_eq_true,if_false,if_true,dO.bind_ok,dO.rV]) eH.o
       |err c ln col=>have HX0:=ak hx0;clear hx0;refine(IH.o R _ j1 d HL.o HRQ1.o hd (by rw[HX0.o];intro h;cases h)).mono ?_;rintro e wq hp;rw[HX0.o]at hp;obtain⟨rfl,sq⟩:=hp;refine⟨rfl,aZ.aX (c:=c) (ln:=ln) (col:=col) (by rw[HRR.o];unfold oC;simp only[HB0.o,HB1.o,HB2.o,HB3.o,HB4.o,jW.o,HX0.o,Bool.false_eq_true,if_false,if_true,dO.bind_ok,dO.kD]) rfl ?_⟩;exact(Gw.o.mono il).trans (sq.mono il)
       |ok ty0 jx0=>
        have HX0:=ak hx0;clear hx0;refine(IH.o R _ j1 d HL.o HRQ1.o hd (by rw[HX0.o];intro h;cases h)).mono ?_;rintro e Vp hp;rw[HX0.o]at hp;obtain⟨⟨v,rfl,cs,rfl,hty⟩,hrx,hsx⟩:=hp;have HTY0:=ak hty;obtain⟨ty,QO⟩:=aU ty0;have HTE0:=ak QO;obtain⟨k0,gX,lf0,gY,rG,wW,l0,c0⟩:=ty0;rw[iG]at hty;obtain⟨vl0,va0,xs0,rfl,-,-,-,⟨a1,c1,rfl,-⟩,-,⟨a2,c2,rfl,-⟩⟩:=hty;have HRX0:=ak hrx;have HSX0:=ak hsx;clear hrx hsx QO;have Ky:Hid (Step (·=R.rb) w Vp):=Gw.o.trans HSX0.o;obtain⟨-,hbt⟩:=HKB.o Vp Ky.o;obtain⟨w3,hw3⟩:=aU (Vp.alloc (.cells #[ah k0,aY gX,aY lf0,dV gY,.slice a1 rG.length c1,.slice a2 wW.length c2,ah l0,ah c0] 46));(have eX:Hid (Step (fun _=>False) Vp w3):=by show Step _ _ _;rw[hw3];exact bJ.alloc _);(have HK3:Hid (w3.heap[Vp.heap.size]?=some (.cells #[ah k0,aY gX,aY lf0,dV gY,.slice a1 rG.length c1,.slice a2 wW.length c2,ah l0,ah c0] 46 (0,0))):=by show _=_;rw[hw3];exact aA _ _);have KF:=eX.o.keep hbt (fun h=>h);have I_:=ak KF;have mQ:=aj KF 0 _ rfl;have mV:=aG KF 0;have xM:=aj KF 5 _ rfl;have Vq:=aG KF 5;have p0':w3.cell? ⟨bp,0,none⟩=some (.pointer (some ⟨R.rb,0,none⟩)):=(HKB.o w3 (Ky.o.trans (eX.o.mono fe))).1;have hxz:=Ky.o.size;obtain⟨w4,hw4⟩:=aU ((w3.setCell ⟨bt,0,none⟩ (.int .i64 6)).setCell ⟨bt,5,none⟩ (.slice (some ⟨Vp.heap.size,0,none⟩) 1 1));(have iP:Hid (Step (·=bt) w3 w4):=by show Step _ _ _;rw[hw4];exact((Step.refl (·=bt) _).setCell _ _ iI).setCell _ _ iI);(have pX:Hid (w4.heap[bt]?=some (.cells #[ah 6,aK,aK,aO,au,.slice (some ⟨Vp.heap.size,0,none⟩) 1 1,ah t.line,ah t.col] 46 (0,0))):=by show _=_;rw[hw4];exact aV (aV KF 0 (.int .i64 6)) 5 _);have HK4:=ak (iP.o.keep HK3.o om);have nD:Hid (Step (fun k=>k=R.rb∨k=bt) w w4):=((Ky.o.trans (eX.o.mono fe)).mono il).trans (iP.o.mono ir);have HR4:=ak ((HRX0.o.quiet eX.o).step iP.o oi);have p0:w4.cell? ⟨bp,0,none⟩=some (.pointer (some ⟨R.rb,0,none⟩)):=iP.o.cell p0' (fun e=>by have e2:bp=bt:=e;omega);rw[hw3]at mQ mV xM Vq;clear hbt KF p0';(go_upto_region 14 with fail);rw[←hw3,←hw4];clear mQ mV xM Vq hw3 hw4;go_wp2_with fail;cases hn2:aH R.l jx0 [62]with
        |out=>exact(dw hn2).elim
        |err c ln col=>have mZ:=ak hn2;clear hn2;refine(dH R HL.o w4.heap.size ⟨#[62]⟩ _ jx0 d (HR4.o.quiet (bJ.alloc _)) dc (aj (aA _ _) 0 _ rfl)).mono ?_;rintro e wq hp;have hp2:aJ R d iC (aH R.l jx0 [62]) _ e wq:=hp;rw[mZ.o]at hp2;obtain⟨rfl,sq⟩:=hp2;refine⟨rfl,aZ.aX (c:=c) (ln:=ln) (col:=col) (by rw[HRR.o];unfold oC;simp only[HB0.o,HB1.o,HB2.o,HB3.o,HB4.o,jW.o,HX0.o,mZ.o,Bool.false_eq_true,if_false,if_true,dO.bind_ok,dO.kD]) rfl ?_⟩;exact(nD.o).trans ((((Step.refl (·=R.rb) _).alloc _).trans sq).mono il)
        |ok u j2=>
         have mZ:=ak hn2;clear hn2;refine(dH R HL.o w4.heap.size ⟨#[62]⟩ _ jx0 d (HR4.o.quiet (bJ.alloc _)) dc (aj (aA _ _) 0 _ rfl)).mono ?_;rintro e wq2 hp;have hp2:aJ R d iC (aH R.l jx0 [62]) _ e wq2:=hp;rw[mZ.o]at hp2;obtain⟨⟨v,rfl,rfl⟩,hrq,sq⟩:=hp2;have HRQ2:=ak hrq;have HSQ2:Hid (Step (·=R.rb) w4 wq2):=((Step.refl (·=R.rb) _).alloc _).trans sq;clear hrq sq p0 hp;go_wp2_with fail;refine bodyPost_end (results_none rfl _ _ _) rfl ?_;have hsf:Step (·=R.rb) w4 wq2:=HSQ2.o;refine aZ.dK (a:=.mk 6 bU bU false [] [Ty.mk k0 gX lf0 gY rG wW l0 c0] (tokA R.l i).line (tokA R.l i).col) (j:=j2) (by rw[HRR.o];unfold oC;simp only[HB0.o,HB1.o,HB2.o,HB3.o,HB4.o,jW.o,HX0.o,mZ.o,Bool.false_eq_true,if_false,if_true,dO.bind_ok]) rfl ⟨[.int .i64 6,.string bU,.string bU,.bool false,.slice none 0 0,.slice (some ⟨Vp.heap.size,0,none⟩) 1 1,.int .i64 t.line,.int .i64 t.col],hsf.keep pX.o om,?_⟩ HRQ2.o (nD.o.trans (hsf.mono il));rw[iG,←HT.o];have wF:Step (fun k=>k=R.rb∨k=bt) Vp wq2:=((eX.o.mono fe).trans (iP.o.mono ir)).trans (hsf.mono il);refine⟨_,_,[.int .i64 k0,.string gX,.string lf0,.bool gY,.slice a1 rG.length c1,.slice a2 wW.length c2,.int .i64 l0,.int .i64 c0],rfl,by decide,by decide,nJ,di.nil _ _ _,?_,di.new (hsf.keep HK4.o om) dc om⟩;rw[fP];refine⟨_,[],(List.append_nil _).symm,iG.mono (fun k _ hk=> ?_) _ _ (iG.step wF (fun k hk e=> ?_) _ _ HTY0.o),by rw[fP]⟩
         ·have:=Gw.o.size;omega
         ·have:=Gw.o.size;omega
     |false=>
      have HB4:=ak hb4;clear hb4;refine(dJ R HL.o ⟨#[66,111,120]⟩ _ i d QN.o dc HB4.o).mono ?_;rintro e wn4 ⟨rfl,hrn,hsn⟩;have HRN4:=ak hrn;have YR:Hid (Step (·=R.rb) w wn4):=I9.o.trans hsn;clear hrn hsn p0;obtain⟨p0,-⟩:=HKB.o wn4 YR.o;go_wp2_with fail;cases hb5:bD R.l i [38]with
      |true=>
       have zX:=ak hb5;clear hb5;refine(cO R HL.o ⟨#[38]⟩ _ i d HRN4.o dc zX.o).mono ?_;rintro e wy ⟨rfl,wV,hsy⟩;have AY:=ak wV;have uF:Hid (Step (·=R.rb) w wy):=YR.o.trans hsy;clear wV hsy p0;obtain⟨p0,hbt⟩:=HKB.o wy uF.o;have BU:=ak hbt;clear hbt;obtain⟨oj,hoj⟩:=aU (oz R.l (i+1));obtain⟨os,hos⟩:=aU (rE R.l (i+1));obtain⟨mb,hmb⟩:=aU (bD R.l oj [109,117,116]);obtain⟨mj,hmj⟩:=aU (iL R.l oj [109,117,116]);have hos2:os.size≤9223372036854775807:=by
        rw[hos];unfold rE;split
        ·exact I8 HL.o AY.o.lt
        ·decide
       have HOS:=ak hos2;(have HOPT:Hid (∀X,bC R X (i+1) d→Calls Tryz.prog 112 #[.agg #[dY R.rb 0]] X fun e w'=>e=.returned (.string os)∧bC R w' oj d∧Step (·=R.rb) X w'):=by show∀X,_;intro X hX;rw[hoj,hos];exact Gv R HL.o X (i+1) d hX);(have HIS:Hid (∀X,bC R X oj d→Calls Tryz.prog 110 #[.pointer (some ⟨R.rb,0,none⟩),.string ⟨#[109,117,116]⟩] X fun e w'=>e=.returned (.bool mb)∧bC R w' mj d∧Step (·=R.rb) X w'):=by show∀X,_;intro X hX;rw[hmb,hmj];exact rF R HL.o ⟨#[109,117,116]⟩ X oj d hX dc);(have sS:Hid (r=(jT f R.l mj d).bind fun a j=>.ok (.mk 7 bU os mb [] [a] (tokA R.l i).line (tokA R.l i).col) j):=by show _=_;rw[HRR.o,hmj,hmb,hos,hoj];unfold oC;simp only[HB0.o,HB1.o,HB2.o,HB3.o,HB4.o,zX.o,Bool.false_eq_true,if_false,if_true]);clear hoj hos hmb hmj hos2;(go_upto_region 16 with fail);go_cut [] (fun wx=>bC R wx mj d∧wx.heap[bt]?=some (.cells #[ah 7,aK,aY os,dV mb,au,au,ah t.line,ah t.col] 46 (0,0))∧Step (fun k=>k=R.rb∨k=bt) w wx);case first=>
        first
        |(go_region_law (first
            |(go_simp;go_at_call 110;refine(HIS.o _ HRO.o).mono ?_;rintro e9 w9 ⟨rfl,jv,hs9⟩;have HR9:=ak jv;have Vr:Hid (Step (·=R.rb) w w9):=(HSO.o).trans hs9;clear jv hs9;obtain⟨p9,gu⟩:=HKB.o w9 Vr.o;have YS:=ak gu;have mQ:=aj gu 0 _ rfl;have mV:=aG gu 0;have UX:=aj gu 2 _ rfl;have UY:=aG gu 2;have bt3:=aj gu 3 _ rfl;have bz3:=aG gu 3;clear gu)
            |(go_simp;go_at_call 112;refine(HOPT.o _ (AY.o.quiet (bJ.drew))).mono ?_;rintro e8 w8 ⟨rfl,tJ,hs8⟩;have HRO:=ak tJ;have HSO:Hid (Step (·=R.rb) w w8):=uF.o.trans (((Step.refl (·=R.rb) _).drew).trans hs8);clear tJ hs8;obtain⟨p8,-⟩:=HKB.o w8 HSO.o)))
        |fail
        all_goals (
         go_wp2_with fail
         go_meet
         case rel=>exact⟨HR9.o.step ((((Step.refl (·=bt) w9).setCell _ _ iI).setCell _ _ iI).setCell _ _ iI) oi,aV (aV (aV YS.o 0 (.int .i64 7)) 2 (.string os)) 3 (.bool mb),(Vr.o.mono il).trans (((((Step.refl (·=bt) w9).setCell _ _ iI).setCell _ _ iI).setCell _ _ iI).mono ir)⟩)
       case rest=>
        obtain⟨hrc,hbc,hsc⟩:=hcut;obtain⟨w4,rfl⟩:=aU wc;have HR4:=ak hrc;have pX:=ak hbc;have nD:=ak hsc;clear hrc hbc p0;have p0:w4.cell? ⟨bp,0,none⟩=some (.pointer (some ⟨R.rb,0,none⟩)):=hsc.cell HBP.o (fun e=>by have e2:bp=R.rb∨bp=bt:=e;omega);clear hsc;go_wp2_with fail;cases hx1:jT f R.l mj d with
        |out=>exact absurd (by rw[sS.o];simp only[(ak hx1).out,dO.rV]) eH.o
        |err c ln col=>have YT:=ak hx1;clear hx1;refine(IH.o R _ mj d HL.o HR4.o hd (by rw[YT.o];intro h;cases h)).mono ?_;rintro e wq hp;rw[YT.o]at hp;obtain⟨rfl,sq⟩:=hp;refine⟨rfl,aZ.aX (c:=c) (ln:=ln) (col:=col) (by rw[sS.o];simp only[YT.o,dO.kD]) rfl ?_⟩;exact(nD.o).trans (sq.mono il)
        |ok ty1 jx1=>have YT:=ak hx1;clear hx1;refine(IH.o R _ mj d HL.o HR4.o hd (by rw[YT.o];intro h;cases h)).mono ?_;rintro e YU hp;rw[YT.o]at hp;obtain⟨⟨v,rfl,cs,rfl,hty⟩,hrx,hsx⟩:=hp;have HTY1:=ak hty;obtain⟨ty,QO⟩:=aU ty1;have HTE1:=ak QO;obtain⟨k0,gX,lf0,gY,rG,wW,l0,c0⟩:=ty1;rw[iG]at hty;obtain⟨vl0,va0,xs0,rfl,-,-,-,⟨a1,c1,rfl,-⟩,-,⟨a2,c2,rfl,-⟩⟩:=hty;have HRX1:=ak hrx;have YV:=ak hsx;clear hrx hsx QO;obtain⟨w5,hw5⟩:=aU (YU.alloc (.cells #[ah k0,aY gX,aY lf0,dV gY,.slice a1 rG.length c1,.slice a2 wW.length c2,ah l0,ah c0] 46));(have oQ:Hid (Step (fun _=>False) YU w5):=by show Step _ _ _;rw[hw5];exact bJ.alloc _);(have Ol:Hid (w5.heap[YU.heap.size]?=some (.cells #[ah k0,aY gX,aY lf0,dV gY,.slice a1 rG.length c1,.slice a2 wW.length c2,ah l0,ah c0] 46 (0,0))):=by show _=_;rw[hw5];exact aA _ _);have oL:=oQ.o.keep (YV.o.keep pX.o om) (fun h=>h);have Oo:=ak oL;have xM:=aj oL 5 _ rfl;have Vq:=aG oL 5;have hxz:=YV.o.size;have hxy:=nD.o.size;obtain⟨w6,hw6⟩:=aU (w5.setCell ⟨bt,5,none⟩ (.slice (some ⟨YU.heap.size,0,none⟩) 1 1));(have wB:Hid (Step (·=bt) w5 w6):=by show Step _ _ _;rw[hw6];exact bJ.setCell _ _ iI);(have wG:Hid (w6.heap[bt]?=some (.cells #[ah 7,aK,aY os,dV mb,au,.slice (some ⟨YU.heap.size,0,none⟩) 1 1,ah t.line,ah t.col] 46 (0,0))):=by show _=_;rw[hw6];exact aV oL 5 _);have Vs:=ak (wB.o.keep Ol.o om);rw[hw5]at xM Vq;clear oL;go_wp2_with fail;rw[←hw5,←hw6];clear xM Vq hw5 hw6;refine bodyPost_end (results_none rfl _ _ _) rfl ?_;have wF:Step (fun k=>k=R.rb∨k=bt) YU w6:=(oQ.o.mono fe).trans (wB.o.mono ir);refine aZ.dK (a:=.mk 7 bU os mb [] [Ty.mk k0 gX lf0 gY rG wW l0 c0] (tokA R.l i).line (tokA R.l i).col) (j:=jx1) (by rw[sS.o];simp only[YT.o,dO.bind_ok]) rfl ⟨[.int .i64 7,.string bU,.string os,.bool mb,.slice none 0 0,.slice (some ⟨YU.heap.size,0,none⟩) 1 1,.int .i64 t.line,.int .i64 t.col],wG.o,?_⟩ ((HRX1.o.quiet oQ.o).step wB.o oi) (nD.o.trans ((YV.o.mono il).trans wF));rw[iG,←HT.o];refine⟨_,_,[.int .i64 k0,.string gX,.string lf0,.bool gY,.slice a1 rG.length c1,.slice a2 wW.length c2,.int .i64 l0,.int .i64 c0],rfl,by decide,HOS.o,nJ,di.nil _ _ _,?_,di.new Vs.o dc om⟩;rw[fP];exact⟨_,[],(List.append_nil _).symm,iG.mono oi _ _ (iG.step wF oi _ _ HTY1.o),by rw[fP]⟩
      |false=>
       have zX:=ak hb5;clear hb5;refine(dJ R HL.o ⟨#[38]⟩ _ i d HRN4.o dc zX.o).mono ?_;rintro e wn5 ⟨rfl,hrn,hsn⟩;have HRN5:=ak hrn;have YW:Hid (Step (·=R.rb) w wn5):=YR.o.trans hsn;clear hrn hsn p0;obtain⟨p0,-⟩:=HKB.o wn5 YW.o;go_wp2_with fail;cases hb6:bD R.l i [100,121,110]with
       |true=>
        have FB:=ak hb6;clear hb6;refine(cO R HL.o ⟨#[100,121,110]⟩ _ i d HRN5.o dc FB.o).mono ?_;rintro e wy ⟨rfl,wV,hsy⟩;have AY:=ak wV;have uF:Hid (Step (·=R.rb) w wy):=YW.o.trans hsy;clear wV hsy p0;obtain⟨p0,hbt⟩:=HKB.o wy uF.o;have BU:=ak hbt;clear hbt;go_wp2_with fail;cases hn3:aS R.l (i+1)with
        |out=>exact(iF hn3).elim
        |err c ln col=>have qR:=ak hn3;clear hn3;refine(name_any R HL.o _ (i+1) d AY.o).mono ?_;rintro e wq hp;rw[qR.o]at hp;obtain⟨rfl,sq⟩:=hp;refine⟨rfl,aZ.aX (c:=c) (ln:=ln) (col:=col) (by rw[HRR.o];unfold oC;simp only[HB0.o,HB1.o,HB2.o,HB3.o,HB4.o,zX.o,FB.o,qR.o,Bool.false_eq_true,if_false,if_true,dO.kD]) rfl ?_⟩;exact(uF.o.mono il).trans (sq.mono il)
        |ok nm j3=>
         have qR:=ak hn3;have HNS3:=ak (fC HL.o (AY.o).lt hn3);clear hn3;refine(name_any R HL.o _ (i+1) d AY.o).mono ?_;rintro e wq3 hp;rw[qR.o]at hp;obtain⟨⟨v,rfl,rfl⟩,hrq,sq⟩:=hp;have HRQ3:=ak hrq;have HSQ3:Hid (Step (·=R.rb) wy wq3):=sq;clear hrq sq p0;obtain⟨p0,hbt⟩:=HKB.o wq3 (uF.o.trans HSQ3.o);have Gw:Hid (Step (·=R.rb) w wq3):=uF.o.trans HSQ3.o;have lT:=ak hbt;clear hbt;have mQ:=aj lT.o 0 _ rfl;have mV:=aG lT.o 0;have ED:=aj lT.o 1 _ rfl;have EF:=aG lT.o 1;obtain⟨w4,hw4⟩:=aU ((wq3.setCell ⟨bt,0,none⟩ (.int .i64 8)).setCell ⟨bt,1,none⟩ (.string nm));(have iP:Hid (Step (·=bt) wq3 w4):=by show Step _ _ _;rw[hw4];exact(((Step.refl (·=bt) _).setCell _ _ iI).setCell _ _ iI));(have pX:Hid (w4.heap[bt]?=some (.cells #[ah 8,aY nm,aK,aO,au,au,ah t.line,ah t.col] 46 (0,0))):=by show _=_;rw[hw4];exact(aV (aV lT.o 0 (.int .i64 8)) 1 (.string nm)));have nD:Hid (Step (fun k=>k=R.rb∨k=bt) w w4):=(Gw.o.mono il).trans (iP.o.mono ir);have HR4:=ak ((HRQ3.o).step iP.o oi);have p4:w4.cell? ⟨bp,0,none⟩=some (.pointer (some ⟨R.rb,0,none⟩)):=iP.o.cell p0 (fun e=>by have e2:bp=bt:=e;omega);(go_upto_region 20 with fail);rw[←hw4];clear p0 hw4 mQ mV ED EF;have p0:=p4;clear p4;go_wp2_with fail;cases hb7:bD R.l j3 [43]with
         |false=>have IA:=ak hb7;clear hb7;refine(dJ R HL.o ⟨#[43]⟩ _ j3 d HR4.o dc IA.o).mono ?_;rintro e wz ⟨rfl,hrz,hsz⟩;have Ef:=ak hrz;have J6:=ak hsz;clear hrz hsz p0;go_wp2_with fail;refine bodyPost_end (results_none rfl _ _ _) rfl ?_;refine aZ.dK (a:=.mk 8 nm bU false [] [] (tokA R.l i).line (tokA R.l i).col) (j:=j3) (by rw[HRR.o];unfold oC;simp only[HB0.o,HB1.o,HB2.o,HB3.o,HB4.o,zX.o,FB.o,qR.o,IA.o,Bool.false_eq_true,if_false,if_true,dO.bind_ok]) rfl ⟨[.int .i64 8,.string nm,.string bU,.bool false,.slice none 0 0,.slice none 0 0,.int .i64 t.line,.int .i64 t.col],J6.o.keep pX.o om,?_⟩ Ef.o (nD.o.trans (J6.o.mono il));rw[iG,←HT.o];exact⟨_,_,[],rfl,HNS3.o,by decide,nJ,di.nil _ _ _,by rw[fP],di.nil _ _ _⟩
         |true=>
          have IA:=ak hb7;clear hb7;refine(cO R HL.o ⟨#[43]⟩ _ j3 d HR4.o dc IA.o).mono ?_;rintro e wz ⟨rfl,hrz,hsz⟩;have Ef:=ak hrz;have J6:=ak hsz;have Oo:=ak (hsz.keep pX.o om);have HS05:Hid (Step (fun k=>k=R.rb∨k=bt) w wz):=nD.o.trans (hsz.mono il);have p1:=hsz.cell p0 (fun e=>by have e2:bp=R.rb:=e;omega);clear hrz hsz p0;have p0:=p1;clear p1;go_wp2_with fail;cases hn4:jA R.l (j3+1)with
          |out=>exact(zV hn4).elim
          |err c ln col=>have KG:=ak hn4;clear hn4;refine(uZ R HL.o _ (j3+1) d Ef.o).mono ?_;rintro e wq hp;rw[KG.o]at hp;obtain⟨rfl,sq⟩:=hp;refine⟨rfl,aZ.aX (c:=c) (ln:=ln) (col:=col) (by rw[HRR.o];unfold oC;simp only[HB0.o,HB1.o,HB2.o,HB3.o,HB4.o,zX.o,FB.o,qR.o,IA.o,KG.o,Bool.false_eq_true,if_false,if_true,dO.bind_ok,dO.kD]) rfl ?_⟩;exact HS05.o.trans (sq.mono il)
          |ok lf j4=>have KG:=ak hn4;have Qm:=ak (xK HL.o (Ef.o).lt hn4);clear hn4;refine(uZ R HL.o _ (j3+1) d Ef.o).mono ?_;rintro e wq4 hp;rw[KG.o]at hp;obtain⟨⟨v,rfl,rfl⟩,hrq,sq⟩:=hp;have UZ:=ak hrq;have wG:=ak (sq.keep Oo.o om);have HS06:Hid (Step (fun k=>k=R.rb∨k=bt) w wq4):=HS05.o.trans (sq.mono il);clear hrq sq p0;have UX:=aj wG.o 2 _ rfl;have UY:=aG wG.o 2;go_wp2_with fail;refine bodyPost_end (results_none rfl _ _ _) rfl ?_;have hst:Step (·=bt) wq4 (wq4.setCell ⟨bt,2,none⟩ (.string lf)):=bJ.setCell _ _ iI;refine aZ.dK (a:=.mk 8 nm lf false [] [] (tokA R.l i).line (tokA R.l i).col) (j:=j4) (by rw[HRR.o];unfold oC;simp only[HB0.o,HB1.o,HB2.o,HB3.o,HB4.o,zX.o,FB.o,qR.o,IA.o,KG.o,Bool.false_eq_true,if_false,if_true,dO.bind_ok]) rfl ⟨[.int .i64 8,.string nm,.string lf,.bool false,.slice none 0 0,.slice none 0 0,.int .i64 t.line,.int .i64 t.col],aV wG.o 2 (.string lf),?_⟩ (UZ.o.step hst oi) (HS06.o.trans (hst.mono ir));rw[iG,←HT.o];exact⟨_,_,[],rfl,HNS3.o,Qm.o,nJ,di.nil _ _ _,by rw[fP],di.nil _ _ _⟩
       |false=>
        have FB:=ak hb6;clear hb6;refine(dJ R HL.o ⟨#[100,121,110]⟩ _ i d HRN5.o dc FB.o).mono ?_;rintro e wn6 ⟨rfl,hrn,hsn⟩;have YX:=ak hrn;have Vu:Hid (Step (·=R.rb) w wn6):=YW.o.trans hsn;clear hrn hsn p0;obtain⟨p0,-⟩:=HKB.o wn6 Vu.o;go_wp2_with fail;cases Qn:aS R.l i with
        |out=>exact(iF Qn).elim
        |err c ln col=>have YZ:=ak Qn;clear Qn;refine(name_any R HL.o _ i d YX.o).mono ?_;rintro e wq hp;rw[YZ.o]at hp;obtain⟨rfl,sq⟩:=hp;refine⟨rfl,aZ.aX (c:=c) (ln:=ln) (col:=col) (by rw[HRR.o];unfold oC;simp only[HB0.o,HB1.o,HB2.o,HB3.o,HB4.o,zX.o,FB.o,YZ.o,Bool.false_eq_true,if_false,dO.kD]) rfl ?_⟩;exact(Vu.o.mono il).trans (sq.mono il)
        |ok nm j5=>
         have YZ:=ak Qn;have HNS5:=ak (fC HL.o (YX.o).lt Qn);clear Qn;refine(name_any R HL.o _ i d YX.o).mono ?_;rintro e wq5 hp;rw[YZ.o]at hp;obtain⟨⟨v,rfl,rfl⟩,hrq,sq⟩:=hp;have HRQ5:=ak hrq;have HSQ5:Hid (Step (·=R.rb) wn6 wq5):=sq;clear hrq sq p0;obtain⟨p0,hbt⟩:=HKB.o wq5 (Vu.o.trans HSQ5.o);have Gw:Hid (Step (·=R.rb) w wq5):=Vu.o.trans HSQ5.o;have lT:=ak hbt;clear hbt;have mQ:=aj lT.o 0 _ rfl;have mV:=aG lT.o 0;have ED:=aj lT.o 1 _ rfl;have EF:=aG lT.o 1;obtain⟨w4,hw4⟩:=aU ((wq5.setCell ⟨bt,0,none⟩ (.int .i64 5)).setCell ⟨bt,1,none⟩ (.string nm));(have iP:Hid (Step (·=bt) wq5 w4):=by show Step _ _ _;rw[hw4];exact(((Step.refl (·=bt) _).setCell _ _ iI).setCell _ _ iI));(have pX:Hid (w4.heap[bt]?=some (.cells #[ah 5,aY nm,aK,aO,au,au,ah t.line,ah t.col] 46 (0,0))):=by show _=_;rw[hw4];exact(aV (aV lT.o 0 (.int .i64 5)) 1 (.string nm)));have nD:Hid (Step (fun k=>k=R.rb∨k=bt) w w4):=(Gw.o.mono il).trans (iP.o.mono ir);have HR4:=ak ((HRQ5.o).step iP.o oi);have p4:w4.cell? ⟨bp,0,none⟩=some (.pointer (some ⟨R.rb,0,none⟩)):=iP.o.cell p0 (fun e=>by have e2:bp=bt:=e;omega);(go_upto_region 1 with fail);rw[←hw4];clear p0 hw4 mQ mV ED EF;have p0:=p4;clear p4;go_wp2_with fail;(have hbr:R.rb<bt:=by omega);cases hx:AX f R.l j5 d with
         |out=>have HX:=ak hx;exact absurd (by rw[HRR.o,zW HB0.o HB1.o HB2.o HB3.o HB4.o zX.o FB.o,YZ.o,dO.bind_ok,HX.o];rfl) eH.o
         |err c ln col=>have HX:=ak hx;clear hx;refine(IHA.o R _ j5 d bt 5 nm t HL.o HR4.o hd hbr pX.o (by rw[HX.o];intro h;cases h)).mono ?_;rintro e wq hp;rw[HX.o]at hp;obtain⟨rfl,sq⟩:=hp;refine⟨rfl,aZ.aX (c:=c) (ln:=ln) (col:=col) (by rw[HRR.o,zW HB0.o HB1.o HB2.o HB3.o HB4.o zX.o FB.o,YZ.o,dO.bind_ok,HX.o];rfl) rfl ?_⟩;exact nD.o.trans sq
         |ok p jx=>have HX:=ak hx;clear hx;refine(IHA.o R _ j5 d bt 5 nm t HL.o HR4.o hd hbr pX.o (by rw[HX.o];intro h;cases h)).mono ?_;rintro e wx hp;rw[HX.o]at hp;obtain⟨rfl,⟨vl,va,xs,hbx,hsz,hrl,hts,hra⟩,hrx,hsx⟩:=hp;have HP:=ak hsz;have U0:=ak hbx;have UZ:=ak hrl;have HTS:=ak hts;have wX:=ak hra;have u_:=ak hrx;have pF:=ak hsx;clear hsz hbx hrl hts hra hrx hsx p0;go_wp2_with fail;refine bodyPost_end (results_none rfl _ _ _) rfl ?_;have hz:=nD.o.size;refine aZ.dK (a:=.mk 5 nm bU false p.1 p.2 (tokA R.l i).line (tokA R.l i).col) (j:=jx) (by rw[HRR.o,zW HB0.o HB1.o HB2.o HB3.o HB4.o zX.o FB.o,YZ.o,dO.bind_ok,HX.o];rfl) rfl ⟨[.int .i64 5,.string nm,.string bU,.bool false,vl,va,.int .i64 t.line,.int .i64 t.col],U0.o,?_⟩ u_.o (nD.o.trans pF.o);rw[iG,←HT.o];exact⟨_,_,xs,rfl,HNS5.o,by decide,HP.o,UZ.o.mono oi,fP.mono oi _ _ HTS.o,wX.o.mono oi⟩
theorem Tryz.fM:(Tryz.prog.info? 46).map (·.size)=some 8:=by kernel_rfl
theorem AZ:Enters 109:=fun xs w=>by go_simp
theorem iG.parts {w:World} {P:Nat→Prop} {ty:Ty} {cs:List Value} (h:iG w P ty cs):∃(k:Int) (nm lf:ByteArray) (m:Bool) (a1:Option Addr) (n1 c1:Nat) (a2:Option Addr) (n2 c2:Nat) (l c:Int),cs=[.int .i64 k,.string nm,.string lf,.bool m,.slice a1 n1 c1,.slice a2 n2 c2,.int .i64 l,.int .i64 c]:=by obtain⟨k0,gX,lf0,gY,rG,wW,l0,c0⟩:=ty;rw[iG]at h;obtain⟨vl0,va0,xs0,rfl,-,-,-,⟨a1,c1,rfl,-⟩,-,⟨a2,c2,rfl,-⟩⟩:=h;exact⟨_,_,_,_,_,_,_,_,_,_,_,_,rfl⟩
theorem QR (f:Nat) (ih:oP f) (iha:Dh f):oP (f+1):=by
 intro R w i d hl h hd hno;have hmf:∀(fn:Fn) (first cap:Array Value) (w:World),(Instr.makeFunc fn first cap).run Tryz.prog w=.ok (.func fn first cap) w:=fun _ _ _ _=>rfl;have HL:=ak hl;have H0:=ak h;have eH:=ak hno;obtain⟨r,hr⟩:=aU (jT (f+1) R.l i d);have HRR:=ak hr;rw[←hr];obtain⟨t,ht⟩:=aU (tokA R.l i);have HT:=ak ht;have pY:=aI h.blk;obtain⟨w1,hw1⟩:=aU ((w.alloc (.cells #[dY R.rb 0] 97)).alloc (.cells #[ah 0,bP,bP,aO,au,au,ah 0,ah 0] 46));have cZ:Hid (Step (fun _=>False) w w1):=by show Step _ _ _;rw[hw1];exact(bJ.alloc _).alloc _
 have jL:Hid (w1.heap[w.heap.size]?=some (.cells #[dY R.rb 0] 97 (0,0))):=by show _=_;rw[hw1];exact aN (aA _ _)
 have jW:Hid (w1.heap[w.heap.size+1]?=some (.cells #[ah 0,bP,bP,aO,au,au,ah 0,ah 0] 46 (0,0))):=by show _=_;rw[hw1];exact dX _ _ _
 have HW1:=ak hw1;have H1:=ak (h.quiet cZ.o);have p0:w1.cell? ⟨w.heap.size,0,none⟩=some (.pointer (some ⟨R.rb,0,none⟩)):=aj jL.o 0 _ rfl;have HAT:=ak (at_at R w1 i d t H1.o (by rw[ht];exact H1.o.tok));clear hl h hno hr hw1 ht;go_enter Tryz.func69,Tryz.ntmps69;go_upto_region 1 with fail
 rw[←HW1.o];go_wp2_with fail;refine HAT.o.mono ?_;rintro e w2 ⟨rfl,h2⟩;have HS2:=ak (cZ.o.trans h2);have HP2:=ak (h2.keep jL.o (fun h=>h));have mZ:=ak (h2.keep jW.o (fun h=>h));have hn1:=aI mZ.o;obtain⟨w3,hw3⟩:=aU (w2.alloc (.cells #[ah 0,aK,aK,aO,au,au,ah t.line,ah t.col] 46));have iM:Hid (Step (fun _=>False) w2 w3):=by show Step _ _ _;rw[hw3];exact bJ.alloc _
 have HB3:Hid (w3.heap[w2.heap.size]?=some (.cells #[ah 0,aK,aK,aO,au,au,ah t.line,ah t.col] 46 (0,0))):=by show _=_;rw[hw3];exact aA _ _
 have eX:=ak (HS2.o.trans iM.o);have wH:=ak (iM.o.keep HP2.o (fun h=>h));have qR:=ak (iM.o.keep mZ.o (fun h=>h));have H3:=ak (H0.o.quiet eX.o);have HW3:=ak hw3;clear h2 hw3 p0;have p0:w3.cell? ⟨w.heap.size,0,none⟩=some (.pointer (some ⟨R.rb,0,none⟩)):=aj wH.o 0 _ rfl;go_upto_region 2 with fail
 have hx3:w2.alloc (.cells #[ah 0,bP,bP,aO,au,au,ah t.line,ah t.col] 46)=w3:=HW3.o.symm;rw[hx3];clear hx3;go_wp2_with fail;by_cases QS:d=40
 ·refine(xI R _ [.pointer (some ⟨w.heap.size,0,none⟩),.pointer (some ⟨w2.heap.size,0,none⟩)] w3 i d t H3.o (by rw[HT.o];exact H3.o.tok) QS).mono ?_;rintro e w4 ⟨rfl,h4⟩;refine⟨rfl,?_⟩;rw[HRR.o,Fz,if_pos QS,fD,←HT.o];exact⟨rfl,(eX.o.trans h4).mono fe⟩
 ·have rM:Hid (r=oC f R.l i (d+1)):=by show _=_;rw[HRR.o,Fz,if_neg QS]
  have hnb:oC f R.l i (d+1)≠.out:=fun e=>eH.o (by rw[←HRR.o,rM.o,e]);have Ja:Hid (∀X,bC R X i (d+1)→Step (·=R.rb) w3 X→Calls Tryz.prog 109 #[.pointer (some ⟨w.heap.size,0,none⟩),.pointer (some ⟨w2.heap.size,0,none⟩)] X (aZ R (d+1) w2.heap.size (Kz X.heap.size w2.heap.size) (oC f R.l i (d+1)) X)):=by show∀X,_;intro X hX hs;exact QJ R f ih iha w.heap.size w2.heap.size X i (d+1) t HL.o hX om (hs.keep wH.o om) (hs.keep HB3.o om) om om HT.o hnb
  have Jb:d<40:=by omega
  cases hb:oC f R.l i (d+1)with
  |out=>exact absurd hb hnb
  |err c ln col=>
   have HB:=ak hb;clear hb;refine(Df R _ [.pointer (some ⟨w.heap.size,0,none⟩),.pointer (some ⟨w2.heap.size,0,none⟩)] w3 i d (Q:=fun X=>Step (fun k=>k=R.rb∨k=w2.heap.size) w3 X) (hk:=AZ) (h:=H3.o) (hd:=Jb) (hby:=fun X hX hs=> ?_) (es:=[{v:=.iface 251 (.agg #[ah c,ah ln,ah col]),recovered:=false}])).mono ?_
   ·refine(Ja.o X hX hs).mono ?_;intro e X2 hp;rw[HB.o]at hp;exact⟨hp.1,(hs.mono il).trans hp.2⟩
   ·rintro e w4 ⟨rfl,h4⟩;refine⟨rfl,?_⟩;rw[rM.o,HB.o];exact⟨rfl,(eX.o.mono fe).then h4 oi⟩
  |ok ty j=>
   have HB:=ak hb;clear hb;refine(Gu R _ [.pointer (some ⟨w.heap.size,0,none⟩),.pointer (some ⟨w2.heap.size,0,none⟩)] w3 i d (fun i' X=>i'=j∧Kz w3.heap.size w2.heap.size X ty∧Step (fun k=>k=R.rb∨k=w2.heap.size) w3 X) AZ H3.o Jb (fun X hX hs=> ?_)).mono ?_
   ·refine(Ja.o X hX hs).mono ?_;intro e X2 hp;rw[HB.o]at hp;obtain⟨he,⟨cs,hc,ht⟩,hr,hs2⟩:=hp;exact⟨he,j,hr,rfl,⟨cs,hc,iG.mono (fun k _ hk=>by have:=hs.size;omega) _ _ ht⟩,(hs.mono il).trans hs2⟩
   ·rintro e w4 ⟨rfl,i',X,⟨rfl,⟨cs,hc,hty⟩,hsx⟩,hr4,hs4⟩;have hlt3:=aI HB3.o;have hb4:=hs4.keep hc om;have Gx:=iG.step hs4 oi _ _ hty;have KH:Step (fun k=>k=R.rb∨k=w2.heap.size) w3 w4:=hsx.trans (hs4.mono il);obtain⟨k0,gX,lf0,gY,a1,n1,c1,a2,n2,c2,l0,c0,rfl⟩:=Gx.parts;have HR4:=ak hr4;have QT:=ak Gx;have wI:=ak KH;have HB4:=ak hb4;have KG:=ak (KH.keep qR.o om);(have iH:Hid (∀(jj:Nat) v,[Value.int .i64 k0,aY gX,aY lf0,dV gY,.slice a1 n1 c1,.slice a2 n2 c2,ah l0,ah c0][jj]?=some v→w4.cell? ⟨w2.heap.size,0+jj,none⟩=some v):=by show∀jj v,_;intro jj v hv;rw[Nat.zero_add];exact aj HB4.o jj v oJ);have dS:=ak (iG.one Gx);have hsz3:=iM.o.size;clear hc hty hsx hr4 hs4 hb4 Gx KH p0;go_wp2_with (first
     |(refine ay rfl 46 (.tmp 3) rfl w2.heap.size 0 rfl [.int .i64 k0,.string gX,.string lf0,.bool gY,.slice a1 n1 c1,.slice a2 n2 c2,.int .i64 l0,.int .i64 c0] _ iH.o Tryz.underlying46 rfl Tryz.fM ?_)
     |(refine aC (w:=w4) rfl 46 (.tmp 2) (.tmp 12) rfl (w.heap.size+1) 0 46 _ [.int .i64 k0,.string gX,.string lf0,.bool gY,.slice a1 n1 c1,.slice a2 n2 c2,.int .i64 l0,.int .i64 c0] rfl rfl KG.o Tryz.fM (Nat.le_of_eq rfl) dS.o ?_;intro w5 hb5 hst5))
    have xN:w5.heap[w.heap.size+1]?=some (.cells [Value.int .i64 k0,aY gX,aY lf0,dV gY,.slice a1 n1 c1,.slice a2 n2 c2,ah l0,ah c0].toArray 46 (0,0)):=hb5;refine bodyPost_ret (aW rfl _ (w.heap.size+1) 46 _ _ rfl xN Tryz.underlying46 rfl Tryz.fM) rfl ?_;rw[rM.o,HB.o];refine⟨⟨_,rfl,_,rfl,iG.mono (fun k _ hk=>by have:=eX.o.size;omega) _ _ (iG.step hst5 oi _ _ QT.o)⟩,HR4.o.step hst5 oi,?_⟩;have Y0:Step (·=R.rb) w w4:=(eX.o.mono fe).then wI.o oi;exact Y0.then hst5 oi
theorem QU {w w':World} {base size n g c:Nat} {e:TypeId} {xs zs cs:List Value} {cur:Array Value} (h:w.ownsRow base e size (.slice (some ⟨g,0,none⟩) (n+1) c) (n+1) (xs++zs)) (hx:xs.length=n*size) (hc:cs.length=size) (hg:w.heap[g]?=some (.cells cur e (0,0))) (hb:w'.heap[g]?=some (.cells (cur.toList.take (n*size)++(cs++cur.toList.drop (n*size+cs.length))).toArray e (0,0))):w'.ownsRow base e size (.slice (some ⟨g,0,none⟩) (n+1) c) (n+1) (xs++cs):=by
 rcases h.2 with⟨h1,-⟩|⟨g',cap,cur',h1,h2,h3,h4,h5,h6,h7⟩
 ·cases h1
 ·cases h1;rw[hg]at h3;cases h3;have hsz:(n+1)*size=n*size+size:=by rw[Nat.add_mul,Nat.one_mul]
  have hcap:(n+1)*size≤c*size:=Nat.mul_le_mul_right _ h4;have hct:(cur.toList.take (n*size)).length=n*size:=by simp;omega
  have hxt:cur.toList.take (n*size)=xs:=by (have h8:(cur.toList.take ((n+1)*size)).take (n*size)=(xs++zs).take (n*size):=by rw[h7]);rw[List.take_take,Nat.min_eq_left om]at h8;rw[h8,←hx,List.take_left]
  refine⟨by rw[List.length_append,hx,hc,hsz],.inr ⟨g,c,_,rfl,h2,hb,h4,h5,?_,?_⟩⟩
  ·simp;omega
  ·show(cur.toList.take (n*size)++(cs++cur.toList.drop (n*size+cs.length))).take ((n+1)*size)=xs++cs;rw[←List.append_assoc,List.take_append_of_le_length (by rw[List.length_append,hct,hc];omega),List.take_of_length_le (by rw[List.length_append,hct,hc];omega),hxt]
theorem tK {w:World} {base size n:Nat} {e:TypeId} {v:Value} {xs:List Value} (h:w.ownsRow base e size v n xs) (hn:0<n):∃g c cur,v=.slice (some ⟨g,0,none⟩) n c∧base≤g∧w.heap[g]?=some (.cells cur e (0,0))∧n*size≤cur.size:=by
 rcases h.2 with⟨-,h2⟩|⟨g,cap,cur,h1,h2,h3,h4,h5,h6,h7⟩
 ·omega
 ·exact⟨g,cap,cur,h1,h2,h3,by rw[h6];exact Nat.mul_le_mul_right _ h4⟩
def rZ {α:Type} (p:α→Bool) (l:List α):Int:=match l.findIdx? p with|some i=>i|none=> -1
theorem zY {α:Type} {p:α→Bool} {l:List α} (h:∀x∈l,p x=false):rZ p l= -1:=by unfold rZ;rw[List.findIdx?_eq_none_iff.2 h]
theorem zZ {α:Type} {p:α→Bool} {l:List α} {i:Nat} {x:α} (hx:l[i]?=some x) (hp:p x=true) (h:∀j,j<i→∀y,l[j]?=some y→p y=false):rZ p l=i:=by obtain⟨hi,rfl⟩:=List.getElem?_eq_some_iff.1 hx;unfold rZ;rw[List.findIdx?_eq_some_iff_getElem.2 ⟨hi,hp,fun j hj=>by rw[h j hj _ (List.getElem?_eq_getElem om)];simp⟩]
theorem Gy {α:Type} (p:α→Bool) (l:List α):decide (0≤rZ p l)=l.any p:=by
 unfold rZ;cases h:l.findIdx? p with
 |none=>
  have:=List.findIdx?_eq_none_iff.1 h;have h2:l.any p=false:=by rw[List.any_eq_false];intro x hx;simp[this x hx]
  rw[h2];rfl
 |some i=>obtain⟨hi,hp,_⟩:=List.findIdx?_eq_some_iff_getElem.1 h;have h2:l.any p=true:=List.any_eq_true.2 ⟨l[i],List.getElem_mem hi,hp⟩;rw[h2];simp
def eqS (x y:ByteArray):Bool:=x.data.toList==y.data.toList
theorem kQ {x y:ByteArray}:eqS x y=true↔x=y:=by unfold eqS;rw[beq_iff_eq];exact⟨fun h=>ByteArray.ext (Array.toList_inj.1 h),fun h=>by rw[h]⟩
theorem vg {x y:ByteArray} {b:Bool} (h:(x.toList==y.toList)=b):eqS x y=b:=by rw[Lib.toList_data,Lib.toList_data]at h;exact h
theorem rH {x:ByteArray} {l:List UInt8} {b:Bool} (h:(x.toList==l)=b):eqS x ⟨l.toArray⟩=b:=by rw[Lib.toList_data]at h;exact h
theorem qU (l:List ByteArray) (i:Nat) (x:ByteArray) (h:l[i]?=some x):(l.map Value.string)[i]?=some (.string x):=by simp[h]
theorem KI (P:Nat→Prop) (x:ByteArray) (l:List ByteArray) (v:Value) (w:World) (h:di w P v l.length (l.map .string)):Calls Tryz.prog 156 #[v,.string x] w fun e w'=>e=.returned (.int .i64 (rZ (eqS x) l))∧Step (fun _=>False) w w':=by
 obtain⟨a,c,rfl,hcl,hcm,-,hr⟩:=h;have HR:=ak hr;clear hr;go_enter Tryz.func156,Tryz.ntmps156;go_wp2_with fail;go_loopg [5,8] l.length (fun gg _ s8 wr=>∃i:Nat,s8=.int .i64 i∧i≤l.length∧l.length-i≤gg∧(∀j,j<i→∀y,l[j]?=some y→eqS x y=false)∧Step (fun _=>False) w wr);case atStart=>exact⟨0,rfl,Nat.zero_le _,by omega,fun j hj=>absurd hj (Nat.not_lt_zero _),Step.refl _ _⟩
 case round=>
  obtain⟨i,rfl,hi,hgg,hno,hst⟩:=hrel;have eH:=ak hno;clear hno;by_cases hlt:i<l.length
  ·obtain⟨y,hx⟩:∃y,l[i]?=some y:=⟨l[i],List.getElem?_eq_getElem hlt⟩;obtain⟨g,o,rfl,-,-,hcell⟩:=HR.o om;have f0:=hst.cell (hcell i _ (qU l i y hx)) (fun h=>h);have HX:=ak hx;clear hcell hx;cases hp:(x.toList==y.toList)with
   |true=>have HI:=ak (zZ (p:=eqS x) HX.o (vg hp) eH.o);go_wp2_with fail;go_ret;exact⟨v_ HI.o.symm,hst⟩
   |false=>
    have HP:=ak (vg hp);go_wp2_with fail;go_roundg (gk-1);case rel=>
     refine⟨i+1,by go_num,by omega,by omega,fun j hj y hy=> ?_,hst⟩;rcases Nat.lt_succ_iff_lt_or_eq.1 hj with h|rfl
     ·exact eH.o j h y hy
     ·rw[HX.o]at hy;cases hy;exact HP.o
    case measure=>omega
  ·(have HI:Hid (rZ (eqS x) l= -1):=zY fun y hy=>by obtain⟨j,hj⟩:=List.getElem?_of_mem hy;exact eH.o j (by have:=(List.getElem?_eq_some_iff.1 hj).1;omega) y hj);go_wp2;go_ret;exact⟨v_ HI.o.symm,hst⟩
theorem jM (P:Nat→Prop) (x:ByteArray) (l:List ByteArray) (v:Value) (w:World) (h:di w P v l.length (l.map .string)):Calls Tryz.prog 104 #[v,.string x] w fun e w'=>e=.returned (.bool (l.any (eqS x)))∧Step (fun _=>False) w w':=by
 have H:=ak h;have Xy:=ak (Gy (eqS x) l);have QV:=ak (KI P x l v w H.o);obtain⟨b,hb⟩:=aU (l.any (eqS x));obtain⟨ix,hix⟩:=aU (rZ (eqS x) l);rw[←hb,←hix]at Xy;rw[←hb];rw[←hix]at QV;clear h hb hix;go_enter Tryz.func104,Tryz.ntmps104;go_wp2_with fail;refine QV.o.mono ?_;rintro e w1 ⟨rfl,h1⟩;have hge:=Xy.o;cases b with
 |true=>have h2:=of_decide_eq_true hge;go_wp2;go_ret;exact⟨rfl,h1⟩
 |false=>have h2:=of_decide_eq_false hge;go_wp2;go_ret;exact⟨rfl,h1⟩
structure yP (El:World→(Nat→Prop)→List Value→Prop):Prop where
 step:∀(w w':World) (P S:Nat→Prop) (cs:List Value),Step S w w'→(∀q,P q→¬S q)→El w P cs→El w' P cs
 mono:∀(w:World) (P P':Nat→Prop) (cs:List Value),(∀q,q<w.heap.size→P q→P' q)→El w P cs→El w P' cs
structure jh (R:fV) (j1 j2 d:Nat) (w0:World) (ic ib ia iy sx iz bt:Nat) (p_:Value→Obj) (base:Nat) (e:TypeId) (size n:Nat) (va:Value) (xs zs:List Value) (El:World→(Nat→Prop)→List Value→Prop) (vals:List (Option Value))
  (L:Nat→Bool) (V:Nat→Value) (X:World):Prop where
 gZ:∀(i:Nat) v,vals[i]?=some (some v)→L i=true→V i=v
 st:Step (fun q=>q=R.rb∨q=bt∨va.ownBlock=some q) w0 X
 rd:bC R X (if L ic then j2 else j1) d
 el:L ic=true→∃cs:List Value,V ic=.agg cs.toArray∧El X (fun q=>w0.heap.size≤q∧(L ia=true→(V ia).ownBlock≠some q)) cs
 bl:L ib=true→L ia=false→∃zb,V ib=.slice (some ⟨zb,0,none⟩) 1 1∧w0.heap.size≤zb∧X.heap[zb]?=some (.cells zs.toArray e (0,0))
 old:L ia=false→X.ownsRow base e size va n xs
 new:L ia=true→∃g c,V ia=.slice (some ⟨g,0,none⟩) (n+1) c∧(va.ownBlock=some g∨w0.heap.size≤g)∧∃ys,X.ownsRow base e size (V ia) (n+1) (xs++ys)∧ys.length=size∧(L sx=true→V ic=.agg ys.toArray)
 blk:X.heap[bt]?=some (p_ (if L iz then V ia else va))
 pa:L ia=true→∀i,i<ia→L i=true
 ps:L sx=true→L ia=true
 pz:L iz=true→L ia=true
 ix:L iy=true→L ia=true∧∀g c,V ia=.slice (some ⟨g,0,none⟩) (n+1) c→V iy=.pointer (some ⟨g,n*size,none⟩)
structure wY (R:fV) (w0:World) (ic ib ia iy sx iz bt:Nat) (base size n:Nat) (va:Value) (xs zs:List Value):Prop where
 hc:ic<ia
 hb:ib<ia
 cb:ic≠ib
 hs:ia<sx
 hy:ia<iy
 ys:sx≠iy
 yz:iz≠iy
 hz:ia<iz
 sz:sx≠iz
 rb:R.rb<bt
 bt:bt<base
 bw:base≤w0.heap.size
 own:∀q,va.ownBlock=some q→base≤q∧q<w0.heap.size
 xs:xs.length=n*size
 zs:zs.length=size
section
variable {R : fV} {j1 j2 d : Nat} {w0 : World} {ic ib ia iy sx iz bt : Nat} {p_ : Value → Obj} {base : Nat} {e : TypeId} {size n : Nat} {va : Value} {xs zs : List Value} {El : World → (Nat → Prop) → List Value → Prop} {vals : List (Option Value)} {L : Nat → Bool} {V : Nat → Value} {X X' : World}
theorem aB (L:Nat→Bool) {i j:Nat} (h:j≠i):dP L i j=L j:=by unfold dP;rw[if_neg h]
theorem jE (L:Nat→Bool) (i:Nat):dP L i i=true:=by unfold dP;rw[if_pos rfl]
theorem bV (V:Nat→Value) {i j:Nat} (v:Value) (h:j≠i):iW V i v j=V j:=by unfold iW;rw[if_neg h]
theorem kR (V:Nat→Value) (i:Nat) (v:Value):iW V i v i=v:=by unfold iW;rw[if_pos rfl]
theorem iO (h:∀(i:Nat) v,vals[i]?=some (some v)→L i=true→V i=v) (i:Nat) (v:Value) (hv:∀u,vals[i]?=some (some u)→v=u):∀(k:Nat) u,vals[k]?=some (some u)→dP L i k=true→iW V i v k=u:=by
 intro k u hu hL;by_cases e:k=i
 ·subst e;rw[kR];exact hv u hu
 ·rw[bV _ _ e];rw[aB _ e]at hL;exact h k u hu hL
theorem FC (h:L ia=true→∀i,i<ia→L i=true) (k:Nat) (hk:k≠ia):dP L k ia=true→∀i,i<ia→dP L k i=true:=by
 intro hL i hi;rw[aB _ (Ne.symm hk)]at hL;by_cases e:i=k
 ·rw[e,jE]
 ·rw[aB _ e];exact h hL i hi
theorem jh.up (h:jh R j1 j2 d w0 ic ib ia iy sx iz bt p_ base e size n va xs zs El vals L V X) (i:Nat) (h1:i≠ic) (h2:i≠ib) (h3:i≠ia) (h4:i≠sx) (h5:i≠iz) (h6:i≠iy) {v:Value} (hv:vals[i]?=some (some v)):jh R j1 j2 d w0 ic ib ia iy sx iz bt p_ base e size n va xs zs El vals (dP L i) (iW V i v) X:=by
 refine⟨iO h.gZ i v (fun u hu=>by rw[hv]at hu;cases hu;rfl),h.st,?_,?_,?_,?_,?_,?_,FC h.pa i h3,?_,?_,?_⟩
 ·rw[aB _ (Ne.symm h1)];exact h.rd
 ·rw[aB _ (Ne.symm h1),aB _ (Ne.symm h3),bV _ _ (Ne.symm h1),bV _ _ (Ne.symm h3)];exact h.el
 ·rw[aB _ (Ne.symm h2),aB _ (Ne.symm h3),bV _ _ (Ne.symm h2)];exact h.bl
 ·rw[aB _ (Ne.symm h3)];exact h.old
 ·rw[aB _ (Ne.symm h3),bV _ _ (Ne.symm h3),aB _ (Ne.symm h4),bV _ _ (Ne.symm h1)];exact h.new
 ·rw[aB _ (Ne.symm h5),bV _ _ (Ne.symm h3)];exact h.blk
 ·rw[aB _ (Ne.symm h4),aB _ (Ne.symm h3)];exact h.ps
 ·rw[aB _ (Ne.symm h5),aB _ (Ne.symm h3)];exact h.pz
 ·rw[aB _ (Ne.symm h6),aB _ (Ne.symm h3),bV _ _ (Ne.symm h3),bV _ _ (Ne.symm h6)];exact h.ix
theorem jh.QW (h:jh R j1 j2 d w0 ic ib ia iy sx iz bt p_ base e size n va xs zs El vals L V X) {i:Nat} (hi:i<ia) (hL:L i=false):L ia=false:=by
 cases e:L ia with
 |false=>rfl
 |true=>rw[h.pa e i hi]at hL;cases hL
theorem jh.Gz (h:jh R j1 j2 d w0 ic ib ia iy sx iz bt p_ base e size n va xs zs El vals L V X) (hL:L ia=false):L iz=false∧L sx=false∧L iy=false:=by
 refine⟨?_,?_,?_⟩
 ·cases e:L iz with
  |false=>rfl
  |true=>rw[h.pz e]at hL;cases hL
 ·cases e:L sx with
  |false=>rfl
  |true=>rw[h.ps e]at hL;cases hL
 ·cases e:L iy with
  |false=>rfl
  |true=>rw[(h.ix e).1]at hL;cases hL
theorem jh.zero (hs:Step (fun _=>False) w0 X) (hr:bC R w0 j1 d) (hown:w0.ownsRow base e size va n xs) (hb:w0.heap[bt]?=some (p_ va)):jh R j1 j2 d w0 ic ib ia iy sx iz bt p_ base e size n va xs zs El vals (fun _=>false) V X:=
 ⟨fun _ _ _ h=>(nomatch h),hs.mono fe,hr.quiet hs,gJ,gJ,fun _=>hs.owns hown (fun _ _ h=>h),gJ,hs.keep hb (fun h=>h),gJ,gJ,gJ,gJ⟩
theorem jh.call (hE:yP El) (ho:wY R w0 ic ib ia iy sx iz bt base size n va xs zs) (h:jh R j1 j2 d w0 ic ib ia iy sx iz bt p_ base e size n va xs zs El vals L V X) (hL:L ic=false) (jU:vals[ic]?=some none) (hs:Step (·=R.rb) X X') (hr:bC R X' j2 d) {cs:List Value} (hc:El X' (fun q=>X.heap.size≤q) cs):jh R j1 j2 d w0 ic ib ia iy sx iz bt p_ base e size n va xs zs El vals (dP L ic) (iW V ic (.agg cs.toArray)) X':=by
 have hA:=h.QW ho.hc hL;have hZ:=h.Gz hA;have n1:ia≠ic:=by have:=ho.hc;omega
 have n2:iz≠ic:=by have:=ho.hc;have:=ho.hz;omega
 have n5:iy≠ic:=by have:=ho.hc;have:=ho.hy;omega
 have n3:sx≠ic:=by have:=ho.hc;have:=ho.hs;omega
 refine⟨iO h.gZ ic _ (fun u hu=>by rw[jU]at hu;cases hu),h.st.trans (hs.mono il),?_,?_,?_,?_,?_,?_,FC h.pa ic (Ne.symm n1),?_,?_,?_⟩
 ·rw[jE,if_pos rfl];exact hr
 ·intro _;refine⟨cs,kR _ _ _,hE.mono _ _ _ _ (fun q _ hq=>⟨Nat.le_trans h.st.size hq,fun h1=> ?_⟩) hc⟩;rw[aB _ n1,hA]at h1;cases h1
 ·intro h1 h2;rw[aB _ (Ne.symm ho.cb)]at h1;obtain⟨zb,z1,z2,z3⟩:=h.bl h1 hA;exact⟨zb,by rw[bV _ _ (Ne.symm ho.cb)];exact z1,z2,hs.keep z3 (by have:=ho.rb;have:=ho.bt;have:=ho.bw;omega)⟩
 ·intro _;exact hs.owns (h.old hA) (fun q hq e=>by have:=ho.rb;have:=ho.bt;omega)
 ·intro h1;rw[aB _ n1,hA]at h1;cases h1
 ·rw[aB _ n2,hZ.1];have h2:=h.blk;rw[hZ.1]at h2;exact hs.keep h2 (by have:=ho.rb;omega)
 ·intro h1;rw[aB _ n3,hZ.2.1]at h1;cases h1
 ·intro h1;rw[aB _ n2,hZ.1]at h1;cases h1
 ·intro h1;rw[aB _ n5,hZ.2.2]at h1;cases h1
theorem jh.build (hE:yP El) (ho:wY R w0 ic ib ia iy sx iz bt base size n va xs zs) (h:jh R j1 j2 d w0 ic ib ia iy sx iz bt p_ base e size n va xs zs El vals L V X) (hL:L ib=false) (jU:vals[ib]?=some none):jh R j1 j2 d w0 ic ib ia iy sx iz bt p_ base e size n va xs zs El vals (dP L ib) (iW V ib (.slice (some ⟨X.heap.size,0,none⟩) 1 1)) (X.alloc (.cells zs.toArray e)):=by
 have hA:=h.QW ho.hb hL;have hZ:=h.Gz hA;have n1:ia≠ib:=by have:=ho.hb;omega
 have n2:iz≠ib:=by have:=ho.hb;have:=ho.hz;omega
 have n5:iy≠ib:=by have:=ho.hb;have:=ho.hy;omega
 have n3:sx≠ib:=by have:=ho.hb;have:=ho.hs;omega
 have hs:Step (fun _=>False) X (X.alloc (.cells zs.toArray e)):=bJ.alloc _;refine⟨iO h.gZ ib _ (fun u hu=>by rw[jU]at hu;cases hu),h.st.alloc _,?_,?_,?_,?_,?_,?_,FC h.pa ib (Ne.symm n1),?_,?_,?_⟩
 ·rw[aB _ ho.cb];exact h.rd.quiet hs
 ·intro h1;rw[aB _ ho.cb]at h1;obtain⟨cs,c1,c2⟩:=h.el h1;refine⟨cs,by rw[bV _ _ ho.cb];exact c1,?_⟩;rw[aB _ n1,bV _ _ n1];exact hE.step _ _ _ _ _ hs (fun _ _ h=>h) c2
 ·intro _ _;exact⟨X.heap.size,kR _ _ _,h.st.size,aA _ _⟩
 ·intro _;exact hs.owns (h.old hA) (fun _ _ h=>h)
 ·intro h1;rw[aB _ n1,hA]at h1;cases h1
 ·rw[aB _ n2,hZ.1];have h2:=h.blk;rw[hZ.1]at h2;exact aN h2
 ·intro h1;rw[aB _ n3,hZ.2.1]at h1;cases h1
 ·intro h1;rw[aB _ n2,hZ.1]at h1;cases h1
 ·intro h1;rw[aB _ n5,hZ.2.2]at h1;cases h1
theorem jh.app (hE:yP El) (ho:wY R w0 ic ib ia iy sx iz bt base size n va xs zs) (h:jh R j1 j2 d w0 ic ib ia iy sx iz bt p_ base e size n va xs zs El vals L V X) (hL:L ia=false) (hall:∀i,i<ia→L i=true) (jU:vals[ia]?=some none) {v':Value} (hown:X'.ownsRow base e size v' (n+1) (xs++zs)) (hgrow:X.grownBy X' va.ownBlock) (hat:v'.ownBlock=va.ownBlock∨v'.ownBlock=some X.heap.size):jh R j1 j2 d w0 ic ib ia iy sx iz bt p_ base e size n va xs zs El vals (dP L ia) (iW V ia v') X':=by
 have hZ:=h.Gz hL;have n1:ic≠ia:=by have:=ho.hc;omega
 have n2:iz≠ia:=by have:=ho.hz;omega
 have n5:iy≠ia:=by have:=ho.hy;omega
 have n3:sx≠ia:=by have:=ho.hs;omega
 have n4:ib≠ia:=by have:=ho.hb;omega
 have hs:Step (fun k=>va.ownBlock=some k) X X':=bM hgrow;obtain⟨g,c,cur,hv',hbg,hcur,-⟩:=tK hown om;have hg:va.ownBlock=some g∨X.heap.size≤g:=by
  rcases hat with h1|h1
  ·left;rw[←h1,hv'];rfl
  ·right;rw[hv']at h1;have:g=X.heap.size:=Option.some.inj h1;omega
 have hX:=h.st.size;refine⟨iO h.gZ ia _ (fun u hu=>by rw[jU]at hu;cases hu),h.st.trans (hs.mono (fun q _ e=>.inr (.inr e))),?_,?_,?_,?_,?_,?_,?_,?_,?_,?_⟩
 ·rw[aB _ n1];exact h.rd.step hs (fun k hk e=>by have:=ho.own k e;have:=ho.rb;have:=ho.bt;omega)
 ·intro h1;rw[aB _ n1]at h1;obtain⟨cs,c1,c2⟩:=h.el h1;refine⟨cs,by rw[bV _ _ n1];exact c1,?_⟩;rw[kR];have c3:=hE.mono _ _ (fun q=>w0.heap.size≤q∧q<X.heap.size) _ (fun q h1 h2=>⟨h2.1,h1⟩) c2;have c4:=hE.step _ _ _ _ _ hs (fun q hq e=>by have:=ho.own q e;omega) c3;refine hE.mono _ _ _ _ (fun q _ hq=>⟨hq.1,fun _ e=> ?_⟩) c4;rw[hv']at e;have e2:g=q:=Option.some.inj e;rcases hg with h5|h5
  ·have:=ho.own g h5;omega
  ·omega
 ·intro _ h2;rw[jE]at h2;cases h2
 ·intro h2;rw[jE]at h2;cases h2
 ·intro _;refine⟨g,c,by rw[kR];exact hv',?_,zs,by rw[kR];exact hown,ho.zs,fun h1=> ?_⟩
  ·rcases hg with h5|h5
   ·exact .inl h5
   ·exact .inr om
  ·rw[aB _ n3,hZ.2.1]at h1;cases h1
 ·rw[aB _ n2,hZ.1];have h2:=h.blk;rw[hZ.1]at h2;exact hs.keep h2 (fun e=>by have:=ho.own bt e;have:=ho.bt;omega)
 ·intro _ i hi;rw[aB _ om];exact hall i hi
 ·intro _;exact jE _ _
 ·intro _;exact jE _ _
 ·intro h1;rw[aB _ n5,hZ.2.2]at h1;cases h1
theorem jh.put (hE:yP El) (ho:wY R w0 ic ib ia iy sx iz bt base size n va xs zs) (h:jh R j1 j2 d w0 ic ib ia iy sx iz bt p_ base e size n va xs zs El vals L V X) (hA:L ia=true) (jU:∀u,vals[sx]?=some (some u)→undef=u) {g c:Nat} (hV:V ia=.slice (some ⟨g,0,none⟩) (n+1) c) {cs:List Value} (hcs:V ic=.agg cs.toArray) (hcl:cs.length=size) {cur:Array Value} (hcur:X.heap[g]?=some (.cells cur e (0,0))) (hnew:X'.heap[g]?=some (.cells (cur.toList.take (n*size)++(cs++cur.toList.drop (n*size+cs.length))).toArray e (0,0))) (hs:Step (·=g) X X'):jh R j1 j2 d w0 ic ib ia iy sx iz bt p_ base e size n va xs zs El vals (dP L sx) (iW V sx undef) X':=by
 have n1:ic≠sx:=by have:=ho.hc;have:=ho.hs;omega
 have n2:iz≠sx:=Ne.symm ho.sz;have n5:iy≠sx:=Ne.symm ho.ys;have n3:ia≠sx:=by have:=ho.hs;omega
 have n4:ib≠sx:=by have:=ho.hb;have:=ho.hs;omega
 obtain⟨g',c',hV',hg,ys,hown,hyl,-⟩:=h.new hA;rw[hV]at hV';cases hV';have hgb:base≤g:=by rw[hV]at hown;exact(hown.lt g rfl).1
 rw[hV]at hown;refine⟨iO h.gZ sx _ jU,h.st.then hs (fun q hq e=> ?_),?_,?_,?_,?_,?_,?_,FC h.pa sx (Ne.symm n3),?_,?_,?_⟩
 ·subst e;rcases hg with h5|h5
  ·exact .inr (.inr h5)
  ·omega
 ·rw[aB _ n1];exact h.rd.step hs (fun k hk e=>by have:=ho.rb;have:=ho.bt;omega)
 ·intro h1;rw[aB _ n1]at h1;obtain⟨cs2,c1,c2⟩:=h.el h1;refine⟨cs2,by rw[bV _ _ n1];exact c1,?_⟩;rw[aB _ n3,bV _ _ n3];refine hE.step _ _ _ _ _ hs (fun q hq e=> ?_) c2;exact hq.2 hA (by rw[hV,e];rfl)
 ·intro _ h2;rw[aB _ n3,hA]at h2;cases h2
 ·intro h2;rw[aB _ n3,hA]at h2;cases h2
 ·intro _;refine⟨g,c,by rw[bV _ _ n3];exact hV,hg,cs,?_,hcl,fun _=>by rw[bV _ _ n1];exact hcs⟩;rw[bV _ _ n3,hV];exact QU hown ho.xs hcl hcur hnew
 ·rw[aB _ n2,bV _ _ n3];exact hs.keep h.blk (fun e=>by have:=ho.bt;omega)
 ·intro _;rw[aB _ n3];exact hA
 ·intro _;rw[aB _ n3];exact hA
 ·rw[aB _ n5,aB _ n3,bV _ _ n3,bV _ _ n5];exact h.ix
theorem jh.last (hE:yP El) (ho:wY R w0 ic ib ia iy sx iz bt base size n va xs zs) (h:jh R j1 j2 d w0 ic ib ia iy sx iz bt p_ base e size n va xs zs El vals L V X) (hA:L ia=true) (jU:∀u,vals[iz]?=some (some u)→undef=u) (hnew:X'.heap[bt]?=some (p_ (V ia))) (hs:Step (·=bt) X X'):jh R j1 j2 d w0 ic ib ia iy sx iz bt p_ base e size n va xs zs El vals (dP L iz) (iW V iz undef) X':=by
 have n1:ic≠iz:=by have:=ho.hc;have:=ho.hz;omega
 have n2:sx≠iz:=ho.sz;have n5:iy≠iz:=Ne.symm ho.yz;have n3:ia≠iz:=by have:=ho.hz;omega
 obtain⟨g,c,hV,hg,ys,hown,hyl,hys⟩:=h.new hA;refine⟨iO h.gZ iz _ jU,h.st.trans (hs.mono (fun q _ e=>.inr (.inl e))),?_,?_,?_,?_,?_,?_,FC h.pa iz (Ne.symm n3),?_,?_,?_⟩
 ·rw[aB _ n1];exact h.rd.step hs (fun k hk e=>by have:=ho.rb;omega)
 ·intro h1;rw[aB _ n1]at h1;obtain⟨cs2,c1,c2⟩:=h.el h1;refine⟨cs2,by rw[bV _ _ n1];exact c1,?_⟩;rw[aB _ n3,bV _ _ n3];exact hE.step _ _ _ _ _ hs (fun q hq e=>by have:=ho.bt;have:=ho.bw;omega) c2
 ·intro _ h2;rw[aB _ n3,hA]at h2;cases h2
 ·intro h2;rw[aB _ n3,hA]at h2;cases h2
 ·intro _;refine⟨g,c,by rw[bV _ _ n3];exact hV,hg,ys,?_,hyl,?_⟩
  ·rw[bV _ _ n3];exact hs.owns hown (fun q hq e=>by have:=ho.bt;omega)
  ·rw[aB _ n2,bV _ _ n1];exact hys
 ·rw[jE,if_pos rfl,bV _ _ n3];exact hnew
 ·intro _;rw[aB _ n3];exact hA
 ·intro _;rw[aB _ n3];exact hA
 ·rw[aB _ n5,aB _ n3,bV _ _ n3,bV _ _ n5];exact h.ix
theorem jh.index (ho:wY R w0 ic ib ia iy sx iz bt base size n va xs zs) (h:jh R j1 j2 d w0 ic ib ia iy sx iz bt p_ base e size n va xs zs El vals L V X) (hA:L ia=true) (jU:vals[iy]?=some none) {g c:Nat} (hV:V ia=.slice (some ⟨g,0,none⟩) (n+1) c):jh R j1 j2 d w0 ic ib ia iy sx iz bt p_ base e size n va xs zs El vals (dP L iy) (iW V iy (.pointer (some ⟨g,n*size,none⟩))) X:=by
 have n1:ic≠iy:=by have:=ho.hc;have:=ho.hy;omega
 have n2:iz≠iy:=ho.yz;have n3:ia≠iy:=by have:=ho.hy;omega
 have n4:ib≠iy:=by have:=ho.hb;have:=ho.hy;omega
 have n5:sx≠iy:=ho.ys;refine⟨iO h.gZ iy _ (fun u hu=>by rw[jU]at hu;cases hu),h.st,?_,?_,?_,?_,?_,?_,FC h.pa iy (Ne.symm n3),?_,?_,?_⟩
 ·rw[aB _ n1];exact h.rd
 ·rw[aB _ n1,aB _ n3,bV _ _ n1,bV _ _ n3];exact h.el
 ·rw[aB _ n4,aB _ n3,bV _ _ n4];exact h.bl
 ·rw[aB _ n3];exact h.old
 ·rw[aB _ n3,bV _ _ n3,aB _ n5,bV _ _ n1];exact h.new
 ·rw[aB _ n2,bV _ _ n3];exact h.blk
 ·rw[aB _ n5,aB _ n3];exact h.ps
 ·rw[aB _ n2,aB _ n3];exact h.pz
 ·intro _;refine⟨by rw[aB _ n3];exact hA,fun g2 c2 h2=> ?_⟩;rw[bV _ _ n3,hV]at h2;cases h2;rw[kR]
theorem jh.done (h:jh R j1 j2 d w0 ic ib ia iy sx iz bt p_ base e size n va xs zs El vals L V X) (hall:L ic=true∧L ia=true∧L sx=true∧L iz=true):∃(g c:Nat) (cs:List Value),bC R X j2 d∧X.heap[bt]?=some (p_ (.slice (some ⟨g,0,none⟩) (n+1) c))∧X.ownsRow base e size (.slice (some ⟨g,0,none⟩) (n+1) c) (n+1) (xs++cs)∧El X (fun q=>w0.heap.size≤q∧q≠g) cs∧(va.ownBlock=some g∨w0.heap.size≤g)∧Step (fun q=>q=R.rb∨q=bt∨va.ownBlock=some q) w0 X∧base≤g:=by
 obtain⟨h1,h2,h3,h4⟩:=hall;obtain⟨g,c,hV,hg,ys,hown,hyl,hys⟩:=h.new h2;obtain⟨cs,c1,c2⟩:=h.el h1;have e:=hys h3;rw[c1]at e;have e2:cs=ys:=by
  have e3:cs.toArray=ys.toArray:=by injection e
  have:=congrArg Array.toList e3;simpa using this
 subst e2;have hr:=h.rd;have hb:=h.blk;rw[h1,if_pos rfl]at hr;rw[h4,if_pos rfl,hV]at hb;rw[hV]at hown c2;refine⟨g,c,cs,hr,hb,hown,?_,hg,h.st,(hown.lt g rfl).1⟩;have hP:(fun q=>w0.heap.size≤q∧(L ia=true→(Value.slice (some ⟨g,0,none⟩) (n+1) c).ownBlock≠some q))=(fun q=>w0.heap.size≤q∧q≠g):=by
  funext q;apply propext;constructor
  ·rintro⟨a,b⟩;exact⟨a,fun e=>b h2 (by rw[e];rfl)⟩
  ·rintro⟨a,b⟩;exact⟨a,fun _ e=>b (Option.some.inj e).symm⟩
 rw[hP]at c2;exact c2
end
theorem TyEl (a:Ty):yP (fun w P cs=>iG w P a cs):=⟨fun _ _ _ _ cs hs hP h=>iG.step hs hP a cs h,fun _ _ _ cs hp h=>iG.mono hp a cs h⟩
theorem Di {ops:Array Oper} {L:Nat→Bool} {V:Nat→Value}:∀(is:List Nat) (a:Act),(rC ops L V is a).defers=a.defers
 |[],_=>rfl
 |i::r,a=>by
  simp only[rC]
  rw[Di r]
  split
  ·
   cases fU ops i<;>rfl
  ·
   rfl
section
variable {P : Program} {md : Region.Mode} {ops : Array Oper} {Q : Exit → Act → World → Prop} {a0 : Act} {n : Nat} {J : (Nat → Bool) → (Nat → Value) → World → Prop}
def xO (P:Program) (md:Region.Mode) (ops:Array Oper) (Q:Exit→Act→World→Prop) (a0:Act) (n:Nat) (J:(Nat→Bool)→(Nat→Value)→World→Prop):Nat→List Oper→Prop
 |_,[]=>True
 |i,o::r=>(∀(L:Nat→Bool) (V:Nat→Value) (w:World) (a:Act),(∀j k,fU ops j=some k→L j=true→a.tmps[k]?.getD undef=V j)→(∀k,N9 ops (List.range n) k=true→a.tmps[k]?.getD undef=a0.tmps[k]?.getD undef)→a.defers=a0.defers→
   L i=false→(∀j,(uO md o).contains j=true→L j=true)→J L V w→o.wp P a w (fun a' w'=>∃v,a'=a.put o.dst v∧J (dP L i) (iW V i v) w') Q)∧xO P md ops Q a0 n J (i+1) r
theorem xO.get:∀(l:List Oper) (i k:Nat) (o:Oper),xO P md ops Q a0 n J k l→l[i]?=some o→
  ∀(L:Nat→Bool) (V:Nat→Value) (w:World) (a:Act),(∀j k,fU ops j=some k→L j=true→a.tmps[k]?.getD undef=V j)→(∀k,N9 ops (List.range n) k=true→a.tmps[k]?.getD undef=a0.tmps[k]?.getD undef)→a.defers=a0.defers→
   L (k+i)=false→(∀j,(uO md o).contains j=true→L j=true)→J L V w→o.wp P a w (fun a' w'=>∃v,a'=a.put o.dst v∧J (dP L (k+i)) (iW V (k+i) v) w') Q
 |[],i,k,o,_,h=>by simp at h
 |x::r,0,k,o,hs,h=>by
  simp at h;subst h
  exact hs.1
 |x::r,i+1,k,o,hs,h=>by
  have:=xO.get r i (k+1) o hs.2 (by simpa using h)
  rwa [Nat.add_assoc,Nat.add_comm 1 i]at this
theorem Jc (hn:ops.size=n) (hd:xB ops (List.range n)=true) (hb:Fh md ops=true) (hr:Fj ops (List.range n) a0.tmps.size=true) (hg:(ops.toList.all fun o=>o.guard.isNone)=true) (hs:xO P md ops Q a0 n J 0 ops.toList) (hdone:∀L V w,(∀i,i<n→L i=true)→J L V w→Q .normal (kC ops V (List.range n) a0) w):
  ∀(fuel:Nat) (listed:Array Bool) (L:Nat→Bool) (V:Nat→Value) (w:World),listed.size=n→(∀i,i<n→L i=listed.getD i true)→uP listed≤fuel→J L V w→
   wpAny P md ops Q fuel listed (rC ops L V (List.range n) a0) w:=by
 have hall:∀(listed:Array Bool) (L:Nat→Bool) (V:Nat→Value) (w:World),(∀i,i<n→L i=listed.getD i true)→(∀i,listed.getD i true=true)→J L V w→Q .normal (rC ops L V (List.range n) a0) w:=by
  intro listed L V w hL h hJ
  rw[BO _ _ (fun i hi=>by rw[hL i (List.mem_range.1 hi),h i])]
  exact hdone L V w (fun i hi=>by rw[hL i hi,h i]) hJ
 have hmono:∀(i:Nat) (o:Oper),ops[i]?=some o→∀e∈o.after,Region.binds md e=true→e.on<i:=by
  intro i o ho e he hbe
  have hi:i<ops.size:=(Array.getElem?_eq_some_iff.1 ho).1
  have h:=List.all_eq_true.1 hb i (List.mem_range.2 hi)
  simp only[ho]at h
  have h2:=Array.all_eq_true_iff_forall_mem.1 h e he
  simpa[hbe]using h2
 intro fuel
 induction fuel with
 |zero=>
  intro listed L V w hsz hL hc hJ
  have h0:=xC (Nat.le_zero.1 hc)
  refine⟨List.eq_nil_iff_forall_not_mem.2 (fun i hi=> ?_),hall listed L V w hL h0 hJ⟩
  have:=(mem_ready.1 hi).1
  rw[h0 i]at this;cases this
 |succ fuel ih=>
  intro listed L V w hsz hL hc hJ
  refine⟨fun hnil=> ?_,fun i hi=> ?_⟩
  ·
   refine hall listed L V w hL (fun i=> ?_) hJ
   induction i using Nat.strongRecOn with
   |ind i ihi=>
    cases hlt:listed.getD i true with
    |true=>rfl
    |false=>
     have hi:i<listed.size:=by
      rcases Nat.lt_or_ge i listed.size with h|h
      ·
       exact h
      ·
       rw[Array.getD_eq_getD_getElem?,Array.getElem?_eq_none h]at hlt;cases hlt
     have hmem:i∈Region.ready md ops listed:=by
      refine mem_ready.2 ⟨hlt,ops[i]' om,Array.getElem?_eq_getElem om,fun e he hbe=> ?_⟩
      have h1:=hmono i _ (Array.getElem?_eq_getElem om) e he hbe
      have h2:=ihi e.on h1
      rw[Array.getD_eq_getD_getElem?]at h2⊢
      rw[Array.getElem?_eq_getElem (show e.on<listed.size by omega)]at h2⊢
      simpa using h2
     rw[hnil]at hmem;cases hmem
  ·
   obtain⟨h1,o,ho,h2⟩:=mem_ready.1 hi
   have hin:i<n:=by rw[←hn];exact(Array.getElem?_eq_some_iff.1 ho).1
   have hLi:L i=false:=by rw[hL i hin];exact h1
   have hgo:o.guard=none:=by
    have:=List.all_eq_true.1 hg o (by simpa using Array.mem_of_getElem? ho)
    simpa using this
   have hap:∀j,j∈List.range n→i≠j→∀d,fU ops j=some d→fU ops i≠some d:=fun j hj hne d h3=>nR hd hj (List.mem_range.2 hin) (Ne.symm hne) d h3
   have hob:=xO.get ops.toList i 0 o hs (by simpa using ho) L V w (rC ops L V (List.range n) a0)
    (fun j k hjk YH=>by
     have hjn:j<n:=by
      rw[←hn]
      rcases Nat.lt_or_ge j ops.size with h|h
      ·
       exact h
      ·
       simp[fU,Array.getElem?_eq_none h]at hjk
     rw[←bF]
     refine yC hjk YH _ _ List.nodup_range (List.mem_range.2 hjn) (fun m hm hne=>nR hd (List.mem_range.2 hjn) hm hne k hjk) ?_
     have:=List.all_eq_true.1 hr j (List.mem_range.2 hjn)
     simp only[hjk]at this
     simpa using this)
    (fun k hk=>by
     rw[←bF,←bF]
     exact yB _ _ (fun j hj e=>by
     have:=List.all_eq_true.1 hk j hj
     simp[e]at this))
    (Di _ _)
    (by rw[Nat.zero_add];exact hLi)
    (fun j hj=>by
     have hj':j∈uO md o:=by simpa using hj
     obtain⟨e,he,rfl⟩:=List.mem_map.1 hj'
     obtain⟨he1,he2⟩:=List.mem_filter.1 he
     have h3:=h2 e (by simpa using he1) he2
     have h4:=hmono i o ho e (by simpa using he1) he2
     rw[hL e.on om]
     rw[Array.getD_eq_getD_getElem?]at h3⊢
     rw[Array.getElem?_eq_getElem (show e.on<listed.size by omega)]at h3⊢
     simpa using h3) hJ
   rw[Nat.zero_add]at hob
   unfold wpOp
   simp only[ho]
   have hw:Region.wanted o (yielded ops (rC ops L V (List.range n) a0).tmps)=true:=by simp[Region.wanted,hgo]
   rw[if_pos hw]
   refine .inl (Oper.wp_mono ?_ hob)
   rintro a' w' ⟨v,rfl,hJ'⟩
   have hdst:o.dst=fU ops i:=by simp[fU,ho]
   rw[hdst,yA hLi _ _ List.nodup_range (List.mem_range.2 hin) hap]
   refine ih (listed.setIfInBounds i true) _ _ w' (by simp[hsz]) (fun j hj=> ?_) (by have:=zM listed i h1;omega) hJ'
   unfold dP
   by_cases e:j=i
   ·
    subst e
    rw[if_pos rfl,Array.getD_eq_getD_getElem?,Array.getElem?_setIfInBounds_self_of_lt om];rfl
   ·
    rw[if_neg e,hL j hj,Array.getD_eq_getD_getElem?,Array.getD_eq_getD_getElem?,Array.getElem?_setIfInBounds_ne (Ne.symm e)]
theorem bH {id:Nat} {w:World} (hm:P.follows .mixedOrders=true) (J:(Nat→Bool)→(Nat→Value)→World→Prop) (n:Nat) (hn:ops.size=n) (hd:xB ops (List.range n)=true) (hb:Fh .any ops=true) (hr:Fj ops (List.range n) a0.tmps.size=true) (hg:(ops.toList.all fun o=>o.guard.isNone)=true) (h0:J (fun _=>false) (fun _=>undef) w.drew) (hs:xO P .any ops Q a0 n J 0 ops.toList) (hdone:∀L V w,(∀i,i<n→L i=true)→J L V w→Q .normal (kC ops V (List.range n) a0) w):(Code.region id ops true).wp P Q a0 w:=by
 refine wp_region_any hm ?_;have h:=Jc (P:=P) hn hd hb hr hg hs hdone ops.size (Array.replicate ops.size false) (fun _=>false) (fun _=>undef) w.drew (by simp[hn])
  (fun i hi=>by rw[Array.getD_eq_getD_getElem?,Array.getElem?_replicate,if_pos om];rfl) (by
   unfold uP
   simp only[Array.toList_replicate]
   exact Nat.le_trans List.countP_le_length (by simp)) h0
 rw[yD _ _ iI]at h;exact h
end
end Go.Proofs.YtppekkbaoimpgaaGreat
