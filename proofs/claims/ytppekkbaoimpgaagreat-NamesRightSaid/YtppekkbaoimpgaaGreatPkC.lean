import Derived.Test.YtppekkbaoimpgaaGreatPkB
set_option maxRecDepth 100000
set_option maxHeartbeats 80000000
namespace Go.Proofs.YtppekkbaoimpgaaGreat
open Go.RowKit
open Vt
def aJ {α:Type} (R:gJ) (d:Nat) (At:World→α→Value→Prop) (r:dV α) (w:World) (e:Ending) (w':World):Prop:=
 match r with
 | .ok a j=>(∃v,e=.returned v∧At w' a v)∧bI R w' j d∧Step (·=R.rb) w w'
 | .err c ln col=>e=.panicked [{v:=.iface 251 (.agg #[ak c,ak ln,ak col]),recovered:=false}]∧Step (·=R.rb) w w'
 | .out=>True
def iQ (_:World) (_:Unit) (v:Value):Prop:=v=.tuple #[]
def Hy (_:World) (s:ByteArray) (v:Value):Prop:=v=.string s
theorem uM {l:List Tok} {i:Nat} (h:i<l.length):l[i]?=some (tokA l i):=by rw[tokA,List.getD_eq_getElem?_getD,List.getElem?_eq_getElem h];rfl
theorem bI.tok {R:gJ} {w:World} {i d:Nat} (h:bI R w i d):R.l[i]?=some (tokA R.l i):=uM h.lt
theorem dJ {l:List Tok} {i:Nat} {s:List UInt8} (h:aH l i s=.out):False:=by unfold aH at h;split at h<;>cases h
theorem iV {l:List Tok} {i:Nat} (h:aS l i=.out):False:=by unfold aS at h;split at h<;>cases h
theorem CX {l:List Tok} {i:Nat} (h:jw l i=.out):False:=by unfold jw at h;split at h<;>cases h
theorem lH {n m:Nat} {l:List Tok} {i:Nat} (h:eY n m l i=.out):False:=by unfold eY at h;split at h<;>cases h
theorem um (R:gJ) (hl:oZ R.l) (s:ByteArray) (w:World) (i d:Nat) (h:bI R w i d) (hs:s.size≤100000):Calls Tryz.prog 110 #[.pointer (some ⟨R.rb,0,none⟩),.string s] w fun e w'=>e=.returned (.bool (bF R.l i s.data.toList))∧bI R w' (jb R.l i s.data.toList) d∧Step (·=R.rb) w w':=
 is_at R hl s w i d _ h h.tok hs
theorem dA (R:gJ) (hl:oZ R.l) (s:ByteArray) (w:World) (i d:Nat) (h:bI R w i d) (hs:s.size≤100000) (hb:bF R.l i s.data.toList=true):Calls Tryz.prog 110 #[.pointer (some ⟨R.rb,0,none⟩),.string s] w fun e w'=>e=.returned (.bool true)∧bI R w' (i+1) d∧Step (·=R.rb) w w':=by have h1:=um R hl s w i d h hs;unfold jb at h1;rw[hb,if_pos rfl]at h1;exact h1
theorem dQ (R:gJ) (hl:oZ R.l) (s:ByteArray) (w:World) (i d:Nat) (h:bI R w i d) (hs:s.size≤100000) (hb:bF R.l i s.data.toList=false):Calls Tryz.prog 110 #[.pointer (some ⟨R.rb,0,none⟩),.string s] w fun e w'=>e=.returned (.bool false)∧bI R w' i d∧Step (·=R.rb) w w':=by have h1:=um R hl s w i d h hs;unfold jb at h1;rw[hb,if_neg dc]at h1;exact h1
theorem uN (R:gJ) (s:ByteArray) (w:World) (i d:Nat) (h:bI R w i d) (hs:s.size≤100000) (b:Bool) (hb:bF R.l i s.data.toList=b):Calls Tryz.prog 158 #[.pointer (some ⟨R.rb,0,none⟩),.string s] w fun e w'=>e=.returned (.bool b)∧StF w w':=by rw[←hb];exact QB R s w i d _ h h.tok hs
theorem dP (R:gJ) (hl:oZ R.l) (g:Nat) (s:ByteArray) (w:World) (i d:Nat) (h:bI R w i d) (hs:s.size≤100000) (hg:w.cell? ⟨g,0,none⟩=some (.string s)):Calls Tryz.prog 111 #[.pointer (some ⟨R.rb,0,none⟩),.slice (some ⟨g,0,none⟩) 1 1] w (aJ R d iQ (aH R.l i s.data.toList) w):=
 (Y2 R hl g s w i d _ h h.tok hs hg).mono fun e w' hp=>by
  unfold AX at hp
  unfold aH bF
  split at hp
  ·
   rename_i hh
   rw[if_pos hh]
   exact⟨⟨_,hp.1.1,rfl⟩,hp.1.2,hp.2⟩
  ·
   rename_i hh
   rw[if_neg hh]
   exact hp
theorem name_any (R:gJ) (hl:oZ R.l) (w:World) (i d:Nat) (h:bI R w i d):Calls Tryz.prog 113 #[.pointer (some ⟨R.rb,0,none⟩)] w (aJ R d Hy (aS R.l i) w):=
 (Y1 R hl w i d _ h h.tok).mono fun e w' hp=>by
  unfold xI at hp
  unfold aS
  split at hp
  ·
   rename_i hh
   rw[if_pos hh]
   exact⟨⟨_,hp.1.1,rfl⟩,hp.1.2,hp.2⟩
  ·
   rename_i hh
   rw[if_neg hh]
   exact hp
theorem nH (R:gJ) (w:World) (n m i d:Nat) (h:bI R w i d):Calls Tryz.prog 84 #[.agg #[eU R.rb 0],.int .i64 n,.int .i64 m] w (aJ R d iQ (eY n m R.l i) w):=by
 have H:=au h;have HT:=au h.tok;clear h;by_cases hh:m≤n
 ·have hr:eY n m R.l i=eP 2 R.l i:=by unfold eY;rw[if_pos hh]
  have HR:=au hr;have e1:decide (m≤n)=true:=decide_eq_true hh;clear hr hh;go_enter Tryz.func84,Tryz.ntmps84;go_wp2_with fail;refine(qi R 2 _ i d _ (H.o.quiet (bK.alloc _)) HT.o).mono ?_;rintro e w1 ⟨rfl,h1⟩;refine⟨rfl,?_⟩;rw[HR.o];exact⟨rfl,((bK.alloc _).trans h1).mono fe⟩
 ·have hr:eY n m R.l i=.ok () i:=by unfold eY;rw[if_neg hh]
  have HR:=au hr;have e1:decide (m≤n)=false:=decide_eq_false hh;clear hr hh;go_enter Tryz.func84,Tryz.ntmps84;go_wp2_with fail;refine bodyPost_end (results_none rfl _ _ _) rfl ?_;rw[HR.o];exact⟨⟨_,rfl,rfl⟩,H.o.quiet (bK.alloc _),bK.alloc _⟩
theorem xM (R:gJ) (hl:oZ R.l) (w:World) (i d:Nat) (h:bI R w i d):Calls Tryz.prog 114 #[.agg #[eU R.rb 0]] w (aJ R d Hy (jw R.l i) w):=by
 obtain⟨t,ht⟩:=aN (tokA R.l i);have HT:=au h.tok;have Sr:=au ht;rw[←ht]at HT;obtain⟨w1,hw1⟩:=aN (w.alloc (.cells #[eU R.rb 0] 97));have dH:=nS hw1
 have HB1:=nB hw1
 have HW1:=au hw1;have H1:=au (h.quiet dH.o);have HL:=au hl;have hfd0:∀(a0 a1 a2 a3 a4:Value) (w:World),(Instr.field 157 (.agg #[a0,a1,a2,a3,a4]) 0).run Tryz.prog w=.ok a0 w:=fun _ _ _ _ _ _=>by kernel_rfl
 have hfd1:∀(a0 a1 a2 a3 a4:Value) (w:World),(Instr.field 157 (.agg #[a0,a1,a2,a3,a4]) 1).run Tryz.prog w=.ok a1 w:=fun _ _ _ _ _ _=>by kernel_rfl
 have k0:w1.cell? ⟨w.heap.size,0,none⟩=some (.pointer (some ⟨R.rb,0,none⟩)):=aj HB1.o 0 _ rfl;have HX:Hid ((AQ t.text)=⟨t.text.toArray⟩):=rfl;clear h hw1 hl ht;by_cases hk:t.kind=2
 ·have e1:((t.kind:Int) !=2)=false:=by rw[bne,kQ t.kind 2 2 rfl,hk];rfl
  have HR:Hid (jw R.l i=.ok (AQ t.text) (i+1)):=by show _=_;unfold jw;rw[←Sr.o,if_pos hk]
  have hk0:t.kind≠0:=by omega
  have Y3:=au hk0;clear hk hk0;go_enter Tryz.func114,Tryz.ntmps114;go_upto_region 1 with fail
  rw[←HW1.o];go_wp2_with fail;refine(lN R _ i d t H1.o HT.o).mono ?_;rintro e w2 ⟨rfl,h2⟩;have H2:=au (H1.o.quiet h2);have HS2:=au (dH.o.trans h2);have k0':w2.cell? ⟨w.heap.size,0,none⟩=some (.pointer (some ⟨R.rb,0,none⟩)):=h2.cell k0 (fun h=>h);clear h2 k0;go_wp2_with fail;refine(AV R HL.o _ i d t H2.o HT.o Y3.o).mono ?_;rintro e w3 ⟨rfl,hr,h3⟩;have H3:=au hr;have fK:=au h3;clear k0' hr h3;go_wp2_with fail;go_ret;rw[HR.o];exact⟨⟨_,rfl,rfl⟩,H3.o,(HS2.o.mono fe).trans fK.o⟩
 ·have e1:((t.kind:Int) !=2)=true:=by rw[bne,kQ t.kind 2 2 rfl,beq_eq_false_iff_ne.2 hk];rfl
  have HR:Hid (jw R.l i=eP 1 R.l i):=by show _=_;unfold jw;rw[←Sr.o,if_neg hk]
  clear hk;go_enter Tryz.func114,Tryz.ntmps114;go_upto_region 1 with fail
  rw[←HW1.o];go_wp2_with fail;refine(lN R _ i d t H1.o HT.o).mono ?_;rintro e w2 ⟨rfl,h2⟩;have H2:=au (H1.o.quiet h2);have HS2:=au (dH.o.trans h2);have k0':w2.cell? ⟨w.heap.size,0,none⟩=some (.pointer (some ⟨R.rb,0,none⟩)):=h2.cell k0 (fun h=>h);clear h2 k0;go_wp2_with fail;refine(qi R 1 _ i d t H2.o HT.o).mono ?_;rintro e w3 ⟨rfl,h3⟩;refine⟨rfl,?_⟩;rw[HR.o];unfold eP;rw[←Sr.o];exact⟨rfl,(HS2.o.trans h3).mono fe⟩
theorem JF (R:gJ) (hl:oZ R.l) (w:World) (i d:Nat) (h:bI R w i d):Calls Tryz.prog 112 #[.agg #[eU R.rb 0]] w fun e w'=>e=.returned (.string (uj R.l i))∧bI R w' (qy R.l i) d∧Step (·=R.rb) w w':=by
 obtain⟨t,ht⟩:=aN (tokA R.l i);have HT:=au h.tok;have Sr:=au ht;rw[←ht]at HT;obtain⟨w1,hw1⟩:=aN (w.alloc (.cells #[eU R.rb 0] 97));have dH:=nS hw1
 have HB1:=nB hw1
 have HW1:=au hw1;have H1:=au (h.quiet dH.o);have HL:=au hl;have hfd0:∀(a0 a1 a2 a3 a4:Value) (w:World),(Instr.field 157 (.agg #[a0,a1,a2,a3,a4]) 0).run Tryz.prog w=.ok a0 w:=fun _ _ _ _ _ _=>by kernel_rfl
 have hfd1:∀(a0 a1 a2 a3 a4:Value) (w:World),(Instr.field 157 (.agg #[a0,a1,a2,a3,a4]) 1).run Tryz.prog w=.ok a1 w:=fun _ _ _ _ _ _=>by kernel_rfl
 have k0:w1.cell? ⟨w.heap.size,0,none⟩=some (.pointer (some ⟨R.rb,0,none⟩)):=aj HB1.o 0 _ rfl;clear h hw1 hl ht;by_cases hk:t.kind=2
 ·have e1:((t.kind:Int) !=2)=false:=by rw[bne,kQ t.kind 2 2 rfl,hk];rfl
  have HO:Hid (uj R.l i=⟨t.text.toArray⟩∧qy R.l i=i+1):=by show _∧_;unfold uj qy;rw[←Sr.o,if_pos hk,if_pos hk];exact⟨rfl,rfl⟩
  have hk0:t.kind≠0:=by omega
  have Y3:=au hk0;clear hk hk0;go_enter Tryz.func112,Tryz.ntmps112;go_upto_region 1 with fail
  rw[←HW1.o];go_wp2_with fail;refine(lN R _ i d t H1.o HT.o).mono ?_;rintro e w2 ⟨rfl,h2⟩;have H2:=au (H1.o.quiet h2);have HS2:=au (dH.o.trans h2);have k0':w2.cell? ⟨w.heap.size,0,none⟩=some (.pointer (some ⟨R.rb,0,none⟩)):=h2.cell k0 (fun h=>h);clear h2 k0;go_wp2_with fail;refine(AV R HL.o _ i d t H2.o HT.o Y3.o).mono ?_;rintro e w3 ⟨rfl,hr,h3⟩;have H3:=au hr;have fK:=au h3;clear k0' hr h3;go_wp2_with fail;go_ret;exact⟨by rw[HO.o.1];rfl,by rw[HO.o.2];exact H3.o,(HS2.o.mono fe).trans fK.o⟩
 ·have e1:((t.kind:Int) !=2)=true:=by rw[bne,kQ t.kind 2 2 rfl,beq_eq_false_iff_ne.2 hk];rfl
  have HO:Hid (uj R.l i=⟨#[]⟩∧qy R.l i=i):=by show _∧_;unfold uj qy;rw[←Sr.o,if_neg hk,if_neg hk];exact⟨rfl,rfl⟩
  clear hk;go_enter Tryz.func112,Tryz.ntmps112;go_upto_region 1 with fail
  rw[←HW1.o];go_wp2_with fail;refine(lN R _ i d t H1.o HT.o).mono ?_;rintro e w2 ⟨rfl,h2⟩;have H2:=au (H1.o.quiet h2);have HS2:=au (dH.o.trans h2);clear h2 k0;go_wp2_with fail;go_ret;exact⟨by rw[HO.o.1];rfl,by rw[HO.o.2];exact H2.o,HS2.o.mono fe⟩
def qA (f:Nat) (l:List Tok) (i d:Nat):dV Ty:=
 if bF l i [105,110,116]then .ok (.mk 1 bZ bZ false [] [] (tokA l i).line (tokA l i).col) (i+1)
 else if bF l i [98,111,111,108]then .ok (.mk 2 bZ bZ false [] [] (tokA l i).line (tokA l i).col) (i+1)
 else if bF l i [102,54,52]then .ok (.mk 3 bZ bZ false [] [] (tokA l i).line (tokA l i).col) (i+1)
 else if bF l i [40]then(aH l (i+1) [41]).bind fun _ j=>.ok (.mk 4 bZ bZ false [] [] (tokA l i).line (tokA l i).col) j
 else if bF l i [66,111,120]then(aH l (i+1) [60]).bind fun _ j=>(jY f l j d).bind fun a j=>(aH l j [62]).bind fun _ j=>.ok (.mk 6 bZ bZ false [] [a] (tokA l i).line (tokA l i).col) j
 else if bF l i [38]then(jY f l (jb l (qy l (i+1)) [109,117,116]) d).bind fun a j=>.ok (.mk 7 bZ (uj l (i+1)) (bF l (qy l (i+1)) [109,117,116]) [] [a] (tokA l i).line (tokA l i).col) j
 else if bF l i [100,121,110]then(aS l (i+1)).bind fun n j=>if bF l j [43]then(jw l (j+1)).bind fun x j=>.ok (.mk 8 n x false [] [] (tokA l i).line (tokA l i).col) j else .ok (.mk 8 n bZ false [] [] (tokA l i).line (tokA l i).col) j
 else(aS l i).bind fun n j=>if bF l j [60]then(lQ f l (j+1) d [] []).bind fun p j=>.ok (.mk 5 n bZ false p.1 p.2 (tokA l i).line (tokA l i).col) j else .ok (.mk 5 n bZ false [] [] (tokA l i).line (tokA l i).col) j
theorem IQ (f:Nat) (l:List Tok) (i d:Nat):jY (f+1) l i d=if d=40 then eP 2 l i else qA f l i (d+1):=by rw[jY];rfl
def TyV (n0:Nat) (w':World) (a:Ty) (v:Value):Prop:=∃cs:List Value,v=.agg cs.toArray∧iC w' (fun k=>n0≤k) a cs
def qR (f:Nat):Prop:=∀(R:gJ) (w:World) (i d:Nat),oZ R.l→bI R w i d→d≤40→jY f R.l i d≠.out→
 Calls Tryz.prog 69 #[.agg #[eU R.rb 0]] w (aJ R d (TyV w.heap.size) (jY f R.l i d) w)
def DU (f:Nat) (l:List Tok) (i d:Nat):dV (List ByteArray×List Ty):=if bF l i [60]then lQ f l (i+1) d [] []else .ok ([],[]) i
def ArgV (w w':World) (bt:Nat) (k:Int) (nm:ByteArray) (t:Tok) (p:List ByteArray×List Ty):Prop:=
 ∃vl va xs,w'.heap[bt]?=some (.cells #[ak k,a_ nm,aO,aT,vl,va,ak t.line,ak t.col] 46 (0,0))∧(∀s∈p.1,s.size≤9223372036854775807)∧cu w' (fun k=>w.heap.size≤k) vl p.1.length (p.1.map .string)∧gy w' (fun k=>w.heap.size≤k) p.2 xs∧cu w' (fun k=>w.heap.size≤k) va p.2.length xs
def QD (R:gJ) (d bt:Nat) (k:Int) (nm:ByteArray) (t:Tok) (r:dV (List ByteArray×List Ty)) (w:World) (e:Ending) (w':World):Prop:=
 match r with
 | .ok p j=>e=.returned (.tuple #[])∧ArgV w w' bt k nm t p∧bI R w' j d∧Step (fun k=>k=R.rb∨k=bt) w w'
 | .err c ln col=>e=.panicked [{v:=.iface 251 (.agg #[ak c,ak ln,ak col]),recovered:=false}]∧Step (fun k=>k=R.rb∨k=bt) w w'
 | .out=>True
def Fp (f:Nat):Prop:=∀(R:gJ) (w:World) (i d bt:Nat) (k:Int) (nm:ByteArray) (t:Tok),oZ R.l→bI R w i d→d≤40→R.rb<bt→w.heap[bt]?=some (.cells #[ak k,a_ nm,aO,aT,ay,ay,ak t.line,ak t.col] 46 (0,0))→DU f R.l i d≠.out→
 Calls Tryz.prog 115 #[.agg #[eU R.rb 0],.pointer (some ⟨bt,0,none⟩)] w (QD R d bt k nm t (DU f R.l i d) w)
theorem CY {f:Nat} {l:List Tok} {i d:Nat} (h0:bF l i [105,110,116]=false) (h1:bF l i [98,111,111,108]=false) (h2:bF l i [102,54,52]=false) (h3:bF l i [40]=false) (h4:bF l i [66,111,120]=false) (h5:bF l i [38]=false) (h6:bF l i [100,121,110]=false):qA f l i d=(aS l i).bind fun n j=>(DU f l j d).bind fun p j=>.ok (.mk 5 n bZ false p.1 p.2 (tokA l i).line (tokA l i).col) j:=by unfold qA;simp only[h0,h1,h2,h3,h4,h5,h6,Bool.false_eq_true,if_false];congr 1;funext n j;unfold DU;split<;>rfl
def OL (n0 bt:Nat) (w':World) (a:Ty):Prop:=∃cs:List Value,w'.heap[bt]?=some (.cells cs.toArray 46 (0,0))∧iC w' (fun k=>n0≤k) a cs
def bg {α:Type} (R:gJ) (d bt:Nat) (Left:World→α→Prop) (r:dV α) (w:World) (e:Ending) (w':World):Prop:=
 match r with
 | .ok a j=>e=.returned (.tuple #[])∧Left w' a∧bI R w' j d∧Step (fun k=>k=R.rb∨k=bt) w w'
 | .err c ln col=>e=.panicked [{v:=.iface 251 (.agg #[ak c,ak ln,ak col]),recovered:=false}]∧Step (fun k=>k=R.rb∨k=bt) w w'
 | .out=>True
theorem bg.dU {α:Type} {R:gJ} {d bt:Nat} {Left:World→α→Prop} {r:dV α} {w w':World} {e:Ending} {a:α} {j:Nat} (hr:r=.ok a j) (he:e=.returned (.tuple #[])) (hl:Left w' a) (h:bI R w' j d) (hs:Step (fun k=>k=R.rb∨k=bt) w w'):bg R d bt Left r w e w':=by rw[hr];exact⟨he,hl,h,hs⟩
theorem bg.aZ {α:Type} {R:gJ} {d bt:Nat} {Left:World→α→Prop} {r:dV α} {w w':World} {e:Ending} {c ln col:Nat} (hr:r=.err c ln col) (he:e=.panicked [{v:=.iface 251 (.agg #[ak c,ak ln,ak col]),recovered:=false}]) (hs:Step (fun k=>k=R.rb∨k=bt) w w'):bg R d bt Left r w e w':=by rw[hr];exact⟨he,hs⟩
theorem AZ {l:List UInt8} (h:l.length≤20000):(AQ l).size≤9223372036854775807:=by show l.toArray.size≤_;simp;omega
theorem fV {R:gJ} (hl:oZ R.l) {i j:Nat} {s:ByteArray} (hi:i<R.l.length) (h:aS R.l i=.ok s j):s.size≤9223372036854775807:=by
 unfold aS at h;split at h
 ·cases h;exact AZ (hl.text _ (List.mem_of_getElem? (uM hi)))
 ·cases h
theorem zS {R:gJ} (hl:oZ R.l) {i j:Nat} {s:ByteArray} (hi:i<R.l.length) (h:jw R.l i=.ok s j):s.size≤9223372036854775807:=by
 unfold jw at h;split at h
 ·cases h;exact AZ (hl.text _ (List.mem_of_getElem? (uM hi)))
 ·cases h
theorem MB {R:gJ} (hl:oZ R.l) {i:Nat} (hi:i<R.l.length):(AQ (tokA R.l i).text).size≤9223372036854775807:=AZ (hl.text _ (List.mem_of_getElem? (uM hi)))
theorem Vb (R:gJ) (f:Nat) (ih:qR f) (iha:Fp f) (bp bt:Nat) (w:World) (i d:Nat) (t:Tok) (hl:oZ R.l) (h:bI R w i d) (hd:d≤40) (hbp:w.heap[bp]?=some (.cells #[eU R.rb 0] 97 (0,0))) (hbt:w.heap[bt]?=some (.cells #[ak 0,aO,aO,aT,ay,ay,ak t.line,ak t.col] 46 (0,0))) (hb1:R.rb<bp) (hb2:bp<bt) (ht:t=tokA R.l i) (hno:qA f R.l i d≠.out):Calls Tryz.prog 109 #[.pointer (some ⟨bp,0,none⟩),.pointer (some ⟨bt,0,none⟩)] w (bg R d bt (OL w.heap.size bt) (qA f R.l i d) w):=by
 have HL:=au hl;have H0:=au h;have HT:=au ht;have IH:=au ih;have IHA:=au iha;obtain⟨r,hr⟩:=aN (qA f R.l i d);have HRR:=au hr;rw[←hr]at hno⊢;have eX:=au hno;have hil:=h.lt;have MC:=aK hbt;have HKB:Hid (∀X:World,Step (·=R.rb) w X→X.cell? ⟨bp,0,none⟩=some (.pointer (some ⟨R.rb,0,none⟩))∧X.heap[bt]?=some (.cells #[ak 0,aO,aO,aT,ay,ay,ak t.line,ak t.col] 46 (0,0))):=fun X hX=>⟨aj (hX.keep hbp om) 0 _ rfl,hX.keep hbt om⟩
 have HBP:Hid (w.cell? ⟨bp,0,none⟩=some (.pointer (some ⟨R.rb,0,none⟩))):=aj hbp 0 _ rfl;obtain⟨p0,-⟩:=HKB.o w bK;clear ih iha hl h hbp hbt hr hno ht;go_enter Tryz.func109,Tryz.ntmps109;go_wp2_with fail;cases hb0:bF R.l i [105,110,116]with
 |true=>have HB0:=au hb0;clear hb0;refine(dA R HL.o ⟨#[105,110,116]⟩ _ i d H0.o dc HB0.o).mono ?_;rintro e wy ⟨rfl,zx,hsy⟩;have DV:=au zx;have wQ:Hid (Step (·=R.rb) w wy):=bK.trans hsy;clear zx hsy p0;obtain⟨p0,hbt⟩:=HKB.o wy wQ.o;have EC:=au hbt;clear hbt;have ou:=aj EC.o 0 _ rfl;have oz:=aI EC.o 0;go_wp2_with fail;refine bodyPost_end (results_none rfl _ _ _) rfl ?_;have hst:Step (·=bt) wy (wy.setCell ⟨bt,0,none⟩ (.int .i64 1)):=bK.setCell _ _ iW;refine bg.dU (a:=.mk 1 bZ bZ false [] [] (tokA R.l i).line (tokA R.l i).col) (j:=i+1) (by rw[HRR.o];unfold qA;simp only[HB0.o,if_true]) rfl ⟨[.int .i64 1,.string bZ,.string bZ,.bool false,.slice none 0 0,.slice none 0 0,.int .i64 t.line,.int .i64 t.col],aW EC.o 0 (.int .i64 1),?_⟩ (DV.o.step hst oi) ((wQ.o.mono il).trans (hst.mono ir));rw[iC,←HT.o];exact⟨_,_,[],rfl,by decide,by decide,lu,cu.nil _ _ _,by rw[gy],cu.nil _ _ _⟩
 |false=>
  have HB0:=au hb0;clear hb0;refine(dQ R HL.o ⟨#[105,110,116]⟩ _ i d H0.o dc HB0.o).mono ?_;rintro e wn0 ⟨rfl,hrn,hsn⟩;have Vd:=au hrn;have OM:Hid (Step (·=R.rb) w wn0):=bK.trans hsn;clear hrn hsn p0;obtain⟨p0,-⟩:=HKB.o wn0 OM.o;go_wp2_with fail;cases hb1:bF R.l i [98,111,111,108]with
  |true=>have HB1:=au hb1;clear hb1;refine(dA R HL.o ⟨#[98,111,111,108]⟩ _ i d Vd.o dc HB1.o).mono ?_;rintro e wy ⟨rfl,zx,hsy⟩;have DV:=au zx;have wQ:Hid (Step (·=R.rb) w wy):=OM.o.trans hsy;clear zx hsy p0;obtain⟨p0,hbt⟩:=HKB.o wy wQ.o;have EC:=au hbt;clear hbt;have ou:=aj EC.o 0 _ rfl;have oz:=aI EC.o 0;go_wp2_with fail;refine bodyPost_end (results_none rfl _ _ _) rfl ?_;have hst:Step (·=bt) wy (wy.setCell ⟨bt,0,none⟩ (.int .i64 2)):=bK.setCell _ _ iW;refine bg.dU (a:=.mk 2 bZ bZ false [] [] (tokA R.l i).line (tokA R.l i).col) (j:=i+1) (by rw[HRR.o];unfold qA;simp only[HB0.o,HB1.o,Bool.false_eq_true,if_false,if_true]) rfl ⟨[.int .i64 2,.string bZ,.string bZ,.bool false,.slice none 0 0,.slice none 0 0,.int .i64 t.line,.int .i64 t.col],aW EC.o 0 (.int .i64 2),?_⟩ (DV.o.step hst oi) ((wQ.o.mono il).trans (hst.mono ir));rw[iC,←HT.o];exact⟨_,_,[],rfl,by decide,by decide,lu,cu.nil _ _ _,by rw[gy],cu.nil _ _ _⟩
  |false=>
   have HB1:=au hb1;clear hb1;refine(dQ R HL.o ⟨#[98,111,111,108]⟩ _ i d Vd.o dc HB1.o).mono ?_;rintro e wn1 ⟨rfl,hrn,hsn⟩;have Ve:=au hrn;have OO:Hid (Step (·=R.rb) w wn1):=OM.o.trans hsn;clear hrn hsn p0;obtain⟨p0,-⟩:=HKB.o wn1 OO.o;go_wp2_with fail;cases hb2:bF R.l i [102,54,52]with
   |true=>have HB2:=au hb2;clear hb2;refine(dA R HL.o ⟨#[102,54,52]⟩ _ i d Ve.o dc HB2.o).mono ?_;rintro e wy ⟨rfl,zx,hsy⟩;have DV:=au zx;have wQ:Hid (Step (·=R.rb) w wy):=OO.o.trans hsy;clear zx hsy p0;obtain⟨p0,hbt⟩:=HKB.o wy wQ.o;have EC:=au hbt;clear hbt;have ou:=aj EC.o 0 _ rfl;have oz:=aI EC.o 0;go_wp2_with fail;refine bodyPost_end (results_none rfl _ _ _) rfl ?_;have hst:Step (·=bt) wy (wy.setCell ⟨bt,0,none⟩ (.int .i64 3)):=bK.setCell _ _ iW;refine bg.dU (a:=.mk 3 bZ bZ false [] [] (tokA R.l i).line (tokA R.l i).col) (j:=i+1) (by rw[HRR.o];unfold qA;simp only[HB0.o,HB1.o,HB2.o,Bool.false_eq_true,if_false,if_true]) rfl ⟨[.int .i64 3,.string bZ,.string bZ,.bool false,.slice none 0 0,.slice none 0 0,.int .i64 t.line,.int .i64 t.col],aW EC.o 0 (.int .i64 3),?_⟩ (DV.o.step hst oi) ((wQ.o.mono il).trans (hst.mono ir));rw[iC,←HT.o];exact⟨_,_,[],rfl,by decide,by decide,lu,cu.nil _ _ _,by rw[gy],cu.nil _ _ _⟩
   |false=>
    have HB2:=au hb2;clear hb2;refine(dQ R HL.o ⟨#[102,54,52]⟩ _ i d Ve.o dc HB2.o).mono ?_;rintro e wn2 ⟨rfl,hrn,hsn⟩;have Vf:=au hrn;have OQ:Hid (Step (·=R.rb) w wn2):=OO.o.trans hsn;clear hrn hsn p0;obtain⟨p0,-⟩:=HKB.o wn2 OQ.o;go_wp2_with fail;cases hb3:bF R.l i [40]with
    |true=>
     have HB3:=au hb3;clear hb3;refine(dA R HL.o ⟨#[40]⟩ _ i d Vf.o dc HB3.o).mono ?_;rintro e wy ⟨rfl,zx,hsy⟩;have DV:=au zx;have wQ:Hid (Step (·=R.rb) w wy):=OQ.o.trans hsy;clear zx hsy p0;obtain⟨p0,hbt⟩:=HKB.o wy wQ.o;have EC:=au hbt;clear hbt;go_wp2_with fail;cases hn0:aH R.l (i+1) [41]with
     |out=>exact(dJ hn0).elim
     |err c ln col=>have HN0:=au hn0;clear hn0;refine(dP R HL.o wy.heap.size ⟨#[41]⟩ _ (i+1) d (DV.o.quiet (bK.alloc _)) dc (aj (aC _ _) 0 _ rfl)).mono ?_;rintro e wq hp;have hp2:aJ R d iQ (aH R.l (i+1) [41]) _ e wq:=hp;rw[HN0.o]at hp2;obtain⟨rfl,sq⟩:=hp2;refine⟨rfl,bg.aZ (c:=c) (ln:=ln) (col:=col) (by rw[HRR.o];unfold qA;simp only[HB0.o,HB1.o,HB2.o,HB3.o,HN0.o,Bool.false_eq_true,if_false,if_true,dV.lC]) rfl ?_⟩;exact((wQ.o).mono il).trans ((((Step.refl (·=R.rb) _).alloc _).trans sq).mono il)
     |ok u j0=>have HN0:=au hn0;clear hn0;refine(dP R HL.o wy.heap.size ⟨#[41]⟩ _ (i+1) d (DV.o.quiet (bK.alloc _)) dc (aj (aC _ _) 0 _ rfl)).mono ?_;rintro e wq0 hp;have hp2:aJ R d iQ (aH R.l (i+1) [41]) _ e wq0:=hp;rw[HN0.o]at hp2;obtain⟨⟨v,rfl,rfl⟩,hrq,sq⟩:=hp2;have HRQ0:=au hrq;have HSQ0:Hid (Step (·=R.rb) wy wq0):=((Step.refl (·=R.rb) _).alloc _).trans sq;clear hrq sq p0 hp;obtain⟨p0,hbt⟩:=HKB.o wq0 (wQ.o.trans HSQ0.o);have rM:=au hbt;have ou:=aj hbt 0 _ rfl;have oz:=aI hbt 0;clear hbt;go_wp2_with fail;refine bodyPost_end (results_none rfl _ _ _) rfl ?_;have hst:Step (·=bt) wq0 (wq0.setCell ⟨bt,0,none⟩ (.int .i64 4)):=bK.setCell _ _ iW;refine bg.dU (a:=.mk 4 bZ bZ false [] [] (tokA R.l i).line (tokA R.l i).col) (j:=j0) (by rw[HRR.o];unfold qA;simp only[HB0.o,HB1.o,HB2.o,HB3.o,HN0.o,Bool.false_eq_true,if_false,if_true,dV.bind_ok]) rfl ⟨[.int .i64 4,.string bZ,.string bZ,.bool false,.slice none 0 0,.slice none 0 0,.int .i64 t.line,.int .i64 t.col],aW rM.o 0 (.int .i64 4),?_⟩ (HRQ0.o.step hst oi) (((wQ.o.trans HSQ0.o).mono il).trans (hst.mono ir));rw[iC,←HT.o];exact⟨_,_,[],rfl,by decide,by decide,lu,cu.nil _ _ _,by rw[gy],cu.nil _ _ _⟩
    |false=>
     have HB3:=au hb3;clear hb3;refine(dQ R HL.o ⟨#[40]⟩ _ i d Vf.o dc HB3.o).mono ?_;rintro e wn3 ⟨rfl,hrn,hsn⟩;have Vg:=au hrn;have MF:Hid (Step (·=R.rb) w wn3):=OQ.o.trans hsn;clear hrn hsn p0;obtain⟨p0,-⟩:=HKB.o wn3 MF.o;go_wp2_with fail;cases hb4:bF R.l i [66,111,120]with
     |true=>
      have HB4:=au hb4;clear hb4;refine(dA R HL.o ⟨#[66,111,120]⟩ _ i d Vg.o dc HB4.o).mono ?_;rintro e wy ⟨rfl,zx,hsy⟩;have DV:=au zx;have wQ:Hid (Step (·=R.rb) w wy):=MF.o.trans hsy;clear zx hsy p0;obtain⟨p0,hbt⟩:=HKB.o wy wQ.o;have EC:=au hbt;clear hbt;go_wp2_with fail;cases hn1:aH R.l (i+1) [60]with
      |out=>exact(dJ hn1).elim
      |err c ln col=>have kT:=au hn1;clear hn1;refine(dP R HL.o wy.heap.size ⟨#[60]⟩ _ (i+1) d (DV.o.quiet (bK.alloc _)) dc (aj (aC _ _) 0 _ rfl)).mono ?_;rintro e wq hp;have hp2:aJ R d iQ (aH R.l (i+1) [60]) _ e wq:=hp;rw[kT.o]at hp2;obtain⟨rfl,sq⟩:=hp2;refine⟨rfl,bg.aZ (c:=c) (ln:=ln) (col:=col) (by rw[HRR.o];unfold qA;simp only[HB0.o,HB1.o,HB2.o,HB3.o,HB4.o,kT.o,Bool.false_eq_true,if_false,if_true,dV.lC]) rfl ?_⟩;exact((wQ.o).mono il).trans ((((Step.refl (·=R.rb) _).alloc _).trans sq).mono il)
      |ok u j1=>
       have kT:=au hn1;clear hn1;refine(dP R HL.o wy.heap.size ⟨#[60]⟩ _ (i+1) d (DV.o.quiet (bK.alloc _)) dc (aj (aC _ _) 0 _ rfl)).mono ?_;rintro e wq1 hp;have hp2:aJ R d iQ (aH R.l (i+1) [60]) _ e wq1:=hp;rw[kT.o]at hp2;obtain⟨⟨v,rfl,rfl⟩,hrq,sq⟩:=hp2;have HRQ1:=au hrq;have HSQ1:Hid (Step (·=R.rb) wy wq1):=((Step.refl (·=R.rb) _).alloc _).trans sq;clear hrq sq p0 hp;obtain⟨p0,hbt⟩:=HKB.o wq1 (wQ.o.trans HSQ1.o);have CJ:Hid (Step (·=R.rb) w wq1):=wQ.o.trans HSQ1.o;clear hbt;go_wp2_with fail;cases hx0:jY f R.l j1 d with
       |out=>exact absurd (by rw[HRR.o];unfold qA;simp only[HB0.o,HB1.o,HB2.o,HB3.o,HB4.o,kT.o,(au hx0).out,Bool.false_eq_true,if_false,if_true,dV.bind_ok,dV.uJ]) eX.o
       |err c ln col=>have HX0:=au hx0;clear hx0;refine(IH.o R _ j1 d HL.o HRQ1.o hd (by rw[HX0.o];intro h;cases h)).mono ?_;rintro e wq hp;rw[HX0.o]at hp;obtain⟨rfl,sq⟩:=hp;refine⟨rfl,bg.aZ (c:=c) (ln:=ln) (col:=col) (by rw[HRR.o];unfold qA;simp only[HB0.o,HB1.o,HB2.o,HB3.o,HB4.o,kT.o,HX0.o,Bool.false_eq_true,if_false,if_true,dV.bind_ok,dV.lC]) rfl ?_⟩;exact(CJ.o.mono il).trans (sq.mono il)
       |ok ty0 jx0=>
        have HX0:=au hx0;clear hx0;refine(IH.o R _ j1 d HL.o HRQ1.o hd (by rw[HX0.o];intro h;cases h)).mono ?_;rintro e Y4 hp;rw[HX0.o]at hp;obtain⟨⟨v,rfl,cs,rfl,hty⟩,hrx,hsx⟩:=hp;have HTY0:=au hty;obtain⟨ty,Vh⟩:=aN ty0;have HTE0:=au Vh;obtain⟨k0,jf,lf0,jg,uo,zy,l0,c0⟩:=ty0;rw[iC]at hty;obtain⟨vl0,va0,xs0,rfl,-,-,-,⟨a1,c1,rfl,-⟩,-,⟨a2,c2,rfl,-⟩⟩:=hty;have HRX0:=au hrx;have HSX0:=au hsx;clear hrx hsx Vh;have G6:Hid (Step (·=R.rb) w Y4):=CJ.o.trans HSX0.o;obtain⟨-,hbt⟩:=HKB.o Y4 G6.o;obtain⟨w3,hw3⟩:=aN (Y4.alloc (.cells #[ak k0,a_ jf,a_ lf0,dW jg,.slice a1 uo.length c1,.slice a2 zy.length c2,ak l0,ak c0] 46));(have fK:Hid (StF Y4 w3):=by rw[hw3];exact bK.alloc _);(have HK3:Hid (w3.heap[Y4.heap.size]?=some (.cells #[ak k0,a_ jf,a_ lf0,dW jg,.slice a1 uo.length c1,.slice a2 zy.length c2,ak l0,ak c0] 46 (0,0))):=by rw[hw3];exact aC _ _);have OT:=fK.o.keep hbt (fun h=>h);have MG:=au OT;have ou:=aj OT 0 _ rfl;have oz:=aI OT 0;have zT:=aj OT 5 _ rfl;have Y5:=aI OT 5;have p0':w3.cell? ⟨bp,0,none⟩=some (.pointer (some ⟨R.rb,0,none⟩)):=(HKB.o w3 (G6.o.trans (fK.o.mono fe))).1;have hxz:=G6.o.size;obtain⟨w4,hw4⟩:=aN ((w3.setCell ⟨bt,0,none⟩ (.int .i64 6)).setCell ⟨bt,5,none⟩ (.slice (some ⟨Y4.heap.size,0,none⟩) 1 1));(have gq:Hid (Step (·=bt) w3 w4):=by rw[hw4];exact((Step.refl (·=bt) _).setCell _ _ iW).setCell _ _ iW);(have rO:Hid (w4.heap[bt]?=some (.cells #[ak 6,aO,aO,aT,ay,.slice (some ⟨Y4.heap.size,0,none⟩) 1 1,ak t.line,ak t.col] 46 (0,0))):=by rw[hw4];exact aW (aW OT 0 (.int .i64 6)) 5 _);have HK4:=au (gq.o.keep HK3.o om);have oM:Hid (Step (fun k=>k=R.rb∨k=bt) w w4):=((G6.o.trans (fK.o.mono fe)).mono il).trans (gq.o.mono ir);have HR4:=au ((HRX0.o.quiet fK.o).step gq.o oi);have p0:w4.cell? ⟨bp,0,none⟩=some (.pointer (some ⟨R.rb,0,none⟩)):=gq.o.cell p0' (fun e=>by have e2:bp=bt:=e;omega);rw[hw3]at ou oz zT Y5;clear hbt OT p0';(go_upto_region 14 with fail);rw[←hw3,←hw4];clear ou oz zT Y5 hw3 hw4;go_wp2_with fail;cases hn2:aH R.l jx0 [62]with
        |out=>exact(dJ hn2).elim
        |err c ln col=>have m_:=au hn2;clear hn2;refine(dP R HL.o w4.heap.size ⟨#[62]⟩ _ jx0 d (HR4.o.quiet (bK.alloc _)) dc (aj (aC _ _) 0 _ rfl)).mono ?_;rintro e wq hp;have hp2:aJ R d iQ (aH R.l jx0 [62]) _ e wq:=hp;rw[m_.o]at hp2;obtain⟨rfl,sq⟩:=hp2;refine⟨rfl,bg.aZ (c:=c) (ln:=ln) (col:=col) (by rw[HRR.o];unfold qA;simp only[HB0.o,HB1.o,HB2.o,HB3.o,HB4.o,kT.o,HX0.o,m_.o,Bool.false_eq_true,if_false,if_true,dV.bind_ok,dV.lC]) rfl ?_⟩;exact(oM.o).trans ((((Step.refl (·=R.rb) _).alloc _).trans sq).mono il)
        |ok u j2=>
         have m_:=au hn2;clear hn2;refine(dP R HL.o w4.heap.size ⟨#[62]⟩ _ jx0 d (HR4.o.quiet (bK.alloc _)) dc (aj (aC _ _) 0 _ rfl)).mono ?_;rintro e wq2 hp;have hp2:aJ R d iQ (aH R.l jx0 [62]) _ e wq2:=hp;rw[m_.o]at hp2;obtain⟨⟨v,rfl,rfl⟩,hrq,sq⟩:=hp2;have HRQ2:=au hrq;have HSQ2:Hid (Step (·=R.rb) w4 wq2):=((Step.refl (·=R.rb) _).alloc _).trans sq;clear hrq sq p0 hp;go_wp2_with fail;refine bodyPost_end (results_none rfl _ _ _) rfl ?_;have hsf:Step (·=R.rb) w4 wq2:=HSQ2.o;refine bg.dU (a:=.mk 6 bZ bZ false [] [Ty.mk k0 jf lf0 jg uo zy l0 c0] (tokA R.l i).line (tokA R.l i).col) (j:=j2) (by rw[HRR.o];unfold qA;simp only[HB0.o,HB1.o,HB2.o,HB3.o,HB4.o,kT.o,HX0.o,m_.o,Bool.false_eq_true,if_false,if_true,dV.bind_ok]) rfl ⟨[.int .i64 6,.string bZ,.string bZ,.bool false,.slice none 0 0,.slice (some ⟨Y4.heap.size,0,none⟩) 1 1,.int .i64 t.line,.int .i64 t.col],hsf.keep rO.o om,?_⟩ HRQ2.o (oM.o.trans (hsf.mono il));rw[iC,←HT.o];have yV:Step (fun k=>k=R.rb∨k=bt) Y4 wq2:=((fK.o.mono fe).trans (gq.o.mono ir)).trans (hsf.mono il);refine⟨_,_,[.int .i64 k0,.string jf,.string lf0,.bool jg,.slice a1 uo.length c1,.slice a2 zy.length c2,.int .i64 l0,.int .i64 c0],rfl,by decide,by decide,lu,cu.nil _ _ _,?_,cu.new (hsf.keep HK4.o om) dc om⟩;rw[gy];refine⟨_,[],(List.append_nil _).symm,iC.mono (fun k _ hk=> ?_) _ _ (iC.step yV (fun k hk e=> ?_) _ _ HTY0.o),by rw[gy]⟩
         ·have:=CJ.o.size;omega
         ·have:=CJ.o.size;omega
     |false=>
      have HB4:=au hb4;clear hb4;refine(dQ R HL.o ⟨#[66,111,120]⟩ _ i d Vg.o dc HB4.o).mono ?_;rintro e wn4 ⟨rfl,hrn,hsn⟩;have HRN4:=au hrn;have HSN4:Hid (Step (·=R.rb) w wn4):=MF.o.trans hsn;clear hrn hsn p0;obtain⟨p0,-⟩:=HKB.o wn4 HSN4.o;go_wp2_with fail;cases hb5:bF R.l i [38]with
      |true=>
       have Fq:=au hb5;clear hb5;refine(dA R HL.o ⟨#[38]⟩ _ i d HRN4.o dc Fq.o).mono ?_;rintro e wy ⟨rfl,zx,hsy⟩;have DV:=au zx;have wQ:Hid (Step (·=R.rb) w wy):=HSN4.o.trans hsy;clear zx hsy p0;obtain⟨p0,hbt⟩:=HKB.o wy wQ.o;have EC:=au hbt;clear hbt;obtain⟨oj,hoj⟩:=aN (qy R.l (i+1));obtain⟨os,hos⟩:=aN (uj R.l (i+1));obtain⟨mb,hmb⟩:=aN (bF R.l oj [109,117,116]);obtain⟨mj,hmj⟩:=aN (jb R.l oj [109,117,116]);have hos2:os.size≤9223372036854775807:=by
        rw[hos];unfold uj;split
        ·exact MB HL.o DV.o.lt
        ·decide
       have HOS:=au hos2;(have HOPT:Hid (∀X,bI R X (i+1) d→Calls Tryz.prog 112 #[.agg #[eU R.rb 0]] X fun e w'=>e=.returned (.string os)∧bI R w' oj d∧Step (·=R.rb) X w'):=by intro X hX;rw[hoj,hos];exact JF R HL.o X (i+1) d hX);(have HIS:Hid (∀X,bI R X oj d→Calls Tryz.prog 110 #[.pointer (some ⟨R.rb,0,none⟩),.string ⟨#[109,117,116]⟩] X fun e w'=>e=.returned (.bool mb)∧bI R w' mj d∧Step (·=R.rb) X w'):=by intro X hX;rw[hmb,hmj];exact um R HL.o ⟨#[109,117,116]⟩ X oj d hX dc);(have vI:Hid (r=(jY f R.l mj d).bind fun a j=>.ok (.mk 7 bZ os mb [] [a] (tokA R.l i).line (tokA R.l i).col) j):=by show _=_;rw[HRR.o,hmj,hmb,hos,hoj];unfold qA;simp only[HB0.o,HB1.o,HB2.o,HB3.o,HB4.o,Fq.o,Bool.false_eq_true,if_false,if_true]);clear hoj hos hmb hmj hos2;(go_upto_region 16 with fail);go_cut [] (fun wx=>bI R wx mj d∧wx.heap[bt]?=some (.cells #[ak 7,aO,a_ os,dW mb,ay,ay,ak t.line,ak t.col] 46 (0,0))∧Step (fun k=>k=R.rb∨k=bt) w wx);case first=>
        first
        |(go_region_law (first
            |(go_simp;go_at_call 110;refine(HIS.o _ HRO.o).mono ?_;rintro e9 w9 ⟨rfl,jP,hs9⟩;have QE:=au jP;have Ov:Hid (Step (·=R.rb) w w9):=(HSO.o).trans hs9;clear jP hs9;obtain⟨p9,iJ⟩:=HKB.o w9 Ov.o;have HBT9:=au iJ;have ou:=aj iJ 0 _ rfl;have oz:=aI iJ 0;have YE:=aj iJ 2 _ rfl;have YF:=aI iJ 2;have bt3:=aj iJ 3 _ rfl;have bz3:=aI iJ 3;clear iJ)
            |(go_simp;go_at_call 112;refine(HOPT.o _ (DV.o.quiet (bK.drew))).mono ?_;rintro e8 w8 ⟨rfl,vW,hs8⟩;have HRO:=au vW;have HSO:Hid (Step (·=R.rb) w w8):=wQ.o.trans (((Step.refl (·=R.rb) _).drew).trans hs8);clear vW hs8;obtain⟨p8,-⟩:=HKB.o w8 HSO.o)))
        |fail
        all_goals (
         go_wp2_with fail
         go_meet
         case rel=>exact⟨QE.o.step ((((Step.refl (·=bt) w9).setCell _ _ iW).setCell _ _ iW).setCell _ _ iW) oi,aW (aW (aW HBT9.o 0 (.int .i64 7)) 2 (.string os)) 3 (.bool mb),(Ov.o.mono il).trans (((((Step.refl (·=bt) w9).setCell _ _ iW).setCell _ _ iW).setCell _ _ iW).mono ir)⟩)
       case rest=>
        obtain⟨hrc,hbc,hsc⟩:=hcut;obtain⟨w4,rfl⟩:=aN wc;have HR4:=au hrc;have rO:=au hbc;have oM:=au hsc;clear hrc hbc p0;have p0:w4.cell? ⟨bp,0,none⟩=some (.pointer (some ⟨R.rb,0,none⟩)):=hsc.cell HBP.o (fun e=>by have e2:bp=R.rb∨bp=bt:=e;omega);clear hsc;go_wp2_with fail;cases hx1:jY f R.l mj d with
        |out=>exact absurd (by rw[vI.o];simp only[(au hx1).out,dV.uJ]) eX.o
        |err c ln col=>have HX1:=au hx1;clear hx1;refine(IH.o R _ mj d HL.o HR4.o hd (by rw[HX1.o];intro h;cases h)).mono ?_;rintro e wq hp;rw[HX1.o]at hp;obtain⟨rfl,sq⟩:=hp;refine⟨rfl,bg.aZ (c:=c) (ln:=ln) (col:=col) (by rw[vI.o];simp only[HX1.o,dV.lC]) rfl ?_⟩;exact(oM.o).trans (sq.mono il)
        |ok ty1 jx1=>have HX1:=au hx1;clear hx1;refine(IH.o R _ mj d HL.o HR4.o hd (by rw[HX1.o];intro h;cases h)).mono ?_;rintro e wx1 hp;rw[HX1.o]at hp;obtain⟨⟨v,rfl,cs,rfl,hty⟩,hrx,hsx⟩:=hp;have HTY1:=au hty;obtain⟨ty,Vh⟩:=aN ty1;have HTE1:=au Vh;obtain⟨k0,jf,lf0,jg,uo,zy,l0,c0⟩:=ty1;rw[iC]at hty;obtain⟨vl0,va0,xs0,rfl,-,-,-,⟨a1,c1,rfl,-⟩,-,⟨a2,c2,rfl,-⟩⟩:=hty;have HRX1:=au hrx;have HSX1:=au hsx;clear hrx hsx Vh;obtain⟨w5,hw5⟩:=aN (wx1.alloc (.cells #[ak k0,a_ jf,a_ lf0,dW jg,.slice a1 uo.length c1,.slice a2 zy.length c2,ak l0,ak c0] 46));(have oD:Hid (StF wx1 w5):=by rw[hw5];exact bK.alloc _);(have OJ:Hid (w5.heap[wx1.heap.size]?=some (.cells #[ak k0,a_ jf,a_ lf0,dW jg,.slice a1 uo.length c1,.slice a2 zy.length c2,ak l0,ak c0] 46 (0,0))):=by rw[hw5];exact aC _ _);have qM:=oD.o.keep (HSX1.o.keep rO.o om) (fun h=>h);have Sz:=au qM;have zT:=aj qM 5 _ rfl;have Y5:=aI qM 5;have hxz:=HSX1.o.size;have hxy:=oM.o.size;obtain⟨w6,hw6⟩:=aN (w5.setCell ⟨bt,5,none⟩ (.slice (some ⟨wx1.heap.size,0,none⟩) 1 1));(have rP:Hid (Step (·=bt) w5 w6):=by rw[hw6];exact bK.setCell _ _ iW);(have yX:Hid (w6.heap[bt]?=some (.cells #[ak 7,aO,a_ os,dW mb,ay,.slice (some ⟨wx1.heap.size,0,none⟩) 1 1,ak t.line,ak t.col] 46 (0,0))):=by rw[hw6];exact aW qM 5 _);have Y6:=au (rP.o.keep OJ.o om);rw[hw5]at zT Y5;clear qM;go_wp2_with fail;rw[←hw5,←hw6];clear zT Y5 hw5 hw6;refine bodyPost_end (results_none rfl _ _ _) rfl ?_;have yV:Step (fun k=>k=R.rb∨k=bt) wx1 w6:=(oD.o.mono fe).trans (rP.o.mono ir);refine bg.dU (a:=.mk 7 bZ os mb [] [Ty.mk k0 jf lf0 jg uo zy l0 c0] (tokA R.l i).line (tokA R.l i).col) (j:=jx1) (by rw[vI.o];simp only[HX1.o,dV.bind_ok]) rfl ⟨[.int .i64 7,.string bZ,.string os,.bool mb,.slice none 0 0,.slice (some ⟨wx1.heap.size,0,none⟩) 1 1,.int .i64 t.line,.int .i64 t.col],yX.o,?_⟩ ((HRX1.o.quiet oD.o).step rP.o oi) (oM.o.trans ((HSX1.o.mono il).trans yV));rw[iC,←HT.o];refine⟨_,_,[.int .i64 k0,.string jf,.string lf0,.bool jg,.slice a1 uo.length c1,.slice a2 zy.length c2,.int .i64 l0,.int .i64 c0],rfl,by decide,HOS.o,lu,cu.nil _ _ _,?_,cu.new Y6.o dc om⟩;rw[gy];exact⟨_,[],(List.append_nil _).symm,iC.mono oi _ _ (iC.step yV oi _ _ HTY1.o),by rw[gy]⟩
      |false=>
       have Fq:=au hb5;clear hb5;refine(dQ R HL.o ⟨#[38]⟩ _ i d HRN4.o dc Fq.o).mono ?_;rintro e wn5 ⟨rfl,hrn,hsn⟩;have HRN5:=au hrn;have HSN5:Hid (Step (·=R.rb) w wn5):=HSN4.o.trans hsn;clear hrn hsn p0;obtain⟨p0,-⟩:=HKB.o wn5 HSN5.o;go_wp2_with fail;cases hb6:bF R.l i [100,121,110]with
       |true=>
        have DW:=au hb6;clear hb6;refine(dA R HL.o ⟨#[100,121,110]⟩ _ i d HRN5.o dc DW.o).mono ?_;rintro e wy ⟨rfl,zx,hsy⟩;have DV:=au zx;have wQ:Hid (Step (·=R.rb) w wy):=HSN5.o.trans hsy;clear zx hsy p0;obtain⟨p0,hbt⟩:=HKB.o wy wQ.o;have EC:=au hbt;clear hbt;go_wp2_with fail;cases hn3:aS R.l (i+1)with
        |out=>exact(iV hn3).elim
        |err c ln col=>have tJ:=au hn3;clear hn3;refine(name_any R HL.o _ (i+1) d DV.o).mono ?_;rintro e wq hp;rw[tJ.o]at hp;obtain⟨rfl,sq⟩:=hp;refine⟨rfl,bg.aZ (c:=c) (ln:=ln) (col:=col) (by rw[HRR.o];unfold qA;simp only[HB0.o,HB1.o,HB2.o,HB3.o,HB4.o,Fq.o,DW.o,tJ.o,Bool.false_eq_true,if_false,if_true,dV.lC]) rfl ?_⟩;exact(wQ.o.mono il).trans (sq.mono il)
        |ok nm j3=>
         have tJ:=au hn3;have HNS3:=au (fV HL.o (DV.o).lt hn3);clear hn3;refine(name_any R HL.o _ (i+1) d DV.o).mono ?_;rintro e wq3 hp;rw[tJ.o]at hp;obtain⟨⟨v,rfl,rfl⟩,hrq,sq⟩:=hp;have HRQ3:=au hrq;have HSQ3:Hid (Step (·=R.rb) wy wq3):=sq;clear hrq sq p0;obtain⟨p0,hbt⟩:=HKB.o wq3 (wQ.o.trans HSQ3.o);have CJ:Hid (Step (·=R.rb) w wq3):=wQ.o.trans HSQ3.o;have nI:=au hbt;clear hbt;have ou:=aj nI.o 0 _ rfl;have oz:=aI nI.o 0;have Hz:=aj nI.o 1 _ rfl;have H6:=aI nI.o 1;obtain⟨w4,hw4⟩:=aN ((wq3.setCell ⟨bt,0,none⟩ (.int .i64 8)).setCell ⟨bt,1,none⟩ (.string nm));(have gq:Hid (Step (·=bt) wq3 w4):=by rw[hw4];exact(((Step.refl (·=bt) _).setCell _ _ iW).setCell _ _ iW));(have rO:Hid (w4.heap[bt]?=some (.cells #[ak 8,a_ nm,aO,aT,ay,ay,ak t.line,ak t.col] 46 (0,0))):=by rw[hw4];exact(aW (aW nI.o 0 (.int .i64 8)) 1 (.string nm)));have oM:Hid (Step (fun k=>k=R.rb∨k=bt) w w4):=(CJ.o.mono il).trans (gq.o.mono ir);have HR4:=au ((HRQ3.o).step gq.o oi);have p4:w4.cell? ⟨bp,0,none⟩=some (.pointer (some ⟨R.rb,0,none⟩)):=gq.o.cell p0 (fun e=>by have e2:bp=bt:=e;omega);(go_upto_region 20 with fail);rw[←hw4];clear p0 hw4 ou oz Hz H6;have p0:=p4;clear p4;go_wp2_with fail;cases hb7:bF R.l j3 [43]with
         |false=>have LG:=au hb7;clear hb7;refine(dQ R HL.o ⟨#[43]⟩ _ j3 d HR4.o dc LG.o).mono ?_;rintro e wz ⟨rfl,hrz,hsz⟩;have G7:=au hrz;have Fv:=au hsz;clear hrz hsz p0;go_wp2_with fail;refine bodyPost_end (results_none rfl _ _ _) rfl ?_;refine bg.dU (a:=.mk 8 nm bZ false [] [] (tokA R.l i).line (tokA R.l i).col) (j:=j3) (by rw[HRR.o];unfold qA;simp only[HB0.o,HB1.o,HB2.o,HB3.o,HB4.o,Fq.o,DW.o,tJ.o,LG.o,Bool.false_eq_true,if_false,if_true,dV.bind_ok]) rfl ⟨[.int .i64 8,.string nm,.string bZ,.bool false,.slice none 0 0,.slice none 0 0,.int .i64 t.line,.int .i64 t.col],Fv.o.keep rO.o om,?_⟩ G7.o (oM.o.trans (Fv.o.mono il));rw[iC,←HT.o];exact⟨_,_,[],rfl,HNS3.o,by decide,lu,cu.nil _ _ _,by rw[gy],cu.nil _ _ _⟩
         |true=>
          have LG:=au hb7;clear hb7;refine(dA R HL.o ⟨#[43]⟩ _ j3 d HR4.o dc LG.o).mono ?_;rintro e wz ⟨rfl,hrz,hsz⟩;have G7:=au hrz;have Fv:=au hsz;have Sz:=au (hsz.keep rO.o om);have SA:Hid (Step (fun k=>k=R.rb∨k=bt) w wz):=oM.o.trans (hsz.mono il);have p1:=hsz.cell p0 (fun e=>by have e2:bp=R.rb:=e;omega);clear hrz hsz p0;have p0:=p1;clear p1;go_wp2_with fail;cases hn4:jw R.l (j3+1)with
          |out=>exact(CX hn4).elim
          |err c ln col=>have OU:=au hn4;clear hn4;refine(xM R HL.o _ (j3+1) d G7.o).mono ?_;rintro e wq hp;rw[OU.o]at hp;obtain⟨rfl,sq⟩:=hp;refine⟨rfl,bg.aZ (c:=c) (ln:=ln) (col:=col) (by rw[HRR.o];unfold qA;simp only[HB0.o,HB1.o,HB2.o,HB3.o,HB4.o,Fq.o,DW.o,tJ.o,LG.o,OU.o,Bool.false_eq_true,if_false,if_true,dV.bind_ok,dV.lC]) rfl ?_⟩;exact SA.o.trans (sq.mono il)
          |ok lf j4=>have OU:=au hn4;have QG:=au (zS HL.o (G7.o).lt hn4);clear hn4;refine(xM R HL.o _ (j3+1) d G7.o).mono ?_;rintro e wq4 hp;rw[OU.o]at hp;obtain⟨⟨v,rfl,rfl⟩,hrq,sq⟩:=hp;have xN:=au hrq;have yX:=au (sq.keep Sz.o om);have HS06:Hid (Step (fun k=>k=R.rb∨k=bt) w wq4):=SA.o.trans (sq.mono il);clear hrq sq p0;have YE:=aj yX.o 2 _ rfl;have YF:=aI yX.o 2;go_wp2_with fail;refine bodyPost_end (results_none rfl _ _ _) rfl ?_;have hst:Step (·=bt) wq4 (wq4.setCell ⟨bt,2,none⟩ (.string lf)):=bK.setCell _ _ iW;refine bg.dU (a:=.mk 8 nm lf false [] [] (tokA R.l i).line (tokA R.l i).col) (j:=j4) (by rw[HRR.o];unfold qA;simp only[HB0.o,HB1.o,HB2.o,HB3.o,HB4.o,Fq.o,DW.o,tJ.o,LG.o,OU.o,Bool.false_eq_true,if_false,if_true,dV.bind_ok]) rfl ⟨[.int .i64 8,.string nm,.string lf,.bool false,.slice none 0 0,.slice none 0 0,.int .i64 t.line,.int .i64 t.col],aW yX.o 2 (.string lf),?_⟩ (xN.o.step hst oi) (HS06.o.trans (hst.mono ir));rw[iC,←HT.o];exact⟨_,_,[],rfl,HNS3.o,QG.o,lu,cu.nil _ _ _,by rw[gy],cu.nil _ _ _⟩
       |false=>
        have DW:=au hb6;clear hb6;refine(dQ R HL.o ⟨#[100,121,110]⟩ _ i d HRN5.o dc DW.o).mono ?_;rintro e wn6 ⟨rfl,hrn,hsn⟩;have HRN6:=au hrn;have Y7:Hid (Step (·=R.rb) w wn6):=HSN5.o.trans hsn;clear hrn hsn p0;obtain⟨p0,-⟩:=HKB.o wn6 Y7.o;go_wp2_with fail;cases UL:aS R.l i with
        |out=>exact(iV UL).elim
        |err c ln col=>have HN5:=au UL;clear UL;refine(name_any R HL.o _ i d HRN6.o).mono ?_;rintro e wq hp;rw[HN5.o]at hp;obtain⟨rfl,sq⟩:=hp;refine⟨rfl,bg.aZ (c:=c) (ln:=ln) (col:=col) (by rw[HRR.o];unfold qA;simp only[HB0.o,HB1.o,HB2.o,HB3.o,HB4.o,Fq.o,DW.o,HN5.o,Bool.false_eq_true,if_false,dV.lC]) rfl ?_⟩;exact(Y7.o.mono il).trans (sq.mono il)
        |ok nm j5=>
         have HN5:=au UL;have HNS5:=au (fV HL.o (HRN6.o).lt UL);clear UL;refine(name_any R HL.o _ i d HRN6.o).mono ?_;rintro e wq5 hp;rw[HN5.o]at hp;obtain⟨⟨v,rfl,rfl⟩,hrq,sq⟩:=hp;have HRQ5:=au hrq;have HSQ5:Hid (Step (·=R.rb) wn6 wq5):=sq;clear hrq sq p0;obtain⟨p0,hbt⟩:=HKB.o wq5 (Y7.o.trans HSQ5.o);have CJ:Hid (Step (·=R.rb) w wq5):=Y7.o.trans HSQ5.o;have nI:=au hbt;clear hbt;have ou:=aj nI.o 0 _ rfl;have oz:=aI nI.o 0;have Hz:=aj nI.o 1 _ rfl;have H6:=aI nI.o 1;obtain⟨w4,hw4⟩:=aN ((wq5.setCell ⟨bt,0,none⟩ (.int .i64 5)).setCell ⟨bt,1,none⟩ (.string nm));(have gq:Hid (Step (·=bt) wq5 w4):=by rw[hw4];exact(((Step.refl (·=bt) _).setCell _ _ iW).setCell _ _ iW));(have rO:Hid (w4.heap[bt]?=some (.cells #[ak 5,a_ nm,aO,aT,ay,ay,ak t.line,ak t.col] 46 (0,0))):=by rw[hw4];exact(aW (aW nI.o 0 (.int .i64 5)) 1 (.string nm)));have oM:Hid (Step (fun k=>k=R.rb∨k=bt) w w4):=(CJ.o.mono il).trans (gq.o.mono ir);have HR4:=au ((HRQ5.o).step gq.o oi);have p4:w4.cell? ⟨bp,0,none⟩=some (.pointer (some ⟨R.rb,0,none⟩)):=gq.o.cell p0 (fun e=>by have e2:bp=bt:=e;omega);(go_upto_region 1 with fail);rw[←hw4];clear p0 hw4 ou oz Hz H6;have p0:=p4;clear p4;go_wp2_with fail;(have hbr:R.rb<bt:=by omega);cases hx:DU f R.l j5 d with
         |out=>have HX:=au hx;exact absurd (by rw[HRR.o,CY HB0.o HB1.o HB2.o HB3.o HB4.o Fq.o DW.o,HN5.o,dV.bind_ok,HX.o];rfl) eX.o
         |err c ln col=>have HX:=au hx;clear hx;refine(IHA.o R _ j5 d bt 5 nm t HL.o HR4.o hd hbr rO.o (by rw[HX.o];intro h;cases h)).mono ?_;rintro e wq hp;rw[HX.o]at hp;obtain⟨rfl,sq⟩:=hp;refine⟨rfl,bg.aZ (c:=c) (ln:=ln) (col:=col) (by rw[HRR.o,CY HB0.o HB1.o HB2.o HB3.o HB4.o Fq.o DW.o,HN5.o,dV.bind_ok,HX.o];rfl) rfl ?_⟩;exact oM.o.trans sq
         |ok p jx=>have HX:=au hx;clear hx;refine(IHA.o R _ j5 d bt 5 nm t HL.o HR4.o hd hbr rO.o (by rw[HX.o];intro h;cases h)).mono ?_;rintro e wx hp;rw[HX.o]at hp;obtain⟨rfl,⟨vl,va,xs,hbx,hsz,hrl,hts,hra⟩,hrx,hsx⟩:=hp;have HP:=au hsz;have Vj:=au hbx;have xN:=au hrl;have HTS:=au hts;have oK:=au hra;have vX:=au hrx;have rQ:=au hsx;clear hsz hbx hrl hts hra hrx hsx p0;go_wp2_with fail;refine bodyPost_end (results_none rfl _ _ _) rfl ?_;have hz:=oM.o.size;refine bg.dU (a:=.mk 5 nm bZ false p.1 p.2 (tokA R.l i).line (tokA R.l i).col) (j:=jx) (by rw[HRR.o,CY HB0.o HB1.o HB2.o HB3.o HB4.o Fq.o DW.o,HN5.o,dV.bind_ok,HX.o];rfl) rfl ⟨[.int .i64 5,.string nm,.string bZ,.bool false,vl,va,.int .i64 t.line,.int .i64 t.col],Vj.o,?_⟩ vX.o (oM.o.trans rQ.o);rw[iC,←HT.o];exact⟨_,_,xs,rfl,HNS5.o,by decide,HP.o,xN.o.mono oi,gy.mono oi _ _ HTS.o,oK.o.mono oi⟩
theorem Tryz.eF:(Tryz.prog.info? 46).map (·.size)=some 8:=by kernel_rfl
theorem DX:Enters 109:=fun xs w=>by go_simp
theorem iC.parts {w:World} {P:Nat→Prop} {ty:Ty} {cs:List Value} (h:iC w P ty cs):∃(k:Int) (nm lf:ByteArray) (m:Bool) (a1:Option Addr) (n1 c1:Nat) (a2:Option Addr) (n2 c2:Nat) (l c:Int),cs=[.int .i64 k,.string nm,.string lf,.bool m,.slice a1 n1 c1,.slice a2 n2 c2,.int .i64 l,.int .i64 c]:=by obtain⟨k0,jf,lf0,jg,uo,zy,l0,c0⟩:=ty;rw[iC]at h;obtain⟨vl0,va0,xs0,rfl,-,-,-,⟨a1,c1,rfl,-⟩,-,⟨a2,c2,rfl,-⟩⟩:=h;exact⟨_,_,_,_,_,_,_,_,_,_,_,_,rfl⟩
theorem Vk (f:Nat) (ih:qR f) (iha:Fp f):qR (f+1):=by
 intro R w i d hl h hd hno;have hmf:∀(fn:Fn) (first cap:Array Value) (w:World),(Instr.makeFunc fn first cap).run Tryz.prog w=.ok (.func fn first cap) w:=fun _ _ _ _=>rfl;have HL:=au hl;have H0:=au h;have eX:=au hno;obtain⟨r,hr⟩:=aN (jY (f+1) R.l i d);have HRR:=au hr;rw[←hr];obtain⟨t,ht⟩:=aN (tokA R.l i);have HT:=au ht;have rU:=aK h.blk;obtain⟨w1,hw1⟩:=aN ((w.alloc (.cells #[eU R.rb 0] 97)).alloc (.cells #[ak 0,di,di,aT,ay,ay,ak 0,ak 0] 46));have dH:=nT hw1
 have kL:=nC hw1
 have kT:=nD hw1
 have HW1:=au hw1;have H1:=au (h.quiet dH.o);have p0:w1.cell? ⟨w.heap.size,0,none⟩=some (.pointer (some ⟨R.rb,0,none⟩)):=aj kL.o 0 _ rfl;have HAT:=au (at_at R w1 i d t H1.o (by rw[ht];exact H1.o.tok));clear hl h hno hr hw1 ht;go_enter Tryz.func69,Tryz.ntmps69;go_upto_region 1 with fail
 rw[←HW1.o];go_wp2_with fail;refine HAT.o.mono ?_;rintro e w2 ⟨rfl,h2⟩;have HS2:=au (dH.o.trans h2);have HP2:=au (h2.keep kL.o (fun h=>h));have m_:=au (h2.keep kT.o (fun h=>h));have hn1:=aK m_.o;obtain⟨w3,hw3⟩:=aN (w2.alloc (.cells #[ak 0,aO,aO,aT,ay,ay,ak t.line,ak t.col] 46));have jv:=nS hw3
 have HB3:=nB hw3
 have fK:=au (HS2.o.trans jv.o);have yY:=au (jv.o.keep HP2.o (fun h=>h));have tJ:=au (jv.o.keep m_.o (fun h=>h));have H3:=au (H0.o.quiet fK.o);have HW3:=au hw3;clear h2 hw3 p0;have p0:w3.cell? ⟨w.heap.size,0,none⟩=some (.pointer (some ⟨R.rb,0,none⟩)):=aj yY.o 0 _ rfl;go_upto_region 2 with fail
 have hx3:w2.alloc (.cells #[ak 0,di,di,aT,ay,ay,ak t.line,ak t.col] 46)=w3:=HW3.o.symm;rw[hx3];clear hx3;go_wp2_with fail;by_cases Vl:d=40
 ·refine(zN R _ [.pointer (some ⟨w.heap.size,0,none⟩),.pointer (some ⟨w2.heap.size,0,none⟩)] w3 i d t H3.o (by rw[HT.o];exact H3.o.tok) Vl).mono ?_;rintro e w4 ⟨rfl,h4⟩;refine⟨rfl,?_⟩;rw[HRR.o,IQ,if_pos Vl,eP,←HT.o];exact⟨rfl,(fK.o.trans h4).mono fe⟩
 ·have o_:Hid (r=qA f R.l i (d+1)):=by show _=_;rw[HRR.o,IQ,if_neg Vl]
  have hnb:qA f R.l i (d+1)≠.out:=fun e=>eX.o (by rw[←HRR.o,o_.o,e]);have MH:Hid (∀X,bI R X i (d+1)→Step (·=R.rb) w3 X→Calls Tryz.prog 109 #[.pointer (some ⟨w.heap.size,0,none⟩),.pointer (some ⟨w2.heap.size,0,none⟩)] X (bg R (d+1) w2.heap.size (OL X.heap.size w2.heap.size) (qA f R.l i (d+1)) X)):=fun X hX hs=>Vb R f ih iha w.heap.size w2.heap.size X i (d+1) t HL.o hX om (hs.keep yY.o om) (hs.keep HB3.o om) om om HT.o hnb
  have MI:d<40:=by omega
  cases hb:qA f R.l i (d+1)with
  |out=>exact absurd hb hnb
  |err c ln col=>
   have HB:=au hb;clear hb;refine(Fj R _ [.pointer (some ⟨w.heap.size,0,none⟩),.pointer (some ⟨w2.heap.size,0,none⟩)] w3 i d (Q:=fun X=>Step (fun k=>k=R.rb∨k=w2.heap.size) w3 X) (hk:=DX) (h:=H3.o) (hd:=MI) (hby:=fun X hX hs=> ?_) (es:=[{v:=.iface 251 (.agg #[ak c,ak ln,ak col]),recovered:=false}])).mono ?_
   ·refine(MH.o X hX hs).mono ?_;intro e X2 hp;rw[HB.o]at hp;exact⟨hp.1,(hs.mono il).trans hp.2⟩
   ·rintro e w4 ⟨rfl,h4⟩;refine⟨rfl,?_⟩;rw[o_.o,HB.o];exact⟨rfl,(fK.o.mono fe).then h4 oi⟩
  |ok ty j=>
   have HB:=au hb;clear hb;refine(JE R _ [.pointer (some ⟨w.heap.size,0,none⟩),.pointer (some ⟨w2.heap.size,0,none⟩)] w3 i d (fun i' X=>i'=j∧OL w3.heap.size w2.heap.size X ty∧Step (fun k=>k=R.rb∨k=w2.heap.size) w3 X) DX H3.o MI (fun X hX hs=> ?_)).mono ?_
   ·refine(MH.o X hX hs).mono ?_;intro e X2 hp;rw[HB.o]at hp;obtain⟨he,⟨cs,hc,ht⟩,hr,hs2⟩:=hp;exact⟨he,j,hr,rfl,⟨cs,hc,iC.mono (fun k _ hk=>by have:=hs.size;omega) _ _ ht⟩,(hs.mono il).trans hs2⟩
   ·rintro e w4 ⟨rfl,i',X,⟨rfl,⟨cs,hc,hty⟩,hsx⟩,hr4,hs4⟩;have hlt3:=aK HB3.o;have hb4:=hs4.keep hc om;have JG:=iC.step hs4 oi _ _ hty;have OV:Step (fun k=>k=R.rb∨k=w2.heap.size) w3 w4:=hsx.trans (hs4.mono il);obtain⟨k0,jf,lf0,jg,a1,n1,c1,a2,n2,c2,l0,c0,rfl⟩:=JG.parts;have HR4:=au hr4;have OW:=au JG;have l_:=au OV;have HB4:=au hb4;have OU:=au (OV.keep tJ.o om);(have iD:Hid (∀(jj:Nat) v,[Value.int .i64 k0,a_ jf,a_ lf0,dW jg,.slice a1 n1 c1,.slice a2 n2 c2,ak l0,ak c0][jj]?=some v→w4.cell? ⟨w2.heap.size,0+jj,none⟩=some v):=by intro jj v hv;rw[Nat.zero_add];exact aj HB4.o jj v rF);have eG:=au (iC.one JG);have hsz3:=jv.o.size;clear hc hty hsx hr4 hs4 hb4 JG OV p0;go_wp2_with (first
     |(refine aA rfl 46 (.tmp 3) rfl w2.heap.size 0 rfl [.int .i64 k0,.string jf,.string lf0,.bool jg,.slice a1 n1 c1,.slice a2 n2 c2,.int .i64 l0,.int .i64 c0] _ iD.o Tryz.underlying46 rfl Tryz.eF ?_)
     |(refine aG (w:=w4) rfl 46 (.tmp 2) (.tmp 12) rfl (w.heap.size+1) 0 46 _ [.int .i64 k0,.string jf,.string lf0,.bool jg,.slice a1 n1 c1,.slice a2 n2 c2,.int .i64 l0,.int .i64 c0] rfl rfl OU.o Tryz.eF (Nat.le_of_eq rfl) eG.o ?_;intro w5 hb5 hst5))
    have JH:w5.heap[w.heap.size+1]?=some (.cells [Value.int .i64 k0,a_ jf,a_ lf0,dW jg,.slice a1 n1 c1,.slice a2 n2 c2,ak l0,ak c0].toArray 46 (0,0)):=hb5;refine bodyPost_ret (aY rfl _ (w.heap.size+1) 46 _ _ rfl JH Tryz.underlying46 rfl Tryz.eF) rfl ?_;rw[o_.o,HB.o];refine⟨⟨_,rfl,_,rfl,iC.mono (fun k _ hk=>by have:=fK.o.size;omega) _ _ (iC.step hst5 oi _ _ OW.o)⟩,HR4.o.step hst5 oi,?_⟩;have hs04:Step (·=R.rb) w w4:=(fK.o.mono fe).then l_.o oi;exact hs04.then hst5 oi
theorem Vm {w w':World} {base size n g c:Nat} {e:TypeId} {xs zs cs:List Value} {cur:Array Value} (h:w.ownsRow base e size (.slice (some ⟨g,0,none⟩) (n+1) c) (n+1) (xs++zs)) (hx:xs.length=n*size) (hc:cs.length=size) (hg:w.heap[g]?=some (.cells cur e (0,0))) (hb:w'.heap[g]?=some (.cells (cur.toList.take (n*size)++(cs++cur.toList.drop (n*size+cs.length))).toArray e (0,0))):w'.ownsRow base e size (.slice (some ⟨g,0,none⟩) (n+1) c) (n+1) (xs++cs):=by
 rcases h.2 with⟨h1,-⟩|⟨g',cap,cur',h1,h2,h3,h4,h5,h6,h7⟩
 ·cases h1
 ·cases h1;rw[hg]at h3;cases h3;have hsz:(n+1)*size=n*size+size:=by rw[Nat.add_mul,Nat.one_mul]
  have hcap:(n+1)*size≤c*size:=Nat.mul_le_mul_right _ h4;have hct:(cur.toList.take (n*size)).length=n*size:=by simp;omega
  have hxt:cur.toList.take (n*size)=xs:=by (have h8:(cur.toList.take ((n+1)*size)).take (n*size)=(xs++zs).take (n*size):=by rw[h7]);rw[List.take_take,Nat.min_eq_left om]at h8;rw[h8,←hx,List.take_left]
  refine⟨by rw[List.length_append,hx,hc,hsz],.inr ⟨g,c,_,rfl,h2,hb,h4,h5,?_,?_⟩⟩
  ·simp;omega
  ·show(cur.toList.take (n*size)++(cs++cur.toList.drop (n*size+cs.length))).take ((n+1)*size)=xs++cs;rw[←List.append_assoc,List.take_append_of_le_length (by rw[List.length_append,hct,hc];omega),List.take_of_length_le (by rw[List.length_append,hct,hc];omega),hxt]
theorem vY {w:World} {base size n:Nat} {e:TypeId} {v:Value} {xs:List Value} (h:w.ownsRow base e size v n xs) (hn:0<n):∃g c cur,v=.slice (some ⟨g,0,none⟩) n c∧base≤g∧w.heap[g]?=some (.cells cur e (0,0))∧n*size≤cur.size:=by
 rcases h.2 with⟨-,h2⟩|⟨g,cap,cur,h1,h2,h3,h4,h5,h6,h7⟩
 ·omega
 ·exact⟨g,cap,cur,h1,h2,h3,by rw[h6];exact Nat.mul_le_mul_right _ h4⟩
def pq {α:Type} (p:α→Bool) (l:List α):Int:=match l.findIdx? p with|some i=>i|none=> -1
theorem yQ {α:Type} {p:α→Bool} {l:List α} (h:∀x∈l,p x=false):pq p l= -1:=by unfold pq;rw[List.findIdx?_eq_none_iff.2 h]
theorem uO {α:Type} {p:α→Bool} {l:List α} {i:Nat} {x:α} (hx:l[i]?=some x) (hp:p x=true) (h:∀j,j<i→∀y,l[j]?=some y→p y=false):pq p l=i:=by obtain⟨hi,rfl⟩:=List.getElem?_eq_some_iff.1 hx;unfold pq;rw[List.findIdx?_eq_some_iff_getElem.2 ⟨hi,hp,fun j hj=>by rw[h j hj _ (List.getElem?_eq_getElem om)];simp⟩]
theorem JI {α:Type} (p:α→Bool) (l:List α):decide (0≤pq p l)=l.any p:=by
 unfold pq;cases h:l.findIdx? p with
 |none=>
  have:=List.findIdx?_eq_none_iff.1 h;have h2:l.any p=false:=by rw[List.any_eq_false];intro x hx;simp[this x hx]
  rw[h2];rfl
 |some i=>obtain⟨hi,hp,_⟩:=List.findIdx?_eq_some_iff_getElem.1 h;have h2:l.any p=true:=List.any_eq_true.2 ⟨l[i],List.getElem_mem hi,hp⟩;rw[h2];simp
def eqS (x y:ByteArray):Bool:=x.data.toList==y.data.toList
theorem fF {x y:ByteArray}:eqS x y=true↔x=y:=by unfold eqS;rw[beq_iff_eq];exact⟨fun h=>ByteArray.ext (Array.toList_inj.1 h),fun h=>by rw[h]⟩
theorem ng {x y:ByteArray} {b:Bool} (h:(x.toList==y.toList)=b):eqS x y=b:=by rw[Lib.toList_data,Lib.toList_data]at h;exact h
theorem mg {x:ByteArray} {l:List UInt8} {b:Bool} (h:(x.toList==l)=b):eqS x ⟨l.toArray⟩=b:=by rw[Lib.toList_data]at h;exact h
theorem kz (l:List ByteArray) (i:Nat) (x:ByteArray) (h:l[i]?=some x):(l.map Value.string)[i]?=some (.string x):=by simp[h]
theorem OX (P:Nat→Prop) (x:ByteArray) (l:List ByteArray) (v:Value) (w:World) (h:cu w P v l.length (l.map .string)):Calls Tryz.prog 156 #[v,.string x] w fun e w'=>e=.returned (.int .i64 (pq (eqS x) l))∧StF w w':=by
 obtain⟨a,c,rfl,hcl,hcm,-,hr⟩:=h;have HR:=au hr;clear hr;go_enter Tryz.func156,Tryz.ntmps156;go_wp2_with fail;go_loopg [5,8] l.length (fun gg _ s8 wr=>∃i:Nat,s8=.int .i64 i∧i≤l.length∧l.length-i≤gg∧(∀j,j<i→∀y,l[j]?=some y→eqS x y=false)∧StF w wr);case atStart=>exact⟨0,rfl,Nat.zero_le _,by omega,fun j hj=>absurd hj (Nat.not_lt_zero _),Step.refl _ _⟩
 case round=>
  obtain⟨i,rfl,hi,hgg,hno,hst⟩:=hrel;have eX:=au hno;clear hno;by_cases hlt:i<l.length
  ·obtain⟨y,hx⟩:∃y,l[i]?=some y:=⟨l[i],List.getElem?_eq_getElem hlt⟩;obtain⟨g,o,rfl,-,-,hcell⟩:=HR.o om;have f0:=hst.cell (hcell i _ (kz l i y hx)) (fun h=>h);have HX:=au hx;clear hcell hx;cases hp:(x.toList==y.toList)with
   |true=>have HI:=au (uO (p:=eqS x) HX.o (ng hp) eX.o);go_wp2_with fail;go_ret;exact⟨nZ HI.o.symm,hst⟩
   |false=>
    have HP:=au (ng hp);go_wp2_with fail;go_roundg (gk-1);case rel=>
     refine⟨i+1,by go_num,by omega,by omega,fun j hj y hy=> ?_,hst⟩;rcases Nat.lt_succ_iff_lt_or_eq.1 hj with h|rfl
     ·exact eX.o j h y hy
     ·rw[HX.o]at hy;cases hy;exact HP.o
    case measure=>omega
  ·(have HI:Hid (pq (eqS x) l= -1):=yQ fun y hy=>by obtain⟨j,hj⟩:=List.getElem?_of_mem hy;exact eX.o j (by have:=(List.getElem?_eq_some_iff.1 hj).1;omega) y hj);go_wp2;go_ret;exact⟨nZ HI.o.symm,hst⟩
theorem kD (P:Nat→Prop) (x:ByteArray) (l:List ByteArray) (v:Value) (w:World) (h:cu w P v l.length (l.map .string)):Calls Tryz.prog 104 #[v,.string x] w fun e w'=>e=.returned (.bool (l.any (eqS x)))∧StF w w':=by
 have H:=au h;have HGE:=au (JI (eqS x) l);have Ox:=au (OX P x l v w H.o);obtain⟨b,hb⟩:=aN (l.any (eqS x));obtain⟨ix,hix⟩:=aN (pq (eqS x) l);rw[←hb,←hix]at HGE;rw[←hb];rw[←hix]at Ox;clear h hb hix;go_enter Tryz.func104,Tryz.ntmps104;go_wp2_with fail;refine Ox.o.mono ?_;rintro e w1 ⟨rfl,h1⟩;have hge:=HGE.o;cases b with
 |true=>have h2:=of_decide_eq_true hge;go_wp2;go_ret;exact⟨rfl,h1⟩
 |false=>have h2:=of_decide_eq_false hge;go_wp2;go_ret;exact⟨rfl,h1⟩
structure A7 (El:World→(Nat→Prop)→List Value→Prop):Prop where
 step:∀(w w':World) (P S:Nat→Prop) (cs:List Value),Step S w w'→(∀q,P q→¬S q)→El w P cs→El w' P cs
 mono:∀(w:World) (P P':Nat→Prop) (cs:List Value),(∀q,q<w.heap.size→P q→P' q)→El w P cs→El w P' cs
structure jR (R:gJ) (j1 j2 d:Nat) (w0:World) (ic ib ia iy sx iz bt:Nat) (rV:Value→Obj) (base:Nat) (e:TypeId) (size n:Nat) (va:Value) (xs zs:List Value) (El:World→(Nat→Prop)→List Value→Prop) (vals:List (Option Value))
  (L:Nat→Bool) (V:Nat→Value) (X:World):Prop where
 iK:∀(i:Nat) v,vals[i]?=some (some v)→L i=true→V i=v
 st:Step (fun q=>q=R.rb∨q=bt∨va.ownBlock=some q) w0 X
 rd:bI R X (if L ic then j2 else j1) d
 el:L ic=true→∃cs:List Value,V ic=.agg cs.toArray∧El X (fun q=>w0.heap.size≤q∧(L ia=true→(V ia).ownBlock≠some q)) cs
 bl:L ib=true→L ia=false→∃zb,V ib=.slice (some ⟨zb,0,none⟩) 1 1∧w0.heap.size≤zb∧X.heap[zb]?=some (.cells zs.toArray e (0,0))
 old:L ia=false→X.ownsRow base e size va n xs
 new:L ia=true→∃g c,V ia=.slice (some ⟨g,0,none⟩) (n+1) c∧(va.ownBlock=some g∨w0.heap.size≤g)∧∃ys,X.ownsRow base e size (V ia) (n+1) (xs++ys)∧ys.length=size∧(L sx=true→V ic=.agg ys.toArray)
 blk:X.heap[bt]?=some (rV (if L iz then V ia else va))
 pa:L ia=true→∀i,i<ia→L i=true
 ps:L sx=true→L ia=true
 pz:L iz=true→L ia=true
 ix:L iy=true→L ia=true∧∀g c,V ia=.slice (some ⟨g,0,none⟩) (n+1) c→V iy=.pointer (some ⟨g,n*size,none⟩)
structure zA (R:gJ) (w0:World) (ic ib ia iy sx iz bt:Nat) (base size n:Nat) (va:Value) (xs zs:List Value):Prop where
 hc:ic<ia
 hb:ib<ia
 cb:ic≠ib
 hs:ia<sx
 hy:ia<iy
 ys:sx≠iy
 yz:iz≠iy
 hz:ia<iz
 sz:sx≠iz
 rb:R.rb<bt
 bt:bt<base
 bw:base≤w0.heap.size
 own:∀q,va.ownBlock=some q→base≤q∧q<w0.heap.size
 xs:xs.length=n*size
 zs:zs.length=size
section
variable {R : gJ} {j1 j2 d : Nat} {w0 : World} {ic ib ia iy sx iz bt : Nat} {rV : Value → Obj} {base : Nat} {e : TypeId} {size n : Nat} {va : Value} {xs zs : List Value} {El : World → (Nat → Prop) → List Value → Prop} {vals : List (Option Value)} {L : Nat → Bool} {V : Nat → Value} {X X' : World}
theorem aF (L:Nat→Bool) {i j:Nat} (h:j≠i):dO L i j=L j:=by unfold dO;rw[if_neg h]
theorem jV (L:Nat→Bool) (i:Nat):dO L i i=true:=by unfold dO;rw[if_pos rfl]
theorem b_ (V:Nat→Value) {i j:Nat} (v:Value) (h:j≠i):iY V i v j=V j:=by unfold iY;rw[if_neg h]
theorem lS (V:Nat→Value) (i:Nat) (v:Value):iY V i v i=v:=by unfold iY;rw[if_pos rfl]
theorem jc (h:∀(i:Nat) v,vals[i]?=some (some v)→L i=true→V i=v) (i:Nat) (v:Value) (hv:∀u,vals[i]?=some (some u)→v=u):∀(k:Nat) u,vals[k]?=some (some u)→dO L i k=true→iY V i v k=u:=by
 intro k u hu hL;by_cases e:k=i
 ·subst e;rw[lS];exact hv u hu
 ·rw[b_ _ _ e];rw[aF _ e]at hL;exact h k u hu hL
theorem IU (h:L ia=true→∀i,i<ia→L i=true) (k:Nat) (hk:k≠ia):dO L k ia=true→∀i,i<ia→dO L k i=true:=by
 intro hL i hi;rw[aF _ (Ne.symm hk)]at hL;by_cases e:i=k
 ·rw[e,jV]
 ·rw[aF _ e];exact h hL i hi
theorem jR.up (h:jR R j1 j2 d w0 ic ib ia iy sx iz bt rV base e size n va xs zs El vals L V X) (i:Nat) (h1:i≠ic) (h2:i≠ib) (h3:i≠ia) (h4:i≠sx) (h5:i≠iz) (h6:i≠iy) {v:Value} (hv:vals[i]?=some (some v)):jR R j1 j2 d w0 ic ib ia iy sx iz bt rV base e size n va xs zs El vals (dO L i) (iY V i v) X:=by
 refine⟨jc h.iK i v (fun u hu=>by rw[hv]at hu;cases hu;rfl),h.st,?_,?_,?_,?_,?_,?_,IU h.pa i h3,?_,?_,?_⟩
 ·rw[aF _ (Ne.symm h1)];exact h.rd
 ·rw[aF _ (Ne.symm h1),aF _ (Ne.symm h3),b_ _ _ (Ne.symm h1),b_ _ _ (Ne.symm h3)];exact h.el
 ·rw[aF _ (Ne.symm h2),aF _ (Ne.symm h3),b_ _ _ (Ne.symm h2)];exact h.bl
 ·rw[aF _ (Ne.symm h3)];exact h.old
 ·rw[aF _ (Ne.symm h3),b_ _ _ (Ne.symm h3),aF _ (Ne.symm h4),b_ _ _ (Ne.symm h1)];exact h.new
 ·rw[aF _ (Ne.symm h5),b_ _ _ (Ne.symm h3)];exact h.blk
 ·rw[aF _ (Ne.symm h4),aF _ (Ne.symm h3)];exact h.ps
 ·rw[aF _ (Ne.symm h5),aF _ (Ne.symm h3)];exact h.pz
 ·rw[aF _ (Ne.symm h6),aF _ (Ne.symm h3),b_ _ _ (Ne.symm h3),b_ _ _ (Ne.symm h6)];exact h.ix
theorem jR.Vo (h:jR R j1 j2 d w0 ic ib ia iy sx iz bt rV base e size n va xs zs El vals L V X) {i:Nat} (hi:i<ia) (hL:L i=false):L ia=false:=by
 cases e:L ia with
 |false=>rfl
 |true=>rw[h.pa e i hi]at hL;cases hL
theorem jR.JJ (h:jR R j1 j2 d w0 ic ib ia iy sx iz bt rV base e size n va xs zs El vals L V X) (hL:L ia=false):L iz=false∧L sx=false∧L iy=false:=by
 refine⟨?_,?_,?_⟩
 ·cases e:L iz with
  |false=>rfl
  |true=>rw[h.pz e]at hL;cases hL
 ·cases e:L sx with
  |false=>rfl
  |true=>rw[h.ps e]at hL;cases hL
 ·cases e:L iy with
  |false=>rfl
  |true=>rw[(h.ix e).1]at hL;cases hL
theorem jR.zero (hs:StF w0 X) (hr:bI R w0 j1 d) (hown:w0.ownsRow base e size va n xs) (hb:w0.heap[bt]?=some (rV va)):jR R j1 j2 d w0 ic ib ia iy sx iz bt rV base e size n va xs zs El vals (fun _=>false) V X:=
 ⟨fun _ _ _ h=>(nomatch h),hs.mono fe,hr.quiet hs,gQ,gQ,fun _=>hs.owns hown (fun _ _ h=>h),gQ,hs.keep hb (fun h=>h),gQ,gQ,gQ,gQ⟩
theorem jR.call (hE:A7 El) (ho:zA R w0 ic ib ia iy sx iz bt base size n va xs zs) (h:jR R j1 j2 d w0 ic ib ia iy sx iz bt rV base e size n va xs zs El vals L V X) (hL:L ic=false) (kR:vals[ic]?=some none) (hs:Step (·=R.rb) X X') (hr:bI R X' j2 d) {cs:List Value} (hc:El X' (fun q=>X.heap.size≤q) cs):jR R j1 j2 d w0 ic ib ia iy sx iz bt rV base e size n va xs zs El vals (dO L ic) (iY V ic (.agg cs.toArray)) X':=by
 have hA:=h.Vo ho.hc hL;have hZ:=h.JJ hA;have n1:ia≠ic:=by have:=ho.hc;omega
 have n2:iz≠ic:=by have:=ho.hc;have:=ho.hz;omega
 have n5:iy≠ic:=by have:=ho.hc;have:=ho.hy;omega
 have n3:sx≠ic:=by have:=ho.hc;have:=ho.hs;omega
 refine⟨jc h.iK ic _ (fun u hu=>by rw[kR]at hu;cases hu),h.st.trans (hs.mono il),?_,?_,?_,?_,?_,?_,IU h.pa ic (Ne.symm n1),?_,?_,?_⟩
 ·rw[jV,if_pos rfl];exact hr
 ·intro _;refine⟨cs,lS _ _ _,hE.mono _ _ _ _ (fun q _ hq=>⟨Nat.le_trans h.st.size hq,fun h1=> ?_⟩) hc⟩;rw[aF _ n1,hA]at h1;cases h1
 ·intro h1 h2;rw[aF _ (Ne.symm ho.cb)]at h1;obtain⟨zb,z1,z2,z3⟩:=h.bl h1 hA;exact⟨zb,by rw[b_ _ _ (Ne.symm ho.cb)];exact z1,z2,hs.keep z3 (by have:=ho.rb;have:=ho.bt;have:=ho.bw;omega)⟩
 ·intro _;exact hs.owns (h.old hA) (fun q hq e=>by have:=ho.rb;have:=ho.bt;omega)
 ·intro h1;rw[aF _ n1,hA]at h1;cases h1
 ·rw[aF _ n2,hZ.1];have h2:=h.blk;rw[hZ.1]at h2;exact hs.keep h2 (by have:=ho.rb;omega)
 ·intro h1;rw[aF _ n3,hZ.2.1]at h1;cases h1
 ·intro h1;rw[aF _ n2,hZ.1]at h1;cases h1
 ·intro h1;rw[aF _ n5,hZ.2.2]at h1;cases h1
theorem jR.build (hE:A7 El) (ho:zA R w0 ic ib ia iy sx iz bt base size n va xs zs) (h:jR R j1 j2 d w0 ic ib ia iy sx iz bt rV base e size n va xs zs El vals L V X) (hL:L ib=false) (kR:vals[ib]?=some none):jR R j1 j2 d w0 ic ib ia iy sx iz bt rV base e size n va xs zs El vals (dO L ib) (iY V ib (.slice (some ⟨X.heap.size,0,none⟩) 1 1)) (X.alloc (.cells zs.toArray e)):=by
 have hA:=h.Vo ho.hb hL;have hZ:=h.JJ hA;have n1:ia≠ib:=by have:=ho.hb;omega
 have n2:iz≠ib:=by have:=ho.hb;have:=ho.hz;omega
 have n5:iy≠ib:=by have:=ho.hb;have:=ho.hy;omega
 have n3:sx≠ib:=by have:=ho.hb;have:=ho.hs;omega
 have hs:StF X (X.alloc (.cells zs.toArray e)):=bK.alloc _;refine⟨jc h.iK ib _ (fun u hu=>by rw[kR]at hu;cases hu),h.st.alloc _,?_,?_,?_,?_,?_,?_,IU h.pa ib (Ne.symm n1),?_,?_,?_⟩
 ·rw[aF _ ho.cb];exact h.rd.quiet hs
 ·intro h1;rw[aF _ ho.cb]at h1;obtain⟨cs,c1,c2⟩:=h.el h1;refine⟨cs,by rw[b_ _ _ ho.cb];exact c1,?_⟩;rw[aF _ n1,b_ _ _ n1];exact hE.step _ _ _ _ _ hs (fun _ _ h=>h) c2
 ·intro _ _;exact⟨X.heap.size,lS _ _ _,h.st.size,aC _ _⟩
 ·intro _;exact hs.owns (h.old hA) (fun _ _ h=>h)
 ·intro h1;rw[aF _ n1,hA]at h1;cases h1
 ·rw[aF _ n2,hZ.1];have h2:=h.blk;rw[hZ.1]at h2;exact aP h2
 ·intro h1;rw[aF _ n3,hZ.2.1]at h1;cases h1
 ·intro h1;rw[aF _ n2,hZ.1]at h1;cases h1
 ·intro h1;rw[aF _ n5,hZ.2.2]at h1;cases h1
theorem jR.app (hE:A7 El) (ho:zA R w0 ic ib ia iy sx iz bt base size n va xs zs) (h:jR R j1 j2 d w0 ic ib ia iy sx iz bt rV base e size n va xs zs El vals L V X) (hL:L ia=false) (hall:∀i,i<ia→L i=true) (kR:vals[ia]?=some none) {v':Value} (hown:X'.ownsRow base e size v' (n+1) (xs++zs)) (hgrow:X.grownBy X' va.ownBlock) (hat:v'.ownBlock=va.ownBlock∨v'.ownBlock=some X.heap.size):jR R j1 j2 d w0 ic ib ia iy sx iz bt rV base e size n va xs zs El vals (dO L ia) (iY V ia v') X':=by
 have hZ:=h.JJ hL;have n1:ic≠ia:=by have:=ho.hc;omega
 have n2:iz≠ia:=by have:=ho.hz;omega
 have n5:iy≠ia:=by have:=ho.hy;omega
 have n3:sx≠ia:=by have:=ho.hs;omega
 have n4:ib≠ia:=by have:=ho.hb;omega
 have hs:Step (fun k=>va.ownBlock=some k) X X':=bQ hgrow;obtain⟨g,c,cur,hv',hbg,hcur,-⟩:=vY hown om;have hg:va.ownBlock=some g∨X.heap.size≤g:=by
  rcases hat with h1|h1
  ·left;rw[←h1,hv'];rfl
  ·right;rw[hv']at h1;have:g=X.heap.size:=Option.some.inj h1;omega
 have hX:=h.st.size;refine⟨jc h.iK ia _ (fun u hu=>by rw[kR]at hu;cases hu),h.st.trans (hs.mono (fun q _ e=>.inr (.inr e))),?_,?_,?_,?_,?_,?_,?_,?_,?_,?_⟩
 ·rw[aF _ n1];exact h.rd.step hs (fun k hk e=>by have:=ho.own k e;have:=ho.rb;have:=ho.bt;omega)
 ·intro h1;rw[aF _ n1]at h1;obtain⟨cs,c1,c2⟩:=h.el h1;refine⟨cs,by rw[b_ _ _ n1];exact c1,?_⟩;rw[lS];have c3:=hE.mono _ _ (fun q=>w0.heap.size≤q∧q<X.heap.size) _ (fun q h1 h2=>⟨h2.1,h1⟩) c2;have c4:=hE.step _ _ _ _ _ hs (fun q hq e=>by have:=ho.own q e;omega) c3;refine hE.mono _ _ _ _ (fun q _ hq=>⟨hq.1,fun _ e=> ?_⟩) c4;rw[hv']at e;have e2:g=q:=Option.some.inj e;rcases hg with h5|h5
  ·have:=ho.own g h5;omega
  ·omega
 ·intro _ h2;rw[jV]at h2;cases h2
 ·intro h2;rw[jV]at h2;cases h2
 ·intro _;refine⟨g,c,by rw[lS];exact hv',?_,zs,by rw[lS];exact hown,ho.zs,fun h1=> ?_⟩
  ·rcases hg with h5|h5
   ·exact .inl h5
   ·exact .inr om
  ·rw[aF _ n3,hZ.2.1]at h1;cases h1
 ·rw[aF _ n2,hZ.1];have h2:=h.blk;rw[hZ.1]at h2;exact hs.keep h2 (fun e=>by have:=ho.own bt e;have:=ho.bt;omega)
 ·intro _ i hi;rw[aF _ om];exact hall i hi
 ·intro _;exact jV _ _
 ·intro _;exact jV _ _
 ·intro h1;rw[aF _ n5,hZ.2.2]at h1;cases h1
theorem jR.put (hE:A7 El) (ho:zA R w0 ic ib ia iy sx iz bt base size n va xs zs) (h:jR R j1 j2 d w0 ic ib ia iy sx iz bt rV base e size n va xs zs El vals L V X) (hA:L ia=true) (kR:∀u,vals[sx]?=some (some u)→undef=u) {g c:Nat} (hV:V ia=.slice (some ⟨g,0,none⟩) (n+1) c) {cs:List Value} (hcs:V ic=.agg cs.toArray) (hcl:cs.length=size) {cur:Array Value} (hcur:X.heap[g]?=some (.cells cur e (0,0))) (hnew:X'.heap[g]?=some (.cells (cur.toList.take (n*size)++(cs++cur.toList.drop (n*size+cs.length))).toArray e (0,0))) (hs:Step (·=g) X X'):jR R j1 j2 d w0 ic ib ia iy sx iz bt rV base e size n va xs zs El vals (dO L sx) (iY V sx undef) X':=by
 have n1:ic≠sx:=by have:=ho.hc;have:=ho.hs;omega
 have n2:iz≠sx:=Ne.symm ho.sz;have n5:iy≠sx:=Ne.symm ho.ys;have n3:ia≠sx:=by have:=ho.hs;omega
 have n4:ib≠sx:=by have:=ho.hb;have:=ho.hs;omega
 obtain⟨g',c',hV',hg,ys,hown,hyl,-⟩:=h.new hA;rw[hV]at hV';cases hV';have hgb:base≤g:=by rw[hV]at hown;exact(hown.lt g rfl).1
 rw[hV]at hown;refine⟨jc h.iK sx _ kR,h.st.then hs (fun q hq e=> ?_),?_,?_,?_,?_,?_,?_,IU h.pa sx (Ne.symm n3),?_,?_,?_⟩
 ·subst e;rcases hg with h5|h5
  ·exact .inr (.inr h5)
  ·omega
 ·rw[aF _ n1];exact h.rd.step hs (fun k hk e=>by have:=ho.rb;have:=ho.bt;omega)
 ·intro h1;rw[aF _ n1]at h1;obtain⟨cs2,c1,c2⟩:=h.el h1;refine⟨cs2,by rw[b_ _ _ n1];exact c1,?_⟩;rw[aF _ n3,b_ _ _ n3];refine hE.step _ _ _ _ _ hs (fun q hq e=> ?_) c2;exact hq.2 hA (by rw[hV,e];rfl)
 ·intro _ h2;rw[aF _ n3,hA]at h2;cases h2
 ·intro h2;rw[aF _ n3,hA]at h2;cases h2
 ·intro _;refine⟨g,c,by rw[b_ _ _ n3];exact hV,hg,cs,?_,hcl,fun _=>by rw[b_ _ _ n1];exact hcs⟩;rw[b_ _ _ n3,hV];exact Vm hown ho.xs hcl hcur hnew
 ·rw[aF _ n2,b_ _ _ n3];exact hs.keep h.blk (fun e=>by have:=ho.bt;omega)
 ·intro _;rw[aF _ n3];exact hA
 ·intro _;rw[aF _ n3];exact hA
 ·rw[aF _ n5,aF _ n3,b_ _ _ n3,b_ _ _ n5];exact h.ix
theorem jR.last (hE:A7 El) (ho:zA R w0 ic ib ia iy sx iz bt base size n va xs zs) (h:jR R j1 j2 d w0 ic ib ia iy sx iz bt rV base e size n va xs zs El vals L V X) (hA:L ia=true) (kR:∀u,vals[iz]?=some (some u)→undef=u) (hnew:X'.heap[bt]?=some (rV (V ia))) (hs:Step (·=bt) X X'):jR R j1 j2 d w0 ic ib ia iy sx iz bt rV base e size n va xs zs El vals (dO L iz) (iY V iz undef) X':=by
 have n1:ic≠iz:=by have:=ho.hc;have:=ho.hz;omega
 have n2:sx≠iz:=ho.sz;have n5:iy≠iz:=Ne.symm ho.yz;have n3:ia≠iz:=by have:=ho.hz;omega
 obtain⟨g,c,hV,hg,ys,hown,hyl,hys⟩:=h.new hA;refine⟨jc h.iK iz _ kR,h.st.trans (hs.mono (fun q _ e=>.inr (.inl e))),?_,?_,?_,?_,?_,?_,IU h.pa iz (Ne.symm n3),?_,?_,?_⟩
 ·rw[aF _ n1];exact h.rd.step hs (fun k hk e=>by have:=ho.rb;omega)
 ·intro h1;rw[aF _ n1]at h1;obtain⟨cs2,c1,c2⟩:=h.el h1;refine⟨cs2,by rw[b_ _ _ n1];exact c1,?_⟩;rw[aF _ n3,b_ _ _ n3];exact hE.step _ _ _ _ _ hs (fun q hq e=>by have:=ho.bt;have:=ho.bw;omega) c2
 ·intro _ h2;rw[aF _ n3,hA]at h2;cases h2
 ·intro h2;rw[aF _ n3,hA]at h2;cases h2
 ·intro _;refine⟨g,c,by rw[b_ _ _ n3];exact hV,hg,ys,?_,hyl,?_⟩
  ·rw[b_ _ _ n3];exact hs.owns hown (fun q hq e=>by have:=ho.bt;omega)
  ·rw[aF _ n2,b_ _ _ n1];exact hys
 ·rw[jV,if_pos rfl,b_ _ _ n3];exact hnew
 ·intro _;rw[aF _ n3];exact hA
 ·intro _;rw[aF _ n3];exact hA
 ·rw[aF _ n5,aF _ n3,b_ _ _ n3,b_ _ _ n5];exact h.ix
theorem jR.index (ho:zA R w0 ic ib ia iy sx iz bt base size n va xs zs) (h:jR R j1 j2 d w0 ic ib ia iy sx iz bt rV base e size n va xs zs El vals L V X) (hA:L ia=true) (kR:vals[iy]?=some none) {g c:Nat} (hV:V ia=.slice (some ⟨g,0,none⟩) (n+1) c):jR R j1 j2 d w0 ic ib ia iy sx iz bt rV base e size n va xs zs El vals (dO L iy) (iY V iy (.pointer (some ⟨g,n*size,none⟩))) X:=by
 have n1:ic≠iy:=by have:=ho.hc;have:=ho.hy;omega
 have n2:iz≠iy:=ho.yz;have n3:ia≠iy:=by have:=ho.hy;omega
 have n4:ib≠iy:=by have:=ho.hb;have:=ho.hy;omega
 have n5:sx≠iy:=ho.ys;refine⟨jc h.iK iy _ (fun u hu=>by rw[kR]at hu;cases hu),h.st,?_,?_,?_,?_,?_,?_,IU h.pa iy (Ne.symm n3),?_,?_,?_⟩
 ·rw[aF _ n1];exact h.rd
 ·rw[aF _ n1,aF _ n3,b_ _ _ n1,b_ _ _ n3];exact h.el
 ·rw[aF _ n4,aF _ n3,b_ _ _ n4];exact h.bl
 ·rw[aF _ n3];exact h.old
 ·rw[aF _ n3,b_ _ _ n3,aF _ n5,b_ _ _ n1];exact h.new
 ·rw[aF _ n2,b_ _ _ n3];exact h.blk
 ·rw[aF _ n5,aF _ n3];exact h.ps
 ·rw[aF _ n2,aF _ n3];exact h.pz
 ·intro _;refine⟨by rw[aF _ n3];exact hA,fun g2 c2 h2=> ?_⟩;rw[b_ _ _ n3,hV]at h2;cases h2;rw[lS]
theorem jR.done (h:jR R j1 j2 d w0 ic ib ia iy sx iz bt rV base e size n va xs zs El vals L V X) (hall:L ic=true∧L ia=true∧L sx=true∧L iz=true):∃(g c:Nat) (cs:List Value),bI R X j2 d∧X.heap[bt]?=some (rV (.slice (some ⟨g,0,none⟩) (n+1) c))∧X.ownsRow base e size (.slice (some ⟨g,0,none⟩) (n+1) c) (n+1) (xs++cs)∧El X (fun q=>w0.heap.size≤q∧q≠g) cs∧(va.ownBlock=some g∨w0.heap.size≤g)∧Step (fun q=>q=R.rb∨q=bt∨va.ownBlock=some q) w0 X∧base≤g:=by
 obtain⟨h1,h2,h3,h4⟩:=hall;obtain⟨g,c,hV,hg,ys,hown,hyl,hys⟩:=h.new h2;obtain⟨cs,c1,c2⟩:=h.el h1;have e:=hys h3;rw[c1]at e;have e2:cs=ys:=by
  have e3:cs.toArray=ys.toArray:=by injection e
  have:=congrArg Array.toList e3;simpa using this
 subst e2;have hr:=h.rd;have hb:=h.blk;rw[h1,if_pos rfl]at hr;rw[h4,if_pos rfl,hV]at hb;rw[hV]at hown c2;refine⟨g,c,cs,hr,hb,hown,?_,hg,h.st,(hown.lt g rfl).1⟩;have hP:(fun q=>w0.heap.size≤q∧(L ia=true→(Value.slice (some ⟨g,0,none⟩) (n+1) c).ownBlock≠some q))=(fun q=>w0.heap.size≤q∧q≠g):=by
  funext q;apply propext;constructor
  ·rintro⟨a,b⟩;exact⟨a,fun e=>b h2 (by rw[e];rfl)⟩
  ·rintro⟨a,b⟩;exact⟨a,fun _ e=>b (Option.some.inj e).symm⟩
 rw[hP]at c2;exact c2
end
theorem TyEl (a:Ty):A7 (fun w P cs=>iC w P a cs):=⟨fun _ _ _ _ cs hs hP h=>iC.step hs hP a cs h,fun _ _ _ cs hp h=>iC.mono hp a cs h⟩
section
variable {P : Program} {md : Region.Mode} {ops : Array Oper} {Q : Exit → Act → World → Prop} {a0 : Act} {n : Nat} {J : (Nat → Bool) → (Nat → Value) → World → Prop}
def zU (P:Program) (md:Region.Mode) (ops:Array Oper) (Q:Exit→Act→World→Prop) (a0:Act) (n:Nat) (J:(Nat→Bool)→(Nat→Value)→World→Prop):Nat→List Oper→Prop:=AllOp fun i o=>∀(L:Nat→Bool) (V:Nat→Value) (w:World) (a:Act),(∀j k,fO ops j=some k→L j=true→a.tmps[k]?.getD undef=V j)→(∀k,LU ops (List.range n) k=true→a.tmps[k]?.getD undef=a0.tmps[k]?.getD undef)→a.defers=a0.defers→L i=false→(∀j,(rG md o).contains j=true→L j=true)→J L V w→o.wp P a w (fun a' w'=>∃v,a'=a.put o.dst v∧J (dO L i) (iY V i v) w') Q
theorem bP {id:Nat} {w:World} (hm:P.follows .mixedOrders=true) (J:(Nat→Bool)→(Nat→Value)→World→Prop) (n:Nat) (hn:ops.size=n) (hd:vP ops (List.range n)=true) (hb:DL .any ops=true) (hr:DN ops (List.range n) a0.tmps.size=true) (hg:(ops.toList.all fun o=>o.guard.isNone)=true) (h0:J (fun _=>false) (fun _=>undef) w.drew) (hs:zU P .any ops Q a0 n J 0 ops.toList) (hdone:∀L V w,(∀i,i<n→L i=true)→J L V w→Q .normal (kJ ops V (List.range n) a0) w):(Code.region id ops true).wp P Q a0 w:=
 wp_region_relyA hm J n hn hd hb hr (gdD_none hg) h0 (fun i o ho L V w a h1 h2 h6 h3 h4 h5=>by unfold oV;rw[guard_none hg ho];exact hs.at ho L V w a h1 h2 h6 h3 h4 h5) hdone
end
end Go.Proofs.YtppekkbaoimpgaaGreat
