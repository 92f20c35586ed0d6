import Derived.Test.YtggjfinekcenpaaGreatPkC
set_option maxRecDepth 100000
set_option maxHeartbeats 80000000
namespace Go.Proofs.YtggjfinekcenpaaGreat
open Go.RowKit
open Vt
def pI (f:Nat) (l:List Tok) (i d:Nat):dI Ty:=
 if bG l i [105,110,116]then .ok (.mk 1 dB dB false [] [] (tokA l i).line (tokA l i).col) (i+1)
 else if bG l i [98,111,111,108]then .ok (.mk 2 dB dB false [] [] (tokA l i).line (tokA l i).col) (i+1)
 else if bG l i [102,54,52]then .ok (.mk 3 dB dB false [] [] (tokA l i).line (tokA l i).col) (i+1)
 else if bG l i [40]then(aJ l (i+1) [41]).bind fun _ j=>.ok (.mk 4 dB dB false [] [] (tokA l i).line (tokA l i).col) j
 else if bG l i [66,111,120]then(aJ l (i+1) [60]).bind fun _ j=>(kG f l j d).bind fun a j=>(aJ l j [62]).bind fun _ j=>.ok (.mk 6 dB dB false [] [a] (tokA l i).line (tokA l i).col) j
 else if bG l i [38]then(kG f l (iH l (pG l (i+1)) [109,117,116]) d).bind fun a j=>.ok (.mk 7 dB (rV l (i+1)) (bG l (pG l (i+1)) [109,117,116]) [] [a] (tokA l i).line (tokA l i).col) j
 else if bG l i [100,121,110]then(bH l (i+1)).bind fun n j=>if bG l j [43]then(jl l (j+1)).bind fun x j=>.ok (.mk 8 n x false [] [] (tokA l i).line (tokA l i).col) j else .ok (.mk 8 n dB false [] [] (tokA l i).line (tokA l i).col) j
 else(bH l i).bind fun n j=>if bG l j [60]then(mg f l (j+1) d [] []).bind fun p j=>.ok (.mk 5 n dB false p.1 p.2 (tokA l i).line (tokA l i).col) j else .ok (.mk 5 n dB false [] [] (tokA l i).line (tokA l i).col) j
theorem EJ (f:Nat) (l:List Tok) (i d:Nat):kG (f+1) l i d=if d=40 then iw 2 l i else pI f l i (d+1):=by rw[kG];rfl
def TyV (n0:Nat) (w':World) (a:Ty) (v:Value):Prop:=∃cs:List Value,v=.agg cs.toArray∧gG w' (fun k=>n0≤k) a cs
def vN (f:Nat):Prop:=∀(R:gI) (w:World) (i d:Nat),oJ R.l→bC R w i d→d≤40→kG f R.l i d≠.out→
 Calls Tryz.prog 44 #[.agg #[gW R.rb 0]] w (aK R d (TyV w.heap.size) (kG f R.l i d) w)
def Aj (f:Nat) (l:List Tok) (i d:Nat):dI (List ByteArray×List Ty):=if bG l i [60]then mg f l (i+1) d [] []else .ok ([],[]) i
def ArgV (w w':World) (bt:Nat) (k:Int) (nm:ByteArray) (t:Tok) (p:List ByteArray×List Ty):Prop:=
 ∃vl va xs,w'.heap[bt]?=some (.cells #[ah k,aI nm,aV,aW,vl,va,ah t.line,ah t.col] 46 (0,0))∧(∀s∈p.1,s.size≤9223372036854775807)∧dh w' (fun k=>w.heap.size≤k) vl p.1.length (p.1.map .string)∧fV w' (fun k=>w.heap.size≤k) p.2 xs∧dh w' (fun k=>w.heap.size≤k) va p.2.length xs
def LQ (R:gI) (d bt:Nat) (k:Int) (nm:ByteArray) (t:Tok) (r:dI (List ByteArray×List Ty)) (w:World) (e:Ending) (w':World):Prop:=
 match r with
 | .ok p j=>e=.returned (.tuple #[])∧ArgV w w' bt k nm t p∧bC R w' j d∧Step (fun k=>k=R.rb∨k=bt) w w'
 | .err c ln col=>e=.panicked [{v:=.iface 184 (.agg #[ah c,ah ln,ah col]),recovered:=false}]∧Step (fun k=>k=R.rb∨k=bt) w w'
 | .out=>True
def Cj (f:Nat):Prop:=∀(R:gI) (w:World) (i d bt:Nat) (k:Int) (nm:ByteArray) (t:Tok),oJ R.l→bC R w i d→d≤40→R.rb<bt→w.heap[bt]?=some (.cells #[ah k,aI nm,aV,aW,ak,ak,ah t.line,ah t.col] 46 (0,0))→Aj f R.l i d≠.out→
 Calls Tryz.prog 82 #[.agg #[gW R.rb 0],.pointer (some ⟨bt,0,none⟩)] w (LQ R d bt k nm t (Aj f R.l i d) w)
theorem zS {f:Nat} {l:List Tok} {i d:Nat} (h0:bG l i [105,110,116]=false) (h1:bG l i [98,111,111,108]=false) (h2:bG l i [102,54,52]=false) (h3:bG l i [40]=false) (h4:bG l i [66,111,120]=false) (h5:bG l i [38]=false) (h6:bG l i [100,121,110]=false):pI f l i d=(bH l i).bind fun n j=>(Aj f l j d).bind fun p j=>.ok (.mk 5 n dB false p.1 p.2 (tokA l i).line (tokA l i).col) j:=by unfold pI;simp only[h0,h1,h2,h3,h4,h5,h6,Bool.false_eq_true,if_false];congr 1;funext n j;unfold Aj;split<;>rfl
def JR (n0 bt:Nat) (w':World) (a:Ty):Prop:=∃cs:List Value,w'.heap[bt]?=some (.cells cs.toArray 46 (0,0))∧gG w' (fun k=>n0≤k) a cs
def aY {α:Type} (R:gI) (d bt:Nat) (Left:World→α→Prop) (r:dI α) (w:World) (e:Ending) (w':World):Prop:=
 match r with
 | .ok a j=>e=.returned (.tuple #[])∧Left w' a∧bC R w' j d∧Step (fun k=>k=R.rb∨k=bt) w w'
 | .err c ln col=>e=.panicked [{v:=.iface 184 (.agg #[ah c,ah ln,ah col]),recovered:=false}]∧Step (fun k=>k=R.rb∨k=bt) w w'
 | .out=>True
theorem aY.dN {α:Type} {R:gI} {d bt:Nat} {Left:World→α→Prop} {r:dI α} {w w':World} {e:Ending} {a:α} {j:Nat} (hr:r=.ok a j) (he:e=.returned (.tuple #[])) (hl:Left w' a) (h:bC R w' j d) (hs:Step (fun k=>k=R.rb∨k=bt) w w'):aY R d bt Left r w e w':=by rw[hr];exact⟨he,hl,h,hs⟩
theorem aY.aU {α:Type} {R:gI} {d bt:Nat} {Left:World→α→Prop} {r:dI α} {w w':World} {e:Ending} {c ln col:Nat} (hr:r=.err c ln col) (he:e=.panicked [{v:=.iface 184 (.agg #[ah c,ah ln,ah col]),recovered:=false}]) (hs:Step (fun k=>k=R.rb∨k=bt) w w'):aY R d bt Left r w e w':=by rw[hr];exact⟨he,hs⟩
theorem yN {l:List UInt8} (h:l.length≤20000):(lX l).size≤9223372036854775807:=by show l.toArray.size≤_;simp;omega
theorem fF {R:gI} (hl:oJ R.l) {i j:Nat} {s:ByteArray} (hi:i<R.l.length) (h:bH R.l i=.ok s j):s.size≤9223372036854775807:=by
 unfold bH at h;split at h
 ·cases h;exact yN (hl.text _ (List.mem_of_getElem? (sH hi)))
 ·cases h
theorem xQ {R:gI} (hl:oJ R.l) {i j:Nat} {s:ByteArray} (hi:i<R.l.length) (h:jl R.l i=.ok s j):s.size≤9223372036854775807:=by
 unfold jl at h;split at h
 ·cases h;exact yN (hl.text _ (List.mem_of_getElem? (sH hi)))
 ·cases h
theorem Iw {R:gI} (hl:oJ R.l) {i:Nat} (hi:i<R.l.length):(lX (tokA R.l i).text).size≤9223372036854775807:=yN (hl.text _ (List.mem_of_getElem? (sH hi)))
theorem Qb (R:gI) (f:Nat) (ih:vN f) (iha:Cj f) (bp bt:Nat) (w:World) (i d:Nat) (t:Tok) (hl:oJ R.l) (h:bC R w i d) (hd:d≤40) (hbp:w.heap[bp]?=some (.cells #[gW R.rb 0] 75 (0,0))) (hbt:w.heap[bt]?=some (.cells #[ah 0,aV,aV,aW,ak,ak,ah t.line,ah t.col] 46 (0,0))) (hb1:R.rb<bp) (hb2:bp<bt) (ht:t=tokA R.l i) (hno:pI f R.l i d≠.out):Calls Tryz.prog 76 #[.pointer (some ⟨bp,0,none⟩),.pointer (some ⟨bt,0,none⟩)] w (aY R d bt (JR w.heap.size bt) (pI f R.l i d) w):=by
 have HL:=ai hl;have H0:=ai h;have HT:=ai ht;have IH:=ai ih;have IHA:=ai iha;obtain⟨r,hr⟩:=bF (pI f R.l i d);have HRR:=ai hr;rw[←hr]at hno⊢;have fH:=ai hno;have hil:=h.lt;have JS:=aP hbt;have HKB:Hid (∀X:World,Step (·=R.rb) w X→X.cell? ⟨bp,0,none⟩=some (.pointer (some ⟨R.rb,0,none⟩))∧X.heap[bt]?=some (.cells #[ah 0,aV,aV,aW,ak,ak,ah t.line,ah t.col] 46 (0,0))):=fun X hX=>⟨aj (hX.keep hbp om) 0 _ rfl,hX.keep hbt om⟩
 have HBP:Hid (w.cell? ⟨bp,0,none⟩=some (.pointer (some ⟨R.rb,0,none⟩))):=aj hbp 0 _ rfl;obtain⟨p0,-⟩:=HKB.o w bg;clear ih iha hl h hbp hbt hr hno ht;go_enter Tryz.func76,Tryz.ntmps76;go_wp2_with fail;cases hb0:bG R.l i [105,110,116]with
 |true=>have HB0:=ai hb0;clear hb0;refine(cZ R HL.o ⟨#[105,110,116]⟩ _ i d H0.o dc HB0.o).mono ?_;rintro e wy ⟨rfl,xw,hsy⟩;have Ak:=ai xw;have uO:Hid (Step (·=R.rb) w wy):=bg.trans hsy;clear xw hsy p0;obtain⟨p0,hbt⟩:=HKB.o wy uO.o;have Iy:=ai hbt;clear hbt;have m_:=aj Iy.o 0 _ rfl;have ng:=aG Iy.o 0;go_wp2_with fail;refine bodyPost_end (results_none rfl _ _ _) rfl ?_;have hst:Step (·=bt) wy (wy.setCell ⟨bt,0,none⟩ (.int .i64 1)):=bg.setCell _ _ iV;refine aY.dN (a:=.mk 1 dB dB false [] [] (tokA R.l i).line (tokA R.l i).col) (j:=i+1) (by rw[HRR.o];unfold pI;simp only[HB0.o,if_true]) rfl ⟨[.int .i64 1,.string dB,.string dB,.bool false,.slice none 0 0,.slice none 0 0,.int .i64 t.line,.int .i64 t.col],aQ Iy.o 0 (.int .i64 1),?_⟩ (Ak.o.step hst oi) ((uO.o.mono il).trans (hst.mono ir));rw[gG,←HT.o];exact⟨_,_,[],rfl,by decide,by decide,nR,dh.nil _ _ _,by rw[fV],dh.nil _ _ _⟩
 |false=>
  have HB0:=ai hb0;clear hb0;refine(dU R HL.o ⟨#[105,110,116]⟩ _ i d H0.o dc HB0.o).mono ?_;rintro e wn0 ⟨rfl,hrn,hsn⟩;have Qc:=ai hrn;have JU:Hid (Step (·=R.rb) w wn0):=bg.trans hsn;clear hrn hsn p0;obtain⟨p0,-⟩:=HKB.o wn0 JU.o;go_wp2_with fail;cases hb1:bG R.l i [98,111,111,108]with
  |true=>have HB1:=ai hb1;clear hb1;refine(cZ R HL.o ⟨#[98,111,111,108]⟩ _ i d Qc.o dc HB1.o).mono ?_;rintro e wy ⟨rfl,xw,hsy⟩;have Ak:=ai xw;have uO:Hid (Step (·=R.rb) w wy):=JU.o.trans hsy;clear xw hsy p0;obtain⟨p0,hbt⟩:=HKB.o wy uO.o;have Iy:=ai hbt;clear hbt;have m_:=aj Iy.o 0 _ rfl;have ng:=aG Iy.o 0;go_wp2_with fail;refine bodyPost_end (results_none rfl _ _ _) rfl ?_;have hst:Step (·=bt) wy (wy.setCell ⟨bt,0,none⟩ (.int .i64 2)):=bg.setCell _ _ iV;refine aY.dN (a:=.mk 2 dB dB false [] [] (tokA R.l i).line (tokA R.l i).col) (j:=i+1) (by rw[HRR.o];unfold pI;simp only[HB0.o,HB1.o,Bool.false_eq_true,if_false,if_true]) rfl ⟨[.int .i64 2,.string dB,.string dB,.bool false,.slice none 0 0,.slice none 0 0,.int .i64 t.line,.int .i64 t.col],aQ Iy.o 0 (.int .i64 2),?_⟩ (Ak.o.step hst oi) ((uO.o.mono il).trans (hst.mono ir));rw[gG,←HT.o];exact⟨_,_,[],rfl,by decide,by decide,nR,dh.nil _ _ _,by rw[fV],dh.nil _ _ _⟩
  |false=>
   have HB1:=ai hb1;clear hb1;refine(dU R HL.o ⟨#[98,111,111,108]⟩ _ i d Qc.o dc HB1.o).mono ?_;rintro e wn1 ⟨rfl,hrn,hsn⟩;have Qd:=ai hrn;have JV:Hid (Step (·=R.rb) w wn1):=JU.o.trans hsn;clear hrn hsn p0;obtain⟨p0,-⟩:=HKB.o wn1 JV.o;go_wp2_with fail;cases hb2:bG R.l i [102,54,52]with
   |true=>have HB2:=ai hb2;clear hb2;refine(cZ R HL.o ⟨#[102,54,52]⟩ _ i d Qd.o dc HB2.o).mono ?_;rintro e wy ⟨rfl,xw,hsy⟩;have Ak:=ai xw;have uO:Hid (Step (·=R.rb) w wy):=JV.o.trans hsy;clear xw hsy p0;obtain⟨p0,hbt⟩:=HKB.o wy uO.o;have Iy:=ai hbt;clear hbt;have m_:=aj Iy.o 0 _ rfl;have ng:=aG Iy.o 0;go_wp2_with fail;refine bodyPost_end (results_none rfl _ _ _) rfl ?_;have hst:Step (·=bt) wy (wy.setCell ⟨bt,0,none⟩ (.int .i64 3)):=bg.setCell _ _ iV;refine aY.dN (a:=.mk 3 dB dB false [] [] (tokA R.l i).line (tokA R.l i).col) (j:=i+1) (by rw[HRR.o];unfold pI;simp only[HB0.o,HB1.o,HB2.o,Bool.false_eq_true,if_false,if_true]) rfl ⟨[.int .i64 3,.string dB,.string dB,.bool false,.slice none 0 0,.slice none 0 0,.int .i64 t.line,.int .i64 t.col],aQ Iy.o 0 (.int .i64 3),?_⟩ (Ak.o.step hst oi) ((uO.o.mono il).trans (hst.mono ir));rw[gG,←HT.o];exact⟨_,_,[],rfl,by decide,by decide,nR,dh.nil _ _ _,by rw[fV],dh.nil _ _ _⟩
   |false=>
    have HB2:=ai hb2;clear hb2;refine(dU R HL.o ⟨#[102,54,52]⟩ _ i d Qd.o dc HB2.o).mono ?_;rintro e wn2 ⟨rfl,hrn,hsn⟩;have Qe:=ai hrn;have JW:Hid (Step (·=R.rb) w wn2):=JV.o.trans hsn;clear hrn hsn p0;obtain⟨p0,-⟩:=HKB.o wn2 JW.o;go_wp2_with fail;cases hb3:bG R.l i [40]with
    |true=>
     have HB3:=ai hb3;clear hb3;refine(cZ R HL.o ⟨#[40]⟩ _ i d Qe.o dc HB3.o).mono ?_;rintro e wy ⟨rfl,xw,hsy⟩;have Ak:=ai xw;have uO:Hid (Step (·=R.rb) w wy):=JW.o.trans hsy;clear xw hsy p0;obtain⟨p0,hbt⟩:=HKB.o wy uO.o;have Iy:=ai hbt;clear hbt;go_wp2_with fail;cases hn0:aJ R.l (i+1) [41]with
     |out=>exact(dJ hn0).elim
     |err c ln col=>have HN0:=ai hn0;clear hn0;refine(dL R HL.o wy.heap.size ⟨#[41]⟩ _ (i+1) d (Ak.o.quiet (bg.alloc _)) dc (aj (aC _ _) 0 _ rfl)).mono ?_;rintro e wq hp;have hp2:aK R d iJ (aJ R.l (i+1) [41]) _ e wq:=hp;rw[HN0.o]at hp2;obtain⟨rfl,sq⟩:=hp2;refine⟨rfl,aY.aU (c:=c) (ln:=ln) (col:=col) (by rw[HRR.o];unfold pI;simp only[HB0.o,HB1.o,HB2.o,HB3.o,HN0.o,Bool.false_eq_true,if_false,if_true,dI.kT]) rfl ?_⟩;exact((uO.o).mono il).trans ((((Step.refl (·=R.rb) _).alloc _).trans sq).mono il)
     |ok u j0=>have HN0:=ai hn0;clear hn0;refine(dL R HL.o wy.heap.size ⟨#[41]⟩ _ (i+1) d (Ak.o.quiet (bg.alloc _)) dc (aj (aC _ _) 0 _ rfl)).mono ?_;rintro e wq0 hp;have hp2:aK R d iJ (aJ R.l (i+1) [41]) _ e wq0:=hp;rw[HN0.o]at hp2;obtain⟨⟨v,rfl,rfl⟩,hrq,sq⟩:=hp2;have HRQ0:=ai hrq;have HSQ0:Hid (Step (·=R.rb) wy wq0):=((Step.refl (·=R.rb) _).alloc _).trans sq;clear hrq sq p0 hp;obtain⟨p0,hbt⟩:=HKB.o wq0 (uO.o.trans HSQ0.o);have qK:=ai hbt;have m_:=aj hbt 0 _ rfl;have ng:=aG hbt 0;clear hbt;go_wp2_with fail;refine bodyPost_end (results_none rfl _ _ _) rfl ?_;have hst:Step (·=bt) wq0 (wq0.setCell ⟨bt,0,none⟩ (.int .i64 4)):=bg.setCell _ _ iV;refine aY.dN (a:=.mk 4 dB dB false [] [] (tokA R.l i).line (tokA R.l i).col) (j:=j0) (by rw[HRR.o];unfold pI;simp only[HB0.o,HB1.o,HB2.o,HB3.o,HN0.o,Bool.false_eq_true,if_false,if_true,dI.bind_ok]) rfl ⟨[.int .i64 4,.string dB,.string dB,.bool false,.slice none 0 0,.slice none 0 0,.int .i64 t.line,.int .i64 t.col],aQ qK.o 0 (.int .i64 4),?_⟩ (HRQ0.o.step hst oi) (((uO.o.trans HSQ0.o).mono il).trans (hst.mono ir));rw[gG,←HT.o];exact⟨_,_,[],rfl,by decide,by decide,nR,dh.nil _ _ _,by rw[fV],dh.nil _ _ _⟩
    |false=>
     have HB3:=ai hb3;clear hb3;refine(dU R HL.o ⟨#[40]⟩ _ i d Qe.o dc HB3.o).mono ?_;rintro e wn3 ⟨rfl,hrn,hsn⟩;have Qg:=ai hrn;have Iz:Hid (Step (·=R.rb) w wn3):=JW.o.trans hsn;clear hrn hsn p0;obtain⟨p0,-⟩:=HKB.o wn3 Iz.o;go_wp2_with fail;cases hb4:bG R.l i [66,111,120]with
     |true=>
      have HB4:=ai hb4;clear hb4;refine(cZ R HL.o ⟨#[66,111,120]⟩ _ i d Qg.o dc HB4.o).mono ?_;rintro e wy ⟨rfl,xw,hsy⟩;have Ak:=ai xw;have uO:Hid (Step (·=R.rb) w wy):=Iz.o.trans hsy;clear xw hsy p0;obtain⟨p0,hbt⟩:=HKB.o wy uO.o;have Iy:=ai hbt;clear hbt;go_wp2_with fail;cases hn1:aJ R.l (i+1) [60]with
      |out=>exact(dJ hn1).elim
      |err c ln col=>have lS:=ai hn1;clear hn1;refine(dL R HL.o wy.heap.size ⟨#[60]⟩ _ (i+1) d (Ak.o.quiet (bg.alloc _)) dc (aj (aC _ _) 0 _ rfl)).mono ?_;rintro e wq hp;have hp2:aK R d iJ (aJ R.l (i+1) [60]) _ e wq:=hp;rw[lS.o]at hp2;obtain⟨rfl,sq⟩:=hp2;refine⟨rfl,aY.aU (c:=c) (ln:=ln) (col:=col) (by rw[HRR.o];unfold pI;simp only[HB0.o,HB1.o,HB2.o,HB3.o,HB4.o,lS.o,Bool.false_eq_true,if_false,if_true,dI.kT]) rfl ?_⟩;exact((uO.o).mono il).trans ((((Step.refl (·=R.rb) _).alloc _).trans sq).mono il)
      |ok u j1=>
       have lS:=ai hn1;clear hn1;refine(dL R HL.o wy.heap.size ⟨#[60]⟩ _ (i+1) d (Ak.o.quiet (bg.alloc _)) dc (aj (aC _ _) 0 _ rfl)).mono ?_;rintro e wq1 hp;have hp2:aK R d iJ (aJ R.l (i+1) [60]) _ e wq1:=hp;rw[lS.o]at hp2;obtain⟨⟨v,rfl,rfl⟩,hrq,sq⟩:=hp2;have HRQ1:=ai hrq;have HSQ1:Hid (Step (·=R.rb) wy wq1):=((Step.refl (·=R.rb) _).alloc _).trans sq;clear hrq sq p0 hp;obtain⟨p0,hbt⟩:=HKB.o wq1 (uO.o.trans HSQ1.o);have TW:Hid (Step (·=R.rb) w wq1):=uO.o.trans HSQ1.o;clear hbt;go_wp2_with fail;cases hx0:kG f R.l j1 d with
       |out=>exact absurd (by rw[HRR.o];unfold pI;simp only[HB0.o,HB1.o,HB2.o,HB3.o,HB4.o,lS.o,(ai hx0).out,Bool.false_eq_true,if_false,if_true,dI.bind_ok,dI.sG]) fH.o
       |err c ln col=>have HX0:=ai hx0;clear hx0;refine(IH.o R _ j1 d HL.o HRQ1.o hd (by rw[HX0.o];intro h;cases h)).mono ?_;rintro e wq hp;rw[HX0.o]at hp;obtain⟨rfl,sq⟩:=hp;refine⟨rfl,aY.aU (c:=c) (ln:=ln) (col:=col) (by rw[HRR.o];unfold pI;simp only[HB0.o,HB1.o,HB2.o,HB3.o,HB4.o,lS.o,HX0.o,Bool.false_eq_true,if_false,if_true,dI.bind_ok,dI.kT]) rfl ?_⟩;exact(TW.o.mono il).trans (sq.mono il)
       |ok ty0 jx0=>
        have HX0:=ai hx0;clear hx0;refine(IH.o R _ j1 d HL.o HRQ1.o hd (by rw[HX0.o];intro h;cases h)).mono ?_;rintro e Uw hp;rw[HX0.o]at hp;obtain⟨⟨v,rfl,cs,rfl,hty⟩,hrx,hsx⟩:=hp;have HTY0:=ai hty;obtain⟨ty,Qh⟩:=bF ty0;have HTE0:=ai Qh;obtain⟨k0,iK,lf0,iL,rX,xA,l0,c0⟩:=ty0;rw[gG]at hty;obtain⟨vl0,va0,xs0,rfl,-,-,-,⟨a1,c1,rfl,-⟩,-,⟨a2,c2,rfl,-⟩⟩:=hty;have HRX0:=ai hrx;have HSX0:=ai hsx;clear hrx hsx Qh;have JQ:Hid (Step (·=R.rb) w Uw):=TW.o.trans HSX0.o;obtain⟨-,hbt⟩:=HKB.o Uw JQ.o;obtain⟨w3,hw3⟩:=bF (Uw.alloc (.cells #[ah k0,aI iK,aI lf0,bK iL,.slice a1 rX.length c1,.slice a2 xA.length c2,ah l0,ah c0] 46));(have jX:Hid (jg Uw w3):=by rw[hw3];exact bg.alloc _);(have HK3:Hid (w3.heap[Uw.heap.size]?=some (.cells #[ah k0,aI iK,aI lf0,bK iL,.slice a1 rX.length c1,.slice a2 xA.length c2,ah l0,ah c0] 46 (0,0))):=by rw[hw3];exact aC _ _);have JX:=jX.o.keep hbt (fun h=>h);have IA:=ai JX;have m_:=aj JX 0 _ rfl;have ng:=aG JX 0;have xR:=aj JX 5 _ rfl;have Ux:=aG JX 5;have p0':w3.cell? ⟨bp,0,none⟩=some (.pointer (some ⟨R.rb,0,none⟩)):=(HKB.o w3 (JQ.o.trans (jX.o.mono fe))).1;have hxz:=JQ.o.size;obtain⟨w4,hw4⟩:=bF ((w3.setCell ⟨bt,0,none⟩ (.int .i64 6)).setCell ⟨bt,5,none⟩ (.slice (some ⟨Uw.heap.size,0,none⟩) 1 1));(have ji:Hid (Step (·=bt) w3 w4):=by rw[hw4];exact((Step.refl (·=bt) _).setCell _ _ iV).setCell _ _ iV);(have qL:Hid (w4.heap[bt]?=some (.cells #[ah 6,aV,aV,aW,ak,.slice (some ⟨Uw.heap.size,0,none⟩) 1 1,ah t.line,ah t.col] 46 (0,0))):=by rw[hw4];exact aQ (aQ JX 0 (.int .i64 6)) 5 _);have HK4:=ai (ji.o.keep HK3.o om);have og:Hid (Step (fun k=>k=R.rb∨k=bt) w w4):=((JQ.o.trans (jX.o.mono fe)).mono il).trans (ji.o.mono ir);have HR4:=ai ((HRX0.o.quiet jX.o).step ji.o oi);have p0:w4.cell? ⟨bp,0,none⟩=some (.pointer (some ⟨R.rb,0,none⟩)):=ji.o.cell p0' (fun e=>by have e2:bp=bt:=e;omega);rw[hw3]at m_ ng xR Ux;clear hbt JX p0';(go_upto_region 14 with fail);rw[←hw3,←hw4];clear m_ ng xR Ux hw3 hw4;go_wp2_with fail;cases hn2:aJ R.l jx0 [62]with
        |out=>exact(dJ hn2).elim
        |err c ln col=>have qw:=ai hn2;clear hn2;refine(dL R HL.o w4.heap.size ⟨#[62]⟩ _ jx0 d (HR4.o.quiet (bg.alloc _)) dc (aj (aC _ _) 0 _ rfl)).mono ?_;rintro e wq hp;have hp2:aK R d iJ (aJ R.l jx0 [62]) _ e wq:=hp;rw[qw.o]at hp2;obtain⟨rfl,sq⟩:=hp2;refine⟨rfl,aY.aU (c:=c) (ln:=ln) (col:=col) (by rw[HRR.o];unfold pI;simp only[HB0.o,HB1.o,HB2.o,HB3.o,HB4.o,lS.o,HX0.o,qw.o,Bool.false_eq_true,if_false,if_true,dI.bind_ok,dI.kT]) rfl ?_⟩;exact(og.o).trans ((((Step.refl (·=R.rb) _).alloc _).trans sq).mono il)
        |ok u j2=>
         have qw:=ai hn2;clear hn2;refine(dL R HL.o w4.heap.size ⟨#[62]⟩ _ jx0 d (HR4.o.quiet (bg.alloc _)) dc (aj (aC _ _) 0 _ rfl)).mono ?_;rintro e wq2 hp;have hp2:aK R d iJ (aJ R.l jx0 [62]) _ e wq2:=hp;rw[qw.o]at hp2;obtain⟨⟨v,rfl,rfl⟩,hrq,sq⟩:=hp2;have HRQ2:=ai hrq;have HSQ2:Hid (Step (·=R.rb) w4 wq2):=((Step.refl (·=R.rb) _).alloc _).trans sq;clear hrq sq p0 hp;go_wp2_with fail;refine bodyPost_end (results_none rfl _ _ _) rfl ?_;have hsf:Step (·=R.rb) w4 wq2:=HSQ2.o;refine aY.dN (a:=.mk 6 dB dB false [] [Ty.mk k0 iK lf0 iL rX xA l0 c0] (tokA R.l i).line (tokA R.l i).col) (j:=j2) (by rw[HRR.o];unfold pI;simp only[HB0.o,HB1.o,HB2.o,HB3.o,HB4.o,lS.o,HX0.o,qw.o,Bool.false_eq_true,if_false,if_true,dI.bind_ok]) rfl ⟨[.int .i64 6,.string dB,.string dB,.bool false,.slice none 0 0,.slice (some ⟨Uw.heap.size,0,none⟩) 1 1,.int .i64 t.line,.int .i64 t.col],hsf.keep qL.o om,?_⟩ HRQ2.o (og.o.trans (hsf.mono il));rw[gG,←HT.o];have wU:Step (fun k=>k=R.rb∨k=bt) Uw wq2:=((jX.o.mono fe).trans (ji.o.mono ir)).trans (hsf.mono il);refine⟨_,_,[.int .i64 k0,.string iK,.string lf0,.bool iL,.slice a1 rX.length c1,.slice a2 xA.length c2,.int .i64 l0,.int .i64 c0],rfl,by decide,by decide,nR,dh.nil _ _ _,?_,dh.new (hsf.keep HK4.o om) dc om⟩;rw[fV];refine⟨_,[],(List.append_nil _).symm,gG.mono (fun k _ hk=> ?_) _ _ (gG.step wU (fun k hk e=> ?_) _ _ HTY0.o),by rw[fV]⟩
         ·have:=TW.o.size;omega
         ·have:=TW.o.size;omega
     |false=>
      have HB4:=ai hb4;clear hb4;refine(dU R HL.o ⟨#[66,111,120]⟩ _ i d Qg.o dc HB4.o).mono ?_;rintro e wn4 ⟨rfl,hrn,hsn⟩;have HRN4:=ai hrn;have Yx:Hid (Step (·=R.rb) w wn4):=Iz.o.trans hsn;clear hrn hsn p0;obtain⟨p0,-⟩:=HKB.o wn4 Yx.o;go_wp2_with fail;cases hb5:bG R.l i [38]with
      |true=>
       have Am:=ai hb5;clear hb5;refine(cZ R HL.o ⟨#[38]⟩ _ i d HRN4.o dc Am.o).mono ?_;rintro e wy ⟨rfl,xw,hsy⟩;have Ak:=ai xw;have uO:Hid (Step (·=R.rb) w wy):=Yx.o.trans hsy;clear xw hsy p0;obtain⟨p0,hbt⟩:=HKB.o wy uO.o;have Iy:=ai hbt;clear hbt;obtain⟨oj,hoj⟩:=bF (pG R.l (i+1));obtain⟨os,hos⟩:=bF (rV R.l (i+1));obtain⟨mb,hmb⟩:=bF (bG R.l oj [109,117,116]);obtain⟨mj,hmj⟩:=bF (iH R.l oj [109,117,116]);have hos2:os.size≤9223372036854775807:=by
        rw[hos];unfold rV;split
        ·exact Iw HL.o Ak.o.lt
        ·decide
       have HOS:=ai hos2;(have HOPT:Hid (∀X,bC R X (i+1) d→Calls Tryz.prog 79 #[.agg #[gW R.rb 0]] X fun e w'=>e=.returned (.string os)∧bC R w' oj d∧Step (·=R.rb) X w'):=by intro X hX;rw[hoj,hos];exact FQ R HL.o X (i+1) d hX);(have HIS:Hid (∀X,bC R X oj d→Calls Tryz.prog 77 #[.pointer (some ⟨R.rb,0,none⟩),.string ⟨#[109,117,116]⟩] X fun e w'=>e=.returned (.bool mb)∧bC R w' mj d∧Step (·=R.rb) X w'):=by intro X hX;rw[hmb,hmj];exact rW R HL.o ⟨#[109,117,116]⟩ X oj d hX dc);(have tX:Hid (r=(kG f R.l mj d).bind fun a j=>.ok (.mk 7 dB os mb [] [a] (tokA R.l i).line (tokA R.l i).col) j):=by show _=_;rw[HRR.o,hmj,hmb,hos,hoj];unfold pI;simp only[HB0.o,HB1.o,HB2.o,HB3.o,HB4.o,Am.o,Bool.false_eq_true,if_false,if_true]);clear hoj hos hmb hmj hos2;(go_upto_region 16 with fail);go_cut [] (fun wx=>bC R wx mj d∧wx.heap[bt]?=some (.cells #[ah 7,aV,aI os,bK mb,ak,ak,ah t.line,ah t.col] 46 (0,0))∧Step (fun k=>k=R.rb∨k=bt) w wx);case first=>
        first
        |(go_region_law (first
            |(go_simp;go_at_call 77;refine(HIS.o _ HRO.o).mono ?_;rintro e9 w9 ⟨rfl,jD,hs9⟩;have HR9:=ai jD;have Yy:Hid (Step (·=R.rb) w w9):=(HSO.o).trans hs9;clear jD hs9;obtain⟨p9,iW⟩:=HKB.o w9 Yy.o;have Yz:=ai iW;have m_:=aj iW 0 _ rfl;have ng:=aG iW 0;have TY:=aj iW 2 _ rfl;have T_:=aG iW 2;have bt3:=aj iW 3 _ rfl;have bz3:=aG iW 3;clear iW)
            |(go_simp;go_at_call 79;refine(HOPT.o _ (Ak.o.quiet (bg.drew))).mono ?_;rintro e8 w8 ⟨rfl,uo,hs8⟩;have HRO:=ai uo;have HSO:Hid (Step (·=R.rb) w w8):=uO.o.trans (((Step.refl (·=R.rb) _).drew).trans hs8);clear uo hs8;obtain⟨p8,-⟩:=HKB.o w8 HSO.o)))
        |fail
        all_goals (
         go_wp2_with fail
         go_meet
         case rel=>exact⟨HR9.o.step ((((Step.refl (·=bt) w9).setCell _ _ iV).setCell _ _ iV).setCell _ _ iV) oi,aQ (aQ (aQ Yz.o 0 (.int .i64 7)) 2 (.string os)) 3 (.bool mb),(Yy.o.mono il).trans (((((Step.refl (·=bt) w9).setCell _ _ iV).setCell _ _ iV).setCell _ _ iV).mono ir)⟩)
       case rest=>
        obtain⟨hrc,hbc,hsc⟩:=hcut;obtain⟨w4,rfl⟩:=bF wc;have HR4:=ai hrc;have qL:=ai hbc;have og:=ai hsc;clear hrc hbc p0;have p0:w4.cell? ⟨bp,0,none⟩=some (.pointer (some ⟨R.rb,0,none⟩)):=hsc.cell HBP.o (fun e=>by have e2:bp=R.rb∨bp=bt:=e;omega);clear hsc;go_wp2_with fail;cases hx1:kG f R.l mj d with
        |out=>exact absurd (by rw[tX.o];simp only[(ai hx1).out,dI.sG]) fH.o
        |err c ln col=>have Uy:=ai hx1;clear hx1;refine(IH.o R _ mj d HL.o HR4.o hd (by rw[Uy.o];intro h;cases h)).mono ?_;rintro e wq hp;rw[Uy.o]at hp;obtain⟨rfl,sq⟩:=hp;refine⟨rfl,aY.aU (c:=c) (ln:=ln) (col:=col) (by rw[tX.o];simp only[Uy.o,dI.kT]) rfl ?_⟩;exact(og.o).trans (sq.mono il)
        |ok ty1 jx1=>have Uy:=ai hx1;clear hx1;refine(IH.o R _ mj d HL.o HR4.o hd (by rw[Uy.o];intro h;cases h)).mono ?_;rintro e YA hp;rw[Uy.o]at hp;obtain⟨⟨v,rfl,cs,rfl,hty⟩,hrx,hsx⟩:=hp;have HTY1:=ai hty;obtain⟨ty,Qh⟩:=bF ty1;have HTE1:=ai Qh;obtain⟨k0,iK,lf0,iL,rX,xA,l0,c0⟩:=ty1;rw[gG]at hty;obtain⟨vl0,va0,xs0,rfl,-,-,-,⟨a1,c1,rfl,-⟩,-,⟨a2,c2,rfl,-⟩⟩:=hty;have HRX1:=ai hrx;have YB:=ai hsx;clear hrx hsx Qh;obtain⟨w5,hw5⟩:=bF (YA.alloc (.cells #[ah k0,aI iK,aI lf0,bK iL,.slice a1 rX.length c1,.slice a2 xA.length c2,ah l0,ah c0] 46));(have sK:Hid (jg YA w5):=by rw[hw5];exact bg.alloc _);(have NC:Hid (w5.heap[YA.heap.size]?=some (.cells #[ah k0,aI iK,aI lf0,bK iL,.slice a1 rX.length c1,.slice a2 xA.length c2,ah l0,ah c0] 46 (0,0))):=by rw[hw5];exact aC _ _);have pU:=sK.o.keep (YB.o.keep qL.o om) (fun h=>h);have NF:=ai pU;have xR:=aj pU 5 _ rfl;have Ux:=aG pU 5;have hxz:=YB.o.size;have hxy:=og.o.size;obtain⟨w6,hw6⟩:=bF (w5.setCell ⟨bt,5,none⟩ (.slice (some ⟨YA.heap.size,0,none⟩) 1 1));(have sN:Hid (Step (·=bt) w5 w6):=by rw[hw6];exact bg.setCell _ _ iV);(have wV:Hid (w6.heap[bt]?=some (.cells #[ah 7,aV,aI os,bK mb,ak,.slice (some ⟨YA.heap.size,0,none⟩) 1 1,ah t.line,ah t.col] 46 (0,0))):=by rw[hw6];exact aQ pU 5 _);have Uz:=ai (sN.o.keep NC.o om);rw[hw5]at xR Ux;clear pU;go_wp2_with fail;rw[←hw5,←hw6];clear xR Ux hw5 hw6;refine bodyPost_end (results_none rfl _ _ _) rfl ?_;have wU:Step (fun k=>k=R.rb∨k=bt) YA w6:=(sK.o.mono fe).trans (sN.o.mono ir);refine aY.dN (a:=.mk 7 dB os mb [] [Ty.mk k0 iK lf0 iL rX xA l0 c0] (tokA R.l i).line (tokA R.l i).col) (j:=jx1) (by rw[tX.o];simp only[Uy.o,dI.bind_ok]) rfl ⟨[.int .i64 7,.string dB,.string os,.bool mb,.slice none 0 0,.slice (some ⟨YA.heap.size,0,none⟩) 1 1,.int .i64 t.line,.int .i64 t.col],wV.o,?_⟩ ((HRX1.o.quiet sK.o).step sN.o oi) (og.o.trans ((YB.o.mono il).trans wU));rw[gG,←HT.o];refine⟨_,_,[.int .i64 k0,.string iK,.string lf0,.bool iL,.slice a1 rX.length c1,.slice a2 xA.length c2,.int .i64 l0,.int .i64 c0],rfl,by decide,HOS.o,nR,dh.nil _ _ _,?_,dh.new Uz.o dc om⟩;rw[fV];exact⟨_,[],(List.append_nil _).symm,gG.mono oi _ _ (gG.step wU oi _ _ HTY1.o),by rw[fV]⟩
      |false=>
       have Am:=ai hb5;clear hb5;refine(dU R HL.o ⟨#[38]⟩ _ i d HRN4.o dc Am.o).mono ?_;rintro e wn5 ⟨rfl,hrn,hsn⟩;have HRN5:=ai hrn;have YC:Hid (Step (·=R.rb) w wn5):=Yx.o.trans hsn;clear hrn hsn p0;obtain⟨p0,-⟩:=HKB.o wn5 YC.o;go_wp2_with fail;cases hb6:bG R.l i [100,121,110]with
       |true=>
        have EK:=ai hb6;clear hb6;refine(cZ R HL.o ⟨#[100,121,110]⟩ _ i d HRN5.o dc EK.o).mono ?_;rintro e wy ⟨rfl,xw,hsy⟩;have Ak:=ai xw;have uO:Hid (Step (·=R.rb) w wy):=YC.o.trans hsy;clear xw hsy p0;obtain⟨p0,hbt⟩:=HKB.o wy uO.o;have Iy:=ai hbt;clear hbt;go_wp2_with fail;cases hn3:bH R.l (i+1)with
        |out=>exact(iQ hn3).elim
        |err c ln col=>have uZ:=ai hn3;clear hn3;refine(name_any R HL.o _ (i+1) d Ak.o).mono ?_;rintro e wq hp;rw[uZ.o]at hp;obtain⟨rfl,sq⟩:=hp;refine⟨rfl,aY.aU (c:=c) (ln:=ln) (col:=col) (by rw[HRR.o];unfold pI;simp only[HB0.o,HB1.o,HB2.o,HB3.o,HB4.o,Am.o,EK.o,uZ.o,Bool.false_eq_true,if_false,if_true,dI.kT]) rfl ?_⟩;exact(uO.o.mono il).trans (sq.mono il)
        |ok nm j3=>
         have uZ:=ai hn3;have HNS3:=ai (fF HL.o (Ak.o).lt hn3);clear hn3;refine(name_any R HL.o _ (i+1) d Ak.o).mono ?_;rintro e wq3 hp;rw[uZ.o]at hp;obtain⟨⟨v,rfl,rfl⟩,hrq,sq⟩:=hp;have HRQ3:=ai hrq;have HSQ3:Hid (Step (·=R.rb) wy wq3):=sq;clear hrq sq p0;obtain⟨p0,hbt⟩:=HKB.o wq3 (uO.o.trans HSQ3.o);have TW:Hid (Step (·=R.rb) w wq3):=uO.o.trans HSQ3.o;have mD:=ai hbt;clear hbt;have m_:=aj mD.o 0 _ rfl;have ng:=aG mD.o 0;have Eg:=aj mD.o 1 _ rfl;have Eh:=aG mD.o 1;obtain⟨w4,hw4⟩:=bF ((wq3.setCell ⟨bt,0,none⟩ (.int .i64 8)).setCell ⟨bt,1,none⟩ (.string nm));(have ji:Hid (Step (·=bt) wq3 w4):=by rw[hw4];exact(((Step.refl (·=bt) _).setCell _ _ iV).setCell _ _ iV));(have qL:Hid (w4.heap[bt]?=some (.cells #[ah 8,aI nm,aV,aW,ak,ak,ah t.line,ah t.col] 46 (0,0))):=by rw[hw4];exact(aQ (aQ mD.o 0 (.int .i64 8)) 1 (.string nm)));have og:Hid (Step (fun k=>k=R.rb∨k=bt) w w4):=(TW.o.mono il).trans (ji.o.mono ir);have HR4:=ai ((HRQ3.o).step ji.o oi);have p4:w4.cell? ⟨bp,0,none⟩=some (.pointer (some ⟨R.rb,0,none⟩)):=ji.o.cell p0 (fun e=>by have e2:bp=bt:=e;omega);(go_upto_region 20 with fail);rw[←hw4];clear p0 hw4 m_ ng Eg Eh;have p0:=p4;clear p4;go_wp2_with fail;cases hb7:bG R.l j3 [43]with
         |false=>have FT:=ai hb7;clear hb7;refine(dU R HL.o ⟨#[43]⟩ _ j3 d HR4.o dc FT.o).mono ?_;rintro e wz ⟨rfl,hrz,hsz⟩;have D5:=ai hrz;have UA:=ai hsz;clear hrz hsz p0;go_wp2_with fail;refine bodyPost_end (results_none rfl _ _ _) rfl ?_;refine aY.dN (a:=.mk 8 nm dB false [] [] (tokA R.l i).line (tokA R.l i).col) (j:=j3) (by rw[HRR.o];unfold pI;simp only[HB0.o,HB1.o,HB2.o,HB3.o,HB4.o,Am.o,EK.o,uZ.o,FT.o,Bool.false_eq_true,if_false,if_true,dI.bind_ok]) rfl ⟨[.int .i64 8,.string nm,.string dB,.bool false,.slice none 0 0,.slice none 0 0,.int .i64 t.line,.int .i64 t.col],UA.o.keep qL.o om,?_⟩ D5.o (og.o.trans (UA.o.mono il));rw[gG,←HT.o];exact⟨_,_,[],rfl,HNS3.o,by decide,nR,dh.nil _ _ _,by rw[fV],dh.nil _ _ _⟩
         |true=>
          have FT:=ai hb7;clear hb7;refine(cZ R HL.o ⟨#[43]⟩ _ j3 d HR4.o dc FT.o).mono ?_;rintro e wz ⟨rfl,hrz,hsz⟩;have D5:=ai hrz;have UA:=ai hsz;have NF:=ai (hsz.keep qL.o om);have HS05:Hid (Step (fun k=>k=R.rb∨k=bt) w wz):=og.o.trans (hsz.mono il);have p1:=hsz.cell p0 (fun e=>by have e2:bp=R.rb:=e;omega);clear hrz hsz p0;have p0:=p1;clear p1;go_wp2_with fail;cases hn4:jl R.l (j3+1)with
          |out=>exact(zQ hn4).elim
          |err c ln col=>have JY:=ai hn4;clear hn4;refine(vM R HL.o _ (j3+1) d D5.o).mono ?_;rintro e wq hp;rw[JY.o]at hp;obtain⟨rfl,sq⟩:=hp;refine⟨rfl,aY.aU (c:=c) (ln:=ln) (col:=col) (by rw[HRR.o];unfold pI;simp only[HB0.o,HB1.o,HB2.o,HB3.o,HB4.o,Am.o,EK.o,uZ.o,FT.o,JY.o,Bool.false_eq_true,if_false,if_true,dI.bind_ok,dI.kT]) rfl ?_⟩;exact HS05.o.trans (sq.mono il)
          |ok lf j4=>have JY:=ai hn4;have YD:=ai (xQ HL.o (D5.o).lt hn4);clear hn4;refine(vM R HL.o _ (j3+1) d D5.o).mono ?_;rintro e wq4 hp;rw[JY.o]at hp;obtain⟨⟨v,rfl,rfl⟩,hrq,sq⟩:=hp;have tY:=ai hrq;have wV:=ai (sq.keep NF.o om);have HS06:Hid (Step (fun k=>k=R.rb∨k=bt) w wq4):=HS05.o.trans (sq.mono il);clear hrq sq p0;have TY:=aj wV.o 2 _ rfl;have T_:=aG wV.o 2;go_wp2_with fail;refine bodyPost_end (results_none rfl _ _ _) rfl ?_;have hst:Step (·=bt) wq4 (wq4.setCell ⟨bt,2,none⟩ (.string lf)):=bg.setCell _ _ iV;refine aY.dN (a:=.mk 8 nm lf false [] [] (tokA R.l i).line (tokA R.l i).col) (j:=j4) (by rw[HRR.o];unfold pI;simp only[HB0.o,HB1.o,HB2.o,HB3.o,HB4.o,Am.o,EK.o,uZ.o,FT.o,JY.o,Bool.false_eq_true,if_false,if_true,dI.bind_ok]) rfl ⟨[.int .i64 8,.string nm,.string lf,.bool false,.slice none 0 0,.slice none 0 0,.int .i64 t.line,.int .i64 t.col],aQ wV.o 2 (.string lf),?_⟩ (tY.o.step hst oi) (HS06.o.trans (hst.mono ir));rw[gG,←HT.o];exact⟨_,_,[],rfl,HNS3.o,YD.o,nR,dh.nil _ _ _,by rw[fV],dh.nil _ _ _⟩
       |false=>
        have EK:=ai hb6;clear hb6;refine(dU R HL.o ⟨#[100,121,110]⟩ _ i d HRN5.o dc EK.o).mono ?_;rintro e wn6 ⟨rfl,hrn,hsn⟩;have YE:=ai hrn;have UB:Hid (Step (·=R.rb) w wn6):=YC.o.trans hsn;clear hrn hsn p0;obtain⟨p0,-⟩:=HKB.o wn6 UB.o;go_wp2_with fail;cases Pg:bH R.l i with
        |out=>exact(iQ Pg).elim
        |err c ln col=>have YF:=ai Pg;clear Pg;refine(name_any R HL.o _ i d YE.o).mono ?_;rintro e wq hp;rw[YF.o]at hp;obtain⟨rfl,sq⟩:=hp;refine⟨rfl,aY.aU (c:=c) (ln:=ln) (col:=col) (by rw[HRR.o];unfold pI;simp only[HB0.o,HB1.o,HB2.o,HB3.o,HB4.o,Am.o,EK.o,YF.o,Bool.false_eq_true,if_false,dI.kT]) rfl ?_⟩;exact(UB.o.mono il).trans (sq.mono il)
        |ok nm j5=>
         have YF:=ai Pg;have HNS5:=ai (fF HL.o (YE.o).lt Pg);clear Pg;refine(name_any R HL.o _ i d YE.o).mono ?_;rintro e wq5 hp;rw[YF.o]at hp;obtain⟨⟨v,rfl,rfl⟩,hrq,sq⟩:=hp;have HRQ5:=ai hrq;have HSQ5:Hid (Step (·=R.rb) wn6 wq5):=sq;clear hrq sq p0;obtain⟨p0,hbt⟩:=HKB.o wq5 (UB.o.trans HSQ5.o);have TW:Hid (Step (·=R.rb) w wq5):=UB.o.trans HSQ5.o;have mD:=ai hbt;clear hbt;have m_:=aj mD.o 0 _ rfl;have ng:=aG mD.o 0;have Eg:=aj mD.o 1 _ rfl;have Eh:=aG mD.o 1;obtain⟨w4,hw4⟩:=bF ((wq5.setCell ⟨bt,0,none⟩ (.int .i64 5)).setCell ⟨bt,1,none⟩ (.string nm));(have ji:Hid (Step (·=bt) wq5 w4):=by rw[hw4];exact(((Step.refl (·=bt) _).setCell _ _ iV).setCell _ _ iV));(have qL:Hid (w4.heap[bt]?=some (.cells #[ah 5,aI nm,aV,aW,ak,ak,ah t.line,ah t.col] 46 (0,0))):=by rw[hw4];exact(aQ (aQ mD.o 0 (.int .i64 5)) 1 (.string nm)));have og:Hid (Step (fun k=>k=R.rb∨k=bt) w w4):=(TW.o.mono il).trans (ji.o.mono ir);have HR4:=ai ((HRQ5.o).step ji.o oi);have p4:w4.cell? ⟨bp,0,none⟩=some (.pointer (some ⟨R.rb,0,none⟩)):=ji.o.cell p0 (fun e=>by have e2:bp=bt:=e;omega);(go_upto_region 1 with fail);rw[←hw4];clear p0 hw4 m_ ng Eg Eh;have p0:=p4;clear p4;go_wp2_with fail;(have hbr:R.rb<bt:=by omega);cases hx:Aj f R.l j5 d with
         |out=>have HX:=ai hx;exact absurd (by rw[HRR.o,zS HB0.o HB1.o HB2.o HB3.o HB4.o Am.o EK.o,YF.o,dI.bind_ok,HX.o];rfl) fH.o
         |err c ln col=>have HX:=ai hx;clear hx;refine(IHA.o R _ j5 d bt 5 nm t HL.o HR4.o hd hbr qL.o (by rw[HX.o];intro h;cases h)).mono ?_;rintro e wq hp;rw[HX.o]at hp;obtain⟨rfl,sq⟩:=hp;refine⟨rfl,aY.aU (c:=c) (ln:=ln) (col:=col) (by rw[HRR.o,zS HB0.o HB1.o HB2.o HB3.o HB4.o Am.o EK.o,YF.o,dI.bind_ok,HX.o];rfl) rfl ?_⟩;exact og.o.trans sq
         |ok p jx=>have HX:=ai hx;clear hx;refine(IHA.o R _ j5 d bt 5 nm t HL.o HR4.o hd hbr qL.o (by rw[HX.o];intro h;cases h)).mono ?_;rintro e wx hp;rw[HX.o]at hp;obtain⟨rfl,⟨vl,va,xs,hbx,hsz,hrl,hts,hra⟩,hrx,hsx⟩:=hp;have HP:=ai hsz;have Ua:=ai hbx;have tY:=ai hrl;have HTS:=ai hts;have kY:=ai hra;have vO:=ai hrx;have qm:=ai hsx;clear hsz hbx hrl hts hra hrx hsx p0;go_wp2_with fail;refine bodyPost_end (results_none rfl _ _ _) rfl ?_;have hz:=og.o.size;refine aY.dN (a:=.mk 5 nm dB false p.1 p.2 (tokA R.l i).line (tokA R.l i).col) (j:=jx) (by rw[HRR.o,zS HB0.o HB1.o HB2.o HB3.o HB4.o Am.o EK.o,YF.o,dI.bind_ok,HX.o];rfl) rfl ⟨[.int .i64 5,.string nm,.string dB,.bool false,vl,va,.int .i64 t.line,.int .i64 t.col],Ua.o,?_⟩ vO.o (og.o.trans qm.o);rw[gG,←HT.o];exact⟨_,_,xs,rfl,HNS5.o,by decide,HP.o,tY.o.mono oi,fV.mono oi _ _ HTS.o,kY.o.mono oi⟩
theorem Tryz.gB:(Tryz.prog.info? 46).map (·.size)=some 8:=by kernel_rfl
theorem Ap:Enters 76:=fun xs w=>by go_simp
theorem gG.parts {w:World} {P:Nat→Prop} {ty:Ty} {cs:List Value} (h:gG w P ty cs):∃(k:Int) (nm lf:ByteArray) (m:Bool) (a1:Option Addr) (n1 c1:Nat) (a2:Option Addr) (n2 c2:Nat) (l c:Int),cs=[.int .i64 k,.string nm,.string lf,.bool m,.slice a1 n1 c1,.slice a2 n2 c2,.int .i64 l,.int .i64 c]:=by obtain⟨k0,iK,lf0,iL,rX,xA,l0,c0⟩:=ty;rw[gG]at h;obtain⟨vl0,va0,xs0,rfl,-,-,-,⟨a1,c1,rfl,-⟩,-,⟨a2,c2,rfl,-⟩⟩:=h;exact⟨_,_,_,_,_,_,_,_,_,_,_,_,rfl⟩
theorem Qi (f:Nat) (ih:vN f) (iha:Cj f):vN (f+1):=by
 intro R w i d hl h hd hno;have hmf:∀(fn:Fn) (first cap:Array Value) (w:World),(Instr.makeFunc fn first cap).run Tryz.prog w=.ok (.func fn first cap) w:=fun _ _ _ _=>rfl;have HL:=ai hl;have H0:=ai h;have fH:=ai hno;obtain⟨r,hr⟩:=bF (kG (f+1) R.l i d);have HRR:=ai hr;rw[←hr];obtain⟨t,ht⟩:=bF (tokA R.l i);have HT:=ai ht;have uq:=aP h.blk;obtain⟨w1,hw1⟩:=bF ((w.alloc (.cells #[gW R.rb 0] 75)).alloc (.cells #[ah 0,dG,dG,aW,ak,ak,ah 0,ah 0] 46));have dH:=nT hw1
 have kK:=nC hw1
 have lS:=nD hw1
 have HW1:=ai hw1;have H1:=ai (h.quiet dH.o);have p0:w1.cell? ⟨w.heap.size,0,none⟩=some (.pointer (some ⟨R.rb,0,none⟩)):=aj kK.o 0 _ rfl;have HAT:=ai (at_at R w1 i d t H1.o (by rw[ht];exact H1.o.tok));clear hl h hno hr hw1 ht;go_enter Tryz.func44,Tryz.ntmps44;go_upto_region 1 with fail
 rw[←HW1.o];go_wp2_with fail;refine HAT.o.mono ?_;rintro e w2 ⟨rfl,h2⟩;have HS2:=ai (dH.o.trans h2);have HP2:=ai (h2.keep kK.o (fun h=>h));have qw:=ai (h2.keep lS.o (fun h=>h));have hn1:=aP qw.o;obtain⟨w3,hw3⟩:=bF (w2.alloc (.cells #[ah 0,aV,aV,aW,ak,ak,ah t.line,ah t.col] 46));have lM:=nS hw3
 have HB3:=nB hw3
 have jX:=ai (HS2.o.trans lM.o);have zJ:=ai (lM.o.keep HP2.o (fun h=>h));have uZ:=ai (lM.o.keep qw.o (fun h=>h));have H3:=ai (H0.o.quiet jX.o);have HW3:=ai hw3;clear h2 hw3 p0;have p0:w3.cell? ⟨w.heap.size,0,none⟩=some (.pointer (some ⟨R.rb,0,none⟩)):=aj zJ.o 0 _ rfl;go_upto_region 2 with fail
 have hx3:w2.alloc (.cells #[ah 0,dG,dG,aW,ak,ak,ah t.line,ah t.col] 46)=w3:=HW3.o.symm;rw[hx3];clear hx3;go_wp2_with fail;by_cases qy:d=40
 ·refine(xN R _ [.pointer (some ⟨w.heap.size,0,none⟩),.pointer (some ⟨w2.heap.size,0,none⟩)] w3 i d t H3.o (by rw[HT.o];exact H3.o.tok) qy).mono ?_;rintro e w4 ⟨rfl,h4⟩;refine⟨rfl,?_⟩;rw[HRR.o,EJ,if_pos qy,iw,←HT.o];exact⟨rfl,(jX.o.trans h4).mono fe⟩
 ·have jV:Hid (r=pI f R.l i (d+1)):=by show _=_;rw[HRR.o,EJ,if_neg qy]
  have hnb:pI f R.l i (d+1)≠.out:=fun e=>fH.o (by rw[←HRR.o,jV.o,e]);have IB:Hid (∀X,bC R X i (d+1)→Step (·=R.rb) w3 X→Calls Tryz.prog 76 #[.pointer (some ⟨w.heap.size,0,none⟩),.pointer (some ⟨w2.heap.size,0,none⟩)] X (aY R (d+1) w2.heap.size (JR X.heap.size w2.heap.size) (pI f R.l i (d+1)) X)):=fun X hX hs=>Qb R f ih iha w.heap.size w2.heap.size X i (d+1) t HL.o hX om (hs.keep zJ.o om) (hs.keep HB3.o om) om om HT.o hnb
  have IC:d<40:=by omega
  cases hb:pI f R.l i (d+1)with
  |out=>exact absurd hb hnb
  |err c ln col=>
   have HB:=ai hb;clear hb;refine(Ci R _ [.pointer (some ⟨w.heap.size,0,none⟩),.pointer (some ⟨w2.heap.size,0,none⟩)] w3 i d (Q:=fun X=>Step (fun k=>k=R.rb∨k=w2.heap.size) w3 X) (hk:=Ap) (h:=H3.o) (hd:=IC) (hby:=fun X hX hs=> ?_) (es:=[{v:=.iface 184 (.agg #[ah c,ah ln,ah col]),recovered:=false}])).mono ?_
   ·refine(IB.o X hX hs).mono ?_;intro e X2 hp;rw[HB.o]at hp;exact⟨hp.1,(hs.mono il).trans hp.2⟩
   ·rintro e w4 ⟨rfl,h4⟩;refine⟨rfl,?_⟩;rw[jV.o,HB.o];exact⟨rfl,(jX.o.mono fe).then h4 oi⟩
  |ok ty j=>
   have HB:=ai hb;clear hb;refine(FP R _ [.pointer (some ⟨w.heap.size,0,none⟩),.pointer (some ⟨w2.heap.size,0,none⟩)] w3 i d (fun i' X=>i'=j∧JR w3.heap.size w2.heap.size X ty∧Step (fun k=>k=R.rb∨k=w2.heap.size) w3 X) Ap H3.o IC (fun X hX hs=> ?_)).mono ?_
   ·refine(IB.o X hX hs).mono ?_;intro e X2 hp;rw[HB.o]at hp;obtain⟨he,⟨cs,hc,ht⟩,hr,hs2⟩:=hp;exact⟨he,j,hr,rfl,⟨cs,hc,gG.mono (fun k _ hk=>by have:=hs.size;omega) _ _ ht⟩,(hs.mono il).trans hs2⟩
   ·rintro e w4 ⟨rfl,i',X,⟨rfl,⟨cs,hc,hty⟩,hsx⟩,hr4,hs4⟩;have hlt3:=aP HB3.o;have hb4:=hs4.keep hc om;have FU:=gG.step hs4 oi _ _ hty;have JZ:Step (fun k=>k=R.rb∨k=w2.heap.size) w3 w4:=hsx.trans (hs4.mono il);obtain⟨k0,iK,lf0,iL,a1,n1,c1,a2,n2,c2,l0,c0,rfl⟩:=FU.parts;have HR4:=ai hr4;have Bq:=ai FU;have yO:=ai JZ;have HB4:=ai hb4;have JY:=ai (JZ.keep uZ.o om);(have bJ:Hid (∀(jj:Nat) v,[Value.int .i64 k0,aI iK,aI lf0,bK iL,.slice a1 n1 c1,.slice a2 n2 c2,ah l0,ah c0][jj]?=some v→w4.cell? ⟨w2.heap.size,0+jj,none⟩=some v):=by intro jj v hv;rw[Nat.zero_add];exact aj HB4.o jj v pO);have dQ:=ai (gG.one FU);have hsz3:=lM.o.size;clear hc hty hsx hr4 hs4 hb4 FU JZ p0;go_wp2_with (first
     |(refine aN rfl 46 (.tmp 3) rfl w2.heap.size 0 rfl [.int .i64 k0,.string iK,.string lf0,.bool iL,.slice a1 n1 c1,.slice a2 n2 c2,.int .i64 l0,.int .i64 c0] _ bJ.o Tryz.underlying46 rfl Tryz.gB ?_)
     |(refine aB (w:=w4) rfl 46 (.tmp 2) (.tmp 12) rfl (w.heap.size+1) 0 46 _ [.int .i64 k0,.string iK,.string lf0,.bool iL,.slice a1 n1 c1,.slice a2 n2 c2,.int .i64 l0,.int .i64 c0] rfl rfl JY.o Tryz.gB (Nat.le_of_eq rfl) dQ.o ?_;intro w5 hb5 hst5))
    have Cm:w5.heap[w.heap.size+1]?=some (.cells [Value.int .i64 k0,aI iK,aI lf0,bK iL,.slice a1 n1 c1,.slice a2 n2 c2,ah l0,ah c0].toArray 46 (0,0)):=hb5;refine bodyPost_ret (aS rfl _ (w.heap.size+1) 46 _ _ rfl Cm Tryz.underlying46 rfl Tryz.gB) rfl ?_;rw[jV.o,HB.o];refine⟨⟨_,rfl,_,rfl,gG.mono (fun k _ hk=>by have:=jX.o.size;omega) _ _ (gG.step hst5 oi _ _ Bq.o)⟩,HR4.o.step hst5 oi,?_⟩;have YG:Step (·=R.rb) w w4:=(jX.o.mono fe).then yO.o oi;exact YG.then hst5 oi
theorem Qj {w w':World} {base size n g c:Nat} {e:TypeId} {xs zs cs:List Value} {cur:Array Value} (h:w.ownsRow base e size (.slice (some ⟨g,0,none⟩) (n+1) c) (n+1) (xs++zs)) (hx:xs.length=n*size) (hc:cs.length=size) (hg:w.heap[g]?=some (.cells cur e (0,0))) (hb:w'.heap[g]?=some (.cells (cur.toList.take (n*size)++(cs++cur.toList.drop (n*size+cs.length))).toArray e (0,0))):w'.ownsRow base e size (.slice (some ⟨g,0,none⟩) (n+1) c) (n+1) (xs++cs):=by
 rcases h.2 with⟨h1,-⟩|⟨g',cap,cur',h1,h2,h3,h4,h5,h6,h7⟩
 ·cases h1
 ·cases h1;rw[hg]at h3;cases h3;have hsz:(n+1)*size=n*size+size:=by rw[Nat.add_mul,Nat.one_mul]
  have hcap:(n+1)*size≤c*size:=Nat.mul_le_mul_right _ h4;have hct:(cur.toList.take (n*size)).length=n*size:=by simp;omega
  have hxt:cur.toList.take (n*size)=xs:=by (have h8:(cur.toList.take ((n+1)*size)).take (n*size)=(xs++zs).take (n*size):=by rw[h7]);rw[List.take_take,Nat.min_eq_left om]at h8;rw[h8,←hx,List.take_left]
  refine⟨by rw[List.length_append,hx,hc,hsz],.inr ⟨g,c,_,rfl,h2,hb,h4,h5,?_,?_⟩⟩
  ·simp;omega
  ·show(cur.toList.take (n*size)++(cs++cur.toList.drop (n*size+cs.length))).take ((n+1)*size)=xs++cs;rw[←List.append_assoc,List.take_append_of_le_length (by rw[List.length_append,hct,hc];omega),List.take_of_length_le (by rw[List.length_append,hct,hc];omega),hxt]
theorem uw {w:World} {base size n:Nat} {e:TypeId} {v:Value} {xs:List Value} (h:w.ownsRow base e size v n xs) (hn:0<n):∃g c cur,v=.slice (some ⟨g,0,none⟩) n c∧base≤g∧w.heap[g]?=some (.cells cur e (0,0))∧n*size≤cur.size:=by
 rcases h.2 with⟨-,h2⟩|⟨g,cap,cur,h1,h2,h3,h4,h5,h6,h7⟩
 ·omega
 ·exact⟨g,cap,cur,h1,h2,h3,by rw[h6];exact Nat.mul_le_mul_right _ h4⟩
structure yP (El:World→(Nat→Prop)→List Value→Prop):Prop where
 step:∀(w w':World) (P S:Nat→Prop) (cs:List Value),Step S w w'→(∀q,P q→¬S q)→El w P cs→El w' P cs
 mono:∀(w:World) (P P':Nat→Prop) (cs:List Value),(∀q,q<w.heap.size→P q→P' q)→El w P cs→El w P' cs
structure jH (R:gI) (j1 j2 d:Nat) (w0:World) (ic ib ia iy sx iz bt:Nat) (qM:Value→Obj) (base:Nat) (e:TypeId) (size n:Nat) (va:Value) (xs zs:List Value) (El:World→(Nat→Prop)→List Value→Prop) (vals:List (Option Value))
  (L:Nat→Bool) (V:Nat→Value) (X:World):Prop where
 iD:∀(i:Nat) v,vals[i]?=some (some v)→L i=true→V i=v
 st:Step (fun q=>q=R.rb∨q=bt∨va.ownBlock=some q) w0 X
 rd:bC R X (if L ic then j2 else j1) d
 el:L ic=true→∃cs:List Value,V ic=.agg cs.toArray∧El X (fun q=>w0.heap.size≤q∧(L ia=true→(V ia).ownBlock≠some q)) cs
 bl:L ib=true→L ia=false→∃zb,V ib=.slice (some ⟨zb,0,none⟩) 1 1∧w0.heap.size≤zb∧X.heap[zb]?=some (.cells zs.toArray e (0,0))
 old:L ia=false→X.ownsRow base e size va n xs
 new:L ia=true→∃g c,V ia=.slice (some ⟨g,0,none⟩) (n+1) c∧(va.ownBlock=some g∨w0.heap.size≤g)∧∃ys,X.ownsRow base e size (V ia) (n+1) (xs++ys)∧ys.length=size∧(L sx=true→V ic=.agg ys.toArray)
 blk:X.heap[bt]?=some (qM (if L iz then V ia else va))
 pa:L ia=true→∀i,i<ia→L i=true
 ps:L sx=true→L ia=true
 pz:L iz=true→L ia=true
 ix:L iy=true→L ia=true∧∀g c,V ia=.slice (some ⟨g,0,none⟩) (n+1) c→V iy=.pointer (some ⟨g,n*size,none⟩)
structure xB (R:gI) (w0:World) (ic ib ia iy sx iz bt:Nat) (base size n:Nat) (va:Value) (xs zs:List Value):Prop where
 hc:ic<ia
 hb:ib<ia
 cb:ic≠ib
 hs:ia<sx
 hy:ia<iy
 ys:sx≠iy
 yz:iz≠iy
 hz:ia<iz
 sz:sx≠iz
 rb:R.rb<bt
 bt:bt<base
 bw:base≤w0.heap.size
 own:∀q,va.ownBlock=some q→base≤q∧q<w0.heap.size
 xs:xs.length=n*size
 zs:zs.length=size
section
variable {R : gI} {j1 j2 d : Nat} {w0 : World} {ic ib ia iy sx iz bt : Nat} {qM : Value → Obj} {base : Nat} {e : TypeId} {size n : Nat} {va : Value} {xs zs : List Value} {El : World → (Nat → Prop) → List Value → Prop} {vals : List (Option Value)} {L : Nat → Bool} {V : Nat → Value} {X X' : World}
theorem aA (L:Nat→Bool) {i j:Nat} (h:j≠i):dP L i j=L j:=by unfold dP;rw[if_neg h]
theorem jK (L:Nat→Bool) (i:Nat):dP L i i=true:=by unfold dP;rw[if_pos rfl]
theorem bV (V:Nat→Value) {i j:Nat} (v:Value) (h:j≠i):gY V i v j=V j:=by unfold gY;rw[if_neg h]
theorem lI (V:Nat→Value) (i:Nat) (v:Value):gY V i v i=v:=by unfold gY;rw[if_pos rfl]
theorem jb (h:∀(i:Nat) v,vals[i]?=some (some v)→L i=true→V i=v) (i:Nat) (v:Value) (hv:∀u,vals[i]?=some (some u)→v=u):∀(k:Nat) u,vals[k]?=some (some u)→dP L i k=true→gY V i v k=u:=by
 intro k u hu hL;by_cases e:k=i
 ·subst e;rw[lI];exact hv u hu
 ·rw[bV _ _ e];rw[aA _ e]at hL;exact h k u hu hL
theorem EL (h:L ia=true→∀i,i<ia→L i=true) (k:Nat) (hk:k≠ia):dP L k ia=true→∀i,i<ia→dP L k i=true:=by
 intro hL i hi;rw[aA _ (Ne.symm hk)]at hL;by_cases e:i=k
 ·rw[e,jK]
 ·rw[aA _ e];exact h hL i hi
theorem jH.up (h:jH R j1 j2 d w0 ic ib ia iy sx iz bt qM base e size n va xs zs El vals L V X) (i:Nat) (h1:i≠ic) (h2:i≠ib) (h3:i≠ia) (h4:i≠sx) (h5:i≠iz) (h6:i≠iy) {v:Value} (hv:vals[i]?=some (some v)):jH R j1 j2 d w0 ic ib ia iy sx iz bt qM base e size n va xs zs El vals (dP L i) (gY V i v) X:=by
 refine⟨jb h.iD i v (fun u hu=>by rw[hv]at hu;cases hu;rfl),h.st,?_,?_,?_,?_,?_,?_,EL h.pa i h3,?_,?_,?_⟩
 ·rw[aA _ (Ne.symm h1)];exact h.rd
 ·rw[aA _ (Ne.symm h1),aA _ (Ne.symm h3),bV _ _ (Ne.symm h1),bV _ _ (Ne.symm h3)];exact h.el
 ·rw[aA _ (Ne.symm h2),aA _ (Ne.symm h3),bV _ _ (Ne.symm h2)];exact h.bl
 ·rw[aA _ (Ne.symm h3)];exact h.old
 ·rw[aA _ (Ne.symm h3),bV _ _ (Ne.symm h3),aA _ (Ne.symm h4),bV _ _ (Ne.symm h1)];exact h.new
 ·rw[aA _ (Ne.symm h5),bV _ _ (Ne.symm h3)];exact h.blk
 ·rw[aA _ (Ne.symm h4),aA _ (Ne.symm h3)];exact h.ps
 ·rw[aA _ (Ne.symm h5),aA _ (Ne.symm h3)];exact h.pz
 ·rw[aA _ (Ne.symm h6),aA _ (Ne.symm h3),bV _ _ (Ne.symm h3),bV _ _ (Ne.symm h6)];exact h.ix
theorem jH.Qk (h:jH R j1 j2 d w0 ic ib ia iy sx iz bt qM base e size n va xs zs El vals L V X) {i:Nat} (hi:i<ia) (hL:L i=false):L ia=false:=by
 cases e:L ia with
 |false=>rfl
 |true=>rw[h.pa e i hi]at hL;cases hL
theorem jH.FV (h:jH R j1 j2 d w0 ic ib ia iy sx iz bt qM base e size n va xs zs El vals L V X) (hL:L ia=false):L iz=false∧L sx=false∧L iy=false:=by
 refine⟨?_,?_,?_⟩
 ·cases e:L iz with
  |false=>rfl
  |true=>rw[h.pz e]at hL;cases hL
 ·cases e:L sx with
  |false=>rfl
  |true=>rw[h.ps e]at hL;cases hL
 ·cases e:L iy with
  |false=>rfl
  |true=>rw[(h.ix e).1]at hL;cases hL
theorem jH.zero (hs:jg w0 X) (hr:bC R w0 j1 d) (hown:w0.ownsRow base e size va n xs) (hb:w0.heap[bt]?=some (qM va)):jH R j1 j2 d w0 ic ib ia iy sx iz bt qM base e size n va xs zs El vals (fun _=>false) V X:=
 ⟨fun _ _ _ h=>(nomatch h),hs.mono fe,hr.quiet hs,lg,lg,fun _=>hs.owns hown (fun _ _ h=>h),lg,hs.keep hb (fun h=>h),lg,lg,lg,lg⟩
theorem jH.call (hE:yP El) (ho:xB R w0 ic ib ia iy sx iz bt base size n va xs zs) (h:jH R j1 j2 d w0 ic ib ia iy sx iz bt qM base e size n va xs zs El vals L V X) (hL:L ic=false) (kH:vals[ic]?=some none) (hs:Step (·=R.rb) X X') (hr:bC R X' j2 d) {cs:List Value} (hc:El X' (fun q=>X.heap.size≤q) cs):jH R j1 j2 d w0 ic ib ia iy sx iz bt qM base e size n va xs zs El vals (dP L ic) (gY V ic (.agg cs.toArray)) X':=by
 have hA:=h.Qk ho.hc hL;have hZ:=h.FV hA;have n1:ia≠ic:=by have:=ho.hc;omega
 have n2:iz≠ic:=by have:=ho.hc;have:=ho.hz;omega
 have n5:iy≠ic:=by have:=ho.hc;have:=ho.hy;omega
 have n3:sx≠ic:=by have:=ho.hc;have:=ho.hs;omega
 refine⟨jb h.iD ic _ (fun u hu=>by rw[kH]at hu;cases hu),h.st.trans (hs.mono il),?_,?_,?_,?_,?_,?_,EL h.pa ic (Ne.symm n1),?_,?_,?_⟩
 ·rw[jK,if_pos rfl];exact hr
 ·intro _;refine⟨cs,lI _ _ _,hE.mono _ _ _ _ (fun q _ hq=>⟨Nat.le_trans h.st.size hq,fun h1=> ?_⟩) hc⟩;rw[aA _ n1,hA]at h1;cases h1
 ·intro h1 h2;rw[aA _ (Ne.symm ho.cb)]at h1;obtain⟨zb,z1,z2,z3⟩:=h.bl h1 hA;exact⟨zb,by rw[bV _ _ (Ne.symm ho.cb)];exact z1,z2,hs.keep z3 (by have:=ho.rb;have:=ho.bt;have:=ho.bw;omega)⟩
 ·intro _;exact hs.owns (h.old hA) (fun q hq e=>by have:=ho.rb;have:=ho.bt;omega)
 ·intro h1;rw[aA _ n1,hA]at h1;cases h1
 ·rw[aA _ n2,hZ.1];have h2:=h.blk;rw[hZ.1]at h2;exact hs.keep h2 (by have:=ho.rb;omega)
 ·intro h1;rw[aA _ n3,hZ.2.1]at h1;cases h1
 ·intro h1;rw[aA _ n2,hZ.1]at h1;cases h1
 ·intro h1;rw[aA _ n5,hZ.2.2]at h1;cases h1
theorem jH.build (hE:yP El) (ho:xB R w0 ic ib ia iy sx iz bt base size n va xs zs) (h:jH R j1 j2 d w0 ic ib ia iy sx iz bt qM base e size n va xs zs El vals L V X) (hL:L ib=false) (kH:vals[ib]?=some none):jH R j1 j2 d w0 ic ib ia iy sx iz bt qM base e size n va xs zs El vals (dP L ib) (gY V ib (.slice (some ⟨X.heap.size,0,none⟩) 1 1)) (X.alloc (.cells zs.toArray e)):=by
 have hA:=h.Qk ho.hb hL;have hZ:=h.FV hA;have n1:ia≠ib:=by have:=ho.hb;omega
 have n2:iz≠ib:=by have:=ho.hb;have:=ho.hz;omega
 have n5:iy≠ib:=by have:=ho.hb;have:=ho.hy;omega
 have n3:sx≠ib:=by have:=ho.hb;have:=ho.hs;omega
 have hs:jg X (X.alloc (.cells zs.toArray e)):=bg.alloc _;refine⟨jb h.iD ib _ (fun u hu=>by rw[kH]at hu;cases hu),h.st.alloc _,?_,?_,?_,?_,?_,?_,EL h.pa ib (Ne.symm n1),?_,?_,?_⟩
 ·rw[aA _ ho.cb];exact h.rd.quiet hs
 ·intro h1;rw[aA _ ho.cb]at h1;obtain⟨cs,c1,c2⟩:=h.el h1;refine⟨cs,by rw[bV _ _ ho.cb];exact c1,?_⟩;rw[aA _ n1,bV _ _ n1];exact hE.step _ _ _ _ _ hs (fun _ _ h=>h) c2
 ·intro _ _;exact⟨X.heap.size,lI _ _ _,h.st.size,aC _ _⟩
 ·intro _;exact hs.owns (h.old hA) (fun _ _ h=>h)
 ·intro h1;rw[aA _ n1,hA]at h1;cases h1
 ·rw[aA _ n2,hZ.1];have h2:=h.blk;rw[hZ.1]at h2;exact aT h2
 ·intro h1;rw[aA _ n3,hZ.2.1]at h1;cases h1
 ·intro h1;rw[aA _ n2,hZ.1]at h1;cases h1
 ·intro h1;rw[aA _ n5,hZ.2.2]at h1;cases h1
theorem jH.app (hE:yP El) (ho:xB R w0 ic ib ia iy sx iz bt base size n va xs zs) (h:jH R j1 j2 d w0 ic ib ia iy sx iz bt qM base e size n va xs zs El vals L V X) (hL:L ia=false) (hall:∀i,i<ia→L i=true) (kH:vals[ia]?=some none) {v':Value} (hown:X'.ownsRow base e size v' (n+1) (xs++zs)) (hgrow:X.grownBy X' va.ownBlock) (hat:v'.ownBlock=va.ownBlock∨v'.ownBlock=some X.heap.size):jH R j1 j2 d w0 ic ib ia iy sx iz bt qM base e size n va xs zs El vals (dP L ia) (gY V ia v') X':=by
 have hZ:=h.FV hL;have n1:ic≠ia:=by have:=ho.hc;omega
 have n2:iz≠ia:=by have:=ho.hz;omega
 have n5:iy≠ia:=by have:=ho.hy;omega
 have n3:sx≠ia:=by have:=ho.hs;omega
 have n4:ib≠ia:=by have:=ho.hb;omega
 have hs:Step (fun k=>va.ownBlock=some k) X X':=iZ hgrow;obtain⟨g,c,cur,hv',hbg,hcur,-⟩:=uw hown om;have hg:va.ownBlock=some g∨X.heap.size≤g:=by
  rcases hat with h1|h1
  ·left;rw[←h1,hv'];rfl
  ·right;rw[hv']at h1;have:g=X.heap.size:=Option.some.inj h1;omega
 have hX:=h.st.size;refine⟨jb h.iD ia _ (fun u hu=>by rw[kH]at hu;cases hu),h.st.trans (hs.mono (fun q _ e=>.inr (.inr e))),?_,?_,?_,?_,?_,?_,?_,?_,?_,?_⟩
 ·rw[aA _ n1];exact h.rd.step hs (fun k hk e=>by have:=ho.own k e;have:=ho.rb;have:=ho.bt;omega)
 ·intro h1;rw[aA _ n1]at h1;obtain⟨cs,c1,c2⟩:=h.el h1;refine⟨cs,by rw[bV _ _ n1];exact c1,?_⟩;rw[lI];have c3:=hE.mono _ _ (fun q=>w0.heap.size≤q∧q<X.heap.size) _ (fun q h1 h2=>⟨h2.1,h1⟩) c2;have c4:=hE.step _ _ _ _ _ hs (fun q hq e=>by have:=ho.own q e;omega) c3;refine hE.mono _ _ _ _ (fun q _ hq=>⟨hq.1,fun _ e=> ?_⟩) c4;rw[hv']at e;have e2:g=q:=Option.some.inj e;rcases hg with h5|h5
  ·have:=ho.own g h5;omega
  ·omega
 ·intro _ h2;rw[jK]at h2;cases h2
 ·intro h2;rw[jK]at h2;cases h2
 ·intro _;refine⟨g,c,by rw[lI];exact hv',?_,zs,by rw[lI];exact hown,ho.zs,fun h1=> ?_⟩
  ·rcases hg with h5|h5
   ·exact .inl h5
   ·exact .inr om
  ·rw[aA _ n3,hZ.2.1]at h1;cases h1
 ·rw[aA _ n2,hZ.1];have h2:=h.blk;rw[hZ.1]at h2;exact hs.keep h2 (fun e=>by have:=ho.own bt e;have:=ho.bt;omega)
 ·intro _ i hi;rw[aA _ om];exact hall i hi
 ·intro _;exact jK _ _
 ·intro _;exact jK _ _
 ·intro h1;rw[aA _ n5,hZ.2.2]at h1;cases h1
theorem jH.put (hE:yP El) (ho:xB R w0 ic ib ia iy sx iz bt base size n va xs zs) (h:jH R j1 j2 d w0 ic ib ia iy sx iz bt qM base e size n va xs zs El vals L V X) (hA:L ia=true) (kH:∀u,vals[sx]?=some (some u)→undef=u) {g c:Nat} (hV:V ia=.slice (some ⟨g,0,none⟩) (n+1) c) {cs:List Value} (hcs:V ic=.agg cs.toArray) (hcl:cs.length=size) {cur:Array Value} (hcur:X.heap[g]?=some (.cells cur e (0,0))) (hnew:X'.heap[g]?=some (.cells (cur.toList.take (n*size)++(cs++cur.toList.drop (n*size+cs.length))).toArray e (0,0))) (hs:Step (·=g) X X'):jH R j1 j2 d w0 ic ib ia iy sx iz bt qM base e size n va xs zs El vals (dP L sx) (gY V sx undef) X':=by
 have n1:ic≠sx:=by have:=ho.hc;have:=ho.hs;omega
 have n2:iz≠sx:=Ne.symm ho.sz;have n5:iy≠sx:=Ne.symm ho.ys;have n3:ia≠sx:=by have:=ho.hs;omega
 have n4:ib≠sx:=by have:=ho.hb;have:=ho.hs;omega
 obtain⟨g',c',hV',hg,ys,hown,hyl,-⟩:=h.new hA;rw[hV]at hV';cases hV';have hgb:base≤g:=by rw[hV]at hown;exact(hown.lt g rfl).1
 rw[hV]at hown;refine⟨jb h.iD sx _ kH,h.st.then hs (fun q hq e=> ?_),?_,?_,?_,?_,?_,?_,EL h.pa sx (Ne.symm n3),?_,?_,?_⟩
 ·subst e;rcases hg with h5|h5
  ·exact .inr (.inr h5)
  ·omega
 ·rw[aA _ n1];exact h.rd.step hs (fun k hk e=>by have:=ho.rb;have:=ho.bt;omega)
 ·intro h1;rw[aA _ n1]at h1;obtain⟨cs2,c1,c2⟩:=h.el h1;refine⟨cs2,by rw[bV _ _ n1];exact c1,?_⟩;rw[aA _ n3,bV _ _ n3];refine hE.step _ _ _ _ _ hs (fun q hq e=> ?_) c2;exact hq.2 hA (by rw[hV,e];rfl)
 ·intro _ h2;rw[aA _ n3,hA]at h2;cases h2
 ·intro h2;rw[aA _ n3,hA]at h2;cases h2
 ·intro _;refine⟨g,c,by rw[bV _ _ n3];exact hV,hg,cs,?_,hcl,fun _=>by rw[bV _ _ n1];exact hcs⟩;rw[bV _ _ n3,hV];exact Qj hown ho.xs hcl hcur hnew
 ·rw[aA _ n2,bV _ _ n3];exact hs.keep h.blk (fun e=>by have:=ho.bt;omega)
 ·intro _;rw[aA _ n3];exact hA
 ·intro _;rw[aA _ n3];exact hA
 ·rw[aA _ n5,aA _ n3,bV _ _ n3,bV _ _ n5];exact h.ix
theorem jH.last (hE:yP El) (ho:xB R w0 ic ib ia iy sx iz bt base size n va xs zs) (h:jH R j1 j2 d w0 ic ib ia iy sx iz bt qM base e size n va xs zs El vals L V X) (hA:L ia=true) (kH:∀u,vals[iz]?=some (some u)→undef=u) (hnew:X'.heap[bt]?=some (qM (V ia))) (hs:Step (·=bt) X X'):jH R j1 j2 d w0 ic ib ia iy sx iz bt qM base e size n va xs zs El vals (dP L iz) (gY V iz undef) X':=by
 have n1:ic≠iz:=by have:=ho.hc;have:=ho.hz;omega
 have n2:sx≠iz:=ho.sz;have n5:iy≠iz:=Ne.symm ho.yz;have n3:ia≠iz:=by have:=ho.hz;omega
 obtain⟨g,c,hV,hg,ys,hown,hyl,hys⟩:=h.new hA;refine⟨jb h.iD iz _ kH,h.st.trans (hs.mono (fun q _ e=>.inr (.inl e))),?_,?_,?_,?_,?_,?_,EL h.pa iz (Ne.symm n3),?_,?_,?_⟩
 ·rw[aA _ n1];exact h.rd.step hs (fun k hk e=>by have:=ho.rb;omega)
 ·intro h1;rw[aA _ n1]at h1;obtain⟨cs2,c1,c2⟩:=h.el h1;refine⟨cs2,by rw[bV _ _ n1];exact c1,?_⟩;rw[aA _ n3,bV _ _ n3];exact hE.step _ _ _ _ _ hs (fun q hq e=>by have:=ho.bt;have:=ho.bw;omega) c2
 ·intro _ h2;rw[aA _ n3,hA]at h2;cases h2
 ·intro h2;rw[aA _ n3,hA]at h2;cases h2
 ·intro _;refine⟨g,c,by rw[bV _ _ n3];exact hV,hg,ys,?_,hyl,?_⟩
  ·rw[bV _ _ n3];exact hs.owns hown (fun q hq e=>by have:=ho.bt;omega)
  ·rw[aA _ n2,bV _ _ n1];exact hys
 ·rw[jK,if_pos rfl,bV _ _ n3];exact hnew
 ·intro _;rw[aA _ n3];exact hA
 ·intro _;rw[aA _ n3];exact hA
 ·rw[aA _ n5,aA _ n3,bV _ _ n3,bV _ _ n5];exact h.ix
theorem jH.index (ho:xB R w0 ic ib ia iy sx iz bt base size n va xs zs) (h:jH R j1 j2 d w0 ic ib ia iy sx iz bt qM base e size n va xs zs El vals L V X) (hA:L ia=true) (kH:vals[iy]?=some none) {g c:Nat} (hV:V ia=.slice (some ⟨g,0,none⟩) (n+1) c):jH R j1 j2 d w0 ic ib ia iy sx iz bt qM base e size n va xs zs El vals (dP L iy) (gY V iy (.pointer (some ⟨g,n*size,none⟩))) X:=by
 have n1:ic≠iy:=by have:=ho.hc;have:=ho.hy;omega
 have n2:iz≠iy:=ho.yz;have n3:ia≠iy:=by have:=ho.hy;omega
 have n4:ib≠iy:=by have:=ho.hb;have:=ho.hy;omega
 have n5:sx≠iy:=ho.ys;refine⟨jb h.iD iy _ (fun u hu=>by rw[kH]at hu;cases hu),h.st,?_,?_,?_,?_,?_,?_,EL h.pa iy (Ne.symm n3),?_,?_,?_⟩
 ·rw[aA _ n1];exact h.rd
 ·rw[aA _ n1,aA _ n3,bV _ _ n1,bV _ _ n3];exact h.el
 ·rw[aA _ n4,aA _ n3,bV _ _ n4];exact h.bl
 ·rw[aA _ n3];exact h.old
 ·rw[aA _ n3,bV _ _ n3,aA _ n5,bV _ _ n1];exact h.new
 ·rw[aA _ n2,bV _ _ n3];exact h.blk
 ·rw[aA _ n5,aA _ n3];exact h.ps
 ·rw[aA _ n2,aA _ n3];exact h.pz
 ·intro _;refine⟨by rw[aA _ n3];exact hA,fun g2 c2 h2=> ?_⟩;rw[bV _ _ n3,hV]at h2;cases h2;rw[lI]
theorem jH.done (h:jH R j1 j2 d w0 ic ib ia iy sx iz bt qM base e size n va xs zs El vals L V X) (hall:L ic=true∧L ia=true∧L sx=true∧L iz=true):∃(g c:Nat) (cs:List Value),bC R X j2 d∧X.heap[bt]?=some (qM (.slice (some ⟨g,0,none⟩) (n+1) c))∧X.ownsRow base e size (.slice (some ⟨g,0,none⟩) (n+1) c) (n+1) (xs++cs)∧El X (fun q=>w0.heap.size≤q∧q≠g) cs∧(va.ownBlock=some g∨w0.heap.size≤g)∧Step (fun q=>q=R.rb∨q=bt∨va.ownBlock=some q) w0 X∧base≤g:=by
 obtain⟨h1,h2,h3,h4⟩:=hall;obtain⟨g,c,hV,hg,ys,hown,hyl,hys⟩:=h.new h2;obtain⟨cs,c1,c2⟩:=h.el h1;have e:=hys h3;rw[c1]at e;have e2:cs=ys:=by
  have e3:cs.toArray=ys.toArray:=by injection e
  have:=congrArg Array.toList e3;simpa using this
 subst e2;have hr:=h.rd;have hb:=h.blk;rw[h1,if_pos rfl]at hr;rw[h4,if_pos rfl,hV]at hb;rw[hV]at hown c2;refine⟨g,c,cs,hr,hb,hown,?_,hg,h.st,(hown.lt g rfl).1⟩;have hP:(fun q=>w0.heap.size≤q∧(L ia=true→(Value.slice (some ⟨g,0,none⟩) (n+1) c).ownBlock≠some q))=(fun q=>w0.heap.size≤q∧q≠g):=by
  funext q;apply propext;constructor
  ·rintro⟨a,b⟩;exact⟨a,fun e=>b h2 (by rw[e];rfl)⟩
  ·rintro⟨a,b⟩;exact⟨a,fun _ e=>b (Option.some.inj e).symm⟩
 rw[hP]at c2;exact c2
end
theorem TyEl (a:Ty):yP (fun w P cs=>gG w P a cs):=⟨fun _ _ _ _ cs hs hP h=>gG.step hs hP a cs h,fun _ _ _ cs hp h=>gG.mono hp a cs h⟩
section
variable {P : Program} {md : Region.Mode} {ops : Array Oper} {Q : Exit → Act → World → Prop} {a0 : Act} {n : Nat} {J : (Nat → Bool) → (Nat → Value) → World → Prop}
def YH (P:Program) (md:Region.Mode) (ops:Array Oper) (Q:Exit→Act→World→Prop) (a0:Act) (n:Nat) (J:(Nat→Bool)→(Nat→Value)→World→Prop):Nat→List Oper→Prop:=Ag fun i o=>∀(L:Nat→Bool) (V:Nat→Value) (w:World) (a:Act),(∀j k,dZ ops j=some k→L j=true→a.tmps[k]?.getD undef=V j)→(∀k,Yh ops (List.range n) k=true→a.tmps[k]?.getD undef=a0.tmps[k]?.getD undef)→a.defers=a0.defers→L i=false→(∀j,(o_ md o).contains j=true→L j=true)→J L V w→o.wp P a w (fun a' w'=>∃v,a'=a.put o.dst v∧J (dP L i) (gY V i v) w') Q
theorem bD {id:Nat} {w:World} (hm:P.follows .mixedOrders=true) (J:(Nat→Bool)→(Nat→Value)→World→Prop) (n:Nat) (hn:ops.size=n) (hd:t_ ops (List.range n)=true) (hb:ED .any ops=true) (hr:EF ops (List.range n) a0.tmps.size=true) (hg:(ops.toList.all fun o=>o.guard.isNone)=true) (h0:J (fun _=>false) (fun _=>undef) w.drew) (hs:YH P .any ops Q a0 n J 0 ops.toList) (hdone:∀L V w,(∀i,i<n→L i=true)→J L V w→Q .normal (lW ops V (List.range n) a0) w):(Code.region id ops true).wp P Q a0 w:=
 AX hm J n hn hd hb hr (Pz hg) h0 (fun i o ho L V w a h1 h2 h6 h3 h4 h5=>by unfold Ug;rw[JL hg ho];exact hs.at ho L V w a h1 h2 h6 h3 h4 h5) hdone
end
end Go.Proofs.YtggjfinekcenpaaGreat
