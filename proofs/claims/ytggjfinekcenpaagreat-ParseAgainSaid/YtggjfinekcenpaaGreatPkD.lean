import Derived.Test.YtggjfinekcenpaaGreatPkC
set_option maxRecDepth 100000
set_option maxHeartbeats 80000000
namespace Go.Proofs.YtggjfinekcenpaaGreat
open Go.RowKit
open Vt
def qO (f:Nat) (l:List Tok) (i d:Nat):dB Ty:=
 if bH l i [105,110,116]then .ok (.mk 1 di di false [] [] (tokA l i).line (tokA l i).col) (i+1)
 else if bH l i [98,111,111,108]then .ok (.mk 2 di di false [] [] (tokA l i).line (tokA l i).col) (i+1)
 else if bH l i [102,54,52]then .ok (.mk 3 di di false [] [] (tokA l i).line (tokA l i).col) (i+1)
 else if bH l i [40]then(aI l (i+1) [41]).bind fun _ j=>.ok (.mk 4 di di false [] [] (tokA l i).line (tokA l i).col) j
 else if bH l i [66,111,120]then(aI l (i+1) [60]).bind fun _ j=>(iZ f l j d).bind fun a j=>(aI l j [62]).bind fun _ j=>.ok (.mk 6 di di false [] [a] (tokA l i).line (tokA l i).col) j
 else if bH l i [38]then(iZ f l (iw l (ny l (i+1)) [109,117,116]) d).bind fun a j=>.ok (.mk 7 di (pY l (i+1)) (bH l (ny l (i+1)) [109,117,116]) [] [a] (tokA l i).line (tokA l i).col) j
 else if bH l i [100,121,110]then(bI l (i+1)).bind fun n j=>if bH l j [43]then(jh l (j+1)).bind fun x j=>.ok (.mk 8 n x false [] [] (tokA l i).line (tokA l i).col) j else .ok (.mk 8 n di false [] [] (tokA l i).line (tokA l i).col) j
 else(bI l i).bind fun n j=>if bH l j [60]then(kz f l (j+1) d [] []).bind fun p j=>.ok (.mk 5 n di false p.1 p.2 (tokA l i).line (tokA l i).col) j else .ok (.mk 5 n di false [] [] (tokA l i).line (tokA l i).col) j
theorem He (f:Nat) (l:List Tok) (i d:Nat):iZ (f+1) l i d=if d=40 then gW 2 l i else qO f l i (d+1):=by rw[iZ];rfl
def TyV (n0:Nat) (w':World) (a:Ty) (v:Value):Prop:=∃cs:List Value,v=.agg cs.toArray∧dJ w' (fun k=>n0≤k) a cs
def xE (f:Nat):Prop:=∀(R:h_) (w:World) (i d:Nat),pF R.l→bD R w i d→d≤40→iZ f R.l i d≠.out→
 Calls Tryz.prog 44 #[.agg #[fM R.rb 0]] w (aJ R d (TyV w.heap.size) (iZ f R.l i d) w)
def CB (f:Nat) (l:List Tok) (i d:Nat):dB (List ByteArray×List Ty):=if bH l i [60]then kz f l (i+1) d [] []else .ok ([],[]) i
def ArgV (w w':World) (bt:Nat) (k:Int) (nm:ByteArray) (t:Tok) (p:List ByteArray×List Ty):Prop:=
 ∃vl va xs,w'.heap[bt]?=some (.cells #[af k,aG nm,aX,aT,vl,va,af t.line,af t.col] 46 (0,0))∧(∀s∈p.1,s.size≤9223372036854775807)∧aS w' (fun k=>w.heap.size≤k) vl p.1.length (p.1.map .string)∧dM w' (fun k=>w.heap.size≤k) p.2 xs∧aS w' (fun k=>w.heap.size≤k) va p.2.length xs
def Qm (R:h_) (d bt:Nat) (k:Int) (nm:ByteArray) (t:Tok) (r:dB (List ByteArray×List Ty)) (w:World) (e:Ending) (w':World):Prop:=
 match r with
 | .ok p j=>e=.returned (.tuple #[])∧ArgV w w' bt k nm t p∧bD R w' j d∧Step (fun k=>k=R.rb∨k=bt) w w'
 | .err c ln col=>e=.panicked [{v:=.iface 184 (.agg #[af c,af ln,af col]),recovered:=false}]∧Step (fun k=>k=R.rb∨k=bt) w w'
 | .out=>True
def ED (f:Nat):Prop:=∀(R:h_) (w:World) (i d bt:Nat) (k:Int) (nm:ByteArray) (t:Tok),pF R.l→bD R w i d→d≤40→R.rb<bt→w.heap[bt]?=some (.cells #[af k,aG nm,aX,aT,aj,aj,af t.line,af t.col] 46 (0,0))→CB f R.l i d≠.out→
 Calls Tryz.prog 82 #[.agg #[fM R.rb 0],.pointer (some ⟨bt,0,none⟩)] w (Qm R d bt k nm t (CB f R.l i d) w)
theorem BD {f:Nat} {l:List Tok} {i d:Nat} (h0:bH l i [105,110,116]=false) (h1:bH l i [98,111,111,108]=false) (h2:bH l i [102,54,52]=false) (h3:bH l i [40]=false) (h4:bH l i [66,111,120]=false) (h5:bH l i [38]=false) (h6:bH l i [100,121,110]=false):qO f l i d=(bI l i).bind fun n j=>(CB f l j d).bind fun p j=>.ok (.mk 5 n di false p.1 p.2 (tokA l i).line (tokA l i).col) j:=by unfold qO;simp only[h0,h1,h2,h3,h4,h5,h6,Bool.false_eq_true,if_false];congr 1;funext n j;unfold CB;split<;>rfl
def NU (n0 bt:Nat) (w':World) (a:Ty):Prop:=∃cs:List Value,w'.heap[bt]?=some (.cells cs.toArray 46 (0,0))∧dJ w' (fun k=>n0≤k) a cs
def aY {α:Type} (R:h_) (d bt:Nat) (Left:World→α→Prop) (r:dB α) (w:World) (e:Ending) (w':World):Prop:=
 match r with
 | .ok a j=>e=.returned (.tuple #[])∧Left w' a∧bD R w' j d∧Step (fun k=>k=R.rb∨k=bt) w w'
 | .err c ln col=>e=.panicked [{v:=.iface 184 (.agg #[af c,af ln,af col]),recovered:=false}]∧Step (fun k=>k=R.rb∨k=bt) w w'
 | .out=>True
theorem aY.dQ {α:Type} {R:h_} {d bt:Nat} {Left:World→α→Prop} {r:dB α} {w w':World} {e:Ending} {a:α} {j:Nat} (hr:r=.ok a j) (he:e=.returned (.tuple #[])) (hl:Left w' a) (h:bD R w' j d) (hs:Step (fun k=>k=R.rb∨k=bt) w w'):aY R d bt Left r w e w':=by rw[hr];exact⟨he,hl,h,hs⟩
theorem aY.aW {α:Type} {R:h_} {d bt:Nat} {Left:World→α→Prop} {r:dB α} {w w':World} {e:Ending} {c ln col:Nat} (hr:r=.err c ln col) (he:e=.panicked [{v:=.iface 184 (.agg #[af c,af ln,af col]),recovered:=false}]) (hs:Step (fun k=>k=R.rb∨k=bt) w w'):aY R d bt Left r w e w':=by rw[hr];exact⟨he,hs⟩
theorem Ac {l:List UInt8} (h:l.length≤20000):(mG l).size≤9223372036854775807:=by show l.toArray.size≤_;simp;omega
theorem fU {R:h_} (hl:pF R.l) {i j:Nat} {s:ByteArray} (hi:i<R.l.length) (h:bI R.l i=.ok s j):s.size≤9223372036854775807:=by
 unfold bI at h;split at h
 ·cases h;exact Ac (hl.text _ (List.mem_of_getElem? (uM hi)))
 ·cases h
theorem yX {R:h_} (hl:pF R.l) {i j:Nat} {s:ByteArray} (hi:i<R.l.length) (h:jh R.l i=.ok s j):s.size≤9223372036854775807:=by
 unfold jh at h;split at h
 ·cases h;exact Ac (hl.text _ (List.mem_of_getElem? (uM hi)))
 ·cases h
theorem Ld {R:h_} (hl:pF R.l) {i:Nat} (hi:i<R.l.length):(mG (tokA R.l i).text).size≤9223372036854775807:=Ac (hl.text _ (List.mem_of_getElem? (uM hi)))
theorem U2 (R:h_) (f:Nat) (ih:xE f) (iha:ED f) (bp bt:Nat) (w:World) (i d:Nat) (t:Tok) (hl:pF R.l) (h:bD R w i d) (hd:d≤40) (hbp:w.heap[bp]?=some (.cells #[fM R.rb 0] 75 (0,0))) (hbt:w.heap[bt]?=some (.cells #[af 0,aX,aX,aT,aj,aj,af t.line,af t.col] 46 (0,0))) (hb1:R.rb<bp) (hb2:bp<bt) (ht:t=tokA R.l i) (hno:qO f R.l i d≠.out):Calls Tryz.prog 76 #[.pointer (some ⟨bp,0,none⟩),.pointer (some ⟨bt,0,none⟩)] w (aY R d bt (NU w.heap.size bt) (qO f R.l i d) w):=by
 have HL:=ai hl;have H0:=ai h;have HT:=ai ht;have IH:=ai ih;have IHA:=ai iha;obtain⟨r,hr⟩:=bn (qO f R.l i d);have HRR:=ai hr;rw[←hr]at hno⊢;have f_:=ai hno;have hil:=h.lt;have NV:=aC hbt;have HKB:Hid (∀X:World,Step (·=R.rb) w X→X.cell? ⟨bp,0,none⟩=some (.pointer (some ⟨R.rb,0,none⟩))∧X.heap[bt]?=some (.cells #[af 0,aX,aX,aT,aj,aj,af t.line,af t.col] 46 (0,0))):=fun X hX=>⟨ah (hX.keep hbp om) 0 _ rfl,hX.keep hbt om⟩
 have wC:Hid (w.cell? ⟨bp,0,none⟩=some (.pointer (some ⟨R.rb,0,none⟩))):=ah hbp 0 _ rfl;obtain⟨p0,-⟩:=HKB.o w bV;clear ih iha hl h hbp hbt hr hno ht;go_enter Tryz.func76,Tryz.ntmps76;go_wp2_with fail;cases hb0:bH R.l i [105,110,116]with
 |true=>have HB0:=ai hb0;clear hb0;refine(dw R HL.o ⟨#[105,110,116]⟩ _ i d H0.o dc HB0.o).mono ?_;rintro e wy ⟨rfl,yH,hsy⟩;have CG:=ai yH;have wE:Hid (Step (·=R.rb) w wy):=bV.trans hsy;clear yH hsy p0;obtain⟨p0,hbt⟩:=HKB.o wy wE.o;have Le:=ai hbt;clear hbt;have oq:=ah Le.o 0 _ rfl;have ou:=aH Le.o 0;go_wp2_with fail;refine bodyPost_end (results_none rfl _ _ _) rfl ?_;have hst:Step (·=bt) wy (wy.setCell ⟨bt,0,none⟩ (.int .i64 1)):=bV.setCell _ _ jd;refine aY.dQ (a:=.mk 1 di di false [] [] (tokA R.l i).line (tokA R.l i).col) (j:=i+1) (by rw[HRR.o];unfold qO;simp only[HB0.o,if_true]) rfl ⟨[.int .i64 1,.string di,.string di,.bool false,.slice none 0 0,.slice none 0 0,.int .i64 t.line,.int .i64 t.col],aU Le.o 0 (.int .i64 1),?_⟩ (CG.o.step hst oi) ((wE.o.mono il).trans (hst.mono ir));rw[dJ,←HT.o];exact⟨_,_,[],rfl,by decide,by decide,oQ,aS.nil _ _ _,by rw[dM],aS.nil _ _ _⟩
 |false=>
  have HB0:=ai hb0;clear hb0;refine(dX R HL.o ⟨#[105,110,116]⟩ _ i d H0.o dc HB0.o).mono ?_;rintro e wn0 ⟨rfl,hrn,hsn⟩;have U3:=ai hrn;have NW:Hid (Step (·=R.rb) w wn0):=bV.trans hsn;clear hrn hsn p0;obtain⟨p0,-⟩:=HKB.o wn0 NW.o;go_wp2_with fail;cases hb1:bH R.l i [98,111,111,108]with
  |true=>have HB1:=ai hb1;clear hb1;refine(dw R HL.o ⟨#[98,111,111,108]⟩ _ i d U3.o dc HB1.o).mono ?_;rintro e wy ⟨rfl,yH,hsy⟩;have CG:=ai yH;have wE:Hid (Step (·=R.rb) w wy):=NW.o.trans hsy;clear yH hsy p0;obtain⟨p0,hbt⟩:=HKB.o wy wE.o;have Le:=ai hbt;clear hbt;have oq:=ah Le.o 0 _ rfl;have ou:=aH Le.o 0;go_wp2_with fail;refine bodyPost_end (results_none rfl _ _ _) rfl ?_;have hst:Step (·=bt) wy (wy.setCell ⟨bt,0,none⟩ (.int .i64 2)):=bV.setCell _ _ jd;refine aY.dQ (a:=.mk 2 di di false [] [] (tokA R.l i).line (tokA R.l i).col) (j:=i+1) (by rw[HRR.o];unfold qO;simp only[HB0.o,HB1.o,Bool.false_eq_true,if_false,if_true]) rfl ⟨[.int .i64 2,.string di,.string di,.bool false,.slice none 0 0,.slice none 0 0,.int .i64 t.line,.int .i64 t.col],aU Le.o 0 (.int .i64 2),?_⟩ (CG.o.step hst oi) ((wE.o.mono il).trans (hst.mono ir));rw[dJ,←HT.o];exact⟨_,_,[],rfl,by decide,by decide,oQ,aS.nil _ _ _,by rw[dM],aS.nil _ _ _⟩
  |false=>
   have HB1:=ai hb1;clear hb1;refine(dX R HL.o ⟨#[98,111,111,108]⟩ _ i d U3.o dc HB1.o).mono ?_;rintro e wn1 ⟨rfl,hrn,hsn⟩;have U4:=ai hrn;have NY:Hid (Step (·=R.rb) w wn1):=NW.o.trans hsn;clear hrn hsn p0;obtain⟨p0,-⟩:=HKB.o wn1 NY.o;go_wp2_with fail;cases hb2:bH R.l i [102,54,52]with
   |true=>have HB2:=ai hb2;clear hb2;refine(dw R HL.o ⟨#[102,54,52]⟩ _ i d U4.o dc HB2.o).mono ?_;rintro e wy ⟨rfl,yH,hsy⟩;have CG:=ai yH;have wE:Hid (Step (·=R.rb) w wy):=NY.o.trans hsy;clear yH hsy p0;obtain⟨p0,hbt⟩:=HKB.o wy wE.o;have Le:=ai hbt;clear hbt;have oq:=ah Le.o 0 _ rfl;have ou:=aH Le.o 0;go_wp2_with fail;refine bodyPost_end (results_none rfl _ _ _) rfl ?_;have hst:Step (·=bt) wy (wy.setCell ⟨bt,0,none⟩ (.int .i64 3)):=bV.setCell _ _ jd;refine aY.dQ (a:=.mk 3 di di false [] [] (tokA R.l i).line (tokA R.l i).col) (j:=i+1) (by rw[HRR.o];unfold qO;simp only[HB0.o,HB1.o,HB2.o,Bool.false_eq_true,if_false,if_true]) rfl ⟨[.int .i64 3,.string di,.string di,.bool false,.slice none 0 0,.slice none 0 0,.int .i64 t.line,.int .i64 t.col],aU Le.o 0 (.int .i64 3),?_⟩ (CG.o.step hst oi) ((wE.o.mono il).trans (hst.mono ir));rw[dJ,←HT.o];exact⟨_,_,[],rfl,by decide,by decide,oQ,aS.nil _ _ _,by rw[dM],aS.nil _ _ _⟩
   |false=>
    have HB2:=ai hb2;clear hb2;refine(dX R HL.o ⟨#[102,54,52]⟩ _ i d U4.o dc HB2.o).mono ?_;rintro e wn2 ⟨rfl,hrn,hsn⟩;have U5:=ai hrn;have NZ:Hid (Step (·=R.rb) w wn2):=NY.o.trans hsn;clear hrn hsn p0;obtain⟨p0,-⟩:=HKB.o wn2 NZ.o;go_wp2_with fail;cases hb3:bH R.l i [40]with
    |true=>
     have HB3:=ai hb3;clear hb3;refine(dw R HL.o ⟨#[40]⟩ _ i d U5.o dc HB3.o).mono ?_;rintro e wy ⟨rfl,yH,hsy⟩;have CG:=ai yH;have wE:Hid (Step (·=R.rb) w wy):=NZ.o.trans hsy;clear yH hsy p0;obtain⟨p0,hbt⟩:=HKB.o wy wE.o;have Le:=ai hbt;clear hbt;go_wp2_with fail;cases hn0:aI R.l (i+1) [41]with
     |out=>exact(dH hn0).elim
     |err c ln col=>have HN0:=ai hn0;clear hn0;refine(dO R HL.o wy.heap.size ⟨#[41]⟩ _ (i+1) d (CG.o.quiet (bV.alloc _)) dc (ah (aB _ _) 0 _ rfl)).mono ?_;rintro e wq hp;have hp2:aJ R d iR (aI R.l (i+1) [41]) _ e wq:=hp;rw[HN0.o]at hp2;obtain⟨rfl,sq⟩:=hp2;refine⟨rfl,aY.aW (c:=c) (ln:=ln) (col:=col) (by rw[HRR.o];unfold qO;simp only[HB0.o,HB1.o,HB2.o,HB3.o,HN0.o,Bool.false_eq_true,if_false,if_true,dB.lQ]) rfl ?_⟩;exact((wE.o).mono il).trans ((((Step.refl (·=R.rb) _).alloc _).trans sq).mono il)
     |ok u j0=>have HN0:=ai hn0;clear hn0;refine(dO R HL.o wy.heap.size ⟨#[41]⟩ _ (i+1) d (CG.o.quiet (bV.alloc _)) dc (ah (aB _ _) 0 _ rfl)).mono ?_;rintro e wq0 hp;have hp2:aJ R d iR (aI R.l (i+1) [41]) _ e wq0:=hp;rw[HN0.o]at hp2;obtain⟨⟨v,rfl,rfl⟩,hrq,sq⟩:=hp2;have HRQ0:=ai hrq;have HSQ0:Hid (Step (·=R.rb) wy wq0):=((Step.refl (·=R.rb) _).alloc _).trans sq;clear hrq sq p0 hp;obtain⟨p0,hbt⟩:=HKB.o wq0 (wE.o.trans HSQ0.o);have rQ:=ai hbt;have oq:=ah hbt 0 _ rfl;have ou:=aH hbt 0;clear hbt;go_wp2_with fail;refine bodyPost_end (results_none rfl _ _ _) rfl ?_;have hst:Step (·=bt) wq0 (wq0.setCell ⟨bt,0,none⟩ (.int .i64 4)):=bV.setCell _ _ jd;refine aY.dQ (a:=.mk 4 di di false [] [] (tokA R.l i).line (tokA R.l i).col) (j:=j0) (by rw[HRR.o];unfold qO;simp only[HB0.o,HB1.o,HB2.o,HB3.o,HN0.o,Bool.false_eq_true,if_false,if_true,dB.bind_ok]) rfl ⟨[.int .i64 4,.string di,.string di,.bool false,.slice none 0 0,.slice none 0 0,.int .i64 t.line,.int .i64 t.col],aU rQ.o 0 (.int .i64 4),?_⟩ (HRQ0.o.step hst oi) (((wE.o.trans HSQ0.o).mono il).trans (hst.mono ir));rw[dJ,←HT.o];exact⟨_,_,[],rfl,by decide,by decide,oQ,aS.nil _ _ _,by rw[dM],aS.nil _ _ _⟩
    |false=>
     have HB3:=ai hb3;clear hb3;refine(dX R HL.o ⟨#[40]⟩ _ i d U5.o dc HB3.o).mono ?_;rintro e wn3 ⟨rfl,hrn,hsn⟩;have U6:=ai hrn;have Lh:Hid (Step (·=R.rb) w wn3):=NZ.o.trans hsn;clear hrn hsn p0;obtain⟨p0,-⟩:=HKB.o wn3 Lh.o;go_wp2_with fail;cases hb4:bH R.l i [66,111,120]with
     |true=>
      have HB4:=ai hb4;clear hb4;refine(dw R HL.o ⟨#[66,111,120]⟩ _ i d U6.o dc HB4.o).mono ?_;rintro e wy ⟨rfl,yH,hsy⟩;have CG:=ai yH;have wE:Hid (Step (·=R.rb) w wy):=Lh.o.trans hsy;clear yH hsy p0;obtain⟨p0,hbt⟩:=HKB.o wy wE.o;have Le:=ai hbt;clear hbt;go_wp2_with fail;cases hn1:aI R.l (i+1) [60]with
      |out=>exact(dH hn1).elim
      |err c ln col=>have lm:=ai hn1;clear hn1;refine(dO R HL.o wy.heap.size ⟨#[60]⟩ _ (i+1) d (CG.o.quiet (bV.alloc _)) dc (ah (aB _ _) 0 _ rfl)).mono ?_;rintro e wq hp;have hp2:aJ R d iR (aI R.l (i+1) [60]) _ e wq:=hp;rw[lm.o]at hp2;obtain⟨rfl,sq⟩:=hp2;refine⟨rfl,aY.aW (c:=c) (ln:=ln) (col:=col) (by rw[HRR.o];unfold qO;simp only[HB0.o,HB1.o,HB2.o,HB3.o,HB4.o,lm.o,Bool.false_eq_true,if_false,if_true,dB.lQ]) rfl ?_⟩;exact((wE.o).mono il).trans ((((Step.refl (·=R.rb) _).alloc _).trans sq).mono il)
      |ok u j1=>
       have lm:=ai hn1;clear hn1;refine(dO R HL.o wy.heap.size ⟨#[60]⟩ _ (i+1) d (CG.o.quiet (bV.alloc _)) dc (ah (aB _ _) 0 _ rfl)).mono ?_;rintro e wq1 hp;have hp2:aJ R d iR (aI R.l (i+1) [60]) _ e wq1:=hp;rw[lm.o]at hp2;obtain⟨⟨v,rfl,rfl⟩,hrq,sq⟩:=hp2;have HRQ1:=ai hrq;have HSQ1:Hid (Step (·=R.rb) wy wq1):=((Step.refl (·=R.rb) _).alloc _).trans sq;clear hrq sq p0 hp;obtain⟨p0,hbt⟩:=HKB.o wq1 (wE.o.trans HSQ1.o);have Uz:Hid (Step (·=R.rb) w wq1):=wE.o.trans HSQ1.o;clear hbt;go_wp2_with fail;cases hx0:iZ f R.l j1 d with
       |out=>exact absurd (by rw[HRR.o];unfold qO;simp only[HB0.o,HB1.o,HB2.o,HB3.o,HB4.o,lm.o,(ai hx0).out,Bool.false_eq_true,if_false,if_true,dB.bind_ok,dB.uK]) f_.o
       |err c ln col=>have HX0:=ai hx0;clear hx0;refine(IH.o R _ j1 d HL.o HRQ1.o hd (by rw[HX0.o];intro h;cases h)).mono ?_;rintro e wq hp;rw[HX0.o]at hp;obtain⟨rfl,sq⟩:=hp;refine⟨rfl,aY.aW (c:=c) (ln:=ln) (col:=col) (by rw[HRR.o];unfold qO;simp only[HB0.o,HB1.o,HB2.o,HB3.o,HB4.o,lm.o,HX0.o,Bool.false_eq_true,if_false,if_true,dB.bind_ok,dB.lQ]) rfl ?_⟩;exact(Uz.o.mono il).trans (sq.mono il)
       |ok ty0 jx0=>
        have HX0:=ai hx0;clear hx0;refine(IH.o R _ j1 d HL.o HRQ1.o hd (by rw[HX0.o];intro h;cases h)).mono ?_;rintro e YT hp;rw[HX0.o]at hp;obtain⟨⟨v,rfl,cs,rfl,hty⟩,hrx,hsx⟩:=hp;have HTY0:=ai hty;obtain⟨ty,iK⟩:=bn ty0;have HTE0:=ai iK;obtain⟨k0,gZ,lf0,g_,ul,yI,l0,c0⟩:=ty0;rw[dJ]at hty;obtain⟨vl0,va0,xs0,rfl,-,-,-,⟨a1,c1,rfl,-⟩,-,⟨a2,c2,rfl,-⟩⟩:=hty;have HRX0:=ai hrx;have HSX0:=ai hsx;clear hrx hsx iK;have BA:Hid (Step (·=R.rb) w YT):=Uz.o.trans HSX0.o;obtain⟨-,hbt⟩:=HKB.o YT BA.o;obtain⟨w3,hw3⟩:=bn (YT.alloc (.cells #[af k0,aG gZ,aG lf0,bC g_,.slice a1 ul.length c1,.slice a2 yI.length c2,af l0,af c0] 46));(have jA:Hid (jP YT w3):=by rw[hw3];exact bV.alloc _);(have HK3:Hid (w3.heap[YT.heap.size]?=some (.cells #[af k0,aG gZ,aG lf0,bC g_,.slice a1 ul.length c1,.slice a2 yI.length c2,af l0,af c0] 46 (0,0))):=by rw[hw3];exact aB _ _);have N7:=jA.o.keep hbt (fun h=>h);have Lj:=ai N7;have oq:=ah N7 0 _ rfl;have ou:=aH N7 0;have yY:=ah N7 5 _ rfl;have YU:=aH N7 5;have p0':w3.cell? ⟨bp,0,none⟩=some (.pointer (some ⟨R.rb,0,none⟩)):=(HKB.o w3 (BA.o.trans (jA.o.mono fe))).1;have hxz:=BA.o.size;obtain⟨w4,hw4⟩:=bn ((w3.setCell ⟨bt,0,none⟩ (.int .i64 6)).setCell ⟨bt,5,none⟩ (.slice (some ⟨YT.heap.size,0,none⟩) 1 1));(have jv:Hid (Step (·=bt) w3 w4):=by rw[hw4];exact((Step.refl (·=bt) _).setCell _ _ jd).setCell _ _ jd);(have rU:Hid (w4.heap[bt]?=some (.cells #[af 6,aX,aX,aT,aj,.slice (some ⟨YT.heap.size,0,none⟩) 1 1,af t.line,af t.col] 46 (0,0))):=by rw[hw4];exact aU (aU N7 0 (.int .i64 6)) 5 _);have HK4:=ai (jv.o.keep HK3.o om);have pG:Hid (Step (fun k=>k=R.rb∨k=bt) w w4):=((BA.o.trans (jA.o.mono fe)).mono il).trans (jv.o.mono ir);have HR4:=ai ((HRX0.o.quiet jA.o).step jv.o oi);have p0:w4.cell? ⟨bp,0,none⟩=some (.pointer (some ⟨R.rb,0,none⟩)):=jv.o.cell p0' (fun e=>by have e2:bp=bt:=e;omega);rw[hw3]at oq ou yY YU;clear hbt N7 p0';(go_upto_region 14 with fail);rw[←hw3,←hw4];clear oq ou yY YU hw3 hw4;go_wp2_with fail;cases hn2:aI R.l jx0 [62]with
        |out=>exact(dH hn2).elim
        |err c ln col=>have oO:=ai hn2;clear hn2;refine(dO R HL.o w4.heap.size ⟨#[62]⟩ _ jx0 d (HR4.o.quiet (bV.alloc _)) dc (ah (aB _ _) 0 _ rfl)).mono ?_;rintro e wq hp;have hp2:aJ R d iR (aI R.l jx0 [62]) _ e wq:=hp;rw[oO.o]at hp2;obtain⟨rfl,sq⟩:=hp2;refine⟨rfl,aY.aW (c:=c) (ln:=ln) (col:=col) (by rw[HRR.o];unfold qO;simp only[HB0.o,HB1.o,HB2.o,HB3.o,HB4.o,lm.o,HX0.o,oO.o,Bool.false_eq_true,if_false,if_true,dB.bind_ok,dB.lQ]) rfl ?_⟩;exact(pG.o).trans ((((Step.refl (·=R.rb) _).alloc _).trans sq).mono il)
        |ok u j2=>
         have oO:=ai hn2;clear hn2;refine(dO R HL.o w4.heap.size ⟨#[62]⟩ _ jx0 d (HR4.o.quiet (bV.alloc _)) dc (ah (aB _ _) 0 _ rfl)).mono ?_;rintro e wq2 hp;have hp2:aJ R d iR (aI R.l jx0 [62]) _ e wq2:=hp;rw[oO.o]at hp2;obtain⟨⟨v,rfl,rfl⟩,hrq,sq⟩:=hp2;have HRQ2:=ai hrq;have HSQ2:Hid (Step (·=R.rb) w4 wq2):=((Step.refl (·=R.rb) _).alloc _).trans sq;clear hrq sq p0 hp;go_wp2_with fail;refine bodyPost_end (results_none rfl _ _ _) rfl ?_;have hsf:Step (·=R.rb) w4 wq2:=HSQ2.o;refine aY.dQ (a:=.mk 6 di di false [] [Ty.mk k0 gZ lf0 g_ ul yI l0 c0] (tokA R.l i).line (tokA R.l i).col) (j:=j2) (by rw[HRR.o];unfold qO;simp only[HB0.o,HB1.o,HB2.o,HB3.o,HB4.o,lm.o,HX0.o,oO.o,Bool.false_eq_true,if_false,if_true,dB.bind_ok]) rfl ⟨[.int .i64 6,.string di,.string di,.bool false,.slice none 0 0,.slice (some ⟨YT.heap.size,0,none⟩) 1 1,.int .i64 t.line,.int .i64 t.col],hsf.keep rU.o om,?_⟩ HRQ2.o (pG.o.trans (hsf.mono il));rw[dJ,←HT.o];have yj:Step (fun k=>k=R.rb∨k=bt) YT wq2:=((jA.o.mono fe).trans (jv.o.mono ir)).trans (hsf.mono il);refine⟨_,_,[.int .i64 k0,.string gZ,.string lf0,.bool g_,.slice a1 ul.length c1,.slice a2 yI.length c2,.int .i64 l0,.int .i64 c0],rfl,by decide,by decide,oQ,aS.nil _ _ _,?_,aS.new (hsf.keep HK4.o om) dc om⟩;rw[dM];refine⟨_,[],(List.append_nil _).symm,dJ.mono (fun k _ hk=> ?_) _ _ (dJ.step yj (fun k hk e=> ?_) _ _ HTY0.o),by rw[dM]⟩
         ·have:=Uz.o.size;omega
         ·have:=Uz.o.size;omega
     |false=>
      have HB4:=ai hb4;clear hb4;refine(dX R HL.o ⟨#[66,111,120]⟩ _ i d U6.o dc HB4.o).mono ?_;rintro e wn4 ⟨rfl,hrn,hsn⟩;have HRN4:=ai hrn;have HSN4:Hid (Step (·=R.rb) w wn4):=Lh.o.trans hsn;clear hrn hsn p0;obtain⟨p0,-⟩:=HKB.o wn4 HSN4.o;go_wp2_with fail;cases hb5:bH R.l i [38]with
      |true=>
       have CJ:=ai hb5;clear hb5;refine(dw R HL.o ⟨#[38]⟩ _ i d HRN4.o dc CJ.o).mono ?_;rintro e wy ⟨rfl,yH,hsy⟩;have CG:=ai yH;have wE:Hid (Step (·=R.rb) w wy):=HSN4.o.trans hsy;clear yH hsy p0;obtain⟨p0,hbt⟩:=HKB.o wy wE.o;have Le:=ai hbt;clear hbt;obtain⟨oj,hoj⟩:=bn (ny R.l (i+1));obtain⟨os,hos⟩:=bn (pY R.l (i+1));obtain⟨mb,hmb⟩:=bn (bH R.l oj [109,117,116]);obtain⟨mj,hmj⟩:=bn (iw R.l oj [109,117,116]);have hos2:os.size≤9223372036854775807:=by
        rw[hos];unfold pY;split
        ·exact Ld HL.o CG.o.lt
        ·decide
       have HOS:=ai hos2;(have HOPT:Hid (∀X,bD R X (i+1) d→Calls Tryz.prog 79 #[.agg #[fM R.rb 0]] X fun e w'=>e=.returned (.string os)∧bD R w' oj d∧Step (·=R.rb) X w'):=by intro X hX;rw[hoj,hos];exact I8 R HL.o X (i+1) d hX);(have HIS:Hid (∀X,bD R X oj d→Calls Tryz.prog 77 #[.pointer (some ⟨R.rb,0,none⟩),.string ⟨#[109,117,116]⟩] X fun e w'=>e=.returned (.bool mb)∧bD R w' mj d∧Step (·=R.rb) X w'):=by intro X hX;rw[hmb,hmj];exact uj R HL.o ⟨#[109,117,116]⟩ X oj d hX dc);(have vF:Hid (r=(iZ f R.l mj d).bind fun a j=>.ok (.mk 7 di os mb [] [a] (tokA R.l i).line (tokA R.l i).col) j):=by show _=_;rw[HRR.o,hmj,hmb,hos,hoj];unfold qO;simp only[HB0.o,HB1.o,HB2.o,HB3.o,HB4.o,CJ.o,Bool.false_eq_true,if_false,if_true]);clear hoj hos hmb hmj hos2;(go_upto_region 16 with fail);go_cut [] (fun wx=>bD R wx mj d∧wx.heap[bt]?=some (.cells #[af 7,aX,aG os,bC mb,aj,aj,af t.line,af t.col] 46 (0,0))∧Step (fun k=>k=R.rb∨k=bt) w wx);case first=>
        first
        |(go_region_law (first
            |(go_simp;go_at_call 77;refine(HIS.o _ HRO.o).mono ?_;rintro e9 w9 ⟨rfl,jT,hs9⟩;have HR9:=ai jT;have HS9:Hid (Step (·=R.rb) w w9):=(HSO.o).trans hs9;clear jT hs9;obtain⟨p9,ig⟩:=HKB.o w9 HS9.o;have HBT9:=ai ig;have oq:=ah ig 0 _ rfl;have ou:=aH ig 0;have YA:=ah ig 2 _ rfl;have YB:=aH ig 2;have bt3:=ah ig 3 _ rfl;have bz3:=aH ig 3;clear ig)
            |(go_simp;go_at_call 79;refine(HOPT.o _ (CG.o.quiet (bV.drew))).mono ?_;rintro e8 w8 ⟨rfl,vJ,hs8⟩;have HRO:=ai vJ;have HSO:Hid (Step (·=R.rb) w w8):=wE.o.trans (((Step.refl (·=R.rb) _).drew).trans hs8);clear vJ hs8;obtain⟨p8,-⟩:=HKB.o w8 HSO.o)))
        |fail
        all_goals (
         go_wp2_with fail
         go_meet
         case rel=>exact⟨HR9.o.step ((((Step.refl (·=bt) w9).setCell _ _ jd).setCell _ _ jd).setCell _ _ jd) oi,aU (aU (aU HBT9.o 0 (.int .i64 7)) 2 (.string os)) 3 (.bool mb),(HS9.o.mono il).trans (((((Step.refl (·=bt) w9).setCell _ _ jd).setCell _ _ jd).setCell _ _ jd).mono ir)⟩)
       case rest=>
        obtain⟨hrc,hbc,hsc⟩:=hcut;obtain⟨w4,rfl⟩:=bn wc;have HR4:=ai hrc;have rU:=ai hbc;have pG:=ai hsc;clear hrc hbc p0;have p0:w4.cell? ⟨bp,0,none⟩=some (.pointer (some ⟨R.rb,0,none⟩)):=hsc.cell wC.o (fun e=>by have e2:bp=R.rb∨bp=bt:=e;omega);clear hsc;go_wp2_with fail;cases hx1:iZ f R.l mj d with
        |out=>exact absurd (by rw[vF.o];simp only[(ai hx1).out,dB.uK]) f_.o
        |err c ln col=>have HX1:=ai hx1;clear hx1;refine(IH.o R _ mj d HL.o HR4.o hd (by rw[HX1.o];intro h;cases h)).mono ?_;rintro e wq hp;rw[HX1.o]at hp;obtain⟨rfl,sq⟩:=hp;refine⟨rfl,aY.aW (c:=c) (ln:=ln) (col:=col) (by rw[vF.o];simp only[HX1.o,dB.lQ]) rfl ?_⟩;exact(pG.o).trans (sq.mono il)
        |ok ty1 jx1=>have HX1:=ai hx1;clear hx1;refine(IH.o R _ mj d HL.o HR4.o hd (by rw[HX1.o];intro h;cases h)).mono ?_;rintro e wx1 hp;rw[HX1.o]at hp;obtain⟨⟨v,rfl,cs,rfl,hty⟩,hrx,hsx⟩:=hp;have HTY1:=ai hty;obtain⟨ty,iK⟩:=bn ty1;have HTE1:=ai iK;obtain⟨k0,gZ,lf0,g_,ul,yI,l0,c0⟩:=ty1;rw[dJ]at hty;obtain⟨vl0,va0,xs0,rfl,-,-,-,⟨a1,c1,rfl,-⟩,-,⟨a2,c2,rfl,-⟩⟩:=hty;have HRX1:=ai hrx;have HSX1:=ai hsx;clear hrx hsx iK;obtain⟨w5,hw5⟩:=bn (wx1.alloc (.cells #[af k0,aG gZ,aG lf0,bC g_,.slice a1 ul.length c1,.slice a2 yI.length c2,af l0,af c0] 46));(have um:Hid (jP wx1 w5):=by rw[hw5];exact bV.alloc _);(have RP:Hid (w5.heap[wx1.heap.size]?=some (.cells #[af k0,aG gZ,aG lf0,bC g_,.slice a1 ul.length c1,.slice a2 yI.length c2,af l0,af c0] 46 (0,0))):=by rw[hw5];exact aB _ _);have qV:=um.o.keep (HSX1.o.keep rU.o om) (fun h=>h);have RS:=ai qV;have yY:=ah qV 5 _ rfl;have YU:=aH qV 5;have hxz:=HSX1.o.size;have hxy:=pG.o.size;obtain⟨w6,hw6⟩:=bn (w5.setCell ⟨bt,5,none⟩ (.slice (some ⟨wx1.heap.size,0,none⟩) 1 1));(have wX:Hid (Step (·=bt) w5 w6):=by rw[hw6];exact bV.setCell _ _ jd);(have yt:Hid (w6.heap[bt]?=some (.cells #[af 7,aX,aG os,bC mb,aj,.slice (some ⟨wx1.heap.size,0,none⟩) 1 1,af t.line,af t.col] 46 (0,0))):=by rw[hw6];exact aU qV 5 _);have YV:=ai (wX.o.keep RP.o om);rw[hw5]at yY YU;clear qV;go_wp2_with fail;rw[←hw5,←hw6];clear yY YU hw5 hw6;refine bodyPost_end (results_none rfl _ _ _) rfl ?_;have yj:Step (fun k=>k=R.rb∨k=bt) wx1 w6:=(um.o.mono fe).trans (wX.o.mono ir);refine aY.dQ (a:=.mk 7 di os mb [] [Ty.mk k0 gZ lf0 g_ ul yI l0 c0] (tokA R.l i).line (tokA R.l i).col) (j:=jx1) (by rw[vF.o];simp only[HX1.o,dB.bind_ok]) rfl ⟨[.int .i64 7,.string di,.string os,.bool mb,.slice none 0 0,.slice (some ⟨wx1.heap.size,0,none⟩) 1 1,.int .i64 t.line,.int .i64 t.col],yt.o,?_⟩ ((HRX1.o.quiet um.o).step wX.o oi) (pG.o.trans ((HSX1.o.mono il).trans yj));rw[dJ,←HT.o];refine⟨_,_,[.int .i64 k0,.string gZ,.string lf0,.bool g_,.slice a1 ul.length c1,.slice a2 yI.length c2,.int .i64 l0,.int .i64 c0],rfl,by decide,HOS.o,oQ,aS.nil _ _ _,?_,aS.new YV.o dc om⟩;rw[dM];exact⟨_,[],(List.append_nil _).symm,dJ.mono oi _ _ (dJ.step yj oi _ _ HTY1.o),by rw[dM]⟩
      |false=>
       have CJ:=ai hb5;clear hb5;refine(dX R HL.o ⟨#[38]⟩ _ i d HRN4.o dc CJ.o).mono ?_;rintro e wn5 ⟨rfl,hrn,hsn⟩;have HRN5:=ai hrn;have HSN5:Hid (Step (·=R.rb) w wn5):=HSN4.o.trans hsn;clear hrn hsn p0;obtain⟨p0,-⟩:=HKB.o wn5 HSN5.o;go_wp2_with fail;cases hb6:bH R.l i [100,121,110]with
       |true=>
        have Hf:=ai hb6;clear hb6;refine(dw R HL.o ⟨#[100,121,110]⟩ _ i d HRN5.o dc Hf.o).mono ?_;rintro e wy ⟨rfl,yH,hsy⟩;have CG:=ai yH;have wE:Hid (Step (·=R.rb) w wy):=HSN5.o.trans hsy;clear yH hsy p0;obtain⟨p0,hbt⟩:=HKB.o wy wE.o;have Le:=ai hbt;clear hbt;go_wp2_with fail;cases hn3:bI R.l (i+1)with
        |out=>exact(iV hn3).elim
        |err c ln col=>have wW:=ai hn3;clear hn3;refine(name_any R HL.o _ (i+1) d CG.o).mono ?_;rintro e wq hp;rw[wW.o]at hp;obtain⟨rfl,sq⟩:=hp;refine⟨rfl,aY.aW (c:=c) (ln:=ln) (col:=col) (by rw[HRR.o];unfold qO;simp only[HB0.o,HB1.o,HB2.o,HB3.o,HB4.o,CJ.o,Hf.o,wW.o,Bool.false_eq_true,if_false,if_true,dB.lQ]) rfl ?_⟩;exact(wE.o.mono il).trans (sq.mono il)
        |ok nm j3=>
         have wW:=ai hn3;have HNS3:=ai (fU HL.o (CG.o).lt hn3);clear hn3;refine(name_any R HL.o _ (i+1) d CG.o).mono ?_;rintro e wq3 hp;rw[wW.o]at hp;obtain⟨⟨v,rfl,rfl⟩,hrq,sq⟩:=hp;have HRQ3:=ai hrq;have HSQ3:Hid (Step (·=R.rb) wy wq3):=sq;clear hrq sq p0;obtain⟨p0,hbt⟩:=HKB.o wq3 (wE.o.trans HSQ3.o);have Uz:Hid (Step (·=R.rb) w wq3):=wE.o.trans HSQ3.o;have nI:=ai hbt;clear hbt;have oq:=ah nI.o 0 _ rfl;have ou:=aH nI.o 0;have Gu:=ah nI.o 1 _ rfl;have Gv:=aH nI.o 1;obtain⟨w4,hw4⟩:=bn ((wq3.setCell ⟨bt,0,none⟩ (.int .i64 8)).setCell ⟨bt,1,none⟩ (.string nm));(have jv:Hid (Step (·=bt) wq3 w4):=by rw[hw4];exact(((Step.refl (·=bt) _).setCell _ _ jd).setCell _ _ jd));(have rU:Hid (w4.heap[bt]?=some (.cells #[af 8,aG nm,aX,aT,aj,aj,af t.line,af t.col] 46 (0,0))):=by rw[hw4];exact(aU (aU nI.o 0 (.int .i64 8)) 1 (.string nm)));have pG:Hid (Step (fun k=>k=R.rb∨k=bt) w w4):=(Uz.o.mono il).trans (jv.o.mono ir);have HR4:=ai ((HRQ3.o).step jv.o oi);have p4:w4.cell? ⟨bp,0,none⟩=some (.pointer (some ⟨R.rb,0,none⟩)):=jv.o.cell p0 (fun e=>by have e2:bp=bt:=e;omega);(go_upto_region 20 with fail);rw[←hw4];clear p0 hw4 oq ou Gu Gv;have p0:=p4;clear p4;go_wp2_with fail;cases hb7:bH R.l j3 [43]with
         |false=>have Ll:=ai hb7;clear hb7;refine(dX R HL.o ⟨#[43]⟩ _ j3 d HR4.o dc Ll.o).mono ?_;rintro e wz ⟨rfl,hrz,hsz⟩;have F6:=ai hrz;have YC:=ai hsz;clear hrz hsz p0;go_wp2_with fail;refine bodyPost_end (results_none rfl _ _ _) rfl ?_;refine aY.dQ (a:=.mk 8 nm di false [] [] (tokA R.l i).line (tokA R.l i).col) (j:=j3) (by rw[HRR.o];unfold qO;simp only[HB0.o,HB1.o,HB2.o,HB3.o,HB4.o,CJ.o,Hf.o,wW.o,Ll.o,Bool.false_eq_true,if_false,if_true,dB.bind_ok]) rfl ⟨[.int .i64 8,.string nm,.string di,.bool false,.slice none 0 0,.slice none 0 0,.int .i64 t.line,.int .i64 t.col],YC.o.keep rU.o om,?_⟩ F6.o (pG.o.trans (YC.o.mono il));rw[dJ,←HT.o];exact⟨_,_,[],rfl,HNS3.o,by decide,oQ,aS.nil _ _ _,by rw[dM],aS.nil _ _ _⟩
         |true=>
          have Ll:=ai hb7;clear hb7;refine(dw R HL.o ⟨#[43]⟩ _ j3 d HR4.o dc Ll.o).mono ?_;rintro e wz ⟨rfl,hrz,hsz⟩;have F6:=ai hrz;have YC:=ai hsz;have RS:=ai (hsz.keep rU.o om);have HS05:Hid (Step (fun k=>k=R.rb∨k=bt) w wz):=pG.o.trans (hsz.mono il);have p1:=hsz.cell p0 (fun e=>by have e2:bp=R.rb:=e;omega);clear hrz hsz p0;have p0:=p1;clear p1;go_wp2_with fail;cases hn4:jh R.l (j3+1)with
          |out=>exact(BB hn4).elim
          |err c ln col=>have N8:=ai hn4;clear hn4;refine(xC R HL.o _ (j3+1) d F6.o).mono ?_;rintro e wq hp;rw[N8.o]at hp;obtain⟨rfl,sq⟩:=hp;refine⟨rfl,aY.aW (c:=c) (ln:=ln) (col:=col) (by rw[HRR.o];unfold qO;simp only[HB0.o,HB1.o,HB2.o,HB3.o,HB4.o,CJ.o,Hf.o,wW.o,Ll.o,N8.o,Bool.false_eq_true,if_false,if_true,dB.bind_ok,dB.lQ]) rfl ?_⟩;exact HS05.o.trans (sq.mono il)
          |ok lf j4=>have N8:=ai hn4;have RU:=ai (yX HL.o (F6.o).lt hn4);clear hn4;refine(xC R HL.o _ (j3+1) d F6.o).mono ?_;rintro e wq4 hp;rw[N8.o]at hp;obtain⟨⟨v,rfl,rfl⟩,hrq,sq⟩:=hp;have Bl:=ai hrq;have yt:=ai (sq.keep RS.o om);have HS06:Hid (Step (fun k=>k=R.rb∨k=bt) w wq4):=HS05.o.trans (sq.mono il);clear hrq sq p0;have YA:=ah yt.o 2 _ rfl;have YB:=aH yt.o 2;go_wp2_with fail;refine bodyPost_end (results_none rfl _ _ _) rfl ?_;have hst:Step (·=bt) wq4 (wq4.setCell ⟨bt,2,none⟩ (.string lf)):=bV.setCell _ _ jd;refine aY.dQ (a:=.mk 8 nm lf false [] [] (tokA R.l i).line (tokA R.l i).col) (j:=j4) (by rw[HRR.o];unfold qO;simp only[HB0.o,HB1.o,HB2.o,HB3.o,HB4.o,CJ.o,Hf.o,wW.o,Ll.o,N8.o,Bool.false_eq_true,if_false,if_true,dB.bind_ok]) rfl ⟨[.int .i64 8,.string nm,.string lf,.bool false,.slice none 0 0,.slice none 0 0,.int .i64 t.line,.int .i64 t.col],aU yt.o 2 (.string lf),?_⟩ (Bl.o.step hst oi) (HS06.o.trans (hst.mono ir));rw[dJ,←HT.o];exact⟨_,_,[],rfl,HNS3.o,RU.o,oQ,aS.nil _ _ _,by rw[dM],aS.nil _ _ _⟩
       |false=>
        have Hf:=ai hb6;clear hb6;refine(dX R HL.o ⟨#[100,121,110]⟩ _ i d HRN5.o dc Hf.o).mono ?_;rintro e wn6 ⟨rfl,hrn,hsn⟩;have HRN6:=ai hrn;have YW:Hid (Step (·=R.rb) w wn6):=HSN5.o.trans hsn;clear hrn hsn p0;obtain⟨p0,-⟩:=HKB.o wn6 YW.o;go_wp2_with fail;cases UA:bI R.l i with
        |out=>exact(iV UA).elim
        |err c ln col=>have HN5:=ai UA;clear UA;refine(name_any R HL.o _ i d HRN6.o).mono ?_;rintro e wq hp;rw[HN5.o]at hp;obtain⟨rfl,sq⟩:=hp;refine⟨rfl,aY.aW (c:=c) (ln:=ln) (col:=col) (by rw[HRR.o];unfold qO;simp only[HB0.o,HB1.o,HB2.o,HB3.o,HB4.o,CJ.o,Hf.o,HN5.o,Bool.false_eq_true,if_false,dB.lQ]) rfl ?_⟩;exact(YW.o.mono il).trans (sq.mono il)
        |ok nm j5=>
         have HN5:=ai UA;have HNS5:=ai (fU HL.o (HRN6.o).lt UA);clear UA;refine(name_any R HL.o _ i d HRN6.o).mono ?_;rintro e wq5 hp;rw[HN5.o]at hp;obtain⟨⟨v,rfl,rfl⟩,hrq,sq⟩:=hp;have HRQ5:=ai hrq;have HSQ5:Hid (Step (·=R.rb) wn6 wq5):=sq;clear hrq sq p0;obtain⟨p0,hbt⟩:=HKB.o wq5 (YW.o.trans HSQ5.o);have Uz:Hid (Step (·=R.rb) w wq5):=YW.o.trans HSQ5.o;have nI:=ai hbt;clear hbt;have oq:=ah nI.o 0 _ rfl;have ou:=aH nI.o 0;have Gu:=ah nI.o 1 _ rfl;have Gv:=aH nI.o 1;obtain⟨w4,hw4⟩:=bn ((wq5.setCell ⟨bt,0,none⟩ (.int .i64 5)).setCell ⟨bt,1,none⟩ (.string nm));(have jv:Hid (Step (·=bt) wq5 w4):=by rw[hw4];exact(((Step.refl (·=bt) _).setCell _ _ jd).setCell _ _ jd));(have rU:Hid (w4.heap[bt]?=some (.cells #[af 5,aG nm,aX,aT,aj,aj,af t.line,af t.col] 46 (0,0))):=by rw[hw4];exact(aU (aU nI.o 0 (.int .i64 5)) 1 (.string nm)));have pG:Hid (Step (fun k=>k=R.rb∨k=bt) w w4):=(Uz.o.mono il).trans (jv.o.mono ir);have HR4:=ai ((HRQ5.o).step jv.o oi);have p4:w4.cell? ⟨bp,0,none⟩=some (.pointer (some ⟨R.rb,0,none⟩)):=jv.o.cell p0 (fun e=>by have e2:bp=bt:=e;omega);(go_upto_region 1 with fail);rw[←hw4];clear p0 hw4 oq ou Gu Gv;have p0:=p4;clear p4;go_wp2_with fail;(have hbr:R.rb<bt:=by omega);cases hx:CB f R.l j5 d with
         |out=>have HX:=ai hx;exact absurd (by rw[HRR.o,BD HB0.o HB1.o HB2.o HB3.o HB4.o CJ.o Hf.o,HN5.o,dB.bind_ok,HX.o];rfl) f_.o
         |err c ln col=>have HX:=ai hx;clear hx;refine(IHA.o R _ j5 d bt 5 nm t HL.o HR4.o hd hbr rU.o (by rw[HX.o];intro h;cases h)).mono ?_;rintro e wq hp;rw[HX.o]at hp;obtain⟨rfl,sq⟩:=hp;refine⟨rfl,aY.aW (c:=c) (ln:=ln) (col:=col) (by rw[HRR.o,BD HB0.o HB1.o HB2.o HB3.o HB4.o CJ.o Hf.o,HN5.o,dB.bind_ok,HX.o];rfl) rfl ?_⟩;exact pG.o.trans sq
         |ok p jx=>have HX:=ai hx;clear hx;refine(IHA.o R _ j5 d bt 5 nm t HL.o HR4.o hd hbr rU.o (by rw[HX.o];intro h;cases h)).mono ?_;rintro e wx hp;rw[HX.o]at hp;obtain⟨rfl,⟨vl,va,xs,hbx,hsz,hrl,hts,hra⟩,hrx,hsx⟩:=hp;have HP:=ai hsz;have UB:=ai hbx;have Bl:=ai hrl;have U7:=ai hts;have rF:=ai hra;have wP:=ai hrx;have qW:=ai hsx;clear hsz hbx hrl hts hra hrx hsx p0;go_wp2_with fail;refine bodyPost_end (results_none rfl _ _ _) rfl ?_;have hz:=pG.o.size;refine aY.dQ (a:=.mk 5 nm di false p.1 p.2 (tokA R.l i).line (tokA R.l i).col) (j:=jx) (by rw[HRR.o,BD HB0.o HB1.o HB2.o HB3.o HB4.o CJ.o Hf.o,HN5.o,dB.bind_ok,HX.o];rfl) rfl ⟨[.int .i64 5,.string nm,.string di,.bool false,vl,va,.int .i64 t.line,.int .i64 t.col],UB.o,?_⟩ wP.o (pG.o.trans qW.o);rw[dJ,←HT.o];exact⟨_,_,xs,rfl,HNS5.o,by decide,HP.o,Bl.o.mono oi,dM.mono oi _ _ U7.o,rF.o.mono oi⟩
theorem Tryz.cu:(Tryz.prog.info? 46).map (·.size)=some 8:=by kernel_rfl
theorem CO:Enters 76:=fun xs w=>by go_simp
theorem dJ.parts {w:World} {P:Nat→Prop} {ty:Ty} {cs:List Value} (h:dJ w P ty cs):∃(k:Int) (nm lf:ByteArray) (m:Bool) (a1:Option Addr) (n1 c1:Nat) (a2:Option Addr) (n2 c2:Nat) (l c:Int),cs=[.int .i64 k,.string nm,.string lf,.bool m,.slice a1 n1 c1,.slice a2 n2 c2,.int .i64 l,.int .i64 c]:=by obtain⟨k0,gZ,lf0,g_,ul,yI,l0,c0⟩:=ty;rw[dJ]at h;obtain⟨vl0,va0,xs0,rfl,-,-,-,⟨a1,c1,rfl,-⟩,-,⟨a2,c2,rfl,-⟩⟩:=h;exact⟨_,_,_,_,_,_,_,_,_,_,_,_,rfl⟩
theorem U8 (f:Nat) (ih:xE f) (iha:ED f):xE (f+1):=by
 intro R w i d hl h hd hno;have hmf:∀(fn:Fn) (first cap:Array Value) (w:World),(Instr.makeFunc fn first cap).run Tryz.prog w=.ok (.func fn first cap) w:=fun _ _ _ _=>rfl;have HL:=ai hl;have H0:=ai h;have f_:=ai hno;obtain⟨r,hr⟩:=bn (iZ (f+1) R.l i d);have HRR:=ai hr;rw[←hr];obtain⟨t,ht⟩:=bn (tokA R.l i);have HT:=ai ht;have vK:=aC h.blk;obtain⟨w1,hw1⟩:=bn ((w.alloc (.cells #[fM R.rb 0] 75)).alloc (.cells #[af 0,bW,bW,aT,aj,aj,af 0,af 0] 46));have dF:=nT hw1
 have kG:=nC hw1
 have lm:=nD hw1
 have HW1:=ai hw1;have H1:=ai (h.quiet dF.o);have p0:w1.cell? ⟨w.heap.size,0,none⟩=some (.pointer (some ⟨R.rb,0,none⟩)):=ah kG.o 0 _ rfl;have HAT:=ai (at_at R w1 i d t H1.o (by rw[ht];exact H1.o.tok));clear hl h hno hr hw1 ht;go_enter Tryz.func44,Tryz.ntmps44;go_upto_region 1 with fail
 rw[←HW1.o];go_wp2_with fail;refine HAT.o.mono ?_;rintro e w2 ⟨rfl,h2⟩;have HS2:=ai (dF.o.trans h2);have HP2:=ai (h2.keep kG.o (fun h=>h));have oO:=ai (h2.keep lm.o (fun h=>h));have hn1:=aC oO.o;obtain⟨w3,hw3⟩:=bn (w2.alloc (.cells #[af 0,aX,aX,aT,aj,aj,af t.line,af t.col] 46));have lS:=nS hw3
 have HB3:=nB hw3
 have jA:=ai (HS2.o.trans lS.o);have yJ:=ai (lS.o.keep HP2.o (fun h=>h));have wW:=ai (lS.o.keep oO.o (fun h=>h));have H3:=ai (H0.o.quiet jA.o);have HW3:=ai hw3;clear h2 hw3 p0;have p0:w3.cell? ⟨w.heap.size,0,none⟩=some (.pointer (some ⟨R.rb,0,none⟩)):=ah yJ.o 0 _ rfl;go_upto_region 2 with fail
 have hx3:w2.alloc (.cells #[af 0,bW,bW,aT,aj,aj,af t.line,af t.col] 46)=w3:=HW3.o.symm;rw[hx3];clear hx3;go_wp2_with fail;by_cases U9:d=40
 ·refine(yV R _ [.pointer (some ⟨w.heap.size,0,none⟩),.pointer (some ⟨w2.heap.size,0,none⟩)] w3 i d t H3.o (by rw[HT.o];exact H3.o.tok) U9).mono ?_;rintro e w4 ⟨rfl,h4⟩;refine⟨rfl,?_⟩;rw[HRR.o,He,if_pos U9,gW,←HT.o];exact⟨rfl,(jA.o.trans h4).mono fe⟩
 ·have mM:Hid (r=qO f R.l i (d+1)):=by show _=_;rw[HRR.o,He,if_neg U9]
  have hnb:qO f R.l i (d+1)≠.out:=fun e=>f_.o (by rw[←HRR.o,mM.o,e]);have Lm:Hid (∀X,bD R X i (d+1)→Step (·=R.rb) w3 X→Calls Tryz.prog 76 #[.pointer (some ⟨w.heap.size,0,none⟩),.pointer (some ⟨w2.heap.size,0,none⟩)] X (aY R (d+1) w2.heap.size (NU X.heap.size w2.heap.size) (qO f R.l i (d+1)) X)):=fun X hX hs=>U2 R f ih iha w.heap.size w2.heap.size X i (d+1) t HL.o hX om (hs.keep yJ.o om) (hs.keep HB3.o om) om om HT.o hnb
  have Lr:d<40:=by omega
  cases hb:qO f R.l i (d+1)with
  |out=>exact absurd hb hnb
  |err c ln col=>
   have HB:=ai hb;clear hb;refine(EC R _ [.pointer (some ⟨w.heap.size,0,none⟩),.pointer (some ⟨w2.heap.size,0,none⟩)] w3 i d (Q:=fun X=>Step (fun k=>k=R.rb∨k=w2.heap.size) w3 X) (hk:=CO) (h:=H3.o) (hd:=Lr) (hby:=fun X hX hs=> ?_) (es:=[{v:=.iface 184 (.agg #[af c,af ln,af col]),recovered:=false}])).mono ?_
   ·refine(Lm.o X hX hs).mono ?_;intro e X2 hp;rw[HB.o]at hp;exact⟨hp.1,(hs.mono il).trans hp.2⟩
   ·rintro e w4 ⟨rfl,h4⟩;refine⟨rfl,?_⟩;rw[mM.o,HB.o];exact⟨rfl,(jA.o.mono fe).then h4 oi⟩
  |ok ty j=>
   have HB:=ai hb;clear hb;refine(I7 R _ [.pointer (some ⟨w.heap.size,0,none⟩),.pointer (some ⟨w2.heap.size,0,none⟩)] w3 i d (fun i' X=>i'=j∧NU w3.heap.size w2.heap.size X ty∧Step (fun k=>k=R.rb∨k=w2.heap.size) w3 X) CO H3.o Lr (fun X hX hs=> ?_)).mono ?_
   ·refine(Lm.o X hX hs).mono ?_;intro e X2 hp;rw[HB.o]at hp;obtain⟨he,⟨cs,hc,ht⟩,hr,hs2⟩:=hp;exact⟨he,j,hr,rfl,⟨cs,hc,dJ.mono (fun k _ hk=>by have:=hs.size;omega) _ _ ht⟩,(hs.mono il).trans hs2⟩
   ·rintro e w4 ⟨rfl,i',X,⟨rfl,⟨cs,hc,hty⟩,hsx⟩,hr4,hs4⟩;have hlt3:=aC HB3.o;have hb4:=hs4.keep hc om;have I9:=dJ.step hs4 oi _ _ hty;have N9:Step (fun k=>k=R.rb∨k=w2.heap.size) w3 w4:=hsx.trans (hs4.mono il);obtain⟨k0,gZ,lf0,g_,a1,n1,c1,a2,n2,c2,l0,c0,rfl⟩:=I9.parts;have HR4:=ai hr4;have Ad:=ai I9;have Ae:=ai N9;have HB4:=ai hb4;have N8:=ai (N9.keep wW.o om);(have bY:Hid (∀(jj:Nat) v,[Value.int .i64 k0,aG gZ,aG lf0,bC g_,.slice a1 n1 c1,.slice a2 n2 c2,af l0,af c0][jj]?=some v→w4.cell? ⟨w2.heap.size,0+jj,none⟩=some v):=by intro jj v hv;rw[Nat.zero_add];exact ah HB4.o jj v qE);have dL:=ai (dJ.one I9);have hsz3:=lS.o.size;clear hc hty hsx hr4 hs4 hb4 I9 N9 p0;go_wp2_with (first
     |(refine ay rfl 46 (.tmp 3) rfl w2.heap.size 0 rfl [.int .i64 k0,.string gZ,.string lf0,.bool g_,.slice a1 n1 c1,.slice a2 n2 c2,.int .i64 l0,.int .i64 c0] _ bY.o Tryz.underlying46 rfl Tryz.cu ?_)
     |(refine au (w:=w4) rfl 46 (.tmp 2) (.tmp 12) rfl (w.heap.size+1) 0 46 _ [.int .i64 k0,.string gZ,.string lf0,.bool g_,.slice a1 n1 c1,.slice a2 n2 c2,.int .i64 l0,.int .i64 c0] rfl rfl N8.o Tryz.cu (Nat.le_of_eq rfl) dL.o ?_;intro w5 hb5 hst5))
    have uo:w5.heap[w.heap.size+1]?=some (.cells [Value.int .i64 k0,aG gZ,aG lf0,bC g_,.slice a1 n1 c1,.slice a2 n2 c2,af l0,af c0].toArray 46 (0,0)):=hb5;refine bodyPost_ret (aV rfl _ (w.heap.size+1) 46 _ _ rfl uo Tryz.underlying46 rfl Tryz.cu) rfl ?_;rw[mM.o,HB.o];refine⟨⟨_,rfl,_,rfl,dJ.mono (fun k _ hk=>by have:=jA.o.size;omega) _ _ (dJ.step hst5 oi _ _ Ad.o)⟩,HR4.o.step hst5 oi,?_⟩;have hs04:Step (·=R.rb) w w4:=(jA.o.mono fe).then Ae.o oi;exact hs04.then hst5 oi
theorem U_ {w w':World} {base size n g c:Nat} {e:TypeId} {xs zs cs:List Value} {cur:Array Value} (h:w.ownsRow base e size (.slice (some ⟨g,0,none⟩) (n+1) c) (n+1) (xs++zs)) (hx:xs.length=n*size) (hc:cs.length=size) (hg:w.heap[g]?=some (.cells cur e (0,0))) (hb:w'.heap[g]?=some (.cells (cur.toList.take (n*size)++(cs++cur.toList.drop (n*size+cs.length))).toArray e (0,0))):w'.ownsRow base e size (.slice (some ⟨g,0,none⟩) (n+1) c) (n+1) (xs++cs):=by
 rcases h.2 with⟨h1,-⟩|⟨g',cap,cur',h1,h2,h3,h4,h5,h6,h7⟩
 ·cases h1
 ·cases h1;rw[hg]at h3;cases h3;have hsz:(n+1)*size=n*size+size:=by rw[Nat.add_mul,Nat.one_mul]
  have hcap:(n+1)*size≤c*size:=Nat.mul_le_mul_right _ h4;have hct:(cur.toList.take (n*size)).length=n*size:=by simp;omega
  have hxt:cur.toList.take (n*size)=xs:=by (have h8:(cur.toList.take ((n+1)*size)).take (n*size)=(xs++zs).take (n*size):=by rw[h7]);rw[List.take_take,Nat.min_eq_left om]at h8;rw[h8,←hx,List.take_left]
  refine⟨by rw[List.length_append,hx,hc,hsz],.inr ⟨g,c,_,rfl,h2,hb,h4,h5,?_,?_⟩⟩
  ·simp;omega
  ·show(cur.toList.take (n*size)++(cs++cur.toList.drop (n*size+cs.length))).take ((n+1)*size)=xs++cs;rw[←List.append_assoc,List.take_append_of_le_length (by rw[List.length_append,hct,hc];omega),List.take_of_length_le (by rw[List.length_append,hct,hc];omega),hxt]
theorem vM {w:World} {base size n:Nat} {e:TypeId} {v:Value} {xs:List Value} (h:w.ownsRow base e size v n xs) (hn:0<n):∃g c cur,v=.slice (some ⟨g,0,none⟩) n c∧base≤g∧w.heap[g]?=some (.cells cur e (0,0))∧n*size≤cur.size:=by
 rcases h.2 with⟨-,h2⟩|⟨g,cap,cur,h1,h2,h3,h4,h5,h6,h7⟩
 ·omega
 ·exact⟨g,cap,cur,h1,h2,h3,by rw[h6];exact Nat.mul_le_mul_right _ h4⟩
structure Af (El:World→(Nat→Prop)→List Value→Prop):Prop where
 step:∀(w w':World) (P S:Nat→Prop) (cs:List Value),Step S w w'→(∀q,P q→¬S q)→El w P cs→El w' P cs
 mono:∀(w:World) (P P':Nat→Prop) (cs:List Value),(∀q,q<w.heap.size→P q→P' q)→El w P cs→El w P' cs
structure jW (R:h_) (j1 j2 d:Nat) (w0:World) (ic ib ia iy sx iz bt:Nat) (rV:Value→Obj) (base:Nat) (e:TypeId) (size n:Nat) (va:Value) (xs zs:List Value) (El:World→(Nat→Prop)→List Value→Prop) (vals:List (Option Value))
  (L:Nat→Bool) (V:Nat→Value) (X:World):Prop where
 iO:∀(i:Nat) v,vals[i]?=some (some v)→L i=true→V i=v
 st:Step (fun q=>q=R.rb∨q=bt∨va.ownBlock=some q) w0 X
 rd:bD R X (if L ic then j2 else j1) d
 el:L ic=true→∃cs:List Value,V ic=.agg cs.toArray∧El X (fun q=>w0.heap.size≤q∧(L ia=true→(V ia).ownBlock≠some q)) cs
 bl:L ib=true→L ia=false→∃zb,V ib=.slice (some ⟨zb,0,none⟩) 1 1∧w0.heap.size≤zb∧X.heap[zb]?=some (.cells zs.toArray e (0,0))
 old:L ia=false→X.ownsRow base e size va n xs
 new:L ia=true→∃g c,V ia=.slice (some ⟨g,0,none⟩) (n+1) c∧(va.ownBlock=some g∨w0.heap.size≤g)∧∃ys,X.ownsRow base e size (V ia) (n+1) (xs++ys)∧ys.length=size∧(L sx=true→V ic=.agg ys.toArray)
 blk:X.heap[bt]?=some (rV (if L iz then V ia else va))
 pa:L ia=true→∀i,i<ia→L i=true
 ps:L sx=true→L ia=true
 pz:L iz=true→L ia=true
 ix:L iy=true→L ia=true∧∀g c,V ia=.slice (some ⟨g,0,none⟩) (n+1) c→V iy=.pointer (some ⟨g,n*size,none⟩)
structure yK (R:h_) (w0:World) (ic ib ia iy sx iz bt:Nat) (base size n:Nat) (va:Value) (xs zs:List Value):Prop where
 hc:ic<ia
 hb:ib<ia
 cb:ic≠ib
 hs:ia<sx
 hy:ia<iy
 ys:sx≠iy
 yz:iz≠iy
 hz:ia<iz
 sz:sx≠iz
 rb:R.rb<bt
 bt:bt<base
 bw:base≤w0.heap.size
 own:∀q,va.ownBlock=some q→base≤q∧q<w0.heap.size
 xs:xs.length=n*size
 zs:zs.length=size
section
variable {R : h_} {j1 j2 d : Nat} {w0 : World} {ic ib ia iy sx iz bt : Nat} {rV : Value → Obj} {base : Nat} {e : TypeId} {size n : Nat} {va : Value} {xs zs : List Value} {El : World → (Nat → Prop) → List Value → Prop} {vals : List (Option Value)} {L : Nat → Bool} {V : Nat → Value} {X X' : World}
theorem aA (L:Nat→Bool) {i j:Nat} (h:j≠i):dN L i j=L j:=by unfold dN;rw[if_neg h]
theorem jY (L:Nat→Bool) (i:Nat):dN L i i=true:=by unfold dN;rw[if_pos rfl]
theorem bZ (V:Nat→Value) {i j:Nat} (v:Value) (h:j≠i):gY V i v j=V j:=by unfold gY;rw[if_neg h]
theorem mg (V:Nat→Value) (i:Nat) (v:Value):gY V i v i=v:=by unfold gY;rw[if_pos rfl]
theorem jk (h:∀(i:Nat) v,vals[i]?=some (some v)→L i=true→V i=v) (i:Nat) (v:Value) (hv:∀u,vals[i]?=some (some u)→v=u):∀(k:Nat) u,vals[k]?=some (some u)→dN L i k=true→gY V i v k=u:=by
 intro k u hu hL;by_cases e:k=i
 ·subst e;rw[mg];exact hv u hu
 ·rw[bZ _ _ e];rw[aA _ e]at hL;exact h k u hu hL
theorem Hg (h:L ia=true→∀i,i<ia→L i=true) (k:Nat) (hk:k≠ia):dN L k ia=true→∀i,i<ia→dN L k i=true:=by
 intro hL i hi;rw[aA _ (Ne.symm hk)]at hL;by_cases e:i=k
 ·rw[e,jY]
 ·rw[aA _ e];exact h hL i hi
theorem jW.up (h:jW R j1 j2 d w0 ic ib ia iy sx iz bt rV base e size n va xs zs El vals L V X) (i:Nat) (h1:i≠ic) (h2:i≠ib) (h3:i≠ia) (h4:i≠sx) (h5:i≠iz) (h6:i≠iy) {v:Value} (hv:vals[i]?=some (some v)):jW R j1 j2 d w0 ic ib ia iy sx iz bt rV base e size n va xs zs El vals (dN L i) (gY V i v) X:=by
 refine⟨jk h.iO i v (fun u hu=>by rw[hv]at hu;cases hu;rfl),h.st,?_,?_,?_,?_,?_,?_,Hg h.pa i h3,?_,?_,?_⟩
 ·rw[aA _ (Ne.symm h1)];exact h.rd
 ·rw[aA _ (Ne.symm h1),aA _ (Ne.symm h3),bZ _ _ (Ne.symm h1),bZ _ _ (Ne.symm h3)];exact h.el
 ·rw[aA _ (Ne.symm h2),aA _ (Ne.symm h3),bZ _ _ (Ne.symm h2)];exact h.bl
 ·rw[aA _ (Ne.symm h3)];exact h.old
 ·rw[aA _ (Ne.symm h3),bZ _ _ (Ne.symm h3),aA _ (Ne.symm h4),bZ _ _ (Ne.symm h1)];exact h.new
 ·rw[aA _ (Ne.symm h5),bZ _ _ (Ne.symm h3)];exact h.blk
 ·rw[aA _ (Ne.symm h4),aA _ (Ne.symm h3)];exact h.ps
 ·rw[aA _ (Ne.symm h5),aA _ (Ne.symm h3)];exact h.pz
 ·rw[aA _ (Ne.symm h6),aA _ (Ne.symm h3),bZ _ _ (Ne.symm h3),bZ _ _ (Ne.symm h6)];exact h.ix
theorem jW.Va (h:jW R j1 j2 d w0 ic ib ia iy sx iz bt rV base e size n va xs zs El vals L V X) {i:Nat} (hi:i<ia) (hL:L i=false):L ia=false:=by
 cases e:L ia with
 |false=>rfl
 |true=>rw[h.pa e i hi]at hL;cases hL
theorem jW.I_ (h:jW R j1 j2 d w0 ic ib ia iy sx iz bt rV base e size n va xs zs El vals L V X) (hL:L ia=false):L iz=false∧L sx=false∧L iy=false:=by
 refine⟨?_,?_,?_⟩
 ·cases e:L iz with
  |false=>rfl
  |true=>rw[h.pz e]at hL;cases hL
 ·cases e:L sx with
  |false=>rfl
  |true=>rw[h.ps e]at hL;cases hL
 ·cases e:L iy with
  |false=>rfl
  |true=>rw[(h.ix e).1]at hL;cases hL
theorem jW.zero (hs:jP w0 X) (hr:bD R w0 j1 d) (hown:w0.ownsRow base e size va n xs) (hb:w0.heap[bt]?=some (rV va)):jW R j1 j2 d w0 ic ib ia iy sx iz bt rV base e size n va xs zs El vals (fun _=>false) V X:=
 ⟨fun _ _ _ h=>(nomatch h),hs.mono fe,hr.quiet hs,lW,lW,fun _=>hs.owns hown (fun _ _ h=>h),lW,hs.keep hb (fun h=>h),lW,lW,lW,lW⟩
theorem jW.call (hE:Af El) (ho:yK R w0 ic ib ia iy sx iz bt base size n va xs zs) (h:jW R j1 j2 d w0 ic ib ia iy sx iz bt rV base e size n va xs zs El vals L V X) (hL:L ic=false) (kZ:vals[ic]?=some none) (hs:Step (·=R.rb) X X') (hr:bD R X' j2 d) {cs:List Value} (hc:El X' (fun q=>X.heap.size≤q) cs):jW R j1 j2 d w0 ic ib ia iy sx iz bt rV base e size n va xs zs El vals (dN L ic) (gY V ic (.agg cs.toArray)) X':=by
 have hA:=h.Va ho.hc hL;have hZ:=h.I_ hA;have n1:ia≠ic:=by have:=ho.hc;omega
 have n2:iz≠ic:=by have:=ho.hc;have:=ho.hz;omega
 have n5:iy≠ic:=by have:=ho.hc;have:=ho.hy;omega
 have n3:sx≠ic:=by have:=ho.hc;have:=ho.hs;omega
 refine⟨jk h.iO ic _ (fun u hu=>by rw[kZ]at hu;cases hu),h.st.trans (hs.mono il),?_,?_,?_,?_,?_,?_,Hg h.pa ic (Ne.symm n1),?_,?_,?_⟩
 ·rw[jY,if_pos rfl];exact hr
 ·intro _;refine⟨cs,mg _ _ _,hE.mono _ _ _ _ (fun q _ hq=>⟨Nat.le_trans h.st.size hq,fun h1=> ?_⟩) hc⟩;rw[aA _ n1,hA]at h1;cases h1
 ·intro h1 h2;rw[aA _ (Ne.symm ho.cb)]at h1;obtain⟨zb,z1,z2,z3⟩:=h.bl h1 hA;exact⟨zb,by rw[bZ _ _ (Ne.symm ho.cb)];exact z1,z2,hs.keep z3 (by have:=ho.rb;have:=ho.bt;have:=ho.bw;omega)⟩
 ·intro _;exact hs.owns (h.old hA) (fun q hq e=>by have:=ho.rb;have:=ho.bt;omega)
 ·intro h1;rw[aA _ n1,hA]at h1;cases h1
 ·rw[aA _ n2,hZ.1];have h2:=h.blk;rw[hZ.1]at h2;exact hs.keep h2 (by have:=ho.rb;omega)
 ·intro h1;rw[aA _ n3,hZ.2.1]at h1;cases h1
 ·intro h1;rw[aA _ n2,hZ.1]at h1;cases h1
 ·intro h1;rw[aA _ n5,hZ.2.2]at h1;cases h1
theorem jW.build (hE:Af El) (ho:yK R w0 ic ib ia iy sx iz bt base size n va xs zs) (h:jW R j1 j2 d w0 ic ib ia iy sx iz bt rV base e size n va xs zs El vals L V X) (hL:L ib=false) (kZ:vals[ib]?=some none):jW R j1 j2 d w0 ic ib ia iy sx iz bt rV base e size n va xs zs El vals (dN L ib) (gY V ib (.slice (some ⟨X.heap.size,0,none⟩) 1 1)) (X.alloc (.cells zs.toArray e)):=by
 have hA:=h.Va ho.hb hL;have hZ:=h.I_ hA;have n1:ia≠ib:=by have:=ho.hb;omega
 have n2:iz≠ib:=by have:=ho.hb;have:=ho.hz;omega
 have n5:iy≠ib:=by have:=ho.hb;have:=ho.hy;omega
 have n3:sx≠ib:=by have:=ho.hb;have:=ho.hs;omega
 have hs:jP X (X.alloc (.cells zs.toArray e)):=bV.alloc _;refine⟨jk h.iO ib _ (fun u hu=>by rw[kZ]at hu;cases hu),h.st.alloc _,?_,?_,?_,?_,?_,?_,Hg h.pa ib (Ne.symm n1),?_,?_,?_⟩
 ·rw[aA _ ho.cb];exact h.rd.quiet hs
 ·intro h1;rw[aA _ ho.cb]at h1;obtain⟨cs,c1,c2⟩:=h.el h1;refine⟨cs,by rw[bZ _ _ ho.cb];exact c1,?_⟩;rw[aA _ n1,bZ _ _ n1];exact hE.step _ _ _ _ _ hs (fun _ _ h=>h) c2
 ·intro _ _;exact⟨X.heap.size,mg _ _ _,h.st.size,aB _ _⟩
 ·intro _;exact hs.owns (h.old hA) (fun _ _ h=>h)
 ·intro h1;rw[aA _ n1,hA]at h1;cases h1
 ·rw[aA _ n2,hZ.1];have h2:=h.blk;rw[hZ.1]at h2;exact aN h2
 ·intro h1;rw[aA _ n3,hZ.2.1]at h1;cases h1
 ·intro h1;rw[aA _ n2,hZ.1]at h1;cases h1
 ·intro h1;rw[aA _ n5,hZ.2.2]at h1;cases h1
theorem jW.app (hE:Af El) (ho:yK R w0 ic ib ia iy sx iz bt base size n va xs zs) (h:jW R j1 j2 d w0 ic ib ia iy sx iz bt rV base e size n va xs zs El vals L V X) (hL:L ia=false) (hall:∀i,i<ia→L i=true) (kZ:vals[ia]?=some none) {v':Value} (hown:X'.ownsRow base e size v' (n+1) (xs++zs)) (hgrow:X.grownBy X' va.ownBlock) (hat:v'.ownBlock=va.ownBlock∨v'.ownBlock=some X.heap.size):jW R j1 j2 d w0 ic ib ia iy sx iz bt rV base e size n va xs zs El vals (dN L ia) (gY V ia v') X':=by
 have hZ:=h.I_ hL;have n1:ic≠ia:=by have:=ho.hc;omega
 have n2:iz≠ia:=by have:=ho.hz;omega
 have n5:iy≠ia:=by have:=ho.hy;omega
 have n3:sx≠ia:=by have:=ho.hs;omega
 have n4:ib≠ia:=by have:=ho.hb;omega
 have hs:Step (fun k=>va.ownBlock=some k) X X':=ji hgrow;obtain⟨g,c,cur,hv',hbg,hcur,-⟩:=vM hown om;have hg:va.ownBlock=some g∨X.heap.size≤g:=by
  rcases hat with h1|h1
  ·left;rw[←h1,hv'];rfl
  ·right;rw[hv']at h1;have:g=X.heap.size:=Option.some.inj h1;omega
 have hX:=h.st.size;refine⟨jk h.iO ia _ (fun u hu=>by rw[kZ]at hu;cases hu),h.st.trans (hs.mono (fun q _ e=>.inr (.inr e))),?_,?_,?_,?_,?_,?_,?_,?_,?_,?_⟩
 ·rw[aA _ n1];exact h.rd.step hs (fun k hk e=>by have:=ho.own k e;have:=ho.rb;have:=ho.bt;omega)
 ·intro h1;rw[aA _ n1]at h1;obtain⟨cs,c1,c2⟩:=h.el h1;refine⟨cs,by rw[bZ _ _ n1];exact c1,?_⟩;rw[mg];have c3:=hE.mono _ _ (fun q=>w0.heap.size≤q∧q<X.heap.size) _ (fun q h1 h2=>⟨h2.1,h1⟩) c2;have c4:=hE.step _ _ _ _ _ hs (fun q hq e=>by have:=ho.own q e;omega) c3;refine hE.mono _ _ _ _ (fun q _ hq=>⟨hq.1,fun _ e=> ?_⟩) c4;rw[hv']at e;have e2:g=q:=Option.some.inj e;rcases hg with h5|h5
  ·have:=ho.own g h5;omega
  ·omega
 ·intro _ h2;rw[jY]at h2;cases h2
 ·intro h2;rw[jY]at h2;cases h2
 ·intro _;refine⟨g,c,by rw[mg];exact hv',?_,zs,by rw[mg];exact hown,ho.zs,fun h1=> ?_⟩
  ·rcases hg with h5|h5
   ·exact .inl h5
   ·exact .inr om
  ·rw[aA _ n3,hZ.2.1]at h1;cases h1
 ·rw[aA _ n2,hZ.1];have h2:=h.blk;rw[hZ.1]at h2;exact hs.keep h2 (fun e=>by have:=ho.own bt e;have:=ho.bt;omega)
 ·intro _ i hi;rw[aA _ om];exact hall i hi
 ·intro _;exact jY _ _
 ·intro _;exact jY _ _
 ·intro h1;rw[aA _ n5,hZ.2.2]at h1;cases h1
theorem jW.put (hE:Af El) (ho:yK R w0 ic ib ia iy sx iz bt base size n va xs zs) (h:jW R j1 j2 d w0 ic ib ia iy sx iz bt rV base e size n va xs zs El vals L V X) (hA:L ia=true) (kZ:∀u,vals[sx]?=some (some u)→undef=u) {g c:Nat} (hV:V ia=.slice (some ⟨g,0,none⟩) (n+1) c) {cs:List Value} (hcs:V ic=.agg cs.toArray) (hcl:cs.length=size) {cur:Array Value} (hcur:X.heap[g]?=some (.cells cur e (0,0))) (hnew:X'.heap[g]?=some (.cells (cur.toList.take (n*size)++(cs++cur.toList.drop (n*size+cs.length))).toArray e (0,0))) (hs:Step (·=g) X X'):jW R j1 j2 d w0 ic ib ia iy sx iz bt rV base e size n va xs zs El vals (dN L sx) (gY V sx undef) X':=by
 have n1:ic≠sx:=by have:=ho.hc;have:=ho.hs;omega
 have n2:iz≠sx:=Ne.symm ho.sz;have n5:iy≠sx:=Ne.symm ho.ys;have n3:ia≠sx:=by have:=ho.hs;omega
 have n4:ib≠sx:=by have:=ho.hb;have:=ho.hs;omega
 obtain⟨g',c',hV',hg,ys,hown,hyl,-⟩:=h.new hA;rw[hV]at hV';cases hV';have hgb:base≤g:=by rw[hV]at hown;exact(hown.lt g rfl).1
 rw[hV]at hown;refine⟨jk h.iO sx _ kZ,h.st.then hs (fun q hq e=> ?_),?_,?_,?_,?_,?_,?_,Hg h.pa sx (Ne.symm n3),?_,?_,?_⟩
 ·subst e;rcases hg with h5|h5
  ·exact .inr (.inr h5)
  ·omega
 ·rw[aA _ n1];exact h.rd.step hs (fun k hk e=>by have:=ho.rb;have:=ho.bt;omega)
 ·intro h1;rw[aA _ n1]at h1;obtain⟨cs2,c1,c2⟩:=h.el h1;refine⟨cs2,by rw[bZ _ _ n1];exact c1,?_⟩;rw[aA _ n3,bZ _ _ n3];refine hE.step _ _ _ _ _ hs (fun q hq e=> ?_) c2;exact hq.2 hA (by rw[hV,e];rfl)
 ·intro _ h2;rw[aA _ n3,hA]at h2;cases h2
 ·intro h2;rw[aA _ n3,hA]at h2;cases h2
 ·intro _;refine⟨g,c,by rw[bZ _ _ n3];exact hV,hg,cs,?_,hcl,fun _=>by rw[bZ _ _ n1];exact hcs⟩;rw[bZ _ _ n3,hV];exact U_ hown ho.xs hcl hcur hnew
 ·rw[aA _ n2,bZ _ _ n3];exact hs.keep h.blk (fun e=>by have:=ho.bt;omega)
 ·intro _;rw[aA _ n3];exact hA
 ·intro _;rw[aA _ n3];exact hA
 ·rw[aA _ n5,aA _ n3,bZ _ _ n3,bZ _ _ n5];exact h.ix
theorem jW.last (hE:Af El) (ho:yK R w0 ic ib ia iy sx iz bt base size n va xs zs) (h:jW R j1 j2 d w0 ic ib ia iy sx iz bt rV base e size n va xs zs El vals L V X) (hA:L ia=true) (kZ:∀u,vals[iz]?=some (some u)→undef=u) (hnew:X'.heap[bt]?=some (rV (V ia))) (hs:Step (·=bt) X X'):jW R j1 j2 d w0 ic ib ia iy sx iz bt rV base e size n va xs zs El vals (dN L iz) (gY V iz undef) X':=by
 have n1:ic≠iz:=by have:=ho.hc;have:=ho.hz;omega
 have n2:sx≠iz:=ho.sz;have n5:iy≠iz:=Ne.symm ho.yz;have n3:ia≠iz:=by have:=ho.hz;omega
 obtain⟨g,c,hV,hg,ys,hown,hyl,hys⟩:=h.new hA;refine⟨jk h.iO iz _ kZ,h.st.trans (hs.mono (fun q _ e=>.inr (.inl e))),?_,?_,?_,?_,?_,?_,Hg h.pa iz (Ne.symm n3),?_,?_,?_⟩
 ·rw[aA _ n1];exact h.rd.step hs (fun k hk e=>by have:=ho.rb;omega)
 ·intro h1;rw[aA _ n1]at h1;obtain⟨cs2,c1,c2⟩:=h.el h1;refine⟨cs2,by rw[bZ _ _ n1];exact c1,?_⟩;rw[aA _ n3,bZ _ _ n3];exact hE.step _ _ _ _ _ hs (fun q hq e=>by have:=ho.bt;have:=ho.bw;omega) c2
 ·intro _ h2;rw[aA _ n3,hA]at h2;cases h2
 ·intro h2;rw[aA _ n3,hA]at h2;cases h2
 ·intro _;refine⟨g,c,by rw[bZ _ _ n3];exact hV,hg,ys,?_,hyl,?_⟩
  ·rw[bZ _ _ n3];exact hs.owns hown (fun q hq e=>by have:=ho.bt;omega)
  ·rw[aA _ n2,bZ _ _ n1];exact hys
 ·rw[jY,if_pos rfl,bZ _ _ n3];exact hnew
 ·intro _;rw[aA _ n3];exact hA
 ·intro _;rw[aA _ n3];exact hA
 ·rw[aA _ n5,aA _ n3,bZ _ _ n3,bZ _ _ n5];exact h.ix
theorem jW.index (ho:yK R w0 ic ib ia iy sx iz bt base size n va xs zs) (h:jW R j1 j2 d w0 ic ib ia iy sx iz bt rV base e size n va xs zs El vals L V X) (hA:L ia=true) (kZ:vals[iy]?=some none) {g c:Nat} (hV:V ia=.slice (some ⟨g,0,none⟩) (n+1) c):jW R j1 j2 d w0 ic ib ia iy sx iz bt rV base e size n va xs zs El vals (dN L iy) (gY V iy (.pointer (some ⟨g,n*size,none⟩))) X:=by
 have n1:ic≠iy:=by have:=ho.hc;have:=ho.hy;omega
 have n2:iz≠iy:=ho.yz;have n3:ia≠iy:=by have:=ho.hy;omega
 have n4:ib≠iy:=by have:=ho.hb;have:=ho.hy;omega
 have n5:sx≠iy:=ho.ys;refine⟨jk h.iO iy _ (fun u hu=>by rw[kZ]at hu;cases hu),h.st,?_,?_,?_,?_,?_,?_,Hg h.pa iy (Ne.symm n3),?_,?_,?_⟩
 ·rw[aA _ n1];exact h.rd
 ·rw[aA _ n1,aA _ n3,bZ _ _ n1,bZ _ _ n3];exact h.el
 ·rw[aA _ n4,aA _ n3,bZ _ _ n4];exact h.bl
 ·rw[aA _ n3];exact h.old
 ·rw[aA _ n3,bZ _ _ n3,aA _ n5,bZ _ _ n1];exact h.new
 ·rw[aA _ n2,bZ _ _ n3];exact h.blk
 ·rw[aA _ n5,aA _ n3];exact h.ps
 ·rw[aA _ n2,aA _ n3];exact h.pz
 ·intro _;refine⟨by rw[aA _ n3];exact hA,fun g2 c2 h2=> ?_⟩;rw[bZ _ _ n3,hV]at h2;cases h2;rw[mg]
theorem jW.done (h:jW R j1 j2 d w0 ic ib ia iy sx iz bt rV base e size n va xs zs El vals L V X) (hall:L ic=true∧L ia=true∧L sx=true∧L iz=true):∃(g c:Nat) (cs:List Value),bD R X j2 d∧X.heap[bt]?=some (rV (.slice (some ⟨g,0,none⟩) (n+1) c))∧X.ownsRow base e size (.slice (some ⟨g,0,none⟩) (n+1) c) (n+1) (xs++cs)∧El X (fun q=>w0.heap.size≤q∧q≠g) cs∧(va.ownBlock=some g∨w0.heap.size≤g)∧Step (fun q=>q=R.rb∨q=bt∨va.ownBlock=some q) w0 X∧base≤g:=by
 obtain⟨h1,h2,h3,h4⟩:=hall;obtain⟨g,c,hV,hg,ys,hown,hyl,hys⟩:=h.new h2;obtain⟨cs,c1,c2⟩:=h.el h1;have e:=hys h3;rw[c1]at e;have e2:cs=ys:=by
  have e3:cs.toArray=ys.toArray:=by injection e
  have:=congrArg Array.toList e3;simpa using this
 subst e2;have hr:=h.rd;have hb:=h.blk;rw[h1,if_pos rfl]at hr;rw[h4,if_pos rfl,hV]at hb;rw[hV]at hown c2;refine⟨g,c,cs,hr,hb,hown,?_,hg,h.st,(hown.lt g rfl).1⟩;have hP:(fun q=>w0.heap.size≤q∧(L ia=true→(Value.slice (some ⟨g,0,none⟩) (n+1) c).ownBlock≠some q))=(fun q=>w0.heap.size≤q∧q≠g):=by
  funext q;apply propext;constructor
  ·rintro⟨a,b⟩;exact⟨a,fun e=>b h2 (by rw[e];rfl)⟩
  ·rintro⟨a,b⟩;exact⟨a,fun _ e=>b (Option.some.inj e).symm⟩
 rw[hP]at c2;exact c2
end
theorem TyEl (a:Ty):Af (fun w P cs=>dJ w P a cs):=⟨fun _ _ _ _ cs hs hP h=>dJ.step hs hP a cs h,fun _ _ _ cs hp h=>dJ.mono hp a cs h⟩
section
variable {P : Program} {md : Region.Mode} {ops : Array Oper} {Q : Exit → Act → World → Prop} {a0 : Act} {n : Nat} {J : (Nat → Bool) → (Nat → Value) → World → Prop}
def DSteps (P:Program) (md:Region.Mode) (ops:Array Oper) (Q:Exit→Act→World→Prop) (a0:Act) (n:Nat) (J:(Nat→Bool)→(Nat→Value)→World→Prop):Nat→List Oper→Prop:=zQ fun i o=>∀(L:Nat→Bool) (V:Nat→Value) (w:World) (a:Act),(∀j k,dZ ops j=some k→L j=true→a.tmps[k]?.getD undef=V j)→(∀k,YG ops (List.range n) k=true→a.tmps[k]?.getD undef=a0.tmps[k]?.getD undef)→a.defers=a0.defers→L i=false→(∀j,(qi md o).contains j=true→L j=true)→J L V w→o.wp P a w (fun a' w'=>∃v,a'=a.put o.dst v∧J (dN L i) (gY V i v) w') Q
theorem bG {id:Nat} {w:World} (hm:P.follows .mixedOrders=true) (J:(Nat→Bool)→(Nat→Value)→World→Prop) (n:Nat) (hn:ops.size=n) (hd:ug ops (List.range n)=true) (hb:Ea .any ops=true) (hr:Eb ops (List.range n) a0.tmps.size=true) (hg:(ops.toList.all fun o=>o.guard.isNone)=true) (h0:J (fun _=>false) (fun _=>undef) w.drew) (hs:DSteps P .any ops Q a0 n J 0 ops.toList) (hdone:∀L V w,(∀i,i<n→L i=true)→J L V w→Q .normal (lX ops V (List.range n) a0) w):(Code.region id ops true).wp P Q a0 w:=
 wB hm J n hn hd hb hr (UG hg) h0 (fun i o ho L V w a h1 h2 h6 h3 h4 h5=>by unfold NK;rw[NM hg ho];exact hs.at ho L V w a h1 h2 h6 h3 h4 h5) hdone
end
end Go.Proofs.YtggjfinekcenpaaGreat
