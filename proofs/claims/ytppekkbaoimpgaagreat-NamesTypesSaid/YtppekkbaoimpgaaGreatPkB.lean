/- LxB, LxW, Rd, Tr, Pa -/
import Derived.Test.YtppekkbaoimpgaaGreatPkA
import Derived.Lib.IndexMore
import Derived.StillTailTactics
import Derived.Deep.DeepCutAuto
import Derived.Deep.CutBlock
set_option maxRecDepth 100000
set_option maxHeartbeats 8000000
namespace Go.Proofs.YtppekkbaoimpgaaGreat
open Go.RowKit
open Vt
theorem contains_cons (b:UInt8) (l sub:List UInt8):Lib.contains (b::l) sub=(sub.isPrefixOf (b::l)||Lib.contains l sub):=by
 unfold Lib.contains;rw[Lib.index];have:=Lib.index_ge l sub;cases h:sub.isPrefixOf (b::l)
 ·by_cases h1:Lib.index l sub= -1
  ·simp[h1]
  ·(have:(Lib.index l sub== -1)=false:=by rw[beq_eq_false_iff_ne];exact h1);simp[this];omega
 ·simp
theorem contains_nil (a:UInt8) (l:List UInt8):Lib.contains [] (a::l)=false:=rfl
def uy (a b:UInt8):Bool:=(a==45&&b==62)||(a==61&&b==61)||(a==38&&b==38)
def yI (a:UInt8):Bool:=[40,41,123,125,60,62,44,59,58,61,38,124,43,45,42,47,33,46].contains a
theorem yJ (a b:UInt8) (ha:a≠32) (hb:b≠32):Lib.contains [45,62,32,61,61,32,38,38,32] [a,b]=uy a b:=by
 have ha':(a==32)=false:=by rw[beq_eq_false_iff_ne];exact ha
 have hb':(b==32)=false:=by rw[beq_eq_false_iff_ne];exact hb
 simp only[contains_cons,contains_nil,List.isPrefixOf,ha',hb',uy,Bool.and_true,Bool.and_false,Bool.false_and,Bool.or_false,Bool.false_or,Bool.or_assoc]
theorem Gj (a:UInt8):Lib.contains [40,41,123,125,60,62,44,59,58,61,38,124,43,45,42,47,33,46] [a]=yI a:=by simp only[contains_cons,contains_nil,List.isPrefixOf,yI,List.contains_cons,List.contains_nil,Bool.and_true]
def pR:List UInt8→Except Nat (Nat×Nat×Nat)
 |a::b::_=>if uy a b then .ok (5,2,0)else if yI a then .ok (5,1,0)else .error 1
 |[a]=>if yI a then .ok (5,1,0)else .error 1
 |[]=>.error 1
theorem fB {w:World} {a:Addr} {v:Value} {n:Nat} (h:w.cell? a=some v):(w.drewN n).cell? a=some v:=h
theorem two_any (u:ByteArray) (v:Bool) (m:Int) (w:World) (hu:Lib.contains [45,62,32,61,61,32,38,38,32] u.data.toList=v) (hm:w.cell? ⟨0,0,none⟩=some (.int .i64 m)):Calls Tryz.prog 192 #[.string ⟨#[45,62,32,61,61,32,38,38,32]⟩,.string u] w fun e w'=>e=.returned (.bool v)∧w=w':=
 (Tryz.strings_Contains _ _ m _ dc hm).mono fun _ _ h=>⟨by rw[h.1];exact iJ hu,h.2.symm⟩
theorem one_any (u:ByteArray) (v:Bool) (m:Int) (w:World) (hu:Lib.contains [40,41,123,125,60,62,44,59,58,61,38,124,43,45,42,47,33,46] u.data.toList=v) (hm:w.cell? ⟨0,0,none⟩=some (.int .i64 m)):Calls Tryz.prog 192 #[.string ⟨#[40,41,123,125,60,62,44,59,58,61,38,124,43,45,42,47,33,46]⟩,.string u] w fun e w'=>e=.returned (.bool v)∧w=w':=
 (Tryz.strings_Contains _ _ m _ dc hm).mono fun _ _ h=>⟨by rw[h.1];exact iJ hu,h.2.symm⟩
theorem extract_extract (s:ByteArray) (p n:Nat) (_h:p+n≤s.size):(s.extract p s.size).extract 0 n=s.extract p (p+n):=by apply BQ;rw[Lib.extract_data,oq,jb];rfl
theorem QC (b:Nat) (s:ByteArray) (p l f:Nat) (w:World) (m:Int) (h:Cut w b s p l f) (hp:p+1<s.size) (hs:s.size≤100000) (hm:w.cell? ⟨0,0,none⟩=some (.int .i64 m)) (c d:UInt8) (rest:List UInt8) (hd:s.data.toList.drop p=c::d::rest) (h2:uy c d=true):
  Calls Tryz.prog 205 #[.pointer (some ⟨b,0,none⟩)] w fun e w'=>
   e=.returned (.tuple #[.agg #[ah 5,aY (s.extract p (p+2)),ah 0,ah 0,bK 0],ah 0])∧Cut w' b s (p+2) l f∧Step (·=b) w w':=by
 obtain⟨c0,c1,c2,c3,f0,f1,f2,f3⟩:=h.cells
 have hlt:b<w.heap.size:=aI h.out
 have hts:(s.extract p s.size).size=s.size-p:=by rw[ByteArray.size_extract];omega
 have htl:=oq s p
 rw[hd]at htl
 have htx:=extract_extract s p 2 om
 generalize ht:s.extract p s.size=t at*
 have h0:0<t.size:=by omega
 have h1:1<t.size:=by omega
 have g0:t[0]=c:=by rw[kW t 0 h0,htl];rfl
 have g1:t[1]=d:=by rw[kW t 1 h1,htl];rfl
 have hcd:c≠32∧d≠32:=by
  unfold uy at h2
  constructor<;>(rintro rfl;revert h2;simp)
 have b0:((t[0].toNat:Int) !=32)=true:=by rw[bne_iff_ne,g0];exact fun e=>hcd.1 (kN 32 e)
 have b1:((t[1].toNat:Int) !=32)=true:=by rw[bne_iff_ne,g1];exact fun e=>hcd.2 (kN 32 e)
 have HC:Hid (Lib.contains [45,62,32,61,61,32,38,38,32] (t.extract 0 2).data.toList=true):=by
  show _=_
  rw[Lib.extract_data,htl]
  exact(yJ c d hcd.1 hcd.2).trans h2
 have HT:=ak ht
 have HX:=ak htx
 clear hd h2 htl g0 g1 hcd ht htx hts
 go_enter Tryz.func205,Tryz.ntmps205
 go_wp2
 go_quiet (fail)
 rw[HT.o]
 go_wp2_with (go_at_call 192;refine(two_any _ true m _ HC.o (fB (dQ hm))).mono ?_;rintro e w' ⟨rfl,rfl⟩)
 rw[HX.o]
 refine bodyPost_ret (v:=.tuple #[.agg #[ah 5,aY (s.extract p (p+2)),ah 0,ah 0,bK 0],ah 0]) (by simp[results,Tryz.results205,go_sem]) rfl ⟨rfl,?_,?_⟩
 ·
  exact(((h.alloc _).drewN _).set1 (q:=p+2) om).five om
 ·
  exact((((Step.refl (·=b) w).alloc _).drewN _).setCell ⟨b,1,none⟩ _ iI).five (Nat.le_refl _)
inductive CW (c:UInt8) (r:List UInt8):Prop where
 |short:r=[]→CW c r
 |Ku:r≠[]→c=32→CW c r
 |Kv (d:UInt8) (r':List UInt8):r=d::r'→c≠32→d=32→CW c r
 |other (d:UInt8) (r':List UInt8):r=d::r'→c≠32→d≠32→uy c d=false→CW c r
theorem IW (v:Bool) (b:Nat) (s:ByteArray) (p l f:Nat) (w:World) (m:Int) (h:Cut w b s p l f) (hp:p<s.size) (hs:s.size≤100000) (hm:w.cell? ⟨0,0,none⟩=some (.int .i64 m)) (c:UInt8) (r:List UInt8) (hd:s.data.toList.drop p=c::r) (h2:CW c r) (h1v:yI c=v):Calls Tryz.prog 205 #[.pointer (some ⟨b,0,none⟩)] w (mP 1 b s p l f w (if v then .ok (5,0)else .error 1)):=by
 obtain⟨c0,c1,c2,c3,f0,f1,f2,f3⟩:=h.cells;have hlt:b<w.heap.size:=aI h.out;have hts:(s.extract p s.size).size=s.size-p:=by rw[ByteArray.size_extract];omega
 have htl:=oq s p;rw[hd]at htl;have htx:=extract_extract s p 1 om;generalize ht:s.extract p s.size=t at*;have h0:0<t.size:=by omega
 have g0:t[0]=c:=by rw[kW t 0 h0,htl];rfl
 have hsz:t.size=r.length+1:=by rw[Lib.size_eq,htl];rfl
 have HC:Hid (Lib.contains [40,41,123,125,60,62,44,59,58,61,38,124,43,45,42,47,33,46] (t.extract 0 1).data.toList=v):=by show _=_;rw[Lib.extract_data,htl];exact(Gj c).trans h1v
 have HT:=ak ht;have HX:=ak htx;have ht100:t.size≤100000:=by omega
 have YL:Hid (t.data.toList=c::r):=htl;clear h1v ht htx hts hd htl;cases h2 with
 |short he=>
  have hn1:¬1<t.size:=by rw[hsz,he];simp
  clear hsz he g0;cases v
  ·show Calls _ _ _ _ (mP 1 b s p l f w (.error 1));go_enter Tryz.func205,Tryz.ntmps205;go_wp2;go_quiet (fail);rw[HT.o];go_wp2_with (go_at_call 192;refine(one_any _ _ m _ HC.o (fB (dQ hm))).mono ?_;rintro e w' ⟨rfl,rfl⟩);refine bodyPost_ret (v:=.tuple #[.agg #[ah 0,bP,ah 0,ah 0,bK 0],ah 1]) (by simp[results,Tryz.results205,go_sem]) rfl ⟨rfl,?_⟩;exact(((Step.refl (·=b) w).alloc _).drewN _).five (Nat.le_refl _)
  ·show Calls _ _ _ _ (mP 1 b s p l f w (.ok (5,0)));go_enter Tryz.func205,Tryz.ntmps205;go_wp2;go_quiet (fail);rw[HT.o];go_wp2_with (go_at_call 192;refine(one_any _ _ m _ HC.o (fB (dQ hm))).mono ?_;rintro e w' ⟨rfl,rfl⟩);rw[HX.o];refine bodyPost_ret (v:=.tuple #[.agg #[ah 5,aY (s.extract p (p+1)),ah 0,ah 0,bK 0],ah 0]) (by simp[results,Tryz.results205,go_sem]) rfl ⟨⟨rfl,?_⟩,?_⟩
   ·exact(((h.alloc _).drewN _).set1 (q:=p+1) om).five om
   ·exact((((Step.refl (·=b) w).alloc _).drewN _).setCell ⟨b,1,none⟩ _ iI).five (Nat.le_refl _)
 |Ku hne hc=>
  have hl1:1<t.size:=by
   rw[hsz];cases r with
   |nil=>exact absurd rfl hne
   |cons _ _=>simp
  have b0:((t[0].toNat:Int) !=32)=false:=by rw[g0,hc];rfl
  clear hsz g0 hc;cases v
  ·show Calls _ _ _ _ (mP 1 b s p l f w (.error 1));go_enter Tryz.func205,Tryz.ntmps205;go_wp2;go_quiet (fail);rw[HT.o];go_wp2_with (go_at_call 192;refine(one_any _ _ m _ HC.o (fB (dQ hm))).mono ?_;rintro e w' ⟨rfl,rfl⟩);refine bodyPost_ret (v:=.tuple #[.agg #[ah 0,bP,ah 0,ah 0,bK 0],ah 1]) (by simp[results,Tryz.results205,go_sem]) rfl ⟨rfl,?_⟩;exact(((Step.refl (·=b) w).alloc _).drewN _).five (Nat.le_refl _)
  ·show Calls _ _ _ _ (mP 1 b s p l f w (.ok (5,0)));go_enter Tryz.func205,Tryz.ntmps205;go_wp2;go_quiet (fail);rw[HT.o];go_wp2_with (go_at_call 192;refine(one_any _ _ m _ HC.o (fB (dQ hm))).mono ?_;rintro e w' ⟨rfl,rfl⟩);rw[HX.o];refine bodyPost_ret (v:=.tuple #[.agg #[ah 5,aY (s.extract p (p+1)),ah 0,ah 0,bK 0],ah 0]) (by simp[results,Tryz.results205,go_sem]) rfl ⟨⟨rfl,?_⟩,?_⟩
   ·exact(((h.alloc _).drewN _).set1 (q:=p+1) om).five om
   ·exact((((Step.refl (·=b) w).alloc _).drewN _).setCell ⟨b,1,none⟩ _ iI).five (Nat.le_refl _)
 |Kv d r' hr hc hd=>
  have hl1:1<t.size:=by rw[hsz,hr];simp
  have g1:t[1]=d:=by rw[kW t 1 hl1,YL.out,hr];rfl
  have b0:((t[0].toNat:Int) !=32)=true:=by rw[bne_iff_ne,g0];exact fun e=>hc (kN 32 e)
  have b1:((t[1].toNat:Int) !=32)=false:=by rw[g1,hd];rfl
  clear hsz g0 g1 hd hr;cases v
  ·show Calls _ _ _ _ (mP 1 b s p l f w (.error 1));go_enter Tryz.func205,Tryz.ntmps205;go_wp2;go_quiet (fail);rw[HT.o];go_wp2_with (go_at_call 192;refine(one_any _ _ m _ HC.o (fB (dQ hm))).mono ?_;rintro e w' ⟨rfl,rfl⟩);refine bodyPost_ret (v:=.tuple #[.agg #[ah 0,bP,ah 0,ah 0,bK 0],ah 1]) (by simp[results,Tryz.results205,go_sem]) rfl ⟨rfl,?_⟩;exact(((Step.refl (·=b) w).alloc _).drewN _).five (Nat.le_refl _)
  ·show Calls _ _ _ _ (mP 1 b s p l f w (.ok (5,0)));go_enter Tryz.func205,Tryz.ntmps205;go_wp2;go_quiet (fail);rw[HT.o];go_wp2_with (go_at_call 192;refine(one_any _ _ m _ HC.o (fB (dQ hm))).mono ?_;rintro e w' ⟨rfl,rfl⟩);rw[HX.o];refine bodyPost_ret (v:=.tuple #[.agg #[ah 5,aY (s.extract p (p+1)),ah 0,ah 0,bK 0],ah 0]) (by simp[results,Tryz.results205,go_sem]) rfl ⟨⟨rfl,?_⟩,?_⟩
   ·exact(((h.alloc _).drewN _).set1 (q:=p+1) om).five om
   ·exact((((Step.refl (·=b) w).alloc _).drewN _).setCell ⟨b,1,none⟩ _ iI).five (Nat.le_refl _)
 |other d r' hr hc hd ho=>
  have hl1:1<t.size:=by rw[hsz,hr];simp
  have g1:t[1]=d:=by rw[kW t 1 hl1,YL.out,hr];rfl
  have b0:((t[0].toNat:Int) !=32)=true:=by rw[bne_iff_ne,g0];exact fun e=>hc (kN 32 e)
  have b1:((t[1].toNat:Int) !=32)=true:=by rw[bne_iff_ne,g1];exact fun e=>hd (kN 32 e)
  have HD:Hid (Lib.contains [45,62,32,61,61,32,38,38,32] (t.extract 0 2).data.toList=false):=by show _=_;rw[Lib.extract_data,YL.out,hr];exact(yJ c d hc hd).trans ho
  clear hsz g0 g1 hr ho;cases v
  ·show Calls _ _ _ _ (mP 1 b s p l f w (.error 1));go_enter Tryz.func205,Tryz.ntmps205;go_wp2;go_quiet (fail);rw[HT.o];go_wp2_with fail;refine(two_any _ _ m _ HD.o (fB (dQ hm))).mono ?_;rintro e w' ⟨rfl,rfl⟩;go_wp2_with fail;refine(one_any _ _ m _ HC.o (fB (dQ hm))).mono ?_;rintro e w' ⟨rfl,rfl⟩;go_wp2;refine bodyPost_ret (v:=.tuple #[.agg #[ah 0,bP,ah 0,ah 0,bK 0],ah 1]) (by simp[results,Tryz.results205,go_sem]) rfl ⟨rfl,?_⟩;exact(((Step.refl (·=b) w).alloc _).drewN _).five (Nat.le_refl _)
  ·show Calls _ _ _ _ (mP 1 b s p l f w (.ok (5,0)));go_enter Tryz.func205,Tryz.ntmps205;go_wp2;go_quiet (fail);rw[HT.o];go_wp2_with fail;refine(two_any _ _ m _ HD.o (fB (dQ hm))).mono ?_;rintro e w' ⟨rfl,rfl⟩;go_wp2_with fail;refine(one_any _ _ m _ HC.o (fB (dQ hm))).mono ?_;rintro e w' ⟨rfl,rfl⟩;go_wp2;rw[HX.o];refine bodyPost_ret (v:=.tuple #[.agg #[ah 5,aY (s.extract p (p+1)),ah 0,ah 0,bK 0],ah 0]) (by simp[results,Tryz.results205,go_sem]) rfl ⟨⟨rfl,?_⟩,?_⟩
   ·exact(((h.alloc _).drewN _).set1 (q:=p+1) om).five om
   ·exact((((Step.refl (·=b) w).alloc _).drewN _).setCell ⟨b,1,none⟩ _ iI).five (Nat.le_refl _)
theorem CX:Gives 205 pR (fun _=>True) where
 ok b s p l f w kind n val m h hp hs hm _ _ he:=by
  cases hd:s.data.toList.drop p with
  |nil=>rw[hd,pR]at he;simp at he
  |cons c r=>
   rw[hd]at he
   by_cases h2:∃d r',r=d::r'∧uy c d=true
   ·
    obtain⟨d,r',rfl,h2⟩:=h2
    rw[pR,if_pos h2]at he
    simp at he
    obtain⟨rfl,rfl,rfl⟩:=he
    have hp1:p+1<s.size:=by
     have:=congrArg List.length hd
     simp at this;omega
    exact QC b s p l f w m h hp1 hs hm c d r' hd h2
   ·
    have hno:CW c r∧(pR (c::r)=if yI c then .ok (5,1,0)else .error 1):=by
      cases r with
      |nil=>exact⟨.short rfl,rfl⟩
      |cons d r'=>
       have h3:uy c d=false:=by
        cases e:uy c d
        ·
         rfl
        ·
         exact absurd ⟨d,r',rfl,e⟩ h2
       refine⟨?_,by rw[pR,h3];rfl⟩
       by_cases hc:c=32
       ·
        exact .Ku (by simp) hc
       ·
        by_cases hd':d=32
        ·
         exact .Kv d r' rfl hc hd'
        ·
         exact .other d r' rfl hc hd' h3
    rw[hno.2]at he
    cases h1:yI c
    ·
     rw[h1]at he;simp at he
    ·
     rw[h1]at he
     simp at he
     obtain⟨rfl,rfl,rfl⟩:=he
     exact(IW true b s p l f w m h hp hs hm c r hd hno.1 h1).mono fun e w' q=>⟨q.1.1,q.1.2,q.2⟩
 bad b s p l f w e0 m h hp hs hm _ _ he:=by
  cases hd:s.data.toList.drop p with
  |nil=>
   have:=congrArg List.length hd
   simp at this;omega
  |cons c r=>
   rw[hd]at he
   by_cases h2:∃d r',r=d::r'∧uy c d=true
   ·
    obtain⟨d,r',rfl,h2⟩:=h2
    rw[pR,if_pos h2]at he
    simp at he
   ·
    have hno:CW c r∧(pR (c::r)=if yI c then .ok (5,1,0)else .error 1):=by
      cases r with
      |nil=>exact⟨.short rfl,rfl⟩
      |cons d r'=>
       have h3:uy c d=false:=by
        cases e:uy c d
        ·
         rfl
        ·
         exact absurd ⟨d,r',rfl,e⟩ h2
       refine⟨?_,by rw[pR,h3];rfl⟩
       by_cases hc:c=32
       ·
        exact .Ku (by simp) hc
       ·
        by_cases hd':d=32
        ·
         exact .Kv d r' rfl hc hd'
        ·
         exact .other d r' rfl hc hd' h3
    rw[hno.2]at he
    cases h1:yI c
    ·
     rw[h1]at he
     simp at he
     subst he
     exact(IW false b s p l f w m h hp hs hm c r hd hno.1 h1).mono fun e w' q=>q
    ·
     rw[h1]at he;simp at he
def ny:List UInt8→Except Nat (Nat×Nat×Nat)
 |[]=>.error 1
 |c::r=>if iQ c.toNat then AU (c::r)else if c=39 then AV (c::r)else if isDigit c.toNat then qQ (c::r)else pR (c::r)
theorem Gl (b:Nat) (s:ByteArray) (p l f:Nat) (w:World) (kind n val:Nat) (m:Int) (h:Cut w b s p l f) (hp:p<s.size) (hs:s.size≤100000) (hm:w.cell? ⟨0,0,none⟩=some (.int .i64 m)) (hb0:b≠0) (hL:iQ (s[p].toNat:Int)=true) (he:AU (s.data.toList.drop p)=.ok (kind,n,val)):Calls Tryz.prog 182 #[.pointer (some ⟨b,0,none⟩)] w fun e w'=>e=.returned (.tuple #[.agg #[ah kind,aY (s.extract p (p+n)),ah 0,ah 0,bK val],ah 0])∧Cut w' b s (p+n) l f∧Step (·=b) w w':=by
 obtain⟨c0,c1,c2,c3,f0,f1,f2,f3⟩:=h.cells;have hlt:b<w.heap.size:=aI h.out;have h_:((s[p].toNat:Int))≤255:=by have:=s[p].toNat_lt;omega
 have hq:=jw (s[p].toNat:Int);rw[hL]at hq;have HQ:=ak hq;have HE:=ak he;clear hq hL he;go_enter Tryz.func182,Tryz.ntmps182;go_wp2;go_quiet (fail);go_wp2_with ((go_at_call 200;refine(HQ.o _ om h_).mono ?_;rintro e w' ⟨rfl,rfl⟩));refine((CP.ok b s p l f _ kind n val m ((h.alloc _).drewN _) hp hs (fB (dQ hm)) hb0 trivial HE.o)).mono ?_;rintro e w1 ⟨rfl,hc1,hst⟩;have hnb:=hst.keep (mY (aA w _)) om;obtain⟨⟨d0,d1,d2,d3,d4⟩,e0,e1,e2,e3,e4⟩:=tH hnb;have hst':Step (·=b) w w1:=(((Step.refl _ w).alloc _).drewN _).trans hst;clear hnb hst;go_wp2;refine bodyPost_ret (v:=.tuple #[.agg #[ah kind,aY (s.extract p (p+n)),ah 0,ah 0,bK val],ah 0]) (by simp[results,Tryz.results182,go_sem,d0,d1,d2,d3,d4]) rfl ⟨rfl,?_,?_⟩
 ·exact hc1.five om
 ·exact hst'.five (Nat.le_refl _)
theorem Et (b:Nat) (s:ByteArray) (p l f:Nat) (w:World) (c:Nat) (m:Int) (h:Cut w b s p l f) (hp:p<s.size) (hs:s.size≤100000) (hm:w.cell? ⟨0,0,none⟩=some (.int .i64 m)) (hb0:b≠0) (hL:iQ (s[p].toNat:Int)=true) (he:AU (s.data.toList.drop p)=.error c):Calls Tryz.prog 182 #[.pointer (some ⟨b,0,none⟩)] w fun e w'=>e=.returned (.tuple #[.agg #[ah 0,bP,ah 0,ah 0,bK 0],ah c])∧Step (·=b) w w':=by
 obtain⟨c0,c1,c2,c3,f0,f1,f2,f3⟩:=h.cells;have hlt:b<w.heap.size:=aI h.out;have h_:((s[p].toNat:Int))≤255:=by have:=s[p].toNat_lt;omega
 have hq:=jw (s[p].toNat:Int);rw[hL]at hq;have HQ:=ak hq;have HE:=ak he;clear hq hL he;go_enter Tryz.func182,Tryz.ntmps182;go_wp2;go_quiet (fail);go_wp2_with ((go_at_call 200;refine(HQ.o _ om h_).mono ?_;rintro e w' ⟨rfl,rfl⟩));refine((CP.bad b s p l f _ c m ((h.alloc _).drewN _) hp hs (fB (dQ hm)) hb0 trivial HE.o)).mono ?_;rintro e w1 ⟨rfl,hst⟩;have hnb:=hst.keep (mY (aA w _)) om;obtain⟨⟨d0,d1,d2,d3,d4⟩,e0,e1,e2,e3,e4⟩:=tH hnb;have hst':Step (·=b) w w1:=(((Step.refl _ w).alloc _).drewN _).trans hst;clear hnb hst;go_wp2;refine bodyPost_ret (v:=.tuple #[.agg #[ah 0,bP,ah 0,ah 0,bK 0],ah c]) (by simp[results,Tryz.results182,go_sem,d0,d1,d2,d3,d4]) rfl ⟨rfl,?_⟩;exact hst'.five (Nat.le_refl _)
theorem Gm (b:Nat) (s:ByteArray) (p l f:Nat) (w:World) (kind n val:Nat) (m:Int) (h:Cut w b s p l f) (hp:p<s.size) (hs:s.size≤100000) (hm:w.cell? ⟨0,0,none⟩=some (.int .i64 m)) (hb0:b≠0) (hL:iQ (s[p].toNat:Int)=false) (hc:s[p]=39) (he:AV (s.data.toList.drop p)=.ok (kind,n,val)):Calls Tryz.prog 182 #[.pointer (some ⟨b,0,none⟩)] w fun e w'=>e=.returned (.tuple #[.agg #[ah kind,aY (s.extract p (p+n)),ah 0,ah 0,bK val],ah 0])∧Cut w' b s (p+n) l f∧Step (·=b) w w':=by
 obtain⟨c0,c1,c2,c3,f0,f1,f2,f3⟩:=h.cells;have hlt:b<w.heap.size:=aI h.out;have h_:((s[p].toNat:Int))≤255:=by have:=s[p].toNat_lt;omega
 have hq:=jw (s[p].toNat:Int);rw[hL]at hq;have HQ:=ak hq;have HE:=ak he;clear hq hL he;have QD:((s[p].toNat:Int)==39)=true:=by rw[hc];rfl
 have hg:(s.data.toList.drop p).headD 0=39:=by rw[drop_cons s p hp];exact hc
 clear hc;go_enter Tryz.func182,Tryz.ntmps182;go_wp2;go_quiet (fail);go_wp2_with ((go_at_call 200;refine(HQ.o _ om h_).mono ?_;rintro e w' ⟨rfl,rfl⟩));refine((CS.ok b s p l f _ kind n val m ((h.alloc _).drewN _) hp hs (fB (dQ hm)) hb0 hg HE.o)).mono ?_;rintro e w1 ⟨rfl,hc1,hst⟩;have hnb:=hst.keep (mY (aA w _)) om;obtain⟨⟨d0,d1,d2,d3,d4⟩,e0,e1,e2,e3,e4⟩:=tH hnb;have hst':Step (·=b) w w1:=(((Step.refl _ w).alloc _).drewN _).trans hst;clear hnb hst;go_wp2;refine bodyPost_ret (v:=.tuple #[.agg #[ah kind,aY (s.extract p (p+n)),ah 0,ah 0,bK val],ah 0]) (by simp[results,Tryz.results182,go_sem,d0,d1,d2,d3,d4]) rfl ⟨rfl,?_,?_⟩
 ·exact hc1.five om
 ·exact hst'.five (Nat.le_refl _)
theorem Eu (b:Nat) (s:ByteArray) (p l f:Nat) (w:World) (c:Nat) (m:Int) (h:Cut w b s p l f) (hp:p<s.size) (hs:s.size≤100000) (hm:w.cell? ⟨0,0,none⟩=some (.int .i64 m)) (hb0:b≠0) (hL:iQ (s[p].toNat:Int)=false) (hc:s[p]=39) (he:AV (s.data.toList.drop p)=.error c):Calls Tryz.prog 182 #[.pointer (some ⟨b,0,none⟩)] w fun e w'=>e=.returned (.tuple #[.agg #[ah 0,bP,ah 0,ah 0,bK 0],ah c])∧Step (·=b) w w':=by
 obtain⟨c0,c1,c2,c3,f0,f1,f2,f3⟩:=h.cells;have hlt:b<w.heap.size:=aI h.out;have h_:((s[p].toNat:Int))≤255:=by have:=s[p].toNat_lt;omega
 have hq:=jw (s[p].toNat:Int);rw[hL]at hq;have HQ:=ak hq;have HE:=ak he;clear hq hL he;have QD:((s[p].toNat:Int)==39)=true:=by rw[hc];rfl
 have hg:(s.data.toList.drop p).headD 0=39:=by rw[drop_cons s p hp];exact hc
 clear hc;go_enter Tryz.func182,Tryz.ntmps182;go_wp2;go_quiet (fail);go_wp2_with ((go_at_call 200;refine(HQ.o _ om h_).mono ?_;rintro e w' ⟨rfl,rfl⟩));refine((CS.bad b s p l f _ c m ((h.alloc _).drewN _) hp hs (fB (dQ hm)) hb0 hg HE.o)).mono ?_;rintro e w1 ⟨rfl,hst⟩;have hnb:=hst.keep (mY (aA w _)) om;obtain⟨⟨d0,d1,d2,d3,d4⟩,e0,e1,e2,e3,e4⟩:=tH hnb;have hst':Step (·=b) w w1:=(((Step.refl _ w).alloc _).drewN _).trans hst;clear hnb hst;go_wp2;refine bodyPost_ret (v:=.tuple #[.agg #[ah 0,bP,ah 0,ah 0,bK 0],ah c]) (by simp[results,Tryz.results182,go_sem,d0,d1,d2,d3,d4]) rfl ⟨rfl,?_⟩;exact hst'.five (Nat.le_refl _)
theorem CY (b:Nat) (s:ByteArray) (p l f:Nat) (w:World) (kind n val:Nat) (m:Int) (h:Cut w b s p l f) (hp:p<s.size) (hs:s.size≤100000) (hm:w.cell? ⟨0,0,none⟩=some (.int .i64 m)) (hb0:b≠0) (hL:iQ (s[p].toNat:Int)=false) (hc:s[p]≠39) (hD:isDigit (s[p].toNat:Int)=true) (he:qQ (s.data.toList.drop p)=.ok (kind,n,val)):Calls Tryz.prog 182 #[.pointer (some ⟨b,0,none⟩)] w fun e w'=>e=.returned (.tuple #[.agg #[ah kind,aY (s.extract p (p+n)),ah 0,ah 0,bK val],ah 0])∧Cut w' b s (p+n) l f∧Step (·=b) w w':=by
 obtain⟨c0,c1,c2,c3,f0,f1,f2,f3⟩:=h.cells;have hlt:b<w.heap.size:=aI h.out;have h_:((s[p].toNat:Int))≤255:=by have:=s[p].toNat_lt;omega
 have hq:=jw (s[p].toNat:Int);rw[hL]at hq;have HQ:=ak hq;have HE:=ak he;clear hq hL he;have QD:((s[p].toNat:Int)==39)=false:=by rw[beq_eq_false_iff_ne];exact fun e=>hc (kN 39 e)
 clear hc;have hq2:=jI (s[p].toNat:Int);rw[hD]at hq2;have YM:=ak hq2;clear hq2 hD;go_enter Tryz.func182,Tryz.ntmps182;go_wp2;go_quiet (fail);go_wp2_with (first|(go_at_call 200;refine(HQ.o _ om h_).mono ?_;rintro e w' ⟨rfl,rfl⟩)|(go_at_call 203;refine(YM.o _ om h_).mono ?_;rintro e w' ⟨rfl,rfl⟩));refine((yH.ok b s p l f _ kind n val m ((h.alloc _).drewN _) hp hs (fB (dQ hm)) hb0 trivial HE.o)).mono ?_;rintro e w1 ⟨rfl,hc1,hst⟩;have hnb:=hst.keep (mY (aA w _)) om;obtain⟨⟨d0,d1,d2,d3,d4⟩,e0,e1,e2,e3,e4⟩:=tH hnb;have hst':Step (·=b) w w1:=(((Step.refl _ w).alloc _).drewN _).trans hst;clear hnb hst;go_wp2;refine bodyPost_ret (v:=.tuple #[.agg #[ah kind,aY (s.extract p (p+n)),ah 0,ah 0,bK val],ah 0]) (by simp[results,Tryz.results182,go_sem,d0,d1,d2,d3,d4]) rfl ⟨rfl,?_,?_⟩
 ·exact hc1.five om
 ·exact hst'.five (Nat.le_refl _)
theorem Bl (b:Nat) (s:ByteArray) (p l f:Nat) (w:World) (c:Nat) (m:Int) (h:Cut w b s p l f) (hp:p<s.size) (hs:s.size≤100000) (hm:w.cell? ⟨0,0,none⟩=some (.int .i64 m)) (hb0:b≠0) (hL:iQ (s[p].toNat:Int)=false) (hc:s[p]≠39) (hD:isDigit (s[p].toNat:Int)=true) (he:qQ (s.data.toList.drop p)=.error c):Calls Tryz.prog 182 #[.pointer (some ⟨b,0,none⟩)] w fun e w'=>e=.returned (.tuple #[.agg #[ah 0,bP,ah 0,ah 0,bK 0],ah c])∧Step (·=b) w w':=by
 obtain⟨c0,c1,c2,c3,f0,f1,f2,f3⟩:=h.cells;have hlt:b<w.heap.size:=aI h.out;have h_:((s[p].toNat:Int))≤255:=by have:=s[p].toNat_lt;omega
 have hq:=jw (s[p].toNat:Int);rw[hL]at hq;have HQ:=ak hq;have HE:=ak he;clear hq hL he;have QD:((s[p].toNat:Int)==39)=false:=by rw[beq_eq_false_iff_ne];exact fun e=>hc (kN 39 e)
 clear hc;have hq2:=jI (s[p].toNat:Int);rw[hD]at hq2;have YM:=ak hq2;clear hq2 hD;go_enter Tryz.func182,Tryz.ntmps182;go_wp2;go_quiet (fail);go_wp2_with (first|(go_at_call 200;refine(HQ.o _ om h_).mono ?_;rintro e w' ⟨rfl,rfl⟩)|(go_at_call 203;refine(YM.o _ om h_).mono ?_;rintro e w' ⟨rfl,rfl⟩));refine((yH.bad b s p l f _ c m ((h.alloc _).drewN _) hp hs (fB (dQ hm)) hb0 trivial HE.o)).mono ?_;rintro e w1 ⟨rfl,hst⟩;have hnb:=hst.keep (mY (aA w _)) om;obtain⟨⟨d0,d1,d2,d3,d4⟩,e0,e1,e2,e3,e4⟩:=tH hnb;have hst':Step (·=b) w w1:=(((Step.refl _ w).alloc _).drewN _).trans hst;clear hnb hst;go_wp2;refine bodyPost_ret (v:=.tuple #[.agg #[ah 0,bP,ah 0,ah 0,bK 0],ah c]) (by simp[results,Tryz.results182,go_sem,d0,d1,d2,d3,d4]) rfl ⟨rfl,?_⟩;exact hst'.five (Nat.le_refl _)
theorem Gp (b:Nat) (s:ByteArray) (p l f:Nat) (w:World) (kind n val:Nat) (m:Int) (h:Cut w b s p l f) (hp:p<s.size) (hs:s.size≤100000) (hm:w.cell? ⟨0,0,none⟩=some (.int .i64 m)) (hb0:b≠0) (hL:iQ (s[p].toNat:Int)=false) (hc:s[p]≠39) (hD:isDigit (s[p].toNat:Int)=false) (he:pR (s.data.toList.drop p)=.ok (kind,n,val)):Calls Tryz.prog 182 #[.pointer (some ⟨b,0,none⟩)] w fun e w'=>e=.returned (.tuple #[.agg #[ah kind,aY (s.extract p (p+n)),ah 0,ah 0,bK val],ah 0])∧Cut w' b s (p+n) l f∧Step (·=b) w w':=by
 obtain⟨c0,c1,c2,c3,f0,f1,f2,f3⟩:=h.cells;have hlt:b<w.heap.size:=aI h.out;have h_:((s[p].toNat:Int))≤255:=by have:=s[p].toNat_lt;omega
 have hq:=jw (s[p].toNat:Int);rw[hL]at hq;have HQ:=ak hq;have HE:=ak he;clear hq hL he;have QD:((s[p].toNat:Int)==39)=false:=by rw[beq_eq_false_iff_ne];exact fun e=>hc (kN 39 e)
 clear hc;have hq2:=jI (s[p].toNat:Int);rw[hD]at hq2;have YM:=ak hq2;clear hq2 hD;go_enter Tryz.func182,Tryz.ntmps182;go_wp2;go_quiet (fail);go_wp2_with (first|(go_at_call 200;refine(HQ.o _ om h_).mono ?_;rintro e w' ⟨rfl,rfl⟩)|(go_at_call 203;refine(YM.o _ om h_).mono ?_;rintro e w' ⟨rfl,rfl⟩));refine((CX.ok b s p l f _ kind n val m ((h.alloc _).drewN _) hp hs (fB (dQ hm)) hb0 trivial HE.o)).mono ?_;rintro e w1 ⟨rfl,hc1,hst⟩;have hnb:=hst.keep (mY (aA w _)) om;obtain⟨⟨d0,d1,d2,d3,d4⟩,e0,e1,e2,e3,e4⟩:=tH hnb;have hst':Step (·=b) w w1:=(((Step.refl _ w).alloc _).drewN _).trans hst;clear hnb hst;go_wp2;refine bodyPost_ret (v:=.tuple #[.agg #[ah kind,aY (s.extract p (p+n)),ah 0,ah 0,bK val],ah 0]) (by simp[results,Tryz.results182,go_sem,d0,d1,d2,d3,d4]) rfl ⟨rfl,?_,?_⟩
 ·exact hc1.five om
 ·exact hst'.five (Nat.le_refl _)
theorem Ew (b:Nat) (s:ByteArray) (p l f:Nat) (w:World) (c:Nat) (m:Int) (h:Cut w b s p l f) (hp:p<s.size) (hs:s.size≤100000) (hm:w.cell? ⟨0,0,none⟩=some (.int .i64 m)) (hb0:b≠0) (hL:iQ (s[p].toNat:Int)=false) (hc:s[p]≠39) (hD:isDigit (s[p].toNat:Int)=false) (he:pR (s.data.toList.drop p)=.error c):Calls Tryz.prog 182 #[.pointer (some ⟨b,0,none⟩)] w fun e w'=>e=.returned (.tuple #[.agg #[ah 0,bP,ah 0,ah 0,bK 0],ah c])∧Step (·=b) w w':=by
 obtain⟨c0,c1,c2,c3,f0,f1,f2,f3⟩:=h.cells;have hlt:b<w.heap.size:=aI h.out;have h_:((s[p].toNat:Int))≤255:=by have:=s[p].toNat_lt;omega
 have hq:=jw (s[p].toNat:Int);rw[hL]at hq;have HQ:=ak hq;have HE:=ak he;clear hq hL he;have QD:((s[p].toNat:Int)==39)=false:=by rw[beq_eq_false_iff_ne];exact fun e=>hc (kN 39 e)
 clear hc;have hq2:=jI (s[p].toNat:Int);rw[hD]at hq2;have YM:=ak hq2;clear hq2 hD;go_enter Tryz.func182,Tryz.ntmps182;go_wp2;go_quiet (fail);go_wp2_with (first|(go_at_call 200;refine(HQ.o _ om h_).mono ?_;rintro e w' ⟨rfl,rfl⟩)|(go_at_call 203;refine(YM.o _ om h_).mono ?_;rintro e w' ⟨rfl,rfl⟩));refine((CX.bad b s p l f _ c m ((h.alloc _).drewN _) hp hs (fB (dQ hm)) hb0 trivial HE.o)).mono ?_;rintro e w1 ⟨rfl,hst⟩;have hnb:=hst.keep (mY (aA w _)) om;obtain⟨⟨d0,d1,d2,d3,d4⟩,e0,e1,e2,e3,e4⟩:=tH hnb;have hst':Step (·=b) w w1:=(((Step.refl _ w).alloc _).drewN _).trans hst;clear hnb hst;go_wp2;refine bodyPost_ret (v:=.tuple #[.agg #[ah 0,bP,ah 0,ah 0,bK 0],ah c]) (by simp[results,Tryz.results182,go_sem,d0,d1,d2,d3,d4]) rfl ⟨rfl,?_⟩;exact hst'.five (Nat.le_refl _)
theorem CZ:Gives 182 ny (fun _=>True) where
 ok b s p l f w kind n val m h hp hs hm hb0 _ he:=by
  have hd:=drop_cons s p hp
  cases hL:iQ (s[p].toNat:Int)
  ·
   by_cases hc:s[p]=39
   ·
    exact Gm b s p l f w kind n val m h hp hs hm hb0 hL hc (by rw[hd]at he⊢;rw[ny,hL,if_neg (by simp),if_pos hc]at he;exact he)
   ·
    cases hD:isDigit (s[p].toNat:Int)
    ·
     exact Gp b s p l f w kind n val m h hp hs hm hb0 hL hc hD (by rw[hd]at he⊢;simpa only[ny,hL,hc,hD,if_true,if_false,Bool.false_eq_true]using he)
    ·
     exact CY b s p l f w kind n val m h hp hs hm hb0 hL hc hD (by rw[hd]at he⊢;simpa only[ny,hL,hc,hD,if_true,if_false,Bool.false_eq_true]using he)
  ·
   exact Gl b s p l f w kind n val m h hp hs hm hb0 hL (by rw[hd]at he⊢;simpa only[ny,hL,if_true]using he)
 bad b s p l f w c m h hp hs hm hb0 _ he:=by
  have hd:=drop_cons s p hp
  cases hL:iQ (s[p].toNat:Int)
  ·
   by_cases hc:s[p]=39
   ·
    exact Eu b s p l f w c m h hp hs hm hb0 hL hc (by rw[hd]at he⊢;rw[ny,hL,if_neg (by simp),if_pos hc]at he;exact he)
   ·
    cases hD:isDigit (s[p].toNat:Int)
    ·
     exact Ew b s p l f w c m h hp hs hm hb0 hL hc hD (by rw[hd]at he⊢;simpa only[ny,hL,hc,hD,if_true,if_false,Bool.false_eq_true]using he)
    ·
     exact Bl b s p l f w c m h hp hs hm hb0 hL hc hD (by rw[hd]at he⊢;simpa only[ny,hL,hc,hD,if_true,if_false,Bool.false_eq_true]using he)
  ·
   exact Et b s p l f w c m h hp hs hm hb0 hL (by rw[hd]at he⊢;simpa only[ny,hL,if_true]using he)
structure Tok where
 kind:Nat
 text:List UInt8
 line:Nat
 col:Nat
 val:Nat
def Tok.cells (t:Tok):List Value:=[.int .i64 t.kind,.string ⟨t.text.toArray⟩,.int .i64 t.line,.int .i64 t.col,.int .u64 t.val]
def uS (l:List Tok):List Value:=l.flatMap Tok.cells
theorem C9 (l:List Tok) (t:Tok):uS (l++[t])=uS l++t.cells:=by simp[uS]
def zO:Nat→List UInt8→Nat→Nat→Nat→List Tok→Except (Nat×Nat×Nat) (List Tok)
 |0,_,_,_,_,_=>.error (0,0,0)
 |k+1,r,p,l,f,acc=>
  let q:=gB false r p l f
  let r':=r.drop (q.1-p)
  let col:=q.1-q.2.2+1
  if r'=[]then .ok (acc++[⟨0,[],q.2.1,col,0⟩])
  else if acc.length=8000 then .error (2,q.2.1,col)
  else match ny r' with
   | .error c=>.error (c,q.2.1,col)
   | .ok (kind,n,val)=>zO k (r'.drop n) (q.1+n) q.2.1 q.2.2 (acc++[⟨kind,r'.take n,q.2.1,col,val⟩])
def qI (s:List UInt8):Except (Nat×Nat×Nat) (List Tok):=
 if 20000<s.length then .error (2,0,0)else zO (s.length+1) s 0 1 0 []
theorem C_:∀(r:List UInt8) (b:Bool) (p l f p' l' f':Nat),(p',l',f')=gB b r p l f→f≤p→p≤p'∧p'≤p+r.length∧f'≤p'∧l≤l'∧l'-l≤p'-p:=by
 intro r;induction r with
 |nil=>intro b p l f p' l' f' h hf;simp[gB]at h;obtain⟨rfl,rfl,rfl⟩:=h;simp;omega
 |cons c r ih=>
  intro b p l f p' l' f' h hf;have hl:(c::r).length=r.length+1:=rfl;cases b
  ·rw[gB]at h;split at h
   ·have:=ih _ _ _ _ _ _ _ h (Nat.le_refl _);omega
   ·split at h
    ·have:=ih _ _ _ _ _ _ _ h om;omega
    ·split at h
     ·have:=ih _ _ _ _ _ _ _ h om;omega
     ·simp at h;obtain⟨rfl,rfl,rfl⟩:=h;omega
  ·rw[gB]at h;split at h
   ·have:=ih _ _ _ _ _ _ _ h (Nat.le_refl _);omega
   ·have:=ih _ _ _ _ _ _ _ h om;omega
theorem IX {c:UInt8} {r:List UInt8} (h:kM c.toNat=true):1≤jJ (c::r):=by rw[CJ h];omega
theorem QE {c0:UInt8}:∀(l:List UInt8) (i v e:Nat),rD c0 l i v=.error e→e≠0:=by
 intro l;induction l with
 |nil=>intro i v e h;simp[rD]at h
 |cons c r ih=>
  intro i v e h;rw[rD]at h;split at h
  ·simp at h;omega
  ·split at h
   ·simp at h;omega
   ·exact ih _ _ _ h
theorem zQ {r:List UInt8} {kind n val:Nat} (h:ny r=.ok (kind,n,val)):1≤n∧n≤r.length∧kind≠0:=by
 cases r with
 |nil=>simp[ny]at h
 |cons c r=>
  have hle:=mO (c::r);have hle':=mO r;rw[ny]at h;split at h
  ·rename_i hL;have:=IX (r:=r) (show kM c.toNat=true by simp[kM,hL]);unfold AU at h;split at h
   ·simp at h
   ·simp at h;omega
  ·split at h
   ·rw[AV]at h;split at h
    ·simp at h
    ·split at h
     ·simp at h
     ·simp at h;simp;omega
   ·split at h
    ·rename_i hD;have:=IX (r:=r) (show kM c.toNat=true by simp[kM,hD]);(have hl:((c::r).take (jJ (c::r))).length=jJ (c::r):=by rw[List.length_take];omega);unfold qQ QA at h;rw[hl]at h;split at h
     ·split at h
      ·simp at h;omega
      ·simp at h
     ·split at h
      ·simp at h;omega
      ·simp at h
    ·cases r with
     |nil=>rw[pR]at h;split at h<;>simp at h;simp;omega
     |cons d r=>
      rw[pR]at h;split at h
      ·simp at h;simp;omega
      ·split at h
       ·simp at h;simp;omega
       ·simp at h
theorem Fv {r:List UInt8} {e:Nat} (h:ny r=.error e):e≠0:=by
 cases r with
 |nil=>simp[ny]at h;omega
 |cons c r=>
  rw[ny]at h;split at h
  ·unfold AU at h;split at h
   ·simp at h;omega
   ·simp at h
  ·split at h
   ·rw[AV]at h;split at h
    ·simp at h;omega
    ·split at h
     ·simp at h;omega
     ·simp at h
   ·split at h
    ·unfold qQ QA at h;split at h
     ·split at h
      ·simp at h
      ·simp at h;omega
     ·split at h
      ·simp at h
      ·rename_i hI;simp at h;subst h;exact QE _ _ _ _ hI
    ·cases r with
     |nil=>rw[pR]at h;split at h<;>simp at h;omega
     |cons d r=>
      rw[pR]at h;split at h
      ·simp at h
      ·split at h
       ·simp at h
       ·simp at h;omega
theorem Tryz.Vh:(Tryz.prog.info? 157).map (fun i=>(i.zero,i.size,i.bytes))=some (some (.agg #[ah 0,bP,ah 0,ah 0,bK 0]),5,48):=by kernel_rfl
def Gq (B:Nat) (w:World) (r:Except (Nat×Nat×Nat) (List Tok)) (e:Ending) (w':World):Prop:=
 (match r with
  | .ok l=>∃v,e=.returned (.tuple #[v,.agg #[ah 0,ah 0,ah 0]])∧w'.ownsRow B 157 5 v l.length (uS l)
  | .error (c,ln,col)=>e=.returned (.tuple #[au,.agg #[ah c,ah ln,ah col]]))∧Step (fun _=>False) w w'
theorem Kw {w:World} {base:Nat} {e:TypeId} {size:Nat} {v:Value} {n r:Nat} {xs:List Value} {v0 v1 v2:Value} (h:w.ownsRow base e size v n xs) (hr:r<base):(((w.setCell ⟨r,0,none⟩ v0).setCell ⟨r,1,none⟩ v1).setCell ⟨r,2,none⟩ v2).ownsRow base e size v n xs:=
 ownsRow_setCell_below (ownsRow_setCell_below (ownsRow_setCell_below h hr _) hr _) hr _
theorem Step.three {S:Nat→Prop} {a w:World} {r:Nat} {v0 v1 v2:Value} (h:Step S a w) (hr:a.heap.size≤r):Step S a (((w.setCell ⟨r,0,none⟩ v0).setCell ⟨r,1,none⟩ v1).setCell ⟨r,2,none⟩ v2):=by have hq:∀i,(⟨r,i,none⟩:Addr).block<a.heap.size→S r:=fun i h=>absurd h (Nat.not_lt.2 hr);exact((h.setCell _ _ (hq 0)).setCell _ _ (hq 1)).setCell _ _ (hq 2)
theorem Oi (s:ByteArray) (p n:Nat):s.extract p (p+n)=⟨((s.data.toList.drop p).take n).toArray⟩:=BQ (by rw[jb])
theorem Vj (s:ByteArray) (w:World) (m:Int) (hm:w.cell? ⟨0,0,none⟩=some (.int .i64 m)) (hs:s.size≤20000):Calls Tryz.prog 136 #[.string s] w (Gq w.heap.size w (qI s.data.toList)):=by
 have hw0:0<w.heap.size:=World.block_lt_of_cell? w _ hm;have HR:Hid (zO (s.data.toList.length+1) s.data.toList 0 1 0 []=qI s.data.toList):=by show _=_;rw[qI,if_neg (by rw[←Lib.size_eq];omega)]
 generalize hRes:qI s.data.toList=dO at*;clear hRes;obtain⟨i0,hi0,hz00,hz10,hz20⟩:=info_parts Tryz.Vh;have hi:=ak hi0;have hz0:=ak hz00;have hz1:=ak hz10;have hz2:=ak hz20;clear hi0 hz00 hz10 hz20;have hsl:Hid (s.data.toList.length=s.size):=(Lib.size_eq s).symm;go_enter Tryz.func136,Tryz.ntmps136;go_wp2_with fail;rw[hsl.out]at HR
 go_loopg [5] (s.size+1) (fun g v wr=>∃(p l f:Nat) (toks:List Tok),f≤p∧p≤s.size∧l≤p+1∧toks.length≤8000∧s.size-p<g∧zO g (s.data.toList.drop p) p l f toks=dO∧
  Cut wr (w.heap.size+1) s p l f∧wr.heap[w.heap.size]?=some (.cells #[ah 0,ah 0,ah 0] 27 (0,0))∧wr.ownsRow (w.heap.size+2) 157 5 v toks.length (uS toks)∧
  Step (fun _=>False) w wr∧w.heap.size+2≤wr.heap.size)
 case atStart=>
  refine⟨0,1,0,[],Nat.le_refl _,Nat.zero_le _,by omega,by simp,by omega,HR.o,⟨?_⟩,?_,World.ownsRow_nil _ _ _ _,((Step.refl _ w).alloc _).alloc _,by simp⟩
  ·have:=aA (w.alloc (.cells #[ah 0,ah 0,ah 0] 27)) (.cells #[aY s,ah 0,ah 1,ah 0] 247);simpa using this
  ·exact aN (aA w _)
 case round=>
  obtain⟨p,l,f,toks,hf,hp,hl,htk,hg,heq,hc,hE,hown,hst,hsz⟩:=hrel;obtain⟨k,rfl⟩:∃k,gk=k+1:=⟨gk-1,by omega⟩;obtain⟨oa,oc,rfl⟩:=a_ hown;have HE:=ak heq;have HOW:=ak hown;clear heq hown;go_wp2_with fail;refine(Ob (w.heap.size+1) s p l f wr hc hf hp om hl).mono ?_;rintro e w1 ⟨rfl,p',l',f',hbl,hc1,hst1⟩;have hinv:=C_ _ _ _ _ _ _ _ _ hbl hf;rw[List.length_drop,hsl.out]at hinv;obtain⟨i1,i2,i3,i4,i5⟩:=hinv;have hp':p'≤s.size:=by omega
  have hl':l'≤p'+1:=by omega
  have HB:=ak hbl;clear hbl;go_wp2_with fail;refine(Va (w.heap.size+1) s p' l' f' w1 hc1 i3 om).mono ?_;rintro e w2 ⟨rfl,hst2⟩;have hc2:=hc1.step hst2 (fun h=>h);obtain⟨c0,c1,c2,c3,f0,f1,f2,f3⟩:=hc2.cells;have hlt:w.heap.size+1<w2.heap.size:=aI hc2.out;have hltE:w.heap.size<w2.heap.size:=by omega
  have hst12:Step (·=w.heap.size+1) wr w2:=hst1.then hst2 fe;have uT:Step (fun _=>False) w w2:=⟨hst12.os.trans hst.os,hst12.tape.trans hst.tape,hst12.output.trans hst.output,Nat.le_trans hst.size hst12.size,fun i hi hn=>(hst12.block i om om).trans (hst.block i hi hn)⟩;have YN:Hid (w2.ownsRow (w.heap.size+2) 157 5 (.slice oa toks.length oc) toks.length (uS toks)):=hst12.owns HOW.o (fun k hk=>by omega);obtain⟨⟨g0,g1,g2⟩,k0,k1,k2⟩:=wE (hst12.keep hE om);have Vk:Hid (((p':Int)-f'+1)=((p'-f'+1:Nat):Int)):=show _=_ by omega
  have HA:Hid (zO (k+1) (s.data.toList.drop p) p l f toks=
    if s.data.toList.drop p'=[]then .ok (toks++[⟨0,[],l',p'-f'+1,0⟩])
    else if toks.length=8000 then .error (2,l',p'-f'+1)
    else match ny (s.data.toList.drop p')with
     | .error c=>.error (c,l',p'-f'+1)
     | .ok (kind,n,val)=>zO k ((s.data.toList.drop p').drop n) (p'+n) l' f' (toks++[⟨kind,(s.data.toList.drop p').take n,l',p'-f'+1,val⟩])):=by
   show _=_
   rw[zO]
   simp only[←HB.o,List.drop_drop]
   rw[show p+(p'-p)=p' by omega]
  by_cases hend:p'=s.size
  ·(have hr0:Hid (dO=.ok (toks++[⟨0,[],l',p'-f'+1,0⟩])):=by show _=_;rw[←HE.o,HA.o,if_pos (List.drop_of_length_le (by rw[hsl.out];omega))]);(have hb1:((p':Int)==s.size)=true:=by rw[beq_iff_eq];omega);clear hend;go_wp2_with (at_builtin;refine wpList_append_own _ rfl _ _ 203 rfl (w.heap.size+2) 157 i0 (.agg #[ah 0,bP,ah 0,ah 0,bK 0]) 5 48 Tryz.underlying203 hi.out hz0.out hz1.out hz2.out rfl dc _ _ _ rfl ((YN.o.alloc _).alloc _) ⟨w2.heap.size+1,0,none⟩ 1 1 [.int .i64 0,.string ⟨#[]⟩,.int .i64 l',.int .i64 ((p':Int)-f'+1),.int .u64 0] rfl rfl ?c1 ?c2 ?c3 ?c4 ?c5 ?_);case c1=>exact tq (cs:=[_,_,_,_,_]) (dX _ _ _)
   (case c2=>intro u hu;simp at hu;rcases hu with rfl|rfl|rfl|rfl|rfl<;>rfl);case c3=>unfold maxLen;omega
   (case c4=>omega);case c5=>simp;omega
   intro v' w3 hown3 hgrow _;have hrow:=Fg YN.o;obtain⟨⟨g0',g1',g2'⟩,k0',k1',k2'⟩:=wE (xA hgrow (aN (aN (hst12.keep hE om))) (fun k hk=>by have:=hrow k hk;omega));have hst3:Step (fun _=>False) w w3:=((uT.alloc _).alloc _).grown hgrow (fun k hk hlt=>by have:=hrow k hk;omega);have H3:=ak hown3;clear hown3 hgrow hrow;go_wp2;refine bodyPost_ret (v:=.tuple #[v',.agg #[ah 0,ah 0,ah 0]]) (by simp[results,Tryz.results136,go_sem,g0',g1',g2']) rfl ?_;rw[hr0.out];refine⟨⟨v',rfl,?_⟩,?_⟩
   ·have:=Kw (r:=w.heap.size) (v0:=.int .i64 0) (v1:=.int .i64 0) (v2:=.int .i64 0) H3.o om;rw[C9,List.length_append];rw[Vk.o]at this;exact rP this om
   ·exact hst3.three (Nat.le_refl _)
  ·(have hb1:((p':Int)==s.size)=false:=by rw[beq_eq_false_iff_ne];omega);(have hp1:p'<s.size:=by omega);(have hne:Hid (s.data.toList.drop p'≠[]):=fun e=>by have:=congrArg List.length e;rw[List.length_drop,hsl.out]at this;simp at this;omega);by_cases h8:toks.length=8000
   ·(have hr0:Hid (dO=.error (2,l',p'-f'+1)):=by show _=_;rw[←HE.o,HA.o,if_neg hne.out,if_pos h8]);(have hb2:((toks.length:Int)==8000)=true:=by rw[h8];rfl);clear h8;obtain⟨⟨q0,q1⟩,r0,r1⟩:=N8 (a0:=.int .i64 l') (a1:=.int .i64 ((p':Int)-f'+1)) (aA w2 (.cells #[ah l',ah ((p':Int)-f'+1)] 25));go_wp2;go_region;go_wp2;refine bodyPost_ret (v:=.tuple #[au,.agg #[ah 2,ah l',ah ((p':Int)-f'+1)]]) (by simp[results,Tryz.results136,go_sem,g0,g1,g2,hltE]) rfl ?_;rw[hr0.out];refine⟨by rw[Vk.o];rfl,?_⟩;exact((uT.three (Nat.le_refl _)).alloc _).drew
   ·(have hb2:((toks.length:Int)==8000)=false:=by rw[beq_eq_false_iff_ne];omega);have hm2:w2.cell? ⟨0,0,none⟩=some (.int .i64 m):=uT.cell hm (fun h=>h);have hE2:=hst12.keep hE om;have hE2':Hid (w2.heap[w.heap.size]?=_):=hE2;clear hE2;cases hn:ny (s.data.toList.drop p')with
    |error c=>(have hr0:Hid (dO=.error (c,l',p'-f'+1)):=by show _=_;rw[←HE.o,HA.o,if_neg hne.out,if_neg h8,hn]);(have hc0:((c:Int) !=0)=true:=by rw[bne_iff_ne];have:=Fv hn;omega);have HN:=ak hn;clear hn h8;go_wp2_with fail;refine(CZ.bad _ s p' l' f' _ c m (hc2.alloc _) hp1 om (dQ hm2) om trivial HN.o).mono ?_;rintro e w3 ⟨rfl,hst3⟩;obtain⟨⟨q0,q1⟩,r0,r1⟩:=N8 (hst3.keep (aA w2 _) om);obtain⟨⟨g0',g1',g2'⟩,k0',k1',k2'⟩:=wE (hst3.keep (aN hE2'.out) om);have hz3:=hst3.size;simp at hz3;(have hlt3:w2.heap.size<w3.heap.size:=by omega);(have Xv:w.heap.size<w3.heap.size:=by omega);go_wp2;go_region;go_wp2;refine bodyPost_ret (v:=.tuple #[au,.agg #[ah c,ah l',ah ((p':Int)-f'+1)]]) (by simp[results,Tryz.results136,go_sem,g0',g1',g2',Xv]) rfl ?_;rw[hr0.out];refine⟨by rw[Vk.o],?_⟩;have hw3:Step (fun _=>False) w w3:=⟨hst3.os.trans uT.os,hst3.tape.trans uT.tape,hst3.output.trans uT.output,by have:=uT.size;omega,fun i hi hn=>(hst3.block i (by simp;have:=uT.size;omega) om).trans ((Below.heap_alloc w2 _ i (by have:=uT.size;omega)).trans (uT.block i hi hn))⟩;exact((hw3.three (Nat.le_refl _)).alloc _).drew
    |ok x=>
     obtain⟨kind,n,val⟩:=x;(have hr0:Hid (zO k ((s.data.toList.drop p').drop n) (p'+n) l' f' (toks++[⟨kind,(s.data.toList.drop p').take n,l',p'-f'+1,val⟩])=dO):=by show _=_;rw[←HE.o,HA.o,if_neg hne.out,if_neg h8,hn]);obtain⟨hn1,hn2,_⟩:=zQ hn;rw[List.length_drop,hsl.out]at hn2;have HN:=ak hn;clear hn;go_wp2_with fail;refine(CZ.ok _ s p' l' f' _ kind n val m (hc2.alloc _) hp1 om (dQ hm2) om trivial HN.o).mono ?_;rintro e w3 ⟨rfl,hc3,hst3⟩;obtain⟨⟨q0,q1⟩,r0,r1⟩:=N8 (hst3.keep (aA w2 _) om);have kU:Hid (w3.heap[w.heap.size]?=some (.cells #[ah 0,ah 0,ah 0] 27 (0,0))):=hst3.keep (aN hE2'.out) om;have hz3:=hst3.size;simp at hz3;(have hlt3:w2.heap.size<w3.heap.size:=by omega);(have Xv:w.heap.size<w3.heap.size:=by omega);have HOW3:Hid (w3.ownsRow (w.heap.size+2) 157 5 (.slice oa toks.length oc) toks.length (uS toks)):=hst3.owns (YN.o.alloc _) (fun k hk=>by omega);have hw3:Step (fun _=>False) w w3:=⟨hst3.os.trans uT.os,hst3.tape.trans uT.tape,hst3.output.trans uT.output,by have:=uT.size;omega,fun i hi hn=>(hst3.block i (by simp;have:=uT.size;omega) om).trans ((Below.heap_alloc w2 _ i (by have:=uT.size;omega)).trans (uT.block i hi hn))⟩;clear c0 c1 c2 c3 f0 f1 f2 f3 g0 g1 g2 k0 k1 k2;go_wp2_with (at_builtin;refine wpList_append_own _ rfl _ _ 203 rfl (w.heap.size+2) 157 i0 (.agg #[ah 0,bP,ah 0,ah 0,bK 0]) 5 48 Tryz.underlying203 hi.out hz0.out hz1.out hz2.out rfl dc _ _ _ rfl ((HOW3.o.alloc _).alloc _) ⟨w3.heap.size+1,0,none⟩ 1 1 [.int .i64 kind,.string (s.extract p' (p'+n)),.int .i64 l',.int .i64 ((p':Int)-f'+1),.int .u64 val] rfl rfl ?c1 ?c2 ?c3 ?c4 ?c5 ?_);case c1=>exact tq (cs:=[_,_,_,_,_]) (dX _ _ _)
     (case c2=>intro u hu;simp at hu;rcases hu with rfl|rfl|rfl|rfl|rfl<;>rfl);case c3=>unfold maxLen;omega
     (case c4=>omega);case c5=>simp;omega
     intro v' w4 hown4 hgrow _;have hrow:=Fg HOW3.o;have H4:=ak hown4;have HG:=ak hgrow;have HRW:=ak hrow;clear hown4 hgrow hrow;go_wp2;go_roundg k;case rel=>
      have hn3:∀(o1 o2:Obj) (b:Nat) (o:Obj),b<w.heap.size+2→w3.heap[b]?=some o→w4.heap[b]?=some o:=fun o1 o2 b o hb h=>
       xA HG.o (aN (aN h)) (fun k hk=>by have:=HRW.o k hk;omega)
      refine⟨p'+n,l',f',toks++[⟨kind,(s.data.toList.drop p').take n,l',p'-f'+1,val⟩],by omega,by omega,by omega,by simp;omega,by omega,?_,⟨hn3 default default _ _ om hc3.out⟩,hn3 default default _ _ om kU.o,?_,?_,?_⟩
      ·rw[←hr0.out,List.drop_drop]
      ·have:=H4.o;rw[C9,List.length_append];rw[Vk.o,Oi]at this;exact this
      ·exact((hw3.alloc _).alloc _).grown HG.o (fun k hk hlt=>by have:=HRW.o k hk;omega)
      ·have:=HG.o.size;simp at this;omega
     case measure=>omega
theorem QF (s:ByteArray) (w:World) (hs:20000<s.size):Calls Tryz.prog 136 #[.string s] w (Gq w.heap.size w (qI s.data.toList)):=by
 have HR:Hid (qI s.data.toList=.error (2,0,0)):=by show _=_;rw[qI,if_pos (by rw[←Lib.size_eq];omega)]
 generalize qI s.data.toList=dO at*;go_enter Tryz.func136,Tryz.ntmps136;go_wp2;refine bodyPost_ret (v:=.tuple #[au,.agg #[ah 2,ah 0,ah 0]]) (by simp[results,Tryz.results136,go_sem]) rfl ?_;rw[HR.o];refine⟨rfl,?_⟩;exact(Step.refl _ w).alloc _
def Dc:List (List UInt8):=[[115,116,114,117,99,116],[116,114,97,105,116],[105,109,112,108],[102,111,114],[102,110],[119,104,101,114,101],[108,101,116],[105,102],[101,108,115,101],[119,104,105,108,101],[114,101,116,117,114,110],[97,98,111,114,116],[116,114,117,101],[102,97,108,115,101],[109,117,116],[100,121,110],[105,110,116],[98,111,111,108],[102,54,52],[115,101,108,102],[66,111,120],[117,110,98,111,120],[99,104,111,111,115,101],[110,101,119],[97,115]]
def wU (s:List UInt8):Bool:=Dc.contains s
def xG:List (List UInt8)→List UInt8
 |[]=>[32]
 |w::ws=>32::(w++xG ws)
theorem contains_one (l:List UInt8) (a:UInt8):Lib.contains l [a]=l.contains a:=by
 induction l with
 |nil=>rfl
 |cons b l ih=>rw[contains_cons,ih,List.contains_cons];show((a==b&&true)||_)=_;rw[Bool.and_true]
theorem Ey (w l s:List UInt8) (h:32∉w):Lib.contains (w++l) (32::s)=Lib.contains l (32::s):=by
 induction w with
 |nil=>rfl
 |cons b w ih=>
  have hb:((32:UInt8)==b)=false:=by rw[beq_eq_false_iff_ne];exact fun e=>h (e▸List.mem_cons_self)
  rw[List.cons_append,contains_cons,ih (fun e=>h (List.mem_cons_of_mem _ e))];show(((32:UInt8)==b&&_)||_)=_;rw[hb];rfl
theorem IY (ws:List (List UInt8)):∃t,xG ws=32::t:=by
 cases ws with
 |nil=>exact⟨_,rfl⟩
 |cons w ws=>exact⟨_,rfl⟩
theorem Gs:∀(s w t:List UInt8),32∉s→32∉w→(s++[32]).isPrefixOf (w++32::t)=(s==w):=by
 intro s;induction s with
 |nil=>
  intro w t _ hw;cases w with
  |nil=>simp[List.isPrefixOf]
  |cons b w=>(have hb:((32:UInt8)==b)=false:=by rw[beq_eq_false_iff_ne];exact fun e=>hw (e▸List.mem_cons_self));show((32:UInt8)==b&&_)=false;rw[hb];rfl
 |cons a s ih=>
  intro w t hs hw;cases w with
  |nil=>(have ha:(a==(32:UInt8))=false:=by rw[beq_eq_false_iff_ne];exact fun e=>hs (e▸List.mem_cons_self));show(a==(32:UInt8)&&_)=false;rw[ha];rfl
  |cons b w=>show(a==b&&(s++[32]).isPrefixOf (w++32::t))=(a==b&&s==w);rw[ih w t (fun e=>hs (List.mem_cons_of_mem _ e)) (fun e=>hw (List.mem_cons_of_mem _ e))]
theorem Ez (s:List UInt8) (hs:s≠[]) (h32:32∉s):∀ws:List (List UInt8),(∀w∈ws,32∉w)→Lib.contains (xG ws) (32::(s++[32]))=ws.contains s:=by
 intro ws;induction ws with
 |nil=>
  intro _;cases s with
  |nil=>exact absurd rfl hs
  |cons a s=>rw[xG,contains_cons,contains_nil];rfl
 |cons w ws ih=>intro hw;obtain⟨t,ht⟩:=IY ws;have hw1:=hw w List.mem_cons_self;rw[xG,contains_cons,Ey w _ _ hw1,ih (fun x hx=>hw x (List.mem_cons_of_mem _ hx)),List.contains_cons];show((32:UInt8)==32&&(s++[32]).isPrefixOf (w++xG ws)||_)=_;rw[ht,Gs s w t h32 hw1];rfl
def QG:List UInt8:=[32,115,116,114,117,99,116,32,116,114,97,105,116,32,105,109,112,108,32,102,111,114,32,102,110,32,119,104,101,114,101,32,108,101,116,32,105,102,32,101,108,115,101,32,119,104,105,108,101,32,114,101,116,117,114,110,32,97,98,111,114,116,32,116,114,117,101,32,102,97,108,115,101,32,109,117,116,32,100,121,110,32,105,110,116,32,98,111,111,108,32,102,54,52,32,115,101,108,102,32,66,111,120,32,117,110,98,111,120,32,99,104,111,111,115,101,32,110,101,119,32,97,115,32]
theorem IZ:QG=xG Dc:=by decide
theorem I4 (s:List UInt8) (hs:s≠[]) (h32:32∉s):Lib.contains QG (32::(s++[32]))=wU s:=by rw[IZ];exact Ez s hs h32 Dc dc
theorem I5 (s:List UInt8) (h:32∈s):wU s=false:=by
 cases e:wU s
 ·rfl
 ·have hm:s∈Dc:=List.contains_iff_mem.1 e;have:∀w∈Dc,32∉w:=by decide
  exact absurd h (this s hm)
def zS (l:List UInt8):ByteArray:=⟨l.toArray⟩
theorem yK (s:ByteArray) (v:Bool) (m:Int) (w:World) (hs:s.size≤100000) (h:Lib.contains s.data.toList [32]=v) (hm:w.cell? ⟨0,0,none⟩=some (.int .i64 m)):Calls Tryz.prog 192 #[.string s,.string ⟨#[32]⟩] w fun e w'=>e=.returned (.bool v)∧w=w':=
 (Tryz.strings_Contains _ _ m _ om hm).mono fun _ _ hq=>⟨by rw[hq.1];exact iJ h,hq.2.symm⟩
theorem I7 (s:ByteArray) (w:World) (m:Int) (hs:s.size≤100000) (hm:w.cell? ⟨0,0,none⟩=some (.int .i64 m)):Calls Tryz.prog 160 #[.string s] w fun e w'=>e=.returned (.bool (wU s.data.toList))∧w=w':=by
 by_cases h0:s.data.toList=[]
 ·have hf:Hid (wU s.data.toList=false):=by show _=_;rw[h0];decide
  have he:s.toList=[]:=by rw[Lib.toList_data];exact h0
  have he':s.toList.isEmpty=true:=by rw[he];rfl
  clear h0;go_enter Tryz.func160,Tryz.ntmps160;go_wp2;go_ret;exact⟨iJ hf.out.symm,rfl⟩
 ·have hpos:0<s.size:=by rw[Lib.size_eq];exact List.length_pos_iff.2 h0
  have he:=kG s hpos;have he':=ku s hpos;cases hb:Lib.contains s.data.toList [32]
  ·(have h32:32∉s.data.toList:=by rw[contains_one]at hb;intro e;rw[List.contains_iff_mem.2 e]at hb;simp at hb);have hp:=I4 _ h0 h32;have HP:=ak hp;have HB:=ak hb;clear hb h32 hp h0;go_enter Tryz.func160,Tryz.ntmps160;go_wp2_with fail;refine(yK s _ m _ hs HB.o hm).mono ?_;rintro e w' ⟨rfl,rfl⟩;go_wp2_with fail;refine(Tryz.strings_Contains _ _ m _ dc hm).mono ?_;rintro e w' ⟨rfl,rfl⟩;go_wp2;go_ret;refine⟨iJ ?_,rfl⟩;rw[←HP.o];rfl
  ·(have hf:Hid (wU s.data.toList=false):=by show _=_;rw[contains_one]at hb;exact I5 _ (List.contains_iff_mem.1 hb));have HB:=ak hb;clear hb h0;go_enter Tryz.func160,Tryz.ntmps160;go_wp2_with fail;refine(yK s _ m _ hs HB.o hm).mono ?_;rintro e w' ⟨rfl,rfl⟩;go_wp2;go_ret;exact⟨iJ hf.out.symm,rfl⟩
structure fV where
 rb:Nat
 a:Option Addr
 c:Nat
 l:List Tok
 m:Int
structure bC (R:fV) (w:World) (i d:Nat):Prop where
 blk:w.heap[R.rb]?=some (.cells #[.slice R.a R.l.length R.c,ah (i:Int),ah (d:Int)] 210 (0,0))
 row:Row w R.rb (.slice R.a R.l.length R.c) R.l.length (uS R.l)
 Oj:w.cell? ⟨0,0,none⟩=some (.int .i64 R.m)
 pos:0<R.rb
 lt:i<R.l.length
theorem bC.step {R:fV} {w w':World} {i d:Nat} {S:Nat→Prop} (h:bC R w i d) (hs:Step S w w') (hS:∀k,k≤R.rb→¬S k):bC R w' i d:=
 ⟨hs.keep h.blk (hS _ (Nat.le_refl _)),h.row.step hs (fun k hk=>hS k om),hs.cell h.Oj (hS 0 (Nat.zero_le _)),h.pos,h.lt⟩
theorem bC.quiet {R:fV} {w w':World} {i d:Nat} (h:bC R w i d) (hs:Step (fun _=>False) w w'):bC R w' i d:=h.step hs (fun _ _ h=>h)
structure nK (l:List Tok):Prop where
 next:∀(i:Nat) t,l[i]?=some t→t.kind≠0→i+1<l.length
 len:l.length≤8001
 text:∀t∈l,t.text.length≤20000
theorem rQ (l:List Tok) (i:Nat) (t:Tok) (h:l[i]?=some t) (j:Nat) (v:Value) (hv:t.cells[j]?=some v):(uS l)[i*5+j]?=some v:=by
 induction l generalizing i with
 |nil=>simp at h
 |cons x r ih=>
  have hc:x.cells.length=5:=rfl;show(x.cells++uS r)[i*5+j]?=some v;cases i with
  |zero=>simp at h;subst h;rw[Nat.zero_mul,Nat.zero_add,List.getElem?_append_left (List.getElem?_eq_some_iff.1 hv).1];exact hv
  |succ i=>rw[List.getElem?_append_right (by rw[hc];omega),hc,show(i+1)*5+j-5=i*5+j by omega];exact ih i (by simpa using h)
theorem Tryz.BR:(Tryz.prog.info? 157).map (·.size)=some 5:=by kernel_rfl
theorem YO (t:Tok):∀u∈[Value.int .i64 t.kind,.string ⟨t.text.toArray⟩,ah t.line,ah t.col,bK t.val],u.oneCell'=true:=by intro u hu;simp at hu;rcases hu with rfl|rfl|rfl|rfl|rfl<;>rfl
theorem kP (R:fV) (w:World) (i d:Nat) (t:Tok) (h:bC R w i d) (ht:R.l[i]?=some t):Calls Tryz.prog 83 #[.pointer (some ⟨R.rb,0,none⟩)] w fun e w'=>e=.returned (.agg #[ah t.kind,.string ⟨t.text.toArray⟩,ah t.line,ah t.col,bK t.val])∧Step (fun _=>False) w w':=by
 obtain⟨rb,a,c,l,m⟩:=R;obtain⟨hb,hr,-,-,hlt⟩:=h;simp only at hb hr ht hlt;obtain⟨a',c',hva,hc1,hc2,-,hrr⟩:=hr;obtain⟨rfl,rfl⟩:a=a'∧c=c':=by cases hva;exact⟨rfl,rfl⟩
 obtain⟨g,o,rfl,-,-,hcell⟩:=hrr om;have f0:=hcell _ _ (rQ l i t ht 0 _ rfl);have f1:=hcell _ _ (rQ l i t ht 1 _ rfl);have f2:=hcell _ _ (rQ l i t ht 2 _ rfl);have f3:=hcell _ _ (rQ l i t ht 3 _ rfl);have f4:=hcell _ _ (rQ l i t ht 4 _ rfl);rw[Nat.add_zero]at f0;rw[←Nat.add_assoc]at f1 f2 f3 f4;have e0:((l.length:Int)==0)=false:=by simpa using(by omega:¬(l.length:Int)=0)
 have e1:(l.length==0)=false:=by simpa using(by omega:¬l.length=0)
 have e2:decide ((l.length:Int)≤(i:Int))=false:=decide_eq_false om;have hi0:(0:Int)≤(i:Int):=by omega
 have hi1:(i:Int)<(l.length:Int):=by omega
 obtain⟨w1,hw1⟩:=aU (w.alloc (.cells #[ah 0,bP,ah 0,ah 0,bK 0] 157));have HB1:Hid (w1.heap[rb]?=some (.cells #[.slice (some ⟨g,o,none⟩) l.length c,ah (i:Int),ah (d:Int)] 210 (0,0))):=by show _=_;rw[hw1];exact aN hb
 have rU:Hid (Step (fun _=>False) w w1):=by show Step _ _ _;rw[hw1];exact bJ.alloc _
 have jW:Hid (w1.heap[w.heap.size]?=some (.cells #[ah 0,bP,ah 0,ah 0,bK 0] 157 (0,0))):=by show _=_;rw[hw1];exact aA _ _
 have HW1:=ak hw1;have F:Hid (∀X,Step (fun _=>False) w1 X→X.cell? ⟨rb,0,none⟩=some (.slice (some ⟨g,o,none⟩) l.length c)∧X.cell? ⟨rb,1,none⟩=some (.int .i64 i)∧X.cell? ⟨g,o+i*5,none⟩=some (.int .i64 t.kind)∧X.cell? ⟨g,o+i*5+1,none⟩=some (.string ⟨t.text.toArray⟩)∧X.cell? ⟨g,o+i*5+2,none⟩=some (.int .i64 t.line)∧X.cell? ⟨g,o+i*5+3,none⟩=some (.int .i64 t.col)∧X.cell? ⟨g,o+i*5+4,none⟩=some (.int .u64 t.val)):=by show∀X,_;intro X hX;have h:=rU.o.trans hX;have hb:=hX.keep HB1.o (fun h=>h);exact⟨aj hb 0 _ rfl,aj hb 1 _ rfl,h.cell f0 (fun h=>h),h.cell f1 (fun h=>h),h.cell f2 (fun h=>h),h.cell f3 (fun h=>h),h.cell f4 (fun h=>h)⟩
 clear hcell hrr hva hc1 hc2 ht hb f0 f1 f2 f3 f4 hw1;obtain⟨k0,k1,f0,f1,f2,f3,f4⟩:=F.o w1 bJ;go_enter Tryz.func83,Tryz.ntmps83;go_upto_region 1 with fail
 rw[←HW1.o];go_wp2;go_still_tail 10,kr;change wpList _ _ _ _ _ w1.drew;go_wp2;clear k0 k1 f0 f1 f2 f3 f4;obtain⟨w2,hw2⟩:=aU w1.drew;rw[←hw2];have ou:Hid (Step (fun _=>False) w1 w2):=by show Step _ _ _;rw[hw2];exact bJ.drew
 clear hw2;obtain⟨k0,k1,f0,f1,f2,f3,f4⟩:=F.o w2 ou.o;go_still_tail 10,kr;change wpList _ _ _ _ _ w2.drew;have mZ:Hid (w2.drew.heap[w.heap.size]?=some (.cells #[ah 0,bP,ah 0,ah 0,bK 0] 157 (0,0))):=og (ou.o.keep jW.o (fun h=>h));have fJ:Hid (Step (fun _=>False) w w2.drew):=(rU.o.trans ou.o).drew;have dS:Hid (∀u∈[Value.int .i64 t.kind,.string ⟨t.text.toArray⟩,ah t.line,ah t.col,bK t.val],u.oneCell'=true):=YO t;clear k0 k1 f0 f1 f2 f3 f4
 go_wp2_with (refine aC (w:=w2.drew) rfl 157 (.tmp 2) (.tmp 49) rfl w.heap.size 0 157 _ [.int .i64 t.kind,.string ⟨t.text.toArray⟩,.int .i64 t.line,.int .i64 t.col,.int .u64 t.val] rfl rfl mZ.o Tryz.BR (Nat.le_of_eq rfl) dS.o ?_
              intro w4 hb4 uM)
 have Gt:w4.heap[w.heap.size]?=some (.cells [Value.int .i64 t.kind,.string ⟨t.text.toArray⟩,ah t.line,ah t.col,bK t.val].toArray 157 (0,0)):=hb4;refine bodyPost_ret (aW rfl _ w.heap.size 157 _ _ rfl Gt Tryz.underlying157 rfl Tryz.BR) rfl ⟨rfl,?_⟩;exact fJ.o.then uM oi
theorem at_at (R:fV) (w:World) (i d:Nat) (t:Tok) (h:bC R w i d) (ht:R.l[i]?=some t):Calls Tryz.prog 107 #[.pointer (some ⟨R.rb,0,none⟩)] w fun e w'=>e=.returned (.agg #[ah t.line,ah t.col])∧Step (fun _=>False) w w':=by
 have H:=ak h;have HT:=ak ht;clear h ht;have hfd:∀(a0 a1 a2 a3 a4:Value) (w:World),(Instr.field 157 (.agg #[a0,a1,a2,a3,a4]) 2).run Tryz.prog w=.ok (.agg #[a2,a3]) w:=fun _ _ _ _ _ _=>by kernel_rfl
 go_enter Tryz.func107,Tryz.ntmps107;go_wp2_with fail;refine(kP R _ i d t (H.o.quiet ((Step.refl _ w).alloc _)) HT.o).mono ?_;rintro e w1 ⟨rfl,h1⟩;obtain⟨⟨d0,d1⟩,e0,e1⟩:=N8 (h1.keep (aA w _) (fun h=>h));go_wp2;refine bodyPost_ret (v:=.agg #[ah t.line,ah t.col]) (by simp[results,Tryz.results107,go_sem,d0,d1]) rfl ⟨rfl,?_⟩;have hs:Step (fun _=>False) w w1:=((Step.refl _ w).alloc _).trans h1;exact(hs.setCell _ _ (fun hl=>absurd hl (Nat.lt_irrefl _))).setCell _ _ (fun hl=>absurd hl (Nat.lt_irrefl _))
theorem nZ (R:fV) (c:Nat) (w:World) (i d:Nat) (t:Tok) (h:bC R w i d) (ht:R.l[i]?=some t):Calls Tryz.prog 139 #[.pointer (some ⟨R.rb,0,none⟩),.int .i64 c] w fun e w'=>e=.panicked [{v:=.iface 251 (.agg #[ah c,ah t.line,ah t.col]),recovered:=false}]∧Step (fun _=>False) w w':=by have H:=ak h;have HT:=ak ht;clear h ht;go_enter Tryz.func139,Tryz.ntmps139;go_wp2_with fail;refine(at_at R _ i d t H.o HT.o).mono ?_;rintro e w1 ⟨rfl,h1⟩;go_wp2;exact⟨rfl,rfl,h1⟩
theorem jS (n k:Nat) (K:Int) (h:K=(k:Int)):((n:Int)==K)=(n==k):=by
 subst h;by_cases e:n=k
 ·subst e;simp
 ·have h2:¬(n:Int)=(k:Int):=by omega
  rw[beq_eq_false_iff_ne.2 h2,beq_eq_false_iff_ne.2 e]
def uz (t:Tok) (s:List UInt8):Bool:=t.text==s&&(t.kind==5||(t.kind==1&&wU s))
theorem xH {t:Tok} {s:List UInt8} (h:uz t s=true):t.kind≠0:=by unfold uz at h;intro e;rw[e]at h;simp at h
theorem bytes_eq (x s:ByteArray):(x.toList==s.toList)=(x.data.toList==s.data.toList):=by rw[Lib.toList_data,Lib.toList_data]
theorem MW (R:fV) (s:ByteArray) (w:World) (i d:Nat) (t:Tok) (h:bC R w i d) (ht:R.l[i]?=some t) (hs:s.size≤100000):Calls Tryz.prog 158 #[.pointer (some ⟨R.rb,0,none⟩),.string s] w fun e w'=>e=.returned (.bool (uz t s.data.toList))∧Step (fun _=>False) w w':=by
 have H:=ak h;have HT:=ak ht;obtain⟨x,hx⟩:∃x:ByteArray,x=⟨t.text.toArray⟩:=⟨_,rfl⟩;obtain⟨be,hbe⟩:∃be,(x.toList==s.toList)=be:=⟨_,rfl⟩;have HF:Hid (uz t s.data.toList=(be&&(t.kind==5||(t.kind==1&&wU s.data.toList)))):=by show _=_;unfold uz;rw[←hbe,bytes_eq,hx]
 have YP:=ak (kP R w i d t h ht);rw[←hx]at YP;obtain⟨k5,hk5⟩:∃b,((t.kind:Int)==5)=b:=⟨_,rfl⟩;obtain⟨k1,hk1⟩:∃b,((t.kind:Int)==1)=b:=⟨_,rfl⟩;have Ol:Hid ((t.kind==5)=k5):=((jS t.kind 5 5 rfl).symm.trans hk5);have HK1:Hid ((t.kind==1)=k1):=((jS t.kind 1 1 rfl).symm.trans hk1);clear h ht hx;go_enter Tryz.func158,Tryz.ntmps158;go_wp2_with fail;refine YP.o.mono ?_;rintro e w1 ⟨rfl,h1⟩;have Ql:=ak ((H.o.quiet h1).Oj);have cZ:=ak h1;clear h1;cases be with
 |false=>go_wp2;go_ret;exact⟨by rw[HF.o];rfl,cZ.o.alloc _⟩
 |true=>
  cases k5 with
  |true=>go_wp2;go_ret;exact⟨by rw[HF.o,Ol.o];rfl,cZ.o.alloc _⟩
  |false=>
   cases k1 with
   |false=>go_wp2;go_ret;exact⟨by rw[HF.o,Ol.o,HK1.o];rfl,cZ.o.alloc _⟩
   |true=>have QH:=ak (I7 s (w1.alloc (.cells #[ah t.kind,aY x,ah t.line,ah t.col,bK t.val] 157)) R.m hs (((Step.refl (fun _=>False) _).alloc _).cell Ql.o (fun h=>h)));go_wp2_with fail;refine QH.o.mono ?_;rintro e w2 ⟨rfl,rfl⟩;go_wp2;go_ret;exact⟨by rw[HF.o,Ol.o,HK1.o];rfl,cZ.o.alloc _⟩
theorem bC.next {R:fV} {w w':World} {i d:Nat} (h:bC R w i d) (hi:i+1<R.l.length) (hb:w'.heap[R.rb]?=some (.cells #[.slice R.a R.l.length R.c,ah ((i+1:Nat):Int),ah (d:Int)] 210 (0,0))) (hs:Step (·=R.rb) w w'):bC R w' (i+1) d:=
 ⟨hb,h.row.step hs oi,hs.cell h.Oj (fun e=>by have h2:=h.pos;have e2:0=R.rb:=e;omega),h.pos,hi⟩
def YQ (t:Tok) (s:List UInt8) (i:Nat):Nat:=if uz t s then i+1 else i
theorem Xw (R:fV) (hl:nK R.l) (s:ByteArray) (w:World) (i d:Nat) (t:Tok) (h:bC R w i d) (ht:R.l[i]?=some t) (hs:s.size≤100000):Calls Tryz.prog 110 #[.pointer (some ⟨R.rb,0,none⟩),.string s] w fun e w'=>e=.returned (.bool (uz t s.data.toList))∧bC R w' (YQ t s.data.toList i) d∧Step (·=R.rb) w w':=by
 have H:=ak h;have HT:=ak ht;have Xx:=ak (MW R s w i d t h ht hs);have hl1:i<8001:=by have:=h.lt;have:=hl.len;omega
 have kz:Hid (uz t s.data.toList=true→i+1<R.l.length):=fun hh=>hl.next i t ht (xH hh);obtain⟨sb,hsb⟩:=aU (uz t s.data.toList);have Ky:=ak hsb;rw[←hsb]at Xx kz;rw[←hsb];have R1:IntKind.i64.wrap ((i:Int)+1)=((i+1:Nat):Int):=by rw[show((i:Int)+1)=((i+1:Nat):Int) by omega];exact IntWalk.i64_in _ om
 clear h ht hl hs hsb;go_enter Tryz.func110,Tryz.ntmps110;go_wp2_with fail;refine Xx.o.mono ?_;rintro e w1 ⟨rfl,h1⟩;have H1:=ak (H.o.quiet h1);have cZ:Hid (Step (·=R.rb) w w1):=h1.mono fe;clear h1;cases sb with
 |false=>go_wp2;go_ret;exact⟨rfl,by unfold YQ;rw[←Ky.o,if_neg dc];exact H1.o,cZ.o⟩
 |true=>have k1:=aj H1.o.blk 1 _ rfl;have z1:=aG H1.o.blk 1;go_wp2;go_ret;have hset:=aV H1.o.blk 1 (.int .i64 ((i+1:Nat):Int));have hst:Step (·=R.rb) w1 (w1.setCell ⟨R.rb,1,none⟩ (.int .i64 ((i+1:Nat):Int))):=bJ.setCell _ _ iI;refine⟨rfl,?_,cZ.o.trans hst⟩;unfold YQ;rw[←Ky.o,if_pos rfl];exact H1.o.next (by simpa using kz.o) hset hst
theorem yL (R:fV) (hl:nK R.l) (w:World) (i d:Nat) (t:Tok) (h:bC R w i d) (ht:R.l[i]?=some t) (hk:t.kind≠0):Calls Tryz.prog 159 #[.pointer (some ⟨R.rb,0,none⟩)] w fun e w'=>e=.returned (.agg #[ah t.kind,.string ⟨t.text.toArray⟩,ah t.line,ah t.col,bK t.val])∧bC R w' (i+1) d∧Step (·=R.rb) w w':=by
 have H:=ak h;have HT:=ak ht;have hl1:i<8001:=by have:=h.lt;have:=hl.len;omega
 have kz:Hid (i+1<R.l.length):=hl.next i t ht hk;have R1:IntKind.i64.wrap ((i:Int)+1)=(i:Int)+1:=IntWalk.i64_in _ om;have e0:((t.kind:Int)==0)=false:=by rw[jS t.kind 0 0 rfl];exact beq_eq_false_iff_ne.2 hk
 have e1:((t.kind:Int) !=0)=true:=by rw[bne,e0];rfl
 have hlt:=aI h.blk;clear h ht hl hk;go_enter Tryz.func159,Tryz.ntmps159;go_wp2_with fail;refine(kP R _ i d t (H.o.quiet ((Step.refl _ w).alloc _)) HT.o).mono ?_;rintro e w1 ⟨rfl,h1⟩;obtain⟨x,hx⟩:∃x:ByteArray,x=⟨t.text.toArray⟩:=⟨_,rfl⟩;rw[←hx];have HXE:=ak hx;clear hx;have H1:=ak (H.o.quiet (((Step.refl (fun _=>False) w).alloc _).trans h1));have cZ:Hid (Step (fun _=>False) w w1):=((Step.refl (fun _=>False) w).alloc _).trans h1;have jW:=ak (h1.keep (aA w _) (fun h=>h));have hsz:w.heap.size<w1.heap.size:=by have:=h1.size;simp at this;omega
 obtain⟨w2,hw2⟩:=aU (w1.alloc (.cells #[ah t.kind,aY x,ah t.line,ah t.col,bK t.val] 157));have HS2:Hid (Step (fun _=>False) w1 w2):=by show Step _ _ _;rw[hw2];exact bJ.alloc _
 have HB2:Hid (w2.heap[w1.heap.size]?=some (.cells #[ah t.kind,aY x,ah t.line,ah t.col,bK t.val] 157 (0,0))):=by show _=_;rw[hw2];exact aA _ _
 have HW2:=ak hw2;clear h1 hw2;go_upto_region 2 with fail
 rw[←HW2.o];have H2:=ak (H1.o.quiet HS2.o);have k1:=aj H2.o.blk 1 _ rfl;have z1:=aG H2.o.blk 1;obtain⟨⟨q0,q1,q2,q3,q4⟩,-⟩:=tH HB2.o;go_upto_region 4 with fail
 have hset:=aV H2.o.blk 1 (.int .i64 ((i:Int)+1));have hst:Step (·=R.rb) w2 (w2.setCell ⟨R.rb,1,none⟩ (.int .i64 ((i:Int)+1))):=bJ.setCell _ _ iI;have H3:=ak (H2.o.next kz.o hset hst);obtain⟨w3,hw3⟩:=aU (w2.setCell ⟨R.rb,1,none⟩ (.int .i64 ((i:Int)+1)));rw[←hw3]at hst H3⊢;have eX:Hid (Step (·=R.rb) w w3):=((cZ.o.trans HS2.o).mono fe).trans hst;have HB3:=ak (hst.keep HB2.o om);have qR:=ak (hst.keep (HS2.o.keep jW.o (fun h=>h)) om);clear hst hset hw3 k1 z1 q0 q1 q2 q3 q4;have dS:Hid (∀u∈[Value.int .i64 t.kind,aY x,ah t.line,ah t.col,bK t.val],u.oneCell'=true):=by show∀u∈_,_;intro u hu;simp at hu;rcases hu with rfl|rfl|rfl|rfl|rfl<;>rfl
 obtain⟨⟨q0,q1,q2,q3,q4⟩,-⟩:=tH HB3.o
 go_wp2_with (refine aC (w:=w3) rfl 157 (.tmp 2) (.tmp 16) rfl w.heap.size 0 157 _ [.int .i64 t.kind,.string x,.int .i64 t.line,.int .i64 t.col,.int .u64 t.val] rfl rfl qR.o Tryz.BR (Nat.le_of_eq rfl) dS.o ?_
              intro w4 hb4 uM)
 have Gt:w4.heap[w.heap.size]?=some (.cells [Value.int .i64 t.kind,aY x,ah t.line,ah t.col,bK t.val].toArray 157 (0,0)):=hb4;refine bodyPost_ret (aW rfl _ w.heap.size 157 _ _ rfl Gt Tryz.underlying157 rfl Tryz.BR) rfl ⟨by rw[HXE.o],?_,?_⟩
 ·exact H3.o.step uM oi
 ·exact eX.o.then uM oi
def uU (t:Tok):Bool:=t.kind==1&& !wU t.text
def uV (R:fV) (i d:Nat) (t:Tok) (w:World) (e:Ending) (w':World):Prop:=
 (if uU t then e=.returned (.string ⟨t.text.toArray⟩)∧bC R w' (i+1) d else e=.panicked [{v:=.iface 251 (.agg #[ah 1,ah t.line,ah t.col]),recovered:=false}])∧Step (·=R.rb) w w'
theorem Vl (R:fV) (hl:nK R.l) (w:World) (i d:Nat) (t:Tok) (h:bC R w i d) (ht:R.l[i]?=some t):Calls Tryz.prog 113 #[.pointer (some ⟨R.rb,0,none⟩)] w (uV R i d t w):=by
 have H:=ak h;have HT:=ak ht;have HL:=ak hl;obtain⟨x,hx⟩:∃x:ByteArray,x=⟨t.text.toArray⟩:=⟨_,rfl⟩;have hxs:x.size≤100000:=by have:=hl.text t (List.mem_of_getElem? ht);rw[hx];show t.text.toArray.size≤100000;simp;omega
 have HXE:Hid (x.data.toList=t.text):=by show _=_;rw[hx]
 have YP:=ak (kP R w i d t h ht);rw[←hx]at YP;obtain⟨k1,hk1⟩:∃b,((t.kind:Int) !=1)=b:=⟨_,rfl⟩;have HK1:Hid ((t.kind==1)= !k1):=by show _=_;rw[←hk1,bne,jS t.kind 1 1 rfl,Bool.not_not]
 obtain⟨x2,hx2⟩:=aU (x:ByteArray);have kz:=ak hx;clear h ht hl hx;go_enter Tryz.func113,Tryz.ntmps113;go_wp2_with fail;refine YP.o.mono ?_;rintro e w1 ⟨rfl,h1⟩;have cZ:=ak (h1.alloc (.cells #[ah t.kind,aY x,ah t.line,ah t.col,bK t.val] 157));have H1:=ak (H.o.quiet cZ.o);clear h1;cases k1 with
 |true=>
  have eH:Hid (uU t=false):=by show _=_;unfold uU;rw[HK1.o];rfl
  go_wp2_with fail;refine(nZ R 1 _ i d t H1.o HT.o).mono ?_;rintro e w2 ⟨rfl,h2⟩;refine⟨rfl,?_⟩;unfold uV;rw[eH.o];exact⟨rfl,(cZ.o.trans h2).mono fe⟩
 |false=>
  obtain⟨wb,hwb⟩:=aU (wU x.data.toList);have QH:=ak (I7 x (w1.alloc (.cells #[ah t.kind,aY x,ah t.line,ah t.col,bK t.val] 157)) R.m hxs H1.o.Oj);rw[←hwb]at QH;have eH:Hid (uU t= !wb):=by show _=_;unfold uU;rw[HK1.o,hwb,HXE.o];rfl
  clear hwb;go_wp2_with fail;refine QH.o.mono ?_;rintro e w2 ⟨rfl,rfl⟩;cases wb with
  |true=>go_wp2_with fail;refine(nZ R 1 _ i d t H1.o HT.o).mono ?_;rintro e w2 ⟨rfl,h2⟩;refine⟨rfl,?_⟩;unfold uV;rw[eH.o];exact⟨rfl,(cZ.o.trans h2).mono fe⟩
  |false=>(have hk0:t.kind≠0:=by intro e;have h2:=HK1.o;rw[e]at h2;cases h2);have HNXT:=ak (yL R HL.o _ i d t H1.o HT.o hk0);rw[←kz.o]at HNXT;(have hfd:∀(a0 a1 a2 a3 a4:Value) (w:World),(Instr.field 157 (.agg #[a0,a1,a2,a3,a4]) 1).run Tryz.prog w=.ok a1 w:=fun _ _ _ _ _ _=>by kernel_rfl);clear hk0;go_wp2_with fail;refine HNXT.o.mono ?_;rintro e w3 ⟨rfl,hr,h3⟩;have HR3:=ak hr;clear hr;go_wp2;go_ret;unfold uV;rw[eH.o];refine⟨?_,(cZ.o.mono fe).trans h3⟩;exact⟨by show Ending.returned (.string x)=_;rw[kz.o],HR3.o⟩
def yM (R:fV) (i d:Nat) (t:Tok) (s:List UInt8) (w:World) (e:Ending) (w':World):Prop:=
 (if uz t s then e=.returned (.tuple #[])∧bC R w' (i+1) d else e=.panicked [{v:=.iface 251 (.agg #[ah 1,ah t.line,ah t.col]),recovered:=false}])∧Step (·=R.rb) w w'
theorem Vm (R:fV) (hl:nK R.l) (g:Nat) (s:ByteArray) (w:World) (i d:Nat) (t:Tok) (h:bC R w i d) (ht:R.l[i]?=some t) (hs:s.size≤100000) (hg:w.cell? ⟨g,0,none⟩=some (.string s)):Calls Tryz.prog 111 #[.pointer (some ⟨R.rb,0,none⟩),.slice (some ⟨g,0,none⟩) 1 1] w (yM R i d t s.data.toList w):=by
 have H:=ak h;have HT:=ak ht;have HIS:=ak (Xw R hl s w i d t h ht hs);obtain⟨sb,hsb⟩:=aU (uz t s.data.toList);have Ky:=ak hsb;rw[←hsb]at HIS;clear h ht hl hsb;go_enter Tryz.func111,Tryz.ntmps111;go_wp2_with fail;go_loopg [5,8] 2 (fun gg s5 s8 wr=>(s8=.int .i64 0∧wr=w∧1≤gg)∨(s8=.int .i64 1∧sb=true∧bC R wr (i+1) d∧Step (·=R.rb) w wr));case atStart=>exact .inl ⟨rfl,rfl,by omega⟩
 case round=>
  rcases hrel with⟨rfl,rfl,hgg⟩|⟨rfl,rfl,hr,hst⟩
  ·go_wp2_with fail;refine HIS.o.mono ?_;rintro e w2 ⟨rfl,hr,h2⟩;have HR2:=ak hr;have HS2:=ak h2;clear hr h2;cases sb with
   |false=>(have hii:YQ t s.data.toList i=i:=by unfold YQ;rw[←Ky.o,if_neg dc]);(have HR3:Hid (bC R w2 i d):=by have h5:=HR2.o;rw[hii]at h5;exact h5);clear hii;go_wp2_with fail;refine(nZ R 1 _ i d t HR3.o HT.o).mono ?_;rintro e w3 ⟨rfl,h3⟩;refine⟨rfl,?_⟩;unfold yM;rw[←Ky.o];exact⟨rfl,HS2.o.trans (h3.mono fe)⟩
   |true=>
    (have hii:YQ t s.data.toList i=i+1:=by unfold YQ;rw[←Ky.o,if_pos rfl]);(have HR3:Hid (bC R w2 (i+1) d):=by have h5:=HR2.o;rw[hii]at h5;exact h5);clear hii;go_wp2_with fail;go_roundg (gk-1);case rel=>exact .inr ⟨rfl,trivial,HR3.o,HS2.o⟩
    case measure=>omega
  ·have HR:=ak hr;have HS:=ak hst;clear hr hst;go_wp2_with fail;refine bodyPost_end (results_none rfl _ _ _) rfl ?_;unfold yM;rw[←Ky.o];exact⟨⟨rfl,HR.o⟩,HS.o⟩
def Enters (k:Nat):Prop:=∀(xs:Array Value) (w:World),Sem.run Tryz.prog (callFunc k xs) w=.ok (.enter k xs) w
theorem xI (R:fV) (k:Nat) (caps:List Value) (w:World) (i d:Nat) (t:Tok) (h:bC R w i d) (ht:R.l[i]?=some t) (hd:d=40):Calls Tryz.prog 108 #[.pointer (some ⟨R.rb,0,none⟩),.func (.func k) #[] caps.toArray] w fun e w'=>e=.panicked [{v:=.iface 251 (.agg #[ah 2,ah t.line,ah t.col]),recovered:=false}]∧Step (fun _=>False) w w':=by
 have hfe:∀(fn:Fn) (x y:Array Value) (w:World),(binOp .eql 1 (.func fn x y) .nilFunc).run Tryz.prog w=.ok (.bool false) w:=fun _ _ _ _=>by kernel_rfl
 subst hd;have H:=ak h;have HT:=ak ht;have k2:=aj h.blk 2 _ rfl;clear h ht;go_enter Tryz.func108,Tryz.ntmps108;go_wp2_with fail;refine(nZ R 2 _ i 40 t H.o HT.o).mono ?_;rintro e w1 ⟨rfl,h1⟩;exact⟨rfl,rfl,h1⟩
theorem bC.deep {R:fV} {w w':World} {i d d':Nat} (h:bC R w i d) (hb:w'.heap[R.rb]?=some (.cells #[.slice R.a R.l.length R.c,ah (i:Int),ah (d':Int)] 210 (0,0))) (hs:Step (·=R.rb) w w'):bC R w' i d':=
 ⟨hb,h.row.step hs oi,hs.cell h.Oj (fun e=>by have h2:=h.pos;have e2:0=R.rb:=e;omega),h.pos,h.lt⟩
def QI (R:fV) (d:Nat) (Q:Nat→World→Prop) (e:Ending) (w':World):Prop:=
 e=.returned (.tuple #[])∧∃(i':Nat) (w2:World),Q i' w2∧bC R w' i' d∧Step (·=R.rb) w2 w'
theorem Gu (R:fV) (k:Nat) (caps:List Value) (w:World) (i d:Nat) (Q:Nat→World→Prop) (hk:Enters k) (h:bC R w i d) (hd:d<40) (hby:∀w1,bC R w1 i (d+1)→Step (·=R.rb) w w1→Calls Tryz.prog k caps.toArray w1 fun e w2=>e=.returned (.tuple #[])∧∃i',bC R w2 i' (d+1)∧Q i' w2):Calls Tryz.prog 108 #[.pointer (some ⟨R.rb,0,none⟩),.func (.func k) #[] caps.toArray] w (QI R d Q):=by
 have hfe:∀(fn:Fn) (x y:Array Value) (w:World),(binOp .eql 1 (.func fn x y) .nilFunc).run Tryz.prog w=.ok (.bool false) w:=fun _ _ _ _=>by kernel_rfl
 have hen:Enters k:=hk;unfold Enters at hen;have H:=ak h;have HBY:=ak hby;have k2:=aj h.blk 2 _ rfl;have z2:=aG h.blk 2;have e40:((d:Int)==40)=false:=by rw[jS d 40 40 rfl];exact beq_eq_false_iff_ne.2 om
 have R1:IntKind.i64.wrap ((d:Int)+1)=(d:Int)+1:=IntWalk.i64_in _ om;have R2:IntKind.i64.wrap ((d:Int)+1-1)=(d:Int):=by rw[show((d:Int)+1-1)=(d:Int) by omega];exact IntWalk.i64_in _ om
 have R3:((d:Int)+1-1)=(d:Int):=by omega
 clear h hby hk;go_enter Tryz.func108,Tryz.ntmps108;go_wp2_with fail;have hset:=aV H.o.blk 2 (.int .i64 ((d:Int)+1));have hst:Step (·=R.rb) w (w.setCell ⟨R.rb,2,none⟩ (.int .i64 ((d:Int)+1))):=bJ.setCell _ _ iI;refine(HBY.o _ (H.o.deep hset hst) hst).mono ?_;rintro e w2 ⟨rfl,i',hr,hq⟩;have HR:=ak hr;have HQ:=ak hq;clear hset hst hr hq k2 z2;have k2:w2.cell? ⟨R.rb,2,none⟩=some (.int .i64 ((d:Int)+1)):=aj HR.o.blk 2 _ rfl;have z2:=aG HR.o.blk 2;go_wp2_with fail;refine bodyPost_end (results_none rfl _ _ _) rfl ?_;have hset:=aV HR.o.blk 2 (.int .i64 (d:Int));have hst:Step (·=R.rb) w2 (w2.setCell ⟨R.rb,2,none⟩ (.int .i64 (d:Int))):=bJ.setCell _ _ iI;exact⟨rfl,i',w2,HQ.o,HR.o.deep hset hst,hst⟩
theorem Df (R:fV) (k:Nat) (caps:List Value) (w:World) (i d:Nat) (es:List PanicEntry) (Q:World→Prop) (hk:Enters k) (h:bC R w i d) (hd:d<40) (hby:∀w1,bC R w1 i (d+1)→Step (·=R.rb) w w1→Calls Tryz.prog k caps.toArray w1 fun e w2=>e=.panicked es∧Q w2):Calls Tryz.prog 108 #[.pointer (some ⟨R.rb,0,none⟩),.func (.func k) #[] caps.toArray] w fun e w'=>e=.panicked es∧Q w':=by
 have hfe:∀(fn:Fn) (x y:Array Value) (w:World),(binOp .eql 1 (.func fn x y) .nilFunc).run Tryz.prog w=.ok (.bool false) w:=fun _ _ _ _=>by kernel_rfl
 have hen:Enters k:=hk;unfold Enters at hen;have H:=ak h;have HBY:=ak hby;have k2:=aj h.blk 2 _ rfl;have z2:=aG h.blk 2;have e40:((d:Int)==40)=false:=by rw[jS d 40 40 rfl];exact beq_eq_false_iff_ne.2 om
 have R1:IntKind.i64.wrap ((d:Int)+1)=(d:Int)+1:=IntWalk.i64_in _ om;clear h hby hk;go_enter Tryz.func108,Tryz.ntmps108;go_wp2_with fail;have hset:=aV H.o.blk 2 (.int .i64 ((d:Int)+1));have hst:Step (·=R.rb) w (w.setCell ⟨R.rb,2,none⟩ (.int .i64 ((d:Int)+1))):=bJ.setCell _ _ iI;refine(HBY.o _ (H.o.deep hset hst) hst).mono ?_;rintro e w2 ⟨rfl,hq⟩;exact⟨rfl,rfl,hq⟩
def di (w:World) (P:Nat→Prop) (v:Value) (n:Nat) (xs:List Value):Prop:=
 ∃a c,v=.slice a n c∧n≤c∧c≤9223372036854775807∧(a=none→n=0∧c=0)∧(0<n→∃g o,a=some ⟨g,o,none⟩∧P g∧g<w.heap.size∧∀(i:Nat) x,xs[i]?=some x→w.cell? ⟨g,o+i,none⟩=some x)
theorem di.step {w w':World} {P:Nat→Prop} {v:Value} {n:Nat} {xs:List Value} {S:Nat→Prop} (h:di w P v n xs) (hs:Step S w w') (hS:∀k,P k→¬S k):di w' P v n xs:=by obtain⟨a,c,hv,hc,hm,hz,hr⟩:=h;refine⟨a,c,hv,hc,hm,hz,fun hn=> ?_⟩;obtain⟨g,o,ha,hg,hgw,hcell⟩:=hr hn;exact⟨g,o,ha,hg,Nat.lt_of_lt_of_le hgw hs.size,fun i x hx=>hs.cell (hcell i x hx) (hS g hg)⟩
theorem di.mono {w:World} {P P':Nat→Prop} {v:Value} {n:Nat} {xs:List Value} (h:di w P v n xs) (hp:∀k,k<w.heap.size→P k→P' k):di w P' v n xs:=by obtain⟨a,c,hv,hc,hm,hz,hr⟩:=h;refine⟨a,c,hv,hc,hm,hz,fun hn=> ?_⟩;obtain⟨g,o,ha,hg,hgw,hcell⟩:=hr hn;exact⟨g,o,ha,hp g hgw hg,hgw,hcell⟩
theorem di.nil (w:World) (P:Nat→Prop) (xs:List Value):di w P (.slice none 0 0) 0 xs:=⟨none,0,rfl,Nat.le_refl _,by decide,fun _=>⟨rfl,rfl⟩,fun h=>absurd h (Nat.lt_irrefl _)⟩
theorem di.new {w:World} {P:Nat→Prop} {b t n:Nat} {cs:List Value} (h:w.heap[b]?=some (.cells cs.toArray t (0,0))) (hn:n≤9223372036854775807) (hp:P b):di w P (.slice (some ⟨b,0,none⟩) n n) n cs:=by
 refine⟨_,n,rfl,Nat.le_refl _,hn,gJ,fun _=>⟨b,0,rfl,hp,aI h,fun i x hx=> ?_⟩⟩;have:=tq h i x hx
 rwa [Gh]at this
theorem di.fA {w:World} {P:Nat→Prop} {base:Nat} {e:TypeId} {size:Nat} {v:Value} {n:Nat} {xs:List Value} (h:w.ownsRow base e size v n xs) (hp:∀k,v.ownBlock=some k→P k):di w P v n xs:=by have h2:=Row.fA (B:=w.heap.size) h (Nat.le_refl _);obtain⟨a,c,hv,hc,hm,hz,hr⟩:=h2;refine⟨a,c,hv,hc,hm,hz,fun hn=> ?_⟩;obtain⟨g,o,ha,hg,hgw,hcell⟩:=hr hn;exact⟨g,o,ha,hp g (by rw[hv,ha];rfl),hgw,hcell⟩
theorem di.row {w:World} {P:Nat→Prop} {B:Nat} {v:Value} {n:Nat} {xs:List Value} (h:di w P v n xs) (hp:∀k,k<w.heap.size→P k→k<B):Row w B v n xs:=di.mono (P':=fun k=>k<B) h hp
inductive Ty where
 |mk (kind:Int) (name life:ByteArray) (mu:Bool) (aF:List ByteArray) (args:List Ty) (line col:Int)
mutual
inductive Ex where
 |mk (kind:Int) (name:ByteArray) (val:Int) (mu:Bool) (args:List Ex) (names:List ByteArray) (body:List St) (line col:Int)
inductive St where
 |mk (kind:Int) (name:ByteArray) (type:Ty) (place e:List Ex) (body els:List St) (other:Bool) (line col:Int)
end
mutual
def iG (w:World) (P:Nat→Prop):Ty→List Value→Prop
 | .mk k name life m aF args l c,cs=>∃vl va xs,cs=[.int .i64 k,.string name,.string life,.bool m,vl,va,.int .i64 l,.int .i64 c]∧name.size≤9223372036854775807∧life.size≤9223372036854775807∧
   (∀s∈aF,s.size≤9223372036854775807)∧di w P vl aF.length (aF.map .string)∧fP w P args xs∧di w P va args.length xs
def fP (w:World) (P:Nat→Prop):List Ty→List Value→Prop
 |[],cs=>cs=[]
 |t::r,cs=>∃c1 c2,cs=c1++c2∧iG w P t c1∧fP w P r c2
end
mutual
def dW (w:World) (P:Nat→Prop):Ex→List Value→Prop
 | .mk k name v m args names body l c,cs=>∃va vn vb xa xb,cs=[.int .i64 k,.string name,.int .u64 v,.bool m,va,vn,vb,.int .i64 l,.int .i64 c]∧name.size≤9223372036854775807∧(∀s∈names,s.size≤9223372036854775807)∧
   dG w P args xa∧di w P va args.length xa∧di w P vn names.length (names.map .string)∧iq w P body xb∧di w P vb body.length xb
def dG (w:World) (P:Nat→Prop):List Ex→List Value→Prop
 |[],cs=>cs=[]
 |t::r,cs=>∃c1 c2,cs=c1++c2∧dW w P t c1∧dG w P r c2
def kV (w:World) (P:Nat→Prop):St→List Value→Prop
 | .mk k name ty place e body els other l c,cs=>∃ct vp ve vb vl xp xe xb xl,cs=[.int .i64 k,.string name]++ct++[vp,ve,vb,vl,.bool other,.int .i64 l,.int .i64 c]∧name.size≤9223372036854775807∧iG w P ty ct∧
   dG w P place xp∧di w P vp place.length xp∧dG w P e xe∧di w P ve e.length xe∧iq w P body xb∧di w P vb body.length xb∧iq w P els xl∧di w P vl els.length xl
def iq (w:World) (P:Nat→Prop):List St→List Value→Prop
 |[],cs=>cs=[]
 |t::r,cs=>∃c1 c2,cs=c1++c2∧kV w P t c1∧iq w P r c2
end
mutual
theorem iG.step {w w':World} {P:Nat→Prop} {S:Nat→Prop} (hs:Step S w w') (hS:∀k,P k→¬S k):∀(t:Ty) (cs:List Value),iG w P t cs→iG w' P t cs
 | .mk k name life m aF args l c,cs,h=>by
  rw[iG]at h⊢
  obtain⟨vl,va,xs,h1,h2,h3,h4,h5,h6,h7⟩:=h
  exact⟨vl,va,xs,h1,h2,h3,h4,h5.step hs hS,fP.step hs hS args xs h6,h7.step hs hS⟩
theorem fP.step {w w':World} {P:Nat→Prop} {S:Nat→Prop} (hs:Step S w w') (hS:∀k,P k→¬S k):∀(l:List Ty) (cs:List Value),fP w P l cs→fP w' P l cs
 |[],cs,h=>by rw[fP]at h⊢;exact h
 |t::r,cs,h=>by
  rw[fP]at h⊢
  obtain⟨c1,c2,h1,h2,h3⟩:=h
  exact⟨c1,c2,h1,iG.step hs hS t c1 h2,fP.step hs hS r c2 h3⟩
end
mutual
theorem dW.step {w w':World} {P:Nat→Prop} {S:Nat→Prop} (hs:Step S w w') (hS:∀k,P k→¬S k):∀(t:Ex) (cs:List Value),dW w P t cs→dW w' P t cs
 | .mk k name v m args names body l c,cs,h=>by
  rw[dW]at h⊢
  obtain⟨va,vn,vb,xa,xb,h1,h2,h3,h4,h5,h6,h7,h8⟩:=h
  exact⟨va,vn,vb,xa,xb,h1,h2,h3,dG.step hs hS args xa h4,h5.step hs hS,h6.step hs hS,iq.step hs hS body xb h7,h8.step hs hS⟩
theorem dG.step {w w':World} {P:Nat→Prop} {S:Nat→Prop} (hs:Step S w w') (hS:∀k,P k→¬S k):∀(l:List Ex) (cs:List Value),dG w P l cs→dG w' P l cs
 |[],cs,h=>by rw[dG]at h⊢;exact h
 |t::r,cs,h=>by
  rw[dG]at h⊢
  obtain⟨c1,c2,h1,h2,h3⟩:=h
  exact⟨c1,c2,h1,dW.step hs hS t c1 h2,dG.step hs hS r c2 h3⟩
theorem kV.step {w w':World} {P:Nat→Prop} {S:Nat→Prop} (hs:Step S w w') (hS:∀k,P k→¬S k):∀(t:St) (cs:List Value),kV w P t cs→kV w' P t cs
 | .mk k name ty place e body els other l c,cs,h=>by
  rw[kV]at h⊢
  obtain⟨ct,vp,ve,vb,vl,xp,xe,xb,xl,h1,h2,h3,h4,h5,h6,h7,h8,h9,h10,h11⟩:=h
  exact⟨ct,vp,ve,vb,vl,xp,xe,xb,xl,h1,h2,iG.step hs hS ty ct h3,dG.step hs hS place xp h4,h5.step hs hS,dG.step hs hS e xe h6,h7.step hs hS,iq.step hs hS body xb h8,h9.step hs hS,iq.step hs hS els xl h10,h11.step hs hS⟩
theorem iq.step {w w':World} {P:Nat→Prop} {S:Nat→Prop} (hs:Step S w w') (hS:∀k,P k→¬S k):∀(l:List St) (cs:List Value),iq w P l cs→iq w' P l cs
 |[],cs,h=>by rw[iq]at h⊢;exact h
 |t::r,cs,h=>by
  rw[iq]at h⊢
  obtain⟨c1,c2,h1,h2,h3⟩:=h
  exact⟨c1,c2,h1,kV.step hs hS t c1 h2,iq.step hs hS r c2 h3⟩
end
theorem iG.len {w:World} {P:Nat→Prop} {t:Ty} {cs:List Value} (h:iG w P t cs):cs.length=8:=by obtain⟨k,name,life,m,aF,args,l,c⟩:=t;rw[iG]at h;obtain⟨_,_,_,rfl,_⟩:=h;rfl
theorem dW.len {w:World} {P:Nat→Prop} {t:Ex} {cs:List Value} (h:dW w P t cs):cs.length=9:=by obtain⟨k,name,v,m,args,names,body,l,c⟩:=t;rw[dW]at h;obtain⟨_,_,_,_,_,rfl,_⟩:=h;rfl
theorem kV.len {w:World} {P:Nat→Prop} {t:St} {cs:List Value} (h:kV w P t cs):cs.length=17:=by obtain⟨k,name,ty,place,e,body,els,other,l,c⟩:=t;rw[kV]at h;obtain⟨ct,_,_,_,_,_,_,_,_,rfl,_,h,_⟩:=h;have:=h.len;simp;omega
theorem fP.get {w:World} {P:Nat→Prop}:∀{l:List Ty} {xs:List Value} (i:Nat) {t:Ty},fP w P l xs→l[i]?=some t→∃cs,iG w P t cs∧∀j x,cs[j]?=some x→xs[i*8+j]?=some x
 |[],_,i,t,_,ht=>by simp at ht
 |a::r,xs,i,t,h,ht=>by
  rw[fP]at h
  obtain⟨c1,c2,rfl,h1,h2⟩:=h
  cases i with
  |zero=>
   simp at ht;subst ht
   refine⟨c1,h1,fun j x hx=> ?_⟩
   rw[Nat.zero_mul,Nat.zero_add,List.getElem?_append_left (List.getElem?_eq_some_iff.1 hx).1];exact hx
  |succ i=>
   obtain⟨cs,h3,h4⟩:=fP.get i h2 (by simpa using ht)
   refine⟨cs,h3,fun j x hx=> ?_⟩
   rw[List.getElem?_append_right (by rw[h1.len];omega),h1.len,show(i+1)*8+j-8=i*8+j by omega]
   exact h4 j x hx
theorem fP.len {w:World} {P:Nat→Prop}:∀{l:List Ty} {xs:List Value},fP w P l xs→xs.length=l.length*8
 |[],_,h=>by rw[fP]at h;subst h;rfl
 |a::r,xs,h=>by
  rw[fP]at h
  obtain⟨c1,c2,rfl,h1,h2⟩:=h
  rw[List.length_append,h1.len,h2.len,List.length_cons];omega
theorem dG.len {w:World} {P:Nat→Prop}:∀{l:List Ex} {xs:List Value},dG w P l xs→xs.length=l.length*9
 |[],_,h=>by rw[dG]at h;subst h;rfl
 |a::r,xs,h=>by
  rw[dG]at h
  obtain⟨c1,c2,rfl,h1,h2⟩:=h
  rw[List.length_append,h1.len,h2.len,List.length_cons];omega
theorem iq.len {w:World} {P:Nat→Prop}:∀{l:List St} {xs:List Value},iq w P l xs→xs.length=l.length*17
 |[],_,h=>by rw[iq]at h;subst h;rfl
 |a::r,xs,h=>by
  rw[iq]at h
  obtain⟨c1,c2,rfl,h1,h2⟩:=h
  rw[List.length_append,h1.len,h2.len,List.length_cons];omega
theorem dW.one {w:World} {P:Nat→Prop} {t:Ex} {cs:List Value} (h:dW w P t cs):∀u∈cs,u.oneCell'=true:=by obtain⟨k,name,v,m,args,names,body,l,c⟩:=t;rw[dW]at h;obtain⟨_,_,_,_,_,rfl,_,_,_,⟨_,_,rfl,_⟩,⟨_,_,rfl,_⟩,_,_,_,rfl,_⟩:=h;intro u hu;simp at hu;rcases hu with rfl|rfl|rfl|rfl|rfl|rfl|rfl|rfl|rfl<;>rfl
theorem dG.one {w:World} {P:Nat→Prop}:∀{l:List Ex} {xs:List Value},dG w P l xs→∀u∈xs,u.oneCell'=true
 |[],_,h=>by rw[dG]at h;subst h;intro u hu;cases hu
 |a::r,xs,h=>by
  rw[dG]at h
  obtain⟨c1,c2,rfl,h1,h2⟩:=h
  intro u hu
  rcases List.mem_append.1 hu with h|h
  ·
   exact h1.one u h
  ·
   exact dG.one h2 u h
theorem dG.append {w:World} {P:Nat→Prop}:∀{l:List Ex} {xs:List Value} {l':List Ex} {xs':List Value},dG w P l xs→dG w P l' xs'→dG w P (l++l') (xs++xs')
 |[],_,_,_,h,h'=>by rw[dG]at h;subst h;exact h'
 |a::r,xs,l',xs',h,h'=>by
  rw[dG]at h
  obtain⟨c1,c2,rfl,h1,h2⟩:=h
  rw[List.cons_append,dG]
  exact⟨c1,c2++xs',by rw[List.append_assoc],h1,dG.append h2 h'⟩
theorem fP.cells {w:World} {P:Nat→Prop} {l:List Ty} {xs:List Value} {g o i:Nat} {t:Ty} (h:fP w P l xs) (ht:l[i]?=some t) (hc:∀(i:Nat) x,xs[i]?=some x→w.cell? ⟨g,o+i,none⟩=some x):∃cs,iG w P t cs∧∀j x,cs[j]?=some x→w.cell? ⟨g,o+i*8+j,none⟩=some x:=by obtain⟨cs,h1,h2⟩:=fP.get i h ht;exact⟨cs,h1,fun j x hx=>by rw[Nat.add_assoc];exact hc _ _ (h2 j x hx)⟩
mutual
theorem iG.mono {w:World} {P P':Nat→Prop} (hp:∀k,k<w.heap.size→P k→P' k):∀(t:Ty) (cs:List Value),iG w P t cs→iG w P' t cs
 | .mk k name life m aF args l c,cs,h=>by
  rw[iG]at h⊢
  obtain⟨vl,va,xs,h1,h2,h3,h4,h5,h6,h7⟩:=h
  exact⟨vl,va,xs,h1,h2,h3,h4,h5.mono hp,fP.mono hp args xs h6,h7.mono hp⟩
theorem fP.mono {w:World} {P P':Nat→Prop} (hp:∀k,k<w.heap.size→P k→P' k):∀(l:List Ty) (cs:List Value),fP w P l cs→fP w P' l cs
 |[],cs,h=>by rw[fP]at h⊢;exact h
 |t::r,cs,h=>by
  rw[fP]at h⊢
  obtain⟨c1,c2,h1,h2,h3⟩:=h
  exact⟨c1,c2,h1,iG.mono hp t c1 h2,fP.mono hp r c2 h3⟩
end
mutual
theorem dW.mono {w:World} {P P':Nat→Prop} (hp:∀k,k<w.heap.size→P k→P' k):∀(t:Ex) (cs:List Value),dW w P t cs→dW w P' t cs
 | .mk k name v m args names body l c,cs,h=>by
  rw[dW]at h⊢
  obtain⟨va,vn,vb,xa,xb,h1,h2,h3,h4,h5,h6,h7,h8⟩:=h
  exact⟨va,vn,vb,xa,xb,h1,h2,h3,dG.mono hp args xa h4,h5.mono hp,h6.mono hp,iq.mono hp body xb h7,h8.mono hp⟩
theorem dG.mono {w:World} {P P':Nat→Prop} (hp:∀k,k<w.heap.size→P k→P' k):∀(l:List Ex) (cs:List Value),dG w P l cs→dG w P' l cs
 |[],cs,h=>by rw[dG]at h⊢;exact h
 |t::r,cs,h=>by
  rw[dG]at h⊢
  obtain⟨c1,c2,h1,h2,h3⟩:=h
  exact⟨c1,c2,h1,dW.mono hp t c1 h2,dG.mono hp r c2 h3⟩
theorem kV.mono {w:World} {P P':Nat→Prop} (hp:∀k,k<w.heap.size→P k→P' k):∀(t:St) (cs:List Value),kV w P t cs→kV w P' t cs
 | .mk k name ty place e body els other l c,cs,h=>by
  rw[kV]at h⊢
  obtain⟨ct,vp,ve,vb,vl,xp,xe,xb,xl,h1,h2,h3,h4,h5,h6,h7,h8,h9,h10,h11⟩:=h
  exact⟨ct,vp,ve,vb,vl,xp,xe,xb,xl,h1,h2,iG.mono hp ty ct h3,dG.mono hp place xp h4,h5.mono hp,dG.mono hp e xe h6,h7.mono hp,iq.mono hp body xb h8,h9.mono hp,iq.mono hp els xl h10,h11.mono hp⟩
theorem iq.mono {w:World} {P P':Nat→Prop} (hp:∀k,k<w.heap.size→P k→P' k):∀(l:List St) (cs:List Value),iq w P l cs→iq w P' l cs
 |[],cs,h=>by rw[iq]at h⊢;exact h
 |t::r,cs,h=>by
  rw[iq]at h⊢
  obtain⟨c1,c2,h1,h2,h3⟩:=h
  exact⟨c1,c2,h1,kV.mono hp t c1 h2,iq.mono hp r c2 h3⟩
end
theorem iG.one {w:World} {P:Nat→Prop} {t:Ty} {cs:List Value} (h:iG w P t cs):∀u∈cs,u.oneCell'=true:=by obtain⟨k,name,life,m,aF,args,l,c⟩:=t;rw[iG]at h;obtain⟨_,_,_,rfl,_,_,_,⟨_,_,rfl,_⟩,_,⟨_,_,rfl,_⟩⟩:=h;intro u hu;simp at hu;rcases hu with rfl|rfl|rfl|rfl|rfl|rfl|rfl|rfl<;>rfl
theorem kV.one {w:World} {P:Nat→Prop} {t:St} {cs:List Value} (h:kV w P t cs):∀u∈cs,u.oneCell'=true:=by
 obtain⟨k,name,ty,place,e,body,els,other,l,c⟩:=t;rw[kV]at h;obtain⟨ct,_,_,_,_,_,_,_,_,rfl,_,hty,_,⟨_,_,rfl,_⟩,_,⟨_,_,rfl,_⟩,_,⟨_,_,rfl,_⟩,_,⟨_,_,rfl,_⟩⟩:=h;intro u hu;rcases List.mem_append.1 hu with hu|hu
 ·rcases List.mem_append.1 hu with hu|hu
  ·simp at hu;rcases hu with rfl|rfl<;>rfl
  ·exact hty.one u hu
 ·simp at hu;rcases hu with rfl|rfl|rfl|rfl|rfl|rfl|rfl<;>rfl
theorem fP.snoc {w:World} {P:Nat→Prop}:∀{l:List Ty} {xs:List Value} {t:Ty} {cs:List Value},fP w P l xs→iG w P t cs→fP w P (l++[t]) (xs++cs)
 |[],xs,t,cs,h,h1=>by
  rw[fP]at h;subst h
  rw[List.nil_append,fP]
  exact⟨cs,[],by simp,h1,by rw[fP]⟩
 |a::r,xs,t,cs,h,h1=>by
  rw[fP]at h
  obtain⟨c1,c2,rfl,h2,h3⟩:=h
  rw[List.cons_append,fP]
  exact⟨c1,c2++cs,by rw[List.append_assoc],h2,fP.snoc h3 h1⟩
theorem dG.snoc {w:World} {P:Nat→Prop} {l:List Ex} {xs:List Value} {t:Ex} {cs:List Value} (h:dG w P l xs) (h1:dW w P t cs):dG w P (l++[t]) (xs++cs):=
 dG.append h (by rw[dG];exact⟨cs,[],by simp,h1,by rw[dG]⟩)
theorem iq.snoc {w:World} {P:Nat→Prop}:∀{l:List St} {xs:List Value} {t:St} {cs:List Value},iq w P l xs→kV w P t cs→iq w P (l++[t]) (xs++cs)
 |[],xs,t,cs,h,h1=>by
  rw[iq]at h;subst h
  rw[List.nil_append,iq]
  exact⟨cs,[],by simp,h1,by rw[iq]⟩
 |a::r,xs,t,cs,h,h1=>by
  rw[iq]at h
  obtain⟨c1,c2,rfl,h2,h3⟩:=h
  rw[List.cons_append,iq]
  exact⟨c1,c2++cs,by rw[List.append_assoc],h2,iq.snoc h3 h1⟩
inductive dO (α:Type) where
 |ok (a:α) (i:Nat)
 |err (c ln col:Nat)
 |out
def dO.bind {α β:Type}:dO α→(α→Nat→dO β)→dO β
 | .ok a i,f=>f a i
 | .err c ln col,_=>.err c ln col
 | .out,_=>.out
theorem dO.bind_ok {α β:Type} (a:α) (i:Nat) (f:α→Nat→dO β):(dO.ok a i).bind f=f a i:=rfl
theorem dO.kD {α β:Type} (c ln col:Nat) (f:α→Nat→dO β):(dO.err c ln col:dO α).bind f=.err c ln col:=rfl
theorem dO.rV {α β:Type} (f:α→Nat→dO β):(dO.out:dO α).bind f=.out:=rfl
theorem pU {α β:Type} {x:dO α} {a:α} {j:Nat} {g:α→Nat→dO β} (h:x=.ok a j):x.bind g=g a j:=by rw[h];rfl
def MX:Tok:=⟨0,[],0,0,0⟩
def tokA (l:List Tok) (i:Nat):Tok:=l.getD i MX
def bD (l:List Tok) (i:Nat) (s:List UInt8):Bool:=uz (tokA l i) s
def fD {α:Type} (c:Nat) (l:List Tok) (i:Nat):dO α:=.err c (tokA l i).line (tokA l i).col
def aH (l:List Tok) (i:Nat) (s:List UInt8):dO Unit:=if bD l i s then .ok () (i+1)else fD 1 l i
def aS (l:List Tok) (i:Nat):dO ByteArray:=if uU (tokA l i)then .ok (zS (tokA l i).text) (i+1)else fD 1 l i
def d_ (n most:Nat) (l:List Tok) (i:Nat):dO Unit:=if most≤n then fD 2 l i else .ok () i
def jA (l:List Tok) (i:Nat):dO ByteArray:=if(tokA l i).kind=2 then .ok (zS (tokA l i).text) (i+1)else fD 1 l i
def rE (l:List Tok) (i:Nat):ByteArray:=if(tokA l i).kind=2 then zS (tokA l i).text else⟨#[]⟩
def oz (l:List Tok) (i:Nat):Nat:=if(tokA l i).kind=2 then i+1 else i
def iL (l:List Tok) (i:Nat) (s:List UInt8):Nat:=if bD l i s then i+1 else i
def bU:ByteArray:=⟨#[]⟩
instance:CoeDep Vt aK Value:=⟨.string bU⟩
mutual
def jT:Nat→List Tok→Nat→Nat→dO Ty
 |0,_,_,_=>.out
 |f+1,l,i,d=>
  if d=40 then fD 2 l i
  else if bD l i [105,110,116]then .ok (.mk 1 bU bU false [] [] (tokA l i).line (tokA l i).col) (i+1)
  else if bD l i [98,111,111,108]then .ok (.mk 2 bU bU false [] [] (tokA l i).line (tokA l i).col) (i+1)
  else if bD l i [102,54,52]then .ok (.mk 3 bU bU false [] [] (tokA l i).line (tokA l i).col) (i+1)
  else if bD l i [40]then(aH l (i+1) [41]).bind fun _ j=>.ok (.mk 4 bU bU false [] [] (tokA l i).line (tokA l i).col) j
  else if bD l i [66,111,120]then(aH l (i+1) [60]).bind fun _ j=>(jT f l j (d+1)).bind fun a j=>(aH l j [62]).bind fun _ j=>.ok (.mk 6 bU bU false [] [a] (tokA l i).line (tokA l i).col) j
  else if bD l i [38]then(jT f l (iL l (oz l (i+1)) [109,117,116]) (d+1)).bind fun a j=>.ok (.mk 7 bU (rE l (i+1)) (bD l (oz l (i+1)) [109,117,116]) [] [a] (tokA l i).line (tokA l i).col) j
  else if bD l i [100,121,110]then(aS l (i+1)).bind fun n j=>if bD l j [43]then(jA l (j+1)).bind fun x j=>.ok (.mk 8 n x false [] [] (tokA l i).line (tokA l i).col) j else .ok (.mk 8 n bU false [] [] (tokA l i).line (tokA l i).col) j
  else(aS l i).bind fun n j=>if bD l j [60]then(m_ f l (j+1) (d+1) [] []).bind fun p j=>.ok (.mk 5 n bU false p.1 p.2 (tokA l i).line (tokA l i).col) j else .ok (.mk 5 n bU false [] [] (tokA l i).line (tokA l i).col) j
def m_:Nat→List Tok→Nat→Nat→List ByteArray→List Ty→dO (List ByteArray×List Ty)
 |0,_,_,_,_,_=>.out
 |f+1,l,i,d,ls,ts=>
  (d_ (ls.length+ts.length) 8 l i).bind fun _ i=>
   (if(tokA l i).kind=2∧ts.length=0 then(jA l i).bind fun x j=>.ok (ls++[x],ts) j else(jT f l i d).bind fun x j=>.ok (ls,ts++[x]) j).bind fun p j=>
    if bD l j [44]then m_ f l (j+1) d p.1 p.2 else(aH l j [62]).bind fun _ j=>.ok p j
end
def nC:Nat→List Tok→Nat→List ByteArray→dO (List ByteArray)
 |0,_,_,_=>.out
 |f+1,l,i,ns=>(d_ ns.length 8 l i).bind fun _ i=>(aS l i).bind fun n j=>if bD l j [44]then nC f l (j+1) (ns++[n])else(aH l j [124]).bind fun _ j=>.ok (ns++[n]) j
def opsL:Nat→List (List UInt8)
 |0=>[[124]]
 |1=>[[38,38]]
 |2=>[[61,61],[60]]
 |3=>[[43],[45]]
 |4=>[[42],[47]]
 |_=>[]
def xJ (l:List Tok) (i n:Nat):Option (List UInt8):=(opsL n).find? (bD l i)
def bZ (k:Int) (name:ByteArray) (v:Int) (m:Bool) (args:List Ex) (names:List ByteArray) (body:List St) (t:Tok):Ex:=.mk k name v m args names body t.line t.col
def jc (k:Int) (name:ByteArray) (ty:Ty) (place e:List Ex) (body els:List St) (other:Bool) (t:Tok):St:=.mk k name ty place e body els other t.line t.col
def dN:Ty:=.mk 0 bU bU false [] [] 0 0
mutual
def bf:Nat→List Tok→Nat→Nat→Nat→dO Ex
 |0,_,_,_,_=>.out
 |f+1,l,i,d,n=>if n=5 then iR f l i d else(bf f l i d (n+1)).bind fun x j=>yN f l j d n x
def yN:Nat→List Tok→Nat→Nat→Nat→Ex→dO Ex
 |0,_,_,_,_,_=>.out
 |f+1,l,i,d,n,x=>match xJ l i n with
  |none=>.ok x i
  |some s=>(bf f l (i+1) d (n+1)).bind fun y j=>
    if n=2 then .ok (bZ 14 (zS s) 0 false [x,y] [] [] (tokA l i)) j else yN f l j d n (bZ 14 (zS s) 0 false [x,y] [] [] (tokA l i))
def iR:Nat→List Tok→Nat→Nat→dO Ex
 |0,_,_,_=>.out
 |f+1,l,i,d=>
  if d=40 then fD 2 l i
  else if bD l i [45]then(iR f l (i+1) (d+1)).bind fun y j=>.ok (bZ 15 (zS [45]) 0 false [y] [] [] (tokA l i)) j
  else if bD l i [33]then(iR f l (i+1) (d+1)).bind fun y j=>.ok (bZ 15 (zS [33]) 0 false [y] [] [] (tokA l i)) j
  else if bD l i [42]then(iR f l (i+1) (d+1)).bind fun y j=>.ok (bZ 7 bU 0 false [y] [] [] (tokA l i)) j
  else if bD l i [38]then(iR f l (iL l (i+1) [109,117,116]) (d+1)).bind fun y j=>.ok (bZ 8 bU 0 (bD l (i+1) [109,117,116]) [y] [] [] (tokA l i)) j
  else uX f l i (d+1)
def uX:Nat→List Tok→Nat→Nat→dO Ex
 |0,_,_,_=>.out
 |f+1,l,i,d=>(uD f l i d).bind fun x j=>lN f l j d x
def lN:Nat→List Tok→Nat→Nat→Ex→dO Ex
 |0,_,_,_,_=>.out
 |f+1,l,i,d,x=>
  if bD l i [46]then(aS l (i+1)).bind fun n j=>
   if bD l j [40]then(kX f l (j+1) d).bind fun al j=>lN f l j d (bZ 13 n 0 false (x::al) [] [] (tokA l i))
   else lN f l j d (bZ 6 n 0 false [x] [] [] (tokA l i))
  else .ok x i
def kX:Nat→List Tok→Nat→Nat→dO (List Ex)
 |0,_,_,_=>.out
 |f+1,l,i,d=>if bD l i [41]then .ok [] (i+1)else pV f l i d []
def pV:Nat→List Tok→Nat→Nat→List Ex→dO (List Ex)
 |0,_,_,_,_=>.out
 |f+1,l,i,d,acc=>(d_ acc.length 8 l i).bind fun _ i=>(bf f l i d 0).bind fun x j=>
  if bD l j [44]then pV f l (j+1) d (acc++[x])else(aH l j [41]).bind fun _ j=>.ok (acc++[x]) j
def rW:Nat→List Tok→Nat→Nat→dO Ex
 |0,_,_,_=>.out
 |f+1,l,i,d=>(aH l i [40]).bind fun _ j=>(bf f l j d 0).bind fun x j=>(aH l j [41]).bind fun _ j=>.ok x j
def lQ:Nat→List Tok→Nat→Nat→List ByteArray→List Ex→dO (List ByteArray×List Ex)
 |0,_,_,_,_,_=>.out
 |f+1,l,i,d,ns,al=>(d_ ns.length 12 l i).bind fun _ i=>(aS l i).bind fun n j=>(aH l j [58]).bind fun _ j=>(bf f l j d 0).bind fun x j=>
  if bD l j [44]then lQ f l (j+1) d (ns++[n]) (al++[x])else(aH l j [125]).bind fun _ j=>.ok (ns++[n],al++[x]) j
def uD:Nat→List Tok→Nat→Nat→dO Ex
 |0,_,_,_=>.out
 |f+1,l,i,d=>
  if(tokA l i).kind=3 then .ok (bZ 1 bU (tokA l i).val false [] [] [] (tokA l i)) (i+1)
  else if(tokA l i).kind=4 then .ok (bZ 3 bU (tokA l i).val false [] [] [] (tokA l i)) (i+1)
  else if bD l i [116,114,117,101]then .ok (bZ 2 bU 1 false [] [] [] (tokA l i)) (i+1)
  else if bD l i [102,97,108,115,101]then .ok (bZ 2 bU 0 false [] [] [] (tokA l i)) (i+1)
  else if bD l i [99,104,111,111,115,101]then .ok (bZ 16 bU 0 false [] [] [] (tokA l i)) (i+1)
  else if bD l i [66,111,120]then(rW f l (i+1) d).bind fun x j=>.ok (bZ 9 bU 0 false [x] [] [] (tokA l i)) j
  else if bD l i [117,110,98,111,120]then(rW f l (i+1) d).bind fun x j=>.ok (bZ 10 bU 0 false [x] [] [] (tokA l i)) j
  else if bD l i [110,101,119]then(aS l (i+1)).bind fun n j=>(aH l j [123]).bind fun _ j=>
   if bD l j [125]then .ok (bZ 11 n 0 false [] [] [] (tokA l i)) (j+1)else(lQ f l j d [] []).bind fun p j=>.ok (bZ 11 n 0 false p.2 p.1 [] (tokA l i)) j
  else if bD l i [97,115]then(aS l (i+1)).bind fun n j=>(aH l j [124]).bind fun _ j=>
   (if bD l j [124]then .ok [] (j+1)else nC f l j []).bind fun ns j=>(bI f l j d).bind fun b j=>.ok (bZ 17 n 0 false [] ns b (tokA l i)) j
  else if bD l i [40]then
   if bD l (i+1) [41]then .ok (bZ 4 bU 0 false [] [] [] (tokA l i)) (i+2)
   else(bf f l (i+1) d 0).bind fun x j=>(aH l j [41]).bind fun _ j=>.ok (bZ 18 bU 0 false [x] [] [] (tokA l i)) j
  else if bD l i [115,101,108,102]then .ok (bZ 5 (zS [115,101,108,102]) 0 false [] [] [] (tokA l i)) (i+1)
  else(aS l i).bind fun n j=>if bD l j [40]then(kX f l (j+1) d).bind fun al j=>.ok (bZ 12 n 0 false al [] [] (tokA l i)) j else .ok (bZ 5 n 0 false [] [] [] (tokA l i)) j
def bI:Nat→List Tok→Nat→Nat→dO (List St)
 |0,_,_,_=>.out
 |f+1,l,i,d=>if d=40 then fD 2 l i else(aH l i [123]).bind fun _ j=>nS f l j (d+1) []
def nS:Nat→List Tok→Nat→Nat→List St→dO (List St)
 |0,_,_,_,_=>.out
 |f+1,l,i,d,acc=>if bD l i [125]then .ok acc (i+1)else(uY f l i d).bind fun s j=>nS f l j d (acc++[s])
def zT:Nat→List Tok→Nat→Nat→dO (ByteArray×Ty×List Ex)
 |0,_,_,_=>.out
 |f+1,l,i,d=>(aS l i).bind fun n j=>(if bD l j [58]then jT f l (j+1) d else .ok dN j).bind fun ty j=>
  (if bD l j [61]then(bf f l (j+1) d 0).bind fun x j=>.ok [x] j else .ok [] j).bind fun e j=>(aH l j [59]).bind fun _ j=>.ok (n,ty,e) j
def zU:Nat→List Tok→Nat→Nat→dO (List Ex×Ex)
 |0,_,_,_=>.out
 |f+1,l,i,d=>(bf f l i d 0).bind fun x j=>(if bD l j [61]then(bf f l (j+1) d 0).bind fun y j=>.ok ([x],y) j else .ok ([],x) j).bind fun p j=>(aH l j [59]).bind fun _ j=>.ok p j
def uY:Nat→List Tok→Nat→Nat→dO St
 |0,_,_,_=>.out
 |f+1,l,i,d=>
  if bD l i [108,101,116]then(zT f l (i+1) d).bind fun p j=>.ok (jc 1 p.1 p.2.1 [] p.2.2 [] [] false (tokA l i)) j
  else if bD l i [105,102]then(bf f l (i+1) d 0).bind fun x j=>(bI f l j d).bind fun b j=>
   if bD l j [101,108,115,101]then(bI f l (j+1) d).bind fun c j=>.ok (jc 4 bU dN [] [x] b c true (tokA l i)) j else .ok (jc 4 bU dN [] [x] b [] false (tokA l i)) j
  else if bD l i [119,104,105,108,101]then(bf f l (i+1) d 0).bind fun x j=>(bI f l j d).bind fun b j=>.ok (jc 5 bU dN [] [x] b [] false (tokA l i)) j
  else if bD l i [114,101,116,117,114,110]then(if bD l (i+1) [59]then .ok [] (i+1)else(bf f l (i+1) d 0).bind fun x j=>.ok [x] j).bind fun e j=>(aH l j [59]).bind fun _ j=>.ok (jc 6 bU dN [] e [] [] false (tokA l i)) j
  else if bD l i [97,98,111,114,116]then(aH l (i+1) [59]).bind fun _ j=>.ok (jc 7 bU dN [] [] [] [] false (tokA l i)) j
  else if bD l i [123]then(bI f l i d).bind fun b j=>.ok (jc 8 bU dN [] [] b [] false (tokA l i)) j
  else(zU f l i d).bind fun p j=>.ok (jc (if p.1.length=0 then 3 else 2) bU dN p.1 [p.2] [] [] false (tokA l i)) j
end
end Go.Proofs.YtppekkbaoimpgaaGreat
