import Derived.Test.YtppekkbaoimpgaaGreatPkA
import Derived.Lib.IndexMore
import Derived.StillTailTactics
import Derived.Deep.DeepCutAuto
import Derived.Deep.CutBlock
set_option maxRecDepth 100000
set_option maxHeartbeats 80000000
namespace Go.Proofs.YtppekkbaoimpgaaGreat
open Go.RowKit
open Vt
theorem contains_cons (b:UInt8) (l sub:List UInt8):Lib.contains (b::l) sub=(sub.isPrefixOf (b::l)||Lib.contains l sub):=by
 unfold Lib.contains;rw[Lib.index];have:=Lib.index_ge l sub;cases h:sub.isPrefixOf (b::l)
 ·by_cases h1:Lib.index l sub= -1
  ·simp[h1]
  ·(have:(Lib.index l sub== -1)=false:=by rw[beq_eq_false_iff_ne];exact h1);simp[this];omega
 ·simp
theorem contains_nil (a:UInt8) (l:List UInt8):Lib.contains [] (a::l)=false:=rfl
def wM (a b:UInt8):Bool:=(a==45&&b==62)||(a==61&&b==61)||(a==38&&b==38)
def AO (a:UInt8):Bool:=[40,41,123,125,60,62,44,59,58,61,38,124,43,45,42,47,33,46].contains a
theorem AP (a b:UInt8) (ha:a≠32) (hb:b≠32):Lib.contains [45,62,32,61,61,32,38,38,32] [a,b]=wM a b:=by
 have ha':(a==32)=false:=by rw[beq_eq_false_iff_ne];exact ha
 have hb':(b==32)=false:=by rw[beq_eq_false_iff_ne];exact hb
 simp only[contains_cons,contains_nil,List.isPrefixOf,ha',hb',wM,Bool.and_true,Bool.and_false,Bool.false_and,Bool.or_false,Bool.false_or,Bool.or_assoc]
theorem Jy (a:UInt8):Lib.contains [40,41,123,125,60,62,44,59,58,61,38,124,43,45,42,47,33,46] [a]=AO a:=by simp only[contains_cons,contains_nil,List.isPrefixOf,AO,List.contains_cons,List.contains_nil,Bool.and_true]
def rH:List UInt8→Except Nat (Nat×Nat×Nat)
 |a::b::_=>if wM a b then .ok (5,2,0)else if AO a then .ok (5,1,0)else .error 1
 |[a]=>if AO a then .ok (5,1,0)else .error 1
 |[]=>.error 1
theorem fU {w:World} {a:Addr} {v:Value} {n:Nat} (h:w.cell? a=some v):(w.drewN n).cell? a=some v:=h
theorem two_any (u:ByteArray) (v:Bool) (m:Int) (w:World) (hu:Lib.contains [45,62,32,61,61,32,38,38,32] u.data.toList=v) (hm:w.cell? ⟨0,0,none⟩=some (.int .i64 m)):Calls Tryz.prog 192 #[.string ⟨#[45,62,32,61,61,32,38,38,32]⟩,.string u] w fun e w'=>e=.returned (.bool v)∧w=w':=
 (Tryz.strings_Contains _ _ m _ dc hm).mono fun _ _ h=>⟨by rw[h.1];exact bD hu,h.2.symm⟩
theorem one_any (u:ByteArray) (v:Bool) (m:Int) (w:World) (hu:Lib.contains [40,41,123,125,60,62,44,59,58,61,38,124,43,45,42,47,33,46] u.data.toList=v) (hm:w.cell? ⟨0,0,none⟩=some (.int .i64 m)):Calls Tryz.prog 192 #[.string ⟨#[40,41,123,125,60,62,44,59,58,61,38,124,43,45,42,47,33,46]⟩,.string u] w fun e w'=>e=.returned (.bool v)∧w=w':=
 (Tryz.strings_Contains _ _ m _ dc hm).mono fun _ _ h=>⟨by rw[h.1];exact bD hu,h.2.symm⟩
theorem extract_extract (s:ByteArray) (p n:Nat) (_h:p+n≤s.size):(s.extract p s.size).extract 0 n=s.extract p (p+n):=by apply Ey;rw[Lib.extract_data,qw,jE];rfl
theorem U5 (b:Nat) (s:ByteArray) (p l f:Nat) (w:World) (m:Int) (h:Cut w b s p l f) (hp:p+1<s.size) (hs:s.size≤100000) (hm:w.cell? ⟨0,0,none⟩=some (.int .i64 m)) (c d:UInt8) (rest:List UInt8) (hd:s.data.toList.drop p=c::d::rest) (h2:wM c d=true):
  Calls Tryz.prog 205 #[.pointer (some ⟨b,0,none⟩)] w fun e w'=>
   e=.returned (.tuple #[.agg #[ak 5,a_ (s.extract p (p+2)),ak 0,ak 0,cO 0],ak 0])∧Cut w' b s (p+2) l f∧Step (·=b) w w':=by
 obtain⟨c0,c1,c2,c3,f0,f1,f2,f3⟩:=h.cells
 have hlt:b<w.heap.size:=aK h.out
 have hts:(s.extract p s.size).size=s.size-p:=by rw[ByteArray.size_extract];omega
 have htl:=qw s p
 rw[hd]at htl
 have htx:=extract_extract s p 2 om
 generalize ht:s.extract p s.size=t at*
 have h0:0<t.size:=by omega
 have h1:1<t.size:=by omega
 have g0:t[0]=c:=by rw[lY t 0 h0,htl];rfl
 have g1:t[1]=d:=by rw[lY t 1 h1,htl];rfl
 have hcd:c≠32∧d≠32:=by
  unfold wM at h2
  constructor<;>(rintro rfl;revert h2;simp)
 have b0:((t[0].toNat:Int) !=32)=true:=by rw[bne_iff_ne,g0];exact fun e=>hcd.1 (lM 32 e)
 have b1:((t[1].toNat:Int) !=32)=true:=by rw[bne_iff_ne,g1];exact fun e=>hcd.2 (lM 32 e)
 have HC:Hid (Lib.contains [45,62,32,61,61,32,38,38,32] (t.extract 0 2).data.toList=true):=by
  show _=_
  rw[Lib.extract_data,htl]
  exact(AP c d hcd.1 hcd.2).trans h2
 have HT:=au ht
 have HX:=au htx
 clear hd h2 htl g0 g1 hcd ht htx hts
 go_enter Tryz.func205,Tryz.ntmps205
 go_wp2
 go_quiet (fail)
 rw[HT.o]
 go_wp2_with (go_at_call 192;refine(two_any _ true m _ HC.o (fU (dX hm))).mono ?_;rintro e w' ⟨rfl,rfl⟩)
 rw[HX.o]
 refine bodyPost_ret (v:=.tuple #[.agg #[ak 5,a_ (s.extract p (p+2)),ak 0,ak 0,cO 0],ak 0]) (by simp[results,Tryz.results205,go_sem]) rfl ⟨rfl,?_,?_⟩
 ·
  exact(((h.alloc _).drewN _).set1 (q:=p+2) om).five om
 ·
  exact((((Step.refl (·=b) w).alloc _).drewN _).setCell ⟨b,1,none⟩ _ iW).five (Nat.le_refl _)
inductive E_ (c:UInt8) (r:List UInt8):Prop where
 |short:r=[]→E_ c r
 |OG:r≠[]→c=32→E_ c r
 |OH (d:UInt8) (r':List UInt8):r=d::r'→c≠32→d=32→E_ c r
 |other (d:UInt8) (r':List UInt8):r=d::r'→c≠32→d≠32→wM c d=false→E_ c r
theorem L6 (v:Bool) (b:Nat) (s:ByteArray) (p l f:Nat) (w:World) (m:Int) (h:Cut w b s p l f) (hp:p<s.size) (hs:s.size≤100000) (hm:w.cell? ⟨0,0,none⟩=some (.int .i64 m)) (c:UInt8) (r:List UInt8) (hd:s.data.toList.drop p=c::r) (h2:E_ c r) (h1v:AO c=v):Calls Tryz.prog 205 #[.pointer (some ⟨b,0,none⟩)] w (oq 1 b s p l f w (if v then .ok (5,0)else .error 1)):=by
 obtain⟨c0,c1,c2,c3,f0,f1,f2,f3⟩:=h.cells;have hlt:b<w.heap.size:=aK h.out;have hts:(s.extract p s.size).size=s.size-p:=by rw[ByteArray.size_extract];omega
 have htl:=qw s p;rw[hd]at htl;have htx:=extract_extract s p 1 om;generalize ht:s.extract p s.size=t at*;have h0:0<t.size:=by omega
 have g0:t[0]=c:=by rw[lY t 0 h0,htl];rfl
 have hsz:t.size=r.length+1:=by rw[Lib.size_eq,htl];rfl
 have HC:Hid (Lib.contains [40,41,123,125,60,62,44,59,58,61,38,124,43,45,42,47,33,46] (t.extract 0 1).data.toList=v):=by rw[Lib.extract_data,htl];exact(Jy c).trans h1v
 have HT:=au ht;have HX:=au htx;have ht100:t.size≤100000:=by omega
 have htl':Hid (t.data.toList=c::r):=htl;clear h1v ht htx hts hd htl;cases h2 with
 |short he=>
  have hn1:¬1<t.size:=by rw[hsz,he];simp
  clear hsz he g0;cases v
  ·show Calls _ _ _ _ (oq 1 b s p l f w (.error 1));go_enter Tryz.func205,Tryz.ntmps205;go_wp2;go_quiet (fail);rw[HT.o];go_wp2_with (go_at_call 192;refine(one_any _ _ m _ HC.o (fU (dX hm))).mono ?_;rintro e w' ⟨rfl,rfl⟩);refine bodyPost_ret (v:=.tuple #[.agg #[ak 0,di,ak 0,ak 0,cO 0],ak 1]) (by simp[results,Tryz.results205,go_sem]) rfl ⟨rfl,?_⟩;exact(((Step.refl (·=b) w).alloc _).drewN _).five (Nat.le_refl _)
  ·show Calls _ _ _ _ (oq 1 b s p l f w (.ok (5,0)));go_enter Tryz.func205,Tryz.ntmps205;go_wp2;go_quiet (fail);rw[HT.o];go_wp2_with (go_at_call 192;refine(one_any _ _ m _ HC.o (fU (dX hm))).mono ?_;rintro e w' ⟨rfl,rfl⟩);rw[HX.o];refine bodyPost_ret (v:=.tuple #[.agg #[ak 5,a_ (s.extract p (p+1)),ak 0,ak 0,cO 0],ak 0]) (by simp[results,Tryz.results205,go_sem]) rfl ⟨⟨rfl,?_⟩,?_⟩
   ·exact(((h.alloc _).drewN _).set1 (q:=p+1) om).five om
   ·exact((((Step.refl (·=b) w).alloc _).drewN _).setCell ⟨b,1,none⟩ _ iW).five (Nat.le_refl _)
 |OG hne hc=>
  have hl1:1<t.size:=by
   rw[hsz];cases r with
   |nil=>exact absurd rfl hne
   |cons _ _=>simp
  have b0:((t[0].toNat:Int) !=32)=false:=by rw[g0,hc];rfl
  clear hsz g0 hc;cases v
  ·show Calls _ _ _ _ (oq 1 b s p l f w (.error 1));go_enter Tryz.func205,Tryz.ntmps205;go_wp2;go_quiet (fail);rw[HT.o];go_wp2_with (go_at_call 192;refine(one_any _ _ m _ HC.o (fU (dX hm))).mono ?_;rintro e w' ⟨rfl,rfl⟩);refine bodyPost_ret (v:=.tuple #[.agg #[ak 0,di,ak 0,ak 0,cO 0],ak 1]) (by simp[results,Tryz.results205,go_sem]) rfl ⟨rfl,?_⟩;exact(((Step.refl (·=b) w).alloc _).drewN _).five (Nat.le_refl _)
  ·show Calls _ _ _ _ (oq 1 b s p l f w (.ok (5,0)));go_enter Tryz.func205,Tryz.ntmps205;go_wp2;go_quiet (fail);rw[HT.o];go_wp2_with (go_at_call 192;refine(one_any _ _ m _ HC.o (fU (dX hm))).mono ?_;rintro e w' ⟨rfl,rfl⟩);rw[HX.o];refine bodyPost_ret (v:=.tuple #[.agg #[ak 5,a_ (s.extract p (p+1)),ak 0,ak 0,cO 0],ak 0]) (by simp[results,Tryz.results205,go_sem]) rfl ⟨⟨rfl,?_⟩,?_⟩
   ·exact(((h.alloc _).drewN _).set1 (q:=p+1) om).five om
   ·exact((((Step.refl (·=b) w).alloc _).drewN _).setCell ⟨b,1,none⟩ _ iW).five (Nat.le_refl _)
 |OH d r' hr hc hd=>
  have hl1:1<t.size:=by rw[hsz,hr];simp
  have g1:t[1]=d:=by rw[lY t 1 hl1,htl'.out,hr];rfl
  have b0:((t[0].toNat:Int) !=32)=true:=by rw[bne_iff_ne,g0];exact fun e=>hc (lM 32 e)
  have b1:((t[1].toNat:Int) !=32)=false:=by rw[g1,hd];rfl
  clear hsz g0 g1 hd hr;cases v
  ·show Calls _ _ _ _ (oq 1 b s p l f w (.error 1));go_enter Tryz.func205,Tryz.ntmps205;go_wp2;go_quiet (fail);rw[HT.o];go_wp2_with (go_at_call 192;refine(one_any _ _ m _ HC.o (fU (dX hm))).mono ?_;rintro e w' ⟨rfl,rfl⟩);refine bodyPost_ret (v:=.tuple #[.agg #[ak 0,di,ak 0,ak 0,cO 0],ak 1]) (by simp[results,Tryz.results205,go_sem]) rfl ⟨rfl,?_⟩;exact(((Step.refl (·=b) w).alloc _).drewN _).five (Nat.le_refl _)
  ·show Calls _ _ _ _ (oq 1 b s p l f w (.ok (5,0)));go_enter Tryz.func205,Tryz.ntmps205;go_wp2;go_quiet (fail);rw[HT.o];go_wp2_with (go_at_call 192;refine(one_any _ _ m _ HC.o (fU (dX hm))).mono ?_;rintro e w' ⟨rfl,rfl⟩);rw[HX.o];refine bodyPost_ret (v:=.tuple #[.agg #[ak 5,a_ (s.extract p (p+1)),ak 0,ak 0,cO 0],ak 0]) (by simp[results,Tryz.results205,go_sem]) rfl ⟨⟨rfl,?_⟩,?_⟩
   ·exact(((h.alloc _).drewN _).set1 (q:=p+1) om).five om
   ·exact((((Step.refl (·=b) w).alloc _).drewN _).setCell ⟨b,1,none⟩ _ iW).five (Nat.le_refl _)
 |other d r' hr hc hd ho=>
  have hl1:1<t.size:=by rw[hsz,hr];simp
  have g1:t[1]=d:=by rw[lY t 1 hl1,htl'.out,hr];rfl
  have b0:((t[0].toNat:Int) !=32)=true:=by rw[bne_iff_ne,g0];exact fun e=>hc (lM 32 e)
  have b1:((t[1].toNat:Int) !=32)=true:=by rw[bne_iff_ne,g1];exact fun e=>hd (lM 32 e)
  have HD:Hid (Lib.contains [45,62,32,61,61,32,38,38,32] (t.extract 0 2).data.toList=false):=by rw[Lib.extract_data,htl'.out,hr];exact(AP c d hc hd).trans ho
  clear hsz g0 g1 hr ho;cases v
  ·show Calls _ _ _ _ (oq 1 b s p l f w (.error 1));go_enter Tryz.func205,Tryz.ntmps205;go_wp2;go_quiet (fail);rw[HT.o];go_wp2_with fail;refine(two_any _ _ m _ HD.o (fU (dX hm))).mono ?_;rintro e w' ⟨rfl,rfl⟩;go_wp2_with fail;refine(one_any _ _ m _ HC.o (fU (dX hm))).mono ?_;rintro e w' ⟨rfl,rfl⟩;go_wp2;refine bodyPost_ret (v:=.tuple #[.agg #[ak 0,di,ak 0,ak 0,cO 0],ak 1]) (by simp[results,Tryz.results205,go_sem]) rfl ⟨rfl,?_⟩;exact(((Step.refl (·=b) w).alloc _).drewN _).five (Nat.le_refl _)
  ·show Calls _ _ _ _ (oq 1 b s p l f w (.ok (5,0)));go_enter Tryz.func205,Tryz.ntmps205;go_wp2;go_quiet (fail);rw[HT.o];go_wp2_with fail;refine(two_any _ _ m _ HD.o (fU (dX hm))).mono ?_;rintro e w' ⟨rfl,rfl⟩;go_wp2_with fail;refine(one_any _ _ m _ HC.o (fU (dX hm))).mono ?_;rintro e w' ⟨rfl,rfl⟩;go_wp2;rw[HX.o];refine bodyPost_ret (v:=.tuple #[.agg #[ak 5,a_ (s.extract p (p+1)),ak 0,ak 0,cO 0],ak 0]) (by simp[results,Tryz.results205,go_sem]) rfl ⟨⟨rfl,?_⟩,?_⟩
   ·exact(((h.alloc _).drewN _).set1 (q:=p+1) om).five om
   ·exact((((Step.refl (·=b) w).alloc _).drewN _).setCell ⟨b,1,none⟩ _ iW).five (Nat.le_refl _)
theorem Fa:Gives 205 rH (fun _=>True) where
 ok b s p l f w kind n val m h hp hs hm _ _ he:=by
  cases hd:s.data.toList.drop p with
  |nil=>rw[hd,rH]at he;simp at he
  |cons c r=>
   rw[hd]at he
   by_cases h2:∃d r',r=d::r'∧wM c d=true
   ·
    obtain⟨d,r',rfl,h2⟩:=h2
    rw[rH,if_pos h2]at he
    simp at he
    obtain⟨rfl,rfl,rfl⟩:=he
    have hp1:p+1<s.size:=by
     have:=congrArg List.length hd
     simp at this;omega
    exact U5 b s p l f w m h hp1 hs hm c d r' hd h2
   ·
    have hno:E_ c r∧(rH (c::r)=if AO c then .ok (5,1,0)else .error 1):=by
      cases r with
      |nil=>exact⟨.short rfl,rfl⟩
      |cons d r'=>
       have h3:wM c d=false:=by
        cases e:wM c d
        ·
         rfl
        ·
         exact absurd ⟨d,r',rfl,e⟩ h2
       refine⟨?_,by rw[rH,h3];rfl⟩
       by_cases hc:c=32
       ·
        exact .OG (by simp) hc
       ·
        by_cases hd':d=32
        ·
         exact .OH d r' rfl hc hd'
        ·
         exact .other d r' rfl hc hd' h3
    rw[hno.2]at he
    cases h1:AO c
    ·
     rw[h1]at he;simp at he
    ·
     rw[h1]at he
     simp at he
     obtain⟨rfl,rfl,rfl⟩:=he
     exact(L6 true b s p l f w m h hp hs hm c r hd hno.1 h1).mono fun e w' q=>⟨q.1.1,q.1.2,q.2⟩
 bad b s p l f w e0 m h hp hs hm _ _ he:=by
  cases hd:s.data.toList.drop p with
  |nil=>
   have:=congrArg List.length hd
   simp at this;omega
  |cons c r=>
   rw[hd]at he
   by_cases h2:∃d r',r=d::r'∧wM c d=true
   ·
    obtain⟨d,r',rfl,h2⟩:=h2
    rw[rH,if_pos h2]at he
    simp at he
   ·
    have hno:E_ c r∧(rH (c::r)=if AO c then .ok (5,1,0)else .error 1):=by
      cases r with
      |nil=>exact⟨.short rfl,rfl⟩
      |cons d r'=>
       have h3:wM c d=false:=by
        cases e:wM c d
        ·
         rfl
        ·
         exact absurd ⟨d,r',rfl,e⟩ h2
       refine⟨?_,by rw[rH,h3];rfl⟩
       by_cases hc:c=32
       ·
        exact .OG (by simp) hc
       ·
        by_cases hd':d=32
        ·
         exact .OH d r' rfl hc hd'
        ·
         exact .other d r' rfl hc hd' h3
    rw[hno.2]at he
    cases h1:AO c
    ·
     rw[h1]at he
     simp at he
     subst he
     exact(L6 false b s p l f w m h hp hs hm c r hd hno.1 h1).mono fun e w' q=>q
    ·
     rw[h1]at he;simp at he
def oL:List UInt8→Except Nat (Nat×Nat×Nat)
 |[]=>.error 1
 |c::r=>if jh c.toNat then DR (c::r)else if c=39 then DT (c::r)else if isDigit c.toNat then tH (c::r)else rH (c::r)
theorem Jz (b:Nat) (s:ByteArray) (p l f:Nat) (w:World) (kind n val:Nat) (m:Int) (h:Cut w b s p l f) (hp:p<s.size) (hs:s.size≤100000) (hm:w.cell? ⟨0,0,none⟩=some (.int .i64 m)) (hb0:b≠0) (hL:jh (s[p].toNat:Int)=true) (he:DR (s.data.toList.drop p)=.ok (kind,n,val)):Calls Tryz.prog 182 #[.pointer (some ⟨b,0,none⟩)] w fun e w'=>e=.returned (.tuple #[.agg #[ak kind,a_ (s.extract p (p+n)),ak 0,ak 0,cO val],ak 0])∧Cut w' b s (p+n) l f∧Step (·=b) w w':=by
 obtain⟨c0,c1,c2,c3,f0,f1,f2,f3⟩:=h.cells;have hlt:b<w.heap.size:=aK h.out;have iM:((s[p].toNat:Int))≤255:=by have:=s[p].toNat_lt;omega
 have hq:=jQ (s[p].toNat:Int);rw[hL]at hq;have HQ:=au hq;have HE:=au he;clear hq hL he;go_enter Tryz.func182,Tryz.ntmps182;go_wp2;go_quiet (fail);go_wp2_with ((go_at_call 200;refine(HQ.o _ om iM).mono ?_;rintro e w' ⟨rfl,rfl⟩));refine((EX.ok b s p l f _ kind n val m ((h.alloc _).drewN _) hp hs (fU (dX hm)) hb0 trivial HE.o)).mono ?_;rintro e w1 ⟨rfl,hc1,hst⟩;have hnb:=hst.keep (oI (aC w _)) om;obtain⟨⟨d0,d1,d2,d3,d4⟩,e0,e1,e2,e3,e4⟩:=vV hnb;have hst':Step (·=b) w w1:=(((Step.refl _ w).alloc _).drewN _).trans hst;clear hnb hst;go_wp2;refine bodyPost_ret (v:=.tuple #[.agg #[ak kind,a_ (s.extract p (p+n)),ak 0,ak 0,cO val],ak 0]) (by simp[results,Tryz.results182,go_sem,d0,d1,d2,d3,d4]) rfl ⟨rfl,?_,?_⟩
 ·exact hc1.five om
 ·exact hst'.five (Nat.le_refl _)
theorem Hq (b:Nat) (s:ByteArray) (p l f:Nat) (w:World) (c:Nat) (m:Int) (h:Cut w b s p l f) (hp:p<s.size) (hs:s.size≤100000) (hm:w.cell? ⟨0,0,none⟩=some (.int .i64 m)) (hb0:b≠0) (hL:jh (s[p].toNat:Int)=true) (he:DR (s.data.toList.drop p)=.error c):Calls Tryz.prog 182 #[.pointer (some ⟨b,0,none⟩)] w fun e w'=>e=.returned (.tuple #[.agg #[ak 0,di,ak 0,ak 0,cO 0],ak c])∧Step (·=b) w w':=by
 obtain⟨c0,c1,c2,c3,f0,f1,f2,f3⟩:=h.cells;have hlt:b<w.heap.size:=aK h.out;have iM:((s[p].toNat:Int))≤255:=by have:=s[p].toNat_lt;omega
 have hq:=jQ (s[p].toNat:Int);rw[hL]at hq;have HQ:=au hq;have HE:=au he;clear hq hL he;go_enter Tryz.func182,Tryz.ntmps182;go_wp2;go_quiet (fail);go_wp2_with ((go_at_call 200;refine(HQ.o _ om iM).mono ?_;rintro e w' ⟨rfl,rfl⟩));refine((EX.bad b s p l f _ c m ((h.alloc _).drewN _) hp hs (fU (dX hm)) hb0 trivial HE.o)).mono ?_;rintro e w1 ⟨rfl,hst⟩;have hnb:=hst.keep (oI (aC w _)) om;obtain⟨⟨d0,d1,d2,d3,d4⟩,e0,e1,e2,e3,e4⟩:=vV hnb;have hst':Step (·=b) w w1:=(((Step.refl _ w).alloc _).drewN _).trans hst;clear hnb hst;go_wp2;refine bodyPost_ret (v:=.tuple #[.agg #[ak 0,di,ak 0,ak 0,cO 0],ak c]) (by simp[results,Tryz.results182,go_sem,d0,d1,d2,d3,d4]) rfl ⟨rfl,?_⟩;exact hst'.five (Nat.le_refl _)
theorem JA (b:Nat) (s:ByteArray) (p l f:Nat) (w:World) (kind n val:Nat) (m:Int) (h:Cut w b s p l f) (hp:p<s.size) (hs:s.size≤100000) (hm:w.cell? ⟨0,0,none⟩=some (.int .i64 m)) (hb0:b≠0) (hL:jh (s[p].toNat:Int)=false) (hc:s[p]=39) (he:DT (s.data.toList.drop p)=.ok (kind,n,val)):Calls Tryz.prog 182 #[.pointer (some ⟨b,0,none⟩)] w fun e w'=>e=.returned (.tuple #[.agg #[ak kind,a_ (s.extract p (p+n)),ak 0,ak 0,cO val],ak 0])∧Cut w' b s (p+n) l f∧Step (·=b) w w':=by
 obtain⟨c0,c1,c2,c3,f0,f1,f2,f3⟩:=h.cells;have hlt:b<w.heap.size:=aK h.out;have iM:((s[p].toNat:Int))≤255:=by have:=s[p].toNat_lt;omega
 have hq:=jQ (s[p].toNat:Int);rw[hL]at hq;have HQ:=au hq;have HE:=au he;clear hq hL he;have U6:((s[p].toNat:Int)==39)=true:=by rw[hc];rfl
 have hg:(s.data.toList.drop p).headD 0=39:=by rw[drop_cons s p hp];exact hc
 clear hc;go_enter Tryz.func182,Tryz.ntmps182;go_wp2;go_quiet (fail);go_wp2_with ((go_at_call 200;refine(HQ.o _ om iM).mono ?_;rintro e w' ⟨rfl,rfl⟩));refine((EZ.ok b s p l f _ kind n val m ((h.alloc _).drewN _) hp hs (fU (dX hm)) hb0 hg HE.o)).mono ?_;rintro e w1 ⟨rfl,hc1,hst⟩;have hnb:=hst.keep (oI (aC w _)) om;obtain⟨⟨d0,d1,d2,d3,d4⟩,e0,e1,e2,e3,e4⟩:=vV hnb;have hst':Step (·=b) w w1:=(((Step.refl _ w).alloc _).drewN _).trans hst;clear hnb hst;go_wp2;refine bodyPost_ret (v:=.tuple #[.agg #[ak kind,a_ (s.extract p (p+n)),ak 0,ak 0,cO val],ak 0]) (by simp[results,Tryz.results182,go_sem,d0,d1,d2,d3,d4]) rfl ⟨rfl,?_,?_⟩
 ·exact hc1.five om
 ·exact hst'.five (Nat.le_refl _)
theorem Hr (b:Nat) (s:ByteArray) (p l f:Nat) (w:World) (c:Nat) (m:Int) (h:Cut w b s p l f) (hp:p<s.size) (hs:s.size≤100000) (hm:w.cell? ⟨0,0,none⟩=some (.int .i64 m)) (hb0:b≠0) (hL:jh (s[p].toNat:Int)=false) (hc:s[p]=39) (he:DT (s.data.toList.drop p)=.error c):Calls Tryz.prog 182 #[.pointer (some ⟨b,0,none⟩)] w fun e w'=>e=.returned (.tuple #[.agg #[ak 0,di,ak 0,ak 0,cO 0],ak c])∧Step (·=b) w w':=by
 obtain⟨c0,c1,c2,c3,f0,f1,f2,f3⟩:=h.cells;have hlt:b<w.heap.size:=aK h.out;have iM:((s[p].toNat:Int))≤255:=by have:=s[p].toNat_lt;omega
 have hq:=jQ (s[p].toNat:Int);rw[hL]at hq;have HQ:=au hq;have HE:=au he;clear hq hL he;have U6:((s[p].toNat:Int)==39)=true:=by rw[hc];rfl
 have hg:(s.data.toList.drop p).headD 0=39:=by rw[drop_cons s p hp];exact hc
 clear hc;go_enter Tryz.func182,Tryz.ntmps182;go_wp2;go_quiet (fail);go_wp2_with ((go_at_call 200;refine(HQ.o _ om iM).mono ?_;rintro e w' ⟨rfl,rfl⟩));refine((EZ.bad b s p l f _ c m ((h.alloc _).drewN _) hp hs (fU (dX hm)) hb0 hg HE.o)).mono ?_;rintro e w1 ⟨rfl,hst⟩;have hnb:=hst.keep (oI (aC w _)) om;obtain⟨⟨d0,d1,d2,d3,d4⟩,e0,e1,e2,e3,e4⟩:=vV hnb;have hst':Step (·=b) w w1:=(((Step.refl _ w).alloc _).drewN _).trans hst;clear hnb hst;go_wp2;refine bodyPost_ret (v:=.tuple #[.agg #[ak 0,di,ak 0,ak 0,cO 0],ak c]) (by simp[results,Tryz.results182,go_sem,d0,d1,d2,d3,d4]) rfl ⟨rfl,?_⟩;exact hst'.five (Nat.le_refl _)
theorem Fb (b:Nat) (s:ByteArray) (p l f:Nat) (w:World) (kind n val:Nat) (m:Int) (h:Cut w b s p l f) (hp:p<s.size) (hs:s.size≤100000) (hm:w.cell? ⟨0,0,none⟩=some (.int .i64 m)) (hb0:b≠0) (hL:jh (s[p].toNat:Int)=false) (hc:s[p]≠39) (hD:isDigit (s[p].toNat:Int)=true) (he:tH (s.data.toList.drop p)=.ok (kind,n,val)):Calls Tryz.prog 182 #[.pointer (some ⟨b,0,none⟩)] w fun e w'=>e=.returned (.tuple #[.agg #[ak kind,a_ (s.extract p (p+n)),ak 0,ak 0,cO val],ak 0])∧Cut w' b s (p+n) l f∧Step (·=b) w w':=by
 obtain⟨c0,c1,c2,c3,f0,f1,f2,f3⟩:=h.cells;have hlt:b<w.heap.size:=aK h.out;have iM:((s[p].toNat:Int))≤255:=by have:=s[p].toNat_lt;omega
 have hq:=jQ (s[p].toNat:Int);rw[hL]at hq;have HQ:=au hq;have HE:=au he;clear hq hL he;have U6:((s[p].toNat:Int)==39)=false:=by rw[beq_eq_false_iff_ne];exact fun e=>hc (lM 39 e)
 clear hc;have hq2:=jZ (s[p].toNat:Int);rw[hD]at hq2;have HQ2:=au hq2;clear hq2 hD;go_enter Tryz.func182,Tryz.ntmps182;go_wp2;go_quiet (fail);go_wp2_with (first|(go_at_call 200;refine(HQ.o _ om iM).mono ?_;rintro e w' ⟨rfl,rfl⟩)|(go_at_call 203;refine(HQ2.o _ om iM).mono ?_;rintro e w' ⟨rfl,rfl⟩));refine((AL.ok b s p l f _ kind n val m ((h.alloc _).drewN _) hp hs (fU (dX hm)) hb0 trivial HE.o)).mono ?_;rintro e w1 ⟨rfl,hc1,hst⟩;have hnb:=hst.keep (oI (aC w _)) om;obtain⟨⟨d0,d1,d2,d3,d4⟩,e0,e1,e2,e3,e4⟩:=vV hnb;have hst':Step (·=b) w w1:=(((Step.refl _ w).alloc _).drewN _).trans hst;clear hnb hst;go_wp2;refine bodyPost_ret (v:=.tuple #[.agg #[ak kind,a_ (s.extract p (p+n)),ak 0,ak 0,cO val],ak 0]) (by simp[results,Tryz.results182,go_sem,d0,d1,d2,d3,d4]) rfl ⟨rfl,?_,?_⟩
 ·exact hc1.five om
 ·exact hst'.five (Nat.le_refl _)
theorem Ee (b:Nat) (s:ByteArray) (p l f:Nat) (w:World) (c:Nat) (m:Int) (h:Cut w b s p l f) (hp:p<s.size) (hs:s.size≤100000) (hm:w.cell? ⟨0,0,none⟩=some (.int .i64 m)) (hb0:b≠0) (hL:jh (s[p].toNat:Int)=false) (hc:s[p]≠39) (hD:isDigit (s[p].toNat:Int)=true) (he:tH (s.data.toList.drop p)=.error c):Calls Tryz.prog 182 #[.pointer (some ⟨b,0,none⟩)] w fun e w'=>e=.returned (.tuple #[.agg #[ak 0,di,ak 0,ak 0,cO 0],ak c])∧Step (·=b) w w':=by
 obtain⟨c0,c1,c2,c3,f0,f1,f2,f3⟩:=h.cells;have hlt:b<w.heap.size:=aK h.out;have iM:((s[p].toNat:Int))≤255:=by have:=s[p].toNat_lt;omega
 have hq:=jQ (s[p].toNat:Int);rw[hL]at hq;have HQ:=au hq;have HE:=au he;clear hq hL he;have U6:((s[p].toNat:Int)==39)=false:=by rw[beq_eq_false_iff_ne];exact fun e=>hc (lM 39 e)
 clear hc;have hq2:=jZ (s[p].toNat:Int);rw[hD]at hq2;have HQ2:=au hq2;clear hq2 hD;go_enter Tryz.func182,Tryz.ntmps182;go_wp2;go_quiet (fail);go_wp2_with (first|(go_at_call 200;refine(HQ.o _ om iM).mono ?_;rintro e w' ⟨rfl,rfl⟩)|(go_at_call 203;refine(HQ2.o _ om iM).mono ?_;rintro e w' ⟨rfl,rfl⟩));refine((AL.bad b s p l f _ c m ((h.alloc _).drewN _) hp hs (fU (dX hm)) hb0 trivial HE.o)).mono ?_;rintro e w1 ⟨rfl,hst⟩;have hnb:=hst.keep (oI (aC w _)) om;obtain⟨⟨d0,d1,d2,d3,d4⟩,e0,e1,e2,e3,e4⟩:=vV hnb;have hst':Step (·=b) w w1:=(((Step.refl _ w).alloc _).drewN _).trans hst;clear hnb hst;go_wp2;refine bodyPost_ret (v:=.tuple #[.agg #[ak 0,di,ak 0,ak 0,cO 0],ak c]) (by simp[results,Tryz.results182,go_sem,d0,d1,d2,d3,d4]) rfl ⟨rfl,?_⟩;exact hst'.five (Nat.le_refl _)
theorem JB (b:Nat) (s:ByteArray) (p l f:Nat) (w:World) (kind n val:Nat) (m:Int) (h:Cut w b s p l f) (hp:p<s.size) (hs:s.size≤100000) (hm:w.cell? ⟨0,0,none⟩=some (.int .i64 m)) (hb0:b≠0) (hL:jh (s[p].toNat:Int)=false) (hc:s[p]≠39) (hD:isDigit (s[p].toNat:Int)=false) (he:rH (s.data.toList.drop p)=.ok (kind,n,val)):Calls Tryz.prog 182 #[.pointer (some ⟨b,0,none⟩)] w fun e w'=>e=.returned (.tuple #[.agg #[ak kind,a_ (s.extract p (p+n)),ak 0,ak 0,cO val],ak 0])∧Cut w' b s (p+n) l f∧Step (·=b) w w':=by
 obtain⟨c0,c1,c2,c3,f0,f1,f2,f3⟩:=h.cells;have hlt:b<w.heap.size:=aK h.out;have iM:((s[p].toNat:Int))≤255:=by have:=s[p].toNat_lt;omega
 have hq:=jQ (s[p].toNat:Int);rw[hL]at hq;have HQ:=au hq;have HE:=au he;clear hq hL he;have U6:((s[p].toNat:Int)==39)=false:=by rw[beq_eq_false_iff_ne];exact fun e=>hc (lM 39 e)
 clear hc;have hq2:=jZ (s[p].toNat:Int);rw[hD]at hq2;have HQ2:=au hq2;clear hq2 hD;go_enter Tryz.func182,Tryz.ntmps182;go_wp2;go_quiet (fail);go_wp2_with (first|(go_at_call 200;refine(HQ.o _ om iM).mono ?_;rintro e w' ⟨rfl,rfl⟩)|(go_at_call 203;refine(HQ2.o _ om iM).mono ?_;rintro e w' ⟨rfl,rfl⟩));refine((Fa.ok b s p l f _ kind n val m ((h.alloc _).drewN _) hp hs (fU (dX hm)) hb0 trivial HE.o)).mono ?_;rintro e w1 ⟨rfl,hc1,hst⟩;have hnb:=hst.keep (oI (aC w _)) om;obtain⟨⟨d0,d1,d2,d3,d4⟩,e0,e1,e2,e3,e4⟩:=vV hnb;have hst':Step (·=b) w w1:=(((Step.refl _ w).alloc _).drewN _).trans hst;clear hnb hst;go_wp2;refine bodyPost_ret (v:=.tuple #[.agg #[ak kind,a_ (s.extract p (p+n)),ak 0,ak 0,cO val],ak 0]) (by simp[results,Tryz.results182,go_sem,d0,d1,d2,d3,d4]) rfl ⟨rfl,?_,?_⟩
 ·exact hc1.five om
 ·exact hst'.five (Nat.le_refl _)
theorem Ht (b:Nat) (s:ByteArray) (p l f:Nat) (w:World) (c:Nat) (m:Int) (h:Cut w b s p l f) (hp:p<s.size) (hs:s.size≤100000) (hm:w.cell? ⟨0,0,none⟩=some (.int .i64 m)) (hb0:b≠0) (hL:jh (s[p].toNat:Int)=false) (hc:s[p]≠39) (hD:isDigit (s[p].toNat:Int)=false) (he:rH (s.data.toList.drop p)=.error c):Calls Tryz.prog 182 #[.pointer (some ⟨b,0,none⟩)] w fun e w'=>e=.returned (.tuple #[.agg #[ak 0,di,ak 0,ak 0,cO 0],ak c])∧Step (·=b) w w':=by
 obtain⟨c0,c1,c2,c3,f0,f1,f2,f3⟩:=h.cells;have hlt:b<w.heap.size:=aK h.out;have iM:((s[p].toNat:Int))≤255:=by have:=s[p].toNat_lt;omega
 have hq:=jQ (s[p].toNat:Int);rw[hL]at hq;have HQ:=au hq;have HE:=au he;clear hq hL he;have U6:((s[p].toNat:Int)==39)=false:=by rw[beq_eq_false_iff_ne];exact fun e=>hc (lM 39 e)
 clear hc;have hq2:=jZ (s[p].toNat:Int);rw[hD]at hq2;have HQ2:=au hq2;clear hq2 hD;go_enter Tryz.func182,Tryz.ntmps182;go_wp2;go_quiet (fail);go_wp2_with (first|(go_at_call 200;refine(HQ.o _ om iM).mono ?_;rintro e w' ⟨rfl,rfl⟩)|(go_at_call 203;refine(HQ2.o _ om iM).mono ?_;rintro e w' ⟨rfl,rfl⟩));refine((Fa.bad b s p l f _ c m ((h.alloc _).drewN _) hp hs (fU (dX hm)) hb0 trivial HE.o)).mono ?_;rintro e w1 ⟨rfl,hst⟩;have hnb:=hst.keep (oI (aC w _)) om;obtain⟨⟨d0,d1,d2,d3,d4⟩,e0,e1,e2,e3,e4⟩:=vV hnb;have hst':Step (·=b) w w1:=(((Step.refl _ w).alloc _).drewN _).trans hst;clear hnb hst;go_wp2;refine bodyPost_ret (v:=.tuple #[.agg #[ak 0,di,ak 0,ak 0,cO 0],ak c]) (by simp[results,Tryz.results182,go_sem,d0,d1,d2,d3,d4]) rfl ⟨rfl,?_⟩;exact hst'.five (Nat.le_refl _)
theorem Fe:Gives 182 oL (fun _=>True) where
 ok b s p l f w kind n val m h hp hs hm hb0 _ he:=by
  have hd:=drop_cons s p hp
  cases hL:jh (s[p].toNat:Int)
  ·
   by_cases hc:s[p]=39
   ·
    exact JA b s p l f w kind n val m h hp hs hm hb0 hL hc (by rw[hd]at he⊢;rw[oL,hL,if_neg (by simp),if_pos hc]at he;exact he)
   ·
    cases hD:isDigit (s[p].toNat:Int)
    ·
     exact JB b s p l f w kind n val m h hp hs hm hb0 hL hc hD (by rw[hd]at he⊢;simpa only[oL,hL,hc,hD,if_true,if_false,Bool.false_eq_true]using he)
    ·
     exact Fb b s p l f w kind n val m h hp hs hm hb0 hL hc hD (by rw[hd]at he⊢;simpa only[oL,hL,hc,hD,if_true,if_false,Bool.false_eq_true]using he)
  ·
   exact Jz b s p l f w kind n val m h hp hs hm hb0 hL (by rw[hd]at he⊢;simpa only[oL,hL,if_true]using he)
 bad b s p l f w c m h hp hs hm hb0 _ he:=by
  have hd:=drop_cons s p hp
  cases hL:jh (s[p].toNat:Int)
  ·
   by_cases hc:s[p]=39
   ·
    exact Hr b s p l f w c m h hp hs hm hb0 hL hc (by rw[hd]at he⊢;rw[oL,hL,if_neg (by simp),if_pos hc]at he;exact he)
   ·
    cases hD:isDigit (s[p].toNat:Int)
    ·
     exact Ht b s p l f w c m h hp hs hm hb0 hL hc hD (by rw[hd]at he⊢;simpa only[oL,hL,hc,hD,if_true,if_false,Bool.false_eq_true]using he)
    ·
     exact Ee b s p l f w c m h hp hs hm hb0 hL hc hD (by rw[hd]at he⊢;simpa only[oL,hL,hc,hD,if_true,if_false,Bool.false_eq_true]using he)
  ·
   exact Hq b s p l f w c m h hp hs hm hb0 hL (by rw[hd]at he⊢;simpa only[oL,hL,if_true]using he)
structure Tok where
 kind:Nat
 text:List UInt8
 line:Nat
 col:Nat
 val:Nat
def Tok.cells (t:Tok):List Value:=[.int .i64 t.kind,.string ⟨t.text.toArray⟩,.int .i64 t.line,.int .i64 t.col,.int .u64 t.val]
def xC (l:List Tok):List Value:=l.flatMap Tok.cells
theorem Ff (l:List Tok) (t:Tok):xC (l++[t])=xC l++t.cells:=by simp[xC]
def CU:Nat→List UInt8→Nat→Nat→Nat→List Tok→Except (Nat×Nat×Nat) (List Tok)
 |0,_,_,_,_,_=>.error (0,0,0)
 |k+1,r,p,l,f,acc=>
  let q:=gY false r p l f
  let r':=r.drop (q.1-p)
  let col:=q.1-q.2.2+1
  if r'=[]then .ok (acc++[⟨0,[],q.2.1,col,0⟩])
  else if acc.length=8000 then .error (2,q.2.1,col)
  else match oL r' with
   | .error c=>.error (c,q.2.1,col)
   | .ok (kind,n,val)=>CU k (r'.drop n) (q.1+n) q.2.1 q.2.2 (acc++[⟨kind,r'.take n,q.2.1,col,val⟩])
def sS (s:List UInt8):Except (Nat×Nat×Nat) (List Tok):=
 if 20000<s.length then .error (2,0,0)else CU (s.length+1) s 0 1 0 []
theorem Fg:∀(r:List UInt8) (b:Bool) (p l f p' l' f':Nat),(p',l',f')=gY b r p l f→f≤p→p≤p'∧p'≤p+r.length∧f'≤p'∧l≤l'∧l'-l≤p'-p:=by
 intro r;induction r with
 |nil=>intro b p l f p' l' f' h hf;simp[gY]at h;obtain⟨rfl,rfl,rfl⟩:=h;simp;omega
 |cons c r ih=>
  intro b p l f p' l' f' h hf;have hl:(c::r).length=r.length+1:=rfl;cases b
  ·rw[gY]at h;split at h
   ·have:=ih _ _ _ _ _ _ _ h (Nat.le_refl _);omega
   ·split at h
    ·have:=ih _ _ _ _ _ _ _ h om;omega
    ·split at h
     ·have:=ih _ _ _ _ _ _ _ h om;omega
     ·simp at h;obtain⟨rfl,rfl,rfl⟩:=h;omega
  ·rw[gY]at h;split at h
   ·have:=ih _ _ _ _ _ _ _ h (Nat.le_refl _);omega
   ·have:=ih _ _ _ _ _ _ _ h om;omega
theorem L8 {c:UInt8} {r:List UInt8} (h:lK c.toNat=true):1≤ku (c::r):=by rw[EU h];omega
theorem U7 {c0:UInt8}:∀(l:List UInt8) (i v e:Nat),uh c0 l i v=.error e→e≠0:=by
 intro l;induction l with
 |nil=>intro i v e h;simp[uh]at h
 |cons c r ih=>
  intro i v e h;rw[uh]at h;split at h
  ·simp at h;omega
  ·split at h
   ·simp at h;omega
   ·exact ih _ _ _ h
theorem yP {r:List UInt8} {kind n val:Nat} (h:oL r=.ok (kind,n,val)):1≤n∧n≤r.length∧kind≠0:=by
 cases r with
 |nil=>simp[oL]at h
 |cons c r=>
  have hle:=og (c::r);have hle':=og r;rw[oL]at h;split at h
  ·rename_i hL;have:=L8 (r:=r) (show lK c.toNat=true by simp[lK,hL]);unfold DR at h;split at h
   ·simp at h
   ·simp at h;omega
  ·split at h
   ·rw[DT]at h;split at h
    ·simp at h
    ·split at h
     ·simp at h
     ·simp at h;simp;omega
   ·split at h
    ·rename_i hD;have:=L8 (r:=r) (show lK c.toNat=true by simp[lK,hD]);(have hl:((c::r).take (ku (c::r))).length=ku (c::r):=by rw[List.length_take];omega);unfold tH U3 at h;rw[hl]at h;split at h
     ·split at h
      ·simp at h;omega
      ·simp at h
     ·split at h
      ·simp at h;omega
      ·simp at h
    ·cases r with
     |nil=>rw[rH]at h;split at h<;>simp at h;simp;omega
     |cons d r=>
      rw[rH]at h;split at h
      ·simp at h;simp;omega
      ·split at h
       ·simp at h;simp;omega
       ·simp at h
theorem IK {r:List UInt8} {e:Nat} (h:oL r=.error e):e≠0:=by
 cases r with
 |nil=>simp[oL]at h;omega
 |cons c r=>
  rw[oL]at h;split at h
  ·unfold DR at h;split at h
   ·simp at h;omega
   ·simp at h
  ·split at h
   ·rw[DT]at h;split at h
    ·simp at h;omega
    ·split at h
     ·simp at h;omega
     ·simp at h
   ·split at h
    ·unfold tH U3 at h;split at h
     ·split at h
      ·simp at h
      ·simp at h;omega
     ·split at h
      ·simp at h
      ·rename_i hI;simp at h;subst h;exact U7 _ _ _ _ hI
    ·cases r with
     |nil=>rw[rH]at h;split at h<;>simp at h;omega
     |cons d r=>
      rw[rH]at h;split at h
      ·simp at h
      ·split at h
       ·simp at h
       ·simp at h;omega
theorem Tryz.YX:(Tryz.prog.info? 157).map (fun i=>(i.zero,i.size,i.bytes))=some (some (.agg #[ak 0,di,ak 0,ak 0,cO 0]),5,48):=by kernel_rfl
def JC (B:Nat) (w:World) (r:Except (Nat×Nat×Nat) (List Tok)) (e:Ending) (w':World):Prop:=
 (match r with
  | .ok l=>∃v,e=.returned (.tuple #[v,.agg #[ak 0,ak 0,ak 0]])∧w'.ownsRow B 157 5 v l.length (xC l)
  | .error (c,ln,col)=>e=.returned (.tuple #[ay,.agg #[ak c,ak ln,ak col]]))∧StF w w'
theorem OI {w:World} {base:Nat} {e:TypeId} {size:Nat} {v:Value} {n r:Nat} {xs:List Value} {v0 v1 v2:Value} (h:w.ownsRow base e size v n xs) (hr:r<base):(((w.setCell ⟨r,0,none⟩ v0).setCell ⟨r,1,none⟩ v1).setCell ⟨r,2,none⟩ v2).ownsRow base e size v n xs:=
 ownsRow_setCell_below (ownsRow_setCell_below (ownsRow_setCell_below h hr _) hr _) hr _
theorem Step.three {S:Nat→Prop} {a w:World} {r:Nat} {v0 v1 v2:Value} (h:Step S a w) (hr:a.heap.size≤r):Step S a (((w.setCell ⟨r,0,none⟩ v0).setCell ⟨r,1,none⟩ v1).setCell ⟨r,2,none⟩ v2):=by have hq:∀i,(⟨r,i,none⟩:Addr).block<a.heap.size→S r:=fun i h=>absurd h (Nat.not_lt.2 hr);exact((h.setCell _ _ (hq 0)).setCell _ _ (hq 1)).setCell _ _ (hq 2)
theorem Sl (s:ByteArray) (p n:Nat):s.extract p (p+n)=⟨((s.data.toList.drop p).take n).toArray⟩:=Ey (by rw[jE])
theorem YZ (s:ByteArray) (w:World) (m:Int) (hm:w.cell? ⟨0,0,none⟩=some (.int .i64 m)) (hs:s.size≤20000):Calls Tryz.prog 136 #[.string s] w (JC w.heap.size w (sS s.data.toList)):=by
 have hw0:0<w.heap.size:=World.block_lt_of_cell? w _ hm;have HR:Hid (CU (s.data.toList.length+1) s.data.toList 0 1 0 []=sS s.data.toList):=by show _=_;rw[sS,if_neg (by rw[←Lib.size_eq];omega)]
 generalize hRes:sS s.data.toList=dV at*;clear hRes;obtain⟨i0,hi0,hz00,hz10,hz20⟩:=info_parts Tryz.YX;have hi:=au hi0;have hz0:=au hz00;have hz1:=au hz10;have hz2:=au hz20;clear hi0 hz00 hz10 hz20;have hsl:Hid (s.data.toList.length=s.size):=(Lib.size_eq s).symm;go_enter Tryz.func136,Tryz.ntmps136;go_wp2_with fail;rw[hsl.out]at HR
 go_loopg [5] (s.size+1) (fun g v wr=>∃(p l f:Nat) (toks:List Tok),f≤p∧p≤s.size∧l≤p+1∧toks.length≤8000∧s.size-p<g∧CU g (s.data.toList.drop p) p l f toks=dV∧
  Cut wr (w.heap.size+1) s p l f∧wr.heap[w.heap.size]?=some (.cells #[ak 0,ak 0,ak 0] 27 (0,0))∧wr.ownsRow (w.heap.size+2) 157 5 v toks.length (xC toks)∧
  StF w wr∧w.heap.size+2≤wr.heap.size)
 case atStart=>
  refine⟨0,1,0,[],Nat.le_refl _,Nat.zero_le _,by omega,by simp,by omega,HR.o,⟨?_⟩,?_,World.ownsRow_nil _ _ _ _,((Step.refl _ w).alloc _).alloc _,by simp⟩
  ·have:=aC (w.alloc (.cells #[ak 0,ak 0,ak 0] 27)) (.cells #[a_ s,ak 0,ak 1,ak 0] 247);simpa using this
  ·exact aP (aC w _)
 case round=>
  obtain⟨p,l,f,toks,hf,hp,hl,htk,hg,heq,hc,hE,hown,hst,hsz⟩:=hrel;obtain⟨k,rfl⟩:∃k,gk=k+1:=⟨gk-1,by omega⟩;obtain⟨oa,oc,rfl⟩:=aV hown;have HE:=au heq;have HOW:=au hown;clear heq hown;go_wp2_with fail;refine(RX (w.heap.size+1) s p l f wr hc hf hp om hl).mono ?_;rintro e w1 ⟨rfl,p',l',f',hbl,hc1,hst1⟩;have hinv:=Fg _ _ _ _ _ _ _ _ hbl hf;rw[List.length_drop,hsl.out]at hinv;obtain⟨i1,i2,i3,i4,i5⟩:=hinv;have hp':p'≤s.size:=by omega
  have hl':l'≤p'+1:=by omega
  have HB:=au hbl;clear hbl;go_wp2_with fail;refine(YR (w.heap.size+1) s p' l' f' w1 hc1 i3 om).mono ?_;rintro e w2 ⟨rfl,hst2⟩;have hc2:=hc1.step hst2 (fun h=>h);obtain⟨c0,c1,c2,c3,f0,f1,f2,f3⟩:=hc2.cells;have hlt:w.heap.size+1<w2.heap.size:=aK hc2.out;have hltE:w.heap.size<w2.heap.size:=by omega
  have hst12:Step (·=w.heap.size+1) wr w2:=hst1.then hst2 fe;have xE:StF w w2:=⟨hst12.os.trans hst.os,hst12.tape.trans hst.tape,hst12.output.trans hst.output,Nat.le_trans hst.size hst12.size,fun i hi hn=>(hst12.block i om om).trans (hst.block i hi hn)⟩;have HOW2:Hid (w2.ownsRow (w.heap.size+2) 157 5 (.slice oa toks.length oc) toks.length (xC toks)):=hst12.owns HOW.o (fun k hk=>by omega);obtain⟨⟨g0,g1,g2⟩,k0,k1,k2⟩:=Ar (hst12.keep hE om);have Y0:Hid (((p':Int)-f'+1)=((p'-f'+1:Nat):Int)):=show _=_ by omega
  have HA:Hid (CU (k+1) (s.data.toList.drop p) p l f toks=
    if s.data.toList.drop p'=[]then .ok (toks++[⟨0,[],l',p'-f'+1,0⟩])
    else if toks.length=8000 then .error (2,l',p'-f'+1)
    else match oL (s.data.toList.drop p')with
     | .error c=>.error (c,l',p'-f'+1)
     | .ok (kind,n,val)=>CU k ((s.data.toList.drop p').drop n) (p'+n) l' f' (toks++[⟨kind,(s.data.toList.drop p').take n,l',p'-f'+1,val⟩])):=by
   show _=_
   rw[CU]
   simp only[←HB.o,List.drop_drop]
   rw[show p+(p'-p)=p' by omega]
  by_cases hend:p'=s.size
  ·(have hr0:Hid (dV=.ok (toks++[⟨0,[],l',p'-f'+1,0⟩])):=by show _=_;rw[←HE.o,HA.o,if_pos (List.drop_of_length_le (by rw[hsl.out];omega))]);(have hb1:((p':Int)==s.size)=true:=by rw[beq_iff_eq];omega);clear hend;go_wp2_with (at_builtin;refine wpList_append_own _ rfl _ _ 203 rfl (w.heap.size+2) 157 i0 (.agg #[ak 0,di,ak 0,ak 0,cO 0]) 5 48 Tryz.underlying203 hi.out hz0.out hz1.out hz2.out rfl dc _ _ _ rfl ((HOW2.o.alloc _).alloc _) ⟨w2.heap.size+1,0,none⟩ 1 1 [.int .i64 0,.string ⟨#[]⟩,.int .i64 l',.int .i64 ((p':Int)-f'+1),.int .u64 0] rfl rfl ?c1 ?c2 ?c3 ?c4 ?c5 ?_);case c1=>exact vO (cs:=[_,_,_,_,_]) (dY _ _ _)
   (case c2=>intro u hu;simp at hu;rcases hu with rfl|rfl|rfl|rfl|rfl<;>rfl);case c3=>unfold maxLen;omega
   (case c4=>omega);case c5=>simp;omega
   intro v' w3 hown3 hgrow _;have hrow:=II HOW2.o;obtain⟨⟨g0',g1',g2'⟩,k0',k1',k2'⟩:=Ar (zJ hgrow (aP (aP (hst12.keep hE om))) (fun k hk=>by have:=hrow k hk;omega));have hst3:StF w w3:=((xE.alloc _).alloc _).grown hgrow (fun k hk hlt=>by have:=hrow k hk;omega);have H3:=au hown3;clear hown3 hgrow hrow;go_wp2;refine bodyPost_ret (v:=.tuple #[v',.agg #[ak 0,ak 0,ak 0]]) (by simp[results,Tryz.results136,go_sem,g0',g1',g2']) rfl ?_;rw[hr0.out];refine⟨⟨v',rfl,?_⟩,?_⟩
   ·have:=OI (r:=w.heap.size) (v0:=.int .i64 0) (v1:=.int .i64 0) (v2:=.int .i64 0) H3.o om;rw[Ff,List.length_append];rw[Y0.o]at this;exact pO this om
   ·exact hst3.three (Nat.le_refl _)
  ·(have hb1:((p':Int)==s.size)=false:=by rw[beq_eq_false_iff_ne];omega);(have hp1:p'<s.size:=by omega);(have hne:Hid (s.data.toList.drop p'≠[]):=fun e=>by have:=congrArg List.length e;rw[List.length_drop,hsl.out]at this;simp at this;omega);by_cases h8:toks.length=8000
   ·(have hr0:Hid (dV=.error (2,l',p'-f'+1)):=by show _=_;rw[←HE.o,HA.o,if_neg hne.out,if_pos h8]);(have hb2:((toks.length:Int)==8000)=true:=by rw[h8];rfl);clear h8;obtain⟨⟨q0,q1⟩,r0,r1⟩:=RS (a0:=.int .i64 l') (a1:=.int .i64 ((p':Int)-f'+1)) (aC w2 (.cells #[ak l',ak ((p':Int)-f'+1)] 25));go_wp2;go_region;go_wp2;refine bodyPost_ret (v:=.tuple #[ay,.agg #[ak 2,ak l',ak ((p':Int)-f'+1)]]) (by simp[results,Tryz.results136,go_sem,g0,g1,g2,hltE]) rfl ?_;rw[hr0.out];refine⟨by rw[Y0.o];rfl,?_⟩;exact((xE.three (Nat.le_refl _)).alloc _).drew
   ·(have hb2:((toks.length:Int)==8000)=false:=by rw[beq_eq_false_iff_ne];omega);have hm2:w2.cell? ⟨0,0,none⟩=some (.int .i64 m):=xE.cell hm (fun h=>h);have hE2:=hst12.keep hE om;have hE2':Hid (w2.heap[w.heap.size]?=_):=hE2;clear hE2;cases hn:oL (s.data.toList.drop p')with
    |error c=>(have hr0:Hid (dV=.error (c,l',p'-f'+1)):=by show _=_;rw[←HE.o,HA.o,if_neg hne.out,if_neg h8,hn]);(have hc0:((c:Int) !=0)=true:=by rw[bne_iff_ne];have:=IK hn;omega);have HN:=au hn;clear hn h8;go_wp2_with fail;refine(Fe.bad _ s p' l' f' _ c m (hc2.alloc _) hp1 om (dX hm2) om trivial HN.o).mono ?_;rintro e w3 ⟨rfl,hst3⟩;obtain⟨⟨q0,q1⟩,r0,r1⟩:=RS (hst3.keep (aC w2 _) om);obtain⟨⟨g0',g1',g2'⟩,k0',k1',k2'⟩:=Ar (hst3.keep (aP hE2'.out) om);have hz3:=hst3.size;simp at hz3;(have hlt3:w2.heap.size<w3.heap.size:=by omega);(have hltE3:w.heap.size<w3.heap.size:=by omega);go_wp2;go_region;go_wp2;refine bodyPost_ret (v:=.tuple #[ay,.agg #[ak c,ak l',ak ((p':Int)-f'+1)]]) (by simp[results,Tryz.results136,go_sem,g0',g1',g2',hltE3]) rfl ?_;rw[hr0.out];refine⟨by rw[Y0.o],?_⟩;have hw3:StF w w3:=⟨hst3.os.trans xE.os,hst3.tape.trans xE.tape,hst3.output.trans xE.output,by have:=xE.size;omega,fun i hi hn=>(hst3.block i (by simp;have:=xE.size;omega) om).trans ((Below.heap_alloc w2 _ i (by have:=xE.size;omega)).trans (xE.block i hi hn))⟩;exact((hw3.three (Nat.le_refl _)).alloc _).drew
    |ok x=>
     obtain⟨kind,n,val⟩:=x;(have hr0:Hid (CU k ((s.data.toList.drop p').drop n) (p'+n) l' f' (toks++[⟨kind,(s.data.toList.drop p').take n,l',p'-f'+1,val⟩])=dV):=by show _=_;rw[←HE.o,HA.o,if_neg hne.out,if_neg h8,hn]);obtain⟨hn1,hn2,_⟩:=yP hn;rw[List.length_drop,hsl.out]at hn2;have HN:=au hn;clear hn;go_wp2_with fail;refine(Fe.ok _ s p' l' f' _ kind n val m (hc2.alloc _) hp1 om (dX hm2) om trivial HN.o).mono ?_;rintro e w3 ⟨rfl,hc3,hst3⟩;obtain⟨⟨q0,q1⟩,r0,r1⟩:=RS (hst3.keep (aC w2 _) om);have mY:Hid (w3.heap[w.heap.size]?=some (.cells #[ak 0,ak 0,ak 0] 27 (0,0))):=hst3.keep (aP hE2'.out) om;have hz3:=hst3.size;simp at hz3;(have hlt3:w2.heap.size<w3.heap.size:=by omega);(have hltE3:w.heap.size<w3.heap.size:=by omega);have HOW3:Hid (w3.ownsRow (w.heap.size+2) 157 5 (.slice oa toks.length oc) toks.length (xC toks)):=hst3.owns (HOW2.o.alloc _) (fun k hk=>by omega);have hw3:StF w w3:=⟨hst3.os.trans xE.os,hst3.tape.trans xE.tape,hst3.output.trans xE.output,by have:=xE.size;omega,fun i hi hn=>(hst3.block i (by simp;have:=xE.size;omega) om).trans ((Below.heap_alloc w2 _ i (by have:=xE.size;omega)).trans (xE.block i hi hn))⟩;clear c0 c1 c2 c3 f0 f1 f2 f3 g0 g1 g2 k0 k1 k2;go_wp2_with (at_builtin;refine wpList_append_own _ rfl _ _ 203 rfl (w.heap.size+2) 157 i0 (.agg #[ak 0,di,ak 0,ak 0,cO 0]) 5 48 Tryz.underlying203 hi.out hz0.out hz1.out hz2.out rfl dc _ _ _ rfl ((HOW3.o.alloc _).alloc _) ⟨w3.heap.size+1,0,none⟩ 1 1 [.int .i64 kind,.string (s.extract p' (p'+n)),.int .i64 l',.int .i64 ((p':Int)-f'+1),.int .u64 val] rfl rfl ?c1 ?c2 ?c3 ?c4 ?c5 ?_);case c1=>exact vO (cs:=[_,_,_,_,_]) (dY _ _ _)
     (case c2=>intro u hu;simp at hu;rcases hu with rfl|rfl|rfl|rfl|rfl<;>rfl);case c3=>unfold maxLen;omega
     (case c4=>omega);case c5=>simp;omega
     intro v' w4 hown4 hgrow _;have hrow:=II HOW3.o;have H4:=au hown4;have HG:=au hgrow;have HRW:=au hrow;clear hown4 hgrow hrow;go_wp2;go_roundg k;case rel=>
      have hn3:∀(o1 o2:Obj) (b:Nat) (o:Obj),b<w.heap.size+2→w3.heap[b]?=some o→w4.heap[b]?=some o:=fun o1 o2 b o hb h=>
       zJ HG.o (aP (aP h)) (fun k hk=>by have:=HRW.o k hk;omega)
      refine⟨p'+n,l',f',toks++[⟨kind,(s.data.toList.drop p').take n,l',p'-f'+1,val⟩],by omega,by omega,by omega,by simp;omega,by omega,?_,⟨hn3 default default _ _ om hc3.out⟩,hn3 default default _ _ om mY.o,?_,?_,?_⟩
      ·rw[←hr0.out,List.drop_drop]
      ·have:=H4.o;rw[Ff,List.length_append];rw[Y0.o,Sl]at this;exact this
      ·exact((hw3.alloc _).alloc _).grown HG.o (fun k hk hlt=>by have:=HRW.o k hk;omega)
      ·have:=HG.o.size;simp at this;omega
     case measure=>omega
theorem U8 (s:ByteArray) (w:World) (hs:20000<s.size):Calls Tryz.prog 136 #[.string s] w (JC w.heap.size w (sS s.data.toList)):=by
 have HR:Hid (sS s.data.toList=.error (2,0,0)):=by show _=_;rw[sS,if_pos (by rw[←Lib.size_eq];omega)]
 generalize sS s.data.toList=dV at*;go_enter Tryz.func136,Tryz.ntmps136;go_wp2;refine bodyPost_ret (v:=.tuple #[ay,.agg #[ak 2,ak 0,ak 0]]) (by simp[results,Tryz.results136,go_sem]) rfl ?_;rw[HR.o];refine⟨rfl,?_⟩;exact(Step.refl _ w).alloc _
def Fh:List (List UInt8):=[[115,116,114,117,99,116],[116,114,97,105,116],[105,109,112,108],[102,111,114],[102,110],[119,104,101,114,101],[108,101,116],[105,102],[101,108,115,101],[119,104,105,108,101],[114,101,116,117,114,110],[97,98,111,114,116],[116,114,117,101],[102,97,108,115,101],[109,117,116],[100,121,110],[105,110,116],[98,111,111,108],[102,54,52],[115,101,108,102],[66,111,120],[117,110,98,111,120],[99,104,111,111,115,101],[110,101,119],[97,115]]
def zu (s:List UInt8):Bool:=Fh.contains s
def zL:List (List UInt8)→List UInt8
 |[]=>[32]
 |w::ws=>32::(w++zL ws)
theorem contains_one (l:List UInt8) (a:UInt8):Lib.contains l [a]=l.contains a:=by
 induction l with
 |nil=>rfl
 |cons b l ih=>rw[contains_cons,ih,List.contains_cons];show((a==b&&true)||_)=_;rw[Bool.and_true]
theorem Hu (w l s:List UInt8) (h:32∉w):Lib.contains (w++l) (32::s)=Lib.contains l (32::s):=by
 induction w with
 |nil=>rfl
 |cons b w ih=>
  have hb:((32:UInt8)==b)=false:=by rw[beq_eq_false_iff_ne];exact fun e=>h (e▸List.mem_cons_self)
  rw[List.cons_append,contains_cons,ih (fun e=>h (List.mem_cons_of_mem _ e))];show(((32:UInt8)==b&&_)||_)=_;rw[hb];rfl
theorem L9 (ws:List (List UInt8)):∃t,zL ws=32::t:=by
 cases ws with
 |nil=>exact⟨_,rfl⟩
 |cons w ws=>exact⟨_,rfl⟩
theorem JD:∀(s w t:List UInt8),32∉s→32∉w→(s++[32]).isPrefixOf (w++32::t)=(s==w):=by
 intro s;induction s with
 |nil=>
  intro w t _ hw;cases w with
  |nil=>simp[List.isPrefixOf]
  |cons b w=>(have hb:((32:UInt8)==b)=false:=by rw[beq_eq_false_iff_ne];exact fun e=>hw (e▸List.mem_cons_self));show((32:UInt8)==b&&_)=false;rw[hb];rfl
 |cons a s ih=>
  intro w t hs hw;cases w with
  |nil=>(have ha:(a==(32:UInt8))=false:=by rw[beq_eq_false_iff_ne];exact fun e=>hs (e▸List.mem_cons_self));show(a==(32:UInt8)&&_)=false;rw[ha];rfl
  |cons b w=>show(a==b&&(s++[32]).isPrefixOf (w++32::t))=(a==b&&s==w);rw[ih w t (fun e=>hs (List.mem_cons_of_mem _ e)) (fun e=>hw (List.mem_cons_of_mem _ e))]
theorem Hw (s:List UInt8) (hs:s≠[]) (h32:32∉s):∀ws:List (List UInt8),(∀w∈ws,32∉w)→Lib.contains (zL ws) (32::(s++[32]))=ws.contains s:=by
 intro ws;induction ws with
 |nil=>
  intro _;cases s with
  |nil=>exact absurd rfl hs
  |cons a s=>rw[zL,contains_cons,contains_nil];rfl
 |cons w ws ih=>intro hw;obtain⟨t,ht⟩:=L9 ws;have hw1:=hw w List.mem_cons_self;rw[zL,contains_cons,Hu w _ _ hw1,ih (fun x hx=>hw x (List.mem_cons_of_mem _ hx)),List.contains_cons];show((32:UInt8)==32&&(s++[32]).isPrefixOf (w++zL ws)||_)=_;rw[ht,JD s w t h32 hw1];rfl
def U9:List UInt8:=[32,115,116,114,117,99,116,32,116,114,97,105,116,32,105,109,112,108,32,102,111,114,32,102,110,32,119,104,101,114,101,32,108,101,116,32,105,102,32,101,108,115,101,32,119,104,105,108,101,32,114,101,116,117,114,110,32,97,98,111,114,116,32,116,114,117,101,32,102,97,108,115,101,32,109,117,116,32,100,121,110,32,105,110,116,32,98,111,111,108,32,102,54,52,32,115,101,108,102,32,66,111,120,32,117,110,98,111,120,32,99,104,111,111,115,101,32,110,101,119,32,97,115,32]
theorem L_:U9=zL Fh:=by decide
theorem Mc (s:List UInt8) (hs:s≠[]) (h32:32∉s):Lib.contains U9 (32::(s++[32]))=zu s:=by rw[L_];exact Hw s hs h32 Fh dc
theorem Md (s:List UInt8) (h:32∈s):zu s=false:=by
 cases e:zu s
 ·rfl
 ·have hm:s∈Fh:=List.contains_iff_mem.1 e;have:∀w∈Fh,32∉w:=by decide
  exact absurd h (this s hm)
def AQ (l:List UInt8):ByteArray:=⟨l.toArray⟩
theorem AU (s:ByteArray) (v:Bool) (m:Int) (w:World) (hs:s.size≤100000) (h:Lib.contains s.data.toList [32]=v) (hm:w.cell? ⟨0,0,none⟩=some (.int .i64 m)):Calls Tryz.prog 192 #[.string s,.string ⟨#[32]⟩] w fun e w'=>e=.returned (.bool v)∧w=w':=
 (Tryz.strings_Contains _ _ m _ om hm).mono fun _ _ hq=>⟨by rw[hq.1];exact bD h,hq.2.symm⟩
theorem Me (s:ByteArray) (w:World) (m:Int) (hs:s.size≤100000) (hm:w.cell? ⟨0,0,none⟩=some (.int .i64 m)):Calls Tryz.prog 160 #[.string s] w fun e w'=>e=.returned (.bool (zu s.data.toList))∧w=w':=by
 by_cases h0:s.data.toList=[]
 ·have hf:Hid (zu s.data.toList=false):=by show _=_;rw[h0];decide
  have he:s.toList=[]:=by rw[Lib.toList_data];exact h0
  have he':s.toList.isEmpty=true:=by rw[he];rfl
  clear h0;go_enter Tryz.func160,Tryz.ntmps160;go_wp2;go_ret;exact⟨bD hf.out.symm,rfl⟩
 ·have hpos:0<s.size:=by rw[Lib.size_eq];exact List.length_pos_iff.2 h0
  have he:=jL s hpos;have he':=jA s hpos;cases hb:Lib.contains s.data.toList [32]
  ·(have h32:32∉s.data.toList:=by rw[contains_one]at hb;intro e;rw[List.contains_iff_mem.2 e]at hb;simp at hb);have hp:=Mc _ h0 h32;have HP:=au hp;have HB:=au hb;clear hb h32 hp h0;go_enter Tryz.func160,Tryz.ntmps160;go_wp2_with fail;refine(AU s _ m _ hs HB.o hm).mono ?_;rintro e w' ⟨rfl,rfl⟩;go_wp2_with fail;refine(Tryz.strings_Contains _ _ m _ dc hm).mono ?_;rintro e w' ⟨rfl,rfl⟩;go_wp2;go_ret;refine⟨bD ?_,rfl⟩;rw[←HP.o];rfl
  ·(have hf:Hid (zu s.data.toList=false):=by show _=_;rw[contains_one]at hb;exact Md _ (List.contains_iff_mem.1 hb));have HB:=au hb;clear hb h0;go_enter Tryz.func160,Tryz.ntmps160;go_wp2_with fail;refine(AU s _ m _ hs HB.o hm).mono ?_;rintro e w' ⟨rfl,rfl⟩;go_wp2;go_ret;exact⟨bD hf.out.symm,rfl⟩
structure gJ where
 rb:Nat
 a:Option Addr
 c:Nat
 l:List Tok
 m:Int
structure bI (R:gJ) (w:World) (i d:Nat):Prop where
 blk:w.heap[R.rb]?=some (.cells #[.slice R.a R.l.length R.c,ak (i:Int),ak (d:Int)] 210 (0,0))
 row:Row w R.rb (.slice R.a R.l.length R.c) R.l.length (xC R.l)
 Sm:w.cell? ⟨0,0,none⟩=some (.int .i64 R.m)
 pos:0<R.rb
 lt:i<R.l.length
theorem bI.step {R:gJ} {w w':World} {i d:Nat} {S:Nat→Prop} (h:bI R w i d) (hs:Step S w w') (hS:∀k,k≤R.rb→¬S k):bI R w' i d:=
 ⟨hs.keep h.blk (hS _ (Nat.le_refl _)),h.row.step hs (fun k hk=>hS k om),hs.cell h.Sm (hS 0 (Nat.zero_le _)),h.pos,h.lt⟩
theorem bI.quiet {R:gJ} {w w':World} {i d:Nat} (h:bI R w i d) (hs:StF w w'):bI R w' i d:=h.step hs (fun _ _ h=>h)
structure oZ (l:List Tok):Prop where
 next:∀(i:Nat) t,l[i]?=some t→t.kind≠0→i+1<l.length
 len:l.length≤8001
 text:∀t∈l,t.text.length≤20000
theorem uI (l:List Tok) (i:Nat) (t:Tok) (h:l[i]?=some t) (j:Nat) (v:Value) (hv:t.cells[j]?=some v):(xC l)[i*5+j]?=some v:=by
 induction l generalizing i with
 |nil=>simp at h
 |cons x r ih=>
  have hc:x.cells.length=5:=rfl;show(x.cells++xC r)[i*5+j]?=some v;cases i with
  |zero=>simp at h;subst h;rw[Nat.zero_mul,Nat.zero_add,List.getElem?_append_left (List.getElem?_eq_some_iff.1 hv).1];exact hv
  |succ i=>rw[List.getElem?_append_right (by rw[hc];omega),hc,show(i+1)*5+j-5=i*5+j by omega];exact ih i (by simpa using h)
theorem Tryz.Ez:(Tryz.prog.info? 157).map (·.size)=some 5:=by kernel_rfl
theorem tokOne (t:Tok):∀u∈[Value.int .i64 t.kind,.string ⟨t.text.toArray⟩,ak t.line,ak t.col,cO t.val],u.oneCell'=true:=by intro u hu;simp at hu;rcases hu with rfl|rfl|rfl|rfl|rfl<;>rfl
theorem lN (R:gJ) (w:World) (i d:Nat) (t:Tok) (h:bI R w i d) (ht:R.l[i]?=some t):Calls Tryz.prog 83 #[.pointer (some ⟨R.rb,0,none⟩)] w fun e w'=>e=.returned (.agg #[ak t.kind,.string ⟨t.text.toArray⟩,ak t.line,ak t.col,cO t.val])∧StF w w':=by
 obtain⟨rb,a,c,l,m⟩:=R;obtain⟨hb,hr,-,-,hlt⟩:=h;simp only at hb hr ht hlt;obtain⟨a',c',hva,hc1,hc2,-,hrr⟩:=hr;obtain⟨rfl,rfl⟩:a=a'∧c=c':=by cases hva;exact⟨rfl,rfl⟩
 obtain⟨g,o,rfl,-,-,hcell⟩:=hrr om;have f0:=hcell _ _ (uI l i t ht 0 _ rfl);have f1:=hcell _ _ (uI l i t ht 1 _ rfl);have f2:=hcell _ _ (uI l i t ht 2 _ rfl);have f3:=hcell _ _ (uI l i t ht 3 _ rfl);have f4:=hcell _ _ (uI l i t ht 4 _ rfl);rw[Nat.add_zero]at f0;rw[←Nat.add_assoc]at f1 f2 f3 f4;have e0:((l.length:Int)==0)=false:=by simpa using(by omega:¬(l.length:Int)=0)
 have e1:(l.length==0)=false:=by simpa using(by omega:¬l.length=0)
 have e2:decide ((l.length:Int)≤(i:Int))=false:=decide_eq_false om;have hi0:(0:Int)≤(i:Int):=by omega
 have hi1:(i:Int)<(l.length:Int):=by omega
 obtain⟨w1,hw1⟩:=aN (w.alloc (.cells #[ak 0,di,ak 0,ak 0,cO 0] 157));have HB1:Hid (w1.heap[rb]?=some (.cells #[.slice (some ⟨g,o,none⟩) l.length c,ak (i:Int),ak (d:Int)] 210 (0,0))):=by rw[hw1];exact aP hb
 have qL:=nS hw1
 have kT:=nB hw1
 have HW1:=au hw1;have F:Hid (∀X,StF w1 X→X.cell? ⟨rb,0,none⟩=some (.slice (some ⟨g,o,none⟩) l.length c)∧X.cell? ⟨rb,1,none⟩=some (.int .i64 i)∧X.cell? ⟨g,o+i*5,none⟩=some (.int .i64 t.kind)∧X.cell? ⟨g,o+i*5+1,none⟩=some (.string ⟨t.text.toArray⟩)∧X.cell? ⟨g,o+i*5+2,none⟩=some (.int .i64 t.line)∧X.cell? ⟨g,o+i*5+3,none⟩=some (.int .i64 t.col)∧X.cell? ⟨g,o+i*5+4,none⟩=some (.int .u64 t.val)):=by intro X hX;have h:=qL.o.trans hX;have hb:=hX.keep HB1.o (fun h=>h);exact⟨aj hb 0 _ rfl,aj hb 1 _ rfl,h.cell f0 (fun h=>h),h.cell f1 (fun h=>h),h.cell f2 (fun h=>h),h.cell f3 (fun h=>h),h.cell f4 (fun h=>h)⟩
 clear hcell hrr hva hc1 hc2 ht hb f0 f1 f2 f3 f4 hw1;obtain⟨k0,k1,f0,f1,f2,f3,f4⟩:=F.o w1 bK;go_enter Tryz.func83,Tryz.ntmps83;go_upto_region 1 with fail
 rw[←HW1.o];go_wp2;go_still_tail 10,kr;change wpList _ _ _ _ _ w1.drew;go_wp2;clear k0 k1 f0 f1 f2 f3 f4;obtain⟨w2,hw2⟩:=aN w1.drew;rw[←hw2];have qx:Hid (StF w1 w2):=by rw[hw2];exact bK.drew
 clear hw2;obtain⟨k0,k1,f0,f1,f2,f3,f4⟩:=F.o w2 qx.o;go_still_tail 10,kr;change wpList _ _ _ _ _ w2.drew;have m_:Hid (w2.drew.heap[w.heap.size]?=some (.cells #[ak 0,di,ak 0,ak 0,cO 0] 157 (0,0))):=Aq (qx.o.keep kT.o (fun h=>h));have gu:Hid (StF w w2.drew):=(qL.o.trans qx.o).drew;have eG:Hid (∀u∈[Value.int .i64 t.kind,.string ⟨t.text.toArray⟩,ak t.line,ak t.col,cO t.val],u.oneCell'=true):=tokOne t;clear k0 k1 f0 f1 f2 f3 f4
 go_wp2_with (refine aG (w:=w2.drew) rfl 157 (.tmp 2) (.tmp 49) rfl w.heap.size 0 157 _ [.int .i64 t.kind,.string ⟨t.text.toArray⟩,.int .i64 t.line,.int .i64 t.col,.int .u64 t.val] rfl rfl m_.o Tryz.Ez (Nat.le_of_eq rfl) eG.o ?_
              intro w4 hb4 xG)
 have hb4':w4.heap[w.heap.size]?=some (.cells [Value.int .i64 t.kind,.string ⟨t.text.toArray⟩,ak t.line,ak t.col,cO t.val].toArray 157 (0,0)):=hb4;refine bodyPost_ret (aY rfl _ w.heap.size 157 _ _ rfl hb4' Tryz.underlying157 rfl Tryz.Ez) rfl ⟨rfl,?_⟩;exact gu.o.then xG oi
theorem at_at (R:gJ) (w:World) (i d:Nat) (t:Tok) (h:bI R w i d) (ht:R.l[i]?=some t):Calls Tryz.prog 107 #[.pointer (some ⟨R.rb,0,none⟩)] w fun e w'=>e=.returned (.agg #[ak t.line,ak t.col])∧StF w w':=by
 have H:=au h;have HT:=au ht;clear h ht;have hfd:∀(a0 a1 a2 a3 a4:Value) (w:World),(Instr.field 157 (.agg #[a0,a1,a2,a3,a4]) 2).run Tryz.prog w=.ok (.agg #[a2,a3]) w:=fun _ _ _ _ _ _=>by kernel_rfl
 go_enter Tryz.func107,Tryz.ntmps107;go_wp2_with fail;refine(lN R _ i d t (H.o.quiet ((Step.refl _ w).alloc _)) HT.o).mono ?_;rintro e w1 ⟨rfl,h1⟩;obtain⟨⟨d0,d1⟩,e0,e1⟩:=RS (h1.keep (aC w _) (fun h=>h));go_wp2;refine bodyPost_ret (v:=.agg #[ak t.line,ak t.col]) (by simp[results,Tryz.results107,go_sem,d0,d1]) rfl ⟨rfl,?_⟩;have hs:StF w w1:=((Step.refl _ w).alloc _).trans h1;exact(hs.setCell _ _ (fun hl=>absurd hl (Nat.lt_irrefl _))).setCell _ _ (fun hl=>absurd hl (Nat.lt_irrefl _))
theorem qi (R:gJ) (c:Nat) (w:World) (i d:Nat) (t:Tok) (h:bI R w i d) (ht:R.l[i]?=some t):Calls Tryz.prog 139 #[.pointer (some ⟨R.rb,0,none⟩),.int .i64 c] w fun e w'=>e=.panicked [{v:=.iface 251 (.agg #[ak c,ak t.line,ak t.col]),recovered:=false}]∧StF w w':=by have H:=au h;have HT:=au ht;clear h ht;go_enter Tryz.func139,Tryz.ntmps139;go_wp2_with fail;refine(at_at R _ i d t H.o HT.o).mono ?_;rintro e w1 ⟨rfl,h1⟩;go_wp2;exact⟨rfl,rfl,h1⟩
theorem kQ (n k:Nat) (K:Int) (h:K=(k:Int)):((n:Int)==K)=(n==k):=by
 subst h;by_cases e:n=k
 ·subst e;simp
 ·have h2:¬(n:Int)=(k:Int):=by omega
  rw[beq_eq_false_iff_ne.2 h2,beq_eq_false_iff_ne.2 e]
def wO (t:Tok) (s:List UInt8):Bool:=t.text==s&&(t.kind==5||(t.kind==1&&zu s))
theorem zM {t:Tok} {s:List UInt8} (h:wO t s=true):t.kind≠0:=by unfold wO at h;intro e;rw[e]at h;simp at h
theorem bytes_eq (x s:ByteArray):(x.toList==s.toList)=(x.data.toList==s.data.toList):=by rw[Lib.toList_data,Lib.toList_data]
theorem QB (R:gJ) (s:ByteArray) (w:World) (i d:Nat) (t:Tok) (h:bI R w i d) (ht:R.l[i]?=some t) (hs:s.size≤100000):Calls Tryz.prog 158 #[.pointer (some ⟨R.rb,0,none⟩),.string s] w fun e w'=>e=.returned (.bool (wO t s.data.toList))∧StF w w':=by
 have H:=au h;have HT:=au ht;obtain⟨x,hx⟩:∃x:ByteArray,x=⟨t.text.toArray⟩:=⟨_,rfl⟩;obtain⟨be,hbe⟩:∃be,(x.toList==s.toList)=be:=⟨_,rfl⟩;have HF:Hid (wO t s.data.toList=(be&&(t.kind==5||(t.kind==1&&zu s.data.toList)))):=by show _=_;unfold wO;rw[←hbe,bytes_eq,hx]
 have HPK:=au (lN R w i d t h ht);rw[←hx]at HPK;obtain⟨k5,hk5⟩:∃b,((t.kind:Int)==5)=b:=⟨_,rfl⟩;obtain⟨k1,hk1⟩:∃b,((t.kind:Int)==1)=b:=⟨_,rfl⟩;have OJ:Hid ((t.kind==5)=k5):=((kQ t.kind 5 5 rfl).symm.trans hk5);have HK1:Hid ((t.kind==1)=k1):=((kQ t.kind 1 1 rfl).symm.trans hk1);clear h ht hx;go_enter Tryz.func158,Tryz.ntmps158;go_wp2_with fail;refine HPK.o.mono ?_;rintro e w1 ⟨rfl,h1⟩;have IL:=au ((H.o.quiet h1).Sm);have dH:=au h1;clear h1;cases be with
 |false=>go_wp2;go_ret;exact⟨by rw[HF.o];rfl,dH.o.alloc _⟩
 |true=>
  cases k5 with
  |true=>go_wp2;go_ret;exact⟨by rw[HF.o,OJ.o];rfl,dH.o.alloc _⟩
  |false=>
   cases k1 with
   |false=>go_wp2;go_ret;exact⟨by rw[HF.o,OJ.o,HK1.o];rfl,dH.o.alloc _⟩
   |true=>have U_:=au (Me s (w1.alloc (.cells #[ak t.kind,a_ x,ak t.line,ak t.col,cO t.val] 157)) R.m hs (((Step.refl (fun _=>False) _).alloc _).cell IL.o (fun h=>h)));go_wp2_with fail;refine U_.o.mono ?_;rintro e w2 ⟨rfl,rfl⟩;go_wp2;go_ret;exact⟨by rw[HF.o,OJ.o,HK1.o];rfl,dH.o.alloc _⟩
theorem bI.next {R:gJ} {w w':World} {i d:Nat} (h:bI R w i d) (hi:i+1<R.l.length) (hb:w'.heap[R.rb]?=some (.cells #[.slice R.a R.l.length R.c,ak ((i+1:Nat):Int),ak (d:Int)] 210 (0,0))) (hs:Step (·=R.rb) w w'):bI R w' (i+1) d:=
 ⟨hb,h.row.step hs oi,hs.cell h.Sm (fun e=>by have h2:=h.pos;have e2:0=R.rb:=e;omega),h.pos,hi⟩
def isI (t:Tok) (s:List UInt8) (i:Nat):Nat:=if wO t s then i+1 else i
theorem is_at (R:gJ) (hl:oZ R.l) (s:ByteArray) (w:World) (i d:Nat) (t:Tok) (h:bI R w i d) (ht:R.l[i]?=some t) (hs:s.size≤100000):Calls Tryz.prog 110 #[.pointer (some ⟨R.rb,0,none⟩),.string s] w fun e w'=>e=.returned (.bool (wO t s.data.toList))∧bI R w' (isI t s.data.toList i) d∧Step (·=R.rb) w w':=by
 have H:=au h;have HT:=au ht;have HSE:=au (QB R s w i d t h ht hs);have hl1:i<8001:=by have:=h.lt;have:=hl.len;omega
 have kC:Hid (wO t s.data.toList=true→i+1<R.l.length):=fun hh=>hl.next i t ht (zM hh);obtain⟨sb,hsb⟩:=aN (wO t s.data.toList);have G6:=au hsb;rw[←hsb]at HSE kC;rw[←hsb];have R1:IntKind.i64.wrap ((i:Int)+1)=((i+1:Nat):Int):=by rw[show((i:Int)+1)=((i+1:Nat):Int) by omega];exact IntWalk.i64_in _ om
 clear h ht hl hs hsb;go_enter Tryz.func110,Tryz.ntmps110;go_wp2_with fail;refine HSE.o.mono ?_;rintro e w1 ⟨rfl,h1⟩;have H1:=au (H.o.quiet h1);have dH:Hid (Step (·=R.rb) w w1):=h1.mono fe;clear h1;cases sb with
 |false=>go_wp2;go_ret;exact⟨rfl,by unfold isI;rw[←G6.o,if_neg dc];exact H1.o,dH.o⟩
 |true=>have k1:=aj H1.o.blk 1 _ rfl;have z1:=aI H1.o.blk 1;go_wp2;go_ret;have hset:=aW H1.o.blk 1 (.int .i64 ((i+1:Nat):Int));have hst:Step (·=R.rb) w1 (w1.setCell ⟨R.rb,1,none⟩ (.int .i64 ((i+1:Nat):Int))):=bK.setCell _ _ iW;refine⟨rfl,?_,dH.o.trans hst⟩;unfold isI;rw[←G6.o,if_pos rfl];exact H1.o.next (by simpa using kC.o) hset hst
theorem AV (R:gJ) (hl:oZ R.l) (w:World) (i d:Nat) (t:Tok) (h:bI R w i d) (ht:R.l[i]?=some t) (hk:t.kind≠0):Calls Tryz.prog 159 #[.pointer (some ⟨R.rb,0,none⟩)] w fun e w'=>e=.returned (.agg #[ak t.kind,.string ⟨t.text.toArray⟩,ak t.line,ak t.col,cO t.val])∧bI R w' (i+1) d∧Step (·=R.rb) w w':=by
 have H:=au h;have HT:=au ht;have hl1:i<8001:=by have:=h.lt;have:=hl.len;omega
 have kC:Hid (i+1<R.l.length):=hl.next i t ht hk;have R1:IntKind.i64.wrap ((i:Int)+1)=(i:Int)+1:=IntWalk.i64_in _ om;have e0:((t.kind:Int)==0)=false:=by rw[kQ t.kind 0 0 rfl];exact beq_eq_false_iff_ne.2 hk
 have e1:((t.kind:Int) !=0)=true:=by rw[bne,e0];rfl
 have hlt:=aK h.blk;clear h ht hl hk;go_enter Tryz.func159,Tryz.ntmps159;go_wp2_with fail;refine(lN R _ i d t (H.o.quiet ((Step.refl _ w).alloc _)) HT.o).mono ?_;rintro e w1 ⟨rfl,h1⟩;obtain⟨x,hx⟩:∃x:ByteArray,x=⟨t.text.toArray⟩:=⟨_,rfl⟩;rw[←hx];have HXE:=au hx;clear hx;have H1:=au (H.o.quiet (((Step.refl (fun _=>False) w).alloc _).trans h1));have dH:Hid (StF w w1):=((Step.refl (fun _=>False) w).alloc _).trans h1;have kT:=au (h1.keep (aC w _) (fun h=>h));have hsz:w.heap.size<w1.heap.size:=by have:=h1.size;simp at this;omega
 obtain⟨w2,hw2⟩:=aN (w1.alloc (.cells #[ak t.kind,a_ x,ak t.line,ak t.col,cO t.val] 157));have HS2:=nS hw2
 have HB2:=nB hw2
 have HW2:=au hw2;clear h1 hw2;go_upto_region 2 with fail
 rw[←HW2.o];have H2:=au (H1.o.quiet HS2.o);have k1:=aj H2.o.blk 1 _ rfl;have z1:=aI H2.o.blk 1;obtain⟨⟨q0,q1,q2,q3,q4⟩,-⟩:=vV HB2.o;go_upto_region 4 with fail
 have hset:=aW H2.o.blk 1 (.int .i64 ((i:Int)+1));have hst:Step (·=R.rb) w2 (w2.setCell ⟨R.rb,1,none⟩ (.int .i64 ((i:Int)+1))):=bK.setCell _ _ iW;have H3:=au (H2.o.next kC.o hset hst);obtain⟨w3,hw3⟩:=aN (w2.setCell ⟨R.rb,1,none⟩ (.int .i64 ((i:Int)+1)));rw[←hw3]at hst H3⊢;have fK:Hid (Step (·=R.rb) w w3):=((dH.o.trans HS2.o).mono fe).trans hst;have HB3:=au (hst.keep HB2.o om);have tJ:=au (hst.keep (HS2.o.keep kT.o (fun h=>h)) om);clear hst hset hw3 k1 z1 q0 q1 q2 q3 q4;have eG:Hid (∀u∈[Value.int .i64 t.kind,a_ x,ak t.line,ak t.col,cO t.val],u.oneCell'=true):=by intro u hu;simp at hu;rcases hu with rfl|rfl|rfl|rfl|rfl<;>rfl
 obtain⟨⟨q0,q1,q2,q3,q4⟩,-⟩:=vV HB3.o
 go_wp2_with (refine aG (w:=w3) rfl 157 (.tmp 2) (.tmp 16) rfl w.heap.size 0 157 _ [.int .i64 t.kind,.string x,.int .i64 t.line,.int .i64 t.col,.int .u64 t.val] rfl rfl tJ.o Tryz.Ez (Nat.le_of_eq rfl) eG.o ?_
              intro w4 hb4 xG)
 have hb4':w4.heap[w.heap.size]?=some (.cells [Value.int .i64 t.kind,a_ x,ak t.line,ak t.col,cO t.val].toArray 157 (0,0)):=hb4;refine bodyPost_ret (aY rfl _ w.heap.size 157 _ _ rfl hb4' Tryz.underlying157 rfl Tryz.Ez) rfl ⟨by rw[HXE.o],?_,?_⟩
 ·exact H3.o.step xG oi
 ·exact fK.o.then xG oi
def xH (t:Tok):Bool:=t.kind==1&& !zu t.text
def xI (R:gJ) (i d:Nat) (t:Tok) (w:World) (e:Ending) (w':World):Prop:=
 (if xH t then e=.returned (.string ⟨t.text.toArray⟩)∧bI R w' (i+1) d else e=.panicked [{v:=.iface 251 (.agg #[ak 1,ak t.line,ak t.col]),recovered:=false}])∧Step (·=R.rb) w w'
theorem Y1 (R:gJ) (hl:oZ R.l) (w:World) (i d:Nat) (t:Tok) (h:bI R w i d) (ht:R.l[i]?=some t):Calls Tryz.prog 113 #[.pointer (some ⟨R.rb,0,none⟩)] w (xI R i d t w):=by
 have H:=au h;have HT:=au ht;have HL:=au hl;obtain⟨x,hx⟩:∃x:ByteArray,x=⟨t.text.toArray⟩:=⟨_,rfl⟩;have hxs:x.size≤100000:=by have:=hl.text t (List.mem_of_getElem? ht);rw[hx];show t.text.toArray.size≤100000;simp;omega
 have HXE:Hid (x.data.toList=t.text):=by show _=_;rw[hx]
 have HPK:=au (lN R w i d t h ht);rw[←hx]at HPK;obtain⟨k1,hk1⟩:∃b,((t.kind:Int) !=1)=b:=⟨_,rfl⟩;have HK1:Hid ((t.kind==1)= !k1):=by show _=_;rw[←hk1,bne,kQ t.kind 1 1 rfl,Bool.not_not]
 obtain⟨x2,hx2⟩:=aN (x:ByteArray);have kC:=au hx;clear h ht hl hx;go_enter Tryz.func113,Tryz.ntmps113;go_wp2_with fail;refine HPK.o.mono ?_;rintro e w1 ⟨rfl,h1⟩;have dH:=au (h1.alloc (.cells #[ak t.kind,a_ x,ak t.line,ak t.col,cO t.val] 157));have H1:=au (H.o.quiet dH.o);clear h1;cases k1 with
 |true=>
  have eX:Hid (xH t=false):=by show _=_;unfold xH;rw[HK1.o];rfl
  go_wp2_with fail;refine(qi R 1 _ i d t H1.o HT.o).mono ?_;rintro e w2 ⟨rfl,h2⟩;refine⟨rfl,?_⟩;unfold xI;rw[eX.o];exact⟨rfl,(dH.o.trans h2).mono fe⟩
 |false=>
  obtain⟨wb,hwb⟩:=aN (zu x.data.toList);have U_:=au (Me x (w1.alloc (.cells #[ak t.kind,a_ x,ak t.line,ak t.col,cO t.val] 157)) R.m hxs H1.o.Sm);rw[←hwb]at U_;have eX:Hid (xH t= !wb):=by show _=_;unfold xH;rw[HK1.o,hwb,HXE.o];rfl
  clear hwb;go_wp2_with fail;refine U_.o.mono ?_;rintro e w2 ⟨rfl,rfl⟩;cases wb with
  |true=>go_wp2_with fail;refine(qi R 1 _ i d t H1.o HT.o).mono ?_;rintro e w2 ⟨rfl,h2⟩;refine⟨rfl,?_⟩;unfold xI;rw[eX.o];exact⟨rfl,(dH.o.trans h2).mono fe⟩
  |false=>(have hk0:t.kind≠0:=by intro e;have h2:=HK1.o;rw[e]at h2;cases h2);have HNXT:=au (AV R HL.o _ i d t H1.o HT.o hk0);rw[←kC.o]at HNXT;(have hfd:∀(a0 a1 a2 a3 a4:Value) (w:World),(Instr.field 157 (.agg #[a0,a1,a2,a3,a4]) 1).run Tryz.prog w=.ok a1 w:=fun _ _ _ _ _ _=>by kernel_rfl);clear hk0;go_wp2_with fail;refine HNXT.o.mono ?_;rintro e w3 ⟨rfl,hr,h3⟩;have HR3:=au hr;clear hr;go_wp2;go_ret;unfold xI;rw[eX.o];refine⟨?_,(dH.o.mono fe).trans h3⟩;exact⟨by show Ending.returned (.string x)=_;rw[kC.o],HR3.o⟩
def AX (R:gJ) (i d:Nat) (t:Tok) (s:List UInt8) (w:World) (e:Ending) (w':World):Prop:=
 (if wO t s then e=.returned (.tuple #[])∧bI R w' (i+1) d else e=.panicked [{v:=.iface 251 (.agg #[ak 1,ak t.line,ak t.col]),recovered:=false}])∧Step (·=R.rb) w w'
theorem Y2 (R:gJ) (hl:oZ R.l) (g:Nat) (s:ByteArray) (w:World) (i d:Nat) (t:Tok) (h:bI R w i d) (ht:R.l[i]?=some t) (hs:s.size≤100000) (hg:w.cell? ⟨g,0,none⟩=some (.string s)):Calls Tryz.prog 111 #[.pointer (some ⟨R.rb,0,none⟩),.slice (some ⟨g,0,none⟩) 1 1] w (AX R i d t s.data.toList w):=by
 have H:=au h;have HT:=au ht;have HIS:=au (is_at R hl s w i d t h ht hs);obtain⟨sb,hsb⟩:=aN (wO t s.data.toList);have G6:=au hsb;rw[←hsb]at HIS;clear h ht hl hsb;go_enter Tryz.func111,Tryz.ntmps111;go_wp2_with fail;go_loopg [5,8] 2 (fun gg s5 s8 wr=>(s8=.int .i64 0∧wr=w∧1≤gg)∨(s8=.int .i64 1∧sb=true∧bI R wr (i+1) d∧Step (·=R.rb) w wr));case atStart=>exact .inl ⟨rfl,rfl,by omega⟩
 case round=>
  rcases hrel with⟨rfl,rfl,hgg⟩|⟨rfl,rfl,hr,hst⟩
  ·go_wp2_with fail;refine HIS.o.mono ?_;rintro e w2 ⟨rfl,hr,h2⟩;have HR2:=au hr;have HS2:=au h2;clear hr h2;cases sb with
   |false=>(have hii:isI t s.data.toList i=i:=by unfold isI;rw[←G6.o,if_neg dc]);(have HR3:Hid (bI R w2 i d):=by have h5:=HR2.o;rw[hii]at h5;exact h5);clear hii;go_wp2_with fail;refine(qi R 1 _ i d t HR3.o HT.o).mono ?_;rintro e w3 ⟨rfl,h3⟩;refine⟨rfl,?_⟩;unfold AX;rw[←G6.o];exact⟨rfl,HS2.o.trans (h3.mono fe)⟩
   |true=>
    (have hii:isI t s.data.toList i=i+1:=by unfold isI;rw[←G6.o,if_pos rfl]);(have HR3:Hid (bI R w2 (i+1) d):=by have h5:=HR2.o;rw[hii]at h5;exact h5);clear hii;go_wp2_with fail;go_roundg (gk-1);case rel=>exact .inr ⟨rfl,trivial,HR3.o,HS2.o⟩
    case measure=>omega
  ·have HR:=au hr;have HS:=au hst;clear hr hst;go_wp2_with fail;refine bodyPost_end (results_none rfl _ _ _) rfl ?_;unfold AX;rw[←G6.o];exact⟨⟨rfl,HR.o⟩,HS.o⟩
def Enters (k:Nat):Prop:=∀(xs:Array Value) (w:World),Sem.run Tryz.prog (callFunc k xs) w=.ok (.enter k xs) w
theorem zN (R:gJ) (k:Nat) (caps:List Value) (w:World) (i d:Nat) (t:Tok) (h:bI R w i d) (ht:R.l[i]?=some t) (hd:d=40):Calls Tryz.prog 108 #[.pointer (some ⟨R.rb,0,none⟩),.func (.func k) #[] caps.toArray] w fun e w'=>e=.panicked [{v:=.iface 251 (.agg #[ak 2,ak t.line,ak t.col]),recovered:=false}]∧StF w w':=by
 have hfe:∀(fn:Fn) (x y:Array Value) (w:World),(binOp .eql 1 (.func fn x y) .nilFunc).run Tryz.prog w=.ok (.bool false) w:=fun _ _ _ _=>by kernel_rfl
 subst hd;have H:=au h;have HT:=au ht;have k2:=aj h.blk 2 _ rfl;clear h ht;go_enter Tryz.func108,Tryz.ntmps108;go_wp2_with fail;refine(qi R 2 _ i 40 t H.o HT.o).mono ?_;rintro e w1 ⟨rfl,h1⟩;exact⟨rfl,rfl,h1⟩
theorem bI.deep {R:gJ} {w w':World} {i d d':Nat} (h:bI R w i d) (hb:w'.heap[R.rb]?=some (.cells #[.slice R.a R.l.length R.c,ak (i:Int),ak (d':Int)] 210 (0,0))) (hs:Step (·=R.rb) w w'):bI R w' i d':=
 ⟨hb,h.row.step hs oi,hs.cell h.Sm (fun e=>by have h2:=h.pos;have e2:0=R.rb:=e;omega),h.pos,h.lt⟩
def Va (R:gJ) (d:Nat) (Q:Nat→World→Prop) (e:Ending) (w':World):Prop:=
 e=.returned (.tuple #[])∧∃(i':Nat) (w2:World),Q i' w2∧bI R w' i' d∧Step (·=R.rb) w2 w'
theorem JE (R:gJ) (k:Nat) (caps:List Value) (w:World) (i d:Nat) (Q:Nat→World→Prop) (hk:Enters k) (h:bI R w i d) (hd:d<40) (hby:∀w1,bI R w1 i (d+1)→Step (·=R.rb) w w1→Calls Tryz.prog k caps.toArray w1 fun e w2=>e=.returned (.tuple #[])∧∃i',bI R w2 i' (d+1)∧Q i' w2):Calls Tryz.prog 108 #[.pointer (some ⟨R.rb,0,none⟩),.func (.func k) #[] caps.toArray] w (Va R d Q):=by
 have hfe:∀(fn:Fn) (x y:Array Value) (w:World),(binOp .eql 1 (.func fn x y) .nilFunc).run Tryz.prog w=.ok (.bool false) w:=fun _ _ _ _=>by kernel_rfl
 have hen:Enters k:=hk;unfold Enters at hen;have H:=au h;have HBY:=au hby;have k2:=aj h.blk 2 _ rfl;have z2:=aI h.blk 2;have e40:((d:Int)==40)=false:=by rw[kQ d 40 40 rfl];exact beq_eq_false_iff_ne.2 om
 have R1:IntKind.i64.wrap ((d:Int)+1)=(d:Int)+1:=IntWalk.i64_in _ om;have R2:IntKind.i64.wrap ((d:Int)+1-1)=(d:Int):=by rw[show((d:Int)+1-1)=(d:Int) by omega];exact IntWalk.i64_in _ om
 have R3:((d:Int)+1-1)=(d:Int):=by omega
 clear h hby hk;go_enter Tryz.func108,Tryz.ntmps108;go_wp2_with fail;have hset:=aW H.o.blk 2 (.int .i64 ((d:Int)+1));have hst:Step (·=R.rb) w (w.setCell ⟨R.rb,2,none⟩ (.int .i64 ((d:Int)+1))):=bK.setCell _ _ iW;refine(HBY.o _ (H.o.deep hset hst) hst).mono ?_;rintro e w2 ⟨rfl,i',hr,hq⟩;have HR:=au hr;have HQ:=au hq;clear hset hst hr hq k2 z2;have k2:w2.cell? ⟨R.rb,2,none⟩=some (.int .i64 ((d:Int)+1)):=aj HR.o.blk 2 _ rfl;have z2:=aI HR.o.blk 2;go_wp2_with fail;refine bodyPost_end (results_none rfl _ _ _) rfl ?_;have hset:=aW HR.o.blk 2 (.int .i64 (d:Int));have hst:Step (·=R.rb) w2 (w2.setCell ⟨R.rb,2,none⟩ (.int .i64 (d:Int))):=bK.setCell _ _ iW;exact⟨rfl,i',w2,HQ.o,HR.o.deep hset hst,hst⟩
theorem Fj (R:gJ) (k:Nat) (caps:List Value) (w:World) (i d:Nat) (es:List PanicEntry) (Q:World→Prop) (hk:Enters k) (h:bI R w i d) (hd:d<40) (hby:∀w1,bI R w1 i (d+1)→Step (·=R.rb) w w1→Calls Tryz.prog k caps.toArray w1 fun e w2=>e=.panicked es∧Q w2):Calls Tryz.prog 108 #[.pointer (some ⟨R.rb,0,none⟩),.func (.func k) #[] caps.toArray] w fun e w'=>e=.panicked es∧Q w':=by
 have hfe:∀(fn:Fn) (x y:Array Value) (w:World),(binOp .eql 1 (.func fn x y) .nilFunc).run Tryz.prog w=.ok (.bool false) w:=fun _ _ _ _=>by kernel_rfl
 have hen:Enters k:=hk;unfold Enters at hen;have H:=au h;have HBY:=au hby;have k2:=aj h.blk 2 _ rfl;have z2:=aI h.blk 2;have e40:((d:Int)==40)=false:=by rw[kQ d 40 40 rfl];exact beq_eq_false_iff_ne.2 om
 have R1:IntKind.i64.wrap ((d:Int)+1)=(d:Int)+1:=IntWalk.i64_in _ om;clear h hby hk;go_enter Tryz.func108,Tryz.ntmps108;go_wp2_with fail;have hset:=aW H.o.blk 2 (.int .i64 ((d:Int)+1));have hst:Step (·=R.rb) w (w.setCell ⟨R.rb,2,none⟩ (.int .i64 ((d:Int)+1))):=bK.setCell _ _ iW;refine(HBY.o _ (H.o.deep hset hst) hst).mono ?_;rintro e w2 ⟨rfl,hq⟩;exact⟨rfl,rfl,hq⟩
def cu (w:World) (P:Nat→Prop) (v:Value) (n:Nat) (xs:List Value):Prop:=
 ∃a c,v=.slice a n c∧n≤c∧c≤9223372036854775807∧(a=none→n=0∧c=0)∧(0<n→∃g o,a=some ⟨g,o,none⟩∧P g∧g<w.heap.size∧∀(i:Nat) x,xs[i]?=some x→w.cell? ⟨g,o+i,none⟩=some x)
theorem cu.step {w w':World} {P:Nat→Prop} {v:Value} {n:Nat} {xs:List Value} {S:Nat→Prop} (h:cu w P v n xs) (hs:Step S w w') (hS:∀k,P k→¬S k):cu w' P v n xs:=by obtain⟨a,c,hv,hc,hm,hz,hr⟩:=h;refine⟨a,c,hv,hc,hm,hz,fun hn=> ?_⟩;obtain⟨g,o,ha,hg,hgw,hcell⟩:=hr hn;exact⟨g,o,ha,hg,Nat.lt_of_lt_of_le hgw hs.size,fun i x hx=>hs.cell (hcell i x hx) (hS g hg)⟩
theorem cu.mono {w:World} {P P':Nat→Prop} {v:Value} {n:Nat} {xs:List Value} (h:cu w P v n xs) (hp:∀k,k<w.heap.size→P k→P' k):cu w P' v n xs:=by obtain⟨a,c,hv,hc,hm,hz,hr⟩:=h;refine⟨a,c,hv,hc,hm,hz,fun hn=> ?_⟩;obtain⟨g,o,ha,hg,hgw,hcell⟩:=hr hn;exact⟨g,o,ha,hp g hgw hg,hgw,hcell⟩
theorem cu.nil (w:World) (P:Nat→Prop) (xs:List Value):cu w P (.slice none 0 0) 0 xs:=⟨none,0,rfl,Nat.le_refl _,by decide,fun _=>⟨rfl,rfl⟩,fun h=>absurd h (Nat.lt_irrefl _)⟩
theorem cu.new {w:World} {P:Nat→Prop} {b t n:Nat} {cs:List Value} (h:w.heap[b]?=some (.cells cs.toArray t (0,0))) (hn:n≤9223372036854775807) (hp:P b):cu w P (.slice (some ⟨b,0,none⟩) n n) n cs:=by
 refine⟨_,n,rfl,Nat.le_refl _,hn,gQ,fun _=>⟨b,0,rfl,hp,aK h,fun i x hx=> ?_⟩⟩;have:=vO h i x hx
 rwa [Jv]at this
theorem cu.eu {w:World} {P:Nat→Prop} {base:Nat} {e:TypeId} {size:Nat} {v:Value} {n:Nat} {xs:List Value} (h:w.ownsRow base e size v n xs) (hp:∀k,v.ownBlock=some k→P k):cu w P v n xs:=by have h2:=Row.eu (B:=w.heap.size) h (Nat.le_refl _);obtain⟨a,c,hv,hc,hm,hz,hr⟩:=h2;refine⟨a,c,hv,hc,hm,hz,fun hn=> ?_⟩;obtain⟨g,o,ha,hg,hgw,hcell⟩:=hr hn;exact⟨g,o,ha,hp g (by rw[hv,ha];rfl),hgw,hcell⟩
theorem cu.row {w:World} {P:Nat→Prop} {B:Nat} {v:Value} {n:Nat} {xs:List Value} (h:cu w P v n xs) (hp:∀k,k<w.heap.size→P k→k<B):Row w B v n xs:=cu.mono (P':=fun k=>k<B) h hp
inductive Ty where
 |mk (kind:Int) (name life:ByteArray) (mu:Bool) (aB:List ByteArray) (args:List Ty) (line col:Int)
mutual
inductive Ex where
 |mk (kind:Int) (name:ByteArray) (val:Int) (mu:Bool) (args:List Ex) (names:List ByteArray) (body:List St) (line col:Int)
inductive St where
 |mk (kind:Int) (name:ByteArray) (type:Ty) (place e:List Ex) (body els:List St) (other:Bool) (line col:Int)
end
mutual
def iC (w:World) (P:Nat→Prop):Ty→List Value→Prop
 | .mk k name life m aB args l c,cs=>∃vl va xs,cs=[.int .i64 k,.string name,.string life,.bool m,vl,va,.int .i64 l,.int .i64 c]∧name.size≤9223372036854775807∧life.size≤9223372036854775807∧
   (∀s∈aB,s.size≤9223372036854775807)∧cu w P vl aB.length (aB.map .string)∧gy w P args xs∧cu w P va args.length xs
def gy (w:World) (P:Nat→Prop):List Ty→List Value→Prop
 |[],cs=>cs=[]
 |t::r,cs=>∃c1 c2,cs=c1++c2∧iC w P t c1∧gy w P r c2
end
mutual
def fA (w:World) (P:Nat→Prop):Ex→List Value→Prop
 | .mk k name v m args names body l c,cs=>∃va vn vb xa xb,cs=[.int .i64 k,.string name,.int .u64 v,.bool m,va,vn,vb,.int .i64 l,.int .i64 c]∧name.size≤9223372036854775807∧(∀s∈names,s.size≤9223372036854775807)∧
   dM w P args xa∧cu w P va args.length xa∧cu w P vn names.length (names.map .string)∧iO w P body xb∧cu w P vb body.length xb
def dM (w:World) (P:Nat→Prop):List Ex→List Value→Prop
 |[],cs=>cs=[]
 |t::r,cs=>∃c1 c2,cs=c1++c2∧fA w P t c1∧dM w P r c2
def lW (w:World) (P:Nat→Prop):St→List Value→Prop
 | .mk k name ty place e body els other l c,cs=>∃ct vp ve vb vl xp xe xb xl,cs=[.int .i64 k,.string name]++ct++[vp,ve,vb,vl,.bool other,.int .i64 l,.int .i64 c]∧name.size≤9223372036854775807∧iC w P ty ct∧
   dM w P place xp∧cu w P vp place.length xp∧dM w P e xe∧cu w P ve e.length xe∧iO w P body xb∧cu w P vb body.length xb∧iO w P els xl∧cu w P vl els.length xl
def iO (w:World) (P:Nat→Prop):List St→List Value→Prop
 |[],cs=>cs=[]
 |t::r,cs=>∃c1 c2,cs=c1++c2∧lW w P t c1∧iO w P r c2
end
mutual
theorem iC.step {w w':World} {P:Nat→Prop} {S:Nat→Prop} (hs:Step S w w') (hS:∀k,P k→¬S k):∀(t:Ty) (cs:List Value),iC w P t cs→iC w' P t cs
 | .mk k name life m aB args l c,cs,h=>by
  rw[iC]at h⊢
  obtain⟨vl,va,xs,h1,h2,h3,h4,h5,h6,h7⟩:=h
  exact⟨vl,va,xs,h1,h2,h3,h4,h5.step hs hS,gy.step hs hS args xs h6,h7.step hs hS⟩
theorem gy.step {w w':World} {P:Nat→Prop} {S:Nat→Prop} (hs:Step S w w') (hS:∀k,P k→¬S k):∀(l:List Ty) (cs:List Value),gy w P l cs→gy w' P l cs
 |[],cs,h=>by rw[gy]at h⊢;exact h
 |t::r,cs,h=>by
  rw[gy]at h⊢
  obtain⟨c1,c2,h1,h2,h3⟩:=h
  exact⟨c1,c2,h1,iC.step hs hS t c1 h2,gy.step hs hS r c2 h3⟩
end
mutual
theorem fA.step {w w':World} {P:Nat→Prop} {S:Nat→Prop} (hs:Step S w w') (hS:∀k,P k→¬S k):∀(t:Ex) (cs:List Value),fA w P t cs→fA w' P t cs
 | .mk k name v m args names body l c,cs,h=>by
  rw[fA]at h⊢
  obtain⟨va,vn,vb,xa,xb,h1,h2,h3,h4,h5,h6,h7,h8⟩:=h
  exact⟨va,vn,vb,xa,xb,h1,h2,h3,dM.step hs hS args xa h4,h5.step hs hS,h6.step hs hS,iO.step hs hS body xb h7,h8.step hs hS⟩
theorem dM.step {w w':World} {P:Nat→Prop} {S:Nat→Prop} (hs:Step S w w') (hS:∀k,P k→¬S k):∀(l:List Ex) (cs:List Value),dM w P l cs→dM w' P l cs
 |[],cs,h=>by rw[dM]at h⊢;exact h
 |t::r,cs,h=>by
  rw[dM]at h⊢
  obtain⟨c1,c2,h1,h2,h3⟩:=h
  exact⟨c1,c2,h1,fA.step hs hS t c1 h2,dM.step hs hS r c2 h3⟩
theorem lW.step {w w':World} {P:Nat→Prop} {S:Nat→Prop} (hs:Step S w w') (hS:∀k,P k→¬S k):∀(t:St) (cs:List Value),lW w P t cs→lW w' P t cs
 | .mk k name ty place e body els other l c,cs,h=>by
  rw[lW]at h⊢
  obtain⟨ct,vp,ve,vb,vl,xp,xe,xb,xl,h1,h2,h3,h4,h5,h6,h7,h8,h9,h10,h11⟩:=h
  exact⟨ct,vp,ve,vb,vl,xp,xe,xb,xl,h1,h2,iC.step hs hS ty ct h3,dM.step hs hS place xp h4,h5.step hs hS,dM.step hs hS e xe h6,h7.step hs hS,iO.step hs hS body xb h8,h9.step hs hS,iO.step hs hS els xl h10,h11.step hs hS⟩
theorem iO.step {w w':World} {P:Nat→Prop} {S:Nat→Prop} (hs:Step S w w') (hS:∀k,P k→¬S k):∀(l:List St) (cs:List Value),iO w P l cs→iO w' P l cs
 |[],cs,h=>by rw[iO]at h⊢;exact h
 |t::r,cs,h=>by
  rw[iO]at h⊢
  obtain⟨c1,c2,h1,h2,h3⟩:=h
  exact⟨c1,c2,h1,lW.step hs hS t c1 h2,iO.step hs hS r c2 h3⟩
end
theorem iC.len {w:World} {P:Nat→Prop} {t:Ty} {cs:List Value} (h:iC w P t cs):cs.length=8:=by obtain⟨k,name,life,m,aB,args,l,c⟩:=t;rw[iC]at h;obtain⟨_,_,_,rfl,_⟩:=h;rfl
theorem fA.len {w:World} {P:Nat→Prop} {t:Ex} {cs:List Value} (h:fA w P t cs):cs.length=9:=by obtain⟨k,name,v,m,args,names,body,l,c⟩:=t;rw[fA]at h;obtain⟨_,_,_,_,_,rfl,_⟩:=h;rfl
theorem lW.len {w:World} {P:Nat→Prop} {t:St} {cs:List Value} (h:lW w P t cs):cs.length=17:=by obtain⟨k,name,ty,place,e,body,els,other,l,c⟩:=t;rw[lW]at h;obtain⟨ct,_,_,_,_,_,_,_,_,rfl,_,h,_⟩:=h;have:=h.len;simp;omega
theorem gy.get {w:World} {P:Nat→Prop}:∀{l:List Ty} {xs:List Value} (i:Nat) {t:Ty},gy w P l xs→l[i]?=some t→∃cs,iC w P t cs∧∀j x,cs[j]?=some x→xs[i*8+j]?=some x
 |[],_,i,t,_,ht=>by simp at ht
 |a::r,xs,i,t,h,ht=>by
  rw[gy]at h
  obtain⟨c1,c2,rfl,h1,h2⟩:=h
  cases i with
  |zero=>
   simp at ht;subst ht
   refine⟨c1,h1,fun j x hx=> ?_⟩
   rw[Nat.zero_mul,Nat.zero_add,List.getElem?_append_left (List.getElem?_eq_some_iff.1 hx).1];exact hx
  |succ i=>
   obtain⟨cs,h3,h4⟩:=gy.get i h2 (by simpa using ht)
   refine⟨cs,h3,fun j x hx=> ?_⟩
   rw[List.getElem?_append_right (by rw[h1.len];omega),h1.len,show(i+1)*8+j-8=i*8+j by omega]
   exact h4 j x hx
theorem gy.len {w:World} {P:Nat→Prop}:∀{l:List Ty} {xs:List Value},gy w P l xs→xs.length=l.length*8
 |[],_,h=>by rw[gy]at h;subst h;rfl
 |a::r,xs,h=>by
  rw[gy]at h
  obtain⟨c1,c2,rfl,h1,h2⟩:=h
  rw[List.length_append,h1.len,h2.len,List.length_cons];omega
theorem dM.len {w:World} {P:Nat→Prop}:∀{l:List Ex} {xs:List Value},dM w P l xs→xs.length=l.length*9
 |[],_,h=>by rw[dM]at h;subst h;rfl
 |a::r,xs,h=>by
  rw[dM]at h
  obtain⟨c1,c2,rfl,h1,h2⟩:=h
  rw[List.length_append,h1.len,h2.len,List.length_cons];omega
theorem iO.len {w:World} {P:Nat→Prop}:∀{l:List St} {xs:List Value},iO w P l xs→xs.length=l.length*17
 |[],_,h=>by rw[iO]at h;subst h;rfl
 |a::r,xs,h=>by
  rw[iO]at h
  obtain⟨c1,c2,rfl,h1,h2⟩:=h
  rw[List.length_append,h1.len,h2.len,List.length_cons];omega
theorem fA.one {w:World} {P:Nat→Prop} {t:Ex} {cs:List Value} (h:fA w P t cs):∀u∈cs,u.oneCell'=true:=by obtain⟨k,name,v,m,args,names,body,l,c⟩:=t;rw[fA]at h;obtain⟨_,_,_,_,_,rfl,_,_,_,⟨_,_,rfl,_⟩,⟨_,_,rfl,_⟩,_,_,_,rfl,_⟩:=h;intro u hu;simp at hu;rcases hu with rfl|rfl|rfl|rfl|rfl|rfl|rfl|rfl|rfl<;>rfl
theorem dM.one {w:World} {P:Nat→Prop}:∀{l:List Ex} {xs:List Value},dM w P l xs→∀u∈xs,u.oneCell'=true
 |[],_,h=>by rw[dM]at h;subst h;intro u hu;cases hu
 |a::r,xs,h=>by
  rw[dM]at h
  obtain⟨c1,c2,rfl,h1,h2⟩:=h
  intro u hu
  rcases List.mem_append.1 hu with h|h
  ·
   exact h1.one u h
  ·
   exact dM.one h2 u h
theorem dM.append {w:World} {P:Nat→Prop}:∀{l:List Ex} {xs:List Value} {l':List Ex} {xs':List Value},dM w P l xs→dM w P l' xs'→dM w P (l++l') (xs++xs')
 |[],_,_,_,h,h'=>by rw[dM]at h;subst h;exact h'
 |a::r,xs,l',xs',h,h'=>by
  rw[dM]at h
  obtain⟨c1,c2,rfl,h1,h2⟩:=h
  rw[List.cons_append,dM]
  exact⟨c1,c2++xs',by rw[List.append_assoc],h1,dM.append h2 h'⟩
theorem gy.cells {w:World} {P:Nat→Prop} {l:List Ty} {xs:List Value} {g o i:Nat} {t:Ty} (h:gy w P l xs) (ht:l[i]?=some t) (hc:∀(i:Nat) x,xs[i]?=some x→w.cell? ⟨g,o+i,none⟩=some x):∃cs,iC w P t cs∧∀j x,cs[j]?=some x→w.cell? ⟨g,o+i*8+j,none⟩=some x:=by obtain⟨cs,h1,h2⟩:=gy.get i h ht;exact⟨cs,h1,fun j x hx=>by rw[Nat.add_assoc];exact hc _ _ (h2 j x hx)⟩
mutual
theorem iC.mono {w:World} {P P':Nat→Prop} (hp:∀k,k<w.heap.size→P k→P' k):∀(t:Ty) (cs:List Value),iC w P t cs→iC w P' t cs
 | .mk k name life m aB args l c,cs,h=>by
  rw[iC]at h⊢
  obtain⟨vl,va,xs,h1,h2,h3,h4,h5,h6,h7⟩:=h
  exact⟨vl,va,xs,h1,h2,h3,h4,h5.mono hp,gy.mono hp args xs h6,h7.mono hp⟩
theorem gy.mono {w:World} {P P':Nat→Prop} (hp:∀k,k<w.heap.size→P k→P' k):∀(l:List Ty) (cs:List Value),gy w P l cs→gy w P' l cs
 |[],cs,h=>by rw[gy]at h⊢;exact h
 |t::r,cs,h=>by
  rw[gy]at h⊢
  obtain⟨c1,c2,h1,h2,h3⟩:=h
  exact⟨c1,c2,h1,iC.mono hp t c1 h2,gy.mono hp r c2 h3⟩
end
mutual
theorem fA.mono {w:World} {P P':Nat→Prop} (hp:∀k,k<w.heap.size→P k→P' k):∀(t:Ex) (cs:List Value),fA w P t cs→fA w P' t cs
 | .mk k name v m args names body l c,cs,h=>by
  rw[fA]at h⊢
  obtain⟨va,vn,vb,xa,xb,h1,h2,h3,h4,h5,h6,h7,h8⟩:=h
  exact⟨va,vn,vb,xa,xb,h1,h2,h3,dM.mono hp args xa h4,h5.mono hp,h6.mono hp,iO.mono hp body xb h7,h8.mono hp⟩
theorem dM.mono {w:World} {P P':Nat→Prop} (hp:∀k,k<w.heap.size→P k→P' k):∀(l:List Ex) (cs:List Value),dM w P l cs→dM w P' l cs
 |[],cs,h=>by rw[dM]at h⊢;exact h
 |t::r,cs,h=>by
  rw[dM]at h⊢
  obtain⟨c1,c2,h1,h2,h3⟩:=h
  exact⟨c1,c2,h1,fA.mono hp t c1 h2,dM.mono hp r c2 h3⟩
theorem lW.mono {w:World} {P P':Nat→Prop} (hp:∀k,k<w.heap.size→P k→P' k):∀(t:St) (cs:List Value),lW w P t cs→lW w P' t cs
 | .mk k name ty place e body els other l c,cs,h=>by
  rw[lW]at h⊢
  obtain⟨ct,vp,ve,vb,vl,xp,xe,xb,xl,h1,h2,h3,h4,h5,h6,h7,h8,h9,h10,h11⟩:=h
  exact⟨ct,vp,ve,vb,vl,xp,xe,xb,xl,h1,h2,iC.mono hp ty ct h3,dM.mono hp place xp h4,h5.mono hp,dM.mono hp e xe h6,h7.mono hp,iO.mono hp body xb h8,h9.mono hp,iO.mono hp els xl h10,h11.mono hp⟩
theorem iO.mono {w:World} {P P':Nat→Prop} (hp:∀k,k<w.heap.size→P k→P' k):∀(l:List St) (cs:List Value),iO w P l cs→iO w P' l cs
 |[],cs,h=>by rw[iO]at h⊢;exact h
 |t::r,cs,h=>by
  rw[iO]at h⊢
  obtain⟨c1,c2,h1,h2,h3⟩:=h
  exact⟨c1,c2,h1,lW.mono hp t c1 h2,iO.mono hp r c2 h3⟩
end
theorem iC.one {w:World} {P:Nat→Prop} {t:Ty} {cs:List Value} (h:iC w P t cs):∀u∈cs,u.oneCell'=true:=by obtain⟨k,name,life,m,aB,args,l,c⟩:=t;rw[iC]at h;obtain⟨_,_,_,rfl,_,_,_,⟨_,_,rfl,_⟩,_,⟨_,_,rfl,_⟩⟩:=h;intro u hu;simp at hu;rcases hu with rfl|rfl|rfl|rfl|rfl|rfl|rfl|rfl<;>rfl
theorem lW.one {w:World} {P:Nat→Prop} {t:St} {cs:List Value} (h:lW w P t cs):∀u∈cs,u.oneCell'=true:=by
 obtain⟨k,name,ty,place,e,body,els,other,l,c⟩:=t;rw[lW]at h;obtain⟨ct,_,_,_,_,_,_,_,_,rfl,_,hty,_,⟨_,_,rfl,_⟩,_,⟨_,_,rfl,_⟩,_,⟨_,_,rfl,_⟩,_,⟨_,_,rfl,_⟩⟩:=h;intro u hu;rcases List.mem_append.1 hu with hu|hu
 ·rcases List.mem_append.1 hu with hu|hu
  ·simp at hu;rcases hu with rfl|rfl<;>rfl
  ·exact hty.one u hu
 ·simp at hu;rcases hu with rfl|rfl|rfl|rfl|rfl|rfl|rfl<;>rfl
theorem gy.snoc {w:World} {P:Nat→Prop}:∀{l:List Ty} {xs:List Value} {t:Ty} {cs:List Value},gy w P l xs→iC w P t cs→gy w P (l++[t]) (xs++cs)
 |[],xs,t,cs,h,h1=>by
  rw[gy]at h;subst h
  rw[List.nil_append,gy]
  exact⟨cs,[],by simp,h1,by rw[gy]⟩
 |a::r,xs,t,cs,h,h1=>by
  rw[gy]at h
  obtain⟨c1,c2,rfl,h2,h3⟩:=h
  rw[List.cons_append,gy]
  exact⟨c1,c2++cs,by rw[List.append_assoc],h2,gy.snoc h3 h1⟩
theorem dM.snoc {w:World} {P:Nat→Prop} {l:List Ex} {xs:List Value} {t:Ex} {cs:List Value} (h:dM w P l xs) (h1:fA w P t cs):dM w P (l++[t]) (xs++cs):=
 dM.append h (by rw[dM];exact⟨cs,[],by simp,h1,by rw[dM]⟩)
theorem iO.snoc {w:World} {P:Nat→Prop}:∀{l:List St} {xs:List Value} {t:St} {cs:List Value},iO w P l xs→lW w P t cs→iO w P (l++[t]) (xs++cs)
 |[],xs,t,cs,h,h1=>by
  rw[iO]at h;subst h
  rw[List.nil_append,iO]
  exact⟨cs,[],by simp,h1,by rw[iO]⟩
 |a::r,xs,t,cs,h,h1=>by
  rw[iO]at h
  obtain⟨c1,c2,rfl,h2,h3⟩:=h
  rw[List.cons_append,iO]
  exact⟨c1,c2++cs,by rw[List.append_assoc],h2,iO.snoc h3 h1⟩
inductive dV (α:Type) where
 |ok (a:α) (i:Nat)
 |err (c ln col:Nat)
 |out
def dV.bind {α β:Type}:dV α→(α→Nat→dV β)→dV β
 | .ok a i,f=>f a i
 | .err c ln col,_=>.err c ln col
 | .out,_=>.out
theorem dV.bind_ok {α β:Type} (a:α) (i:Nat) (f:α→Nat→dV β):(dV.ok a i).bind f=f a i:=rfl
theorem dV.lC {α β:Type} (c ln col:Nat) (f:α→Nat→dV β):(dV.err c ln col:dV α).bind f=.err c ln col:=rfl
theorem dV.uJ {α β:Type} (f:α→Nat→dV β):(dV.out:dV α).bind f=.out:=rfl
theorem zO {α β:Type} {x:dV α} {a:α} {j:Nat} {g:α→Nat→dV β} (h:x=.ok a j):x.bind g=g a j:=by rw[h];rfl
def QC:Tok:=⟨0,[],0,0,0⟩
def tokA (l:List Tok) (i:Nat):Tok:=l.getD i QC
def bF (l:List Tok) (i:Nat) (s:List UInt8):Bool:=wO (tokA l i) s
def eP {α:Type} (c:Nat) (l:List Tok) (i:Nat):dV α:=.err c (tokA l i).line (tokA l i).col
def aH (l:List Tok) (i:Nat) (s:List UInt8):dV Unit:=if bF l i s then .ok () (i+1)else eP 1 l i
def aS (l:List Tok) (i:Nat):dV ByteArray:=if xH (tokA l i)then .ok (AQ (tokA l i).text) (i+1)else eP 1 l i
def eY (n most:Nat) (l:List Tok) (i:Nat):dV Unit:=if most≤n then eP 2 l i else .ok () i
def jw (l:List Tok) (i:Nat):dV ByteArray:=if(tokA l i).kind=2 then .ok (AQ (tokA l i).text) (i+1)else eP 1 l i
def uj (l:List Tok) (i:Nat):ByteArray:=if(tokA l i).kind=2 then AQ (tokA l i).text else⟨#[]⟩
def qy (l:List Tok) (i:Nat):Nat:=if(tokA l i).kind=2 then i+1 else i
def jb (l:List Tok) (i:Nat) (s:List UInt8):Nat:=if bF l i s then i+1 else i
def bZ:ByteArray:=⟨#[]⟩
instance:CoeDep Vt aO Value:=⟨.string bZ⟩
mutual
def jY:Nat→List Tok→Nat→Nat→dV Ty
 |0,_,_,_=>.out
 |f+1,l,i,d=>
  if d=40 then eP 2 l i
  else if bF l i [105,110,116]then .ok (.mk 1 bZ bZ false [] [] (tokA l i).line (tokA l i).col) (i+1)
  else if bF l i [98,111,111,108]then .ok (.mk 2 bZ bZ false [] [] (tokA l i).line (tokA l i).col) (i+1)
  else if bF l i [102,54,52]then .ok (.mk 3 bZ bZ false [] [] (tokA l i).line (tokA l i).col) (i+1)
  else if bF l i [40]then(aH l (i+1) [41]).bind fun _ j=>.ok (.mk 4 bZ bZ false [] [] (tokA l i).line (tokA l i).col) j
  else if bF l i [66,111,120]then(aH l (i+1) [60]).bind fun _ j=>(jY f l j (d+1)).bind fun a j=>(aH l j [62]).bind fun _ j=>.ok (.mk 6 bZ bZ false [] [a] (tokA l i).line (tokA l i).col) j
  else if bF l i [38]then(jY f l (jb l (qy l (i+1)) [109,117,116]) (d+1)).bind fun a j=>.ok (.mk 7 bZ (uj l (i+1)) (bF l (qy l (i+1)) [109,117,116]) [] [a] (tokA l i).line (tokA l i).col) j
  else if bF l i [100,121,110]then(aS l (i+1)).bind fun n j=>if bF l j [43]then(jw l (j+1)).bind fun x j=>.ok (.mk 8 n x false [] [] (tokA l i).line (tokA l i).col) j else .ok (.mk 8 n bZ false [] [] (tokA l i).line (tokA l i).col) j
  else(aS l i).bind fun n j=>if bF l j [60]then(lQ f l (j+1) (d+1) [] []).bind fun p j=>.ok (.mk 5 n bZ false p.1 p.2 (tokA l i).line (tokA l i).col) j else .ok (.mk 5 n bZ false [] [] (tokA l i).line (tokA l i).col) j
def lQ:Nat→List Tok→Nat→Nat→List ByteArray→List Ty→dV (List ByteArray×List Ty)
 |0,_,_,_,_,_=>.out
 |f+1,l,i,d,ls,ts=>
  (eY (ls.length+ts.length) 8 l i).bind fun _ i=>
   (if(tokA l i).kind=2∧ts.length=0 then(jw l i).bind fun x j=>.ok (ls++[x],ts) j else(jY f l i d).bind fun x j=>.ok (ls,ts++[x]) j).bind fun p j=>
    if bF l j [44]then lQ f l (j+1) d p.1 p.2 else(aH l j [62]).bind fun _ j=>.ok p j
end
def barsR:Nat→List Tok→Nat→List ByteArray→dV (List ByteArray)
 |0,_,_,_=>.out
 |f+1,l,i,ns=>(eY ns.length 8 l i).bind fun _ i=>(aS l i).bind fun n j=>if bF l j [44]then barsR f l (j+1) (ns++[n])else(aH l j [124]).bind fun _ j=>.ok (ns++[n]) j
def opsL:Nat→List (List UInt8)
 |0=>[[124]]
 |1=>[[38,38]]
 |2=>[[61,61],[60]]
 |3=>[[43],[45]]
 |4=>[[42],[47]]
 |_=>[]
def zQ (l:List Tok) (i n:Nat):Option (List UInt8):=(opsL n).find? (bF l i)
def dm (k:Int) (name:ByteArray) (v:Int) (m:Bool) (args:List Ex) (names:List ByteArray) (body:List St) (t:Tok):Ex:=.mk k name v m args names body t.line t.col
def jF (k:Int) (name:ByteArray) (ty:Ty) (place e:List Ex) (body els:List St) (other:Bool) (t:Tok):St:=.mk k name ty place e body els other t.line t.col
def dR:Ty:=.mk 0 bZ bZ false [] [] 0 0
mutual
def bG:Nat→List Tok→Nat→Nat→Nat→dV Ex
 |0,_,_,_,_=>.out
 |f+1,l,i,d,n=>if n=5 then ji f l i d else(bG f l i d (n+1)).bind fun x j=>AY f l j d n x
def AY:Nat→List Tok→Nat→Nat→Nat→Ex→dV Ex
 |0,_,_,_,_,_=>.out
 |f+1,l,i,d,n,x=>match zQ l i n with
  |none=>.ok x i
  |some s=>(bG f l (i+1) d (n+1)).bind fun y j=>
    if n=2 then .ok (dm 14 (AQ s) 0 false [x,y] [] [] (tokA l i)) j else AY f l j d n (dm 14 (AQ s) 0 false [x,y] [] [] (tokA l i))
def ji:Nat→List Tok→Nat→Nat→dV Ex
 |0,_,_,_=>.out
 |f+1,l,i,d=>
  if d=40 then eP 2 l i
  else if bF l i [45]then(ji f l (i+1) (d+1)).bind fun y j=>.ok (dm 15 (AQ [45]) 0 false [y] [] [] (tokA l i)) j
  else if bF l i [33]then(ji f l (i+1) (d+1)).bind fun y j=>.ok (dm 15 (AQ [33]) 0 false [y] [] [] (tokA l i)) j
  else if bF l i [42]then(ji f l (i+1) (d+1)).bind fun y j=>.ok (dm 7 bZ 0 false [y] [] [] (tokA l i)) j
  else if bF l i [38]then(ji f l (jb l (i+1) [109,117,116]) (d+1)).bind fun y j=>.ok (dm 8 bZ 0 (bF l (i+1) [109,117,116]) [y] [] [] (tokA l i)) j
  else xJ f l i (d+1)
def xJ:Nat→List Tok→Nat→Nat→dV Ex
 |0,_,_,_=>.out
 |f+1,l,i,d=>(wP f l i d).bind fun x j=>nG f l j d x
def nG:Nat→List Tok→Nat→Nat→Ex→dV Ex
 |0,_,_,_,_=>.out
 |f+1,l,i,d,x=>
  if bF l i [46]then(aS l (i+1)).bind fun n j=>
   if bF l j [40]then(lZ f l (j+1) d).bind fun al j=>nG f l j d (dm 13 n 0 false (x::al) [] [] (tokA l i))
   else nG f l j d (dm 6 n 0 false [x] [] [] (tokA l i))
  else .ok x i
def lZ:Nat→List Tok→Nat→Nat→dV (List Ex)
 |0,_,_,_=>.out
 |f+1,l,i,d=>if bF l i [41]then .ok [] (i+1)else rJ f l i d []
def rJ:Nat→List Tok→Nat→Nat→List Ex→dV (List Ex)
 |0,_,_,_,_=>.out
 |f+1,l,i,d,acc=>(eY acc.length 8 l i).bind fun _ i=>(bG f l i d 0).bind fun x j=>
  if bF l j [44]then rJ f l (j+1) d (acc++[x])else(aH l j [41]).bind fun _ j=>.ok (acc++[x]) j
def uK:Nat→List Tok→Nat→Nat→dV Ex
 |0,_,_,_=>.out
 |f+1,l,i,d=>(aH l i [40]).bind fun _ j=>(bG f l j d 0).bind fun x j=>(aH l j [41]).bind fun _ j=>.ok x j
def l9:Nat→List Tok→Nat→Nat→List ByteArray→List Ex→dV (List ByteArray×List Ex)
 |0,_,_,_,_,_=>.out
 |f+1,l,i,d,ns,al=>(eY ns.length 12 l i).bind fun _ i=>(aS l i).bind fun n j=>(aH l j [58]).bind fun _ j=>(bG f l j d 0).bind fun x j=>
  if bF l j [44]then l9 f l (j+1) d (ns++[n]) (al++[x])else(aH l j [125]).bind fun _ j=>.ok (ns++[n],al++[x]) j
def wP:Nat→List Tok→Nat→Nat→dV Ex
 |0,_,_,_=>.out
 |f+1,l,i,d=>
  if(tokA l i).kind=3 then .ok (dm 1 bZ (tokA l i).val false [] [] [] (tokA l i)) (i+1)
  else if(tokA l i).kind=4 then .ok (dm 3 bZ (tokA l i).val false [] [] [] (tokA l i)) (i+1)
  else if bF l i [116,114,117,101]then .ok (dm 2 bZ 1 false [] [] [] (tokA l i)) (i+1)
  else if bF l i [102,97,108,115,101]then .ok (dm 2 bZ 0 false [] [] [] (tokA l i)) (i+1)
  else if bF l i [99,104,111,111,115,101]then .ok (dm 16 bZ 0 false [] [] [] (tokA l i)) (i+1)
  else if bF l i [66,111,120]then(uK f l (i+1) d).bind fun x j=>.ok (dm 9 bZ 0 false [x] [] [] (tokA l i)) j
  else if bF l i [117,110,98,111,120]then(uK f l (i+1) d).bind fun x j=>.ok (dm 10 bZ 0 false [x] [] [] (tokA l i)) j
  else if bF l i [110,101,119]then(aS l (i+1)).bind fun n j=>(aH l j [123]).bind fun _ j=>
   if bF l j [125]then .ok (dm 11 n 0 false [] [] [] (tokA l i)) (j+1)else(l9 f l j d [] []).bind fun p j=>.ok (dm 11 n 0 false p.2 p.1 [] (tokA l i)) j
  else if bF l i [97,115]then(aS l (i+1)).bind fun n j=>(aH l j [124]).bind fun _ j=>
   (if bF l j [124]then .ok [] (j+1)else barsR f l j []).bind fun ns j=>(bJ f l j d).bind fun b j=>.ok (dm 17 n 0 false [] ns b (tokA l i)) j
  else if bF l i [40]then
   if bF l (i+1) [41]then .ok (dm 4 bZ 0 false [] [] [] (tokA l i)) (i+2)
   else(bG f l (i+1) d 0).bind fun x j=>(aH l j [41]).bind fun _ j=>.ok (dm 18 bZ 0 false [x] [] [] (tokA l i)) j
  else if bF l i [115,101,108,102]then .ok (dm 5 (AQ [115,101,108,102]) 0 false [] [] [] (tokA l i)) (i+1)
  else(aS l i).bind fun n j=>if bF l j [40]then(lZ f l (j+1) d).bind fun al j=>.ok (dm 12 n 0 false al [] [] (tokA l i)) j else .ok (dm 5 n 0 false [] [] [] (tokA l i)) j
def bJ:Nat→List Tok→Nat→Nat→dV (List St)
 |0,_,_,_=>.out
 |f+1,l,i,d=>if d=40 then eP 2 l i else(aH l i [123]).bind fun _ j=>pR f l j (d+1) []
def pR:Nat→List Tok→Nat→Nat→List St→dV (List St)
 |0,_,_,_,_=>.out
 |f+1,l,i,d,acc=>if bF l i [125]then .ok acc (i+1)else(xK f l i d).bind fun s j=>pR f l j d (acc++[s])
def CV:Nat→List Tok→Nat→Nat→dV (ByteArray×Ty×List Ex)
 |0,_,_,_=>.out
 |f+1,l,i,d=>(aS l i).bind fun n j=>(if bF l j [58]then jY f l (j+1) d else .ok dR j).bind fun ty j=>
  (if bF l j [61]then(bG f l (j+1) d 0).bind fun x j=>.ok [x] j else .ok [] j).bind fun e j=>(aH l j [59]).bind fun _ j=>.ok (n,ty,e) j
def CW:Nat→List Tok→Nat→Nat→dV (List Ex×Ex)
 |0,_,_,_=>.out
 |f+1,l,i,d=>(bG f l i d 0).bind fun x j=>(if bF l j [61]then(bG f l (j+1) d 0).bind fun y j=>.ok ([x],y) j else .ok ([],x) j).bind fun p j=>(aH l j [59]).bind fun _ j=>.ok p j
def xK:Nat→List Tok→Nat→Nat→dV St
 |0,_,_,_=>.out
 |f+1,l,i,d=>
  if bF l i [108,101,116]then(CV f l (i+1) d).bind fun p j=>.ok (jF 1 p.1 p.2.1 [] p.2.2 [] [] false (tokA l i)) j
  else if bF l i [105,102]then(bG f l (i+1) d 0).bind fun x j=>(bJ f l j d).bind fun b j=>
   if bF l j [101,108,115,101]then(bJ f l (j+1) d).bind fun c j=>.ok (jF 4 bZ dR [] [x] b c true (tokA l i)) j else .ok (jF 4 bZ dR [] [x] b [] false (tokA l i)) j
  else if bF l i [119,104,105,108,101]then(bG f l (i+1) d 0).bind fun x j=>(bJ f l j d).bind fun b j=>.ok (jF 5 bZ dR [] [x] b [] false (tokA l i)) j
  else if bF l i [114,101,116,117,114,110]then(if bF l (i+1) [59]then .ok [] (i+1)else(bG f l (i+1) d 0).bind fun x j=>.ok [x] j).bind fun e j=>(aH l j [59]).bind fun _ j=>.ok (jF 6 bZ dR [] e [] [] false (tokA l i)) j
  else if bF l i [97,98,111,114,116]then(aH l (i+1) [59]).bind fun _ j=>.ok (jF 7 bZ dR [] [] [] [] false (tokA l i)) j
  else if bF l i [123]then(bJ f l i d).bind fun b j=>.ok (jF 8 bZ dR [] [] b [] false (tokA l i)) j
  else(CW f l i d).bind fun p j=>.ok (jF (if p.1.length=0 then 3 else 2) bZ dR p.1 [p.2] [] [] false (tokA l i)) j
end
theorem bjQ {α β:Type} {r:dV β} {q:dV α} {f:α→Nat→dV β} {a:α} {j:Nat} (h:r=q.bind f) (h2:q=.ok a j):r=f a j:=by rw[h,h2];rfl
theorem bpQ {α β:Type} {r:dV β} {p:Prop} [Decidable p] {x y:dV α} {f:α→Nat→dV β} (h:r=(if p then x else y).bind f) (h2:p):r=x.bind f:=by rw[h,if_pos h2]
theorem bmQ {α β:Type} {r:dV β} {b:Bool} {x y:dV α} {f:α→Nat→dV β} (h:r=(if b=true then x else y).bind f) (h2:b=false):r=y.bind f:=by rw[h,h2];rfl
end Go.Proofs.YtppekkbaoimpgaaGreat
