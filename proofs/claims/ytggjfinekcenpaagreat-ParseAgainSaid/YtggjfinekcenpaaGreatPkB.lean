import Derived.Test.YtggjfinekcenpaaGreatPkA
import Derived.Test.YtggjfinekcenpaaGreatShelf
import Derived.Deep.QuietTactic
import Derived.BigQuiet
import Derived.BigRegion
import Derived.Deep.LoopGhost
import Derived.Lib.Hide
import Derived.Deep.DeepFit
import Derived.Lib.IndexMore
set_option maxRecDepth 100000
set_option maxHeartbeats 80000000
namespace Go.Proofs.YtggjfinekcenpaaGreat
open Go.RowKit
open Vt
def qF (a:Int):Bool:=decide (97≤a)&&decide (a≤122)
def isDigit (a:Int):Bool:=decide (48≤a)&&decide (a≤57)
def jf (a:Int):Bool:=qF a||(decide (65≤a)&&decide (a≤90))||decide (a=95)
def lH (a:Int):Bool:=jf a||isDigit a
theorem yc (a:Int) (w:World) (h0:0≤a) (h1:a≤255):Calls Tryz.prog 152 #[.int .u8 a] w fun e w'=>e=.returned (.bool (qF a))∧w=w':=by go_enter Tryz.func152,Tryz.ntmps152;go_wp2;all_goals (go_ret;exact⟨by simp[qF];omega,rfl⟩)
theorem kV (a:Int) (w:World) (h0:0≤a) (h1:a≤255):Calls Tryz.prog 140 #[.int .u8 a] w fun e w'=>e=.returned (.bool (isDigit a))∧w=w':=by go_enter Tryz.func140,Tryz.ntmps140;go_wp2;all_goals (go_ret;exact⟨by simp[isDigit];omega,rfl⟩)
theorem jU (a:Int) (w:World) (h0:0≤a) (h1:a≤255):Calls Tryz.prog 137 #[.int .u8 a] w fun e w'=>e=.returned (.bool (jf a))∧w=w':=by
 go_enter Tryz.func137,Tryz.ntmps137;cases hs:qF a;all_goals
  have hq:=yc a
  rw[hs]at hq
  go_wp2_with (go_at_call 152;refine(hq _ h0 h1).mono ?_;rintro e w' ⟨rfl,rfl⟩)
  all_goals (go_ret;exact⟨qL (by rw[Bool.eq_iff_iff];simp[jf,hs];try omega),rfl⟩)
theorem Rx (a:Int) (w:World) (h0:0≤a) (h1:a≤255):Calls Tryz.prog 154 #[.int .u8 a] w fun e w'=>e=.returned (.bool (lH a))∧w=w':=by
 go_enter Tryz.func154,Tryz.ntmps154;cases hs:jf a;all_goals
  have hq:=jU a
  rw[hs]at hq
  go_wp2_with (first|(go_at_call 137;refine(hq _ h0 h1).mono ?_;rintro e w' ⟨rfl,rfl⟩)|(go_at_call 140;refine(kV _ _ h0 h1).mono ?_;rintro e w' ⟨rfl,rfl⟩))
  all_goals (go_ret;exact⟨by simp[lH,hs],rfl⟩)
theorem Ry (a:Int) (w:World) (h0:0≤a) (h1:a≤255):Calls Tryz.prog 155 #[.int .u8 a] w fun e w'=>e=.returned (.bool (lH a))∧w=w':=by
 go_enter Tryz.func155,Tryz.ntmps155;cases hs:jf a;all_goals
  have hq:=jU a
  rw[hs]at hq
  go_wp2_with (first|(go_at_call 137;refine(hq _ h0 h1).mono ?_;rintro e w' ⟨rfl,rfl⟩)|(go_at_call 140;refine(kV _ _ h0 h1).mono ?_;rintro e w' ⟨rfl,rfl⟩))
  all_goals (go_ret;exact⟨by simp[lH,hs],rfl⟩)
theorem KQ (a:Int) (w:World) (h0:0≤a) (h1:a≤255):Calls Tryz.prog 156 #[.int .u8 a] w fun e w'=>e=.returned (.bool (lH a))∧w=w':=by
 go_enter Tryz.func156,Tryz.ntmps156;cases hs:jf a;all_goals
  have hq:=jU a
  rw[hs]at hq
  go_wp2_with (first|(go_at_call 137;refine(hq _ h0 h1).mono ?_;rintro e w' ⟨rfl,rfl⟩)|(go_at_call 140;refine(kV _ _ h0 h1).mono ?_;rintro e w' ⟨rfl,rfl⟩))
  all_goals (go_ret;exact⟨by simp[lH,hs],rfl⟩)
structure Cut (w:World) (b:Nat) (s:ByteArray) (at' line from':Nat):Prop where
 out:w.heap[b]?=some (.cells #[aG s,af at',af line,af from'] 180 (0,0))
theorem Cut.cells {w:World} {b:Nat} {s:ByteArray} {p l f:Nat} (h:Cut w b s p l f):w.cell? ⟨b,0,none⟩=some (.string s)∧w.cell? ⟨b,1,none⟩=some (.int .i64 p)∧w.cell? ⟨b,2,none⟩=some (.int .i64 l)∧w.cell? ⟨b,3,none⟩=some (.int .i64 f)∧w.frozen? ⟨b,0,none⟩=false∧w.frozen? ⟨b,1,none⟩=false∧w.frozen? ⟨b,2,none⟩=false∧w.frozen? ⟨b,3,none⟩=false:=
 ⟨ah h.out 0 _ rfl,ah h.out 1 _ rfl,ah h.out 2 _ rfl,ah h.out 3 _ rfl,aH h.out 0,aH h.out 1,aH h.out 2,aH h.out 3⟩
theorem Cut.drewN {w:World} {b:Nat} {s:ByteArray} {p l f:Nat} (h:Cut w b s p l f) (n:Nat):Cut (w.drewN n) b s p l f:=⟨h.out⟩
theorem Cut.alloc {w:World} {b:Nat} {s:ByteArray} {p l f:Nat} (h:Cut w b s p l f) (o:Obj):Cut (w.alloc o) b s p l f:=⟨aN h.out⟩
theorem Cut.set1 {w:World} {b:Nat} {s:ByteArray} {p l f q:Nat} {z:Int} (e:z=q) (h:Cut w b s p l f):Cut (w.setCell ⟨b,1,none⟩ (.int .i64 z)) b s q l f:=by subst e;exact⟨aU h.out 1 _⟩
theorem Cut.set2 {w:World} {b:Nat} {s:ByteArray} {p l f q:Nat} {z:Int} (e:z=q) (h:Cut w b s p l f):Cut (w.setCell ⟨b,2,none⟩ (.int .i64 z)) b s p q f:=by subst e;exact⟨aU h.out 2 _⟩
theorem Cut.set3 {w:World} {b:Nat} {s:ByteArray} {p l f q:Nat} {z:Int} (e:z=q) (h:Cut w b s p l f):Cut (w.setCell ⟨b,3,none⟩ (.int .i64 z)) b s p l q:=by subst e;exact⟨aU h.out 3 _⟩
theorem Cut.step {w w':World} {b:Nat} {s:ByteArray} {p l f:Nat} {S:Nat→Prop} (h:Cut w b s p l f) (hs:Step S w w') (hb:¬S b):Cut w' b s p l f:=⟨hs.keep h.out hb⟩
theorem YI (b:Nat) (s:ByteArray) (p l f:Nat) (w:World) (h:Cut w b s p l f) (hf:f≤p) (hp:p≤100000):Calls Tryz.prog 121 #[.pointer (some ⟨b,0,none⟩)] w fun e w'=>e=.returned (.agg #[af l,af ((p:Int)-f+1)])∧jP w w':=by obtain⟨c0,c1,c2,c3,f0,f1,f2,f3⟩:=h.cells;have hlt:b<w.heap.size:=aC h.out;go_enter Tryz.func121,Tryz.ntmps121;go_wp2;go_region;go_wp2;exact bodyPost_ret (v:=.agg #[af l,af ((p:Int)-f+1)]) (by simp[results,Tryz.results121,go_sem]) rfl ⟨rfl,(bV.alloc _).drew⟩
theorem drop_cons (s:ByteArray) (p:Nat) (h:p<s.size):s.data.toList.drop p=s[p]::s.data.toList.drop (p+1):=by rw[List.drop_eq_getElem_cons (by simpa using h)];rfl
theorem Qj {c:UInt8} (k:UInt8) (h:((c.toNat:Int)==(k.toNat:Int))=true):c=k:=by have:c.toNat=k.toNat:=Int.ofNat_inj.1 (beq_iff_eq.1 h);exact UInt8.toNat_inj.1 this
theorem mX {c:UInt8} (k:UInt8) (h:(c.toNat:Int)=(k.toNat:Int)):c=k:=UInt8.toNat_inj.1 (Int.ofNat_inj.1 h)
theorem DF {c:UInt8} (k:UInt8) (h:((c.toNat:Int)==(k.toNat:Int))=false):c≠k:=by intro e;subst e;simp at h
def gG:Bool→List UInt8→Nat→Nat→Nat→Nat×Nat×Nat
 |_,[],p,l,f=>(p,l,f)
 |true,c::r,p,l,f=>if c=10 then gG false r (p+1) (l+1) (p+1)else gG true r (p+1) l f
 |false,c::r,p,l,f=>
  if c=10 then gG false r (p+1) (l+1) (p+1)
  else if c=32∨c=9∨c=13 then gG false r (p+1) l f
  else if c=47∧r.head?=some 47 then gG true r (p+1) l f
  else(p,l,f)
theorem tu {c:UInt8} {r:List UInt8} {p l f:Nat} (h:c=32∨c=9∨c=13):gG false (c::r) p l f=gG false r (p+1) l f:=by rcases h with rfl|rfl|rfl<;>simp[gG]
theorem Cm {c:UInt8} {r:List UInt8} {p l f:Nat} (h1:c≠10) (h2:¬(c=32∨c=9∨c=13)) (h3:¬(c=47∧r.head?=some 47)):gG false (c::r) p l f=(p,l,f):=by rw[gG,if_neg h1,if_neg h2,if_neg h3]
theorem KR {c:UInt8} {r:List UInt8} {p l f:Nat} (h:c=47∧r.head?=some 47):gG false (c::r) p l f=gG true (c::r) p l f:=by obtain⟨rfl,h⟩:=h;simp[gG,h]
theorem NQ {c:UInt8} {r:List UInt8} {p l f:Nat} (h:c=10):gG true (c::r) p l f=gG false (c::r) p l f:=by subst h;simp[gG]
theorem yC (c:UInt8) (r:List UInt8):Lib.hasPrefix (c::r) [47,47]=decide (c=47∧r.head?=some 47):=by
 cases r with
 |nil=>simp[Lib.hasPrefix,List.isPrefixOf]
 |cons d r=>show((47:UInt8)==c&&((47:UInt8)==d&&true))=decide (c=47∧some d=some 47);rw[Bool.eq_iff_iff];simp;exact⟨fun h=>⟨h.1.symm,h.2.symm⟩,fun h=>⟨h.1.symm,h.2.symm⟩⟩
theorem qM (s:ByteArray) (p:Nat):(s.extract p s.size).data.toList=s.data.toList.drop p:=by rw[Lib.extract_data];simp[List.take_of_length_le]
theorem Eg (t:ByteArray) (v:Bool) (h:Lib.hasPrefix t.data.toList [47,47]=v) (w:World):Calls Tryz.prog 136 #[.string t,.string ⟨#[47,47]⟩] w fun e w'=>e=.returned (.bool v)∧w=w':=
 (Tryz.strings_HasPrefix _ _ _).mono fun _ _ hq=>⟨by rw[hq.1];exact qL h,hq.2.symm⟩
theorem Rz (b:Nat) (s:ByteArray) (p l f:Nat) (w:World) (h:Cut w b s p l f) (hf:f≤p) (hp:p≤s.size) (hs:s.size≤100000) (hl:l≤p+1):
  Calls Tryz.prog 120 #[.pointer (some ⟨b,0,none⟩)] w fun e w'=>e=.returned (.tuple #[])∧
   ∃p' l' f',(p',l',f')=gG false (s.data.toList.drop p) p l f∧Cut w' b s p' l' f'∧Step (·=b) w w':=by
 go_enter Tryz.func120,Tryz.ntmps120
 go_wp2
 go_loopg [] s.size (fun g wr=>∃p' l' f':Nat,s.size-p'≤g∧p'≤s.size∧f'≤p'∧l'≤p'+1∧gG false (s.data.toList.drop p') p' l' f'=gG false (s.data.toList.drop p) p l f∧Cut wr b s p' l' f'∧Step (·=b) w wr)
 case atStart=>exact⟨p,l,f,by omega,hp,hf,hl,rfl,h,Step.refl _ _⟩
 case round=>
  obtain⟨p',l',f',hg,hp',hf',hl',heq,hc,hst⟩:=hrel
  have HE:=ai heq
  clear heq
  obtain⟨c0,c1,c2,c3,f0,f1,f2,f3⟩:=hc.cells
  have hlt:b<wr.heap.size:=aC hc.out
  by_cases hlt':p'<s.size
  ·
   have hdr:=ai (drop_cons s p' hlt')
   go_wp2
   go_quiet (fail)
   go_wp2
   go_quiet (fail)
   go_wp2
   ·
    go_roundg (gk-1)
    case rel=>
     refine⟨p'+1,l'+1,p'+1,by omega,by omega,by omega,by omega,?_,?_,?_⟩
     ·
      rw[←HE.o,hdr.out,gG,if_pos (Qj 10 (by assumption))]
     ·
      exact(((hc.drewN _).set1 (q:=p'+1) om).set2 (q:=l'+1) om).set3 (q:=p'+1) om
     ·
      (repeat (with_reducible (first|exact hst|exact Step.refl _ _|refine Step.drew ?_|refine Step.drewN ?_ _|refine Step.alloc ?_ _|refine Step.setCell ?_ _ _ jd)))
    case measure=>omega
   ·
    rename_i h1 h2
    have h3:=mX 32 h2
    go_roundg (gk-1)
    case rel=>
     refine⟨p'+1,l',f',by omega,by omega,by omega,by omega,?_,?_,?_⟩
     ·
      rw[←HE.o,hdr.out,tu (.inl h3)]
     ·
      exact(hc.drewN _).set1 (q:=p'+1) om
     ·
      (repeat (with_reducible (first|exact hst|exact Step.refl _ _|refine Step.drew ?_|refine Step.drewN ?_ _|refine Step.alloc ?_ _|refine Step.setCell ?_ _ _ jd)))
    case measure=>omega
   ·
    rename_i h1 h1b h2
    have h3:=mX 9 h2
    go_roundg (gk-1)
    case rel=>
     refine⟨p'+1,l',f',by omega,by omega,by omega,by omega,?_,?_,?_⟩
     ·
      rw[←HE.o,hdr.out,tu (.inr (.inl h3))]
     ·
      exact(hc.drewN _).set1 (q:=p'+1) om
     ·
      (repeat (with_reducible (first|exact hst|exact Step.refl _ _|refine Step.drew ?_|refine Step.drewN ?_ _|refine Step.alloc ?_ _|refine Step.setCell ?_ _ _ jd)))
    case measure=>omega
   ·
    rename_i h1 h1b h1c h2
    have h3:=Qj 13 (h2.resolve_left (by simp[h1b,h1c]))
    go_roundg (gk-1)
    case rel=>
     refine⟨p'+1,l',f',by omega,by omega,by omega,by omega,?_,?_,?_⟩
     ·
      rw[←HE.o,hdr.out,tu (.inr (.inr h3))]
     ·
      exact(hc.drewN _).set1 (q:=p'+1) om
     ·
      (repeat (with_reducible (first|exact hst|exact Step.refl _ _|refine Step.drew ?_|refine Step.drewN ?_ _|refine Step.alloc ?_ _|refine Step.setCell ?_ _ _ jd)))
    case measure=>omega
   ·
    have hn10:=DF (c:=s[p']) 10 (by assumption)
    have h2:((((s[p'].toNat:Int)==32)=false∧((s[p'].toNat:Int)==9)=false)∧((s[p'].toNat:Int)==13)=false):=by assumption
    have hns:¬(s[p']=32∨s[p']=9∨s[p']=13):=fun e=>e.elim (DF 32 h2.1.1) fun e=>e.elim (DF 9 h2.1.2) (DF 13 h2.2)
    by_cases hsl:s[p']=47∧(s.data.toList.drop (p'+1)).head?=some 47
    ·
     have hpre:=ai (show Lib.hasPrefix (s.extract p' s.size).data.toList [47,47]=true by rw[qM,hdr.out,yC];exact decide_eq_true hsl)
     have HI:Hid (gG true (s.data.toList.drop p') p' l' f'=gG false (s.data.toList.drop p) p l f):=by
      rw[←HE.o,hdr.out,KR hsl];exact rfl
     clear hsl HE
     go_wp2
     go_quiet ((go_at_call 136;exact(Eg _ true hpre.out _).mono fun _ _ h=>⟨h.1,_,h.2.symm⟩))
     go_wp2
     obtain⟨wo,rfl⟩:=bn wr
     obtain⟨g0,rfl⟩:∃g:Nat,g=gk:=⟨_,rfl⟩
     go_loopg [] s.size (fun g wi=>∃p2:Nat,s.size-p2≤g∧p2≤s.size∧p'≤p2∧gG true (s.data.toList.drop p2) p2 l' f'=gG false (s.data.toList.drop p) p l f∧Cut wi b s p2 l' f'∧Step (·=b) w wi)
     case atStart=>exact⟨p',by omega,by omega,Nat.le_refl _,HI.o,(hc.drewN _).drewN _,(hst.drewN _).drewN _⟩
     case round=>
      clear c0 c1 c2 c3 f0 f1 f2 f3 hlt hc hst
      obtain⟨p2,hg2,hp2,hpp,heq2,hc,hst⟩:=hrel
      have HE2:=ai heq2
      clear heq2
      obtain⟨c0,c1,c2,c3,f0,f1,f2,f3⟩:=hc.cells
      have hlt:b<wr.heap.size:=aC hc.out
      by_cases hlt2:p2<s.size
      ·
       have hdr2:=ai (drop_cons s p2 hlt2)
       by_cases h10:s[p2]=10
       ·
        have hb10:((s[p2].toNat:Int)==10)=true:=by rw[h10];rfl
        have hpp2:p'<p2:=by
         rcases Nat.lt_or_ge p' p2 with h|h
         ·
          exact h
         ·
          have:p'=p2:=by omega
          subst this
          exact absurd h10 hn10
        have Kz:=ai h10
        clear h10
        go_wp2
        go_quiet (fail)
        go_wp2
        go_roundg (g0-1)
        case rel=>
         refine⟨p2,l',f',by omega,by omega,by omega,by omega,?_,hc.drewN _,hst.drewN _⟩
         rw[←HE2.o,hdr2.out,NQ Kz.o]
        case measure=>omega
       ·
        have hb10:((s[p2].toNat:Int)==10)=false:=by rw[beq_eq_false_iff_ne];exact fun e=>h10 (mX 10 e)
        have Kz:=ai h10
        clear h10
        go_wp2
        go_quiet (fail)
        go_wp2
        go_roundg (gk-1)
        case rel=>
         refine⟨p2+1,by omega,by omega,by omega,?_,(hc.drewN _).set1 (q:=p2+1) om,?_⟩
         ·
          rw[←HE2.o,hdr2.out,gG,if_neg Kz.o]
         ·
          (repeat (with_reducible (first|exact hst|exact Step.refl _ _|refine Step.drew ?_|refine Step.drewN ?_ _|refine Step.alloc ?_ _|refine Step.setCell ?_ _ _ jd)))
        case measure=>omega
      ·
       go_wp2
       go_quiet (fail)
       go_wp2
       go_roundg (g0-1)
       case rel=>
        refine⟨p2,l',f',by omega,by omega,by omega,by omega,?_,hc.drewN _,hst.drewN _⟩
        rw[←HE2.o,List.drop_of_length_le (by simp;omega)];rfl
       case measure=>omega
    ·
     have hpre:=ai (show Lib.hasPrefix (s.extract p' s.size).data.toList [47,47]=false by rw[qM,hdr.out,yC];exact decide_eq_false hsl)
     have HS:=ai hsl
     clear hsl
     go_wp2
     go_quiet ((go_at_call 136;exact(Eg _ false hpre.out _).mono fun _ _ h=>⟨h.1,_,h.2.symm⟩))
     go_wp2
     refine bodyPost_ret (results_none rfl _ _ _) rfl ?_
     refine⟨rfl,p',l',f',?_,(hc.drewN _).drewN _,(hst.drewN _).drewN _⟩
     rw[←HE.o,hdr.out,Cm hn10 hns HS.o]
  ·
   go_wp2
   go_quiet (fail)
   go_wp2
   go_end0
   refine⟨rfl,p',l',f',?_,hc.drewN _,hst.drewN _⟩
   rw[←HE.o,List.drop_of_length_le (by simp;omega)];rfl
def G9 (c:UInt8):Bool:=lH c.toNat
def jg (l:List UInt8):Nat:=(l.takeWhile G9).length
theorem UO:jg []=0:=rfl
theorem xq {c:UInt8} {r:List UInt8} (h:G9 c=true):jg (c::r)=jg r+1:=by simp[jg,h]
theorem zU {c:UInt8} {r:List UInt8} (h:G9 c=false):jg (c::r)=0:=by simp[jg,h]
theorem mY (l:List UInt8):jg l≤l.length:=by
 induction l with
 |nil=>simp[jg]
 |cons c r ih=>
  cases h:G9 c
  ·rw[zU h];omega
  ·rw[xq h];simp;omega
structure Tests (k:Nat):Prop where
 enter:∀(xs:Array Value) (w:World),Sem.run Tryz.prog (callFunc k xs) w=.ok (.enter k xs) w
 test:∀(a:Int) (w:World),0≤a→a≤255→Calls Tryz.prog k #[.int .u8 a] w fun e w'=>e=.returned (.bool (lH a))∧w=w'
theorem Eh:Tests 154:=⟨fun xs w=>by go_simp,fun a w=>Rx a w⟩
theorem vH:Tests 155:=⟨fun xs w=>by go_simp,fun a w=>Ry a w⟩
theorem zV:Tests 156:=⟨fun xs w=>by go_simp,fun a w=>KQ a w⟩
theorem run_any (k b:Nat) (s:ByteArray) (p l f:Nat) (w:World) (hk:Tests k) (h:Cut w b s p l f) (hp:p≤s.size) (hs:s.size≤100000):
  Calls Tryz.prog 153 #[.pointer (some ⟨b,0,none⟩),.func (.func k) #[] #[]] w fun e w'=>
   e=.returned (.string (s.extract p (p+jg (s.data.toList.drop p))))∧Cut w' b s (p+jg (s.data.toList.drop p)) l f∧Step (·=b) w w':=by
 obtain⟨c0,c1,c2,c3,f0,f1,f2,f3⟩:=h.cells
 have hlt:b<w.heap.size:=aC h.out
 have hen:=hk.enter
 have HK:=ai hk.test
 clear hk
 go_enter Tryz.func153,Tryz.ntmps153
 go_wp2
 clear c0 c1 c2 c3 f0 f1 f2 f3 hlt
 go_loopg [] s.size (fun g wr=>∃p':Nat,s.size-p'≤g∧p'≤s.size∧p≤p'∧p'+jg (s.data.toList.drop p')=p+jg (s.data.toList.drop p)∧Cut wr b s p' l f∧Step (·=b) w wr)
 case atStart=>exact⟨p,by omega,hp,Nat.le_refl _,rfl,h,Step.refl _ _⟩
 case round=>
  obtain⟨p',hg,hp',hpp,heq,hc,hst⟩:=hrel
  have HE:=ai heq
  clear heq
  obtain⟨c0,c1,c2,c3,f0,f1,f2,f3⟩:=hc.cells
  have hlt:b<wr.heap.size:=aC hc.out
  by_cases hlt':p'<s.size
  ·
   have hdr:=ai (drop_cons s p' hlt')
   have jw:((s[p'].toNat:Int))≤255:=by have:=s[p'].toNat_lt;omega
   cases hw:lH (s[p'].toNat:Int)
   ·
    have hq:=HK.o (s[p'].toNat:Int)
    rw[hw]at hq
    have HQ:=ai hq
    have HW:=ai hw
    clear hq hw
    go_wp2
    go_quiet ((exact(HQ.o _ om jw).mono fun _ _ h=>⟨h.1,_,h.2.symm⟩))
    go_wp2
    go_quiet (fail)
    go_wp2
    go_ret
    rw[←HE.o,hdr.out,zU HW.o]
    exact⟨rfl,(hc.drewN _).drewN _,(hst.drewN _).drewN _⟩
   ·
    have hq:=HK.o (s[p'].toNat:Int)
    rw[hw]at hq
    have HQ:=ai hq
    have HW:=ai hw
    clear hq hw
    go_wp2
    go_quiet ((exact(HQ.o _ om jw).mono fun _ _ h=>⟨h.1,_,h.2.symm⟩))
    go_wp2
    go_roundg (gk-1)
    case rel=>
     refine⟨p'+1,by omega,by omega,by omega,?_,(hc.drewN _).set1 (q:=p'+1) om,?_⟩
     ·
      rw[←HE.o,hdr.out,xq HW.o];omega
     ·
      (repeat (with_reducible (first|exact hst|exact Step.refl _ _|refine Step.drew ?_|refine Step.drewN ?_ _|refine Step.alloc ?_ _|refine Step.setCell ?_ _ _ jd)))
    case measure=>omega
  ·
   go_wp2
   go_quiet (fail)
   go_wp2
   go_quiet (fail)
   go_wp2
   go_ret
   have:s.data.toList.drop p'=[]:=List.drop_of_length_le (by simp;omega)
   rw[←HE.o,this,UO]
   exact⟨rfl,(hc.drewN _).drewN _,(hst.drewN _).drewN _⟩
theorem wM {w:World} {b t:Nat} {a0 a1 a2 a3 a4:Value} (h:w.heap[b]?=some (.cells #[a0,a1,a2,a3,a4] t (0,0))):(w.cell? ⟨b,0,none⟩=some a0∧w.cell? ⟨b,1,none⟩=some a1∧w.cell? ⟨b,2,none⟩=some a2∧w.cell? ⟨b,3,none⟩=some a3∧w.cell? ⟨b,4,none⟩=some a4)∧(w.frozen? ⟨b,0,none⟩=false∧w.frozen? ⟨b,1,none⟩=false∧w.frozen? ⟨b,2,none⟩=false∧w.frozen? ⟨b,3,none⟩=false∧w.frozen? ⟨b,4,none⟩=false):=
 ⟨⟨ah h 0 _ rfl,ah h 1 _ rfl,ah h 2 _ rfl,ah h 3 _ rfl,ah h 4 _ rfl⟩,⟨aH h 0,aH h 1,aH h 2,aH h 3,aH h 4⟩⟩
theorem RD (w:World) (r b:Nat) (v0 v1 v2 v3 v4:Value) (hr:b≠r):(((((w.setCell ⟨r,0,none⟩ v0).setCell ⟨r,1,none⟩ v1).setCell ⟨r,2,none⟩ v2).setCell ⟨r,3,none⟩ v3).setCell ⟨r,4,none⟩ v4).heap[b]?=w.heap[b]?:=by rw[Below.heap_setCell _ _ _ _ hr,Below.heap_setCell _ _ _ _ hr,Below.heap_setCell _ _ _ _ hr,Below.heap_setCell _ _ _ _ hr,Below.heap_setCell _ _ _ _ hr]
theorem Cut.five {w:World} {b r:Nat} {s:ByteArray} {p l f:Nat} {v0 v1 v2 v3 v4:Value} (h:Cut w b s p l f) (hr:b≠r):Cut (((((w.setCell ⟨r,0,none⟩ v0).setCell ⟨r,1,none⟩ v1).setCell ⟨r,2,none⟩ v2).setCell ⟨r,3,none⟩ v3).setCell ⟨r,4,none⟩ v4) b s p l f:=⟨by rw[RD _ _ _ _ _ _ _ _ hr];exact h.out⟩
theorem Step.five {S:Nat→Prop} {a w:World} {r:Nat} {v0 v1 v2 v3 v4:Value} (h:Step S a w) (hr:a.heap.size≤r):Step S a (((((w.setCell ⟨r,0,none⟩ v0).setCell ⟨r,1,none⟩ v1).setCell ⟨r,2,none⟩ v2).setCell ⟨r,3,none⟩ v3).setCell ⟨r,4,none⟩ v4):=by have hq:∀i,(⟨r,i,none⟩:Addr).block<a.heap.size→S r:=fun i h=>absurd h (Nat.not_lt.2 hr);exact((((h.setCell _ _ (hq 0)).setCell _ _ (hq 1)).setCell _ _ (hq 2)).setCell _ _ (hq 3)).setCell _ _ (hq 4)
theorem Step.kW {S:Nat→Prop} {w w':World} {o:Obj} (h:Step S (w.alloc o) w'):Step S w w':=((Step.refl S w).alloc o).trans h
theorem Step.IV {w w':World} {b i:Nat} {v:Value} (h:Step (·=b) (w.setCell ⟨b,i,none⟩ v) w'):Step (·=b) w w':=
 ((Step.refl (·=b) w).setCell ⟨b,i,none⟩ v jd).trans h
structure Gives (k:Nat) (F:List UInt8→Except Nat (Nat×Nat×Nat)) (G:List UInt8→Prop):Prop where
 ok:∀(b:Nat) (s:ByteArray) (p l f:Nat) (w:World) (kind n val:Nat) (m:Int),Cut w b s p l f→p<s.size→s.size≤100000→w.cell? ⟨0,0,none⟩=some (.int .i64 m)→b≠0→G (s.data.toList.drop p)→
  F (s.data.toList.drop p)=.ok (kind,n,val)→
  Calls Tryz.prog k #[.pointer (some ⟨b,0,none⟩)] w fun e w'=>
   e=.returned (.tuple #[.agg #[af kind,aG (s.extract p (p+n)),af 0,af 0,bf val],af 0])∧Cut w' b s (p+n) l f∧Step (·=b) w w'
 bad:∀(b:Nat) (s:ByteArray) (p l f:Nat) (w:World) (c:Nat) (m:Int),Cut w b s p l f→p<s.size→s.size≤100000→w.cell? ⟨0,0,none⟩=some (.int .i64 m)→b≠0→G (s.data.toList.drop p)→
  F (s.data.toList.drop p)=.error c→
  Calls Tryz.prog k #[.pointer (some ⟨b,0,none⟩)] w fun e w'=>
   e=.returned (.tuple #[.agg #[af 0,bW,af 0,af 0,bf 0],af c])∧Step (·=b) w w'
def yD (l:List UInt8):Except Nat (Nat×Nat×Nat):=if 24<jg l then .error 2 else .ok (1,jg l,0)
theorem extract_size (s:ByteArray) (p n:Nat) (h:p+n≤s.size):(s.extract p (p+n)).size=n:=by rw[ByteArray.size_extract];omega
theorem YJ (b:Nat) (s:ByteArray) (p l f:Nat) (w:World) (h:Cut w b s p l f) (hp:p<s.size) (hs:s.size≤100000) (hn:jg (s.data.toList.drop p)≤24):
  Calls Tryz.prog 138 #[.pointer (some ⟨b,0,none⟩)] w fun e w'=>
   e=.returned (.tuple #[.agg #[af 1,aG (s.extract p (p+jg (s.data.toList.drop p))),af 0,af 0,bf 0],af 0])∧Cut w' b s (p+jg (s.data.toList.drop p)) l f∧Step (·=b) w w':=by
 have hlt:b<w.heap.size:=aC h.out
 have hrl:p+jg (s.data.toList.drop p)≤s.size:=by have:=mY (s.data.toList.drop p);simp at this;omega
 go_enter Tryz.func138,Tryz.ntmps138
 go_wp2_with fail
 refine(run_any _ _ _ _ _ _ _ Eh (h.alloc _) (Nat.le_of_lt hp) hs).mono ?_
 rintro e w1 ⟨rfl,hc,hst⟩
 have hsz:=extract_size s p _ hrl
 generalize hN:jg (s.data.toList.drop p)=N at*
 have hr:=wM (hst.keep (aB w _) om)
 obtain⟨⟨d0,d1,d2,d3,d4⟩,e0,e1,e2,e3,e4⟩:=hr
 have hNN:=ai hN
 clear hN
 go_wp2
 refine bodyPost_ret (v:=.tuple #[.agg #[af 1,aG (s.extract p (p+N)),af 0,af 0,bf 0],af 0]) (by simp[results,Tryz.results138,go_sem,d0,d1,d2,d3,d4]) rfl ⟨by rw[hNN.out],?_,?_⟩
 ·
  rw[hNN.out];exact hc.five om
 ·
  exact hst.kW.five (Nat.le_refl _)
theorem UQ (b:Nat) (s:ByteArray) (p l f:Nat) (w:World) (h:Cut w b s p l f) (hp:p<s.size) (hs:s.size≤100000) (hn:24<jg (s.data.toList.drop p)):
  Calls Tryz.prog 138 #[.pointer (some ⟨b,0,none⟩)] w fun e w'=>
   e=.returned (.tuple #[.agg #[af 0,bW,af 0,af 0,bf 0],af 2])∧Step (·=b) w w':=by
 have hlt:b<w.heap.size:=aC h.out
 have hrl:p+jg (s.data.toList.drop p)≤s.size:=by have:=mY (s.data.toList.drop p);simp at this;omega
 go_enter Tryz.func138,Tryz.ntmps138
 go_wp2_with fail
 refine(run_any _ _ _ _ _ _ _ Eh (h.alloc _) (Nat.le_of_lt hp) hs).mono ?_
 rintro e w1 ⟨rfl,hc,hst⟩
 have hsz:=extract_size s p _ hrl
 generalize hN:jg (s.data.toList.drop p)=N at*
 obtain⟨⟨d0,d1,d2,d3,d4⟩,e0,e1,e2,e3,e4⟩:=wM (hst.keep (aB w _) om)
 clear hN
 go_wp2
 refine bodyPost_ret (v:=.tuple #[.agg #[af 0,bW,af 0,af 0,bf 0],af 2]) (by simp[results,Tryz.results138,go_sem,d0,d1,d2,d3,d4]) rfl ⟨rfl,?_⟩
 exact hst.kW.five (Nat.le_refl _)
theorem Ei:Gives 138 yD (fun _=>True) where
 ok b s p l f w kind n val m h hp hs _ _ _ he:=by
  unfold yD at he
  split at he
  ·
   simp at he
  ·
   simp at he
   obtain⟨rfl,rfl,rfl⟩:=he
   exact YJ b s p l f w h hp hs om
 bad b s p l f w c m h hp hs _ _ _ he:=by
  unfold yD at he
  split at he
  ·
   simp at he
   subst he
   exact UQ b s p l f w h hp hs om
  ·
   simp at he
def yE:List UInt8→Except Nat (Nat×Nat×Nat)
 |[]=>.error 1
 |_::r=>if jg r=0∨qF ((r.headD 0).toNat:Int)=false then .error 1 else if 24<jg r then .error 2 else .ok (2,jg r+1,0)
theorem kJ (s:ByteArray) (p n:Nat):(s.extract p (p+n)).data.toList=(s.data.toList.drop p).take n:=by rw[Lib.extract_data,Nat.add_sub_cancel_left]
theorem mZ (t:ByteArray) (h:0<t.size):¬t.toList=[]:=by intro e;rw[Lib.toList_data]at e;rw[Lib.size_eq,e]at h;exact absurd h (by simp)
theorem mF (t:ByteArray) (h:0<t.size):t.toList.isEmpty=false:=by
 cases e:t.toList.isEmpty
 ·rfl
 ·exact absurd (List.isEmpty_iff.1 e) (mZ t h)
theorem DI {a b:ByteArray} (h:a.data.toList=b.data.toList):a=b:=by have:a.data=b.data:=Array.toList_inj.1 h;cases a;cases b;simp at this;rw[this]
theorem oZ (t:ByteArray) (i:Nat) (h:i<t.size):t[i]=t.data.toList.getD i 0:=by
 have h':i<t.data.toList.length:=by simpa using h
 rw[List.getD_eq_getElem?_getD,List.getElem?_eq_getElem h'];rfl
theorem Ej (s:ByteArray) (p n:Nat) (hn:0<n) (h:0<(s.extract p (p+n)).size):(s.extract p (p+n))[0]=(s.data.toList.drop p).headD 0:=by
 rw[oZ _ 0 h,kJ];cases hd:s.data.toList.drop p with
 |nil=>simp
 |cons c r=>cases n with
  |zero=>omega
  |succ n=>rfl
theorem RF (s:ByteArray) (p N:Nat) (hp:p<s.size) (YK:(s.data.toList.drop p).headD 0=39):(⟨#[39]⟩:ByteArray)++s.extract (p+1) (p+1+N)=s.extract p (p+(N+1)):=by apply DI;rw[kJ,drop_cons s p hp,List.take_succ_cons,ByteArray.data_append,Array.toList_append,kJ];rw[drop_cons s p hp]at YK;simp at YK;rw[YK];rfl
theorem YL (b:Nat) (s:ByteArray) (p l f N:Nat) (w:World) (h:Cut w b s p l f) (hp:p<s.size) (hs:s.size≤100000) (hN:jg (s.data.toList.drop (p+1))=N) (YK:(s.data.toList.drop p).headD 0=39) (hpos:0<N) (hn:N≤24) (hsm:qF (((s.data.toList.drop (p+1)).headD 0).toNat:Int)=true):
  Calls Tryz.prog 139 #[.pointer (some ⟨b,0,none⟩)] w fun e w'=>
   e=.returned (.tuple #[.agg #[af 2,aG (s.extract p (p+(N+1))),af 0,af 0,bf 0],af 0])∧Cut w' b s (p+(N+1)) l f∧Step (·=b) w w':=by
 have hlt:b<w.heap.size:=aC h.out
 obtain⟨c0,c1,c2,c3,f0,f1,f2,f3⟩:=h.cells
 have hrl:p+1+N≤s.size:=by have:=mY (s.data.toList.drop (p+1));simp at this;omega
 have HN:=ai hN
 clear hN
 go_enter Tryz.func139,Tryz.ntmps139
 go_wp2_with fail
 refine(run_any _ b s (p+1) l f _ vH ((h.set1 (q:=p+1) om).alloc _) om hs).mono ?_
 rintro e w1 ⟨rfl,hc,hst⟩
 rw[HN.o]at hc⊢
 have hsz:=extract_size s (p+1) N hrl
 generalize ht:s.extract (p+1) (p+1+N)=t at*
 obtain⟨⟨d0,d1,d2,d3,d4⟩,e0,e1,e2,e3,e4⟩:=wM (hst.keep (sZ _ _ _ _) om)
 have h0:0<t.size:=by omega
 have HQC:Hid ((⟨#[39]⟩:ByteArray)++t=s.extract p (p+(N+1))):=by subst ht;exact RF s p N hp YK
 clear YK
 have hh:t[0]=(s.data.toList.drop (p+1)).headD 0:=by subst ht;exact Ej s (p+1) N hpos h0
 have hte:=mZ t h0
 have hte':=mF t h0
 have jw:((t[0].toNat:Int))≤255:=by have:=t[0].toNat_lt;omega
 have hq:=yc (t[0].toNat:Int)
 rw[hh]at hq
 rw[hsm,←hh]at hq
 have HQ:=ai hq
 have HT:=ai ht
 clear ht hh hq hsm
 go_wp2_with (go_at_call 152;refine(HQ.o _ om jw).mono ?_;rintro e w' ⟨rfl,rfl⟩)
 rw[HQC.o]
 refine bodyPost_ret (v:=.tuple #[.agg #[af 2,aG (s.extract p (p+(N+1))),af 0,af 0,bf 0],af 0]) (by simp[results,Tryz.results139,go_sem,d0,d1,d2,d3,d4]) rfl ⟨rfl,?_,?_⟩
 ·
  have:=hc.five (r:=w.heap.size) (v0:=.int .i64 2) (v1:=.string (s.extract p (p+(N+1)))) (v2:=.int .i64 0) (v3:=.int .i64 0) (v4:=.int .u64 0) om
  rw[show p+(N+1)=p+1+N by omega]at this⊢;exact this
 ·
  exact hst.kW.IV.five (Nat.le_refl _)
theorem RG (b:Nat) (s:ByteArray) (p l f N:Nat) (w:World) (h:Cut w b s p l f) (hp:p<s.size) (hs:s.size≤100000) (hN:jg (s.data.toList.drop (p+1))=N) (hn:24<N) (hsm:qF (((s.data.toList.drop (p+1)).headD 0).toNat:Int)=true):
  Calls Tryz.prog 139 #[.pointer (some ⟨b,0,none⟩)] w fun e w'=>
   e=.returned (.tuple #[.agg #[af 0,bW,af 0,af 0,bf 0],af 2])∧Step (·=b) w w':=by
 have hlt:b<w.heap.size:=aC h.out
 obtain⟨c0,c1,c2,c3,f0,f1,f2,f3⟩:=h.cells
 have hrl:p+1+N≤s.size:=by have:=mY (s.data.toList.drop (p+1));simp at this;omega
 have HN:=ai hN
 clear hN
 go_enter Tryz.func139,Tryz.ntmps139
 go_wp2_with fail
 refine(run_any _ b s (p+1) l f _ vH ((h.set1 (q:=p+1) om).alloc _) om hs).mono ?_
 rintro e w1 ⟨rfl,hc,hst⟩
 rw[HN.o]at hc⊢
 have hsz:=extract_size s (p+1) N hrl
 generalize ht:s.extract (p+1) (p+1+N)=t at*
 obtain⟨⟨d0,d1,d2,d3,d4⟩,e0,e1,e2,e3,e4⟩:=wM (hst.keep (sZ _ _ _ _) om)
 have h0:0<t.size:=by omega
 have hh:t[0]=(s.data.toList.drop (p+1)).headD 0:=by subst ht;exact Ej s (p+1) N om h0
 have hte:=mZ t h0
 have hte':=mF t h0
 have jw:((t[0].toNat:Int))≤255:=by have:=t[0].toNat_lt;omega
 have hq:=yc (t[0].toNat:Int)
 rw[hh]at hq
 rw[hsm,←hh]at hq
 have HQ:=ai hq
 clear ht hh hq hsm
 go_wp2_with (go_at_call 152;refine(HQ.o _ om jw).mono ?_;rintro e w' ⟨rfl,rfl⟩)
 refine bodyPost_ret (v:=.tuple #[.agg #[af 0,bW,af 0,af 0,bf 0],af 2]) (by simp[results,Tryz.results139,go_sem,d0,d1,d2,d3,d4]) rfl ⟨rfl,?_⟩
 exact hst.kW.IV.five (Nat.le_refl _)
theorem UR (b:Nat) (s:ByteArray) (p l f N:Nat) (w:World) (h:Cut w b s p l f) (hp:p<s.size) (hs:s.size≤100000) (hN:jg (s.data.toList.drop (p+1))=N) (hn:0<N) (hsm:qF (((s.data.toList.drop (p+1)).headD 0).toNat:Int)=false):
  Calls Tryz.prog 139 #[.pointer (some ⟨b,0,none⟩)] w fun e w'=>
   e=.returned (.tuple #[.agg #[af 0,bW,af 0,af 0,bf 0],af 1])∧Step (·=b) w w':=by
 have hlt:b<w.heap.size:=aC h.out
 obtain⟨c0,c1,c2,c3,f0,f1,f2,f3⟩:=h.cells
 have hrl:p+1+N≤s.size:=by have:=mY (s.data.toList.drop (p+1));simp at this;omega
 have HN:=ai hN
 clear hN
 go_enter Tryz.func139,Tryz.ntmps139
 go_wp2_with fail
 refine(run_any _ b s (p+1) l f _ vH ((h.set1 (q:=p+1) om).alloc _) om hs).mono ?_
 rintro e w1 ⟨rfl,hc,hst⟩
 rw[HN.o]at hc⊢
 have hsz:=extract_size s (p+1) N hrl
 generalize ht:s.extract (p+1) (p+1+N)=t at*
 obtain⟨⟨d0,d1,d2,d3,d4⟩,e0,e1,e2,e3,e4⟩:=wM (hst.keep (sZ _ _ _ _) om)
 have h0:0<t.size:=by omega
 have hh:t[0]=(s.data.toList.drop (p+1)).headD 0:=by subst ht;exact Ej s (p+1) N om h0
 have hte:=mZ t h0
 have hte':=mF t h0
 have jw:((t[0].toNat:Int))≤255:=by have:=t[0].toNat_lt;omega
 have hq:=yc (t[0].toNat:Int)
 rw[hh]at hq
 rw[hsm,←hh]at hq
 have HQ:=ai hq
 clear ht hh hq hsm
 go_wp2_with (go_at_call 152;refine(HQ.o _ om jw).mono ?_;rintro e w' ⟨rfl,rfl⟩)
 refine bodyPost_ret (v:=.tuple #[.agg #[af 0,bW,af 0,af 0,bf 0],af 1]) (by simp[results,Tryz.results139,go_sem,d0,d1,d2,d3,d4]) rfl ⟨rfl,?_⟩
 exact hst.kW.IV.five (Nat.le_refl _)
theorem RH (b:Nat) (s:ByteArray) (p l f:Nat) (w:World) (h:Cut w b s p l f) (hp:p<s.size) (hs:s.size≤100000) (hN:jg (s.data.toList.drop (p+1))=0):
  Calls Tryz.prog 139 #[.pointer (some ⟨b,0,none⟩)] w fun e w'=>
   e=.returned (.tuple #[.agg #[af 0,bW,af 0,af 0,bf 0],af 1])∧Step (·=b) w w':=by
 have hlt:b<w.heap.size:=aC h.out
 obtain⟨c0,c1,c2,c3,f0,f1,f2,f3⟩:=h.cells
 have HN:=ai hN
 clear hN
 go_enter Tryz.func139,Tryz.ntmps139
 go_wp2_with fail
 refine(run_any _ b s (p+1) l f _ vH ((h.set1 (q:=p+1) om).alloc _) om hs).mono ?_
 rintro e w1 ⟨rfl,hc,hst⟩
 rw[HN.o]at hc⊢
 have ht:s.extract (p+1) (p+1+0)=⟨#[]⟩:=DI (by rw[kJ];rfl)
 rw[ht]
 obtain⟨⟨d0,d1,d2,d3,d4⟩,e0,e1,e2,e3,e4⟩:=wM (hst.keep (sZ _ _ _ _) om)
 clear ht
 go_wp2
 refine bodyPost_ret (v:=.tuple #[.agg #[af 0,bW,af 0,af 0,bf 0],af 1]) (by simp[results,Tryz.results139,go_sem,d0,d1,d2,d3,d4]) rfl ⟨rfl,?_⟩
 exact hst.kW.IV.five (Nat.le_refl _)
theorem Em:Gives 139 yE (fun l=>l.headD 0=39) where
 ok b s p l f w kind n val m h hp hs _ _ YK he:=by
  have hd:=drop_cons s p hp
  rw[hd,yE]at he
  split at he
  ·
   simp at he
  ·
   rename_i h1
   split at he
   ·
    simp at he
   ·
    simp at he
    obtain⟨rfl,rfl,rfl⟩:=he
    refine YL b s p l f _ w h hp hs rfl YK ?_ om ?_
    ·
     rcases Nat.eq_zero_or_pos (jg (s.data.toList.drop (p+1)))with e|e
     ·
      exact absurd (.inl e) h1
     ·
      exact e
    ·
     cases e:qF (((s.data.toList.drop (p+1)).headD 0).toNat:Int)
     ·
      exact absurd (.inr e) h1
     ·
      rfl
 bad b s p l f w c m h hp hs _ _ YK he:=by
  have hd:=drop_cons s p hp
  rw[hd,yE]at he
  by_cases h0:jg (s.data.toList.drop (p+1))=0
  ·
   rw[if_pos (.inl h0)]at he
   simp at he;subst he
   exact RH b s p l f w h hp hs h0
  ·
   cases e:qF (((s.data.toList.drop (p+1)).headD 0).toNat:Int)
   ·
    rw[if_pos (.inr e)]at he
    simp at he;subst he
    exact UR b s p l f _ w h hp hs rfl om e
   ·
    rw[if_neg (fun x=>x.elim h0 (by rw[e];simp))]at he
    split at he
    ·
     simp at he;subst he
     exact RG b s p l f _ w h hp hs rfl om e
    ·
     simp at he
def Gi (c:UInt8):Option Nat:=if isDigit c.toNat then some (c.toNat-48)else if 97≤c.toNat∧c.toNat≤102 then some (c.toNat-87)else none
theorem hex_ok (c:UInt8) (v:Nat) (w:World) (h:Gi c=some v):Calls Tryz.prog 157 #[.int .u8 (c.toNat:Int)] w fun e w'=>e=.returned (.tuple #[bf v,bC true])∧w=w':=by
 have hb:(c.toNat:Int)≤255:=by have:=c.toNat_lt;omega
 unfold Gi at h;cases hd:isDigit (c.toNat:Int)
 ·rw[if_neg (by simp[hd])]at h;split at h
  ·rename_i hr;simp at h;(have hr1:(97:Int)≤c.toNat:=by omega);(have hr2:(c.toNat:Int)≤102:=by omega);(have HV:Hid ((c.toNat:Int)-97+10=v):=show _=_ by omega);clear h hr;have hq:=kV (c.toNat:Int);rw[hd]at hq;have HQ:=ai hq;clear hq hd;go_enter Tryz.func157,Tryz.ntmps157;go_wp2_with (go_at_call 140;refine(HQ.o _ om hb).mono ?_;rintro e w' ⟨rfl,rfl⟩);go_ret2;exact⟨by rw[←HV.o];rfl,rfl⟩
  ·simp at h
 ·rw[if_pos (by simp[hd])]at h;simp at h;have h48:(48:Int)≤c.toNat∧(c.toNat:Int)≤57:=by simpa[isDigit]using hd
  obtain⟨h48,h57⟩:=h48;have HV:Hid ((c.toNat:Int)-48=v):=show _=_ by omega
  clear h;have hq:=kV (c.toNat:Int);rw[hd]at hq;have HQ:=ai hq;clear hq hd;go_enter Tryz.func157,Tryz.ntmps157;go_wp2_with (go_at_call 140;refine(HQ.o _ om hb).mono ?_;rintro e w' ⟨rfl,rfl⟩);go_ret2;exact⟨by rw[←HV.o];rfl,rfl⟩
theorem YM (c:UInt8) (w:World) (h:Gi c=none):Calls Tryz.prog 157 #[.int .u8 (c.toNat:Int)] w fun e w'=>e=.returned (.tuple #[bf 0,aT])∧w=w':=by
 have hb:(c.toNat:Int)≤255:=by have:=c.toNat_lt;omega
 unfold Gi at h;cases hd:isDigit (c.toNat:Int)
 ·rw[if_neg (by simp[hd])]at h;have hr:¬(97≤c.toNat∧c.toNat≤102):=by intro e;rw[if_pos e]at h;simp at h
  have hq:=kV (c.toNat:Int);rw[hd]at hq;have HQ:=ai hq;clear hq hd h;by_cases h97:(97:Int)≤c.toNat
  ·(have h102:(102:Int)<c.toNat:=by omega);clear hr;go_enter Tryz.func157,Tryz.ntmps157;go_wp2_with (go_at_call 140;refine(HQ.o _ om hb).mono ?_;rintro e w' ⟨rfl,rfl⟩);go_ret2;exact⟨rfl,rfl⟩
  ·clear hr;go_enter Tryz.func157,Tryz.ntmps157;go_wp2_with (go_at_call 140;refine(HQ.o _ om hb).mono ?_;rintro e w' ⟨rfl,rfl⟩);go_ret2;exact⟨rfl,rfl⟩
 ·rw[if_pos (by simp[hd])]at h;simp at h
def qp:Nat→List UInt8→Option Nat
 |v,[]=>some v
 |v,c::r=>match Gi c with
  |some x=>qp (v*16+x) r
  |none=>none
def uh (c0:UInt8):List UInt8→Nat→Nat→Except Nat Nat
 |[],_,v=>.ok v
 |c::r,i,v=>
  if isDigit c.toNat=false∨(i=1∧c0=48)then .error 1
  else if 9223372036854775807<v*10+(c.toNat-48)then .error 2
  else uh c0 r (i+1) (v*10+(c.toNat-48))
def Gj (l:List UInt8):Except Nat (Nat×Nat×Nat):=
 if l.length=18∧l.take 2=[48,102]then
  match qp 0 (l.drop 2)with
  |some v=>.ok (4,l.length,v)
  |none=>.error 1
 else match uh (l.headD 0) l 0 0 with
  | .ok v=>.ok (3,l.length,v)
  | .error c=>.error c
def o_ (l:List UInt8):Except Nat (Nat×Nat×Nat):=Gj (l.take (jg l))
theorem YN {c:UInt8} {x:Nat} (h:Gi c=some x):x<16:=by
 unfold Gi at h;split at h
 ·rename_i hd;have:(48:Int)≤c.toNat∧(c.toNat:Int)≤57:=by simpa[isDigit]using hd
  simp at h;omega
 ·split at h
  ·simp at h;omega
  ·simp at h
theorem or_hex (v x:Nat) (hv:v<1152921504606846976) (hx:x<16):bits BinOp.or IntKind.u64 ((v:Int)*16) x=((v*16+x:Nat):Int):=by
 rw[show((v:Int)*16)=((v*16:Nat):Int) by omega,bits_or_u64_nat _ _ om om];have:v*16|||x=v*16+x:=by have:=Nat.shiftLeft_add_eq_or_of_lt (show x<2^4 by omega) v;rw[Nat.shiftLeft_eq]at this;exact this.symm
 rw[this]
theorem KT (l:List UInt8) (i:Nat) (h:i<l.length):l.drop i=l.getD i 0::l.drop (i+1):=by rw[List.drop_eq_getElem_cons h,List.getD_eq_getElem?_getD,List.getElem?_eq_getElem h];rfl
def aax (n b:Nat) (s:ByteArray) (p l f:Nat) (w:World) (r:Except Nat (Nat×Nat)) (e:Ending) (w':World):Prop:=
 (match r with
  | .ok (k,v)=>e=.returned (.tuple #[.agg #[af k,aG (s.extract p (p+n)),af 0,af 0,bf v],af 0])∧Cut w' b s (p+n) l f
  | .error c=>e=.returned (.tuple #[.agg #[af 0,bW,af 0,af 0,bf 0],af c]))∧Step (·=b) w w'
def floatR:Option Nat→Except Nat (Nat×Nat)
 |some v=>.ok (4,v)
 |none=>.error 1
theorem zW (b:Nat) (s:ByteArray) (p l f:Nat) (w:World) (h:Cut w b s p l f) (hp:p<s.size) (hs:s.size≤100000) (hN:jg (s.data.toList.drop p)=18) (h2:((s.data.toList.drop p).take 18).take 2=[48,102]) (r:Option Nat) (hr:qp 0 (((s.data.toList.drop p).take 18).drop 2)=r):Calls Tryz.prog 141 #[.pointer (some ⟨b,0,none⟩)] w (aax 18 b s p l f w (floatR r)):=by
 have hlt:b<w.heap.size:=aC h.out;have hrl:p+18≤s.size:=by have:=mY (s.data.toList.drop p);simp at this;omega
 have HN:=ai hN;clear hN;go_enter Tryz.func141,Tryz.ntmps141;go_wp2_with fail;refine(run_any _ b s p l f _ zV (h.alloc _) om hs).mono ?_;rintro e w1 ⟨rfl,hc,hst⟩;rw[HN.o]at hc⊢;have hsz:=extract_size s p 18 hrl;have hL:=kJ s p 18;rw[←hL]at h2 hr;generalize ht:s.extract p (p+18)=t at*;have hnb:=hst.keep (aB _ _) om;obtain⟨⟨d0,d1,d2,d3,d4⟩,e0,e1,e2,e3,e4⟩:=wM hnb;have hlt1:w.heap.size<w1.heap.size:=aC hnb;have HT:=ai ht;have HR:=ai hr;clear ht hL hr;have hs18:((t.size:Int)==18)=true:=by rw[hsz];rfl
 have hfm:((t.extract 0 2).toList==[48,102])=true:=by rw[beq_iff_eq,Lib.toList_data,Lib.extract_data];exact h2
 clear h2;go_wp2_with fail
 go_loopg [24] 16 (fun g s24 wr=>∃(i v:Nat),i≤16∧16-i≤g∧s24=.int .i64 i∧v<16^i∧qp v (t.data.toList.drop (2+i))=r∧
  wr=w1.alloc (.cells #[af 4,aG t,af 0,af 0,bf v] 111))
 case atStart=>exact⟨0,0,by omega,by omega,rfl,by omega,HR.o,rfl⟩
 case round=>
  obtain⟨i,v,hi,hg,rfl,hv,heq,rfl⟩:=hrel;have HE:=ai heq;clear heq;have hv64:v≤18446744073709551615:=by have:=Nat.pow_le_pow_right (show 0<16 by omega) hi;omega
  by_cases hlt16:i<16
  ·(have UU:v<1152921504606846976:=by have:=Nat.pow_le_pow_right (show 0<16 by omega) (show i≤15 by omega);omega);have hgd:=oZ t (2+i) om;have hdr:=KT t.data.toList (2+i) (by rw[←Lib.size_eq];omega);rw[←hgd]at hdr;have HD:=ai hdr;clear hdr hgd;cases hx:Gi t[2+i]with
   |none=>have HX:=ai hx;clear hx;go_wp2_with (go_at_call 157;refine(YM _ _ HX.o).mono ?_;rintro e w' ⟨rfl,rfl⟩);(have hr0:r=none:=by rw[←HE.o,HD.o,qp,HX.o]);subst hr0;refine bodyPost_ret (v:=.tuple #[.agg #[af 0,bW,af 0,af 0,bf 0],af 1]) (by simp[results,Tryz.results141,go_sem,d0,d1,d2,d3,d4,hlt1]) rfl ⟨rfl,?_⟩;exact(hst.kW.five (Nat.le_refl _)).alloc _
   |some x=>
    have hx16:=YN hx;have HX:=ai hx;clear hx;go_wp2_with (go_at_call 157;refine(hex_ok _ _ _ HX.o).mono ?_;rintro e w' ⟨rfl,rfl⟩);rw[or_hex v x UU hx16];go_roundg (gk-1);case rel=>
     refine⟨i+1,v*16+x,by omega,by omega,by go_num,?_,?_,rfl⟩
     ·rw[Nat.pow_succ];omega
     ·rw[←HE.o,HD.o,qp,HX.o];rfl
    case measure=>omega
  ·(have hi16:i=16:=by omega);(have hr0:r=some v:=by rw[←HE.o,hi16,List.drop_of_length_le (by rw[←Lib.size_eq];omega)];rfl);have HR0:=ai hr0;clear hr0 hi16;go_wp2;rw[HR0.o];refine bodyPost_ret (v:=.tuple #[.agg #[af 4,aG t,af 0,af 0,bf v],af 0]) (by simp[results,Tryz.results141,go_sem,d0,d1,d2,d3,d4,hlt1]) rfl ⟨⟨by rw[HT.o];rfl,?_⟩,?_⟩
   ·exact(hc.five om).alloc _
   ·exact(hst.kW.five (Nat.le_refl _)).alloc _
def intR:Except Nat Nat→Except Nat (Nat×Nat)
 | .ok v=>.ok (3,v)
 | .error c=>.error c
def En (c0:UInt8) (i v:Nat):Prop:=i=0∧v=0∨(c0=48∧i=1∧v=0)∨(c0≠48∧1≤i∧10^(i-1)≤v)
theorem En.big {c0:UInt8} {i v:Nat} (h:En c0 i v) (h1:¬(i=1∧c0=48)) (_hv:v≤9223372036854775807) (h19:19≤i):1000000000000000000≤v:=by
 rcases h with⟨h,_⟩|⟨ha,hb,_⟩|⟨_,_,hc⟩
 ·omega
 ·exact absurd ⟨hb,ha⟩ h1
 ·have:=Nat.pow_le_pow_right (show 0<10 by omega) (show 18≤i-1 by omega);have e:(10:Nat)^18=1000000000000000000:=by decide
  omega
theorem En.next {c0 c:UInt8} {i v:Nat} (h:En c0 i v) (h1:¬(i=1∧c0=48)) (hd:48≤c.toNat) (h0:i=0→c=c0):En c0 (i+1) (v*10+(c.toNat-48)):=by
 rcases h with⟨hi,hv⟩|⟨ha,hb,_⟩|⟨ha,hb,hc⟩
 ·subst hi;subst hv;have:=h0 rfl;subst this;by_cases e:c=48
  ·subst e;exact .inr (.inl ⟨rfl,rfl,rfl⟩)
  ·refine .inr (.inr ⟨e,by omega,?_⟩);have:c.toNat≠48:=fun x=>e (UInt8.toNat_inj.1 x);simp;omega
 ·exact absurd ⟨hb,ha⟩ h1
 ·refine .inr (.inr ⟨ha,by omega,?_⟩);have:10^(i+1-1)=10^(i-1)*10:=by rw[←Nat.pow_succ];congr 1;omega
  omega
theorem vI (b:Nat) (s:ByteArray) (p l f N:Nat) (w:World) (h:Cut w b s p l f) (hp:p<s.size) (hs:s.size≤100000) (hN:jg (s.data.toList.drop p)=N) (h18:N≠18∨(N=18∧((s.data.toList.drop p).take N).take 2≠[48,102])) (r:Except Nat Nat) (hr:uh (((s.data.toList.drop p).take N).headD 0) ((s.data.toList.drop p).take N) 0 0=r):Calls Tryz.prog 141 #[.pointer (some ⟨b,0,none⟩)] w (aax N b s p l f w (intR r)):=by
 have hlt:b<w.heap.size:=aC h.out;have hrl:p+N≤s.size:=by have:=mY (s.data.toList.drop p);simp at this;omega
 have HN:=ai hN;clear hN;go_enter Tryz.func141,Tryz.ntmps141;go_wp2_with fail;refine(run_any _ b s p l f _ zV (h.alloc _) om hs).mono ?_;rintro e w1 ⟨rfl,hc,hst⟩;rw[HN.o]at hc⊢;have hsz:=extract_size s p N hrl;have hL:=kJ s p N;rw[←hL]at hr h18;generalize ht:s.extract p (p+N)=t at*;have hnb:=hst.keep (aB _ _) om;obtain⟨⟨d0,d1,d2,d3,d4⟩,e0,e1,e2,e3,e4⟩:=wM hnb;have hlt1:w.heap.size<w1.heap.size:=aC hnb;have HT:=ai ht;have HR:=ai hr;clear ht hL hr;have h9:((N:Int)==18)=false∨(((N:Int)==18)=true∧2≤N∧((t.extract 0 2).toList==[48,102])=false):=by
  rcases h18 with h|⟨h,hno⟩
  ·exact .inl (by rw[beq_eq_false_iff_ne];omega)
  ·exact .inr ⟨by rw[beq_iff_eq];omega,by omega,by rw[beq_eq_false_iff_ne,Lib.toList_data,Lib.extract_data];exact hno⟩
 clear h18;rcases h9 with hs18|⟨hs18,h2N,hfm⟩
 all_goals (
  go_wp2_with fail
  go_loopg [48] N (fun g s48 wr=>∃(i v:Nat),i≤N∧i≤19∧N-i≤g∧s48=.int .i64 i∧v≤9223372036854775807∧En (t.data.toList.headD 0) i v∧uh (t.data.toList.headD 0) (t.data.toList.drop i) i v=r∧
   wr=w1.alloc (.cells #[af 3,aG t,af 0,af 0,bf v] 111))
  case atStart=>exact⟨0,0,by omega,by omega,by omega,rfl,by omega,.inl ⟨rfl,rfl⟩,HR.o,rfl⟩
  case round=>
   obtain⟨i,v,hi,hi19,hg,rfl,hv,hat,heq,rfl⟩:=hrel
   have HE:=ai heq
   have HA:=ai hat
   clear heq hat
   by_cases hlti:i<N
   ·
    have hgd:=oZ t i om
    have hdr:=KT t.data.toList i (by rw[←Lib.size_eq];omega)
    rw[←hgd]at hdr
    have jw:((t[i].toNat:Int))≤255:=by have:=t[i].toNat_lt;omega
    have hlt0:0<t.size:=by omega
    have h00:t[0]=t.data.toList.headD 0:=by rw[oZ t 0 hlt0];cases t.data.toList<;>rfl
    rw[←h00]at HA HE
    have H00:=ai h00
    clear h00
    have HD:=ai hdr
    clear hdr hgd
    have hq:=kV (t[i].toNat:Int)
    cases hd:isDigit (t[i].toNat:Int)
    ·
     rw[hd]at hq
     have HQ:=ai hq
     have HX:=ai hd
     clear hq hd
     go_wp2_with (go_at_call 140;refine(HQ.o _ om jw).mono ?_;rintro e w' ⟨rfl,rfl⟩)
     have hr0:r=.error 1:=by rw[←HE.o,HD.o,uh,if_pos (.inl HX.o)]
     subst hr0
     refine bodyPost_ret (v:=.tuple #[.agg #[af 0,bW,af 0,af 0,bf 0],af 1]) (by simp[results,Tryz.results141,go_sem,d0,d1,d2,d3,d4,hlt1]) rfl ⟨rfl,?_⟩
     exact(hst.kW.five (Nat.le_refl _)).alloc _
    ·
     rw[hd]at hq
     have HQ:=ai hq
     have h48:(48:Int)≤t[i].toNat∧(t[i].toNat:Int)≤57:=by simpa[isDigit]using hd
     obtain⟨h48,h57⟩:=h48
     have HX:=ai hd
     clear hq hd
     by_cases hi1:i=1∧t[0]=48
     ·
      have hb1:((i:Int)==1)=true:=by rw[hi1.1];rfl
      have hb2:((t[0].toNat:Int)==48)=true:=by rw[hi1.2];rfl
      have H1:=ai hi1
      clear hi1
      go_wp2_with (go_at_call 140;refine(HQ.o _ om jw).mono ?_;rintro e w' ⟨rfl,rfl⟩)
      have hr0:r=.error 1:=by rw[←HE.o,HD.o,uh,if_pos (.inr H1.o)]
      subst hr0
      refine bodyPost_ret (v:=.tuple #[.agg #[af 0,bW,af 0,af 0,bf 0],af 1]) (by simp[results,Tryz.results141,go_sem,d0,d1,d2,d3,d4,hlt1]) rfl ⟨rfl,?_⟩
      exact(hst.kW.five (Nat.le_refl _)).alloc _
     ·
      have hor:(((i:Int)==1)=true∧((t[0].toNat:Int)==48)=false)∨(((i:Int)==1)=false):=by
        by_cases e1:i=1
        ·
         exact .inl ⟨by rw[e1];rfl,by rw[beq_eq_false_iff_ne];exact fun e=>hi1 ⟨e1,mX 48 e⟩⟩
        ·
         exact .inr (by rw[beq_eq_false_iff_ne];omega)
      have H1:=ai hi1
      clear hi1
      by_cases h19:19≤i
      ·
       have HR2:Hid (r=.error 2):=by
         show r=.error 2
         rw[←HE.o,HD.o,uh,if_neg (fun e=>e.elim (by rw[HX.o];simp) H1.o),if_pos]
         have:=HA.o.big H1.o om h19
         omega
       have hb1:((i:Int)==1)=false:=by rw[beq_eq_false_iff_ne];omega
       have hge:decide (19≤(i:Int))=true:=by rw[decide_eq_true_eq];omega
       clear hor
       ·
        go_wp2_with (go_at_call 140;refine(HQ.o _ om jw).mono ?_;rintro e w' ⟨rfl,rfl⟩)
        rw[HR2.o]
        refine bodyPost_ret (v:=.tuple #[.agg #[af 0,bW,af 0,af 0,bf 0],af 2]) (by simp[results,Tryz.results141,go_sem,d0,d1,d2,d3,d4,hlt1]) rfl ⟨rfl,?_⟩
        exact(hst.kW.five (Nat.le_refl _)).alloc _
      ·
       have hge:decide (19≤(i:Int))=false:=by rw[decide_eq_false_iff_not];omega
       by_cases hbig:(v:Int)≤(9223372036854775807-((t[i].toNat:Int)-48))/10
       ·
        have oO:Hid (uh t[0] (t.data.toList.drop (i+1)) (i+1) (v*10+(t[i].toNat-48))=r∧En t[0] (i+1) (v*10+(t[i].toNat-48))∧v*10+(t[i].toNat-48)≤9223372036854775807∧((v:Int)*10+((t[i].toNat:Int)-48)=((v*10+(t[i].toNat-48):Nat):Int))):=by
          refine⟨?_,?_,by omega,by omega⟩
          ·
           rw[←HE.o,HD.o,uh,if_neg (fun e=>e.elim (by rw[HX.o];simp) H1.o),if_neg om]
          ·
           refine HA.o.next (c:=t[i]) H1.o om ?_
           intro e0
           subst e0
           rfl
        have hgt:decide ((9223372036854775807-((t[i].toNat:Int)-48))/10<(v:Int))=false:=by rw[decide_eq_false_iff_not];omega
        rcases hor with⟨hb1,hb2⟩|hb1
        all_goals
         go_wp2_with (go_at_call 140;refine(HQ.o _ om jw).mono ?_;rintro e w' ⟨rfl,rfl⟩)
         obtain⟨hn1,hn2,hn3,hn4⟩:=oO.o
         rw[hn4]
         go_roundg (gk-1)
         case rel=>
          exact⟨i+1,v*10+(t[i].toNat-48),by omega,by omega,by omega,by go_num,hn3,by rw[←H00.o];exact hn2,by rw[←H00.o];exact hn1,rfl⟩
         case measure=>omega
       ·
        have HR2:Hid (r=.error 2):=by
          show r=.error 2
          rw[←HE.o,HD.o,uh,if_neg (fun e=>e.elim (by rw[HX.o];simp) H1.o),if_pos om]
        have hgt:decide ((9223372036854775807-((t[i].toNat:Int)-48))/10<(v:Int))=true:=by rw[decide_eq_true_eq];omega
        rcases hor with⟨hb1,hb2⟩|hb1
        all_goals
         go_wp2_with (go_at_call 140;refine(HQ.o _ om jw).mono ?_;rintro e w' ⟨rfl,rfl⟩)
         rw[HR2.o]
         refine bodyPost_ret (v:=.tuple #[.agg #[af 0,bW,af 0,af 0,bf 0],af 2]) (by simp[results,Tryz.results141,go_sem,d0,d1,d2,d3,d4,hlt1]) rfl ⟨rfl,?_⟩
         exact(hst.kW.five (Nat.le_refl _)).alloc _
   ·
    have hr0:Hid (r=.ok v):=by
      show r=.ok v
      rw[←HE.o,List.drop_of_length_le (by rw[←Lib.size_eq];omega)];rfl
    go_wp2
    rw[hr0.out]
    refine bodyPost_ret (v:=.tuple #[.agg #[af 3,aG t,af 0,af 0,bf v],af 0]) (by simp[results,Tryz.results141,go_sem,d0,d1,d2,d3,d4,hlt1]) rfl ⟨⟨by rw[HT.o];rfl,?_⟩,?_⟩
    ·
     exact(hc.five om).alloc _
    ·
     exact(hst.kW.five (Nat.le_refl _)).alloc _)
theorem zX:Gives 141 o_ (fun _=>True) where
 ok b s p l f w kind n val m h hp hs _ _ _ he:=by
  have hlen:((s.data.toList.drop p).take (jg (s.data.toList.drop p))).length=jg (s.data.toList.drop p):=by
   rw[List.length_take];have:=mY (s.data.toList.drop p);omega
  unfold o_ Gj at he
  rw[hlen]at he
  generalize hN:jg (s.data.toList.drop p)=N at*
  split at he
  ·
   rename_i hc
   obtain⟨rfl,h2⟩:=hc
   split at he
   ·
    rename_i v hv
    simp at he
    obtain⟨rfl,rfl,rfl⟩:=he
    refine(zW b s p l f w h hp hs hN h2 (some v) hv).mono fun e w' q=> ?_
    exact⟨q.1.1,q.1.2,q.2⟩
   ·
    simp at he
  ·
   rename_i hc
   split at he
   ·
    rename_i v hv
    simp at he
    obtain⟨rfl,rfl,rfl⟩:=he
    by_cases h18:N=18
    ·
     refine(vI b s p l f N w h hp hs hN (.inr ⟨h18,fun e=>hc ⟨h18,e⟩⟩) (.ok v) hv).mono fun e w' q=> ?_
     exact⟨q.1.1,q.1.2,q.2⟩
    ·
     refine(vI b s p l f N w h hp hs hN (.inl h18) (.ok v) hv).mono fun e w' q=> ?_
     exact⟨q.1.1,q.1.2,q.2⟩
   ·
    simp at he
 bad b s p l f w c m h hp hs _ _ _ he:=by
  have hlen:((s.data.toList.drop p).take (jg (s.data.toList.drop p))).length=jg (s.data.toList.drop p):=by
   rw[List.length_take];have:=mY (s.data.toList.drop p);omega
  unfold o_ Gj at he
  rw[hlen]at he
  generalize hN:jg (s.data.toList.drop p)=N at*
  split at he
  ·
   rename_i hc
   obtain⟨rfl,h2⟩:=hc
   split at he
   ·
    simp at he
   ·
    rename_i hv
    simp at he
    subst he
    exact(zW b s p l f w h hp hs hN h2 none hv).mono fun e w' q=>q
  ·
   rename_i hc
   split at he
   ·
    simp at he
   ·
    rename_i v hv
    simp at he
    subst he
    by_cases h18:N=18
    ·
     exact(vI b s p l f N w h hp hs hN (.inr ⟨h18,fun e=>hc ⟨h18,e⟩⟩) (.error _) hv).mono fun e w' q=>q
    ·
     exact(vI b s p l f N w h hp hs hN (.inl h18) (.error _) hv).mono fun e w' q=>q
theorem contains_cons (b:UInt8) (l sub:List UInt8):Lib.contains (b::l) sub=(sub.isPrefixOf (b::l)||Lib.contains l sub):=by
 unfold Lib.contains;rw[Lib.index];have:=Lib.index_ge l sub;cases h:sub.isPrefixOf (b::l)
 ·by_cases h1:Lib.index l sub= -1
  ·simp[h1]
  ·(have:(Lib.index l sub== -1)=false:=by rw[beq_eq_false_iff_ne];exact h1);simp[this];omega
 ·simp
theorem contains_nil (a:UInt8) (l:List UInt8):Lib.contains [] (a::l)=false:=rfl
def qj (a b:UInt8):Bool:=(a==45&&b==62)||(a==61&&b==61)||(a==38&&b==38)
def xu (a:UInt8):Bool:=[40,41,123,125,60,62,44,59,58,61,38,124,43,45,42,47,33,46].contains a
theorem zY (a b:UInt8) (ha:a≠32) (hb:b≠32):Lib.contains [45,62,32,61,61,32,38,38,32] [a,b]=qj a b:=by
 have ha':(a==32)=false:=by rw[beq_eq_false_iff_ne];exact ha
 have hb':(b==32)=false:=by rw[beq_eq_false_iff_ne];exact hb
 simp only[contains_cons,contains_nil,List.isPrefixOf,ha',hb',qj,Bool.and_true,Bool.and_false,Bool.false_and,Bool.or_false,Bool.false_or,Bool.or_assoc]
theorem IW (a:UInt8):Lib.contains [40,41,123,125,60,62,44,59,58,61,38,124,43,45,42,47,33,46] [a]=xu a:=by simp only[contains_cons,contains_nil,List.isPrefixOf,xu,List.contains_cons,List.contains_nil,Bool.and_true]
def lg:List UInt8→Except Nat (Nat×Nat×Nat)
 |a::b::_=>if qj a b then .ok (5,2,0)else if xu a then .ok (5,1,0)else .error 1
 |[a]=>if xu a then .ok (5,1,0)else .error 1
 |[]=>.error 1
theorem fQ {w:World} {a:Addr} {v:Value} {n:Nat} (h:w.cell? a=some v):(w.drewN n).cell? a=some v:=h
theorem two_any (u:ByteArray) (v:Bool) (m:Int) (w:World) (hu:Lib.contains [45,62,32,61,61,32,38,38,32] u.data.toList=v) (hm:w.cell? ⟨0,0,none⟩=some (.int .i64 m)):Calls Tryz.prog 134 #[.string ⟨#[45,62,32,61,61,32,38,38,32]⟩,.string u] w fun e w'=>e=.returned (.bool v)∧w=w':=
 (Tryz.strings_Contains _ _ m _ dc hm).mono fun _ _ h=>⟨by rw[h.1];exact qL hu,h.2.symm⟩
theorem one_any (u:ByteArray) (v:Bool) (m:Int) (w:World) (hu:Lib.contains [40,41,123,125,60,62,44,59,58,61,38,124,43,45,42,47,33,46] u.data.toList=v) (hm:w.cell? ⟨0,0,none⟩=some (.int .i64 m)):Calls Tryz.prog 134 #[.string ⟨#[40,41,123,125,60,62,44,59,58,61,38,124,43,45,42,47,33,46]⟩,.string u] w fun e w'=>e=.returned (.bool v)∧w=w':=
 (Tryz.strings_Contains _ _ m _ dc hm).mono fun _ _ h=>⟨by rw[h.1];exact qL hu,h.2.symm⟩
theorem extract_extract (s:ByteArray) (p n:Nat) (_h:p+n≤s.size):(s.extract p s.size).extract 0 n=s.extract p (p+n):=by apply DI;rw[Lib.extract_data,qM,kJ];rfl
theorem UW (b:Nat) (s:ByteArray) (p l f:Nat) (w:World) (m:Int) (h:Cut w b s p l f) (hp:p+1<s.size) (hs:s.size≤100000) (hm:w.cell? ⟨0,0,none⟩=some (.int .i64 m)) (c d:UInt8) (rest:List UInt8) (hd:s.data.toList.drop p=c::d::rest) (h2:qj c d=true):
  Calls Tryz.prog 142 #[.pointer (some ⟨b,0,none⟩)] w fun e w'=>
   e=.returned (.tuple #[.agg #[af 5,aG (s.extract p (p+2)),af 0,af 0,bf 0],af 0])∧Cut w' b s (p+2) l f∧Step (·=b) w w':=by
 obtain⟨c0,c1,c2,c3,f0,f1,f2,f3⟩:=h.cells
 have hlt:b<w.heap.size:=aC h.out
 have hts:(s.extract p s.size).size=s.size-p:=by rw[ByteArray.size_extract];omega
 have htl:=qM s p
 rw[hd]at htl
 have htx:=extract_extract s p 2 om
 generalize ht:s.extract p s.size=t at*
 have h0:0<t.size:=by omega
 have h1:1<t.size:=by omega
 have g0:t[0]=c:=by rw[oZ t 0 h0,htl];rfl
 have g1:t[1]=d:=by rw[oZ t 1 h1,htl];rfl
 have hcd:c≠32∧d≠32:=by
  unfold qj at h2
  constructor<;>(rintro rfl;revert h2;simp)
 have b0:((t[0].toNat:Int) !=32)=true:=by rw[bne_iff_ne,g0];exact fun e=>hcd.1 (mX 32 e)
 have b1:((t[1].toNat:Int) !=32)=true:=by rw[bne_iff_ne,g1];exact fun e=>hcd.2 (mX 32 e)
 have HC:Hid (Lib.contains [45,62,32,61,61,32,38,38,32] (t.extract 0 2).data.toList=true):=by
  show _=_
  rw[Lib.extract_data,htl]
  exact(zY c d hcd.1 hcd.2).trans h2
 have HT:=ai ht
 have HX:=ai htx
 clear hd h2 htl g0 g1 hcd ht htx hts
 go_enter Tryz.func142,Tryz.ntmps142
 go_wp2
 go_quiet (fail)
 rw[HT.o]
 go_wp2_with (go_at_call 134;refine(two_any _ true m _ HC.o (fQ (d_ hm))).mono ?_;rintro e w' ⟨rfl,rfl⟩)
 rw[HX.o]
 refine bodyPost_ret (v:=.tuple #[.agg #[af 5,aG (s.extract p (p+2)),af 0,af 0,bf 0],af 0]) (by simp[results,Tryz.results142,go_sem]) rfl ⟨rfl,?_,?_⟩
 ·
  exact(((h.alloc _).drewN _).set1 (q:=p+2) om).five om
 ·
  exact((((Step.refl (·=b) w).alloc _).drewN _).setCell ⟨b,1,none⟩ _ jd).five (Nat.le_refl _)
inductive Eo (c:UInt8) (r:List UInt8):Prop where
 |short:r=[]→Eo c r
 |NR:r≠[]→c=32→Eo c r
 |NS (d:UInt8) (r':List UInt8):r=d::r'→c≠32→d=32→Eo c r
 |other (d:UInt8) (r':List UInt8):r=d::r'→c≠32→d≠32→qj c d=false→Eo c r
theorem KU (v:Bool) (b:Nat) (s:ByteArray) (p l f:Nat) (w:World) (m:Int) (h:Cut w b s p l f) (hp:p<s.size) (hs:s.size≤100000) (hm:w.cell? ⟨0,0,none⟩=some (.int .i64 m)) (c:UInt8) (r:List UInt8) (hd:s.data.toList.drop p=c::r) (h2:Eo c r) (h1v:xu c=v):Calls Tryz.prog 142 #[.pointer (some ⟨b,0,none⟩)] w (aax 1 b s p l f w (if v then .ok (5,0)else .error 1)):=by
 obtain⟨c0,c1,c2,c3,f0,f1,f2,f3⟩:=h.cells;have hlt:b<w.heap.size:=aC h.out;have hts:(s.extract p s.size).size=s.size-p:=by rw[ByteArray.size_extract];omega
 have htl:=qM s p;rw[hd]at htl;have htx:=extract_extract s p 1 om;generalize ht:s.extract p s.size=t at*;have h0:0<t.size:=by omega
 have g0:t[0]=c:=by rw[oZ t 0 h0,htl];rfl
 have hsz:t.size=r.length+1:=by rw[Lib.size_eq,htl];rfl
 have HC:Hid (Lib.contains [40,41,123,125,60,62,44,59,58,61,38,124,43,45,42,47,33,46] (t.extract 0 1).data.toList=v):=by rw[Lib.extract_data,htl];exact(IW c).trans h1v
 have HT:=ai ht;have HX:=ai htx;have ht100:t.size≤100000:=by omega
 have htl':Hid (t.data.toList=c::r):=htl;clear h1v ht htx hts hd htl;cases h2 with
 |short he=>
  have hn1:¬1<t.size:=by rw[hsz,he];simp
  clear hsz he g0;cases v
  ·show Calls _ _ _ _ (aax 1 b s p l f w (.error 1));go_enter Tryz.func142,Tryz.ntmps142;go_wp2;go_quiet (fail);rw[HT.o];go_wp2_with (go_at_call 134;refine(one_any _ _ m _ HC.o (fQ (d_ hm))).mono ?_;rintro e w' ⟨rfl,rfl⟩);refine bodyPost_ret (v:=.tuple #[.agg #[af 0,bW,af 0,af 0,bf 0],af 1]) (by simp[results,Tryz.results142,go_sem]) rfl ⟨rfl,?_⟩;exact(((Step.refl (·=b) w).alloc _).drewN _).five (Nat.le_refl _)
  ·show Calls _ _ _ _ (aax 1 b s p l f w (.ok (5,0)));go_enter Tryz.func142,Tryz.ntmps142;go_wp2;go_quiet (fail);rw[HT.o];go_wp2_with (go_at_call 134;refine(one_any _ _ m _ HC.o (fQ (d_ hm))).mono ?_;rintro e w' ⟨rfl,rfl⟩);rw[HX.o];refine bodyPost_ret (v:=.tuple #[.agg #[af 5,aG (s.extract p (p+1)),af 0,af 0,bf 0],af 0]) (by simp[results,Tryz.results142,go_sem]) rfl ⟨⟨rfl,?_⟩,?_⟩
   ·exact(((h.alloc _).drewN _).set1 (q:=p+1) om).five om
   ·exact((((Step.refl (·=b) w).alloc _).drewN _).setCell ⟨b,1,none⟩ _ jd).five (Nat.le_refl _)
 |NR hne hc=>
  have hl1:1<t.size:=by
   rw[hsz];cases r with
   |nil=>exact absurd rfl hne
   |cons _ _=>simp
  have b0:((t[0].toNat:Int) !=32)=false:=by rw[g0,hc];rfl
  clear hsz g0 hc;cases v
  ·show Calls _ _ _ _ (aax 1 b s p l f w (.error 1));go_enter Tryz.func142,Tryz.ntmps142;go_wp2;go_quiet (fail);rw[HT.o];go_wp2_with (go_at_call 134;refine(one_any _ _ m _ HC.o (fQ (d_ hm))).mono ?_;rintro e w' ⟨rfl,rfl⟩);refine bodyPost_ret (v:=.tuple #[.agg #[af 0,bW,af 0,af 0,bf 0],af 1]) (by simp[results,Tryz.results142,go_sem]) rfl ⟨rfl,?_⟩;exact(((Step.refl (·=b) w).alloc _).drewN _).five (Nat.le_refl _)
  ·show Calls _ _ _ _ (aax 1 b s p l f w (.ok (5,0)));go_enter Tryz.func142,Tryz.ntmps142;go_wp2;go_quiet (fail);rw[HT.o];go_wp2_with (go_at_call 134;refine(one_any _ _ m _ HC.o (fQ (d_ hm))).mono ?_;rintro e w' ⟨rfl,rfl⟩);rw[HX.o];refine bodyPost_ret (v:=.tuple #[.agg #[af 5,aG (s.extract p (p+1)),af 0,af 0,bf 0],af 0]) (by simp[results,Tryz.results142,go_sem]) rfl ⟨⟨rfl,?_⟩,?_⟩
   ·exact(((h.alloc _).drewN _).set1 (q:=p+1) om).five om
   ·exact((((Step.refl (·=b) w).alloc _).drewN _).setCell ⟨b,1,none⟩ _ jd).five (Nat.le_refl _)
 |NS d r' hr hc hd=>
  have hl1:1<t.size:=by rw[hsz,hr];simp
  have g1:t[1]=d:=by rw[oZ t 1 hl1,htl'.out,hr];rfl
  have b0:((t[0].toNat:Int) !=32)=true:=by rw[bne_iff_ne,g0];exact fun e=>hc (mX 32 e)
  have b1:((t[1].toNat:Int) !=32)=false:=by rw[g1,hd];rfl
  clear hsz g0 g1 hd hr;cases v
  ·show Calls _ _ _ _ (aax 1 b s p l f w (.error 1));go_enter Tryz.func142,Tryz.ntmps142;go_wp2;go_quiet (fail);rw[HT.o];go_wp2_with (go_at_call 134;refine(one_any _ _ m _ HC.o (fQ (d_ hm))).mono ?_;rintro e w' ⟨rfl,rfl⟩);refine bodyPost_ret (v:=.tuple #[.agg #[af 0,bW,af 0,af 0,bf 0],af 1]) (by simp[results,Tryz.results142,go_sem]) rfl ⟨rfl,?_⟩;exact(((Step.refl (·=b) w).alloc _).drewN _).five (Nat.le_refl _)
  ·show Calls _ _ _ _ (aax 1 b s p l f w (.ok (5,0)));go_enter Tryz.func142,Tryz.ntmps142;go_wp2;go_quiet (fail);rw[HT.o];go_wp2_with (go_at_call 134;refine(one_any _ _ m _ HC.o (fQ (d_ hm))).mono ?_;rintro e w' ⟨rfl,rfl⟩);rw[HX.o];refine bodyPost_ret (v:=.tuple #[.agg #[af 5,aG (s.extract p (p+1)),af 0,af 0,bf 0],af 0]) (by simp[results,Tryz.results142,go_sem]) rfl ⟨⟨rfl,?_⟩,?_⟩
   ·exact(((h.alloc _).drewN _).set1 (q:=p+1) om).five om
   ·exact((((Step.refl (·=b) w).alloc _).drewN _).setCell ⟨b,1,none⟩ _ jd).five (Nat.le_refl _)
 |other d r' hr hc hd ho=>
  have hl1:1<t.size:=by rw[hsz,hr];simp
  have g1:t[1]=d:=by rw[oZ t 1 hl1,htl'.out,hr];rfl
  have b0:((t[0].toNat:Int) !=32)=true:=by rw[bne_iff_ne,g0];exact fun e=>hc (mX 32 e)
  have b1:((t[1].toNat:Int) !=32)=true:=by rw[bne_iff_ne,g1];exact fun e=>hd (mX 32 e)
  have HD:Hid (Lib.contains [45,62,32,61,61,32,38,38,32] (t.extract 0 2).data.toList=false):=by rw[Lib.extract_data,htl'.out,hr];exact(zY c d hc hd).trans ho
  clear hsz g0 g1 hr ho;cases v
  ·show Calls _ _ _ _ (aax 1 b s p l f w (.error 1));go_enter Tryz.func142,Tryz.ntmps142;go_wp2;go_quiet (fail);rw[HT.o];go_wp2_with fail;refine(two_any _ _ m _ HD.o (fQ (d_ hm))).mono ?_;rintro e w' ⟨rfl,rfl⟩;go_wp2_with fail;refine(one_any _ _ m _ HC.o (fQ (d_ hm))).mono ?_;rintro e w' ⟨rfl,rfl⟩;go_wp2;refine bodyPost_ret (v:=.tuple #[.agg #[af 0,bW,af 0,af 0,bf 0],af 1]) (by simp[results,Tryz.results142,go_sem]) rfl ⟨rfl,?_⟩;exact(((Step.refl (·=b) w).alloc _).drewN _).five (Nat.le_refl _)
  ·show Calls _ _ _ _ (aax 1 b s p l f w (.ok (5,0)));go_enter Tryz.func142,Tryz.ntmps142;go_wp2;go_quiet (fail);rw[HT.o];go_wp2_with fail;refine(two_any _ _ m _ HD.o (fQ (d_ hm))).mono ?_;rintro e w' ⟨rfl,rfl⟩;go_wp2_with fail;refine(one_any _ _ m _ HC.o (fQ (d_ hm))).mono ?_;rintro e w' ⟨rfl,rfl⟩;go_wp2;rw[HX.o];refine bodyPost_ret (v:=.tuple #[.agg #[af 5,aG (s.extract p (p+1)),af 0,af 0,bf 0],af 0]) (by simp[results,Tryz.results142,go_sem]) rfl ⟨⟨rfl,?_⟩,?_⟩
   ·exact(((h.alloc _).drewN _).set1 (q:=p+1) om).five om
   ·exact((((Step.refl (·=b) w).alloc _).drewN _).setCell ⟨b,1,none⟩ _ jd).five (Nat.le_refl _)
theorem Ep:Gives 142 lg (fun _=>True) where
 ok b s p l f w kind n val m h hp hs hm _ _ he:=by
  cases hd:s.data.toList.drop p with
  |nil=>rw[hd,lg]at he;simp at he
  |cons c r=>
   rw[hd]at he
   by_cases h2:∃d r',r=d::r'∧qj c d=true
   ·
    obtain⟨d,r',rfl,h2⟩:=h2
    rw[lg,if_pos h2]at he
    simp at he
    obtain⟨rfl,rfl,rfl⟩:=he
    have hp1:p+1<s.size:=by
     have:=congrArg List.length hd
     simp at this;omega
    exact UW b s p l f w m h hp1 hs hm c d r' hd h2
   ·
    have hno:Eo c r∧(lg (c::r)=if xu c then .ok (5,1,0)else .error 1):=by
      cases r with
      |nil=>exact⟨.short rfl,rfl⟩
      |cons d r'=>
       have h3:qj c d=false:=by
        cases e:qj c d
        ·
         rfl
        ·
         exact absurd ⟨d,r',rfl,e⟩ h2
       refine⟨?_,by rw[lg,h3];rfl⟩
       by_cases hc:c=32
       ·
        exact .NR (by simp) hc
       ·
        by_cases hd':d=32
        ·
         exact .NS d r' rfl hc hd'
        ·
         exact .other d r' rfl hc hd' h3
    rw[hno.2]at he
    cases h1:xu c
    ·
     rw[h1]at he;simp at he
    ·
     rw[h1]at he
     simp at he
     obtain⟨rfl,rfl,rfl⟩:=he
     exact(KU true b s p l f w m h hp hs hm c r hd hno.1 h1).mono fun e w' q=>⟨q.1.1,q.1.2,q.2⟩
 bad b s p l f w e0 m h hp hs hm _ _ he:=by
  cases hd:s.data.toList.drop p with
  |nil=>
   have:=congrArg List.length hd
   simp at this;omega
  |cons c r=>
   rw[hd]at he
   by_cases h2:∃d r',r=d::r'∧qj c d=true
   ·
    obtain⟨d,r',rfl,h2⟩:=h2
    rw[lg,if_pos h2]at he
    simp at he
   ·
    have hno:Eo c r∧(lg (c::r)=if xu c then .ok (5,1,0)else .error 1):=by
      cases r with
      |nil=>exact⟨.short rfl,rfl⟩
      |cons d r'=>
       have h3:qj c d=false:=by
        cases e:qj c d
        ·
         rfl
        ·
         exact absurd ⟨d,r',rfl,e⟩ h2
       refine⟨?_,by rw[lg,h3];rfl⟩
       by_cases hc:c=32
       ·
        exact .NR (by simp) hc
       ·
        by_cases hd':d=32
        ·
         exact .NS d r' rfl hc hd'
        ·
         exact .other d r' rfl hc hd' h3
    rw[hno.2]at he
    cases h1:xu c
    ·
     rw[h1]at he
     simp at he
     subst he
     exact(KU false b s p l f w m h hp hs hm c r hd hno.1 h1).mono fun e w' q=>q
    ·
     rw[h1]at he;simp at he
def jL:List UInt8→Except Nat (Nat×Nat×Nat)
 |[]=>.error 1
 |c::r=>if jf c.toNat then yD (c::r)else if c=39 then yE (c::r)else if isDigit c.toNat then o_ (c::r)else lg (c::r)
theorem IX (b:Nat) (s:ByteArray) (p l f:Nat) (w:World) (kind n val:Nat) (m:Int) (h:Cut w b s p l f) (hp:p<s.size) (hs:s.size≤100000) (hm:w.cell? ⟨0,0,none⟩=some (.int .i64 m)) (hb0:b≠0) (hL:jf (s[p].toNat:Int)=true) (he:yD (s.data.toList.drop p)=.ok (kind,n,val)):Calls Tryz.prog 122 #[.pointer (some ⟨b,0,none⟩)] w fun e w'=>e=.returned (.tuple #[.agg #[af kind,aG (s.extract p (p+n)),af 0,af 0,bf val],af 0])∧Cut w' b s (p+n) l f∧Step (·=b) w w':=by
 obtain⟨c0,c1,c2,c3,f0,f1,f2,f3⟩:=h.cells;have hlt:b<w.heap.size:=aC h.out;have jw:((s[p].toNat:Int))≤255:=by have:=s[p].toNat_lt;omega
 have hq:=jU (s[p].toNat:Int);rw[hL]at hq;have HQ:=ai hq;have HE:=ai he;clear hq hL he;go_enter Tryz.func122,Tryz.ntmps122;go_wp2;go_quiet (fail);go_wp2_with ((go_at_call 137;refine(HQ.o _ om jw).mono ?_;rintro e w' ⟨rfl,rfl⟩));refine((Ei.ok b s p l f _ kind n val m ((h.alloc _).drewN _) hp hs (fQ (d_ hm)) hb0 trivial HE.o)).mono ?_;rintro e w1 ⟨rfl,hc1,hst⟩;have hnb:=hst.keep (oJ (aB w _)) om;obtain⟨⟨d0,d1,d2,d3,d4⟩,e0,e1,e2,e3,e4⟩:=wM hnb;have hst':Step (·=b) w w1:=(((Step.refl _ w).alloc _).drewN _).trans hst;clear hnb hst;go_wp2;refine bodyPost_ret (v:=.tuple #[.agg #[af kind,aG (s.extract p (p+n)),af 0,af 0,bf val],af 0]) (by simp[results,Tryz.results122,go_sem,d0,d1,d2,d3,d4]) rfl ⟨rfl,?_,?_⟩
 ·exact hc1.five om
 ·exact hst'.five (Nat.le_refl _)
theorem Gl (b:Nat) (s:ByteArray) (p l f:Nat) (w:World) (c:Nat) (m:Int) (h:Cut w b s p l f) (hp:p<s.size) (hs:s.size≤100000) (hm:w.cell? ⟨0,0,none⟩=some (.int .i64 m)) (hb0:b≠0) (hL:jf (s[p].toNat:Int)=true) (he:yD (s.data.toList.drop p)=.error c):Calls Tryz.prog 122 #[.pointer (some ⟨b,0,none⟩)] w fun e w'=>e=.returned (.tuple #[.agg #[af 0,bW,af 0,af 0,bf 0],af c])∧Step (·=b) w w':=by
 obtain⟨c0,c1,c2,c3,f0,f1,f2,f3⟩:=h.cells;have hlt:b<w.heap.size:=aC h.out;have jw:((s[p].toNat:Int))≤255:=by have:=s[p].toNat_lt;omega
 have hq:=jU (s[p].toNat:Int);rw[hL]at hq;have HQ:=ai hq;have HE:=ai he;clear hq hL he;go_enter Tryz.func122,Tryz.ntmps122;go_wp2;go_quiet (fail);go_wp2_with ((go_at_call 137;refine(HQ.o _ om jw).mono ?_;rintro e w' ⟨rfl,rfl⟩));refine((Ei.bad b s p l f _ c m ((h.alloc _).drewN _) hp hs (fQ (d_ hm)) hb0 trivial HE.o)).mono ?_;rintro e w1 ⟨rfl,hst⟩;have hnb:=hst.keep (oJ (aB w _)) om;obtain⟨⟨d0,d1,d2,d3,d4⟩,e0,e1,e2,e3,e4⟩:=wM hnb;have hst':Step (·=b) w w1:=(((Step.refl _ w).alloc _).drewN _).trans hst;clear hnb hst;go_wp2;refine bodyPost_ret (v:=.tuple #[.agg #[af 0,bW,af 0,af 0,bf 0],af c]) (by simp[results,Tryz.results122,go_sem,d0,d1,d2,d3,d4]) rfl ⟨rfl,?_⟩;exact hst'.five (Nat.le_refl _)
theorem IY (b:Nat) (s:ByteArray) (p l f:Nat) (w:World) (kind n val:Nat) (m:Int) (h:Cut w b s p l f) (hp:p<s.size) (hs:s.size≤100000) (hm:w.cell? ⟨0,0,none⟩=some (.int .i64 m)) (hb0:b≠0) (hL:jf (s[p].toNat:Int)=false) (hc:s[p]=39) (he:yE (s.data.toList.drop p)=.ok (kind,n,val)):Calls Tryz.prog 122 #[.pointer (some ⟨b,0,none⟩)] w fun e w'=>e=.returned (.tuple #[.agg #[af kind,aG (s.extract p (p+n)),af 0,af 0,bf val],af 0])∧Cut w' b s (p+n) l f∧Step (·=b) w w':=by
 obtain⟨c0,c1,c2,c3,f0,f1,f2,f3⟩:=h.cells;have hlt:b<w.heap.size:=aC h.out;have jw:((s[p].toNat:Int))≤255:=by have:=s[p].toNat_lt;omega
 have hq:=jU (s[p].toNat:Int);rw[hL]at hq;have HQ:=ai hq;have HE:=ai he;clear hq hL he;have UX:((s[p].toNat:Int)==39)=true:=by rw[hc];rfl
 have hg:(s.data.toList.drop p).headD 0=39:=by rw[drop_cons s p hp];exact hc
 clear hc;go_enter Tryz.func122,Tryz.ntmps122;go_wp2;go_quiet (fail);go_wp2_with ((go_at_call 137;refine(HQ.o _ om jw).mono ?_;rintro e w' ⟨rfl,rfl⟩));refine((Em.ok b s p l f _ kind n val m ((h.alloc _).drewN _) hp hs (fQ (d_ hm)) hb0 hg HE.o)).mono ?_;rintro e w1 ⟨rfl,hc1,hst⟩;have hnb:=hst.keep (oJ (aB w _)) om;obtain⟨⟨d0,d1,d2,d3,d4⟩,e0,e1,e2,e3,e4⟩:=wM hnb;have hst':Step (·=b) w w1:=(((Step.refl _ w).alloc _).drewN _).trans hst;clear hnb hst;go_wp2;refine bodyPost_ret (v:=.tuple #[.agg #[af kind,aG (s.extract p (p+n)),af 0,af 0,bf val],af 0]) (by simp[results,Tryz.results122,go_sem,d0,d1,d2,d3,d4]) rfl ⟨rfl,?_,?_⟩
 ·exact hc1.five om
 ·exact hst'.five (Nat.le_refl _)
theorem Gm (b:Nat) (s:ByteArray) (p l f:Nat) (w:World) (c:Nat) (m:Int) (h:Cut w b s p l f) (hp:p<s.size) (hs:s.size≤100000) (hm:w.cell? ⟨0,0,none⟩=some (.int .i64 m)) (hb0:b≠0) (hL:jf (s[p].toNat:Int)=false) (hc:s[p]=39) (he:yE (s.data.toList.drop p)=.error c):Calls Tryz.prog 122 #[.pointer (some ⟨b,0,none⟩)] w fun e w'=>e=.returned (.tuple #[.agg #[af 0,bW,af 0,af 0,bf 0],af c])∧Step (·=b) w w':=by
 obtain⟨c0,c1,c2,c3,f0,f1,f2,f3⟩:=h.cells;have hlt:b<w.heap.size:=aC h.out;have jw:((s[p].toNat:Int))≤255:=by have:=s[p].toNat_lt;omega
 have hq:=jU (s[p].toNat:Int);rw[hL]at hq;have HQ:=ai hq;have HE:=ai he;clear hq hL he;have UX:((s[p].toNat:Int)==39)=true:=by rw[hc];rfl
 have hg:(s.data.toList.drop p).headD 0=39:=by rw[drop_cons s p hp];exact hc
 clear hc;go_enter Tryz.func122,Tryz.ntmps122;go_wp2;go_quiet (fail);go_wp2_with ((go_at_call 137;refine(HQ.o _ om jw).mono ?_;rintro e w' ⟨rfl,rfl⟩));refine((Em.bad b s p l f _ c m ((h.alloc _).drewN _) hp hs (fQ (d_ hm)) hb0 hg HE.o)).mono ?_;rintro e w1 ⟨rfl,hst⟩;have hnb:=hst.keep (oJ (aB w _)) om;obtain⟨⟨d0,d1,d2,d3,d4⟩,e0,e1,e2,e3,e4⟩:=wM hnb;have hst':Step (·=b) w w1:=(((Step.refl _ w).alloc _).drewN _).trans hst;clear hnb hst;go_wp2;refine bodyPost_ret (v:=.tuple #[.agg #[af 0,bW,af 0,af 0,bf 0],af c]) (by simp[results,Tryz.results122,go_sem,d0,d1,d2,d3,d4]) rfl ⟨rfl,?_⟩;exact hst'.five (Nat.le_refl _)
theorem Es (b:Nat) (s:ByteArray) (p l f:Nat) (w:World) (kind n val:Nat) (m:Int) (h:Cut w b s p l f) (hp:p<s.size) (hs:s.size≤100000) (hm:w.cell? ⟨0,0,none⟩=some (.int .i64 m)) (hb0:b≠0) (hL:jf (s[p].toNat:Int)=false) (hc:s[p]≠39) (hD:isDigit (s[p].toNat:Int)=true) (he:o_ (s.data.toList.drop p)=.ok (kind,n,val)):Calls Tryz.prog 122 #[.pointer (some ⟨b,0,none⟩)] w fun e w'=>e=.returned (.tuple #[.agg #[af kind,aG (s.extract p (p+n)),af 0,af 0,bf val],af 0])∧Cut w' b s (p+n) l f∧Step (·=b) w w':=by
 obtain⟨c0,c1,c2,c3,f0,f1,f2,f3⟩:=h.cells;have hlt:b<w.heap.size:=aC h.out;have jw:((s[p].toNat:Int))≤255:=by have:=s[p].toNat_lt;omega
 have hq:=jU (s[p].toNat:Int);rw[hL]at hq;have HQ:=ai hq;have HE:=ai he;clear hq hL he;have UX:((s[p].toNat:Int)==39)=false:=by rw[beq_eq_false_iff_ne];exact fun e=>hc (mX 39 e)
 clear hc;have hq2:=kV (s[p].toNat:Int);rw[hD]at hq2;have HQ2:=ai hq2;clear hq2 hD;go_enter Tryz.func122,Tryz.ntmps122;go_wp2;go_quiet (fail);go_wp2_with (first|(go_at_call 137;refine(HQ.o _ om jw).mono ?_;rintro e w' ⟨rfl,rfl⟩)|(go_at_call 140;refine(HQ2.o _ om jw).mono ?_;rintro e w' ⟨rfl,rfl⟩));refine((zX.ok b s p l f _ kind n val m ((h.alloc _).drewN _) hp hs (fQ (d_ hm)) hb0 trivial HE.o)).mono ?_;rintro e w1 ⟨rfl,hc1,hst⟩;have hnb:=hst.keep (oJ (aB w _)) om;obtain⟨⟨d0,d1,d2,d3,d4⟩,e0,e1,e2,e3,e4⟩:=wM hnb;have hst':Step (·=b) w w1:=(((Step.refl _ w).alloc _).drewN _).trans hst;clear hnb hst;go_wp2;refine bodyPost_ret (v:=.tuple #[.agg #[af kind,aG (s.extract p (p+n)),af 0,af 0,bf val],af 0]) (by simp[results,Tryz.results122,go_sem,d0,d1,d2,d3,d4]) rfl ⟨rfl,?_,?_⟩
 ·exact hc1.five om
 ·exact hst'.five (Nat.le_refl _)
theorem Dl (b:Nat) (s:ByteArray) (p l f:Nat) (w:World) (c:Nat) (m:Int) (h:Cut w b s p l f) (hp:p<s.size) (hs:s.size≤100000) (hm:w.cell? ⟨0,0,none⟩=some (.int .i64 m)) (hb0:b≠0) (hL:jf (s[p].toNat:Int)=false) (hc:s[p]≠39) (hD:isDigit (s[p].toNat:Int)=true) (he:o_ (s.data.toList.drop p)=.error c):Calls Tryz.prog 122 #[.pointer (some ⟨b,0,none⟩)] w fun e w'=>e=.returned (.tuple #[.agg #[af 0,bW,af 0,af 0,bf 0],af c])∧Step (·=b) w w':=by
 obtain⟨c0,c1,c2,c3,f0,f1,f2,f3⟩:=h.cells;have hlt:b<w.heap.size:=aC h.out;have jw:((s[p].toNat:Int))≤255:=by have:=s[p].toNat_lt;omega
 have hq:=jU (s[p].toNat:Int);rw[hL]at hq;have HQ:=ai hq;have HE:=ai he;clear hq hL he;have UX:((s[p].toNat:Int)==39)=false:=by rw[beq_eq_false_iff_ne];exact fun e=>hc (mX 39 e)
 clear hc;have hq2:=kV (s[p].toNat:Int);rw[hD]at hq2;have HQ2:=ai hq2;clear hq2 hD;go_enter Tryz.func122,Tryz.ntmps122;go_wp2;go_quiet (fail);go_wp2_with (first|(go_at_call 137;refine(HQ.o _ om jw).mono ?_;rintro e w' ⟨rfl,rfl⟩)|(go_at_call 140;refine(HQ2.o _ om jw).mono ?_;rintro e w' ⟨rfl,rfl⟩));refine((zX.bad b s p l f _ c m ((h.alloc _).drewN _) hp hs (fQ (d_ hm)) hb0 trivial HE.o)).mono ?_;rintro e w1 ⟨rfl,hst⟩;have hnb:=hst.keep (oJ (aB w _)) om;obtain⟨⟨d0,d1,d2,d3,d4⟩,e0,e1,e2,e3,e4⟩:=wM hnb;have hst':Step (·=b) w w1:=(((Step.refl _ w).alloc _).drewN _).trans hst;clear hnb hst;go_wp2;refine bodyPost_ret (v:=.tuple #[.agg #[af 0,bW,af 0,af 0,bf 0],af c]) (by simp[results,Tryz.results122,go_sem,d0,d1,d2,d3,d4]) rfl ⟨rfl,?_⟩;exact hst'.five (Nat.le_refl _)
theorem IZ (b:Nat) (s:ByteArray) (p l f:Nat) (w:World) (kind n val:Nat) (m:Int) (h:Cut w b s p l f) (hp:p<s.size) (hs:s.size≤100000) (hm:w.cell? ⟨0,0,none⟩=some (.int .i64 m)) (hb0:b≠0) (hL:jf (s[p].toNat:Int)=false) (hc:s[p]≠39) (hD:isDigit (s[p].toNat:Int)=false) (he:lg (s.data.toList.drop p)=.ok (kind,n,val)):Calls Tryz.prog 122 #[.pointer (some ⟨b,0,none⟩)] w fun e w'=>e=.returned (.tuple #[.agg #[af kind,aG (s.extract p (p+n)),af 0,af 0,bf val],af 0])∧Cut w' b s (p+n) l f∧Step (·=b) w w':=by
 obtain⟨c0,c1,c2,c3,f0,f1,f2,f3⟩:=h.cells;have hlt:b<w.heap.size:=aC h.out;have jw:((s[p].toNat:Int))≤255:=by have:=s[p].toNat_lt;omega
 have hq:=jU (s[p].toNat:Int);rw[hL]at hq;have HQ:=ai hq;have HE:=ai he;clear hq hL he;have UX:((s[p].toNat:Int)==39)=false:=by rw[beq_eq_false_iff_ne];exact fun e=>hc (mX 39 e)
 clear hc;have hq2:=kV (s[p].toNat:Int);rw[hD]at hq2;have HQ2:=ai hq2;clear hq2 hD;go_enter Tryz.func122,Tryz.ntmps122;go_wp2;go_quiet (fail);go_wp2_with (first|(go_at_call 137;refine(HQ.o _ om jw).mono ?_;rintro e w' ⟨rfl,rfl⟩)|(go_at_call 140;refine(HQ2.o _ om jw).mono ?_;rintro e w' ⟨rfl,rfl⟩));refine((Ep.ok b s p l f _ kind n val m ((h.alloc _).drewN _) hp hs (fQ (d_ hm)) hb0 trivial HE.o)).mono ?_;rintro e w1 ⟨rfl,hc1,hst⟩;have hnb:=hst.keep (oJ (aB w _)) om;obtain⟨⟨d0,d1,d2,d3,d4⟩,e0,e1,e2,e3,e4⟩:=wM hnb;have hst':Step (·=b) w w1:=(((Step.refl _ w).alloc _).drewN _).trans hst;clear hnb hst;go_wp2;refine bodyPost_ret (v:=.tuple #[.agg #[af kind,aG (s.extract p (p+n)),af 0,af 0,bf val],af 0]) (by simp[results,Tryz.results122,go_sem,d0,d1,d2,d3,d4]) rfl ⟨rfl,?_,?_⟩
 ·exact hc1.five om
 ·exact hst'.five (Nat.le_refl _)
theorem Gp (b:Nat) (s:ByteArray) (p l f:Nat) (w:World) (c:Nat) (m:Int) (h:Cut w b s p l f) (hp:p<s.size) (hs:s.size≤100000) (hm:w.cell? ⟨0,0,none⟩=some (.int .i64 m)) (hb0:b≠0) (hL:jf (s[p].toNat:Int)=false) (hc:s[p]≠39) (hD:isDigit (s[p].toNat:Int)=false) (he:lg (s.data.toList.drop p)=.error c):Calls Tryz.prog 122 #[.pointer (some ⟨b,0,none⟩)] w fun e w'=>e=.returned (.tuple #[.agg #[af 0,bW,af 0,af 0,bf 0],af c])∧Step (·=b) w w':=by
 obtain⟨c0,c1,c2,c3,f0,f1,f2,f3⟩:=h.cells;have hlt:b<w.heap.size:=aC h.out;have jw:((s[p].toNat:Int))≤255:=by have:=s[p].toNat_lt;omega
 have hq:=jU (s[p].toNat:Int);rw[hL]at hq;have HQ:=ai hq;have HE:=ai he;clear hq hL he;have UX:((s[p].toNat:Int)==39)=false:=by rw[beq_eq_false_iff_ne];exact fun e=>hc (mX 39 e)
 clear hc;have hq2:=kV (s[p].toNat:Int);rw[hD]at hq2;have HQ2:=ai hq2;clear hq2 hD;go_enter Tryz.func122,Tryz.ntmps122;go_wp2;go_quiet (fail);go_wp2_with (first|(go_at_call 137;refine(HQ.o _ om jw).mono ?_;rintro e w' ⟨rfl,rfl⟩)|(go_at_call 140;refine(HQ2.o _ om jw).mono ?_;rintro e w' ⟨rfl,rfl⟩));refine((Ep.bad b s p l f _ c m ((h.alloc _).drewN _) hp hs (fQ (d_ hm)) hb0 trivial HE.o)).mono ?_;rintro e w1 ⟨rfl,hst⟩;have hnb:=hst.keep (oJ (aB w _)) om;obtain⟨⟨d0,d1,d2,d3,d4⟩,e0,e1,e2,e3,e4⟩:=wM hnb;have hst':Step (·=b) w w1:=(((Step.refl _ w).alloc _).drewN _).trans hst;clear hnb hst;go_wp2;refine bodyPost_ret (v:=.tuple #[.agg #[af 0,bW,af 0,af 0,bf 0],af c]) (by simp[results,Tryz.results122,go_sem,d0,d1,d2,d3,d4]) rfl ⟨rfl,?_⟩;exact hst'.five (Nat.le_refl _)
theorem Et:Gives 122 jL (fun _=>True) where
 ok b s p l f w kind n val m h hp hs hm hb0 _ he:=by
  have hd:=drop_cons s p hp
  cases hL:jf (s[p].toNat:Int)
  ·
   by_cases hc:s[p]=39
   ·
    exact IY b s p l f w kind n val m h hp hs hm hb0 hL hc (by rw[hd]at he⊢;rw[jL,hL,if_neg (by simp),if_pos hc]at he;exact he)
   ·
    cases hD:isDigit (s[p].toNat:Int)
    ·
     exact IZ b s p l f w kind n val m h hp hs hm hb0 hL hc hD (by rw[hd]at he⊢;simpa only[jL,hL,hc,hD,if_true,if_false,Bool.false_eq_true]using he)
    ·
     exact Es b s p l f w kind n val m h hp hs hm hb0 hL hc hD (by rw[hd]at he⊢;simpa only[jL,hL,hc,hD,if_true,if_false,Bool.false_eq_true]using he)
  ·
   exact IX b s p l f w kind n val m h hp hs hm hb0 hL (by rw[hd]at he⊢;simpa only[jL,hL,if_true]using he)
 bad b s p l f w c m h hp hs hm hb0 _ he:=by
  have hd:=drop_cons s p hp
  cases hL:jf (s[p].toNat:Int)
  ·
   by_cases hc:s[p]=39
   ·
    exact Gm b s p l f w c m h hp hs hm hb0 hL hc (by rw[hd]at he⊢;rw[jL,hL,if_neg (by simp),if_pos hc]at he;exact he)
   ·
    cases hD:isDigit (s[p].toNat:Int)
    ·
     exact Gp b s p l f w c m h hp hs hm hb0 hL hc hD (by rw[hd]at he⊢;simpa only[jL,hL,hc,hD,if_true,if_false,Bool.false_eq_true]using he)
    ·
     exact Dl b s p l f w c m h hp hs hm hb0 hL hc hD (by rw[hd]at he⊢;simpa only[jL,hL,hc,hD,if_true,if_false,Bool.false_eq_true]using he)
  ·
   exact Gl b s p l f w c m h hp hs hm hb0 hL (by rw[hd]at he⊢;simpa only[jL,hL,if_true]using he)
structure Tok where
 kind:Nat
 text:List UInt8
 line:Nat
 col:Nat
 val:Nat
def Tok.cells (t:Tok):List Value:=[.int .i64 t.kind,.string ⟨t.text.toArray⟩,.int .i64 t.line,.int .i64 t.col,.int .u64 t.val]
def xw (l:List Tok):List Value:=l.flatMap Tok.cells
theorem Eu (l:List Tok) (t:Tok):xw (l++[t])=xw l++t.cells:=by simp[xw]
def uG:Nat→List UInt8→Nat→Nat→Nat→List Tok→Except (Nat×Nat×Nat) (List Tok)
 |0,_,_,_,_,_=>.error (0,0,0)
 |k+1,r,p,l,f,acc=>
  let q:=gG false r p l f
  let r':=r.drop (q.1-p)
  let col:=q.1-q.2.2+1
  if r'=[]then .ok (acc++[⟨0,[],q.2.1,col,0⟩])
  else if acc.length=8000 then .error (2,q.2.1,col)
  else match jL r' with
   | .error c=>.error (c,q.2.1,col)
   | .ok (kind,n,val)=>uG k (r'.drop n) (q.1+n) q.2.1 q.2.2 (acc++[⟨kind,r'.take n,q.2.1,col,val⟩])
def ng (s:List UInt8):Except (Nat×Nat×Nat) (List Tok):=
 if 20000<s.length then .error (2,0,0)else uG (s.length+1) s 0 1 0 []
theorem Ew:∀(r:List UInt8) (b:Bool) (p l f p' l' f':Nat),(p',l',f')=gG b r p l f→f≤p→p≤p'∧p'≤p+r.length∧f'≤p'∧l≤l'∧l'-l≤p'-p:=by
 intro r;induction r with
 |nil=>intro b p l f p' l' f' h hf;simp[gG]at h;obtain⟨rfl,rfl,rfl⟩:=h;simp;omega
 |cons c r ih=>
  intro b p l f p' l' f' h hf;have hl:(c::r).length=r.length+1:=rfl;cases b
  ·rw[gG]at h;split at h
   ·have:=ih _ _ _ _ _ _ _ h (Nat.le_refl _);omega
   ·split at h
    ·have:=ih _ _ _ _ _ _ _ h om;omega
    ·split at h
     ·have:=ih _ _ _ _ _ _ _ h om;omega
     ·simp at h;obtain⟨rfl,rfl,rfl⟩:=h;omega
  ·rw[gG]at h;split at h
   ·have:=ih _ _ _ _ _ _ _ h (Nat.le_refl _);omega
   ·have:=ih _ _ _ _ _ _ _ h om;omega
theorem Ey {c:UInt8} {r:List UInt8} (h:lH c.toNat=true):1≤jg (c::r):=by rw[xq h];omega
theorem UY {c0:UInt8}:∀(l:List UInt8) (i v e:Nat),uh c0 l i v=.error e→e≠0:=by
 intro l;induction l with
 |nil=>intro i v e h;simp[uh]at h
 |cons c r ih=>
  intro i v e h;rw[uh]at h;split at h
  ·simp at h;omega
  ·split at h
   ·simp at h;omega
   ·exact ih _ _ _ h
theorem rJ {r:List UInt8} {kind n val:Nat} (h:jL r=.ok (kind,n,val)):1≤n∧n≤r.length∧kind≠0:=by
 cases r with
 |nil=>simp[jL]at h
 |cons c r=>
  have hle:=mY (c::r);have hle':=mY r;rw[jL]at h;split at h
  ·rename_i hL;have:=Ey (r:=r) (show lH c.toNat=true by simp[lH,hL]);unfold yD at h;split at h
   ·simp at h
   ·simp at h;omega
  ·split at h
   ·rw[yE]at h;split at h
    ·simp at h
    ·split at h
     ·simp at h
     ·simp at h;simp;omega
   ·split at h
    ·rename_i hD;have:=Ey (r:=r) (show lH c.toNat=true by simp[lH,hD]);(have hl:((c::r).take (jg (c::r))).length=jg (c::r):=by rw[List.length_take];omega);unfold o_ Gj at h;rw[hl]at h;split at h
     ·split at h
      ·simp at h;omega
      ·simp at h
     ·split at h
      ·simp at h;omega
      ·simp at h
    ·cases r with
     |nil=>rw[lg]at h;split at h<;>simp at h;simp;omega
     |cons d r=>
      rw[lg]at h;split at h
      ·simp at h;simp;omega
      ·split at h
       ·simp at h;simp;omega
       ·simp at h
theorem G_ {r:List UInt8} {e:Nat} (h:jL r=.error e):e≠0:=by
 cases r with
 |nil=>simp[jL]at h;omega
 |cons c r=>
  rw[jL]at h;split at h
  ·unfold yD at h;split at h
   ·simp at h;omega
   ·simp at h
  ·split at h
   ·rw[yE]at h;split at h
    ·simp at h;omega
    ·split at h
     ·simp at h;omega
     ·simp at h
   ·split at h
    ·unfold o_ Gj at h;split at h
     ·split at h
      ·simp at h
      ·simp at h;omega
     ·split at h
      ·simp at h
      ·rename_i hI;simp at h;subst h;exact UY _ _ _ _ hI
    ·cases r with
     |nil=>rw[lg]at h;split at h<;>simp at h;omega
     |cons d r=>
      rw[lg]at h;split at h
      ·simp at h
      ·split at h
       ·simp at h
       ·simp at h;omega
theorem Tryz.YO:(Tryz.prog.info? 111).map (fun i=>(i.zero,i.size,i.bytes))=some (some (.agg #[af 0,bW,af 0,af 0,bf 0]),5,48):=by kernel_rfl
def I4 (B:Nat) (w:World) (r:Except (Nat×Nat×Nat) (List Tok)) (e:Ending) (w':World):Prop:=
 (match r with
  | .ok l=>∃v,e=.returned (.tuple #[v,.agg #[af 0,af 0,af 0]])∧w'.ownsRow B 111 5 v l.length (xw l)
  | .error (c,ln,col)=>e=.returned (.tuple #[aj,.agg #[af c,af ln,af col]]))∧jP w w'
theorem NT {w:World} {base:Nat} {e:TypeId} {size:Nat} {v:Value} {n r:Nat} {xs:List Value} {v0 v1 v2:Value} (h:w.ownsRow base e size v n xs) (hr:r<base):(((w.setCell ⟨r,0,none⟩ v0).setCell ⟨r,1,none⟩ v1).setCell ⟨r,2,none⟩ v2).ownsRow base e size v n xs:=
 ownsRow_setCell_below (ownsRow_setCell_below (ownsRow_setCell_below h hr _) hr _) hr _
theorem Step.three {S:Nat→Prop} {a w:World} {r:Nat} {v0 v1 v2:Value} (h:Step S a w) (hr:a.heap.size≤r):Step S a (((w.setCell ⟨r,0,none⟩ v0).setCell ⟨r,1,none⟩ v1).setCell ⟨r,2,none⟩ v2):=by have hq:∀i,(⟨r,i,none⟩:Addr).block<a.heap.size→S r:=fun i h=>absurd h (Nat.not_lt.2 hr);exact((h.setCell _ _ (hq 0)).setCell _ _ (hq 1)).setCell _ _ (hq 2)
theorem RI (s:ByteArray) (p n:Nat):s.extract p (p+n)=⟨((s.data.toList.drop p).take n).toArray⟩:=DI (by rw[kJ])
theorem YP (s:ByteArray) (w:World) (m:Int) (hm:w.cell? ⟨0,0,none⟩=some (.int .i64 m)) (hs:s.size≤20000):Calls Tryz.prog 86 #[.string s] w (I4 w.heap.size w (ng s.data.toList)):=by
 have hw0:0<w.heap.size:=World.block_lt_of_cell? w _ hm;have HR:Hid (uG (s.data.toList.length+1) s.data.toList 0 1 0 []=ng s.data.toList):=by show _=_;rw[ng,if_neg (by rw[←Lib.size_eq];omega)]
 generalize hRes:ng s.data.toList=dB at*;clear hRes;obtain⟨i0,hi0,hz00,hz10,hz20⟩:=info_parts Tryz.YO;have hi:=ai hi0;have hz0:=ai hz00;have hz1:=ai hz10;have hz2:=ai hz20;clear hi0 hz00 hz10 hz20;have hsl:Hid (s.data.toList.length=s.size):=(Lib.size_eq s).symm;go_enter Tryz.func86,Tryz.ntmps86;go_wp2_with fail;rw[hsl.out]at HR
 go_loopg [5] (s.size+1) (fun g v wr=>∃(p l f:Nat) (toks:List Tok),f≤p∧p≤s.size∧l≤p+1∧toks.length≤8000∧s.size-p<g∧uG g (s.data.toList.drop p) p l f toks=dB∧
  Cut wr (w.heap.size+1) s p l f∧wr.heap[w.heap.size]?=some (.cells #[af 0,af 0,af 0] 27 (0,0))∧wr.ownsRow (w.heap.size+2) 111 5 v toks.length (xw toks)∧
  jP w wr∧w.heap.size+2≤wr.heap.size)
 case atStart=>
  refine⟨0,1,0,[],Nat.le_refl _,Nat.zero_le _,by omega,by simp,by omega,HR.o,⟨?_⟩,?_,World.ownsRow_nil _ _ _ _,((Step.refl _ w).alloc _).alloc _,by simp⟩
  ·have:=aB (w.alloc (.cells #[af 0,af 0,af 0] 27)) (.cells #[aG s,af 0,af 1,af 0] 180);simpa using this
  ·exact aN (aB w _)
 case round=>
  obtain⟨p,l,f,toks,hf,hp,hl,htk,hg,heq,hc,hE,hown,hst,hsz⟩:=hrel;obtain⟨k,rfl⟩:∃k,gk=k+1:=⟨gk-1,by omega⟩;obtain⟨oa,oc,rfl⟩:=b_ hown;have HE:=ai heq;have HOW:=ai hown;clear heq hown;go_wp2_with fail;refine(Rz (w.heap.size+1) s p l f wr hc hf hp om hl).mono ?_;rintro e w1 ⟨rfl,p',l',f',hbl,hc1,hst1⟩;have hinv:=Ew _ _ _ _ _ _ _ _ hbl hf;rw[List.length_drop,hsl.out]at hinv;obtain⟨i1,i2,i3,i4,i5⟩:=hinv;have hp':p'≤s.size:=by omega
  have hl':l'≤p'+1:=by omega
  have HB:=ai hbl;clear hbl;go_wp2_with fail;refine(YI (w.heap.size+1) s p' l' f' w1 hc1 i3 om).mono ?_;rintro e w2 ⟨rfl,hst2⟩;have hc2:=hc1.step hst2 (fun h=>h);obtain⟨c0,c1,c2,c3,f0,f1,f2,f3⟩:=hc2.cells;have hlt:w.heap.size+1<w2.heap.size:=aC hc2.out;have hltE:w.heap.size<w2.heap.size:=by omega
  have hst12:Step (·=w.heap.size+1) wr w2:=hst1.then hst2 fe;have xA:jP w w2:=⟨hst12.os.trans hst.os,hst12.tape.trans hst.tape,hst12.output.trans hst.output,Nat.le_trans hst.size hst12.size,fun i hi hn=>(hst12.block i om om).trans (hst.block i hi hn)⟩;have HOW2:Hid (w2.ownsRow (w.heap.size+2) 111 5 (.slice oa toks.length oc) toks.length (xw toks)):=hst12.owns HOW.o (fun k hk=>by omega);obtain⟨⟨g0,g1,g2⟩,k0,k1,k2⟩:=wL (hst12.keep hE om);have YQ:Hid (((p':Int)-f'+1)=((p'-f'+1:Nat):Int)):=show _=_ by omega
  have HA:Hid (uG (k+1) (s.data.toList.drop p) p l f toks=
    if s.data.toList.drop p'=[]then .ok (toks++[⟨0,[],l',p'-f'+1,0⟩])
    else if toks.length=8000 then .error (2,l',p'-f'+1)
    else match jL (s.data.toList.drop p')with
     | .error c=>.error (c,l',p'-f'+1)
     | .ok (kind,n,val)=>uG k ((s.data.toList.drop p').drop n) (p'+n) l' f' (toks++[⟨kind,(s.data.toList.drop p').take n,l',p'-f'+1,val⟩])):=by
   show _=_
   rw[uG]
   simp only[←HB.o,List.drop_drop]
   rw[show p+(p'-p)=p' by omega]
  by_cases hend:p'=s.size
  ·(have hr0:Hid (dB=.ok (toks++[⟨0,[],l',p'-f'+1,0⟩])):=by show _=_;rw[←HE.o,HA.o,if_pos (List.drop_of_length_le (by rw[hsl.out];omega))]);(have hb1:((p':Int)==s.size)=true:=by rw[beq_iff_eq];omega);clear hend;go_wp2_with (at_builtin;refine wpList_append_own _ rfl _ _ 145 rfl (w.heap.size+2) 111 i0 (.agg #[af 0,bW,af 0,af 0,bf 0]) 5 48 Tryz.underlying145 hi.out hz0.out hz1.out hz2.out rfl dc _ _ _ rfl ((HOW2.o.alloc _).alloc _) ⟨w2.heap.size+1,0,none⟩ 1 1 [.int .i64 0,.string ⟨#[]⟩,.int .i64 l',.int .i64 ((p':Int)-f'+1),.int .u64 0] rfl rfl ?c1 ?c2 ?c3 ?c4 ?c5 ?_);case c1=>exact vG (cs:=[_,_,_,_,_]) (fO _ _ _)
   (case c2=>intro u hu;simp at hu;rcases hu with rfl|rfl|rfl|rfl|rfl<;>rfl);case c3=>unfold maxLen;omega
   (case c4=>omega);case c5=>simp;omega
   intro v' w3 hown3 hgrow _;have hrow:=x9 HOW2.o;obtain⟨⟨g0',g1',g2'⟩,k0',k1',k2'⟩:=wL (D7 hgrow (aN (aN (hst12.keep hE om))) (fun k hk=>by have:=hrow k hk;omega));have hst3:jP w w3:=((xA.alloc _).alloc _).grown hgrow (fun k hk hlt=>by have:=hrow k hk;omega);have H3:=ai hown3;clear hown3 hgrow hrow;go_wp2;refine bodyPost_ret (v:=.tuple #[v',.agg #[af 0,af 0,af 0]]) (by simp[results,Tryz.results86,go_sem,g0',g1',g2']) rfl ?_;rw[hr0.out];refine⟨⟨v',rfl,?_⟩,?_⟩
   ·have:=NT (r:=w.heap.size) (v0:=.int .i64 0) (v1:=.int .i64 0) (v2:=.int .i64 0) H3.o om;rw[Eu,List.length_append];rw[YQ.o]at this;exact Rt this om
   ·exact hst3.three (Nat.le_refl _)
  ·(have hb1:((p':Int)==s.size)=false:=by rw[beq_eq_false_iff_ne];omega);(have hp1:p'<s.size:=by omega);(have hne:Hid (s.data.toList.drop p'≠[]):=fun e=>by have:=congrArg List.length e;rw[List.length_drop,hsl.out]at this;simp at this;omega);by_cases h8:toks.length=8000
   ·(have hr0:Hid (dB=.error (2,l',p'-f'+1)):=by show _=_;rw[←HE.o,HA.o,if_neg hne.out,if_pos h8]);(have hb2:((toks.length:Int)==8000)=true:=by rw[h8];rfl);clear h8;obtain⟨⟨q0,q1⟩,r0,r1⟩:=Ru (a0:=.int .i64 l') (a1:=.int .i64 ((p':Int)-f'+1)) (aB w2 (.cells #[af l',af ((p':Int)-f'+1)] 25));go_wp2;go_region;go_wp2;refine bodyPost_ret (v:=.tuple #[aj,.agg #[af 2,af l',af ((p':Int)-f'+1)]]) (by simp[results,Tryz.results86,go_sem,g0,g1,g2,hltE]) rfl ?_;rw[hr0.out];refine⟨by rw[YQ.o];rfl,?_⟩;exact((xA.three (Nat.le_refl _)).alloc _).drew
   ·(have hb2:((toks.length:Int)==8000)=false:=by rw[beq_eq_false_iff_ne];omega);have hm2:w2.cell? ⟨0,0,none⟩=some (.int .i64 m):=xA.cell hm (fun h=>h);have hE2:=hst12.keep hE om;have hE2':Hid (w2.heap[w.heap.size]?=_):=hE2;clear hE2;cases hn:jL (s.data.toList.drop p')with
    |error c=>(have hr0:Hid (dB=.error (c,l',p'-f'+1)):=by show _=_;rw[←HE.o,HA.o,if_neg hne.out,if_neg h8,hn]);(have hc0:((c:Int) !=0)=true:=by rw[bne_iff_ne];have:=G_ hn;omega);have HN:=ai hn;clear hn h8;go_wp2_with fail;refine(Et.bad _ s p' l' f' _ c m (hc2.alloc _) hp1 om (d_ hm2) om trivial HN.o).mono ?_;rintro e w3 ⟨rfl,hst3⟩;obtain⟨⟨q0,q1⟩,r0,r1⟩:=Ru (hst3.keep (aB w2 _) om);obtain⟨⟨g0',g1',g2'⟩,k0',k1',k2'⟩:=wL (hst3.keep (aN hE2'.out) om);have hz3:=hst3.size;simp at hz3;(have hlt3:w2.heap.size<w3.heap.size:=by omega);(have hltE3:w.heap.size<w3.heap.size:=by omega);go_wp2;go_region;go_wp2;refine bodyPost_ret (v:=.tuple #[aj,.agg #[af c,af l',af ((p':Int)-f'+1)]]) (by simp[results,Tryz.results86,go_sem,g0',g1',g2',hltE3]) rfl ?_;rw[hr0.out];refine⟨by rw[YQ.o],?_⟩;have hw3:jP w w3:=⟨hst3.os.trans xA.os,hst3.tape.trans xA.tape,hst3.output.trans xA.output,by have:=xA.size;omega,fun i hi hn=>(hst3.block i (by simp;have:=xA.size;omega) om).trans ((Below.heap_alloc w2 _ i (by have:=xA.size;omega)).trans (xA.block i hi hn))⟩;exact((hw3.three (Nat.le_refl _)).alloc _).drew
    |ok x=>
     obtain⟨kind,n,val⟩:=x;(have hr0:Hid (uG k ((s.data.toList.drop p').drop n) (p'+n) l' f' (toks++[⟨kind,(s.data.toList.drop p').take n,l',p'-f'+1,val⟩])=dB):=by show _=_;rw[←HE.o,HA.o,if_neg hne.out,if_neg h8,hn]);obtain⟨hn1,hn2,_⟩:=rJ hn;rw[List.length_drop,hsl.out]at hn2;have HN:=ai hn;clear hn;go_wp2_with fail;refine(Et.ok _ s p' l' f' _ kind n val m (hc2.alloc _) hp1 om (d_ hm2) om trivial HN.o).mono ?_;rintro e w3 ⟨rfl,hc3,hst3⟩;obtain⟨⟨q0,q1⟩,r0,r1⟩:=Ru (hst3.keep (aB w2 _) om);have qw:Hid (w3.heap[w.heap.size]?=some (.cells #[af 0,af 0,af 0] 27 (0,0))):=hst3.keep (aN hE2'.out) om;have hz3:=hst3.size;simp at hz3;(have hlt3:w2.heap.size<w3.heap.size:=by omega);(have hltE3:w.heap.size<w3.heap.size:=by omega);have HOW3:Hid (w3.ownsRow (w.heap.size+2) 111 5 (.slice oa toks.length oc) toks.length (xw toks)):=hst3.owns (HOW2.o.alloc _) (fun k hk=>by omega);have hw3:jP w w3:=⟨hst3.os.trans xA.os,hst3.tape.trans xA.tape,hst3.output.trans xA.output,by have:=xA.size;omega,fun i hi hn=>(hst3.block i (by simp;have:=xA.size;omega) om).trans ((Below.heap_alloc w2 _ i (by have:=xA.size;omega)).trans (xA.block i hi hn))⟩;clear c0 c1 c2 c3 f0 f1 f2 f3 g0 g1 g2 k0 k1 k2;go_wp2_with (at_builtin;refine wpList_append_own _ rfl _ _ 145 rfl (w.heap.size+2) 111 i0 (.agg #[af 0,bW,af 0,af 0,bf 0]) 5 48 Tryz.underlying145 hi.out hz0.out hz1.out hz2.out rfl dc _ _ _ rfl ((HOW3.o.alloc _).alloc _) ⟨w3.heap.size+1,0,none⟩ 1 1 [.int .i64 kind,.string (s.extract p' (p'+n)),.int .i64 l',.int .i64 ((p':Int)-f'+1),.int .u64 val] rfl rfl ?c1 ?c2 ?c3 ?c4 ?c5 ?_);case c1=>exact vG (cs:=[_,_,_,_,_]) (fO _ _ _)
     (case c2=>intro u hu;simp at hu;rcases hu with rfl|rfl|rfl|rfl|rfl<;>rfl);case c3=>unfold maxLen;omega
     (case c4=>omega);case c5=>simp;omega
     intro v' w4 hown4 hgrow _;have hrow:=x9 HOW3.o;have H4:=ai hown4;have HG:=ai hgrow;have HRW:=ai hrow;clear hown4 hgrow hrow;go_wp2;go_roundg k;case rel=>
      have hn3:∀(o1 o2:Obj) (b:Nat) (o:Obj),b<w.heap.size+2→w3.heap[b]?=some o→w4.heap[b]?=some o:=fun o1 o2 b o hb h=>
       D7 HG.o (aN (aN h)) (fun k hk=>by have:=HRW.o k hk;omega)
      refine⟨p'+n,l',f',toks++[⟨kind,(s.data.toList.drop p').take n,l',p'-f'+1,val⟩],by omega,by omega,by omega,by simp;omega,by omega,?_,⟨hn3 default default _ _ om hc3.out⟩,hn3 default default _ _ om qw.o,?_,?_,?_⟩
      ·rw[←hr0.out,List.drop_drop]
      ·have:=H4.o;rw[Eu,List.length_append];rw[YQ.o,RI]at this;exact this
      ·exact((hw3.alloc _).alloc _).grown HG.o (fun k hk hlt=>by have:=HRW.o k hk;omega)
      ·have:=HG.o.size;simp at this;omega
     case measure=>omega
theorem UZ (s:ByteArray) (w:World) (hs:20000<s.size):Calls Tryz.prog 86 #[.string s] w (I4 w.heap.size w (ng s.data.toList)):=by
 have HR:Hid (ng s.data.toList=.error (2,0,0)):=by show _=_;rw[ng,if_pos (by rw[←Lib.size_eq];omega)]
 generalize ng s.data.toList=dB at*;go_enter Tryz.func86,Tryz.ntmps86;go_wp2;refine bodyPost_ret (v:=.tuple #[aj,.agg #[af 2,af 0,af 0]]) (by simp[results,Tryz.results86,go_sem]) rfl ?_;rw[HR.o];refine⟨rfl,?_⟩;exact(Step.refl _ w).alloc _
end Go.Proofs.YtggjfinekcenpaaGreat
