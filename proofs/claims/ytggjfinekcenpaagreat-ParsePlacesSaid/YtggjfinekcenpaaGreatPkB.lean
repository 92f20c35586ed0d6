import Derived.Test.YtggjfinekcenpaaGreatPkA
import Derived.Test.YtggjfinekcenpaaGreatShelf
import Derived.Deep.QuietTactic
import Derived.BigQuiet
import Derived.BigRegion
import Derived.Deep.LoopGhost
import Derived.Lib.Hide
import Derived.Deep.DeepFit
import Derived.Lib.IndexMore
set_option maxRecDepth 100000
set_option maxHeartbeats 80000000
namespace Go.Proofs.YtggjfinekcenpaaGreat
open Go.RowKit
open Vt
def kz (a:Int):Bool:=decide (97≤a)&&decide (a≤122)
def isDigit (a:Int):Bool:=decide (48≤a)&&decide (a≤57)
def dW (a:Int):Bool:=kz a||(decide (65≤a)&&decide (a≤90))||decide (a=95)
def jJ (a:Int):Bool:=dW a||isDigit a
theorem wK (a:Int) (w:World) (h0:0≤a) (h1:a≤255):Calls Tryz.prog 152 #[.int .u8 a] w fun e w'=>e=.returned (.bool (kz a))∧w=w':=by go_enter Tryz.func152,Tryz.ntmps152;go_wp2;all_goals (go_ret;exact⟨by simp[kz];omega,rfl⟩)
theorem kD (a:Int) (w:World) (h0:0≤a) (h1:a≤255):Calls Tryz.prog 140 #[.int .u8 a] w fun e w'=>e=.returned (.bool (isDigit a))∧w=w':=by go_enter Tryz.func140,Tryz.ntmps140;go_wp2;all_goals (go_ret;exact⟨by simp[isDigit];omega,rfl⟩)
theorem jE (a:Int) (w:World) (h0:0≤a) (h1:a≤255):Calls Tryz.prog 137 #[.int .u8 a] w fun e w'=>e=.returned (.bool (dW a))∧w=w':=by
 go_enter Tryz.func137,Tryz.ntmps137;cases hs:kz a;all_goals
  have hq:=wK a
  rw[hs]at hq
  go_wp2_with (go_at_call 152;refine(hq _ h0 h1).mono ?_;rintro e w' ⟨rfl,rfl⟩)
  all_goals (go_ret;exact⟨nV (by rw[Bool.eq_iff_iff];simp[dW,hs];try omega),rfl⟩)
theorem Nl (a:Int) (w:World) (h0:0≤a) (h1:a≤255):Calls Tryz.prog 154 #[.int .u8 a] w fun e w'=>e=.returned (.bool (jJ a))∧w=w':=by
 go_enter Tryz.func154,Tryz.ntmps154;cases hs:dW a;all_goals
  have hq:=jE a
  rw[hs]at hq
  go_wp2_with (first|(go_at_call 137;refine(hq _ h0 h1).mono ?_;rintro e w' ⟨rfl,rfl⟩)|(go_at_call 140;refine(kD _ _ h0 h1).mono ?_;rintro e w' ⟨rfl,rfl⟩))
  all_goals (go_ret;exact⟨by simp[jJ,hs],rfl⟩)
theorem Np (a:Int) (w:World) (h0:0≤a) (h1:a≤255):Calls Tryz.prog 155 #[.int .u8 a] w fun e w'=>e=.returned (.bool (jJ a))∧w=w':=by
 go_enter Tryz.func155,Tryz.ntmps155;cases hs:dW a;all_goals
  have hq:=jE a
  rw[hs]at hq
  go_wp2_with (first|(go_at_call 137;refine(hq _ h0 h1).mono ?_;rintro e w' ⟨rfl,rfl⟩)|(go_at_call 140;refine(kD _ _ h0 h1).mono ?_;rintro e w' ⟨rfl,rfl⟩))
  all_goals (go_ret;exact⟨by simp[jJ,hs],rfl⟩)
theorem Ig (a:Int) (w:World) (h0:0≤a) (h1:a≤255):Calls Tryz.prog 156 #[.int .u8 a] w fun e w'=>e=.returned (.bool (jJ a))∧w=w':=by
 go_enter Tryz.func156,Tryz.ntmps156;cases hs:dW a;all_goals
  have hq:=jE a
  rw[hs]at hq
  go_wp2_with (first|(go_at_call 137;refine(hq _ h0 h1).mono ?_;rintro e w' ⟨rfl,rfl⟩)|(go_at_call 140;refine(kD _ _ h0 h1).mono ?_;rintro e w' ⟨rfl,rfl⟩))
  all_goals (go_ret;exact⟨by simp[jJ,hs],rfl⟩)
structure Cut (w:World) (b:Nat) (s:ByteArray) (at' line from':Nat):Prop where
 out:w.heap[b]?=some (.cells #[aI s,ah at',ah line,ah from'] 180 (0,0))
theorem Cut.cells {w:World} {b:Nat} {s:ByteArray} {p l f:Nat} (h:Cut w b s p l f):w.cell? ⟨b,0,none⟩=some (.string s)∧w.cell? ⟨b,1,none⟩=some (.int .i64 p)∧w.cell? ⟨b,2,none⟩=some (.int .i64 l)∧w.cell? ⟨b,3,none⟩=some (.int .i64 f)∧w.frozen? ⟨b,0,none⟩=false∧w.frozen? ⟨b,1,none⟩=false∧w.frozen? ⟨b,2,none⟩=false∧w.frozen? ⟨b,3,none⟩=false:=
 ⟨aj h.out 0 _ rfl,aj h.out 1 _ rfl,aj h.out 2 _ rfl,aj h.out 3 _ rfl,aG h.out 0,aG h.out 1,aG h.out 2,aG h.out 3⟩
theorem Cut.drewN {w:World} {b:Nat} {s:ByteArray} {p l f:Nat} (h:Cut w b s p l f) (n:Nat):Cut (w.drewN n) b s p l f:=⟨h.out⟩
theorem Cut.alloc {w:World} {b:Nat} {s:ByteArray} {p l f:Nat} (h:Cut w b s p l f) (o:Obj):Cut (w.alloc o) b s p l f:=⟨aT h.out⟩
theorem Cut.set1 {w:World} {b:Nat} {s:ByteArray} {p l f q:Nat} {z:Int} (e:z=q) (h:Cut w b s p l f):Cut (w.setCell ⟨b,1,none⟩ (.int .i64 z)) b s q l f:=by subst e;exact⟨aQ h.out 1 _⟩
theorem Cut.set2 {w:World} {b:Nat} {s:ByteArray} {p l f q:Nat} {z:Int} (e:z=q) (h:Cut w b s p l f):Cut (w.setCell ⟨b,2,none⟩ (.int .i64 z)) b s p q f:=by subst e;exact⟨aQ h.out 2 _⟩
theorem Cut.set3 {w:World} {b:Nat} {s:ByteArray} {p l f q:Nat} {z:Int} (e:z=q) (h:Cut w b s p l f):Cut (w.setCell ⟨b,3,none⟩ (.int .i64 z)) b s p l q:=by subst e;exact⟨aQ h.out 3 _⟩
theorem Cut.step {w w':World} {b:Nat} {s:ByteArray} {p l f:Nat} {S:Nat→Prop} (h:Cut w b s p l f) (hs:Step S w w') (hb:¬S b):Cut w' b s p l f:=⟨hs.keep h.out hb⟩
theorem Ui (b:Nat) (s:ByteArray) (p l f:Nat) (w:World) (h:Cut w b s p l f) (hf:f≤p) (hp:p≤100000):Calls Tryz.prog 121 #[.pointer (some ⟨b,0,none⟩)] w fun e w'=>e=.returned (.agg #[ah l,ah ((p:Int)-f+1)])∧jg w w':=by obtain⟨c0,c1,c2,c3,f0,f1,f2,f3⟩:=h.cells;have hlt:b<w.heap.size:=aP h.out;go_enter Tryz.func121,Tryz.ntmps121;go_wp2;go_region;go_wp2;exact bodyPost_ret (v:=.agg #[ah l,ah ((p:Int)-f+1)]) (by simp[results,Tryz.results121,go_sem]) rfl ⟨rfl,(bg.alloc _).drew⟩
theorem drop_cons (s:ByteArray) (p:Nat) (h:p<s.size):s.data.toList.drop p=s[p]::s.data.toList.drop (p+1):=by rw[List.drop_eq_getElem_cons (by simpa using h)];rfl
theorem LK {c:UInt8} (k:UInt8) (h:((c.toNat:Int)==(k.toNat:Int))=true):c=k:=by have:c.toNat=k.toNat:=Int.ofNat_inj.1 (beq_iff_eq.1 h);exact UInt8.toNat_inj.1 this
theorem gy {c:UInt8} (k:UInt8) (h:(c.toNat:Int)=(k.toNat:Int)):c=k:=UInt8.toNat_inj.1 (Int.ofNat_inj.1 h)
theorem Bl {c:UInt8} (k:UInt8) (h:((c.toNat:Int)==(k.toNat:Int))=false):c≠k:=by intro e;subst e;simp at h
def dS:Bool→List UInt8→Nat→Nat→Nat→Nat×Nat×Nat
 |_,[],p,l,f=>(p,l,f)
 |true,c::r,p,l,f=>if c=10 then dS false r (p+1) (l+1) (p+1)else dS true r (p+1) l f
 |false,c::r,p,l,f=>
  if c=10 then dS false r (p+1) (l+1) (p+1)
  else if c=32∨c=9∨c=13 then dS false r (p+1) l f
  else if c=47∧r.head?=some 47 then dS true r (p+1) l f
  else(p,l,f)
theorem rC {c:UInt8} {r:List UInt8} {p l f:Nat} (h:c=32∨c=9∨c=13):dS false (c::r) p l f=dS false r (p+1) l f:=by rcases h with rfl|rfl|rfl<;>simp[dS]
theorem Ah {c:UInt8} {r:List UInt8} {p l f:Nat} (h1:c≠10) (h2:¬(c=32∨c=9∨c=13)) (h3:¬(c=47∧r.head?=some 47)):dS false (c::r) p l f=(p,l,f):=by rw[dS,if_neg h1,if_neg h2,if_neg h3]
theorem Ai {c:UInt8} {r:List UInt8} {p l f:Nat} (h:c=47∧r.head?=some 47):dS false (c::r) p l f=dS true (c::r) p l f:=by obtain⟨rfl,h⟩:=h;simp[dS,h]
theorem BL {c:UInt8} {r:List UInt8} {p l f:Nat} (h:c=10):dS true (c::r) p l f=dS false (c::r) p l f:=by subst h;simp[dS]
theorem w_ (c:UInt8) (r:List UInt8):Lib.hasPrefix (c::r) [47,47]=decide (c=47∧r.head?=some 47):=by
 cases r with
 |nil=>simp[Lib.hasPrefix,List.isPrefixOf]
 |cons d r=>show((47:UInt8)==c&&((47:UInt8)==d&&true))=decide (c=47∧some d=some 47);rw[Bool.eq_iff_iff];simp;exact⟨fun h=>⟨h.1.symm,h.2.symm⟩,fun h=>⟨h.1.symm,h.2.symm⟩⟩
theorem pq (s:ByteArray) (p:Nat):(s.extract p s.size).data.toList=s.data.toList.drop p:=by rw[Lib.extract_data];simp[List.take_of_length_le]
theorem BM (t:ByteArray) (v:Bool) (h:Lib.hasPrefix t.data.toList [47,47]=v) (w:World):Calls Tryz.prog 136 #[.string t,.string ⟨#[47,47]⟩] w fun e w'=>e=.returned (.bool v)∧w=w':=
 (Tryz.strings_HasPrefix _ _ _).mono fun _ _ hq=>⟨by rw[hq.1];exact nV h,hq.2.symm⟩
theorem Nq (b:Nat) (s:ByteArray) (p l f:Nat) (w:World) (h:Cut w b s p l f) (hf:f≤p) (hp:p≤s.size) (hs:s.size≤100000) (hl:l≤p+1):
  Calls Tryz.prog 120 #[.pointer (some ⟨b,0,none⟩)] w fun e w'=>e=.returned (.tuple #[])∧
   ∃p' l' f',(p',l',f')=dS false (s.data.toList.drop p) p l f∧Cut w' b s p' l' f'∧Step (·=b) w w':=by
 go_enter Tryz.func120,Tryz.ntmps120
 go_wp2
 go_loopg [] s.size (fun g wr=>∃p' l' f':Nat,s.size-p'≤g∧p'≤s.size∧f'≤p'∧l'≤p'+1∧dS false (s.data.toList.drop p') p' l' f'=dS false (s.data.toList.drop p) p l f∧Cut wr b s p' l' f'∧Step (·=b) w wr)
 case atStart=>exact⟨p,l,f,by omega,hp,hf,hl,rfl,h,Step.refl _ _⟩
 case round=>
  obtain⟨p',l',f',hg,hp',hf',hl',heq,hc,hst⟩:=hrel
  have HE:=ai heq
  clear heq
  obtain⟨c0,c1,c2,c3,f0,f1,f2,f3⟩:=hc.cells
  have hlt:b<wr.heap.size:=aP hc.out
  by_cases hlt':p'<s.size
  ·
   have hdr:=ai (drop_cons s p' hlt')
   go_wp2
   go_quiet (fail)
   go_wp2
   go_quiet (fail)
   go_wp2
   ·
    go_roundg (gk-1)
    case rel=>
     refine⟨p'+1,l'+1,p'+1,by omega,by omega,by omega,by omega,?_,?_,?_⟩
     ·
      rw[←HE.o,hdr.out,dS,if_pos (LK 10 (by assumption))]
     ·
      exact(((hc.drewN _).set1 (q:=p'+1) om).set2 (q:=l'+1) om).set3 (q:=p'+1) om
     ·
      (repeat (with_reducible (first|exact hst|exact Step.refl _ _|refine Step.drew ?_|refine Step.drewN ?_ _|refine Step.alloc ?_ _|refine Step.setCell ?_ _ _ iV)))
    case measure=>omega
   ·
    rename_i h1 h2
    have h3:=gy 32 h2
    go_roundg (gk-1)
    case rel=>
     refine⟨p'+1,l',f',by omega,by omega,by omega,by omega,?_,?_,?_⟩
     ·
      rw[←HE.o,hdr.out,rC (.inl h3)]
     ·
      exact(hc.drewN _).set1 (q:=p'+1) om
     ·
      (repeat (with_reducible (first|exact hst|exact Step.refl _ _|refine Step.drew ?_|refine Step.drewN ?_ _|refine Step.alloc ?_ _|refine Step.setCell ?_ _ _ iV)))
    case measure=>omega
   ·
    rename_i h1 h1b h2
    have h3:=gy 9 h2
    go_roundg (gk-1)
    case rel=>
     refine⟨p'+1,l',f',by omega,by omega,by omega,by omega,?_,?_,?_⟩
     ·
      rw[←HE.o,hdr.out,rC (.inr (.inl h3))]
     ·
      exact(hc.drewN _).set1 (q:=p'+1) om
     ·
      (repeat (with_reducible (first|exact hst|exact Step.refl _ _|refine Step.drew ?_|refine Step.drewN ?_ _|refine Step.alloc ?_ _|refine Step.setCell ?_ _ _ iV)))
    case measure=>omega
   ·
    rename_i h1 h1b h1c h2
    have h3:=LK 13 (h2.resolve_left (by simp[h1b,h1c]))
    go_roundg (gk-1)
    case rel=>
     refine⟨p'+1,l',f',by omega,by omega,by omega,by omega,?_,?_,?_⟩
     ·
      rw[←HE.o,hdr.out,rC (.inr (.inr h3))]
     ·
      exact(hc.drewN _).set1 (q:=p'+1) om
     ·
      (repeat (with_reducible (first|exact hst|exact Step.refl _ _|refine Step.drew ?_|refine Step.drewN ?_ _|refine Step.alloc ?_ _|refine Step.setCell ?_ _ _ iV)))
    case measure=>omega
   ·
    have PL:=Bl (c:=s[p']) 10 (by assumption)
    have h2:((((s[p'].toNat:Int)==32)=false∧((s[p'].toNat:Int)==9)=false)∧((s[p'].toNat:Int)==13)=false):=by assumption
    have hns:¬(s[p']=32∨s[p']=9∨s[p']=13):=fun e=>e.elim (Bl 32 h2.1.1) fun e=>e.elim (Bl 9 h2.1.2) (Bl 13 h2.2)
    by_cases hsl:s[p']=47∧(s.data.toList.drop (p'+1)).head?=some 47
    ·
     have hpre:=ai (show Lib.hasPrefix (s.extract p' s.size).data.toList [47,47]=true by rw[pq,hdr.out,w_];exact decide_eq_true hsl)
     have HI:Hid (dS true (s.data.toList.drop p') p' l' f'=dS false (s.data.toList.drop p) p l f):=by
      rw[←HE.o,hdr.out,Ai hsl];exact rfl
     clear hsl HE
     go_wp2
     go_quiet ((go_at_call 136;exact(BM _ true hpre.out _).mono fun _ _ h=>⟨h.1,_,h.2.symm⟩))
     go_wp2
     obtain⟨wo,rfl⟩:=bF wr
     obtain⟨g0,rfl⟩:∃g:Nat,g=gk:=⟨_,rfl⟩
     go_loopg [] s.size (fun g wi=>∃p2:Nat,s.size-p2≤g∧p2≤s.size∧p'≤p2∧dS true (s.data.toList.drop p2) p2 l' f'=dS false (s.data.toList.drop p) p l f∧Cut wi b s p2 l' f'∧Step (·=b) w wi)
     case atStart=>exact⟨p',by omega,by omega,Nat.le_refl _,HI.o,(hc.drewN _).drewN _,(hst.drewN _).drewN _⟩
     case round=>
      clear c0 c1 c2 c3 f0 f1 f2 f3 hlt hc hst
      obtain⟨p2,hg2,hp2,hpp,heq2,hc,hst⟩:=hrel
      have HE2:=ai heq2
      clear heq2
      obtain⟨c0,c1,c2,c3,f0,f1,f2,f3⟩:=hc.cells
      have hlt:b<wr.heap.size:=aP hc.out
      by_cases hlt2:p2<s.size
      ·
       have PN:=ai (drop_cons s p2 hlt2)
       by_cases h10:s[p2]=10
       ·
        have Ym:((s[p2].toNat:Int)==10)=true:=by rw[h10];rfl
        have hpp2:p'<p2:=by
         rcases Nat.lt_or_ge p' p2 with h|h
         ·
          exact h
         ·
          have:p'=p2:=by omega
          subst this
          exact absurd h10 PL
        have Ih:=ai h10
        clear h10
        go_wp2
        go_quiet (fail)
        go_wp2
        go_roundg (g0-1)
        case rel=>
         refine⟨p2,l',f',by omega,by omega,by omega,by omega,?_,hc.drewN _,hst.drewN _⟩
         rw[←HE2.o,PN.out,BL Ih.o]
        case measure=>omega
       ·
        have Ym:((s[p2].toNat:Int)==10)=false:=by rw[beq_eq_false_iff_ne];exact fun e=>h10 (gy 10 e)
        have Ih:=ai h10
        clear h10
        go_wp2
        go_quiet (fail)
        go_wp2
        go_roundg (gk-1)
        case rel=>
         refine⟨p2+1,by omega,by omega,by omega,?_,(hc.drewN _).set1 (q:=p2+1) om,?_⟩
         ·
          rw[←HE2.o,PN.out,dS,if_neg Ih.o]
         ·
          (repeat (with_reducible (first|exact hst|exact Step.refl _ _|refine Step.drew ?_|refine Step.drewN ?_ _|refine Step.alloc ?_ _|refine Step.setCell ?_ _ _ iV)))
        case measure=>omega
      ·
       go_wp2
       go_quiet (fail)
       go_wp2
       go_roundg (g0-1)
       case rel=>
        refine⟨p2,l',f',by omega,by omega,by omega,by omega,?_,hc.drewN _,hst.drewN _⟩
        rw[←HE2.o,List.drop_of_length_le (by simp;omega)];rfl
       case measure=>omega
    ·
     have hpre:=ai (show Lib.hasPrefix (s.extract p' s.size).data.toList [47,47]=false by rw[pq,hdr.out,w_];exact decide_eq_false hsl)
     have HS:=ai hsl
     clear hsl
     go_wp2
     go_quiet ((go_at_call 136;exact(BM _ false hpre.out _).mono fun _ _ h=>⟨h.1,_,h.2.symm⟩))
     go_wp2
     refine bodyPost_ret (results_none rfl _ _ _) rfl ?_
     refine⟨rfl,p',l',f',?_,(hc.drewN _).drewN _,(hst.drewN _).drewN _⟩
     rw[←HE.o,hdr.out,Ah PL hns HS.o]
  ·
   go_wp2
   go_quiet (fail)
   go_wp2
   go_end0
   refine⟨rfl,p',l',f',?_,hc.drewN _,hst.drewN _⟩
   rw[←HE.o,List.drop_of_length_le (by simp;omega)];rfl
def xg (c:UInt8):Bool:=jJ c.toNat
def gU (l:List UInt8):Nat:=(l.takeWhile xg).length
theorem Ii:gU []=0:=rfl
theorem vG {c:UInt8} {r:List UInt8} (h:xg c=true):gU (c::r)=gU r+1:=by simp[gU,h]
theorem FC {c:UInt8} {r:List UInt8} (h:xg c=false):gU (c::r)=0:=by simp[gU,h]
theorem iF (l:List UInt8):gU l≤l.length:=by
 induction l with
 |nil=>simp[gU]
 |cons c r ih=>
  cases h:xg c
  ·rw[FC h];omega
  ·rw[vG h];simp;omega
structure Tests (k:Nat):Prop where
 enter:∀(xs:Array Value) (w:World),Sem.run Tryz.prog (callFunc k xs) w=.ok (.enter k xs) w
 test:∀(a:Int) (w:World),0≤a→a≤255→Calls Tryz.prog k #[.int .u8 a] w fun e w'=>e=.returned (.bool (jJ a))∧w=w'
theorem BN:Tests 154:=⟨fun xs w=>by go_simp,fun a w=>Nl a w⟩
theorem uf:Tests 155:=⟨fun xs w=>by go_simp,fun a w=>Np a w⟩
theorem yF:Tests 156:=⟨fun xs w=>by go_simp,fun a w=>Ig a w⟩
theorem run_any (k b:Nat) (s:ByteArray) (p l f:Nat) (w:World) (hk:Tests k) (h:Cut w b s p l f) (hp:p≤s.size) (hs:s.size≤100000):
  Calls Tryz.prog 153 #[.pointer (some ⟨b,0,none⟩),.func (.func k) #[] #[]] w fun e w'=>
   e=.returned (.string (s.extract p (p+gU (s.data.toList.drop p))))∧Cut w' b s (p+gU (s.data.toList.drop p)) l f∧Step (·=b) w w':=by
 obtain⟨c0,c1,c2,c3,f0,f1,f2,f3⟩:=h.cells
 have hlt:b<w.heap.size:=aP h.out
 have hen:=hk.enter
 have HK:=ai hk.test
 clear hk
 go_enter Tryz.func153,Tryz.ntmps153
 go_wp2
 clear c0 c1 c2 c3 f0 f1 f2 f3 hlt
 go_loopg [] s.size (fun g wr=>∃p':Nat,s.size-p'≤g∧p'≤s.size∧p≤p'∧p'+gU (s.data.toList.drop p')=p+gU (s.data.toList.drop p)∧Cut wr b s p' l f∧Step (·=b) w wr)
 case atStart=>exact⟨p,by omega,hp,Nat.le_refl _,rfl,h,Step.refl _ _⟩
 case round=>
  obtain⟨p',hg,hp',hpp,heq,hc,hst⟩:=hrel
  have HE:=ai heq
  clear heq
  obtain⟨c0,c1,c2,c3,f0,f1,f2,f3⟩:=hc.cells
  have hlt:b<wr.heap.size:=aP hc.out
  by_cases hlt':p'<s.size
  ·
   have hdr:=ai (drop_cons s p' hlt')
   have cO:((s[p'].toNat:Int))≤255:=by have:=s[p'].toNat_lt;omega
   cases hw:jJ (s[p'].toNat:Int)
   ·
    have hq:=HK.o (s[p'].toNat:Int)
    rw[hw]at hq
    have HQ:=ai hq
    have HW:=ai hw
    clear hq hw
    go_wp2
    go_quiet ((exact(HQ.o _ om cO).mono fun _ _ h=>⟨h.1,_,h.2.symm⟩))
    go_wp2
    go_quiet (fail)
    go_wp2
    go_ret
    rw[←HE.o,hdr.out,FC HW.o]
    exact⟨rfl,(hc.drewN _).drewN _,(hst.drewN _).drewN _⟩
   ·
    have hq:=HK.o (s[p'].toNat:Int)
    rw[hw]at hq
    have HQ:=ai hq
    have HW:=ai hw
    clear hq hw
    go_wp2
    go_quiet ((exact(HQ.o _ om cO).mono fun _ _ h=>⟨h.1,_,h.2.symm⟩))
    go_wp2
    go_roundg (gk-1)
    case rel=>
     refine⟨p'+1,by omega,by omega,by omega,?_,(hc.drewN _).set1 (q:=p'+1) om,?_⟩
     ·
      rw[←HE.o,hdr.out,vG HW.o];omega
     ·
      (repeat (with_reducible (first|exact hst|exact Step.refl _ _|refine Step.drew ?_|refine Step.drewN ?_ _|refine Step.alloc ?_ _|refine Step.setCell ?_ _ _ iV)))
    case measure=>omega
  ·
   go_wp2
   go_quiet (fail)
   go_wp2
   go_quiet (fail)
   go_wp2
   go_ret
   have:s.data.toList.drop p'=[]:=List.drop_of_length_le (by simp;omega)
   rw[←HE.o,this,Ii]
   exact⟨rfl,(hc.drewN _).drewN _,(hst.drewN _).drewN _⟩
theorem uV {w:World} {b t:Nat} {a0 a1 a2 a3 a4:Value} (h:w.heap[b]?=some (.cells #[a0,a1,a2,a3,a4] t (0,0))):(w.cell? ⟨b,0,none⟩=some a0∧w.cell? ⟨b,1,none⟩=some a1∧w.cell? ⟨b,2,none⟩=some a2∧w.cell? ⟨b,3,none⟩=some a3∧w.cell? ⟨b,4,none⟩=some a4)∧(w.frozen? ⟨b,0,none⟩=false∧w.frozen? ⟨b,1,none⟩=false∧w.frozen? ⟨b,2,none⟩=false∧w.frozen? ⟨b,3,none⟩=false∧w.frozen? ⟨b,4,none⟩=false):=
 ⟨⟨aj h 0 _ rfl,aj h 1 _ rfl,aj h 2 _ rfl,aj h 3 _ rfl,aj h 4 _ rfl⟩,⟨aG h 0,aG h 1,aG h 2,aG h 3,aG h 4⟩⟩
theorem Nr (w:World) (r b:Nat) (v0 v1 v2 v3 v4:Value) (hr:b≠r):(((((w.setCell ⟨r,0,none⟩ v0).setCell ⟨r,1,none⟩ v1).setCell ⟨r,2,none⟩ v2).setCell ⟨r,3,none⟩ v3).setCell ⟨r,4,none⟩ v4).heap[b]?=w.heap[b]?:=by rw[Below.heap_setCell _ _ _ _ hr,Below.heap_setCell _ _ _ _ hr,Below.heap_setCell _ _ _ _ hr,Below.heap_setCell _ _ _ _ hr,Below.heap_setCell _ _ _ _ hr]
theorem Cut.five {w:World} {b r:Nat} {s:ByteArray} {p l f:Nat} {v0 v1 v2 v3 v4:Value} (h:Cut w b s p l f) (hr:b≠r):Cut (((((w.setCell ⟨r,0,none⟩ v0).setCell ⟨r,1,none⟩ v1).setCell ⟨r,2,none⟩ v2).setCell ⟨r,3,none⟩ v3).setCell ⟨r,4,none⟩ v4) b s p l f:=⟨by rw[Nr _ _ _ _ _ _ _ _ hr];exact h.out⟩
theorem Step.five {S:Nat→Prop} {a w:World} {r:Nat} {v0 v1 v2 v3 v4:Value} (h:Step S a w) (hr:a.heap.size≤r):Step S a (((((w.setCell ⟨r,0,none⟩ v0).setCell ⟨r,1,none⟩ v1).setCell ⟨r,2,none⟩ v2).setCell ⟨r,3,none⟩ v3).setCell ⟨r,4,none⟩ v4):=by have hq:∀i,(⟨r,i,none⟩:Addr).block<a.heap.size→S r:=fun i h=>absurd h (Nat.not_lt.2 hr);exact((((h.setCell _ _ (hq 0)).setCell _ _ (hq 1)).setCell _ _ (hq 2)).setCell _ _ (hq 3)).setCell _ _ (hq 4)
theorem Step.kE {S:Nat→Prop} {w w':World} {o:Obj} (h:Step S (w.alloc o) w'):Step S w w':=((Step.refl S w).alloc o).trans h
theorem Step.FD {w w':World} {b i:Nat} {v:Value} (h:Step (·=b) (w.setCell ⟨b,i,none⟩ v) w'):Step (·=b) w w':=
 ((Step.refl (·=b) w).setCell ⟨b,i,none⟩ v iV).trans h
structure Gives (k:Nat) (F:List UInt8→Except Nat (Nat×Nat×Nat)) (G:List UInt8→Prop):Prop where
 ok:∀(b:Nat) (s:ByteArray) (p l f:Nat) (w:World) (kind n val:Nat) (m:Int),Cut w b s p l f→p<s.size→s.size≤100000→w.cell? ⟨0,0,none⟩=some (.int .i64 m)→b≠0→G (s.data.toList.drop p)→
  F (s.data.toList.drop p)=.ok (kind,n,val)→
  Calls Tryz.prog k #[.pointer (some ⟨b,0,none⟩)] w fun e w'=>
   e=.returned (.tuple #[.agg #[ah kind,aI (s.extract p (p+n)),ah 0,ah 0,aX val],ah 0])∧Cut w' b s (p+n) l f∧Step (·=b) w w'
 bad:∀(b:Nat) (s:ByteArray) (p l f:Nat) (w:World) (c:Nat) (m:Int),Cut w b s p l f→p<s.size→s.size≤100000→w.cell? ⟨0,0,none⟩=some (.int .i64 m)→b≠0→G (s.data.toList.drop p)→
  F (s.data.toList.drop p)=.error c→
  Calls Tryz.prog k #[.pointer (some ⟨b,0,none⟩)] w fun e w'=>
   e=.returned (.tuple #[.agg #[ah 0,dG,ah 0,ah 0,aX 0],ah c])∧Step (·=b) w w'
def xh (l:List UInt8):Except Nat (Nat×Nat×Nat):=if 24<gU l then .error 2 else .ok (1,gU l,0)
theorem extract_size (s:ByteArray) (p n:Nat) (h:p+n≤s.size):(s.extract p (p+n)).size=n:=by rw[ByteArray.size_extract];omega
theorem Uj (b:Nat) (s:ByteArray) (p l f:Nat) (w:World) (h:Cut w b s p l f) (hp:p<s.size) (hs:s.size≤100000) (hn:gU (s.data.toList.drop p)≤24):
  Calls Tryz.prog 138 #[.pointer (some ⟨b,0,none⟩)] w fun e w'=>
   e=.returned (.tuple #[.agg #[ah 1,aI (s.extract p (p+gU (s.data.toList.drop p))),ah 0,ah 0,aX 0],ah 0])∧Cut w' b s (p+gU (s.data.toList.drop p)) l f∧Step (·=b) w w':=by
 have hlt:b<w.heap.size:=aP h.out
 have hrl:p+gU (s.data.toList.drop p)≤s.size:=by have:=iF (s.data.toList.drop p);simp at this;omega
 go_enter Tryz.func138,Tryz.ntmps138
 go_wp2_with fail
 refine(run_any _ _ _ _ _ _ _ BN (h.alloc _) (Nat.le_of_lt hp) hs).mono ?_
 rintro e w1 ⟨rfl,hc,hst⟩
 have hsz:=extract_size s p _ hrl
 generalize hN:gU (s.data.toList.drop p)=N at*
 have hr:=uV (hst.keep (aC w _) om)
 obtain⟨⟨d0,d1,d2,d3,d4⟩,e0,e1,e2,e3,e4⟩:=hr
 have hNN:=ai hN
 clear hN
 go_wp2
 refine bodyPost_ret (v:=.tuple #[.agg #[ah 1,aI (s.extract p (p+N)),ah 0,ah 0,aX 0],ah 0]) (by simp[results,Tryz.results138,go_sem,d0,d1,d2,d3,d4]) rfl ⟨by rw[hNN.out],?_,?_⟩
 ·
  rw[hNN.out];exact hc.five om
 ·
  exact hst.kE.five (Nat.le_refl _)
theorem PO (b:Nat) (s:ByteArray) (p l f:Nat) (w:World) (h:Cut w b s p l f) (hp:p<s.size) (hs:s.size≤100000) (hn:24<gU (s.data.toList.drop p)):
  Calls Tryz.prog 138 #[.pointer (some ⟨b,0,none⟩)] w fun e w'=>
   e=.returned (.tuple #[.agg #[ah 0,dG,ah 0,ah 0,aX 0],ah 2])∧Step (·=b) w w':=by
 have hlt:b<w.heap.size:=aP h.out
 have hrl:p+gU (s.data.toList.drop p)≤s.size:=by have:=iF (s.data.toList.drop p);simp at this;omega
 go_enter Tryz.func138,Tryz.ntmps138
 go_wp2_with fail
 refine(run_any _ _ _ _ _ _ _ BN (h.alloc _) (Nat.le_of_lt hp) hs).mono ?_
 rintro e w1 ⟨rfl,hc,hst⟩
 have hsz:=extract_size s p _ hrl
 generalize hN:gU (s.data.toList.drop p)=N at*
 obtain⟨⟨d0,d1,d2,d3,d4⟩,e0,e1,e2,e3,e4⟩:=uV (hst.keep (aC w _) om)
 clear hN
 go_wp2
 refine bodyPost_ret (v:=.tuple #[.agg #[ah 0,dG,ah 0,ah 0,aX 0],ah 2]) (by simp[results,Tryz.results138,go_sem,d0,d1,d2,d3,d4]) rfl ⟨rfl,?_⟩
 exact hst.kE.five (Nat.le_refl _)
theorem BO:Gives 138 xh (fun _=>True) where
 ok b s p l f w kind n val m h hp hs _ _ _ he:=by
  unfold xh at he
  split at he
  ·
   simp at he
  ·
   simp at he
   obtain⟨rfl,rfl,rfl⟩:=he
   exact Uj b s p l f w h hp hs om
 bad b s p l f w c m h hp hs _ _ _ he:=by
  unfold xh at he
  split at he
  ·
   simp at he
   subst he
   exact PO b s p l f w h hp hs om
  ·
   simp at he
def xk:List UInt8→Except Nat (Nat×Nat×Nat)
 |[]=>.error 1
 |_::r=>if gU r=0∨kz ((r.headD 0).toNat:Int)=false then .error 1 else if 24<gU r then .error 2 else .ok (2,gU r+1,0)
theorem iG (s:ByteArray) (p n:Nat):(s.extract p (p+n)).data.toList=(s.data.toList.drop p).take n:=by rw[Lib.extract_data,Nat.add_sub_cancel_left]
theorem jR (t:ByteArray) (h:0<t.size):¬t.toList=[]:=by intro e;rw[Lib.toList_data]at e;rw[Lib.size_eq,e]at h;exact absurd h (by simp)
theorem jF (t:ByteArray) (h:0<t.size):t.toList.isEmpty=false:=by
 cases e:t.toList.isEmpty
 ·rfl
 ·exact absurd (List.isEmpty_iff.1 e) (jR t h)
theorem yG {a b:ByteArray} (h:a.data.toList=b.data.toList):a=b:=by have:a.data=b.data:=Array.toList_inj.1 h;cases a;cases b;simp at this;rw[this]
theorem iq (t:ByteArray) (i:Nat) (h:i<t.size):t[i]=t.data.toList.getD i 0:=by
 have h':i<t.data.toList.length:=by simpa using h
 rw[List.getD_eq_getElem?_getD,List.getElem?_eq_getElem h'];rfl
theorem BP (s:ByteArray) (p n:Nat) (hn:0<n) (h:0<(s.extract p (p+n)).size):(s.extract p (p+n))[0]=(s.data.toList.drop p).headD 0:=by
 rw[iq _ 0 h,iG];cases hd:s.data.toList.drop p with
 |nil=>simp
 |cons c r=>cases n with
  |zero=>omega
  |succ n=>rfl
theorem Ns (s:ByteArray) (p N:Nat) (hp:p<s.size) (Uk:(s.data.toList.drop p).headD 0=39):(⟨#[39]⟩:ByteArray)++s.extract (p+1) (p+1+N)=s.extract p (p+(N+1)):=by apply yG;rw[iG,drop_cons s p hp,List.take_succ_cons,ByteArray.data_append,Array.toList_append,iG];rw[drop_cons s p hp]at Uk;simp at Uk;rw[Uk];rfl
theorem Ul (b:Nat) (s:ByteArray) (p l f N:Nat) (w:World) (h:Cut w b s p l f) (hp:p<s.size) (hs:s.size≤100000) (hN:gU (s.data.toList.drop (p+1))=N) (Uk:(s.data.toList.drop p).headD 0=39) (hpos:0<N) (hn:N≤24) (hsm:kz (((s.data.toList.drop (p+1)).headD 0).toNat:Int)=true):
  Calls Tryz.prog 139 #[.pointer (some ⟨b,0,none⟩)] w fun e w'=>
   e=.returned (.tuple #[.agg #[ah 2,aI (s.extract p (p+(N+1))),ah 0,ah 0,aX 0],ah 0])∧Cut w' b s (p+(N+1)) l f∧Step (·=b) w w':=by
 have hlt:b<w.heap.size:=aP h.out
 obtain⟨c0,c1,c2,c3,f0,f1,f2,f3⟩:=h.cells
 have hrl:p+1+N≤s.size:=by have:=iF (s.data.toList.drop (p+1));simp at this;omega
 have HN:=ai hN
 clear hN
 go_enter Tryz.func139,Tryz.ntmps139
 go_wp2_with fail
 refine(run_any _ b s (p+1) l f _ uf ((h.set1 (q:=p+1) om).alloc _) om hs).mono ?_
 rintro e w1 ⟨rfl,hc,hst⟩
 rw[HN.o]at hc⊢
 have hsz:=extract_size s (p+1) N hrl
 generalize ht:s.extract (p+1) (p+1+N)=t at*
 obtain⟨⟨d0,d1,d2,d3,d4⟩,e0,e1,e2,e3,e4⟩:=uV (hst.keep (ru _ _ _ _) om)
 have h0:0<t.size:=by omega
 have HQC:Hid ((⟨#[39]⟩:ByteArray)++t=s.extract p (p+(N+1))):=by subst ht;exact Ns s p N hp Uk
 clear Uk
 have hh:t[0]=(s.data.toList.drop (p+1)).headD 0:=by subst ht;exact BP s (p+1) N hpos h0
 have hte:=jR t h0
 have hte':=jF t h0
 have cO:((t[0].toNat:Int))≤255:=by have:=t[0].toNat_lt;omega
 have hq:=wK (t[0].toNat:Int)
 rw[hh]at hq
 rw[hsm,←hh]at hq
 have HQ:=ai hq
 have HT:=ai ht
 clear ht hh hq hsm
 go_wp2_with (go_at_call 152;refine(HQ.o _ om cO).mono ?_;rintro e w' ⟨rfl,rfl⟩)
 rw[HQC.o]
 refine bodyPost_ret (v:=.tuple #[.agg #[ah 2,aI (s.extract p (p+(N+1))),ah 0,ah 0,aX 0],ah 0]) (by simp[results,Tryz.results139,go_sem,d0,d1,d2,d3,d4]) rfl ⟨rfl,?_,?_⟩
 ·
  have:=hc.five (r:=w.heap.size) (v0:=.int .i64 2) (v1:=.string (s.extract p (p+(N+1)))) (v2:=.int .i64 0) (v3:=.int .i64 0) (v4:=.int .u64 0) om
  rw[show p+(N+1)=p+1+N by omega]at this⊢;exact this
 ·
  exact hst.kE.FD.five (Nat.le_refl _)
theorem Nu (b:Nat) (s:ByteArray) (p l f N:Nat) (w:World) (h:Cut w b s p l f) (hp:p<s.size) (hs:s.size≤100000) (hN:gU (s.data.toList.drop (p+1))=N) (hn:24<N) (hsm:kz (((s.data.toList.drop (p+1)).headD 0).toNat:Int)=true):
  Calls Tryz.prog 139 #[.pointer (some ⟨b,0,none⟩)] w fun e w'=>
   e=.returned (.tuple #[.agg #[ah 0,dG,ah 0,ah 0,aX 0],ah 2])∧Step (·=b) w w':=by
 have hlt:b<w.heap.size:=aP h.out
 obtain⟨c0,c1,c2,c3,f0,f1,f2,f3⟩:=h.cells
 have hrl:p+1+N≤s.size:=by have:=iF (s.data.toList.drop (p+1));simp at this;omega
 have HN:=ai hN
 clear hN
 go_enter Tryz.func139,Tryz.ntmps139
 go_wp2_with fail
 refine(run_any _ b s (p+1) l f _ uf ((h.set1 (q:=p+1) om).alloc _) om hs).mono ?_
 rintro e w1 ⟨rfl,hc,hst⟩
 rw[HN.o]at hc⊢
 have hsz:=extract_size s (p+1) N hrl
 generalize ht:s.extract (p+1) (p+1+N)=t at*
 obtain⟨⟨d0,d1,d2,d3,d4⟩,e0,e1,e2,e3,e4⟩:=uV (hst.keep (ru _ _ _ _) om)
 have h0:0<t.size:=by omega
 have hh:t[0]=(s.data.toList.drop (p+1)).headD 0:=by subst ht;exact BP s (p+1) N om h0
 have hte:=jR t h0
 have hte':=jF t h0
 have cO:((t[0].toNat:Int))≤255:=by have:=t[0].toNat_lt;omega
 have hq:=wK (t[0].toNat:Int)
 rw[hh]at hq
 rw[hsm,←hh]at hq
 have HQ:=ai hq
 clear ht hh hq hsm
 go_wp2_with (go_at_call 152;refine(HQ.o _ om cO).mono ?_;rintro e w' ⟨rfl,rfl⟩)
 refine bodyPost_ret (v:=.tuple #[.agg #[ah 0,dG,ah 0,ah 0,aX 0],ah 2]) (by simp[results,Tryz.results139,go_sem,d0,d1,d2,d3,d4]) rfl ⟨rfl,?_⟩
 exact hst.kE.FD.five (Nat.le_refl _)
theorem PS (b:Nat) (s:ByteArray) (p l f N:Nat) (w:World) (h:Cut w b s p l f) (hp:p<s.size) (hs:s.size≤100000) (hN:gU (s.data.toList.drop (p+1))=N) (hn:0<N) (hsm:kz (((s.data.toList.drop (p+1)).headD 0).toNat:Int)=false):
  Calls Tryz.prog 139 #[.pointer (some ⟨b,0,none⟩)] w fun e w'=>
   e=.returned (.tuple #[.agg #[ah 0,dG,ah 0,ah 0,aX 0],ah 1])∧Step (·=b) w w':=by
 have hlt:b<w.heap.size:=aP h.out
 obtain⟨c0,c1,c2,c3,f0,f1,f2,f3⟩:=h.cells
 have hrl:p+1+N≤s.size:=by have:=iF (s.data.toList.drop (p+1));simp at this;omega
 have HN:=ai hN
 clear hN
 go_enter Tryz.func139,Tryz.ntmps139
 go_wp2_with fail
 refine(run_any _ b s (p+1) l f _ uf ((h.set1 (q:=p+1) om).alloc _) om hs).mono ?_
 rintro e w1 ⟨rfl,hc,hst⟩
 rw[HN.o]at hc⊢
 have hsz:=extract_size s (p+1) N hrl
 generalize ht:s.extract (p+1) (p+1+N)=t at*
 obtain⟨⟨d0,d1,d2,d3,d4⟩,e0,e1,e2,e3,e4⟩:=uV (hst.keep (ru _ _ _ _) om)
 have h0:0<t.size:=by omega
 have hh:t[0]=(s.data.toList.drop (p+1)).headD 0:=by subst ht;exact BP s (p+1) N om h0
 have hte:=jR t h0
 have hte':=jF t h0
 have cO:((t[0].toNat:Int))≤255:=by have:=t[0].toNat_lt;omega
 have hq:=wK (t[0].toNat:Int)
 rw[hh]at hq
 rw[hsm,←hh]at hq
 have HQ:=ai hq
 clear ht hh hq hsm
 go_wp2_with (go_at_call 152;refine(HQ.o _ om cO).mono ?_;rintro e w' ⟨rfl,rfl⟩)
 refine bodyPost_ret (v:=.tuple #[.agg #[ah 0,dG,ah 0,ah 0,aX 0],ah 1]) (by simp[results,Tryz.results139,go_sem,d0,d1,d2,d3,d4]) rfl ⟨rfl,?_⟩
 exact hst.kE.FD.five (Nat.le_refl _)
theorem Nv (b:Nat) (s:ByteArray) (p l f:Nat) (w:World) (h:Cut w b s p l f) (hp:p<s.size) (hs:s.size≤100000) (hN:gU (s.data.toList.drop (p+1))=0):
  Calls Tryz.prog 139 #[.pointer (some ⟨b,0,none⟩)] w fun e w'=>
   e=.returned (.tuple #[.agg #[ah 0,dG,ah 0,ah 0,aX 0],ah 1])∧Step (·=b) w w':=by
 have hlt:b<w.heap.size:=aP h.out
 obtain⟨c0,c1,c2,c3,f0,f1,f2,f3⟩:=h.cells
 have HN:=ai hN
 clear hN
 go_enter Tryz.func139,Tryz.ntmps139
 go_wp2_with fail
 refine(run_any _ b s (p+1) l f _ uf ((h.set1 (q:=p+1) om).alloc _) om hs).mono ?_
 rintro e w1 ⟨rfl,hc,hst⟩
 rw[HN.o]at hc⊢
 have ht:s.extract (p+1) (p+1+0)=⟨#[]⟩:=yG (by rw[iG];rfl)
 rw[ht]
 obtain⟨⟨d0,d1,d2,d3,d4⟩,e0,e1,e2,e3,e4⟩:=uV (hst.keep (ru _ _ _ _) om)
 clear ht
 go_wp2
 refine bodyPost_ret (v:=.tuple #[.agg #[ah 0,dG,ah 0,ah 0,aX 0],ah 1]) (by simp[results,Tryz.results139,go_sem,d0,d1,d2,d3,d4]) rfl ⟨rfl,?_⟩
 exact hst.kE.FD.five (Nat.le_refl _)
theorem BQ:Gives 139 xk (fun l=>l.headD 0=39) where
 ok b s p l f w kind n val m h hp hs _ _ Uk he:=by
  have hd:=drop_cons s p hp
  rw[hd,xk]at he
  split at he
  ·
   simp at he
  ·
   rename_i h1
   split at he
   ·
    simp at he
   ·
    simp at he
    obtain⟨rfl,rfl,rfl⟩:=he
    refine Ul b s p l f _ w h hp hs rfl Uk ?_ om ?_
    ·
     rcases Nat.eq_zero_or_pos (gU (s.data.toList.drop (p+1)))with e|e
     ·
      exact absurd (.inl e) h1
     ·
      exact e
    ·
     cases e:kz (((s.data.toList.drop (p+1)).headD 0).toNat:Int)
     ·
      exact absurd (.inr e) h1
     ·
      rfl
 bad b s p l f w c m h hp hs _ _ Uk he:=by
  have hd:=drop_cons s p hp
  rw[hd,xk]at he
  by_cases h0:gU (s.data.toList.drop (p+1))=0
  ·
   rw[if_pos (.inl h0)]at he
   simp at he;subst he
   exact Nv b s p l f w h hp hs h0
  ·
   cases e:kz (((s.data.toList.drop (p+1)).headD 0).toNat:Int)
   ·
    rw[if_pos (.inr e)]at he
    simp at he;subst he
    exact PS b s p l f _ w h hp hs rfl om e
   ·
    rw[if_neg (fun x=>x.elim h0 (by rw[e];simp))]at he
    split at he
    ·
     simp at he;subst he
     exact Nu b s p l f _ w h hp hs rfl om e
    ·
     simp at he
def wQ (c:UInt8):Option Nat:=if isDigit c.toNat then some (c.toNat-48)else if 97≤c.toNat∧c.toNat≤102 then some (c.toNat-87)else none
theorem Yn (c:UInt8) (v:Nat) (w:World) (h:wQ c=some v):Calls Tryz.prog 157 #[.int .u8 (c.toNat:Int)] w fun e w'=>e=.returned (.tuple #[aX v,bK true])∧w=w':=by
 have hb:(c.toNat:Int)≤255:=by have:=c.toNat_lt;omega
 unfold wQ at h;cases hd:isDigit (c.toNat:Int)
 ·rw[if_neg (by simp[hd])]at h;split at h
  ·rename_i hr;simp at h;(have hr1:(97:Int)≤c.toNat:=by omega);(have hr2:(c.toNat:Int)≤102:=by omega);(have HV:Hid ((c.toNat:Int)-97+10=v):=show _=_ by omega);clear h hr;have hq:=kD (c.toNat:Int);rw[hd]at hq;have HQ:=ai hq;clear hq hd;go_enter Tryz.func157,Tryz.ntmps157;go_wp2_with (go_at_call 140;refine(HQ.o _ om hb).mono ?_;rintro e w' ⟨rfl,rfl⟩);go_ret2;exact⟨by rw[←HV.o];rfl,rfl⟩
  ·simp at h
 ·rw[if_pos (by simp[hd])]at h;simp at h;have h48:(48:Int)≤c.toNat∧(c.toNat:Int)≤57:=by simpa[isDigit]using hd
  obtain⟨h48,h57⟩:=h48;have HV:Hid ((c.toNat:Int)-48=v):=show _=_ by omega
  clear h;have hq:=kD (c.toNat:Int);rw[hd]at hq;have HQ:=ai hq;clear hq hd;go_enter Tryz.func157,Tryz.ntmps157;go_wp2_with (go_at_call 140;refine(HQ.o _ om hb).mono ?_;rintro e w' ⟨rfl,rfl⟩);go_ret2;exact⟨by rw[←HV.o];rfl,rfl⟩
theorem Um (c:UInt8) (w:World) (h:wQ c=none):Calls Tryz.prog 157 #[.int .u8 (c.toNat:Int)] w fun e w'=>e=.returned (.tuple #[aX 0,aW])∧w=w':=by
 have hb:(c.toNat:Int)≤255:=by have:=c.toNat_lt;omega
 unfold wQ at h;cases hd:isDigit (c.toNat:Int)
 ·rw[if_neg (by simp[hd])]at h;have hr:¬(97≤c.toNat∧c.toNat≤102):=by intro e;rw[if_pos e]at h;simp at h
  have hq:=kD (c.toNat:Int);rw[hd]at hq;have HQ:=ai hq;clear hq hd h;by_cases h97:(97:Int)≤c.toNat
  ·(have h102:(102:Int)<c.toNat:=by omega);clear hr;go_enter Tryz.func157,Tryz.ntmps157;go_wp2_with (go_at_call 140;refine(HQ.o _ om hb).mono ?_;rintro e w' ⟨rfl,rfl⟩);go_ret2;exact⟨rfl,rfl⟩
  ·clear hr;go_enter Tryz.func157,Tryz.ntmps157;go_wp2_with (go_at_call 140;refine(HQ.o _ om hb).mono ?_;rintro e w' ⟨rfl,rfl⟩);go_ret2;exact⟨rfl,rfl⟩
 ·rw[if_pos (by simp[hd])]at h;simp at h
def jY:Nat→List UInt8→Option Nat
 |v,[]=>some v
 |v,c::r=>match wQ c with
  |some x=>jY (v*16+x) r
  |none=>none
def jG (c0:UInt8):List UInt8→Nat→Nat→Except Nat Nat
 |[],_,v=>.ok v
 |c::r,i,v=>
  if isDigit c.toNat=false∨(i=1∧c0=48)then .error 1
  else if 9223372036854775807<v*10+(c.toNat-48)then .error 2
  else jG c0 r (i+1) (v*10+(c.toNat-48))
def vH (l:List UInt8):Except Nat (Nat×Nat×Nat):=
 if l.length=18∧l.take 2=[48,102]then
  match jY 0 (l.drop 2)with
  |some v=>.ok (4,l.length,v)
  |none=>.error 1
 else match jG (l.headD 0) l 0 0 with
  | .ok v=>.ok (3,l.length,v)
  | .error c=>.error c
def nY (l:List UInt8):Except Nat (Nat×Nat×Nat):=vH (l.take (gU l))
theorem Un {c:UInt8} {x:Nat} (h:wQ c=some x):x<16:=by
 unfold wQ at h;split at h
 ·rename_i hd;have:(48:Int)≤c.toNat∧(c.toNat:Int)≤57:=by simpa[isDigit]using hd
  simp at h;omega
 ·split at h
  ·simp at h;omega
  ·simp at h
theorem Yo (v x:Nat) (hv:v<1152921504606846976) (hx:x<16):bits BinOp.or IntKind.u64 ((v:Int)*16) x=((v*16+x:Nat):Int):=by
 rw[show((v:Int)*16)=((v*16:Nat):Int) by omega,bits_or_u64_nat _ _ om om];have:v*16|||x=v*16+x:=by have:=Nat.shiftLeft_add_eq_or_of_lt (show x<2^4 by omega) v;rw[Nat.shiftLeft_eq]at this;exact this.symm
 rw[this]
theorem sD (l:List UInt8) (i:Nat) (h:i<l.length):l.drop i=l.getD i 0::l.drop (i+1):=by rw[List.drop_eq_getElem_cons h,List.getD_eq_getElem?_getD,List.getElem?_eq_getElem h];rfl
def nZ (n b:Nat) (s:ByteArray) (p l f:Nat) (w:World) (r:Except Nat (Nat×Nat)) (e:Ending) (w':World):Prop:=
 (match r with
  | .ok (k,v)=>e=.returned (.tuple #[.agg #[ah k,aI (s.extract p (p+n)),ah 0,ah 0,aX v],ah 0])∧Cut w' b s (p+n) l f
  | .error c=>e=.returned (.tuple #[.agg #[ah 0,dG,ah 0,ah 0,aX 0],ah c]))∧Step (·=b) w w'
def PU:Option Nat→Except Nat (Nat×Nat)
 |some v=>.ok (4,v)
 |none=>.error 1
theorem yH (b:Nat) (s:ByteArray) (p l f:Nat) (w:World) (h:Cut w b s p l f) (hp:p<s.size) (hs:s.size≤100000) (hN:gU (s.data.toList.drop p)=18) (h2:((s.data.toList.drop p).take 18).take 2=[48,102]) (r:Option Nat) (hr:jY 0 (((s.data.toList.drop p).take 18).drop 2)=r):Calls Tryz.prog 141 #[.pointer (some ⟨b,0,none⟩)] w (nZ 18 b s p l f w (PU r)):=by
 have hlt:b<w.heap.size:=aP h.out;have hrl:p+18≤s.size:=by have:=iF (s.data.toList.drop p);simp at this;omega
 have HN:=ai hN;clear hN;go_enter Tryz.func141,Tryz.ntmps141;go_wp2_with fail;refine(run_any _ b s p l f _ yF (h.alloc _) om hs).mono ?_;rintro e w1 ⟨rfl,hc,hst⟩;rw[HN.o]at hc⊢;have hsz:=extract_size s p 18 hrl;have hL:=iG s p 18;rw[←hL]at h2 hr;generalize ht:s.extract p (p+18)=t at*;have hnb:=hst.keep (aC _ _) om;obtain⟨⟨d0,d1,d2,d3,d4⟩,e0,e1,e2,e3,e4⟩:=uV hnb;have hlt1:w.heap.size<w1.heap.size:=aP hnb;have HT:=ai ht;have HR:=ai hr;clear ht hL hr;have hs18:((t.size:Int)==18)=true:=by rw[hsz];rfl
 have hfm:((t.extract 0 2).toList==[48,102])=true:=by rw[beq_iff_eq,Lib.toList_data,Lib.extract_data];exact h2
 clear h2;go_wp2_with fail
 go_loopg [24] 16 (fun g s24 wr=>∃(i v:Nat),i≤16∧16-i≤g∧s24=.int .i64 i∧v<16^i∧jY v (t.data.toList.drop (2+i))=r∧
  wr=w1.alloc (.cells #[ah 4,aI t,ah 0,ah 0,aX v] 111))
 case atStart=>exact⟨0,0,by omega,by omega,rfl,by omega,HR.o,rfl⟩
 case round=>
  obtain⟨i,v,hi,hg,rfl,hv,heq,rfl⟩:=hrel;have HE:=ai heq;clear heq;have hv64:v≤18446744073709551615:=by have:=Nat.pow_le_pow_right (show 0<16 by omega) hi;omega
  by_cases hlt16:i<16
  ·(have Ny:v<1152921504606846976:=by have:=Nat.pow_le_pow_right (show 0<16 by omega) (show i≤15 by omega);omega);have hgd:=iq t (2+i) om;have hdr:=sD t.data.toList (2+i) (by rw[←Lib.size_eq];omega);rw[←hgd]at hdr;have HD:=ai hdr;clear hdr hgd;cases hx:wQ t[2+i]with
   |none=>have HX:=ai hx;clear hx;go_wp2_with (go_at_call 157;refine(Um _ _ HX.o).mono ?_;rintro e w' ⟨rfl,rfl⟩);(have hr0:r=none:=by rw[←HE.o,HD.o,jY,HX.o]);subst hr0;refine bodyPost_ret (v:=.tuple #[.agg #[ah 0,dG,ah 0,ah 0,aX 0],ah 1]) (by simp[results,Tryz.results141,go_sem,d0,d1,d2,d3,d4,hlt1]) rfl ⟨rfl,?_⟩;exact(hst.kE.five (Nat.le_refl _)).alloc _
   |some x=>
    have hx16:=Un hx;have HX:=ai hx;clear hx;go_wp2_with (go_at_call 157;refine(Yn _ _ _ HX.o).mono ?_;rintro e w' ⟨rfl,rfl⟩);rw[Yo v x Ny hx16];go_roundg (gk-1);case rel=>
     refine⟨i+1,v*16+x,by omega,by omega,by go_num,?_,?_,rfl⟩
     ·rw[Nat.pow_succ];omega
     ·rw[←HE.o,HD.o,jY,HX.o];rfl
    case measure=>omega
  ·(have hi16:i=16:=by omega);(have hr0:r=some v:=by rw[←HE.o,hi16,List.drop_of_length_le (by rw[←Lib.size_eq];omega)];rfl);have HR0:=ai hr0;clear hr0 hi16;go_wp2;rw[HR0.o];refine bodyPost_ret (v:=.tuple #[.agg #[ah 4,aI t,ah 0,ah 0,aX v],ah 0]) (by simp[results,Tryz.results141,go_sem,d0,d1,d2,d3,d4,hlt1]) rfl ⟨⟨by rw[HT.o];rfl,?_⟩,?_⟩
   ·exact(hc.five om).alloc _
   ·exact(hst.kE.five (Nat.le_refl _)).alloc _
def PV:Except Nat Nat→Except Nat (Nat×Nat)
 | .ok v=>.ok (3,v)
 | .error c=>.error c
def BR (c0:UInt8) (i v:Nat):Prop:=i=0∧v=0∨(c0=48∧i=1∧v=0)∨(c0≠48∧1≤i∧10^(i-1)≤v)
theorem BR.big {c0:UInt8} {i v:Nat} (h:BR c0 i v) (h1:¬(i=1∧c0=48)) (_hv:v≤9223372036854775807) (h19:19≤i):1000000000000000000≤v:=by
 rcases h with⟨h,_⟩|⟨ha,hb,_⟩|⟨_,_,hc⟩
 ·omega
 ·exact absurd ⟨hb,ha⟩ h1
 ·have:=Nat.pow_le_pow_right (show 0<10 by omega) (show 18≤i-1 by omega);have e:(10:Nat)^18=1000000000000000000:=by decide
  omega
theorem BR.next {c0 c:UInt8} {i v:Nat} (h:BR c0 i v) (h1:¬(i=1∧c0=48)) (hd:48≤c.toNat) (h0:i=0→c=c0):BR c0 (i+1) (v*10+(c.toNat-48)):=by
 rcases h with⟨hi,hv⟩|⟨ha,hb,_⟩|⟨ha,hb,hc⟩
 ·subst hi;subst hv;have:=h0 rfl;subst this;by_cases e:c=48
  ·subst e;exact .inr (.inl ⟨rfl,rfl,rfl⟩)
  ·refine .inr (.inr ⟨e,by omega,?_⟩);have:c.toNat≠48:=fun x=>e (UInt8.toNat_inj.1 x);simp;omega
 ·exact absurd ⟨hb,ha⟩ h1
 ·refine .inr (.inr ⟨ha,by omega,?_⟩);have:10^(i+1-1)=10^(i-1)*10:=by rw[←Nat.pow_succ];congr 1;omega
  omega
theorem ug (b:Nat) (s:ByteArray) (p l f N:Nat) (w:World) (h:Cut w b s p l f) (hp:p<s.size) (hs:s.size≤100000) (hN:gU (s.data.toList.drop p)=N) (h18:N≠18∨(N=18∧((s.data.toList.drop p).take N).take 2≠[48,102])) (r:Except Nat Nat) (hr:jG (((s.data.toList.drop p).take N).headD 0) ((s.data.toList.drop p).take N) 0 0=r):Calls Tryz.prog 141 #[.pointer (some ⟨b,0,none⟩)] w (nZ N b s p l f w (PV r)):=by
 have hlt:b<w.heap.size:=aP h.out;have hrl:p+N≤s.size:=by have:=iF (s.data.toList.drop p);simp at this;omega
 have HN:=ai hN;clear hN;go_enter Tryz.func141,Tryz.ntmps141;go_wp2_with fail;refine(run_any _ b s p l f _ yF (h.alloc _) om hs).mono ?_;rintro e w1 ⟨rfl,hc,hst⟩;rw[HN.o]at hc⊢;have hsz:=extract_size s p N hrl;have hL:=iG s p N;rw[←hL]at hr h18;generalize ht:s.extract p (p+N)=t at*;have hnb:=hst.keep (aC _ _) om;obtain⟨⟨d0,d1,d2,d3,d4⟩,e0,e1,e2,e3,e4⟩:=uV hnb;have hlt1:w.heap.size<w1.heap.size:=aP hnb;have HT:=ai ht;have HR:=ai hr;clear ht hL hr;have h9:((N:Int)==18)=false∨(((N:Int)==18)=true∧2≤N∧((t.extract 0 2).toList==[48,102])=false):=by
  rcases h18 with h|⟨h,hno⟩
  ·exact .inl (by rw[beq_eq_false_iff_ne];omega)
  ·exact .inr ⟨by rw[beq_iff_eq];omega,by omega,by rw[beq_eq_false_iff_ne,Lib.toList_data,Lib.extract_data];exact hno⟩
 clear h18;rcases h9 with hs18|⟨hs18,h2N,hfm⟩
 all_goals (
  go_wp2_with fail
  go_loopg [48] N (fun g s48 wr=>∃(i v:Nat),i≤N∧i≤19∧N-i≤g∧s48=.int .i64 i∧v≤9223372036854775807∧BR (t.data.toList.headD 0) i v∧jG (t.data.toList.headD 0) (t.data.toList.drop i) i v=r∧
   wr=w1.alloc (.cells #[ah 3,aI t,ah 0,ah 0,aX v] 111))
  case atStart=>exact⟨0,0,by omega,by omega,by omega,rfl,by omega,.inl ⟨rfl,rfl⟩,HR.o,rfl⟩
  case round=>
   obtain⟨i,v,hi,hi19,hg,rfl,hv,hat,heq,rfl⟩:=hrel
   have HE:=ai heq
   have HA:=ai hat
   clear heq hat
   by_cases BU:i<N
   ·
    have hgd:=iq t i om
    have hdr:=sD t.data.toList i (by rw[←Lib.size_eq];omega)
    rw[←hgd]at hdr
    have cO:((t[i].toNat:Int))≤255:=by have:=t[i].toNat_lt;omega
    have hlt0:0<t.size:=by omega
    have h00:t[0]=t.data.toList.headD 0:=by rw[iq t 0 hlt0];cases t.data.toList<;>rfl
    rw[←h00]at HA HE
    have W9:=ai h00
    clear h00
    have HD:=ai hdr
    clear hdr hgd
    have hq:=kD (t[i].toNat:Int)
    cases hd:isDigit (t[i].toNat:Int)
    ·
     rw[hd]at hq
     have HQ:=ai hq
     have HX:=ai hd
     clear hq hd
     go_wp2_with (go_at_call 140;refine(HQ.o _ om cO).mono ?_;rintro e w' ⟨rfl,rfl⟩)
     have hr0:r=.error 1:=by rw[←HE.o,HD.o,jG,if_pos (.inl HX.o)]
     subst hr0
     refine bodyPost_ret (v:=.tuple #[.agg #[ah 0,dG,ah 0,ah 0,aX 0],ah 1]) (by simp[results,Tryz.results141,go_sem,d0,d1,d2,d3,d4,hlt1]) rfl ⟨rfl,?_⟩
     exact(hst.kE.five (Nat.le_refl _)).alloc _
    ·
     rw[hd]at hq
     have HQ:=ai hq
     have h48:(48:Int)≤t[i].toNat∧(t[i].toNat:Int)≤57:=by simpa[isDigit]using hd
     obtain⟨h48,h57⟩:=h48
     have HX:=ai hd
     clear hq hd
     by_cases hi1:i=1∧t[0]=48
     ·
      have hb1:((i:Int)==1)=true:=by rw[hi1.1];rfl
      have hb2:((t[0].toNat:Int)==48)=true:=by rw[hi1.2];rfl
      have H1:=ai hi1
      clear hi1
      go_wp2_with (go_at_call 140;refine(HQ.o _ om cO).mono ?_;rintro e w' ⟨rfl,rfl⟩)
      have hr0:r=.error 1:=by rw[←HE.o,HD.o,jG,if_pos (.inr H1.o)]
      subst hr0
      refine bodyPost_ret (v:=.tuple #[.agg #[ah 0,dG,ah 0,ah 0,aX 0],ah 1]) (by simp[results,Tryz.results141,go_sem,d0,d1,d2,d3,d4,hlt1]) rfl ⟨rfl,?_⟩
      exact(hst.kE.five (Nat.le_refl _)).alloc _
     ·
      have hor:(((i:Int)==1)=true∧((t[0].toNat:Int)==48)=false)∨(((i:Int)==1)=false):=by
        by_cases e1:i=1
        ·
         exact .inl ⟨by rw[e1];rfl,by rw[beq_eq_false_iff_ne];exact fun e=>hi1 ⟨e1,gy 48 e⟩⟩
        ·
         exact .inr (by rw[beq_eq_false_iff_ne];omega)
      have H1:=ai hi1
      clear hi1
      by_cases h19:19≤i
      ·
       have HR2:Hid (r=.error 2):=by
         show r=.error 2
         rw[←HE.o,HD.o,jG,if_neg (fun e=>e.elim (by rw[HX.o];simp) H1.o),if_pos]
         have:=HA.o.big H1.o om h19
         omega
       have hb1:((i:Int)==1)=false:=by rw[beq_eq_false_iff_ne];omega
       have hge:decide (19≤(i:Int))=true:=by rw[decide_eq_true_eq];omega
       clear hor
       ·
        go_wp2_with (go_at_call 140;refine(HQ.o _ om cO).mono ?_;rintro e w' ⟨rfl,rfl⟩)
        rw[HR2.o]
        refine bodyPost_ret (v:=.tuple #[.agg #[ah 0,dG,ah 0,ah 0,aX 0],ah 2]) (by simp[results,Tryz.results141,go_sem,d0,d1,d2,d3,d4,hlt1]) rfl ⟨rfl,?_⟩
        exact(hst.kE.five (Nat.le_refl _)).alloc _
      ·
       have hge:decide (19≤(i:Int))=false:=by rw[decide_eq_false_iff_not];omega
       by_cases hbig:(v:Int)≤(9223372036854775807-((t[i].toNat:Int)-48))/10
       ·
        have qw:Hid (jG t[0] (t.data.toList.drop (i+1)) (i+1) (v*10+(t[i].toNat-48))=r∧BR t[0] (i+1) (v*10+(t[i].toNat-48))∧v*10+(t[i].toNat-48)≤9223372036854775807∧((v:Int)*10+((t[i].toNat:Int)-48)=((v*10+(t[i].toNat-48):Nat):Int))):=by
          refine⟨?_,?_,by omega,by omega⟩
          ·
           rw[←HE.o,HD.o,jG,if_neg (fun e=>e.elim (by rw[HX.o];simp) H1.o),if_neg om]
          ·
           refine HA.o.next (c:=t[i]) H1.o om ?_
           intro e0
           subst e0
           rfl
        have hgt:decide ((9223372036854775807-((t[i].toNat:Int)-48))/10<(v:Int))=false:=by rw[decide_eq_false_iff_not];omega
        rcases hor with⟨hb1,hb2⟩|hb1
        all_goals
         go_wp2_with (go_at_call 140;refine(HQ.o _ om cO).mono ?_;rintro e w' ⟨rfl,rfl⟩)
         obtain⟨hn1,hn2,hn3,hn4⟩:=qw.o
         rw[hn4]
         go_roundg (gk-1)
         case rel=>
          exact⟨i+1,v*10+(t[i].toNat-48),by omega,by omega,by omega,by go_num,hn3,by rw[←W9.o];exact hn2,by rw[←W9.o];exact hn1,rfl⟩
         case measure=>omega
       ·
        have HR2:Hid (r=.error 2):=by
          show r=.error 2
          rw[←HE.o,HD.o,jG,if_neg (fun e=>e.elim (by rw[HX.o];simp) H1.o),if_pos om]
        have hgt:decide ((9223372036854775807-((t[i].toNat:Int)-48))/10<(v:Int))=true:=by rw[decide_eq_true_eq];omega
        rcases hor with⟨hb1,hb2⟩|hb1
        all_goals
         go_wp2_with (go_at_call 140;refine(HQ.o _ om cO).mono ?_;rintro e w' ⟨rfl,rfl⟩)
         rw[HR2.o]
         refine bodyPost_ret (v:=.tuple #[.agg #[ah 0,dG,ah 0,ah 0,aX 0],ah 2]) (by simp[results,Tryz.results141,go_sem,d0,d1,d2,d3,d4,hlt1]) rfl ⟨rfl,?_⟩
         exact(hst.kE.five (Nat.le_refl _)).alloc _
   ·
    have hr0:Hid (r=.ok v):=by
      show r=.ok v
      rw[←HE.o,List.drop_of_length_le (by rw[←Lib.size_eq];omega)];rfl
    go_wp2
    rw[hr0.out]
    refine bodyPost_ret (v:=.tuple #[.agg #[ah 3,aI t,ah 0,ah 0,aX v],ah 0]) (by simp[results,Tryz.results141,go_sem,d0,d1,d2,d3,d4,hlt1]) rfl ⟨⟨by rw[HT.o];rfl,?_⟩,?_⟩
    ·
     exact(hc.five om).alloc _
    ·
     exact(hst.kE.five (Nat.le_refl _)).alloc _)
theorem yI:Gives 141 nY (fun _=>True) where
 ok b s p l f w kind n val m h hp hs _ _ _ he:=by
  have hlen:((s.data.toList.drop p).take (gU (s.data.toList.drop p))).length=gU (s.data.toList.drop p):=by
   rw[List.length_take];have:=iF (s.data.toList.drop p);omega
  unfold nY vH at he
  rw[hlen]at he
  generalize hN:gU (s.data.toList.drop p)=N at*
  split at he
  ·
   rename_i hc
   obtain⟨rfl,h2⟩:=hc
   split at he
   ·
    rename_i v hv
    simp at he
    obtain⟨rfl,rfl,rfl⟩:=he
    refine(yH b s p l f w h hp hs hN h2 (some v) hv).mono fun e w' q=> ?_
    exact⟨q.1.1,q.1.2,q.2⟩
   ·
    simp at he
  ·
   rename_i hc
   split at he
   ·
    rename_i v hv
    simp at he
    obtain⟨rfl,rfl,rfl⟩:=he
    by_cases h18:N=18
    ·
     refine(ug b s p l f N w h hp hs hN (.inr ⟨h18,fun e=>hc ⟨h18,e⟩⟩) (.ok v) hv).mono fun e w' q=> ?_
     exact⟨q.1.1,q.1.2,q.2⟩
    ·
     refine(ug b s p l f N w h hp hs hN (.inl h18) (.ok v) hv).mono fun e w' q=> ?_
     exact⟨q.1.1,q.1.2,q.2⟩
   ·
    simp at he
 bad b s p l f w c m h hp hs _ _ _ he:=by
  have hlen:((s.data.toList.drop p).take (gU (s.data.toList.drop p))).length=gU (s.data.toList.drop p):=by
   rw[List.length_take];have:=iF (s.data.toList.drop p);omega
  unfold nY vH at he
  rw[hlen]at he
  generalize hN:gU (s.data.toList.drop p)=N at*
  split at he
  ·
   rename_i hc
   obtain⟨rfl,h2⟩:=hc
   split at he
   ·
    simp at he
   ·
    rename_i hv
    simp at he
    subst he
    exact(yH b s p l f w h hp hs hN h2 none hv).mono fun e w' q=>q
  ·
   rename_i hc
   split at he
   ·
    simp at he
   ·
    rename_i v hv
    simp at he
    subst he
    by_cases h18:N=18
    ·
     exact(ug b s p l f N w h hp hs hN (.inr ⟨h18,fun e=>hc ⟨h18,e⟩⟩) (.error _) hv).mono fun e w' q=>q
    ·
     exact(ug b s p l f N w h hp hs hN (.inl h18) (.error _) hv).mono fun e w' q=>q
theorem contains_cons (b:UInt8) (l sub:List UInt8):Lib.contains (b::l) sub=(sub.isPrefixOf (b::l)||Lib.contains l sub):=by
 unfold Lib.contains;rw[Lib.index];have:=Lib.index_ge l sub;cases h:sub.isPrefixOf (b::l)
 ·by_cases h1:Lib.index l sub= -1
  ·simp[h1]
  ·(have:(Lib.index l sub== -1)=false:=by rw[beq_eq_false_iff_ne];exact h1);simp[this];omega
 ·simp
theorem contains_nil (a:UInt8) (l:List UInt8):Lib.contains [] (a::l)=false:=rfl
def qI (a b:UInt8):Bool:=(a==45&&b==62)||(a==61&&b==61)||(a==38&&b==38)
def uN (a:UInt8):Bool:=[40,41,123,125,60,62,44,59,58,61,38,124,43,45,42,47,33,46].contains a
theorem yJ (a b:UInt8) (ha:a≠32) (hb:b≠32):Lib.contains [45,62,32,61,61,32,38,38,32] [a,b]=qI a b:=by
 have ha':(a==32)=false:=by rw[beq_eq_false_iff_ne];exact ha
 have hb':(b==32)=false:=by rw[beq_eq_false_iff_ne];exact hb
 simp only[contains_cons,contains_nil,List.isPrefixOf,ha',hb',qI,Bool.and_true,Bool.and_false,Bool.false_and,Bool.or_false,Bool.false_or,Bool.or_assoc]
theorem FH (a:UInt8):Lib.contains [40,41,123,125,60,62,44,59,58,61,38,124,43,45,42,47,33,46] [a]=uN a:=by simp only[contains_cons,contains_nil,List.isPrefixOf,uN,List.contains_cons,List.contains_nil,Bool.and_true]
def n_:List UInt8→Except Nat (Nat×Nat×Nat)
 |a::b::_=>if qI a b then .ok (5,2,0)else if uN a then .ok (5,1,0)else .error 1
 |[a]=>if uN a then .ok (5,1,0)else .error 1
 |[]=>.error 1
theorem fE {w:World} {a:Addr} {v:Value} {n:Nat} (h:w.cell? a=some v):(w.drewN n).cell? a=some v:=h
theorem two_any (u:ByteArray) (v:Bool) (m:Int) (w:World) (hu:Lib.contains [45,62,32,61,61,32,38,38,32] u.data.toList=v) (hm:w.cell? ⟨0,0,none⟩=some (.int .i64 m)):Calls Tryz.prog 134 #[.string ⟨#[45,62,32,61,61,32,38,38,32]⟩,.string u] w fun e w'=>e=.returned (.bool v)∧w=w':=
 (Tryz.strings_Contains _ _ m _ dc hm).mono fun _ _ h=>⟨by rw[h.1];exact nV hu,h.2.symm⟩
theorem one_any (u:ByteArray) (v:Bool) (m:Int) (w:World) (hu:Lib.contains [40,41,123,125,60,62,44,59,58,61,38,124,43,45,42,47,33,46] u.data.toList=v) (hm:w.cell? ⟨0,0,none⟩=some (.int .i64 m)):Calls Tryz.prog 134 #[.string ⟨#[40,41,123,125,60,62,44,59,58,61,38,124,43,45,42,47,33,46]⟩,.string u] w fun e w'=>e=.returned (.bool v)∧w=w':=
 (Tryz.strings_Contains _ _ m _ dc hm).mono fun _ _ h=>⟨by rw[h.1];exact nV hu,h.2.symm⟩
theorem extract_extract (s:ByteArray) (p n:Nat) (_h:p+n≤s.size):(s.extract p s.size).extract 0 n=s.extract p (p+n):=by apply yG;rw[Lib.extract_data,pq,iG];rfl
theorem PW (b:Nat) (s:ByteArray) (p l f:Nat) (w:World) (m:Int) (h:Cut w b s p l f) (hp:p+1<s.size) (hs:s.size≤100000) (hm:w.cell? ⟨0,0,none⟩=some (.int .i64 m)) (c d:UInt8) (rest:List UInt8) (hd:s.data.toList.drop p=c::d::rest) (h2:qI c d=true):
  Calls Tryz.prog 142 #[.pointer (some ⟨b,0,none⟩)] w fun e w'=>
   e=.returned (.tuple #[.agg #[ah 5,aI (s.extract p (p+2)),ah 0,ah 0,aX 0],ah 0])∧Cut w' b s (p+2) l f∧Step (·=b) w w':=by
 obtain⟨c0,c1,c2,c3,f0,f1,f2,f3⟩:=h.cells
 have hlt:b<w.heap.size:=aP h.out
 have hts:(s.extract p s.size).size=s.size-p:=by rw[ByteArray.size_extract];omega
 have htl:=pq s p
 rw[hd]at htl
 have htx:=extract_extract s p 2 om
 generalize ht:s.extract p s.size=t at*
 have h0:0<t.size:=by omega
 have h1:1<t.size:=by omega
 have g0:t[0]=c:=by rw[iq t 0 h0,htl];rfl
 have g1:t[1]=d:=by rw[iq t 1 h1,htl];rfl
 have hcd:c≠32∧d≠32:=by
  unfold qI at h2
  constructor<;>(rintro rfl;revert h2;simp)
 have b0:((t[0].toNat:Int) !=32)=true:=by rw[bne_iff_ne,g0];exact fun e=>hcd.1 (gy 32 e)
 have b1:((t[1].toNat:Int) !=32)=true:=by rw[bne_iff_ne,g1];exact fun e=>hcd.2 (gy 32 e)
 have HC:Hid (Lib.contains [45,62,32,61,61,32,38,38,32] (t.extract 0 2).data.toList=true):=by
  show _=_
  rw[Lib.extract_data,htl]
  exact(yJ c d hcd.1 hcd.2).trans h2
 have HT:=ai ht
 have HX:=ai htx
 clear hd h2 htl g0 g1 hcd ht htx hts
 go_enter Tryz.func142,Tryz.ntmps142
 go_wp2
 go_quiet (fail)
 rw[HT.o]
 go_wp2_with (go_at_call 134;refine(two_any _ true m _ HC.o (fE (dV hm))).mono ?_;rintro e w' ⟨rfl,rfl⟩)
 rw[HX.o]
 refine bodyPost_ret (v:=.tuple #[.agg #[ah 5,aI (s.extract p (p+2)),ah 0,ah 0,aX 0],ah 0]) (by simp[results,Tryz.results142,go_sem]) rfl ⟨rfl,?_,?_⟩
 ·
  exact(((h.alloc _).drewN _).set1 (q:=p+2) om).five om
 ·
  exact((((Step.refl (·=b) w).alloc _).drewN _).setCell ⟨b,1,none⟩ _ iV).five (Nat.le_refl _)
inductive BV (c:UInt8) (r:List UInt8):Prop where
 |short:r=[]→BV c r
 |JO:r≠[]→c=32→BV c r
 |JP (d:UInt8) (r':List UInt8):r=d::r'→c≠32→d=32→BV c r
 |other (d:UInt8) (r':List UInt8):r=d::r'→c≠32→d≠32→qI c d=false→BV c r
theorem Ij (v:Bool) (b:Nat) (s:ByteArray) (p l f:Nat) (w:World) (m:Int) (h:Cut w b s p l f) (hp:p<s.size) (hs:s.size≤100000) (hm:w.cell? ⟨0,0,none⟩=some (.int .i64 m)) (c:UInt8) (r:List UInt8) (hd:s.data.toList.drop p=c::r) (h2:BV c r) (h1v:uN c=v):Calls Tryz.prog 142 #[.pointer (some ⟨b,0,none⟩)] w (nZ 1 b s p l f w (if v then .ok (5,0)else .error 1)):=by
 obtain⟨c0,c1,c2,c3,f0,f1,f2,f3⟩:=h.cells;have hlt:b<w.heap.size:=aP h.out;have hts:(s.extract p s.size).size=s.size-p:=by rw[ByteArray.size_extract];omega
 have htl:=pq s p;rw[hd]at htl;have htx:=extract_extract s p 1 om;generalize ht:s.extract p s.size=t at*;have h0:0<t.size:=by omega
 have g0:t[0]=c:=by rw[iq t 0 h0,htl];rfl
 have hsz:t.size=r.length+1:=by rw[Lib.size_eq,htl];rfl
 have HC:Hid (Lib.contains [40,41,123,125,60,62,44,59,58,61,38,124,43,45,42,47,33,46] (t.extract 0 1).data.toList=v):=by rw[Lib.extract_data,htl];exact(FH c).trans h1v
 have HT:=ai ht;have HX:=ai htx;have ht100:t.size≤100000:=by omega
 have Yp:Hid (t.data.toList=c::r):=htl;clear h1v ht htx hts hd htl;cases h2 with
 |short he=>
  have hn1:¬1<t.size:=by rw[hsz,he];simp
  clear hsz he g0;cases v
  ·show Calls _ _ _ _ (nZ 1 b s p l f w (.error 1));go_enter Tryz.func142,Tryz.ntmps142;go_wp2;go_quiet (fail);rw[HT.o];go_wp2_with (go_at_call 134;refine(one_any _ _ m _ HC.o (fE (dV hm))).mono ?_;rintro e w' ⟨rfl,rfl⟩);refine bodyPost_ret (v:=.tuple #[.agg #[ah 0,dG,ah 0,ah 0,aX 0],ah 1]) (by simp[results,Tryz.results142,go_sem]) rfl ⟨rfl,?_⟩;exact(((Step.refl (·=b) w).alloc _).drewN _).five (Nat.le_refl _)
  ·show Calls _ _ _ _ (nZ 1 b s p l f w (.ok (5,0)));go_enter Tryz.func142,Tryz.ntmps142;go_wp2;go_quiet (fail);rw[HT.o];go_wp2_with (go_at_call 134;refine(one_any _ _ m _ HC.o (fE (dV hm))).mono ?_;rintro e w' ⟨rfl,rfl⟩);rw[HX.o];refine bodyPost_ret (v:=.tuple #[.agg #[ah 5,aI (s.extract p (p+1)),ah 0,ah 0,aX 0],ah 0]) (by simp[results,Tryz.results142,go_sem]) rfl ⟨⟨rfl,?_⟩,?_⟩
   ·exact(((h.alloc _).drewN _).set1 (q:=p+1) om).five om
   ·exact((((Step.refl (·=b) w).alloc _).drewN _).setCell ⟨b,1,none⟩ _ iV).five (Nat.le_refl _)
 |JO hne hc=>
  have hl1:1<t.size:=by
   rw[hsz];cases r with
   |nil=>exact absurd rfl hne
   |cons _ _=>simp
  have b0:((t[0].toNat:Int) !=32)=false:=by rw[g0,hc];rfl
  clear hsz g0 hc;cases v
  ·show Calls _ _ _ _ (nZ 1 b s p l f w (.error 1));go_enter Tryz.func142,Tryz.ntmps142;go_wp2;go_quiet (fail);rw[HT.o];go_wp2_with (go_at_call 134;refine(one_any _ _ m _ HC.o (fE (dV hm))).mono ?_;rintro e w' ⟨rfl,rfl⟩);refine bodyPost_ret (v:=.tuple #[.agg #[ah 0,dG,ah 0,ah 0,aX 0],ah 1]) (by simp[results,Tryz.results142,go_sem]) rfl ⟨rfl,?_⟩;exact(((Step.refl (·=b) w).alloc _).drewN _).five (Nat.le_refl _)
  ·show Calls _ _ _ _ (nZ 1 b s p l f w (.ok (5,0)));go_enter Tryz.func142,Tryz.ntmps142;go_wp2;go_quiet (fail);rw[HT.o];go_wp2_with (go_at_call 134;refine(one_any _ _ m _ HC.o (fE (dV hm))).mono ?_;rintro e w' ⟨rfl,rfl⟩);rw[HX.o];refine bodyPost_ret (v:=.tuple #[.agg #[ah 5,aI (s.extract p (p+1)),ah 0,ah 0,aX 0],ah 0]) (by simp[results,Tryz.results142,go_sem]) rfl ⟨⟨rfl,?_⟩,?_⟩
   ·exact(((h.alloc _).drewN _).set1 (q:=p+1) om).five om
   ·exact((((Step.refl (·=b) w).alloc _).drewN _).setCell ⟨b,1,none⟩ _ iV).five (Nat.le_refl _)
 |JP d r' hr hc hd=>
  have hl1:1<t.size:=by rw[hsz,hr];simp
  have g1:t[1]=d:=by rw[iq t 1 hl1,Yp.out,hr];rfl
  have b0:((t[0].toNat:Int) !=32)=true:=by rw[bne_iff_ne,g0];exact fun e=>hc (gy 32 e)
  have b1:((t[1].toNat:Int) !=32)=false:=by rw[g1,hd];rfl
  clear hsz g0 g1 hd hr;cases v
  ·show Calls _ _ _ _ (nZ 1 b s p l f w (.error 1));go_enter Tryz.func142,Tryz.ntmps142;go_wp2;go_quiet (fail);rw[HT.o];go_wp2_with (go_at_call 134;refine(one_any _ _ m _ HC.o (fE (dV hm))).mono ?_;rintro e w' ⟨rfl,rfl⟩);refine bodyPost_ret (v:=.tuple #[.agg #[ah 0,dG,ah 0,ah 0,aX 0],ah 1]) (by simp[results,Tryz.results142,go_sem]) rfl ⟨rfl,?_⟩;exact(((Step.refl (·=b) w).alloc _).drewN _).five (Nat.le_refl _)
  ·show Calls _ _ _ _ (nZ 1 b s p l f w (.ok (5,0)));go_enter Tryz.func142,Tryz.ntmps142;go_wp2;go_quiet (fail);rw[HT.o];go_wp2_with (go_at_call 134;refine(one_any _ _ m _ HC.o (fE (dV hm))).mono ?_;rintro e w' ⟨rfl,rfl⟩);rw[HX.o];refine bodyPost_ret (v:=.tuple #[.agg #[ah 5,aI (s.extract p (p+1)),ah 0,ah 0,aX 0],ah 0]) (by simp[results,Tryz.results142,go_sem]) rfl ⟨⟨rfl,?_⟩,?_⟩
   ·exact(((h.alloc _).drewN _).set1 (q:=p+1) om).five om
   ·exact((((Step.refl (·=b) w).alloc _).drewN _).setCell ⟨b,1,none⟩ _ iV).five (Nat.le_refl _)
 |other d r' hr hc hd ho=>
  have hl1:1<t.size:=by rw[hsz,hr];simp
  have g1:t[1]=d:=by rw[iq t 1 hl1,Yp.out,hr];rfl
  have b0:((t[0].toNat:Int) !=32)=true:=by rw[bne_iff_ne,g0];exact fun e=>hc (gy 32 e)
  have b1:((t[1].toNat:Int) !=32)=true:=by rw[bne_iff_ne,g1];exact fun e=>hd (gy 32 e)
  have HD:Hid (Lib.contains [45,62,32,61,61,32,38,38,32] (t.extract 0 2).data.toList=false):=by rw[Lib.extract_data,Yp.out,hr];exact(yJ c d hc hd).trans ho
  clear hsz g0 g1 hr ho;cases v
  ·show Calls _ _ _ _ (nZ 1 b s p l f w (.error 1));go_enter Tryz.func142,Tryz.ntmps142;go_wp2;go_quiet (fail);rw[HT.o];go_wp2_with fail;refine(two_any _ _ m _ HD.o (fE (dV hm))).mono ?_;rintro e w' ⟨rfl,rfl⟩;go_wp2_with fail;refine(one_any _ _ m _ HC.o (fE (dV hm))).mono ?_;rintro e w' ⟨rfl,rfl⟩;go_wp2;refine bodyPost_ret (v:=.tuple #[.agg #[ah 0,dG,ah 0,ah 0,aX 0],ah 1]) (by simp[results,Tryz.results142,go_sem]) rfl ⟨rfl,?_⟩;exact(((Step.refl (·=b) w).alloc _).drewN _).five (Nat.le_refl _)
  ·show Calls _ _ _ _ (nZ 1 b s p l f w (.ok (5,0)));go_enter Tryz.func142,Tryz.ntmps142;go_wp2;go_quiet (fail);rw[HT.o];go_wp2_with fail;refine(two_any _ _ m _ HD.o (fE (dV hm))).mono ?_;rintro e w' ⟨rfl,rfl⟩;go_wp2_with fail;refine(one_any _ _ m _ HC.o (fE (dV hm))).mono ?_;rintro e w' ⟨rfl,rfl⟩;go_wp2;rw[HX.o];refine bodyPost_ret (v:=.tuple #[.agg #[ah 5,aI (s.extract p (p+1)),ah 0,ah 0,aX 0],ah 0]) (by simp[results,Tryz.results142,go_sem]) rfl ⟨⟨rfl,?_⟩,?_⟩
   ·exact(((h.alloc _).drewN _).set1 (q:=p+1) om).five om
   ·exact((((Step.refl (·=b) w).alloc _).drewN _).setCell ⟨b,1,none⟩ _ iV).five (Nat.le_refl _)
theorem BX:Gives 142 n_ (fun _=>True) where
 ok b s p l f w kind n val m h hp hs hm _ _ he:=by
  cases hd:s.data.toList.drop p with
  |nil=>rw[hd,n_]at he;simp at he
  |cons c r=>
   rw[hd]at he
   by_cases h2:∃d r',r=d::r'∧qI c d=true
   ·
    obtain⟨d,r',rfl,h2⟩:=h2
    rw[n_,if_pos h2]at he
    simp at he
    obtain⟨rfl,rfl,rfl⟩:=he
    have hp1:p+1<s.size:=by
     have:=congrArg List.length hd
     simp at this;omega
    exact PW b s p l f w m h hp1 hs hm c d r' hd h2
   ·
    have hno:BV c r∧(n_ (c::r)=if uN c then .ok (5,1,0)else .error 1):=by
      cases r with
      |nil=>exact⟨.short rfl,rfl⟩
      |cons d r'=>
       have h3:qI c d=false:=by
        cases e:qI c d
        ·
         rfl
        ·
         exact absurd ⟨d,r',rfl,e⟩ h2
       refine⟨?_,by rw[n_,h3];rfl⟩
       by_cases hc:c=32
       ·
        exact .JO (by simp) hc
       ·
        by_cases hd':d=32
        ·
         exact .JP d r' rfl hc hd'
        ·
         exact .other d r' rfl hc hd' h3
    rw[hno.2]at he
    cases h1:uN c
    ·
     rw[h1]at he;simp at he
    ·
     rw[h1]at he
     simp at he
     obtain⟨rfl,rfl,rfl⟩:=he
     exact(Ij true b s p l f w m h hp hs hm c r hd hno.1 h1).mono fun e w' q=>⟨q.1.1,q.1.2,q.2⟩
 bad b s p l f w e0 m h hp hs hm _ _ he:=by
  cases hd:s.data.toList.drop p with
  |nil=>
   have:=congrArg List.length hd
   simp at this;omega
  |cons c r=>
   rw[hd]at he
   by_cases h2:∃d r',r=d::r'∧qI c d=true
   ·
    obtain⟨d,r',rfl,h2⟩:=h2
    rw[n_,if_pos h2]at he
    simp at he
   ·
    have hno:BV c r∧(n_ (c::r)=if uN c then .ok (5,1,0)else .error 1):=by
      cases r with
      |nil=>exact⟨.short rfl,rfl⟩
      |cons d r'=>
       have h3:qI c d=false:=by
        cases e:qI c d
        ·
         rfl
        ·
         exact absurd ⟨d,r',rfl,e⟩ h2
       refine⟨?_,by rw[n_,h3];rfl⟩
       by_cases hc:c=32
       ·
        exact .JO (by simp) hc
       ·
        by_cases hd':d=32
        ·
         exact .JP d r' rfl hc hd'
        ·
         exact .other d r' rfl hc hd' h3
    rw[hno.2]at he
    cases h1:uN c
    ·
     rw[h1]at he
     simp at he
     subst he
     exact(Ij false b s p l f w m h hp hs hm c r hd hno.1 h1).mono fun e w' q=>q
    ·
     rw[h1]at he;simp at he
def jO:List UInt8→Except Nat (Nat×Nat×Nat)
 |[]=>.error 1
 |c::r=>if dW c.toNat then xh (c::r)else if c=39 then xk (c::r)else if isDigit c.toNat then nY (c::r)else n_ (c::r)
theorem FI (b:Nat) (s:ByteArray) (p l f:Nat) (w:World) (kind n val:Nat) (m:Int) (h:Cut w b s p l f) (hp:p<s.size) (hs:s.size≤100000) (hm:w.cell? ⟨0,0,none⟩=some (.int .i64 m)) (hb0:b≠0) (hL:dW (s[p].toNat:Int)=true) (he:xh (s.data.toList.drop p)=.ok (kind,n,val)):Calls Tryz.prog 122 #[.pointer (some ⟨b,0,none⟩)] w fun e w'=>e=.returned (.tuple #[.agg #[ah kind,aI (s.extract p (p+n)),ah 0,ah 0,aX val],ah 0])∧Cut w' b s (p+n) l f∧Step (·=b) w w':=by
 obtain⟨c0,c1,c2,c3,f0,f1,f2,f3⟩:=h.cells;have hlt:b<w.heap.size:=aP h.out;have cO:((s[p].toNat:Int))≤255:=by have:=s[p].toNat_lt;omega
 have hq:=jE (s[p].toNat:Int);rw[hL]at hq;have HQ:=ai hq;have HE:=ai he;clear hq hL he;go_enter Tryz.func122,Tryz.ntmps122;go_wp2;go_quiet (fail);go_wp2_with ((go_at_call 137;refine(HQ.o _ om cO).mono ?_;rintro e w' ⟨rfl,rfl⟩));refine((BO.ok b s p l f _ kind n val m ((h.alloc _).drewN _) hp hs (fE (dV hm)) hb0 trivial HE.o)).mono ?_;rintro e w1 ⟨rfl,hc1,hst⟩;have hnb:=hst.keep (nI (aC w _)) om;obtain⟨⟨d0,d1,d2,d3,d4⟩,e0,e1,e2,e3,e4⟩:=uV hnb;have hst':Step (·=b) w w1:=(((Step.refl _ w).alloc _).drewN _).trans hst;clear hnb hst;go_wp2;refine bodyPost_ret (v:=.tuple #[.agg #[ah kind,aI (s.extract p (p+n)),ah 0,ah 0,aX val],ah 0]) (by simp[results,Tryz.results122,go_sem,d0,d1,d2,d3,d4]) rfl ⟨rfl,?_,?_⟩
 ·exact hc1.five om
 ·exact hst'.five (Nat.le_refl _)
theorem Ea (b:Nat) (s:ByteArray) (p l f:Nat) (w:World) (c:Nat) (m:Int) (h:Cut w b s p l f) (hp:p<s.size) (hs:s.size≤100000) (hm:w.cell? ⟨0,0,none⟩=some (.int .i64 m)) (hb0:b≠0) (hL:dW (s[p].toNat:Int)=true) (he:xh (s.data.toList.drop p)=.error c):Calls Tryz.prog 122 #[.pointer (some ⟨b,0,none⟩)] w fun e w'=>e=.returned (.tuple #[.agg #[ah 0,dG,ah 0,ah 0,aX 0],ah c])∧Step (·=b) w w':=by
 obtain⟨c0,c1,c2,c3,f0,f1,f2,f3⟩:=h.cells;have hlt:b<w.heap.size:=aP h.out;have cO:((s[p].toNat:Int))≤255:=by have:=s[p].toNat_lt;omega
 have hq:=jE (s[p].toNat:Int);rw[hL]at hq;have HQ:=ai hq;have HE:=ai he;clear hq hL he;go_enter Tryz.func122,Tryz.ntmps122;go_wp2;go_quiet (fail);go_wp2_with ((go_at_call 137;refine(HQ.o _ om cO).mono ?_;rintro e w' ⟨rfl,rfl⟩));refine((BO.bad b s p l f _ c m ((h.alloc _).drewN _) hp hs (fE (dV hm)) hb0 trivial HE.o)).mono ?_;rintro e w1 ⟨rfl,hst⟩;have hnb:=hst.keep (nI (aC w _)) om;obtain⟨⟨d0,d1,d2,d3,d4⟩,e0,e1,e2,e3,e4⟩:=uV hnb;have hst':Step (·=b) w w1:=(((Step.refl _ w).alloc _).drewN _).trans hst;clear hnb hst;go_wp2;refine bodyPost_ret (v:=.tuple #[.agg #[ah 0,dG,ah 0,ah 0,aX 0],ah c]) (by simp[results,Tryz.results122,go_sem,d0,d1,d2,d3,d4]) rfl ⟨rfl,?_⟩;exact hst'.five (Nat.le_refl _)
theorem FK (b:Nat) (s:ByteArray) (p l f:Nat) (w:World) (kind n val:Nat) (m:Int) (h:Cut w b s p l f) (hp:p<s.size) (hs:s.size≤100000) (hm:w.cell? ⟨0,0,none⟩=some (.int .i64 m)) (hb0:b≠0) (hL:dW (s[p].toNat:Int)=false) (hc:s[p]=39) (he:xk (s.data.toList.drop p)=.ok (kind,n,val)):Calls Tryz.prog 122 #[.pointer (some ⟨b,0,none⟩)] w fun e w'=>e=.returned (.tuple #[.agg #[ah kind,aI (s.extract p (p+n)),ah 0,ah 0,aX val],ah 0])∧Cut w' b s (p+n) l f∧Step (·=b) w w':=by
 obtain⟨c0,c1,c2,c3,f0,f1,f2,f3⟩:=h.cells;have hlt:b<w.heap.size:=aP h.out;have cO:((s[p].toNat:Int))≤255:=by have:=s[p].toNat_lt;omega
 have hq:=jE (s[p].toNat:Int);rw[hL]at hq;have HQ:=ai hq;have HE:=ai he;clear hq hL he;have zN:((s[p].toNat:Int)==39)=true:=by rw[hc];rfl
 have hg:(s.data.toList.drop p).headD 0=39:=by rw[drop_cons s p hp];exact hc
 clear hc;go_enter Tryz.func122,Tryz.ntmps122;go_wp2;go_quiet (fail);go_wp2_with ((go_at_call 137;refine(HQ.o _ om cO).mono ?_;rintro e w' ⟨rfl,rfl⟩));refine((BQ.ok b s p l f _ kind n val m ((h.alloc _).drewN _) hp hs (fE (dV hm)) hb0 hg HE.o)).mono ?_;rintro e w1 ⟨rfl,hc1,hst⟩;have hnb:=hst.keep (nI (aC w _)) om;obtain⟨⟨d0,d1,d2,d3,d4⟩,e0,e1,e2,e3,e4⟩:=uV hnb;have hst':Step (·=b) w w1:=(((Step.refl _ w).alloc _).drewN _).trans hst;clear hnb hst;go_wp2;refine bodyPost_ret (v:=.tuple #[.agg #[ah kind,aI (s.extract p (p+n)),ah 0,ah 0,aX val],ah 0]) (by simp[results,Tryz.results122,go_sem,d0,d1,d2,d3,d4]) rfl ⟨rfl,?_,?_⟩
 ·exact hc1.five om
 ·exact hst'.five (Nat.le_refl _)
theorem Eb (b:Nat) (s:ByteArray) (p l f:Nat) (w:World) (c:Nat) (m:Int) (h:Cut w b s p l f) (hp:p<s.size) (hs:s.size≤100000) (hm:w.cell? ⟨0,0,none⟩=some (.int .i64 m)) (hb0:b≠0) (hL:dW (s[p].toNat:Int)=false) (hc:s[p]=39) (he:xk (s.data.toList.drop p)=.error c):Calls Tryz.prog 122 #[.pointer (some ⟨b,0,none⟩)] w fun e w'=>e=.returned (.tuple #[.agg #[ah 0,dG,ah 0,ah 0,aX 0],ah c])∧Step (·=b) w w':=by
 obtain⟨c0,c1,c2,c3,f0,f1,f2,f3⟩:=h.cells;have hlt:b<w.heap.size:=aP h.out;have cO:((s[p].toNat:Int))≤255:=by have:=s[p].toNat_lt;omega
 have hq:=jE (s[p].toNat:Int);rw[hL]at hq;have HQ:=ai hq;have HE:=ai he;clear hq hL he;have zN:((s[p].toNat:Int)==39)=true:=by rw[hc];rfl
 have hg:(s.data.toList.drop p).headD 0=39:=by rw[drop_cons s p hp];exact hc
 clear hc;go_enter Tryz.func122,Tryz.ntmps122;go_wp2;go_quiet (fail);go_wp2_with ((go_at_call 137;refine(HQ.o _ om cO).mono ?_;rintro e w' ⟨rfl,rfl⟩));refine((BQ.bad b s p l f _ c m ((h.alloc _).drewN _) hp hs (fE (dV hm)) hb0 hg HE.o)).mono ?_;rintro e w1 ⟨rfl,hst⟩;have hnb:=hst.keep (nI (aC w _)) om;obtain⟨⟨d0,d1,d2,d3,d4⟩,e0,e1,e2,e3,e4⟩:=uV hnb;have hst':Step (·=b) w w1:=(((Step.refl _ w).alloc _).drewN _).trans hst;clear hnb hst;go_wp2;refine bodyPost_ret (v:=.tuple #[.agg #[ah 0,dG,ah 0,ah 0,aX 0],ah c]) (by simp[results,Tryz.results122,go_sem,d0,d1,d2,d3,d4]) rfl ⟨rfl,?_⟩;exact hst'.five (Nat.le_refl _)
theorem BZ (b:Nat) (s:ByteArray) (p l f:Nat) (w:World) (kind n val:Nat) (m:Int) (h:Cut w b s p l f) (hp:p<s.size) (hs:s.size≤100000) (hm:w.cell? ⟨0,0,none⟩=some (.int .i64 m)) (hb0:b≠0) (hL:dW (s[p].toNat:Int)=false) (hc:s[p]≠39) (hD:isDigit (s[p].toNat:Int)=true) (he:nY (s.data.toList.drop p)=.ok (kind,n,val)):Calls Tryz.prog 122 #[.pointer (some ⟨b,0,none⟩)] w fun e w'=>e=.returned (.tuple #[.agg #[ah kind,aI (s.extract p (p+n)),ah 0,ah 0,aX val],ah 0])∧Cut w' b s (p+n) l f∧Step (·=b) w w':=by
 obtain⟨c0,c1,c2,c3,f0,f1,f2,f3⟩:=h.cells;have hlt:b<w.heap.size:=aP h.out;have cO:((s[p].toNat:Int))≤255:=by have:=s[p].toNat_lt;omega
 have hq:=jE (s[p].toNat:Int);rw[hL]at hq;have HQ:=ai hq;have HE:=ai he;clear hq hL he;have zN:((s[p].toNat:Int)==39)=false:=by rw[beq_eq_false_iff_ne];exact fun e=>hc (gy 39 e)
 clear hc;have hq2:=kD (s[p].toNat:Int);rw[hD]at hq2;have Ik:=ai hq2;clear hq2 hD;go_enter Tryz.func122,Tryz.ntmps122;go_wp2;go_quiet (fail);go_wp2_with (first|(go_at_call 137;refine(HQ.o _ om cO).mono ?_;rintro e w' ⟨rfl,rfl⟩)|(go_at_call 140;refine(Ik.o _ om cO).mono ?_;rintro e w' ⟨rfl,rfl⟩));refine((yI.ok b s p l f _ kind n val m ((h.alloc _).drewN _) hp hs (fE (dV hm)) hb0 trivial HE.o)).mono ?_;rintro e w1 ⟨rfl,hc1,hst⟩;have hnb:=hst.keep (nI (aC w _)) om;obtain⟨⟨d0,d1,d2,d3,d4⟩,e0,e1,e2,e3,e4⟩:=uV hnb;have hst':Step (·=b) w w1:=(((Step.refl _ w).alloc _).drewN _).trans hst;clear hnb hst;go_wp2;refine bodyPost_ret (v:=.tuple #[.agg #[ah kind,aI (s.extract p (p+n)),ah 0,ah 0,aX val],ah 0]) (by simp[results,Tryz.results122,go_sem,d0,d1,d2,d3,d4]) rfl ⟨rfl,?_,?_⟩
 ·exact hc1.five om
 ·exact hst'.five (Nat.le_refl _)
theorem AZ (b:Nat) (s:ByteArray) (p l f:Nat) (w:World) (c:Nat) (m:Int) (h:Cut w b s p l f) (hp:p<s.size) (hs:s.size≤100000) (hm:w.cell? ⟨0,0,none⟩=some (.int .i64 m)) (hb0:b≠0) (hL:dW (s[p].toNat:Int)=false) (hc:s[p]≠39) (hD:isDigit (s[p].toNat:Int)=true) (he:nY (s.data.toList.drop p)=.error c):Calls Tryz.prog 122 #[.pointer (some ⟨b,0,none⟩)] w fun e w'=>e=.returned (.tuple #[.agg #[ah 0,dG,ah 0,ah 0,aX 0],ah c])∧Step (·=b) w w':=by
 obtain⟨c0,c1,c2,c3,f0,f1,f2,f3⟩:=h.cells;have hlt:b<w.heap.size:=aP h.out;have cO:((s[p].toNat:Int))≤255:=by have:=s[p].toNat_lt;omega
 have hq:=jE (s[p].toNat:Int);rw[hL]at hq;have HQ:=ai hq;have HE:=ai he;clear hq hL he;have zN:((s[p].toNat:Int)==39)=false:=by rw[beq_eq_false_iff_ne];exact fun e=>hc (gy 39 e)
 clear hc;have hq2:=kD (s[p].toNat:Int);rw[hD]at hq2;have Ik:=ai hq2;clear hq2 hD;go_enter Tryz.func122,Tryz.ntmps122;go_wp2;go_quiet (fail);go_wp2_with (first|(go_at_call 137;refine(HQ.o _ om cO).mono ?_;rintro e w' ⟨rfl,rfl⟩)|(go_at_call 140;refine(Ik.o _ om cO).mono ?_;rintro e w' ⟨rfl,rfl⟩));refine((yI.bad b s p l f _ c m ((h.alloc _).drewN _) hp hs (fE (dV hm)) hb0 trivial HE.o)).mono ?_;rintro e w1 ⟨rfl,hst⟩;have hnb:=hst.keep (nI (aC w _)) om;obtain⟨⟨d0,d1,d2,d3,d4⟩,e0,e1,e2,e3,e4⟩:=uV hnb;have hst':Step (·=b) w w1:=(((Step.refl _ w).alloc _).drewN _).trans hst;clear hnb hst;go_wp2;refine bodyPost_ret (v:=.tuple #[.agg #[ah 0,dG,ah 0,ah 0,aX 0],ah c]) (by simp[results,Tryz.results122,go_sem,d0,d1,d2,d3,d4]) rfl ⟨rfl,?_⟩;exact hst'.five (Nat.le_refl _)
theorem FM (b:Nat) (s:ByteArray) (p l f:Nat) (w:World) (kind n val:Nat) (m:Int) (h:Cut w b s p l f) (hp:p<s.size) (hs:s.size≤100000) (hm:w.cell? ⟨0,0,none⟩=some (.int .i64 m)) (hb0:b≠0) (hL:dW (s[p].toNat:Int)=false) (hc:s[p]≠39) (hD:isDigit (s[p].toNat:Int)=false) (he:n_ (s.data.toList.drop p)=.ok (kind,n,val)):Calls Tryz.prog 122 #[.pointer (some ⟨b,0,none⟩)] w fun e w'=>e=.returned (.tuple #[.agg #[ah kind,aI (s.extract p (p+n)),ah 0,ah 0,aX val],ah 0])∧Cut w' b s (p+n) l f∧Step (·=b) w w':=by
 obtain⟨c0,c1,c2,c3,f0,f1,f2,f3⟩:=h.cells;have hlt:b<w.heap.size:=aP h.out;have cO:((s[p].toNat:Int))≤255:=by have:=s[p].toNat_lt;omega
 have hq:=jE (s[p].toNat:Int);rw[hL]at hq;have HQ:=ai hq;have HE:=ai he;clear hq hL he;have zN:((s[p].toNat:Int)==39)=false:=by rw[beq_eq_false_iff_ne];exact fun e=>hc (gy 39 e)
 clear hc;have hq2:=kD (s[p].toNat:Int);rw[hD]at hq2;have Ik:=ai hq2;clear hq2 hD;go_enter Tryz.func122,Tryz.ntmps122;go_wp2;go_quiet (fail);go_wp2_with (first|(go_at_call 137;refine(HQ.o _ om cO).mono ?_;rintro e w' ⟨rfl,rfl⟩)|(go_at_call 140;refine(Ik.o _ om cO).mono ?_;rintro e w' ⟨rfl,rfl⟩));refine((BX.ok b s p l f _ kind n val m ((h.alloc _).drewN _) hp hs (fE (dV hm)) hb0 trivial HE.o)).mono ?_;rintro e w1 ⟨rfl,hc1,hst⟩;have hnb:=hst.keep (nI (aC w _)) om;obtain⟨⟨d0,d1,d2,d3,d4⟩,e0,e1,e2,e3,e4⟩:=uV hnb;have hst':Step (·=b) w w1:=(((Step.refl _ w).alloc _).drewN _).trans hst;clear hnb hst;go_wp2;refine bodyPost_ret (v:=.tuple #[.agg #[ah kind,aI (s.extract p (p+n)),ah 0,ah 0,aX val],ah 0]) (by simp[results,Tryz.results122,go_sem,d0,d1,d2,d3,d4]) rfl ⟨rfl,?_,?_⟩
 ·exact hc1.five om
 ·exact hst'.five (Nat.le_refl _)
theorem Ec (b:Nat) (s:ByteArray) (p l f:Nat) (w:World) (c:Nat) (m:Int) (h:Cut w b s p l f) (hp:p<s.size) (hs:s.size≤100000) (hm:w.cell? ⟨0,0,none⟩=some (.int .i64 m)) (hb0:b≠0) (hL:dW (s[p].toNat:Int)=false) (hc:s[p]≠39) (hD:isDigit (s[p].toNat:Int)=false) (he:n_ (s.data.toList.drop p)=.error c):Calls Tryz.prog 122 #[.pointer (some ⟨b,0,none⟩)] w fun e w'=>e=.returned (.tuple #[.agg #[ah 0,dG,ah 0,ah 0,aX 0],ah c])∧Step (·=b) w w':=by
 obtain⟨c0,c1,c2,c3,f0,f1,f2,f3⟩:=h.cells;have hlt:b<w.heap.size:=aP h.out;have cO:((s[p].toNat:Int))≤255:=by have:=s[p].toNat_lt;omega
 have hq:=jE (s[p].toNat:Int);rw[hL]at hq;have HQ:=ai hq;have HE:=ai he;clear hq hL he;have zN:((s[p].toNat:Int)==39)=false:=by rw[beq_eq_false_iff_ne];exact fun e=>hc (gy 39 e)
 clear hc;have hq2:=kD (s[p].toNat:Int);rw[hD]at hq2;have Ik:=ai hq2;clear hq2 hD;go_enter Tryz.func122,Tryz.ntmps122;go_wp2;go_quiet (fail);go_wp2_with (first|(go_at_call 137;refine(HQ.o _ om cO).mono ?_;rintro e w' ⟨rfl,rfl⟩)|(go_at_call 140;refine(Ik.o _ om cO).mono ?_;rintro e w' ⟨rfl,rfl⟩));refine((BX.bad b s p l f _ c m ((h.alloc _).drewN _) hp hs (fE (dV hm)) hb0 trivial HE.o)).mono ?_;rintro e w1 ⟨rfl,hst⟩;have hnb:=hst.keep (nI (aC w _)) om;obtain⟨⟨d0,d1,d2,d3,d4⟩,e0,e1,e2,e3,e4⟩:=uV hnb;have hst':Step (·=b) w w1:=(((Step.refl _ w).alloc _).drewN _).trans hst;clear hnb hst;go_wp2;refine bodyPost_ret (v:=.tuple #[.agg #[ah 0,dG,ah 0,ah 0,aX 0],ah c]) (by simp[results,Tryz.results122,go_sem,d0,d1,d2,d3,d4]) rfl ⟨rfl,?_⟩;exact hst'.five (Nat.le_refl _)
theorem B_:Gives 122 jO (fun _=>True) where
 ok b s p l f w kind n val m h hp hs hm hb0 _ he:=by
  have hd:=drop_cons s p hp
  cases hL:dW (s[p].toNat:Int)
  ·
   by_cases hc:s[p]=39
   ·
    exact FK b s p l f w kind n val m h hp hs hm hb0 hL hc (by rw[hd]at he⊢;rw[jO,hL,if_neg (by simp),if_pos hc]at he;exact he)
   ·
    cases hD:isDigit (s[p].toNat:Int)
    ·
     exact FM b s p l f w kind n val m h hp hs hm hb0 hL hc hD (by rw[hd]at he⊢;simpa only[jO,hL,hc,hD,if_true,if_false,Bool.false_eq_true]using he)
    ·
     exact BZ b s p l f w kind n val m h hp hs hm hb0 hL hc hD (by rw[hd]at he⊢;simpa only[jO,hL,hc,hD,if_true,if_false,Bool.false_eq_true]using he)
  ·
   exact FI b s p l f w kind n val m h hp hs hm hb0 hL (by rw[hd]at he⊢;simpa only[jO,hL,if_true]using he)
 bad b s p l f w c m h hp hs hm hb0 _ he:=by
  have hd:=drop_cons s p hp
  cases hL:dW (s[p].toNat:Int)
  ·
   by_cases hc:s[p]=39
   ·
    exact Eb b s p l f w c m h hp hs hm hb0 hL hc (by rw[hd]at he⊢;rw[jO,hL,if_neg (by simp),if_pos hc]at he;exact he)
   ·
    cases hD:isDigit (s[p].toNat:Int)
    ·
     exact Ec b s p l f w c m h hp hs hm hb0 hL hc hD (by rw[hd]at he⊢;simpa only[jO,hL,hc,hD,if_true,if_false,Bool.false_eq_true]using he)
    ·
     exact AZ b s p l f w c m h hp hs hm hb0 hL hc hD (by rw[hd]at he⊢;simpa only[jO,hL,hc,hD,if_true,if_false,Bool.false_eq_true]using he)
  ·
   exact Ea b s p l f w c m h hp hs hm hb0 hL (by rw[hd]at he⊢;simpa only[jO,hL,if_true]using he)
structure Tok where
 kind:Nat
 text:List UInt8
 line:Nat
 col:Nat
 val:Nat
def Tok.cells (t:Tok):List Value:=[.int .i64 t.kind,.string ⟨t.text.toArray⟩,.int .i64 t.line,.int .i64 t.col,.int .u64 t.val]
def pF (l:List Tok):List Value:=l.flatMap Tok.cells
theorem uh (l:List Tok) (t:Tok):pF (l++[t])=pF l++t.cells:=by simp[pF]
def uj:Nat→List UInt8→Nat→Nat→Nat→List Tok→Except (Nat×Nat×Nat) (List Tok)
 |0,_,_,_,_,_=>.error (0,0,0)
 |k+1,r,p,l,f,acc=>
  let q:=dS false r p l f
  let r':=r.drop (q.1-p)
  let col:=q.1-q.2.2+1
  if r'=[]then .ok (acc++[⟨0,[],q.2.1,col,0⟩])
  else if acc.length=8000 then .error (2,q.2.1,col)
  else match jO r' with
   | .error c=>.error (c,q.2.1,col)
   | .ok (kind,n,val)=>uj k (r'.drop n) (q.1+n) q.2.1 q.2.2 (acc++[⟨kind,r'.take n,q.2.1,col,val⟩])
def nP (s:List UInt8):Except (Nat×Nat×Nat) (List Tok):=
 if 20000<s.length then .error (2,0,0)else uj (s.length+1) s 0 1 0 []
theorem xK:∀(r:List UInt8) (b:Bool) (p l f p' l' f':Nat),(p',l',f')=dS b r p l f→f≤p→p≤p'∧p'≤p+r.length∧f'≤p'∧l≤l'∧l'-l≤p'-p:=by
 intro r;induction r with
 |nil=>intro b p l f p' l' f' h hf;simp[dS]at h;obtain⟨rfl,rfl,rfl⟩:=h;simp;omega
 |cons c r ih=>
  intro b p l f p' l' f' h hf;have hl:(c::r).length=r.length+1:=rfl;cases b
  ·rw[dS]at h;split at h
   ·have:=ih _ _ _ _ _ _ _ h (Nat.le_refl _);omega
   ·split at h
    ·have:=ih _ _ _ _ _ _ _ h om;omega
    ·split at h
     ·have:=ih _ _ _ _ _ _ _ h om;omega
     ·simp at h;obtain⟨rfl,rfl,rfl⟩:=h;omega
  ·rw[dS]at h;split at h
   ·have:=ih _ _ _ _ _ _ _ h (Nat.le_refl _);omega
   ·have:=ih _ _ _ _ _ _ _ h om;omega
theorem Cb {c:UInt8} {r:List UInt8} (h:jJ c.toNat=true):1≤gU (c::r):=by rw[vG h];omega
theorem PY {c0:UInt8}:∀(l:List UInt8) (i v e:Nat),jG c0 l i v=.error e→e≠0:=by
 intro l;induction l with
 |nil=>intro i v e h;simp[jG]at h
 |cons c r ih=>
  intro i v e h;rw[jG]at h;split at h
  ·simp at h;omega
  ·split at h
   ·simp at h;omega
   ·exact ih _ _ _ h
theorem wL {r:List UInt8} {kind n val:Nat} (h:jO r=.ok (kind,n,val)):1≤n∧n≤r.length∧kind≠0:=by
 cases r with
 |nil=>simp[jO]at h
 |cons c r=>
  have hle:=iF (c::r);have hle':=iF r;rw[jO]at h;split at h
  ·rename_i hL;have:=Cb (r:=r) (show jJ c.toNat=true by simp[jJ,hL]);unfold xh at h;split at h
   ·simp at h
   ·simp at h;omega
  ·split at h
   ·rw[xk]at h;split at h
    ·simp at h
    ·split at h
     ·simp at h
     ·simp at h;simp;omega
   ·split at h
    ·rename_i hD;have:=Cb (r:=r) (show jJ c.toNat=true by simp[jJ,hD]);(have hl:((c::r).take (gU (c::r))).length=gU (c::r):=by rw[List.length_take];omega);unfold nY vH at h;rw[hl]at h;split at h
     ·split at h
      ·simp at h;omega
      ·simp at h
     ·split at h
      ·simp at h;omega
      ·simp at h
    ·cases r with
     |nil=>rw[n_]at h;split at h<;>simp at h;simp;omega
     |cons d r=>
      rw[n_]at h;split at h
      ·simp at h;simp;omega
      ·split at h
       ·simp at h;simp;omega
       ·simp at h
theorem wM {r:List UInt8} {e:Nat} (h:jO r=.error e):e≠0:=by
 cases r with
 |nil=>simp[jO]at h;omega
 |cons c r=>
  rw[jO]at h;split at h
  ·unfold xh at h;split at h
   ·simp at h;omega
   ·simp at h
  ·split at h
   ·rw[xk]at h;split at h
    ·simp at h;omega
    ·split at h
     ·simp at h;omega
     ·simp at h
   ·split at h
    ·unfold nY vH at h;split at h
     ·split at h
      ·simp at h
      ·simp at h;omega
     ·split at h
      ·simp at h
      ·rename_i hI;simp at h;subst h;exact PY _ _ _ _ hI
    ·cases r with
     |nil=>rw[n_]at h;split at h<;>simp at h;omega
     |cons d r=>
      rw[n_]at h;split at h
      ·simp at h
      ·split at h
       ·simp at h
       ·simp at h;omega
theorem Tryz.Uo:(Tryz.prog.info? 111).map (fun i=>(i.zero,i.size,i.bytes))=some (some (.agg #[ah 0,dG,ah 0,ah 0,aX 0]),5,48):=by kernel_rfl
def FN (B:Nat) (w:World) (r:Except (Nat×Nat×Nat) (List Tok)) (e:Ending) (w':World):Prop:=
 (match r with
  | .ok l=>∃v,e=.returned (.tuple #[v,.agg #[ah 0,ah 0,ah 0]])∧w'.ownsRow B 111 5 v l.length (pF l)
  | .error (c,ln,col)=>e=.returned (.tuple #[ak,.agg #[ah c,ah ln,ah col]]))∧jg w w'
theorem Cc {w:World} {base:Nat} {e:TypeId} {size:Nat} {v:Value} {n r:Nat} {xs:List Value} {v0 v1 v2:Value} (h:w.ownsRow base e size v n xs) (hr:r<base):(((w.setCell ⟨r,0,none⟩ v0).setCell ⟨r,1,none⟩ v1).setCell ⟨r,2,none⟩ v2).ownsRow base e size v n xs:=
 ownsRow_setCell_below (ownsRow_setCell_below (ownsRow_setCell_below h hr _) hr _) hr _
theorem Step.three {S:Nat→Prop} {a w:World} {r:Nat} {v0 v1 v2:Value} (h:Step S a w) (hr:a.heap.size≤r):Step S a (((w.setCell ⟨r,0,none⟩ v0).setCell ⟨r,1,none⟩ v1).setCell ⟨r,2,none⟩ v2):=by have hq:∀i,(⟨r,i,none⟩:Addr).block<a.heap.size→S r:=fun i h=>absurd h (Nat.not_lt.2 hr);exact((h.setCell _ _ (hq 0)).setCell _ _ (hq 1)).setCell _ _ (hq 2)
theorem EI (s:ByteArray) (p n:Nat):s.extract p (p+n)=⟨((s.data.toList.drop p).take n).toArray⟩:=yG (by rw[iG])
theorem Ur (s:ByteArray) (w:World) (m:Int) (hm:w.cell? ⟨0,0,none⟩=some (.int .i64 m)) (hs:s.size≤20000):Calls Tryz.prog 86 #[.string s] w (FN w.heap.size w (nP s.data.toList)):=by
 have hw0:0<w.heap.size:=World.block_lt_of_cell? w _ hm;have HR:Hid (uj (s.data.toList.length+1) s.data.toList 0 1 0 []=nP s.data.toList):=by show _=_;rw[nP,if_neg (by rw[←Lib.size_eq];omega)]
 generalize Yq:nP s.data.toList=dI at*;clear Yq;obtain⟨i0,hi0,PZ,P5,P6⟩:=info_parts Tryz.Uo;have hi:=ai hi0;have hz0:=ai PZ;have hz1:=ai P5;have hz2:=ai P6;clear hi0 PZ P5 P6;have hsl:Hid (s.data.toList.length=s.size):=(Lib.size_eq s).symm;go_enter Tryz.func86,Tryz.ntmps86;go_wp2_with fail;rw[hsl.out]at HR
 go_loopg [5] (s.size+1) (fun g v wr=>∃(p l f:Nat) (toks:List Tok),f≤p∧p≤s.size∧l≤p+1∧toks.length≤8000∧s.size-p<g∧uj g (s.data.toList.drop p) p l f toks=dI∧
  Cut wr (w.heap.size+1) s p l f∧wr.heap[w.heap.size]?=some (.cells #[ah 0,ah 0,ah 0] 27 (0,0))∧wr.ownsRow (w.heap.size+2) 111 5 v toks.length (pF toks)∧
  jg w wr∧w.heap.size+2≤wr.heap.size)
 case atStart=>
  refine⟨0,1,0,[],Nat.le_refl _,Nat.zero_le _,by omega,by simp,by omega,HR.o,⟨?_⟩,?_,World.ownsRow_nil _ _ _ _,((Step.refl _ w).alloc _).alloc _,by simp⟩
  ·have:=aC (w.alloc (.cells #[ah 0,ah 0,ah 0] 27)) (.cells #[aI s,ah 0,ah 1,ah 0] 180);simpa using this
  ·exact aT (aC w _)
 case round=>
  obtain⟨p,l,f,toks,hf,hp,hl,htk,hg,heq,hc,hE,hown,hst,hsz⟩:=hrel;obtain⟨k,rfl⟩:∃k,gk=k+1:=⟨gk-1,by omega⟩;obtain⟨oa,oc,rfl⟩:=b_ hown;have HE:=ai heq;have HOW:=ai hown;clear heq hown;go_wp2_with fail;refine(Nq (w.heap.size+1) s p l f wr hc hf hp om hl).mono ?_;rintro e w1 ⟨rfl,p',l',f',hbl,hc1,hst1⟩;have hinv:=xK _ _ _ _ _ _ _ _ hbl hf;rw[List.length_drop,hsl.out]at hinv;obtain⟨i1,i2,i3,i4,i5⟩:=hinv;have hp':p'≤s.size:=by omega
  have hl':l'≤p'+1:=by omega
  have HB:=ai hbl;clear hbl;go_wp2_with fail;refine(Ui (w.heap.size+1) s p' l' f' w1 hc1 i3 om).mono ?_;rintro e w2 ⟨rfl,hst2⟩;have hc2:=hc1.step hst2 (fun h=>h);obtain⟨c0,c1,c2,c3,f0,f1,f2,f3⟩:=hc2.cells;have hlt:w.heap.size+1<w2.heap.size:=aP hc2.out;have hltE:w.heap.size<w2.heap.size:=by omega
  have hst12:Step (·=w.heap.size+1) wr w2:=hst1.then hst2 fe;have vI:jg w w2:=⟨hst12.os.trans hst.os,hst12.tape.trans hst.tape,hst12.output.trans hst.output,Nat.le_trans hst.size hst12.size,fun i hi hn=>(hst12.block i om om).trans (hst.block i hi hn)⟩;have Yr:Hid (w2.ownsRow (w.heap.size+2) 111 5 (.slice oa toks.length oc) toks.length (pF toks)):=hst12.owns HOW.o (fun k hk=>by omega);obtain⟨⟨g0,g1,g2⟩,k0,k1,k2⟩:=qG (hst12.keep hE om);have Us:Hid (((p':Int)-f'+1)=((p'-f'+1:Nat):Int)):=show _=_ by omega
  have HA:Hid (uj (k+1) (s.data.toList.drop p) p l f toks=
    if s.data.toList.drop p'=[]then .ok (toks++[⟨0,[],l',p'-f'+1,0⟩])
    else if toks.length=8000 then .error (2,l',p'-f'+1)
    else match jO (s.data.toList.drop p')with
     | .error c=>.error (c,l',p'-f'+1)
     | .ok (kind,n,val)=>uj k ((s.data.toList.drop p').drop n) (p'+n) l' f' (toks++[⟨kind,(s.data.toList.drop p').take n,l',p'-f'+1,val⟩])):=by
   show _=_
   rw[uj]
   simp only[←HB.o,List.drop_drop]
   rw[show p+(p'-p)=p' by omega]
  by_cases hend:p'=s.size
  ·(have hr0:Hid (dI=.ok (toks++[⟨0,[],l',p'-f'+1,0⟩])):=by show _=_;rw[←HE.o,HA.o,if_pos (List.drop_of_length_le (by rw[hsl.out];omega))]);(have hb1:((p':Int)==s.size)=true:=by rw[beq_iff_eq];omega);clear hend;go_wp2_with (at_builtin;refine wpList_append_own _ rfl _ _ 145 rfl (w.heap.size+2) 111 i0 (.agg #[ah 0,dG,ah 0,ah 0,aX 0]) 5 48 Tryz.underlying145 hi.out hz0.out hz1.out hz2.out rfl dc _ _ _ rfl ((Yr.o.alloc _).alloc _) ⟨w2.heap.size+1,0,none⟩ 1 1 [.int .i64 0,.string ⟨#[]⟩,.int .i64 l',.int .i64 ((p':Int)-f'+1),.int .u64 0] rfl rfl ?c1 ?c2 ?c3 ?c4 ?c5 ?_);case c1=>exact oL (cs:=[_,_,_,_,_]) (qF _ _ _)
   (case c2=>intro u hu;simp at hu;rcases hu with rfl|rfl|rfl|rfl|rfl<;>rfl);case c3=>unfold maxLen;omega
   (case c4=>omega);case c5=>simp;omega
   intro v' w3 hown3 hgrow _;have hrow:=wI Yr.o;obtain⟨⟨g0',g1',g2'⟩,k0',k1',k2'⟩:=qG (tZ hgrow (aT (aT (hst12.keep hE om))) (fun k hk=>by have:=hrow k hk;omega));have hst3:jg w w3:=((vI.alloc _).alloc _).grown hgrow (fun k hk hlt=>by have:=hrow k hk;omega);have H3:=ai hown3;clear hown3 hgrow hrow;go_wp2;refine bodyPost_ret (v:=.tuple #[v',.agg #[ah 0,ah 0,ah 0]]) (by simp[results,Tryz.results86,go_sem,g0',g1',g2']) rfl ?_;rw[hr0.out];refine⟨⟨v',rfl,?_⟩,?_⟩
   ·have:=Cc (r:=w.heap.size) (v0:=.int .i64 0) (v1:=.int .i64 0) (v2:=.int .i64 0) H3.o om;rw[uh,List.length_append];rw[Us.o]at this;exact EC this om
   ·exact hst3.three (Nat.le_refl _)
  ·(have hb1:((p':Int)==s.size)=false:=by rw[beq_eq_false_iff_ne];omega);(have hp1:p'<s.size:=by omega);(have hne:Hid (s.data.toList.drop p'≠[]):=fun e=>by have:=congrArg List.length e;rw[List.length_drop,hsl.out]at this;simp at this;omega);by_cases h8:toks.length=8000
   ·(have hr0:Hid (dI=.error (2,l',p'-f'+1)):=by show _=_;rw[←HE.o,HA.o,if_neg hne.out,if_pos h8]);(have hb2:((toks.length:Int)==8000)=true:=by rw[h8];rfl);clear h8;obtain⟨⟨q0,q1⟩,r0,r1⟩:=Nj (a0:=.int .i64 l') (a1:=.int .i64 ((p':Int)-f'+1)) (aC w2 (.cells #[ah l',ah ((p':Int)-f'+1)] 25));go_wp2;go_region;go_wp2;refine bodyPost_ret (v:=.tuple #[ak,.agg #[ah 2,ah l',ah ((p':Int)-f'+1)]]) (by simp[results,Tryz.results86,go_sem,g0,g1,g2,hltE]) rfl ?_;rw[hr0.out];refine⟨by rw[Us.o];rfl,?_⟩;exact((vI.three (Nat.le_refl _)).alloc _).drew
   ·(have hb2:((toks.length:Int)==8000)=false:=by rw[beq_eq_false_iff_ne];omega);have hm2:w2.cell? ⟨0,0,none⟩=some (.int .i64 m):=vI.cell hm (fun h=>h);have hE2:=hst12.keep hE om;have hE2':Hid (w2.heap[w.heap.size]?=_):=hE2;clear hE2;cases hn:jO (s.data.toList.drop p')with
    |error c=>(have hr0:Hid (dI=.error (c,l',p'-f'+1)):=by show _=_;rw[←HE.o,HA.o,if_neg hne.out,if_neg h8,hn]);(have hc0:((c:Int) !=0)=true:=by rw[bne_iff_ne];have:=wM hn;omega);have HN:=ai hn;clear hn h8;go_wp2_with fail;refine(B_.bad _ s p' l' f' _ c m (hc2.alloc _) hp1 om (dV hm2) om trivial HN.o).mono ?_;rintro e w3 ⟨rfl,hst3⟩;obtain⟨⟨q0,q1⟩,r0,r1⟩:=Nj (hst3.keep (aC w2 _) om);obtain⟨⟨g0',g1',g2'⟩,k0',k1',k2'⟩:=qG (hst3.keep (aT hE2'.out) om);have hz3:=hst3.size;simp at hz3;(have hlt3:w2.heap.size<w3.heap.size:=by omega);(have Il:w.heap.size<w3.heap.size:=by omega);go_wp2;go_region;go_wp2;refine bodyPost_ret (v:=.tuple #[ak,.agg #[ah c,ah l',ah ((p':Int)-f'+1)]]) (by simp[results,Tryz.results86,go_sem,g0',g1',g2',Il]) rfl ?_;rw[hr0.out];refine⟨by rw[Us.o],?_⟩;have hw3:jg w w3:=⟨hst3.os.trans vI.os,hst3.tape.trans vI.tape,hst3.output.trans vI.output,by have:=vI.size;omega,fun i hi hn=>(hst3.block i (by simp;have:=vI.size;omega) om).trans ((Below.heap_alloc w2 _ i (by have:=vI.size;omega)).trans (vI.block i hi hn))⟩;exact((hw3.three (Nat.le_refl _)).alloc _).drew
    |ok x=>
     obtain⟨kind,n,val⟩:=x;(have hr0:Hid (uj k ((s.data.toList.drop p').drop n) (p'+n) l' f' (toks++[⟨kind,(s.data.toList.drop p').take n,l',p'-f'+1,val⟩])=dI):=by show _=_;rw[←HE.o,HA.o,if_neg hne.out,if_neg h8,hn]);obtain⟨hn1,hn2,_⟩:=wL hn;rw[List.length_drop,hsl.out]at hn2;have HN:=ai hn;clear hn;go_wp2_with fail;refine(B_.ok _ s p' l' f' _ kind n val m (hc2.alloc _) hp1 om (dV hm2) om trivial HN.o).mono ?_;rintro e w3 ⟨rfl,hc3,hst3⟩;obtain⟨⟨q0,q1⟩,r0,r1⟩:=Nj (hst3.keep (aC w2 _) om);have qf:Hid (w3.heap[w.heap.size]?=some (.cells #[ah 0,ah 0,ah 0] 27 (0,0))):=hst3.keep (aT hE2'.out) om;have hz3:=hst3.size;simp at hz3;(have hlt3:w2.heap.size<w3.heap.size:=by omega);(have Il:w.heap.size<w3.heap.size:=by omega);have P7:Hid (w3.ownsRow (w.heap.size+2) 111 5 (.slice oa toks.length oc) toks.length (pF toks)):=hst3.owns (Yr.o.alloc _) (fun k hk=>by omega);have hw3:jg w w3:=⟨hst3.os.trans vI.os,hst3.tape.trans vI.tape,hst3.output.trans vI.output,by have:=vI.size;omega,fun i hi hn=>(hst3.block i (by simp;have:=vI.size;omega) om).trans ((Below.heap_alloc w2 _ i (by have:=vI.size;omega)).trans (vI.block i hi hn))⟩;clear c0 c1 c2 c3 f0 f1 f2 f3 g0 g1 g2 k0 k1 k2;go_wp2_with (at_builtin;refine wpList_append_own _ rfl _ _ 145 rfl (w.heap.size+2) 111 i0 (.agg #[ah 0,dG,ah 0,ah 0,aX 0]) 5 48 Tryz.underlying145 hi.out hz0.out hz1.out hz2.out rfl dc _ _ _ rfl ((P7.o.alloc _).alloc _) ⟨w3.heap.size+1,0,none⟩ 1 1 [.int .i64 kind,.string (s.extract p' (p'+n)),.int .i64 l',.int .i64 ((p':Int)-f'+1),.int .u64 val] rfl rfl ?c1 ?c2 ?c3 ?c4 ?c5 ?_);case c1=>exact oL (cs:=[_,_,_,_,_]) (qF _ _ _)
     (case c2=>intro u hu;simp at hu;rcases hu with rfl|rfl|rfl|rfl|rfl<;>rfl);case c3=>unfold maxLen;omega
     (case c4=>omega);case c5=>simp;omega
     intro v' w4 hown4 hgrow _;have hrow:=wI P7.o;have H4:=ai hown4;have HG:=ai hgrow;have HRW:=ai hrow;clear hown4 hgrow hrow;go_wp2;go_roundg k;case rel=>
      have hn3:∀(o1 o2:Obj) (b:Nat) (o:Obj),b<w.heap.size+2→w3.heap[b]?=some o→w4.heap[b]?=some o:=fun o1 o2 b o hb h=>
       tZ HG.o (aT (aT h)) (fun k hk=>by have:=HRW.o k hk;omega)
      refine⟨p'+n,l',f',toks++[⟨kind,(s.data.toList.drop p').take n,l',p'-f'+1,val⟩],by omega,by omega,by omega,by simp;omega,by omega,?_,⟨hn3 default default _ _ om hc3.out⟩,hn3 default default _ _ om qf.o,?_,?_,?_⟩
      ·rw[←hr0.out,List.drop_drop]
      ·have:=H4.o;rw[uh,List.length_append];rw[Us.o,EI]at this;exact this
      ·exact((hw3.alloc _).alloc _).grown HG.o (fun k hk hlt=>by have:=HRW.o k hk;omega)
      ·have:=HG.o.size;simp at this;omega
     case measure=>omega
theorem P8 (s:ByteArray) (w:World) (hs:20000<s.size):Calls Tryz.prog 86 #[.string s] w (FN w.heap.size w (nP s.data.toList)):=by
 have HR:Hid (nP s.data.toList=.error (2,0,0)):=by show _=_;rw[nP,if_pos (by rw[←Lib.size_eq];omega)]
 generalize nP s.data.toList=dI at*;go_enter Tryz.func86,Tryz.ntmps86;go_wp2;refine bodyPost_ret (v:=.tuple #[ak,.agg #[ah 2,ah 0,ah 0]]) (by simp[results,Tryz.results86,go_sem]) rfl ?_;rw[HR.o];refine⟨rfl,?_⟩;exact(Step.refl _ w).alloc _
end Go.Proofs.YtggjfinekcenpaaGreat
