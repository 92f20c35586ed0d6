import Derived.Test.YtggjfinekcenpaaGreatPkS
import Derived.ProofKit
set_option maxRecDepth 100000
set_option maxHeartbeats 80000000
namespace Go.Proofs.YtggjfinekcenpaaGreat
open Go.RowKit
open Vt
theorem jB (a:Int) (w:World) (h0:0≤a) (h1:a≤255):Calls Tryz.prog 53 #[.int .u8 a] w fun e w'=>e=.returned (.bool (isDigit a))∧w=w':=by go_enter Tryz.func53,Tryz.ntmps53;go_wp2;all_goals (go_ret;exact⟨by simp[isDigit];omega,rfl⟩)
theorem fJ (a:Int) (w:World) (h0:0≤a) (h1:a≤255):Calls Tryz.prog 51 #[.int .u8 a] w fun e w'=>e=.returned (.bool (dW a))∧w=w':=by go_enter Tryz.func51,Tryz.ntmps51;go_wp2;all_goals (go_ret;exact⟨nV (by rw[Bool.eq_iff_iff];simp[dW,kz];try omega),rfl⟩)
theorem zI (s:ByteArray) (p:Nat) (w:World) (hp:p≤s.size) (hs:s.size≤100000):Calls Tryz.prog 52 #[.string s,.int .i64 p] w fun e w'=>e=.returned (.int .i64 ((p+gU (s.data.toList.drop p):Nat)))∧w=w':=by
 go_enter Tryz.func52,Tryz.ntmps52;go_wp2;go_loopg [1] s.size (fun g v wr=>∃p':Nat,v=.int .i64 p'∧s.size-p'≤g∧p'≤s.size∧p'+gU (s.data.toList.drop p')=p+gU (s.data.toList.drop p)∧wr=w);case atStart=>exact⟨p,rfl,by omega,hp,rfl,rfl⟩
 case round=>
  obtain⟨p',rfl,hg,hp',heq,rfl⟩:=hrel;have HE:=ai heq;clear heq;by_cases hlt':p'<s.size
  ·have hdr:=ai (drop_cons s p' hlt');(have cO:((s[p'].toNat:Int))≤255:=by have:=s[p'].toNat_lt;omega);cases hL:dW (s[p'].toNat:Int)
   ·cases hD:isDigit (s[p'].toNat:Int)
    ·have hq:=fJ (s[p'].toNat:Int);have hq2:=jB (s[p'].toNat:Int);rw[hL]at hq;rw[hD]at hq2;(have HW:Hid (xg s[p']=false):=show _=_ by simp[xg,jJ,hL,hD]);have HQ:=ai hq;have Ik:=ai hq2;clear hq hq2 hL hD;go_wp2_with (first|(go_at_call 51;refine(HQ.o _ om cO).mono ?_;rintro e w' ⟨rfl,rfl⟩)|(go_at_call 53;refine(Ik.o _ om cO).mono ?_;rintro e w' ⟨rfl,rfl⟩));go_ret;rw[←HE.o,hdr.out,FC HW.o];exact⟨rfl,rfl⟩
    ·have hq:=fJ (s[p'].toNat:Int);have hq2:=jB (s[p'].toNat:Int);rw[hL]at hq;rw[hD]at hq2;(have HW:Hid (xg s[p']=true):=show _=_ by simp[xg,jJ,hL,hD]);have HQ:=ai hq;have Ik:=ai hq2;clear hq hq2 hL hD;go_wp2_with (first|(go_at_call 51;refine(HQ.o _ om cO).mono ?_;rintro e w' ⟨rfl,rfl⟩)|(go_at_call 53;refine(Ik.o _ om cO).mono ?_;rintro e w' ⟨rfl,rfl⟩));go_roundg (gk-1);case rel=>refine⟨p'+1,by go_num,by omega,by omega,?_,rfl⟩;rw[←HE.o,hdr.out,vG HW.o];omega
     case measure=>omega
   ·have hq:=fJ (s[p'].toNat:Int);rw[hL]at hq;(have HW:Hid (xg s[p']=true):=show _=_ by simp[xg,jJ,hL]);have HQ:=ai hq;clear hq hL;go_wp2_with (first|(go_at_call 51;refine(HQ.o _ om cO).mono ?_;rintro e w' ⟨rfl,rfl⟩));go_roundg (gk-1);case rel=>refine⟨p'+1,by go_num,by omega,by omega,?_,rfl⟩;rw[←HE.o,hdr.out,vG HW.o];omega
    case measure=>omega
  ·go_wp2;go_ret;have:s.data.toList.drop p'=[]:=List.drop_of_length_le (by simp;omega);rw[←HE.o,this,Ii];exact⟨rfl,rfl⟩
def Af (r:Except Nat (Nat×Nat)) (w:World) (e:Ending) (w':World):Prop:=
 (match r with
  | .ok (k,v)=>e=.returned (.tuple #[aX v,ah k,ah 0])
  | .error c=>e=.returned (.tuple #[aX 0,ah 0,ah c]))∧w=w'
theorem G9 (t:ByteArray) (w:World) (h18:t.size=18) (h2:t.data.toList.take 2=[48,102]) (r:Option Nat) (hr:jY 0 (t.data.toList.drop 2)=r):Calls Tryz.prog 54 #[.string t] w (Af (PU r) w):=by
 have h0:0<t.size:=by omega
 have h1:1<t.size:=by omega
 have g0:t[0]'h0=48:=by rw[iq t 0 h0];cases e:t.data.toList with
  |nil=>rw[e]at h2;simp at h2
  |cons c l=>rw[e]at h2;simp at h2;exact h2.1
 have g1:t[1]'h1=102:=by rw[iq t 1 h1];cases e:t.data.toList with
  |nil=>rw[e]at h2;simp at h2
  |cons c l=>cases l with
   |nil=>rw[e]at h2;simp at h2
   |cons d l=>rw[e]at h2;simp at h2;exact h2.2
 have b0:(((t[0]'h0).toNat:Int)==48)=true:=by rw[g0];rfl
 have b1:(((t[1]'h1).toNat:Int)==102)=true:=by rw[g1];rfl
 have bs:((t.size:Int)==18)=true:=by rw[h18];rfl
 have HR:=ai hr;have HS:=ai h18;have hs1:18≤t.size:=by omega
 clear g0 g1 h2 hr h18;go_enter Tryz.func54,Tryz.ntmps54;go_wp2_with fail;go_loopg [5,6] 16 (fun g s5 s6 wr=>∃(i v:Nat),i≤16∧16-i≤g∧s6=.int .i64 ((2+i:Nat):Int)∧s5=.int .u64 v∧v<16^i∧jY v (t.data.toList.drop (2+i))=r∧wr=w);case atStart=>exact⟨0,0,by omega,by omega,rfl,rfl,by omega,HR.o,rfl⟩
 case round=>
  obtain⟨i,v,hi,hg,rfl,rfl,hv,heq,rfl⟩:=hrel;have HE:=ai heq;clear heq;by_cases hlt16:i<16
  ·(have Ny:v<1152921504606846976:=by have:=Nat.pow_le_pow_right (show 0<16 by omega) (show i≤15 by omega);omega);have hgd:=iq t (2+i) om;have hdr:=sD t.data.toList (2+i) (by rw[←Lib.size_eq];omega);rw[←hgd]at hdr;(have cO:((t[2+i].toNat:Int))≤255:=by have:=t[2+i].toNat_lt;omega);have HD:=ai hdr;clear hdr hgd;have hq:=jB (t[2+i].toNat:Int);cases hd:isDigit (t[2+i].toNat:Int)
   ·rw[hd]at hq;have HQ:=ai hq;clear hq;by_cases hx:97≤t[2+i].toNat∧t[2+i].toNat≤102
    ·(have hr0:Hid (jY (v*16+(t[2+i].toNat-87)) (t.data.toList.drop (2+(i+1)))=r):=by show _=_;(have hxx:wQ t[2+i]=some (t[2+i].toNat-87):=by rw[wQ,if_neg (by rw[hd];simp),if_pos hx]);rw[←HE.o,HD.o,jY,hxx];rfl);obtain⟨hx1,hx2⟩:=hx;(have ha:(97:Int)≤t[2+i].toNat:=by omega);(have hb:(t[2+i].toNat:Int)≤102:=by omega);clear hd hx1 hx2;go_wp2_with (go_at_call 53;refine(HQ.o _ om cO).mono ?_;rintro e w' ⟨rfl,rfl⟩);go_roundg (gk-1);case rel=>refine⟨i+1,v*16+(t[2+i].toNat-87),by omega,by omega,by go_num,by go_num,?_,hr0.out,rfl⟩;rw[Nat.pow_succ];omega
     case measure=>omega
    ·(have hr0:Hid (r=none):=by show _=_;(have hxx:wQ t[2+i]=none:=by rw[wQ,if_neg (by rw[hd];simp),if_neg hx]);rw[←HE.o,HD.o,jY,hxx]);clear hd;by_cases ha:(97:Int)≤t[2+i].toNat
     ·(have hb:(102:Int)<t[2+i].toNat:=by omega);clear hx;go_wp2_with (go_at_call 53;refine(HQ.o _ om cO).mono ?_;rintro e w' ⟨rfl,rfl⟩);rw[hr0.out];go_ret3;exact⟨rfl,rfl⟩
     ·clear hx;go_wp2_with (go_at_call 53;refine(HQ.o _ om cO).mono ?_;rintro e w' ⟨rfl,rfl⟩);rw[hr0.out];go_ret3;exact⟨rfl,rfl⟩
   ·(have hr0:Hid (jY (v*16+(t[2+i].toNat-48)) (t.data.toList.drop (2+(i+1)))=r):=by show _=_;(have hxx:wQ t[2+i]=some (t[2+i].toNat-48):=by rw[wQ,if_pos hd]);rw[←HE.o,HD.o,jY,hxx];rfl);(have h48:(48:Int)≤t[2+i].toNat∧(t[2+i].toNat:Int)≤57:=by simpa[isDigit]using hd);obtain⟨h48,h57⟩:=h48;rw[hd]at hq;have HQ:=ai hq;clear hq hd;go_wp2_with (go_at_call 53;refine(HQ.o _ om cO).mono ?_;rintro e w' ⟨rfl,rfl⟩);go_roundg (gk-1);case rel=>refine⟨i+1,v*16+(t[2+i].toNat-48),by omega,by omega,by go_num,by go_num,?_,hr0.out,rfl⟩;rw[Nat.pow_succ];omega
    case measure=>omega
  ·(have hr0:Hid (r=some v):=by show _=_;rw[←HE.o,List.drop_of_length_le (by rw[←Lib.size_eq,HS.o];omega)];rfl);go_wp2;rw[hr0.out];go_ret3;exact⟨rfl,rfl⟩
theorem TI (t:ByteArray) (w:World) (hsz:t.size≤100000) (h18:t.size≠18) (r:Except Nat Nat) (hr:jG (t.data.toList.headD 0) t.data.toList 0 0=r):Calls Tryz.prog 54 #[.string t] w (Af (PV r) w):=by
 have bs:((t.size:Int)==18)=false:=by rw[beq_eq_false_iff_ne];omega
 have g0q:=h18;clear h18;clear g0q;have HR:=ai hr;have hs1:t.size≤100000:=hsz;clear hr hsz;go_enter Tryz.func54,Tryz.ntmps54;go_wp2_with fail;go_loopg [8,9] t.size (fun g s8 s9 wr=>∃(i v:Nat),i≤t.size∧t.size-i≤g∧s9=.int .i64 i∧s8=.int .u64 v∧v≤9223372036854775807∧jG (t.data.toList.headD 0) (t.data.toList.drop i) i v=r∧wr=w);case atStart=>exact⟨0,0,by omega,by omega,rfl,rfl,by omega,HR.o,rfl⟩
 case round=>
  obtain⟨i,v,hi,hg,rfl,rfl,hv,heq,rfl⟩:=hrel;have HE:=ai heq;clear heq;by_cases BU:i<t.size
  ·have hgd:=iq t i BU;have hdr:=sD t.data.toList i (by rw[←Lib.size_eq];omega);rw[←hgd]at hdr;(have cO:((t[i].toNat:Int))≤255:=by have:=t[i].toNat_lt;omega);(have hlt0:0<t.size:=by omega);(have h00:t[0]=t.data.toList.headD 0:=by rw[iq t 0 hlt0];cases t.data.toList<;>rfl);rw[←h00]at HE;have HD:=ai hdr;have W9:=ai h00;clear hdr hgd h00;have hq:=jB (t[i].toNat:Int);cases hd:isDigit (t[i].toNat:Int)
   ·rw[hd]at hq;have HQ:=ai hq;(have hr0:Hid (r=.error 1):=by show _=_;rw[←HE.o,HD.o,jG,if_pos (.inl hd)]);clear hq hd;go_wp2_with (go_at_call 53;refine(HQ.o _ om cO).mono ?_;rintro e w' ⟨rfl,rfl⟩);rw[hr0.out];go_ret3;exact⟨rfl,rfl⟩
   ·rw[hd]at hq;have HQ:=ai hq;(have h48:(48:Int)≤t[i].toNat∧(t[i].toNat:Int)≤57:=by simpa[isDigit]using hd);obtain⟨h48,h57⟩:=h48;have HX:=ai hd;clear hq hd;by_cases hi1:i=1∧t[0]=48
    ·(have hb1:((i:Int)==1)=true:=by rw[hi1.1];rfl);(have hb2:((t[0].toNat:Int)==48)=true:=by rw[hi1.2];rfl);(have hr0:Hid (r=.error 1):=by show _=_;rw[←HE.o,HD.o,jG,if_pos (.inr hi1)]);clear hi1;go_wp2_with (go_at_call 53;refine(HQ.o _ om cO).mono ?_;rintro e w' ⟨rfl,rfl⟩);rw[hr0.out];go_ret3;exact⟨rfl,rfl⟩
    ·have hor:(((i:Int)==1)=true∧((t[0].toNat:Int)==48)=false)∨(((i:Int)==1)=false):=by
      by_cases e1:i=1
      ·exact .inl ⟨by rw[e1];rfl,by rw[beq_eq_false_iff_ne];exact fun e=>hi1 ⟨e1,gy 48 e⟩⟩
      ·exact .inr (by rw[beq_eq_false_iff_ne];omega)
     have H1:=ai hi1;clear hi1;by_cases hb92:922337203685477580<v
     ·(have hr0:Hid (r=.error 2):=by show r=.error 2;rw[←HE.o,HD.o,jG,if_neg (fun e=>e.elim (by rw[HX.o];simp) H1.o),if_pos om]);(have hgt:decide ((922337203685477580:Int)<(v:Int))=true:=by rw[decide_eq_true_eq];omega);(rcases hor with⟨hb1,hb2⟩|hb1);all_goals
       go_wp2_with (go_at_call 53;refine(HQ.o _ om cO).mono ?_;rintro e w' ⟨rfl,rfl⟩)
       rw[hr0.out]
       go_ret3
       exact⟨rfl,rfl⟩
     ·(have hgt:decide ((922337203685477580:Int)<(v:Int))=false:=by rw[decide_eq_false_iff_not];omega);by_cases hbig:9223372036854775807<v*10+(t[i].toNat-48)
      ·(have hr0:Hid (r=.error 2):=by show r=.error 2;rw[←HE.o,HD.o,jG,if_neg (fun e=>e.elim (by rw[HX.o];simp) H1.o),if_pos om]);(have hgu:decide ((9223372036854775807-((t[i].toNat:Int)-48))<(v:Int)*10)=true:=by rw[decide_eq_true_eq];omega);(rcases hor with⟨hb1,hb2⟩|hb1);all_goals
        go_wp2_with (go_at_call 53;refine(HQ.o _ om cO).mono ?_;rintro e w' ⟨rfl,rfl⟩)
        rw[hr0.out]
        go_ret3
        exact⟨rfl,rfl⟩
      ·(have hr0:Hid (jG t[0] (t.data.toList.drop (i+1)) (i+1) (v*10+(t[i].toNat-48))=r):=by show _=_;rw[←HE.o,HD.o,jG,if_neg (fun e=>e.elim (by rw[HX.o];simp) H1.o),if_neg om]);(have hgu:decide ((9223372036854775807-((t[i].toNat:Int)-48))<(v:Int)*10)=false:=by rw[decide_eq_false_iff_not];omega);(rcases hor with⟨hb1,hb2⟩|hb1);all_goals
        go_wp2_with (go_at_call 53;refine(HQ.o _ om cO).mono ?_;rintro e w' ⟨rfl,rfl⟩)
        go_roundg (gk-1)
        case rel=>
         exact⟨i+1,v*10+(t[i].toNat-48),by omega,by omega,by go_num,by go_num,by omega,by rw[←W9.o];exact hr0.out,rfl⟩
        case measure=>omega
  ·(have hr0:Hid (r=.ok v):=by show r=.ok v;rw[←HE.o,List.drop_of_length_le (by rw[←Lib.size_eq];omega)];rfl);go_wp2;rw[hr0.out];go_ret3;exact⟨rfl,rfl⟩
theorem TJ (t:ByteArray) (w:World) (hsz:t.size≤100000) (h18:t.size=18) (h0:0<t.size) (hc:t[0]≠48) (r:Except Nat Nat) (hr:jG (t.data.toList.headD 0) t.data.toList 0 0=r):Calls Tryz.prog 54 #[.string t] w (Af (PV r) w):=by
 have bs:((t.size:Int)==18)=true:=by rw[beq_iff_eq];omega
 have b0:((t[0].toNat:Int)==48)=false:=by rw[beq_eq_false_iff_ne];exact fun e=>hc (gy 48 e)
 have g0q:=h18;have HC:=ai hc;clear h18 hc;clear g0q;have HR:=ai hr;have hs1:t.size≤100000:=hsz;clear hr hsz;go_enter Tryz.func54,Tryz.ntmps54;go_wp2_with fail;go_loopg [8,9] t.size (fun g s8 s9 wr=>∃(i v:Nat),i≤t.size∧t.size-i≤g∧s9=.int .i64 i∧s8=.int .u64 v∧v≤9223372036854775807∧jG (t.data.toList.headD 0) (t.data.toList.drop i) i v=r∧wr=w);case atStart=>exact⟨0,0,by omega,by omega,rfl,rfl,by omega,HR.o,rfl⟩
 case round=>
  obtain⟨i,v,hi,hg,rfl,rfl,hv,heq,rfl⟩:=hrel;have HE:=ai heq;clear heq;by_cases BU:i<t.size
  ·have hgd:=iq t i BU;have hdr:=sD t.data.toList i (by rw[←Lib.size_eq];omega);rw[←hgd]at hdr;(have cO:((t[i].toNat:Int))≤255:=by have:=t[i].toNat_lt;omega);(have hlt0:0<t.size:=by omega);(have h00:t[0]=t.data.toList.headD 0:=by rw[iq t 0 hlt0];cases t.data.toList<;>rfl);rw[←h00]at HE;have HD:=ai hdr;have W9:=ai h00;clear hdr hgd h00;have hq:=jB (t[i].toNat:Int);cases hd:isDigit (t[i].toNat:Int)
   ·rw[hd]at hq;have HQ:=ai hq;(have hr0:Hid (r=.error 1):=by show _=_;rw[←HE.o,HD.o,jG,if_pos (.inl hd)]);clear hq hd;go_wp2_with (go_at_call 53;refine(HQ.o _ om cO).mono ?_;rintro e w' ⟨rfl,rfl⟩);rw[hr0.out];go_ret3;exact⟨rfl,rfl⟩
   ·rw[hd]at hq;have HQ:=ai hq;(have h48:(48:Int)≤t[i].toNat∧(t[i].toNat:Int)≤57:=by simpa[isDigit]using hd);obtain⟨h48,h57⟩:=h48;have HX:=ai hd;clear hq hd;by_cases hi1:i=1∧t[0]=48
    ·exact absurd hi1.2 HC.o
    ·have hor:(((i:Int)==1)=true∧((t[0].toNat:Int)==48)=false)∨(((i:Int)==1)=false):=by
      by_cases e1:i=1
      ·exact .inl ⟨by rw[e1];rfl,by rw[beq_eq_false_iff_ne];exact fun e=>hi1 ⟨e1,gy 48 e⟩⟩
      ·exact .inr (by rw[beq_eq_false_iff_ne];omega)
     have H1:=ai hi1;clear hi1;by_cases hb92:922337203685477580<v
     ·(have hr0:Hid (r=.error 2):=by show r=.error 2;rw[←HE.o,HD.o,jG,if_neg (fun e=>e.elim (by rw[HX.o];simp) H1.o),if_pos om]);(have hgt:decide ((922337203685477580:Int)<(v:Int))=true:=by rw[decide_eq_true_eq];omega);(rcases hor with⟨hb1,hb2⟩|hb1);all_goals
       go_wp2_with (go_at_call 53;refine(HQ.o _ om cO).mono ?_;rintro e w' ⟨rfl,rfl⟩)
       rw[hr0.out]
       go_ret3
       exact⟨rfl,rfl⟩
     ·(have hgt:decide ((922337203685477580:Int)<(v:Int))=false:=by rw[decide_eq_false_iff_not];omega);by_cases hbig:9223372036854775807<v*10+(t[i].toNat-48)
      ·(have hr0:Hid (r=.error 2):=by show r=.error 2;rw[←HE.o,HD.o,jG,if_neg (fun e=>e.elim (by rw[HX.o];simp) H1.o),if_pos om]);(have hgu:decide ((9223372036854775807-((t[i].toNat:Int)-48))<(v:Int)*10)=true:=by rw[decide_eq_true_eq];omega);(rcases hor with⟨hb1,hb2⟩|hb1);all_goals
        go_wp2_with (go_at_call 53;refine(HQ.o _ om cO).mono ?_;rintro e w' ⟨rfl,rfl⟩)
        rw[hr0.out]
        go_ret3
        exact⟨rfl,rfl⟩
      ·(have hr0:Hid (jG t[0] (t.data.toList.drop (i+1)) (i+1) (v*10+(t[i].toNat-48))=r):=by show _=_;rw[←HE.o,HD.o,jG,if_neg (fun e=>e.elim (by rw[HX.o];simp) H1.o),if_neg om]);(have hgu:decide ((9223372036854775807-((t[i].toNat:Int)-48))<(v:Int)*10)=false:=by rw[decide_eq_false_iff_not];omega);(rcases hor with⟨hb1,hb2⟩|hb1);all_goals
        go_wp2_with (go_at_call 53;refine(HQ.o _ om cO).mono ?_;rintro e w' ⟨rfl,rfl⟩)
        go_roundg (gk-1)
        case rel=>
         exact⟨i+1,v*10+(t[i].toNat-48),by omega,by omega,by go_num,by go_num,by omega,by rw[←W9.o];exact hr0.out,rfl⟩
        case measure=>omega
  ·(have hr0:Hid (r=.ok v):=by show r=.ok v;rw[←HE.o,List.drop_of_length_le (by rw[←Lib.size_eq];omega)];rfl);go_wp2;rw[hr0.out];go_ret3;exact⟨rfl,rfl⟩
theorem TK (t:ByteArray) (w:World) (hsz:t.size≤100000) (h18:t.size=18) (h0:0<t.size) (h1:1<t.size) (hc:t[0]=48) (hd:t[1]≠102) (r:Except Nat Nat) (hr:jG (t.data.toList.headD 0) t.data.toList 0 0=r):Calls Tryz.prog 54 #[.string t] w (Af (PV r) w):=by
 have bs:((t.size:Int)==18)=true:=by rw[beq_iff_eq];omega
 have b0:((t[0].toNat:Int)==48)=true:=by rw[hc];rfl
 have b1:((t[1].toNat:Int)==102)=false:=by rw[beq_eq_false_iff_ne];exact fun e=>hd (gy 102 e)
 have g0q:=h18;have HC:=ai hc;clear h18 hc hd;clear g0q;have HR:=ai hr;have hs1:t.size≤100000:=hsz;clear hr hsz;go_enter Tryz.func54,Tryz.ntmps54;go_wp2_with fail;go_loopg [8,9] t.size (fun g s8 s9 wr=>∃(i v:Nat),i≤t.size∧t.size-i≤g∧s9=.int .i64 i∧s8=.int .u64 v∧v≤9223372036854775807∧jG (t.data.toList.headD 0) (t.data.toList.drop i) i v=r∧wr=w);case atStart=>exact⟨0,0,by omega,by omega,rfl,rfl,by omega,HR.o,rfl⟩
 case round=>
  obtain⟨i,v,hi,hg,rfl,rfl,hv,heq,rfl⟩:=hrel;have HE:=ai heq;clear heq;by_cases BU:i<t.size
  ·have hgd:=iq t i BU;have hdr:=sD t.data.toList i (by rw[←Lib.size_eq];omega);rw[←hgd]at hdr;(have cO:((t[i].toNat:Int))≤255:=by have:=t[i].toNat_lt;omega);(have hlt0:0<t.size:=by omega);(have h00:t[0]=t.data.toList.headD 0:=by rw[iq t 0 hlt0];cases t.data.toList<;>rfl);rw[←h00]at HE;have HD:=ai hdr;have W9:=ai h00;clear hdr hgd h00;have hq:=jB (t[i].toNat:Int);cases hd:isDigit (t[i].toNat:Int)
   ·rw[hd]at hq;have HQ:=ai hq;(have hr0:Hid (r=.error 1):=by show _=_;rw[←HE.o,HD.o,jG,if_pos (.inl hd)]);clear hq hd;go_wp2_with (go_at_call 53;refine(HQ.o _ om cO).mono ?_;rintro e w' ⟨rfl,rfl⟩);rw[hr0.out];go_ret3;exact⟨rfl,rfl⟩
   ·rw[hd]at hq;have HQ:=ai hq;(have h48:(48:Int)≤t[i].toNat∧(t[i].toNat:Int)≤57:=by simpa[isDigit]using hd);obtain⟨h48,h57⟩:=h48;have HX:=ai hd;clear hq hd;by_cases hi1:i=1∧t[0]=48
    ·(have hb1:((i:Int)==1)=true:=by rw[hi1.1];rfl);(have hr0:Hid (r=.error 1):=by show _=_;rw[←HE.o,HD.o,jG,if_pos (.inr hi1)]);clear hi1;go_wp2_with (go_at_call 53;refine(HQ.o _ om cO).mono ?_;rintro e w' ⟨rfl,rfl⟩);rw[hr0.out];go_ret3;exact⟨rfl,rfl⟩
    ·have hor:False∨(((i:Int)==1)=false):=by
      by_cases e1:i=1
      ·exact absurd ⟨e1,HC.o⟩ hi1
      ·exact .inr (by rw[beq_eq_false_iff_ne];omega)
     have H1:=ai hi1;clear hi1;by_cases hb92:922337203685477580<v
     ·(have hr0:Hid (r=.error 2):=by show r=.error 2;rw[←HE.o,HD.o,jG,if_neg (fun e=>e.elim (by rw[HX.o];simp) H1.o),if_pos om]);(have hgt:decide ((922337203685477580:Int)<(v:Int))=true:=by rw[decide_eq_true_eq];omega);replace hor:=hor.resolve_left id;have hb1:=hor;all_goals
       go_wp2_with (go_at_call 53;refine(HQ.o _ om cO).mono ?_;rintro e w' ⟨rfl,rfl⟩)
       rw[hr0.out]
       go_ret3
       exact⟨rfl,rfl⟩
     ·(have hgt:decide ((922337203685477580:Int)<(v:Int))=false:=by rw[decide_eq_false_iff_not];omega);by_cases hbig:9223372036854775807<v*10+(t[i].toNat-48)
      ·(have hr0:Hid (r=.error 2):=by show r=.error 2;rw[←HE.o,HD.o,jG,if_neg (fun e=>e.elim (by rw[HX.o];simp) H1.o),if_pos om]);(have hgu:decide ((9223372036854775807-((t[i].toNat:Int)-48))<(v:Int)*10)=true:=by rw[decide_eq_true_eq];omega);replace hor:=hor.resolve_left id;have hb1:=hor;all_goals
        go_wp2_with (go_at_call 53;refine(HQ.o _ om cO).mono ?_;rintro e w' ⟨rfl,rfl⟩)
        rw[hr0.out]
        go_ret3
        exact⟨rfl,rfl⟩
      ·(have hr0:Hid (jG t[0] (t.data.toList.drop (i+1)) (i+1) (v*10+(t[i].toNat-48))=r):=by show _=_;rw[←HE.o,HD.o,jG,if_neg (fun e=>e.elim (by rw[HX.o];simp) H1.o),if_neg om]);(have hgu:decide ((9223372036854775807-((t[i].toNat:Int)-48))<(v:Int)*10)=false:=by rw[decide_eq_false_iff_not];omega);replace hor:=hor.resolve_left id;have hb1:=hor;all_goals
        go_wp2_with (go_at_call 53;refine(HQ.o _ om cO).mono ?_;rintro e w' ⟨rfl,rfl⟩)
        go_roundg (gk-1)
        case rel=>
         exact⟨i+1,v*10+(t[i].toNat-48),by omega,by omega,by go_num,by go_num,by omega,by rw[←W9.o];exact hr0.out,rfl⟩
        case measure=>omega
  ·(have hr0:Hid (r=.ok v):=by show r=.ok v;rw[←HE.o,List.drop_of_length_le (by rw[←Lib.size_eq];omega)];rfl);go_wp2;rw[hr0.out];go_ret3;exact⟨rfl,rfl⟩
theorem DW (t:ByteArray) (w:World) (hsz:t.size≤100000):Calls Tryz.prog 54 #[.string t] w (Af ((vH t.data.toList).map fun x=>(x.1,x.2.2)) w):=by
 have hl:=Lib.size_eq t;unfold vH;by_cases h18:t.size=18
 ·have h0:0<t.size:=by omega
  have h1:1<t.size:=by omega
  by_cases h2:t.data.toList.take 2=[48,102]
  ·rw[if_pos ⟨show t.data.toList.length=18 by omega,h2⟩];refine(G9 t w h18 h2 _ rfl).mono fun e w' q=> ?_;cases hf:jY 0 (t.data.toList.drop 2)
   ·rw[hf]at q;exact q
   ·rw[hf]at q;exact q
  ·rw[if_neg (fun e=>h2 e.2)];have hh:∃c d l,t.data.toList=c::d::l∧t[0]=c∧t[1]=d:=by
    cases e:t.data.toList with
    |nil=>rw[e]at hl;exact absurd (show t.size=0 from hl) om
    |cons c l=>cases l with
     |nil=>rw[e]at hl;exact absurd (show t.size=1 from hl) om
     |cons d l=>exact⟨c,d,l,rfl,by rw[iq t 0 h0,e];rfl,by rw[iq t 1 h1,e];rfl⟩
   obtain⟨c,d,l,hcd,hc,hd⟩:=hh;have key:Calls Tryz.prog 54 #[.string t] w (Af (PV (jG (t.data.toList.headD 0) t.data.toList 0 0)) w):=by
    by_cases aah:t[0]=48
    ·refine TK t w hsz h18 h0 h1 aah (fun e=>h2 ?_) _ rfl;rw[hcd,←hc,←hd,aah,e];rfl
    ·exact TJ t w hsz h18 h0 aah _ rfl
   refine key.mono fun e w' q=> ?_;cases hf:jG (t.data.toList.headD 0) t.data.toList 0 0
   ·rw[hf]at q;exact q
   ·rw[hf]at q;exact q
 ·rw[if_neg (fun e=>h18 (by have:=e.1;omega))];refine(TI t w hsz h18 _ rfl).mono fun e w' q=> ?_;cases hf:jG (t.data.toList.headD 0) t.data.toList 0 0
  ·rw[hf]at q;exact q
  ·rw[hf]at q;exact q
def oD (s:ByteArray) (p:Nat) (w:World) (r:Except Nat (Nat×Nat×Nat)) (e:Ending) (w':World):Prop:=
 (match r with
  | .ok (k,n,v)=>e=.returned (.tuple #[.agg #[ah k,aI (s.extract p (p+n)),ah 0,ah 0,aX v],ah ((p+n:Nat):Int),ah 0])
  | .error c=>e=.returned (.tuple #[.agg #[ah 0,dG,ah 0,ah 0,aX 0],ah 0,ah c]))∧jg w w'
theorem TL (s:ByteArray) (p:Nat) (w:World) (hp:p<s.size) (hs:s.size≤100000) (N:Nat) (hN:gU (s.data.toList.drop p)=N) (hL:dW (s[p].toNat:Int)=true) (hn:N≤24):Calls Tryz.prog 22 #[.string s,.int .i64 p] w (oD s p w (.ok (1,N,0))):=by
 have cO:((s[p].toNat:Int))≤255:=by have:=s[p].toNat_lt;omega
 have hq:=fJ (s[p].toNat:Int);rw[hL]at hq;have HQ:=ai hq;clear hq hL;have hrl:p+N≤s.size:=by have:=iF (s.data.toList.drop p);simp at this;omega
 have HN:=ai hN;clear hN;go_enter Tryz.func22,Tryz.ntmps22;go_wp2_with (first|(go_at_call 51;refine(HQ.o _ om cO).mono ?_;rintro e w' ⟨rfl,rfl⟩)|(go_at_call 52;refine(zI s p _ om hs).mono ?_;rintro e w' ⟨rfl,rfl⟩;rw[HN.o]));refine bodyPost_ret (v:=.tuple #[.agg #[ah 1,aI (s.extract p (p+N)),ah 0,ah 0,aX 0],ah ((p+N:Nat):Int),ah 0]) (by simp[results,Tryz.results22,go_sem]) rfl ⟨rfl,?_⟩;exact(Step.refl _ w).alloc _
theorem G_ (s:ByteArray) (p:Nat) (w:World) (hp:p<s.size) (hs:s.size≤100000) (N:Nat) (hN:gU (s.data.toList.drop p)=N) (hL:dW (s[p].toNat:Int)=true) (hn:24<N):Calls Tryz.prog 22 #[.string s,.int .i64 p] w (oD s p w (.error 2)):=by
 have cO:((s[p].toNat:Int))≤255:=by have:=s[p].toNat_lt;omega
 have hq:=fJ (s[p].toNat:Int);rw[hL]at hq;have HQ:=ai hq;clear hq hL;have hrl:p+N≤s.size:=by have:=iF (s.data.toList.drop p);simp at this;omega
 have HN:=ai hN;clear hN;go_enter Tryz.func22,Tryz.ntmps22;go_wp2_with (first|(go_at_call 51;refine(HQ.o _ om cO).mono ?_;rintro e w' ⟨rfl,rfl⟩)|(go_at_call 52;refine(zI s p _ om hs).mono ?_;rintro e w' ⟨rfl,rfl⟩;rw[HN.o]));refine bodyPost_ret (v:=.tuple #[.agg #[ah 0,dG,ah 0,ah 0,aX 0],ah 0,ah 2]) (by simp[results,Tryz.results22,go_sem]) rfl ⟨rfl,?_⟩;exact(Step.refl _ w).alloc _
theorem wG (s:ByteArray) (p:Nat) (w:World) (hp:p+1≤s.size) (hs:s.size≤100000):Calls Tryz.prog 52 #[.string s,.int .i64 ((p:Int)+1)] w fun e w'=>e=.returned (.int .i64 ((p+1+gU (s.data.toList.drop (p+1)):Nat)))∧w=w':=
 zI s (p+1) w hp hs
theorem He (s:ByteArray) (p:Nat) (w:World) (hp:p<s.size) (hs:s.size≤100000) (N:Nat) (hN:gU (s.data.toList.drop (p+1))=N) (hL:dW (s[p].toNat:Int)=false) (hc:s[p]=39) (hn:N=0):Calls Tryz.prog 22 #[.string s,.int .i64 p] w (oD s p w (.error 1)):=by
 have cO:((s[p].toNat:Int))≤255:=by have:=s[p].toNat_lt;omega
 have hq:=fJ (s[p].toNat:Int);rw[hL]at hq;have HQ:=ai hq;clear hq hL;have hrl:p+1+N≤s.size:=by have:=iF (s.data.toList.drop (p+1));simp at this;omega
 have HN:=ai hN;have zN:((s[p].toNat:Int)==39)=true:=by rw[hc];rfl
 clear hN hc;have HZ:=ai hn;clear hn;go_enter Tryz.func22,Tryz.ntmps22;go_wp2_with (first|(go_at_call 51;refine(HQ.o _ om cO).mono ?_;rintro e w' ⟨rfl,rfl⟩)|(go_at_call 52;refine(wG s p _ om hs).mono ?_;rintro e w' ⟨rfl,rfl⟩;rw[HN.o,HZ.o]));refine bodyPost_ret (v:=.tuple #[.agg #[ah 0,dG,ah 0,ah 0,aX 0],ah 0,ah 1]) (by simp[results,Tryz.results22,go_sem]) rfl ⟨rfl,?_⟩;exact(Step.refl _ w).alloc _
theorem JD (s:ByteArray) (p:Nat) (w:World) (hp:p<s.size) (hs:s.size≤100000) (N:Nat) (hN:gU (s.data.toList.drop (p+1))=N) (hL:dW (s[p].toNat:Int)=false) (hc:s[p]=39) (hn:0<N) (hlt1:p+1<s.size) (hsm:s[p+1].toNat<97):Calls Tryz.prog 22 #[.string s,.int .i64 p] w (oD s p w (.error 1)):=by
 have cO:((s[p].toNat:Int))≤255:=by have:=s[p].toNat_lt;omega
 have hq:=fJ (s[p].toNat:Int);rw[hL]at hq;have HQ:=ai hq;clear hq hL;have hrl:p+1+N≤s.size:=by have:=iF (s.data.toList.drop (p+1));simp at this;omega
 have HN:=ai hN;have zN:((s[p].toNat:Int)==39)=true:=by rw[hc];rfl
 clear hN hc;have TM:(s[p+1].toNat:Int)<97:=by omega
 go_enter Tryz.func22,Tryz.ntmps22;go_wp2_with (first|(go_at_call 51;refine(HQ.o _ om cO).mono ?_;rintro e w' ⟨rfl,rfl⟩)|(go_at_call 52;refine(wG s p _ om hs).mono ?_;rintro e w' ⟨rfl,rfl⟩;rw[HN.o]));refine bodyPost_ret (v:=.tuple #[.agg #[ah 0,dG,ah 0,ah 0,aX 0],ah 0,ah 1]) (by simp[results,Tryz.results22,go_sem]) rfl ⟨rfl,?_⟩;exact(Step.refl _ w).alloc _
theorem Hf (s:ByteArray) (p:Nat) (w:World) (hp:p<s.size) (hs:s.size≤100000) (N:Nat) (hN:gU (s.data.toList.drop (p+1))=N) (hL:dW (s[p].toNat:Int)=false) (hc:s[p]=39) (hn:0<N) (hlt1:p+1<s.size) (hsm:122<s[p+1].toNat):Calls Tryz.prog 22 #[.string s,.int .i64 p] w (oD s p w (.error 1)):=by
 have cO:((s[p].toNat:Int))≤255:=by have:=s[p].toNat_lt;omega
 have hq:=fJ (s[p].toNat:Int);rw[hL]at hq;have HQ:=ai hq;clear hq hL;have hrl:p+1+N≤s.size:=by have:=iF (s.data.toList.drop (p+1));simp at this;omega
 have HN:=ai hN;have zN:((s[p].toNat:Int)==39)=true:=by rw[hc];rfl
 clear hN hc;have TM:(122:Int)<s[p+1].toNat:=by omega
 go_enter Tryz.func22,Tryz.ntmps22;go_wp2_with (first|(go_at_call 51;refine(HQ.o _ om cO).mono ?_;rintro e w' ⟨rfl,rfl⟩)|(go_at_call 52;refine(wG s p _ om hs).mono ?_;rintro e w' ⟨rfl,rfl⟩;rw[HN.o]));refine bodyPost_ret (v:=.tuple #[.agg #[ah 0,dG,ah 0,ah 0,aX 0],ah 0,ah 1]) (by simp[results,Tryz.results22,go_sem]) rfl ⟨rfl,?_⟩;exact(Step.refl _ w).alloc _
theorem Hg (s:ByteArray) (p:Nat) (w:World) (hp:p<s.size) (hs:s.size≤100000) (N:Nat) (hN:gU (s.data.toList.drop (p+1))=N) (hL:dW (s[p].toNat:Int)=false) (hc:s[p]=39) (_hn:0<N) (hlt1:p+1<s.size) (hsm:97≤s[p+1].toNat) (aai:s[p+1].toNat≤122) (hlong:24<N):Calls Tryz.prog 22 #[.string s,.int .i64 p] w (oD s p w (.error 2)):=by
 have cO:((s[p].toNat:Int))≤255:=by have:=s[p].toNat_lt;omega
 have hq:=fJ (s[p].toNat:Int);rw[hL]at hq;have HQ:=ai hq;clear hq hL;have hrl:p+1+N≤s.size:=by have:=iF (s.data.toList.drop (p+1));simp at this;omega
 have HN:=ai hN;have zN:((s[p].toNat:Int)==39)=true:=by rw[hc];rfl
 clear hN hc;have TM:(97:Int)≤s[p+1].toNat:=by omega
 have hd97:decide ((s[p+1].toNat:Int)<97)=false:=by rw[decide_eq_false_iff_not];omega
 have hd122:decide ((122:Int)<s[p+1].toNat)=false:=by rw[decide_eq_false_iff_not];omega
 have hne1:(((p:Int)+1+N)==(p:Int)+1)=false:=by rw[beq_eq_false_iff_ne];omega
 clear TM hsm aai;go_enter Tryz.func22,Tryz.ntmps22;go_wp2_with (first|(go_at_call 51;refine(HQ.o _ om cO).mono ?_;rintro e w' ⟨rfl,rfl⟩)|(go_at_call 52;refine(wG s p _ om hs).mono ?_;rintro e w' ⟨rfl,rfl⟩;rw[HN.o]));refine bodyPost_ret (v:=.tuple #[.agg #[ah 0,dG,ah 0,ah 0,aX 0],ah 0,ah 2]) (by simp[results,Tryz.results22,go_sem]) rfl ⟨rfl,?_⟩;exact(Step.refl _ w).alloc _
theorem TN (s:ByteArray) (p:Nat) (w:World) (hp:p<s.size) (hs:s.size≤100000) (N:Nat) (hN:gU (s.data.toList.drop (p+1))=N) (hL:dW (s[p].toNat:Int)=false) (hc:s[p]=39) (hn:0<N) (hlt1:p+1<s.size) (hsm:97≤s[p+1].toNat) (aai:s[p+1].toNat≤122) (hlong:N≤24):Calls Tryz.prog 22 #[.string s,.int .i64 p] w (oD s p w (.ok (2,N+1,0))):=by
 have cO:((s[p].toNat:Int))≤255:=by have:=s[p].toNat_lt;omega
 have hq:=fJ (s[p].toNat:Int);rw[hL]at hq;have HQ:=ai hq;clear hq hL;have hrl:p+1+N≤s.size:=by have:=iF (s.data.toList.drop (p+1));simp at this;omega
 have HN:=ai hN;have zN:((s[p].toNat:Int)==39)=true:=by rw[hc];rfl
 clear hN hc;have TM:(97:Int)≤s[p+1].toNat:=by omega
 have hd97:decide ((s[p+1].toNat:Int)<97)=false:=by rw[decide_eq_false_iff_not];omega
 have hd122:decide ((122:Int)<s[p+1].toNat)=false:=by rw[decide_eq_false_iff_not];omega
 have hne1:(((p:Int)+1+N)==(p:Int)+1)=false:=by rw[beq_eq_false_iff_ne];omega
 clear TM hsm aai;go_enter Tryz.func22,Tryz.ntmps22;go_wp2_with (first|(go_at_call 51;refine(HQ.o _ om cO).mono ?_;rintro e w' ⟨rfl,rfl⟩)|(go_at_call 52;refine(wG s p _ om hs).mono ?_;rintro e w' ⟨rfl,rfl⟩;rw[HN.o]));rw[show p+1+N=p+(N+1) by omega];refine bodyPost_ret (v:=.tuple #[.agg #[ah 2,aI (s.extract p (p+(N+1))),ah 0,ah 0,aX 0],ah ((p:Int)+1+N),ah 0]) (by simp[results,Tryz.results22,go_sem]) rfl ⟨congrArg (fun z:Int=>Ending.returned (.tuple #[.agg #[ah 2,aI (s.extract p (p+(N+1))),ah 0,ah 0,aX 0],ah z,ah 0])) (show(p:Int)+1+N=((p+(N+1):Nat):Int) by omega),?_⟩;exact(Step.refl _ w).alloc _
theorem OY (t:ByteArray) (w:World) (k n v:Nat) (hsz:t.size≤100000) (h:vH t.data.toList=.ok (k,n,v)):Calls Tryz.prog 54 #[.string t] w fun e w'=>e=.returned (.tuple #[aX v,ah k,ah 0])∧w=w':=by have:=DW t w hsz;rw[h]at this;exact this
theorem Lj (t:ByteArray) (w:World) (c:Nat) (hsz:t.size≤100000) (h:vH t.data.toList=.error c):Calls Tryz.prog 54 #[.string t] w fun e w'=>e=.returned (.tuple #[aX 0,ah 0,ah c])∧w=w':=by have:=DW t w hsz;rw[h]at this;exact this
theorem Ll (s:ByteArray) (p:Nat) (w:World) (hp:p<s.size) (hs:s.size≤100000) (N k v:Nat) (hN:gU (s.data.toList.drop p)=N) (hL:dW (s[p].toNat:Int)=false) (hc:s[p]≠39) (hD:isDigit (s[p].toNat:Int)=true) (hnum:vH ((s.data.toList.drop p).take N)=.ok (k,N,v)):Calls Tryz.prog 22 #[.string s,.int .i64 p] w (oD s p w (.ok (k,N,v))):=by
 have cO:((s[p].toNat:Int))≤255:=by have:=s[p].toNat_lt;omega
 have hq:=fJ (s[p].toNat:Int);have hq2:=jB (s[p].toNat:Int);rw[hL]at hq;rw[hD]at hq2;have HQ:=ai hq;have Ik:=ai hq2;have zN:((s[p].toNat:Int)==39)=false:=by rw[beq_eq_false_iff_ne];exact fun e=>hc (gy 39 e)
 have hrl:p+N≤s.size:=by have:=iF (s.data.toList.drop p);simp at this;omega
 have HN:=ai hN;rw[←iG]at hnum;have HU:=ai hnum;have hse:Hid ((s.extract p (p+N)).size≤100000):=show _≤_ by rw[extract_size s p N hrl];omega
 clear hN hq hq2 hL hD hc hnum;go_enter Tryz.func22,Tryz.ntmps22;go_wp2_with (first|(go_at_call 51;refine(HQ.o _ om cO).mono ?_;rintro e w' ⟨rfl,rfl⟩)|(go_at_call 53;refine(Ik.o _ om cO).mono ?_;rintro e w' ⟨rfl,rfl⟩)|(go_at_call 52;refine(zI s p _ om hs).mono ?_;rintro e w' ⟨rfl,rfl⟩;rw[HN.o])|(go_at_call 54;refine(OY _ _ k N v hse.out HU.o).mono ?_;rintro e w' ⟨rfl,rfl⟩));refine bodyPost_ret (v:=.tuple #[.agg #[ah k,aI (s.extract p (p+N)),ah 0,ah 0,aX v],ah ((p+N:Nat):Int),ah 0]) (by simp[results,Tryz.results22,go_sem]) rfl ⟨rfl,?_⟩;exact(Step.refl _ w).alloc _
theorem Ey (s:ByteArray) (p:Nat) (w:World) (hp:p<s.size) (hs:s.size≤100000) (N c:Nat) (hN:gU (s.data.toList.drop p)=N) (hL:dW (s[p].toNat:Int)=false) (hc:s[p]≠39) (hD:isDigit (s[p].toNat:Int)=true) (hnum:vH ((s.data.toList.drop p).take N)=.error c) (hc0:c≠0):Calls Tryz.prog 22 #[.string s,.int .i64 p] w (oD s p w (.error c)):=by
 have cO:((s[p].toNat:Int))≤255:=by have:=s[p].toNat_lt;omega
 have hq:=fJ (s[p].toNat:Int);have hq2:=jB (s[p].toNat:Int);rw[hL]at hq;rw[hD]at hq2;have HQ:=ai hq;have Ik:=ai hq2;have zN:((s[p].toNat:Int)==39)=false:=by rw[beq_eq_false_iff_ne];exact fun e=>hc (gy 39 e)
 have hrl:p+N≤s.size:=by have:=iF (s.data.toList.drop p);simp at this;omega
 have hbc:((c:Int) !=0)=true:=by rw[bne_iff_ne];omega
 have HN:=ai hN;rw[←iG]at hnum;have HU:=ai hnum;have hse:Hid ((s.extract p (p+N)).size≤100000):=show _≤_ by rw[extract_size s p N hrl];omega
 clear hN hq hq2 hL hD hc hnum hc0;go_enter Tryz.func22,Tryz.ntmps22;go_wp2_with (first|(go_at_call 51;refine(HQ.o _ om cO).mono ?_;rintro e w' ⟨rfl,rfl⟩)|(go_at_call 53;refine(Ik.o _ om cO).mono ?_;rintro e w' ⟨rfl,rfl⟩)|(go_at_call 52;refine(zI s p _ om hs).mono ?_;rintro e w' ⟨rfl,rfl⟩;rw[HN.o])|(go_at_call 54;refine(Lj _ _ c hse.out HU.o).mono ?_;rintro e w' ⟨rfl,rfl⟩));refine bodyPost_ret (v:=.tuple #[.agg #[ah 0,dG,ah 0,ah 0,aX 0],ah 0,ah c]) (by simp[results,Tryz.results22,go_sem]) rfl ⟨rfl,?_⟩;exact(Step.refl _ w).alloc _
def lD:List (List UInt8):=[[45,62],[61,61],[38,38],[40],[41],[123],[125],[60],[62],[44],[59],[58],[61],[38],[124],[43],[45],[42],[47],[33],[46]]
def wH:Array Value:=(lD.map fun m=>Value.string ⟨m.toArray⟩).toArray
theorem Hl (i:Nat) (h:i<21):wH[i]?=some (.string ⟨(lD.getD i []).toArray⟩):=by have:i<lD.length:=h;simp[wH,List.getElem?_map,List.getD_eq_getElem?_getD,List.getElem?_eq_getElem this]
theorem OZ (w:World):Calls Tryz.prog 55 #[] w fun e w'=>e=.returned (.slice (some ⟨w.heap.size,0,none⟩) 21 21)∧w'=w.alloc (.cells wH 9):=by go_enter Tryz.func55,Tryz.ntmps55;go_wp2;go_ret;exact⟨rfl,rfl⟩
theorem O0 (c:UInt8) (r:List UInt8) (l:List UInt8):(l.map fun x=>[x]).find? (fun m=>m.isPrefixOf (c::r))=if l.contains c then some [c]else none:=by
 induction l with
 |nil=>rfl
 |cons x l ih=>
  rw[List.map_cons,List.find?_cons,ih,List.contains_cons];by_cases h:x=c
  ·subst h;simp[List.isPrefixOf]
  ·(have h1:(x==c)=false:=by rw[beq_eq_false_iff_ne];exact h);(have h2:(c==x)=false:=by rw[beq_eq_false_iff_ne];exact fun e=>h e.symm);simp[List.isPrefixOf,h1,h2]
theorem Lm (c:UInt8) (r:List UInt8):n_ (c::r)=match lD.find? (fun m=>m.isPrefixOf (c::r))with
  |some m=>.ok (5,m.length,0)
  |none=>.error 1:=by
 have hm:lD=[[45,62],[61,61],[38,38]]++([40,41,123,125,60,62,44,59,58,61,38,124,43,45,42,47,33,46]:List UInt8).map fun x=>[x]:=rfl
 rw[hm,List.find?_append,O0]
 have ho:([40,41,123,125,60,62,44,59,58,61,38,124,43,45,42,47,33,46]:List UInt8).contains c=uN c:=rfl
 rw[ho]
 cases r with
 |nil=>
  have:List.find? (fun m=>m.isPrefixOf [c]) [[45,62],[61,61],[38,38]]=none:=by
   simp[List.isPrefixOf]
  rw[this,n_]
  cases uN c<;>rfl
 |cons d r=>
  rw[n_]
  cases h2:qI c d
  ·
   have:List.find? (fun m=>m.isPrefixOf (c::d::r)) [[45,62],[61,61],[38,38]]=none:=by
     unfold qI at h2
     simp only[Bool.or_eq_false_iff]at h2
     obtain⟨⟨h2a,h2b⟩,h2c⟩:=h2
     have e:∀x y:UInt8,(c==x&&d==y)=false→List.isPrefixOf [x,y] (c::d::r)=false:=by
      intro x y h
      show((x==c)&&((y==d)&&true))=false
      rw[Bool.and_true,BEq.comm (a:=x),BEq.comm (a:=y)];exact h
     simp[e _ _ h2a,e _ _ h2b,e _ _ h2c]
   rw[this]
   cases uN c<;>rfl
  ·
   unfold qI at h2
   simp only[Bool.or_eq_true,Bool.and_eq_true,beq_iff_eq]at h2
   rcases h2 with(⟨rfl,rfl⟩|⟨rfl,rfl⟩)|⟨rfl,rfl⟩<;>simp[List.isPrefixOf]
def markR:Option (List UInt8)→Except Nat (Nat×Nat×Nat)
 |some m=>.ok (5,m.length,0)
 |none=>.error 1
theorem O1:∀i,i<21→1≤(lD.getD i []).length∧(lD.getD i []).length≤2:=by decide
theorem Lr (s m:ByteArray) (p:Nat) (_hp:p≤s.size):m.data.toList.isPrefixOf (s.data.toList.drop p)=(decide (p+m.size≤s.size)&&((s.extract p (p+m.size)).toList==m.toList)):=by
 rw[Lib.toList_data,Lib.toList_data,iG,Bool.eq_iff_iff,List.isPrefixOf_iff_prefix,Bool.and_eq_true,decide_eq_true_eq,beq_iff_eq,Lib.size_eq m,Lib.size_eq s];constructor
 ·intro h;have hl:=h.length_le;rw[List.length_drop]at hl;exact⟨by have:=Lib.size_eq s;omega,(List.prefix_iff_eq_take.1 h).symm⟩
 ·rintro⟨_,h⟩;rw[←h];exact List.take_prefix _ _
theorem TP (s:ByteArray) (p:Nat) (w:World) (hp:p<s.size) (hs:s.size≤100000) (hL:dW (s[p].toNat:Int)=false) (hc:s[p]≠39) (hD:isDigit (s[p].toNat:Int)=false) (r:Option (List UInt8)) (hr:lD.find? (fun m=>m.isPrefixOf (s.data.toList.drop p))=r):Calls Tryz.prog 22 #[.string s,.int .i64 p] w (oD s p w (markR r)):=by
 have cO:((s[p].toNat:Int))≤255:=by have:=s[p].toNat_lt;omega
 have hq:=fJ (s[p].toNat:Int);have hq2:=jB (s[p].toNat:Int);rw[hL]at hq;rw[hD]at hq2;have HQ:=ai hq;have Ik:=ai hq2;have zN:((s[p].toNat:Int)==39)=false:=by rw[beq_eq_false_iff_ne];exact fun e=>hc (gy 39 e)
 have HR:=ai hr;clear hq hq2 hL hD hc hr;go_enter Tryz.func22,Tryz.ntmps22;go_wp2_with (first|(go_at_call 51;refine(HQ.o _ om cO).mono ?_;rintro e w' ⟨rfl,rfl⟩)|(go_at_call 53;refine(Ik.o _ om cO).mono ?_;rintro e w' ⟨rfl,rfl⟩)|(go_at_call 55;refine(OZ _).mono ?_;rintro e w' ⟨rfl,rfl⟩))
 go_loopg [15] 21 (fun g s15 wr=>∃i n:Nat,i≤21∧21-i≤g∧s15=.int .i64 i∧(lD.drop i).find? (fun m=>m.isPrefixOf (s.data.toList.drop p))=r∧
  wr=((w.alloc (.cells #[ah 0,dG,ah 0,ah 0,aX 0] 38)).alloc (.cells wH 9)).drewN n)
 case atStart=>exact⟨0,0,by omega,by omega,rfl,HR.o,rfl⟩
 case round=>
  obtain⟨i,n,hi,hg,rfl,heq,rfl⟩:=hrel;have HE:=ai heq;clear heq;by_cases BU:i<21
  ·obtain⟨m,hm⟩:∃m:ByteArray,m=⟨(lD.getD i []).toArray⟩:=⟨_,rfl⟩;have hcell:=aj (qF w (.cells #[ah 0,dG,ah 0,ah 0,aX 0] 38) (.cells wH 9)) i _ (Hl i BU);rw[←hm]at hcell;have hml:=O1 i BU;(have hms:m.size=(lD.getD i []).length:=by rw[Lib.size_eq,hm]);rw[←hms]at hml;obtain⟨hm1,hm2⟩:=hml;(have hd:Hid (lD.drop i=m.data.toList::lD.drop (i+1)):=by show _=_;rw[List.drop_eq_getElem_cons (show i<lD.length from BU),hm,List.getD_eq_getElem?_getD,List.getElem?_eq_getElem (show i<lD.length from BU)];rfl);have HPC:=ai (Lr s m p (Nat.le_of_lt hp));have HMS:=ai hms;have HM:=ai hm;clear hms hm;by_cases hfit:p+m.size≤s.size
   ·(have hf1:decide ((p:Int)+m.size≤s.size)=true:=by rw[decide_eq_true_eq];omega);cases hcmp:((s.extract p (p+m.size)).toList==m.toList)
    ·(have hr0:Hid ((lD.drop (i+1)).find? (fun m=>m.isPrefixOf (s.data.toList.drop p))=r):=by show _=_;rw[←HE.o,hd.out,List.find?_cons,HPC.o,hcmp,Bool.and_false]);go_wp2;go_quiet (fail);go_wp2;go_roundg (gk-1);case rel=>exact⟨i+1,_,by omega,by omega,by go_num,hr0.out,rfl⟩
     case measure=>omega
    ·(have hr0:Hid (r=some m.data.toList):=by show _=_;rw[←HE.o,hd.out,List.find?_cons,HPC.o,hcmp,decide_eq_true hfit];rfl);(have hmv:Hid (m=s.extract p (p+m.size)):=by show _=_;have:=beq_iff_eq.1 hcmp;rw[Lib.toList_data,Lib.toList_data]at this;exact(yG this).symm);go_wp2;go_quiet (fail);go_wp2;rw[hr0.out];have hlen:m.data.toList.length=m.size:=(Lib.size_eq m).symm;refine bodyPost_ret (v:=.tuple #[.agg #[ah 5,aI m,ah 0,ah 0,aX 0],ah ((p:Int)+m.size),ah 0]) (by simp[results,Tryz.results22,go_sem]) rfl ⟨?_,?_⟩
     ·show _=Ending.returned (.tuple #[.agg #[ah 5,aI (s.extract p (p+m.data.toList.length)),ah 0,ah 0,aX 0],ah ((p+m.data.toList.length:Nat):Int),ah 0]);rw[hlen,←hmv.out];rfl
     ·exact((((Step.refl _ w).alloc _).alloc _).drewN _).five (Nat.le_refl _)
   ·(have hf1:decide ((p:Int)+m.size≤s.size)=false:=by rw[decide_eq_false_iff_not];omega);(have hr0:Hid ((lD.drop (i+1)).find? (fun m=>m.isPrefixOf (s.data.toList.drop p))=r):=by show _=_;rw[←HE.o,hd.out,List.find?_cons,HPC.o,decide_eq_false hfit,Bool.false_and]);go_wp2;go_quiet (fail);go_wp2;go_roundg (gk-1);case rel=>exact⟨i+1,_,by omega,by omega,by go_num,hr0.out,rfl⟩
    case measure=>omega
  ·(have hr0:Hid (r=none):=by show _=_;rw[←HE.o,show lD.drop i=[] from List.drop_of_length_le (by show 21≤i;omega)];rfl);go_wp2;rw[hr0.out];refine bodyPost_ret (v:=.tuple #[.agg #[ah 0,dG,ah 0,ah 0,aX 0],ah 0,ah 1]) (by simp[results,Tryz.results22,go_sem]) rfl ⟨rfl,?_⟩;exact((((Step.refl _ w).alloc _).alloc _).drewN _).five (Nat.le_refl _)
theorem O3 {c:UInt8} (h:kz (c.toNat:Int)=false):c.toNat<97∨122<c.toNat:=by
 unfold kz at h;by_cases h1:c.toNat<97
 ·exact .inl h1
 ·right;have h2:decide ((97:Int)≤c.toNat)=true:=by rw[decide_eq_true_eq];omega
  rw[h2,Bool.true_and,decide_eq_false_iff_not]at h;omega
theorem O4 {c:UInt8} (h:kz (c.toNat:Int)=true):97≤c.toNat∧c.toNat≤122:=by unfold kz at h;simp at h;omega
theorem DX (s:ByteArray) (p:Nat) (w:World) (hp:p<s.size) (hs:s.size≤100000):Calls Tryz.prog 22 #[.string s,.int .i64 p] w (oD s p w (jO (s.data.toList.drop p))):=by
 have hd:=drop_cons s p hp;rw[hd,jO,←hd];cases hL:dW (s[p].toNat:Int)
 ·rw[if_neg (by simp)];by_cases hc:s[p]=39
  ·rw[if_pos hc,hd,xk];by_cases hN0:gU (s.data.toList.drop (p+1))=0
   ·rw[if_pos (.inl hN0)];exact He s p w hp hs _ rfl hL hc hN0
   ·(have hlt1:p+1<s.size:=by have:=iF (s.data.toList.drop (p+1));simp at this;omega);have hd1:=drop_cons s (p+1) hlt1;(have hh:(s.data.toList.drop (p+1)).headD 0=s[p+1]:=by rw[hd1];rfl);cases hsm:kz (((s.data.toList.drop (p+1)).headD 0).toNat:Int)
    ·rw[if_pos (.inr rfl)];rw[hh]at hsm;rcases O3 hsm with h|h
     ·exact JD s p w hp hs _ rfl hL hc om hlt1 h
     ·exact Hf s p w hp hs _ rfl hL hc om hlt1 h
    ·rw[if_neg (fun e=>e.elim hN0 (by simp))];rw[hh]at hsm;obtain⟨h97,h122⟩:=O4 hsm;by_cases hlong:24<gU (s.data.toList.drop (p+1))
     ·rw[if_pos hlong];exact Hg s p w hp hs _ rfl hL hc om hlt1 h97 h122 hlong
     ·rw[if_neg hlong];exact TN s p w hp hs _ rfl hL hc om hlt1 h97 h122 om
  ·rw[if_neg hc];cases hD:isDigit (s[p].toNat:Int)
   ·rw[if_neg (by simp)];have:=TP s p w hp hs hL hc hD _ rfl;rw[hd,Lm,←hd];exact this
   ·rw[if_pos rfl];unfold nY;cases hn:vH ((s.data.toList.drop p).take (gU (s.data.toList.drop p)))with
    |error c=>refine Ey s p w hp hs _ c rfl hL hc hD hn ?_;(have:jO (s.data.toList.drop p)=.error c:=by rw[hd,jO,←hd,hL,if_neg (by simp),if_neg hc,hD,if_pos rfl,nY,hn]);exact wM this
    |ok x=>obtain⟨k,n,v⟩:=x;(have hl:n=gU (s.data.toList.drop p):=by have hle:=iF (s.data.toList.drop p);(have:((s.data.toList.drop p).take (gU (s.data.toList.drop p))).length=gU (s.data.toList.drop p):=by rw[List.length_take];omega);unfold vH at hn;rw[this]at hn;split at hn<;>split at hn<;>simp at hn<;>omega);subst hl;exact Ll s p w hp hs _ k v rfl hL hc hD hn
 ·rw[if_pos rfl];unfold xh;by_cases hn:24<gU (s.data.toList.drop p)
  ·rw[if_pos hn];exact G_ s p w hp hs _ rfl hL hn
  ·rw[if_neg hn];exact TL s p w hp hs _ rfl hL om
def allA (s:List UInt8) (k:Nat) (q:Nat×Nat×Nat) (acc:List Tok):Except (Nat×Nat×Nat) (List Tok):=
 if s.drop q.1=[]then .ok (acc++[⟨0,[],q.2.1,q.1-q.2.2+1,0⟩])
 else if acc.length=8000 then .error (2,q.2.1,q.1-q.2.2+1)
 else match jO (s.drop q.1)with
  | .error c=>.error (c,q.2.1,q.1-q.2.2+1)
  | .ok (kind,n,val)=>uj k ((s.drop q.1).drop n) (q.1+n) q.2.1 q.2.2 (acc++[⟨kind,(s.drop q.1).take n,q.2.1,q.1-q.2.2+1,val⟩])
theorem Fj (s:List UInt8) (k p l f:Nat) (acc:List Tok) (hf:f≤p):uj (k+1) (s.drop p) p l f acc=allA s k (dS false (s.drop p) p l f) acc:=by have hi:=xK (s.drop p) false p l f _ _ _ rfl hf;rw[uj,allA];simp only[List.drop_drop];rw[show p+((dS false (s.drop p) p l f).1-p)=(dS false (s.drop p) p l f).1 by omega];rfl
def Ls (B:Nat) (w:World) (r:Except (Nat×Nat×Nat) (List Tok)) (e:Ending) (w':World):Prop:=
 (match r with
  | .ok l=>∃v,e=.returned (.tuple #[v,.agg #[ah 0,ah 0,ah 0]])∧w'.ownsRow B 38 5 v l.length (pF l)
  | .error (c,ln,col)=>e=.returned (.tuple #[ak,.agg #[ah c,ah ln,ah col]]))∧jg w w'
theorem Tryz.TQ:(Tryz.prog.info? 38).map (fun i=>(i.zero,i.size,i.bytes))=some (some (.agg #[ah 0,dG,ah 0,ah 0,aX 0]),5,48):=by kernel_rfl
theorem O5 (s:ByteArray) (p:Nat) (w:World) (k n v:Nat) (hp:p<s.size) (hs:s.size≤100000) (h:jO (s.data.toList.drop p)=.ok (k,n,v)):
  Calls Tryz.prog 22 #[.string s,.int .i64 p] w fun e w'=>
   e=.returned (.tuple #[.agg #[ah k,aI (s.extract p (p+n)),ah 0,ah 0,aX v],ah ((p+n:Nat):Int),ah 0])∧jg w w':=by
 have:=DX s p w hp hs
 rw[h]at this
 exact this
theorem Lu (s:ByteArray) (p:Nat) (w:World) (c:Nat) (hp:p<s.size) (hs:s.size≤100000) (h:jO (s.data.toList.drop p)=.error c):
  Calls Tryz.prog 22 #[.string s,.int .i64 p] w fun e w'=>
   e=.returned (.tuple #[.agg #[ah 0,dG,ah 0,ah 0,aX 0],ah 0,ah c])∧jg w w':=by
 have:=DX s p w hp hs
 rw[h]at this
 exact this
theorem LC (s:ByteArray) (w:World) (hs:s.size≤20000):Calls Tryz.prog 7 #[.string s] w (Ls w.heap.size w (nP s.data.toList)):=by
 have HR:Hid (allA s.data.toList s.data.toList.length (dS false s.data.toList 0 1 0) []=nP s.data.toList):=by rw[nP,if_neg (by rw[←Lib.size_eq];omega)];exact(Fj s.data.toList s.data.toList.length 0 1 0 [] (Nat.le_refl _)).symm
 generalize Yq:nP s.data.toList=dI at*;clear Yq;obtain⟨i0,hi0,PZ,P5,P6⟩:=info_parts Tryz.TQ;have hi:=ai hi0;have hz0:=ai PZ;have hz1:=ai P5;have hz2:=ai P6;clear hi0 PZ P5 P6;have hsl:Hid (s.data.toList.length=s.size):=(Lib.size_eq s).symm;rw[hsl.out]at HR;go_enter Tryz.func7,Tryz.ntmps7;go_wp2_with fail
 go_loopg [4,5,6,7] (s.size+1) (fun g s4 s5 s6 s7 wr=>∃(p l f k:Nat) (toks:List Tok),s5=.int .i64 l∧s6=.int .i64 f∧s7=.int .i64 p∧f≤p∧p≤s.size∧l≤p+1∧toks.length≤8000∧s.size-p≤k∧s.size-p≤g∧
  allA s.data.toList k (dS false (s.data.toList.drop p) p l f) toks=dI∧
  wr.heap[w.heap.size]?=some (.cells #[ah 0,ah 0,ah 0] 33 (0,0))∧wr.ownsRow (w.heap.size+1) 38 5 s4 toks.length (pF toks)∧
  jg w wr∧w.heap.size+1≤wr.heap.size)
 case atStart=>exact⟨0,1,0,s.size,[],rfl,rfl,rfl,Nat.le_refl _,Nat.zero_le _,by omega,by simp,by omega,by omega,HR.o,aC w _,World.ownsRow_nil _ _ _ _,(Step.refl _ w).alloc _,by simp⟩
 case round=>
  obtain⟨p,l,f,k,toks,rfl,rfl,rfl,hf,hp,hl,htk,hk,hg,heq,hE,hown,hst,hsz⟩:=hrel;obtain⟨oa,oc,rfl⟩:=b_ hown;have HE:=ai heq;have HOW:=ai hown;have hEE:Hid (wr.heap[w.heap.size]?=_):=hE;obtain⟨⟨g0,g1,g2⟩,k0,k1,k2⟩:=qG hE;clear heq hown hE;have HC:Hid ((p:Int)-f+1=((p-f+1:Nat):Int)):=show _=_ by omega
  by_cases hend:p<s.size
  ·have hdr:=ai (drop_cons s p hend);(have cO:((s[p].toNat:Int))≤255:=by have:=s[p].toNat_lt;omega);by_cases h10:s[p]=10
   ·(have hr0:Hid (allA s.data.toList k (dS false (s.data.toList.drop (p+1)) (p+1) (l+1) (p+1)) toks=dI):=by show _=_;rw[←HE.o,hdr.out,dS,if_pos h10]);(have b10:((s[p].toNat:Int)==10)=true:=by rw[h10];rfl);clear h10;go_wp2;go_roundg (gk-1);case rel=>exact⟨p+1,l+1,p+1,k,toks,by go_num,by go_num,by go_num,by omega,by omega,by omega,htk,by omega,by omega,hr0.out,hEE.out,HOW.o,hst,hsz⟩
    case measure=>omega
   ·(have b10:((s[p].toNat:Int)==10)=false:=by rw[beq_eq_false_iff_ne];exact fun e=>h10 (gy 10 e));by_cases hsp:s[p]=32∨s[p]=9∨s[p]=13
    ·(have hr0:Hid (allA s.data.toList k (dS false (s.data.toList.drop (p+1)) (p+1) l f) toks=dI):=by show _=_;rw[←HE.o,hdr.out,rC hsp]);(have hcase:((s[p].toNat:Int)==32)=true∨(((s[p].toNat:Int)==32)=false∧((s[p].toNat:Int)==9)=true)∨(((s[p].toNat:Int)==32)=false∧((s[p].toNat:Int)==9)=false∧((s[p].toNat:Int)==13)=true):=by rcases hsp with h|h|h<;>rw[h]<;>decide);clear h10 hsp;(rcases hcase with b1|⟨b1,b2⟩|⟨b1,b2,b3⟩);all_goals
      go_wp2
      go_roundg (gk-1)
      case rel=>exact⟨p+1,l,f,k,toks,by go_num,by go_num,by go_num,by omega,by omega,by omega,htk,by omega,by omega,hr0.out,hEE.out,HOW.o,hst,hsz⟩
      case measure=>omega
    ·(have b32:((s[p].toNat:Int)==32)=false:=by rw[beq_eq_false_iff_ne];exact fun e=>hsp (.inl (gy 32 e)));(have b9:((s[p].toNat:Int)==9)=false:=by rw[beq_eq_false_iff_ne];exact fun e=>hsp (.inr (.inl (gy 9 e))));(have b13:((s[p].toNat:Int)==13)=false:=by rw[beq_eq_false_iff_ne];exact fun e=>hsp (.inr (.inr (gy 13 e))));have Ih:=ai h10;have HSP:=ai hsp;clear h10 hsp;by_cases Ho:s[p]=47∧(s.data.toList.drop (p+1)).head?=some 47
     ·have hp1:p+1<s.size:=by
       rcases Nat.lt_or_ge (p+1) s.size with h|h
       ·exact h
       ·rw[List.drop_of_length_le (by rw[hsl.out];exact h)]at Ho;simp at Ho
      (have h47:s[p+1]=47:=by have:=Ho.2;rw[drop_cons s (p+1) hp1]at this;simpa using this);(have b47:((s[p].toNat:Int)==47)=true:=by rw[Ho.1];rfl);(have c47:((s[p+1].toNat:Int)==47)=true:=by rw[h47];rfl);(have HI:Hid (allA s.data.toList k (dS true (s.data.toList.drop p) p l f) toks=dI):=by show _=_;rw[←HE.o,hdr.out,Ai Ho]);have PL:=Ih.o;clear Ho h47 HE Ih;obtain⟨wo,rfl⟩:=bF wr;obtain⟨gg,rfl⟩:∃g:Nat,g=gk:=⟨_,rfl⟩;have HN10:=ai PL;clear PL;go_wp2_with fail;go_loopg [7] s.size (fun g v wi=>∃p2:Nat,v=.int .i64 p2∧p≤p2∧p2≤s.size∧s.size-p2≤g∧allA s.data.toList k (dS true (s.data.toList.drop p2) p2 l f) toks=dI∧wi=wo);case atStart=>exact⟨p,rfl,Nat.le_refl _,hp,by omega,HI.o,rfl⟩
      case round=>
       obtain⟨p2,rfl,hpp,hp2,hg2,heq2,rfl⟩:=hrel;have HE2:=ai heq2;clear heq2;by_cases hlt2:p2<s.size
       ·have PN:=ai (drop_cons s p2 hlt2);by_cases h10:s[p2]=10
        ·(have Ym:((s[p2].toNat:Int) !=10)=false:=by rw[h10];rfl);have hpp2:p<p2:=by
          rcases Nat.lt_or_ge p p2 with h|h
          ·exact h
          ·(have:p=p2:=by omega);subst this;exact absurd h10 HN10.o
         (have hr0:Hid (allA s.data.toList k (dS false (s.data.toList.drop p2) p2 l f) toks=dI):=by show _=_;rw[←HE2.o,PN.out,BL h10]);clear h10;go_wp2;go_roundg (gg-1);case rel=>exact⟨p2,l,f,k,toks,by go_num,by go_num,by go_num,by omega,by omega,by omega,htk,by omega,by omega,hr0.out,hEE.out,HOW.o,hst,hsz⟩
         case measure=>omega
        ·(have Ym:((s[p2].toNat:Int) !=10)=true:=by rw[bne_iff_ne];exact fun e=>h10 (gy 10 e));(have hr0:Hid (allA s.data.toList k (dS true (s.data.toList.drop (p2+1)) (p2+1) l f) toks=dI):=by show _=_;rw[←HE2.o,PN.out,dS,if_neg h10]);clear h10;go_wp2;go_roundg (gk-1);case rel=>exact⟨p2+1,by go_num,by omega,by omega,by omega,hr0.out,rfl⟩
         case measure=>omega
       ·(have hr0:Hid (allA s.data.toList k (dS false (s.data.toList.drop p2) p2 l f) toks=dI):=by show _=_;rw[←HE2.o,List.drop_of_length_le (by rw[hsl.out];omega)];rfl);go_wp2;go_roundg (gg-1);case rel=>exact⟨p2,l,f,k,toks,by go_num,by go_num,by go_num,by omega,by omega,by omega,htk,by omega,by omega,hr0.out,hEE.out,HOW.o,hst,hsz⟩
        case measure=>omega
     ·(have hstop:Hid (allA s.data.toList k (p,l,f) toks=dI):=by show _=_;rw[←HE.o,hdr.out,Ah Ih.o HSP.o Ho]);have hcase:((s[p].toNat:Int)==47)=false∨(((s[p].toNat:Int)==47)=true∧decide ((p:Int)+1<s.size)=false)∨(∃h:p+1<s.size,((s[p].toNat:Int)==47)=true∧decide ((p:Int)+1<s.size)=true∧((s[p+1].toNat:Int)==47)=false):=by
       by_cases h47:s[p]=47
       ·right;(have e47:((s[p].toNat:Int)==47)=true:=by rw[h47];rfl);by_cases hp1:p+1<s.size
        ·right;refine⟨hp1,e47,by rw[decide_eq_true_eq];omega,?_⟩;rw[beq_eq_false_iff_ne];intro e;refine Ho ⟨h47,?_⟩;rw[drop_cons s (p+1) hp1,gy 47 e];rfl
        ·exact .inl ⟨e47,by rw[decide_eq_false_iff_not];omega⟩
       ·exact .inl (by rw[beq_eq_false_iff_ne];exact fun e=>h47 (gy 47 e))
      (have hne:Hid (s.data.toList.drop p≠[]):=fun e=>by rw[hdr.out]at e;simp at e);clear Ho HE Ih HSP;by_cases h8:toks.length=8000
      ·(have hr0:Hid (dI=.error (2,l,p-f+1)):=by show _=_;rw[←hstop.out,allA,if_neg hne.out,if_pos h8]);(have hb2:((toks.length:Int)==8000)=true:=by rw[h8];rfl);clear h8;(rcases hcase with b1|⟨b1,b2⟩|⟨hp1,b1,b2,b3⟩);all_goals
        go_wp2
        refine bodyPost_ret (v:=.tuple #[ak,.agg #[ah 2,ah l,ah ((p:Int)-f+1)]]) (by simp[results,Tryz.results7,go_sem,g0,g1,g2]) rfl ?_
        rw[hr0.out]
        exact⟨by rw[HC.o];rfl,hst.three (Nat.le_refl _)⟩
      ·(have hb2:((toks.length:Int)==8000)=false:=by rw[beq_eq_false_iff_ne];omega);cases hn:jO (s.data.toList.drop p)with
       |error c=>
        (have hr0:Hid (dI=.error (c,l,p-f+1)):=by show _=_;rw[←hstop.out,allA,if_neg hne.out,if_neg h8,hn]);(have hc0:((c:Int) !=0)=true:=by rw[bne_iff_ne];have:=wM hn;omega);have HN:=ai hn;clear hn h8;(rcases hcase with b1|⟨b1,b2⟩|⟨hp1,b1,b2,b3⟩);all_goals
         go_wp2_with fail
         refine(Lu s p _ c hend om HN.o).mono ?_
         rintro e w3 ⟨rfl,hst3⟩
         obtain⟨⟨g0',g1',g2'⟩,k0',k1',k2'⟩:=qG (hst3.keep hEE.out (fun h=>h))
         have hz3:=hst3.size
         have Il:w.heap.size<w3.heap.size:=by omega
         go_wp2
         refine bodyPost_ret (v:=.tuple #[ak,.agg #[ah c,ah l,ah ((p:Int)-f+1)]]) (by simp[results,Tryz.results7,go_sem,g0',g1',g2',Il]) rfl ?_
         rw[hr0.out]
         exact⟨by rw[HC.o],(((hst.trans hst3).three (Nat.le_refl _)).alloc _)⟩
       |ok x=>
        obtain⟨kind,n,val⟩:=x;obtain⟨hn1,hn2,_⟩:=wL hn;rw[List.length_drop,hsl.out]at hn2;obtain⟨k',rfl⟩:∃k',k=k'+1:=⟨k-1,by omega⟩;(have hr0:Hid (allA s.data.toList k' (dS false (s.data.toList.drop (p+n)) (p+n) l f) (toks++[⟨kind,(s.data.toList.drop p).take n,l,p-f+1,val⟩])=dI):=by show _=_;have e:=hstop.out;rw[allA,if_neg hne.out,if_neg h8,hn]at e;rw[←Fj _ _ _ _ _ _ om,←List.drop_drop];exact e);have HN:=ai hn;clear hn;(rcases hcase with b1|⟨b1,b2⟩|⟨hp1,b1,b2,b3⟩);all_goals
         go_wp2_with fail
         refine(O5 s p _ kind n val hend om HN.o).mono ?_
         rintro e w3 ⟨rfl,hst3⟩
         have qf:Hid (w3.heap[w.heap.size]?=some (.cells #[ah 0,ah 0,ah 0] 33 (0,0))):=hst3.keep hEE.out (fun h=>h)
         have hz3:=hst3.size
         have Il:w.heap.size<w3.heap.size:=by omega
         have P7:Hid (w3.ownsRow (w.heap.size+1) 38 5 (.slice oa toks.length oc) toks.length (pF toks)):=hst3.owns HOW.o (fun k hk h=>h)
         have hw3:=hst.trans hst3
         go_wp2_with (at_builtin;refine wpList_append_own _ rfl _ _ 31 rfl (w.heap.size+1) 38 i0 (.agg #[ah 0,dG,ah 0,ah 0,aX 0]) 5 48 Tryz.underlying31 hi.out hz0.out hz1.out hz2.out rfl dc _ _ _ rfl ((P7.o.alloc _).alloc _) ⟨w3.heap.size+1,0,none⟩ 1 1 [.int .i64 kind,.string (s.extract p (p+n)),.int .i64 l,.int .i64 ((p:Int)-f+1),.int .u64 val] rfl rfl ?_ ?_ ?_ ?_ ?_ ?_)
         ·
          exact oL (cs:=[_,_,_,_,_]) (qF _ _ _)
         ·
          intro u hu;simp at hu;rcases hu with rfl|rfl|rfl|rfl|rfl<;>rfl
         ·
          unfold maxLen;omega
         ·
          omega
         ·
          simp;omega
         intro v' w4 hown4 hgrow _
         have hrow:=wI P7.o
         have H4:=ai hown4
         have HG:=ai hgrow
         have HRW:=ai hrow
         clear hown4 hgrow hrow
         go_wp2
         go_roundg (gk-1)
         case rel=>
          refine⟨p+n,l,f,k',toks++[⟨kind,(s.data.toList.drop p).take n,l,p-f+1,val⟩],by go_num,by go_num,by go_num,by omega,by omega,by omega,by simp;omega,by omega,by omega,hr0.out,tZ HG.o (aT (aT qf.o)) (fun k hk=>by have:=HRW.o k hk;omega),?_,?_,?_⟩
          ·
           have:=H4.o
           rw[uh,List.length_append]
           rw[HC.o,EI]at this
           exact this
          ·
           exact((hw3.alloc _).alloc _).grown HG.o (fun k hk hlt=>by have:=HRW.o k hk;omega)
          ·
           have:=HG.o.size
           simp at this;omega
         case measure=>omega
  ·(have hr0:Hid (dI=.ok (toks++[⟨0,[],l,p-f+1,0⟩])):=by show _=_;have hnil:s.data.toList.drop p=[]:=List.drop_of_length_le (by rw[hsl.out];omega);rw[←HE.o,hnil,dS,allA,if_pos (by exact hnil)]);go_wp2_with (at_builtin;refine wpList_append_own _ rfl _ _ 31 rfl (w.heap.size+1) 38 i0 (.agg #[ah 0,dG,ah 0,ah 0,aX 0]) 5 48 Tryz.underlying31 hi.out hz0.out hz1.out hz2.out rfl dc _ _ _ rfl (HOW.o.alloc _) ⟨wr.heap.size,0,none⟩ 1 1 [.int .i64 0,.string ⟨#[]⟩,.int .i64 l,.int .i64 ((p:Int)-f+1),.int .u64 0] rfl rfl ?c1 ?c2 ?c3 ?c4 ?c5 ?_);case c1=>exact oL (cs:=[_,_,_,_,_]) (aC _ _)
   (case c2=>intro u hu;simp at hu;rcases hu with rfl|rfl|rfl|rfl|rfl<;>rfl);case c3=>unfold maxLen;omega
   (case c4=>omega);case c5=>simp;omega
   intro v' w3 hown3 hgrow _;have hrow:=wI HOW.o;obtain⟨⟨g0',g1',g2'⟩,k0',k1',k2'⟩:=qG (tZ hgrow (aT hEE.out) (fun k hk=>by have:=hrow k hk;omega));have hst3:jg w w3:=(hst.alloc _).grown hgrow (fun k hk hlt=>by have:=hrow k hk;omega);have H3:=ai hown3;clear hown3 hgrow hrow;go_wp2;refine bodyPost_ret (v:=.tuple #[v',.agg #[ah 0,ah 0,ah 0]]) (by simp[results,Tryz.results7,go_sem,g0',g1',g2']) rfl ?_;rw[hr0.out];refine⟨⟨v',rfl,?_⟩,?_⟩
   ·have:=Cc (r:=w.heap.size) (v0:=.int .i64 0) (v1:=.int .i64 0) (v2:=.int .i64 0) H3.o om;rw[uh,List.length_append];rw[HC.o]at this;exact EC this om
   ·exact hst3.three (Nat.le_refl _)
theorem Nh (toks:List Tok) (bt bo:Nat) (vt:Value) (w:World) (D:Nat→Prop) (ln cl:Int) (tx:ByteArray) (hbt:w.heap[bt]?=some (.cells #[vt] 31 (0,0))) (hrow:dh w D vt toks.length (pF toks)) (JJ:lC bo w) (hex:∃t∈toks,ln=t.line∧cl=t.col∧tx=lX t.text) (hl:toks.length≤1000000):Calls Tryz.prog 8 #[.agg #[ah ln,ah cl],.string tx,.pointer (some ⟨bt,0,none⟩),.pointer (some ⟨bo,0,none⟩)] w fun e w'=>e=.returned (.tuple #[])∧lC bo w'∧Step (·=bo) w w':=by
 obtain⟨a,c,rfl,-,-,-,hr⟩:=hrow;have HR:=ai hr;have HEX:=ai hex;obtain⟨n,hn⟩:=bF toks.length;have HN:=ai hn;rw[←hn]at hbt hl;obtain⟨W,hW⟩:=bF (w.alloc (.cells #[ah ln,ah cl] 25));have ST0:Hid (Step Sf w W):=by rw[hW];exact bg.alloc _
 have HP0:Hid (∀X,Step Sf W X→X.cell? ⟨w.heap.size,0,none⟩=some (.int .i64 ln)):=by intro X hX;rw[hW]at hX;exact aj (hX.keep (aC _ _) (fun h=>h)) 0 _ rfl
 have kK:Hid (∀X,Step Sf W X→X.cell? ⟨w.heap.size,1,none⟩=some (.int .i64 cl)):=by intro X hX;rw[hW]at hX;exact aj (hX.keep (aC _ _) (fun h=>h)) 1 _ rfl
 have WT:Hid (∀X,Step Sf W X→X.cell? ⟨bt,0,none⟩=some (.slice a n c)):=show∀X,_ from fun X hX=>aj ((ST0.o.trans hX).keep hbt (fun h=>h)) 0 _ rfl;have nM:=ai (ST0.o.keep JJ (fun h=>h));have HW:=ai hW;clear hr hex hn hbt JJ hW;go_enter Tryz.func8,Tryz.ntmps8;go_upto_region 1 with fail
 rw[←HW.o];go_wp2_with fail;go_loopg [6,7] n (fun gg s6 s7 wr=>∃(i:Nat) (b:Bool),s6=.bool b∧s7=.int .i64 i∧i≤n∧n-i≤gg∧(∀(k:Nat) t,k<i→toks[k]?=some t→ln=t.line→cl=t.col→tx=lX t.text→b=true)∧Step Sf W wr);case atStart=>exact⟨0,false,rfl,rfl,Nat.zero_le _,by omega,(fun k t h=>absurd h (Nat.not_lt_zero k)),Step.refl _ _⟩
 case round=>
  obtain⟨i,b,rfl,rfl,hi,hg,hb,hst⟩:=hrel;have X4:=ai hb;have HST:=ai hst;have ct:=WT.o wr hst;clear hb hst;by_cases hlt:i<n
  ·skip
   obtain⟨t,ht⟩:∃t,toks[i]?=some t:=⟨toks[i]'(by rw[←HN.o];exact hlt),List.getElem?_eq_getElem _⟩
   obtain⟨g,o,rfl,h6,h7,h9⟩:=HR.o (by rw[←HN.o];omega)
   have hcell:∀(j:Nat) u,t.cells[j]?=some u→∀X,Step Sf W X→X.cell? ⟨g,o+i*5+j,none⟩=some u:=by
    intro j u hu X hX
    rw[Nat.add_assoc]
    exact hX.cell (ST0.o.cell (h9 _ _ (qx toks i t ht j u hu)) (fun h=>h)) (fun h=>h)
   have MR:Hid (∀X,Step Sf W X→X.cell? ⟨g,o+i*5+1,none⟩=some (.string ⟨t.text.toArray⟩)):=show∀X,_ from hcell 1 _ rfl
   have HC2:Hid (∀X,Step Sf W X→X.cell? ⟨g,o+i*5+2,none⟩=some (.int .i64 t.line)):=show∀X,_ from hcell 2 _ rfl
   have Fh:Hid (∀X,Step Sf W X→X.cell? ⟨g,o+i*5+3,none⟩=some (.int .i64 t.col)):=show∀X,_ from hcell 3 _ rfl
   have HT:=ai ht
   have TR:∀b':Bool,(b=true→b'=true)→(ln=t.line→cl=t.col→tx=lX t.text→b'=true)→∀(k:Nat) t,k<i+1→toks[k]?=some t→ln=t.line→cl=t.col→tx=lX t.text→b'=true:=by
    intro b' h1 h2 k t' hk ht' a1 a2 a3
    by_cases e:k=i
    ·
     subst e
     rw[HT.o]at ht'
     cases ht'
     exact h2 a1 a2 a3
    ·
     exact h1 (X4.o k t' om ht' a1 a2 a3)
   have H7:=ai TR
   clear hcell h6 h7 h9 ht TR
   cases b with
   |true=>
    go_upto_region 5 with fail
    refine au W (Sp.p (.bool true)::Sp.p (.bool true)::Sp.p undef::Sp.p undef::Sp.p undef::Sp.p undef::Sp.p undef::Sp.p undef::Sp.p undef::Sp.p undef::Sp.p undef::Sp.p undef::Sp.p undef::Sp.p undef::Sp.p undef::Sp.p undef::Sp.p undef::Sp.p undef::Sp.p undef::Sp.p undef::Sp.p undef::Sp.p undef::Sp.p undef::Sp.p undef::Sp.p undef::Sp.p undef::Sp.p undef::Sp.p undef::Sp.p undef::Sp.p undef::Sp.p undef::Sp.p undef::Sp.p undef::Sp.p (.bool true)::Sp.p (.bool true)::[]) kr HST.o (iR (Nat.le_refl _)) ?_ kr ?_
    ·
     refine OB.p ?_
     refine OB.p ?_
     refine OB.no ?_
     refine OB.no ?_
     refine OB.no ?_
     refine OB.no ?_
     refine OB.no ?_
     refine OB.no ?_
     refine OB.no ?_
     refine OB.no ?_
     refine OB.no ?_
     refine OB.no ?_
     refine OB.no ?_
     refine OB.no ?_
     refine OB.no ?_
     refine OB.no ?_
     refine OB.no ?_
     refine OB.no ?_
     refine OB.no ?_
     refine OB.no ?_
     refine OB.no ?_
     refine OB.no ?_
     refine OB.no ?_
     refine OB.no ?_
     refine OB.no ?_
     refine OB.no ?_
     refine OB.no ?_
     refine OB.no ?_
     refine OB.no ?_
     refine OB.no ?_
     refine OB.no ?_
     refine OB.no ?_
     refine OB.no ?_
     refine OB.p ?_
     refine OB.p ?_
     exact OB.nil
    intro V X f hX hf
    simp only[dm,Bj]
    go_wp2_with fail
    go_roundg (gk-1)
    case rel=>exact⟨i+1,true,rfl,by go_num,by omega,by omega,H7.o _ iV (fun _ _ _=>rfl),hX⟩
    case measure=>omega
   |false=>
    by_cases hl1:ln=t.line
    ·skip
     have hb1:((t.line:Int)==ln)=true:=by rw[hl1];exact beq_self_eq_true _
     clear hl1
     by_cases hl2:cl=t.col
     ·skip
      have hb2:((t.col:Int)==cl)=true:=by rw[hl2];exact beq_self_eq_true _
      clear hl2
      by_cases hl3:tx=⟨#[]⟩
      ·skip
       subst hl3
       go_upto_region 5 with fail
       refine au W (Sp.p (.bool false)::Sp.p (.bool false)::Sp.p (.slice (some ⟨g,o,none⟩) n c)::Sp.p (.int .i64 i)::Sp.p (.pointer (some ⟨g,o+i*5,none⟩))::Sp.p (.pointer (some ⟨g,o+i*5+2,none⟩))::Sp.p (.int .i64 t.line)::Sp.p (.pointer (some ⟨w.heap.size,0,none⟩))::Sp.p (.int .i64 ln)::Sp.p (.bool true)::Sp.p (.bool true)::Sp.p (.slice (some ⟨g,o,none⟩) n c)::Sp.p (.int .i64 i)::Sp.p (.pointer (some ⟨g,o+i*5,none⟩))::Sp.p (.pointer (some ⟨g,o+i*5+3,none⟩))::Sp.p (.int .i64 t.col)::Sp.p (.pointer (some ⟨w.heap.size,1,none⟩))::Sp.p (.int .i64 cl)::Sp.p (.bool true)::Sp.p (.bool true)::Sp.p (.bool true)::Sp.p (.string ⟨#[]⟩)::Sp.p (.bool true)::Sp.p (.bool true)::Sp.p undef::Sp.p undef::Sp.p undef::Sp.p undef::Sp.p undef::Sp.p undef::Sp.p undef::Sp.p (.bool true)::Sp.p (.bool true)::Sp.p (.bool true)::Sp.p (.bool true)::[]) kr HST.o (iR (Nat.le_refl _)) ?_ kr ?_
       ·
        refine OB.p ?_
        refine OB.p ?_
        refine OB.p ?_ (fun X hX=>by have c:=WT.o X hX;go_simp)
        refine OB.p ?_
        refine OB.p ?_
        refine OB.p ?_
        refine OB.p ?_ (fun X hX=>by have c:=HC2.o X hX;go_simp)
        refine OB.p ?_
        refine OB.p ?_ (fun X hX=>by have c:=HP0.o X hX;go_simp)
        refine OB.p ?_
        refine OB.p ?_
        refine OB.p ?_ (fun X hX=>by have c:=WT.o X hX;go_simp)
        refine OB.p ?_
        refine OB.p ?_
        refine OB.p ?_
        refine OB.p ?_ (fun X hX=>by have c:=Fh.o X hX;go_simp)
        refine OB.p ?_
        refine OB.p ?_ (fun X hX=>by have c:=kK.o X hX;go_simp)
        refine OB.p ?_
        refine OB.p ?_
        refine OB.p ?_
        refine OB.p ?_
        refine OB.p ?_
        refine OB.p ?_
        refine OB.no ?_
        refine OB.no ?_
        refine OB.no ?_
        refine OB.no ?_
        refine OB.no ?_
        refine OB.no ?_
        refine OB.no ?_
        refine OB.p ?_
        refine OB.p ?_
        refine OB.p ?_
        refine OB.p ?_
        exact OB.nil
       intro V X f hX hf
       simp only[dm,Bj]
       go_wp2_with fail
       go_roundg (gk-1)
       case rel=>exact⟨i+1,true,rfl,by go_num,by omega,by omega,H7.o _ iV (fun _ _ _=>rfl),hX⟩
       case measure=>omega
      ·skip
       have hpos:0<tx.size:=by
        rcases Nat.eq_zero_or_pos tx.size with h|h
        ·
         exact absurd (tC h) hl3
        ·
         exact h
       have he:=jR tx hpos
       have he':=jF tx hpos
       obtain⟨be,hbe⟩:∃be,(t.text==tx.toList)=be:=⟨_,rfl⟩
       have HBE:Hid (tx=lX t.text→be=true):=by
        show _→_
        intro e
        rw[←hbe,e,Lib.toList_data]
        exact beq_self_eq_true _
       clear hpos hl3
       go_upto_region 5 with fail
       refine au W (Sp.p (.bool false)::Sp.p (.bool false)::Sp.p (.slice (some ⟨g,o,none⟩) n c)::Sp.p (.int .i64 i)::Sp.p (.pointer (some ⟨g,o+i*5,none⟩))::Sp.p (.pointer (some ⟨g,o+i*5+2,none⟩))::Sp.p (.int .i64 t.line)::Sp.p (.pointer (some ⟨w.heap.size,0,none⟩))::Sp.p (.int .i64 ln)::Sp.p (.bool true)::Sp.p (.bool true)::Sp.p (.slice (some ⟨g,o,none⟩) n c)::Sp.p (.int .i64 i)::Sp.p (.pointer (some ⟨g,o+i*5,none⟩))::Sp.p (.pointer (some ⟨g,o+i*5+3,none⟩))::Sp.p (.int .i64 t.col)::Sp.p (.pointer (some ⟨w.heap.size,1,none⟩))::Sp.p (.int .i64 cl)::Sp.p (.bool true)::Sp.p (.bool true)::Sp.p (.bool true)::Sp.p (.string tx)::Sp.p (.bool false)::Sp.p (.bool false)::Sp.p (.slice (some ⟨g,o,none⟩) n c)::Sp.p (.int .i64 i)::Sp.p (.pointer (some ⟨g,o+i*5,none⟩))::Sp.p (.pointer (some ⟨g,o+i*5+1,none⟩))::Sp.p (.string ⟨t.text.toArray⟩)::Sp.p (.string tx)::Sp.p (.bool be)::Sp.p (.bool be)::Sp.p (.bool be)::Sp.p (.bool be)::Sp.p (.bool be)::[]) kr HST.o (iR (Nat.le_refl _)) ?_ kr ?_
       ·
        refine OB.p ?_
        refine OB.p ?_
        refine OB.p ?_ (fun X hX=>by have c:=WT.o X hX;go_simp)
        refine OB.p ?_
        refine OB.p ?_
        refine OB.p ?_
        refine OB.p ?_ (fun X hX=>by have c:=HC2.o X hX;go_simp)
        refine OB.p ?_
        refine OB.p ?_ (fun X hX=>by have c:=HP0.o X hX;go_simp)
        refine OB.p ?_
        refine OB.p ?_
        refine OB.p ?_ (fun X hX=>by have c:=WT.o X hX;go_simp)
        refine OB.p ?_
        refine OB.p ?_
        refine OB.p ?_
        refine OB.p ?_ (fun X hX=>by have c:=Fh.o X hX;go_simp)
        refine OB.p ?_
        refine OB.p ?_ (fun X hX=>by have c:=kK.o X hX;go_simp)
        refine OB.p ?_
        refine OB.p ?_
        refine OB.p ?_
        refine OB.p ?_
        refine OB.p ?_
        refine OB.p ?_
        refine OB.p ?_ (fun X hX=>by have c:=WT.o X hX;go_simp)
        refine OB.p ?_
        refine OB.p ?_
        refine OB.p ?_
        refine OB.p ?_ (fun X hX=>by have c:=MR.o X hX;go_simp)
        refine OB.p ?_
        refine OB.p ?_
        refine OB.p ?_
        refine OB.p ?_
        refine OB.p ?_
        refine OB.p ?_
        exact OB.nil
       intro V X f hX hf
       simp only[dm,Bj]
       go_wp2_with fail
       go_roundg (gk-1)
       case rel=>exact⟨i+1,be,rfl,by go_num,by omega,by omega,H7.o _ lg (fun _ _ h=>HBE.o h),hX⟩
       case measure=>omega
     ·skip
      have hb2:((t.col:Int)==cl)=false:=by rw[beq_eq_false_iff_ne];exact fun e=>hl2 e.symm
      have HL2:=ai hl2
      clear hl2
      go_upto_region 5 with fail
      refine au W (Sp.p (.bool false)::Sp.p (.bool false)::Sp.p (.slice (some ⟨g,o,none⟩) n c)::Sp.p (.int .i64 i)::Sp.p (.pointer (some ⟨g,o+i*5,none⟩))::Sp.p (.pointer (some ⟨g,o+i*5+2,none⟩))::Sp.p (.int .i64 t.line)::Sp.p (.pointer (some ⟨w.heap.size,0,none⟩))::Sp.p (.int .i64 ln)::Sp.p (.bool true)::Sp.p (.bool true)::Sp.p (.slice (some ⟨g,o,none⟩) n c)::Sp.p (.int .i64 i)::Sp.p (.pointer (some ⟨g,o+i*5,none⟩))::Sp.p (.pointer (some ⟨g,o+i*5+3,none⟩))::Sp.p (.int .i64 t.col)::Sp.p (.pointer (some ⟨w.heap.size,1,none⟩))::Sp.p (.int .i64 cl)::Sp.p (.bool false)::Sp.p (.bool false)::Sp.p (.bool false)::Sp.p undef::Sp.p undef::Sp.p undef::Sp.p undef::Sp.p undef::Sp.p undef::Sp.p undef::Sp.p undef::Sp.p undef::Sp.p undef::Sp.p undef::Sp.p (.bool false)::Sp.p (.bool false)::Sp.p (.bool false)::[]) kr HST.o (iR (Nat.le_refl _)) ?_ kr ?_
      ·
       refine OB.p ?_
       refine OB.p ?_
       refine OB.p ?_ (fun X hX=>by have c:=WT.o X hX;go_simp)
       refine OB.p ?_
       refine OB.p ?_
       refine OB.p ?_
       refine OB.p ?_ (fun X hX=>by have c:=HC2.o X hX;go_simp)
       refine OB.p ?_
       refine OB.p ?_ (fun X hX=>by have c:=HP0.o X hX;go_simp)
       refine OB.p ?_
       refine OB.p ?_
       refine OB.p ?_ (fun X hX=>by have c:=WT.o X hX;go_simp)
       refine OB.p ?_
       refine OB.p ?_
       refine OB.p ?_
       refine OB.p ?_ (fun X hX=>by have c:=Fh.o X hX;go_simp)
       refine OB.p ?_
       refine OB.p ?_ (fun X hX=>by have c:=kK.o X hX;go_simp)
       refine OB.p ?_
       refine OB.p ?_
       refine OB.p ?_
       refine OB.no ?_
       refine OB.no ?_
       refine OB.no ?_
       refine OB.no ?_
       refine OB.no ?_
       refine OB.no ?_
       refine OB.no ?_
       refine OB.no ?_
       refine OB.no ?_
       refine OB.no ?_
       refine OB.no ?_
       refine OB.p ?_
       refine OB.p ?_
       refine OB.p ?_
       exact OB.nil
      intro V X f hX hf
      simp only[dm,Bj]
      go_wp2_with fail
      go_roundg (gk-1)
      case rel=>exact⟨i+1,false,rfl,by go_num,by omega,by omega,H7.o _ (fun h=>h) (fun _ h _=>absurd h HL2.o),hX⟩
      case measure=>omega
    ·skip
     have hb1:((t.line:Int)==ln)=false:=by rw[beq_eq_false_iff_ne];exact fun e=>hl1 e.symm
     have HL1:=ai hl1
     clear hl1
     go_upto_region 5 with fail
     refine au W (Sp.p (.bool false)::Sp.p (.bool false)::Sp.p (.slice (some ⟨g,o,none⟩) n c)::Sp.p (.int .i64 i)::Sp.p (.pointer (some ⟨g,o+i*5,none⟩))::Sp.p (.pointer (some ⟨g,o+i*5+2,none⟩))::Sp.p (.int .i64 t.line)::Sp.p (.pointer (some ⟨w.heap.size,0,none⟩))::Sp.p (.int .i64 ln)::Sp.p (.bool false)::Sp.p (.bool false)::Sp.p undef::Sp.p undef::Sp.p undef::Sp.p undef::Sp.p undef::Sp.p undef::Sp.p undef::Sp.p undef::Sp.p (.bool false)::Sp.p (.bool false)::Sp.p undef::Sp.p undef::Sp.p undef::Sp.p undef::Sp.p undef::Sp.p undef::Sp.p undef::Sp.p undef::Sp.p undef::Sp.p undef::Sp.p undef::Sp.p (.bool false)::Sp.p (.bool false)::Sp.p (.bool false)::[]) kr HST.o (iR (Nat.le_refl _)) ?_ kr ?_
     ·
      refine OB.p ?_
      refine OB.p ?_
      refine OB.p ?_ (fun X hX=>by have c:=WT.o X hX;go_simp)
      refine OB.p ?_
      refine OB.p ?_
      refine OB.p ?_
      refine OB.p ?_ (fun X hX=>by have c:=HC2.o X hX;go_simp)
      refine OB.p ?_
      refine OB.p ?_ (fun X hX=>by have c:=HP0.o X hX;go_simp)
      refine OB.p ?_
      refine OB.p ?_
      refine OB.no ?_
      refine OB.no ?_
      refine OB.no ?_
      refine OB.no ?_
      refine OB.no ?_
      refine OB.no ?_
      refine OB.no ?_
      refine OB.no ?_
      refine OB.p ?_
      refine OB.p ?_
      refine OB.no ?_
      refine OB.no ?_
      refine OB.no ?_
      refine OB.no ?_
      refine OB.no ?_
      refine OB.no ?_
      refine OB.no ?_
      refine OB.no ?_
      refine OB.no ?_
      refine OB.no ?_
      refine OB.no ?_
      refine OB.p ?_
      refine OB.p ?_
      refine OB.p ?_
      exact OB.nil
     intro V X f hX hf
     simp only[dm,Bj]
     go_wp2_with fail
     go_roundg (gk-1)
     case rel=>exact⟨i+1,false,rfl,by go_num,by omega,by omega,H7.o _ (fun h=>h) (fun h _ _=>absurd h HL1.o),hX⟩
     case measure=>omega
  ·skip
   have hb:b=true:=by
    obtain⟨t,htm,h1,h2,h3⟩:=HEX.o
    obtain⟨k,hk⟩:=List.getElem?_of_mem htm
    have hkl:=(List.getElem?_eq_some_iff.1 hk).1
    exact X4.o k t (by have:=HN.o;omega) hk h1 h2 h3
   subst hb
   have hF:=HST.o.keep nM.o (fun h=>h)
   have c0:=aj hF 0 _ rfl
   have hz:wr.frozen? ⟨bo,0,none⟩=false:=aG hF _
   go_wp2
   go_end0
   refine⟨rfl,?_,(((ST0.o.trans HST.o).mono fe).setCell _ _ iV)⟩
   exact aQ hF 0 (.bool true)
theorem Tryz.JE:(Tryz.prog.info? 25).map (·.size)=some 2:=by kernel_rfl
theorem Step.back {S T:Nat→Prop} {w w':World} (h:Step S w w') (ht:∀q,q<w.heap.size→S q→T q):Step T w w':=⟨h.os,h.tape,h.output,h.size,fun k hk hn=>h.block k hk (fun e=>hn (ht k hk e))⟩
def AV (fl:Nat):Rb:=⟨fun _ X P=>lC fl X∧P fl,⟨fun hs hp h=>⟨hs.keep h.1 (hp fl h.2),h.2⟩,fun hp h=>⟨h.1,hp fl (aP h.1) h.2⟩⟩⟩
def TT (s:ByteArray):Rb:=⟨fun v X P=>∃g,v=.pointer (some ⟨g,0,none⟩)∧X.cell? ⟨g,0,none⟩=some (.string s)∧P g,⟨fun hs hp ⟨g,h1,h2,h3⟩=>⟨g,h1,hs.cell h2 (hp g h3),h3⟩,fun hp ⟨g,h1,h2,h3⟩=>⟨g,h1,h2,hp g (World.block_lt_of_cell? _ _ h2) h3⟩⟩⟩
section
variable {ops : Array Oper} {dD : List Sp} {N : Nat → Prop} {w1 : World} {o : Oper} {a : Act} {r : List Oper} {ss : List Sp}
theorem ON.c {out:Rb} {f:FuncId} {fn:Func} {xs:Array Operand} {ats:Array TypeId} (vs:Array Value) (hf:Tryz.prog.funcs[f]?=some fn) (hc:∀X,Step N w1 X→Calls Tryz.prog f vs X (Mk out X)) (h:uX ops dD N w1 r ss a) (ho:o.op=.call {callee:=.value (.func f),args:=xs,argTypes:=ats}:=by rfl) (hv:xs.map a.eval=vs:=by kernel_rfl) (hb:fn.body.isNone=false:=by kernel_rfl) (hn:(fn.name== "runtime.NumGoroutine")=false:=by kernel_rfl) (hw:Region.wanted o (yielded ops a.tmps)=true:=by kernel_rfl):uX ops dD N w1 (o::r) (.r [] out::ss) a:=ON.new (fun X hX=>Dk ho hv hf hb hn (hc X hX)) h hw
theorem ON.ld {ty:TypeId} {x:Operand} (b of:Nat) (cs:List Value) (d:TypeDesc) (hc:∀X,Step N w1 X→∀(j:Nat) v,cs[j]?=some v→X.cell? ⟨b,of+j,none⟩=some v) (hu:Tryz.prog.underlying ty=some d) (hi:(Tryz.prog.info? ty).map (·.size)=some cs.length) (h:uX ops dD N w1 r ss (a.put o.dst (.agg cs.toArray))) (ho:o.op=.load ty x:=by rfl) (hx:a.eval x=.pointer (some ⟨b,of,none⟩):=by kernel_rfl) (hd:d.isRow=true:=by rfl) (hw:Region.wanted o (yielded ops a.tmps)=true:=by kernel_rfl):uX ops dD N w1 (o::r) (.p (.agg cs.toArray)::ss) a:=
 ON.p h (fun X hX=>wp_load_mid ty x ho b of hx cs d (hc X hX) hu hd hi ⟨rfl,rfl⟩) hw
theorem ON.ui {out o1 o2:Rb} {k1 k2:Nat} (t1:Tmp) (hy:∀X v1 v2 C D,Step N w1 X→o1.r v1 X C→o2.r v2 X D→(∀q,C q→N q)→(∀q,D q→N q∧¬C q)→Bh Tryz.prog o out (fun q=>C q∨D q) (a.put (some t1) v1) X) (h:uX ops dD N w1 r ss a) (hk1:(ku dD k1).out=o1.r:=by rfl) (hk2:(ku dD k2).out=o2.r:=by rfl) (ht1:dZ ops k1=some t1:=by rfl) (ht2:dZ ops k2=none:=by rfl) (hw:Region.wanted o (yielded ops a.tmps)=true:=by kernel_rfl):uX ops dD N w1 (o::r) (.r [k1,k2] out::ss) a:=
 ⟨⟨hw,fun X hX v1 C hv1 hC v2 D hv2 hD=>by
  unfold O_;rw[ht1,ht2]
  exact Bh.mono (fun _ e=>e.imp .inr id) (hy X v1 v2 C D hX (by rw[←hk1];exact hv1) (by rw[←hk2];exact hv2) (fun q hq=>(hC q hq).1) (fun q hq=>⟨(hD q hq).1,fun hc=>(hD q hq).2 (.inr hc)⟩))⟩,h⟩
theorem ON.ix {xs:List ByteArray} {s:ByteArray} {k:Nat} (t:Tmp) (hh:xs.head?=some s) (h:uX ops dD N w1 r ss a) (hy:∀X g n c,((0:Int)<((n+1:Nat):Int))→o.wp Tryz.prog (a.put (some t) (.slice (some ⟨g,0,none⟩) (n+1) c)) X (fun a' X'=>a'=(a.put (some t) (.slice (some ⟨g,0,none⟩) (n+1) c)).put o.dst (.pointer (some ⟨g,0,none⟩))∧X'=X) QN:=by intro X g n c hpos;go_simp) (hk:(ku dD k).out=(aH xs).r:=by rfl) (ht:dZ ops k=some t:=by rfl) (hw:Region.wanted o (yielded ops a.tmps)=true:=by kernel_rfl):uX ops dD N w1 (o::r) (.r [k] (TT s)::ss) a:=
 ON.u t (ok:=aH xs) (fun X v C _ hv _=>by
  obtain⟨x,r,rfl⟩:∃x r,xs=x::r:=by
   cases xs with
   |nil=>cases hh
   |cons x r=>exact⟨x,r,rfl⟩
  have hx:x=s:=by simpa using hh
  subst hx
  obtain⟨hown,hob⟩:=hv
  rcases hown.2 with⟨-,hz⟩|⟨g,cap,cur,rfl,-,hg,-⟩
  ·
   cases hz
  ·
   have hc0:X.cell? ⟨g,0,none⟩=some (.string x):=hown.cells (g:=g) rfl 0 (.string x) rfl
   exact Oper.wp_mono (fun a' X' ⟨h1,h2⟩=>⟨_,h1,by rw[h2];exact Step.refl _ _,g,rfl,by rw[h2];exact hc0,.inl (hob g rfl)⟩) (hy X g r.length cap om)) h hk ht hw
theorem ON.ls1 {s:ByteArray} {k:Nat} (t:Tmp) (h:uX ops dD N w1 r ss a) (hy:∀X g,X.cell? ⟨g,0,none⟩=some (.string s)→o.wp Tryz.prog (a.put (some t) (.pointer (some ⟨g,0,none⟩))) X (fun a' X'=>a'=(a.put (some t) (.pointer (some ⟨g,0,none⟩))).put o.dst (.string s)∧X'=X) QN:=by intro X g hc;go_simp) (hk:(ku dD k).out=(TT s).r:=by rfl) (ht:dZ ops k=some t:=by rfl) (hw:Region.wanted o (yielded ops a.tmps)=true:=by kernel_rfl):uX ops dD N w1 (o::r) (.r [k] (Aa s)::ss) a:=
 ON.u t (ok:=TT s) (fun X v C _ hv _=>by
  obtain⟨g,rfl,hc,-⟩:=hv
  exact Oper.wp_mono (fun a' X' ⟨h1,h2⟩=>⟨_,h1,by rw[h2];exact Step.refl _ _,rfl⟩) (hy X g hc)) h hk ht hw
end
def Nd (ts:List Tok) (x:Ex):Prop:=Pd ts x∧qA x∧(dM x).length≤100000000
mutual
theorem ae_nd {ts:List Tok}:∀x:Ex,wE (Pd ts) x→DC x≤10000→wE (Nd ts) x
 | .mk k nm v mu ar ns bo l c,h,hm=>by
  have h0:qA (.mk k nm v mu ar ns bo l c):=(DI _).1 _ (Nat.lt_succ_self _) (X_ _ h) om
  have h1:=Na (.mk k nm v mu ar ns bo l c)
  rw[wE]at h⊢
  have h2:(dM (.mk k nm v mu ar ns bo l c)).length≤100000000:=by omega
  rw[DC]at hm
  exact⟨⟨h.1,h0,h2⟩,Hq ar h.2.1 om,DY bo h.2.2 om⟩
theorem Hq {ts:List Tok}:∀l:List Ex,dK (Pd ts) l→jQ l≤10000→dK (Nd ts) l
 |[],_,_=>dK.nil _
 |x::r,h,hm=>by
  rw[dK]at h⊢
  rw[jQ]at hm
  exact⟨ae_nd x h.1 om,Hq r h.2 om⟩
theorem as_nd {ts:List Tok}:∀s:St,yu (Pd ts) s→stM s≤10000→yu (Nd ts) s
 | .mk k nm ty pl e bo el ot l c,h,hm=>by
  rw[yu]at h⊢
  rw[stM]at hm
  exact⟨Hq pl h.1 om,Hq e h.2.1 om,DY bo h.2.2.1 om,DY el h.2.2.2 om⟩
theorem DY {ts:List Tok}:∀l:List St,f_ (Pd ts) l→nH l≤10000→f_ (Nd ts) l
 |[],_,_=>f_.nil _
 |x::r,h,hm=>by
  rw[f_]at h⊢
  rw[nH]at hm
  exact⟨as_nd x h.1 om,DY r h.2 om⟩
end
theorem LD (toks:List Tok) (bt bf fl:Nat) (vt:Value) (W0:World) (D P:Nat→Prop) (hbt:W0.heap[bt]?=some (.cells #[vt] 31 (0,0))) (hrow:dh W0 D vt toks.length (pF toks)) (hbf:W0.heap[bf]?=some (.cells #[.func (.func 8) #[] #[gW bt 0,gW fl 0]] 39 (0,0))) (h1:bt≠fl) (h2:bf≠fl) (hD:∀q,D q→q≠fl) (hP:∀q,P q→q≠fl) (hl:toks.length≤1000000):Vis 11 [.pointer (some ⟨bf,0,none⟩)] fl P (Nd toks) W0:=by
 intro x cs w hnd hx hfl hst;obtain⟨⟨hvb,t,htm,hln,hcl,hhd⟩,hec,hlen⟩:=hnd;have hpat:∀(X:World) (s:ByteArray),Step (·=fl) W0 X→lC fl X→s=lX t.text→Calls Tryz.prog 8 #[.agg #[ah (ZV x),ah (ZW x)],.string s,.pointer (some ⟨bt,0,none⟩),.pointer (some ⟨fl,0,none⟩)] X fun e w'=>e=.returned (.tuple #[])∧lC fl w'∧Step (·=fl) X w':=
  fun X s hX hf hs=>Nh toks bt fl vt X D (ZV x) (ZW x) s (hX.keep hbt h1) (hrow.step hX (fun q hq=>hD q hq)) hf ⟨t,htm,hln,hcl,hs⟩ hl
 have O6:=ai hpat;have HHD:=ai hhd;have HEC:=ai hec;have HFLW:=ai hfl;have HSTW:=ai hst;have HBF:=ai hbf;clear hpat hhd hec hvb htm hln hcl hrow hbt hfl hst hbf;obtain⟨k,nm,v,mu,ar,ns,bo,l,c⟩:=x;have vk:=ai hx;rw[dA]at hx;obtain⟨va,vn,vb,xa,xb,rfl,-,-,-,hra,hrn,-,hrb⟩:=hx;obtain⟨aa,ca,rfl⟩:=hra.parts;obtain⟨an,cn,rfl⟩:=hrn.parts;obtain⟨ab,cb,rfl⟩:=hrb.parts;clear hra hrn hrb;obtain⟨W,hW⟩:=bF (w.alloc (.cells #[Value.int .i64 k,aI nm,aX v,bK mu,.slice aa ar.length ca,.slice an ns.length cn,.slice ab bo.length cb,ah l,ah c] 56));have ST0:Hid (Step Sf w W):=by rw[hW];exact bg.alloc _
 have hwlt:fl<w.heap.size:=aP HFLW.o;have d_:Hid (∀X,Step (·=fl) W X→X.heap[w.heap.size]?=some (.cells #[Value.int .i64 k,aI nm,aX v,bK mu,.slice aa ar.length ca,.slice an ns.length cn,.slice ab bo.length cb,ah l,ah c] 56 (0,0))):=by intro X hX;rw[hW]at hX;exact hX.keep (aC _ _) om
 have bJ:Hid (∀X,Step (·=fl) W X→∀(j:Nat) u,[Value.int .i64 k,aI nm,aX v,bK mu,.slice aa ar.length ca,.slice an ns.length cn,.slice ab bo.length cb,ah l,ah c][j]?=some u→X.cell? ⟨w.heap.size,0+j,none⟩=some u):=by intro X hX j u hu;rw[Nat.zero_add];exact aj (d_.o X hX) j u (by simpa using hu)
 have HF0:Hid (∀X,Step (·=fl) W X→X.cell? ⟨bf,0,none⟩=some (.func (.func 8) #[] #[.pointer (some ⟨bt,0,none⟩),.pointer (some ⟨fl,0,none⟩)])):=fun X hX=>aj (((HSTW.o.trans (ST0.o.mono fe)).trans hX).keep HBF.o h2) 0 _ rfl
 have HFW:=ai (ST0.o.keep HFLW.o (fun h=>h));have HW:=ai hW;have hW0:=(HSTW.o.trans (ST0.o.mono fe):Step (·=fl) W0 W);have HW0:=ai hW0;have hsz:w.heap.size≤W.heap.size:=ST0.o.size;have hpc:∀X,Step (·=fl) W X→∀(j:Nat) u,[Value.int .i64 l,ah c][j]?=some u→X.cell? ⟨w.heap.size,7+j,none⟩=some u:=by intro X hX j u hu;have h:=bJ.o X hX (7+j) u (by rw[Nat.add_comm];exact hu);rw[Nat.zero_add]at h;exact h
 have HPC:=ai hpc;have b0:=bJ.o W bg 0 _ rfl;rw[Nat.add_zero]at b0;have b1:=bJ.o W bg 1 _ rfl;rw[Nat.zero_add]at b1;have b7:=HPC.o W bg 0 _ rfl;have b8:=HPC.o W bg 1 _ rfl;rw[Nat.add_zero]at b7;have bfn:=HF0.o W bg;have HWN:=ai hlen;clear hW hW0 hpc hlen;by_cases h14:k=14
 ·skip
  subst h14
  have h:(if(14:Int)=14 then nm=lX t.text else if(14:Int)=6∨(14:Int)=13 then t.text=[46]else(dM (.mk 14 nm v mu ar ns bo l c)).head?=some (lX t.text)):=HHD.o
  have hs:nm=lX t.text:=by rw[if_pos rfl]at h;exact h
  have HS:=ai hs
  clear hs h
  go_enter Tryz.func11,Tryz.ntmps11
  go_upto_region 1 with fail
  rw[←HW.o]
  go_wp2_with fail
  refine(O6.o W _ HW0.o HFW.o HS.o).mono ?_
  rintro e w' ⟨rfl,hf,hst⟩
  go_wp2
  go_end0
  exact⟨rfl,hf,(ST0.o.mono fe).trans hst⟩
 ·skip
  by_cases h6:k=6
  ·skip
   subst h6
   have h:(if(6:Int)=14 then nm=lX t.text else if(6:Int)=6∨(6:Int)=13 then t.text=[46]else(dM (.mk 6 nm v mu ar ns bo l c)).head?=some (lX t.text)):=HHD.o
   have hs:(⟨#[46]⟩:ByteArray)=lX t.text:=by rw[if_neg dc,if_pos dc]at h;rw[h];rfl
   have HS:=ai hs
   clear hs h
   go_enter Tryz.func11,Tryz.ntmps11
   go_upto_region 1 with fail
   rw[←HW.o]
   go_wp2_with fail
   refine(O6.o W _ HW0.o HFW.o HS.o).mono ?_
   rintro e w' ⟨rfl,hf,hst⟩
   go_wp2
   go_end0
   exact⟨rfl,hf,(ST0.o.mono fe).trans hst⟩
  ·skip
   by_cases h13:k=13
   ·skip
    subst h13
    have h:(if(13:Int)=14 then nm=lX t.text else if(13:Int)=6∨(13:Int)=13 then t.text=[46]else(dM (.mk 13 nm v mu ar ns bo l c)).head?=some (lX t.text)):=HHD.o
    have hs:(⟨#[46]⟩:ByteArray)=lX t.text:=by rw[if_neg dc,if_pos dc]at h;rw[h];rfl
    have HS:=ai hs
    clear hs h
    go_enter Tryz.func11,Tryz.ntmps11
    go_upto_region 1 with fail
    rw[←HW.o]
    go_wp2_with fail
    refine(O6.o W _ HW0.o HFW.o HS.o).mono ?_
    rintro e w' ⟨rfl,hf,hst⟩
    go_wp2
    go_end0
    exact⟨rfl,hf,(ST0.o.mono fe).trans hst⟩
   ·skip
    have hh:(dM (.mk k nm v mu ar ns bo l c)).head?=some (lX t.text):=by
     have h:=HHD.o
     unfold Jv at h
     rw[if_neg (show¬(Ex.mk k nm v mu ar ns bo l c).kind=14 from h14),if_neg (show¬((Ex.mk k nm v mu ar ns bo l c).kind=6∨(Ex.mk k nm v mu ar ns bo l c).kind=13) from fun e=>e.elim h6 h13)]at h
     exact h
    have k14:(k==14)=false:=by rw[beq_eq_false_iff_ne];exact h14
    have k6:(k==6)=false:=by rw[beq_eq_false_iff_ne];exact h6
    have k13:(k==13)=false:=by rw[beq_eq_false_iff_ne];exact h13
    clear h14 h6 h13
    have HH:=ai hh
    obtain⟨N,hN⟩:∃N:Nat→Prop,N=fun q=>q=fl∨W.heap.size≤q:=⟨_,rfl⟩
    have HN:Hid (∀q,W.heap.size≤q→N q):=show∀q,_ from fun q h=>by rw[hN];exact .inr h
    have HNF:Hid (N fl):=show N fl by rw[hN];exact .inl rfl
    have HST:Hid (∀X,Step N W X→Step (·=fl) W X):=show∀X,_ from fun X h=>h.back (fun q hq e=>by rw[hN]at e;exact e.resolve_right om)
    clear hN hh
    go_enter Tryz.func11,Tryz.ntmps11
    go_upto_region 1 with fail
    rw[←HW.o]
    go_upto_region 2 with fail
    refine l_ N W [.p (.func (.func 8) #[] #[.pointer (some ⟨bt,0,none⟩),.pointer (some ⟨fl,0,none⟩)]),.p (.pointer (some ⟨w.heap.size,7,none⟩)),.p (.agg [Value.int .i64 l,ah c].toArray),.p (.agg [Value.int .i64 k,aI nm,aX v,bK mu,.slice aa ar.length ca,.slice an ns.length cn,.slice ab bo.length cb,ah l,ah c].toArray),.r [] (aH (dM (.mk k nm v mu ar ns bo l c))),.r [4] (TT (lX t.text)),.r [5] (Aa (lX t.text)),.r [6,8] (AV fl),.r [] (Kp (AV fl) undef)] HN.o kr bg (LJ (C:=(·=fl)) rfl rfl ⟨HFW.o,rfl⟩ (fun q e=>by rw[e];exact HNF.o)) ?_ kr ?_
    ·
     refine ON.p ?_ (fun X hX=>by have c:=HF0.o X (HST.o X hX);go_simp)
     refine ON.p ?_
     refine ON.ld w.heap.size 7 [Value.int .i64 l,ah c] _ (fun X hX=>HPC.o X (HST.o X hX)) Tryz.underlying25 Tryz.JE ?_
     refine ON.ld w.heap.size 0 [Value.int .i64 k,aI nm,aX v,bK mu,.slice aa ar.length ca,.slice an ns.length cn,.slice ab bo.length cb,ah l,ah c] _ (fun X hX=>bJ.o X (HST.o X hX)) Tryz.underlying56 Tryz.aO ?_
     refine ON.c #[.agg [Value.int .i64 k,aI nm,aX v,bK mu,.slice aa ar.length ca,.slice an ns.length cn,.slice ab bo.length cb,ah l,ah c].toArray] Tryz.func12 (fun X hX=>HEC.o _ X P (dA.step ((ST0.o.mono fe).trans (HST.o X hX)) (fun q hq e=>hP q hq e) _ _ vk.o) HWN.o) ?_
     refine ON.ix 9 HH.o ?_
     refine ON.ls1 10 ?_
     refine ON.ui 11 (o1:=Aa (lX t.text)) (o2:=AV fl) (fun X v1 v2 C D hX hv1 hv2 _ _=> ?_) ?_
     ·
      have hv1:v1=.string (lX t.text):=hv1
      subst hv1
      have hp:=O6.o X _ (HW0.o.trans (HST.o X hX)) hv2.1 rfl
      unfold Bh
      go_simp
      refine hp.mono ?_
      rintro e w' ⟨rfl,hf,hs⟩
      exact⟨hs.mono (fun q _ e=>.inr (by rw[e];exact hv2.2)),hf,.inl (.inr hv2.2)⟩
     exact OB.nil
    intro V X f hX hf
    have h7:(AV fl).r _ X _:=hf 7 kr
    have hX2:=HST.o X hX
    simp only[dm,Act.put,List.setIfInBounds_toArray,List.set_cons_zero,List.set_cons_succ,Nat.zero_add]
    go_wp2
    go_end0
    exact⟨rfl,h7.1,(ST0.o.mono fe).trans hX2⟩
theorem DZ {s:ByteArray} {l:List UInt8} (h:s.data.toList=l):s=⟨l.toArray⟩:=by obtain⟨⟨d⟩⟩:=s;have h:d=l:=h;rw[h]
def chkE (r:Except (Nat×Nat×Nat) Ex):Bool:=match r with
 | .ok (.mk k nm _ _ [.mk k1 _ _ _ _ _ _ _ _,.mk _ nm2 _ _ _ _ _ _ _] _ _ _ _)=>decide (k=14)&&decide (nm.data.toList=[43])&&decide (k1=6)&&decide (nm2.data.toList=[42])
 |_=>false
theorem WU {r:Except (Nat×Nat×Nat) Ex} (h:chkE r=true):∃v m nm1 v1 m1 as1 ns1 bs1 l1 c1 k2 v2 m2 as2 ns2 bs2 l2 c2 ns bs l c,r=.ok (.mk 14 ⟨#[43]⟩ v m [.mk 6 nm1 v1 m1 as1 ns1 bs1 l1 c1,.mk k2 ⟨#[42]⟩ v2 m2 as2 ns2 bs2 l2 c2] ns bs l c):=by
 unfold chkE at h;split at h
 ·simp only[Bool.and_eq_true,decide_eq_true_eq]at h;obtain⟨⟨⟨h1,h2⟩,h3⟩,h4⟩:=h;rw[DZ h2,DZ h4,h1,h3];exact⟨_,_,_,_,_,_,_,_,_,_,_,_,_,_,_,_,_,_,_,_,_,_,rfl⟩
 ·cases h
def chkP (r:Except (Nat×Nat×Nat) (List It)):Bool:=match r with
 | .ok [it]=>decide (it.name.data.toList=[102])
 |_=>false
theorem WV {r:Except (Nat×Nat×Nat) (List It)} (h:chkP r=true):∃it,r=.ok [it]∧it.name=⟨#[102]⟩:=by
 unfold chkP at h;split at h
 ·rename_i it;exact⟨it,rfl,DZ (of_decide_eq_true h)⟩
 ·cases h
theorem O7:chkE (MK [97,32,46,32,98,32,43,32,49,32,42,32,99])=true:=by kernel_rfl
theorem O8:chkP (wC [102,110,32,102,32,40,32,41,32,123,32,125])=true:=by kernel_rfl
set_option maxRecDepth 100000 in
set_option maxHeartbeats 4000000 in
theorem expr_text (s : ByteArray) (w : World) (m : Int) (hm : w.cell? ⟨0, 0, none⟩ = some (.int .i64 m)) : Calls Tryz.prog 14 #[.string s] w (ML (MK s.data.toList) w) := by
  obtain ⟨w1, hw1⟩ : ∃ w1 : World, w1 = (w.alloc (.cells #[.int .i64 0, .string ⟨#[]⟩, .int .u64 0, .bool false, .slice none 0 0, .slice none 0 0, .slice none 0 0, .int .i64 0, .int .i64 0] 56)).alloc (.cells #[.int .i64 0, .int .i64 0, .int .i64 0] 27) := ⟨_, rfl⟩
  have dH : Hid (Step (fun _ => False) w w1) := by show Step _ _ _; rw [hw1]; exact ((Step.refl _ _).alloc _).alloc _
  have kK : Hid (w1.heap[w.heap.size]? = some (.cells #[.int .i64 0, .string ⟨#[]⟩, .int .u64 0, .bool false, .slice none 0 0, .slice none 0 0, .slice none 0 0, .int .i64 0, .int .i64 0] 56 (0, 0))) := by show _ = _; rw [hw1]; exact aT (aC _ _)
  have lS : Hid (w1.heap[w.heap.size + 1]? = some (.cells #[.int .i64 0, .int .i64 0, .int .i64 0] 27 (0, 0))) := by show _ = _; rw [hw1]; exact qF _ _ _
  have HW1 := ai hw1
  have H7 := ai (ZU s w1 m (dH.o.cell hm (fun h => h)))
  have hn1 := aP lS.o
  have hsz := dH.o.size
  obtain ⟨r, hr⟩ : ∃ r, r = MK s.data.toList := ⟨_, rfl⟩
  rw [← hr] at H7 ⊢
  clear hm hw1 hr
  go_enter Tryz.func14, Tryz.ntmps14
  go_upto_region 1 with fail
  rw [← HW1.o]
  go_wp2_with fail
  refine H7.o.mono ?_
  rintro e w2 ⟨hp, h2⟩
  have HS2 := ai h2
  have HRS := ai (h2.keep kK.o (fun h => h))
  have SN := ai (h2.keep lS.o (fun h => h))
  have hz2 := h2.size
  cases r with
  | error q =>
    obtain ⟨c, ln, col⟩ := q
    have hp2 : e = .returned (.tuple #[.agg #[.int .i64 0, .string ⟨#[]⟩, .int .u64 0, .bool false, .slice none 0 0, .slice none 0 0, .slice none 0 0, .int .i64 0, .int .i64 0], .agg #[.int .i64 c, .int .i64 ln, .int .i64 col]]) := hp
    subst hp2
    clear hp h2
    go_wp2_with (first
      | (refine aB (w := w2) rfl 56 (.tmp 2) (.tmp 6) rfl (w.heap.size) 0 56 _ [.int .i64 0, .string ⟨#[]⟩, .int .u64 0, .bool false, .slice none 0 0, .slice none 0 0, .slice none 0 0, .int .i64 0, .int .i64 0] rfl rfl HRS.o Tryz.aO (Nat.le_of_eq rfl) (bn rfl) ?_
         intro w4 hb4 wS
         have V9 := wS.keep SN.o (by omega))
      | (refine aB (w := w4) rfl 27 (.tmp 3) (.tmp 7) rfl (w.heap.size + 1) 0 27 _ [.int .i64 c, .int .i64 ln, .int .i64 col] rfl rfl V9 Tryz.jL (Nat.le_of_eq rfl) (bn rfl) ?_
         intro w5 hb5 hst5))
    have P_ : w5.heap[w.heap.size]? = some (.cells [Value.int .i64 0, .string ⟨#[]⟩, .int .u64 0, .bool false, .slice none 0 0, .slice none 0 0, .slice none 0 0, .int .i64 0, .int .i64 0].toArray 56 (0, 0)) := hst5.keep hb4 (by omega)
    have Cm : w5.heap[w.heap.size + 1]? = some (.cells [Value.int .i64 c, .int .i64 ln, .int .i64 col].toArray 27 (0, 0)) := hb5
    refine bodyPost_ret (AO rfl _ (w.heap.size) (w.heap.size + 1) 56 27 [Value.int .i64 0, .string ⟨#[]⟩, .int .u64 0, .bool false, .slice none 0 0, .slice none 0 0, .slice none 0 0, .int .i64 0, .int .i64 0] [Value.int .i64 c, .int .i64 ln, .int .i64 col] _ _ rfl rfl P_ Tryz.underlying56 rfl Tryz.aO Cm Tryz.underlying27 rfl Tryz.jL) rfl ?_
    exact ⟨rfl, ((dH.o.trans HS2.o).then wS (fun q hq e => by omega)).then hst5 (fun q hq e => by omega)⟩
  | ok x =>
    obtain ⟨v, rfl, cs, rfl, hy⟩ : ∃ v, e = .returned (.tuple #[v, .agg #[.int .i64 0, .int .i64 0, .int .i64 0]]) ∧ zK w2 (fun q => w1.heap.size ≤ q) x v := hp
    obtain ⟨k0, iK, v0, iL, a1, n1, c1, a2, n2, c2, a3, n3, c3, l0, c0, rfl⟩ := hy.parts
    have HY := ai hy
    clear hy h2
    go_wp2_with (first
      | (refine aB (w := w2) rfl 56 (.tmp 2) (.tmp 6) rfl (w.heap.size) 0 56 _ [.int .i64 k0, .string iK, .int .u64 v0, .bool iL, .slice a1 n1 c1, .slice a2 n2 c2, .slice a3 n3 c3, .int .i64 l0, .int .i64 c0] rfl rfl HRS.o Tryz.aO (Nat.le_of_eq rfl) (bn rfl) ?_
         intro w4 hb4 wS
         have V9 := wS.keep SN.o (by omega))
      | (refine aB (w := w4) rfl 27 (.tmp 3) (.tmp 7) rfl (w.heap.size + 1) 0 27 _ [.int .i64 0, .int .i64 0, .int .i64 0] rfl rfl V9 Tryz.jL (Nat.le_of_eq rfl) (bn rfl) ?_
         intro w5 hb5 hst5))
    have P_ : w5.heap[w.heap.size]? = some (.cells [Value.int .i64 k0, .string iK, .int .u64 v0, .bool iL, .slice a1 n1 c1, .slice a2 n2 c2, .slice a3 n3 c3, .int .i64 l0, .int .i64 c0].toArray 56 (0, 0)) := hst5.keep hb4 (by omega)
    have Cm : w5.heap[w.heap.size + 1]? = some (.cells [Value.int .i64 0, .int .i64 0, .int .i64 0].toArray 27 (0, 0)) := hb5
    refine bodyPost_ret (AO rfl _ (w.heap.size) (w.heap.size + 1) 56 27 [Value.int .i64 k0, .string iK, .int .u64 v0, .bool iL, .slice a1 n1 c1, .slice a2 n2 c2, .slice a3 n3 c3, .int .i64 l0, .int .i64 c0] [Value.int .i64 0, .int .i64 0, .int .i64 0] _ _ rfl rfl P_ Tryz.underlying56 rfl Tryz.aO Cm Tryz.underlying27 rfl Tryz.jL) rfl ?_
    exact ⟨⟨_, rfl, _, rfl, dA.mono (fun q _ hq => by omega) _ _ (dA.step hst5 (fun q hq e => by omega) _ _ (dA.step wS (fun q hq e => by omega) _ _ HY.o))⟩, ((dH.o.trans HS2.o).then wS (fun q hq e => by omega)).then hst5 (fun q hq e => by omega)⟩
theorem uM (w:World) (m:Int) (hm:w.cell? ⟨0,0,none⟩=some (.int .i64 m)):Calls Tryz.prog 6 #[] w fun e w'=>e=.returned (.bool true)∧jg w w':=by
 obtain⟨v,mu,nm1,v1,m1,as1,ns1,bs1,l1,c1,k2,v2,m2,as2,ns2,bs2,l2,c2,ns,bs,l,c,hx⟩:=WU O7;obtain⟨it,hp,hname⟩:=WV O8;have HM:=ai hm;have hce:=expr_text ⟨#[97,32,46,32,98,32,43,32,49,32,42,32,99]⟩ w m hm;have hce:Calls Tryz.prog 14 #[.string ⟨#[97,32,46,32,98,32,43,32,49,32,42,32,99]⟩] w (ML (MK [97,32,46,32,98,32,43,32,49,32,42,32,99]) w):=hce;rw[hx]at hce;have HCE:=ai hce;have HX:=ai hp;clear hx hce hm hp;go_enter Tryz.func6,Tryz.ntmps6;go_upto_region 1 with fail
 go_wp2_with fail;refine HCE.o.mono ?_;rintro e w1 ⟨⟨u,rfl,cs,rfl,hy⟩,h1⟩;have hlen:=hy.len;have hone:=hy.one;rw[dA]at hy;obtain⟨va,vn,vb,xa,xb,rfl,-,-,hxa,hra,hrn,-,hrb⟩:=hy;obtain⟨e2,d2,rfl⟩:=hrn.parts;obtain⟨e3,d3,rfl⟩:=hrb.parts;obtain⟨a1,n1,rfl,-,-,-,hrow⟩:=hra;obtain⟨g,o,rfl,-,hgw,hcell⟩:=hrow (by simp);obtain⟨n2,hn2⟩:∃n,n=ns.length:=⟨_,rfl⟩;obtain⟨n3,hn3⟩:∃n,n=bs.length:=⟨_,rfl⟩;rw[←hn2,←hn3]at hone;rw[←hn2,←hn3];rw[bY]at hxa;obtain⟨ca,cr,rfl,hl1,hr1⟩:=hxa;rw[bY]at hr1;obtain⟨cb,cz,rfl,hl2,hz⟩:=hr1;rw[dA]at hl1 hl2;obtain⟨p1,p2,p3,p4,p5,rfl,-⟩:=hl1;obtain⟨q1,q2,q3,q4,q5,rfl,-⟩:=hl2;have hf0:w1.cell? ⟨g,o,none⟩=some (.int .i64 6):=by have h9:=hcell 0 _ rfl;rw[Nat.add_zero]at h9;exact h9
 have hf1:w1.cell? ⟨g,o+10,none⟩=some (.string ⟨#[42]⟩):=hcell 10 _ rfl;obtain⟨w2,hw2⟩:=bF ((w1.alloc (.cells #[ah 0,dG,aX 0,aW,ak,ak,ak,ah 0,ah 0] 56)).alloc (.cells #[ah 0,ah 0,ah 0] 27));have HS2:=nT hw2
 have HA:=nC hw2
 have HB:=nD hw2
 have HW2:=ai hw2;have HF0:=ai hf0;have HF1:=ai hf1;have dH:=ai h1;have dQ:Hid (∀u∈([.int .i64 14,.string ⟨#[43]⟩,.int .u64 v,.bool mu,.slice (some ⟨g,o,none⟩) 2 n1,.slice e2 n2 d2,.slice e3 n3 d3,.int .i64 l,.int .i64 c]:List Value),u.oneCell'=true):=hone;clear hcell hrow hlen hz hn2 hn3 hw2 hf0 hf1 h1 hone;go_wp2_with (first
  |(refine aB (w:=w2) rfl 56 (.tmp 1) (.tmp 7) rfl w1.heap.size 0 56 _ [.int .i64 14,.string ⟨#[43]⟩,.int .u64 v,.bool mu,.slice (some ⟨g,o,none⟩) 2 n1,.slice e2 n2 d2,.slice e3 n3 d3,.int .i64 l,.int .i64 c] rfl rfl HA.o Tryz.aO (Nat.le_of_eq rfl) dQ.o ?_;intro w4 hb4 wS;have V9:=wS.keep HB.o om)
  |(refine aB (w:=w4) rfl 27 (.tmp 2) (.tmp 8) rfl (w1.heap.size+1) 0 27 _ [.int .i64 0,.int .i64 0,.int .i64 0] rfl rfl V9 Tryz.jL (Nat.le_of_eq rfl) (bn rfl) ?_;intro w5 hb5 hst5)
  |rw[←HW2.o])
 have hs5:jg w w5:=(((dH.o.trans HS2.o).then wS (fun q hq e=>by have:=dH.o.size;omega)).then hst5 (fun q hq e=>by have:=dH.o.size;omega));have hs15:Step (fun q=>q=w1.heap.size∨q=w1.heap.size+1) w1 w5:=((HS2.o.mono fe).trans (wS.mono il)).trans (hst5.mono ir);have hcp:=E_ ⟨#[102,110,32,102,32,40,32,41,32,123,32,125]⟩ w5 m (hs5.cell HM.o (fun h=>h));have hcp:Calls Tryz.prog 5 #[.string ⟨#[102,110,32,102,32,40,32,41,32,123,32,125]⟩] w5 (GR (wC [102,110,32,102,32,40,32,41,32,123,32,125]) w5):=hcp;rw[HX.o]at hcp;have hgne:¬(g=w1.heap.size∨g=w1.heap.size+1):=by omega
 have HF05:=ai (hs15.cell HF0.o hgne);have HF15:=ai (hs15.cell HF1.o hgne);have hA5:w5.heap[w1.heap.size]?=some (.cells #[ah 14,.string ⟨#[43]⟩,aX v,bK mu,.slice (some ⟨g,o,none⟩) 2 n1,.slice e2 n2 d2,.slice e3 n3 d3,ah l,ah c] 56 (0,0)):=hst5.keep hb4 om;have Ue:w5.heap[w1.heap.size+1]?=some (.cells #[ah 0,ah 0,ah 0] 27 (0,0)):=hb5;have HA5:=ai hA5;have Am:=ai Ue;have sK:=ai hs5;have HCP:=ai hcp;have HGW:=ai hgw;clear hs5 hs15 hcp hA5 Ue hb4 hb5 wS hst5 V9;refine HCP.o.mono ?_;rintro e w6 ⟨⟨pv,rfl,xs,hrow2,hls⟩,h6⟩;obtain⟨pa,pc,rfl,-,-,-,hrow2⟩:=hrow2;obtain⟨g2,o2,rfl,-,hg2,hcell2⟩:=hrow2 (by simp);obtain⟨y1,y2,rfl,hit,-⟩:=hls;obtain⟨ct,vl,vt,vf,vw,vm,vb2,rfl,-⟩:=hit;have hf2:w6.cell? ⟨g2,o2+1,none⟩=some (.string ⟨#[102]⟩):=by rw[←hname];exact hcell2 1 _ rfl
 obtain⟨w7,hw7⟩:=bF (w6.alloc (.cells #[ah 0,ah 0,ah 0] 27));have Kr:=nS hw7
 have HC7:=nB hw7
 have HW7:=ai hw7;have sN:=ai h6;have HF2:=ai hf2;have HG2:=ai hg2;clear hcell2 hrow2 hf2 h6 hw7 hg2;go_upto_region 3 with(first
  |(refine aB (w:=w7) rfl 27 (.tmp 4) (.tmp 12) rfl w6.heap.size 0 27 _ [.int .i64 0,.int .i64 0,.int .i64 0] rfl rfl HC7.o Tryz.jL (Nat.le_of_eq rfl) (bn rfl) ?_;intro w8 hb8 hst8)
  |rw[←HW7.o])
 have hz1:=aP HA5.o;have hz2:=aP Am.o;have hz3:=sN.o.size;have hz4:=HG2.o;have hz5:=sK.o.size;have s78:Step (·=w6.heap.size) w6 w8:=(Kr.o.mono fe).trans hst8;have s58:Step (·=w6.heap.size) w5 w8:=(sN.o.mono fe).trans s78;have hA8:=s58.keep HA5.o om;have hB8:=s58.keep Am.o om;have i0:=aj hA8 0 _ rfl;have i1:=aj hA8 1 _ rfl;have i4:=aj hA8 4 _ rfl;obtain⟨⟨j0,j1,j2⟩,-⟩:=qG hB8;have hb8':w8.heap[w6.heap.size]?=some (.cells #[ah 0,ah 0,ah 0] 27 (0,0)):=hb8;obtain⟨⟨k0,k1,k3⟩,-⟩:=qG hb8';have n1:=s78.cell HF2.o (show¬g2=w6.heap.size by omega);have f0:=s58.cell HF05.o (show¬g=w6.heap.size by have:=HGW.o;omega);have f1:=s58.cell HF15.o (show¬g=w6.heap.size by have:=HGW.o;omega);have kP:Hid (jg w w8):=sK.o.then s58 oi;clear hz1 hz2 hz3 hz4 hz5 s78 s58 hA8 hB8 hb8 hb8' hst8;go_wp2_with fail;go_ret;exact⟨rfl,kP.o⟩
end Go.Proofs.YtggjfinekcenpaaGreat
