/- LxM, Ncb -/
import Derived.Test.YtppekkbaoimpgaaGreatPkU
set_option maxRecDepth 100000
set_option maxHeartbeats 8000000
namespace Go.Proofs.YtppekkbaoimpgaaGreat
open Go.RowKit
open Vt
theorem aal (a:Int) (w:World) (h0:0≤a) (h1:a≤255):Calls Tryz.prog 88 #[.int .u8 a] w fun e w'=>e=.returned (.bool (isDigit a))∧w=w':=by go_enter Tryz.func88,Tryz.ntmps88;go_wp2;all_goals (go_ret;exact⟨by simp[isDigit];omega,rfl⟩)
theorem aak (a:Int) (w:World) (h0:0≤a) (h1:a≤255):Calls Tryz.prog 86 #[.int .u8 a] w fun e w'=>e=.returned (.bool (iQ a))∧w=w':=by go_enter Tryz.func86,Tryz.ntmps86;go_wp2;all_goals (go_ret;exact⟨iJ (by rw[Bool.eq_iff_iff];simp[iQ,nY];try omega),rfl⟩)
theorem aav (s:ByteArray) (p:Nat) (w:World) (hp:p≤s.size) (hs:s.size≤100000):Calls Tryz.prog 87 #[.string s,.int .i64 p] w fun e w'=>e=.returned (.int .i64 ((p+jJ (s.data.toList.drop p):Nat)))∧w=w':=by
 go_enter Tryz.func87,Tryz.ntmps87;go_wp2;go_loopg [1] s.size (fun g v wr=>∃p':Nat,v=.int .i64 p'∧s.size-p'≤g∧p'≤s.size∧p'+jJ (s.data.toList.drop p')=p+jJ (s.data.toList.drop p)∧wr=w);case atStart=>exact⟨p,rfl,by omega,hp,rfl,rfl⟩
 case round=>
  obtain⟨p',rfl,hg,hp',heq,rfl⟩:=hrel;have HE:=ak heq;clear heq;by_cases hlt':p'<s.size
  ·have hdr:=ak (drop_cons s p' hlt');(have h_:((s[p'].toNat:Int))≤255:=by have:=s[p'].toNat_lt;omega);cases hL:iQ (s[p'].toNat:Int)
   ·cases hD:isDigit (s[p'].toNat:Int)
    ·have hq:=aak (s[p'].toNat:Int);have hq2:=aal (s[p'].toNat:Int);rw[hL]at hq;rw[hD]at hq2;(have HW:Hid (MS s[p']=false):=show _=_ by simp[MS,kM,hL,hD]);have HQ:=ak hq;have YM:=ak hq2;clear hq hq2 hL hD;go_wp2_with (first|(go_at_call 86;refine(HQ.o _ om h_).mono ?_;rintro e w' ⟨rfl,rfl⟩)|(go_at_call 88;refine(YM.o _ om h_).mono ?_;rintro e w' ⟨rfl,rfl⟩));go_ret;rw[←HE.o,hdr.out,MV HW.o];exact⟨rfl,rfl⟩
    ·have hq:=aak (s[p'].toNat:Int);have hq2:=aal (s[p'].toNat:Int);rw[hL]at hq;rw[hD]at hq2;(have HW:Hid (MS s[p']=true):=show _=_ by simp[MS,kM,hL,hD]);have HQ:=ak hq;have YM:=ak hq2;clear hq hq2 hL hD;go_wp2_with (first|(go_at_call 86;refine(HQ.o _ om h_).mono ?_;rintro e w' ⟨rfl,rfl⟩)|(go_at_call 88;refine(YM.o _ om h_).mono ?_;rintro e w' ⟨rfl,rfl⟩));go_roundg (gk-1);case rel=>refine⟨p'+1,by go_num,by omega,by omega,?_,rfl⟩;rw[←HE.o,hdr.out,CJ HW.o];omega
     case measure=>omega
   ·have hq:=aak (s[p'].toNat:Int);rw[hL]at hq;(have HW:Hid (MS s[p']=true):=show _=_ by simp[MS,kM,hL]);have HQ:=ak hq;clear hq hL;go_wp2_with (first|(go_at_call 86;refine(HQ.o _ om h_).mono ?_;rintro e w' ⟨rfl,rfl⟩));go_roundg (gk-1);case rel=>refine⟨p'+1,by go_num,by omega,by omega,?_,rfl⟩;rw[←HE.o,hdr.out,CJ HW.o];omega
    case measure=>omega
  ·go_wp2;go_ret;have:s.data.toList.drop p'=[]:=List.drop_of_length_le (by simp;omega);rw[←HE.o,this,Qx];exact⟨rfl,rfl⟩
def aaw (r:Except Nat (Nat×Nat)) (w:World) (e:Ending) (w':World):Prop:=
 (match r with
  | .ok (k,v)=>e=.returned (.tuple #[bK v,ah k,ah 0])
  | .error c=>e=.returned (.tuple #[bK 0,ah 0,ah c]))∧w=w'
theorem refNum_float (t:ByteArray) (w:World) (h18:t.size=18) (h2:t.data.toList.take 2=[48,102]) (r:Option Nat) (hr:zN 0 (t.data.toList.drop 2)=r):Calls Tryz.prog 89 #[.string t] w (aaw (YK r) w):=by
 have h0:0<t.size:=by omega
 have h1:1<t.size:=by omega
 have g0:t[0]'h0=48:=by rw[kW t 0 h0];cases e:t.data.toList with
  |nil=>rw[e]at h2;simp at h2
  |cons c l=>rw[e]at h2;simp at h2;exact h2.1
 have g1:t[1]'h1=102:=by rw[kW t 1 h1];cases e:t.data.toList with
  |nil=>rw[e]at h2;simp at h2
  |cons c l=>cases l with
   |nil=>rw[e]at h2;simp at h2
   |cons d l=>rw[e]at h2;simp at h2;exact h2.2
 have b0:(((t[0]'h0).toNat:Int)==48)=true:=by rw[g0];rfl
 have b1:(((t[1]'h1).toNat:Int)==102)=true:=by rw[g1];rfl
 have bs:((t.size:Int)==18)=true:=by rw[h18];rfl
 have HR:=ak hr;have HS:=ak h18;have hs1:18≤t.size:=by omega
 clear g0 g1 h2 hr h18;go_enter Tryz.func89,Tryz.ntmps89;go_wp2_with fail;go_loopg [5,6] 16 (fun g s5 s6 wr=>∃(i v:Nat),i≤16∧16-i≤g∧s6=.int .i64 ((2+i:Nat):Int)∧s5=.int .u64 v∧v<16^i∧zN v (t.data.toList.drop (2+i))=r∧wr=w);case atStart=>exact⟨0,0,by omega,by omega,rfl,rfl,by omega,HR.o,rfl⟩
 case round=>
  obtain⟨i,v,hi,hg,rfl,rfl,hv,heq,rfl⟩:=hrel;have HE:=ak heq;clear heq;by_cases hlt16:i<16
  ·(have QB:v<1152921504606846976:=by have:=Nat.pow_le_pow_right (show 0<16 by omega) (show i≤15 by omega);omega);have hgd:=kW t (2+i) om;have hdr:=CU t.data.toList (2+i) (by rw[←Lib.size_eq];omega);rw[←hgd]at hdr;(have h_:((t[2+i].toNat:Int))≤255:=by have:=t[2+i].toNat_lt;omega);have HD:=ak hdr;clear hdr hgd;have hq:=aal (t[2+i].toNat:Int);cases hd:isDigit (t[2+i].toNat:Int)
   ·rw[hd]at hq;have HQ:=ak hq;clear hq;by_cases hx:97≤t[2+i].toNat∧t[2+i].toNat≤102
    ·(have hr0:Hid (zN (v*16+(t[2+i].toNat-87)) (t.data.toList.drop (2+(i+1)))=r):=by show _=_;(have hxx:IV t[2+i]=some (t[2+i].toNat-87):=by rw[IV,if_neg (by rw[hd];simp),if_pos hx]);rw[←HE.o,HD.o,zN,hxx];rfl);obtain⟨hx1,hx2⟩:=hx;(have ha:(97:Int)≤t[2+i].toNat:=by omega);(have hb:(t[2+i].toNat:Int)≤102:=by omega);clear hd hx1 hx2;go_wp2_with (go_at_call 88;refine(HQ.o _ om h_).mono ?_;rintro e w' ⟨rfl,rfl⟩);go_roundg (gk-1);case rel=>refine⟨i+1,v*16+(t[2+i].toNat-87),by omega,by omega,by go_num,by go_num,?_,hr0.out,rfl⟩;rw[Nat.pow_succ];omega
     case measure=>omega
    ·(have hr0:Hid (r=none):=by show _=_;(have hxx:IV t[2+i]=none:=by rw[IV,if_neg (by rw[hd];simp),if_neg hx]);rw[←HE.o,HD.o,zN,hxx]);clear hd;by_cases ha:(97:Int)≤t[2+i].toNat
     ·(have hb:(102:Int)<t[2+i].toNat:=by omega);clear hx;go_wp2_with (go_at_call 88;refine(HQ.o _ om h_).mono ?_;rintro e w' ⟨rfl,rfl⟩);rw[hr0.out];go_ret3;exact⟨rfl,rfl⟩
     ·clear hx;go_wp2_with (go_at_call 88;refine(HQ.o _ om h_).mono ?_;rintro e w' ⟨rfl,rfl⟩);rw[hr0.out];go_ret3;exact⟨rfl,rfl⟩
   ·(have hr0:Hid (zN (v*16+(t[2+i].toNat-48)) (t.data.toList.drop (2+(i+1)))=r):=by show _=_;(have hxx:IV t[2+i]=some (t[2+i].toNat-48):=by rw[IV,if_pos hd]);rw[←HE.o,HD.o,zN,hxx];rfl);(have h48:(48:Int)≤t[2+i].toNat∧(t[2+i].toNat:Int)≤57:=by simpa[isDigit]using hd);obtain⟨h48,h57⟩:=h48;rw[hd]at hq;have HQ:=ak hq;clear hq hd;go_wp2_with (go_at_call 88;refine(HQ.o _ om h_).mono ?_;rintro e w' ⟨rfl,rfl⟩);go_roundg (gk-1);case rel=>refine⟨i+1,v*16+(t[2+i].toNat-48),by omega,by omega,by go_num,by go_num,?_,hr0.out,rfl⟩;rw[Nat.pow_succ];omega
    case measure=>omega
  ·(have hr0:Hid (r=some v):=by show _=_;rw[←HE.o,List.drop_of_length_le (by rw[←Lib.size_eq,HS.o];omega)];rfl);go_wp2;rw[hr0.out];go_ret3;exact⟨rfl,rfl⟩
theorem refNum_a (t:ByteArray) (w:World) (hsz:t.size≤100000) (h18:t.size≠18) (r:Except Nat Nat) (hr:rD (t.data.toList.headD 0) t.data.toList 0 0=r):Calls Tryz.prog 89 #[.string t] w (aaw (intR r) w):=by
 have bs:((t.size:Int)==18)=false:=by rw[beq_eq_false_iff_ne];omega
 have g0q:=h18;clear h18;clear g0q;have HR:=ak hr;have hs1:t.size≤100000:=hsz;clear hr hsz;go_enter Tryz.func89,Tryz.ntmps89;go_wp2_with fail;go_loopg [8,9] t.size (fun g s8 s9 wr=>∃(i v:Nat),i≤t.size∧t.size-i≤g∧s9=.int .i64 i∧s8=.int .u64 v∧v≤9223372036854775807∧rD (t.data.toList.headD 0) (t.data.toList.drop i) i v=r∧wr=w);case atStart=>exact⟨0,0,by omega,by omega,rfl,rfl,by omega,HR.o,rfl⟩
 case round=>
  obtain⟨i,v,hi,hg,rfl,rfl,hv,heq,rfl⟩:=hrel;have HE:=ak heq;clear heq;by_cases hlti:i<t.size
  ·have hgd:=kW t i hlti;have hdr:=CU t.data.toList i (by rw[←Lib.size_eq];omega);rw[←hgd]at hdr;(have h_:((t[i].toNat:Int))≤255:=by have:=t[i].toNat_lt;omega);(have hlt0:0<t.size:=by omega);(have h00:t[0]=t.data.toList.headD 0:=by rw[kW t 0 hlt0];cases t.data.toList<;>rfl);rw[←h00]at HE;have HD:=ak hdr;have H00:=ak h00;clear hdr hgd h00;have hq:=aal (t[i].toNat:Int);cases hd:isDigit (t[i].toNat:Int)
   ·rw[hd]at hq;have HQ:=ak hq;(have hr0:Hid (r=.error 1):=by show _=_;rw[←HE.o,HD.o,rD,if_pos (.inl hd)]);clear hq hd;go_wp2_with (go_at_call 88;refine(HQ.o _ om h_).mono ?_;rintro e w' ⟨rfl,rfl⟩);rw[hr0.out];go_ret3;exact⟨rfl,rfl⟩
   ·rw[hd]at hq;have HQ:=ak hq;(have h48:(48:Int)≤t[i].toNat∧(t[i].toNat:Int)≤57:=by simpa[isDigit]using hd);obtain⟨h48,h57⟩:=h48;have HX:=ak hd;clear hq hd;by_cases hi1:i=1∧t[0]=48
    ·(have hb1:((i:Int)==1)=true:=by rw[hi1.1];rfl);(have hb2:((t[0].toNat:Int)==48)=true:=by rw[hi1.2];rfl);(have hr0:Hid (r=.error 1):=by show _=_;rw[←HE.o,HD.o,rD,if_pos (.inr hi1)]);clear hi1;go_wp2_with (go_at_call 88;refine(HQ.o _ om h_).mono ?_;rintro e w' ⟨rfl,rfl⟩);rw[hr0.out];go_ret3;exact⟨rfl,rfl⟩
    ·have hor:(((i:Int)==1)=true∧((t[0].toNat:Int)==48)=false)∨(((i:Int)==1)=false):=by
      by_cases e1:i=1
      ·exact .inl ⟨by rw[e1];rfl,by rw[beq_eq_false_iff_ne];exact fun e=>hi1 ⟨e1,kN 48 e⟩⟩
      ·exact .inr (by rw[beq_eq_false_iff_ne];omega)
     have H1:=ak hi1;clear hi1;by_cases hb92:922337203685477580<v
     ·(have hr0:Hid (r=.error 2):=by show r=.error 2;rw[←HE.o,HD.o,rD,if_neg (fun e=>e.elim (by rw[HX.o];simp) H1.o),if_pos om]);(have hgt:decide ((922337203685477580:Int)<(v:Int))=true:=by rw[decide_eq_true_eq];omega);(rcases hor with⟨hb1,hb2⟩|hb1);all_goals
       go_wp2_with (go_at_call 88;refine(HQ.o _ om h_).mono ?_;rintro e w' ⟨rfl,rfl⟩)
       rw[hr0.out]
       go_ret3
       exact⟨rfl,rfl⟩
     ·(have hgt:decide ((922337203685477580:Int)<(v:Int))=false:=by rw[decide_eq_false_iff_not];omega);by_cases hbig:9223372036854775807<v*10+(t[i].toNat-48)
      ·(have hr0:Hid (r=.error 2):=by show r=.error 2;rw[←HE.o,HD.o,rD,if_neg (fun e=>e.elim (by rw[HX.o];simp) H1.o),if_pos om]);(have hgu:decide ((9223372036854775807-((t[i].toNat:Int)-48))<(v:Int)*10)=true:=by rw[decide_eq_true_eq];omega);(rcases hor with⟨hb1,hb2⟩|hb1);all_goals
        go_wp2_with (go_at_call 88;refine(HQ.o _ om h_).mono ?_;rintro e w' ⟨rfl,rfl⟩)
        rw[hr0.out]
        go_ret3
        exact⟨rfl,rfl⟩
      ·(have hr0:Hid (rD t[0] (t.data.toList.drop (i+1)) (i+1) (v*10+(t[i].toNat-48))=r):=by show _=_;rw[←HE.o,HD.o,rD,if_neg (fun e=>e.elim (by rw[HX.o];simp) H1.o),if_neg om]);(have hgu:decide ((9223372036854775807-((t[i].toNat:Int)-48))<(v:Int)*10)=false:=by rw[decide_eq_false_iff_not];omega);(rcases hor with⟨hb1,hb2⟩|hb1);all_goals
        go_wp2_with (go_at_call 88;refine(HQ.o _ om h_).mono ?_;rintro e w' ⟨rfl,rfl⟩)
        go_roundg (gk-1)
        case rel=>
         exact⟨i+1,v*10+(t[i].toNat-48),by omega,by omega,by go_num,by go_num,by omega,by rw[←H00.o];exact hr0.out,rfl⟩
        case measure=>omega
  ·(have hr0:Hid (r=.ok v):=by show r=.ok v;rw[←HE.o,List.drop_of_length_le (by rw[←Lib.size_eq];omega)];rfl);go_wp2;rw[hr0.out];go_ret3;exact⟨rfl,rfl⟩
theorem refNum_b (t:ByteArray) (w:World) (hsz:t.size≤100000) (h18:t.size=18) (h0:0<t.size) (hc:t[0]≠48) (r:Except Nat Nat) (hr:rD (t.data.toList.headD 0) t.data.toList 0 0=r):Calls Tryz.prog 89 #[.string t] w (aaw (intR r) w):=by
 have bs:((t.size:Int)==18)=true:=by rw[beq_iff_eq];omega
 have b0:((t[0].toNat:Int)==48)=false:=by rw[beq_eq_false_iff_ne];exact fun e=>hc (kN 48 e)
 have g0q:=h18;have HC:=ak hc;clear h18 hc;clear g0q;have HR:=ak hr;have hs1:t.size≤100000:=hsz;clear hr hsz;go_enter Tryz.func89,Tryz.ntmps89;go_wp2_with fail;go_loopg [8,9] t.size (fun g s8 s9 wr=>∃(i v:Nat),i≤t.size∧t.size-i≤g∧s9=.int .i64 i∧s8=.int .u64 v∧v≤9223372036854775807∧rD (t.data.toList.headD 0) (t.data.toList.drop i) i v=r∧wr=w);case atStart=>exact⟨0,0,by omega,by omega,rfl,rfl,by omega,HR.o,rfl⟩
 case round=>
  obtain⟨i,v,hi,hg,rfl,rfl,hv,heq,rfl⟩:=hrel;have HE:=ak heq;clear heq;by_cases hlti:i<t.size
  ·have hgd:=kW t i hlti;have hdr:=CU t.data.toList i (by rw[←Lib.size_eq];omega);rw[←hgd]at hdr;(have h_:((t[i].toNat:Int))≤255:=by have:=t[i].toNat_lt;omega);(have hlt0:0<t.size:=by omega);(have h00:t[0]=t.data.toList.headD 0:=by rw[kW t 0 hlt0];cases t.data.toList<;>rfl);rw[←h00]at HE;have HD:=ak hdr;have H00:=ak h00;clear hdr hgd h00;have hq:=aal (t[i].toNat:Int);cases hd:isDigit (t[i].toNat:Int)
   ·rw[hd]at hq;have HQ:=ak hq;(have hr0:Hid (r=.error 1):=by show _=_;rw[←HE.o,HD.o,rD,if_pos (.inl hd)]);clear hq hd;go_wp2_with (go_at_call 88;refine(HQ.o _ om h_).mono ?_;rintro e w' ⟨rfl,rfl⟩);rw[hr0.out];go_ret3;exact⟨rfl,rfl⟩
   ·rw[hd]at hq;have HQ:=ak hq;(have h48:(48:Int)≤t[i].toNat∧(t[i].toNat:Int)≤57:=by simpa[isDigit]using hd);obtain⟨h48,h57⟩:=h48;have HX:=ak hd;clear hq hd;by_cases hi1:i=1∧t[0]=48
    ·exact absurd hi1.2 HC.o
    ·have hor:(((i:Int)==1)=true∧((t[0].toNat:Int)==48)=false)∨(((i:Int)==1)=false):=by
      by_cases e1:i=1
      ·exact .inl ⟨by rw[e1];rfl,by rw[beq_eq_false_iff_ne];exact fun e=>hi1 ⟨e1,kN 48 e⟩⟩
      ·exact .inr (by rw[beq_eq_false_iff_ne];omega)
     have H1:=ak hi1;clear hi1;by_cases hb92:922337203685477580<v
     ·(have hr0:Hid (r=.error 2):=by show r=.error 2;rw[←HE.o,HD.o,rD,if_neg (fun e=>e.elim (by rw[HX.o];simp) H1.o),if_pos om]);(have hgt:decide ((922337203685477580:Int)<(v:Int))=true:=by rw[decide_eq_true_eq];omega);(rcases hor with⟨hb1,hb2⟩|hb1);all_goals
       go_wp2_with (go_at_call 88;refine(HQ.o _ om h_).mono ?_;rintro e w' ⟨rfl,rfl⟩)
       rw[hr0.out]
       go_ret3
       exact⟨rfl,rfl⟩
     ·(have hgt:decide ((922337203685477580:Int)<(v:Int))=false:=by rw[decide_eq_false_iff_not];omega);by_cases hbig:9223372036854775807<v*10+(t[i].toNat-48)
      ·(have hr0:Hid (r=.error 2):=by show r=.error 2;rw[←HE.o,HD.o,rD,if_neg (fun e=>e.elim (by rw[HX.o];simp) H1.o),if_pos om]);(have hgu:decide ((9223372036854775807-((t[i].toNat:Int)-48))<(v:Int)*10)=true:=by rw[decide_eq_true_eq];omega);(rcases hor with⟨hb1,hb2⟩|hb1);all_goals
        go_wp2_with (go_at_call 88;refine(HQ.o _ om h_).mono ?_;rintro e w' ⟨rfl,rfl⟩)
        rw[hr0.out]
        go_ret3
        exact⟨rfl,rfl⟩
      ·(have hr0:Hid (rD t[0] (t.data.toList.drop (i+1)) (i+1) (v*10+(t[i].toNat-48))=r):=by show _=_;rw[←HE.o,HD.o,rD,if_neg (fun e=>e.elim (by rw[HX.o];simp) H1.o),if_neg om]);(have hgu:decide ((9223372036854775807-((t[i].toNat:Int)-48))<(v:Int)*10)=false:=by rw[decide_eq_false_iff_not];omega);(rcases hor with⟨hb1,hb2⟩|hb1);all_goals
        go_wp2_with (go_at_call 88;refine(HQ.o _ om h_).mono ?_;rintro e w' ⟨rfl,rfl⟩)
        go_roundg (gk-1)
        case rel=>
         exact⟨i+1,v*10+(t[i].toNat-48),by omega,by omega,by go_num,by go_num,by omega,by rw[←H00.o];exact hr0.out,rfl⟩
        case measure=>omega
  ·(have hr0:Hid (r=.ok v):=by show r=.ok v;rw[←HE.o,List.drop_of_length_le (by rw[←Lib.size_eq];omega)];rfl);go_wp2;rw[hr0.out];go_ret3;exact⟨rfl,rfl⟩
theorem refNum_c (t:ByteArray) (w:World) (hsz:t.size≤100000) (h18:t.size=18) (h0:0<t.size) (h1:1<t.size) (hc:t[0]=48) (hd:t[1]≠102) (r:Except Nat Nat) (hr:rD (t.data.toList.headD 0) t.data.toList 0 0=r):Calls Tryz.prog 89 #[.string t] w (aaw (intR r) w):=by
 have bs:((t.size:Int)==18)=true:=by rw[beq_iff_eq];omega
 have b0:((t[0].toNat:Int)==48)=true:=by rw[hc];rfl
 have b1:((t[1].toNat:Int)==102)=false:=by rw[beq_eq_false_iff_ne];exact fun e=>hd (kN 102 e)
 have g0q:=h18;have HC:=ak hc;clear h18 hc hd;clear g0q;have HR:=ak hr;have hs1:t.size≤100000:=hsz;clear hr hsz;go_enter Tryz.func89,Tryz.ntmps89;go_wp2_with fail;go_loopg [8,9] t.size (fun g s8 s9 wr=>∃(i v:Nat),i≤t.size∧t.size-i≤g∧s9=.int .i64 i∧s8=.int .u64 v∧v≤9223372036854775807∧rD (t.data.toList.headD 0) (t.data.toList.drop i) i v=r∧wr=w);case atStart=>exact⟨0,0,by omega,by omega,rfl,rfl,by omega,HR.o,rfl⟩
 case round=>
  obtain⟨i,v,hi,hg,rfl,rfl,hv,heq,rfl⟩:=hrel;have HE:=ak heq;clear heq;by_cases hlti:i<t.size
  ·have hgd:=kW t i hlti;have hdr:=CU t.data.toList i (by rw[←Lib.size_eq];omega);rw[←hgd]at hdr;(have h_:((t[i].toNat:Int))≤255:=by have:=t[i].toNat_lt;omega);(have hlt0:0<t.size:=by omega);(have h00:t[0]=t.data.toList.headD 0:=by rw[kW t 0 hlt0];cases t.data.toList<;>rfl);rw[←h00]at HE;have HD:=ak hdr;have H00:=ak h00;clear hdr hgd h00;have hq:=aal (t[i].toNat:Int);cases hd:isDigit (t[i].toNat:Int)
   ·rw[hd]at hq;have HQ:=ak hq;(have hr0:Hid (r=.error 1):=by show _=_;rw[←HE.o,HD.o,rD,if_pos (.inl hd)]);clear hq hd;go_wp2_with (go_at_call 88;refine(HQ.o _ om h_).mono ?_;rintro e w' ⟨rfl,rfl⟩);rw[hr0.out];go_ret3;exact⟨rfl,rfl⟩
   ·rw[hd]at hq;have HQ:=ak hq;(have h48:(48:Int)≤t[i].toNat∧(t[i].toNat:Int)≤57:=by simpa[isDigit]using hd);obtain⟨h48,h57⟩:=h48;have HX:=ak hd;clear hq hd;by_cases hi1:i=1∧t[0]=48
    ·(have hb1:((i:Int)==1)=true:=by rw[hi1.1];rfl);(have hr0:Hid (r=.error 1):=by show _=_;rw[←HE.o,HD.o,rD,if_pos (.inr hi1)]);clear hi1;go_wp2_with (go_at_call 88;refine(HQ.o _ om h_).mono ?_;rintro e w' ⟨rfl,rfl⟩);rw[hr0.out];go_ret3;exact⟨rfl,rfl⟩
    ·have hor:False∨(((i:Int)==1)=false):=by
      by_cases e1:i=1
      ·exact absurd ⟨e1,HC.o⟩ hi1
      ·exact .inr (by rw[beq_eq_false_iff_ne];omega)
     have H1:=ak hi1;clear hi1;by_cases hb92:922337203685477580<v
     ·(have hr0:Hid (r=.error 2):=by show r=.error 2;rw[←HE.o,HD.o,rD,if_neg (fun e=>e.elim (by rw[HX.o];simp) H1.o),if_pos om]);(have hgt:decide ((922337203685477580:Int)<(v:Int))=true:=by rw[decide_eq_true_eq];omega);replace hor:=hor.resolve_left id;have hb1:=hor;all_goals
       go_wp2_with (go_at_call 88;refine(HQ.o _ om h_).mono ?_;rintro e w' ⟨rfl,rfl⟩)
       rw[hr0.out]
       go_ret3
       exact⟨rfl,rfl⟩
     ·(have hgt:decide ((922337203685477580:Int)<(v:Int))=false:=by rw[decide_eq_false_iff_not];omega);by_cases hbig:9223372036854775807<v*10+(t[i].toNat-48)
      ·(have hr0:Hid (r=.error 2):=by show r=.error 2;rw[←HE.o,HD.o,rD,if_neg (fun e=>e.elim (by rw[HX.o];simp) H1.o),if_pos om]);(have hgu:decide ((9223372036854775807-((t[i].toNat:Int)-48))<(v:Int)*10)=true:=by rw[decide_eq_true_eq];omega);replace hor:=hor.resolve_left id;have hb1:=hor;all_goals
        go_wp2_with (go_at_call 88;refine(HQ.o _ om h_).mono ?_;rintro e w' ⟨rfl,rfl⟩)
        rw[hr0.out]
        go_ret3
        exact⟨rfl,rfl⟩
      ·(have hr0:Hid (rD t[0] (t.data.toList.drop (i+1)) (i+1) (v*10+(t[i].toNat-48))=r):=by show _=_;rw[←HE.o,HD.o,rD,if_neg (fun e=>e.elim (by rw[HX.o];simp) H1.o),if_neg om]);(have hgu:decide ((9223372036854775807-((t[i].toNat:Int)-48))<(v:Int)*10)=false:=by rw[decide_eq_false_iff_not];omega);replace hor:=hor.resolve_left id;have hb1:=hor;all_goals
        go_wp2_with (go_at_call 88;refine(HQ.o _ om h_).mono ?_;rintro e w' ⟨rfl,rfl⟩)
        go_roundg (gk-1)
        case rel=>
         exact⟨i+1,v*10+(t[i].toNat-48),by omega,by omega,by go_num,by go_num,by omega,by rw[←H00.o];exact hr0.out,rfl⟩
        case measure=>omega
  ·(have hr0:Hid (r=.ok v):=by show r=.ok v;rw[←HE.o,List.drop_of_length_le (by rw[←Lib.size_eq];omega)];rfl);go_wp2;rw[hr0.out];go_ret3;exact⟨rfl,rfl⟩
theorem aaC (t:ByteArray) (w:World) (hsz:t.size≤100000):Calls Tryz.prog 89 #[.string t] w (aaw ((QA t.data.toList).map fun x=>(x.1,x.2.2)) w):=by
 have hl:=Lib.size_eq t;unfold QA;by_cases h18:t.size=18
 ·have h0:0<t.size:=by omega
  have h1:1<t.size:=by omega
  by_cases h2:t.data.toList.take 2=[48,102]
  ·rw[if_pos ⟨show t.data.toList.length=18 by omega,h2⟩];refine(refNum_float t w h18 h2 _ rfl).mono fun e w' q=> ?_;cases hf:zN 0 (t.data.toList.drop 2)
   ·rw[hf]at q;exact q
   ·rw[hf]at q;exact q
  ·rw[if_neg (fun e=>h2 e.2)];have hh:∃c d l,t.data.toList=c::d::l∧t[0]=c∧t[1]=d:=by
    cases e:t.data.toList with
    |nil=>rw[e]at hl;exact absurd (show t.size=0 from hl) om
    |cons c l=>cases l with
     |nil=>rw[e]at hl;exact absurd (show t.size=1 from hl) om
     |cons d l=>exact⟨c,d,l,rfl,by rw[kW t 0 h0,e];rfl,by rw[kW t 1 h1,e];rfl⟩
   obtain⟨c,d,l,hcd,hc,hd⟩:=hh;have key:Calls Tryz.prog 89 #[.string t] w (aaw (intR (rD (t.data.toList.headD 0) t.data.toList 0 0)) w):=by
    by_cases hc48:t[0]=48
    ·refine refNum_c t w hsz h18 h0 h1 hc48 (fun e=>h2 ?_) _ rfl;rw[hcd,←hc,←hd,hc48,e];rfl
    ·exact refNum_b t w hsz h18 h0 hc48 _ rfl
   refine key.mono fun e w' q=> ?_;cases hf:rD (t.data.toList.headD 0) t.data.toList 0 0
   ·rw[hf]at q;exact q
   ·rw[hf]at q;exact q
 ·rw[if_neg (fun e=>h18 (by have:=e.1;omega))];refine(refNum_a t w hsz h18 _ rfl).mono fun e w' q=> ?_;cases hf:rD (t.data.toList.headD 0) t.data.toList 0 0
  ·rw[hf]at q;exact q
  ·rw[hf]at q;exact q
def aao (s:ByteArray) (p:Nat) (w:World) (r:Except Nat (Nat×Nat×Nat)) (e:Ending) (w':World):Prop:=
 (match r with
  | .ok (k,n,v)=>e=.returned (.tuple #[.agg #[ah k,aY (s.extract p (p+n)),ah 0,ah 0,bK v],ah ((p+n:Nat):Int),ah 0])
  | .error c=>e=.returned (.tuple #[.agg #[ah 0,bP,ah 0,ah 0,bK 0],ah 0,ah c]))∧Step (fun _=>False) w w'
theorem one_name (s:ByteArray) (p:Nat) (w:World) (hp:p<s.size) (hs:s.size≤100000) (N:Nat) (hN:jJ (s.data.toList.drop p)=N) (hL:iQ (s[p].toNat:Int)=true) (hn:N≤24):Calls Tryz.prog 43 #[.string s,.int .i64 p] w (aao s p w (.ok (1,N,0))):=by
 have h_:((s[p].toNat:Int))≤255:=by have:=s[p].toNat_lt;omega
 have hq:=aak (s[p].toNat:Int);rw[hL]at hq;have HQ:=ak hq;clear hq hL;have hrl:p+N≤s.size:=by have:=mO (s.data.toList.drop p);simp at this;omega
 have HN:=ak hN;clear hN;go_enter Tryz.func43,Tryz.ntmps43;go_wp2_with (first|(go_at_call 86;refine(HQ.o _ om h_).mono ?_;rintro e w' ⟨rfl,rfl⟩)|(go_at_call 87;refine(aav s p _ om hs).mono ?_;rintro e w' ⟨rfl,rfl⟩;rw[HN.o]));refine bodyPost_ret (v:=.tuple #[.agg #[ah 1,aY (s.extract p (p+N)),ah 0,ah 0,bK 0],ah ((p+N:Nat):Int),ah 0]) (by simp[results,Tryz.results43,go_sem]) rfl ⟨rfl,?_⟩;exact(Step.refl _ w).alloc _
theorem one_nameLong (s:ByteArray) (p:Nat) (w:World) (hp:p<s.size) (hs:s.size≤100000) (N:Nat) (hN:jJ (s.data.toList.drop p)=N) (hL:iQ (s[p].toNat:Int)=true) (hn:24<N):Calls Tryz.prog 43 #[.string s,.int .i64 p] w (aao s p w (.error 2)):=by
 have h_:((s[p].toNat:Int))≤255:=by have:=s[p].toNat_lt;omega
 have hq:=aak (s[p].toNat:Int);rw[hL]at hq;have HQ:=ak hq;clear hq hL;have hrl:p+N≤s.size:=by have:=mO (s.data.toList.drop p);simp at this;omega
 have HN:=ak hN;clear hN;go_enter Tryz.func43,Tryz.ntmps43;go_wp2_with (first|(go_at_call 86;refine(HQ.o _ om h_).mono ?_;rintro e w' ⟨rfl,rfl⟩)|(go_at_call 87;refine(aav s p _ om hs).mono ?_;rintro e w' ⟨rfl,rfl⟩;rw[HN.o]));refine bodyPost_ret (v:=.tuple #[.agg #[ah 0,bP,ah 0,ah 0,bK 0],ah 0,ah 2]) (by simp[results,Tryz.results43,go_sem]) rfl ⟨rfl,?_⟩;exact(Step.refl _ w).alloc _
theorem aaq (s:ByteArray) (p:Nat) (w:World) (hp:p+1≤s.size) (hs:s.size≤100000):Calls Tryz.prog 87 #[.string s,.int .i64 ((p:Int)+1)] w fun e w'=>e=.returned (.int .i64 ((p+1+jJ (s.data.toList.drop (p+1)):Nat)))∧w=w':=
 aav s (p+1) w hp hs
theorem one_lifeNone (s:ByteArray) (p:Nat) (w:World) (hp:p<s.size) (hs:s.size≤100000) (N:Nat) (hN:jJ (s.data.toList.drop (p+1))=N) (hL:iQ (s[p].toNat:Int)=false) (hc:s[p]=39) (hn:N=0):Calls Tryz.prog 43 #[.string s,.int .i64 p] w (aao s p w (.error 1)):=by
 have h_:((s[p].toNat:Int))≤255:=by have:=s[p].toNat_lt;omega
 have hq:=aak (s[p].toNat:Int);rw[hL]at hq;have HQ:=ak hq;clear hq hL;have hrl:p+1+N≤s.size:=by have:=mO (s.data.toList.drop (p+1));simp at this;omega
 have HN:=ak hN;have QD:((s[p].toNat:Int)==39)=true:=by rw[hc];rfl
 clear hN hc;have HZ:=ak hn;clear hn;go_enter Tryz.func43,Tryz.ntmps43;go_wp2_with (first|(go_at_call 86;refine(HQ.o _ om h_).mono ?_;rintro e w' ⟨rfl,rfl⟩)|(go_at_call 87;refine(aaq s p _ om hs).mono ?_;rintro e w' ⟨rfl,rfl⟩;rw[HN.o,HZ.o]));refine bodyPost_ret (v:=.tuple #[.agg #[ah 0,bP,ah 0,ah 0,bK 0],ah 0,ah 1]) (by simp[results,Tryz.results43,go_sem]) rfl ⟨rfl,?_⟩;exact(Step.refl _ w).alloc _
theorem one_lifeLow (s:ByteArray) (p:Nat) (w:World) (hp:p<s.size) (hs:s.size≤100000) (N:Nat) (hN:jJ (s.data.toList.drop (p+1))=N) (hL:iQ (s[p].toNat:Int)=false) (hc:s[p]=39) (hn:0<N) (hlt1:p+1<s.size) (hsm:s[p+1].toNat<97):Calls Tryz.prog 43 #[.string s,.int .i64 p] w (aao s p w (.error 1)):=by
 have h_:((s[p].toNat:Int))≤255:=by have:=s[p].toNat_lt;omega
 have hq:=aak (s[p].toNat:Int);rw[hL]at hq;have HQ:=ak hq;clear hq hL;have hrl:p+1+N≤s.size:=by have:=mO (s.data.toList.drop (p+1));simp at this;omega
 have HN:=ak hN;have QD:((s[p].toNat:Int)==39)=true:=by rw[hc];rfl
 clear hN hc;have hl97:(s[p+1].toNat:Int)<97:=by omega
 go_enter Tryz.func43,Tryz.ntmps43;go_wp2_with (first|(go_at_call 86;refine(HQ.o _ om h_).mono ?_;rintro e w' ⟨rfl,rfl⟩)|(go_at_call 87;refine(aaq s p _ om hs).mono ?_;rintro e w' ⟨rfl,rfl⟩;rw[HN.o]));refine bodyPost_ret (v:=.tuple #[.agg #[ah 0,bP,ah 0,ah 0,bK 0],ah 0,ah 1]) (by simp[results,Tryz.results43,go_sem]) rfl ⟨rfl,?_⟩;exact(Step.refl _ w).alloc _
theorem one_lifeHigh (s:ByteArray) (p:Nat) (w:World) (hp:p<s.size) (hs:s.size≤100000) (N:Nat) (hN:jJ (s.data.toList.drop (p+1))=N) (hL:iQ (s[p].toNat:Int)=false) (hc:s[p]=39) (hn:0<N) (hlt1:p+1<s.size) (hsm:122<s[p+1].toNat):Calls Tryz.prog 43 #[.string s,.int .i64 p] w (aao s p w (.error 1)):=by
 have h_:((s[p].toNat:Int))≤255:=by have:=s[p].toNat_lt;omega
 have hq:=aak (s[p].toNat:Int);rw[hL]at hq;have HQ:=ak hq;clear hq hL;have hrl:p+1+N≤s.size:=by have:=mO (s.data.toList.drop (p+1));simp at this;omega
 have HN:=ak hN;have QD:((s[p].toNat:Int)==39)=true:=by rw[hc];rfl
 clear hN hc;have hl97:(122:Int)<s[p+1].toNat:=by omega
 go_enter Tryz.func43,Tryz.ntmps43;go_wp2_with (first|(go_at_call 86;refine(HQ.o _ om h_).mono ?_;rintro e w' ⟨rfl,rfl⟩)|(go_at_call 87;refine(aaq s p _ om hs).mono ?_;rintro e w' ⟨rfl,rfl⟩;rw[HN.o]));refine bodyPost_ret (v:=.tuple #[.agg #[ah 0,bP,ah 0,ah 0,bK 0],ah 0,ah 1]) (by simp[results,Tryz.results43,go_sem]) rfl ⟨rfl,?_⟩;exact(Step.refl _ w).alloc _
theorem one_lifeLong (s:ByteArray) (p:Nat) (w:World) (hp:p<s.size) (hs:s.size≤100000) (N:Nat) (hN:jJ (s.data.toList.drop (p+1))=N) (hL:iQ (s[p].toNat:Int)=false) (hc:s[p]=39) (_hn:0<N) (hlt1:p+1<s.size) (hsm:97≤s[p+1].toNat) (hsm2:s[p+1].toNat≤122) (hlong:24<N):Calls Tryz.prog 43 #[.string s,.int .i64 p] w (aao s p w (.error 2)):=by
 have h_:((s[p].toNat:Int))≤255:=by have:=s[p].toNat_lt;omega
 have hq:=aak (s[p].toNat:Int);rw[hL]at hq;have HQ:=ak hq;clear hq hL;have hrl:p+1+N≤s.size:=by have:=mO (s.data.toList.drop (p+1));simp at this;omega
 have HN:=ak hN;have QD:((s[p].toNat:Int)==39)=true:=by rw[hc];rfl
 clear hN hc;have hl97:(97:Int)≤s[p+1].toNat:=by omega
 have hd97:decide ((s[p+1].toNat:Int)<97)=false:=by rw[decide_eq_false_iff_not];omega
 have hd122:decide ((122:Int)<s[p+1].toNat)=false:=by rw[decide_eq_false_iff_not];omega
 have hne1:(((p:Int)+1+N)==(p:Int)+1)=false:=by rw[beq_eq_false_iff_ne];omega
 clear hl97 hsm hsm2;go_enter Tryz.func43,Tryz.ntmps43;go_wp2_with (first|(go_at_call 86;refine(HQ.o _ om h_).mono ?_;rintro e w' ⟨rfl,rfl⟩)|(go_at_call 87;refine(aaq s p _ om hs).mono ?_;rintro e w' ⟨rfl,rfl⟩;rw[HN.o]));refine bodyPost_ret (v:=.tuple #[.agg #[ah 0,bP,ah 0,ah 0,bK 0],ah 0,ah 2]) (by simp[results,Tryz.results43,go_sem]) rfl ⟨rfl,?_⟩;exact(Step.refl _ w).alloc _
theorem one_life (s:ByteArray) (p:Nat) (w:World) (hp:p<s.size) (hs:s.size≤100000) (N:Nat) (hN:jJ (s.data.toList.drop (p+1))=N) (hL:iQ (s[p].toNat:Int)=false) (hc:s[p]=39) (hn:0<N) (hlt1:p+1<s.size) (hsm:97≤s[p+1].toNat) (hsm2:s[p+1].toNat≤122) (hlong:N≤24):Calls Tryz.prog 43 #[.string s,.int .i64 p] w (aao s p w (.ok (2,N+1,0))):=by
 have h_:((s[p].toNat:Int))≤255:=by have:=s[p].toNat_lt;omega
 have hq:=aak (s[p].toNat:Int);rw[hL]at hq;have HQ:=ak hq;clear hq hL;have hrl:p+1+N≤s.size:=by have:=mO (s.data.toList.drop (p+1));simp at this;omega
 have HN:=ak hN;have QD:((s[p].toNat:Int)==39)=true:=by rw[hc];rfl
 clear hN hc;have hl97:(97:Int)≤s[p+1].toNat:=by omega
 have hd97:decide ((s[p+1].toNat:Int)<97)=false:=by rw[decide_eq_false_iff_not];omega
 have hd122:decide ((122:Int)<s[p+1].toNat)=false:=by rw[decide_eq_false_iff_not];omega
 have hne1:(((p:Int)+1+N)==(p:Int)+1)=false:=by rw[beq_eq_false_iff_ne];omega
 clear hl97 hsm hsm2;go_enter Tryz.func43,Tryz.ntmps43;go_wp2_with (first|(go_at_call 86;refine(HQ.o _ om h_).mono ?_;rintro e w' ⟨rfl,rfl⟩)|(go_at_call 87;refine(aaq s p _ om hs).mono ?_;rintro e w' ⟨rfl,rfl⟩;rw[HN.o]));rw[show p+1+N=p+(N+1) by omega];refine bodyPost_ret (v:=.tuple #[.agg #[ah 2,aY (s.extract p (p+(N+1))),ah 0,ah 0,bK 0],ah ((p:Int)+1+N),ah 0]) (by simp[results,Tryz.results43,go_sem]) rfl ⟨congrArg (fun z:Int=>Ending.returned (.tuple #[.agg #[ah 2,aY (s.extract p (p+(N+1))),ah 0,ah 0,bK 0],ah z,ah 0])) (show(p:Int)+1+N=((p+(N+1):Nat):Int) by omega),?_⟩;exact(Step.refl _ w).alloc _
theorem refNum_ok (t:ByteArray) (w:World) (k n v:Nat) (hsz:t.size≤100000) (h:QA t.data.toList=.ok (k,n,v)):Calls Tryz.prog 89 #[.string t] w fun e w'=>e=.returned (.tuple #[bK v,ah k,ah 0])∧w=w':=by have:=aaC t w hsz;rw[h]at this;exact this
theorem refNum_err (t:ByteArray) (w:World) (c:Nat) (hsz:t.size≤100000) (h:QA t.data.toList=.error c):Calls Tryz.prog 89 #[.string t] w fun e w'=>e=.returned (.tuple #[bK 0,ah 0,ah c])∧w=w':=by have:=aaC t w hsz;rw[h]at this;exact this
theorem one_number (s:ByteArray) (p:Nat) (w:World) (hp:p<s.size) (hs:s.size≤100000) (N k v:Nat) (hN:jJ (s.data.toList.drop p)=N) (hL:iQ (s[p].toNat:Int)=false) (hc:s[p]≠39) (hD:isDigit (s[p].toNat:Int)=true) (hnum:QA ((s.data.toList.drop p).take N)=.ok (k,N,v)):Calls Tryz.prog 43 #[.string s,.int .i64 p] w (aao s p w (.ok (k,N,v))):=by
 have h_:((s[p].toNat:Int))≤255:=by have:=s[p].toNat_lt;omega
 have hq:=aak (s[p].toNat:Int);have hq2:=aal (s[p].toNat:Int);rw[hL]at hq;rw[hD]at hq2;have HQ:=ak hq;have YM:=ak hq2;have QD:((s[p].toNat:Int)==39)=false:=by rw[beq_eq_false_iff_ne];exact fun e=>hc (kN 39 e)
 have hrl:p+N≤s.size:=by have:=mO (s.data.toList.drop p);simp at this;omega
 have HN:=ak hN;rw[←jb]at hnum;have HU:=ak hnum;have hse:Hid ((s.extract p (p+N)).size≤100000):=show _≤_ by rw[extract_size s p N hrl];omega
 clear hN hq hq2 hL hD hc hnum;go_enter Tryz.func43,Tryz.ntmps43;go_wp2_with (first|(go_at_call 86;refine(HQ.o _ om h_).mono ?_;rintro e w' ⟨rfl,rfl⟩)|(go_at_call 88;refine(YM.o _ om h_).mono ?_;rintro e w' ⟨rfl,rfl⟩)|(go_at_call 87;refine(aav s p _ om hs).mono ?_;rintro e w' ⟨rfl,rfl⟩;rw[HN.o])|(go_at_call 89;refine(refNum_ok _ _ k N v hse.out HU.o).mono ?_;rintro e w' ⟨rfl,rfl⟩));refine bodyPost_ret (v:=.tuple #[.agg #[ah k,aY (s.extract p (p+N)),ah 0,ah 0,bK v],ah ((p+N:Nat):Int),ah 0]) (by simp[results,Tryz.results43,go_sem]) rfl ⟨rfl,?_⟩;exact(Step.refl _ w).alloc _
theorem one_numberBad (s:ByteArray) (p:Nat) (w:World) (hp:p<s.size) (hs:s.size≤100000) (N c:Nat) (hN:jJ (s.data.toList.drop p)=N) (hL:iQ (s[p].toNat:Int)=false) (hc:s[p]≠39) (hD:isDigit (s[p].toNat:Int)=true) (hnum:QA ((s.data.toList.drop p).take N)=.error c) (hc0:c≠0):Calls Tryz.prog 43 #[.string s,.int .i64 p] w (aao s p w (.error c)):=by
 have h_:((s[p].toNat:Int))≤255:=by have:=s[p].toNat_lt;omega
 have hq:=aak (s[p].toNat:Int);have hq2:=aal (s[p].toNat:Int);rw[hL]at hq;rw[hD]at hq2;have HQ:=ak hq;have YM:=ak hq2;have QD:((s[p].toNat:Int)==39)=false:=by rw[beq_eq_false_iff_ne];exact fun e=>hc (kN 39 e)
 have hrl:p+N≤s.size:=by have:=mO (s.data.toList.drop p);simp at this;omega
 have hbc:((c:Int) !=0)=true:=by rw[bne_iff_ne];omega
 have HN:=ak hN;rw[←jb]at hnum;have HU:=ak hnum;have hse:Hid ((s.extract p (p+N)).size≤100000):=show _≤_ by rw[extract_size s p N hrl];omega
 clear hN hq hq2 hL hD hc hnum hc0;go_enter Tryz.func43,Tryz.ntmps43;go_wp2_with (first|(go_at_call 86;refine(HQ.o _ om h_).mono ?_;rintro e w' ⟨rfl,rfl⟩)|(go_at_call 88;refine(YM.o _ om h_).mono ?_;rintro e w' ⟨rfl,rfl⟩)|(go_at_call 87;refine(aav s p _ om hs).mono ?_;rintro e w' ⟨rfl,rfl⟩;rw[HN.o])|(go_at_call 89;refine(refNum_err _ _ c hse.out HU.o).mono ?_;rintro e w' ⟨rfl,rfl⟩));refine bodyPost_ret (v:=.tuple #[.agg #[ah 0,bP,ah 0,ah 0,bK 0],ah 0,ah c]) (by simp[results,Tryz.results43,go_sem]) rfl ⟨rfl,?_⟩;exact(Step.refl _ w).alloc _
def aam:List (List UInt8):=[[45,62],[61,61],[38,38],[40],[41],[123],[125],[60],[62],[44],[59],[58],[61],[38],[124],[43],[45],[42],[47],[33],[46]]
def aar:Array Value:=(aam.map fun m=>Value.string ⟨m.toArray⟩).toArray
theorem marksBlk_get (i:Nat) (h:i<21):aar[i]?=some (.string ⟨(aam.getD i []).toArray⟩):=by have:i<aam.length:=h;simp[aar,List.getElem?_map,List.getD_eq_getElem?_getD,List.getElem?_eq_getElem this]
theorem marks_any (w:World):Calls Tryz.prog 90 #[] w fun e w'=>e=.returned (.slice (some ⟨w.heap.size,0,none⟩) 21 21)∧w'=w.alloc (.cells aar 9):=by go_enter Tryz.func90,Tryz.ntmps90;go_wp2;go_ret;exact⟨rfl,rfl⟩
theorem ones_find (c:UInt8) (r:List UInt8) (l:List UInt8):(l.map fun x=>[x]).find? (fun m=>m.isPrefixOf (c::r))=if l.contains c then some [c]else none:=by
 induction l with
 |nil=>rfl
 |cons x l ih=>
  rw[List.map_cons,List.find?_cons,ih,List.contains_cons];by_cases h:x=c
  ·subst h;simp[List.isPrefixOf]
  ·(have h1:(x==c)=false:=by rw[beq_eq_false_iff_ne];exact h);(have h2:(c==x)=false:=by rw[beq_eq_false_iff_ne];exact fun e=>h e.symm);simp[List.isPrefixOf,h1,h2]
theorem markF_find (c:UInt8) (r:List UInt8):pR (c::r)=match aam.find? (fun m=>m.isPrefixOf (c::r))with
  |some m=>.ok (5,m.length,0)
  |none=>.error 1:=by
 have hm:aam=[[45,62],[61,61],[38,38]]++([40,41,123,125,60,62,44,59,58,61,38,124,43,45,42,47,33,46]:List UInt8).map fun x=>[x]:=rfl
 rw[hm,List.find?_append,ones_find]
 have ho:([40,41,123,125,60,62,44,59,58,61,38,124,43,45,42,47,33,46]:List UInt8).contains c=yI c:=rfl
 rw[ho]
 cases r with
 |nil=>
  have:List.find? (fun m=>m.isPrefixOf [c]) [[45,62],[61,61],[38,38]]=none:=by
   simp[List.isPrefixOf]
  rw[this,pR]
  cases yI c<;>rfl
 |cons d r=>
  rw[pR]
  cases h2:uy c d
  ·
   have:List.find? (fun m=>m.isPrefixOf (c::d::r)) [[45,62],[61,61],[38,38]]=none:=by
     unfold uy at h2
     simp only[Bool.or_eq_false_iff]at h2
     obtain⟨⟨h2a,h2b⟩,h2c⟩:=h2
     have e:∀x y:UInt8,(c==x&&d==y)=false→List.isPrefixOf [x,y] (c::d::r)=false:=by
      intro x y h
      show((x==c)&&((y==d)&&true))=false
      rw[Bool.and_true,BEq.comm (a:=x),BEq.comm (a:=y)];exact h
     simp[e _ _ h2a,e _ _ h2b,e _ _ h2c]
   rw[this]
   cases yI c<;>rfl
  ·
   unfold uy at h2
   simp only[Bool.or_eq_true,Bool.and_eq_true,beq_iff_eq]at h2
   rcases h2 with(⟨rfl,rfl⟩|⟨rfl,rfl⟩)|⟨rfl,rfl⟩<;>simp[List.isPrefixOf]
def markR:Option (List UInt8)→Except Nat (Nat×Nat×Nat)
 |some m=>.ok (5,m.length,0)
 |none=>.error 1
theorem marks_len:∀i,i<21→1≤(aam.getD i []).length∧(aam.getD i []).length≤2:=by decide
theorem prefix_cut (s m:ByteArray) (p:Nat) (_hp:p≤s.size):m.data.toList.isPrefixOf (s.data.toList.drop p)=(decide (p+m.size≤s.size)&&((s.extract p (p+m.size)).toList==m.toList)):=by
 rw[Lib.toList_data,Lib.toList_data,jb,Bool.eq_iff_iff,List.isPrefixOf_iff_prefix,Bool.and_eq_true,decide_eq_true_eq,beq_iff_eq,Lib.size_eq m,Lib.size_eq s];constructor
 ·intro h;have hl:=h.length_le;rw[List.length_drop]at hl;exact⟨by have:=Lib.size_eq s;omega,(List.prefix_iff_eq_take.1 h).symm⟩
 ·rintro⟨_,h⟩;rw[←h];exact List.take_prefix _ _
theorem one_mark (s:ByteArray) (p:Nat) (w:World) (hp:p<s.size) (hs:s.size≤100000) (hL:iQ (s[p].toNat:Int)=false) (hc:s[p]≠39) (hD:isDigit (s[p].toNat:Int)=false) (r:Option (List UInt8)) (hr:aam.find? (fun m=>m.isPrefixOf (s.data.toList.drop p))=r):Calls Tryz.prog 43 #[.string s,.int .i64 p] w (aao s p w (markR r)):=by
 have h_:((s[p].toNat:Int))≤255:=by have:=s[p].toNat_lt;omega
 have hq:=aak (s[p].toNat:Int);have hq2:=aal (s[p].toNat:Int);rw[hL]at hq;rw[hD]at hq2;have HQ:=ak hq;have YM:=ak hq2;have QD:((s[p].toNat:Int)==39)=false:=by rw[beq_eq_false_iff_ne];exact fun e=>hc (kN 39 e)
 have HR:=ak hr;clear hq hq2 hL hD hc hr;go_enter Tryz.func43,Tryz.ntmps43;go_wp2_with (first|(go_at_call 86;refine(HQ.o _ om h_).mono ?_;rintro e w' ⟨rfl,rfl⟩)|(go_at_call 88;refine(YM.o _ om h_).mono ?_;rintro e w' ⟨rfl,rfl⟩)|(go_at_call 90;refine(marks_any _).mono ?_;rintro e w' ⟨rfl,rfl⟩))
 go_loopg [15] 21 (fun g s15 wr=>∃i n:Nat,i≤21∧21-i≤g∧s15=.int .i64 i∧(aam.drop i).find? (fun m=>m.isPrefixOf (s.data.toList.drop p))=r∧
  wr=((w.alloc (.cells #[ah 0,bP,ah 0,ah 0,bK 0] 38)).alloc (.cells aar 9)).drewN n)
 case atStart=>exact⟨0,0,by omega,by omega,rfl,HR.o,rfl⟩
 case round=>
  obtain⟨i,n,hi,hg,rfl,heq,rfl⟩:=hrel;have HE:=ak heq;clear heq;by_cases hlti:i<21
  ·obtain⟨m,hm⟩:∃m:ByteArray,m=⟨(aam.getD i []).toArray⟩:=⟨_,rfl⟩;have hcell:=aj (dX w (.cells #[ah 0,bP,ah 0,ah 0,bK 0] 38) (.cells aar 9)) i _ (marksBlk_get i hlti);rw[←hm]at hcell;have hml:=marks_len i hlti;(have hms:m.size=(aam.getD i []).length:=by rw[Lib.size_eq,hm]);rw[←hms]at hml;obtain⟨hm1,hm2⟩:=hml;(have hd:Hid (aam.drop i=m.data.toList::aam.drop (i+1)):=by show _=_;rw[List.drop_eq_getElem_cons (show i<aam.length from hlti),hm,List.getD_eq_getElem?_getD,List.getElem?_eq_getElem (show i<aam.length from hlti)];rfl);have HPC:=ak (prefix_cut s m p (Nat.le_of_lt hp));have HMS:=ak hms;have HM:=ak hm;clear hms hm;by_cases hfit:p+m.size≤s.size
   ·(have hf1:decide ((p:Int)+m.size≤s.size)=true:=by rw[decide_eq_true_eq];omega);cases hcmp:((s.extract p (p+m.size)).toList==m.toList)
    ·(have hr0:Hid ((aam.drop (i+1)).find? (fun m=>m.isPrefixOf (s.data.toList.drop p))=r):=by show _=_;rw[←HE.o,hd.out,List.find?_cons,HPC.o,hcmp,Bool.and_false]);go_wp2;go_quiet (fail);go_wp2;go_roundg (gk-1);case rel=>exact⟨i+1,_,by omega,by omega,by go_num,hr0.out,rfl⟩
     case measure=>omega
    ·(have hr0:Hid (r=some m.data.toList):=by show _=_;rw[←HE.o,hd.out,List.find?_cons,HPC.o,hcmp,decide_eq_true hfit];rfl);(have hmv:Hid (m=s.extract p (p+m.size)):=by show _=_;have:=beq_iff_eq.1 hcmp;rw[Lib.toList_data,Lib.toList_data]at this;exact(BQ this).symm);go_wp2;go_quiet (fail);go_wp2;rw[hr0.out];have hlen:m.data.toList.length=m.size:=(Lib.size_eq m).symm;refine bodyPost_ret (v:=.tuple #[.agg #[ah 5,aY m,ah 0,ah 0,bK 0],ah ((p:Int)+m.size),ah 0]) (by simp[results,Tryz.results43,go_sem]) rfl ⟨?_,?_⟩
     ·show _=Ending.returned (.tuple #[.agg #[ah 5,aY (s.extract p (p+m.data.toList.length)),ah 0,ah 0,bK 0],ah ((p+m.data.toList.length:Nat):Int),ah 0]);rw[hlen,←hmv.out];rfl
     ·exact((((Step.refl _ w).alloc _).alloc _).drewN _).five (Nat.le_refl _)
   ·(have hf1:decide ((p:Int)+m.size≤s.size)=false:=by rw[decide_eq_false_iff_not];omega);(have hr0:Hid ((aam.drop (i+1)).find? (fun m=>m.isPrefixOf (s.data.toList.drop p))=r):=by show _=_;rw[←HE.o,hd.out,List.find?_cons,HPC.o,decide_eq_false hfit,Bool.false_and]);go_wp2;go_quiet (fail);go_wp2;go_roundg (gk-1);case rel=>exact⟨i+1,_,by omega,by omega,by go_num,hr0.out,rfl⟩
    case measure=>omega
  ·(have hr0:Hid (r=none):=by show _=_;rw[←HE.o,show aam.drop i=[] from List.drop_of_length_le (by show 21≤i;omega)];rfl);go_wp2;rw[hr0.out];refine bodyPost_ret (v:=.tuple #[.agg #[ah 0,bP,ah 0,ah 0,bK 0],ah 0,ah 1]) (by simp[results,Tryz.results43,go_sem]) rfl ⟨rfl,?_⟩;exact((((Step.refl _ w).alloc _).alloc _).drewN _).five (Nat.le_refl _)
theorem small_not {c:UInt8} (h:nY (c.toNat:Int)=false):c.toNat<97∨122<c.toNat:=by
 unfold nY at h;by_cases h1:c.toNat<97
 ·exact .inl h1
 ·right;have h2:decide ((97:Int)≤c.toNat)=true:=by rw[decide_eq_true_eq];omega
  rw[h2,Bool.true_and,decide_eq_false_iff_not]at h;omega
theorem small_yes {c:UInt8} (h:nY (c.toNat:Int)=true):97≤c.toNat∧c.toNat≤122:=by unfold nY at h;simp at h;omega
theorem aaD (s:ByteArray) (p:Nat) (w:World) (hp:p<s.size) (hs:s.size≤100000):Calls Tryz.prog 43 #[.string s,.int .i64 p] w (aao s p w (ny (s.data.toList.drop p))):=by
 have hd:=drop_cons s p hp;rw[hd,ny,←hd];cases hL:iQ (s[p].toNat:Int)
 ·rw[if_neg (by simp)];by_cases hc:s[p]=39
  ·rw[if_pos hc,hd,AV];by_cases hN0:jJ (s.data.toList.drop (p+1))=0
   ·rw[if_pos (.inl hN0)];exact one_lifeNone s p w hp hs _ rfl hL hc hN0
   ·(have hlt1:p+1<s.size:=by have:=mO (s.data.toList.drop (p+1));simp at this;omega);have hd1:=drop_cons s (p+1) hlt1;(have hh:(s.data.toList.drop (p+1)).headD 0=s[p+1]:=by rw[hd1];rfl);cases hsm:nY (((s.data.toList.drop (p+1)).headD 0).toNat:Int)
    ·rw[if_pos (.inr rfl)];rw[hh]at hsm;rcases small_not hsm with h|h
     ·exact one_lifeLow s p w hp hs _ rfl hL hc om hlt1 h
     ·exact one_lifeHigh s p w hp hs _ rfl hL hc om hlt1 h
    ·rw[if_neg (fun e=>e.elim hN0 (by simp))];rw[hh]at hsm;obtain⟨h97,h122⟩:=small_yes hsm;by_cases hlong:24<jJ (s.data.toList.drop (p+1))
     ·rw[if_pos hlong];exact one_lifeLong s p w hp hs _ rfl hL hc om hlt1 h97 h122 hlong
     ·rw[if_neg hlong];exact one_life s p w hp hs _ rfl hL hc om hlt1 h97 h122 om
  ·rw[if_neg hc];cases hD:isDigit (s[p].toNat:Int)
   ·rw[if_neg (by simp)];have:=one_mark s p w hp hs hL hc hD _ rfl;rw[hd,markF_find,←hd];exact this
   ·rw[if_pos rfl];unfold qQ;cases hn:QA ((s.data.toList.drop p).take (jJ (s.data.toList.drop p)))with
    |error c=>refine one_numberBad s p w hp hs _ c rfl hL hc hD hn ?_;(have:ny (s.data.toList.drop p)=.error c:=by rw[hd,ny,←hd,hL,if_neg (by simp),if_neg hc,hD,if_pos rfl,qQ,hn]);exact Fv this
    |ok x=>obtain⟨k,n,v⟩:=x;(have hl:n=jJ (s.data.toList.drop p):=by have hle:=mO (s.data.toList.drop p);(have:((s.data.toList.drop p).take (jJ (s.data.toList.drop p))).length=jJ (s.data.toList.drop p):=by rw[List.length_take];omega);unfold QA at hn;rw[this]at hn;split at hn<;>split at hn<;>simp at hn<;>omega);subst hl;exact one_number s p w hp hs _ k v rfl hL hc hD hn
 ·rw[if_pos rfl];unfold AU;by_cases hn:24<jJ (s.data.toList.drop p)
  ·rw[if_pos hn];exact one_nameLong s p w hp hs _ rfl hL hn
  ·rw[if_neg hn];exact one_name s p w hp hs _ rfl hL om
def allA (s:List UInt8) (k:Nat) (q:Nat×Nat×Nat) (acc:List Tok):Except (Nat×Nat×Nat) (List Tok):=
 if s.drop q.1=[]then .ok (acc++[⟨0,[],q.2.1,q.1-q.2.2+1,0⟩])
 else if acc.length=8000 then .error (2,q.2.1,q.1-q.2.2+1)
 else match ny (s.drop q.1)with
  | .error c=>.error (c,q.2.1,q.1-q.2.2+1)
  | .ok (kind,n,val)=>zO k ((s.drop q.1).drop n) (q.1+n) q.2.1 q.2.2 (acc++[⟨kind,(s.drop q.1).take n,q.2.1,q.1-q.2.2+1,val⟩])
theorem allF_allA (s:List UInt8) (k p l f:Nat) (acc:List Tok) (hf:f≤p):zO (k+1) (s.drop p) p l f acc=allA s k (gB false (s.drop p) p l f) acc:=by have hi:=C_ (s.drop p) false p l f _ _ _ rfl hf;rw[zO,allA];simp only[List.drop_drop];rw[show p+((gB false (s.drop p) p l f).1-p)=(gB false (s.drop p) p l f).1 by omega];rfl
def aaE (B:Nat) (w:World) (r:Except (Nat×Nat×Nat) (List Tok)) (e:Ending) (w':World):Prop:=
 (match r with
  | .ok l=>∃v,e=.returned (.tuple #[v,.agg #[ah 0,ah 0,ah 0]])∧w'.ownsRow B 38 5 v l.length (uS l)
  | .error (c,ln,col)=>e=.returned (.tuple #[au,.agg #[ah c,ah ln,ah col]]))∧Step (fun _=>False) w w'
theorem Tryz.infoRTok:(Tryz.prog.info? 38).map (fun i=>(i.zero,i.size,i.bytes))=some (some (.agg #[ah 0,bP,ah 0,ah 0,bK 0]),5,48):=by kernel_rfl
theorem refOne_ok (s:ByteArray) (p:Nat) (w:World) (k n v:Nat) (hp:p<s.size) (hs:s.size≤100000) (h:ny (s.data.toList.drop p)=.ok (k,n,v)):
  Calls Tryz.prog 43 #[.string s,.int .i64 p] w fun e w'=>
   e=.returned (.tuple #[.agg #[ah k,aY (s.extract p (p+n)),ah 0,ah 0,bK v],ah ((p+n:Nat):Int),ah 0])∧Step (fun _=>False) w w':=by
 have:=aaD s p w hp hs
 rw[h]at this
 exact this
theorem refOne_bad (s:ByteArray) (p:Nat) (w:World) (c:Nat) (hp:p<s.size) (hs:s.size≤100000) (h:ny (s.data.toList.drop p)=.error c):
  Calls Tryz.prog 43 #[.string s,.int .i64 p] w fun e w'=>
   e=.returned (.tuple #[.agg #[ah 0,bP,ah 0,ah 0,bK 0],ah 0,ah c])∧Step (fun _=>False) w w':=by
 have:=aaD s p w hp hs
 rw[h]at this
 exact this
theorem refAll_any (s:ByteArray) (w:World) (hs:s.size≤20000):Calls Tryz.prog 12 #[.string s] w (aaE w.heap.size w (qI s.data.toList)):=by
 have HR:Hid (allA s.data.toList s.data.toList.length (gB false s.data.toList 0 1 0) []=qI s.data.toList):=by show _=_;rw[qI,if_neg (by rw[←Lib.size_eq];omega)];exact(allF_allA s.data.toList s.data.toList.length 0 1 0 [] (Nat.le_refl _)).symm
 generalize hRes:qI s.data.toList=dO at*;clear hRes;obtain⟨i0,hi0,hz00,hz10,hz20⟩:=info_parts Tryz.infoRTok;have hi:=ak hi0;have hz0:=ak hz00;have hz1:=ak hz10;have hz2:=ak hz20;clear hi0 hz00 hz10 hz20;have hsl:Hid (s.data.toList.length=s.size):=(Lib.size_eq s).symm;rw[hsl.out]at HR;go_enter Tryz.func12,Tryz.ntmps12;go_wp2_with fail
 go_loopg [4,5,6,7] (s.size+1) (fun g s4 s5 s6 s7 wr=>∃(p l f k:Nat) (toks:List Tok),s5=.int .i64 l∧s6=.int .i64 f∧s7=.int .i64 p∧f≤p∧p≤s.size∧l≤p+1∧toks.length≤8000∧s.size-p≤k∧s.size-p≤g∧
  allA s.data.toList k (gB false (s.data.toList.drop p) p l f) toks=dO∧
  wr.heap[w.heap.size]?=some (.cells #[ah 0,ah 0,ah 0] 33 (0,0))∧wr.ownsRow (w.heap.size+1) 38 5 s4 toks.length (uS toks)∧
  Step (fun _=>False) w wr∧w.heap.size+1≤wr.heap.size)
 case atStart=>exact⟨0,1,0,s.size,[],rfl,rfl,rfl,Nat.le_refl _,Nat.zero_le _,by omega,by simp,by omega,by omega,HR.o,aA w _,World.ownsRow_nil _ _ _ _,(Step.refl _ w).alloc _,by simp⟩
 case round=>
  obtain⟨p,l,f,k,toks,rfl,rfl,rfl,hf,hp,hl,htk,hk,hg,heq,hE,hown,hst,hsz⟩:=hrel;obtain⟨oa,oc,rfl⟩:=a_ hown;have HE:=ak heq;have HOW:=ak hown;have hEE:Hid (wr.heap[w.heap.size]?=_):=hE;obtain⟨⟨g0,g1,g2⟩,k0,k1,k2⟩:=wE hE;clear heq hown hE;have HC:Hid ((p:Int)-f+1=((p-f+1:Nat):Int)):=show _=_ by omega
  by_cases hend:p<s.size
  ·have hdr:=ak (drop_cons s p hend);(have h_:((s[p].toNat:Int))≤255:=by have:=s[p].toNat_lt;omega);by_cases h10:s[p]=10
   ·(have hr0:Hid (allA s.data.toList k (gB false (s.data.toList.drop (p+1)) (p+1) (l+1) (p+1)) toks=dO):=by show _=_;rw[←HE.o,hdr.out,gB,if_pos h10]);(have b10:((s[p].toNat:Int)==10)=true:=by rw[h10];rfl);clear h10;go_wp2;go_roundg (gk-1);case rel=>exact⟨p+1,l+1,p+1,k,toks,by go_num,by go_num,by go_num,by omega,by omega,by omega,htk,by omega,by omega,hr0.out,hEE.out,HOW.o,hst,hsz⟩
    case measure=>omega
   ·(have b10:((s[p].toNat:Int)==10)=false:=by rw[beq_eq_false_iff_ne];exact fun e=>h10 (kN 10 e));by_cases hsp:s[p]=32∨s[p]=9∨s[p]=13
    ·(have hr0:Hid (allA s.data.toList k (gB false (s.data.toList.drop (p+1)) (p+1) l f) toks=dO):=by show _=_;rw[←HE.o,hdr.out,uQ hsp]);(have hcase:((s[p].toNat:Int)==32)=true∨(((s[p].toNat:Int)==32)=false∧((s[p].toNat:Int)==9)=true)∨(((s[p].toNat:Int)==32)=false∧((s[p].toNat:Int)==9)=false∧((s[p].toNat:Int)==13)=true):=by rcases hsp with h|h|h<;>rw[h]<;>decide);clear h10 hsp;(rcases hcase with b1|⟨b1,b2⟩|⟨b1,b2,b3⟩);all_goals
      go_wp2
      go_roundg (gk-1)
      case rel=>exact⟨p+1,l,f,k,toks,by go_num,by go_num,by go_num,by omega,by omega,by omega,htk,by omega,by omega,hr0.out,hEE.out,HOW.o,hst,hsz⟩
      case measure=>omega
    ·(have b32:((s[p].toNat:Int)==32)=false:=by rw[beq_eq_false_iff_ne];exact fun e=>hsp (.inl (kN 32 e)));(have b9:((s[p].toNat:Int)==9)=false:=by rw[beq_eq_false_iff_ne];exact fun e=>hsp (.inr (.inl (kN 9 e))));(have b13:((s[p].toNat:Int)==13)=false:=by rw[beq_eq_false_iff_ne];exact fun e=>hsp (.inr (.inr (kN 13 e))));have H10:=ak h10;have HSP:=ak hsp;clear h10 hsp;by_cases hrem:s[p]=47∧(s.data.toList.drop (p+1)).head?=some 47
     ·have hp1:p+1<s.size:=by
       rcases Nat.lt_or_ge (p+1) s.size with h|h
       ·exact h
       ·rw[List.drop_of_length_le (by rw[hsl.out];exact h)]at hrem;simp at hrem
      (have h47:s[p+1]=47:=by have:=hrem.2;rw[drop_cons s (p+1) hp1]at this;simpa using this);(have b47:((s[p].toNat:Int)==47)=true:=by rw[hrem.1];rfl);(have c47:((s[p+1].toNat:Int)==47)=true:=by rw[h47];rfl);(have HI:Hid (allA s.data.toList k (gB true (s.data.toList.drop p) p l f) toks=dO):=by show _=_;rw[←HE.o,hdr.out,IU hrem]);have hn10:=H10.o;clear hrem h47 HE H10;obtain⟨wo,rfl⟩:=aU wr;obtain⟨gg,rfl⟩:∃g:Nat,g=gk:=⟨_,rfl⟩;have HN10:=ak hn10;clear hn10;go_wp2_with fail;go_loopg [7] s.size (fun g v wi=>∃p2:Nat,v=.int .i64 p2∧p≤p2∧p2≤s.size∧s.size-p2≤g∧allA s.data.toList k (gB true (s.data.toList.drop p2) p2 l f) toks=dO∧wi=wo);case atStart=>exact⟨p,rfl,Nat.le_refl _,hp,by omega,HI.o,rfl⟩
      case round=>
       obtain⟨p2,rfl,hpp,hp2,hg2,heq2,rfl⟩:=hrel;have HE2:=ak heq2;clear heq2;by_cases hlt2:p2<s.size
       ·have hdr2:=ak (drop_cons s p2 hlt2);by_cases h10:s[p2]=10
        ·(have hb10:((s[p2].toNat:Int) !=10)=false:=by rw[h10];rfl);have hpp2:p<p2:=by
          rcases Nat.lt_or_ge p p2 with h|h
          ·exact h
          ·(have:p=p2:=by omega);subst this;exact absurd h10 HN10.o
         (have hr0:Hid (allA s.data.toList k (gB false (s.data.toList.drop p2) p2 l f) toks=dO):=by show _=_;rw[←HE2.o,hdr2.out,Kt h10]);clear h10;go_wp2;go_roundg (gg-1);case rel=>exact⟨p2,l,f,k,toks,by go_num,by go_num,by go_num,by omega,by omega,by omega,htk,by omega,by omega,hr0.out,hEE.out,HOW.o,hst,hsz⟩
         case measure=>omega
        ·(have hb10:((s[p2].toNat:Int) !=10)=true:=by rw[bne_iff_ne];exact fun e=>h10 (kN 10 e));(have hr0:Hid (allA s.data.toList k (gB true (s.data.toList.drop (p2+1)) (p2+1) l f) toks=dO):=by show _=_;rw[←HE2.o,hdr2.out,gB,if_neg h10]);clear h10;go_wp2;go_roundg (gk-1);case rel=>exact⟨p2+1,by go_num,by omega,by omega,by omega,hr0.out,rfl⟩
         case measure=>omega
       ·(have hr0:Hid (allA s.data.toList k (gB false (s.data.toList.drop p2) p2 l f) toks=dO):=by show _=_;rw[←HE2.o,List.drop_of_length_le (by rw[hsl.out];omega)];rfl);go_wp2;go_roundg (gg-1);case rel=>exact⟨p2,l,f,k,toks,by go_num,by go_num,by go_num,by omega,by omega,by omega,htk,by omega,by omega,hr0.out,hEE.out,HOW.o,hst,hsz⟩
        case measure=>omega
     ·(have hstop:Hid (allA s.data.toList k (p,l,f) toks=dO):=by show _=_;rw[←HE.o,hdr.out,IQ H10.o HSP.o hrem]);have hcase:((s[p].toNat:Int)==47)=false∨(((s[p].toNat:Int)==47)=true∧decide ((p:Int)+1<s.size)=false)∨(∃h:p+1<s.size,((s[p].toNat:Int)==47)=true∧decide ((p:Int)+1<s.size)=true∧((s[p+1].toNat:Int)==47)=false):=by
       by_cases h47:s[p]=47
       ·right;(have e47:((s[p].toNat:Int)==47)=true:=by rw[h47];rfl);by_cases hp1:p+1<s.size
        ·right;refine⟨hp1,e47,by rw[decide_eq_true_eq];omega,?_⟩;rw[beq_eq_false_iff_ne];intro e;refine hrem ⟨h47,?_⟩;rw[drop_cons s (p+1) hp1,kN 47 e];rfl
        ·exact .inl ⟨e47,by rw[decide_eq_false_iff_not];omega⟩
       ·exact .inl (by rw[beq_eq_false_iff_ne];exact fun e=>h47 (kN 47 e))
      (have hne:Hid (s.data.toList.drop p≠[]):=fun e=>by rw[hdr.out]at e;simp at e);clear hrem HE H10 HSP;by_cases h8:toks.length=8000
      ·(have hr0:Hid (dO=.error (2,l,p-f+1)):=by show _=_;rw[←hstop.out,allA,if_neg hne.out,if_pos h8]);(have hb2:((toks.length:Int)==8000)=true:=by rw[h8];rfl);clear h8;(rcases hcase with b1|⟨b1,b2⟩|⟨hp1,b1,b2,b3⟩);all_goals
        go_wp2
        refine bodyPost_ret (v:=.tuple #[au,.agg #[ah 2,ah l,ah ((p:Int)-f+1)]]) (by simp[results,Tryz.results12,go_sem,g0,g1,g2]) rfl ?_
        rw[hr0.out]
        exact⟨by rw[HC.o];rfl,hst.three (Nat.le_refl _)⟩
      ·(have hb2:((toks.length:Int)==8000)=false:=by rw[beq_eq_false_iff_ne];omega);cases hn:ny (s.data.toList.drop p)with
       |error c=>
        (have hr0:Hid (dO=.error (c,l,p-f+1)):=by show _=_;rw[←hstop.out,allA,if_neg hne.out,if_neg h8,hn]);(have hc0:((c:Int) !=0)=true:=by rw[bne_iff_ne];have:=Fv hn;omega);have HN:=ak hn;clear hn h8;(rcases hcase with b1|⟨b1,b2⟩|⟨hp1,b1,b2,b3⟩);all_goals
         go_wp2_with fail
         refine(refOne_bad s p _ c hend om HN.o).mono ?_
         rintro e w3 ⟨rfl,hst3⟩
         obtain⟨⟨g0',g1',g2'⟩,k0',k1',k2'⟩:=wE (hst3.keep hEE.out (fun h=>h))
         have hz3:=hst3.size
         have Xv:w.heap.size<w3.heap.size:=by omega
         go_wp2
         refine bodyPost_ret (v:=.tuple #[au,.agg #[ah c,ah l,ah ((p:Int)-f+1)]]) (by simp[results,Tryz.results12,go_sem,g0',g1',g2',Xv]) rfl ?_
         rw[hr0.out]
         exact⟨by rw[HC.o],(((hst.trans hst3).three (Nat.le_refl _)).alloc _)⟩
       |ok x=>
        obtain⟨kind,n,val⟩:=x;obtain⟨hn1,hn2,_⟩:=zQ hn;rw[List.length_drop,hsl.out]at hn2;obtain⟨k',rfl⟩:∃k',k=k'+1:=⟨k-1,by omega⟩;(have hr0:Hid (allA s.data.toList k' (gB false (s.data.toList.drop (p+n)) (p+n) l f) (toks++[⟨kind,(s.data.toList.drop p).take n,l,p-f+1,val⟩])=dO):=by show _=_;have e:=hstop.out;rw[allA,if_neg hne.out,if_neg h8,hn]at e;rw[←allF_allA _ _ _ _ _ _ om,←List.drop_drop];exact e);have HN:=ak hn;clear hn;(rcases hcase with b1|⟨b1,b2⟩|⟨hp1,b1,b2,b3⟩);all_goals
         go_wp2_with fail
         refine(refOne_ok s p _ kind n val hend om HN.o).mono ?_
         rintro e w3 ⟨rfl,hst3⟩
         have kU:Hid (w3.heap[w.heap.size]?=some (.cells #[ah 0,ah 0,ah 0] 33 (0,0))):=hst3.keep hEE.out (fun h=>h)
         have hz3:=hst3.size
         have Xv:w.heap.size<w3.heap.size:=by omega
         have HOW3:Hid (w3.ownsRow (w.heap.size+1) 38 5 (.slice oa toks.length oc) toks.length (uS toks)):=hst3.owns HOW.o (fun k hk h=>h)
         have hw3:=hst.trans hst3
         go_wp2_with (at_builtin;refine wpList_append_own _ rfl _ _ 31 rfl (w.heap.size+1) 38 i0 (.agg #[ah 0,bP,ah 0,ah 0,bK 0]) 5 48 Tryz.underlying31 hi.out hz0.out hz1.out hz2.out rfl dc _ _ _ rfl ((HOW3.o.alloc _).alloc _) ⟨w3.heap.size+1,0,none⟩ 1 1 [.int .i64 kind,.string (s.extract p (p+n)),.int .i64 l,.int .i64 ((p:Int)-f+1),.int .u64 val] rfl rfl ?_ ?_ ?_ ?_ ?_ ?_)
         ·
          exact tq (cs:=[_,_,_,_,_]) (dX _ _ _)
         ·
          intro u hu;simp at hu;rcases hu with rfl|rfl|rfl|rfl|rfl<;>rfl
         ·
          unfold maxLen;omega
         ·
          omega
         ·
          simp;omega
         intro v' w4 hown4 hgrow _
         have hrow:=Fg HOW3.o
         have H4:=ak hown4
         have HG:=ak hgrow
         have HRW:=ak hrow
         clear hown4 hgrow hrow
         go_wp2
         go_roundg (gk-1)
         case rel=>
          refine⟨p+n,l,f,k',toks++[⟨kind,(s.data.toList.drop p).take n,l,p-f+1,val⟩],by go_num,by go_num,by go_num,by omega,by omega,by omega,by simp;omega,by omega,by omega,hr0.out,xA HG.o (aN (aN kU.o)) (fun k hk=>by have:=HRW.o k hk;omega),?_,?_,?_⟩
          ·
           have:=H4.o
           rw[C9,List.length_append]
           rw[HC.o,Oi]at this
           exact this
          ·
           exact((hw3.alloc _).alloc _).grown HG.o (fun k hk hlt=>by have:=HRW.o k hk;omega)
          ·
           have:=HG.o.size
           simp at this;omega
         case measure=>omega
  ·(have hr0:Hid (dO=.ok (toks++[⟨0,[],l,p-f+1,0⟩])):=by show _=_;have hnil:s.data.toList.drop p=[]:=List.drop_of_length_le (by rw[hsl.out];omega);rw[←HE.o,hnil,gB,allA,if_pos (by exact hnil)]);go_wp2_with (at_builtin;refine wpList_append_own _ rfl _ _ 31 rfl (w.heap.size+1) 38 i0 (.agg #[ah 0,bP,ah 0,ah 0,bK 0]) 5 48 Tryz.underlying31 hi.out hz0.out hz1.out hz2.out rfl dc _ _ _ rfl (HOW.o.alloc _) ⟨wr.heap.size,0,none⟩ 1 1 [.int .i64 0,.string ⟨#[]⟩,.int .i64 l,.int .i64 ((p:Int)-f+1),.int .u64 0] rfl rfl ?c1 ?c2 ?c3 ?c4 ?c5 ?_);case c1=>exact tq (cs:=[_,_,_,_,_]) (aA _ _)
   (case c2=>intro u hu;simp at hu;rcases hu with rfl|rfl|rfl|rfl|rfl<;>rfl);case c3=>unfold maxLen;omega
   (case c4=>omega);case c5=>simp;omega
   intro v' w3 hown3 hgrow _;have hrow:=Fg HOW.o;obtain⟨⟨g0',g1',g2'⟩,k0',k1',k2'⟩:=wE (xA hgrow (aN hEE.out) (fun k hk=>by have:=hrow k hk;omega));have hst3:Step (fun _=>False) w w3:=(hst.alloc _).grown hgrow (fun k hk hlt=>by have:=hrow k hk;omega);have H3:=ak hown3;clear hown3 hgrow hrow;go_wp2;refine bodyPost_ret (v:=.tuple #[v',.agg #[ah 0,ah 0,ah 0]]) (by simp[results,Tryz.results12,go_sem,g0',g1',g2']) rfl ?_;rw[hr0.out];refine⟨⟨v',rfl,?_⟩,?_⟩
   ·have:=Kw (r:=w.heap.size) (v0:=.int .i64 0) (v1:=.int .i64 0) (v2:=.int .i64 0) H3.o om;rw[C9,List.length_append];rw[HC.o]at this;exact rP this om
   ·exact hst3.three (Nat.le_refl _)
set_option maxRecDepth 100000
set_option maxHeartbeats 8000000
theorem ersC_get:∀(es:List Er) (i:Nat) (e:Er),es[i]?=some e→∀(j:Nat) (v:Value),(ErC e)[j]?=some v→(Ld es)[i*3+j]?=some v
 |[],i,e,h,_,_,_=>by simp at h
 |a::r,0,e,h,j,v,hv=>by
  simp at h;subst h
  rw[Ld,List.flatMap_cons,Nat.zero_mul,Nat.zero_add,List.getElem?_append_left (List.getElem?_eq_some_iff.1 hv).1]
  exact hv
 |a::r,i+1,e,h,j,v,hv=>by
  have h3:(ErC a).length=3:=rfl
  rw[Ld,List.flatMap_cons,List.getElem?_append_right (by rw[h3];omega),h3,show(i+1)*3+j-3=i*3+j by omega]
  exact ersC_get r i e (by simpa using h) j v hv
def hitB (ln cl:Int) (t:Tok):Bool:=((t.kind:Int) !=0)&&(((t.line:Int)==ln)&&((t.col:Int)==cl))
theorem ErT.hit {toks:List Tok} {e:Er} (h:ErT toks e):toks.any (hitB e.2.1 e.2.2)=true:=by obtain⟨⟨t,ht,h1,h2,h3⟩,-⟩:=h;refine List.any_eq_true.2 ⟨t,ht,?_⟩;unfold hitB;rw[h2,h3,beq_self_eq_true,beq_self_eq_true,Bool.and_true,Bool.and_true,bne_iff_ne];omega
theorem any_take {toks:List Tok} {p:Tok→Bool} {k:Nat} {t:Tok} (h:toks[k]?=some t):(toks.take (k+1)).any p=((toks.take k).any p||p t):=by obtain⟨hk,rfl⟩:=List.getElem?_eq_some_iff.1 h;rw[List.take_succ_eq_append_getElem hk,List.any_append];simp
theorem aay (s:ByteArray) (w:World) (m:Int) (hm:w.cell? ⟨0,0,none⟩=some (.int .i64 m)):Calls Tryz.prog 5 #[.string s] w fun e w'=>e=.returned (.bool true)∧Step (fun _=>False) w w':=by
 have wX:=ak (Ee s w m hm);have Dt:Hid (∀X,Step (fun _=>False) w X→Calls Tryz.prog 19 #[] X fun e w'=>e=.returned (.bool true)∧Step (fun _=>False) X w'):=by show∀X,_;intro X hX;exact Qi X m (hX.cell hm (fun h=>h))
 obtain⟨R,hR⟩:=aU (zJ s);have HB:Hid (∀l,R=some l→s.size≤20000∧(l.length≤60∧∀x∈l,Fe x)∧∃toks,qI s.data.toList=.ok toks∧∀x∈l,ItT toks x):=by
  show∀l,_;intro l e;have h:=hR.symm.trans e;refine⟨?_,NY h,?_⟩
  all_goals (
   unfold zJ at h
   split at h
   ·
    split at h
    ·
     rename_i h1 l2 h2;cases h;first|omega|exact prog_t h2
    ·
     cases h
   ·
    cases h)
 rw[←hR]at wX;clear hm hR;go_enter Tryz.func5,Tryz.ntmps5;go_upto_region 1 with fail
 go_wp2_with fail;refine wX.o.mono ?_;cases R with
 |none=>rintro e w1 ⟨he,h1⟩;have he:e=.returned (.tuple #[au,.pointer none,au,aO]):=he;subst he;have cZ:=ak h1;clear h1 HB;go_wp2_with fail;refine(Dt.o _ cZ.o).mono ?_;rintro e w2 ⟨rfl,h2⟩;have HS2:=ak (cZ.o.trans h2);clear h2;go_wp2_with fail;refine(Dt.o _ HS2.o).mono ?_;rintro e w3 ⟨rfl,h3⟩;have eX:=ak (HS2.o.trans h3);clear h3;go_wp2_with fail;go_ret;exact⟨rfl,eX.o⟩
 |some l=>
  rintro e w1 ⟨⟨cb,tb,vl,v,rfl,-,-,hls,hck⟩,h1⟩;obtain⟨hs2,hb,toks,htk,hit⟩:=HB.o l rfl;have hlo:=(zl htk).1;have hown:=hck.own;have hel:=Xn nP hb.2 om;have HET:=ak (newE_t (l:=toks) nP hit);obtain⟨es,hes⟩:=aU (nO nP l);rw[←hes]at hown hel HET;obtain⟨al,cl,rfl⟩:=hls.parts;obtain⟨av,cv,rfl⟩:=a_ hown;obtain⟨nl,hnl⟩:=aU l.length;rw[←hnl];have HEC:Hid (∀(i:Nat) (e:Er),es[i]?=some e→∃g o,av=some ⟨g,o,none⟩∧∀X,Step (fun _=>False) w1 X→∀(j:Nat) (u:Value),(ErC e)[j]?=some u→X.cell? ⟨g,o+i*3+j,none⟩=some u):=by show∀i e,_;intro i e he;obtain⟨a1,c1,hv,-,-,-,hrow⟩:=di.fA (P:=fun _=>True) hown (fun _ _=>trivial);obtain⟨g,o,rfl,-,-,hcell⟩:=hrow (by have:=(List.getElem?_eq_some_iff.1 he).1;omega);have hv2:(.slice av es.length cv:Value)=.slice (some ⟨g,o,none⟩) es.length c1:=hv;cases hv2;exact⟨g,o,rfl,fun X hX j u hu=>by rw[Nat.add_assoc];exact hX.cell (hcell _ _ (ersC_get es i e he j u hu)) (fun h=>h)⟩
  obtain⟨ne,hne⟩:=aU es.length;rw[←hne]at hel⊢;have HNE:=ak hne;have HAL:Hid (∀X,Calls Tryz.prog 12 #[.string s] X (aaE X.heap.size X (.ok toks))):=by show∀X,_;intro X;rw[←htk];exact refAll_any s X hs2
  have cZ:=ak h1;have HLO:=ak hlo.len;clear h1 hls hck hb HB hes hown hlo htk hit hnl hne;go_wp2_with fail;refine(Dt.o _ cZ.o).mono ?_;rintro e w2 ⟨rfl,h2⟩;have HS2:=ak h2;clear h2;go_upto_region 4 with fail
  go_wp2_with fail;refine(HAL.o w2).mono ?_;rintro e w3 ⟨⟨vt,rfl,htw⟩,h3⟩;obtain⟨at9,VZ,rfl⟩:=a_ htw;obtain⟨nt,hnt⟩:=aU toks.length;have Qs:Hid (∀(i:Nat) (t:Tok),toks[i]?=some t→∃g o,at9=some ⟨g,o,none⟩∧∀X,Step (fun _=>False) w3 X→∀(j:Nat) (u:Value),t.cells[j]?=some u→X.cell? ⟨g,o+i*5+j,none⟩=some u):=by show∀i t,_;intro i t he;obtain⟨a1,c1,hv,-,-,-,hrow⟩:=di.fA (P:=fun _=>True) htw (fun _ _=>trivial);obtain⟨g,o,rfl,-,-,hcell⟩:=hrow (by have:=(List.getElem?_eq_some_iff.1 he).1;omega);have hv2:(.slice at9 toks.length VZ:Value)=.slice (some ⟨g,o,none⟩) toks.length c1:=hv;cases hv2;exact⟨g,o,rfl,fun X hX j u hu=>by rw[Nat.add_assoc];exact hX.cell (hcell _ _ (rQ toks i t he j u hu)) (fun h=>h)⟩
  rw[←hnt];have hnt8:nt≤8001:=by rw[hnt];exact HLO.o
  have HNT:=ak hnt;have eX:=ak h3;clear htw h3 hnt;go_upto_region 5 with(first
   |(refine aC (w:=w3.alloc (.cells #[ah 0,ah 0,ah 0] 33)) rfl 33 (.tmp 8) (.tmp 31) rfl w3.heap.size 0 33 _ [.int .i64 0,.int .i64 0,.int .i64 0] rfl rfl (aA _ _) kr (Nat.le_of_eq rfl) (aP rfl) ?_;intro w4 hb4 uM))
  have iP:Hid (Step (fun _=>False) w3 w4):=(bJ.alloc _).then uM oi;have HSW:Hid (Step (fun _=>False) w w4):=(cZ.o.trans HS2.o).trans (eX.o.trans iP.o);have Dp:Hid (Step (fun _=>False) w1 w4):=HS2.o.trans (eX.o.trans iP.o);clear hb4 uM;go_wp2_with fail;go_loopg [9,10,11,12] ne (fun gg s9 _ _ _ wr=>∃i:Nat,s9=.int .i64 i∧i≤ne∧ne-i≤gg∧Step (fun _=>False) w4 wr);case atStart=>exact⟨0,rfl,Nat.zero_le _,by omega,Step.refl _ _⟩
  case round=>
   obtain⟨i,rfl,hi,hgg,hst⟩:=hrel;have HSI:=ak hst;by_cases hlt:i<ne
   ·obtain⟨er,her⟩:∃er,es[i]?=some er:=⟨es[i]'(by rw[←HNE.o];exact hlt),List.getElem?_eq_getElem _⟩;obtain⟨g,o,rfl,hec⟩:=HEC.o i er her;have ND:=ak (HET.o er (List.mem_of_getElem? her));have HEV:=ak hec;obtain⟨c,ln,cl⟩:=er;have HHIT:Hid (toks.any (hitB ln cl)=true):=ND.o.hit;clear her hec hst;obtain⟨go1,rfl⟩:=aU (gk:Nat);obtain⟨wi,rfl⟩:=aU wr;go_wp2_with fail;go_loopg [10,11] nt (fun g9 s10 s11 wr=>∃k:Nat,s11=.int .i64 k∧s10=.bool ((toks.take k).any (hitB ln cl))∧k≤nt∧nt-k≤g9∧∃n,wr=wi.drewN n);case atStart=>exact⟨0,rfl,rfl,Nat.zero_le _,by omega,0,rfl⟩
    case round=>
     obtain⟨k,rfl,rfl,hk,hgk,n,rfl⟩:=hrel;by_cases hlk:k<nt
     ·obtain⟨t,ht⟩:∃t,toks[k]?=some t:=⟨toks[k]'(by rw[←HNT.o];exact hlk),List.getElem?_eq_getElem _⟩;obtain⟨gt,ot,rfl,htc⟩:=Qs.o k t ht;have hSi3:=iP.o.trans HSI.o;have hSi1:=Dp.o.trans HSI.o;have f0:wi.cell? ⟨gt,ot+k*5,none⟩=some (.int .i64 t.kind):=htc wi hSi3 0 _ rfl;have f2:wi.cell? ⟨gt,ot+k*5+2,none⟩=some (.int .i64 t.line):=htc wi hSi3 2 _ rfl;have f3:wi.cell? ⟨gt,ot+k*5+3,none⟩=some (.int .i64 t.col):=htc wi hSi3 3 _ rfl;have e1:wi.cell? ⟨g,o+i*3+1,none⟩=some (.int .i64 ln):=HEV.o wi hSi1 1 _ rfl;have e2:wi.cell? ⟨g,o+i*3+2,none⟩=some (.int .i64 cl):=HEV.o wi hSi1 2 _ rfl;have kz:=ak (any_take (p:=hitB ln cl) ht);obtain⟨b0,hb0⟩:=aU ((toks.take k).any (hitB ln cl));rw[←hb0]at kz⊢;clear htc hSi3 hSi1 ht hb0;have HH:Hid (hitB ln cl t=(((t.kind:Int) !=0)&&(((t.line:Int)==ln)&&((t.col:Int)==cl)))):=rfl;(have sZ:Hid (∀b1,(b0||hitB ln cl t)=b1→(.bool b1:Value)=.bool ((toks.take (k+1)).any (hitB ln cl))):=by show∀b1,_;intro b1 hb1;rw[kz.o,hb1]);cases b0 with
      |true=>
       have HT:=ak (sZ.o true rfl);(go_upto_region 12 with fail);go_quiet (fail);go_wp2_with fail;go_roundg (gk-1);case rel=>exact⟨k+1,by go_num,HT.o,hlk,by rw[←Nat.sub_sub];exact Nat.sub_le_sub_right hgk 1,_,rfl⟩
       case measure=>omega
      |false=>
       cases h0:((t.kind:Int) !=0)with
       |false=>
        have HT:=ak (sZ.o false (by rw[HH.o,h0];rfl));(go_upto_region 12 with fail);go_quiet (fail);go_wp2_with fail;go_roundg (gk-1);case rel=>exact⟨k+1,by go_num,HT.o,hlk,by rw[←Nat.sub_sub];exact Nat.sub_le_sub_right hgk 1,_,rfl⟩
        case measure=>omega
       |true=>
        cases h1:((t.line:Int)==ln)with
        |false=>
         have HT:=ak (sZ.o false (by rw[HH.o,h0,h1];rfl));(go_upto_region 12 with fail);go_quiet (fail);go_wp2_with fail;go_roundg (gk-1);case rel=>exact⟨k+1,by go_num,HT.o,hlk,by rw[←Nat.sub_sub];exact Nat.sub_le_sub_right hgk 1,_,rfl⟩
         case measure=>omega
        |true=>
         obtain⟨b2,hb2⟩:=aU ((t.col:Int)==cl);have h2:=hb2.symm;have HT:=ak (sZ.o b2 (by rw[HH.o,h0,h1,←hb2];rfl));clear hb2;(go_upto_region 12 with fail);go_quiet (fail);go_wp2_with fail;go_roundg (gk-1);case rel=>exact⟨k+1,by go_num,HT.o,hlk,by rw[←Nat.sub_sub];exact Nat.sub_le_sub_right hgk 1,_,rfl⟩
         case measure=>omega
     ·(have qL:Hid ((toks.take k).any (hitB ln cl)=true):=by show _=_;rw[List.take_of_length_le (by rw[←HNT.o];omega)];exact HHIT.o);obtain⟨wn,hwn⟩:=aU (wi.drewN n);(have HSN:Hid (Step (fun _=>False) wi wn):=by show Step _ _ _;rw[hwn];exact bJ.drewN n);rw[←hwn,qL.o];clear hwn;have e0:wn.cell? ⟨g,o+i*3,none⟩=some (.int .i64 c):=HEV.o wn ((Dp.o.trans HSI.o).trans HSN.o) 0 _ rfl;have HC:Hid (c=3∨c=4∨c=5∨c=7∨c=8):=ND.o.2;rcases HC.o with rfl|rfl|rfl|rfl|rfl
      all_goals (
       go_wp2_with fail
       go_roundg (go1-1)
       (case rel=>exact⟨i+1,by go_num,hlt,by rw[←Nat.sub_sub];exact Nat.sub_le_sub_right hgg 1,HSI.o.trans HSN.o⟩)
       (case measure=>omega))
   ·clear hst;go_wp2_with fail;go_ret;exact⟨rfl,HSW.o.trans HSI.o⟩
end Go.Proofs.YtppekkbaoimpgaaGreat
