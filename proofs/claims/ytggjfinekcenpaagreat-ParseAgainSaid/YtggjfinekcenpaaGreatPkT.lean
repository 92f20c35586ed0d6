import Derived.Test.YtggjfinekcenpaaGreatPkS
set_option maxRecDepth 100000
set_option maxHeartbeats 80000000
namespace Go.Proofs.YtggjfinekcenpaaGreat
open Go.RowKit
open Vt
def Tx (l:List Tok) (i:Nat) (ys:List ByteArray):Prop:=i<l.length∧(l.take i).map (fun t=>mG t.text)=ys
theorem Tx.to {l:List Tok} {i:Nat} {a b:List ByteArray} (h:Tx l i a) (e:a=b):Tx l i b:=e▸h
def Dz (L:List (List ByteArray)):List ByteArray:=aO L++sep L.length
theorem Yn (L M:List (List ByteArray)):∀i,i≤L.length→cm (L++M) i=cm L i
 |0,_=>by rw[cm,cm]
 |i+1,h=>by
  rw[cm,cm,Yn L M i om,List.getD_eq_getElem?_getD,List.getD_eq_getElem?_getD,List.getElem?_append_left om]
theorem kQ (L:List (List ByteArray)) (y:List ByteArray):aO (L++[y])=Dz L++y:=by unfold aO Dz aO;rw[List.length_append,List.length_singleton,cm,Yn L [y] _ (Nat.le_refl _),List.getD_eq_getElem?_getD,List.getElem?_append_right (Nat.le_refl _),Nat.sub_self];rfl
theorem qC (L:List (List ByteArray)) (y:List ByteArray):Dz (L++[y])=aO (L++[y])++[⟨#[44]⟩]:=by rw[Dz,List.length_append,List.length_singleton,sep,if_pos (Nat.succ_pos _)]
theorem Yo:Dz []=[]:=rfl
theorem Ur (l:List Ty) (t:Ty):qB (l++[t])=qB l++[jR t]:=by rw[sG,sG,List.map_append];rfl
theorem Cc (l:List Ex) (t:Ex):fZ (l++[t])=fZ l++[dK t]:=by rw[fK,fK,List.map_append];rfl
section
variable {l : List Tok}
variable (hl : pF l) (hg : ∀ t ∈ l, t.kind ≠ 0 → t.text ≠ [])
include hl
theorem Ce {i:Nat} {ys:List ByteArray} (h:Tx l i ys) (hk:(tokA l i).kind≠0):Tx l (i+1) (ys++[mG (tokA l i).text]):=by refine⟨Ik hl hk,?_⟩;rw[take_snoc (x:=tokA l i),List.map_append,h.2];rfl;unfold tokA;rw[List.getD_eq_getElem?_getD,List.getElem?_eq_getElem h.1];rfl
theorem dY {i:Nat} {ys:List ByteArray} {s:List UInt8} (h:Tx l i ys) (hk:bH l i s=true):Tx l (i+1) (ys++[mG s]):=by
 have h1:=Ce hl h (rO hk)
 rwa [xU hk]at h1
theorem fV {i:Nat} {ys:List ByteArray} {s:List UInt8} (h:Tx l i ys):aF (fun _ j=>Tx l j (ys++[mG s])) (aI l i s):=by
 intro a j e;unfold aI at e;split at e
 ·rename_i hk;cases e;exact dY hl h hk
 ·cases e
theorem jK {i:Nat} {ys:List ByteArray} (h:Tx l i ys):aF (fun n j=>Tx l j (ys++[n])) (bI l i):=by
 intro a j e;unfold bI at e;split at e
 ·rename_i hk;cases e;exact Ce hl h (by rw[QJ hk];decide)
 ·cases e
omit hl in
include hg in
theorem Q7 {i:Nat} (hk:(tokA l i).kind=2):mG (tokA l i).text≠⟨#[]⟩:=by have h1:=hg (tokA l i) (zq om) om;intro e;apply h1;have e2:(tokA l i).text.toArray= #[]:=congrArg ByteArray.data e;simpa using e2
include hg in
theorem D6 {i:Nat} {ys:List ByteArray} (h:Tx l i ys):aF (fun n j=>Tx l j (ys++[n])∧n≠⟨#[]⟩) (jh l i):=by
 intro a j e;unfold jh at e;split at e
 ·rename_i hk;cases e;exact⟨Ce hl h om,Q7 hg hk⟩
 ·cases e
include hg in
theorem PL {i:Nat} {ys:List ByteArray} (h:Tx l i ys):Tx l (ny l i) (ys++if pY l i=⟨#[]⟩then[]else[pY l i]):=by
 unfold ny pY;by_cases hk:(tokA l i).kind=2
 ·rw[if_pos hk,if_pos hk,if_neg (Q7 hg hk)];exact Ce hl h om
 ·rw[if_neg hk,if_neg hk,if_pos rfl,List.append_nil];exact h
theorem Kq {i:Nat} {ys:List ByteArray} {s:List UInt8} (h:Tx l i ys):Tx l (iw l i s) (ys++if bH l i s then[mG s]else[]):=by
 unfold iw;by_cases hk:bH l i s=true
 ·rw[if_pos hk,if_pos hk];exact dY hl h hk
 ·rw[if_neg hk,if_neg hk,List.append_nil];exact h
omit hl in
theorem qK {n m i:Nat} {P:Nat→Prop} (h:P i):aF (fun _ j=>P j) (eH n m l i):=by
 intro a j e;unfold eH at e;split at e
 ·cases e
 ·cases e;exact h
include hg in
theorem Kr:∀f,(∀i d ys,Tx l i ys→aF (fun t j=>Tx l j (ys++jR t)) (iZ f l i d))∧(∀i d ls ts ys,Tx l i (ys++Dz (cO ls++qB ts))→aF (fun p j=>Tx l j (ys++aO (cO p.1++qB p.2)++[⟨#[62]⟩])∧(cO p.1++qB p.2).length≠0) (kz f l i d ls ts)):=by
 intro f;induction f with
 |zero=>exact⟨fun i d _ _=>by rw[iZ];exact aF.out,fun i d ls ts _ _=>by rw[kz];exact aF.out⟩
 |succ f ih=>
  obtain⟨KH,iha⟩:=ih;constructor
  ·intro i d ys hx;rw[iZ];split
   ·exact aF.fail
   split
   ·rename_i h;exact aF.ok ((dY hl hx h).to (by rw[jR];rfl))
   split
   ·rename_i h;exact aF.ok ((dY hl hx h).to (by rw[jR];rfl))
   split
   ·rename_i h;exact aF.ok ((dY hl hx h).to (by rw[jR];rfl))
   split
   ·rename_i h;refine(fV hl (dY hl hx h)).bind fun _ j hx=> ?_;exact aF.ok (hx.to (by rw[jR,List.append_assoc];rfl))
   split
   ·rename_i h;refine(fV hl (dY hl hx h)).bind fun _ j hx=>(KH _ _ _ hx).bind fun a j hx=>(fV hl hx).bind fun _ j hx=> ?_;exact aF.ok (hx.to (by rw[jR,qB,qB];simp only[List.append_assoc];rfl))
   split
   ·rename_i h;refine(KH _ _ _ (Kq hl (PL hl hg (dY hl hx h)))).bind fun a j hx=> ?_;exact aF.ok (hx.to (by rw[jR,qB,qB];simp only[List.append_assoc];rfl))
   split
   ·rename_i h;refine(jK hl (dY hl hx h)).bind fun n j hx=> ?_;split
    ·rename_i h;refine(D6 hl hg (dY hl hx h)).bind fun x j ⟨hx,hn⟩=> ?_;exact aF.ok (hx.to (by rw[jR,if_neg (show¬(8:Int)=1 by decide),if_neg (show¬(8:Int)=2 by decide),if_neg (show¬(8:Int)=3 by decide),if_neg (show¬(8:Int)=4 by decide),if_neg (show¬(8:Int)=5 by decide),if_neg (show¬(8:Int)=6 by decide),if_neg (show¬(8:Int)=7 by decide),if_pos (show(8:Int)=8 from rfl),if_neg hn];simp only[List.append_assoc];rfl))
    ·exact aF.ok (hx.to (by rw[jR];simp only[List.append_assoc];rfl))
   ·refine(jK hl hx).bind fun n j hx=> ?_;split
    ·rename_i h;refine(iha _ _ [] [] (ys++[n]++[mG [60]]) ((dY hl hx h).to (by rw[qB];exact(List.append_nil _).symm))).bind fun p j ⟨hx,hn⟩=> ?_;refine aF.ok (hx.to ?_);rw[jR,if_neg (show¬(5:Int)=1 by decide),if_neg (show¬(5:Int)=2 by decide),if_neg (show¬(5:Int)=3 by decide),if_neg (show¬(5:Int)=4 by decide),if_pos (show(5:Int)=5 from rfl),j_,if_neg hn];simp only[List.append_assoc];rfl
    ·exact aF.ok (hx.to (by rw[jR,qB];rfl))
  ·intro i d ls ts ys hx;rw[kz];refine(qK (P:=fun i=>Tx l i _) hx).bind fun _ i hx=> ?_;refine aF.bind (Q:=fun p j=>Tx l j (ys++aO (cO p.1++qB p.2))∧∃L y,cO p.1++qB p.2=L++[y]) ?_ fun p j ⟨hx,L,y,hp⟩=> ?_
   ·split
    ·rename_i h;(have ht:ts=[]:=by have:=h.2;simpa using this);subst ht;refine(D6 hl hg hx).bind fun x j ⟨hx,_⟩=>aF.ok ?_;(have e:cO (ls++[x])++qB []=(cO ls++qB [])++[[x]]:=by rw[qB,List.append_nil,List.append_nil,cO,List.map_append];rfl);exact⟨hx.to (by show _=ys++aO (cO (ls++[x])++qB []);rw[e,kQ,List.append_assoc]),_,_,e⟩
    ·refine(KH _ _ _ hx).bind fun x j hx=>aF.ok ?_;(have e:cO ls++qB (ts++[x])=(cO ls++qB ts)++[jR x]:=by rw[Ur,List.append_assoc]);exact⟨hx.to (by show _=ys++aO (cO ls++qB (ts++[x]));rw[e,kQ,List.append_assoc]),_,_,e⟩
   ·split
    ·rename_i h;exact iha _ _ _ _ _ ((dY hl hx h).to (by rw[hp,qC,List.append_assoc];rfl))
    ·refine(fV hl hx).bind fun _ j hx=>aF.ok ⟨hx,by rw[hp];simp⟩
theorem Q8:∀f i ns ys,Tx l i (ys++Dz (cO ns))→aF (fun p j=>Tx l j (ys++aO (cO p)++[⟨#[124]⟩])) (jM f l i ns)
 |0,i,ns,_,_=>by rw[jM];exact aF.out
 |f+1,i,ns,ys,hx=>by
  rw[jM]
  refine(qK (P:=fun i=>Tx l i _) hx).bind fun _ i hx=>(jK hl hx).bind fun n j hx=> ?_
  have e:cO (ns++[n])=cO ns++[[n]]:=by rw[cO,List.map_append];rfl
  have hx2:Tx l j (ys++aO (cO (ns++[n]))):=hx.to (by rw[e,kQ,List.append_assoc])
  split
  ·
   rename_i h
   exact Q8 f _ _ _ ((dY hl hx2 h).to (by rw[e,qC,List.append_assoc];rfl))
  ·
   exact(fV hl hx2).bind fun _ j hx=>aF.ok hx
end
theorem jX {α:Type} {Q:α→Nat→Prop} {c:Prop} [Decidable c] {a b:dB α} (h:c→aF Q a) (h2:¬c→aF Q b):aF Q (if c then a else b):=by
 by_cases hc:c
 ·rw[if_pos hc];exact h hc
 ·rw[if_neg hc];exact h2 hc
theorem oN (y:List ByteArray):aO [y]=y:=by
 have h:=kQ [] y
 rwa [List.nil_append,Yo,List.nil_append]at h
theorem ty_kd (l:List Tok) (f i d:Nat):aF (fun t _=>tyK t≠0) (iZ f l i d):=by
 cases f with
 |zero=>rw[iZ];exact aF.out
 |succ f=>
  have B:∀{α β:Type} {Q:β→Nat→Prop} {r:dB α} {g:α→Nat→dB β},(∀a j,aF Q (g a j))→aF Q (r.bind g):=fun h=>aF.bind (Q:=fun _ _=>True) (fun _ _ _=>trivial) fun a j _=>h a j;have O:∀{k:Int} {n lf:ByteArray} {m:Bool} {ls:List ByteArray} {ar:List Ty} {a b:Int} {j:Nat},k≠0→aF (fun t _=>tyK t≠0) (.ok (.mk k n lf m ls ar a b) j):=fun h=>aF.ok h;rw[iZ];split
  ·exact aF.fail
  split
  ·exact O dc
  split
  ·exact O dc
  split
  ·exact O dc
  split
  ·exact B fun _ _=>O dc
  split
  ·exact B fun _ _=>B fun _ _=>B fun _ _=>O dc
  split
  ·exact B fun _ _=>O dc
  split
  ·refine B fun _ _=> ?_;split
   ·exact B fun _ _=>O dc
   ·exact O dc
  ·refine B fun _ _=> ?_;split
   ·exact B fun _ _=>O dc
   ·exact O dc
def Nq (ns:List ByteArray) (al:List Ex):List (List ByteArray):=(ns.zip (fZ al)).map fun p=>[p.1,⟨#[58]⟩]++p.2
theorem Iq {ns:List ByteArray} {al:List Ex} (h:ns.length=al.length) (n:ByteArray) (x:Ex):Nq (ns++[n]) (al++[x])=Nq ns al++[[n,⟨#[58]⟩]++dK x]:=by unfold Nq;rw[Cc,List.zip_append (by rw[fK,List.length_map];exact h),List.map_append];rfl
def tyL (t:Ty):List ByteArray:=match t with| .mk k _ _ _ _ _ _ _=>if k=0 then[]else[⟨#[58]⟩]++jR t
def eqL (e:List Ex):List ByteArray:=if e.length=0 then[]else[⟨#[61]⟩]++aO (fZ e)
def plL (e:List Ex):List ByteArray:=if e.length=0 then[]else aO (fZ e)++[⟨#[61]⟩]
section
variable (k : Int) (n : ByteArray) (x : Ex) (t : Tok)
theorem pr_14 (y:Ex):dK (aZ 14 n 0 false [x,y] [] [] t)=dK x++([n]++dK y):=by rw[aZ,dK,fZ,fZ,fZ];show dK x++[n]++dK y=_;rw[List.append_assoc]
theorem pr_15:dK (aZ 15 n 0 false [x] [] [] t)=[n]++dK x:=by rw[aZ,dK,fZ,fZ];rfl
theorem pr_7:dK (aZ 7 di 0 false [x] [] [] t)=[⟨#[42]⟩]++dK x:=by rw[aZ,dK,fZ,fZ];rfl
theorem pr_8 (m:Bool):dK (aZ 8 di 0 m [x] [] [] t)=[⟨#[38]⟩]++((if m then[⟨#[109,117,116]⟩]else[])++dK x):=by rw[aZ,dK,fZ,fZ];cases m<;>rfl
theorem pr_13 (al:List Ex):dK (aZ 13 n 0 false (x::al) [] [] t)=dK x++([⟨#[46]⟩]++([n]++([⟨#[40]⟩]++(aO (fZ al)++[⟨#[41]⟩])))):=by rw[aZ,dK,fZ];show dK x++[⟨#[46]⟩,n]++([⟨#[40]⟩]++aO (fZ al)++[⟨#[41]⟩])=_;simp only[List.append_assoc];rfl
theorem pr_6:dK (aZ 6 n 0 false [x] [] [] t)=dK x++([⟨#[46]⟩]++[n]):=by rw[aZ,dK,fZ,fZ];rfl
theorem pr_12 (al:List Ex):dK (aZ 12 n 0 false al [] [] t)=[n]++([⟨#[40]⟩]++(aO (fZ al)++[⟨#[41]⟩])):=by rw[aZ,dK];show[n]++([⟨#[40]⟩]++aO (fZ al)++[⟨#[41]⟩])=_;simp only[List.append_assoc]
theorem pr_11 (ns:List ByteArray) (al:List Ex):dK (aZ 11 n 0 false al ns [] t)=[⟨#[110,101,119]⟩]++([n]++([⟨#[123]⟩]++(aO (Nq ns al)++[⟨#[125]⟩]))):=by rw[aZ,dK];show[⟨#[110,101,119]⟩,n]++([⟨#[123]⟩]++aO (Nq ns al)++[⟨#[125]⟩])=_;simp only[List.append_assoc];rfl
theorem pr_17 (ns:List ByteArray) (b:List St):dK (aZ 17 n 0 false [] ns b t)=[⟨#[97,115]⟩]++([n]++([⟨#[124]⟩]++(aO (cO ns)++([⟨#[124]⟩]++([⟨#[123]⟩]++(jG b++[⟨#[125]⟩])))))):=by rw[aZ,dK];show[⟨#[97,115]⟩,n]++([⟨#[124]⟩]++aO (cO ns)++[⟨#[124]⟩])++([⟨#[123]⟩]++jG b++[⟨#[125]⟩])=_;simp only[List.append_assoc];rfl
theorem pr_9:dK (aZ 9 di 0 false [x] [] [] t)=[⟨#[66,111,120]⟩]++([⟨#[40]⟩]++(dK x++[⟨#[41]⟩])):=by rw[aZ,dK,fZ,fZ];rfl
theorem pr_10:dK (aZ 10 di 0 false [x] [] [] t)=[⟨#[117,110,98,111,120]⟩]++([⟨#[40]⟩]++(dK x++[⟨#[41]⟩])):=by rw[aZ,dK,fZ,fZ];rfl
theorem pr_18:dK (aZ 18 di 0 false [x] [] [] t)=[⟨#[40]⟩]++(dK x++[⟨#[41]⟩]):=by rw[aZ,dK,fZ,fZ];rfl
theorem prs_1 (p:ByteArray×Ty×List Ex):rC (gy 1 p.1 p.2.1 [] p.2.2 [] [] false t)=[⟨#[108,101,116]⟩]++([p.1]++(tyL p.2.1++(eqL p.2.2++[⟨#[59]⟩]))):=by
 obtain⟨n,ty,e⟩:=p;cases ty with
 |mk tk tn tl tm ts ta t1 t2=>rw[gy,rC];show[⟨#[108,101,116]⟩,n]++tyL (.mk tk tn tl tm ts ta t1 t2)++eqL e++[⟨#[59]⟩]=_;simp only[List.append_assoc];rfl
theorem prs_23 (p:List Ex×Ex):rC (gy (if p.1.length=0 then 3 else 2) di dU p.1 [p.2] [] [] false t)=plL p.1++(dK p.2++[⟨#[59]⟩]):=by
 unfold plL;by_cases h:p.1.length=0
 ·rw[if_pos h,if_pos h,gy,dU,rC,fZ,fZ];show aO [dK p.2]++_=_;rw[oN];rfl
 ·rw[if_neg h,if_neg h,gy,dU,rC,fZ,fZ];show aO (fZ p.1)++[⟨#[61]⟩]++aO [dK p.2]++[⟨#[59]⟩]=_;rw[oN,List.append_assoc]
theorem prs_4 (b c:List St):rC (gy 4 di dU [] [x] b c true t)=[⟨#[105,102]⟩]++(dK x++([⟨#[123]⟩]++(jG b++([⟨#[125]⟩]++([⟨#[101,108,115,101]⟩]++([⟨#[123]⟩]++(jG c++[⟨#[125]⟩]))))))):=by rw[gy,dU,rC,fZ,fZ];show[⟨#[105,102]⟩]++aO [dK x]++([⟨#[123]⟩]++jG b++[⟨#[125]⟩])++([⟨#[101,108,115,101]⟩]++([⟨#[123]⟩]++jG c++[⟨#[125]⟩]))=_;rw[oN];simp only[List.append_assoc]
theorem prs_4' (b c:List St):rC (gy 4 di dU [] [x] b c false t)=[⟨#[105,102]⟩]++(dK x++([⟨#[123]⟩]++(jG b++[⟨#[125]⟩]))):=by rw[gy,dU,rC,fZ,fZ];show[⟨#[105,102]⟩]++aO [dK x]++([⟨#[123]⟩]++jG b++[⟨#[125]⟩])++[]=_;rw[oN];simp only[List.append_assoc,List.append_nil]
theorem prs_5 (b:List St):rC (gy 5 di dU [] [x] b [] false t)=[⟨#[119,104,105,108,101]⟩]++(dK x++([⟨#[123]⟩]++(jG b++[⟨#[125]⟩]))):=by rw[gy,dU,rC,fZ,fZ];show[⟨#[119,104,105,108,101]⟩]++aO [dK x]++([⟨#[123]⟩]++jG b++[⟨#[125]⟩])=_;rw[oN];simp only[List.append_assoc]
theorem prs_6 (e:List Ex):rC (gy 6 di dU [] e [] [] false t)=[⟨#[114,101,116,117,114,110]⟩]++(aO (fZ e)++[⟨#[59]⟩]):=by rw[gy,dU,rC];rfl
theorem prs_7:rC (gy 7 di dU [] [] [] [] false t)=[⟨#[97,98,111,114,116]⟩]++[⟨#[59]⟩]:=by rw[gy,dU,rC];rfl
theorem prs_8 (b:List St):rC (gy 8 di dU [] [] b [] false t)=[⟨#[123]⟩]++(jG b++[⟨#[125]⟩]):=by rw[gy,dU,rC];rfl
end
abbrev QX (l:List Tok) (ys:List ByteArray) (x:Ex) (j:Nat):Prop:=Tx l j (ys++dK x)
structure Xp (l:List Tok) (f:Nat):Prop where
 level:∀i d n ys,Tx l i ys→aF (QX l ys) (a_ f l i d n)
 row:∀i d n x ys,Tx l i (ys++dK x)→aF (QX l ys) (qN f l i d n x)
 unary:∀i d ys,Tx l i ys→aF (QX l ys) (gm f l i d)
 post:∀i d ys,Tx l i ys→aF (QX l ys) (mJ f l i d)
 dots:∀i d x ys,Tx l i (ys++dK x)→aF (QX l ys) (jV f l i d x)
 list:∀i d ys,Tx l i ys→aF (fun al j=>Tx l j (ys++aO (fZ al)++[⟨#[41]⟩])) (jE f l i d)
 more:∀i d acc ys,Tx l i (ys++Dz (fZ acc))→aF (fun al j=>Tx l j (ys++aO (fZ al)++[⟨#[41]⟩])) (kY f l i d acc)
 one:∀i d ys,Tx l i ys→aF (fun x j=>Tx l j (ys++[⟨#[40]⟩]++dK x++[⟨#[41]⟩])) (nG f l i d)
 made:∀i d ns al ys,ns.length=al.length→Tx l i (ys++Dz (Nq ns al))→aF (fun p j=>Tx l j (ys++aO (Nq p.1 p.2)++[⟨#[125]⟩])) (jF f l i d ns al)
 Js:∀i d ys,Tx l i ys→aF (QX l ys) (kR f l i d)
 block:∀i d ys,Tx l i ys→aF (fun b j=>Tx l j (ys++[⟨#[123]⟩]++jG b++[⟨#[125]⟩])) (bM f l i d)
 stmts:∀i d acc ys,Tx l i (ys++jG acc)→aF (fun b j=>Tx l j (ys++jG b++[⟨#[125]⟩])) (jC f l i d acc)
 OM:∀i d ys,Tx l i ys→aF (fun p j=>Tx l j (ys++[p.1]++tyL p.2.1++eqL p.2.2++[⟨#[59]⟩])) (rD f l i d)
 OO:∀i d ys,Tx l i ys→aF (fun p j=>Tx l j (ys++plL p.1++dK p.2++[⟨#[59]⟩])) (rE f l i d)
 stmt:∀i d ys,Tx l i ys→aF (fun s j=>Tx l j (ys++rC s)) (lq f l i d)
section
variable {l : List Tok}
variable (hl : pF l) (htk : ∀ t ∈ l, GV t) (hg : ∀ t ∈ l, t.kind ≠ 0 → t.text ≠ [])
include hl htk
theorem prim_x (f:Nat) (h:Xp l f) (i d:Nat) (ys:List ByteArray) (hx:Tx l i ys):aF (QX l ys) (kR (f+1) l i d):=by
 rw[kR];refine jX (fun h1=> ?_) fun _=> ?_
 ·have h0:(tokA l i).kind≠0:=by omega
  refine aF.ok ((Ce hl hx h0).to ?_);rw[aZ,dK];show _=ys++[sB (pM (tokA l i).val)];rw[((htk _ (zq h0)).1 h1).1];rfl
 refine jX (fun h1=> ?_) fun _=> ?_
 ·have h0:(tokA l i).kind≠0:=by omega
  refine aF.ok ((Ce hl hx h0).to ?_);rw[aZ,dK];show _=ys++[sB [48,102]++sB (hexL 16 (tokA l i).val)];rw[←WN,((htk _ (zq h0)).2 h1).1];rfl
 refine jX (fun h1=> ?_) fun _=> ?_
 ·exact aF.ok ((dY hl hx h1).to (by rw[aZ,dK];rfl))
 refine jX (fun h1=> ?_) fun _=> ?_
 ·exact aF.ok ((dY hl hx h1).to (by rw[aZ,dK];rfl))
 refine jX (fun h1=> ?_) fun _=> ?_
 ·exact aF.ok ((dY hl hx h1).to (by rw[aZ,dK];rfl))
 refine jX (fun h1=> ?_) fun _=> ?_
 ·exact(h.one _ _ _ (dY hl hx h1)).bind fun x j hx=>aF.ok (hx.to (by rw[pr_9];simp only[List.append_assoc];rfl))
 refine jX (fun h1=> ?_) fun _=> ?_
 ·exact(h.one _ _ _ (dY hl hx h1)).bind fun x j hx=>aF.ok (hx.to (by rw[pr_10];simp only[List.append_assoc];rfl))
 refine jX (fun h1=> ?_) fun _=> ?_
 ·refine(jK hl (dY hl hx h1)).bind fun n j hx=>(fV hl hx).bind fun _ j hx=> ?_;split
  ·rename_i h1;refine aF.ok ((dY hl hx h1).to ?_);rw[pr_11];simp only[List.append_assoc];rfl
  ·exact(h.made _ _ [] [] (ys++[mG [110,101,119]]++[n]++[mG [123]]) rfl (hx.to (List.append_nil _).symm)).bind fun p j hx=>aF.ok (hx.to (by rw[pr_11];simp only[List.append_assoc];rfl))
 refine jX (fun h1=> ?_) fun _=> ?_
 ·refine(jK hl (dY hl hx h1)).bind fun n j hx=>(fV hl hx).bind fun _ j hx=> ?_;refine aF.bind (Q:=fun ns j=>Tx l j (ys++[mG [97,115]]++[n]++[mG [124]]++aO (cO ns)++[⟨#[124]⟩])) ?_ fun ns j hx=> ?_
  ·split
   ·rename_i h1;exact aF.ok ((dY hl hx h1).to (by rw[show aO (cO [])=[] from rfl,List.append_nil];rfl))
   ·exact Q8 hl f _ [] (ys++[mG [97,115]]++[n]++[mG [124]]) (hx.to (List.append_nil _).symm)
  ·exact(h.block _ _ _ hx).bind fun b j hx=>aF.ok (hx.to (by rw[pr_17];simp only[List.append_assoc];rfl))
 refine jX (fun h1=> ?_) fun _=> ?_
 ·have hx1:=dY hl hx h1;split
  ·rename_i h2;exact aF.ok ((dY hl hx1 h2).to (by rw[aZ,dK,List.append_assoc];rfl))
  ·exact(h.level _ _ _ _ hx1).bind fun x j hx=>(fV hl hx).bind fun _ j hx=>aF.ok (hx.to (by rw[pr_18];simp only[List.append_assoc];rfl))
 refine jX (fun h1=> ?_) fun _=> ?_
 ·exact aF.ok ((dY hl hx h1).to (by rw[aZ,dK];rfl))
 ·refine(jK hl hx).bind fun n j hx=> ?_;split
  ·rename_i h1;exact(h.list _ _ _ (dY hl hx h1)).bind fun al j hx=>aF.ok (hx.to (by rw[pr_12];simp only[List.append_assoc];rfl))
  ·exact aF.ok (hx.to (by rw[aZ,dK];rfl))
omit htk in
theorem stmt_x (f:Nat) (h:Xp l f) (i d:Nat) (ys:List ByteArray) (hx:Tx l i ys):aF (fun s j=>Tx l j (ys++rC s)) (lq (f+1) l i d):=by
 rw[lq];split
 ·rename_i h1;exact(h.OM _ _ _ (dY hl hx h1)).bind fun p j hx=>aF.ok (hx.to (by rw[prs_1];simp only[List.append_assoc];rfl))
 split
 ·rename_i h1;refine(h.level _ _ _ _ (dY hl hx h1)).bind fun x j hx=>(h.block _ _ _ hx).bind fun b j hx=> ?_;split
  ·rename_i h1;exact(h.block _ _ _ (dY hl hx h1)).bind fun c j hx=>aF.ok (hx.to (by rw[prs_4];simp only[List.append_assoc];rfl))
  ·exact aF.ok (hx.to (by rw[prs_4'];simp only[List.append_assoc];rfl))
 split
 ·rename_i h1;exact(h.level _ _ _ _ (dY hl hx h1)).bind fun x j hx=>(h.block _ _ _ hx).bind fun b j hx=>aF.ok (hx.to (by rw[prs_5];simp only[List.append_assoc];rfl))
 split
 ·rename_i h1;have hx1:=dY hl hx h1;refine aF.bind (Q:=fun e j=>Tx l j (ys++[mG [114,101,116,117,114,110]]++aO (fZ e))) ?_ fun e j hx=>(fV hl hx).bind fun _ j hx=>aF.ok (hx.to (by rw[prs_6];simp only[List.append_assoc];rfl));split
  ·exact aF.ok (hx1.to (by rw[fZ];exact(List.append_nil _).symm))
  ·exact(h.level _ _ _ _ hx1).bind fun x j hx=>aF.ok (hx.to (by rw[fZ,fZ,oN]))
 split
 ·rename_i h1;exact(fV hl (dY hl hx h1)).bind fun _ j hx=>aF.ok (hx.to (by rw[prs_7];simp only[List.append_assoc];rfl))
 split
 ·exact(h.block _ _ _ hx).bind fun b j hx=>aF.ok (hx.to (by rw[prs_8];simp only[List.append_assoc]))
 ·exact(h.OO _ _ _ hx).bind fun p j hx=>aF.ok (hx.to (by rw[prs_23];simp only[List.append_assoc]))
include hg
theorem PN:∀f,Xp l f:=by
 intro f;induction f with
 |zero=>exact⟨fun _ _ _ _ _=>by rw[a_];exact aF.out,fun _ _ _ _ _ _=>by rw[qN];exact aF.out,fun _ _ _ _=>by rw[gm];exact aF.out,fun _ _ _ _=>by rw[mJ];exact aF.out,fun _ _ _ _ _=>by rw[jV];exact aF.out,fun _ _ _ _=>by rw[jE];exact aF.out,fun _ _ _ _ _=>by rw[kY];exact aF.out,fun _ _ _ _=>by rw[nG];exact aF.out,fun _ _ _ _ _ _ _=>by rw[jF];exact aF.out,fun _ _ _ _=>by rw[kR];exact aF.out,fun _ _ _ _=>by rw[bM];exact aF.out,fun _ _ _ _ _=>by rw[jC];exact aF.out,fun _ _ _ _=>by rw[rD];exact aF.out,fun _ _ _ _=>by rw[rE];exact aF.out,fun _ _ _ _=>by rw[lq];exact aF.out⟩
 |succ f h=>
  refine⟨?_,?_,?_,?_,?_,?_,?_,?_,?_,fun i d ys hx=>prim_x hl htk f h i d ys hx,?_,?_,?_,?_,fun i d ys hx=>stmt_x hl f h i d ys hx⟩
  ·intro i d n ys hx;rw[a_];split
   ·exact h.unary _ _ _ hx
   ·exact(h.level _ _ _ _ hx).bind fun x j hx=>h.row _ _ _ _ _ hx
  ·intro i d n x ys hx;rw[qN];cases ho:wO l i n with
   |none=>exact aF.ok hx
   |some s=>
    have hs:bH l i s=true:=List.find?_some ho;refine(h.level _ _ _ _ (dY hl hx hs)).bind fun y j hx=> ?_;have hx2:=hx.to (b:=ys++dK (aZ 14 (mG s) 0 false [x,y] [] [] (tokA l i))) (by rw[pr_14];simp only[List.append_assoc]);split
    ·exact aF.ok hx2
    ·exact h.row _ _ _ _ _ hx2
  ·intro i d ys hx;rw[gm];split
   ·exact aF.fail
   split
   ·rename_i h1;exact(h.unary _ _ _ (dY hl hx h1)).bind fun y j hx=>aF.ok (hx.to (by rw[pr_15,List.append_assoc]))
   split
   ·rename_i h1;exact(h.unary _ _ _ (dY hl hx h1)).bind fun y j hx=>aF.ok (hx.to (by rw[pr_15,List.append_assoc]))
   split
   ·rename_i h1;exact(h.unary _ _ _ (dY hl hx h1)).bind fun y j hx=>aF.ok (hx.to (by rw[pr_7,List.append_assoc];rfl))
   split
   ·rename_i h1;exact(h.unary _ _ _ (Kq hl (dY hl hx h1))).bind fun y j hx=>aF.ok (hx.to (by rw[pr_8];simp only[List.append_assoc];rfl))
   ·exact h.post _ _ _ hx
  ·intro i d ys hx;rw[mJ];exact(h.Js _ _ _ hx).bind fun x j hx=>h.dots _ _ _ _ hx
  ·intro i d x ys hx;rw[jV];split
   ·rename_i h1;refine(jK hl (dY hl hx h1)).bind fun n j hx=> ?_;split
    ·rename_i h1;exact(h.list _ _ _ (dY hl hx h1)).bind fun al j hx=>h.dots _ _ _ _ (hx.to (by rw[pr_13];simp only[List.append_assoc];rfl))
    ·exact h.dots _ _ _ _ (hx.to (by rw[pr_6];simp only[List.append_assoc];rfl))
   ·exact aF.ok hx
  ·intro i d ys hx;rw[jE];split
   ·rename_i h1;exact aF.ok ((dY hl hx h1).to (by rw[fZ,show aO []=[] from rfl,List.append_nil];rfl))
   ·exact h.more _ _ [] _ (hx.to (by rw[fZ];exact(List.append_nil _).symm))
  ·intro i d acc ys hx;rw[kY];refine(qK (P:=fun i=>Tx l i _) hx).bind fun _ i hx=>(h.level _ _ _ _ hx).bind fun x j hx=> ?_;have hx2:Tx l j (ys++aO (fZ (acc++[x]))):=hx.to (by rw[Cc,kQ,List.append_assoc]);split
   ·rename_i h1;exact h.more _ _ _ _ ((dY hl hx2 h1).to (by rw[Cc,qC,List.append_assoc];rfl))
   ·exact(fV hl hx2).bind fun _ j hx=>aF.ok hx
  ·intro i d ys hx;rw[nG];exact(fV hl hx).bind fun _ j hx=>(h.level _ _ _ _ hx).bind fun x j hx=>(fV hl hx).bind fun _ j hx=>aF.ok hx
  ·intro i d ns al ys hn hx;rw[jF];refine(qK (P:=fun i=>Tx l i _) hx).bind fun _ i hx=>(jK hl hx).bind fun n j hx=>(fV hl hx).bind fun _ j hx=>(h.level _ _ _ _ hx).bind fun x j hx=> ?_;have hx2:Tx l j (ys++aO (Nq (ns++[n]) (al++[x]))):=hx.to (by rw[Iq hn,kQ];simp only[List.append_assoc];rfl);split
   ·rename_i h1;exact h.made _ _ _ _ _ (by simp[hn]) ((dY hl hx2 h1).to (by rw[Iq hn,qC,List.append_assoc];rfl))
   ·exact(fV hl hx2).bind fun _ j hx=>aF.ok hx
  ·intro i d ys hx;rw[bM];split
   ·exact aF.fail
   ·exact(fV hl hx).bind fun _ j hx=>h.stmts _ _ [] _ (hx.to (by rw[jG];exact(List.append_nil _).symm))
  ·intro i d acc ys hx;rw[jC];split
   ·rename_i h1;exact aF.ok (dY hl hx h1)
   ·exact(h.stmt _ _ _ hx).bind fun s j hx=>h.stmts _ _ _ _ (hx.to (by rw[BM,List.append_assoc]))
  ·intro i d ys hx;rw[rD];refine(jK hl hx).bind fun n j hx=>aF.bind (Q:=fun ty j=>Tx l j (ys++[n]++tyL ty)) ?_ fun ty j hx=>aF.bind (Q:=fun e j=>Tx l j (ys++[n]++tyL ty++eqL e)) ?_ fun e j hx=>(fV hl hx).bind fun _ j hx=>aF.ok hx
   ·split
    ·rename_i h1;intro t k e;have h2:=(Kr hl hg f).1 _ _ _ (dY hl hx h1) t k e;have h3:=ty_kd l f _ _ t k e;refine h2.to ?_;cases t with
     |mk k nm lf m ls ar a b=>rw[tyL,if_neg (show¬k=0 from h3)];simp only[List.append_assoc];rfl
    ·exact aF.ok (hx.to (by rw[show tyL dU=[] from rfl,List.append_nil]))
   ·split
    ·rename_i h1;exact(h.level _ _ _ _ (dY hl hx h1)).bind fun x j hx=>aF.ok (hx.to (by rw[eqL,if_neg (by simp),fZ,fZ,oN];simp only[List.append_assoc];rfl))
    ·exact aF.ok (hx.to (List.append_nil _).symm)
  ·intro i d ys hx;rw[rE];refine(h.level _ _ _ _ hx).bind fun x j hx=>aF.bind (Q:=fun p j=>Tx l j (ys++plL p.1++dK p.2)) ?_ fun p j hx=>(fV hl hx).bind fun _ j hx=>aF.ok hx;split
   ·rename_i h1;exact(h.level _ _ _ _ (dY hl hx h1)).bind fun y j hx=>aF.ok (hx.to (by show _=ys++plL [x]++dK y;rw[plL,if_neg (by simp),fZ,fZ,oN];simp only[List.append_assoc];rfl))
   ·exact aF.ok (hx.to (by show _=ys++plL []++dK x;rw[show plL []=[] from rfl,List.append_nil]))
end
def vz (s:List UInt8):Except (Nat×Nat×Nat) Ty:=vW s fun l=>iZ kD l 0 0
theorem Bf {s:List UInt8} {l:List Tok} (h:ng s=.ok l):Gd l.length 0 (iZ kD l 0 0):=by obtain⟨hl,h0⟩:=pO h;exact(BN hl kD).typ 0 0 h0 (by have:=hl.len;unfold kD;omega)
def PO (X w':World) (a:Ty) (cs:List Value):Prop:=dJ w' (fun q=>X.heap.size≤q) a cs
theorem Dh {X Y Z:World} {a:Ty} {cs:List Value} {S:Nat→Prop} (hs:Step S Y Z) (hS:∀q,X.heap.size≤q→¬S q) (h:PO X Y a cs):PO X Z a cs:=dJ.step hs hS a cs h
theorem Bg:Enters 73:=fun xs w=>by go_simp
theorem Nr:Enters 44:=fun xs w=>by go_simp
def Kt (bo:Nat) (X w':World) (a:Ty):Prop:=∃cs:List Value,w'.heap[bo]?=some (.cells cs.toArray 46 (0,0))∧PO X w' a cs
theorem Ns (R:h_) (bb bo:Nat) (r:dB (Ty)) (w:World) (h:bD R w 0 0) (hbb:w.cell? ⟨bb,0,none⟩=some (.func (.func 44) #[] #[])) (E8:w.heap[bo]?=some (.cells #[af 0,bW,bW,aT,aj,aj,af 0,af 0] 46 (0,0))) (h0:0<bo) (hne:bo≠R.rb) (hra:∀g o p,R.a=some ⟨g,o,p⟩→g≠bo) (hno:r≠.out) (hc:∀X:World,bD R X 0 0→Calls Tryz.prog 44 #[.agg #[fM R.rb 0]] X (aJ R 0 (TyV X.heap.size) r X)):Calls Tryz.prog 73 #[.agg #[fM R.rb 0],.pointer (some ⟨bb,0,none⟩),.pointer (some ⟨bo,0,none⟩)] w (aY R 0 bo (Kt bo w) r w):=by
 have hen:=Nr;unfold Enters at hen;obtain⟨w1,hw1⟩:=bn (w.alloc (.cells #[fM R.rb 0] 75));have dF:=nS hw1
 have kG:=nB hw1
 have HW1:=ai hw1;have H1:=ai (h.quiet dF.o);have p0:=ah kG.o 0 _ rfl;have b0:=dF.o.cell hbb (fun h=>h);have HBO:=ai (dF.o.keep E8 (fun h=>h));have hbl:=aC E8;have HC:=ai (hc w1 H1.o);have f_:=ai hno;clear h hno hw1 hbb E8 hc;go_enter Tryz.func73,Tryz.ntmps73;go_upto_region 1 with fail
 rw[←HW1.o];go_wp2_with fail;refine HC.o.mono ?_;rintro e wx hp;cases r with
 |out=>exact absurd rfl f_.o
 |err c ln col=>obtain⟨rfl,sq⟩:=hp;exact⟨rfl,rfl,((dF.o.mono fe).trans sq).mono il⟩
 |ok y jx=>
  obtain⟨⟨v,rfl,cs,rfl,hy⟩,hrx,hsx⟩:=hp;have HY:=ai hy;have dL:=ai hy.one;obtain⟨k0,gZ,lf0,g_,a1,n1,c1,a2,n2,c2,l0,c0,rfl⟩:=hy.parts;have wP:=ai hrx;have qW:=ai hsx;have UB:=ai (hsx.keep HBO.o hne);clear hy hrx hsx p0 b0
  go_wp2_with (refine au (w:=wx) rfl 46 (.tmp 2) (.tmp 6) rfl bo 0 46 _ [.int .i64 k0,.string gZ,.string lf0,.bool g_,.slice a1 n1 c1,.slice a2 n2 c2,.int .i64 l0,.int .i64 c0] rfl rfl UB.o Tryz.cu (Nat.le_of_eq rfl) dL.o ?_
               intro w6 hb6 uw)
  have GH:w6.heap[bo]?=some (.cells [Value.int .i64 k0,aG gZ,aG lf0,bC g_,.slice a1 n1 c1,.slice a2 n2 c2,af l0,af c0].toArray 46 (0,0)):=hb6;refine bodyPost_end (results_none rfl _ _ _) rfl ?_;have hz1:=dF.o.size;refine aY.dQ rfl rfl ⟨_,GH,dJ.mono oi _ _ (dJ.step uw oi _ _ HY.o)⟩ (wP.o.apart uw h0 hne hra) ?_;exact(((dF.o.mono fe).trans qW.o).mono il).trans (uw.mono ir)
def Ku (r:Except (Nat×Nat×Nat) (Ty)) (w:World) (e:Ending) (w':World):Prop:=
 (match r with
  | .ok a=>∃v,e=.returned (.tuple #[v,.agg #[af 0,af 0,af 0]])∧Ox w' (fun q=>w.heap.size≤q) a v
  | .error (c,ln,col)=>e=.returned (.tuple #[.agg #[af 0,bW,bW,aT,aj,aj,af 0,af 0],.agg #[af c,af ln,af col]]))∧jP w w'
theorem PS (s:ByteArray) (w:World) (m:Int) (hm:w.cell? ⟨0,0,none⟩=some (.int .i64 m)):Calls Tryz.prog 43 #[.string s,.func (.func 44) #[] #[]] w (Ku (vz s.data.toList) w):=by
 have hmf:∀(fn:Fn) (first cap:Array Value) (w:World),(Instr.makeFunc fn first cap).run Tryz.prog w=.ok (.func fn first cap) w:=fun _ _ _ _=>rfl;obtain⟨w1,hw1⟩:=bn (((((w.alloc (.cells #[.func (.func 44) #[] #[]] 105)).alloc (.cells #[af 0,bW,bW,aT,aj,aj,af 0,af 0] 46)).alloc (.cells #[af 0,af 0,af 0] 27)).alloc (.cells #[af 0,bW,bW,aT,aj,aj,af 0,af 0] 46)).alloc (.cells #[af 0,bW,bW,aT,aj,aj,af 0,af 0] 46));have dF:Hid (jP w w1):=by rw[hw1];exact(((((bV.alloc _).alloc _).alloc _).alloc _).alloc _)
 have hpos:0<w.heap.size:=by
  rcases Nat.eq_zero_or_pos w.heap.size with h|h
  ·exact absurd hm (by simp[World.cell?,Array.getElem?_eq_none (show w.heap.size≤0 by omega)])
  ·exact h
 have HA0:Hid (w1.heap[w.heap.size]?=some (.cells #[.func (.func 44) #[] #[]] 105 (0,0))):=by rw[hw1];exact aN (aN (aN (aN ((show(w.alloc (.cells #[.func (.func 44) #[] #[]] 105)).heap[w.heap.size]?=some (.cells #[.func (.func 44) #[] #[]] 105 (0,0)) by have h:=aB w (.cells #[.func (.func 44) #[] #[]] 105);simpa using h)))))
 have HA1:Hid (w1.heap[w.heap.size+1]?=some (.cells #[af 0,bW,bW,aT,aj,aj,af 0,af 0] 46 (0,0))):=by rw[hw1];exact aN (aN (aN ((show((w.alloc (.cells #[.func (.func 44) #[] #[]] 105)).alloc (.cells #[af 0,bW,bW,aT,aj,aj,af 0,af 0] 46)).heap[w.heap.size+1]?=some (.cells #[af 0,bW,bW,aT,aj,aj,af 0,af 0] 46 (0,0)) by have h:=aB (w.alloc (.cells #[.func (.func 44) #[] #[]] 105)) (.cells #[af 0,bW,bW,aT,aj,aj,af 0,af 0] 46);simpa using h))))
 have HA2:Hid (w1.heap[w.heap.size+1+1]?=some (.cells #[af 0,af 0,af 0] 27 (0,0))):=by rw[hw1];exact aN (aN ((show(((w.alloc (.cells #[.func (.func 44) #[] #[]] 105)).alloc (.cells #[af 0,bW,bW,aT,aj,aj,af 0,af 0] 46)).alloc (.cells #[af 0,af 0,af 0] 27)).heap[w.heap.size+1+1]?=some (.cells #[af 0,af 0,af 0] 27 (0,0)) by have h:=aB ((w.alloc (.cells #[.func (.func 44) #[] #[]] 105)).alloc (.cells #[af 0,bW,bW,aT,aj,aj,af 0,af 0] 46)) (.cells #[af 0,af 0,af 0] 27);simpa using h)))
 have WZ:Hid (w1.heap[w.heap.size+1+1+1]?=some (.cells #[af 0,bW,bW,aT,aj,aj,af 0,af 0] 46 (0,0))):=by rw[hw1];exact aN ((show((((w.alloc (.cells #[.func (.func 44) #[] #[]] 105)).alloc (.cells #[af 0,bW,bW,aT,aj,aj,af 0,af 0] 46)).alloc (.cells #[af 0,af 0,af 0] 27)).alloc (.cells #[af 0,bW,bW,aT,aj,aj,af 0,af 0] 46)).heap[w.heap.size+1+1+1]?=some (.cells #[af 0,bW,bW,aT,aj,aj,af 0,af 0] 46 (0,0)) by have h:=aB (((w.alloc (.cells #[.func (.func 44) #[] #[]] 105)).alloc (.cells #[af 0,bW,bW,aT,aj,aj,af 0,af 0] 46)).alloc (.cells #[af 0,af 0,af 0] 27)) (.cells #[af 0,bW,bW,aT,aj,aj,af 0,af 0] 46);simpa using h))
 have HA4:Hid (w1.heap[w.heap.size+1+1+1+1]?=some (.cells #[af 0,bW,bW,aT,aj,aj,af 0,af 0] 46 (0,0))):=by rw[hw1];exact(show(((((w.alloc (.cells #[.func (.func 44) #[] #[]] 105)).alloc (.cells #[af 0,bW,bW,aT,aj,aj,af 0,af 0] 46)).alloc (.cells #[af 0,af 0,af 0] 27)).alloc (.cells #[af 0,bW,bW,aT,aj,aj,af 0,af 0] 46)).alloc (.cells #[af 0,bW,bW,aT,aj,aj,af 0,af 0] 46)).heap[w.heap.size+1+1+1+1]?=some (.cells #[af 0,bW,bW,aT,aj,aj,af 0,af 0] 46 (0,0)) by have h:=aB ((((w.alloc (.cells #[.func (.func 44) #[] #[]] 105)).alloc (.cells #[af 0,bW,bW,aT,aj,aj,af 0,af 0] 46)).alloc (.cells #[af 0,af 0,af 0] 27)).alloc (.cells #[af 0,bW,bW,aT,aj,aj,af 0,af 0] 46)) (.cells #[af 0,bW,bW,aT,aj,aj,af 0,af 0] 46);simpa using h)
 have HW1:=ai hw1;have HM1:=ai (dF.o.cell hm (fun h=>h));have hn1:=aC HA4.o;have hsz:=dF.o.size
 have GU:=ai (BO s 73 [.pointer (some ⟨w.heap.size,0,none⟩),.pointer (some ⟨w.heap.size+1+1+1,0,none⟩)] (w.heap.size+1+1+1) (fun l=>iZ kD l 0 0) (Kt (w.heap.size+1+1+1)) w1 m HM1.o (aC WZ.o) Bg (fun l hl=>(Bf hl).ne)
  (fun X Y Z a h1 h2 h3=>by
   obtain⟨cs,c1,c2⟩:=h3
   exact⟨cs,h2.keep c1 (fun e=>by have:=aC WZ.o;omega),Dh h2 oi c2⟩)
  (fun R X hlx hl h hrb hra hs=>Ns R _ _ _ X h (ah (hs.keep HA0.o (fun h=>h)) 0 _ rfl) (hs.keep WZ.o (fun h=>h)) om (by have:=aC WZ.o;omega) (fun g o p e e2=>by have:=hra g o p e;have:=aC WZ.o;omega) ((Bf hlx).ne) (fun X hX=>(DK kD).1 R X 0 0 hl hX dc ((Bf hlx).ne))))
 obtain⟨r,hr⟩:=bn (vz s.data.toList);have hrd:r=vW s.data.toList (fun l=>iZ kD l 0 0):=hr;have Ig:Hid (∀c ln col,r=.error (c,ln,col)→c≠0):=by intro c ln col e;rw[hr]at e;exact u_ (fun l c ln col hl he=>(Bf hl).code he) e
 rw[←hrd]at GU;rw[←hr];clear hm hw1 hr hrd;go_enter Tryz.func43,Tryz.ntmps43;go_upto_region 2 with fail
 rw[←HW1.o];go_wp2_with fail;refine GU.o.mono ?_;rintro e w2 hp;cases r with
 |error q=>
  obtain⟨c,ln,col⟩:=q;obtain⟨rfl,h2⟩:e=.returned (.agg #[af c,af ln,af col])∧Step (·=w.heap.size+1+1+1) w1 w2:=hp;have hc0:=Ig.o c ln col rfl;have bc:((c:Int)==0)=false:=by rw[beq_eq_false_iff_ne];omega
  obtain⟨w3,hw3⟩:=bn (w2.alloc (.cells #[af c,af ln,af col] 27));have jA:Hid (Step (·=w.heap.size+1+1+1) w1 w3):=by rw[hw3];exact h2.alloc _
  have qw:=nB hw3
  have HW3:=ai hw3;have F9:=ai (jA.o.keep HA2.o om);obtain⟨be,hbe⟩:=bn w2.heap.size;have hbe1:w1.heap.size≤be:=by rw[hbe];exact h2.size
  rw[←hbe]at qw;obtain⟨⟨g0,g1,g2⟩,-⟩:=wL qw.o;have xI:Hid (jP w w3):=dF.o.then jA.o oi;clear hc0 h2 hw3;have TG:=ai (jA.o.keep HA1.o om);have HNN:=ai (jA.o.keep HA4.o om);go_upto_region 3 with fail
  rw[←HW3.o,←hbe];clear hbe;go_upto_region 4 with fail
  clear g0 g1 g2;obtain⟨Jx,hJx⟩:∃Jx:(Nat→Bool)→(Nat→Value)→World→Prop,Jx=fun L V X=>(L 0=true→V 0=.agg #[af 0,bW,bW,aT,aj,aj,af 0,af 0])∧(L 1=true→V 1=.agg #[af c,af ln,af col])∧X.heap[w.heap.size+1]?=some (.cells #[af 0,bW,bW,aT,aj,aj,af 0,af 0] 46 (0,0))∧X.heap[w.heap.size+1+1+1+1]?=some (.cells #[af 0,bW,bW,aT,aj,aj,af 0,af 0] 46 (0,0))∧X.heap[be]?=some (.cells #[af c,af ln,af col] 27 (0,0))∧X.heap[w.heap.size+1+1]?=some (.cells (cond (L 3) #[.int .i64 c,.int .i64 ln,.int .i64 col] #[.int .i64 0,.int .i64 0,.int .i64 0]) 27 (0,0))∧jP w X:=⟨_,rfl⟩;have dV:=ai hJx;clear hJx;refine bG kr Jx 4 rfl kr kr kr kr ?h0 ?hs ?hdone;case h0=>rw[dV.o];exact⟨lW,lW,mD TG.o,mD HNN.o,mD qw.o,mD F9.o,xI.o.drew⟩
  case hs=>
   refine⟨?_,?_,?_,?_,trivial⟩
   all_goals (intro L V X a ev gJ hdf hL ak hJ;rw[dV.o]at hJ)
   ·obtain⟨j0,j1,j2,j3,j4,j5,j6⟩:=hJ;have o7:=gJ 7 rfl;change a.tmps[7]?.getD undef=.pointer (some ⟨w.heap.size+1+1+1+1,0,none⟩)at o7;refine wp_load_mid 46 (.tmp 7) rfl (w.heap.size+1+1+1+1) 0 (by rw[bK];exact o7) [Value.int .i64 0,bW,bW,aT,aj,aj,af 0,af 0] _ (fun jj v hv=>by rw[Nat.zero_add];exact ah j3 jj v qE) Tryz.underlying46 rfl Tryz.cu ?_;exact⟨_,rfl,by rw[dV.o];exact⟨fun _=>rfl,j1,j2,j3,j4,j5,j6⟩⟩
   ·obtain⟨j0,j1,j2,j3,j4,j5,j6⟩:=hJ;have o8:=gJ 8 rfl;change a.tmps[8]?.getD undef=.pointer (some ⟨be,0,none⟩)at o8;refine wp_load_mid 27 (.tmp 8) rfl be 0 (by rw[bK];exact o8) [Value.int .i64 c,af ln,af col] _ (fun jj v hv=>by rw[Nat.zero_add];exact ah j4 jj v qE) Tryz.underlying27 rfl Tryz.dG ?_;exact⟨_,rfl,by rw[dV.o];exact⟨j0,fun _=>rfl,j2,j3,j4,j5,j6⟩⟩
   ·obtain⟨j0,j1,j2,j3,j4,j5,j6⟩:=hJ;have o4:=gJ 4 rfl;change a.tmps[4]?.getD undef=.pointer (some ⟨w.heap.size+1,0,none⟩)at o4;have e15:=(ev 0 15 rfl (ak 0 rfl)).trans (j0 (ak 0 rfl));refine eG 46 (.tmp 4) (.tmp 15) rfl (w.heap.size+1) 0 46 _ [.int .i64 0,.string ⟨#[]⟩,.string ⟨#[]⟩,.bool false,.slice none 0 0,.slice none 0 0,.int .i64 0,.int .i64 0] (by rw[bK];exact o4) (by rw[bK];exact e15) j2 Tryz.cu (Nat.le_of_eq rfl) (aP rfl) ?_;intro w9 ig hs9;exact⟨undef,rfl,by rw[dV.o];exact⟨j0,j1,ig,hs9.keep j3 om,hs9.keep j4 om,hs9.keep j5 om,j6.then hs9 oi⟩⟩
   ·obtain⟨j0,j1,j2,j3,j4,j5,j6⟩:=hJ;rw[hL]at j5;have o5:=gJ 5 rfl;change a.tmps[5]?.getD undef=.pointer (some ⟨w.heap.size+1+1,0,none⟩)at o5;have e16:=(ev 1 16 rfl (ak 1 rfl)).trans (j1 (ak 1 rfl));refine eG 27 (.tmp 5) (.tmp 16) rfl (w.heap.size+1+1) 0 27 _ [.int .i64 c,.int .i64 ln,.int .i64 col] (by rw[bK];exact o5) (by rw[bK];exact e16) j5 Tryz.dG (Nat.le_of_eq rfl) (aP rfl) ?_;intro w9 ig hs9;exact⟨undef,rfl,by rw[dV.o];exact⟨j0,j1,hs9.keep j2 om,hs9.keep j3 om,hs9.keep j4 om,ig,j6.then hs9 oi⟩⟩
  case hdone=>intro L V X hall hJ;rw[dV.o]at hJ;obtain⟨j0,j1,j2,j3,j4,j5,j6⟩:=hJ;rw[hall 3 dc]at j5;have HD2:=ai j2;have HD5:Hid (X.heap[w.heap.size+1+1]?=some (.cells [Value.int .i64 c,af ln,af col].toArray 27 (0,0))):=j5;have HD6:=ai j6;clear hall j0 j1 j2 j3 j4 j5 j6;rw[show List.range 4=[0,1,2,3] from rfl];simp only[lX,dZ,F5,Ef];go_wp2_with fail;refine bodyPost_ret (lF rfl _ (w.heap.size+1) (w.heap.size+1+1) 46 27 [Value.int .i64 0,bW,bW,aT,aj,aj,af 0,af 0] [Value.int .i64 c,af ln,af col] _ _ rfl rfl HD2.o Tryz.underlying46 rfl Tryz.cu HD5.o Tryz.underlying27 rfl Tryz.dG) rfl ?_;exact⟨rfl,HD6.o⟩
 |ok y=>
  obtain⟨rfl,⟨X0,hX0,hleft⟩,h2⟩:e=.returned (.agg #[af 0,af 0,af 0])∧(∃X:World,w1.heap.size≤X.heap.size∧Kt (w.heap.size+1+1+1) X w2 y)∧Step (·=w.heap.size+1+1+1) w1 w2:=hp;obtain⟨w3,hw3⟩:=bn (w2.alloc (.cells #[af 0,af 0,af 0] 27));have lS:=nS hw3
  have jA:Hid (Step (·=w.heap.size+1+1+1) w1 w3):=by rw[hw3];exact h2.alloc _
  have qw:=nB hw3
  have HW3:=ai hw3;have F9:=ai (jA.o.keep HA2.o om);obtain⟨be,hbe⟩:=bn w2.heap.size;rw[←hbe]at qw;obtain⟨⟨g0,g1,g2⟩,-⟩:=wL qw.o;have xI:Hid (jP w w3):=dF.o.then jA.o oi;clear h2 hw3;obtain⟨cs,hcb,hat⟩:=hleft;obtain⟨k0,gZ,lf0,g_,a1,n1,c1,a2,n2,c2,l0,c0,rfl⟩:=dJ.parts hat;have HAT:=ai (Dh lS.o (fun _ _ h=>h) hat);have NH:=ai (lS.o.keep hcb (fun h=>h));have TG:=ai (jA.o.keep HA1.o om);have bY:Hid (∀(jj:Nat) v,[Value.int .i64 k0,aG gZ,aG lf0,bC g_,.slice a1 n1 c1,.slice a2 n2 c2,af l0,af c0][jj]?=some v→w3.cell? ⟨w.heap.size+1+1+1,0+jj,none⟩=some v):=by intro jj v hv;rw[Nat.zero_add];exact ah NH.o jj v qE
  have dL:Hid (∀u∈[Value.int .i64 k0,aG gZ,aG lf0,bC g_,.slice a1 n1 c1,.slice a2 n2 c2,af l0,af c0],u.oneCell'=true):=aP rfl;clear hat hcb;go_upto_region 3 with fail
  rw[←HW3.o,←hbe];clear hbe;go_upto_region 5 with fail
  clear g0 g1 g2;have er0:=F9.o;go_wp2_with (first
   |(refine ay rfl 46 (.tmp 6) rfl (w.heap.size+1+1+1) 0 rfl [Value.int .i64 k0,aG gZ,aG lf0,bC g_,.slice a1 n1 c1,.slice a2 n2 c2,af l0,af c0] _ bY.o Tryz.underlying46 rfl Tryz.cu ?_)
   |(refine au (w:=w3) rfl 46 (.tmp 4) (.tmp 17) rfl (w.heap.size+1) 0 46 _ [Value.int .i64 k0,aG gZ,aG lf0,bC g_,.slice a1 n1 c1,.slice a2 n2 c2,af l0,af c0] rfl rfl TG.o Tryz.cu (Nat.le_of_eq rfl) dL.o ?_;intro w4 hb4 m_;have A7:=m_.keep F9.o om;clear er0)
   |(refine au (w:=w4) rfl 27 (.tmp 5) (.tmp 18) rfl (w.heap.size+1+1) 0 27 _ [Value.int .i64 0,af 0,af 0] rfl rfl A7 Tryz.dG (Nat.le_of_eq rfl) (aP rfl) ?_;intro w5 hb5 hst5))
  have yU:w5.heap[w.heap.size+1]?=some (.cells [Value.int .i64 k0,aG gZ,aG lf0,bC g_,.slice a1 n1 c1,.slice a2 n2 c2,af l0,af c0].toArray 46 (0,0)):=hst5.keep hb4 om;have uo:w5.heap[w.heap.size+1+1]?=some (.cells [Value.int .i64 0,af 0,af 0].toArray 27 (0,0)):=hb5;refine bodyPost_ret (lF rfl _ (w.heap.size+1) (w.heap.size+1+1) 46 27 [Value.int .i64 k0,aG gZ,aG lf0,bC g_,.slice a1 n1 c1,.slice a2 n2 c2,af l0,af c0] [Value.int .i64 0,af 0,af 0] _ _ rfl rfl yU Tryz.underlying46 rfl Tryz.cu uo Tryz.underlying27 rfl Tryz.dG) rfl ?_;exact⟨⟨_,rfl,_,rfl,dJ.mono oi _ _ (dJ.step hst5 oi _ _ (dJ.step m_ oi _ _ HAT.o))⟩,(xI.o.then m_ oi).then hst5 oi⟩
theorem Ir (s:ByteArray) (w:World) (m:Int) (hm:w.cell? ⟨0,0,none⟩=some (.int .i64 m)):Calls Tryz.prog 18 #[.string s] w (Ku (vz s.data.toList) w):=by
 obtain⟨w1,hw1⟩:=bn ((w.alloc (.cells #[af 0,bW,bW,aT,aj,aj,af 0,af 0] 46)).alloc (.cells #[af 0,af 0,af 0] 27));have dF:=nT hw1
 have kG:=nC hw1
 have lm:=nD hw1
 have HW1:=ai hw1;have GU:=ai (PS s w1 m (dF.o.cell hm (fun h=>h)));have hn1:=aC lm.o;have hsz:=dF.o.size;obtain⟨r,hr⟩:=bn (vz s.data.toList);rw[←hr]at GU⊢;clear hm hw1 hr;go_enter Tryz.func18,Tryz.ntmps18;go_upto_region 1 with fail
 rw[←HW1.o];go_wp2_with fail;refine GU.o.mono ?_;rintro e w2 ⟨hp,h2⟩;have HS2:=ai h2;have TG:=ai (h2.keep kG.o (fun h=>h));have F9:=ai (h2.keep lm.o (fun h=>h));have hz2:=h2.size;cases r with
 |error q=>
  obtain⟨c,ln,col⟩:=q;have hp2:e=.returned (.tuple #[.agg #[af 0,bW,bW,aT,aj,aj,af 0,af 0],.agg #[af c,af ln,af col]]):=hp;subst hp2;clear hp h2;go_wp2_with (first
   |(refine au (w:=w2) rfl 46 (.tmp 2) (.tmp 6) rfl (w.heap.size) 0 46 _ [.int .i64 0,.string ⟨#[]⟩,.string ⟨#[]⟩,.bool false,.slice none 0 0,.slice none 0 0,.int .i64 0,.int .i64 0] rfl rfl TG.o Tryz.cu (Nat.le_of_eq rfl) (aP rfl) ?_;intro w4 hb4 m_;have A7:=m_.keep F9.o om)
   |(refine au (w:=w4) rfl 27 (.tmp 3) (.tmp 7) rfl (w.heap.size+1) 0 27 _ [.int .i64 c,.int .i64 ln,.int .i64 col] rfl rfl A7 Tryz.dG (Nat.le_of_eq rfl) (aP rfl) ?_;intro w5 hb5 hst5))
  have yU:w5.heap[w.heap.size]?=some (.cells [Value.int .i64 0,bW,bW,aT,aj,aj,af 0,af 0].toArray 46 (0,0)):=hst5.keep hb4 om;have uo:w5.heap[w.heap.size+1]?=some (.cells [Value.int .i64 c,af ln,af col].toArray 27 (0,0)):=hb5;refine bodyPost_ret (lF rfl _ (w.heap.size) (w.heap.size+1) 46 27 [Value.int .i64 0,bW,bW,aT,aj,aj,af 0,af 0] [Value.int .i64 c,af ln,af col] _ _ rfl rfl yU Tryz.underlying46 rfl Tryz.cu uo Tryz.underlying27 rfl Tryz.dG) rfl ?_;exact⟨rfl,((dF.o.trans HS2.o).then m_ oi).then hst5 oi⟩
 |ok x=>
  obtain⟨v,rfl,cs,rfl,hy⟩:∃v,e=.returned (.tuple #[v,.agg #[af 0,af 0,af 0]])∧Ox w2 (fun q=>w1.heap.size≤q) x v:=hp;obtain⟨k0,gZ,lf0,g_,a1,n1,c1,a2,n2,c2,l0,c0,rfl⟩:=hy.parts;have HY:=ai hy;clear hy h2;go_wp2_with (first
   |(refine au (w:=w2) rfl 46 (.tmp 2) (.tmp 6) rfl (w.heap.size) 0 46 _ [.int .i64 k0,.string gZ,.string lf0,.bool g_,.slice a1 n1 c1,.slice a2 n2 c2,.int .i64 l0,.int .i64 c0] rfl rfl TG.o Tryz.cu (Nat.le_of_eq rfl) (aP rfl) ?_;intro w4 hb4 m_;have A7:=m_.keep F9.o om)
   |(refine au (w:=w4) rfl 27 (.tmp 3) (.tmp 7) rfl (w.heap.size+1) 0 27 _ [.int .i64 0,.int .i64 0,.int .i64 0] rfl rfl A7 Tryz.dG (Nat.le_of_eq rfl) (aP rfl) ?_;intro w5 hb5 hst5))
  have yU:w5.heap[w.heap.size]?=some (.cells [Value.int .i64 k0,aG gZ,aG lf0,bC g_,.slice a1 n1 c1,.slice a2 n2 c2,af l0,af c0].toArray 46 (0,0)):=hst5.keep hb4 om;have uo:w5.heap[w.heap.size+1]?=some (.cells [Value.int .i64 0,af 0,af 0].toArray 27 (0,0)):=hb5;refine bodyPost_ret (lF rfl _ (w.heap.size) (w.heap.size+1) 46 27 [Value.int .i64 k0,aG gZ,aG lf0,bC g_,.slice a1 n1 c1,.slice a2 n2 c2,af l0,af c0] [Value.int .i64 0,af 0,af 0] _ _ rfl rfl yU Tryz.underlying46 rfl Tryz.cu uo Tryz.underlying27 rfl Tryz.dG) rfl ?_;exact⟨⟨_,rfl,_,rfl,dJ.mono oi _ _ (dJ.step hst5 oi _ _ (dJ.step m_ oi _ _ HY.o))⟩,((dF.o.trans HS2.o).then m_ oi).then hst5 oi⟩
def Us (t:Ty):List ByteArray:=match t with| .mk k _ _ _ _ _ _ _=>if k=0 then[]else[⟨#[45,62]⟩]++jR t
def whL (l:List Bd):List ByteArray:=if(l.map sW).length=0 then[]else[⟨#[119,104,101,114,101]⟩]++aO (l.map sW)
theorem FT (t:Ty) (l:List Bd):xW t l=Us t++whL l:=by cases t;rfl
def l9:List It→List ByteArray
 |[]=>[]
 |x::r=>QK x++l9 r
theorem Cf:∀(l:List It) (x:It),l9 (l++[x])=l9 l++QK x
 |[],x=>by rw[List.nil_append,l9,l9,l9];exact List.append_nil _
 |a::r,x=>by rw[List.cons_append,l9,l9,Cf r x,List.append_assoc]
def Yp (l:List ByteArray):List ByteArray:=kE l l.length++psep l.length
theorem Nu (L M:List ByteArray):∀i,i≤L.length→kE (L++M) i=kE L i
 |0,_=>by rw[kE,kE]
 |i+1,h=>by
  rw[kE,kE,Nu L M i om,List.getD_eq_getElem?_getD,List.getD_eq_getElem?_getD,List.getElem?_append_left om]
theorem Iu (L:List ByteArray) (y:ByteArray):kE (L++[y]) (L++[y]).length=Yp L++[y]:=by unfold Yp;rw[List.length_append,List.length_singleton,kE,Nu L [y] _ (Nat.le_refl _),List.getD_eq_getElem?_getD,List.getElem?_append_right (Nat.le_refl _),Nat.sub_self];rfl
theorem Ut (L:List ByteArray) (y:ByteArray):Yp (L++[y])=kE (L++[y]) (L++[y]).length++[⟨#[43]⟩]:=by unfold Yp;rw[psep,if_pos (by simp)]
section
variable {l : List Tok}
variable (hl : pF l) (htk : ∀ t ∈ l, GV t) (hg : ∀ t ∈ l, t.kind ≠ 0 → t.text ≠ [])
include hl hg
theorem Q9:∀f i ls ts ys,Tx l i (ys++Dz (cO ls++cO ts))→aF (fun g j=>Tx l j (ys++aO (cO g.bJ++cO g.types)++[⟨#[62]⟩])∧(cO g.bJ++cO g.types).length≠0) (kC f l i ls ts)
 |0,i,ls,ts,_,_=>by rw[kC];exact aF.out
 |f+1,i,ls,ts,ys,hx=>by
  rw[kC]
  refine(qK (P:=fun i=>Tx l i _) hx).bind fun _ i hx=> ?_
  refine aF.bind (Q:=fun p j=>Tx l j (ys++aO (cO p.1++cO p.2))∧∃L y,cO p.1++cO p.2=L++[y]) ?_ fun p j ⟨hx,L,y,hp⟩=> ?_
  ·
   split
   ·
    rename_i h
    have ht:ts=[]:=by have:=h.2;simpa using this
    subst ht
    refine(D6 hl hg hx).bind fun x j ⟨hx,_⟩=>aF.ok ?_
    have e:cO (ls++[x])++cO []=(cO ls++cO [])++[[x]]:=by rw[show cO []=[] from rfl,List.append_nil,List.append_nil,cO,List.map_append];rfl
    exact⟨hx.to (by show _=ys++aO (cO (ls++[x])++cO []);rw[e,kQ,List.append_assoc]),_,_,e⟩
   ·
    refine(jK hl hx).bind fun x j hx=>aF.ok ?_
    have e:cO ls++cO (ts++[x])=(cO ls++cO ts)++[[x]]:=by rw[show cO (ts++[x])=cO ts++[[x]] from by rw[cO,List.map_append];rfl,List.append_assoc]
    exact⟨hx.to (by show _=ys++aO (cO ls++cO (ts++[x]));rw[e,kQ,List.append_assoc]),_,_,e⟩
  ·
   split
   ·
    rename_i h
    exact Q9 f _ _ _ _ ((dY hl hx h).to (by rw[hp,qC,List.append_assoc];rfl))
   ·
    exact(fV hl hx).bind fun _ j hx=>aF.ok ⟨hx,by show(cO p.1++cO p.2).length≠0;rw[hp];simp⟩
theorem PU (f i:Nat) (ys:List ByteArray) (hx:Tx l i ys):aF (fun g j=>Tx l j (ys++JK g)) (nZ f l i):=by
 unfold nZ;split
 ·rename_i h;refine(Q9 hl hg f _ [] [] (ys++[mG [60]]) ((dY hl hx h).to (List.append_nil _).symm)).weak fun g j ⟨hx,hn⟩=>hx.to ?_;show _=ys++j_ (cO g.bJ++cO g.types);rw[j_,if_neg hn];simp only[List.append_assoc];rfl
 ·exact aF.ok (hx.to (List.append_nil _).symm)
theorem Kv:∀f i d (e:List UInt8) m acc ys,Tx l i (ys++Dz (acc.map oH))→aF (fun r j=>Tx l j (ys++aO (r.map oH)++[mG e])∧r.length≠0) (mr f l i d e m acc)
 |0,i,d,e,m,acc,_,_=>by rw[mr];exact aF.out
 |f+1,i,d,e,m,acc,ys,hx=>by
  rw[mr]
  refine(qK (P:=fun i=>Tx l i _) hx).bind fun _ i hx=>(jK hl hx).bind fun n j hx=>(fV hl hx).bind fun _ j hx=>((Kr hl hg f).1 _ _ _ hx).bind fun ty j hx=> ?_
  have e2:∀a b:Int,(acc++[(⟨n,ty,a,b⟩:Pm)]).map oH=acc.map oH++[[n,⟨#[58]⟩]++jR ty]:=fun a b=>by rw[List.map_append];rfl
  have hx2:∀a b:Int,Tx l j (ys++aO ((acc++[(⟨n,ty,a,b⟩:Pm)]).map oH)):=fun a b=>hx.to (by rw[e2,kQ];simp only[List.append_assoc];rfl)
  split
  ·
   rename_i h
   exact Kv f _ _ _ _ _ _ ((dY hl (hx2 _ _) h).to (by rw[e2,qC,List.append_assoc];rfl))
  ·
   exact(fV hl (hx2 _ _)).bind fun _ j hx=>aF.ok ⟨hx,by simp⟩
theorem Iw (f i d:Nat) (e:List UInt8) (m:Nat) (ys:List ByteArray) (hx:Tx l i ys):aF (fun r j=>Tx l j (ys++aO (r.map oH)++[mG e])) (fD f l i d e m):=by
 unfold fD;split
 ·rename_i h;exact aF.ok ((dY hl hx h).to (by rw[List.map_nil,show aO []=[] from rfl,List.append_nil]))
 ·exact(Kv hl hg f i d e m [] ys (hx.to (List.append_nil _).symm)).weak fun r j h=>h.1
theorem Yq (f i d:Nat) (ys:List ByteArray) (hx:Tx l i ys):aF (fun t j=>Tx l j (ys++Us t)) (kK f l i d):=by
 unfold kK;split
 ·rename_i h;intro t k e;have h2:=(Kr hl hg f).1 _ _ _ (dY hl hx h) t k e;have h3:=ty_kd l f _ _ t k e;refine h2.to ?_;cases t with
  |mk k nm lf m ls ar a b=>rw[Us,if_neg (show¬k=0 from h3)];simp only[List.append_assoc];rfl
 ·exact aF.ok (hx.to (by rw[show Us dU=[] from rfl,List.append_nil]))
theorem Iy:∀f i p ts ls ys,Tx l i (ys++Yp (ts++ls))→aF (fun q j=>Tx l j (ys++kE (q.1++q.2) (q.1++q.2).length)) (fA f l i p ts ls)
 |0,i,p,ls,ts,_,_=>by rw[fA];exact aF.out
 |f+1,i,p,ts,ls,ys,hx=>by
  rw[fA]
  refine(qK (P:=fun i=>Tx l i _) hx).bind fun _ i hx=> ?_
  refine aF.bind (Q:=fun q j=>Tx l j (ys++kE (q.1++q.2) (q.1++q.2).length)∧∃L y,q.1++q.2=L++[y]) ?_ fun q j ⟨hx,L,y,hp⟩=> ?_
  ·
   split
   ·
    rename_i h
    have ht:ls=[]:=by have:=h.2.1;simpa using this
    subst ht
    refine(jK hl hx).bind fun x j hx=>aF.ok ?_
    have e:(ts++[x])++[]=(ts++[])++[x]:=by rw[List.append_nil,List.append_nil]
    exact⟨hx.to (by show _=ys++kE ((ts++[x])++[]) ((ts++[x])++[]).length;rw[e,Iu,List.append_assoc]),_,_,e⟩
   ·
    refine(D6 hl hg hx).bind fun x j ⟨hx,_⟩=>aF.ok ?_
    have e:ts++(ls++[x])=(ts++ls)++[x]:=by rw[List.append_assoc]
    exact⟨hx.to (by show _=ys++kE (ts++(ls++[x])) (ts++(ls++[x])).length;rw[e,Iu,List.append_assoc]),_,_,e⟩
  ·
   split
   ·
    rename_i h
    exact Iy f _ _ _ _ _ ((dY hl hx h).to (by rw[hp,Ut,List.append_assoc];rfl))
   ·
    exact aF.ok hx
theorem Yr (f i:Nat) (ys:List ByteArray) (hx:Tx l i ys):aF (fun b j=>Tx l j (ys++sW b)) (mP f l i):=by
 unfold mP;have h0:=PL hl hg hx
 refine aF.bind (Q:=fun p j=>Tx l j (ys++[p.1])) ?_ fun p j hx=>(fV hl hx).bind fun _ j hx=>(Iy hl hg f j p.2 [] [] _ (hx.to (List.append_nil _).symm)).bind fun q j hx=>aF.ok (hx.to (by
  show _=ys++([p.1,⟨#[58]⟩]++kE (q.1++q.2) (q.1++q.2).length)
  simp only[List.append_assoc];rfl))
 split
 ·rename_i h;have e:pY l i=⟨#[]⟩:=Tv h;rw[e,if_pos rfl,List.append_nil]at h0;exact(jK hl h0).bind fun n j hx=>aF.ok hx
 ·rename_i h;rw[if_neg (fun e=>h (by rw[e];rfl))]at h0;exact aF.ok h0
theorem Iz:∀f i acc ys,Tx l i (ys++Dz (acc.map sW))→aF (fun r j=>Tx l j (ys++aO (r.map sW))∧r.length≠0) (jc f l i acc)
 |0,i,acc,_,_=>by rw[jc];exact aF.out
 |f+1,i,acc,ys,hx=>by
  rw[jc]
  refine(qK (P:=fun i=>Tx l i _) hx).bind fun _ i hx=>(Yr hl hg f _ _ hx).bind fun b j hx=> ?_
  have e2:(acc++[b]).map sW=acc.map sW++[sW b]:=by rw[List.map_append];rfl
  have hx2:Tx l j (ys++aO ((acc++[b]).map sW)):=hx.to (by rw[e2,kQ,List.append_assoc])
  split
  ·
   rename_i h
   exact Iz f _ _ _ ((dY hl hx2 h).to (by rw[e2,qC,List.append_assoc];rfl))
  ·
   exact aF.ok ⟨hx2,by simp⟩
theorem FU (f i:Nat) (ys:List ByteArray) (hx:Tx l i ys):aF (fun r j=>Tx l j (ys++whL r)) (eU f l i):=by
 unfold eU;split
 ·rename_i h;refine(Iz hl hg f _ [] (ys++[mG [119,104,101,114,101]]) ((dY hl hx h).to (List.append_nil _).symm)).weak fun r j ⟨hx,hn⟩=>hx.to ?_;rw[whL,if_neg (by rw[List.length_map];exact hn)];simp only[List.append_assoc];rfl
 ·exact aF.ok (hx.to (List.append_nil _).symm)
theorem tx_recv (i:Nat) (ys:List ByteArray) (hx:Tx l i ys):Tx l (iD l i).2 (ys++zx (iD l i).1.1 (iD l i).1.2++zy (iD l i).1.1):=by
 unfold iD;by_cases h:bH l i [38]=true
 ·rw[if_pos h];have h1:=Kq hl (s:=[109,117,116]) (PL hl hg (dY hl hx h));refine h1.to ?_;cases bH l (ny l (i+1)) [109,117,116]
  ·show _=ys++([⟨#[38]⟩]++_)++[];simp only[List.append_assoc,List.append_nil,Bool.false_eq_true,if_false];rfl
  ·show _=ys++([⟨#[38]⟩]++_)++[⟨#[109,117,116]⟩];simp only[List.append_assoc];rfl
 ·rw[if_neg h];exact hx.to (by show ys=ys++[]++[];simp)
include htk
theorem Uu (f i d:Nat) (body:Bool) (ys:List ByteArray) (hx:Tx l i ys):aF (fun m j=>Tx l j (ys++Xk m body)) (jZ f l i d body):=by
 unfold jZ;refine(fV hl hx).bind fun _ j hx=>(jK hl hx).bind fun n j hx=>(PU hl hg f _ _ hx).bind fun g j hx=> ?_;refine aF.bind (Q:=fun _ k=>k=j∧g.types=[]) ?_ fun _ k hk=> ?_
 ·split
  ·exact aF.fail
  ·rename_i h
   exact aF.ok ⟨rfl,by cases hh:g.types with
    |nil=>rfl
    |cons a b=>exact absurd (by rw[hh];exact Nat.succ_pos _) h⟩
 obtain⟨rfl,hgt⟩:=hk;refine(fV hl hx).bind fun _ j hx=>(fV hl (tx_recv hl hg j _ hx)).bind fun _ k hx=> ?_;have ha:JK g=j_ (g.bJ.map fun s=>[s]):=by unfold JK;rw[hgt,List.map_nil,List.append_nil]
 rw[ha]at hx;obtain⟨zs,hz⟩:=bn (ys++[mG [102,110]]++[n]++j_ (g.bJ.map fun s=>[s])++[mG [40]]++zx (iD l j).1.1 (iD l j).1.2++zy (iD l j).1.1++[mG [115,101,108,102]]);rw[←hz]at hx;refine aF.bind (Q:=fun ps k=>Tx l k (zs++zA ps++[mG [41]])) ?_ fun ps k hx=> ?_
 ·split
  ·rename_i h;split
   ·exact aF.fail
   ·rename_i h2;unfold fD;rw[if_neg h2];refine(Kv hl hg f _ d [41] 8 [] (zs++[mG [44]]) ((dY hl hx h).to (List.append_nil _).symm)).weak fun r j ⟨hx,hn⟩=>hx.to ?_;rw[zA,if_neg hn];simp only[List.append_assoc];rfl
  ·exact(fV hl hx).bind fun _ j hx=>aF.ok (hx.to (by rw[show zA []=[] from rfl,List.append_nil]))
 refine(Yq hl hg f _ d _ hx).bind fun t k hx=>(FU hl hg f _ _ hx).bind fun wh k hx=> ?_;refine aF.bind (Q:=fun b k=>Tx l k (zs++zA ps++[mG [41]]++Us t++whL wh++(if body then[⟨#[123]⟩]++jG b++[⟨#[125]⟩]else[⟨#[59]⟩]))) ?_ fun b k hx=>aF.ok (hx.to ?_)
 ·cases body
  ·rw[if_neg dc];exact(fV hl hx).bind fun _ j hx=>aF.ok hx
  ·rw[if_pos rfl];exact((PN hl htk hg f).block _ d _ hx).weak fun b j hx=>hx.to (by rw[if_pos rfl];simp only[List.append_assoc])
 ·unfold Xk;rw[FT,hz];simp only[List.append_assoc];rfl
theorem Nv:∀f i d body acc ys,Tx l i (ys++yB acc body)→aF (fun r j=>Tx l j (ys++yB r body++[⟨#[125]⟩])) (jJ f l i d body acc)
 |0,i,d,body,acc,_,_=>by rw[jJ];exact aF.out
 |f+1,i,d,body,acc,ys,hx=>by
  rw[jJ]
  split
  ·
   rename_i h;exact aF.ok (dY hl hx h)
  ·
   refine(qK (P:=fun i=>Tx l i _) hx).bind fun _ i hx=>(Uu hl htk hg f _ _ _ _ hx).bind fun m j hx=> ?_
   exact Nv f _ _ _ _ _ (hx.to (by rw[MO,List.append_assoc]))
theorem FV (f i d:Nat) (body:Bool) (ys:List ByteArray) (hx:Tx l i ys):aF (fun r j=>Tx l j (ys++[⟨#[123]⟩]++yB r body++[⟨#[125]⟩])) (gQ f l i d body):=by unfold gQ;exact(fV hl hx).bind fun _ j hx=>Nv hl htk hg f j d body [] _ (hx.to (List.append_nil _).symm)
omit htk hg in
theorem tx_head (i:Nat) (ys:List ByteArray) (hx:Tx l i ys):aF (fun h j=>Tx l j (ys++[h])) (n_ l i):=by
 unfold n_;split
 ·rename_i h;exact aF.ok (dY hl hx h)
 split
 ·rename_i h;exact aF.ok (dY hl hx h)
 split
 ·rename_i h;exact aF.ok (dY hl hx h)
 ·exact jK hl hx
theorem tx_item (f i d:Nat) (ys:List ByteArray) (hx:Tx l i ys):aF (fun x j=>Tx l j (ys++QK x)) (qm f l i d):=by
 unfold qm;refine jX (fun h1=> ?_) fun _=> ?_
 ·refine(jK hl (dY hl hx h1)).bind fun n j hx=>(PU hl hg f _ _ hx).bind fun g j hx=>(fV hl hx).bind fun _ j hx=>(Iw hl hg f _ d _ _ _ hx).bind fun fs j hx=>aF.ok (hx.to ?_);show _=ys++([⟨#[115,116,114,117,99,116]⟩,n]++JK g++([⟨#[123]⟩]++aO (fs.map oH)++[⟨#[125]⟩]));simp only[List.append_assoc];rfl
 refine jX (fun h1=> ?_) fun _=> ?_
 ·refine(jK hl (dY hl hx h1)).bind fun n j hx=>(FV hl htk hg f _ d _ _ hx).bind fun ms j hx=>aF.ok (hx.to ?_);show _=ys++([⟨#[116,114,97,105,116]⟩,n]++([⟨#[123]⟩]++yB ms false++[⟨#[125]⟩]));simp only[List.append_assoc];rfl
 refine jX (fun h1=> ?_) fun _=> ?_
 ·refine(jK hl (dY hl hx h1)).bind fun n j hx=>(fV hl hx).bind fun _ j hx=>(tx_head hl _ _ hx).bind fun h j hx=>(FU hl hg f _ _ hx).bind fun wh j hx=>(FV hl htk hg f _ d _ _ hx).bind fun ms j hx=>aF.ok (hx.to ?_);show _=ys++([⟨#[105,109,112,108]⟩,n,⟨#[102,111,114]⟩,h]++xW dU wh++([⟨#[123]⟩]++yB ms true++[⟨#[125]⟩]));rw[FT,show Us dU=[] from rfl,List.nil_append];simp only[List.append_assoc];rfl
 refine jX (fun h1=> ?_) fun _=>aF.fail
 ·refine(jK hl (dY hl hx h1)).bind fun n j hx=>(PU hl hg f _ _ hx).bind fun g j hx=>(fV hl hx).bind fun _ j hx=>(Iw hl hg f _ d _ _ _ hx).bind fun fs j hx=>(Yq hl hg f _ d _ hx).bind fun t j hx=>(FU hl hg f _ _ hx).bind fun wh j hx=>((PN hl htk hg f).block _ d _ hx).bind fun b j hx=>aF.ok (hx.to ?_);show _=ys++([⟨#[102,110]⟩,n]++JK g++([⟨#[40]⟩]++aO (fs.map oH)++[⟨#[41]⟩])++xW t wh++([⟨#[123]⟩]++jG b++[⟨#[125]⟩]));rw[FT];simp only[List.append_assoc];rfl
theorem Ny:∀f i d acc,Tx l i (l9 acc)→aF (fun r j=>Tx l j (l9 r)) (jl f l i d acc)
 |0,i,d,acc,_=>by rw[jl];exact aF.out
 |f+1,i,d,acc,hx=>by
  rw[jl]
  split
  ·
   exact aF.ok hx
  ·
   refine(qK (P:=fun i=>Tx l i _) hx).bind fun _ i hx=>(tx_item hl htk hg f _ _ _ hx).bind fun m j hx=> ?_
   exact Ny f _ _ _ (hx.to (by rw[Cf]))
end
def Nz (l:List ByteArray):List (List UInt8):=l.map (·.data.toList)
theorem Q_ (l:List Tok):Nz (l.map fun t=>mG t.text)=l.map (·.text):=by unfold Nz;rw[List.map_map];exact List.map_congr_left fun t _=>List.toList_toArray
theorem ne_of {s:List UInt8} {toks:List Tok} (h:ng s=.ok toks):∀t∈toks,t.kind≠0→t.text≠[]:=by
 obtain⟨body,e,rfl,hg,-,-,-,he,-⟩:=vV h;intro t ht hk e2;rcases List.mem_append.1 ht with h1|h1
 ·have:=(hg t h1).pos;rw[e2]at this;exact absurd this dc
 ·rw[List.mem_singleton.1 h1]at hk;exact hk he
theorem PV {α:Type} {r:dB α} {l:List Tok} {x:α} {j:Nat} (h:wS r l=.ok x j):r=.ok x j∧(tokA l j).kind=0:=by
 cases r with
 |ok a k=>
  unfold wS at h;dsimp only at h;split at h
  ·rename_i hk;injection h with h1 h2;subst h1;subst h2;exact⟨rfl,hk⟩
  ·cases h
 |err=>cases h
 |out=>cases h
theorem tx_body {s:List UInt8} {body:List Tok} {e:Tok} (h:ng s=.ok (body++[e])) {j:Nat} {ys:List ByteArray} (hx:Tx (body++[e]) j ys) (hk:(tokA (body++[e]) j).kind=0):j=body.length∧body.map (fun t=>mG t.text)=ys:=by
 obtain⟨body2,e2,h1,hg,-⟩:=vV h;obtain rfl:=(List.append_inj' h1 rfl).1;have hj:=hx.1;rw[List.length_append,List.length_singleton]at hj;rcases Nat.lt_or_ge j body.length with h2|h2
 ·have h3:tokA (body++[e]) j=body[j]:=by unfold tokA;rw[List.getD_eq_getElem?_getD,List.getElem?_append_left h2,List.getElem?_eq_getElem h2];rfl
  obtain⟨r,h4,-⟩:=hg _ (List.getElem_mem h2);rw[h3]at hk;exact absurd hk (rJ h4).2.2
 ·have h3:j=body.length:=by omega
  subst h3;refine⟨rfl,?_⟩;rw[←hx.2,List.take_left]
theorem zF {α:Type} {p:List Tok→dB α} {g:α→α} {pr:α→List ByteArray} (hp:∀l,p (zL l)=(p l).z g) (ht:∀l,pF l→(∀t∈l,GV t)→(∀t∈l,t.kind≠0→t.text≠[])→0<l.length→aF (fun x j=>Tx l j (pr x)) (p l)) {s:List UInt8} {x:α} (h:vW s p=.ok x) (hs:s.length≤9000):∃y,vW (FK (Nz (pr x))) p=.ok y∧pr y=pr x∧g y=g x∧(pr x).length≤8000∧(FK (Nz (pr x))).length≤18000:=by
 unfold vW at h;split at h
 ·cases h
 ·rename_i toks he;split at h
  ·rename_i a j hr;cases h;obtain⟨body,e,Yf,rfl,h1,h2,h3⟩:=PD s toks he hs;obtain⟨body2,e2,h4,hg2,hs2,hz2,hb2,-⟩:=vV he;obtain rfl:=(List.append_inj' h4 rfl).1;have hL:=pO he;obtain⟨e1,e2⟩:=PV hr;have hx:=ht _ hL.1 (DW he) (ne_of he) hL.2 _ _ e1;obtain⟨rfl,hbt⟩:=tx_body he hx e2;obtain⟨y,h5,h6⟩:=again_z hp h2 hr;have hL':=pO h1;obtain⟨e3,e4⟩:=PV h5;have hy:=ht _ hL'.1 (DW h1) (ne_of h1) hL'.2 _ _ e3;(have hpy:pr y=pr x:=by rw[←hy.2,←hx.2];(have h7:∀l:List Tok,(l.take body.length).map (fun t=>mG t.text)=((l.map fun t=>(t.kind,t.text,t.val)).take body.length).map fun q=>mG q.2.1:=fun l=>by rw[←List.map_take,List.map_map];rfl);rw[h7,h7,h2]);refine⟨y,?_,hpy,h6,?_,?_⟩
   ·rw[←hbt,Q_];unfold vW;rw[h1];dsimp only;rw[h5]
   ·rw[←hbt,List.length_map];exact hb2
   ·rw[←hbt,Q_];exact h3
  ·cases h
  ·cases h
theorem tx_0 {l:List Tok} (h:0<l.length):Tx l 0 []:=⟨h,rfl⟩
theorem PW {s:List UInt8} {x:List It} (h:qQ s=.ok x) (hs:s.length≤9000):∃y,qQ (FK (Nz (l9 x)))=.ok y∧l9 y=l9 x∧y.map zIt=x.map zIt∧(l9 x).length≤8000∧(FK (Nz (l9 x))).length≤18000:=
 zF (g:=List.map zIt) (fun l=>Q5 l kD 0 0 []) (fun _ hl htk hg h0=>Ny hl htk hg kD 0 0 [] (tx_0 h0)) h hs
theorem PY {s:List UInt8} {x:Ex} (h:sH s=.ok x) (hs:s.length≤9000):∃y,sH (FK (Nz (dK x)))=.ok y∧dK y=dK x∧zE y=zE x∧(dK x).length≤8000∧(FK (Nz (dK x))).length≤18000:=
 zF (g:=zE) (fun l=>(PK l kD).level 0 0 0) (fun _ hl htk hg h0=>(PN hl htk hg kD).level 0 0 0 [] (tx_0 h0)) h hs
theorem PZ {s:List UInt8} {x:Ty} (h:vz s=.ok x) (hs:s.length≤9000):∃y,vz (FK (Nz (jR x)))=.ok y∧jR y=jR x∧zT y=zT x∧(jR x).length≤8000∧(FK (Nz (jR x))).length≤18000:=
 zF (g:=zT) (fun l=>(QW l kD).1 0 0) (fun _ hl _ hg h0=>(Kr hl hg kD).1 0 0 [] (tx_0 h0)) h hs
mutual
def wu:Ex→List Int
 | .mk k _ _ _ ar _ b _ _=>eX ar++(iU b++[k])
def eX:List Ex→List Int
 |[]=>[]
 |x::r=>wu x++eX r
def seS:St→List Int
 | .mk _ _ _ p e b o _ _ _=>eX p++(eX e++(iU b++iU o))
def iU:List St→List Int
 |[]=>[]
 |s::r=>seS s++iU r
end
mutual
theorem se_z:∀x:Ex,wu (zE x)=wu x
 | .mk k _ _ _ ar _ b _ _=>by rw[zE,wu,wu,Rf ar,Kw b]
theorem Rf:∀x:List Ex,eX (tZ x)=eX x
 |[]=>by rw[tZ]
 |x::r=>by rw[tZ,eX,eX,se_z x,Rf r]
theorem sst_z:∀x:St,seS (zS x)=seS x
 | .mk _ _ _ p e b o _ _ _=>by rw[zS,seS,seS,Rf p,Rf e,Kw b,Kw o]
theorem Kw:∀x:List St,iU (zI x)=iU x
 |[]=>by rw[zI]
 |x::r=>by rw[zI,iU,iU,sst_z x,Kw r]
end
theorem P5 {x y:Ex} (h:zE y=zE x):wu y=wu x:=by rw[←se_z y,h,se_z]
theorem P6 {x y:Ty} (h:zT y=zT x):tyK y=tyK x:=by cases x;cases y;rw[zT,zT]at h;injection h
theorem itsL_le (l:List It) (i:Nat):(l9 (l.take i)).length≤(l9 l).length:=by
 have happ:∀l m:List It,l9 (l++m)=l9 l++l9 m:=by
  intro l m;induction l with
  |nil=>rw[List.nil_append,l9];rfl
  |cons a r ih=>rw[List.cons_append,l9,l9,ih,List.append_assoc]
 have h:=happ (l.take i) (l.drop i);rw[List.take_append_drop]at h;rw[h,List.length_append];omega
theorem Di (ms:List It) (ih:∀m∈ms,JY m) (hl:ms.length≤100000000) (v:Value) (w:World) (D:Nat→Prop) (hv:kP LY w D ms v) (hb:(l9 ms).length≤100000000) (hz:(QU (l9 ms)).size≤100000000):Calls Tryz.prog 13 #[v] w fun e w'=>e=.returned (.string (QU (l9 ms)))∧Step Sf w w':=by
 obtain⟨a,c,rfl⟩:=hv.parts;obtain⟨W,hW⟩:=bn (w.alloc (.cells #[aj] 97));have hs:Step Sf w W:=by rw[hW];exact bV.alloc _
 have hb2:W.heap[w.heap.size]?=some (.cells #[aj] 97 (0,0)):=by rw[hW];exact aB _ _
 obtain⟨N,HN,HP,HF,HS,HO,HD⟩:=bQ (gX.new (C:=fun q=>q=w.heap.size) hb2 rfl) bV;obtain⟨n,hn⟩:=bn ms.length;have F_:=ai hn;have hv0:kP LY W (fun q=>D q∧q<w.heap.size) ms (.slice a ms.length c):=(bT gB).step _ _ hs (fun _ _ h=>h) ((bT gB).mono _ _ (fun q hq h=>⟨h,hq⟩) hv);have hDN:∀q,(D q∧q<w.heap.size)→¬(q=w.heap.size):=fun q hq e=>by have:=hq.2;omega
 have HRV:Hid (∀X,Step N W X→kP LY X (fun q=>(D q∧q<w.heap.size)∧q<W.heap.size) ms (.slice a ms.length c)):=show∀X,_ from fun X hX=>(bT gB).step _ _ (HS.o X hX) (fun q hq=>hDN q hq.1) ((bT gB).mono _ _ (fun q hq h=>⟨h,hq⟩) hv0);have iC:Hid (∀q,((D q∧q<w.heap.size)∧q<W.heap.size)→¬N q):=show∀q,_ from HD.o _ hDN;have HST:Hid (∀X,Step N W X→Step Sf w X):=show∀X,_ from fun X hX=>hs.then (HS.o X hX) oi;have HB:=ai hb;have HZ:=ai hz;have HIH:=ai ih;have HW:=ai hW;have hn9:n≤100000000:=by rw[hn];exact hl
 rw[←hn];clear hs hb2 hW hv hv0 hDN hb hz ih hl hn;go_enter Tryz.func13,Tryz.ntmps13;go_upto_region 2 with fail
 rw[←HW.o];go_wp2_with fail;go_loopg [10] n (fun gg s10 wr=>∃(i:Nat),s10=.int .i64 i∧i≤n∧n-i≤gg∧Pk w.heap.size (l9 (ms.take i)) N W wr);case atStart=>exact⟨0,rfl,Nat.zero_le _,by omega,by rw[List.take_zero,l9];exact HP.o⟩
 case round=>
  obtain⟨i,rfl,hi,hg,hk⟩:=hrel;have K:=ai hk;clear hk;by_cases hlt:i<n
  ·(have hii:(i:Int)<n:=by omega);obtain⟨x,hx⟩:∃x,ms[i]?=some x:=⟨_,List.getElem?_eq_getElem (by rw[←F_.o];exact hlt)⟩;(have HX:Hid (l9 (ms.take (i+1))=l9 (ms.take i)++QK x):=show _=_ by rw[take_snoc hx,Cf]);obtain⟨xs,⟨_,_,he,-,-,-,hr⟩,hel⟩:=HRV.o wr K.o.2;cases he;obtain⟨g,o,rfl,h6,h7,h9⟩:=hr (by rw[←F_.o];omega);obtain⟨cy,hat,hf⟩:=wQ.elc gB hel hx h9;have MV:Hid (∀(j:Nat) v,cy[j]?=some v→wr.cell? ⟨g,o+i*19+j,none⟩=some v):=show∀j,_ from hf;(have hcl:(Tryz.prog.info? 51).map (·.size)=some cy.length:=by rw[gB.len _ _ hat];exact Tryz.kL);have HLEN:=ai (gB.len _ _ hat);have dL:=ai (gB.one _ _ hat);have hal:Step Sf wr (wr.alloc (.cells cy.toArray 51)):=bV.alloc _;have hk1:Pk w.heap.size (l9 (ms.take i)) N W (wr.alloc (.cells cy.toArray 51)):=K.o.quiet hal;have hle:=itsL_le ms (i+1);have Ub:Hid _:=Pk.call HN.o hk1 (fun hp=>HIH.o x (List.mem_of_getElem? hx) cy w.heap.size _ _ N (fun q=>(D q∧q<w.heap.size)∧q<W.heap.size) hp (gB.step _ _ hal (fun _ _ h=>h) hat) iC.o (by rw[HX.o]at hle;have h:=HB.o;omega));clear hr h6 h7 h9 hat hf hx hal hk1 hle hel;(go_upto_region 4 with fail);go_wp2_with (first
    |(refine ay rfl 51 (.tmp 12) rfl g (o+i*19) rfl cy _ MV.o Tryz.underlying51 rfl hcl ?_)
    |(refine jO rfl 51 (.tmp 5) (.tmp 13) rfl _ cy rfl rfl hcl (by rw[HLEN.o];rfl) dL.o ?_)
    |(refine ay rfl 51 (.tmp 5) rfl wr.heap.size 0 rfl cy _ BX Tryz.underlying51 rfl hcl ?_))
   refine Calls.mono Ub.o ?_;rintro e w' ⟨rfl,hk⟩;rw[←HX.o]at hk;have K2:=ai hk;clear hk;go_wp2_with fail;go_roundg (gk-1);case rel=>exact⟨i+1,by go_num,by omega,by omega,K2.o⟩
   case measure=>omega
  ·(obtain rfl:i=n:=by omega);have hk:=K.o;rw[F_.o,List.take_length]at hk;obtain⟨⟨v,h2,-,h3,-⟩,h1⟩:=hk;have c0:=ah h2 0 _ rfl;obtain⟨oa,oc,rfl⟩:=b_ h3.1;have yT:=ai (HST.o wr h1);have HPU:=ai (FM _ _ wr _ h3 HZ.o HB.o);clear h1 h2 h3;go_wp2_with fail;refine Calls.mono HPU.o ?_;rintro e w' ⟨rfl,h4⟩;have H4:=ai h4;clear h4;go_wp2_with fail;go_ret;exact⟨rfl,yT.o.trans H4.o⟩
def Yt (xs:List Int):List Value:=xs.map (Value.int .i64)
def iQ (xs:List Int):Rb where
 r:=fun v w P=>w.ownsRow 0 3 1 v xs.length (Yt xs)∧∀b,v.ownBlock=some b→P b
 ok:=⟨fun hs hP h=>⟨Qz hs hP h.1 h.2,h.2⟩,fun hp h=>⟨h.1,fun b hb=>hp b (OC h.1 hb) (h.2 b hb)⟩⟩
theorem iQ.nil (X:World) (C:Nat→Prop):(iQ []).r (.slice none 0 0) X C:=⟨⟨rfl,.inl ⟨rfl,rfl⟩⟩,oQ⟩
theorem iQ.mk {X:World} (k:Int):(iQ [k]).r (.slice (some ⟨X.heap.size,0,none⟩) 1 1) (X.alloc (.cells #[af k] 3)) (fun q=>X.heap.size≤q):=by refine⟨⟨rfl,.inr ⟨X.heap.size,1,_,rfl,Nat.zero_le _,aB _ _,Nat.le_refl _,by decide,rfl,rfl⟩⟩,fun b hb=> ?_⟩;have:X.heap.size=b:=Option.some.inj hb;omega
theorem Tryz.Yu:(Tryz.prog.info? 3).map (fun i=>(i.zero,i.size,i.bytes))=some (some (.int .i64 0),1,8):=by kernel_rfl
theorem app_int {o:Oper} {a:Act} {X:World} (s x:Operand) (ho:o.op=.call {callee:=.builtin .append,args:= #[s,x],argTypes:= #[65,65]}) {xs ys:List Int} {v u:Value} {C D:Nat→Prop} (hs:a.eval s=v) (hx:a.eval x=u) (h:(iQ xs).r v X C) (hu:aS X D u ys.length (Yt ys)) (hl:xs.length+ys.length≤1000000000):Cj Tryz.prog o (iQ (xs++ys)) C a X:=by
 obtain⟨i0,hi0,hz0,hz1,hz2⟩:=info_parts Tryz.Yu
 refine gV X X.heap.size s x _ ho 0 3 i0 (.int .i64 0) 1 8 Tryz.underlying65 hi0 hz0 hz1 hz2 rfl Nat.one_pos v xs.length _ hs h.1 u ys.length (Yt ys) hx (hu.row (fun k hk _=>hk)) (by simp[Yt]) (fun z hz=>by
  obtain⟨s,_,rfl⟩:=List.mem_map.1 hz
  rfl) (by simp only[maxLen];omega) om (Nat.zero_le _) (fun z X' h1 h2 h3=> ?_)
 refine⟨z,rfl,(ji h2).mono (fun q _ e=>h.2 q e),⟨by rw[Yt,List.map_append,List.length_append];exact h1,fun b hb=> ?_⟩⟩;rcases h3 with h3|h3
 ·exact .inl (h.2 b (by rw[←h3];exact hb))
 ·rw[h3]at hb;exact .inr (Nat.le_of_eq (Option.some.inj hb))
section
variable {ops : Array Oper} {dI : List Sp} {N : Nat → Prop} {w1 : World} {o : Oper} {a : Act} {r : List Oper} {ss : List Sp}
theorem OB.ia {xs ys:List Int} {k1 k2:Nat} (t x:Tmp) (hl:xs.length+ys.length≤1000000000) (h:qg ops dI N w1 r ss a) (ho:o.op=.call {callee:=.builtin .append,args:= #[.tmp t,.tmp x],argTypes:= #[65,65]}:=by rfl) (hs:∀v u,((a.put (some t) v).put (some x) u).eval (.tmp t)=v:=by intro v u;kernel_rfl) (hx:∀v u,((a.put (some t) v).put (some x) u).eval (.tmp x)=u:=by intro v u;kernel_rfl) (hk1:(lG dI k1).out=(iQ xs).r:=by rfl) (hk2:(lG dI k2).out=(iQ ys).r:=by rfl) (ht1:dZ ops k1=some t:=by rfl) (ht2:dZ ops k2=some x:=by rfl) (hw:Region.wanted o (yielded ops a.tmps)=true:=by kernel_rfl):qg ops dI N w1 (o::r) (.r [k1,k2] (iQ (xs++ys))::ss) a:=
 ON.uu t x (o1:=iQ xs) (o2:=iQ ys) (fun _ v u _ _ _ hv hu _ _=>(app_int _ _ ho (hs v u) (hx v u) hv (aS.jb hu.1 hu.2) hl).mono (fun _=>.inl)) h hk1 hk2 ht1 ht2 hw
theorem OB.ii (k:Int) (h:qg ops dI N w1 r ss a) (hy:∀X,o.wp Tryz.prog a X (fun a' X'=>a'=a.put o.dst (.slice (some ⟨X.heap.size,0,none⟩) 1 1)∧X'=X.alloc (.cells #[af k] 3)) QN:=by intro X;go_simp) (hw:Region.wanted o (yielded ops a.tmps)=true:=by kernel_rfl):qg ops dI N w1 (o::r) (.r [] (iQ [k])::ss) a:=
 ON.new (fun X _=>Oper.wp_mono (fun a' X' ⟨h1,h2⟩=>⟨_,h1,by rw[h2];exact bV.alloc _,by rw[h2];exact(iQ [k]).ok.mono (fun _ _ h=>.inr h) (iQ.mk k)⟩) (hy X)) h hw
end
theorem FW:∀l m:List Ex,eX (l++m)=eX l++eX m
 |[],m=>by rw[List.nil_append,eX];rfl
 |x::r,m=>by rw[List.cons_append,eX,eX,FW r m,List.append_assoc]
theorem FX:∀l m:List St,iU (l++m)=iU l++iU m
 |[],m=>by rw[List.nil_append,iU];rfl
 |x::r,m=>by rw[List.cons_append,iU,iU,FX r m,List.append_assoc]
theorem Ci (l:List Ex) (x:Ex):eX (l++[x])=eX l++wu x:=by rw[FW,eX,eX,List.append_nil]
theorem Uw (l:List St) (x:St):iU (l++[x])=iU l++seS x:=by rw[FX,iU,iU,List.append_nil]
theorem Ky (l:List Ex) (i:Nat):(eX (l.take i)).length≤(eX l).length:=by have h:=FW (l.take i) (l.drop i);rw[List.take_append_drop]at h;rw[h,List.length_append];omega
theorem seSs_le (l:List St) (i:Nat):(iU (l.take i)).length≤(iU l).length:=by have h:=FX (l.take i) (l.drop i);rw[List.take_append_drop]at h;rw[h,List.length_append];omega
def SeC (x:Ex):Prop:=∀(cs:List Value) (w:World) (D:Nat→Prop),cZ w D x cs→(wu x).length≤100000000→Calls Tryz.prog 17 #[.agg cs.toArray] w (Mk (iQ (wu x)) w)
def SsC (l:List St):Prop:=∀(v:Value) (xs:List Value) (w:World) (D:Nat→Prop),aS w D v l.length xs→bU w D l xs→(iU l).length≤100000000→Calls Tryz.prog 42 #[v] w (Mk (iQ (iU l)) w)
theorem seen_pt {k:Int} {nm:ByteArray} {v:Int} {mu:Bool} {ar:List Ex} {ns:List ByteArray} {bo:List St} {l c:Int} (ih:∀y∈ar,SeC y) (ihb:SsC bo) (hal:ar.length≤100000000):SeC (.mk k nm v mu ar ns bo l c):=by
 intro cs w D hx hb;rw[wu]at hb⊢;rw[cZ]at hx;obtain⟨va,vn,vb,xa,xb,rfl,-,-,ha,hra,hrn,hsb,hrb⟩:=hx;obtain⟨aa,ca,rfl⟩:=hra.parts;obtain⟨an,cn,rfl⟩:=hrn.parts;obtain⟨ab,cb,rfl⟩:=hrb.parts;obtain⟨W,hW⟩:=bn (w.alloc (.cells #[Value.int .i64 k,aG nm,bf v,bC mu,.slice aa ar.length ca,.slice an ns.length cn,.slice ab bo.length cb,af l,af c] 56));have hs:Step Sf w W:=by rw[hW];exact bV.alloc _
 have hbk:W.heap[w.heap.size]?=some (.cells #[Value.int .i64 k,aG nm,bf v,bC mu,.slice aa ar.length ca,.slice an ns.length cn,.slice ab bo.length cb,af l,af c] 56 (0,0)):=by rw[hW];exact aB _ _
 obtain⟨n,hn⟩:=bn ar.length;have HN:=ai hn;have gI:Hid (∀X,Step Sf W X→X.heap[w.heap.size]?=some (.cells #[Value.int .i64 k,aG nm,bf v,bC mu,.slice aa n ca,.slice an ns.length cn,.slice ab bo.length cb,af l,af c] 56 (0,0))):=show∀X,_ from fun X hX=>by rw[hn];exact hX.keep hbk (fun h=>h)
 have rF:Hid (∀X,Step Sf W X→aS X D (.slice aa ar.length ca) ar.length xa):=show∀X,_ from fun X hX=>hra.step (hs.trans hX) (fun _ _ h=>h);have AL:Hid (∀X,Step Sf W X→bF X D ar xa):=show∀X,_ from fun X hX=>bF.step (hs.trans hX) (fun _ _ h=>h) _ _ ha;have mM:Hid (∀X,Step Sf W X→aS X D (.slice ab bo.length cb) bo.length xb):=show∀X,_ from fun X hX=>hrb.step (hs.trans hX) (fun _ _ h=>h);have BA:Hid (∀X,Step Sf W X→bU X D bo xb):=show∀X,_ from fun X hX=>bU.step (hs.trans hX) (fun _ _ h=>h) _ _ hsb;have HB:Hid ((eX ar).length+((iU bo).length+1)≤100000000):=show _≤_ by simp only[List.length_append,List.length_cons,List.length_nil]at hb;omega
 have HW:=ai hW;have HS:=ai hs;have HIH:=ai ih;have UE:=ai ihb;have hn9:n≤100000000:=by rw[hn];exact hal
 rw[←hn]at HW⊢;clear hs hbk ha hra hrn hsb hrb hb hW ih ihb hal hn;go_enter Tryz.func17,Tryz.ntmps17;go_upto_region 1 with fail
 rw[←HW.o];go_wp2_with fail;go_loopg [3,4] n (fun gg s3 s4 wr=>∃(i:Nat) (C:Nat→Prop),s4=.int .i64 i∧i≤n∧n-i≤gg∧(iQ (eX (ar.take i))).r s3 wr C∧(∀q,C q→W.heap.size≤q)∧Step Sf W wr);case atStart=>exact⟨0,Sf,rfl,Nat.zero_le _,by omega,by rw[List.take_zero,eX];exact iQ.nil _ _,(fun _ h=>h.elim),Step.refl _ _⟩
 case round=>
  obtain⟨i,C,rfl,hi,hg,hu,hC,hst⟩:=hrel;have HU:=ai hu;have HC:=ai hC;have HST:=ai hst;clear hu hC hst;have c4:=ah (gI.o wr HST.o) 4 _ rfl;by_cases hlt:i<n
  ·obtain⟨x,hx⟩:∃x,ar[i]?=some x:=⟨_,List.getElem?_eq_getElem (by rw[←HN.o];exact hlt)⟩;(have HX:Hid (eX (ar.take (i+1))=eX (ar.take i)++wu x):=show _=_ by rw[take_snoc hx,Ci]);obtain⟨_,_,he,-,-,-,hr⟩:=rF.o W bV;cases he;obtain⟨g,o,rfl,h6,h7,h9⟩:=hr (by rw[←HN.o];omega);obtain⟨cy,hat,hf⟩:=bF.cells (i:=i) (AL.o W bV) hx h9;have HF:Hid (∀X,Step Sf W X→∀(j:Nat) v,cy[j]?=some v→X.cell? ⟨g,o+i*9+j,none⟩=some v):=show∀X,_ from fun X hX j v h=>hX.cell (hf j v h) (fun h=>h);(have hcl:(Tryz.prog.info? 56).map (·.size)=some cy.length:=by rw[hat.len];exact Tryz.aK);have HAT:=ai hat;have hcx:=HIH.o x (List.mem_of_getElem? hx);have hle:=Ky ar (i+1);rw[HX.o,List.length_append]at hle;(have hb1:(wu x).length≤100000000:=by have h:=HB.o;omega);(have hb2:(eX (ar.take i)).length+(wu x).length≤1000000000:=by have h:=HB.o;omega);have H4:Hid (∀X,Step Sf W X→X.cell? ⟨w.heap.size,4,none⟩=some (.slice (some ⟨g,o,none⟩) n ca)):=show∀X,_ from fun X hX=>ah (gI.o X hX) 4 _ rfl;(have hii:(i:Int)<n:=by omega);clear hr h6 h7 h9 hat hf hx hle;(go_upto_region 5 with fail);refine mW W [.r [9] (iQ (eX (ar.take i))),.p (.pointer (some ⟨w.heap.size,4,none⟩)),.p (.slice (some ⟨g,o,none⟩) n ca),.p (.int .i64 i),.p (.pointer (some ⟨g,o+i*9,none⟩)),.p (.agg cy.toArray),.r [] (iQ (wu x)),.r [0,6] (iQ (eX (ar.take i)++wu x)),.r [7] (iQ (eX (ar.take i)++wu x)),.r [] (Kp (iQ (eX (ar.take i))) (u3))] kr HST.o (UL rfl rfl HU.o HC.o) ?_ kr ?_
   ·refine OB.mi 3 ?_;refine OB.p ?_;refine OB.p ?_ (fun X hX=>by have c:=H4.o X hX;go_simp);refine OB.p ?_;refine OB.p ?_;refine OB.ld g (o+i*9) cy _ HF.o Tryz.underlying56 hcl ?_;refine OB.c #[.agg cy.toArray] Tryz.func17 (fun X hX=>hcx cy X D (cZ.step hX (fun _ _ h=>h) _ _ HAT.o) hb1) ?_;refine OB.ia 12 18 hb2 ?_;refine OB.mv 19 ?_;exact OB.nil
   intro V X f hX hf;have h4:(iQ (eX (ar.take i)++wu x)).r _ X _:=hf 8 kr;rw[←HX.o]at h4;simp only[pX,Act.put,List.setIfInBounds_toArray,List.set_cons_zero,List.set_cons_succ,Nat.zero_add];go_wp2_with fail;go_roundg (gk-1);case rel=>exact⟨i+1,_,by go_num,by omega,by omega,h4,(fun q h=>h.1),hX⟩
   case measure=>omega
  ·(obtain rfl:i=n:=by omega);have hu:=HU.o;rw[HN.o,List.take_length]at hu;have HU2:=ai hu;(have HLN:Hid ((eX ar).length+(iU bo).length≤1000000000):=show _≤_ by have h:=HB.o;omega);(have HLM:Hid ((eX ar++iU bo).length+[k].length≤1000000000):=show _≤_ by have h:=HB.o;simp only[List.length_append,List.length_cons,List.length_nil];omega);(have HLB:Hid ((iU bo).length≤100000000):=show _≤_ by have h:=HB.o;omega);clear hu;(go_upto_region 6 with fail);refine mW W [.r [10] (iQ (eX ar)),.p (.pointer (some ⟨w.heap.size,6,none⟩)),.p (.slice ab bo.length cb),.r [] (iQ (iU bo)),.r [0,3] (iQ (eX ar++iU bo)),.p (.pointer (some ⟨w.heap.size,0,none⟩)),.p (.int .i64 k),.r [] (iQ [k]),.r [4,7] (iQ (eX ar++iU bo++[k])),.r [8] (iQ (eX ar++iU bo++[k])),.r [] (Kp (iQ (eX ar)) (u3))] kr HST.o (UL rfl rfl HU2.o HC.o) ?_ kr ?_
   ·refine OB.mi 3 ?_;refine OB.p ?_;refine OB.p ?_ (fun X hX=>by have c:=ah (gI.o X hX) 6 _ rfl;go_simp);refine OB.c #[.slice ab bo.length cb] Tryz.func42 (fun X hX=>UE.o _ xb X D (mM.o X hX) (BA.o X hX) HLB.o) ?_;refine OB.ia 20 23 HLN.o ?_;refine OB.p ?_;refine OB.p ?_ (fun X hX=>by have c:=ah (gI.o X hX) 0 _ rfl;go_simp);refine OB.ii k ?_;refine OB.ia 24 27 HLM.o ?_;refine OB.mv 28 ?_;exact OB.nil
   intro V X f hX hf;have h4:(iQ (eX ar++iU bo++[k])).r _ X _:=hf 9 kr;simp only[pX,Act.put,List.setIfInBounds_toArray,List.set_cons_zero,List.set_cons_succ,Nat.zero_add];go_wp2_with fail;go_ret;have hz:=HS.o.size;rw[←List.append_assoc];exact⟨_,rfl,HS.o.trans hX,(iQ _).ok.mono (fun q _ h=>Nat.le_trans hz h.1) h4⟩
def StSe:St→Prop
 | .mk _ _ _ pl e bo el _ _ _=>(∀y∈pl,SeC y)∧(∀y∈e,SeC y)∧SsC bo∧SsC el∧pl.length≤100000000∧e.length≤100000000
theorem P7 {ss:List St} (ih:∀s∈ss,StSe s) (hl:ss.length≤100000000):SsC ss:=by
 intro v xs w D hv hel hb;obtain⟨a,c,rfl⟩:=hv.parts;obtain⟨n,hn⟩:=bn ss.length;have HN:=ai hn;have HRV:=ai hv;have AL:=ai hel;have HB:=ai hb;have HIH:=ai ih;have hn9:n≤100000000:=by rw[hn];exact hl
 rw[←hn];clear hv hel hb ih hl hn;go_enter Tryz.func42,Tryz.ntmps42;go_wp2_with fail;go_loopg [3,4] n (fun gg s3 s4 wr=>∃(i:Nat) (C:Nat→Prop),s4=.int .i64 i∧i≤n∧n-i≤gg∧(iQ (iU (ss.take i))).r s3 wr C∧(∀q,C q→w.heap.size≤q)∧Step Sf w wr);case atStart=>exact⟨0,Sf,rfl,Nat.zero_le _,by omega,by rw[List.take_zero,iU];exact iQ.nil _ _,(fun _ h=>h.elim),Step.refl _ _⟩
 case round=>
  obtain⟨i,C,rfl,hi,hg,hu,hC,hst⟩:=hrel;obtain⟨g0,rfl⟩:=bn gk;obtain⟨X0,rfl⟩:=bn wr;have HU:=ai hu;have HC:=ai hC;have HST:=ai hst;clear hu hC hst;by_cases hlt:i<n
  ·obtain⟨x,hx⟩:∃x,ss[i]?=some x:=⟨_,List.getElem?_eq_getElem (by rw[←HN.o];exact hlt)⟩;(have HX:Hid (iU (ss.take (i+1))=iU (ss.take i)++seS x):=show _=_ by rw[take_snoc hx,Uw]);have hle:=seSs_le ss (i+1);rw[HX.o,List.length_append]at hle;obtain⟨_,_,he,-,-,-,hr⟩:=HRV.o;cases he;obtain⟨g,o,rfl,h6,h7,h9⟩:=hr (by rw[←HN.o];omega);obtain⟨cy,hat,hf⟩:=bU.cells (i:=i) AL.o hx h9;have hse:=HIH.o x (List.mem_of_getElem? hx);obtain⟨k,nm,ty,pl,e,bo,el,ot,l,cc⟩:=x;rw[kF]at hat;obtain⟨ct,vp,ve,vb,vl,xp,xe,xb,xl,rfl,-,hty,hpl,pK,hee,hre,hsb,hrb,hsl,hrl⟩:=hat;have hct:=hty.len;obtain⟨ap,cp,rfl⟩:=pK.parts;obtain⟨ae,ce,rfl⟩:=hre.parts;obtain⟨ab,cb,rfl⟩:=hrb.parts;obtain⟨ax,cx,rfl⟩:=hrl.parts
   have hfj:∀(j:Nat) u,[Value.slice ap pl.length cp,.slice ae e.length ce,.slice ab bo.length cb,.slice ax el.length cx][j]?=some u→w.cell? ⟨g,o+i*17+(10+j),none⟩=some u:=fun j u hu=>hf (10+j) u (by
    rw[List.append_assoc,List.getElem?_append_right (by simp;omega),List.getElem?_append_right (by simp;omega),show 10+j-[Value.int .i64 k,aG nm].length-ct.length=j by simp;omega]
    have hj:j<4:=by have h:=(List.getElem?_eq_some_iff.1 hu).1;simpa using h
    rw[show[Value.slice ap pl.length cp,.slice ae e.length ce,.slice ab bo.length cb,.slice ax el.length cx,.bool ot,.int .i64 l,.int .i64 cc]=[Value.slice ap pl.length cp,.slice ae e.length ce,.slice ab bo.length cb,.slice ax el.length cx]++[.bool ot,.int .i64 l,.int .i64 cc] from rfl,List.getElem?_append_left (by simpa using hj)]
    exact hu)
   have HP10:Hid (∀X,Step Sf w X→X.cell? ⟨g,o+i*17+10,none⟩=some (.slice ap pl.length cp)):=show∀X,_ from fun X hX=>hX.cell (hfj 0 _ rfl) (fun h=>h);have HP11:Hid (∀X,Step Sf w X→X.cell? ⟨g,o+i*17+11,none⟩=some (.slice ae e.length ce)):=show∀X,_ from fun X hX=>hX.cell (hfj 1 _ rfl) (fun h=>h);have HP12:Hid (∀X,Step Sf w X→X.cell? ⟨g,o+i*17+12,none⟩=some (.slice ab bo.length cb)):=show∀X,_ from fun X hX=>hX.cell (hfj 2 _ rfl) (fun h=>h);have HP13:Hid (∀X,Step Sf w X→X.cell? ⟨g,o+i*17+13,none⟩=some (.slice ax el.length cx)):=show∀X,_ from fun X hX=>hX.cell (hfj 3 _ rfl) (fun h=>h);obtain⟨A,hA⟩:=bn (iU (ss.take i));rw[seS]at HX hle;(have HBA:Hid (A.length+((eX pl).length+((eX e).length+((iU bo).length+(iU el).length)))≤100000000):=show _≤_ by have h:=HB.o;rw[hA];simp only[List.length_append]at hle;omega);rw[←hA]at HU HX;obtain⟨hs1,hs2,hs3,hs4,hs5,hs6⟩:=hse;have Ia:=ai hpl;have Ph:=ai pK;have CZ:=ai hee;have lJ:=ai hre;have BA:=ai hsb;have mM:=ai hrb;have HSL:=ai hsl;have Bl:=ai hrl;have dF:=ai hs1;have HS2:=ai hs2;have jA:=ai hs3;have jv:=ai hs4;(have hii:(i:Int)<n:=by omega);clear hr h6 h7 h9 hf hx hle hA hpl pK hee hre hsb hrb hsl hrl hs1 hs2 hs3 hs4 hty hct hfj;go_wp2_with fail;obtain⟨ma,hm⟩:∃m,m=pl.length:=⟨_,rfl⟩;have HMa:=ai hm;(have hm9a:ma≤100000000:=by rw[hm];exact hs5);(have HCEa:Hid (∀X,Step Sf w X→X.cell? ⟨g,o+i*17+10,none⟩=some (.slice ap ma cp)):=show∀X,_ from fun X hX=>by rw[hm];exact HP10.o X hX);clear hm;go_loopg [3,5] ma (fun gg s3 sj wr=>∃(j:Nat) (C:Nat→Prop),sj=.int .i64 j∧j≤ma∧ma-j≤gg∧(iQ (A++eX (pl.take j))).r s3 wr C∧(∀q,C q→w.heap.size≤q)∧Step Sf w wr);case atStart=>exact⟨0,_,rfl,Nat.zero_le _,by omega,by rw[List.take_zero,eX,List.append_nil];exact HU.o,HC.o,HST.o⟩
   case round=>
    obtain⟨j,Ca,rfl,hj,hg2,hu,hC2,hst⟩:=hrel;have HUa:=ai hu;have HCa:=ai hC2;have HSTa:=ai hst;clear hu hC2 hst;have c10:=HCEa.o wr HSTa.o;by_cases hlj:j<ma
    ·obtain⟨y,hy⟩:∃y,pl[j]?=some y:=⟨_,List.getElem?_eq_getElem (by rw[←HMa.o];exact hlj)⟩;(have HY:Hid (eX (pl.take (j+1))=eX (pl.take j)++wu y):=show _=_ by rw[take_snoc hy,Ci]);have hle:=Ky pl (j+1);rw[HY.o,List.length_append]at hle;obtain⟨a2,c2,he,-,-,-,hr⟩:=Ph.o;cases he;obtain⟨g2,o2,he2,h6,h7,h9⟩:=hr (by rw[←HMa.o];omega);subst he2;obtain⟨cz,hat,hf⟩:=bF.cells (i:=j) Ia.o hy h9;have HF:Hid (∀X,Step Sf w X→∀(i:Nat) v,cz[i]?=some v→X.cell? ⟨g2,o2+j*9+i,none⟩=some v):=show∀X,_ from fun X hX i v h=>hX.cell (hf i v h) (fun h=>h);(have hcl:(Tryz.prog.info? 56).map (·.size)=some cz.length:=by rw[hat.len];exact Tryz.aK);have HAT:=ai hat;have hcx:=dF.o y (List.mem_of_getElem? hy);(have hb1:(wu y).length≤100000000:=by have h:=HBA.o;omega);(have hb2:(A++eX (pl.take j)).length+(wu y).length≤1000000000:=by have h:=HBA.o;simp only[List.length_append];omega);(have hjj:(j:Int)<ma:=by omega);clear hr h6 h7 h9 hat hf hy hle;(go_upto_region 8 with fail);refine mW w [.r [12] (iQ (A++eX (pl.take j))),.p (.slice (some ⟨g,o,none⟩) n c),.p (.int .i64 i),.p (.pointer (some ⟨g,o+i*17,none⟩)),.p (.pointer (some ⟨g,o+i*17+10,none⟩)),.p (.slice (some ⟨g2,o2,none⟩) ma cp),.p (.int .i64 j),.p (.pointer (some ⟨g2,o2+j*9,none⟩)),.p (.agg cz.toArray),.r [] (iQ (wu y)),.r [0,9] (iQ (A++eX (pl.take j)++wu y)),.r [10] (iQ (A++eX (pl.take j)++wu y)),.r [] (Kp (iQ (A++eX (pl.take j))) (u3))] kr HSTa.o (UL rfl rfl HUa.o HCa.o) ?_ kr ?_
     ·refine OB.mi 3 ?_;refine OB.p ?_;refine OB.p ?_;refine OB.p ?_;refine OB.p ?_;refine OB.p ?_ (fun X hX=>by have c:=HCEa.o X hX;go_simp);refine OB.p ?_;refine OB.p ?_;refine OB.ld g2 (o2+j*9) cz _ HF.o Tryz.underlying56 hcl ?_;refine OB.c #[.agg cz.toArray] Tryz.func17 (fun X hX=>hcx cz X D (cZ.step hX (fun _ _ h=>h) _ _ HAT.o) hb1) ?_;refine OB.ia 23 32 hb2 ?_;refine OB.mv 33 ?_;exact OB.nil
     intro V X f hX hf;have h4:(iQ (A++eX (pl.take j)++wu y)).r _ X _:=hf 11 kr;rw[List.append_assoc,←HY.o]at h4;simp only[pX,Act.put,List.setIfInBounds_toArray,List.set_cons_zero,List.set_cons_succ,Nat.zero_add];go_wp2_with fail;go_roundg (gk-1);case rel=>exact⟨j+1,_,by go_num,by omega,by omega,h4,(fun q h=>h.1),hX⟩
     case measure=>omega
    ·(obtain rfl:j=ma:=by omega);have hu:=HUa.o;rw[HMa.o,List.take_length]at hu;have HVa:=ai hu;clear hu HUa;obtain⟨Xa,rfl⟩:∃X1,X1=wr:=⟨_,rfl⟩;go_wp2_with fail;obtain⟨mb,hm⟩:∃m,m=e.length:=⟨_,rfl⟩;have HMb:=ai hm;(have hm9b:mb≤100000000:=by rw[hm];exact hs6);(have HCEb:Hid (∀X,Step Sf w X→X.cell? ⟨g,o+i*17+11,none⟩=some (.slice ae mb ce)):=show∀X,_ from fun X hX=>by rw[hm];exact HP11.o X hX);clear hm;go_loopg [3,6] mb (fun gg s3 sj wr=>∃(j:Nat) (C:Nat→Prop),sj=.int .i64 j∧j≤mb∧mb-j≤gg∧(iQ ((A++eX pl)++eX (e.take j))).r s3 wr C∧(∀q,C q→w.heap.size≤q)∧Step Sf w wr);case atStart=>exact⟨0,_,rfl,Nat.zero_le _,by omega,by rw[List.take_zero,eX,List.append_nil];exact HVa.o,HCa.o,HSTa.o⟩
     case round=>
      obtain⟨j,Cb,rfl,hj,hg2,hu,hC2,hst⟩:=hrel;have HUb:=ai hu;have HCb:=ai hC2;have HSTb:=ai hst;clear hu hC2 hst;have c10:=HCEb.o wr HSTb.o;by_cases hlj:j<mb
      ·obtain⟨y,hy⟩:∃y,e[j]?=some y:=⟨_,List.getElem?_eq_getElem (by rw[←HMb.o];exact hlj)⟩;(have HY:Hid (eX (e.take (j+1))=eX (e.take j)++wu y):=show _=_ by rw[take_snoc hy,Ci]);have hle:=Ky e (j+1);rw[HY.o,List.length_append]at hle;obtain⟨a2,c2,he,-,-,-,hr⟩:=lJ.o;cases he;obtain⟨g2,o2,he2,h6,h7,h9⟩:=hr (by rw[←HMb.o];omega);subst he2;obtain⟨cz,hat,hf⟩:=bF.cells (i:=j) CZ.o hy h9;have HF:Hid (∀X,Step Sf w X→∀(i:Nat) v,cz[i]?=some v→X.cell? ⟨g2,o2+j*9+i,none⟩=some v):=show∀X,_ from fun X hX i v h=>hX.cell (hf i v h) (fun h=>h);(have hcl:(Tryz.prog.info? 56).map (·.size)=some cz.length:=by rw[hat.len];exact Tryz.aK);have HAT:=ai hat;have hcx:=HS2.o y (List.mem_of_getElem? hy);(have hb1:(wu y).length≤100000000:=by have h:=HBA.o;omega);(have hb2:((A++eX pl)++eX (e.take j)).length+(wu y).length≤1000000000:=by have h:=HBA.o;simp only[List.length_append];omega);(have hjj:(j:Int)<mb:=by omega);clear hr h6 h7 h9 hat hf hy hle;(go_upto_region 12 with fail);refine mW w [.r [12] (iQ ((A++eX pl)++eX (e.take j))),.p (.slice (some ⟨g,o,none⟩) n c),.p (.int .i64 i),.p (.pointer (some ⟨g,o+i*17,none⟩)),.p (.pointer (some ⟨g,o+i*17+11,none⟩)),.p (.slice (some ⟨g2,o2,none⟩) mb ce),.p (.int .i64 j),.p (.pointer (some ⟨g2,o2+j*9,none⟩)),.p (.agg cz.toArray),.r [] (iQ (wu y)),.r [0,9] (iQ ((A++eX pl)++eX (e.take j)++wu y)),.r [10] (iQ ((A++eX pl)++eX (e.take j)++wu y)),.r [] (Kp (iQ ((A++eX pl)++eX (e.take j))) (u3))] kr HSTb.o (UL rfl rfl HUb.o HCb.o) ?_ kr ?_
       ·refine OB.mi 3 ?_;refine OB.p ?_;refine OB.p ?_;refine OB.p ?_;refine OB.p ?_;refine OB.p ?_ (fun X hX=>by have c:=HCEb.o X hX;go_simp);refine OB.p ?_;refine OB.p ?_;refine OB.ld g2 (o2+j*9) cz _ HF.o Tryz.underlying56 hcl ?_;refine OB.c #[.agg cz.toArray] Tryz.func17 (fun X hX=>hcx cz X D (cZ.step hX (fun _ _ h=>h) _ _ HAT.o) hb1) ?_;refine OB.ia 44 53 hb2 ?_;refine OB.mv 54 ?_;exact OB.nil
       intro V X f hX hf;have h4:(iQ ((A++eX pl)++eX (e.take j)++wu y)).r _ X _:=hf 11 kr;rw[List.append_assoc,←HY.o]at h4;simp only[pX,Act.put,List.setIfInBounds_toArray,List.set_cons_zero,List.set_cons_succ,Nat.zero_add];go_wp2_with fail;go_roundg (gk-1);case rel=>exact⟨j+1,_,by go_num,by omega,by omega,h4,(fun q h=>h.1),hX⟩
       case measure=>omega
      ·(obtain rfl:j=mb:=by omega);have hu:=HUb.o;rw[HMb.o,List.take_length]at hu;have HVb:=ai hu;clear hu HUb;obtain⟨Xb,rfl⟩:∃X1,X1=wr:=⟨_,rfl⟩;go_wp2_with fail;(have HL1:Hid ((A++eX pl++eX e).length+(iU bo).length≤1000000000):=show _≤_ by have h:=HBA.o;simp only[List.length_append];omega);(have HL2:Hid ((A++eX pl++eX e++iU bo).length+(iU el).length≤1000000000):=show _≤_ by have h:=HBA.o;simp only[List.length_append];omega);(have HL3:Hid ((iU bo).length≤100000000):=show _≤_ by have h:=HBA.o;omega);(have HL4:Hid ((iU el).length≤100000000):=show _≤_ by have h:=HBA.o;omega);(go_upto_region 13 with fail);refine mW w [.r [16] (iQ (A++eX pl++eX e)),.p (.slice (some ⟨g,o,none⟩) n c),.p (.int .i64 i),.p (.pointer (some ⟨g,o+i*17,none⟩)),.p (.pointer (some ⟨g,o+i*17+12,none⟩)),.p (.slice ab bo.length cb),.r [] (iQ (iU bo)),.r [0,6] (iQ (A++eX pl++eX e++iU bo)),.p (.slice (some ⟨g,o,none⟩) n c),.p (.int .i64 i),.p (.pointer (some ⟨g,o+i*17,none⟩)),.p (.pointer (some ⟨g,o+i*17+13,none⟩)),.p (.slice ax el.length cx),.r [] (iQ (iU el)),.r [7,13] (iQ (A++eX pl++eX e++iU bo++iU el)),.r [14] (iQ (A++eX pl++eX e++iU bo++iU el)),.r [] (Kp (iQ (A++eX pl++eX e)) (u3))] kr HSTb.o (UL rfl rfl HVb.o HCb.o) ?_ kr ?_
       ·refine OB.mi 3 ?_;refine OB.p ?_;refine OB.p ?_;refine OB.p ?_;refine OB.p ?_;refine OB.p ?_ (fun X hX=>by have c:=HP12.o X hX;go_simp);refine OB.c #[.slice ab bo.length cb] Tryz.func42 (fun X hX=>jA.o _ xb X D (mM.o.step hX (fun _ _ h=>h)) (bU.step hX (fun _ _ h=>h) _ _ BA.o) HL3.o) ?_;refine OB.ia 55 61 HL1.o ?_;refine OB.p ?_;refine OB.p ?_;refine OB.p ?_;refine OB.p ?_;refine OB.p ?_ (fun X hX=>by have c:=HP13.o X hX;go_simp);refine OB.c #[.slice ax el.length cx] Tryz.func42 (fun X hX=>jv.o _ xl X D (Bl.o.step hX (fun _ _ h=>h)) (bU.step hX (fun _ _ h=>h) _ _ HSL.o) HL4.o) ?_;refine OB.ia 62 68 HL2.o ?_;refine OB.mv 69 ?_;exact OB.nil
       intro V X f hX hf;have h4:(iQ (A++eX pl++eX e++iU bo++iU el)).r _ X _:=hf 15 kr;rw[show A++eX pl++eX e++iU bo++iU el=A++(eX pl++(eX e++(iU bo++iU el))) by simp only[List.append_assoc],←HX.o]at h4;simp only[pX,Act.put,List.setIfInBounds_toArray,List.set_cons_zero,List.set_cons_succ,Nat.zero_add];go_wp2_with fail;go_roundg (g0-1);case rel=>exact⟨i+1,_,by go_num,by omega,by omega,h4,(fun q h=>h.1),hX⟩
       case measure=>omega
  ·(obtain rfl:i=n:=by omega);have hu:=HU.o;rw[HN.o,List.take_length]at hu;go_wp2_with fail;go_ret;exact⟨_,rfl,HST.o,(iQ _).ok.mono (fun q _ h=>HC.o q h) hu⟩
theorem Rh:∀n:Nat,(∀x:Ex,SizeOf.sizeOf x<n→DV x≤1000000→SeC x)∧(∀l:List St,SizeOf.sizeOf l<n→oP l≤1000000→SsC l)
 |0=>⟨fun _ h=>absurd h (Nat.not_lt_zero _),fun _ h=>absurd h (Nat.not_lt_zero _)⟩
 |n+1=>by
  obtain⟨LG,Bo⟩:=Rh n
  constructor
  ·
   intro x h hm
   obtain⟨k,nm,v,mu,ar,ns,bo,l,c⟩:=x
   rw[DV]at hm
   have h1:=sN ar
   exact seen_pt (fun y hy=>LG y (by have:=List.sizeOf_lt_of_mem hy;simp at h;omega) (by have:=sK hy;omega)) (Bo bo (by simp at h;omega) om) om
  ·
   intro l h hm
   have h1:=Ff l
   refine P7 (fun s hs=> ?_) om
   have h2:=List.sizeOf_lt_of_mem hs
   have h3:=Fe hs
   obtain⟨k,nm,ty,pl,e,bo,el,ot,l2,c⟩:=s
   rw[stM]at h3
   have h4:=sN pl
   have h5:=sN e
   exact⟨fun y hy=>LG y (by have:=List.sizeOf_lt_of_mem hy;simp at h2;omega) (by have:=sK hy;omega),fun y hy=>LG y (by have:=List.sizeOf_lt_of_mem hy;simp at h2;omega) (by have:=sK hy;omega),Bo bo (by simp at h2;omega) om,Bo el (by simp at h2;omega) om,by omega,by omega⟩
theorem Yv:∀n:Nat,(∀x:Ex,SizeOf.sizeOf x<n→(wu x).length≤DV x)∧(∀l:List St,SizeOf.sizeOf l<n→(iU l).length≤oP l)
 |0=>⟨fun _ h=>absurd h (Nat.not_lt_zero _),fun _ h=>absurd h (Nat.not_lt_zero _)⟩
 |n+1=>by
  obtain⟨LG,Bo⟩:=Yv n
  have hEs:∀l:List Ex,(∀y∈l,SizeOf.sizeOf y<n)→(eX l).length≤kT l:=by
   intro l
   induction l with
   |nil=>intro _;rw[eX];exact Nat.zero_le _
   |cons y r ih=>
    intro h
    rw[eX,kT,List.length_append]
    have h1:=LG y (h y (List.mem_cons_self ..))
    have h2:=ih (fun z hz=>h z (List.mem_cons_of_mem _ hz))
    omega
  constructor
  ·
   intro x h
   obtain⟨k,nm,v,mu,ar,ns,bo,l,c⟩:=x
   rw[DV,wu]
   have h1:=hEs ar (fun y hy=>by have:=List.sizeOf_lt_of_mem hy;simp at h;omega)
   have h2:=Bo bo (by simp at h;omega)
   simp only[List.length_append,List.length_cons,List.length_nil]
   omega
  ·
   intro l h
   induction l with
   |nil=>rw[iU];exact Nat.zero_le _
   |cons s r ih=>
    rw[iU,oP,List.length_append]
    have h9:=ih (by simp at h;omega)
    obtain⟨k,nm,ty,pl,e,bo,el,ot,l2,c⟩:=s
    rw[seS,stM]
    have h1:=hEs pl (fun y hy=>by have:=List.sizeOf_lt_of_mem hy;simp at h;omega)
    have h2:=hEs e (fun y hy=>by have:=List.sizeOf_lt_of_mem hy;simp at h;omega)
    have h3:=Bo bo (by simp at h;omega)
    have h4:=Bo el (by simp at h;omega)
    simp only[List.length_append]
    omega
theorem Ux (xs:List Int) (v1 v2:Value) (w:World) (D1 D2:Nat→Prop) (h1:aS w D1 v1 xs.length (Yt xs)) (h2:aS w D2 v2 xs.length (Yt xs)) (hl:xs.length≤100000000):Calls Tryz.prog 16 #[v1,v2] w fun e w'=>e=.returned (.bool true)∧Step Sf w w':=by
 obtain⟨a1,c1,rfl,-,-,-,hr1⟩:=h1;obtain⟨a2,c2,rfl,-,-,-,hr2⟩:=h2;obtain⟨n,hn⟩:=bn xs.length;have HN:=ai hn;rw[←hn]at hl hr1 hr2⊢;have hne:((n:Int) !=n)=false:=by simp
 clear hn;go_enter Tryz.func16,Tryz.ntmps16;go_wp2_with fail;go_loopg [5] n (fun gg s5 wr=>∃(i:Nat),s5=.int .i64 i∧i≤n∧n-i≤gg∧Step Sf w wr);case atStart=>exact⟨0,rfl,Nat.zero_le _,by omega,Step.refl _ _⟩
 case round=>
  obtain⟨i,rfl,hi,hg,hst⟩:=hrel;by_cases hlt:i<n
  ·obtain⟨x,hx⟩:∃x,xs[i]?=some x:=⟨_,List.getElem?_eq_getElem (by rw[←HN.o];exact hlt)⟩;obtain⟨g1,o1,rfl,-,-,h9⟩:=hr1 om;obtain⟨g2,o2,rfl,-,-,h8⟩:=hr2 om;(have hx2:(Yt xs)[i]?=some (.int .i64 x):=by unfold Yt;rw[List.getElem?_map,hx];rfl);have H1:Hid (∀X,Step Sf w X→X.cell? ⟨g1,o1+i,none⟩=some (.int .i64 x)):=show∀X,_ from fun X hX=>hX.cell (h9 i _ hx2) (fun h=>h);have H2:Hid (∀X,Step Sf w X→X.cell? ⟨g2,o2+i,none⟩=some (.int .i64 x)):=show∀X,_ from fun X hX=>hX.cell (h8 i _ hx2) (fun h=>h);have HST:=ai hst;(have hii:(i:Int)<n:=by omega);(have hxx:(x !=x)=false:=by simp);clear hr1 hr2 h9 h8 hx hx2 hst;(go_upto_region 6 with fail);refine mW w [.p (.slice (some ⟨g1,o1,none⟩) n c1),.p (.int .i64 i),.p (.pointer (some ⟨g1,o1+i,none⟩)),.p (.int .i64 x),.p (.slice (some ⟨g2,o2,none⟩) n c2),.p (.int .i64 i),.p (.pointer (some ⟨g2,o2+i,none⟩)),.p (.int .i64 x),.p (.bool false)] kr HST.o (ini0 (Nat.le_refl _)) ?_ kr ?_
   ·refine OB.p ?_;refine OB.p ?_;refine OB.p ?_;refine OB.p ?_ (fun X hX=>by have c:=H1.o X hX;go_simp);refine OB.p ?_;refine OB.p ?_;refine OB.p ?_;refine OB.p ?_ (fun X hX=>by have c:=H2.o X hX;go_simp);refine OB.p ?_;exact OB.nil
   intro V X f hX hf;clear hf;simp only[pX,Ef];go_wp2_with fail;go_roundg (gk-1);case rel=>exact⟨i+1,by go_num,by omega,by omega,hX⟩
   case measure=>omega
  ·(obtain rfl:i=n:=by omega);go_wp2_with fail;go_ret;exact⟨rfl,hst⟩
end Go.Proofs.YtggjfinekcenpaaGreat
