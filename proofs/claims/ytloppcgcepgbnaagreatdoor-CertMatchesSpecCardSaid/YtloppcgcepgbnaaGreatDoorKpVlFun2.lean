/- Layer 19, the specification: Facts. -/
import Derived.Test.YtloppcgcepgbnaaGreatDoorVlD1
import Derived.Test.YtloppcgcepgbnaaGreatDoorVlTypes
import Derived.Test.YtloppcgcepgbnaaGreatDoorVlRunB
import Derived.Eval
set_option maxHeartbeats 8000000
set_option linter.all false
namespace Go.Proofs.YtloppcgcepgbnaaGreatDoor
open Go Go.Vl Go.Proofs.YtloppcgcepgbnaaGreatDoor.Kw
variable {G:Gl}
set_option maxRecDepth 100000
theorem Ao {b:B} {e:Int} (h:e≠0):cE b e=(0,b,e):=by unfold cE;rw[if_pos h]
theorem DJ (b:B):cE b 0=((kB b).1,b.drop (kB b).2.1,(kB b).2.2):=by unfold cE;rw[if_neg (by decide)]
theorem qR {is:Bool} {f e:Int} (h:e≠0):jA is f e=e:=by unfold jA;rw[if_neg (by simp[h])]
def wH (s:Rd):List Fa×Int:=if(oH s).e≠0 then([],(oH s).e) else((oH s).out,0)
theorem DK {s:Rd} (h:s.e≠0):wH s=([],s.e):=by have e:(oH s).e=s.e:=qR h;unfold wH;rw[e,if_pos h]
theorem uA:∀ (n:Nat) {s:Rd},s.e≠0->gi n s=s
 |0,_,_=>rfl
 |n+1,s,h=>by show(if s.e=0 then _ else _)=_;rw[if_neg h]
theorem Lt {n:Nat} {s:Rd} (h:s.e=0):gi (n+1) s=gi n (nw s):=by show(if s.e=0 then _ else _)=_;rw[if_pos h]
theorem Qe {N k:Nat} {s s0:Rd} {f:Int} (bM:gi (N - k) s=gi N s0) (hk:k<N) (h0:s.e=0) (he:(nw s).e=f) (hf:f≠0):wH (gi N s0)=([],f):=by rw[<- bM,show N - k=(N - (k+1))+1 by omega,Lt h0,uA _ (by rw[he];exact hf),DK (by rw[he];exact hf),he]
theorem T9 (b:B):dX b=wH (gi (cE b 0).1.toNat (kV b)):=rfl
def atR (b:B) (q:Nat):Nat->Nat
 |0=>q
 |i+1=>atR b q i+(kB (b.drop (atR b q i))).2.1
def vlR (b:B) (q i:Nat):Int:=(kB (b.drop (atR b q i))).1
def erR (b:B) (q i:Nat):Int:=(kB (b.drop (atR b q i))).2.2
theorem vh (b:B) (q i:Nat):cE (b.drop (atR b q i)) 0=(vlR b q i,b.drop (atR b q (i+1)),erR b q i):=by rw[DJ,fG];rfl
theorem ah2 {b:B} {q:Nat} (h:∀ i,i<3->erR b q i=0):kD (b.drop q) 0=(⟨vlR b q 0,vlR b q 1,vlR b q 2⟩,b.drop (atR b q 3),0):=by have e0:=vh b q 0;have e1:=vh b q 1;have e2:=vh b q 2;rw[h 0 (by decide)] at e0;rw[h 1 (by decide)] at e1;rw[h 2 (by decide)] at e2;have e0:cE (b.drop q) 0=_:=e0;unfold kD;simp only[e0,e1,e2]
theorem adv {b:B} {q i:Nat} (hi:i<3) (h:∀ j,j<i->erR b q j=0) (he:erR b q i≠0):(kD (b.drop q) 0).2.2=erR b q i:=by
 have e0:cE (b.drop q) 0=_:=vh b q 0;have e1:=vh b q 1;have e2:=vh b q 2;unfold kD
 match i,hi with
 |0,_=>simp only[e0,Ao he]
 |1,_=>rw[h 0 (by decide)] at e0;simp only[e0,e1,Ao he]
 |2,_=>rw[h 0 (by decide)] at e0;rw[h 1 (by decide)] at e1;simp only[e0,e1,e2]
def Ua (b:B) (q i:Nat):List V:=[i64 (if 0<i then vlR b q 0 else 0),i64 (if 1<i then vlR b q 1 else 0),i64 (if 2<i then vlR b q 2 else 0)]
theorem Y8 {b:B} {q i:Nat} (h:i<3):eP (Ua b q i) i [i64 (vlR b q i)]=Ua b q (i+1):=by
 match i,h with
 |0,_=>rfl
 |1,_=>rfl
 |2,_=>rfl
theorem adw {b:B} {q i:Nat}:cL (Ua b q i)=false:=rfl
theorem Y9 {b:B} {q i:Nat}:(Ua b q i).length=3:=rfl
def Qf:=jj @pkA @ptA
def yC:=jj @pkA (jj @ptA @pkQ)
theorem Ap (b:B) (hb:b.length<=1000000000):FnOK Tryz.prog G 11 [bv b] (.tup [.c (fsC (dX b).1),i64 (dX b).2]):=by
 refine bI (rs:=[.tmp 2,.tmp 3]) false [75] mixed Tryz.func11 rfl rfl rfl rfl (by kernel_rfl) (by simp) rfl rfl ?_;rw[T9];simp only[pkA,seval,aF];refine az rfl (DD b hb) (λ_=>rfl) ?_;have hnx:=DJ b;have hst:kV b=⟨(cE b 0).2.1,jA (decide ((cE b 0).1<0)||decide (65536<(cE b 0).1)) 6 (cE b 0).2.2,[]⟩:=rfl;rw[hnx] at hst ⊢
 generalize hg:kB b=g at *;obtain⟨n,u,f⟩:=g;obtain⟨hu,hz,hn,hp⟩:=y9 hg;simp only at hst ⊢
 simp only[pkA,seval];refine aD (λhf=>?_) (λhf=>?_)
 .have hf:f≠0:=by simpa using hf
  have he:(kV b).e≠0:=by rw[hst];show jA _ 6 f≠0;rw[qR hf];exact hf
  have he2:(kV b).e=f:=by rw[hst];exact qR hf
  rw[uA _ he,DK he,he2];simp only[pkA,seval];exact fi rfl rfl
 .have hf:f=0:=by simpa using hf
  subst hf;have n0:kV b=⟨b.drop u,if n<0∨65536<n then 6 else 0,[]⟩:=by
   rw[hst];congr 1;unfold jA;by_cases h:n<0∨65536<n
   .rw[if_pos h,if_pos (by simpa using h)]
   .rw[if_neg h,if_neg (by simpa using h)]
  simp only[pkA,seval,bW];refine va (λs'=>s'.fr 0=bv b/\s'.fr 4=i64 n/\s'.fr 5=i64 (u:Nat)/\s'.fr 29=bo (decide (n<0∨65536<n))/\s'.bx=(λ_=>[])/\s'.nb=0) ?_ ?_
  rotate_left
  .intro K' OT
   refine eT (λh=>?_) (λh=>?_)
   .simp only[pkA,seval]
    refine OT _ ⟨rfl,rfl,rfl,?_,rfl,rfl⟩;have h:¬ n<0:=(by simpa using h);show bo (decide (65536<n))=_;simp[h]
   .simp only[pkA,seval]
    refine OT _ ⟨rfl,rfl,rfl,?_,rfl,rfl⟩;have h:n<0:=(by simpa using h);show bo true=_;simp[h]
  rintro⟨fr,bx,nb⟩ ⟨f0,f4,f5,f29,ybx,yn⟩;simp only at f0 f4 f5 f29 ybx yn;subst ybx yn;simp only[pkA,f29];refine aD (λhr=>?_) (λhr=>?_)
  .have hr:n<0∨65536<n:=by simpa using hr
   have he:(kV b).e=6:=(by rw[n0];exact if_pos hr);rw[uA _ (by rw[he];decide),DK (by rw[he];decide),he];simp only[pkA,seval];exact fi rfl rfl
  .have hr:¬ (n<0∨65536<n):=by simpa using hr
   have tC:kV b=⟨b.drop u,0,[]⟩:=(by rw[n0,if_neg hr]);simp only[pkA,seval];obtain⟨N,hN⟩:∃ N,N=n.toNat:=⟨_,rfl⟩;have hN2:(N:Int)=n:=(by omega);rw[<- hN];generalize kV b=s0 at *;refine bw (λks:Nat×Rd×Nat=>hdS [(0,bv b),(4,i64 n),(5,i64 (ks.2.2:Nat)),(7,owF ks.2.1.out),(8,i64 ks.1)] []) (λks=>N - ks.1) (λks=>ks.1<=N/\gi (N - ks.1) ks.2.1=gi N s0/\ks.2.1.out.length=ks.1/\ks.2.1.e=0/\ks.2.1.b=b.drop ks.2.2/\ks.2.2<=b.length) (0,s0,u) ?_ ?_ ?_
   .exact⟨ar _,rfl,by rw[tC];rfl,by rw[tC],by rw[tC],hu⟩
   .exact cm rfl (ar _) (ar _) (by simp[FL,ah,f0,f4,f5,tC,owF]) trivial
   rintro⟨k,s,q⟩ ⟨hk,bM,cj,h0,hsb,hq⟩ R bL bO c8;have hk:k<=N:=hk;have bM:gi (N - k) s=gi N s0:=bM;have cj:s.out.length=k:=cj;have h0:s.e=0:=h0;have hsb:s.b=b.drop q:=hsb;have hq:q<=b.length:=hq;simp only[pkA,seval];refine aD (λbE=>?_) (λfH=>?_)
   .have bE:k<N:=by simp at bE;omega
    simp only[Qf,seval,aF];refine bw (λj:Nat=>hdS [(0,bv b),(4,i64 n),(5,i64 (atR b q j:Nat)),(7,owF s.out),(8,i64 k),(9,.bp 0 0),(10,i64 j)] [Ua b q j]) (λj=>3 - j) (λj=>j<=3/\(∀ i,i<j->erR b q i=0)/\atR b q j<=b.length) 0 ⟨ar _,(λi hi=>absurd hi (gf _)),hq⟩ ?_ ?_
    .exact cm rfl (ar _) (ab 1) (by simp[FL,ah,atR]) ⟨rfl,trivial⟩
    rintro j ⟨hj,her,oa⟩ Rj O0 O1 ae2;simp only[pkA,seval,aF];refine aD (λF7=>?_) (λhjg=>?_)
    .have F7:j<3:=by simp at F7;omega
     have hwj:=bn (n:=(j:Int)+1) (k:=j+1) (by omega) (by omega);have ej:((j+1:Nat):Int)=(j:Int)+1:=(by omega);simp only[pkA,seval];refine PG kU rfl pw rfl (a:=atR b q j) (b:=b.length) rfl rfl oa (ab _) ?_;rw[bZ];simp only[pkA,seval];refine az rfl (DD (b.drop (atR b q j)) (by rw[cw];omega)) (λ_=>rfl) ?_;have hv:vlR b q j=(kB (b.drop (atR b q j))).1:=rfl;have he:erR b q j=(kB (b.drop (atR b q j))).2.2:=rfl;have ha:atR b q (j+1)=atR b q j+(kB (b.drop (atR b q j))).2.1:=rfl;generalize hg:kB (b.drop (atR b q j))=g at hv he ha;obtain⟨m,u,f⟩:=g;obtain⟨hu,hz,hmI,hp⟩:=y9 hg;rw[cw] at hu;simp only at hv he ha;simp only[pkA,seval];refine aD (λhf=>?_) (λhf=>?_)
     .have hf:f≠0:=by simpa using hf
      have dD:(nw s).e=f:=(by show jA _ 6 (kD s.b s.e).2.2=f;rw[h0,hsb,adv F7 her (by rw[he];exact hf),he,qR hf]);have qz:=Qe bM bE h0 dD hf;simp only[pkA,seval];refine ae2 _ ?_;refine c8 _ ?_;rw[qz];simp only[pkA];exact fi rfl rfl
     .have hf:f=0:=by simpa using hf
      subst hf;simp only[pkA,seval,bW];refine PE Ag rfl mo rfl rfl F7 ?_;have dD:=Y8 (b:=b) (q:=q) F7;rw[hv] at dD;have hwa:=bn (n:=((atR b q j:Nat):Int)+(u:Nat)) (k:=atR b q j+u) (by omega) (by omega);simp only[Qf,seval,aF,bW,adw,Y9,aF,dD,hwa,hwj];refine⟨by omega,?_⟩;refine O0 (j+1) _ ⟨F7,λi hi=>?_,by rw[ha];omega⟩ (by omega) (cm rfl (ar _) (ab 1) (by simp[FL,ah,ej,ha]) ⟨rfl,trivial⟩);rcases bX i j with h | h
      .exact her i h
      .have:i=j:=by omega
       subst this;exact he
    .have:j=3:=by simp at hjg;omega
     subst this;simp only[pkA];refine O1 _ _ ?_;simp only[pkA,seval];obtain⟨f,hf⟩:∃ f:Fa,f=⟨vlR b q 0,vlR b q 1,vlR b q 2⟩:=⟨_,rfl⟩;have Iz:Ua b q 3=(faC f).map .c:=(by rw[hf];rfl);have aom:kD s.b s.e=(f,b.drop (atR b q 3),0):=(by rw[h0,hsb,ah2 her,hf]);have Ar:nw s=⟨b.drop (atR b q 3),jA (oG s.out f) 6 0,s.out++[f]⟩:=(by unfold nw;rw[aom]);generalize hqe:atR b q 3=q2 at *;rw[Iz];refine PE Ag rfl mo rfl (k:=0) rfl (by decide) ?_;simp only[yC,seval,aF,bW,aF];refine PE Ag rfl mo rfl (k:=1) rfl (by decide) ?_;simp only[yC,seval,aF,bW,aF];refine PE Ag rfl mo rfl (k:=2) rfl (by decide) ?_;have q9:eP [i64 0,i64 0,i64 0] 0 [i64 f.kind,i64 f.a,i64 f.b]=(faC f).map .c:=rfl;simp only[yC,seval,aF,bW,aF,q9];refine va (λs'=>(s'.fr 0=bv b/\s'.fr 4=i64 n/\s'.fr 5=i64 (q2:Nat)/\s'.fr 7=owF s.out/\s'.fr 8=i64 k/\s'.fr 14=.bp 1 0/\s'.fr 74=bo (oG s.out f))/\s'.bx 1=(faC f).map .c/\s'.nb=2) ?_ ?_
     rotate_left
     .intro K' OT
      refine eT (λh=>?_) (λh=>?_)
      .have xd:0<k:=by simpa using h
       have AU:=bn (n:=(k:Int) - 1) (k:=k - 1) (by omega) (by omega);have hko:k - 1<s.out.length:=(by omega);have ix:∀ {K:V->Prop},K (.c (.rp (faC s.out[k - 1]) 0))->dF Tryz.prog 28 (.c (.sl (s.out.map faC))) (i64 (k - 1:Nat)) K:=λ{K} hK=>
        dQ eC rfl eS (by decide) (ay _) (c:=faC s.out[k - 1]) (by simp[hko]) rfl hK
       have bE:oG s.out f=decide (0<=vC s.out[k - 1] f):=(by unfold oG;have:s.out.getLast?=some s.out[k - 1]:=(by rw[List.getLast?_eq_getElem?,cj,ai hko]);rw[this]);simp only[pkA,seval,rf,AU];refine ix ?_;simp only[yC,seval,bW];refine az rfl (Ah s.out[k - 1] f) (λ_=>rfl) ?_;simp only[pkA,seval];exact OT _ ⟨⟨rfl,rfl,rfl,rfl,rfl,rfl,by rw[bE];rfl⟩,by simp[],rfl⟩
      .have h0:s.out=[]:=by have:k=0:=(by simpa using h);rw[this] at cj;exact List.length_eq_zero_iff.1 cj
       have bE:oG s.out f=false:=(by rw[h0];rfl);simp only[pkA,seval];exact OT _ ⟨⟨rfl,rfl,rfl,rfl,rfl,rfl,by rw[bE];rfl⟩,by simp[],rfl⟩
     rintro⟨fr,bx,nb⟩ ⟨⟨f0,f4,f5,f7,f8,f14,f74⟩,y1,yn⟩;simp only at f0 f4 f5 f7 f8 f14 f74 y1 yn;subst yn;simp only[pkA,f74];cases hl:oG s.out f
     .have he:jA false 6 0=0:=rfl
      rw[hl,he] at Ar;have r8:ml 3 [(0,V.agg (faC f))] [[C.lit (Value.int IntKind.i64 0),C.lit (Value.int IntKind.i64 0),C.lit (Value.int IntKind.i64 0)]]=some [faC f]:=rfl;simp only[yC,seval,bW,ka,f7,f14,y1,r8,dm];refine rM (by omega) ?_;have Iy:=bn (n:=(k:Int)+1) (k:=k+1) (by omega) (by omega);have ek:((k+1:Nat):Int)=(k:Int)+1:=(by omega);simp only[pkA,seval,ka,f8,Iy];have QF:gi (N - (k+1)) (nw s)=gi N s0:=(by rw[<- bM,show N - k=(N - (k+1))+1 by omega,Lt h0]);rw[Ar] at QF;refine bL (k+1,⟨b.drop q2,0,s.out++[f]⟩,q2) _ ⟨bE,QF,by rw[ae,cj];rfl,rfl,rfl,oa⟩ (by show N - (k+1)<N - k;omega) ?_;exact cm rfl (ar _) (ar _) (by simp[FL,ah,f0,f4,f5,ek]) trivial
     .have dD:(nw s).e=6:=by rw[Ar,hl];rfl
      have qz:=Qe bM bE h0 dD (by decide);simp only[pkA,seval];refine c8 _ ?_;rw[qz];simp only[pkA];exact fi rfl rfl
   .have fH:N<=k:=by simp at fH;omega
    have qz:gi N s0=s:=(by rw[<- bM,show N - k=0 by omega];rfl);rw[qz] at bO;refine bO _ _ ?_;have lb:∀ K:V->Prop,iR Tryz.prog 27 (bv b) K=K (i64 b.length):=λK=>by rw[fN kU rfl];simp[bC]
    simp only[pkA,seval,lb];have hE:(oH s).e=jA (decide (0<(b.drop q).length)) 6 0:=(by unfold oH;rw[hsb,h0]);rw[cw] at hE;refine aD (λhy=>?_) (λhy=>?_)
    .have hy:q<b.length:=by simpa using hy
     have he:(oH s).e=6:=(by rw[hE,dn (by omega)];rfl);have hEE:wH s=([],6):=(by unfold wH;rw[he,if_pos (by decide)]);rw[hEE];simp only[pkA,seval];exact fi rfl rfl
    .have hy:¬ q<b.length:=by simpa using hy
     have he:(oH s).e=0:=(by rw[hE,eK (by omega)];rfl);have hEE:wH s=(s.out,0):=(by unfold wH;rw[he,if_neg (by decide)];rfl);rw[hEE];simp only[pkA,seval,rf];exact fi rfl rfl
end Go.Proofs.YtloppcgcepgbnaaGreatDoor
namespace Go.Proofs.YtloppcgcepgbnaaGreatDoor.Kp
open Go Go.Vl
set_option maxRecDepth 10000
theorem mixed:Tryz.prog.follows .mixedOrders=true:=Tryz.checked.mixed
abbrev i64 (n:Int):V:=.c (.lit (.int .i64 n))
abbrev bo (b:Bool):V:=.c (.lit (.bool b))
variable {G:Gl}
theorem zw (a b c:Int):FnOK Tryz.prog G 92 [i64 a,i64 b,i64 c] (bo (decide (b<=a)&&decide (a<=c))):=by
 refine bI (rs:=[.tmp 6]) false [] mixed Tryz.func92 rfl rfl rfl rfl (by kernel_rfl) (by simp) rfl rfl ?_
 repeat' first
  |(simp only[pkA,seval])
  |refine eT (λh=>?_) (λh=>?_)
  |refine aD (λh=>?_) (λh=>?_)
 all_goals (simp_all<;>omega)
theorem uj (a:Int):FnOK Tryz.prog G 68 [i64 a] (bo false):=by
 refine bI (rs:=[.tmp 2]) false [] mixed Tryz.func68 rfl rfl rfl rfl (by kernel_rfl) (by simp) rfl rfl ?_
 repeat' first
  |(simp only[pkA,seval])
  |refine eT (λh=>?_) (λh=>?_)
  |refine aD (λh=>?_) (λh=>?_)
 all_goals simp_all
def qw (a b:Int):Int:=if a<b then -1 else if b<a then 1 else 0
theorem sA (a b:Int):FnOK Tryz.prog G 48 [i64 a,i64 b] (i64 (qw a b)):=by
 refine bI (rs:=[.tmp 4]) false [] mixed Tryz.func48 rfl rfl rfl rfl (by kernel_rfl) (by simp) rfl rfl ?_;simp only[pkA,seval];refine az rfl (uj a) (by simp[V.boxy]) ?_;simp only[pkA,seval];refine az rfl (uj b) (by simp[V.boxy]) ?_
 repeat' first
  |(simp only[pkA,seval])
  |refine eT (λh=>?_) (λh=>?_)
  |refine aD (λh=>?_) (λh=>?_)
 all_goals (simp_all[qw]<;>omega)
structure Ty where
 name:ByteArray
 flags:Int
 life:Int
 deriving DecidableEq
structure Ru where
 kind:Int
 a:Int
 b:Int
 deriving DecidableEq
structure Qu where
 cmd:Int
 count:Int
 delay:Int
 valid:Int
 uses:Int
 deriving DecidableEq
structure Pol where
 name:ByteArray
 types:List Ty
 rules:List Ru
 quorums:List Qu
 deriving DecidableEq
def cS (b:ByteArray):C:=.lit (.string b)
def cI (n:Int):C:=.lit (.int .i64 n)
def tyC (t:Ty):List C:=[cS t.name,cI t.flags,cI t.life]
def ruC (r:Ru):List C:=[cI r.kind,cI r.a,cI r.b]
def quC (q:Qu):List C:=[cI q.cmd,cI q.count,cI q.delay,cI q.valid,cI q.uses]
def poC (p:Pol):List C:=[cS p.name,.sl (p.types.map tyC),.sl (p.rules.map ruC),.sl (p.quorums.map quC)]
theorem HL (t:Ty):(tyC t).length=3:=rfl
theorem x9 (t:Ru):(ruC t).length=3:=rfl
theorem Bd (t:Qu):(quC t).length=5:=rfl
theorem HM (t:Pol):(poC t).length=4:=rfl
section
variable {K:V->Prop} {sz:Nat}
theorem ajU {t:Ty}:dI false sz 0 (tyC t) K=K (.c (.lit (.string t.name))):=rfl
theorem agX {t:Ty}:dI false sz 1 (tyC t) K=K (i64 t.flags):=rfl
theorem ajV {t:Ty}:dI false sz 2 (tyC t) K=K (i64 t.life):=rfl
theorem agY {t:Ru}:dI false sz 0 (ruC t) K=K (i64 t.kind):=rfl
theorem agZ {t:Ru}:dI false sz 1 (ruC t) K=K (i64 t.a):=rfl
theorem ag0 {t:Ru}:dI false sz 2 (ruC t) K=K (i64 t.b):=rfl
theorem ajW {t:Qu}:dI false sz 0 (quC t) K=K (i64 t.cmd):=rfl
theorem ajX {t:Qu}:dI false sz 1 (quC t) K=K (i64 t.count):=rfl
theorem ajY {t:Qu}:dI false sz 2 (quC t) K=K (i64 t.delay):=rfl
theorem ajZ {t:Qu}:dI false sz 3 (quC t) K=K (i64 t.valid):=rfl
theorem aj0 {t:Qu}:dI false sz 4 (quC t) K=K (i64 t.uses):=rfl
theorem aj1 {t:Pol}:dI false sz 0 (poC t) K=K (.c (.lit (.string t.name))):=rfl
theorem ag1 {t:Pol}:dI false sz 1 (poC t) K=K (.c (.sl (t.types.map tyC))):=rfl
theorem ag2 {t:Pol}:dI false sz 2 (poC t) K=K (.c (.sl (t.rules.map ruC))):=rfl
theorem ag3 {t:Pol}:dI false sz 3 (poC t) K=K (.c (.sl (t.quorums.map quC))):=rfl
end
theorem Ko (x y:Ty):iG [.str,.int,.int] (tyC x) (tyC y)=some (decide (x=y)):=by cases x;cases y;simp[iG,eqC,tyC,cS,cI,Ty.mk.injEq,jQ]
theorem Kq (x y:Ru):iG [.int,.int,.int] (ruC x) (ruC y)=some (decide (x=y)):=by cases x;cases y;simp[iG,eqC,ruC,cI,Ru.mk.injEq,jQ]
theorem Kr (x y:Qu):iG [.int,.int,.int,.int,.int] (quC x) (quC y)=some (decide (x=y)):=by cases x;cases y;simp[iG,eqC,quC,cI,Qu.mk.injEq,jQ]
section
variable {K:V->Prop}
theorem XG {x y:Ty}:j5 Tryz.prog .eql 57 (.agg (tyC x)) (.agg (tyC y)) K=K (bo (decide (x=y))):=pS lE rfl rfl (Ko x y) rfl rfl
theorem XH {x y:Ty}:j5 Tryz.prog .neq 57 (.agg (tyC x)) (.agg (tyC y)) K=K (bo (!decide (x=y))):=pT lE rfl rfl (Ko x y) rfl rfl
theorem XI {x y:Ru}:j5 Tryz.prog .eql 120 (.agg (ruC x)) (.agg (ruC y)) K=K (bo (decide (x=y))):=pS fU rfl rfl (Kq x y) rfl rfl
theorem XJ {x y:Ru}:j5 Tryz.prog .neq 120 (.agg (ruC x)) (.agg (ruC y)) K=K (bo (!decide (x=y))):=pT fU rfl rfl (Kq x y) rfl rfl
theorem XK {x y:Qu}:j5 Tryz.prog .eql 122 (.agg (quC x)) (.agg (quC y)) K=K (bo (decide (x=y))):=pS ll rfl rfl (Kr x y) rfl rfl
theorem XL {x y:Qu}:j5 Tryz.prog .neq 122 (.agg (quC x)) (.agg (quC y)) K=K (bo (!decide (x=y))):=pT ll rfl rfl (Kr x y) rfl rfl
theorem XM {x y:Bool}:j5 Tryz.prog .eql 4 (.c (.lit (.bool x))) (.c (.lit (.bool y))) K=K (bo (x==y)):=E5 HI rfl
theorem XN {x y:Bool}:j5 Tryz.prog .neq 4 (.c (.lit (.bool x))) (.c (.lit (.bool y))) K=K (bo (!(x==y))):=E6 HI rfl
end
def pkP:=jj @HL (jj @x9 (jj @Bd (jj @HM (jj @ajU (jj @agX (jj @ajV (jj @agY (jj @agZ (jj @ag0 (jj @ajW (jj @ajX (jj @ajY (jj @ajZ (jj @aj0 (jj @aj1 (jj @ag1 (jj @ag2 (jj @ag3 (jj @XG (jj @XH (jj @XI (jj @XJ (jj @XK (jj @XL (jj @XM @XN)))))))))))))))))))))))))
