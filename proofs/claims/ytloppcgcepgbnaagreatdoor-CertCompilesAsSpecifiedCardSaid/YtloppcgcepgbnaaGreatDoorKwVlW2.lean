/- Layer 17, the specification: Next. -/
import Derived.Test.YtloppcgcepgbnaaGreatDoorVlRc
import Derived.Test.YtloppcgcepgbnaaGreatDoorVlTypes
import Derived.Test.YtloppcgcepgbnaaGreatDoorVlRunB
import Derived.Test.YtloppcgcepgbnaaGreatDoorVlFlb
import Derived.Test.YtloppcgcepgbnaaGreatDoorVlWord
import Derived.Eval
import Derived.KernelRfl
set_option maxHeartbeats 2000000
set_option linter.all false
namespace Go.Proofs.YtloppcgcepgbnaaGreatDoor
open Go Go.Vl
variable {G:Gl}
set_option maxRecDepth 4000
def zq (l out:List Fa) (c:Fa):List Fa:=if c∈l then out else o8 out c
def vY (l out:List Fa) (x:In):List Fa:=if(x.pre.all λf=>decide (f∈l))=true then x.con.foldl (zq l) out else out
def sn (l:List Fa) (m:List In):List Fa:=m.foldl (vY l) []
def aky:=jj @pkU (jj @apD @apE)
def Du:=jj @pkA (jj @ptA @aky)
theorem ZY (p:Pol) (l:List Fa) (hn:p.types.length<=1000) (hr:p.rules.length<=1000) (cm:(fN p none).length<=20000) (IG:kH (fN p none)) (Vb:l.length<=1000000) :
 FnOK Tryz.prog G 63 [.agg (poC p),.c (fsC l)] (.c (fsC (sn l (fN p none)))):=by
 refine bJ (rs:=[.tmp 4]) false [] mixed Tryz.func63 rfl rfl rfl rfl (by kernel_rfl) (by simp) rfl rfl ?_;simp only[Du,seval];refine aC rfl (afn p hn hr cm) (λh=>by cases h) ?_;simp only[pkA,seval];generalize fN p none=m at cm IG;refine bz (λx:Nat×Bool×List Fa=>hdS [(1,.c (fsC l)),(5,.c (OE m)),(6,nV x.2.1 x.2.2),(7,i64 x.1)] [(poC p).map .c]) (λx=>m.length - x.1) (λx=>x.1<=m.length/\(x.2.1=true->x.2.2=[])/\x.2.2=(m.take x.1).foldl (vY l) []/\x.2.2.length<=2*x.1) (0,true,[]) ⟨ar _,λ_=>rfl,rfl,ab _⟩ ?_ ?_
 .exact cg rfl (ar _) (ab _) (by simp[FL,aj,nV]) (by simp[BL])
 rintro⟨i,b,out⟩ ⟨hi,hb,ho,yR⟩ R bL bQ dq;simp only at hi hb ho yR;have hz:(nV b out).fz=.c (fsC out):=FK hb;simp only[pkA,aky,seval];refine aD (λbF=>?_) (λfO=>?_)
 .have bF:i<m.length:=by simpa using bF
  have hw:=br (n:=(i:Int)+1) (k:=i+1) (by omega) (by omega);have hc2:=IG m[i] (bT bF);obtain⟨x,hx⟩:∃ x,x=m[i]:=⟨_,rfl⟩;rw[<- hx] at hc2;simp only[pkA,seval];refine dP oK rfl lF (by decide) (ay i) (c:=inC x) (by simp[bF,hx]) rfl ?_;simp only[Du,seval];refine aC rfl (ajV l x.pre (by omega) (by omega)) (λ_=>rfl) ?_;obtain⟨fo,Pj⟩:∃ fo,fo=(x.pre.all λf=>decide (f∈l)):=⟨_,rfl⟩;rw[<- Pj];simp only[pkA,seval];refine bz (λy:Nat×Bool×List Fa=>hdS [(1,.c (fsC l)),(5,.c (OE m)),(6,nV y.2.1 y.2.2),(7,i64 i),(8,bo fo),(9,i64 y.1)] [(poC p).map .c]) (λy=>x.con.length - y.1) (λy=>y.1<=x.con.length/\(y.2.1=true->y.2.2=[])/\(y.2.2=if fo=true then(x.con.take y.1).foldl (zq l) out else out)/\y.2.2.length<=2*i+y.1) (0,b,out) ⟨ar _,hb,by simp,by simpa using yR⟩ ?_ ?_
  .exact cg (by simp only[gz,aY,bn,oe];rfl) (ar _) (ab _) (by simp[FL,aj]) (by simp[BL,bxs])
  rintro⟨k,b2,out2⟩ ⟨hk,hb2,IK,arh⟩ R2 xp zP agZ;simp only at hk hb2 IK arh;have L8:(nV b2 out2).fz=.c (fsC out2):=FK hb2;have fin:fo=false∨k=x.con.length->∀ fr bx nb,fr 1=.c (fsC l)->fr 5=.c (OE m)->fr 6=nV b2 out2->fr 7=i64 ((i:Int)+1)->bx 0=(poC p).map .c->1<=nb->R .normal ⟨fr,bx,nb⟩:=λh fr bx nb f1 f5 f6 f7 b0 A0=>by
   refine bL (i+1,b2,out2) _ ⟨bF,hb2,?_,?_⟩ (by simp only;omega) (cg (by simp only[gz,aY,bn,oe];rfl) (ar _) A0 (by simp[FL,f1,f5,f6,f7]) (by simp[BL,b0]))
   .simp only
    rw[aT bF,gJ,<- ho,<- hx,di,List.foldl_nil,IK];unfold vY;rw[<- Pj];rcases h with h | h
    .rw[h];simp
    .rw[h,bW]
   .simp only;omega
  simp only[pkA,seval];refine dP oK rfl lF (by decide) (ay i) (c:=inC x) (by simp[bF,hx]) rfl ?_;simp only[Du,seval];cases hk2:decide ((k:Int)<x.con.length)
  .have hke:k=x.con.length:=by simp at hk2;omega
   simp only[pkA,seval];refine zP _ _ ?_;simp only[pkA,seval,hw];exact fin (.inr hke) _ _ _ rfl rfl rfl rfl (by simp[bxs]) (ab _)
  have DW:k<x.con.length:=by simpa using hk2
  cases hfb:fo
  .subst hfb
   simp only[pkA,seval];refine zP _ _ ?_;simp only[pkA,seval,hw];exact fin (.inl rfl) _ _ _ rfl rfl rfl rfl (by simp[bxs]) (ab _)
  subst hfb;have MN:=br (n:=(k:Int)+1) (k:=k+1) (by omega) (by omega);rw[if_pos rfl] at IK;simp only[pkA,seval];refine dP oK rfl lF (by decide) (ay i) (c:=inC x) (by simp[bF,hx]) rfl ?_;simp only[Du,seval];refine dP dY rfl eK (by decide) (ay k) (c:=faC x.con[k]) (by simp[DW]) rfl ?_;simp only[Du,seval];refine aC rfl (C5 l x.con[k] (by omega)) (λ_=>rfl) ?_;simp only[pkA,seval];have DX:(x.con.take (k+1)).foldl (zq l) out=zq l out2 x.con[k]:=by rw[aT DW,gJ,<- IK];rfl
  cases iT:decide (x.con[k]∈l)
  .have alv:zq l out2 x.con[k]=o8 out2 x.con[k]:=by unfold zq;rw[if_neg (by simpa using iT)]
   have PC:=@uH out2 x.con[k];simp only[pkA,seval,L8];refine dP oK rfl lF (by decide) (ay i) (c:=inC x) (by simp[bF,hx]) rfl ?_;simp only[Du,seval];refine dP dY rfl eK (by decide) (ay k) (c:=faC x.con[k]) (by simp[DW]) rfl ?_;simp only[Du,seval];refine aC rfl (sb out2 x.con[k] (by omega)) (λh=>by cases h) ?_;simp only[pkA,seval,MN];refine xp (k+1,false,o8 out2 x.con[k]) _ ⟨DW,(λh=>by cases h),by simp only[cZ];rw[DX,alv],by simp only;omega⟩ (by simp only;omega) (cg (by simp only[gz,aY,bn,oe];rfl) (ar _) (ab _) (by simp[FL,aj,nV]) (by simp[BL,bxs]))
  .have alv:zq l out2 x.con[k]=out2:=by unfold zq;rw[if_pos (by simpa using iT)]
   simp only[pkA,seval,MN];refine xp (k+1,b2,out2) _ ⟨DW,hb2,by simp only[cZ];rw[DX,alv],by simp only;omega⟩ (by simp only;omega) (cg (by simp only[gz,aY,bn,oe];rfl) (ar _) (ab _) (by simp[FL,aj]) (by simp[BL,bxs]))
 .have:i=m.length:=by simp at fO;omega
  subst this;rw[bW] at ho;simp only[pkA];refine bQ _ _ ?_;simp only[pkA,seval,hz];rw[ho];rfl
end Go.Proofs.YtloppcgcepgbnaaGreatDoor
namespace Go.Proofs.YtloppcgcepgbnaaGreatDoor.Kw
open Go Go.Vl
theorem mixed:Tryz.prog.follows .mixedOrders=true:=Tryz.checked.mixed
abbrev i64 (n:Int):V:=.c (.lit (.int .i64 n))
abbrev u64 (n:Nat):V:=.c (.lit (.int .u64 (n:Int)))
abbrev bo (b:Bool):V:=.c (.lit (.bool b))
section
variable {K:V->Prop} {a b:W} {x y:UInt8}
end
theorem uO {l ds:List V} (h:l.length=ds.length):eQ l 0 ds=ds:=by simp[eQ,h]
theorem dlt {a b:Int} (h:decide (a<b)=true):a<b:=bw h
theorem dge {a b:Int} (h:decide (a<b)=false):¬ a<b:=cD h
variable {G:Gl}
def gl:Gl:=λg=>match g with
 |0=>some (kW.map wc)
 |_=>none
section
variable {P:Program} {K:V->Prop} {a b c d:W} {nb q:Nat} {x y z u:C}
end
def z0:Str:=⟨List.replicate 8 0,List.replicate 64 0,0⟩
theorem mJ {f:List (Nat×Nat×Bool)} {z cs:List C} {p:List (Nat×V)} {K:V->Prop} {o:Option (List C)} (h:o=some cs) (hK:K (.agg cs)):sN f z p K o:=by subst h;exact hK
abbrev EB:Option (TypeId×Nat):=some (5,1)
set_option maxRecDepth 100000 in
theorem ap1 {E:Option (TypeId×Nat)} {l:B} {x:UInt8} {K:V->Prop} (h0:E=none∨E=EB) (hl:l.length+1<=140737488355328) (hK:K (.ow EB (bC (l++[x])))):dS Tryz.prog 27 (.ow E (bC l)) (.c (.sl [[bc x]])) K:=
 XZ (m:=[x]) lE rfl ry rfl rfl rfl h0 (by rw[bA];exact hl) (by rw[List.isEmpty_cons];exact hK)
theorem Ut {m k:Nat} (hm:m<18446744073709551616) (h1:m<256 ^ k) (h2:k=0∨256 ^ (k - 1)<=m):(mz m).length=k:=by
 have a1:=adb hm;rcases Nat.lt_trichotomy (mz m).length k with h | h | h
 .exfalso
  have:256 ^ (mz m).length<=256 ^ (k - 1):=Nat.pow_le_pow_right (by decide) (by omega);omega
 .exact h
 .exfalso
  rcases kO m with h0 | h0
  .subst h0;simp[Fo] at h
  .obtain⟨a2,a3⟩:=ade hm (by omega)
   have:256 ^ k<=256 ^ ((mz m).length - 1):=Nat.pow_le_pow_right (by decide) (by omega);omega
def agF:=jj @pkA @ptA
set_option maxRecDepth 100000 in
theorem ZZ (n:Int) (hn:I64 n):FnOK Tryz.prog G 40 [i64 n] (.ow EB (bC (Vl.encI n))):=by
 refine bJ (rs:=[.tmp 2]) false [36,46] mixed Tryz.func40 rfl rfl rfl rfl (by kernel_rfl) (by simp) rfl rfl ?_;have alc:=CL hn;have hI:-9223372036854775808<=n/\n<=9223372036854775807:=hn;have hc:∀ K,jQ Tryz.prog 3 75 (i64 n) K=K (.c (.lit (.int .u64 (IntKind.u64.wrap n)))):=λK=>by simp only[jQ,nH,Qg]
 simp only[pkA,seval,aJ,hc];have alb:∀ K,n<0->vun .xor (.c (.lit (.int .u64 (IntKind.u64.wrap n)))) K=K (.c (.lit (.int .u64 (fV n:Int)))):=λK h=>by
  have e:IntKind.u64.wrap n=((18446744073709551615 - fV n:Nat):Int):=by have hm:(fV n:Int)=-1 - n:=(by unfold fV;rw[if_pos h];omega);rw[IntKind.wrap_u64];omega
  rw[e,agk (by omega),show 18446744073709551615 - (18446744073709551615 - fV n)=fV n by omega]
 refine rY (λs'=>∃ fr,s'=⟨fr,λ_=>[],0⟩/\fr 0=i64 n/\fr 3=.c (.lit (.int .u64 (fV n:Int)))/\fr 4=.c (bc (jm n))) ?_ ?_
 case refine_2=>
  intro R hR _;refine aD (λh=>?_) (λh=>?_)
  .have h:n<0:=bw h
   simp only[pkA,seval,alb _ h];refine hR _ ⟨_,rfl,by simp[aj],by simp[aj],?_⟩;unfold jm;rw[if_pos h];rfl
  .have h:¬ n<0:=cD h
   have e:IntKind.u64.wrap n=(fV n:Int):=(by unfold fV;rw[if_neg h,IntKind.wrap_u64];omega);simp only[pkA];refine hR _ ⟨_,rfl,by simp[aj],by simp[aj,e],?_⟩;unfold jm;rw[if_neg h];rfl
 rintro _ ⟨fr,rfl,h0,h3,h4⟩;have hE:Vl.encI n=(UInt8.ofNat (128+(mz (fV n)).length) ^^^ jm n)::(mz (fV n)).map (· ^^^ jm n):=rfl;rw[hE];have hdl:=uy (fV n);have hdg:=λi h=>XU (m:=fV n) (i:=i) h;have Vj:=λk=>Ut (m:=fV n) (k:=k) (by omega);generalize mz (fV n)=d at *;generalize fV n=m at *;generalize jm n=f at *;simp only[pkA,seval];refine Fp 0 (λs'=>∃ fr,s'=⟨fr,λ_=>[],0⟩/\fr 3=.c (.lit (.int .u64 (m:Int)))/\fr 4=.c (bc f)/\fr 5=i64 (d.length:Int)) ?_ ?_
 case refine_2=>
  intro R0 hR0 _;refine bz (λk:Nat=>hdS [(3,.c (.lit (.int .u64 (m:Int)))),(4,.c (bc f)),(5,i64 (k:Int))] []) (λk=>k) (λk=>k<=8/\m<256 ^ k) 8 ⟨ab _,by omega⟩ ?_ ?_
  .refine cg rfl (ar _) (by simp) (by simp[FL,aj,h3,h4]) trivial
  rintro k ⟨hk8,hk⟩ R bL bQ dq;simp only[pkA,seval];refine aD (λhp=>?_) (λhz=>?_)
  .have hp:0<k:=by have:=bw hp;omega
   have xu:=br (n:=(k:Int) - 1) (k:=k - 1) (by omega) (by omega);have ME:=br (n:=8*((k - 1:Nat):Int)) (k:=8*(k - 1)) (by omega) (by omega);have hsh:=λK=>XY (K:=K) (a:=m) (n:=8*(k - 1)) (by omega);have hpw:2 ^ (8*(k - 1))=256 ^ (k - 1):=Nat.pow_mul 2 8 (k - 1);simp only[pkA,seval,JY,xu,ME,hsh];have hd0:0<256 ^ (k - 1):=Nat.pow_pos (by decide);rw[hpw];refine aD (λhy=>?_) (λhn=>?_)
   .have hy:0<m / 256 ^ (k - 1):=Int.ofNat_lt.1 (bw hy)
    have fO:256 ^ (k - 1)<=m:=by
     rcases bZ m (256 ^ (k - 1)) with h | h
     .rw[Nat.div_eq_of_lt h] at hy;omega
     .exact h
    simp only[pkA,seval];refine bQ _ _ (hR0 _ ⟨_,rfl,by simp[aj],by simp[aj],?_⟩);rw[Vj k hk (Or.inr fO)];simp[aj]
   .have hy:m / 256 ^ (k - 1)=0:=Nat.le_zero.1 (Int.ofNat_le.1 (Int.not_lt.1 (cD hn)))
    have bF:m<256 ^ (k - 1):=by
     rcases bZ m (256 ^ (k - 1)) with h | h
     .exact h
     .have:=Nat.div_pos h hd0;omega
    simp only[pkA,seval,xu];exact bL (k - 1) _ ⟨by omega,bF⟩ (by omega) (cg rfl (ar _) (by simp) (by simp[FL,aj]) trivial)
  .have hz:k=0:=by have:=cD hz;omega
   subst hz;simp only[pkA];refine bQ _ _ (hR0 _ ⟨_,rfl,by simp[aj],by simp[aj],?_⟩);rw[Vj 0 hk (Or.inl rfl)];simp[aj]
 rintro _ ⟨fr,rfl,h3,h4,h5⟩;have xt:=br (n:=128+(d.length:Int)) (k:=128+d.length) (by omega) (by omega);have D8:∀ K,jQ Tryz.prog 3 5 (.c (.lit (.int .i64 ((128+d.length:Nat):Int)))) K=K (.c (bc (UInt8.ofNat (128+d.length)))):=λK=>HQ nH ry rfl;have hwd:IntKind.i64.wrap ((d.length:Int) - 1)=(d.length:Int) - 1:=by rw[kz];omega
 simp only[agF,seval,aJ,h4,h5,xt,D8,Ky,hwd];refine bz (λj:Nat=>hdS [(3,.c (.lit (.int .u64 (m:Int)))),(4,.c (bc f)),(6,.ow EB (bC ((UInt8.ofNat (128+d.length) ^^^ f)::(d.map (· ^^^ f)).take j))),(7,i64 ((d.length:Int) - 1 - j))] []) (λj=>d.length - j) (λj=>j<=d.length) 0 (ar _) ?_ ?_
 .refine cg rfl (ar _) (by simp) (by simp[FL,aj,h3,h4];rfl) trivial
 rintro j hj R bL bQ dq;simp only[pkA,seval];refine aD (λhp=>?_) (λhz=>?_)
 .have hp:j<d.length:=by have:=bw hp;omega
  have ME:=br (n:=8*((d.length:Int) - 1 - j)) (k:=8*(d.length - 1 - j)) (by omega) (by omega);have hw3:IntKind.i64.wrap ((d.length:Int) - 1 - j - 1)=(d.length:Int) - 1 - (j+1:Nat):=by rw[kz];omega
  have hsh:=λK=>XY (K:=K) (a:=m) (n:=8*(d.length - 1 - j)) (by omega);have hcw:∀ (n:Nat) K,jQ Tryz.prog 75 5 (.c (.lit (.int .u64 (n:Int)))) K=K (.c (bc (UInt8.ofNat n))):=λn K=>HQ Qg ry rfl;have hpw:2 ^ (8*(d.length - 1 - j))=256 ^ (d.length - 1 - j):=Nat.pow_mul 2 8 _;have oW:=hdg (d.length - 1 - j) (by omega);rw[show d.length - 1 - (d.length - 1 - j)=j by omega] at oW;have arf:(d.map (· ^^^ f))[j]?=some (UInt8.ofNat (m / 256 ^ (d.length - 1 - j)) ^^^ f):=by rw[bj,oW];rfl
  simp only[agF,seval,aJ,JY,ME,hsh,hcw,hpw,Ky];refine ap1 (Or.inr rfl) (by simp only[aB,aQ];omega) ?_;simp only[pkA,seval,hw3];refine bL (j+1) _ hp (by omega) (cg rfl (ar _) (by simp) ?_ trivial);rw[pN arf];simp[FL,aj]
 .have hz:j=d.length:=by have:=cD hz;omega
  subst hz;simp only[pkA];refine bQ _ _ ?_;rw[fh (by simp)];simp only[pkA,seval]
theorem QB {n:Nat} (h:n<=9223372036854775807):I64 (n:Int):=by unfold I64;omega
set_option maxRecDepth 100000 in
theorem afo {l m:B} {K:V->Prop} (hl:l.length+m.length<=140737488355328) (hK:K (.ow EB (bC (l++m)))):dS Tryz.prog 27 (.ow EB (bC l)) (.c (.sl (bC m))) K:=by
 refine XZ (m:=m) lE rfl ry rfl rfl rfl (Or.inr rfl) hl ?_;cases m with
 |nil=>exact hK
 |cons x m=>exact hK
theorem QC {f:Int->B}:∀ l:List Int,(∀ x,(f x).length<=9)->(l.map f).flatten.length<=9*l.length
 |[],_=>ab _
 |x::l,h=>by have:=QC l h;have:=h x;simp only[bB,cE,ae,aB];omega
