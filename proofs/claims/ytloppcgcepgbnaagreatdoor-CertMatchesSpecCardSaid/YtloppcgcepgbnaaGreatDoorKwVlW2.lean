/- Layer 17, the specification: Next. -/
import Derived.Test.YtloppcgcepgbnaaGreatDoorVlRc
import Derived.Test.YtloppcgcepgbnaaGreatDoorVlTypes
import Derived.Test.YtloppcgcepgbnaaGreatDoorVlRunB
import Derived.Test.YtloppcgcepgbnaaGreatDoorVlFlb
import Derived.Test.YtloppcgcepgbnaaGreatDoorVlWord
import Derived.Eval
import Derived.KernelRfl
set_option linter.all false
namespace Go.Proofs.YtloppcgcepgbnaaGreatDoor
open Go Go.Vl
variable {G:Gl}
set_option maxRecDepth 4000
def amP (l out:List Fa) (c:Fa):List Fa:=if c∈l then out else qx out c
def aee (l out:List Fa) (x:In):List Fa:=if(x.pre.all λf=>decide (f∈l))=true then x.con.foldl (amP l) out else out
end Go.Proofs.YtloppcgcepgbnaaGreatDoor
namespace Go.Proofs.YtloppcgcepgbnaaGreatDoor.Kw
open Go Go.Vl
theorem mixed:Tryz.prog.follows .mixedOrders=true:=Tryz.checked.mixed
abbrev i64 (n:Int):V:=.c (.lit (.int .i64 n))
abbrev u64 (n:Nat):V:=.c (.lit (.int .u64 (n:Int)))
abbrev bo (b:Bool):V:=.c (.lit (.bool b))
section
variable {K:V->Prop} {a b:W} {x y:UInt8}
end
theorem uw {l ds:List V} (h:l.length=ds.length):eP l 0 ds=ds:=by simp[eP,h]
theorem dlt {a b:Int} (h:decide (a<b)=true):a<b:=a8 h
theorem dge {a b:Int} (h:decide (a<b)=false):¬ a<b:=bK h
variable {G:Gl}
def gl:Gl:=λg=>match g with
 |0=>some (kW.map wc)
 |_=>none
section
variable {P:Program} {K:V->Prop} {a b c d:W} {nb q:Nat} {x y z u:C}
end
def z0:Str:=⟨List.replicate 8 0,List.replicate 64 0,0⟩
theorem oS {f:List (Nat×Nat×Bool)} {z cs:List C} {p:List (Nat×V)} {K:V->Prop} {o:Option (List C)} (h:o=some cs) (hK:K (.agg cs)):vz f z p K o:=by subst h;exact hK
abbrev EB:Option (TypeId×Nat):=some (5,1)
set_option maxRecDepth 100000 in
theorem ap1 {E:Option (TypeId×Nat)} {l:B} {x:UInt8} {K:V->Prop} (h0:E=none∨E=EB) (hl:l.length+1<=140737488355328) (hK:K (.ow EB (bC (l++[x])))):dR Tryz.prog 27 (.ow E (bC l)) (.c (.sl [[bc x]])) K:=
 W7 (m:=[x]) kU rfl pw rfl rfl rfl h0 (by rw[bz];exact hl) (by rw[List.isEmpty_cons];exact hK)
theorem TJ {m k:Nat} (hm:m<18446744073709551616) (h1:m<256 ^ k) (h2:k=0∨256 ^ (k - 1)<=m):(mf m).length=k:=by
 have a1:=abH hm;rcases Nat.lt_trichotomy (mf m).length k with h | h | h
 .exfalso
  have:256 ^ (mf m).length<=256 ^ (k - 1):=Nat.pow_le_pow_right (by decide) (by omega);omega
 .exact h
 .exfalso
  rcases kN m with h0 | h0
  .subst h0;simp[Fh] at h
  .obtain⟨a2,a3⟩:=abI hm (by omega)
   have:256 ^ k<=256 ^ ((mf m).length - 1):=Nat.pow_le_pow_right (by decide) (by omega);omega
def aeC:=jj @pkA @ptA
set_option maxRecDepth 100000 in
set_option maxHeartbeats 1500000 in
theorem YO (n:Int) (hn:I64 n):FnOK Tryz.prog G 40 [i64 n] (.ow EB (bC (Vl.encI n))):=by
 refine bI (rs:=[.tmp 2]) false [36,46] mixed Tryz.func40 rfl rfl rfl rfl (by kernel_rfl) (by simp) rfl rfl ?_;have UE:=CJ hn;have hI:-9223372036854775808<=n/\n<=9223372036854775807:=hn;have hc:∀ K,jR Tryz.prog 3 75 (i64 n) K=K (.c (.lit (.int .u64 (IntKind.u64.wrap n)))):=λK=>by simp only[jR,mo,PL]
 simp only[pkA,seval,aF,hc];have Z1:∀ K,n<0->vun .xor (.c (.lit (.int .u64 (IntKind.u64.wrap n)))) K=K (.c (.lit (.int .u64 (fK n:Int)))):=λK h=>by
  have e:IntKind.u64.wrap n=((18446744073709551615 - fK n:Nat):Int):=by have hm:(fK n:Int)=-1 - n:=(by unfold fK;rw[if_pos h];omega);rw[IntKind.wrap_u64];omega
  rw[e,aef (by omega),show 18446744073709551615 - (18446744073709551615 - fK n)=fK n by omega]
 refine mV (λs'=>∃ fr,s'=⟨fr,λ_=>[],0⟩/\fr 0=i64 n/\fr 3=.c (.lit (.int .u64 (fK n:Int)))/\fr 4=.c (bc (iH n))) ?_ ?_
 case refine_2=>
  intro R hR _;refine aD (λh=>?_) (λh=>?_)
  .have h:n<0:=a8 h
   simp only[pkA,seval,Z1 _ h];refine hR _ ⟨_,rfl,by simp[ah],by simp[ah],?_⟩;unfold iH;rw[if_pos h];rfl
  .have h:¬ n<0:=bK h
   have e:IntKind.u64.wrap n=(fK n:Int):=(by unfold fK;rw[if_neg h,IntKind.wrap_u64];omega);simp only[pkA];refine hR _ ⟨_,rfl,by simp[ah],by simp[ah,e],?_⟩;unfold iH;rw[if_neg h];rfl
 rintro _ ⟨fr,rfl,h0,h3,h4⟩;have hE:Vl.encI n=(UInt8.ofNat (128+(mf (fK n)).length) ^^^ iH n)::(mf (fK n)).map (· ^^^ iH n):=rfl;rw[hE];have hdl:=uf (fK n);have hdg:=λi h=>W2 (m:=fK n) (i:=i) h;have UM:=λk=>TJ (m:=fK n) (k:=k) (by omega);generalize mf (fK n)=d at *;generalize fK n=m at *;generalize iH n=f at *;simp only[pkA,seval];refine za 0 (λs'=>∃ fr,s'=⟨fr,λ_=>[],0⟩/\fr 3=.c (.lit (.int .u64 (m:Int)))/\fr 4=.c (bc f)/\fr 5=i64 (d.length:Int)) ?_ ?_
 case refine_2=>
  intro R0 hR0 _;refine bw (λk:Nat=>hdS [(3,.c (.lit (.int .u64 (m:Int)))),(4,.c (bc f)),(5,i64 (k:Int))] []) (λk=>k) (λk=>k<=8/\m<256 ^ k) 8 ⟨ab _,by omega⟩ ?_ ?_
  .refine cm rfl (ar _) (by simp) (by simp[FL,ah,h3,h4]) trivial
  rintro k ⟨hk8,hk⟩ R bL bO c8;simp only[pkA,seval];refine aD (λhp=>?_) (λhz=>?_)
  .have hp:0<k:=by have:=a8 hp;omega
   have xi:=bn (n:=(k:Int) - 1) (k:=k - 1) (by omega) (by omega);have LV:=bn (n:=8*((k - 1:Nat):Int)) (k:=8*(k - 1)) (by omega) (by omega);have hsh:=λK=>W6 (K:=K) (a:=m) (n:=8*(k - 1)) (by omega);have hpw:2 ^ (8*(k - 1))=256 ^ (k - 1):=Nat.pow_mul 2 8 (k - 1);simp only[pkA,seval,JI,xi,LV,hsh];have hd0:0<256 ^ (k - 1):=Nat.pow_pos (by decide);rw[hpw];refine aD (λhy=>?_) (λhn=>?_)
   .have hy:0<m / 256 ^ (k - 1):=Int.ofNat_lt.1 (a8 hy)
    have fH:256 ^ (k - 1)<=m:=by
     rcases bX m (256 ^ (k - 1)) with h | h
     .rw[Nat.div_eq_of_lt h] at hy;omega
     .exact h
    simp only[pkA,seval];refine bO _ _ (hR0 _ ⟨_,rfl,by simp[ah],by simp[ah],?_⟩);rw[UM k hk (Or.inr fH)];simp[ah]
   .have hy:m / 256 ^ (k - 1)=0:=Nat.le_zero.1 (Int.ofNat_le.1 (Int.not_lt.1 (bK hn)))
    have bE:m<256 ^ (k - 1):=by
     rcases bX m (256 ^ (k - 1)) with h | h
     .exact h
     .have:=Nat.div_pos h hd0;omega
    simp only[pkA,seval,xi];exact bL (k - 1) _ ⟨by omega,bE⟩ (by omega) (cm rfl (ar _) (by simp) (by simp[FL,ah]) trivial)
  .have hz:k=0:=by have:=bK hz;omega
   subst hz;simp only[pkA];refine bO _ _ (hR0 _ ⟨_,rfl,by simp[ah],by simp[ah],?_⟩);rw[UM 0 hk (Or.inl rfl)];simp[ah]
 rintro _ ⟨fr,rfl,h3,h4,h5⟩;have xh:=bn (n:=128+(d.length:Int)) (k:=128+d.length) (by omega) (by omega);have D8:∀ K,jR Tryz.prog 3 5 (.c (.lit (.int .i64 ((128+d.length:Nat):Int)))) K=K (.c (bc (UInt8.ofNat (128+d.length)))):=λK=>HG mo pw rfl;have hwd:IntKind.i64.wrap ((d.length:Int) - 1)=(d.length:Int) - 1:=by rw[js];omega
 simp only[aeC,seval,aF,h4,h5,xh,D8,J2,hwd];refine bw (λj:Nat=>hdS [(3,.c (.lit (.int .u64 (m:Int)))),(4,.c (bc f)),(6,.ow EB (bC ((UInt8.ofNat (128+d.length) ^^^ f)::(d.map (· ^^^ f)).take j))),(7,i64 ((d.length:Int) - 1 - j))] []) (λj=>d.length - j) (λj=>j<=d.length) 0 (ar _) ?_ ?_
 .refine cm rfl (ar _) (by simp) (by simp[FL,ah,h3,h4];rfl) trivial
 rintro j hj R bL bO c8;simp only[pkA,seval];refine aD (λhp=>?_) (λhz=>?_)
 .have hp:j<d.length:=by have:=a8 hp;omega
  have LV:=bn (n:=8*((d.length:Int) - 1 - j)) (k:=8*(d.length - 1 - j)) (by omega) (by omega);have hw3:IntKind.i64.wrap ((d.length:Int) - 1 - j - 1)=(d.length:Int) - 1 - (j+1:Nat):=by rw[js];omega
  have hsh:=λK=>W6 (K:=K) (a:=m) (n:=8*(d.length - 1 - j)) (by omega);have hcw:∀ (n:Nat) K,jR Tryz.prog 75 5 (.c (.lit (.int .u64 (n:Int)))) K=K (.c (bc (UInt8.ofNat n))):=λn K=>HG PL pw rfl;have hpw:2 ^ (8*(d.length - 1 - j))=256 ^ (d.length - 1 - j):=Nat.pow_mul 2 8 _;have oa:=hdg (d.length - 1 - j) (by omega);rw[show d.length - 1 - (d.length - 1 - j)=j by omega] at oa;have aob:(d.map (· ^^^ f))[j]?=some (UInt8.ofNat (m / 256 ^ (d.length - 1 - j)) ^^^ f):=by rw[bj,oa];rfl
  simp only[aeC,seval,aF,JI,LV,hsh,hcw,hpw,J2];refine ap1 (Or.inr rfl) (by simp only[aC,aN];omega) ?_;simp only[pkA,seval,hw3];refine bL (j+1) _ hp (by omega) (cm rfl (ar _) (by simp) ?_ trivial);rw[nT aob];simp[FL,ah]
 .have hz:j=d.length:=by have:=bK hz;omega
  subst hz;simp only[pkA];refine bO _ _ ?_;rw[dY (by simp)];simp only[pkA,seval]
theorem P6 {n:Nat} (h:n<=9223372036854775807):I64 (n:Int):=by unfold I64;omega
set_option maxRecDepth 100000 in
theorem adi {l m:B} {K:V->Prop} (hl:l.length+m.length<=140737488355328) (hK:K (.ow EB (bC (l++m)))):dR Tryz.prog 27 (.ow EB (bC l)) (.c (.sl (bC m))) K:=by
 refine W7 (m:=m) kU rfl pw rfl rfl rfl (Or.inr rfl) hl ?_;cases m with
 |nil=>exact hK
 |cons x m=>exact hK
theorem P7 {f:Int->B}:∀ l:List Int,(∀ x,(f x).length<=9)->(l.map f).flatten.length<=9*l.length
 |[],_=>ab _
 |x::l,h=>by have:=P7 l h;have:=h x;simp only[bA,cF,ae,aC];omega
