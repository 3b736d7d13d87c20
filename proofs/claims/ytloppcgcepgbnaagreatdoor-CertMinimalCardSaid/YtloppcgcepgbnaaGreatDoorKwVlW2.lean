/- Layer 17, the specification: Next. -/
import Derived.Test.YtloppcgcepgbnaaGreatDoorVlRc
import Derived.Test.YtloppcgcepgbnaaGreatDoorVlTypes
import Derived.Test.YtloppcgcepgbnaaGreatDoorVlRunB
import Derived.Test.YtloppcgcepgbnaaGreatDoorVlFlb
import Derived.Test.YtloppcgcepgbnaaGreatDoorVlWord
import Derived.Eval
import Derived.KernelRfl
set_option linter.all false
namespace Go.Proofs.YtloppcgcepgbnaaGreatDoor
open Go Go.Vl
variable {G:Gl}
set_option maxRecDepth 4000
def aoQ (l out:List Fa) (c:Fa):List Fa:=if c∈l then out else sy out c
def afK (l out:List Fa) (x:In):List Fa:=if(x.pre.all fun f=>decide (f∈l))=true then x.con.foldl (aoQ l) out else out
end Go.Proofs.YtloppcgcepgbnaaGreatDoor
namespace Go.Proofs.YtloppcgcepgbnaaGreatDoor.Kw
open Go Go.Vl
theorem mixed:Tryz.prog.follows .mixedOrders=true:=Tryz.checked.mixed
abbrev i64 (n:Int):V:=.c (.lit (.int .i64 n))
abbrev u64 (n:Nat):V:=.c (.lit (.int .u64 (n:Int)))
abbrev bo (b:Bool):V:=.c (.lit (.bool b))
section
variable {K:V→Prop} {a b:W} {x y:UInt8}
end
theorem uu {l ds:List V} (h:l.length=ds.length):eS l 0 ds=ds:=by simp[eS,h]
theorem dlt {a b:Int} (h:decide (a<b)=true):a<b:=bn h
theorem dge {a b:Int} (h:decide (a<b)=false):¬ a<b:=cO h
variable {G:Gl}
def gl:Gl:=fun g=>match g with
 |0=>some (kW.map wc)
 |_=>none
section
variable {P:Program} {K:V→Prop} {a b c d:W} {nb q:Nat} {x y z u:C}
end
def z0:Str:=⟨List.replicate 8 0,List.replicate 64 0,0⟩
theorem me {f:List (Nat×Nat×Bool)} {z cs:List C} {p:List (Nat×V)} {K:V→Prop} {o:Option (List C)} (h:o=some cs) (hK:K (.agg cs)):sh f z p K o:=by subst h;exact hK
abbrev EB:Option (TypeId×Nat):=some (5,1)
set_option maxRecDepth 100000 in
theorem ap1 {E:Option (TypeId×Nat)} {l:B} {x:UInt8} {K:V→Prop} (h0:E=none∨E=EB) (hl:l.length+1≤140737488355328) (hK:K (.ow EB (bC (l++[x])))):eR Tryz.prog 27 (.ow E (bC l)) (.c (.sl [[bc x]])) K:=
 Xe (m:=[x]) kN rfl qP rfl rfl rfl h0 (by rw[bN];exact hl) (by rw[List.isEmpty_cons];exact hK)
theorem TE {m k:Nat} (hm:m<18446744073709551616) (h1:m<256 ^ k) (h2:k=0∨256 ^ (k - 1)≤m):(pa m).length=k:=by
 have a1:=acp hm
 rcases Nat.lt_trichotomy (pa m).length k with h | h | h
 ·exfalso
  have:256 ^ (pa m).length≤256 ^ (k - 1):=Nat.pow_le_pow_right (by decide) (by omega)
  omega
 ·exact h
 ·exfalso
  rcases kL m with h0 | h0
  ·subst h0;simp[SA] at h
  ·obtain⟨a2,a3⟩:=acq hm (by omega)
   have:256 ^ k≤256 ^ ((pa m).length - 1):=Nat.pow_le_pow_right (by decide) (by omega)
   omega
def af1:=jj @pkA @ptA
set_option maxRecDepth 100000 in
set_option maxHeartbeats 1500000 in
theorem Za (n:Int) (hn:I64 n):FnOK Tryz.prog G 40 [i64 n] (.ow EB (bC (Vl.encI n))):=by
 refine bR (rs:=[.tmp 2]) false [36,46] mixed Tryz.func40 rfl rfl rfl rfl (by kernel_rfl) (by simp) rfl rfl ?_
 have anD:=JQ hn
 have hI:-9223372036854775808≤n∧n≤9223372036854775807:=hn
 have hc:∀ K,iW Tryz.prog 3 75 (i64 n) K=K (.c (.lit (.int .u64 (IntKind.u64.wrap n)))):=fun K=>by
  simp only[iW,pe,Py]
 simp only[pkA,seval,aK,hc]
 have akn:∀ K,n<0→vun .xor (.c (.lit (.int .u64 (IntKind.u64.wrap n)))) K=K (.c (.lit (.int .u64 (jb n:Int)))):=fun K h=>by
  have e:IntKind.u64.wrap n=((18446744073709551615 - jb n:Nat):Int):=by
   have hm:(jb n:Int)=-1 - n:=by unfold jb;rw[if_pos h];omega
   rw[IntKind.wrap_u64];omega
  rw[e,afL (by omega),show 18446744073709551615 - (18446744073709551615 - jb n)=jb n by omega]
 refine yX (fun s'=>∃ fr,s'=⟨fr,fun _=>[],0⟩∧fr 0=i64 n∧fr 3=.c (.lit (.int .u64 (jb n:Int)))∧fr 4=.c (bc (mX n))) ?_ ?_
 case refine_2=>
  intro R hR _
  refine aS (fun h=>?_) (fun h=>?_)
  ·have h:n<0:=bn h
   simp only[pkA,seval,akn _ h]
   refine hR _ ⟨_,rfl,by simp[ao],by simp[ao],?_⟩
   unfold mX;rw[if_pos h];rfl
  ·have h:¬ n<0:=cO h
   have e:IntKind.u64.wrap n=(jb n:Int):=by unfold jb;rw[if_neg h,IntKind.wrap_u64];omega
   simp only[pkA]
   refine hR _ ⟨_,rfl,by simp[ao],by simp[ao,e],?_⟩
   unfold mX;rw[if_neg h];rfl
 rintro _ ⟨fr,rfl,h0,h3,h4⟩
 have hE:Vl.encI n=(UInt8.ofNat (128+(pa (jb n)).length) ^^^ mX n)::(pa (jb n)).map (· ^^^ mX n):=rfl
 rw[hE]
 have hdl:=xQ (jb n)
 have hdg:=fun i h=>W9 (m:=jb n) (i:=i) h
 have UA:=fun k=>TE (m:=jb n) (k:=k) (by omega)
 generalize pa (jb n)=d at *
 generalize jb n=m at *
 generalize mX n=f at *
 simp only[pkA,seval]
 refine SC 0 (fun s'=>∃ fr,s'=⟨fr,fun _=>[],0⟩∧fr 3=.c (.lit (.int .u64 (m:Int)))∧fr 4=.c (bc f)∧fr 5=i64 (d.length:Int)) ?_ ?_
 case refine_2=>
  intro R0 hR0 _
  refine cx (fun k:Nat=>hdS [(3,.c (.lit (.int .u64 (m:Int)))),(4,.c (bc f)),(5,i64 (k:Int))] []) (fun k=>k) (fun k=>k≤8∧m<256 ^ k) 8 ⟨ar _,by omega⟩ ?_ ?_
  ·refine cL rfl (au _) (by simp) (by simp[FL,ao,h3,h4]) trivial
  rintro k ⟨hk8,hk⟩ R cE cC dV
  simp only[pkA,seval]
  refine aS (fun hp=>?_) (fun hz=>?_)
  ·have hp:0<k:=by have:=bn hp;omega
   have Ae:=cd (n:=(k:Int) - 1) (k:=k - 1) (by omega) (by omega)
   have FG:=cd (n:=8*((k - 1:Nat):Int)) (k:=8*(k - 1)) (by omega) (by omega)
   have hsh:=fun K=>Xd (K:=K) (a:=m) (n:=8*(k - 1)) (by omega)
   have hpw:2 ^ (8*(k - 1))=256 ^ (k - 1):=Nat.pow_mul 2 8 (k - 1)
   simp only[pkA,seval,Jp,Ae,FG,hsh]
   have hd0:0<256 ^ (k - 1):=Nat.pow_pos (by decide)
   rw[hpw]
   refine aS (fun hy=>?_) (fun hn=>?_)
   ·have hy:0<m / 256 ^ (k - 1):=Int.ofNat_lt.1 (bn hy)
    have jA:256 ^ (k - 1)≤m:=by
     rcases bS m (256 ^ (k - 1)) with h | h
     ·rw[Nat.div_eq_of_lt h] at hy;omega
     ·exact h
    simp only[pkA,seval]
    refine cC _ _ (hR0 _ ⟨_,rfl,by simp[ao],by simp[ao],?_⟩)
    rw[UA k hk (Or.inr jA)];simp[ao]
   ·have hy:m / 256 ^ (k - 1)=0:=Nat.le_zero.1 (Int.ofNat_le.1 (Int.not_lt.1 (cO hn)))
    have bV:m<256 ^ (k - 1):=by
     rcases bS m (256 ^ (k - 1)) with h | h
     ·exact h
     ·have:=Nat.div_pos h hd0;omega
    simp only[pkA,seval,Ae]
    exact cE (k - 1) _ ⟨by omega,bV⟩ (by omega) (cL rfl (au _) (by simp) (by simp[FL,ao]) trivial)
  ·have hz:k=0:=by have:=cO hz;omega
   subst hz
   simp only[pkA]
   refine cC _ _ (hR0 _ ⟨_,rfl,by simp[ao],by simp[ao],?_⟩)
   rw[UA 0 hk (Or.inl rfl)];simp[ao]
 rintro _ ⟨fr,rfl,h3,h4,h5⟩
 have hw0:=cd (n:=128+(d.length:Int)) (k:=128+d.length) (by omega) (by omega)
 have Dp:∀ K,iW Tryz.prog 3 5 (.c (.lit (.int .i64 ((128+d.length:Nat):Int)))) K=K (.c (bc (UInt8.ofNat (128+d.length)))):=fun K=>Pn pe qP rfl
 have hwd:IntKind.i64.wrap ((d.length:Int) - 1)=(d.length:Int) - 1:=by rw[IntKind.wrap_i64];omega
 simp only[af1,seval,aK,h4,h5,hw0,Dp,JL,hwd]
 refine cx (fun j:Nat=>hdS [(3,.c (.lit (.int .u64 (m:Int)))),(4,.c (bc f)),(6,.ow EB (bC ((UInt8.ofNat (128+d.length) ^^^ f)::(d.map (· ^^^ f)).take j))),(7,i64 ((d.length:Int) - 1 - j))] []) (fun j=>d.length - j) (fun j=>j≤d.length) 0 (au _) ?_ ?_
 ·refine cL rfl (au _) (by simp) (by simp[FL,ao,h3,h4];rfl) trivial
 rintro j hj R cE cC dV
 simp only[pkA,seval]
 refine aS (fun hp=>?_) (fun hz=>?_)
 ·have hp:j<d.length:=by have:=bn hp;omega
  have FG:=cd (n:=8*((d.length:Int) - 1 - j)) (k:=8*(d.length - 1 - j)) (by omega) (by omega)
  have hw3:IntKind.i64.wrap ((d.length:Int) - 1 - j - 1)=(d.length:Int) - 1 - (j+1:Nat):=by rw[IntKind.wrap_i64];omega
  have hsh:=fun K=>Xd (K:=K) (a:=m) (n:=8*(d.length - 1 - j)) (by omega)
  have hcw:∀ (n:Nat) K,iW Tryz.prog 75 5 (.c (.lit (.int .u64 (n:Int)))) K=K (.c (bc (UInt8.ofNat n))):=fun n K=>Pn Py qP rfl
  have hpw:2 ^ (8*(d.length - 1 - j))=256 ^ (d.length - 1 - j):=Nat.pow_mul 2 8 _
  have qc:=hdg (d.length - 1 - j) (by omega)
  rw[show d.length - 1 - (d.length - 1 - j)=j by omega] at qc
  have aqh:(d.map (· ^^^ f))[j]?=some (UInt8.ofNat (m / 256 ^ (d.length - 1 - j)) ^^^ f):=by rw[ba,qc];rfl
  simp only[af1,seval,aK,Jp,FG,hsh,hcw,hpw,JL]
  refine ap1 (Or.inr rfl) (by simp only[aA,aG];omega) ?_
  simp only[pkA,seval,hw3]
  refine cE (j+1) _ hp (by omega) (cL rfl (au _) (by simp) ?_ trivial)
  rw[uZ aqh]
  simp[FL,ao]
 ·have hz:j=d.length:=by have:=cO hz;omega
  subst hz
  simp only[pkA]
  refine cC _ _ ?_
  rw[dW (by simp)]
  simp only[pkA,seval]
theorem aex {n:Nat} (h:n≤9223372036854775807):I64 (n:Int):=by unfold I64;omega
set_option maxRecDepth 100000 in
theorem aoR {l m:B} {K:V→Prop} (hl:l.length+m.length≤140737488355328) (hK:K (.ow EB (bC (l++m)))):eR Tryz.prog 27 (.ow EB (bC l)) (.c (.sl (bC m))) K:=by
 refine Xe (m:=m) kN rfl qP rfl rfl rfl (Or.inr rfl) hl ?_
 cases m with
 |nil=>exact hK
 |cons x m=>exact hK
theorem PU {f:Int→B}:∀ l:List Int,(∀ x,(f x).length≤9)→(l.map f).flatten.length≤9*l.length
 |[],_=>ar _
 |x::l,h=>by
  have:=PU l h
  have:=h x
  simp only[br,cu,aj,aA];omega
