/- Layer 17, the specification: Insert, Sorted, Bad; instances compared. -/
import Derived.Test.YtloppcgcepgbnaaGreatDoorVlR2
set_option maxHeartbeats 2000000
set_option linter.all false
namespace Go.Proofs.YtloppcgcepgbnaaGreatDoor
open Go Go.Vl
variable {G:Gl}
set_option maxRecDepth 4000
def ami (x:In):Prop:=x.pre.length≤1000000000∧x.con.length≤1000000000
section
variable {x:In} {nb q:Nat} {K:V→Prop}
theorem aoK:ldB nb q ((inC x).map .c) 0 K=(q<nb∧K (i64 x.rule)):=rfl
theorem aoL:ldB nb q ((inC x).map .c) 1 K=(q<nb∧K (.c (fsC x.pre))):=rfl
theorem aoM:ldB nb q ((inC x).map .c) 2 K=(q<nb∧K (.c (fsC x.con))):=rfl
theorem PI:bY ((inC x).map V.c)=false:=rfl
theorem Yz:ldA nb q ((inC x).map .c) 0 3 K=(q<nb∧K (.agg (inC x))):=by
 unfold ldA
 exact propext ⟨fun h=>⟨h.1,h.2.2⟩,fun h=>⟨h.1,⟨rfl,rfl⟩,h.2⟩⟩
end
def pkI:=jj @pkQ (jj @aoK (jj @aoL (jj @aoM (jj @PI @Yz))))
def wP (l:List Fa) (f:Fa):Nat:=l.findIdx fun y=>!ltF y f
def sy (l:List Fa) (f:Fa):List Fa:=if l[wP l f]?=some f then l else l.take (wP l f)++f::l.drop (wP l f)
theorem ad0 {l:List Fa} {f:Fa}:wP l f≤l.length:=List.findIdx_le_length
theorem ad1 {l:List Fa} {f:Fa} {i:Nat} (hi:i≤l.length) (h1:∀ j (h:j<l.length),j<i→ltF l[j] f=true) (h2:∀ h:i<l.length,ltF l[i] f=false):wP l f=i:=by
 unfold wP
 rcases bS i l.length with h | h
 ·rw[List.findIdx_eq h]
  exact⟨by simp[h2 h],fun j hj=>by simp[h1 j (by omega) hj]⟩
 ·have:i=l.length:=by omega
  subst this
  rw[List.findIdx_eq_length]
  intro x hx
  obtain⟨j,hj,rfl⟩:=gG hx
  simp[h1 j hj hj]
theorem YA {l:List Fa} {f:Fa}:(sy l f).length≤l.length+1:=by
 unfold sy
 split
 ·omega
 ·simp only[aj,aG,aA,b9];omega
theorem uk {P:Program} {T e:TypeId} {i j:TI} {es:List (List C)} {lo hi:Option V} {l h:Nat} {K:V→Prop} (hT:ti P T=some i) (hk:i.kd=.slice e) (hE:ti P e=some j) (h1:iQ 0 lo=some (l:Nat)) (h2:iQ es.length hi=some (h:Nat)) (hlh:l≤h) (hhe:h≤es.length) (hx:∀ x∈es,x.length=j.size)
 (hK:K (.c (.sl ((es.take h).drop l)))):jl P T (.c (.sl es)) lo hi none K:=by
 obtain⟨kd,a,b,c,d,f,g⟩:=i;simp only at hk;subst hk
 simp only[jl,hT,hE,h1,h2]
 exact⟨⟨by omega,by omega,by omega,hx⟩,hK⟩
def afS:=jj @pkA @ptA
def Ku:=jj @pkA (jj @ptA @pkQ)
theorem Tt (l:List Fa) (f:Fa) (hm:l.length≤1000000):FnOK Tryz.prog G 45 [.c (fsC l),.agg (faC f)] (.c (fsC (sy l f))):=by
 refine bR (rs:=[.tmp 4]) false [35,40,44] mixed Tryz.func45 rfl rfl rfl rfl (by kernel_rfl) (by simp) rfl rfl ?_
 simp only[pkA,seval,fsC]
 refine cx (fun i:Nat=>hdS [(0,.c (.sl (l.map faC))),(3,.bp 0 0),(5,i64 i)] [(faC f).map .c]) (fun i=>l.length - i) (fun i=>i≤l.length∧∀ j (h:j<l.length),j<i→ltF l[j] f=true) 0 ⟨au _,fun j h h'=>absurd h' (gQ _)⟩ ?_ ?_
 ·exact cL rfl (au _) (ar _) (by simp[FL,ao]) (by simp[BL])
 rintro i ⟨hi,fS⟩ R cE cC dV
 have aqL:∀ es:List (List C),(V.c (.sl es)).fz=.c (.sl es):=fun _=>rfl
 have tl:∀ m:List Fa,∀ x∈m.map faC,x.length=3:=fun m=>nR jQ m
 have post:(∀ h:i<l.length,ltF l[i] f=false)→∀ fr:Nat→V,fr 0=.c (.sl (l.map faC))→fr 3=.bp 0 0→fr 5=i64 i→R (.exit 0) ⟨fr,bxs [(faC f).map .c],1⟩:=fun h2 fr f0 f3 f5=>by
  have hp:=ad1 hi fS h2
  have new:l[i]?≠some f→sy l f=l.take i++f::l.drop i:=fun h=>by unfold sy;rw[hp,if_neg h]
  have ht:((l.map faC).take i).drop 0=(l.take i).map faC:=by rw[dE,j7]
  have hd:((l.map faC).take l.length).drop i=(l.drop i).map faC:=by rw[dW (by simp),List.map_drop]
  refine cC _ _ ?_
  simp only[afS,seval,ak,f0,f5]
  refine fA (fun bV=>?_) (fun jA=>?_)
  ·have bV:i<l.length:=by simpa using bV
   simp only[pkA,seval,f0,f5]
   refine fE eO rfl eV (by decide) (aJ i) (c:=faC l[i]) (by simp[bV]) rfl ?_
   simp only[Ku,seval,f3]
   refine aS (fun hy=>?_) (fun hn=>?_)
   ·have hy:l[i]=f:=by simpa using hy
    simp only[pkA,seval,f0]
    unfold sy
    rw[hp,if_pos (by rw[ab bV,hy])]
   ·have hn:¬ l[i]=f:=by simpa using hn
    rw[new (by rw[ab bV];simpa using hn)]
    simp only[pkA,seval,f0,f5]
    refine uk (l:=0) (h:=i) eO rfl eV rfl rfl (au _) (by simp;omega) (tl l) ?_
    rw[ht]
    simp only[pkA,seval,fh]
    refine J2 (l:=[]) (m:=l.take i) (by simp;omega) ?_
    rw[dP]
    simp only[Ku,seval,f3,fh,lj]
    refine EV (l:=l.take i) (x:=f) (by simp;omega) ?_
    simp only[pkA,seval,f0,f5,lj]
    refine uk (l:=i) (h:=l.length) eO rfl eV rfl (by rw[ak];rfl) hi (by simp) (tl l) ?_
    rw[hd]
    simp only[pkA,seval,fh]
    refine J2 (l:=l.take i++[f]) (m:=l.drop i) (by simp;omega) ?_
    simp only[pkA,seval,wL,lj]
    rw[bw];rfl
  ·have jA:¬ i<l.length:=by simpa using jA
   rw[new (by rw[bq (by omega)];simp)]
   simp only[pkA,seval,f0,f5]
   refine uk (l:=0) (h:=i) eO rfl eV rfl rfl (au _) (by simp;omega) (tl l) ?_
   rw[ht]
   simp only[pkA,seval,fh]
   refine J2 (l:=[]) (m:=l.take i) (by simp;omega) ?_
   rw[dP]
   simp only[Ku,seval,f3,fh,lj]
   refine EV (l:=l.take i) (x:=f) (by simp;omega) ?_
   simp only[pkA,seval,f0,f5,lj]
   refine uk (l:=i) (h:=l.length) eO rfl eV rfl (by rw[ak];rfl) hi (by simp) (tl l) ?_
   rw[hd]
   simp only[pkA,seval,fh]
   refine J2 (l:=l.take i++[f]) (m:=l.drop i) (by simp;omega) ?_
   simp only[pkA,seval,wL,lj]
   rw[bw];rfl
 simp only[afS,seval,ak]
 refine fA (fun bV=>?_) (fun jA=>?_)
 ·have bV:i<l.length:=by simpa using bV
  have hw:=cd (n:=(i:Int)+1) (k:=i+1) (by omega) (by omega)
  simp only[pkA,seval]
  refine fE eO rfl eV (by decide) (aJ i) (c:=faC l[i]) (by simp[bV]) rfl ?_
  simp only[Ku,seval]
  refine aN rfl (Ks l[i] f) (fun _=>rfl) ?_
  have yz:decide (wJ l[i] f<0)=ltF l[i] f:=mE _ _
  simp only[pkA,seval,yz]
  refine aS (fun hy=>?_) (fun hn=>?_)
  ·simp only[pkA,seval]
   refine cE (i+1) _ ⟨bV,fun j h hj=>?_⟩ (by omega) (cL rfl (au _) (ar _) (by simp[FL,ao,hw]) (by simp[BL,bxs]))
   rcases bS j i with h1 | h1
   ·exact fS j h h1
   ·have:j=i:=by omega
    subst this;exact hy
  ·simp only[pkA]
   exact post (fun _=>hn) _ rfl rfl rfl
 ·have jA:¬ i<l.length:=by simpa using jA
  simp only[pkA,seval]
  exact post (fun h=>absurd h jA) _ rfl rfl rfl
def nV (b:Bool) (l:List Fa):V:=if b then .ow none [] else .c (fsC l)
theorem amj {b:Bool} {l:List Fa} (h:b=true→l=[]):(nV b l).fz=.c (fsC l):=by
 cases b
 ·rfl
 ·rw[h rfl];rfl
theorem YC {b:Bool} {l:List Fa} {m:Nat}:(nV b l).ltB m=true:=by cases b<;>rfl
def yZ (l:List Fa):List Fa:=l.foldl sy []
theorem Tu {l:List Fa} {i:Nat} (h:i<l.length):yZ (l.take (i+1))=sy (yZ (l.take i)) l[i]:=by
 unfold yZ
 rw[bg h,jU];rfl
theorem YD (l:List Fa):(yZ l).length≤l.length:=by
 have:∀ (l m:List Fa),(l.foldl sy m).length≤l.length+m.length:=fun l=>by
  induction l with
  |nil=>intro m;simp
  |cons x l ih=>intro m;rw[dH,aA];have:=ih (sy m x);have:=@YA m x;omega
 have:=this l []
 simpa[yZ] using this
theorem N5 (l:List Fa) (hm:l.length≤1000000):FnOK Tryz.prog G 23 [.c (fsC l)] (.c (fsC (yZ l))):=by
 refine bR (rs:=[.tmp 2]) false [] mixed Tryz.func23 rfl rfl rfl rfl (by kernel_rfl) (by simp) rfl rfl ?_
 have hml:∀ K,fw Tryz.prog 28 (.c (fsC l)) K=K (i64 l.length):=fun K=>by unfold fsC;rw[Xk,ak]
 simp only[pkA,seval]
 refine cx (fun i:Nat=>hdS [(0,.c (fsC l)),(3,nV (decide (i=0)) (yZ (l.take i))),(4,i64 i)] []) (fun i=>l.length - i) (fun i=>i≤l.length) 0 (au _) ?_ ?_
 ·exact cL (by simp only[jq,bh,bG,YC];rfl) (au _) (ar _) (by simp[FL,ao,nV]) trivial
 rintro i hi R cE cC dV
 have hz:(nV (decide (i=0)) (yZ (l.take i))).fz=.c (fsC (yZ (l.take i))):=amj fun h=>by
  have:i=0:=by simpa using h
  subst this;rfl
 simp only[pkA,seval,hml]
 refine aS (fun bV=>?_) (fun jA=>?_)
 ·have bV:i<l.length:=by simpa using bV
  have hw:=cd (n:=(i:Int)+1) (k:=i+1) (by omega) (by omega)
  simp only[pkA,seval,hz]
  refine fE eO rfl eV (by decide) (aJ i) (c:=faC l[i]) (by simp[bV]) rfl ?_
  simp only[Ku,seval]
  have hl1:=YD (l.take i)
  rw[aG] at hl1
  refine aN rfl (Tt _ l[i] (by omega)) (fun h=>by cases h) ?_
  simp only[pkA,seval]
  refine cE (i+1) _ bV (by omega) (cL (by simp only[jq,bh,bG,YC];rfl) (au _) (ar _) ?_ trivial)
  simp[FL,ao,hw,nV,Tu bV]
 ·have:i=l.length:=by simp at jA;omega
  subst this
  simp only[pkA]
  refine cC _ _ ?_
  simp only[pkA,seval,hz]
  rw[cH]
def PK (p:Pol) (l:List Fa) (n:Nat):List Fa:=if uf p n 64=true then sy (sy l (qw ((n:Int)+1))) (Hh ((n:Int)+1)) else l
def Kv (p:Pol):Nat→List Fa
 |0=>[]
 |n+1=>PK p (Kv p n) n
section
variable {p:Pol} {es:List In} {nb q:Nat} {K:V→Prop}
