/- Layer 17, the specification: the rules 11 to 15. Printed by genr8.py. -/
import Derived.Test.YtloppcgcepgbnaaGreatDoorVlR9
import Derived.Test.YtloppcgcepgbnaaGreatDoorVlE0
import Derived.Test.YtloppcgcepgbnaaGreatDoorVlR2
set_option maxHeartbeats 2000000
set_option linter.all false
namespace Go.Proofs.YtloppcgcepgbnaaGreatDoor
open Go Go.Vl
variable {G:Gl}
set_option maxRecDepth 4000
def wQ (l:List Fa):List (List V):=[k9 faC l,[.mr 0]]
theorem ye {l:List Fa}:wQ l=[k9 faC l,[.mr 0]]:=rfl
theorem ad2 {l:List Fa} {f:Fa}:l0 [.bp 1 0,.agg (faC f)] (wQ l)=true:=by
 simp only[l0,wQ,bh,bG,ja,aA,aB];rfl
theorem ad3 {i:Nat}:bY [V.mr i]=false:=rfl
theorem gmr {nb q i:Nat} {K:V→Prop}:ldB nb q [.mr i] 0 K=(q<nb∧K (.mr i)):=rfl
def pkS:=jj @pkF (jj @ad3 (jj @gmr (jj @Yx @PH)))
theorem Hm {l:List Fa} {f:Fa} {s:Vl.S} {i:Nat} {K:V→Prop} (hb:s.bx i=k9 faC l) (hi:i<s.nb) (hK:K (bo (decide (f∈l)))):fF Tryz.prog 88 s (.mr i) (.agg (faC f)) false K:=
 Sl (l:=l) (bs:=List.range l.length) (cl:=l.length) PC rfl eV rfl rfl DX rfl alT (fun _=>rfl) Cd hb hi hK
theorem YF {l:List Fa} {f:Fa} {s:Vl.S} {i:Nat} {K:Vl.S→Prop} (hb:s.bx i=k9 faC l) (hi:i<s.nb) (hK:K { s with bx:=up s.bx i (k9 faC (o9 l f)) }):gV Tryz.prog 88 s (.mr i) (.agg (faC f)) (bo true) K:=
 W2 PC rfl eV rfl rfl DX rfl alT (fun _=>rfl) Cd hb hi hK
theorem YG {l:List Fa} {r:V} {t:Tmp} {e:VE} {fr:Nat→V} {bx:Nat→List V} {nb:Nat} (he:tR e=true) (hn:2≤nb) (h0:bx 0=k9 faC l) (h1:bx 1=[.mr 0]) (ht:fr t=r) (hr:r.ltB 2=true) (LU:r.fz=r):Ar Tryz.prog 2 r (wQ l) [.tmp t] e ⟨fr,bx,nb⟩:=
 pL [(t,r)] he (by simp only[jq,wQ,bh,bG,ja,hr,aA,aB];rfl) (ar _) hn ⟨ht,trivial⟩ ⟨h0,h1,trivial⟩ (by simp[hdS,frs,rm,up])
def YH:=jj @pkA (jj @ptA @pkS)
theorem ad4 (l:List Fa) (f:Fa):FnB Tryz.prog G 69 [.bp 1 0,.agg (faC f)] (wQ l) (bo (!decide (f∈l))) (wQ (o9 l f)):=by
 refine mc (rs:=[.tmp 4]) (k:=2) [3000002] mixed Tryz.func69 rfl rfl rfl rfl (by kernel_rfl) (by simp) rfl rfl rfl ad2 (ar _) ?_
 simp only[YH,seval,ye]
 refine Hm rfl (show 0<3 by decide) ?_
 simp only[YH,seval]
 refine YF rfl (show 0<3 by decide) ?_
 simp only[pkA,seval]
 exact YG rfl (show 2≤3 by decide) (by simp[]) (by simp[ao,bxs]) (by simp[]) rfl rfl
theorem YI {flds:List (Nat×Nat×Bool)} {z:List C} {parts:List (Nat×V)} {K:V→Prop} {o:Option (List C)} {l:List V} (h0:o=none) (h:iI flds parts (z.map .c)=some l) (hK:K (.mag l)):sh flds z parts K o:=by
 subst h0
 simp only[sh,h];exact hK
def mZ (l:List Fa):List Fa:=l.foldl o9 []
theorem EX {l:List Fa} {i:Nat} (h:i<l.length):mZ (l.take (i+1))=o9 (mZ (l.take i)) l[i]:=by
 unfold mZ
 rw[bg h,jU];rfl
theorem um {l:List Fa} {f:Fa}:f∈mZ l↔f∈l:=by
 have:∀ (l m:List Fa),f∈l.foldl o9 m↔f∈l∨f∈m:=fun l=>by
  induction l with
  |nil=>intro m;simp
  |cons x l ih=>intro m;rw[dH,ih,Jy,aQ];grind
 unfold mZ;rw[this];simp
def YJ:=jj @pkA @ptA
theorem ad5 (l:List Fa) (hm:l.length≤1000000000):FnB Tryz.prog G 50 [.c (fsC l)] [] (.bp 1 0) (wQ (mZ l)):=by
 refine mc (rs:=[.tmp 2]) (k:=0) [1000017] mixed Tryz.func50 rfl rfl rfl rfl (by kernel_rfl) (by simp) rfl rfl rfl rfl (au _) ?_
 simp only[YJ,seval,ye,fsC,Xx]
 refine YI (l:=[.mr 0]) rfl rfl ?_
 simp only[YJ,seval]
 have setren:∀ (ρ:Nat→Nat) (m:List Fa),(k9 faC m).map (V.ren ρ)=k9 faC m:=fun ρ m=>tX
 refine cx (fun i:Nat=>hdS [(3,.bp 1 0),(9,.c (.sl (l.map faC))),(10,i64 l.length),(11,i64 i)] (wQ (mZ (l.take i)))) (fun i=>l.length - i) (fun i=>i≤l.length) 0 (au _) ?_ ?_
 ·refine cL (by simp only[jq,wQ,bh,bG,ja,aA,aB];rfl) (au _) (ar _) ?_ (by simp[BL,ao,wQ,mZ,JD])
  simp[FL,ao]
 rintro i hi R cE cC dV
 simp only[pkA,seval,ye]
 refine aS (fun bV=>?_) (fun jA=>?_)
 ·have bV:i<l.length:=by simpa using bV
  have hw:=cd (n:=(i:Int)+1) (k:=i+1) (by omega) (by omega)
  have e1:((i+1:Nat):Int)=(i:Int)+1:=by omega
  simp only[pkA,seval]
  refine fE eO rfl eV (by decide) (aJ i) (c:=faC l[i]) (by simp[bV]) rfl ?_
  simp only[YH,seval]
  have q1:∀ a b c:V,eS [a,b,c] 0 ((faC l[i]).map .c)=(faC l[i]).map .c:=fun _ _ _=>rfl
  simp only[pkA,pkS,seval,q1]
  refine ko [0,1] rfl (ad4 (mZ (l.take i)) l[i]) (by simp[V.fz,V.ren,rho]) rfl (by decide) rfl ⟨⟨show 0<3 by decide,by simp[ao,bxs,setren,rho]⟩,⟨show 1<3 by decide,by simp[ao,bxs,rho,V.ren]⟩,trivial⟩ ?_
  intro bx' iH qc
  have b0:bx' 0=k9 faC (mZ (l.take (i+1))):=by rw[EX bV,← setren];exact qc 0 0 _ rfl rfl
  have b1:bx' 1=[.mr 0]:=qc 1 1 _ rfl rfl
  simp only[pkA,seval,hw]
  refine cE (i+1) _ bV (by omega) (cL (by simp only[jq,wQ,bh,bG,ja,aA,aB];rfl) (au _) (show 2≤3 by decide) ?_ ⟨b0,b1,trivial⟩)
  simp[FL,ao,e1]
 ·have:i=l.length:=by simp at jA;omega
  subst this
  simp only[pkA]
  refine cC _ _ ?_
  simp only[pkA,seval]
  rw[cH]
  exact pL [(2,.bp 1 0)] rfl (by simp only[jq,bh,bG,ja,aA,aB];rfl) (au _) (ar _) ⟨by simp[],trivial⟩ ⟨rfl,rfl,trivial⟩ rfl
def yf (l:List Fa):List (List V):=[k9 faC l,[.mr 0],[.bp 1 0]]
theorem va {l:List Fa}:yf l=[k9 faC l,[.mr 0],[.bp 1 0]]:=rfl
theorem ad6 {i o:Nat}:bY [V.bp i o]=false:=rfl
theorem gbp {nb q i o:Nat} {K:V→Prop}:ldB nb q [.bp i o] 0 K=(q<nb∧K (.bp i o)):=rfl
def amk:=jj @pkS (jj @ad6 @gbp)
theorem AZ {l:List Fa} {r:V} {t:Tmp} {e:VE} {fr:Nat→V} {bx:Nat→List V} {nb:Nat} (he:tR e=true) (hn:3≤nb) (h0:bx 0=k9 faC l) (h1:bx 1=[.mr 0]) (h2:bx 2=[.bp 1 0]) (ht:fr t=r) (hr:r.ltB 3=true) (LU:r.fz=r):Ar Tryz.prog 3 r (yf l) [.tmp t] e ⟨fr,bx,nb⟩:=
 pL [(t,r)] he (by simp only[jq,yf,bh,bG,ja,hr,aA,aB];rfl) (ar _) hn ⟨ht,trivial⟩ ⟨h0,h1,h2,trivial⟩ (by simp[hdS,frs,rm,up])
theorem Hn {l:List Fa} {xs:List V} (h:xs.all (fun x=>x.ltB 3)=true):l0 xs (yf l)=true:=by
 simp only[l0,yf,bh,bG,ja,aA,aB,h];rfl
def afT:=jj @pkA (jj @ptA @amk)
theorem YK (l:List Fa) (f:Fa):FnB Tryz.prog G 73 [.agg (faC f),.bp 2 0] (yf l) (bo (!decide (f∈l))) (yf l):=by
 refine mc (rs:=[.tmp 3]) (k:=3) [3000003] mixed Tryz.func73 rfl rfl rfl rfl (by kernel_rfl) (by simp) rfl rfl rfl (Hn rfl) (ar _) ?_
 simp only[afT,seval,va]
 refine Hm rfl (show 0<4 by decide) ?_
 simp only[pkA,seval]
 exact AZ rfl (show 3≤4 by decide) rfl rfl rfl (by simp[]) rfl rfl
theorem Kx (l fs:List Fa) (hm:fs.length≤1000000000):FnB Tryz.prog G 108 [.c (fsC fs),.clo (.func 73) [] [.bp 2 0]] (yf l) (i64 (qn (fun f=>!decide (f∈l)) fs)) (yf l):=by
 refine mc (rs:=[.tmp 4]) (k:=3) [1000016,3000003] mixed Tryz.func108 rfl rfl rfl rfl (by kernel_rfl) (by simp) rfl rfl rfl (Hn rfl) (ar _) ?_
 have setren:∀ (ρ:Nat→Nat) (m:List Fa),(k9 faC m).map (V.ren ρ)=k9 faC m:=fun ρ m=>tX
 simp only[YJ,seval,va,fsC]
 refine cx (fun i:Nat=>hdS [(0,.c (.sl (fs.map faC))),(1,.clo (.func 73) [] [.bp 2 0]),(7,i64 fs.length),(8,i64 i)] (yf l)) (fun i=>fs.length - i) (fun i=>i≤fs.length∧∀ j (h:j<fs.length),j<i→(!decide (fs[j]∈l))=false) 0 ⟨au _,fun j h h'=>absurd h' (gQ _)⟩ ?_ ?_
 ·refine cL (by simp only[jq,yf,bh,bG,ja,aA,aB];rfl) (ar _) (ar _) ?_ ⟨rfl,rfl,rfl,trivial⟩
  simp[FL,ao]
 rintro i ⟨hi,fS⟩ R cE cC dV
 simp only[pkA,seval,va]
 refine aS (fun bV=>?_) (fun jA=>?_)
 ·have bV:i<fs.length:=by simpa using bV
  simp only[pkA,seval]
  refine fE eO rfl eV (by decide) (aJ i) (c:=faC fs[i]) (by simp[bV]) rfl ?_
  simp only[afT,seval]
  refine uV rfl (YK l fs[i]) rfl rfl ⟨rfl,rfl,rfl,trivial⟩ ?_
  simp only[pkA,seval,va]
  refine aS (fun hy=>?_) (fun hn=>?_)
  ·simp only[pkA,seval]
   refine dV _ ?_
   simp only[pkA]
   rw[og bV hy fS]
   exact AZ rfl (ar _) rfl rfl rfl (by simp[]) rfl rfl
  ·have hw:=cd (n:=(i:Int)+1) (k:=i+1) (by omega) (by omega)
   simp only[pkA,seval]
   refine cE (i+1) _ ⟨bV,fun j h hj=>?_⟩ (by omega) (cL (by simp only[jq,yf,bh,bG,ja,aA,aB];rfl) (ar _) (ar _) ?_ ⟨rfl,rfl,rfl,trivial⟩)
   ·rcases bS j i with h1 | h1
    ·exact fS j h h1
    ·have:j=i:=by omega
     subst this;exact hn
   ·simp[FL,ao,hw]
 ·have:i=fs.length:=by simp at jA;omega
  subst this
  simp only[pkA]
  refine cC _ _ ?_
  simp only[pkA,seval]
  rw[lz (fun j h _=>fS j h h)]
  exact AZ rfl (ar _) rfl rfl rfl (by simp[]) rfl rfl
theorem CB (l fs:List Fa) (hm:fs.length≤1000000000):FnB Tryz.prog G 72 [.c (fsC fs),.clo (.func 73) [] [.bp 2 0]] (yf l) (bo (fs.any fun f=>!decide (f∈l))) (yf l):=by
 refine mc (rs:=[.tmp 4]) (k:=3) [1000007,3000003] mixed Tryz.func72 rfl rfl rfl rfl (by kernel_rfl) (by simp) rfl rfl rfl (Hn rfl) (ar _) ?_
 simp only[pkA,seval,va]
 refine uV rfl (Kx l fs hm) rfl rfl ⟨rfl,rfl,rfl,trivial⟩ ?_
 simp only[pkA,seval,va]
 rw[jP]
 exact AZ rfl (ar _) rfl rfl rfl (by simp[]) rfl rfl
theorem Tv (l fs:List Fa) (hm:fs.length≤1000000000):FnB Tryz.prog G 52 [.bp 1 0,.c (fsC fs)] (wQ l) (bo (fs.all fun f=>decide (f∈l))) (wQ l):=by
 refine mc (rs:=[.tmp 4]) (k:=2) [1000007,3000002] mixed Tryz.func52 rfl rfl rfl rfl (by kernel_rfl) (by simp) rfl rfl rfl (by simp only[l0,wQ,bh,bG,ja,aA,aB];rfl) (ar _) ?_
 simp only[pkA,seval,ye]
 refine uV rfl (CB l fs hm) rfl rfl ⟨rfl,rfl,rfl,trivial⟩ ?_
 simp only[pkA,seval]
 refine YG rfl (show 2≤3 by decide) rfl rfl ?_ rfl rfl
 simp[List.all_eq_not_any_not]
