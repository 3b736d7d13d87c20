/- Layer 17, the specification: Sorted, Bad. -/
import Derived.Test.YtjfjdomfldolcaaGreatVlR3
set_option maxHeartbeats 2000000
set_option linter.all false
namespace Go.Proofs.YtjfjdomfldolcaaGreat
open Go Go.Vl
variable {G:Gl}
set_option maxRecDepth 4000
def nV (b:Bool) (l:List Fa):V:=if b then .ow none [] else .c (fsC l)
theorem aiE {b:Bool} {l:List Fa} (h:b=true→l=[]):(nV b l).fz=.c (fsC l):=by
 cases b
 ·rfl
 ·rw[h rfl];rfl
theorem LN {b:Bool} {l:List Fa} {m:Nat}:(nV b l).ltB m=true:=by cases b<;>rfl
def IQ (p:Pol) (l:List Fa) (n:Nat):List Fa:=if pT p n 64=true then wQ (wQ l (fC ((n:Int)+1))) (pR ((n:Int)+1)) else l
def mw (p:Pol):Nat→List Fa
 |0=>[]
 |n+1=>IQ p (mw p n) n
theorem El (p:Pol):∀ n,(mw p n).length≤2*n
 |0=>ab _
 |n+1=>by
  have:=El p n
  simp only[mw,IQ]
  split
  ·have h1:=@B7 (wQ (mw p n) (fC ((n:Int)+1))) (pR ((n:Int)+1))
   have h2:=@B7 (mw p n) (fC ((n:Int)+1))
   omega
  ·omega
def abA:=jj @pkA (jj @ptA @pkQ)
theorem aad (p:Pol) (hm:p.types.length≤100000):FnOK Tryz.prog G 40 [.agg (poC p)] (.c (fsC (mw p p.types.length))):=by
 refine cL (rs:=[.tmp 2]) false [] mixed Tryz.func40 rfl rfl rfl rfl (by kernel_rfl) (by simp) rfl rfl ?_
 simp only[pkA,seval]
 refine bE (fun x:Nat×Bool=>hdS [(1,.bp 0 0),(3,nV x.2 (mw p x.1)),(4,i64 x.1)] [(poC p).map .c]) (fun x=>p.types.length - x.1) (fun x=>x.1≤p.types.length∧(x.2=true→mw p x.1=[])) (0,true) ⟨ar _,fun _=>rfl⟩ ?_ ?_
 ·exact cD (by simp only[kR,bR,cz,LN];rfl) (ar _) (ab _) (by simp[FL,ak,nV]) (by simp[BL])
 rintro⟨i,b⟩ ⟨hi,hb⟩ R cj cJ eP
 simp only at hi hb
 have hz:=aiE hb
 have WC:=El p i
 simp only[abA,seval]
 refine aT (fun bK=>?_) (fun gr=>?_)
 ·have bK:i<p.types.length:=by simpa using bK
  have hw:=bG (n:=(i:Int)+1) (k:=i+1) (by omega) (by omega)
  have e1:((i+1:Nat):Int)=(i:Int)+1:=by omega
  simp only[abA,seval]
  refine aB rfl (Nk p i 64 (by unfold I64;omega) (by omega)) (fun _=>rfl) ?_
  simp only[pkA,seval]
  refine aT (fun hy=>?_) (fun hn=>?_)
  ·simp only[pkA,seval,hz,hw]
   refine aB rfl (gq ((i+1:Nat):Int)) (fun _=>rfl) ?_
   simp only[pkA,seval]
   refine aB rfl (Ek _ _ (by omega)) (fun h=>by cases h) ?_
   simp only[pkA,seval,hw]
   refine aB rfl (iZ ((i+1:Nat):Int)) (fun _=>rfl) ?_
   simp only[pkA,seval]
   refine aB rfl (Ek _ _ (by have:=@B7 (mw p i) (fC ((i+1:Nat):Int));omega)) (fun h=>by cases h) ?_
   simp only[pkA,seval,hw]
   refine cj (i+1,false) _ ⟨bK,fun h=>by cases h⟩ (by simp only;omega) (cD (by simp only[kR,bR,cz,LN];rfl) (ar _) (ab _) ?_ (by simp[BL,bxs]))
   have hr:mw p (i+1)=wQ (wQ (mw p i) (fC ((i:Int)+1))) (pR ((i:Int)+1)):=by simp only[mw,IQ,hy,db]
   simp[FL,ak,hr,e1,nV]
  ·simp only[pkA,seval,hw]
   have hr:mw p (i+1)=mw p i:=by simp only[mw,IQ,hn];simp
   refine cj (i+1,b) _ ⟨bK,fun h=>by simp only[hr];exact hb h⟩ (by simp only;omega) (cD (by simp only[kR,bR,cz,LN];rfl) (ar _) (ab _) ?_ (by simp[BL,bxs]))
   simp[FL,ak,hr,e1]
 ·have:i=p.types.length:=by simp at gr;omega
  subst this
  simp only[pkA]
  refine cJ _ _ ?_
  simp only[pkA,seval,hz]
def owI (l:List In):V:=.ow (if l.isEmpty then none else some (41,3)) (l.map inC)
theorem Nn {l:List In} {x:In} {K:V→Prop} (h:l.length+1≤1000000000) (hK:K (owI (l++[x]))):dN Tryz.prog 44 (owI l) (.c (.sl [inC x])) K:=by
 unfold owI
 rw[aex]
 refine⟨⟨by cases l<;>simp,lz AQ _⟩,⟨by simp only[au,bF];omega,by simp only[au,bF];omega,by simp[inC]⟩,?_⟩
 have e:(if[inC x].isEmpty=true then(if l.isEmpty=true then none else some (41,3)) else some (41,3))=if(l++[x]).isEmpty=true then none else some (41,3):=by
  cases l<;>simp
 have e2:l.map inC++[inC x]=(l++[x]).map inC:=by simp
 rw[e,e2];exact hK
def owN (l:List Nat):V:=.ow (if l.isEmpty then none else some (3,1)) (l.map fun(t:Nat)=>[cI t])
theorem afj {l:List Nat}:(owN l).fz=.c (.sl (l.map fun(t:Nat)=>[cI t])):=rfl
theorem afk {l:List Nat}:(owN l).isOw=true:=rfl
theorem aiF {l:List Nat} {x:Nat} {K:V→Prop} (h:l.length+1≤1000000000) (hK:K (owN (l++[x]))):dN Tryz.prog 86 (owN l) (.c (.sl [[cI x]])) K:=by
 unfold owN
 rw[aeA]
 refine⟨⟨by cases l<;>simp,fun e he=>by obtain⟨x,_,rfl⟩:=bj.1 he;rfl⟩,⟨by simp only[au,bF];omega,by simp only[au,bF];omega,by simp⟩,?_⟩
 have e:(if[[cI (x:Int)]].isEmpty=true then(if l.isEmpty=true then none else some (3,1)) else some (3,1))=if(l++[x]).isEmpty=true then none else some (3,1):=by
  cases l<;>simp
 have e2:(l.map fun(t:Nat)=>[cI t])++[[cI (x:Int)]]=(l++[x]).map fun(t:Nat)=>[cI t]:=by simp
 rw[e,e2];exact hK
def lbx (p:Pol) (es:List In):List V:=[.c (cS p.name),.c (.sl (p.types.map tyC)),.c (.sl (p.rules.map ruC)),.c (.sl (p.quorums.map quC)),i64 p.types.length,owI es]
section
variable {p:Pol} {es:List In} {nb q:Nat} {K:V→Prop}
theorem aiG:ldA nb q (lbx p es) 0 4 K=(q<nb∧K (.agg (poC p))):=by
 unfold ldA
 exact propext ⟨fun h=>⟨h.1,h.2.2⟩,fun h=>⟨h.1,⟨rfl,rfl⟩,h.2⟩⟩
theorem aiH:ldB nb q (lbx p es) 2 K=(q<nb∧K (.c (.sl (p.rules.map ruC)))):=rfl
theorem aiI:ldB nb q (lbx p es) 4 K=(q<nb∧K (i64 p.types.length)):=rfl
theorem afl:cy (lbx p es)=false:=rfl
theorem AZ {m:Nat}:(lbx p es).all (fun x=>x.ltB m)=true:=rfl
end
def afm:=jj @pkI (jj @aiG (jj @aiH (jj @aiI (jj @afl (jj @afj @afk)))))
theorem wR {p:Pol} {es:List In} {xs:List V} (h:xs.all (fun x=>x.ltB 1)=true):nO xs [lbx p es]=true:=by
 simp only[nO,bR,cz,AZ,aZ,aU,h];rfl
theorem le1 {p:Pol} {es:List In} {k nb:Nat} {fl:List (Nat×V)} {fr:Nat→V} {bx:Nat→List V} (eH:fl.all (fun p=>p.2.ltB 1)=true) (hk:k≤1) (hn:1≤nb) (h:FL fl fr) (h0:bx 0=lbx p es):S.Le k (hdS fl [lbx p es]) ⟨fr,bx,nb⟩:=
 cD (by simp only[kR,bR,cz,AZ,aZ,aU,eH];rfl) hk hn h ⟨h0,trivial⟩
theorem aiJ {p:Pol} {es:List In} {r:V} {t:Tmp} {e:VE} {fr:Nat→V} {bx:Nat→List V} {nb:Nat} (he:ux e=true) (hn:1≤nb) (h0:bx 0=lbx p es) (ht:fr t=r) (hr:r.ltB 1=true):Ap Tryz.prog 1 r [lbx p es] [.tmp t] e ⟨fr,bx,nb⟩:=
 tJ [(t,r)] he (by simp only[kR,bR,cz,AZ,hr,aZ,aU];rfl) (ab _) hn ⟨ht,trivial⟩ ⟨h0,trivial⟩ (by simp[hdS,frs,uw,up])
theorem B8 {p:Pol} {es:List In} {e:VE} {fr:Nat→V} {bx:Nat→List V} {nb:Nat} (he:ux e=true) (hn:1≤nb) (h0:bx 0=lbx p es):Ap Tryz.prog 1 (.tup []) [lbx p es] [] e ⟨fr,bx,nb⟩:=
 tJ [] he (by simp only[kR,bR,cz,AZ,aZ,aU];rfl) (ab _) hn trivial ⟨h0,trivial⟩ pw
def fgN (p:Pol) (flag:Int) (n:Nat):List Nat:=(List.range n).filter fun t=>pT p t flag
theorem IR {p:Pol} {flag:Int} {n:Nat}:fgN p flag (n+1)=if pT p n flag=true then fgN p flag n++[n] else fgN p flag n:=by
 unfold fgN
 rw[List.range_succ,fG]
 by_cases h:pT p n flag=true<;>simp[h]
theorem vt {p:Pol} {flag:Int} {n:Nat}:(fgN p flag n).length≤n:=by
 unfold fgN
 exact bN (ck _ _) (by simp)
def U1:=jj @pkA (jj @ptA @afm)
def abB:=jj @pkA @afm
theorem IS (p:Pol) (es:List In) (flag:Int) (hf:I64 flag) (hm:p.types.length≤1000000) :
 FnB Tryz.prog G 61 [.bp 0 0,i64 flag] [lbx p es] (.c (.sl ((fgN p flag p.types.length).map fun(t:Nat)=>[cI t]))) [lbx p es]:=by
 refine lW (rs:=[.tmp 4]) (k:=1) [24,3000001] mixed Tryz.func61 rfl rfl rfl rfl (by kernel_rfl) (by simp) rfl rfl rfl (wR rfl) (ab _) ?_
 simp only[pkA,seval]
 refine bE (fun i:Nat=>hdS [(0,.bp 0 0),(1,i64 flag),(5,owN (fgN p flag i)),(6,i64 i)] [lbx p es]) (fun i=>p.types.length - i) (fun i=>i≤p.types.length) 0 (ar _) ?_ ?_
 ·exact le1 rfl (ab _) (ab _) (by simp[FL,ak,fgN,owN]) rfl
 rintro i hi R cj cJ eP
 simp only[U1,seval]
 refine aT (fun bK=>?_) (fun gr=>?_)
 ·have bK:i<p.types.length:=by simpa using bK
  have hw:=bG (n:=(i:Int)+1) (k:=i+1) (by omega) (by omega)
  have hl:=@vt p flag i
  simp only[U1,seval]
  refine aB rfl (Nk p i flag hf (by omega)) (fun _=>rfl) ?_
  simp only[pkA,seval]
  refine aT (fun hy=>?_) (fun hn=>?_)
  ·simp only[U1,seval,cG]
   refine aiF (l:=fgN p flag i) (x:=i) (by omega) ?_
   simp only[abB,seval,hw]
   exact cj (i+1) _ bK (by omega) (le1 rfl (ab _) (ab _) (by simp[FL,ak,IR,hy]) rfl)
  ·simp only[pkA,seval,hw]
   exact cj (i+1) _ bK (by omega) (le1 rfl (ab _) (ab _) (by simp[FL,ak,IR,hn]) rfl)
 ·have:i=p.types.length:=by simp at gr;omega
  subst this
  simp only[pkA]
  refine cJ _ _ ?_
  simp only[abB,seval]
  exact aiJ rfl (ab _) rfl (by simp[]) rfl
