/- Layer 16: the law that runs go in steps. -/
import Derived.Test.YtegbpjodbjhjeaaGreatDoorVlS2
set_option linter.all false
namespace Go.Proofs.YtegbpjodbjhjeaaGreatDoor
open Go Go.Vl
open Kp (Pol poC)
set_option maxRecDepth 10000
theorem YJ {P:Program} {T e:TypeId} {i j:TI} {es:List (List C)} {lo hi:Option V} {l h:Nat} {K:V→Prop} (hT:ti P T=some i) (hk:i.kd=.slice e) (hE:ti P e=some j) (h1:fO 0 lo=some (l:Nat)) (h2:fO es.length hi=some (h:Nat)) (hlh:l≤h) (hhe:h≤es.length) (hx:∀ x∈es,x.length=j.size)
 (hK:K (.c (.sl ((es.take h).drop l)))):fP P T (.c (.sl es)) lo hi none K:=by
 obtain⟨kd,a,b,c,d,f,g⟩:=i;simp only at hk;subst hk
 simp only[fP,hT,hE,h1,h2]
 exact⟨⟨by omega,by omega,by omega,hx⟩,hK⟩
theorem UC {l:List Cl} {n:Nat} (h:∀ c:Cl,(clC c).length=n):∀ x∈l.map clC,x.length=n:=fun x hx=>by
 obtain⟨c,_,rfl⟩:=bF.1 hx;exact h c
def P2:=jj @pkA (jj @ptA @Kp.pkP)
def HW:=jj @pkA (jj @ptA (jj @pkS @D3))
def Vq:=jj @pkA (jj @ptA (jj @D3 @Kp.pkP))
def P3:=jj @pkA (jj @ptA @D3)
set_option maxHeartbeats 4000000 in
theorem KG (p:Pol) (l:List Cl) (hP:Kp.PolIn p):FnOK Tryz.prog glM 8 [.agg (poC p),.c (qh l)] (bo true):=by
 have hz:eF [V.ow none [],.ow none [],.ow none [],.ow none [],i64 0] 0 [V.c (.sl []),.c (.sl []),.c (.sl []),.c (.sl []),i64 0]=(syC sy0).map .c:=rfl
 have few:=YE (G:=glM) p l
 have san:=KF
 refine bP (rs:=[.tmp 4]) false [] mixed Tryz.func8 rfl rfl rfl rfl (by kernel_rfl) (by simp) rfl rfl ?_
 simp only[P2,seval,qh]
 refine aD rfl few (by first | exact(fun h=>by cases h) | exact fun _=>rfl) ?_
 simp only[pkA,seval]
 cases hf:Go.Proofs.YtegbpjodbjhjeaaGreatDoor.few p l.length with
 |false=>
  simp only[pkA,seval]
  refine aD rfl san (by first | exact(fun h=>by cases h) | exact fun _=>rfl) ?_
  simp only[pkA,seval]
 |true=>
  obtain⟨hp,hl⟩:=UB hP hf
  have hR:=PP hp l (by omega)
  have hok:=Bo hp.t l sy0 0 Uk
  obtain⟨h1,h2,h3,h4⟩:=zo (p:=p) l sy0
  generalize hrr:ji p sy0 0 l=rr at *
  obtain⟨s,n,e⟩:=rr
  simp only at hR hok h1 h2 h3 h4
  simp only[P2,seval]
  have q1:decide ((n:Int)<0)=false:=en (by omega)
  have q2:decide ((l.length:Int)<n)=false:=en (by omega)
  have q3:decide (e=0)=decide ((n:Int)=l.length):=by rw[ib,h2];omega
  refine aD rfl hR (by first | exact(fun h=>by cases h) | exact fun _=>rfl) ?_
  simp only[HW,seval]
  simp only[q1,q2,q3,P2,seval,hz,ap,beq_self_eq_true,ai]
  refine YJ uK rfl ko (l:=0) (h:=n) rfl rfl (aA _) (by simpa using h1) (UC sV) ?_
  rw[ei,← List.map_take]
  have hml:(l.take n).length=n:=by simp;omega
  generalize hm:l.take n=m at *
  simp only[pkA,ptA,seval,ap]
  refine cZ (fun x:Nat×Sy=>hdS [(1,.c (qh l)),(2,.bp 0 0),(5,.bp 1 0),(6,i64 n),(7,i64 e),(8,.bp 2 0),(47,.c (qh m)),(48,i64 m.length),(49,i64 x.1)] [(poC p).map .c,(syC s).map .c,(syC x.2).map .c]) (fun x=>n - x.1)
   (fun x=>x.1≤n∧SyOk x.2∧pn p x.2 (m.drop x.1)=some s) (0,sy0) ⟨aA _,Uk,h3⟩ ?_ ?_
  ·refine cR rfl (aA _) (by simp) ?_ ?_
   ·simp[FL,ar,qh]
   ·simp[BL,ar]
  rintro⟨i,t⟩ ⟨hi,hT,hrun⟩ R hnorm hexit hret
  simp only at hi hT hrun
  simp only[pkA,seval,qh]
  refine aZ (fun hlt=>?_) (fun hge=>?_)
  ·have hlt:i<m.length:=by simpa using hlt
   rw[cm hlt] at hrun
   simp only[pkA,seval]
   refine dL uK rfl ko (by decide) (aM i) (c:=clC m[i]) (by simp[hlt]) (sV _) ?_
   simp only[Vq,seval,PM]
   refine aD («as»:=[.agg (poC p),.agg (syC t),.agg (clC m[i])]) rfl (pj (c:=m[i]) hp hT) (fun h=>(by cases h)) ?_
   simp only[HW,seval]
   cases hD:bG p t m[i] with
   |error e=>simp only[pn,hD] at hrun;cases hrun
   |ok t'=>
    simp only[pn,hD] at hrun
    simp only[HW,seval,stR,ai,PL]
    have hw:=wrap_i64 (i+1) (by omega)
    refine hnorm (i+1,t') _ ⟨by omega,sX hT hp.t hD,hrun⟩ (by simp only;omega) (cR rfl (aA _) (by simp) ?_ ?_)
    ·simp[FL,ar,qh,hw]
    ·simp[BL,ar,bxs]
  ·have:i=m.length:=by simp at hge;omega
   subst this
   rw[ic] at hrun
   simp only[pn,am] at hrun
   subst hrun
   simp only[pkA]
   refine hexit _ _ ?_
   simp only[pkA,seval]
   have sm:=KD (G:=glM) hok.b hok.b
   rw[eI rfl] at sm
   refine aZ (fun hne=>?_) (fun heq=>?_)
   ·have hne:e≠0:=by simpa using hne
    obtain⟨c,p1,p2⟩:=h4 hne
    have st:=pj (c:=c) hp hok
    rw[p2] at st
    simp only[stR] at st
    simp only[Vq,seval]
    refine dL uK rfl ko (by decide) (aM n) (c:=clC c) (by simp[p1]) (sV _) ?_
    simp only[P3,seval]
    refine aD («as»:=[.agg (poC p),.agg (syC t),.agg (clC c)]) rfl st (fun h=>(by cases h)) ?_
    simp only[HW,seval]
    simp only[pkA,seval,ai]
    refine aD rfl san (by first | exact(fun h=>by cases h) | exact fun _=>rfl) ?_
    simp only[P3,seval]
    refine aD («as»:=[.agg (syC t),.agg (syC t)]) rfl sm (by first | exact(fun h=>by cases h) | exact fun _=>rfl) ?_
    simp only[pkA,seval]
   ·have heq:e=0:=by simpa using heq
    simp only[pkA,seval]
    refine aD rfl san (by first | exact(fun h=>by cases h) | exact fun _=>rfl) ?_
    simp only[P3,seval]
    refine aD («as»:=[.agg (syC t),.agg (syC t)]) rfl sm (by first | exact(fun h=>by cases h) | exact fun _=>rfl) ?_
    simp only[pkA,seval]
open Kp (Pol Ty poC tyC)
def noT (t:Ty):Ty:={ t with flags:=abB t.flags }
def p0 (p:Pol):Pol:={ p with rules:=[] }
def b0 (p:Pol):List V:=((poC (p0 p)).map V.c).set 2 (.ow none [])
section
variable {nb q:Nat} {K:V→Prop} {p:Pol}
end
def b1 (p:Pol):List V:=eF (b0 p) 1 [V.c (C.sl (List.map tyC (List.map noT p.types)))]
section
variable {nb q:Nat} {K:V→Prop} {p:Pol}
end
section
