/- Layer 15: the specification's Put, built. -/
import Derived.Test.YtegbpjodbjhjeaaGreatDoorVlT6
set_option linter.all false
namespace Go.Proofs.YtegbpjodbjhjeaaGreatDoor
open Go Go.Vl
variable {G:Gl}
set_option maxRecDepth 4000
def owT (l:List Tm):V:=.ow (if l.isEmpty then none else some (47,3)) (l.map tmC)
theorem wQ {l:List Tm}:∀ x∈l.map tmC,x.length=3:=fun x hx=>by
 obtain⟨t,_,rfl⟩:=bF.1 hx;exact b8 t
theorem IZ {l m:List Tm} {K:V→Prop} (h:l.length+m.length≤1000000000) (hK:K (owT (l++m))):dX Tryz.prog 33 (owT l) (.c (.sl (m.map tmC))) K:=by
 unfold owT
 rw[XK]
 refine⟨⟨by cases l<;>simp,wQ⟩,⟨by simp only[ap];omega,by simp only[ap];omega,wQ⟩,?_⟩
 have e:(if(m.map tmC).isEmpty=true then(if l.isEmpty=true then none else some (47,3)) else some (47,3))=if(l++m).isEmpty=true then none else some (47,3):=by
  cases l<;>cases m<;>simp
 rw[e,← eK];exact hK
theorem qc:∀ (l out:List Tm),ng out l=l.foldl (fun o t=>nZ o (pe t)) out
 |[],_=>rfl
 |t::l,out=>by simp only[ng,gG];exact qc l _
theorem Dp {l out:List Tm} {i:Nat} (h:i<l.length):ng out (l.take (i+1))=nZ (ng out (l.take i)) (pe l[i]):=by
 rw[qc,qc,bg h,List.foldl_append];rfl
theorem yU:∀ t:Tm,∀ x∈jd t,bu x≤bu t:=by
 refine Tm.ind fun k n l ih=>?_
 intro x hx
 simp only[jd,bw] at hx
 rcases hx with rfl | hx
 ·exact ae _
 ·obtain⟨t,ht,hx⟩:=kQ.1 hx
  have h1:=ih t ht x hx
  have h2:=gq ht
  simp only[bu];omega
theorem Dq {l:List Tm} {m:Nat} (h:∀ x∈l,bu x≤m):cH l≤l.length*m:=by
 induction l with
 |nil=>simp[cH]
 |cons t l ih=>
  have h1:=h t (aR ..)
  have h2:=ih fun x hx=>h x (aN _ hx)
  simp only[cH,aC,dh];omega
theorem F3 {k n:Int} {l:List Tm} {i:Nat} (h:i<l.length) {x:Tm} (hx:x∈jd l[i]):x∈jd (.mk k n l):=by
 simp only[jd,bw]
 exact .inr (kQ.2 ⟨_,aL h,hx⟩)
structure PutS (t:Tm) (out:List Tm):Prop where
 st:StT out
 sub:∀ x∈out,x∈jd t
theorem PutS.put {t u:Tm} {out:List Tm} (h:PutS t out) (hu:u∈jd t):PutS t (AY out u):=
 ⟨pZ h.st u,fun x hx=>by rcases wM.1 hx with hx | rfl;exact h.sub x hx;exact hu⟩
theorem PutS.all {t:Tm}:∀ {us out:List Tm},PutS t out→(∀ u∈us,u∈jd t)→PutS t (nZ out us)
 |[],_,h,_=>h
 |u::us,out,h,hu=>by
  show PutS t (nZ (AY out u) us)
  exact PutS.all (h.put (hu u (aR ..))) fun v hv=>hu v (aN _ hv)
theorem PutS.start (t:Tm):PutS t [t]:=⟨List.pairwise_singleton _ _,fun x hx=>by rw[a8] at hx;subst hx;exact ua x⟩
theorem PutS.rounds {k n:Int} {l:List Tm}:∀ i,i≤l.length→PutS (.mk k n l) (ng [.mk k n l] (l.take i))
 |0,_=>PutS.start _
 |i+1,h=>by
  rw[Dp h]
  exact(PutS.rounds i (Nat.le_of_succ_le h)).all fun u hu=>F3 h ((OH l[i]).2 u |>.1 hu)
