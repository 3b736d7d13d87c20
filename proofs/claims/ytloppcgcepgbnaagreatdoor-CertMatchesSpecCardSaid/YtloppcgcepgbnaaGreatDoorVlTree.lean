/- Values without memory: steps of a walk at a slice on none of whose elements anybody relies. -/
import Derived.Test.YtloppcgcepgbnaaGreatDoorVlRunB
import Derived.Test.YtloppcgcepgbnaaGreatDoorVlFlb
import Derived.Test.YtloppcgcepgbnaaGreatDoorVlEnv
set_option linter.all false
namespace Go.Vl
open Go Go.RowKit
section
variable {P:Program} {T e:TypeId} {i j:TI} {K:V->Prop} {blk off len cap k n' sz:Nat} {E:Option (TypeId×Nat)} {es:List (List C)} {s:S}
theorem NI {G:Gl} {t d:Nat} {y:Operand} {v:Value} {y1:List C} {by_:Nat} {z:List C} (hT:ti P T=some i) (hk:i.kd=.slice e) (hE:ti P e=some j) (hs:j.size=sz) (hb:j.bytes=by_) (hz:j.zero=some z) (hp:0<sz) (tH:z.length=sz) (h1:s.fr t=.c (.ex v)) (h2:s.fr d=.gg v E es)
 (h0:t≠d/\y≠.tmp t/\y≠.tmp d) (hy:(vw s (ev G s y)).fz=.c (.sl [y1])) (hEE:E=none∨E=some (e,sz)) (px:∀ x∈es,x.length=sz) (Gf:y1.length=sz) (hm:(es.length+1)*by_<=140737488355328) (hm2:es.length+1<=9223372036854775807)
 (hK:K (.gs none (some (e,sz)) (es++[y1]))):ju P G s (some d) [T,T] [.tmp t,y] K:=by
 obtain⟨kd',a1,a2,a3,a4,a5,a6⟩:=i;simp only at hk;subst hk;obtain⟨b0,b1,b2,b3,b4,b5,b6⟩:=j;simp only at hs hb hz;subst hs;subst hb;subst hz;unfold ju;simp only[h1,h2];refine⟨⟨h0.1,trivial,h0.2.1,h0.2.2⟩,?_⟩;rw[hy];simp only[nH,hT,hE];exact⟨trivial,⟨hp,tH,hEE,px⟩,⟨hm,hm2,Gf⟩,hK⟩
theorem afO {fr:Nat->V} {bx:Nat->List V} {nb:Nat} {t:Tmp} {dO:Option Tmp} {b o:Nat} {g:Option Value} {K:S->Prop} (h:fr t=.gs g E es):stS 1 (some t) dO b o (.gs g E es) ⟨fr,bx,nb⟩ K=
 ((b<nb/\o+1<=(bx b).length)/\K ((⟨up fr t .un,up bx b (eP (bx b) o [.gs g E es]),nb⟩:S).put dO .sk)):=by
 simp[stS,V.bcells,jx,h,V.isOw]
end
section
variable {P:Program} {G:Gl} {tr:List Nat} {ops:Array Oper} {K:S->Prop} {listed:Array Bool} {s:S}
theorem GsK.mono {K K':S->Prop} (hk:∀ s,K s->K' s) {s:S} (h:GsK ops K s):GsK ops K' s:=by
 induction h with
 |done h=>exact .done (hk _ h)
 |warm b k h1 h2 _ ih=>exact .warm b k h1 h2 ih
 |warmX b k h1 h2 _ ih=>exact .warmX b k h1 h2 ih
 |warmT t h1 _ ih=>exact .warmT t h1 ih
 |name b k h1 h2 h3 _ ih=>exact .name b k h1 h2 h3 ih
 |unname b k h1 h2 _ ih=>exact .unname b k h1 h2 ih
 |split b k q h1 h2 h3 h4 _ ih=>exact .split b k q h1 h2 h3 h4 ih
 |box b k h1 h2 h3 _ ih=>exact .box b k h1 h2 h3 ih
 |boxT t h1 _ ih=>exact .boxT t h1 ih
 |cool b k h1 h2 _ ih=>exact .cool b k h1 h2 ih
 |splitB t b k h1 h2 h3 h4 _ ih=>exact .splitB t b k h1 h2 h3 h4 ih
 |join b k b' k' h1 h2 h3 h4 h5 h6 h7 _ ih=>exact .join b k b' k' h1 h2 h3 h4 h5 h6 h7 ih
 |coolT t h1 _ ih=>exact .coolT t h1 ih
 |ghT b k q h1 h2 h3 h4 _ ih=>exact .ghT b k q h1 h2 h3 h4 ih
 |more b h1 h2 _ ih=>exact .more b h1 h2 ih
 |ggT b k q h1 h2 h3 _ ih=>exact .ggT b k q h1 h2 h3 ih
 |ggB t b k h1 h2 h3 h4 _ ih=>exact .ggB t b k h1 h2 h3 h4 ih
 |gg0 q h1 _ ih=>exact .gg0 q h1 ih
 |joinS b k t h1 h2 h3 h4 _ ih=>exact .joinS b k t h1 h2 h3 h4 ih
 |frz b k t blk len cap h1 h2 h3 _ ih=>exact .frz b k t blk len cap h1 h2 h3 ih
 |forget b k h1 h2 h3 _ ih=>exact .forget b k h1 h2 h3 ih
 |splitC b k b' k' h1 h2 h3 h4 h5 h6 h7 _ ih=>exact .splitC b k b' k' h1 h2 h3 h4 h5 h6 h7 ih
 |joinO b k b' k' h1 h2 h3 h4 h5 h6 h7 _ ih=>exact .joinO b k b' k' h1 h2 h3 h4 h5 h6 h7 ih
 |joinT b k t blk len m cap h1 h2 h3 h4 h5 _ ih=>exact .joinT b k t blk len m cap h1 h2 h3 h4 h5 ih
theorem mL {id:Nat} (h:ib P G tr ops ops.toList s K) (hl:ae6 tr id=true:=by rfl) (hq:Eb tr id=false:=by rfl) (ho:Gq tr id=false:=by rfl):vpa P G tr id ops K s:=by unfold vpa;rw[hq,if_neg (by decide),ho,if_neg (by decide),if_pos hl];exact h
theorem ue {id:Nat} (h:nJ P G tr ops K ops.toList s) (ho:Gq tr id=true:=by rfl) (hq:Eb tr id=false:=by rfl):vpa P G tr id ops K s:=by unfold vpa;rw[hq,if_neg (by decide),if_pos ho];exact h
theorem dS:nJ P G tr ops K [] s=GsK ops K s:=rfl
theorem dW {o:Oper} {r:List Oper}:nJ P G tr ops K (o::r) s=(if nN tr o.dst then GsK ops (λs=>nM ops o s (λs=>if nE tr o then vt P G o s (nJ P G tr ops K r) else VStep P G tr o s (nJ P G tr ops K r)) (λs=>nJ P G tr ops K r (s.put o.dst .sk))) s else
 nM ops o s (λs=>if nE tr o then vt P G o s (nJ P G tr ops K r) else VStep P G tr o s (nJ P G tr ops K r)) (λs=>nJ P G tr ops K r (s.put o.dst .sk))):=by
 show(if nN tr o.dst then GsK ops else id) _ s=_
 split<;>rfl
theorem gv {dst:Option Tmp} {op:Op} {ty:TypeId} {pos:String} {af:Array Edge} {yes no:S->Prop}:nM ops ⟨dst,op,ty,pos,af,none⟩ s yes no=yes s:=rfl
end
section
variable {P:Program} {G:Gl}
def wH (P:Program) (k:Nat) (R:V->List (List V)->Prop) (rs:List ResultVar) (e:VE) (s:S):Prop:=∃ r b1,R r b1/\xN P k r b1 rs e s
end
section
variable {P:Program} {G:Gl} {fr:Nat->V} {k n:Nat} {Y ls rest:List (List V)} {f:V} {args all cargs:List V} {K:S->V->Prop} {R:V->List (List V)->Prop}
theorem Fe {g:FuncId} (hc:gz f args=some (g,all)) (hf:FnE P G g cargs (Y++ls) R) (eF:all.map V.fz=cargs) (hY:Y.length=k) (hn:(ls++rest).length=n)
 (hR:∀ r b1,R r b1->∃ Y',b1=Y'++ls/\Y'.length=k/\ltL k Y'/\(∀ ρ,r.ren ρ=r)/\K ⟨fr,bxs (Y'++(ls++rest)),kx k n⟩ r):lj P G ⟨fr,bxs (Y++(ls++rest)),kx k n⟩ f args K:=by
 unfold lj;simp only[hc];have cj:(Y++ls).length=k+ls.length:=by rw[ae,hY]
 have hρ:∀ i,i<(Y++ls).length->rho (List.range (Y++ls).length) (kx k n) i=i:=λi hi=>Hw hi;refine⟨List.range (Y++ls).length,cargs,Y++ls,R,hf,?_,⟨by simp,kA⟩,?_,λr b1 hRb=>?_⟩
 .rw[eF,jy λx hx=>ua (hf.2.1.1 x hx) hρ]
 .refine uZ hρ _ 0 (by omega) hf.2.1.2.1 (xP _ _ _ _ λi b hb=>?_)
  have hi:=(aj.1 hb).1;rw[aF];rw[ae] at hn;refine⟨by simp only[kx];omega,?_⟩;rw[<- aI];simp only[bxs,aB];rw[aA hi,hb];rfl
 .obtain⟨Y',rfl,UO,bE,hr,hK⟩:=hR r b1 hRb
  have vW:(Y'++ls).length=(Y++ls).length:=by rw[ae,cj,UO]
  have rm:∀ b∈Y'++ls,∀ x∈b,x.lt (Y++ls).length:=λb hb x hx=>by
   rcases ba.1 hb with h | h
   .exact(bE b h x hx).mono (by omega)
   .exact hf.2.1.2.1 b (List.mem_append_right _ h) x hx
  rw[sr hρ (Y'++ls) 0 _ (by omega) rm,tY,hr,<- aI,ND vW,vW,Nat.sub_self,eX,aI];exact hK
theorem NJ (hf:YE P G cargs Y R) (eF:args.map V.fz=cargs) (hk:0<k) (hY:Y.length=k)
 (hR:∀ r Y',R r Y'->Y'.length=k/\ltL k Y'/\(∀ ρ,r.ren ρ=r)/\K ⟨fr,bxs (Y'++ls),kx k n⟩ r):v8 P G ⟨fr,bxs (Y++ls),kx k n⟩ (.yl 0) args K:=by
 unfold v8;simp only;have hρ:∀ i,i<Y.length->rho (List.range Y.length) (kx k n) i=i:=λi hi=>Hw hi;refine⟨List.range Y.length,cargs,Y,R,hf,?_,⟨by simp,kA,?_⟩,?_,λr Y' hRb=>?_⟩
 .rw[eF,jy λx hx=>ua (hf.1.1 x hx) hρ]
 .rw[hY]
  match k,hk with
  |k+1,_=>rw[List.range_succ_eq_map];rfl
 .refine uZ hρ _ 0 (by omega) hf.1.2.1 (xP _ _ _ _ λi b hb=>?_)
  have hi:=(aj.1 hb).1;rw[aF];refine⟨by simp only[kx];omega,?_⟩;simp only[bxs,aB];rw[aA hi,hb];rfl
 .obtain⟨UO,bE,hr,hK⟩:=hR r Y' hRb
  have vW:Y'.length=Y.length:=by rw[hY,UO]
  have rm:∀ b∈Y',∀ x∈b,x.lt Y.length:=λb hb x hx=>by rw[hY];exact bE b hb x hx
  rw[sr hρ Y' 0 _ (by omega) rm,tY,hr,ND vW,vW,Nat.sub_self,eX];exact hK
theorem HC {f:FuncId} {fn:Func} {c:Code} {args:List V} (tr:List Nat) (hm:P.follows .mixedOrders=true) (hf:P.funcs[f]?=some fn) (hb:fn.body=some c) (nA:(fn.name== "runtime.NumGoroutine")=false)
 {rs:List ResultVar} (OV:fn.results.toList=rs) {nt:Nat} (hn:fn.ntmps=nt) (vJ:cok nt tr c=true) (cj:args.length<=nt)
 (hR:∀ r b1,R r b1->r.compT=true/\b1.length=(Y++ls).length)
 (hY:Y.length=k) (bE:ltL k Y) {m:Nat} (dU:ls.length=m) (hl:ltL (kx k m) ls) (ha:∀ x∈args,x.lt (kx k m))
 (h:hZ P G tr (kx k m) c (wH P (kx k m) R rs) ⟨frm 0 args,bxs (Y++ls),kx k m⟩):FnE P G f args (Y++ls) R:=by
 subst hn;subst OV;have D6:(Y++ls).length=kx k m:=by rw[ae,hY,dU];rfl
 refine abj tr hm hf hb nA cj vJ (λr b1 h=>(hR r b1 h).1) ⟨λx hx=>by rw[D6];exact ha x hx,λb hb x hx=>?_,λr b1 h=>by rw[(hR r b1 h).2];exact ab _⟩ ?_
 .rw[D6]
  rcases ba.1 hb with h | h
  .exact(bE b h x hx).mono (by simp only[kx];omega)
  .exact hl b h x hx
 .rw[Nw] at h
  rw[D6];exact h
end
def afP (x' x:V):Prop:=x'=x∨(x'=.c (.ex (.slice none 0 0))/\x=.c (.sl []))
theorem abD {P:Program} {G:Gl} {f:FuncId} {args args':List V} {b0:List (List V)} {R:V->List (List V)->Prop} (h:FnE P G f args b0 R) (cj:args'.length=args.length)
 (hx:∀ (j:Nat) (x' x:V),args'[j]?=some x'->args[j]?=some x->afP x' x):FnE P G f args' b0 R:=by
 obtain⟨h1,⟨h2,h3⟩,h4⟩:=h;have at_:∀ (j:Nat) (x':V),args'[j]?=some x'->∃ x,args[j]?=some x:=λj x' hj=>by have:=(aj.1 hj).1;exact⟨_,ai (by omega)⟩
 refine⟨h1,⟨λx' DY=>?_,h3⟩,λI M w vs β ob q1 q2 q3 q4 q5=>h4 I M w vs β ob q1 q2 q3 (by omega) λj x hj=>?_⟩
 .obtain⟨j,hj⟩:=eA.1 DY
  obtain⟨x,Gj⟩:=at_ j x' hj;rcases hx j x' x hj Gj with rfl | ⟨rfl,_⟩
  .exact h2 _ (aS Gj)
  .trivial
 .have F7:=(aj.1 hj).1
  have ZI:args'[j]?=some (args'[j]'(by omega)):=ai (by omega);have hv:=q5 j _ ZI;rcases hx j _ x ZI hj with e | ⟨e,rfl⟩
  .rw[<- e];exact hv
  .rw[e] at hv
   have:=hv.toC.ex_inv;rw[this];exact .ofC (.nil none 0 λ_=>rfl)
