/- Values without memory: steps of a walk at a slice on none of whose elements anybody relies. -/
import Derived.Test.YtloppcgcepgbnaaGreatDoorVlRunB
import Derived.Test.YtloppcgcepgbnaaGreatDoorVlFlb
import Derived.Test.YtloppcgcepgbnaaGreatDoorVlEnv
set_option linter.all false
namespace Go.Vl
open Go Go.RowKit
section
variable {P:Program} {T e:TypeId} {i j:TI} {K:V→Prop} {blk off len cap k n' sz:Nat} {E:Option (TypeId×Nat)} {es:List (List C)} {s:S}
theorem NC {G:Gl} {t d:Nat} {y:Operand} {v:Value} {y1:List C} {by_:Nat} {z:List C} (hT:ti P T=some i) (hk:i.kd=.slice e) (hE:ti P e=some j) (hs:j.size=sz) (hb:j.bytes=by_) (hz:j.zero=some z) (hp:0<sz) (vo:z.length=sz) (h1:s.fr t=.c (.ex v)) (h2:s.fr d=.gg v E es)
 (h0:t≠d∧y≠.tmp t∧y≠.tmp d) (hy:(vw s (ev G s y)).fz=.c (.sl [y1])) (hEE:E=none∨E=some (e,sz)) (pV:∀ x∈es,x.length=sz) (H5:y1.length=sz) (hm:(es.length+1)*by_≤140737488355328) (hm2:es.length+1≤9223372036854775807)
 (hK:K (.gs none (some (e,sz)) (es++[y1]))):jZ P G s (some d) [T,T] [.tmp t,y] K:=by
 obtain⟨kd',a1,a2,a3,a4,a5,a6⟩:=i;simp only at hk;subst hk
 obtain⟨b0,b1,b2,b3,b4,b5,b6⟩:=j;simp only at hs hb hz;subst hs;subst hb;subst hz
 unfold jZ
 simp only[h1,h2]
 refine⟨⟨h0.1,trivial,h0.2.1,h0.2.2⟩,?_⟩
 rw[hy]
 simp only[nw,hT,hE]
 exact⟨trivial,⟨hp,vo,hEE,pV⟩,⟨hm,hm2,H5⟩,hK⟩
theorem ahb {fr:Nat→V} {bx:Nat→List V} {nb:Nat} {t:Tmp} {dO:Option Tmp} {b o:Nat} {g:Option Value} {K:S→Prop} (h:fr t=.gs g E es):stS 1 (some t) dO b o (.gs g E es) ⟨fr,bx,nb⟩ K=
 ((b<nb∧o+1≤(bx b).length)∧K ((⟨up fr t .un,up bx b (eS (bx b) o [.gs g E es]),nb⟩:S).put dO .sk)):=by
 simp[stS,V.bcells,iE,h,V.isOw]
end
section
variable {P:Program} {G:Gl} {tr:List Nat} {ops:Array Oper} {K:S→Prop} {listed:Array Bool} {s:S}
theorem GsK.mono {K K':S→Prop} (hk:∀ s,K s→K' s) {s:S} (h:GsK ops K s):GsK ops K' s:=by
 induction h with
 |done h=>exact .done (hk _ h)
 |warm b k h1 h2 _ ih=>exact .warm b k h1 h2 ih
 |warmX b k h1 h2 _ ih=>exact .warmX b k h1 h2 ih
 |warmT t h1 _ ih=>exact .warmT t h1 ih
 |name b k h1 h2 h3 _ ih=>exact .name b k h1 h2 h3 ih
 |unname b k h1 h2 _ ih=>exact .unname b k h1 h2 ih
 |split b k q h1 h2 h3 h4 _ ih=>exact .split b k q h1 h2 h3 h4 ih
 |box b k h1 h2 h3 _ ih=>exact .box b k h1 h2 h3 ih
 |boxT t h1 _ ih=>exact .boxT t h1 ih
 |cool b k h1 h2 _ ih=>exact .cool b k h1 h2 ih
 |splitB t b k h1 h2 h3 h4 _ ih=>exact .splitB t b k h1 h2 h3 h4 ih
 |join b k b' k' h1 h2 h3 h4 h5 h6 h7 _ ih=>exact .join b k b' k' h1 h2 h3 h4 h5 h6 h7 ih
 |coolT t h1 _ ih=>exact .coolT t h1 ih
 |ghT b k q h1 h2 h3 h4 _ ih=>exact .ghT b k q h1 h2 h3 h4 ih
 |more b h1 h2 _ ih=>exact .more b h1 h2 ih
 |ggT b k q h1 h2 h3 _ ih=>exact .ggT b k q h1 h2 h3 ih
 |ggB t b k h1 h2 h3 h4 _ ih=>exact .ggB t b k h1 h2 h3 h4 ih
 |gg0 q h1 _ ih=>exact .gg0 q h1 ih
 |joinS b k t h1 h2 h3 h4 _ ih=>exact .joinS b k t h1 h2 h3 h4 ih
 |frz b k t blk len cap h1 h2 h3 _ ih=>exact .frz b k t blk len cap h1 h2 h3 ih
 |forget b k h1 h2 h3 _ ih=>exact .forget b k h1 h2 h3 ih
 |splitC b k b' k' h1 h2 h3 h4 h5 h6 h7 _ ih=>exact .splitC b k b' k' h1 h2 h3 h4 h5 h6 h7 ih
 |joinO b k b' k' h1 h2 h3 h4 h5 h6 h7 _ ih=>exact .joinO b k b' k' h1 h2 h3 h4 h5 h6 h7 ih
 |joinT b k t blk len m cap h1 h2 h3 h4 h5 _ ih=>exact .joinT b k t blk len m cap h1 h2 h3 h4 h5 ih
theorem mf {id:Nat} (h:gY P G tr ops ops.toList s K) (hl:agp tr id=true:=by rfl) (hq:Du tr id=false:=by rfl) (ho:FQ tr id=false:=by rfl):vpa P G tr id ops K s:=by
 unfold vpa
 rw[hq,if_neg (by decide),ho,if_neg (by decide),if_pos hl];exact h
theorem tY {id:Nat} (h:nA P G tr ops K ops.toList s) (ho:FQ tr id=true:=by rfl) (hq:Du tr id=false:=by rfl):vpa P G tr id ops K s:=by
 unfold vpa
 rw[hq,if_neg (by decide),if_pos ho];exact h
theorem dK:nA P G tr ops K [] s=GsK ops K s:=rfl
theorem dU {o:Oper} {r:List Oper}:nA P G tr ops K (o::r) s=(if nD tr o.dst then GsK ops (fun s=>nC ops o s (fun s=>if nu tr o then vr P G o s (nA P G tr ops K r) else VStep P G tr o s (nA P G tr ops K r)) (fun s=>nA P G tr ops K r (s.put o.dst .sk))) s else
 nC ops o s (fun s=>if nu tr o then vr P G o s (nA P G tr ops K r) else VStep P G tr o s (nA P G tr ops K r)) (fun s=>nA P G tr ops K r (s.put o.dst .sk))):=by
 show(if nD tr o.dst then GsK ops else id) _ s=_
 split<;>rfl
theorem gp {dst:Option Tmp} {op:Op} {ty:TypeId} {pos:String} {af:Array Edge} {yes no:S→Prop}:nC ops ⟨dst,op,ty,pos,af,none⟩ s yes no=yes s:=rfl
end
section
variable {P:Program} {G:Gl}
def ND (P:Program) (k:Nat) (R:V→List (List V)→Prop) (rs:List ResultVar) (e:VE) (s:S):Prop:=∃ r b1,R r b1∧Ar P k r b1 rs e s
end
section
variable {P:Program} {G:Gl} {fr:Nat→V} {k n:Nat} {Y ls rest:List (List V)} {f:V} {args all cargs:List V} {K:S→V→Prop} {R:V→List (List V)→Prop}
theorem EJ {g:FuncId} (hc:gu f args=some (g,all)) (hf:FnE P G g cargs (Y++ls) R) (en:all.map V.fz=cargs) (hY:Y.length=k) (hn:(ls++rest).length=n)
 (hR:∀ r b1,R r b1→∃ Y',b1=Y'++ls∧Y'.length=k∧ltL k Y'∧(∀ ρ,r.ren ρ=r)∧K ⟨fr,bxs (Y'++(ls++rest)),kx k n⟩ r):kZ P G ⟨fr,bxs (Y++(ls++rest)),kx k n⟩ f args K:=by
 unfold kZ
 simp only[hc]
 have cn:(Y++ls).length=k+ls.length:=by rw[aj,hY]
 have hρ:∀ i,i<(Y++ls).length→rho (List.range (Y++ls).length) (kx k n) i=i:=fun i hi=>G2 hi
 refine⟨List.range (Y++ls).length,cargs,Y++ls,R,hf,?_,⟨by simp,kr⟩,?_,fun r b1 hRb=>?_⟩
 ·rw[en,jx fun x hx=>tV (hf.2.1.1 x hx) hρ]
 ·refine uX hρ _ 0 (by omega) hf.2.1.2.1 (xN _ _ _ _ fun i b hb=>?_)
  have hi:=(ae.1 hb).1
  rw[aK]
  rw[aj] at hn
  refine⟨by simp only[kx];omega,?_⟩
  rw[← bw]
  simp only[bxs,ay]
  rw[az hi,hb];rfl
 ·obtain⟨Y',rfl,UC,bV,hr,hK⟩:=hR r b1 hRb
  have vT:(Y'++ls).length=(Y++ls).length:=by rw[aj,cn,UC]
  have zr:∀ b∈Y'++ls,∀ x∈b,x.lt (Y++ls).length:=fun b hb x hx=>by
   rcases aZ.1 hb with h | h
   ·exact(bV b h x hx).mono (by omega)
   ·exact hf.2.1.2.1 b (List.mem_append_right _ h) x hx
  rw[sj hρ (Y'++ls) 0 _ (by omega) zr,tQ,hr,← bw,Ny vT,vT,Nat.sub_self,eI,bw]
  exact hK
theorem NF (hf:YE P G cargs Y R) (en:args.map V.fz=cargs) (hk:0<k) (hY:Y.length=k)
 (hR:∀ r Y',R r Y'→Y'.length=k∧ltL k Y'∧(∀ ρ,r.ren ρ=r)∧K ⟨fr,bxs (Y'++ls),kx k n⟩ r):vZ P G ⟨fr,bxs (Y++ls),kx k n⟩ (.yl 0) args K:=by
 unfold vZ
 simp only
 have hρ:∀ i,i<Y.length→rho (List.range Y.length) (kx k n) i=i:=fun i hi=>G2 hi
 refine⟨List.range Y.length,cargs,Y,R,hf,?_,⟨by simp,kr,?_⟩,?_,fun r Y' hRb=>?_⟩
 ·rw[en,jx fun x hx=>tV (hf.1.1 x hx) hρ]
 ·rw[hY]
  match k,hk with
  |k+1,_=>rw[List.range_succ_eq_map];rfl
 ·refine uX hρ _ 0 (by omega) hf.1.2.1 (xN _ _ _ _ fun i b hb=>?_)
  have hi:=(ae.1 hb).1
  rw[aK]
  refine⟨by simp only[kx];omega,?_⟩
  simp only[bxs,ay]
  rw[az hi,hb];rfl
 ·obtain⟨UC,bV,hr,hK⟩:=hR r Y' hRb
  have vT:Y'.length=Y.length:=by rw[hY,UC]
  have zr:∀ b∈Y',∀ x∈b,x.lt Y.length:=fun b hb x hx=>by rw[hY];exact bV b hb x hx
  rw[sj hρ Y' 0 _ (by omega) zr,tQ,hr,Ny vT,vT,Nat.sub_self,eI]
  exact hK
theorem G5 {f:FuncId} {fn:Func} {c:Code} {args:List V} (tr:List Nat) (hm:P.follows .mixedOrders=true) (hf:P.funcs[f]?=some fn) (hb:fn.body=some c) (np:(fn.name== "runtime.NumGoroutine")=false)
 {rs:List ResultVar} (OL:fn.results.toList=rs) {nt:Nat} (hn:fn.ntmps=nt) (vG:cok nt tr c=true) (cn:args.length≤nt)
 (hR:∀ r b1,R r b1→r.compT=true∧b1.length=(Y++ls).length)
 (hY:Y.length=k) (bV:ltL k Y) {m:Nat} (dQ:ls.length=m) (hl:ltL (kx k m) ls) (ha:∀ x∈args,x.lt (kx k m))
 (h:gZ P G tr (kx k m) c (ND P (kx k m) R rs) ⟨frm 0 args,bxs (Y++ls),kx k m⟩):FnE P G f args (Y++ls) R:=by
 subst hn
 subst OL
 have Dl:(Y++ls).length=kx k m:=by rw[aj,hY,dQ];rfl
 refine abT tr hm hf hb np cn vG (fun r b1 h=>(hR r b1 h).1) ⟨fun x hx=>by rw[Dl];exact ha x hx,fun b hb x hx=>?_,fun r b1 h=>by rw[(hR r b1 h).2];exact ar _⟩ ?_
 ·rw[Dl]
  rcases aZ.1 hb with h | h
  ·exact(bV b h x hx).mono (by simp only[kx];omega)
  ·exact hl b h x hx
 ·rw[Nr] at h
  rw[Dl];exact h
end
def ahc (x' x:V):Prop:=x'=x∨(x'=.c (.ex (.slice none 0 0))∧x=.c (.sl []))
theorem acj {P:Program} {G:Gl} {f:FuncId} {args args':List V} {b0:List (List V)} {R:V→List (List V)→Prop} (h:FnE P G f args b0 R) (cn:args'.length=args.length)
 (hx:∀ (j:Nat) (x' x:V),args'[j]?=some x'→args[j]?=some x→ahc x' x):FnE P G f args' b0 R:=by
 obtain⟨h1,⟨h2,h3⟩,h4⟩:=h
 have at_:∀ (j:Nat) (x':V),args'[j]?=some x'→∃ x,args[j]?=some x:=fun j x' hj=>by
  have:=(ae.1 hj).1
  exact⟨_,ab (by omega)⟩
 refine⟨h1,⟨fun x' Db=>?_,h3⟩,fun I M w vs β ob q1 q2 q3 q4 q5=>h4 I M w vs β ob q1 q2 q3 (by omega) fun j x hj=>?_⟩
 ·obtain⟨j,hj⟩:=eA.1 Db
  obtain⟨x,Dm⟩:=at_ j x' hj
  rcases hx j x' x hj Dm with rfl | ⟨rfl,_⟩
  ·exact h2 _ (aT Dm)
  ·trivial
 ·have Qa:=(ae.1 hj).1
  have Z8:args'[j]?=some (args'[j]'(by omega)):=ab (by omega)
  have hv:=q5 j _ Z8
  rcases hx j _ x Z8 hj with e | ⟨e,rfl⟩
  ·rw[← e];exact hv
  ·rw[e] at hv
   have:=hv.toC.ex_inv
   rw[this]
   exact .ofC (.nil none 0 fun _=>rfl)
