/- Values without memory: steps of a walk at a slice on none of whose elements anybody relies. -/
import Derived.Test.YtegbpjodbjhjeaaGreatDoorVlRunB
import Derived.Test.YtegbpjodbjhjeaaGreatDoorVlFlb
import Derived.Test.YtegbpjodbjhjeaaGreatDoorVlEnv
set_option linter.all false
namespace Go.Vl
open Go Go.RowKit
section
variable {P:Program} {T e:TypeId} {i j:TI} {K:V->Prop} {blk off len cap k n' sz:Nat} {E:Option (TypeId×Nat)} {es:List (List C)} {s:S}
theorem MQ {α:Type} {sz:Nat} {es:List (List α)} (h:∀ e∈es,e.length=sz) {q:Nat} {x:List α} (hx:es[q]?=some x):q*sz+sz<=es.flatten.length/\(es.flatten.drop (q*sz)).take sz=x:=by obtain⟨hq,rfl⟩:=am.1 hx;rw[bZ es h];refine⟨by have:=bf sz (show q+1<=es.length from hq);rw[dy,Nat.one_mul] at this;exact this,?_⟩;rw[<- mP h (Nat.le_of_lt hq),cw hq,eN];exact gG (h _ (aH hq))
theorem afL {b o q:Nat} {x:List C} (hT:ti P T=some i) (lU:i.agg=true) (hs:i.size=sz) (hb:b<s.nb) (hm:dE (s.bx b)=false) (hk:(s.bx b)[k]?=some (.gs (some (.slice (some ⟨blk,0,none⟩) len cap)) E es)) (hl:∀ x∈es,x.length=sz)
 (hx:es[q]?=some x) (ho:o=q*sz) (hK:K (.agg x)):dJ P T s (.c (.ex (.pointer (some ⟨blk,o,none⟩)))) K:=by
 subst ho;subst hs;simp only[dJ,hT];refine .inr ⟨b,k,len,cap,E,es,⟨hb,hm,hk⟩,?_⟩;obtain⟨h1,h2⟩:=MQ hl hx;unfold dZ;rw[if_pos lU];exact⟨h1,by rw[h2];exact hK⟩
theorem aci {b o q r:Nat} {x:List C} {c:C} (hT:ti P T=some i) (lU:i.agg=false) (hb:b<s.nb) (hm:dE (s.bx b)=false) (hk:(s.bx b)[k]?=some (.gs (some (.slice (some ⟨blk,0,none⟩) len cap)) E es)) (hl:∀ x∈es,x.length=sz)
 (hx:es[q]?=some x) (hc:x[r]?=some c) (ho:o=q*sz+r) (hK:K (.c c)):dJ P T s (.c (.ex (.pointer (some ⟨blk,o,none⟩)))) K:=by
 subst ho;simp only[dJ,hT];refine .inr ⟨b,k,len,cap,E,es,⟨hb,hm,hk⟩,?_⟩;obtain⟨h1,h2⟩:=MQ hl hx;have hr:r<sz:=by have:=(am.1 hc).1;rw[hl x (bn hx)] at this;exact this
 have GL:es.flatten[q*sz+r]?=some c:=by rw[<- hc,<- h2,cN,if_pos hr,cn]
 unfold dZ;rw[if_neg (by rw[lU];simp),GL];exact hK
theorem MR {lo hi mx:Option V} {l h m:Nat} (hT:ti P T=some i) (hk:i.kd=.slice e) (hE:ti P e=some j) (hs:j.size=sz) (h1:ic 0 lo=some (l:Nat)) (h2:ic len hi=some (h:Nat)) (h3:ic cap mx=some (m:Nat))
 (hlh:l<=h) (hhm:h<=m) (hmc:m<=cap) (hx:mx.isSome=true->hi.isSome=true) (hK:K (.c (.ex (.slice (some ⟨blk,if m=l then off else off+l*sz,none⟩) (h - l) (m - l))))):ig P T (.c (.ex (.slice (some ⟨blk,off,none⟩) len cap))) lo hi mx K:=by
 obtain⟨kd,a,b',c,d,f,g⟩:=i;simp only at hk;subst hk;subst hs;simp only[ig,hT,hE,h1,h2,h3,fq];exact⟨⟨by omega,by omega,by omega,by omega,hx⟩,hK⟩
theorem Yl {b q m cap2:Nat} {e':TypeId} {K:S->V->Prop} (hT:ti P T=some i) (hk:i.kd=.slice e) (hE:ti P e=some j) (hs:j.size=sz) (hz:0<sz) (hb:b<s.nb) (hm:dE (s.bx b)=false) (eE:(s.bx b)[k]?=some (.gs (some (.slice (some ⟨blk,0,none⟩) es.length cap)) (some (e',sz)) es))
 (ho:m=0∨off=q*sz) (h1:q+m<=es.length) (h2:n'+m<=es.length) (h3:m<=cap2)
 (hK:K { s with bx:=up s.bx b ((s.bx b).set k (.gs (some (.slice (some ⟨blk,0,none⟩) es.length cap)) (some (e',sz)) (es.take n'++(es.drop q).take m++es.drop (n'+m)))) } (.c (.ex (.slice (some ⟨blk,0,none⟩) (n'+m) cap)))) :
 eT P s K [T,T] [.c (.ex (.slice (some ⟨blk,0,none⟩) n' cap)),.c (.ex (.slice (some ⟨blk,off,none⟩) m cap2))]:=by
 obtain⟨kd,a1,a2,a3,a4,a5,a6⟩:=i;simp only at hk;subst hk;subst hs;simp only[eT,hT,hE];exact⟨b,k,q,some (e',j.size),es,⟨trivial,trivial,hz,⟨e',rfl⟩,hb,hm,eE,ho,h1,h2,h3⟩,hK⟩
theorem Tx {b q m cap2:Nat} {e':TypeId} {z:List C} {K:S->Prop} (hT:ti P T=some i) (hk:i.kd=.slice e) (hE:ti P e=some j) (hs:j.size=sz) (hzr:j.zero=some z) (hz:0<sz) (zL:z.length=sz) (hb:b<s.nb) (hm:dE (s.bx b)=false)
 (eE:(s.bx b)[k]?=some (.gs (some (.slice (some ⟨blk,0,none⟩) es.length cap)) (some (e',sz)) es)) (ho:m=0∨off=q*sz) (h1:q+m<=es.length)
 (hK:K { s with bx:=up s.bx b ((s.bx b).set k (.gs (some (.slice (some ⟨blk,0,none⟩) es.length cap)) (some (e',sz)) (es.take q++List.replicate m z++es.drop (q+m)))) }) :
 iQ P s K [T] [.c (.ex (.slice (some ⟨blk,off,none⟩) m cap2))]:=by
 obtain⟨kd,a1,a2,a3,a4,a5,a6⟩:=i;simp only at hk;subst hk;obtain⟨b0,b1,b2,b3,b4,b5,b6⟩:=j;simp only at hs hzr;subst hs;subst hzr;simp only[iQ,hT,hE];exact⟨b,k,q,cap,some (e',b1),es,⟨hz,zL,⟨e',rfl⟩,hb,hm,eE,ho,h1⟩,hK⟩
theorem K8 {G:Gl} {t d:Nat} {y:Operand} {v:Value} {y1:List C} {by_:Nat} {z:List C} (hT:ti P T=some i) (hk:i.kd=.slice e) (hE:ti P e=some j) (hs:j.size=sz) (hb:j.bytes=by_) (hz:j.zero=some z) (hp:0<sz) (zL:z.length=sz) (h1:s.fr t=.c (.ex v)) (h2:s.fr d=.gg v E es)
 (h0:t≠d/\y≠.tmp t/\y≠.tmp d) (hy:(vw s (ev G s y)).fz=.c (.sl [y1])) (hEE:E=none∨E=some (e,sz)) (qM:∀ x∈es,x.length=sz) (JD:y1.length=sz) (hm:(es.length+1)*by_<=140737488355328) (hm2:es.length+1<=9223372036854775807)
 (hK:K (.gs none (some (e,sz)) (es++[y1]))):jl P G s (some d) [T,T] [.tmp t,y] K:=by
 obtain⟨kd',a1,a2,a3,a4,a5,a6⟩:=i;simp only at hk;subst hk;obtain⟨b0,b1,b2,b3,b4,b5,b6⟩:=j;simp only at hs hb hz;subst hs;subst hb;subst hz;unfold jl;simp only[h1,h2];refine⟨⟨h0.1,trivial,h0.2.1,h0.2.2⟩,?_⟩;rw[hy];simp only[nn,hT,hE];exact⟨trivial,⟨hp,zL,hEE,qM⟩,⟨hm,hm2,JD⟩,hK⟩
end
section
variable {P:Program} {G:Gl} {tr:List Nat} {ops:Array Oper} {K:S->Prop} {listed:Array Bool} {s:S}
def opL (p:Nat->Oper->Prop):Nat->List Oper->Prop
 |_,[]=>True
 |i,o::l=>p i o/\opL p (i+1) l
theorem Tz {p:Nat->Oper->Prop}:∀ {l:List Oper} {k:Nat},opL p k l->∀ i o,l[i]?=some o->p (k+i) o
 |[],_,_,i,o,h=>by simp at h
 |x::l,k,h,i,o,ho=>by
  cases i with
  |zero=>simp at ho;subst ho;exact h.1
  |succ i=>have:=Tz h.2 i o (by simpa using ho);rw[show k+(i+1)=k+1+i by omega];exact this
theorem GsK.mono {K K':S->Prop} (hk:∀ s,K s->K' s) {s:S} (h:GsK ops K s):GsK ops K' s:=by
 induction h with
 |done h=>exact .done (hk _ h)
 |warm b k h1 h2 _ ih=>exact .warm b k h1 h2 ih
 |warmX b k h1 h2 _ ih=>exact .warmX b k h1 h2 ih
 |warmT t h1 _ ih=>exact .warmT t h1 ih
 |name b k h1 h2 h3 _ ih=>exact .name b k h1 h2 h3 ih
 |unname b k h1 h2 _ ih=>exact .unname b k h1 h2 ih
 |split b k q h1 h2 h3 h4 _ ih=>exact .split b k q h1 h2 h3 h4 ih
 |box b k h1 h2 h3 _ ih=>exact .box b k h1 h2 h3 ih
 |boxT t h1 _ ih=>exact .boxT t h1 ih
 |cool b k h1 h2 _ ih=>exact .cool b k h1 h2 ih
 |splitB t b k h1 h2 h3 h4 _ ih=>exact .splitB t b k h1 h2 h3 h4 ih
 |join b k b' k' h1 h2 h3 h4 h5 h6 h7 _ ih=>exact .join b k b' k' h1 h2 h3 h4 h5 h6 h7 ih
 |coolT t h1 _ ih=>exact .coolT t h1 ih
 |splitC b k b' k' h1 h2 h3 h4 h5 h6 h7 _ ih=>exact .splitC b k b' k' h1 h2 h3 h4 h5 h6 h7 ih
 |joinO b k b' k' h1 h2 h3 h4 h5 h6 h7 _ ih=>exact .joinO b k b' k' h1 h2 h3 h4 h5 h6 h7 ih
 |joinT b k t blk len m cap h1 h2 h3 h4 h5 _ ih=>exact .joinT b k t blk len m cap h1 h2 h3 h4 h5 ih
theorem qg {f:Nat} (gu:(Region.ready .any ops listed).isEmpty=false) (bF:(Region.ready .any ops listed).all (λi=>decide (i<ops.size))=true)
 (h:GsK ops (λs=>opL (λi o=>(Region.ready .any ops listed).contains i=false∨
  nw ops o s (λs=>VStep P G tr o s (nS P G tr ops K f (listed.setIfInBounds i true))) (λs=>nS P G tr ops K f (listed.setIfInBounds i true) (s.put o.dst .sk))) 0 ops.toList) s):nS P G tr ops K (f+1) listed s:=by
 refine⟨λh0=>absurd gu (by rw[h0];decide),h.mono λs h i hi=>?_⟩;have JE:i<ops.size:=by simpa using a8.1 bF i hi
 have ho:ops[i]?=some ops[i]:=aF JE;have:=Tz h i ops[i] (by rw[aY];exact ho);rw[ao] at this;rcases this with h1 | h1
 .rw[<- Bool.not_eq_true] at h1
  exact absurd (by simpa using hi) h1
 .exact⟨_,ho,h1⟩
theorem k9 {f:Nat} (gu:(Region.ready .any ops listed).isEmpty=false) (bF:(Region.ready .any ops listed).all (λi=>decide (i<ops.size))=true)
 (h:opL (λi o=>(Region.ready .any ops listed).contains i=false∨
  nw ops o s (λs=>VStep P G tr o s (nS P G tr ops K f (listed.setIfInBounds i true))) (λs=>nS P G tr ops K f (listed.setIfInBounds i true) (s.put o.dst .sk))) 0 ops.toList):nS P G tr ops K (f+1) listed s:=
 qg gu bF (.done h)
theorem vN (h0:(Region.ready .any ops listed).isEmpty=true) (h:GsK ops K s):nS P G tr ops K 0 listed s:=⟨by simpa using h0,h⟩
theorem lb {p:Nat->Oper->Prop} {i:Nat} {o:Oper} {l:List Oper}:opL p i (o::l)=(p i o/\opL p (i+1) l):=rfl
theorem mY {p:Nat->Oper->Prop} {i:Nat}:opL p i []=True:=rfl
theorem Dq (h0:(Region.ready .any ops listed).isEmpty=true) (h:K s):nS P G tr ops K 0 listed s:=⟨by simpa using h0,.done h⟩
theorem MS {id:Nat} (hc:tr.contains (2860000+id)=true) {n:Nat} (hn:ops.size=n) (h:nS P G tr ops K n (List.replicate n false).toArray s) (hq:Ev tr id=false:=by rfl):vpa P G tr id ops K s:=by
 unfold vpa apN;rw[hq,if_pos hc];subst hn;refine .done ?_;have:oO 0 ops.size=(List.replicate ops.size false).toArray:=by simp[oO]
 rw[this];exact h
theorem TA {f:Nat} {A:S->Prop} (hK:∀ s,A s->K s) (h:∀ K':S->Prop,(∀ s,A s->K' s)->nS P G tr ops K' f listed s):nS P G tr ops K f listed s:=h K hK
theorem yA {id m n:Nat} (hc:tr.contains (2860000+id)=false) (hm:Mn ops=m) (hn:ops.size=n) (h:GsK ops (λs=>eU P G tr ops (ops.toList.take m) s (nS P G tr ops K (n - m) (oO m n))) s) (hq:Ev tr id=false:=by rfl):vpa P G tr id ops K s:=by unfold vpa apN;rw[hq,hc];subst hm;subst hn;exact h
theorem Ym {id:Nat} (hq:Ev tr id=true) (h:zS P G tr ops K ops.toList s):vpa P G tr id ops K s:=by unfold vpa;rw[if_pos hq];exact h
theorem TB:zS P G tr ops K [] s=GsK ops K s:=rfl
theorem Pr {o:Oper} {r:List Oper}:zS P G tr ops K (o::r) s=GsK ops (λs=>nw ops o s (λs=>VStep P G tr o s (zS P G tr ops K r)) (λs=>zS P G tr ops K r (s.put o.dst .sk))) s:=rfl
theorem wU {o:Oper} {r:List Oper} (h:nw ops o s (λs=>VStep P G tr o s (zS P G tr ops K r)) (λs=>zS P G tr ops K r (s.put o.dst .sk))):zS P G tr ops K (o::r) s:=.done h
theorem jy {dst:Option Tmp} {op:Op} {ty:TypeId} {pos:String} {af:Array Edge} {yes no:S->Prop}:nw ops ⟨dst,op,ty,pos,af,none⟩ s yes no=yes s:=rfl
end
section
variable {P:Program} {G:Gl}
def ail (P:Program) (k:Nat) (R:V->List (List V)->Prop) (rs:List ResultVar) (e:VE) (s:S):Prop:=∃ r b1,R r b1/\vJ P k r b1 rs e s
theorem yB {f:FuncId} {fn:Func} {c:Code} {args:List V} {b0:List (List V)} {R:V->List (List V)->Prop} (tr:List Nat) (hm:P.follows .mixedOrders=true) (hf:P.funcs[f]?=some fn) (hb:fn.body=some c) (gZ:(fn.name== "runtime.NumGoroutine")=false)
 {rs:List ResultVar} (Az:fn.results.toList=rs) {n:Nat} (hn:fn.ntmps=n) (pS:cok n tr c=true) (cH:args.length<=n) (iV:∀ r b1,R r b1->r.compT=true) {k:Nat} (hk:ou tr=k) (um:b0.length=k)
 (cP:eM args b0=true) (fO:∀ r b1,R r b1->b0.length<=b1.length)
 (h:gJ P G tr k c (ail P k R rs) ⟨frm 0 args,bxs b0,k⟩):FnE P G f args b0 R:=by
 subst hn;subst Az;subst um;simp only[eM,aA,a8] at cP;refine XW tr hm hf hb gZ cH pS iV ⟨λx hx=>V.ltB_ok (cP.1 x hx),λb hb x hx=>V.ltB_ok (cP.2 b hb x hx),fO⟩ ?_;rw[yv] at h;exact h
theorem Pt {s:S} {args cargs:List V} {K:S->V->Prop} {r:V} {Y Y':List (List V)} (hf:YB P G cargs Y r Y') (dC:args.map V.fz=cargs)
 (sg:0<Y.length) (cH:Y'.length=Y.length) (bF:ltL Y.length Y') (hn:Y.length<=s.nb) (hb:BL 0 Y s.bx) (hr:∀ ρ:Nat->Nat,(∀ i,i<Y.length->ρ i=i)->r.ren ρ=r)
 (hK:∀ bx':Nat->List V,(∀ j,Y.length<=j->bx' j=s.bx j)->BL 0 Y' bx'->K ⟨s.fr,bx',s.nb⟩ r):x9 P G s (.yl 0) args K:=by
 unfold x9;simp only;have hρ:∀ i,i<Y.length->rho (List.range Y.length) s.nb i=i:=λi hi=>FD hi;have ng:∀ i b,Y[i]?=some b->s.bx i=b:=λi b h=>by have hi:=(am.1 h).1;have:=BL.get hb i hi;rw[ao] at this;rw[<- this,aG,h];rfl
 refine⟨List.range Y.length,cargs,Y,_,hf.toE,?_,⟨by simp,j6,?_⟩,?_,λr' b' e=>?_⟩
 .rw[dC,iS λx hx=>tK (hf.1.1 x hx) hρ]
 .match Y.length,sg with
  |k+1,_=>rw[List.range_succ_eq_map];rfl
 .refine uD hρ _ 0 (by omega) hf.1.2.1 (uB _ _ _ _ λi b h=>?_)
  have hi:=(am.1 h).1;rw[ao];exact⟨by omega,ng i b h⟩
 .rw[e.1,e.2]
  rw[rM hρ Y' 0 _ (by omega) bF,qT,hr _ hρ,cH,kw,en];refine hK _ (λj hj=>?_) (Fo _ _ _ λi b h=>?_)
  .simp only[ar,bX,ao]
   rw[if_neg (by omega)]
  .have hi:=(am.1 h).1
   simp only[ar,bX,ao,lF];rw[if_pos (by omega),aG,h];rfl
theorem uG {s:S} {f:V} {args all cargs:List V} {g:FuncId} {K:S->V->Prop} {R:V->List (List V)->Prop} {b0:List (List V)} (hc:eB f args=some (g,all)) (hf:FnE P G g cargs b0 R) (dC:all.map V.fz=cargs)
 (hn:b0.length=s.nb) (hb:BL 0 b0 s.bx) (hK:∀ r b1,R r b1->K { s with bx:=λi=>if i<b1.length then b1.getD i [] else s.bx i,nb:=b1.length } r):mK P G s f args K:=by
 unfold mK;simp only[hc];have hid:rho (List.range b0.length) s.nb=λi=>i:=by
  funext i;unfold rho;by_cases hi:i<b0.length
  .rw[if_pos (by simpa using hi)];simp[hi]
  .rw[if_neg (by simpa using hi),jC];omega
 have ng:∀ i b,b0[i]?=some b->s.bx i=b:=λi b h=>by have hi:=(am.1 h).1;have:=BL.get hb i hi;rw[ao] at this;rw[<- this,aG,h];rfl
 refine⟨List.range b0.length,cargs,b0,R,hf,?_,⟨by simp,j6⟩,?_,λr b1 hR=>?_⟩
 .rw[dC,hid];exact(iS λx _=>Fp x).symm
 .rw[hid]
  refine uB _ _ _ _ λi b h=>?_;have hi:=(am.1 h).1;rw[ao];exact⟨by omega,ng i b h⟩
 .have fO:=hf.2.1.2.2 r b1 hR
  rw[hid,qT,Fp];have e:s.nb+(b1.length - b0.length)=b1.length:=by omega
  rw[e];have:=hK r b1 hR;simpa using this
theorem K9 {s:S} {T e':TypeId} {i:TI} {b k len cap q sz o blk:Nat} {es:List (List C)} {cs:List C} {v:V} {t:Option Tmp} {dO:Option Tmp} {K:S->Prop} (hT:ti P T=some i) (hs:i.size=sz) (hb:b<s.nb) (hm:dE (s.bx b)=false)
 (hk:(s.bx b)[k]?=some (.gg (.slice (some ⟨blk,0,none⟩) len cap) (some (e',sz)) es)) (hv:v.cs=some cs) (hc:cs.length=sz) (hz:0<sz) (hq:q<es.length) (ho:q*sz=o)
 (hK:K ((let s':=s.use t;{ s' with bx:=up s.bx b ((s.bx b).set k (.gg (.slice (some ⟨blk,0,none⟩) len cap) (some (e',sz)) (es.set q cs))) }:S).put dO .sk)):oV (ti P T) t dO (.c (.ex (.pointer (some ⟨blk,o,none⟩)))) v s K:=by
 subst hs;simp only[oV,hT];exact .inr ⟨b,k,len,cap,q,e',es,cs,⟨hb,hm,hk,hv,hc,hz,hq,ho⟩,hK⟩
theorem Pu {α:Type} {l m:List α} {seen:List Nat} (hm:m.map some=seen.map (λj=>l[j]?)) (hn:seen.Nodup) (bF:∀ j∈seen,j<l.length) (dC:∀ j,j<l.length->j∈seen):m.Perm l:=by
 have h1:seen.Perm (List.range l.length):=(jp hn j6).2 λj=>⟨λh=>df.2 (bF j h),λh=>dC j (df.1 h)⟩;have h2:=h1.map (λj=>l[j]?);rw[<- hm] at h2;have h3:(List.range l.length).map (λj=>l[j]?)=l.map some:=by apply List.ext_getElem (by simp);intro i h1 h2;simp at h1 h2 ⊢
 rw[h3] at h2;have h4:=h2.filterMap id;simpa[List.filterMap_map] using h4
