/- Values without memory: steps of a walk at a slice on none of whose elements anybody relies. -/
import Derived.Test.YtegbpjodbjhjeaaGreatDoorVlRunB
import Derived.Test.YtegbpjodbjhjeaaGreatDoorVlFlb
import Derived.Test.YtegbpjodbjhjeaaGreatDoorVlEnv
set_option linter.all false
namespace Go.Vl
open Go Go.RowKit
section
variable {P:Program} {T e:TypeId} {i j:TI} {K:V→Prop} {blk off len cap k n' sz:Nat} {E:Option (TypeId×Nat)} {es:List (List C)} {s:S}
theorem Ml {α:Type} {sz:Nat} {es:List (List α)} (h:∀ e∈es,e.length=sz) {q:Nat} {x:List α} (hx:es[q]?=some x):q*sz+sz≤es.flatten.length∧(es.flatten.drop (q*sz)).take sz=x:=by
 obtain⟨hq,rfl⟩:=ak.1 hx
 rw[bD es h]
 refine⟨by have:=aS sz (show q+1≤es.length from hq);rw[cU,Nat.one_mul] at this;exact this,?_⟩
 rw[← mM h (Nat.le_of_lt hq),bX hq,dY]
 exact gq (h _ (aF hq))
theorem aek {b o q:Nat} {x:List C} (hT:ti P T=some i) (lH:i.agg=true) (hs:i.size=sz) (hb:b<s.nb) (hm:dc (s.bx b)=false) (hk:(s.bx b)[k]?=some (.gs (some (.slice (some ⟨blk,0,none⟩) len cap)) E es)) (hl:∀ x∈es,x.length=sz)
 (hx:es[q]?=some x) (ho:o=q*sz) (hK:K (.agg x)):dH P T s (.c (.ex (.pointer (some ⟨blk,o,none⟩)))) K:=by
 subst ho;subst hs
 simp only[dH,hT]
 refine .inr ⟨b,k,len,cap,E,es,⟨hb,hm,hk⟩,?_⟩
 obtain⟨h1,h2⟩:=Ml hl hx
 unfold eA
 rw[if_pos lH]
 exact⟨h1,by rw[h2];exact hK⟩
theorem aaZ {b o q r:Nat} {x:List C} {c:C} (hT:ti P T=some i) (lH:i.agg=false) (hb:b<s.nb) (hm:dc (s.bx b)=false) (hk:(s.bx b)[k]?=some (.gs (some (.slice (some ⟨blk,0,none⟩) len cap)) E es)) (hl:∀ x∈es,x.length=sz)
 (hx:es[q]?=some x) (hc:x[r]?=some c) (ho:o=q*sz+r) (hK:K (.c c)):dH P T s (.c (.ex (.pointer (some ⟨blk,o,none⟩)))) K:=by
 subst ho
 simp only[dH,hT]
 refine .inr ⟨b,k,len,cap,E,es,⟨hb,hm,hk⟩,?_⟩
 obtain⟨h1,h2⟩:=Ml hl hx
 have hr:r<sz:=by
  have:=(ak.1 hc).1
  rw[hl x (bh hx)] at this;exact this
 have zY:es.flatten[q*sz+r]?=some c:=by
  rw[← hc,← h2,cC,if_pos hr,ci]
 unfold eA
 rw[if_neg (by rw[lH];simp),zY]
 exact hK
theorem Mm {lo hi mx:Option V} {l h m:Nat} (hT:ti P T=some i) (hk:i.kd=.slice e) (hE:ti P e=some j) (hs:j.size=sz) (h1:gX 0 lo=some (l:Nat)) (h2:gX len hi=some (h:Nat)) (h3:gX cap mx=some (m:Nat))
 (hlh:l≤h) (hhm:h≤m) (hmc:m≤cap) (hx:mx.isSome=true→hi.isSome=true) (hK:K (.c (.ex (.slice (some ⟨blk,if m=l then off else off+l*sz,none⟩) (h - l) (m - l))))):gY P T (.c (.ex (.slice (some ⟨blk,off,none⟩) len cap))) lo hi mx K:=by
 obtain⟨kd,a,b',c,d,f,g⟩:=i;simp only at hk;subst hk;subst hs
 simp only[gY,hT,hE,h1,h2,h3,iE]
 exact⟨⟨by omega,by omega,by omega,by omega,hx⟩,hK⟩
theorem Xq {b q m cap2:Nat} {e':TypeId} {K:S→V→Prop} (hT:ti P T=some i) (hk:i.kd=.slice e) (hE:ti P e=some j) (hs:j.size=sz) (hz:0<sz) (hb:b<s.nb) (hm:dc (s.bx b)=false) (eo:(s.bx b)[k]?=some (.gs (some (.slice (some ⟨blk,0,none⟩) es.length cap)) (some (e',sz)) es))
 (ho:m=0∨off=q*sz) (h1:q+m≤es.length) (h2:n'+m≤es.length) (h3:m≤cap2)
 (hK:K { s with bx:=up s.bx b ((s.bx b).set k (.gs (some (.slice (some ⟨blk,0,none⟩) es.length cap)) (some (e',sz)) (es.take n'++(es.drop q).take m++es.drop (n'+m)))) } (.c (.ex (.slice (some ⟨blk,0,none⟩) (n'+m) cap)))) :
 eV P s K [T,T] [.c (.ex (.slice (some ⟨blk,0,none⟩) n' cap)),.c (.ex (.slice (some ⟨blk,off,none⟩) m cap2))]:=by
 obtain⟨kd,a1,a2,a3,a4,a5,a6⟩:=i;simp only at hk;subst hk;subst hs
 simp only[eV,hT,hE]
 exact⟨b,k,q,some (e',j.size),es,⟨trivial,trivial,hz,⟨e',rfl⟩,hb,hm,eo,ho,h1,h2,h3⟩,hK⟩
theorem SL {b q m cap2:Nat} {e':TypeId} {z:List C} {K:S→Prop} (hT:ti P T=some i) (hk:i.kd=.slice e) (hE:ti P e=some j) (hs:j.size=sz) (hzr:j.zero=some z) (hz:0<sz) (uD:z.length=sz) (hb:b<s.nb) (hm:dc (s.bx b)=false)
 (eo:(s.bx b)[k]?=some (.gs (some (.slice (some ⟨blk,0,none⟩) es.length cap)) (some (e',sz)) es)) (ho:m=0∨off=q*sz) (h1:q+m≤es.length)
 (hK:K { s with bx:=up s.bx b ((s.bx b).set k (.gs (some (.slice (some ⟨blk,0,none⟩) es.length cap)) (some (e',sz)) (es.take q++List.replicate m z++es.drop (q+m)))) }) :
 iJ P s K [T] [.c (.ex (.slice (some ⟨blk,off,none⟩) m cap2))]:=by
 obtain⟨kd,a1,a2,a3,a4,a5,a6⟩:=i;simp only at hk;subst hk
 obtain⟨b0,b1,b2,b3,b4,b5,b6⟩:=j;simp only at hs hzr;subst hs;subst hzr
 simp only[iJ,hT,hE]
 exact⟨b,k,q,cap,some (e',b1),es,⟨hz,uD,⟨e',rfl⟩,hb,hm,eo,ho,h1⟩,hK⟩
theorem Kw {G:Gl} {t d:Nat} {y:Operand} {v:Value} {y1:List C} {by_:Nat} {z:List C} (hT:ti P T=some i) (hk:i.kd=.slice e) (hE:ti P e=some j) (hs:j.size=sz) (hb:j.bytes=by_) (hz:j.zero=some z) (hp:0<sz) (uD:z.length=sz) (h1:s.fr t=.c (.ex v)) (h2:s.fr d=.gg v E es)
 (h0:t≠d∧y≠.tmp t∧y≠.tmp d) (hy:(vw s (ev G s y)).fz=.c (.sl [y1])) (Y8:E=none∨E=some (e,sz)) (pT:∀ x∈es,x.length=sz) (Gd:y1.length=sz) (hm:(es.length+1)*by_≤140737488355328) (hm2:es.length+1≤9223372036854775807)
 (hK:K (.gs none (some (e,sz)) (es++[y1]))):jO P G s (some d) [T,T] [.tmp t,y] K:=by
 obtain⟨kd',a1,a2,a3,a4,a5,a6⟩:=i;simp only at hk;subst hk
 obtain⟨b0,b1,b2,b3,b4,b5,b6⟩:=j;simp only at hs hb hz;subst hs;subst hb;subst hz
 unfold jO
 simp only[h1,h2]
 refine⟨⟨h0.1,trivial,h0.2.1,h0.2.2⟩,?_⟩
 rw[hy]
 simp only[nf,hT,hE]
 exact⟨trivial,⟨hp,uD,Y8,pT⟩,⟨hm,hm2,Gd⟩,hK⟩
end
section
variable {P:Program} {G:Gl} {tr:List Nat} {ops:Array Oper} {K:S→Prop} {listed:Array Bool} {s:S}
def opL (p:Nat→Oper→Prop):Nat→List Oper→Prop
 |_,[]=>True
 |i,o::l=>p i o∧opL p (i+1) l
theorem SN {p:Nat→Oper→Prop}:∀ {l:List Oper} {k:Nat},opL p k l→∀ i o,l[i]?=some o→p (k+i) o
 |[],_,_,i,o,h=>by simp at h
 |x::l,k,h,i,o,ho=>by
  cases i with
  |zero=>simp at ho;subst ho;exact h.1
  |succ i=>
   have:=SN h.2 i o (by simpa using ho)
   rw[show k+(i+1)=k+1+i by omega];exact this
theorem GsK.mono {K K':S→Prop} (hk:∀ s,K s→K' s) {s:S} (h:GsK ops K s):GsK ops K' s:=by
 induction h with
 |done h=>exact .done (hk _ h)
 |warm b k h1 h2 _ ih=>exact .warm b k h1 h2 ih
 |warmX b k h1 h2 _ ih=>exact .warmX b k h1 h2 ih
 |warmT t h1 _ ih=>exact .warmT t h1 ih
 |name b k h1 h2 h3 _ ih=>exact .name b k h1 h2 h3 ih
 |unname b k h1 h2 _ ih=>exact .unname b k h1 h2 ih
 |split b k q h1 h2 h3 h4 _ ih=>exact .split b k q h1 h2 h3 h4 ih
 |box b k h1 h2 h3 _ ih=>exact .box b k h1 h2 h3 ih
 |boxT t h1 _ ih=>exact .boxT t h1 ih
 |cool b k h1 h2 _ ih=>exact .cool b k h1 h2 ih
 |splitB t b k h1 h2 h3 h4 _ ih=>exact .splitB t b k h1 h2 h3 h4 ih
 |join b k b' k' h1 h2 h3 h4 h5 h6 h7 _ ih=>exact .join b k b' k' h1 h2 h3 h4 h5 h6 h7 ih
 |coolT t h1 _ ih=>exact .coolT t h1 ih
 |joinT b k t blk len m cap h1 h2 h3 h4 h5 _ ih=>exact .joinT b k t blk len m cap h1 h2 h3 h4 h5 ih
theorem qf {f:Nat} (fO:(Region.ready .any ops listed).isEmpty=false) (bB:(Region.ready .any ops listed).all (fun i=>decide (i<ops.size))=true)
 (h:GsK ops (fun s=>opL (fun i o=>(Region.ready .any ops listed).contains i=false∨
  nl ops o s (fun s=>VStep P G tr o s (nK P G tr ops K f (listed.setIfInBounds i true))) (fun s=>nK P G tr ops K f (listed.setIfInBounds i true) (s.put o.dst .sk))) 0 ops.toList) s):nK P G tr ops K (f+1) listed s:=by
 refine⟨fun h0=>absurd fO (by rw[h0];decide),h.mono fun s h i hi=>?_⟩
 have Jc:i<ops.size:=by simpa using aU.1 bB i hi
 have ho:ops[i]?=some ops[i]:=aA Jc
 have:=SN h i ops[i] (by rw[aV];exact ho)
 rw[ah] at this
 rcases this with h1 | h1
 ·rw[← Bool.not_eq_true] at h1
  exact absurd (by simpa using hi) h1
 ·exact⟨_,ho,h1⟩
theorem k6 {f:Nat} (fO:(Region.ready .any ops listed).isEmpty=false) (bB:(Region.ready .any ops listed).all (fun i=>decide (i<ops.size))=true)
 (h:opL (fun i o=>(Region.ready .any ops listed).contains i=false∨
  nl ops o s (fun s=>VStep P G tr o s (nK P G tr ops K f (listed.setIfInBounds i true))) (fun s=>nK P G tr ops K f (listed.setIfInBounds i true) (s.put o.dst .sk))) 0 ops.toList):nK P G tr ops K (f+1) listed s:=
 qf fO bB (.done h)
theorem vC (h0:(Region.ready .any ops listed).isEmpty=true) (h:GsK ops K s):nK P G tr ops K 0 listed s:=⟨by simpa using h0,h⟩
theorem k7 {p:Nat→Oper→Prop} {i:Nat} {o:Oper} {l:List Oper}:opL p i (o::l)=(p i o∧opL p (i+1) l):=rfl
theorem mR {p:Nat→Oper→Prop} {i:Nat}:opL p i []=True:=rfl
theorem C0 (h0:(Region.ready .any ops listed).isEmpty=true) (h:K s):nK P G tr ops K 0 listed s:=⟨by simpa using h0,.done h⟩
theorem Mn {id:Nat} (hc:tr.contains (2860000+id)=true) {n:Nat} (hn:ops.size=n) (h:nK P G tr ops K n (List.replicate n false).toArray s) (hq:D7 tr id=false:=by rfl):vpa P G tr id ops K s:=by
 unfold vpa apN
 rw[hq,if_pos hc]
 subst hn
 refine .done ?_
 have:oL 0 ops.size=(List.replicate ops.size false).toArray:=by simp[oL]
 rw[this]
 exact h
theorem SO {f:Nat} {A:S→Prop} (hK:∀ s,A s→K s) (h:∀ K':S→Prop,(∀ s,A s→K' s)→nK P G tr ops K' f listed s):nK P G tr ops K f listed s:=h K hK
theorem yj {id m n:Nat} (hc:tr.contains (2860000+id)=false) (hm:LN ops=m) (hn:ops.size=n) (h:GsK ops (fun s=>eW P G tr ops (ops.toList.take m) s (nK P G tr ops K (n - m) (oL m n))) s) (hq:D7 tr id=false:=by rfl):vpa P G tr id ops K s:=by
 unfold vpa apN
 rw[hq,hc]
 subst hm;subst hn
 exact h
theorem Xr {id:Nat} (hq:D7 tr id=true) (h:zi P G tr ops K ops.toList s):vpa P G tr id ops K s:=by
 unfold vpa
 rw[if_pos hq];exact h
theorem SQ:zi P G tr ops K [] s=GsK ops K s:=rfl
theorem OY {o:Oper} {r:List Oper}:zi P G tr ops K (o::r) s=GsK ops (fun s=>nl ops o s (fun s=>VStep P G tr o s (zi P G tr ops K r)) (fun s=>zi P G tr ops K r (s.put o.dst .sk))) s:=rfl
theorem wO {o:Oper} {r:List Oper} (h:nl ops o s (fun s=>VStep P G tr o s (zi P G tr ops K r)) (fun s=>zi P G tr ops K r (s.put o.dst .sk))):zi P G tr ops K (o::r) s:=.done h
theorem jz {dst:Option Tmp} {op:Op} {ty:TypeId} {pos:String} {af:Array Edge} {yes no:S→Prop}:nl ops ⟨dst,op,ty,pos,af,none⟩ s yes no=yes s:=rfl
end
section
variable {P:Program} {G:Gl}
def agS (P:Program) (k:Nat) (R:V→List (List V)→Prop) (rs:List ResultVar) (e:VE) (s:S):Prop:=∃ r b1,R r b1∧vt P k r b1 rs e s
theorem A0 {f:FuncId} {fn:Func} {c:Code} {args:List V} {b0:List (List V)} {R:V→List (List V)→Prop} (tr:List Nat) (hm:P.follows .mixedOrders=true) (hf:P.funcs[f]?=some fn) (hb:fn.body=some c) (gQ:(fn.name== "runtime.NumGoroutine")=false)
 {rs:List ResultVar} (xI:fn.results.toList=rs) {n:Nat} (hn:fn.ntmps=n) (pQ:cok n tr c=true) (cu:args.length≤n) (iU:∀ r b1,R r b1→r.compT=true) {k:Nat} (hk:ol tr=k) (tY:b0.length=k)
 (cD:eN args b0=true) (fy:∀ r b1,R r b1→b0.length≤b1.length)
 (h:gR P G tr k c (agS P k R rs) ⟨frm 0 args,bxs b0,k⟩):FnE P G f args b0 R:=by
 subst hn
 subst xI
 subst tY
 simp only[eN,aI,aU] at cD
 refine W3 tr hm hf hb gQ cu pQ iU ⟨fun x hx=>V.ltB_ok (cD.1 x hx),fun b hb x hx=>V.ltB_ok (cD.2 b hb x hx),fy⟩ ?_
 rw[yg] at h;exact h
theorem OZ {s:S} {args cargs:List V} {K:S→V→Prop} {r:V} {Y Y':List (List V)} (hf:YB P G cargs Y r Y') (dh:args.map V.fz=cargs)
 (q0:0<Y.length) (cu:Y'.length=Y.length) (bB:ltL Y.length Y') (hn:Y.length≤s.nb) (hb:BL 0 Y s.bx) (hr:∀ ρ:Nat→Nat,(∀ i,i<Y.length→ρ i=i)→r.ren ρ=r)
 (hK:∀ bx':Nat→List V,(∀ j,Y.length≤j→bx' j=s.bx j)→BL 0 Y' bx'→K ⟨s.fr,bx',s.nb⟩ r):xK P G s (.yl 0) args K:=by
 unfold xK
 simp only
 have hρ:∀ i,i<Y.length→rho (List.range Y.length) s.nb i=i:=fun i hi=>E4 hi
 have lR:∀ i b,Y[i]?=some b→s.bx i=b:=fun i b h=>by
  have hi:=(ak.1 h).1
  have:=BL.get hb i hi
  rw[ah] at this
  rw[← this,aB,h];rfl
 refine⟨List.range Y.length,cargs,Y,r,Y',hf,?_,⟨by simp,ke,?_⟩,?_,?_⟩
 ·rw[dh,iT fun x hx=>sZ (hf.1.1 x hx) hρ]
 ·match Y.length,q0 with
  |k+1,_=>rw[List.range_succ_eq_map];rfl
 ·refine ui hρ _ 0 (by omega) hf.1.2.1 (ug _ _ _ _ fun i b h=>?_)
  have hi:=(ak.1 h).1
  rw[ah]
  exact⟨by omega,lR i b h⟩
 ·rw[rC hρ Y' 0 _ (by omega) bB,qL,hr _ hρ,cu,kB,dR]
  refine hK _ (fun j hj=>?_) (ET _ _ _ fun i b h=>?_)
  ·simp only[ar,fZ,ah]
   rw[if_neg (by omega)]
  ·have hi:=(ak.1 h).1
   simp only[ar,fZ,ah,lF]
   rw[if_pos (by omega),aB,h];rfl
theorem ul {s:S} {f:V} {args all cargs:List V} {g:FuncId} {K:S→V→Prop} {R:V→List (List V)→Prop} {b0:List (List V)} (hc:eI f args=some (g,all)) (hf:FnE P G g cargs b0 R) (dh:all.map V.fz=cargs)
 (hn:b0.length=s.nb) (hb:BL 0 b0 s.bx) (hK:∀ r b1,R r b1→K { s with bx:=fun i=>if i<b1.length then b1.getD i [] else s.bx i,nb:=b1.length } r):og P G s f args K:=by
 unfold og
 simp only[hc]
 have hid:rho (List.range b0.length) s.nb=fun i=>i:=by
  funext i
  unfold rho
  by_cases hi:i<b0.length
  ·rw[if_pos (by simpa using hi)];simp[hi]
  ·rw[if_neg (by simpa using hi),jL];omega
 have lR:∀ i b,b0[i]?=some b→s.bx i=b:=fun i b h=>by
  have hi:=(ak.1 h).1
  have:=BL.get hb i hi
  rw[ah] at this
  rw[← this,aB,h];rfl
 refine⟨List.range b0.length,cargs,b0,R,hf,?_,⟨by simp,ke⟩,?_,fun r b1 hR=>?_⟩
 ·rw[dh,hid];exact(iT fun x _=>EU x).symm
 ·rw[hid]
  refine ug _ _ _ _ fun i b h=>?_
  have hi:=(ak.1 h).1
  rw[ah]
  exact⟨by omega,lR i b h⟩
 ·have fy:=hf.2.1.2.2 r b1 hR
  rw[hid,qL,EU]
  have e:s.nb+(b1.length - b0.length)=b1.length:=by omega
  rw[e]
  have:=hK r b1 hR
  simpa using this
theorem Kx {s:S} {T e':TypeId} {i:TI} {b k len cap q sz o blk:Nat} {es:List (List C)} {cs:List C} {v:V} {t:Option Tmp} {dO:Option Tmp} {K:S→Prop} (hT:ti P T=some i) (hs:i.size=sz) (hb:b<s.nb) (hm:dc (s.bx b)=false)
 (hk:(s.bx b)[k]?=some (.gg (.slice (some ⟨blk,0,none⟩) len cap) (some (e',sz)) es)) (hv:v.cs=some cs) (hc:cs.length=sz) (hz:0<sz) (hq:q<es.length) (ho:q*sz=o)
 (hK:K ((let s':=s.use t;{ s' with bx:=up s.bx b ((s.bx b).set k (.gg (.slice (some ⟨blk,0,none⟩) len cap) (some (e',sz)) (es.set q cs))) }:S).put dO .sk)):oR (ti P T) t dO (.c (.ex (.pointer (some ⟨blk,o,none⟩)))) v s K:=by
 subst hs
 simp only[oR,hT]
 exact .inr ⟨b,k,len,cap,q,e',es,cs,⟨hb,hm,hk,hv,hc,hz,hq,ho⟩,hK⟩
theorem O0 {α:Type} {l m:List α} {seen:List Nat} (hm:m.map some=seen.map (fun j=>l[j]?)) (hn:seen.Nodup) (bB:∀ j∈seen,j<l.length) (dh:∀ j,j<l.length→j∈seen):m.Perm l:=by
 have h1:seen.Perm (List.range l.length):=(js hn ke).2 fun j=>⟨fun h=>cQ.2 (bB j h),fun h=>dh j (cQ.1 h)⟩
 have h2:=h1.map (fun j=>l[j]?)
 rw[← hm] at h2
 have h3:(List.range l.length).map (fun j=>l[j]?)=l.map some:=by
  apply List.ext_getElem (by simp)
  intro i h1 h2
  simp at h1 h2 ⊢
 rw[h3] at h2
 have h4:=h2.filterMap id
 simpa[List.filterMap_map] using h4
