/- Layer 16: the calls. -/
import Derived.Test.YtegbpjodbjhjeaaGreatDoorVlQ1
set_option maxHeartbeats 1000000
set_option linter.all false
namespace Go.Proofs.YtegbpjodbjhjeaaGreatDoor
open Go Go.Vl
open Kp (Pol Ty Ru Qu poC tyC ruC quC)
variable {G:Gl}
set_option maxRecDepth 10000
theorem dj {P:Program} {G:Gl} {s:S} {f:V} {args all cargs b:List V} {g:FuncId} {r:V} {K:V->Prop} (q:Nat) (hc:eB f args=some (g,all)) (hf:FnB P G g cargs [b] r [b]) (dC:∀ N,all.map V.fz=cargs.map (V.ren (rho [q] N))) (hq:q<s.nb) (hb:s.bx q=b)
 (hbr:∀ σ:Nat->Nat,b.map (V.ren σ)=b) (hr:∀ σ:Nat->Nat,r.ren σ=r) (hK:K r):mc P G s f args K:=by
 unfold mc;simp only[hc];exact⟨[q],cargs,[b],r,hf,dC,⟨rfl,by simp⟩,λN=>⟨⟨hq,by rw[hbr];exact hb⟩,trivial⟩,hr,hK⟩
theorem gq {P:Program} {G:Gl} {KP:Value->S->Prop} {s:S} {o:Oper} {f:Operand} {args:Array Operand} {ts:Array TypeId} {g:FuncId} {all cargs b:List V} {pv:Value} (q:Nat)
 (ho:o.op=.call { callee:=.value f,args:=args,argTypes:=ts })
 (hc:eB (ev G s f) (args.toList.map (ev G s))=some (g,all)) (hf:FnX P G g cargs [b] pv [b]) (dC:all.map V.fz=cargs.map (V.ren (rho [q] s.nb))) (hq:q<s.nb) (hb:s.bx q=b) (hbr:∀ σ:Nat->Nat,b.map (V.ren σ)=b)
 (hK:KP pv s):sC P G s o KP:=by
 have h0:rho [q] s.nb 0=q:=rfl;unfold sC;simp only[ho,hc];refine⟨[q],cargs,[b],pv,[b],hf,dC,⟨rfl,by simp⟩,⟨⟨by rw[h0];exact hq,by rw[h0,hbr];exact hb⟩,trivial⟩,?_⟩;have e:fC (rho [q] s.nb) 0 [b] s.bx=s.bx:=by show up s.bx (rho [q] s.nb 0) (b.map (V.ren (rho [q] s.nb)))=s.bx;rw[h0,hbr,<- hb,qa]
 rw[e];exact hK
theorem js {P:Program} {G:Gl} {KP:Value->S->Prop} {s:S} {o:Oper} {rr:List Oper} {f:Operand} {args:Array Operand} {ts:Array TypeId} {g:FuncId} {all cargs b:List V} {pv:Value} (q:Nat)
 (ho:o.op=.call { callee:=.value f,args:=args,argTypes:=ts })
 (hc:eB (ev G s f) (args.toList.map (ev G s))=some (g,all)) (hf:FnX P G g cargs [b] pv [b]) (dC:all.map V.fz=cargs.map (V.ren (rho [q] s.nb))) (hq:q<s.nb) (hb:s.bx q=b) (hbr:∀ σ:Nat->Nat,b.map (V.ren σ)=b)
 (hK:KP pv s):wO P G s o rr KP:=by
 have h0:rho [q] s.nb 0=q:=rfl;unfold wO;simp only[ho,hc];refine⟨[q],cargs,[b],pv,[b],hf,dC,⟨rfl,by simp⟩,⟨⟨by rw[h0];exact hq,by rw[h0,hbr];exact hb⟩,trivial⟩,?_⟩;have e:fC (rho [q] s.nb) 0 [b] s.bx=s.bx:=by show up s.bx (rho [q] s.nb 0) (b.map (V.ren (rho [q] s.nb)))=s.bx;rw[h0,hbr,<- hb,qa]
 rw[e];exact hK
theorem nP {P:Program} {G:Gl} {tr:List Nat} {ops:Array Oper} {s:S} {K:S->Prop} {n:Nat} {l1:List Oper} {o1 o2:Oper} {r:List Oper} (h:kp ops=n) (h1:ops.toList.take n=l1) (h2:ops.toList.drop n=o1::o2::r)
 (hv:eU P G tr ops l1 s λs'=>eU P G tr ops (o1::o2::r) s' K/\eU P G tr ops (o2::o1::r) s' K):G0 P G tr ops s K:=by
 unfold G0;rw[h,h1,h2];exact hv
theorem bz {p:Pol} {s:Sy} {c:Cl} (σ:Nat->Nat):(mB p s c).map (V.ren σ)=mB p s c:=adI
theorem nQ {P:Program} {G:Gl} {s:S} {f:V} {args all cargs:List V} {g:FuncId} {r:V} {K:V->Prop} (hc:eB f args=some (g,all)) (hf:FnB P G g cargs [] r []) (dC:∀ N,all.map V.fz=cargs.map (V.ren (rho [] N)))
 (hr:∀ σ:Nat->Nat,r.ren σ=r) (hK:K r):mc P G s f args K:=by
 unfold mc;simp only[hc];exact⟨[],cargs,[],r,hf,dC,⟨rfl,ir⟩,λN=>trivial,hr,hK⟩
theorem vo {P:Program} {G:Gl} {KP:Value->S->Prop} {s:S} {o:Oper} {r:List Oper} {f:Operand} {args:Array Operand} {ts:Array TypeId} {g:FuncId} {all cargs:List V} {pv:Value}
 (ho:o.op=.call { callee:=.value f,args:=args,argTypes:=ts })
 (hc:eB (ev G s f) (args.toList.map (ev G s))=some (g,all)) (hf:FnX P G g cargs [] pv []) (dC:all.map V.fz=cargs.map (V.ren (rho [] s.nb))) (hK:KP pv s):wO P G s o r KP:=by
 unfold wO;simp only[ho,hc];exact⟨[],cargs,[],pv,[],hf,dC,⟨rfl,by simp⟩,trivial,hK⟩
theorem okb {α β:Type} {a:α} {f:α->Except Int β}:(Except.ok a >>=f)=f a:=rfl
theorem erb {α β:Type} {e:Int} {f:α->Except Int β}:((Except.error e:Except Int α) >>=f)=.error e:=rfl
section
variable {p:Pol} {s:Sy} {c:Cl}
theorem gP {k:Int} {a:Hd} (hS:SyOk s) (h:ofI s.hs k=.ok a):FnB Tryz.prog G 116 [.bp 0 0,i64 k] [mB p s c] (.agg (hdC a)) [mB p s c]:=by have:=D5 (G:=G) p s c k (by have:=hS.hn;omega);rw[h] at this;exact this
theorem ln {k e:Int} (hS:SyOk s) (h:ofI s.hs k=.error e):FnX Tryz.prog G 116 [.bp 0 0,i64 k] [mB p s c] (pnV e) [mB p s c]:=by have:=D5 (G:=G) p s c k (by have:=hS.hn;omega);rw[h] at this;exact this
theorem lP {k:Int} {a:Tm} (hS:SyOk s) (h:ofI s.its k=.ok a):FnB Tryz.prog G 114 [.bp 0 0,i64 k] [mB p s c] (.agg (tmC a)) [mB p s c]:=by have:=Nq (G:=G) p s c k (by have:=hS.iN;omega);rw[h] at this;exact this
theorem nH {k e:Int} (hS:SyOk s) (h:ofI s.its k=.error e):FnX Tryz.prog G 114 [.bp 0 0,i64 k] [mB p s c] (pnV e) [mB p s c]:=by have:=Nq (G:=G) p s c k (by have:=hS.iN;omega);rw[h] at this;exact this
theorem qY {u:Unit} (hp:p.types.length<=8) (h:m5 p c.t=.ok u):FnB Tryz.prog G 109 [.bp 0 0] [mB p s c] (.tup []) [mB p s c]:=by have:=uL (G:=G) p s c (by omega);rw[h] at this;exact this
theorem qZ {e:Int} (hp:p.types.length<=8) (h:m5 p c.t=.error e):FnX Tryz.prog G 109 [.bp 0 0] [mB p s c] (pnV e) [mB p s c]:=by have:=uL (G:=G) p s c (by omega);rw[h] at this;exact this
theorem D7 {t fl:Int} {u:Unit} (hp:p.types.length<=8) (h:fw (jO p t fl) 10=.ok u):FnB Tryz.prog G 110 [.bp 0 0,i64 t,i64 fl] [mB p s c] (.tup []) [mB p s c]:=by have:=Vq (G:=G) p s c t fl (by omega);rw[h] at this;exact this
theorem D8 {t fl e:Int} (hp:p.types.length<=8) (h:fw (jO p t fl) 10=.error e):FnX Tryz.prog G 110 [.bp 0 0,i64 t,i64 fl] [mB p s c] (pnV e) [mB p s c]:=by have:=Vq (G:=G) p s c t fl (by omega);rw[h] at this;exact this
theorem Jb {k a b:Int} {u:Unit} (hr:p.rules.length<=40) (h:fw (li p k a b) 10=.ok u):FnB Tryz.prog G 119 [.bp 0 0,i64 k,i64 a,i64 b] [mB p s c] (.tup []) [mB p s c]:=by have:=Vr (G:=G) p s c k a b (by omega);rw[h] at this;exact this
theorem Jc {k a b e:Int} (hr:p.rules.length<=40) (h:fw (li p k a b) 10=.error e):FnX Tryz.prog G 119 [.bp 0 0,i64 k,i64 a,i64 b] [mB p s c] (pnV e) [mB p s c]:=by have:=Vr (G:=G) p s c k a b (by omega);rw[h] at this;exact this
theorem uN {t:Tm} {u:Unit} (h:fw (dF t) 1=.ok u):FnB Tryz.prog G 115 [.agg (tmC t)] [] (.tup []) []:=by have:=I7 (G:=G) t;rw[h] at this;exact this
theorem uO {t:Tm} {e:Int} (h:fw (dF t) 1=.error e):FnX Tryz.prog G 115 [.agg (tmC t)] [] (pnV e) []:=by have:=I7 (G:=G) t;rw[h] at this;exact this
theorem fy {k:Int} {x:Tm} (hS:SyOk s) (h:ofI s.its k=.ok x):bW x=true/\bi x<=100:=hS.iv x (ij h)
theorem gW {k:Int} {a:Hd} (hS:SyOk s) (h:ofI s.hs k=.ok a):bW a.va=true/\bi a.va<=100/\0<=a.ty/\a.ty<=2147483647:=hS.hv a (ij h)
theorem rV {t:Tm} (hv:bW t=true) (hk:t.kind=3∨t.kind=4):∃ a b,t.l=[a,b]:=by
 obtain⟨k,n,l⟩:=t;simp only[Tm.kind,Tm.l] at hk ⊢
 have hl:=(fe hv).2.2.1;have h2:l.length=2:=by rcases hk with rfl | rfl<;>simp[gR] at hl<;>omega
 match l,h2 with
 |[a,b],_=>exact⟨a,b,rfl⟩
theorem Vw {t key:Tm} {kinds:List Int} (hv:bW t=true/\bi t<=100) (hk:bi key<=100) (hn:kinds.length<=2) (h3:∀ k∈kinds,k=3∨k=4) :
 FnO Tryz.prog G 118 [.agg (tmC t),.agg (tmC key),.c (.sl (kinds.map λk=>[cI k]))] [] (oP (iH t key kinds)) (rO (λx=>.agg (tmC x)) (iH t key kinds)) []:=
 Zs t key kinds (by omega) (by omega) (by omega) λh=>rV hv.1 (h3 _ h)
theorem Gr {t key y:Tm} {kinds:List Int} (hv:bW t=true/\bi t<=100) (hk:bi key<=100) (hn:kinds.length<=2) (h3:∀ k∈kinds,k=3∨k=4) (h:iH t key kinds=.ok y) :
 FnB Tryz.prog G 118 [.agg (tmC t),.agg (tmC key),.c (.sl (kinds.map λk=>[cI k]))] [] (.agg (tmC y)) []:=by
 have:=Vw (G:=G) hv hk hn h3;rw[h] at this;exact this
theorem Gs {t key:Tm} {kinds:List Int} {e:Int} (hv:bW t=true/\bi t<=100) (hk:bi key<=100) (hn:kinds.length<=2) (h3:∀ k∈kinds,k=3∨k=4) (h:iH t key kinds=.error e) :
 FnX Tryz.prog G 118 [.agg (tmC t),.agg (tmC key),.c (.sl (kinds.map λk=>[cI k]))] [] (pnV e) []:=by
 have:=Vw (G:=G) hv hk hn h3;rw[h] at this;exact this
theorem pG {t:Tm} {s':Sy} (hS:SyOk s) (ht:bi t<=1000000000) (h:gy s t=.ok s'):FnB Tryz.prog G 117 [.bp 0 0,.agg (tmC t)] [mB p s c] (.tup []) [mB p s' c]:=by have:=Nr (G:=G) p s c t ht (by have:=hS.iN;omega);rw[h] at this;exact this
theorem pH {t:Tm} {e:Int} (hS:SyOk s) (ht:bi t<=1000000000) (h:gy s t=.error e):FnX Tryz.prog G 117 [.bp 0 0,.agg (tmC t)] [mB p s c] (pnV e) [mB p s c]:=by have:=Nr (G:=G) p s c t ht (by have:=hS.iN;omega);rw[h] at this;exact this
theorem B1 {t:Int} {v:Tm} {s':Sy} (hS:SyOk s) (ht:bi v<=1000000000) (h:lY s t v=.ok s'):FnB Tryz.prog G 112 [.bp 0 0,i64 t,.agg (tmC v)] [mB p s c] (.tup []) [mB p s' c]:=by have:=Vt (G:=G) p s c t v ht (by have:=hS.hn;omega);rw[h] at this;exact this
theorem B2 {t:Int} {v:Tm} {e:Int} (hS:SyOk s) (ht:bi v<=1000000000) (h:lY s t v=.error e):FnX Tryz.prog G 112 [.bp 0 0,i64 t,.agg (tmC v)] [mB p s c] (pnV e) [mB p s c]:=by have:=Vt (G:=G) p s c t v ht (by have:=hS.hn;omega);rw[h] at this;exact this
theorem sH {k n:Int} {a b:Tm} (ha:bi a<=100) (hb:bi b<=100):bi (.mk k n [a,b])<=1000000000:=by simp only[bi,cz];omega
theorem xu {k n:Int} {a:Tm} (ha:bi a<=100):bi (.mk k n [a])<=1000000000:=by simp only[bi,cz];omega
theorem Nu {k n:Int}:bi (.mk k n [])<=1000000000:=by simp only[bi,cz];omega
theorem Zu {k n:Int} {a b:Tm} (h:bi (.mk k n [a,b])<=100):bi a<=100/\bi b<=100:=by simp only[bi,cz] at h;omega
theorem oW {t key y:Tm} {kinds:List Int} (hv:bW t=true/\bi t<=100) (h3:∀ k∈kinds,k=3∨k=4) (h:iH t key kinds=.ok y):bW y=true/\bi y<=100:=by obtain⟨k,n,_,rfl⟩:=ua hv.1 h3 h;exact⟨(m6 hv.1).2.1,(Zu hv.2).2⟩
end
section
variable {nb q:Nat} {K:V->Prop} {h:Hd} {t:Tm} {x y z u:V}
theorem ai1:ldA nb q ((hdC h).map V.c) 1 3 K=(q<nb/\K (.agg (tmC h.va))):=by unfold ldA;rw[fx];exact propext ⟨λh=>⟨h.1,h.2.2⟩,λh=>⟨h.1,⟨rfl,rfl⟩,h.2⟩⟩
theorem agt:dZ false 1 0 (hdC h) K=K (i64 h.ty):=rfl
theorem agu:dZ true 3 1 (hdC h) K=K (.agg (tmC h.va)):=by rw[fx];exact propext ⟨λh=>h.2,λh=>⟨ae rfl,h⟩⟩
theorem adP:fW [x,y,z,u] 0 ((hdC h).map V.c)=(hdC h).map V.c:=rfl
end
def pkH:=jj @agt (jj @ai1 @adP)
theorem Qh {P:Program} {G G':Gl} {f:FuncId} {az:List V} {r:V} (hG:∀ g cs,gat G g=some cs->gat G' g=some cs) (hT:GT G'->GT G) (h:FnOK P G f az r):FnOK P G' f az r:=by refine⟨h.1,λI w vs hI hg hs ha=>(h.2 I w vs hI (λg cs hc=>hg g cs (hG g cs hc)) hs ha).mono ?_⟩;rintro e w' ⟨v,I',h1,h2,h3⟩;exact⟨v,I',h1,⟨h2.os,h2.tape,h2.output,h2.size,h2.block,λt=>h2.drawn (hT t)⟩,h3⟩
def glM:Gl:=λg=>if g=0 then some [.lit (.int .i64 23),.lit (.int .i64 24),.lit (.int .i64 25)] else glT g
theorem Nv:glM 0=some [.lit (.int .i64 23),.lit (.int .i64 24),.lit (.int .i64 25)]:=rfl
theorem Zv {g:Nat} {cs:List C} (h:gat glT g=some cs):gat glM g=some cs:=by
 unfold gat at h ⊢
 split at h
 .cases h
 .rename_i hg
  rw[if_neg hg];unfold glM;split
  .rename_i h0;subst h0;simp[glT] at h
  .exact h
theorem LD:¬ GT glM:=by unfold GT glM glT;simp
theorem upM {f:FuncId} {az:List V} {r:V} (h:FnOK Tryz.prog glT f az r):FnOK Tryz.prog glM f az r:=Qh (λ_ _=>Zv) (λt=>absurd t LD) h
theorem D9 {I:List Tm} {b:Nat} (h:∀ t∈I,bi t<=b):cz I<=I.length*b:=by
 induction I with
 |nil=>simp[cz]
 |cons t l ih=>simp only[cz,aI,dX];have:=ih λx hx=>h x (aT _ hx);have:=h t (aX ..);omega
theorem pI {s:Sy} (hS:SyOk s):cz s.its<=10000:=by have:=D9 (b:=100) λt ht=>(hS.iv t ht).2;have:=hS.iN;have:s.its.length*100<=100*100:=bf _ this;omega
theorem Av {s:Sy} (hS:SyOk s) (t:Tm) (hv:bW t=true) (ht:bi t<=1000000000):FnOK Tryz.prog glM 49 [.c (tsC s.its),.agg (tmC t)] (bo (knS s t)):=
 upM (P9 s.its t (λt ht=>(hS.iv t ht).1) (by have:=pI hS;omega) hv ht)
def Nw:=jj @pkA @ptA
theorem Gt (es:List Hd) (hm:es.length<=9223372036854775807) (g:FuncId) (caps:List C) (p:Hd->Bool) (hp:∀ e∈es,FnOK Tryz.prog G g (.agg (hdC e)::caps.map .c) (bo (p e))) :
 FnOK Tryz.prog G 102 [.c (.sl (es.map hdC)),.c (.fn (.func g) [] caps)] (i64 (mU p es)):=by
 refine bD (rs:=[.tmp 4]) false [] mixed Tryz.func102 rfl rfl rfl rfl (by kernel_rfl) (by simp) rfl rfl ?_;simp -implicitDefEqProofs only[Nw,seval];refine cm (λi:Nat=>hdS [(0,.c (.sl (es.map hdC))),(1,.c (.fn (.func g) [] caps)),(7,i64 es.length),(8,i64 i)] []) (λi=>es.length - i) (λi=>i<=es.length/\∀ j (h:j<es.length),j<i->p es[j]=false) 0 ⟨ar _,by simp⟩ ?_ ?_
 .refine bT rfl (ar _) (ai _) ?_ trivial
  simp[FL,aw]
 rintro i ⟨hi,eX⟩ R bN b8 db;simp -implicitDefEqProofs only[pkA,seval];refine aJ (λbF=>?_) (λfu=>?_)
 .have bF:i<es.length:=by simpa using bF
  simp -implicitDefEqProofs only[pkA,seval];refine cR ko rfl iT (by decide) (aC i) (c:=hdC es[i]) (by simp[bF]) (ek _) ?_;simp -implicitDefEqProofs only[Nw,seval,ek];refine ax rfl (hp _ (aH bF)) (by simp[V.boxy]) ?_;simp -implicitDefEqProofs only[pkA,seval];refine aJ (λhy=>?_) (λhn=>?_)
  .simp -implicitDefEqProofs only[pkA,seval]
   refine db _ ?_;simp -implicitDefEqProofs only[pkA,seval];rw[oa bF hy eX]
  .simp -implicitDefEqProofs only[pkA,seval]
   refine bN (i+1) _ ⟨bF,λj h hj=>?_⟩ (by omega) (bT rfl (ar _) (ai _) ?_ trivial)
   .rcases cd j i with h1 | h1
    .exact eX j h h1
    .have:j=i:=by omega
     subst this;exact hn
   .have hw:=wrap_i64 (i+1) (by omega)
    simp[FL,aw,hw]
 .have:i=es.length:=by simp at fu;omega
  subst this;simp -implicitDefEqProofs only[pkA];refine b8 _ _ ?_;simp -implicitDefEqProofs only[pkA,seval];rw[k6 eX]
theorem Gu (es:List Tm) (hm:es.length<=9223372036854775807) (g:FuncId) (caps:List C) (p:Tm->Bool) (hp:∀ e∈es,FnOK Tryz.prog G g (.agg (tmC e)::caps.map .c) (bo (p e))) :
 FnOK Tryz.prog G 95 [.c (.sl (es.map tmC)),.c (.fn (.func g) [] caps)] (i64 (mU p es)):=by
 refine bD (rs:=[.tmp 4]) false [] mixed Tryz.func95 rfl rfl rfl rfl (by kernel_rfl) (by simp) rfl rfl ?_;simp -implicitDefEqProofs only[Nw,seval];refine cm (λi:Nat=>hdS [(0,.c (.sl (es.map tmC))),(1,.c (.fn (.func g) [] caps)),(7,i64 es.length),(8,i64 i)] []) (λi=>es.length - i) (λi=>i<=es.length/\∀ j (h:j<es.length),j<i->p es[j]=false) 0 ⟨ar _,by simp⟩ ?_ ?_
 .refine bT rfl (ar _) (ai _) ?_ trivial
  simp[FL,aw]
 rintro i ⟨hi,eX⟩ R bN b8 db;simp -implicitDefEqProofs only[pkA,seval];refine aJ (λbF=>?_) (λfu=>?_)
 .have bF:i<es.length:=by simpa using bF
  simp -implicitDefEqProofs only[pkA,seval];refine cR dc rfl cV (by decide) (aC i) (c:=tmC es[i]) (by simp[bF]) (bG _) ?_;simp -implicitDefEqProofs only[Nw,seval,bG];refine ax rfl (hp _ (aH bF)) (by simp[V.boxy]) ?_;simp -implicitDefEqProofs only[pkA,seval];refine aJ (λhy=>?_) (λhn=>?_)
  .simp -implicitDefEqProofs only[pkA,seval]
   refine db _ ?_;simp -implicitDefEqProofs only[pkA,seval];rw[oa bF hy eX]
  .simp -implicitDefEqProofs only[pkA,seval]
   refine bN (i+1) _ ⟨bF,λj h hj=>?_⟩ (by omega) (bT rfl (ar _) (ai _) ?_ trivial)
   .rcases cd j i with h1 | h1
    .exact eX j h h1
    .have:j=i:=by omega
     subst this;exact hn
   .have hw:=wrap_i64 (i+1) (by omega)
    simp[FL,aw,hw]
 .have:i=es.length:=by simp at fu;omega
  subst this;simp -implicitDefEqProofs only[pkA];refine b8 _ _ ?_;simp -implicitDefEqProofs only[pkA,seval];rw[k6 eX]
theorem Ag (es:List Tm) (hm:es.length<=9223372036854775807) (g:FuncId) (caps:List C) (p:Tm->Bool) (hp:∀ e∈es,FnOK Tryz.prog G g (.agg (tmC e)::caps.map .c) (bo (p e))) :
 FnOK Tryz.prog G 50 [.c (.sl (es.map tmC)),.c (.fn (.func g) [] caps)] (bo (es.any p)):=by
 refine bD (rs:=[.tmp 4]) false [] mixed Tryz.func50 rfl rfl rfl rfl (by kernel_rfl) (by simp) rfl rfl ?_;simp -implicitDefEqProofs only[pkA,seval];refine ax rfl (Gu es hm g caps p hp) (by simp[V.boxy]) ?_;simp -implicitDefEqProofs only[pkA,seval];rw[<- kq]
theorem LF (o:Hd) (t:Tm) (ho:bi o.va<=1000000000) (ht:bi t<=1000000000):FnOK Tryz.prog G 103 [.agg (hdC o),.c (.rp (tmC t) 0)] (bo (decide (o.va=t))):=by refine bD (rs:=[.tmp 3]) false [] mixed Tryz.func103 rfl rfl rfl rfl (by kernel_rfl) (by simp) rfl rfl ?_;simp -implicitDefEqProofs only[pkA,ptA,pkT,pkH,seval];refine ax («as»:=[.agg (tmC o.va),.agg (tmC t)]) rfl (uM o.va t ho ht) (λ_=>rfl) ?_;simp -implicitDefEqProofs only[pkA,seval]
section
variable {nb q:Nat} {K:V->Prop} {s:Sy} {x y z u v:V}
theorem agv:dE ((syC s).map V.c)=false:=rfl
theorem agw:dZ false 1 0 (syC s) K=K (.c (hsC s.hs)):=rfl
theorem agx:dZ false 1 1 (syC s) K=K (.c (tsC s.its)):=rfl
theorem agy:dZ false 1 2 (syC s) K=K (.c (hsC s.os)):=rfl
theorem agz:dZ false 1 3 (syC s) K=K (.c (tsC s.rs)):=rfl
theorem agA:dZ false 1 4 (syC s) K=K (i64 s.fresh):=rfl
theorem adQ:ldA nb q ((syC s).map V.c) 0 5 K=(q<nb/\K (.agg (syC s))):=by unfold ldA;exact propext ⟨λh=>⟨h.1,h.2.2⟩,λh=>⟨h.1,⟨rfl,rfl⟩,h.2⟩⟩
theorem adR:fW [x,y,z,u,v] 0 ((syC s).map V.c)=(syC s).map V.c:=rfl
theorem adS:((syC s).map V.c).length=5:=rfl
theorem Zw:(syC s).length=5:=rfl
end
def pkS:=jj @agw (jj @agx (jj @agy (jj @agz (jj @agA (jj @adR (jj @adS @Zw))))))
theorem Zx {s:Sy} {t:Tm}:orS s t=if mU (λo=>decide (o.va=t)) s.os<0 then -1 else((s.os.find? (λo=>decide (o.va=t))).map (·.ty)).getD (-1):=by
 unfold orS mU;cases h:s.os.find? (λo=>decide (o.va=t)) with
 |none=>
  have:s.os.findIdx? (λo=>decide (o.va=t))=none:=by rw[dT];intro x hx;rw[List.find?_eq_none] at h;simpa using h x hx
  rw[this];rfl
 |some o=>
  cases h2:s.os.findIdx? (λo=>decide (o.va=t)) with
  |none=>rw[dT] at h2;have h3:=h2 o (List.mem_of_find?_eq_some h);rw[List.find?_some h] at h3;cases h3
  |some i=>simp only[bQ,ba];rw[if_neg (by omega)]
def aaE:=jj @pkA (jj @ptA @pkS)
theorem Ea {s:Sy} (hS:SyOk s) (t:Tm) (ht:bi t<=1000000000):FnOK Tryz.prog G 63 [.agg (syC s),.agg (tmC t)] (i64 (orS s t)):=by
 have Cn:s.os.length<=100:=by have:=hS.on;have:=hS.hn;omega
 have ej:∀ o∈s.os,bi o.va<=1000000000:=λo ho=>ci (hS.hv o (hS.ov o ho)).2.1 (by decide);obtain⟨tk,tn,tl⟩:=t;generalize N2:Tm.mk tk tn tl=t at ht ⊢
 have hIx:=Gt (G:=G) (caps:=[.rp (tmC t) 0]) s.os (by omega) 103 (λo=>decide (o.va=t)) (λe he=>LF e t (ej e he) ht);refine bD (rs:=[.tmp 4]) false [] mixed Tryz.func63 rfl rfl rfl rfl (by kernel_rfl) (by simp) rfl rfl ?_;simp -implicitDefEqProofs only[aaE,seval];refine ax («as»:=[.c (.sl (s.os.map hdC)),.c (.fn (.func 103) [] [.rp (tmC t) 0])]) (by subst N2;rfl) hIx (λ_=>rfl) ?_;simp -implicitDefEqProofs only[pkA,seval];refine aJ (λbF=>?_) (λfu=>?_)
 .simp -implicitDefEqProofs only[pkA,seval]
  rw[Zx,if_pos (by simpa using bF)]
 .have fu:¬ mU (λo:Hd=>decide (o.va=t)) s.os<0:=by simpa using fu
  obtain⟨i,hi,hk⟩:∃ i:Nat,∃ h:i<s.os.length,mU (λo:Hd=>decide (o.va=t)) s.os=i/\s.os.find? (λo=>decide (o.va=t))=some s.os[i]:=by
   unfold mU at fu ⊢
   cases h2:s.os.findIdx? (λo=>decide (o.va=t)) with
   |none=>rw[h2] at fu;exact absurd (by decide) fu
   |some i=>obtain⟨h3,h4,h5⟩:=b9.1 h2;refine⟨i,h3,rfl,?_⟩;rw[List.find?_eq_some_iff_getElem];exact⟨h4,i,h3,rfl,λj hj=>by simpa using h5 j hj⟩
  have ho:orS s t=s.os[i].ty:=by unfold orS;rw[hk.2]
  simp -implicitDefEqProofs only[aaE,seval];rw[hk.1,ho];refine cR ko rfl iT (by decide) (aC i) (c:=hdC s.os[i]) (by simp[hi]) (ek _) ?_;simp -implicitDefEqProofs only[pkA,ptA,pkH,seval]
def aaF:=jj @pkA (jj @ptA (jj @pkT @pkS))
theorem om {s:Sy} (hS:SyOk s) (t:Tm) (hv:bW t=true) (ht:bi t<=1000000000):FnOK Tryz.prog glM 24 [.agg (syC s),.agg (tmC t)] (i64 (ni s t)):=by
 have hw:∀ o:Int,-1<=o->o<=2147483647->IntKind.i64.wrap (o+1)=o+1:=λo h1 h2=>by
  rcases Int.lt_or_le o 0 with h | h
  .have:o=-1:=by omega
   subst this;rfl
  .obtain⟨k,rfl⟩:∃ k:Nat,o=k:=⟨o.toNat,by omega⟩
   exact wrap_i64 (k+1) (by omega)
 have hb:-1<=orS s t/\orS s t<=2147483647:=by
  unfold orS;split
  .rename_i o ho
   have:=hS.hv o (hS.ov o (List.mem_of_find?_eq_some ho));omega
  .omega
 refine bD (rs:=[.tmp 4]) false [] mixed Tryz.func24 rfl rfl rfl rfl (by kernel_rfl) (by simp) rfl rfl ?_;simp -implicitDefEqProofs only[pkA,ptA,pkT,seval];refine ax rfl (xd t) (λ_=>rfl) ?_;simp -implicitDefEqProofs only[pkA,seval];unfold ni;cases hk:dF t with
 |false=>simp -implicitDefEqProofs only[pkA,seval]
 |true=>
  simp -implicitDefEqProofs only[aaF,seval];refine ax rfl (Av hS t hv ht) (λ_=>rfl) ?_;simp -implicitDefEqProofs only[pkA,seval];cases hn:knS s t with
  |true=>simp -implicitDefEqProofs only[pkA,seval]
  |false=>simp -implicitDefEqProofs only[aaF,seval];refine ax rfl (Ea hS t ht) (λ_=>rfl) ?_;simp -implicitDefEqProofs only[pkA,seval];rw[hw _ hb.1 hb.2]
