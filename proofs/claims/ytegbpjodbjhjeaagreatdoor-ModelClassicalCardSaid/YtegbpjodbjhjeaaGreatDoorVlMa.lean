/- Layer 16: the calls. -/
import Derived.Test.YtegbpjodbjhjeaaGreatDoorVlQ1
set_option linter.all false
namespace Go.Proofs.YtegbpjodbjhjeaaGreatDoor
open Go Go.Vl
open Kp (Pol Ty Ru Qu poC tyC ruC quC)
variable {G:Gl}
set_option maxRecDepth 10000
theorem da {P:Program} {G:Gl} {s:S} {f:V} {args all cargs b:List V} {g:FuncId} {r:V} {K:V→Prop} (q:Nat) (hc:eI f args=some (g,all)) (hf:FnB P G g cargs [b] r [b]) (dh:∀ N,all.map V.fz=cargs.map (V.ren (rho [q] N))) (hq:q<s.nb) (hb:s.bx q=b)
 (hbr:∀ σ:Nat→Nat,b.map (V.ren σ)=b) (hr:∀ σ:Nat→Nat,r.ren σ=r) (hK:K r):l6 P G s f args K:=by
 unfold l6
 simp only[hc]
 exact⟨[q],cargs,[b],r,hf,dh,⟨rfl,by simp⟩,fun N=>⟨⟨hq,by rw[hbr];exact hb⟩,trivial⟩,hr,hK⟩
theorem fU {P:Program} {G:Gl} {KP:Value→S→Prop} {s:S} {o:Oper} {f:Operand} {args:Array Operand} {ts:Array TypeId} {g:FuncId} {all cargs b:List V} {pv:Value} (q:Nat)
 (ho:o.op=.call { callee:=.value f,args:=args,argTypes:=ts })
 (hc:eI (ev G s f) (args.toList.map (ev G s))=some (g,all)) (hf:FnX P G g cargs [b] pv [b]) (dh:all.map V.fz=cargs.map (V.ren (rho [q] s.nb))) (hq:q<s.nb) (hb:s.bx q=b) (hbr:∀ σ:Nat→Nat,b.map (V.ren σ)=b)
 (hK:KP pv s):rZ P G s o KP:=by
 have h0:rho [q] s.nb 0=q:=rfl
 unfold rZ
 simp only[ho,hc]
 refine⟨[q],cargs,[b],pv,[b],hf,dh,⟨rfl,by simp⟩,⟨⟨by rw[h0];exact hq,by rw[h0,hbr];exact hb⟩,trivial⟩,?_⟩
 have e:fu (rho [q] s.nb) 0 [b] s.bx=s.bx:=by
  show up s.bx (rho [q] s.nb 0) (b.map (V.ren (rho [q] s.nb)))=s.bx
  rw[h0,hbr,← hb,pZ]
 rw[e]
 exact hK
theorem ft {P:Program} {G:Gl} {KP:Value→S→Prop} {s:S} {o:Oper} {rr:List Oper} {f:Operand} {args:Array Operand} {ts:Array TypeId} {g:FuncId} {all cargs b:List V} {pv:Value} (q:Nat)
 (ho:o.op=.call { callee:=.value f,args:=args,argTypes:=ts })
 (hc:eI (ev G s f) (args.toList.map (ev G s))=some (g,all)) (hf:FnX P G g cargs [b] pv [b]) (dh:all.map V.fz=cargs.map (V.ren (rho [q] s.nb))) (hq:q<s.nb) (hb:s.bx q=b) (hbr:∀ σ:Nat→Nat,b.map (V.ren σ)=b)
 (hK:KP pv s):wI P G s o rr KP:=by
 have h0:rho [q] s.nb 0=q:=rfl
 unfold wI
 simp only[ho,hc]
 refine⟨[q],cargs,[b],pv,[b],hf,dh,⟨rfl,by simp⟩,⟨⟨by rw[h0];exact hq,by rw[h0,hbr];exact hb⟩,trivial⟩,?_⟩
 have e:fu (rho [q] s.nb) 0 [b] s.bx=s.bx:=by
  show up s.bx (rho [q] s.nb 0) (b.map (V.ren (rho [q] s.nb)))=s.bx
  rw[h0,hbr,← hb,pZ]
 rw[e]
 exact hK
theorem nF {P:Program} {G:Gl} {tr:List Nat} {ops:Array Oper} {s:S} {K:S→Prop} {n:Nat} {l1:List Oper} {o1 o2:Oper} {r:List Oper} (h:ku ops=n) (h1:ops.toList.take n=l1) (h2:ops.toList.drop n=o1::o2::r)
 (hv:eW P G tr ops l1 s fun s'=>eW P G tr ops (o1::o2::r) s' K∧eW P G tr ops (o2::o1::r) s' K):Gr P G tr ops s K:=by
 unfold Gr
 rw[h,h1,h2];exact hv
theorem bf {p:Pol} {s:Sy} {c:Cl} (σ:Nat→Nat):(mB p s c).map (V.ren σ)=mB p s c:=aci
theorem nG {P:Program} {G:Gl} {s:S} {f:V} {args all cargs:List V} {g:FuncId} {r:V} {K:V→Prop} (hc:eI f args=some (g,all)) (hf:FnB P G g cargs [] r []) (dh:∀ N,all.map V.fz=cargs.map (V.ren (rho [] N)))
 (hr:∀ σ:Nat→Nat,r.ren σ=r) (hK:K r):l6 P G s f args K:=by
 unfold l6
 simp only[hc]
 exact⟨[],cargs,[],r,hf,dh,⟨rfl,ip⟩,fun N=>trivial,hr,hK⟩
theorem vb {P:Program} {G:Gl} {KP:Value→S→Prop} {s:S} {o:Oper} {r:List Oper} {f:Operand} {args:Array Operand} {ts:Array TypeId} {g:FuncId} {all cargs:List V} {pv:Value}
 (ho:o.op=.call { callee:=.value f,args:=args,argTypes:=ts })
 (hc:eI (ev G s f) (args.toList.map (ev G s))=some (g,all)) (hf:FnX P G g cargs [] pv []) (dh:all.map V.fz=cargs.map (V.ren (rho [] s.nb))) (hK:KP pv s):wI P G s o r KP:=by
 unfold wI
 simp only[ho,hc]
 exact⟨[],cargs,[],pv,[],hf,dh,⟨rfl,by simp⟩,trivial,hK⟩
theorem okb {α β:Type} {a:α} {f:α→Except Int β}:(Except.ok a >>=f)=f a:=rfl
theorem erb {α β:Type} {e:Int} {f:α→Except Int β}:((Except.error e:Except Int α) >>=f)=.error e:=rfl
section
variable {p:Pol} {s:Sy} {c:Cl}
theorem gy {k:Int} {a:Hd} (hS:SyOk s) (h:ofI s.hs k=.ok a):FnB Tryz.prog G 116 [.bp 0 0,i64 k] [mB p s c] (.agg (hdC a)) [mB p s c]:=by
 have:=Dw (G:=G) p s c k (by have:=hS.hn;omega);rw[h] at this;exact this
theorem lg {k e:Int} (hS:SyOk s) (h:ofI s.hs k=.error e):FnX Tryz.prog G 116 [.bp 0 0,i64 k] [mB p s c] (pnV e) [mB p s c]:=by
 have:=Dw (G:=G) p s c k (by have:=hS.hn;omega);rw[h] at this;exact this
theorem lO {k:Int} {a:Tm} (hS:SyOk s) (h:ofI s.its k=.ok a):FnB Tryz.prog G 114 [.bp 0 0,i64 k] [mB p s c] (.agg (tmC a)) [mB p s c]:=by
 have:=MR (G:=G) p s c k (by have:=hS.iN;omega);rw[h] at this;exact this
theorem nw {k e:Int} (hS:SyOk s) (h:ofI s.its k=.error e):FnX Tryz.prog G 114 [.bp 0 0,i64 k] [mB p s c] (pnV e) [mB p s c]:=by
 have:=MR (G:=G) p s c k (by have:=hS.iN;omega);rw[h] at this;exact this
theorem qP {u:Unit} (hp:p.types.length≤8) (h:pC p c.t=.ok u):FnB Tryz.prog G 109 [.bp 0 0] [mB p s c] (.tup []) [mB p s c]:=by
 have:=uv (G:=G) p s c (by omega);rw[h] at this;exact this
theorem qQ {e:Int} (hp:p.types.length≤8) (h:pC p c.t=.error e):FnX Tryz.prog G 109 [.bp 0 0] [mB p s c] (pnV e) [mB p s c]:=by
 have:=uv (G:=G) p s c (by omega);rw[h] at this;exact this
theorem Dy {t fl:Int} {u:Unit} (hp:p.types.length≤8) (h:eH (jE p t fl) 10=.ok u):FnB Tryz.prog G 110 [.bp 0 0,i64 t,i64 fl] [mB p s c] (.tup []) [mB p s c]:=by
 have:=UD (G:=G) p s c t fl (by omega);rw[h] at this;exact this
theorem Dz {t fl e:Int} (hp:p.types.length≤8) (h:eH (jE p t fl) 10=.error e):FnX Tryz.prog G 110 [.bp 0 0,i64 t,i64 fl] [mB p s c] (pnV e) [mB p s c]:=by
 have:=UD (G:=G) p s c t fl (by omega);rw[h] at this;exact this
theorem IC {k a b:Int} {u:Unit} (hr:p.rules.length≤40) (h:eH (mH p k a b) 10=.ok u):FnB Tryz.prog G 119 [.bp 0 0,i64 k,i64 a,i64 b] [mB p s c] (.tup []) [mB p s c]:=by
 have:=UE (G:=G) p s c k a b (by omega);rw[h] at this;exact this
theorem ID {k a b e:Int} (hr:p.rules.length≤40) (h:eH (mH p k a b) 10=.error e):FnX Tryz.prog G 119 [.bp 0 0,i64 k,i64 a,i64 b] [mB p s c] (pnV e) [mB p s c]:=by
 have:=UE (G:=G) p s c k a b (by omega);rw[h] at this;exact this
theorem ux {t:Tm} {u:Unit} (h:eH (eC t) 1=.ok u):FnB Tryz.prog G 115 [.agg (tmC t)] [] (.tup []) []:=by
 have:=IA (G:=G) t;rw[h] at this;exact this
theorem uy {t:Tm} {e:Int} (h:eH (eC t) 1=.error e):FnX Tryz.prog G 115 [.agg (tmC t)] [] (pnV e) []:=by
 have:=IA (G:=G) t;rw[h] at this;exact this
theorem fj {k:Int} {x:Tm} (hS:SyOk s) (h:ofI s.its k=.ok x):bY x=true∧bq x≤100:=hS.iv x (ig h)
theorem gG {k:Int} {a:Hd} (hS:SyOk s) (h:ofI s.hs k=.ok a):bY a.va=true∧bq a.va≤100∧0≤a.ty∧a.ty≤2147483647:=hS.hv a (ig h)
theorem MY {t:Tm} (hv:bY t=true) (hk:t.kind=3∨t.kind=4):∃ a b,t.l=[a,b]:=by
 obtain⟨k,n,l⟩:=t
 simp only[Tm.kind,Tm.l] at hk ⊢
 have hl:=(fw hv).2.2.1
 have h2:l.length=2:=by rcases hk with rfl | rfl<;>simp[gA] at hl<;>omega
 match l,h2 with
 |[a,b],_=>exact⟨a,b,rfl⟩
theorem UI {t key:Tm} {kinds:List Int} (hv:bY t=true∧bq t≤100) (hk:bq key≤100) (hn:kinds.length≤2) (h3:∀ k∈kinds,k=3∨k=4) :
 FnO Tryz.prog G 118 [.agg (tmC t),.agg (tmC key),.c (.sl (kinds.map fun k=>[cI k]))] [] (oP (jc t key kinds)) (rO (fun x=>.agg (tmC x)) (jc t key kinds)) []:=
 Ys t key kinds (by omega) (by omega) (by omega) fun h=>MY hv.1 (h3 _ h)
theorem FU {t key y:Tm} {kinds:List Int} (hv:bY t=true∧bq t≤100) (hk:bq key≤100) (hn:kinds.length≤2) (h3:∀ k∈kinds,k=3∨k=4) (h:jc t key kinds=.ok y) :
 FnB Tryz.prog G 118 [.agg (tmC t),.agg (tmC key),.c (.sl (kinds.map fun k=>[cI k]))] [] (.agg (tmC y)) []:=by
 have:=UI (G:=G) hv hk hn h3;rw[h] at this;exact this
theorem FV {t key:Tm} {kinds:List Int} {e:Int} (hv:bY t=true∧bq t≤100) (hk:bq key≤100) (hn:kinds.length≤2) (h3:∀ k∈kinds,k=3∨k=4) (h:jc t key kinds=.error e) :
 FnX Tryz.prog G 118 [.agg (tmC t),.agg (tmC key),.c (.sl (kinds.map fun k=>[cI k]))] [] (pnV e) []:=by
 have:=UI (G:=G) hv hk hn h3;rw[h] at this;exact this
theorem pF {t:Tm} {s':Sy} (hS:SyOk s) (ht:bq t≤1000000000) (h:gk s t=.ok s'):FnB Tryz.prog G 117 [.bp 0 0,.agg (tmC t)] [mB p s c] (.tup []) [mB p s' c]:=by
 have:=MU (G:=G) p s c t ht (by have:=hS.iN;omega);rw[h] at this;exact this
theorem pG {t:Tm} {e:Int} (hS:SyOk s) (ht:bq t≤1000000000) (h:gk s t=.error e):FnX Tryz.prog G 117 [.bp 0 0,.agg (tmC t)] [mB p s c] (pnV e) [mB p s c]:=by
 have:=MU (G:=G) p s c t ht (by have:=hS.iN;omega);rw[h] at this;exact this
theorem Bz {t:Int} {v:Tm} {s':Sy} (hS:SyOk s) (ht:bq v≤1000000000) (h:m7 s t v=.ok s'):FnB Tryz.prog G 112 [.bp 0 0,i64 t,.agg (tmC v)] [mB p s c] (.tup []) [mB p s' c]:=by
 have:=UF (G:=G) p s c t v ht (by have:=hS.hn;omega);rw[h] at this;exact this
theorem BA {t:Int} {v:Tm} {e:Int} (hS:SyOk s) (ht:bq v≤1000000000) (h:m7 s t v=.error e):FnX Tryz.prog G 112 [.bp 0 0,i64 t,.agg (tmC v)] [mB p s c] (pnV e) [mB p s c]:=by
 have:=UF (G:=G) p s c t v ht (by have:=hS.hn;omega);rw[h] at this;exact this
theorem sb {k n:Int} {a b:Tm} (ha:bq a≤100) (hb:bq b≤100):bq (.mk k n [a,b])≤1000000000:=by simp only[bq,cF];omega
theorem xg {k n:Int} {a:Tm} (ha:bq a≤100):bq (.mk k n [a])≤1000000000:=by simp only[bq,cF];omega
theorem MZ {k n:Int}:bq (.mk k n [])≤1000000000:=by simp only[bq,cF];omega
theorem Yu {k n:Int} {a b:Tm} (h:bq (.mk k n [a,b])≤100):bq a≤100∧bq b≤100:=by simp only[bq,cF] at h;omega
theorem oV {t key y:Tm} {kinds:List Int} (hv:bY t=true∧bq t≤100) (h3:∀ k∈kinds,k=3∨k=4) (h:jc t key kinds=.ok y):bY y=true∧bq y≤100:=by
 obtain⟨k,n,_,rfl⟩:=tI hv.1 h3 h
 exact⟨(pE hv.1).2.1,(Yu hv.2).2⟩
end
section
variable {nb q:Nat} {K:V→Prop} {h:Hd} {t:Tm} {x y z u:V}
theorem ahy:ldA nb q ((hdC h).map V.c) 1 3 K=(q<nb∧K (.agg (tmC h.va))):=by
 unfold ldA
 rw[j8]
 exact propext ⟨fun h=>⟨h.1,h.2.2⟩,fun h=>⟨h.1,⟨rfl,rfl⟩,h.2⟩⟩
theorem ae1:eA false 1 0 (hdC h) K=K (i64 h.ty):=rfl
theorem ae2:eA true 3 1 (hdC h) K=K (.agg (tmC h.va)):=by
 rw[j8]
 exact propext ⟨fun h=>h.2,fun h=>⟨ab rfl,h⟩⟩
theorem acp:eU [x,y,z,u] 0 ((hdC h).map V.c)=(hdC h).map V.c:=rfl
end
def pkH:=jj @ae1 (jj @ahy @acp)
theorem PI {P:Program} {G G':Gl} {f:FuncId} {az:List V} {r:V} (hG:∀ g cs,gat G g=some cs→gat G' g=some cs) (hT:GT G'→GT G) (h:FnOK P G f az r):FnOK P G' f az r:=by
 refine⟨h.1,fun I w vs hI hg hs ha=>(h.2 I w vs hI (fun g cs hc=>hg g cs (hG g cs hc)) hs ha).mono ?_⟩
 rintro e w' ⟨v,I',h1,h2,h3⟩
 exact⟨v,I',h1,⟨h2.os,h2.tape,h2.output,h2.size,h2.block,fun t=>h2.drawn (hT t)⟩,h3⟩
def glM:Gl:=fun g=>if g=0 then some [.lit (.int .i64 23),.lit (.int .i64 24),.lit (.int .i64 25)] else glT g
theorem jF:glM 0=some [.lit (.int .i64 23),.lit (.int .i64 24),.lit (.int .i64 25)]:=rfl
theorem Yv {g:Nat} {cs:List C} (h:gat glT g=some cs):gat glM g=some cs:=by
 unfold gat at h ⊢
 split at h
 ·cases h
 ·rename_i hg
  rw[if_neg hg]
  unfold glM
  split
  ·rename_i h0;subst h0;simp[glT] at h
  ·exact h
theorem K7:¬ GT glM:=by unfold GT glM glT;simp
theorem upM {f:FuncId} {az:List V} {r:V} (h:FnOK Tryz.prog glT f az r):FnOK Tryz.prog glM f az r:=PI (fun _ _=>Yv) (fun t=>absurd t K7) h
theorem DD {I:List Tm} {b:Nat} (h:∀ t∈I,bq t≤b):cF I≤I.length*b:=by
 induction I with
 |nil=>simp[cF]
 |cons t l ih=>
  simp only[cF,aC,dJ]
  have:=ih fun x hx=>h x (aR _ hx)
  have:=h t (aW ..)
  omega
theorem tJ {s:Sy} (hS:SyOk s):cF s.its≤10000:=by
 have:=DD (b:=100) fun t ht=>(hS.iv t ht).2
 have:=hS.iN
 have:s.its.length*100≤100*100:=aS _ this
 omega
theorem zU {s:Sy} (hS:SyOk s) (t:Tm) (hv:bY t=true) (ht:bq t≤1000000000):FnOK Tryz.prog glM 49 [.c (tsC s.its),.agg (tmC t)] (bo (knS s t)):=
 upM (Px s.its t (fun t ht=>(hS.iv t ht).1) (by have:=tJ hS;omega) hv ht)
def M3:=jj @pkA @ptA
set_option maxHeartbeats 1000000 in
theorem FX (es:List Hd) (hm:es.length≤9223372036854775807) (g:FuncId) (caps:List C) (p:Hd→Bool) (hp:∀ e∈es,FnOK Tryz.prog G g (.agg (hdC e)::caps.map .c) (bo (p e))) :
 FnOK Tryz.prog G 102 [.c (.sl (es.map hdC)),.c (.fn (.func g) [] caps)] (i64 (mP p es)):=by
 refine bE (rs:=[.tmp 4]) false [] mixed Tryz.func102 rfl rfl rfl rfl (by kernel_rfl) (by simp) rfl rfl ?_
 simp -implicitDefEqProofs only[M3,seval]
 refine ck (fun i:Nat=>hdS [(0,.c (.sl (es.map hdC))),(1,.c (.fn (.func g) [] caps)),(7,i64 es.length),(8,i64 i)] []) (fun i=>es.length - i) (fun i=>i≤es.length∧∀ j (h:j<es.length),j<i→p es[j]=false) 0 ⟨ar _,by simp⟩ ?_ ?_
 ·refine bT rfl (ar _) (ae _) ?_ trivial
  simp[FL,au]
 rintro i ⟨hi,fm⟩ R bS cd cX
 simp -implicitDefEqProofs only[pkA,seval]
 refine aL (fun bB=>?_) (fun fA=>?_)
 ·have bB:i<es.length:=by simpa using bB
  simp -implicitDefEqProofs only[pkA,seval]
  refine df kN rfl jp (by decide) (aD i) (c:=hdC es[i]) (by simp[bB]) (fi _) ?_
  simp -implicitDefEqProofs only[M3,seval,fi]
  refine ay rfl (hp _ (aF bB)) (by simp[V.boxy]) ?_
  simp -implicitDefEqProofs only[pkA,seval]
  refine aL (fun hy=>?_) (fun hn=>?_)
  ·simp -implicitDefEqProofs only[pkA,seval]
   refine cX _ ?_
   simp -implicitDefEqProofs only[pkA,seval]
   rw[nS bB hy fm]
  ·simp -implicitDefEqProofs only[pkA,seval]
   refine bS (i+1) _ ⟨bB,fun j h hj=>?_⟩ (by omega) (bT rfl (ar _) (ae _) ?_ trivial)
   ·rcases ct j i with h1 | h1
    ·exact fm j h h1
    ·have:j=i:=by omega
     subst this;exact hn
   ·have hw:=wrap_i64 (i+1) (by omega)
    simp[FL,au,hw]
 ·have:i=es.length:=by simp at fA;omega
  subst this
  simp -implicitDefEqProofs only[pkA]
  refine cd _ _ ?_
  simp -implicitDefEqProofs only[pkA,seval]
  rw[kY fm]
set_option maxHeartbeats 1000000 in
theorem FY (es:List Tm) (hm:es.length≤9223372036854775807) (g:FuncId) (caps:List C) (p:Tm→Bool) (hp:∀ e∈es,FnOK Tryz.prog G g (.agg (tmC e)::caps.map .c) (bo (p e))) :
 FnOK Tryz.prog G 95 [.c (.sl (es.map tmC)),.c (.fn (.func g) [] caps)] (i64 (mP p es)):=by
 refine bE (rs:=[.tmp 4]) false [] mixed Tryz.func95 rfl rfl rfl rfl (by kernel_rfl) (by simp) rfl rfl ?_
 simp -implicitDefEqProofs only[M3,seval]
 refine ck (fun i:Nat=>hdS [(0,.c (.sl (es.map tmC))),(1,.c (.fn (.func g) [] caps)),(7,i64 es.length),(8,i64 i)] []) (fun i=>es.length - i) (fun i=>i≤es.length∧∀ j (h:j<es.length),j<i→p es[j]=false) 0 ⟨ar _,by simp⟩ ?_ ?_
 ·refine bT rfl (ar _) (ae _) ?_ trivial
  simp[FL,au]
 rintro i ⟨hi,fm⟩ R bS cd cX
 simp -implicitDefEqProofs only[pkA,seval]
 refine aL (fun bB=>?_) (fun fA=>?_)
 ·have bB:i<es.length:=by simpa using bB
  simp -implicitDefEqProofs only[pkA,seval]
  refine df du rfl dl (by decide) (aD i) (c:=tmC es[i]) (by simp[bB]) (bG _) ?_
  simp -implicitDefEqProofs only[M3,seval,bG]
  refine ay rfl (hp _ (aF bB)) (by simp[V.boxy]) ?_
  simp -implicitDefEqProofs only[pkA,seval]
  refine aL (fun hy=>?_) (fun hn=>?_)
  ·simp -implicitDefEqProofs only[pkA,seval]
   refine cX _ ?_
   simp -implicitDefEqProofs only[pkA,seval]
   rw[nS bB hy fm]
  ·simp -implicitDefEqProofs only[pkA,seval]
   refine bS (i+1) _ ⟨bB,fun j h hj=>?_⟩ (by omega) (bT rfl (ar _) (ae _) ?_ trivial)
   ·rcases ct j i with h1 | h1
    ·exact fm j h h1
    ·have:j=i:=by omega
     subst this;exact hn
   ·have hw:=wrap_i64 (i+1) (by omega)
    simp[FL,au,hw]
 ·have:i=es.length:=by simp at fA;omega
  subst this
  simp -implicitDefEqProofs only[pkA]
  refine cd _ _ ?_
  simp -implicitDefEqProofs only[pkA,seval]
  rw[kY fm]
set_option maxHeartbeats 1000000 in
theorem zA (es:List Tm) (hm:es.length≤9223372036854775807) (g:FuncId) (caps:List C) (p:Tm→Bool) (hp:∀ e∈es,FnOK Tryz.prog G g (.agg (tmC e)::caps.map .c) (bo (p e))) :
 FnOK Tryz.prog G 50 [.c (.sl (es.map tmC)),.c (.fn (.func g) [] caps)] (bo (es.any p)):=by
 refine bE (rs:=[.tmp 4]) false [] mixed Tryz.func50 rfl rfl rfl rfl (by kernel_rfl) (by simp) rfl rfl ?_
 simp -implicitDefEqProofs only[pkA,seval]
 refine ay rfl (FY es hm g caps p hp) (by simp[V.boxy]) ?_
 simp -implicitDefEqProofs only[pkA,seval]
 rw[← kw]
theorem K8 (o:Hd) (t:Tm) (ho:bq o.va≤1000000000) (ht:bq t≤1000000000):FnOK Tryz.prog G 103 [.agg (hdC o),.c (.rp (tmC t) 0)] (bo (decide (o.va=t))):=by
 refine bE (rs:=[.tmp 3]) false [] mixed Tryz.func103 rfl rfl rfl rfl (by kernel_rfl) (by simp) rfl rfl ?_
 simp -implicitDefEqProofs only[pkA,ptA,pkT,pkH,seval]
 refine ay («as»:=[.agg (tmC o.va),.agg (tmC t)]) rfl (uw o.va t ho ht) (fun _=>rfl) ?_
 simp -implicitDefEqProofs only[pkA,seval]
section
variable {nb q:Nat} {K:V→Prop} {s:Sy} {x y z u v:V}
theorem ae3:dc ((syC s).map V.c)=false:=rfl
theorem ae4:eA false 1 0 (syC s) K=K (.c (hsC s.hs)):=rfl
theorem ae5:eA false 1 1 (syC s) K=K (.c (tsC s.its)):=rfl
theorem ae6:eA false 1 2 (syC s) K=K (.c (hsC s.os)):=rfl
theorem ae7:eA false 1 3 (syC s) K=K (.c (tsC s.rs)):=rfl
theorem ae8:eA false 1 4 (syC s) K=K (i64 s.fresh):=rfl
theorem acq:ldA nb q ((syC s).map V.c) 0 5 K=(q<nb∧K (.agg (syC s))):=by
 unfold ldA
 exact propext ⟨fun h=>⟨h.1,h.2.2⟩,fun h=>⟨h.1,⟨rfl,rfl⟩,h.2⟩⟩
theorem acr:eU [x,y,z,u,v] 0 ((syC s).map V.c)=(syC s).map V.c:=rfl
theorem acs:((syC s).map V.c).length=5:=rfl
theorem Yw:(syC s).length=5:=rfl
end
def pkS:=jj @ae4 (jj @ae5 (jj @ae6 (jj @ae7 (jj @ae8 (jj @acr (jj @acs @Yw))))))
theorem Yx {s:Sy} {t:Tm}:orS s t=if mP (fun o=>decide (o.va=t)) s.os<0 then -1 else((s.os.find? (fun o=>decide (o.va=t))).map (·.ty)).getD (-1):=by
 unfold orS mP
 cases h:s.os.find? (fun o=>decide (o.va=t)) with
 |none=>
  have:s.os.findIdx? (fun o=>decide (o.va=t))=none:=by
   rw[dN];intro x hx;rw[List.find?_eq_none] at h;simpa using h x hx
  rw[this];rfl
 |some o=>
  cases h2:s.os.findIdx? (fun o=>decide (o.va=t)) with
  |none=>
   rw[dN] at h2
   have h3:=h2 o (List.mem_of_find?_eq_some h)
   rw[List.find?_some h] at h3;cases h3
  |some i=>
   simp only[bO,bU]
   rw[if_neg (by omega)]
def Zy:=jj @pkA (jj @ptA @pkS)
set_option maxHeartbeats 1000000 in
theorem DF {s:Sy} (hS:SyOk s) (t:Tm) (ht:bq t≤1000000000):FnOK Tryz.prog G 63 [.agg (syC s),.agg (tmC t)] (i64 (orS s t)):=by
 have xA:s.os.length≤100:=by have:=hS.on;have:=hS.hn;omega
 have dZ:∀ o∈s.os,bq o.va≤1000000000:=fun o ho=>cj (hS.hv o (hS.ov o ho)).2.1 (by decide)
 obtain⟨tk,tn,tl⟩:=t
 generalize Qn:Tm.mk tk tn tl=t at ht ⊢
 have hIx:=FX (G:=G) (caps:=[.rp (tmC t) 0]) s.os (by omega) 103 (fun o=>decide (o.va=t)) (fun e he=>K8 e t (dZ e he) ht)
 refine bE (rs:=[.tmp 4]) false [] mixed Tryz.func63 rfl rfl rfl rfl (by kernel_rfl) (by simp) rfl rfl ?_
 simp -implicitDefEqProofs only[Zy,seval]
 refine ay («as»:=[.c (.sl (s.os.map hdC)),.c (.fn (.func 103) [] [.rp (tmC t) 0])]) (by subst Qn;rfl) hIx (fun _=>rfl) ?_
 simp -implicitDefEqProofs only[pkA,seval]
 refine aL (fun bB=>?_) (fun fA=>?_)
 ·simp -implicitDefEqProofs only[pkA,seval]
  rw[Yx,if_pos (by simpa using bB)]
 ·have fA:¬ mP (fun o:Hd=>decide (o.va=t)) s.os<0:=by simpa using fA
  obtain⟨i,hi,hk⟩:∃ i:Nat,∃ h:i<s.os.length,mP (fun o:Hd=>decide (o.va=t)) s.os=i∧s.os.find? (fun o=>decide (o.va=t))=some s.os[i]:=by
   unfold mP at fA ⊢
   cases h2:s.os.findIdx? (fun o=>decide (o.va=t)) with
   |none=>rw[h2] at fA;exact absurd (by decide) fA
   |some i=>
    obtain⟨h3,h4,h5⟩:=bW.1 h2
    refine⟨i,h3,rfl,?_⟩
    rw[List.find?_eq_some_iff_getElem]
    exact⟨h4,i,h3,rfl,fun j hj=>by simpa using h5 j hj⟩
  have ho:orS s t=s.os[i].ty:=by unfold orS;rw[hk.2]
  simp -implicitDefEqProofs only[Zy,seval]
  rw[hk.1,ho]
  refine df kN rfl jp (by decide) (aD i) (c:=hdC s.os[i]) (by simp[hi]) (fi _) ?_
  simp -implicitDefEqProofs only[pkA,ptA,pkH,seval]
def Zz:=jj @pkA (jj @ptA (jj @pkT @pkS))
set_option maxHeartbeats 1000000 in
theorem qR {s:Sy} (hS:SyOk s) (t:Tm) (hv:bY t=true) (ht:bq t≤1000000000):FnOK Tryz.prog glM 24 [.agg (syC s),.agg (tmC t)] (i64 (qA s t)):=by
 have hw:∀ o:Int,-1≤o→o≤2147483647→IntKind.i64.wrap (o+1)=o+1:=fun o h1 h2=>by
  rcases Int.lt_or_le o 0 with h | h
  ·have:o=-1:=by omega
   subst this;rfl
  ·obtain⟨k,rfl⟩:∃ k:Nat,o=k:=⟨o.toNat,by omega⟩
   exact wrap_i64 (k+1) (by omega)
 have hb:-1≤orS s t∧orS s t≤2147483647:=by
  unfold orS
  split
  ·rename_i o ho
   have:=hS.hv o (hS.ov o (List.mem_of_find?_eq_some ho))
   omega
  ·omega
 refine bE (rs:=[.tmp 4]) false [] mixed Tryz.func24 rfl rfl rfl rfl (by kernel_rfl) (by simp) rfl rfl ?_
 simp -implicitDefEqProofs only[pkA,ptA,pkT,seval]
 refine ay rfl (wU t) (fun _=>rfl) ?_
 simp -implicitDefEqProofs only[pkA,seval]
 unfold qA
 cases hk:eC t with
 |false=>
  simp -implicitDefEqProofs only[pkA,seval]
 |true=>
  simp -implicitDefEqProofs only[Zz,seval]
  refine ay rfl (zU hS t hv ht) (fun _=>rfl) ?_
  simp -implicitDefEqProofs only[pkA,seval]
  cases hn:knS s t with
  |true=>
   simp -implicitDefEqProofs only[pkA,seval]
  |false=>
   simp -implicitDefEqProofs only[Zz,seval]
   refine ay rfl (DF hS t ht) (fun _=>rfl) ?_
   simp -implicitDefEqProofs only[pkA,seval]
   rw[hw _ hb.1 hb.2]
