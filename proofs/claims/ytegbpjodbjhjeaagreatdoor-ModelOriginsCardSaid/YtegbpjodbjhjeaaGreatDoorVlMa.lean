/- Layer 16: the calls. -/
import Derived.Test.YtegbpjodbjhjeaaGreatDoorVlQ1
set_option maxHeartbeats 1000000
set_option linter.all false
namespace Go.Proofs.YtegbpjodbjhjeaaGreatDoor
open Go Go.Vl
open Kp (Pol Ty Ru Qu poC tyC ruC quC)
variable {G:Gl}
set_option maxRecDepth 10000
theorem cU {P:Program} {G:Gl} {s:S} {f:V} {args all cargs b:List V} {g:FuncId} {r:V} {K:V→Prop} (q:Nat) (hc:ew f args=some (g,all)) (hf:FnB P G g cargs [b] r [b]) (dh:∀ N,all.map V.fz=cargs.map (V.ren (rho [q] N))) (hq:q<s.nb) (hb:s.bx q=b)
 (hbr:∀ σ:Nat→Nat,b.map (V.ren σ)=b) (hr:∀ σ:Nat→Nat,r.ren σ=r) (hK:K r):lK P G s f args K:=by
 unfold lK
 simp only[hc]
 exact⟨[q],cargs,[b],r,hf,dh,⟨rfl,by simp⟩,fun N=>⟨⟨hq,by rw[hbr];exact hb⟩,trivial⟩,hr,hK⟩
theorem fH {P:Program} {G:Gl} {KP:Value→S→Prop} {s:S} {o:Oper} {f:Operand} {args:Array Operand} {ts:Array TypeId} {g:FuncId} {all cargs b:List V} {pv:Value} (q:Nat)
 (ho:o.op=.call { callee:=.value f,args:=args,argTypes:=ts })
 (hc:ew (ev G s f) (args.toList.map (ev G s))=some (g,all)) (hf:FnX P G g cargs [b] pv [b]) (dh:all.map V.fz=cargs.map (V.ren (rho [q] s.nb))) (hq:q<s.nb) (hb:s.bx q=b) (hbr:∀ σ:Nat→Nat,b.map (V.ren σ)=b)
 (hK:KP pv s):ry P G s o KP:=by
 have h0:rho [q] s.nb 0=q:=rfl
 unfold ry
 simp only[ho,hc]
 refine⟨[q],cargs,[b],pv,[b],hf,dh,⟨rfl,by simp⟩,⟨⟨by rw[h0];exact hq,by rw[h0,hbr];exact hb⟩,trivial⟩,?_⟩
 have e:ff (rho [q] s.nb) 0 [b] s.bx=s.bx:=by
  show up s.bx (rho [q] s.nb 0) (b.map (V.ren (rho [q] s.nb)))=s.bx
  rw[h0,hbr,← hb,pF]
 rw[e]
 exact hK
theorem fc {P:Program} {G:Gl} {KP:Value→S→Prop} {s:S} {o:Oper} {rr:List Oper} {f:Operand} {args:Array Operand} {ts:Array TypeId} {g:FuncId} {all cargs b:List V} {pv:Value} (q:Nat)
 (ho:o.op=.call { callee:=.value f,args:=args,argTypes:=ts })
 (hc:ew (ev G s f) (args.toList.map (ev G s))=some (g,all)) (hf:FnX P G g cargs [b] pv [b]) (dh:all.map V.fz=cargs.map (V.ren (rho [q] s.nb))) (hq:q<s.nb) (hb:s.bx q=b) (hbr:∀ σ:Nat→Nat,b.map (V.ren σ)=b)
 (hK:KP pv s):vE P G s o rr KP:=by
 have h0:rho [q] s.nb 0=q:=rfl
 unfold vE
 simp only[ho,hc]
 refine⟨[q],cargs,[b],pv,[b],hf,dh,⟨rfl,by simp⟩,⟨⟨by rw[h0];exact hq,by rw[h0,hbr];exact hb⟩,trivial⟩,?_⟩
 have e:ff (rho [q] s.nb) 0 [b] s.bx=s.bx:=by
  show up s.bx (rho [q] s.nb 0) (b.map (V.ren (rho [q] s.nb)))=s.bx
  rw[h0,hbr,← hb,pF]
 rw[e]
 exact hK
theorem nc {P:Program} {G:Gl} {tr:List Nat} {ops:Array Oper} {s:S} {K:S→Prop} {n:Nat} {l1:List Oper} {o1 o2:Oper} {r:List Oper} (h:j9 ops=n) (h1:ops.toList.take n=l1) (h2:ops.toList.drop n=o1::o2::r)
 (hv:eJ P G tr ops l1 s fun s'=>eJ P G tr ops (o1::o2::r) s' K∧eJ P G tr ops (o2::o1::r) s' K):Fc P G tr ops s K:=by
 unfold Fc
 rw[h,h1,h2];exact hv
theorem bf {p:Pol} {s:Sy} {c:Cl} (σ:Nat→Nat):(mB p s c).map (V.ren σ)=mB p s c:=aa6
theorem nf {P:Program} {G:Gl} {s:S} {f:V} {args all cargs:List V} {g:FuncId} {r:V} {K:V→Prop} (hc:ew f args=some (g,all)) (hf:FnB P G g cargs [] r []) (dh:∀ N,all.map V.fz=cargs.map (V.ren (rho [] N)))
 (hr:∀ σ:Nat→Nat,r.ren σ=r) (hK:K r):lK P G s f args K:=by
 unfold lK
 simp only[hc]
 exact⟨[],cargs,[],r,hf,dh,⟨rfl,g8⟩,fun N=>trivial,hr,hK⟩
theorem uj {P:Program} {G:Gl} {KP:Value→S→Prop} {s:S} {o:Oper} {r:List Oper} {f:Operand} {args:Array Operand} {ts:Array TypeId} {g:FuncId} {all cargs:List V} {pv:Value}
 (ho:o.op=.call { callee:=.value f,args:=args,argTypes:=ts })
 (hc:ew (ev G s f) (args.toList.map (ev G s))=some (g,all)) (hf:FnX P G g cargs [] pv []) (dh:all.map V.fz=cargs.map (V.ren (rho [] s.nb))) (hK:KP pv s):vE P G s o r KP:=by
 unfold vE
 simp only[ho,hc]
 exact⟨[],cargs,[],pv,[],hf,dh,⟨rfl,by simp⟩,trivial,hK⟩
theorem okb {α β:Type} {a:α} {f:α→Except Int β}:(Except.ok a >>=f)=f a:=rfl
theorem erb {α β:Type} {e:Int} {f:α→Except Int β}:((Except.error e:Except Int α) >>=f)=.error e:=rfl
section
variable {p:Pol} {s:Sy} {c:Cl}
theorem fX {k:Int} {a:Hd} (hS:SyOk s) (h:ofI s.hs k=.ok a):FnB Tryz.prog G 116 [.bp 0 0,i64 k] [mB p s c] (.agg (hdC a)) [mB p s c]:=by
 have:=Cr (G:=G) p s c k (by have:=hS.hn;omega);rw[h] at this;exact this
theorem kP {k e:Int} (hS:SyOk s) (h:ofI s.hs k=.error e):FnX Tryz.prog G 116 [.bp 0 0,i64 k] [mB p s c] (pnV e) [mB p s c]:=by
 have:=Cr (G:=G) p s c k (by have:=hS.hn;omega);rw[h] at this;exact this
theorem lu {k:Int} {a:Tm} (hS:SyOk s) (h:ofI s.its k=.ok a):FnB Tryz.prog G 114 [.bp 0 0,i64 k] [mB p s c] (.agg (tmC a)) [mB p s c]:=by
 have:=LG (G:=G) p s c k (by have:=hS.iN;omega);rw[h] at this;exact this
theorem m4 {k e:Int} (hS:SyOk s) (h:ofI s.its k=.error e):FnX Tryz.prog G 114 [.bp 0 0,i64 k] [mB p s c] (pnV e) [mB p s c]:=by
 have:=LG (G:=G) p s c k (by have:=hS.iN;omega);rw[h] at this;exact this
theorem qq {u:Unit} (hp:p.types.length≤8) (h:o7 p c.t=.ok u):FnB Tryz.prog G 109 [.bp 0 0] [mB p s c] (.tup []) [mB p s c]:=by
 have:=xr (G:=G) p s c (by omega);rw[h] at this;exact this
theorem qt {e:Int} (hp:p.types.length≤8) (h:o7 p c.t=.error e):FnX Tryz.prog G 109 [.bp 0 0] [mB p s c] (pnV e) [mB p s c]:=by
 have:=xr (G:=G) p s c (by omega);rw[h] at this;exact this
theorem Ct {t fl:Int} {u:Unit} (hp:p.types.length≤8) (h:er (kw p t fl) 10=.ok u):FnB Tryz.prog G 110 [.bp 0 0,i64 t,i64 fl] [mB p s c] (.tup []) [mB p s c]:=by
 have:=To (G:=G) p s c t fl (by omega);rw[h] at this;exact this
theorem Cu {t fl e:Int} (hp:p.types.length≤8) (h:er (kw p t fl) 10=.error e):FnX Tryz.prog G 110 [.bp 0 0,i64 t,i64 fl] [mB p s c] (pnV e) [mB p s c]:=by
 have:=To (G:=G) p s c t fl (by omega);rw[h] at this;exact this
theorem Hr {k a b:Int} {u:Unit} (hr:p.rules.length≤40) (h:er (oh p k a b) 10=.ok u):FnB Tryz.prog G 119 [.bp 0 0,i64 k,i64 a,i64 b] [mB p s c] (.tup []) [mB p s c]:=by
 have:=Tp (G:=G) p s c k a b (by omega);rw[h] at this;exact this
theorem Ht {k a b e:Int} (hr:p.rules.length≤40) (h:er (oh p k a b) 10=.error e):FnX Tryz.prog G 119 [.bp 0 0,i64 k,i64 a,i64 b] [mB p s c] (pnV e) [mB p s c]:=by
 have:=Tp (G:=G) p s c k a b (by omega);rw[h] at this;exact this
theorem tG {t:Tm} {u:Unit} (h:er (ej t) 1=.ok u):FnB Tryz.prog G 115 [.agg (tmC t)] [] (.tup []) []:=by
 have:=Ho (G:=G) t;rw[h] at this;exact this
theorem tH {t:Tm} {e:Int} (h:er (ej t) 1=.error e):FnX Tryz.prog G 115 [.agg (tmC t)] [] (pnV e) []:=by
 have:=Ho (G:=G) t;rw[h] at this;exact this
theorem eX {k:Int} {x:Tm} (hS:SyOk s) (h:ofI s.its k=.ok x):bT x=true∧br x≤100:=hS.iv x (gV h)
theorem gk {k:Int} {a:Hd} (hS:SyOk s) (h:ofI s.hs k=.ok a):bT a.va=true∧br a.va≤100∧0≤a.ty∧a.ty≤2147483647:=hS.hv a (gV h)
theorem LL {t:Tm} (hv:bT t=true) (hk:t.kind=3∨t.kind=4):∃ a b,t.l=[a,b]:=by
 obtain⟨k,n,l⟩:=t
 simp only[Tm.kind,Tm.l] at hk ⊢
 have hl:=(fh hv).2.2.1
 have h2:l.length=2:=by rcases hk with rfl | rfl<;>simp[gi] at hl<;>omega
 match l,h2 with
 |[a,b],_=>exact⟨a,b,rfl⟩
theorem Tw {t key:Tm} {kinds:List Int} (hv:bT t=true∧br t≤100) (hk:br key≤100) (hn:kinds.length≤2) (h3:∀ k∈kinds,k=3∨k=4) :
 FnO Tryz.prog G 118 [.agg (tmC t),.agg (tmC key),.c (.sl (kinds.map fun k=>[cI k]))] [] (oP (iS t key kinds)) (rO (fun x=>.agg (tmC x)) (iS t key kinds)) []:=
 Xc t key kinds (by omega) (by omega) (by omega) fun h=>LL hv.1 (h3 _ h)
theorem EG {t key y:Tm} {kinds:List Int} (hv:bT t=true∧br t≤100) (hk:br key≤100) (hn:kinds.length≤2) (h3:∀ k∈kinds,k=3∨k=4) (h:iS t key kinds=.ok y) :
 FnB Tryz.prog G 118 [.agg (tmC t),.agg (tmC key),.c (.sl (kinds.map fun k=>[cI k]))] [] (.agg (tmC y)) []:=by
 have:=Tw (G:=G) hv hk hn h3;rw[h] at this;exact this
theorem EH {t key:Tm} {kinds:List Int} {e:Int} (hv:bT t=true∧br t≤100) (hk:br key≤100) (hn:kinds.length≤2) (h3:∀ k∈kinds,k=3∨k=4) (h:iS t key kinds=.error e) :
 FnX Tryz.prog G 118 [.agg (tmC t),.agg (tmC key),.c (.sl (kinds.map fun k=>[cI k]))] [] (pnV e) []:=by
 have:=Tw (G:=G) hv hk hn h3;rw[h] at this;exact this
theorem pa {t:Tm} {s':Sy} (hS:SyOk s) (ht:br t≤1000000000) (h:fP s t=.ok s'):FnB Tryz.prog G 117 [.bp 0 0,.agg (tmC t)] [mB p s c] (.tup []) [mB p s' c]:=by
 have:=LI (G:=G) p s c t ht (by have:=hS.iN;omega);rw[h] at this;exact this
theorem pd {t:Tm} {e:Int} (hS:SyOk s) (ht:br t≤1000000000) (h:fP s t=.error e):FnX Tryz.prog G 117 [.bp 0 0,.agg (tmC t)] [mB p s c] (pnV e) [mB p s c]:=by
 have:=LI (G:=G) p s c t ht (by have:=hS.iN;omega);rw[h] at this;exact this
theorem Ay {t:Int} {v:Tm} {s':Sy} (hS:SyOk s) (ht:br v≤1000000000) (h:mJ s t v=.ok s'):FnB Tryz.prog G 112 [.bp 0 0,i64 t,.agg (tmC v)] [mB p s c] (.tup []) [mB p s' c]:=by
 have:=Tq (G:=G) p s c t v ht (by have:=hS.hn;omega);rw[h] at this;exact this
theorem Az {t:Int} {v:Tm} {e:Int} (hS:SyOk s) (ht:br v≤1000000000) (h:mJ s t v=.error e):FnX Tryz.prog G 112 [.bp 0 0,i64 t,.agg (tmC v)] [mB p s c] (pnV e) [mB p s c]:=by
 have:=Tq (G:=G) p s c t v ht (by have:=hS.hn;omega);rw[h] at this;exact this
theorem rB {k n:Int} {a b:Tm} (ha:br a≤100) (hb:br b≤100):br (.mk k n [a,b])≤1000000000:=by simp only[br,cD];omega
theorem v8 {k n:Int} {a:Tm} (ha:br a≤100):br (.mk k n [a])≤1000000000:=by simp only[br,cD];omega
theorem LM {k n:Int}:br (.mk k n [])≤1000000000:=by simp only[br,cD];omega
theorem Xe {k n:Int} {a b:Tm} (h:br (.mk k n [a,b])≤100):br a≤100∧br b≤100:=by simp only[br,cD] at h;omega
theorem ol {t key y:Tm} {kinds:List Int} (hv:bT t=true∧br t≤100) (h3:∀ k∈kinds,k=3∨k=4) (h:iS t key kinds=.ok y):bT y=true∧br y≤100:=by
 obtain⟨k,n,_,rfl⟩:=sK hv.1 h3 h
 exact⟨(o9 hv.1).2.1,(Xe hv.2).2⟩
end
section
variable {nb q:Nat} {K:V→Prop} {h:Hd} {t:Tm} {x y z u:V}
theorem agr:ldA nb q ((hdC h).map V.c) 1 3 K=(q<nb∧K (.agg (tmC h.va))):=by
 unfold ldA
 rw[jX]
 exact propext ⟨fun h=>⟨h.1,h.2.2⟩,fun h=>⟨h.1,⟨rfl,rfl⟩,h.2⟩⟩
theorem adT:eB false 1 0 (hdC h) K=K (i64 h.ty):=rfl
theorem adU:eB true 3 1 (hdC h) K=K (.agg (tmC h.va)):=by
 rw[jX]
 exact propext ⟨fun h=>h.2,fun h=>⟨ab rfl,h⟩⟩
theorem aba:eU [x,y,z,u] 0 ((hdC h).map V.c)=(hdC h).map V.c:=rfl
end
def pkH:=jj @adT (jj @agr @aba)
theorem OC {P:Program} {G G':Gl} {f:FuncId} {az:List V} {r:V} (hG:∀ g cs,gat G g=some cs→gat G' g=some cs) (hT:GT G'→GT G) (h:FnOK P G f az r):FnOK P G' f az r:=by
 refine⟨h.1,fun I w vs hI hg hs ha=>(h.2 I w vs hI (fun g cs hc=>hg g cs (hG g cs hc)) hs ha).mono ?_⟩
 rintro e w' ⟨v,I',h1,h2,h3⟩
 exact⟨v,I',h1,⟨h2.os,h2.tape,h2.output,h2.size,h2.block,fun t=>h2.drawn (hT t)⟩,h3⟩
def glM:Gl:=fun g=>if g=0 then some [.lit (.int .i64 23),.lit (.int .i64 24),.lit (.int .i64 25)] else glT g
theorem ju:glM 0=some [.lit (.int .i64 23),.lit (.int .i64 24),.lit (.int .i64 25)]:=rfl
theorem Xf {g:Nat} {cs:List C} (h:gat glT g=some cs):gat glM g=some cs:=by
 unfold gat at h ⊢
 split at h
 ·cases h
 ·rename_i hg
  rw[if_neg hg]
  unfold glM
  split
  ·rename_i h0;subst h0;simp[glT] at h
  ·exact h
theorem JW:¬ GT glM:=by unfold GT glM glT;simp
theorem upM {f:FuncId} {az:List V} {r:V} (h:FnOK Tryz.prog glT f az r):FnOK Tryz.prog glM f az r:=OC (fun _ _=>Xf) (fun t=>absurd t JW) h
theorem OD {I:List Tm} {b:Nat} (h:∀ t∈I,br t≤b):cD I≤I.length*b:=by
 induction I with
 |nil=>simp[cD]
 |cons t l ih=>
  simp only[cD,aB,dD]
  have:=ih fun x hx=>h x (aM _ hx)
  have:=h t (aT ..)
  omega
theorem sL {s:Sy} (hS:SyOk s):cD s.its≤10000:=by
 have:=OD (b:=100) fun t ht=>(hS.iv t ht).2
 have:=hS.iN
 have:s.its.length*100≤100*100:=aP _ this
 omega
theorem yY {s:Sy} (hS:SyOk s) (t:Tm) (hv:bT t=true) (ht:br t≤1000000000):FnOK Tryz.prog glM 49 [.c (tsC s.its),.agg (tmC t)] (bo (knS s t)):=
 upM (Ot s.its t (fun t ht=>(hS.iv t ht).1) (by have:=sL hS;omega) hv ht)
def LN:=jj @pkA @ptA
theorem EI (es:List Hd) (hm:es.length≤9223372036854775807) (g:FuncId) (caps:List C) (p:Hd→Bool) (hp:∀ e∈es,FnOK Tryz.prog G g (.agg (hdC e)::caps.map .c) (bo (p e))) :
 FnOK Tryz.prog G 102 [.c (.sl (es.map hdC)),.c (.fn (.func g) [] caps)] (i64 (mo p es)):=by
 refine bP (rs:=[.tmp 4]) false [] mixed Tryz.func102 rfl rfl rfl rfl (by kernel_rfl) (by simp) rfl rfl ?_
 simp -implicitDefEqProofs only[LN,seval]
 refine cF (fun i:Nat=>hdS [(0,.c (.sl (es.map hdC))),(1,.c (.fn (.func g) [] caps)),(7,i64 es.length),(8,i64 i)] []) (fun i=>es.length - i) (fun i=>i≤es.length∧∀ j (h:j<es.length),j<i→p es[j]=false) 0 ⟨au _,by simp⟩ ?_ ?_
 ·refine cj rfl (au _) (ae _) ?_ trivial
  simp[FL,ar]
 rintro i ⟨hi,fU⟩ R ck cG dn
 simp -implicitDefEqProofs only[pkA,seval]
 refine aV (fun bF=>?_) (fun ga=>?_)
 ·have bF:i<es.length:=by simpa using bF
  simp -implicitDefEqProofs only[pkA,seval]
  refine dz l6 rfl jU (by decide) (aI i) (c:=hdC es[i]) (by simp[bF]) (fi _) ?_
  simp -implicitDefEqProofs only[LN,seval,fi]
  refine aD rfl (hp _ (aF bF)) (by simp[V.boxy]) ?_
  simp -implicitDefEqProofs only[pkA,seval]
  refine aV (fun hy=>?_) (fun hn=>?_)
  ·simp -implicitDefEqProofs only[pkA,seval]
   refine dn _ ?_
   simp -implicitDefEqProofs only[pkA,seval]
   rw[nv bF hy fU]
  ·simp -implicitDefEqProofs only[pkA,seval]
   refine ck (i+1) _ ⟨bF,fun j h hj=>?_⟩ (by omega) (cj rfl (au _) (ae _) ?_ trivial)
   ·rcases cN j i with h1 | h1
    ·exact fU j h h1
    ·have:j=i:=by omega
     subst this;exact hn
   ·have hw:=wrap_i64 (i+1) (by omega)
    simp[FL,ar,hw]
 ·have:i=es.length:=by simp at ga;omega
  subst this
  simp -implicitDefEqProofs only[pkA]
  refine cG _ _ ?_
  simp -implicitDefEqProofs only[pkA,seval]
  rw[kH fU]
theorem EJ (es:List Tm) (hm:es.length≤9223372036854775807) (g:FuncId) (caps:List C) (p:Tm→Bool) (hp:∀ e∈es,FnOK Tryz.prog G g (.agg (tmC e)::caps.map .c) (bo (p e))) :
 FnOK Tryz.prog G 95 [.c (.sl (es.map tmC)),.c (.fn (.func g) [] caps)] (i64 (mo p es)):=by
 refine bP (rs:=[.tmp 4]) false [] mixed Tryz.func95 rfl rfl rfl rfl (by kernel_rfl) (by simp) rfl rfl ?_
 simp -implicitDefEqProofs only[LN,seval]
 refine cF (fun i:Nat=>hdS [(0,.c (.sl (es.map tmC))),(1,.c (.fn (.func g) [] caps)),(7,i64 es.length),(8,i64 i)] []) (fun i=>es.length - i) (fun i=>i≤es.length∧∀ j (h:j<es.length),j<i→p es[j]=false) 0 ⟨au _,by simp⟩ ?_ ?_
 ·refine cj rfl (au _) (ae _) ?_ trivial
  simp[FL,ar]
 rintro i ⟨hi,fU⟩ R ck cG dn
 simp -implicitDefEqProofs only[pkA,seval]
 refine aV (fun bF=>?_) (fun ga=>?_)
 ·have bF:i<es.length:=by simpa using bF
  simp -implicitDefEqProofs only[pkA,seval]
  refine dz dq rfl di (by decide) (aI i) (c:=tmC es[i]) (by simp[bF]) (bI _) ?_
  simp -implicitDefEqProofs only[LN,seval,bI]
  refine aD rfl (hp _ (aF bF)) (by simp[V.boxy]) ?_
  simp -implicitDefEqProofs only[pkA,seval]
  refine aV (fun hy=>?_) (fun hn=>?_)
  ·simp -implicitDefEqProofs only[pkA,seval]
   refine dn _ ?_
   simp -implicitDefEqProofs only[pkA,seval]
   rw[nv bF hy fU]
  ·simp -implicitDefEqProofs only[pkA,seval]
   refine ck (i+1) _ ⟨bF,fun j h hj=>?_⟩ (by omega) (cj rfl (au _) (ae _) ?_ trivial)
   ·rcases cN j i with h1 | h1
    ·exact fU j h h1
    ·have:j=i:=by omega
     subst this;exact hn
   ·have hw:=wrap_i64 (i+1) (by omega)
    simp[FL,ar,hw]
 ·have:i=es.length:=by simp at ga;omega
  subst this
  simp -implicitDefEqProofs only[pkA]
  refine cG _ _ ?_
  simp -implicitDefEqProofs only[pkA,seval]
  rw[kH fU]
theorem yH (es:List Tm) (hm:es.length≤9223372036854775807) (g:FuncId) (caps:List C) (p:Tm→Bool) (hp:∀ e∈es,FnOK Tryz.prog G g (.agg (tmC e)::caps.map .c) (bo (p e))) :
 FnOK Tryz.prog G 50 [.c (.sl (es.map tmC)),.c (.fn (.func g) [] caps)] (bo (es.any p)):=by
 refine bP (rs:=[.tmp 4]) false [] mixed Tryz.func50 rfl rfl rfl rfl (by kernel_rfl) (by simp) rfl rfl ?_
 simp -implicitDefEqProofs only[pkA,seval]
 refine aD rfl (EJ es hm g caps p hp) (by simp[V.boxy]) ?_
 simp -implicitDefEqProofs only[pkA,seval]
 rw[← ka]
theorem JX (o:Hd) (t:Tm) (ho:br o.va≤1000000000) (ht:br t≤1000000000):FnOK Tryz.prog G 103 [.agg (hdC o),.c (.rp (tmC t) 0)] (bo (decide (o.va=t))):=by
 refine bP (rs:=[.tmp 3]) false [] mixed Tryz.func103 rfl rfl rfl rfl (by kernel_rfl) (by simp) rfl rfl ?_
 simp -implicitDefEqProofs only[pkA,ptA,pkT,pkH,seval]
 refine aD («as»:=[.agg (tmC o.va),.agg (tmC t)]) rfl (tD o.va t ho ht) (fun _=>rfl) ?_
 simp -implicitDefEqProofs only[pkA,seval]
section
variable {nb q:Nat} {K:V→Prop} {s:Sy} {x y z u v:V}
theorem adV:cX ((syC s).map V.c)=false:=rfl
theorem adW:eB false 1 0 (syC s) K=K (.c (hsC s.hs)):=rfl
theorem adX:eB false 1 1 (syC s) K=K (.c (tsC s.its)):=rfl
theorem adY:eB false 1 2 (syC s) K=K (.c (hsC s.os)):=rfl
theorem adZ:eB false 1 3 (syC s) K=K (.c (tsC s.rs)):=rfl
theorem ad0:eB false 1 4 (syC s) K=K (i64 s.fresh):=rfl
theorem abb:ldA nb q ((syC s).map V.c) 0 5 K=(q<nb∧K (.agg (syC s))):=by
 unfold ldA
 exact propext ⟨fun h=>⟨h.1,h.2.2⟩,fun h=>⟨h.1,⟨rfl,rfl⟩,h.2⟩⟩
theorem abc:eU [x,y,z,u,v] 0 ((syC s).map V.c)=(syC s).map V.c:=rfl
theorem abd:((syC s).map V.c).length=5:=rfl
theorem Xg:(syC s).length=5:=rfl
end
def pkS:=jj @adW (jj @adX (jj @adY (jj @adZ (jj @ad0 (jj @abc (jj @abd @Xg))))))
theorem Xh {s:Sy} {t:Tm}:orS s t=if mo (fun o=>decide (o.va=t)) s.os<0 then -1 else((s.os.find? (fun o=>decide (o.va=t))).map (·.ty)).getD (-1):=by
 unfold orS mo
 cases h:s.os.find? (fun o=>decide (o.va=t)) with
 |none=>
  have:s.os.findIdx? (fun o=>decide (o.va=t))=none:=by
   rw[dH];intro x hx;rw[List.find?_eq_none] at h;simpa using h x hx
  rw[this];rfl
 |some o=>
  cases h2:s.os.findIdx? (fun o=>decide (o.va=t)) with
  |none=>
   rw[dH] at h2
   have h3:=h2 o (List.mem_of_find?_eq_some h)
   rw[List.find?_some h] at h3;cases h3
  |some i=>
   simp only[bK,bQ]
   rw[if_neg (by omega)]
def Yi:=jj @pkA (jj @ptA @pkS)
theorem Cv {s:Sy} (hS:SyOk s) (t:Tm) (ht:br t≤1000000000):FnOK Tryz.prog G 63 [.agg (syC s),.agg (tmC t)] (i64 (orS s t)):=by
 have wy:s.os.length≤100:=by have:=hS.on;have:=hS.hn;omega
 have dR:∀ o∈s.os,br o.va≤1000000000:=fun o ho=>bY (hS.hv o (hS.ov o ho)).2.1 (by decide)
 obtain⟨tk,tn,tl⟩:=t
 generalize Pf:Tm.mk tk tn tl=t at ht ⊢
 have hIx:=EI (G:=G) (caps:=[.rp (tmC t) 0]) s.os (by omega) 103 (fun o=>decide (o.va=t)) (fun e he=>JX e t (dR e he) ht)
 refine bP (rs:=[.tmp 4]) false [] mixed Tryz.func63 rfl rfl rfl rfl (by kernel_rfl) (by simp) rfl rfl ?_
 simp -implicitDefEqProofs only[Yi,seval]
 refine aD («as»:=[.c (.sl (s.os.map hdC)),.c (.fn (.func 103) [] [.rp (tmC t) 0])]) (by subst Pf;rfl) hIx (fun _=>rfl) ?_
 simp -implicitDefEqProofs only[pkA,seval]
 refine aV (fun bF=>?_) (fun ga=>?_)
 ·simp -implicitDefEqProofs only[pkA,seval]
  rw[Xh,if_pos (by simpa using bF)]
 ·have ga:¬ mo (fun o:Hd=>decide (o.va=t)) s.os<0:=by simpa using ga
  obtain⟨i,hi,hk⟩:∃ i:Nat,∃ h:i<s.os.length,mo (fun o:Hd=>decide (o.va=t)) s.os=i∧s.os.find? (fun o=>decide (o.va=t))=some s.os[i]:=by
   unfold mo at ga ⊢
   cases h2:s.os.findIdx? (fun o=>decide (o.va=t)) with
   |none=>rw[h2] at ga;exact absurd (by decide) ga
   |some i=>
    obtain⟨h3,h4,h5⟩:=bS.1 h2
    refine⟨i,h3,rfl,?_⟩
    rw[List.find?_eq_some_iff_getElem]
    exact⟨h4,i,h3,rfl,fun j hj=>by simpa using h5 j hj⟩
  have ho:orS s t=s.os[i].ty:=by unfold orS;rw[hk.2]
  simp -implicitDefEqProofs only[Yi,seval]
  rw[hk.1,ho]
  refine dz l6 rfl jU (by decide) (aI i) (c:=hdC s.os[i]) (by simp[hi]) (fi _) ?_
  simp -implicitDefEqProofs only[pkA,ptA,pkH,seval]
def Yj:=jj @pkA (jj @ptA (jj @pkT @pkS))
theorem qu {s:Sy} (hS:SyOk s) (t:Tm) (hv:bT t=true) (ht:br t≤1000000000):FnOK Tryz.prog glM 24 [.agg (syC s),.agg (tmC t)] (i64 (qd s t)):=by
 have hw:∀ o:Int,-1≤o→o≤2147483647→IntKind.i64.wrap (o+1)=o+1:=fun o h1 h2=>by
  rcases Int.lt_or_le o 0 with h | h
  ·have:o=-1:=by omega
   subst this;rfl
  ·obtain⟨k,rfl⟩:∃ k:Nat,o=k:=⟨o.toNat,by omega⟩
   exact wrap_i64 (k+1) (by omega)
 have hb:-1≤orS s t∧orS s t≤2147483647:=by
  unfold orS
  split
  ·rename_i o ho
   have:=hS.hv o (hS.ov o (List.mem_of_find?_eq_some ho))
   omega
  ·omega
 refine bP (rs:=[.tmp 4]) false [] mixed Tryz.func24 rfl rfl rfl rfl (by kernel_rfl) (by simp) rfl rfl ?_
 simp -implicitDefEqProofs only[pkA,ptA,pkT,seval]
 refine aD rfl (vR t) (fun _=>rfl) ?_
 simp -implicitDefEqProofs only[pkA,seval]
 unfold qd
 cases hk:ej t with
 |false=>
  simp -implicitDefEqProofs only[pkA,seval]
 |true=>
  simp -implicitDefEqProofs only[Yj,seval]
  refine aD rfl (yY hS t hv ht) (fun _=>rfl) ?_
  simp -implicitDefEqProofs only[pkA,seval]
  cases hn:knS s t with
  |true=>
   simp -implicitDefEqProofs only[pkA,seval]
  |false=>
   simp -implicitDefEqProofs only[Yj,seval]
   refine aD rfl (Cv hS t ht) (fun _=>rfl) ?_
   simp -implicitDefEqProofs only[pkA,seval]
   rw[hw _ hb.1 hb.2]
