/- Layer 16: the calls. -/
import Derived.Test.YtegbpjodbjhjeaaGreatDoorVlQ1
set_option linter.all false
namespace Go.Proofs.YtegbpjodbjhjeaaGreatDoor
open Go Go.Vl
open Kp (Pol Ty Ru Qu poC tyC ruC quC)
variable {G:Gl}
set_option maxRecDepth 10000
theorem cJ {P:Program} {G:Gl} {s:S} {f:V} {args all cargs b:List V} {g:FuncId} {r:V} {K:V→Prop} (q:Nat) (hc:dS f args=some (g,all)) (hf:FnB P G g cargs [b] r [b]) (hall:∀ N,all.map V.fz=cargs.map (V.ren (rho [q] N))) (hq:q<s.nb) (hb:s.bx q=b)
 (hbr:∀ σ:Nat→Nat,b.map (V.ren σ)=b) (hr:∀ σ:Nat→Nat,r.ren σ=r) (hK:K r):kz P G s f args K:=by
 unfold kz
 simp only[hc]
 exact⟨[q],cargs,[b],r,hf,hall,⟨rfl,by simp⟩,fun N=>⟨⟨hq,by rw[hbr];exact hb⟩,trivial⟩,hr,hK⟩
theorem ff {P:Program} {G:Gl} {KP:Value→S→Prop} {s:S} {o:Oper} {f:Operand} {args:Array Operand} {ts:Array TypeId} {g:FuncId} {all cargs b:List V} {pv:Value} (q:Nat)
 (ho:o.op=.call { callee:=.value f,args:=args,argTypes:=ts })
 (hc:dS (ev G s f) (args.toList.map (ev G s))=some (g,all)) (hf:FnX P G g cargs [b] pv [b]) (hall:all.map V.fz=cargs.map (V.ren (rho [q] s.nb))) (hq:q<s.nb) (hb:s.bx q=b) (hbr:∀ σ:Nat→Nat,b.map (V.ren σ)=b)
 (hK:KP pv s):pw P G s o KP:=by
 have h0:rho [q] s.nb 0=q:=rfl
 unfold pw
 simp only[ho,hc]
 refine⟨[q],cargs,[b],pv,[b],hf,hall,⟨rfl,by simp⟩,⟨⟨by rw[h0];exact hq,by rw[h0,hbr];exact hb⟩,trivial⟩,?_⟩
 have e:eO (rho [q] s.nb) 0 [b] s.bx=s.bx:=by
  show up s.bx (rho [q] s.nb 0) (b.map (V.ren (rho [q] s.nb)))=s.bx
  rw[h0,hbr,← hb,nB]
 rw[e]
 exact hK
theorem eM {P:Program} {G:Gl} {KP:Value→S→Prop} {s:S} {o:Oper} {rr:List Oper} {f:Operand} {args:Array Operand} {ts:Array TypeId} {g:FuncId} {all cargs b:List V} {pv:Value} (q:Nat)
 (ho:o.op=.call { callee:=.value f,args:=args,argTypes:=ts })
 (hc:dS (ev G s f) (args.toList.map (ev G s))=some (g,all)) (hf:FnX P G g cargs [b] pv [b]) (hall:all.map V.fz=cargs.map (V.ren (rho [q] s.nb))) (hq:q<s.nb) (hb:s.bx q=b) (hbr:∀ σ:Nat→Nat,b.map (V.ren σ)=b)
 (hK:KP pv s):sw P G s o rr KP:=by
 have h0:rho [q] s.nb 0=q:=rfl
 unfold sw
 simp only[ho,hc]
 refine⟨[q],cargs,[b],pv,[b],hf,hall,⟨rfl,by simp⟩,⟨⟨by rw[h0];exact hq,by rw[h0,hbr];exact hb⟩,trivial⟩,?_⟩
 have e:eO (rho [q] s.nb) 0 [b] s.bx=s.bx:=by
  show up s.bx (rho [q] s.nb 0) (b.map (V.ren (rho [q] s.nb)))=s.bx
  rw[h0,hbr,← hb,nB]
 rw[e]
 exact hK
theorem lT {P:Program} {G:Gl} {tr:List Nat} {ops:Array Oper} {s:S} {K:S→Prop} {n:Nat} {l1:List Oper} {o1 o2:Oper} {r:List Oper} (h:jm ops=n) (h1:ops.toList.take n=l1) (h2:ops.toList.drop n=o1::o2::r)
 (hv:ea P G tr ops l1 s fun s'=>ea P G tr ops (o1::o2::r) s' K∧ea P G tr ops (o2::o1::r) s' K):BF P G tr ops s K:=by
 unfold BF
 rw[h,h1,h2];exact hv
theorem aY {p:Pol} {s:Sy} {c:Cl} (σ:Nat→Nat):(mB p s c).map (V.ren σ)=mB p s c:=Yc
theorem lU {P:Program} {G:Gl} {s:S} {f:V} {args all cargs:List V} {g:FuncId} {r:V} {K:V→Prop} (hc:dS f args=some (g,all)) (hf:FnB P G g cargs [] r []) (hall:∀ N,all.map V.fz=cargs.map (V.ren (rho [] N)))
 (hr:∀ σ:Nat→Nat,r.ren σ=r) (hK:K r):kz P G s f args K:=by
 unfold kz
 simp only[hc]
 exact⟨[],cargs,[],r,hf,hall,⟨rfl,iq⟩,fun N=>trivial,hr,hK⟩
theorem qY {P:Program} {G:Gl} {KP:Value→S→Prop} {s:S} {o:Oper} {r:List Oper} {f:Operand} {args:Array Operand} {ts:Array TypeId} {g:FuncId} {all cargs:List V} {pv:Value}
 (ho:o.op=.call { callee:=.value f,args:=args,argTypes:=ts })
 (hc:dS (ev G s f) (args.toList.map (ev G s))=some (g,all)) (hf:FnX P G g cargs [] pv []) (hall:all.map V.fz=cargs.map (V.ren (rho [] s.nb))) (hK:KP pv s):sw P G s o r KP:=by
 unfold sw
 simp only[ho,hc]
 exact⟨[],cargs,[],pv,[],hf,hall,⟨rfl,by simp⟩,trivial,hK⟩
theorem okb {α β:Type} {a:α} {f:α→Except Int β}:(Except.ok a >>=f)=f a:=rfl
theorem erb {α β:Type} {e:Int} {f:α→Except Int β}:((Except.error e:Except Int α) >>=f)=.error e:=rfl
section
variable {p:Pol} {s:Sy} {c:Cl}
theorem fA {k:Int} {a:Hd} (hS:SyOk s) (h:ofI s.hs k=.ok a):FnB Tryz.prog G 116 [.bp 0 0,i64 k] [mB p s c] (.agg (hdC a)) [mB p s c]:=by
 have:=zb (G:=G) p s c k (by have:=hS.hn;omega);rw[h] at this;exact this
theorem jS {k e:Int} (hS:SyOk s) (h:ofI s.hs k=.error e):FnX Tryz.prog G 116 [.bp 0 0,i64 k] [mB p s c] (pnV e) [mB p s c]:=by
 have:=zb (G:=G) p s c k (by have:=hS.hn;omega);rw[h] at this;exact this
theorem ka {k:Int} {a:Tm} (hS:SyOk s) (h:ofI s.its k=.ok a):FnB Tryz.prog G 114 [.bp 0 0,i64 k] [mB p s c] (.agg (tmC a)) [mB p s c]:=by
 have:=Hy (G:=G) p s c k (by have:=hS.iN;omega);rw[h] at this;exact this
theorem lN {k e:Int} (hS:SyOk s) (h:ofI s.its k=.error e):FnX Tryz.prog G 114 [.bp 0 0,i64 k] [mB p s c] (pnV e) [mB p s c]:=by
 have:=Hy (G:=G) p s c k (by have:=hS.iN;omega);rw[h] at this;exact this
theorem oC {u:Unit} (hp:p.types.length≤8) (h:ni p c.t=.ok u):FnB Tryz.prog G 109 [.bp 0 0] [mB p s c] (.tup []) [mB p s c]:=by
 have:=uh (G:=G) p s c (by omega);rw[h] at this;exact this
theorem oD {e:Int} (hp:p.types.length≤8) (h:ni p c.t=.error e):FnX Tryz.prog G 109 [.bp 0 0] [mB p s c] (pnV e) [mB p s c]:=by
 have:=uh (G:=G) p s c (by omega);rw[h] at this;exact this
theorem ze {t fl:Int} {u:Unit} (hp:p.types.length≤8) (h:dR (j9 p t fl) 10=.ok u):FnB Tryz.prog G 110 [.bp 0 0,i64 t,i64 fl] [mB p s c] (.tup []) [mB p s c]:=by
 have:=Pr (G:=G) p s c t fl (by omega);rw[h] at this;exact this
theorem zg {t fl e:Int} (hp:p.types.length≤8) (h:dR (j9 p t fl) 10=.error e):FnX Tryz.prog G 110 [.bp 0 0,i64 t,i64 fl] [mB p s c] (pnV e) [mB p s c]:=by
 have:=Pr (G:=G) p s c t fl (by omega);rw[h] at this;exact this
theorem DU {k a b:Int} {u:Unit} (hr:p.rules.length≤40) (h:dR (nA p k a b) 10=.ok u):FnB Tryz.prog G 119 [.bp 0 0,i64 k,i64 a,i64 b] [mB p s c] (.tup []) [mB p s c]:=by
 have:=Pt (G:=G) p s c k a b (by omega);rw[h] at this;exact this
theorem DV {k a b e:Int} (hr:p.rules.length≤40) (h:dR (nA p k a b) 10=.error e):FnX Tryz.prog G 119 [.bp 0 0,i64 k,i64 a,i64 b] [mB p s c] (pnV e) [mB p s c]:=by
 have:=Pt (G:=G) p s c k a b (by omega);rw[h] at this;exact this
theorem qH {t:Tm} {u:Unit} (h:dR (ey t) 1=.ok u):FnB Tryz.prog G 115 [.agg (tmC t)] [] (.tup []) []:=by
 have:=DO (G:=G) t;rw[h] at this;exact this
theorem qI {t:Tm} {e:Int} (h:dR (ey t) 1=.error e):FnX Tryz.prog G 115 [.agg (tmC t)] [] (pnV e) []:=by
 have:=DO (G:=G) t;rw[h] at this;exact this
theorem eG {k:Int} {x:Tm} (hS:SyOk s) (h:ofI s.its k=.ok x):bR x=true∧bu x≤100:=hS.iv x (fX h)
theorem fF {k:Int} {a:Hd} (hS:SyOk s) (h:ofI s.hs k=.ok a):bR a.va=true∧bu a.va≤100∧0≤a.ty∧a.ty≤2147483647:=hS.hv a (fX h)
theorem HE {t:Tm} (hv:bR t=true) (hk:t.kind=3∨t.kind=4):∃ a b,t.l=[a,b]:=by
 obtain⟨k,n,l⟩:=t
 simp only[Tm.kind,Tm.l] at hk ⊢
 have hl:=(eR hv).2.2.1
 have h2:l.length=2:=by rcases hk with rfl | rfl<;>simp[fD] at hl<;>omega
 match l,h2 with
 |[a,b],_=>exact⟨a,b,rfl⟩
theorem Pz {t key:Tm} {kinds:List Int} (hv:bR t=true∧bu t≤100) (hk:bu key≤100) (hn:kinds.length≤2) (h3:∀ k∈kinds,k=3∨k=4) :
 FnO Tryz.prog G 118 [.agg (tmC t),.agg (tmC key),.c (.sl (kinds.map fun k=>[cI k]))] [] (oP (g8 t key kinds)) (rO (fun x=>.agg (tmC x)) (g8 t key kinds)) []:=
 Uj t key kinds (by omega) (by omega) (by omega) fun h=>HE hv.1 (h3 _ h)
theorem Bp {t key y:Tm} {kinds:List Int} (hv:bR t=true∧bu t≤100) (hk:bu key≤100) (hn:kinds.length≤2) (h3:∀ k∈kinds,k=3∨k=4) (h:g8 t key kinds=.ok y) :
 FnB Tryz.prog G 118 [.agg (tmC t),.agg (tmC key),.c (.sl (kinds.map fun k=>[cI k]))] [] (.agg (tmC y)) []:=by
 have:=Pz (G:=G) hv hk hn h3;rw[h] at this;exact this
theorem Bq {t key:Tm} {kinds:List Int} {e:Int} (hv:bR t=true∧bu t≤100) (hk:bu key≤100) (hn:kinds.length≤2) (h3:∀ k∈kinds,k=3∨k=4) (h:g8 t key kinds=.error e) :
 FnX Tryz.prog G 118 [.agg (tmC t),.agg (tmC key),.c (.sl (kinds.map fun k=>[cI k]))] [] (pnV e) []:=by
 have:=Pz (G:=G) hv hk hn h3;rw[h] at this;exact this
theorem nl {t:Tm} {s':Sy} (hS:SyOk s) (ht:bu t≤1000000000) (h:ft s t=.ok s'):FnB Tryz.prog G 117 [.bp 0 0,.agg (tmC t)] [mB p s c] (.tup []) [mB p s' c]:=by
 have:=HA (G:=G) p s c t ht (by have:=hS.iN;omega);rw[h] at this;exact this
theorem nn {t:Tm} {e:Int} (hS:SyOk s) (ht:bu t≤1000000000) (h:ft s t=.error e):FnX Tryz.prog G 117 [.bp 0 0,.agg (tmC t)] [mB p s c] (pnV e) [mB p s c]:=by
 have:=HA (G:=G) p s c t ht (by have:=hS.iN;omega);rw[h] at this;exact this
theorem xe {t:Int} {v:Tm} {s':Sy} (hS:SyOk s) (ht:bu v≤1000000000) (h:ll s t v=.ok s'):FnB Tryz.prog G 112 [.bp 0 0,i64 t,.agg (tmC v)] [mB p s c] (.tup []) [mB p s' c]:=by
 have:=Pu (G:=G) p s c t v ht (by have:=hS.hn;omega);rw[h] at this;exact this
theorem xg {t:Int} {v:Tm} {e:Int} (hS:SyOk s) (ht:bu v≤1000000000) (h:ll s t v=.error e):FnX Tryz.prog G 112 [.bp 0 0,i64 t,.agg (tmC v)] [mB p s c] (pnV e) [mB p s c]:=by
 have:=Pu (G:=G) p s c t v ht (by have:=hS.hn;omega);rw[h] at this;exact this
theorem pz {k n:Int} {a b:Tm} (ha:bu a≤100) (hb:bu b≤100):bu (.mk k n [a,b])≤1000000000:=by simp only[bu,cH];omega
theorem sY {k n:Int} {a:Tm} (ha:bu a≤100):bu (.mk k n [a])≤1000000000:=by simp only[bu,cH];omega
theorem HF {k n:Int}:bu (.mk k n [])≤1000000000:=by simp only[bu,cH];omega
theorem Um {k n:Int} {a b:Tm} (h:bu (.mk k n [a,b])≤100):bu a≤100∧bu b≤100:=by simp only[bu,cH] at h;omega
theorem mN {t key y:Tm} {kinds:List Int} (hv:bR t=true∧bu t≤100) (h3:∀ k∈kinds,k=3∨k=4) (h:g8 t key kinds=.ok y):bR y=true∧bu y≤100:=by
 obtain⟨k,n,_,rfl⟩:=qg hv.1 h3 h
 exact⟨(nk hv.1).2.1,(Um hv.2).2⟩
end
section
variable {nb q:Nat} {K:V→Prop} {h:Hd} {t:Tm} {x y z u:V}
theorem Z5:ck ((hdC h).map V.c)=false:=rfl
theorem abk:ldB nb q ((hdC h).map V.c) 0 K=(q<nb∧K (i64 h.ty)):=rfl
theorem abl:ldA nb q ((hdC h).map V.c) 1 3 K=(q<nb∧K (.agg (tmC h.va))):=by
 unfold ldA
 rw[gA]
 exact propext ⟨fun h=>⟨h.1,h.2.2⟩,fun h=>⟨h.1,⟨rfl,rfl⟩,h.2⟩⟩
theorem Z6:ck ((tmC t).map V.c)=false:=by rw[gA];rfl
theorem abm:ldA nb q ((tmC t).map V.c) 0 3 K=(q<nb∧K (.agg (tmC t))):=by
 unfold ldA
 rw[gA]
 exact propext ⟨fun h=>⟨h.1,h.2.2⟩,fun h=>⟨h.1,⟨rfl,rfl⟩,h.2⟩⟩
theorem abn:ldB nb q ((tmC t).map V.c) 1 K=(q<nb∧K (i64 t.n)):=by rw[gA];rfl
theorem Z7:cU false 1 0 (hdC h) K=K (i64 h.ty):=rfl
theorem UY:cU true 3 1 (hdC h) K=K (.agg (tmC h.va)):=by
 rw[gA]
 exact propext ⟨fun h=>h.2,fun h=>⟨ab rfl,h⟩⟩
theorem Yg:eF [x,y,z,u] 0 ((hdC h).map V.c)=(hdC h).map V.c:=rfl
theorem Yh:eF [x,y,z] 0 ((tmC t).map V.c)=(tmC t).map V.c:=by rw[gA];rfl
theorem Yi:((tmC t).map V.c).length=3:=by rw[gA];rfl
theorem Yj:((hdC h).map V.c).length=4:=rfl
end
def pkH:=jj @Z7 (jj @UY (jj @Z5 (jj @abk (jj @abl (jj @Z6 (jj @abm (jj @abn (jj @Yg (jj @Yh (jj @Yi @Yj))))))))))
theorem Ku {P:Program} {G G':Gl} {f:FuncId} {az:List V} {r:V} (hG:∀ g cs,gat G g=some cs→gat G' g=some cs) (hT:GT G'→GT G) (h:FnOK P G f az r):FnOK P G' f az r:=by
 refine⟨h.1,fun I w vs hI hg hs ha=>(h.2 I w vs hI (fun g cs hc=>hg g cs (hG g cs hc)) hs ha).mono ?_⟩
 rintro e w' ⟨v,I',h1,h2,h3⟩
 exact⟨v,I',h1,⟨h2.os,h2.tape,h2.output,h2.size,h2.block,fun t=>h2.drawn (hT t)⟩,h3⟩
def glM:Gl:=fun g=>if g=0 then some [.lit (.int .i64 23),.lit (.int .i64 24),.lit (.int .i64 25)] else glT g
theorem iH:glM 0=some [.lit (.int .i64 23),.lit (.int .i64 24),.lit (.int .i64 25)]:=rfl
theorem Un {g:Nat} {cs:List C} (h:gat glT g=some cs):gat glM g=some cs:=by
 unfold gat at h ⊢
 split at h
 ·cases h
 ·rename_i hg
  rw[if_neg hg]
  unfold glM
  split
  ·rename_i h0;subst h0;simp[glT] at h
  ·exact h
theorem Gg:¬ GT glM:=by unfold GT glM glT;simp
theorem upM {f:FuncId} {az:List V} {r:V} (h:FnOK Tryz.prog glT f az r):FnOK Tryz.prog glM f az r:=Ku (fun _ _=>Un) (fun t=>absurd t Gg) h
theorem zh {I:List Tm} {b:Nat} (h:∀ t∈I,bu t≤b):cH I≤I.length*b:=by
 induction I with
 |nil=>simp[cH]
 |cons t l ih=>
  simp only[cH,aC,dh]
  have:=ih fun x hx=>h x (aN _ hx)
  have:=h t (aR ..)
  omega
theorem sZ {s:Sy} (hS:SyOk s):cH s.its≤10000:=by
 have:=zh (b:=100) fun t ht=>(hS.iv t ht).2
 have:=hS.iN
 have:s.its.length*100≤100*100:=aO _ this
 omega
theorem vu {s:Sy} (hS:SyOk s) (t:Tm) (hv:bR t=true) (ht:bu t≤1000000000):FnOK Tryz.prog glM 49 [.c (tsC s.its),.agg (tmC t)] (bo (knS s t)):=
 upM (Kk s.its t (fun t ht=>(hS.iv t ht).1) (by have:=sZ hS;omega) hv ht)
def HG:=jj @pkA @ptA
set_option maxHeartbeats 1000000 in
theorem Br (es:List Hd) (hm:es.length≤9223372036854775807) (g:FuncId) (caps:List C) (p:Hd→Bool) (hp:∀ e∈es,FnOK Tryz.prog G g (.agg (hdC e)::caps.map .c) (bo (p e))) :
 FnOK Tryz.prog G 102 [.c (.sl (es.map hdC)),.c (.fn (.func g) [] caps)] (i64 (k7 p es)):=by
 refine bP (rs:=[.tmp 4]) false [] mixed Tryz.func102 rfl rfl rfl rfl (by kernel_rfl) (by simp) rfl rfl ?_
 simp -implicitDefEqProofs only[HG,seval]
 refine cZ (fun i:Nat=>hdS [(0,.c (.sl (es.map hdC))),(1,.c (.fn (.func g) [] caps)),(7,i64 es.length),(8,i64 i)] []) (fun i=>es.length - i) (fun i=>i≤es.length∧∀ j (h:j<es.length),j<i→p es[j]=false) 0 ⟨aA _,by simp⟩ ?_ ?_
 ·refine cR rfl (aA _) (ae _) ?_ trivial
  simp[FL,ar]
 rintro i ⟨hi,hno⟩ R hnorm hexit hret
 simp -implicitDefEqProofs only[pkA,seval]
 refine aZ (fun hlt=>?_) (fun hge=>?_)
 ·have hlt:i<es.length:=by simpa using hlt
  simp -implicitDefEqProofs only[pkA,seval]
  refine dL kO rfl jD (by decide) (aM i) (c:=hdC es[i]) (by simp[hlt]) (fK _) ?_
  simp -implicitDefEqProofs only[HG,seval,fK]
  refine aD rfl (hp _ (aL hlt)) (by simp[V.boxy]) ?_
  simp -implicitDefEqProofs only[pkA,seval]
  refine aZ (fun hy=>?_) (fun hn=>?_)
  ·simp -implicitDefEqProofs only[pkA,seval]
   refine hret _ ?_
   simp -implicitDefEqProofs only[pkA,seval]
   rw[ma hlt hy hno]
  ·simp -implicitDefEqProofs only[pkA,seval]
   refine hnorm (i+1) _ ⟨hlt,fun j h hj=>?_⟩ (by omega) (cR rfl (aA _) (ae _) ?_ trivial)
   ·rcases cx j i with h1 | h1
    ·exact hno j h h1
    ·have:j=i:=by omega
     subst this;exact hn
   ·have hw:=wrap_i64 (i+1) (by omega)
    simp[FL,ar,hw]
 ·have:i=es.length:=by simp at hge;omega
  subst this
  simp -implicitDefEqProofs only[pkA]
  refine hexit _ _ ?_
  simp -implicitDefEqProofs only[pkA,seval]
  rw[jI hno]
set_option maxHeartbeats 1000000 in
theorem Bs (es:List Tm) (hm:es.length≤9223372036854775807) (g:FuncId) (caps:List C) (p:Tm→Bool) (hp:∀ e∈es,FnOK Tryz.prog G g (.agg (tmC e)::caps.map .c) (bo (p e))) :
 FnOK Tryz.prog G 95 [.c (.sl (es.map tmC)),.c (.fn (.func g) [] caps)] (i64 (k7 p es)):=by
 refine bP (rs:=[.tmp 4]) false [] mixed Tryz.func95 rfl rfl rfl rfl (by kernel_rfl) (by simp) rfl rfl ?_
 simp -implicitDefEqProofs only[HG,seval]
 refine cZ (fun i:Nat=>hdS [(0,.c (.sl (es.map tmC))),(1,.c (.fn (.func g) [] caps)),(7,i64 es.length),(8,i64 i)] []) (fun i=>es.length - i) (fun i=>i≤es.length∧∀ j (h:j<es.length),j<i→p es[j]=false) 0 ⟨aA _,by simp⟩ ?_ ?_
 ·refine cR rfl (aA _) (ae _) ?_ trivial
  simp[FL,ar]
 rintro i ⟨hi,hno⟩ R hnorm hexit hret
 simp -implicitDefEqProofs only[pkA,seval]
 refine aZ (fun hlt=>?_) (fun hge=>?_)
 ·have hlt:i<es.length:=by simpa using hlt
  simp -implicitDefEqProofs only[pkA,seval]
  refine dL dm rfl dc (by decide) (aM i) (c:=tmC es[i]) (by simp[hlt]) (b8 _) ?_
  simp -implicitDefEqProofs only[HG,seval,b8]
  refine aD rfl (hp _ (aL hlt)) (by simp[V.boxy]) ?_
  simp -implicitDefEqProofs only[pkA,seval]
  refine aZ (fun hy=>?_) (fun hn=>?_)
  ·simp -implicitDefEqProofs only[pkA,seval]
   refine hret _ ?_
   simp -implicitDefEqProofs only[pkA,seval]
   rw[ma hlt hy hno]
  ·simp -implicitDefEqProofs only[pkA,seval]
   refine hnorm (i+1) _ ⟨hlt,fun j h hj=>?_⟩ (by omega) (cR rfl (aA _) (ae _) ?_ trivial)
   ·rcases cx j i with h1 | h1
    ·exact hno j h h1
    ·have:j=i:=by omega
     subst this;exact hn
   ·have hw:=wrap_i64 (i+1) (by omega)
    simp[FL,ar,hw]
 ·have:i=es.length:=by simp at hge;omega
  subst this
  simp -implicitDefEqProofs only[pkA]
  refine hexit _ _ ?_
  simp -implicitDefEqProofs only[pkA,seval]
  rw[jI hno]
set_option maxHeartbeats 1000000 in
theorem vj (es:List Tm) (hm:es.length≤9223372036854775807) (g:FuncId) (caps:List C) (p:Tm→Bool) (hp:∀ e∈es,FnOK Tryz.prog G g (.agg (tmC e)::caps.map .c) (bo (p e))) :
 FnOK Tryz.prog G 50 [.c (.sl (es.map tmC)),.c (.fn (.func g) [] caps)] (bo (es.any p)):=by
 refine bP (rs:=[.tmp 4]) false [] mixed Tryz.func50 rfl rfl rfl rfl (by kernel_rfl) (by simp) rfl rfl ?_
 simp -implicitDefEqProofs only[pkA,seval]
 refine aD rfl (Bs es hm g caps p hp) (by simp[V.boxy]) ?_
 simp -implicitDefEqProofs only[pkA,seval]
 rw[← jo]
theorem Gh (o:Hd) (t:Tm) (ho:bu o.va≤1000000000) (ht:bu t≤1000000000):FnOK Tryz.prog G 103 [.agg (hdC o),.c (.rp (tmC t) 0)] (bo (decide (o.va=t))):=by
 refine bP (rs:=[.tmp 3]) false [] mixed Tryz.func103 rfl rfl rfl rfl (by kernel_rfl) (by simp) rfl rfl ?_
 simp -implicitDefEqProofs only[pkA,ptA,pkT,pkH,seval]
 refine aD («as»:=[.agg (tmC o.va),.agg (tmC t)]) rfl (qG o.va t ho ht) (fun _=>rfl) ?_
 simp -implicitDefEqProofs only[pkA,seval]
section
variable {nb q:Nat} {K:V→Prop} {s:Sy} {x y z u v:V}
theorem UZ:ck ((syC s).map V.c)=false:=rfl
theorem abo:ldB nb q ((syC s).map V.c) 0 K=(q<nb∧K (.c (hsC s.hs))):=rfl
theorem abp:ldB nb q ((syC s).map V.c) 1 K=(q<nb∧K (.c (tsC s.its))):=rfl
theorem abq:ldB nb q ((syC s).map V.c) 2 K=(q<nb∧K (.c (hsC s.os))):=rfl
theorem abr:ldB nb q ((syC s).map V.c) 3 K=(q<nb∧K (.c (tsC s.rs))):=rfl
theorem abt:ldB nb q ((syC s).map V.c) 4 K=(q<nb∧K (i64 s.fresh)):=rfl
theorem Z8:cU false 1 0 (syC s) K=K (.c (hsC s.hs)):=rfl
theorem Z9:cU false 1 1 (syC s) K=K (.c (tsC s.its)):=rfl
theorem aaa:cU false 1 2 (syC s) K=K (.c (hsC s.os)):=rfl
theorem aab:cU false 1 3 (syC s) K=K (.c (tsC s.rs)):=rfl
theorem aac:cU false 1 4 (syC s) K=K (i64 s.fresh):=rfl
theorem aad:cU true 5 0 (syC s) K=K (.agg (syC s)):=propext ⟨fun h=>h.2,fun h=>⟨ab rfl,h⟩⟩
theorem PC:ldA nb q ((syC s).map V.c) 0 5 K=(q<nb∧K (.agg (syC s))):=by
 unfold ldA
 exact propext ⟨fun h=>⟨h.1,h.2.2⟩,fun h=>⟨h.1,⟨rfl,rfl⟩,h.2⟩⟩
theorem Yk:eF [x,y,z,u,v] 0 ((syC s).map V.c)=(syC s).map V.c:=rfl
theorem Yl:((syC s).map V.c).length=5:=rfl
theorem Uo:(syC s).length=5:=rfl
end
def pkS:=jj @UZ (jj @abo (jj @abp (jj @abq (jj @abr (jj @abt (jj @Z8 (jj @Z9 (jj @aaa (jj @aab (jj @aac (jj @aad (jj @PC (jj @Yk (jj @Yl @Uo))))))))))))))
theorem Up {s:Sy} {t:Tm}:orS s t=if k7 (fun o=>decide (o.va=t)) s.os<0 then -1 else((s.os.find? (fun o=>decide (o.va=t))).map (·.ty)).getD (-1):=by
 unfold orS k7
 cases h:s.os.find? (fun o=>decide (o.va=t)) with
 |none=>
  have:s.os.findIdx? (fun o=>decide (o.va=t))=none:=by
   rw[di];intro x hx;rw[List.find?_eq_none] at h;simpa using h x hx
  rw[this];rfl
 |some o=>
  cases h2:s.os.findIdx? (fun o=>decide (o.va=t)) with
  |none=>
   rw[di] at h2
   have h3:=h2 o (List.mem_of_find?_eq_some h)
   rw[List.find?_some h] at h3;cases h3
  |some i=>
   simp only[bI,bM]
   rw[if_neg (by omega)]
def U0:=jj @pkA (jj @ptA @pkS)
set_option maxHeartbeats 1000000 in
theorem zi {s:Sy} (hS:SyOk s) (t:Tm) (ht:bu t≤1000000000):FnOK Tryz.prog G 63 [.agg (syC s),.agg (tmC t)] (i64 (orS s t)):=by
 have hol:s.os.length≤100:=by have:=hS.on;have:=hS.hn;omega
 have hsz:∀ o∈s.os,bu o.va≤1000000000:=fun o ho=>bU (hS.hv o (hS.ov o ho)).2.1 (by decide)
 obtain⟨tk,tn,tl⟩:=t
 generalize ht0:Tm.mk tk tn tl=t at ht ⊢
 have hIx:=Br (G:=G) (caps:=[.rp (tmC t) 0]) s.os (by omega) 103 (fun o=>decide (o.va=t)) (fun e he=>Gh e t (hsz e he) ht)
 refine bP (rs:=[.tmp 4]) false [] mixed Tryz.func63 rfl rfl rfl rfl (by kernel_rfl) (by simp) rfl rfl ?_
 simp -implicitDefEqProofs only[U0,seval]
 refine aD («as»:=[.c (.sl (s.os.map hdC)),.c (.fn (.func 103) [] [.rp (tmC t) 0])]) (by subst ht0;rfl) hIx (fun _=>rfl) ?_
 simp -implicitDefEqProofs only[pkA,seval]
 refine aZ (fun hlt=>?_) (fun hge=>?_)
 ·simp -implicitDefEqProofs only[pkA,seval]
  rw[Up,if_pos (by simpa using hlt)]
 ·have hge:¬ k7 (fun o:Hd=>decide (o.va=t)) s.os<0:=by simpa using hge
  obtain⟨i,hi,hk⟩:∃ i:Nat,∃ h:i<s.os.length,k7 (fun o:Hd=>decide (o.va=t)) s.os=i∧s.os.find? (fun o=>decide (o.va=t))=some s.os[i]:=by
   unfold k7 at hge ⊢
   cases h2:s.os.findIdx? (fun o=>decide (o.va=t)) with
   |none=>rw[h2] at hge;exact absurd (by decide) hge
   |some i=>
    obtain⟨h3,h4,h5⟩:=bO.1 h2
    refine⟨i,h3,rfl,?_⟩
    rw[List.find?_eq_some_iff_getElem]
    exact⟨h4,i,h3,rfl,fun j hj=>by simpa using h5 j hj⟩
  have ho:orS s t=s.os[i].ty:=by unfold orS;rw[hk.2]
  simp -implicitDefEqProofs only[U0,seval]
  rw[hk.1,ho]
  refine dL kO rfl jD (by decide) (aM i) (c:=hdC s.os[i]) (by simp[hi]) (fK _) ?_
  simp -implicitDefEqProofs only[pkA,ptA,pkH,seval]
def U1:=jj @pkA (jj @ptA (jj @pkT @pkS))
set_option maxHeartbeats 1000000 in
theorem oG {s:Sy} (hS:SyOk s) (t:Tm) (hv:bR t=true) (ht:bu t≤1000000000):FnOK Tryz.prog glM 24 [.agg (syC s),.agg (tmC t)] (i64 (oa s t)):=by
 have hw:∀ o:Int,-1≤o→o≤2147483647→IntKind.i64.wrap (o+1)=o+1:=fun o h1 h2=>by
  rcases Int.lt_or_le o 0 with h | h
  ·have:o=-1:=by omega
   subst this;rfl
  ·obtain⟨k,rfl⟩:∃ k:Nat,o=k:=⟨o.toNat,by omega⟩
   exact wrap_i64 (k+1) (by omega)
 have hb:-1≤orS s t∧orS s t≤2147483647:=by
  unfold orS
  split
  ·rename_i o ho
   have:=hS.hv o (hS.ov o (List.mem_of_find?_eq_some ho))
   omega
  ·omega
 refine bP (rs:=[.tmp 4]) false [] mixed Tryz.func24 rfl rfl rfl rfl (by kernel_rfl) (by simp) rfl rfl ?_
 simp -implicitDefEqProofs only[pkA,ptA,pkT,seval]
 refine aD rfl (sN t) (fun _=>rfl) ?_
 simp -implicitDefEqProofs only[pkA,seval]
 unfold oa
 cases hk:ey t with
 |false=>
  simp -implicitDefEqProofs only[pkA,seval]
 |true=>
  simp -implicitDefEqProofs only[U1,seval]
  refine aD rfl (vu hS t hv ht) (fun _=>rfl) ?_
  simp -implicitDefEqProofs only[pkA,seval]
  cases hn:knS s t with
  |true=>
   simp -implicitDefEqProofs only[pkA,seval]
  |false=>
   simp -implicitDefEqProofs only[U1,seval]
   refine aD rfl (zi hS t ht) (fun _=>rfl) ?_
   simp -implicitDefEqProofs only[pkA,seval]
   rw[hw _ hb.1 hb.2]
