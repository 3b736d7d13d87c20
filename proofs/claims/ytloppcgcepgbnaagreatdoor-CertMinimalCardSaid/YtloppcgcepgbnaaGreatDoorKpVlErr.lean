/- Policies, as they come in: their cells are those of a policy. -/
import Derived.Test.YtloppcgcepgbnaaGreatDoorKpVlSame
import Derived.Test.YtloppcgcepgbnaaGreatDoorVlLaw
set_option maxHeartbeats 4000000
set_option linter.all false
namespace Go.Proofs.YtloppcgcepgbnaaGreatDoor.Kp
open Go Go.Vl
set_option maxRecDepth 10000
theorem Zz:Tryz.prog.cellsOf 57=3:=by kernel_rfl
theorem ZA:Tryz.prog.cellsOf 120=3:=by kernel_rfl
theorem ZB:Tryz.prog.cellsOf 122=5:=by kernel_rfl
theorem ZC:Tryz.prog.cellsOf 26=4:=by kernel_rfl
theorem vj:Tryz.prog.cellsOf 3=1:=by kernel_rfl
theorem Fh:Tryz.prog.cellsOf 9=1:=by kernel_rfl
theorem TS:Tryz.prog.cellsOf 22=1:=by kernel_rfl
theorem TU:Tryz.prog.cellsOf 23=1:=by kernel_rfl
theorem TV:Tryz.prog.cellsOf 24=1:=by kernel_rfl
def amF (t:Ty):Prop:=t.name.size≤maxLen∧I64 t.flags∧I64 t.life
def amG (t:Ru):Prop:=I64 t.kind∧I64 t.a∧I64 t.b
def amH (t:Qu):Prop:=I64 t.cmd∧I64 t.count∧I64 t.delay∧I64 t.valid∧I64 t.uses
theorem nh {xs:List C} (h:tg Tryz.prog 3 xs):∃ n,xs=[cI n]∧I64 n:=by
 obtain⟨m,rfl,hm⟩:=AV Tryz.underlying3 h
 exact⟨m,rfl,ahe hm⟩
theorem ZD {xs:List C} (h:tg Tryz.prog 9 xs):∃ s,xs=[cS s]∧s.size≤maxLen:=by
 obtain⟨m,rfl,hm⟩:=acu Tryz.underlying9 h
 exact⟨m,rfl,hm⟩
theorem amI {xs:List C} (h:tg Tryz.prog 57 xs):∃ t:Ty,xs=tyC t∧amF t:=by
 obtain⟨hl,hf⟩:=pN Tryz.underlying57 h
 rw[Zz] at hl
 match xs,hl with
 |[x0,x1,x2],_=>
  have h0:=hf _ (by simp;exact .inl rfl)
  have h1:=hf _ (by simp;exact .inr (.inl rfl))
  have h2:=hf _ (by simp;exact .inr (.inr rfl))
  simp only[Fh,vj,dE,gJ,fp,jB] at h0 h1 h2
  obtain⟨s,e0,hs⟩:=ZD h0
  obtain⟨a,e1,ha⟩:=nh h1
  obtain⟨b,e2,hb⟩:=nh h2
  cases e0;cases e1;cases e2
  exact⟨⟨s,a,b⟩,rfl,hs,ha,hb⟩
theorem amJ {xs:List C} (h:tg Tryz.prog 120 xs):∃ t:Ru,xs=ruC t∧amG t:=by
 obtain⟨hl,hf⟩:=pN Tryz.underlying120 h
 rw[ZA] at hl
 match xs,hl with
 |[x0,x1,x2],_=>
  have h0:=hf _ (by simp;exact .inl rfl)
  have h1:=hf _ (by simp;exact .inr (.inl rfl))
  have h2:=hf _ (by simp;exact .inr (.inr rfl))
  simp only[vj,dE,gJ,fp,jB] at h0 h1 h2
  obtain⟨s,e0,hs⟩:=nh h0
  obtain⟨a,e1,ha⟩:=nh h1
  obtain⟨b,e2,hb⟩:=nh h2
  cases e0;cases e1;cases e2
  exact⟨⟨s,a,b⟩,rfl,hs,ha,hb⟩
theorem amK {xs:List C} (h:tg Tryz.prog 122 xs):∃ t:Qu,xs=quC t∧amH t:=by
 obtain⟨hl,hf⟩:=pN Tryz.underlying122 h
 rw[ZB] at hl
 match xs,hl with
 |[x0,x1,x2,x3,x4],_=>
  have h0:=hf _ (by simp;exact .inl rfl)
  have h1:=hf _ (by simp;exact .inr (.inl rfl))
  have h2:=hf _ (by simp;exact .inr (.inr (.inl rfl)))
  have h3:=hf _ (by simp;exact .inr (.inr (.inr (.inl rfl))))
  have h4:=hf _ (by simp;exact .inr (.inr (.inr (.inr rfl))))
  simp only[vj,dE,gJ,fp,jB] at h0 h1 h2 h3 h4
  obtain⟨a0,e0,k0⟩:=nh h0
  obtain⟨a1,e1,k1⟩:=nh h1
  obtain⟨a2,e2,k2⟩:=nh h2
  obtain⟨a3,e3,k3⟩:=nh h3
  obtain⟨a4,e4,k4⟩:=nh h4
  cases e0;cases e1;cases e2;cases e3;cases e4
  exact⟨⟨a0,a1,a2,a3,a4⟩,rfl,k0,k1,k2,k3,k4⟩
structure PolIn (p:Pol):Prop where
 name:p.name.size≤maxLen
 lt:p.types.length≤maxLen
 lr:p.rules.length≤maxLen
 lq:p.quorums.length≤maxLen
 types:∀ t∈p.types,amF t
 rules:∀ t∈p.rules,amG t
 quorums:∀ t∈p.quorums,amH t
theorem PolIn.ok {p:Pol} (h:PolIn p):amE p:=by
 have h1:=h.lt
 have h2:=h.lr
 have h3:=h.lq
 unfold maxLen at h1 h2 h3
 exact⟨by omega,by omega,by omega⟩
theorem amL {xs:List C} (h:tg Tryz.prog 26 xs):∃ p:Pol,xs=poC p∧PolIn p:=by
 obtain⟨hl,hf⟩:=pN Tryz.underlying26 h
 rw[ZC] at hl
 match xs,hl with
 |[x0,x1,x2,x3],_=>
  have h0:=hf _ (by simp;exact .inl rfl)
  have h1:=hf _ (by simp;exact .inr (.inl rfl))
  have h2:=hf _ (by simp;exact .inr (.inr (.inl rfl)))
  have h3:=hf _ (by simp;exact .inr (.inr (.inr rfl)))
  simp only[Fh,TS,TU,TV,dE,gJ,fp,jB] at h0 h1 h2 h3
  obtain⟨s,e0,hs⟩:=ZD h0
  obtain⟨es1,e1,l1,k1⟩:=rA Tryz.underlying22 h1
  obtain⟨es2,e2,l2,k2⟩:=rA Tryz.underlying23 h2
  obtain⟨es3,e3,l3,k3⟩:=rA Tryz.underlying24 h3
  obtain⟨ts,rfl,t1⟩:=u9 fun x hx=>amI (k1 x hx)
  obtain⟨rs,rfl,t2⟩:=u9 fun x hx=>amJ (k2 x hx)
  obtain⟨qs,rfl,t3⟩:=u9 fun x hx=>amK (k3 x hx)
  cases e0;cases e1;cases e2;cases e3
  exact⟨⟨s,ts,rs,qs⟩,rfl,hs,by simpa using l1,by simpa using l2,by simpa using l3,t1,t2,t3⟩
theorem ajI:cZ Tryz.prog 26=true:=by kernel_rfl
theorem HH {x:V} (h:∃ n cs,Shp Tryz.prog n 26 cs∧x=pd Tryz.prog 26 cs):∃ p:Pol,x=.agg (poC p)∧PolIn p:=by
 obtain⟨n,cs,h,rfl⟩:=h
 obtain⟨p,rfl,hp⟩:=amL ⟨n,h⟩
 exact⟨p,by unfold pd;rw[ajI,if_pos rfl],hp⟩
theorem aeQ:cZ Tryz.prog 3=false:=by kernel_rfl
theorem aeR {x:V} (h:∃ n cs,Shp Tryz.prog n 3 cs∧x=pd Tryz.prog 3 cs):∃ n,x=i64 n∧I64 n:=by
 obtain⟨n,cs,h,rfl⟩:=h
 obtain⟨p,rfl,hp⟩:=nh ⟨n,h⟩
 exact⟨p,by unfold pd;rw[aeQ];rfl,hp⟩
def K7 (n lo hi:Int):Bool:=decide (lo≤n)&&decide (n≤hi)
theorem rL (n lo hi:Int):wX ⟨n,lo,hi⟩=!K7 n lo hi:=by
 unfold wX K7
 rw[jL]
 simp
def oS (l:List Ty) (k:Nat) (t:Ty):Int:=
 if decide (32≤(k:Int))=true then 2 else if(!kA t.name)=true then 4 else if((l.take k).any fun o=>decide (o.name=t.name))=true then 4 else if([⟨t.flags,0,127⟩,⟨t.life,0,1099511627776⟩].any wX)=true then 1 else 0
def rM (l:List Ru) (k:Nat) (nt:Int) (r:Ru):Int:=
 if decide (256≤(k:Int))=true then 2 else if([⟨r.kind,1,5⟩,⟨r.a,0,nt - 1⟩,⟨r.b,0,nt - 1⟩].any wX)=true then 1 else if((l.take k).any fun o=>decide (r=o))=true then 12 else 0
def vS (l:List Qu) (k:Nat) (q:Qu):Int:=
 if([⟨q.cmd,1,27⟩,⟨q.count,1,16⟩,⟨q.delay,0,1099511627776⟩,⟨q.valid,q.delay,1099511627776⟩,⟨q.uses,1,1048576⟩].any wX)=true then 1
 else if([23,24,25].any fun e:Int=>decide (q.cmd=e))=true then 10 else if((l.take k).any fun o=>decide (o.cmd=q.cmd))=true then 12 else 0
theorem CY {α:Type} (f:α→List C) (l:List α) (k:Nat):(l.map f).take k=(l.take k).map f:=j7.symm
theorem zj {T e:TypeId} {i j:TI} {P:Program} {es:List (List C)} {k:Nat} {KV:V→Prop} (hT:ti P T=some i) (hk:i.kd=.slice e) (hE:ti P e=some j) (hl:k≤es.length) (hs:∀ x∈es,x.length=j.size) (hK:KV (.c (.sl (es.take k)))) :
 jl P T (.c (.sl es)) none (some (i64 k)) none KV:=by
 obtain⟨kd,a,b,c,d,f,g⟩:=i;subst hk
 simp only[jl,hT,hE,iQ]
 refine⟨⟨Int.le_refl _,aJ k,by omega,hs⟩,?_⟩
 simpa using hK
theorem uu {l ds:List V} (h:l.length=ds.length):eS l 0 ds=ds:=by simp[eS,h]
def Ou:=jj @pkA (jj @ptA @pkP)
theorem HI {G:Gl} (l:List Ty) (k:Nat) (hk:k<l.length) (hl:l.length≤9223372036854775807) (hn:∀ t∈l,t.name.size≤9223372036854775807) :
 FnOK Tryz.prog G 86 [.c (.sl (l.map tyC)),i64 k] (i64 (oS l k l[k])):=by
 refine bR (rs:=[.tmp 4]) false [] mixed Tryz.func86 rfl rfl rfl rfl (by kernel_rfl) (by simp) rfl rfl ?_
 have hnk:=hn l[k] (bM hk)
 simp only[pkA,seval]
 refine fE mD rfl j9 (by decide) (aJ k) (c:=tyC l[k]) (by simp[hk]) rfl ?_
 generalize ht:l[k]=t at *
 repeat' first
  |(simp only[Ou,seval,ak,uu,ak])
  |refine fA (fun h=>?_) (fun h=>?_)
  |refine aS (fun h=>?_) (fun h=>?_)
  |refine aN rfl (P3 _ hnk) (by simp[V.boxy]) ?_
  |(refine zj mD rfl j9 (by simp;omega) (by simp[nQ]) ?_;rw[CY])
  |refine aN rfl (Au (l.take k) (by simp;omega) _ _ (fun o=>decide (o.name=t.name)) (fun e _=>aeO t e)) (fun _=>rfl) ?_
  |refine aN rfl (CW [⟨t.flags,0,127⟩,⟨t.life,0,1099511627776⟩] (by simp)) (fun _=>rfl) ?_
 all_goals (unfold oS;simp only[*,↓reduceIte,aI,lK])
theorem HJ {G:Gl} (l:List Ru) (k:Nat) (nt:Int) (hk:k<l.length) (hl:l.length≤9223372036854775807) (hnt:0≤nt∧nt≤9223372036854775807) :
 FnOK Tryz.prog G 87 [.c (.sl (l.map ruC)),i64 k,i64 nt] (i64 (rM l k nt l[k])):=by
 refine bR (rs:=[.tmp 6]) false [] mixed Tryz.func87 rfl rfl rfl rfl (by kernel_rfl) (by simp) rfl rfl ?_
 have hw:=wrap_i64 (nt - 1) (by omega)
 simp only[pkA,seval]
 refine fE mY rfl iR (by decide) (aJ k) (c:=ruC l[k]) (by simp[hk]) rfl ?_
 generalize ht:l[k]=t at *
 repeat' first
  |(simp only[Ou,seval,ak,uu,ak,hw])
  |refine fA (fun h=>?_) (fun h=>?_)
  |refine aS (fun h=>?_) (fun h=>?_)
  |(refine zj mY rfl iR (by simp;omega) (by simp[qu]) ?_;rw[CY])
  |refine aN rfl (K5 (l.take k) (by simp;omega) t) (fun _=>rfl) ?_
  |refine aN rfl (CW [⟨t.kind,1,5⟩,⟨t.a,0,nt - 1⟩,⟨t.b,0,nt - 1⟩] (by simp)) (fun _=>rfl) ?_
 all_goals (unfold rM;simp only[*,↓reduceIte,aI])
theorem CZ {G:Gl} (hG:G 0=some [.lit (.int .i64 23),.lit (.int .i64 24),.lit (.int .i64 25)]) (l:List Qu) (k:Nat) (hk:k<l.length) (hl:l.length≤9223372036854775807) :
 FnOK Tryz.prog G 88 [.c (.sl (l.map quC)),i64 k] (i64 (vS l k l[k])):=by
 refine bR (rs:=[.tmp 4]) false [] mixed Tryz.func88 rfl rfl rfl rfl (by kernel_rfl) (by simp) rfl rfl ?_
 simp only[pkA,seval]
 refine fE ub rfl jy (by decide) (aJ k) (c:=quC l[k]) (by simp[hk]) rfl ?_
 generalize ht:l[k]=t at *
 have gf:∀ K,jl Tryz.prog 65 (.c (.rp [.lit (.int .i64 23),.lit (.int .i64 24),.lit (.int .i64 25)] 0)) none none none K=K (.c (.sl (([23,24,25]:List Int).map inC))):=fun K=>by
  simp only[jl,Px,pe]
  simp[ma,inC,cI]
 have rR:∀ fr bx nb,ev G ⟨fr,bx,nb⟩ (.global 0)=.c (.rp [.lit (.int .i64 23),.lit (.int .i64 24),.lit (.int .i64 25)] 0):=fun fr bx nb=>by simp[ev,gat,hG]
 repeat' first
  |(simp only[Ou,seval,ak,uu,ak,gf,rR,kS])
  |refine fA (fun h=>?_) (fun h=>?_)
  |refine aS (fun h=>?_) (fun h=>?_)
  |(refine zj ub rfl jy (by simp;omega) (by simp[xX]) ?_;rw[CY])
  |refine aN rfl (K6 [23,24,25] (by simp) t.cmd) (fun _=>rfl) ?_
  |refine aN rfl (Av (l.take k) (by simp;omega) _ _ (fun o=>decide (o.cmd=t.cmd)) (fun e _=>aeP t e)) (fun _=>rfl) ?_
  |refine aN rfl (CW [⟨t.cmd,1,27⟩,⟨t.count,1,16⟩,⟨t.delay,0,1099511627776⟩,⟨t.valid,t.delay,1099511627776⟩,⟨t.uses,1,1048576⟩] (by simp)) (fun _=>rfl) ?_
 all_goals (unfold vS;simp only[*,↓reduceIte,aI])
