/- Policies, as they come in: their cells are those of a policy. -/
import Derived.Test.YtegbpjodbjhjeaaGreatDoorKpVlSame
import Derived.Test.YtegbpjodbjhjeaaGreatDoorVlBridge
set_option maxHeartbeats 4000000
set_option linter.all false
namespace Go.Proofs.YtegbpjodbjhjeaaGreatDoor.Kp
open Go Go.Vl
set_option maxRecDepth 10000
theorem S9:Tryz.prog.cellsOf 56=3:=by kernel_rfl
theorem Ta:Tryz.prog.cellsOf 94=3:=by kernel_rfl
theorem Tb:Tryz.prog.cellsOf 154=5:=by kernel_rfl
theorem Tc:Tryz.prog.cellsOf 26=4:=by kernel_rfl
theorem tC:Tryz.prog.cellsOf 3=1:=by kernel_rfl
theorem Co:Tryz.prog.cellsOf 9=1:=by kernel_rfl
theorem Ox:Tryz.prog.cellsOf 22=1:=by kernel_rfl
theorem Oy:Tryz.prog.cellsOf 23=1:=by kernel_rfl
theorem Oz:Tryz.prog.cellsOf 24=1:=by kernel_rfl
def adG (t:Ty):Prop:=t.name.size≤maxLen∧I64 t.flags∧I64 t.life
def adH (t:Ru):Prop:=I64 t.kind∧I64 t.a∧I64 t.b
def adI (t:Qu):Prop:=I64 t.cmd∧I64 t.count∧I64 t.delay∧I64 t.valid∧I64 t.uses
theorem lO {xs:List C} (h:xh Tryz.prog 3 xs):∃ n,xs=[cI n]∧I64 n:=by
 obtain⟨m,rfl,hm⟩:=Wh Tryz.underlying3 h
 exact⟨m,rfl,ZM hm⟩
theorem Td {xs:List C} (h:xh Tryz.prog 9 xs):∃ s,xs=[cS s]∧s.size≤maxLen:=by
 obtain⟨m,rfl,hm⟩:=Wj Tryz.underlying9 h
 exact⟨m,rfl,hm⟩
theorem adJ {xs:List C} (h:xh Tryz.prog 56 xs):∃ t:Ty,xs=tyC t∧adG t:=by
 obtain⟨hl,hf⟩:=o0 Tryz.underlying56 h
 rw[S9] at hl
 match xs,hl with
 |[x0,x1,x2],_=>
  have h0:=hf _ (by simp;exact .inl rfl)
  have h1:=hf _ (by simp;exact .inr (.inl rfl))
  have h2:=hf _ (by simp;exact .inr (.inr rfl))
  simp only[Co,tC,eM,iI,fe,kV] at h0 h1 h2
  obtain⟨s,e0,hs⟩:=Td h0
  obtain⟨a,e1,ha⟩:=lO h1
  obtain⟨b,e2,hb⟩:=lO h2
  cases e0;cases e1;cases e2
  exact⟨⟨s,a,b⟩,rfl,hs,ha,hb⟩
theorem adK {xs:List C} (h:xh Tryz.prog 94 xs):∃ t:Ru,xs=ruC t∧adH t:=by
 obtain⟨hl,hf⟩:=o0 Tryz.underlying94 h
 rw[Ta] at hl
 match xs,hl with
 |[x0,x1,x2],_=>
  have h0:=hf _ (by simp;exact .inl rfl)
  have h1:=hf _ (by simp;exact .inr (.inl rfl))
  have h2:=hf _ (by simp;exact .inr (.inr rfl))
  simp only[tC,eM,iI,fe,kV] at h0 h1 h2
  obtain⟨s,e0,hs⟩:=lO h0
  obtain⟨a,e1,ha⟩:=lO h1
  obtain⟨b,e2,hb⟩:=lO h2
  cases e0;cases e1;cases e2
  exact⟨⟨s,a,b⟩,rfl,hs,ha,hb⟩
theorem adL {xs:List C} (h:xh Tryz.prog 154 xs):∃ t:Qu,xs=quC t∧adI t:=by
 obtain⟨hl,hf⟩:=o0 Tryz.underlying154 h
 rw[Tb] at hl
 match xs,hl with
 |[x0,x1,x2,x3,x4],_=>
  have h0:=hf _ (by simp;exact .inl rfl)
  have h1:=hf _ (by simp;exact .inr (.inl rfl))
  have h2:=hf _ (by simp;exact .inr (.inr (.inl rfl)))
  have h3:=hf _ (by simp;exact .inr (.inr (.inr (.inl rfl))))
  have h4:=hf _ (by simp;exact .inr (.inr (.inr (.inr rfl))))
  simp only[tC,eM,iI,fe,kV] at h0 h1 h2 h3 h4
  obtain⟨a0,e0,k0⟩:=lO h0
  obtain⟨a1,e1,k1⟩:=lO h1
  obtain⟨a2,e2,k2⟩:=lO h2
  obtain⟨a3,e3,k3⟩:=lO h3
  obtain⟨a4,e4,k4⟩:=lO h4
  cases e0;cases e1;cases e2;cases e3;cases e4
  exact⟨⟨a0,a1,a2,a3,a4⟩,rfl,k0,k1,k2,k3,k4⟩
structure PolIn (p:Pol):Prop where
 name:p.name.size≤maxLen
 lt:p.types.length≤maxLen
 lr:p.rules.length≤maxLen
 lq:p.quorums.length≤maxLen
 types:∀ t∈p.types,adG t
 rules:∀ t∈p.rules,adH t
 quorums:∀ t∈p.quorums,adI t
theorem PolIn.ok {p:Pol} (h:PolIn p):adF p:=by
 have h1:=h.lt
 have h2:=h.lr
 have h3:=h.lq
 unfold maxLen at h1 h2 h3
 exact⟨by omega,by omega,by omega⟩
theorem adM {xs:List C} (h:xh Tryz.prog 26 xs):∃ p:Pol,xs=poC p∧PolIn p:=by
 obtain⟨hl,hf⟩:=o0 Tryz.underlying26 h
 rw[Tc] at hl
 match xs,hl with
 |[x0,x1,x2,x3],_=>
  have h0:=hf _ (by simp;exact .inl rfl)
  have h1:=hf _ (by simp;exact .inr (.inl rfl))
  have h2:=hf _ (by simp;exact .inr (.inr (.inl rfl)))
  have h3:=hf _ (by simp;exact .inr (.inr (.inr rfl)))
  simp only[Co,Ox,Oy,Oz,eM,iI,fe,kV] at h0 h1 h2 h3
  obtain⟨s,e0,hs⟩:=Td h0
  obtain⟨es1,e1,l1,k1⟩:=tw Tryz.underlying22 h1
  obtain⟨es2,e2,l2,k2⟩:=tw Tryz.underlying23 h2
  obtain⟨es3,e3,l3,k3⟩:=tw Tryz.underlying24 h3
  obtain⟨ts,rfl,t1⟩:=vO fun x hx=>adJ (k1 x hx)
  obtain⟨rs,rfl,t2⟩:=vO fun x hx=>adK (k2 x hx)
  obtain⟨qs,rfl,t3⟩:=vO fun x hx=>adL (k3 x hx)
  cases e0;cases e1;cases e2;cases e3
  exact⟨⟨s,ts,rs,qs⟩,rfl,hs,by simpa using l1,by simpa using l2,by simpa using l3,t1,t2,t3⟩
theorem aa0:c9 Tryz.prog 26=true:=by kernel_rfl
theorem Te {x:V} (h:∃ n cs,Shp Tryz.prog n 26 cs∧x=Bg Tryz.prog 26 cs):∃ p:Pol,x=.agg (poC p)∧PolIn p:=by
 obtain⟨n,cs,h,rfl⟩:=h
 obtain⟨p,rfl,hp⟩:=adM ⟨n,h⟩
 exact⟨p,by unfold Bg;rw[aa0,if_pos rfl],hp⟩
def aa1 (n lo hi:Int):Bool:=decide (lo≤n)&&decide (n≤hi)
theorem Tf (n lo hi:Int):EA ⟨n,lo,hi⟩=!aa1 n lo hi:=by
 unfold EA aa1
 rw[jm]
 simp
def uh (l:List Ty) (k:Nat) (t:Ty):Int:=
 if decide (32≤(k:Int))=true then 2 else if(!nC t.name)=true then 4 else if((l.take k).any fun o=>decide (o.name=t.name))=true then 4 else if([⟨t.flags,0,127⟩,⟨t.life,0,1099511627776⟩].any EA)=true then 1 else 0
def Hk (l:List Ru) (k:Nat) (nt:Int) (r:Ru):Int:=
 if decide (256≤(k:Int))=true then 2 else if([⟨r.kind,1,5⟩,⟨r.a,0,nt - 1⟩,⟨r.b,0,nt - 1⟩].any EA)=true then 1 else if((l.take k).any fun o=>decide (r=o))=true then 12 else 0
def Hl (l:List Qu) (k:Nat) (q:Qu):Int:=
 if([⟨q.cmd,1,27⟩,⟨q.count,1,16⟩,⟨q.delay,0,1099511627776⟩,⟨q.valid,q.delay,1099511627776⟩,⟨q.uses,1,1048576⟩].any EA)=true then 1
 else if([23,24,25].any fun e:Int=>decide (q.cmd=e))=true then 10 else if((l.take k).any fun o=>decide (o.cmd=q.cmd))=true then 12 else 0
theorem Av {α:Type} (f:α→List C) (l:List α) (k:Nat):(l.map f).take k=(l.take k).map f:=List.map_take.symm
theorem xq {T e:TypeId} {i j:TI} {P:Program} {es:List (List C)} {k:Nat} {KV:V→Prop} (hT:ti P T=some i) (hk:i.kd=.slice e) (hE:ti P e=some j) (hl:k≤es.length) (hs:∀ x∈es,x.length=j.size) (hK:KV (.c (.sl (es.take k)))) :
 gG P T (.c (.sl es)) none (some (i64 k)) none KV:=by
 obtain⟨kd,a,b,c,d,f,g⟩:=i;subst hk
 simp only[gG,hT,hE,gC]
 refine⟨⟨Int.le_refl _,aI k,by omega,hs⟩,?_⟩
 simpa using hK
theorem Aw {l ds:List V} (h:l.length=ds.length):eU l 0 ds=ds:=by simp[eU,h]
def JS:=jj @pkA (jj @ptA @pkP)
theorem EB {G:Gl} (l:List Ty) (k:Nat) (hk:k<l.length) (hl:l.length≤9223372036854775807) (hn:∀ t∈l,t.name.size≤9223372036854775807) :
 FnOK Tryz.prog G 145 [.c (.sl (l.map tyC)),i64 k] (i64 (uh l k l[k])):=by
 refine bP (rs:=[.tmp 4]) false [] mixed Tryz.func145 rfl rfl rfl rfl (by kernel_rfl) (by simp) rfl rfl ?_
 have hnk:=hn l[k] (aF hk)
 simp only[pkA,seval]
 refine dz nw rfl kM (by decide) (aI k) (c:=tyC l[k]) (by simp[hk]) rfl ?_
 generalize ht:l[k]=t at *
 repeat' first
  |(simp only[JS,seval,ap,Aw,ap])
  |refine jc (fun h=>?_) (fun h=>?_)
  |refine aV (fun h=>?_) (fun h=>?_)
  |refine aD rfl (Ly _ hnk) (by simp[V.boxy]) ?_
  |(refine xq nw rfl kM (by simp;omega) (by simp[yX]) ?_;rw[Av])
  |refine aD rfl (yE (l.take k) (by simp;omega) _ _ (fun o=>decide (o.name=t.name)) (fun e _=>W8 t e)) (fun _=>rfl) ?_
  |refine aD rfl (Au [⟨t.flags,0,127⟩,⟨t.life,0,1099511627776⟩] (by simp)) (fun _=>rfl) ?_
 all_goals (unfold uh;simp only[*,↓reduceIte,aS,j3])
theorem EC {G:Gl} (l:List Ru) (k:Nat) (nt:Int) (hk:k<l.length) (hl:l.length≤9223372036854775807) (hnt:0≤nt∧nt≤9223372036854775807) :
 FnOK Tryz.prog G 146 [.c (.sl (l.map ruC)),i64 k,i64 nt] (i64 (Hk l k nt l[k])):=by
 refine bP (rs:=[.tmp 6]) false [] mixed Tryz.func146 rfl rfl rfl rfl (by kernel_rfl) (by simp) rfl rfl ?_
 have hw:=wrap_i64 (nt - 1) (by omega)
 simp only[pkA,seval]
 refine dz Aa rfl nV (by decide) (aI k) (c:=ruC l[k]) (by simp[hk]) rfl ?_
 generalize ht:l[k]=t at *
 repeat' first
  |(simp only[JS,seval,ap,Aw,ap,hw])
  |refine jc (fun h=>?_) (fun h=>?_)
  |refine aV (fun h=>?_) (fun h=>?_)
  |(refine xq Aa rfl nV (by simp;omega) (by simp[Lu]) ?_;rw[Av])
  |refine aD rfl (yf (l.take k) (by simp;omega) t) (fun _=>rfl) ?_
  |refine aD rfl (Au [⟨t.kind,1,5⟩,⟨t.a,0,nt - 1⟩,⟨t.b,0,nt - 1⟩] (by simp)) (fun _=>rfl) ?_
 all_goals (unfold Hk;simp only[*,↓reduceIte,aS])
theorem Ax {G:Gl} (hG:G 0=some [.lit (.int .i64 23),.lit (.int .i64 24),.lit (.int .i64 25)]) (l:List Qu) (k:Nat) (hk:k<l.length) (hl:l.length≤9223372036854775807) :
 FnOK Tryz.prog G 147 [.c (.sl (l.map quC)),i64 k] (i64 (Hl l k l[k])):=by
 refine bP (rs:=[.tmp 4]) false [] mixed Tryz.func147 rfl rfl rfl rfl (by kernel_rfl) (by simp) rfl rfl ?_
 simp only[pkA,seval]
 refine dz GU rfl nO (by decide) (aI k) (c:=quC l[k]) (by simp[hk]) rfl ?_
 generalize ht:l[k]=t at *
 have pw:∀ K,gG Tryz.prog 179 (.c (.rp [.lit (.int .i64 23),.lit (.int .i64 24),.lit (.int .i64 25)] 0)) none none none K=K (.c (.sl (([23,24,25]:List Int).map inC))):=fun K=>by
  simp only[gG,aaG,D8]
  simp[lJ,inC,cI]
 have uY:∀ fr bx nb,ev G ⟨fr,bx,nb⟩ (.global 0)=.c (.rp [.lit (.int .i64 23),.lit (.int .i64 24),.lit (.int .i64 25)] 0):=fun fr bx nb=>by simp[ev,gat,hG]
 repeat' first
  |(simp only[JS,seval,ap,Aw,ap,pw,uY,jo])
  |refine jc (fun h=>?_) (fun h=>?_)
  |refine aV (fun h=>?_) (fun h=>?_)
  |(refine xq GU rfl nO (by simp;omega) (by simp[Lv]) ?_;rw[Av])
  |refine aD rfl (yg [23,24,25] (by simp) t.cmd) (fun _=>rfl) ?_
  |refine aD rfl (yF (l.take k) (by simp;omega) _ _ (fun o=>decide (o.cmd=t.cmd)) (fun e _=>W9 t e)) (fun _=>rfl) ?_
  |refine aD rfl (Au [⟨t.cmd,1,27⟩,⟨t.count,1,16⟩,⟨t.delay,0,1099511627776⟩,⟨t.valid,t.delay,1099511627776⟩,⟨t.uses,1,1048576⟩] (by simp)) (fun _=>rfl) ?_
 all_goals (unfold Hl;simp only[*,↓reduceIte,aS])
