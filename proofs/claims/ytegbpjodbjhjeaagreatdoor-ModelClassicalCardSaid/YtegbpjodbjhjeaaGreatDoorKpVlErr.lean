/- Policies, as they come in: their cells are those of a policy. -/
import Derived.Test.YtegbpjodbjhjeaaGreatDoorKpVlSame
import Derived.Test.YtegbpjodbjhjeaaGreatDoorVlBridge
set_option linter.all false
namespace Go.Proofs.YtegbpjodbjhjeaaGreatDoor.Kp
open Go Go.Vl
set_option maxRecDepth 10000
theorem Us:Tryz.prog.cellsOf 56=3:=by kernel_rfl
theorem Ut:Tryz.prog.cellsOf 94=3:=by kernel_rfl
theorem Uu:Tryz.prog.cellsOf 154=5:=by kernel_rfl
theorem Uv:Tryz.prog.cellsOf 26=4:=by kernel_rfl
theorem uu:Tryz.prog.cellsOf 3=1:=by kernel_rfl
theorem Du:Tryz.prog.cellsOf 9=1:=by kernel_rfl
theorem Pz:Tryz.prog.cellsOf 22=1:=by kernel_rfl
theorem PC:Tryz.prog.cellsOf 23=1:=by kernel_rfl
theorem PD:Tryz.prog.cellsOf 24=1:=by kernel_rfl
def aeQ (t:Ty):Prop:=t.name.size≤maxLen∧I64 t.flags∧I64 t.life
def aeR (t:Ru):Prop:=I64 t.kind∧I64 t.a∧I64 t.b
def aeS (t:Qu):Prop:=I64 t.cmd∧I64 t.count∧I64 t.delay∧I64 t.valid∧I64 t.uses
theorem k9 {xs:List C} (h:yn Tryz.prog 3 xs):∃ n,xs=[cI n]∧I64 n:=by
 obtain⟨m,rfl,hm⟩:=Xy Tryz.underlying3 h
 exact⟨m,rfl,aa1 hm⟩
theorem Uw {xs:List C} (h:yn Tryz.prog 9 xs):∃ s,xs=[cS s]∧s.size≤maxLen:=by
 obtain⟨m,rfl,hm⟩:=Xz Tryz.underlying9 h
 exact⟨m,rfl,hm⟩
theorem aeT {xs:List C} (h:yn Tryz.prog 56 xs):∃ t:Ty,xs=tyC t∧aeQ t:=by
 obtain⟨hl,hf⟩:=pz Tryz.underlying56 h
 rw[Us] at hl
 match xs,hl with
 |[x0,x1,x2],_=>
  have h0:=hf _ (by simp;exact .inl rfl)
  have h1:=hf _ (by simp;exact .inr (.inl rfl))
  have h2:=hf _ (by simp;exact .inr (.inr rfl))
  simp only[Du,uu,ep,iZ,eZ,lu] at h0 h1 h2
  obtain⟨s,e0,hs⟩:=Uw h0
  obtain⟨a,e1,ha⟩:=k9 h1
  obtain⟨b,e2,hb⟩:=k9 h2
  cases e0;cases e1;cases e2
  exact⟨⟨s,a,b⟩,rfl,hs,ha,hb⟩
theorem aeU {xs:List C} (h:yn Tryz.prog 94 xs):∃ t:Ru,xs=ruC t∧aeR t:=by
 obtain⟨hl,hf⟩:=pz Tryz.underlying94 h
 rw[Ut] at hl
 match xs,hl with
 |[x0,x1,x2],_=>
  have h0:=hf _ (by simp;exact .inl rfl)
  have h1:=hf _ (by simp;exact .inr (.inl rfl))
  have h2:=hf _ (by simp;exact .inr (.inr rfl))
  simp only[uu,ep,iZ,eZ,lu] at h0 h1 h2
  obtain⟨s,e0,hs⟩:=k9 h0
  obtain⟨a,e1,ha⟩:=k9 h1
  obtain⟨b,e2,hb⟩:=k9 h2
  cases e0;cases e1;cases e2
  exact⟨⟨s,a,b⟩,rfl,hs,ha,hb⟩
theorem aeV {xs:List C} (h:yn Tryz.prog 154 xs):∃ t:Qu,xs=quC t∧aeS t:=by
 obtain⟨hl,hf⟩:=pz Tryz.underlying154 h
 rw[Uu] at hl
 match xs,hl with
 |[x0,x1,x2,x3,x4],_=>
  have h0:=hf _ (by simp;exact .inl rfl)
  have h1:=hf _ (by simp;exact .inr (.inl rfl))
  have h2:=hf _ (by simp;exact .inr (.inr (.inl rfl)))
  have h3:=hf _ (by simp;exact .inr (.inr (.inr (.inl rfl))))
  have h4:=hf _ (by simp;exact .inr (.inr (.inr (.inr rfl))))
  simp only[uu,ep,iZ,eZ,lu] at h0 h1 h2 h3 h4
  obtain⟨a0,e0,k0⟩:=k9 h0
  obtain⟨a1,e1,k1⟩:=k9 h1
  obtain⟨a2,e2,k2⟩:=k9 h2
  obtain⟨a3,e3,k3⟩:=k9 h3
  obtain⟨a4,e4,k4⟩:=k9 h4
  cases e0;cases e1;cases e2;cases e3;cases e4
  exact⟨⟨a0,a1,a2,a3,a4⟩,rfl,k0,k1,k2,k3,k4⟩
structure PolIn (p:Pol):Prop where
 name:p.name.size≤maxLen
 lt:p.types.length≤maxLen
 lr:p.rules.length≤maxLen
 lq:p.quorums.length≤maxLen
 types:∀ t∈p.types,aeQ t
 rules:∀ t∈p.rules,aeR t
 quorums:∀ t∈p.quorums,aeS t
theorem PolIn.ok {p:Pol} (h:PolIn p):aeP p:=by
 have h1:=h.lt
 have h2:=h.lr
 have h3:=h.lq
 unfold maxLen at h1 h2 h3
 exact⟨by omega,by omega,by omega⟩
theorem aeW {xs:List C} (h:yn Tryz.prog 26 xs):∃ p:Pol,xs=poC p∧PolIn p:=by
 obtain⟨hl,hf⟩:=pz Tryz.underlying26 h
 rw[Uv] at hl
 match xs,hl with
 |[x0,x1,x2,x3],_=>
  have h0:=hf _ (by simp;exact .inl rfl)
  have h1:=hf _ (by simp;exact .inr (.inl rfl))
  have h2:=hf _ (by simp;exact .inr (.inr (.inl rfl)))
  have h3:=hf _ (by simp;exact .inr (.inr (.inr rfl)))
  simp only[Du,Pz,PC,PD,ep,iZ,eZ,lu] at h0 h1 h2 h3
  obtain⟨s,e0,hs⟩:=Uw h0
  obtain⟨es1,e1,l1,k1⟩:=uo Tryz.underlying22 h1
  obtain⟨es2,e2,l2,k2⟩:=uo Tryz.underlying23 h2
  obtain⟨es3,e3,l3,k3⟩:=uo Tryz.underlying24 h3
  obtain⟨ts,rfl,t1⟩:=wR fun x hx=>aeT (k1 x hx)
  obtain⟨rs,rfl,t2⟩:=wR fun x hx=>aeU (k2 x hx)
  obtain⟨qs,rfl,t3⟩:=wR fun x hx=>aeV (k3 x hx)
  cases e0;cases e1;cases e2;cases e3
  exact⟨⟨s,ts,rs,qs⟩,rfl,hs,by simpa using l1,by simpa using l2,by simpa using l3,t1,t2,t3⟩
theorem ach:c9 Tryz.prog 26=true:=by kernel_rfl
theorem Bt {x:V} (h:∃ n cs,Shp Tryz.prog n 26 cs∧x=rE Tryz.prog 26 cs):∃ p:Pol,x=.agg (poC p)∧PolIn p:=by
 obtain⟨n,cs,h,rfl⟩:=h
 obtain⟨p,rfl,hp⟩:=aeW ⟨n,h⟩
 exact⟨p,by unfold rE;rw[ach,if_pos rfl],hp⟩
theorem FM:c9 Tryz.prog 3=false:=by kernel_rfl
theorem FN {x:V} (h:∃ n cs,Shp Tryz.prog n 3 cs∧x=rE Tryz.prog 3 cs):∃ n,x=i64 n∧I64 n:=by
 obtain⟨n,cs,h,rfl⟩:=h
 obtain⟨p,rfl,hp⟩:=k9 ⟨n,h⟩
 exact⟨p,by unfold rE;rw[FM];rfl,hp⟩
def K5 (n lo hi:Int):Bool:=decide (lo≤n)&&decide (n≤hi)
theorem tC (n lo hi:Int):zy ⟨n,lo,hi⟩=!K5 n lo hi:=by
 unfold zy K5
 rw[iL]
 simp
def tD (l:List Ty) (k:Nat) (t:Ty):Int:=
 if decide (32≤(k:Int))=true then 2 else if(!mY t.name)=true then 4 else if((l.take k).any fun o=>decide (o.name=t.name))=true then 4 else if([⟨t.flags,0,127⟩,⟨t.life,0,1099511627776⟩].any zy)=true then 1 else 0
def tG (l:List Ru) (k:Nat) (nt:Int) (r:Ru):Int:=
 if decide (256≤(k:Int))=true then 2 else if([⟨r.kind,1,5⟩,⟨r.a,0,nt - 1⟩,⟨r.b,0,nt - 1⟩].any zy)=true then 1 else if((l.take k).any fun o=>decide (r=o))=true then 12 else 0
def u6 (l:List Qu) (k:Nat) (q:Qu):Int:=
 if([⟨q.cmd,1,27⟩,⟨q.count,1,16⟩,⟨q.delay,0,1099511627776⟩,⟨q.valid,q.delay,1099511627776⟩,⟨q.uses,1,1048576⟩].any zy)=true then 1
 else if([23,24,25].any fun e:Int=>decide (q.cmd=e))=true then 10 else if((l.take k).any fun o=>decide (o.cmd=q.cmd))=true then 12 else 0
theorem Bu {α:Type} (f:α→List C) (l:List α) (k:Nat):(l.map f).take k=(l.take k).map f:=kH.symm
theorem yy {T e:TypeId} {i j:TI} {P:Program} {es:List (List C)} {k:Nat} {KV:V→Prop} (hT:ti P T=some i) (hk:i.kd=.slice e) (hE:ti P e=some j) (hl:k≤es.length) (hs:∀ x∈es,x.length=j.size) (hK:KV (.c (.sl (es.take k)))) :
 gY P T (.c (.sl es)) none (some (i64 k)) none KV:=by
 obtain⟨kd,a,b,c,d,f,g⟩:=i;subst hk
 simp only[gY,hT,hE,gX]
 refine⟨⟨jJ _,aD k,by omega,hs⟩,?_⟩
 simpa using hK
theorem xb {l ds:List V} (h:l.length=ds.length):eU l 0 ds=ds:=by simp[eU,h]
def K6:=jj @pkA (jj @ptA @pkP)
set_option maxHeartbeats 4000000 in
theorem FO {G:Gl} (l:List Ty) (k:Nat) (hk:k<l.length) (hl:l.length≤9223372036854775807) (hn:∀ t∈l,t.name.size≤9223372036854775807) :
 FnOK Tryz.prog G 145 [.c (.sl (l.map tyC)),i64 k] (i64 (tD l k l[k])):=by
 refine bE (rs:=[.tmp 4]) false [] mixed Tryz.func145 rfl rfl rfl rfl (by kernel_rfl) (by simp) rfl rfl ?_
 have hnk:=hn l[k] (aF hk)
 simp only[pkA,seval]
 refine df ng rfl kO (by decide) (aD k) (c:=tyC l[k]) (by simp[hk]) rfl ?_
 generalize ht:l[k]=t at *
 repeat' first
  |(simp only[K6,seval,am,xb,am])
  |refine iK (fun h=>?_) (fun h=>?_)
  |refine aL (fun h=>?_) (fun h=>?_)
  |refine ay rfl (MM _ hnk) (by simp[V.boxy]) ?_
  |(refine yy ng rfl kO (by simp;omega) (by simp[zR]) ?_;rw[Bu])
  |refine ay rfl (zu (l.take k) (by simp;omega) _ _ (fun o=>decide (o.name=t.name)) (fun e _=>Yo t e)) (fun _=>rfl) ?_
  |refine ay rfl (Br [⟨t.flags,0,127⟩,⟨t.life,0,1099511627776⟩] (by simp)) (fun _=>rfl) ?_
 all_goals (unfold tD;simp only[*,↓reduceIte,aM,fC])
set_option maxHeartbeats 4000000 in
theorem FP {G:Gl} (l:List Ru) (k:Nat) (nt:Int) (hk:k<l.length) (hl:l.length≤9223372036854775807) (hnt:0≤nt∧nt≤9223372036854775807) :
 FnOK Tryz.prog G 146 [.c (.sl (l.map ruC)),i64 k,i64 nt] (i64 (tG l k nt l[k])):=by
 refine bE (rs:=[.tmp 6]) false [] mixed Tryz.func146 rfl rfl rfl rfl (by kernel_rfl) (by simp) rfl rfl ?_
 have hw:=wrap_i64 (nt - 1) (by omega)
 simp only[pkA,seval]
 refine df tf rfl mz (by decide) (aD k) (c:=ruC l[k]) (by simp[hk]) rfl ?_
 generalize ht:l[k]=t at *
 repeat' first
  |(simp only[K6,seval,am,xb,am,hw])
  |refine iK (fun h=>?_) (fun h=>?_)
  |refine aL (fun h=>?_) (fun h=>?_)
  |(refine yy tf rfl mz (by simp;omega) (by simp[MJ]) ?_;rw[Bu])
  |refine ay rfl (y7 (l.take k) (by simp;omega) t) (fun _=>rfl) ?_
  |refine ay rfl (Br [⟨t.kind,1,5⟩,⟨t.a,0,nt - 1⟩,⟨t.b,0,nt - 1⟩] (by simp)) (fun _=>rfl) ?_
 all_goals (unfold tG;simp only[*,↓reduceIte,aM])
set_option maxHeartbeats 4000000 in
theorem Bv {G:Gl} (hG:G 0=some [.lit (.int .i64 23),.lit (.int .i64 24),.lit (.int .i64 25)]) (l:List Qu) (k:Nat) (hk:k<l.length) (hl:l.length≤9223372036854775807) :
 FnOK Tryz.prog G 147 [.c (.sl (l.map quC)),i64 k] (i64 (u6 l k l[k])):=by
 refine bE (rs:=[.tmp 4]) false [] mixed Tryz.func147 rfl rfl rfl rfl (by kernel_rfl) (by simp) rfl rfl ?_
 simp only[pkA,seval]
 refine df A6 rfl mU (by decide) (aD k) (c:=quC l[k]) (by simp[hk]) rfl ?_
 generalize ht:l[k]=t at *
 have pR:∀ K,gY Tryz.prog 179 (.c (.rp [.lit (.int .i64 23),.lit (.int .i64 24),.lit (.int .i64 25)] 0)) none none none K=K (.c (.sl (([23,24,25]:List Int).map inC))):=fun K=>by
  simp only[gY,abX,E8]
  simp[l0,inC,cI]
 have vZ:∀ fr bx nb,ev G ⟨fr,bx,nb⟩ (.global 0)=.c (.rp [.lit (.int .i64 23),.lit (.int .i64 24),.lit (.int .i64 25)] 0):=fun fr bx nb=>by simp[ev,gat,hG]
 repeat' first
  |(simp only[K6,seval,am,xb,am,pR,vZ,jv])
  |refine iK (fun h=>?_) (fun h=>?_)
  |refine aL (fun h=>?_) (fun h=>?_)
  |(refine yy A6 rfl mU (by simp;omega) (by simp[FG]) ?_;rw[Bu])
  |refine ay rfl (y8 [23,24,25] (by simp) t.cmd) (fun _=>rfl) ?_
  |refine ay rfl (zw (l.take k) (by simp;omega) _ _ (fun o=>decide (o.cmd=t.cmd)) (fun e _=>Yp t e)) (fun _=>rfl) ?_
  |refine ay rfl (Br [⟨t.cmd,1,27⟩,⟨t.count,1,16⟩,⟨t.delay,0,1099511627776⟩,⟨t.valid,t.delay,1099511627776⟩,⟨t.uses,1,1048576⟩] (by simp)) (fun _=>rfl) ?_
 all_goals (unfold u6;simp only[*,↓reduceIte,aM])
