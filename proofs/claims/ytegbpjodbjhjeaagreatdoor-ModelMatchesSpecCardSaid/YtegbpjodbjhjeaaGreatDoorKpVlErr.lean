/- Policies, as they come in: their cells are those of a policy. -/
import Derived.Test.YtegbpjodbjhjeaaGreatDoorKpVlSame
import Derived.Test.YtegbpjodbjhjeaaGreatDoorVlBridge
set_option maxHeartbeats 4000000
set_option linter.all false
namespace Go.Proofs.YtegbpjodbjhjeaaGreatDoor.Kp
open Go Go.Vl
set_option maxRecDepth 10000
theorem Vd:Tryz.prog.cellsOf 56=3:=by kernel_rfl
theorem Ve:Tryz.prog.cellsOf 94=3:=by kernel_rfl
theorem Vf:Tryz.prog.cellsOf 154=5:=by kernel_rfl
theorem Vg:Tryz.prog.cellsOf 26=4:=by kernel_rfl
theorem uK:Tryz.prog.cellsOf 3=1:=by kernel_rfl
theorem D4:Tryz.prog.cellsOf 9=1:=by kernel_rfl
theorem Qb:Tryz.prog.cellsOf 22=1:=by kernel_rfl
theorem Qc:Tryz.prog.cellsOf 23=1:=by kernel_rfl
theorem Qd:Tryz.prog.cellsOf 24=1:=by kernel_rfl
def agi (t:Ty):Prop:=t.name.size<=maxLen/\I64 t.flags/\I64 t.life
def agj (t:Ru):Prop:=I64 t.kind/\I64 t.a/\I64 t.b
def agk (t:Qu):Prop:=I64 t.cmd/\I64 t.count/\I64 t.delay/\I64 t.valid/\I64 t.uses
theorem lg {xs:List C} (h:yD Tryz.prog 3 xs):∃ n,xs=[cI n]/\I64 n:=by obtain⟨m,rfl,hm⟩:=Yt Tryz.underlying3 h;exact⟨m,rfl,ack hm⟩
theorem Vh {xs:List C} (h:yD Tryz.prog 9 xs):∃ s,xs=[cS s]/\s.size<=maxLen:=by obtain⟨m,rfl,hm⟩:=Yu Tryz.underlying9 h;exact⟨m,rfl,hm⟩
theorem agl {xs:List C} (h:yD Tryz.prog 56 xs):∃ t:Ty,xs=tyC t/\agi t:=by
 obtain⟨hl,hf⟩:=pC Tryz.underlying56 h;rw[Vd] at hl
 match xs,hl with
 |[x0,x1,x2],_=>have h0:=hf _ (by simp;exact .inl rfl);have h1:=hf _ (by simp;exact .inr (.inl rfl));have h2:=hf _ (by simp;exact .inr (.inr rfl));simp only[D4,uK,eZ,iW,fK,ly] at h0 h1 h2;obtain⟨s,e0,hs⟩:=Vh h0;obtain⟨a,e1,ha⟩:=lg h1;obtain⟨b,e2,hb⟩:=lg h2;cases e0;cases e1;cases e2;exact⟨⟨s,a,b⟩,rfl,hs,ha,hb⟩
theorem agm {xs:List C} (h:yD Tryz.prog 94 xs):∃ t:Ru,xs=ruC t/\agj t:=by
 obtain⟨hl,hf⟩:=pC Tryz.underlying94 h;rw[Ve] at hl
 match xs,hl with
 |[x0,x1,x2],_=>have h0:=hf _ (by simp;exact .inl rfl);have h1:=hf _ (by simp;exact .inr (.inl rfl));have h2:=hf _ (by simp;exact .inr (.inr rfl));simp only[uK,eZ,iW,fK,ly] at h0 h1 h2;obtain⟨s,e0,hs⟩:=lg h0;obtain⟨a,e1,ha⟩:=lg h1;obtain⟨b,e2,hb⟩:=lg h2;cases e0;cases e1;cases e2;exact⟨⟨s,a,b⟩,rfl,hs,ha,hb⟩
theorem agn {xs:List C} (h:yD Tryz.prog 154 xs):∃ t:Qu,xs=quC t/\agk t:=by
 obtain⟨hl,hf⟩:=pC Tryz.underlying154 h;rw[Vf] at hl
 match xs,hl with
 |[x0,x1,x2,x3,x4],_=>have h0:=hf _ (by simp;exact .inl rfl);have h1:=hf _ (by simp;exact .inr (.inl rfl));have h2:=hf _ (by simp;exact .inr (.inr (.inl rfl)));have h3:=hf _ (by simp;exact .inr (.inr (.inr (.inl rfl))));have h4:=hf _ (by simp;exact .inr (.inr (.inr (.inr rfl))));simp only[uK,eZ,iW,fK,ly] at h0 h1 h2 h3 h4;obtain⟨a0,e0,k0⟩:=lg h0;obtain⟨a1,e1,k1⟩:=lg h1;obtain⟨a2,e2,k2⟩:=lg h2;obtain⟨a3,e3,k3⟩:=lg h3;obtain⟨a4,e4,k4⟩:=lg h4;cases e0;cases e1;cases e2;cases e3;cases e4;exact⟨⟨a0,a1,a2,a3,a4⟩,rfl,k0,k1,k2,k3,k4⟩
structure PolIn (p:Pol):Prop where
 name:p.name.size<=maxLen
 lt:p.types.length<=maxLen
 lr:p.rules.length<=maxLen
 lq:p.quorums.length<=maxLen
 types:∀ t∈p.types,agi t
 rules:∀ t∈p.rules,agj t
 quorums:∀ t∈p.quorums,agk t
theorem PolIn.ok {p:Pol} (h:PolIn p):agh p:=by have h1:=h.lt;have h2:=h.lr;have h3:=h.lq;unfold maxLen at h1 h2 h3;exact⟨by omega,by omega,by omega⟩
theorem ago {xs:List C} (h:yD Tryz.prog 26 xs):∃ p:Pol,xs=poC p/\PolIn p:=by
 obtain⟨hl,hf⟩:=pC Tryz.underlying26 h;rw[Vg] at hl
 match xs,hl with
 |[x0,x1,x2,x3],_=>have h0:=hf _ (by simp;exact .inl rfl);have h1:=hf _ (by simp;exact .inr (.inl rfl));have h2:=hf _ (by simp;exact .inr (.inr (.inl rfl)));have h3:=hf _ (by simp;exact .inr (.inr (.inr rfl)));simp only[D4,Qb,Qc,Qd,eZ,iW,fK,ly] at h0 h1 h2 h3;obtain⟨s,e0,hs⟩:=Vh h0;obtain⟨es1,e1,l1,k1⟩:=uH Tryz.underlying22 h1;obtain⟨es2,e2,l2,k2⟩:=uH Tryz.underlying23 h2;obtain⟨es3,e3,l3,k3⟩:=uH Tryz.underlying24 h3;obtain⟨ts,rfl,t1⟩:=wY λx hx=>agl (k1 x hx);obtain⟨rs,rfl,t2⟩:=wY λx hx=>agm (k2 x hx);obtain⟨qs,rfl,t3⟩:=wY λx hx=>agn (k3 x hx);cases e0;cases e1;cases e2;cases e3;exact⟨⟨s,ts,rs,qs⟩,rfl,hs,by simpa using l1,by simpa using l2,by simpa using l3,t1,t2,t3⟩
theorem adG:dn Tryz.prog 26=true:=by kernel_rfl
theorem adH {x:V} (h:∃ n cs,Shp Tryz.prog n 26 cs/\x=sQ Tryz.prog 26 cs):∃ p:Pol,x=.agg (poC p)/\PolIn p:=by obtain⟨n,cs,h,rfl⟩:=h;obtain⟨p,rfl,hp⟩:=ago ⟨n,h⟩;exact⟨p,by unfold sQ;rw[adG,if_pos rfl],hp⟩
theorem Gh:dn Tryz.prog 3=false:=by kernel_rfl
theorem Nn {x:V} (h:∃ n cs,Shp Tryz.prog n 3 cs/\x=sQ Tryz.prog 3 cs):∃ n,x=i64 n/\I64 n:=by obtain⟨n,cs,h,rfl⟩:=h;obtain⟨p,rfl,hp⟩:=lg ⟨n,h⟩;exact⟨p,by unfold sQ;rw[Gh];rfl,hp⟩
def Lz (n lo hi:Int):Bool:=decide (lo<=n)&&decide (n<=hi)
theorem tZ (n lo hi:Int):Af ⟨n,lo,hi⟩=!Lz n lo hi:=by unfold Af Lz;rw[jv];simp
def t6 (l:List Ty) (k:Nat) (t:Ty):Int:=
 if decide (32<=(k:Int))=true then 2 else if(!m4 t.name)=true then 4 else if((l.take k).any λo=>decide (o.name=t.name))=true then 4 else if([⟨t.flags,0,127⟩,⟨t.life,0,1099511627776⟩].any Af)=true then 1 else 0
def t7 (l:List Ru) (k:Nat) (nt:Int) (r:Ru):Int:=
 if decide (256<=(k:Int))=true then 2 else if([⟨r.kind,1,5⟩,⟨r.a,0,nt - 1⟩,⟨r.b,0,nt - 1⟩].any Af)=true then 1 else if((l.take k).any λo=>decide (r=o))=true then 12 else 0
def vl (l:List Qu) (k:Nat) (q:Qu):Int:=
 if([⟨q.cmd,1,27⟩,⟨q.count,1,16⟩,⟨q.delay,0,1099511627776⟩,⟨q.valid,q.delay,1099511627776⟩,⟨q.uses,1,1048576⟩].any Af)=true then 1
 else if([23,24,25].any λe:Int=>decide (q.cmd=e))=true then 10 else if((l.take k).any λo=>decide (o.cmd=q.cmd))=true then 12 else 0
theorem BZ {α:Type} (f:α->List C) (l:List α) (k:Nat):(l.map f).take k=(l.take k).map f:=List.map_take.symm
theorem yM {T e:TypeId} {i j:TI} {P:Program} {es:List (List C)} {k:Nat} {KV:V->Prop} (hT:ti P T=some i) (hk:i.kd=.slice e) (hE:ti P e=some j) (hl:k<=es.length) (hs:∀ x∈es,x.length=j.size) (hK:KV (.c (.sl (es.take k)))) :
 ig P T (.c (.sl es)) none (some (i64 k)) none KV:=by
 obtain⟨kd,a,b,c,d,f,g⟩:=i;subst hk;simp only[ig,hT,hE,ic];refine⟨⟨mG _,aC k,by omega,hs⟩,?_⟩;simpa using hK
theorem xp {l ds:List V} (h:l.length=ds.length):fW l 0 ds=ds:=by simp[fW,h]
def LA:=jj @pkA (jj @ptA @pkP)
theorem Gi {G:Gl} (l:List Ty) (k:Nat) (hk:k<l.length) (hl:l.length<=9223372036854775807) (hn:∀ t∈l,t.name.size<=9223372036854775807) :
 FnOK Tryz.prog G 145 [.c (.sl (l.map tyC)),i64 k] (i64 (t6 l k l[k])):=by
 refine bD (rs:=[.tmp 4]) false [] mixed Tryz.func145 rfl rfl rfl rfl (by kernel_rfl) (by simp) rfl rfl ?_;have hnk:=hn l[k] (aH hk);simp only[pkA,seval];refine cR sD rfl mz (by decide) (aC k) (c:=tyC l[k]) (by simp[hk]) rfl ?_;generalize ht:l[k]=t at *
 repeat' first
  |(simp only[LA,seval,aj,xp,aj])
  |refine fQ (λh=>?_) (λh=>?_)
  |refine aJ (λh=>?_) (λh=>?_)
  |refine ax rfl (Nm _ hnk) (by simp[V.boxy]) ?_
  |(refine yM sD rfl mz (by simp;omega) (by simp[Nj]) ?_;rw[BZ])
  |refine ax rfl (Ac (l.take k) (by simp;omega) _ _ (λo=>decide (o.name=t.name)) (λe _=>Zn t e)) (λ_=>rfl) ?_
  |refine ax rfl (BX [⟨t.flags,0,127⟩,⟨t.life,0,1099511627776⟩] (by simp)) (λ_=>rfl) ?_
 all_goals (unfold t6;simp only[*,↓reduceIte,ay,cO])
theorem Gj {G:Gl} (l:List Ru) (k:Nat) (nt:Int) (hk:k<l.length) (hl:l.length<=9223372036854775807) (hnt:0<=nt/\nt<=9223372036854775807) :
 FnOK Tryz.prog G 146 [.c (.sl (l.map ruC)),i64 k,i64 nt] (i64 (t7 l k nt l[k])):=by
 refine bD (rs:=[.tmp 6]) false [] mixed Tryz.func146 rfl rfl rfl rfl (by kernel_rfl) (by simp) rfl rfl ?_;have hw:=wrap_i64 (nt - 1) (by omega);simp only[pkA,seval];refine cR vg rfl mA (by decide) (aC k) (c:=ruC l[k]) (by simp[hk]) rfl ?_;generalize ht:l[k]=t at *
 repeat' first
  |(simp only[LA,seval,aj,xp,aj,hw])
  |refine fQ (λh=>?_) (λh=>?_)
  |refine aJ (λh=>?_) (λh=>?_)
  |(refine yM vg rfl mA (by simp;omega) (by simp[Nk]) ?_;rw[BZ])
  |refine ax rfl (zu (l.take k) (by simp;omega) t) (λ_=>rfl) ?_
  |refine ax rfl (BX [⟨t.kind,1,5⟩,⟨t.a,0,nt - 1⟩,⟨t.b,0,nt - 1⟩] (by simp)) (λ_=>rfl) ?_
 all_goals (unfold t7;simp only[*,↓reduceIte,ay])
theorem B0 {G:Gl} (hG:G 0=some [.lit (.int .i64 23),.lit (.int .i64 24),.lit (.int .i64 25)]) (l:List Qu) (k:Nat) (hk:k<l.length) (hl:l.length<=9223372036854775807) :
 FnOK Tryz.prog G 147 [.c (.sl (l.map quC)),i64 k] (i64 (vl l k l[k])):=by
 refine bD (rs:=[.tmp 4]) false [] mixed Tryz.func147 rfl rfl rfl rfl (by kernel_rfl) (by simp) rfl rfl ?_;simp only[pkA,seval];refine cR BC rfl mZ (by decide) (aC k) (c:=quC l[k]) (by simp[hk]) rfl ?_;generalize ht:l[k]=t at *;have lx:∀ K,ig Tryz.prog 179 (.c (.rp [.lit (.int .i64 23),.lit (.int .i64 24),.lit (.int .i64 25)] 0)) none none none K=K (.c (.sl (([23,24,25]:List Int).map inC))):=λK=>by simp only[ig,adn,FK];simp[ma,inC,cI]
 have Aj:∀ fr bx nb,ev G ⟨fr,bx,nb⟩ (.global 0)=.c (.rp [.lit (.int .i64 23),.lit (.int .i64 24),.lit (.int .i64 25)] 0):=λfr bx nb=>by simp[ev,gat,hG]
 repeat' first
  |(simp only[LA,seval,aj,xp,aj,lx,Aj,jw])
  |refine fQ (λh=>?_) (λh=>?_)
  |refine aJ (λh=>?_) (λh=>?_)
  |(refine yM BC rfl mZ (by simp;omega) (by simp[Gd]) ?_;rw[BZ])
  |refine ax rfl (zw [23,24,25] (by simp) t.cmd) (λ_=>rfl) ?_
  |refine ax rfl (Ad (l.take k) (by simp;omega) _ _ (λo=>decide (o.cmd=t.cmd)) (λe _=>Zo t e)) (λ_=>rfl) ?_
  |refine ax rfl (BX [⟨t.cmd,1,27⟩,⟨t.count,1,16⟩,⟨t.delay,0,1099511627776⟩,⟨t.valid,t.delay,1099511627776⟩,⟨t.uses,1,1048576⟩] (by simp)) (λ_=>rfl) ?_
 all_goals (unfold vl;simp only[*,↓reduceIte,ay])
