/- Layer 13: what a valid policy is; it stays valid with fewer rules and fewer flags. -/
import Derived.Test.YtloppcgcepgbnaaGreatDoorKpVlRefV
import Derived.Test.YtloppcgcepgbnaaGreatDoorKpVlFun1
import Derived.Test.YtloppcgcepgbnaaGreatDoorKpVlErr
import Derived.Test.YtloppcgcepgbnaaGreatDoorVlLaw
import Derived.Test.YtloppcgcepgbnaaGreatDoorRows
import Derived.JoinedOf
import Derived.JoinedCond
import Derived.MakeChecks
set_option linter.all false
namespace Go.Proofs.YtloppcgcepgbnaaGreatDoor.Kp
open Go Go.Vl
set_option maxRecDepth 10000
theorem TY (p:Pol):(kA p.name=false∧chk p=(-1,4))∨(kA p.name=true∧∃ k,k<jf p∧itE p k≠0∧(∀ j,j<k→itE p j=0)∧chk p=((k:Int),itE p k))∨
 (kA p.name=true∧(∀ j,j<jf p→itE p j=0)∧chk p=(0,0)):=by
 cases hn:kA p.name with
 |false=>exact .inl ⟨rfl,C3 hn⟩
 |true=>
  right
  cases hf:(List.range (jf p)).find? (fun k=>!decide (itE p k=0)) with
  |some k=>
   obtain⟨h1,h2,h3⟩:=List.find?_range_eq_some.1 hf
   have hk:k<jf p:=by simpa using h2
   have he:itE p k≠0:=by simpa using h1
   have fS:∀ j,j<k→itE p j=0:=fun j hj=>by simpa using h3 j hj
   exact .inl ⟨rfl,k,hk,he,fS,C0 hn hk he fS⟩
  |none=>
   have fS:∀ j,j<jf p→itE p j=0:=fun j hj=>by
    have:=List.find?_eq_none.1 hf j (by simpa using hj)
    simpa using this
   exact .inr ⟨rfl,fS,C2 hn fS⟩
theorem TZ (p:Pol):qW p=true↔kA p.name=true∧∀ j,j<jf p→itE p j=0:=by
 rcases TY p with⟨hn,hc⟩ | ⟨hn,k,hk,he,fS,hc⟩ | ⟨hn,fS,hc⟩
 ·simp[qW,hc,hn]
 ·simp only[qW,hc,hn,ia,bF]
  exact⟨fun h=>absurd h he,fun h=>h k hk⟩
 ·simp only[qW,hc,hn,ia,bz]
  exact⟨fun _=>fS,fun _=>trivial⟩
theorem Ov {α β:Type} [DecidableEq β] (f:α→β) (l:List α):(∀ k (h:k<l.length),(l.take k).any (fun o=>decide (f o=f l[k]))=false)↔(l.map f).Nodup:=by
 rw[List.nodup_iff_pairwise_ne,List.pairwise_map,fN]
 constructor
 ·intro h i j hi hj hij e
  have:=List.any_eq_false.1 (h j hj) l[i] (cT.2 ⟨i,by omega,rfl⟩)
  exact this (by simpa using e)
 ·intro h k hk
  refine List.any_eq_false.2 fun x hx=>?_
  obtain⟨i,hi,rfl⟩:=cT.1 hx
  have:=h i k (by omega) hk (by omega)
  simpa using this
def okR (nt:Int) (r:Ru):Bool:=!([⟨r.kind,1,5⟩,⟨r.a,0,nt - 1⟩,⟨r.b,0,nt - 1⟩].any wX)
theorem C4 {l:List Ru} {k:Nat} {nt:Int} {r:Ru}:rM l k nt r=0↔k<256∧okR nt r=true∧(l.take k).any (fun o=>decide (r=o))=false:=by
 unfold rM okR
 by_cases h1:256≤k
 ·rw[if_pos (by simp;omega)];simp;omega
 ·rw[if_neg (by simp;omega)]
  cases h2:[(⟨r.kind,1,5⟩:Wi),⟨r.a,0,nt - 1⟩,⟨r.b,0,nt - 1⟩].any wX with
  |true=>simp
  |false=>
   cases h3:(l.take k).any (fun o=>decide (r=o)) with
   |true=>simp
   |false=>simp;omega
theorem Ld (r:Ru):(fun o:Ru=>decide (r=o))=fun o=>decide (id o=id r):=by
 funext o;exact decide_eq_decide.2 eq_comm
theorem C5 {l:List Ru} {nt:Int}:(∀ k,k<l.length→ruE l k nt=0)↔l.length≤256∧(∀ r∈l,okR nt r=true)∧l.Nodup:=by
 have oV:=Ov (id:Ru→Ru) l
 rw[List.map_id] at oV
 rw[← oV]
 constructor
 ·intro h
  have h':∀ k (hk:k<l.length),k<256∧okR nt l[k]=true∧(l.take k).any (fun o=>decide (l[k]=o))=false:=fun k hk=>by
   have:=h k hk;rw[HL hk] at this;exact C4.1 this
  refine⟨?_,fun r hr=>?_,fun k hk=>?_⟩
  ·by_cases hl:l.length=0
   ·omega
   ·have:=(h' (l.length - 1) (by omega)).1;omega
  ·obtain⟨k,hk,rfl⟩:=fa.1 hr
   exact(h' k hk).2.1
  ·have:=(h' k hk).2.2
   rw[← Ld];exact this
 ·rintro⟨h1,h2,h3⟩ k hk
  rw[HL hk,C4]
  refine⟨by omega,h2 _ (bM hk),?_⟩
  rw[Ld];exact h3 k hk
theorem Lh (p:Pol):qW p=true↔kA p.name=true∧(∀ k,k<p.types.length→tyE p.types k=0)∧(∀ k,k<p.rules.length→ruE p.rules k p.types.length=0)∧(∀ k,k<p.quorums.length→quE p.quorums k=0):=by
 rw[TZ]
 refine and_congr_right fun _=>⟨fun h=>⟨fun k hk=>?_,fun k hk=>?_,fun k hk=>?_⟩,fun⟨h1,h2,h3⟩ j hj=>?_⟩
 ·have:=h k (by unfold jf;omega)
  unfold itE at this;rwa [if_pos hk] at this
 ·have:=h (p.types.length+k) (by unfold jf;omega)
  unfold itE at this;rwa [if_neg (by omega),if_pos (by omega),iP] at this
 ·have:=h (p.types.length+p.rules.length+k) (by unfold jf;omega)
  have e:p.types.length+p.rules.length+k - p.types.length - p.rules.length=k:=by omega
  unfold itE at this;rwa [if_neg (by omega),if_neg (by omega),e] at this
 ·unfold itE
  split
  ·exact h1 j (by assumption)
  ·split
   ·exact h2 _ (by omega)
   ·exact h3 _ (by unfold jf at hj;omega)
theorem Ox {p:Pol} {T:List Ty} {R:List Ru} (hl:T.length=p.types.length) (hT:∀ k (h:k<T.length) (h2:k<p.types.length),T[k].name=p.types[k].name∧T[k].life=p.types[k].life∧(0≤p.types[k].flags→p.types[k].flags≤127→0≤T[k].flags∧T[k].flags≤127))
 (hR:R.Sublist p.rules) (h:qW p=true):qW ⟨p.name,T,R,p.quorums⟩=true:=by
 rw[Lh] at h ⊢
 obtain⟨h1,h2,h3,h4⟩:=h
 refine⟨h1,fun k hk=>?_,?_,h4⟩
 ·have hk:k<T.length:=hk
  have hk2:k<p.types.length:=by omega
  have:=h2 k hk2
  rw[HK hk2] at this
  show tyE T k=0
  rw[HK hk]
  obtain⟨n1,n2,n3⟩:=hT k hk hk2
  have ea:((T.take k).any fun o=>decide (o.name=T[k].name))=((p.types.take k).any fun o=>decide (o.name=p.types[k].name)):=by
   rw[n1,jL,dL,dL]
   constructor
   ·rintro⟨x,hx,hd⟩
    obtain⟨i,hi,rfl⟩:=cT.1 hx
    have D6:i<p.types.length:=by omega
    exact⟨p.types[i],cT.2 ⟨i,by omega,rfl⟩,by rw[← (hT i (by omega) D6).1];exact hd⟩
   ·rintro⟨x,hx,hd⟩
    obtain⟨i,hi,rfl⟩:=cT.1 hx
    have D6:i<T.length:=by omega
    exact⟨T[i],cT.2 ⟨i,by omega,rfl⟩,by rw[(hT i D6 (by omega)).1];exact hd⟩
  have h32:¬ decide (32≤(k:Int))=true:=fun h=>by unfold oS at this;rw[if_pos h] at this;cases this
  have hnm:¬ (!kA p.types[k].name)=true:=fun h=>by unfold oS at this;rw[if_neg h32,if_pos h] at this;cases this
  have hdu:¬ ((p.types.take k).any fun o=>decide (o.name=p.types[k].name))=true:=fun h=>by unfold oS at this;rw[if_neg h32,if_neg hnm,if_pos h] at this;cases this
  have kU:¬ ([⟨p.types[k].flags,0,127⟩,⟨p.types[k].life,0,1099511627776⟩].any wX)=true:=fun h=>by unfold oS at this;rw[if_neg h32,if_neg hnm,if_neg hdu,if_pos h] at this;cases this
  unfold oS
  rw[if_neg h32,n1,if_neg hnm,← n1,ea,if_neg hdu,if_neg]
  intro h
  apply kU
  simp only[kX,List.any_nil,rL,K7,j6,eT,dM,Bool.and_eq_false_iff,dc] at h ⊢
  rw[n2] at h
  by_cases q:0≤p.types[k].flags∧p.types[k].flags≤127
  ·have:=n3 q.1 q.2;omega
  ·omega
 ·have h3:=C5.1 h3
  have:T.length=p.types.length:=hl
  show ∀ k,k<R.length→ruE R k T.length=0
  rw[this]
  have ke:=hR.length_le
  exact C5.2 ⟨by omega,fun r hr=>h3.2.1 r (hR.subset hr),h3.2.2.sublist hR⟩
end Go.Proofs.YtloppcgcepgbnaaGreatDoor.Kp
namespace Go.Proofs.YtloppcgcepgbnaaGreatDoor
open Go Go.Vl
variable {G:Gl}
set_option maxRecDepth 100000
def kPo (p:Pol):Kp.Pol:=⟨p.name,p.types.map fun t=>⟨t.name,t.flags,t.life⟩,p.rules.map fun t=>⟨t.kind,t.a,t.b⟩,p.quorums.map fun t=>⟨t.cmd,t.count,t.delay,t.valid,t.uses⟩⟩
def unK (p:Kp.Pol):Pol:=⟨p.name,p.types.map fun t=>⟨t.name,t.flags,t.life⟩,p.rules.map fun t=>⟨t.kind,t.a,t.b⟩,p.quorums.map fun t=>⟨t.cmd,t.count,t.delay,t.valid,t.uses⟩⟩
theorem ZG (p:Kp.Pol):kPo (unK p)=p:=by
 cases p
 simp[kPo,unK,fu,jW]
theorem ZH (p:Pol):Kp.poC (kPo p)=poC p:=by
 cases p
 simp[Kp.poC,poC,kPo,fu,jW]
 exact⟨rfl,fun _ _=>rfl,fun _ _=>rfl,fun _ _=>rfl⟩
def iT (p:Pol):Bool:=Kp.qW (kPo p)
def GV (G:Gl):Prop:=G 0=some [.lit (.int .i64 23),.lit (.int .i64 24),.lit (.int .i64 25)]
structure Ax (p:Pol):Prop where
 inn:Kp.PolIn (kPo p)
 sm:Kp.jf (kPo p)≤4611686018427387904
theorem Fj (hG:GV G) {p:Pol} (hp:Ax p):FnOK Tryz.prog G 42 [.agg (poC p)] (bo (iT p)):=by
 rw[← ZH];exact Kp.Cm hG (kPo p) hp.inn hp.sm
theorem Lj {p:Pol} (hp:Ax p):FnOK Tryz.prog G 25 [.agg (poC p)] (bo (iT p)):=by
 rw[← ZH];exact Kp.La (kPo p) hp.inn hp.sm
open Go Go.Vl Go.Proofs.YtloppcgcepgbnaaGreatDoor.Kw
theorem ZI:Tryz.prog.cellsOf 54=3:=by kernel_rfl
theorem amM {xs:List C} (h:tg Tryz.prog 54 xs):∃ t:Fa,xs=faC t∧FaI t:=by
 obtain⟨hl,hf⟩:=pN Tryz.underlying54 h
 rw[ZI] at hl
 match xs,hl with
 |[x0,x1,x2],_=>
  have h0:=hf _ (by simp;exact .inl rfl)
  have h1:=hf _ (by simp;exact .inr (.inl rfl))
  have h2:=hf _ (by simp;exact .inr (.inr rfl))
  simp only[Kp.vj,dE,gJ,fp,jB] at h0 h1 h2
  obtain⟨s,e0,hs⟩:=Kp.nh h0
  obtain⟨a,e1,ha⟩:=Kp.nh h1
  obtain⟨b,e2,hb⟩:=Kp.nh h2
  cases e0;cases e1;cases e2
  exact⟨⟨s,a,b⟩,rfl,hs,ha,hb⟩
theorem aeS:cZ Tryz.prog 28=false:=by kernel_rfl
theorem ajJ {x:V} (h:∃ n cs,Shp Tryz.prog n 28 cs∧x=pd Tryz.prog 28 cs):∃ p:List Fa,x=.c (fsC p)∧∀ f∈p,FaI f:=by
 obtain⟨n,cs,h,rfl⟩:=h
 obtain⟨es,e0,l,k⟩:=rA Tryz.underlying28 (⟨n,h⟩:tg Tryz.prog 28 cs)
 obtain⟨fs,rfl,t⟩:=u9 fun x hx=>amM (k x hx)
 exact⟨fs,by subst e0;unfold pd;rw[aeS];rfl,t⟩
theorem af5 {m:Int} (hm:(Lit.int .u8 m).wf=true):0≤m∧m≤255:=by
 have h2:IntKind.u8.min≤m∧m≤IntKind.u8.max:=by simpa[Lit.wf] using hm
 have e1:IntKind.u8.min=0:=by decide
 have e2:IntKind.u8.max=255:=by decide
 rw[e1,e2] at h2;exact h2
theorem amN {xs:List C} (h:tg Tryz.prog 5 xs):∃ t:UInt8,xs=[bc t]∧True:=by
 obtain⟨m,rfl,hm⟩:=AV Tryz.underlying5 h
 obtain⟨h1,h2⟩:=af5 hm
 refine⟨UInt8.ofNat m.toNat,?_,trivial⟩
 have e:((UInt8.ofNat m.toNat).toNat:Int)=m:=by
  rw[jC];omega
 unfold bc
 rw[e]
theorem aeT:cZ Tryz.prog 27=false:=by kernel_rfl
theorem ZJ {x:V} (h:∃ n cs,Shp Tryz.prog n 27 cs∧x=pd Tryz.prog 27 cs):∃ b:B,x=bv b:=by
 obtain⟨n,cs,h,rfl⟩:=h
 obtain⟨es,e0,l,k⟩:=rA Tryz.underlying27 (⟨n,h⟩:tg Tryz.prog 27 cs)
 obtain⟨fs,rfl,t⟩:=u9 fun x hx=>amN (k x hx)
 exact⟨fs,by subst e0;unfold pd;rw[aeT];rfl⟩
theorem ajK:cZ Tryz.prog 5=false:=by kernel_rfl
theorem ZK {x:V} (h:∃ n cs,Shp Tryz.prog n 5 cs∧x=pd Tryz.prog 5 cs):∃ n:Nat,x=.c (.lit (.int .u8 n))∧n≤255:=by
 obtain⟨n,cs,h,rfl⟩:=h
 obtain⟨m,rfl,hm⟩:=AV Tryz.underlying5 (⟨n,h⟩:tg Tryz.prog 5 cs)
 obtain⟨h1,h2⟩:=af5 hm
 exact⟨m.toNat,by rw[show((m.toNat:Nat):Int)=m by omega];unfold pd;rw[ajK];rfl,by omega⟩
theorem aeU:cZ Tryz.prog 51=false:=by kernel_rfl
theorem aeV {x:V} (h:∃ n cs,Shp Tryz.prog n 51 cs∧x=pd Tryz.prog 51 cs):∃ n:Nat,x=.c (.lit (.int .u16 n))∧n≤65535:=by
 obtain⟨n,cs,h,rfl⟩:=h
 obtain⟨m,rfl,hm⟩:=AV Tryz.underlying51 (⟨n,h⟩:tg Tryz.prog 51 cs)
 have h2:IntKind.u16.min≤m∧m≤IntKind.u16.max:=by simpa[Lit.wf] using hm
 have e1:IntKind.u16.min=0:=by decide
 have e2:IntKind.u16.max=65535:=by decide
 rw[e1,e2] at h2
 exact⟨m.toNat,by rw[show((m.toNat:Nat):Int)=m by omega];unfold pd;rw[aeU];rfl,by omega⟩
theorem HH {x:V} (h:∃ n cs,Shp Tryz.prog n 26 cs∧x=pd Tryz.prog 26 cs):∃ p:Pol,x=.agg (poC p)∧Kp.PolIn (kPo p):=by
 obtain⟨q,rfl,hq⟩:=Kp.HH h
 exact⟨unK q,by rw[← ZH,ZG],by rw[ZG];exact hq⟩
open Go Go.Vl Go.RowKit Go.ChangeShapes
def argTypes:List TypeId:=[26,9,3,22,23,24,57,120,122,28,54,5,27,51,65]
theorem sK:wG Tryz.prog argTypes=true:=by kernel_rfl
theorem zk:laidOutB Tryz.prog=true:=by kernel_rfl
theorem ZL:ownKnob Tryz.prog.godebug=none:=by kernel_rfl
def qD:List (String×DataW Unit):=[("custody/check.own",Rows.laid_custody_check_own)]
theorem T0:Tryz.prog.globalNamed "custody/check.own" = some 0:=by kernel_rfl
theorem ao4:(Tryz.prog.globals[0]?).map (·.type)=some 65:=by kernel_rfl
theorem aeW:vu (Rows.laid_custody_check_own:DataW Unit)=some [.lit (.int .i64 23),.lit (.int .i64 24),.lit (.int .i64 25)]:=by kernel_rfl
def glO:Gl:=fun g=>if g=0 then some [.lit (.int .i64 23),.lit (.int .i64 24),.lit (.int .i64 25)] else none
theorem ZM:GV glO:=rfl
set_option maxRecDepth 100000 in
theorem ZN {W:World} (h:laidMetH Tryz.prog qD W):GOK glO (B0 W) W:=by
 have h':laidMet Tryz.prog qD W:=by
  rw[Go.MakeChecks.laidMetH_plain _ _ _ (by kernel_rfl)] at h;exact h
 intro g cs hg
 obtain⟨ps,hv,_⟩:=h'
 unfold gat at hg
 split at hg
 ·cases hg
 ·unfold glO at hg
  split at hg
  ·rename_i h0
   simp only[ai] at hg;subst hg;subst h0
   exact JU sK T0 ao4 (by simp[argTypes]) (d:=Rows.laid_custody_check_own) aeW qD ps hv (bB ..)
  ·cases hg
theorem ZO (os:Os) (args:Array Value):laidMet Tryz.prog qD ((World.doorLaid Tryz.prog 400 os).forCall (fun _ _=>0) ⟨#[],args,[]⟩).memory:=
 laidMet_of_run' 8 (by kernel_rfl) (by kernel_rfl)
theorem zl (os:Os) (args:Array Value):laidMetH Tryz.prog qD ((World.doorLaid Tryz.prog 400 os).forCall (fun _ _=>0) ⟨#[],args,[]⟩).memory:=by
 rw[Go.MakeChecks.laidMetH_plain _ _ _ (by kernel_rfl)];exact ZO os args
def amO:Value:=.agg #[.string ⟨#[]⟩,.slice none 0 0,.slice none 0 0,.slice none 0 0]
theorem Ll {x:List V} {a b:TypeId} (h:u7 Tryz.prog [a,b] x):∃ u v,x=[u,v]∧(∃ n cs,Shp Tryz.prog n a cs∧u=pd Tryz.prog a cs)∧(∃ n cs,Shp Tryz.prog n b cs∧v=pd Tryz.prog b cs):=by
 match x,h with
 |[u,v],h=>exact⟨u,v,rfl,h.1,h.2.1⟩
theorem T8 {x:List V} {a b c d e:TypeId} (h:u7 Tryz.prog [a,b,c,d,e] x):∃ u v w y z,x=[u,v,w,y,z]∧(∃ n cs,Shp Tryz.prog n a cs∧u=pd Tryz.prog a cs)∧(∃ n cs,Shp Tryz.prog n b cs∧v=pd Tryz.prog b cs)∧(∃ n cs,Shp Tryz.prog n c cs∧w=pd Tryz.prog c cs)∧(∃ n cs,Shp Tryz.prog n d cs∧y=pd Tryz.prog d cs)∧(∃ n cs,Shp Tryz.prog n e cs∧z=pd Tryz.prog e cs):=by
 match x,h with
 |[u,v,w,y,z],h=>exact⟨u,v,w,y,z,rfl,h.1,h.2.1,h.2.2.1,h.2.2.2.1,h.2.2.2.2.1⟩
set_option maxRecDepth 4000
theorem A2 {p:Pol} {b:B} (h1:(dF b).2=0) (h2:∀ f∈(dF b).1,gU p f=true):jd true p b=((dF b).1,0):=by
 unfold jd
 rw[if_neg (by decide),if_neg (by rw[h1];decide),if_pos (aV.2 h2)]
theorem T9 {v:Bool} {p:Pol} {b:B} (h:(jd v p b).2=0):v=true∧(dF b).2=0∧(∀ f∈(dF b).1,gU p f=true)∧(jd v p b).1=(dF b).1:=by
 unfold jd at h ⊢
 cases v
 ·rw[if_pos rfl] at h;exact absurd h (by decide)
 ·rw[if_neg (by decide)] at h ⊢
  by_cases h1:(dF b).2=0
  ·rw[if_neg (by rw[h1];decide)] at h ⊢
   by_cases h2:((dF b).1.all fun f=>gU p f)=true
   ·rw[if_pos h2] at h ⊢
    exact⟨rfl,h1,aV.1 h2,rfl⟩
   ·rw[if_neg h2] at h;exact absurd h (by decide)
  ·rw[if_pos h1] at h;exact absurd h h1
theorem Fo {p:Pol} {b:B} (h1:(dF b).2=0) (h2:∀ f∈(dF b).1,gU p f=true) (h3:(gW p (dF b).1).2=true) (h4:ng p (dF b).1=[]):jD true p b=0:=by
 unfold jD
 rw[A2 h1 h2,if_neg (fun h=>h rfl),if_pos ⟨h3,h4⟩]
theorem Lm {v:Bool} {p:Pol} {b:B} (h:jD v p b=0):v=true∧(dF b).2=0∧(∀ f∈(dF b).1,gU p f=true)∧(gW p (dF b).1).2=true∧ng p (dF b).1=[]:=by
 unfold jD at h
 by_cases h0:(jd v p b).2=0
 ·obtain⟨a1,a2,a3,a4⟩:=T9 h0
  rw[if_neg (by rw[h0];decide)] at h
  rw[a4] at h
  by_cases h1:(gW p (dF b).1).2=true∧ng p (dF b).1=[]
  ·exact⟨a1,a2,a3,h1.1,h1.2⟩
  ·rw[if_neg h1] at h;exact absurd h (by decide)
 ·rw[if_pos h0] at h;exact absurd h h0
theorem uB {p:Pol} (h:PolS p):∀ f∈cR p,FaI f:=fun f hf=>amD (by have:=h.ty;omega) (sG hf)
theorem vl {p:Pol} (h:PolS p):dF (iw (cR p))=(cR p,0):=by
 rw[zd (uB h) (by have:=sH h;omega),nf (zh p)]
theorem Oy (p:Pol):(gW p (cR p)).2=true:=wW.2 sF
theorem Oz {p:Pol} (h:PolS p) (hb:ng p (cR p)=[]):jD true p (iw (cR p))=0:=by
 have e:=vl h
 refine Fo ?_ ?_ ?_ ?_
 ·rw[e]
 ·rw[e];exact fun f hf=>sG hf
 ·rw[e];exact Oy p
 ·rw[e];exact hb
theorem C6 {l:List Fa} {k:Nat} (hk:k<l.length) (hn:l.Nodup) {g:Fa}:g∈l.take k++l.drop (k+1)↔g∈l∧g≠l[k]:=by
 rw[← fx,List.mem_eraseIdx_iff_getElem]
 constructor
 ·rintro⟨i,hi,hik,rfl⟩
  exact⟨bM hi,fun e=>hik ((List.getElem_inj hn).1 e)⟩
 ·rintro⟨h1,h2⟩
  obtain⟨i,hi,rfl⟩:=fa.1 h1
  exact⟨i,hi,fun e=>h2 (by subst e;rfl),rfl⟩
def ni (p:Pol) (k:Nat):List Fa:=(cR p).take k++(cR p).drop (k+1)
theorem aeX {p:Pol} {k:Nat}:StF (ni p k):=by
 unfold ni
 rw[← fx]
 exact(zh p).sublist (List.eraseIdx_sublist _ _)
theorem uC {p:Pol} {k:Nat}:∀ g∈ni p k,g∈cR p:=fun g hg=>by
 unfold ni at hg
 rw[← fx] at hg
 exact(List.eraseIdx_sublist _ _).subset hg
theorem C7 {p:Pol} (h:PolS p) {k:Nat}:(ni p k).length≤40000:=by
 have:=sH h
 unfold ni
 rw[← fx]
 have:=(List.eraseIdx_sublist (cR p) k).length_le
 omega
theorem C9 {p:Pol} (h:PolS p) {k:Nat}:dF (iw (ni p k))=(ni p k,0):=by
 rw[zd (fun f hf=>uB h f (uC f hf)) (by have:=C7 h (k:=k);omega),nf aeX]
theorem zX {p:Pol} {k:Nat} (hk:k<(cR p).length):(gW p (ni p k)).2=false:=by
 rw[← Bool.not_eq_true,wW]
 intro h
 obtain⟨x,hx,hc,hp,vJ⟩:=TQ (bM hk)
 have:=h x hx (fun g hg=>(C6 hk (vh p)).2 ⟨vJ g hg,fun e=>hp (by rw[← e];exact hg)⟩) _ hc
 exact((C6 hk (vh p)).1 this).2 rfl
theorem Ln {p:Pol} (h:PolS p) {k:Nat} (hk:k<(cR p).length):jD true p (iw (ni p k))=21:=by
 have e:=C9 h (k:=k)
 unfold jD
 rw[A2 (by rw[e]) (by rw[e];exact fun f hf=>sG (uC f hf)),if_neg (fun h=>h rfl),e,if_neg]
 intro q
 rw[zX hk] at q
 exact absurd q.1 (by decide)
theorem ZP {p:Pol} (h:PolS p) {k:Nat} (hk:k<(cR p).length):∃ x,HC true p (iw (ni p k))=(x,0)∧(cR p)[k]∈x.con∧(cR p)[k]∉x.pre∧x∈iS p none:=by
 have e:=C9 h (k:=k)
 obtain⟨h1,h2,h3⟩:=HD (zX hk)
 have hm:=@C6 (cR p) k hk (vh p)
 refine⟨(gW p (ni p k)).1,?_,?_,?_,h1⟩
 ·unfold HC
  rw[A2 (by rw[e]) (by rw[e];exact fun f hf=>sG (uC f hf)),if_neg (fun h=>h rfl),e]
 ·have h4:=sF _ h1 fun g hg=>uC g (h2 g hg)
  refine Classical.byContradiction fun q=>h3 fun c hc=>hm.2 ⟨h4 c hc,fun he=>q (by rw[← he];exact hc)⟩
 ·exact fun q=>(hm.1 (h2 _ q)).2 rfl
theorem aeY (a b:Int):bits .or .i64 a b=(BitVec.ofInt 64 a |||BitVec.ofInt 64 b).toInt:=wH _
theorem A3 {f a:Int}:DY f a=true↔BitVec.ofInt 64 f &&&~~~BitVec.ofInt 64 a=0:=by
 unfold DY
 rw[decide_eq_true_iff,JV]
 exact⟨fun h=>BitVec.eq_of_toInt_eq (by rw[h];rfl),fun h=>by rw[h];rfl⟩
theorem Lo {f a m:Int} (h:DY f (bits .and .i64 a m)=true):DY f a=true:=by
 rw[A3,xW,BitVec.ofInt_toInt] at h
 rw[A3]
 apply BitVec.eq_of_getLsbD_eq
 intro i hi
 have:=nq (fun z=>z.getLsbD i) h
 simp at this ⊢
 cases hx:(BitVec.ofInt 64 f).getLsbD i<;>cases hy:(BitVec.ofInt 64 a).getLsbD i<;>simp_all
theorem Ua {f a m:Int}:DY f (bits .and .i64 a (bits .or .i64 m f))=DY f a:=by
 rw[jL]
 refine⟨Lo,fun h=>?_⟩
 rw[A3] at h
 rw[A3,xW,aeY,BitVec.ofInt_toInt,BitVec.ofInt_toInt]
 apply BitVec.eq_of_getLsbD_eq
 intro i hi
 have:=nq (fun z=>z.getLsbD i) h
 simp at this ⊢
 cases hx:(BitVec.ofInt 64 f).getLsbD i<;>cases hy:(BitVec.ofInt 64 a).getLsbD i<;>simp_all
theorem aeZ {a m:Int} (h0:0≤a) (h1:a≤127):0≤bits .and .i64 a m∧bits .and .i64 a m≤127:=by
 rw[xW]
 have e1:(BitVec.ofInt 64 a).toNat=a.toNat:=by
  rw[BitVec.toNat_ofInt];omega
 have e2:(BitVec.ofInt 64 a &&&BitVec.ofInt 64 m).toNat≤a.toNat:=by
  rw[BitVec.toNat_and,e1];exact Nat.and_le_left
 have e3:(BitVec.ofInt 64 a &&&BitVec.ofInt 64 m).toInt=((BitVec.ofInt 64 a &&&BitVec.ofInt 64 m).toNat:Int):=by
  rw[BitVec.toInt_eq_toNat_cond,if_pos (by omega)]
 rw[e3];omega
def ae0 (m:Int) (t:Ty):Ty:={ t with flags:=bits .and .i64 t.flags (bits .or .i64 m 64) }
def iK (m:Int) (i:Nat) (l:List Ty):List Ty:=l.modify i (ae0 m)
theorem im {m:Int} {i:Nat} {l:List Ty}:(iK m i l).length=l.length:=List.length_modify ..
theorem vm {m:Int} {i k:Nat} {l:List Ty} (h:k<(iK m i l).length) (h2:k<l.length):(iK m i l)[k]=if i=k then ae0 m l[k] else l[k]:=List.getElem_modify ..
theorem Lp {p:Pol} {R:List Ru} {m:Int} {i:Nat} {t:Nat}:(∀ f,uf ⟨p.name,iK m i p.types,R,p.quorums⟩ t f=true→uf p t f=true)∧uf ⟨p.name,iK m i p.types,R,p.quorums⟩ t 64=uf p t 64:=by
 unfold uf
 by_cases ht:t<p.types.length
 ·have e:(iK m i p.types)[t]?=some (if i=t then ae0 m p.types[t] else p.types[t]):=by
   rw[ab (by rw[im];exact ht),vm _ ht]
  simp only[e,ab ht]
  by_cases q:i=t
  ·rw[if_pos q];exact⟨fun f h=>Lo h,Ua⟩
  ·rw[if_neg q];exact⟨fun f h=>h,rfl⟩
 ·have e:(iK m i p.types)[t]?=none:=bq (by rw[im];omega)
  simp only[e,bq (show p.types.length≤t by omega)]
  exact⟨fun f h=>h,trivial⟩
theorem Fp {p q:Pol} (h:∀ t,uf q t 64=uf p t 64):∀ n,sw q n=sw p n
 |0=>rfl
 |n+1=>by
  show sw q n++Cf q n=sw p n++Cf p n
  have:Cf q n=Cf p n:=by unfold Cf;rw[h]
  rw[Fp h n,this]
theorem Lq {p:Pol} {R:List Ru} {m:Int} {i:Nat} (hR:R.Sublist p.rules) (h:iT p=true):iT ⟨p.name,iK m i p.types,R,p.quorums⟩=true:=by
 unfold iT at h ⊢
 refine Kp.Ox (p:=kPo p) (by simp[kPo,im]) (fun k hk hk2=>?_) (hR.map _) h
 have hk3:k<p.types.length:=by simpa[kPo] using hk2
 simp only[kPo,jt,vm _ hk3]
 by_cases q:i=k
 ·rw[if_pos q];exact⟨rfl,rfl,fun a b=>aeZ a b⟩
 ·rw[if_neg q];exact⟨rfl,rfl,fun a b=>⟨a,b⟩⟩
theorem HM {p:Pol} {R:List Ru} {m:Int} {i:Nat} {b:B} (hR:R.Sublist p.rules) (ha:jD (iT p) p b=0) (hg:∀ x∈iS ⟨p.name,iK m i p.types,R,p.quorums⟩ none,x∈iS p none) :
 jD (iT ⟨p.name,iK m i p.types,R,p.quorums⟩) ⟨p.name,iK m i p.types,R,p.quorums⟩ b=0:=by
 obtain⟨h0,h1,h2,h3,h4⟩:=Lm ha
 rw[Lq hR h0]
 refine Fo h1 (fun f hf=>?_) ?_ ?_
 ·have:=h2 f hf
  unfold gU at this ⊢
  simp only[im]
  exact this
 ·rw[wW] at h3 ⊢
  exact fun x hx=>h3 x (hg x hx)
 ·have e:pf ⟨p.name,iK m i p.types,R,p.quorums⟩=pf p:=by
   unfold pf
   show fb (sw _ (iK m i p.types).length)=_
   rw[im,Fp fun t=>Lp.2]
  unfold ng at h4 ⊢
  rw[e];exact h4
