/- Layer 16: the specification: permissions, look-ups, Class, Same. -/
import Derived.Test.YtegbpjodbjhjeaaGreatDoorVlMh
import Derived.Test.YtegbpjodbjhjeaaGreatDoorVlCA
import Derived.Test.YtegbpjodbjhjeaaGreatDoorVlQ1
import Derived.Test.YtegbpjodbjhjeaaGreatDoorVlBridge
set_option linter.all false
namespace Go.Proofs.YtegbpjodbjhjeaaGreatDoor
open Go Go.Vl
open Kp (Pol Ty Ru Qu poC tyC ruC quC)
variable {G:Gl}
set_option maxRecDepth 10000
theorem Ng {s:Sy} (hS:SyOk s) (t:Tm) (ht:bq t≤900000000):FnOK Tryz.prog G 27 [.c (tsC s.its),.agg (tmC t)] (bo (knS s t)):=
 Pn s.its t (fun t ht=>(hS.iv t ht).1) (by have:=tJ hS;omega) ht
theorem UY (t u:Tm) (ht:bq t≤1000000000) (hu:bq u≤1000000000):FnOK Tryz.prog G 60 [.agg (tmC t),.agg (tmC u)] (bo (decide (t=u))):=by
 refine bE (rs:=[.tmp 4]) false [] mixed Tryz.func60 rfl rfl rfl rfl (by kernel_rfl) (by simp) rfl rfl ?_
 simp only[pkA,ptA,pkT,seval]
 refine ay rfl (ko t u ht hu) (fun _=>rfl) ?_
 simp only[pkA,seval]
 simp[gB]
open Kp (Pol Ty Ru Qu)
inductive Clean:Tm→Prop
 |leaf {k n:Int} {l:List Tm}:k≠2→k≠3→k≠4→Clean (.mk k n l)
 |wrap {k n:Int} {a b:Tm}:k=3∨k=4→Clean b→Clean (.mk k n [a,b])
theorem Clean.ne2 {k n:Int} {l:List Tm} (h:Clean (.mk k n l)):k≠2:=by
 cases h with
 |leaf h _ _=>exact h
 |wrap h _=>omega
theorem Clean.out {k n:Int} {a b:Tm} (hk:k=3∨k=4) (h:Clean (.mk k n [a,b])):Clean b:=by
 cases h with
 |leaf _ h1 h2=>omega
 |wrap _ h=>exact h
theorem UZ {I:List Tm} (hI:∀ t∈I,Clean t) {b:Bool} {t:Tm} (h:Kn I b t):b=false→Clean t:=by
 induction h with
 |item h=>exact fun _=>hI _ h
 |opn _ hk _ i1 _=>exact fun _=>(i1 rfl).out hk
 |of _ _=>intro h;cases h
 |data=>intro h;cases h
 |make _ _ _=>intro h;cases h
structure Sec (s:Sy):Prop where
 rs:s.rs=[]
 os:∀ o∈s.os,∃ n,o.va=.mk 2 n []
 its:∀ t∈s.its,Clean t
theorem nZ {s:Sy} {v:Tm} (h:Sec s) (hv:Clean v):Sec (gvS s v):=
 {
  rs:=h.rs,os:=h.os,its:=fun t ht=>by
   rcases aZ.1 ht with h1 | h1
   ·exact h.its t h1
   ·rw[aP] at h1;subst h1;exact hv }
theorem YJ {p:Pol} {s s':Sy} {c:Cl} {n:Nat} (hr:p.rules=[]) (hx:∀ t,jE p t 4=false) (hS:Sec s) (h:Did p s c n s'):Sec s':=by
 have hm:∀ k a b,mH p k a b=false:=fun k a b=>by simp[mH,hr]
 cases h with
 |gen h1 h2 h3=>
  exact {
   rs:=hS.rs,its:=hS.its,os:=fun o ho=>by
    rcases aZ.1 ho with h4 | h4
    ·exact hS.os o h4
    ·rw[aP] at h4;subst h4;exact⟨_,rfl⟩ }
 |load h1 h2 h3 h4=>exact { rs:=hS.rs,os:=hS.os,its:=hS.its }
 |expo h1 h2 h3=>rw[hx] at h2;cases h2
 |encrypt h1 h2 h3=>exact nZ hS (.wrap (.inl rfl) (hS.its _ h2))
 |decrypt h1 h2 h3=>exact nZ hS ((hS.its _ h2).out (.inl rfl))
 |mac h1 h2 h3=>exact nZ hS (.leaf (by decide) (by decide) (by decide))
 |wrap h1 h2 h3 h4=>rw[hm] at h3;cases h3
 |unwrap h1 h2 h3 h4=>rw[hm] at h3;cases h3
 |rawWrap h1 h2 h3 h4=>rw[hm] at h3;cases h3
 |rawUnwrap h1 h2 h3 h4 h5 h6=>rw[hm] at h4;cases h4
 |derive h1 h2 h3 h4=>rw[hm] at h3;cases h3
 |data h1 h2=>exact nZ hS (.leaf (by decide) (by decide) (by decide))
 |hostSeal h1 h2 h3 h4=>exact nZ hS (.wrap (.inl rfl) (hS.its _ h2))
 |hostBox h1 h2 h3 h4 h5 h6=>exact nZ hS (.wrap (.inr rfl) (hS.its _ h2))
 |hostKdf h1 h2 h3 h4=>exact nZ hS (.leaf (by decide) (by decide) (by decide))
 |hostOpen h1 h2 h3 h4=>exact nZ hS ((hS.its _ h3).out h2)
theorem Nh {p:Pol} (hp:p.types.length≤8) (hr:p.rules=[]) (hx:∀ t,jE p t 4=false) (l:List Cl):Sec (ji p sy0 0 l).1:=
 yB hp (Q:=Sec) (fun _ _ _ _ _ h _ hd=>YJ hr hx h hd) l sy0 0 sok0 ⟨rfl,fun _ h=>(by cases h),fun _ h=>(by cases h)⟩
theorem acH {s:Sy} (hS:SyOk s) (h:Sec s):∀ o∈s.os,knS s o.va=false:=fun o ho=>by
 obtain⟨n,hn⟩:=h.os o ho
 cases hk:knS s o.va with
 |false=>rfl
 |true=>
  rw[hn] at hk
  exact absurd rfl (UZ h.its ((oS fun t ht=>(hS.iv t ht).1).1 hk).key rfl).ne2
inductive Good (O I:List Tm):Tm→Prop
 |leaf {k n:Int} {l:List Tm}:k≠3→k≠4→Good O I (.mk k n l)
 |sealO {n:Int} {a b:Tm}:b∈O→Good O I (.mk 3 n [a,b])
 |sealK {n:Int} {a b:Tm}:Kn I true b→Good O I b→Good O I (.mk 3 n [a,b])
 |boxO {n:Int} {a b:Tm}:eC b=true→b∈O→Good O I (.mk 4 n [a,b])
 |boxK {n:Int} {a b:Tm}:eC b=true→Kn I true b→Good O I b→Good O I (.mk 4 n [a,b])
theorem Good.mono {O I O' I':List Tm} (hO:∀ t∈O,t∈O') (hI:∀ t∈I,t∈I') {t:Tm} (h:Good O I t):Good O' I' t:=by
 induction h with
 |leaf h1 h2=>exact .leaf h1 h2
 |sealO h=>exact .sealO (hO _ h)
 |sealK h _ ih=>exact .sealK (h.mono hI) ih
 |boxO h h1=>exact .boxO h (hO _ h1)
 |boxK h h1 _ ih=>exact .boxK h (h1.mono hI) ih
theorem Good.key {O I:List Tm} {t:Tm} (h:eC t=true):Good O I t:=by
 obtain⟨k,n,l⟩:=t
 simp only[eC,Tm.kind,aI] at h
 exact .leaf (dA h.1) (dA h.2)
theorem Good.out {O I:List Tm} {k n:Int} {a b:Tm} (hk:k=3∨k=4) (h:Good O I (.mk k n [a,b])):b∈O∨(Kn I true b∧Good O I b):=by
 cases h with
 |leaf h1 h2=>omega
 |sealO h=>exact .inl h
 |sealK h h1=>exact .inr ⟨h,h1⟩
 |boxO _ h=>exact .inl h
 |boxK _ h h1=>exact .inr ⟨h,h1⟩
theorem Good.boxKey {O I:List Tm} {n:Int} {a b:Tm} (h:Good O I (.mk 4 n [a,b])):eC b=true:=by
 cases h with
 |leaf h1 h2=>omega
 |boxO h _=>exact h
 |boxK h _ _=>exact h
abbrev oW (s:Sy):List Tm:=s.os.map (·.va)
structure Cn (s:Sy):Prop where
 hs:∀ h∈s.hs,eC h.va=true∧(Kn s.its true h.va∨h.va∈oW s)
 its:∀ t∈s.its,Good (oW s) s.its t
 nd:(oW s).Nodup
 keys:∀ n l,.mk 2 n l∈oW s→n<s.fresh
theorem ka {s:Sy} {v:Tm} (h:Cn s) (hv:Good (oW s) s.its v):Cn (gvS s v):=by
 have hI:∀ t∈s.its,t∈s.its++[v]:=fun t ht=>eu _ ht
 exact {
  hs:=fun x hx=>⟨(h.hs x hx).1,(h.hs x hx).2.imp (fun h=>h.mono hI) id⟩
  its:=fun t ht=>by
   rcases aZ.1 ht with h1 | h1
   ·exact(h.its t h1).mono (fun _ h=>h) hI
   ·rw[aP] at h1;subst h1;exact hv.mono (fun _ h=>h) hI
  nd:=h.nd
  keys:=h.keys }
theorem xn {s:Sy} {t:Int} {v:Tm} (h:Cn s) (hk:eC v=true) (hv:Kn s.its true v∨v∈oW s):Cn (hoS s t v):=
 {
  hs:=fun x hx=>by
   rcases aZ.1 hx with h1 | h1
   ·exact h.hs x h1
   ·rw[aP] at h1;subst h1;exact⟨hk,hv⟩
  its:=h.its
  nd:=h.nd
  keys:=h.keys }
theorem DL {s:Sy} {t:Int} {v:Tm} {f:Int} (h:Cn s) (hk:eC v=true) (hv:v∉oW s) (hf:s.fresh≤f) (hn:∀ n l,v=.mk 2 n l→n<f):Cn { mkM (hoS s t v) t v with fresh:=f }:=by
 have hO:∀ x∈oW s,x∈(s.os++[(⟨t,v⟩:Hd)]).map (·.va):=fun x hx=>by rw[dL];exact eu _ hx
 have hvn:v∈(s.os++[(⟨t,v⟩:Hd)]).map (·.va):=by rw[dL];exact List.mem_append_right _ (by simp)
 exact {
  hs:=fun x hx=>by
   rcases aZ.1 hx with h1 | h1
   ·exact⟨(h.hs x h1).1,(h.hs x h1).2.imp id (hO _)⟩
   ·rw[aP] at h1;subst h1;exact⟨hk,.inr hvn⟩
  its:=fun t ht=>(h.its t ht).mono hO fun _ h=>h
  nd:=by
   show((s.os++[(⟨t,v⟩:Hd)]).map (·.va)).Nodup
   rw[dL,List.nodup_append]
   exact⟨h.nd,by simp,fun a ha b hb e=>by simp at hb;subst hb;subst e;exact hv ha⟩
  keys:=fun n l hm=>by
   have hm:Tm.mk 2 n l∈(s.os++[(⟨t,v⟩:Hd)]).map (·.va):=hm
   rw[dL] at hm
   rcases aZ.1 hm with h1 | h1
   ·exact Int.lt_of_lt_of_le (h.keys n l h1) hf
   ·simp at h1;exact hn n l h1.symm }
theorem Ni {s:Sy} (hS:SyOk s) {t:Tm}:orS s t<0↔t∉oW s:=by
 unfold orS
 split
 ·rename_i o ho
  have h1:=List.find?_some ho
  simp only[bj] at h1
  have h2:=List.mem_of_find?_eq_some ho
  have h3:=(hS.hv o (hS.ov o h2)).2.2.1
  constructor
  ·intro h;omega
  ·intro h;exact absurd (br.2 ⟨o,h2,h1⟩) h
 ·rename_i ho
  rw[List.find?_eq_none] at ho
  constructor
  ·intro _ hm
   obtain⟨o,h1,h2⟩:=br.1 hm
   exact ho o h1 (by simpa using h2)
  ·intro _;decide
theorem U0 {p:Pol} {s s':Sy} {c:Cl} {n:Nat} (hS:SyOk s) (h:Cn s) (hd:Did p s c n s'):Cn s':=by
 have rQ:∀ v∈oW s,eC v=true:=fun v hv=>by
  obtain⟨o,h1,rfl⟩:=br.1 hv
  exact(h.hs o (hS.ov o h1)).1
 have cont:∀ {k n:Int} {a b:Tm},k=3∨k=4→.mk k n [a,b]∈s.its→(b∈oW s∨Kn s.its true b)∧Good (oW s) s.its b:=fun hk hm=>by
  rcases(h.its _ hm).out hk with h1 | h1
  ·exact⟨.inl h1,.key (rQ _ h1)⟩
  ·exact⟨.inr h1.1,h1.2⟩
 have sw:∀ {A B:Prop},A∨B→B∨A:=fun h=>h.symm
 have sl:∀ {a b:Tm},(Kn s.its true b∨b∈oW s)→Good (oW s) s.its b→Good (oW s) s.its (iC a b):=fun h1 h2=>h1.elim (fun h1=>.sealK h1 h2) .sealO
 have bx:∀ {n:Int} {a b:Tm},eC b=true→(Kn s.its true b∨b∈oW s)→Good (oW s) s.its (.mk 4 n [a,b]):=fun h0 h1=>h1.elim (fun h1=>.boxK h0 h1 (.key h0)) (.boxO h0)
 have itm:∀ {x:Tm},x∈s.its→Kn s.its true x:=fun h=>.of (.item h)
 have k5:∀ {n:Int} {l:List Tm},eC (.mk 5 n l)=true:=rfl
 cases hd with
 |gen h1 h2 h3=>exact DL h rfl (fun hm=>by have:=h.keys _ _ hm;omega) (by omega) (fun n l e=>by cases e;omega)
 |load h1 h2 h3 h4=>exact xn h h3 (.inl (itm h1))
 |expo h1 h2 h3=>exact ka h (.key (h.hs _ h1).1)
 |encrypt h1 h2 h3=>exact ka h (sl (.inl (itm h2)) (h.its _ h2))
 |decrypt h1 h2 h3=>exact ka h (cont (.inl rfl) h2).2
 |mac h1 h2 h3=>exact ka h (.leaf (by decide) (by decide))
 |wrap h1 h2 h3 h4=>exact ka h (bx (h.hs _ h2).1 (h.hs _ h2).2)
 |unwrap h1 h2 h3 h4=>exact xn h (h.its _ h2).boxKey (sw (cont (.inr rfl) h2).1)
 |rawWrap h1 h2 h3 h4=>exact ka h (sl (h.hs _ h2).2 (.key (h.hs _ h2).1))
 |rawUnwrap h1 h2 h3 h4 h5 h6=>
  have h7:=xn (t:=c.t) h h5 (sw (cont (.inl rfl) h2).1)
  split
  ·exact h7
  ·exact { hs:=h7.hs,its:=h7.its,nd:=h7.nd,keys:=h7.keys }
 |@derive a h1 h2 h3 h4=>
  split
  ·rename_i hc
   exact DL h k5 ((Ni hS).1 hc.2) (jJ _) (fun n l e=>by cases e)
  ·rename_i hc
   refine xn h k5 ?_
   by_cases hk:knS s a.va=true
   ·left
    have:=(oS fun t ht=>(hS.iv t ht).1).1 hk
    exact .make (by decide) fun t ht=>by rw[aP] at ht;subst ht;exact this
   ·right
    have hk:knS s a.va=false:=by simpa using hk
    by_cases hv:(.mk 5 c.t [a.va])∈oW s
    ·exact hv
    ·exact absurd ⟨hk,(Ni hS).2 hv⟩ hc
 |data h1 h2=>exact ka h (.leaf (by decide) (by decide))
 |hostSeal h1 h2 h3 h4=>exact ka h (sl (.inl (itm h2)) (h.its _ h2))
 |hostBox h1 h2 h3 h4 h5 h6=>exact ka h (bx h5 (.inl (itm h2)))
 |hostKdf h1 h2 h3 h4=>exact ka h (.leaf (by decide) (by decide))
 |hostOpen h1 h2 h3 h4=>exact ka h (cont h2 h3).2
theorem U1 {p:Pol} (hp:p.types.length≤8) (l:List Cl):Cn (ji p sy0 0 l).1:=
 yB hp (Q:=Cn) (fun _ _ _ _ hS h _ hd=>U0 hS h hd) l sy0 0 sok0 ⟨fun _ h=>(by cases h),fun _ h=>(by cases h),ip,fun _ _ h=>(by cases h)⟩
theorem YK {p:Pol} {s s':Sy} {c:Cl} {n:Nat} (hS:SyOk s) (hn:12≤n) (hd:Did p s c n s'):∃ v,s'=gvS s v∧Kn s.its true v:=by
 have itm:∀ {x:Tm},x∈s.its→Kn s.its true x:=fun h=>.of (.item h)
 have mk2:∀ {k n:Int} {a x:Tm},k≠2→a∈s.its→x∈s.its→Kn s.its true (.mk k n [a,x]):=fun hk h1 h2=>.make hk fun t ht=>by
  simp only[bu,dW,jK] at ht
  rcases ht with rfl | rfl
  ·exact itm h1
  ·exact itm h2
 cases hd with
 |data h1 h2=>exact⟨_,rfl,.data⟩
 |hostSeal h1 h2 h3 h4=>exact⟨_,rfl,mk2 (by decide) h1 h2⟩
 |hostBox h1 h2 h3 h4 h5 h6=>exact⟨_,rfl,mk2 (by decide) h1 h2⟩
 |hostKdf h1 h2 h3 h4=>exact⟨_,rfl,.make (by decide) fun t ht=>by rw[aP] at ht;subst ht;exact itm h1⟩
 |hostOpen h1 h2 h3 h4=>exact⟨_,rfl,.of (.opn (.item h3) h2 (itm h1))⟩
 |_=>omega
structure Beg (a b:Sy):Prop where
 hs:a.hs <+: b.hs
 its:a.its <+: b.its
 os:a.os <+: b.os
 rs:a.rs <+: b.rs
 fr:a.fresh≤b.fresh
 one:b.hs.length+b.its.length=a.hs.length+a.its.length+1
theorem YL {p:Pol} {s s':Sy} {c:Cl} {n:Nat} (hd:Did p s c n s'):Beg s s':=by
 have r:∀ {α:Type} {l:List α},l <+: l:=List.prefix_refl _
 have a:∀ {α:Type} {l m:List α},l <+: l++m:=List.prefix_append _ _
 have g:∀ {v:Tm},Beg s (gvS s v):=fun {v}=>⟨r,a,r,r,jJ _,by simp[gvS];omega⟩
 have o:∀ {t:Int} {v:Tm},Beg s (hoS s t v):=fun {t v}=>⟨a,r,r,r,jJ _,by simp[hoS];omega⟩
 cases hd with
 |gen=>exact⟨a,r,a,r,by simp only[];omega,by simp[hoS,mkM];omega⟩
 |rawUnwrap=>
  split
  ·exact o
  ·exact⟨a,r,r,a,jJ _,by simp[hoS];omega⟩
 |derive=>
  split
  ·exact⟨a,r,a,r,jJ _,by simp[hoS,mkM];omega⟩
  ·exact o
 |_=>first | exact g | exact o
def uN (s:Sy) (k n:Int):Bool:=decide ((⟨k,n,0⟩:Fa)∈pI s)
theorem uz {s:Sy} {f:Fa}:f∈pI s↔(∃ h∈s.hs,oq s h=f)∨(∃ t∈en s.its,f∈lQ s t)∨∃ o∈s.os,f∈mI s o:=by
 unfold pI
 rw[IU]
 unfold F4
 rw[aZ,aZ,br,List.mem_flatMap,List.mem_flatMap]
theorem DN {s:Sy} {t:Tm} {f:Fa} (h:f∈lQ s t):f.kind=2:=by
 unfold lQ at h
 split at h
 ·rw[aP] at h;rw[h]
 ·cases h
theorem F5 {s:Sy} {n:Int}:uN s 3 n=s.os.any fun o=>decide (o.ty+1=n)&&knS s o.va:=by
 unfold uN
 rw[iL,decide_eq_true_iff,uz,dt]
 constructor
 ·rintro(⟨h,_,e⟩ | ⟨t,_,e⟩ | ⟨o,ho,e⟩)
  ·have:=iY Fa.kind e;simp[oq] at this
  ·have:=DN e;simp at this
  ·refine⟨o,ho,?_⟩
   unfold mI at e
   rcases aZ.1 e with e | e
   ·split at e
    ·rename_i hk
     rw[aP,Fa.mk.injEq] at e
     simp[hk,e.2.1]
    ·cases e
   ·split at e
    ·rw[aP,Fa.mk.injEq] at e;omega
    ·cases e
 ·rintro⟨o,ho,e⟩
  simp only[aI,bj] at e
  refine .inr (.inr ⟨o,ho,?_⟩)
  unfold mI
  rw[if_pos e.2,e.1];simp
theorem YM {s:Sy} (h:s.rs=[]) (n:Int):uN s 4 n=false:=by
 unfold uN
 rw[b9,uz]
 rintro(⟨h,_,e⟩ | ⟨t,_,e⟩ | ⟨o,ho,e⟩)
 ·have:=iY Fa.kind e;simp[oq] at this
 ·have:=DN e;simp at this
 ·unfold mI at e
  rw[h] at e
  rcases aZ.1 e with e | e
  ·split at e
   ·rw[aP,Fa.mk.injEq] at e;omega
   ·cases e
  ·simp at e
theorem uA {s:Sy} (hS:SyOk s) (h:Sec s) (n:Int):uN s 3 n=false∧uN s 4 n=false:=by
 refine⟨?_,YM h.rs n⟩
 rw[F5,kS]
 intro o ho
 simp[acH hS h o ho]
def PT (f:Int):Int:=bits .andNot .i64 f 4
theorem U2 (f:Int):FR 4 (PT f)=false:=by
 unfold FR PT
 rw[b9,nT,nT]
 intro h
 have h0:BitVec.ofInt 64 4 &&&~~~BitVec.ofInt 64 ((BitVec.ofInt 64 f &&&~~~BitVec.ofInt 64 4).toInt)=0:=BitVec.eq_of_toInt_eq (by rw[h];rfl)
 rw[BitVec.ofInt_toInt] at h0
 have:=iY (fun z=>z.getLsbD 2) h0
 simp at this
theorem U3 {a b f:Int} (qn:BitVec.ofInt 64 a &&&BitVec.ofInt 64 b=BitVec.ofInt 64 b) (h:FR a f=true):FR b f=true:=by
 unfold FR at *
 rw[bj,nT] at *
 have h0:BitVec.ofInt 64 a &&&~~~BitVec.ofInt 64 f=0:=BitVec.eq_of_toInt_eq (by rw[h];rfl)
 rw[← qn,BitVec.and_comm (BitVec.ofInt 64 a),BitVec.and_assoc,h0]
 simp
theorem IX {p:Pol} {t a b:Int} (qn:BitVec.ofInt 64 a &&&BitVec.ofInt 64 b=BitVec.ofInt 64 b) (h:jE p t a=true):jE p t b=true:=by
 unfold jE at *
 split at h
 ·exact U3 qn h
 ·cases h
theorem U4 {p:Pol} {t f:Int} (h:jE p t f=true):inI t p.types.length=true:=by
 unfold jE at h
 rw[Iy]
 cases hx:uL p.types t with
 |none=>rw[hx] at h;cases h
 |some x=>rfl
def clL (a b:Int):List Cl:=[⟨1,0,0,0,a⟩,⟨1,0,0,0,b⟩,⟨9,0,1,0,0⟩,⟨5,0,0,0,0⟩]
def clK (n:Int):Tm:=.mk 2 n []
def uO (a b:Int):Sy:=⟨[⟨a,clK 0⟩,⟨b,clK 1⟩],[iC (clK 0) (clK 1)],[⟨a,clK 0⟩,⟨b,clK 1⟩],[],2⟩
def vN (a b:Int):Sy:=⟨[⟨a,clK 0⟩,⟨b,clK 1⟩],[iC (clK 0) (clK 1),clK 1],[⟨a,clK 0⟩,⟨b,clK 1⟩],[],2⟩
theorem xo {p:Pol} {s s':Sy} {c:Cl} {k:Nat} (hv:Kp.gu p=true) (hk:inI (c.kind - 1) 16=true) (hn:c.kind.toNat=k) (h:doM p s c k=.ok s'):bM p s c=.ok s':=by
 unfold bM eH
 rw[hv,hk,hn,h];rfl
theorem U5 {p:Pol} {a b:Int} (hv:Kp.gu p=true) (ha:jE p a 17=true) (hb:jE p b 1=true) (hr:mH p 3 a b=true) :
 ji p sy0 0 ((clL a b).take 3)=(uO a b,3,0)∧ji p sy0 0 (clL a b)=(vN a b,4,0):=by
 have ha1:jE p a 1=true:=IX (by decide) ha
 have ai9:jE p a 16=true:=IX (by decide) ha
 have hia:=U4 ha
 have tX:=U4 hb
 have e1:bM p sy0 ⟨1,0,0,0,a⟩=.ok ⟨[⟨a,clK 0⟩],[],[⟨a,clK 0⟩],[],1⟩:=xo (k:=1) hv rfl rfl (by simp only[doM,pC,hia,ha1,eH,cL];rfl)
 have e2:bM p ⟨[⟨a,clK 0⟩],[],[⟨a,clK 0⟩],[],1⟩ ⟨1,0,0,0,b⟩=.ok ⟨[⟨a,clK 0⟩,⟨b,clK 1⟩],[],[⟨a,clK 0⟩,⟨b,clK 1⟩],[],2⟩:=xo (k:=1) hv rfl rfl (by simp only[doM,pC,tX,hb,eH,cL];rfl)
 have e3:bM p ⟨[⟨a,clK 0⟩,⟨b,clK 1⟩],[],[⟨a,clK 0⟩,⟨b,clK 1⟩],[],2⟩ ⟨9,0,1,0,0⟩=.ok (uO a b):=xo (k:=9) hv rfl rfl (by
  have h0:ofI [(⟨a,clK 0⟩:Hd),⟨b,clK 1⟩] 0=.ok ⟨a,clK 0⟩:=rfl
  have h1:ofI [(⟨a,clK 0⟩:Hd),⟨b,clK 1⟩] 1=.ok ⟨b,clK 1⟩:=rfl
  simp only[doM,okb,h0,h1,hr,eH,cL];rfl)
 have e4:bM p (uO a b) ⟨5,0,0,0,0⟩=.ok (vN a b):=xo (k:=5) hv rfl rfl (by
  have h0:ofI (uO a b).hs 0=.ok ⟨a,clK 0⟩:=rfl
  have h1:ofI (uO a b).its 0=.ok (iC (clK 0) (clK 1)):=rfl
  have h2:jc (iC (clK 0) (clK 1)) (clK 0) [3]=.ok (clK 1):=rfl
  simp only[doM,okb,h0,h1,h2,ai9,eH,cL];rfl)
 constructor
 ·simp only[clL,List.take,ji,e1,e2,e3]
 ·simp only[clL,ji,e1,e2,e3,e4]
theorem U6 {b:Bool} {t:Tm} (h:Kn [iC (clK 0) (clK 1)] b t):(b=false→t=iC (clK 0) (clK 1))∧∀ n,t≠clK n:=by
 induction h with
 |item h=>rw[aP] at h;subst h;exact⟨fun _=>rfl,fun n e=>(by cases e)⟩
 |opn _ hk _ i1 i2=>
  have:=i1.1 rfl
  unfold iC at this
  cases this
  exact absurd rfl (i2.2 0)
 |of _ ih=>exact⟨fun h=>(by cases h),ih.2⟩
 |data=>exact⟨fun h=>(by cases h),fun n e=>by cases e⟩
 |make h _ _=>exact⟨fun h=>(by cases h),fun n e=>by cases e;exact h rfl⟩
theorem acI {p:Pol} {a b:Int} (h3:SyOk (uO a b)) (h4:SyOk (vN a b)):uN (uO a b) 3 (b+1)=false∧uN (vN a b) 3 (b+1)=true:=by
 rw[F5,F5]
 constructor
 ·rw[kS]
  intro o ho
  have:knS (uO a b) o.va=false:=by
   cases hk:knS (uO a b) o.va with
   |false=>rfl
   |true=>
    have:=(U6 ((oS fun t ht=>(h3.iv t ht).1).1 hk)).2
    simp only[uO,bu,dW,jK] at ho
    rcases ho with rfl | rfl
    ·exact absurd rfl (this 0)
    ·exact absurd rfl (this 1)
  simp[this]
 ·rw[dt]
  refine⟨⟨b,clK 1⟩,by simp[vN],?_⟩
  have:knS (vN a b) (clK 1)=true:=(oS fun t ht=>(h4.iv t ht).1).2 (.of (.item (by simp[vN])))
  simp[this]
def rL (p:Pol):Sy→List Cl→Option Sy
 |s,[]=>some s
 |s,c::l=>match bM p s c with
  | .ok s'=>rL p s' l
  | .error _=>none
theorem DO {p:Pol}:∀ (l:List Cl) (s:Sy),(ji p s 0 l).2.1≤l.length∧((ji p s 0 l).2.2=0↔(ji p s 0 l).2.1=l.length)∧rL p s (l.take (ji p s 0 l).2.1)=some (ji p s 0 l).1∧
 ((ji p s 0 l).2.2≠0→∃ c,l[(ji p s 0 l).2.1]?=some c∧bM p (ji p s 0 l).1 c=.error (ji p s 0 l).2.2)
 |[],s=>by simp[ji,rL]
 |c::l,s=>by
  cases h:bM p s c with
  |error e=>
   have he:=zV h
   rw[Nb h]
   simp only[aC]
   refine⟨by omega,⟨fun h=>absurd h he,fun h=>by omega⟩,by simp[rL],fun _=>⟨c,rfl,h⟩⟩
  |ok s'=>
   obtain⟨h1,h2,h3,h4⟩:=DO l s'
   rw[Na h,BD]
   simp only[aC]
   have e:0+1+(ji p s' 0 l).2.1=(ji p s' 0 l).2.1+1:=by omega
   rw[e]
   refine⟨by omega,⟨fun h=>by rw[h2.1 h],fun h=>h2.2 (by omega)⟩,?_,fun hn=>?_⟩
   ·rw[eZ];simp only[rL,h];exact h3
   ·obtain⟨c',q1,q2⟩:=h4 hn
    exact⟨c',by simpa using q1,q2⟩
