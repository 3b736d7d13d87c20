/- Layer 16: the specification: permissions, look-ups, Class, Same. -/
import Derived.Test.YtegbpjodbjhjeaaGreatDoorVlMh
import Derived.Test.YtegbpjodbjhjeaaGreatDoorVlCA
import Derived.Test.YtegbpjodbjhjeaaGreatDoorVlQ1
import Derived.Test.YtegbpjodbjhjeaaGreatDoorVlBridge
set_option linter.all false
namespace Go.Proofs.YtegbpjodbjhjeaaGreatDoor
open Go Go.Vl
open Kp (Pol Ty Ru Qu poC tyC ruC quC)
variable {G:Gl}
set_option maxRecDepth 10000
theorem Xu {s:Sy} (hS:SyOk s) (t:Tm) (ht:br t≤900000000):FnOK Tryz.prog G 27 [.c (tsC s.its),.agg (tmC t)] (bo (knS s t)):=
 Og s.its t (fun t ht=>(hS.iv t ht).1) (by have:=sL hS;omega) ht
open Kp (Pol Ty Ru Qu)
inductive Clean:Tm→Prop
 |leaf {k n:Int} {l:List Tm}:k≠2→k≠3→k≠4→Clean (.mk k n l)
 |wrap {k n:Int} {a b:Tm}:k=3∨k=4→Clean b→Clean (.mk k n [a,b])
theorem Clean.ne2 {k n:Int} {l:List Tm} (h:Clean (.mk k n l)):k≠2:=by
 cases h with
 |leaf h _ _=>exact h
 |wrap h _=>omega
theorem Clean.out {k n:Int} {a b:Tm} (hk:k=3∨k=4) (h:Clean (.mk k n [a,b])):Clean b:=by
 cases h with
 |leaf _ h1 h2=>omega
 |wrap _ h=>exact h
theorem TM {I:List Tm} (hI:∀ t∈I,Clean t) {b:Bool} {t:Tm} (h:Kn I b t):b=false→Clean t:=by
 induction h with
 |item h=>exact fun _=>hI _ h
 |opn _ hk _ i1 _=>exact fun _=>(i1 rfl).out hk
 |of _ _=>intro h;cases h
 |data=>intro h;cases h
 |make _ _ _=>intro h;cases h
structure Sec (s:Sy):Prop where
 rs:s.rs=[]
 os:∀ o∈s.os,∃ n,o.va=.mk 2 n []
 its:∀ t∈s.its,Clean t
theorem nE {s:Sy} {v:Tm} (h:Sec s) (hv:Clean v):Sec (gvS s v):=
 {
  rs:=h.rs,os:=h.os,its:=fun t ht=>by
   rcases aY.1 ht with h1 | h1
   ·exact h.its t h1
   ·rw[aN] at h1;subst h1;exact hv }
theorem Xv {p:Pol} {s s':Sy} {c:Cl} {n:Nat} (hr:p.rules=[]) (hx:∀ t,kw p t 4=false) (hS:Sec s) (h:Did p s c n s'):Sec s':=by
 have hm:∀ k a b,oh p k a b=false:=fun k a b=>by simp[oh,hr]
 cases h with
 |gen h1 h2 h3=>
  exact {
   rs:=hS.rs,its:=hS.its,os:=fun o ho=>by
    rcases aY.1 ho with h4 | h4
    ·exact hS.os o h4
    ·rw[aN] at h4;subst h4;exact⟨_,rfl⟩ }
 |load h1 h2 h3 h4=>exact { rs:=hS.rs,os:=hS.os,its:=hS.its }
 |expo h1 h2 h3=>rw[hx] at h2;cases h2
 |encrypt h1 h2 h3=>exact nE hS (.wrap (.inl rfl) (hS.its _ h2))
 |decrypt h1 h2 h3=>exact nE hS ((hS.its _ h2).out (.inl rfl))
 |mac h1 h2 h3=>exact nE hS (.leaf (by decide) (by decide) (by decide))
 |wrap h1 h2 h3 h4=>rw[hm] at h3;cases h3
 |unwrap h1 h2 h3 h4=>rw[hm] at h3;cases h3
 |rawWrap h1 h2 h3 h4=>rw[hm] at h3;cases h3
 |rawUnwrap h1 h2 h3 h4 h5 h6=>rw[hm] at h4;cases h4
 |derive h1 h2 h3 h4=>rw[hm] at h3;cases h3
 |data h1 h2=>exact nE hS (.leaf (by decide) (by decide) (by decide))
 |hostSeal h1 h2 h3 h4=>exact nE hS (.wrap (.inl rfl) (hS.its _ h2))
 |hostBox h1 h2 h3 h4 h5 h6=>exact nE hS (.wrap (.inr rfl) (hS.its _ h2))
 |hostKdf h1 h2 h3 h4=>exact nE hS (.leaf (by decide) (by decide) (by decide))
 |hostOpen h1 h2 h3 h4=>exact nE hS ((hS.its _ h3).out h2)
theorem L2 {p:Pol} (hp:p.types.length≤8) (hr:p.rules=[]) (hx:∀ t,kw p t 4=false) (l:List Cl):Sec (mE p sy0 0 l).1:=
 xu hp (Q:=Sec) (fun _ _ _ _ _ h _ hd=>Xv hr hx h hd) l sy0 0 JV ⟨rfl,fun _ h=>(by cases h),fun _ h=>(by cases h)⟩
theorem abu {s:Sy} (hS:SyOk s) (h:Sec s):∀ o∈s.os,knS s o.va=false:=fun o ho=>by
 obtain⟨n,hn⟩:=h.os o ho
 cases hk:knS s o.va with
 |false=>rfl
 |true=>
  rw[hn] at hk
  exact absurd rfl (TM h.its ((tB fun t ht=>(hS.iv t ht).1).1 hk).key rfl).ne2
inductive Good (O I:List Tm):Tm→Prop
 |leaf {k n:Int} {l:List Tm}:k≠3→k≠4→Good O I (.mk k n l)
 |sealO {n:Int} {a b:Tm}:b∈O→Good O I (.mk 3 n [a,b])
 |sealK {n:Int} {a b:Tm}:Kn I true b→Good O I b→Good O I (.mk 3 n [a,b])
 |boxO {n:Int} {a b:Tm}:ej b=true→b∈O→Good O I (.mk 4 n [a,b])
 |boxK {n:Int} {a b:Tm}:ej b=true→Kn I true b→Good O I b→Good O I (.mk 4 n [a,b])
theorem Good.mono {O I O' I':List Tm} (hO:∀ t∈O,t∈O') (hI:∀ t∈I,t∈I') {t:Tm} (h:Good O I t):Good O' I' t:=by
 induction h with
 |leaf h1 h2=>exact .leaf h1 h2
 |sealO h=>exact .sealO (hO _ h)
 |sealK h _ ih=>exact .sealK (h.mono hI) ih
 |boxO h h1=>exact .boxO h (hO _ h1)
 |boxK h h1 _ ih=>exact .boxK h (h1.mono hI) ih
theorem Good.key {O I:List Tm} {t:Tm} (h:ej t=true):Good O I t:=by
 obtain⟨k,n,l⟩:=t
 simp only[ej,Tm.kind,aG] at h
 exact .leaf (fj h.1) (fj h.2)
theorem Good.out {O I:List Tm} {k n:Int} {a b:Tm} (hk:k=3∨k=4) (h:Good O I (.mk k n [a,b])):b∈O∨(Kn I true b∧Good O I b):=by
 cases h with
 |leaf h1 h2=>omega
 |sealO h=>exact .inl h
 |sealK h h1=>exact .inr ⟨h,h1⟩
 |boxO _ h=>exact .inl h
 |boxK _ h h1=>exact .inr ⟨h,h1⟩
theorem Good.boxKey {O I:List Tm} {n:Int} {a b:Tm} (h:Good O I (.mk 4 n [a,b])):ej b=true:=by
 cases h with
 |leaf h1 h2=>omega
 |boxO h _=>exact h
 |boxK h _ _=>exact h
abbrev om (s:Sy):List Tm:=s.os.map (·.va)
structure Bm (s:Sy):Prop where
 hs:∀ h∈s.hs,ej h.va=true∧(Kn s.its true h.va∨h.va∈om s)
 its:∀ t∈s.its,Good (om s) s.its t
 nd:(om s).Nodup
 keys:∀ n l,.mk 2 n l∈om s→n<s.fresh
theorem jZ {s:Sy} {v:Tm} (h:Bm s) (hv:Good (om s) s.its v):Bm (gvS s v):=by
 have hI:∀ t∈s.its,t∈s.its++[v]:=fun t ht=>ee _ ht
 exact {
  hs:=fun x hx=>⟨(h.hs x hx).1,(h.hs x hx).2.imp (fun h=>h.mono hI) id⟩
  its:=fun t ht=>by
   rcases aY.1 ht with h1 | h1
   ·exact(h.its t h1).mono (fun _ h=>h) hI
   ·rw[aN] at h1;subst h1;exact hv.mono (fun _ h=>h) hI
  nd:=h.nd
  keys:=h.keys }
theorem wj {s:Sy} {t:Int} {v:Tm} (h:Bm s) (hk:ej v=true) (hv:Kn s.its true v∨v∈om s):Bm (hoS s t v):=
 {
  hs:=fun x hx=>by
   rcases aY.1 hx with h1 | h1
   ·exact h.hs x h1
   ·rw[aN] at h1;subst h1;exact⟨hk,hv⟩
  its:=h.its
  nd:=h.nd
  keys:=h.keys }
theorem CB {s:Sy} {t:Int} {v:Tm} {f:Int} (h:Bm s) (hk:ej v=true) (hv:v∉om s) (hf:s.fresh≤f) (hn:∀ n l,v=.mk 2 n l→n<f):Bm { mkM (hoS s t v) t v with fresh:=f }:=by
 have hO:∀ x∈om s,x∈(s.os++[(⟨t,v⟩:Hd)]).map (·.va):=fun x hx=>by rw[dG];exact ee _ hx
 have hvn:v∈(s.os++[(⟨t,v⟩:Hd)]).map (·.va):=by rw[dG];exact List.mem_append_right _ (by simp)
 exact {
  hs:=fun x hx=>by
   rcases aY.1 hx with h1 | h1
   ·exact⟨(h.hs x h1).1,(h.hs x h1).2.imp id (hO _)⟩
   ·rw[aN] at h1;subst h1;exact⟨hk,.inr hvn⟩
  its:=fun t ht=>(h.its t ht).mono hO fun _ h=>h
  nd:=by
   show((s.os++[(⟨t,v⟩:Hd)]).map (·.va)).Nodup
   rw[dG,List.nodup_append]
   exact⟨h.nd,by simp,fun a ha b hb e=>by simp at hb;subst hb;subst e;exact hv ha⟩
  keys:=fun n l hm=>by
   have hm:Tm.mk 2 n l∈(s.os++[(⟨t,v⟩:Hd)]).map (·.va):=hm
   rw[dG] at hm
   rcases aY.1 hm with h1 | h1
   ·exact Int.lt_of_lt_of_le (h.keys n l h1) hf
   ·simp at h1;exact hn n l h1.symm }
theorem L6 {s:Sy} (hS:SyOk s) {t:Tm}:orS s t<0↔t∉om s:=by
 unfold orS
 split
 ·rename_i o ho
  have h1:=List.find?_some ho
  simp only[bi] at h1
  have h2:=List.mem_of_find?_eq_some ho
  have h3:=(hS.hv o (hS.ov o h2)).2.2.1
  constructor
  ·intro h;omega
  ·intro h;exact absurd (bu.2 ⟨o,h2,h1⟩) h
 ·rename_i ho
  rw[List.find?_eq_none] at ho
  constructor
  ·intro _ hm
   obtain⟨o,h1,h2⟩:=bu.1 hm
   exact ho o h1 (by simpa using h2)
  ·intro _;decide
theorem TN {p:Pol} {s s':Sy} {c:Cl} {n:Nat} (hS:SyOk s) (h:Bm s) (hd:Did p s c n s'):Bm s':=by
 have rh:∀ v∈om s,ej v=true:=fun v hv=>by
  obtain⟨o,h1,rfl⟩:=bu.1 hv
  exact(h.hs o (hS.ov o h1)).1
 have cont:∀ {k n:Int} {a b:Tm},k=3∨k=4→.mk k n [a,b]∈s.its→(b∈om s∨Kn s.its true b)∧Good (om s) s.its b:=fun hk hm=>by
  rcases(h.its _ hm).out hk with h1 | h1
  ·exact⟨.inl h1,.key (rh _ h1)⟩
  ·exact⟨.inr h1.1,h1.2⟩
 have sw:∀ {A B:Prop},A∨B→B∨A:=fun h=>h.symm
 have sl:∀ {a b:Tm},(Kn s.its true b∨b∈om s)→Good (om s) s.its b→Good (om s) s.its (im a b):=fun h1 h2=>h1.elim (fun h1=>.sealK h1 h2) .sealO
 have bx:∀ {n:Int} {a b:Tm},ej b=true→(Kn s.its true b∨b∈om s)→Good (om s) s.its (.mk 4 n [a,b]):=fun h0 h1=>h1.elim (fun h1=>.boxK h0 h1 (.key h0)) (.boxO h0)
 have itm:∀ {x:Tm},x∈s.its→Kn s.its true x:=fun h=>.of (.item h)
 have k5:∀ {n:Int} {l:List Tm},ej (.mk 5 n l)=true:=rfl
 cases hd with
 |gen h1 h2 h3=>exact CB h rfl (fun hm=>by have:=h.keys _ _ hm;omega) (by omega) (fun n l e=>by cases e;omega)
 |load h1 h2 h3 h4=>exact wj h h3 (.inl (itm h1))
 |expo h1 h2 h3=>exact jZ h (.key (h.hs _ h1).1)
 |encrypt h1 h2 h3=>exact jZ h (sl (.inl (itm h2)) (h.its _ h2))
 |decrypt h1 h2 h3=>exact jZ h (cont (.inl rfl) h2).2
 |mac h1 h2 h3=>exact jZ h (.leaf (by decide) (by decide))
 |wrap h1 h2 h3 h4=>exact jZ h (bx (h.hs _ h2).1 (h.hs _ h2).2)
 |unwrap h1 h2 h3 h4=>exact wj h (h.its _ h2).boxKey (sw (cont (.inr rfl) h2).1)
 |rawWrap h1 h2 h3 h4=>exact jZ h (sl (h.hs _ h2).2 (.key (h.hs _ h2).1))
 |rawUnwrap h1 h2 h3 h4 h5 h6=>
  have h7:=wj (t:=c.t) h h5 (sw (cont (.inl rfl) h2).1)
  split
  ·exact h7
  ·exact { hs:=h7.hs,its:=h7.its,nd:=h7.nd,keys:=h7.keys }
 |@derive a h1 h2 h3 h4=>
  split
  ·rename_i hc
   exact CB h k5 ((L6 hS).1 hc.2) (Int.le_refl _) (fun n l e=>by cases e)
  ·rename_i hc
   refine wj h k5 ?_
   by_cases hk:knS s a.va=true
   ·left
    have:=(tB fun t ht=>(hS.iv t ht).1).1 hk
    exact .make (by decide) fun t ht=>by rw[aN] at ht;subst ht;exact this
   ·right
    have hk:knS s a.va=false:=by simpa using hk
    by_cases hv:(.mk 5 c.t [a.va])∈om s
    ·exact hv
    ·exact absurd ⟨hk,(L6 hS).2 hv⟩ hc
 |data h1 h2=>exact jZ h (.leaf (by decide) (by decide))
 |hostSeal h1 h2 h3 h4=>exact jZ h (sl (.inl (itm h2)) (h.its _ h2))
 |hostBox h1 h2 h3 h4 h5 h6=>exact jZ h (bx h5 (.inl (itm h2)))
 |hostKdf h1 h2 h3 h4=>exact jZ h (.leaf (by decide) (by decide))
 |hostOpen h1 h2 h3 h4=>exact jZ h (cont h2 h3).2
theorem TO {p:Pol} (hp:p.types.length≤8) (l:List Cl):Bm (mE p sy0 0 l).1:=
 xu hp (Q:=Bm) (fun _ _ _ _ hS h _ hd=>TN hS h hd) l sy0 0 JV ⟨fun _ h=>(by cases h),fun _ h=>(by cases h),g8,fun _ _ h=>(by cases h)⟩
structure Beg (a b:Sy):Prop where
 hs:a.hs <+: b.hs
 its:a.its <+: b.its
 os:a.os <+: b.os
 rs:a.rs <+: b.rs
 fr:a.fresh≤b.fresh
 one:b.hs.length+b.its.length=a.hs.length+a.its.length+1
def wl (s:Sy) (k n:Int):Bool:=decide ((⟨k,n,0⟩:Fa)∈pf s)
theorem tI {s:Sy} {f:Fa}:f∈pf s↔(∃ h∈s.hs,nP s h=f)∨(∃ t∈d4 s.its,f∈lw s t)∨∃ o∈s.os,f∈mf s o:=by
 unfold pf
 rw[HK]
 unfold EP
 rw[aY,aY,bu,List.mem_flatMap,List.mem_flatMap]
theorem CC {s:Sy} {t:Tm} {f:Fa} (h:f∈lw s t):f.kind=2:=by
 unfold lw at h
 split at h
 ·rw[aN] at h;rw[h]
 ·cases h
theorem Xw {s:Sy} {n:Int}:wl s 3 n=s.os.any fun o=>decide (o.ty+1=n)&&knS s o.va:=by
 unfold wl
 rw[jm,decide_eq_true_iff,tI,dp]
 constructor
 ·rintro(⟨h,_,e⟩ | ⟨t,_,e⟩ | ⟨o,ho,e⟩)
  ·have:=jz Fa.kind e;simp[nP] at this
  ·have:=CC e;simp at this
  ·refine⟨o,ho,?_⟩
   unfold mf at e
   rcases aY.1 e with e | e
   ·split at e
    ·rename_i hk
     rw[aN,Fa.mk.injEq] at e
     simp[hk,e.2.1]
    ·cases e
   ·split at e
    ·rw[aN,Fa.mk.injEq] at e;omega
    ·cases e
 ·rintro⟨o,ho,e⟩
  simp only[aG,bi] at e
  refine .inr (.inr ⟨o,ho,?_⟩)
  unfold mf
  rw[if_pos e.2,e.1];simp
theorem Xx {s:Sy} (h:s.rs=[]) (n:Int):wl s 4 n=false:=by
 unfold wl
 rw[cm,tI]
 rintro(⟨h,_,e⟩ | ⟨t,_,e⟩ | ⟨o,ho,e⟩)
 ·have:=jz Fa.kind e;simp[nP] at this
 ·have:=CC e;simp at this
 ·unfold mf at e
  rw[h] at e
  rcases aY.1 e with e | e
  ·split at e
   ·rw[aN,Fa.mk.injEq] at e;omega
   ·cases e
  ·simp at e
theorem tJ {s:Sy} (hS:SyOk s) (h:Sec s) (n:Int):wl s 3 n=false∧wl s 4 n=false:=by
 refine⟨?_,Xx h.rs n⟩
 rw[Xw,List.any_eq_false]
 intro o ho
 simp[abu hS h o ho]
def OM (f:Int):Int:=bits .andNot .i64 f 4
theorem TP (f:Int):JU 4 (OM f)=false:=by
 unfold JU OM
 rw[cm,pM,pM]
 intro h
 have h0:BitVec.ofInt 64 4 &&&~~~BitVec.ofInt 64 ((BitVec.ofInt 64 f &&&~~~BitVec.ofInt 64 4).toInt)=0:=BitVec.eq_of_toInt_eq (by rw[h];rfl)
 rw[BitVec.ofInt_toInt] at h0
 have:=jz (fun z=>z.getLsbD 2) h0
 simp at this
theorem TQ {a b f:Int} (pT:BitVec.ofInt 64 a &&&BitVec.ofInt 64 b=BitVec.ofInt 64 b) (h:JU a f=true):JU b f=true:=by
 unfold JU at *
 rw[bi,pM] at *
 have h0:BitVec.ofInt 64 a &&&~~~BitVec.ofInt 64 f=0:=BitVec.eq_of_toInt_eq (by rw[h];rfl)
 rw[← pT,BitVec.and_comm (BitVec.ofInt 64 a),BitVec.and_assoc,h0]
 simp
theorem HN {p:Pol} {t a b:Int} (pT:BitVec.ofInt 64 a &&&BitVec.ofInt 64 b=BitVec.ofInt 64 b) (h:kw p t a=true):kw p t b=true:=by
 unfold kw at *
 split at h
 ·exact TQ pT h
 ·cases h
theorem TR {p:Pol} {t f:Int} (h:kw p t f=true):inI t p.types.length=true:=by
 unfold kw at h
 rw[Tk]
 cases hx:vY p.types t with
 |none=>rw[hx] at h;cases h
 |some x=>rfl
def clL (a b:Int):List Cl:=[⟨1,0,0,0,a⟩,⟨1,0,0,0,b⟩,⟨9,0,1,0,0⟩,⟨5,0,0,0,0⟩]
def clK (n:Int):Tm:=.mk 2 n []
def EQ (a b:Int):Sy:=⟨[⟨a,clK 0⟩,⟨b,clK 1⟩],[im (clK 0) (clK 1)],[⟨a,clK 0⟩,⟨b,clK 1⟩],[],2⟩
def HO (a b:Int):Sy:=⟨[⟨a,clK 0⟩,⟨b,clK 1⟩],[im (clK 0) (clK 1),clK 1],[⟨a,clK 0⟩,⟨b,clK 1⟩],[],2⟩
theorem wm {p:Pol} {s s':Sy} {c:Cl} {k:Nat} (hv:Kp.gQ p=true) (hk:inI (c.kind - 1) 16=true) (hn:c.kind.toNat=k) (h:doM p s c k=.ok s'):bN p s c=.ok s':=by
 unfold bN er
 rw[hv,hk,hn,h];rfl
theorem abv {p:Pol} {a b:Int} (hv:Kp.gQ p=true) (ha:kw p a 17=true) (hb:kw p b 1=true) (hr:oh p 3 a b=true) :
 mE p sy0 0 ((clL a b).take 3)=(EQ a b,3,0)∧mE p sy0 0 (clL a b)=(HO a b,4,0):=by
 have ha1:kw p a 1=true:=HN (by decide) ha
 have ah0:kw p a 16=true:=HN (by decide) ha
 have hia:=TR ha
 have sR:=TR hb
 have e1:bN p sy0 ⟨1,0,0,0,a⟩=.ok ⟨[⟨a,clK 0⟩],[],[⟨a,clK 0⟩],[],1⟩:=wm (k:=1) hv rfl rfl (by simp only[doM,o7,hia,ha1,er,cJ];rfl)
 have e2:bN p ⟨[⟨a,clK 0⟩],[],[⟨a,clK 0⟩],[],1⟩ ⟨1,0,0,0,b⟩=.ok ⟨[⟨a,clK 0⟩,⟨b,clK 1⟩],[],[⟨a,clK 0⟩,⟨b,clK 1⟩],[],2⟩:=wm (k:=1) hv rfl rfl (by simp only[doM,o7,sR,hb,er,cJ];rfl)
 have e3:bN p ⟨[⟨a,clK 0⟩,⟨b,clK 1⟩],[],[⟨a,clK 0⟩,⟨b,clK 1⟩],[],2⟩ ⟨9,0,1,0,0⟩=.ok (EQ a b):=wm (k:=9) hv rfl rfl (by
  have h0:ofI [(⟨a,clK 0⟩:Hd),⟨b,clK 1⟩] 0=.ok ⟨a,clK 0⟩:=rfl
  have h1:ofI [(⟨a,clK 0⟩:Hd),⟨b,clK 1⟩] 1=.ok ⟨b,clK 1⟩:=rfl
  simp only[doM,okb,h0,h1,hr,er,cJ];rfl)
 have e4:bN p (EQ a b) ⟨5,0,0,0,0⟩=.ok (HO a b):=wm (k:=5) hv rfl rfl (by
  have h0:ofI (EQ a b).hs 0=.ok ⟨a,clK 0⟩:=rfl
  have h1:ofI (EQ a b).its 0=.ok (im (clK 0) (clK 1)):=rfl
  have h2:iS (im (clK 0) (clK 1)) (clK 0) [3]=.ok (clK 1):=rfl
  simp only[doM,okb,h0,h1,h2,ah0,er,cJ];rfl)
 constructor
 ·simp only[clL,List.take,mE,e1,e2,e3]
 ·simp only[clL,mE,e1,e2,e3,e4]
theorem Yu {b:Bool} {t:Tm} (h:Kn [im (clK 0) (clK 1)] b t):(b=false→t=im (clK 0) (clK 1))∧∀ n,t≠clK n:=by
 induction h with
 |item h=>rw[aN] at h;subst h;exact⟨fun _=>rfl,fun n e=>(by cases e)⟩
 |opn _ hk _ i1 i2=>
  have:=i1.1 rfl
  unfold im at this
  cases this
  exact absurd rfl (i2.2 0)
 |of _ ih=>exact⟨fun h=>(by cases h),ih.2⟩
 |data=>exact⟨fun h=>(by cases h),fun n e=>by cases e⟩
 |make h _ _=>exact⟨fun h=>(by cases h),fun n e=>by cases e;exact h rfl⟩
