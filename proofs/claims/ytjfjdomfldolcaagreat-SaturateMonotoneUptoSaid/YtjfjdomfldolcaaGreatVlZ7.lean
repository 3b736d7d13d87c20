/- Layer 18: what the second form's statement needs: how long the lists are that come in. -/
import Derived.Test.YtjfjdomfldolcaaGreatVlA1
import Derived.JoinedCond
import Derived.Deep.DeepHandedRow
import Derived.Test.YtjfjdomfldolcaaGreatVlLaw
import Derived.Test.YtjfjdomfldolcaaGreatVlZ6
set_option linter.all false
namespace Go.Proofs.YtjfjdomfldolcaaGreat
open Go Go.Vl Go.RowKit Go.ChangeShapes
set_option maxRecDepth 100000
theorem Jx {H:Type} (d:DataW H):1≤Rows.uptoBulk d:=by
 cases d with
 |lit l=>cases l<;>simp[Rows.uptoBulk]
 |_=>simp[Rows.uptoBulk]
theorem Cu {H:Type} {d:DataW H}:∀ {ds:List (DataW H)},d∈ds→Rows.uptoBulk d≤Rows.uptoBulkAll ds
 |[],h=>by cases h
 |x::r,h=>by
  simp only[Rows.uptoBulkAll]
  rcases aK.1 h with e | e
  ·subst e;omega
  ·have:=Cu e;omega
theorem Jy {H:Type}:∀ (ds:List (DataW H)),ds.length≤Rows.uptoBulkAll ds
 |[]=>by simp
 |x::r=>by
  have h1:=Jx x
  have h2:=Jy r
  simp only[Rows.uptoBulkAll,aZ];omega
theorem EC {H:Type}:∀ (ds:List (DataW H)) (l:List (List C)),rR ds=some l→l.length=ds.length
 |[],l,h=>by simp only[rR,ao] at h;subst h;rfl
 |d::ds,l,h=>by
  simp only[rR] at h
  split at h
  ·rename_i a b ha hb
   simp only[ao] at h;subst h
   simp[EC ds b hb]
  ·cases h
theorem ED {H:Type}:∀ (ds:List (DataW H)) (l:List (List C)),rR ds=some l→∀ a∈l,∃ d∈ds,nf d=some a
 |[],l,h,a,ha=>by simp only[rR,ao] at h;subst h;cases ha
 |d::ds,l,h,a,ha=>by
  simp only[rR] at h
  split at h
  ·rename_i x b hx hb
   simp only[ao] at h;subst h
   rcases aK.1 ha with e | e
   ·subst e;exact⟨d,a8 ..,hx⟩
   ·obtain⟨y,hy,hy2⟩:=ED ds b hb a e
    exact⟨y,aD _ hy,hy2⟩
  ·cases h
theorem yv {H:Type} {es:List (List C)}:∀ (n:Nat) (d:DataW H) (xs:List C),Rows.uptoBulk d≤n→nf d=some xs→C.sl es∈xs→es.length≤Rows.uptoBulk d:=by
 intro n
 induction n with
 |zero=>intro d xs h;have:=Jx d;omega
 |succ n ih=>
  intro d xs hn h hm
  cases d with
  |lit l=>
   cases l<;>simp only[nf,ao,reduceCtorEq] at h<;>subst h<;>simp at hm
  |nil=>
   simp only[nf,ao] at h;subst h
   simp at hm;subst hm;simp
  |slice e sp=>
   simp only[nf] at h
   split at h
   ·rename_i l hl
    simp only[ao] at h;subst h
    simp at hm;subst hm
    have h1:=EC e _ hl
    have h2:=Jy e
    simp only[Rows.uptoBulk];omega
   ·cases h
  |agg ds=>
   simp only[nf] at h
   split at h
   ·rename_i l hl
    simp only[ao] at h;subst h
    obtain⟨a,ha,hma⟩:=List.mem_flatten.1 hm
    obtain⟨d,hd,hda⟩:=ED ds l hl a ha
    have h1:=Cu hd
    simp only[Rows.uptoBulk] at hn ⊢
    have:=ih d a (by omega) hda hma
    omega
   ·cases h
  |_=>simp[nf] at h
theorem A0 {H:Type} {ds:List (DataW H)} {d:DataW H} (hk:Rows.uptoSmall H (ds++[])=true) (hd:d∈ds):Rows.uptoBulk d≤1048576:=by
 have h1:Rows.uptoBulkAll (ds++[])≤1048576:=bX hk
 rw[bq] at h1
 have:=Cu hd
 omega
theorem ta {H:Type} {t:TypeId} {ts:List TypeId} {ds:List (DataW H)} {x:List V} (h:D5 Tryz.prog (t::ts) ds x):∃ d e u v,ds=d::e∧x=u::v∧(∃ n cs,Shp Tryz.prog n t cs∧nf d=some cs∧u=oc Tryz.prog t cs)∧D5 Tryz.prog ts e v:=by
 cases ds with
 |nil=>cases x<;>exact h.elim
 |cons d e=>cases x with
  |nil=>exact h.elim
  |cons u v=>exact⟨d,e,u,v,rfl,rfl,h.1,h.2⟩
theorem P9 {H:Type} {ds:List (DataW H)} {x:List V} (h:D5 Tryz.prog [] ds x):ds=[]∧x=[]:=by
 cases ds with
 |nil=>cases x with
  |nil=>exact⟨rfl,rfl⟩
  |cons=>exact h.elim
 |cons=>cases x<;>exact h.elim
section
variable {H:Type} {d:DataW H} {x:V}
theorem aaA (hb:Rows.uptoBulk d≤1048576) (h:∃ n cs,Shp Tryz.prog n 26 cs∧nf d=some cs∧x=oc Tryz.prog 26 cs):∃ p:Pol,x=.agg (poC p)∧p.types.length≤1048576∧p.rules.length≤1048576:=by
 obtain⟨n,cs,h,h2,rfl⟩:=h
 obtain⟨p,rfl,_⟩:=abp ⟨n,h⟩
 refine⟨p,by unfold oc;rw[Uc,if_pos rfl],?_,?_⟩
 ·have:=yv (es:=p.types.map tyC) _ d _ (ab _) h2 (by simp[poC])
  rw[au] at this;omega
 ·have:=yv (es:=p.rules.map ruC) _ d _ (ab _) h2 (by simp[poC])
  rw[au] at this;omega
theorem aaB:cZ Tryz.prog 22=false:=by kernel_rfl
theorem aaC (hb:Rows.uptoBulk d≤1048576) (h:∃ n cs,Shp Tryz.prog n 22 cs∧nf d=some cs∧x=oc Tryz.prog 22 cs):∃ l:List Ty,x=.c (.sl (l.map tyC))∧l.length≤1048576:=by
 obtain⟨n,cs,h,h2,rfl⟩:=h
 obtain⟨es,e0,_,k⟩:=px Tryz.underlying22 (⟨n,h⟩:vG Tryz.prog 22 cs)
 obtain⟨l,rfl,_⟩:=sP fun x hx=>abm (k x hx)
 subst e0
 refine⟨l,by unfold oc;rw[aaB];rfl,?_⟩
 have:=yv (es:=l.map tyC) _ d _ (ab _) h2 (by simp)
 rw[au] at this;omega
theorem aaD:cZ Tryz.prog 23=false:=by kernel_rfl
theorem aaE (hb:Rows.uptoBulk d≤1048576) (h:∃ n cs,Shp Tryz.prog n 23 cs∧nf d=some cs∧x=oc Tryz.prog 23 cs):∃ l:List Ru,x=.c (.sl (l.map ruC))∧l.length≤1048576:=by
 obtain⟨n,cs,h,h2,rfl⟩:=h
 obtain⟨es,e0,_,k⟩:=px Tryz.underlying23 (⟨n,h⟩:vG Tryz.prog 23 cs)
 obtain⟨l,rfl,_⟩:=sP fun x hx=>abn (k x hx)
 subst e0
 refine⟨l,by unfold oc;rw[aaD];rfl,?_⟩
 have:=yv (es:=l.map ruC) _ d _ (ab _) h2 (by simp)
 rw[au] at this;omega
theorem aaF:cZ Tryz.prog 49=false:=by kernel_rfl
theorem aaG (hb:Rows.uptoBulk d≤1048576) (h:∃ n cs,Shp Tryz.prog n 49 cs∧nf d=some cs∧x=oc Tryz.prog 49 cs):∃ l:List Int,x=.c (.sl (l.map fun f=>[C.lit (.int .u8 f)]))∧l.length≤1048576:=by
 obtain⟨n,cs,h,h2,rfl⟩:=h
 obtain⟨es,e0,_,k⟩:=px Tryz.underlying49 (⟨n,h⟩:vG Tryz.prog 49 cs)
 obtain⟨l,rfl,_⟩:=sP (f:=fun f:Int=>[C.lit (.int .u8 f)]) (ok:=fun _=>True) fun x hx=>by
  obtain⟨m,rfl,_⟩:=MW Tryz.underlying5 (k x hx)
  exact⟨m,rfl,trivial⟩
 subst e0
 refine⟨l,by unfold oc;rw[aaF];rfl,?_⟩
 have:=yv (es:=l.map fun f=>[C.lit (.int .u8 f)]) _ d _ (ab _) h2 (by simp)
 rw[au] at this;omega
end
open Go Go.Vl
set_option maxRecDepth 10000
structure tc (p q:Pol):Prop where
 ty:p.types.length≤q.types.length
 fl:∀ t,t<p.types.length→∀ f,pT p t f=true→pT q t f=true
 ru:∀ r∈p.rules,r∈q.rules
theorem afM {p q:Pol} {x:In} (g:tc p q) (h:x∈t1 p none):x∈t1 q none:=by
 have gt:=g.ty
 obtain⟨t,h0,hh,h1,h⟩:=ig.1 h
 refine ig.2 ⟨t,by omega,g.fl t h0 _ hh,h1,?_⟩
 exact h
theorem afN {p q:Pol} {x:In} (g:tc p q) (h:x∈t2 p none):x∈t2 q none:=by
 have gt:=g.ty
 obtain⟨t,h0,hh,h1,h⟩:=ig.1 h
 refine ig.2 ⟨t,by omega,g.fl t h0 _ hh,h1,?_⟩
 exact h
theorem afO {p q:Pol} {x:In} (g:tc p q) (h:x∈t3 p none):x∈t3 q none:=by
 have gt:=g.ty
 obtain⟨a,b,hr,ha,hb,h1,h⟩:=ga.1 h
 refine ga.2 ⟨a,b,g.ru _ hr,by omega,by omega,h1,?_⟩
 obtain⟨s,Aa,JK,h⟩:=eS.1 h
 exact eS.2 ⟨s,Aa,by omega,h⟩
theorem afP {p q:Pol} {x:In} (g:tc p q) (h:x∈t4 p none):x∈t4 q none:=by
 have gt:=g.ty
 obtain⟨a,b,hr,ha,hb,h1,h⟩:=ga.1 h
 refine ga.2 ⟨a,b,g.ru _ hr,by omega,by omega,h1,?_⟩
 exact h
theorem afQ {p q:Pol} {x:In} (g:tc p q) (h:x∈t5 p none):x∈t5 q none:=by
 have gt:=g.ty
 obtain⟨a,b,hr,ha,hb,h1,h⟩:=ga.1 h
 refine ga.2 ⟨a,b,g.ru _ hr,by omega,by omega,h1,?_⟩
 obtain⟨s,Aa,JK,h⟩:=eS.1 h
 exact eS.2 ⟨s,Aa,by omega,h⟩
theorem afR {p q:Pol} {x:In} (g:tc p q) (h:x∈t6 p none):x∈t6 q none:=by
 have gt:=g.ty
 obtain⟨t,h0,hh,h1,h⟩:=ig.1 h
 refine ig.2 ⟨t,by omega,g.fl t h0 _ hh,h1,?_⟩
 obtain⟨s,Aa,JK,h⟩:=eS.1 h
 exact eS.2 ⟨s,Aa,by omega,h⟩
theorem afS {p q:Pol} {x:In} (g:tc p q) (h:x∈t7 p none):x∈t7 q none:=by
 have gt:=g.ty
 obtain⟨t,h0,hh,h1,h⟩:=ig.1 h
 refine ig.2 ⟨t,by omega,g.fl t h0 _ hh,h1,?_⟩
 obtain⟨s,Aa,JK,h⟩:=eS.1 h
 exact eS.2 ⟨s,Aa,by omega,h⟩
theorem afT {p q:Pol} {x:In} (g:tc p q) (h:x∈t8 p none):x∈t8 q none:=by
 have gt:=g.ty
 obtain⟨a,b,hr,ha,hb,h1,h⟩:=ga.1 h
 refine ga.2 ⟨a,b,g.ru _ hr,by omega,by omega,h1,?_⟩
 obtain⟨v,w,hv,yE,JL,h⟩:=mT.1 h
 exact mT.2 ⟨v,w,by omega,yE,by omega,h⟩
theorem afU {p q:Pol} {x:In} (g:tc p q) (h:x∈t9 p none):x∈t9 q none:=by
 have gt:=g.ty
 obtain⟨t,h0,hh,h1,h⟩:=ig.1 h
 refine ig.2 ⟨t,by omega,g.fl t h0 _ hh,h1,?_⟩
 obtain⟨v,w,hv,yE,JL,h⟩:=mT.1 h
 exact mT.2 ⟨v,w,by omega,yE,by omega,h⟩
theorem aaH {p q:Pol} {x:In} (g:tc p q) (h:x∈t10 p none):x∈t10 q none:=by
 have gt:=g.ty
 obtain⟨a,b,hr,ha,hb,h1,h⟩:=ga.1 h
 refine ga.2 ⟨a,b,g.ru _ hr,by omega,by omega,h1,?_⟩
 obtain⟨v,w,hv,yE,JL,h⟩:=mT.1 h
 exact mT.2 ⟨v,w,by omega,yE,by omega,h⟩
theorem aaI {p q:Pol} {x:In} (g:tc p q) (h:x∈t11 p none):x∈t11 q none:=by
 have gt:=g.ty
 obtain⟨a,b,hr,ha,hb,h1,h⟩:=ga.1 h
 refine ga.2 ⟨a,b,g.ru _ hr,by omega,by omega,h1,?_⟩
 exact h
theorem aaJ {p q:Pol} {x:In} (g:tc p q) (h:x∈t12 p none):x∈t12 q none:=by
 have gt:=g.ty
 obtain⟨a,b,hr,ha,hb,h1,h⟩:=ga.1 h
 refine ga.2 ⟨a,b,g.ru _ hr,by omega,by omega,h1,?_⟩
 obtain⟨s,Aa,JK,h⟩:=eS.1 h
 exact eS.2 ⟨s,Aa,by omega,h⟩
theorem aaK {p q:Pol} {x:In} (g:tc p q) (h:x∈t13 p none):x∈t13 q none:=by
 have gt:=g.ty
 obtain⟨t,h0,hh,h1,h⟩:=ig.1 h
 refine ig.2 ⟨t,by omega,g.fl t h0 _ hh,h1,?_⟩
 obtain⟨s,Aa,JK,h⟩:=eS.1 h
 exact eS.2 ⟨s,Aa,by omega,h⟩
theorem aaL {p q:Pol} {x:In} (g:tc p q) (h:x∈t14 none):x∈t14 none:=by
 exact h
theorem aaM {p q:Pol} {x:In} (g:tc p q) (h:x∈t15 p none):x∈t15 q none:=by
 have gt:=g.ty
 obtain⟨s,Aa,JK,h⟩:=eS.1 h
 exact eS.2 ⟨s,Aa,by omega,h⟩
theorem VM {p q:Pol} {x:In} (g:tc p q) (h:x∈gp p none):x∈gp q none:=by
 rw[Nr] at h ⊢
 rcases h with h | h | h | h | h | h | h | h | h | h | h | h | h | h | h
 ·exact .inl (afM (p:=p) (q:=q) g h)
 ·exact .inr (.inl (afN (p:=p) (q:=q) g h))
 ·exact .inr (.inr (.inl (afO (p:=p) (q:=q) g h)))
 ·exact .inr (.inr (.inr (.inl (afP (p:=p) (q:=q) g h))))
 ·exact .inr (.inr (.inr (.inr (.inl (afQ (p:=p) (q:=q) g h)))))
 ·exact .inr (.inr (.inr (.inr (.inr (.inl (afR (p:=p) (q:=q) g h))))))
 ·exact .inr (.inr (.inr (.inr (.inr (.inr (.inl (afS (p:=p) (q:=q) g h)))))))
 ·exact .inr (.inr (.inr (.inr (.inr (.inr (.inr (.inl (afT (p:=p) (q:=q) g h))))))))
 ·exact .inr (.inr (.inr (.inr (.inr (.inr (.inr (.inr (.inl (afU (p:=p) (q:=q) g h)))))))))
 ·exact .inr (.inr (.inr (.inr (.inr (.inr (.inr (.inr (.inr (.inl (aaH (p:=p) (q:=q) g h))))))))))
 ·exact .inr (.inr (.inr (.inr (.inr (.inr (.inr (.inr (.inr (.inr (.inl (aaI (p:=p) (q:=q) g h)))))))))))
 ·exact .inr (.inr (.inr (.inr (.inr (.inr (.inr (.inr (.inr (.inr (.inr (.inl (aaJ (p:=p) (q:=q) g h))))))))))))
 ·exact .inr (.inr (.inr (.inr (.inr (.inr (.inr (.inr (.inr (.inr (.inr (.inr (.inl (aaK (p:=p) (q:=q) g h)))))))))))))
 ·exact .inr (.inr (.inr (.inr (.inr (.inr (.inr (.inr (.inr (.inr (.inr (.inr (.inr (.inl (aaL (p:=p) (q:=q) g h))))))))))))))
 ·exact .inr (.inr (.inr (.inr (.inr (.inr (.inr (.inr (.inr (.inr (.inr (.inr (.inr (.inr (aaM g h))))))))))))))
theorem L9 {p q:Pol} (g:tc p q):∀ w∈cC p,∃ v∈cC q,v.fact=w.fact∧v.round≤w.round:=by
 have key:∀ (n:Nat) (w:Wy),w.round.toNat≤n→w∈fg p→∃ v∈fg q,v.fact=w.fact∧v.round≤w.round:=by
  intro n
  induction n with
  |zero=>
   intro w hn hw
   have:=(satP_rd (p:=p)).pos w hw
   omega
  |succ n ih=>
   intro w hn hw
   have tV:=(satP_rd (p:=p)).pos w hw
   obtain⟨x,hx,hr,hp,hc⟩:=(qc _).2 w hw
   have uU:∀ y∈x.pre,∃ v∈fg q,v.fact=y∧v.round≤w.round - 1:=fun y hy=>by
    obtain⟨u,hu,he,bK⟩:=(satP_rd (p:=p)).pre w hw y (by rw[hp];exact hy)
    obtain⟨v,hv,he2,jW⟩:=ih u (by omega) hu
    exact⟨v,hv,he2.trans he,by omega⟩
   obtain⟨v,hv,he,hQ⟩:=Cr (gp q none) x (VM g hx) (fun y hy=>by
    obtain⟨v,hv,he,_⟩:=uU y hy
    exact bj.2 ⟨v,hv,he⟩) w.fact hc
   have:=hQ (w.round - 1) (by omega) uU
   exact⟨v,hv,he,by omega⟩
 intro w hw
 obtain⟨v,hv,h⟩:=key _ w (ab _) (least_mem.1 hw)
 exact⟨v,least_mem.2 hv,h⟩
theorem aaN (a b:Int):bits .or .i64 a b=(BitVec.ofInt 64 a |||BitVec.ofInt 64 b).toInt:=wH _
theorem aaO {f a b:Int} (h:Aq f a=true):Aq f (bits .or .i64 a b)=true:=by
 unfold Aq at h ⊢
 rw[fJ,qL] at h ⊢
 rw[aaN,BitVec.ofInt_toInt]
 have h1:BitVec.ofInt 64 f &&&~~~BitVec.ofInt 64 a=0:=jx (by rw[h];rfl)
 have h2:BitVec.ofInt 64 f &&&~~~(BitVec.ofInt 64 a |||BitVec.ofInt 64 b)=0:=by
  apply iK
  intro i hi
  have:=dK (fun z=>z.getLsbD i) h1
  simp at this ⊢
  cases hx:(BitVec.ofInt 64 f).getLsbD i<;>cases hy:(BitVec.ofInt 64 a).getLsbD i<;>simp_all
 rw[h2];rfl
def upT (fs:List Int) (i:Nat) (t:Ty):Ty:=match fs[i]? with
 |some f=>{ t with flags:=bits .or .i64 t.flags (bits .and .i64 f 127) }
 |none=>t
def ma (fs:List Int) (l:List Ty):List Ty:=l.zipIdx.map fun q=>upT fs q.2 q.1
def Jz (p:Pol) (fs:List Int) (ts:List Ty) (rs:List Ru):Pol:={ p with types:=ma fs p.types++ts,rules:=p.rules++rs }
theorem sj {fs:List Int} {l:List Ty}:(ma fs l).length=l.length:=by unfold ma;rw[au,List.length_zipIdx]
theorem Ma (p:Pol) (fs:List Int) (ts:List Ty) (rs:List Ru):tc p (Jz p fs ts rs) where
 ty:=by simp only[Jz,ai,sj];omega
 ru:=fun r hr=>ee _ hr
 fl:=fun t ht f h=>by
  have e:(Jz p fs ts rs).types[t]?=some (upT fs t p.types[t]):=by
   show(ma fs p.types++ts)[t]?=_
   rw[az (by rw[sj];exact ht)]
   unfold ma
   rw[bb,ae (by rw[List.length_zipIdx];exact ht)]
   simp
  unfold pT at h ⊢
  rw[e]
  rw[ae ht] at h
  show Aq f (upT fs t p.types[t]).flags=true
  unfold upT
  cases fs[t]? with
  |none=>exact h
  |some y=>exact aaO h
