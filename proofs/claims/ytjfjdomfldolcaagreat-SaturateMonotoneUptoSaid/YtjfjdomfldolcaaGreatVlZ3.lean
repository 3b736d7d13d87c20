/- Layer 18: the law SaturateIsClosed, as a contract; the specification's Closed of layer 17. -/
import Derived.Test.YtjfjdomfldolcaaGreatVlZ2
set_option maxHeartbeats 4000000
set_option linter.all false
namespace Go.Proofs.YtjfjdomfldolcaaGreat
open Go Go.Vl
variable {G:Gl}
set_option maxRecDepth 10000
def in0:In:=⟨0,[],[]⟩
theorem afH {l:List Fa} {K:V→Prop}:hJ Tryz.prog 37 (.c (fsC l)) K=K (i64 l.length):=by unfold fsC;rw[Lm,au]
theorem aaz {p:Pol} {nb q:Nat} {K:V→Prop}:ldA nb q ((poC p).map .c) 0 4 K=(q<nb∧K (.agg (poC p))):=by
 unfold ldA
 exact propext ⟨fun h=>⟨h.1,h.2.2⟩,fun h=>⟨h.1,⟨rfl,rfl⟩,h.2⟩⟩
theorem VC {p:Pol}:cy ((poC p).map V.c)=false:=rfl
theorem afI {l:List In}:(owI l).fz=.c (sY l):=rfl
theorem afJ {l:List In}:(owI l).isOw=true:=rfl
def pkU:=jj @pkM (jj @abM (jj @afH (jj @UY (jj @aaz (jj @Nl (jj @VC (jj @afI @afJ)))))))
theorem NB (p:Pol) (hn:p.types.length≤1000) (hr:p.rules.length≤1000) (cg:(gp p none).length≤20000):FnOK Tryz.prog G 21 [.agg (poC p)] (.c (sY (gp p none))):=IV p hn hr cg
theorem VD {d e:V} {c u:Tmp} {T:TypeId} {fr:Nat→V} {bx:Nat→List V} {nb:Nat} (h1:Ot Tryz.prog ⟨fr,bx,nb⟩ (.cell c T) fun v=>v.fz=d) (h2:(fr u).fz=e):tR Tryz.prog false ⟨fr,bx,nb⟩ (.tup [d,e]) [.cell c T,.tmp u]:=by
 refine⟨_,rfl,rfl,fun i R x hR hx=>?_⟩
 match i with
 |0=>simp only[cw,ao] at hR hx;subst hR;subst hx;exact h1
 |1=>simp only[dp,cw,ao] at hR hx;subst hR;subst hx;exact h2
 |n+2=>simp at hR
theorem abP {b:Nat} {fr:Nat→V} {bx:Nat→List V} {x:In} {e:Bool} {c u nb:Nat} (h1:fr c=.bp b 0) (hb:b<nb) (h2:bx b=(inC x).map .c) (h3:(fr u).fz=bo e):tR Tryz.prog false ⟨fr,bx,nb⟩ (.tup [.agg (inC x),bo e]) [.cell c 41,.tmp u]:=by
 refine VD ?_ h3
 show dh Tryz.prog 41 ⟨fr,bx,nb⟩ (fr c) _
 rw[h1,wF kA rfl rfl,h2]
 exact⟨Nm,by rw[show ldA nb b ((inC x).map .c) 0 3 _=_ from U0];exact⟨hb,rfl⟩⟩
def yu (l:List Fa) (x:In):Bool:=(x.pre.all fun f=>decide (f∈l))&&!(x.con.all fun f=>decide (f∈l))
def pf (l:List Fa) (m:List In):In×Bool:=match m.find? (yu l) with
 |none=>(in0,true)
 |some x=>(x,false)
def NC:=jj @pkA (jj @ptA @pkU)
theorem L5 (p:Pol) (l:List Fa) (hn:p.types.length≤1000) (hr:p.rules.length≤1000) (cg:(gp p none).length≤20000) (JK:nG (gp p none)) (Mo:l.length≤1000000) :
 FnOK Tryz.prog G 20 [.agg (poC p),.c (fsC l)] (.tup [.agg (inC (pf l (gp p none)).1),bo (pf l (gp p none)).2]):=by
 refine cL (rs:=[.cell 4 41,.tmp 5]) false [] mixed Tryz.func20 rfl rfl rfl rfl (by kernel_rfl) (by simp) rfl rfl ?_
 simp only[NC,seval]
 refine aB rfl (NB p hn hr cg) (fun h=>by cases h) ?_
 simp only[pkA,seval]
 generalize gp p none=m at cg JK
 have amg:∀ x∈m,x.pre.length≤1000000000∧x.con.length≤1000000000:=fun x hx=>by have:=JK x hx;omega
 refine bE (fun i:Nat=>hdS [(1,.c (fsC l)),(4,.bp 1 0),(6,.c (sY m)),(7,i64 i)] [(poC p).map .c,[i64 0,.ow none [],.ow none []]]) (fun i=>m.length - i) (fun i=>i≤m.length∧∀ x∈m.take i,yu l x=false) 0 ⟨ar _,by simp⟩ ?_ ?_
 ·exact cD rfl (ar _) (ab _) (by simp[FL,ak]) (by simp[BL,ak])
 rintro i ⟨hi,ht⟩ R cj cJ eP
 simp only[pkA,pkU,seval]
 refine aT (fun bK=>?_) (fun gr=>?_)
 ·have bK:i<m.length:=by simpa using bK
  have hw:=bG (n:=(i:Int)+1) (k:=i+1) (by omega) (by omega)
  obtain⟨hb1,hb2⟩:=amg m[i] (bL bK)
  simp only[pkA,seval]
  refine dR mP rfl kA (by decide) (aA i) (c:=inC m[i]) (by simp[bK]) rfl ?_
  simp only[NC,seval]
  refine aB rfl (UZ l m[i].pre (by omega) hb1) (fun _=>rfl) ?_
  simp only[pkA,seval]
  refine dR mP rfl kA (by decide) (aA i) (c:=inC m[i]) (by simp[bK]) rfl ?_
  simp only[NC,seval]
  refine aB rfl (UZ l m[i].con (by omega) hb2) (fun _=>rfl) ?_
  have stay:yu l m[i]=false→∀ x∈m.take (i+1),yu l x=false:=fun h x hx=>by
   rw[aC bK,aV,a7] at hx
   rcases hx with hx | rfl
   ·exact ht x hx
   ·exact h
  have hg:yu l m[i]=((m[i].pre.all fun f=>decide (f∈l))&&!(m[i].con.all fun f=>decide (f∈l))):=rfl
  cases h1:(m[i].pre.all fun f=>decide (f∈l))
  ·simp only[pkA,seval,hw]
   exact cj (i+1) _ ⟨bK,stay (by rw[hg,h1];rfl)⟩ (by omega) (cD rfl (ar _) (ab _) (by simp[FL,ak]) (by simp[BL,bxs]))
  ·cases h2:(m[i].con.all fun f=>decide (f∈l))
   ·simp only[pkA,seval]
    refine dR mP rfl kA (by decide) (aA i) (c:=inC m[i]) (by simp[bK]) rfl ?_
    simp only[NC,seval]
    have hs:∀ a b c:V,fj [a,b,c] 0 ((inC m[i]).map .c)=(inC m[i]).map .c:=fun _ _ _=>rfl
    have hf:pf l m=(m[i],false):=by
     have:m.find? (yu l)=some m[i]:=by
      rw[List.find?_eq_some_iff_getElem]
      refine⟨by rw[hg,h1,h2];rfl,i,bK,rfl,fun j hj=>?_⟩
      have:=ht m[j] (ia.2 ⟨j,by omega,rfl⟩)
      simp[this]
     unfold pf;rw[this]
    refine eP _ ?_
    simp only[pkA,hs,hf]
    exact abP rfl (show 1<2 by decide) (by simp[]) rfl
   ·simp only[pkA,seval,hw]
    exact cj (i+1) _ ⟨bK,stay (by rw[hg,h1,h2];rfl)⟩ (by omega) (cD rfl (ar _) (ab _) (by simp[FL,ak]) (by simp[BL,bxs]))
 ·have:i=m.length:=by simp at gr;omega
  subst this
  rw[bD] at ht
  have hf:pf l m=(in0,true):=by
   have:m.find? (yu l)=none:=js.2 fun x hx=>by simp[ht x hx]
   unfold pf;rw[this]
  simp only[pkA]
  refine cJ _ _ ?_
  simp only[pkA,ptA,seval]
  rw[hf]
  have hs:∀ a b c:V,fj [a,b,c] 0 ([C.lit (Value.int IntKind.i64 0),.sl [],.sl []].map V.c)=(inC in0).map .c:=fun _ _ _=>rfl
  simp only[]
  exact abP rfl (show 1<2 by decide) (by simp[];rfl) rfl
theorem L6 (L:List In):∀ x∈L,(∀ g∈x.pre,g∈aL (vI L))→∀ c∈x.con,c∈aL (vI L):=by
 have key:∀ (n:Nat) (num:Int) (now:List Wt) (W:List Wy) (old:In→Bool),now=((L.zipIdx.filter fun q=>rdy (aL W) q.1&&!old q.1).map fun q=>⟨q.1,(q.2:Nat),0⟩)→
  (∀ x∈L,old x=true→∀ c∈x.con,c∈aL W)→unr L (aL W)+(if now=[] then 0 else 1)<n→∀ x∈L,rdy (aL (pX L n num now W)) x=true→∀ c∈x.con,c∈aL (pX L n num now W):=by
  intro n
  induction n with
  |zero=>intro num now W old _ _ h;exact absurd h (fL _)
  |succ n ih=>
   intro num now W old ub nN JQ x hx hr c hc
   unfold pX at hr ⊢
   by_cases h0:now=[]
   ·rw[if_pos h0] at hr ⊢
    cases ho:old x
    ·exfalso
     obtain⟨i,hi⟩:=da.1 hx
     have:(⟨x,(i:Nat),0⟩:Wt)∈now:=by
      rw[ub]
      exact bj.2 ⟨(x,i),cH.2 ⟨eJ.2 hi,by simp[hr,ho]⟩,rfl⟩
     rw[h0] at this;cases this
    ·exact nN x hx ho c hc
   ·rw[if_neg h0] at hr ⊢ JQ
    have fc:∀ g∈aL W,g∈aL (iD num W now):=fun g hg=>(lQ _ _).2 (.inl hg)
    have jI:=yd (L:=L) fc
    refine ih (num+1) _ (iD num W now) (rdy (aL W)) rfl (fun y hy hry d hd=>?_) ?_ x hx hr c hc
    ·cases ho:old y
     ·refine (lQ _ _).2 (.inr ?_)
      obtain⟨i,hi⟩:=da.1 hy
      refine⟨⟨y,(i:Nat),0⟩,?_,hd⟩
      rw[ub]
      exact bj.2 ⟨(y,i),cH.2 ⟨eJ.2 hi,by simp[hry,ho]⟩,rfl⟩
     ·exact fc d (nN y hy ho d hd)
    ·show unr L (aL (iD num W now))+(if sU L (aL W) (aL (iD num W now))=[] then 0 else 1)<n
     split
     ·rename_i h;rw[h] at jI;simp only[aU] at jI;omega
     ·rename_i h
      have:0<(sU L (aL W) (aL (iD num W now))).length:=fx.2 h
      omega
 intro x hx uU c hc
 refine key (L.length+2) 1 (que L) [] (fun _=>false) ?_ (fun _ _ h=>by cases h) ?_ x hx (wU.2 uU) c hc
 ·unfold que
  have e:(fun q:In×Nat=>q.1.pre.isEmpty)=fun q=>rdy (aL []) q.1&&!false:=by
   funext q
   have:rdy (aL []) q.1=q.1.pre.isEmpty:=by
    unfold rdy aL
    cases q.1.pre<;>simp
   rw[this];simp
  rw[e]
 ·have:=@B3 L (aL [])
  split<;>omega
theorem wW {p:Pol} {f:Fa}:f∈dP p↔f∈aL (fg p):=oq
theorem VF (p:Pol):(pf (dP p) (gp p none)).2=true:=by
 unfold pf
 have:(gp p none).find? (yu (dP p))=none:=by
  rw[js]
  intro x hx h
  unfold yu at h
  rw[aS,ba] at h
  have h1:∀ g∈x.pre,g∈aL (fg p):=fun g hg=>wW.1 (bX (h.1 g hg))
  have h2:=L6 (gp p none) x hx h1
  have h3:(x.con.all fun f=>decide (f∈dP p))=true:=by
   rw[ba];exact fun c hc=>cu (wW.2 (h2 c hc))
  rw[h3] at h
  exact absurd h.2 (by decide)
 rw[this]
theorem Cp {p:Pol} (h:PolS p):(dP p).length≤40000:=by
 unfold dP aL
 rw[au,jU];exact h.sat
def VG:=jj @pkA (jj @ptA (jj @pkI @gj))
def ND:=jj @pkA @gj
theorem Gt (p:Pol):FnOK Tryz.prog G 4 [.agg (poC p)] (bo true):=by
 refine cL (rs:=[.tmp 2]) false [] mixed Tryz.func4 rfl rfl rfl rfl (by kernel_rfl) (by simp) rfl rfl ?_
 simp only[VG,seval]
 refine aB rfl (qg p) (fun _=>rfl) ?_
 cases hs:(decide ((p.types.length:Int)≤4)&&decide ((p.rules.length:Int)≤8))
 ·simp only[ND,seval]
  refine aB rfl jH (fun _=>rfl) ?_
  simp only[ND,seval]
 ·have hs:(p.types.length:Int)≤4∧(p.rules.length:Int)≤8:=by simpa using hs
  have hp:PolS p:=⟨by omega,by omega⟩
  have kP:=Cp hp
  have hln:=hp.len
  have hC:=L5 (G:=G) p (dP p) (by omega) (by omega) hln l0 (by omega)
  rw[VF] at hC
  generalize (pf (dP p) (gp p none)).1=y at hC
  simp only[VG,seval]
  refine aB rfl (yj hp) (fun h=>by cases h) ?_
  simp only[ND,seval]
  refine aB rfl hC (fun h=>by cases h) ?_
  have q1:∀ a b c:V,fj [a,b,c] 0 ((inC y).map .c)=(inC y).map .c:=fun _ _ _=>rfl
  simp only[VG,seval,q1]
  refine aB rfl jH (fun _=>rfl) ?_
  simp only[ND,seval]
