/- Layer 18: the rounds, plain. -/
import Derived.Test.YtjfjdomfldolcaaGreatVlX2
set_option linter.all false
namespace Go.Proofs.YtjfjdomfldolcaaGreat
open Go Go.Vl
set_option maxRecDepth 4000
structure Wy where
 fact:Fa
 round:Int
 rule:Int
 pre:List Fa
 deriving DecidableEq
def aL (W:List Wy):List Fa:=W.map (·.fact)
def k9 (num:Int) (x:In) (W:List Wy) (f:Fa):List Wy:=if f∈aL W then W else W++[⟨f,num,x.rule,x.pre⟩]
def tS (num:Int) (W:List Wy) (x:In):List Wy:=x.con.foldl (k9 num x) W
def iD (num:Int) (W:List Wy) (l:List Wt):List Wy:=l.foldl (fun W w=>tS num W w.x) W
def rdy (D:List Fa) (x:In):Bool:=x.pre.all fun f=>decide (f∈D)
def sU (L:List In) (D D':List Fa):List Wt:=(L.zipIdx.filter fun q=>rdy D' q.1&&!rdy D q.1).map fun q=>⟨q.1,(q.2:Nat),0⟩
def pX (L:List In):Nat→Int→List Wt→List Wy→List Wy
 |0,_,_,W=>W
 |n+1,num,now,W=>if now=[] then W else pX L n (num+1) (sU L (aL W) (aL (iD num W now))) (iD num W now)
def vI (L:List In):List Wy:=pX L (L.length+2) 1 (que L) []
theorem nF {V W:List Wy}:aL (V++W)=aL V++aL W:=dj
theorem LF {num:Int} {x:In} {W:List Wy} {f:Fa}:aL (k9 num x W f)=nc (aL W) f:=by
 unfold k9
 by_cases h:f∈aL W
 ·rw[if_pos h,AX h]
 ·rw[if_neg h,x8 h,nF];rfl
theorem qT {num:Int} {x:In}:∀ (l:List Fa) (W:List Wy),aL (l.foldl (k9 num x) W)=l.foldl nc (aL W)
 |[],_=>rfl
 |f::l,W=>by rw[br,br,qT l,LF]
theorem IG:∀ (l m:List Fa),m.Nodup→(l.foldl nc m).Nodup
 |[],_,h=>h
 |f::l,m,h=>by
  rw[br]
  exact IG l _ (BM h)
theorem vq {g:Fa}:∀ (l m:List Fa),g∈l.foldl nc m↔g∈m∨g∈l
 |[],m=>by simp
 |f::l,m=>by rw[br,vq l,H6,aK];grind
theorem AY {num:Int}:∀ (l:List Wt) (W:List Wy),(aL W).Nodup→(aL (iD num W l)).Nodup
 |[],_,h=>h
 |w::l,W,h=>AY l (tS num W w.x) (by unfold tS;rw[qT];exact IG _ _ h)
theorem lQ {num:Int} {g:Fa}:∀ (l:List Wt) (W:List Wy),g∈aL (iD num W l)↔g∈aL W∨∃ w∈l,g∈w.x.con
 |[],W=>by simp[iD]
 |w::l,W=>by
  have:=lQ (num:=num) (g:=g) l (tS num W w.x)
  unfold iD at *
  rw[br,this]
  unfold tS
  rw[qT,vq]
  simp only[aK,exists_eq_or_imp]
  grind
def mkc (D:List Fa) (rest:List Nat) (x:In) (i:Nat):Nat:=(x.pre.filter fun f=>!decide (f∈D)).length+rest.count i
def obK (L:List In) (D:List Fa) (rest:List Nat) (i:Nat):Option Wt:=match L[i]? with
 |some x=>if mkc D rest x i=0 then none else some ⟨x,(i:Nat),(mkc D rest x i:Nat)⟩
 |none=>none
theorem Z3 {L:List In}:obs L=obK L [] []:=by
 funext i
 unfold obs obK
 cases h:L[i]? with
 |none=>rfl
 |some x=>
  have e:mkc [] [] x i=x.pre.length:=by
   unfold mkc
   rw[List.filter_eq_self.2 fun f _=>by simp]
   simp
  simp only[e]
  by_cases h2:x.pre=[]
  ·simp[h2]
  ·simp[h2]
theorem IH {L:List In} {f:Fa} {i:Nat}:(uP (prs L) f).count i=((L[i]?).map fun x=>x.pre.count f).getD 0:=by
 have alY:∀ (M:List In) (k:Nat),(((M.zipIdx k).flatMap fun q=>q.1.pre.map fun f=>(f,q.2)).filter (fun p=>decide (p.1=f)) |>.map (·.2)).count i=if k≤i then((M[i - k]?).map fun x=>x.pre.count f).getD 0 else 0:=by
  intro M
  induction M with
  |nil=>intro k;simp
  |cons x M ih=>
   intro k
   rw[List.zipIdx_cons,fE,fG,dj,List.count_append,ih]
   have e:(((x.pre.map fun f=>(f,k)).filter (fun p=>decide (p.1=f))).map (·.2)).count i=if k=i then x.pre.count f else 0:=by
    induction x.pre with
    |nil=>simp
    |cons g l ih2=>
     rw[bA,cP]
     by_cases hg:g=f
     ·subst hg
      simp only[eU,db,bA,List.count_cons,ih2,kr]
      by_cases hk:k=i<;>simp[hk]
     ·simp only[hg,decide_false,aY,dm,ih2]
      by_cases hk:k=i
      ·simp[hk,hg]
      ·simp[hk]
   simp only[e]
   rcases Nat.lt_trichotomy k i with hk | hk | hk
   ·rw[if_neg (by omega),if_pos (by omega),if_pos (by omega)]
    have:i - k=(i - (k+1))+1:=by omega
    rw[this,dp];simp
   ·subst hk;simp;intro h;omega
   ·rw[if_neg (by omega),if_neg (by omega),if_neg (by omega)]
 have:=alY L 0
 simpa[uP,prs] using this
theorem Eg {D:List Fa} {f:Fa} (hf:f∉D):∀ l:List Fa,(l.filter fun g=>!decide (g∈D)).length=(l.filter fun g=>!decide (g∈D++[f])).length+l.count f
 |[]=>rfl
 |g::l=>by
  have ih:=Eg hf l
  by_cases h:g=f
  ·subst h
   rw[cP,cP]
   simp[hf] at ih ⊢
   omega
  ·by_cases h2:g∈D
   ·rw[cP,cP]
    simp[h2,h] at ih ⊢
    omega
   ·rw[cP,cP]
    simp[h2,h] at ih ⊢
    omega
theorem vr {L:List In} {D:List Fa} {f:Fa} (hf:f∉D) {i:Nat} {x:In} (hx:L[i]?=some x):mkc (D++[f]) (uP (prs L) f) x i=mkc D [] x i:=by
 unfold mkc
 rw[IH,hx,Eg hf x.pre]
 simp
theorem PP {L:List In} {D:List Fa} {f:Fa} (hf:f∉D):obK L (D++[f]) (uP (prs L) f)=obK L D []:=by
 funext i
 unfold obK
 cases h:L[i]? with
 |none=>rfl
 |some x=>simp only[vr hf h]
theorem x9 {D:List Fa} {rest:List Nat} {x:In} {i:Nat}:mkc D (i::rest) x i=mkc D rest x i+1:=by
 unfold mkc;rw[List.count_cons_self];omega
theorem rY {D:List Fa} {rest:List Nat} {x:In} {i j:Nat} (h:j≠i):mkc D (i::rest) x j=mkc D rest x j:=by
 unfold mkc;rw[List.count_cons_of_ne (fun e=>h e.symm)]
theorem ae9 {L:List In} {D:List Fa} {rest:List Nat} {i:Nat} {x:In} (hx:L[i]?=some x):obK L D (i::rest) i=some ⟨x,(i:Nat),(mkc D rest x i+1:Nat)⟩:=by
 unfold obK
 simp only[hx,x9]
 rw[if_neg (by omega)]
theorem UE {L:List In} {D:List Fa} {rest:List Nat} {i:Nat} {x:In} (hx:L[i]?=some x):obK L D rest=upO (obK L D (i::rest)) i (if mkc D rest x i=0 then none else some ⟨x,(i:Nat),(mkc D rest x i:Nat)⟩):=by
 funext j
 unfold obK upO
 by_cases h:j=i
 ·subst h;simp only[hx,db]
 ·simp only[if_neg h]
  cases h2:L[j]? with
  |none=>simp only[]
  |some y=>simp only[rY h]
theorem UF {D:List Fa} {l:List Nat} {k:Nat} {x:In} {i:Nat}:mkc D (l.drop k) x i≤mkc D l x i:=by
 unfold mkc
 have:=(List.drop_sublist k l).count_le i
 omega
theorem Z4 {D:List Fa} {x:In} {i:Nat}:mkc D [] x i≤x.pre.length:=by
 unfold mkc
 have:=ck (fun f=>!decide (f∈D)) x.pre
 simpa using this
theorem Nf {D:List Fa} {x:In} {i:Nat}:mkc D [] x i=0↔rdy D x=true:=by
 unfold mkc rdy
 simp[List.filter_eq_nil_iff]
theorem afa {L:List In} {f:Fa} {i:Nat} (h:i∈uP (prs L) f):∃ x,L[i]?=some x∧f∈x.pre:=by
 have h1:0<(uP (prs L) f).count i:=List.count_pos_iff.2 h
 rw[IH] at h1
 cases hx:L[i]? with
 |none=>rw[hx] at h1;simp at h1
 |some x=>
  rw[hx] at h1
  exact⟨x,rfl,List.count_pos_iff.1 (by simpa using h1)⟩
def NX (L:List In) (D0 D:List Fa) (rest:List Nat) (nx:List Wt):Prop:=nx.Nodup∧∀ w,w∈nx↔∃ (i:Nat) (x:In),L[i]?=some x∧w=⟨x,(i:Nat),0⟩∧rdy D0 x=false∧mkc D rest x i=0
theorem NX.init {L:List In} {D0:List Fa}:NX L D0 D0 [] []:=by
 refine⟨fH,fun w=>⟨fun h=>by simp at h,?_⟩⟩
 rintro⟨i,x,_,_,h1,h2⟩
 rw[Nf,h1] at h2;cases h2
theorem NX.start {L:List In} {D0 D:List Fa} {nx:List Wt} {f:Fa} (h:NX L D0 D [] nx) (hf:f∉D):NX L D0 (D++[f]) (uP (prs L) f) nx:=by
 refine⟨h.1,fun w=>(h.2 w).trans ?_⟩
 constructor
 ·rintro⟨i,x,h1,h2,h3,h4⟩;exact⟨i,x,h1,h2,h3,by rw[vr hf h1];exact h4⟩
 ·rintro⟨i,x,h1,h2,h3,h4⟩;exact⟨i,x,h1,h2,h3,by rw[vr hf h1] at h4;exact h4⟩
theorem NX.keep {L:List In} {D0 D:List Fa} {nx:List Wt} {i:Nat} {rest:List Nat} {x:In} (h:NX L D0 D (i::rest) nx) (hx:L[i]?=some x) (hc:mkc D rest x i≠0):NX L D0 D rest nx:=by
 refine⟨h.1,fun w=>(h.2 w).trans ?_⟩
 constructor
 ·rintro⟨j,y,h1,h2,h3,h4⟩
  refine⟨j,y,h1,h2,h3,?_⟩
  by_cases e:j=i
  ·subst e;rw[x9] at h4;omega
  ·rw[rY e] at h4;exact h4
 ·rintro⟨j,y,h1,h2,h3,h4⟩
  refine⟨j,y,h1,h2,h3,?_⟩
  by_cases e:j=i
  ·subst e;rw[hx] at h1;cases h1;exact absurd h4 hc
  ·rw[rY e];exact h4
theorem NX.push {L:List In} {D0 D:List Fa} {nx:List Wt} {i:Nat} {rest:List Nat} {x:In} (h:NX L D0 D (i::rest) nx) (hx:L[i]?=some x) (h0:rdy D0 x=false) (hc:mkc D rest x i=0):NX L D0 D rest (nx++[⟨x,(i:Nat),0⟩]):=by
 refine⟨?_,fun w=>?_⟩
 ·rw[fU]
  refine⟨h.1,by simp,fun a ha b hb=>?_⟩
  simp only[a7] at hb;subst hb
  rintro rfl
  obtain⟨j,y,h1,h2,h3,h4⟩:=(h.2 _).1 ha
  injection h2 with e1 e2 e3
  have:i=j:=by omega
  subst this
  rw[x9] at h4;omega
 ·rw[aV,h.2 w,a7]
  constructor
  ·rintro(⟨j,y,h1,h2,h3,h4⟩ | rfl)
   ·refine⟨j,y,h1,h2,h3,?_⟩
    by_cases e:j=i
    ·subst e;rw[x9] at h4;omega
    ·rw[rY e] at h4;exact h4
   ·exact⟨i,x,hx,rfl,h0,hc⟩
  ·rintro⟨j,y,h1,h2,h3,h4⟩
   by_cases e:j=i
   ·subst e;rw[hx] at h1;cases h1;exact .inr h2
   ·exact .inl ⟨j,y,h1,h2,h3,by rw[rY e];exact h4⟩
theorem uG {L:List In} {D D':List Fa} {w:Wt}:w∈sU L D D'↔∃ (i:Nat) (x:In),L[i]?=some x∧w=⟨x,(i:Nat),0⟩∧rdy D x=false∧rdy D' x=true:=by
 unfold sU
 simp only[bj,cH,Prod.exists,eJ]
 constructor
 ·rintro⟨x,i,⟨h1,h2⟩,rfl⟩
  simp only[aS,dJ] at h2
  exact⟨i,x,h1,rfl,h2.2,h2.1⟩
 ·rintro⟨i,x,h1,rfl,h2,h3⟩
  exact⟨x,i,⟨h1,by simp[h2,h3]⟩,rfl⟩
theorem wN {L:List In} {p:In×Nat→Bool}:((L.zipIdx.filter p).map fun q=>(⟨q.1,(q.2:Nat),0⟩:Wt)).Pairwise fun a b=>a.order<b.order:=by
 rw[List.pairwise_map]
 refine List.Pairwise.filter _ ?_
 rw[ib]
 intro i j hi hj hij
 simp only[List.getElem_zipIdx]
 omega
theorem zN {L:List In} {D D':List Fa}:(sU L D D').Pairwise fun a b=>a.order<b.order:=wN
theorem LG {L:List In}:(que L).Pairwise fun a b=>a.order<b.order:=wN
theorem II {l:List Wt} (h:l.Pairwise fun a b=>a.order<b.order):l.Nodup:=h.imp fun {a b} GA=>by rintro rfl;omega
theorem afb {l:List Wt} (h:l.Pairwise fun a b=>a.order<b.order) {x y:Wt} (hx:x∈l) (hy:y∈l) (he:x.order=y.order):x=y:=by
 obtain⟨i,hi,rfl⟩:=gU hx
 obtain⟨j,hj,rfl⟩:=gU hy
 rw[ib] at h
 rcases Nat.lt_trichotomy i j with h1 | h1 | h1
 ·have:=h i j hi hj h1;omega
 ·subst h1;rfl
 ·have:=h j i hj hi h1;omega
theorem NX.done {L:List In} {D0 D:List Fa} {nx:List Wt} (h:NX L D0 D [] nx):nx.Perm (sU L D0 D):=by
 refine (fK h.1 (II zN)).2 fun w=>(h.2 w).trans ?_
 rw[uG]
 simp only[Nf]
theorem NX.len {L:List In} {D0 D:List Fa} {rest:List Nat} {nx:List Wt} (h:NX L D0 D rest nx):nx.length≤L.length:=by
 have oZ:=II (wN (L:=L) (p:=fun _=>true))
 have hp:(((L.zipIdx.filter fun _=>true).map fun q=>(⟨q.1,(q.2:Nat),0⟩:Wt)).filter fun w=>decide (w∈nx)).Perm nx:=by
  refine (fK (oZ.filter _) h.1).2 fun w=>?_
  rw[cH,fJ]
  refine⟨fun q=>q.2,fun q=>⟨?_,q⟩⟩
  obtain⟨i,x,h1,rfl,_⟩:=(h.2 w).1 q
  exact bj.2 ⟨(x,i),cH.2 ⟨eJ.2 h1,rfl⟩,rfl⟩
 rw[← hp.length_eq]
 refine bN (ck _ _) ?_
 rw[au]
 exact bN (ck _ _) (by simp)
def unr (L:List In) (D:List Fa):Nat:=(L.filter fun x=>!rdy D x).length
theorem UG {D D':List Fa} (h:∀ f∈D,f∈D') {x:In} (hx:rdy D x=true):rdy D' x=true:=by
 unfold rdy at *
 rw[ba] at *
 exact fun f hf=>cu (h f (bX (hx f hf)))
theorem yd {L:List In} {D D':List Fa} (h:∀ f∈D,f∈D'):(sU L D D').length+unr L D'=unr L D:=by
 have e:∀ (M:List In) (k:Nat),(((M.zipIdx k).filter fun q=>rdy D' q.1&&!rdy D q.1).length)+unr M D'=unr M D:=by
  intro M
  induction M with
  |nil=>intro k;rfl
  |cons x M ih=>
   intro k
   have:=ih (k+1)
   unfold unr at *
   rw[List.zipIdx_cons,cP,cP,cP]
   cases h1:rdy D x
   ·cases h2:rdy D' x
    ·simp[] at this ⊢;omega
    ·simp[] at this ⊢;omega
   ·have h2:=UG h h1
    simp[h2] at this ⊢;omega
 have:=e L 0
 unfold sU
 rw[au];exact this
theorem B3 {L:List In} {D:List Fa}:unr L D≤L.length:=ck _ _
variable {G:Gl}
theorem PQ {P:Program} {G:Gl} {tr:List Nat} {k0:Nat} {f:Operand} {ps:Array Tmp} {ca cb:Code} {Q:VE→S→Prop} {fr:Nat→V} {bx:Nat→List V} {nb:Nat}:iI P G tr k0 (.rangeFunc f ps ca cb) Q ⟨fr,bx,nb⟩=vrg P G tr f ps ca cb Q ⟨fr,bx,nb⟩:=rfl
def nG (m:List In):Prop:=∀ x∈m,x.pre.length≤2∧x.con.length≤2
theorem Z5 {x:In} {xs:List In}:(prs (xs++[x])).length=(prs xs).length+x.pre.length:=by rw[ID,ai,au]
theorem afc {L:List In} (h:nG L):(prs L).length≤2*L.length:=by
 have e:∀ (M:List In) (k:Nat),nG M→((M.zipIdx k).flatMap fun q=>q.1.pre.map fun f=>(f,q.2)).length≤2*M.length:=by
  intro M
  induction M with
  |nil=>intro k _;simp
  |cons x M ih=>
   intro k hs
   rw[List.zipIdx_cons,fE,ai,au,aZ]
   have h1:(x,k).1.pre.length≤2:=(hs x (a8 ..)).1
   have h2:=ih (k+1) fun y hy=>hs y (aD _ hy)
   omega
 exact e L 0 h
theorem aiv {c:Code×Code} (hc:LD=some c) (t:Sa) (x:In) (hx:x.pre.length≤1000000) (hp:(prs t.xs).length≤1000000) (hn:t.xs.length<1000000):(Yw 141 #[26] c.1 c.2).ok G t x:=by
 obtain⟨c',h1,h2⟩:=PO (G:=G) t x hx hp hn
 rw[hc] at h1;cases h1;exact h2
theorem aiw {c:Code×Code} (hc:LD=some c):∀ (m:List In) (t:Sa),nG m→t.xs.length+m.length<1000000→(prs t.xs).length+2*m.length≤1000000→Fut G (Yw 141 #[26] c.1 c.2) t m
 |[],_,_,_,_=>trivial
 |x::m,t,hs,hn,hp=>by
  rw[aZ] at hn hp
  have hx:=(hs x (a8 ..)).1
  refine⟨aiv hc t x (by omega) (by omega) (by omega),fun t' h=>?_⟩
  have e:t'.xs=t.xs++[x]:=h.2
  exact aiw hc m t' (fun y hy=>hs y (aD _ hy)) (by rw[e,ai,bF];omega) (by rw[e,Z5];omega)
theorem aix {c:Code×Code}:∀ {m:List In} {s t:Sa} {b:Bool},(Yw 141 #[26] c.1 c.2).run s m t b→t.xs=s.xs++m
 |_,_,_,_,.nil s=>by simp
 |_,_,_,_,.stop l h=>by cases h.1
 |_,_,_,_,.go h1 h2=>by
  have e:_=_:=h1.2
  rw[aix h2,e,aI];rfl
def m0:Me:=⟨[],fun _=>0,fun _=>.slice none 0 0⟩
theorem wf0:Mw m0 0 (mo (prs [])) (uP (prs [])) where
 nd:=fH
 us:=fun f=>by simp[m0,mo,prs]
 ob:=fun i=>by simp[m0]
 hd:=fun f hf=>by simp[mo,prs] at hf
 lt:=fun f i hi=>by simp[uP,prs] at hi
 ku:=fun f _=>rfl
 kn:=fH
def t0:Sa:=⟨[],m0,wf0⟩
theorem aiy {c:Code×Code} (hc:LD=some c) (m:List In) (t:Sa) (ht:t.xs=[]) (hs:nG m) (hl:m.length≤20000):Fut G (Yw 141 #[26] c.1 c.2) t m:=by
 have h1:t.xs.length=0:=by rw[ht];rfl
 have h2:(prs t.xs).length=0:=by rw[ht];rfl
 exact aiw hc m t hs (by omega) (by omega)
theorem akH {c:Code×Code} (hc:LD=some c) (m:List In) (hs:nG m) (hl:m.length≤20000):Fut G (Yw 141 #[26] c.1 c.2) t0 m:=aiy hc m t0 rfl hs hl
def flT:List (Nat×V):=[(4,.bp 3 0),(5,.bp 4 0),(6,.bp 5 0)]
theorem cells_ren {m:Me} {ob:Nat→Option Wt} {u:Fa→List Nat} {ρ:Nat→Nat}:(cells m ob u).map (V.ren ρ)=cells m ob u:=by
 unfold cells
 rw[gG]
 refine bT fun it _=>?_
 cases it with
 |ob i=>simp only[Function.comp,rX];split<;>rfl
 |us f=>rfl
theorem UH {L:Loop} {n:Nat}:(V.lp L flS).ren (rho [6,3,2,4,5] n)=V.lp L flT:=by
 simp[V.ren,flS,flT,V.renP,rho]
theorem aiz {c:Code×Code} (hc:LD=some c) {p:Pol} (hp:p.types.length≤9223372036854775806) (hr:p.rules.length≤9223372036854775806) (hl:(gp p none).length≤20000) (hs:nG (gp p none)) :
 FnE Tryz.prog G 64 [.yl 0,.c (.rp (poC p) 0)] ((Yw 141 #[26] c.1 c.2).yb t0) (fun r b1=>∃ t b,(Yw 141 #[26] c.1 c.2).run t0 (gp p none) t b∧r=.tup []∧b1=(Yw 141 #[26] c.1 c.2).yb t):=
 ZQ (G:=G) (Yw 141 #[26] c.1 c.2) p hp hr t0 (akH hc _ hs hl)
theorem akI {c:Code×Code} {p:Pol} {L:List In}
 (hI:FnE Tryz.prog G 64 [.yl 0,.c (.rp (poC p) 0)] (ybS 141 #[26] c.1 c.2 t0) (fun r b1=>∃ t b,(Yw 141 #[26] c.1 c.2).run t0 L t b∧r=.tup []∧b1=ybS 141 #[26] c.1 c.2 t)) {tr:List Nat} {Q:VE→S→Prop} {fr:Nat→V} {bx:Nat→List V}
 (WI:J6 tr=true) (h1:tr.contains 1200001=true) (hn:rgN tr=141) (hf:fr 25=abq p) (h4:fr 4=.bp 3 0) (h5:fr 5=.bp 4 0) (h6:fr 6=.bp 5 0) (b2:bx 2=uM []) (b3:bx 3=[.mr 2]) (b4:bx 4=qB .un (vH []) 0) (b5:bx 5=[i64 0])
 (hQ:∀ (bx':Nat→List V) (R:Loop) (t:Sa),t.xs=L→(∀ j,j<2→bx' j=bx j)→bx' 2=uM (hds (mo (prs t.xs)) t.m.hd)→bx' 3=[.mr 2]→bx' 4=qB .un (vH (que t.xs)) 0→bx' 5=[i64 t.xs.length]→bx' 6=.lp R flT::cells t.m (obs t.xs) (uP (prs t.xs))→
  Q .normal ⟨fr,bx',7⟩):vrg Tryz.prog G tr (.tmp 25) #[26] c.1 c.2 Q ⟨fr,bx,6⟩:=by
 refine⟨WI,flT,fun q hq=>?_,⟨_,_,by simp only[ev,hf];rfl⟩,?_⟩
 ·simp only[flT,aK,bn,dc] at hq
  rcases hq with rfl | rfl | rfl<;>simp[h4,h5,h6,V.fz,V.isKR]
 ·rw[if_pos h1]
  unfold kJ
  simp only[ev,hf]
  refine⟨[6,3,2,4,5],_,_,_,hI,rfl,⟨rfl,by decide⟩,?_,fun r b1 hR=>?_⟩
  ·show rb _ _ (rho [6,3,2,4,5] 7) 0 (ybS 141 #[26] c.1 c.2 t0)
   rw[hn]
   refine⟨⟨by decide,?_⟩,⟨by decide,?_⟩,⟨by decide,?_⟩,⟨by decide,?_⟩,⟨by decide,?_⟩,trivial⟩
   ·simp only[t0,m0,cells,bA,lG,UH]
    simp[rho,up]
   ·simp[rho,up,b3,V.ren]
   ·rw[Ux];simp[rho,up,b2,t0,mo,prs,hds]
   ·simp[rho,up,b4,V.ren,qB,vH,que,t0]
   ·simp[rho,up,b5,V.ren,t0]
  ·obtain⟨t,b,bM,rfl,rfl⟩:=hR
   have oE:t.xs=L:=by rw[aix bM];rfl
   have e6:gz (rho [6,3,2,4,5] 7) 0 (ybS 141 #[26] c.1 c.2 t) (up bx 6 [.lp (lp0 (rgN tr) #[26] c.1 c.2) flT]) 6=.lp (lp0 141 #[26] c.1 c.2) flT::cells t.m (obs t.xs) (uP (prs t.xs)):=by
    simp only[ybS,gz,bA,UH,cells_ren]
    simp[rho,up]
   show NY Q 6 ⟨fr,gz (rho [6,3,2,4,5] 7) 0 (ybS 141 #[26] c.1 c.2 t) (up bx 6 [.lp (lp0 (rgN tr) #[26] c.1 c.2) flT]),7⟩
   unfold NY
   simp only[e6]
   refine⟨by simp[lp0],by decide,?_⟩
   show Q .normal ⟨fr,up _ 6 _,7⟩
   refine hQ _ _ t oE (fun j hj=>?_) ?_ ?_ ?_ ?_ (bW _ _ _)
   ·have:j=0∨j=1:=by omega
    rcases this with rfl | rfl<;>simp[ybS,gz,rho,up]
   ·simp only[ybS,gz,Ux]
    simp[rho,up]
   ·simp[ybS,gz,rho,up,V.ren]
   ·simp[ybS,gz,rho,up,V.ren,qB,vH]
   ·simp[ybS,gz,rho,up,V.ren]
