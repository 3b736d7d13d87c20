/- Layer 18: the rounds, plain. -/
import Derived.Test.YtloppcgcepgbnaaGreatDoorVlX2
set_option linter.all false
namespace Go.Proofs.YtloppcgcepgbnaaGreatDoor
open Go Go.Vl
set_option maxRecDepth 4000
structure Wy where
 fact:Fa
 round:Int
 rule:Int
 pre:List Fa
 deriving DecidableEq
def cG (W:List Wy):List Fa:=W.map (·.fact)
def zk (num:Int) (x:In) (W:List Wy) (f:Fa):List Wy:=if f∈cG W then W else W++[⟨f,num,x.rule,x.pre⟩]
def TE (num:Int) (W:List Wy) (x:In):List Wy:=x.con.foldl (zk num x) W
def mn (num:Int) (W:List Wy) (l:List Wt):List Wy:=l.foldl (λW w=>TE num W w.x) W
def rdy (D:List Fa) (x:In):Bool:=x.pre.all λf=>decide (f∈D)
def zl (L:List In) (D D':List Fa):List Wt:=(L.zipIdx.filter λq=>rdy D' q.1&&!rdy D q.1).map λq=>⟨q.1,(q.2:Nat),0⟩
def Dl (L:List In):Nat->Int->List Wt->List Wy->List Wy
 |0,_,_,W=>W
 |n+1,num,now,W=>if now=[] then W else Dl L n (num+1) (zl L (cG W) (cG (mn num W now))) (mn num W now)
def zm (L:List In):List Wy:=Dl L (L.length+2) 1 (que L) []
theorem FM {V W:List Wy}:cG (V++W)=cG V++cG W:=db
theorem Oj {num:Int} {x:In} {W:List Wy} {f:Fa}:cG (zk num x W f)=pt (cG W) f:=by
 unfold zk;by_cases h:f∈cG W
 .rw[if_pos h,HZ h]
 .rw[if_neg h,Di h,FM];rfl
theorem uu {num:Int} {x:In}:∀ (l:List Fa) (W:List Wy),cG (l.foldl (zk num x) W)=l.foldl pt (cG W)
 |[],_=>rfl
 |f::l,W=>by rw[dT,dT,uu l,Oj]
theorem KY:∀ (l m:List Fa),m.Nodup->(l.foldl pt m).Nodup
 |[],_,h=>h
 |f::l,m,h=>by rw[dT];exact KY l _ (NF h)
theorem FN {g:Fa}:∀ (l m:List Fa),g∈l.foldl pt m↔g∈m∨g∈l
 |[],m=>by simp
 |f::l,m=>by rw[dT,FN l,JQ,aP];grind
theorem Bm {num:Int}:∀ (l:List Wt) (W:List Wy),(cG W).Nodup->(cG (mn num W l)).Nodup
 |[],_,h=>h
 |w::l,W,h=>Bm l (TE num W w.x) (by unfold TE;rw[uu];exact KY _ _ h)
theorem uv {num:Int} {g:Fa}:∀ (l:List Wt) (W:List Wy),g∈cG (mn num W l)↔g∈cG W∨∃ w∈l,g∈w.x.con
 |[],W=>by simp[mn]
 |w::l,W=>by
  have:=uv (num:=num) (g:=g) l (TE num W w.x);unfold mn at *;rw[dT,this];unfold TE;rw[uu,FN];simp only[aP,exists_eq_or_imp]
  grind
def mkc (D:List Fa) (rest:List Nat) (x:In) (i:Nat):Nat:=(x.pre.filter λf=>!decide (f∈D)).length+rest.count i
def obK (L:List In) (D:List Fa) (rest:List Nat) (i:Nat):Option Wt:=match L[i]? with
 |some x=>if mkc D rest x i=0 then none else some ⟨x,(i:Nat),(mkc D rest x i:Nat)⟩
 |none=>none
theorem acZ {L:List In}:obs L=obK L [] []:=by
 funext i;unfold obs obK;cases h:L[i]? with
 |none=>rfl
 |some x=>
  have e:mkc [] [] x i=x.pre.length:=by unfold mkc;rw[List.filter_eq_self.2 λf _=>by simp];simp
  simp only[e];by_cases h2:x.pre=[]
  .simp[h2]
  .simp[h2]
theorem KZ {L:List In} {f:Fa} {i:Nat}:(uP (prs L) f).count i=((L[i]?).map λx=>x.pre.count f).getD 0:=by
 have an1:∀ (M:List In) (k:Nat),(((M.zipIdx k).flatMap λq=>q.1.pre.map λf=>(f,q.2)).filter (λp=>decide (p.1=f)) |>.map (·.2)).count i=if k<=i then((M[i - k]?).map λx=>x.pre.count f).getD 0 else 0:=by
  intro M;induction M with
  |nil=>intro k;simp
  |cons x M ih=>
   intro k;rw[List.zipIdx_cons,fZ,iq,db,List.count_append,ih];have e:(((x.pre.map λf=>(f,k)).filter (λp=>decide (p.1=f))).map (·.2)).count i=if k=i then x.pre.count f else 0:=by
    induction x.pre with
    |nil=>simp
    |cons g l ih2=>
     rw[bA,fg];by_cases hg:g=f
     .subst hg
      simp only[bW,cZ,bA,List.count_cons,ih2,kO];by_cases hk:k=i<;>simp[hk]
     .simp only[hg,decide_false,aM,df,ih2]
      by_cases hk:k=i
      .simp[hk,hg]
      .simp[hk]
   simp only[e];rcases Nat.lt_trichotomy k i with hk | hk | hk
   .rw[if_neg (by omega),if_pos (by omega),if_pos (by omega)]
    have:i - k=(i - (k+1))+1:=(by omega);rw[this,cB];simp
   .subst hk;simp;intro h;omega
   .rw[if_neg (by omega),if_neg (by omega),if_neg (by omega)]
 have:=an1 L 0;simpa[uP,prs] using this
theorem FO {D:List Fa} {f:Fa} (hf:f∉D):∀ l:List Fa,(l.filter λg=>!decide (g∈D)).length=(l.filter λg=>!decide (g∈D++[f])).length+l.count f
 |[]=>rfl
 |g::l=>by
  have ih:=FO hf l;by_cases h:g=f
  .subst h
   rw[fg,fg];simp[hf] at ih ⊢
   omega
  .by_cases h2:g∈D
   .rw[fg,fg]
    simp[h2,h] at ih ⊢
    omega
   .rw[fg,fg]
    simp[h2,h] at ih ⊢
    omega
theorem u9 {L:List In} {D:List Fa} {f:Fa} (hf:f∉D) {i:Nat} {x:In} (hx:L[i]?=some x):mkc (D++[f]) (uP (prs L) f) x i=mkc D [] x i:=by unfold mkc;rw[KZ,hx,FO hf x.pre];simp
theorem TF {L:List In} {D:List Fa} {f:Fa} (hf:f∉D):obK L (D++[f]) (uP (prs L) f)=obK L D []:=by
 funext i;unfold obK;cases h:L[i]? with
 |none=>rfl
 |some x=>simp only[u9 hf h]
theorem yt {D:List Fa} {rest:List Nat} {x:In} {i:Nat}:mkc D (i::rest) x i=mkc D rest x i+1:=by unfold mkc;rw[List.count_cons_self];omega
theorem rT {D:List Fa} {rest:List Nat} {x:In} {i j:Nat} (h:j≠i):mkc D (i::rest) x j=mkc D rest x j:=by unfold mkc;rw[List.count_cons_of_ne (λe=>h e.symm)]
theorem ahF {L:List In} {D:List Fa} {rest:List Nat} {i:Nat} {x:In} (hx:L[i]?=some x):obK L D (i::rest) i=some ⟨x,(i:Nat),(mkc D rest x i+1:Nat)⟩:=by unfold obK;simp only[hx,yt];rw[if_neg (by omega)]
theorem Yz {L:List In} {D:List Fa} {rest:List Nat} {i:Nat} {x:In} (hx:L[i]?=some x):obK L D rest=upO (obK L D (i::rest)) i (if mkc D rest x i=0 then none else some ⟨x,(i:Nat),(mkc D rest x i:Nat)⟩):=by
 funext j;unfold obK upO;by_cases h:j=i
 .subst h;simp only[hx,cZ]
 .simp only[if_neg h]
  cases h2:L[j]? with
  |none=>simp only[]
  |some y=>simp only[rT h]
theorem YA {D:List Fa} {l:List Nat} {k:Nat} {x:In} {i:Nat}:mkc D (l.drop k) x i<=mkc D l x i:=by unfold mkc;have:=(List.drop_sublist k l).count_le i;omega
theorem ac0 {D:List Fa} {x:In} {i:Nat}:mkc D [] x i<=x.pre.length:=by unfold mkc;have:=dK (λf=>!decide (f∈D)) x.pre;simpa using this
theorem P3 {D:List Fa} {x:In} {i:Nat}:mkc D [] x i=0↔rdy D x=true:=by unfold mkc rdy;simp[List.filter_eq_nil_iff]
theorem ahG {L:List In} {f:Fa} {i:Nat} (h:i∈uP (prs L) f):∃ x,L[i]?=some x/\f∈x.pre:=by
 have h1:0<(uP (prs L) f).count i:=List.count_pos_iff.2 h;rw[KZ] at h1;cases hx:L[i]? with
 |none=>rw[hx] at h1;simp at h1
 |some x=>rw[hx] at h1;exact⟨x,rfl,List.count_pos_iff.1 (by simpa using h1)⟩
def NX (L:List In) (D0 D:List Fa) (rest:List Nat) (nx:List Wt):Prop:=nx.Nodup/\∀ w,w∈nx↔∃ (i:Nat) (x:In),L[i]?=some x/\w=⟨x,(i:Nat),0⟩/\rdy D0 x=false/\mkc D rest x i=0
theorem NX.init {L:List In} {D0:List Fa}:NX L D0 D0 [] []:=by refine⟨gG,λw=>⟨λh=>by simp at h,?_⟩⟩;rintro⟨i,x,_,_,h1,h2⟩;rw[P3,h1] at h2;cases h2
theorem NX.start {L:List In} {D0 D:List Fa} {nx:List Wt} {f:Fa} (h:NX L D0 D [] nx) (hf:f∉D):NX L D0 (D++[f]) (uP (prs L) f) nx:=by
 refine⟨h.1,λw=>(h.2 w).trans ?_⟩;constructor
 .rintro⟨i,x,h1,h2,h3,h4⟩;exact⟨i,x,h1,h2,h3,by rw[u9 hf h1];exact h4⟩
 .rintro⟨i,x,h1,h2,h3,h4⟩;exact⟨i,x,h1,h2,h3,by rw[u9 hf h1] at h4;exact h4⟩
theorem NX.keep {L:List In} {D0 D:List Fa} {nx:List Wt} {i:Nat} {rest:List Nat} {x:In} (h:NX L D0 D (i::rest) nx) (hx:L[i]?=some x) (hc:mkc D rest x i≠0):NX L D0 D rest nx:=by
 refine⟨h.1,λw=>(h.2 w).trans ?_⟩;constructor
 .rintro⟨j,y,h1,h2,h3,h4⟩
  refine⟨j,y,h1,h2,h3,?_⟩;by_cases e:j=i
  .subst e;rw[yt] at h4;omega
  .rw[rT e] at h4;exact h4
 .rintro⟨j,y,h1,h2,h3,h4⟩
  refine⟨j,y,h1,h2,h3,?_⟩;by_cases e:j=i
  .subst e;rw[hx] at h1;cases h1;exact absurd h4 hc
  .rw[rT e];exact h4
theorem NX.push {L:List In} {D0 D:List Fa} {nx:List Wt} {i:Nat} {rest:List Nat} {x:In} (h:NX L D0 D (i::rest) nx) (hx:L[i]?=some x) (h0:rdy D0 x=false) (hc:mkc D rest x i=0):NX L D0 D rest (nx++[⟨x,(i:Nat),0⟩]):=by
 refine⟨?_,λw=>?_⟩
 .rw[iT]
  refine⟨h.1,by simp,λa ha b hb=>?_⟩;simp only[aX] at hb;subst hb;rintro rfl;obtain⟨j,y,h1,h2,h3,h4⟩:=(h.2 _).1 ha;injection h2 with e1 e2 e3
  have:i=j:=by omega
  subst this;rw[yt] at h4;omega
 .rw[ba,h.2 w,aX]
  constructor
  .rintro(⟨j,y,h1,h2,h3,h4⟩ | rfl)
   .refine⟨j,y,h1,h2,h3,?_⟩
    by_cases e:j=i
    .subst e;rw[yt] at h4;omega
    .rw[rT e] at h4;exact h4
   .exact⟨i,x,hx,rfl,h0,hc⟩
  .rintro⟨j,y,h1,h2,h3,h4⟩
   by_cases e:j=i
   .subst e;rw[hx] at h1;cases h1;exact .inr h2
   .exact .inl ⟨j,y,h1,h2,h3,by rw[rT e];exact h4⟩
theorem Dm {L:List In} {D D':List Fa} {w:Wt}:w∈zl L D D'↔∃ (i:Nat) (x:In),L[i]?=some x/\w=⟨x,(i:Nat),0⟩/\rdy D x=false/\rdy D' x=true:=by
 unfold zl;simp only[bU,fJ,Prod.exists,iZ];constructor
 .rintro⟨x,i,⟨h1,h2⟩,rfl⟩
  simp only[aW,ew] at h2;exact⟨i,x,h1,rfl,h2.2,h2.1⟩
 .rintro⟨i,x,h1,rfl,h2,h3⟩
  exact⟨x,i,⟨h1,by simp[h2,h3]⟩,rfl⟩
theorem wT {L:List In} {p:In×Nat->Bool}:((L.zipIdx.filter p).map λq=>(⟨q.1,(q.2:Nat),0⟩:Wt)).Pairwise λa b=>a.order<b.order:=by rw[List.pairwise_map];refine List.Pairwise.filter _ ?_;rw[hJ];intro i j hi hj hij;simp only[List.getElem_zipIdx];omega
theorem Ak {L:List In} {D D':List Fa}:(zl L D D').Pairwise λa b=>a.order<b.order:=wT
theorem Ol {L:List In}:(que L).Pairwise λa b=>a.order<b.order:=wT
theorem K1 {l:List Wt} (h:l.Pairwise λa b=>a.order<b.order):l.Nodup:=h.imp λ{a b} Bo=>by rintro rfl;omega
theorem ahH {l:List Wt} (h:l.Pairwise λa b=>a.order<b.order) {x y:Wt} (hx:x∈l) (hy:y∈l) (he:x.order=y.order):x=y:=by
 obtain⟨i,hi,rfl⟩:=gQ hx;obtain⟨j,hj,rfl⟩:=gQ hy;rw[hJ] at h;rcases Nat.lt_trichotomy i j with h1 | h1 | h1
 .have:=h i j hi hj h1;omega
 .subst h1;rfl
 .have:=h j i hj hi h1;omega
theorem NX.done {L:List In} {D0 D:List Fa} {nx:List Wt} (h:NX L D0 D [] nx):nx.Perm (zl L D0 D):=by refine (gJ h.1 (K1 Ak)).2 λw=>(h.2 w).trans ?_;rw[Dm];simp only[P3]
theorem NX.len {L:List In} {D0 D:List Fa} {rest:List Nat} {nx:List Wt} (h:NX L D0 D rest nx):nx.length<=L.length:=by
 have qp:=K1 (wT (L:=L) (p:=λ_=>true));have hp:(((L.zipIdx.filter λ_=>true).map λq=>(⟨q.1,(q.2:Nat),0⟩:Wt)).filter λw=>decide (w∈nx)).Perm nx:=by refine (gJ (qp.filter _) h.1).2 λw=>?_;rw[fJ,decide_eq_true_iff];refine⟨λq=>q.2,λq=>⟨?_,q⟩⟩;obtain⟨i,x,h1,rfl,_⟩:=(h.2 w).1 q;exact bU.2 ⟨(x,i),fJ.2 ⟨iZ.2 h1,rfl⟩,rfl⟩
 rw[<- hp.length_eq];refine b9 (dK _ _) ?_;rw[au];exact b9 (dK _ _) (by simp)
def unr (L:List In) (D:List Fa):Nat:=(L.filter λx=>!rdy D x).length
theorem YC {D D':List Fa} (h:∀ f∈D,f∈D') {x:In} (hx:rdy D x=true):rdy D' x=true:=by unfold rdy at *;rw[aY] at *;exact λf hf=>dn (h f (a8 (hx f hf)))
theorem K3 {L:List In} {D D':List Fa} (h:∀ f∈D,f∈D'):(zl L D D').length+unr L D'=unr L D:=by
 have e:∀ (M:List In) (k:Nat),(((M.zipIdx k).filter λq=>rdy D' q.1&&!rdy D q.1).length)+unr M D'=unr M D:=by
  intro M;induction M with
  |nil=>intro k;rfl
  |cons x M ih=>
   intro k;have:=ih (k+1);unfold unr at *;rw[List.zipIdx_cons,fg,fg,fg];cases h1:rdy D x
   .cases h2:rdy D' x
    .simp[] at this ⊢;omega
    .simp[] at this ⊢;omega
   .have h2:=YC h h1
    simp[h2] at this ⊢;omega
 have:=e L 0;unfold zl;rw[au];exact this
theorem Om {L:List In} {D:List Fa}:unr L D<=L.length:=dK _ _
variable {G:Gl}
theorem FP {P:Program} {G:Gl} {tr:List Nat} {k0:Nat} {f:Operand} {ps:Array Tmp} {ca cb:Code} {Q:VE->S->Prop} {fr:Nat->V} {bx:Nat->List V} {nb:Nat}:hZ P G tr k0 (.rangeFunc f ps ca cb) Q ⟨fr,bx,nb⟩=vrg P G tr f ps ca cb Q ⟨fr,bx,nb⟩:=rfl
def kq (m:List In):Prop:=∀ x∈m,x.pre.length<=2/\x.con.length<=2
theorem ac1 {x:In} {xs:List In}:(prs (xs++[x])).length=(prs xs).length+x.pre.length:=by rw[KT,ae,au]
theorem ahI {L:List In} (h:kq L):(prs L).length<=2*L.length:=by
 have e:∀ (M:List In) (k:Nat),kq M->((M.zipIdx k).flatMap λq=>q.1.pre.map λf=>(f,q.2)).length<=2*M.length:=by
  intro M;induction M with
  |nil=>intro k _;simp
  |cons x M ih=>intro k hs;rw[List.zipIdx_cons,fZ,ae,au,aC];have h1:(x,k).1.pre.length<=2:=(hs x (bJ ..)).1;have h2:=ih (k+1) λy hy=>hs y (aT _ hy);omega
 exact e L 0 h
theorem akA {c:Code×Code} (hc:Oi=some c) (t:Sa) (x:In) (hx:x.pre.length<=1000000) (hp:(prs t.xs).length<=1000000) (hn:t.xs.length<1000000):(Yw 141 #[26] c.1 c.2).ok G t x:=by obtain⟨c',h1,h2⟩:=TD (G:=G) t x hx hp hn;rw[hc] at h1;cases h1;exact h2
theorem akB {c:Code×Code} (hc:Oi=some c):∀ (m:List In) (t:Sa),kq m->t.xs.length+m.length<1000000->(prs t.xs).length+2*m.length<=1000000->Fut G (Yw 141 #[26] c.1 c.2) t m
 |[],_,_,_,_=>trivial
 |x::m,t,hs,hn,hp=>by rw[aC] at hn hp;have hx:=(hs x (bJ ..)).1;refine⟨akA hc t x (by omega) (by omega) (by omega),λt' h=>?_⟩;have e:t'.xs=t.xs++[x]:=h.2;exact akB hc m t' (λy hy=>hs y (aT _ hy)) (by rw[e,ae,bz];omega) (by rw[e,ac1];omega)
theorem akC {c:Code×Code}:∀ {m:List In} {s t:Sa} {b:Bool},(Yw 141 #[26] c.1 c.2).run s m t b->t.xs=s.xs++m
 |_,_,_,_,.nil s=>by simp
 |_,_,_,_,.stop l h=>by cases h.1
 |_,_,_,_,.go h1 h2=>by have e:_=_:=h1.2;rw[akC h2,e,aI];rfl
def m0:Me:=⟨[],λ_=>0,λ_=>.slice none 0 0⟩
theorem wf0:Mw m0 0 (mX (prs [])) (uP (prs [])) where
 nd:=gG
 us:=λf=>by simp[m0,mX,prs]
 ob:=λi=>by simp[m0]
 hd:=λf hf=>by simp[mX,prs] at hf
 lt:=λf i hi=>by simp[uP,prs] at hi
 ku:=λf _=>rfl
 kn:=gG
def t0:Sa:=⟨[],m0,wf0⟩
theorem akD {c:Code×Code} (hc:Oi=some c) (m:List In) (t:Sa) (ht:t.xs=[]) (hs:kq m) (hl:m.length<=20000):Fut G (Yw 141 #[26] c.1 c.2) t m:=by
 have h1:t.xs.length=0:=by rw[ht];rfl
 have h2:(prs t.xs).length=0:=by rw[ht];rfl
 exact akB hc m t hs (by omega) (by omega)
theorem amM {c:Code×Code} (hc:Oi=some c) (m:List In) (hs:kq m) (hl:m.length<=20000):Fut G (Yw 141 #[26] c.1 c.2) t0 m:=akD hc m t0 rfl hs hl
def flT:List (Nat×V):=[(4,.bp 3 0),(5,.bp 4 0),(6,.bp 5 0)]
theorem cells_ren {m:Me} {ob:Nat->Option Wt} {u:Fa->List Nat} {ρ:Nat->Nat}:(cells m ob u).map (V.ren ρ)=cells m ob u:=by
 unfold cells;rw[eW];refine bT λit _=>?_;cases it with
 |ob i=>simp only[Function.comp,rS];split<;>rfl
 |us f=>rfl
theorem YD {L:Loop} {n:Nat}:(V.lp L flS).ren (rho [6,3,2,4,5] n)=V.lp L flT:=by simp[V.ren,flS,flT,V.renP,rho]
theorem akE {c:Code×Code} (hc:Oi=some c) {p:Pol} (hp:p.types.length<=9223372036854775806) (hr:p.rules.length<=9223372036854775806) (hl:(fR p none).length<=20000) (hs:kq (fR p none)) :
 FnE Tryz.prog G 70 [.yl 0,.c (.rp (poC p) 0)] ((Yw 141 #[26] c.1 c.2).yb t0) (λr b1=>∃ t b,(Yw 141 #[26] c.1 c.2).run t0 (fR p none) t b/\r=.tup []/\b1=(Yw 141 #[26] c.1 c.2).yb t):=
 PS (G:=G) (Yw 141 #[26] c.1 c.2) p hp hr t0 (amM hc _ hs hl)
theorem amN {c:Code×Code} {p:Pol} {L:List In}
 (hI:FnE Tryz.prog G 70 [.yl 0,.c (.rp (poC p) 0)] (ybS 141 #[26] c.1 c.2 t0) (λr b1=>∃ t b,(Yw 141 #[26] c.1 c.2).run t0 L t b/\r=.tup []/\b1=ybS 141 #[26] c.1 c.2 t)) {tr:List Nat} {Q:VE->S->Prop} {fr:Nat->V} {bx:Nat->List V}
 (QB:Gp tr=true) (h1:tr.contains 1200001=true) (hn:rgN tr=141) (hf:fr 25=X6 p) (h4:fr 4=.bp 3 0) (h5:fr 5=.bp 4 0) (h6:fr 6=.bp 5 0) (b2:bx 2=uM []) (b3:bx 3=[.mr 2]) (b4:bx 4=qB .un (vD []) 0) (b5:bx 5=[i64 0])
 (hQ:∀ (bx':Nat->List V) (R:Loop) (t:Sa),t.xs=L->(∀ j,j<2->bx' j=bx j)->bx' 2=uM (hds (mX (prs t.xs)) t.m.hd)->bx' 3=[.mr 2]->bx' 4=qB .un (vD (que t.xs)) 0->bx' 5=[i64 t.xs.length]->bx' 6=.lp R flT::cells t.m (obs t.xs) (uP (prs t.xs))->
  Q .normal ⟨fr,bx',7⟩):vrg Tryz.prog G tr (.tmp 25) #[26] c.1 c.2 Q ⟨fr,bx,6⟩:=by
 refine⟨QB,flT,λq hq=>?_,⟨_,_,by simp only[ev,hf];rfl⟩,?_⟩
 .simp only[flT,aP,aZ,cR] at hq
  rcases hq with rfl | rfl | rfl<;>simp[h4,h5,h6,V.fz,V.isKR]
 .rw[if_pos h1]
  unfold lj;simp only[ev,hf];refine⟨[6,3,2,4,5],_,_,_,hI,rfl,⟨rfl,by decide⟩,?_,λr b1 hR=>?_⟩
  .show qV _ _ (rho [6,3,2,4,5] 7) 0 (ybS 141 #[26] c.1 c.2 t0)
   rw[hn];refine⟨⟨by decide,?_⟩,⟨by decide,?_⟩,⟨by decide,?_⟩,⟨by decide,?_⟩,⟨by decide,?_⟩,trivial⟩
   .simp only[t0,m0,cells,bA,jY,YD]
    simp[rho,up]
   .simp[rho,up,b3,V.ren]
   .rw[Yt];simp[rho,up,b2,t0,mX,prs,hds]
   .simp[rho,up,b4,V.ren,qB,vD,que,t0]
   .simp[rho,up,b5,V.ren,t0]
  .obtain⟨t,b,bM,rfl,rfl⟩:=hR
   have tG:t.xs=L:=(by rw[akC bM];rfl);have e6:fQ (rho [6,3,2,4,5] 7) 0 (ybS 141 #[26] c.1 c.2 t) (up bx 6 [.lp (lp0 (rgN tr) #[26] c.1 c.2) flT]) 6=.lp (lp0 141 #[26] c.1 c.2) flT::cells t.m (obs t.xs) (uP (prs t.xs)):=(by simp only[ybS,fQ,bA,YD,cells_ren];simp[rho,up]);show IH Q 6 ⟨fr,fQ (rho [6,3,2,4,5] 7) 0 (ybS 141 #[26] c.1 c.2 t) (up bx 6 [.lp (lp0 (rgN tr) #[26] c.1 c.2) flT]),7⟩;unfold IH;simp only[e6];refine⟨by simp[lp0],by decide,?_⟩;show Q .normal ⟨fr,up _ 6 _,7⟩;refine hQ _ _ t tG (λj hj=>?_) ?_ ?_ ?_ ?_ (cg _ _ _)
   .have:j=0∨j=1:=by omega
    rcases this with rfl | rfl<;>simp[ybS,fQ,rho,up]
   .simp only[ybS,fQ,Yt]
    simp[rho,up]
   .simp[ybS,fQ,rho,up,V.ren]
   .simp[ybS,fQ,rho,up,V.ren,qB,vD]
   .simp[ybS,fQ,rho,up,V.ren]
