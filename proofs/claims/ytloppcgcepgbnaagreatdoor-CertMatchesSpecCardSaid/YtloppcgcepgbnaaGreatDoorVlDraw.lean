/- Values without memory: regions that draw their order: an operation's effect. -/
import Derived.Test.YtloppcgcepgbnaaGreatDoorVlCode
import Derived.Orders
set_option linter.all false
namespace Go.Vl
open Go Go.RowKit
section
variable {P:Program} {G:Gl} {tr:List Nat} {s:S} {o:Oper} {x y:V} {K:V->Prop}
theorem yS {op:BinOp} {k:IntKind} {a b:Int} (h:nD op k a b K):∃ v,nD op k a b (λu=>v=u)/\K v:=by
 cases op<;>simp only[nD] at h ⊢<;>first | exact⟨_,rfl,h⟩ | exact⟨_,⟨h.1,rfl⟩,h.2⟩
theorem QX {op:BinOp} {a b:ByteArray} (h:ID op a b K):∃ v,ID op a b (λu=>v=u)/\K v:=by
 cases op<;>simp only[ID] at h ⊢<;>first | exact h.elim | exact⟨_,rfl,h⟩ | exact⟨_,⟨h.1,rfl⟩,h.2⟩
theorem QY {op:BinOp} {T:TypeId} (h:j5 P op T x y K):∃ v,j5 P op T x y (λu=>v=u)/\K v:=by
 unfold j5 at h;split at h
 .split at h
  .exact yS h
  .exact yS h
  .rename_i h1 h2
   split at h
   .rename_i hk
    obtain⟨v,hv,hK⟩:=yS h;refine⟨v,?_,hK⟩;unfold j5;simp only[if_pos hk]
    first | exact hv | (split<;>first | exact hv | simp_all)
   .exact h.elim
 .exact QX h
 .split at h
  .rename_i hi
   split at h
   .exact⟨_,by simp only[j5,hi],h⟩
   .exact⟨_,by simp only[j5,hi],h⟩
   .exact h.elim
  .exact h.elim
 .split at h
  .rename_i hi
   split at h
   .rename_i hr
    obtain⟨hl,h⟩:=h;split at h
    .exact⟨_,by simp only[j5,hi,hr];exact⟨hl,trivial⟩,h⟩
    .exact⟨_,by simp only[j5,hi,hr];exact⟨hl,trivial⟩,h⟩
    .exact h.elim
   .exact h.elim
  .exact h.elim
 .exact h.elim
theorem Vj {op:UnOp} (h:vun op x K):∃ v,vun op x (λu=>v=u)/\K v:=by
 unfold vun at h;split at h<;>first | exact h.elim | exact⟨_,rfl,h⟩
theorem sh {ag:Bool} {sz off:Nat} {cs:List C} (h:dI ag sz off cs K):∃ v,dI ag sz off cs (λu=>v=u)/\K v:=by
 unfold dI at h;split at h
 .rename_i kJ;exact⟨_,by unfold dI;rw[if_pos kJ];exact⟨h.1,rfl⟩,h.2⟩
 .rename_i kJ
  split at h
  .rename_i c hc;exact⟨_,by unfold dI;rw[if_neg kJ,hc],h⟩
  .exact h.elim
theorem MS {ag:Bool} {sz off:Nat} {vs:List V} (h:zJ ag sz off vs K):∃ v,zJ ag sz off vs (λu=>v=u)/\K v:=by
 unfold zJ at h;split at h
 .rename_i kJ;exact⟨_,by unfold zJ;rw[if_pos kJ];exact⟨h.1,rfl⟩,h.2⟩
 .rename_i kJ
  split at h
  .rename_i c hc;exact⟨_,by unfold zJ;rw[if_neg kJ,hc],h⟩
  .exact h.elim
theorem MU {T:TypeId} (h:dG P T s x K):∃ v,dG P T s x (λu=>v=u)/\K v:=by
 unfold dG at h;split at h
 .rename_i hi
  obtain⟨v,h1,h2⟩:=sh h;exact⟨v,by unfold dG;rw[hi];exact h1,h2⟩
 .rename_i i b k hi
  obtain⟨hb,h⟩:=h;split at h
  .rename_i kJ
   exact⟨_,by unfold dG;rw[hi];refine⟨hb,?_⟩;rw[if_pos kJ];exact⟨h.1,rfl⟩,h.2⟩
  .rename_i kJ
   split at h
   .rename_i c hc
    exact⟨_,by unfold dG;rw[hi];refine⟨hb,?_⟩;rw[if_neg kJ,hc],h⟩
   .exact h.elim
 .rename_i hi
  rcases h with⟨h1,b,k,len,cap,E,es,c,h2,h⟩ | ⟨b,k,len,cap,E,es,h2,h⟩
  .exact⟨_,by unfold dG;simp only[hi];exact .inl ⟨h1,b,k,len,cap,E,es,c,h2,rfl⟩,h⟩
  .obtain⟨v,h3,h4⟩:=sh h
   exact⟨v,by unfold dG;simp only[hi];exact .inr ⟨b,k,len,cap,E,es,h2,h3⟩,h4⟩
 .exact h.elim
theorem AH {T:TypeId} {f:Nat} (h:bq P T x f K):∃ v,bq P T x f (λu=>v=u)/\K v:=by
 unfold bq at h;split at h
 .rename_i i hi
  split at h
  .rename_i hf;exact⟨_,by unfold bq;simp only[hi,hf];exact⟨h.1,trivial⟩,h.2⟩
  .rename_i hf;exact⟨_,by unfold bq;simp only[hi,hf];exact⟨h.1,trivial⟩,h.2⟩
  .rename_i hf;exact⟨_,by unfold bq;simp only[hi,hf];exact⟨h.1,trivial⟩,h.2⟩
  .exact h.elim
 .exact h.elim
theorem I7 {T:TypeId} {f:Nat} (h:r0 P T x f K):∃ v,r0 P T x f (λu=>v=u)/\K v:=by
 unfold r0 at h;split at h
 .rename_i hi
  split at h
  .rename_i hf
   obtain⟨v,h1,h2⟩:=sh h;exact⟨v,by unfold r0;simp only[hi,hf];exact h1,h2⟩
  .exact h.elim
 .rename_i hi
  split at h
  .rename_i hf
   obtain⟨v,h1,h2⟩:=MS h;exact⟨v,by unfold r0;simp only[hi,hf];exact h1,h2⟩
  .exact h.elim
 .exact h.elim
theorem AI {T:TypeId} (h:dF P T x y K):∃ v,dF P T x y (λu=>v=u)/\K v:=by
 unfold dF at h;split at h
 .rename_i hi
  split at h
  .rename_i hj
   obtain⟨h0,h⟩:=h;split at h
   .rename_i hc
    exact⟨_,by unfold dF;simp only[hi,hj,hc];exact⟨h0,h.1,trivial⟩,h.2⟩
   .exact h.elim
  .exact h.elim
 .rename_i hi
  split at h
  .rename_i hj
   exact⟨_,by unfold dF;simp only[hi,hj];exact⟨h.1,trivial⟩,h.2⟩
  .exact h.elim
 .rename_i hi
  split at h
  .rename_i hj
   exact⟨_,by unfold dF;simp only[hi,hj];exact⟨h.1,trivial⟩,h.2⟩
  .exact h.elim
 .rename_i hi
  split at h
  .rename_i hj
   exact⟨_,by unfold dF;simp only[hi,hj];exact⟨h.1,trivial⟩,h.2⟩
  .exact h.elim
 .rename_i hi
  split at h
  .rename_i hj
   exact⟨_,by unfold dF;simp only[hi,hj];exact⟨h.1,trivial⟩,h.2⟩
  .exact h.elim
 .exact h.elim
theorem I8 {T:TypeId} (h:mI P T x y K):∃ v,mI P T x y (λu=>v=u)/\K v:=by
 unfold mI at h;split at h
 .rename_i hi
  obtain⟨h0,h⟩:=h;split at h
  .rename_i hc
   exact⟨_,by unfold mI;simp only[hi,hc];exact⟨h0,trivial⟩,h⟩
  .exact h.elim
 .rename_i hi
  split at h
  .rename_i hj
   obtain⟨v,h1,h2⟩:=sh h.2;exact⟨v,by unfold mI;simp only[hi,hj];exact⟨h.1,h1⟩,h2⟩
  .exact h.elim
 .exact h.elim
theorem I9 {T:TypeId} {lo hi mx:Option V} (h:jl P T x lo hi mx K):∃ v,jl P T x lo hi mx (λu=>v=u)/\K v:=by
 unfold jl at h;split at h
 .rename_i ht
  split at h
  .rename_i e1 e2
   exact⟨_,by unfold jl;simp only[ht,e1,e2];exact⟨h.1,trivial⟩,h.2⟩
  .exact h.elim
 .rename_i ht
  split at h
  .split at h
   .rename_i e1 e2 e3
    exact⟨_,by unfold jl;simp only[ht,e1,e2,e3];exact⟨h.1,trivial⟩,h.2⟩
   .exact h.elim
  .split at h
   .rename_i e1 e2
    exact⟨_,by unfold jl;simp only[ht,e1,e2];exact⟨h.1,trivial⟩,h.2⟩
   .exact h.elim
  .exact h.elim
 .rename_i ht
  split at h
  .rename_i e1 e2 e3 e4
   exact⟨_,by unfold jl;simp only[ht,e1,e2,e3,e4];exact⟨h.1,trivial⟩,h.2⟩
  .exact h.elim
 .rename_i ht
  split at h
  .rename_i e1 e2 e3 e4
   exact⟨_,by unfold jl;simp only[ht,e1,e2,e3,e4];exact⟨h.1,trivial⟩,h.2⟩
  .exact h.elim
 .rename_i ht
  split at h
  .rename_i e1
   exact⟨_,by unfold jl;simp only[ht,e1];exact⟨h.1,trivial⟩,h.2⟩
  .exact h.elim
 .rename_i ht
  split at h
  .rename_i e1 e2 e3
   exact⟨_,by unfold jl;simp only[ht,e1,e2,e3];exact⟨h.1,trivial⟩,h.2⟩
  .exact h.elim
 .exact h.elim
theorem MV {src dst:TypeId} (h:jR P src dst x K):∃ v,jR P src dst x (λu=>v=u)/\K v:=by
 unfold jR at h;split at h
 .rename_i e1 e2;exact⟨_,by unfold jR;simp only[e1,e2],h⟩
 .rename_i e1 e2;exact⟨_,by unfold jR;simp only[e1,e2],h⟩
 .rename_i e1 e2
  split at h
  .rename_i e3;exact⟨_,by unfold jR;simp only[e1,e2,e3],h⟩
  .exact h.elim
 .rename_i e1 e2
  split at h
  .rename_i e3
   split at h
   .rename_i e4;exact⟨_,by unfold jR;simp only[e1,e2,e3,e4],h⟩
   .exact h.elim
  .exact h.elim
 .exact h.elim
theorem Ja {T:TypeId} {parts:List (Nat×V)} (h:jt P T parts K):∃ v,jt P T parts (λu=>v=u)/\K v:=by
 unfold jt at h;split at h
 .rename_i e1
  split at h
  .rename_i e2;exact⟨_,by unfold jt;simp only[e1,e2],h⟩
  .rename_i e2
   split at h
   .rename_i e3;exact⟨_,by unfold jt;simp only[e1,e2,e3],h⟩
   .exact h.elim
 .rename_i e1
  split at h
  .rename_i e2
   split at h
   .rename_i e3;exact⟨_,by unfold jt;simp only[e1,e2,e3],h⟩
   .rename_i e3
    split at h
    .rename_i e4;exact⟨_,by unfold jt;simp only[e1,e2,e3,e4],h⟩
    .exact h.elim
  .exact h.elim
 .exact h.elim
theorem nP {T:TypeId} {len:Nat} {parts:List (Nat×V)} (h:cH P T len parts K):∃ v,cH P T len parts (λu=>v=u)/\K v:=by
 unfold cH at h;split at h
 .rename_i e1
  split at h
  .rename_i e2
   obtain⟨h0,h⟩:=h;split at h
   .rename_i e3;exact⟨_,by unfold cH;simp only[e1,e2,e3];exact⟨h0,trivial⟩,h⟩
   .exact h.elim
  .exact h.elim
 .exact h.elim
theorem QZ {T:TypeId} (h:iR P T x K):∃ v,iR P T x (λu=>v=u)/\K v:=by
 unfold iR at h;split at h
 all_goals first | exact h.elim | (rename_i e1;exact⟨_,by unfold iR;simp only[e1],h⟩)
theorem xE {T:TypeId} (h:dR P T x y K):∃ v,dR P T x y (λu=>v=u)/\K v:=by
 unfold dR at h;split at h
 .rename_i e1
  split at h
  .rename_i e2
   obtain⟨h0,h⟩:=h;split at h
   .exact⟨_,by unfold dR;simp only[e1,e2];exact⟨h0,h.1,trivial⟩,h.2⟩
   .exact h.elim
  .exact h.elim
 .exact h.elim
theorem EW {mx:Bool} {l:List V} (h:Br mx l K):∃ v,Br mx l (λu=>v=u)/\K v:=by
 unfold Br at h;split at h
 .exact⟨_,rfl,h⟩
 .exact h.elim
theorem MW {f:V} {l:List V} (h:rq P G s f l K):∃ v,rq P G s f l (λu=>v=u)/\K v:=by
 unfold rq at h;split at h
 .split at h
  .rename_i e1
   obtain⟨r,h1,h2,h3⟩:=h;exact⟨r,by unfold rq;simp only[e1];exact⟨r,h1,h2,rfl⟩,h3⟩
  .exact h.elim
 .split at h
  .rename_i e1 e2 e3
   obtain⟨r,h1,h2,h3⟩:=h;exact⟨r,by unfold rq;simp only[e1,e2,e3];exact⟨r,h1,h2,rfl⟩,h3⟩
  .exact h.elim
 .exact h.elim
theorem qY {b:Builtin} {ts:List TypeId} {l:List V} (h:e9 P b ts l K):∃ v,e9 P b ts l (λu=>v=u)/\K v:=by
 unfold e9 at h;split at h
 .exact QZ h
 .split at h
  .rename_i ht
   obtain⟨v,h1,h2⟩:=xE h;exact⟨v,by unfold e9;simp only[if_pos ht];exact h1,h2⟩
  .rename_i ht
   unfold qA at h;split at h
   .rename_i e0 e1 e2
    split at h
    .rename_i e3
     obtain⟨h0,h⟩:=h;obtain⟨v,h1,h2⟩:=xE h;exact⟨v,by unfold e9 qA;simp only[if_neg ht,e0,e1,e2,e3];exact⟨h0,h1⟩,h2⟩
    .exact h.elim
   .exact h.elim
 .exact EW h
 .exact EW h
 .exact h.elim
theorem Jb {bx:Nat->List V} {nb:Nat} {f:V} {l:List V} {K:(Nat->List V)->Nat->V->Prop} (h:kF P G bx nb f l K):∃ bx' nb' v,kF P G bx nb f l (λb n u=>(bx'=b/\nb'=n)/\v=u)/\K bx' nb' v:=by
 unfold kF at h;split at h
 .rename_i g all e1
  obtain⟨ρ,cargs,b0,r,b1,h1,h2,h3,h4,h5⟩:=h;exact⟨_,_,_,by unfold kF;simp only[e1];exact⟨ρ,cargs,b0,r,b1,h1,h2,h3,h4,⟨rfl,rfl⟩,rfl⟩,h5⟩
 .exact h.elim
theorem BO {bx:Nat->List V} {nb n m:Nat} {K:(Nat->List V)->Nat->V->Prop} (h:Bv bx nb n m K x):∃ bx' nb' v,Bv bx nb n m (λb n u=>(bx'=b/\nb'=n)/\v=u) x/\K bx' nb' v:=by
 unfold Bv at h;split at h
 .exact⟨_,_,_,⟨⟨rfl,rfl⟩,rfl⟩,h⟩
 .exact h.elim
theorem MX {T:TypeId} {K:Nat->Nat->Nat->List C->Prop} (h:ry P T x y K):∃ n m sz z,ry P T x y (λn' m' sz' z'=>n=n'/\m=m'/\sz=sz'/\z=z')/\K n m sz z:=by
 unfold ry at h;split at h
 .rename_i e1
  split at h
  .rename_i e2
   exact⟨_,_,_,_,by unfold ry;simp only[e1,e2];exact⟨h.1,by simp⟩,h.2⟩
  .exact h.elim
 .exact h.elim
theorem jn {T:TypeId} {K:Nat->List Nat->Nat->List V->Option Nat->V->Prop} (h:gW P T s x y K) :
 ∃ i bs cl r res z,gW P T s x y (λi' bs' cl' r' res' z'=>i=i'/\bs=bs'/\cl=cl'/\r=r'/\res=res'/\z=z')/\K i bs cl r res z:=by
 unfold gW at h;split at h
 .rename_i e1
  split at h
  .rename_i e2 e3
   split at h
   .rename_i e4 e5 e6
    split at h
    .rename_i e7
     split at h
     .rename_i e8
      exact⟨_,_,_,_,_,_,by unfold gW;simp only[e1,e2,e3,e4,e5,e6,e7,e8];exact⟨h.1,by simp⟩,h.2⟩
     .exact h.elim
    .exact h.elim
   .exact h.elim
  .exact h.elim
 .exact h.elim
theorem gA {T:TypeId} {i cl:Nat} {bs:List Nat} {r:List V} {res:Option Nat} {z:V} {K:Nat->List Nat->Nat->List V->Option Nat->V->Prop}
 (h:gW P T s x y (λi' bs' cl' r' res' z'=>i=i'/\bs=bs'/\cl=cl'/\r=r'/\res=res'/\z=z')) (hK:K i bs cl r res z):gW P T s x y K:=by
 unfold gW at h;split at h
 .rename_i e1
  split at h
  .rename_i e2 e3
   split at h
   .rename_i e4 e5 e6
    split at h
    .rename_i e7
     split at h
     .rename_i e8
      obtain⟨h1,rfl,rfl,rfl,rfl,rfl,rfl⟩:=h;unfold gW;simp only[e1,e2,e3,e4,e5,e6,e7,e8];exact⟨h1,hK⟩
     .exact h.elim
    .exact h.elim
   .exact h.elim
  .exact h.elim
 .exact h.elim
theorem pC {T:TypeId} {kt et:TypeId} {tT tk te:TI} {ks:List EK} {kc:List C} {k z:V} {i cl:Nat} {bs:List Nat} {r:List V} {kcs:List (List C)} {res:Option Nat} {KM:Nat->List Nat->Nat->List V->Option Nat->V->Prop}
 (hT:ti P T=some tT) (hm:tT.kd=.map kt et) (hk:ti P kt=some tk) (QA:tk.eqs=some ks) (he:ti P et=some te) (hc:k.kcs tk.agg=some kc) (hz:oO te=some z) (hb:s.bx i=.mk bs cl::r)
 (hkc:j6 tk.agg r=some kcs) (hf:nG ks kc kcs 0=some res) (hi:i<s.nb) (hl:kc.length=ks.length) (hr:iG ks kc kc=some true) (ha:zaB P et=true) (hK:KM i bs cl r res z):gW P T s (.mr i) k KM:=by
 obtain⟨kd,a1,a2,a3,a4,a5,a6⟩:=tT;obtain⟨b1,b2,b3,ag,b5,b6,b7⟩:=tk;simp only at hm QA hc hkc;subst hm;subst QA;unfold gW;simp only[hT,hk,he,hc,hz,hb,hkc,hf];exact⟨⟨hi,hl,hr,ha⟩,hK⟩
theorem Jc {T:TypeId} {K K':Nat->List Nat->Nat->List V->Option Nat->V->Prop} (h:gW P T s x y K) (h':gW P T s x y K'):∃ i bs cl r res z,K i bs cl r res z/\K' i bs cl r res z:=by
 unfold gW at h;split at h
 .rename_i e1
  split at h
  .rename_i e2 e3
   split at h
   .rename_i e4 e5 e6
    split at h
    .rename_i e7
     split at h
     .rename_i e8
      unfold gW at h';simp only[e1,e2,e3,e4,e5,e6,e7,e8] at h';exact⟨_,_,_,_,_,_,h.2,h'.2⟩
     .exact h.elim
    .exact h.elim
   .exact h.elim
  .exact h.elim
 .exact h.elim
theorem mS {T:TypeId} {s':S} {K:Nat->List Nat->Nat->List V->Option Nat->V->Prop} (hb:s.bx=s'.bx) (hn:s.nb=s'.nb) (h:gW P T s x y K):gW P T s' x y K:=by
 unfold gW at h ⊢
 rw[<- hb,<- hn];exact h
theorem GY {T:TypeId} {v:V} {K:S->Prop} (h:iC P T s x y v K):∃ bx,iC P T ⟨λ_=>.un,s.bx,s.nb⟩ x y v (λs'=>bx=s'.bx)/\K { s with bx:=bx }:=by
 unfold iC at h;obtain⟨i,bs,cl,r,res,z,h1,h2⟩:=jn h;cases res with
 |none=>exact⟨_,gA (mS rfl rfl h1) rfl,h2⟩
 |some j=>exact⟨_,gA (mS rfl rfl h1) rfl,h2⟩
theorem GZ {T:TypeId} {v:V} {bx:Nat->List V} (h:iC P T ⟨λ_=>.un,s.bx,s.nb⟩ x y v (λs'=>bx=s'.bx)):iC P T s x y v (λs'=>{ s with bx:=bx }=s'):=by
 unfold iC at h;obtain⟨i,bs,cl,r,res,z,h1,h2⟩:=jn h;cases res with
 |none=>simp only at h2;subst h2;exact gA (mS rfl rfl h1) rfl
 |some j=>simp only at h2;subst h2;exact gA (mS rfl rfl h1) rfl
theorem BP {T:TypeId} {K:S->V->Prop} (h:gq P T s x y K):∃ bx v,gq P T ⟨λ_=>.un,s.bx,s.nb⟩ x y (λs' u=>bx=s'.bx/\v=u)/\K { s with bx:=bx } v:=by
 unfold gq at h;obtain⟨i,bs,cl,r,res,z,h1,h2⟩:=jn h;cases res with
 |none=>exact⟨_,_,gA (mS rfl rfl h1) ⟨rfl,rfl⟩,h2⟩
 |some j=>exact⟨s.bx,_,gA (mS rfl rfl h1) ⟨rfl,rfl⟩,h2⟩
theorem pN {T:TypeId} {v:V} {bx:Nat->List V} (h:gq P T ⟨λ_=>.un,s.bx,s.nb⟩ x y (λs' u=>bx=s'.bx/\v=u)):gq P T s x y (λs' u=>{ s with bx:=bx }=s'/\v=u):=by
 unfold gq at h;obtain⟨i,bs,cl,r,res,z,h1,h2⟩:=jn h;cases res with
 |none=>obtain⟨rfl,rfl⟩:=h2;exact gA (mS rfl rfl h1) ⟨rfl,rfl⟩
 |some j=>obtain⟨rfl,rfl⟩:=h2;exact gA (mS rfl rfl h1) ⟨rfl,rfl⟩
theorem BQ {v:V} {K:S->Prop} (h:fM s x y v K):∃ bx,fM ⟨λ_=>.un,s.bx,s.nb⟩ x y v (λs'=>bx=s'.bx)/\K { s with bx:=bx }:=by
 unfold fM at h;split at h
 .split at h
  .rename_i e2
   split at h
   .rename_i e3;exact⟨_,by unfold fM;simp only[e2,e3];exact⟨h.1,trivial⟩,h.2⟩
   .exact h.elim
  .exact h.elim
 .exact h.elim
theorem BR {v:V} {bx:Nat->List V} (h:fM ⟨λ_=>.un,s.bx,s.nb⟩ x y v (λs'=>bx=s'.bx)):fM s x y v (λs'=>{ s with bx:=bx }=s'):=by
 unfold fM at h;split at h
 .split at h
  .rename_i e2
   split at h
   .rename_i e3;obtain⟨h1,rfl⟩:=h;unfold fM;simp only[show s.bx _=_ from e2,e3];exact⟨h1,trivial⟩
   .exact h.elim
  .exact h.elim
 .exact h.elim
theorem MY {ts:List TypeId} {xs:List V} {K:S->V->Prop} (h:zL P s K ts xs):∃ bx v,zL P ⟨λ_=>.un,s.bx,s.nb⟩ (λs' u=>bx=s'.bx/\v=u) ts xs/\K { s with bx:=bx } v:=False.elim h
theorem MZ {ts:List TypeId} {xs:List V} {bx:Nat->List V} {v:V} (h:zL P ⟨λ_=>.un,s.bx,s.nb⟩ (λs' u=>bx=s'.bx/\v=u) ts xs):zL P s (λs' u=>{ s with bx:=bx }=s'/\v=u) ts xs:=False.elim h
theorem aau {ts:List TypeId} {xs:List V} {K K':S->V->Prop} (h:zL P s K ts xs) (hk:∀ s v,K s v->K' s v):zL P s K' ts xs:=False.elim h
theorem Ek {ts:List TypeId} {xs:List V} {K:S->V->Prop} (h:fF P s K ts xs):∃ bx v,fF P ⟨λ_=>.un,s.bx,s.nb⟩ (λs' u=>bx=s'.bx/\v=u) ts xs/\K { s with bx:=bx } v:=by
 unfold fF at h;split at h
 .rename_i b off len cap sz y
  have hi:v7 s y=v7 ⟨λ_=>.un,s.bx,s.nb⟩ y:=by cases y<;>rfl
  split at h
  .rename_i e1 e2
   split at h
   .rename_i e3;exact⟨_,_,by unfold fF;rw[hi] at e2;simp only[e1,e2,e3];exact⟨h.1,by simp⟩,h.2⟩
   .exact h.elim
  .exact h.elim
 .split at h
  .rename_i e1
   split at h
   .rename_i e2
    obtain⟨b,k,j,E,es,h1,h2⟩:=h;exact⟨_,_,by unfold fF;simp only[e1,e2];exact⟨b,k,j,E,es,h1,by simp⟩,h2⟩
   .exact h.elim
  .exact h.elim
 .exact h.elim
theorem Em {ts:List TypeId} {xs:List V} {bx:Nat->List V} {v:V} (h:fF P ⟨λ_=>.un,s.bx,s.nb⟩ (λs' u=>bx=s'.bx/\v=u) ts xs):fF P s (λs' u=>{ s with bx:=bx }=s'/\v=u) ts xs:=by
 unfold fF at h;split at h
 .rename_i b off len cap sz y
  have hi:v7 s y=v7 ⟨λ_=>.un,s.bx,s.nb⟩ y:=by cases y<;>rfl
  split at h
  .rename_i e1 e2
   split at h
   .rename_i e3;obtain⟨h0,rfl,rfl⟩:=h;unfold fF;rw[<- hi] at e2;simp only[e1,e2,e3];exact⟨h0,by simp⟩
   .exact h.elim
  .exact h.elim
 .split at h
  .rename_i e1
   split at h
   .rename_i e2
    obtain⟨b,k,j,E,es,h1,rfl,rfl⟩:=h;unfold fF;simp only[e1,e2];exact⟨b,k,j,E,es,h1,by simp⟩
   .exact h.elim
  .exact h.elim
 .exact h.elim
theorem M3 {ts:List TypeId} {xs:List V} {K K':S->V->Prop} (h:fF P s K ts xs) (hk:∀ s v,K s v->K' s v):fF P s K' ts xs:=by
 unfold fF at h;split at h
 .split at h
  .rename_i e1 e2
   split at h
   .rename_i e3;unfold fF;simp only[e1,e2,e3];exact⟨h.1,hk _ _ h.2⟩
   .exact h.elim
  .exact h.elim
 .split at h
  .rename_i e1
   split at h
   .rename_i e2
    obtain⟨b,k,j,E,es,h1,h2⟩:=h;unfold fF;simp only[e1,e2];exact⟨b,k,j,E,es,h1,hk _ _ h2⟩
   .exact h.elim
  .exact h.elim
 .exact h.elim
theorem xF {tr:List Nat} {o:Oper} {args:Array Operand} {ts:Array TypeId} {K:S->V->Prop} {s':S} (cz:o.op=.call { callee:=.builtin .append,args:=args,argTypes:=ts }) (h:fF P s' K ts.toList (args.toList.map (ev G s))) :
 s.use (cn tr o)=s:=by
 have e:cn tr o=match args.toList with | .tmp t::_=>some t | _=>none:=by unfold cn;rw[cz];rfl
 rw[e];split
 .rename_i t r ha
  rw[ha,bA] at h;unfold fF at h;split at h
  .rename_i b off len cap sz y vK rY
   simp only[cN] at rY;have:s.fr t=.ms b off len cap sz:=rY.1;simp[S.use,this,V.isOw]
  .rename_i vK rY
   simp only[cN] at rY;have:=rY.1;simp only[ev] at this;simp[S.use,this,V.isOw]
  .exact h.elim
 .rfl
theorem Jd {ts:List TypeId} {xs:List V} {K:S->Prop} (h:jv P s K ts xs):∃ bx,jv P ⟨λ_=>.un,s.bx,s.nb⟩ (λs'=>bx=s'.bx) ts xs/\K { s with bx:=bx }:=by
 unfold jv at h;split at h
 .split at h
  .rename_i e1
   split at h
   .rename_i e2;exact⟨_,by unfold jv;simp only[e1,e2];exact⟨h.1,trivial⟩,h.2⟩
   .exact h.elim
  .exact h.elim
 .split at h
  .rename_i e1
   split at h
   .rename_i e2
    obtain⟨b,k,j,cap,E,es,h1,h2⟩:=h;exact⟨_,by unfold jv;simp only[e1,e2];exact⟨b,k,j,cap,E,es,h1,rfl⟩,h2⟩
   .exact h.elim
  .exact h.elim
 .exact h.elim
theorem Je {ts:List TypeId} {xs:List V} {bx:Nat->List V} (h:jv P ⟨λ_=>.un,s.bx,s.nb⟩ (λs'=>bx=s'.bx) ts xs):jv P s (λs'=>{ s with bx:=bx }=s') ts xs:=by
 unfold jv at h;split at h
 .split at h
  .rename_i e1
   split at h
   .rename_i e2;obtain⟨h0,rfl⟩:=h;unfold jv;simp only[e1,e2];exact⟨h0,trivial⟩
   .exact h.elim
  .exact h.elim
 .split at h
  .rename_i e1
   split at h
   .rename_i e2
    obtain⟨b,k,j,cap,E,es,h1,rfl⟩:=h;unfold jv;simp only[e1,e2];exact⟨b,k,j,cap,E,es,h1,rfl⟩
   .exact h.elim
  .exact h.elim
 .exact h.elim
theorem Vk {ts:List TypeId} {xs:List V} {K K':S->Prop} (h:jv P s K ts xs) (hk:∀ s,K s->K' s):jv P s K' ts xs:=by
 unfold jv at h;split at h
 .split at h
  .rename_i e1
   split at h
   .rename_i e2;unfold jv;simp only[e1,e2];exact⟨h.1,hk _ h.2⟩
   .exact h.elim
  .exact h.elim
 .split at h
  .rename_i e1
   split at h
   .rename_i e2
    obtain⟨b,k,j,cap,E,es,h1,h2⟩:=h;unfold jv;simp only[e1,e2];exact⟨b,k,j,cap,E,es,h1,hk _ h2⟩
   .exact h.elim
  .exact h.elim
 .exact h.elim
theorem Q0 {T:TypeId} {v:V} {K K':S->Prop} (h:iC P T s x y v K) (hk:∀ s,K s->K' s):iC P T s x y v K':=by unfold iC at h;obtain⟨i,bs,cl,r,res,z,h1,h2⟩:=jn h;refine gA h1 ?_;cases res<;>exact hk _ h2
theorem tQ {T:TypeId} {K K':S->V->Prop} (h:gq P T s x y K) (hk:∀ s v,K s v->K' s v):gq P T s x y K':=by unfold gq at h;obtain⟨i,bs,cl,r,res,z,h1,h2⟩:=jn h;refine gA h1 ?_;cases res<;>exact hk _ _ h2
theorem Jf {v:V} {K K':S->Prop} (h:fM s x y v K) (hk:∀ s,K s->K' s):fM s x y v K':=by
 unfold fM at h;split at h
 .split at h
  .rename_i e2
   split at h
   .rename_i e3;unfold fM;simp only[e2,e3];exact⟨h.1,hk _ h.2⟩
   .exact h.elim
  .exact h.elim
 .exact h.elim
theorem G0 {T:TypeId} {ok:Bool} (h:fL P T s x y ok K):∃ v,fL P T s x y ok (λu=>v=u)/\K v:=by
 unfold fL at h;obtain⟨i,bs,cl,r,res,z,h1,h2⟩:=jn h;cases res with
 |none=>cases ok<;>exact⟨_,gA h1 rfl,h2⟩
 |some j=>cases ok<;>exact⟨_,gA h1 rfl,h2⟩
theorem zS {T:TypeId} {ok:Bool} {v u:V} (h:fL P T s x y ok (λw=>v=w)) (h':fL P T s x y ok (λw=>u=w)):v=u:=by
 unfold fL at h h';obtain⟨i,bs,cl,r,res,z,h1,h2⟩:=jn h;obtain⟨i',bs',cl',r',res',z',jF,nB⟩:=jn h';have e:i'=i/\bs'=bs/\cl'=cl/\r'=r/\res'=res/\z'=z:=by have:=Jc h1 jF;obtain⟨_,_,_,_,_,_,⟨rfl,rfl,rfl,rfl,rfl,rfl⟩,rfl,rfl,rfl,rfl,rfl,rfl⟩:=this;exact⟨rfl,rfl,rfl,rfl,rfl,rfl⟩
 obtain⟨rfl,rfl,rfl,rfl,rfl,rfl⟩:=e;cases res'<;>cases ok<;>simp only at h2 nB<;>(rw[show v=_ from h2,show u=_ from nB])
theorem Jg {T:TypeId} (h:oP P T s x K):∃ v,oP P T s x (λu=>v=u)/\K v:=by
 unfold oP at h;split at h
 .rename_i e1
  split at h
  .rename_i e2;exact⟨_,by unfold oP;simp only[e1,e2];exact⟨h.1,trivial⟩,h.2⟩
  .exact h.elim
 .exact h.elim
theorem Jh (h:oR s x K):∃ v,oR s x (λu=>v=u)/\K v:=by
 unfold oR at h;split at h
 .split at h
  .rename_i e2 e3
   split at h
   .rename_i e4;exact⟨_,by unfold oR;simp only[e2,e3,e4];exact⟨h.1,trivial⟩,h.2⟩
   .exact h.elim
  .exact h.elim
 .exact h.elim
theorem BS {ts:List TypeId} {E:Option (TypeId×Nat)} {es:List (List C)} (h:nH P ts E es y K):∃ v,nH P ts E es y (λu=>v=u)/\K v:=by
 unfold nH at h;split at h
 .obtain⟨h1,h⟩:=h
  split at h
  .rename_i e3
   split at h
   .rename_i e4
    obtain⟨h2,h⟩:=h;split at h
    .exact⟨_,by unfold nH;simp only[e3,e4];exact⟨h1,h2,h.1,trivial⟩,h.2⟩
    .exact h.elim
   .exact h.elim
  .exact h.elim
 .exact h.elim
theorem Ji {d:Option Tmp} {args:List Operand} {ts:List TypeId} (h:ju P G s d ts args K):∃ v,ju P G s d ts args (λu=>v=u)/\K v:=by
 unfold ju at h;split at h
 .split at h
  .rename_i e1 e2
   obtain⟨h0,h⟩:=h;obtain⟨v,h1,h2⟩:=qY h;exact⟨v,by unfold ju;simp only[e1,e2];exact⟨h0,h1⟩,h2⟩
  .rename_i e1 e2
   obtain⟨h0,h⟩:=h;obtain⟨v,h1,h2⟩:=BS h;exact⟨v,by unfold ju;simp only[e1,e2];exact⟨h0,h1⟩,h2⟩
  .rename_i e1
   obtain⟨h0,h⟩:=h;obtain⟨v,h1,h2⟩:=BS h;exact⟨v,by unfold ju;simp only[e1];exact⟨h0,h1⟩,h2⟩
  .exact h.elim
 .exact h.elim
theorem Q1 {d:Option Tmp} {args:List Operand} {ts:List TypeId} (h:vr P G s d ts args K):∃ v,vr P G s d ts args (λu=>v=u)/\K v:=by
 unfold vr at h;split at h
 .split at h
  .rename_i e1 e2
   obtain⟨h0,h⟩:=h;unfold tI at h;split at h
   .obtain⟨h1,h⟩:=h
    split at h
    .rename_i e3
     split at h
     .rename_i e4
      obtain⟨h2,h⟩:=h;split at h
      .rename_i e5
       exact⟨_,by unfold vr;simp only[e1,e2];refine⟨h0,?_⟩;unfold tI;simp only[e3,e4,e5];exact⟨h1,h2,h.1,trivial⟩,h.2⟩
      .exact h.elim
     .exact h.elim
    .exact h.elim
   .exact h.elim
  .exact h.elim
 .exact h.elim
theorem Jj (h:VYK P G tr o s K):∃ v,VYK P G tr o s (λu=>v=u)/\K v:=by
 obtain⟨dst,op,type,pos,after,guard⟩:=o;cases op<;>simp only[VYK] at h ⊢<;>try exact h.elim
 case move x=>
  split at h
  .rename_i e;simp only[if_pos e];exact⟨_,rfl,h⟩
  .rename_i e;simp only[if_neg e];exact⟨_,rfl,h⟩
 case assign x=>exact⟨_,rfl,h⟩
 case pick c a b=>
  split at h
  .exact⟨_,rfl,h⟩
  .exact h.elim
 case build T parts=>exact Ja h
 case buildSlice T len parts=>exact nP h
 case load T x=>exact MU h
 case binOp op T x y yT=>exact QY h
 case unOp op T x=>exact Vj h
 case convert src dst x=>exact MV h
 case lookup T x k ok=>exact G0 h
 case range T x=>exact Jg h
 case entry x=>exact Jh h
 case makeFunc f a b=>exact⟨_,⟨h.1,rfl⟩,h.2⟩
 try (case sliceToArrayPointer T x=>exact False.elim h)
 case nilCheck x=>
  split at h
  .exact⟨_,rfl,h⟩
  .exact⟨_,rfl,h⟩
  .exact⟨_,rfl,h⟩
  .exact h.elim
 case slice T x lo hi mx=>exact I9 h
 case fieldAddr T x f=>exact AH h
 case field T x f=>exact I7 h
 case indexAddr T x i=>exact AI h
 case index T x i=>exact I8 h
 case extract x i=>
  split at h
  .split at h
   .exact⟨_,rfl,h⟩
   .exact h.elim
  .exact h.elim
 case call c=>
  obtain⟨callee,args,ts⟩:=c;cases callee with
  |value f=>exact MW h
  |invoke r m=>exact h.elim
  |builtin b=>
   cases b
   case append=>
    have h':(if Bt tr dst then(if xl tr dst then vr P G s dst ts.toList args.toList K else ju P G s dst ts.toList args.toList K) else e9 P .append ts.toList (args.toList.map λx=>vw s (ev G s x)) K):=h
    show ∃ v,(if Bt tr dst then(if xl tr dst then vr P G s dst ts.toList args.toList (λu=>v=u) else ju P G s dst ts.toList args.toList (λu=>v=u)) else e9 P .append ts.toList (args.toList.map λx=>vw s (ev G s x)) (λu=>v=u))/\K v
    by_cases hg:Bt tr dst=true
    .rw[if_pos hg] at h';simp only[if_pos hg]
     by_cases Qs:xl tr dst=true
     .rw[if_pos Qs] at h';simp only[if_pos Qs];exact Q1 h'
     .rw[if_neg Qs] at h';simp only[if_neg Qs];exact Ji h'
    .rw[if_neg hg] at h';simp only[if_neg hg];exact qY h'
   all_goals exact qY h
end
section
variable {P:Program} {G:Gl} {tr:List Nat} {s:S} {o:Oper} {x y:V} {ops:Array Oper} {md:Region.Mode}
inductive Ef where
 |v (x:V)
 |al (cs:List V)
 |st (b k:Nat) (ds:List V)
 |gn (bx:Nat->List V) (nb:Nat) (x:V)
 |skip
def Ef.val (nb:Nat):Ef->V
 | .v x=>x
 | .al _=>.bp nb 0
 | .st _ _ _=>.sk
 | .gn _ _ x=>x
 | .skip=>.sk
def Ef.bx (nb:Nat) (bx:Nat->List V):Ef->Nat->List V
 | .al cs=>up bx nb cs
 | .st b k ds=>up bx b (eP (bx b) k ds)
 | .gn bx' _ _=>bx'
 |_=>bx
def Ef.nb (nb:Nat):Ef->Nat
 | .al _=>nb+1
 | .gn _ nb' _=>nb'
 |_=>nb
def Ef.uses:Ef->Bool
 | .skip=>false
 |_=>true
def G1 (u:Bool) (t:Option Tmp) (fr:Nat->V):Nat->V:=match t with
 |some t=>if u&&(fr t).isOw then up fr t .un else fr
 |none=>fr
def Jk (d:Option Tmp) (x:V) (fr:Nat->V):Nat->V:=match d with
 |some d=>up fr d x
 |none=>fr
def Ef.run (tr:List Nat) (o:Oper) (s:S) (e:Ef):S:=⟨Jk o.dst (e.val s.nb) (G1 e.uses (cn tr o) s.fr),e.bx s.nb s.bx,e.nb s.nb⟩
def VEf (P:Program) (G:Gl) (tr:List Nat) (o:Oper) (s:S) (e:Ef):Prop:=
 match o.op with
 | .alloc T=>match ti P T with
  |some { zero:=some z,.. }=>e=.al (z.map nI)
  |_=>False
 | .box _ x=>match(ev G s x).bcells with
  |some cs=>e=.al cs
  |none=>False
 | .store T p x=>qC tr (MD p) (ev G s p)=true/\match ti P T,ev G s p,(ev G s x).bcells with
  |some i,.bp b k,some cs=>(b<s.nb/\cs.length=i.size/\k+i.size<=(s.bx b).length/\cL (s.bx b)=false)/\e=.st b k cs
  |some i,.c (.ex (.pointer (some ⟨blk,j,none⟩))),_=>(∃ (b k len cap:Nat) (E:Option (TypeId×Nat)) (es:List (List C)) (r:Nat) (e':List C) (c:C),(i.size=1/\b<s.nb/\cL (s.bx b)=false/\(s.bx b)[k]?=some (V.hh (some (.slice (some ⟨blk,0,none⟩) len cap)) E (es++[e']))/\
    (es.flatten.length+r=j/\r<e'.length)/\(ev G s x).asC=some c)/\
   e=.gn (up s.bx b ((s.bx b).set k (.hh (some (.slice (some ⟨blk,0,none⟩) len cap)) E (es++[e'.set r c])))) s.nb .sk)∨ae4 s.bx s.nb i blk j (ev G s x) (λbx=>e=.gn bx s.nb .sk)
  |_,_,_=>False
 | .buildSlice T len parts=>if oe tr o.dst then ∃ bx nb x,e=.gn bx nb x/\cH P T len (parts.toList.map λ(i,x)=>(i,ev G s x)) (Bv s.bx s.nb len len λb n u=>(bx=b/\nb=n)/\x=u)
  else ∃ v,e=.v v/\VYK P G tr o s λu=>v=u
 | .makeSlice T l c=>∃ bx nb x,e=.gn bx nb x/\ry P T (ev G s l) (ev G s c) λn m sz z=>(up s.bx s.nb ((List.replicate m z).flatten.map .c)=bx/\s.nb+1=nb)/\V.ms s.nb 0 n m sz=x
 | .call { callee:=.value f,args:=args,.. }=>if xm tr o.dst then ∃ bx nb x,e=.gn bx nb x/\kF P G s.bx s.nb (ev G s f) (args.toList.map (ev G s)) (λb n u=>(bx=b/\nb=n)/\x=u)/\(Ea tr o.dst=true->nb=s.nb/\∀ b,bx b=s.bx b∨(b<100/\tr.contains (500000+o.dst.getD 0*100+b)=true))
  else ∃ v,e=.v v/\VYQ P G tr o s f args λu=>v=u
 | .load _ x=>∃ v,e=.v v/\qC tr o.dst (ev G s x)=true/\VYK P G tr o s λu=>v=u
 | .mapUpdate T m k x=>∃ bx,e=.gn bx s.nb .sk/\iC P T ⟨λ_=>.un,s.bx,s.nb⟩ (ev G s m) (ev G s k) (ev G s x) λs'=>bx=s'.bx
 | .mapEntry T m k=>∃ bx v,e=.gn bx s.nb v/\gq P T ⟨λ_=>.un,s.bx,s.nb⟩ (ev G s m) (ev G s k) λs' u=>bx=s'.bx/\v=u
 | .entryStore _ m n x=>∃ bx,e=.gn bx s.nb .sk/\fM ⟨λ_=>.un,s.bx,s.nb⟩ (ev G s m) (ev G s n) (ev G s x) λs'=>bx=s'.bx
 | .call { callee:=.builtin .copy,args:=args,argTypes:=ts }=>∃ bx v,e=.gn bx s.nb v/\zL P ⟨λ_=>.un,s.bx,s.nb⟩ (λs' u=>bx=s'.bx/\v=u) ts.toList (args.toList.map (ev G s))
 | .call { callee:=.builtin .append,args:=args,argTypes:=ts }=>if oe tr o.dst then False else if Bw tr o.dst then ∃ bx v,e=.gn bx s.nb v/\fF P ⟨λ_=>.un,s.bx,s.nb⟩ (λs' u=>bx=s'.bx/\v=u) ts.toList (args.toList.map (ev G s))
  else ∃ v,e=.v v/\VYK P G tr o s λu=>v=u
 | .call { callee:=.builtin .clear,args:=args,argTypes:=ts }=>∃ bx,e=.gn bx s.nb .un/\jv P ⟨λ_=>.un,s.bx,s.nb⟩ (λs'=>bx=s'.bx) ts.toList (args.toList.map (ev G s))
 |_=>∃ v,e=.v v/\VYK P G tr o s λu=>v=u
theorem Vm {t:Option Tmp}:(s.use t).bx=s.bx:=by
 cases t with
 |none=>rfl
 |some t=>simp only[S.use];split<;>rfl
theorem G2 {t:Option Tmp}:(s.use t).nb=s.nb:=by
 cases t with
 |none=>rfl
 |some t=>simp only[S.use];split<;>rfl
theorem zT (v:V):(Ef.v v).run tr o s=s.after tr o v:=by
 unfold Ef.run S.after S.use S.put G1 Jk;cases cn tr o with
 |none=>cases o.dst<;>rfl
 |some t=>by_cases h:(s.fr t).isOw=true<;>cases o.dst<;>simp[h,Ef.uses,S.clr,Ef.val,Ef.bx,Ef.nb]
theorem G3 (cs:List V):(Ef.al cs).run tr o s=(let s':=s.use (cn tr o);{ s' with bx:=up s'.bx s'.nb cs,nb:=s'.nb+1 }:S).put o.dst (.bp s.nb 0):=by
 unfold Ef.run S.use S.put G1 Jk;cases cn tr o with
 |none=>cases o.dst<;>rfl
 |some t=>by_cases h:(s.fr t).isOw=true<;>cases o.dst<;>simp[h,Ef.uses,S.clr,Ef.val,Ef.bx,Ef.nb]
theorem Vn (b k:Nat) (ds:List V):(Ef.st b k ds).run tr o s=(let s':=s.use (cn tr o);{ s' with bx:=up s'.bx b (eP (s'.bx b) k ds) }:S).put o.dst .sk:=by
 unfold Ef.run S.use S.put G1 Jk;cases cn tr o with
 |none=>cases o.dst<;>rfl
 |some t=>by_cases h:(s.fr t).isOw=true<;>cases o.dst<;>simp[h,Ef.uses,S.clr,Ef.val,Ef.bx,Ef.nb]
theorem jL (bx:Nat->List V) (nb:Nat) (x:V):(Ef.gn bx nb x).run tr o s=(let s':=s.use (cn tr o);{ s' with bx:=bx,nb:=nb }:S).put o.dst x:=by
 unfold Ef.run S.use S.put G1 Jk;cases cn tr o with
 |none=>cases o.dst<;>rfl
 |some t=>by_cases h:(s.fr t).isOw=true<;>cases o.dst<;>simp[h,Ef.uses,S.clr,Ef.val,Ef.bx,Ef.nb]
theorem tR {T:TypeId} {len:Nat} {parts:List (Nat×V)} {v:V} {K:V->Prop} (h:cH P T len parts (λu=>v=u)) (hk:∀ u,v=u->K u):cH P T len parts K:=by
 unfold cH at h;split at h
 .rename_i e1
  split at h
  .rename_i e2
   obtain⟨h0,h⟩:=h;split at h
   .rename_i e3
    unfold cH;simp only[e1,e2,e3];exact⟨h0,hk _ h⟩
   .exact h.elim
  .exact h.elim
 .exact h.elim
theorem Jl {f:V} {args:List V} {K:V->Prop} (h:pF P G s f args K):∃ v,pF P G s f args (λu=>v=u)/\K v:=by
 unfold pF at h;split at h
 .rename_i g all hc
  obtain⟨ρ,cargs,b0,r,h1,h2,h3,h4,h5,h6⟩:=h;exact⟨r,by unfold pF;simp only[hc];exact⟨ρ,cargs,b0,r,h1,h2,h3,h4,h5,rfl⟩,h6⟩
 .exact h.elim
theorem EX {s s':S} {ρ:Nat->Nat} (hn:s.nb<=s'.nb) (hb:∀ i,i<s.nb->s'.bx i=s.bx i):∀ (b:List (List V)) (i:Nat),qV s.bx s.nb ρ i b->qV s'.bx s'.nb ρ i b
 |[],_,_=>trivial
 |x::r,i,h=>⟨⟨cu h.1.1 hn,by rw[hb _ h.1.1];exact h.1.2⟩,EX hn hb r (i+1) h.2⟩
theorem zU {s s':S} {f:V} {args:List V} {K:V->Prop} (hn:s.nb<=s'.nb) (hb:∀ i,i<s.nb->s'.bx i=s.bx i) (h:pF P G s f args K):pF P G s' f args K:=by
 unfold pF at h ⊢
 split at h
 .rename_i g all hc
  obtain⟨ρ,cargs,b0,r,h1,h2,h3,h4,h5,h6⟩:=h;exact⟨ρ,cargs,b0,r,h1,h2,h3,λN=>EX hn hb _ _ (h4 N),h5,h6⟩
 .exact h.elim
theorem Q2 {bx:Nat->List V} {nb:Nat} {f:V} {l:List V} {K K':(Nat->List V)->Nat->V->Prop} (h:kF P G bx nb f l K) (hk:∀ b n u,K b n u->K' b n u):kF P G bx nb f l K':=by
 unfold kF at h;split at h
 .rename_i e1
  unfold kF;simp only[e1];obtain⟨ρ,cargs,b0,r,b1,h1,h2,h3,h4,h5⟩:=h;exact⟨ρ,cargs,b0,r,b1,h1,h2,h3,h4,hk _ _ _ h5⟩
 .exact h.elim
theorem Jm {T:TypeId} {l c:V} {K K':Nat->Nat->Nat->List C->Prop} (h:ry P T l c K) (hk:∀ n m sz z,K n m sz z->K' n m sz z):ry P T l c K':=by
 unfold ry at h;split at h
 .rename_i e1
  split at h
  .rename_i e2
   unfold ry;simp only[e1,e2];exact⟨h.1,hk _ _ _ _ h.2⟩
  .exact h.elim
 .exact h.elim
theorem BU:Ef.skip.run tr o s=s.put o.dst .sk:=by unfold Ef.run S.put G1 Jk;cases cn tr o<;>cases o.dst<;>simp[Ef.uses,Ef.val,Ef.bx,Ef.nb]
theorem VStep.ef {K:S->Prop} (EE:pe tr o=false) (h:VStep P G tr o s K):∃ e,e≠.skip/\VEf P G tr o s e/\K (e.run tr o s):=by
 have gen:VYK P G tr o s (λv=>K (s.after tr o v))->(∀ e,VEf P G tr o s e↔∃ v,e=.v v/\VYK P G tr o s λu=>v=u)->∃ e,e≠.skip/\VEf P G tr o s e/\K (e.run tr o s):=λh hV=>by obtain⟨v,h1,h2⟩:=Jj h;exact⟨.v v,by simp,(hV _).2 ⟨v,rfl,h1⟩,by rw[zT];exact h2⟩
 unfold VStep at h;split at h
 .rename_i T cz
  split at h
  .rename_i z _ _ hi
   refine⟨.al (z.map nI),by simp,by unfold VEf;rw[cz];simp only[hi],?_⟩;rw[G3];have:cn tr o=none:=(by simp[cn,cz]);rw[this];exact h
  .exact h.elim
 .rename_i T X cz
  split at h
  .rename_i cs hi
   refine⟨.al cs,by simp,by unfold VEf;rw[cz];simp only[hi],?_⟩;rw[G3];exact h
  .exact h.elim
 .rename_i T p X cz
  obtain⟨lX,h⟩:=h;split at h
  .rename_i i b k cs h1 h2 h3
   obtain⟨h4,h⟩:=h;refine⟨.st b k cs,by simp,by unfold VEf;rw[cz];simp only[h1,h2,h3];rw[h2] at lX;exact⟨lX,h4,trivial⟩,?_⟩;rw[Vn];exact h
  .rename_i i blk j h1 h2
   rcases h with h | ⟨b,k,len,cap,q,E,es,cs,h4,h⟩
   rotate_left
   .refine⟨.gn (up s.bx b ((s.bx b).set k (.gg (.slice (some ⟨blk,0,none⟩) len cap) (some (E,i.size)) (es.set q cs)))) s.nb .sk,by simp,by unfold VEf;rw[cz];simp only[h1,h2];rw[h2] at lX;exact⟨lX,.inr ⟨b,k,len,cap,q,E,es,cs,h4,rfl⟩⟩,?_⟩
    rw[jL];have e:∀ bx,({ s.use (cn tr o) with bx:=bx,nb:=s.nb }:S)={ s.use (cn tr o) with bx:=bx }:=λbx=>by rw[<- G2 (s:=s) (t:=cn tr o)]
    show K (({ s.use (cn tr o) with bx:=_,nb:=s.nb }:S).put o.dst .sk)
    rw[e];exact h
   obtain⟨b,k,len,cap,E,es,r,e',c,h4,h⟩:=h;refine⟨.gn (up s.bx b ((s.bx b).set k (.hh (some (.slice (some ⟨blk,0,none⟩) len cap)) E (es++[e'.set r c])))) s.nb .sk,by simp,by unfold VEf;rw[cz];simp only[h1,h2];rw[h2] at lX;exact⟨lX,.inl ⟨b,k,len,cap,E,es,r,e',c,h4,rfl⟩⟩,?_⟩;rw[jL];have h':K (({ s.use (cn tr o) with bx:=up (s.use (cn tr o)).bx b (((s.use (cn tr o)).bx b).set k (.hh (some (.slice (some ⟨blk,0,none⟩) len cap)) E (es++[e'.set r c]))) }:S).put o.dst .sk):=h
   rw[Vm] at h';have e:({ s.use (cn tr o) with bx:=up s.bx b ((s.bx b).set k (.hh (some (.slice (some ⟨blk,0,none⟩) len cap)) E (es++[e'.set r c]))),nb:=s.nb }:S)={ s.use (cn tr o) with bx:=up s.bx b ((s.bx b).set k (.hh (some (.slice (some ⟨blk,0,none⟩) len cap)) E (es++[e'.set r c]))) }:=by rw[<- G2 (s:=s) (t:=cn tr o)]
   show K (({ s.use (cn tr o) with bx:=up s.bx b ((s.bx b).set k (.hh (some (.slice (some ⟨blk,0,none⟩) len cap)) E (es++[e'.set r c]))),nb:=s.nb }:S).put o.dst .sk)
   rw[e];exact h'
  .exact h.elim
 .rename_i T len parts cz
  split at h
  .rename_i hn
   obtain⟨v,h1,h2⟩:=nP h;obtain⟨bx,nb,x,h3,h4⟩:=BO h2;refine⟨.gn bx nb x,by simp,?_,?_⟩
   .unfold VEf;rw[cz];simp only[hn,cZ]
    refine⟨bx,nb,x,rfl,?_⟩;refine tR h1 λu hu=>?_;subst hu;exact h3
   .rw[jL]
    have:cn tr o=none:=(by simp[cn,cz]);rw[this];exact h4
  .rename_i hn
   have hb:UU tr o.dst=false:=(by simpa[pe,cz] using EE);simp only[hb,aM,df] at h;refine gen h λe=>?_;unfold VEf;rw[cz];simp only[if_neg hn]
 .rename_i T l c cz
  obtain⟨p,m,sz,z,h1,h2⟩:=MX h;refine⟨.gn (up s.bx s.nb ((List.replicate m z).flatten.map .c)) (s.nb+1) (.ms s.nb 0 p m sz),by simp,?_,?_⟩
  .unfold VEf;rw[cz]
   refine⟨_,_,_,rfl,?_⟩;refine Jm h1 λn' m' sz' z' hh=>?_;obtain⟨rfl,rfl,rfl,rfl⟩:=hh;exact⟨⟨rfl,rfl⟩,rfl⟩
  .rw[jL]
   have:cn tr o=none:=(by simp[cn,cz]);rw[this];exact h2
 .rename_i f args ts cz
  have hye:MB tr o.dst=false/\QH tr o.dst=false:=by simpa[pe,cz] using EE
  have hy:=hye.1;have hef:=hye.2;simp only[hy,hef,aM,df] at h;split at h
  .rename_i hn
   obtain⟨bx,nb,x,h3,h4⟩:=Jb h;have h5:(Ea tr o.dst=true->ae3 tr o.dst s ⟨s.fr,bx,nb⟩)/\K ((⟨s.fr,bx,nb⟩:S).put o.dst x):=by
    by_cases hl:Ea tr o.dst=true
    .rw[if_pos hl] at h4;exact⟨λ_=>h4.1,h4.2⟩
    .rw[if_neg hl] at h4;exact⟨λh=>absurd h hl,h4⟩
   refine⟨.gn bx nb x,by simp,?_,?_⟩
   .unfold VEf;rw[cz];simp only[hn,cZ]
    exact⟨bx,nb,x,rfl,h3,h5.1⟩
   .rw[jL]
    have:cn tr o=none:=(by simp[cn,cz]);rw[this];exact h5.2
  .rename_i hn
   by_cases Qx:QI tr o.dst=true
   .unfold VYQ at h;rw[if_pos Qx] at h
    obtain⟨v,h1,h2⟩:=Jl h;exact⟨.v v,by simp,by unfold VEf;rw[cz];simp only[if_neg hn];exact⟨v,rfl,by unfold VYQ;rw[if_pos Qx];exact h1⟩,by rw[zT];exact h2⟩
   .unfold VYQ at h;rw[if_neg Qx] at h
    refine gen h λe=>?_;unfold VEf;rw[cz];simp only[if_neg hn,VYQ,if_neg Qx]
 .rename_i args ts cz
  have hn:oe tr o.dst=false:=by simpa[pe,cz] using EE
  simp only[hn,aM,df] at h;split at h
  .rename_i hr
   have hu:=xF (tr:=tr) cz h;obtain⟨bx,v,h1,h2⟩:=Ek h;refine⟨.gn bx s.nb v,by simp,by unfold VEf;rw[cz];simp only[hn,hr,aM,df,cZ];exact⟨bx,v,rfl,h1⟩,?_⟩;rw[jL,hu];exact h2
  .rename_i hr
   refine gen h λe=>?_;unfold VEf;rw[cz];simp only[hn,aM,df,if_neg hr]
 .rename_i args ts cz
  obtain⟨bx,v,h1,h2⟩:=MY h;refine⟨.gn bx s.nb v,by simp,by unfold VEf;rw[cz];exact⟨bx,v,rfl,h1⟩,?_⟩;have:cn tr o=none:=by simp[cn,cz]
  rw[jL,this];exact h2
 .rename_i args ts cz
  obtain⟨bx,h1,h2⟩:=Jd h;refine⟨.gn bx s.nb .un,by simp,by unfold VEf;rw[cz];exact⟨bx,rfl,h1⟩,?_⟩;have:cn tr o=none:=by simp[cn,cz]
  rw[jL,this];exact h2
 .rename_i args ts cz
  have hn:UW tr o.dst=false:=by simpa[pe,cz] using EE
  simp only[hn,aM,df] at h;refine gen h λe=>?_;unfold VEf;rw[cz]
 .rename_i src dst X cz
  have hn:oe tr o.dst=false:=by simpa[pe,cz] using EE
  simp only[hn,aM,df] at h;refine gen h λe=>?_;unfold VEf;rw[cz]
 .rename_i op T X Y yT cz
  have hn:A3 Y=false:=by simpa[pe,cz] using EE
  simp only[hn,aM,df] at h;refine gen h λe=>?_;unfold VEf;rw[cz]
 .rename_i T X cz
  have hn:isZ tr o.dst=false:=by simpa[pe,cz] using EE
  simp only[hn,aM,df] at h;obtain⟨lX,h⟩:=h;obtain⟨v,h1,h2⟩:=Jj h;exact⟨.v v,by simp,by unfold VEf;rw[cz];exact⟨v,rfl,lX,h1⟩,by rw[zT];exact h2⟩
 .rename_i T parts cz
  have hn:isZ tr o.dst=false:=by simpa[pe,cz] using EE
  simp only[hn,aM,df] at h;refine gen h λe=>?_;unfold VEf;rw[cz]
 .rename_i cz;simp[pe,cz] at EE
 .rename_i T m k X cz
  obtain⟨bx,h1,h2⟩:=GY h;refine⟨.gn bx s.nb .sk,by simp,by unfold VEf;rw[cz];exact⟨bx,rfl,h1⟩,?_⟩;have:cn tr o=none:=by simp[cn,cz]
  rw[jL,this];exact h2
 .rename_i T m k cz
  obtain⟨bx,v,h1,h2⟩:=BP h;refine⟨.gn bx s.nb v,by simp,by unfold VEf;rw[cz];exact⟨bx,v,rfl,h1⟩,?_⟩;have:cn tr o=none:=by simp[cn,cz]
  rw[jL,this];exact h2
 .rename_i T m k X cz
  obtain⟨bx,h1,h2⟩:=BQ h;refine⟨.gn bx s.nb .sk,by simp,by unfold VEf;rw[cz];exact⟨bx,rfl,h1⟩,?_⟩;have:cn tr o=none:=by simp[cn,cz]
  rw[jL,this];exact h2
 .rename_i cz;simp[pe,cz] at EE
 .rename_i cz;simp[pe,cz] at EE
 .rename_i n1 n2 n3 n4 n5 n6 n7 n8 n9 n10 n11 n12 n13 n14 n15 n16 n17 n18 n19 n20
  refine gen h λe=>?_;unfold VEf;split
  .rename_i cz;exact absurd cz (n1 _)
  .rename_i cz;exact absurd cz (n2 _ _)
  .rename_i cz;exact absurd cz (n3 _ _ _)
  .rename_i cz;exact absurd cz (n4 _ _ _)
  .rename_i cz;exact absurd cz (n5 _ _ _)
  .rename_i cz;exact absurd cz (n6 _ _ _)
  .rename_i cz;exact absurd cz (n13 _ _)
  .rename_i cz;exact absurd cz (n16 _ _ _ _)
  .rename_i cz;exact absurd cz (n17 _ _ _)
  .rename_i cz;exact absurd cz (n18 _ _ _ _)
  .rename_i cz;exact absurd cz (n8 _ _)
  .rename_i cz;exact absurd cz (n7 _ _)
  .rename_i cz;exact absurd cz (n9 _ _)
  .exact Iff.rfl
variable {n:Nat} {I0:Ft} {M:Mx} {w0:World} {I:Ft} {β:Nat->Option Nat} {ob:Loc->Option Nat} {a:Act} {w:World} {next:Act->World->Prop} {Q:Exit->Act->World->Prop}
theorem EY {e:Ef} (hst:St G n I0 M w0 I β ob s a w) (hd:∀ d,o.dst=some d->d<n) (h:VEf P G tr o s e)
 (hk:∀ a' w',SE G n I0 M w0 (e.run tr o s) a' w'->next a' w'):o.wp P a w next Q:=by
 have viaStep:qt tr o=false->VStep P G tr o s (λs'=>e.run tr o s=s')->o.wp P a w next Q:=λhy h=>
  qD (tr:=tr) hst hd hy h (λa' w' s' hs dD=>hk a' w' (by rw[hs];exact dD))
 unfold VEf at h;split at h
 .rename_i T cz
  split at h
  .rename_i z _ _ hi
   subst h;refine viaStep (by simp[qt,cz]) ?_;unfold VStep;rw[cz];simp only[hi];rw[G3];have:cn tr o=none:=(by simp[cn,cz]);rw[this];rfl
  .exact h.elim
 .rename_i T X cz
  split at h
  .rename_i cs hi
   subst h;refine viaStep (by simp[qt,cz]) ?_;unfold VStep;rw[cz];simp only[hi];rw[G3]
  .exact h.elim
 .rename_i T p X cz
  obtain⟨lX,h⟩:=h;split at h
  .rename_i i b k cs h1 h2 h3
   obtain⟨h4,rfl⟩:=h;refine viaStep (by simp[qt,cz]) ?_;unfold VStep;rw[cz];simp only[h1,h2,h3];rw[Vn];rw[h2] at lX;exact⟨lX,h4,rfl⟩
  .rename_i i blk j h1 h2
   rcases h with h | ⟨b,k,len,cap,q,E,es,cs,h4,rfl⟩
   rotate_left
   .refine viaStep (by simp[qt,cz]) ?_
    unfold VStep;rw[cz];simp only[h1,h2];rw[jL];rw[h2] at lX;refine⟨lX,.inr ⟨b,k,len,cap,q,E,es,cs,h4,?_⟩⟩;have e:∀ bx,({ s.use (cn tr o) with bx:=bx,nb:=s.nb }:S)={ s.use (cn tr o) with bx:=bx }:=λbx=>by rw[<- G2 (s:=s) (t:=cn tr o)]
    show({ s.use (cn tr o) with bx:=_,nb:=s.nb }:S).put o.dst .sk=_
    rw[e]
   obtain⟨b,k,len,cap,E,es,r,e',c,h4,rfl⟩:=h;refine viaStep (by simp[qt,cz]) ?_;unfold VStep;rw[cz];simp only[h1,h2];rw[jL];rw[h2] at lX;refine⟨lX,.inl ⟨b,k,len,cap,E,es,r,e',c,h4,?_⟩⟩;have e:({ s.use (cn tr o) with bx:=up s.bx b ((s.bx b).set k (.hh (some (.slice (some ⟨blk,0,none⟩) len cap)) E (es++[e'.set r c]))),nb:=s.nb }:S)={ s.use (cn tr o) with bx:=up s.bx b ((s.bx b).set k (.hh (some (.slice (some ⟨blk,0,none⟩) len cap)) E (es++[e'.set r c]))) }:=by rw[<- G2 (s:=s) (t:=cn tr o)]
   show({ s.use (cn tr o) with bx:=up s.bx b ((s.bx b).set k (.hh (some (.slice (some ⟨blk,0,none⟩) len cap)) E (es++[e'.set r c]))),nb:=s.nb }:S).put o.dst .sk=({ s.use (cn tr o) with bx:=up (s.use (cn tr o)).bx b (((s.use (cn tr o)).bx b).set k (.hh (some (.slice (some ⟨blk,0,none⟩) len cap)) E (es++[e'.set r c]))) }:S).put o.dst .sk
   rw[e,Vm]
  .exact h.elim
 .rename_i T len parts cz
  split at h
  .rename_i hn
   obtain⟨bx,nb,x,rfl,h⟩:=h;refine viaStep (by simp[qt,cz]) ?_;unfold VStep;rw[cz];simp only[hn,cZ];have:cn tr o=none:=(by simp[cn,cz]);rw[jL,this];obtain⟨v,h1,h2⟩:=nP h;refine tR h1 λu hu=>?_;subst hu;obtain⟨b,n,y,h3,⟨rfl,rfl⟩,rfl⟩:=BO h2;unfold US;unfold Bv at h3 ⊢
   split at h3
   .obtain⟨⟨rfl,rfl⟩,rfl⟩:=h3;rfl
   .exact h3.elim
  .rename_i hn
   obtain⟨v,rfl,h⟩:=h;exact pB (tr:=tr) hst hd h (λa' w' x hx dD=>hk a' w' (by rw[zT];subst hx;exact dD))
 .rename_i T l c cz
  obtain⟨bx,nb,x,rfl,h⟩:=h;refine viaStep (by simp[qt,cz]) ?_;unfold VStep;rw[cz];have:cn tr o=none:=by simp[cn,cz]
  rw[jL,this];refine Jm h λn m sz z hh=>?_;obtain⟨⟨rfl,rfl⟩,rfl⟩:=hh;rfl
 .rename_i f args ts cz
  split at h
  .rename_i hn
   obtain⟨bx,nb,x,rfl,h,hlc⟩:=h;have hc:cn tr o=none:=(by simp[cn,cz]);refine sg (K:=λs' u=>s'.put o.dst u=(Ef.gn bx nb x).run tr o s) cz hst hd ?_ (λa' w' s' u hK dD=>hk a' w' (by rw[<- hK];exact dD));unfold vcallB;refine Q2 h λb n u hh=>?_;obtain⟨⟨rfl,rfl⟩,rfl⟩:=hh;rw[jL,hc];rfl
  .rename_i hn
   obtain⟨v,rfl,h⟩:=h;exact EV (tr:=tr) cz hst hd h (λa' w' x hx dD=>hk a' w' (by rw[zT];subst hx;exact dD))
 .obtain⟨v,rfl,_,h⟩:=h
  exact pB (tr:=tr) hst hd h (λa' w' x hx dD=>hk a' w' (by rw[zT];subst hx;exact dD))
 .rename_i T m k X cz
  obtain⟨bx,rfl,h⟩:=h;refine viaStep (by simp[qt,cz]) ?_;have:cn tr o=none:=by simp[cn,cz]
  rw[jL,this];unfold VStep;rw[cz];exact Q0 (GZ h) λs' e=>by rw[<- e];rfl
 .rename_i T m k cz
  obtain⟨bx,v,rfl,h⟩:=h;refine viaStep (by simp[qt,cz]) ?_;have:cn tr o=none:=by simp[cn,cz]
  rw[jL,this];unfold VStep;rw[cz];exact tQ (pN h) λs' u e=>by rw[<- e.1,<- e.2];rfl
 .rename_i T m k X cz
  obtain⟨bx,rfl,h⟩:=h;refine viaStep (by simp[qt,cz]) ?_;have:cn tr o=none:=by simp[cn,cz]
  rw[jL,this];unfold VStep;rw[cz];exact Jf (BR h) λs' e=>by rw[<- e];rfl
 .rename_i args ts cz
  obtain⟨bx,v,rfl,h⟩:=h;refine viaStep (by simp[qt,cz]) ?_;have:cn tr o=none:=by simp[cn,cz]
  rw[jL,this];unfold VStep;rw[cz];exact aau (MZ h) λs' u e=>by rw[<- e.1,<- e.2];rfl
 .rename_i args ts cz
  split at h
  .exact h.elim
  rename_i hn;split at h
  .rename_i hr
   obtain⟨bx,v,rfl,h⟩:=h;refine viaStep (by simp[qt,cz]) ?_;rw[jL,xF (tr:=tr) cz h];unfold VStep;rw[cz];simp only[hn,hr,cZ,df,aM];refine M3 (Em h) (λs' u e=>?_);rw[<- e.1,<- e.2]
  .obtain⟨v,rfl,h⟩:=h
   exact pB (tr:=tr) hst hd h (λa' w' x hx dD=>hk a' w' (by rw[zT];subst hx;exact dD))
 .rename_i args ts cz
  obtain⟨bx,rfl,h⟩:=h;refine viaStep (by simp[qt,cz]) ?_;have:cn tr o=none:=by simp[cn,cz]
  rw[jL,this];unfold VStep;rw[cz];exact Vk (Je h) λs' e=>by rw[<- e];rfl
 .obtain⟨v,rfl,h⟩:=h
  exact pB (tr:=tr) hst hd h (λa' w' x hx dD=>hk a' w' (by rw[zT];subst hx;exact dD))
def dV (tr:List Nat) (o:Oper):Nat:=
 match o.op with
 | .call { callee:=.builtin .copy,.. }=>2
 | .call { callee:=.builtin .clear,.. }=>2
 | .load _ _ | .convert _ _ _ | .lookup _ _ _ _ | .range _ _ | .entry _=>1
 | .call { callee:=.builtin .append,.. }=>if Bw tr o.dst then 2 else 1
 | .call { callee:=.value _,.. }=>if xm tr o.dst then 2 else 1
 | .buildSlice _ _ _=>if oe tr o.dst then 2 else 0
 | .alloc _ | .box _ _ | .store _ _ _ | .makeSlice _ _ _ | .mapUpdate _ _ _ _ | .mapEntry _ _ _ | .entryStore _ _ _ _=>2
 |_=>0
theorem BV {s':S} {x:Operand} (h:∀ t,x=.tmp t->s.fr t=s'.fr t):ev G s x=ev G s' x:=by cases x<;>simp only[ev];exact h _ rfl
theorem aav {s':S} (hb:s.bx=s'.bx) (hn:s.nb=s'.nb):imm s=imm s':=by obtain⟨fr,bx,nb⟩:=s;obtain⟨fr',bx',nb'⟩:=s';simp only at hb hn;subst hb;subst hn;funext x;cases x<;>rfl
theorem G4 {s':S} (hb:s.bx=s'.bx) (hn:s.nb=s'.nb):vw s=vw s':=by obtain⟨fr,bx,nb⟩:=s;obtain⟨fr',bx',nb'⟩:=s';simp only at hb hn;subst hb;subst hn;funext x;cases x<;>rfl
theorem rD {s':S} {K:V->Prop} (AZ:∀ d,o.dst=some d->s.fr d=s'.fr d) (he:∀ x∈o.op.operands,ev G s x=ev G s' x) (hm:dV tr o≠0->s.bx=s'.bx/\s.nb=s'.nb) (h:VYK P G tr o s K):VYK P G tr o s' K:=by
 have marr:∀ l:Array Operand,(∀ x∈l,ev G s x=ev G s' x)->l.toList.map (ev G s)=l.toList.map (ev G s'):=λl hl=>bT λx hx=>hl x (by simpa using hx);have mopt:∀ l:Option Operand,(∀ x,l=some x->ev G s x=ev G s' x)->l.map (ev G s)=l.map (ev G s'):=λl hl=>by cases l with
  |none=>rfl
  |some x=>simp only[cT,hl x rfl]
 obtain⟨dst,op,type,pos,after,guard⟩:=o;cases op<;>simp only[VYK] at h ⊢<;>try exact h
 case move x=>rw[<- he x (by simp[Op.operands])];exact h
 case assign x=>rw[<- he x (by simp[Op.operands])];exact h
 case pick c a b=>rw[<- he c (by simp[Op.operands]),<- he a (by simp[Op.operands]),<- he b (by simp[Op.operands])];exact h
 case build T parts=>
  have:(parts.toList.map λ(i,x)=>(i,ev G s' x))=parts.toList.map λ(i,x)=>(i,ev G s x):=bT λp hp=>by obtain⟨i,x⟩:=p;simp only[he x (by simp only[Op.operands,gu,bU];exact⟨(i,x),hp,rfl⟩)]
  rw[this];exact h
 case buildSlice T len parts=>
  have:(parts.toList.map λ(i,x)=>(i,ev G s' x))=parts.toList.map λ(i,x)=>(i,ev G s x):=bT λp hp=>by obtain⟨i,x⟩:=p;simp only[he x (by simp only[Op.operands,gu,bU];exact⟨(i,x),hp,rfl⟩)]
  rw[this];exact h
 case load T x=>
  obtain⟨h1,h2⟩:=hm (by simp[dV]);rw[<- he x (by simp[Op.operands])];unfold dG at h ⊢
  rw[<- h1,<- h2];exact h
 case lookup T x k ok=>
  obtain⟨h1,h2⟩:=hm (by simp[dV]);rw[<- he x (by simp[Op.operands]),<- he k (by simp[Op.operands])];unfold fL gW at h ⊢
  rw[<- h1,<- h2];exact h
 case range T x=>
  obtain⟨h1,h2⟩:=hm (by simp[dV]);rw[<- he x (by simp[Op.operands])];unfold oP at h ⊢
  rw[<- h1,<- h2];exact h
 case entry x=>
  obtain⟨h1,h2⟩:=hm (by simp[dV]);rw[<- he x (by simp[Op.operands])];unfold oR at h ⊢
  rw[<- h1,<- h2];exact h
 case binOp op T x y yT=>rw[<- he x (by simp[Op.operands]),<- he y (by simp[Op.operands])];exact h
 case unOp op T x=>rw[<- he x (by simp[Op.operands])];exact h
 case convert src dst x=>obtain⟨h1,h2⟩:=hm (by simp[dV]);rw[<- he x (by simp[Op.operands]),<- G4 h1 h2];exact h
 case makeFunc f a b=>rw[<- marr a λx hx=>he x (by simp[Op.operands,hx]),<- marr b λx hx=>he x (by simp[Op.operands,hx])];exact h
 try (case sliceToArrayPointer T x=>exact False.elim h)
 case nilCheck x=>rw[<- he x (by simp[Op.operands])];exact h
 case slice T x lo hi mx=>rw[<- he x (by simp[Op.operands]),<- mopt lo λx hx=>he x (by simp[Op.operands,hx]),<- mopt hi λx hx=>he x (by simp[Op.operands,hx]),<- mopt mx λx hx=>he x (by simp[Op.operands,hx])];exact h
 case fieldAddr T x f=>rw[<- he x (by simp[Op.operands])];exact h
 case field T x f=>rw[<- he x (by simp[Op.operands])];exact h
 case indexAddr T x i=>rw[<- he x (by simp[Op.operands]),<- he i (by simp[Op.operands])];exact h
 case index T x i=>rw[<- he x (by simp[Op.operands]),<- he i (by simp[Op.operands])];exact h
 case extract x i=>rw[<- he x (by simp[Op.operands])];exact h
 case call c=>
  obtain⟨callee,args,ts⟩:=c;cases callee with
  |value f=>
   simp only at h ⊢
   obtain⟨h1,h2⟩:=hm (by simp only[dV];split<;>simp);rw[<- he f (by simp[Op.operands,Call.operands]),<- marr args λx hx=>he x (by simp[Op.operands,Call.operands,hx])];unfold rq at h ⊢
   rw[<- aav h1 h2];exact h
  |invoke r m=>exact h
  |builtin b=>
   cases b
   case append=>
    simp only at h ⊢
    obtain⟨h1,h2⟩:=hm (by simp only[dV];split<;>simp);have:(args.toList.map λx=>vw s' (ev G s' x))=args.toList.map λx=>vw s (ev G s x):=bT λx hx=>by rw[G4 h1 h2,he x (by simp only[Op.operands,Call.operands];simpa using hx)]
    rw[this];split at h
    .rename_i hg
     rw[if_pos hg];split at h
     .rename_i Qs
      rw[if_pos Qs];unfold vr at h ⊢
      split at h
      .rename_i t y d ha
       have ht:s.fr t=s'.fr t:=(by have:=he (.tmp t) (by simp only[Op.operands,Call.operands];rw[eQ];exact cy.1 (by rw[ha];simp));simpa[ev] using this);have hy:ev G s y=ev G s' y:=he y (by simp only[Op.operands,Call.operands];rw[eQ];exact cy.1 (by rw[ha];simp));rw[<- ht,<- AZ d rfl,<- hy,<- G4 h1 h2];exact h
      .exact h.elim
     .rename_i Qs
      rw[if_neg Qs];unfold ju at h ⊢
      split at h
      .rename_i t y d ha
       have ht:s.fr t=s'.fr t:=(by have:=he (.tmp t) (by simp only[Op.operands,Call.operands];rw[eQ];exact cy.1 (by rw[ha];simp));simpa[ev] using this);have hy:ev G s y=ev G s' y:=he y (by simp only[Op.operands,Call.operands];rw[eQ];exact cy.1 (by rw[ha];simp));rw[<- ht,<- AZ d rfl,<- hy,<- G4 h1 h2];exact h
      .exact h.elim
    .rename_i hg
     rw[if_neg hg];exact h
   all_goals
    simp only at h ⊢
    rw[<- marr args λx hx=>he x (by simp[Op.operands,Call.operands,hx])];exact h
theorem Q7 {s':S} {e:Ef} (AZ:∀ d,o.dst=some d->s.fr d=s'.fr d) (he:∀ x∈o.op.operands,ev G s x=ev G s' x) (hm:dV tr o≠0->s.bx=s'.bx/\s.nb=s'.nb) (h:VEf P G tr o s e):VEf P G tr o s' e:=by
 unfold VEf at h ⊢
 split at h
 .exact h
 .rename_i T X cz
  rw[<- he X (by rw[cz];simp[Op.operands])];exact h
 .rename_i T p X cz
  obtain⟨h1,h2⟩:=hm (by simp[dV,cz]);rw[<- he p (by rw[cz];simp[Op.operands]),<- he X (by rw[cz];simp[Op.operands]),<- h1,<- h2];exact h
 .rename_i T len parts cz
  have:(parts.toList.map λ(i,x)=>(i,ev G s' x))=parts.toList.map λ(i,x)=>(i,ev G s x):=bT λp hp=>by obtain⟨i,x⟩:=p;simp only[he x (by rw[cz];simp only[Op.operands,gu,bU];exact⟨(i,x),hp,rfl⟩)]
  split at h
  .rename_i hn
   rw[if_pos hn];obtain⟨h1,h2⟩:=hm (by simp[dV,cz,hn]);rw[this,<- h1,<- h2];exact h
  .rename_i hn
   rw[if_neg hn];obtain⟨v,h1,h2⟩:=h;exact⟨v,h1,rD AZ he hm h2⟩
 .rename_i T l c cz
  obtain⟨h1,h2⟩:=hm (by simp[dV,cz]);rw[<- he l (by rw[cz];simp[Op.operands]),<- he c (by rw[cz];simp[Op.operands]),<- h1,<- h2];exact h
 .rename_i f args ts cz
  split at h
  .rename_i hn
   rw[if_pos hn];obtain⟨h1,h2⟩:=hm (by simp[dV,cz,hn]);have:args.toList.map (ev G s)=args.toList.map (ev G s'):=bT λx hx=>he x (by rw[cz];simp only[Op.operands,Call.operands];simp at hx;simp[hx]);rw[<- he f (by rw[cz];simp[Op.operands,Call.operands]),<- this,<- h1,<- h2];exact h
  .rename_i hn
   rw[if_neg hn];obtain⟨v,h1,h2⟩:=h;refine⟨v,h1,?_⟩;unfold VYQ at h2 ⊢
   split
   .rename_i Qx
    rw[if_pos Qx] at h2;obtain⟨q1,q2⟩:=hm (by simp[dV,cz,hn]);have:args.toList.map (ev G s)=args.toList.map (ev G s'):=bT λx hx=>he x (by rw[cz];simp only[Op.operands,Call.operands];simp at hx;simp[hx]);rw[<- he f (by rw[cz];simp[Op.operands,Call.operands]),<- this];exact zU (Nat.le_of_eq q2) (λi _=>by rw[q1]) h2
   .rename_i Qx
    rw[if_neg Qx] at h2;exact rD AZ he hm h2
 .rename_i T X cz
  obtain⟨v,h1,lX,h2⟩:=h;exact⟨v,h1,by rw[<- he X (by rw[cz];simp[Op.operands])];exact lX,rD AZ he hm h2⟩
 .rename_i T m k X cz
  obtain⟨h1,h2⟩:=hm (by simp[dV,cz]);rw[<- he m (by rw[cz];simp[Op.operands]),<- he k (by rw[cz];simp[Op.operands]),<- he X (by rw[cz];simp[Op.operands]),<- h1,<- h2];exact h
 .rename_i T m k cz
  obtain⟨h1,h2⟩:=hm (by simp[dV,cz]);rw[<- he m (by rw[cz];simp[Op.operands]),<- he k (by rw[cz];simp[Op.operands]),<- h1,<- h2];exact h
 .rename_i T m k X cz
  obtain⟨h1,h2⟩:=hm (by simp[dV,cz]);rw[<- he m (by rw[cz];simp[Op.operands]),<- he k (by rw[cz];simp[Op.operands]),<- he X (by rw[cz];simp[Op.operands]),<- h1,<- h2];exact h
 .rename_i args ts cz
  obtain⟨h1,h2⟩:=hm (by simp[dV,cz]);have:args.toList.map (ev G s)=args.toList.map (ev G s'):=bT λx hx=>he x (by rw[cz];simp only[Op.operands,Call.operands];simpa using hx);rw[<- this,<- h1,<- h2];exact h
 .rename_i args ts cz
  split at h
  .exact h.elim
  rename_i hn;rw[if_neg hn];split at h
  .rename_i hr
   rw[if_pos hr];obtain⟨h1,h2⟩:=hm (by simp[dV,cz,hr]);have:args.toList.map (ev G s)=args.toList.map (ev G s'):=bT λx hx=>he x (by rw[cz];simp only[Op.operands,Call.operands];simpa using hx);rw[<- this,<- h1,<- h2];exact h
  .rename_i hr
   rw[if_neg hr];obtain⟨v,h1,h2⟩:=h;exact⟨v,h1,rD AZ he hm h2⟩
 .rename_i args ts cz
  obtain⟨h1,h2⟩:=hm (by simp[dV,cz]);have:args.toList.map (ev G s)=args.toList.map (ev G s'):=bT λx hx=>he x (by rw[cz];simp only[Op.operands,Call.operands];simpa using hx);rw[<- this,<- h1,<- h2];exact h
 .obtain⟨v,h1,h2⟩:=h
  exact⟨v,h1,rD AZ he hm h2⟩
def yU (ops:Array Oper) (o:Oper) (s:S):Option Bool:=
 match o.guard with
 |none=>some true
 |some (j,want)=>match(ops[j]?).bind (·.dst) with
  |some d=>match s.fr d with
   | .c (.lit (.bool p))=>some (p==want)
   | .sk=>some false
   |_=>none
  |none=>none
def TEf (P:Program) (G:Gl) (tr:List Nat) (ops:Array Oper) (o:Oper) (s:S) (e:Ef):Prop:=
 (yU ops o s=some true/\VEf P G tr o s e/\e≠.skip)∨(yU ops o s=some false/\e=.skip)
theorem kG {K:S->Prop} (EE:pe tr o=false) (h:nM ops o s (λs=>VStep P G tr o s K) (λs=>K (s.put o.dst .sk))):∃ e,TEf P G tr ops o s e/\K (e.run tr o s):=by
 unfold nM at h;have yes:yU ops o s=some true->VStep P G tr o s K->∃ e,TEf P G tr ops o s e/\K (e.run tr o s):=λhg hv=>by obtain⟨e,h1,h2,h3⟩:=hv.ef EE;exact⟨e,.inl ⟨hg,h2,h1⟩,h3⟩
 have no:yU ops o s=some false->K (s.put o.dst .sk)->∃ e,TEf P G tr ops o s e/\K (e.run tr o s):=λhg hv=>⟨.skip,.inr ⟨hg,rfl⟩,by rw[BU];exact hv⟩;split at h
 .rename_i hg
  exact yes (by unfold yU;rw[hg]) h
 .rename_i j want hg
  split at h
  .rename_i d hd
   split at h
   .rename_i p hp
    by_cases hpw:p=want
    .subst hpw
     have:=h.1 rfl;rw[S.up_id hp] at this;exact yes (by unfold yU;simp only[hg,hd,hp,beq_self_eq_true]) this
    .have hpn:p=!want:=by cases p<;>cases want<;>simp_all
     have:=h.2 hpn;rw[<- hpn,S.up_id hp] at this;exact no (by unfold yU;simp only[hg,hd,hp];simpa using hpw) this
   .rename_i hp
    exact no (by unfold yU;simp only[hg,hd,hp]) h
   .exact h.elim
  .exact h.elim
theorem qE (hst:St G n I0 M w0 I β ob s a w) {p:Bool} (h:yU ops o s=some p):Region.wanted o (yielded ops a.tmps)=p:=by
 unfold yU at h;unfold Region.wanted;split at h
 .rename_i hg;rw[hg];simpa using h
 .rename_i j want hg
  rw[hg];split at h
  .rename_i d hd
   split at h
   .rename_i q hq
    simp only[xC hst hd hq];simp only[ao] at h;rw[<- h];cases q<;>cases want<;>rfl
   .rename_i hq
    simp only[BN hst hd hq];simp only[ao] at h;rw[<- h];rfl
   .cases h
  .cases h
def wu (P:Program) (G:Gl) (tr:List Nat) (ops:Array Oper) (i:Nat) (K:S->Prop) (s:S):Prop:=
 match ops[i]? with
 |none=>K s
 |some o=>∃ e,TEf P G tr ops o s e/\K (e.run tr o s)
def G5 (P:Program) (G:Gl) (tr:List Nat) (md:Region.Mode) (ops:Array Oper) (K:S->Prop):Nat->Array Bool->S->Prop
 |0,listed,s=>Region.ready md ops listed=[]/\K s
 |fuel+1,listed,s=>
  (Region.ready md ops listed=[]->K s)/\
  ∀ i∈Region.ready md ops listed,wu P G tr ops i (G5 P G tr md ops K fuel (listed.setIfInBounds i true)) s
theorem pO (eH:mR n ops=true) {K:S->Prop} (hK:∀ a w s,K s->SE G n I0 M w0 s a w->Q .normal a w):∀ (fuel:Nat) (listed:Array Bool) (s:S) (a:Act) (w:World),
 G5 P G tr md ops K fuel listed s->SE G n I0 M w0 s a w->wpAny P md ops Q fuel listed a w
 |0,_,_,_,_,h,dD=>⟨h.1,hK _ _ _ h.2 dD⟩
 |fuel+1,_,s,a,w,h,dD=>by
  refine⟨λh0=>hK _ _ _ (h.1 h0) dD,λi hi=>?_⟩;have hh:=h.2 i hi;unfold wu at hh;unfold wpOp;split
  .rename_i ho;simp only[ho] at hh;exact pO eH hK fuel _ s a w hh dD
  .rename_i o ho
   simp only[ho] at hh;obtain⟨e,he,hh⟩:=hh;have jG:o∈ops.toList:=(by have:=fD ho;simpa using this);obtain⟨I,β,ob,hst⟩:=dD;rcases he with⟨hg,hv,_⟩ | ⟨hg,rfl⟩
   .rw[if_pos (qE hst hg)]
    exact .inl (EY hst (fa eH jG) hv λa' w' tB=>pO eH hK fuel _ _ a' w' hh tB)
   .rw[qE hst hg]
    simp only[aM,df];rw[BU] at hh;exact pO eH hK fuel _ _ _ w hh (SE.put hst (fa eH jG) (by simp only[LR];exact .sk))
def wr (tr:List Nat) (o:Oper):List Tmp:=o.dst.toList++(cn tr o).toList
def nk (tr:List Nat) (x y:Oper):Bool:=match x.op,x.dst,y.op with
 | .load _ _,some d,.store _ (.tmp t) _=>tr.contains (200000+d)&&tr.contains (200000+t)&&(List.range 100).all λb=>!(tr.contains (300000+d*100+b)&&tr.contains (300000+t*100+b))
 | .load _ _,some d,.call { callee:=.value _,.. }=>tr.contains (200000+d)&&(xm tr y.dst&&Ea tr y.dst)&&(List.range 100).all λb=>!(tr.contains (300000+d*100+b)&&tr.contains (500000+y.dst.getD 0*100+b))
 |_,_,_=>false
def pq (x y:Oper):Bool:=match x.op,y.op with
 | .lookup T (.tmp m) (.tmp k) false,.mapEntry U (.tmp m') (.tmp k')=>T==U&&m==m'&&k==k'
 |_,_=>false
def xG (tr:List Nat) (x y:Oper):Bool:=dV tr x==1&&match y.op with
 | .alloc _=>true
 | .box _ _=>true
 | .buildSlice _ _ _=>oe tr y.dst
 |_=>false
def G6 (tr:List Nat) (ops:Array Oper) (x y:Oper):Bool:=
 ((wr tr x).all λd=>!(y.looksAt ops).contains d&&!(wr tr y).contains d)&&((wr tr y).all λd=>!(x.looksAt ops).contains d)&&
 ((dV tr x !=2||dV tr y==0||(nk tr y x||pq y x))&&(dV tr y !=2||dV tr x==0||(nk tr x y||(pq x y||xG tr x y))))
structure Jn (tr:List Nat) (ops:Array Oper) (x y:Oper):Prop where
 xy:∀ d∈wr tr x,d∉y.looksAt ops
 ww:∀ d∈wr tr x,d∉wr tr y
 yx:∀ d∈wr tr y,d∉x.looksAt ops
 mx:dV tr x=2->dV tr y=0∨nk tr y x=true∨pq y x=true
 my:dV tr y=2->dV tr x=0∨nk tr x y=true∨pq x y=true∨xG tr x y=true
theorem Jo {x y:Oper} (h:G6 tr ops x y=true):Jn tr ops x y:=by
 simp only[G6,aW,aY,ew,iQ,dq,fu,bne_iff_ne,kO] at h;obtain⟨⟨h1,h2⟩,h3,h4⟩:=h;exact⟨λd hd=>(h1 d hd).1,λd hd=>(h1 d hd).2,h2,λh=>by rcases h3 with(h3 | h3) | h3;exact absurd h h3;exact .inl h3;exact .inr h3,
  λh=>by rcases h4 with(h4 | h4) | h4;exact absurd h h4;exact .inl h4;exact .inr h4⟩
def sZ (tr:List Nat) (o:Oper) (u:Bool) (x:V) (fr:Nat->V):Nat->V:=Jk o.dst x (G1 u (cn tr o) fr)
theorem BW (u:Bool) (c:Option Tmp) (fr:Nat->V) (t:Nat):G1 u c fr t=if c=some t/\u=true/\(fr t).isOw=true then .un else fr t:=by
 unfold G1;cases c with
 |none=>simp
 |some q=>
  simp only;by_cases hq:q=t
  .subst hq
   by_cases h:u=true/\(fr q).isOw=true
   .rw[if_pos (by simp[h.1,h.2]),cg,if_pos ⟨rfl,h⟩]
   .rw[if_neg (by simpa using h),if_neg (λe=>h e.2)]
  .have:¬ (some q=some t/\u=true/\(fr t).isOw=true):=λe=>hq (by simpa using e.1)
   rw[if_neg this];split
   .rw[cP _ _ (gZ hq)]
   .rfl
theorem ot (u:Bool) (x:V) (fr:Nat->V) (t:Nat):sZ tr o u x fr t=if o.dst=some t then x else if cn tr o=some t/\u=true/\(fr t).isOw=true then .un else fr t:=by
 unfold sZ Jk;cases o.dst with
 |none=>simpa using BW u (cn tr o) fr t
 |some d=>
  simp only;by_cases hd:d=t
  .subst hd;simp
  .rw[cP _ _ (gZ hd),if_neg (by simpa using hd)]
   exact BW u (cn tr o) fr t
theorem kC {u:Bool} {x:V} {fr:Nat->V} {t:Nat} (h:t∉wr tr o):sZ tr o u x fr t=fr t:=by simp only[wr,ba,Option.mem_toList,not_or] at h;rw[ot,if_neg h.1,if_neg (λe=>h.2 e.1)]
theorem BX {x y:Oper} (h:∀ d∈wr tr x,d∉wr tr y) (u u':Bool) (vx vy:V) (fr:Nat->V) :
 sZ tr y u' vy (sZ tr x u vx fr)=sZ tr x u vx (sZ tr y u' vy fr):=by
 funext t;by_cases hx:t∈wr tr x
 .rw[kC (h t hx),ot,ot,kC (h t hx)]
 .have e1:sZ tr x u vx fr t=fr t:=kC hx
  have e2:sZ tr x u vx (sZ tr y u' vy fr) t=sZ tr y u' vy fr t:=kC hx;rw[e2,ot (o:=y),e1,ot (o:=y)]
theorem BY (e:Ef):e.run tr o s=⟨sZ tr o e.uses (e.val s.nb) s.fr,e.bx s.nb s.bx,e.nb s.nb⟩:=rfl
theorem aaw {e:Ef} (h:VEf P G tr o s e) (hm:dV tr o≠2):∃ v,e=.v v:=by
 unfold VEf at h;split at h
 .rename_i cz;simp[dV,cz] at hm
 .rename_i cz;simp[dV,cz] at hm
 .rename_i cz;simp[dV,cz] at hm
 .rename_i cz
  split at h
  .rename_i hn;simp[dV,cz,hn] at hm
  .obtain⟨v,rfl,_⟩:=h;exact⟨v,rfl⟩
 .rename_i cz;simp[dV,cz] at hm
 .rename_i cz
  split at h
  .rename_i hn;simp[dV,cz,hn] at hm
  .obtain⟨v,rfl,_⟩:=h;exact⟨v,rfl⟩
 .obtain⟨v,rfl,_⟩:=h;exact⟨v,rfl⟩
 .rename_i cz;simp[dV,cz] at hm
 .rename_i cz;simp[dV,cz] at hm
 .rename_i cz;simp[dV,cz] at hm
 .rename_i cz;simp[dV,cz] at hm
 .rename_i cz
  split at h
  .exact h.elim
  split at h
  .rename_i hr;simp[dV,cz,hr] at hm
  .obtain⟨v,rfl,_⟩:=h;exact⟨v,rfl⟩
 .rename_i cz;simp[dV,cz] at hm
 .obtain⟨v,rfl,_⟩:=h;exact⟨v,rfl⟩
theorem A6 {e:Ef} (h:TEf P G tr ops o s e) (hm:dV tr o≠2):(∃ v,e=.v v)∨e=.skip:=by
 rcases h with⟨_,h,_⟩ | ⟨_,h⟩
 .exact .inl (aaw h hm)
 .exact .inr h
theorem pD {e:Ef} (h:(∃ v,e=.v v)∨e=.skip) (bx:Nat->List V) (nb nb':Nat):e.bx nb bx=bx/\e.nb nb=nb/\e.val nb=e.val nb':=by
 rcases h with⟨v,rfl⟩ | rfl<;>exact⟨rfl,rfl,rfl⟩
theorem j7 {s':S} (h:∀ t∈o.looksAt ops,s.fr t=s'.fr t):yU ops o s=yU ops o s':=by
 unfold yU;split
 .rfl
 .rename_i j want hg
  split
  .rename_i d hd
   have:d∈o.looksAt ops:=(by unfold Oper.looksAt;rw[hg];simp only[ba,Option.mem_toList];exact .inr hd);rw[h d this]
  .rfl
theorem j8 {x:Operand} {t:Tmp} (hx:x∈o.op.operands) (ht:x=.tmp t):t∈o.looksAt ops:=by unfold Oper.looksAt;simp only[ba,List.mem_filterMap];exact .inl ⟨x,by simpa using hx,by rw[ht]⟩
theorem uR {s':S} {e:Ef} (AZ:∀ d,o.dst=some d->s.fr d=s'.fr d) (hl:∀ t∈o.looksAt ops,s.fr t=s'.fr t) (hm:dV tr o≠0->s.bx=s'.bx/\s.nb=s'.nb) (h:TEf P G tr ops o s e):TEf P G tr ops o s' e:=by
 rcases h with⟨h1,h2,h3⟩ | ⟨h1,h2⟩
 .exact .inl ⟨by rw[<- j7 hl];exact h1,Q7 AZ (λx hx=>BV λt ht=>hl t (j8 hx ht)) hm h2,h3⟩
 .exact .inr ⟨by rw[<- j7 hl];exact h1,h2⟩
theorem si {x y:Oper} (h:nk tr x y=true):∃ T X d,x.op=.load T X/\x.dst=some d/\tr.contains (200000+d)=true/\
 ((∃ U t Y,y.op=.store U (.tmp t) Y/\tr.contains (200000+t)=true/\∀ b,b<100->tr.contains (300000+d*100+b)=true->tr.contains (300000+t*100+b)=true->False)∨
  (∃ c f,y.op=.call c/\c.callee=.value f/\xm tr y.dst=true/\Ea tr y.dst=true/\∀ b,b<100->tr.contains (300000+d*100+b)=true->tr.contains (500000+y.dst.getD 0*100+b)=true->False)):=by
 unfold nk at h;split at h
 .rename_i T X d U t Y h1 h2 h3
  simp only[aW,aY] at h;refine⟨T,X,d,h1,h2,h.1.1,.inl ⟨U,t,Y,h3,h.1.2,λb hb q1 q2=>?_⟩⟩;have:=h.2 b (c9.2 hb);rw[q1,q2] at this;cases this
 .rename_i T X d f args ts h1 h2 h3
  simp only[aW,aY] at h;refine⟨T,X,d,h1,h2,h.1.1,.inr ⟨_,f,h3,rfl,h.1.2.1,h.1.2.2,λb hb q1 q2=>?_⟩⟩;have:=h.2 b (c9.2 hb);rw[q1,q2] at this;cases this
 .cases h
theorem Jp {x y:Oper} (h:nk tr x y=true):dV tr x=1:=by obtain⟨T,X,d,h1,_⟩:=si h;simp[dV,h1]
theorem Vo {T:TypeId} {s':S} {b k:Nat} {K:V->Prop} (hb:s'.bx b=s.bx b) (hn:s'.nb=s.nb) (h:dG P T s (.bp b k) K):dG P T s' (.bp b k) K:=by
 unfold dG at *;cases hT:ti P T with
 |none=>rw[hT] at h;exact h.elim
 |some i=>
  rw[hT] at h;simp only at h ⊢
  rw[hb,hn];exact h
theorem zV {T:TypeId} {s':S} {K:V->Prop} (hx:∀ b k,x≠.bp b k) (hex:∀ v,x≠.c (.ex v)) (h:dG P T s x K):dG P T s' x K:=by
 unfold dG at *;cases hT:ti P T with
 |none=>rw[hT] at h;exact h.elim
 |some i=>
  rw[hT] at h;cases x with
  |c c=>
   cases c with
   |ex v=>exact absurd rfl (hex v)
   |_=>exact h
  |bp b k=>exact absurd rfl (hx b k)
  |_=>exact h.elim
theorem Jq {x y:Oper} {f:Ef} (dU:nk tr x y=true) (hy:TEf P G tr ops y s f):f.nb s.nb=s.nb/\∀ d b,x.dst=some d->b<100->tr.contains (300000+d*100+b)=true->f.bx s.nb s.bx b=s.bx b:=by
 obtain⟨T,X,d,EF,Ur,hd,LS⟩:=si dU;rcases hy with⟨_,hv,_⟩ | ⟨_,rfl⟩
 .unfold VEf at hv
  rcases LS with⟨U,t,Y,Gf,ht,gy⟩ | ⟨c,g,Gf,hy2,hm,hl,gy⟩
  .rw[Gf] at hv
   simp only at hv;obtain⟨lX,hv⟩:=hv;split at hv
   .rename_i i b k cs h1 h2 h3
    obtain⟨_,rfl⟩:=hv;rw[h2] at lX;simp only[MD,qC,UX,ht,kf,Bool.false_or,aW,bF] at lX;refine⟨rfl,λd' b' qy yI EA=>?_⟩;rw[Ur] at qy;cases qy;have gY:b'≠b:=(by rintro rfl;exact gy b' yI EA lX.2);simp only[Ef.bx,cP _ _ gY]
   .rename_i i blk j h1 h2
    rw[h2] at lX;simp only[MD,qC,ht,kf] at lX;cases lX
   .exact hv.elim
  .obtain⟨callee,args,ts⟩:=c
   simp only at hy2;subst hy2;rw[Gf] at hv;simp only[hm,cZ] at hv;obtain⟨bx,nb,x',rfl,_,h2⟩:=hv;obtain⟨h3,h4⟩:=h2 hl;refine⟨h3,λd' b' qy yI EA=>?_⟩;rw[Ur] at qy;cases qy;rcases h4 b' with h | ⟨_,h⟩
   .exact h
   .exact(gy b' yI EA h).elim
 .exact⟨rfl,λ_ _ _ _ _=>rfl⟩
theorem Vp {x y:Oper} {e:Ef} {s':S} (dU:nk tr x y=true) (hl:∀ t∈x.looksAt ops,s.fr t=s'.fr t)
 (oJ:∀ d b,x.dst=some d->b<100->tr.contains (300000+d*100+b)=true->s'.bx b=s.bx b) (D2:s'.nb=s.nb) (h:TEf P G tr ops x s e):TEf P G tr ops x s' e:=by
 obtain⟨T,X,d,EF,Ur,hd,_⟩:=si dU;rcases h with⟨h1,h2,h3⟩ | ⟨h1,h2⟩
 .refine .inl ⟨by rw[<- j7 hl];exact h1,?_,h3⟩
  have tj:ev G s X=ev G s' X:=BV λq hq=>hl q (j8 (by rw[EF];simp[Op.operands]) hq);unfold VEf at h2 ⊢
  rw[EF] at h2 ⊢
  simp only at h2 ⊢
  obtain⟨v,he,lX,hv⟩:=h2;refine⟨v,he,by rw[<- tj];exact lX,?_⟩;obtain⟨dst,op,type,pos,after,guard⟩:=x;simp only at EF Ur lX tj oJ;subst EF;subst Ur;simp only[VYK] at hv ⊢
  rw[<- tj];rcases LS:ev G s X with _ | _ | c | _ | _ | _ | ⟨b,k⟩ | _ | _ | _
  case bp=>rw[LS] at lX hv;simp only[qC,UX,hd,kf,Bool.false_or,aW,bF] at lX;exact Vo (oJ d b rfl lX.1 lX.2) D2 hv
  case c=>rw[LS] at lX hv;refine zV (λ_ _ e=>by cases e) (λv e=>?_) hv;cases e;simp only[qC,hd,kf] at lX;cases lX
  all_goals
   rw[LS] at hv;exact zV (λ_ _ e=>by cases e) (λ_ e=>by cases e) hv
 .exact .inr ⟨by rw[<- j7 hl];exact h1,h2⟩
theorem sj {x y:Oper} (h:pq x y=true):∃ T m k,x.op=.lookup T (.tmp m) (.tmp k) false/\y.op=.mapEntry T (.tmp m) (.tmp k):=by
 unfold pq at h;split at h
 .rename_i T m k U m' k' h1 h2
  simp only[aW,kO] at h;obtain⟨⟨rfl,rfl⟩,rfl⟩:=h;exact⟨T,m,k,h1,h2⟩
 .cases h
theorem Jr {x y:Oper} (h:pq x y=true):dV tr x=1/\dV tr y=2:=by obtain⟨T,m,k,h1,h2⟩:=sj h;simp[dV,h1,h2]
theorem BZ {ag:Bool}:∀ {r:List V} {l:List (List C)},j6 ag r=some l->r.length=2*l.length
 |[],l,h=>by simp only[j6,ao] at h;subst h;rfl
 |[_],l,h=>by simp[j6] at h
 |k::v::r,l,h=>by
  unfold j6 at h;split at h
  .rename_i q l' h1 h2
   simp only[ao] at h;subst h;have:=BZ h2;simp[this];omega
  .cases h
theorem zW {ag:Bool} {k v:V} {q:List C} (hk:k.kcs ag=some q):∀ {r:List V} {l:List (List C)},j6 ag r=some l->j6 ag (r++[k,v])=some (l++[q])
 |[],l,h=>by simp only[j6,ao] at h;subst h;simp[j6,hk]
 |[_],l,h=>by simp[j6] at h
 |k'::v'::r,l,h=>by
  unfold j6 at h;split at h
  .rename_i q' l' h1 h2
   simp only[ao] at h;subst h;have:=zW (v:=v) hk h2;simp only[dE,j6,h1,this]
  .cases h
theorem B0 {ks:List EK} {k:List C} (hl:k.length=ks.length) (hr:iG ks k k=some true):∀ {l:List (List C)} {i:Nat},nG ks k l i=some none->nG ks k (l++[k]) i=some (some (i+l.length))
 |[],i,_=>by simp[nG,hl,hr]
 |k'::l,i,h=>by
  unfold nG at h;split at h
  .rename_i h1
   split at h
   .cases h
   .rename_i h2
    simp only[dE,nG,h1,cZ,h2];rw[B0 hl hr h];simp;omega
   .cases h
  .cases h
theorem B2 {T:TypeId} {k:V} {K:S->V->Prop} (h:gq P T s x k K):∃ w,fL P T s x k false (λu=>w=u):=by
 unfold gq at h;obtain⟨i,bs,cl,r,res,z,h1,h2⟩:=jn h;cases res with
 |none=>exact⟨_,gA h1 rfl⟩
 |some j=>exact⟨_,gA h1 rfl⟩
theorem zX {T:TypeId} {bx':Nat->List V} {k v u:V} {s':S} (h:gq P T s x k (λs' u'=>bx'=s'.bx/\u=u')) (hv:fL P T s x k false (λw=>v=w)) (h1:s'.bx=bx') (h2:s'.nb=s.nb) :
 fL P T s' x k false (λw=>v=w):=by
 subst h1;unfold gq at h;obtain⟨i,kt,et,tT,tk,te,ks,kc,z,bs,cl,r,kcs,res,q1,q2,rfl,q3,q4,q5,q6,q7,q8,q9,q10,⟨q11,q12,q13,q14⟩,hK⟩:=wh h;have hv':fL P T s (.mr i) k false (λw=>(match res with | some j=>(r.getD (2*j+1) .un).fz | none=>z)=w):=by unfold fL;refine pC q1 q2 q3 q4 q5 q6 q7 q8 q9 q10 q11 q12 q13 q14 ?_;cases res<;>rfl
 have Iq:=zS hv hv';unfold fL;cases res with
 |some j=>obtain⟨hb,_⟩:=hK;refine pC q1 q2 q3 q4 q5 q6 q7 (by rw[hb];exact q8) q9 q10 (by rw[h2];exact q11) q12 q13 q14 ?_;exact Iq
 |none=>
  obtain⟨hb,_⟩:=hK;have hkf:k.fz.kcs tk.agg=some kc:=by cases k<;>simp_all[V.fz,V.kcs]
  have hz:z.fz=z:=by
   unfold oO at q7;split at q7<;>first | (simp only[ao] at q7;subst q7;rfl) | cases q7
  have cj:=BZ q9;refine pC (bs:=bs++[cl]) (cl:=cl+1) (r:=r++[k.fz,z]) q1 q2 q3 q4 q5 q6 q7 (by rw[hb];simp only[cg]) (zW hkf q9) (B0 q12 q13 q10) (by rw[h2];exact q11) q12 q13 q14 ?_;simp only;rw[show v=z from Iq];have:(r++[k.fz,z]).getD (2*(0+kcs.length)+1) .un=z:=by rw[aF,<- cj];simp
  rw[this,hz];rfl
theorem yV {s':S} (hn:s.nb<=s'.nb) (hb:∀ i,i<s.nb->s'.bx i=s.bx i) {i:Nat} {cs:List C} (h:AA s i=some cs):AA s' i=some cs:=by
 unfold AA at *;split at h
 .rename_i hi;rw[if_pos (by omega),hb i hi];exact h
 .cases h
theorem wx {s':S} (hn:s.nb<=s'.nb) (hb:∀ i,i<s.nb->s'.bx i=s.bx i) {i off len sz:Nat} {c:C} (h:nF s i off len sz=some c):nF s' i off len sz=some c:=by
 unfold nF at *;split at h
 .rename_i cs hc;simp only[yV hn hb hc];exact h
 .cases h
theorem yW {s':S} (hn:s.nb<=s'.nb) (hb:∀ i,i<s.nb->s'.bx i=s.bx i) {x:V} {c:C} (h:v7 s x=some c):v7 s' x=some c:=by
 unfold v7 at *;split at h
 .exact h
 .exact h
 .obtain⟨cs,hc,rfl⟩:=aV.1 h;rw[yV hn hb hc];rfl
 .exact wx hn hb h
 .cases h
theorem mT {α β:Type} {f g:α->Option β} (h:∀ x y,f x=some y->g x=some y):∀ {l:List α} {r:List β},l.mapM f=some r->l.mapM g=some r
 |[],r,hr=>by simpa using hr
 |x::l,r,hr=>by
  rw[gb] at hr ⊢
  cases hx:f x with
  |none=>rw[hx] at hr;cases hr
  |some y=>
   rw[hx] at hr;rw[h x y hx];cases hl:l.mapM f with
   |none=>rw[hl] at hr;cases hr
   |some r'=>rw[hl] at hr;rw[mT h hl];exact hr
theorem xH {s':S} (hn:s.nb<=s'.nb) (hb:∀ i,i<s.nb->s'.bx i=s.bx i) {x y:V} (h:imm s x=some y):imm s' x=some y:=by
 unfold imm at *;split at h
 .exact h
 .exact h
 .exact h
 .obtain⟨cs,hc,rfl⟩:=aV.1 h;rw[yV hn hb hc];rfl
 .split at h
  .rename_i e1 e2
   simp only[mT (λ_ _=>yW hn hb) e1,mT (λ_ _=>yW hn hb) e2];exact h
  .cases h
 .obtain⟨c,hc,rfl⟩:=aV.1 h;rw[wx hn hb hc];rfl
 .obtain⟨c,hc,rfl⟩:=aV.1 h;rw[mT (λ_ _=>yW hn hb) hc];rfl
 .cases h
theorem uS {s':S} (hn:s.nb<=s'.nb) (hb:∀ i,i<s.nb->s'.bx i=s.bx i) (x:V):vw s x=vw s' x∨vw s x=.un:=by
 cases x<;>try exact .inl rfl
 case ms i off len cap sz=>
  simp only[vw];cases hv:nF s i off len sz with
  |none=>exact .inr rfl
  |some c=>rw[wx hn hb hv];exact .inl rfl
theorem Q8 {s':S} {ts:List TypeId} {z y:V} {K:V->Prop} (hn:s.nb<=s'.nb) (hb:∀ i,i<s.nb->s'.bx i=s.bx i) (h:e9 P .append ts [z,vw s y] K):e9 P .append ts [z,vw s' y] K:=by
 rcases uS hn hb y with e2 | e2
 .rw[<- e2];exact h
 .rw[e2] at h
  unfold e9 at h;split at h<;>first | cases ‹Builtin.append=_› | skip
  .rename_i t t' x y' hxy
   obtain⟨rfl,rfl⟩:z=x/\V.un=y':=by simp only[cN,gC] at hxy;exact hxy
   split at h
   .exfalso
    unfold dR at h;split at h
    .split at h
     .exact h.2.elim
     .exact h.elim
    .exact h.elim
   .exfalso;unfold qA at h;simp[V.fz] at h
  .exact h.elim
theorem M4 {s':S} {ts:List TypeId} {E:Option (TypeId×Nat)} {es:List (List C)} {y:V} {K:V->Prop} (hn:s.nb<=s'.nb) (hb:∀ i,i<s.nb->s'.bx i=s.bx i) (h:tI P ts E es (vw s y).fz K):tI P ts E es (vw s' y).fz K:=by
 rcases uS hn hb y with e2 | e2
 .rw[<- e2];exact h
 .exfalso
  rw[e2] at h;unfold tI at h;split at h
  .obtain⟨_,h⟩:=h
   split at h
   .split at h
    .obtain⟨_,h⟩:=h
     split at h
     .rename_i e;cases e
     .exact h.elim
    .exact h.elim
   .exact h.elim
  .exact h.elim
theorem B5 {s':S} {ts:List TypeId} {E:Option (TypeId×Nat)} {es:List (List C)} {y:V} {K:V->Prop} (hn:s.nb<=s'.nb) (hb:∀ i,i<s.nb->s'.bx i=s.bx i) (h:nH P ts E es (vw s y).fz K):nH P ts E es (vw s' y).fz K:=by
 rcases uS hn hb y with e2 | e2
 .rw[<- e2];exact h
 .exfalso
  rw[e2] at h;unfold nH at h;split at h
  .obtain⟨_,h⟩:=h
   split at h
   .split at h
    .obtain⟨_,h⟩:=h
     split at h
     .rename_i e;cases e
     .exact h.elim
    .exact h.elim
   .exact h.elim
  .exact h.elim
theorem xI {s':S} {K:V->Prop} (AZ:∀ d,o.dst=some d->s.fr d=s'.fr d) (he:∀ x∈o.op.operands,ev G s x=ev G s' x) (hn:s.nb<=s'.nb) (hb:∀ i,i<s.nb->s'.bx i=s.bx i) (hm:dV tr o=1) (h:VYK P G tr o s K):VYK P G tr o s' K:=by
 have marr:∀ l:Array Operand,(∀ x∈l,ev G s x=ev G s' x)->l.toList.map (ev G s)=l.toList.map (ev G s'):=λl hl=>bT λx hx=>hl x (by simpa using hx);have ON:=hm;obtain⟨dst,op,type,pos,after,guard⟩:=o;cases op<;>simp only[dV] at hm<;>try cases hm
 case buildSlice=>split at hm<;>cases hm
 case load T x=>
  simp only[VYK] at h ⊢
  rw[<- he x (by simp[Op.operands])];unfold dG at h ⊢
  split at h
  .exact h
  .rename_i i b k _
   obtain⟨⟨h1,h2⟩,h3⟩:=h;rw[hb _ h1];exact⟨⟨by omega,h2⟩,h3⟩
  .rcases h with⟨h1,b,k,len,cap,E,es,c,⟨q1,q2,q3,q4⟩,h⟩ | ⟨b,k,len,cap,E,es,⟨q1,q2,q3⟩,h⟩
   .exact .inl ⟨h1,b,k,len,cap,E,es,c,⟨by omega,by rw[hb _ q1];exact q2,by rw[hb _ q1];exact q3,q4⟩,h⟩
   .exact .inr ⟨b,k,len,cap,E,es,⟨by omega,by rw[hb _ q1];exact q2,by rw[hb _ q1];exact q3⟩,h⟩
  .exact h.elim
 case convert src dst' x=>
  simp only[VYK] at h ⊢
  rw[<- he x (by simp[Op.operands])];rcases uS hn hb (ev G s x) with e | e
  .rw[<- e];exact h
  .rw[e] at h;simp[V.fz,jR] at h
 case lookup T x k ok=>
  simp only[VYK] at h ⊢
  rw[<- he x (by simp[Op.operands]),<- he k (by simp[Op.operands])];unfold fL at h ⊢
  obtain⟨i,kt,et,tT,tk,te,ks,kc,z,bs,cl,r,kcs,res,q1,q2,q3,q4,q5,q6,q7,q8,q9,q10,q11,⟨q12,q13,q14,q15⟩,hK⟩:=wh h;rw[q3];exact pC q1 q2 q4 q5 q6 q7 q8 (by rw[hb i q12];exact q9) q10 q11 (by omega) q13 q14 q15 hK
 case range T x=>
  simp only[VYK] at h ⊢
  rw[<- he x (by simp[Op.operands])];unfold oP at h ⊢
  split at h
  .rename_i i _
   split at h
   .rename_i e1
    obtain⟨h1,h2⟩:=h;rw[hb _ h1];simp only[e1];exact⟨by omega,h2⟩
   .exact h.elim
  .exact h.elim
 case entry x=>
  simp only[VYK] at h ⊢
  rw[<- he x (by simp[Op.operands])];unfold oR at h ⊢
  split at h
  .rename_i i since stepped seen _
   split at h
   .rename_i e1 e2
    split at h
    .rename_i e3
     obtain⟨⟨h1,h0⟩,h2⟩:=h;rw[hb _ h1];simp only[e1,e2,e3];exact⟨⟨by omega,h0⟩,h2⟩
    .exact h.elim
   .exact h.elim
  .exact h.elim
 case call c=>
  obtain⟨callee,args,ts⟩:=c;cases callee with
  |value f=>
   simp only[VYK] at h ⊢
   rw[<- he f (by simp[Op.operands,Call.operands]),<- marr args λx hx=>he x (by simp[Op.operands,Call.operands,hx])];unfold rq at h ⊢
   split at h
   .split at h
    .rename_i e1;simp only[mT (λ_ _=>xH hn hb) e1];exact h
    .exact h.elim
   .split at h
    .rename_i e1 e2 e3
     simp only[mT (λ_ _=>xH hn hb) e1,mT (λ_ _=>xH hn hb) e2,mT (λ_ _=>xH hn hb) e3];exact h
    .exact h.elim
   .exact h.elim
  |invoke r m=>exact h.elim
  |builtin b=>
   cases b<;>first | (simp[dV] at ON;done) | skip
   case append=>
    by_cases hgh:Bt tr dst=true
    .simp only[VYK,if_pos hgh] at h ⊢
     by_cases hho:xl tr dst=true
     .rw[if_pos hho] at h ⊢
      unfold vr at h ⊢
      split at h
      .rename_i t y d ha
       have ht:s.fr t=s'.fr t:=(by have:=he (.tmp t) (by simp only[Op.operands,Call.operands];rw[eQ];exact cy.1 (by rw[ha];simp));simpa[ev] using this);have hy:ev G s y=ev G s' y:=he y (by simp only[Op.operands,Call.operands];rw[eQ];exact cy.1 (by rw[ha];simp));rw[<- ht,<- AZ d rfl,<- hy];split at h
       .exact⟨h.1,M4 hn hb h.2⟩
       .exact h.elim
      .exact h.elim
     .rw[if_neg hho] at h ⊢
      unfold ju at h ⊢
      split at h
      .rename_i t y d ha
       have ht:s.fr t=s'.fr t:=(by have:=he (.tmp t) (by simp only[Op.operands,Call.operands];rw[eQ];exact cy.1 (by rw[ha];simp));simpa[ev] using this);have hy:ev G s y=ev G s' y:=he y (by simp only[Op.operands,Call.operands];rw[eQ];exact cy.1 (by rw[ha];simp));rw[<- ht,<- AZ d rfl,<- hy];split at h
       .exact⟨h.1,Q8 hn hb h.2⟩
       .exact⟨h.1,B5 hn hb h.2⟩
       .exact⟨h.1,B5 hn hb h.2⟩
       .exact h.elim
      .exact h.elim
    simp only[VYK,if_neg hgh] at h ⊢
    have hh:(args.toList.map λx=>vw s' (ev G s' x))=args.toList.map λx=>vw s' (ev G s x):=bT λx hx=>by rw[he x (by simp only[Op.operands,Call.operands];simpa using hx)]
    rw[hh];unfold e9 at h ⊢
    split at h<;>first | cases ‹Builtin.append=_› | skip
    .rename_i t t' x y qq dN
     obtain⟨X,Y,hX,rfl,rfl⟩:∃ X Y,args.toList=[X,Y]/\x=vw s (ev G s X)/\y=vw s (ev G s Y):=by
      cases ha:args.toList with
      |nil=>simp[ha] at dN
      |cons X l=>
       cases l with
       |nil=>simp[ha] at dN
       |cons Y l=>simp only[ha,bA,cN,eY] at dN;exact⟨X,Y,by rw[dN.2.2],dN.1.symm,dN.2.1.symm⟩
     rw[hX,qq];simp only[bA,jY];have gy:∀ u K',¬ dR P t .un u K':=λu K' h=>by simp[dR] at h
     have anr:∀ u K',¬ dR P t u V.un K':=λu K' h=>by
      unfold dR at h;split at h
      .split at h
       .exact h.2.elim
       .exact h.elim
      .exact h.elim
     rcases uS hn hb (ev G s X) with e1 | e1
     .rcases uS hn hb (ev G s Y) with e2 | e2
      .rw[<- e1,<- e2];exact h
      .rw[e2] at h
       split at h
       .exact(anr _ _ h).elim
       .unfold qA at h;simp[V.fz] at h
     .rw[e1] at h
      split at h
      .exact(gy _ _ h).elim
      .unfold qA at h
       split at h
       .split at h
        .exact(gy _ _ h.2).elim
        .exact h.elim
       .exact h.elim
    .exact h.elim
theorem Vq {s':S} {e:Ef} (AZ:∀ d,o.dst=some d->s.fr d=s'.fr d) (hm:dV tr o=1) (he:∀ x∈o.op.operands,ev G s x=ev G s' x) (hn:s.nb<=s'.nb) (hb:∀ i,i<s.nb->s'.bx i=s.bx i) (h:VEf P G tr o s e):VEf P G tr o s' e:=by
 unfold VEf at h ⊢
 split at h
 .rename_i cz;simp[dV,cz] at hm
 .rename_i cz;simp[dV,cz] at hm
 .rename_i cz;simp[dV,cz] at hm
 .rename_i cz;simp only[dV,cz] at hm;split at hm<;>cases hm
 .rename_i cz;simp[dV,cz] at hm
 .rename_i f args ts cz
  split at h
  .rename_i hmu;simp[dV,cz,hmu] at hm
  .rename_i hmu
   rw[if_neg hmu];obtain⟨v,h1,h2⟩:=h;refine⟨v,h1,?_⟩;unfold VYQ at h2 ⊢
   split
   .rename_i Qx
    rw[if_pos Qx] at h2;have:args.toList.map (ev G s)=args.toList.map (ev G s'):=bT λx hx=>he x (by rw[cz];simp only[Op.operands,Call.operands];simp at hx;simp[hx]);rw[<- he f (by rw[cz];simp[Op.operands,Call.operands]),<- this];exact zU hn hb h2
   .rename_i Qx
    rw[if_neg Qx] at h2;exact xI AZ he hn hb hm h2
 .rename_i T X cz
  obtain⟨v,h1,h2,h3⟩:=h;exact⟨v,h1,by rw[<- he X (by rw[cz];simp[Op.operands])];exact h2,xI AZ he hn hb hm h3⟩
 .rename_i cz;simp[dV,cz] at hm
 .rename_i cz;simp[dV,cz] at hm
 .rename_i cz;simp[dV,cz] at hm
 .rename_i cz;simp[dV,cz] at hm
 .rename_i cz
  split at h
  .exact h.elim
  rename_i gY;rw[if_neg gY];split at h
  .rename_i hr;simp[dV,cz,hr] at hm
  .rename_i hr
   rw[if_neg hr];obtain⟨v,h1,h2⟩:=h;exact⟨v,h1,xI AZ he hn hb hm h2⟩
 .rename_i cz;simp[dV,cz] at hm
 .obtain⟨v,h1,h2⟩:=h
  exact⟨v,h1,xI AZ he hn hb hm h2⟩
theorem G7 {x y:Oper} (h:xG tr x y=true):dV tr x=1/\∀ (q:S) (f:Ef),VEf P G tr y q f->q.nb<=f.nb q.nb/\∀ i,i<q.nb->f.bx q.nb q.bx i=q.bx i:=by
 unfold xG at h;simp only[aW,kO] at h;refine⟨h.1,λq f hf=>?_⟩;have h2:=h.2;have al:(∃ cs,f=.al cs)->q.nb<=f.nb q.nb/\∀ i,i<q.nb->f.bx q.nb q.bx i=q.bx i:=by rintro⟨cs,rfl⟩;exact⟨Nat.le_succ _,λi hi=>cP _ _ (by omega)⟩
 split at h2
 .rename_i cz
  unfold VEf at hf;rw[cz] at hf;simp only at hf;split at hf
  .exact al ⟨_,hf⟩
  .exact hf.elim
 .rename_i cz
  unfold VEf at hf;rw[cz] at hf;simp only at hf;split at hf
  .exact al ⟨_,hf⟩
  .exact hf.elim
 .rename_i cz
  unfold VEf at hf;rw[cz] at hf;simp only[h2,cZ] at hf;obtain⟨bx,nb,x,rfl,hv⟩:=hf;unfold cH at hv;split at hv
  .split at hv
   .obtain⟨_,hv⟩:=hv
    split at hv
    .simp only[Bv] at hv
     split at hv
     .obtain⟨⟨rfl,rfl⟩,_⟩:=hv
      exact⟨Nat.le_succ _,λi hi=>cP _ _ (by omega)⟩
     .exact hv.elim
    .exact hv.elim
   .exact hv.elim
  .exact hv.elim
 .cases h2
theorem TEf.keep {x y:Oper} {e f:Ef} (AW:Jn tr ops x y) (hx:TEf P G tr ops x s e) (hy:TEf P G tr ops y s f):TEf P G tr ops x (f.run tr y s) e:=by
 have hl:∀ t∈x.looksAt ops,s.fr t=(f.run tr y s).fr t:=λt ht=>by rw[BY];simp only;rw[kC (λhw=>AW.yx t hw ht)]
 have AZ:∀ d,x.dst=some d->s.fr d=(f.run tr y s).fr d:=λd hd=>by rw[BY];simp only;rw[kC (AW.ww d (by simp[wr,hd]))]
 by_cases dU:nk tr x y=true
 .obtain⟨q1,q2⟩:=Jq dU hy
  exact Vp dU hl q2 q1 hx
 by_cases hlk:pq x y=true
 .obtain⟨T,m,k,EF,Gf⟩:=sj hlk
  rcases hy with⟨_,hv,_⟩ | ⟨_,rfl⟩
  .rcases hx with⟨hg,hw,gY⟩ | ⟨hg,he⟩
   .refine .inl ⟨by rw[<- j7 hl];exact hg,?_,gY⟩
    unfold VEf at hv hw ⊢
    rw[Gf] at hv;rw[EF] at hw ⊢
    obtain⟨bx,u,rfl,hv⟩:=hv;obtain⟨v,rfl,hw⟩:=hw;refine⟨v,rfl,?_⟩;obtain⟨dst,op,type,pos,after,guard⟩:=x;simp only at EF;subst EF;simp only[VYK] at hw ⊢
    have e1:ev G ((Ef.gn bx s.nb u).run tr y s) (.tmp m)=ev G s (.tmp m):=(hl m (j8 (x:=.tmp m) (by simp[Op.operands]) rfl)).symm;have e2:ev G ((Ef.gn bx s.nb u).run tr y s) (.tmp k)=ev G s (.tmp k):=(hl k (j8 (x:=.tmp k) (by simp[Op.operands]) rfl)).symm;rw[e1,e2];exact zX (bx':=bx) (u:=u) (tQ (pN hv) λs' u' e=>⟨by rw[<- e.1],e.2⟩) hw rfl rfl
   .exact .inr ⟨by rw[<- j7 hl];exact hg,he⟩
  .exact uR AZ hl (λ_=>⟨rfl,rfl⟩) hx
 by_cases hra:xG tr x y=true
 .obtain⟨h1,h2⟩:=G7 hra
  rcases hx with⟨hg,hw,gY⟩ | ⟨hg,he⟩
  .refine .inl ⟨by rw[<- j7 hl];exact hg,?_,gY⟩
   have hf:s.nb<=f.nb s.nb/\∀ i,i<s.nb->f.bx s.nb s.bx i=s.bx i:=by
    rcases hy with⟨_,hv,_⟩ | ⟨_,rfl⟩
    .exact h2 _ _ hv
    .exact⟨ab _,λ_ _=>rfl⟩
   exact Vq AZ h1 (λq hq=>BV λt ht=>hl t (j8 hq ht)) hf.1 hf.2 hw
  .exact .inr ⟨by rw[<- j7 hl];exact hg,he⟩
 .refine uR AZ hl (λhm=>?_) hx
  have hq:=A6 hy (λh=>hm ((AW.my h).resolve_right (λh=>by rcases h with h | h | h;exact dU h;exact hlk h;exact hra h)))
  obtain⟨q1,q2,_⟩:=pD hq s.bx s.nb 0;exact⟨q1.symm,q2.symm⟩
theorem TEf.back {x y:Oper} {e f:Ef} (AW:Jn tr ops x y) (hx:TEf P G tr ops x s e) (hy:TEf P G tr ops y (e.run tr x s) f):TEf P G tr ops y s f:=by
 have hl:∀ t∈y.looksAt ops,(e.run tr x s).fr t=s.fr t:=λt ht=>by rw[BY];simp only;rw[kC (λhw=>AW.xy t hw ht)]
 have AZ:∀ d,y.dst=some d->(e.run tr x s).fr d=s.fr d:=λd hd=>by rw[BY];simp only;rw[kC (λhw=>AW.ww d hw (by simp[wr,hd]))]
 by_cases dU:nk tr y x=true
 .obtain⟨q1,q2⟩:=Jq dU hx
  exact Vp dU hl (λd b h1 h2 h3=>(q2 d b h1 h2 h3).symm) q1.symm hy
 by_cases hlk:pq y x=true
 .obtain⟨T,m,k,EF,Gf⟩:=sj hlk
  rcases hx with⟨_,hv,_⟩ | ⟨_,rfl⟩
  .rcases hy with⟨hg,hw,gY⟩ | ⟨hg,he⟩
   .refine .inl ⟨by rw[<- j7 hl];exact hg,?_,gY⟩
    unfold VEf at hv hw ⊢
    rw[Gf] at hv;rw[EF] at hw ⊢
    obtain⟨bx,u,rfl,hv⟩:=hv;obtain⟨v,rfl,hw⟩:=hw;refine⟨v,rfl,?_⟩;obtain⟨dst,op,type,pos,after,guard⟩:=y;simp only at EF;subst EF;simp only[VYK] at hw ⊢
    have e1:ev G ((Ef.gn bx s.nb u).run tr x s) (.tmp m)=ev G s (.tmp m):=hl m (j8 (x:=.tmp m) (by simp[Op.operands]) rfl);have e2:ev G ((Ef.gn bx s.nb u).run tr x s) (.tmp k)=ev G s (.tmp k):=hl k (j8 (x:=.tmp k) (by simp[Op.operands]) rfl);rw[e1,e2] at hw;have hE:=tQ (pN hv) (K':=λs' u'=>bx=s'.bx/\u=u') λs' u' e=>⟨by rw[<- e.1],e.2⟩;obtain⟨w,xh⟩:=B2 hE;have:=zX (s':=(Ef.gn bx s.nb u).run tr x s) hE xh rfl rfl;rw[zS hw this];exact xh
   .exact .inr ⟨by rw[<- j7 hl];exact hg,he⟩
  .exact uR AZ hl (λ_=>⟨rfl,rfl⟩) hy
 .refine uR AZ hl (λhm=>?_) hy
  have hq:=A6 hx (λh=>hm ((AW.mx h).resolve_right (λh=>by rcases h with h | h;exact dU h;exact hlk h)))
  obtain⟨q1,q2,_⟩:=pD hq s.bx s.nb 0;exact⟨q1,q2⟩
theorem B6 {x y:Oper} {e f:Ef} (AW:Jn tr ops x y) (hx:TEf P G tr ops x s e) (hy:TEf P G tr ops y s f):f.run tr y (e.run tr x s)=e.run tr x (f.run tr y s):=by
 simp only[BY];by_cases h2:dV tr x=2
 .have hq:=A6 hy (λh=>by
   rcases AW.mx h2 with h' | h' | h'
   .rw[h'] at h;cases h
   .rw[Jp h'] at h;cases h
   .rw[(Jr (tr:=tr) h').1] at h;cases h)
  obtain⟨q1,q2,q3⟩:=pD hq (e.bx s.nb s.bx) (e.nb s.nb) s.nb;obtain⟨r1,r2,_⟩:=pD hq s.bx s.nb s.nb;rw[q1,q2,q3,r1,r2,BX AW.ww]
 .have hq:=A6 hx h2
  obtain⟨q1,q2,q3⟩:=pD hq (f.bx s.nb s.bx) (f.nb s.nb) s.nb;obtain⟨r1,r2,_⟩:=pD hq s.bx s.nb s.nb;rw[q1,q2,q3,r1,r2,BX AW.ww]
def FreeAt (tr:List Nat) (md:Region.Mode) (ops:Array Oper) (listed:Array Bool) (i:Nat) (oi:Oper):Prop:=
 ∃ B:List Nat,(∀ j∈B,listed.getD j true=false/\∃ oj,ops[j]?=some oj/\∃ e∈oj.after,Region.binds md e=true/\(e.on=i∨e.on∈B))/\
  ∀ j oj,ops[j]?=some oj->j≠i->listed.getD j true=false->j∉B->G6 tr ops oi oj=true
theorem FreeAt.step {md:Region.Mode} {listed:Array Bool} {i j:Nat} {oi oj:Oper} (h:FreeAt tr md ops listed i oi) (hr:i∈Region.ready md ops listed) (hj:j∈Region.ready md ops listed) (xg:j≠i) (Av:ops[j]?=some oj) :
 Jn tr ops oi oj/\FreeAt tr md ops (listed.setIfInBounds j true) i oi:=by
 obtain⟨B,hB,Aw⟩:=h;obtain⟨alx,oj',ZU,eF⟩:=lh.1 hj;rw[Av] at ZU;cases ZU;have UM:∀ q,listed.getD q true=false->∀ e∈oj.after,Region.binds md e=true->e.on≠q:=λq h0 e he hb yJ=>by
  have h1:=eF e he hb;rw[yJ] at h1;rcases bX q listed.size with h' | h'
  .simp[h'] at h0 h1;rw[h0] at h1;cases h1
  .simp[dc h'] at h1
 have hjB:j∉B:=λhjB=>by
  obtain⟨_,oj',ZU,e,he,hb,UN⟩:=hB j hjB;rw[Av] at ZU;cases ZU;rcases UN with UN | UN
  .exact UM i (lh.1 hr).1 e he hb UN
  .exact UM _ (hB _ UN).1 e he hb rfl
 refine⟨Jo (Aw j oj Av xg alx hjB),B,λb hb=>?_,λk ok hk hki UM gy=>?_⟩
 .have hjb:j≠b:=λh=>hjB (by rw[h];exact hb)
  exact⟨by rw[lS true hjb];exact(hB b hb).1,(hB b hb).2⟩
 .refine Aw k ok hk hki ?_ gy
  by_cases hjk:j=k
  .subst hjk;exact alx
  .rw[lS true hjk] at UM;exact UM
theorem wy {K:S->Prop} {i:Nat} {oi:Oper} {e:Ef} (hi:ops[i]?=some oi) :
 ∀ (fuel:Nat) (listed:Array Bool) (s:S),FreeAt tr md ops listed i oi->
  i∈Region.ready md ops listed->TEf P G tr ops oi s e->
  G5 P G tr md ops K fuel (listed.setIfInBounds i true) (e.run tr oi s)->G5 P G tr md ops K (fuel+1) listed s:=by
 intro fuel;induction fuel with
 |zero=>
  intro listed s _ hr hy H;refine⟨λh=>(by rw[h] at hr;cases hr),λj hj=>?_⟩;by_cases xg:j=i
  .subst xg;unfold wu;simp only[hi];exact⟨e,hy,H⟩
  .have:=ready_mono hj xg
   rw[H.1] at this;cases this
 |succ fuel ih=>
  intro listed s Aw hr hy H;refine⟨λh=>(by rw[h] at hr;cases hr),λj hj=>?_⟩;by_cases xg:j=i
  .subst xg;unfold wu;simp only[hi];exact⟨e,hy,H⟩
  .have h1:=H.2 j (ready_mono hj xg)
   obtain⟨_,oj,Av,_⟩:=lh.1 hj;obtain⟨AW,D4⟩:=Aw.step hr hj xg Av;unfold wu at h1 ⊢
   simp only[Av] at h1 ⊢
   obtain⟨f,hf,hK⟩:=h1;have IC:=hy.back AW hf;refine⟨f,IC,ih (listed.setIfInBounds j true) _ D4 (ready_mono hr (gZ xg)) (hy.keep AW IC) ?_⟩;rw[Array.setIfInBounds_comm _ _ xg,<- B6 AW hy IC];exact hK
def uT (ops:Array Oper) (listed:Array Bool) (i:Nat):List Nat->List Nat->List Nat
 |[],B=>B
 |j::r,B=>uT ops listed i r (match ops[j]? with
  |some oj=>if(!listed.getD j true)&&(oj.after.any λe=>Region.binds .any e&&(e.on==i||B.contains e.on)) then j::B else B
  |none=>B)
theorem xJ {ops:Array Oper} {listed:Array Bool} {i:Nat}:∀ (l B:List Nat),(∀ j∈B,listed.getD j true=false/\∃ oj,ops[j]?=some oj/\∃ e∈oj.after,Region.binds .any e=true/\(e.on=i∨e.on∈B))->
 ∀ j∈uT ops listed i l B,listed.getD j true=false/\∃ oj,ops[j]?=some oj/\∃ e∈oj.after,Region.binds .any e=true/\(e.on=i∨e.on∈uT ops listed i l B)
 |[],_,h=>h
 |k::r,B,h=>by
  unfold uT;refine xJ r _ ?_;split
  .rename_i oj Av
   split
   .rename_i hc
    simp only[aW,ew] at hc;obtain⟨h1,h2⟩:=hc;rw[Array.any_eq_true'] at h2;obtain⟨e,he,h3⟩:=h2;simp only[aW,fu,kO,iQ,bF] at h3;intro j hj;rcases aP.1 hj with rfl | hj
    .exact⟨h1,oj,Av,e,he,h3.1,h3.2.imp id (aT _)⟩
    .obtain⟨a,b,c,d,hd,f,g⟩:=h j hj
     exact⟨a,b,c,d,hd,f,g.imp id (aT _)⟩
   .exact h
  .exact h
def Js (tr:List Nat) (ops:Array Oper) (listed:Array Bool) (i:Nat):Bool:=
 match ops[i]? with
 |none=>true
 |some oi=>(λB=>(List.range ops.size).all λj=>match ops[j]? with
  |none=>true
  |some oj=>j==i||listed.getD j true||List.contains B j||G6 tr ops oi oj) (uT ops listed i (List.range ops.size) [])
theorem pP {i:Nat} {oi:Oper} {listed:Array Bool} (hi:ops[i]?=some oi) (h:Js tr ops listed i=true):FreeAt tr .any ops listed i oi:=by unfold Js at h;simp only[hi,aY,c9] at h;refine⟨uT ops listed i (List.range ops.size) [],xJ _ _ (λ_ h=>by cases h),λj oj hj xg hl gy=>?_⟩;have bE:j<ops.size:=(bf.1 hj).1;have:=h j bE;simp only[hj,hl,fu,kO,xg,false_or,aM,iQ,bF] at this;exact this.resolve_left gy
def tU (tr:List Nat) (ops:Array Oper):Nat->Nat->Array Bool->Bool
 |0,_,listed=>(Region.ready .any ops listed).isEmpty
 |fuel+1,k,listed=>(Region.ready .any ops listed).contains k&&Js tr ops listed k&&tU tr ops fuel (k+1) (listed.setIfInBounds k true)
def EZ (tr:List Nat) (ops:Array Oper):List Nat->Array Bool->Bool
 |[],listed=>(Region.ready .any ops listed).isEmpty
 |k::r,listed=>(Region.ready .any ops listed).contains k&&Js tr ops listed k&&EZ tr ops r (listed.setIfInBounds k true)
def ta (tr:List Nat) (ops:Array Oper):List Nat->Array Bool->Option (Array Bool)
 |[],listed=>some listed
 |k::r,listed=>if(Region.ready .any ops listed).contains k&&Js tr ops listed k then ta tr ops r (listed.setIfInBounds k true) else none
def qZ (ops:Array Oper) (ks:List Nat):List Oper:=ks.filterMap λk=>ops[k]?
theorem yX {K:S->Prop}:∀ (ks:List Nat) (listed:Array Bool) (s:S),(∀ k∈ks,∃ o,ops[k]?=some o/\pe tr o=false)->
 EZ tr ops ks listed=true->ib P G tr ops (qZ ops ks) s K->G5 P G tr .any ops K ks.length listed s
 |[],_,_,_,hB,h=>⟨by simpa[EZ] using hB,h⟩
 |k::r,listed,s,hA,hB,h=>by
  obtain⟨o,ho,EE⟩:=hA k (bJ ..);simp only[EZ,aW] at hB;obtain⟨⟨hr,hf⟩,hB'⟩:=hB;simp only[qZ,jh,ho,ib] at h;obtain⟨e,he,hK⟩:=kG (K:=λs'=>ib P G tr ops (qZ ops r) s' K) EE h;exact wy ho r.length listed s (pP ho hf) (by simpa using hr) he
   (yX r _ _ (λk hk=>hA k (aT _ hk)) hB' hK)
theorem Jt {K K0:S->Prop} (m:Nat) (Iw:Array Bool) (hK0:∀ s',K0 s'->G5 P G tr .any ops K m Iw s'):∀ (ks:List Nat) (listed:Array Bool) (s:S),(∀ k∈ks,∃ o,ops[k]?=some o/\pe tr o=false)->
 ta tr ops ks listed=some Iw->ib P G tr ops (qZ ops ks) s K0->G5 P G tr .any ops K (m+ks.length) listed s
 |[],listed,s,_,hB,h=>by simp only[ta,ao] at hB;subst hB;exact hK0 _ h
 |k::r,listed,s,hA,hB,h=>by
  obtain⟨o,ho,EE⟩:=hA k (bJ ..);unfold ta at hB;split at hB
  .rename_i hc
   simp only[aW] at hc;obtain⟨hr,hf⟩:=hc;simp only[qZ,jh,ho,ib] at h;obtain⟨e,he,hK⟩:=kG (K:=λs'=>ib P G tr ops (qZ ops r) s' K0) EE h;have:=wy ho (m+r.length) listed s (pP ho hf) (by simpa using hr) he
    (Jt m Iw hK0 r _ _ (λk hk=>hA k (aT _ hk)) hB hK)
   simpa[dM] using this
  .cases hB
def Ph (tr:List Nat) (ops:Array Oper):Bool:=ops.toList.all (λo=>!pe tr o)&&match ta tr ops (List.range (ly ops)) (Array.replicate ops.size false) with
 |some listed=>(Region.ready .any ops listed).all (λk=>k==ly ops||k==ly ops+1)&&(Region.ready .any ops listed).contains (ly ops)&&decide (ly ops+1<ops.size)&&
   EZ tr ops ((List.range ops.size).drop (ly ops+1)) (listed.setIfInBounds (ly ops) true)&&EZ tr ops (ly ops::(List.range ops.size).drop (ly ops+2)) (listed.setIfInBounds (ly ops+1) true)
 |none=>false
theorem sn (i m:Nat) (h:i+m<=ops.size):qZ ops (List.range' i m)=(ops.toList.drop i).take m:=by
 induction m generalizing i with
 |zero=>simp[qZ]
 |succ m ih=>
  have hi:i<ops.size:=by omega
  have ih':=ih (i+1) (by omega);unfold qZ at ih' ⊢
  have hd:ops.toList.drop i=ops[i]::ops.toList.drop (i+1):=by rw[dj (by simpa using hi)];simp
  rw[iu,jh,ax hi,hd,eZ];simp only;rw[ih']
theorem B7 (eH:mR n ops=true) (vn:Ph tr ops=true) {K:S->Prop} (hK:∀ a w s,K s->SE G n I0 M w0 s a w->Q .normal a w)
 (h:aai P G tr ops s K) (dD:SE G n I0 M w0 s a w):wpAny P .any ops Q ops.size (Array.replicate ops.size false) a { w with drawn:=w.drawn+1 }:=by
 unfold Ph at vn;simp only[aW,aY,ew] at vn;obtain⟨hA,vn⟩:=vn;have Qy:∀ k,k<ops.size->∃ o,ops[k]?=some o/\pe tr o=false:=λk hk=>⟨ops[k],ax hk,hA _ (by simp)⟩;split at vn
 .rename_i listed xb
  simp only[aW,bF] at vn;obtain⟨⟨⟨⟨eF,jG⟩,fO⟩,As⟩,hl2⟩:=vn;generalize hi:ly ops=i at *;unfold aai at h;rw[hi] at h;have hr0:List.range i=List.range' 0 i:=eO;have ZV:qZ ops (List.range i)=ops.toList.take i:=by rw[hr0,sn 0 i (by omega)];rfl
  have anu:(List.range ops.size).drop (i+1)=List.range' (i+1) (ops.size - (i+1)):=by rw[eO,List.drop_range'];simp
  have anv:(List.range ops.size).drop (i+2)=List.range' (i+2) (ops.size - (i+2)):=by rw[eO,List.drop_range'];simp
  have hci:ops.toList.drop i=ops[i]::ops[i+1]::ops.toList.drop (i+2):=by rw[dj (by simp;omega),dj (i:=i+1) (by simp;omega)];simp
  have IB:qZ ops ((List.range ops.size).drop (i+1))=ops[i+1]::ops.toList.drop (i+2):=by rw[anu,sn _ _ (by omega)];rw[dY (by simp),dj (by simp;omega)];simp
  have hn2:qZ ops ((List.range ops.size).drop (i+2))=ops.toList.drop (i+2):=by rw[anv,sn _ _ (by omega)];exact dY (by simp)
  have key:G5 P G tr .any ops K ((ops.size - (i+1)+1)+(List.range i).length) (Array.replicate ops.size false) s:=by
   rw[<- ZV] at h;refine Jt _ listed (λs' Is=>?_) (List.range i) _ s (λk hk=>Qy k (by have:=c9.1 hk;omega)) xb h;obtain⟨h1,h2⟩:=Is;rw[hci] at h1 h2;simp only[ad8] at h2;refine⟨λh0=>(by rw[h0] at jG;cases jG),λk hk=>?_⟩;have UA:=aY.1 eF k hk;simp only[fu,kO] at UA;obtain⟨oi,hoi,hAi⟩:=Qy i (by omega);obtain⟨oj,Av,hAj⟩:=Qy (i+1) fO;rcases UA with rfl | rfl
   .unfold wu
    simp only[hoi];rw[show ops[k]=oi from by rw[ax (by omega)] at hoi;simpa using hoi] at h1;simp only[ib] at h1;obtain⟨e,he,OT⟩:=kG (K:=λs'=>ib P G tr ops (ops[k+1]::ops.toList.drop (k+2)) s' K) hAi h1;refine⟨e,he,?_⟩;have:=yX (K:=K) ((List.range ops.size).drop (k+1)) (listed.setIfInBounds k true) _ (λq hq=>Qy q (by have:=c9.1 (cQ hq);exact this)) As (by rw[IB];exact OT);simpa using this
   .unfold wu
    simp only[Av];rw[show ops[i+1]=oj from by rw[ax fO] at Av;simpa using Av] at h2;simp only[ib] at h2;obtain⟨e,he,OT⟩:=kG (K:=λs'=>ib P G tr ops (ops[i]::ops.toList.drop (i+2)) s' K) hAj h2;refine⟨e,he,?_⟩;have:=yX (K:=K) (i::(List.range ops.size).drop (i+2)) (listed.setIfInBounds (i+1) true) _ (λq hq=>Qy q (by
     rcases aP.1 hq with rfl | hq
     .omega
     .exact c9.1 (cQ hq))) hl2 (by
     unfold qZ;rw[jh,ax (show i<ops.size by omega)];simp only;have:=hn2;unfold qZ at this;rw[this];exact OT)
    have e1:(i::(List.range ops.size).drop (i+2)).length=ops.size - (i+1):=(by simp;omega);rw[e1] at this;exact this
  have tB:SE G n I0 M w0 s a { w with drawn:=w.drawn+1 }:=by obtain⟨I,β,ob,hst⟩:=dD;exact⟨I,β,ob,hst.drew⟩
  have e2:(ops.size - (i+1)+1)+(List.range i).length=ops.size:=by simp;omega
  rw[e2] at key;exact pO eH hK _ _ _ _ _ key tB
 .cases vn
def G8 (tr:List Nat) (ops:Array Oper):Bool:=ops.toList.all (λo=>!pe tr o)&&tU tr ops ops.size 0 (Array.replicate ops.size false)
theorem Ju {K:S->Prop}:∀ (l:List Oper) (k:Nat) (listed:Array Bool) (s:S),(∀ o∈l,pe tr o=false)->(∀ j,l[j]?=ops[k+j]?)->
 tU tr ops l.length k listed=true->ib P G tr ops l s K->G5 P G tr .any ops K l.length listed s
 |[],_,_,_,_,_,hB,h=>⟨by simpa[tU] using hB,h⟩
 |o::l,k,listed,s,hA,hl,hB,h=>by
  have h0:ops[k]?=some o:=by simpa using(hl 0).symm
  simp only[aC,tU,aW] at hB;obtain⟨⟨hr,hf⟩,hB'⟩:=hB;simp only[ib] at h;obtain⟨e,he,hK⟩:=kG (K:=λs'=>ib P G tr ops l s' K) (hA o (bJ ..)) h;exact wy h0 l.length listed s (pP h0 hf) (by simpa using hr) he
   (Ju l (k+1) _ _ (λo ho=>hA o (aT _ ho)) (λj=>by have:=hl (j+1);simpa[dM,Nat.add_comm 1 j] using this) hB' hK)
theorem AK (eH:mR n ops=true) (vn:G8 tr ops=true) {K:S->Prop} (hK:∀ a w s,K s->SE G n I0 M w0 s a w->Q .normal a w)
 (h:ib P G tr ops ops.toList s K) (dD:SE G n I0 M w0 s a w):wpAny P .any ops Q ops.size (Array.replicate ops.size false) a { w with drawn:=w.drawn+1 }:=by
 simp only[G8,aW,aY,ew] at vn;have h1:=Ju (K:=K) ops.toList 0 (Array.replicate ops.size false) s vn.1 (by simp) (by simpa using vn.2) h;have tB:SE G n I0 M w0 s a { w with drawn:=w.drawn+1 }:=by obtain⟨I,β,ob,hst⟩:=dD;exact⟨I,β,ob,hst.drew⟩
 have:=pO eH hK _ _ _ _ _ h1 tB;simpa using this
def xK (P:Program) (G:Gl) (tr:List Nat) (ops:Array Oper) (L1:Array Bool) (K0:S->Prop):Nat->Array Bool->S->Prop
 |0,listed,s=>listed=L1/\K0 s
 |fuel+1,listed,s=>Region.ready .any ops listed≠[]/\∀ i∈Region.ready .any ops listed,wu P G tr ops i (xK P G tr ops L1 K0 fuel (listed.setIfInBounds i true)) s
def uU (ops:Array Oper) (m:Nat):Bool:=(List.range ops.size).all λj=>decide (j<m)||match ops[j]? with
 |some o=>(List.range m).all λk=>o.after.any λe=>Region.binds .any e&&(e.on==k)
 |none=>true
theorem G9 {m:Nat} (h:uU ops m=true) {j k:Nat} {oj:Oper} (hj:ops[j]?=some oj) (hm:m<=j) (hk:k<m):∃ e∈oj.after,Region.binds .any e=true/\e.on=k:=by unfold uU at h;rw[aY] at h;have h1:=h j (c9.2 (bf.1 hj).1);simp only[hj,fu,bF] at h1;have h2:=aY.1 (h1.resolve_left (by omega)) k (c9.2 hk);rw[Array.any_eq_true'] at h2;obtain⟨e,he,h3⟩:=h2;simp only[aW,kO] at h3;exact⟨e,he,h3.1,h3.2⟩
theorem B8 {m q j:Nat} (h:(og m q).getD j true=false):m<=j:=by
 rcases bX j m with hj | hj
 .exfalso
  unfold og at h;rw[ak,dt,aA (by simpa using hj)] at h;simp[hj] at h
 .exact hj
theorem yY {m q j:Nat} (h:(og m q).getD j false=true):j<m:=by
 rcases bX j m with hj | hj
 .exact hj
 .exfalso
  unfold og at h;rw[ak,dt,aH (by simpa using hj),List.getElem?_replicate] at h;split at h<;>simp at h
theorem Jv {K0:S->Prop} {m:Nat} (LQ:uU ops m=true) {i:Nat} {oi:Oper} {e:Ef} (hi:ops[i]?=some oi) :
 ∀ (fuel:Nat) (listed:Array Bool) (s:S),listed.size=ops.size->FreeAt tr .any ops listed i oi->
  i∈Region.ready .any ops listed->TEf P G tr ops oi s e->
  xK P G tr ops (og m ops.size) K0 fuel (listed.setIfInBounds i true) (e.run tr oi s)->xK P G tr ops (og m ops.size) K0 (fuel+1) listed s:=by
 intro fuel;induction fuel with
 |zero=>
  intro listed s fO _ hr hy H;refine⟨λh=>(by rw[h] at hr;cases hr),λj hj=>?_⟩;by_cases xg:j=i
  .subst xg;unfold wu;simp only[hi];exact⟨e,hy,H⟩
  .exfalso
   obtain⟨UM,oj,Av,eF⟩:=lh.1 hj;have Qz:i<listed.size:=(by rw[fO];exact(bf.1 hi).1);have h1:(og m ops.size).getD j true=false:=(by rw[<- H.1,lS true (gZ xg)];exact UM);have h2:(og m ops.size).getD i false=true:=(by rw[<- H.1,ak,Array.getElem?_setIfInBounds_self_of_lt Qz];rfl);obtain⟨ed,hed,hb,UN⟩:=G9 LQ Av (B8 h1) (yY h2);have h3:=eF ed hed hb;rw[UN] at h3;have h4:=(lh.1 hr).1;rw[ak,ax Qz] at h3 h4;simp only[cV] at h3 h4;rw[h4] at h3;cases h3
 |succ fuel ih=>
  intro listed s fO Aw hr hy H;refine⟨λh=>(by rw[h] at hr;cases hr),λj hj=>?_⟩;by_cases xg:j=i
  .subst xg;unfold wu;simp only[hi];exact⟨e,hy,H⟩
  .have h1:=H.2 j (ready_mono hj xg)
   obtain⟨_,oj,Av,_⟩:=lh.1 hj;obtain⟨AW,D4⟩:=Aw.step hr hj xg Av;unfold wu at h1 ⊢
   simp only[Av] at h1 ⊢
   obtain⟨f,hf,hK⟩:=h1;have IC:=hy.back AW hf;refine⟨f,IC,ih (listed.setIfInBounds j true) _ (by rw[dy];exact fO) D4 (ready_mono hr (gZ xg)) (hy.keep AW IC) ?_⟩;rw[Array.setIfInBounds_comm _ _ xg,<- B6 AW hy IC];exact hK
theorem E0 {K0:S->Prop} {m:Nat} (LQ:uU ops m=true):∀ (ks:List Nat) (listed:Array Bool) (s:S),listed.size=ops.size->(∀ k∈ks,∃ o,ops[k]?=some o/\pe tr o=false)->
 ta tr ops ks listed=some (og m ops.size)->ib P G tr ops (qZ ops ks) s K0->xK P G tr ops (og m ops.size) K0 ks.length listed s
 |[],listed,s,_,_,hB,h=>by simp only[ta,ao] at hB;exact⟨hB,h⟩
 |k::r,listed,s,fO,hA,hB,h=>by
  obtain⟨o,ho,EE⟩:=hA k (bJ ..);unfold ta at hB;split at hB
  .rename_i hc
   simp only[aW] at hc;obtain⟨hr,hf⟩:=hc;simp only[qZ,jh,ho,ib] at h;obtain⟨e,he,hK⟩:=kG (K:=λs'=>ib P G tr ops (qZ ops r) s' K0) EE h;exact Jv LQ ho r.length listed s fO (pP ho hf) (by simpa using hr) he
    (E0 LQ r _ _ (by rw[dy];exact fO) (λk hk=>hA k (aT _ hk)) hB hK)
  .cases hB
theorem aax {K:S->Prop} {KW:Act->World->Prop} {i:Nat} {oi:Oper} {e:Ef} (eH:mR n ops=true) (hi:ops[i]?=some oi) (he:TEf P G tr ops oi s e) (dD:SE G n I0 M w0 s a w)
 (hK:K (e.run tr oi s)) (hKW:∀ a w s,K s->SE G n I0 M w0 s a w->KW a w):wpOp P ops Q i KW a w:=by
 unfold wpOp;simp only[hi];have jG:oi∈ops.toList:=by have:=fD hi;simpa using this
 obtain⟨I,β,ob,hst⟩:=dD;rcases he with⟨hg,hv,_⟩ | ⟨hg,rfl⟩
 .rw[if_pos (qE hst hg)]
  exact .inl (EY hst (fa eH jG) hv λa' w' tB=>hKW _ _ _ hK tB)
 .rw[qE hst hg]
  simp only[aM,df];rw[BU] at hK;exact hKW _ _ _ hK (SE.put hst (fa eH jG) (by simp only[LR];exact .sk))
theorem zY (eH:mR n ops=true) {K0:S->Prop} {L1:Array Bool} {r:Nat} (hK:∀ a w s,K0 s->SE G n I0 M w0 s a w->wpAny P .any ops Q r L1 a w):∀ (fuel:Nat) (listed:Array Bool) (s:S) (a:Act) (w:World),
 xK P G tr ops L1 K0 fuel listed s->SE G n I0 M w0 s a w->wpAny P .any ops Q (r+fuel) listed a w
 |0,listed,_,a,w,h,dD=>by obtain⟨rfl,h⟩:=h;exact hK _ _ _ h dD
 |fuel+1,_,s,a,w,h,dD=>by refine⟨λh0=>absurd h0 h.1,λi hi=>?_⟩;have hh:=h.2 i hi;obtain⟨_,oi,hoi,_⟩:=lh.1 hi;unfold wu at hh;simp only[hoi] at hh;obtain⟨e,he,hh⟩:=hh;exact aax eH hoi he dD hh λa w s hs dD=>zY eH hK fuel _ s a w hs dD
def Pj (Q:Exit->Act->World->Prop):Exit->Act->World->Prop:=λe a w=>e=.normal/\Q e a w
theorem yZ {Q:Exit->Act->World->Prop}:¬ LetsOut (Pj Q):=λ⟨_,_,h,_⟩=>by cases h
theorem En {l:Option Nat} {m:Nat} {id:Nat} (hm:P.follows .mixedOrders=true) (qp:BK ops=true) (eH:mR n ops=true) (vn:Ph tr ops=true) {K:S->Prop} (hK:∀ a w s,K s->SE G n I0 M w0 s a w->Q .normal a w)
 (h:aai P G tr ops s K) (dD:SE G n I0 M w0 s a w):(Code.region id ops true).wpIn (FW l) m P Q a w:=
 wpIn_mono (Q:=Pj Q) (wpIn_region_any hm (xB qp yZ _ _ _ _ (B7 eH vn (λa w s hk dD=>⟨rfl,hK a w s hk dD⟩) h dD))) (λ_ _ _ h=>h.2)
theorem B9 {l:Option Nat} {m:Nat} {id:Nat} (hm:P.follows .mixedOrders=true) (qp:BK ops=true) (eH:mR n ops=true) (vn:G8 tr ops=true) {K:S->Prop} (hK:∀ a w s,K s->SE G n I0 M w0 s a w->Q .normal a w)
 (h:ib P G tr ops ops.toList s K) (dD:SE G n I0 M w0 s a w):(Code.region id ops true).wpIn (FW l) m P Q a w:=
 wpIn_mono (Q:=Pj Q) (wpIn_region_any hm (xB qp yZ _ _ _ _ (AK eH vn (λa w s hk dD=>⟨rfl,hK a w s hk dD⟩) h dD))) (λ_ _ _ h=>h.2)
