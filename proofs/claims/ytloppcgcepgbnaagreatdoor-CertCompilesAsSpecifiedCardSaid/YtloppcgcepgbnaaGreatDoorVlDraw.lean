/- Values without memory: regions that draw their order: an operation's effect. -/
import Derived.Test.YtloppcgcepgbnaaGreatDoorVlCode
import Derived.Orders
set_option linter.all false
namespace Go.Vl
open Go Go.RowKit
section
variable {P:Program} {G:Gl} {tr:List Nat} {s:S} {o:Oper} {x y:V} {K:V->Prop}
theorem y5 {op:BinOp} {k:IntKind} {a b:Int} (h:nF op k a b K):∃ v,nF op k a b (λu=>v=u)/\K v:=by
 cases op<;>simp only[nF] at h ⊢<;>first | exact⟨_,rfl,h⟩ | exact⟨_,⟨h.1,rfl⟩,h.2⟩
theorem Rz {op:BinOp} {a b:ByteArray} (h:Gv op a b K):∃ v,Gv op a b (λu=>v=u)/\K v:=by
 cases op<;>simp only[Gv] at h ⊢<;>first | exact h.elim | exact⟨_,rfl,h⟩ | exact⟨_,⟨h.1,rfl⟩,h.2⟩
theorem RA {op:BinOp} {T:TypeId} (h:j3 P op T x y K):∃ v,j3 P op T x y (λu=>v=u)/\K v:=by
 unfold j3 at h;split at h
 .split at h
  .exact y5 h
  .exact y5 h
  .rename_i h1 h2
   split at h
   .rename_i hk
    obtain⟨v,hv,hK⟩:=y5 h;refine⟨v,?_,hK⟩;unfold j3;simp only[if_pos hk]
    first | exact hv | (split<;>first | exact hv | simp_all)
   .exact h.elim
 .exact Rz h
 .split at h
  .rename_i hi
   split at h
   .exact⟨_,by simp only[j3,hi],h⟩
   .exact⟨_,by simp only[j3,hi],h⟩
   .exact h.elim
  .exact h.elim
 .split at h
  .rename_i hi
   split at h
   .rename_i hr
    obtain⟨hl,h⟩:=h;split at h
    .exact⟨_,by simp only[j3,hi,hr];exact⟨hl,trivial⟩,h⟩
    .exact⟨_,by simp only[j3,hi,hr];exact⟨hl,trivial⟩,h⟩
    .exact h.elim
   .exact h.elim
  .exact h.elim
 .exact h.elim
theorem VQ {op:UnOp} (h:vun op x K):∃ v,vun op x (λu=>v=u)/\K v:=by
 unfold vun at h;split at h<;>first | exact h.elim | exact⟨_,rfl,h⟩
theorem sG {ag:Bool} {sz off:Nat} {cs:List C} (h:cQ ag sz off cs K):∃ v,cQ ag sz off cs (λu=>v=u)/\K v:=by
 unfold cQ at h;split at h
 .rename_i kK;exact⟨_,by unfold cQ;rw[if_pos kK];exact⟨h.1,rfl⟩,h.2⟩
 .rename_i kK
  split at h
  .rename_i c hc;exact⟨_,by unfold cQ;rw[if_neg kK,hc],h⟩
  .exact h.elim
theorem Nc {ag:Bool} {sz off:Nat} {vs:List V} (h:zS ag sz off vs K):∃ v,zS ag sz off vs (λu=>v=u)/\K v:=by
 unfold zS at h;split at h
 .rename_i kK;exact⟨_,by unfold zS;rw[if_pos kK];exact⟨h.1,rfl⟩,h.2⟩
 .rename_i kK
  split at h
  .rename_i c hc;exact⟨_,by unfold zS;rw[if_neg kK,hc],h⟩
  .exact h.elim
theorem Nh {T:TypeId} (h:cO P T s x K):∃ v,cO P T s x (λu=>v=u)/\K v:=by
 unfold cO at h;split at h
 .rename_i hi
  obtain⟨v,h1,h2⟩:=sG h;exact⟨v,by unfold cO;rw[hi];exact h1,h2⟩
 .rename_i i b k hi
  obtain⟨hb,h⟩:=h;split at h
  .rename_i kK
   exact⟨_,by unfold cO;rw[hi];refine⟨hb,?_⟩;rw[if_pos kK];exact⟨h.1,rfl⟩,h.2⟩
  .rename_i kK
   split at h
   .rename_i c hc
    exact⟨_,by unfold cO;rw[hi];refine⟨hb,?_⟩;rw[if_neg kK,hc],h⟩
   .exact h.elim
 .rename_i hi
  rcases h with⟨h1,b,k,len,cap,E,es,c,h2,h⟩ | ⟨b,k,len,cap,E,es,h2,h⟩
  .exact⟨_,by unfold cO;simp only[hi];exact .inl ⟨h1,b,k,len,cap,E,es,c,h2,rfl⟩,h⟩
  .obtain⟨v,h3,h4⟩:=sG h
   exact⟨v,by unfold cO;simp only[hi];exact .inr ⟨b,k,len,cap,E,es,h2,h3⟩,h4⟩
 .exact h.elim
theorem AK {T:TypeId} {f:Nat} (h:aR P T x f K):∃ v,aR P T x f (λu=>v=u)/\K v:=by
 unfold aR at h;split at h
 .rename_i i hi
  split at h
  .rename_i hf;exact⟨_,by unfold aR;simp only[hi,hf];exact⟨h.1,trivial⟩,h.2⟩
  .rename_i hf;exact⟨_,by unfold aR;simp only[hi,hf];exact⟨h.1,trivial⟩,h.2⟩
  .rename_i hf;exact⟨_,by unfold aR;simp only[hi,hf];exact⟨h.1,trivial⟩,h.2⟩
  .exact h.elim
 .exact h.elim
theorem Jf {T:TypeId} {f:Nat} (h:sA P T x f K):∃ v,sA P T x f (λu=>v=u)/\K v:=by
 unfold sA at h;split at h
 .rename_i hi
  split at h
  .rename_i hf
   obtain⟨v,h1,h2⟩:=sG h;exact⟨v,by unfold sA;simp only[hi,hf];exact h1,h2⟩
  .exact h.elim
 .rename_i hi
  split at h
  .rename_i hf
   obtain⟨v,h1,h2⟩:=Nc h;exact⟨v,by unfold sA;simp only[hi,hf];exact h1,h2⟩
  .exact h.elim
 .exact h.elim
theorem AL {T:TypeId} (h:dW P T x y K):∃ v,dW P T x y (λu=>v=u)/\K v:=by
 unfold dW at h;split at h
 .rename_i hi
  split at h
  .rename_i hj
   obtain⟨h0,h⟩:=h;split at h
   .rename_i hc
    exact⟨_,by unfold dW;simp only[hi,hj,hc];exact⟨h0,h.1,trivial⟩,h.2⟩
   .exact h.elim
  .exact h.elim
 .rename_i hi
  split at h
  .rename_i hj
   exact⟨_,by unfold dW;simp only[hi,hj];exact⟨h.1,trivial⟩,h.2⟩
  .exact h.elim
 .rename_i hi
  split at h
  .rename_i hj
   exact⟨_,by unfold dW;simp only[hi,hj];exact⟨h.1,trivial⟩,h.2⟩
  .exact h.elim
 .rename_i hi
  split at h
  .rename_i hj
   exact⟨_,by unfold dW;simp only[hi,hj];exact⟨h.1,trivial⟩,h.2⟩
  .exact h.elim
 .rename_i hi
  split at h
  .rename_i hj
   exact⟨_,by unfold dW;simp only[hi,hj];exact⟨h.1,trivial⟩,h.2⟩
  .exact h.elim
 .exact h.elim
theorem Jg {T:TypeId} (h:mI P T x y K):∃ v,mI P T x y (λu=>v=u)/\K v:=by
 unfold mI at h;split at h
 .rename_i hi
  obtain⟨h0,h⟩:=h;split at h
  .rename_i hc
   exact⟨_,by unfold mI;simp only[hi,hc];exact⟨h0,trivial⟩,h⟩
  .exact h.elim
 .rename_i hi
  split at h
  .rename_i hj
   obtain⟨v,h1,h2⟩:=sG h.2;exact⟨v,by unfold mI;simp only[hi,hj];exact⟨h.1,h1⟩,h2⟩
  .exact h.elim
 .exact h.elim
theorem Jh {T:TypeId} {lo hi mx:Option V} (h:jl P T x lo hi mx K):∃ v,jl P T x lo hi mx (λu=>v=u)/\K v:=by
 unfold jl at h;split at h
 .rename_i ht
  split at h
  .rename_i e1 e2
   exact⟨_,by unfold jl;simp only[ht,e1,e2];exact⟨h.1,trivial⟩,h.2⟩
  .exact h.elim
 .rename_i ht
  split at h
  .split at h
   .rename_i e1 e2 e3
    exact⟨_,by unfold jl;simp only[ht,e1,e2,e3];exact⟨h.1,trivial⟩,h.2⟩
   .exact h.elim
  .split at h
   .rename_i e1 e2
    exact⟨_,by unfold jl;simp only[ht,e1,e2];exact⟨h.1,trivial⟩,h.2⟩
   .exact h.elim
  .exact h.elim
 .rename_i ht
  split at h
  .rename_i e1 e2 e3 e4
   exact⟨_,by unfold jl;simp only[ht,e1,e2,e3,e4];exact⟨h.1,trivial⟩,h.2⟩
  .exact h.elim
 .rename_i ht
  split at h
  .rename_i e1 e2 e3 e4
   exact⟨_,by unfold jl;simp only[ht,e1,e2,e3,e4];exact⟨h.1,trivial⟩,h.2⟩
  .exact h.elim
 .rename_i ht
  split at h
  .rename_i e1
   exact⟨_,by unfold jl;simp only[ht,e1];exact⟨h.1,trivial⟩,h.2⟩
  .exact h.elim
 .rename_i ht
  split at h
  .rename_i e1 e2 e3
   exact⟨_,by unfold jl;simp only[ht,e1,e2,e3];exact⟨h.1,trivial⟩,h.2⟩
  .exact h.elim
 .exact h.elim
theorem Ni {src dst:TypeId} (h:jQ P src dst x K):∃ v,jQ P src dst x (λu=>v=u)/\K v:=by
 unfold jQ at h;split at h
 .rename_i e1 e2;exact⟨_,by unfold jQ;simp only[e1,e2],h⟩
 .rename_i e1 e2;exact⟨_,by unfold jQ;simp only[e1,e2],h⟩
 .rename_i e1 e2
  split at h
  .rename_i e3;exact⟨_,by unfold jQ;simp only[e1,e2,e3],h⟩
  .exact h.elim
 .rename_i e1 e2
  split at h
  .rename_i e3
   split at h
   .rename_i e4;exact⟨_,by unfold jQ;simp only[e1,e2,e3,e4],h⟩
   .exact h.elim
  .exact h.elim
 .exact h.elim
theorem Ji {T:TypeId} {parts:List (Nat×V)} (h:iH P T parts K):∃ v,iH P T parts (λu=>v=u)/\K v:=by
 unfold iH at h;split at h
 .rename_i e1
  split at h
  .rename_i e2;exact⟨_,by unfold iH;simp only[e1,e2],h⟩
  .rename_i e2
   split at h
   .rename_i e3;exact⟨_,by unfold iH;simp only[e1,e2,e3],h⟩
   .exact h.elim
 .rename_i e1
  split at h
  .rename_i e2
   split at h
   .rename_i e3;exact⟨_,by unfold iH;simp only[e1,e2,e3],h⟩
   .rename_i e3
    split at h
    .rename_i e4;exact⟨_,by unfold iH;simp only[e1,e2,e3,e4],h⟩
    .exact h.elim
  .exact h.elim
 .exact h.elim
theorem nU {T:TypeId} {len:Nat} {parts:List (Nat×V)} (h:cH P T len parts K):∃ v,cH P T len parts (λu=>v=u)/\K v:=by
 unfold cH at h;split at h
 .rename_i e1
  split at h
  .rename_i e2
   obtain⟨h0,h⟩:=h;split at h
   .rename_i e3;exact⟨_,by unfold cH;simp only[e1,e2,e3];exact⟨h0,trivial⟩,h⟩
   .exact h.elim
  .exact h.elim
 .exact h.elim
theorem RB {T:TypeId} (h:fq P T x K):∃ v,fq P T x (λu=>v=u)/\K v:=by
 unfold fq at h;split at h
 all_goals first | exact h.elim | (rename_i e1;exact⟨_,by unfold fq;simp only[e1],h⟩)
theorem xQ {T:TypeId} (h:dS P T x y K):∃ v,dS P T x y (λu=>v=u)/\K v:=by
 unfold dS at h;split at h
 .rename_i e1
  split at h
  .rename_i e2
   obtain⟨h0,h⟩:=h;split at h
   .exact⟨_,by unfold dS;simp only[e1,e2];exact⟨h0,h.1,trivial⟩,h.2⟩
   .exact h.elim
  .exact h.elim
 .exact h.elim
theorem EY {mx:Bool} {l:List V} (h:Bv mx l K):∃ v,Bv mx l (λu=>v=u)/\K v:=by
 unfold Bv at h;split at h
 .exact⟨_,rfl,h⟩
 .exact h.elim
theorem Nj {f:V} {l:List V} (h:rM P G s f l K):∃ v,rM P G s f l (λu=>v=u)/\K v:=by
 unfold rM at h;split at h
 .split at h
  .rename_i e1
   obtain⟨r,h1,h2,h3⟩:=h;exact⟨r,by unfold rM;simp only[e1];exact⟨r,h1,h2,rfl⟩,h3⟩
  .exact h.elim
 .split at h
  .rename_i e1 e2 e3
   obtain⟨r,h1,h2,h3⟩:=h;exact⟨r,by unfold rM;simp only[e1,e2,e3];exact⟨r,h1,h2,rfl⟩,h3⟩
  .exact h.elim
 .exact h.elim
theorem rj {b:Builtin} {ts:List TypeId} {l:List V} (h:eX P b ts l K):∃ v,eX P b ts l (λu=>v=u)/\K v:=by
 unfold eX at h;split at h
 .exact RB h
 .split at h
  .rename_i ht
   obtain⟨v,h1,h2⟩:=xQ h;exact⟨v,by unfold eX;simp only[if_pos ht];exact h1,h2⟩
  .rename_i ht
   unfold qK at h;split at h
   .rename_i e0 e1 e2
    split at h
    .rename_i e3
     obtain⟨h0,h⟩:=h;obtain⟨v,h1,h2⟩:=xQ h;exact⟨v,by unfold eX qK;simp only[if_neg ht,e0,e1,e2,e3];exact⟨h0,h1⟩,h2⟩
    .exact h.elim
   .exact h.elim
 .exact EY h
 .exact EY h
 .exact h.elim
theorem Jj {bx:Nat->List V} {nb:Nat} {f:V} {l:List V} {K:(Nat->List V)->Nat->V->Prop} (h:kE P G bx nb f l K):∃ bx' nb' v,kE P G bx nb f l (λb n u=>(bx'=b/\nb'=n)/\v=u)/\K bx' nb' v:=by
 unfold kE at h;split at h
 .rename_i g all e1
  obtain⟨ρ,cargs,b0,r,b1,h1,h2,h3,h4,h5⟩:=h;exact⟨_,_,_,by unfold kE;simp only[e1];exact⟨ρ,cargs,b0,r,b1,h1,h2,h3,h4,⟨rfl,rfl⟩,rfl⟩,h5⟩
 .exact h.elim
theorem BP {bx:Nat->List V} {nb n m:Nat} {K:(Nat->List V)->Nat->V->Prop} (h:By bx nb n m K x):∃ bx' nb' v,By bx nb n m (λb n u=>(bx'=b/\nb'=n)/\v=u) x/\K bx' nb' v:=by
 unfold By at h;split at h
 .exact⟨_,_,_,⟨⟨rfl,rfl⟩,rfl⟩,h⟩
 .exact h.elim
theorem Nk {T:TypeId} {K:Nat->Nat->Nat->List C->Prop} (h:rN P T x y K):∃ n m sz z,rN P T x y (λn' m' sz' z'=>n=n'/\m=m'/\sz=sz'/\z=z')/\K n m sz z:=by
 unfold rN at h;split at h
 .rename_i e1
  split at h
  .rename_i e2
   exact⟨_,_,_,_,by unfold rN;simp only[e1,e2];exact⟨h.1,by simp⟩,h.2⟩
  .exact h.elim
 .exact h.elim
theorem jo {T:TypeId} {K:Nat->List Nat->Nat->List V->Option Nat->V->Prop} (h:gX P T s x y K) :
 ∃ i bs cl r res z,gX P T s x y (λi' bs' cl' r' res' z'=>i=i'/\bs=bs'/\cl=cl'/\r=r'/\res=res'/\z=z')/\K i bs cl r res z:=by
 unfold gX at h;split at h
 .rename_i e1
  split at h
  .rename_i e2 e3
   split at h
   .rename_i e4 e5 e6
    split at h
    .rename_i e7
     split at h
     .rename_i e8
      exact⟨_,_,_,_,_,_,by unfold gX;simp only[e1,e2,e3,e4,e5,e6,e7,e8];exact⟨h.1,by simp⟩,h.2⟩
     .exact h.elim
    .exact h.elim
   .exact h.elim
  .exact h.elim
 .exact h.elim
theorem gy {T:TypeId} {i cl:Nat} {bs:List Nat} {r:List V} {res:Option Nat} {z:V} {K:Nat->List Nat->Nat->List V->Option Nat->V->Prop}
 (h:gX P T s x y (λi' bs' cl' r' res' z'=>i=i'/\bs=bs'/\cl=cl'/\r=r'/\res=res'/\z=z')) (hK:K i bs cl r res z):gX P T s x y K:=by
 unfold gX at h;split at h
 .rename_i e1
  split at h
  .rename_i e2 e3
   split at h
   .rename_i e4 e5 e6
    split at h
    .rename_i e7
     split at h
     .rename_i e8
      obtain⟨h1,rfl,rfl,rfl,rfl,rfl,rfl⟩:=h;unfold gX;simp only[e1,e2,e3,e4,e5,e6,e7,e8];exact⟨h1,hK⟩
     .exact h.elim
    .exact h.elim
   .exact h.elim
  .exact h.elim
 .exact h.elim
theorem pK {T:TypeId} {kt et:TypeId} {tT tk te:TI} {ks:List EK} {kc:List C} {k z:V} {i cl:Nat} {bs:List Nat} {r:List V} {kcs:List (List C)} {res:Option Nat} {KM:Nat->List Nat->Nat->List V->Option Nat->V->Prop}
 (hT:ti P T=some tT) (hm:tT.kd=.map kt et) (hk:ti P kt=some tk) (Q8:tk.eqs=some ks) (he:ti P et=some te) (hc:k.kcs tk.agg=some kc) (hz:oZ te=some z) (hb:s.bx i=.mk bs cl::r)
 (hkc:j4 tk.agg r=some kcs) (hf:nK ks kc kcs 0=some res) (hi:i<s.nb) (hl:kc.length=ks.length) (hr:iG ks kc kc=some true) (ha:zaB P et=true) (hK:KM i bs cl r res z):gX P T s (.mr i) k KM:=by
 obtain⟨kd,a1,a2,a3,a4,a5,a6⟩:=tT;obtain⟨b1,b2,b3,ag,b5,b6,b7⟩:=tk;simp only at hm Q8 hc hkc;subst hm;subst Q8;unfold gX;simp only[hT,hk,he,hc,hz,hb,hkc,hf];exact⟨⟨hi,hl,hr,ha⟩,hK⟩
theorem Jk {T:TypeId} {K K':Nat->List Nat->Nat->List V->Option Nat->V->Prop} (h:gX P T s x y K) (h':gX P T s x y K'):∃ i bs cl r res z,K i bs cl r res z/\K' i bs cl r res z:=by
 unfold gX at h;split at h
 .rename_i e1
  split at h
  .rename_i e2 e3
   split at h
   .rename_i e4 e5 e6
    split at h
    .rename_i e7
     split at h
     .rename_i e8
      unfold gX at h';simp only[e1,e2,e3,e4,e5,e6,e7,e8] at h';exact⟨_,_,_,_,_,_,h.2,h'.2⟩
     .exact h.elim
    .exact h.elim
   .exact h.elim
  .exact h.elim
 .exact h.elim
theorem mR {T:TypeId} {s':S} {K:Nat->List Nat->Nat->List V->Option Nat->V->Prop} (hb:s.bx=s'.bx) (hn:s.nb=s'.nb) (h:gX P T s x y K):gX P T s' x y K:=by
 unfold gX at h ⊢
 rw[<- hb,<- hn];exact h
theorem G6 {T:TypeId} {v:V} {K:S->Prop} (h:gY P T s x y v K):∃ bx,gY P T ⟨λ_=>.un,s.bx,s.nb⟩ x y v (λs'=>bx=s'.bx)/\K { s with bx:=bx }:=by
 unfold gY at h;obtain⟨i,bs,cl,r,res,z,h1,h2⟩:=jo h;cases res with
 |none=>exact⟨_,gy (mR rfl rfl h1) rfl,h2⟩
 |some j=>exact⟨_,gy (mR rfl rfl h1) rfl,h2⟩
theorem G7 {T:TypeId} {v:V} {bx:Nat->List V} (h:gY P T ⟨λ_=>.un,s.bx,s.nb⟩ x y v (λs'=>bx=s'.bx)):gY P T s x y v (λs'=>{ s with bx:=bx }=s'):=by
 unfold gY at h;obtain⟨i,bs,cl,r,res,z,h1,h2⟩:=jo h;cases res with
 |none=>simp only at h2;subst h2;exact gy (mR rfl rfl h1) rfl
 |some j=>simp only at h2;subst h2;exact gy (mR rfl rfl h1) rfl
theorem BQ {T:TypeId} {K:S->V->Prop} (h:fY P T s x y K):∃ bx v,fY P T ⟨λ_=>.un,s.bx,s.nb⟩ x y (λs' u=>bx=s'.bx/\v=u)/\K { s with bx:=bx } v:=by
 unfold fY at h;obtain⟨i,bs,cl,r,res,z,h1,h2⟩:=jo h;cases res with
 |none=>exact⟨_,_,gy (mR rfl rfl h1) ⟨rfl,rfl⟩,h2⟩
 |some j=>exact⟨s.bx,_,gy (mR rfl rfl h1) ⟨rfl,rfl⟩,h2⟩
theorem pW {T:TypeId} {v:V} {bx:Nat->List V} (h:fY P T ⟨λ_=>.un,s.bx,s.nb⟩ x y (λs' u=>bx=s'.bx/\v=u)):fY P T s x y (λs' u=>{ s with bx:=bx }=s'/\v=u):=by
 unfold fY at h;obtain⟨i,bs,cl,r,res,z,h1,h2⟩:=jo h;cases res with
 |none=>obtain⟨rfl,rfl⟩:=h2;exact gy (mR rfl rfl h1) ⟨rfl,rfl⟩
 |some j=>obtain⟨rfl,rfl⟩:=h2;exact gy (mR rfl rfl h1) ⟨rfl,rfl⟩
theorem BR {v:V} {K:S->Prop} (h:fJ s x y v K):∃ bx,fJ ⟨λ_=>.un,s.bx,s.nb⟩ x y v (λs'=>bx=s'.bx)/\K { s with bx:=bx }:=by
 unfold fJ at h;split at h
 .split at h
  .rename_i e2
   split at h
   .rename_i e3;exact⟨_,by unfold fJ;simp only[e2,e3];exact⟨h.1,trivial⟩,h.2⟩
   .exact h.elim
  .exact h.elim
 .exact h.elim
theorem BS {v:V} {bx:Nat->List V} (h:fJ ⟨λ_=>.un,s.bx,s.nb⟩ x y v (λs'=>bx=s'.bx)):fJ s x y v (λs'=>{ s with bx:=bx }=s'):=by
 unfold fJ at h;split at h
 .split at h
  .rename_i e2
   split at h
   .rename_i e3;obtain⟨h1,rfl⟩:=h;unfold fJ;simp only[show s.bx _=_ from e2,e3];exact⟨h1,trivial⟩
   .exact h.elim
  .exact h.elim
 .exact h.elim
theorem Nl {ts:List TypeId} {xs:List V} {K:S->V->Prop} (h:xB P s K ts xs):∃ bx v,xB P ⟨λ_=>.un,s.bx,s.nb⟩ (λs' u=>bx=s'.bx/\v=u) ts xs/\K { s with bx:=bx } v:=False.elim h
theorem Nn {ts:List TypeId} {xs:List V} {bx:Nat->List V} {v:V} (h:xB P ⟨λ_=>.un,s.bx,s.nb⟩ (λs' u=>bx=s'.bx/\v=u) ts xs):xB P s (λs' u=>{ s with bx:=bx }=s'/\v=u) ts xs:=False.elim h
theorem abB {ts:List TypeId} {xs:List V} {K K':S->V->Prop} (h:xB P s K ts xs) (hk:∀ s v,K s v->K' s v):xB P s K' ts xs:=False.elim h
theorem Em {ts:List TypeId} {xs:List V} {K:S->V->Prop} (h:fE P s K ts xs):∃ bx v,fE P ⟨λ_=>.un,s.bx,s.nb⟩ (λs' u=>bx=s'.bx/\v=u) ts xs/\K { s with bx:=bx } v:=by
 unfold fE at h;split at h
 .rename_i b off len cap sz y
  have hi:wo s y=wo ⟨λ_=>.un,s.bx,s.nb⟩ y:=by cases y<;>rfl
  split at h
  .rename_i e1 e2
   split at h
   .rename_i e3;exact⟨_,_,by unfold fE;rw[hi] at e2;simp only[e1,e2,e3];exact⟨h.1,by simp⟩,h.2⟩
   .exact h.elim
  .exact h.elim
 .split at h
  .rename_i e1
   split at h
   .rename_i e2
    obtain⟨b,k,j,E,es,h1,h2⟩:=h;exact⟨_,_,by unfold fE;simp only[e1,e2];exact⟨b,k,j,E,es,h1,by simp⟩,h2⟩
   .exact h.elim
  .exact h.elim
 .exact h.elim
theorem En {ts:List TypeId} {xs:List V} {bx:Nat->List V} {v:V} (h:fE P ⟨λ_=>.un,s.bx,s.nb⟩ (λs' u=>bx=s'.bx/\v=u) ts xs):fE P s (λs' u=>{ s with bx:=bx }=s'/\v=u) ts xs:=by
 unfold fE at h;split at h
 .rename_i b off len cap sz y
  have hi:wo s y=wo ⟨λ_=>.un,s.bx,s.nb⟩ y:=by cases y<;>rfl
  split at h
  .rename_i e1 e2
   split at h
   .rename_i e3;obtain⟨h0,rfl,rfl⟩:=h;unfold fE;rw[<- hi] at e2;simp only[e1,e2,e3];exact⟨h0,by simp⟩
   .exact h.elim
  .exact h.elim
 .split at h
  .rename_i e1
   split at h
   .rename_i e2
    obtain⟨b,k,j,E,es,h1,rfl,rfl⟩:=h;unfold fE;simp only[e1,e2];exact⟨b,k,j,E,es,h1,by simp⟩
   .exact h.elim
  .exact h.elim
 .exact h.elim
theorem Np {ts:List TypeId} {xs:List V} {K K':S->V->Prop} (h:fE P s K ts xs) (hk:∀ s v,K s v->K' s v):fE P s K' ts xs:=by
 unfold fE at h;split at h
 .split at h
  .rename_i e1 e2
   split at h
   .rename_i e3;unfold fE;simp only[e1,e2,e3];exact⟨h.1,hk _ _ h.2⟩
   .exact h.elim
  .exact h.elim
 .split at h
  .rename_i e1
   split at h
   .rename_i e2
    obtain⟨b,k,j,E,es,h1,h2⟩:=h;unfold fE;simp only[e1,e2];exact⟨b,k,j,E,es,h1,hk _ _ h2⟩
   .exact h.elim
  .exact h.elim
 .exact h.elim
theorem xR {tr:List Nat} {o:Oper} {args:Array Operand} {ts:Array TypeId} {K:S->V->Prop} {s':S} (cw:o.op=.call { callee:=.builtin .append,args:=args,argTypes:=ts }) (h:fE P s' K ts.toList (args.toList.map (ev G s))) :
 s.use (cj tr o)=s:=by
 have e:cj tr o=match args.toList with | .tmp t::_=>some t | _=>none:=by unfold cj;rw[cw];rfl
 rw[e];split
 .rename_i t r ha
  rw[ha,bB] at h;unfold fE at h;split at h
  .rename_i b off len cap sz y vR sw
   simp only[cM] at sw;have:s.fr t=.ms b off len cap sz:=sw.1;simp[S.use,this,V.isOw]
  .rename_i vR sw
   simp only[cM] at sw;have:=sw.1;simp only[ev] at this;simp[S.use,this,V.isOw]
  .exact h.elim
 .rfl
theorem Jl {ts:List TypeId} {xs:List V} {K:S->Prop} (h:jw P s K ts xs):∃ bx,jw P ⟨λ_=>.un,s.bx,s.nb⟩ (λs'=>bx=s'.bx) ts xs/\K { s with bx:=bx }:=by
 unfold jw at h;split at h
 .split at h
  .rename_i e1
   split at h
   .rename_i e2;exact⟨_,by unfold jw;simp only[e1,e2];exact⟨h.1,trivial⟩,h.2⟩
   .exact h.elim
  .exact h.elim
 .split at h
  .rename_i e1
   split at h
   .rename_i e2
    obtain⟨b,k,j,cap,E,es,h1,h2⟩:=h;exact⟨_,by unfold jw;simp only[e1,e2];exact⟨b,k,j,cap,E,es,h1,rfl⟩,h2⟩
   .exact h.elim
  .exact h.elim
 .exact h.elim
theorem Jm {ts:List TypeId} {xs:List V} {bx:Nat->List V} (h:jw P ⟨λ_=>.un,s.bx,s.nb⟩ (λs'=>bx=s'.bx) ts xs):jw P s (λs'=>{ s with bx:=bx }=s') ts xs:=by
 unfold jw at h;split at h
 .split at h
  .rename_i e1
   split at h
   .rename_i e2;obtain⟨h0,rfl⟩:=h;unfold jw;simp only[e1,e2];exact⟨h0,trivial⟩
   .exact h.elim
  .exact h.elim
 .split at h
  .rename_i e1
   split at h
   .rename_i e2
    obtain⟨b,k,j,cap,E,es,h1,rfl⟩:=h;unfold jw;simp only[e1,e2];exact⟨b,k,j,cap,E,es,h1,rfl⟩
   .exact h.elim
  .exact h.elim
 .exact h.elim
theorem VR {ts:List TypeId} {xs:List V} {K K':S->Prop} (h:jw P s K ts xs) (hk:∀ s,K s->K' s):jw P s K' ts xs:=by
 unfold jw at h;split at h
 .split at h
  .rename_i e1
   split at h
   .rename_i e2;unfold jw;simp only[e1,e2];exact⟨h.1,hk _ h.2⟩
   .exact h.elim
  .exact h.elim
 .split at h
  .rename_i e1
   split at h
   .rename_i e2
    obtain⟨b,k,j,cap,E,es,h1,h2⟩:=h;unfold jw;simp only[e1,e2];exact⟨b,k,j,cap,E,es,h1,hk _ h2⟩
   .exact h.elim
  .exact h.elim
 .exact h.elim
theorem RE {T:TypeId} {v:V} {K K':S->Prop} (h:gY P T s x y v K) (hk:∀ s,K s->K' s):gY P T s x y v K':=by unfold gY at h;obtain⟨i,bs,cl,r,res,z,h1,h2⟩:=jo h;refine gy h1 ?_;cases res<;>exact hk _ h2
theorem ug {T:TypeId} {K K':S->V->Prop} (h:fY P T s x y K) (hk:∀ s v,K s v->K' s v):fY P T s x y K':=by unfold fY at h;obtain⟨i,bs,cl,r,res,z,h1,h2⟩:=jo h;refine gy h1 ?_;cases res<;>exact hk _ _ h2
theorem Jn {v:V} {K K':S->Prop} (h:fJ s x y v K) (hk:∀ s,K s->K' s):fJ s x y v K':=by
 unfold fJ at h;split at h
 .split at h
  .rename_i e2
   split at h
   .rename_i e3;unfold fJ;simp only[e2,e3];exact⟨h.1,hk _ h.2⟩
   .exact h.elim
  .exact h.elim
 .exact h.elim
theorem G8 {T:TypeId} {ok:Bool} (h:fH P T s x y ok K):∃ v,fH P T s x y ok (λu=>v=u)/\K v:=by
 unfold fH at h;obtain⟨i,bs,cl,r,res,z,h1,h2⟩:=jo h;cases res with
 |none=>cases ok<;>exact⟨_,gy h1 rfl,h2⟩
 |some j=>cases ok<;>exact⟨_,gy h1 rfl,h2⟩
theorem zZ {T:TypeId} {ok:Bool} {v u:V} (h:fH P T s x y ok (λw=>v=w)) (h':fH P T s x y ok (λw=>u=w)):v=u:=by
 unfold fH at h h';obtain⟨i,bs,cl,r,res,z,h1,h2⟩:=jo h;obtain⟨i',bs',cl',r',res',z',jE,nD⟩:=jo h';have e:i'=i/\bs'=bs/\cl'=cl/\r'=r/\res'=res/\z'=z:=by have:=Jk h1 jE;obtain⟨_,_,_,_,_,_,⟨rfl,rfl,rfl,rfl,rfl,rfl⟩,rfl,rfl,rfl,rfl,rfl,rfl⟩:=this;exact⟨rfl,rfl,rfl,rfl,rfl,rfl⟩
 obtain⟨rfl,rfl,rfl,rfl,rfl,rfl⟩:=e;cases res'<;>cases ok<;>simp only at h2 nD<;>(rw[show v=_ from h2,show u=_ from nD])
theorem Jo {T:TypeId} (h:o0 P T s x K):∃ v,o0 P T s x (λu=>v=u)/\K v:=by
 unfold o0 at h;split at h
 .rename_i e1
  split at h
  .rename_i e2;exact⟨_,by unfold o0;simp only[e1,e2];exact⟨h.1,trivial⟩,h.2⟩
  .exact h.elim
 .exact h.elim
theorem Jp (h:o5 s x K):∃ v,o5 s x (λu=>v=u)/\K v:=by
 unfold o5 at h;split at h
 .split at h
  .rename_i e2 e3
   split at h
   .rename_i e4;exact⟨_,by unfold o5;simp only[e2,e3,e4];exact⟨h.1,trivial⟩,h.2⟩
   .exact h.elim
  .exact h.elim
 .exact h.elim
theorem BU {ts:List TypeId} {E:Option (TypeId×Nat)} {es:List (List C)} (h:nL P ts E es y K):∃ v,nL P ts E es y (λu=>v=u)/\K v:=by
 unfold nL at h;split at h
 .obtain⟨h1,h⟩:=h
  split at h
  .rename_i e3
   split at h
   .rename_i e4
    obtain⟨h2,h⟩:=h;split at h
    .exact⟨_,by unfold nL;simp only[e3,e4];exact⟨h1,h2,h.1,trivial⟩,h.2⟩
    .exact h.elim
   .exact h.elim
  .exact h.elim
 .exact h.elim
theorem Jq {d:Option Tmp} {args:List Operand} {ts:List TypeId} (h:jv P G s d ts args K):∃ v,jv P G s d ts args (λu=>v=u)/\K v:=by
 unfold jv at h;split at h
 .split at h
  .rename_i e1 e2
   obtain⟨h0,h⟩:=h;obtain⟨v,h1,h2⟩:=rj h;exact⟨v,by unfold jv;simp only[e1,e2];exact⟨h0,h1⟩,h2⟩
  .rename_i e1 e2
   obtain⟨h0,h⟩:=h;obtain⟨v,h1,h2⟩:=BU h;exact⟨v,by unfold jv;simp only[e1,e2];exact⟨h0,h1⟩,h2⟩
  .rename_i e1
   obtain⟨h0,h⟩:=h;obtain⟨v,h1,h2⟩:=BU h;exact⟨v,by unfold jv;simp only[e1];exact⟨h0,h1⟩,h2⟩
  .exact h.elim
 .exact h.elim
theorem RF {d:Option Tmp} {args:List Operand} {ts:List TypeId} (h:vG P G s d ts args K):∃ v,vG P G s d ts args (λu=>v=u)/\K v:=by
 unfold vG at h;split at h
 .split at h
  .rename_i e1 e2
   obtain⟨h0,h⟩:=h;unfold tY at h;split at h
   .obtain⟨h1,h⟩:=h
    split at h
    .rename_i e3
     split at h
     .rename_i e4
      obtain⟨h2,h⟩:=h;split at h
      .rename_i e5
       exact⟨_,by unfold vG;simp only[e1,e2];refine⟨h0,?_⟩;unfold tY;simp only[e3,e4,e5];exact⟨h1,h2,h.1,trivial⟩,h.2⟩
      .exact h.elim
     .exact h.elim
    .exact h.elim
   .exact h.elim
  .exact h.elim
 .exact h.elim
theorem Jr (h:VYK P G tr o s K):∃ v,VYK P G tr o s (λu=>v=u)/\K v:=by
 obtain⟨dst,op,type,pos,after,guard⟩:=o;cases op<;>simp only[VYK] at h ⊢<;>try exact h.elim
 case move x=>
  split at h
  .rename_i e;simp only[if_pos e];exact⟨_,rfl,h⟩
  .rename_i e;simp only[if_neg e];exact⟨_,rfl,h⟩
 case assign x=>exact⟨_,rfl,h⟩
 case pick c a b=>
  split at h
  .exact⟨_,rfl,h⟩
  .exact h.elim
 case build T parts=>exact Ji h
 case buildSlice T len parts=>exact nU h
 case load T x=>exact Nh h
 case binOp op T x y yT=>exact RA h
 case unOp op T x=>exact VQ h
 case convert src dst x=>exact Ni h
 case lookup T x k ok=>exact G8 h
 case range T x=>exact Jo h
 case entry x=>exact Jp h
 case makeFunc f a b=>exact⟨_,⟨h.1,rfl⟩,h.2⟩
 try (case sliceToArrayPointer T x=>exact False.elim h)
 case nilCheck x=>
  split at h
  .exact⟨_,rfl,h⟩
  .exact⟨_,rfl,h⟩
  .exact⟨_,rfl,h⟩
  .exact h.elim
 case slice T x lo hi mx=>exact Jh h
 case fieldAddr T x f=>exact AK h
 case field T x f=>exact Jf h
 case indexAddr T x i=>exact AL h
 case index T x i=>exact Jg h
 case extract x i=>
  split at h
  .split at h
   .exact⟨_,rfl,h⟩
   .exact h.elim
  .exact h.elim
 case call c=>
  obtain⟨callee,args,ts⟩:=c;cases callee with
  |value f=>exact Nj h
  |invoke r m=>exact h.elim
  |builtin b=>
   cases b
   case append=>
    have h':(if Bw tr dst then(if wy tr dst then vG P G s dst ts.toList args.toList K else jv P G s dst ts.toList args.toList K) else eX P .append ts.toList (args.toList.map λx=>vw s (ev G s x)) K):=h
    show ∃ v,(if Bw tr dst then(if wy tr dst then vG P G s dst ts.toList args.toList (λu=>v=u) else jv P G s dst ts.toList args.toList (λu=>v=u)) else eX P .append ts.toList (args.toList.map λx=>vw s (ev G s x)) (λu=>v=u))/\K v
    by_cases hg:Bw tr dst=true
    .rw[if_pos hg] at h';simp only[if_pos hg]
     by_cases QZ:wy tr dst=true
     .rw[if_pos QZ] at h';simp only[if_pos QZ];exact RF h'
     .rw[if_neg QZ] at h';simp only[if_neg QZ];exact Jq h'
    .rw[if_neg hg] at h';simp only[if_neg hg];exact rj h'
   all_goals exact rj h
end
section
variable {P:Program} {G:Gl} {tr:List Nat} {s:S} {o:Oper} {x y:V} {ops:Array Oper} {md:Region.Mode}
inductive Ef where
 |v (x:V)
 |al (cs:List V)
 |st (b k:Nat) (ds:List V)
 |gn (bx:Nat->List V) (nb:Nat) (x:V)
 |skip
def Ef.val (nb:Nat):Ef->V
 | .v x=>x
 | .al _=>.bp nb 0
 | .st _ _ _=>.sk
 | .gn _ _ x=>x
 | .skip=>.sk
def Ef.bx (nb:Nat) (bx:Nat->List V):Ef->Nat->List V
 | .al cs=>up bx nb cs
 | .st b k ds=>up bx b (eQ (bx b) k ds)
 | .gn bx' _ _=>bx'
 |_=>bx
def Ef.nb (nb:Nat):Ef->Nat
 | .al _=>nb+1
 | .gn _ nb' _=>nb'
 |_=>nb
def Ef.uses:Ef->Bool
 | .skip=>false
 |_=>true
def G9 (u:Bool) (t:Option Tmp) (fr:Nat->V):Nat->V:=match t with
 |some t=>if u&&(fr t).isOw then up fr t .un else fr
 |none=>fr
def Js (d:Option Tmp) (x:V) (fr:Nat->V):Nat->V:=match d with
 |some d=>up fr d x
 |none=>fr
def Ef.run (tr:List Nat) (o:Oper) (s:S) (e:Ef):S:=⟨Js o.dst (e.val s.nb) (G9 e.uses (cj tr o) s.fr),e.bx s.nb s.bx,e.nb s.nb⟩
def VEf (P:Program) (G:Gl) (tr:List Nat) (o:Oper) (s:S) (e:Ef):Prop:=
 match o.op with
 | .alloc T=>match ti P T with
  |some { zero:=some z,.. }=>e=.al (z.map nM)
  |_=>False
 | .box _ x=>match(ev G s x).bcells with
  |some cs=>e=.al cs
  |none=>False
 | .store T p x=>pe tr (MV p) (ev G s p)=true/\match ti P T,ev G s p,(ev G s x).bcells with
  |some i,.bp b k,some cs=>(b<s.nb/\cs.length=i.size/\k+i.size<=(s.bx b).length/\ck (s.bx b)=false)/\e=.st b k cs
  |some i,.c (.ex (.pointer (some ⟨blk,j,none⟩))),_=>(∃ (b k len cap:Nat) (E:Option (TypeId×Nat)) (es:List (List C)) (r:Nat) (e':List C) (c:C),(i.size=1/\b<s.nb/\ck (s.bx b)=false/\(s.bx b)[k]?=some (V.hh (some (.slice (some ⟨blk,0,none⟩) len cap)) E (es++[e']))/\
    (es.flatten.length+r=j/\r<e'.length)/\(ev G s x).asC=some c)/\
   e=.gn (up s.bx b ((s.bx b).set k (.hh (some (.slice (some ⟨blk,0,none⟩) len cap)) E (es++[e'.set r c])))) s.nb .sk)∨ag5 s.bx s.nb i blk j (ev G s x) (λbx=>e=.gn bx s.nb .sk)
  |_,_,_=>False
 | .buildSlice T len parts=>if oq tr o.dst then ∃ bx nb x,e=.gn bx nb x/\cH P T len (parts.toList.map λ(i,x)=>(i,ev G s x)) (By s.bx s.nb len len λb n u=>(bx=b/\nb=n)/\x=u)
  else ∃ v,e=.v v/\VYK P G tr o s λu=>v=u
 | .makeSlice T l c=>∃ bx nb x,e=.gn bx nb x/\rN P T (ev G s l) (ev G s c) λn m sz z=>(up s.bx s.nb ((List.replicate m z).flatten.map .c)=bx/\s.nb+1=nb)/\V.ms s.nb 0 n m sz=x
 | .call { callee:=.value f,args:=args,.. }=>if xz tr o.dst then ∃ bx nb x,e=.gn bx nb x/\kE P G s.bx s.nb (ev G s f) (args.toList.map (ev G s)) (λb n u=>(bx=b/\nb=n)/\x=u)/\(Ea tr o.dst=true->nb=s.nb/\∀ b,bx b=s.bx b∨(b<100/\tr.contains (500000+o.dst.getD 0*100+b)=true))
  else ∃ v,e=.v v/\VYQ P G tr o s f args λu=>v=u
 | .load _ x=>∃ v,e=.v v/\pe tr o.dst (ev G s x)=true/\VYK P G tr o s λu=>v=u
 | .mapUpdate T m k x=>∃ bx,e=.gn bx s.nb .sk/\gY P T ⟨λ_=>.un,s.bx,s.nb⟩ (ev G s m) (ev G s k) (ev G s x) λs'=>bx=s'.bx
 | .mapEntry T m k=>∃ bx v,e=.gn bx s.nb v/\fY P T ⟨λ_=>.un,s.bx,s.nb⟩ (ev G s m) (ev G s k) λs' u=>bx=s'.bx/\v=u
 | .entryStore _ m n x=>∃ bx,e=.gn bx s.nb .sk/\fJ ⟨λ_=>.un,s.bx,s.nb⟩ (ev G s m) (ev G s n) (ev G s x) λs'=>bx=s'.bx
 | .call { callee:=.builtin .copy,args:=args,argTypes:=ts }=>∃ bx v,e=.gn bx s.nb v/\xB P ⟨λ_=>.un,s.bx,s.nb⟩ (λs' u=>bx=s'.bx/\v=u) ts.toList (args.toList.map (ev G s))
 | .call { callee:=.builtin .append,args:=args,argTypes:=ts }=>if oq tr o.dst then False else if wz tr o.dst then ∃ bx v,e=.gn bx s.nb v/\fE P ⟨λ_=>.un,s.bx,s.nb⟩ (λs' u=>bx=s'.bx/\v=u) ts.toList (args.toList.map (ev G s))
  else ∃ v,e=.v v/\VYK P G tr o s λu=>v=u
 | .call { callee:=.builtin .clear,args:=args,argTypes:=ts }=>∃ bx,e=.gn bx s.nb .un/\jw P ⟨λ_=>.un,s.bx,s.nb⟩ (λs'=>bx=s'.bx) ts.toList (args.toList.map (ev G s))
 |_=>∃ v,e=.v v/\VYK P G tr o s λu=>v=u
theorem VS {t:Option Tmp}:(s.use t).bx=s.bx:=by
 cases t with
 |none=>rfl
 |some t=>simp only[S.use];split<;>rfl
theorem Ha {t:Option Tmp}:(s.use t).nb=s.nb:=by
 cases t with
 |none=>rfl
 |some t=>simp only[S.use];split<;>rfl
theorem Aa (v:V):(Ef.v v).run tr o s=s.after tr o v:=by
 unfold Ef.run S.after S.use S.put G9 Js;cases cj tr o with
 |none=>cases o.dst<;>rfl
 |some t=>by_cases h:(s.fr t).isOw=true<;>cases o.dst<;>simp[h,Ef.uses,S.clr,Ef.val,Ef.bx,Ef.nb]
theorem He (cs:List V):(Ef.al cs).run tr o s=(let s':=s.use (cj tr o);{ s' with bx:=up s'.bx s'.nb cs,nb:=s'.nb+1 }:S).put o.dst (.bp s.nb 0):=by
 unfold Ef.run S.use S.put G9 Js;cases cj tr o with
 |none=>cases o.dst<;>rfl
 |some t=>by_cases h:(s.fr t).isOw=true<;>cases o.dst<;>simp[h,Ef.uses,S.clr,Ef.val,Ef.bx,Ef.nb]
theorem VT (b k:Nat) (ds:List V):(Ef.st b k ds).run tr o s=(let s':=s.use (cj tr o);{ s' with bx:=up s'.bx b (eQ (s'.bx b) k ds) }:S).put o.dst .sk:=by
 unfold Ef.run S.use S.put G9 Js;cases cj tr o with
 |none=>cases o.dst<;>rfl
 |some t=>by_cases h:(s.fr t).isOw=true<;>cases o.dst<;>simp[h,Ef.uses,S.clr,Ef.val,Ef.bx,Ef.nb]
theorem jK (bx:Nat->List V) (nb:Nat) (x:V):(Ef.gn bx nb x).run tr o s=(let s':=s.use (cj tr o);{ s' with bx:=bx,nb:=nb }:S).put o.dst x:=by
 unfold Ef.run S.use S.put G9 Js;cases cj tr o with
 |none=>cases o.dst<;>rfl
 |some t=>by_cases h:(s.fr t).isOw=true<;>cases o.dst<;>simp[h,Ef.uses,S.clr,Ef.val,Ef.bx,Ef.nb]
theorem uh {T:TypeId} {len:Nat} {parts:List (Nat×V)} {v:V} {K:V->Prop} (h:cH P T len parts (λu=>v=u)) (hk:∀ u,v=u->K u):cH P T len parts K:=by
 unfold cH at h;split at h
 .rename_i e1
  split at h
  .rename_i e2
   obtain⟨h0,h⟩:=h;split at h
   .rename_i e3
    unfold cH;simp only[e1,e2,e3];exact⟨h0,hk _ h⟩
   .exact h.elim
  .exact h.elim
 .exact h.elim
theorem Jt {f:V} {args:List V} {K:V->Prop} (h:pO P G s f args K):∃ v,pO P G s f args (λu=>v=u)/\K v:=by
 unfold pO at h;split at h
 .rename_i g all hc
  obtain⟨ρ,cargs,b0,r,h1,h2,h3,h4,h5,h6⟩:=h;exact⟨r,by unfold pO;simp only[hc];exact⟨ρ,cargs,b0,r,h1,h2,h3,h4,h5,rfl⟩,h6⟩
 .exact h.elim
theorem EZ {s s':S} {ρ:Nat->Nat} (hn:s.nb<=s'.nb) (hb:∀ i,i<s.nb->s'.bx i=s.bx i):∀ (b:List (List V)) (i:Nat),rf s.bx s.nb ρ i b->rf s'.bx s'.nb ρ i b
 |[],_,_=>trivial
 |x::r,i,h=>⟨⟨cn h.1.1 hn,by rw[hb _ h.1.1];exact h.1.2⟩,EZ hn hb r (i+1) h.2⟩
theorem Ab {s s':S} {f:V} {args:List V} {K:V->Prop} (hn:s.nb<=s'.nb) (hb:∀ i,i<s.nb->s'.bx i=s.bx i) (h:pO P G s f args K):pO P G s' f args K:=by
 unfold pO at h ⊢
 split at h
 .rename_i g all hc
  obtain⟨ρ,cargs,b0,r,h1,h2,h3,h4,h5,h6⟩:=h;exact⟨ρ,cargs,b0,r,h1,h2,h3,λN=>EZ hn hb _ _ (h4 N),h5,h6⟩
 .exact h.elim
theorem RG {bx:Nat->List V} {nb:Nat} {f:V} {l:List V} {K K':(Nat->List V)->Nat->V->Prop} (h:kE P G bx nb f l K) (hk:∀ b n u,K b n u->K' b n u):kE P G bx nb f l K':=by
 unfold kE at h;split at h
 .rename_i e1
  unfold kE;simp only[e1];obtain⟨ρ,cargs,b0,r,b1,h1,h2,h3,h4,h5⟩:=h;exact⟨ρ,cargs,b0,r,b1,h1,h2,h3,h4,hk _ _ _ h5⟩
 .exact h.elim
theorem Ju {T:TypeId} {l c:V} {K K':Nat->Nat->Nat->List C->Prop} (h:rN P T l c K) (hk:∀ n m sz z,K n m sz z->K' n m sz z):rN P T l c K':=by
 unfold rN at h;split at h
 .rename_i e1
  split at h
  .rename_i e2
   unfold rN;simp only[e1,e2];exact⟨h.1,hk _ _ _ _ h.2⟩
  .exact h.elim
 .exact h.elim
theorem BV:Ef.skip.run tr o s=s.put o.dst .sk:=by unfold Ef.run S.put G9 Js;cases cj tr o<;>cases o.dst<;>simp[Ef.uses,Ef.val,Ef.bx,Ef.nb]
theorem VStep.ef {K:S->Prop} (EG:pw tr o=false) (h:VStep P G tr o s K):∃ e,e≠.skip/\VEf P G tr o s e/\K (e.run tr o s):=by
 have gen:VYK P G tr o s (λv=>K (s.after tr o v))->(∀ e,VEf P G tr o s e↔∃ v,e=.v v/\VYK P G tr o s λu=>v=u)->∃ e,e≠.skip/\VEf P G tr o s e/\K (e.run tr o s):=λh hV=>by obtain⟨v,h1,h2⟩:=Jr h;exact⟨.v v,by simp,(hV _).2 ⟨v,rfl,h1⟩,by rw[Aa];exact h2⟩
 unfold VStep at h;split at h
 .rename_i T cw
  split at h
  .rename_i z _ _ hi
   refine⟨.al (z.map nM),by simp,by unfold VEf;rw[cw];simp only[hi],?_⟩;rw[He];have:cj tr o=none:=(by simp[cj,cw]);rw[this];exact h
  .exact h.elim
 .rename_i T X cw
  split at h
  .rename_i cs hi
   refine⟨.al cs,by simp,by unfold VEf;rw[cw];simp only[hi],?_⟩;rw[He];exact h
  .exact h.elim
 .rename_i T p X cw
  obtain⟨l0,h⟩:=h;split at h
  .rename_i i b k cs h1 h2 h3
   obtain⟨h4,h⟩:=h;refine⟨.st b k cs,by simp,by unfold VEf;rw[cw];simp only[h1,h2,h3];rw[h2] at l0;exact⟨l0,h4,trivial⟩,?_⟩;rw[VT];exact h
  .rename_i i blk j h1 h2
   rcases h with h | ⟨b,k,len,cap,q,E,es,cs,h4,h⟩
   rotate_left
   .refine⟨.gn (up s.bx b ((s.bx b).set k (.gg (.slice (some ⟨blk,0,none⟩) len cap) (some (E,i.size)) (es.set q cs)))) s.nb .sk,by simp,by unfold VEf;rw[cw];simp only[h1,h2];rw[h2] at l0;exact⟨l0,.inr ⟨b,k,len,cap,q,E,es,cs,h4,rfl⟩⟩,?_⟩
    rw[jK];have e:∀ bx,({ s.use (cj tr o) with bx:=bx,nb:=s.nb }:S)={ s.use (cj tr o) with bx:=bx }:=λbx=>by rw[<- Ha (s:=s) (t:=cj tr o)]
    show K (({ s.use (cj tr o) with bx:=_,nb:=s.nb }:S).put o.dst .sk)
    rw[e];exact h
   obtain⟨b,k,len,cap,E,es,r,e',c,h4,h⟩:=h;refine⟨.gn (up s.bx b ((s.bx b).set k (.hh (some (.slice (some ⟨blk,0,none⟩) len cap)) E (es++[e'.set r c])))) s.nb .sk,by simp,by unfold VEf;rw[cw];simp only[h1,h2];rw[h2] at l0;exact⟨l0,.inl ⟨b,k,len,cap,E,es,r,e',c,h4,rfl⟩⟩,?_⟩;rw[jK];have h':K (({ s.use (cj tr o) with bx:=up (s.use (cj tr o)).bx b (((s.use (cj tr o)).bx b).set k (.hh (some (.slice (some ⟨blk,0,none⟩) len cap)) E (es++[e'.set r c]))) }:S).put o.dst .sk):=h
   rw[VS] at h';have e:({ s.use (cj tr o) with bx:=up s.bx b ((s.bx b).set k (.hh (some (.slice (some ⟨blk,0,none⟩) len cap)) E (es++[e'.set r c]))),nb:=s.nb }:S)={ s.use (cj tr o) with bx:=up s.bx b ((s.bx b).set k (.hh (some (.slice (some ⟨blk,0,none⟩) len cap)) E (es++[e'.set r c]))) }:=by rw[<- Ha (s:=s) (t:=cj tr o)]
   show K (({ s.use (cj tr o) with bx:=up s.bx b ((s.bx b).set k (.hh (some (.slice (some ⟨blk,0,none⟩) len cap)) E (es++[e'.set r c]))),nb:=s.nb }:S).put o.dst .sk)
   rw[e];exact h'
  .exact h.elim
 .rename_i T len parts cw
  split at h
  .rename_i hn
   obtain⟨v,h1,h2⟩:=nU h;obtain⟨bx,nb,x,h3,h4⟩:=BP h2;refine⟨.gn bx nb x,by simp,?_,?_⟩
   .unfold VEf;rw[cw];simp only[hn,cZ]
    refine⟨bx,nb,x,rfl,?_⟩;refine uh h1 λu hu=>?_;subst hu;exact h3
   .rw[jK]
    have:cj tr o=none:=(by simp[cj,cw]);rw[this];exact h4
  .rename_i hn
   have hb:MS tr o.dst=false:=(by simpa[pw,cw] using EG);simp only[hb,aM,dp] at h;refine gen h λe=>?_;unfold VEf;rw[cw];simp only[if_neg hn]
 .rename_i T l c cw
  obtain⟨p,m,sz,z,h1,h2⟩:=Nk h;refine⟨.gn (up s.bx s.nb ((List.replicate m z).flatten.map .c)) (s.nb+1) (.ms s.nb 0 p m sz),by simp,?_,?_⟩
  .unfold VEf;rw[cw]
   refine⟨_,_,_,rfl,?_⟩;refine Ju h1 λn' m' sz' z' hh=>?_;obtain⟨rfl,rfl,rfl,rfl⟩:=hh;exact⟨⟨rfl,rfl⟩,rfl⟩
  .rw[jK]
   have:cj tr o=none:=(by simp[cj,cw]);rw[this];exact h2
 .rename_i f args ts cw
  have hye:Gw tr o.dst=false/\IL tr o.dst=false:=by simpa[pw,cw] using EG
  have hy:=hye.1;have hef:=hye.2;simp only[hy,hef,aM,dp] at h;split at h
  .rename_i hn
   obtain⟨bx,nb,x,h3,h4⟩:=Jj h;have h5:(Ea tr o.dst=true->ag4 tr o.dst s ⟨s.fr,bx,nb⟩)/\K ((⟨s.fr,bx,nb⟩:S).put o.dst x):=by
    by_cases hl:Ea tr o.dst=true
    .rw[if_pos hl] at h4;exact⟨λ_=>h4.1,h4.2⟩
    .rw[if_neg hl] at h4;exact⟨λh=>absurd h hl,h4⟩
   refine⟨.gn bx nb x,by simp,?_,?_⟩
   .unfold VEf;rw[cw];simp only[hn,cZ]
    exact⟨bx,nb,x,rfl,h3,h5.1⟩
   .rw[jK]
    have:cj tr o=none:=(by simp[cj,cw]);rw[this];exact h5.2
  .rename_i hn
   by_cases Q2:Rf tr o.dst=true
   .unfold VYQ at h;rw[if_pos Q2] at h
    obtain⟨v,h1,h2⟩:=Jt h;exact⟨.v v,by simp,by unfold VEf;rw[cw];simp only[if_neg hn];exact⟨v,rfl,by unfold VYQ;rw[if_pos Q2];exact h1⟩,by rw[Aa];exact h2⟩
   .unfold VYQ at h;rw[if_neg Q2] at h
    refine gen h λe=>?_;unfold VEf;rw[cw];simp only[if_neg hn,VYQ,if_neg Q2]
 .rename_i args ts cw
  have hn:oq tr o.dst=false:=by simpa[pw,cw] using EG
  simp only[hn,aM,dp] at h;split at h
  .rename_i hr
   have hu:=xR (tr:=tr) cw h;obtain⟨bx,v,h1,h2⟩:=Em h;refine⟨.gn bx s.nb v,by simp,by unfold VEf;rw[cw];simp only[hn,hr,aM,dp,cZ];exact⟨bx,v,rfl,h1⟩,?_⟩;rw[jK,hu];exact h2
  .rename_i hr
   refine gen h λe=>?_;unfold VEf;rw[cw];simp only[hn,aM,dp,if_neg hr]
 .rename_i args ts cw
  obtain⟨bx,v,h1,h2⟩:=Nl h;refine⟨.gn bx s.nb v,by simp,by unfold VEf;rw[cw];exact⟨bx,v,rfl,h1⟩,?_⟩;have:cj tr o=none:=by simp[cj,cw]
  rw[jK,this];exact h2
 .rename_i args ts cw
  obtain⟨bx,h1,h2⟩:=Jl h;refine⟨.gn bx s.nb .un,by simp,by unfold VEf;rw[cw];exact⟨bx,rfl,h1⟩,?_⟩;have:cj tr o=none:=by simp[cj,cw]
  rw[jK,this];exact h2
 .rename_i args ts cw
  have hn:MU tr o.dst=false:=by simpa[pw,cw] using EG
  simp only[hn,aM,dp] at h;refine gen h λe=>?_;unfold VEf;rw[cw]
 .rename_i src dst X cw
  have hn:oq tr o.dst=false:=by simpa[pw,cw] using EG
  simp only[hn,aM,dp] at h;refine gen h λe=>?_;unfold VEf;rw[cw]
 .rename_i op T X Y yT cw
  have hn:A5 Y=false:=by simpa[pw,cw] using EG
  simp only[hn,aM,dp] at h;refine gen h λe=>?_;unfold VEf;rw[cw]
 .rename_i T X cw
  have hn:isZ tr o.dst=false:=by simpa[pw,cw] using EG
  simp only[hn,aM,dp] at h;obtain⟨l0,h⟩:=h;obtain⟨v,h1,h2⟩:=Jr h;exact⟨.v v,by simp,by unfold VEf;rw[cw];exact⟨v,rfl,l0,h1⟩,by rw[Aa];exact h2⟩
 .rename_i T parts cw
  have hn:isZ tr o.dst=false:=by simpa[pw,cw] using EG
  simp only[hn,aM,dp] at h;refine gen h λe=>?_;unfold VEf;rw[cw]
 .rename_i cw;simp[pw,cw] at EG
 .rename_i T m k X cw
  obtain⟨bx,h1,h2⟩:=G6 h;refine⟨.gn bx s.nb .sk,by simp,by unfold VEf;rw[cw];exact⟨bx,rfl,h1⟩,?_⟩;have:cj tr o=none:=by simp[cj,cw]
  rw[jK,this];exact h2
 .rename_i T m k cw
  obtain⟨bx,v,h1,h2⟩:=BQ h;refine⟨.gn bx s.nb v,by simp,by unfold VEf;rw[cw];exact⟨bx,v,rfl,h1⟩,?_⟩;have:cj tr o=none:=by simp[cj,cw]
  rw[jK,this];exact h2
 .rename_i T m k X cw
  obtain⟨bx,h1,h2⟩:=BR h;refine⟨.gn bx s.nb .sk,by simp,by unfold VEf;rw[cw];exact⟨bx,rfl,h1⟩,?_⟩;have:cj tr o=none:=by simp[cj,cw]
  rw[jK,this];exact h2
 .rename_i cw;simp[pw,cw] at EG
 .rename_i cw;simp[pw,cw] at EG
 .rename_i n1 n2 n3 n4 n5 n6 n7 n8 n9 n10 n11 n12 n13 n14 n15 n16 n17 n18 n19 n20
  refine gen h λe=>?_;unfold VEf;split
  .rename_i cw;exact absurd cw (n1 _)
  .rename_i cw;exact absurd cw (n2 _ _)
  .rename_i cw;exact absurd cw (n3 _ _ _)
  .rename_i cw;exact absurd cw (n4 _ _ _)
  .rename_i cw;exact absurd cw (n5 _ _ _)
  .rename_i cw;exact absurd cw (n6 _ _ _)
  .rename_i cw;exact absurd cw (n13 _ _)
  .rename_i cw;exact absurd cw (n16 _ _ _ _)
  .rename_i cw;exact absurd cw (n17 _ _ _)
  .rename_i cw;exact absurd cw (n18 _ _ _ _)
  .rename_i cw;exact absurd cw (n8 _ _)
  .rename_i cw;exact absurd cw (n7 _ _)
  .rename_i cw;exact absurd cw (n9 _ _)
  .exact Iff.rfl
variable {n:Nat} {I0:Ft} {M:Mx} {w0:World} {I:Ft} {β:Nat->Option Nat} {ob:Loc->Option Nat} {a:Act} {w:World} {next:Act->World->Prop} {Q:Exit->Act->World->Prop}
theorem E0 {e:Ef} (hst:St G n I0 M w0 I β ob s a w) (hd:∀ d,o.dst=some d->d<n) (h:VEf P G tr o s e)
 (hk:∀ a' w',SE G n I0 M w0 (e.run tr o s) a' w'->next a' w'):o.wp P a w next Q:=by
 have viaStep:qD tr o=false->VStep P G tr o s (λs'=>e.run tr o s=s')->o.wp P a w next Q:=λhy h=>
  qL (tr:=tr) hst hd hy h (λa' w' s' hs dH=>hk a' w' (by rw[hs];exact dH))
 unfold VEf at h;split at h
 .rename_i T cw
  split at h
  .rename_i z _ _ hi
   subst h;refine viaStep (by simp[qD,cw]) ?_;unfold VStep;rw[cw];simp only[hi];rw[He];have:cj tr o=none:=(by simp[cj,cw]);rw[this];rfl
  .exact h.elim
 .rename_i T X cw
  split at h
  .rename_i cs hi
   subst h;refine viaStep (by simp[qD,cw]) ?_;unfold VStep;rw[cw];simp only[hi];rw[He]
  .exact h.elim
 .rename_i T p X cw
  obtain⟨l0,h⟩:=h;split at h
  .rename_i i b k cs h1 h2 h3
   obtain⟨h4,rfl⟩:=h;refine viaStep (by simp[qD,cw]) ?_;unfold VStep;rw[cw];simp only[h1,h2,h3];rw[VT];rw[h2] at l0;exact⟨l0,h4,rfl⟩
  .rename_i i blk j h1 h2
   rcases h with h | ⟨b,k,len,cap,q,E,es,cs,h4,rfl⟩
   rotate_left
   .refine viaStep (by simp[qD,cw]) ?_
    unfold VStep;rw[cw];simp only[h1,h2];rw[jK];rw[h2] at l0;refine⟨l0,.inr ⟨b,k,len,cap,q,E,es,cs,h4,?_⟩⟩;have e:∀ bx,({ s.use (cj tr o) with bx:=bx,nb:=s.nb }:S)={ s.use (cj tr o) with bx:=bx }:=λbx=>by rw[<- Ha (s:=s) (t:=cj tr o)]
    show({ s.use (cj tr o) with bx:=_,nb:=s.nb }:S).put o.dst .sk=_
    rw[e]
   obtain⟨b,k,len,cap,E,es,r,e',c,h4,rfl⟩:=h;refine viaStep (by simp[qD,cw]) ?_;unfold VStep;rw[cw];simp only[h1,h2];rw[jK];rw[h2] at l0;refine⟨l0,.inl ⟨b,k,len,cap,E,es,r,e',c,h4,?_⟩⟩;have e:({ s.use (cj tr o) with bx:=up s.bx b ((s.bx b).set k (.hh (some (.slice (some ⟨blk,0,none⟩) len cap)) E (es++[e'.set r c]))),nb:=s.nb }:S)={ s.use (cj tr o) with bx:=up s.bx b ((s.bx b).set k (.hh (some (.slice (some ⟨blk,0,none⟩) len cap)) E (es++[e'.set r c]))) }:=by rw[<- Ha (s:=s) (t:=cj tr o)]
   show({ s.use (cj tr o) with bx:=up s.bx b ((s.bx b).set k (.hh (some (.slice (some ⟨blk,0,none⟩) len cap)) E (es++[e'.set r c]))),nb:=s.nb }:S).put o.dst .sk=({ s.use (cj tr o) with bx:=up (s.use (cj tr o)).bx b (((s.use (cj tr o)).bx b).set k (.hh (some (.slice (some ⟨blk,0,none⟩) len cap)) E (es++[e'.set r c]))) }:S).put o.dst .sk
   rw[e,VS]
  .exact h.elim
 .rename_i T len parts cw
  split at h
  .rename_i hn
   obtain⟨bx,nb,x,rfl,h⟩:=h;refine viaStep (by simp[qD,cw]) ?_;unfold VStep;rw[cw];simp only[hn,cZ];have:cj tr o=none:=(by simp[cj,cw]);rw[jK,this];obtain⟨v,h1,h2⟩:=nU h;refine uh h1 λu hu=>?_;subst hu;obtain⟨b,n,y,h3,⟨rfl,rfl⟩,rfl⟩:=BP h2;unfold Vs;unfold By at h3 ⊢
   split at h3
   .obtain⟨⟨rfl,rfl⟩,rfl⟩:=h3;rfl
   .exact h3.elim
  .rename_i hn
   obtain⟨v,rfl,h⟩:=h;exact pJ (tr:=tr) hst hd h (λa' w' x hx dH=>hk a' w' (by rw[Aa];subst hx;exact dH))
 .rename_i T l c cw
  obtain⟨bx,nb,x,rfl,h⟩:=h;refine viaStep (by simp[qD,cw]) ?_;unfold VStep;rw[cw];have:cj tr o=none:=by simp[cj,cw]
  rw[jK,this];refine Ju h λn m sz z hh=>?_;obtain⟨⟨rfl,rfl⟩,rfl⟩:=hh;rfl
 .rename_i f args ts cw
  split at h
  .rename_i hn
   obtain⟨bx,nb,x,rfl,h,hlc⟩:=h;have hc:cj tr o=none:=(by simp[cj,cw]);refine sF (K:=λs' u=>s'.put o.dst u=(Ef.gn bx nb x).run tr o s) cw hst hd ?_ (λa' w' s' u hK dH=>hk a' w' (by rw[<- hK];exact dH));unfold vcallB;refine RG h λb n u hh=>?_;obtain⟨⟨rfl,rfl⟩,rfl⟩:=hh;rw[jK,hc];rfl
  .rename_i hn
   obtain⟨v,rfl,h⟩:=h;exact EX (tr:=tr) cw hst hd h (λa' w' x hx dH=>hk a' w' (by rw[Aa];subst hx;exact dH))
 .obtain⟨v,rfl,_,h⟩:=h
  exact pJ (tr:=tr) hst hd h (λa' w' x hx dH=>hk a' w' (by rw[Aa];subst hx;exact dH))
 .rename_i T m k X cw
  obtain⟨bx,rfl,h⟩:=h;refine viaStep (by simp[qD,cw]) ?_;have:cj tr o=none:=by simp[cj,cw]
  rw[jK,this];unfold VStep;rw[cw];exact RE (G7 h) λs' e=>by rw[<- e];rfl
 .rename_i T m k cw
  obtain⟨bx,v,rfl,h⟩:=h;refine viaStep (by simp[qD,cw]) ?_;have:cj tr o=none:=by simp[cj,cw]
  rw[jK,this];unfold VStep;rw[cw];exact ug (pW h) λs' u e=>by rw[<- e.1,<- e.2];rfl
 .rename_i T m k X cw
  obtain⟨bx,rfl,h⟩:=h;refine viaStep (by simp[qD,cw]) ?_;have:cj tr o=none:=by simp[cj,cw]
  rw[jK,this];unfold VStep;rw[cw];exact Jn (BS h) λs' e=>by rw[<- e];rfl
 .rename_i args ts cw
  obtain⟨bx,v,rfl,h⟩:=h;refine viaStep (by simp[qD,cw]) ?_;have:cj tr o=none:=by simp[cj,cw]
  rw[jK,this];unfold VStep;rw[cw];exact abB (Nn h) λs' u e=>by rw[<- e.1,<- e.2];rfl
 .rename_i args ts cw
  split at h
  .exact h.elim
  rename_i hn;split at h
  .rename_i hr
   obtain⟨bx,v,rfl,h⟩:=h;refine viaStep (by simp[qD,cw]) ?_;rw[jK,xR (tr:=tr) cw h];unfold VStep;rw[cw];simp only[hn,hr,cZ,dp,aM];refine Np (En h) (λs' u e=>?_);rw[<- e.1,<- e.2]
  .obtain⟨v,rfl,h⟩:=h
   exact pJ (tr:=tr) hst hd h (λa' w' x hx dH=>hk a' w' (by rw[Aa];subst hx;exact dH))
 .rename_i args ts cw
  obtain⟨bx,rfl,h⟩:=h;refine viaStep (by simp[qD,cw]) ?_;have:cj tr o=none:=by simp[cj,cw]
  rw[jK,this];unfold VStep;rw[cw];exact VR (Jm h) λs' e=>by rw[<- e];rfl
 .obtain⟨v,rfl,h⟩:=h
  exact pJ (tr:=tr) hst hd h (λa' w' x hx dH=>hk a' w' (by rw[Aa];subst hx;exact dH))
def dV (tr:List Nat) (o:Oper):Nat:=
 match o.op with
 | .call { callee:=.builtin .copy,.. }=>2
 | .call { callee:=.builtin .clear,.. }=>2
 | .load _ _ | .convert _ _ _ | .lookup _ _ _ _ | .range _ _ | .entry _=>1
 | .call { callee:=.builtin .append,.. }=>if wz tr o.dst then 2 else 1
 | .call { callee:=.value _,.. }=>if xz tr o.dst then 2 else 1
 | .buildSlice _ _ _=>if oq tr o.dst then 2 else 0
 | .alloc _ | .box _ _ | .store _ _ _ | .makeSlice _ _ _ | .mapUpdate _ _ _ _ | .mapEntry _ _ _ | .entryStore _ _ _ _=>2
 |_=>0
theorem BW {s':S} {x:Operand} (h:∀ t,x=.tmp t->s.fr t=s'.fr t):ev G s x=ev G s' x:=by cases x<;>simp only[ev];exact h _ rfl
theorem abC {s':S} (hb:s.bx=s'.bx) (hn:s.nb=s'.nb):imm s=imm s':=by obtain⟨fr,bx,nb⟩:=s;obtain⟨fr',bx',nb'⟩:=s';simp only at hb hn;subst hb;subst hn;funext x;cases x<;>rfl
theorem Hf {s':S} (hb:s.bx=s'.bx) (hn:s.nb=s'.nb):vw s=vw s':=by obtain⟨fr,bx,nb⟩:=s;obtain⟨fr',bx',nb'⟩:=s';simp only at hb hn;subst hb;subst hn;funext x;cases x<;>rfl
theorem rS {s':S} {K:V->Prop} (A1:∀ d,o.dst=some d->s.fr d=s'.fr d) (he:∀ x∈o.op.operands,ev G s x=ev G s' x) (hm:dV tr o≠0->s.bx=s'.bx/\s.nb=s'.nb) (h:VYK P G tr o s K):VYK P G tr o s' K:=by
 have marr:∀ l:Array Operand,(∀ x∈l,ev G s x=ev G s' x)->l.toList.map (ev G s)=l.toList.map (ev G s'):=λl hl=>bS λx hx=>hl x (by simpa using hx);have mopt:∀ l:Option Operand,(∀ x,l=some x->ev G s x=ev G s' x)->l.map (ev G s)=l.map (ev G s'):=λl hl=>by cases l with
  |none=>rfl
  |some x=>simp only[cU,hl x rfl]
 obtain⟨dst,op,type,pos,after,guard⟩:=o;cases op<;>simp only[VYK] at h ⊢<;>try exact h
 case move x=>rw[<- he x (by simp[Op.operands])];exact h
 case assign x=>rw[<- he x (by simp[Op.operands])];exact h
 case pick c a b=>rw[<- he c (by simp[Op.operands]),<- he a (by simp[Op.operands]),<- he b (by simp[Op.operands])];exact h
 case build T parts=>
  have:(parts.toList.map λ(i,x)=>(i,ev G s' x))=parts.toList.map λ(i,x)=>(i,ev G s x):=bS λp hp=>by obtain⟨i,x⟩:=p;simp only[he x (by simp only[Op.operands,gr,bM];exact⟨(i,x),hp,rfl⟩)]
  rw[this];exact h
 case buildSlice T len parts=>
  have:(parts.toList.map λ(i,x)=>(i,ev G s' x))=parts.toList.map λ(i,x)=>(i,ev G s x):=bS λp hp=>by obtain⟨i,x⟩:=p;simp only[he x (by simp only[Op.operands,gr,bM];exact⟨(i,x),hp,rfl⟩)]
  rw[this];exact h
 case load T x=>
  obtain⟨h1,h2⟩:=hm (by simp[dV]);rw[<- he x (by simp[Op.operands])];unfold cO at h ⊢
  rw[<- h1,<- h2];exact h
 case lookup T x k ok=>
  obtain⟨h1,h2⟩:=hm (by simp[dV]);rw[<- he x (by simp[Op.operands]),<- he k (by simp[Op.operands])];unfold fH gX at h ⊢
  rw[<- h1,<- h2];exact h
 case range T x=>
  obtain⟨h1,h2⟩:=hm (by simp[dV]);rw[<- he x (by simp[Op.operands])];unfold o0 at h ⊢
  rw[<- h1,<- h2];exact h
 case entry x=>
  obtain⟨h1,h2⟩:=hm (by simp[dV]);rw[<- he x (by simp[Op.operands])];unfold o5 at h ⊢
  rw[<- h1,<- h2];exact h
 case binOp op T x y yT=>rw[<- he x (by simp[Op.operands]),<- he y (by simp[Op.operands])];exact h
 case unOp op T x=>rw[<- he x (by simp[Op.operands])];exact h
 case convert src dst x=>obtain⟨h1,h2⟩:=hm (by simp[dV]);rw[<- he x (by simp[Op.operands]),<- Hf h1 h2];exact h
 case makeFunc f a b=>rw[<- marr a λx hx=>he x (by simp[Op.operands,hx]),<- marr b λx hx=>he x (by simp[Op.operands,hx])];exact h
 try (case sliceToArrayPointer T x=>exact False.elim h)
 case nilCheck x=>rw[<- he x (by simp[Op.operands])];exact h
 case slice T x lo hi mx=>rw[<- he x (by simp[Op.operands]),<- mopt lo λx hx=>he x (by simp[Op.operands,hx]),<- mopt hi λx hx=>he x (by simp[Op.operands,hx]),<- mopt mx λx hx=>he x (by simp[Op.operands,hx])];exact h
 case fieldAddr T x f=>rw[<- he x (by simp[Op.operands])];exact h
 case field T x f=>rw[<- he x (by simp[Op.operands])];exact h
 case indexAddr T x i=>rw[<- he x (by simp[Op.operands]),<- he i (by simp[Op.operands])];exact h
 case index T x i=>rw[<- he x (by simp[Op.operands]),<- he i (by simp[Op.operands])];exact h
 case extract x i=>rw[<- he x (by simp[Op.operands])];exact h
 case call c=>
  obtain⟨callee,args,ts⟩:=c;cases callee with
  |value f=>
   simp only at h ⊢
   obtain⟨h1,h2⟩:=hm (by simp only[dV];split<;>simp);rw[<- he f (by simp[Op.operands,Call.operands]),<- marr args λx hx=>he x (by simp[Op.operands,Call.operands,hx])];unfold rM at h ⊢
   rw[<- abC h1 h2];exact h
  |invoke r m=>exact h
  |builtin b=>
   cases b
   case append=>
    simp only at h ⊢
    obtain⟨h1,h2⟩:=hm (by simp only[dV];split<;>simp);have:(args.toList.map λx=>vw s' (ev G s' x))=args.toList.map λx=>vw s (ev G s x):=bS λx hx=>by rw[Hf h1 h2,he x (by simp only[Op.operands,Call.operands];simpa using hx)]
    rw[this];split at h
    .rename_i hg
     rw[if_pos hg];split at h
     .rename_i QZ
      rw[if_pos QZ];unfold vG at h ⊢
      split at h
      .rename_i t y d ha
       have ht:s.fr t=s'.fr t:=(by have:=he (.tmp t) (by simp only[Op.operands,Call.operands];rw[eO];exact cu.1 (by rw[ha];simp));simpa[ev] using this);have hy:ev G s y=ev G s' y:=he y (by simp only[Op.operands,Call.operands];rw[eO];exact cu.1 (by rw[ha];simp));rw[<- ht,<- A1 d rfl,<- hy,<- Hf h1 h2];exact h
      .exact h.elim
     .rename_i QZ
      rw[if_neg QZ];unfold jv at h ⊢
      split at h
      .rename_i t y d ha
       have ht:s.fr t=s'.fr t:=(by have:=he (.tmp t) (by simp only[Op.operands,Call.operands];rw[eO];exact cu.1 (by rw[ha];simp));simpa[ev] using this);have hy:ev G s y=ev G s' y:=he y (by simp only[Op.operands,Call.operands];rw[eO];exact cu.1 (by rw[ha];simp));rw[<- ht,<- A1 d rfl,<- hy,<- Hf h1 h2];exact h
      .exact h.elim
    .rename_i hg
     rw[if_neg hg];exact h
   all_goals
    simp only at h ⊢
    rw[<- marr args λx hx=>he x (by simp[Op.operands,Call.operands,hx])];exact h
theorem RH {s':S} {e:Ef} (A1:∀ d,o.dst=some d->s.fr d=s'.fr d) (he:∀ x∈o.op.operands,ev G s x=ev G s' x) (hm:dV tr o≠0->s.bx=s'.bx/\s.nb=s'.nb) (h:VEf P G tr o s e):VEf P G tr o s' e:=by
 unfold VEf at h ⊢
 split at h
 .exact h
 .rename_i T X cw
  rw[<- he X (by rw[cw];simp[Op.operands])];exact h
 .rename_i T p X cw
  obtain⟨h1,h2⟩:=hm (by simp[dV,cw]);rw[<- he p (by rw[cw];simp[Op.operands]),<- he X (by rw[cw];simp[Op.operands]),<- h1,<- h2];exact h
 .rename_i T len parts cw
  have:(parts.toList.map λ(i,x)=>(i,ev G s' x))=parts.toList.map λ(i,x)=>(i,ev G s x):=bS λp hp=>by obtain⟨i,x⟩:=p;simp only[he x (by rw[cw];simp only[Op.operands,gr,bM];exact⟨(i,x),hp,rfl⟩)]
  split at h
  .rename_i hn
   rw[if_pos hn];obtain⟨h1,h2⟩:=hm (by simp[dV,cw,hn]);rw[this,<- h1,<- h2];exact h
  .rename_i hn
   rw[if_neg hn];obtain⟨v,h1,h2⟩:=h;exact⟨v,h1,rS A1 he hm h2⟩
 .rename_i T l c cw
  obtain⟨h1,h2⟩:=hm (by simp[dV,cw]);rw[<- he l (by rw[cw];simp[Op.operands]),<- he c (by rw[cw];simp[Op.operands]),<- h1,<- h2];exact h
 .rename_i f args ts cw
  split at h
  .rename_i hn
   rw[if_pos hn];obtain⟨h1,h2⟩:=hm (by simp[dV,cw,hn]);have:args.toList.map (ev G s)=args.toList.map (ev G s'):=bS λx hx=>he x (by rw[cw];simp only[Op.operands,Call.operands];simp at hx;simp[hx]);rw[<- he f (by rw[cw];simp[Op.operands,Call.operands]),<- this,<- h1,<- h2];exact h
  .rename_i hn
   rw[if_neg hn];obtain⟨v,h1,h2⟩:=h;refine⟨v,h1,?_⟩;unfold VYQ at h2 ⊢
   split
   .rename_i Q2
    rw[if_pos Q2] at h2;obtain⟨q1,q2⟩:=hm (by simp[dV,cw,hn]);have:args.toList.map (ev G s)=args.toList.map (ev G s'):=bS λx hx=>he x (by rw[cw];simp only[Op.operands,Call.operands];simp at hx;simp[hx]);rw[<- he f (by rw[cw];simp[Op.operands,Call.operands]),<- this];exact Ab (Nat.le_of_eq q2) (λi _=>by rw[q1]) h2
   .rename_i Q2
    rw[if_neg Q2] at h2;exact rS A1 he hm h2
 .rename_i T X cw
  obtain⟨v,h1,l0,h2⟩:=h;exact⟨v,h1,by rw[<- he X (by rw[cw];simp[Op.operands])];exact l0,rS A1 he hm h2⟩
 .rename_i T m k X cw
  obtain⟨h1,h2⟩:=hm (by simp[dV,cw]);rw[<- he m (by rw[cw];simp[Op.operands]),<- he k (by rw[cw];simp[Op.operands]),<- he X (by rw[cw];simp[Op.operands]),<- h1,<- h2];exact h
 .rename_i T m k cw
  obtain⟨h1,h2⟩:=hm (by simp[dV,cw]);rw[<- he m (by rw[cw];simp[Op.operands]),<- he k (by rw[cw];simp[Op.operands]),<- h1,<- h2];exact h
 .rename_i T m k X cw
  obtain⟨h1,h2⟩:=hm (by simp[dV,cw]);rw[<- he m (by rw[cw];simp[Op.operands]),<- he k (by rw[cw];simp[Op.operands]),<- he X (by rw[cw];simp[Op.operands]),<- h1,<- h2];exact h
 .rename_i args ts cw
  obtain⟨h1,h2⟩:=hm (by simp[dV,cw]);have:args.toList.map (ev G s)=args.toList.map (ev G s'):=bS λx hx=>he x (by rw[cw];simp only[Op.operands,Call.operands];simpa using hx);rw[<- this,<- h1,<- h2];exact h
 .rename_i args ts cw
  split at h
  .exact h.elim
  rename_i hn;rw[if_neg hn];split at h
  .rename_i hr
   rw[if_pos hr];obtain⟨h1,h2⟩:=hm (by simp[dV,cw,hr]);have:args.toList.map (ev G s)=args.toList.map (ev G s'):=bS λx hx=>he x (by rw[cw];simp only[Op.operands,Call.operands];simpa using hx);rw[<- this,<- h1,<- h2];exact h
  .rename_i hr
   rw[if_neg hr];obtain⟨v,h1,h2⟩:=h;exact⟨v,h1,rS A1 he hm h2⟩
 .rename_i args ts cw
  obtain⟨h1,h2⟩:=hm (by simp[dV,cw]);have:args.toList.map (ev G s)=args.toList.map (ev G s'):=bS λx hx=>he x (by rw[cw];simp only[Op.operands,Call.operands];simpa using hx);rw[<- this,<- h1,<- h2];exact h
 .obtain⟨v,h1,h2⟩:=h
  exact⟨v,h1,rS A1 he hm h2⟩
def y6 (ops:Array Oper) (o:Oper) (s:S):Option Bool:=
 match o.guard with
 |none=>some true
 |some (j,want)=>match(ops[j]?).bind (·.dst) with
  |some d=>match s.fr d with
   | .c (.lit (.bool p))=>some (p==want)
   | .sk=>some false
   |_=>none
  |none=>none
def TEf (P:Program) (G:Gl) (tr:List Nat) (ops:Array Oper) (o:Oper) (s:S) (e:Ef):Prop:=
 (y6 ops o s=some true/\VEf P G tr o s e/\e≠.skip)∨(y6 ops o s=some false/\e=.skip)
theorem kF {K:S->Prop} (EG:pw tr o=false) (h:nR ops o s (λs=>VStep P G tr o s K) (λs=>K (s.put o.dst .sk))):∃ e,TEf P G tr ops o s e/\K (e.run tr o s):=by
 unfold nR at h;have yes:y6 ops o s=some true->VStep P G tr o s K->∃ e,TEf P G tr ops o s e/\K (e.run tr o s):=λhg hv=>by obtain⟨e,h1,h2,h3⟩:=hv.ef EG;exact⟨e,.inl ⟨hg,h2,h1⟩,h3⟩
 have no:y6 ops o s=some false->K (s.put o.dst .sk)->∃ e,TEf P G tr ops o s e/\K (e.run tr o s):=λhg hv=>⟨.skip,.inr ⟨hg,rfl⟩,by rw[BV];exact hv⟩;split at h
 .rename_i hg
  exact yes (by unfold y6;rw[hg]) h
 .rename_i j want hg
  split at h
  .rename_i d hd
   split at h
   .rename_i p hp
    by_cases hpw:p=want
    .subst hpw
     have:=h.1 rfl;rw[S.up_id hp] at this;exact yes (by unfold y6;simp only[hg,hd,hp,beq_self_eq_true]) this
    .have hpn:p=!want:=by cases p<;>cases want<;>simp_all
     have:=h.2 hpn;rw[<- hpn,S.up_id hp] at this;exact no (by unfold y6;simp only[hg,hd,hp];simpa using hpw) this
   .rename_i hp
    exact no (by unfold y6;simp only[hg,hd,hp]) h
   .exact h.elim
  .exact h.elim
theorem qM (hst:St G n I0 M w0 I β ob s a w) {p:Bool} (h:y6 ops o s=some p):Region.wanted o (yielded ops a.tmps)=p:=by
 unfold y6 at h;unfold Region.wanted;split at h
 .rename_i hg;rw[hg];simpa using h
 .rename_i j want hg
  rw[hg];split at h
  .rename_i d hd
   split at h
   .rename_i q hq
    simp only[xP hst hd hq];simp only[ao] at h;rw[<- h];cases q<;>cases want<;>rfl
   .rename_i hq
    simp only[BO hst hd hq];simp only[ao] at h;rw[<- h];rfl
   .cases h
  .cases h
def wH (P:Program) (G:Gl) (tr:List Nat) (ops:Array Oper) (i:Nat) (K:S->Prop) (s:S):Prop:=
 match ops[i]? with
 |none=>K s
 |some o=>∃ e,TEf P G tr ops o s e/\K (e.run tr o s)
def Hg (P:Program) (G:Gl) (tr:List Nat) (md:Region.Mode) (ops:Array Oper) (K:S->Prop):Nat->Array Bool->S->Prop
 |0,listed,s=>Region.ready md ops listed=[]/\K s
 |fuel+1,listed,s=>
  (Region.ready md ops listed=[]->K s)/\
  ∀ i∈Region.ready md ops listed,wH P G tr ops i (Hg P G tr md ops K fuel (listed.setIfInBounds i true)) s
theorem pX (eG:mQ n ops=true) {K:S->Prop} (hK:∀ a w s,K s->SE G n I0 M w0 s a w->Q .normal a w):∀ (fuel:Nat) (listed:Array Bool) (s:S) (a:Act) (w:World),
 Hg P G tr md ops K fuel listed s->SE G n I0 M w0 s a w->wpAny P md ops Q fuel listed a w
 |0,_,_,_,_,h,dH=>⟨h.1,hK _ _ _ h.2 dH⟩
 |fuel+1,_,s,a,w,h,dH=>by
  refine⟨λh0=>hK _ _ _ (h.1 h0) dH,λi hi=>?_⟩;have hh:=h.2 i hi;unfold wH at hh;unfold wpOp;split
  .rename_i ho;simp only[ho] at hh;exact pX eG hK fuel _ s a w hh dH
  .rename_i o ho
   simp only[ho] at hh;obtain⟨e,he,hh⟩:=hh;have jF:o∈ops.toList:=(by have:=fA ho;simpa using this);obtain⟨I,β,ob,hst⟩:=dH;rcases he with⟨hg,hv,_⟩ | ⟨hg,rfl⟩
   .rw[if_pos (qM hst hg)]
    exact .inl (E0 hst (eY eG jF) hv λa' w' tU=>pX eG hK fuel _ _ a' w' hh tU)
   .rw[qM hst hg]
    simp only[aM,dp];rw[BV] at hh;exact pX eG hK fuel _ _ _ w hh (SE.put hst (eY eG jF) (by simp only[LR];exact .sk))
def wr (tr:List Nat) (o:Oper):List Tmp:=o.dst.toList++(cj tr o).toList
def nk (tr:List Nat) (x y:Oper):Bool:=match x.op,x.dst,y.op with
 | .load _ _,some d,.store _ (.tmp t) _=>tr.contains (200000+d)&&tr.contains (200000+t)&&(List.range 100).all λb=>!(tr.contains (300000+d*100+b)&&tr.contains (300000+t*100+b))
 | .load _ _,some d,.call { callee:=.value _,.. }=>tr.contains (200000+d)&&(xz tr y.dst&&Ea tr y.dst)&&(List.range 100).all λb=>!(tr.contains (300000+d*100+b)&&tr.contains (500000+y.dst.getD 0*100+b))
 |_,_,_=>false
def pD (x y:Oper):Bool:=match x.op,y.op with
 | .lookup T (.tmp m) (.tmp k) false,.mapEntry U (.tmp m') (.tmp k')=>T==U&&m==m'&&k==k'
 |_,_=>false
def xT (tr:List Nat) (x y:Oper):Bool:=dV tr x==1&&match y.op with
 | .alloc _=>true
 | .box _ _=>true
 | .buildSlice _ _ _=>oq tr y.dst
 |_=>false
def Hh (tr:List Nat) (ops:Array Oper) (x y:Oper):Bool:=
 ((wr tr x).all λd=>!(y.looksAt ops).contains d&&!(wr tr y).contains d)&&((wr tr y).all λd=>!(x.looksAt ops).contains d)&&
 ((dV tr x !=2||dV tr y==0||(nk tr y x||pD y x))&&(dV tr y !=2||dV tr x==0||(nk tr x y||(pD x y||xT tr x y))))
structure Jv (tr:List Nat) (ops:Array Oper) (x y:Oper):Prop where
 xy:∀ d∈wr tr x,d∉y.looksAt ops
 ww:∀ d∈wr tr x,d∉wr tr y
 yx:∀ d∈wr tr y,d∉x.looksAt ops
 mx:dV tr x=2->dV tr y=0∨nk tr y x=true∨pD y x=true
 my:dV tr y=2->dV tr x=0∨nk tr x y=true∨pD x y=true∨xT tr x y=true
theorem Jw {x y:Oper} (h:Hh tr ops x y=true):Jv tr ops x y:=by
 simp only[Hh,aZ,a8,ew,iQ,dI,fm,bne_iff_ne,kS] at h;obtain⟨⟨h1,h2⟩,h3,h4⟩:=h;exact⟨λd hd=>(h1 d hd).1,λd hd=>(h1 d hd).2,h2,λh=>by rcases h3 with(h3 | h3) | h3;exact absurd h h3;exact .inl h3;exact .inr h3,
  λh=>by rcases h4 with(h4 | h4) | h4;exact absurd h h4;exact .inl h4;exact .inr h4⟩
def tG (tr:List Nat) (o:Oper) (u:Bool) (x:V) (fr:Nat->V):Nat->V:=Js o.dst x (G9 u (cj tr o) fr)
theorem BX (u:Bool) (c:Option Tmp) (fr:Nat->V) (t:Nat):G9 u c fr t=if c=some t/\u=true/\(fr t).isOw=true then .un else fr t:=by
 unfold G9;cases c with
 |none=>simp
 |some q=>
  simp only;by_cases hq:q=t
  .subst hq
   by_cases h:u=true/\(fr q).isOw=true
   .rw[if_pos (by simp[h.1,h.2]),b9,if_pos ⟨rfl,h⟩]
   .rw[if_neg (by simpa using h),if_neg (λe=>h e.2)]
  .have:¬ (some q=some t/\u=true/\(fr t).isOw=true):=λe=>hq (by simpa using e.1)
   rw[if_neg this];split
   .rw[cP _ _ (hJ hq)]
   .rfl
theorem oG (u:Bool) (x:V) (fr:Nat->V) (t:Nat):tG tr o u x fr t=if o.dst=some t then x else if cj tr o=some t/\u=true/\(fr t).isOw=true then .un else fr t:=by
 unfold tG Js;cases o.dst with
 |none=>simpa using BX u (cj tr o) fr t
 |some d=>
  simp only;by_cases hd:d=t
  .subst hd;simp
  .rw[cP _ _ (hJ hd),if_neg (by simpa using hd)]
   exact BX u (cj tr o) fr t
theorem kB {u:Bool} {x:V} {fr:Nat->V} {t:Nat} (h:t∉wr tr o):tG tr o u x fr t=fr t:=by simp only[wr,ba,Option.mem_toList,not_or] at h;rw[oG,if_neg h.1,if_neg (λe=>h.2 e.1)]
theorem BY {x y:Oper} (h:∀ d∈wr tr x,d∉wr tr y) (u u':Bool) (vx vy:V) (fr:Nat->V) :
 tG tr y u' vy (tG tr x u vx fr)=tG tr x u vx (tG tr y u' vy fr):=by
 funext t;by_cases hx:t∈wr tr x
 .rw[kB (h t hx),oG,oG,kB (h t hx)]
 .have e1:tG tr x u vx fr t=fr t:=kB hx
  have e2:tG tr x u vx (tG tr y u' vy fr) t=tG tr y u' vy fr t:=kB hx;rw[e2,oG (o:=y),e1,oG (o:=y)]
theorem BZ (e:Ef):e.run tr o s=⟨tG tr o e.uses (e.val s.nb) s.fr,e.bx s.nb s.bx,e.nb s.nb⟩:=rfl
theorem abD {e:Ef} (h:VEf P G tr o s e) (hm:dV tr o≠2):∃ v,e=.v v:=by
 unfold VEf at h;split at h
 .rename_i cw;simp[dV,cw] at hm
 .rename_i cw;simp[dV,cw] at hm
 .rename_i cw;simp[dV,cw] at hm
 .rename_i cw
  split at h
  .rename_i hn;simp[dV,cw,hn] at hm
  .obtain⟨v,rfl,_⟩:=h;exact⟨v,rfl⟩
 .rename_i cw;simp[dV,cw] at hm
 .rename_i cw
  split at h
  .rename_i hn;simp[dV,cw,hn] at hm
  .obtain⟨v,rfl,_⟩:=h;exact⟨v,rfl⟩
 .obtain⟨v,rfl,_⟩:=h;exact⟨v,rfl⟩
 .rename_i cw;simp[dV,cw] at hm
 .rename_i cw;simp[dV,cw] at hm
 .rename_i cw;simp[dV,cw] at hm
 .rename_i cw;simp[dV,cw] at hm
 .rename_i cw
  split at h
  .exact h.elim
  split at h
  .rename_i hr;simp[dV,cw,hr] at hm
  .obtain⟨v,rfl,_⟩:=h;exact⟨v,rfl⟩
 .rename_i cw;simp[dV,cw] at hm
 .obtain⟨v,rfl,_⟩:=h;exact⟨v,rfl⟩
theorem A8 {e:Ef} (h:TEf P G tr ops o s e) (hm:dV tr o≠2):(∃ v,e=.v v)∨e=.skip:=by
 rcases h with⟨_,h,_⟩ | ⟨_,h⟩
 .exact .inl (abD h hm)
 .exact .inr h
theorem pL {e:Ef} (h:(∃ v,e=.v v)∨e=.skip) (bx:Nat->List V) (nb nb':Nat):e.bx nb bx=bx/\e.nb nb=nb/\e.val nb=e.val nb':=by
 rcases h with⟨v,rfl⟩ | rfl<;>exact⟨rfl,rfl,rfl⟩
theorem j5 {s':S} (h:∀ t∈o.looksAt ops,s.fr t=s'.fr t):y6 ops o s=y6 ops o s':=by
 unfold y6;split
 .rfl
 .rename_i j want hg
  split
  .rename_i d hd
   have:d∈o.looksAt ops:=(by unfold Oper.looksAt;rw[hg];simp only[ba,Option.mem_toList];exact .inr hd);rw[h d this]
  .rfl
theorem j6 {x:Operand} {t:Tmp} (hx:x∈o.op.operands) (ht:x=.tmp t):t∈o.looksAt ops:=by unfold Oper.looksAt;simp only[ba,List.mem_filterMap];exact .inl ⟨x,by simpa using hx,by rw[ht]⟩
theorem vb {s':S} {e:Ef} (A1:∀ d,o.dst=some d->s.fr d=s'.fr d) (hl:∀ t∈o.looksAt ops,s.fr t=s'.fr t) (hm:dV tr o≠0->s.bx=s'.bx/\s.nb=s'.nb) (h:TEf P G tr ops o s e):TEf P G tr ops o s' e:=by
 rcases h with⟨h1,h2,h3⟩ | ⟨h1,h2⟩
 .exact .inl ⟨by rw[<- j5 hl];exact h1,RH A1 (λx hx=>BW λt ht=>hl t (j6 hx ht)) hm h2,h3⟩
 .exact .inr ⟨by rw[<- j5 hl];exact h1,h2⟩
theorem sH {x y:Oper} (h:nk tr x y=true):∃ T X d,x.op=.load T X/\x.dst=some d/\tr.contains (200000+d)=true/\
 ((∃ U t Y,y.op=.store U (.tmp t) Y/\tr.contains (200000+t)=true/\∀ b,b<100->tr.contains (300000+d*100+b)=true->tr.contains (300000+t*100+b)=true->False)∨
  (∃ c f,y.op=.call c/\c.callee=.value f/\xz tr y.dst=true/\Ea tr y.dst=true/\∀ b,b<100->tr.contains (300000+d*100+b)=true->tr.contains (500000+y.dst.getD 0*100+b)=true->False)):=by
 unfold nk at h;split at h
 .rename_i T X d U t Y h1 h2 h3
  simp only[aZ,a8] at h;refine⟨T,X,d,h1,h2,h.1.1,.inl ⟨U,t,Y,h3,h.1.2,λb hb q1 q2=>?_⟩⟩;have:=h.2 b (dc.2 hb);rw[q1,q2] at this;cases this
 .rename_i T X d f args ts h1 h2 h3
  simp only[aZ,a8] at h;refine⟨T,X,d,h1,h2,h.1.1,.inr ⟨_,f,h3,rfl,h.1.2.1,h.1.2.2,λb hb q1 q2=>?_⟩⟩;have:=h.2 b (dc.2 hb);rw[q1,q2] at this;cases this
 .cases h
theorem Jx {x y:Oper} (h:nk tr x y=true):dV tr x=1:=by obtain⟨T,X,d,h1,_⟩:=sH h;simp[dV,h1]
theorem VU {T:TypeId} {s':S} {b k:Nat} {K:V->Prop} (hb:s'.bx b=s.bx b) (hn:s'.nb=s.nb) (h:cO P T s (.bp b k) K):cO P T s' (.bp b k) K:=by
 unfold cO at *;cases hT:ti P T with
 |none=>rw[hT] at h;exact h.elim
 |some i=>
  rw[hT] at h;simp only at h ⊢
  rw[hb,hn];exact h
theorem Ac {T:TypeId} {s':S} {K:V->Prop} (hx:∀ b k,x≠.bp b k) (hex:∀ v,x≠.c (.ex v)) (h:cO P T s x K):cO P T s' x K:=by
 unfold cO at *;cases hT:ti P T with
 |none=>rw[hT] at h;exact h.elim
 |some i=>
  rw[hT] at h;cases x with
  |c c=>
   cases c with
   |ex v=>exact absurd rfl (hex v)
   |_=>exact h
  |bp b k=>exact absurd rfl (hx b k)
  |_=>exact h.elim
theorem Jy {x y:Oper} {f:Ef} (dU:nk tr x y=true) (hy:TEf P G tr ops y s f):f.nb s.nb=s.nb/\∀ d b,x.dst=some d->b<100->tr.contains (300000+d*100+b)=true->f.bx s.nb s.bx b=s.bx b:=by
 obtain⟨T,X,d,EH,U1,hd,MD⟩:=sH dU;rcases hy with⟨_,hv,_⟩ | ⟨_,rfl⟩
 .unfold VEf at hv
  rcases MD with⟨U,t,Y,Gp,ht,gw⟩ | ⟨c,g,Gp,hy2,hm,hl,gw⟩
  .rw[Gp] at hv
   simp only at hv;obtain⟨l0,hv⟩:=hv;split at hv
   .rename_i i b k cs h1 h2 h3
    obtain⟨_,rfl⟩:=hv;rw[h2] at l0;simp only[MV,pe,Vu,ht,lh,Bool.false_or,aZ,bI] at l0;refine⟨rfl,λd' b' qI yP EC=>?_⟩;rw[U1] at qI;cases qI;have gZ:b'≠b:=(by rintro rfl;exact gw b' yP EC l0.2);simp only[Ef.bx,cP _ _ gZ]
   .rename_i i blk j h1 h2
    rw[h2] at l0;simp only[MV,pe,ht,lh] at l0;cases l0
   .exact hv.elim
  .obtain⟨callee,args,ts⟩:=c
   simp only at hy2;subst hy2;rw[Gp] at hv;simp only[hm,cZ] at hv;obtain⟨bx,nb,x',rfl,_,h2⟩:=hv;obtain⟨h3,h4⟩:=h2 hl;refine⟨h3,λd' b' qI yP EC=>?_⟩;rw[U1] at qI;cases qI;rcases h4 b' with h | ⟨_,h⟩
   .exact h
   .exact(gw b' yP EC h).elim
 .exact⟨rfl,λ_ _ _ _ _=>rfl⟩
theorem VV {x y:Oper} {e:Ef} {s':S} (dU:nk tr x y=true) (hl:∀ t∈x.looksAt ops,s.fr t=s'.fr t)
 (oS:∀ d b,x.dst=some d->b<100->tr.contains (300000+d*100+b)=true->s'.bx b=s.bx b) (A0:s'.nb=s.nb) (h:TEf P G tr ops x s e):TEf P G tr ops x s' e:=by
 obtain⟨T,X,d,EH,U1,hd,_⟩:=sH dU;rcases h with⟨h1,h2,h3⟩ | ⟨h1,h2⟩
 .refine .inl ⟨by rw[<- j5 hl];exact h1,?_,h3⟩
  have tM:ev G s X=ev G s' X:=BW λq hq=>hl q (j6 (by rw[EH];simp[Op.operands]) hq);unfold VEf at h2 ⊢
  rw[EH] at h2 ⊢
  simp only at h2 ⊢
  obtain⟨v,he,l0,hv⟩:=h2;refine⟨v,he,by rw[<- tM];exact l0,?_⟩;obtain⟨dst,op,type,pos,after,guard⟩:=x;simp only at EH U1 l0 tM oS;subst EH;subst U1;simp only[VYK] at hv ⊢
  rw[<- tM];rcases MD:ev G s X with _ | _ | c | _ | _ | _ | ⟨b,k⟩ | _ | _ | _
  case bp=>rw[MD] at l0 hv;simp only[pe,Vu,hd,lh,Bool.false_or,aZ,bI] at l0;exact VU (oS d b rfl l0.1 l0.2) A0 hv
  case c=>rw[MD] at l0 hv;refine Ac (λ_ _ e=>by cases e) (λv e=>?_) hv;cases e;simp only[pe,hd,lh] at l0;cases l0
  all_goals
   rw[MD] at hv;exact Ac (λ_ _ e=>by cases e) (λ_ e=>by cases e) hv
 .exact .inr ⟨by rw[<- j5 hl];exact h1,h2⟩
theorem sJ {x y:Oper} (h:pD x y=true):∃ T m k,x.op=.lookup T (.tmp m) (.tmp k) false/\y.op=.mapEntry T (.tmp m) (.tmp k):=by
 unfold pD at h;split at h
 .rename_i T m k U m' k' h1 h2
  simp only[aZ,kS] at h;obtain⟨⟨rfl,rfl⟩,rfl⟩:=h;exact⟨T,m,k,h1,h2⟩
 .cases h
theorem Jz {x y:Oper} (h:pD x y=true):dV tr x=1/\dV tr y=2:=by obtain⟨T,m,k,h1,h2⟩:=sJ h;simp[dV,h1,h2]
theorem B0 {ag:Bool}:∀ {r:List V} {l:List (List C)},j4 ag r=some l->r.length=2*l.length
 |[],l,h=>by simp only[j4,ao] at h;subst h;rfl
 |[_],l,h=>by simp[j4] at h
 |k::v::r,l,h=>by
  unfold j4 at h;split at h
  .rename_i q l' h1 h2
   simp only[ao] at h;subst h;have:=B0 h2;simp[this];omega
  .cases h
theorem Ad {ag:Bool} {k v:V} {q:List C} (hk:k.kcs ag=some q):∀ {r:List V} {l:List (List C)},j4 ag r=some l->j4 ag (r++[k,v])=some (l++[q])
 |[],l,h=>by simp only[j4,ao] at h;subst h;simp[j4,hk]
 |[_],l,h=>by simp[j4] at h
 |k'::v'::r,l,h=>by
  unfold j4 at h;split at h
  .rename_i q' l' h1 h2
   simp only[ao] at h;subst h;have:=Ad (v:=v) hk h2;simp only[dG,j4,h1,this]
  .cases h
theorem B2 {ks:List EK} {k:List C} (hl:k.length=ks.length) (hr:iG ks k k=some true):∀ {l:List (List C)} {i:Nat},nK ks k l i=some none->nK ks k (l++[k]) i=some (some (i+l.length))
 |[],i,_=>by simp[nK,hl,hr]
 |k'::l,i,h=>by
  unfold nK at h;split at h
  .rename_i h1
   split at h
   .cases h
   .rename_i h2
    simp only[dG,nK,h1,cZ,h2];rw[B2 hl hr h];simp;omega
   .cases h
  .cases h
theorem B5 {T:TypeId} {k:V} {K:S->V->Prop} (h:fY P T s x k K):∃ w,fH P T s x k false (λu=>w=u):=by
 unfold fY at h;obtain⟨i,bs,cl,r,res,z,h1,h2⟩:=jo h;cases res with
 |none=>exact⟨_,gy h1 rfl⟩
 |some j=>exact⟨_,gy h1 rfl⟩
theorem Ae {T:TypeId} {bx':Nat->List V} {k v u:V} {s':S} (h:fY P T s x k (λs' u'=>bx'=s'.bx/\u=u')) (hv:fH P T s x k false (λw=>v=w)) (h1:s'.bx=bx') (h2:s'.nb=s.nb) :
 fH P T s' x k false (λw=>v=w):=by
 subst h1;unfold fY at h;obtain⟨i,kt,et,tT,tk,te,ks,kc,z,bs,cl,r,kcs,res,q1,q2,rfl,q3,q4,q5,q6,q7,q8,q9,q10,⟨q11,q12,q13,q14⟩,hK⟩:=wC h;have hv':fH P T s (.mr i) k false (λw=>(match res with | some j=>(r.getD (2*j+1) .un).fz | none=>z)=w):=by unfold fH;refine pK q1 q2 q3 q4 q5 q6 q7 q8 q9 q10 q11 q12 q13 q14 ?_;cases res<;>rfl
 have IB:=zZ hv hv';unfold fH;cases res with
 |some j=>obtain⟨hb,_⟩:=hK;refine pK q1 q2 q3 q4 q5 q6 q7 (by rw[hb];exact q8) q9 q10 (by rw[h2];exact q11) q12 q13 q14 ?_;exact IB
 |none=>
  obtain⟨hb,_⟩:=hK;have hkf:k.fz.kcs tk.agg=some kc:=by cases k<;>simp_all[V.fz,V.kcs]
  have hz:z.fz=z:=by
   unfold oZ at q7;split at q7<;>first | (simp only[ao] at q7;subst q7;rfl) | cases q7
  have cm:=B0 q9;refine pK (bs:=bs++[cl]) (cl:=cl+1) (r:=r++[k.fz,z]) q1 q2 q3 q4 q5 q6 q7 (by rw[hb];simp only[b9]) (Ad hkf q9) (B2 q12 q13 q10) (by rw[h2];exact q11) q12 q13 q14 ?_;simp only;rw[show v=z from IB];have:(r++[k.fz,z]).getD (2*(0+kcs.length)+1) .un=z:=by rw[aJ,<- cm];simp
  rw[this,hz];rfl
theorem y7 {s':S} (hn:s.nb<=s'.nb) (hb:∀ i,i<s.nb->s'.bx i=s.bx i) {i:Nat} {cs:List C} (h:AD s i=some cs):AD s' i=some cs:=by
 unfold AD at *;split at h
 .rename_i hi;rw[if_pos (by omega),hb i hi];exact h
 .cases h
theorem wI {s':S} (hn:s.nb<=s'.nb) (hb:∀ i,i<s.nb->s'.bx i=s.bx i) {i off len sz:Nat} {c:C} (h:nJ s i off len sz=some c):nJ s' i off len sz=some c:=by
 unfold nJ at *;split at h
 .rename_i cs hc;simp only[y7 hn hb hc];exact h
 .cases h
theorem y8 {s':S} (hn:s.nb<=s'.nb) (hb:∀ i,i<s.nb->s'.bx i=s.bx i) {x:V} {c:C} (h:wo s x=some c):wo s' x=some c:=by
 unfold wo at *;split at h
 .exact h
 .exact h
 .obtain⟨cs,hc,rfl⟩:=aW.1 h;rw[y7 hn hb hc];rfl
 .exact wI hn hb h
 .cases h
theorem mS {α β:Type} {f g:α->Option β} (h:∀ x y,f x=some y->g x=some y):∀ {l:List α} {r:List β},l.mapM f=some r->l.mapM g=some r
 |[],r,hr=>by simpa using hr
 |x::l,r,hr=>by
  rw[fk] at hr ⊢
  cases hx:f x with
  |none=>rw[hx] at hr;cases hr
  |some y=>
   rw[hx] at hr;rw[h x y hx];cases hl:l.mapM f with
   |none=>rw[hl] at hr;cases hr
   |some r'=>rw[hl] at hr;rw[mS h hl];exact hr
theorem xU {s':S} (hn:s.nb<=s'.nb) (hb:∀ i,i<s.nb->s'.bx i=s.bx i) {x y:V} (h:imm s x=some y):imm s' x=some y:=by
 unfold imm at *;split at h
 .exact h
 .exact h
 .exact h
 .obtain⟨cs,hc,rfl⟩:=aW.1 h;rw[y7 hn hb hc];rfl
 .split at h
  .rename_i e1 e2
   simp only[mS (λ_ _=>y8 hn hb) e1,mS (λ_ _=>y8 hn hb) e2];exact h
  .cases h
 .obtain⟨c,hc,rfl⟩:=aW.1 h;rw[wI hn hb hc];rfl
 .obtain⟨c,hc,rfl⟩:=aW.1 h;rw[mS (λ_ _=>y8 hn hb) hc];rfl
 .cases h
theorem vd {s':S} (hn:s.nb<=s'.nb) (hb:∀ i,i<s.nb->s'.bx i=s.bx i) (x:V):vw s x=vw s' x∨vw s x=.un:=by
 cases x<;>try exact .inl rfl
 case ms i off len cap sz=>
  simp only[vw];cases hv:nJ s i off len sz with
  |none=>exact .inr rfl
  |some c=>rw[wI hn hb hv];exact .inl rfl
theorem RI {s':S} {ts:List TypeId} {z y:V} {K:V->Prop} (hn:s.nb<=s'.nb) (hb:∀ i,i<s.nb->s'.bx i=s.bx i) (h:eX P .append ts [z,vw s y] K):eX P .append ts [z,vw s' y] K:=by
 rcases vd hn hb y with e2 | e2
 .rw[<- e2];exact h
 .rw[e2] at h
  unfold eX at h;split at h<;>first | cases ‹Builtin.append=_› | skip
  .rename_i t t' x y' hxy
   obtain⟨rfl,rfl⟩:z=x/\V.un=y':=by simp only[cM,gC] at hxy;exact hxy
   split at h
   .exfalso
    unfold dS at h;split at h
    .split at h
     .exact h.2.elim
     .exact h.elim
    .exact h.elim
   .exfalso;unfold qK at h;simp[V.fz] at h
  .exact h.elim
theorem Nq {s':S} {ts:List TypeId} {E:Option (TypeId×Nat)} {es:List (List C)} {y:V} {K:V->Prop} (hn:s.nb<=s'.nb) (hb:∀ i,i<s.nb->s'.bx i=s.bx i) (h:tY P ts E es (vw s y).fz K):tY P ts E es (vw s' y).fz K:=by
 rcases vd hn hb y with e2 | e2
 .rw[<- e2];exact h
 .exfalso
  rw[e2] at h;unfold tY at h;split at h
  .obtain⟨_,h⟩:=h
   split at h
   .split at h
    .obtain⟨_,h⟩:=h
     split at h
     .rename_i e;cases e
     .exact h.elim
    .exact h.elim
   .exact h.elim
  .exact h.elim
theorem B6 {s':S} {ts:List TypeId} {E:Option (TypeId×Nat)} {es:List (List C)} {y:V} {K:V->Prop} (hn:s.nb<=s'.nb) (hb:∀ i,i<s.nb->s'.bx i=s.bx i) (h:nL P ts E es (vw s y).fz K):nL P ts E es (vw s' y).fz K:=by
 rcases vd hn hb y with e2 | e2
 .rw[<- e2];exact h
 .exfalso
  rw[e2] at h;unfold nL at h;split at h
  .obtain⟨_,h⟩:=h
   split at h
   .split at h
    .obtain⟨_,h⟩:=h
     split at h
     .rename_i e;cases e
     .exact h.elim
    .exact h.elim
   .exact h.elim
  .exact h.elim
theorem xW {s':S} {K:V->Prop} (A1:∀ d,o.dst=some d->s.fr d=s'.fr d) (he:∀ x∈o.op.operands,ev G s x=ev G s' x) (hn:s.nb<=s'.nb) (hb:∀ i,i<s.nb->s'.bx i=s.bx i) (hm:dV tr o=1) (h:VYK P G tr o s K):VYK P G tr o s' K:=by
 have marr:∀ l:Array Operand,(∀ x∈l,ev G s x=ev G s' x)->l.toList.map (ev G s)=l.toList.map (ev G s'):=λl hl=>bS λx hx=>hl x (by simpa using hx);have Po:=hm;obtain⟨dst,op,type,pos,after,guard⟩:=o;cases op<;>simp only[dV] at hm<;>try cases hm
 case buildSlice=>split at hm<;>cases hm
 case load T x=>
  simp only[VYK] at h ⊢
  rw[<- he x (by simp[Op.operands])];unfold cO at h ⊢
  split at h
  .exact h
  .rename_i i b k _
   obtain⟨⟨h1,h2⟩,h3⟩:=h;rw[hb _ h1];exact⟨⟨by omega,h2⟩,h3⟩
  .rcases h with⟨h1,b,k,len,cap,E,es,c,⟨q1,q2,q3,q4⟩,h⟩ | ⟨b,k,len,cap,E,es,⟨q1,q2,q3⟩,h⟩
   .exact .inl ⟨h1,b,k,len,cap,E,es,c,⟨by omega,by rw[hb _ q1];exact q2,by rw[hb _ q1];exact q3,q4⟩,h⟩
   .exact .inr ⟨b,k,len,cap,E,es,⟨by omega,by rw[hb _ q1];exact q2,by rw[hb _ q1];exact q3⟩,h⟩
  .exact h.elim
 case convert src dst' x=>
  simp only[VYK] at h ⊢
  rw[<- he x (by simp[Op.operands])];rcases vd hn hb (ev G s x) with e | e
  .rw[<- e];exact h
  .rw[e] at h;simp[V.fz,jQ] at h
 case lookup T x k ok=>
  simp only[VYK] at h ⊢
  rw[<- he x (by simp[Op.operands]),<- he k (by simp[Op.operands])];unfold fH at h ⊢
  obtain⟨i,kt,et,tT,tk,te,ks,kc,z,bs,cl,r,kcs,res,q1,q2,q3,q4,q5,q6,q7,q8,q9,q10,q11,⟨q12,q13,q14,q15⟩,hK⟩:=wC h;rw[q3];exact pK q1 q2 q4 q5 q6 q7 q8 (by rw[hb i q12];exact q9) q10 q11 (by omega) q13 q14 q15 hK
 case range T x=>
  simp only[VYK] at h ⊢
  rw[<- he x (by simp[Op.operands])];unfold o0 at h ⊢
  split at h
  .rename_i i _
   split at h
   .rename_i e1
    obtain⟨h1,h2⟩:=h;rw[hb _ h1];simp only[e1];exact⟨by omega,h2⟩
   .exact h.elim
  .exact h.elim
 case entry x=>
  simp only[VYK] at h ⊢
  rw[<- he x (by simp[Op.operands])];unfold o5 at h ⊢
  split at h
  .rename_i i since stepped seen _
   split at h
   .rename_i e1 e2
    split at h
    .rename_i e3
     obtain⟨⟨h1,h0⟩,h2⟩:=h;rw[hb _ h1];simp only[e1,e2,e3];exact⟨⟨by omega,h0⟩,h2⟩
    .exact h.elim
   .exact h.elim
  .exact h.elim
 case call c=>
  obtain⟨callee,args,ts⟩:=c;cases callee with
  |value f=>
   simp only[VYK] at h ⊢
   rw[<- he f (by simp[Op.operands,Call.operands]),<- marr args λx hx=>he x (by simp[Op.operands,Call.operands,hx])];unfold rM at h ⊢
   split at h
   .split at h
    .rename_i e1;simp only[mS (λ_ _=>xU hn hb) e1];exact h
    .exact h.elim
   .split at h
    .rename_i e1 e2 e3
     simp only[mS (λ_ _=>xU hn hb) e1,mS (λ_ _=>xU hn hb) e2,mS (λ_ _=>xU hn hb) e3];exact h
    .exact h.elim
   .exact h.elim
  |invoke r m=>exact h.elim
  |builtin b=>
   cases b<;>first | (simp[dV] at Po;done) | skip
   case append=>
    by_cases hgh:Bw tr dst=true
    .simp only[VYK,if_pos hgh] at h ⊢
     by_cases hho:wy tr dst=true
     .rw[if_pos hho] at h ⊢
      unfold vG at h ⊢
      split at h
      .rename_i t y d ha
       have ht:s.fr t=s'.fr t:=(by have:=he (.tmp t) (by simp only[Op.operands,Call.operands];rw[eO];exact cu.1 (by rw[ha];simp));simpa[ev] using this);have hy:ev G s y=ev G s' y:=he y (by simp only[Op.operands,Call.operands];rw[eO];exact cu.1 (by rw[ha];simp));rw[<- ht,<- A1 d rfl,<- hy];split at h
       .exact⟨h.1,Nq hn hb h.2⟩
       .exact h.elim
      .exact h.elim
     .rw[if_neg hho] at h ⊢
      unfold jv at h ⊢
      split at h
      .rename_i t y d ha
       have ht:s.fr t=s'.fr t:=(by have:=he (.tmp t) (by simp only[Op.operands,Call.operands];rw[eO];exact cu.1 (by rw[ha];simp));simpa[ev] using this);have hy:ev G s y=ev G s' y:=he y (by simp only[Op.operands,Call.operands];rw[eO];exact cu.1 (by rw[ha];simp));rw[<- ht,<- A1 d rfl,<- hy];split at h
       .exact⟨h.1,RI hn hb h.2⟩
       .exact⟨h.1,B6 hn hb h.2⟩
       .exact⟨h.1,B6 hn hb h.2⟩
       .exact h.elim
      .exact h.elim
    simp only[VYK,if_neg hgh] at h ⊢
    have hh:(args.toList.map λx=>vw s' (ev G s' x))=args.toList.map λx=>vw s' (ev G s x):=bS λx hx=>by rw[he x (by simp only[Op.operands,Call.operands];simpa using hx)]
    rw[hh];unfold eX at h ⊢
    split at h<;>first | cases ‹Builtin.append=_› | skip
    .rename_i t t' x y qC dQ
     obtain⟨X,Y,hX,rfl,rfl⟩:∃ X Y,args.toList=[X,Y]/\x=vw s (ev G s X)/\y=vw s (ev G s Y):=by
      cases ha:args.toList with
      |nil=>simp[ha] at dQ
      |cons X l=>
       cases l with
       |nil=>simp[ha] at dQ
       |cons Y l=>simp only[ha,bB,cM,eV] at dQ;exact⟨X,Y,by rw[dQ.2.2],dQ.1.symm,dQ.2.1.symm⟩
     rw[hX,qC];simp only[bB,jW];have gw:∀ u K',¬ dS P t .un u K':=λu K' h=>by simp[dS] at h
     have aqx:∀ u K',¬ dS P t u V.un K':=λu K' h=>by
      unfold dS at h;split at h
      .split at h
       .exact h.2.elim
       .exact h.elim
      .exact h.elim
     rcases vd hn hb (ev G s X) with e1 | e1
     .rcases vd hn hb (ev G s Y) with e2 | e2
      .rw[<- e1,<- e2];exact h
      .rw[e2] at h
       split at h
       .exact(aqx _ _ h).elim
       .unfold qK at h;simp[V.fz] at h
     .rw[e1] at h
      split at h
      .exact(gw _ _ h).elim
      .unfold qK at h
       split at h
       .split at h
        .exact(gw _ _ h.2).elim
        .exact h.elim
       .exact h.elim
    .exact h.elim
theorem VW {s':S} {e:Ef} (A1:∀ d,o.dst=some d->s.fr d=s'.fr d) (hm:dV tr o=1) (he:∀ x∈o.op.operands,ev G s x=ev G s' x) (hn:s.nb<=s'.nb) (hb:∀ i,i<s.nb->s'.bx i=s.bx i) (h:VEf P G tr o s e):VEf P G tr o s' e:=by
 unfold VEf at h ⊢
 split at h
 .rename_i cw;simp[dV,cw] at hm
 .rename_i cw;simp[dV,cw] at hm
 .rename_i cw;simp[dV,cw] at hm
 .rename_i cw;simp only[dV,cw] at hm;split at hm<;>cases hm
 .rename_i cw;simp[dV,cw] at hm
 .rename_i f args ts cw
  split at h
  .rename_i hmu;simp[dV,cw,hmu] at hm
  .rename_i hmu
   rw[if_neg hmu];obtain⟨v,h1,h2⟩:=h;refine⟨v,h1,?_⟩;unfold VYQ at h2 ⊢
   split
   .rename_i Q2
    rw[if_pos Q2] at h2;have:args.toList.map (ev G s)=args.toList.map (ev G s'):=bS λx hx=>he x (by rw[cw];simp only[Op.operands,Call.operands];simp at hx;simp[hx]);rw[<- he f (by rw[cw];simp[Op.operands,Call.operands]),<- this];exact Ab hn hb h2
   .rename_i Q2
    rw[if_neg Q2] at h2;exact xW A1 he hn hb hm h2
 .rename_i T X cw
  obtain⟨v,h1,h2,h3⟩:=h;exact⟨v,h1,by rw[<- he X (by rw[cw];simp[Op.operands])];exact h2,xW A1 he hn hb hm h3⟩
 .rename_i cw;simp[dV,cw] at hm
 .rename_i cw;simp[dV,cw] at hm
 .rename_i cw;simp[dV,cw] at hm
 .rename_i cw;simp[dV,cw] at hm
 .rename_i cw
  split at h
  .exact h.elim
  rename_i gZ;rw[if_neg gZ];split at h
  .rename_i hr;simp[dV,cw,hr] at hm
  .rename_i hr
   rw[if_neg hr];obtain⟨v,h1,h2⟩:=h;exact⟨v,h1,xW A1 he hn hb hm h2⟩
 .rename_i cw;simp[dV,cw] at hm
 .obtain⟨v,h1,h2⟩:=h
  exact⟨v,h1,xW A1 he hn hb hm h2⟩
theorem Hi {x y:Oper} (h:xT tr x y=true):dV tr x=1/\∀ (q:S) (f:Ef),VEf P G tr y q f->q.nb<=f.nb q.nb/\∀ i,i<q.nb->f.bx q.nb q.bx i=q.bx i:=by
 unfold xT at h;simp only[aZ,kS] at h;refine⟨h.1,λq f hf=>?_⟩;have h2:=h.2;have al:(∃ cs,f=.al cs)->q.nb<=f.nb q.nb/\∀ i,i<q.nb->f.bx q.nb q.bx i=q.bx i:=by rintro⟨cs,rfl⟩;exact⟨Nat.le_succ _,λi hi=>cP _ _ (by omega)⟩
 split at h2
 .rename_i cw
  unfold VEf at hf;rw[cw] at hf;simp only at hf;split at hf
  .exact al ⟨_,hf⟩
  .exact hf.elim
 .rename_i cw
  unfold VEf at hf;rw[cw] at hf;simp only at hf;split at hf
  .exact al ⟨_,hf⟩
  .exact hf.elim
 .rename_i cw
  unfold VEf at hf;rw[cw] at hf;simp only[h2,cZ] at hf;obtain⟨bx,nb,x,rfl,hv⟩:=hf;unfold cH at hv;split at hv
  .split at hv
   .obtain⟨_,hv⟩:=hv
    split at hv
    .simp only[By] at hv
     split at hv
     .obtain⟨⟨rfl,rfl⟩,_⟩:=hv
      exact⟨Nat.le_succ _,λi hi=>cP _ _ (by omega)⟩
     .exact hv.elim
    .exact hv.elim
   .exact hv.elim
  .exact hv.elim
 .cases h2
theorem TEf.keep {x y:Oper} {e f:Ef} (AY:Jv tr ops x y) (hx:TEf P G tr ops x s e) (hy:TEf P G tr ops y s f):TEf P G tr ops x (f.run tr y s) e:=by
 have hl:∀ t∈x.looksAt ops,s.fr t=(f.run tr y s).fr t:=λt ht=>by rw[BZ];simp only;rw[kB (λhw=>AY.yx t hw ht)]
 have A1:∀ d,x.dst=some d->s.fr d=(f.run tr y s).fr d:=λd hd=>by rw[BZ];simp only;rw[kB (AY.ww d (by simp[wr,hd]))]
 by_cases dU:nk tr x y=true
 .obtain⟨q1,q2⟩:=Jy dU hy
  exact VV dU hl q2 q1 hx
 by_cases hlk:pD x y=true
 .obtain⟨T,m,k,EH,Gp⟩:=sJ hlk
  rcases hy with⟨_,hv,_⟩ | ⟨_,rfl⟩
  .rcases hx with⟨hg,hw,gZ⟩ | ⟨hg,he⟩
   .refine .inl ⟨by rw[<- j5 hl];exact hg,?_,gZ⟩
    unfold VEf at hv hw ⊢
    rw[Gp] at hv;rw[EH] at hw ⊢
    obtain⟨bx,u,rfl,hv⟩:=hv;obtain⟨v,rfl,hw⟩:=hw;refine⟨v,rfl,?_⟩;obtain⟨dst,op,type,pos,after,guard⟩:=x;simp only at EH;subst EH;simp only[VYK] at hw ⊢
    have e1:ev G ((Ef.gn bx s.nb u).run tr y s) (.tmp m)=ev G s (.tmp m):=(hl m (j6 (x:=.tmp m) (by simp[Op.operands]) rfl)).symm;have e2:ev G ((Ef.gn bx s.nb u).run tr y s) (.tmp k)=ev G s (.tmp k):=(hl k (j6 (x:=.tmp k) (by simp[Op.operands]) rfl)).symm;rw[e1,e2];exact Ae (bx':=bx) (u:=u) (ug (pW hv) λs' u' e=>⟨by rw[<- e.1],e.2⟩) hw rfl rfl
   .exact .inr ⟨by rw[<- j5 hl];exact hg,he⟩
  .exact vb A1 hl (λ_=>⟨rfl,rfl⟩) hx
 by_cases hra:xT tr x y=true
 .obtain⟨h1,h2⟩:=Hi hra
  rcases hx with⟨hg,hw,gZ⟩ | ⟨hg,he⟩
  .refine .inl ⟨by rw[<- j5 hl];exact hg,?_,gZ⟩
   have hf:s.nb<=f.nb s.nb/\∀ i,i<s.nb->f.bx s.nb s.bx i=s.bx i:=by
    rcases hy with⟨_,hv,_⟩ | ⟨_,rfl⟩
    .exact h2 _ _ hv
    .exact⟨ab _,λ_ _=>rfl⟩
   exact VW A1 h1 (λq hq=>BW λt ht=>hl t (j6 hq ht)) hf.1 hf.2 hw
  .exact .inr ⟨by rw[<- j5 hl];exact hg,he⟩
 .refine vb A1 hl (λhm=>?_) hx
  have hq:=A8 hy (λh=>hm ((AY.my h).resolve_right (λh=>by rcases h with h | h | h;exact dU h;exact hlk h;exact hra h)))
  obtain⟨q1,q2,_⟩:=pL hq s.bx s.nb 0;exact⟨q1.symm,q2.symm⟩
theorem TEf.back {x y:Oper} {e f:Ef} (AY:Jv tr ops x y) (hx:TEf P G tr ops x s e) (hy:TEf P G tr ops y (e.run tr x s) f):TEf P G tr ops y s f:=by
 have hl:∀ t∈y.looksAt ops,(e.run tr x s).fr t=s.fr t:=λt ht=>by rw[BZ];simp only;rw[kB (λhw=>AY.xy t hw ht)]
 have A1:∀ d,y.dst=some d->(e.run tr x s).fr d=s.fr d:=λd hd=>by rw[BZ];simp only;rw[kB (λhw=>AY.ww d hw (by simp[wr,hd]))]
 by_cases dU:nk tr y x=true
 .obtain⟨q1,q2⟩:=Jy dU hx
  exact VV dU hl (λd b h1 h2 h3=>(q2 d b h1 h2 h3).symm) q1.symm hy
 by_cases hlk:pD y x=true
 .obtain⟨T,m,k,EH,Gp⟩:=sJ hlk
  rcases hx with⟨_,hv,_⟩ | ⟨_,rfl⟩
  .rcases hy with⟨hg,hw,gZ⟩ | ⟨hg,he⟩
   .refine .inl ⟨by rw[<- j5 hl];exact hg,?_,gZ⟩
    unfold VEf at hv hw ⊢
    rw[Gp] at hv;rw[EH] at hw ⊢
    obtain⟨bx,u,rfl,hv⟩:=hv;obtain⟨v,rfl,hw⟩:=hw;refine⟨v,rfl,?_⟩;obtain⟨dst,op,type,pos,after,guard⟩:=y;simp only at EH;subst EH;simp only[VYK] at hw ⊢
    have e1:ev G ((Ef.gn bx s.nb u).run tr x s) (.tmp m)=ev G s (.tmp m):=hl m (j6 (x:=.tmp m) (by simp[Op.operands]) rfl);have e2:ev G ((Ef.gn bx s.nb u).run tr x s) (.tmp k)=ev G s (.tmp k):=hl k (j6 (x:=.tmp k) (by simp[Op.operands]) rfl);rw[e1,e2] at hw;have hE:=ug (pW hv) (K':=λs' u'=>bx=s'.bx/\u=u') λs' u' e=>⟨by rw[<- e.1],e.2⟩;obtain⟨w,xt⟩:=B5 hE;have:=Ae (s':=(Ef.gn bx s.nb u).run tr x s) hE xt rfl rfl;rw[zZ hw this];exact xt
   .exact .inr ⟨by rw[<- j5 hl];exact hg,he⟩
  .exact vb A1 hl (λ_=>⟨rfl,rfl⟩) hy
 .refine vb A1 hl (λhm=>?_) hy
  have hq:=A8 hx (λh=>hm ((AY.mx h).resolve_right (λh=>by rcases h with h | h;exact dU h;exact hlk h)))
  obtain⟨q1,q2,_⟩:=pL hq s.bx s.nb 0;exact⟨q1,q2⟩
theorem B7 {x y:Oper} {e f:Ef} (AY:Jv tr ops x y) (hx:TEf P G tr ops x s e) (hy:TEf P G tr ops y s f):f.run tr y (e.run tr x s)=e.run tr x (f.run tr y s):=by
 simp only[BZ];by_cases h2:dV tr x=2
 .have hq:=A8 hy (λh=>by
   rcases AY.mx h2 with h' | h' | h'
   .rw[h'] at h;cases h
   .rw[Jx h'] at h;cases h
   .rw[(Jz (tr:=tr) h').1] at h;cases h)
  obtain⟨q1,q2,q3⟩:=pL hq (e.bx s.nb s.bx) (e.nb s.nb) s.nb;obtain⟨r1,r2,_⟩:=pL hq s.bx s.nb s.nb;rw[q1,q2,q3,r1,r2,BY AY.ww]
 .have hq:=A8 hx h2
  obtain⟨q1,q2,q3⟩:=pL hq (f.bx s.nb s.bx) (f.nb s.nb) s.nb;obtain⟨r1,r2,_⟩:=pL hq s.bx s.nb s.nb;rw[q1,q2,q3,r1,r2,BY AY.ww]
def FreeAt (tr:List Nat) (md:Region.Mode) (ops:Array Oper) (listed:Array Bool) (i:Nat) (oi:Oper):Prop:=
 ∃ B:List Nat,(∀ j∈B,listed.getD j true=false/\∃ oj,ops[j]?=some oj/\∃ e∈oj.after,Region.binds md e=true/\(e.on=i∨e.on∈B))/\
  ∀ j oj,ops[j]?=some oj->j≠i->listed.getD j true=false->j∉B->Hh tr ops oi oj=true
theorem FreeAt.step {md:Region.Mode} {listed:Array Bool} {i j:Nat} {oi oj:Oper} (h:FreeAt tr md ops listed i oi) (hr:i∈Region.ready md ops listed) (hj:j∈Region.ready md ops listed) (xr:j≠i) (Ax:ops[j]?=some oj) :
 Jv tr ops oi oj/\FreeAt tr md ops (listed.setIfInBounds j true) i oi:=by
 obtain⟨B,hB,Az⟩:=h;obtain⟨aog,oj',aa2,eE⟩:=lj.1 hj;rw[Ax] at aa2;cases aa2;have Vj:∀ q,listed.getD q true=false->∀ e∈oj.after,Region.binds md e=true->e.on≠q:=λq h0 e he hb yQ=>by
  have h1:=eE e he hb;rw[yQ] at h1;rcases bZ q listed.size with h' | h'
  .simp[h'] at h0 h1;rw[h0] at h1;cases h1
  .simp[dj h'] at h1
 have hjB:j∉B:=λhjB=>by
  obtain⟨_,oj',aa2,e,he,hb,Vk⟩:=hB j hjB;rw[Ax] at aa2;cases aa2;rcases Vk with Vk | Vk
  .exact Vj i (lj.1 hr).1 e he hb Vk
  .exact Vj _ (hB _ Vk).1 e he hb rfl
 refine⟨Jw (Az j oj Ax xr aog hjB),B,λb hb=>?_,λk ok hk hki Vj gw=>?_⟩
 .have hjb:j≠b:=λh=>hjB (by rw[h];exact hb)
  exact⟨by rw[lU true hjb];exact(hB b hb).1,(hB b hb).2⟩
 .refine Az k ok hk hki ?_ gw
  by_cases hjk:j=k
  .subst hjk;exact aog
  .rw[lU true hjk] at Vj;exact Vj
theorem wJ {K:S->Prop} {i:Nat} {oi:Oper} {e:Ef} (hi:ops[i]?=some oi) :
 ∀ (fuel:Nat) (listed:Array Bool) (s:S),FreeAt tr md ops listed i oi->
  i∈Region.ready md ops listed->TEf P G tr ops oi s e->
  Hg P G tr md ops K fuel (listed.setIfInBounds i true) (e.run tr oi s)->Hg P G tr md ops K (fuel+1) listed s:=by
 intro fuel;induction fuel with
 |zero=>
  intro listed s _ hr hy H;refine⟨λh=>(by rw[h] at hr;cases hr),λj hj=>?_⟩;by_cases xr:j=i
  .subst xr;unfold wH;simp only[hi];exact⟨e,hy,H⟩
  .have:=ready_mono hj xr
   rw[H.1] at this;cases this
 |succ fuel ih=>
  intro listed s Az hr hy H;refine⟨λh=>(by rw[h] at hr;cases hr),λj hj=>?_⟩;by_cases xr:j=i
  .subst xr;unfold wH;simp only[hi];exact⟨e,hy,H⟩
  .have h1:=H.2 j (ready_mono hj xr)
   obtain⟨_,oj,Ax,_⟩:=lj.1 hj;obtain⟨AY,D3⟩:=Az.step hr hj xr Ax;unfold wH at h1 ⊢
   simp only[Ax] at h1 ⊢
   obtain⟨f,hf,hK⟩:=h1;have IJ:=hy.back AY hf;refine⟨f,IJ,ih (listed.setIfInBounds j true) _ D3 (ready_mono hr (hJ xr)) (hy.keep AY IJ) ?_⟩;rw[Array.setIfInBounds_comm _ _ xr,<- B7 AY hy IJ];exact hK
def ve (ops:Array Oper) (listed:Array Bool) (i:Nat):List Nat->List Nat->List Nat
 |[],B=>B
 |j::r,B=>ve ops listed i r (match ops[j]? with
  |some oj=>if(!listed.getD j true)&&(oj.after.any λe=>Region.binds .any e&&(e.on==i||B.contains e.on)) then j::B else B
  |none=>B)
theorem xX {ops:Array Oper} {listed:Array Bool} {i:Nat}:∀ (l B:List Nat),(∀ j∈B,listed.getD j true=false/\∃ oj,ops[j]?=some oj/\∃ e∈oj.after,Region.binds .any e=true/\(e.on=i∨e.on∈B))->
 ∀ j∈ve ops listed i l B,listed.getD j true=false/\∃ oj,ops[j]?=some oj/\∃ e∈oj.after,Region.binds .any e=true/\(e.on=i∨e.on∈ve ops listed i l B)
 |[],_,h=>h
 |k::r,B,h=>by
  unfold ve;refine xX r _ ?_;split
  .rename_i oj Ax
   split
   .rename_i hc
    simp only[aZ,ew] at hc;obtain⟨h1,h2⟩:=hc;rw[Array.any_eq_true'] at h2;obtain⟨e,he,h3⟩:=h2;simp only[aZ,fm,kS,iQ,bI] at h3;intro j hj;rcases aN.1 hj with rfl | hj
    .exact⟨h1,oj,Ax,e,he,h3.1,h3.2.imp id (aP _)⟩
    .obtain⟨a,b,c,d,hd,f,g⟩:=h j hj
     exact⟨a,b,c,d,hd,f,g.imp id (aP _)⟩
   .exact h
  .exact h
def JA (tr:List Nat) (ops:Array Oper) (listed:Array Bool) (i:Nat):Bool:=
 match ops[i]? with
 |none=>true
 |some oi=>(λB=>(List.range ops.size).all λj=>match ops[j]? with
  |none=>true
  |some oj=>j==i||listed.getD j true||List.contains B j||Hh tr ops oi oj) (ve ops listed i (List.range ops.size) [])
theorem pY {i:Nat} {oi:Oper} {listed:Array Bool} (hi:ops[i]?=some oi) (h:JA tr ops listed i=true):FreeAt tr .any ops listed i oi:=by unfold JA at h;simp only[hi,a8,dc] at h;refine⟨ve ops listed i (List.range ops.size) [],xX _ _ (λ_ h=>by cases h),λj oj hj xr hl gw=>?_⟩;have bF:j<ops.size:=(bg.1 hj).1;have:=h j bF;simp only[hj,hl,fm,kS,xr,false_or,aM,iQ,bI] at this;exact this.resolve_left gw
def ui (tr:List Nat) (ops:Array Oper):Nat->Nat->Array Bool->Bool
 |0,_,listed=>(Region.ready .any ops listed).isEmpty
 |fuel+1,k,listed=>(Region.ready .any ops listed).contains k&&JA tr ops listed k&&ui tr ops fuel (k+1) (listed.setIfInBounds k true)
def E1 (tr:List Nat) (ops:Array Oper):List Nat->Array Bool->Bool
 |[],listed=>(Region.ready .any ops listed).isEmpty
 |k::r,listed=>(Region.ready .any ops listed).contains k&&JA tr ops listed k&&E1 tr ops r (listed.setIfInBounds k true)
def tH (tr:List Nat) (ops:Array Oper):List Nat->Array Bool->Option (Array Bool)
 |[],listed=>some listed
 |k::r,listed=>if(Region.ready .any ops listed).contains k&&JA tr ops listed k then tH tr ops r (listed.setIfInBounds k true) else none
def rk (ops:Array Oper) (ks:List Nat):List Oper:=ks.filterMap λk=>ops[k]?
theorem y9 {K:S->Prop}:∀ (ks:List Nat) (listed:Array Bool) (s:S),(∀ k∈ks,∃ o,ops[k]?=some o/\pw tr o=false)->
 E1 tr ops ks listed=true->ig P G tr ops (rk ops ks) s K->Hg P G tr .any ops K ks.length listed s
 |[],_,_,_,hB,h=>⟨by simpa[E1] using hB,h⟩
 |k::r,listed,s,hA,hB,h=>by
  obtain⟨o,ho,EG⟩:=hA k (bD ..);simp only[E1,aZ] at hB;obtain⟨⟨hr,hf⟩,hB'⟩:=hB;simp only[rk,jk,ho,ig] at h;obtain⟨e,he,hK⟩:=kF (K:=λs'=>ig P G tr ops (rk ops r) s' K) EG h;exact wJ ho r.length listed s (pY ho hf) (by simpa using hr) he
   (y9 r _ _ (λk hk=>hA k (aP _ hk)) hB' hK)
theorem JB {K K0:S->Prop} (m:Nat) (IE:Array Bool) (hK0:∀ s',K0 s'->Hg P G tr .any ops K m IE s'):∀ (ks:List Nat) (listed:Array Bool) (s:S),(∀ k∈ks,∃ o,ops[k]?=some o/\pw tr o=false)->
 tH tr ops ks listed=some IE->ig P G tr ops (rk ops ks) s K0->Hg P G tr .any ops K (m+ks.length) listed s
 |[],listed,s,_,hB,h=>by simp only[tH,ao] at hB;subst hB;exact hK0 _ h
 |k::r,listed,s,hA,hB,h=>by
  obtain⟨o,ho,EG⟩:=hA k (bD ..);unfold tH at hB;split at hB
  .rename_i hc
   simp only[aZ] at hc;obtain⟨hr,hf⟩:=hc;simp only[rk,jk,ho,ig] at h;obtain⟨e,he,hK⟩:=kF (K:=λs'=>ig P G tr ops (rk ops r) s' K0) EG h;have:=wJ ho (m+r.length) listed s (pY ho hf) (by simpa using hr) he
    (JB m IE hK0 r _ _ (λk hk=>hA k (aP _ hk)) hB hK)
   simpa[dN] using this
  .cases hB
def PX (tr:List Nat) (ops:Array Oper):Bool:=ops.toList.all (λo=>!pw tr o)&&match tH tr ops (List.range (lz ops)) (Array.replicate ops.size false) with
 |some listed=>(Region.ready .any ops listed).all (λk=>k==lz ops||k==lz ops+1)&&(Region.ready .any ops listed).contains (lz ops)&&decide (lz ops+1<ops.size)&&
   E1 tr ops ((List.range ops.size).drop (lz ops+1)) (listed.setIfInBounds (lz ops) true)&&E1 tr ops (lz ops::(List.range ops.size).drop (lz ops+2)) (listed.setIfInBounds (lz ops+1) true)
 |none=>false
theorem sK (i m:Nat) (h:i+m<=ops.size):rk ops (List.range' i m)=(ops.toList.drop i).take m:=by
 induction m generalizing i with
 |zero=>simp[rk]
 |succ m ih=>
  have hi:i<ops.size:=by omega
  have ih':=ih (i+1) (by omega);unfold rk at ih' ⊢
  have hd:ops.toList.drop i=ops[i]::ops.toList.drop (i+1):=by rw[dn (by simpa using hi)];simp
  rw[iw,jk,ax hi,hd,fS];simp only;rw[ih']
theorem B8 (eG:mQ n ops=true) (vD:PX tr ops=true) {K:S->Prop} (hK:∀ a w s,K s->SE G n I0 M w0 s a w->Q .normal a w)
 (h:abo P G tr ops s K) (dH:SE G n I0 M w0 s a w):wpAny P .any ops Q ops.size (Array.replicate ops.size false) a { w with drawn:=w.drawn+1 }:=by
 unfold PX at vD;simp only[aZ,a8,ew] at vD;obtain⟨hA,vD⟩:=vD;have Q7:∀ k,k<ops.size->∃ o,ops[k]?=some o/\pw tr o=false:=λk hk=>⟨ops[k],ax hk,hA _ (by simp)⟩;split at vD
 .rename_i listed xo
  simp only[aZ,bI] at vD;obtain⟨⟨⟨⟨eE,jF⟩,fK⟩,Av⟩,hl2⟩:=vD;generalize hi:lz ops=i at *;unfold abo at h;rw[hi] at h;have hr0:List.range i=List.range' 0 i:=eL;have aa3:rk ops (List.range i)=ops.toList.take i:=by rw[hr0,sK 0 i (by omega)];rfl
  have aqz:(List.range ops.size).drop (i+1)=List.range' (i+1) (ops.size - (i+1)):=by rw[eL,List.drop_range'];simp
  have aqA:(List.range ops.size).drop (i+2)=List.range' (i+2) (ops.size - (i+2)):=by rw[eL,List.drop_range'];simp
  have hci:ops.toList.drop i=ops[i]::ops[i+1]::ops.toList.drop (i+2):=by rw[dn (by simp;omega),dn (i:=i+1) (by simp;omega)];simp
  have II:rk ops ((List.range ops.size).drop (i+1))=ops[i+1]::ops.toList.drop (i+2):=by rw[aqz,sK _ _ (by omega)];rw[fh (by simp),dn (by simp;omega)];simp
  have hn2:rk ops ((List.range ops.size).drop (i+2))=ops.toList.drop (i+2):=by rw[aqA,sK _ _ (by omega)];exact fh (by simp)
  have key:Hg P G tr .any ops K ((ops.size - (i+1)+1)+(List.range i).length) (Array.replicate ops.size false) s:=by
   rw[<- aa3] at h;refine JB _ listed (λs' EE=>?_) (List.range i) _ s (λk hk=>Q7 k (by have:=dc.1 hk;omega)) xo h;obtain⟨h1,h2⟩:=EE;rw[hci] at h1 h2;simp only[agc] at h2;refine⟨λh0=>(by rw[h0] at jF;cases jF),λk hk=>?_⟩;have U8:=a8.1 eE k hk;simp only[fm,kS] at U8;obtain⟨oi,hoi,hAi⟩:=Q7 i (by omega);obtain⟨oj,Ax,hAj⟩:=Q7 (i+1) fK;rcases U8 with rfl | rfl
   .unfold wH
    simp only[hoi];rw[show ops[k]=oi from by rw[ax (by omega)] at hoi;simpa using hoi] at h1;simp only[ig] at h1;obtain⟨e,he,hK'⟩:=kF (K:=λs'=>ig P G tr ops (ops[k+1]::ops.toList.drop (k+2)) s' K) hAi h1;refine⟨e,he,?_⟩;have:=y9 (K:=K) ((List.range ops.size).drop (k+1)) (listed.setIfInBounds k true) _ (λq hq=>Q7 q (by have:=dc.1 (cT hq);exact this)) Av (by rw[II];exact hK');simpa using this
   .unfold wH
    simp only[Ax];rw[show ops[i+1]=oj from by rw[ax fK] at Ax;simpa using Ax] at h2;simp only[ig] at h2;obtain⟨e,he,hK'⟩:=kF (K:=λs'=>ig P G tr ops (ops[i]::ops.toList.drop (i+2)) s' K) hAj h2;refine⟨e,he,?_⟩;have:=y9 (K:=K) (i::(List.range ops.size).drop (i+2)) (listed.setIfInBounds (i+1) true) _ (λq hq=>Q7 q (by
     rcases aN.1 hq with rfl | hq
     .omega
     .exact dc.1 (cT hq))) hl2 (by
     unfold rk;rw[jk,ax (show i<ops.size by omega)];simp only;have:=hn2;unfold rk at this;rw[this];exact hK')
    have e1:(i::(List.range ops.size).drop (i+2)).length=ops.size - (i+1):=(by simp;omega);rw[e1] at this;exact this
  have tU:SE G n I0 M w0 s a { w with drawn:=w.drawn+1 }:=by obtain⟨I,β,ob,hst⟩:=dH;exact⟨I,β,ob,hst.drew⟩
  have e2:(ops.size - (i+1)+1)+(List.range i).length=ops.size:=by simp;omega
  rw[e2] at key;exact pX eG hK _ _ _ _ _ key tU
 .cases vD
def Hj (tr:List Nat) (ops:Array Oper):Bool:=ops.toList.all (λo=>!pw tr o)&&ui tr ops ops.size 0 (Array.replicate ops.size false)
theorem JC {K:S->Prop}:∀ (l:List Oper) (k:Nat) (listed:Array Bool) (s:S),(∀ o∈l,pw tr o=false)->(∀ j,l[j]?=ops[k+j]?)->
 ui tr ops l.length k listed=true->ig P G tr ops l s K->Hg P G tr .any ops K l.length listed s
 |[],_,_,_,_,_,hB,h=>⟨by simpa[ui] using hB,h⟩
 |o::l,k,listed,s,hA,hl,hB,h=>by
  have h0:ops[k]?=some o:=by simpa using(hl 0).symm
  simp only[aB,ui,aZ] at hB;obtain⟨⟨hr,hf⟩,hB'⟩:=hB;simp only[ig] at h;obtain⟨e,he,hK⟩:=kF (K:=λs'=>ig P G tr ops l s' K) (hA o (bD ..)) h;exact wJ h0 l.length listed s (pY h0 hf) (by simpa using hr) he
   (JC l (k+1) _ _ (λo ho=>hA o (aP _ ho)) (λj=>by have:=hl (j+1);simpa[dN,Nat.add_comm 1 j] using this) hB' hK)
theorem AM (eG:mQ n ops=true) (vD:Hj tr ops=true) {K:S->Prop} (hK:∀ a w s,K s->SE G n I0 M w0 s a w->Q .normal a w)
 (h:ig P G tr ops ops.toList s K) (dH:SE G n I0 M w0 s a w):wpAny P .any ops Q ops.size (Array.replicate ops.size false) a { w with drawn:=w.drawn+1 }:=by
 simp only[Hj,aZ,a8,ew] at vD;have h1:=JC (K:=K) ops.toList 0 (Array.replicate ops.size false) s vD.1 (by simp) (by simpa using vD.2) h;have tU:SE G n I0 M w0 s a { w with drawn:=w.drawn+1 }:=by obtain⟨I,β,ob,hst⟩:=dH;exact⟨I,β,ob,hst.drew⟩
 have:=pX eG hK _ _ _ _ _ h1 tU;simpa using this
def xY (P:Program) (G:Gl) (tr:List Nat) (ops:Array Oper) (L1:Array Bool) (K0:S->Prop):Nat->Array Bool->S->Prop
 |0,listed,s=>listed=L1/\K0 s
 |fuel+1,listed,s=>Region.ready .any ops listed≠[]/\∀ i∈Region.ready .any ops listed,wH P G tr ops i (xY P G tr ops L1 K0 fuel (listed.setIfInBounds i true)) s
def vg (ops:Array Oper) (m:Nat):Bool:=(List.range ops.size).all λj=>decide (j<m)||match ops[j]? with
 |some o=>(List.range m).all λk=>o.after.any λe=>Region.binds .any e&&(e.on==k)
 |none=>true
theorem Hk {m:Nat} (h:vg ops m=true) {j k:Nat} {oj:Oper} (hj:ops[j]?=some oj) (hm:m<=j) (hk:k<m):∃ e∈oj.after,Region.binds .any e=true/\e.on=k:=by unfold vg at h;rw[a8] at h;have h1:=h j (dc.2 (bg.1 hj).1);simp only[hj,fm,bI] at h1;have h2:=a8.1 (h1.resolve_left (by omega)) k (dc.2 hk);rw[Array.any_eq_true'] at h2;obtain⟨e,he,h3⟩:=h2;simp only[aZ,kS] at h3;exact⟨e,he,h3.1,h3.2⟩
theorem B9 {m q j:Nat} (h:(ot m q).getD j true=false):m<=j:=by
 rcases bZ j m with hj | hj
 .exfalso
  unfold ot at h;rw[ak,dw,az (by simpa using hj)] at h;simp[hj] at h
 .exact hj
theorem za {m q j:Nat} (h:(ot m q).getD j false=true):j<m:=by
 rcases bZ j m with hj | hj
 .exact hj
 .exfalso
  unfold ot at h;rw[ak,dw,aG (by simpa using hj),List.getElem?_replicate] at h;split at h<;>simp at h
theorem JD {K0:S->Prop} {m:Nat} (MC:vg ops m=true) {i:Nat} {oi:Oper} {e:Ef} (hi:ops[i]?=some oi) :
 ∀ (fuel:Nat) (listed:Array Bool) (s:S),listed.size=ops.size->FreeAt tr .any ops listed i oi->
  i∈Region.ready .any ops listed->TEf P G tr ops oi s e->
  xY P G tr ops (ot m ops.size) K0 fuel (listed.setIfInBounds i true) (e.run tr oi s)->xY P G tr ops (ot m ops.size) K0 (fuel+1) listed s:=by
 intro fuel;induction fuel with
 |zero=>
  intro listed s fK _ hr hy H;refine⟨λh=>(by rw[h] at hr;cases hr),λj hj=>?_⟩;by_cases xr:j=i
  .subst xr;unfold wH;simp only[hi];exact⟨e,hy,H⟩
  .exfalso
   obtain⟨Vj,oj,Ax,eE⟩:=lj.1 hj;have PC:i<listed.size:=(by rw[fK];exact(bg.1 hi).1);have h1:(ot m ops.size).getD j true=false:=(by rw[<- H.1,lU true (hJ xr)];exact Vj);have h2:(ot m ops.size).getD i false=true:=(by rw[<- H.1,ak,Array.getElem?_setIfInBounds_self_of_lt PC];rfl);obtain⟨ed,hed,hb,Vk⟩:=Hk MC Ax (B9 h1) (za h2);have h3:=eE ed hed hb;rw[Vk] at h3;have h4:=(lj.1 hr).1;rw[ak,ax PC] at h3 h4;simp only[cX] at h3 h4;rw[h4] at h3;cases h3
 |succ fuel ih=>
  intro listed s fK Az hr hy H;refine⟨λh=>(by rw[h] at hr;cases hr),λj hj=>?_⟩;by_cases xr:j=i
  .subst xr;unfold wH;simp only[hi];exact⟨e,hy,H⟩
  .have h1:=H.2 j (ready_mono hj xr)
   obtain⟨_,oj,Ax,_⟩:=lj.1 hj;obtain⟨AY,D3⟩:=Az.step hr hj xr Ax;unfold wH at h1 ⊢
   simp only[Ax] at h1 ⊢
   obtain⟨f,hf,hK⟩:=h1;have IJ:=hy.back AY hf;refine⟨f,IJ,ih (listed.setIfInBounds j true) _ (by rw[dA];exact fK) D3 (ready_mono hr (hJ xr)) (hy.keep AY IJ) ?_⟩;rw[Array.setIfInBounds_comm _ _ xr,<- B7 AY hy IJ];exact hK
theorem E2 {K0:S->Prop} {m:Nat} (MC:vg ops m=true):∀ (ks:List Nat) (listed:Array Bool) (s:S),listed.size=ops.size->(∀ k∈ks,∃ o,ops[k]?=some o/\pw tr o=false)->
 tH tr ops ks listed=some (ot m ops.size)->ig P G tr ops (rk ops ks) s K0->xY P G tr ops (ot m ops.size) K0 ks.length listed s
 |[],listed,s,_,_,hB,h=>by simp only[tH,ao] at hB;exact⟨hB,h⟩
 |k::r,listed,s,fK,hA,hB,h=>by
  obtain⟨o,ho,EG⟩:=hA k (bD ..);unfold tH at hB;split at hB
  .rename_i hc
   simp only[aZ] at hc;obtain⟨hr,hf⟩:=hc;simp only[rk,jk,ho,ig] at h;obtain⟨e,he,hK⟩:=kF (K:=λs'=>ig P G tr ops (rk ops r) s' K0) EG h;exact JD MC ho r.length listed s fK (pY ho hf) (by simpa using hr) he
    (E2 MC r _ _ (by rw[dA];exact fK) (λk hk=>hA k (aP _ hk)) hB hK)
  .cases hB
theorem abE {K:S->Prop} {KW:Act->World->Prop} {i:Nat} {oi:Oper} {e:Ef} (eG:mQ n ops=true) (hi:ops[i]?=some oi) (he:TEf P G tr ops oi s e) (dH:SE G n I0 M w0 s a w)
 (hK:K (e.run tr oi s)) (hKW:∀ a w s,K s->SE G n I0 M w0 s a w->KW a w):wpOp P ops Q i KW a w:=by
 unfold wpOp;simp only[hi];have jF:oi∈ops.toList:=by have:=fA hi;simpa using this
 obtain⟨I,β,ob,hst⟩:=dH;rcases he with⟨hg,hv,_⟩ | ⟨hg,rfl⟩
 .rw[if_pos (qM hst hg)]
  exact .inl (E0 hst (eY eG jF) hv λa' w' tU=>hKW _ _ _ hK tU)
 .rw[qM hst hg]
  simp only[aM,dp];rw[BV] at hK;exact hKW _ _ _ hK (SE.put hst (eY eG jF) (by simp only[LR];exact .sk))
theorem Af (eG:mQ n ops=true) {K0:S->Prop} {L1:Array Bool} {r:Nat} (hK:∀ a w s,K0 s->SE G n I0 M w0 s a w->wpAny P .any ops Q r L1 a w):∀ (fuel:Nat) (listed:Array Bool) (s:S) (a:Act) (w:World),
 xY P G tr ops L1 K0 fuel listed s->SE G n I0 M w0 s a w->wpAny P .any ops Q (r+fuel) listed a w
 |0,listed,_,a,w,h,dH=>by obtain⟨rfl,h⟩:=h;exact hK _ _ _ h dH
 |fuel+1,_,s,a,w,h,dH=>by refine⟨λh0=>absurd h0 h.1,λi hi=>?_⟩;have hh:=h.2 i hi;obtain⟨_,oi,hoi,_⟩:=lj.1 hi;unfold wH at hh;simp only[hoi] at hh;obtain⟨e,he,hh⟩:=hh;exact abE eG hoi he dH hh λa w s hs dH=>Af eG hK fuel _ s a w hs dH
def PY (Q:Exit->Act->World->Prop):Exit->Act->World->Prop:=λe a w=>e=.normal/\Q e a w
theorem zb {Q:Exit->Act->World->Prop}:¬ LetsOut (PY Q):=λ⟨_,_,h,_⟩=>by cases h
theorem Eo {l:Option Nat} {m:Nat} {id:Nat} (hm:P.follows .mixedOrders=true) (qA:BM ops=true) (eG:mQ n ops=true) (vD:PX tr ops=true) {K:S->Prop} (hK:∀ a w s,K s->SE G n I0 M w0 s a w->Q .normal a w)
 (h:abo P G tr ops s K) (dH:SE G n I0 M w0 s a w):(Code.region id ops true).wpIn (FW l) m P Q a w:=
 wpIn_mono (Q:=PY Q) (wpIn_region_any hm (xO qA zb _ _ _ _ (B8 eG vD (λa w s hk dH=>⟨rfl,hK a w s hk dH⟩) h dH))) (λ_ _ _ h=>h.2)
theorem Cb {l:Option Nat} {m:Nat} {id:Nat} (hm:P.follows .mixedOrders=true) (qA:BM ops=true) (eG:mQ n ops=true) (vD:Hj tr ops=true) {K:S->Prop} (hK:∀ a w s,K s->SE G n I0 M w0 s a w->Q .normal a w)
 (h:ig P G tr ops ops.toList s K) (dH:SE G n I0 M w0 s a w):(Code.region id ops true).wpIn (FW l) m P Q a w:=
 wpIn_mono (Q:=PY Q) (wpIn_region_any hm (xO qA zb _ _ _ _ (AM eG vD (λa w s hk dH=>⟨rfl,hK a w s hk dH⟩) h dH))) (λ_ _ _ h=>h.2)
