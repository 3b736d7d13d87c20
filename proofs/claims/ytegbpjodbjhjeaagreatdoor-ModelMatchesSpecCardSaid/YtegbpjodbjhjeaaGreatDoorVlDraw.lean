/- Values without memory: regions that draw their order: an operation's effect. -/
import Derived.Test.YtegbpjodbjhjeaaGreatDoorVlCode
import Derived.Orders
set_option linter.all false
namespace Go.Vl
open Go Go.RowKit
section
variable {P:Program} {G:Gl} {tr:List Nat} {s:S} {o:Oper} {x y:V} {K:V->Prop}
theorem ym {op:BinOp} {k:IntKind} {a b:Int} (h:rq op k a b K):∃ v,rq op k a b (λu=>v=u)/\K v:=by
 cases op<;>simp only[rq] at h ⊢<;>first | exact⟨_,rfl,h⟩ | exact⟨_,⟨h.1,rfl⟩,h.2⟩
theorem Oj {op:BinOp} {a b:ByteArray} (h:AA op a b K):∃ v,AA op a b (λu=>v=u)/\K v:=by
 cases op<;>simp only[AA] at h ⊢<;>first | exact h.elim | exact⟨_,rfl,h⟩ | exact⟨_,⟨h.1,rfl⟩,h.2⟩
theorem Ol {op:BinOp} {T:TypeId} (h:nh P op T x y K):∃ v,nh P op T x y (λu=>v=u)/\K v:=by
 unfold nh at h;split at h
 .split at h
  .exact ym h
  .exact ym h
  .rename_i h1 h2
   split at h
   .rename_i hk
    obtain⟨v,hv,hK⟩:=ym h;refine⟨v,?_,hK⟩;unfold nh;simp only[if_pos hk]
    first | exact hv | (split<;>first | exact hv | simp_all)
   .exact h.elim
 .exact Oj h
 .split at h
  .rename_i hi
   split at h
   .exact⟨_,by simp only[nh,hi],h⟩
   .exact⟨_,by simp only[nh,hi],h⟩
   .exact h.elim
  .exact h.elim
 .split at h
  .rename_i hi
   split at h
   .rename_i hr
    obtain⟨hl,h⟩:=h;split at h
    .exact⟨_,by simp only[nh,hi,hr];exact⟨hl,trivial⟩,h⟩
    .exact⟨_,by simp only[nh,hi,hr];exact⟨hl,trivial⟩,h⟩
    .exact h.elim
   .exact h.elim
  .exact h.elim
 .exact h.elim
theorem Rq {op:UnOp} (h:vun op x K):∃ v,vun op x (λu=>v=u)/\K v:=by
 unfold vun at h;split at h<;>first | exact h.elim | exact⟨_,rfl,h⟩
theorem rG {ag:Bool} {sz off:Nat} {cs:List C} (h:dZ ag sz off cs K):∃ v,dZ ag sz off cs (λu=>v=u)/\K v:=by
 unfold dZ at h;split at h
 .rename_i lU;exact⟨_,by unfold dZ;rw[if_pos lU];exact⟨h.1,rfl⟩,h.2⟩
 .rename_i lU
  split at h
  .rename_i c hc;exact⟨_,by unfold dZ;rw[if_neg lU,hc],h⟩
  .exact h.elim
theorem Kf {ag:Bool} {sz off:Nat} {vs:List V} (h:yW ag sz off vs K):∃ v,yW ag sz off vs (λu=>v=u)/\K v:=by
 unfold yW at h;split at h
 .rename_i lU;exact⟨_,by unfold yW;rw[if_pos lU];exact⟨h.1,rfl⟩,h.2⟩
 .rename_i lU
  split at h
  .rename_i c hc;exact⟨_,by unfold yW;rw[if_neg lU,hc],h⟩
  .exact h.elim
theorem Kg {T:TypeId} (h:dJ P T s x K):∃ v,dJ P T s x (λu=>v=u)/\K v:=by
 unfold dJ at h;split at h
 .rename_i hi
  obtain⟨v,h1,h2⟩:=rG h;exact⟨v,by unfold dJ;rw[hi];exact h1,h2⟩
 .rename_i i b k hi
  obtain⟨hb,h⟩:=h;split at h
  .rename_i lU
   exact⟨_,by unfold dJ;rw[hi];refine⟨hb,?_⟩;rw[if_pos lU];exact⟨h.1,rfl⟩,h.2⟩
  .rename_i lU
   split at h
   .rename_i c hc
    exact⟨_,by unfold dJ;rw[hi];refine⟨hb,?_⟩;rw[if_neg lU,hc],h⟩
   .exact h.elim
 .rename_i hi
  rcases h with h | ⟨b,k,len,cap,E,es,h2,h⟩
  .exact h.elim
  .obtain⟨v,h3,h4⟩:=rG h
   exact⟨v,by unfold dJ;simp only[hi];exact .inr ⟨b,k,len,cap,E,es,h2,h3⟩,h4⟩
 .exact h.elim
theorem zW {T:TypeId} {f:Nat} (h:bj P T x f K):∃ v,bj P T x f (λu=>v=u)/\K v:=by
 unfold bj at h;split at h
 .rename_i i hi
  split at h
  .rename_i hf;exact⟨_,by unfold bj;simp only[hi,hf];exact⟨h.1,trivial⟩,h.2⟩
  .rename_i hf;exact⟨_,by unfold bj;simp only[hi,hf];exact⟨h.1,trivial⟩,h.2⟩
  .rename_i hf;exact⟨_,by unfold bj;simp only[hi,hf];exact⟨h.1,trivial⟩,h.2⟩
  .exact h.elim
 .exact h.elim
theorem Hg {T:TypeId} {f:Nat} (h:ru P T x f K):∃ v,ru P T x f (λu=>v=u)/\K v:=by
 unfold ru at h;split at h
 .rename_i hi
  split at h
  .rename_i hf
   obtain⟨v,h1,h2⟩:=rG h;exact⟨v,by unfold ru;simp only[hi,hf];exact h1,h2⟩
  .exact h.elim
 .rename_i hi
  split at h
  .rename_i hf
   obtain⟨v,h1,h2⟩:=Kf h;exact⟨v,by unfold ru;simp only[hi,hf];exact h1,h2⟩
  .exact h.elim
 .exact h.elim
theorem zX {T:TypeId} (h:bK P T x y K):∃ v,bK P T x y (λu=>v=u)/\K v:=by
 unfold bK at h;split at h
 .rename_i hi
  split at h
  .rename_i hj
   obtain⟨h0,h⟩:=h;split at h
   .rename_i hc
    exact⟨_,by unfold bK;simp only[hi,hj,hc];exact⟨h0,h.1,trivial⟩,h.2⟩
   .exact h.elim
  .exact h.elim
 .rename_i hi
  split at h
  .rename_i hj
   exact⟨_,by unfold bK;simp only[hi,hj];exact⟨h.1,trivial⟩,h.2⟩
  .exact h.elim
 .rename_i hi
  split at h
  .rename_i hj
   exact⟨_,by unfold bK;simp only[hi,hj];exact⟨h.1,trivial⟩,h.2⟩
  .exact h.elim
 .rename_i hi
  split at h
  .rename_i hj
   exact⟨_,by unfold bK;simp only[hi,hj];exact⟨h.1,trivial⟩,h.2⟩
  .exact h.elim
 .rename_i hi
  split at h
  .rename_i hj
   exact⟨_,by unfold bK;simp only[hi,hj];exact⟨h.1,trivial⟩,h.2⟩
  .exact h.elim
 .exact h.elim
theorem Hh {T:TypeId} (h:nu P T x y K):∃ v,nu P T x y (λu=>v=u)/\K v:=by
 unfold nu at h;split at h
 .rename_i hi
  obtain⟨h0,h⟩:=h;split at h
  .rename_i hc
   exact⟨_,by unfold nu;simp only[hi,hc];exact⟨h0,trivial⟩,h⟩
  .exact h.elim
 .rename_i hi
  split at h
  .rename_i hj
   obtain⟨v,h1,h2⟩:=rG h.2;exact⟨v,by unfold nu;simp only[hi,hj];exact⟨h.1,h1⟩,h2⟩
  .exact h.elim
 .exact h.elim
theorem Hi {T:TypeId} {lo hi mx:Option V} (h:ig P T x lo hi mx K):∃ v,ig P T x lo hi mx (λu=>v=u)/\K v:=by
 unfold ig at h;split at h
 .rename_i ht
  split at h
  .rename_i e1 e2
   exact⟨_,by unfold ig;simp only[ht,e1,e2];exact⟨h.1,trivial⟩,h.2⟩
  .exact h.elim
 .rename_i ht
  split at h
  .split at h
   .rename_i e1 e2 e3
    exact⟨_,by unfold ig;simp only[ht,e1,e2,e3];exact⟨h.1,trivial⟩,h.2⟩
   .exact h.elim
  .split at h
   .rename_i e1 e2
    exact⟨_,by unfold ig;simp only[ht,e1,e2];exact⟨h.1,trivial⟩,h.2⟩
   .exact h.elim
  .exact h.elim
 .rename_i ht
  split at h
  .rename_i e1 e2 e3 e4
   exact⟨_,by unfold ig;simp only[ht,e1,e2,e3,e4];exact⟨h.1,trivial⟩,h.2⟩
  .exact h.elim
 .rename_i ht
  split at h
  .rename_i e1 e2 e3 e4
   exact⟨_,by unfold ig;simp only[ht,e1,e2,e3,e4];exact⟨h.1,trivial⟩,h.2⟩
  .exact h.elim
 .rename_i ht
  split at h
  .rename_i e1
   exact⟨_,by unfold ig;simp only[ht,e1];exact⟨h.1,trivial⟩,h.2⟩
  .exact h.elim
 .rename_i ht
  split at h
  .rename_i e1 e2 e3
   exact⟨_,by unfold ig;simp only[ht,e1,e2,e3];exact⟨h.1,trivial⟩,h.2⟩
  .exact h.elim
 .exact h.elim
theorem Kh {src dst:TypeId} (h:oK P src dst x K):∃ v,oK P src dst x (λu=>v=u)/\K v:=by
 unfold oK at h;split at h
 .rename_i e1 e2;exact⟨_,by unfold oK;simp only[e1,e2],h⟩
 .rename_i e1 e2;exact⟨_,by unfold oK;simp only[e1,e2],h⟩
 .rename_i e1 e2
  split at h
  .rename_i e3;exact⟨_,by unfold oK;simp only[e1,e2,e3],h⟩
  .exact h.elim
 .rename_i e1 e2
  split at h
  .rename_i e3
   split at h
   .rename_i e4;exact⟨_,by unfold oK;simp only[e1,e2,e3,e4],h⟩
   .exact h.elim
  .exact h.elim
 .exact h.elim
theorem Hj {T:TypeId} {parts:List (Nat×V)} (h:gI P T parts K):∃ v,gI P T parts (λu=>v=u)/\K v:=by
 unfold gI at h;split at h
 .rename_i e1
  split at h
  .rename_i e2;exact⟨_,by unfold gI;simp only[e1,e2],h⟩
  .rename_i e2
   split at h
   .rename_i e3;exact⟨_,by unfold gI;simp only[e1,e2,e3],h⟩
   .exact h.elim
 .rename_i e1
  split at h
  .rename_i e2
   split at h
   .rename_i e3;exact⟨_,by unfold gI;simp only[e1,e2,e3],h⟩
   .rename_i e3
    split at h
    .rename_i e4;exact⟨_,by unfold gI;simp only[e1,e2,e3,e4],h⟩
    .exact h.elim
  .exact h.elim
 .exact h.elim
theorem nA {T:TypeId} {len:Nat} {parts:List (Nat×V)} (h:da P T len parts K):∃ v,da P T len parts (λu=>v=u)/\K v:=by
 unfold da at h;split at h
 .rename_i e1
  split at h
  .rename_i e2
   obtain⟨h0,h⟩:=h;split at h
   .rename_i e3;exact⟨_,by unfold da;simp only[e1,e2,e3];exact⟨h0,trivial⟩,h⟩
   .exact h.elim
  .exact h.elim
 .exact h.elim
theorem Om {T:TypeId} (h:mb P T x K):∃ v,mb P T x (λu=>v=u)/\K v:=by
 unfold mb at h;split at h
 all_goals first | exact h.elim | (rename_i e1;exact⟨_,by unfold mb;simp only[e1],h⟩)
theorem wC {T:TypeId} (h:dL P T x y K):∃ v,dL P T x y (λu=>v=u)/\K v:=by
 unfold dL at h;split at h
 .rename_i e1
  split at h
  .rename_i e2
   obtain⟨h0,h⟩:=h;split at h
   .exact⟨_,by unfold dL;simp only[e1,e2];exact⟨h0,h.1,trivial⟩,h.2⟩
   .exact h.elim
  .exact h.elim
 .exact h.elim
theorem Da {mx:Bool} {l:List V} (h:JY mx l K):∃ v,JY mx l (λu=>v=u)/\K v:=by
 unfold JY at h;split at h
 .exact⟨_,rfl,h⟩
 .exact h.elim
theorem Ki {f:V} {l:List V} (h:qO P G s f l K):∃ v,qO P G s f l (λu=>v=u)/\K v:=by
 unfold qO at h;split at h
 .split at h
  .rename_i e1
   obtain⟨r,h1,h2,h3⟩:=h;exact⟨r,by unfold qO;simp only[e1];exact⟨r,h1,h2,rfl⟩,h3⟩
  .exact h.elim
 .split at h
  .rename_i e1 e2 e3
   obtain⟨r,h1,h2,h3⟩:=h;exact⟨r,by unfold qO;simp only[e1,e2,e3];exact⟨r,h1,h2,rfl⟩,h3⟩
  .exact h.elim
 .exact h.elim
theorem qB {b:Builtin} {ts:List TypeId} {l:List V} (h:eH P b ts l K):∃ v,eH P b ts l (λu=>v=u)/\K v:=by
 unfold eH at h;split at h
 .exact Om h
 .split at h
  .rename_i ht
   obtain⟨v,h1,h2⟩:=wC h;exact⟨v,by unfold eH;simp only[if_pos ht];exact h1,h2⟩
  .rename_i ht
   unfold qb at h;split at h
   .rename_i e0 e1 e2
    split at h
    .rename_i e3
     obtain⟨h0,h⟩:=h;obtain⟨v,h1,h2⟩:=wC h;exact⟨v,by unfold eH qb;simp only[if_neg ht,e0,e1,e2,e3];exact⟨h0,h1⟩,h2⟩
    .exact h.elim
   .exact h.elim
 .exact Da h
 .exact Da h
 .exact h.elim
theorem Hk {bx:Nat->List V} {nb:Nat} {f:V} {l:List V} {K:(Nat->List V)->Nat->V->Prop} (h:jX P G bx nb f l K):∃ bx' nb' v,jX P G bx nb f l (λb n u=>(bx'=b/\nb'=n)/\v=u)/\K bx' nb' v:=by
 unfold jX at h;split at h
 .rename_i g all e1
  obtain⟨ρ,cargs,b0,r,b1,h1,h2,h3,h4,h5⟩:=h;exact⟨_,_,_,by unfold jX;simp only[e1];exact⟨ρ,cargs,b0,r,b1,h1,h2,h3,h4,⟨rfl,rfl⟩,rfl⟩,h5⟩
 .exact h.elim
theorem A2 {bx:Nat->List V} {nb n m:Nat} {K:(Nat->List V)->Nat->V->Prop} (h:AD bx nb n m K x):∃ bx' nb' v,AD bx nb n m (λb n u=>(bx'=b/\nb'=n)/\v=u) x/\K bx' nb' v:=by
 unfold AD at h;split at h
 .exact⟨_,_,_,⟨⟨rfl,rfl⟩,rfl⟩,h⟩
 .exact h.elim
theorem Kj {T:TypeId} {K:Nat->Nat->Nat->List C->Prop} (h:qP P T x y K):∃ n m sz z,qP P T x y (λn' m' sz' z'=>n=n'/\m=m'/\sz=sz'/\z=z')/\K n m sz z:=by
 unfold qP at h;split at h
 .rename_i e1
  split at h
  .rename_i e2
   exact⟨_,_,_,_,by unfold qP;simp only[e1,e2];exact⟨h.1,by simp⟩,h.2⟩
  .exact h.elim
 .exact h.elim
theorem ja {T:TypeId} {K:Nat->List Nat->Nat->List V->Option Nat->V->Prop} (h:iP P T s x y K) :
 ∃ i bs cl r res z,iP P T s x y (λi' bs' cl' r' res' z'=>i=i'/\bs=bs'/\cl=cl'/\r=r'/\res=res'/\z=z')/\K i bs cl r res z:=by
 unfold iP at h;split at h
 .rename_i e1
  split at h
  .rename_i e2 e3
   split at h
   .rename_i e4 e5 e6
    split at h
    .rename_i e7
     split at h
     .rename_i e8
      exact⟨_,_,_,_,_,_,by unfold iP;simp only[e1,e2,e3,e4,e5,e6,e7,e8];exact⟨h.1,by simp⟩,h.2⟩
     .exact h.elim
    .exact h.elim
   .exact h.elim
  .exact h.elim
 .exact h.elim
theorem gv {T:TypeId} {i cl:Nat} {bs:List Nat} {r:List V} {res:Option Nat} {z:V} {K:Nat->List Nat->Nat->List V->Option Nat->V->Prop}
 (h:iP P T s x y (λi' bs' cl' r' res' z'=>i=i'/\bs=bs'/\cl=cl'/\r=r'/\res=res'/\z=z')) (hK:K i bs cl r res z):iP P T s x y K:=by
 unfold iP at h;split at h
 .rename_i e1
  split at h
  .rename_i e2 e3
   split at h
   .rename_i e4 e5 e6
    split at h
    .rename_i e7
     split at h
     .rename_i e8
      obtain⟨h1,rfl,rfl,rfl,rfl,rfl,rfl⟩:=h;unfold iP;simp only[e1,e2,e3,e4,e5,e6,e7,e8];exact⟨h1,hK⟩
     .exact h.elim
    .exact h.elim
   .exact h.elim
  .exact h.elim
 .exact h.elim
theorem qR {T:TypeId} {kt et:TypeId} {tT tk te:TI} {ks:List EK} {kc:List C} {k z:V} {i cl:Nat} {bs:List Nat} {r:List V} {kcs:List (List C)} {res:Option Nat} {KM:Nat->List Nat->Nat->List V->Option Nat->V->Prop}
 (hT:ti P T=some tT) (hm:tT.kd=.map kt et) (hk:ti P kt=some tk) (WU:tk.eqs=some ks) (he:ti P et=some te) (hc:k.kcs tk.agg=some kc) (hz:qz te=some z) (hb:s.bx i=.mk bs cl::r)
 (hkc:jG tk.agg r=some kcs) (hf:nk ks kc kcs 0=some res) (hi:i<s.nb) (hl:kc.length=ks.length) (hr:jF ks kc kc=some true) (ha:zaB P et=true) (hK:KM i bs cl r res z):iP P T s (.mr i) k KM:=by
 obtain⟨kd,a1,a2,a3,a4,a5,a6⟩:=tT;obtain⟨b1,b2,b3,ag,b5,b6,b7⟩:=tk;simp only at hm WU hc hkc;subst hm;subst WU;unfold iP;simp only[hT,hk,he,hc,hz,hb,hkc,hf];exact⟨⟨hi,hl,hr,ha⟩,hK⟩
theorem Hl {T:TypeId} {K K':Nat->List Nat->Nat->List V->Option Nat->V->Prop} (h:iP P T s x y K) (h':iP P T s x y K'):∃ i bs cl r res z,K i bs cl r res z/\K' i bs cl r res z:=by
 unfold iP at h;split at h
 .rename_i e1
  split at h
  .rename_i e2 e3
   split at h
   .rename_i e4 e5 e6
    split at h
    .rename_i e7
     split at h
     .rename_i e8
      unfold iP at h';simp only[e1,e2,e3,e4,e5,e6,e7,e8] at h';exact⟨_,_,_,_,_,_,h.2,h'.2⟩
     .exact h.elim
    .exact h.elim
   .exact h.elim
  .exact h.elim
 .exact h.elim
theorem mo {T:TypeId} {s':S} {K:Nat->List Nat->Nat->List V->Option Nat->V->Prop} (hb:s.bx=s'.bx) (hn:s.nb=s'.nb) (h:iP P T s x y K):iP P T s' x y K:=by
 unfold iP at h ⊢
 rw[<- hb,<- hn];exact h
theorem EX {T:TypeId} {v:V} {K:S->Prop} (h:iC P T s x y v K):∃ bx,iC P T ⟨λ_=>.un,s.bx,s.nb⟩ x y v (λs'=>bx=s'.bx)/\K { s with bx:=bx }:=by
 unfold iC at h;obtain⟨i,bs,cl,r,res,z,h1,h2⟩:=ja h;cases res with
 |none=>exact⟨_,gv (mo rfl rfl h1) rfl,h2⟩
 |some j=>exact⟨_,gv (mo rfl rfl h1) rfl,h2⟩
theorem EY {T:TypeId} {v:V} {bx:Nat->List V} (h:iC P T ⟨λ_=>.un,s.bx,s.nb⟩ x y v (λs'=>bx=s'.bx)):iC P T s x y v (λs'=>{ s with bx:=bx }=s'):=by
 unfold iC at h;obtain⟨i,bs,cl,r,res,z,h1,h2⟩:=ja h;cases res with
 |none=>simp only at h2;subst h2;exact gv (mo rfl rfl h1) rfl
 |some j=>simp only at h2;subst h2;exact gv (mo rfl rfl h1) rfl
theorem A3 {T:TypeId} {K:S->V->Prop} (h:ga P T s x y K):∃ bx v,ga P T ⟨λ_=>.un,s.bx,s.nb⟩ x y (λs' u=>bx=s'.bx/\v=u)/\K { s with bx:=bx } v:=by
 unfold ga at h;obtain⟨i,bs,cl,r,res,z,h1,h2⟩:=ja h;cases res with
 |none=>exact⟨_,_,gv (mo rfl rfl h1) ⟨rfl,rfl⟩,h2⟩
 |some j=>exact⟨s.bx,_,gv (mo rfl rfl h1) ⟨rfl,rfl⟩,h2⟩
theorem pq {T:TypeId} {v:V} {bx:Nat->List V} (h:ga P T ⟨λ_=>.un,s.bx,s.nb⟩ x y (λs' u=>bx=s'.bx/\v=u)):ga P T s x y (λs' u=>{ s with bx:=bx }=s'/\v=u):=by
 unfold ga at h;obtain⟨i,bs,cl,r,res,z,h1,h2⟩:=ja h;cases res with
 |none=>obtain⟨rfl,rfl⟩:=h2;exact gv (mo rfl rfl h1) ⟨rfl,rfl⟩
 |some j=>obtain⟨rfl,rfl⟩:=h2;exact gv (mo rfl rfl h1) ⟨rfl,rfl⟩
theorem A4 {v:V} {K:S->Prop} (h:gA s x y v K):∃ bx,gA ⟨λ_=>.un,s.bx,s.nb⟩ x y v (λs'=>bx=s'.bx)/\K { s with bx:=bx }:=by
 unfold gA at h;split at h
 .split at h
  .rename_i e2
   split at h
   .rename_i e3;exact⟨_,by unfold gA;simp only[e2,e3];exact⟨h.1,trivial⟩,h.2⟩
   .exact h.elim
  .exact h.elim
 .exact h.elim
theorem A5 {v:V} {bx:Nat->List V} (h:gA ⟨λ_=>.un,s.bx,s.nb⟩ x y v (λs'=>bx=s'.bx)):gA s x y v (λs'=>{ s with bx:=bx }=s'):=by
 unfold gA at h;split at h
 .split at h
  .rename_i e2
   split at h
   .rename_i e3;obtain⟨h1,rfl⟩:=h;unfold gA;simp only[show s.bx _=_ from e2,e3];exact⟨h1,trivial⟩
   .exact h.elim
  .exact h.elim
 .exact h.elim
theorem Kk {ts:List TypeId} {xs:List V} {K:S->V->Prop} (h:yX P s K ts xs):∃ bx v,yX P ⟨λ_=>.un,s.bx,s.nb⟩ (λs' u=>bx=s'.bx/\v=u) ts xs/\K { s with bx:=bx } v:=False.elim h
theorem Kl {ts:List TypeId} {xs:List V} {bx:Nat->List V} {v:V} (h:yX P ⟨λ_=>.un,s.bx,s.nb⟩ (λs' u=>bx=s'.bx/\v=u) ts xs):yX P s (λs' u=>{ s with bx:=bx }=s'/\v=u) ts xs:=False.elim h
theorem W7 {ts:List TypeId} {xs:List V} {K K':S->V->Prop} (h:yX P s K ts xs) (hk:∀ s v,K s v->K' s v):yX P s K' ts xs:=False.elim h
theorem Cw {ts:List TypeId} {xs:List V} {K:S->V->Prop} (h:eT P s K ts xs):∃ bx v,eT P ⟨λ_=>.un,s.bx,s.nb⟩ (λs' u=>bx=s'.bx/\v=u) ts xs/\K { s with bx:=bx } v:=by
 unfold eT at h;split at h
 .rename_i b off len cap sz y
  have hi:vB s y=vB ⟨λ_=>.un,s.bx,s.nb⟩ y:=by cases y<;>rfl
  split at h
  .rename_i e1 e2
   split at h
   .rename_i e3;exact⟨_,_,by unfold eT;rw[hi] at e2;simp only[e1,e2,e3];exact⟨h.1,by simp⟩,h.2⟩
   .exact h.elim
  .exact h.elim
 .split at h
  .rename_i e1
   split at h
   .rename_i e2
    obtain⟨b,k,j,E,es,h1,h2⟩:=h;exact⟨_,_,by unfold eT;simp only[e1,e2];exact⟨b,k,j,E,es,h1,by simp⟩,h2⟩
   .exact h.elim
  .exact h.elim
 .exact h.elim
theorem Cx {ts:List TypeId} {xs:List V} {bx:Nat->List V} {v:V} (h:eT P ⟨λ_=>.un,s.bx,s.nb⟩ (λs' u=>bx=s'.bx/\v=u) ts xs):eT P s (λs' u=>{ s with bx:=bx }=s'/\v=u) ts xs:=by
 unfold eT at h;split at h
 .rename_i b off len cap sz y
  have hi:vB s y=vB ⟨λ_=>.un,s.bx,s.nb⟩ y:=by cases y<;>rfl
  split at h
  .rename_i e1 e2
   split at h
   .rename_i e3;obtain⟨h0,rfl,rfl⟩:=h;unfold eT;rw[<- hi] at e2;simp only[e1,e2,e3];exact⟨h0,by simp⟩
   .exact h.elim
  .exact h.elim
 .split at h
  .rename_i e1
   split at h
   .rename_i e2
    obtain⟨b,k,j,E,es,h1,rfl,rfl⟩:=h;unfold eT;simp only[e1,e2];exact⟨b,k,j,E,es,h1,by simp⟩
   .exact h.elim
  .exact h.elim
 .exact h.elim
theorem Km {ts:List TypeId} {xs:List V} {K K':S->V->Prop} (h:eT P s K ts xs) (hk:∀ s v,K s v->K' s v):eT P s K' ts xs:=by
 unfold eT at h;split at h
 .split at h
  .rename_i e1 e2
   split at h
   .rename_i e3;unfold eT;simp only[e1,e2,e3];exact⟨h.1,hk _ _ h.2⟩
   .exact h.elim
  .exact h.elim
 .split at h
  .rename_i e1
   split at h
   .rename_i e2
    obtain⟨b,k,j,E,es,h1,h2⟩:=h;unfold eT;simp only[e1,e2];exact⟨b,k,j,E,es,h1,hk _ _ h2⟩
   .exact h.elim
  .exact h.elim
 .exact h.elim
theorem wE {tr:List Nat} {o:Oper} {args:Array Operand} {ts:Array TypeId} {K:S->V->Prop} {s':S} (cC:o.op=.call { callee:=.builtin .append,args:=args,argTypes:=ts }) (h:eT P s' K ts.toList (args.toList.map (ev G s))) :
 s.use (cL tr o)=s:=by
 have e:cL tr o=match args.toList with | .tmp t::_=>some t | _=>none:=by unfold cL;rw[cC];rfl
 rw[e];split
 .rename_i t r ha
  rw[ha,aN] at h;unfold eT at h;split at h
  .rename_i b off len cap sz y u5 oH
   simp only[cj] at oH;have:s.fr t=.ms b off len cap sz:=oH.1;simp[S.use,this,V.isOw]
  .rename_i u5 oH
   simp only[cj] at oH;have:=oH.1;simp only[ev] at this;simp[S.use,this,V.isOw]
  .exact h.elim
 .rfl
theorem Hm {ts:List TypeId} {xs:List V} {K:S->Prop} (h:iQ P s K ts xs):∃ bx,iQ P ⟨λ_=>.un,s.bx,s.nb⟩ (λs'=>bx=s'.bx) ts xs/\K { s with bx:=bx }:=by
 unfold iQ at h;split at h
 .split at h
  .rename_i e1
   split at h
   .rename_i e2;exact⟨_,by unfold iQ;simp only[e1,e2];exact⟨h.1,trivial⟩,h.2⟩
   .exact h.elim
  .exact h.elim
 .split at h
  .rename_i e1
   split at h
   .rename_i e2
    obtain⟨b,k,j,cap,E,es,h1,h2⟩:=h;exact⟨_,by unfold iQ;simp only[e1,e2];exact⟨b,k,j,cap,E,es,h1,rfl⟩,h2⟩
   .exact h.elim
  .exact h.elim
 .exact h.elim
theorem Hn {ts:List TypeId} {xs:List V} {bx:Nat->List V} (h:iQ P ⟨λ_=>.un,s.bx,s.nb⟩ (λs'=>bx=s'.bx) ts xs):iQ P s (λs'=>{ s with bx:=bx }=s') ts xs:=by
 unfold iQ at h;split at h
 .split at h
  .rename_i e1
   split at h
   .rename_i e2;obtain⟨h0,rfl⟩:=h;unfold iQ;simp only[e1,e2];exact⟨h0,trivial⟩
   .exact h.elim
  .exact h.elim
 .split at h
  .rename_i e1
   split at h
   .rename_i e2
    obtain⟨b,k,j,cap,E,es,h1,rfl⟩:=h;unfold iQ;simp only[e1,e2];exact⟨b,k,j,cap,E,es,h1,rfl⟩
   .exact h.elim
  .exact h.elim
 .exact h.elim
theorem Rr {ts:List TypeId} {xs:List V} {K K':S->Prop} (h:iQ P s K ts xs) (hk:∀ s,K s->K' s):iQ P s K' ts xs:=by
 unfold iQ at h;split at h
 .split at h
  .rename_i e1
   split at h
   .rename_i e2;unfold iQ;simp only[e1,e2];exact⟨h.1,hk _ h.2⟩
   .exact h.elim
  .exact h.elim
 .split at h
  .rename_i e1
   split at h
   .rename_i e2
    obtain⟨b,k,j,cap,E,es,h1,h2⟩:=h;unfold iQ;simp only[e1,e2];exact⟨b,k,j,cap,E,es,h1,hk _ h2⟩
   .exact h.elim
  .exact h.elim
 .exact h.elim
theorem On {T:TypeId} {v:V} {K K':S->Prop} (h:iC P T s x y v K) (hk:∀ s,K s->K' s):iC P T s x y v K':=by unfold iC at h;obtain⟨i,bs,cl,r,res,z,h1,h2⟩:=ja h;refine gv h1 ?_;cases res<;>exact hk _ h2
theorem tj {T:TypeId} {K K':S->V->Prop} (h:ga P T s x y K) (hk:∀ s v,K s v->K' s v):ga P T s x y K':=by unfold ga at h;obtain⟨i,bs,cl,r,res,z,h1,h2⟩:=ja h;refine gv h1 ?_;cases res<;>exact hk _ _ h2
theorem Ho {v:V} {K K':S->Prop} (h:gA s x y v K) (hk:∀ s,K s->K' s):gA s x y v K':=by
 unfold gA at h;split at h
 .split at h
  .rename_i e2
   split at h
   .rename_i e3;unfold gA;simp only[e2,e3];exact⟨h.1,hk _ h.2⟩
   .exact h.elim
  .exact h.elim
 .exact h.elim
theorem EZ {T:TypeId} {ok:Bool} (h:fV P T s x y ok K):∃ v,fV P T s x y ok (λu=>v=u)/\K v:=by
 unfold fV at h;obtain⟨i,bs,cl,r,res,z,h1,h2⟩:=ja h;cases res with
 |none=>cases ok<;>exact⟨_,gv h1 rfl,h2⟩
 |some j=>cases ok<;>exact⟨_,gv h1 rfl,h2⟩
theorem y7 {T:TypeId} {ok:Bool} {v u:V} (h:fV P T s x y ok (λw=>v=w)) (h':fV P T s x y ok (λw=>u=w)):v=u:=by
 unfold fV at h h';obtain⟨i,bs,cl,r,res,z,h1,h2⟩:=ja h;obtain⟨i',bs',cl',r',res',z',kr,pY⟩:=ja h';have e:i'=i/\bs'=bs/\cl'=cl/\r'=r/\res'=res/\z'=z:=by have:=Hl h1 kr;obtain⟨_,_,_,_,_,_,⟨rfl,rfl,rfl,rfl,rfl,rfl⟩,rfl,rfl,rfl,rfl,rfl,rfl⟩:=this;exact⟨rfl,rfl,rfl,rfl,rfl,rfl⟩
 obtain⟨rfl,rfl,rfl,rfl,rfl,rfl⟩:=e;cases res'<;>cases ok<;>simp only at h2 pY<;>(rw[show v=_ from h2,show u=_ from pY])
theorem Hp {T:TypeId} (h:ot P T s x K):∃ v,ot P T s x (λu=>v=u)/\K v:=by
 unfold ot at h;split at h
 .rename_i e1
  split at h
  .rename_i e2;exact⟨_,by unfold ot;simp only[e1,e2];exact⟨h.1,trivial⟩,h.2⟩
  .exact h.elim
 .exact h.elim
theorem Hq (h:nv s x K):∃ v,nv s x (λu=>v=u)/\K v:=by
 unfold nv at h;split at h
 .split at h
  .rename_i e2 e3
   split at h
   .rename_i e4;exact⟨_,by unfold nv;simp only[e2,e3,e4];exact⟨h.1,trivial⟩,h.2⟩
   .exact h.elim
  .exact h.elim
 .exact h.elim
theorem A6 {ts:List TypeId} {E:Option (TypeId×Nat)} {es:List (List C)} (h:nn P ts E es y K):∃ v,nn P ts E es y (λu=>v=u)/\K v:=by
 unfold nn at h;split at h
 .obtain⟨h1,h⟩:=h
  split at h
  .rename_i e3
   split at h
   .rename_i e4
    obtain⟨h2,h⟩:=h;split at h
    .exact⟨_,by unfold nn;simp only[e3,e4];exact⟨h1,h2,h.1,trivial⟩,h.2⟩
    .exact h.elim
   .exact h.elim
  .exact h.elim
 .exact h.elim
theorem Hr {d:Option Tmp} {args:List Operand} {ts:List TypeId} (h:jl P G s d ts args K):∃ v,jl P G s d ts args (λu=>v=u)/\K v:=by
 unfold jl at h;split at h
 .split at h
  .rename_i e1 e2
   obtain⟨h0,h⟩:=h;obtain⟨v,h1,h2⟩:=qB h;exact⟨v,by unfold jl;simp only[e1,e2];exact⟨h0,h1⟩,h2⟩
  .rename_i e1 e2
   obtain⟨h0,h⟩:=h;obtain⟨v,h1,h2⟩:=A6 h;exact⟨v,by unfold jl;simp only[e1,e2];exact⟨h0,h1⟩,h2⟩
  .rename_i e1
   obtain⟨h0,h⟩:=h;obtain⟨v,h1,h2⟩:=A6 h;exact⟨v,by unfold jl;simp only[e1];exact⟨h0,h1⟩,h2⟩
  .exact h.elim
 .exact h.elim
theorem Oo {d:Option Tmp} {args:List Operand} {ts:List TypeId} (h:Er P G s d ts args K):∃ v,Er P G s d ts args (λu=>v=u)/\K v:=False.elim h
theorem Ht (h:VYK P G tr o s K):∃ v,VYK P G tr o s (λu=>v=u)/\K v:=by
 obtain⟨dst,op,type,pos,after,guard⟩:=o;cases op<;>simp only[VYK] at h ⊢<;>try exact h.elim
 case move x=>
  split at h
  .rename_i e;simp only[if_pos e];exact⟨_,rfl,h⟩
  .rename_i e;simp only[if_neg e];exact⟨_,rfl,h⟩
 case assign x=>exact⟨_,rfl,h⟩
 case pick c a b=>
  split at h
  .exact⟨_,rfl,h⟩
  .exact h.elim
 case build T parts=>exact Hj h
 case buildSlice T len parts=>exact nA h
 case load T x=>exact Kg h
 case binOp op T x y yT=>exact Ol h
 case unOp op T x=>exact Rq h
 case convert src dst x=>exact Kh h
 case lookup T x k ok=>exact EZ h
 case range T x=>exact Hp h
 case entry x=>exact Hq h
 case makeFunc f a b=>exact⟨_,⟨h.1,rfl⟩,h.2⟩
 try (case sliceToArrayPointer T x=>exact False.elim h)
 case nilCheck x=>
  split at h
  .exact⟨_,rfl,h⟩
  .exact⟨_,rfl,h⟩
  .exact h.elim
 case slice T x lo hi mx=>exact Hi h
 case fieldAddr T x f=>exact zW h
 case field T x f=>exact Hg h
 case indexAddr T x i=>exact zX h
 case index T x i=>exact Hh h
 case extract x i=>
  split at h
  .split at h
   .exact⟨_,rfl,h⟩
   .exact h.elim
  .exact h.elim
 case call c=>
  obtain⟨callee,args,ts⟩:=c;cases callee with
  |value f=>exact Ki h
  |invoke r m=>exact h.elim
  |builtin b=>
   cases b
   case append=>
    have h':(if AC tr dst then(if yd tr dst then Er P G s dst ts.toList args.toList K else jl P G s dst ts.toList args.toList K) else eH P .append ts.toList (args.toList.map λx=>vw s (ev G s x)) K):=h
    show ∃ v,(if AC tr dst then(if yd tr dst then Er P G s dst ts.toList args.toList (λu=>v=u) else jl P G s dst ts.toList args.toList (λu=>v=u)) else eH P .append ts.toList (args.toList.map λx=>vw s (ev G s x)) (λu=>v=u))/\K v
    by_cases hg:AC tr dst=true
    .rw[if_pos hg] at h';simp only[if_pos hg]
     by_cases GX:yd tr dst=true
     .rw[if_pos GX] at h';simp only[if_pos GX];exact Oo h'
     .rw[if_neg GX] at h';simp only[if_neg GX];exact Hr h'
    .rw[if_neg hg] at h';simp only[if_neg hg];exact qB h'
   all_goals exact qB h
end
section
variable {P:Program} {G:Gl} {tr:List Nat} {s:S} {o:Oper} {x y:V} {ops:Array Oper} {md:Region.Mode}
inductive Ef where
 |v (x:V)
 |al (cs:List V)
 |st (b k:Nat) (ds:List V)
 |gn (bx:Nat->List V) (nb:Nat) (x:V)
 |skip
def Ef.val (nb:Nat):Ef->V
 | .v x=>x
 | .al _=>.bp nb 0
 | .st _ _ _=>.sk
 | .gn _ _ x=>x
 | .skip=>.sk
def Ef.bx (nb:Nat) (bx:Nat->List V):Ef->Nat->List V
 | .al cs=>up bx nb cs
 | .st b k ds=>up bx b (fW (bx b) k ds)
 | .gn bx' _ _=>bx'
 |_=>bx
def Ef.nb (nb:Nat):Ef->Nat
 | .al _=>nb+1
 | .gn _ nb' _=>nb'
 |_=>nb
def Ef.uses:Ef->Bool
 | .skip=>false
 |_=>true
def E4 (u:Bool) (t:Option Tmp) (fr:Nat->V):Nat->V:=match t with
 |some t=>if u&&(fr t).isOw then up fr t .un else fr
 |none=>fr
def Hu (d:Option Tmp) (x:V) (fr:Nat->V):Nat->V:=match d with
 |some d=>up fr d x
 |none=>fr
def Ef.run (tr:List Nat) (o:Oper) (s:S) (e:Ef):S:=⟨Hu o.dst (e.val s.nb) (E4 e.uses (cL tr o) s.fr),e.bx s.nb s.bx,e.nb s.nb⟩
def VEf (P:Program) (G:Gl) (tr:List Nat) (o:Oper) (s:S) (e:Ef):Prop:=
 match o.op with
 | .alloc T=>match ti P T with
  |some { zero:=some z,.. }=>e=.al (z.map mL)
  |_=>False
 | .box _ x=>match(ev G s x).bcells with
  |some cs=>e=.al cs
  |none=>False
 | .store T p x=>qc tr (J0 p) (ev G s p)=true/\match ti P T,ev G s p,(ev G s x).bcells with
  |some i,.bp b k,some cs=>(b<s.nb/\cs.length=i.size/\k+i.size<=(s.bx b).length/\dE (s.bx b)=false)/\e=.st b k cs
  |some i,.c (.ex (.pointer (some ⟨blk,j,none⟩))),_=>False∨abE s.bx s.nb i blk j (ev G s x) (λbx=>e=.gn bx s.nb .sk)
  |_,_,_=>False
 | .buildSlice T len parts=>if nR tr o.dst then ∃ bx nb x,e=.gn bx nb x/\da P T len (parts.toList.map λ(i,x)=>(i,ev G s x)) (AD s.bx s.nb len len λb n u=>(bx=b/\nb=n)/\x=u)
  else ∃ v,e=.v v/\VYK P G tr o s λu=>v=u
 | .makeSlice T l c=>∃ bx nb x,e=.gn bx nb x/\qP P T (ev G s l) (ev G s c) λn m sz z=>(up s.bx s.nb ((List.replicate m z).flatten.map .c)=bx/\s.nb+1=nb)/\V.ms s.nb 0 n m sz=x
 | .call { callee:=.value f,args:=args,.. }=>if wo tr o.dst then ∃ bx nb x,e=.gn bx nb x/\jX P G s.bx s.nb (ev G s f) (args.toList.map (ev G s)) (λb n u=>(bx=b/\nb=n)/\x=u)/\(Cp tr o.dst=true->nb=s.nb/\∀ b,bx b=s.bx b∨(b<100/\tr.contains (500000+o.dst.getD 0*100+b)=true))
  else ∃ v,e=.v v/\VYQ P G tr o s f args λu=>v=u
 | .load _ x=>∃ v,e=.v v/\qc tr o.dst (ev G s x)=true/\VYK P G tr o s λu=>v=u
 | .mapUpdate T m k x=>∃ bx,e=.gn bx s.nb .sk/\iC P T ⟨λ_=>.un,s.bx,s.nb⟩ (ev G s m) (ev G s k) (ev G s x) λs'=>bx=s'.bx
 | .mapEntry T m k=>∃ bx v,e=.gn bx s.nb v/\ga P T ⟨λ_=>.un,s.bx,s.nb⟩ (ev G s m) (ev G s k) λs' u=>bx=s'.bx/\v=u
 | .entryStore _ m n x=>∃ bx,e=.gn bx s.nb .sk/\gA ⟨λ_=>.un,s.bx,s.nb⟩ (ev G s m) (ev G s n) (ev G s x) λs'=>bx=s'.bx
 | .call { callee:=.builtin .copy,args:=args,argTypes:=ts }=>∃ bx v,e=.gn bx s.nb v/\yX P ⟨λ_=>.un,s.bx,s.nb⟩ (λs' u=>bx=s'.bx/\v=u) ts.toList (args.toList.map (ev G s))
 | .call { callee:=.builtin .append,args:=args,argTypes:=ts }=>if nR tr o.dst then False else if AE tr o.dst then ∃ bx v,e=.gn bx s.nb v/\eT P ⟨λ_=>.un,s.bx,s.nb⟩ (λs' u=>bx=s'.bx/\v=u) ts.toList (args.toList.map (ev G s))
  else ∃ v,e=.v v/\VYK P G tr o s λu=>v=u
 | .call { callee:=.builtin .clear,args:=args,argTypes:=ts }=>∃ bx,e=.gn bx s.nb .un/\iQ P ⟨λ_=>.un,s.bx,s.nb⟩ (λs'=>bx=s'.bx) ts.toList (args.toList.map (ev G s))
 |_=>∃ v,e=.v v/\VYK P G tr o s λu=>v=u
theorem Rt {t:Option Tmp}:(s.use t).nb=s.nb:=by
 cases t with
 |none=>rfl
 |some t=>simp only[S.use];split<;>rfl
theorem wF (v:V):(Ef.v v).run tr o s=s.after tr o v:=by
 unfold Ef.run S.after S.use S.put E4 Hu;cases cL tr o with
 |none=>cases o.dst<;>rfl
 |some t=>by_cases h:(s.fr t).isOw=true<;>cases o.dst<;>simp[h,Ef.uses,S.clr,Ef.val,Ef.bx,Ef.nb]
theorem E5 (cs:List V):(Ef.al cs).run tr o s=(let s':=s.use (cL tr o);{ s' with bx:=up s'.bx s'.nb cs,nb:=s'.nb+1 }:S).put o.dst (.bp s.nb 0):=by
 unfold Ef.run S.use S.put E4 Hu;cases cL tr o with
 |none=>cases o.dst<;>rfl
 |some t=>by_cases h:(s.fr t).isOw=true<;>cases o.dst<;>simp[h,Ef.uses,S.clr,Ef.val,Ef.bx,Ef.nb]
theorem Rv (b k:Nat) (ds:List V):(Ef.st b k ds).run tr o s=(let s':=s.use (cL tr o);{ s' with bx:=up s'.bx b (fW (s'.bx b) k ds) }:S).put o.dst .sk:=by
 unfold Ef.run S.use S.put E4 Hu;cases cL tr o with
 |none=>cases o.dst<;>rfl
 |some t=>by_cases h:(s.fr t).isOw=true<;>cases o.dst<;>simp[h,Ef.uses,S.clr,Ef.val,Ef.bx,Ef.nb]
theorem jY (bx:Nat->List V) (nb:Nat) (x:V):(Ef.gn bx nb x).run tr o s=(let s':=s.use (cL tr o);{ s' with bx:=bx,nb:=nb }:S).put o.dst x:=by
 unfold Ef.run S.use S.put E4 Hu;cases cL tr o with
 |none=>cases o.dst<;>rfl
 |some t=>by_cases h:(s.fr t).isOw=true<;>cases o.dst<;>simp[h,Ef.uses,S.clr,Ef.val,Ef.bx,Ef.nb]
theorem tp {T:TypeId} {len:Nat} {parts:List (Nat×V)} {v:V} {K:V->Prop} (h:da P T len parts (λu=>v=u)) (hk:∀ u,v=u->K u):da P T len parts K:=by
 unfold da at h;split at h
 .rename_i e1
  split at h
  .rename_i e2
   obtain⟨h0,h⟩:=h;split at h
   .rename_i e3
    unfold da;simp only[e1,e2,e3];exact⟨h0,hk _ h⟩
   .exact h.elim
  .exact h.elim
 .exact h.elim
theorem Hv {f:V} {args:List V} {K:V->Prop} (h:mc P G s f args K):∃ v,mc P G s f args (λu=>v=u)/\K v:=by
 unfold mc at h;split at h
 .rename_i g all hc
  obtain⟨ρ,cargs,b0,r,h1,h2,h3,h4,h5,h6⟩:=h;exact⟨r,by unfold mc;simp only[hc];exact⟨ρ,cargs,b0,r,h1,h2,h3,h4,h5,rfl⟩,h6⟩
 .exact h.elim
theorem Db {s s':S} {ρ:Nat->Nat} (hn:s.nb<=s'.nb) (hb:∀ i,i<s.nb->s'.bx i=s.bx i):∀ (b:List (List V)) (i:Nat),pV s.bx s.nb ρ i b->pV s'.bx s'.nb ρ i b
 |[],_,_=>trivial
 |x::r,i,h=>⟨⟨co h.1.1 hn,by rw[hb _ h.1.1];exact h.1.2⟩,Db hn hb r (i+1) h.2⟩
theorem y8 {s s':S} {f:V} {args:List V} {K:V->Prop} (hn:s.nb<=s'.nb) (hb:∀ i,i<s.nb->s'.bx i=s.bx i) (h:mc P G s f args K):mc P G s' f args K:=by
 unfold mc at h ⊢
 split at h
 .rename_i g all hc
  obtain⟨ρ,cargs,b0,r,h1,h2,h3,h4,h5,h6⟩:=h;exact⟨ρ,cargs,b0,r,h1,h2,h3,λN=>Db hn hb _ _ (h4 N),h5,h6⟩
 .exact h.elim
theorem Oq {bx:Nat->List V} {nb:Nat} {f:V} {l:List V} {K K':(Nat->List V)->Nat->V->Prop} (h:jX P G bx nb f l K) (hk:∀ b n u,K b n u->K' b n u):jX P G bx nb f l K':=by
 unfold jX at h;split at h
 .rename_i e1
  unfold jX;simp only[e1];obtain⟨ρ,cargs,b0,r,b1,h1,h2,h3,h4,h5⟩:=h;exact⟨ρ,cargs,b0,r,b1,h1,h2,h3,h4,hk _ _ _ h5⟩
 .exact h.elim
theorem Hw {T:TypeId} {l c:V} {K K':Nat->Nat->Nat->List C->Prop} (h:qP P T l c K) (hk:∀ n m sz z,K n m sz z->K' n m sz z):qP P T l c K':=by
 unfold qP at h;split at h
 .rename_i e1
  split at h
  .rename_i e2
   unfold qP;simp only[e1,e2];exact⟨h.1,hk _ _ _ _ h.2⟩
  .exact h.elim
 .exact h.elim
theorem tq:Ef.skip.run tr o s=s.put o.dst .sk:=by unfold Ef.run S.put E4 Hu;cases cL tr o<;>cases o.dst<;>simp[Ef.uses,Ef.val,Ef.bx,Ef.nb]
theorem VStep.ef {K:S->Prop} (xT:lL tr o=false) (h:VStep P G tr o s K):∃ e,e≠.skip/\VEf P G tr o s e/\K (e.run tr o s):=by
 have gen:VYK P G tr o s (λv=>K (s.after tr o v))->(∀ e,VEf P G tr o s e↔∃ v,e=.v v/\VYK P G tr o s λu=>v=u)->∃ e,e≠.skip/\VEf P G tr o s e/\K (e.run tr o s):=λh hV=>by obtain⟨v,h1,h2⟩:=Ht h;exact⟨.v v,by simp,(hV _).2 ⟨v,rfl,h1⟩,by rw[wF];exact h2⟩
 unfold VStep at h;split at h
 .rename_i T cC
  split at h
  .rename_i z _ _ hi
   refine⟨.al (z.map mL),by simp,by unfold VEf;rw[cC];simp only[hi],?_⟩;rw[E5];have:cL tr o=none:=(by simp[cL,cC]);rw[this];exact h
  .exact h.elim
 .rename_i T X cC
  split at h
  .rename_i cs hi
   refine⟨.al cs,by simp,by unfold VEf;rw[cC];simp only[hi],?_⟩;rw[E5];exact h
  .exact h.elim
 .rename_i T p X cC
  obtain⟨mH,h⟩:=h;split at h
  .rename_i i b k cs h1 h2 h3
   obtain⟨h4,h⟩:=h;refine⟨.st b k cs,by simp,by unfold VEf;rw[cC];simp only[h1,h2,h3];rw[h2] at mH;exact⟨mH,h4,trivial⟩,?_⟩;rw[Rv];exact h
  .rename_i i blk j h1 h2
   rcases h with h | ⟨b,k,len,cap,q,E,es,cs,h4,h⟩
   rotate_left
   .refine⟨.gn (up s.bx b ((s.bx b).set k (.gg (.slice (some ⟨blk,0,none⟩) len cap) (some (E,i.size)) (es.set q cs)))) s.nb .sk,by simp,by unfold VEf;rw[cC];simp only[h1,h2];rw[h2] at mH;exact⟨mH,.inr ⟨b,k,len,cap,q,E,es,cs,h4,rfl⟩⟩,?_⟩
    rw[jY];have e:∀ bx,({ s.use (cL tr o) with bx:=bx,nb:=s.nb }:S)={ s.use (cL tr o) with bx:=bx }:=λbx=>by rw[<- Rt (s:=s) (t:=cL tr o)]
    show K (({ s.use (cL tr o) with bx:=_,nb:=s.nb }:S).put o.dst .sk)
    rw[e];exact h
   exact h.elim
  .exact h.elim
 .rename_i T len parts cC
  split at h
  .rename_i hn
   obtain⟨v,h1,h2⟩:=nA h;obtain⟨bx,nb,x,h3,h4⟩:=A2 h2;refine⟨.gn bx nb x,by simp,?_,?_⟩
   .unfold VEf;rw[cC];simp only[hn,bY]
    refine⟨bx,nb,x,rfl,?_⟩;refine tp h1 λu hu=>?_;subst hu;exact h3
   .rw[jY]
    have:cL tr o=none:=(by simp[cL,cC]);rw[this];exact h4
  .rename_i hn
   have hb:Q2 tr o.dst=false:=(by simpa[lL,cC] using xT);simp only[hb,ay,cD] at h;refine gen h λe=>?_;unfold VEf;rw[cC];simp only[if_neg hn]
 .rename_i T l c cC
  obtain⟨p,m,sz,z,h1,h2⟩:=Kj h;refine⟨.gn (up s.bx s.nb ((List.replicate m z).flatten.map .c)) (s.nb+1) (.ms s.nb 0 p m sz),by simp,?_,?_⟩
  .unfold VEf;rw[cC]
   refine⟨_,_,_,rfl,?_⟩;refine Hw h1 λn' m' sz' z' hh=>?_;obtain⟨rfl,rfl,rfl,rfl⟩:=hh;exact⟨⟨rfl,rfl⟩,rfl⟩
  .rw[jY]
   have:cL tr o=none:=(by simp[cL,cC]);rw[this];exact h2
 .rename_i f args ts cC
  have hye:JX tr o.dst=false/\QW tr o.dst=false:=by simpa[lL,cC] using xT
  have hy:=hye.1;have hef:=hye.2;simp only[hy,hef,ay,cD] at h;split at h
  .rename_i hn
   obtain⟨bx,nb,x,h3,h4⟩:=Hk h;have h5:(Cp tr o.dst=true->abD tr o.dst s ⟨s.fr,bx,nb⟩)/\K ((⟨s.fr,bx,nb⟩:S).put o.dst x):=by
    by_cases hl:Cp tr o.dst=true
    .rw[if_pos hl] at h4;exact⟨λ_=>h4.1,h4.2⟩
    .rw[if_neg hl] at h4;exact⟨λh=>absurd h hl,h4⟩
   refine⟨.gn bx nb x,by simp,?_,?_⟩
   .unfold VEf;rw[cC];simp only[hn,bY]
    exact⟨bx,nb,x,rfl,h3,h5.1⟩
   .rw[jY]
    have:cL tr o=none:=(by simp[cL,cC]);rw[this];exact h5.2
  .rename_i hn
   by_cases NZ:N3 tr o.dst=true
   .unfold VYQ at h;rw[if_pos NZ] at h
    obtain⟨v,h1,h2⟩:=Hv h;exact⟨.v v,by simp,by unfold VEf;rw[cC];simp only[if_neg hn];exact⟨v,rfl,by unfold VYQ;rw[if_pos NZ];exact h1⟩,by rw[wF];exact h2⟩
   .unfold VYQ at h;rw[if_neg NZ] at h
    refine gen h λe=>?_;unfold VEf;rw[cC];simp only[if_neg hn,VYQ,if_neg NZ]
 .rename_i args ts cC
  have hn:nR tr o.dst=false:=by simpa[lL,cC] using xT
  simp only[hn,ay,cD] at h;split at h
  .rename_i hr
   have hu:=wE (tr:=tr) cC h;obtain⟨bx,v,h1,h2⟩:=Cw h;refine⟨.gn bx s.nb v,by simp,by unfold VEf;rw[cC];simp only[hn,hr,ay,cD,bY];exact⟨bx,v,rfl,h1⟩,?_⟩;rw[jY,hu];exact h2
  .rename_i hr
   refine gen h λe=>?_;unfold VEf;rw[cC];simp only[hn,ay,cD,if_neg hr]
 .rename_i args ts cC
  obtain⟨bx,v,h1,h2⟩:=Kk h;refine⟨.gn bx s.nb v,by simp,by unfold VEf;rw[cC];exact⟨bx,v,rfl,h1⟩,?_⟩;have:cL tr o=none:=by simp[cL,cC]
  rw[jY,this];exact h2
 .rename_i args ts cC
  obtain⟨bx,h1,h2⟩:=Hm h;refine⟨.gn bx s.nb .un,by simp,by unfold VEf;rw[cC];exact⟨bx,rfl,h1⟩,?_⟩;have:cL tr o=none:=by simp[cL,cC]
  rw[jY,this];exact h2
 .rename_i args ts cC
  have hn:Q3 tr o.dst=false:=by simpa[lL,cC] using xT
  simp only[hn,ay,cD] at h;refine gen h λe=>?_;unfold VEf;rw[cC]
 .rename_i src dst X cC
  have hn:nR tr o.dst=false:=by simpa[lL,cC] using xT
  simp only[hn,ay,cD] at h;refine gen h λe=>?_;unfold VEf;rw[cC]
 .rename_i op T X Y yT cC
  have hn:Ak Y=false:=by simpa[lL,cC] using xT
  simp only[hn,ay,cD] at h;refine gen h λe=>?_;unfold VEf;rw[cC]
 .rename_i T X cC
  have hn:isZ tr o.dst=false:=by simpa[lL,cC] using xT
  simp only[hn,ay,cD] at h;obtain⟨mH,h⟩:=h;obtain⟨v,h1,h2⟩:=Ht h;exact⟨.v v,by simp,by unfold VEf;rw[cC];exact⟨v,rfl,mH,h1⟩,by rw[wF];exact h2⟩
 .rename_i T parts cC
  have hn:isZ tr o.dst=false:=by simpa[lL,cC] using xT
  simp only[hn,ay,cD] at h;refine gen h λe=>?_;unfold VEf;rw[cC]
 .rename_i cC;simp[lL,cC] at xT
 .rename_i T m k X cC
  obtain⟨bx,h1,h2⟩:=EX h;refine⟨.gn bx s.nb .sk,by simp,by unfold VEf;rw[cC];exact⟨bx,rfl,h1⟩,?_⟩;have:cL tr o=none:=by simp[cL,cC]
  rw[jY,this];exact h2
 .rename_i T m k cC
  obtain⟨bx,v,h1,h2⟩:=A3 h;refine⟨.gn bx s.nb v,by simp,by unfold VEf;rw[cC];exact⟨bx,v,rfl,h1⟩,?_⟩;have:cL tr o=none:=by simp[cL,cC]
  rw[jY,this];exact h2
 .rename_i T m k X cC
  obtain⟨bx,h1,h2⟩:=A4 h;refine⟨.gn bx s.nb .sk,by simp,by unfold VEf;rw[cC];exact⟨bx,rfl,h1⟩,?_⟩;have:cL tr o=none:=by simp[cL,cC]
  rw[jY,this];exact h2
 .rename_i cC;simp[lL,cC] at xT
 .rename_i cC;simp[lL,cC] at xT
 .rename_i n1 n2 n3 n4 n5 n6 n7 n8 n9 n10 n11 n12 n13 n14 n15 n16 n17 n18 n19 n20
  refine gen h λe=>?_;unfold VEf;split
  .rename_i cC;exact absurd cC (n1 _)
  .rename_i cC;exact absurd cC (n2 _ _)
  .rename_i cC;exact absurd cC (n3 _ _ _)
  .rename_i cC;exact absurd cC (n4 _ _ _)
  .rename_i cC;exact absurd cC (n5 _ _ _)
  .rename_i cC;exact absurd cC (n6 _ _ _)
  .rename_i cC;exact absurd cC (n13 _ _)
  .rename_i cC;exact absurd cC (n16 _ _ _ _)
  .rename_i cC;exact absurd cC (n17 _ _ _)
  .rename_i cC;exact absurd cC (n18 _ _ _ _)
  .rename_i cC;exact absurd cC (n8 _ _)
  .rename_i cC;exact absurd cC (n7 _ _)
  .rename_i cC;exact absurd cC (n9 _ _)
  .exact Iff.rfl
variable {n:Nat} {I0:Ft} {M:Mx} {w0:World} {I:Ft} {β:Nat->Option Nat} {ob:Loc->Option Nat} {a:Act} {w:World} {next:Act->World->Prop} {Q:Exit->Act->World->Prop}
theorem ux {e:Ef} (hst:St G n I0 M w0 I β ob s a w) (hd:∀ d,o.dst=some d->d<n) (h:VEf P G tr o s e)
 (hk:∀ a' w',SE G n I0 M w0 (e.run tr o s) a' w'->next a' w'):o.wp P a w next Q:=by
 have viaStep:qy tr o=false->VStep P G tr o s (λs'=>e.run tr o s=s')->o.wp P a w next Q:=λhy h=>
  nY (tr:=tr) hst hd hy h (λa' w' s' hs cM=>hk a' w' (by rw[hs];exact cM))
 unfold VEf at h;split at h
 .rename_i T cC
  split at h
  .rename_i z _ _ hi
   subst h;refine viaStep (by simp[qy,cC]) ?_;unfold VStep;rw[cC];simp only[hi];rw[E5];have:cL tr o=none:=(by simp[cL,cC]);rw[this];rfl
  .exact h.elim
 .rename_i T X cC
  split at h
  .rename_i cs hi
   subst h;refine viaStep (by simp[qy,cC]) ?_;unfold VStep;rw[cC];simp only[hi];rw[E5]
  .exact h.elim
 .rename_i T p X cC
  obtain⟨mH,h⟩:=h;split at h
  .rename_i i b k cs h1 h2 h3
   obtain⟨h4,rfl⟩:=h;refine viaStep (by simp[qy,cC]) ?_;unfold VStep;rw[cC];simp only[h1,h2,h3];rw[Rv];rw[h2] at mH;exact⟨mH,h4,rfl⟩
  .rename_i i blk j h1 h2
   rcases h with h | ⟨b,k,len,cap,q,E,es,cs,h4,rfl⟩
   rotate_left
   .refine viaStep (by simp[qy,cC]) ?_
    unfold VStep;rw[cC];simp only[h1,h2];rw[jY];rw[h2] at mH;refine⟨mH,.inr ⟨b,k,len,cap,q,E,es,cs,h4,?_⟩⟩;have e:∀ bx,({ s.use (cL tr o) with bx:=bx,nb:=s.nb }:S)={ s.use (cL tr o) with bx:=bx }:=λbx=>by rw[<- Rt (s:=s) (t:=cL tr o)]
    show({ s.use (cL tr o) with bx:=_,nb:=s.nb }:S).put o.dst .sk=_
    rw[e]
   exact h.elim
  .exact h.elim
 .rename_i T len parts cC
  split at h
  .rename_i hn
   obtain⟨bx,nb,x,rfl,h⟩:=h;refine viaStep (by simp[qy,cC]) ?_;unfold VStep;rw[cC];simp only[hn,bY];have:cL tr o=none:=(by simp[cL,cC]);rw[jY,this];obtain⟨v,h1,h2⟩:=nA h;refine tp h1 λu hu=>?_;subst hu;obtain⟨b,n,y,h3,⟨rfl,rfl⟩,rfl⟩:=A2 h2;unfold QY;unfold AD at h3 ⊢
   split at h3
   .obtain⟨⟨rfl,rfl⟩,rfl⟩:=h3;rfl
   .exact h3.elim
  .rename_i hn
   obtain⟨v,rfl,h⟩:=h;exact o6 (tr:=tr) hst hd h (λa' w' x hx cM=>hk a' w' (by rw[wF];subst hx;exact cM))
 .rename_i T l c cC
  obtain⟨bx,nb,x,rfl,h⟩:=h;refine viaStep (by simp[qy,cC]) ?_;unfold VStep;rw[cC];have:cL tr o=none:=by simp[cL,cC]
  rw[jY,this];refine Hw h λn m sz z hh=>?_;obtain⟨⟨rfl,rfl⟩,rfl⟩:=hh;rfl
 .rename_i f args ts cC
  split at h
  .rename_i hn
   obtain⟨bx,nb,x,rfl,h,hlc⟩:=h;have hc:cL tr o=none:=(by simp[cL,cC]);refine rE (K:=λs' u=>s'.put o.dst u=(Ef.gn bx nb x).run tr o s) cC hst hd ?_ (λa' w' s' u hK cM=>hk a' w' (by rw[<- hK];exact cM));unfold vcallB;refine Oq h λb n u hh=>?_;obtain⟨⟨rfl,rfl⟩,rfl⟩:=hh;rw[jY,hc];rfl
  .rename_i hn
   obtain⟨v,rfl,h⟩:=h;exact C9 (tr:=tr) cC hst hd h (λa' w' x hx cM=>hk a' w' (by rw[wF];subst hx;exact cM))
 .obtain⟨v,rfl,_,h⟩:=h
  exact o6 (tr:=tr) hst hd h (λa' w' x hx cM=>hk a' w' (by rw[wF];subst hx;exact cM))
 .rename_i T m k X cC
  obtain⟨bx,rfl,h⟩:=h;refine viaStep (by simp[qy,cC]) ?_;have:cL tr o=none:=by simp[cL,cC]
  rw[jY,this];unfold VStep;rw[cC];exact On (EY h) λs' e=>by rw[<- e];rfl
 .rename_i T m k cC
  obtain⟨bx,v,rfl,h⟩:=h;refine viaStep (by simp[qy,cC]) ?_;have:cL tr o=none:=by simp[cL,cC]
  rw[jY,this];unfold VStep;rw[cC];exact tj (pq h) λs' u e=>by rw[<- e.1,<- e.2];rfl
 .rename_i T m k X cC
  obtain⟨bx,rfl,h⟩:=h;refine viaStep (by simp[qy,cC]) ?_;have:cL tr o=none:=by simp[cL,cC]
  rw[jY,this];unfold VStep;rw[cC];exact Ho (A5 h) λs' e=>by rw[<- e];rfl
 .rename_i args ts cC
  obtain⟨bx,v,rfl,h⟩:=h;refine viaStep (by simp[qy,cC]) ?_;have:cL tr o=none:=by simp[cL,cC]
  rw[jY,this];unfold VStep;rw[cC];exact W7 (Kl h) λs' u e=>by rw[<- e.1,<- e.2];rfl
 .rename_i args ts cC
  split at h
  .exact h.elim
  rename_i hn;split at h
  .rename_i hr
   obtain⟨bx,v,rfl,h⟩:=h;refine viaStep (by simp[qy,cC]) ?_;rw[jY,wE (tr:=tr) cC h];unfold VStep;rw[cC];simp only[hn,hr,bY,cD,ay];refine Km (Cx h) (λs' u e=>?_);rw[<- e.1,<- e.2]
  .obtain⟨v,rfl,h⟩:=h
   exact o6 (tr:=tr) hst hd h (λa' w' x hx cM=>hk a' w' (by rw[wF];subst hx;exact cM))
 .rename_i args ts cC
  obtain⟨bx,rfl,h⟩:=h;refine viaStep (by simp[qy,cC]) ?_;have:cL tr o=none:=by simp[cL,cC]
  rw[jY,this];unfold VStep;rw[cC];exact Rr (Hn h) λs' e=>by rw[<- e];rfl
 .obtain⟨v,rfl,h⟩:=h
  exact o6 (tr:=tr) hst hd h (λa' w' x hx cM=>hk a' w' (by rw[wF];subst hx;exact cM))
def dK (tr:List Nat) (o:Oper):Nat:=
 match o.op with
 | .call { callee:=.builtin .copy,.. }=>2
 | .call { callee:=.builtin .clear,.. }=>2
 | .load _ _ | .convert _ _ _ | .lookup _ _ _ _ | .range _ _ | .entry _=>1
 | .call { callee:=.builtin .append,.. }=>if AE tr o.dst then 2 else 1
 | .call { callee:=.value _,.. }=>if wo tr o.dst then 2 else 1
 | .buildSlice _ _ _=>if nR tr o.dst then 2 else 0
 | .alloc _ | .box _ _ | .store _ _ _ | .makeSlice _ _ _ | .mapUpdate _ _ _ _ | .mapEntry _ _ _ | .entryStore _ _ _ _=>2
 |_=>0
theorem A7 {s':S} {x:Operand} (h:∀ t,x=.tmp t->s.fr t=s'.fr t):ev G s x=ev G s' x:=by cases x<;>simp only[ev];exact h _ rfl
theorem W8 {s':S} (hb:s.bx=s'.bx) (hn:s.nb=s'.nb):imm s=imm s':=by obtain⟨fr,bx,nb⟩:=s;obtain⟨fr',bx',nb'⟩:=s';simp only at hb hn;subst hb;subst hn;funext x;cases x<;>rfl
theorem Ko {s':S} (hb:s.bx=s'.bx) (hn:s.nb=s'.nb):vw s=vw s':=by obtain⟨fr,bx,nb⟩:=s;obtain⟨fr',bx',nb'⟩:=s';simp only at hb hn;subst hb;subst hn;funext x;cases x<;>rfl
theorem qS {s':S} {K:V->Prop} (Ch:∀ d,o.dst=some d->s.fr d=s'.fr d) (he:∀ x∈o.op.operands,ev G s x=ev G s' x) (hm:dK tr o≠0->s.bx=s'.bx/\s.nb=s'.nb) (h:VYK P G tr o s K):VYK P G tr o s' K:=by
 have marr:∀ l:Array Operand,(∀ x∈l,ev G s x=ev G s' x)->l.toList.map (ev G s)=l.toList.map (ev G s'):=λl hl=>cF λx hx=>hl x (by simpa using hx);have mopt:∀ l:Option Operand,(∀ x,l=some x->ev G s x=ev G s' x)->l.map (ev G s)=l.map (ev G s'):=λl hl=>by cases l with
  |none=>rfl
  |some x=>simp only[bQ,hl x rfl]
 obtain⟨dst,op,type,pos,after,guard⟩:=o;cases op<;>simp only[VYK] at h ⊢<;>try exact h
 case move x=>rw[<- he x (by simp[Op.operands])];exact h
 case assign x=>rw[<- he x (by simp[Op.operands])];exact h
 case pick c a b=>rw[<- he c (by simp[Op.operands]),<- he a (by simp[Op.operands]),<- he b (by simp[Op.operands])];exact h
 case build T parts=>
  have:(parts.toList.map λ(i,x)=>(i,ev G s' x))=parts.toList.map λ(i,x)=>(i,ev G s x):=cF λp hp=>by obtain⟨i,x⟩:=p;simp only[he x (by simp only[Op.operands,gj,ce];exact⟨(i,x),hp,rfl⟩)]
  rw[this];exact h
 case buildSlice T len parts=>
  have:(parts.toList.map λ(i,x)=>(i,ev G s' x))=parts.toList.map λ(i,x)=>(i,ev G s x):=cF λp hp=>by obtain⟨i,x⟩:=p;simp only[he x (by simp only[Op.operands,gj,ce];exact⟨(i,x),hp,rfl⟩)]
  rw[this];exact h
 case load T x=>
  obtain⟨h1,h2⟩:=hm (by simp[dK]);rw[<- he x (by simp[Op.operands])];unfold dJ at h ⊢
  rw[<- h1,<- h2];exact h
 case lookup T x k ok=>
  obtain⟨h1,h2⟩:=hm (by simp[dK]);rw[<- he x (by simp[Op.operands]),<- he k (by simp[Op.operands])];unfold fV iP at h ⊢
  rw[<- h1,<- h2];exact h
 case range T x=>
  obtain⟨h1,h2⟩:=hm (by simp[dK]);rw[<- he x (by simp[Op.operands])];unfold ot at h ⊢
  rw[<- h1,<- h2];exact h
 case entry x=>
  obtain⟨h1,h2⟩:=hm (by simp[dK]);rw[<- he x (by simp[Op.operands])];unfold nv at h ⊢
  rw[<- h1,<- h2];exact h
 case binOp op T x y yT=>rw[<- he x (by simp[Op.operands]),<- he y (by simp[Op.operands])];exact h
 case unOp op T x=>rw[<- he x (by simp[Op.operands])];exact h
 case convert src dst x=>obtain⟨h1,h2⟩:=hm (by simp[dK]);rw[<- he x (by simp[Op.operands]),<- Ko h1 h2];exact h
 case makeFunc f a b=>rw[<- marr a λx hx=>he x (by simp[Op.operands,hx]),<- marr b λx hx=>he x (by simp[Op.operands,hx])];exact h
 try (case sliceToArrayPointer T x=>exact False.elim h)
 case nilCheck x=>rw[<- he x (by simp[Op.operands])];exact h
 case slice T x lo hi mx=>rw[<- he x (by simp[Op.operands]),<- mopt lo λx hx=>he x (by simp[Op.operands,hx]),<- mopt hi λx hx=>he x (by simp[Op.operands,hx]),<- mopt mx λx hx=>he x (by simp[Op.operands,hx])];exact h
 case fieldAddr T x f=>rw[<- he x (by simp[Op.operands])];exact h
 case field T x f=>rw[<- he x (by simp[Op.operands])];exact h
 case indexAddr T x i=>rw[<- he x (by simp[Op.operands]),<- he i (by simp[Op.operands])];exact h
 case index T x i=>rw[<- he x (by simp[Op.operands]),<- he i (by simp[Op.operands])];exact h
 case extract x i=>rw[<- he x (by simp[Op.operands])];exact h
 case call c=>
  obtain⟨callee,args,ts⟩:=c;cases callee with
  |value f=>
   simp only at h ⊢
   obtain⟨h1,h2⟩:=hm (by simp only[dK];split<;>simp);rw[<- he f (by simp[Op.operands,Call.operands]),<- marr args λx hx=>he x (by simp[Op.operands,Call.operands,hx])];unfold qO at h ⊢
   rw[<- W8 h1 h2];exact h
  |invoke r m=>exact h
  |builtin b=>
   cases b
   case append=>
    simp only at h ⊢
    obtain⟨h1,h2⟩:=hm (by simp only[dK];split<;>simp);have:(args.toList.map λx=>vw s' (ev G s' x))=args.toList.map λx=>vw s (ev G s x):=cF λx hx=>by rw[Ko h1 h2,he x (by simp only[Op.operands,Call.operands];simpa using hx)]
    rw[this];split at h
    .rename_i hg
     rw[if_pos hg];split at h
     .rename_i GX
      rw[if_pos GX];exact False.elim h
     .rename_i GX
      rw[if_neg GX];unfold jl at h ⊢
      split at h
      .rename_i t y d ha
       have ht:s.fr t=s'.fr t:=(by have:=he (.tmp t) (by simp only[Op.operands,Call.operands];rw[jq];exact dA.1 (by rw[ha];simp));simpa[ev] using this);have hy:ev G s y=ev G s' y:=he y (by simp only[Op.operands,Call.operands];rw[jq];exact dA.1 (by rw[ha];simp));rw[<- ht,<- Ch d rfl,<- hy,<- Ko h1 h2];exact h
      .exact h.elim
    .rename_i hg
     rw[if_neg hg];exact h
   all_goals
    simp only at h ⊢
    rw[<- marr args λx hx=>he x (by simp[Op.operands,Call.operands,hx])];exact h
theorem Ot {s':S} {e:Ef} (Ch:∀ d,o.dst=some d->s.fr d=s'.fr d) (he:∀ x∈o.op.operands,ev G s x=ev G s' x) (hm:dK tr o≠0->s.bx=s'.bx/\s.nb=s'.nb) (h:VEf P G tr o s e):VEf P G tr o s' e:=by
 unfold VEf at h ⊢
 split at h
 .exact h
 .rename_i T X cC
  rw[<- he X (by rw[cC];simp[Op.operands])];exact h
 .rename_i T p X cC
  obtain⟨h1,h2⟩:=hm (by simp[dK,cC]);rw[<- he p (by rw[cC];simp[Op.operands]),<- he X (by rw[cC];simp[Op.operands]),<- h1,<- h2];exact h
 .rename_i T len parts cC
  have:(parts.toList.map λ(i,x)=>(i,ev G s' x))=parts.toList.map λ(i,x)=>(i,ev G s x):=cF λp hp=>by obtain⟨i,x⟩:=p;simp only[he x (by rw[cC];simp only[Op.operands,gj,ce];exact⟨(i,x),hp,rfl⟩)]
  split at h
  .rename_i hn
   rw[if_pos hn];obtain⟨h1,h2⟩:=hm (by simp[dK,cC,hn]);rw[this,<- h1,<- h2];exact h
  .rename_i hn
   rw[if_neg hn];obtain⟨v,h1,h2⟩:=h;exact⟨v,h1,qS Ch he hm h2⟩
 .rename_i T l c cC
  obtain⟨h1,h2⟩:=hm (by simp[dK,cC]);rw[<- he l (by rw[cC];simp[Op.operands]),<- he c (by rw[cC];simp[Op.operands]),<- h1,<- h2];exact h
 .rename_i f args ts cC
  split at h
  .rename_i hn
   rw[if_pos hn];obtain⟨h1,h2⟩:=hm (by simp[dK,cC,hn]);have:args.toList.map (ev G s)=args.toList.map (ev G s'):=cF λx hx=>he x (by rw[cC];simp only[Op.operands,Call.operands];simp at hx;simp[hx]);rw[<- he f (by rw[cC];simp[Op.operands,Call.operands]),<- this,<- h1,<- h2];exact h
  .rename_i hn
   rw[if_neg hn];obtain⟨v,h1,h2⟩:=h;refine⟨v,h1,?_⟩;unfold VYQ at h2 ⊢
   split
   .rename_i NZ
    rw[if_pos NZ] at h2;obtain⟨q1,q2⟩:=hm (by simp[dK,cC,hn]);have:args.toList.map (ev G s)=args.toList.map (ev G s'):=cF λx hx=>he x (by rw[cC];simp only[Op.operands,Call.operands];simp at hx;simp[hx]);rw[<- he f (by rw[cC];simp[Op.operands,Call.operands]),<- this];exact y8 (Nat.le_of_eq q2) (λi _=>by rw[q1]) h2
   .rename_i NZ
    rw[if_neg NZ] at h2;exact qS Ch he hm h2
 .rename_i T X cC
  obtain⟨v,h1,mH,h2⟩:=h;exact⟨v,h1,by rw[<- he X (by rw[cC];simp[Op.operands])];exact mH,qS Ch he hm h2⟩
 .rename_i T m k X cC
  obtain⟨h1,h2⟩:=hm (by simp[dK,cC]);rw[<- he m (by rw[cC];simp[Op.operands]),<- he k (by rw[cC];simp[Op.operands]),<- he X (by rw[cC];simp[Op.operands]),<- h1,<- h2];exact h
 .rename_i T m k cC
  obtain⟨h1,h2⟩:=hm (by simp[dK,cC]);rw[<- he m (by rw[cC];simp[Op.operands]),<- he k (by rw[cC];simp[Op.operands]),<- h1,<- h2];exact h
 .rename_i T m k X cC
  obtain⟨h1,h2⟩:=hm (by simp[dK,cC]);rw[<- he m (by rw[cC];simp[Op.operands]),<- he k (by rw[cC];simp[Op.operands]),<- he X (by rw[cC];simp[Op.operands]),<- h1,<- h2];exact h
 .rename_i args ts cC
  obtain⟨h1,h2⟩:=hm (by simp[dK,cC]);have:args.toList.map (ev G s)=args.toList.map (ev G s'):=cF λx hx=>he x (by rw[cC];simp only[Op.operands,Call.operands];simpa using hx);rw[<- this,<- h1,<- h2];exact h
 .rename_i args ts cC
  split at h
  .exact h.elim
  rename_i hn;rw[if_neg hn];split at h
  .rename_i hr
   rw[if_pos hr];obtain⟨h1,h2⟩:=hm (by simp[dK,cC,hr]);have:args.toList.map (ev G s)=args.toList.map (ev G s'):=cF λx hx=>he x (by rw[cC];simp only[Op.operands,Call.operands];simpa using hx);rw[<- this,<- h1,<- h2];exact h
  .rename_i hr
   rw[if_neg hr];obtain⟨v,h1,h2⟩:=h;exact⟨v,h1,qS Ch he hm h2⟩
 .rename_i args ts cC
  obtain⟨h1,h2⟩:=hm (by simp[dK,cC]);have:args.toList.map (ev G s)=args.toList.map (ev G s'):=cF λx hx=>he x (by rw[cC];simp only[Op.operands,Call.operands];simpa using hx);rw[<- this,<- h1,<- h2];exact h
 .obtain⟨v,h1,h2⟩:=h
  exact⟨v,h1,qS Ch he hm h2⟩
def uW (ops:Array Oper) (o:Oper) (s:S):Option Bool:=
 match o.guard with
 |none=>some true
 |some (j,want)=>match(ops[j]?).bind (·.dst) with
  |some d=>match s.fr d with
   | .c (.lit (.bool p))=>some (p==want)
   | .sk=>some false
   |_=>none
  |none=>none
def TEf (P:Program) (G:Gl) (tr:List Nat) (ops:Array Oper) (o:Oper) (s:S) (e:Ef):Prop:=
 (uW ops o s=some true/\VEf P G tr o s e/\e≠.skip)∨(uW ops o s=some false/\e=.skip)
theorem gw {K:S->Prop} (xT:lL tr o=false) (h:nw ops o s (λs=>VStep P G tr o s K) (λs=>K (s.put o.dst .sk))):∃ e,TEf P G tr ops o s e/\K (e.run tr o s):=by
 unfold nw at h;have yes:uW ops o s=some true->VStep P G tr o s K->∃ e,TEf P G tr ops o s e/\K (e.run tr o s):=λhg hv=>by obtain⟨e,h1,h2,h3⟩:=hv.ef xT;exact⟨e,.inl ⟨hg,h2,h1⟩,h3⟩
 have no:uW ops o s=some false->K (s.put o.dst .sk)->∃ e,TEf P G tr ops o s e/\K (e.run tr o s):=λhg hv=>⟨.skip,.inr ⟨hg,rfl⟩,by rw[tq];exact hv⟩;split at h
 .rename_i hg
  exact yes (by unfold uW;rw[hg]) h
 .rename_i j want hg
  split at h
  .rename_i d hd
   split at h
   .rename_i p hp
    by_cases hpw:p=want
    .subst hpw
     have:=h.1 rfl;rw[S.up_id hp] at this;exact yes (by unfold uW;simp only[hg,hd,hp,beq_self_eq_true]) this
    .have GO:p=!want:=by cases p<;>cases want<;>simp_all
     have:=h.2 GO;rw[<- GO,S.up_id hp] at this;exact no (by unfold uW;simp only[hg,hd,hp];simpa using hpw) this
   .rename_i hp
    exact no (by unfold uW;simp only[hg,hd,hp]) h
   .exact h.elim
  .exact h.elim
theorem kj (hst:St G n I0 M w0 I β ob s a w) {p:Bool} (h:uW ops o s=some p):Region.wanted o (yielded ops a.tmps)=p:=by
 unfold uW at h;unfold Region.wanted;split at h
 .rename_i hg;rw[hg];simpa using h
 .rename_i j want hg
  rw[hg];split at h
  .rename_i d hd
   split at h
   .rename_i q hq
    simp only[wB hst hd hq];simp only[ap] at h;rw[<- h];cases q<;>cases want<;>rfl
   .rename_i hq
    simp only[A1 hst hd hq];simp only[ap] at h;rw[<- h];rfl
   .cases h
  .cases h
def pt (P:Program) (G:Gl) (tr:List Nat) (ops:Array Oper) (i:Nat) (K:S->Prop) (s:S):Prop:=
 match ops[i]? with
 |none=>K s
 |some o=>∃ e,TEf P G tr ops o s e/\K (e.run tr o s)
def E6 (P:Program) (G:Gl) (tr:List Nat) (md:Region.Mode) (ops:Array Oper) (K:S->Prop):Nat->Array Bool->S->Prop
 |0,listed,s=>Region.ready md ops listed=[]/\K s
 |fuel+1,listed,s=>
  (Region.ready md ops listed=[]->K s)/\
  ∀ i∈Region.ready md ops listed,pt P G tr ops i (E6 P G tr md ops K fuel (listed.setIfInBounds i true)) s
theorem pu (dV:jN n ops=true) {K:S->Prop} (hK:∀ a w s,K s->SE G n I0 M w0 s a w->Q .normal a w):∀ (fuel:Nat) (listed:Array Bool) (s:S) (a:Act) (w:World),
 E6 P G tr md ops K fuel listed s->SE G n I0 M w0 s a w->wpAny P md ops Q fuel listed a w
 |0,_,_,_,_,h,cM=>⟨h.1,hK _ _ _ h.2 cM⟩
 |fuel+1,_,s,a,w,h,cM=>by
  refine⟨λh0=>hK _ _ _ (h.1 h0) cM,λi hi=>?_⟩;have hh:=h.2 i hi;unfold pt at hh;unfold wpOp;split
  .rename_i ho;simp only[ho] at hh;exact pu dV hK fuel _ s a w hh cM
  .rename_i o ho
   simp only[ho] at hh;obtain⟨e,he,hh⟩:=hh;have jL:o∈ops.toList:=(by have:=fj ho;simpa using this);obtain⟨I,β,ob,hst⟩:=cM;rcases he with⟨hg,hv,_⟩ | ⟨hg,rfl⟩
   .rw[if_pos (kj hst hg)]
    exact .inl (ux hst (fi dV jL) hv λa' w' nJ=>pu dV hK fuel _ _ a' w' hh nJ)
   .rw[kj hst hg]
    simp only[ay,cD];rw[tq] at hh;exact pu dV hK fuel _ _ _ w hh (SE.put hst (fi dV jL) (by simp only[LR];exact .sk))
def wr (tr:List Nat) (o:Oper):List Tmp:=o.dst.toList++(cL tr o).toList
def mQ (tr:List Nat) (x y:Oper):Bool:=match x.op,x.dst,y.op with
 | .load _ _,some d,.store _ (.tmp t) _=>tr.contains (200000+d)&&tr.contains (200000+t)&&(List.range 100).all λb=>!(tr.contains (300000+d*100+b)&&tr.contains (300000+t*100+b))
 | .load _ _,some d,.call { callee:=.value _,.. }=>tr.contains (200000+d)&&(wo tr y.dst&&Cp tr y.dst)&&(List.range 100).all λb=>!(tr.contains (300000+d*100+b)&&tr.contains (500000+y.dst.getD 0*100+b))
 |_,_,_=>false
def oU (x y:Oper):Bool:=match x.op,y.op with
 | .lookup T (.tmp m) (.tmp k) false,.mapEntry U (.tmp m') (.tmp k')=>T==U&&m==m'&&k==k'
 |_,_=>false
def wG (tr:List Nat) (x y:Oper):Bool:=dK tr x==1&&match y.op with
 | .alloc _=>true
 | .box _ _=>true
 | .buildSlice _ _ _=>nR tr y.dst
 |_=>false
def E7 (tr:List Nat) (ops:Array Oper) (x y:Oper):Bool:=
 ((wr tr x).all λd=>!(y.looksAt ops).contains d&&!(wr tr y).contains d)&&((wr tr y).all λd=>!(x.looksAt ops).contains d)&&
 ((dK tr x !=2||dK tr y==0||(mQ tr y x||oU y x))&&(dK tr y !=2||dK tr x==0||(mQ tr x y||(oU x y||wG tr x y))))
structure Hx (tr:List Nat) (ops:Array Oper) (x y:Oper):Prop where
 xy:∀ d∈wr tr x,d∉y.looksAt ops
 ww:∀ d∈wr tr x,d∉wr tr y
 yx:∀ d∈wr tr y,d∉x.looksAt ops
 mx:dK tr x=2->dK tr y=0∨mQ tr y x=true∨oU y x=true
 my:dK tr y=2->dK tr x=0∨mQ tr x y=true∨oU x y=true∨wG tr x y=true
theorem Hy {x y:Oper} (h:E7 tr ops x y=true):Hx tr ops x y:=by
 simp only[E7,aA,a8,d5,ix,cJ,dS,bne_iff_ne,kA] at h;obtain⟨⟨h1,h2⟩,h3,h4⟩:=h;exact⟨λd hd=>(h1 d hd).1,λd hd=>(h1 d hd).2,h2,λh=>by rcases h3 with(h3 | h3) | h3;exact absurd h h3;exact .inl h3;exact .inr h3,
  λh=>by rcases h4 with(h4 | h4) | h4;exact absurd h h4;exact .inl h4;exact .inr h4⟩
def sA (tr:List Nat) (o:Oper) (u:Bool) (x:V) (fr:Nat->V):Nat->V:=Hu o.dst x (E4 u (cL tr o) fr)
theorem A8 (u:Bool) (c:Option Tmp) (fr:Nat->V) (t:Nat):E4 u c fr t=if c=some t/\u=true/\(fr t).isOw=true then .un else fr t:=by
 unfold E4;cases c with
 |none=>simp
 |some q=>
  simp only;by_cases hq:q=t
  .subst hq
   by_cases h:u=true/\(fr q).isOw=true
   .rw[if_pos (by simp[h.1,h.2]),cG,if_pos ⟨rfl,h⟩]
   .rw[if_neg (by simpa using h),if_neg (λe=>h e.2)]
  .have:¬ (some q=some t/\u=true/\(fr t).isOw=true):=λe=>hq (by simpa using e.1)
   rw[if_neg this];split
   .rw[dp _ _ (gz hq)]
   .rfl
theorem nZ (u:Bool) (x:V) (fr:Nat->V) (t:Nat):sA tr o u x fr t=if o.dst=some t then x else if cL tr o=some t/\u=true/\(fr t).isOw=true then .un else fr t:=by
 unfold sA Hu;cases o.dst with
 |none=>simpa using A8 u (cL tr o) fr t
 |some d=>
  simp only;by_cases hd:d=t
  .subst hd;simp
  .rw[dp _ _ (gz hd),if_neg (by simpa using hd)]
   exact A8 u (cL tr o) fr t
theorem gb {u:Bool} {x:V} {fr:Nat->V} {t:Nat} (h:t∉wr tr o):sA tr o u x fr t=fr t:=by simp only[wr,bh,Option.mem_toList,not_or] at h;rw[nZ,if_neg h.1,if_neg (λe=>h.2 e.1)]
theorem A9 {x y:Oper} (h:∀ d∈wr tr x,d∉wr tr y) (u u':Bool) (vx vy:V) (fr:Nat->V) :
 sA tr y u' vy (sA tr x u vx fr)=sA tr x u vx (sA tr y u' vy fr):=by
 funext t;by_cases hx:t∈wr tr x
 .rw[gb (h t hx),nZ,nZ,gb (h t hx)]
 .have e1:sA tr x u vx fr t=fr t:=gb hx
  have e2:sA tr x u vx (sA tr y u' vy fr) t=sA tr y u' vy fr t:=gb hx;rw[e2,nZ (o:=y),e1,nZ (o:=y)]
theorem tu (e:Ef):e.run tr o s=⟨sA tr o e.uses (e.val s.nb) s.fr,e.bx s.nb s.bx,e.nb s.nb⟩:=rfl
theorem W9 {e:Ef} (h:VEf P G tr o s e) (hm:dK tr o≠2):∃ v,e=.v v:=by
 unfold VEf at h;split at h
 .rename_i cC;simp[dK,cC] at hm
 .rename_i cC;simp[dK,cC] at hm
 .rename_i cC;simp[dK,cC] at hm
 .rename_i cC
  split at h
  .rename_i hn;simp[dK,cC,hn] at hm
  .obtain⟨v,rfl,_⟩:=h;exact⟨v,rfl⟩
 .rename_i cC;simp[dK,cC] at hm
 .rename_i cC
  split at h
  .rename_i hn;simp[dK,cC,hn] at hm
  .obtain⟨v,rfl,_⟩:=h;exact⟨v,rfl⟩
 .obtain⟨v,rfl,_⟩:=h;exact⟨v,rfl⟩
 .rename_i cC;simp[dK,cC] at hm
 .rename_i cC;simp[dK,cC] at hm
 .rename_i cC;simp[dK,cC] at hm
 .rename_i cC;simp[dK,cC] at hm
 .rename_i cC
  split at h
  .exact h.elim
  split at h
  .rename_i hr;simp[dK,cC,hr] at hm
  .obtain⟨v,rfl,_⟩:=h;exact⟨v,rfl⟩
 .rename_i cC;simp[dK,cC] at hm
 .obtain⟨v,rfl,_⟩:=h;exact⟨v,rfl⟩
theorem uy {e:Ef} (h:TEf P G tr ops o s e) (hm:dK tr o≠2):(∃ v,e=.v v)∨e=.skip:=by
 rcases h with⟨_,h,_⟩ | ⟨_,h⟩
 .exact .inl (W9 h hm)
 .exact .inr h
theorem mq {e:Ef} (h:(∃ v,e=.v v)∨e=.skip) (bx:Nat->List V) (nb nb':Nat):e.bx nb bx=bx/\e.nb nb=nb/\e.val nb=e.val nb':=by
 rcases h with⟨v,rfl⟩ | rfl<;>exact⟨rfl,rfl,rfl⟩
theorem jH {s':S} (h:∀ t∈o.looksAt ops,s.fr t=s'.fr t):uW ops o s=uW ops o s':=by
 unfold uW;split
 .rfl
 .rename_i j want hg
  split
  .rename_i d hd
   have:d∈o.looksAt ops:=(by unfold Oper.looksAt;rw[hg];simp only[bh,Option.mem_toList];exact .inr hd);rw[h d this]
  .rfl
theorem jI {x:Operand} {t:Tmp} (hx:x∈o.op.operands) (ht:x=.tmp t):t∈o.looksAt ops:=by unfold Oper.looksAt;simp only[bh,List.mem_filterMap];exact .inl ⟨x,by simpa using hx,by rw[ht]⟩
theorem uz {s':S} {e:Ef} (Ch:∀ d,o.dst=some d->s.fr d=s'.fr d) (hl:∀ t∈o.looksAt ops,s.fr t=s'.fr t) (hm:dK tr o≠0->s.bx=s'.bx/\s.nb=s'.nb) (h:TEf P G tr ops o s e):TEf P G tr ops o s' e:=by
 rcases h with⟨h1,h2,h3⟩ | ⟨h1,h2⟩
 .exact .inl ⟨by rw[<- jH hl];exact h1,Ot Ch (λx hx=>A7 λt ht=>hl t (jI hx ht)) hm h2,h3⟩
 .exact .inr ⟨by rw[<- jH hl];exact h1,h2⟩
theorem rH {x y:Oper} (h:mQ tr x y=true):∃ T X d,x.op=.load T X/\x.dst=some d/\tr.contains (200000+d)=true/\
 ((∃ U t Y,y.op=.store U (.tmp t) Y/\tr.contains (200000+t)=true/\∀ b,b<100->tr.contains (300000+d*100+b)=true->tr.contains (300000+t*100+b)=true->False)∨
  (∃ c f,y.op=.call c/\c.callee=.value f/\wo tr y.dst=true/\Cp tr y.dst=true/\∀ b,b<100->tr.contains (300000+d*100+b)=true->tr.contains (500000+y.dst.getD 0*100+b)=true->False)):=by
 unfold mQ at h;split at h
 .rename_i T X d U t Y h1 h2 h3
  simp only[aA,a8] at h;refine⟨T,X,d,h1,h2,h.1.1,.inl ⟨U,t,Y,h3,h.1.2,λb hb q1 q2=>?_⟩⟩;have:=h.2 b (df.2 hb);rw[q1,q2] at this;cases this
 .rename_i T X d f args ts h1 h2 h3
  simp only[aA,a8] at h;refine⟨T,X,d,h1,h2,h.1.1,.inr ⟨_,f,h3,rfl,h.1.2.1,h.1.2.2,λb hb q1 q2=>?_⟩⟩;have:=h.2 b (df.2 hb);rw[q1,q2] at this;cases this
 .cases h
theorem Hz {x y:Oper} (h:mQ tr x y=true):dK tr x=1:=by obtain⟨T,X,d,h1,_⟩:=rH h;simp[dK,h1]
theorem Rw {T:TypeId} {s':S} {b k:Nat} {K:V->Prop} (hb:s'.bx b=s.bx b) (hn:s'.nb=s.nb) (h:dJ P T s (.bp b k) K):dJ P T s' (.bp b k) K:=by
 unfold dJ at *;cases hT:ti P T with
 |none=>rw[hT] at h;exact h.elim
 |some i=>
  rw[hT] at h;simp only at h ⊢
  rw[hb,hn];exact h
theorem y9 {T:TypeId} {s':S} {K:V->Prop} (hx:∀ b k,x≠.bp b k) (QI:∀ v,x≠.c (.ex v)) (h:dJ P T s x K):dJ P T s' x K:=by
 unfold dJ at *;cases hT:ti P T with
 |none=>rw[hT] at h;exact h.elim
 |some i=>
  rw[hT] at h;cases x with
  |c c=>
   cases c with
   |ex v=>exact absurd rfl (QI v)
   |_=>exact h
  |bp b k=>exact absurd rfl (hx b k)
  |_=>exact h.elim
theorem HA {x y:Oper} {f:Ef} (xU:mQ tr x y=true) (hy:TEf P G tr ops y s f):f.nb s.nb=s.nb/\∀ d b,x.dst=some d->b<100->tr.contains (300000+d*100+b)=true->f.bx s.nb s.bx b=s.bx b:=by
 obtain⟨T,X,d,QK,hx2,hd,JJ⟩:=rH xU;rcases hy with⟨_,hv,_⟩ | ⟨_,rfl⟩
 .unfold VEf at hv
  rcases JJ with⟨U,t,Y,JD,ht,eX⟩ | ⟨c,g,JD,hy2,hm,hl,eX⟩
  .rw[JD] at hv
   simp only at hv;obtain⟨mH,hv⟩:=hv;split at hv
   .rename_i i b k cs h1 h2 h3
    obtain⟨_,rfl⟩:=hv;rw[h2] at mH;simp only[J0,qc,Q4,ht,dq,Bool.false_or,aA,br] at mH;refine⟨rfl,λd' b' sd wj Ah=>?_⟩;rw[hx2] at sd;cases sd;have gu:b'≠b:=(by rintro rfl;exact eX b' wj Ah mH.2);simp only[Ef.bx,dp _ _ gu]
   .rename_i i blk j h1 h2
    rw[h2] at mH;simp only[J0,qc,ht,dq] at mH;cases mH
   .exact hv.elim
  .obtain⟨callee,args,ts⟩:=c
   simp only at hy2;subst hy2;rw[JD] at hv;simp only[hm,bY] at hv;obtain⟨bx,nb,x',rfl,_,h2⟩:=hv;obtain⟨h3,h4⟩:=h2 hl;refine⟨h3,λd' b' sd wj Ah=>?_⟩;rw[hx2] at sd;cases sd;rcases h4 b' with h | ⟨_,h⟩
   .exact h
   .exact(eX b' wj Ah h).elim
 .exact⟨rfl,λ_ _ _ _ _=>rfl⟩
theorem Rx {x y:Oper} {e:Ef} {s':S} (xU:mQ tr x y=true) (hl:∀ t∈x.looksAt ops,s.fr t=s'.fr t)
 (pU:∀ d b,x.dst=some d->b<100->tr.contains (300000+d*100+b)=true->s'.bx b=s.bx b) (zO:s'.nb=s.nb) (h:TEf P G tr ops x s e):TEf P G tr ops x s' e:=by
 obtain⟨T,X,d,QK,hx2,hd,_⟩:=rH xU;rcases h with⟨h1,h2,h3⟩ | ⟨h1,h2⟩
 .refine .inl ⟨by rw[<- jH hl];exact h1,?_,h3⟩
  have Aj:ev G s X=ev G s' X:=A7 λq hq=>hl q (jI (by rw[QK];simp[Op.operands]) hq);unfold VEf at h2 ⊢
  rw[QK] at h2 ⊢
  simp only at h2 ⊢
  obtain⟨v,he,mH,hv⟩:=h2;refine⟨v,he,by rw[<- Aj];exact mH,?_⟩;obtain⟨dst,op,type,pos,after,guard⟩:=x;simp only at QK hx2 mH Aj pU;subst QK;subst hx2;simp only[VYK] at hv ⊢
  rw[<- Aj];rcases JJ:ev G s X with _ | _ | c | _ | _ | _ | ⟨b,k⟩ | _ | _ | _
  case bp=>rw[JJ] at mH hv;simp only[qc,Q4,hd,dq,Bool.false_or,aA,br] at mH;exact Rw (pU d b rfl mH.1 mH.2) zO hv
  case c=>rw[JJ] at mH hv;refine y9 (λ_ _ e=>by cases e) (λv e=>?_) hv;cases e;simp only[qc,hd,dq] at mH;cases mH
  all_goals
   rw[JJ] at hv;exact y9 (λ_ _ e=>by cases e) (λ_ e=>by cases e) hv
 .exact .inr ⟨by rw[<- jH hl];exact h1,h2⟩
theorem rI {x y:Oper} (h:oU x y=true):∃ T m k,x.op=.lookup T (.tmp m) (.tmp k) false/\y.op=.mapEntry T (.tmp m) (.tmp k):=by
 unfold oU at h;split at h
 .rename_i T m k U m' k' h1 h2
  simp only[aA,kA] at h;obtain⟨⟨rfl,rfl⟩,rfl⟩:=h;exact⟨T,m,k,h1,h2⟩
 .cases h
theorem HC {x y:Oper} (h:oU x y=true):dK tr x=1/\dK tr y=2:=by obtain⟨T,m,k,h1,h2⟩:=rI h;simp[dK,h1,h2]
theorem Ba {ag:Bool}:∀ {r:List V} {l:List (List C)},jG ag r=some l->r.length=2*l.length
 |[],l,h=>by simp only[jG,ap] at h;subst h;rfl
 |[_],l,h=>by simp[jG] at h
 |k::v::r,l,h=>by
  unfold jG at h;split at h
  .rename_i q l' h1 h2
   simp only[ap] at h;subst h;have:=Ba h2;simp[this];omega
  .cases h
theorem za {ag:Bool} {k v:V} {q:List C} (hk:k.kcs ag=some q):∀ {r:List V} {l:List (List C)},jG ag r=some l->jG ag (r++[k,v])=some (l++[q])
 |[],l,h=>by simp only[jG,ap] at h;subst h;simp[jG,hk]
 |[_],l,h=>by simp[jG] at h
 |k'::v'::r,l,h=>by
  unfold jG at h;split at h
  .rename_i q' l' h1 h2
   simp only[ap] at h;subst h;have:=za (v:=v) hk h2;simp only[dP,jG,h1,this]
  .cases h
theorem Bb {ks:List EK} {k:List C} (hl:k.length=ks.length) (hr:jF ks k k=some true):∀ {l:List (List C)} {i:Nat},nk ks k l i=some none->nk ks k (l++[k]) i=some (some (i+l.length))
 |[],i,_=>by simp[nk,hl,hr]
 |k'::l,i,h=>by
  unfold nk at h;split at h
  .rename_i h1
   split at h
   .cases h
   .rename_i h2
    simp only[dP,nk,h1,bY,h2];rw[Bb hl hr h];simp;omega
   .cases h
  .cases h
theorem Bc {T:TypeId} {k:V} {K:S->V->Prop} (h:ga P T s x k K):∃ w,fV P T s x k false (λu=>w=u):=by
 unfold ga at h;obtain⟨i,bs,cl,r,res,z,h1,h2⟩:=ja h;cases res with
 |none=>exact⟨_,gv h1 rfl⟩
 |some j=>exact⟨_,gv h1 rfl⟩
theorem zb {T:TypeId} {bx':Nat->List V} {k v u:V} {s':S} (h:ga P T s x k (λs' u'=>bx'=s'.bx/\u=u')) (hv:fV P T s x k false (λw=>v=w)) (h1:s'.bx=bx') (h2:s'.nb=s.nb) :
 fV P T s' x k false (λw=>v=w):=by
 subst h1;unfold ga at h;obtain⟨i,kt,et,tT,tk,te,ks,kc,z,bs,cl,r,kcs,res,q1,q2,rfl,q3,q4,q5,q6,q7,q8,q9,q10,⟨q11,q12,q13,q14⟩,hK⟩:=vD h;have hv':fV P T s (.mr i) k false (λw=>(match res with | some j=>(r.getD (2*j+1) .un).fz | none=>z)=w):=by unfold fV;refine qR q1 q2 q3 q4 q5 q6 q7 q8 q9 q10 q11 q12 q13 q14 ?_;cases res<;>rfl
 have sX:=y7 hv hv';unfold fV;cases res with
 |some j=>obtain⟨hb,_⟩:=hK;refine qR q1 q2 q3 q4 q5 q6 q7 (by rw[hb];exact q8) q9 q10 (by rw[h2];exact q11) q12 q13 q14 ?_;exact sX
 |none=>
  obtain⟨hb,_⟩:=hK;have hkf:k.fz.kcs tk.agg=some kc:=by cases k<;>simp_all[V.fz,V.kcs]
  have hz:z.fz=z:=by
   unfold qz at q7;split at q7<;>first | (simp only[ap] at q7;subst q7;rfl) | cases q7
  have cH:=Ba q9;refine qR (bs:=bs++[cl]) (cl:=cl+1) (r:=r++[k.fz,z]) q1 q2 q3 q4 q5 q6 q7 (by rw[hb];simp only[cG]) (za hkf q9) (Bb q12 q13 q10) (by rw[h2];exact q11) q12 q13 q14 ?_;simp only;rw[show v=z from sX];have:(r++[k.fz,z]).getD (2*(0+kcs.length)+1) .un=z:=by rw[ao,<- cH];simp
  rw[this,hz];rfl
theorem yn {s':S} (hn:s.nb<=s'.nb) (hb:∀ i,i<s.nb->s'.bx i=s.bx i) {i:Nat} {cs:List C} (h:zP s i=some cs):zP s' i=some cs:=by
 unfold zP at *;split at h
 .rename_i hi;rw[if_pos (by omega),hb i hi];exact h
 .cases h
theorem vF {s':S} (hn:s.nb<=s'.nb) (hb:∀ i,i<s.nb->s'.bx i=s.bx i) {i off len sz:Nat} {c:C} (h:mi s i off len sz=some c):mi s' i off len sz=some c:=by
 unfold mi at *;split at h
 .rename_i cs hc;simp only[yn hn hb hc];exact h
 .cases h
theorem yo {s':S} (hn:s.nb<=s'.nb) (hb:∀ i,i<s.nb->s'.bx i=s.bx i) {x:V} {c:C} (h:vB s x=some c):vB s' x=some c:=by
 unfold vB at *;split at h
 .exact h
 .exact h
 .obtain⟨cs,hc,rfl⟩:=aZ.1 h;rw[yn hn hb hc];rfl
 .exact vF hn hb h
 .cases h
theorem mw {α β:Type} {f g:α->Option β} (h:∀ x y,f x=some y->g x=some y):∀ {l:List α} {r:List β},l.mapM f=some r->l.mapM g=some r
 |[],r,hr=>by simpa using hr
 |x::l,r,hr=>by
  rw[fR] at hr ⊢
  cases hx:f x with
  |none=>rw[hx] at hr;cases hr
  |some y=>
   rw[hx] at hr;rw[h x y hx];cases hl:l.mapM f with
   |none=>rw[hl] at hr;cases hr
   |some r'=>rw[hl] at hr;rw[mw h hl];exact hr
theorem wH {s':S} (hn:s.nb<=s'.nb) (hb:∀ i,i<s.nb->s'.bx i=s.bx i) {x y:V} (h:imm s x=some y):imm s' x=some y:=by
 unfold imm at *;split at h
 .exact h
 .exact h
 .exact h
 .obtain⟨cs,hc,rfl⟩:=aZ.1 h;rw[yn hn hb hc];rfl
 .split at h
  .rename_i e1 e2
   simp only[mw (λ_ _=>yo hn hb) e1,mw (λ_ _=>yo hn hb) e2];exact h
  .cases h
 .obtain⟨c,hc,rfl⟩:=aZ.1 h;rw[vF hn hb hc];rfl
 .obtain⟨c,hc,rfl⟩:=aZ.1 h;rw[mw (λ_ _=>yo hn hb) hc];rfl
 .cases h
theorem wI {s':S} (hn:s.nb<=s'.nb) (hb:∀ i,i<s.nb->s'.bx i=s.bx i) (x:V):vw s x=vw s' x∨vw s x=.un:=by
 cases x<;>try exact .inl rfl
 case ms i off len cap sz=>
  simp only[vw];cases hv:mi s i off len sz with
  |none=>exact .inr rfl
  |some c=>rw[vF hn hb hv];exact .inl rfl
theorem Ov {s':S} {ts:List TypeId} {z y:V} {K:V->Prop} (hn:s.nb<=s'.nb) (hb:∀ i,i<s.nb->s'.bx i=s.bx i) (h:eH P .append ts [z,vw s y] K):eH P .append ts [z,vw s' y] K:=by
 rcases wI hn hb y with e2 | e2
 .rw[<- e2];exact h
 .rw[e2] at h
  unfold eH at h;split at h<;>first | cases ‹Builtin.append=_› | skip
  .rename_i t t' x y' hxy
   obtain⟨rfl,rfl⟩:z=x/\V.un=y':=by simp only[cj,ip] at hxy;exact hxy
   split at h
   .exfalso
    unfold dL at h;split at h
    .split at h
     .exact h.2.elim
     .exact h.elim
    .exact h.elim
   .exfalso;unfold qb at h;simp[V.fz] at h
  .exact h.elim
theorem Bd {s':S} {ts:List TypeId} {E:Option (TypeId×Nat)} {es:List (List C)} {y:V} {K:V->Prop} (hn:s.nb<=s'.nb) (hb:∀ i,i<s.nb->s'.bx i=s.bx i) (h:nn P ts E es (vw s y).fz K):nn P ts E es (vw s' y).fz K:=by
 rcases wI hn hb y with e2 | e2
 .rw[<- e2];exact h
 .exfalso
  rw[e2] at h;unfold nn at h;split at h
  .obtain⟨_,h⟩:=h
   split at h
   .split at h
    .obtain⟨_,h⟩:=h
     split at h
     .rename_i e;cases e
     .exact h.elim
    .exact h.elim
   .exact h.elim
  .exact h.elim
theorem wJ {s':S} {K:V->Prop} (Ch:∀ d,o.dst=some d->s.fr d=s'.fr d) (he:∀ x∈o.op.operands,ev G s x=ev G s' x) (hn:s.nb<=s'.nb) (hb:∀ i,i<s.nb->s'.bx i=s.bx i) (hm:dK tr o=1) (h:VYK P G tr o s K):VYK P G tr o s' K:=by
 have marr:∀ l:Array Operand,(∀ x∈l,ev G s x=ev G s' x)->l.toList.map (ev G s)=l.toList.map (ev G s'):=λl hl=>cF λx hx=>hl x (by simpa using hx);have hm0:=hm;obtain⟨dst,op,type,pos,after,guard⟩:=o;cases op<;>simp only[dK] at hm<;>try cases hm
 case buildSlice=>split at hm<;>cases hm
 case load T x=>
  simp only[VYK] at h ⊢
  rw[<- he x (by simp[Op.operands])];unfold dJ at h ⊢
  split at h
  .exact h
  .rename_i i b k _
   obtain⟨⟨h1,h2⟩,h3⟩:=h;rw[hb _ h1];exact⟨⟨by omega,h2⟩,h3⟩
  .rcases h with h | ⟨b,k,len,cap,E,es,⟨q1,q2,q3⟩,h⟩
   .exact h.elim
   .exact .inr ⟨b,k,len,cap,E,es,⟨by omega,by rw[hb _ q1];exact q2,by rw[hb _ q1];exact q3⟩,h⟩
  .exact h.elim
 case convert src dst' x=>
  simp only[VYK] at h ⊢
  rw[<- he x (by simp[Op.operands])];rcases wI hn hb (ev G s x) with e | e
  .rw[<- e];exact h
  .rw[e] at h;simp[V.fz,oK] at h
 case lookup T x k ok=>
  simp only[VYK] at h ⊢
  rw[<- he x (by simp[Op.operands]),<- he k (by simp[Op.operands])];unfold fV at h ⊢
  obtain⟨i,kt,et,tT,tk,te,ks,kc,z,bs,cl,r,kcs,res,q1,q2,q3,q4,q5,q6,q7,q8,q9,q10,q11,⟨q12,q13,q14,q15⟩,hK⟩:=vD h;rw[q3];exact qR q1 q2 q4 q5 q6 q7 q8 (by rw[hb i q12];exact q9) q10 q11 (by omega) q13 q14 q15 hK
 case range T x=>
  simp only[VYK] at h ⊢
  rw[<- he x (by simp[Op.operands])];unfold ot at h ⊢
  split at h
  .rename_i i _
   split at h
   .rename_i e1
    obtain⟨h1,h2⟩:=h;rw[hb _ h1];simp only[e1];exact⟨by omega,h2⟩
   .exact h.elim
  .exact h.elim
 case entry x=>
  simp only[VYK] at h ⊢
  rw[<- he x (by simp[Op.operands])];unfold nv at h ⊢
  split at h
  .rename_i i since stepped seen _
   split at h
   .rename_i e1 e2
    split at h
    .rename_i e3
     obtain⟨⟨h1,h0⟩,h2⟩:=h;rw[hb _ h1];simp only[e1,e2,e3];exact⟨⟨by omega,h0⟩,h2⟩
    .exact h.elim
   .exact h.elim
  .exact h.elim
 case call c=>
  obtain⟨callee,args,ts⟩:=c;cases callee with
  |value f=>
   simp only[VYK] at h ⊢
   rw[<- he f (by simp[Op.operands,Call.operands]),<- marr args λx hx=>he x (by simp[Op.operands,Call.operands,hx])];unfold qO at h ⊢
   split at h
   .split at h
    .rename_i e1;simp only[mw (λ_ _=>wH hn hb) e1];exact h
    .exact h.elim
   .split at h
    .rename_i e1 e2 e3
     simp only[mw (λ_ _=>wH hn hb) e1,mw (λ_ _=>wH hn hb) e2,mw (λ_ _=>wH hn hb) e3];exact h
    .exact h.elim
   .exact h.elim
  |invoke r m=>exact h.elim
  |builtin b=>
   cases b<;>first | (simp[dK] at hm0;done) | skip
   case append=>
    by_cases hgh:AC tr dst=true
    .simp only[VYK,if_pos hgh] at h ⊢
     by_cases hho:yd tr dst=true
     .rw[if_pos hho] at h ⊢
      exact False.elim h
     .rw[if_neg hho] at h ⊢
      unfold jl at h ⊢
      split at h
      .rename_i t y d ha
       have ht:s.fr t=s'.fr t:=(by have:=he (.tmp t) (by simp only[Op.operands,Call.operands];rw[jq];exact dA.1 (by rw[ha];simp));simpa[ev] using this);have hy:ev G s y=ev G s' y:=he y (by simp only[Op.operands,Call.operands];rw[jq];exact dA.1 (by rw[ha];simp));rw[<- ht,<- Ch d rfl,<- hy];split at h
       .exact⟨h.1,Ov hn hb h.2⟩
       .exact⟨h.1,Bd hn hb h.2⟩
       .exact⟨h.1,Bd hn hb h.2⟩
       .exact h.elim
      .exact h.elim
    simp only[VYK,if_neg hgh] at h ⊢
    have hh:(args.toList.map λx=>vw s' (ev G s' x))=args.toList.map λx=>vw s' (ev G s x):=cF λx hx=>by rw[he x (by simp only[Op.operands,Call.operands];simpa using hx)]
    rw[hh];unfold eH at h ⊢
    split at h<;>first | cases ‹Builtin.append=_› | skip
    .rename_i t t' x y qt cP
     obtain⟨X,Y,hX,rfl,rfl⟩:∃ X Y,args.toList=[X,Y]/\x=vw s (ev G s X)/\y=vw s (ev G s Y):=by
      cases ha:args.toList with
      |nil=>simp[ha] at cP
      |cons X l=>
       cases l with
       |nil=>simp[ha] at cP
       |cons Y l=>simp only[ha,aN,cj,eG] at cP;exact⟨X,Y,by rw[cP.2.2],cP.1.symm,cP.2.1.symm⟩
     rw[hX,qt];simp only[aN,bE];have eX:∀ u K',¬ dL P t .un u K':=λu K' h=>by simp[dL] at h
     have ajQ:∀ u K',¬ dL P t u V.un K':=λu K' h=>by
      unfold dL at h;split at h
      .split at h
       .exact h.2.elim
       .exact h.elim
      .exact h.elim
     rcases wI hn hb (ev G s X) with e1 | e1
     .rcases wI hn hb (ev G s Y) with e2 | e2
      .rw[<- e1,<- e2];exact h
      .rw[e2] at h
       split at h
       .exact(ajQ _ _ h).elim
       .unfold qb at h;simp[V.fz] at h
     .rw[e1] at h
      split at h
      .exact(eX _ _ h).elim
      .unfold qb at h
       split at h
       .split at h
        .exact(eX _ _ h.2).elim
        .exact h.elim
       .exact h.elim
    .exact h.elim
theorem Ry {s':S} {e:Ef} (Ch:∀ d,o.dst=some d->s.fr d=s'.fr d) (hm:dK tr o=1) (he:∀ x∈o.op.operands,ev G s x=ev G s' x) (hn:s.nb<=s'.nb) (hb:∀ i,i<s.nb->s'.bx i=s.bx i) (h:VEf P G tr o s e):VEf P G tr o s' e:=by
 unfold VEf at h ⊢
 split at h
 .rename_i cC;simp[dK,cC] at hm
 .rename_i cC;simp[dK,cC] at hm
 .rename_i cC;simp[dK,cC] at hm
 .rename_i cC;simp only[dK,cC] at hm;split at hm<;>cases hm
 .rename_i cC;simp[dK,cC] at hm
 .rename_i f args ts cC
  split at h
  .rename_i hmu;simp[dK,cC,hmu] at hm
  .rename_i hmu
   rw[if_neg hmu];obtain⟨v,h1,h2⟩:=h;refine⟨v,h1,?_⟩;unfold VYQ at h2 ⊢
   split
   .rename_i NZ
    rw[if_pos NZ] at h2;have:args.toList.map (ev G s)=args.toList.map (ev G s'):=cF λx hx=>he x (by rw[cC];simp only[Op.operands,Call.operands];simp at hx;simp[hx]);rw[<- he f (by rw[cC];simp[Op.operands,Call.operands]),<- this];exact y8 hn hb h2
   .rename_i NZ
    rw[if_neg NZ] at h2;exact wJ Ch he hn hb hm h2
 .rename_i T X cC
  obtain⟨v,h1,h2,h3⟩:=h;exact⟨v,h1,by rw[<- he X (by rw[cC];simp[Op.operands])];exact h2,wJ Ch he hn hb hm h3⟩
 .rename_i cC;simp[dK,cC] at hm
 .rename_i cC;simp[dK,cC] at hm
 .rename_i cC;simp[dK,cC] at hm
 .rename_i cC;simp[dK,cC] at hm
 .rename_i cC
  split at h
  .exact h.elim
  rename_i gu;rw[if_neg gu];split at h
  .rename_i hr;simp[dK,cC,hr] at hm
  .rename_i hr
   rw[if_neg hr];obtain⟨v,h1,h2⟩:=h;exact⟨v,h1,wJ Ch he hn hb hm h2⟩
 .rename_i cC;simp[dK,cC] at hm
 .obtain⟨v,h1,h2⟩:=h
  exact⟨v,h1,wJ Ch he hn hb hm h2⟩
theorem E8 {x y:Oper} (h:wG tr x y=true):dK tr x=1/\∀ (q:S) (f:Ef),VEf P G tr y q f->q.nb<=f.nb q.nb/\∀ i,i<q.nb->f.bx q.nb q.bx i=q.bx i:=by
 unfold wG at h;simp only[aA,kA] at h;refine⟨h.1,λq f hf=>?_⟩;have h2:=h.2;have al:(∃ cs,f=.al cs)->q.nb<=f.nb q.nb/\∀ i,i<q.nb->f.bx q.nb q.bx i=q.bx i:=by rintro⟨cs,rfl⟩;exact⟨Nat.le_succ _,λi hi=>dp _ _ (by omega)⟩
 split at h2
 .rename_i cC
  unfold VEf at hf;rw[cC] at hf;simp only at hf;split at hf
  .exact al ⟨_,hf⟩
  .exact hf.elim
 .rename_i cC
  unfold VEf at hf;rw[cC] at hf;simp only at hf;split at hf
  .exact al ⟨_,hf⟩
  .exact hf.elim
 .rename_i cC
  unfold VEf at hf;rw[cC] at hf;simp only[h2,bY] at hf;obtain⟨bx,nb,x,rfl,hv⟩:=hf;unfold da at hv;split at hv
  .split at hv
   .obtain⟨_,hv⟩:=hv
    split at hv
    .simp only[AD] at hv
     split at hv
     .obtain⟨⟨rfl,rfl⟩,_⟩:=hv
      exact⟨Nat.le_succ _,λi hi=>dp _ _ (by omega)⟩
     .exact hv.elim
    .exact hv.elim
   .exact hv.elim
  .exact hv.elim
 .cases h2
theorem TEf.keep {x y:Oper} {e f:Ef} (u4:Hx tr ops x y) (hx:TEf P G tr ops x s e) (hy:TEf P G tr ops y s f):TEf P G tr ops x (f.run tr y s) e:=by
 have hl:∀ t∈x.looksAt ops,s.fr t=(f.run tr y s).fr t:=λt ht=>by rw[tu];simp only;rw[gb (λhw=>u4.yx t hw ht)]
 have Ch:∀ d,x.dst=some d->s.fr d=(f.run tr y s).fr d:=λd hd=>by rw[tu];simp only;rw[gb (u4.ww d (by simp[wr,hd]))]
 by_cases xU:mQ tr x y=true
 .obtain⟨q1,q2⟩:=HA xU hy
  exact Rx xU hl q2 q1 hx
 by_cases WL:oU x y=true
 .obtain⟨T,m,k,QK,JD⟩:=rI WL
  rcases hy with⟨_,hv,_⟩ | ⟨_,rfl⟩
  .rcases hx with⟨hg,hw,gu⟩ | ⟨hg,he⟩
   .refine .inl ⟨by rw[<- jH hl];exact hg,?_,gu⟩
    unfold VEf at hv hw ⊢
    rw[JD] at hv;rw[QK] at hw ⊢
    obtain⟨bx,u,rfl,hv⟩:=hv;obtain⟨v,rfl,hw⟩:=hw;refine⟨v,rfl,?_⟩;obtain⟨dst,op,type,pos,after,guard⟩:=x;simp only at QK;subst QK;simp only[VYK] at hw ⊢
    have e1:ev G ((Ef.gn bx s.nb u).run tr y s) (.tmp m)=ev G s (.tmp m):=(hl m (jI (x:=.tmp m) (by simp[Op.operands]) rfl)).symm;have e2:ev G ((Ef.gn bx s.nb u).run tr y s) (.tmp k)=ev G s (.tmp k):=(hl k (jI (x:=.tmp k) (by simp[Op.operands]) rfl)).symm;rw[e1,e2];exact zb (bx':=bx) (u:=u) (tj (pq hv) λs' u' e=>⟨by rw[<- e.1],e.2⟩) hw rfl rfl
   .exact .inr ⟨by rw[<- jH hl];exact hg,he⟩
  .exact uz Ch hl (λ_=>⟨rfl,rfl⟩) hx
 by_cases hra:wG tr x y=true
 .obtain⟨h1,h2⟩:=E8 hra
  rcases hx with⟨hg,hw,gu⟩ | ⟨hg,he⟩
  .refine .inl ⟨by rw[<- jH hl];exact hg,?_,gu⟩
   have hf:s.nb<=f.nb s.nb/\∀ i,i<s.nb->f.bx s.nb s.bx i=s.bx i:=by
    rcases hy with⟨_,hv,_⟩ | ⟨_,rfl⟩
    .exact h2 _ _ hv
    .exact⟨ai _,λ_ _=>rfl⟩
   exact Ry Ch h1 (λq hq=>A7 λt ht=>hl t (jI hq ht)) hf.1 hf.2 hw
  .exact .inr ⟨by rw[<- jH hl];exact hg,he⟩
 .refine uz Ch hl (λhm=>?_) hx
  have hq:=uy hy (λh=>hm ((u4.my h).resolve_right (λh=>by rcases h with h | h | h;exact xU h;exact WL h;exact hra h)))
  obtain⟨q1,q2,_⟩:=mq hq s.bx s.nb 0;exact⟨q1.symm,q2.symm⟩
theorem TEf.back {x y:Oper} {e f:Ef} (u4:Hx tr ops x y) (hx:TEf P G tr ops x s e) (hy:TEf P G tr ops y (e.run tr x s) f):TEf P G tr ops y s f:=by
 have hl:∀ t∈y.looksAt ops,(e.run tr x s).fr t=s.fr t:=λt ht=>by rw[tu];simp only;rw[gb (λhw=>u4.xy t hw ht)]
 have Ch:∀ d,y.dst=some d->(e.run tr x s).fr d=s.fr d:=λd hd=>by rw[tu];simp only;rw[gb (λhw=>u4.ww d hw (by simp[wr,hd]))]
 by_cases xU:mQ tr y x=true
 .obtain⟨q1,q2⟩:=HA xU hx
  exact Rx xU hl (λd b h1 h2 h3=>(q2 d b h1 h2 h3).symm) q1.symm hy
 by_cases WL:oU y x=true
 .obtain⟨T,m,k,QK,JD⟩:=rI WL
  rcases hx with⟨_,hv,_⟩ | ⟨_,rfl⟩
  .rcases hy with⟨hg,hw,gu⟩ | ⟨hg,he⟩
   .refine .inl ⟨by rw[<- jH hl];exact hg,?_,gu⟩
    unfold VEf at hv hw ⊢
    rw[JD] at hv;rw[QK] at hw ⊢
    obtain⟨bx,u,rfl,hv⟩:=hv;obtain⟨v,rfl,hw⟩:=hw;refine⟨v,rfl,?_⟩;obtain⟨dst,op,type,pos,after,guard⟩:=y;simp only at QK;subst QK;simp only[VYK] at hw ⊢
    have e1:ev G ((Ef.gn bx s.nb u).run tr x s) (.tmp m)=ev G s (.tmp m):=hl m (jI (x:=.tmp m) (by simp[Op.operands]) rfl);have e2:ev G ((Ef.gn bx s.nb u).run tr x s) (.tmp k)=ev G s (.tmp k):=hl k (jI (x:=.tmp k) (by simp[Op.operands]) rfl);rw[e1,e2] at hw;have hE:=tj (pq hv) (K':=λs' u'=>bx=s'.bx/\u=u') λs' u' e=>⟨by rw[<- e.1],e.2⟩;obtain⟨w,hw0⟩:=Bc hE;have:=zb (s':=(Ef.gn bx s.nb u).run tr x s) hE hw0 rfl rfl;rw[y7 hw this];exact hw0
   .exact .inr ⟨by rw[<- jH hl];exact hg,he⟩
  .exact uz Ch hl (λ_=>⟨rfl,rfl⟩) hy
 .refine uz Ch hl (λhm=>?_) hy
  have hq:=uy hx (λh=>hm ((u4.mx h).resolve_right (λh=>by rcases h with h | h;exact xU h;exact WL h)))
  obtain⟨q1,q2,_⟩:=mq hq s.bx s.nb 0;exact⟨q1,q2⟩
theorem tw {x y:Oper} {e f:Ef} (u4:Hx tr ops x y) (hx:TEf P G tr ops x s e) (hy:TEf P G tr ops y s f):f.run tr y (e.run tr x s)=e.run tr x (f.run tr y s):=by
 simp only[tu];by_cases h2:dK tr x=2
 .have hq:=uy hy (λh=>by
   rcases u4.mx h2 with h' | h' | h'
   .rw[h'] at h;cases h
   .rw[Hz h'] at h;cases h
   .rw[(HC (tr:=tr) h').1] at h;cases h)
  obtain⟨q1,q2,q3⟩:=mq hq (e.bx s.nb s.bx) (e.nb s.nb) s.nb;obtain⟨r1,r2,_⟩:=mq hq s.bx s.nb s.nb;rw[q1,q2,q3,r1,r2,A9 u4.ww]
 .have hq:=uy hx h2
  obtain⟨q1,q2,q3⟩:=mq hq (f.bx s.nb s.bx) (f.nb s.nb) s.nb;obtain⟨r1,r2,_⟩:=mq hq s.bx s.nb s.nb;rw[q1,q2,q3,r1,r2,A9 u4.ww]
def FreeAt (tr:List Nat) (md:Region.Mode) (ops:Array Oper) (listed:Array Bool) (i:Nat) (oi:Oper):Prop:=
 ∃ B:List Nat,(∀ j∈B,listed.getD j true=false/\∃ oj,ops[j]?=some oj/\∃ e∈oj.after,Region.binds md e=true/\(e.on=i∨e.on∈B))/\
  ∀ j oj,ops[j]?=some oj->j≠i->listed.getD j true=false->j∉B->E7 tr ops oi oj=true
theorem FreeAt.step {md:Region.Mode} {listed:Array Bool} {i j:Nat} {oi oj:Oper} (h:FreeAt tr md ops listed i oi) (hr:i∈Region.ready md ops listed) (hj:j∈Region.ready md ops listed) (pe:j≠i) (uT:ops[j]?=some oj) :
 Hx tr ops oi oj/\FreeAt tr md ops (listed.setIfInBounds j true) i oi:=by
 obtain⟨B,hB,sO⟩:=h;obtain⟨ahj,oj',WB,dC⟩:=iK.1 hj;rw[uT] at WB;cases WB;have Z8:∀ q,listed.getD q true=false->∀ e∈oj.after,Region.binds md e=true->e.on≠q:=λq h0 e he hb kL=>by
  have h1:=dC e he hb;rw[kL] at h1;rcases cd q listed.size with h' | h'
  .simp[h'] at h0 h1;rw[h0] at h1;cases h1
  .simp[dx h'] at h1
 have hjB:j∉B:=λhjB=>by
  obtain⟨_,oj',WB,e,he,hb,WE⟩:=hB j hjB;rw[uT] at WB;cases WB;rcases WE with WE | WE
  .exact Z8 i (iK.1 hr).1 e he hb WE
  .exact Z8 _ (hB _ WE).1 e he hb rfl
 refine⟨Hy (sO j oj uT pe ahj hjB),B,λb hb=>?_,λk ok hk hki Z8 eX=>?_⟩
 .have Z9:j≠b:=λh=>hjB (by rw[h];exact hb)
  exact⟨by rw[lC true Z9];exact(hB b hb).1,(hB b hb).2⟩
 .refine sO k ok hk hki ?_ eX
  by_cases hjk:j=k
  .subst hjk;exact ahj
  .rw[lC true hjk] at Z8;exact Z8
theorem vG {K:S->Prop} {i:Nat} {oi:Oper} {e:Ef} (hi:ops[i]?=some oi) :
 ∀ (fuel:Nat) (listed:Array Bool) (s:S),FreeAt tr md ops listed i oi->
  i∈Region.ready md ops listed->TEf P G tr ops oi s e->
  E6 P G tr md ops K fuel (listed.setIfInBounds i true) (e.run tr oi s)->E6 P G tr md ops K (fuel+1) listed s:=by
 intro fuel;induction fuel with
 |zero=>
  intro listed s _ hr hy H;refine⟨λh=>(by rw[h] at hr;cases hr),λj hj=>?_⟩;by_cases pe:j=i
  .subst pe;unfold pt;simp only[hi];exact⟨e,hy,H⟩
  .have:=jM hj pe
   rw[H.1] at this;cases this
 |succ fuel ih=>
  intro listed s sO hr hy H;refine⟨λh=>(by rw[h] at hr;cases hr),λj hj=>?_⟩;by_cases pe:j=i
  .subst pe;unfold pt;simp only[hi];exact⟨e,hy,H⟩
  .have h1:=H.2 j (jM hj pe)
   obtain⟨_,oj,uT,_⟩:=iK.1 hj;obtain⟨u4,su⟩:=sO.step hr hj pe uT;unfold pt at h1 ⊢
   simp only[uT] at h1 ⊢
   obtain⟨f,hf,hK⟩:=h1;have zN:=hy.back u4 hf;refine⟨f,zN,ih (listed.setIfInBounds j true) _ su (jM hr (gz pe)) (hy.keep u4 zN) ?_⟩;rw[hZ _ _ pe,<- tw u4 hy zN];exact hK
def uA (ops:Array Oper) (listed:Array Bool) (i:Nat):List Nat->List Nat->List Nat
 |[],B=>B
 |j::r,B=>uA ops listed i r (match ops[j]? with
  |some oj=>if(!listed.getD j true)&&(oj.after.any λe=>Region.binds .any e&&(e.on==i||B.contains e.on)) then j::B else B
  |none=>B)
theorem wK {ops:Array Oper} {listed:Array Bool} {i:Nat}:∀ (l B:List Nat),(∀ j∈B,listed.getD j true=false/\∃ oj,ops[j]?=some oj/\∃ e∈oj.after,Region.binds .any e=true/\(e.on=i∨e.on∈B))->
 ∀ j∈uA ops listed i l B,listed.getD j true=false/\∃ oj,ops[j]?=some oj/\∃ e∈oj.after,Region.binds .any e=true/\(e.on=i∨e.on∈uA ops listed i l B)
 |[],_,h=>h
 |k::r,B,h=>by
  unfold uA;refine wK r _ ?_;split
  .rename_i oj uT
   split
   .rename_i hc
    simp only[aA,d5] at hc;obtain⟨h1,h2⟩:=hc;rw[Array.any_eq_true'] at h2;obtain⟨e,he,h3⟩:=h2;simp only[aA,dS,kA,ix,br] at h3;intro j hj;rcases bI.1 hj with rfl | hj
    .exact⟨h1,oj,uT,e,he,h3.1,h3.2.imp id (aT _)⟩
    .obtain⟨a,b,c,d,hd,f,g⟩:=h j hj
     exact⟨a,b,c,d,hd,f,g.imp id (aT _)⟩
   .exact h
  .exact h
def HD (tr:List Nat) (ops:Array Oper) (listed:Array Bool) (i:Nat):Bool:=
 match ops[i]? with
 |none=>true
 |some oi=>(λB=>(List.range ops.size).all λj=>match ops[j]? with
  |none=>true
  |some oj=>j==i||listed.getD j true||List.contains B j||E7 tr ops oi oj) (uA ops listed i (List.range ops.size) [])
theorem k5 {i:Nat} {oi:Oper} {listed:Array Bool} (hi:ops[i]?=some oi) (h:HD tr ops listed i=true):FreeAt tr .any ops listed i oi:=by unfold HD at h;simp only[hi,a8,df] at h;refine⟨uA ops listed i (List.range ops.size) [],wK _ _ (λ_ h=>by cases h),λj oj hj pe hl eX=>?_⟩;have bF:j<ops.size:=(bq.1 hj).1;have:=h j bF;simp only[hj,hl,dS,kA,pe,false_or,ay,ix,br] at this;exact this.resolve_left eX
def tz (tr:List Nat) (ops:Array Oper):Nat->Nat->Array Bool->Bool
 |0,_,listed=>(Region.ready .any ops listed).isEmpty
 |fuel+1,k,listed=>(Region.ready .any ops listed).contains k&&HD tr ops listed k&&tz tr ops fuel (k+1) (listed.setIfInBounds k true)
def Dc (tr:List Nat) (ops:Array Oper):List Nat->Array Bool->Bool
 |[],listed=>(Region.ready .any ops listed).isEmpty
 |k::r,listed=>(Region.ready .any ops listed).contains k&&HD tr ops listed k&&Dc tr ops r (listed.setIfInBounds k true)
def kC (tr:List Nat) (ops:Array Oper):List Nat->Array Bool->Option (Array Bool)
 |[],listed=>some listed
 |k::r,listed=>if(Region.ready .any ops listed).contains k&&HD tr ops listed k then kC tr ops r (listed.setIfInBounds k true) else none
def jZ (ops:Array Oper) (ks:List Nat):List Oper:=ks.filterMap λk=>ops[k]?
theorem yp {K:S->Prop}:∀ (ks:List Nat) (listed:Array Bool) (s:S),(∀ k∈ks,∃ o,ops[k]?=some o/\lL tr o=false)->
 Dc tr ops ks listed=true->eU P G tr ops (jZ ops ks) s K->E6 P G tr .any ops K ks.length listed s
 |[],_,_,_,hB,h=>⟨by simpa[Dc] using hB,h⟩
 |k::r,listed,s,hA,hB,h=>by
  obtain⟨o,ho,xT⟩:=hA k (aX ..);simp only[Dc,aA] at hB;obtain⟨⟨hr,hf⟩,hB'⟩:=hB;simp only[jZ,ff,ho,eU] at h;obtain⟨e,he,hK⟩:=gw (K:=λs'=>eU P G tr ops (jZ ops r) s' K) xT h;exact vG ho r.length listed s (k5 ho hf) (by simpa using hr) he
   (yp r _ _ (λk hk=>hA k (aT _ hk)) hB' hK)
theorem HE {K K0:S->Prop} (m:Nat) (ku:Array Bool) (WC:∀ s',K0 s'->E6 P G tr .any ops K m ku s'):∀ (ks:List Nat) (listed:Array Bool) (s:S),(∀ k∈ks,∃ o,ops[k]?=some o/\lL tr o=false)->
 kC tr ops ks listed=some ku->eU P G tr ops (jZ ops ks) s K0->E6 P G tr .any ops K (m+ks.length) listed s
 |[],listed,s,_,hB,h=>by simp only[kC,ap] at hB;subst hB;exact WC _ h
 |k::r,listed,s,hA,hB,h=>by
  obtain⟨o,ho,xT⟩:=hA k (aX ..);unfold kC at hB;split at hB
  .rename_i hc
   simp only[aA] at hc;obtain⟨hr,hf⟩:=hc;simp only[jZ,ff,ho,eU] at h;obtain⟨e,he,hK⟩:=gw (K:=λs'=>eU P G tr ops (jZ ops r) s' K0) xT h;have:=vG ho (m+r.length) listed s (k5 ho hf) (by simpa using hr) he
    (HE m ku WC r _ _ (λk hk=>hA k (aT _ hk)) hB hK)
   simpa[dw] using this
  .cases hB
def Dd (tr:List Nat) (ops:Array Oper):Bool:=ops.toList.all (λo=>!lL tr o)&&match kC tr ops (List.range (kp ops)) (Array.replicate ops.size false) with
 |some listed=>(Region.ready .any ops listed).all (λk=>k==kp ops||k==kp ops+1)&&(Region.ready .any ops listed).contains (kp ops)&&decide (kp ops+1<ops.size)&&
   Dc tr ops ((List.range ops.size).drop (kp ops+1)) (listed.setIfInBounds (kp ops) true)&&Dc tr ops (kp ops::(List.range ops.size).drop (kp ops+2)) (listed.setIfInBounds (kp ops+1) true)
 |none=>false
theorem pw (i m:Nat) (h:i+m<=ops.size):jZ ops (List.range' i m)=(ops.toList.drop i).take m:=by
 induction m generalizing i with
 |zero=>simp[jZ]
 |succ m ih=>
  have hi:i<ops.size:=by omega
  have ih':=ih (i+1) (by omega);unfold jZ at ih' ⊢
  have hd:ops.toList.drop i=ops[i]::ops.toList.drop (i+1):=by rw[cw (by simpa using hi)];simp
  rw[jh,ff,aF hi,hd,fK];simp only;rw[ih']
theorem tA (dV:jN n ops=true) (vA:Dd tr ops=true) {K:S->Prop} (hK:∀ a w s,K s->SE G n I0 M w0 s a w->Q .normal a w)
 (h:G0 P G tr ops s K) (cM:SE G n I0 M w0 s a w):wpAny P .any ops Q ops.size (Array.replicate ops.size false) a { w with drawn:=w.drawn+1 }:=by
 unfold Dd at vA;simp only[aA,a8,d5] at vA;obtain⟨hA,vA⟩:=vA;have WT:∀ k,k<ops.size->∃ o,ops[k]?=some o/\lL tr o=false:=λk hk=>⟨ops[k],aF hk,hA _ (by simp)⟩;split at vA
 .rename_i listed wh
  simp only[aA,br] at vA;obtain⟨⟨⟨⟨dC,jL⟩,ej⟩,hl1⟩,hl2⟩:=vA;generalize hi:kp ops=i at *;unfold G0 at h;rw[hi] at h;have hr0:List.range i=List.range' 0 i:=eP;have JI:jZ ops (List.range i)=ops.toList.take i:=by rw[hr0,pw 0 i (by omega)];rfl
  have ajS:(List.range ops.size).drop (i+1)=List.range' (i+1) (ops.size - (i+1)):=by rw[eP,List.drop_range'];simp
  have ajT:(List.range ops.size).drop (i+2)=List.range' (i+2) (ops.size - (i+2)):=by rw[eP,List.drop_range'];simp
  have hci:ops.toList.drop i=ops[i]::ops[i+1]::ops.toList.drop (i+2):=by rw[cw (by simp;omega),cw (i:=i+1) (by simp;omega)];simp
  have LX:jZ ops ((List.range ops.size).drop (i+1))=ops[i+1]::ops.toList.drop (i+2):=by rw[ajS,pw _ _ (by omega)];rw[ey (by simp),cw (by simp;omega)];simp
  have hn2:jZ ops ((List.range ops.size).drop (i+2))=ops.toList.drop (i+2):=by rw[ajT,pw _ _ (by omega)];exact ey (by simp)
  have key:E6 P G tr .any ops K ((ops.size - (i+1)+1)+(List.range i).length) (Array.replicate ops.size false) s:=by
   rw[<- JI] at h;refine HE _ listed (λs' xP=>?_) (List.range i) _ s (λk hk=>WT k (by have:=df.1 hk;omega)) wh h;obtain⟨h1,h2⟩:=xP;rw[hci] at h1 h2;simp only[aal] at h2;refine⟨λh0=>(by rw[h0] at jL;cases jL),λk hk=>?_⟩;have GQ:=a8.1 dC k hk;simp only[dS,kA] at GQ;obtain⟨oi,hoi,hAi⟩:=WT i (by omega);obtain⟨oj,uT,hAj⟩:=WT (i+1) ej;rcases GQ with rfl | rfl
   .unfold pt
    simp only[hoi];rw[show ops[k]=oi from by rw[aF (by omega)] at hoi;simpa using hoi] at h1;simp only[eU] at h1;obtain⟨e,he,hK'⟩:=gw (K:=λs'=>eU P G tr ops (ops[k+1]::ops.toList.drop (k+2)) s' K) hAi h1;refine⟨e,he,?_⟩;have:=yp (K:=K) ((List.range ops.size).drop (k+1)) (listed.setIfInBounds k true) _ (λq hq=>WT q (by have:=df.1 (cY hq);exact this)) hl1 (by rw[LX];exact hK');simpa using this
   .unfold pt
    simp only[uT];rw[show ops[i+1]=oj from by rw[aF ej] at uT;simpa using uT] at h2;simp only[eU] at h2;obtain⟨e,he,hK'⟩:=gw (K:=λs'=>eU P G tr ops (ops[i]::ops.toList.drop (i+2)) s' K) hAj h2;refine⟨e,he,?_⟩;have:=yp (K:=K) (i::(List.range ops.size).drop (i+2)) (listed.setIfInBounds (i+1) true) _ (λq hq=>WT q (by
     rcases bI.1 hq with rfl | hq
     .omega
     .exact df.1 (cY hq))) hl2 (by
     unfold jZ;rw[ff,aF (show i<ops.size by omega)];simp only;have:=hn2;unfold jZ at this;rw[this];exact hK')
    have e1:(i::(List.range ops.size).drop (i+2)).length=ops.size - (i+1):=(by simp;omega);rw[e1] at this;exact this
  have nJ:SE G n I0 M w0 s a { w with drawn:=w.drawn+1 }:=by obtain⟨I,β,ob,hst⟩:=cM;exact⟨I,β,ob,hst.drew⟩
  have e2:(ops.size - (i+1)+1)+(List.range i).length=ops.size:=by simp;omega
  rw[e2] at key;exact pu dV hK _ _ _ _ _ key nJ
 .cases vA
def yq (tr:List Nat) (ops:Array Oper):Bool:=ops.toList.all (λo=>!lL tr o)&&tz tr ops ops.size 0 (Array.replicate ops.size false)
theorem HF {K:S->Prop}:∀ (l:List Oper) (k:Nat) (listed:Array Bool) (s:S),(∀ o∈l,lL tr o=false)->(∀ j,l[j]?=ops[k+j]?)->
 tz tr ops l.length k listed=true->eU P G tr ops l s K->E6 P G tr .any ops K l.length listed s
 |[],_,_,_,_,_,hB,h=>⟨by simpa[tz] using hB,h⟩
 |o::l,k,listed,s,hA,hl,hB,h=>by
  have h0:ops[k]?=some o:=by simpa using(hl 0).symm
  simp only[aI,tz,aA] at hB;obtain⟨⟨hr,hf⟩,hB'⟩:=hB;simp only[eU] at h;obtain⟨e,he,hK⟩:=gw (K:=λs'=>eU P G tr ops l s' K) (hA o (aX ..)) h;exact vG h0 l.length listed s (k5 h0 hf) (by simpa using hr) he
   (HF l (k+1) _ _ (λo ho=>hA o (aT _ ho)) (λj=>by have:=hl (j+1);simpa[dw,lG 1 j] using this) hB' hK)
theorem sB (dV:jN n ops=true) (vA:yq tr ops=true) {K:S->Prop} (hK:∀ a w s,K s->SE G n I0 M w0 s a w->Q .normal a w)
 (h:eU P G tr ops ops.toList s K) (cM:SE G n I0 M w0 s a w):wpAny P .any ops Q ops.size (Array.replicate ops.size false) a { w with drawn:=w.drawn+1 }:=by
 simp only[yq,aA,a8,d5] at vA;have h1:=HF (K:=K) ops.toList 0 (Array.replicate ops.size false) s vA.1 (by simp) (by simpa using vA.2) h;have nJ:SE G n I0 M w0 s a { w with drawn:=w.drawn+1 }:=by obtain⟨I,β,ob,hst⟩:=cM;exact⟨I,β,ob,hst.drew⟩
 have:=pu dV hK _ _ _ _ _ h1 nJ;simpa using this
theorem yr {id:Nat} (hm:P.follows .mixedOrders=true) (dV:jN n ops=true) (vA:Dd tr ops=true) {K:S->Prop} (hK:∀ a w s,K s->SE G n I0 M w0 s a w->Q .normal a w)
 (h:G0 P G tr ops s K) (cM:SE G n I0 M w0 s a w):(Code.region id ops true).wp P Q a w:=wp_region_any hm (tA dV vA hK h cM)
theorem wL {id:Nat} (hm:P.follows .mixedOrders=true) (dV:jN n ops=true) (vA:yq tr ops=true) {K:S->Prop} (hK:∀ a w s,K s->SE G n I0 M w0 s a w->Q .normal a w)
 (h:eU P G tr ops ops.toList s K) (cM:SE G n I0 M w0 s a w):(Code.region id ops true).wp P Q a w:=wp_region_any hm (sB dV vA hK h cM)
def zd (P:Program) (G:Gl) (tr:List Nat) (ops:Array Oper) (L1:Array Bool) (K0:S->Prop):Nat->Array Bool->S->Prop
 |0,listed,s=>listed=L1/\K0 s
 |fuel+1,listed,s=>Region.ready .any ops listed≠[]/\∀ i∈Region.ready .any ops listed,pt P G tr ops i (zd P G tr ops L1 K0 fuel (listed.setIfInBounds i true)) s
def wM (ops:Array Oper) (m:Nat):Bool:=(List.range ops.size).all λj=>decide (j<m)||match ops[j]? with
 |some o=>(List.range m).all λk=>o.after.any λe=>Region.binds .any e&&(e.on==k)
 |none=>true
theorem E9 {m:Nat} (h:wM ops m=true) {j k:Nat} {oj:Oper} (hj:ops[j]?=some oj) (hm:m<=j) (hk:k<m):∃ e∈oj.after,Region.binds .any e=true/\e.on=k:=by unfold wM at h;rw[a8] at h;have h1:=h j (df.2 (bq.1 hj).1);simp only[hj,dS,br] at h1;have h2:=a8.1 (h1.resolve_left (by omega)) k (df.2 hk);rw[Array.any_eq_true'] at h2;obtain⟨e,he,h3⟩:=h2;simp only[aA,kA] at h3;exact⟨e,he,h3.1,h3.2⟩
theorem Be {m q j:Nat} (h:(oO m q).getD j true=false):m<=j:=by
 rcases cd j m with hj | hj
 .exfalso
  unfold oO at h;rw[au,du,aM (by simpa using hj)] at h;simp[hj] at h
 .exact hj
theorem De {m q j:Nat} (h:(oO m q).getD j false=true):j<m:=by
 rcases cd j m with hj | hj
 .exact hj
 .exfalso
  unfold oO at h;rw[au,du,aU (by simpa using hj),List.getElem?_replicate] at h;split at h<;>simp at h
theorem HG {K0:S->Prop} {m:Nat} (QJ:wM ops m=true) {i:Nat} {oi:Oper} {e:Ef} (hi:ops[i]?=some oi) :
 ∀ (fuel:Nat) (listed:Array Bool) (s:S),listed.size=ops.size->FreeAt tr .any ops listed i oi->
  i∈Region.ready .any ops listed->TEf P G tr ops oi s e->
  zd P G tr ops (oO m ops.size) K0 fuel (listed.setIfInBounds i true) (e.run tr oi s)->zd P G tr ops (oO m ops.size) K0 (fuel+1) listed s:=by
 intro fuel;induction fuel with
 |zero=>
  intro listed s ej _ hr hy H;refine⟨λh=>(by rw[h] at hr;cases hr),λj hj=>?_⟩;by_cases pe:j=i
  .subst pe;unfold pt;simp only[hi];exact⟨e,hy,H⟩
  .exfalso
   obtain⟨Z8,oj,uT,dC⟩:=iK.1 hj;have N1:i<listed.size:=(by rw[ej];exact(bq.1 hi).1);have h1:(oO m ops.size).getD j true=false:=(by rw[<- H.1,lC true (gz pe)];exact Z8);have h2:(oO m ops.size).getD i false=true:=(by rw[<- H.1,au,Array.getElem?_setIfInBounds_self_of_lt N1];rfl);obtain⟨ed,hed,hb,WE⟩:=E9 QJ uT (Be h1) (De h2);have h3:=dC ed hed hb;rw[WE] at h3;have h4:=(iK.1 hr).1;rw[au,aF N1] at h3 h4;simp only[ba] at h3 h4;rw[h4] at h3;cases h3
 |succ fuel ih=>
  intro listed s ej sO hr hy H;refine⟨λh=>(by rw[h] at hr;cases hr),λj hj=>?_⟩;by_cases pe:j=i
  .subst pe;unfold pt;simp only[hi];exact⟨e,hy,H⟩
  .have h1:=H.2 j (jM hj pe)
   obtain⟨_,oj,uT,_⟩:=iK.1 hj;obtain⟨u4,su⟩:=sO.step hr hj pe uT;unfold pt at h1 ⊢
   simp only[uT] at h1 ⊢
   obtain⟨f,hf,hK⟩:=h1;have zN:=hy.back u4 hf;refine⟨f,zN,ih (listed.setIfInBounds j true) _ (by rw[eA];exact ej) su (jM hr (gz pe)) (hy.keep u4 zN) ?_⟩;rw[hZ _ _ pe,<- tw u4 hy zN];exact hK
theorem Df {K0:S->Prop} {m:Nat} (QJ:wM ops m=true):∀ (ks:List Nat) (listed:Array Bool) (s:S),listed.size=ops.size->(∀ k∈ks,∃ o,ops[k]?=some o/\lL tr o=false)->
 kC tr ops ks listed=some (oO m ops.size)->eU P G tr ops (jZ ops ks) s K0->zd P G tr ops (oO m ops.size) K0 ks.length listed s
 |[],listed,s,_,_,hB,h=>by simp only[kC,ap] at hB;exact⟨hB,h⟩
 |k::r,listed,s,ej,hA,hB,h=>by
  obtain⟨o,ho,xT⟩:=hA k (aX ..);unfold kC at hB;split at hB
  .rename_i hc
   simp only[aA] at hc;obtain⟨hr,hf⟩:=hc;simp only[jZ,ff,ho,eU] at h;obtain⟨e,he,hK⟩:=gw (K:=λs'=>eU P G tr ops (jZ ops r) s' K0) xT h;exact HG QJ ho r.length listed s ej (k5 ho hf) (by simpa using hr) he
    (Df QJ r _ _ (by rw[eA];exact ej) (λk hk=>hA k (aT _ hk)) hB hK)
  .cases hB
theorem MA {K:S->Prop} {KW:Act->World->Prop} {i:Nat} {oi:Oper} {e:Ef} (dV:jN n ops=true) (hi:ops[i]?=some oi) (he:TEf P G tr ops oi s e) (cM:SE G n I0 M w0 s a w)
 (hK:K (e.run tr oi s)) (hKW:∀ a w s,K s->SE G n I0 M w0 s a w->KW a w):wpOp P ops Q i KW a w:=by
 unfold wpOp;simp only[hi];have jL:oi∈ops.toList:=by have:=fj hi;simpa using this
 obtain⟨I,β,ob,hst⟩:=cM;rcases he with⟨hg,hv,_⟩ | ⟨hg,rfl⟩
 .rw[if_pos (kj hst hg)]
  exact .inl (ux hst (fi dV jL) hv λa' w' nJ=>hKW _ _ _ hK nJ)
 .rw[kj hst hg]
  simp only[ay,cD];rw[tq] at hK;exact hKW _ _ _ hK (SE.put hst (fi dV jL) (by simp only[LR];exact .sk))
theorem tB (dV:jN n ops=true) {K0:S->Prop} {L1:Array Bool} {r:Nat} (hK:∀ a w s,K0 s->SE G n I0 M w0 s a w->wpAny P .any ops Q r L1 a w):∀ (fuel:Nat) (listed:Array Bool) (s:S) (a:Act) (w:World),
 zd P G tr ops L1 K0 fuel listed s->SE G n I0 M w0 s a w->wpAny P .any ops Q (r+fuel) listed a w
 |0,listed,_,a,w,h,cM=>by obtain⟨rfl,h⟩:=h;exact hK _ _ _ h cM
 |fuel+1,_,s,a,w,h,cM=>by refine⟨λh0=>absurd h0 h.1,λi hi=>?_⟩;have hh:=h.2 i hi;obtain⟨_,oi,hoi,_⟩:=iK.1 hi;unfold pt at hh;simp only[hoi] at hh;obtain⟨e,he,hh⟩:=hh;exact MA dV hoi he cM hh λa w s hs cM=>tB dV hK fuel _ s a w hs cM
def MB (Q:Exit->Act->World->Prop):Exit->Act->World->Prop:=λe a w=>e=.normal/\Q e a w
theorem yt {Q:Exit->Act->World->Prop}:¬ LetsOut (MB Q):=λ⟨_,_,h,_⟩=>by cases h
theorem Cy {l:Option Nat} {m:Nat} {id:Nat} (hm:P.follows .mixedOrders=true) (qw:AZ ops=true) (dV:jN n ops=true) (vA:Dd tr ops=true) {K:S->Prop} (hK:∀ a w s,K s->SE G n I0 M w0 s a w->Q .normal a w)
 (h:G0 P G tr ops s K) (cM:SE G n I0 M w0 s a w):(Code.region id ops true).wpIn (FW l) m P Q a w:=
 wpIn_mono (Q:=MB Q) (wpIn_region_any hm (wA qw yt _ _ _ _ (tA dV vA (λa w s hk cM=>⟨rfl,hK a w s hk cM⟩) h cM))) (λ_ _ _ h=>h.2)
theorem Bf {l:Option Nat} {m:Nat} {id:Nat} (hm:P.follows .mixedOrders=true) (qw:AZ ops=true) (dV:jN n ops=true) (vA:yq tr ops=true) {K:S->Prop} (hK:∀ a w s,K s->SE G n I0 M w0 s a w->Q .normal a w)
 (h:eU P G tr ops ops.toList s K) (cM:SE G n I0 M w0 s a w):(Code.region id ops true).wpIn (FW l) m P Q a w:=
 wpIn_mono (Q:=MB Q) (wpIn_region_any hm (wA qw yt _ _ _ _ (sB dV vA (λa w s hk cM=>⟨rfl,hK a w s hk cM⟩) h cM))) (λ_ _ _ h=>h.2)
