/- Values without memory: regions that draw their order: an operation's effect. -/
import Derived.Test.YtloppcgcepgbnaaGreatDoorVlCode
import Derived.Orders
set_option linter.all false
namespace Go.Vl
open Go Go.RowKit
section
variable {P:Program} {G:Gl} {tr:List Nat} {s:S} {o:Oper} {x y:V} {K:V→Prop}
theorem yL {op:BinOp} {k:IntKind} {a b:Int} (h:mO op k a b K):∃ v,mO op k a b (fun u=>v=u)∧K v:=by
 cases op<;>simp only[mO] at h ⊢<;>first | exact⟨_,rfl,h⟩ | exact⟨_,⟨h.1,rfl⟩,h.2⟩
theorem QH {op:BinOp} {a b:ByteArray} (h:FK op a b K):∃ v,FK op a b (fun u=>v=u)∧K v:=by
 cases op<;>simp only[FK] at h ⊢<;>first | exact h.elim | exact⟨_,rfl,h⟩ | exact⟨_,⟨h.1,rfl⟩,h.2⟩
theorem QI {op:BinOp} {T:TypeId} (h:jX P op T x y K):∃ v,jX P op T x y (fun u=>v=u)∧K v:=by
 unfold jX at h
 split at h
 ·split at h
  ·exact yL h
  ·exact yL h
  ·rename_i h1 h2
   split at h
   ·rename_i hk
    obtain⟨v,hv,hK⟩:=yL h
    refine⟨v,?_,hK⟩
    unfold jX
    simp only[if_pos hk]
    first | exact hv | (split<;>first | exact hv | simp_all)
   ·exact h.elim
 ·exact QH h
 ·split at h
  ·rename_i hi
   split at h
   ·exact⟨_,by simp only[jX,hi],h⟩
   ·exact⟨_,by simp only[jX,hi],h⟩
   ·exact h.elim
  ·exact h.elim
 ·split at h
  ·rename_i hi
   split at h
   ·rename_i hr
    obtain⟨hl,h⟩:=h
    split at h
    ·exact⟨_,by simp only[jX,hi,hr];exact⟨hl,trivial⟩,h⟩
    ·exact⟨_,by simp only[jX,hi,hr];exact⟨hl,trivial⟩,h⟩
    ·exact h.elim
   ·exact h.elim
  ·exact h.elim
 ·exact h.elim
theorem U5 {op:UnOp} (h:vun op x K):∃ v,vun op x (fun u=>v=u)∧K v:=by
 unfold vun at h
 split at h<;>first | exact h.elim | exact⟨_,rfl,h⟩
theorem rZ {ag:Bool} {sz off:Nat} {cs:List C} (h:cJ ag sz off cs K):∃ v,cJ ag sz off cs (fun u=>v=u)∧K v:=by
 unfold cJ at h
 split at h
 ·rename_i kO;exact⟨_,by unfold cJ;rw[if_pos kO];exact⟨h.1,rfl⟩,h.2⟩
 ·rename_i kO
  split at h
  ·rename_i c hc;exact⟨_,by unfold cJ;rw[if_neg kO,hc],h⟩
  ·exact h.elim
theorem MI {ag:Bool} {sz off:Nat} {vs:List V} (h:zw ag sz off vs K):∃ v,zw ag sz off vs (fun u=>v=u)∧K v:=by
 unfold zw at h
 split at h
 ·rename_i kO;exact⟨_,by unfold zw;rw[if_pos kO];exact⟨h.1,rfl⟩,h.2⟩
 ·rename_i kO
  split at h
  ·rename_i c hc;exact⟨_,by unfold zw;rw[if_neg kO,hc],h⟩
  ·exact h.elim
theorem MJ {T:TypeId} (h:cK P T s x K):∃ v,cK P T s x (fun u=>v=u)∧K v:=by
 unfold cK at h
 split at h
 ·rename_i hi
  obtain⟨v,h1,h2⟩:=rZ h
  exact⟨v,by unfold cK;rw[hi];exact h1,h2⟩
 ·rename_i i b k hi
  obtain⟨hb,h⟩:=h
  split at h
  ·rename_i kO
   exact⟨_,by unfold cK;rw[hi];refine⟨hb,?_⟩;rw[if_pos kO];exact⟨h.1,rfl⟩,h.2⟩
  ·rename_i kO
   split at h
   ·rename_i c hc
    exact⟨_,by unfold cK;rw[hi];refine⟨hb,?_⟩;rw[if_neg kO,hc],h⟩
   ·exact h.elim
 ·rename_i hi
  rcases h with⟨h1,b,k,len,cap,E,es,c,h2,h⟩ | ⟨b,k,len,cap,E,es,h2,h⟩
  ·exact⟨_,by unfold cK;simp only[hi];exact .inl ⟨h1,b,k,len,cap,E,es,c,h2,rfl⟩,h⟩
  ·obtain⟨v,h3,h4⟩:=rZ h
   exact⟨v,by unfold cK;simp only[hi];exact .inr ⟨b,k,len,cap,E,es,h2,h3⟩,h4⟩
 ·exact h.elim
theorem An {T:TypeId} {f:Nat} (h:aM P T x f K):∃ v,aM P T x f (fun u=>v=u)∧K v:=by
 unfold aM at h
 split at h
 ·rename_i i hi
  split at h
  ·rename_i hf;exact⟨_,by unfold aM;simp only[hi,hf];exact⟨h.1,trivial⟩,h.2⟩
  ·rename_i hf;exact⟨_,by unfold aM;simp only[hi,hf];exact⟨h.1,trivial⟩,h.2⟩
  ·rename_i hf;exact⟨_,by unfold aM;simp only[hi,hf];exact⟨h.1,trivial⟩,h.2⟩
  ·exact h.elim
 ·exact h.elim
theorem IB {T:TypeId} {f:Nat} (h:rT P T x f K):∃ v,rT P T x f (fun u=>v=u)∧K v:=by
 unfold rT at h
 split at h
 ·rename_i hi
  split at h
  ·rename_i hf
   obtain⟨v,h1,h2⟩:=rZ h
   exact⟨v,by unfold rT;simp only[hi,hf];exact h1,h2⟩
  ·exact h.elim
 ·rename_i hi
  split at h
  ·rename_i hf
   obtain⟨v,h1,h2⟩:=MI h
   exact⟨v,by unfold rT;simp only[hi,hf];exact h1,h2⟩
  ·exact h.elim
 ·exact h.elim
theorem Ao {T:TypeId} (h:dS P T x y K):∃ v,dS P T x y (fun u=>v=u)∧K v:=by
 unfold dS at h
 split at h
 ·rename_i hi
  split at h
  ·rename_i hj
   obtain⟨h0,h⟩:=h
   split at h
   ·rename_i hc
    exact⟨_,by unfold dS;simp only[hi,hj,hc];exact⟨h0,h.1,trivial⟩,h.2⟩
   ·exact h.elim
  ·exact h.elim
 ·rename_i hi
  split at h
  ·rename_i hj
   exact⟨_,by unfold dS;simp only[hi,hj];exact⟨h.1,trivial⟩,h.2⟩
  ·exact h.elim
 ·rename_i hi
  split at h
  ·rename_i hj
   exact⟨_,by unfold dS;simp only[hi,hj];exact⟨h.1,trivial⟩,h.2⟩
  ·exact h.elim
 ·rename_i hi
  split at h
  ·rename_i hj
   exact⟨_,by unfold dS;simp only[hi,hj];exact⟨h.1,trivial⟩,h.2⟩
  ·exact h.elim
 ·rename_i hi
  split at h
  ·rename_i hj
   exact⟨_,by unfold dS;simp only[hi,hj];exact⟨h.1,trivial⟩,h.2⟩
  ·exact h.elim
 ·exact h.elim
theorem IC {T:TypeId} (h:mb P T x y K):∃ v,mb P T x y (fun u=>v=u)∧K v:=by
 unfold mb at h
 split at h
 ·rename_i hi
  obtain⟨h0,h⟩:=h
  split at h
  ·rename_i hc
   exact⟨_,by unfold mb;simp only[hi,hc];exact⟨h0,trivial⟩,h⟩
  ·exact h.elim
 ·rename_i hi
  split at h
  ·rename_i hj
   obtain⟨v,h1,h2⟩:=rZ h.2
   exact⟨v,by unfold mb;simp only[hi,hj];exact⟨h.1,h1⟩,h2⟩
  ·exact h.elim
 ·exact h.elim
theorem ID {T:TypeId} {lo hi mx:Option V} (h:jl P T x lo hi mx K):∃ v,jl P T x lo hi mx (fun u=>v=u)∧K v:=by
 unfold jl at h
 split at h
 ·rename_i ht
  split at h
  ·rename_i e1 e2
   exact⟨_,by unfold jl;simp only[ht,e1,e2];exact⟨h.1,trivial⟩,h.2⟩
  ·exact h.elim
 ·rename_i ht
  split at h
  ·split at h
   ·rename_i e1 e2 e3
    exact⟨_,by unfold jl;simp only[ht,e1,e2,e3];exact⟨h.1,trivial⟩,h.2⟩
   ·exact h.elim
  ·split at h
   ·rename_i e1 e2
    exact⟨_,by unfold jl;simp only[ht,e1,e2];exact⟨h.1,trivial⟩,h.2⟩
   ·exact h.elim
  ·exact h.elim
 ·rename_i ht
  split at h
  ·rename_i e1 e2 e3 e4
   exact⟨_,by unfold jl;simp only[ht,e1,e2,e3,e4];exact⟨h.1,trivial⟩,h.2⟩
  ·exact h.elim
 ·rename_i ht
  split at h
  ·rename_i e1 e2 e3 e4
   exact⟨_,by unfold jl;simp only[ht,e1,e2,e3,e4];exact⟨h.1,trivial⟩,h.2⟩
  ·exact h.elim
 ·rename_i ht
  split at h
  ·rename_i e1
   exact⟨_,by unfold jl;simp only[ht,e1];exact⟨h.1,trivial⟩,h.2⟩
  ·exact h.elim
 ·rename_i ht
  split at h
  ·rename_i e1 e2 e3
   exact⟨_,by unfold jl;simp only[ht,e1,e2,e3];exact⟨h.1,trivial⟩,h.2⟩
  ·exact h.elim
 ·exact h.elim
theorem QJ {T:TypeId} (h:H6 P T x K):∃ v,H6 P T x (fun u=>v=u)∧K v:=by
 unfold H6 at h
 split at h
 ·rename_i e1
  split at h
  ·rename_i e2;exact⟨_,by unfold H6;simp only[e1,e2];exact⟨h.1,trivial⟩,h.2⟩
  ·exact h.elim
 ·exact h.elim
theorem ML {src dst:TypeId} (h:iW P src dst x K):∃ v,iW P src dst x (fun u=>v=u)∧K v:=by
 unfold iW at h
 split at h
 ·rename_i e1 e2;exact⟨_,by unfold iW;simp only[e1,e2],h⟩
 ·rename_i e1 e2;exact⟨_,by unfold iW;simp only[e1,e2],h⟩
 ·rename_i e1 e2
  split at h
  ·rename_i e3;exact⟨_,by unfold iW;simp only[e1,e2,e3],h⟩
  ·exact h.elim
 ·rename_i e1 e2
  split at h
  ·rename_i e3
   split at h
   ·rename_i e4;exact⟨_,by unfold iW;simp only[e1,e2,e3,e4],h⟩
   ·exact h.elim
  ·exact h.elim
 ·exact h.elim
theorem IE {T:TypeId} {parts:List (Nat×V)} (h:iD P T parts K):∃ v,iD P T parts (fun u=>v=u)∧K v:=by
 unfold iD at h
 split at h
 ·rename_i e1
  split at h
  ·rename_i e2;exact⟨_,by unfold iD;simp only[e1,e2],h⟩
  ·rename_i e2
   split at h
   ·rename_i e3;exact⟨_,by unfold iD;simp only[e1,e2,e3],h⟩
   ·exact h.elim
 ·rename_i e1
  split at h
  ·rename_i e2
   split at h
   ·rename_i e3;exact⟨_,by unfold iD;simp only[e1,e2,e3],h⟩
   ·rename_i e3
    split at h
    ·rename_i e4;exact⟨_,by unfold iD;simp only[e1,e2,e3,e4],h⟩
    ·exact h.elim
  ·exact h.elim
 ·exact h.elim
theorem nF {T:TypeId} {len:Nat} {parts:List (Nat×V)} (h:cw P T len parts K):∃ v,cw P T len parts (fun u=>v=u)∧K v:=by
 unfold cw at h
 split at h
 ·rename_i e1
  split at h
  ·rename_i e2
   obtain⟨h0,h⟩:=h
   split at h
   ·rename_i e3;exact⟨_,by unfold cw;simp only[e1,e2,e3];exact⟨h0,trivial⟩,h⟩
   ·exact h.elim
  ·exact h.elim
 ·exact h.elim
theorem QK {T:TypeId} (h:fw P T x K):∃ v,fw P T x (fun u=>v=u)∧K v:=by
 unfold fw at h
 split at h
 all_goals first | exact h.elim | (rename_i e1;exact⟨_,by unfold fw;simp only[e1],h⟩)
theorem xC {T:TypeId} (h:eR P T x y K):∃ v,eR P T x y (fun u=>v=u)∧K v:=by
 unfold eR at h
 split at h
 ·rename_i e1
  split at h
  ·rename_i e2
   obtain⟨h0,h⟩:=h
   split at h
   ·exact⟨_,by unfold eR;simp only[e1,e2];exact⟨h0,h.1,trivial⟩,h.2⟩
   ·exact h.elim
  ·exact h.elim
 ·exact h.elim
theorem Ep {mx:Bool} {l:List V} (h:A6 mx l K):∃ v,A6 mx l (fun u=>v=u)∧K v:=by
 unfold A6 at h
 split at h
 ·exact⟨_,rfl,h⟩
 ·exact h.elim
theorem MM {f:V} {l:List V} (h:rb P G s f l K):∃ v,rb P G s f l (fun u=>v=u)∧K v:=by
 unfold rb at h
 split at h
 ·split at h
  ·rename_i e1
   obtain⟨r,h1,h2,h3⟩:=h
   exact⟨r,by unfold rb;simp only[e1];exact⟨r,h1,h2,rfl⟩,h3⟩
  ·exact h.elim
 ·split at h
  ·rename_i e1 e2 e3
   obtain⟨r,h1,h2,h3⟩:=h
   exact⟨r,by unfold rb;simp only[e1,e2,e3];exact⟨r,h1,h2,rfl⟩,h3⟩
  ·exact h.elim
 ·exact h.elim
theorem qK {b:Builtin} {ts:List TypeId} {l:List V} (h:eX P b ts l K):∃ v,eX P b ts l (fun u=>v=u)∧K v:=by
 unfold eX at h
 split at h
 ·exact QK h
 ·split at h
  ·rename_i ht
   obtain⟨v,h1,h2⟩:=xC h
   exact⟨v,by unfold eX;simp only[if_pos ht];exact h1,h2⟩
  ·rename_i ht
   unfold qj at h
   split at h
   ·rename_i e0 e1 e2
    split at h
    ·rename_i e3
     obtain⟨h0,h⟩:=h
     obtain⟨v,h1,h2⟩:=xC h
     exact⟨v,by unfold eX qj;simp only[if_neg ht,e0,e1,e2,e3];exact⟨h0,h1⟩,h2⟩
    ·exact h.elim
   ·exact h.elim
 ·exact Ep h
 ·exact Ep h
 ·exact h.elim
theorem IF {bx:Nat→List V} {nb:Nat} {f:V} {l:List V} {K:(Nat→List V)→Nat→V→Prop} (h:kD P G bx nb f l K):∃ bx' nb' v,kD P G bx nb f l (fun b n u=>(bx'=b∧nb'=n)∧v=u)∧K bx' nb' v:=by
 unfold kD at h
 split at h
 ·rename_i g all e1
  obtain⟨ρ,cargs,b0,r,b1,h1,h2,h3,h4,h5⟩:=h
  exact⟨_,_,_,by unfold kD;simp only[e1];exact⟨ρ,cargs,b0,r,b1,h1,h2,h3,h4,⟨rfl,rfl⟩,rfl⟩,h5⟩
 ·exact h.elim
theorem Bq {bx:Nat→List V} {nb n m:Nat} {K:(Nat→List V)→Nat→V→Prop} (h:A8 bx nb n m K x):∃ bx' nb' v,A8 bx nb n m (fun b n u=>(bx'=b∧nb'=n)∧v=u) x∧K bx' nb' v:=by
 unfold A8 at h
 split at h
 ·exact⟨_,_,_,⟨⟨rfl,rfl⟩,rfl⟩,h⟩
 ·exact h.elim
theorem MN {T:TypeId} {K:Nat→Nat→Nat→List C→Prop} (h:re P T x y K):∃ n m sz z,re P T x y (fun n' m' sz' z'=>n=n'∧m=m'∧sz=sz'∧z=z')∧K n m sz z:=by
 unfold re at h
 split at h
 ·rename_i e1
  split at h
  ·rename_i e2
   exact⟨_,_,_,_,by unfold re;simp only[e1,e2];exact⟨h.1,by simp⟩,h.2⟩
  ·exact h.elim
 ·exact h.elim
theorem jm {T:TypeId} {K:Nat→List Nat→Nat→List V→Option Nat→V→Prop} (h:gR P T s x y K) :
 ∃ i bs cl r res z,gR P T s x y (fun i' bs' cl' r' res' z'=>i=i'∧bs=bs'∧cl=cl'∧r=r'∧res=res'∧z=z')∧K i bs cl r res z:=by
 unfold gR at h
 split at h
 ·rename_i e1
  split at h
  ·rename_i e2 e3
   split at h
   ·rename_i e4 e5 e6
    split at h
    ·rename_i e7
     split at h
     ·rename_i e8
      exact⟨_,_,_,_,_,_,by unfold gR;simp only[e1,e2,e3,e4,e5,e6,e7,e8];exact⟨h.1,by simp⟩,h.2⟩
     ·exact h.elim
    ·exact h.elim
   ·exact h.elim
  ·exact h.elim
 ·exact h.elim
theorem gv {T:TypeId} {i cl:Nat} {bs:List Nat} {r:List V} {res:Option Nat} {z:V} {K:Nat→List Nat→Nat→List V→Option Nat→V→Prop}
 (h:gR P T s x y (fun i' bs' cl' r' res' z'=>i=i'∧bs=bs'∧cl=cl'∧r=r'∧res=res'∧z=z')) (hK:K i bs cl r res z):gR P T s x y K:=by
 unfold gR at h
 split at h
 ·rename_i e1
  split at h
  ·rename_i e2 e3
   split at h
   ·rename_i e4 e5 e6
    split at h
    ·rename_i e7
     split at h
     ·rename_i e8
      obtain⟨h1,rfl,rfl,rfl,rfl,rfl,rfl⟩:=h
      unfold gR;simp only[e1,e2,e3,e4,e5,e6,e7,e8];exact⟨h1,hK⟩
     ·exact h.elim
    ·exact h.elim
   ·exact h.elim
  ·exact h.elim
 ·exact h.elim
theorem pq {T:TypeId} {kt et:TypeId} {tT tk te:TI} {ks:List EK} {kc:List C} {k z:V} {i cl:Nat} {bs:List Nat} {r:List V} {kcs:List (List C)} {res:Option Nat} {KM:Nat→List Nat→Nat→List V→Option Nat→V→Prop}
 (hT:ti P T=some tT) (hm:tT.kd=.map kt et) (hk:ti P kt=some tk) (Ql:tk.eqs=some ks) (he:ti P et=some te) (hc:k.kcs tk.agg=some kc) (hz:oC te=some z) (hb:s.bx i=.mk bs cl::r)
 (hkc:jY tk.agg r=some kcs) (hf:nv ks kc kcs 0=some res) (hi:i<s.nb) (hl:kc.length=ks.length) (hr:iC ks kc kc=some true) (ha:zaB P et=true) (hK:KM i bs cl r res z):gR P T s (.mr i) k KM:=by
 obtain⟨kd,a1,a2,a3,a4,a5,a6⟩:=tT
 obtain⟨b1,b2,b3,ag,b5,b6,b7⟩:=tk
 simp only at hm Ql hc hkc
 subst hm;subst Ql
 unfold gR
 simp only[hT,hk,he,hc,hz,hb,hkc,hf]
 exact⟨⟨hi,hl,hr,ha⟩,hK⟩
theorem IG {T:TypeId} {K K':Nat→List Nat→Nat→List V→Option Nat→V→Prop} (h:gR P T s x y K) (h':gR P T s x y K'):∃ i bs cl r res z,K i bs cl r res z∧K' i bs cl r res z:=by
 unfold gR at h
 split at h
 ·rename_i e1
  split at h
  ·rename_i e2 e3
   split at h
   ·rename_i e4 e5 e6
    split at h
    ·rename_i e7
     split at h
     ·rename_i e8
      unfold gR at h';simp only[e1,e2,e3,e4,e5,e6,e7,e8] at h'
      exact⟨_,_,_,_,_,_,h.2,h'.2⟩
     ·exact h.elim
    ·exact h.elim
   ·exact h.elim
  ·exact h.elim
 ·exact h.elim
theorem mz {T:TypeId} {s':S} {K:Nat→List Nat→Nat→List V→Option Nat→V→Prop} (hb:s.bx=s'.bx) (hn:s.nb=s'.nb) (h:gR P T s x y K):gR P T s' x y K:=by
 unfold gR at h ⊢
 rw[← hb,← hn];exact h
theorem Gq {T:TypeId} {v:V} {K:S→Prop} (h:gV P T s x y v K):∃ bx,gV P T ⟨fun _=>.un,s.bx,s.nb⟩ x y v (fun s'=>bx=s'.bx)∧K { s with bx:=bx }:=by
 unfold gV at h
 obtain⟨i,bs,cl,r,res,z,h1,h2⟩:=jm h
 cases res with
 |none=>exact⟨_,gv (mz rfl rfl h1) rfl,h2⟩
 |some j=>exact⟨_,gv (mz rfl rfl h1) rfl,h2⟩
theorem Gs {T:TypeId} {v:V} {bx:Nat→List V} (h:gV P T ⟨fun _=>.un,s.bx,s.nb⟩ x y v (fun s'=>bx=s'.bx)):gV P T s x y v (fun s'=>{ s with bx:=bx }=s'):=by
 unfold gV at h
 obtain⟨i,bs,cl,r,res,z,h1,h2⟩:=jm h
 cases res with
 |none=>simp only at h2;subst h2;exact gv (mz rfl rfl h1) rfl
 |some j=>simp only at h2;subst h2;exact gv (mz rfl rfl h1) rfl
theorem Br {T:TypeId} {K:S→V→Prop} (h:fQ P T s x y K):∃ bx v,fQ P T ⟨fun _=>.un,s.bx,s.nb⟩ x y (fun s' u=>bx=s'.bx∧v=u)∧K { s with bx:=bx } v:=by
 unfold fQ at h
 obtain⟨i,bs,cl,r,res,z,h1,h2⟩:=jm h
 cases res with
 |none=>exact⟨_,_,gv (mz rfl rfl h1) ⟨rfl,rfl⟩,h2⟩
 |some j=>exact⟨s.bx,_,gv (mz rfl rfl h1) ⟨rfl,rfl⟩,h2⟩
theorem pF {T:TypeId} {v:V} {bx:Nat→List V} (h:fQ P T ⟨fun _=>.un,s.bx,s.nb⟩ x y (fun s' u=>bx=s'.bx∧v=u)):fQ P T s x y (fun s' u=>{ s with bx:=bx }=s'∧v=u):=by
 unfold fQ at h
 obtain⟨i,bs,cl,r,res,z,h1,h2⟩:=jm h
 cases res with
 |none=>obtain⟨rfl,rfl⟩:=h2;exact gv (mz rfl rfl h1) ⟨rfl,rfl⟩
 |some j=>obtain⟨rfl,rfl⟩:=h2;exact gv (mz rfl rfl h1) ⟨rfl,rfl⟩
theorem Bt {v:V} {K:S→Prop} (h:fG s x y v K):∃ bx,fG ⟨fun _=>.un,s.bx,s.nb⟩ x y v (fun s'=>bx=s'.bx)∧K { s with bx:=bx }:=by
 unfold fG at h
 split at h
 ·split at h
  ·rename_i e2
   split at h
   ·rename_i e3;exact⟨_,by unfold fG;simp only[e2,e3];exact⟨h.1,trivial⟩,h.2⟩
   ·exact h.elim
  ·exact h.elim
 ·exact h.elim
theorem Bv {v:V} {bx:Nat→List V} (h:fG ⟨fun _=>.un,s.bx,s.nb⟩ x y v (fun s'=>bx=s'.bx)):fG s x y v (fun s'=>{ s with bx:=bx }=s'):=by
 unfold fG at h
 split at h
 ·split at h
  ·rename_i e2
   split at h
   ·rename_i e3;obtain⟨h1,rfl⟩:=h;unfold fG;simp only[show s.bx _=_ from e2,e3];exact⟨h1,trivial⟩
   ·exact h.elim
  ·exact h.elim
 ·exact h.elim
theorem MO {ts:List TypeId} {xs:List V} {K:S→V→Prop} (h:nz P s K ts xs):∃ bx v,nz P ⟨fun _=>.un,s.bx,s.nb⟩ (fun s' u=>bx=s'.bx∧v=u) ts xs∧K { s with bx:=bx } v:=by
 unfold nz at h
 split at h
 ·split at h
  ·rename_i e1
   split at h
   ·rename_i e2;exact⟨_,_,by unfold nz;simp only[e1,e2];exact⟨h.1,by simp⟩,h.2⟩
   ·exact h.elim
  ·exact h.elim
 ·exact h.elim
theorem MP {ts:List TypeId} {xs:List V} {bx:Nat→List V} {v:V} (h:nz P ⟨fun _=>.un,s.bx,s.nb⟩ (fun s' u=>bx=s'.bx∧v=u) ts xs):nz P s (fun s' u=>{ s with bx:=bx }=s'∧v=u) ts xs:=by
 unfold nz at h
 split at h
 ·split at h
  ·rename_i e1
   split at h
   ·rename_i e2;obtain⟨h0,rfl,rfl⟩:=h;unfold nz;simp only[e1,e2];exact⟨h0,by simp⟩
   ·exact h.elim
  ·exact h.elim
 ·exact h.elim
theorem aaQ {ts:List TypeId} {xs:List V} {K K':S→V→Prop} (h:nz P s K ts xs) (hk:∀ s v,K s v→K' s v):nz P s K' ts xs:=by
 unfold nz at h
 split at h
 ·split at h
  ·rename_i e1
   split at h
   ·rename_i e2;unfold nz;simp only[e1,e2];exact⟨h.1,hk _ _ h.2⟩
   ·exact h.elim
  ·exact h.elim
 ·exact h.elim
theorem DI {ts:List TypeId} {xs:List V} {K:S→V→Prop} (h:fy P s K ts xs):∃ bx v,fy P ⟨fun _=>.un,s.bx,s.nb⟩ (fun s' u=>bx=s'.bx∧v=u) ts xs∧K { s with bx:=bx } v:=by
 unfold fy at h
 split at h
 ·rename_i b off len cap sz y
  have hi:vX s y=vX ⟨fun _=>.un,s.bx,s.nb⟩ y:=by cases y<;>rfl
  split at h
  ·rename_i e1 e2
   split at h
   ·rename_i e3;exact⟨_,_,by unfold fy;rw[hi] at e2;simp only[e1,e2,e3];exact⟨h.1,by simp⟩,h.2⟩
   ·exact h.elim
  ·exact h.elim
 ·split at h
  ·rename_i e1
   split at h
   ·rename_i e2
    obtain⟨b,k,j,E,es,h1,h2⟩:=h
    exact⟨_,_,by unfold fy;simp only[e1,e2];exact⟨b,k,j,E,es,h1,by simp⟩,h2⟩
   ·exact h.elim
  ·exact h.elim
 ·exact h.elim
theorem DJ {ts:List TypeId} {xs:List V} {bx:Nat→List V} {v:V} (h:fy P ⟨fun _=>.un,s.bx,s.nb⟩ (fun s' u=>bx=s'.bx∧v=u) ts xs):fy P s (fun s' u=>{ s with bx:=bx }=s'∧v=u) ts xs:=by
 unfold fy at h
 split at h
 ·rename_i b off len cap sz y
  have hi:vX s y=vX ⟨fun _=>.un,s.bx,s.nb⟩ y:=by cases y<;>rfl
  split at h
  ·rename_i e1 e2
   split at h
   ·rename_i e3;obtain⟨h0,rfl,rfl⟩:=h;unfold fy;rw[← hi] at e2;simp only[e1,e2,e3];exact⟨h0,by simp⟩
   ·exact h.elim
  ·exact h.elim
 ·split at h
  ·rename_i e1
   split at h
   ·rename_i e2
    obtain⟨b,k,j,E,es,h1,rfl,rfl⟩:=h
    unfold fy;simp only[e1,e2];exact⟨b,k,j,E,es,h1,by simp⟩
   ·exact h.elim
  ·exact h.elim
 ·exact h.elim
theorem MQ {ts:List TypeId} {xs:List V} {K K':S→V→Prop} (h:fy P s K ts xs) (hk:∀ s v,K s v→K' s v):fy P s K' ts xs:=by
 unfold fy at h
 split at h
 ·split at h
  ·rename_i e1 e2
   split at h
   ·rename_i e3;unfold fy;simp only[e1,e2,e3];exact⟨h.1,hk _ _ h.2⟩
   ·exact h.elim
  ·exact h.elim
 ·split at h
  ·rename_i e1
   split at h
   ·rename_i e2
    obtain⟨b,k,j,E,es,h1,h2⟩:=h
    unfold fy;simp only[e1,e2];exact⟨b,k,j,E,es,h1,hk _ _ h2⟩
   ·exact h.elim
  ·exact h.elim
 ·exact h.elim
theorem xE {tr:List Nat} {o:Oper} {args:Array Operand} {ts:Array TypeId} {K:S→V→Prop} {s':S} (b8:o.op=.call { callee:=.builtin .append,args:=args,argTypes:=ts }) (h:fy P s' K ts.toList (args.toList.map (ev G s))) :
 s.use (bU tr o)=s:=by
 have e:bU tr o=match args.toList with | .tmp t::_=>some t | _=>none:=by
  unfold bU;rw[b8];rfl
 rw[e]
 split
 ·rename_i t r ha
  rw[ha,br] at h
  unfold fy at h
  split at h
  ·rename_i b off len cap sz y sR pX
   simp only[cj] at pX
   have:s.fr t=.ms b off len cap sz:=pX.1
   simp[S.use,this,V.isOw]
  ·rename_i sR pX
   simp only[cj] at pX
   have:=pX.1
   simp only[ev] at this
   simp[S.use,this,V.isOw]
  ·exact h.elim
 ·rfl
theorem IH {ts:List TypeId} {xs:List V} {K:S→Prop} (h:ju P s K ts xs):∃ bx,ju P ⟨fun _=>.un,s.bx,s.nb⟩ (fun s'=>bx=s'.bx) ts xs∧K { s with bx:=bx }:=by
 unfold ju at h
 split at h
 ·split at h
  ·rename_i e1
   split at h
   ·rename_i e2;exact⟨_,by unfold ju;simp only[e1,e2];exact⟨h.1,trivial⟩,h.2⟩
   ·exact h.elim
  ·exact h.elim
 ·split at h
  ·rename_i e1
   split at h
   ·rename_i e2
    obtain⟨b,k,j,cap,E,es,h1,h2⟩:=h
    exact⟨_,by unfold ju;simp only[e1,e2];exact⟨b,k,j,cap,E,es,h1,rfl⟩,h2⟩
   ·exact h.elim
  ·exact h.elim
 ·exact h.elim
theorem II {ts:List TypeId} {xs:List V} {bx:Nat→List V} (h:ju P ⟨fun _=>.un,s.bx,s.nb⟩ (fun s'=>bx=s'.bx) ts xs):ju P s (fun s'=>{ s with bx:=bx }=s') ts xs:=by
 unfold ju at h
 split at h
 ·split at h
  ·rename_i e1
   split at h
   ·rename_i e2;obtain⟨h0,rfl⟩:=h;unfold ju;simp only[e1,e2];exact⟨h0,trivial⟩
   ·exact h.elim
  ·exact h.elim
 ·split at h
  ·rename_i e1
   split at h
   ·rename_i e2
    obtain⟨b,k,j,cap,E,es,h1,rfl⟩:=h
    unfold ju;simp only[e1,e2];exact⟨b,k,j,cap,E,es,h1,rfl⟩
   ·exact h.elim
  ·exact h.elim
 ·exact h.elim
theorem U6 {ts:List TypeId} {xs:List V} {K K':S→Prop} (h:ju P s K ts xs) (hk:∀ s,K s→K' s):ju P s K' ts xs:=by
 unfold ju at h
 split at h
 ·split at h
  ·rename_i e1
   split at h
   ·rename_i e2;unfold ju;simp only[e1,e2];exact⟨h.1,hk _ h.2⟩
   ·exact h.elim
  ·exact h.elim
 ·split at h
  ·rename_i e1
   split at h
   ·rename_i e2
    obtain⟨b,k,j,cap,E,es,h1,h2⟩:=h
    unfold ju;simp only[e1,e2];exact⟨b,k,j,cap,E,es,h1,hk _ h2⟩
   ·exact h.elim
  ·exact h.elim
 ·exact h.elim
theorem QL {T:TypeId} {v:V} {K K':S→Prop} (h:gV P T s x y v K) (hk:∀ s,K s→K' s):gV P T s x y v K':=by
 unfold gV at h
 obtain⟨i,bs,cl,r,res,z,h1,h2⟩:=jm h
 refine gv h1 ?_
 cases res<;>exact hk _ h2
theorem tL {T:TypeId} {K K':S→V→Prop} (h:fQ P T s x y K) (hk:∀ s v,K s v→K' s v):fQ P T s x y K':=by
 unfold fQ at h
 obtain⟨i,bs,cl,r,res,z,h1,h2⟩:=jm h
 refine gv h1 ?_
 cases res<;>exact hk _ _ h2
theorem IJ {v:V} {K K':S→Prop} (h:fG s x y v K) (hk:∀ s,K s→K' s):fG s x y v K':=by
 unfold fG at h
 split at h
 ·split at h
  ·rename_i e2
   split at h
   ·rename_i e3;unfold fG;simp only[e2,e3];exact⟨h.1,hk _ h.2⟩
   ·exact h.elim
  ·exact h.elim
 ·exact h.elim
theorem Gt {T:TypeId} {ok:Bool} (h:fF P T s x y ok K):∃ v,fF P T s x y ok (fun u=>v=u)∧K v:=by
 unfold fF at h
 obtain⟨i,bs,cl,r,res,z,h1,h2⟩:=jm h
 cases res with
 |none=>cases ok<;>exact⟨_,gv h1 rfl,h2⟩
 |some j=>cases ok<;>exact⟨_,gv h1 rfl,h2⟩
theorem zF {T:TypeId} {ok:Bool} {v u:V} (h:fF P T s x y ok (fun w=>v=w)) (h':fF P T s x y ok (fun w=>u=w)):v=u:=by
 unfold fF at h h'
 obtain⟨i,bs,cl,r,res,z,h1,h2⟩:=jm h
 obtain⟨i',bs',cl',r',res',z',jR,oJ⟩:=jm h'
 have e:i'=i∧bs'=bs∧cl'=cl∧r'=r∧res'=res∧z'=z:=by
  have:=IG h1 jR
  obtain⟨_,_,_,_,_,_,⟨rfl,rfl,rfl,rfl,rfl,rfl⟩,rfl,rfl,rfl,rfl,rfl,rfl⟩:=this
  exact⟨rfl,rfl,rfl,rfl,rfl,rfl⟩
 obtain⟨rfl,rfl,rfl,rfl,rfl,rfl⟩:=e
 cases res'<;>cases ok<;>simp only at h2 oJ<;>(rw[show v=_ from h2,show u=_ from oJ])
theorem IK {T:TypeId} (h:oD P T s x K):∃ v,oD P T s x (fun u=>v=u)∧K v:=by
 unfold oD at h
 split at h
 ·rename_i e1
  split at h
  ·rename_i e2;exact⟨_,by unfold oD;simp only[e1,e2];exact⟨h.1,trivial⟩,h.2⟩
  ·exact h.elim
 ·exact h.elim
theorem IL (h:oG s x K):∃ v,oG s x (fun u=>v=u)∧K v:=by
 unfold oG at h
 split at h
 ·split at h
  ·rename_i e2 e3
   split at h
   ·rename_i e4;exact⟨_,by unfold oG;simp only[e2,e3,e4];exact⟨h.1,trivial⟩,h.2⟩
   ·exact h.elim
  ·exact h.elim
 ·exact h.elim
theorem Bw {ts:List TypeId} {E:Option (TypeId×Nat)} {es:List (List C)} (h:nw P ts E es y K):∃ v,nw P ts E es y (fun u=>v=u)∧K v:=by
 unfold nw at h
 split at h
 ·obtain⟨h1,h⟩:=h
  split at h
  ·rename_i e3
   split at h
   ·rename_i e4
    obtain⟨h2,h⟩:=h
    split at h
    ·exact⟨_,by unfold nw;simp only[e3,e4];exact⟨h1,h2,h.1,trivial⟩,h.2⟩
    ·exact h.elim
   ·exact h.elim
  ·exact h.elim
 ·exact h.elim
theorem IM {d:Option Tmp} {args:List Operand} {ts:List TypeId} (h:jZ P G s d ts args K):∃ v,jZ P G s d ts args (fun u=>v=u)∧K v:=by
 unfold jZ at h
 split at h
 ·split at h
  ·rename_i e1 e2
   obtain⟨h0,h⟩:=h
   obtain⟨v,h1,h2⟩:=qK h
   exact⟨v,by unfold jZ;simp only[e1,e2];exact⟨h0,h1⟩,h2⟩
  ·rename_i e1 e2
   obtain⟨h0,h⟩:=h
   obtain⟨v,h1,h2⟩:=Bw h
   exact⟨v,by unfold jZ;simp only[e1,e2];exact⟨h0,h1⟩,h2⟩
  ·rename_i e1
   obtain⟨h0,h⟩:=h
   obtain⟨v,h1,h2⟩:=Bw h
   exact⟨v,by unfold jZ;simp only[e1];exact⟨h0,h1⟩,h2⟩
  ·exact h.elim
 ·exact h.elim
theorem QM {d:Option Tmp} {args:List Operand} {ts:List TypeId} (h:xi P G s d ts args K):∃ v,xi P G s d ts args (fun u=>v=u)∧K v:=by
 unfold xi at h
 split at h
 ·split at h
  ·rename_i e1 e2
   obtain⟨h0,h⟩:=h
   unfold vK at h
   split at h
   ·obtain⟨h1,h⟩:=h
    split at h
    ·rename_i e3
     split at h
     ·rename_i e4
      obtain⟨h2,h⟩:=h
      split at h
      ·rename_i e5
       exact⟨_,by unfold xi;simp only[e1,e2];refine⟨h0,?_⟩;unfold vK;simp only[e3,e4,e5];exact⟨h1,h2,h.1,trivial⟩,h.2⟩
      ·exact h.elim
     ·exact h.elim
    ·exact h.elim
   ·exact h.elim
  ·exact h.elim
 ·exact h.elim
theorem IP (h:VYK P G tr o s K):∃ v,VYK P G tr o s (fun u=>v=u)∧K v:=by
 obtain⟨dst,op,type,pos,after,guard⟩:=o
 cases op<;>simp only[VYK] at h ⊢<;>try exact h.elim
 case move x=>
  split at h
  ·rename_i e;simp only[if_pos e];exact⟨_,rfl,h⟩
  ·rename_i e;simp only[if_neg e];exact⟨_,rfl,h⟩
 case assign x=>exact⟨_,rfl,h⟩
 case pick c a b=>
  split at h
  ·exact⟨_,rfl,h⟩
  ·exact h.elim
 case build T parts=>exact IE h
 case buildSlice T len parts=>exact nF h
 case load T x=>exact MJ h
 case binOp op T x y yT=>exact QI h
 case unOp op T x=>exact U5 h
 case convert src dst x=>exact ML h
 case lookup T x k ok=>exact Gt h
 case range T x=>exact IK h
 case entry x=>exact IL h
 case makeFunc f a b=>exact⟨_,⟨h.1,rfl⟩,h.2⟩
 case sliceToArrayPointer T x=>exact QJ h
 case nilCheck x=>
  split at h
  ·exact⟨_,rfl,h⟩
  ·exact⟨_,rfl,h⟩
  ·exact⟨_,rfl,h⟩
  ·exact h.elim
 case slice T x lo hi mx=>exact ID h
 case fieldAddr T x f=>exact An h
 case field T x f=>exact IB h
 case indexAddr T x i=>exact Ao h
 case index T x i=>exact IC h
 case extract x i=>
  split at h
  ·split at h
   ·exact⟨_,rfl,h⟩
   ·exact h.elim
  ·exact h.elim
 case call c=>
  obtain⟨callee,args,ts⟩:=c
  cases callee with
  |value f=>exact MM h
  |invoke r m=>exact h.elim
  |builtin b=>
   cases b
   case append=>
    have h':(if A7 tr dst then(if v7 tr dst then xi P G s dst ts.toList args.toList K else jZ P G s dst ts.toList args.toList K) else eX P .append ts.toList (args.toList.map fun x=>vw s (ev G s x)) K):=h
    show ∃ v,(if A7 tr dst then(if v7 tr dst then xi P G s dst ts.toList args.toList (fun u=>v=u) else jZ P G s dst ts.toList args.toList (fun u=>v=u)) else eX P .append ts.toList (args.toList.map fun x=>vw s (ev G s x)) (fun u=>v=u))∧K v
    by_cases hg:A7 tr dst=true
    ·rw[if_pos hg] at h';simp only[if_pos hg]
     by_cases Qg:v7 tr dst=true
     ·rw[if_pos Qg] at h';simp only[if_pos Qg];exact QM h'
     ·rw[if_neg Qg] at h';simp only[if_neg Qg];exact IM h'
    ·rw[if_neg hg] at h';simp only[if_neg hg];exact qK h'
   all_goals exact qK h
end
section
variable {P:Program} {G:Gl} {tr:List Nat} {s:S} {o:Oper} {x y:V} {ops:Array Oper} {md:Region.Mode}
inductive Ef where
 |v (x:V)
 |al (cs:List V)
 |st (b k:Nat) (ds:List V)
 |gn (bx:Nat→List V) (nb:Nat) (x:V)
 |skip
def Ef.val (nb:Nat):Ef→V
 | .v x=>x
 | .al _=>.bp nb 0
 | .st _ _ _=>.sk
 | .gn _ _ x=>x
 | .skip=>.sk
def Ef.bx (nb:Nat) (bx:Nat→List V):Ef→Nat→List V
 | .al cs=>up bx nb cs
 | .st b k ds=>up bx b (eS (bx b) k ds)
 | .gn bx' _ _=>bx'
 |_=>bx
def Ef.nb (nb:Nat):Ef→Nat
 | .al _=>nb+1
 | .gn _ nb' _=>nb'
 |_=>nb
def Ef.uses:Ef→Bool
 | .skip=>false
 |_=>true
def Gu (u:Bool) (t:Option Tmp) (fr:Nat→V):Nat→V:=match t with
 |some t=>if u&&(fr t).isOw then up fr t .un else fr
 |none=>fr
def IQ (d:Option Tmp) (x:V) (fr:Nat→V):Nat→V:=match d with
 |some d=>up fr d x
 |none=>fr
def Ef.run (tr:List Nat) (o:Oper) (s:S) (e:Ef):S:=⟨IQ o.dst (e.val s.nb) (Gu e.uses (bU tr o) s.fr),e.bx s.nb s.bx,e.nb s.nb⟩
def VEf (P:Program) (G:Gl) (tr:List Nat) (o:Oper) (s:S) (e:Ef):Prop:=
 match o.op with
 | .alloc T=>match ti P T with
  |some { zero:=some z,.. }=>e=.al (z.map ny)
  |_=>False
 | .box _ x=>match(ev G s x).bcells with
  |some cs=>e=.al cs
  |none=>False
 | .store T p x=>oN tr (LY p) (ev G s p)=true∧match ti P T,ev G s p,(ev G s x).bcells with
  |some i,.bp b k,some cs=>(b<s.nb∧cs.length=i.size∧k+i.size≤(s.bx b).length∧bY (s.bx b)=false)∧e=.st b k cs
  |some i,.c (.ex (.pointer (some ⟨blk,j,none⟩))),_=>(∃ (b k len cap:Nat) (E:Option (TypeId×Nat)) (es:List (List C)) (r:Nat) (e':List C) (c:C),(i.size=1∧b<s.nb∧bY (s.bx b)=false∧(s.bx b)[k]?=some (V.hh (some (.slice (some ⟨blk,0,none⟩) len cap)) E (es++[e']))∧
    (es.flatten.length+r=j∧r<e'.length)∧(ev G s x).asC=some c)∧
   e=.gn (up s.bx b ((s.bx b).set k (.hh (some (.slice (some ⟨blk,0,none⟩) len cap)) E (es++[e'.set r c])))) s.nb .sk)∨ago s.bx s.nb i blk j (ev G s x) (fun bx=>e=.gn bx s.nb .sk)
  |_,_,_=>False
 | .buildSlice T len parts=>if nT tr o.dst then ∃ bx nb x,e=.gn bx nb x∧cw P T len (parts.toList.map fun(i,x)=>(i,ev G s x)) (A8 s.bx s.nb len len fun b n u=>(bx=b∧nb=n)∧x=u)
  else ∃ v,e=.v v∧VYK P G tr o s fun u=>v=u
 | .makeSlice T l c=>∃ bx nb x,e=.gn bx nb x∧re P T (ev G s l) (ev G s c) fun n m sz z=>(up s.bx s.nb ((List.replicate m z).flatten.map .c)=bx∧s.nb+1=nb)∧V.ms s.nb 0 n m sz=x
 | .call { callee:=.value f,args:=args,.. }=>if xj tr o.dst then ∃ bx nb x,e=.gn bx nb x∧kD P G s.bx s.nb (ev G s f) (args.toList.map (ev G s)) (fun b n u=>(bx=b∧nb=n)∧x=u)∧(Ds tr o.dst=true→nb=s.nb∧∀ b,bx b=s.bx b∨(b<100∧tr.contains (500000+o.dst.getD 0*100+b)=true))
  else ∃ v,e=.v v∧VYQ P G tr o s f args fun u=>v=u
 | .load _ x=>∃ v,e=.v v∧oN tr o.dst (ev G s x)=true∧VYK P G tr o s fun u=>v=u
 | .mapUpdate T m k x=>∃ bx,e=.gn bx s.nb .sk∧gV P T ⟨fun _=>.un,s.bx,s.nb⟩ (ev G s m) (ev G s k) (ev G s x) fun s'=>bx=s'.bx
 | .mapEntry T m k=>∃ bx v,e=.gn bx s.nb v∧fQ P T ⟨fun _=>.un,s.bx,s.nb⟩ (ev G s m) (ev G s k) fun s' u=>bx=s'.bx∧v=u
 | .entryStore _ m n x=>∃ bx,e=.gn bx s.nb .sk∧fG ⟨fun _=>.un,s.bx,s.nb⟩ (ev G s m) (ev G s n) (ev G s x) fun s'=>bx=s'.bx
 | .call { callee:=.builtin .copy,args:=args,argTypes:=ts }=>∃ bx v,e=.gn bx s.nb v∧nz P ⟨fun _=>.un,s.bx,s.nb⟩ (fun s' u=>bx=s'.bx∧v=u) ts.toList (args.toList.map (ev G s))
 | .call { callee:=.builtin .append,args:=args,argTypes:=ts }=>if nT tr o.dst then False else if v8 tr o.dst then ∃ bx v,e=.gn bx s.nb v∧fy P ⟨fun _=>.un,s.bx,s.nb⟩ (fun s' u=>bx=s'.bx∧v=u) ts.toList (args.toList.map (ev G s))
  else ∃ v,e=.v v∧VYK P G tr o s fun u=>v=u
 | .call { callee:=.builtin .clear,args:=args,argTypes:=ts }=>∃ bx,e=.gn bx s.nb .un∧ju P ⟨fun _=>.un,s.bx,s.nb⟩ (fun s'=>bx=s'.bx) ts.toList (args.toList.map (ev G s))
 |_=>∃ v,e=.v v∧VYK P G tr o s fun u=>v=u
theorem U7 {t:Option Tmp}:(s.use t).bx=s.bx:=by
 cases t with
 |none=>rfl
 |some t=>simp only[S.use];split<;>rfl
theorem Gv {t:Option Tmp}:(s.use t).nb=s.nb:=by
 cases t with
 |none=>rfl
 |some t=>simp only[S.use];split<;>rfl
theorem zG (v:V):(Ef.v v).run tr o s=s.after tr o v:=by
 unfold Ef.run S.after S.use S.put Gu IQ
 cases bU tr o with
 |none=>cases o.dst<;>rfl
 |some t=>by_cases h:(s.fr t).isOw=true<;>cases o.dst<;>simp[h,Ef.uses,S.clr,Ef.val,Ef.bx,Ef.nb]
theorem Gw (cs:List V):(Ef.al cs).run tr o s=(let s':=s.use (bU tr o);{ s' with bx:=up s'.bx s'.nb cs,nb:=s'.nb+1 }:S).put o.dst (.bp s.nb 0):=by
 unfold Ef.run S.use S.put Gu IQ
 cases bU tr o with
 |none=>cases o.dst<;>rfl
 |some t=>by_cases h:(s.fr t).isOw=true<;>cases o.dst<;>simp[h,Ef.uses,S.clr,Ef.val,Ef.bx,Ef.nb]
theorem U8 (b k:Nat) (ds:List V):(Ef.st b k ds).run tr o s=(let s':=s.use (bU tr o);{ s' with bx:=up s'.bx b (eS (s'.bx b) k ds) }:S).put o.dst .sk:=by
 unfold Ef.run S.use S.put Gu IQ
 cases bU tr o with
 |none=>cases o.dst<;>rfl
 |some t=>by_cases h:(s.fr t).isOw=true<;>cases o.dst<;>simp[h,Ef.uses,S.clr,Ef.val,Ef.bx,Ef.nb]
theorem jH (bx:Nat→List V) (nb:Nat) (x:V):(Ef.gn bx nb x).run tr o s=(let s':=s.use (bU tr o);{ s' with bx:=bx,nb:=nb }:S).put o.dst x:=by
 unfold Ef.run S.use S.put Gu IQ
 cases bU tr o with
 |none=>cases o.dst<;>rfl
 |some t=>by_cases h:(s.fr t).isOw=true<;>cases o.dst<;>simp[h,Ef.uses,S.clr,Ef.val,Ef.bx,Ef.nb]
theorem tM {T:TypeId} {len:Nat} {parts:List (Nat×V)} {v:V} {K:V→Prop} (h:cw P T len parts (fun u=>v=u)) (hk:∀ u,v=u→K u):cw P T len parts K:=by
 unfold cw at h
 split at h
 ·rename_i e1
  split at h
  ·rename_i e2
   obtain⟨h0,h⟩:=h
   split at h
   ·rename_i e3
    unfold cw
    simp only[e1,e2,e3]
    exact⟨h0,hk _ h⟩
   ·exact h.elim
  ·exact h.elim
 ·exact h.elim
theorem IS {f:V} {args:List V} {K:V→Prop} (h:pz P G s f args K):∃ v,pz P G s f args (fun u=>v=u)∧K v:=by
 unfold pz at h
 split at h
 ·rename_i g all hc
  obtain⟨ρ,cargs,b0,r,h1,h2,h3,h4,h5,h6⟩:=h
  exact⟨r,by unfold pz;simp only[hc];exact⟨ρ,cargs,b0,r,h1,h2,h3,h4,h5,rfl⟩,h6⟩
 ·exact h.elim
theorem Es {s s':S} {ρ:Nat→Nat} (hn:s.nb≤s'.nb) (hb:∀ i,i<s.nb→s'.bx i=s.bx i):∀ (b:List (List V)) (i:Nat),qH s.bx s.nb ρ i b→qH s'.bx s'.nb ρ i b
 |[],_,_=>trivial
 |x::r,i,h=>⟨⟨bW h.1.1 hn,by rw[hb _ h.1.1];exact h.1.2⟩,Es hn hb r (i+1) h.2⟩
theorem zH {s s':S} {f:V} {args:List V} {K:V→Prop} (hn:s.nb≤s'.nb) (hb:∀ i,i<s.nb→s'.bx i=s.bx i) (h:pz P G s f args K):pz P G s' f args K:=by
 unfold pz at h ⊢
 split at h
 ·rename_i g all hc
  obtain⟨ρ,cargs,b0,r,h1,h2,h3,h4,h5,h6⟩:=h
  exact⟨ρ,cargs,b0,r,h1,h2,h3,fun N=>Es hn hb _ _ (h4 N),h5,h6⟩
 ·exact h.elim
theorem QN {bx:Nat→List V} {nb:Nat} {f:V} {l:List V} {K K':(Nat→List V)→Nat→V→Prop} (h:kD P G bx nb f l K) (hk:∀ b n u,K b n u→K' b n u):kD P G bx nb f l K':=by
 unfold kD at h
 split at h
 ·rename_i e1
  unfold kD
  simp only[e1]
  obtain⟨ρ,cargs,b0,r,b1,h1,h2,h3,h4,h5⟩:=h
  exact⟨ρ,cargs,b0,r,b1,h1,h2,h3,h4,hk _ _ _ h5⟩
 ·exact h.elim
theorem IT {T:TypeId} {l c:V} {K K':Nat→Nat→Nat→List C→Prop} (h:re P T l c K) (hk:∀ n m sz z,K n m sz z→K' n m sz z):re P T l c K':=by
 unfold re at h
 split at h
 ·rename_i e1
  split at h
  ·rename_i e2
   unfold re
   simp only[e1,e2]
   exact⟨h.1,hk _ _ _ _ h.2⟩
  ·exact h.elim
 ·exact h.elim
theorem By:Ef.skip.run tr o s=s.put o.dst .sk:=by
 unfold Ef.run S.put Gu IQ
 cases bU tr o<;>cases o.dst<;>simp[Ef.uses,Ef.val,Ef.bx,Ef.nb]
theorem VStep.ef {K:S→Prop} (D7:oY tr o=false) (h:VStep P G tr o s K):∃ e,e≠.skip∧VEf P G tr o s e∧K (e.run tr o s):=by
 have gen:VYK P G tr o s (fun v=>K (s.after tr o v))→(∀ e,VEf P G tr o s e↔∃ v,e=.v v∧VYK P G tr o s fun u=>v=u)→∃ e,e≠.skip∧VEf P G tr o s e∧K (e.run tr o s):=fun h hV=>by
  obtain⟨v,h1,h2⟩:=IP h
  exact⟨.v v,by simp,(hV _).2 ⟨v,rfl,h1⟩,by rw[zG];exact h2⟩
 unfold VStep at h
 split at h
 ·rename_i T b8
  split at h
  ·rename_i z _ _ hi
   refine⟨.al (z.map ny),by simp,by unfold VEf;rw[b8];simp only[hi],?_⟩
   rw[Gw]
   have:bU tr o=none:=by simp[bU,b8]
   rw[this];exact h
  ·exact h.elim
 ·rename_i T X b8
  split at h
  ·rename_i cs hi
   refine⟨.al cs,by simp,by unfold VEf;rw[b8];simp only[hi],?_⟩
   rw[Gw];exact h
  ·exact h.elim
 ·rename_i T p X b8
  obtain⟨lN,h⟩:=h
  split at h
  ·rename_i i b k cs h1 h2 h3
   obtain⟨h4,h⟩:=h
   refine⟨.st b k cs,by simp,by unfold VEf;rw[b8];simp only[h1,h2,h3];rw[h2] at lN;exact⟨lN,h4,trivial⟩,?_⟩
   rw[U8];exact h
  ·rename_i i blk j h1 h2
   rcases h with h | ⟨b,k,len,cap,q,E,es,cs,h4,h⟩
   rotate_left
   ·refine⟨.gn (up s.bx b ((s.bx b).set k (.gg (.slice (some ⟨blk,0,none⟩) len cap) (some (E,i.size)) (es.set q cs)))) s.nb .sk,by simp,by unfold VEf;rw[b8];simp only[h1,h2];rw[h2] at lN;exact⟨lN,.inr ⟨b,k,len,cap,q,E,es,cs,h4,rfl⟩⟩,?_⟩
    rw[jH]
    have e:∀ bx,({ s.use (bU tr o) with bx:=bx,nb:=s.nb }:S)={ s.use (bU tr o) with bx:=bx }:=fun bx=>by rw[← Gv (s:=s) (t:=bU tr o)]
    show K (({ s.use (bU tr o) with bx:=_,nb:=s.nb }:S).put o.dst .sk)
    rw[e]
    exact h
   obtain⟨b,k,len,cap,E,es,r,e',c,h4,h⟩:=h
   refine⟨.gn (up s.bx b ((s.bx b).set k (.hh (some (.slice (some ⟨blk,0,none⟩) len cap)) E (es++[e'.set r c])))) s.nb .sk,by simp,by unfold VEf;rw[b8];simp only[h1,h2];rw[h2] at lN;exact⟨lN,.inl ⟨b,k,len,cap,E,es,r,e',c,h4,rfl⟩⟩,?_⟩
   rw[jH]
   have h':K (({ s.use (bU tr o) with bx:=up (s.use (bU tr o)).bx b (((s.use (bU tr o)).bx b).set k (.hh (some (.slice (some ⟨blk,0,none⟩) len cap)) E (es++[e'.set r c]))) }:S).put o.dst .sk):=h
   rw[U7] at h'
   have e:({ s.use (bU tr o) with bx:=up s.bx b ((s.bx b).set k (.hh (some (.slice (some ⟨blk,0,none⟩) len cap)) E (es++[e'.set r c]))),nb:=s.nb }:S)={ s.use (bU tr o) with bx:=up s.bx b ((s.bx b).set k (.hh (some (.slice (some ⟨blk,0,none⟩) len cap)) E (es++[e'.set r c]))) }:=by rw[← Gv (s:=s) (t:=bU tr o)]
   show K (({ s.use (bU tr o) with bx:=up s.bx b ((s.bx b).set k (.hh (some (.slice (some ⟨blk,0,none⟩) len cap)) E (es++[e'.set r c]))),nb:=s.nb }:S).put o.dst .sk)
   rw[e]
   exact h'
  ·exact h.elim
 ·rename_i T len parts b8
  split at h
  ·rename_i hn
   obtain⟨v,h1,h2⟩:=nF h
   obtain⟨bx,nb,x,h3,h4⟩:=Bq h2
   refine⟨.gn bx nb x,by simp,?_,?_⟩
   ·unfold VEf;rw[b8];simp only[hn,dn]
    refine⟨bx,nb,x,rfl,?_⟩
    refine tM h1 fun u hu=>?_
    subst hu;exact h3
   ·rw[jH]
    have:bU tr o=none:=by simp[bU,b8]
    rw[this];exact h4
  ·rename_i hn
   have hb:LW tr o.dst=false:=by simpa[oY,b8] using D7
   simp only[hb,aI,dj] at h
   refine gen h fun e=>?_
   unfold VEf;rw[b8];simp only[if_neg hn]
 ·rename_i T l c b8
  obtain⟨p,m,sz,z,h1,h2⟩:=MN h
  refine⟨.gn (up s.bx s.nb ((List.replicate m z).flatten.map .c)) (s.nb+1) (.ms s.nb 0 p m sz),by simp,?_,?_⟩
  ·unfold VEf;rw[b8]
   refine⟨_,_,_,rfl,?_⟩
   refine IT h1 fun n' m' sz' z' hh=>?_
   obtain⟨rfl,rfl,rfl,rfl⟩:=hh
   exact⟨⟨rfl,rfl⟩,rfl⟩
  ·rw[jH]
   have:bU tr o=none:=by simp[bU,b8]
   rw[this];exact h2
 ·rename_i f args ts b8
  have hye:FM tr o.dst=false∧H7 tr o.dst=false:=by simpa[oY,b8] using D7
  have hy:=hye.1
  have hef:=hye.2
  simp only[hy,hef,aI,dj] at h
  split at h
  ·rename_i hn
   obtain⟨bx,nb,x,h3,h4⟩:=IF h
   have h5:(Ds tr o.dst=true→agn tr o.dst s ⟨s.fr,bx,nb⟩)∧K ((⟨s.fr,bx,nb⟩:S).put o.dst x):=by
    by_cases hl:Ds tr o.dst=true
    ·rw[if_pos hl] at h4;exact⟨fun _=>h4.1,h4.2⟩
    ·rw[if_neg hl] at h4;exact⟨fun h=>absurd h hl,h4⟩
   refine⟨.gn bx nb x,by simp,?_,?_⟩
   ·unfold VEf;rw[b8];simp only[hn,dn]
    exact⟨bx,nb,x,rfl,h3,h5.1⟩
   ·rw[jH]
    have:bU tr o=none:=by simp[bU,b8]
    rw[this];exact h5.2
  ·rename_i hn
   by_cases Qj:Qq tr o.dst=true
   ·unfold VYQ at h;rw[if_pos Qj] at h
    obtain⟨v,h1,h2⟩:=IS h
    exact⟨.v v,by simp,by unfold VEf;rw[b8];simp only[if_neg hn];exact⟨v,rfl,by unfold VYQ;rw[if_pos Qj];exact h1⟩,by rw[zG];exact h2⟩
   ·unfold VYQ at h;rw[if_neg Qj] at h
    refine gen h fun e=>?_
    unfold VEf;rw[b8];simp only[if_neg hn,VYQ,if_neg Qj]
 ·rename_i args ts b8
  have hn:nT tr o.dst=false:=by simpa[oY,b8] using D7
  simp only[hn,aI,dj] at h
  split at h
  ·rename_i hr
   have hu:=xE (tr:=tr) b8 h
   obtain⟨bx,v,h1,h2⟩:=DI h
   refine⟨.gn bx s.nb v,by simp,by unfold VEf;rw[b8];simp only[hn,hr,aI,dj,dn];exact⟨bx,v,rfl,h1⟩,?_⟩
   rw[jH,hu];exact h2
  ·rename_i hr
   refine gen h fun e=>?_
   unfold VEf;rw[b8];simp only[hn,aI,dj,if_neg hr]
 ·rename_i args ts b8
  obtain⟨bx,v,h1,h2⟩:=MO h
  refine⟨.gn bx s.nb v,by simp,by unfold VEf;rw[b8];exact⟨bx,v,rfl,h1⟩,?_⟩
  have:bU tr o=none:=by simp[bU,b8]
  rw[jH,this];exact h2
 ·rename_i args ts b8
  obtain⟨bx,h1,h2⟩:=IH h
  refine⟨.gn bx s.nb .un,by simp,by unfold VEf;rw[b8];exact⟨bx,rfl,h1⟩,?_⟩
  have:bU tr o=none:=by simp[bU,b8]
  rw[jH,this];exact h2
 ·rename_i args ts b8
  have hn:LX tr o.dst=false:=by simpa[oY,b8] using D7
  simp only[hn,aI,dj] at h
  refine gen h fun e=>?_
  unfold VEf;rw[b8]
 ·rename_i src dst X b8
  have hn:nT tr o.dst=false:=by simpa[oY,b8] using D7
  simp only[hn,aI,dj] at h
  refine gen h fun e=>?_
  unfold VEf;rw[b8]
 ·rename_i op T X Y yT b8
  have hn:AL Y=false:=by simpa[oY,b8] using D7
  simp only[hn,aI,dj] at h
  refine gen h fun e=>?_
  unfold VEf;rw[b8]
 ·rename_i T X b8
  have hn:isZ tr o.dst=false:=by simpa[oY,b8] using D7
  simp only[hn,aI,dj] at h
  obtain⟨lN,h⟩:=h
  obtain⟨v,h1,h2⟩:=IP h
  exact⟨.v v,by simp,by unfold VEf;rw[b8];exact⟨v,rfl,lN,h1⟩,by rw[zG];exact h2⟩
 ·rename_i T parts b8
  have hn:isZ tr o.dst=false:=by simpa[oY,b8] using D7
  simp only[hn,aI,dj] at h
  refine gen h fun e=>?_
  unfold VEf;rw[b8]
 ·rename_i b8;simp[oY,b8] at D7
 ·rename_i T m k X b8
  obtain⟨bx,h1,h2⟩:=Gq h
  refine⟨.gn bx s.nb .sk,by simp,by unfold VEf;rw[b8];exact⟨bx,rfl,h1⟩,?_⟩
  have:bU tr o=none:=by simp[bU,b8]
  rw[jH,this];exact h2
 ·rename_i T m k b8
  obtain⟨bx,v,h1,h2⟩:=Br h
  refine⟨.gn bx s.nb v,by simp,by unfold VEf;rw[b8];exact⟨bx,v,rfl,h1⟩,?_⟩
  have:bU tr o=none:=by simp[bU,b8]
  rw[jH,this];exact h2
 ·rename_i T m k X b8
  obtain⟨bx,h1,h2⟩:=Bt h
  refine⟨.gn bx s.nb .sk,by simp,by unfold VEf;rw[b8];exact⟨bx,rfl,h1⟩,?_⟩
  have:bU tr o=none:=by simp[bU,b8]
  rw[jH,this];exact h2
 ·rename_i b8;simp[oY,b8] at D7
 ·rename_i b8;simp[oY,b8] at D7
 ·rename_i n1 n2 n3 n4 n5 n6 n7 n8 n9 n10 n11 n12 n13 n14 n15 n16 n17 n18 n19 n20
  refine gen h fun e=>?_
  unfold VEf
  split
  ·rename_i b8;exact absurd b8 (n1 _)
  ·rename_i b8;exact absurd b8 (n2 _ _)
  ·rename_i b8;exact absurd b8 (n3 _ _ _)
  ·rename_i b8;exact absurd b8 (n4 _ _ _)
  ·rename_i b8;exact absurd b8 (n5 _ _ _)
  ·rename_i b8;exact absurd b8 (n6 _ _ _)
  ·rename_i b8;exact absurd b8 (n13 _ _)
  ·rename_i b8;exact absurd b8 (n16 _ _ _ _)
  ·rename_i b8;exact absurd b8 (n17 _ _ _)
  ·rename_i b8;exact absurd b8 (n18 _ _ _ _)
  ·rename_i b8;exact absurd b8 (n8 _ _)
  ·rename_i b8;exact absurd b8 (n7 _ _)
  ·rename_i b8;exact absurd b8 (n9 _ _)
  ·exact Iff.rfl
variable {n:Nat} {I0:Ft} {M:Mx} {w0:World} {I:Ft} {β:Nat→Option Nat} {ob:Loc→Option Nat} {a:Act} {w:World} {next:Act→World→Prop} {Q:Exit→Act→World→Prop}
theorem Et {e:Ef} (hst:St G n I0 M w0 I β ob s a w) (hd:∀ d,o.dst=some d→d<n) (h:VEf P G tr o s e)
 (hk:∀ a' w',SE G n I0 M w0 (e.run tr o s) a' w'→next a' w'):o.wp P a w next Q:=by
 have viaStep:qd tr o=false→VStep P G tr o s (fun s'=>e.run tr o s=s')→o.wp P a w next Q:=fun hy h=>
  qk (tr:=tr) hst hd hy h (fun a' w' s' hs dB=>hk a' w' (by rw[hs];exact dB))
 unfold VEf at h
 split at h
 ·rename_i T b8
  split at h
  ·rename_i z _ _ hi
   subst h
   refine viaStep (by simp[qd,b8]) ?_
   unfold VStep
   rw[b8]
   simp only[hi]
   rw[Gw]
   have:bU tr o=none:=by simp[bU,b8]
   rw[this];rfl
  ·exact h.elim
 ·rename_i T X b8
  split at h
  ·rename_i cs hi
   subst h
   refine viaStep (by simp[qd,b8]) ?_
   unfold VStep
   rw[b8]
   simp only[hi]
   rw[Gw]
  ·exact h.elim
 ·rename_i T p X b8
  obtain⟨lN,h⟩:=h
  split at h
  ·rename_i i b k cs h1 h2 h3
   obtain⟨h4,rfl⟩:=h
   refine viaStep (by simp[qd,b8]) ?_
   unfold VStep
   rw[b8]
   simp only[h1,h2,h3]
   rw[U8]
   rw[h2] at lN
   exact⟨lN,h4,rfl⟩
  ·rename_i i blk j h1 h2
   rcases h with h | ⟨b,k,len,cap,q,E,es,cs,h4,rfl⟩
   rotate_left
   ·refine viaStep (by simp[qd,b8]) ?_
    unfold VStep
    rw[b8]
    simp only[h1,h2]
    rw[jH]
    rw[h2] at lN
    refine⟨lN,.inr ⟨b,k,len,cap,q,E,es,cs,h4,?_⟩⟩
    have e:∀ bx,({ s.use (bU tr o) with bx:=bx,nb:=s.nb }:S)={ s.use (bU tr o) with bx:=bx }:=fun bx=>by rw[← Gv (s:=s) (t:=bU tr o)]
    show({ s.use (bU tr o) with bx:=_,nb:=s.nb }:S).put o.dst .sk=_
    rw[e]
   obtain⟨b,k,len,cap,E,es,r,e',c,h4,rfl⟩:=h
   refine viaStep (by simp[qd,b8]) ?_
   unfold VStep
   rw[b8]
   simp only[h1,h2]
   rw[jH]
   rw[h2] at lN
   refine⟨lN,.inl ⟨b,k,len,cap,E,es,r,e',c,h4,?_⟩⟩
   have e:({ s.use (bU tr o) with bx:=up s.bx b ((s.bx b).set k (.hh (some (.slice (some ⟨blk,0,none⟩) len cap)) E (es++[e'.set r c]))),nb:=s.nb }:S)={ s.use (bU tr o) with bx:=up s.bx b ((s.bx b).set k (.hh (some (.slice (some ⟨blk,0,none⟩) len cap)) E (es++[e'.set r c]))) }:=by rw[← Gv (s:=s) (t:=bU tr o)]
   show({ s.use (bU tr o) with bx:=up s.bx b ((s.bx b).set k (.hh (some (.slice (some ⟨blk,0,none⟩) len cap)) E (es++[e'.set r c]))),nb:=s.nb }:S).put o.dst .sk=({ s.use (bU tr o) with bx:=up (s.use (bU tr o)).bx b (((s.use (bU tr o)).bx b).set k (.hh (some (.slice (some ⟨blk,0,none⟩) len cap)) E (es++[e'.set r c]))) }:S).put o.dst .sk
   rw[e,U7]
  ·exact h.elim
 ·rename_i T len parts b8
  split at h
  ·rename_i hn
   obtain⟨bx,nb,x,rfl,h⟩:=h
   refine viaStep (by simp[qd,b8]) ?_
   unfold VStep
   rw[b8]
   simp only[hn,dn]
   have:bU tr o=none:=by simp[bU,b8]
   rw[jH,this]
   obtain⟨v,h1,h2⟩:=nF h
   refine tM h1 fun u hu=>?_
   subst hu
   obtain⟨b,n,y,h3,⟨rfl,rfl⟩,rfl⟩:=Bq h2
   unfold UG
   unfold A8 at h3 ⊢
   split at h3
   ·obtain⟨⟨rfl,rfl⟩,rfl⟩:=h3;rfl
   ·exact h3.elim
  ·rename_i hn
   obtain⟨v,rfl,h⟩:=h
   exact po (tr:=tr) hst hd h (fun a' w' x hx dB=>hk a' w' (by rw[zG];subst hx;exact dB))
 ·rename_i T l c b8
  obtain⟨bx,nb,x,rfl,h⟩:=h
  refine viaStep (by simp[qd,b8]) ?_
  unfold VStep
  rw[b8]
  have:bU tr o=none:=by simp[bU,b8]
  rw[jH,this]
  refine IT h fun n m sz z hh=>?_
  obtain⟨⟨rfl,rfl⟩,rfl⟩:=hh
  rfl
 ·rename_i f args ts b8
  split at h
  ·rename_i hn
   obtain⟨bx,nb,x,rfl,h,hlc⟩:=h
   have hc:bU tr o=none:=by simp[bU,b8]
   refine rY (K:=fun s' u=>s'.put o.dst u=(Ef.gn bx nb x).run tr o s) b8 hst hd ?_ (fun a' w' s' u hK dB=>hk a' w' (by rw[← hK];exact dB))
   unfold vcallB
   refine QN h fun b n u hh=>?_
   obtain⟨⟨rfl,rfl⟩,rfl⟩:=hh
   rw[jH,hc];rfl
  ·rename_i hn
   obtain⟨v,rfl,h⟩:=h
   exact Eo (tr:=tr) b8 hst hd h (fun a' w' x hx dB=>hk a' w' (by rw[zG];subst hx;exact dB))
 ·obtain⟨v,rfl,_,h⟩:=h
  exact po (tr:=tr) hst hd h (fun a' w' x hx dB=>hk a' w' (by rw[zG];subst hx;exact dB))
 ·rename_i T m k X b8
  obtain⟨bx,rfl,h⟩:=h
  refine viaStep (by simp[qd,b8]) ?_
  have:bU tr o=none:=by simp[bU,b8]
  rw[jH,this]
  unfold VStep
  rw[b8]
  exact QL (Gs h) fun s' e=>by rw[← e];rfl
 ·rename_i T m k b8
  obtain⟨bx,v,rfl,h⟩:=h
  refine viaStep (by simp[qd,b8]) ?_
  have:bU tr o=none:=by simp[bU,b8]
  rw[jH,this]
  unfold VStep
  rw[b8]
  exact tL (pF h) fun s' u e=>by rw[← e.1,← e.2];rfl
 ·rename_i T m k X b8
  obtain⟨bx,rfl,h⟩:=h
  refine viaStep (by simp[qd,b8]) ?_
  have:bU tr o=none:=by simp[bU,b8]
  rw[jH,this]
  unfold VStep
  rw[b8]
  exact IJ (Bv h) fun s' e=>by rw[← e];rfl
 ·rename_i args ts b8
  obtain⟨bx,v,rfl,h⟩:=h
  refine viaStep (by simp[qd,b8]) ?_
  have:bU tr o=none:=by simp[bU,b8]
  rw[jH,this]
  unfold VStep
  rw[b8]
  exact aaQ (MP h) fun s' u e=>by rw[← e.1,← e.2];rfl
 ·rename_i args ts b8
  split at h
  ·exact h.elim
  rename_i hn
  split at h
  ·rename_i hr
   obtain⟨bx,v,rfl,h⟩:=h
   refine viaStep (by simp[qd,b8]) ?_
   rw[jH,xE (tr:=tr) b8 h]
   unfold VStep
   rw[b8]
   simp only[hn,hr,dn,dj,aI]
   refine MQ (DJ h) (fun s' u e=>?_)
   rw[← e.1,← e.2]
  ·obtain⟨v,rfl,h⟩:=h
   exact po (tr:=tr) hst hd h (fun a' w' x hx dB=>hk a' w' (by rw[zG];subst hx;exact dB))
 ·rename_i args ts b8
  obtain⟨bx,rfl,h⟩:=h
  refine viaStep (by simp[qd,b8]) ?_
  have:bU tr o=none:=by simp[bU,b8]
  rw[jH,this]
  unfold VStep
  rw[b8]
  exact U6 (II h) fun s' e=>by rw[← e];rfl
 ·obtain⟨v,rfl,h⟩:=h
  exact po (tr:=tr) hst hd h (fun a' w' x hx dB=>hk a' w' (by rw[zG];subst hx;exact dB))
def dR (tr:List Nat) (o:Oper):Nat:=
 match o.op with
 | .call { callee:=.builtin .copy,.. }=>2
 | .call { callee:=.builtin .clear,.. }=>2
 | .load _ _ | .convert _ _ _ | .lookup _ _ _ _ | .range _ _ | .entry _=>1
 | .call { callee:=.builtin .append,.. }=>if v8 tr o.dst then 2 else 1
 | .call { callee:=.value _,.. }=>if xj tr o.dst then 2 else 1
 | .buildSlice _ _ _=>if nT tr o.dst then 2 else 0
 | .alloc _ | .box _ _ | .store _ _ _ | .makeSlice _ _ _ | .mapUpdate _ _ _ _ | .mapEntry _ _ _ | .entryStore _ _ _ _=>2
 |_=>0
theorem Bz {s':S} {x:Operand} (h:∀ t,x=.tmp t→s.fr t=s'.fr t):ev G s x=ev G s' x:=by
 cases x<;>simp only[ev]
 exact h _ rfl
theorem aaR {s':S} (hb:s.bx=s'.bx) (hn:s.nb=s'.nb):imm s=imm s':=by
 obtain⟨fr,bx,nb⟩:=s
 obtain⟨fr',bx',nb'⟩:=s'
 simp only at hb hn
 subst hb;subst hn
 funext x
 cases x<;>rfl
theorem Gx {s':S} (hb:s.bx=s'.bx) (hn:s.nb=s'.nb):vw s=vw s':=by
 obtain⟨fr,bx,nb⟩:=s
 obtain⟨fr',bx',nb'⟩:=s'
 simp only at hb hn
 subst hb;subst hn
 funext x
 cases x<;>rfl
theorem rk {s':S} {K:V→Prop} (AG:∀ d,o.dst=some d→s.fr d=s'.fr d) (he:∀ x∈o.op.operands,ev G s x=ev G s' x) (hm:dR tr o≠0→s.bx=s'.bx∧s.nb=s'.nb) (h:VYK P G tr o s K):VYK P G tr o s' K:=by
 have marr:∀ l:Array Operand,(∀ x∈l,ev G s x=ev G s' x)→l.toList.map (ev G s)=l.toList.map (ev G s'):=fun l hl=>bL fun x hx=>hl x (by simpa using hx)
 have mopt:∀ l:Option Operand,(∀ x,l=some x→ev G s x=ev G s' x)→l.map (ev G s)=l.map (ev G s'):=fun l hl=>by cases l with
  |none=>rfl
  |some x=>simp only[cD,hl x rfl]
 obtain⟨dst,op,type,pos,after,guard⟩:=o
 cases op<;>simp only[VYK] at h ⊢<;>try exact h
 case move x=>rw[← he x (by simp[Op.operands])];exact h
 case assign x=>rw[← he x (by simp[Op.operands])];exact h
 case pick c a b=>rw[← he c (by simp[Op.operands]),← he a (by simp[Op.operands]),← he b (by simp[Op.operands])];exact h
 case build T parts=>
  have:(parts.toList.map fun(i,x)=>(i,ev G s' x))=parts.toList.map fun(i,x)=>(i,ev G s x):=bL fun p hp=>by
   obtain⟨i,x⟩:=p
   simp only[he x (by simp only[Op.operands,gk,bA];exact⟨(i,x),hp,rfl⟩)]
  rw[this];exact h
 case buildSlice T len parts=>
  have:(parts.toList.map fun(i,x)=>(i,ev G s' x))=parts.toList.map fun(i,x)=>(i,ev G s x):=bL fun p hp=>by
   obtain⟨i,x⟩:=p
   simp only[he x (by simp only[Op.operands,gk,bA];exact⟨(i,x),hp,rfl⟩)]
  rw[this];exact h
 case load T x=>
  obtain⟨h1,h2⟩:=hm (by simp[dR])
  rw[← he x (by simp[Op.operands])]
  unfold cK at h ⊢
  rw[← h1,← h2];exact h
 case lookup T x k ok=>
  obtain⟨h1,h2⟩:=hm (by simp[dR])
  rw[← he x (by simp[Op.operands]),← he k (by simp[Op.operands])]
  unfold fF gR at h ⊢
  rw[← h1,← h2];exact h
 case range T x=>
  obtain⟨h1,h2⟩:=hm (by simp[dR])
  rw[← he x (by simp[Op.operands])]
  unfold oD at h ⊢
  rw[← h1,← h2];exact h
 case entry x=>
  obtain⟨h1,h2⟩:=hm (by simp[dR])
  rw[← he x (by simp[Op.operands])]
  unfold oG at h ⊢
  rw[← h1,← h2];exact h
 case binOp op T x y yT=>rw[← he x (by simp[Op.operands]),← he y (by simp[Op.operands])];exact h
 case unOp op T x=>rw[← he x (by simp[Op.operands])];exact h
 case convert src dst x=>
  obtain⟨h1,h2⟩:=hm (by simp[dR])
  rw[← he x (by simp[Op.operands]),← Gx h1 h2];exact h
 case makeFunc f a b=>rw[← marr a fun x hx=>he x (by simp[Op.operands,hx]),← marr b fun x hx=>he x (by simp[Op.operands,hx])];exact h
 case sliceToArrayPointer T x=>rw[← he x (by simp[Op.operands])];exact h
 case nilCheck x=>rw[← he x (by simp[Op.operands])];exact h
 case slice T x lo hi mx=>
  rw[← he x (by simp[Op.operands]),← mopt lo fun x hx=>he x (by simp[Op.operands,hx]),← mopt hi fun x hx=>he x (by simp[Op.operands,hx]),← mopt mx fun x hx=>he x (by simp[Op.operands,hx])];exact h
 case fieldAddr T x f=>rw[← he x (by simp[Op.operands])];exact h
 case field T x f=>rw[← he x (by simp[Op.operands])];exact h
 case indexAddr T x i=>rw[← he x (by simp[Op.operands]),← he i (by simp[Op.operands])];exact h
 case index T x i=>rw[← he x (by simp[Op.operands]),← he i (by simp[Op.operands])];exact h
 case extract x i=>rw[← he x (by simp[Op.operands])];exact h
 case call c=>
  obtain⟨callee,args,ts⟩:=c
  cases callee with
  |value f=>
   simp only at h ⊢
   obtain⟨h1,h2⟩:=hm (by simp only[dR];split<;>simp)
   rw[← he f (by simp[Op.operands,Call.operands]),← marr args fun x hx=>he x (by simp[Op.operands,Call.operands,hx])]
   unfold rb at h ⊢
   rw[← aaR h1 h2];exact h
  |invoke r m=>exact h
  |builtin b=>
   cases b
   case append=>
    simp only at h ⊢
    obtain⟨h1,h2⟩:=hm (by simp only[dR];split<;>simp)
    have:(args.toList.map fun x=>vw s' (ev G s' x))=args.toList.map fun x=>vw s (ev G s x):=bL fun x hx=>by
     rw[Gx h1 h2,he x (by simp only[Op.operands,Call.operands];simpa using hx)]
    rw[this]
    split at h
    ·rename_i hg
     rw[if_pos hg]
     split at h
     ·rename_i Qg
      rw[if_pos Qg]
      unfold xi at h ⊢
      split at h
      ·rename_i t y d ha
       have ht:s.fr t=s'.fr t:=by
        have:=he (.tmp t) (by simp only[Op.operands,Call.operands];rw[eL];exact bZ.1 (by rw[ha];simp))
        simpa[ev] using this
       have hy:ev G s y=ev G s' y:=he y (by simp only[Op.operands,Call.operands];rw[eL];exact bZ.1 (by rw[ha];simp))
       rw[← ht,← AG d rfl,← hy,← Gx h1 h2]
       exact h
      ·exact h.elim
     ·rename_i Qg
      rw[if_neg Qg]
      unfold jZ at h ⊢
      split at h
      ·rename_i t y d ha
       have ht:s.fr t=s'.fr t:=by
        have:=he (.tmp t) (by simp only[Op.operands,Call.operands];rw[eL];exact bZ.1 (by rw[ha];simp))
        simpa[ev] using this
       have hy:ev G s y=ev G s' y:=he y (by simp only[Op.operands,Call.operands];rw[eL];exact bZ.1 (by rw[ha];simp))
       rw[← ht,← AG d rfl,← hy,← Gx h1 h2]
       exact h
      ·exact h.elim
    ·rename_i hg
     rw[if_neg hg];exact h
   all_goals
    simp only at h ⊢
    rw[← marr args fun x hx=>he x (by simp[Op.operands,Call.operands,hx])];exact h
theorem QO {s':S} {e:Ef} (AG:∀ d,o.dst=some d→s.fr d=s'.fr d) (he:∀ x∈o.op.operands,ev G s x=ev G s' x) (hm:dR tr o≠0→s.bx=s'.bx∧s.nb=s'.nb) (h:VEf P G tr o s e):VEf P G tr o s' e:=by
 unfold VEf at h ⊢
 split at h
 ·exact h
 ·rename_i T X b8
  rw[← he X (by rw[b8];simp[Op.operands])];exact h
 ·rename_i T p X b8
  obtain⟨h1,h2⟩:=hm (by simp[dR,b8])
  rw[← he p (by rw[b8];simp[Op.operands]),← he X (by rw[b8];simp[Op.operands]),← h1,← h2];exact h
 ·rename_i T len parts b8
  have:(parts.toList.map fun(i,x)=>(i,ev G s' x))=parts.toList.map fun(i,x)=>(i,ev G s x):=bL fun p hp=>by
   obtain⟨i,x⟩:=p
   simp only[he x (by rw[b8];simp only[Op.operands,gk,bA];exact⟨(i,x),hp,rfl⟩)]
  split at h
  ·rename_i hn
   rw[if_pos hn]
   obtain⟨h1,h2⟩:=hm (by simp[dR,b8,hn])
   rw[this,← h1,← h2];exact h
  ·rename_i hn
   rw[if_neg hn]
   obtain⟨v,h1,h2⟩:=h
   exact⟨v,h1,rk AG he hm h2⟩
 ·rename_i T l c b8
  obtain⟨h1,h2⟩:=hm (by simp[dR,b8])
  rw[← he l (by rw[b8];simp[Op.operands]),← he c (by rw[b8];simp[Op.operands]),← h1,← h2];exact h
 ·rename_i f args ts b8
  split at h
  ·rename_i hn
   rw[if_pos hn]
   obtain⟨h1,h2⟩:=hm (by simp[dR,b8,hn])
   have:args.toList.map (ev G s)=args.toList.map (ev G s'):=bL fun x hx=>he x (by rw[b8];simp only[Op.operands,Call.operands];simp at hx;simp[hx])
   rw[← he f (by rw[b8];simp[Op.operands,Call.operands]),← this,← h1,← h2];exact h
  ·rename_i hn
   rw[if_neg hn]
   obtain⟨v,h1,h2⟩:=h
   refine⟨v,h1,?_⟩
   unfold VYQ at h2 ⊢
   split
   ·rename_i Qj
    rw[if_pos Qj] at h2
    obtain⟨q1,q2⟩:=hm (by simp[dR,b8,hn])
    have:args.toList.map (ev G s)=args.toList.map (ev G s'):=bL fun x hx=>he x (by rw[b8];simp only[Op.operands,Call.operands];simp at hx;simp[hx])
    rw[← he f (by rw[b8];simp[Op.operands,Call.operands]),← this]
    exact zH (Nat.le_of_eq q2) (fun i _=>by rw[q1]) h2
   ·rename_i Qj
    rw[if_neg Qj] at h2
    exact rk AG he hm h2
 ·rename_i T X b8
  obtain⟨v,h1,lN,h2⟩:=h
  exact⟨v,h1,by rw[← he X (by rw[b8];simp[Op.operands])];exact lN,rk AG he hm h2⟩
 ·rename_i T m k X b8
  obtain⟨h1,h2⟩:=hm (by simp[dR,b8])
  rw[← he m (by rw[b8];simp[Op.operands]),← he k (by rw[b8];simp[Op.operands]),← he X (by rw[b8];simp[Op.operands]),← h1,← h2];exact h
 ·rename_i T m k b8
  obtain⟨h1,h2⟩:=hm (by simp[dR,b8])
  rw[← he m (by rw[b8];simp[Op.operands]),← he k (by rw[b8];simp[Op.operands]),← h1,← h2];exact h
 ·rename_i T m k X b8
  obtain⟨h1,h2⟩:=hm (by simp[dR,b8])
  rw[← he m (by rw[b8];simp[Op.operands]),← he k (by rw[b8];simp[Op.operands]),← he X (by rw[b8];simp[Op.operands]),← h1,← h2];exact h
 ·rename_i args ts b8
  obtain⟨h1,h2⟩:=hm (by simp[dR,b8])
  have:args.toList.map (ev G s)=args.toList.map (ev G s'):=bL fun x hx=>he x (by rw[b8];simp only[Op.operands,Call.operands];simpa using hx)
  rw[← this,← h1,← h2];exact h
 ·rename_i args ts b8
  split at h
  ·exact h.elim
  rename_i hn
  rw[if_neg hn]
  split at h
  ·rename_i hr
   rw[if_pos hr]
   obtain⟨h1,h2⟩:=hm (by simp[dR,b8,hr])
   have:args.toList.map (ev G s)=args.toList.map (ev G s'):=bL fun x hx=>he x (by rw[b8];simp only[Op.operands,Call.operands];simpa using hx)
   rw[← this,← h1,← h2];exact h
  ·rename_i hr
   rw[if_neg hr]
   obtain⟨v,h1,h2⟩:=h
   exact⟨v,h1,rk AG he hm h2⟩
 ·rename_i args ts b8
  obtain⟨h1,h2⟩:=hm (by simp[dR,b8])
  have:args.toList.map (ev G s)=args.toList.map (ev G s'):=bL fun x hx=>he x (by rw[b8];simp only[Op.operands,Call.operands];simpa using hx)
  rw[← this,← h1,← h2];exact h
 ·obtain⟨v,h1,h2⟩:=h
  exact⟨v,h1,rk AG he hm h2⟩
def yM (ops:Array Oper) (o:Oper) (s:S):Option Bool:=
 match o.guard with
 |none=>some true
 |some (j,want)=>match(ops[j]?).bind (·.dst) with
  |some d=>match s.fr d with
   | .c (.lit (.bool p))=>some (p==want)
   | .sk=>some false
   |_=>none
  |none=>none
def TEf (P:Program) (G:Gl) (tr:List Nat) (ops:Array Oper) (o:Oper) (s:S) (e:Ef):Prop:=
 (yM ops o s=some true∧VEf P G tr o s e∧e≠.skip)∨(yM ops o s=some false∧e=.skip)
theorem kE {K:S→Prop} (D7:oY tr o=false) (h:nC ops o s (fun s=>VStep P G tr o s K) (fun s=>K (s.put o.dst .sk))):∃ e,TEf P G tr ops o s e∧K (e.run tr o s):=by
 unfold nC at h
 have yes:yM ops o s=some true→VStep P G tr o s K→∃ e,TEf P G tr ops o s e∧K (e.run tr o s):=fun hg hv=>by
  obtain⟨e,h1,h2,h3⟩:=hv.ef D7
  exact⟨e,.inl ⟨hg,h2,h1⟩,h3⟩
 have no:yM ops o s=some false→K (s.put o.dst .sk)→∃ e,TEf P G tr ops o s e∧K (e.run tr o s):=fun hg hv=>⟨.skip,.inr ⟨hg,rfl⟩,by rw[By];exact hv⟩
 split at h
 ·rename_i hg
  exact yes (by unfold yM;rw[hg]) h
 ·rename_i j want hg
  split at h
  ·rename_i d hd
   split at h
   ·rename_i p hp
    by_cases hpw:p=want
    ·subst hpw
     have:=h.1 rfl
     rw[S.up_id hp] at this
     exact yes (by unfold yM;simp only[hg,hd,hp,beq_self_eq_true]) this
    ·have hpn:p=!want:=by cases p<;>cases want<;>simp_all
     have:=h.2 hpn
     rw[← hpn,S.up_id hp] at this
     exact no (by unfold yM;simp only[hg,hd,hp];simpa using hpw) this
   ·rename_i hp
    exact no (by unfold yM;simp only[hg,hd,hp]) h
   ·exact h.elim
  ·exact h.elim
theorem ql (hst:St G n I0 M w0 I β ob s a w) {p:Bool} (h:yM ops o s=some p):Region.wanted o (yielded ops a.tmps)=p:=by
 unfold yM at h
 unfold Region.wanted
 split at h
 ·rename_i hg;rw[hg];simpa using h
 ·rename_i j want hg
  rw[hg]
  split at h
  ·rename_i d hd
   split at h
   ·rename_i q hq
    simp only[xB hst hd hq]
    simp only[ai] at h
    rw[← h];cases q<;>cases want<;>rfl
   ·rename_i hq
    simp only[Bo hst hd hq]
    simp only[ai] at h
    rw[← h];rfl
   ·cases h
  ·cases h
def wu (P:Program) (G:Gl) (tr:List Nat) (ops:Array Oper) (i:Nat) (K:S→Prop) (s:S):Prop:=
 match ops[i]? with
 |none=>K s
 |some o=>∃ e,TEf P G tr ops o s e∧K (e.run tr o s)
def Gy (P:Program) (G:Gl) (tr:List Nat) (md:Region.Mode) (ops:Array Oper) (K:S→Prop):Nat→Array Bool→S→Prop
 |0,listed,s=>Region.ready md ops listed=[]∧K s
 |fuel+1,listed,s=>
  (Region.ready md ops listed=[]→K s)∧
  ∀ i∈Region.ready md ops listed,wu P G tr ops i (Gy P G tr md ops K fuel (listed.setIfInBounds i true)) s
theorem pG (eK:mw n ops=true) {K:S→Prop} (hK:∀ a w s,K s→SE G n I0 M w0 s a w→Q .normal a w):∀ (fuel:Nat) (listed:Array Bool) (s:S) (a:Act) (w:World),
 Gy P G tr md ops K fuel listed s→SE G n I0 M w0 s a w→wpAny P md ops Q fuel listed a w
 |0,_,_,_,_,h,dB=>⟨h.1,hK _ _ _ h.2 dB⟩
 |fuel+1,_,s,a,w,h,dB=>by
  refine⟨fun h0=>hK _ _ _ (h.1 h0) dB,fun i hi=>?_⟩
  have hh:=h.2 i hi
  unfold wu at hh
  unfold wpOp
  split
  ·rename_i ho;simp only[ho] at hh;exact pG eK hK fuel _ s a w hh dB
  ·rename_i o ho
   simp only[ho] at hh
   obtain⟨e,he,hh⟩:=hh
   have jE:o∈ops.toList:=by
    have:=eB ho
    simpa using this
   obtain⟨I,β,ob,hst⟩:=dB
   rcases he with⟨hg,hv,_⟩ | ⟨hg,rfl⟩
   ·rw[if_pos (ql hst hg)]
    exact .inl (Et hst (eU eK jE) hv fun a' w' tA=>pG eK hK fuel _ _ a' w' hh tA)
   ·rw[ql hst hg]
    simp only[aI,dj]
    rw[By] at hh
    exact pG eK hK fuel _ _ _ w hh (SE.put hst (eU eK jE) (by simp only[LR];exact .sk))
def wr (tr:List Nat) (o:Oper):List Tmp:=o.dst.toList++(bU tr o).toList
def mS (tr:List Nat) (x y:Oper):Bool:=match x.op,x.dst,y.op with
 | .load _ _,some d,.store _ (.tmp t) _=>tr.contains (200000+d)&&tr.contains (200000+t)&&(List.range 100).all fun b=>!(tr.contains (300000+d*100+b)&&tr.contains (300000+t*100+b))
 | .load _ _,some d,.call { callee:=.value _,.. }=>tr.contains (200000+d)&&(xj tr y.dst&&Ds tr y.dst)&&(List.range 100).all fun b=>!(tr.contains (300000+d*100+b)&&tr.contains (500000+y.dst.getD 0*100+b))
 |_,_,_=>false
def o8 (x y:Oper):Bool:=match x.op,y.op with
 | .lookup T (.tmp m) (.tmp k) false,.mapEntry U (.tmp m') (.tmp k')=>T==U&&m==m'&&k==k'
 |_,_=>false
def xF (tr:List Nat) (x y:Oper):Bool:=dR tr x==1&&match y.op with
 | .alloc _=>true
 | .box _ _=>true
 | .buildSlice _ _ _=>nT tr y.dst
 |_=>false
def Gz (tr:List Nat) (ops:Array Oper) (x y:Oper):Bool:=
 ((wr tr x).all fun d=>!(y.looksAt ops).contains d&&!(wr tr y).contains d)&&((wr tr y).all fun d=>!(x.looksAt ops).contains d)&&
 ((dR tr x !=2||dR tr y==0||(mS tr y x||o8 y x))&&(dR tr y !=2||dR tr x==0||(mS tr x y||(o8 x y||xF tr x y))))
structure IU (tr:List Nat) (ops:Array Oper) (x y:Oper):Prop where
 xy:∀ d∈wr tr x,d∉y.looksAt ops
 ww:∀ d∈wr tr x,d∉wr tr y
 yx:∀ d∈wr tr y,d∉x.looksAt ops
 mx:dR tr x=2→dR tr y=0∨mS tr y x=true∨o8 y x=true
 my:dR tr y=2→dR tr x=0∨mS tr x y=true∨o8 x y=true∨xF tr x y=true
theorem IV {x y:Oper} (h:Gz tr ops x y=true):IU tr ops x y:=by
 simp only[Gz,aX,aV,dM,iG,dc,eT,bne_iff_ne,kG] at h
 obtain⟨⟨h1,h2⟩,h3,h4⟩:=h
 exact⟨fun d hd=>(h1 d hd).1,fun d hd=>(h1 d hd).2,h2,fun h=>by rcases h3 with(h3 | h3) | h3;exact absurd h h3;exact .inl h3;exact .inr h3,
  fun h=>by rcases h4 with(h4 | h4) | h4;exact absurd h h4;exact .inl h4;exact .inr h4⟩
def sV (tr:List Nat) (o:Oper) (u:Bool) (x:V) (fr:Nat→V):Nat→V:=IQ o.dst x (Gu u (bU tr o) fr)
theorem BA (u:Bool) (c:Option Tmp) (fr:Nat→V) (t:Nat):Gu u c fr t=if c=some t∧u=true∧(fr t).isOw=true then .un else fr t:=by
 unfold Gu
 cases c with
 |none=>simp
 |some q=>
  simp only
  by_cases hq:q=t
  ·subst hq
   by_cases h:u=true∧(fr q).isOw=true
   ·rw[if_pos (by simp[h.1,h.2]),bT,if_pos ⟨rfl,h⟩]
   ·rw[if_neg (by simpa using h),if_neg (fun e=>h e.2)]
  ·have:¬ (some q=some t∧u=true∧(fr t).isOw=true):=fun e=>hq (by simpa using e.1)
   rw[if_neg this]
   split
   ·rw[cF _ _ (gX hq)]
   ·rfl
theorem oc (u:Bool) (x:V) (fr:Nat→V) (t:Nat):sV tr o u x fr t=if o.dst=some t then x else if bU tr o=some t∧u=true∧(fr t).isOw=true then .un else fr t:=by
 unfold sV IQ
 cases o.dst with
 |none=>simpa using BA u (bU tr o) fr t
 |some d=>
  simp only
  by_cases hd:d=t
  ·subst hd;simp
  ·rw[cF _ _ (gX hd),if_neg (by simpa using hd)]
   exact BA u (bU tr o) fr t
theorem kz {u:Bool} {x:V} {fr:Nat→V} {t:Nat} (h:t∉wr tr o):sV tr o u x fr t=fr t:=by
 simp only[wr,aZ,Option.mem_toList,not_or] at h
 rw[oc,if_neg h.1,if_neg (fun e=>h.2 e.1)]
theorem BB {x y:Oper} (h:∀ d∈wr tr x,d∉wr tr y) (u u':Bool) (vx vy:V) (fr:Nat→V) :
 sV tr y u' vy (sV tr x u vx fr)=sV tr x u vx (sV tr y u' vy fr):=by
 funext t
 by_cases hx:t∈wr tr x
 ·rw[kz (h t hx),oc,oc,kz (h t hx)]
 ·have e1:sV tr x u vx fr t=fr t:=kz hx
  have e2:sV tr x u vx (sV tr y u' vy fr) t=sV tr y u' vy fr t:=kz hx
  rw[e2,oc (o:=y),e1,oc (o:=y)]
theorem BC (e:Ef):e.run tr o s=⟨sV tr o e.uses (e.val s.nb) s.fr,e.bx s.nb s.bx,e.nb s.nb⟩:=rfl
theorem aaS {e:Ef} (h:VEf P G tr o s e) (hm:dR tr o≠2):∃ v,e=.v v:=by
 unfold VEf at h
 split at h
 ·rename_i b8;simp[dR,b8] at hm
 ·rename_i b8;simp[dR,b8] at hm
 ·rename_i b8;simp[dR,b8] at hm
 ·rename_i b8
  split at h
  ·rename_i hn;simp[dR,b8,hn] at hm
  ·obtain⟨v,rfl,_⟩:=h;exact⟨v,rfl⟩
 ·rename_i b8;simp[dR,b8] at hm
 ·rename_i b8
  split at h
  ·rename_i hn;simp[dR,b8,hn] at hm
  ·obtain⟨v,rfl,_⟩:=h;exact⟨v,rfl⟩
 ·obtain⟨v,rfl,_⟩:=h;exact⟨v,rfl⟩
 ·rename_i b8;simp[dR,b8] at hm
 ·rename_i b8;simp[dR,b8] at hm
 ·rename_i b8;simp[dR,b8] at hm
 ·rename_i b8;simp[dR,b8] at hm
 ·rename_i b8
  split at h
  ·exact h.elim
  split at h
  ·rename_i hr;simp[dR,b8,hr] at hm
  ·obtain⟨v,rfl,_⟩:=h;exact⟨v,rfl⟩
 ·rename_i b8;simp[dR,b8] at hm
 ·obtain⟨v,rfl,_⟩:=h;exact⟨v,rfl⟩
theorem AP {e:Ef} (h:TEf P G tr ops o s e) (hm:dR tr o≠2):(∃ v,e=.v v)∨e=.skip:=by
 rcases h with⟨_,h,_⟩ | ⟨_,h⟩
 ·exact .inl (aaS h hm)
 ·exact .inr h
theorem pt {e:Ef} (h:(∃ v,e=.v v)∨e=.skip) (bx:Nat→List V) (nb nb':Nat):e.bx nb bx=bx∧e.nb nb=nb∧e.val nb=e.val nb':=by
 rcases h with⟨v,rfl⟩ | rfl<;>exact⟨rfl,rfl,rfl⟩
theorem j0 {s':S} (h:∀ t∈o.looksAt ops,s.fr t=s'.fr t):yM ops o s=yM ops o s':=by
 unfold yM
 split
 ·rfl
 ·rename_i j want hg
  split
  ·rename_i d hd
   have:d∈o.looksAt ops:=by
    unfold Oper.looksAt
    rw[hg]
    simp only[aZ,Option.mem_toList]
    exact .inr hd
   rw[h d this]
  ·rfl
theorem j3 {x:Operand} {t:Tmp} (hx:x∈o.op.operands) (ht:x=.tmp t):t∈o.looksAt ops:=by
 unfold Oper.looksAt
 simp only[aZ,List.mem_filterMap]
 exact .inl ⟨x,by simpa using hx,by rw[ht]⟩
theorem uO {s':S} {e:Ef} (AG:∀ d,o.dst=some d→s.fr d=s'.fr d) (hl:∀ t∈o.looksAt ops,s.fr t=s'.fr t) (hm:dR tr o≠0→s.bx=s'.bx∧s.nb=s'.nb) (h:TEf P G tr ops o s e):TEf P G tr ops o s' e:=by
 rcases h with⟨h1,h2,h3⟩ | ⟨h1,h2⟩
 ·exact .inl ⟨by rw[← j0 hl];exact h1,QO AG (fun x hx=>Bz fun t ht=>hl t (j3 hx ht)) hm h2,h3⟩
 ·exact .inr ⟨by rw[← j0 hl];exact h1,h2⟩
theorem r0 {x y:Oper} (h:mS tr x y=true):∃ T X d,x.op=.load T X∧x.dst=some d∧tr.contains (200000+d)=true∧
 ((∃ U t Y,y.op=.store U (.tmp t) Y∧tr.contains (200000+t)=true∧∀ b,b<100→tr.contains (300000+d*100+b)=true→tr.contains (300000+t*100+b)=true→False)∨
  (∃ c f,y.op=.call c∧c.callee=.value f∧xj tr y.dst=true∧Ds tr y.dst=true∧∀ b,b<100→tr.contains (300000+d*100+b)=true→tr.contains (500000+y.dst.getD 0*100+b)=true→False)):=by
 unfold mS at h
 split at h
 ·rename_i T X d U t Y h1 h2 h3
  simp only[aX,aV] at h
  refine⟨T,X,d,h1,h2,h.1.1,.inl ⟨U,t,Y,h3,h.1.2,fun b hb q1 q2=>?_⟩⟩
  have:=h.2 b (db.2 hb)
  rw[q1,q2] at this
  cases this
 ·rename_i T X d f args ts h1 h2 h3
  simp only[aX,aV] at h
  refine⟨T,X,d,h1,h2,h.1.1,.inr ⟨_,f,h3,rfl,h.1.2.1,h.1.2.2,fun b hb q1 q2=>?_⟩⟩
  have:=h.2 b (db.2 hb)
  rw[q1,q2] at this
  cases this
 ·cases h
theorem IW {x y:Oper} (h:mS tr x y=true):dR tr x=1:=by
 obtain⟨T,X,d,h1,_⟩:=r0 h
 simp[dR,h1]
theorem U9 {T:TypeId} {s':S} {b k:Nat} {K:V→Prop} (hb:s'.bx b=s.bx b) (hn:s'.nb=s.nb) (h:cK P T s (.bp b k) K):cK P T s' (.bp b k) K:=by
 unfold cK at *
 cases hT:ti P T with
 |none=>rw[hT] at h;exact h.elim
 |some i=>
  rw[hT] at h
  simp only at h ⊢
  rw[hb,hn];exact h
theorem zI {T:TypeId} {s':S} {K:V→Prop} (hx:∀ b k,x≠.bp b k) (hex:∀ v,x≠.c (.ex v)) (h:cK P T s x K):cK P T s' x K:=by
 unfold cK at *
 cases hT:ti P T with
 |none=>rw[hT] at h;exact h.elim
 |some i=>
  rw[hT] at h
  cases x with
  |c c=>
   cases c with
   |ex v=>exact absurd rfl (hex v)
   |_=>exact h
  |bp b k=>exact absurd rfl (hx b k)
  |_=>exact h.elim
theorem IX {x y:Oper} {f:Ef} (dQ:mS tr x y=true) (hy:TEf P G tr ops y s f):f.nb s.nb=s.nb∧∀ d b,x.dst=some d→b<100→tr.contains (300000+d*100+b)=true→f.bx s.nb s.bx b=s.bx b:=by
 obtain⟨T,X,d,D8,Ud,hd,LJ⟩:=r0 dQ
 rcases hy with⟨_,hv,_⟩ | ⟨_,rfl⟩
 ·unfold VEf at hv
  rcases LJ with⟨U,t,Y,H5,ht,fS⟩ | ⟨c,g,H5,hy2,hm,hl,fS⟩
  ·rw[H5] at hv
   simp only at hv
   obtain⟨lN,hv⟩:=hv
   split at hv
   ·rename_i i b k cs h1 h2 h3
    obtain⟨_,rfl⟩:=hv
    rw[h2] at lN
    simp only[LY,oN,UI,ht,kY,Bool.false_or,aX,bF] at lN
    refine⟨rfl,fun d' b' pT yB D2=>?_⟩
    rw[Ud] at pT;cases pT
    have gK:b'≠b:=by rintro rfl;exact fS b' yB D2 lN.2
    simp only[Ef.bx,cF _ _ gK]
   ·rename_i i blk j h1 h2
    rw[h2] at lN
    simp only[LY,oN,ht,kY] at lN
    cases lN
   ·exact hv.elim
  ·obtain⟨callee,args,ts⟩:=c
   simp only at hy2;subst hy2
   rw[H5] at hv
   simp only[hm,dn] at hv
   obtain⟨bx,nb,x',rfl,_,h2⟩:=hv
   obtain⟨h3,h4⟩:=h2 hl
   refine⟨h3,fun d' b' pT yB D2=>?_⟩
   rw[Ud] at pT;cases pT
   rcases h4 b' with h | ⟨_,h⟩
   ·exact h
   ·exact(fS b' yB D2 h).elim
 ·exact⟨rfl,fun _ _ _ _ _=>rfl⟩
theorem Va {x y:Oper} {e:Ef} {s':S} (dQ:mS tr x y=true) (hl:∀ t∈x.looksAt ops,s.fr t=s'.fr t)
 (ot:∀ d b,x.dst=some d→b<100→tr.contains (300000+d*100+b)=true→s'.bx b=s.bx b) (AE:s'.nb=s.nb) (h:TEf P G tr ops x s e):TEf P G tr ops x s' e:=by
 obtain⟨T,X,d,D8,Ud,hd,_⟩:=r0 dQ
 rcases h with⟨h1,h2,h3⟩ | ⟨h1,h2⟩
 ·refine .inl ⟨by rw[← j0 hl];exact h1,?_,h3⟩
  have rR:ev G s X=ev G s' X:=Bz fun q hq=>hl q (j3 (by rw[D8];simp[Op.operands]) hq)
  unfold VEf at h2 ⊢
  rw[D8] at h2 ⊢
  simp only at h2 ⊢
  obtain⟨v,he,lN,hv⟩:=h2
  refine⟨v,he,by rw[← rR];exact lN,?_⟩
  obtain⟨dst,op,type,pos,after,guard⟩:=x
  simp only at D8 Ud lN rR ot
  subst D8;subst Ud
  simp only[VYK] at hv ⊢
  rw[← rR]
  rcases LJ:ev G s X with _ | _ | c | _ | _ | _ | ⟨b,k⟩ | _ | _ | _
  case bp=>
   rw[LJ] at lN hv
   simp only[oN,UI,hd,kY,Bool.false_or,aX,bF] at lN
   exact U9 (ot d b rfl lN.1 lN.2) AE hv
  case c=>
   rw[LJ] at lN hv
   refine zI (fun _ _ e=>by cases e) (fun v e=>?_) hv
   cases e
   simp only[oN,hd,kY] at lN
   cases lN
  all_goals
   rw[LJ] at hv
   exact zI (fun _ _ e=>by cases e) (fun _ e=>by cases e) hv
 ·exact .inr ⟨by rw[← j0 hl];exact h1,h2⟩
theorem sa {x y:Oper} (h:o8 x y=true):∃ T m k,x.op=.lookup T (.tmp m) (.tmp k) false∧y.op=.mapEntry T (.tmp m) (.tmp k):=by
 unfold o8 at h
 split at h
 ·rename_i T m k U m' k' h1 h2
  simp only[aX,kG] at h
  obtain⟨⟨rfl,rfl⟩,rfl⟩:=h
  exact⟨T,m,k,h1,h2⟩
 ·cases h
theorem IY {x y:Oper} (h:o8 x y=true):dR tr x=1∧dR tr y=2:=by
 obtain⟨T,m,k,h1,h2⟩:=sa h
 simp[dR,h1,h2]
theorem BD {ag:Bool}:∀ {r:List V} {l:List (List C)},jY ag r=some l→r.length=2*l.length
 |[],l,h=>by simp only[jY,ai] at h;subst h;rfl
 |[_],l,h=>by simp[jY] at h
 |k::v::r,l,h=>by
  unfold jY at h
  split at h
  ·rename_i q l' h1 h2
   simp only[ai] at h;subst h
   have:=BD h2
   simp[this];omega
  ·cases h
theorem zJ {ag:Bool} {k v:V} {q:List C} (hk:k.kcs ag=some q):∀ {r:List V} {l:List (List C)},jY ag r=some l→jY ag (r++[k,v])=some (l++[q])
 |[],l,h=>by simp only[jY,ai] at h;subst h;simp[jY,hk]
 |[_],l,h=>by simp[jY] at h
 |k'::v'::r,l,h=>by
  unfold jY at h
  split at h
  ·rename_i q' l' h1 h2
   simp only[ai] at h;subst h
   have:=zJ (v:=v) hk h2
   simp only[dx,jY,h1,this]
  ·cases h
theorem BE {ks:List EK} {k:List C} (hl:k.length=ks.length) (hr:iC ks k k=some true):∀ {l:List (List C)} {i:Nat},nv ks k l i=some none→nv ks k (l++[k]) i=some (some (i+l.length))
 |[],i,_=>by simp[nv,hl,hr]
 |k'::l,i,h=>by
  unfold nv at h
  split at h
  ·rename_i h1
   split at h
   ·cases h
   ·rename_i h2
    simp only[dx,nv,h1,dn,h2]
    rw[BE hl hr h];simp;omega
   ·cases h
  ·cases h
theorem BF {T:TypeId} {k:V} {K:S→V→Prop} (h:fQ P T s x k K):∃ w,fF P T s x k false (fun u=>w=u):=by
 unfold fQ at h
 obtain⟨i,bs,cl,r,res,z,h1,h2⟩:=jm h
 cases res with
 |none=>exact⟨_,gv h1 rfl⟩
 |some j=>exact⟨_,gv h1 rfl⟩
theorem zL {T:TypeId} {bx':Nat→List V} {k v u:V} {s':S} (h:fQ P T s x k (fun s' u'=>bx'=s'.bx∧u=u')) (hv:fF P T s x k false (fun w=>v=w)) (h1:s'.bx=bx') (h2:s'.nb=s.nb) :
 fF P T s' x k false (fun w=>v=w):=by
 subst h1
 unfold fQ at h
 obtain⟨i,kt,et,tT,tk,te,ks,kc,z,bs,cl,r,kcs,res,q1,q2,rfl,q3,q4,q5,q6,q7,q8,q9,q10,⟨q11,q12,q13,q14⟩,hK⟩:=wh h
 have hv':fF P T s (.mr i) k false (fun w=>(match res with | some j=>(r.getD (2*j+1) .un).fz | none=>z)=w):=by
  unfold fF
  refine pq q1 q2 q3 q4 q5 q6 q7 q8 q9 q10 q11 q12 q13 q14 ?_
  cases res<;>rfl
 have HV:=zF hv hv'
 unfold fF
 cases res with
 |some j=>
  obtain⟨hb,_⟩:=hK
  refine pq q1 q2 q3 q4 q5 q6 q7 (by rw[hb];exact q8) q9 q10 (by rw[h2];exact q11) q12 q13 q14 ?_
  exact HV
 |none=>
  obtain⟨hb,_⟩:=hK
  have hkf:k.fz.kcs tk.agg=some kc:=by cases k<;>simp_all[V.fz,V.kcs]
  have hz:z.fz=z:=by
   unfold oC at q7;split at q7<;>first | (simp only[ai] at q7;subst q7;rfl) | cases q7
  have cn:=BD q9
  refine pq (bs:=bs++[cl]) (cl:=cl+1) (r:=r++[k.fz,z]) q1 q2 q3 q4 q5 q6 q7 (by rw[hb];simp only[bT]) (zJ hkf q9) (BE q12 q13 q10) (by rw[h2];exact q11) q12 q13 q14 ?_
  simp only
  rw[show v=z from HV]
  have:(r++[k.fz,z]).getD (2*(0+kcs.length)+1) .un=z:=by
   rw[aK,← cn];simp
  rw[this,hz];rfl
theorem yN {s':S} (hn:s.nb≤s'.nb) (hb:∀ i,i<s.nb→s'.bx i=s.bx i) {i:Nat} {cs:List C} (h:Ah s i=some cs):Ah s' i=some cs:=by
 unfold Ah at *
 split at h
 ·rename_i hi;rw[if_pos (by omega),hb i hi];exact h
 ·cases h
theorem wx {s':S} (hn:s.nb≤s'.nb) (hb:∀ i,i<s.nb→s'.bx i=s.bx i) {i off len sz:Nat} {c:C} (h:mn s i off len sz=some c):mn s' i off len sz=some c:=by
 unfold mn at *
 split at h
 ·rename_i cs hc;simp only[yN hn hb hc];exact h
 ·cases h
theorem yO {s':S} (hn:s.nb≤s'.nb) (hb:∀ i,i<s.nb→s'.bx i=s.bx i) {x:V} {c:C} (h:vX s x=some c):vX s' x=some c:=by
 unfold vX at *
 split at h
 ·exact h
 ·exact h
 ·obtain⟨cs,hc,rfl⟩:=aU.1 h;rw[yN hn hb hc];rfl
 ·exact wx hn hb h
 ·cases h
theorem mA {α β:Type} {f g:α→Option β} (h:∀ x y,f x=some y→g x=some y):∀ {l:List α} {r:List β},l.mapM f=some r→l.mapM g=some r
 |[],r,hr=>by simpa using hr
 |x::l,r,hr=>by
  rw[fe] at hr ⊢
  cases hx:f x with
  |none=>rw[hx] at hr;cases hr
  |some y=>
   rw[hx] at hr
   rw[h x y hx]
   cases hl:l.mapM f with
   |none=>rw[hl] at hr;cases hr
   |some r'=>rw[hl] at hr;rw[mA h hl];exact hr
theorem xG {s':S} (hn:s.nb≤s'.nb) (hb:∀ i,i<s.nb→s'.bx i=s.bx i) {x y:V} (h:imm s x=some y):imm s' x=some y:=by
 unfold imm at *
 split at h
 ·exact h
 ·exact h
 ·exact h
 ·obtain⟨cs,hc,rfl⟩:=aU.1 h;rw[yN hn hb hc];rfl
 ·split at h
  ·rename_i e1 e2
   simp only[mA (fun _ _=>yO hn hb) e1,mA (fun _ _=>yO hn hb) e2];exact h
  ·cases h
 ·obtain⟨c,hc,rfl⟩:=aU.1 h;rw[wx hn hb hc];rfl
 ·obtain⟨c,hc,rfl⟩:=aU.1 h;rw[mA (fun _ _=>yO hn hb) hc];rfl
 ·cases h
theorem uQ {s':S} (hn:s.nb≤s'.nb) (hb:∀ i,i<s.nb→s'.bx i=s.bx i) (x:V):vw s x=vw s' x∨vw s x=.un:=by
 cases x<;>try exact .inl rfl
 case ms i off len cap sz=>
  simp only[vw]
  cases hv:mn s i off len sz with
  |none=>exact .inr rfl
  |some c=>rw[wx hn hb hv];exact .inl rfl
theorem QP {s':S} {ts:List TypeId} {z y:V} {K:V→Prop} (hn:s.nb≤s'.nb) (hb:∀ i,i<s.nb→s'.bx i=s.bx i) (h:eX P .append ts [z,vw s y] K):eX P .append ts [z,vw s' y] K:=by
 rcases uQ hn hb y with e2 | e2
 ·rw[← e2];exact h
 ·rw[e2] at h
  unfold eX at h
  split at h<;>first | cases ‹Builtin.append=_› | skip
  ·rename_i t t' x y' hxy
   obtain⟨rfl,rfl⟩:z=x∧V.un=y':=by
    simp only[cj,gj] at hxy;exact hxy
   split at h
   ·exfalso
    unfold eR at h
    split at h
    ·split at h
     ·exact h.2.elim
     ·exact h.elim
    ·exact h.elim
   ·exfalso;unfold qj at h;simp[V.fz] at h
  ·exact h.elim
theorem MR {s':S} {ts:List TypeId} {E:Option (TypeId×Nat)} {es:List (List C)} {y:V} {K:V→Prop} (hn:s.nb≤s'.nb) (hb:∀ i,i<s.nb→s'.bx i=s.bx i) (h:vK P ts E es (vw s y).fz K):vK P ts E es (vw s' y).fz K:=by
 rcases uQ hn hb y with e2 | e2
 ·rw[← e2];exact h
 ·exfalso
  rw[e2] at h
  unfold vK at h
  split at h
  ·obtain⟨_,h⟩:=h
   split at h
   ·split at h
    ·obtain⟨_,h⟩:=h
     split at h
     ·rename_i e;cases e
     ·exact h.elim
    ·exact h.elim
   ·exact h.elim
  ·exact h.elim
theorem BG {s':S} {ts:List TypeId} {E:Option (TypeId×Nat)} {es:List (List C)} {y:V} {K:V→Prop} (hn:s.nb≤s'.nb) (hb:∀ i,i<s.nb→s'.bx i=s.bx i) (h:nw P ts E es (vw s y).fz K):nw P ts E es (vw s' y).fz K:=by
 rcases uQ hn hb y with e2 | e2
 ·rw[← e2];exact h
 ·exfalso
  rw[e2] at h
  unfold nw at h
  split at h
  ·obtain⟨_,h⟩:=h
   split at h
   ·split at h
    ·obtain⟨_,h⟩:=h
     split at h
     ·rename_i e;cases e
     ·exact h.elim
    ·exact h.elim
   ·exact h.elim
  ·exact h.elim
theorem xH {s':S} {K:V→Prop} (AG:∀ d,o.dst=some d→s.fr d=s'.fr d) (he:∀ x∈o.op.operands,ev G s x=ev G s' x) (hn:s.nb≤s'.nb) (hb:∀ i,i<s.nb→s'.bx i=s.bx i) (hm:dR tr o=1) (h:VYK P G tr o s K):VYK P G tr o s' K:=by
 have marr:∀ l:Array Operand,(∀ x∈l,ev G s x=ev G s' x)→l.toList.map (ev G s)=l.toList.map (ev G s'):=fun l hl=>bL fun x hx=>hl x (by simpa using hx)
 have OE:=hm
 obtain⟨dst,op,type,pos,after,guard⟩:=o
 cases op<;>simp only[dR] at hm<;>try cases hm
 case buildSlice=>split at hm<;>cases hm
 case load T x=>
  simp only[VYK] at h ⊢
  rw[← he x (by simp[Op.operands])]
  unfold cK at h ⊢
  split at h
  ·exact h
  ·rename_i i b k _
   obtain⟨⟨h1,h2⟩,h3⟩:=h
   rw[hb _ h1]
   exact⟨⟨by omega,h2⟩,h3⟩
  ·rcases h with⟨h1,b,k,len,cap,E,es,c,⟨q1,q2,q3,q4⟩,h⟩ | ⟨b,k,len,cap,E,es,⟨q1,q2,q3⟩,h⟩
   ·exact .inl ⟨h1,b,k,len,cap,E,es,c,⟨by omega,by rw[hb _ q1];exact q2,by rw[hb _ q1];exact q3,q4⟩,h⟩
   ·exact .inr ⟨b,k,len,cap,E,es,⟨by omega,by rw[hb _ q1];exact q2,by rw[hb _ q1];exact q3⟩,h⟩
  ·exact h.elim
 case convert src dst' x=>
  simp only[VYK] at h ⊢
  rw[← he x (by simp[Op.operands])]
  rcases uQ hn hb (ev G s x) with e | e
  ·rw[← e];exact h
  ·rw[e] at h;simp[V.fz,iW] at h
 case lookup T x k ok=>
  simp only[VYK] at h ⊢
  rw[← he x (by simp[Op.operands]),← he k (by simp[Op.operands])]
  unfold fF at h ⊢
  obtain⟨i,kt,et,tT,tk,te,ks,kc,z,bs,cl,r,kcs,res,q1,q2,q3,q4,q5,q6,q7,q8,q9,q10,q11,⟨q12,q13,q14,q15⟩,hK⟩:=wh h
  rw[q3]
  exact pq q1 q2 q4 q5 q6 q7 q8 (by rw[hb i q12];exact q9) q10 q11 (by omega) q13 q14 q15 hK
 case range T x=>
  simp only[VYK] at h ⊢
  rw[← he x (by simp[Op.operands])]
  unfold oD at h ⊢
  split at h
  ·rename_i i _
   split at h
   ·rename_i e1
    obtain⟨h1,h2⟩:=h
    rw[hb _ h1];simp only[e1];exact⟨by omega,h2⟩
   ·exact h.elim
  ·exact h.elim
 case entry x=>
  simp only[VYK] at h ⊢
  rw[← he x (by simp[Op.operands])]
  unfold oG at h ⊢
  split at h
  ·rename_i i since stepped seen _
   split at h
   ·rename_i e1 e2
    split at h
    ·rename_i e3
     obtain⟨⟨h1,h0⟩,h2⟩:=h
     rw[hb _ h1];simp only[e1,e2,e3];exact⟨⟨by omega,h0⟩,h2⟩
    ·exact h.elim
   ·exact h.elim
  ·exact h.elim
 case call c=>
  obtain⟨callee,args,ts⟩:=c
  cases callee with
  |value f=>
   simp only[VYK] at h ⊢
   rw[← he f (by simp[Op.operands,Call.operands]),← marr args fun x hx=>he x (by simp[Op.operands,Call.operands,hx])]
   unfold rb at h ⊢
   split at h
   ·split at h
    ·rename_i e1;simp only[mA (fun _ _=>xG hn hb) e1];exact h
    ·exact h.elim
   ·split at h
    ·rename_i e1 e2 e3
     simp only[mA (fun _ _=>xG hn hb) e1,mA (fun _ _=>xG hn hb) e2,mA (fun _ _=>xG hn hb) e3];exact h
    ·exact h.elim
   ·exact h.elim
  |invoke r m=>exact h.elim
  |builtin b=>
   cases b<;>first | (simp[dR] at OE;done) | skip
   case append=>
    by_cases hgh:A7 tr dst=true
    ·simp only[VYK,if_pos hgh] at h ⊢
     by_cases hho:v7 tr dst=true
     ·rw[if_pos hho] at h ⊢
      unfold xi at h ⊢
      split at h
      ·rename_i t y d ha
       have ht:s.fr t=s'.fr t:=by
        have:=he (.tmp t) (by simp only[Op.operands,Call.operands];rw[eL];exact bZ.1 (by rw[ha];simp))
        simpa[ev] using this
       have hy:ev G s y=ev G s' y:=he y (by simp only[Op.operands,Call.operands];rw[eL];exact bZ.1 (by rw[ha];simp))
       rw[← ht,← AG d rfl,← hy]
       split at h
       ·exact⟨h.1,MR hn hb h.2⟩
       ·exact h.elim
      ·exact h.elim
     ·rw[if_neg hho] at h ⊢
      unfold jZ at h ⊢
      split at h
      ·rename_i t y d ha
       have ht:s.fr t=s'.fr t:=by
        have:=he (.tmp t) (by simp only[Op.operands,Call.operands];rw[eL];exact bZ.1 (by rw[ha];simp))
        simpa[ev] using this
       have hy:ev G s y=ev G s' y:=he y (by simp only[Op.operands,Call.operands];rw[eL];exact bZ.1 (by rw[ha];simp))
       rw[← ht,← AG d rfl,← hy]
       split at h
       ·exact⟨h.1,QP hn hb h.2⟩
       ·exact⟨h.1,BG hn hb h.2⟩
       ·exact⟨h.1,BG hn hb h.2⟩
       ·exact h.elim
      ·exact h.elim
    simp only[VYK,if_neg hgh] at h ⊢
    have hh:(args.toList.map fun x=>vw s' (ev G s' x))=args.toList.map fun x=>vw s' (ev G s x):=bL fun x hx=>by rw[he x (by simp only[Op.operands,Call.operands];simpa using hx)]
    rw[hh]
    unfold eX at h ⊢
    split at h<;>first | cases ‹Builtin.append=_› | skip
    ·rename_i t t' x y oU dy
     obtain⟨X,Y,hX,rfl,rfl⟩:∃ X Y,args.toList=[X,Y]∧x=vw s (ev G s X)∧y=vw s (ev G s Y):=by
      cases ha:args.toList with
      |nil=>simp[ha] at dy
      |cons X l=>
       cases l with
       |nil=>simp[ha] at dy
       |cons Y l=>simp only[ha,br,cj,eF] at dy;exact⟨X,Y,by rw[dy.2.2],dy.1.symm,dy.2.1.symm⟩
     rw[hX,oU]
     simp only[br,lO]
     have fS:∀ u K',¬ eR P t .un u K':=fun u K' h=>by simp[eR] at h
     have apw:∀ u K',¬ eR P t u V.un K':=fun u K' h=>by
      unfold eR at h
      split at h
      ·split at h
       ·exact h.2.elim
       ·exact h.elim
      ·exact h.elim
     rcases uQ hn hb (ev G s X) with e1 | e1
     ·rcases uQ hn hb (ev G s Y) with e2 | e2
      ·rw[← e1,← e2];exact h
      ·rw[e2] at h
       split at h
       ·exact(apw _ _ h).elim
       ·unfold qj at h;simp[V.fz] at h
     ·rw[e1] at h
      split at h
      ·exact(fS _ _ h).elim
      ·unfold qj at h
       split at h
       ·split at h
        ·exact(fS _ _ h.2).elim
        ·exact h.elim
       ·exact h.elim
    ·exact h.elim
theorem Vb {s':S} {e:Ef} (AG:∀ d,o.dst=some d→s.fr d=s'.fr d) (hm:dR tr o=1) (he:∀ x∈o.op.operands,ev G s x=ev G s' x) (hn:s.nb≤s'.nb) (hb:∀ i,i<s.nb→s'.bx i=s.bx i) (h:VEf P G tr o s e):VEf P G tr o s' e:=by
 unfold VEf at h ⊢
 split at h
 ·rename_i b8;simp[dR,b8] at hm
 ·rename_i b8;simp[dR,b8] at hm
 ·rename_i b8;simp[dR,b8] at hm
 ·rename_i b8;simp only[dR,b8] at hm;split at hm<;>cases hm
 ·rename_i b8;simp[dR,b8] at hm
 ·rename_i f args ts b8
  split at h
  ·rename_i hmu;simp[dR,b8,hmu] at hm
  ·rename_i hmu
   rw[if_neg hmu]
   obtain⟨v,h1,h2⟩:=h
   refine⟨v,h1,?_⟩
   unfold VYQ at h2 ⊢
   split
   ·rename_i Qj
    rw[if_pos Qj] at h2
    have:args.toList.map (ev G s)=args.toList.map (ev G s'):=bL fun x hx=>he x (by rw[b8];simp only[Op.operands,Call.operands];simp at hx;simp[hx])
    rw[← he f (by rw[b8];simp[Op.operands,Call.operands]),← this]
    exact zH hn hb h2
   ·rename_i Qj
    rw[if_neg Qj] at h2
    exact xH AG he hn hb hm h2
 ·rename_i T X b8
  obtain⟨v,h1,h2,h3⟩:=h
  exact⟨v,h1,by rw[← he X (by rw[b8];simp[Op.operands])];exact h2,xH AG he hn hb hm h3⟩
 ·rename_i b8;simp[dR,b8] at hm
 ·rename_i b8;simp[dR,b8] at hm
 ·rename_i b8;simp[dR,b8] at hm
 ·rename_i b8;simp[dR,b8] at hm
 ·rename_i b8
  split at h
  ·exact h.elim
  rename_i gK
  rw[if_neg gK]
  split at h
  ·rename_i hr;simp[dR,b8,hr] at hm
  ·rename_i hr
   rw[if_neg hr]
   obtain⟨v,h1,h2⟩:=h
   exact⟨v,h1,xH AG he hn hb hm h2⟩
 ·rename_i b8;simp[dR,b8] at hm
 ·obtain⟨v,h1,h2⟩:=h
  exact⟨v,h1,xH AG he hn hb hm h2⟩
theorem GA {x y:Oper} (h:xF tr x y=true):dR tr x=1∧∀ (q:S) (f:Ef),VEf P G tr y q f→q.nb≤f.nb q.nb∧∀ i,i<q.nb→f.bx q.nb q.bx i=q.bx i:=by
 unfold xF at h
 simp only[aX,kG] at h
 refine⟨h.1,fun q f hf=>?_⟩
 have h2:=h.2
 have al:(∃ cs,f=.al cs)→q.nb≤f.nb q.nb∧∀ i,i<q.nb→f.bx q.nb q.bx i=q.bx i:=by
  rintro⟨cs,rfl⟩
  exact⟨Nat.le_succ _,fun i hi=>cF _ _ (by omega)⟩
 split at h2
 ·rename_i b8
  unfold VEf at hf;rw[b8] at hf
  simp only at hf
  split at hf
  ·exact al ⟨_,hf⟩
  ·exact hf.elim
 ·rename_i b8
  unfold VEf at hf;rw[b8] at hf
  simp only at hf
  split at hf
  ·exact al ⟨_,hf⟩
  ·exact hf.elim
 ·rename_i b8
  unfold VEf at hf;rw[b8] at hf
  simp only[h2,dn] at hf
  obtain⟨bx,nb,x,rfl,hv⟩:=hf
  unfold cw at hv
  split at hv
  ·split at hv
   ·obtain⟨_,hv⟩:=hv
    split at hv
    ·simp only[A8] at hv
     split at hv
     ·obtain⟨⟨rfl,rfl⟩,_⟩:=hv
      exact⟨Nat.le_succ _,fun i hi=>cF _ _ (by omega)⟩
     ·exact hv.elim
    ·exact hv.elim
   ·exact hv.elim
  ·exact hv.elim
 ·cases h2
theorem TEf.keep {x y:Oper} {e f:Ef} (AA:IU tr ops x y) (hx:TEf P G tr ops x s e) (hy:TEf P G tr ops y s f):TEf P G tr ops x (f.run tr y s) e:=by
 have hl:∀ t∈x.looksAt ops,s.fr t=(f.run tr y s).fr t:=fun t ht=>by
  rw[BC]
  simp only
  rw[kz (fun hw=>AA.yx t hw ht)]
 have AG:∀ d,x.dst=some d→s.fr d=(f.run tr y s).fr d:=fun d hd=>by
  rw[BC]
  simp only
  rw[kz (AA.ww d (by simp[wr,hd]))]
 by_cases dQ:mS tr x y=true
 ·obtain⟨q1,q2⟩:=IX dQ hy
  exact Va dQ hl q2 q1 hx
 by_cases hlk:o8 x y=true
 ·obtain⟨T,m,k,D8,H5⟩:=sa hlk
  rcases hy with⟨_,hv,_⟩ | ⟨_,rfl⟩
  ·rcases hx with⟨hg,hw,gK⟩ | ⟨hg,he⟩
   ·refine .inl ⟨by rw[← j0 hl];exact hg,?_,gK⟩
    unfold VEf at hv hw ⊢
    rw[H5] at hv
    rw[D8] at hw ⊢
    obtain⟨bx,u,rfl,hv⟩:=hv
    obtain⟨v,rfl,hw⟩:=hw
    refine⟨v,rfl,?_⟩
    obtain⟨dst,op,type,pos,after,guard⟩:=x
    simp only at D8;subst D8
    simp only[VYK] at hw ⊢
    have e1:ev G ((Ef.gn bx s.nb u).run tr y s) (.tmp m)=ev G s (.tmp m):=(hl m (j3 (x:=.tmp m) (by simp[Op.operands]) rfl)).symm
    have e2:ev G ((Ef.gn bx s.nb u).run tr y s) (.tmp k)=ev G s (.tmp k):=(hl k (j3 (x:=.tmp k) (by simp[Op.operands]) rfl)).symm
    rw[e1,e2]
    exact zL (bx':=bx) (u:=u) (tL (pF hv) fun s' u' e=>⟨by rw[← e.1],e.2⟩) hw rfl rfl
   ·exact .inr ⟨by rw[← j0 hl];exact hg,he⟩
  ·exact uO AG hl (fun _=>⟨rfl,rfl⟩) hx
 by_cases hra:xF tr x y=true
 ·obtain⟨h1,h2⟩:=GA hra
  rcases hx with⟨hg,hw,gK⟩ | ⟨hg,he⟩
  ·refine .inl ⟨by rw[← j0 hl];exact hg,?_,gK⟩
   have hf:s.nb≤f.nb s.nb∧∀ i,i<s.nb→f.bx s.nb s.bx i=s.bx i:=by
    rcases hy with⟨_,hv,_⟩ | ⟨_,rfl⟩
    ·exact h2 _ _ hv
    ·exact⟨ar _,fun _ _=>rfl⟩
   exact Vb AG h1 (fun q hq=>Bz fun t ht=>hl t (j3 hq ht)) hf.1 hf.2 hw
  ·exact .inr ⟨by rw[← j0 hl];exact hg,he⟩
 ·refine uO AG hl (fun hm=>?_) hx
  have hq:=AP hy (fun h=>hm ((AA.my h).resolve_right (fun h=>by rcases h with h | h | h;exact dQ h;exact hlk h;exact hra h)))
  obtain⟨q1,q2,_⟩:=pt hq s.bx s.nb 0
  exact⟨q1.symm,q2.symm⟩
theorem TEf.back {x y:Oper} {e f:Ef} (AA:IU tr ops x y) (hx:TEf P G tr ops x s e) (hy:TEf P G tr ops y (e.run tr x s) f):TEf P G tr ops y s f:=by
 have hl:∀ t∈y.looksAt ops,(e.run tr x s).fr t=s.fr t:=fun t ht=>by
  rw[BC]
  simp only
  rw[kz (fun hw=>AA.xy t hw ht)]
 have AG:∀ d,y.dst=some d→(e.run tr x s).fr d=s.fr d:=fun d hd=>by
  rw[BC]
  simp only
  rw[kz (fun hw=>AA.ww d hw (by simp[wr,hd]))]
 by_cases dQ:mS tr y x=true
 ·obtain⟨q1,q2⟩:=IX dQ hx
  exact Va dQ hl (fun d b h1 h2 h3=>(q2 d b h1 h2 h3).symm) q1.symm hy
 by_cases hlk:o8 y x=true
 ·obtain⟨T,m,k,D8,H5⟩:=sa hlk
  rcases hx with⟨_,hv,_⟩ | ⟨_,rfl⟩
  ·rcases hy with⟨hg,hw,gK⟩ | ⟨hg,he⟩
   ·refine .inl ⟨by rw[← j0 hl];exact hg,?_,gK⟩
    unfold VEf at hv hw ⊢
    rw[H5] at hv
    rw[D8] at hw ⊢
    obtain⟨bx,u,rfl,hv⟩:=hv
    obtain⟨v,rfl,hw⟩:=hw
    refine⟨v,rfl,?_⟩
    obtain⟨dst,op,type,pos,after,guard⟩:=y
    simp only at D8;subst D8
    simp only[VYK] at hw ⊢
    have e1:ev G ((Ef.gn bx s.nb u).run tr x s) (.tmp m)=ev G s (.tmp m):=hl m (j3 (x:=.tmp m) (by simp[Op.operands]) rfl)
    have e2:ev G ((Ef.gn bx s.nb u).run tr x s) (.tmp k)=ev G s (.tmp k):=hl k (j3 (x:=.tmp k) (by simp[Op.operands]) rfl)
    rw[e1,e2] at hw
    have hE:=tL (pF hv) (K':=fun s' u'=>bx=s'.bx∧u=u') fun s' u' e=>⟨by rw[← e.1],e.2⟩
    obtain⟨w,hw0⟩:=BF hE
    have:=zL (s':=(Ef.gn bx s.nb u).run tr x s) hE hw0 rfl rfl
    rw[zF hw this];exact hw0
   ·exact .inr ⟨by rw[← j0 hl];exact hg,he⟩
  ·exact uO AG hl (fun _=>⟨rfl,rfl⟩) hy
 ·refine uO AG hl (fun hm=>?_) hy
  have hq:=AP hx (fun h=>hm ((AA.mx h).resolve_right (fun h=>by rcases h with h | h;exact dQ h;exact hlk h)))
  obtain⟨q1,q2,_⟩:=pt hq s.bx s.nb 0
  exact⟨q1,q2⟩
theorem BH {x y:Oper} {e f:Ef} (AA:IU tr ops x y) (hx:TEf P G tr ops x s e) (hy:TEf P G tr ops y s f):f.run tr y (e.run tr x s)=e.run tr x (f.run tr y s):=by
 simp only[BC]
 by_cases h2:dR tr x=2
 ·have hq:=AP hy (fun h=>by
   rcases AA.mx h2 with h' | h' | h'
   ·rw[h'] at h;cases h
   ·rw[IW h'] at h;cases h
   ·rw[(IY (tr:=tr) h').1] at h;cases h)
  obtain⟨q1,q2,q3⟩:=pt hq (e.bx s.nb s.bx) (e.nb s.nb) s.nb
  obtain⟨r1,r2,_⟩:=pt hq s.bx s.nb s.nb
  rw[q1,q2,q3,r1,r2,BB AA.ww]
 ·have hq:=AP hx h2
  obtain⟨q1,q2,q3⟩:=pt hq (f.bx s.nb s.bx) (f.nb s.nb) s.nb
  obtain⟨r1,r2,_⟩:=pt hq s.bx s.nb s.nb
  rw[q1,q2,q3,r1,r2,BB AA.ww]
def FreeAt (tr:List Nat) (md:Region.Mode) (ops:Array Oper) (listed:Array Bool) (i:Nat) (oi:Oper):Prop:=
 ∃ B:List Nat,(∀ j∈B,listed.getD j true=false∧∃ oj,ops[j]?=some oj∧∃ e∈oj.after,Region.binds md e=true∧(e.on=i∨e.on∈B))∧
  ∀ j oj,ops[j]?=some oj→j≠i→listed.getD j true=false→j∉B→Gz tr ops oi oj=true
theorem FreeAt.step {md:Region.Mode} {listed:Array Bool} {i j:Nat} {oi oj:Oper} (h:FreeAt tr md ops listed i oi) (hr:i∈Region.ready md ops listed) (hj:j∈Region.ready md ops listed) (xe:j≠i) (Ac:ops[j]?=some oj) :
 IU tr ops oi oj∧FreeAt tr md ops (listed.setIfInBounds j true) i oi:=by
 obtain⟨B,hB,Ad⟩:=h
 obtain⟨anl,oj',aaj,en⟩:=kV.1 hj
 rw[Ac] at aaj;cases aaj
 have UA:∀ q,listed.getD q true=false→∀ e∈oj.after,Region.binds md e=true→e.on≠q:=fun q h0 e he hb yC=>by
  have h1:=en e he hb
  rw[yC] at h1
  rcases bS q listed.size with h' | h'
  ·simp[h'] at h0 h1;rw[h0] at h1;cases h1
  ·simp[c9 h'] at h1
 have hjB:j∉B:=fun hjB=>by
  obtain⟨_,oj',aaj,e,he,hb,UB⟩:=hB j hjB
  rw[Ac] at aaj;cases aaj
  rcases UB with UB | UB
  ·exact UA i (kV.1 hr).1 e he hb UB
  ·exact UA _ (hB _ UB).1 e he hb rfl
 refine⟨IV (Ad j oj Ac xe anl hjB),B,fun b hb=>?_,fun k ok hk hki UA fS=>?_⟩
 ·have hjb:j≠b:=fun h=>hjB (by rw[h];exact hb)
  exact⟨by rw[lH true hjb];exact(hB b hb).1,(hB b hb).2⟩
 ·refine Ad k ok hk hki ?_ fS
  by_cases hjk:j=k
  ·subst hjk;exact anl
  ·rw[lH true hjk] at UA;exact UA
theorem wy {K:S→Prop} {i:Nat} {oi:Oper} {e:Ef} (hi:ops[i]?=some oi) :
 ∀ (fuel:Nat) (listed:Array Bool) (s:S),FreeAt tr md ops listed i oi→
  i∈Region.ready md ops listed→TEf P G tr ops oi s e→
  Gy P G tr md ops K fuel (listed.setIfInBounds i true) (e.run tr oi s)→Gy P G tr md ops K (fuel+1) listed s:=by
 intro fuel
 induction fuel with
 |zero=>
  intro listed s _ hr hy H
  refine⟨fun h=>(by rw[h] at hr;cases hr),fun j hj=>?_⟩
  by_cases xe:j=i
  ·subst xe;unfold wu;simp only[hi];exact⟨e,hy,H⟩
  ·have:=ready_mono hj xe
   rw[H.1] at this
   cases this
 |succ fuel ih=>
  intro listed s Ad hr hy H
  refine⟨fun h=>(by rw[h] at hr;cases hr),fun j hj=>?_⟩
  by_cases xe:j=i
  ·subst xe;unfold wu;simp only[hi];exact⟨e,hy,H⟩
  ·have h1:=H.2 j (ready_mono hj xe)
   obtain⟨_,oj,Ac,_⟩:=kV.1 hj
   obtain⟨AA,Dj⟩:=Ad.step hr hj xe Ac
   unfold wu at h1 ⊢
   simp only[Ac] at h1 ⊢
   obtain⟨f,hf,hK⟩:=h1
   have H4:=hy.back AA hf
   refine⟨f,H4,ih (listed.setIfInBounds j true) _ Dj (ready_mono hr (gX xe)) (hy.keep AA H4) ?_⟩
   rw[Array.setIfInBounds_comm _ _ xe,← BH AA hy H4]
   exact hK
def uR (ops:Array Oper) (listed:Array Bool) (i:Nat):List Nat→List Nat→List Nat
 |[],B=>B
 |j::r,B=>uR ops listed i r (match ops[j]? with
  |some oj=>if(!listed.getD j true)&&(oj.after.any fun e=>Region.binds .any e&&(e.on==i||B.contains e.on)) then j::B else B
  |none=>B)
theorem xI {ops:Array Oper} {listed:Array Bool} {i:Nat}:∀ (l B:List Nat),(∀ j∈B,listed.getD j true=false∧∃ oj,ops[j]?=some oj∧∃ e∈oj.after,Region.binds .any e=true∧(e.on=i∨e.on∈B))→
 ∀ j∈uR ops listed i l B,listed.getD j true=false∧∃ oj,ops[j]?=some oj∧∃ e∈oj.after,Region.binds .any e=true∧(e.on=i∨e.on∈uR ops listed i l B)
 |[],_,h=>h
 |k::r,B,h=>by
  unfold uR
  refine xI r _ ?_
  split
  ·rename_i oj Ac
   split
   ·rename_i hc
    simp only[aX,dM] at hc
    obtain⟨h1,h2⟩:=hc
    rw[Array.any_eq_true'] at h2
    obtain⟨e,he,h3⟩:=h2
    simp only[aX,eT,kG,iG,bF] at h3
    intro j hj
    rcases aQ.1 hj with rfl | hj
    ·exact⟨h1,oj,Ac,e,he,h3.1,h3.2.imp id (aR _)⟩
    ·obtain⟨a,b,c,d,hd,f,g⟩:=h j hj
     exact⟨a,b,c,d,hd,f,g.imp id (aR _)⟩
   ·exact h
  ·exact h
def IZ (tr:List Nat) (ops:Array Oper) (listed:Array Bool) (i:Nat):Bool:=
 match ops[i]? with
 |none=>true
 |some oi=>(fun B=>(List.range ops.size).all fun j=>match ops[j]? with
  |none=>true
  |some oj=>j==i||listed.getD j true||List.contains B j||Gz tr ops oi oj) (uR ops listed i (List.range ops.size) [])
theorem pH {i:Nat} {oi:Oper} {listed:Array Bool} (hi:ops[i]?=some oi) (h:IZ tr ops listed i=true):FreeAt tr .any ops listed i oi:=by
 unfold IZ at h
 simp only[hi,aV,db] at h
 refine⟨uR ops listed i (List.range ops.size) [],xI _ _ (fun _ h=>by cases h),fun j oj hj xe hl fS=>?_⟩
 have bV:j<ops.size:=(bf.1 hj).1
 have:=h j bV
 simp only[hj,hl,eT,kG,xe,false_or,aI,iG,bF] at this
 exact this.resolve_left fS
def tN (tr:List Nat) (ops:Array Oper):Nat→Nat→Array Bool→Bool
 |0,_,listed=>(Region.ready .any ops listed).isEmpty
 |fuel+1,k,listed=>(Region.ready .any ops listed).contains k&&IZ tr ops listed k&&tN tr ops fuel (k+1) (listed.setIfInBounds k true)
def Eu (tr:List Nat) (ops:Array Oper):List Nat→Array Bool→Bool
 |[],listed=>(Region.ready .any ops listed).isEmpty
 |k::r,listed=>(Region.ready .any ops listed).contains k&&IZ tr ops listed k&&Eu tr ops r (listed.setIfInBounds k true)
def sW (tr:List Nat) (ops:Array Oper):List Nat→Array Bool→Option (Array Bool)
 |[],listed=>some listed
 |k::r,listed=>if(Region.ready .any ops listed).contains k&&IZ tr ops listed k then sW tr ops r (listed.setIfInBounds k true) else none
def qL (ops:Array Oper) (ks:List Nat):List Oper:=ks.filterMap fun k=>ops[k]?
theorem yP {K:S→Prop}:∀ (ks:List Nat) (listed:Array Bool) (s:S),(∀ k∈ks,∃ o,ops[k]?=some o∧oY tr o=false)→
 Eu tr ops ks listed=true→gY P G tr ops (qL ops ks) s K→Gy P G tr .any ops K ks.length listed s
 |[],_,_,_,hB,h=>⟨by simpa[Eu] using hB,h⟩
 |k::r,listed,s,hA,hB,h=>by
  obtain⟨o,ho,D7⟩:=hA k (bB ..)
  simp only[Eu,aX] at hB
  obtain⟨⟨hr,hf⟩,hB'⟩:=hB
  simp only[qL,jh,ho,gY] at h
  obtain⟨e,he,hK⟩:=kE (K:=fun s'=>gY P G tr ops (qL ops r) s' K) D7 h
  exact wy ho r.length listed s (pH ho hf) (by simpa using hr) he
   (yP r _ _ (fun k hk=>hA k (aR _ hk)) hB' hK)
theorem I4 {K K0:S→Prop} (m:Nat) (HZ:Array Bool) (hK0:∀ s',K0 s'→Gy P G tr .any ops K m HZ s'):∀ (ks:List Nat) (listed:Array Bool) (s:S),(∀ k∈ks,∃ o,ops[k]?=some o∧oY tr o=false)→
 sW tr ops ks listed=some HZ→gY P G tr ops (qL ops ks) s K0→Gy P G tr .any ops K (m+ks.length) listed s
 |[],listed,s,_,hB,h=>by simp only[sW,ai] at hB;subst hB;exact hK0 _ h
 |k::r,listed,s,hA,hB,h=>by
  obtain⟨o,ho,D7⟩:=hA k (bB ..)
  unfold sW at hB
  split at hB
  ·rename_i hc
   simp only[aX] at hc
   obtain⟨hr,hf⟩:=hc
   simp only[qL,jh,ho,gY] at h
   obtain⟨e,he,hK⟩:=kE (K:=fun s'=>gY P G tr ops (qL ops r) s' K0) D7 h
   have:=wy ho (m+r.length) listed s (pH ho hf) (by simpa using hr) he
    (I4 m HZ hK0 r _ _ (fun k hk=>hA k (aR _ hk)) hB hK)
   simpa[dI] using this
  ·cases hB
def O0 (tr:List Nat) (ops:Array Oper):Bool:=ops.toList.all (fun o=>!oY tr o)&&match sW tr ops (List.range (lk ops)) (Array.replicate ops.size false) with
 |some listed=>(Region.ready .any ops listed).all (fun k=>k==lk ops||k==lk ops+1)&&(Region.ready .any ops listed).contains (lk ops)&&decide (lk ops+1<ops.size)&&
   Eu tr ops ((List.range ops.size).drop (lk ops+1)) (listed.setIfInBounds (lk ops) true)&&Eu tr ops (lk ops::(List.range ops.size).drop (lk ops+2)) (listed.setIfInBounds (lk ops+1) true)
 |none=>false
theorem sb (i m:Nat) (h:i+m≤ops.size):qL ops (List.range' i m)=(ops.toList.drop i).take m:=by
 induction m generalizing i with
 |zero=>simp[qL]
 |succ m ih=>
  have hi:i<ops.size:=by omega
  have ih':=ih (i+1) (by omega)
  unfold qL at ih' ⊢
  have hd:ops.toList.drop i=ops[i]::ops.toList.drop (i+1):=by
   rw[dD (by simpa using hi)];simp
  rw[ir,jh,ax hi,hd,fp]
  simp only
  rw[ih']
theorem BI (eK:mw n ops=true) (vU:O0 tr ops=true) {K:S→Prop} (hK:∀ a w s,K s→SE G n I0 M w0 s a w→Q .normal a w)
 (h:aaE P G tr ops s K) (dB:SE G n I0 M w0 s a w):wpAny P .any ops Q ops.size (Array.replicate ops.size false) a { w with drawn:=w.drawn+1 }:=by
 unfold O0 at vU
 simp only[aX,aV,dM] at vU
 obtain⟨hA,vU⟩:=vU
 have hA':∀ k,k<ops.size→∃ o,ops[k]?=some o∧oY tr o=false:=fun k hk=>⟨ops[k],ax hk,hA _ (by simp)⟩
 split at vU
 ·rename_i listed vJ
  simp only[aX,bF] at vU
  obtain⟨⟨⟨⟨en,jE⟩,fC⟩,hl1⟩,hl2⟩:=vU
  generalize hi:lk ops=i at *
  unfold aaE at h
  rw[hi] at h
  have hr0:List.range i=List.range' 0 i:=e9
  have aak:qL ops (List.range i)=ops.toList.take i:=by
   rw[hr0,sb 0 i (by omega)];rfl
  have apy:(List.range ops.size).drop (i+1)=List.range' (i+1) (ops.size - (i+1)):=by
   rw[e9,List.drop_range'];simp
  have apz:(List.range ops.size).drop (i+2)=List.range' (i+2) (ops.size - (i+2)):=by
   rw[e9,List.drop_range'];simp
  have hci:ops.toList.drop i=ops[i]::ops[i+1]::ops.toList.drop (i+2):=by
   rw[dD (by simp;omega),dD (i:=i+1) (by simp;omega)];simp
  have Uw:qL ops ((List.range ops.size).drop (i+1))=ops[i+1]::ops.toList.drop (i+2):=by
   rw[apy,sb _ _ (by omega)]
   rw[dW (by simp),dD (by simp;omega)];simp
  have hn2:qL ops ((List.range ops.size).drop (i+2))=ops.toList.drop (i+2):=by
   rw[apz,sb _ _ (by omega)]
   exact dW (by simp)
  have key:Gy P G tr .any ops K ((ops.size - (i+1)+1)+(List.range i).length) (Array.replicate ops.size false) s:=by
   rw[← aak] at h
   refine I4 _ listed (fun s' D4=>?_) (List.range i) _ s (fun k hk=>hA' k (by have:=db.1 hk;omega)) vJ h
   obtain⟨h1,h2⟩:=D4
   rw[hci] at h1 h2
   simp only[afC] at h2
   refine⟨fun h0=>(by rw[h0] at jE;cases jE),fun k hk=>?_⟩
   have Um:=aV.1 en k hk
   simp only[eT,kG] at Um
   obtain⟨oi,hoi,hAi⟩:=hA' i (by omega)
   obtain⟨oj,Ac,hAj⟩:=hA' (i+1) fC
   rcases Um with rfl | rfl
   ·unfold wu
    simp only[hoi]
    rw[show ops[k]=oi from by rw[ax (by omega)] at hoi;simpa using hoi] at h1
    simp only[gY] at h1
    obtain⟨e,he,hK'⟩:=kE (K:=fun s'=>gY P G tr ops (ops[k+1]::ops.toList.drop (k+2)) s' K) hAi h1
    refine⟨e,he,?_⟩
    have:=yP (K:=K) ((List.range ops.size).drop (k+1)) (listed.setIfInBounds k true) _ (fun q hq=>hA' q (by have:=db.1 (cM hq);exact this)) hl1 (by rw[Uw];exact hK')
    simpa using this
   ·unfold wu
    simp only[Ac]
    rw[show ops[i+1]=oj from by rw[ax fC] at Ac;simpa using Ac] at h2
    simp only[gY] at h2
    obtain⟨e,he,hK'⟩:=kE (K:=fun s'=>gY P G tr ops (ops[i]::ops.toList.drop (i+2)) s' K) hAj h2
    refine⟨e,he,?_⟩
    have:=yP (K:=K) (i::(List.range ops.size).drop (i+2)) (listed.setIfInBounds (i+1) true) _ (fun q hq=>hA' q (by
     rcases aQ.1 hq with rfl | hq
     ·omega
     ·exact db.1 (cM hq))) hl2 (by
     unfold qL
     rw[jh,ax (show i<ops.size by omega)]
     simp only
     have:=hn2
     unfold qL at this
     rw[this];exact hK')
    have e1:(i::(List.range ops.size).drop (i+2)).length=ops.size - (i+1):=by simp;omega
    rw[e1] at this;exact this
  have tA:SE G n I0 M w0 s a { w with drawn:=w.drawn+1 }:=by
   obtain⟨I,β,ob,hst⟩:=dB
   exact⟨I,β,ob,hst.drew⟩
  have e2:(ops.size - (i+1)+1)+(List.range i).length=ops.size:=by simp;omega
  rw[e2] at key
  exact pG eK hK _ _ _ _ _ key tA
 ·cases vU
def GB (tr:List Nat) (ops:Array Oper):Bool:=ops.toList.all (fun o=>!oY tr o)&&tN tr ops ops.size 0 (Array.replicate ops.size false)
theorem I5 {K:S→Prop}:∀ (l:List Oper) (k:Nat) (listed:Array Bool) (s:S),(∀ o∈l,oY tr o=false)→(∀ j,l[j]?=ops[k+j]?)→
 tN tr ops l.length k listed=true→gY P G tr ops l s K→Gy P G tr .any ops K l.length listed s
 |[],_,_,_,_,_,hB,h=>⟨by simpa[tN] using hB,h⟩
 |o::l,k,listed,s,hA,hl,hB,h=>by
  have h0:ops[k]?=some o:=by simpa using(hl 0).symm
  simp only[aA,tN,aX] at hB
  obtain⟨⟨hr,hf⟩,hB'⟩:=hB
  simp only[gY] at h
  obtain⟨e,he,hK⟩:=kE (K:=fun s'=>gY P G tr ops l s' K) (hA o (bB ..)) h
  exact wy h0 l.length listed s (pH h0 hf) (by simpa using hr) he
   (I5 l (k+1) _ _ (fun o ho=>hA o (aR _ ho)) (fun j=>by have:=hl (j+1);simpa[dI,Nat.add_comm 1 j] using this) hB' hK)
theorem Ap (eK:mw n ops=true) (vU:GB tr ops=true) {K:S→Prop} (hK:∀ a w s,K s→SE G n I0 M w0 s a w→Q .normal a w)
 (h:gY P G tr ops ops.toList s K) (dB:SE G n I0 M w0 s a w):wpAny P .any ops Q ops.size (Array.replicate ops.size false) a { w with drawn:=w.drawn+1 }:=by
 simp only[GB,aX,aV,dM] at vU
 have h1:=I5 (K:=K) ops.toList 0 (Array.replicate ops.size false) s vU.1 (by simp) (by simpa using vU.2) h
 have tA:SE G n I0 M w0 s a { w with drawn:=w.drawn+1 }:=by
  obtain⟨I,β,ob,hst⟩:=dB
  exact⟨I,β,ob,hst.drew⟩
 have:=pG eK hK _ _ _ _ _ h1 tA
 simpa using this
def xJ (P:Program) (G:Gl) (tr:List Nat) (ops:Array Oper) (L1:Array Bool) (K0:S→Prop):Nat→Array Bool→S→Prop
 |0,listed,s=>listed=L1∧K0 s
 |fuel+1,listed,s=>Region.ready .any ops listed≠[]∧∀ i∈Region.ready .any ops listed,wu P G tr ops i (xJ P G tr ops L1 K0 fuel (listed.setIfInBounds i true)) s
def uS (ops:Array Oper) (m:Nat):Bool:=(List.range ops.size).all fun j=>decide (j<m)||match ops[j]? with
 |some o=>(List.range m).all fun k=>o.after.any fun e=>Region.binds .any e&&(e.on==k)
 |none=>true
theorem GF {m:Nat} (h:uS ops m=true) {j k:Nat} {oj:Oper} (hj:ops[j]?=some oj) (hm:m≤j) (hk:k<m):∃ e∈oj.after,Region.binds .any e=true∧e.on=k:=by
 unfold uS at h
 rw[aV] at h
 have h1:=h j (db.2 (bf.1 hj).1)
 simp only[hj,eT,bF] at h1
 have h2:=aV.1 (h1.resolve_left (by omega)) k (db.2 hk)
 rw[Array.any_eq_true'] at h2
 obtain⟨e,he,h3⟩:=h2
 simp only[aX,kG] at h3
 exact⟨e,he,h3.1,h3.2⟩
theorem BJ {m q j:Nat} (h:(nU m q).getD j true=false):m≤j:=by
 rcases bS j m with hj | hj
 ·exfalso
  unfold nU at h
  rw[ah,di,az (by simpa using hj)] at h
  simp[hj] at h
 ·exact hj
theorem yQ {m q j:Nat} (h:(nU m q).getD j false=true):j<m:=by
 rcases bS j m with hj | hj
 ·exact hj
 ·exfalso
  unfold nU at h
  rw[ah,di,aF (by simpa using hj),List.getElem?_replicate] at h
  split at h<;>simp at h
theorem I6 {K0:S→Prop} {m:Nat} (LI:uS ops m=true) {i:Nat} {oi:Oper} {e:Ef} (hi:ops[i]?=some oi) :
 ∀ (fuel:Nat) (listed:Array Bool) (s:S),listed.size=ops.size→FreeAt tr .any ops listed i oi→
  i∈Region.ready .any ops listed→TEf P G tr ops oi s e→
  xJ P G tr ops (nU m ops.size) K0 fuel (listed.setIfInBounds i true) (e.run tr oi s)→xJ P G tr ops (nU m ops.size) K0 (fuel+1) listed s:=by
 intro fuel
 induction fuel with
 |zero=>
  intro listed s fC _ hr hy H
  refine⟨fun h=>(by rw[h] at hr;cases hr),fun j hj=>?_⟩
  by_cases xe:j=i
  ·subst xe;unfold wu;simp only[hi];exact⟨e,hy,H⟩
  ·exfalso
   obtain⟨UA,oj,Ac,en⟩:=kV.1 hj
   have Qk:i<listed.size:=by rw[fC];exact(bf.1 hi).1
   have h1:(nU m ops.size).getD j true=false:=by rw[← H.1,lH true (gX xe)];exact UA
   have h2:(nU m ops.size).getD i false=true:=by
    rw[← H.1,ah,Array.getElem?_setIfInBounds_self_of_lt Qk];rfl
   obtain⟨ed,hed,hb,UB⟩:=GF LI Ac (BJ h1) (yQ h2)
   have h3:=en ed hed hb
   rw[UB] at h3
   have h4:=(kV.1 hr).1
   rw[ah,ax Qk] at h3 h4
   simp only[cG] at h3 h4
   rw[h4] at h3;cases h3
 |succ fuel ih=>
  intro listed s fC Ad hr hy H
  refine⟨fun h=>(by rw[h] at hr;cases hr),fun j hj=>?_⟩
  by_cases xe:j=i
  ·subst xe;unfold wu;simp only[hi];exact⟨e,hy,H⟩
  ·have h1:=H.2 j (ready_mono hj xe)
   obtain⟨_,oj,Ac,_⟩:=kV.1 hj
   obtain⟨AA,Dj⟩:=Ad.step hr hj xe Ac
   unfold wu at h1 ⊢
   simp only[Ac] at h1 ⊢
   obtain⟨f,hf,hK⟩:=h1
   have H4:=hy.back AA hf
   refine⟨f,H4,ih (listed.setIfInBounds j true) _ (by rw[dp];exact fC) Dj (ready_mono hr (gX xe)) (hy.keep AA H4) ?_⟩
   rw[Array.setIfInBounds_comm _ _ xe,← BH AA hy H4]
   exact hK
theorem Ew {K0:S→Prop} {m:Nat} (LI:uS ops m=true):∀ (ks:List Nat) (listed:Array Bool) (s:S),listed.size=ops.size→(∀ k∈ks,∃ o,ops[k]?=some o∧oY tr o=false)→
 sW tr ops ks listed=some (nU m ops.size)→gY P G tr ops (qL ops ks) s K0→xJ P G tr ops (nU m ops.size) K0 ks.length listed s
 |[],listed,s,_,_,hB,h=>by simp only[sW,ai] at hB;exact⟨hB,h⟩
 |k::r,listed,s,fC,hA,hB,h=>by
  obtain⟨o,ho,D7⟩:=hA k (bB ..)
  unfold sW at hB
  split at hB
  ·rename_i hc
   simp only[aX] at hc
   obtain⟨hr,hf⟩:=hc
   simp only[qL,jh,ho,gY] at h
   obtain⟨e,he,hK⟩:=kE (K:=fun s'=>gY P G tr ops (qL ops r) s' K0) D7 h
   exact I6 LI ho r.length listed s fC (pH ho hf) (by simpa using hr) he
    (Ew LI r _ _ (by rw[dp];exact fC) (fun k hk=>hA k (aR _ hk)) hB hK)
  ·cases hB
theorem aaT {K:S→Prop} {KW:Act→World→Prop} {i:Nat} {oi:Oper} {e:Ef} (eK:mw n ops=true) (hi:ops[i]?=some oi) (he:TEf P G tr ops oi s e) (dB:SE G n I0 M w0 s a w)
 (hK:K (e.run tr oi s)) (hKW:∀ a w s,K s→SE G n I0 M w0 s a w→KW a w):wpOp P ops Q i KW a w:=by
 unfold wpOp
 simp only[hi]
 have jE:oi∈ops.toList:=by
  have:=eB hi
  simpa using this
 obtain⟨I,β,ob,hst⟩:=dB
 rcases he with⟨hg,hv,_⟩ | ⟨hg,rfl⟩
 ·rw[if_pos (ql hst hg)]
  exact .inl (Et hst (eU eK jE) hv fun a' w' tA=>hKW _ _ _ hK tA)
 ·rw[ql hst hg]
  simp only[aI,dj]
  rw[By] at hK
  exact hKW _ _ _ hK (SE.put hst (eU eK jE) (by simp only[LR];exact .sk))
theorem zM (eK:mw n ops=true) {K0:S→Prop} {L1:Array Bool} {r:Nat} (hK:∀ a w s,K0 s→SE G n I0 M w0 s a w→wpAny P .any ops Q r L1 a w):∀ (fuel:Nat) (listed:Array Bool) (s:S) (a:Act) (w:World),
 xJ P G tr ops L1 K0 fuel listed s→SE G n I0 M w0 s a w→wpAny P .any ops Q (r+fuel) listed a w
 |0,listed,_,a,w,h,dB=>by obtain⟨rfl,h⟩:=h;exact hK _ _ _ h dB
 |fuel+1,_,s,a,w,h,dB=>by
  refine⟨fun h0=>absurd h0 h.1,fun i hi=>?_⟩
  have hh:=h.2 i hi
  obtain⟨_,oi,hoi,_⟩:=kV.1 hi
  unfold wu at hh
  simp only[hoi] at hh
  obtain⟨e,he,hh⟩:=hh
  exact aaT eK hoi he dB hh fun a w s hs dB=>zM eK hK fuel _ s a w hs dB
def O1 (Q:Exit→Act→World→Prop):Exit→Act→World→Prop:=fun e a w=>e=.normal∧Q e a w
theorem yR {Q:Exit→Act→World→Prop}:¬ LetsOut (O1 Q):=fun⟨_,_,h,_⟩=>by cases h
theorem DK {l:Option Nat} {m:Nat} {id:Nat} (hm:P.follows .mixedOrders=true) (oV:Bm ops=true) (eK:mw n ops=true) (vU:O0 tr ops=true) {K:S→Prop} (hK:∀ a w s,K s→SE G n I0 M w0 s a w→Q .normal a w)
 (h:aaE P G tr ops s K) (dB:SE G n I0 M w0 s a w):(Code.region id ops true).wpIn (FW l) m P Q a w:=
 wpIn_mono (Q:=O1 Q) (wpIn_region_any hm (xA oV yR _ _ _ _ (BI eK vU (fun a w s hk dB=>⟨rfl,hK a w s hk dB⟩) h dB))) (fun _ _ _ h=>h.2)
theorem BK {l:Option Nat} {m:Nat} {id:Nat} (hm:P.follows .mixedOrders=true) (oV:Bm ops=true) (eK:mw n ops=true) (vU:GB tr ops=true) {K:S→Prop} (hK:∀ a w s,K s→SE G n I0 M w0 s a w→Q .normal a w)
 (h:gY P G tr ops ops.toList s K) (dB:SE G n I0 M w0 s a w):(Code.region id ops true).wpIn (FW l) m P Q a w:=
 wpIn_mono (Q:=O1 Q) (wpIn_region_any hm (xA oV yR _ _ _ _ (Ap eK vU (fun a w s hk dB=>⟨rfl,hK a w s hk dB⟩) h dB))) (fun _ _ _ h=>h.2)
