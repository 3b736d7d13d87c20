/- Values without memory: regions that draw their order: an operation's effect. -/
import Derived.Test.YtegbpjodbjhjeaaGreatDoorVlCode
import Derived.Orders
set_option linter.all false
namespace Go.Vl
open Go Go.RowKit
section
variable {P:Program} {G:Gl} {tr:List Nat} {s:S} {o:Oper} {x y:V} {K:V→Prop}
theorem wR {op:BinOp} {k:IntKind} {a b:Int} (h:qG op k a b K):∃ v,qG op k a b (fun u=>v=u)∧K v:=by
 cases op<;>simp only[qG] at h ⊢<;>first | exact⟨_,rfl,h⟩ | exact⟨_,⟨h.1,rfl⟩,h.2⟩
theorem ML {op:BinOp} {a b:ByteArray} (h:y2 op a b K):∃ v,y2 op a b (fun u=>v=u)∧K v:=by
 cases op<;>simp only[y2] at h ⊢<;>first | exact h.elim | exact⟨_,rfl,h⟩ | exact⟨_,⟨h.1,rfl⟩,h.2⟩
theorem MM {op:BinOp} {T:TypeId} (h:mQ P op T x y K):∃ v,mQ P op T x y (fun u=>v=u)∧K v:=by
 unfold mQ at h
 split at h
 ·split at h
  ·exact wR h
  ·exact wR h
  ·rename_i h1 h2
   split at h
   ·rename_i hk
    obtain⟨v,hv,hK⟩:=wR h
    refine⟨v,?_,hK⟩
    unfold mQ
    simp only[if_pos hk]
    first | exact hv | (split<;>first | exact hv | simp_all)
   ·exact h.elim
 ·exact ML h
 ·split at h
  ·rename_i hi
   split at h
   ·exact⟨_,by simp only[mQ,hi],h⟩
   ·exact⟨_,by simp only[mQ,hi],h⟩
   ·exact h.elim
  ·exact h.elim
 ·split at h
  ·rename_i hi
   split at h
   ·rename_i hr
    obtain⟨hl,h⟩:=h
    split at h
    ·exact⟨_,by simp only[mQ,hi,hr];exact⟨hl,trivial⟩,h⟩
    ·exact⟨_,by simp only[mQ,hi,hr];exact⟨hl,trivial⟩,h⟩
    ·exact h.elim
   ·exact h.elim
  ·exact h.elim
 ·exact h.elim
theorem PO {op:UnOp} (h:vun op x K):∃ v,vun op x (fun u=>v=u)∧K v:=by
 unfold vun at h
 split at h<;>first | exact h.elim | exact⟨_,rfl,h⟩
theorem qQ {ag:Bool} {sz off:Nat} {cs:List C} (h:eB ag sz off cs K):∃ v,eB ag sz off cs (fun u=>v=u)∧K v:=by
 unfold eB at h
 split at h
 ·rename_i lh;exact⟨_,by unfold eB;rw[if_pos lh];exact⟨h.1,rfl⟩,h.2⟩
 ·rename_i lh
  split at h
  ·rename_i c hc;exact⟨_,by unfold eB;rw[if_neg lh,hc],h⟩
  ·exact h.elim
theorem ID {ag:Bool} {sz off:Nat} {vs:List V} (h:xA ag sz off vs K):∃ v,xA ag sz off vs (fun u=>v=u)∧K v:=by
 unfold xA at h
 split at h
 ·rename_i lh;exact⟨_,by unfold xA;rw[if_pos lh];exact⟨h.1,rfl⟩,h.2⟩
 ·rename_i lh
  split at h
  ·rename_i c hc;exact⟨_,by unfold xA;rw[if_neg lh,hc],h⟩
  ·exact h.elim
theorem IE {T:TypeId} (h:dy P T s x K):∃ v,dy P T s x (fun u=>v=u)∧K v:=by
 unfold dy at h
 split at h
 ·rename_i hi
  obtain⟨v,h1,h2⟩:=qQ h
  exact⟨v,by unfold dy;rw[hi];exact h1,h2⟩
 ·rename_i i b k hi
  obtain⟨hb,h⟩:=h
  split at h
  ·rename_i lh
   exact⟨_,by unfold dy;rw[hi];refine⟨hb,?_⟩;rw[if_pos lh];exact⟨h.1,rfl⟩,h.2⟩
  ·rename_i lh
   split at h
   ·rename_i c hc
    exact⟨_,by unfold dy;rw[hi];refine⟨hb,?_⟩;rw[if_neg lh,hc],h⟩
   ·exact h.elim
 ·rename_i hi
  rcases h with⟨h1,b,k,len,cap,E,es,c,h2,h⟩ | ⟨b,k,len,cap,E,es,h2,h⟩
  ·exact⟨_,by unfold dy;simp only[hi];exact .inl ⟨h1,b,k,len,cap,E,es,c,h2,rfl⟩,h⟩
  ·obtain⟨v,h3,h4⟩:=qQ h
   exact⟨v,by unfold dy;simp only[hi];exact .inr ⟨b,k,len,cap,E,es,h2,h3⟩,h4⟩
 ·exact h.elim
theorem yw {T:TypeId} {f:Nat} (h:bj P T x f K):∃ v,bj P T x f (fun u=>v=u)∧K v:=by
 unfold bj at h
 split at h
 ·rename_i i hi
  split at h
  ·rename_i hf;exact⟨_,by unfold bj;simp only[hi,hf];exact⟨h.1,trivial⟩,h.2⟩
  ·rename_i hf;exact⟨_,by unfold bj;simp only[hi,hf];exact⟨h.1,trivial⟩,h.2⟩
  ·rename_i hf;exact⟨_,by unfold bj;simp only[hi,hf];exact⟨h.1,trivial⟩,h.2⟩
  ·exact h.elim
 ·exact h.elim
theorem FC {T:TypeId} {f:Nat} (h:qH P T x f K):∃ v,qH P T x f (fun u=>v=u)∧K v:=by
 unfold qH at h
 split at h
 ·rename_i hi
  split at h
  ·rename_i hf
   obtain⟨v,h1,h2⟩:=qQ h
   exact⟨v,by unfold qH;simp only[hi,hf];exact h1,h2⟩
  ·exact h.elim
 ·rename_i hi
  split at h
  ·rename_i hf
   obtain⟨v,h1,h2⟩:=ID h
   exact⟨v,by unfold qH;simp only[hi,hf];exact h1,h2⟩
  ·exact h.elim
 ·exact h.elim
theorem yy {T:TypeId} (h:cC P T x y K):∃ v,cC P T x y (fun u=>v=u)∧K v:=by
 unfold cC at h
 split at h
 ·rename_i hi
  split at h
  ·rename_i hj
   obtain⟨h0,h⟩:=h
   split at h
   ·rename_i hc
    exact⟨_,by unfold cC;simp only[hi,hj,hc];exact⟨h0,h.1,trivial⟩,h.2⟩
   ·exact h.elim
  ·exact h.elim
 ·rename_i hi
  split at h
  ·rename_i hj
   exact⟨_,by unfold cC;simp only[hi,hj];exact⟨h.1,trivial⟩,h.2⟩
  ·exact h.elim
 ·rename_i hi
  split at h
  ·rename_i hj
   exact⟨_,by unfold cC;simp only[hi,hj];exact⟨h.1,trivial⟩,h.2⟩
  ·exact h.elim
 ·rename_i hi
  split at h
  ·rename_i hj
   exact⟨_,by unfold cC;simp only[hi,hj];exact⟨h.1,trivial⟩,h.2⟩
  ·exact h.elim
 ·rename_i hi
  split at h
  ·rename_i hj
   exact⟨_,by unfold cC;simp only[hi,hj];exact⟨h.1,trivial⟩,h.2⟩
  ·exact h.elim
 ·exact h.elim
theorem FD {T:TypeId} (h:mR P T x y K):∃ v,mR P T x y (fun u=>v=u)∧K v:=by
 unfold mR at h
 split at h
 ·rename_i hi
  obtain⟨h0,h⟩:=h
  split at h
  ·rename_i hc
   exact⟨_,by unfold mR;simp only[hi,hc];exact⟨h0,trivial⟩,h⟩
  ·exact h.elim
 ·rename_i hi
  split at h
  ·rename_i hj
   obtain⟨v,h1,h2⟩:=qQ h.2
   exact⟨v,by unfold mR;simp only[hi,hj];exact⟨h.1,h1⟩,h2⟩
  ·exact h.elim
 ·exact h.elim
theorem FG {T:TypeId} {lo hi mx:Option V} (h:gG P T x lo hi mx K):∃ v,gG P T x lo hi mx (fun u=>v=u)∧K v:=by
 unfold gG at h
 split at h
 ·rename_i ht
  split at h
  ·rename_i e1 e2
   exact⟨_,by unfold gG;simp only[ht,e1,e2];exact⟨h.1,trivial⟩,h.2⟩
  ·exact h.elim
 ·rename_i ht
  split at h
  ·split at h
   ·rename_i e1 e2 e3
    exact⟨_,by unfold gG;simp only[ht,e1,e2,e3];exact⟨h.1,trivial⟩,h.2⟩
   ·exact h.elim
  ·split at h
   ·rename_i e1 e2
    exact⟨_,by unfold gG;simp only[ht,e1,e2];exact⟨h.1,trivial⟩,h.2⟩
   ·exact h.elim
  ·exact h.elim
 ·rename_i ht
  split at h
  ·rename_i e1 e2 e3 e4
   exact⟨_,by unfold gG;simp only[ht,e1,e2,e3,e4];exact⟨h.1,trivial⟩,h.2⟩
  ·exact h.elim
 ·rename_i ht
  split at h
  ·rename_i e1 e2 e3 e4
   exact⟨_,by unfold gG;simp only[ht,e1,e2,e3,e4];exact⟨h.1,trivial⟩,h.2⟩
  ·exact h.elim
 ·rename_i ht
  split at h
  ·rename_i e1
   exact⟨_,by unfold gG;simp only[ht,e1];exact⟨h.1,trivial⟩,h.2⟩
  ·exact h.elim
 ·rename_i ht
  split at h
  ·rename_i e1 e2 e3
   exact⟨_,by unfold gG;simp only[ht,e1,e2,e3];exact⟨h.1,trivial⟩,h.2⟩
  ·exact h.elim
 ·exact h.elim
theorem MN {T:TypeId} (h:Il P T x K):∃ v,Il P T x (fun u=>v=u)∧K v:=by
 unfold Il at h
 split at h
 ·rename_i e1
  split at h
  ·rename_i e2;exact⟨_,by unfold Il;simp only[e1,e2];exact⟨h.1,trivial⟩,h.2⟩
  ·exact h.elim
 ·exact h.elim
theorem IF {src dst:TypeId} (h:nU P src dst x K):∃ v,nU P src dst x (fun u=>v=u)∧K v:=by
 unfold nU at h
 split at h
 ·rename_i e1 e2;exact⟨_,by unfold nU;simp only[e1,e2],h⟩
 ·rename_i e1 e2;exact⟨_,by unfold nU;simp only[e1,e2],h⟩
 ·rename_i e1 e2
  split at h
  ·rename_i e3;exact⟨_,by unfold nU;simp only[e1,e2,e3],h⟩
  ·exact h.elim
 ·rename_i e1 e2
  split at h
  ·rename_i e3
   split at h
   ·rename_i e4;exact⟨_,by unfold nU;simp only[e1,e2,e3,e4],h⟩
   ·exact h.elim
  ·exact h.elim
 ·exact h.elim
theorem FH {T:TypeId} {parts:List (Nat×V)} (h:gI P T parts K):∃ v,gI P T parts (fun u=>v=u)∧K v:=by
 unfold gI at h
 split at h
 ·rename_i e1
  split at h
  ·rename_i e2;exact⟨_,by unfold gI;simp only[e1,e2],h⟩
  ·rename_i e2
   split at h
   ·rename_i e3;exact⟨_,by unfold gI;simp only[e1,e2,e3],h⟩
   ·exact h.elim
 ·rename_i e1
  split at h
  ·rename_i e2
   split at h
   ·rename_i e3;exact⟨_,by unfold gI;simp only[e1,e2,e3],h⟩
   ·rename_i e3
    split at h
    ·rename_i e4;exact⟨_,by unfold gI;simp only[e1,e2,e3,e4],h⟩
    ·exact h.elim
  ·exact h.elim
 ·exact h.elim
theorem mW {T:TypeId} {len:Nat} {parts:List (Nat×V)} (h:cy P T len parts K):∃ v,cy P T len parts (fun u=>v=u)∧K v:=by
 unfold cy at h
 split at h
 ·rename_i e1
  split at h
  ·rename_i e2
   obtain⟨h0,h⟩:=h
   split at h
   ·rename_i e3;exact⟨_,by unfold cy;simp only[e1,e2,e3];exact⟨h0,trivial⟩,h⟩
   ·exact h.elim
  ·exact h.elim
 ·exact h.elim
theorem MO {T:TypeId} (h:lC P T x K):∃ v,lC P T x (fun u=>v=u)∧K v:=by
 unfold lC at h
 split at h
 all_goals first | exact h.elim | (rename_i e1;exact⟨_,by unfold lC;simp only[e1],h⟩)
theorem vp {T:TypeId} (h:dX P T x y K):∃ v,dX P T x y (fun u=>v=u)∧K v:=by
 unfold dX at h
 split at h
 ·rename_i e1
  split at h
  ·rename_i e2
   obtain⟨h0,h⟩:=h
   split at h
   ·exact⟨_,by unfold dX;simp only[e1,e2];exact⟨h0,h.1,trivial⟩,h.2⟩
   ·exact h.elim
  ·exact h.elim
 ·exact h.elim
theorem BE {mx:Bool} {l:List V} (h:Ip mx l K):∃ v,Ip mx l (fun u=>v=u)∧K v:=by
 unfold Ip at h
 split at h
 ·exact⟨_,rfl,h⟩
 ·exact h.elim
theorem IG {f:V} {l:List V} (h:qh P G s f l K):∃ v,qh P G s f l (fun u=>v=u)∧K v:=by
 unfold qh at h
 split at h
 ·split at h
  ·rename_i e1
   obtain⟨r,h1,h2,h3⟩:=h
   exact⟨r,by unfold qh;simp only[e1];exact⟨r,h1,h2,rfl⟩,h3⟩
  ·exact h.elim
 ·split at h
  ·rename_i e1 e2 e3
   obtain⟨r,h1,h2,h3⟩:=h
   exact⟨r,by unfold qh;simp only[e1,e2,e3];exact⟨r,h1,h2,rfl⟩,h3⟩
  ·exact h.elim
 ·exact h.elim
theorem pW {b:Builtin} {ts:List TypeId} {l:List V} (h:eE P b ts l K):∃ v,eE P b ts l (fun u=>v=u)∧K v:=by
 unfold eE at h
 split at h
 ·exact MO h
 ·split at h
  ·rename_i ht
   obtain⟨v,h1,h2⟩:=vp h
   exact⟨v,by unfold eE;simp only[if_pos ht];exact h1,h2⟩
  ·rename_i ht
   unfold pG at h
   split at h
   ·rename_i e0 e1 e2
    split at h
    ·rename_i e3
     obtain⟨h0,h⟩:=h
     obtain⟨v,h1,h2⟩:=vp h
     exact⟨v,by unfold eE pG;simp only[if_neg ht,e0,e1,e2,e3];exact⟨h0,h1⟩,h2⟩
    ·exact h.elim
   ·exact h.elim
 ·exact BE h
 ·exact BE h
 ·exact h.elim
theorem FI {bx:Nat→List V} {nb:Nat} {f:V} {l:List V} {K:(Nat→List V)→Nat→V→Prop} (h:jR P G bx nb f l K):∃ bx' nb' v,jR P G bx nb f l (fun b n u=>(bx'=b∧nb'=n)∧v=u)∧K bx' nb' v:=by
 unfold jR at h
 split at h
 ·rename_i g all e1
  obtain⟨ρ,cargs,b0,r,b1,h1,h2,h3,h4,h5⟩:=h
  exact⟨_,_,_,by unfold jR;simp only[e1];exact⟨ρ,cargs,b0,r,b1,h1,h2,h3,h4,⟨rfl,rfl⟩,rfl⟩,h5⟩
 ·exact h.elim
theorem zp {bx:Nat→List V} {nb n m:Nat} {K:(Nat→List V)→Nat→V→Prop} (h:y5 bx nb n m K x):∃ bx' nb' v,y5 bx nb n m (fun b n u=>(bx'=b∧nb'=n)∧v=u) x∧K bx' nb' v:=by
 unfold y5 at h
 split at h
 ·exact⟨_,_,_,⟨⟨rfl,rfl⟩,rfl⟩,h⟩
 ·exact h.elim
theorem IH {T:TypeId} {K:Nat→Nat→Nat→List C→Prop} (h:qi P T x y K):∃ n m sz z,qi P T x y (fun n' m' sz' z'=>n=n'∧m=m'∧sz=sz'∧z=z')∧K n m sz z:=by
 unfold qi at h
 split at h
 ·rename_i e1
  split at h
  ·rename_i e2
   exact⟨_,_,_,_,by unfold qi;simp only[e1,e2];exact⟨h.1,by simp⟩,h.2⟩
  ·exact h.elim
 ·exact h.elim
theorem iQ {T:TypeId} {K:Nat→List Nat→Nat→List V→Option Nat→V→Prop} (h:ix P T s x y K) :
 ∃ i bs cl r res z,ix P T s x y (fun i' bs' cl' r' res' z'=>i=i'∧bs=bs'∧cl=cl'∧r=r'∧res=res'∧z=z')∧K i bs cl r res z:=by
 unfold ix at h
 split at h
 ·rename_i e1
  split at h
  ·rename_i e2 e3
   split at h
   ·rename_i e4 e5 e6
    split at h
    ·rename_i e7
     split at h
     ·rename_i e8
      exact⟨_,_,_,_,_,_,by unfold ix;simp only[e1,e2,e3,e4,e5,e6,e7,e8];exact⟨h.1,by simp⟩,h.2⟩
     ·exact h.elim
    ·exact h.elim
   ·exact h.elim
  ·exact h.elim
 ·exact h.elim
theorem fJ {T:TypeId} {i cl:Nat} {bs:List Nat} {r:List V} {res:Option Nat} {z:V} {K:Nat→List Nat→Nat→List V→Option Nat→V→Prop}
 (h:ix P T s x y (fun i' bs' cl' r' res' z'=>i=i'∧bs=bs'∧cl=cl'∧r=r'∧res=res'∧z=z')) (hK:K i bs cl r res z):ix P T s x y K:=by
 unfold ix at h
 split at h
 ·rename_i e1
  split at h
  ·rename_i e2 e3
   split at h
   ·rename_i e4 e5 e6
    split at h
    ·rename_i e7
     split at h
     ·rename_i e8
      obtain⟨h1,rfl,rfl,rfl,rfl,rfl,rfl⟩:=h
      unfold ix;simp only[e1,e2,e3,e4,e5,e6,e7,e8];exact⟨h1,hK⟩
     ·exact h.elim
    ·exact h.elim
   ·exact h.elim
  ·exact h.elim
 ·exact h.elim
theorem ql {T:TypeId} {kt et:TypeId} {tT tk te:TI} {ks:List EK} {kc:List C} {k z:V} {i cl:Nat} {bs:List Nat} {r:List V} {kcs:List (List C)} {res:Option Nat} {KM:Nat→List Nat→Nat→List V→Option Nat→V→Prop}
 (hT:ti P T=some tT) (hm:tT.kd=.map kt et) (hk:ti P kt=some tk) (UH:tk.eqs=some ks) (he:ti P et=some te) (hc:k.kcs tk.agg=some kc) (hz:pU te=some z) (hb:s.bx i=.mk bs cl::r)
 (hkc:jB tk.agg r=some kcs) (hf:mM ks kc kcs 0=some res) (hi:i<s.nb) (hl:kc.length=ks.length) (hr:jA ks kc kc=some true) (ha:zaB P et=true) (hK:KM i bs cl r res z):ix P T s (.mr i) k KM:=by
 obtain⟨kd,a1,a2,a3,a4,a5,a6⟩:=tT
 obtain⟨b1,b2,b3,ag,b5,b6,b7⟩:=tk
 simp only at hm UH hc hkc
 subst hm;subst UH
 unfold ix
 simp only[hT,hk,he,hc,hz,hb,hkc,hf]
 exact⟨⟨hi,hl,hr,ha⟩,hK⟩
theorem FK {T:TypeId} {K K':Nat→List Nat→Nat→List V→Option Nat→V→Prop} (h:ix P T s x y K) (h':ix P T s x y K'):∃ i bs cl r res z,K i bs cl r res z∧K' i bs cl r res z:=by
 unfold ix at h
 split at h
 ·rename_i e1
  split at h
  ·rename_i e2 e3
   split at h
   ·rename_i e4 e5 e6
    split at h
    ·rename_i e7
     split at h
     ·rename_i e8
      unfold ix at h';simp only[e1,e2,e3,e4,e5,e6,e7,e8] at h'
      exact⟨_,_,_,_,_,_,h.2,h'.2⟩
     ·exact h.elim
    ·exact h.elim
   ·exact h.elim
  ·exact h.elim
 ·exact h.elim
theorem lY {T:TypeId} {s':S} {K:Nat→List Nat→Nat→List V→Option Nat→V→Prop} (hb:s.bx=s'.bx) (hn:s.nb=s'.nb) (h:ix P T s x y K):ix P T s' x y K:=by
 unfold ix at h ⊢
 rw[← hb,← hn];exact h
theorem Do {T:TypeId} {v:V} {K:S→Prop} (h:ib P T s x y v K):∃ bx,ib P T ⟨fun _=>.un,s.bx,s.nb⟩ x y v (fun s'=>bx=s'.bx)∧K { s with bx:=bx }:=by
 unfold ib at h
 obtain⟨i,bs,cl,r,res,z,h1,h2⟩:=iQ h
 cases res with
 |none=>exact⟨_,fJ (lY rfl rfl h1) rfl,h2⟩
 |some j=>exact⟨_,fJ (lY rfl rfl h1) rfl,h2⟩
theorem Dp {T:TypeId} {v:V} {bx:Nat→List V} (h:ib P T ⟨fun _=>.un,s.bx,s.nb⟩ x y v (fun s'=>bx=s'.bx)):ib P T s x y v (fun s'=>{ s with bx:=bx }=s'):=by
 unfold ib at h
 obtain⟨i,bs,cl,r,res,z,h1,h2⟩:=iQ h
 cases res with
 |none=>simp only at h2;subst h2;exact fJ (lY rfl rfl h1) rfl
 |some j=>simp only at h2;subst h2;exact fJ (lY rfl rfl h1) rfl
theorem zq {T:TypeId} {K:S→V→Prop} (h:fA P T s x y K):∃ bx v,fA P T ⟨fun _=>.un,s.bx,s.nb⟩ x y (fun s' u=>bx=s'.bx∧v=u)∧K { s with bx:=bx } v:=by
 unfold fA at h
 obtain⟨i,bs,cl,r,res,z,h1,h2⟩:=iQ h
 cases res with
 |none=>exact⟨_,_,fJ (lY rfl rfl h1) ⟨rfl,rfl⟩,h2⟩
 |some j=>exact⟨s.bx,_,fJ (lY rfl rfl h1) ⟨rfl,rfl⟩,h2⟩
theorem oN {T:TypeId} {v:V} {bx:Nat→List V} (h:fA P T ⟨fun _=>.un,s.bx,s.nb⟩ x y (fun s' u=>bx=s'.bx∧v=u)):fA P T s x y (fun s' u=>{ s with bx:=bx }=s'∧v=u):=by
 unfold fA at h
 obtain⟨i,bs,cl,r,res,z,h1,h2⟩:=iQ h
 cases res with
 |none=>obtain⟨rfl,rfl⟩:=h2;exact fJ (lY rfl rfl h1) ⟨rfl,rfl⟩
 |some j=>obtain⟨rfl,rfl⟩:=h2;exact fJ (lY rfl rfl h1) ⟨rfl,rfl⟩
theorem zr {v:V} {K:S→Prop} (h:fN s x y v K):∃ bx,fN ⟨fun _=>.un,s.bx,s.nb⟩ x y v (fun s'=>bx=s'.bx)∧K { s with bx:=bx }:=by
 unfold fN at h
 split at h
 ·split at h
  ·rename_i e2
   split at h
   ·rename_i e3;exact⟨_,by unfold fN;simp only[e2,e3];exact⟨h.1,trivial⟩,h.2⟩
   ·exact h.elim
  ·exact h.elim
 ·exact h.elim
theorem zt {v:V} {bx:Nat→List V} (h:fN ⟨fun _=>.un,s.bx,s.nb⟩ x y v (fun s'=>bx=s'.bx)):fN s x y v (fun s'=>{ s with bx:=bx }=s'):=by
 unfold fN at h
 split at h
 ·split at h
  ·rename_i e2
   split at h
   ·rename_i e3;obtain⟨h1,rfl⟩:=h;unfold fN;simp only[show s.bx _=_ from e2,e3];exact⟨h1,trivial⟩
   ·exact h.elim
  ·exact h.elim
 ·exact h.elim
theorem II {ts:List TypeId} {xs:List V} {K:S→V→Prop} (h:ni P s K ts xs):∃ bx v,ni P ⟨fun _=>.un,s.bx,s.nb⟩ (fun s' u=>bx=s'.bx∧v=u) ts xs∧K { s with bx:=bx } v:=by
 unfold ni at h
 split at h
 ·split at h
  ·rename_i e1
   split at h
   ·rename_i e2;exact⟨_,_,by unfold ni;simp only[e1,e2];exact⟨h.1,by simp⟩,h.2⟩
   ·exact h.elim
  ·exact h.elim
 ·exact h.elim
theorem IJ {ts:List TypeId} {xs:List V} {bx:Nat→List V} {v:V} (h:ni P ⟨fun _=>.un,s.bx,s.nb⟩ (fun s' u=>bx=s'.bx∧v=u) ts xs):ni P s (fun s' u=>{ s with bx:=bx }=s'∧v=u) ts xs:=by
 unfold ni at h
 split at h
 ·split at h
  ·rename_i e1
   split at h
   ·rename_i e2;obtain⟨h0,rfl,rfl⟩:=h;unfold ni;simp only[e1,e2];exact⟨h0,by simp⟩
   ·exact h.elim
  ·exact h.elim
 ·exact h.elim
theorem UW {ts:List TypeId} {xs:List V} {K K':S→V→Prop} (h:ni P s K ts xs) (hk:∀ s v,K s v→K' s v):ni P s K' ts xs:=by
 unfold ni at h
 split at h
 ·split at h
  ·rename_i e1
   split at h
   ·rename_i e2;unfold ni;simp only[e1,e2];exact⟨h.1,hk _ _ h.2⟩
   ·exact h.elim
  ·exact h.elim
 ·exact h.elim
theorem A6 {ts:List TypeId} {xs:List V} {K:S→V→Prop} (h:eI P s K ts xs):∃ bx v,eI P ⟨fun _=>.un,s.bx,s.nb⟩ (fun s' u=>bx=s'.bx∧v=u) ts xs∧K { s with bx:=bx } v:=by
 unfold eI at h
 split at h
 ·rename_i b off len cap sz y
  have hi:uq s y=uq ⟨fun _=>.un,s.bx,s.nb⟩ y:=by cases y<;>rfl
  split at h
  ·rename_i e1 e2
   split at h
   ·rename_i e3;exact⟨_,_,by unfold eI;rw[hi] at e2;simp only[e1,e2,e3];exact⟨h.1,by simp⟩,h.2⟩
   ·exact h.elim
  ·exact h.elim
 ·split at h
  ·rename_i e1
   split at h
   ·rename_i e2
    obtain⟨b,k,j,E,es,h1,h2⟩:=h
    exact⟨_,_,by unfold eI;simp only[e1,e2];exact⟨b,k,j,E,es,h1,by simp⟩,h2⟩
   ·exact h.elim
  ·exact h.elim
 ·exact h.elim
theorem A7 {ts:List TypeId} {xs:List V} {bx:Nat→List V} {v:V} (h:eI P ⟨fun _=>.un,s.bx,s.nb⟩ (fun s' u=>bx=s'.bx∧v=u) ts xs):eI P s (fun s' u=>{ s with bx:=bx }=s'∧v=u) ts xs:=by
 unfold eI at h
 split at h
 ·rename_i b off len cap sz y
  have hi:uq s y=uq ⟨fun _=>.un,s.bx,s.nb⟩ y:=by cases y<;>rfl
  split at h
  ·rename_i e1 e2
   split at h
   ·rename_i e3;obtain⟨h0,rfl,rfl⟩:=h;unfold eI;rw[← hi] at e2;simp only[e1,e2,e3];exact⟨h0,by simp⟩
   ·exact h.elim
  ·exact h.elim
 ·split at h
  ·rename_i e1
   split at h
   ·rename_i e2
    obtain⟨b,k,j,E,es,h1,rfl,rfl⟩:=h
    unfold eI;simp only[e1,e2];exact⟨b,k,j,E,es,h1,by simp⟩
   ·exact h.elim
  ·exact h.elim
 ·exact h.elim
theorem IK {ts:List TypeId} {xs:List V} {K K':S→V→Prop} (h:eI P s K ts xs) (hk:∀ s v,K s v→K' s v):eI P s K' ts xs:=by
 unfold eI at h
 split at h
 ·split at h
  ·rename_i e1 e2
   split at h
   ·rename_i e3;unfold eI;simp only[e1,e2,e3];exact⟨h.1,hk _ _ h.2⟩
   ·exact h.elim
  ·exact h.elim
 ·split at h
  ·rename_i e1
   split at h
   ·rename_i e2
    obtain⟨b,k,j,E,es,h1,h2⟩:=h
    unfold eI;simp only[e1,e2];exact⟨b,k,j,E,es,h1,hk _ _ h2⟩
   ·exact h.elim
  ·exact h.elim
 ·exact h.elim
theorem vq {tr:List Nat} {o:Oper} {args:Array Operand} {ts:Array TypeId} {K:S→V→Prop} {s':S} (bZ:o.op=.call { callee:=.builtin .append,args:=args,argTypes:=ts }) (h:eI P s' K ts.toList (args.toList.map (ev G s))) :
 s.use (bR tr o)=s:=by
 have e:bR tr o=match args.toList with | .tmp t::_=>some t | _=>none:=by
  unfold bR;rw[bZ];rfl
 rw[e]
 split
 ·rename_i t r ha
  rw[ha,aL] at h
  unfold eI at h
  split at h
  ·rename_i b off len cap sz y rk pu
   simp only[bO] at pu
   have:s.fr t=.ms b off len cap sz:=pu.1
   simp[S.use,this,V.isOw]
  ·rename_i rk pu
   simp only[bO] at pu
   have:=pu.1
   simp only[ev] at this
   simp[S.use,this,V.isOw]
  ·exact h.elim
 ·rfl
theorem FM {ts:List TypeId} {xs:List V} {K:S→Prop} (h:iy P s K ts xs):∃ bx,iy P ⟨fun _=>.un,s.bx,s.nb⟩ (fun s'=>bx=s'.bx) ts xs∧K { s with bx:=bx }:=by
 unfold iy at h
 split at h
 ·split at h
  ·rename_i e1
   split at h
   ·rename_i e2;exact⟨_,by unfold iy;simp only[e1,e2];exact⟨h.1,trivial⟩,h.2⟩
   ·exact h.elim
  ·exact h.elim
 ·split at h
  ·rename_i e1
   split at h
   ·rename_i e2
    obtain⟨b,k,j,cap,E,es,h1,h2⟩:=h
    exact⟨_,by unfold iy;simp only[e1,e2];exact⟨b,k,j,cap,E,es,h1,rfl⟩,h2⟩
   ·exact h.elim
  ·exact h.elim
 ·exact h.elim
theorem FN {ts:List TypeId} {xs:List V} {bx:Nat→List V} (h:iy P ⟨fun _=>.un,s.bx,s.nb⟩ (fun s'=>bx=s'.bx) ts xs):iy P s (fun s'=>{ s with bx:=bx }=s') ts xs:=by
 unfold iy at h
 split at h
 ·split at h
  ·rename_i e1
   split at h
   ·rename_i e2;obtain⟨h0,rfl⟩:=h;unfold iy;simp only[e1,e2];exact⟨h0,trivial⟩
   ·exact h.elim
  ·exact h.elim
 ·split at h
  ·rename_i e1
   split at h
   ·rename_i e2
    obtain⟨b,k,j,cap,E,es,h1,rfl⟩:=h
    unfold iy;simp only[e1,e2];exact⟨b,k,j,cap,E,es,h1,rfl⟩
   ·exact h.elim
  ·exact h.elim
 ·exact h.elim
theorem PP {ts:List TypeId} {xs:List V} {K K':S→Prop} (h:iy P s K ts xs) (hk:∀ s,K s→K' s):iy P s K' ts xs:=by
 unfold iy at h
 split at h
 ·split at h
  ·rename_i e1
   split at h
   ·rename_i e2;unfold iy;simp only[e1,e2];exact⟨h.1,hk _ h.2⟩
   ·exact h.elim
  ·exact h.elim
 ·split at h
  ·rename_i e1
   split at h
   ·rename_i e2
    obtain⟨b,k,j,cap,E,es,h1,h2⟩:=h
    unfold iy;simp only[e1,e2];exact⟨b,k,j,cap,E,es,h1,hk _ h2⟩
   ·exact h.elim
  ·exact h.elim
 ·exact h.elim
theorem MP {T:TypeId} {v:V} {K K':S→Prop} (h:ib P T s x y v K) (hk:∀ s,K s→K' s):ib P T s x y v K':=by
 unfold ib at h
 obtain⟨i,bs,cl,r,res,z,h1,h2⟩:=iQ h
 refine fJ h1 ?_
 cases res<;>exact hk _ h2
theorem rV {T:TypeId} {K K':S→V→Prop} (h:fA P T s x y K) (hk:∀ s v,K s v→K' s v):fA P T s x y K':=by
 unfold fA at h
 obtain⟨i,bs,cl,r,res,z,h1,h2⟩:=iQ h
 refine fJ h1 ?_
 cases res<;>exact hk _ _ h2
theorem FO {v:V} {K K':S→Prop} (h:fN s x y v K) (hk:∀ s,K s→K' s):fN s x y v K':=by
 unfold fN at h
 split at h
 ·split at h
  ·rename_i e2
   split at h
   ·rename_i e3;unfold fN;simp only[e2,e3];exact⟨h.1,hk _ h.2⟩
   ·exact h.elim
  ·exact h.elim
 ·exact h.elim
theorem Dq {T:TypeId} {ok:Bool} (h:ft P T s x y ok K):∃ v,ft P T s x y ok (fun u=>v=u)∧K v:=by
 unfold ft at h
 obtain⟨i,bs,cl,r,res,z,h1,h2⟩:=iQ h
 cases res with
 |none=>cases ok<;>exact⟨_,fJ h1 rfl,h2⟩
 |some j=>cases ok<;>exact⟨_,fJ h1 rfl,h2⟩
theorem xK {T:TypeId} {ok:Bool} {v u:V} (h:ft P T s x y ok (fun w=>v=w)) (h':ft P T s x y ok (fun w=>u=w)):v=u:=by
 unfold ft at h h'
 obtain⟨i,bs,cl,r,res,z,h1,h2⟩:=iQ h
 obtain⟨i',bs',cl',r',res',z',jw,nQ⟩:=iQ h'
 have e:i'=i∧bs'=bs∧cl'=cl∧r'=r∧res'=res∧z'=z:=by
  have:=FK h1 jw
  obtain⟨_,_,_,_,_,_,⟨rfl,rfl,rfl,rfl,rfl,rfl⟩,rfl,rfl,rfl,rfl,rfl,rfl⟩:=this
  exact⟨rfl,rfl,rfl,rfl,rfl,rfl⟩
 obtain⟨rfl,rfl,rfl,rfl,rfl,rfl⟩:=e
 cases res'<;>cases ok<;>simp only at h2 nQ<;>(rw[show v=_ from h2,show u=_ from nQ])
theorem FP {T:TypeId} (h:nK P T s x K):∃ v,nK P T s x (fun u=>v=u)∧K v:=by
 unfold nK at h
 split at h
 ·rename_i e1
  split at h
  ·rename_i e2;exact⟨_,by unfold nK;simp only[e1,e2];exact⟨h.1,trivial⟩,h.2⟩
  ·exact h.elim
 ·exact h.elim
theorem FQ (h:mT s x K):∃ v,mT s x (fun u=>v=u)∧K v:=by
 unfold mT at h
 split at h
 ·split at h
  ·rename_i e2 e3
   split at h
   ·rename_i e4;exact⟨_,by unfold mT;simp only[e2,e3,e4];exact⟨h.1,trivial⟩,h.2⟩
   ·exact h.elim
  ·exact h.elim
 ·exact h.elim
theorem zu {ts:List TypeId} {E:Option (TypeId×Nat)} {es:List (List C)} (h:mN P ts E es y K):∃ v,mN P ts E es y (fun u=>v=u)∧K v:=by
 unfold mN at h
 split at h
 ·obtain⟨h1,h⟩:=h
  split at h
  ·rename_i e3
   split at h
   ·rename_i e4
    obtain⟨h2,h⟩:=h
    split at h
    ·exact⟨_,by unfold mN;simp only[e3,e4];exact⟨h1,h2,h.1,trivial⟩,h.2⟩
    ·exact h.elim
   ·exact h.elim
  ·exact h.elim
 ·exact h.elim
theorem FR {d:Option Tmp} {args:List Operand} {ts:List TypeId} (h:jC P G s d ts args K):∃ v,jC P G s d ts args (fun u=>v=u)∧K v:=by
 unfold jC at h
 split at h
 ·split at h
  ·rename_i e1 e2
   obtain⟨h0,h⟩:=h
   obtain⟨v,h1,h2⟩:=pW h
   exact⟨v,by unfold jC;simp only[e1,e2];exact⟨h0,h1⟩,h2⟩
  ·rename_i e1 e2
   obtain⟨h0,h⟩:=h
   obtain⟨v,h1,h2⟩:=zu h
   exact⟨v,by unfold jC;simp only[e1,e2];exact⟨h0,h1⟩,h2⟩
  ·rename_i e1
   obtain⟨h0,h⟩:=h
   obtain⟨v,h1,h2⟩:=zu h
   exact⟨v,by unfold jC;simp only[e1];exact⟨h0,h1⟩,h2⟩
  ·exact h.elim
 ·exact h.elim
theorem MQ {d:Option Tmp} {args:List Operand} {ts:List TypeId} (h:u5 P G s d ts args K):∃ v,u5 P G s d ts args (fun u=>v=u)∧K v:=by
 unfold u5 at h
 split at h
 ·split at h
  ·rename_i e1 e2
   obtain⟨h0,h⟩:=h
   unfold t6 at h
   split at h
   ·obtain⟨h1,h⟩:=h
    split at h
    ·rename_i e3
     split at h
     ·rename_i e4
      obtain⟨h2,h⟩:=h
      split at h
      ·rename_i e5
       exact⟨_,by unfold u5;simp only[e1,e2];refine⟨h0,?_⟩;unfold t6;simp only[e3,e4,e5];exact⟨h1,h2,h.1,trivial⟩,h.2⟩
      ·exact h.elim
     ·exact h.elim
    ·exact h.elim
   ·exact h.elim
  ·exact h.elim
 ·exact h.elim
theorem FS (h:VYK P G tr o s K):∃ v,VYK P G tr o s (fun u=>v=u)∧K v:=by
 obtain⟨dst,op,type,pos,after,guard⟩:=o
 cases op<;>simp only[VYK] at h ⊢<;>try exact h.elim
 case move x=>
  split at h
  ·rename_i e;simp only[if_pos e];exact⟨_,rfl,h⟩
  ·rename_i e;simp only[if_neg e];exact⟨_,rfl,h⟩
 case assign x=>exact⟨_,rfl,h⟩
 case pick c a b=>
  split at h
  ·exact⟨_,rfl,h⟩
  ·exact h.elim
 case build T parts=>exact FH h
 case buildSlice T len parts=>exact mW h
 case load T x=>exact IE h
 case binOp op T x y yT=>exact MM h
 case unOp op T x=>exact PO h
 case convert src dst x=>exact IF h
 case lookup T x k ok=>exact Dq h
 case range T x=>exact FP h
 case entry x=>exact FQ h
 case makeFunc f a b=>exact⟨_,⟨h.1,rfl⟩,h.2⟩
 case sliceToArrayPointer T x=>exact MN h
 case nilCheck x=>
  split at h
  ·exact⟨_,rfl,h⟩
  ·exact⟨_,rfl,h⟩
  ·exact h.elim
 case slice T x lo hi mx=>exact FG h
 case fieldAddr T x f=>exact yw h
 case field T x f=>exact FC h
 case indexAddr T x i=>exact yy h
 case index T x i=>exact FD h
 case extract x i=>
  split at h
  ·split at h
   ·exact⟨_,rfl,h⟩
   ·exact h.elim
  ·exact h.elim
 case call c=>
  obtain⟨callee,args,ts⟩:=c
  cases callee with
  |value f=>exact IG h
  |invoke r m=>exact h.elim
  |builtin b=>
   cases b
   case append=>
    have h':(if y4 tr dst then(if wJ tr dst then u5 P G s dst ts.toList args.toList K else jC P G s dst ts.toList args.toList K) else eE P .append ts.toList (args.toList.map fun x=>vw s (ev G s x)) K):=h
    show ∃ v,(if y4 tr dst then(if wJ tr dst then u5 P G s dst ts.toList args.toList (fun u=>v=u) else jC P G s dst ts.toList args.toList (fun u=>v=u)) else eE P .append ts.toList (args.toList.map fun x=>vw s (ev G s x)) (fun u=>v=u))∧K v
    by_cases hg:y4 tr dst=true
    ·rw[if_pos hg] at h';simp only[if_pos hg]
     by_cases E8:wJ tr dst=true
     ·rw[if_pos E8] at h';simp only[if_pos E8];exact MQ h'
     ·rw[if_neg E8] at h';simp only[if_neg E8];exact FR h'
    ·rw[if_neg hg] at h';simp only[if_neg hg];exact pW h'
   all_goals exact pW h
end
section
variable {P:Program} {G:Gl} {tr:List Nat} {s:S} {o:Oper} {x y:V} {ops:Array Oper} {md:Region.Mode}
inductive Ef where
 |v (x:V)
 |al (cs:List V)
 |st (b k:Nat) (ds:List V)
 |gn (bx:Nat→List V) (nb:Nat) (x:V)
 |skip
def Ef.val (nb:Nat):Ef→V
 | .v x=>x
 | .al _=>.bp nb 0
 | .st _ _ _=>.sk
 | .gn _ _ x=>x
 | .skip=>.sk
def Ef.bx (nb:Nat) (bx:Nat→List V):Ef→Nat→List V
 | .al cs=>up bx nb cs
 | .st b k ds=>up bx b (eU (bx b) k ds)
 | .gn bx' _ _=>bx'
 |_=>bx
def Ef.nb (nb:Nat):Ef→Nat
 | .al _=>nb+1
 | .gn _ nb' _=>nb'
 |_=>nb
def Ef.uses:Ef→Bool
 | .skip=>false
 |_=>true
def Ds (u:Bool) (t:Option Tmp) (fr:Nat→V):Nat→V:=match t with
 |some t=>if u&&(fr t).isOw then up fr t .un else fr
 |none=>fr
def FT (d:Option Tmp) (x:V) (fr:Nat→V):Nat→V:=match d with
 |some d=>up fr d x
 |none=>fr
def Ef.run (tr:List Nat) (o:Oper) (s:S) (e:Ef):S:=⟨FT o.dst (e.val s.nb) (Ds e.uses (bR tr o) s.fr),e.bx s.nb s.bx,e.nb s.nb⟩
def VEf (P:Program) (G:Gl) (tr:List Nat) (o:Oper) (s:S) (e:Ef):Prop:=
 match o.op with
 | .alloc T=>match ti P T with
  |some { zero:=some z,.. }=>e=.al (z.map ng)
  |_=>False
 | .box _ x=>match(ev G s x).bcells with
  |some cs=>e=.al cs
  |none=>False
 | .store T p x=>pH tr (Iq p) (ev G s p)=true∧match ti P T,ev G s p,(ev G s x).bcells with
  |some i,.bp b k,some cs=>(b<s.nb∧cs.length=i.size∧k+i.size≤(s.bx b).length∧cX (s.bx b)=false)∧e=.st b k cs
  |some i,.c (.ex (.pointer (some ⟨blk,j,none⟩))),_=>(∃ (b k len cap:Nat) (E:Option (TypeId×Nat)) (es:List (List C)) (r:Nat) (e':List C) (c:C),(i.size=1∧b<s.nb∧cX (s.bx b)=false∧(s.bx b)[k]?=some (V.hh (some (.slice (some ⟨blk,0,none⟩) len cap)) E (es++[e']))∧
    (es.flatten.length+r=j∧r<e'.length)∧(ev G s x).asC=some c)∧
   e=.gn (up s.bx b ((s.bx b).set k (.hh (some (.slice (some ⟨blk,0,none⟩) len cap)) E (es++[e'.set r c])))) s.nb .sk)∨Zb s.bx s.nb i blk j (ev G s x) (fun bx=>e=.gn bx s.nb .sk)
  |_,_,_=>False
 | .buildSlice T len parts=>if nh tr o.dst then ∃ bx nb x,e=.gn bx nb x∧cy P T len (parts.toList.map fun(i,x)=>(i,ev G s x)) (y5 s.bx s.nb len len fun b n u=>(bx=b∧nb=n)∧x=u)
  else ∃ v,e=.v v∧VYK P G tr o s fun u=>v=u
 | .makeSlice T l c=>∃ bx nb x,e=.gn bx nb x∧qi P T (ev G s l) (ev G s c) fun n m sz z=>(up s.bx s.nb ((List.replicate m z).flatten.map .c)=bx∧s.nb+1=nb)∧V.ms s.nb 0 n m sz=x
 | .call { callee:=.value f,args:=args,.. }=>if u6 tr o.dst then ∃ bx nb x,e=.gn bx nb x∧jR P G s.bx s.nb (ev G s f) (args.toList.map (ev G s)) (fun b n u=>(bx=b∧nb=n)∧x=u)∧(AX tr o.dst=true→nb=s.nb∧∀ b,bx b=s.bx b∨(b<100∧tr.contains (500000+o.dst.getD 0*100+b)=true))
  else ∃ v,e=.v v∧VYQ P G tr o s f args fun u=>v=u
 | .load _ x=>∃ v,e=.v v∧pH tr o.dst (ev G s x)=true∧VYK P G tr o s fun u=>v=u
 | .mapUpdate T m k x=>∃ bx,e=.gn bx s.nb .sk∧ib P T ⟨fun _=>.un,s.bx,s.nb⟩ (ev G s m) (ev G s k) (ev G s x) fun s'=>bx=s'.bx
 | .mapEntry T m k=>∃ bx v,e=.gn bx s.nb v∧fA P T ⟨fun _=>.un,s.bx,s.nb⟩ (ev G s m) (ev G s k) fun s' u=>bx=s'.bx∧v=u
 | .entryStore _ m n x=>∃ bx,e=.gn bx s.nb .sk∧fN ⟨fun _=>.un,s.bx,s.nb⟩ (ev G s m) (ev G s n) (ev G s x) fun s'=>bx=s'.bx
 | .call { callee:=.builtin .copy,args:=args,argTypes:=ts }=>∃ bx v,e=.gn bx s.nb v∧ni P ⟨fun _=>.un,s.bx,s.nb⟩ (fun s' u=>bx=s'.bx∧v=u) ts.toList (args.toList.map (ev G s))
 | .call { callee:=.builtin .append,args:=args,argTypes:=ts }=>if nh tr o.dst then False else if y6 tr o.dst then ∃ bx v,e=.gn bx s.nb v∧eI P ⟨fun _=>.un,s.bx,s.nb⟩ (fun s' u=>bx=s'.bx∧v=u) ts.toList (args.toList.map (ev G s))
  else ∃ v,e=.v v∧VYK P G tr o s fun u=>v=u
 | .call { callee:=.builtin .clear,args:=args,argTypes:=ts }=>∃ bx,e=.gn bx s.nb .un∧iy P ⟨fun _=>.un,s.bx,s.nb⟩ (fun s'=>bx=s'.bx) ts.toList (args.toList.map (ev G s))
 |_=>∃ v,e=.v v∧VYK P G tr o s fun u=>v=u
theorem PQ {t:Option Tmp}:(s.use t).bx=s.bx:=by
 cases t with
 |none=>rfl
 |some t=>simp only[S.use];split<;>rfl
theorem Dt {t:Option Tmp}:(s.use t).nb=s.nb:=by
 cases t with
 |none=>rfl
 |some t=>simp only[S.use];split<;>rfl
theorem vr (v:V):(Ef.v v).run tr o s=s.after tr o v:=by
 unfold Ef.run S.after S.use S.put Ds FT
 cases bR tr o with
 |none=>cases o.dst<;>rfl
 |some t=>by_cases h:(s.fr t).isOw=true<;>cases o.dst<;>simp[h,Ef.uses,S.clr,Ef.val,Ef.bx,Ef.nb]
theorem Du (cs:List V):(Ef.al cs).run tr o s=(let s':=s.use (bR tr o);{ s' with bx:=up s'.bx s'.nb cs,nb:=s'.nb+1 }:S).put o.dst (.bp s.nb 0):=by
 unfold Ef.run S.use S.put Ds FT
 cases bR tr o with
 |none=>cases o.dst<;>rfl
 |some t=>by_cases h:(s.fr t).isOw=true<;>cases o.dst<;>simp[h,Ef.uses,S.clr,Ef.val,Ef.bx,Ef.nb]
theorem PS (b k:Nat) (ds:List V):(Ef.st b k ds).run tr o s=(let s':=s.use (bR tr o);{ s' with bx:=up s'.bx b (eU (s'.bx b) k ds) }:S).put o.dst .sk:=by
 unfold Ef.run S.use S.put Ds FT
 cases bR tr o with
 |none=>cases o.dst<;>rfl
 |some t=>by_cases h:(s.fr t).isOw=true<;>cases o.dst<;>simp[h,Ef.uses,S.clr,Ef.val,Ef.bx,Ef.nb]
theorem ji (bx:Nat→List V) (nb:Nat) (x:V):(Ef.gn bx nb x).run tr o s=(let s':=s.use (bR tr o);{ s' with bx:=bx,nb:=nb }:S).put o.dst x:=by
 unfold Ef.run S.use S.put Ds FT
 cases bR tr o with
 |none=>cases o.dst<;>rfl
 |some t=>by_cases h:(s.fr t).isOw=true<;>cases o.dst<;>simp[h,Ef.uses,S.clr,Ef.val,Ef.bx,Ef.nb]
theorem rW {T:TypeId} {len:Nat} {parts:List (Nat×V)} {v:V} {K:V→Prop} (h:cy P T len parts (fun u=>v=u)) (hk:∀ u,v=u→K u):cy P T len parts K:=by
 unfold cy at h
 split at h
 ·rename_i e1
  split at h
  ·rename_i e2
   obtain⟨h0,h⟩:=h
   split at h
   ·rename_i e3
    unfold cy
    simp only[e1,e2,e3]
    exact⟨h0,hk _ h⟩
   ·exact h.elim
  ·exact h.elim
 ·exact h.elim
theorem FU {f:V} {args:List V} {K:V→Prop} (h:lK P G s f args K):∃ v,lK P G s f args (fun u=>v=u)∧K v:=by
 unfold lK at h
 split at h
 ·rename_i g all hc
  obtain⟨ρ,cargs,b0,r,h1,h2,h3,h4,h5,h6⟩:=h
  exact⟨r,by unfold lK;simp only[hc];exact⟨ρ,cargs,b0,r,h1,h2,h3,h4,h5,rfl⟩,h6⟩
 ·exact h.elim
theorem BF {s s':S} {ρ:Nat→Nat} (hn:s.nb≤s'.nb) (hb:∀ i,i<s.nb→s'.bx i=s.bx i):∀ (b:List (List V)) (i:Nat),pB s.bx s.nb ρ i b→pB s'.bx s'.nb ρ i b
 |[],_,_=>trivial
 |x::r,i,h=>⟨⟨bW h.1.1 hn,by rw[hb _ h.1.1];exact h.1.2⟩,BF hn hb r (i+1) h.2⟩
theorem xM {s s':S} {f:V} {args:List V} {K:V→Prop} (hn:s.nb≤s'.nb) (hb:∀ i,i<s.nb→s'.bx i=s.bx i) (h:lK P G s f args K):lK P G s' f args K:=by
 unfold lK at h ⊢
 split at h
 ·rename_i g all hc
  obtain⟨ρ,cargs,b0,r,h1,h2,h3,h4,h5,h6⟩:=h
  exact⟨ρ,cargs,b0,r,h1,h2,h3,fun N=>BF hn hb _ _ (h4 N),h5,h6⟩
 ·exact h.elim
theorem MR {bx:Nat→List V} {nb:Nat} {f:V} {l:List V} {K K':(Nat→List V)→Nat→V→Prop} (h:jR P G bx nb f l K) (hk:∀ b n u,K b n u→K' b n u):jR P G bx nb f l K':=by
 unfold jR at h
 split at h
 ·rename_i e1
  unfold jR
  simp only[e1]
  obtain⟨ρ,cargs,b0,r,b1,h1,h2,h3,h4,h5⟩:=h
  exact⟨ρ,cargs,b0,r,b1,h1,h2,h3,h4,hk _ _ _ h5⟩
 ·exact h.elim
theorem FV {T:TypeId} {l c:V} {K K':Nat→Nat→Nat→List C→Prop} (h:qi P T l c K) (hk:∀ n m sz z,K n m sz z→K' n m sz z):qi P T l c K':=by
 unfold qi at h
 split at h
 ·rename_i e1
  split at h
  ·rename_i e2
   unfold qi
   simp only[e1,e2]
   exact⟨h.1,hk _ _ _ _ h.2⟩
  ·exact h.elim
 ·exact h.elim
theorem rX:Ef.skip.run tr o s=s.put o.dst .sk:=by
 unfold Ef.run S.put Ds FT
 cases bR tr o<;>cases o.dst<;>simp[Ef.uses,Ef.val,Ef.bx,Ef.nb]
theorem VStep.ef {K:S→Prop} (wB:li tr o=false) (h:VStep P G tr o s K):∃ e,e≠.skip∧VEf P G tr o s e∧K (e.run tr o s):=by
 have gen:VYK P G tr o s (fun v=>K (s.after tr o v))→(∀ e,VEf P G tr o s e↔∃ v,e=.v v∧VYK P G tr o s fun u=>v=u)→∃ e,e≠.skip∧VEf P G tr o s e∧K (e.run tr o s):=fun h hV=>by
  obtain⟨v,h1,h2⟩:=FS h
  exact⟨.v v,by simp,(hV _).2 ⟨v,rfl,h1⟩,by rw[vr];exact h2⟩
 unfold VStep at h
 split at h
 ·rename_i T bZ
  split at h
  ·rename_i z _ _ hi
   refine⟨.al (z.map ng),by simp,by unfold VEf;rw[bZ];simp only[hi],?_⟩
   rw[Du]
   have:bR tr o=none:=by simp[bR,bZ]
   rw[this];exact h
  ·exact h.elim
 ·rename_i T X bZ
  split at h
  ·rename_i cs hi
   refine⟨.al cs,by simp,by unfold VEf;rw[bZ];simp only[hi],?_⟩
   rw[Du];exact h
  ·exact h.elim
 ·rename_i T p X bZ
  obtain⟨k9,h⟩:=h
  split at h
  ·rename_i i b k cs h1 h2 h3
   obtain⟨h4,h⟩:=h
   refine⟨.st b k cs,by simp,by unfold VEf;rw[bZ];simp only[h1,h2,h3];rw[h2] at k9;exact⟨k9,h4,trivial⟩,?_⟩
   rw[PS];exact h
  ·rename_i i blk j h1 h2
   rcases h with h | ⟨b,k,len,cap,q,E,es,cs,h4,h⟩
   rotate_left
   ·refine⟨.gn (up s.bx b ((s.bx b).set k (.gg (.slice (some ⟨blk,0,none⟩) len cap) (some (E,i.size)) (es.set q cs)))) s.nb .sk,by simp,by unfold VEf;rw[bZ];simp only[h1,h2];rw[h2] at k9;exact⟨k9,.inr ⟨b,k,len,cap,q,E,es,cs,h4,rfl⟩⟩,?_⟩
    rw[ji]
    have e:∀ bx,({ s.use (bR tr o) with bx:=bx,nb:=s.nb }:S)={ s.use (bR tr o) with bx:=bx }:=fun bx=>by rw[← Dt (s:=s) (t:=bR tr o)]
    show K (({ s.use (bR tr o) with bx:=_,nb:=s.nb }:S).put o.dst .sk)
    rw[e]
    exact h
   obtain⟨b,k,len,cap,E,es,r,e',c,h4,h⟩:=h
   refine⟨.gn (up s.bx b ((s.bx b).set k (.hh (some (.slice (some ⟨blk,0,none⟩) len cap)) E (es++[e'.set r c])))) s.nb .sk,by simp,by unfold VEf;rw[bZ];simp only[h1,h2];rw[h2] at k9;exact⟨k9,.inl ⟨b,k,len,cap,E,es,r,e',c,h4,rfl⟩⟩,?_⟩
   rw[ji]
   have h':K (({ s.use (bR tr o) with bx:=up (s.use (bR tr o)).bx b (((s.use (bR tr o)).bx b).set k (.hh (some (.slice (some ⟨blk,0,none⟩) len cap)) E (es++[e'.set r c]))) }:S).put o.dst .sk):=h
   rw[PQ] at h'
   have e:({ s.use (bR tr o) with bx:=up s.bx b ((s.bx b).set k (.hh (some (.slice (some ⟨blk,0,none⟩) len cap)) E (es++[e'.set r c]))),nb:=s.nb }:S)={ s.use (bR tr o) with bx:=up s.bx b ((s.bx b).set k (.hh (some (.slice (some ⟨blk,0,none⟩) len cap)) E (es++[e'.set r c]))) }:=by rw[← Dt (s:=s) (t:=bR tr o)]
   show K (({ s.use (bR tr o) with bx:=up s.bx b ((s.bx b).set k (.hh (some (.slice (some ⟨blk,0,none⟩) len cap)) E (es++[e'.set r c]))),nb:=s.nb }:S).put o.dst .sk)
   rw[e]
   exact h'
  ·exact h.elim
 ·rename_i T len parts bZ
  split at h
  ·rename_i hn
   obtain⟨v,h1,h2⟩:=mW h
   obtain⟨bx,nb,x,h3,h4⟩:=zp h2
   refine⟨.gn bx nb x,by simp,?_,?_⟩
   ·unfold VEf;rw[bZ];simp only[hn,cJ]
    refine⟨bx,nb,x,rfl,?_⟩
    refine rW h1 fun u hu=>?_
    subst hu;exact h3
   ·rw[ji]
    have:bR tr o=none:=by simp[bR,bZ]
    rw[this];exact h4
  ·rename_i hn
   have hb:Pn tr o.dst=false:=by simpa[li,bZ] using wB
   simp only[hb,aS,dm] at h
   refine gen h fun e=>?_
   unfold VEf;rw[bZ];simp only[if_neg hn]
 ·rename_i T l c bZ
  obtain⟨p,m,sz,z,h1,h2⟩:=IH h
  refine⟨.gn (up s.bx s.nb ((List.replicate m z).flatten.map .c)) (s.nb+1) (.ms s.nb 0 p m sz),by simp,?_,?_⟩
  ·unfold VEf;rw[bZ]
   refine⟨_,_,_,rfl,?_⟩
   refine FV h1 fun n' m' sz' z' hh=>?_
   obtain⟨rfl,rfl,rfl,rfl⟩:=hh
   exact⟨⟨rfl,rfl⟩,rfl⟩
  ·rw[ji]
   have:bR tr o=none:=by simp[bR,bZ]
   rw[this];exact h2
 ·rename_i f args ts bZ
  have hye:Im tr o.dst=false∧Pi tr o.dst=false:=by simpa[li,bZ] using wB
  have hy:=hye.1
  have hef:=hye.2
  simp only[hy,hef,aS,dm] at h
  split at h
  ·rename_i hn
   obtain⟨bx,nb,x,h3,h4⟩:=FI h
   have h5:(AX tr o.dst=true→Za tr o.dst s ⟨s.fr,bx,nb⟩)∧K ((⟨s.fr,bx,nb⟩:S).put o.dst x):=by
    by_cases hl:AX tr o.dst=true
    ·rw[if_pos hl] at h4;exact⟨fun _=>h4.1,h4.2⟩
    ·rw[if_neg hl] at h4;exact⟨fun h=>absurd h hl,h4⟩
   refine⟨.gn bx nb x,by simp,?_,?_⟩
   ·unfold VEf;rw[bZ];simp only[hn,cJ]
    exact⟨bx,nb,x,rfl,h3,h5.1⟩
   ·rw[ji]
    have:bR tr o=none:=by simp[bR,bZ]
    rw[this];exact h5.2
  ·rename_i hn
   by_cases Ml:Mp tr o.dst=true
   ·unfold VYQ at h;rw[if_pos Ml] at h
    obtain⟨v,h1,h2⟩:=FU h
    exact⟨.v v,by simp,by unfold VEf;rw[bZ];simp only[if_neg hn];exact⟨v,rfl,by unfold VYQ;rw[if_pos Ml];exact h1⟩,by rw[vr];exact h2⟩
   ·unfold VYQ at h;rw[if_neg Ml] at h
    refine gen h fun e=>?_
    unfold VEf;rw[bZ];simp only[if_neg hn,VYQ,if_neg Ml]
 ·rename_i args ts bZ
  have hn:nh tr o.dst=false:=by simpa[li,bZ] using wB
  simp only[hn,aS,dm] at h
  split at h
  ·rename_i hr
   have hu:=vq (tr:=tr) bZ h
   obtain⟨bx,v,h1,h2⟩:=A6 h
   refine⟨.gn bx s.nb v,by simp,by unfold VEf;rw[bZ];simp only[hn,hr,aS,dm,cJ];exact⟨bx,v,rfl,h1⟩,?_⟩
   rw[ji,hu];exact h2
  ·rename_i hr
   refine gen h fun e=>?_
   unfold VEf;rw[bZ];simp only[hn,aS,dm,if_neg hr]
 ·rename_i args ts bZ
  obtain⟨bx,v,h1,h2⟩:=II h
  refine⟨.gn bx s.nb v,by simp,by unfold VEf;rw[bZ];exact⟨bx,v,rfl,h1⟩,?_⟩
  have:bR tr o=none:=by simp[bR,bZ]
  rw[ji,this];exact h2
 ·rename_i args ts bZ
  obtain⟨bx,h1,h2⟩:=FM h
  refine⟨.gn bx s.nb .un,by simp,by unfold VEf;rw[bZ];exact⟨bx,rfl,h1⟩,?_⟩
  have:bR tr o=none:=by simp[bR,bZ]
  rw[ji,this];exact h2
 ·rename_i args ts bZ
  have hn:Po tr o.dst=false:=by simpa[li,bZ] using wB
  simp only[hn,aS,dm] at h
  refine gen h fun e=>?_
  unfold VEf;rw[bZ]
 ·rename_i src dst X bZ
  have hn:nh tr o.dst=false:=by simpa[li,bZ] using wB
  simp only[hn,aS,dm] at h
  refine gen h fun e=>?_
  unfold VEf;rw[bZ]
 ·rename_i op T X Y yT bZ
  have hn:yL Y=false:=by simpa[li,bZ] using wB
  simp only[hn,aS,dm] at h
  refine gen h fun e=>?_
  unfold VEf;rw[bZ]
 ·rename_i T X bZ
  have hn:isZ tr o.dst=false:=by simpa[li,bZ] using wB
  simp only[hn,aS,dm] at h
  obtain⟨k9,h⟩:=h
  obtain⟨v,h1,h2⟩:=FS h
  exact⟨.v v,by simp,by unfold VEf;rw[bZ];exact⟨v,rfl,k9,h1⟩,by rw[vr];exact h2⟩
 ·rename_i T parts bZ
  have hn:isZ tr o.dst=false:=by simpa[li,bZ] using wB
  simp only[hn,aS,dm] at h
  refine gen h fun e=>?_
  unfold VEf;rw[bZ]
 ·rename_i bZ;simp[li,bZ] at wB
 ·rename_i T m k X bZ
  obtain⟨bx,h1,h2⟩:=Do h
  refine⟨.gn bx s.nb .sk,by simp,by unfold VEf;rw[bZ];exact⟨bx,rfl,h1⟩,?_⟩
  have:bR tr o=none:=by simp[bR,bZ]
  rw[ji,this];exact h2
 ·rename_i T m k bZ
  obtain⟨bx,v,h1,h2⟩:=zq h
  refine⟨.gn bx s.nb v,by simp,by unfold VEf;rw[bZ];exact⟨bx,v,rfl,h1⟩,?_⟩
  have:bR tr o=none:=by simp[bR,bZ]
  rw[ji,this];exact h2
 ·rename_i T m k X bZ
  obtain⟨bx,h1,h2⟩:=zr h
  refine⟨.gn bx s.nb .sk,by simp,by unfold VEf;rw[bZ];exact⟨bx,rfl,h1⟩,?_⟩
  have:bR tr o=none:=by simp[bR,bZ]
  rw[ji,this];exact h2
 ·rename_i bZ;simp[li,bZ] at wB
 ·rename_i bZ;simp[li,bZ] at wB
 ·rename_i n1 n2 n3 n4 n5 n6 n7 n8 n9 n10 n11 n12 n13 n14 n15 n16 n17 n18 n19 n20
  refine gen h fun e=>?_
  unfold VEf
  split
  ·rename_i bZ;exact absurd bZ (n1 _)
  ·rename_i bZ;exact absurd bZ (n2 _ _)
  ·rename_i bZ;exact absurd bZ (n3 _ _ _)
  ·rename_i bZ;exact absurd bZ (n4 _ _ _)
  ·rename_i bZ;exact absurd bZ (n5 _ _ _)
  ·rename_i bZ;exact absurd bZ (n6 _ _ _)
  ·rename_i bZ;exact absurd bZ (n13 _ _)
  ·rename_i bZ;exact absurd bZ (n16 _ _ _ _)
  ·rename_i bZ;exact absurd bZ (n17 _ _ _)
  ·rename_i bZ;exact absurd bZ (n18 _ _ _ _)
  ·rename_i bZ;exact absurd bZ (n8 _ _)
  ·rename_i bZ;exact absurd bZ (n7 _ _)
  ·rename_i bZ;exact absurd bZ (n9 _ _)
  ·exact Iff.rfl
variable {n:Nat} {I0:Ft} {M:Mx} {w0:World} {I:Ft} {β:Nat→Option Nat} {ob:Loc→Option Nat} {a:Act} {w:World} {next:Act→World→Prop} {Q:Exit→Act→World→Prop}
theorem sZ {e:Ef} (hst:St G n I0 M w0 I β ob s a w) (hd:∀ d,o.dst=some d→d<n) (h:VEf P G tr o s e)
 (hk:∀ a' w',SE G n I0 M w0 (e.run tr o s) a' w'→next a' w'):o.wp P a w next Q:=by
 have viaStep:pC tr o=false→VStep P G tr o s (fun s'=>e.run tr o s=s')→o.wp P a w next Q:=fun hy h=>
  nr (tr:=tr) hst hd hy h (fun a' w' s' hs cw=>hk a' w' (by rw[hs];exact cw))
 unfold VEf at h
 split at h
 ·rename_i T bZ
  split at h
  ·rename_i z _ _ hi
   subst h
   refine viaStep (by simp[pC,bZ]) ?_
   unfold VStep
   rw[bZ]
   simp only[hi]
   rw[Du]
   have:bR tr o=none:=by simp[bR,bZ]
   rw[this];rfl
  ·exact h.elim
 ·rename_i T X bZ
  split at h
  ·rename_i cs hi
   subst h
   refine viaStep (by simp[pC,bZ]) ?_
   unfold VStep
   rw[bZ]
   simp only[hi]
   rw[Du]
  ·exact h.elim
 ·rename_i T p X bZ
  obtain⟨k9,h⟩:=h
  split at h
  ·rename_i i b k cs h1 h2 h3
   obtain⟨h4,rfl⟩:=h
   refine viaStep (by simp[pC,bZ]) ?_
   unfold VStep
   rw[bZ]
   simp only[h1,h2,h3]
   rw[PS]
   rw[h2] at k9
   exact⟨k9,h4,rfl⟩
  ·rename_i i blk j h1 h2
   rcases h with h | ⟨b,k,len,cap,q,E,es,cs,h4,rfl⟩
   rotate_left
   ·refine viaStep (by simp[pC,bZ]) ?_
    unfold VStep
    rw[bZ]
    simp only[h1,h2]
    rw[ji]
    rw[h2] at k9
    refine⟨k9,.inr ⟨b,k,len,cap,q,E,es,cs,h4,?_⟩⟩
    have e:∀ bx,({ s.use (bR tr o) with bx:=bx,nb:=s.nb }:S)={ s.use (bR tr o) with bx:=bx }:=fun bx=>by rw[← Dt (s:=s) (t:=bR tr o)]
    show({ s.use (bR tr o) with bx:=_,nb:=s.nb }:S).put o.dst .sk=_
    rw[e]
   obtain⟨b,k,len,cap,E,es,r,e',c,h4,rfl⟩:=h
   refine viaStep (by simp[pC,bZ]) ?_
   unfold VStep
   rw[bZ]
   simp only[h1,h2]
   rw[ji]
   rw[h2] at k9
   refine⟨k9,.inl ⟨b,k,len,cap,E,es,r,e',c,h4,?_⟩⟩
   have e:({ s.use (bR tr o) with bx:=up s.bx b ((s.bx b).set k (.hh (some (.slice (some ⟨blk,0,none⟩) len cap)) E (es++[e'.set r c]))),nb:=s.nb }:S)={ s.use (bR tr o) with bx:=up s.bx b ((s.bx b).set k (.hh (some (.slice (some ⟨blk,0,none⟩) len cap)) E (es++[e'.set r c]))) }:=by rw[← Dt (s:=s) (t:=bR tr o)]
   show({ s.use (bR tr o) with bx:=up s.bx b ((s.bx b).set k (.hh (some (.slice (some ⟨blk,0,none⟩) len cap)) E (es++[e'.set r c]))),nb:=s.nb }:S).put o.dst .sk=({ s.use (bR tr o) with bx:=up (s.use (bR tr o)).bx b (((s.use (bR tr o)).bx b).set k (.hh (some (.slice (some ⟨blk,0,none⟩) len cap)) E (es++[e'.set r c]))) }:S).put o.dst .sk
   rw[e,PQ]
  ·exact h.elim
 ·rename_i T len parts bZ
  split at h
  ·rename_i hn
   obtain⟨bx,nb,x,rfl,h⟩:=h
   refine viaStep (by simp[pC,bZ]) ?_
   unfold VStep
   rw[bZ]
   simp only[hn,cJ]
   have:bR tr o=none:=by simp[bR,bZ]
   rw[ji,this]
   obtain⟨v,h1,h2⟩:=mW h
   refine rW h1 fun u hu=>?_
   subst hu
   obtain⟨b,n,y,h3,⟨rfl,rfl⟩,rfl⟩:=zp h2
   unfold Pk
   unfold y5 at h3 ⊢
   split at h3
   ·obtain⟨⟨rfl,rfl⟩,rfl⟩:=h3;rfl
   ·exact h3.elim
  ·rename_i hn
   obtain⟨v,rfl,h⟩:=h
   exact ot (tr:=tr) hst hd h (fun a' w' x hx cw=>hk a' w' (by rw[vr];subst hx;exact cw))
 ·rename_i T l c bZ
  obtain⟨bx,nb,x,rfl,h⟩:=h
  refine viaStep (by simp[pC,bZ]) ?_
  unfold VStep
  rw[bZ]
  have:bR tr o=none:=by simp[bR,bZ]
  rw[ji,this]
  refine FV h fun n m sz z hh=>?_
  obtain⟨⟨rfl,rfl⟩,rfl⟩:=hh
  rfl
 ·rename_i f args ts bZ
  split at h
  ·rename_i hn
   obtain⟨bx,nb,x,rfl,h,hlc⟩:=h
   have hc:bR tr o=none:=by simp[bR,bZ]
   refine qO (K:=fun s' u=>s'.put o.dst u=(Ef.gn bx nb x).run tr o s) bZ hst hd ?_ (fun a' w' s' u hK cw=>hk a' w' (by rw[← hK];exact cw))
   unfold vcallB
   refine MR h fun b n u hh=>?_
   obtain⟨⟨rfl,rfl⟩,rfl⟩:=hh
   rw[ji,hc];rfl
  ·rename_i hn
   obtain⟨v,rfl,h⟩:=h
   exact BD (tr:=tr) bZ hst hd h (fun a' w' x hx cw=>hk a' w' (by rw[vr];subst hx;exact cw))
 ·obtain⟨v,rfl,_,h⟩:=h
  exact ot (tr:=tr) hst hd h (fun a' w' x hx cw=>hk a' w' (by rw[vr];subst hx;exact cw))
 ·rename_i T m k X bZ
  obtain⟨bx,rfl,h⟩:=h
  refine viaStep (by simp[pC,bZ]) ?_
  have:bR tr o=none:=by simp[bR,bZ]
  rw[ji,this]
  unfold VStep
  rw[bZ]
  exact MP (Dp h) fun s' e=>by rw[← e];rfl
 ·rename_i T m k bZ
  obtain⟨bx,v,rfl,h⟩:=h
  refine viaStep (by simp[pC,bZ]) ?_
  have:bR tr o=none:=by simp[bR,bZ]
  rw[ji,this]
  unfold VStep
  rw[bZ]
  exact rV (oN h) fun s' u e=>by rw[← e.1,← e.2];rfl
 ·rename_i T m k X bZ
  obtain⟨bx,rfl,h⟩:=h
  refine viaStep (by simp[pC,bZ]) ?_
  have:bR tr o=none:=by simp[bR,bZ]
  rw[ji,this]
  unfold VStep
  rw[bZ]
  exact FO (zt h) fun s' e=>by rw[← e];rfl
 ·rename_i args ts bZ
  obtain⟨bx,v,rfl,h⟩:=h
  refine viaStep (by simp[pC,bZ]) ?_
  have:bR tr o=none:=by simp[bR,bZ]
  rw[ji,this]
  unfold VStep
  rw[bZ]
  exact UW (IJ h) fun s' u e=>by rw[← e.1,← e.2];rfl
 ·rename_i args ts bZ
  split at h
  ·exact h.elim
  rename_i hn
  split at h
  ·rename_i hr
   obtain⟨bx,v,rfl,h⟩:=h
   refine viaStep (by simp[pC,bZ]) ?_
   rw[ji,vq (tr:=tr) bZ h]
   unfold VStep
   rw[bZ]
   simp only[hn,hr,cJ,dm,aS]
   refine IK (A7 h) (fun s' u e=>?_)
   rw[← e.1,← e.2]
  ·obtain⟨v,rfl,h⟩:=h
   exact ot (tr:=tr) hst hd h (fun a' w' x hx cw=>hk a' w' (by rw[vr];subst hx;exact cw))
 ·rename_i args ts bZ
  obtain⟨bx,rfl,h⟩:=h
  refine viaStep (by simp[pC,bZ]) ?_
  have:bR tr o=none:=by simp[bR,bZ]
  rw[ji,this]
  unfold VStep
  rw[bZ]
  exact PP (FN h) fun s' e=>by rw[← e];rfl
 ·obtain⟨v,rfl,h⟩:=h
  exact ot (tr:=tr) hst hd h (fun a' w' x hx cw=>hk a' w' (by rw[vr];subst hx;exact cw))
def dw (tr:List Nat) (o:Oper):Nat:=
 match o.op with
 | .call { callee:=.builtin .copy,.. }=>2
 | .call { callee:=.builtin .clear,.. }=>2
 | .load _ _ | .convert _ _ _ | .lookup _ _ _ _ | .range _ _ | .entry _=>1
 | .call { callee:=.builtin .append,.. }=>if y6 tr o.dst then 2 else 1
 | .call { callee:=.value _,.. }=>if u6 tr o.dst then 2 else 1
 | .buildSlice _ _ _=>if nh tr o.dst then 2 else 0
 | .alloc _ | .box _ _ | .store _ _ _ | .makeSlice _ _ _ | .mapUpdate _ _ _ _ | .mapEntry _ _ _ | .entryStore _ _ _ _=>2
 |_=>0
theorem zw {s':S} {x:Operand} (h:∀ t,x=.tmp t→s.fr t=s'.fr t):ev G s x=ev G s' x:=by
 cases x<;>simp only[ev]
 exact h _ rfl
theorem UX {s':S} (hb:s.bx=s'.bx) (hn:s.nb=s'.nb):imm s=imm s':=by
 obtain⟨fr,bx,nb⟩:=s
 obtain⟨fr',bx',nb'⟩:=s'
 simp only at hb hn
 subst hb;subst hn
 funext x
 cases x<;>rfl
theorem Dv {s':S} (hb:s.bx=s'.bx) (hn:s.nb=s'.nb):vw s=vw s':=by
 obtain⟨fr,bx,nb⟩:=s
 obtain⟨fr',bx',nb'⟩:=s'
 simp only at hb hn
 subst hb;subst hn
 funext x
 cases x<;>rfl
theorem qm {s':S} {K:V→Prop} (yK:∀ d,o.dst=some d→s.fr d=s'.fr d) (he:∀ x∈o.op.operands,ev G s x=ev G s' x) (hm:dw tr o≠0→s.bx=s'.bx∧s.nb=s'.nb) (h:VYK P G tr o s K):VYK P G tr o s' K:=by
 have marr:∀ l:Array Operand,(∀ x∈l,ev G s x=ev G s' x)→l.toList.map (ev G s)=l.toList.map (ev G s'):=fun l hl=>ct fun x hx=>hl x (by simpa using hx)
 have mopt:∀ l:Option Operand,(∀ x,l=some x→ev G s x=ev G s' x)→l.map (ev G s)=l.map (ev G s'):=fun l hl=>by cases l with
  |none=>rfl
  |some x=>simp only[bK,hl x rfl]
 obtain⟨dst,op,type,pos,after,guard⟩:=o
 cases op<;>simp only[VYK] at h ⊢<;>try exact h
 case move x=>rw[← he x (by simp[Op.operands])];exact h
 case assign x=>rw[← he x (by simp[Op.operands])];exact h
 case pick c a b=>rw[← he c (by simp[Op.operands]),← he a (by simp[Op.operands]),← he b (by simp[Op.operands])];exact h
 case build T parts=>
  have:(parts.toList.map fun(i,x)=>(i,ev G s' x))=parts.toList.map fun(i,x)=>(i,ev G s x):=ct fun p hp=>by
   obtain⟨i,x⟩:=p
   simp only[he x (by simp only[Op.operands,fF,bu];exact⟨(i,x),hp,rfl⟩)]
  rw[this];exact h
 case buildSlice T len parts=>
  have:(parts.toList.map fun(i,x)=>(i,ev G s' x))=parts.toList.map fun(i,x)=>(i,ev G s x):=ct fun p hp=>by
   obtain⟨i,x⟩:=p
   simp only[he x (by simp only[Op.operands,fF,bu];exact⟨(i,x),hp,rfl⟩)]
  rw[this];exact h
 case load T x=>
  obtain⟨h1,h2⟩:=hm (by simp[dw])
  rw[← he x (by simp[Op.operands])]
  unfold dy at h ⊢
  rw[← h1,← h2];exact h
 case lookup T x k ok=>
  obtain⟨h1,h2⟩:=hm (by simp[dw])
  rw[← he x (by simp[Op.operands]),← he k (by simp[Op.operands])]
  unfold ft ix at h ⊢
  rw[← h1,← h2];exact h
 case range T x=>
  obtain⟨h1,h2⟩:=hm (by simp[dw])
  rw[← he x (by simp[Op.operands])]
  unfold nK at h ⊢
  rw[← h1,← h2];exact h
 case entry x=>
  obtain⟨h1,h2⟩:=hm (by simp[dw])
  rw[← he x (by simp[Op.operands])]
  unfold mT at h ⊢
  rw[← h1,← h2];exact h
 case binOp op T x y yT=>rw[← he x (by simp[Op.operands]),← he y (by simp[Op.operands])];exact h
 case unOp op T x=>rw[← he x (by simp[Op.operands])];exact h
 case convert src dst x=>
  obtain⟨h1,h2⟩:=hm (by simp[dw])
  rw[← he x (by simp[Op.operands]),← Dv h1 h2];exact h
 case makeFunc f a b=>rw[← marr a fun x hx=>he x (by simp[Op.operands,hx]),← marr b fun x hx=>he x (by simp[Op.operands,hx])];exact h
 case sliceToArrayPointer T x=>rw[← he x (by simp[Op.operands])];exact h
 case nilCheck x=>rw[← he x (by simp[Op.operands])];exact h
 case slice T x lo hi mx=>
  rw[← he x (by simp[Op.operands]),← mopt lo fun x hx=>he x (by simp[Op.operands,hx]),← mopt hi fun x hx=>he x (by simp[Op.operands,hx]),← mopt mx fun x hx=>he x (by simp[Op.operands,hx])];exact h
 case fieldAddr T x f=>rw[← he x (by simp[Op.operands])];exact h
 case field T x f=>rw[← he x (by simp[Op.operands])];exact h
 case indexAddr T x i=>rw[← he x (by simp[Op.operands]),← he i (by simp[Op.operands])];exact h
 case index T x i=>rw[← he x (by simp[Op.operands]),← he i (by simp[Op.operands])];exact h
 case extract x i=>rw[← he x (by simp[Op.operands])];exact h
 case call c=>
  obtain⟨callee,args,ts⟩:=c
  cases callee with
  |value f=>
   simp only at h ⊢
   obtain⟨h1,h2⟩:=hm (by simp only[dw];split<;>simp)
   rw[← he f (by simp[Op.operands,Call.operands]),← marr args fun x hx=>he x (by simp[Op.operands,Call.operands,hx])]
   unfold qh at h ⊢
   rw[← UX h1 h2];exact h
  |invoke r m=>exact h
  |builtin b=>
   cases b
   case append=>
    simp only at h ⊢
    obtain⟨h1,h2⟩:=hm (by simp only[dw];split<;>simp)
    have:(args.toList.map fun x=>vw s' (ev G s' x))=args.toList.map fun x=>vw s (ev G s x):=ct fun x hx=>by
     rw[Dv h1 h2,he x (by simp only[Op.operands,Call.operands];simpa using hx)]
    rw[this]
    split at h
    ·rename_i hg
     rw[if_pos hg]
     split at h
     ·rename_i E8
      rw[if_pos E8]
      unfold u5 at h ⊢
      split at h
      ·rename_i t y d ha
       have ht:s.fr t=s'.fr t:=by
        have:=he (.tmp t) (by simp only[Op.operands,Call.operands];rw[en];exact cA.1 (by rw[ha];simp))
        simpa[ev] using this
       have hy:ev G s y=ev G s' y:=he y (by simp only[Op.operands,Call.operands];rw[en];exact cA.1 (by rw[ha];simp))
       rw[← ht,← yK d rfl,← hy,← Dv h1 h2]
       exact h
      ·exact h.elim
     ·rename_i E8
      rw[if_neg E8]
      unfold jC at h ⊢
      split at h
      ·rename_i t y d ha
       have ht:s.fr t=s'.fr t:=by
        have:=he (.tmp t) (by simp only[Op.operands,Call.operands];rw[en];exact cA.1 (by rw[ha];simp))
        simpa[ev] using this
       have hy:ev G s y=ev G s' y:=he y (by simp only[Op.operands,Call.operands];rw[en];exact cA.1 (by rw[ha];simp))
       rw[← ht,← yK d rfl,← hy,← Dv h1 h2]
       exact h
      ·exact h.elim
    ·rename_i hg
     rw[if_neg hg];exact h
   all_goals
    simp only at h ⊢
    rw[← marr args fun x hx=>he x (by simp[Op.operands,Call.operands,hx])];exact h
theorem MS {s':S} {e:Ef} (yK:∀ d,o.dst=some d→s.fr d=s'.fr d) (he:∀ x∈o.op.operands,ev G s x=ev G s' x) (hm:dw tr o≠0→s.bx=s'.bx∧s.nb=s'.nb) (h:VEf P G tr o s e):VEf P G tr o s' e:=by
 unfold VEf at h ⊢
 split at h
 ·exact h
 ·rename_i T X bZ
  rw[← he X (by rw[bZ];simp[Op.operands])];exact h
 ·rename_i T p X bZ
  obtain⟨h1,h2⟩:=hm (by simp[dw,bZ])
  rw[← he p (by rw[bZ];simp[Op.operands]),← he X (by rw[bZ];simp[Op.operands]),← h1,← h2];exact h
 ·rename_i T len parts bZ
  have:(parts.toList.map fun(i,x)=>(i,ev G s' x))=parts.toList.map fun(i,x)=>(i,ev G s x):=ct fun p hp=>by
   obtain⟨i,x⟩:=p
   simp only[he x (by rw[bZ];simp only[Op.operands,fF,bu];exact⟨(i,x),hp,rfl⟩)]
  split at h
  ·rename_i hn
   rw[if_pos hn]
   obtain⟨h1,h2⟩:=hm (by simp[dw,bZ,hn])
   rw[this,← h1,← h2];exact h
  ·rename_i hn
   rw[if_neg hn]
   obtain⟨v,h1,h2⟩:=h
   exact⟨v,h1,qm yK he hm h2⟩
 ·rename_i T l c bZ
  obtain⟨h1,h2⟩:=hm (by simp[dw,bZ])
  rw[← he l (by rw[bZ];simp[Op.operands]),← he c (by rw[bZ];simp[Op.operands]),← h1,← h2];exact h
 ·rename_i f args ts bZ
  split at h
  ·rename_i hn
   rw[if_pos hn]
   obtain⟨h1,h2⟩:=hm (by simp[dw,bZ,hn])
   have:args.toList.map (ev G s)=args.toList.map (ev G s'):=ct fun x hx=>he x (by rw[bZ];simp only[Op.operands,Call.operands];simp at hx;simp[hx])
   rw[← he f (by rw[bZ];simp[Op.operands,Call.operands]),← this,← h1,← h2];exact h
  ·rename_i hn
   rw[if_neg hn]
   obtain⟨v,h1,h2⟩:=h
   refine⟨v,h1,?_⟩
   unfold VYQ at h2 ⊢
   split
   ·rename_i Ml
    rw[if_pos Ml] at h2
    obtain⟨q1,q2⟩:=hm (by simp[dw,bZ,hn])
    have:args.toList.map (ev G s)=args.toList.map (ev G s'):=ct fun x hx=>he x (by rw[bZ];simp only[Op.operands,Call.operands];simp at hx;simp[hx])
    rw[← he f (by rw[bZ];simp[Op.operands,Call.operands]),← this]
    exact xM (du q2) (fun i _=>by rw[q1]) h2
   ·rename_i Ml
    rw[if_neg Ml] at h2
    exact qm yK he hm h2
 ·rename_i T X bZ
  obtain⟨v,h1,k9,h2⟩:=h
  exact⟨v,h1,by rw[← he X (by rw[bZ];simp[Op.operands])];exact k9,qm yK he hm h2⟩
 ·rename_i T m k X bZ
  obtain⟨h1,h2⟩:=hm (by simp[dw,bZ])
  rw[← he m (by rw[bZ];simp[Op.operands]),← he k (by rw[bZ];simp[Op.operands]),← he X (by rw[bZ];simp[Op.operands]),← h1,← h2];exact h
 ·rename_i T m k bZ
  obtain⟨h1,h2⟩:=hm (by simp[dw,bZ])
  rw[← he m (by rw[bZ];simp[Op.operands]),← he k (by rw[bZ];simp[Op.operands]),← h1,← h2];exact h
 ·rename_i T m k X bZ
  obtain⟨h1,h2⟩:=hm (by simp[dw,bZ])
  rw[← he m (by rw[bZ];simp[Op.operands]),← he k (by rw[bZ];simp[Op.operands]),← he X (by rw[bZ];simp[Op.operands]),← h1,← h2];exact h
 ·rename_i args ts bZ
  obtain⟨h1,h2⟩:=hm (by simp[dw,bZ])
  have:args.toList.map (ev G s)=args.toList.map (ev G s'):=ct fun x hx=>he x (by rw[bZ];simp only[Op.operands,Call.operands];simpa using hx)
  rw[← this,← h1,← h2];exact h
 ·rename_i args ts bZ
  split at h
  ·exact h.elim
  rename_i hn
  rw[if_neg hn]
  split at h
  ·rename_i hr
   rw[if_pos hr]
   obtain⟨h1,h2⟩:=hm (by simp[dw,bZ,hr])
   have:args.toList.map (ev G s)=args.toList.map (ev G s'):=ct fun x hx=>he x (by rw[bZ];simp only[Op.operands,Call.operands];simpa using hx)
   rw[← this,← h1,← h2];exact h
  ·rename_i hr
   rw[if_neg hr]
   obtain⟨v,h1,h2⟩:=h
   exact⟨v,h1,qm yK he hm h2⟩
 ·rename_i args ts bZ
  obtain⟨h1,h2⟩:=hm (by simp[dw,bZ])
  have:args.toList.map (ev G s)=args.toList.map (ev G s'):=ct fun x hx=>he x (by rw[bZ];simp only[Op.operands,Call.operands];simpa using hx)
  rw[← this,← h1,← h2];exact h
 ·obtain⟨v,h1,h2⟩:=h
  exact⟨v,h1,qm yK he hm h2⟩
def tV (ops:Array Oper) (o:Oper) (s:S):Option Bool:=
 match o.guard with
 |none=>some true
 |some (j,want)=>match(ops[j]?).bind (·.dst) with
  |some d=>match s.fr d with
   | .c (.lit (.bool p))=>some (p==want)
   | .sk=>some false
   |_=>none
  |none=>none
def TEf (P:Program) (G:Gl) (tr:List Nat) (ops:Array Oper) (o:Oper) (s:S) (e:Ef):Prop:=
 (tV ops o s=some true∧VEf P G tr o s e∧e≠.skip)∨(tV ops o s=some false∧e=.skip)
theorem fK {K:S→Prop} (wB:li tr o=false) (h:mU ops o s (fun s=>VStep P G tr o s K) (fun s=>K (s.put o.dst .sk))):∃ e,TEf P G tr ops o s e∧K (e.run tr o s):=by
 unfold mU at h
 have yes:tV ops o s=some true→VStep P G tr o s K→∃ e,TEf P G tr ops o s e∧K (e.run tr o s):=fun hg hv=>by
  obtain⟨e,h1,h2,h3⟩:=hv.ef wB
  exact⟨e,.inl ⟨hg,h2,h1⟩,h3⟩
 have no:tV ops o s=some false→K (s.put o.dst .sk)→∃ e,TEf P G tr ops o s e∧K (e.run tr o s):=fun hg hv=>⟨.skip,.inr ⟨hg,rfl⟩,by rw[rX];exact hv⟩
 split at h
 ·rename_i hg
  exact yes (by unfold tV;rw[hg]) h
 ·rename_i j want hg
  split at h
  ·rename_i d hd
   split at h
   ·rename_i p hp
    by_cases hpw:p=want
    ·subst hpw
     have:=h.1 rfl
     rw[S.up_id hp] at this
     exact yes (by unfold tV;simp only[hg,hd,hp,beq_self_eq_true]) this
    ·have E2:p=!want:=by cases p<;>cases want<;>simp_all
     have:=h.2 E2
     rw[← E2,S.up_id hp] at this
     exact no (by unfold tV;simp only[hg,hd,hp];simpa using hpw) this
   ·rename_i hp
    exact no (by unfold tV;simp only[hg,hd,hp]) h
   ·exact h.elim
  ·exact h.elim
theorem j6 (hst:St G n I0 M w0 I β ob s a w) {p:Bool} (h:tV ops o s=some p):Region.wanted o (yielded ops a.tmps)=p:=by
 unfold tV at h
 unfold Region.wanted
 split at h
 ·rename_i hg;rw[hg];simpa using h
 ·rename_i j want hg
  rw[hg]
  split at h
  ·rename_i d hd
   split at h
   ·rename_i q hq
    simp only[vo hst hd hq]
    simp only[am] at h
    rw[← h];cases q<;>cases want<;>rfl
   ·rename_i hq
    simp only[zo hst hd hq]
    simp only[am] at h
    rw[← h];rfl
   ·cases h
  ·cases h
def oO (P:Program) (G:Gl) (tr:List Nat) (ops:Array Oper) (i:Nat) (K:S→Prop) (s:S):Prop:=
 match ops[i]? with
 |none=>K s
 |some o=>∃ e,TEf P G tr ops o s e∧K (e.run tr o s)
def Dw (P:Program) (G:Gl) (tr:List Nat) (md:Region.Mode) (ops:Array Oper) (K:S→Prop):Nat→Array Bool→S→Prop
 |0,listed,s=>Region.ready md ops listed=[]∧K s
 |fuel+1,listed,s=>
  (Region.ready md ops listed=[]→K s)∧
  ∀ i∈Region.ready md ops listed,oO P G tr ops i (Dw P G tr md ops K fuel (listed.setIfInBounds i true)) s
theorem oR (dI:jJ n ops=true) {K:S→Prop} (hK:∀ a w s,K s→SE G n I0 M w0 s a w→Q .normal a w):∀ (fuel:Nat) (listed:Array Bool) (s:S) (a:Act) (w:World),
 Dw P G tr md ops K fuel listed s→SE G n I0 M w0 s a w→wpAny P md ops Q fuel listed a w
 |0,_,_,_,_,h,cw=>⟨h.1,hK _ _ _ h.2 cw⟩
 |fuel+1,_,s,a,w,h,cw=>by
  refine⟨fun h0=>hK _ _ _ (h.1 h0) cw,fun i hi=>?_⟩
  have hh:=h.2 i hi
  unfold oO at hh
  unfold wpOp
  split
  ·rename_i ho;simp only[ho] at hh;exact oR dI hK fuel _ s a w hh cw
  ·rename_i o ho
   simp only[ho] at hh
   obtain⟨e,he,hh⟩:=hh
   have jG:o∈ops.toList:=by
    have:=eu ho
    simpa using this
   obtain⟨I,β,ob,hst⟩:=cw
   rcases he with⟨hg,hv,_⟩ | ⟨hg,rfl⟩
   ·rw[if_pos (j6 hst hg)]
    exact .inl (sZ hst (eQ dI jG) hv fun a' w' m5=>oR dI hK fuel _ _ a' w' hh m5)
   ·rw[j6 hst hg]
    simp only[aS,dm]
    rw[rX] at hh
    exact oR dI hK fuel _ _ _ w hh (SE.put hst (eQ dI jG) (by simp only[LR];exact .sk))
def wr (tr:List Nat) (o:Oper):List Tmp:=o.dst.toList++(bR tr o).toList
def ml (tr:List Nat) (x y:Oper):Bool:=match x.op,x.dst,y.op with
 | .load _ _,some d,.store _ (.tmp t) _=>tr.contains (200000+d)&&tr.contains (200000+t)&&(List.range 100).all fun b=>!(tr.contains (300000+d*100+b)&&tr.contains (300000+t*100+b))
 | .load _ _,some d,.call { callee:=.value _,.. }=>tr.contains (200000+d)&&(u6 tr y.dst&&AX tr y.dst)&&(List.range 100).all fun b=>!(tr.contains (300000+d*100+b)&&tr.contains (500000+y.dst.getD 0*100+b))
 |_,_,_=>false
def oe (x y:Oper):Bool:=match x.op,y.op with
 | .lookup T (.tmp m) (.tmp k) false,.mapEntry U (.tmp m') (.tmp k')=>T==U&&m==m'&&k==k'
 |_,_=>false
def vt (tr:List Nat) (x y:Oper):Bool:=dw tr x==1&&match y.op with
 | .alloc _=>true
 | .box _ _=>true
 | .buildSlice _ _ _=>nh tr y.dst
 |_=>false
def Dx (tr:List Nat) (ops:Array Oper) (x y:Oper):Bool:=
 ((wr tr x).all fun d=>!(y.looksAt ops).contains d&&!(wr tr y).contains d)&&((wr tr y).all fun d=>!(x.looksAt ops).contains d)&&
 ((dw tr x !=2||dw tr y==0||(ml tr y x||oe y x))&&(dw tr y !=2||dw tr x==0||(ml tr x y||(oe x y||vt tr x y))))
structure FX (tr:List Nat) (ops:Array Oper) (x y:Oper):Prop where
 xy:∀ d∈wr tr x,d∉y.looksAt ops
 ww:∀ d∈wr tr x,d∉wr tr y
 yx:∀ d∈wr tr y,d∉x.looksAt ops
 mx:dw tr x=2→dw tr y=0∨ml tr y x=true∨oe y x=true
 my:dw tr y=2→dw tr x=0∨ml tr x y=true∨oe x y=true∨vt tr x y=true
theorem FY {x y:Oper} (h:Dx tr ops x y=true):FX tr ops x y:=by
 simp only[Dx,aG,aW,eb,gY,cm,dF,bne_iff_ne,ko] at h
 obtain⟨⟨h1,h2⟩,h3,h4⟩:=h
 exact⟨fun d hd=>(h1 d hd).1,fun d hd=>(h1 d hd).2,h2,fun h=>by rcases h3 with(h3 | h3) | h3;exact absurd h h3;exact .inl h3;exact .inr h3,
  fun h=>by rcases h4 with(h4 | h4) | h4;exact absurd h h4;exact .inl h4;exact .inr h4⟩
def ru (tr:List Nat) (o:Oper) (u:Bool) (x:V) (fr:Nat→V):Nat→V:=FT o.dst x (Ds u (bR tr o) fr)
theorem zx (u:Bool) (c:Option Tmp) (fr:Nat→V) (t:Nat):Ds u c fr t=if c=some t∧u=true∧(fr t).isOw=true then .un else fr t:=by
 unfold Ds
 cases c with
 |none=>simp
 |some q=>
  simp only
  by_cases hq:q=t
  ·subst hq
   by_cases h:u=true∧(fr q).isOw=true
   ·rw[if_pos (by simp[h.1,h.2]),cn,if_pos ⟨rfl,h⟩]
   ·rw[if_neg (by simpa using h),if_neg (fun e=>h e.2)]
  ·have:¬ (some q=some t∧u=true∧(fr t).isOw=true):=fun e=>hq (by simpa using e.1)
   rw[if_neg this]
   split
   ·rw[cZ _ _ (fM hq)]
   ·rfl
theorem nu (u:Bool) (x:V) (fr:Nat→V) (t:Nat):ru tr o u x fr t=if o.dst=some t then x else if bR tr o=some t∧u=true∧(fr t).isOw=true then .un else fr t:=by
 unfold ru FT
 cases o.dst with
 |none=>simpa using zx u (bR tr o) fr t
 |some d=>
  simp only
  by_cases hd:d=t
  ·subst hd;simp
  ·rw[cZ _ _ (fM hd),if_neg (by simpa using hd)]
   exact zx u (bR tr o) fr t
theorem fC {u:Bool} {x:V} {fr:Nat→V} {t:Nat} (h:t∉wr tr o):ru tr o u x fr t=fr t:=by
 simp only[wr,aY,Option.mem_toList,not_or] at h
 rw[nu,if_neg h.1,if_neg (fun e=>h.2 e.1)]
theorem zy {x y:Oper} (h:∀ d∈wr tr x,d∉wr tr y) (u u':Bool) (vx vy:V) (fr:Nat→V) :
 ru tr y u' vy (ru tr x u vx fr)=ru tr x u vx (ru tr y u' vy fr):=by
 funext t
 by_cases hx:t∈wr tr x
 ·rw[fC (h t hx),nu,nu,fC (h t hx)]
 ·have e1:ru tr x u vx fr t=fr t:=fC hx
  have e2:ru tr x u vx (ru tr y u' vy fr) t=ru tr y u' vy fr t:=fC hx
  rw[e2,nu (o:=y),e1,nu (o:=y)]
theorem rY (e:Ef):e.run tr o s=⟨ru tr o e.uses (e.val s.nb) s.fr,e.bx s.nb s.bx,e.nb s.nb⟩:=rfl
theorem UY {e:Ef} (h:VEf P G tr o s e) (hm:dw tr o≠2):∃ v,e=.v v:=by
 unfold VEf at h
 split at h
 ·rename_i bZ;simp[dw,bZ] at hm
 ·rename_i bZ;simp[dw,bZ] at hm
 ·rename_i bZ;simp[dw,bZ] at hm
 ·rename_i bZ
  split at h
  ·rename_i hn;simp[dw,bZ,hn] at hm
  ·obtain⟨v,rfl,_⟩:=h;exact⟨v,rfl⟩
 ·rename_i bZ;simp[dw,bZ] at hm
 ·rename_i bZ
  split at h
  ·rename_i hn;simp[dw,bZ,hn] at hm
  ·obtain⟨v,rfl,_⟩:=h;exact⟨v,rfl⟩
 ·obtain⟨v,rfl,_⟩:=h;exact⟨v,rfl⟩
 ·rename_i bZ;simp[dw,bZ] at hm
 ·rename_i bZ;simp[dw,bZ] at hm
 ·rename_i bZ;simp[dw,bZ] at hm
 ·rename_i bZ;simp[dw,bZ] at hm
 ·rename_i bZ
  split at h
  ·exact h.elim
  split at h
  ·rename_i hr;simp[dw,bZ,hr] at hm
  ·obtain⟨v,rfl,_⟩:=h;exact⟨v,rfl⟩
 ·rename_i bZ;simp[dw,bZ] at hm
 ·obtain⟨v,rfl,_⟩:=h;exact⟨v,rfl⟩
theorem s0 {e:Ef} (h:TEf P G tr ops o s e) (hm:dw tr o≠2):(∃ v,e=.v v)∨e=.skip:=by
 rcases h with⟨_,h,_⟩ | ⟨_,h⟩
 ·exact .inl (UY h hm)
 ·exact .inr h
theorem lZ {e:Ef} (h:(∃ v,e=.v v)∨e=.skip) (bx:Nat→List V) (nb nb':Nat):e.bx nb bx=bx∧e.nb nb=nb∧e.val nb=e.val nb':=by
 rcases h with⟨v,rfl⟩ | rfl<;>exact⟨rfl,rfl,rfl⟩
theorem jD {s':S} (h:∀ t∈o.looksAt ops,s.fr t=s'.fr t):tV ops o s=tV ops o s':=by
 unfold tV
 split
 ·rfl
 ·rename_i j want hg
  split
  ·rename_i d hd
   have:d∈o.looksAt ops:=by
    unfold Oper.looksAt
    rw[hg]
    simp only[aY,Option.mem_toList]
    exact .inr hd
   rw[h d this]
  ·rfl
theorem jE {x:Operand} {t:Tmp} (hx:x∈o.op.operands) (ht:x=.tmp t):t∈o.looksAt ops:=by
 unfold Oper.looksAt
 simp only[aY,List.mem_filterMap]
 exact .inl ⟨x,by simpa using hx,by rw[ht]⟩
theorem ta {s':S} {e:Ef} (yK:∀ d,o.dst=some d→s.fr d=s'.fr d) (hl:∀ t∈o.looksAt ops,s.fr t=s'.fr t) (hm:dw tr o≠0→s.bx=s'.bx∧s.nb=s'.nb) (h:TEf P G tr ops o s e):TEf P G tr ops o s' e:=by
 rcases h with⟨h1,h2,h3⟩ | ⟨h1,h2⟩
 ·exact .inl ⟨by rw[← jD hl];exact h1,MS yK (fun x hx=>zw fun t ht=>hl t (jE hx ht)) hm h2,h3⟩
 ·exact .inr ⟨by rw[← jD hl];exact h1,h2⟩
theorem qR {x y:Oper} (h:ml tr x y=true):∃ T X d,x.op=.load T X∧x.dst=some d∧tr.contains (200000+d)=true∧
 ((∃ U t Y,y.op=.store U (.tmp t) Y∧tr.contains (200000+t)=true∧∀ b,b<100→tr.contains (300000+d*100+b)=true→tr.contains (300000+t*100+b)=true→False)∨
  (∃ c f,y.op=.call c∧c.callee=.value f∧u6 tr y.dst=true∧AX tr y.dst=true∧∀ b,b<100→tr.contains (300000+d*100+b)=true→tr.contains (500000+y.dst.getD 0*100+b)=true→False)):=by
 unfold ml at h
 split at h
 ·rename_i T X d U t Y h1 h2 h3
  simp only[aG,aW] at h
  refine⟨T,X,d,h1,h2,h.1.1,.inl ⟨U,t,Y,h3,h.1.2,fun b hb q1 q2=>?_⟩⟩
  have:=h.2 b (cO.2 hb)
  rw[q1,q2] at this
  cases this
 ·rename_i T X d f args ts h1 h2 h3
  simp only[aG,aW] at h
  refine⟨T,X,d,h1,h2,h.1.1,.inr ⟨_,f,h3,rfl,h.1.2.1,h.1.2.2,fun b hb q1 q2=>?_⟩⟩
  have:=h.2 b (cO.2 hb)
  rw[q1,q2] at this
  cases this
 ·cases h
theorem FZ {x y:Oper} (h:ml tr x y=true):dw tr x=1:=by
 obtain⟨T,X,d,h1,_⟩:=qR h
 simp[dw,h1]
theorem PT {T:TypeId} {s':S} {b k:Nat} {K:V→Prop} (hb:s'.bx b=s.bx b) (hn:s'.nb=s.nb) (h:dy P T s (.bp b k) K):dy P T s' (.bp b k) K:=by
 unfold dy at *
 cases hT:ti P T with
 |none=>rw[hT] at h;exact h.elim
 |some i=>
  rw[hT] at h
  simp only at h ⊢
  rw[hb,hn];exact h
theorem xN {T:TypeId} {s':S} {K:V→Prop} (hx:∀ b k,x≠.bp b k) (O5:∀ v,x≠.c (.ex v)) (h:dy P T s x K):dy P T s' x K:=by
 unfold dy at *
 cases hT:ti P T with
 |none=>rw[hT] at h;exact h.elim
 |some i=>
  rw[hT] at h
  cases x with
  |c c=>
   cases c with
   |ex v=>exact absurd rfl (O5 v)
   |_=>exact h
  |bp b k=>exact absurd rfl (hx b k)
  |_=>exact h.elim
theorem F2 {x y:Oper} {f:Ef} (u3:ml tr x y=true) (hy:TEf P G tr ops y s f):f.nb s.nb=s.nb∧∀ d b,x.dst=some d→b<100→tr.contains (300000+d*100+b)=true→f.bx s.nb s.bx b=s.bx b:=by
 obtain⟨T,X,d,O7,hx2,hd,H6⟩:=qR u3
 rcases hy with⟨_,hv,_⟩ | ⟨_,rfl⟩
 ·unfold VEf at hv
  rcases H6 with⟨U,t,Y,EZ,ht,fU⟩ | ⟨c,g,EZ,hy2,hm,hl,fU⟩
  ·rw[EZ] at hv
   simp only at hv
   obtain⟨k9,hv⟩:=hv
   split at hv
   ·rename_i i b k cs h1 h2 h3
    obtain⟨_,rfl⟩:=hv
    rw[h2] at k9
    simp only[Iq,pH,Pp,ht,iU,Bool.false_or,aG,bi] at k9
    refine⟨rfl,fun d' b' pm AS yI=>?_⟩
    rw[hx2] at pm;cases pm
    have gv:b'≠b:=by rintro rfl;exact fU b' AS yI k9.2
    simp only[Ef.bx,cZ _ _ gv]
   ·rename_i i blk j h1 h2
    rw[h2] at k9
    simp only[Iq,pH,ht,iU] at k9
    cases k9
   ·exact hv.elim
  ·obtain⟨callee,args,ts⟩:=c
   simp only at hy2;subst hy2
   rw[EZ] at hv
   simp only[hm,cJ] at hv
   obtain⟨bx,nb,x',rfl,_,h2⟩:=hv
   obtain⟨h3,h4⟩:=h2 hl
   refine⟨h3,fun d' b' pm AS yI=>?_⟩
   rw[hx2] at pm;cases pm
   rcases h4 b' with h | ⟨_,h⟩
   ·exact h
   ·exact(fU b' AS yI h).elim
 ·exact⟨rfl,fun _ _ _ _ _=>rfl⟩
theorem PU {x y:Oper} {e:Ef} {s':S} (u3:ml tr x y=true) (hl:∀ t∈x.looksAt ops,s.fr t=s'.fr t)
 (nF:∀ d b,x.dst=some d→b<100→tr.contains (300000+d*100+b)=true→s'.bx b=s.bx b) (uZ:s'.nb=s.nb) (h:TEf P G tr ops x s e):TEf P G tr ops x s' e:=by
 obtain⟨T,X,d,O7,hx2,hd,_⟩:=qR u3
 rcases h with⟨h1,h2,h3⟩ | ⟨h1,h2⟩
 ·refine .inl ⟨by rw[← jD hl];exact h1,?_,h3⟩
  have uY:ev G s X=ev G s' X:=zw fun q hq=>hl q (jE (by rw[O7];simp[Op.operands]) hq)
  unfold VEf at h2 ⊢
  rw[O7] at h2 ⊢
  simp only at h2 ⊢
  obtain⟨v,he,k9,hv⟩:=h2
  refine⟨v,he,by rw[← uY];exact k9,?_⟩
  obtain⟨dst,op,type,pos,after,guard⟩:=x
  simp only at O7 hx2 k9 uY nF
  subst O7;subst hx2
  simp only[VYK] at hv ⊢
  rw[← uY]
  rcases H6:ev G s X with _ | _ | c | _ | _ | _ | ⟨b,k⟩ | _ | _ | _
  case bp=>
   rw[H6] at k9 hv
   simp only[pH,Pp,hd,iU,Bool.false_or,aG,bi] at k9
   exact PT (nF d b rfl k9.1 k9.2) uZ hv
  case c=>
   rw[H6] at k9 hv
   refine xN (fun _ _ e=>by cases e) (fun v e=>?_) hv
   cases e
   simp only[pH,hd,iU] at k9
   cases k9
  all_goals
   rw[H6] at hv
   exact xN (fun _ _ e=>by cases e) (fun _ e=>by cases e) hv
 ·exact .inr ⟨by rw[← jD hl];exact h1,h2⟩
theorem qS {x y:Oper} (h:oe x y=true):∃ T m k,x.op=.lookup T (.tmp m) (.tmp k) false∧y.op=.mapEntry T (.tmp m) (.tmp k):=by
 unfold oe at h
 split at h
 ·rename_i T m k U m' k' h1 h2
  simp only[aG,ko] at h
  obtain⟨⟨rfl,rfl⟩,rfl⟩:=h
  exact⟨T,m,k,h1,h2⟩
 ·cases h
theorem F3 {x y:Oper} (h:oe x y=true):dw tr x=1∧dw tr y=2:=by
 obtain⟨T,m,k,h1,h2⟩:=qS h
 simp[dw,h1,h2]
theorem zA {ag:Bool}:∀ {r:List V} {l:List (List C)},jB ag r=some l→r.length=2*l.length
 |[],l,h=>by simp only[jB,am] at h;subst h;rfl
 |[_],l,h=>by simp[jB] at h
 |k::v::r,l,h=>by
  unfold jB at h
  split at h
  ·rename_i q l' h1 h2
   simp only[am] at h;subst h
   have:=zA h2
   simp[this];omega
  ·cases h
theorem xO {ag:Bool} {k v:V} {q:List C} (hk:k.kcs ag=some q):∀ {r:List V} {l:List (List C)},jB ag r=some l→jB ag (r++[k,v])=some (l++[q])
 |[],l,h=>by simp only[jB,am] at h;subst h;simp[jB,hk]
 |[_],l,h=>by simp[jB] at h
 |k'::v'::r,l,h=>by
  unfold jB at h
  split at h
  ·rename_i q' l' h1 h2
   simp only[am] at h;subst h
   have:=xO (v:=v) hk h2
   simp only[dC,jB,h1,this]
  ·cases h
theorem zB {ks:List EK} {k:List C} (hl:k.length=ks.length) (hr:jA ks k k=some true):∀ {l:List (List C)} {i:Nat},mM ks k l i=some none→mM ks k (l++[k]) i=some (some (i+l.length))
 |[],i,_=>by simp[mM,hl,hr]
 |k'::l,i,h=>by
  unfold mM at h
  split at h
  ·rename_i h1
   split at h
   ·cases h
   ·rename_i h2
    simp only[dC,mM,h1,cJ,h2]
    rw[zB hl hr h];simp;omega
   ·cases h
  ·cases h
theorem zC {T:TypeId} {k:V} {K:S→V→Prop} (h:fA P T s x k K):∃ w,ft P T s x k false (fun u=>w=u):=by
 unfold fA at h
 obtain⟨i,bs,cl,r,res,z,h1,h2⟩:=iQ h
 cases res with
 |none=>exact⟨_,fJ h1 rfl⟩
 |some j=>exact⟨_,fJ h1 rfl⟩
theorem xP {T:TypeId} {bx':Nat→List V} {k v u:V} {s':S} (h:fA P T s x k (fun s' u'=>bx'=s'.bx∧u=u')) (hv:ft P T s x k false (fun w=>v=w)) (h1:s'.bx=bx') (h2:s'.nb=s.nb) :
 ft P T s' x k false (fun w=>v=w):=by
 subst h1
 unfold fA at h
 obtain⟨i,kt,et,tT,tk,te,ks,kc,z,bs,cl,r,kcs,res,q1,q2,rfl,q3,q4,q5,q6,q7,q8,q9,q10,⟨q11,q12,q13,q14⟩,hK⟩:=uu h
 have hv':ft P T s (.mr i) k false (fun w=>(match res with | some j=>(r.getD (2*j+1) .un).fz | none=>z)=w):=by
  unfold ft
  refine ql q1 q2 q3 q4 q5 q6 q7 q8 q9 q10 q11 q12 q13 q14 ?_
  cases res<;>rfl
 have rP:=xK hv hv'
 unfold ft
 cases res with
 |some j=>
  obtain⟨hb,_⟩:=hK
  refine ql q1 q2 q3 q4 q5 q6 q7 (by rw[hb];exact q8) q9 q10 (by rw[h2];exact q11) q12 q13 q14 ?_
  exact rP
 |none=>
  obtain⟨hb,_⟩:=hK
  have hkf:k.fz.kcs tk.agg=some kc:=by cases k<;>simp_all[V.fz,V.kcs]
  have hz:z.fz=z:=by
   unfold pU at q7;split at q7<;>first | (simp only[am] at q7;subst q7;rfl) | cases q7
  have ce:=zA q9
  refine ql (bs:=bs++[cl]) (cl:=cl+1) (r:=r++[k.fz,z]) q1 q2 q3 q4 q5 q6 q7 (by rw[hb];simp only[cn]) (xO hkf q9) (zB q12 q13 q10) (by rw[h2];exact q11) q12 q13 q14 ?_
  simp only
  rw[show v=z from rP]
  have:(r++[k.fz,z]).getD (2*(0+kcs.length)+1) .un=z:=by
   rw[ah,← ce];simp
  rw[this,hz];rfl
theorem wS {s':S} (hn:s.nb≤s'.nb) (hb:∀ i,i<s.nb→s'.bx i=s.bx i) {i:Nat} {cs:List C} (h:yq s i=some cs):yq s' i=some cs:=by
 unfold yq at *
 split at h
 ·rename_i hi;rw[if_pos (by omega),hb i hi];exact h
 ·cases h
theorem uw {s':S} (hn:s.nb≤s'.nb) (hb:∀ i,i<s.nb→s'.bx i=s.bx i) {i off len sz:Nat} {c:C} (h:lT s i off len sz=some c):lT s' i off len sz=some c:=by
 unfold lT at *
 split at h
 ·rename_i cs hc;simp only[wS hn hb hc];exact h
 ·cases h
theorem wT {s':S} (hn:s.nb≤s'.nb) (hb:∀ i,i<s.nb→s'.bx i=s.bx i) {x:V} {c:C} (h:uq s x=some c):uq s' x=some c:=by
 unfold uq at *
 split at h
 ·exact h
 ·exact h
 ·obtain⟨cs,hc,rfl⟩:=aX.1 h;rw[wS hn hb hc];rfl
 ·exact uw hn hb h
 ·cases h
theorem l0 {α β:Type} {f g:α→Option β} (h:∀ x y,f x=some y→g x=some y):∀ {l:List α} {r:List β},l.mapM f=some r→l.mapM g=some r
 |[],r,hr=>by simpa using hr
 |x::l,r,hr=>by
  rw[fm] at hr ⊢
  cases hx:f x with
  |none=>rw[hx] at hr;cases hr
  |some y=>
   rw[hx] at hr
   rw[h x y hx]
   cases hl:l.mapM f with
   |none=>rw[hl] at hr;cases hr
   |some r'=>rw[hl] at hr;rw[l0 h hl];exact hr
theorem vu {s':S} (hn:s.nb≤s'.nb) (hb:∀ i,i<s.nb→s'.bx i=s.bx i) {x y:V} (h:imm s x=some y):imm s' x=some y:=by
 unfold imm at *
 split at h
 ·exact h
 ·exact h
 ·exact h
 ·obtain⟨cs,hc,rfl⟩:=aX.1 h;rw[wS hn hb hc];rfl
 ·split at h
  ·rename_i e1 e2
   simp only[l0 (fun _ _=>wT hn hb) e1,l0 (fun _ _=>wT hn hb) e2];exact h
  ·cases h
 ·obtain⟨c,hc,rfl⟩:=aX.1 h;rw[uw hn hb hc];rfl
 ·obtain⟨c,hc,rfl⟩:=aX.1 h;rw[l0 (fun _ _=>wT hn hb) hc];rfl
 ·cases h
theorem tc {s':S} (hn:s.nb≤s'.nb) (hb:∀ i,i<s.nb→s'.bx i=s.bx i) (x:V):vw s x=vw s' x∨vw s x=.un:=by
 cases x<;>try exact .inl rfl
 case ms i off len cap sz=>
  simp only[vw]
  cases hv:lT s i off len sz with
  |none=>exact .inr rfl
  |some c=>rw[uw hn hb hv];exact .inl rfl
theorem MU {s':S} {ts:List TypeId} {z y:V} {K:V→Prop} (hn:s.nb≤s'.nb) (hb:∀ i,i<s.nb→s'.bx i=s.bx i) (h:eE P .append ts [z,vw s y] K):eE P .append ts [z,vw s' y] K:=by
 rcases tc hn hb y with e2 | e2
 ·rw[← e2];exact h
 ·rw[e2] at h
  unfold eE at h
  split at h<;>first | cases ‹Builtin.append=_› | skip
  ·rename_i t t' x y' hxy
   obtain⟨rfl,rfl⟩:z=x∧V.un=y':=by
    simp only[bO,fY] at hxy;exact hxy
   split at h
   ·exfalso
    unfold dX at h
    split at h
    ·split at h
     ·exact h.2.elim
     ·exact h.elim
    ·exact h.elim
   ·exfalso;unfold pG at h;simp[V.fz] at h
  ·exact h.elim
theorem IL {s':S} {ts:List TypeId} {E:Option (TypeId×Nat)} {es:List (List C)} {y:V} {K:V→Prop} (hn:s.nb≤s'.nb) (hb:∀ i,i<s.nb→s'.bx i=s.bx i) (h:t6 P ts E es (vw s y).fz K):t6 P ts E es (vw s' y).fz K:=by
 rcases tc hn hb y with e2 | e2
 ·rw[← e2];exact h
 ·exfalso
  rw[e2] at h
  unfold t6 at h
  split at h
  ·obtain⟨_,h⟩:=h
   split at h
   ·split at h
    ·obtain⟨_,h⟩:=h
     split at h
     ·rename_i e;cases e
     ·exact h.elim
    ·exact h.elim
   ·exact h.elim
  ·exact h.elim
theorem zD {s':S} {ts:List TypeId} {E:Option (TypeId×Nat)} {es:List (List C)} {y:V} {K:V→Prop} (hn:s.nb≤s'.nb) (hb:∀ i,i<s.nb→s'.bx i=s.bx i) (h:mN P ts E es (vw s y).fz K):mN P ts E es (vw s' y).fz K:=by
 rcases tc hn hb y with e2 | e2
 ·rw[← e2];exact h
 ·exfalso
  rw[e2] at h
  unfold mN at h
  split at h
  ·obtain⟨_,h⟩:=h
   split at h
   ·split at h
    ·obtain⟨_,h⟩:=h
     split at h
     ·rename_i e;cases e
     ·exact h.elim
    ·exact h.elim
   ·exact h.elim
  ·exact h.elim
theorem vz {s':S} {K:V→Prop} (yK:∀ d,o.dst=some d→s.fr d=s'.fr d) (he:∀ x∈o.op.operands,ev G s x=ev G s' x) (hn:s.nb≤s'.nb) (hb:∀ i,i<s.nb→s'.bx i=s.bx i) (hm:dw tr o=1) (h:VYK P G tr o s K):VYK P G tr o s' K:=by
 have marr:∀ l:Array Operand,(∀ x∈l,ev G s x=ev G s' x)→l.toList.map (ev G s)=l.toList.map (ev G s'):=fun l hl=>ct fun x hx=>hl x (by simpa using hx)
 have hm0:=hm
 obtain⟨dst,op,type,pos,after,guard⟩:=o
 cases op<;>simp only[dw] at hm<;>try cases hm
 case buildSlice=>split at hm<;>cases hm
 case load T x=>
  simp only[VYK] at h ⊢
  rw[← he x (by simp[Op.operands])]
  unfold dy at h ⊢
  split at h
  ·exact h
  ·rename_i i b k _
   obtain⟨⟨h1,h2⟩,h3⟩:=h
   rw[hb _ h1]
   exact⟨⟨by omega,h2⟩,h3⟩
  ·rcases h with⟨h1,b,k,len,cap,E,es,c,⟨q1,q2,q3,q4⟩,h⟩ | ⟨b,k,len,cap,E,es,⟨q1,q2,q3⟩,h⟩
   ·exact .inl ⟨h1,b,k,len,cap,E,es,c,⟨by omega,by rw[hb _ q1];exact q2,by rw[hb _ q1];exact q3,q4⟩,h⟩
   ·exact .inr ⟨b,k,len,cap,E,es,⟨by omega,by rw[hb _ q1];exact q2,by rw[hb _ q1];exact q3⟩,h⟩
  ·exact h.elim
 case convert src dst' x=>
  simp only[VYK] at h ⊢
  rw[← he x (by simp[Op.operands])]
  rcases tc hn hb (ev G s x) with e | e
  ·rw[← e];exact h
  ·rw[e] at h;simp[V.fz,nU] at h
 case lookup T x k ok=>
  simp only[VYK] at h ⊢
  rw[← he x (by simp[Op.operands]),← he k (by simp[Op.operands])]
  unfold ft at h ⊢
  obtain⟨i,kt,et,tT,tk,te,ks,kc,z,bs,cl,r,kcs,res,q1,q2,q3,q4,q5,q6,q7,q8,q9,q10,q11,⟨q12,q13,q14,q15⟩,hK⟩:=uu h
  rw[q3]
  exact ql q1 q2 q4 q5 q6 q7 q8 (by rw[hb i q12];exact q9) q10 q11 (by omega) q13 q14 q15 hK
 case range T x=>
  simp only[VYK] at h ⊢
  rw[← he x (by simp[Op.operands])]
  unfold nK at h ⊢
  split at h
  ·rename_i i _
   split at h
   ·rename_i e1
    obtain⟨h1,h2⟩:=h
    rw[hb _ h1];simp only[e1];exact⟨by omega,h2⟩
   ·exact h.elim
  ·exact h.elim
 case entry x=>
  simp only[VYK] at h ⊢
  rw[← he x (by simp[Op.operands])]
  unfold mT at h ⊢
  split at h
  ·rename_i i since stepped seen _
   split at h
   ·rename_i e1 e2
    split at h
    ·rename_i e3
     obtain⟨⟨h1,h0⟩,h2⟩:=h
     rw[hb _ h1];simp only[e1,e2,e3];exact⟨⟨by omega,h0⟩,h2⟩
    ·exact h.elim
   ·exact h.elim
  ·exact h.elim
 case call c=>
  obtain⟨callee,args,ts⟩:=c
  cases callee with
  |value f=>
   simp only[VYK] at h ⊢
   rw[← he f (by simp[Op.operands,Call.operands]),← marr args fun x hx=>he x (by simp[Op.operands,Call.operands,hx])]
   unfold qh at h ⊢
   split at h
   ·split at h
    ·rename_i e1;simp only[l0 (fun _ _=>vu hn hb) e1];exact h
    ·exact h.elim
   ·split at h
    ·rename_i e1 e2 e3
     simp only[l0 (fun _ _=>vu hn hb) e1,l0 (fun _ _=>vu hn hb) e2,l0 (fun _ _=>vu hn hb) e3];exact h
    ·exact h.elim
   ·exact h.elim
  |invoke r m=>exact h.elim
  |builtin b=>
   cases b<;>first | (simp[dw] at hm0;done) | skip
   case append=>
    by_cases hgh:y4 tr dst=true
    ·simp only[VYK,if_pos hgh] at h ⊢
     by_cases hho:wJ tr dst=true
     ·rw[if_pos hho] at h ⊢
      unfold u5 at h ⊢
      split at h
      ·rename_i t y d ha
       have ht:s.fr t=s'.fr t:=by
        have:=he (.tmp t) (by simp only[Op.operands,Call.operands];rw[en];exact cA.1 (by rw[ha];simp))
        simpa[ev] using this
       have hy:ev G s y=ev G s' y:=he y (by simp only[Op.operands,Call.operands];rw[en];exact cA.1 (by rw[ha];simp))
       rw[← ht,← yK d rfl,← hy]
       split at h
       ·exact⟨h.1,IL hn hb h.2⟩
       ·exact h.elim
      ·exact h.elim
     ·rw[if_neg hho] at h ⊢
      unfold jC at h ⊢
      split at h
      ·rename_i t y d ha
       have ht:s.fr t=s'.fr t:=by
        have:=he (.tmp t) (by simp only[Op.operands,Call.operands];rw[en];exact cA.1 (by rw[ha];simp))
        simpa[ev] using this
       have hy:ev G s y=ev G s' y:=he y (by simp only[Op.operands,Call.operands];rw[en];exact cA.1 (by rw[ha];simp))
       rw[← ht,← yK d rfl,← hy]
       split at h
       ·exact⟨h.1,MU hn hb h.2⟩
       ·exact⟨h.1,zD hn hb h.2⟩
       ·exact⟨h.1,zD hn hb h.2⟩
       ·exact h.elim
      ·exact h.elim
    simp only[VYK,if_neg hgh] at h ⊢
    have hh:(args.toList.map fun x=>vw s' (ev G s' x))=args.toList.map fun x=>vw s' (ev G s x):=ct fun x hx=>by rw[he x (by simp only[Op.operands,Call.operands];simpa using hx)]
    rw[hh]
    unfold eE at h ⊢
    split at h<;>first | cases ‹Builtin.append=_› | skip
    ·rename_i t t' x y nZ cv
     obtain⟨X,Y,hX,rfl,rfl⟩:∃ X Y,args.toList=[X,Y]∧x=vw s (ev G s X)∧y=vw s (ev G s Y):=by
      cases ha:args.toList with
      |nil=>simp[ha] at cv
      |cons X l=>
       cases l with
       |nil=>simp[ha] at cv
       |cons Y l=>simp only[ha,aL,bO,dV] at cv;exact⟨X,Y,by rw[cv.2.2],cv.1.symm,cv.2.1.symm⟩
     rw[hX,nZ]
     simp only[aL,bE]
     have fU:∀ u K',¬ dX P t .un u K':=fun u K' h=>by simp[dX] at h
     have ag3:∀ u K',¬ dX P t u V.un K':=fun u K' h=>by
      unfold dX at h
      split at h
      ·split at h
       ·exact h.2.elim
       ·exact h.elim
      ·exact h.elim
     rcases tc hn hb (ev G s X) with e1 | e1
     ·rcases tc hn hb (ev G s Y) with e2 | e2
      ·rw[← e1,← e2];exact h
      ·rw[e2] at h
       split at h
       ·exact(ag3 _ _ h).elim
       ·unfold pG at h;simp[V.fz] at h
     ·rw[e1] at h
      split at h
      ·exact(fU _ _ h).elim
      ·unfold pG at h
       split at h
       ·split at h
        ·exact(fU _ _ h.2).elim
        ·exact h.elim
       ·exact h.elim
    ·exact h.elim
theorem PV {s':S} {e:Ef} (yK:∀ d,o.dst=some d→s.fr d=s'.fr d) (hm:dw tr o=1) (he:∀ x∈o.op.operands,ev G s x=ev G s' x) (hn:s.nb≤s'.nb) (hb:∀ i,i<s.nb→s'.bx i=s.bx i) (h:VEf P G tr o s e):VEf P G tr o s' e:=by
 unfold VEf at h ⊢
 split at h
 ·rename_i bZ;simp[dw,bZ] at hm
 ·rename_i bZ;simp[dw,bZ] at hm
 ·rename_i bZ;simp[dw,bZ] at hm
 ·rename_i bZ;simp only[dw,bZ] at hm;split at hm<;>cases hm
 ·rename_i bZ;simp[dw,bZ] at hm
 ·rename_i f args ts bZ
  split at h
  ·rename_i hmu;simp[dw,bZ,hmu] at hm
  ·rename_i hmu
   rw[if_neg hmu]
   obtain⟨v,h1,h2⟩:=h
   refine⟨v,h1,?_⟩
   unfold VYQ at h2 ⊢
   split
   ·rename_i Ml
    rw[if_pos Ml] at h2
    have:args.toList.map (ev G s)=args.toList.map (ev G s'):=ct fun x hx=>he x (by rw[bZ];simp only[Op.operands,Call.operands];simp at hx;simp[hx])
    rw[← he f (by rw[bZ];simp[Op.operands,Call.operands]),← this]
    exact xM hn hb h2
   ·rename_i Ml
    rw[if_neg Ml] at h2
    exact vz yK he hn hb hm h2
 ·rename_i T X bZ
  obtain⟨v,h1,h2,h3⟩:=h
  exact⟨v,h1,by rw[← he X (by rw[bZ];simp[Op.operands])];exact h2,vz yK he hn hb hm h3⟩
 ·rename_i bZ;simp[dw,bZ] at hm
 ·rename_i bZ;simp[dw,bZ] at hm
 ·rename_i bZ;simp[dw,bZ] at hm
 ·rename_i bZ;simp[dw,bZ] at hm
 ·rename_i bZ
  split at h
  ·exact h.elim
  rename_i gv
  rw[if_neg gv]
  split at h
  ·rename_i hr;simp[dw,bZ,hr] at hm
  ·rename_i hr
   rw[if_neg hr]
   obtain⟨v,h1,h2⟩:=h
   exact⟨v,h1,vz yK he hn hb hm h2⟩
 ·rename_i bZ;simp[dw,bZ] at hm
 ·obtain⟨v,h1,h2⟩:=h
  exact⟨v,h1,vz yK he hn hb hm h2⟩
theorem Dy {x y:Oper} (h:vt tr x y=true):dw tr x=1∧∀ (q:S) (f:Ef),VEf P G tr y q f→q.nb≤f.nb q.nb∧∀ i,i<q.nb→f.bx q.nb q.bx i=q.bx i:=by
 unfold vt at h
 simp only[aG,ko] at h
 refine⟨h.1,fun q f hf=>?_⟩
 have h2:=h.2
 have al:(∃ cs,f=.al cs)→q.nb≤f.nb q.nb∧∀ i,i<q.nb→f.bx q.nb q.bx i=q.bx i:=by
  rintro⟨cs,rfl⟩
  exact⟨Nat.le_succ _,fun i hi=>cZ _ _ (by omega)⟩
 split at h2
 ·rename_i bZ
  unfold VEf at hf;rw[bZ] at hf
  simp only at hf
  split at hf
  ·exact al ⟨_,hf⟩
  ·exact hf.elim
 ·rename_i bZ
  unfold VEf at hf;rw[bZ] at hf
  simp only at hf
  split at hf
  ·exact al ⟨_,hf⟩
  ·exact hf.elim
 ·rename_i bZ
  unfold VEf at hf;rw[bZ] at hf
  simp only[h2,cJ] at hf
  obtain⟨bx,nb,x,rfl,hv⟩:=hf
  unfold cy at hv
  split at hv
  ·split at hv
   ·obtain⟨_,hv⟩:=hv
    split at hv
    ·simp only[y5] at hv
     split at hv
     ·obtain⟨⟨rfl,rfl⟩,_⟩:=hv
      exact⟨Nat.le_succ _,fun i hi=>cZ _ _ (by omega)⟩
     ·exact hv.elim
    ·exact hv.elim
   ·exact hv.elim
  ·exact hv.elim
 ·cases h2
theorem TEf.keep {x y:Oper} {e f:Ef} (tY:FX tr ops x y) (hx:TEf P G tr ops x s e) (hy:TEf P G tr ops y s f):TEf P G tr ops x (f.run tr y s) e:=by
 have hl:∀ t∈x.looksAt ops,s.fr t=(f.run tr y s).fr t:=fun t ht=>by
  rw[rY]
  simp only
  rw[fC (fun hw=>tY.yx t hw ht)]
 have yK:∀ d,x.dst=some d→s.fr d=(f.run tr y s).fr d:=fun d hd=>by
  rw[rY]
  simp only
  rw[fC (tY.ww d (by simp[wr,hd]))]
 by_cases u3:ml tr x y=true
 ·obtain⟨q1,q2⟩:=F2 u3 hy
  exact PU u3 hl q2 q1 hx
 by_cases UJ:oe x y=true
 ·obtain⟨T,m,k,O7,EZ⟩:=qS UJ
  rcases hy with⟨_,hv,_⟩ | ⟨_,rfl⟩
  ·rcases hx with⟨hg,hw,gv⟩ | ⟨hg,he⟩
   ·refine .inl ⟨by rw[← jD hl];exact hg,?_,gv⟩
    unfold VEf at hv hw ⊢
    rw[EZ] at hv
    rw[O7] at hw ⊢
    obtain⟨bx,u,rfl,hv⟩:=hv
    obtain⟨v,rfl,hw⟩:=hw
    refine⟨v,rfl,?_⟩
    obtain⟨dst,op,type,pos,after,guard⟩:=x
    simp only at O7;subst O7
    simp only[VYK] at hw ⊢
    have e1:ev G ((Ef.gn bx s.nb u).run tr y s) (.tmp m)=ev G s (.tmp m):=(hl m (jE (x:=.tmp m) (by simp[Op.operands]) rfl)).symm
    have e2:ev G ((Ef.gn bx s.nb u).run tr y s) (.tmp k)=ev G s (.tmp k):=(hl k (jE (x:=.tmp k) (by simp[Op.operands]) rfl)).symm
    rw[e1,e2]
    exact xP (bx':=bx) (u:=u) (rV (oN hv) fun s' u' e=>⟨by rw[← e.1],e.2⟩) hw rfl rfl
   ·exact .inr ⟨by rw[← jD hl];exact hg,he⟩
  ·exact ta yK hl (fun _=>⟨rfl,rfl⟩) hx
 by_cases hra:vt tr x y=true
 ·obtain⟨h1,h2⟩:=Dy hra
  rcases hx with⟨hg,hw,gv⟩ | ⟨hg,he⟩
  ·refine .inl ⟨by rw[← jD hl];exact hg,?_,gv⟩
   have hf:s.nb≤f.nb s.nb∧∀ i,i<s.nb→f.bx s.nb s.bx i=s.bx i:=by
    rcases hy with⟨_,hv,_⟩ | ⟨_,rfl⟩
    ·exact h2 _ _ hv
    ·exact⟨ae _,fun _ _=>rfl⟩
   exact PV yK h1 (fun q hq=>zw fun t ht=>hl t (jE hq ht)) hf.1 hf.2 hw
  ·exact .inr ⟨by rw[← jD hl];exact hg,he⟩
 ·refine ta yK hl (fun hm=>?_) hx
  have hq:=s0 hy (fun h=>hm ((tY.my h).resolve_right (fun h=>by rcases h with h | h | h;exact u3 h;exact UJ h;exact hra h)))
  obtain⟨q1,q2,_⟩:=lZ hq s.bx s.nb 0
  exact⟨q1.symm,q2.symm⟩
theorem TEf.back {x y:Oper} {e f:Ef} (tY:FX tr ops x y) (hx:TEf P G tr ops x s e) (hy:TEf P G tr ops y (e.run tr x s) f):TEf P G tr ops y s f:=by
 have hl:∀ t∈y.looksAt ops,(e.run tr x s).fr t=s.fr t:=fun t ht=>by
  rw[rY]
  simp only
  rw[fC (fun hw=>tY.xy t hw ht)]
 have yK:∀ d,y.dst=some d→(e.run tr x s).fr d=s.fr d:=fun d hd=>by
  rw[rY]
  simp only
  rw[fC (fun hw=>tY.ww d hw (by simp[wr,hd]))]
 by_cases u3:ml tr y x=true
 ·obtain⟨q1,q2⟩:=F2 u3 hx
  exact PU u3 hl (fun d b h1 h2 h3=>(q2 d b h1 h2 h3).symm) q1.symm hy
 by_cases UJ:oe y x=true
 ·obtain⟨T,m,k,O7,EZ⟩:=qS UJ
  rcases hx with⟨_,hv,_⟩ | ⟨_,rfl⟩
  ·rcases hy with⟨hg,hw,gv⟩ | ⟨hg,he⟩
   ·refine .inl ⟨by rw[← jD hl];exact hg,?_,gv⟩
    unfold VEf at hv hw ⊢
    rw[EZ] at hv
    rw[O7] at hw ⊢
    obtain⟨bx,u,rfl,hv⟩:=hv
    obtain⟨v,rfl,hw⟩:=hw
    refine⟨v,rfl,?_⟩
    obtain⟨dst,op,type,pos,after,guard⟩:=y
    simp only at O7;subst O7
    simp only[VYK] at hw ⊢
    have e1:ev G ((Ef.gn bx s.nb u).run tr x s) (.tmp m)=ev G s (.tmp m):=hl m (jE (x:=.tmp m) (by simp[Op.operands]) rfl)
    have e2:ev G ((Ef.gn bx s.nb u).run tr x s) (.tmp k)=ev G s (.tmp k):=hl k (jE (x:=.tmp k) (by simp[Op.operands]) rfl)
    rw[e1,e2] at hw
    have hE:=rV (oN hv) (K':=fun s' u'=>bx=s'.bx∧u=u') fun s' u' e=>⟨by rw[← e.1],e.2⟩
    obtain⟨w,hw0⟩:=zC hE
    have:=xP (s':=(Ef.gn bx s.nb u).run tr x s) hE hw0 rfl rfl
    rw[xK hw this];exact hw0
   ·exact .inr ⟨by rw[← jD hl];exact hg,he⟩
  ·exact ta yK hl (fun _=>⟨rfl,rfl⟩) hy
 ·refine ta yK hl (fun hm=>?_) hy
  have hq:=s0 hx (fun h=>hm ((tY.mx h).resolve_right (fun h=>by rcases h with h | h;exact u3 h;exact UJ h)))
  obtain⟨q1,q2,_⟩:=lZ hq s.bx s.nb 0
  exact⟨q1,q2⟩
theorem rZ {x y:Oper} {e f:Ef} (tY:FX tr ops x y) (hx:TEf P G tr ops x s e) (hy:TEf P G tr ops y s f):f.run tr y (e.run tr x s)=e.run tr x (f.run tr y s):=by
 simp only[rY]
 by_cases h2:dw tr x=2
 ·have hq:=s0 hy (fun h=>by
   rcases tY.mx h2 with h' | h' | h'
   ·rw[h'] at h;cases h
   ·rw[FZ h'] at h;cases h
   ·rw[(F3 (tr:=tr) h').1] at h;cases h)
  obtain⟨q1,q2,q3⟩:=lZ hq (e.bx s.nb s.bx) (e.nb s.nb) s.nb
  obtain⟨r1,r2,_⟩:=lZ hq s.bx s.nb s.nb
  rw[q1,q2,q3,r1,r2,zy tY.ww]
 ·have hq:=s0 hx h2
  obtain⟨q1,q2,q3⟩:=lZ hq (f.bx s.nb s.bx) (f.nb s.nb) s.nb
  obtain⟨r1,r2,_⟩:=lZ hq s.bx s.nb s.nb
  rw[q1,q2,q3,r1,r2,zy tY.ww]
def FreeAt (tr:List Nat) (md:Region.Mode) (ops:Array Oper) (listed:Array Bool) (i:Nat) (oi:Oper):Prop:=
 ∃ B:List Nat,(∀ j∈B,listed.getD j true=false∧∃ oj,ops[j]?=some oj∧∃ e∈oj.after,Region.binds md e=true∧(e.on=i∨e.on∈B))∧
  ∀ j oj,ops[j]?=some oj→j≠i→listed.getD j true=false→j∉B→Dx tr ops oi oj=true
theorem FreeAt.step {md:Region.Mode} {listed:Array Bool} {i j:Nat} {oi oj:Oper} (h:FreeAt tr md ops listed i oi) (hr:i∈Region.ready md ops listed) (hj:j∈Region.ready md ops listed) (oI:j≠i) (tN:ops[j]?=some oj) :
 FX tr ops oi oj∧FreeAt tr md ops (listed.setIfInBounds j true) i oi:=by
 obtain⟨B,hB,rJ⟩:=h
 obtain⟨aeH,oj',Up,dh⟩:=iu.1 hj
 rw[tN] at Up;cases Up
 have XK:∀ q,listed.getD q true=false→∀ e∈oj.after,Region.binds md e=true→e.on≠q:=fun q h0 e he hb lx=>by
  have h1:=dh e he hb
  rw[lx] at h1
  rcases cN q listed.size with h' | h'
  ·simp[h'] at h0 h1;rw[h0] at h1;cases h1
  ·simp[cV h'] at h1
 have hjB:j∉B:=fun hjB=>by
  obtain⟨_,oj',Up,e,he,hb,Ur⟩:=hB j hjB
  rw[tN] at Up;cases Up
  rcases Ur with Ur | Ur
  ·exact XK i (iu.1 hr).1 e he hb Ur
  ·exact XK _ (hB _ Ur).1 e he hb rfl
 refine⟨FY (rJ j oj tN oI aeH hjB),B,fun b hb=>?_,fun k ok hk hki XK fU=>?_⟩
 ·have XL:j≠b:=fun h=>hjB (by rw[h];exact hb)
  exact⟨by rw[kX true XL];exact(hB b hb).1,(hB b hb).2⟩
 ·refine rJ k ok hk hki ?_ fU
  by_cases hjk:j=k
  ·subst hjk;exact aeH
  ·rw[kX true hjk] at XK;exact XK
theorem ux {K:S→Prop} {i:Nat} {oi:Oper} {e:Ef} (hi:ops[i]?=some oi) :
 ∀ (fuel:Nat) (listed:Array Bool) (s:S),FreeAt tr md ops listed i oi→
  i∈Region.ready md ops listed→TEf P G tr ops oi s e→
  Dw P G tr md ops K fuel (listed.setIfInBounds i true) (e.run tr oi s)→Dw P G tr md ops K (fuel+1) listed s:=by
 intro fuel
 induction fuel with
 |zero=>
  intro listed s _ hr hy H
  refine⟨fun h=>(by rw[h] at hr;cases hr),fun j hj=>?_⟩
  by_cases oI:j=i
  ·subst oI;unfold oO;simp only[hi];exact⟨e,hy,H⟩
  ·have:=jI hj oI
   rw[H.1] at this
   cases this
 |succ fuel ih=>
  intro listed s rJ hr hy H
  refine⟨fun h=>(by rw[h] at hr;cases hr),fun j hj=>?_⟩
  by_cases oI:j=i
  ·subst oI;unfold oO;simp only[hi];exact⟨e,hy,H⟩
  ·have h1:=H.2 j (jI hj oI)
   obtain⟨_,oj,tN,_⟩:=iu.1 hj
   obtain⟨tY,rl⟩:=rJ.step hr hj oI tN
   unfold oO at h1 ⊢
   simp only[tN] at h1 ⊢
   obtain⟨f,hf,hK⟩:=h1
   have yp:=hy.back tY hf
   refine⟨f,yp,ih (listed.setIfInBounds j true) _ rl (jI hr (fM oI)) (hy.keep tY yp) ?_⟩
   rw[gB _ _ oI,← rZ tY hy yp]
   exact hK
def td (ops:Array Oper) (listed:Array Bool) (i:Nat):List Nat→List Nat→List Nat
 |[],B=>B
 |j::r,B=>td ops listed i r (match ops[j]? with
  |some oj=>if(!listed.getD j true)&&(oj.after.any fun e=>Region.binds .any e&&(e.on==i||B.contains e.on)) then j::B else B
  |none=>B)
theorem vA {ops:Array Oper} {listed:Array Bool} {i:Nat}:∀ (l B:List Nat),(∀ j∈B,listed.getD j true=false∧∃ oj,ops[j]?=some oj∧∃ e∈oj.after,Region.binds .any e=true∧(e.on=i∨e.on∈B))→
 ∀ j∈td ops listed i l B,listed.getD j true=false∧∃ oj,ops[j]?=some oj∧∃ e∈oj.after,Region.binds .any e=true∧(e.on=i∨e.on∈td ops listed i l B)
 |[],_,h=>h
 |k::r,B,h=>by
  unfold td
  refine vA r _ ?_
  split
  ·rename_i oj tN
   split
   ·rename_i hc
    simp only[aG,eb] at hc
    obtain⟨h1,h2⟩:=hc
    rw[Array.any_eq_true'] at h2
    obtain⟨e,he,h3⟩:=h2
    simp only[aG,dF,ko,gY,bi] at h3
    intro j hj
    rcases bw.1 hj with rfl | hj
    ·exact⟨h1,oj,tN,e,he,h3.1,h3.2.imp id (aM _)⟩
    ·obtain⟨a,b,c,d,hd,f,g⟩:=h j hj
     exact⟨a,b,c,d,hd,f,g.imp id (aM _)⟩
   ·exact h
  ·exact h
def F4 (tr:List Nat) (ops:Array Oper) (listed:Array Bool) (i:Nat):Bool:=
 match ops[i]? with
 |none=>true
 |some oi=>(fun B=>(List.range ops.size).all fun j=>match ops[j]? with
  |none=>true
  |some oj=>j==i||listed.getD j true||List.contains B j||Dx tr ops oi oj) (td ops listed i (List.range ops.size) [])
theorem kG {i:Nat} {oi:Oper} {listed:Array Bool} (hi:ops[i]?=some oi) (h:F4 tr ops listed i=true):FreeAt tr .any ops listed i oi:=by
 unfold F4 at h
 simp only[hi,aW,cO] at h
 refine⟨td ops listed i (List.range ops.size) [],vA _ _ (fun _ h=>by cases h),fun j oj hj oI hl fU=>?_⟩
 have bF:j<ops.size:=(be.1 hj).1
 have:=h j bF
 simp only[hj,hl,dF,ko,oI,false_or,aS,gY,bi] at this
 exact this.resolve_left fU
def sa (tr:List Nat) (ops:Array Oper):Nat→Nat→Array Bool→Bool
 |0,_,listed=>(Region.ready .any ops listed).isEmpty
 |fuel+1,k,listed=>(Region.ready .any ops listed).contains k&&F4 tr ops listed k&&sa tr ops fuel (k+1) (listed.setIfInBounds k true)
def BG (tr:List Nat) (ops:Array Oper):List Nat→Array Bool→Bool
 |[],listed=>(Region.ready .any ops listed).isEmpty
 |k::r,listed=>(Region.ready .any ops listed).contains k&&F4 tr ops listed k&&BG tr ops r (listed.setIfInBounds k true)
def kq (tr:List Nat) (ops:Array Oper):List Nat→Array Bool→Option (Array Bool)
 |[],listed=>some listed
 |k::r,listed=>if(Region.ready .any ops listed).contains k&&F4 tr ops listed k then kq tr ops r (listed.setIfInBounds k true) else none
def jS (ops:Array Oper) (ks:List Nat):List Oper:=ks.filterMap fun k=>ops[k]?
theorem wU {K:S→Prop}:∀ (ks:List Nat) (listed:Array Bool) (s:S),(∀ k∈ks,∃ o,ops[k]?=some o∧li tr o=false)→
 BG tr ops ks listed=true→eJ P G tr ops (jS ops ks) s K→Dw P G tr .any ops K ks.length listed s
 |[],_,_,_,hB,h=>⟨by simpa[BG] using hB,h⟩
 |k::r,listed,s,hA,hB,h=>by
  obtain⟨o,ho,wB⟩:=hA k (aT ..)
  simp only[BG,aG] at hB
  obtain⟨⟨hr,hf⟩,hB'⟩:=hB
  simp only[jS,eP,ho,eJ] at h
  obtain⟨e,he,hK⟩:=fK (K:=fun s'=>eJ P G tr ops (jS ops r) s' K) wB h
  exact ux ho r.length listed s (kG ho hf) (by simpa using hr) he
   (wU r _ _ (fun k hk=>hA k (aM _ hk)) hB' hK)
theorem F5 {K K0:S→Prop} (m:Nat) (kf:Array Bool) (Uq:∀ s',K0 s'→Dw P G tr .any ops K m kf s'):∀ (ks:List Nat) (listed:Array Bool) (s:S),(∀ k∈ks,∃ o,ops[k]?=some o∧li tr o=false)→
 kq tr ops ks listed=some kf→eJ P G tr ops (jS ops ks) s K0→Dw P G tr .any ops K (m+ks.length) listed s
 |[],listed,s,_,hB,h=>by simp only[kq,am] at hB;subst hB;exact Uq _ h
 |k::r,listed,s,hA,hB,h=>by
  obtain⟨o,ho,wB⟩:=hA k (aT ..)
  unfold kq at hB
  split at hB
  ·rename_i hc
   simp only[aG] at hc
   obtain⟨hr,hf⟩:=hc
   simp only[jS,eP,ho,eJ] at h
   obtain⟨e,he,hK⟩:=fK (K:=fun s'=>eJ P G tr ops (jS ops r) s' K0) wB h
   have:=ux ho (m+r.length) listed s (kG ho hf) (by simpa using hr) he
    (F5 m kf Uq r _ _ (fun k hk=>hA k (aM _ hk)) hB hK)
   simpa[db] using this
  ·cases hB
def BH (tr:List Nat) (ops:Array Oper):Bool:=ops.toList.all (fun o=>!li tr o)&&match kq tr ops (List.range (j9 ops)) (Array.replicate ops.size false) with
 |some listed=>(Region.ready .any ops listed).all (fun k=>k==j9 ops||k==j9 ops+1)&&(Region.ready .any ops listed).contains (j9 ops)&&decide (j9 ops+1<ops.size)&&
   BG tr ops ((List.range ops.size).drop (j9 ops+1)) (listed.setIfInBounds (j9 ops) true)&&BG tr ops (j9 ops::(List.range ops.size).drop (j9 ops+2)) (listed.setIfInBounds (j9 ops+1) true)
 |none=>false
theorem oS (i m:Nat) (h:i+m≤ops.size):jS ops (List.range' i m)=(ops.toList.drop i).take m:=by
 induction m generalizing i with
 |zero=>simp[jS]
 |succ m ih=>
  have hi:i<ops.size:=by omega
  have ih':=ih (i+1) (by omega)
  unfold jS at ih' ⊢
  have hd:ops.toList.drop i=ops[i]::ops.toList.drop (i+1):=by
   rw[cE (by simpa using hi)];simp
  rw[gr,eP,ay hi,hd,fe]
  simp only
  rw[ih']
theorem sb (dI:jJ n ops=true) (uo:BH tr ops=true) {K:S→Prop} (hK:∀ a w s,K s→SE G n I0 M w0 s a w→Q .normal a w)
 (h:Fc P G tr ops s K) (cw:SE G n I0 M w0 s a w):wpAny P .any ops Q ops.size (Array.replicate ops.size false) a { w with drawn:=w.drawn+1 }:=by
 unfold BH at uo
 simp only[aG,aW,eb] at uo
 obtain⟨hA,uo⟩:=uo
 have UG:∀ k,k<ops.size→∃ o,ops[k]?=some o∧li tr o=false:=fun k hk=>⟨ops[k],ay hk,hA _ (by simp)⟩
 split at uo
 ·rename_i listed uW
  simp only[aG,bi] at uo
  obtain⟨⟨⟨⟨dh,jG⟩,dR⟩,hl1⟩,YO⟩:=uo
  generalize hi:j9 ops=i at *
  unfold Fc at h
  rw[hi] at h
  have hr0:List.range i=List.range' 0 i:=d6
  have H5:jS ops (List.range i)=ops.toList.take i:=by
   rw[hr0,oS 0 i (by omega)];rfl
  have ag5:(List.range ops.size).drop (i+1)=List.range' (i+1) (ops.size - (i+1)):=by
   rw[d6,List.drop_range'];simp
  have ag6:(List.range ops.size).drop (i+2)=List.range' (i+2) (ops.size - (i+2)):=by
   rw[d6,List.drop_range'];simp
  have hci:ops.toList.drop i=ops[i]::ops[i+1]::ops.toList.drop (i+2):=by
   rw[cE (by simp;omega),cE (i:=i+1) (by simp;omega)];simp
  have Kg:jS ops ((List.range ops.size).drop (i+1))=ops[i+1]::ops.toList.drop (i+2):=by
   rw[ag5,oS _ _ (by omega)]
   rw[dM (by simp),cE (by simp;omega)];simp
  have hn2:jS ops ((List.range ops.size).drop (i+2))=ops.toList.drop (i+2):=by
   rw[ag6,oS _ _ (by omega)]
   exact dM (by simp)
  have key:Dw P G tr .any ops K ((ops.size - (i+1)+1)+(List.range i).length) (Array.replicate ops.size false) s:=by
   rw[← H5] at h
   refine F5 _ listed (fun s' wF=>?_) (List.range i) _ s (fun k hk=>UG k (by have:=cO.1 hk;omega)) uW h
   obtain⟨h1,h2⟩:=wF
   rw[hci] at h1 h2
   simp only[X2] at h2
   refine⟨fun h0=>(by rw[h0] at jG;cases jG),fun k hk=>?_⟩
   have Mn:=aW.1 dh k hk
   simp only[dF,ko] at Mn
   obtain⟨oi,hoi,hAi⟩:=UG i (by omega)
   obtain⟨oj,tN,hAj⟩:=UG (i+1) dR
   rcases Mn with rfl | rfl
   ·unfold oO
    simp only[hoi]
    rw[show ops[k]=oi from by rw[ay (by omega)] at hoi;simpa using hoi] at h1
    simp only[eJ] at h1
    obtain⟨e,he,hK'⟩:=fK (K:=fun s'=>eJ P G tr ops (ops[k+1]::ops.toList.drop (k+2)) s' K) hAi h1
    refine⟨e,he,?_⟩
    have:=wU (K:=K) ((List.range ops.size).drop (k+1)) (listed.setIfInBounds k true) _ (fun q hq=>UG q (by have:=cO.1 (cK hq);exact this)) hl1 (by rw[Kg];exact hK')
    simpa using this
   ·unfold oO
    simp only[tN]
    rw[show ops[i+1]=oj from by rw[ay dR] at tN;simpa using tN] at h2
    simp only[eJ] at h2
    obtain⟨e,he,hK'⟩:=fK (K:=fun s'=>eJ P G tr ops (ops[i]::ops.toList.drop (i+2)) s' K) hAj h2
    refine⟨e,he,?_⟩
    have:=wU (K:=K) (i::(List.range ops.size).drop (i+2)) (listed.setIfInBounds (i+1) true) _ (fun q hq=>UG q (by
     rcases bw.1 hq with rfl | hq
     ·omega
     ·exact cO.1 (cK hq))) YO (by
     unfold jS
     rw[eP,ay (show i<ops.size by omega)]
     simp only
     have:=hn2
     unfold jS at this
     rw[this];exact hK')
    have e1:(i::(List.range ops.size).drop (i+2)).length=ops.size - (i+1):=by simp;omega
    rw[e1] at this;exact this
  have m5:SE G n I0 M w0 s a { w with drawn:=w.drawn+1 }:=by
   obtain⟨I,β,ob,hst⟩:=cw
   exact⟨I,β,ob,hst.drew⟩
  have e2:(ops.size - (i+1)+1)+(List.range i).length=ops.size:=by simp;omega
  rw[e2] at key
  exact oR dI hK _ _ _ _ _ key m5
 ·cases uo
def wV (tr:List Nat) (ops:Array Oper):Bool:=ops.toList.all (fun o=>!li tr o)&&sa tr ops ops.size 0 (Array.replicate ops.size false)
theorem F6 {K:S→Prop}:∀ (l:List Oper) (k:Nat) (listed:Array Bool) (s:S),(∀ o∈l,li tr o=false)→(∀ j,l[j]?=ops[k+j]?)→
 sa tr ops l.length k listed=true→eJ P G tr ops l s K→Dw P G tr .any ops K l.length listed s
 |[],_,_,_,_,_,hB,h=>⟨by simpa[sa] using hB,h⟩
 |o::l,k,listed,s,hA,hl,hB,h=>by
  have h0:ops[k]?=some o:=by simpa using(hl 0).symm
  simp only[aB,sa,aG] at hB
  obtain⟨⟨hr,hf⟩,hB'⟩:=hB
  simp only[eJ] at h
  obtain⟨e,he,hK⟩:=fK (K:=fun s'=>eJ P G tr ops l s' K) (hA o (aT ..)) h
  exact ux h0 l.length listed s (kG h0 hf) (by simpa using hr) he
   (F6 l (k+1) _ _ (fun o ho=>hA o (aM _ ho)) (fun j=>by have:=hl (j+1);simpa[db,lc 1 j] using this) hB' hK)
theorem rx (dI:jJ n ops=true) (uo:wV tr ops=true) {K:S→Prop} (hK:∀ a w s,K s→SE G n I0 M w0 s a w→Q .normal a w)
 (h:eJ P G tr ops ops.toList s K) (cw:SE G n I0 M w0 s a w):wpAny P .any ops Q ops.size (Array.replicate ops.size false) a { w with drawn:=w.drawn+1 }:=by
 simp only[wV,aG,aW,eb] at uo
 have h1:=F6 (K:=K) ops.toList 0 (Array.replicate ops.size false) s uo.1 (by simp) (by simpa using uo.2) h
 have m5:SE G n I0 M w0 s a { w with drawn:=w.drawn+1 }:=by
  obtain⟨I,β,ob,hst⟩:=cw
  exact⟨I,β,ob,hst.drew⟩
 have:=oR dI hK _ _ _ _ _ h1 m5
 simpa using this
theorem wW {id:Nat} (hm:P.follows .mixedOrders=true) (dI:jJ n ops=true) (uo:BH tr ops=true) {K:S→Prop} (hK:∀ a w s,K s→SE G n I0 M w0 s a w→Q .normal a w)
 (h:Fc P G tr ops s K) (cw:SE G n I0 M w0 s a w):(Code.region id ops true).wp P Q a w:=wp_region_any hm (sb dI uo hK h cw)
theorem vB {id:Nat} (hm:P.follows .mixedOrders=true) (dI:jJ n ops=true) (uo:wV tr ops=true) {K:S→Prop} (hK:∀ a w s,K s→SE G n I0 M w0 s a w→Q .normal a w)
 (h:eJ P G tr ops ops.toList s K) (cw:SE G n I0 M w0 s a w):(Code.region id ops true).wp P Q a w:=wp_region_any hm (rx dI uo hK h cw)
def xQ (P:Program) (G:Gl) (tr:List Nat) (ops:Array Oper) (L1:Array Bool) (K0:S→Prop):Nat→Array Bool→S→Prop
 |0,listed,s=>listed=L1∧K0 s
 |fuel+1,listed,s=>Region.ready .any ops listed≠[]∧∀ i∈Region.ready .any ops listed,oO P G tr ops i (xQ P G tr ops L1 K0 fuel (listed.setIfInBounds i true)) s
def vC (ops:Array Oper) (m:Nat):Bool:=(List.range ops.size).all fun j=>decide (j<m)||match ops[j]? with
 |some o=>(List.range m).all fun k=>o.after.any fun e=>Region.binds .any e&&(e.on==k)
 |none=>true
theorem Dz {m:Nat} (h:vC ops m=true) {j k:Nat} {oj:Oper} (hj:ops[j]?=some oj) (hm:m≤j) (hk:k<m):∃ e∈oj.after,Region.binds .any e=true∧e.on=k:=by
 unfold vC at h
 rw[aW] at h
 have h1:=h j (cO.2 (be.1 hj).1)
 simp only[hj,dF,bi] at h1
 have h2:=aW.1 (h1.resolve_left (by omega)) k (cO.2 hk)
 rw[Array.any_eq_true'] at h2
 obtain⟨e,he,h3⟩:=h2
 simp only[aG,ko] at h3
 exact⟨e,he,h3.1,h3.2⟩
theorem zF {m q j:Nat} (h:(n0 m q).getD j true=false):m≤j:=by
 rcases cN j m with hj | hj
 ·exfalso
  unfold n0 at h
  rw[ao,cM,aC (by simpa using hj)] at h
  simp[hj] at h
 ·exact hj
theorem BI {m q j:Nat} (h:(n0 m q).getD j false=true):j<m:=by
 rcases cN j m with hj | hj
 ·exact hj
 ·exfalso
  unfold n0 at h
  rw[ao,cM,aJ (by simpa using hj),List.getElem?_replicate] at h
  split at h<;>simp at h
theorem F7 {K0:S→Prop} {m:Nat} (O6:vC ops m=true) {i:Nat} {oi:Oper} {e:Ef} (hi:ops[i]?=some oi) :
 ∀ (fuel:Nat) (listed:Array Bool) (s:S),listed.size=ops.size→FreeAt tr .any ops listed i oi→
  i∈Region.ready .any ops listed→TEf P G tr ops oi s e→
  xQ P G tr ops (n0 m ops.size) K0 fuel (listed.setIfInBounds i true) (e.run tr oi s)→xQ P G tr ops (n0 m ops.size) K0 (fuel+1) listed s:=by
 intro fuel
 induction fuel with
 |zero=>
  intro listed s dR _ hr hy H
  refine⟨fun h=>(by rw[h] at hr;cases hr),fun j hj=>?_⟩
  by_cases oI:j=i
  ·subst oI;unfold oO;simp only[hi];exact⟨e,hy,H⟩
  ·exfalso
   obtain⟨XK,oj,tN,dh⟩:=iu.1 hj
   have Y1:i<listed.size:=by rw[dR];exact(be.1 hi).1
   have h1:(n0 m ops.size).getD j true=false:=by rw[← H.1,kX true (fM oI)];exact XK
   have h2:(n0 m ops.size).getD i false=true:=by
    rw[← H.1,ao,Array.getElem?_setIfInBounds_self_of_lt Y1];rfl
   obtain⟨ed,hed,hb,Ur⟩:=Dz O6 tN (zF h1) (BI h2)
   have h3:=dh ed hed hb
   rw[Ur] at h3
   have h4:=(iu.1 hr).1
   rw[ao,ay Y1] at h3 h4
   simp only[bQ] at h3 h4
   rw[h4] at h3;cases h3
 |succ fuel ih=>
  intro listed s dR rJ hr hy H
  refine⟨fun h=>(by rw[h] at hr;cases hr),fun j hj=>?_⟩
  by_cases oI:j=i
  ·subst oI;unfold oO;simp only[hi];exact⟨e,hy,H⟩
  ·have h1:=H.2 j (jI hj oI)
   obtain⟨_,oj,tN,_⟩:=iu.1 hj
   obtain⟨tY,rl⟩:=rJ.step hr hj oI tN
   unfold oO at h1 ⊢
   simp only[tN] at h1 ⊢
   obtain⟨f,hf,hK⟩:=h1
   have yp:=hy.back tY hf
   refine⟨f,yp,ih (listed.setIfInBounds j true) _ (by rw[dc];exact dR) rl (jI hr (fM oI)) (hy.keep tY yp) ?_⟩
   rw[gB _ _ oI,← rZ tY hy yp]
   exact hK
theorem BJ {K0:S→Prop} {m:Nat} (O6:vC ops m=true):∀ (ks:List Nat) (listed:Array Bool) (s:S),listed.size=ops.size→(∀ k∈ks,∃ o,ops[k]?=some o∧li tr o=false)→
 kq tr ops ks listed=some (n0 m ops.size)→eJ P G tr ops (jS ops ks) s K0→xQ P G tr ops (n0 m ops.size) K0 ks.length listed s
 |[],listed,s,_,_,hB,h=>by simp only[kq,am] at hB;exact⟨hB,h⟩
 |k::r,listed,s,dR,hA,hB,h=>by
  obtain⟨o,ho,wB⟩:=hA k (aT ..)
  unfold kq at hB
  split at hB
  ·rename_i hc
   simp only[aG] at hc
   obtain⟨hr,hf⟩:=hc
   simp only[jS,eP,ho,eJ] at h
   obtain⟨e,he,hK⟩:=fK (K:=fun s'=>eJ P G tr ops (jS ops r) s' K0) wB h
   exact F7 O6 ho r.length listed s dR (kG ho hf) (by simpa using hr) he
    (BJ O6 r _ _ (by rw[dc];exact dR) (fun k hk=>hA k (aM _ hk)) hB hK)
  ·cases hB
theorem KH {K:S→Prop} {KW:Act→World→Prop} {i:Nat} {oi:Oper} {e:Ef} (dI:jJ n ops=true) (hi:ops[i]?=some oi) (he:TEf P G tr ops oi s e) (cw:SE G n I0 M w0 s a w)
 (hK:K (e.run tr oi s)) (hKW:∀ a w s,K s→SE G n I0 M w0 s a w→KW a w):wpOp P ops Q i KW a w:=by
 unfold wpOp
 simp only[hi]
 have jG:oi∈ops.toList:=by
  have:=eu hi
  simpa using this
 obtain⟨I,β,ob,hst⟩:=cw
 rcases he with⟨hg,hv,_⟩ | ⟨hg,rfl⟩
 ·rw[if_pos (j6 hst hg)]
  exact .inl (sZ hst (eQ dI jG) hv fun a' w' m5=>hKW _ _ _ hK m5)
 ·rw[j6 hst hg]
  simp only[aS,dm]
  rw[rX] at hK
  exact hKW _ _ _ hK (SE.put hst (eQ dI jG) (by simp only[LR];exact .sk))
theorem sc (dI:jJ n ops=true) {K0:S→Prop} {L1:Array Bool} {r:Nat} (hK:∀ a w s,K0 s→SE G n I0 M w0 s a w→wpAny P .any ops Q r L1 a w):∀ (fuel:Nat) (listed:Array Bool) (s:S) (a:Act) (w:World),
 xQ P G tr ops L1 K0 fuel listed s→SE G n I0 M w0 s a w→wpAny P .any ops Q (r+fuel) listed a w
 |0,listed,_,a,w,h,cw=>by obtain⟨rfl,h⟩:=h;exact hK _ _ _ h cw
 |fuel+1,_,s,a,w,h,cw=>by
  refine⟨fun h0=>absurd h0 h.1,fun i hi=>?_⟩
  have hh:=h.2 i hi
  obtain⟨_,oi,hoi,_⟩:=iu.1 hi
  unfold oO at hh
  simp only[hoi] at hh
  obtain⟨e,he,hh⟩:=hh
  exact KH dI hoi he cw hh fun a w s hs cw=>sc dI hK fuel _ s a w hs cw
def KI (Q:Exit→Act→World→Prop):Exit→Act→World→Prop:=fun e a w=>e=.normal∧Q e a w
theorem wX {Q:Exit→Act→World→Prop}:¬ LetsOut (KI Q):=fun⟨_,_,h,_⟩=>by cases h
theorem A8 {l:Option Nat} {m:Nat} {id:Nat} (hm:P.follows .mixedOrders=true) (pA:zm ops=true) (dI:jJ n ops=true) (uo:BH tr ops=true) {K:S→Prop} (hK:∀ a w s,K s→SE G n I0 M w0 s a w→Q .normal a w)
 (h:Fc P G tr ops s K) (cw:SE G n I0 M w0 s a w):(Code.region id ops true).wpIn (FW l) m P Q a w:=
 wpIn_mono (Q:=KI Q) (wpIn_region_any hm (vn pA wX _ _ _ _ (sb dI uo (fun a w s hk cw=>⟨rfl,hK a w s hk cw⟩) h cw))) (fun _ _ _ h=>h.2)
theorem zG {l:Option Nat} {m:Nat} {id:Nat} (hm:P.follows .mixedOrders=true) (pA:zm ops=true) (dI:jJ n ops=true) (uo:wV tr ops=true) {K:S→Prop} (hK:∀ a w s,K s→SE G n I0 M w0 s a w→Q .normal a w)
 (h:eJ P G tr ops ops.toList s K) (cw:SE G n I0 M w0 s a w):(Code.region id ops true).wpIn (FW l) m P Q a w:=
 wpIn_mono (Q:=KI Q) (wpIn_region_any hm (vn pA wX _ _ _ _ (rx dI uo (fun a w s hk cw=>⟨rfl,hK a w s hk cw⟩) h cw))) (fun _ _ _ h=>h.2)
