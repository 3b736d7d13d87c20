/- Values without memory: regions that draw their order: an operation's effect. -/
import Derived.Test.YtegbpjodbjhjeaaGreatDoorVlCode
import Derived.Orders
set_option linter.all false
namespace Go.Vl
open Go Go.RowKit
section
variable {P:Program} {G:Gl} {tr:List Nat} {s:S} {o:Oper} {x y:V} {K:V→Prop}
theorem xW {op:BinOp} {k:IntKind} {a b:Int} (h:qD op k a b K):∃ v,qD op k a b (fun u=>v=u)∧K v:=by
 cases op<;>simp only[qD] at h ⊢<;>first | exact⟨_,rfl,h⟩ | exact⟨_,⟨h.1,rfl⟩,h.2⟩
theorem NT {op:BinOp} {a b:ByteArray} (h:zZ op a b K):∃ v,zZ op a b (fun u=>v=u)∧K v:=by
 cases op<;>simp only[zZ] at h ⊢<;>first | exact h.elim | exact⟨_,rfl,h⟩ | exact⟨_,⟨h.1,rfl⟩,h.2⟩
theorem NU {op:BinOp} {T:TypeId} (h:m5 P op T x y K):∃ v,m5 P op T x y (fun u=>v=u)∧K v:=by
 unfold m5 at h
 split at h
 ·split at h
  ·exact xW h
  ·exact xW h
  ·rename_i h1 h2
   split at h
   ·rename_i hk
    obtain⟨v,hv,hK⟩:=xW h
    refine⟨v,?_,hK⟩
    unfold m5
    simp only[if_pos hk]
    first | exact hv | (split<;>first | exact hv | simp_all)
   ·exact h.elim
 ·exact NT h
 ·split at h
  ·rename_i hi
   split at h
   ·exact⟨_,by simp only[m5,hi],h⟩
   ·exact⟨_,by simp only[m5,hi],h⟩
   ·exact h.elim
  ·exact h.elim
 ·split at h
  ·rename_i hi
   split at h
   ·rename_i hr
    obtain⟨hl,h⟩:=h
    split at h
    ·exact⟨_,by simp only[m5,hi,hr];exact⟨hl,trivial⟩,h⟩
    ·exact⟨_,by simp only[m5,hi,hr];exact⟨hl,trivial⟩,h⟩
    ·exact h.elim
   ·exact h.elim
  ·exact h.elim
 ·exact h.elim
theorem QT {op:UnOp} (h:vun op x K):∃ v,vun op x (fun u=>v=u)∧K v:=by
 unfold vun at h
 split at h<;>first | exact h.elim | exact⟨_,rfl,h⟩
theorem rx {ag:Bool} {sz off:Nat} {cs:List C} (h:eA ag sz off cs K):∃ v,eA ag sz off cs (fun u=>v=u)∧K v:=by
 unfold eA at h
 split at h
 ·rename_i lH;exact⟨_,by unfold eA;rw[if_pos lH];exact⟨h.1,rfl⟩,h.2⟩
 ·rename_i lH
  split at h
  ·rename_i c hc;exact⟨_,by unfold eA;rw[if_neg lH,hc],h⟩
  ·exact h.elim
theorem JK {ag:Bool} {sz off:Nat} {vs:List V} (h:yG ag sz off vs K):∃ v,yG ag sz off vs (fun u=>v=u)∧K v:=by
 unfold yG at h
 split at h
 ·rename_i lH;exact⟨_,by unfold yG;rw[if_pos lH];exact⟨h.1,rfl⟩,h.2⟩
 ·rename_i lH
  split at h
  ·rename_i c hc;exact⟨_,by unfold yG;rw[if_neg lH,hc],h⟩
  ·exact h.elim
theorem JL {T:TypeId} (h:dH P T s x K):∃ v,dH P T s x (fun u=>v=u)∧K v:=by
 unfold dH at h
 split at h
 ·rename_i hi
  obtain⟨v,h1,h2⟩:=rx h
  exact⟨v,by unfold dH;rw[hi];exact h1,h2⟩
 ·rename_i i b k hi
  obtain⟨hb,h⟩:=h
  split at h
  ·rename_i lH
   exact⟨_,by unfold dH;rw[hi];refine⟨hb,?_⟩;rw[if_pos lH];exact⟨h.1,rfl⟩,h.2⟩
  ·rename_i lH
   split at h
   ·rename_i c hc
    exact⟨_,by unfold dH;rw[hi];refine⟨hb,?_⟩;rw[if_neg lH,hc],h⟩
   ·exact h.elim
 ·rename_i hi
  rcases h with⟨h1,b,k,len,cap,E,es,c,h2,h⟩ | ⟨b,k,len,cap,E,es,h2,h⟩
  ·exact⟨_,by unfold dH;simp only[hi];exact .inl ⟨h1,b,k,len,cap,E,es,c,h2,rfl⟩,h⟩
  ·obtain⟨v,h3,h4⟩:=rx h
   exact⟨v,by unfold dH;simp only[hi];exact .inr ⟨b,k,len,cap,E,es,h2,h3⟩,h4⟩
 ·exact h.elim
theorem zm {T:TypeId} {f:Nat} (h:bn P T x f K):∃ v,bn P T x f (fun u=>v=u)∧K v:=by
 unfold bn at h
 split at h
 ·rename_i i hi
  split at h
  ·rename_i hf;exact⟨_,by unfold bn;simp only[hi,hf];exact⟨h.1,trivial⟩,h.2⟩
  ·rename_i hf;exact⟨_,by unfold bn;simp only[hi,hf];exact⟨h.1,trivial⟩,h.2⟩
  ·rename_i hf;exact⟨_,by unfold bn;simp only[hi,hf];exact⟨h.1,trivial⟩,h.2⟩
  ·exact h.elim
 ·exact h.elim
theorem GM {T:TypeId} {f:Nat} (h:rf P T x f K):∃ v,rf P T x f (fun u=>v=u)∧K v:=by
 unfold rf at h
 split at h
 ·rename_i hi
  split at h
  ·rename_i hf
   obtain⟨v,h1,h2⟩:=rx h
   exact⟨v,by unfold rf;simp only[hi,hf];exact h1,h2⟩
  ·exact h.elim
 ·rename_i hi
  split at h
  ·rename_i hf
   obtain⟨v,h1,h2⟩:=JK h
   exact⟨v,by unfold rf;simp only[hi,hf];exact h1,h2⟩
  ·exact h.elim
 ·exact h.elim
theorem zn {T:TypeId} (h:cA P T x y K):∃ v,cA P T x y (fun u=>v=u)∧K v:=by
 unfold cA at h
 split at h
 ·rename_i hi
  split at h
  ·rename_i hj
   obtain⟨h0,h⟩:=h
   split at h
   ·rename_i hc
    exact⟨_,by unfold cA;simp only[hi,hj,hc];exact⟨h0,h.1,trivial⟩,h.2⟩
   ·exact h.elim
  ·exact h.elim
 ·rename_i hi
  split at h
  ·rename_i hj
   exact⟨_,by unfold cA;simp only[hi,hj];exact⟨h.1,trivial⟩,h.2⟩
  ·exact h.elim
 ·rename_i hi
  split at h
  ·rename_i hj
   exact⟨_,by unfold cA;simp only[hi,hj];exact⟨h.1,trivial⟩,h.2⟩
  ·exact h.elim
 ·rename_i hi
  split at h
  ·rename_i hj
   exact⟨_,by unfold cA;simp only[hi,hj];exact⟨h.1,trivial⟩,h.2⟩
  ·exact h.elim
 ·rename_i hi
  split at h
  ·rename_i hj
   exact⟨_,by unfold cA;simp only[hi,hj];exact⟨h.1,trivial⟩,h.2⟩
  ·exact h.elim
 ·exact h.elim
theorem GN {T:TypeId} (h:nj P T x y K):∃ v,nj P T x y (fun u=>v=u)∧K v:=by
 unfold nj at h
 split at h
 ·rename_i hi
  obtain⟨h0,h⟩:=h
  split at h
  ·rename_i hc
   exact⟨_,by unfold nj;simp only[hi,hc];exact⟨h0,trivial⟩,h⟩
  ·exact h.elim
 ·rename_i hi
  split at h
  ·rename_i hj
   obtain⟨v,h1,h2⟩:=rx h.2
   exact⟨v,by unfold nj;simp only[hi,hj];exact⟨h.1,h1⟩,h2⟩
  ·exact h.elim
 ·exact h.elim
theorem GO {T:TypeId} {lo hi mx:Option V} (h:gY P T x lo hi mx K):∃ v,gY P T x lo hi mx (fun u=>v=u)∧K v:=by
 unfold gY at h
 split at h
 ·rename_i ht
  split at h
  ·rename_i e1 e2
   exact⟨_,by unfold gY;simp only[ht,e1,e2];exact⟨h.1,trivial⟩,h.2⟩
  ·exact h.elim
 ·rename_i ht
  split at h
  ·split at h
   ·rename_i e1 e2 e3
    exact⟨_,by unfold gY;simp only[ht,e1,e2,e3];exact⟨h.1,trivial⟩,h.2⟩
   ·exact h.elim
  ·split at h
   ·rename_i e1 e2
    exact⟨_,by unfold gY;simp only[ht,e1,e2];exact⟨h.1,trivial⟩,h.2⟩
   ·exact h.elim
  ·exact h.elim
 ·rename_i ht
  split at h
  ·rename_i e1 e2 e3 e4
   exact⟨_,by unfold gY;simp only[ht,e1,e2,e3,e4];exact⟨h.1,trivial⟩,h.2⟩
  ·exact h.elim
 ·rename_i ht
  split at h
  ·rename_i e1 e2 e3 e4
   exact⟨_,by unfold gY;simp only[ht,e1,e2,e3,e4];exact⟨h.1,trivial⟩,h.2⟩
  ·exact h.elim
 ·rename_i ht
  split at h
  ·rename_i e1
   exact⟨_,by unfold gY;simp only[ht,e1];exact⟨h.1,trivial⟩,h.2⟩
  ·exact h.elim
 ·rename_i ht
  split at h
  ·rename_i e1 e2 e3
   exact⟨_,by unfold gY;simp only[ht,e1,e2,e3];exact⟨h.1,trivial⟩,h.2⟩
  ·exact h.elim
 ·exact h.elim
theorem NV {T:TypeId} (h:Ju P T x K):∃ v,Ju P T x (fun u=>v=u)∧K v:=by
 unfold Ju at h
 split at h
 ·rename_i e1
  split at h
  ·rename_i e2;exact⟨_,by unfold Ju;simp only[e1,e2];exact⟨h.1,trivial⟩,h.2⟩
  ·exact h.elim
 ·exact h.elim
theorem JM {src dst:TypeId} (h:oD P src dst x K):∃ v,oD P src dst x (fun u=>v=u)∧K v:=by
 unfold oD at h
 split at h
 ·rename_i e1 e2;exact⟨_,by unfold oD;simp only[e1,e2],h⟩
 ·rename_i e1 e2;exact⟨_,by unfold oD;simp only[e1,e2],h⟩
 ·rename_i e1 e2
  split at h
  ·rename_i e3;exact⟨_,by unfold oD;simp only[e1,e2,e3],h⟩
  ·exact h.elim
 ·rename_i e1 e2
  split at h
  ·rename_i e3
   split at h
   ·rename_i e4;exact⟨_,by unfold oD;simp only[e1,e2,e3,e4],h⟩
   ·exact h.elim
  ·exact h.elim
 ·exact h.elim
theorem GP {T:TypeId} {parts:List (Nat×V)} (h:gZ P T parts K):∃ v,gZ P T parts (fun u=>v=u)∧K v:=by
 unfold gZ at h
 split at h
 ·rename_i e1
  split at h
  ·rename_i e2;exact⟨_,by unfold gZ;simp only[e1,e2],h⟩
  ·rename_i e2
   split at h
   ·rename_i e3;exact⟨_,by unfold gZ;simp only[e1,e2,e3],h⟩
   ·exact h.elim
 ·rename_i e1
  split at h
  ·rename_i e2
   split at h
   ·rename_i e3;exact⟨_,by unfold gZ;simp only[e1,e2,e3],h⟩
   ·rename_i e3
    split at h
    ·rename_i e4;exact⟨_,by unfold gZ;simp only[e1,e2,e3,e4],h⟩
    ·exact h.elim
  ·exact h.elim
 ·exact h.elim
theorem np {T:TypeId} {len:Nat} {parts:List (Nat×V)} (h:cG P T len parts K):∃ v,cG P T len parts (fun u=>v=u)∧K v:=by
 unfold cG at h
 split at h
 ·rename_i e1
  split at h
  ·rename_i e2
   obtain⟨h0,h⟩:=h
   split at h
   ·rename_i e3;exact⟨_,by unfold cG;simp only[e1,e2,e3];exact⟨h0,trivial⟩,h⟩
   ·exact h.elim
  ·exact h.elim
 ·exact h.elim
theorem NW {T:TypeId} (h:lT P T x K):∃ v,lT P T x (fun u=>v=u)∧K v:=by
 unfold lT at h
 split at h
 all_goals first | exact h.elim | (rename_i e1;exact⟨_,by unfold lT;simp only[e1],h⟩)
theorem wx {T:TypeId} (h:ee P T x y K):∃ v,ee P T x y (fun u=>v=u)∧K v:=by
 unfold ee at h
 split at h
 ·rename_i e1
  split at h
  ·rename_i e2
   obtain⟨h0,h⟩:=h
   split at h
   ·exact⟨_,by unfold ee;simp only[e1,e2];exact⟨h0,h.1,trivial⟩,h.2⟩
   ·exact h.elim
  ·exact h.elim
 ·exact h.elim
theorem CG {mx:Bool} {l:List V} (h:Jw mx l K):∃ v,Jw mx l (fun u=>v=u)∧K v:=by
 unfold Jw at h
 split at h
 ·exact⟨_,rfl,h⟩
 ·exact h.elim
theorem JO {f:V} {l:List V} (h:qF P G s f l K):∃ v,qF P G s f l (fun u=>v=u)∧K v:=by
 unfold qF at h
 split at h
 ·split at h
  ·rename_i e1
   obtain⟨r,h1,h2,h3⟩:=h
   exact⟨r,by unfold qF;simp only[e1];exact⟨r,h1,h2,rfl⟩,h3⟩
  ·exact h.elim
 ·split at h
  ·rename_i e1 e2 e3
   obtain⟨r,h1,h2,h3⟩:=h
   exact⟨r,by unfold qF;simp only[e1,e2,e3];exact⟨r,h1,h2,rfl⟩,h3⟩
  ·exact h.elim
 ·exact h.elim
theorem qq {b:Builtin} {ts:List TypeId} {l:List V} (h:eP P b ts l K):∃ v,eP P b ts l (fun u=>v=u)∧K v:=by
 unfold eP at h
 split at h
 ·exact NW h
 ·split at h
  ·rename_i ht
   obtain⟨v,h1,h2⟩:=wx h
   exact⟨v,by unfold eP;simp only[if_pos ht];exact h1,h2⟩
  ·rename_i ht
   unfold qa at h
   split at h
   ·rename_i e0 e1 e2
    split at h
    ·rename_i e3
     obtain⟨h0,h⟩:=h
     obtain⟨v,h1,h2⟩:=wx h
     exact⟨v,by unfold eP qa;simp only[if_neg ht,e0,e1,e2,e3];exact⟨h0,h1⟩,h2⟩
    ·exact h.elim
   ·exact h.elim
 ·exact CG h
 ·exact CG h
 ·exact h.elim
theorem GQ {bx:Nat→List V} {nb:Nat} {f:V} {l:List V} {K:(Nat→List V)→Nat→V→Prop} (h:j4 P G bx nb f l K):∃ bx' nb' v,j4 P G bx nb f l (fun b n u=>(bx'=b∧nb'=n)∧v=u)∧K bx' nb' v:=by
 unfold j4 at h
 split at h
 ·rename_i g all e1
  obtain⟨ρ,cargs,b0,r,b1,h1,h2,h3,h4,h5⟩:=h
  exact⟨_,_,_,by unfold j4;simp only[e1];exact⟨ρ,cargs,b0,r,b1,h1,h2,h3,h4,⟨rfl,rfl⟩,rfl⟩,h5⟩
 ·exact h.elim
theorem Av {bx:Nat→List V} {nb n m:Nat} {K:(Nat→List V)→Nat→V→Prop} (h:Ac bx nb n m K x):∃ bx' nb' v,Ac bx nb n m (fun b n u=>(bx'=b∧nb'=n)∧v=u) x∧K bx' nb' v:=by
 unfold Ac at h
 split at h
 ·exact⟨_,_,_,⟨⟨rfl,rfl⟩,rfl⟩,h⟩
 ·exact h.elim
theorem JP {T:TypeId} {K:Nat→Nat→Nat→List C→Prop} (h:qG P T x y K):∃ n m sz z,qG P T x y (fun n' m' sz' z'=>n=n'∧m=m'∧sz=sz'∧z=z')∧K n m sz z:=by
 unfold qG at h
 split at h
 ·rename_i e1
  split at h
  ·rename_i e2
   exact⟨_,_,_,_,by unfold qG;simp only[e1,e2];exact⟨h.1,by simp⟩,h.2⟩
  ·exact h.elim
 ·exact h.elim
theorem ja {T:TypeId} {K:Nat→List Nat→Nat→List V→Option Nat→V→Prop} (h:iI P T s x y K) :
 ∃ i bs cl r res z,iI P T s x y (fun i' bs' cl' r' res' z'=>i=i'∧bs=bs'∧cl=cl'∧r=r'∧res=res'∧z=z')∧K i bs cl r res z:=by
 unfold iI at h
 split at h
 ·rename_i e1
  split at h
  ·rename_i e2 e3
   split at h
   ·rename_i e4 e5 e6
    split at h
    ·rename_i e7
     split at h
     ·rename_i e8
      exact⟨_,_,_,_,_,_,by unfold iI;simp only[e1,e2,e3,e4,e5,e6,e7,e8];exact⟨h.1,by simp⟩,h.2⟩
     ·exact h.elim
    ·exact h.elim
   ·exact h.elim
  ·exact h.elim
 ·exact h.elim
theorem fW {T:TypeId} {i cl:Nat} {bs:List Nat} {r:List V} {res:Option Nat} {z:V} {K:Nat→List Nat→Nat→List V→Option Nat→V→Prop}
 (h:iI P T s x y (fun i' bs' cl' r' res' z'=>i=i'∧bs=bs'∧cl=cl'∧r=r'∧res=res'∧z=z')) (hK:K i bs cl r res z):iI P T s x y K:=by
 unfold iI at h
 split at h
 ·rename_i e1
  split at h
  ·rename_i e2 e3
   split at h
   ·rename_i e4 e5 e6
    split at h
    ·rename_i e7
     split at h
     ·rename_i e8
      obtain⟨h1,rfl,rfl,rfl,rfl,rfl,rfl⟩:=h
      unfold iI;simp only[e1,e2,e3,e4,e5,e6,e7,e8];exact⟨h1,hK⟩
     ·exact h.elim
    ·exact h.elim
   ·exact h.elim
  ·exact h.elim
 ·exact h.elim
theorem qJ {T:TypeId} {kt et:TypeId} {tT tk te:TI} {ks:List EK} {kc:List C} {k z:V} {i cl:Nat} {bs:List Nat} {r:List V} {kcs:List (List C)} {res:Option Nat} {KM:Nat→List Nat→Nat→List V→Option Nat→V→Prop}
 (hT:ti P T=some tT) (hm:tT.kd=.map kt et) (hk:ti P kt=some tk) (VX:tk.eqs=some ks) (he:ti P et=some te) (hc:k.kcs tk.agg=some kc) (hz:qo te=some z) (hb:s.bx i=.mk bs cl::r)
 (hkc:jN tk.agg r=some kcs) (hf:nc ks kc kcs 0=some res) (hi:i<s.nb) (hl:kc.length=ks.length) (hr:jM ks kc kc=some true) (ha:zaB P et=true) (hK:KM i bs cl r res z):iI P T s (.mr i) k KM:=by
 obtain⟨kd,a1,a2,a3,a4,a5,a6⟩:=tT
 obtain⟨b1,b2,b3,ag,b5,b6,b7⟩:=tk
 simp only at hm VX hc hkc
 subst hm;subst VX
 unfold iI
 simp only[hT,hk,he,hc,hz,hb,hkc,hf]
 exact⟨⟨hi,hl,hr,ha⟩,hK⟩
theorem GR {T:TypeId} {K K':Nat→List Nat→Nat→List V→Option Nat→V→Prop} (h:iI P T s x y K) (h':iI P T s x y K'):∃ i bs cl r res z,K i bs cl r res z∧K' i bs cl r res z:=by
 unfold iI at h
 split at h
 ·rename_i e1
  split at h
  ·rename_i e2 e3
   split at h
   ·rename_i e4 e5 e6
    split at h
    ·rename_i e7
     split at h
     ·rename_i e8
      unfold iI at h';simp only[e1,e2,e3,e4,e5,e6,e7,e8] at h'
      exact⟨_,_,_,_,_,_,h.2,h'.2⟩
     ·exact h.elim
    ·exact h.elim
   ·exact h.elim
  ·exact h.elim
 ·exact h.elim
theorem mo {T:TypeId} {s':S} {K:Nat→List Nat→Nat→List V→Option Nat→V→Prop} (hb:s.bx=s'.bx) (hn:s.nb=s'.nb) (h:iI P T s x y K):iI P T s' x y K:=by
 unfold iI at h ⊢
 rw[← hb,← hn];exact h
theorem Ez {T:TypeId} {v:V} {K:S→Prop} (h:ix P T s x y v K):∃ bx,ix P T ⟨fun _=>.un,s.bx,s.nb⟩ x y v (fun s'=>bx=s'.bx)∧K { s with bx:=bx }:=by
 unfold ix at h
 obtain⟨i,bs,cl,r,res,z,h1,h2⟩:=ja h
 cases res with
 |none=>exact⟨_,fW (mo rfl rfl h1) rfl,h2⟩
 |some j=>exact⟨_,fW (mo rfl rfl h1) rfl,h2⟩
theorem EA {T:TypeId} {v:V} {bx:Nat→List V} (h:ix P T ⟨fun _=>.un,s.bx,s.nb⟩ x y v (fun s'=>bx=s'.bx)):ix P T s x y v (fun s'=>{ s with bx:=bx }=s'):=by
 unfold ix at h
 obtain⟨i,bs,cl,r,res,z,h1,h2⟩:=ja h
 cases res with
 |none=>simp only at h2;subst h2;exact fW (mo rfl rfl h1) rfl
 |some j=>simp only at h2;subst h2;exact fW (mo rfl rfl h1) rfl
theorem Aw {T:TypeId} {K:S→V→Prop} (h:fK P T s x y K):∃ bx v,fK P T ⟨fun _=>.un,s.bx,s.nb⟩ x y (fun s' u=>bx=s'.bx∧v=u)∧K { s with bx:=bx } v:=by
 unfold fK at h
 obtain⟨i,bs,cl,r,res,z,h1,h2⟩:=ja h
 cases res with
 |none=>exact⟨_,_,fW (mo rfl rfl h1) ⟨rfl,rfl⟩,h2⟩
 |some j=>exact⟨s.bx,_,fW (mo rfl rfl h1) ⟨rfl,rfl⟩,h2⟩
theorem pm {T:TypeId} {v:V} {bx:Nat→List V} (h:fK P T ⟨fun _=>.un,s.bx,s.nb⟩ x y (fun s' u=>bx=s'.bx∧v=u)):fK P T s x y (fun s' u=>{ s with bx:=bx }=s'∧v=u):=by
 unfold fK at h
 obtain⟨i,bs,cl,r,res,z,h1,h2⟩:=ja h
 cases res with
 |none=>obtain⟨rfl,rfl⟩:=h2;exact fW (mo rfl rfl h1) ⟨rfl,rfl⟩
 |some j=>obtain⟨rfl,rfl⟩:=h2;exact fW (mo rfl rfl h1) ⟨rfl,rfl⟩
theorem Ax {v:V} {K:S→Prop} (h:gd s x y v K):∃ bx,gd ⟨fun _=>.un,s.bx,s.nb⟩ x y v (fun s'=>bx=s'.bx)∧K { s with bx:=bx }:=by
 unfold gd at h
 split at h
 ·split at h
  ·rename_i e2
   split at h
   ·rename_i e3;exact⟨_,by unfold gd;simp only[e2,e3];exact⟨h.1,trivial⟩,h.2⟩
   ·exact h.elim
  ·exact h.elim
 ·exact h.elim
theorem Ay {v:V} {bx:Nat→List V} (h:gd ⟨fun _=>.un,s.bx,s.nb⟩ x y v (fun s'=>bx=s'.bx)):gd s x y v (fun s'=>{ s with bx:=bx }=s'):=by
 unfold gd at h
 split at h
 ·split at h
  ·rename_i e2
   split at h
   ·rename_i e3;obtain⟨h1,rfl⟩:=h;unfold gd;simp only[show s.bx _=_ from e2,e3];exact⟨h1,trivial⟩
   ·exact h.elim
  ·exact h.elim
 ·exact h.elim
theorem JQ {ts:List TypeId} {xs:List V} {K:S→V→Prop} (h:nJ P s K ts xs):∃ bx v,nJ P ⟨fun _=>.un,s.bx,s.nb⟩ (fun s' u=>bx=s'.bx∧v=u) ts xs∧K { s with bx:=bx } v:=by
 unfold nJ at h
 split at h
 ·split at h
  ·rename_i e1
   split at h
   ·rename_i e2;exact⟨_,_,by unfold nJ;simp only[e1,e2];exact⟨h.1,by simp⟩,h.2⟩
   ·exact h.elim
  ·exact h.elim
 ·exact h.elim
theorem JR {ts:List TypeId} {xs:List V} {bx:Nat→List V} {v:V} (h:nJ P ⟨fun _=>.un,s.bx,s.nb⟩ (fun s' u=>bx=s'.bx∧v=u) ts xs):nJ P s (fun s' u=>{ s with bx:=bx }=s'∧v=u) ts xs:=by
 unfold nJ at h
 split at h
 ·split at h
  ·rename_i e1
   split at h
   ·rename_i e2;obtain⟨h0,rfl,rfl⟩:=h;unfold nJ;simp only[e1,e2];exact⟨h0,by simp⟩
   ·exact h.elim
  ·exact h.elim
 ·exact h.elim
theorem Wb {ts:List TypeId} {xs:List V} {K K':S→V→Prop} (h:nJ P s K ts xs) (hk:∀ s v,K s v→K' s v):nJ P s K' ts xs:=by
 unfold nJ at h
 split at h
 ·split at h
  ·rename_i e1
   split at h
   ·rename_i e2;unfold nJ;simp only[e1,e2];exact⟨h.1,hk _ _ h.2⟩
   ·exact h.elim
  ·exact h.elim
 ·exact h.elim
theorem B9 {ts:List TypeId} {xs:List V} {K:S→V→Prop} (h:eV P s K ts xs):∃ bx v,eV P ⟨fun _=>.un,s.bx,s.nb⟩ (fun s' u=>bx=s'.bx∧v=u) ts xs∧K { s with bx:=bx } v:=by
 unfold eV at h
 split at h
 ·rename_i b off len cap sz y
  have hi:vj s y=vj ⟨fun _=>.un,s.bx,s.nb⟩ y:=by cases y<;>rfl
  split at h
  ·rename_i e1 e2
   split at h
   ·rename_i e3;exact⟨_,_,by unfold eV;rw[hi] at e2;simp only[e1,e2,e3];exact⟨h.1,by simp⟩,h.2⟩
   ·exact h.elim
  ·exact h.elim
 ·split at h
  ·rename_i e1
   split at h
   ·rename_i e2
    obtain⟨b,k,j,E,es,h1,h2⟩:=h
    exact⟨_,_,by unfold eV;simp only[e1,e2];exact⟨b,k,j,E,es,h1,by simp⟩,h2⟩
   ·exact h.elim
  ·exact h.elim
 ·exact h.elim
theorem Ca {ts:List TypeId} {xs:List V} {bx:Nat→List V} {v:V} (h:eV P ⟨fun _=>.un,s.bx,s.nb⟩ (fun s' u=>bx=s'.bx∧v=u) ts xs):eV P s (fun s' u=>{ s with bx:=bx }=s'∧v=u) ts xs:=by
 unfold eV at h
 split at h
 ·rename_i b off len cap sz y
  have hi:vj s y=vj ⟨fun _=>.un,s.bx,s.nb⟩ y:=by cases y<;>rfl
  split at h
  ·rename_i e1 e2
   split at h
   ·rename_i e3;obtain⟨h0,rfl,rfl⟩:=h;unfold eV;rw[← hi] at e2;simp only[e1,e2,e3];exact⟨h0,by simp⟩
   ·exact h.elim
  ·exact h.elim
 ·split at h
  ·rename_i e1
   split at h
   ·rename_i e2
    obtain⟨b,k,j,E,es,h1,rfl,rfl⟩:=h
    unfold eV;simp only[e1,e2];exact⟨b,k,j,E,es,h1,by simp⟩
   ·exact h.elim
  ·exact h.elim
 ·exact h.elim
theorem JS {ts:List TypeId} {xs:List V} {K K':S→V→Prop} (h:eV P s K ts xs) (hk:∀ s v,K s v→K' s v):eV P s K' ts xs:=by
 unfold eV at h
 split at h
 ·split at h
  ·rename_i e1 e2
   split at h
   ·rename_i e3;unfold eV;simp only[e1,e2,e3];exact⟨h.1,hk _ _ h.2⟩
   ·exact h.elim
  ·exact h.elim
 ·split at h
  ·rename_i e1
   split at h
   ·rename_i e2
    obtain⟨b,k,j,E,es,h1,h2⟩:=h
    unfold eV;simp only[e1,e2];exact⟨b,k,j,E,es,h1,hk _ _ h2⟩
   ·exact h.elim
  ·exact h.elim
 ·exact h.elim
theorem wy {tr:List Nat} {o:Oper} {args:Array Operand} {ts:Array TypeId} {K:S→V→Prop} {s':S} (cm:o.op=.call { callee:=.builtin .append,args:=args,argTypes:=ts }) (h:eV P s' K ts.toList (args.toList.map (ev G s))) :
 s.use (bV tr o)=s:=by
 have e:bV tr o=match args.toList with | .tmp t::_=>some t | _=>none:=by
  unfold bV;rw[cm];rfl
 rw[e]
 split
 ·rename_i t r ha
  rw[ha,aO] at h
  unfold eV at h
  split at h
  ·rename_i b off len cap sz y rT na
   simp only[bP] at na
   have:s.fr t=.ms b off len cap sz:=na.1
   simp[S.use,this,V.isOw]
  ·rename_i rT na
   simp only[bP] at na
   have:=na.1
   simp only[ev] at this
   simp[S.use,this,V.isOw]
  ·exact h.elim
 ·rfl
theorem GU {ts:List TypeId} {xs:List V} {K:S→Prop} (h:iJ P s K ts xs):∃ bx,iJ P ⟨fun _=>.un,s.bx,s.nb⟩ (fun s'=>bx=s'.bx) ts xs∧K { s with bx:=bx }:=by
 unfold iJ at h
 split at h
 ·split at h
  ·rename_i e1
   split at h
   ·rename_i e2;exact⟨_,by unfold iJ;simp only[e1,e2];exact⟨h.1,trivial⟩,h.2⟩
   ·exact h.elim
  ·exact h.elim
 ·split at h
  ·rename_i e1
   split at h
   ·rename_i e2
    obtain⟨b,k,j,cap,E,es,h1,h2⟩:=h
    exact⟨_,by unfold iJ;simp only[e1,e2];exact⟨b,k,j,cap,E,es,h1,rfl⟩,h2⟩
   ·exact h.elim
  ·exact h.elim
 ·exact h.elim
theorem GV {ts:List TypeId} {xs:List V} {bx:Nat→List V} (h:iJ P ⟨fun _=>.un,s.bx,s.nb⟩ (fun s'=>bx=s'.bx) ts xs):iJ P s (fun s'=>{ s with bx:=bx }=s') ts xs:=by
 unfold iJ at h
 split at h
 ·split at h
  ·rename_i e1
   split at h
   ·rename_i e2;obtain⟨h0,rfl⟩:=h;unfold iJ;simp only[e1,e2];exact⟨h0,trivial⟩
   ·exact h.elim
  ·exact h.elim
 ·split at h
  ·rename_i e1
   split at h
   ·rename_i e2
    obtain⟨b,k,j,cap,E,es,h1,rfl⟩:=h
    unfold iJ;simp only[e1,e2];exact⟨b,k,j,cap,E,es,h1,rfl⟩
   ·exact h.elim
  ·exact h.elim
 ·exact h.elim
theorem QU {ts:List TypeId} {xs:List V} {K K':S→Prop} (h:iJ P s K ts xs) (hk:∀ s,K s→K' s):iJ P s K' ts xs:=by
 unfold iJ at h
 split at h
 ·split at h
  ·rename_i e1
   split at h
   ·rename_i e2;unfold iJ;simp only[e1,e2];exact⟨h.1,hk _ h.2⟩
   ·exact h.elim
  ·exact h.elim
 ·split at h
  ·rename_i e1
   split at h
   ·rename_i e2
    obtain⟨b,k,j,cap,E,es,h1,h2⟩:=h
    unfold iJ;simp only[e1,e2];exact⟨b,k,j,cap,E,es,h1,hk _ h2⟩
   ·exact h.elim
  ·exact h.elim
 ·exact h.elim
theorem NX {T:TypeId} {v:V} {K K':S→Prop} (h:ix P T s x y v K) (hk:∀ s,K s→K' s):ix P T s x y v K':=by
 unfold ix at h
 obtain⟨i,bs,cl,r,res,z,h1,h2⟩:=ja h
 refine fW h1 ?_
 cases res<;>exact hk _ h2
theorem sK {T:TypeId} {K K':S→V→Prop} (h:fK P T s x y K) (hk:∀ s v,K s v→K' s v):fK P T s x y K':=by
 unfold fK at h
 obtain⟨i,bs,cl,r,res,z,h1,h2⟩:=ja h
 refine fW h1 ?_
 cases res<;>exact hk _ _ h2
theorem GW {v:V} {K K':S→Prop} (h:gd s x y v K) (hk:∀ s,K s→K' s):gd s x y v K':=by
 unfold gd at h
 split at h
 ·split at h
  ·rename_i e2
   split at h
   ·rename_i e3;unfold gd;simp only[e2,e3];exact⟨h.1,hk _ h.2⟩
   ·exact h.elim
  ·exact h.elim
 ·exact h.elim
theorem EB {T:TypeId} {ok:Bool} (h:fG P T s x y ok K):∃ v,fG P T s x y ok (fun u=>v=u)∧K v:=by
 unfold fG at h
 obtain⟨i,bs,cl,r,res,z,h1,h2⟩:=ja h
 cases res with
 |none=>cases ok<;>exact⟨_,fW h1 rfl,h2⟩
 |some j=>cases ok<;>exact⟨_,fW h1 rfl,h2⟩
theorem yO {T:TypeId} {ok:Bool} {v u:V} (h:fG P T s x y ok (fun w=>v=w)) (h':fG P T s x y ok (fun w=>u=w)):v=u:=by
 unfold fG at h h'
 obtain⟨i,bs,cl,r,res,z,h1,h2⟩:=ja h
 obtain⟨i',bs',cl',r',res',z',jH,ot⟩:=ja h'
 have e:i'=i∧bs'=bs∧cl'=cl∧r'=r∧res'=res∧z'=z:=by
  have:=GR h1 jH
  obtain⟨_,_,_,_,_,_,⟨rfl,rfl,rfl,rfl,rfl,rfl⟩,rfl,rfl,rfl,rfl,rfl,rfl⟩:=this
  exact⟨rfl,rfl,rfl,rfl,rfl,rfl⟩
 obtain⟨rfl,rfl,rfl,rfl,rfl,rfl⟩:=e
 cases res'<;>cases ok<;>simp only at h2 ot<;>(rw[show v=_ from h2,show u=_ from ot])
theorem GX {T:TypeId} (h:oh P T s x K):∃ v,oh P T s x (fun u=>v=u)∧K v:=by
 unfold oh at h
 split at h
 ·rename_i e1
  split at h
  ·rename_i e2;exact⟨_,by unfold oh;simp only[e1,e2];exact⟨h.1,trivial⟩,h.2⟩
  ·exact h.elim
 ·exact h.elim
theorem GY (h:nk s x K):∃ v,nk s x (fun u=>v=u)∧K v:=by
 unfold nk at h
 split at h
 ·split at h
  ·rename_i e2 e3
   split at h
   ·rename_i e4;exact⟨_,by unfold nk;simp only[e2,e3,e4];exact⟨h.1,trivial⟩,h.2⟩
   ·exact h.elim
  ·exact h.elim
 ·exact h.elim
theorem Az {ts:List TypeId} {E:Option (TypeId×Nat)} {es:List (List C)} (h:nf P ts E es y K):∃ v,nf P ts E es y (fun u=>v=u)∧K v:=by
 unfold nf at h
 split at h
 ·obtain⟨h1,h⟩:=h
  split at h
  ·rename_i e3
   split at h
   ·rename_i e4
    obtain⟨h2,h⟩:=h
    split at h
    ·exact⟨_,by unfold nf;simp only[e3,e4];exact⟨h1,h2,h.1,trivial⟩,h.2⟩
    ·exact h.elim
   ·exact h.elim
  ·exact h.elim
 ·exact h.elim
theorem GZ {d:Option Tmp} {args:List Operand} {ts:List TypeId} (h:jO P G s d ts args K):∃ v,jO P G s d ts args (fun u=>v=u)∧K v:=by
 unfold jO at h
 split at h
 ·split at h
  ·rename_i e1 e2
   obtain⟨h0,h⟩:=h
   obtain⟨v,h1,h2⟩:=qq h
   exact⟨v,by unfold jO;simp only[e1,e2];exact⟨h0,h1⟩,h2⟩
  ·rename_i e1 e2
   obtain⟨h0,h⟩:=h
   obtain⟨v,h1,h2⟩:=Az h
   exact⟨v,by unfold jO;simp only[e1,e2];exact⟨h0,h1⟩,h2⟩
  ·rename_i e1
   obtain⟨h0,h⟩:=h
   obtain⟨v,h1,h2⟩:=Az h
   exact⟨v,by unfold jO;simp only[e1];exact⟨h0,h1⟩,h2⟩
  ·exact h.elim
 ·exact h.elim
theorem NY {d:Option Tmp} {args:List Operand} {ts:List TypeId} (h:wa P G s d ts args K):∃ v,wa P G s d ts args (fun u=>v=u)∧K v:=by
 unfold wa at h
 split at h
 ·split at h
  ·rename_i e1 e2
   obtain⟨h0,h⟩:=h
   unfold uT at h
   split at h
   ·obtain⟨h1,h⟩:=h
    split at h
    ·rename_i e3
     split at h
     ·rename_i e4
      obtain⟨h2,h⟩:=h
      split at h
      ·rename_i e5
       exact⟨_,by unfold wa;simp only[e1,e2];refine⟨h0,?_⟩;unfold uT;simp only[e3,e4,e5];exact⟨h1,h2,h.1,trivial⟩,h.2⟩
      ·exact h.elim
     ·exact h.elim
    ·exact h.elim
   ·exact h.elim
  ·exact h.elim
 ·exact h.elim
theorem G0 (h:VYK P G tr o s K):∃ v,VYK P G tr o s (fun u=>v=u)∧K v:=by
 obtain⟨dst,op,type,pos,after,guard⟩:=o
 cases op<;>simp only[VYK] at h ⊢<;>try exact h.elim
 case move x=>
  split at h
  ·rename_i e;simp only[if_pos e];exact⟨_,rfl,h⟩
  ·rename_i e;simp only[if_neg e];exact⟨_,rfl,h⟩
 case assign x=>exact⟨_,rfl,h⟩
 case pick c a b=>
  split at h
  ·exact⟨_,rfl,h⟩
  ·exact h.elim
 case build T parts=>exact GP h
 case buildSlice T len parts=>exact np h
 case load T x=>exact JL h
 case binOp op T x y yT=>exact NU h
 case unOp op T x=>exact QT h
 case convert src dst x=>exact JM h
 case lookup T x k ok=>exact EB h
 case range T x=>exact GX h
 case entry x=>exact GY h
 case makeFunc f a b=>exact⟨_,⟨h.1,rfl⟩,h.2⟩
 case sliceToArrayPointer T x=>exact NV h
 case nilCheck x=>
  split at h
  ·exact⟨_,rfl,h⟩
  ·exact⟨_,rfl,h⟩
  ·exact h.elim
 case slice T x lo hi mx=>exact GO h
 case fieldAddr T x f=>exact zm h
 case field T x f=>exact GM h
 case indexAddr T x i=>exact zn h
 case index T x i=>exact GN h
 case extract x i=>
  split at h
  ·split at h
   ·exact⟨_,rfl,h⟩
   ·exact h.elim
  ·exact h.elim
 case call c=>
  obtain⟨callee,args,ts⟩:=c
  cases callee with
  |value f=>exact JO h
  |invoke r m=>exact h.elim
  |builtin b=>
   cases b
   case append=>
    have h':(if Ab tr dst then(if xM tr dst then wa P G s dst ts.toList args.toList K else jO P G s dst ts.toList args.toList K) else eP P .append ts.toList (args.toList.map fun x=>vw s (ev G s x)) K):=h
    show ∃ v,(if Ab tr dst then(if xM tr dst then wa P G s dst ts.toList args.toList (fun u=>v=u) else jO P G s dst ts.toList args.toList (fun u=>v=u)) else eP P .append ts.toList (args.toList.map fun x=>vw s (ev G s x)) (fun u=>v=u))∧K v
    by_cases hg:Ab tr dst=true
    ·rw[if_pos hg] at h';simp only[if_pos hg]
     by_cases Gn:xM tr dst=true
     ·rw[if_pos Gn] at h';simp only[if_pos Gn];exact NY h'
     ·rw[if_neg Gn] at h';simp only[if_neg Gn];exact GZ h'
    ·rw[if_neg hg] at h';simp only[if_neg hg];exact qq h'
   all_goals exact qq h
end
section
variable {P:Program} {G:Gl} {tr:List Nat} {s:S} {o:Oper} {x y:V} {ops:Array Oper} {md:Region.Mode}
inductive Ef where
 |v (x:V)
 |al (cs:List V)
 |st (b k:Nat) (ds:List V)
 |gn (bx:Nat→List V) (nb:Nat) (x:V)
 |skip
def Ef.val (nb:Nat):Ef→V
 | .v x=>x
 | .al _=>.bp nb 0
 | .st _ _ _=>.sk
 | .gn _ _ x=>x
 | .skip=>.sk
def Ef.bx (nb:Nat) (bx:Nat→List V):Ef→Nat→List V
 | .al cs=>up bx nb cs
 | .st b k ds=>up bx b (eU (bx b) k ds)
 | .gn bx' _ _=>bx'
 |_=>bx
def Ef.nb (nb:Nat):Ef→Nat
 | .al _=>nb+1
 | .gn _ nb' _=>nb'
 |_=>nb
def Ef.uses:Ef→Bool
 | .skip=>false
 |_=>true
def EC (u:Bool) (t:Option Tmp) (fr:Nat→V):Nat→V:=match t with
 |some t=>if u&&(fr t).isOw then up fr t .un else fr
 |none=>fr
def G1 (d:Option Tmp) (x:V) (fr:Nat→V):Nat→V:=match d with
 |some d=>up fr d x
 |none=>fr
def Ef.run (tr:List Nat) (o:Oper) (s:S) (e:Ef):S:=⟨G1 o.dst (e.val s.nb) (EC e.uses (bV tr o) s.fr),e.bx s.nb s.bx,e.nb s.nb⟩
def VEf (P:Program) (G:Gl) (tr:List Nat) (o:Oper) (s:S) (e:Ef):Prop:=
 match o.op with
 | .alloc T=>match ti P T with
  |some { zero:=some z,.. }=>e=.al (z.map nH)
  |_=>False
 | .box _ x=>match(ev G s x).bcells with
  |some cs=>e=.al cs
  |none=>False
 | .store T p x=>qb tr (Jx p) (ev G s p)=true∧match ti P T,ev G s p,(ev G s x).bcells with
  |some i,.bp b k,some cs=>(b<s.nb∧cs.length=i.size∧k+i.size≤(s.bx b).length∧dc (s.bx b)=false)∧e=.st b k cs
  |some i,.c (.ex (.pointer (some ⟨blk,j,none⟩))),_=>(∃ (b k len cap:Nat) (E:Option (TypeId×Nat)) (es:List (List C)) (r:Nat) (e':List C) (c:C),(i.size=1∧b<s.nb∧dc (s.bx b)=false∧(s.bx b)[k]?=some (V.hh (some (.slice (some ⟨blk,0,none⟩) len cap)) E (es++[e']))∧
    (es.flatten.length+r=j∧r<e'.length)∧(ev G s x).asC=some c)∧
   e=.gn (up s.bx b ((s.bx b).set k (.hh (some (.slice (some ⟨blk,0,none⟩) len cap)) E (es++[e'.set r c])))) s.nb .sk)∨aaq s.bx s.nb i blk j (ev G s x) (fun bx=>e=.gn bx s.nb .sk)
  |_,_,_=>False
 | .buildSlice T len parts=>if nI tr o.dst then ∃ bx nb x,e=.gn bx nb x∧cG P T len (parts.toList.map fun(i,x)=>(i,ev G s x)) (Ac s.bx s.nb len len fun b n u=>(bx=b∧nb=n)∧x=u)
  else ∃ v,e=.v v∧VYK P G tr o s fun u=>v=u
 | .makeSlice T l c=>∃ bx nb x,e=.gn bx nb x∧qG P T (ev G s l) (ev G s c) fun n m sz z=>(up s.bx s.nb ((List.replicate m z).flatten.map .c)=bx∧s.nb+1=nb)∧V.ms s.nb 0 n m sz=x
 | .call { callee:=.value f,args:=args,.. }=>if wb tr o.dst then ∃ bx nb x,e=.gn bx nb x∧j4 P G s.bx s.nb (ev G s f) (args.toList.map (ev G s)) (fun b n u=>(bx=b∧nb=n)∧x=u)∧(BY tr o.dst=true→nb=s.nb∧∀ b,bx b=s.bx b∨(b<100∧tr.contains (500000+o.dst.getD 0*100+b)=true))
  else ∃ v,e=.v v∧VYQ P G tr o s f args fun u=>v=u
 | .load _ x=>∃ v,e=.v v∧qb tr o.dst (ev G s x)=true∧VYK P G tr o s fun u=>v=u
 | .mapUpdate T m k x=>∃ bx,e=.gn bx s.nb .sk∧ix P T ⟨fun _=>.un,s.bx,s.nb⟩ (ev G s m) (ev G s k) (ev G s x) fun s'=>bx=s'.bx
 | .mapEntry T m k=>∃ bx v,e=.gn bx s.nb v∧fK P T ⟨fun _=>.un,s.bx,s.nb⟩ (ev G s m) (ev G s k) fun s' u=>bx=s'.bx∧v=u
 | .entryStore _ m n x=>∃ bx,e=.gn bx s.nb .sk∧gd ⟨fun _=>.un,s.bx,s.nb⟩ (ev G s m) (ev G s n) (ev G s x) fun s'=>bx=s'.bx
 | .call { callee:=.builtin .copy,args:=args,argTypes:=ts }=>∃ bx v,e=.gn bx s.nb v∧nJ P ⟨fun _=>.un,s.bx,s.nb⟩ (fun s' u=>bx=s'.bx∧v=u) ts.toList (args.toList.map (ev G s))
 | .call { callee:=.builtin .append,args:=args,argTypes:=ts }=>if nI tr o.dst then False else if Ad tr o.dst then ∃ bx v,e=.gn bx s.nb v∧eV P ⟨fun _=>.un,s.bx,s.nb⟩ (fun s' u=>bx=s'.bx∧v=u) ts.toList (args.toList.map (ev G s))
  else ∃ v,e=.v v∧VYK P G tr o s fun u=>v=u
 | .call { callee:=.builtin .clear,args:=args,argTypes:=ts }=>∃ bx,e=.gn bx s.nb .un∧iJ P ⟨fun _=>.un,s.bx,s.nb⟩ (fun s'=>bx=s'.bx) ts.toList (args.toList.map (ev G s))
 |_=>∃ v,e=.v v∧VYK P G tr o s fun u=>v=u
theorem QV {t:Option Tmp}:(s.use t).bx=s.bx:=by
 cases t with
 |none=>rfl
 |some t=>simp only[S.use];split<;>rfl
theorem ED {t:Option Tmp}:(s.use t).nb=s.nb:=by
 cases t with
 |none=>rfl
 |some t=>simp only[S.use];split<;>rfl
theorem wz (v:V):(Ef.v v).run tr o s=s.after tr o v:=by
 unfold Ef.run S.after S.use S.put EC G1
 cases bV tr o with
 |none=>cases o.dst<;>rfl
 |some t=>by_cases h:(s.fr t).isOw=true<;>cases o.dst<;>simp[h,Ef.uses,S.clr,Ef.val,Ef.bx,Ef.nb]
theorem EE (cs:List V):(Ef.al cs).run tr o s=(let s':=s.use (bV tr o);{ s' with bx:=up s'.bx s'.nb cs,nb:=s'.nb+1 }:S).put o.dst (.bp s.nb 0):=by
 unfold Ef.run S.use S.put EC G1
 cases bV tr o with
 |none=>cases o.dst<;>rfl
 |some t=>by_cases h:(s.fr t).isOw=true<;>cases o.dst<;>simp[h,Ef.uses,S.clr,Ef.val,Ef.bx,Ef.nb]
theorem QW (b k:Nat) (ds:List V):(Ef.st b k ds).run tr o s=(let s':=s.use (bV tr o);{ s' with bx:=up s'.bx b (eU (s'.bx b) k ds) }:S).put o.dst .sk:=by
 unfold Ef.run S.use S.put EC G1
 cases bV tr o with
 |none=>cases o.dst<;>rfl
 |some t=>by_cases h:(s.fr t).isOw=true<;>cases o.dst<;>simp[h,Ef.uses,S.clr,Ef.val,Ef.bx,Ef.nb]
theorem ju (bx:Nat→List V) (nb:Nat) (x:V):(Ef.gn bx nb x).run tr o s=(let s':=s.use (bV tr o);{ s' with bx:=bx,nb:=nb }:S).put o.dst x:=by
 unfold Ef.run S.use S.put EC G1
 cases bV tr o with
 |none=>cases o.dst<;>rfl
 |some t=>by_cases h:(s.fr t).isOw=true<;>cases o.dst<;>simp[h,Ef.uses,S.clr,Ef.val,Ef.bx,Ef.nb]
theorem sL {T:TypeId} {len:Nat} {parts:List (Nat×V)} {v:V} {K:V→Prop} (h:cG P T len parts (fun u=>v=u)) (hk:∀ u,v=u→K u):cG P T len parts K:=by
 unfold cG at h
 split at h
 ·rename_i e1
  split at h
  ·rename_i e2
   obtain⟨h0,h⟩:=h
   split at h
   ·rename_i e3
    unfold cG
    simp only[e1,e2,e3]
    exact⟨h0,hk _ h⟩
   ·exact h.elim
  ·exact h.elim
 ·exact h.elim
theorem G2 {f:V} {args:List V} {K:V→Prop} (h:l6 P G s f args K):∃ v,l6 P G s f args (fun u=>v=u)∧K v:=by
 unfold l6 at h
 split at h
 ·rename_i g all hc
  obtain⟨ρ,cargs,b0,r,h1,h2,h3,h4,h5,h6⟩:=h
  exact⟨r,by unfold l6;simp only[hc];exact⟨ρ,cargs,b0,r,h1,h2,h3,h4,h5,rfl⟩,h6⟩
 ·exact h.elim
theorem CH {s s':S} {ρ:Nat→Nat} (hn:s.nb≤s'.nb) (hb:∀ i,i<s.nb→s'.bx i=s.bx i):∀ (b:List (List V)) (i:Nat),pV s.bx s.nb ρ i b→pV s'.bx s'.nb ρ i b
 |[],_,_=>trivial
 |x::r,i,h=>⟨⟨ce h.1.1 hn,by rw[hb _ h.1.1];exact h.1.2⟩,CH hn hb r (i+1) h.2⟩
theorem yP {s s':S} {f:V} {args:List V} {K:V→Prop} (hn:s.nb≤s'.nb) (hb:∀ i,i<s.nb→s'.bx i=s.bx i) (h:l6 P G s f args K):l6 P G s' f args K:=by
 unfold l6 at h ⊢
 split at h
 ·rename_i g all hc
  obtain⟨ρ,cargs,b0,r,h1,h2,h3,h4,h5,h6⟩:=h
  exact⟨ρ,cargs,b0,r,h1,h2,h3,fun N=>CH hn hb _ _ (h4 N),h5,h6⟩
 ·exact h.elim
theorem NZ {bx:Nat→List V} {nb:Nat} {f:V} {l:List V} {K K':(Nat→List V)→Nat→V→Prop} (h:j4 P G bx nb f l K) (hk:∀ b n u,K b n u→K' b n u):j4 P G bx nb f l K':=by
 unfold j4 at h
 split at h
 ·rename_i e1
  unfold j4
  simp only[e1]
  obtain⟨ρ,cargs,b0,r,b1,h1,h2,h3,h4,h5⟩:=h
  exact⟨ρ,cargs,b0,r,b1,h1,h2,h3,h4,hk _ _ _ h5⟩
 ·exact h.elim
theorem G3 {T:TypeId} {l c:V} {K K':Nat→Nat→Nat→List C→Prop} (h:qG P T l c K) (hk:∀ n m sz z,K n m sz z→K' n m sz z):qG P T l c K':=by
 unfold qG at h
 split at h
 ·rename_i e1
  split at h
  ·rename_i e2
   unfold qG
   simp only[e1,e2]
   exact⟨h.1,hk _ _ _ _ h.2⟩
  ·exact h.elim
 ·exact h.elim
theorem sM:Ef.skip.run tr o s=s.put o.dst .sk:=by
 unfold Ef.run S.put EC G1
 cases bV tr o<;>cases o.dst<;>simp[Ef.uses,Ef.val,Ef.bx,Ef.nb]
theorem VStep.ef {K:S→Prop} (xF:lJ tr o=false) (h:VStep P G tr o s K):∃ e,e≠.skip∧VEf P G tr o s e∧K (e.run tr o s):=by
 have gen:VYK P G tr o s (fun v=>K (s.after tr o v))→(∀ e,VEf P G tr o s e↔∃ v,e=.v v∧VYK P G tr o s fun u=>v=u)→∃ e,e≠.skip∧VEf P G tr o s e∧K (e.run tr o s):=fun h hV=>by
  obtain⟨v,h1,h2⟩:=G0 h
  exact⟨.v v,by simp,(hV _).2 ⟨v,rfl,h1⟩,by rw[wz];exact h2⟩
 unfold VStep at h
 split at h
 ·rename_i T cm
  split at h
  ·rename_i z _ _ hi
   refine⟨.al (z.map nH),by simp,by unfold VEf;rw[cm];simp only[hi],?_⟩
   rw[EE]
   have:bV tr o=none:=by simp[bV,cm]
   rw[this];exact h
  ·exact h.elim
 ·rename_i T X cm
  split at h
  ·rename_i cs hi
   refine⟨.al cs,by simp,by unfold VEf;rw[cm];simp only[hi],?_⟩
   rw[EE];exact h
  ·exact h.elim
 ·rename_i T p X cm
  obtain⟨lz,h⟩:=h
  split at h
  ·rename_i i b k cs h1 h2 h3
   obtain⟨h4,h⟩:=h
   refine⟨.st b k cs,by simp,by unfold VEf;rw[cm];simp only[h1,h2,h3];rw[h2] at lz;exact⟨lz,h4,trivial⟩,?_⟩
   rw[QW];exact h
  ·rename_i i blk j h1 h2
   rcases h with h | ⟨b,k,len,cap,q,E,es,cs,h4,h⟩
   rotate_left
   ·refine⟨.gn (up s.bx b ((s.bx b).set k (.gg (.slice (some ⟨blk,0,none⟩) len cap) (some (E,i.size)) (es.set q cs)))) s.nb .sk,by simp,by unfold VEf;rw[cm];simp only[h1,h2];rw[h2] at lz;exact⟨lz,.inr ⟨b,k,len,cap,q,E,es,cs,h4,rfl⟩⟩,?_⟩
    rw[ju]
    have e:∀ bx,({ s.use (bV tr o) with bx:=bx,nb:=s.nb }:S)={ s.use (bV tr o) with bx:=bx }:=fun bx=>by rw[← ED (s:=s) (t:=bV tr o)]
    show K (({ s.use (bV tr o) with bx:=_,nb:=s.nb }:S).put o.dst .sk)
    rw[e]
    exact h
   obtain⟨b,k,len,cap,E,es,r,e',c,h4,h⟩:=h
   refine⟨.gn (up s.bx b ((s.bx b).set k (.hh (some (.slice (some ⟨blk,0,none⟩) len cap)) E (es++[e'.set r c])))) s.nb .sk,by simp,by unfold VEf;rw[cm];simp only[h1,h2];rw[h2] at lz;exact⟨lz,.inl ⟨b,k,len,cap,E,es,r,e',c,h4,rfl⟩⟩,?_⟩
   rw[ju]
   have h':K (({ s.use (bV tr o) with bx:=up (s.use (bV tr o)).bx b (((s.use (bV tr o)).bx b).set k (.hh (some (.slice (some ⟨blk,0,none⟩) len cap)) E (es++[e'.set r c]))) }:S).put o.dst .sk):=h
   rw[QV] at h'
   have e:({ s.use (bV tr o) with bx:=up s.bx b ((s.bx b).set k (.hh (some (.slice (some ⟨blk,0,none⟩) len cap)) E (es++[e'.set r c]))),nb:=s.nb }:S)={ s.use (bV tr o) with bx:=up s.bx b ((s.bx b).set k (.hh (some (.slice (some ⟨blk,0,none⟩) len cap)) E (es++[e'.set r c]))) }:=by rw[← ED (s:=s) (t:=bV tr o)]
   show K (({ s.use (bV tr o) with bx:=up s.bx b ((s.bx b).set k (.hh (some (.slice (some ⟨blk,0,none⟩) len cap)) E (es++[e'.set r c]))),nb:=s.nb }:S).put o.dst .sk)
   rw[e]
   exact h'
  ·exact h.elim
 ·rename_i T len parts cm
  split at h
  ·rename_i hn
   obtain⟨v,h1,h2⟩:=np h
   obtain⟨bx,nb,x,h3,h4⟩:=Av h2
   refine⟨.gn bx nb x,by simp,?_,?_⟩
   ·unfold VEf;rw[cm];simp only[hn,cL]
    refine⟨bx,nb,x,rfl,?_⟩
    refine sL h1 fun u hu=>?_
    subst hu;exact h3
   ·rw[ju]
    have:bV tr o=none:=by simp[bV,cm]
    rw[this];exact h4
  ·rename_i hn
   have hb:Qx tr o.dst=false:=by simpa[lJ,cm] using xF
   simp only[hb,aM,dy] at h
   refine gen h fun e=>?_
   unfold VEf;rw[cm];simp only[if_neg hn]
 ·rename_i T l c cm
  obtain⟨p,m,sz,z,h1,h2⟩:=JP h
  refine⟨.gn (up s.bx s.nb ((List.replicate m z).flatten.map .c)) (s.nb+1) (.ms s.nb 0 p m sz),by simp,?_,?_⟩
  ·unfold VEf;rw[cm]
   refine⟨_,_,_,rfl,?_⟩
   refine G3 h1 fun n' m' sz' z' hh=>?_
   obtain⟨rfl,rfl,rfl,rfl⟩:=hh
   exact⟨⟨rfl,rfl⟩,rfl⟩
  ·rw[ju]
   have:bV tr o=none:=by simp[bV,cm]
   rw[this];exact h2
 ·rename_i f args ts cm
  have hye:Jv tr o.dst=false∧Qr tr o.dst=false:=by simpa[lJ,cm] using xF
  have hy:=hye.1
  have hef:=hye.2
  simp only[hy,hef,aM,dy] at h
  split at h
  ·rename_i hn
   obtain⟨bx,nb,x,h3,h4⟩:=GQ h
   have h5:(BY tr o.dst=true→aap tr o.dst s ⟨s.fr,bx,nb⟩)∧K ((⟨s.fr,bx,nb⟩:S).put o.dst x):=by
    by_cases hl:BY tr o.dst=true
    ·rw[if_pos hl] at h4;exact⟨fun _=>h4.1,h4.2⟩
    ·rw[if_neg hl] at h4;exact⟨fun h=>absurd h hl,h4⟩
   refine⟨.gn bx nb x,by simp,?_,?_⟩
   ·unfold VEf;rw[cm];simp only[hn,cL]
    exact⟨bx,nb,x,rfl,h3,h5.1⟩
   ·rw[ju]
    have:bV tr o=none:=by simp[bV,cm]
    rw[this];exact h5.2
  ·rename_i hn
   by_cases Nv:Nz tr o.dst=true
   ·unfold VYQ at h;rw[if_pos Nv] at h
    obtain⟨v,h1,h2⟩:=G2 h
    exact⟨.v v,by simp,by unfold VEf;rw[cm];simp only[if_neg hn];exact⟨v,rfl,by unfold VYQ;rw[if_pos Nv];exact h1⟩,by rw[wz];exact h2⟩
   ·unfold VYQ at h;rw[if_neg Nv] at h
    refine gen h fun e=>?_
    unfold VEf;rw[cm];simp only[if_neg hn,VYQ,if_neg Nv]
 ·rename_i args ts cm
  have hn:nI tr o.dst=false:=by simpa[lJ,cm] using xF
  simp only[hn,aM,dy] at h
  split at h
  ·rename_i hr
   have hu:=wy (tr:=tr) cm h
   obtain⟨bx,v,h1,h2⟩:=B9 h
   refine⟨.gn bx s.nb v,by simp,by unfold VEf;rw[cm];simp only[hn,hr,aM,dy,cL];exact⟨bx,v,rfl,h1⟩,?_⟩
   rw[ju,hu];exact h2
  ·rename_i hr
   refine gen h fun e=>?_
   unfold VEf;rw[cm];simp only[hn,aM,dy,if_neg hr]
 ·rename_i args ts cm
  obtain⟨bx,v,h1,h2⟩:=JQ h
  refine⟨.gn bx s.nb v,by simp,by unfold VEf;rw[cm];exact⟨bx,v,rfl,h1⟩,?_⟩
  have:bV tr o=none:=by simp[bV,cm]
  rw[ju,this];exact h2
 ·rename_i args ts cm
  obtain⟨bx,h1,h2⟩:=GU h
  refine⟨.gn bx s.nb .un,by simp,by unfold VEf;rw[cm];exact⟨bx,rfl,h1⟩,?_⟩
  have:bV tr o=none:=by simp[bV,cm]
  rw[ju,this];exact h2
 ·rename_i args ts cm
  have hn:Qy tr o.dst=false:=by simpa[lJ,cm] using xF
  simp only[hn,aM,dy] at h
  refine gen h fun e=>?_
  unfold VEf;rw[cm]
 ·rename_i src dst X cm
  have hn:nI tr o.dst=false:=by simpa[lJ,cm] using xF
  simp only[hn,aM,dy] at h
  refine gen h fun e=>?_
  unfold VEf;rw[cm]
 ·rename_i op T X Y yT cm
  have hn:zF Y=false:=by simpa[lJ,cm] using xF
  simp only[hn,aM,dy] at h
  refine gen h fun e=>?_
  unfold VEf;rw[cm]
 ·rename_i T X cm
  have hn:isZ tr o.dst=false:=by simpa[lJ,cm] using xF
  simp only[hn,aM,dy] at h
  obtain⟨lz,h⟩:=h
  obtain⟨v,h1,h2⟩:=G0 h
  exact⟨.v v,by simp,by unfold VEf;rw[cm];exact⟨v,rfl,lz,h1⟩,by rw[wz];exact h2⟩
 ·rename_i T parts cm
  have hn:isZ tr o.dst=false:=by simpa[lJ,cm] using xF
  simp only[hn,aM,dy] at h
  refine gen h fun e=>?_
  unfold VEf;rw[cm]
 ·rename_i cm;simp[lJ,cm] at xF
 ·rename_i T m k X cm
  obtain⟨bx,h1,h2⟩:=Ez h
  refine⟨.gn bx s.nb .sk,by simp,by unfold VEf;rw[cm];exact⟨bx,rfl,h1⟩,?_⟩
  have:bV tr o=none:=by simp[bV,cm]
  rw[ju,this];exact h2
 ·rename_i T m k cm
  obtain⟨bx,v,h1,h2⟩:=Aw h
  refine⟨.gn bx s.nb v,by simp,by unfold VEf;rw[cm];exact⟨bx,v,rfl,h1⟩,?_⟩
  have:bV tr o=none:=by simp[bV,cm]
  rw[ju,this];exact h2
 ·rename_i T m k X cm
  obtain⟨bx,h1,h2⟩:=Ax h
  refine⟨.gn bx s.nb .sk,by simp,by unfold VEf;rw[cm];exact⟨bx,rfl,h1⟩,?_⟩
  have:bV tr o=none:=by simp[bV,cm]
  rw[ju,this];exact h2
 ·rename_i cm;simp[lJ,cm] at xF
 ·rename_i cm;simp[lJ,cm] at xF
 ·rename_i n1 n2 n3 n4 n5 n6 n7 n8 n9 n10 n11 n12 n13 n14 n15 n16 n17 n18 n19 n20
  refine gen h fun e=>?_
  unfold VEf
  split
  ·rename_i cm;exact absurd cm (n1 _)
  ·rename_i cm;exact absurd cm (n2 _ _)
  ·rename_i cm;exact absurd cm (n3 _ _ _)
  ·rename_i cm;exact absurd cm (n4 _ _ _)
  ·rename_i cm;exact absurd cm (n5 _ _ _)
  ·rename_i cm;exact absurd cm (n6 _ _ _)
  ·rename_i cm;exact absurd cm (n13 _ _)
  ·rename_i cm;exact absurd cm (n16 _ _ _ _)
  ·rename_i cm;exact absurd cm (n17 _ _ _)
  ·rename_i cm;exact absurd cm (n18 _ _ _ _)
  ·rename_i cm;exact absurd cm (n8 _ _)
  ·rename_i cm;exact absurd cm (n7 _ _)
  ·rename_i cm;exact absurd cm (n9 _ _)
  ·exact Iff.rfl
variable {n:Nat} {I0:Ft} {M:Mx} {w0:World} {I:Ft} {β:Nat→Option Nat} {ob:Loc→Option Nat} {a:Act} {w:World} {next:Act→World→Prop} {Q:Exit→Act→World→Prop}
theorem ub {e:Ef} (hst:St G n I0 M w0 I β ob s a w) (hd:∀ d,o.dst=some d→d<n) (h:VEf P G tr o s e)
 (hk:∀ a' w',SE G n I0 M w0 (e.run tr o s) a' w'→next a' w'):o.wp P a w next Q:=by
 have viaStep:pW tr o=false→VStep P G tr o s (fun s'=>e.run tr o s=s')→o.wp P a w next Q:=fun hy h=>
  nQ (tr:=tr) hst hd hy h (fun a' w' s' hs cE=>hk a' w' (by rw[hs];exact cE))
 unfold VEf at h
 split at h
 ·rename_i T cm
  split at h
  ·rename_i z _ _ hi
   subst h
   refine viaStep (by simp[pW,cm]) ?_
   unfold VStep
   rw[cm]
   simp only[hi]
   rw[EE]
   have:bV tr o=none:=by simp[bV,cm]
   rw[this];rfl
  ·exact h.elim
 ·rename_i T X cm
  split at h
  ·rename_i cs hi
   subst h
   refine viaStep (by simp[pW,cm]) ?_
   unfold VStep
   rw[cm]
   simp only[hi]
   rw[EE]
  ·exact h.elim
 ·rename_i T p X cm
  obtain⟨lz,h⟩:=h
  split at h
  ·rename_i i b k cs h1 h2 h3
   obtain⟨h4,rfl⟩:=h
   refine viaStep (by simp[pW,cm]) ?_
   unfold VStep
   rw[cm]
   simp only[h1,h2,h3]
   rw[QW]
   rw[h2] at lz
   exact⟨lz,h4,rfl⟩
  ·rename_i i blk j h1 h2
   rcases h with h | ⟨b,k,len,cap,q,E,es,cs,h4,rfl⟩
   rotate_left
   ·refine viaStep (by simp[pW,cm]) ?_
    unfold VStep
    rw[cm]
    simp only[h1,h2]
    rw[ju]
    rw[h2] at lz
    refine⟨lz,.inr ⟨b,k,len,cap,q,E,es,cs,h4,?_⟩⟩
    have e:∀ bx,({ s.use (bV tr o) with bx:=bx,nb:=s.nb }:S)={ s.use (bV tr o) with bx:=bx }:=fun bx=>by rw[← ED (s:=s) (t:=bV tr o)]
    show({ s.use (bV tr o) with bx:=_,nb:=s.nb }:S).put o.dst .sk=_
    rw[e]
   obtain⟨b,k,len,cap,E,es,r,e',c,h4,rfl⟩:=h
   refine viaStep (by simp[pW,cm]) ?_
   unfold VStep
   rw[cm]
   simp only[h1,h2]
   rw[ju]
   rw[h2] at lz
   refine⟨lz,.inl ⟨b,k,len,cap,E,es,r,e',c,h4,?_⟩⟩
   have e:({ s.use (bV tr o) with bx:=up s.bx b ((s.bx b).set k (.hh (some (.slice (some ⟨blk,0,none⟩) len cap)) E (es++[e'.set r c]))),nb:=s.nb }:S)={ s.use (bV tr o) with bx:=up s.bx b ((s.bx b).set k (.hh (some (.slice (some ⟨blk,0,none⟩) len cap)) E (es++[e'.set r c]))) }:=by rw[← ED (s:=s) (t:=bV tr o)]
   show({ s.use (bV tr o) with bx:=up s.bx b ((s.bx b).set k (.hh (some (.slice (some ⟨blk,0,none⟩) len cap)) E (es++[e'.set r c]))),nb:=s.nb }:S).put o.dst .sk=({ s.use (bV tr o) with bx:=up (s.use (bV tr o)).bx b (((s.use (bV tr o)).bx b).set k (.hh (some (.slice (some ⟨blk,0,none⟩) len cap)) E (es++[e'.set r c]))) }:S).put o.dst .sk
   rw[e,QV]
  ·exact h.elim
 ·rename_i T len parts cm
  split at h
  ·rename_i hn
   obtain⟨bx,nb,x,rfl,h⟩:=h
   refine viaStep (by simp[pW,cm]) ?_
   unfold VStep
   rw[cm]
   simp only[hn,cL]
   have:bV tr o=none:=by simp[bV,cm]
   rw[ju,this]
   obtain⟨v,h1,h2⟩:=np h
   refine sL h1 fun u hu=>?_
   subst hu
   obtain⟨b,n,y,h3,⟨rfl,rfl⟩,rfl⟩:=Av h2
   unfold Qt
   unfold Ac at h3 ⊢
   split at h3
   ·obtain⟨⟨rfl,rfl⟩,rfl⟩:=h3;rfl
   ·exact h3.elim
  ·rename_i hn
   obtain⟨v,rfl,h⟩:=h
   exact o0 (tr:=tr) hst hd h (fun a' w' x hx cE=>hk a' w' (by rw[wz];subst hx;exact cE))
 ·rename_i T l c cm
  obtain⟨bx,nb,x,rfl,h⟩:=h
  refine viaStep (by simp[pW,cm]) ?_
  unfold VStep
  rw[cm]
  have:bV tr o=none:=by simp[bV,cm]
  rw[ju,this]
  refine G3 h fun n m sz z hh=>?_
  obtain⟨⟨rfl,rfl⟩,rfl⟩:=hh
  rfl
 ·rename_i f args ts cm
  split at h
  ·rename_i hn
   obtain⟨bx,nb,x,rfl,h,hlc⟩:=h
   have hc:bV tr o=none:=by simp[bV,cm]
   refine rq (K:=fun s' u=>s'.put o.dst u=(Ef.gn bx nb x).run tr o s) cm hst hd ?_ (fun a' w' s' u hK cE=>hk a' w' (by rw[← hK];exact cE))
   unfold vcallB
   refine NZ h fun b n u hh=>?_
   obtain⟨⟨rfl,rfl⟩,rfl⟩:=hh
   rw[ju,hc];rfl
  ·rename_i hn
   obtain⟨v,rfl,h⟩:=h
   exact CE (tr:=tr) cm hst hd h (fun a' w' x hx cE=>hk a' w' (by rw[wz];subst hx;exact cE))
 ·obtain⟨v,rfl,_,h⟩:=h
  exact o0 (tr:=tr) hst hd h (fun a' w' x hx cE=>hk a' w' (by rw[wz];subst hx;exact cE))
 ·rename_i T m k X cm
  obtain⟨bx,rfl,h⟩:=h
  refine viaStep (by simp[pW,cm]) ?_
  have:bV tr o=none:=by simp[bV,cm]
  rw[ju,this]
  unfold VStep
  rw[cm]
  exact NX (EA h) fun s' e=>by rw[← e];rfl
 ·rename_i T m k cm
  obtain⟨bx,v,rfl,h⟩:=h
  refine viaStep (by simp[pW,cm]) ?_
  have:bV tr o=none:=by simp[bV,cm]
  rw[ju,this]
  unfold VStep
  rw[cm]
  exact sK (pm h) fun s' u e=>by rw[← e.1,← e.2];rfl
 ·rename_i T m k X cm
  obtain⟨bx,rfl,h⟩:=h
  refine viaStep (by simp[pW,cm]) ?_
  have:bV tr o=none:=by simp[bV,cm]
  rw[ju,this]
  unfold VStep
  rw[cm]
  exact GW (Ay h) fun s' e=>by rw[← e];rfl
 ·rename_i args ts cm
  obtain⟨bx,v,rfl,h⟩:=h
  refine viaStep (by simp[pW,cm]) ?_
  have:bV tr o=none:=by simp[bV,cm]
  rw[ju,this]
  unfold VStep
  rw[cm]
  exact Wb (JR h) fun s' u e=>by rw[← e.1,← e.2];rfl
 ·rename_i args ts cm
  split at h
  ·exact h.elim
  rename_i hn
  split at h
  ·rename_i hr
   obtain⟨bx,v,rfl,h⟩:=h
   refine viaStep (by simp[pW,cm]) ?_
   rw[ju,wy (tr:=tr) cm h]
   unfold VStep
   rw[cm]
   simp only[hn,hr,cL,dy,aM]
   refine JS (Ca h) (fun s' u e=>?_)
   rw[← e.1,← e.2]
  ·obtain⟨v,rfl,h⟩:=h
   exact o0 (tr:=tr) hst hd h (fun a' w' x hx cE=>hk a' w' (by rw[wz];subst hx;exact cE))
 ·rename_i args ts cm
  obtain⟨bx,rfl,h⟩:=h
  refine viaStep (by simp[pW,cm]) ?_
  have:bV tr o=none:=by simp[bV,cm]
  rw[ju,this]
  unfold VStep
  rw[cm]
  exact QU (GV h) fun s' e=>by rw[← e];rfl
 ·obtain⟨v,rfl,h⟩:=h
  exact o0 (tr:=tr) hst hd h (fun a' w' x hx cE=>hk a' w' (by rw[wz];subst hx;exact cE))
def dF (tr:List Nat) (o:Oper):Nat:=
 match o.op with
 | .call { callee:=.builtin .copy,.. }=>2
 | .call { callee:=.builtin .clear,.. }=>2
 | .load _ _ | .convert _ _ _ | .lookup _ _ _ _ | .range _ _ | .entry _=>1
 | .call { callee:=.builtin .append,.. }=>if Ad tr o.dst then 2 else 1
 | .call { callee:=.value _,.. }=>if wb tr o.dst then 2 else 1
 | .buildSlice _ _ _=>if nI tr o.dst then 2 else 0
 | .alloc _ | .box _ _ | .store _ _ _ | .makeSlice _ _ _ | .mapUpdate _ _ _ _ | .mapEntry _ _ _ | .entryStore _ _ _ _=>2
 |_=>0
theorem AA {s':S} {x:Operand} (h:∀ t,x=.tmp t→s.fr t=s'.fr t):ev G s x=ev G s' x:=by
 cases x<;>simp only[ev]
 exact h _ rfl
theorem Wc {s':S} (hb:s.bx=s'.bx) (hn:s.nb=s'.nb):imm s=imm s':=by
 obtain⟨fr,bx,nb⟩:=s
 obtain⟨fr',bx',nb'⟩:=s'
 simp only at hb hn
 subst hb;subst hn
 funext x
 cases x<;>rfl
theorem EF {s':S} (hb:s.bx=s'.bx) (hn:s.nb=s'.nb):vw s=vw s':=by
 obtain⟨fr,bx,nb⟩:=s
 obtain⟨fr',bx',nb'⟩:=s'
 simp only at hb hn
 subst hb;subst hn
 funext x
 cases x<;>rfl
theorem qK {s':S} {K:V→Prop} (zD:∀ d,o.dst=some d→s.fr d=s'.fr d) (he:∀ x∈o.op.operands,ev G s x=ev G s' x) (hm:dF tr o≠0→s.bx=s'.bx∧s.nb=s'.nb) (h:VYK P G tr o s K):VYK P G tr o s' K:=by
 have marr:∀ l:Array Operand,(∀ x∈l,ev G s x=ev G s' x)→l.toList.map (ev G s)=l.toList.map (ev G s'):=fun l hl=>cz fun x hx=>hl x (by simpa using hx)
 have mopt:∀ l:Option Operand,(∀ x,l=some x→ev G s x=ev G s' x)→l.map (ev G s)=l.map (ev G s'):=fun l hl=>by cases l with
  |none=>rfl
  |some x=>simp only[bO,hl x rfl]
 obtain⟨dst,op,type,pos,after,guard⟩:=o
 cases op<;>simp only[VYK] at h ⊢<;>try exact h
 case move x=>rw[← he x (by simp[Op.operands])];exact h
 case assign x=>rw[← he x (by simp[Op.operands])];exact h
 case pick c a b=>rw[← he c (by simp[Op.operands]),← he a (by simp[Op.operands]),← he b (by simp[Op.operands])];exact h
 case build T parts=>
  have:(parts.toList.map fun(i,x)=>(i,ev G s' x))=parts.toList.map fun(i,x)=>(i,ev G s x):=cz fun p hp=>by
   obtain⟨i,x⟩:=p
   simp only[he x (by simp only[Op.operands,fQ,br];exact⟨(i,x),hp,rfl⟩)]
  rw[this];exact h
 case buildSlice T len parts=>
  have:(parts.toList.map fun(i,x)=>(i,ev G s' x))=parts.toList.map fun(i,x)=>(i,ev G s x):=cz fun p hp=>by
   obtain⟨i,x⟩:=p
   simp only[he x (by simp only[Op.operands,fQ,br];exact⟨(i,x),hp,rfl⟩)]
  rw[this];exact h
 case load T x=>
  obtain⟨h1,h2⟩:=hm (by simp[dF])
  rw[← he x (by simp[Op.operands])]
  unfold dH at h ⊢
  rw[← h1,← h2];exact h
 case lookup T x k ok=>
  obtain⟨h1,h2⟩:=hm (by simp[dF])
  rw[← he x (by simp[Op.operands]),← he k (by simp[Op.operands])]
  unfold fG iI at h ⊢
  rw[← h1,← h2];exact h
 case range T x=>
  obtain⟨h1,h2⟩:=hm (by simp[dF])
  rw[← he x (by simp[Op.operands])]
  unfold oh at h ⊢
  rw[← h1,← h2];exact h
 case entry x=>
  obtain⟨h1,h2⟩:=hm (by simp[dF])
  rw[← he x (by simp[Op.operands])]
  unfold nk at h ⊢
  rw[← h1,← h2];exact h
 case binOp op T x y yT=>rw[← he x (by simp[Op.operands]),← he y (by simp[Op.operands])];exact h
 case unOp op T x=>rw[← he x (by simp[Op.operands])];exact h
 case convert src dst x=>
  obtain⟨h1,h2⟩:=hm (by simp[dF])
  rw[← he x (by simp[Op.operands]),← EF h1 h2];exact h
 case makeFunc f a b=>rw[← marr a fun x hx=>he x (by simp[Op.operands,hx]),← marr b fun x hx=>he x (by simp[Op.operands,hx])];exact h
 case sliceToArrayPointer T x=>rw[← he x (by simp[Op.operands])];exact h
 case nilCheck x=>rw[← he x (by simp[Op.operands])];exact h
 case slice T x lo hi mx=>
  rw[← he x (by simp[Op.operands]),← mopt lo fun x hx=>he x (by simp[Op.operands,hx]),← mopt hi fun x hx=>he x (by simp[Op.operands,hx]),← mopt mx fun x hx=>he x (by simp[Op.operands,hx])];exact h
 case fieldAddr T x f=>rw[← he x (by simp[Op.operands])];exact h
 case field T x f=>rw[← he x (by simp[Op.operands])];exact h
 case indexAddr T x i=>rw[← he x (by simp[Op.operands]),← he i (by simp[Op.operands])];exact h
 case index T x i=>rw[← he x (by simp[Op.operands]),← he i (by simp[Op.operands])];exact h
 case extract x i=>rw[← he x (by simp[Op.operands])];exact h
 case call c=>
  obtain⟨callee,args,ts⟩:=c
  cases callee with
  |value f=>
   simp only at h ⊢
   obtain⟨h1,h2⟩:=hm (by simp only[dF];split<;>simp)
   rw[← he f (by simp[Op.operands,Call.operands]),← marr args fun x hx=>he x (by simp[Op.operands,Call.operands,hx])]
   unfold qF at h ⊢
   rw[← Wc h1 h2];exact h
  |invoke r m=>exact h
  |builtin b=>
   cases b
   case append=>
    simp only at h ⊢
    obtain⟨h1,h2⟩:=hm (by simp only[dF];split<;>simp)
    have:(args.toList.map fun x=>vw s' (ev G s' x))=args.toList.map fun x=>vw s (ev G s x):=cz fun x hx=>by
     rw[EF h1 h2,he x (by simp only[Op.operands,Call.operands];simpa using hx)]
    rw[this]
    split at h
    ·rename_i hg
     rw[if_pos hg]
     split at h
     ·rename_i Gn
      rw[if_pos Gn]
      unfold wa at h ⊢
      split at h
      ·rename_i t y d ha
       have ht:s.fr t=s'.fr t:=by
        have:=he (.tmp t) (by simp only[Op.operands,Call.operands];rw[eE];exact cH.1 (by rw[ha];simp))
        simpa[ev] using this
       have hy:ev G s y=ev G s' y:=he y (by simp only[Op.operands,Call.operands];rw[eE];exact cH.1 (by rw[ha];simp))
       rw[← ht,← zD d rfl,← hy,← EF h1 h2]
       exact h
      ·exact h.elim
     ·rename_i Gn
      rw[if_neg Gn]
      unfold jO at h ⊢
      split at h
      ·rename_i t y d ha
       have ht:s.fr t=s'.fr t:=by
        have:=he (.tmp t) (by simp only[Op.operands,Call.operands];rw[eE];exact cH.1 (by rw[ha];simp))
        simpa[ev] using this
       have hy:ev G s y=ev G s' y:=he y (by simp only[Op.operands,Call.operands];rw[eE];exact cH.1 (by rw[ha];simp))
       rw[← ht,← zD d rfl,← hy,← EF h1 h2]
       exact h
      ·exact h.elim
    ·rename_i hg
     rw[if_neg hg];exact h
   all_goals
    simp only at h ⊢
    rw[← marr args fun x hx=>he x (by simp[Op.operands,Call.operands,hx])];exact h
theorem N1 {s':S} {e:Ef} (zD:∀ d,o.dst=some d→s.fr d=s'.fr d) (he:∀ x∈o.op.operands,ev G s x=ev G s' x) (hm:dF tr o≠0→s.bx=s'.bx∧s.nb=s'.nb) (h:VEf P G tr o s e):VEf P G tr o s' e:=by
 unfold VEf at h ⊢
 split at h
 ·exact h
 ·rename_i T X cm
  rw[← he X (by rw[cm];simp[Op.operands])];exact h
 ·rename_i T p X cm
  obtain⟨h1,h2⟩:=hm (by simp[dF,cm])
  rw[← he p (by rw[cm];simp[Op.operands]),← he X (by rw[cm];simp[Op.operands]),← h1,← h2];exact h
 ·rename_i T len parts cm
  have:(parts.toList.map fun(i,x)=>(i,ev G s' x))=parts.toList.map fun(i,x)=>(i,ev G s x):=cz fun p hp=>by
   obtain⟨i,x⟩:=p
   simp only[he x (by rw[cm];simp only[Op.operands,fQ,br];exact⟨(i,x),hp,rfl⟩)]
  split at h
  ·rename_i hn
   rw[if_pos hn]
   obtain⟨h1,h2⟩:=hm (by simp[dF,cm,hn])
   rw[this,← h1,← h2];exact h
  ·rename_i hn
   rw[if_neg hn]
   obtain⟨v,h1,h2⟩:=h
   exact⟨v,h1,qK zD he hm h2⟩
 ·rename_i T l c cm
  obtain⟨h1,h2⟩:=hm (by simp[dF,cm])
  rw[← he l (by rw[cm];simp[Op.operands]),← he c (by rw[cm];simp[Op.operands]),← h1,← h2];exact h
 ·rename_i f args ts cm
  split at h
  ·rename_i hn
   rw[if_pos hn]
   obtain⟨h1,h2⟩:=hm (by simp[dF,cm,hn])
   have:args.toList.map (ev G s)=args.toList.map (ev G s'):=cz fun x hx=>he x (by rw[cm];simp only[Op.operands,Call.operands];simp at hx;simp[hx])
   rw[← he f (by rw[cm];simp[Op.operands,Call.operands]),← this,← h1,← h2];exact h
  ·rename_i hn
   rw[if_neg hn]
   obtain⟨v,h1,h2⟩:=h
   refine⟨v,h1,?_⟩
   unfold VYQ at h2 ⊢
   split
   ·rename_i Nv
    rw[if_pos Nv] at h2
    obtain⟨q1,q2⟩:=hm (by simp[dF,cm,hn])
    have:args.toList.map (ev G s)=args.toList.map (ev G s'):=cz fun x hx=>he x (by rw[cm];simp only[Op.operands,Call.operands];simp at hx;simp[hx])
    rw[← he f (by rw[cm];simp[Op.operands,Call.operands]),← this]
    exact yP (dE q2) (fun i _=>by rw[q1]) h2
   ·rename_i Nv
    rw[if_neg Nv] at h2
    exact qK zD he hm h2
 ·rename_i T X cm
  obtain⟨v,h1,lz,h2⟩:=h
  exact⟨v,h1,by rw[← he X (by rw[cm];simp[Op.operands])];exact lz,qK zD he hm h2⟩
 ·rename_i T m k X cm
  obtain⟨h1,h2⟩:=hm (by simp[dF,cm])
  rw[← he m (by rw[cm];simp[Op.operands]),← he k (by rw[cm];simp[Op.operands]),← he X (by rw[cm];simp[Op.operands]),← h1,← h2];exact h
 ·rename_i T m k cm
  obtain⟨h1,h2⟩:=hm (by simp[dF,cm])
  rw[← he m (by rw[cm];simp[Op.operands]),← he k (by rw[cm];simp[Op.operands]),← h1,← h2];exact h
 ·rename_i T m k X cm
  obtain⟨h1,h2⟩:=hm (by simp[dF,cm])
  rw[← he m (by rw[cm];simp[Op.operands]),← he k (by rw[cm];simp[Op.operands]),← he X (by rw[cm];simp[Op.operands]),← h1,← h2];exact h
 ·rename_i args ts cm
  obtain⟨h1,h2⟩:=hm (by simp[dF,cm])
  have:args.toList.map (ev G s)=args.toList.map (ev G s'):=cz fun x hx=>he x (by rw[cm];simp only[Op.operands,Call.operands];simpa using hx)
  rw[← this,← h1,← h2];exact h
 ·rename_i args ts cm
  split at h
  ·exact h.elim
  rename_i hn
  rw[if_neg hn]
  split at h
  ·rename_i hr
   rw[if_pos hr]
   obtain⟨h1,h2⟩:=hm (by simp[dF,cm,hr])
   have:args.toList.map (ev G s)=args.toList.map (ev G s'):=cz fun x hx=>he x (by rw[cm];simp only[Op.operands,Call.operands];simpa using hx)
   rw[← this,← h1,← h2];exact h
  ·rename_i hr
   rw[if_neg hr]
   obtain⟨v,h1,h2⟩:=h
   exact⟨v,h1,qK zD he hm h2⟩
 ·rename_i args ts cm
  obtain⟨h1,h2⟩:=hm (by simp[dF,cm])
  have:args.toList.map (ev G s)=args.toList.map (ev G s'):=cz fun x hx=>he x (by rw[cm];simp only[Op.operands,Call.operands];simpa using hx)
  rw[← this,← h1,← h2];exact h
 ·obtain⟨v,h1,h2⟩:=h
  exact⟨v,h1,qK zD he hm h2⟩
def uK (ops:Array Oper) (o:Oper) (s:S):Option Bool:=
 match o.guard with
 |none=>some true
 |some (j,want)=>match(ops[j]?).bind (·.dst) with
  |some d=>match s.fr d with
   | .c (.lit (.bool p))=>some (p==want)
   | .sk=>some false
   |_=>none
  |none=>none
def TEf (P:Program) (G:Gl) (tr:List Nat) (ops:Array Oper) (o:Oper) (s:S) (e:Ef):Prop:=
 (uK ops o s=some true∧VEf P G tr o s e∧e≠.skip)∨(uK ops o s=some false∧e=.skip)
theorem fX {K:S→Prop} (xF:lJ tr o=false) (h:nl ops o s (fun s=>VStep P G tr o s K) (fun s=>K (s.put o.dst .sk))):∃ e,TEf P G tr ops o s e∧K (e.run tr o s):=by
 unfold nl at h
 have yes:uK ops o s=some true→VStep P G tr o s K→∃ e,TEf P G tr ops o s e∧K (e.run tr o s):=fun hg hv=>by
  obtain⟨e,h1,h2,h3⟩:=hv.ef xF
  exact⟨e,.inl ⟨hg,h2,h1⟩,h3⟩
 have no:uK ops o s=some false→K (s.put o.dst .sk)→∃ e,TEf P G tr ops o s e∧K (e.run tr o s):=fun hg hv=>⟨.skip,.inr ⟨hg,rfl⟩,by rw[sM];exact hv⟩
 split at h
 ·rename_i hg
  exact yes (by unfold uK;rw[hg]) h
 ·rename_i j want hg
  split at h
  ·rename_i d hd
   split at h
   ·rename_i p hp
    by_cases hpw:p=want
    ·subst hpw
     have:=h.1 rfl
     rw[S.up_id hp] at this
     exact yes (by unfold uK;simp only[hg,hd,hp,beq_self_eq_true]) this
    ·have Gg:p=!want:=by cases p<;>cases want<;>simp_all
     have:=h.2 Gg
     rw[← Gg,S.up_id hp] at this
     exact no (by unfold uK;simp only[hg,hd,hp];simpa using hpw) this
   ·rename_i hp
    exact no (by unfold uK;simp only[hg,hd,hp]) h
   ·exact h.elim
  ·exact h.elim
theorem kj (hst:St G n I0 M w0 I β ob s a w) {p:Bool} (h:uK ops o s=some p):Region.wanted o (yielded ops a.tmps)=p:=by
 unfold uK at h
 unfold Region.wanted
 split at h
 ·rename_i hg;rw[hg];simpa using h
 ·rename_i j want hg
  rw[hg]
  split at h
  ·rename_i d hd
   split at h
   ·rename_i q hq
    simp only[wv hst hd hq]
    simp only[ao] at h
    rw[← h];cases q<;>cases want<;>rfl
   ·rename_i hq
    simp only[Au hst hd hq]
    simp only[ao] at h
    rw[← h];rfl
   ·cases h
  ·cases h
def pn (P:Program) (G:Gl) (tr:List Nat) (ops:Array Oper) (i:Nat) (K:S→Prop) (s:S):Prop:=
 match ops[i]? with
 |none=>K s
 |some o=>∃ e,TEf P G tr ops o s e∧K (e.run tr o s)
def EG (P:Program) (G:Gl) (tr:List Nat) (md:Region.Mode) (ops:Array Oper) (K:S→Prop):Nat→Array Bool→S→Prop
 |0,listed,s=>Region.ready md ops listed=[]∧K s
 |fuel+1,listed,s=>
  (Region.ready md ops listed=[]→K s)∧
  ∀ i∈Region.ready md ops listed,pn P G tr ops i (EG P G tr md ops K fuel (listed.setIfInBounds i true)) s
theorem po (dC:jV n ops=true) {K:S→Prop} (hK:∀ a w s,K s→SE G n I0 M w0 s a w→Q .normal a w):∀ (fuel:Nat) (listed:Array Bool) (s:S) (a:Act) (w:World),
 EG P G tr md ops K fuel listed s→SE G n I0 M w0 s a w→wpAny P md ops Q fuel listed a w
 |0,_,_,_,_,h,cE=>⟨h.1,hK _ _ _ h.2 cE⟩
 |fuel+1,_,s,a,w,h,cE=>by
  refine⟨fun h0=>hK _ _ _ (h.1 h0) cE,fun i hi=>?_⟩
  have hh:=h.2 i hi
  unfold pn at hh
  unfold wpOp
  split
  ·rename_i ho;simp only[ho] at hh;exact po dC hK fuel _ s a w hh cE
  ·rename_i o ho
   simp only[ho] at hh
   obtain⟨e,he,hh⟩:=hh
   have jS:o∈ops.toList:=by
    have:=dz ho
    simpa using this
   obtain⟨I,β,ob,hst⟩:=cE
   rcases he with⟨hg,hv,_⟩ | ⟨hg,rfl⟩
   ·rw[if_pos (kj hst hg)]
    exact .inl (ub hst (fb dC jS) hv fun a' w' nz=>po dC hK fuel _ _ a' w' hh nz)
   ·rw[kj hst hg]
    simp only[aM,dy]
    rw[sM] at hh
    exact po dC hK fuel _ _ _ w hh (SE.put hst (fb dC jS) (by simp only[LR];exact .sk))
def wr (tr:List Nat) (o:Oper):List Tmp:=o.dst.toList++(bV tr o).toList
def mN (tr:List Nat) (x y:Oper):Bool:=match x.op,x.dst,y.op with
 | .load _ _,some d,.store _ (.tmp t) _=>tr.contains (200000+d)&&tr.contains (200000+t)&&(List.range 100).all fun b=>!(tr.contains (300000+d*100+b)&&tr.contains (300000+t*100+b))
 | .load _ _,some d,.call { callee:=.value _,.. }=>tr.contains (200000+d)&&(wb tr y.dst&&BY tr y.dst)&&(List.range 100).all fun b=>!(tr.contains (300000+d*100+b)&&tr.contains (500000+y.dst.getD 0*100+b))
 |_,_,_=>false
def oO (x y:Oper):Bool:=match x.op,y.op with
 | .lookup T (.tmp m) (.tmp k) false,.mapEntry U (.tmp m') (.tmp k')=>T==U&&m==m'&&k==k'
 |_,_=>false
def wA (tr:List Nat) (x y:Oper):Bool:=dF tr x==1&&match y.op with
 | .alloc _=>true
 | .box _ _=>true
 | .buildSlice _ _ _=>nI tr y.dst
 |_=>false
def EH (tr:List Nat) (ops:Array Oper) (x y:Oper):Bool:=
 ((wr tr x).all fun d=>!(y.looksAt ops).contains d&&!(wr tr y).contains d)&&((wr tr y).all fun d=>!(x.looksAt ops).contains d)&&
 ((dF tr x !=2||dF tr y==0||(mN tr y x||oO y x))&&(dF tr y !=2||dF tr x==0||(mN tr x y||(oO x y||wA tr x y))))
structure G4 (tr:List Nat) (ops:Array Oper) (x y:Oper):Prop where
 xy:∀ d∈wr tr x,d∉y.looksAt ops
 ww:∀ d∈wr tr x,d∉wr tr y
 yx:∀ d∈wr tr y,d∉x.looksAt ops
 mx:dF tr x=2→dF tr y=0∨mN tr y x=true∨oO y x=true
 my:dF tr y=2→dF tr x=0∨mN tr x y=true∨oO x y=true∨wA tr x y=true
theorem G5 {x y:Oper} (h:EH tr ops x y=true):G4 tr ops x y:=by
 simp only[EH,aI,aU,ew,iu,b9,dM,bne_iff_ne,kC] at h
 obtain⟨⟨h1,h2⟩,h3,h4⟩:=h
 exact⟨fun d hd=>(h1 d hd).1,fun d hd=>(h1 d hd).2,h2,fun h=>by rcases h3 with(h3 | h3) | h3;exact absurd h h3;exact .inl h3;exact .inr h3,
  fun h=>by rcases h4 with(h4 | h4) | h4;exact absurd h h4;exact .inl h4;exact .inr h4⟩
def rX (tr:List Nat) (o:Oper) (u:Bool) (x:V) (fr:Nat→V):Nat→V:=G1 o.dst x (EC u (bV tr o) fr)
theorem AB (u:Bool) (c:Option Tmp) (fr:Nat→V) (t:Nat):EC u c fr t=if c=some t∧u=true∧(fr t).isOw=true then .un else fr t:=by
 unfold EC
 cases c with
 |none=>simp
 |some q=>
  simp only
  by_cases hq:q=t
  ·subst hq
   by_cases h:u=true∧(fr q).isOw=true
   ·rw[if_pos (by simp[h.1,h.2]),cx,if_pos ⟨rfl,h⟩]
   ·rw[if_neg (by simpa using h),if_neg (fun e=>h e.2)]
  ·have:¬ (some q=some t∧u=true∧(fr t).isOw=true):=fun e=>hq (by simpa using e.1)
   rw[if_neg this]
   split
   ·rw[dj _ _ (gb hq)]
   ·rfl
theorem nR (u:Bool) (x:V) (fr:Nat→V) (t:Nat):rX tr o u x fr t=if o.dst=some t then x else if bV tr o=some t∧u=true∧(fr t).isOw=true then .un else fr t:=by
 unfold rX G1
 cases o.dst with
 |none=>simpa using AB u (bV tr o) fr t
 |some d=>
  simp only
  by_cases hd:d=t
  ·subst hd;simp
  ·rw[dj _ _ (gb hd),if_neg (by simpa using hd)]
   exact AB u (bV tr o) fr t
theorem fM {u:Bool} {x:V} {fr:Nat→V} {t:Nat} (h:t∉wr tr o):rX tr o u x fr t=fr t:=by
 simp only[wr,aZ,Option.mem_toList,not_or] at h
 rw[nR,if_neg h.1,if_neg (fun e=>h.2 e.1)]
theorem AC {x y:Oper} (h:∀ d∈wr tr x,d∉wr tr y) (u u':Bool) (vx vy:V) (fr:Nat→V) :
 rX tr y u' vy (rX tr x u vx fr)=rX tr x u vx (rX tr y u' vy fr):=by
 funext t
 by_cases hx:t∈wr tr x
 ·rw[fM (h t hx),nR,nR,fM (h t hx)]
 ·have e1:rX tr x u vx fr t=fr t:=fM hx
  have e2:rX tr x u vx (rX tr y u' vy fr) t=rX tr y u' vy fr t:=fM hx
  rw[e2,nR (o:=y),e1,nR (o:=y)]
theorem sN (e:Ef):e.run tr o s=⟨rX tr o e.uses (e.val s.nb) s.fr,e.bx s.nb s.bx,e.nb s.nb⟩:=rfl
theorem Wd {e:Ef} (h:VEf P G tr o s e) (hm:dF tr o≠2):∃ v,e=.v v:=by
 unfold VEf at h
 split at h
 ·rename_i cm;simp[dF,cm] at hm
 ·rename_i cm;simp[dF,cm] at hm
 ·rename_i cm;simp[dF,cm] at hm
 ·rename_i cm
  split at h
  ·rename_i hn;simp[dF,cm,hn] at hm
  ·obtain⟨v,rfl,_⟩:=h;exact⟨v,rfl⟩
 ·rename_i cm;simp[dF,cm] at hm
 ·rename_i cm
  split at h
  ·rename_i hn;simp[dF,cm,hn] at hm
  ·obtain⟨v,rfl,_⟩:=h;exact⟨v,rfl⟩
 ·obtain⟨v,rfl,_⟩:=h;exact⟨v,rfl⟩
 ·rename_i cm;simp[dF,cm] at hm
 ·rename_i cm;simp[dF,cm] at hm
 ·rename_i cm;simp[dF,cm] at hm
 ·rename_i cm;simp[dF,cm] at hm
 ·rename_i cm
  split at h
  ·exact h.elim
  split at h
  ·rename_i hr;simp[dF,cm,hr] at hm
  ·obtain⟨v,rfl,_⟩:=h;exact⟨v,rfl⟩
 ·rename_i cm;simp[dF,cm] at hm
 ·obtain⟨v,rfl,_⟩:=h;exact⟨v,rfl⟩
theorem uc {e:Ef} (h:TEf P G tr ops o s e) (hm:dF tr o≠2):(∃ v,e=.v v)∨e=.skip:=by
 rcases h with⟨_,h,_⟩ | ⟨_,h⟩
 ·exact .inl (Wd h hm)
 ·exact .inr h
theorem mq {e:Ef} (h:(∃ v,e=.v v)∨e=.skip) (bx:Nat→List V) (nb nb':Nat):e.bx nb bx=bx∧e.nb nb=nb∧e.val nb=e.val nb':=by
 rcases h with⟨v,rfl⟩ | rfl<;>exact⟨rfl,rfl,rfl⟩
theorem jP {s':S} (h:∀ t∈o.looksAt ops,s.fr t=s'.fr t):uK ops o s=uK ops o s':=by
 unfold uK
 split
 ·rfl
 ·rename_i j want hg
  split
  ·rename_i d hd
   have:d∈o.looksAt ops:=by
    unfold Oper.looksAt
    rw[hg]
    simp only[aZ,Option.mem_toList]
    exact .inr hd
   rw[h d this]
  ·rfl
theorem jQ {x:Operand} {t:Tmp} (hx:x∈o.op.operands) (ht:x=.tmp t):t∈o.looksAt ops:=by
 unfold Oper.looksAt
 simp only[aZ,List.mem_filterMap]
 exact .inl ⟨x,by simpa using hx,by rw[ht]⟩
theorem ud {s':S} {e:Ef} (zD:∀ d,o.dst=some d→s.fr d=s'.fr d) (hl:∀ t∈o.looksAt ops,s.fr t=s'.fr t) (hm:dF tr o≠0→s.bx=s'.bx∧s.nb=s'.nb) (h:TEf P G tr ops o s e):TEf P G tr ops o s' e:=by
 rcases h with⟨h1,h2,h3⟩ | ⟨h1,h2⟩
 ·exact .inl ⟨by rw[← jP hl];exact h1,N1 zD (fun x hx=>AA fun t ht=>hl t (jQ hx ht)) hm h2,h3⟩
 ·exact .inr ⟨by rw[← jP hl];exact h1,h2⟩
theorem ry {x y:Oper} (h:mN tr x y=true):∃ T X d,x.op=.load T X∧x.dst=some d∧tr.contains (200000+d)=true∧
 ((∃ U t Y,y.op=.store U (.tmp t) Y∧tr.contains (200000+t)=true∧∀ b,b<100→tr.contains (300000+d*100+b)=true→tr.contains (300000+t*100+b)=true→False)∨
  (∃ c f,y.op=.call c∧c.callee=.value f∧wb tr y.dst=true∧BY tr y.dst=true∧∀ b,b<100→tr.contains (300000+d*100+b)=true→tr.contains (500000+y.dst.getD 0*100+b)=true→False)):=by
 unfold mN at h
 split at h
 ·rename_i T X d U t Y h1 h2 h3
  simp only[aI,aU] at h
  refine⟨T,X,d,h1,h2,h.1.1,.inl ⟨U,t,Y,h3,h.1.2,fun b hb q1 q2=>?_⟩⟩
  have:=h.2 b (cQ.2 hb)
  rw[q1,q2] at this
  cases this
 ·rename_i T X d f args ts h1 h2 h3
  simp only[aI,aU] at h
  refine⟨T,X,d,h1,h2,h.1.1,.inr ⟨_,f,h3,rfl,h.1.2.1,h.1.2.2,fun b hb q1 q2=>?_⟩⟩
  have:=h.2 b (cQ.2 hb)
  rw[q1,q2] at this
  cases this
 ·cases h
theorem G6 {x y:Oper} (h:mN tr x y=true):dF tr x=1:=by
 obtain⟨T,X,d,h1,_⟩:=ry h
 simp[dF,h1]
theorem QX {T:TypeId} {s':S} {b k:Nat} {K:V→Prop} (hb:s'.bx b=s.bx b) (hn:s'.nb=s.nb) (h:dH P T s (.bp b k) K):dH P T s' (.bp b k) K:=by
 unfold dH at *
 cases hT:ti P T with
 |none=>rw[hT] at h;exact h.elim
 |some i=>
  rw[hT] at h
  simp only at h ⊢
  rw[hb,hn];exact h
theorem yQ {T:TypeId} {s':S} {K:V→Prop} (hx:∀ b k,x≠.bp b k) (Qe:∀ v,x≠.c (.ex v)) (h:dH P T s x K):dH P T s' x K:=by
 unfold dH at *
 cases hT:ti P T with
 |none=>rw[hT] at h;exact h.elim
 |some i=>
  rw[hT] at h
  cases x with
  |c c=>
   cases c with
   |ex v=>exact absurd rfl (Qe v)
   |_=>exact h
  |bp b k=>exact absurd rfl (hx b k)
  |_=>exact h.elim
theorem G7 {x y:Oper} {f:Ef} (v7:mN tr x y=true) (hy:TEf P G tr ops y s f):f.nb s.nb=s.nb∧∀ d b,x.dst=some d→b<100→tr.contains (300000+d*100+b)=true→f.bx s.nb s.bx b=s.bx b:=by
 obtain⟨T,X,d,Qg,hx2,hd,Jg⟩:=ry v7
 rcases hy with⟨_,hv,_⟩ | ⟨_,rfl⟩
 ·unfold VEf at hv
  rcases Jg with⟨U,t,Y,Gd,ht,fm⟩ | ⟨c,g,Gd,hy2,hm,hl,fm⟩
  ·rw[Gd] at hv
   simp only at hv
   obtain⟨lz,hv⟩:=hv
   split at hv
   ·rename_i i b k cs h1 h2 h3
    obtain⟨_,rfl⟩:=hv
    rw[h2] at lz
    simp only[Jx,qb,Qz,ht,fV,Bool.false_or,aI,bj] at lz
    refine⟨rfl,fun d' b' pL BU zB=>?_⟩
    rw[hx2] at pL;cases pL
    have fO:b'≠b:=by rintro rfl;exact fm b' BU zB lz.2
    simp only[Ef.bx,dj _ _ fO]
   ·rename_i i blk j h1 h2
    rw[h2] at lz
    simp only[Jx,qb,ht,fV] at lz
    cases lz
   ·exact hv.elim
  ·obtain⟨callee,args,ts⟩:=c
   simp only at hy2;subst hy2
   rw[Gd] at hv
   simp only[hm,cL] at hv
   obtain⟨bx,nb,x',rfl,_,h2⟩:=hv
   obtain⟨h3,h4⟩:=h2 hl
   refine⟨h3,fun d' b' pL BU zB=>?_⟩
   rw[hx2] at pL;cases pL
   rcases h4 b' with h | ⟨_,h⟩
   ·exact h
   ·exact(fm b' BU zB h).elim
 ·exact⟨rfl,fun _ _ _ _ _=>rfl⟩
theorem QY {x y:Oper} {e:Ef} {s':S} (v7:mN tr x y=true) (hl:∀ t∈x.looksAt ops,s.fr t=s'.fr t)
 (n0:∀ d b,x.dst=some d→b<100→tr.contains (300000+d*100+b)=true→s'.bx b=s.bx b) (v6:s'.nb=s.nb) (h:TEf P G tr ops x s e):TEf P G tr ops x s' e:=by
 obtain⟨T,X,d,Qg,hx2,hd,_⟩:=ry v7
 rcases h with⟨h1,h2,h3⟩ | ⟨h1,h2⟩
 ·refine .inl ⟨by rw[← jP hl];exact h1,?_,h3⟩
  have vZ:ev G s X=ev G s' X:=AA fun q hq=>hl q (jQ (by rw[Qg];simp[Op.operands]) hq)
  unfold VEf at h2 ⊢
  rw[Qg] at h2 ⊢
  simp only at h2 ⊢
  obtain⟨v,he,lz,hv⟩:=h2
  refine⟨v,he,by rw[← vZ];exact lz,?_⟩
  obtain⟨dst,op,type,pos,after,guard⟩:=x
  simp only at Qg hx2 lz vZ n0
  subst Qg;subst hx2
  simp only[VYK] at hv ⊢
  rw[← vZ]
  rcases Jg:ev G s X with _ | _ | c | _ | _ | _ | ⟨b,k⟩ | _ | _ | _
  case bp=>
   rw[Jg] at lz hv
   simp only[qb,Qz,hd,fV,Bool.false_or,aI,bj] at lz
   exact QX (n0 d b rfl lz.1 lz.2) v6 hv
  case c=>
   rw[Jg] at lz hv
   refine yQ (fun _ _ e=>by cases e) (fun v e=>?_) hv
   cases e
   simp only[qb,hd,fV] at lz
   cases lz
  all_goals
   rw[Jg] at hv
   exact yQ (fun _ _ e=>by cases e) (fun _ e=>by cases e) hv
 ·exact .inr ⟨by rw[← jP hl];exact h1,h2⟩
theorem rz {x y:Oper} (h:oO x y=true):∃ T m k,x.op=.lookup T (.tmp m) (.tmp k) false∧y.op=.mapEntry T (.tmp m) (.tmp k):=by
 unfold oO at h
 split at h
 ·rename_i T m k U m' k' h1 h2
  simp only[aI,kC] at h
  obtain⟨⟨rfl,rfl⟩,rfl⟩:=h
  exact⟨T,m,k,h1,h2⟩
 ·cases h
theorem G8 {x y:Oper} (h:oO x y=true):dF tr x=1∧dF tr y=2:=by
 obtain⟨T,m,k,h1,h2⟩:=rz h
 simp[dF,h1,h2]
theorem AD {ag:Bool}:∀ {r:List V} {l:List (List C)},jN ag r=some l→r.length=2*l.length
 |[],l,h=>by simp only[jN,ao] at h;subst h;rfl
 |[_],l,h=>by simp[jN] at h
 |k::v::r,l,h=>by
  unfold jN at h
  split at h
  ·rename_i q l' h1 h2
   simp only[ao] at h;subst h
   have:=AD h2
   simp[this];omega
  ·cases h
theorem yR {ag:Bool} {k v:V} {q:List C} (hk:k.kcs ag=some q):∀ {r:List V} {l:List (List C)},jN ag r=some l→jN ag (r++[k,v])=some (l++[q])
 |[],l,h=>by simp only[jN,ao] at h;subst h;simp[jN,hk]
 |[_],l,h=>by simp[jN] at h
 |k'::v'::r,l,h=>by
  unfold jN at h
  split at h
  ·rename_i q' l' h1 h2
   simp only[ao] at h;subst h
   have:=yR (v:=v) hk h2
   simp only[dK,jN,h1,this]
  ·cases h
theorem AE {ks:List EK} {k:List C} (hl:k.length=ks.length) (hr:jM ks k k=some true):∀ {l:List (List C)} {i:Nat},nc ks k l i=some none→nc ks k (l++[k]) i=some (some (i+l.length))
 |[],i,_=>by simp[nc,hl,hr]
 |k'::l,i,h=>by
  unfold nc at h
  split at h
  ·rename_i h1
   split at h
   ·cases h
   ·rename_i h2
    simp only[dK,nc,h1,cL,h2]
    rw[AE hl hr h];simp;omega
   ·cases h
  ·cases h
theorem AG {T:TypeId} {k:V} {K:S→V→Prop} (h:fK P T s x k K):∃ w,fG P T s x k false (fun u=>w=u):=by
 unfold fK at h
 obtain⟨i,bs,cl,r,res,z,h1,h2⟩:=ja h
 cases res with
 |none=>exact⟨_,fW h1 rfl⟩
 |some j=>exact⟨_,fW h1 rfl⟩
theorem yS {T:TypeId} {bx':Nat→List V} {k v u:V} {s':S} (h:fK P T s x k (fun s' u'=>bx'=s'.bx∧u=u')) (hv:fG P T s x k false (fun w=>v=w)) (h1:s'.bx=bx') (h2:s'.nb=s.nb) :
 fG P T s' x k false (fun w=>v=w):=by
 subst h1
 unfold fK at h
 obtain⟨i,kt,et,tT,tk,te,ks,kc,z,bs,cl,r,kcs,res,q1,q2,rfl,q3,q4,q5,q6,q7,q8,q9,q10,⟨q11,q12,q13,q14⟩,hK⟩:=vm h
 have hv':fG P T s (.mr i) k false (fun w=>(match res with | some j=>(r.getD (2*j+1) .un).fz | none=>z)=w):=by
  unfold fG
  refine qJ q1 q2 q3 q4 q5 q6 q7 q8 q9 q10 q11 q12 q13 q14 ?_
  cases res<;>rfl
 have sA:=yO hv hv'
 unfold fG
 cases res with
 |some j=>
  obtain⟨hb,_⟩:=hK
  refine qJ q1 q2 q3 q4 q5 q6 q7 (by rw[hb];exact q8) q9 q10 (by rw[h2];exact q11) q12 q13 q14 ?_
  exact sA
 |none=>
  obtain⟨hb,_⟩:=hK
  have hkf:k.fz.kcs tk.agg=some kc:=by cases k<;>simp_all[V.fz,V.kcs]
  have hz:z.fz=z:=by
   unfold qo at q7;split at q7<;>first | (simp only[ao] at q7;subst q7;rfl) | cases q7
  have cu:=AD q9
  refine qJ (bs:=bs++[cl]) (cl:=cl+1) (r:=r++[k.fz,z]) q1 q2 q3 q4 q5 q6 q7 (by rw[hb];simp only[cx]) (yR hkf q9) (AE q12 q13 q10) (by rw[h2];exact q11) q12 q13 q14 ?_
  simp only
  rw[show v=z from sA]
  have:(r++[k.fz,z]).getD (2*(0+kcs.length)+1) .un=z:=by
   rw[ah,← cu];simp
  rw[this,hz];rfl
theorem xX {s':S} (hn:s.nb≤s'.nb) (hb:∀ i,i<s.nb→s'.bx i=s.bx i) {i:Nat} {cs:List C} (h:zh s i=some cs):zh s' i=some cs:=by
 unfold zh at *
 split at h
 ·rename_i hi;rw[if_pos (by omega),hb i hi];exact h
 ·cases h
theorem vo {s':S} (hn:s.nb≤s'.nb) (hb:∀ i,i<s.nb→s'.bx i=s.bx i) {i off len sz:Nat} {c:C} (h:mh s i off len sz=some c):mh s' i off len sz=some c:=by
 unfold mh at *
 split at h
 ·rename_i cs hc;simp only[xX hn hb hc];exact h
 ·cases h
theorem xY {s':S} (hn:s.nb≤s'.nb) (hb:∀ i,i<s.nb→s'.bx i=s.bx i) {x:V} {c:C} (h:vj s x=some c):vj s' x=some c:=by
 unfold vj at *
 split at h
 ·exact h
 ·exact h
 ·obtain⟨cs,hc,rfl⟩:=aY.1 h;rw[xX hn hb hc];rfl
 ·exact vo hn hb h
 ·cases h
theorem mw {α β:Type} {f g:α→Option β} (h:∀ x y,f x=some y→g x=some y):∀ {l:List α} {r:List β},l.mapM f=some r→l.mapM g=some r
 |[],r,hr=>by simpa using hr
 |x::l,r,hr=>by
  rw[fE] at hr ⊢
  cases hx:f x with
  |none=>rw[hx] at hr;cases hr
  |some y=>
   rw[hx] at hr
   rw[h x y hx]
   cases hl:l.mapM f with
   |none=>rw[hl] at hr;cases hr
   |some r'=>rw[hl] at hr;rw[mw h hl];exact hr
theorem wB {s':S} (hn:s.nb≤s'.nb) (hb:∀ i,i<s.nb→s'.bx i=s.bx i) {x y:V} (h:imm s x=some y):imm s' x=some y:=by
 unfold imm at *
 split at h
 ·exact h
 ·exact h
 ·exact h
 ·obtain⟨cs,hc,rfl⟩:=aY.1 h;rw[xX hn hb hc];rfl
 ·split at h
  ·rename_i e1 e2
   simp only[mw (fun _ _=>xY hn hb) e1,mw (fun _ _=>xY hn hb) e2];exact h
  ·cases h
 ·obtain⟨c,hc,rfl⟩:=aY.1 h;rw[vo hn hb hc];rfl
 ·obtain⟨c,hc,rfl⟩:=aY.1 h;rw[mw (fun _ _=>xY hn hb) hc];rfl
 ·cases h
theorem ue {s':S} (hn:s.nb≤s'.nb) (hb:∀ i,i<s.nb→s'.bx i=s.bx i) (x:V):vw s x=vw s' x∨vw s x=.un:=by
 cases x<;>try exact .inl rfl
 case ms i off len cap sz=>
  simp only[vw]
  cases hv:mh s i off len sz with
  |none=>exact .inr rfl
  |some c=>rw[vo hn hb hv];exact .inl rfl
theorem N2 {s':S} {ts:List TypeId} {z y:V} {K:V→Prop} (hn:s.nb≤s'.nb) (hb:∀ i,i<s.nb→s'.bx i=s.bx i) (h:eP P .append ts [z,vw s y] K):eP P .append ts [z,vw s' y] K:=by
 rcases ue hn hb y with e2 | e2
 ·rw[← e2];exact h
 ·rw[e2] at h
  unfold eP at h
  split at h<;>first | cases ‹Builtin.append=_› | skip
  ·rename_i t t' x y' hxy
   obtain⟨rfl,rfl⟩:z=x∧V.un=y':=by
    simp only[bP,ga] at hxy;exact hxy
   split at h
   ·exfalso
    unfold ee at h
    split at h
    ·split at h
     ·exact h.2.elim
     ·exact h.elim
    ·exact h.elim
   ·exfalso;unfold qa at h;simp[V.fz] at h
  ·exact h.elim
theorem JU {s':S} {ts:List TypeId} {E:Option (TypeId×Nat)} {es:List (List C)} {y:V} {K:V→Prop} (hn:s.nb≤s'.nb) (hb:∀ i,i<s.nb→s'.bx i=s.bx i) (h:uT P ts E es (vw s y).fz K):uT P ts E es (vw s' y).fz K:=by
 rcases ue hn hb y with e2 | e2
 ·rw[← e2];exact h
 ·exfalso
  rw[e2] at h
  unfold uT at h
  split at h
  ·obtain⟨_,h⟩:=h
   split at h
   ·split at h
    ·obtain⟨_,h⟩:=h
     split at h
     ·rename_i e;cases e
     ·exact h.elim
    ·exact h.elim
   ·exact h.elim
  ·exact h.elim
theorem AH {s':S} {ts:List TypeId} {E:Option (TypeId×Nat)} {es:List (List C)} {y:V} {K:V→Prop} (hn:s.nb≤s'.nb) (hb:∀ i,i<s.nb→s'.bx i=s.bx i) (h:nf P ts E es (vw s y).fz K):nf P ts E es (vw s' y).fz K:=by
 rcases ue hn hb y with e2 | e2
 ·rw[← e2];exact h
 ·exfalso
  rw[e2] at h
  unfold nf at h
  split at h
  ·obtain⟨_,h⟩:=h
   split at h
   ·split at h
    ·obtain⟨_,h⟩:=h
     split at h
     ·rename_i e;cases e
     ·exact h.elim
    ·exact h.elim
   ·exact h.elim
  ·exact h.elim
theorem wC {s':S} {K:V→Prop} (zD:∀ d,o.dst=some d→s.fr d=s'.fr d) (he:∀ x∈o.op.operands,ev G s x=ev G s' x) (hn:s.nb≤s'.nb) (hb:∀ i,i<s.nb→s'.bx i=s.bx i) (hm:dF tr o=1) (h:VYK P G tr o s K):VYK P G tr o s' K:=by
 have marr:∀ l:Array Operand,(∀ x∈l,ev G s x=ev G s' x)→l.toList.map (ev G s)=l.toList.map (ev G s'):=fun l hl=>cz fun x hx=>hl x (by simpa using hx)
 have hm0:=hm
 obtain⟨dst,op,type,pos,after,guard⟩:=o
 cases op<;>simp only[dF] at hm<;>try cases hm
 case buildSlice=>split at hm<;>cases hm
 case load T x=>
  simp only[VYK] at h ⊢
  rw[← he x (by simp[Op.operands])]
  unfold dH at h ⊢
  split at h
  ·exact h
  ·rename_i i b k _
   obtain⟨⟨h1,h2⟩,h3⟩:=h
   rw[hb _ h1]
   exact⟨⟨by omega,h2⟩,h3⟩
  ·rcases h with⟨h1,b,k,len,cap,E,es,c,⟨q1,q2,q3,q4⟩,h⟩ | ⟨b,k,len,cap,E,es,⟨q1,q2,q3⟩,h⟩
   ·exact .inl ⟨h1,b,k,len,cap,E,es,c,⟨by omega,by rw[hb _ q1];exact q2,by rw[hb _ q1];exact q3,q4⟩,h⟩
   ·exact .inr ⟨b,k,len,cap,E,es,⟨by omega,by rw[hb _ q1];exact q2,by rw[hb _ q1];exact q3⟩,h⟩
  ·exact h.elim
 case convert src dst' x=>
  simp only[VYK] at h ⊢
  rw[← he x (by simp[Op.operands])]
  rcases ue hn hb (ev G s x) with e | e
  ·rw[← e];exact h
  ·rw[e] at h;simp[V.fz,oD] at h
 case lookup T x k ok=>
  simp only[VYK] at h ⊢
  rw[← he x (by simp[Op.operands]),← he k (by simp[Op.operands])]
  unfold fG at h ⊢
  obtain⟨i,kt,et,tT,tk,te,ks,kc,z,bs,cl,r,kcs,res,q1,q2,q3,q4,q5,q6,q7,q8,q9,q10,q11,⟨q12,q13,q14,q15⟩,hK⟩:=vm h
  rw[q3]
  exact qJ q1 q2 q4 q5 q6 q7 q8 (by rw[hb i q12];exact q9) q10 q11 (by omega) q13 q14 q15 hK
 case range T x=>
  simp only[VYK] at h ⊢
  rw[← he x (by simp[Op.operands])]
  unfold oh at h ⊢
  split at h
  ·rename_i i _
   split at h
   ·rename_i e1
    obtain⟨h1,h2⟩:=h
    rw[hb _ h1];simp only[e1];exact⟨by omega,h2⟩
   ·exact h.elim
  ·exact h.elim
 case entry x=>
  simp only[VYK] at h ⊢
  rw[← he x (by simp[Op.operands])]
  unfold nk at h ⊢
  split at h
  ·rename_i i since stepped seen _
   split at h
   ·rename_i e1 e2
    split at h
    ·rename_i e3
     obtain⟨⟨h1,h0⟩,h2⟩:=h
     rw[hb _ h1];simp only[e1,e2,e3];exact⟨⟨by omega,h0⟩,h2⟩
    ·exact h.elim
   ·exact h.elim
  ·exact h.elim
 case call c=>
  obtain⟨callee,args,ts⟩:=c
  cases callee with
  |value f=>
   simp only[VYK] at h ⊢
   rw[← he f (by simp[Op.operands,Call.operands]),← marr args fun x hx=>he x (by simp[Op.operands,Call.operands,hx])]
   unfold qF at h ⊢
   split at h
   ·split at h
    ·rename_i e1;simp only[mw (fun _ _=>wB hn hb) e1];exact h
    ·exact h.elim
   ·split at h
    ·rename_i e1 e2 e3
     simp only[mw (fun _ _=>wB hn hb) e1,mw (fun _ _=>wB hn hb) e2,mw (fun _ _=>wB hn hb) e3];exact h
    ·exact h.elim
   ·exact h.elim
  |invoke r m=>exact h.elim
  |builtin b=>
   cases b<;>first | (simp[dF] at hm0;done) | skip
   case append=>
    by_cases hgh:Ab tr dst=true
    ·simp only[VYK,if_pos hgh] at h ⊢
     by_cases hho:xM tr dst=true
     ·rw[if_pos hho] at h ⊢
      unfold wa at h ⊢
      split at h
      ·rename_i t y d ha
       have ht:s.fr t=s'.fr t:=by
        have:=he (.tmp t) (by simp only[Op.operands,Call.operands];rw[eE];exact cH.1 (by rw[ha];simp))
        simpa[ev] using this
       have hy:ev G s y=ev G s' y:=he y (by simp only[Op.operands,Call.operands];rw[eE];exact cH.1 (by rw[ha];simp))
       rw[← ht,← zD d rfl,← hy]
       split at h
       ·exact⟨h.1,JU hn hb h.2⟩
       ·exact h.elim
      ·exact h.elim
     ·rw[if_neg hho] at h ⊢
      unfold jO at h ⊢
      split at h
      ·rename_i t y d ha
       have ht:s.fr t=s'.fr t:=by
        have:=he (.tmp t) (by simp only[Op.operands,Call.operands];rw[eE];exact cH.1 (by rw[ha];simp))
        simpa[ev] using this
       have hy:ev G s y=ev G s' y:=he y (by simp only[Op.operands,Call.operands];rw[eE];exact cH.1 (by rw[ha];simp))
       rw[← ht,← zD d rfl,← hy]
       split at h
       ·exact⟨h.1,N2 hn hb h.2⟩
       ·exact⟨h.1,AH hn hb h.2⟩
       ·exact⟨h.1,AH hn hb h.2⟩
       ·exact h.elim
      ·exact h.elim
    simp only[VYK,if_neg hgh] at h ⊢
    have hh:(args.toList.map fun x=>vw s' (ev G s' x))=args.toList.map fun x=>vw s' (ev G s x):=cz fun x hx=>by rw[he x (by simp only[Op.operands,Call.operands];simpa using hx)]
    rw[hh]
    unfold eP at h ⊢
    split at h<;>first | cases ‹Builtin.append=_› | skip
    ·rename_i t t' x y oK cD
     obtain⟨X,Y,hX,rfl,rfl⟩:∃ X Y,args.toList=[X,Y]∧x=vw s (ev G s X)∧y=vw s (ev G s Y):=by
      cases ha:args.toList with
      |nil=>simp[ha] at cD
      |cons X l=>
       cases l with
       |nil=>simp[ha] at cD
       |cons Y l=>simp only[ha,aO,bP,eb] at cD;exact⟨X,Y,by rw[cD.2.2],cD.1.symm,cD.2.1.symm⟩
     rw[hX,oK]
     simp only[aO,bI]
     have fm:∀ u K',¬ ee P t .un u K':=fun u K' h=>by simp[ee] at h
     have aib:∀ u K',¬ ee P t u V.un K':=fun u K' h=>by
      unfold ee at h
      split at h
      ·split at h
       ·exact h.2.elim
       ·exact h.elim
      ·exact h.elim
     rcases ue hn hb (ev G s X) with e1 | e1
     ·rcases ue hn hb (ev G s Y) with e2 | e2
      ·rw[← e1,← e2];exact h
      ·rw[e2] at h
       split at h
       ·exact(aib _ _ h).elim
       ·unfold qa at h;simp[V.fz] at h
     ·rw[e1] at h
      split at h
      ·exact(fm _ _ h).elim
      ·unfold qa at h
       split at h
       ·split at h
        ·exact(fm _ _ h.2).elim
        ·exact h.elim
       ·exact h.elim
    ·exact h.elim
theorem QZ {s':S} {e:Ef} (zD:∀ d,o.dst=some d→s.fr d=s'.fr d) (hm:dF tr o=1) (he:∀ x∈o.op.operands,ev G s x=ev G s' x) (hn:s.nb≤s'.nb) (hb:∀ i,i<s.nb→s'.bx i=s.bx i) (h:VEf P G tr o s e):VEf P G tr o s' e:=by
 unfold VEf at h ⊢
 split at h
 ·rename_i cm;simp[dF,cm] at hm
 ·rename_i cm;simp[dF,cm] at hm
 ·rename_i cm;simp[dF,cm] at hm
 ·rename_i cm;simp only[dF,cm] at hm;split at hm<;>cases hm
 ·rename_i cm;simp[dF,cm] at hm
 ·rename_i f args ts cm
  split at h
  ·rename_i hmu;simp[dF,cm,hmu] at hm
  ·rename_i hmu
   rw[if_neg hmu]
   obtain⟨v,h1,h2⟩:=h
   refine⟨v,h1,?_⟩
   unfold VYQ at h2 ⊢
   split
   ·rename_i Nv
    rw[if_pos Nv] at h2
    have:args.toList.map (ev G s)=args.toList.map (ev G s'):=cz fun x hx=>he x (by rw[cm];simp only[Op.operands,Call.operands];simp at hx;simp[hx])
    rw[← he f (by rw[cm];simp[Op.operands,Call.operands]),← this]
    exact yP hn hb h2
   ·rename_i Nv
    rw[if_neg Nv] at h2
    exact wC zD he hn hb hm h2
 ·rename_i T X cm
  obtain⟨v,h1,h2,h3⟩:=h
  exact⟨v,h1,by rw[← he X (by rw[cm];simp[Op.operands])];exact h2,wC zD he hn hb hm h3⟩
 ·rename_i cm;simp[dF,cm] at hm
 ·rename_i cm;simp[dF,cm] at hm
 ·rename_i cm;simp[dF,cm] at hm
 ·rename_i cm;simp[dF,cm] at hm
 ·rename_i cm
  split at h
  ·exact h.elim
  rename_i fO
  rw[if_neg fO]
  split at h
  ·rename_i hr;simp[dF,cm,hr] at hm
  ·rename_i hr
   rw[if_neg hr]
   obtain⟨v,h1,h2⟩:=h
   exact⟨v,h1,wC zD he hn hb hm h2⟩
 ·rename_i cm;simp[dF,cm] at hm
 ·obtain⟨v,h1,h2⟩:=h
  exact⟨v,h1,wC zD he hn hb hm h2⟩
theorem EI {x y:Oper} (h:wA tr x y=true):dF tr x=1∧∀ (q:S) (f:Ef),VEf P G tr y q f→q.nb≤f.nb q.nb∧∀ i,i<q.nb→f.bx q.nb q.bx i=q.bx i:=by
 unfold wA at h
 simp only[aI,kC] at h
 refine⟨h.1,fun q f hf=>?_⟩
 have h2:=h.2
 have al:(∃ cs,f=.al cs)→q.nb≤f.nb q.nb∧∀ i,i<q.nb→f.bx q.nb q.bx i=q.bx i:=by
  rintro⟨cs,rfl⟩
  exact⟨Nat.le_succ _,fun i hi=>dj _ _ (by omega)⟩
 split at h2
 ·rename_i cm
  unfold VEf at hf;rw[cm] at hf
  simp only at hf
  split at hf
  ·exact al ⟨_,hf⟩
  ·exact hf.elim
 ·rename_i cm
  unfold VEf at hf;rw[cm] at hf
  simp only at hf
  split at hf
  ·exact al ⟨_,hf⟩
  ·exact hf.elim
 ·rename_i cm
  unfold VEf at hf;rw[cm] at hf
  simp only[h2,cL] at hf
  obtain⟨bx,nb,x,rfl,hv⟩:=hf
  unfold cG at hv
  split at hv
  ·split at hv
   ·obtain⟨_,hv⟩:=hv
    split at hv
    ·simp only[Ac] at hv
     split at hv
     ·obtain⟨⟨rfl,rfl⟩,_⟩:=hv
      exact⟨Nat.le_succ _,fun i hi=>dj _ _ (by omega)⟩
     ·exact hv.elim
    ·exact hv.elim
   ·exact hv.elim
  ·exact hv.elim
 ·cases h2
theorem TEf.keep {x y:Oper} {e f:Ef} (uR:G4 tr ops x y) (hx:TEf P G tr ops x s e) (hy:TEf P G tr ops y s f):TEf P G tr ops x (f.run tr y s) e:=by
 have hl:∀ t∈x.looksAt ops,s.fr t=(f.run tr y s).fr t:=fun t ht=>by
  rw[sN]
  simp only
  rw[fM (fun hw=>uR.yx t hw ht)]
 have zD:∀ d,x.dst=some d→s.fr d=(f.run tr y s).fr d:=fun d hd=>by
  rw[sN]
  simp only
  rw[fM (uR.ww d (by simp[wr,hd]))]
 by_cases v7:mN tr x y=true
 ·obtain⟨q1,q2⟩:=G7 v7 hy
  exact QY v7 hl q2 q1 hx
 by_cases VZ:oO x y=true
 ·obtain⟨T,m,k,Qg,Gd⟩:=rz VZ
  rcases hy with⟨_,hv,_⟩ | ⟨_,rfl⟩
  ·rcases hx with⟨hg,hw,fO⟩ | ⟨hg,he⟩
   ·refine .inl ⟨by rw[← jP hl];exact hg,?_,fO⟩
    unfold VEf at hv hw ⊢
    rw[Gd] at hv
    rw[Qg] at hw ⊢
    obtain⟨bx,u,rfl,hv⟩:=hv
    obtain⟨v,rfl,hw⟩:=hw
    refine⟨v,rfl,?_⟩
    obtain⟨dst,op,type,pos,after,guard⟩:=x
    simp only at Qg;subst Qg
    simp only[VYK] at hw ⊢
    have e1:ev G ((Ef.gn bx s.nb u).run tr y s) (.tmp m)=ev G s (.tmp m):=(hl m (jQ (x:=.tmp m) (by simp[Op.operands]) rfl)).symm
    have e2:ev G ((Ef.gn bx s.nb u).run tr y s) (.tmp k)=ev G s (.tmp k):=(hl k (jQ (x:=.tmp k) (by simp[Op.operands]) rfl)).symm
    rw[e1,e2]
    exact yS (bx':=bx) (u:=u) (sK (pm hv) fun s' u' e=>⟨by rw[← e.1],e.2⟩) hw rfl rfl
   ·exact .inr ⟨by rw[← jP hl];exact hg,he⟩
  ·exact ud zD hl (fun _=>⟨rfl,rfl⟩) hx
 by_cases hra:wA tr x y=true
 ·obtain⟨h1,h2⟩:=EI hra
  rcases hx with⟨hg,hw,fO⟩ | ⟨hg,he⟩
  ·refine .inl ⟨by rw[← jP hl];exact hg,?_,fO⟩
   have hf:s.nb≤f.nb s.nb∧∀ i,i<s.nb→f.bx s.nb s.bx i=s.bx i:=by
    rcases hy with⟨_,hv,_⟩ | ⟨_,rfl⟩
    ·exact h2 _ _ hv
    ·exact⟨ae _,fun _ _=>rfl⟩
   exact QZ zD h1 (fun q hq=>AA fun t ht=>hl t (jQ hq ht)) hf.1 hf.2 hw
  ·exact .inr ⟨by rw[← jP hl];exact hg,he⟩
 ·refine ud zD hl (fun hm=>?_) hx
  have hq:=uc hy (fun h=>hm ((uR.my h).resolve_right (fun h=>by rcases h with h | h | h;exact v7 h;exact VZ h;exact hra h)))
  obtain⟨q1,q2,_⟩:=mq hq s.bx s.nb 0
  exact⟨q1.symm,q2.symm⟩
theorem TEf.back {x y:Oper} {e f:Ef} (uR:G4 tr ops x y) (hx:TEf P G tr ops x s e) (hy:TEf P G tr ops y (e.run tr x s) f):TEf P G tr ops y s f:=by
 have hl:∀ t∈y.looksAt ops,(e.run tr x s).fr t=s.fr t:=fun t ht=>by
  rw[sN]
  simp only
  rw[fM (fun hw=>uR.xy t hw ht)]
 have zD:∀ d,y.dst=some d→(e.run tr x s).fr d=s.fr d:=fun d hd=>by
  rw[sN]
  simp only
  rw[fM (fun hw=>uR.ww d hw (by simp[wr,hd]))]
 by_cases v7:mN tr y x=true
 ·obtain⟨q1,q2⟩:=G7 v7 hx
  exact QY v7 hl (fun d b h1 h2 h3=>(q2 d b h1 h2 h3).symm) q1.symm hy
 by_cases VZ:oO y x=true
 ·obtain⟨T,m,k,Qg,Gd⟩:=rz VZ
  rcases hx with⟨_,hv,_⟩ | ⟨_,rfl⟩
  ·rcases hy with⟨hg,hw,fO⟩ | ⟨hg,he⟩
   ·refine .inl ⟨by rw[← jP hl];exact hg,?_,fO⟩
    unfold VEf at hv hw ⊢
    rw[Gd] at hv
    rw[Qg] at hw ⊢
    obtain⟨bx,u,rfl,hv⟩:=hv
    obtain⟨v,rfl,hw⟩:=hw
    refine⟨v,rfl,?_⟩
    obtain⟨dst,op,type,pos,after,guard⟩:=y
    simp only at Qg;subst Qg
    simp only[VYK] at hw ⊢
    have e1:ev G ((Ef.gn bx s.nb u).run tr x s) (.tmp m)=ev G s (.tmp m):=hl m (jQ (x:=.tmp m) (by simp[Op.operands]) rfl)
    have e2:ev G ((Ef.gn bx s.nb u).run tr x s) (.tmp k)=ev G s (.tmp k):=hl k (jQ (x:=.tmp k) (by simp[Op.operands]) rfl)
    rw[e1,e2] at hw
    have hE:=sK (pm hv) (K':=fun s' u'=>bx=s'.bx∧u=u') fun s' u' e=>⟨by rw[← e.1],e.2⟩
    obtain⟨w,hw0⟩:=AG hE
    have:=yS (s':=(Ef.gn bx s.nb u).run tr x s) hE hw0 rfl rfl
    rw[yO hw this];exact hw0
   ·exact .inr ⟨by rw[← jP hl];exact hg,he⟩
  ·exact ud zD hl (fun _=>⟨rfl,rfl⟩) hy
 ·refine ud zD hl (fun hm=>?_) hy
  have hq:=uc hx (fun h=>hm ((uR.mx h).resolve_right (fun h=>by rcases h with h | h;exact v7 h;exact VZ h)))
  obtain⟨q1,q2,_⟩:=mq hq s.bx s.nb 0
  exact⟨q1,q2⟩
theorem sO {x y:Oper} {e f:Ef} (uR:G4 tr ops x y) (hx:TEf P G tr ops x s e) (hy:TEf P G tr ops y s f):f.run tr y (e.run tr x s)=e.run tr x (f.run tr y s):=by
 simp only[sN]
 by_cases h2:dF tr x=2
 ·have hq:=uc hy (fun h=>by
   rcases uR.mx h2 with h' | h' | h'
   ·rw[h'] at h;cases h
   ·rw[G6 h'] at h;cases h
   ·rw[(G8 (tr:=tr) h').1] at h;cases h)
  obtain⟨q1,q2,q3⟩:=mq hq (e.bx s.nb s.bx) (e.nb s.nb) s.nb
  obtain⟨r1,r2,_⟩:=mq hq s.bx s.nb s.nb
  rw[q1,q2,q3,r1,r2,AC uR.ww]
 ·have hq:=uc hx h2
  obtain⟨q1,q2,q3⟩:=mq hq (f.bx s.nb s.bx) (f.nb s.nb) s.nb
  obtain⟨r1,r2,_⟩:=mq hq s.bx s.nb s.nb
  rw[q1,q2,q3,r1,r2,AC uR.ww]
def FreeAt (tr:List Nat) (md:Region.Mode) (ops:Array Oper) (listed:Array Bool) (i:Nat) (oi:Oper):Prop:=
 ∃ B:List Nat,(∀ j∈B,listed.getD j true=false∧∃ oj,ops[j]?=some oj∧∃ e∈oj.after,Region.binds md e=true∧(e.on=i∨e.on∈B))∧
  ∀ j oj,ops[j]?=some oj→j≠i→listed.getD j true=false→j∉B→EH tr ops oi oj=true
theorem FreeAt.step {md:Region.Mode} {listed:Array Bool} {i j:Nat} {oi oj:Oper} (h:FreeAt tr md ops listed i oi) (hr:i∈Region.ready md ops listed) (hj:j∈Region.ready md ops listed) (pd:j≠i) (uF:ops[j]?=some oj) :
 G4 tr ops oi oj∧FreeAt tr md ops (listed.setIfInBounds j true) i oi:=by
 obtain⟨B,hB,sq⟩:=h
 obtain⟨afN,oj',VD,dh⟩:=iH.1 hj
 rw[uF] at VD;cases VD
 have Y2:∀ q,listed.getD q true=false→∀ e∈oj.after,Region.binds md e=true→e.on≠q:=fun q h0 e he hb kR=>by
  have h1:=dh e he hb
  rw[kR] at h1
  rcases ct q listed.size with h' | h'
  ·simp[h'] at h0 h1;rw[h0] at h1;cases h1
  ·simp[db h'] at h1
 have hjB:j∉B:=fun hjB=>by
  obtain⟨_,oj',VD,e,he,hb,VG⟩:=hB j hjB
  rw[uF] at VD;cases VD
  rcases VG with VG | VG
  ·exact Y2 i (iH.1 hr).1 e he hb VG
  ·exact Y2 _ (hB _ VG).1 e he hb rfl
 refine⟨G5 (sq j oj uF pd afN hjB),B,fun b hb=>?_,fun k ok hk hki Y2 fm=>?_⟩
 ·have Y3:j≠b:=fun h=>hjB (by rw[h];exact hb)
  exact⟨by rw[lv true Y3];exact(hB b hb).1,(hB b hb).2⟩
 ·refine sq k ok hk hki ?_ fm
  by_cases hjk:j=k
  ·subst hjk;exact afN
  ·rw[lv true hjk] at Y2;exact Y2
theorem vp {K:S→Prop} {i:Nat} {oi:Oper} {e:Ef} (hi:ops[i]?=some oi) :
 ∀ (fuel:Nat) (listed:Array Bool) (s:S),FreeAt tr md ops listed i oi→
  i∈Region.ready md ops listed→TEf P G tr ops oi s e→
  EG P G tr md ops K fuel (listed.setIfInBounds i true) (e.run tr oi s)→EG P G tr md ops K (fuel+1) listed s:=by
 intro fuel
 induction fuel with
 |zero=>
  intro listed s _ hr hy H
  refine⟨fun h=>(by rw[h] at hr;cases hr),fun j hj=>?_⟩
  by_cases pd:j=i
  ·subst pd;unfold pn;simp only[hi];exact⟨e,hy,H⟩
  ·have:=jU hj pd
   rw[H.1] at this
   cases this
 |succ fuel ih=>
  intro listed s sq hr hy H
  refine⟨fun h=>(by rw[h] at hr;cases hr),fun j hj=>?_⟩
  by_cases pd:j=i
  ·subst pd;unfold pn;simp only[hi];exact⟨e,hy,H⟩
  ·have h1:=H.2 j (jU hj pd)
   obtain⟨_,oj,uF,_⟩:=iH.1 hj
   obtain⟨uR,rU⟩:=sq.step hr hj pd uF
   unfold pn at h1 ⊢
   simp only[uF] at h1 ⊢
   obtain⟨f,hf,hK⟩:=h1
   have zg:=hy.back uR hf
   refine⟨f,zg,ih (listed.setIfInBounds j true) _ rU (jU hr (gb pd)) (hy.keep uR zg) ?_⟩
   rw[gW _ _ pd,← sO uR hy zg]
   exact hK
def uf (ops:Array Oper) (listed:Array Bool) (i:Nat):List Nat→List Nat→List Nat
 |[],B=>B
 |j::r,B=>uf ops listed i r (match ops[j]? with
  |some oj=>if(!listed.getD j true)&&(oj.after.any fun e=>Region.binds .any e&&(e.on==i||B.contains e.on)) then j::B else B
  |none=>B)
theorem wE {ops:Array Oper} {listed:Array Bool} {i:Nat}:∀ (l B:List Nat),(∀ j∈B,listed.getD j true=false∧∃ oj,ops[j]?=some oj∧∃ e∈oj.after,Region.binds .any e=true∧(e.on=i∨e.on∈B))→
 ∀ j∈uf ops listed i l B,listed.getD j true=false∧∃ oj,ops[j]?=some oj∧∃ e∈oj.after,Region.binds .any e=true∧(e.on=i∨e.on∈uf ops listed i l B)
 |[],_,h=>h
 |k::r,B,h=>by
  unfold uf
  refine wE r _ ?_
  split
  ·rename_i oj uF
   split
   ·rename_i hc
    simp only[aI,ew] at hc
    obtain⟨h1,h2⟩:=hc
    rw[Array.any_eq_true'] at h2
    obtain⟨e,he,h3⟩:=h2
    simp only[aI,dM,kC,iu,bj] at h3
    intro j hj
    rcases bu.1 hj with rfl | hj
    ·exact⟨h1,oj,uF,e,he,h3.1,h3.2.imp id (aR _)⟩
    ·obtain⟨a,b,c,d,hd,f,g⟩:=h j hj
     exact⟨a,b,c,d,hd,f,g.imp id (aR _)⟩
   ·exact h
  ·exact h
def G9 (tr:List Nat) (ops:Array Oper) (listed:Array Bool) (i:Nat):Bool:=
 match ops[i]? with
 |none=>true
 |some oi=>(fun B=>(List.range ops.size).all fun j=>match ops[j]? with
  |none=>true
  |some oj=>j==i||listed.getD j true||List.contains B j||EH tr ops oi oj) (uf ops listed i (List.range ops.size) [])
theorem kX {i:Nat} {oi:Oper} {listed:Array Bool} (hi:ops[i]?=some oi) (h:G9 tr ops listed i=true):FreeAt tr .any ops listed i oi:=by
 unfold G9 at h
 simp only[hi,aU,cQ] at h
 refine⟨uf ops listed i (List.range ops.size) [],wE _ _ (fun _ h=>by cases h),fun j oj hj pd hl fm=>?_⟩
 have bB:j<ops.size:=(be.1 hj).1
 have:=h j bB
 simp only[hj,hl,dM,kC,pd,false_or,aM,iu,bj] at this
 exact this.resolve_left fm
def sP (tr:List Nat) (ops:Array Oper):Nat→Nat→Array Bool→Bool
 |0,_,listed=>(Region.ready .any ops listed).isEmpty
 |fuel+1,k,listed=>(Region.ready .any ops listed).contains k&&G9 tr ops listed k&&sP tr ops fuel (k+1) (listed.setIfInBounds k true)
def CJ (tr:List Nat) (ops:Array Oper):List Nat→Array Bool→Bool
 |[],listed=>(Region.ready .any ops listed).isEmpty
 |k::r,listed=>(Region.ready .any ops listed).contains k&&G9 tr ops listed k&&CJ tr ops r (listed.setIfInBounds k true)
def kE (tr:List Nat) (ops:Array Oper):List Nat→Array Bool→Option (Array Bool)
 |[],listed=>some listed
 |k::r,listed=>if(Region.ready .any ops listed).contains k&&G9 tr ops listed k then kE tr ops r (listed.setIfInBounds k true) else none
def j5 (ops:Array Oper) (ks:List Nat):List Oper:=ks.filterMap fun k=>ops[k]?
theorem xZ {K:S→Prop}:∀ (ks:List Nat) (listed:Array Bool) (s:S),(∀ k∈ks,∃ o,ops[k]?=some o∧lJ tr o=false)→
 CJ tr ops ks listed=true→eW P G tr ops (j5 ops ks) s K→EG P G tr .any ops K ks.length listed s
 |[],_,_,_,hB,h=>⟨by simpa[CJ] using hB,h⟩
 |k::r,listed,s,hA,hB,h=>by
  obtain⟨o,ho,xF⟩:=hA k (aW ..)
  simp only[CJ,aI] at hB
  obtain⟨⟨hr,hf⟩,hB'⟩:=hB
  simp only[j5,fa,ho,eW] at h
  obtain⟨e,he,hK⟩:=fX (K:=fun s'=>eW P G tr ops (j5 ops r) s' K) xF h
  exact vp ho r.length listed s (kX ho hf) (by simpa using hr) he
   (xZ r _ _ (fun k hk=>hA k (aR _ hk)) hB' hK)
theorem Ha {K K0:S→Prop} (m:Nat) (kz:Array Bool) (VF:∀ s',K0 s'→EG P G tr .any ops K m kz s'):∀ (ks:List Nat) (listed:Array Bool) (s:S),(∀ k∈ks,∃ o,ops[k]?=some o∧lJ tr o=false)→
 kE tr ops ks listed=some kz→eW P G tr ops (j5 ops ks) s K0→EG P G tr .any ops K (m+ks.length) listed s
 |[],listed,s,_,hB,h=>by simp only[kE,ao] at hB;subst hB;exact VF _ h
 |k::r,listed,s,hA,hB,h=>by
  obtain⟨o,ho,xF⟩:=hA k (aW ..)
  unfold kE at hB
  split at hB
  ·rename_i hc
   simp only[aI] at hc
   obtain⟨hr,hf⟩:=hc
   simp only[j5,fa,ho,eW] at h
   obtain⟨e,he,hK⟩:=fX (K:=fun s'=>eW P G tr ops (j5 ops r) s' K0) xF h
   have:=vp ho (m+r.length) listed s (kX ho hf) (by simpa using hr) he
    (Ha m kz VF r _ _ (fun k hk=>hA k (aR _ hk)) hB hK)
   simpa[dn] using this
  ·cases hB
def CL (tr:List Nat) (ops:Array Oper):Bool:=ops.toList.all (fun o=>!lJ tr o)&&match kE tr ops (List.range (ku ops)) (Array.replicate ops.size false) with
 |some listed=>(Region.ready .any ops listed).all (fun k=>k==ku ops||k==ku ops+1)&&(Region.ready .any ops listed).contains (ku ops)&&decide (ku ops+1<ops.size)&&
   CJ tr ops ((List.range ops.size).drop (ku ops+1)) (listed.setIfInBounds (ku ops) true)&&CJ tr ops (ku ops::(List.range ops.size).drop (ku ops+2)) (listed.setIfInBounds (ku ops+1) true)
 |none=>false
theorem pp (i m:Nat) (h:i+m≤ops.size):j5 ops (List.range' i m)=(ops.toList.drop i).take m:=by
 induction m generalizing i with
 |zero=>simp[j5]
 |succ m ih=>
  have hi:i<ops.size:=by omega
  have ih':=ih (i+1) (by omega)
  unfold j5 at ih' ⊢
  have hd:ops.toList.drop i=ops[i]::ops.toList.drop (i+1):=by
   rw[bX (by simpa using hi)];simp
  rw[gK,fa,aA hi,hd,eZ]
  simp only
  rw[ih']
theorem sQ (dC:jV n ops=true) (vh:CL tr ops=true) {K:S→Prop} (hK:∀ a w s,K s→SE G n I0 M w0 s a w→Q .normal a w)
 (h:Gr P G tr ops s K) (cE:SE G n I0 M w0 s a w):wpAny P .any ops Q ops.size (Array.replicate ops.size false) a { w with drawn:=w.drawn+1 }:=by
 unfold CL at vh
 simp only[aI,aU,ew] at vh
 obtain⟨hA,vh⟩:=vh
 have VW:∀ k,k<ops.size→∃ o,ops[k]?=some o∧lJ tr o=false:=fun k hk=>⟨ops[k],aA hk,hA _ (by simp)⟩
 split at vh
 ·rename_i listed vX
  simp only[aI,bj] at vh
  obtain⟨⟨⟨⟨dh,jS⟩,dZ⟩,hl1⟩,Z4⟩:=vh
  generalize hi:ku ops=i at *
  unfold Gr at h
  rw[hi] at h
  have hr0:List.range i=List.range' 0 i:=ey
  have Jf:j5 ops (List.range i)=ops.toList.take i:=by
   rw[hr0,pp 0 i (by omega)];rfl
  have aid:(List.range ops.size).drop (i+1)=List.range' (i+1) (ops.size - (i+1)):=by
   rw[ey,List.drop_range'];simp
  have aie:(List.range ops.size).drop (i+2)=List.range' (i+2) (ops.size - (i+2)):=by
   rw[ey,List.drop_range'];simp
  have hci:ops.toList.drop i=ops[i]::ops[i+1]::ops.toList.drop (i+2):=by
   rw[bX (by simp;omega),bX (i:=i+1) (by simp;omega)];simp
  have Ls:j5 ops ((List.range ops.size).drop (i+1))=ops[i+1]::ops.toList.drop (i+2):=by
   rw[aid,pp _ _ (by omega)]
   rw[dS (by simp),bX (by simp;omega)];simp
  have hn2:j5 ops ((List.range ops.size).drop (i+2))=ops.toList.drop (i+2):=by
   rw[aie,pp _ _ (by omega)]
   exact dS (by simp)
  have key:EG P G tr .any ops K ((ops.size - (i+1)+1)+(List.range i).length) (Array.replicate ops.size false) s:=by
   rw[← Jf] at h
   refine Ha _ listed (fun s' xx=>?_) (List.range i) _ s (fun k hk=>VW k (by have:=cQ.1 hk;omega)) vX h
   obtain⟨h1,h2⟩:=xx
   rw[hci] at h1 h2
   simp only[Zh] at h2
   refine⟨fun h0=>(by rw[h0] at jS;cases jS),fun k hk=>?_⟩
   have Nx:=aU.1 dh k hk
   simp only[dM,kC] at Nx
   obtain⟨oi,hoi,hAi⟩:=VW i (by omega)
   obtain⟨oj,uF,hAj⟩:=VW (i+1) dZ
   rcases Nx with rfl | rfl
   ·unfold pn
    simp only[hoi]
    rw[show ops[k]=oi from by rw[aA (by omega)] at hoi;simpa using hoi] at h1
    simp only[eW] at h1
    obtain⟨e,he,hK'⟩:=fX (K:=fun s'=>eW P G tr ops (ops[k+1]::ops.toList.drop (k+2)) s' K) hAi h1
    refine⟨e,he,?_⟩
    have:=xZ (K:=K) ((List.range ops.size).drop (k+1)) (listed.setIfInBounds k true) _ (fun q hq=>VW q (by have:=cQ.1 (cM hq);exact this)) hl1 (by rw[Ls];exact hK')
    simpa using this
   ·unfold pn
    simp only[uF]
    rw[show ops[i+1]=oj from by rw[aA dZ] at uF;simpa using uF] at h2
    simp only[eW] at h2
    obtain⟨e,he,hK'⟩:=fX (K:=fun s'=>eW P G tr ops (ops[i]::ops.toList.drop (i+2)) s' K) hAj h2
    refine⟨e,he,?_⟩
    have:=xZ (K:=K) (i::(List.range ops.size).drop (i+2)) (listed.setIfInBounds (i+1) true) _ (fun q hq=>VW q (by
     rcases bu.1 hq with rfl | hq
     ·omega
     ·exact cQ.1 (cM hq))) Z4 (by
     unfold j5
     rw[fa,aA (show i<ops.size by omega)]
     simp only
     have:=hn2
     unfold j5 at this
     rw[this];exact hK')
    have e1:(i::(List.range ops.size).drop (i+2)).length=ops.size - (i+1):=by simp;omega
    rw[e1] at this;exact this
  have nz:SE G n I0 M w0 s a { w with drawn:=w.drawn+1 }:=by
   obtain⟨I,β,ob,hst⟩:=cE
   exact⟨I,β,ob,hst.drew⟩
  have e2:(ops.size - (i+1)+1)+(List.range i).length=ops.size:=by simp;omega
  rw[e2] at key
  exact po dC hK _ _ _ _ _ key nz
 ·cases vh
def x8 (tr:List Nat) (ops:Array Oper):Bool:=ops.toList.all (fun o=>!lJ tr o)&&sP tr ops ops.size 0 (Array.replicate ops.size false)
theorem Hb {K:S→Prop}:∀ (l:List Oper) (k:Nat) (listed:Array Bool) (s:S),(∀ o∈l,lJ tr o=false)→(∀ j,l[j]?=ops[k+j]?)→
 sP tr ops l.length k listed=true→eW P G tr ops l s K→EG P G tr .any ops K l.length listed s
 |[],_,_,_,_,_,hB,h=>⟨by simpa[sP] using hB,h⟩
 |o::l,k,listed,s,hA,hl,hB,h=>by
  have h0:ops[k]?=some o:=by simpa using(hl 0).symm
  simp only[aC,sP,aI] at hB
  obtain⟨⟨hr,hf⟩,hB'⟩:=hB
  simp only[eW] at h
  obtain⟨e,he,hK⟩:=fX (K:=fun s'=>eW P G tr ops l s' K) (hA o (aW ..)) h
  exact vp h0 l.length listed s (kX h0 hf) (by simpa using hr) he
   (Hb l (k+1) _ _ (fun o ho=>hA o (aR _ ho)) (fun j=>by have:=hl (j+1);simpa[dn,lE 1 j] using this) hB' hK)
theorem rY (dC:jV n ops=true) (vh:x8 tr ops=true) {K:S→Prop} (hK:∀ a w s,K s→SE G n I0 M w0 s a w→Q .normal a w)
 (h:eW P G tr ops ops.toList s K) (cE:SE G n I0 M w0 s a w):wpAny P .any ops Q ops.size (Array.replicate ops.size false) a { w with drawn:=w.drawn+1 }:=by
 simp only[x8,aI,aU,ew] at vh
 have h1:=Hb (K:=K) ops.toList 0 (Array.replicate ops.size false) s vh.1 (by simp) (by simpa using vh.2) h
 have nz:SE G n I0 M w0 s a { w with drawn:=w.drawn+1 }:=by
  obtain⟨I,β,ob,hst⟩:=cE
  exact⟨I,β,ob,hst.drew⟩
 have:=po dC hK _ _ _ _ _ h1 nz
 simpa using this
theorem x9 {id:Nat} (hm:P.follows .mixedOrders=true) (dC:jV n ops=true) (vh:CL tr ops=true) {K:S→Prop} (hK:∀ a w s,K s→SE G n I0 M w0 s a w→Q .normal a w)
 (h:Gr P G tr ops s K) (cE:SE G n I0 M w0 s a w):(Code.region id ops true).wp P Q a w:=wp_region_any hm (sQ dC vh hK h cE)
theorem wF {id:Nat} (hm:P.follows .mixedOrders=true) (dC:jV n ops=true) (vh:x8 tr ops=true) {K:S→Prop} (hK:∀ a w s,K s→SE G n I0 M w0 s a w→Q .normal a w)
 (h:eW P G tr ops ops.toList s K) (cE:SE G n I0 M w0 s a w):(Code.region id ops true).wp P Q a w:=wp_region_any hm (rY dC vh hK h cE)
def yU (P:Program) (G:Gl) (tr:List Nat) (ops:Array Oper) (L1:Array Bool) (K0:S→Prop):Nat→Array Bool→S→Prop
 |0,listed,s=>listed=L1∧K0 s
 |fuel+1,listed,s=>Region.ready .any ops listed≠[]∧∀ i∈Region.ready .any ops listed,pn P G tr ops i (yU P G tr ops L1 K0 fuel (listed.setIfInBounds i true)) s
def wG (ops:Array Oper) (m:Nat):Bool:=(List.range ops.size).all fun j=>decide (j<m)||match ops[j]? with
 |some o=>(List.range m).all fun k=>o.after.any fun e=>Region.binds .any e&&(e.on==k)
 |none=>true
theorem EJ {m:Nat} (h:wG ops m=true) {j k:Nat} {oj:Oper} (hj:ops[j]?=some oj) (hm:m≤j) (hk:k<m):∃ e∈oj.after,Region.binds .any e=true∧e.on=k:=by
 unfold wG at h
 rw[aU] at h
 have h1:=h j (cQ.2 (be.1 hj).1)
 simp only[hj,dM,bj] at h1
 have h2:=aU.1 (h1.resolve_left (by omega)) k (cQ.2 hk)
 rw[Array.any_eq_true'] at h2
 obtain⟨e,he,h3⟩:=h2
 simp only[aI,kC] at h3
 exact⟨e,he,h3.1,h3.2⟩
theorem AI {m q j:Nat} (h:(oL m q).getD j true=false):m≤j:=by
 rcases ct j m with hj | hj
 ·exfalso
  unfold oL at h
  rw[ap,cP,aG (by simpa using hj)] at h
  simp[hj] at h
 ·exact hj
theorem CM {m q j:Nat} (h:(oL m q).getD j false=true):j<m:=by
 rcases ct j m with hj | hj
 ·exact hj
 ·exfalso
  unfold oL at h
  rw[ap,cP,aK (by simpa using hj),List.getElem?_replicate] at h
  split at h<;>simp at h
theorem He {K0:S→Prop} {m:Nat} (Qf:wG ops m=true) {i:Nat} {oi:Oper} {e:Ef} (hi:ops[i]?=some oi) :
 ∀ (fuel:Nat) (listed:Array Bool) (s:S),listed.size=ops.size→FreeAt tr .any ops listed i oi→
  i∈Region.ready .any ops listed→TEf P G tr ops oi s e→
  yU P G tr ops (oL m ops.size) K0 fuel (listed.setIfInBounds i true) (e.run tr oi s)→yU P G tr ops (oL m ops.size) K0 (fuel+1) listed s:=by
 intro fuel
 induction fuel with
 |zero=>
  intro listed s dZ _ hr hy H
  refine⟨fun h=>(by rw[h] at hr;cases hr),fun j hj=>?_⟩
  by_cases pd:j=i
  ·subst pd;unfold pn;simp only[hi];exact⟨e,hy,H⟩
  ·exfalso
   obtain⟨Y2,oj,uF,dh⟩:=iH.1 hj
   have Ny:i<listed.size:=by rw[dZ];exact(be.1 hi).1
   have h1:(oL m ops.size).getD j true=false:=by rw[← H.1,lv true (gb pd)];exact Y2
   have h2:(oL m ops.size).getD i false=true:=by
    rw[← H.1,ap,Array.getElem?_setIfInBounds_self_of_lt Ny];rfl
   obtain⟨ed,hed,hb,VG⟩:=EJ Qf uF (AI h1) (CM h2)
   have h3:=dh ed hed hb
   rw[VG] at h3
   have h4:=(iH.1 hr).1
   rw[ap,aA Ny] at h3 h4
   simp only[bU] at h3 h4
   rw[h4] at h3;cases h3
 |succ fuel ih=>
  intro listed s dZ sq hr hy H
  refine⟨fun h=>(by rw[h] at hr;cases hr),fun j hj=>?_⟩
  by_cases pd:j=i
  ·subst pd;unfold pn;simp only[hi];exact⟨e,hy,H⟩
  ·have h1:=H.2 j (jU hj pd)
   obtain⟨_,oj,uF,_⟩:=iH.1 hj
   obtain⟨uR,rU⟩:=sq.step hr hj pd uF
   unfold pn at h1 ⊢
   simp only[uF] at h1 ⊢
   obtain⟨f,hf,hK⟩:=h1
   have zg:=hy.back uR hf
   refine⟨f,zg,ih (listed.setIfInBounds j true) _ (by rw[dp];exact dZ) rU (jU hr (gb pd)) (hy.keep uR zg) ?_⟩
   rw[gW _ _ pd,← sO uR hy zg]
   exact hK
theorem CN {K0:S→Prop} {m:Nat} (Qf:wG ops m=true):∀ (ks:List Nat) (listed:Array Bool) (s:S),listed.size=ops.size→(∀ k∈ks,∃ o,ops[k]?=some o∧lJ tr o=false)→
 kE tr ops ks listed=some (oL m ops.size)→eW P G tr ops (j5 ops ks) s K0→yU P G tr ops (oL m ops.size) K0 ks.length listed s
 |[],listed,s,_,_,hB,h=>by simp only[kE,ao] at hB;exact⟨hB,h⟩
 |k::r,listed,s,dZ,hA,hB,h=>by
  obtain⟨o,ho,xF⟩:=hA k (aW ..)
  unfold kE at hB
  split at hB
  ·rename_i hc
   simp only[aI] at hc
   obtain⟨hr,hf⟩:=hc
   simp only[j5,fa,ho,eW] at h
   obtain⟨e,he,hK⟩:=fX (K:=fun s'=>eW P G tr ops (j5 ops r) s' K0) xF h
   exact He Qf ho r.length listed s dZ (kX ho hf) (by simpa using hr) he
    (CN Qf r _ _ (by rw[dp];exact dZ) (fun k hk=>hA k (aR _ hk)) hB hK)
  ·cases hB
theorem LY {K:S→Prop} {KW:Act→World→Prop} {i:Nat} {oi:Oper} {e:Ef} (dC:jV n ops=true) (hi:ops[i]?=some oi) (he:TEf P G tr ops oi s e) (cE:SE G n I0 M w0 s a w)
 (hK:K (e.run tr oi s)) (hKW:∀ a w s,K s→SE G n I0 M w0 s a w→KW a w):wpOp P ops Q i KW a w:=by
 unfold wpOp
 simp only[hi]
 have jS:oi∈ops.toList:=by
  have:=dz hi
  simpa using this
 obtain⟨I,β,ob,hst⟩:=cE
 rcases he with⟨hg,hv,_⟩ | ⟨hg,rfl⟩
 ·rw[if_pos (kj hst hg)]
  exact .inl (ub hst (fb dC jS) hv fun a' w' nz=>hKW _ _ _ hK nz)
 ·rw[kj hst hg]
  simp only[aM,dy]
  rw[sM] at hK
  exact hKW _ _ _ hK (SE.put hst (fb dC jS) (by simp only[LR];exact .sk))
theorem sR (dC:jV n ops=true) {K0:S→Prop} {L1:Array Bool} {r:Nat} (hK:∀ a w s,K0 s→SE G n I0 M w0 s a w→wpAny P .any ops Q r L1 a w):∀ (fuel:Nat) (listed:Array Bool) (s:S) (a:Act) (w:World),
 yU P G tr ops L1 K0 fuel listed s→SE G n I0 M w0 s a w→wpAny P .any ops Q (r+fuel) listed a w
 |0,listed,_,a,w,h,cE=>by obtain⟨rfl,h⟩:=h;exact hK _ _ _ h cE
 |fuel+1,_,s,a,w,h,cE=>by
  refine⟨fun h0=>absurd h0 h.1,fun i hi=>?_⟩
  have hh:=h.2 i hi
  obtain⟨_,oi,hoi,_⟩:=iH.1 hi
  unfold pn at hh
  simp only[hoi] at hh
  obtain⟨e,he,hh⟩:=hh
  exact LY dC hoi he cE hh fun a w s hs cE=>sR dC hK fuel _ s a w hs cE
def L2 (Q:Exit→Act→World→Prop):Exit→Act→World→Prop:=fun e a w=>e=.normal∧Q e a w
theorem yd {Q:Exit→Act→World→Prop}:¬ LetsOut (L2 Q):=fun⟨_,_,h,_⟩=>by cases h
theorem Cb {l:Option Nat} {m:Nat} {id:Nat} (hm:P.follows .mixedOrders=true) (pU:Ar ops=true) (dC:jV n ops=true) (vh:CL tr ops=true) {K:S→Prop} (hK:∀ a w s,K s→SE G n I0 M w0 s a w→Q .normal a w)
 (h:Gr P G tr ops s K) (cE:SE G n I0 M w0 s a w):(Code.region id ops true).wpIn (FW l) m P Q a w:=
 wpIn_mono (Q:=L2 Q) (wpIn_region_any hm (wu pU yd _ _ _ _ (sQ dC vh (fun a w s hk cE=>⟨rfl,hK a w s hk cE⟩) h cE))) (fun _ _ _ h=>h.2)
theorem AK {l:Option Nat} {m:Nat} {id:Nat} (hm:P.follows .mixedOrders=true) (pU:Ar ops=true) (dC:jV n ops=true) (vh:x8 tr ops=true) {K:S→Prop} (hK:∀ a w s,K s→SE G n I0 M w0 s a w→Q .normal a w)
 (h:eW P G tr ops ops.toList s K) (cE:SE G n I0 M w0 s a w):(Code.region id ops true).wpIn (FW l) m P Q a w:=
 wpIn_mono (Q:=L2 Q) (wpIn_region_any hm (wu pU yd _ _ _ _ (rY dC vh (fun a w s hk cE=>⟨rfl,hK a w s hk cE⟩) h cE))) (fun _ _ _ h=>h.2)
