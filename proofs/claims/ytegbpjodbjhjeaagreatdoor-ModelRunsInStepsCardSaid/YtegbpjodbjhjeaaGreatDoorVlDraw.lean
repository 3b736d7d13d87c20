/- Values without memory: regions that draw their order: an operation's effect. -/
import Derived.Test.YtegbpjodbjhjeaaGreatDoorVlCode
import Derived.Orders
set_option linter.all false
namespace Go.Vl
open Go Go.RowKit
section
variable {P:Program} {G:Gl} {tr:List Nat} {s:S} {o:Oper} {x y:V} {K:V→Prop}
theorem tJ {op:BinOp} {k:IntKind} {a b:Int} (h:oL op k a b K):∃ v,oL op k a b (fun u=>v=u)∧K v:=by
 cases op<;>simp only[oL] at h ⊢<;>first | exact⟨_,rfl,h⟩ | exact⟨_,⟨h.1,rfl⟩,h.2⟩
theorem Ij {op:BinOp} {a b:ByteArray} (h:uV op a b K):∃ v,uV op a b (fun u=>v=u)∧K v:=by
 cases op<;>simp only[uV] at h ⊢<;>first | exact h.elim | exact⟨_,rfl,h⟩ | exact⟨_,⟨h.1,rfl⟩,h.2⟩
theorem Ik {op:BinOp} {T:TypeId} (h:jY P op T x y K):∃ v,jY P op T x y (fun u=>v=u)∧K v:=by
 unfold jY at h
 split at h
 ·split at h
  ·exact tJ h
  ·exact tJ h
  ·rename_i h1 h2
   split at h
   ·rename_i hk
    obtain⟨v,hv,hK⟩:=tJ h
    refine⟨v,?_,hK⟩
    unfold jY
    simp only[if_pos hk]
    first | exact hv | (split<;>first | exact hv | simp_all)
   ·exact h.elim
 ·exact Ij h
 ·split at h
  ·rename_i hi
   split at h
   ·exact⟨_,by simp only[jY,hi],h⟩
   ·exact⟨_,by simp only[jY,hi],h⟩
   ·exact h.elim
  ·exact h.elim
 ·split at h
  ·rename_i hi
   split at h
   ·rename_i hr
    obtain⟨hl,h⟩:=h
    split at h
    ·exact⟨_,by simp only[jY,hi,hr];exact⟨hl,trivial⟩,h⟩
    ·exact⟨_,by simp only[jY,hi,hr];exact⟨hl,trivial⟩,h⟩
    ·exact h.elim
   ·exact h.elim
  ·exact h.elim
 ·exact h.elim
theorem Li {op:UnOp} (h:vun op x K):∃ v,vun op x (fun u=>v=u)∧K v:=by
 unfold vun at h
 split at h<;>first | exact h.elim | exact⟨_,rfl,h⟩
theorem oZ {ag:Bool} {sz off:Nat} {cs:List C} (h:cU ag sz off cs K):∃ v,cU ag sz off cs (fun u=>v=u)∧K v:=by
 unfold cU at h
 split at h
 ·rename_i hag;exact⟨_,by unfold cU;rw[if_pos hag];exact⟨h.1,rfl⟩,h.2⟩
 ·rename_i hag
  split at h
  ·rename_i c hc;exact⟨_,by unfold cU;rw[if_neg hag,hc],h⟩
  ·exact h.elim
theorem EH {ag:Bool} {sz off:Nat} {vs:List V} (h:uj ag sz off vs K):∃ v,uj ag sz off vs (fun u=>v=u)∧K v:=by
 unfold uj at h
 split at h
 ·rename_i hag;exact⟨_,by unfold uj;rw[if_pos hag];exact⟨h.1,rfl⟩,h.2⟩
 ·rename_i hag
  split at h
  ·rename_i c hc;exact⟨_,by unfold uj;rw[if_neg hag,hc],h⟩
  ·exact h.elim
theorem EI {T:TypeId} (h:cy P T s x K):∃ v,cy P T s x (fun u=>v=u)∧K v:=by
 unfold cy at h
 split at h
 ·rename_i hi
  obtain⟨v,h1,h2⟩:=oZ h
  exact⟨v,by unfold cy;rw[hi];exact h1,h2⟩
 ·rename_i i b k hi
  obtain⟨hb,h⟩:=h
  split at h
  ·rename_i hag
   exact⟨_,by unfold cy;rw[hi];refine⟨hb,?_⟩;rw[if_pos hag];exact⟨h.1,rfl⟩,h.2⟩
  ·rename_i hag
   split at h
   ·rename_i c hc
    exact⟨_,by unfold cy;rw[hi];refine⟨hb,?_⟩;rw[if_neg hag,hc],h⟩
   ·exact h.elim
 ·rename_i hi
  rcases h with⟨h1,b,k,len,cap,E,es,c,h2,h⟩ | ⟨b,k,len,cap,E,es,h2,h⟩
  ·exact⟨_,by unfold cy;simp only[hi];exact .inl ⟨h1,b,k,len,cap,E,es,c,h2,rfl⟩,h⟩
  ·obtain⟨v,h3,h4⟩:=oZ h
   exact⟨v,by unfold cy;simp only[hi];exact .inr ⟨b,k,len,cap,E,es,h2,h3⟩,h4⟩
 ·exact h.elim
theorem u4 {T:TypeId} {f:Nat} (h:aK P T x f K):∃ v,aK P T x f (fun u=>v=u)∧K v:=by
 unfold aK at h
 split at h
 ·rename_i i hi
  split at h
  ·rename_i hf;exact⟨_,by unfold aK;simp only[hi,hf];exact⟨h.1,trivial⟩,h.2⟩
  ·rename_i hf;exact⟨_,by unfold aK;simp only[hi,hf];exact⟨h.1,trivial⟩,h.2⟩
  ·rename_i hf;exact⟨_,by unfold aK;simp only[hi,hf];exact⟨h.1,trivial⟩,h.2⟩
  ·exact h.elim
 ·exact h.elim
theorem BZ {T:TypeId} {f:Nat} (h:oM P T x f K):∃ v,oM P T x f (fun u=>v=u)∧K v:=by
 unfold oM at h
 split at h
 ·rename_i hi
  split at h
  ·rename_i hf
   obtain⟨v,h1,h2⟩:=oZ h
   exact⟨v,by unfold oM;simp only[hi,hf];exact h1,h2⟩
  ·exact h.elim
 ·rename_i hi
  split at h
  ·rename_i hf
   obtain⟨v,h1,h2⟩:=EH h
   exact⟨v,by unfold oM;simp only[hi,hf];exact h1,h2⟩
  ·exact h.elim
 ·exact h.elim
theorem u5 {T:TypeId} (h:cw P T x y K):∃ v,cw P T x y (fun u=>v=u)∧K v:=by
 unfold cw at h
 split at h
 ·rename_i hi
  split at h
  ·rename_i hj
   obtain⟨h0,h⟩:=h
   split at h
   ·rename_i hc
    exact⟨_,by unfold cw;simp only[hi,hj,hc];exact⟨h0,h.1,trivial⟩,h.2⟩
   ·exact h.elim
  ·exact h.elim
 ·rename_i hi
  split at h
  ·rename_i hj
   exact⟨_,by unfold cw;simp only[hi,hj];exact⟨h.1,trivial⟩,h.2⟩
  ·exact h.elim
 ·rename_i hi
  split at h
  ·rename_i hj
   exact⟨_,by unfold cw;simp only[hi,hj];exact⟨h.1,trivial⟩,h.2⟩
  ·exact h.elim
 ·rename_i hi
  split at h
  ·rename_i hj
   exact⟨_,by unfold cw;simp only[hi,hj];exact⟨h.1,trivial⟩,h.2⟩
  ·exact h.elim
 ·rename_i hi
  split at h
  ·rename_i hj
   exact⟨_,by unfold cw;simp only[hi,hj];exact⟨h.1,trivial⟩,h.2⟩
  ·exact h.elim
 ·exact h.elim
theorem B0 {T:TypeId} (h:lC P T x y K):∃ v,lC P T x y (fun u=>v=u)∧K v:=by
 unfold lC at h
 split at h
 ·rename_i hi
  obtain⟨h0,h⟩:=h
  split at h
  ·rename_i hc
   exact⟨_,by unfold lC;simp only[hi,hc];exact⟨h0,trivial⟩,h⟩
  ·exact h.elim
 ·rename_i hi
  split at h
  ·rename_i hj
   obtain⟨v,h1,h2⟩:=oZ h.2
   exact⟨v,by unfold lC;simp only[hi,hj];exact⟨h.1,h1⟩,h2⟩
  ·exact h.elim
 ·exact h.elim
theorem B1 {T:TypeId} {lo hi mx:Option V} (h:fP P T x lo hi mx K):∃ v,fP P T x lo hi mx (fun u=>v=u)∧K v:=by
 unfold fP at h
 split at h
 ·rename_i ht
  split at h
  ·rename_i e1 e2
   exact⟨_,by unfold fP;simp only[ht,e1,e2];exact⟨h.1,trivial⟩,h.2⟩
  ·exact h.elim
 ·rename_i ht
  split at h
  ·split at h
   ·rename_i e1 e2 e3
    exact⟨_,by unfold fP;simp only[ht,e1,e2,e3];exact⟨h.1,trivial⟩,h.2⟩
   ·exact h.elim
  ·split at h
   ·rename_i e1 e2
    exact⟨_,by unfold fP;simp only[ht,e1,e2];exact⟨h.1,trivial⟩,h.2⟩
   ·exact h.elim
  ·exact h.elim
 ·rename_i ht
  split at h
  ·rename_i e1 e2 e3 e4
   exact⟨_,by unfold fP;simp only[ht,e1,e2,e3,e4];exact⟨h.1,trivial⟩,h.2⟩
  ·exact h.elim
 ·rename_i ht
  split at h
  ·rename_i e1 e2 e3 e4
   exact⟨_,by unfold fP;simp only[ht,e1,e2,e3,e4];exact⟨h.1,trivial⟩,h.2⟩
  ·exact h.elim
 ·rename_i ht
  split at h
  ·rename_i e1
   exact⟨_,by unfold fP;simp only[ht,e1];exact⟨h.1,trivial⟩,h.2⟩
  ·exact h.elim
 ·rename_i ht
  split at h
  ·rename_i e1 e2 e3
   exact⟨_,by unfold fP;simp only[ht,e1,e2,e3];exact⟨h.1,trivial⟩,h.2⟩
  ·exact h.elim
 ·exact h.elim
theorem Il {T:TypeId} (h:BC P T x K):∃ v,BC P T x (fun u=>v=u)∧K v:=by
 unfold BC at h
 split at h
 ·rename_i e1
  split at h
  ·rename_i e2;exact⟨_,by unfold BC;simp only[e1,e2];exact⟨h.1,trivial⟩,h.2⟩
  ·exact h.elim
 ·exact h.elim
theorem EJ {src dst:TypeId} (h:mD P src dst x K):∃ v,mD P src dst x (fun u=>v=u)∧K v:=by
 unfold mD at h
 split at h
 ·rename_i e1 e2;exact⟨_,by unfold mD;simp only[e1,e2],h⟩
 ·rename_i e1 e2;exact⟨_,by unfold mD;simp only[e1,e2],h⟩
 ·rename_i e1 e2
  split at h
  ·rename_i e3;exact⟨_,by unfold mD;simp only[e1,e2,e3],h⟩
  ·exact h.elim
 ·rename_i e1 e2
  split at h
  ·rename_i e3
   split at h
   ·rename_i e4;exact⟨_,by unfold mD;simp only[e1,e2,e3,e4],h⟩
   ·exact h.elim
  ·exact h.elim
 ·exact h.elim
theorem B2 {T:TypeId} {parts:List (Nat×V)} (h:fQ P T parts K):∃ v,fQ P T parts (fun u=>v=u)∧K v:=by
 unfold fQ at h
 split at h
 ·rename_i e1
  split at h
  ·rename_i e2;exact⟨_,by unfold fQ;simp only[e1,e2],h⟩
  ·rename_i e2
   split at h
   ·rename_i e3;exact⟨_,by unfold fQ;simp only[e1,e2,e3],h⟩
   ·exact h.elim
 ·rename_i e1
  split at h
  ·rename_i e2
   split at h
   ·rename_i e3;exact⟨_,by unfold fQ;simp only[e1,e2,e3],h⟩
   ·rename_i e3
    split at h
    ·rename_i e4;exact⟨_,by unfold fQ;simp only[e1,e2,e3,e4],h⟩
    ·exact h.elim
  ·exact h.elim
 ·exact h.elim
theorem lG {T:TypeId} {len:Nat} {parts:List (Nat×V)} (h:ci P T len parts K):∃ v,ci P T len parts (fun u=>v=u)∧K v:=by
 unfold ci at h
 split at h
 ·rename_i e1
  split at h
  ·rename_i e2
   obtain⟨h0,h⟩:=h
   split at h
   ·rename_i e3;exact⟨_,by unfold ci;simp only[e1,e2,e3];exact⟨h0,trivial⟩,h⟩
   ·exact h.elim
  ·exact h.elim
 ·exact h.elim
theorem Im {T:TypeId} (h:fB P T x K):∃ v,fB P T x (fun u=>v=u)∧K v:=by
 unfold fB at h
 split at h
 all_goals first | exact h.elim | (rename_i e1;exact⟨_,by unfold fB;simp only[e1],h⟩)
theorem sa {T:TypeId} (h:dX P T x y K):∃ v,dX P T x y (fun u=>v=u)∧K v:=by
 unfold dX at h
 split at h
 ·rename_i e1
  split at h
  ·rename_i e2
   obtain⟨h0,h⟩:=h
   split at h
   ·exact⟨_,by unfold dX;simp only[e1,e2];exact⟨h0,h.1,trivial⟩,h.2⟩
   ·exact h.elim
  ·exact h.elim
 ·exact h.elim
theorem yo {mx:Bool} {l:List V} (h:zt mx l K):∃ v,zt mx l (fun u=>v=u)∧K v:=by
 unfold zt at h
 split at h
 ·exact⟨_,rfl,h⟩
 ·exact h.elim
theorem EL {f:V} {l:List V} (h:oc P G s f l K):∃ v,oc P G s f l (fun u=>v=u)∧K v:=by
 unfold oc at h
 split at h
 ·split at h
  ·rename_i e1
   obtain⟨r,h1,h2,h3⟩:=h
   exact⟨r,by unfold oc;simp only[e1];exact⟨r,h1,h2,rfl⟩,h3⟩
  ·exact h.elim
 ·split at h
  ·rename_i e1 e2 e3
   obtain⟨r,h1,h2,h3⟩:=h
   exact⟨r,by unfold oc;simp only[e1,e2,e3];exact⟨r,h1,h2,rfl⟩,h3⟩
  ·exact h.elim
 ·exact h.elim
theorem nR {b:Builtin} {ts:List TypeId} {l:List V} (h:dW P b ts l K):∃ v,dW P b ts l (fun u=>v=u)∧K v:=by
 unfold dW at h
 split at h
 ·exact Im h
 ·split at h
  ·rename_i ht
   obtain⟨v,h1,h2⟩:=sa h
   exact⟨v,by unfold dW;simp only[if_pos ht];exact h1,h2⟩
  ·rename_i ht
   unfold nD at h
   split at h
   ·rename_i e0 e1 e2
    split at h
    ·rename_i e3
     obtain⟨h0,h⟩:=h
     obtain⟨v,h1,h2⟩:=sa h
     exact⟨v,by unfold dW nD;simp only[if_neg ht,e0,e1,e2,e3];exact⟨h0,h1⟩,h2⟩
    ·exact h.elim
   ·exact h.elim
 ·exact yo h
 ·exact yo h
 ·exact h.elim
theorem B5 {bx:Nat→List V} {nb:Nat} {f:V} {l:List V} {K:(Nat→List V)→Nat→V→Prop} (h:ja P G bx nb f l K):∃ bx' nb' v,ja P G bx nb f l (fun b n u=>(bx'=b∧nb'=n)∧v=u)∧K bx' nb' v:=by
 unfold ja at h
 split at h
 ·rename_i g all e1
  obtain⟨ρ,cargs,b0,r,b1,h1,h2,h3,h4,h5⟩:=h
  exact⟨_,_,_,by unfold ja;simp only[e1];exact⟨ρ,cargs,b0,r,b1,h1,h2,h3,h4,⟨rfl,rfl⟩,rfl⟩,h5⟩
 ·exact h.elim
theorem vT {bx:Nat→List V} {nb n m:Nat} {K:(Nat→List V)→Nat→V→Prop} (h:vC bx nb n m K x):∃ bx' nb' v,vC bx nb n m (fun b n u=>(bx'=b∧nb'=n)∧v=u) x∧K bx' nb' v:=by
 unfold vC at h
 split at h
 ·exact⟨_,_,_,⟨⟨rfl,rfl⟩,rfl⟩,h⟩
 ·exact h.elim
theorem EM {T:TypeId} {K:Nat→Nat→Nat→List C→Prop} (h:oe P T x y K):∃ n m sz z,oe P T x y (fun n' m' sz' z'=>n=n'∧m=m'∧sz=sz'∧z=z')∧K n m sz z:=by
 unfold oe at h
 split at h
 ·rename_i e1
  split at h
  ·rename_i e2
   exact⟨_,_,_,_,by unfold oe;simp only[e1,e2];exact⟨h.1,by simp⟩,h.2⟩
  ·exact h.elim
 ·exact h.elim
theorem gY {T:TypeId} {K:Nat→List Nat→Nat→List V→Option Nat→V→Prop} (h:gy P T s x y K) :
 ∃ i bs cl r res z,gy P T s x y (fun i' bs' cl' r' res' z'=>i=i'∧bs=bs'∧cl=cl'∧r=r'∧res=res'∧z=z')∧K i bs cl r res z:=by
 unfold gy at h
 split at h
 ·rename_i e1
  split at h
  ·rename_i e2 e3
   split at h
   ·rename_i e4 e5 e6
    split at h
    ·rename_i e7
     split at h
     ·rename_i e8
      exact⟨_,_,_,_,_,_,by unfold gy;simp only[e1,e2,e3,e4,e5,e6,e7,e8];exact⟨h.1,by simp⟩,h.2⟩
     ·exact h.elim
    ·exact h.elim
   ·exact h.elim
  ·exact h.elim
 ·exact h.elim
theorem fh {T:TypeId} {i cl:Nat} {bs:List Nat} {r:List V} {res:Option Nat} {z:V} {K:Nat→List Nat→Nat→List V→Option Nat→V→Prop}
 (h:gy P T s x y (fun i' bs' cl' r' res' z'=>i=i'∧bs=bs'∧cl=cl'∧r=r'∧res=res'∧z=z')) (hK:K i bs cl r res z):gy P T s x y K:=by
 unfold gy at h
 split at h
 ·rename_i e1
  split at h
  ·rename_i e2 e3
   split at h
   ·rename_i e4 e5 e6
    split at h
    ·rename_i e7
     split at h
     ·rename_i e8
      obtain⟨h1,rfl,rfl,rfl,rfl,rfl,rfl⟩:=h
      unfold gy;simp only[e1,e2,e3,e4,e5,e6,e7,e8];exact⟨h1,hK⟩
     ·exact h.elim
    ·exact h.elim
   ·exact h.elim
  ·exact h.elim
 ·exact h.elim
theorem ol {T:TypeId} {kt et:TypeId} {tT tk te:TI} {ks:List EK} {kc:List C} {k z:V} {i cl:Nat} {bs:List Nat} {r:List V} {kcs:List (List C)} {res:Option Nat} {KM:Nat→List Nat→Nat→List V→Option Nat→V→Prop}
 (hT:ti P T=some tT) (hm:tT.kd=.map kt et) (hk:ti P kt=some tk) (hks:tk.eqs=some ks) (he:ti P et=some te) (hc:k.kcs tk.agg=some kc) (hz:nP te=some z) (hb:s.bx i=.mk bs cl::r)
 (hkc:iP tk.agg r=some kcs) (hf:lm ks kc kcs 0=some res) (hi:i<s.nb) (hl:kc.length=ks.length) (hr:ig ks kc kc=some true) (ha:zaB P et=true) (hK:KM i bs cl r res z):gy P T s (.mr i) k KM:=by
 obtain⟨kd,a1,a2,a3,a4,a5,a6⟩:=tT
 obtain⟨b1,b2,b3,ag,b5,b6,b7⟩:=tk
 simp only at hm hks hc hkc
 subst hm;subst hks
 unfold gy
 simp only[hT,hk,he,hc,hz,hb,hkc,hf]
 exact⟨⟨hi,hl,hr,ha⟩,hK⟩
theorem B6 {T:TypeId} {K K':Nat→List Nat→Nat→List V→Option Nat→V→Prop} (h:gy P T s x y K) (h':gy P T s x y K'):∃ i bs cl r res z,K i bs cl r res z∧K' i bs cl r res z:=by
 unfold gy at h
 split at h
 ·rename_i e1
  split at h
  ·rename_i e2 e3
   split at h
   ·rename_i e4 e5 e6
    split at h
    ·rename_i e7
     split at h
     ·rename_i e8
      unfold gy at h';simp only[e1,e2,e3,e4,e5,e6,e7,e8] at h'
      exact⟨_,_,_,_,_,_,h.2,h'.2⟩
     ·exact h.elim
    ·exact h.elim
   ·exact h.elim
  ·exact h.elim
 ·exact h.elim
theorem kL {T:TypeId} {s':S} {K:Nat→List Nat→Nat→List V→Option Nat→V→Prop} (hb:s.bx=s'.bx) (hn:s.nb=s'.nb) (h:gy P T s x y K):gy P T s' x y K:=by
 unfold gy at h ⊢
 rw[← hb,← hn];exact h
theorem Ab {T:TypeId} {v:V} {K:S→Prop} (h:gj P T s x y v K):∃ bx,gj P T ⟨fun _=>.un,s.bx,s.nb⟩ x y v (fun s'=>bx=s'.bx)∧K { s with bx:=bx }:=by
 unfold gj at h
 obtain⟨i,bs,cl,r,res,z,h1,h2⟩:=gY h
 cases res with
 |none=>exact⟨_,fh (kL rfl rfl h1) rfl,h2⟩
 |some j=>exact⟨_,fh (kL rfl rfl h1) rfl,h2⟩
theorem Ac {T:TypeId} {v:V} {bx:Nat→List V} (h:gj P T ⟨fun _=>.un,s.bx,s.nb⟩ x y v (fun s'=>bx=s'.bx)):gj P T s x y v (fun s'=>{ s with bx:=bx }=s'):=by
 unfold gj at h
 obtain⟨i,bs,cl,r,res,z,h1,h2⟩:=gY h
 cases res with
 |none=>simp only at h2;subst h2;exact fh (kL rfl rfl h1) rfl
 |some j=>simp only at h2;subst h2;exact fh (kL rfl rfl h1) rfl
theorem vU {T:TypeId} {K:S→V→Prop} (h:eS P T s x y K):∃ bx v,eS P T ⟨fun _=>.un,s.bx,s.nb⟩ x y (fun s' u=>bx=s'.bx∧v=u)∧K { s with bx:=bx } v:=by
 unfold eS at h
 obtain⟨i,bs,cl,r,res,z,h1,h2⟩:=gY h
 cases res with
 |none=>exact⟨_,_,fh (kL rfl rfl h1) ⟨rfl,rfl⟩,h2⟩
 |some j=>exact⟨s.bx,_,fh (kL rfl rfl h1) ⟨rfl,rfl⟩,h2⟩
theorem m3 {T:TypeId} {v:V} {bx:Nat→List V} (h:eS P T ⟨fun _=>.un,s.bx,s.nb⟩ x y (fun s' u=>bx=s'.bx∧v=u)):eS P T s x y (fun s' u=>{ s with bx:=bx }=s'∧v=u):=by
 unfold eS at h
 obtain⟨i,bs,cl,r,res,z,h1,h2⟩:=gY h
 cases res with
 |none=>obtain⟨rfl,rfl⟩:=h2;exact fh (kL rfl rfl h1) ⟨rfl,rfl⟩
 |some j=>obtain⟨rfl,rfl⟩:=h2;exact fh (kL rfl rfl h1) ⟨rfl,rfl⟩
theorem vV {v:V} {K:S→Prop} (h:eX s x y v K):∃ bx,eX ⟨fun _=>.un,s.bx,s.nb⟩ x y v (fun s'=>bx=s'.bx)∧K { s with bx:=bx }:=by
 unfold eX at h
 split at h
 ·split at h
  ·rename_i e2
   split at h
   ·rename_i e3;exact⟨_,by unfold eX;simp only[e2,e3];exact⟨h.1,trivial⟩,h.2⟩
   ·exact h.elim
  ·exact h.elim
 ·exact h.elim
theorem vW {v:V} {bx:Nat→List V} (h:eX ⟨fun _=>.un,s.bx,s.nb⟩ x y v (fun s'=>bx=s'.bx)):eX s x y v (fun s'=>{ s with bx:=bx }=s'):=by
 unfold eX at h
 split at h
 ·split at h
  ·rename_i e2
   split at h
   ·rename_i e3;obtain⟨h1,rfl⟩:=h;unfold eX;simp only[show s.bx _=_ from e2,e3];exact⟨h1,trivial⟩
   ·exact h.elim
  ·exact h.elim
 ·exact h.elim
theorem EN {ts:List TypeId} {xs:List V} {K:S→V→Prop} (h:lu P s K ts xs):∃ bx v,lu P ⟨fun _=>.un,s.bx,s.nb⟩ (fun s' u=>bx=s'.bx∧v=u) ts xs∧K { s with bx:=bx } v:=by
 unfold lu at h
 split at h
 ·split at h
  ·rename_i e1
   split at h
   ·rename_i e2;exact⟨_,_,by unfold lu;simp only[e1,e2];exact⟨h.1,by simp⟩,h.2⟩
   ·exact h.elim
  ·exact h.elim
 ·exact h.elim
theorem EO {ts:List TypeId} {xs:List V} {bx:Nat→List V} {v:V} (h:lu P ⟨fun _=>.un,s.bx,s.nb⟩ (fun s' u=>bx=s'.bx∧v=u) ts xs):lu P s (fun s' u=>{ s with bx:=bx }=s'∧v=u) ts xs:=by
 unfold lu at h
 split at h
 ·split at h
  ·rename_i e1
   split at h
   ·rename_i e2;obtain⟨h0,rfl,rfl⟩:=h;unfold lu;simp only[e1,e2];exact⟨h0,by simp⟩
   ·exact h.elim
  ·exact h.elim
 ·exact h.elim
theorem Qh {ts:List TypeId} {xs:List V} {K K':S→V→Prop} (h:lu P s K ts xs) (hk:∀ s v,K s v→K' s v):lu P s K' ts xs:=by
 unfold lu at h
 split at h
 ·split at h
  ·rename_i e1
   split at h
   ·rename_i e2;unfold lu;simp only[e1,e2];exact⟨h.1,hk _ _ h.2⟩
   ·exact h.elim
  ·exact h.elim
 ·exact h.elim
theorem xH {ts:List TypeId} {xs:List V} {K:S→V→Prop} (h:d6 P s K ts xs):∃ bx v,d6 P ⟨fun _=>.un,s.bx,s.nb⟩ (fun s' u=>bx=s'.bx∧v=u) ts xs∧K { s with bx:=bx } v:=by
 unfold d6 at h
 split at h
 ·rename_i b off len cap sz y
  have hi:rb s y=rb ⟨fun _=>.un,s.bx,s.nb⟩ y:=by cases y<;>rfl
  split at h
  ·rename_i e1 e2
   split at h
   ·rename_i e3;exact⟨_,_,by unfold d6;rw[hi] at e2;simp only[e1,e2,e3];exact⟨h.1,by simp⟩,h.2⟩
   ·exact h.elim
  ·exact h.elim
 ·split at h
  ·rename_i e1
   split at h
   ·rename_i e2
    obtain⟨b,k,j,E,es,h1,h2⟩:=h
    exact⟨_,_,by unfold d6;simp only[e1,e2];exact⟨b,k,j,E,es,h1,by simp⟩,h2⟩
   ·exact h.elim
  ·exact h.elim
 ·exact h.elim
theorem xI {ts:List TypeId} {xs:List V} {bx:Nat→List V} {v:V} (h:d6 P ⟨fun _=>.un,s.bx,s.nb⟩ (fun s' u=>bx=s'.bx∧v=u) ts xs):d6 P s (fun s' u=>{ s with bx:=bx }=s'∧v=u) ts xs:=by
 unfold d6 at h
 split at h
 ·rename_i b off len cap sz y
  have hi:rb s y=rb ⟨fun _=>.un,s.bx,s.nb⟩ y:=by cases y<;>rfl
  split at h
  ·rename_i e1 e2
   split at h
   ·rename_i e3;obtain⟨h0,rfl,rfl⟩:=h;unfold d6;rw[← hi] at e2;simp only[e1,e2,e3];exact⟨h0,by simp⟩
   ·exact h.elim
  ·exact h.elim
 ·split at h
  ·rename_i e1
   split at h
   ·rename_i e2
    obtain⟨b,k,j,E,es,h1,rfl,rfl⟩:=h
    unfold d6;simp only[e1,e2];exact⟨b,k,j,E,es,h1,by simp⟩
   ·exact h.elim
  ·exact h.elim
 ·exact h.elim
theorem EP {ts:List TypeId} {xs:List V} {K K':S→V→Prop} (h:d6 P s K ts xs) (hk:∀ s v,K s v→K' s v):d6 P s K' ts xs:=by
 unfold d6 at h
 split at h
 ·split at h
  ·rename_i e1 e2
   split at h
   ·rename_i e3;unfold d6;simp only[e1,e2,e3];exact⟨h.1,hk _ _ h.2⟩
   ·exact h.elim
  ·exact h.elim
 ·split at h
  ·rename_i e1
   split at h
   ·rename_i e2
    obtain⟨b,k,j,E,es,h1,h2⟩:=h
    unfold d6;simp only[e1,e2];exact⟨b,k,j,E,es,h1,hk _ _ h2⟩
   ·exact h.elim
  ·exact h.elim
 ·exact h.elim
theorem sb {tr:List Nat} {o:Oper} {args:Array Operand} {ts:Array TypeId} {K:S→V→Prop} {s':S} (hop:o.op=.call { callee:=.builtin .append,args:=args,argTypes:=ts }) (h:d6 P s' K ts.toList (args.toList.map (ev G s))) :
 s.use (bN tr o)=s:=by
 have e:bN tr o=match args.toList with | .tmp t::_=>some t | _=>none:=by
  unfold bN;rw[hop];rfl
 rw[e]
 split
 ·rename_i t r ha
  rw[ha,aI] at h
  unfold d6 at h
  split at h
  ·rename_i b off len cap sz y heq1 heq2
   simp only[bJ] at heq2
   have:s.fr t=.ms b off len cap sz:=heq2.1
   simp[S.use,this,V.isOw]
  ·rename_i heq1 heq2
   simp only[bJ] at heq2
   have:=heq2.1
   simp only[ev] at this
   simp[S.use,this,V.isOw]
  ·exact h.elim
 ·rfl
theorem B7 {ts:List TypeId} {xs:List V} {K:S→Prop} (h:gz P s K ts xs):∃ bx,gz P ⟨fun _=>.un,s.bx,s.nb⟩ (fun s'=>bx=s'.bx) ts xs∧K { s with bx:=bx }:=by
 unfold gz at h
 split at h
 ·split at h
  ·rename_i e1
   split at h
   ·rename_i e2;exact⟨_,by unfold gz;simp only[e1,e2];exact⟨h.1,trivial⟩,h.2⟩
   ·exact h.elim
  ·exact h.elim
 ·split at h
  ·rename_i e1
   split at h
   ·rename_i e2
    obtain⟨b,k,j,cap,E,es,h1,h2⟩:=h
    exact⟨_,by unfold gz;simp only[e1,e2];exact⟨b,k,j,cap,E,es,h1,rfl⟩,h2⟩
   ·exact h.elim
  ·exact h.elim
 ·exact h.elim
theorem B8 {ts:List TypeId} {xs:List V} {bx:Nat→List V} (h:gz P ⟨fun _=>.un,s.bx,s.nb⟩ (fun s'=>bx=s'.bx) ts xs):gz P s (fun s'=>{ s with bx:=bx }=s') ts xs:=by
 unfold gz at h
 split at h
 ·split at h
  ·rename_i e1
   split at h
   ·rename_i e2;obtain⟨h0,rfl⟩:=h;unfold gz;simp only[e1,e2];exact⟨h0,trivial⟩
   ·exact h.elim
  ·exact h.elim
 ·split at h
  ·rename_i e1
   split at h
   ·rename_i e2
    obtain⟨b,k,j,cap,E,es,h1,rfl⟩:=h
    unfold gz;simp only[e1,e2];exact⟨b,k,j,cap,E,es,h1,rfl⟩
   ·exact h.elim
  ·exact h.elim
 ·exact h.elim
theorem Lj {ts:List TypeId} {xs:List V} {K K':S→Prop} (h:gz P s K ts xs) (hk:∀ s,K s→K' s):gz P s K' ts xs:=by
 unfold gz at h
 split at h
 ·split at h
  ·rename_i e1
   split at h
   ·rename_i e2;unfold gz;simp only[e1,e2];exact⟨h.1,hk _ h.2⟩
   ·exact h.elim
  ·exact h.elim
 ·split at h
  ·rename_i e1
   split at h
   ·rename_i e2
    obtain⟨b,k,j,cap,E,es,h1,h2⟩:=h
    unfold gz;simp only[e1,e2];exact⟨b,k,j,cap,E,es,h1,hk _ h2⟩
   ·exact h.elim
  ·exact h.elim
 ·exact h.elim
theorem Ip {T:TypeId} {v:V} {K K':S→Prop} (h:gj P T s x y v K) (hk:∀ s,K s→K' s):gj P T s x y v K':=by
 unfold gj at h
 obtain⟨i,bs,cl,r,res,z,h1,h2⟩:=gY h
 refine fh h1 ?_
 cases res<;>exact hk _ h2
theorem pH {T:TypeId} {K K':S→V→Prop} (h:eS P T s x y K) (hk:∀ s v,K s v→K' s v):eS P T s x y K':=by
 unfold eS at h
 obtain⟨i,bs,cl,r,res,z,h1,h2⟩:=gY h
 refine fh h1 ?_
 cases res<;>exact hk _ _ h2
theorem B9 {v:V} {K K':S→Prop} (h:eX s x y v K) (hk:∀ s,K s→K' s):eX s x y v K':=by
 unfold eX at h
 split at h
 ·split at h
  ·rename_i e2
   split at h
   ·rename_i e3;unfold eX;simp only[e2,e3];exact⟨h.1,hk _ h.2⟩
   ·exact h.elim
  ·exact h.elim
 ·exact h.elim
theorem Ad {T:TypeId} {ok:Bool} (h:eW P T s x y ok K):∃ v,eW P T s x y ok (fun u=>v=u)∧K v:=by
 unfold eW at h
 obtain⟨i,bs,cl,r,res,z,h1,h2⟩:=gY h
 cases res with
 |none=>cases ok<;>exact⟨_,fh h1 rfl,h2⟩
 |some j=>cases ok<;>exact⟨_,fh h1 rfl,h2⟩
theorem uv {T:TypeId} {ok:Bool} {v u:V} (h:eW P T s x y ok (fun w=>v=w)) (h':eW P T s x y ok (fun w=>u=w)):v=u:=by
 unfold eW at h h'
 obtain⟨i,bs,cl,r,res,z,h1,h2⟩:=gY h
 obtain⟨i',bs',cl',r',res',z',h1',h2'⟩:=gY h'
 have e:i'=i∧bs'=bs∧cl'=cl∧r'=r∧res'=res∧z'=z:=by
  have:=B6 h1 h1'
  obtain⟨_,_,_,_,_,_,⟨rfl,rfl,rfl,rfl,rfl,rfl⟩,rfl,rfl,rfl,rfl,rfl,rfl⟩:=this
  exact⟨rfl,rfl,rfl,rfl,rfl,rfl⟩
 obtain⟨rfl,rfl,rfl,rfl,rfl,rfl⟩:=e
 cases res'<;>cases ok<;>simp only at h2 h2'<;>(rw[show v=_ from h2,show u=_ from h2'])
theorem Ca {T:TypeId} (h:ml P T s x K):∃ v,ml P T s x (fun u=>v=u)∧K v:=by
 unfold ml at h
 split at h
 ·rename_i e1
  split at h
  ·rename_i e2;exact⟨_,by unfold ml;simp only[e1,e2];exact⟨h.1,trivial⟩,h.2⟩
  ·exact h.elim
 ·exact h.elim
theorem Cb (h:lD s x K):∃ v,lD s x (fun u=>v=u)∧K v:=by
 unfold lD at h
 split at h
 ·split at h
  ·rename_i e2 e3
   split at h
   ·rename_i e4;exact⟨_,by unfold lD;simp only[e2,e3,e4];exact⟨h.1,trivial⟩,h.2⟩
   ·exact h.elim
  ·exact h.elim
 ·exact h.elim
theorem vX {ts:List TypeId} {E:Option (TypeId×Nat)} {es:List (List C)} (h:ln P ts E es y K):∃ v,ln P ts E es y (fun u=>v=u)∧K v:=by
 unfold ln at h
 split at h
 ·obtain⟨h1,h⟩:=h
  split at h
  ·rename_i e3
   split at h
   ·rename_i e4
    obtain⟨h2,h⟩:=h
    split at h
    ·exact⟨_,by unfold ln;simp only[e3,e4];exact⟨h1,h2,h.1,trivial⟩,h.2⟩
    ·exact h.elim
   ·exact h.elim
  ·exact h.elim
 ·exact h.elim
theorem Cc {d:Option Tmp} {args:List Operand} {ts:List TypeId} (h:iQ P G s d ts args K):∃ v,iQ P G s d ts args (fun u=>v=u)∧K v:=by
 unfold iQ at h
 split at h
 ·split at h
  ·rename_i e1 e2
   obtain⟨h0,h⟩:=h
   obtain⟨v,h1,h2⟩:=nR h
   exact⟨v,by unfold iQ;simp only[e1,e2];exact⟨h0,h1⟩,h2⟩
  ·rename_i e1 e2
   obtain⟨h0,h⟩:=h
   obtain⟨v,h1,h2⟩:=vX h
   exact⟨v,by unfold iQ;simp only[e1,e2];exact⟨h0,h1⟩,h2⟩
  ·rename_i e1
   obtain⟨h0,h⟩:=h
   obtain⟨v,h1,h2⟩:=vX h
   exact⟨v,by unfold iQ;simp only[e1];exact⟨h0,h1⟩,h2⟩
  ·exact h.elim
 ·exact h.elim
theorem Iq {d:Option Tmp} {args:List Operand} {ts:List TypeId} (h:rL P G s d ts args K):∃ v,rL P G s d ts args (fun u=>v=u)∧K v:=by
 unfold rL at h
 split at h
 ·split at h
  ·rename_i e1 e2
   obtain⟨h0,h⟩:=h
   unfold qO at h
   split at h
   ·obtain⟨h1,h⟩:=h
    split at h
    ·rename_i e3
     split at h
     ·rename_i e4
      obtain⟨h2,h⟩:=h
      split at h
      ·rename_i e5
       exact⟨_,by unfold rL;simp only[e1,e2];refine⟨h0,?_⟩;unfold qO;simp only[e3,e4,e5];exact⟨h1,h2,h.1,trivial⟩,h.2⟩
      ·exact h.elim
     ·exact h.elim
    ·exact h.elim
   ·exact h.elim
  ·exact h.elim
 ·exact h.elim
theorem Cd (h:VYK P G tr o s K):∃ v,VYK P G tr o s (fun u=>v=u)∧K v:=by
 obtain⟨dst,op,type,pos,after,guard⟩:=o
 cases op<;>simp only[VYK] at h ⊢<;>try exact h.elim
 case move x=>
  split at h
  ·rename_i e;simp only[if_pos e];exact⟨_,rfl,h⟩
  ·rename_i e;simp only[if_neg e];exact⟨_,rfl,h⟩
 case assign x=>exact⟨_,rfl,h⟩
 case pick c a b=>
  split at h
  ·exact⟨_,rfl,h⟩
  ·exact h.elim
 case build T parts=>exact B2 h
 case buildSlice T len parts=>exact lG h
 case load T x=>exact EI h
 case binOp op T x y yT=>exact Ik h
 case unOp op T x=>exact Li h
 case convert src dst x=>exact EJ h
 case lookup T x k ok=>exact Ad h
 case range T x=>exact Ca h
 case entry x=>exact Cb h
 case makeFunc f a b=>exact⟨_,⟨h.1,rfl⟩,h.2⟩
 case sliceToArrayPointer T x=>exact Il h
 case nilCheck x=>
  split at h
  ·exact⟨_,rfl,h⟩
  ·exact⟨_,rfl,h⟩
  ·exact h.elim
 case slice T x lo hi mx=>exact B1 h
 case fieldAddr T x f=>exact u4 h
 case field T x f=>exact BZ h
 case indexAddr T x i=>exact u5 h
 case index T x i=>exact B0 h
 case extract x i=>
  split at h
  ·split at h
   ·exact⟨_,rfl,h⟩
   ·exact h.elim
  ·exact h.elim
 case call c=>
  obtain⟨callee,args,ts⟩:=c
  cases callee with
  |value f=>exact EL h
  |invoke r m=>exact h.elim
  |builtin b=>
   cases b
   case append=>
    have h':(if vB tr dst then(if rK tr dst then rL P G s dst ts.toList args.toList K else iQ P G s dst ts.toList args.toList K) else dW P .append ts.toList (args.toList.map fun x=>vw s (ev G s x)) K):=h
    show ∃ v,(if vB tr dst then(if rK tr dst then rL P G s dst ts.toList args.toList (fun u=>v=u) else iQ P G s dst ts.toList args.toList (fun u=>v=u)) else dW P .append ts.toList (args.toList.map fun x=>vw s (ev G s x)) (fun u=>v=u))∧K v
    by_cases hg:vB tr dst=true
    ·rw[if_pos hg] at h';simp only[if_pos hg]
     by_cases hg2:rK tr dst=true
     ·rw[if_pos hg2] at h';simp only[if_pos hg2];exact Iq h'
     ·rw[if_neg hg2] at h';simp only[if_neg hg2];exact Cc h'
    ·rw[if_neg hg] at h';simp only[if_neg hg];exact nR h'
   all_goals exact nR h
end
section
variable {P:Program} {G:Gl} {tr:List Nat} {s:S} {o:Oper} {x y:V} {ops:Array Oper} {md:Region.Mode}
inductive Ef where
 |v (x:V)
 |al (cs:List V)
 |st (b k:Nat) (ds:List V)
 |gn (bx:Nat→List V) (nb:Nat) (x:V)
 |skip
def Ef.val (nb:Nat):Ef→V
 | .v x=>x
 | .al _=>.bp nb 0
 | .st _ _ _=>.sk
 | .gn _ _ x=>x
 | .skip=>.sk
def Ef.bx (nb:Nat) (bx:Nat→List V):Ef→Nat→List V
 | .al cs=>up bx nb cs
 | .st b k ds=>up bx b (eF (bx b) k ds)
 | .gn bx' _ _=>bx'
 |_=>bx
def Ef.nb (nb:Nat):Ef→Nat
 | .al _=>nb+1
 | .gn _ nb' _=>nb'
 |_=>nb
def Ef.uses:Ef→Bool
 | .skip=>false
 |_=>true
def Ae (u:Bool) (t:Option Tmp) (fr:Nat→V):Nat→V:=match t with
 |some t=>if u&&(fr t).isOw then up fr t .un else fr
 |none=>fr
def Ce (d:Option Tmp) (x:V) (fr:Nat→V):Nat→V:=match d with
 |some d=>up fr d x
 |none=>fr
def Ef.run (tr:List Nat) (o:Oper) (s:S) (e:Ef):S:=⟨Ce o.dst (e.val s.nb) (Ae e.uses (bN tr o) s.fr),e.bx s.nb s.bx,e.nb s.nb⟩
def VEf (P:Program) (G:Gl) (tr:List Nat) (o:Oper) (s:S) (e:Ef):Prop:=
 match o.op with
 | .alloc T=>match ti P T with
  |some { zero:=some z,.. }=>e=.al (z.map kS)
  |_=>False
 | .box _ x=>match(ev G s x).bcells with
  |some cs=>e=.al cs
  |none=>False
 | .store T p x=>mE tr (Es p) (ev G s p)=true∧match ti P T,ev G s p,(ev G s x).bcells with
  |some i,.bp b k,some cs=>(b<s.nb∧cs.length=i.size∧k+i.size≤(s.bx b).length∧ck (s.bx b)=false)∧e=.st b k cs
  |some i,.c (.ex (.pointer (some ⟨blk,j,none⟩))),_=>(∃ (b k len cap:Nat) (E:Option (TypeId×Nat)) (es:List (List C)) (r:Nat) (e':List C) (c:C),(i.size=1∧b<s.nb∧ck (s.bx b)=false∧(s.bx b)[k]?=some (V.hh (some (.slice (some ⟨blk,0,none⟩) len cap)) E (es++[e']))∧
    (es.flatten.length+r=j∧r<e'.length)∧(ev G s x).asC=some c)∧
   e=.gn (up s.bx b ((s.bx b).set k (.hh (some (.slice (some ⟨blk,0,none⟩) len cap)) E (es++[e'.set r c])))) s.nb .sk)∨Vs s.bx s.nb i blk j (ev G s x) (fun bx=>e=.gn bx s.nb .sk)
  |_,_,_=>False
 | .buildSlice T len parts=>if lV tr o.dst then ∃ bx nb x,e=.gn bx nb x∧ci P T len (parts.toList.map fun(i,x)=>(i,ev G s x)) (vC s.bx s.nb len len fun b n u=>(bx=b∧nb=n)∧x=u)
  else ∃ v,e=.v v∧VYK P G tr o s fun u=>v=u
 | .makeSlice T l c=>∃ bx nb x,e=.gn bx nb x∧oe P T (ev G s l) (ev G s c) fun n m sz z=>(up s.bx s.nb ((List.replicate m z).flatten.map .c)=bx∧s.nb+1=nb)∧V.ms s.nb 0 n m sz=x
 | .call { callee:=.value f,args:=args,.. }=>if rM tr o.dst then ∃ bx nb x,e=.gn bx nb x∧ja P G s.bx s.nb (ev G s f) (args.toList.map (ev G s)) (fun b n u=>(bx=b∧nb=n)∧x=u)∧(xt tr o.dst=true→nb=s.nb∧∀ b,bx b=s.bx b∨(b<100∧tr.contains (500000+o.dst.getD 0*100+b)=true))
  else ∃ v,e=.v v∧VYQ P G tr o s f args fun u=>v=u
 | .load _ x=>∃ v,e=.v v∧mE tr o.dst (ev G s x)=true∧VYK P G tr o s fun u=>v=u
 | .mapUpdate T m k x=>∃ bx,e=.gn bx s.nb .sk∧gj P T ⟨fun _=>.un,s.bx,s.nb⟩ (ev G s m) (ev G s k) (ev G s x) fun s'=>bx=s'.bx
 | .mapEntry T m k=>∃ bx v,e=.gn bx s.nb v∧eS P T ⟨fun _=>.un,s.bx,s.nb⟩ (ev G s m) (ev G s k) fun s' u=>bx=s'.bx∧v=u
 | .entryStore _ m n x=>∃ bx,e=.gn bx s.nb .sk∧eX ⟨fun _=>.un,s.bx,s.nb⟩ (ev G s m) (ev G s n) (ev G s x) fun s'=>bx=s'.bx
 | .call { callee:=.builtin .copy,args:=args,argTypes:=ts }=>∃ bx v,e=.gn bx s.nb v∧lu P ⟨fun _=>.un,s.bx,s.nb⟩ (fun s' u=>bx=s'.bx∧v=u) ts.toList (args.toList.map (ev G s))
 | .call { callee:=.builtin .append,args:=args,argTypes:=ts }=>if lV tr o.dst then False else if re tr o.dst then ∃ bx v,e=.gn bx s.nb v∧d6 P ⟨fun _=>.un,s.bx,s.nb⟩ (fun s' u=>bx=s'.bx∧v=u) ts.toList (args.toList.map (ev G s))
  else ∃ v,e=.v v∧VYK P G tr o s fun u=>v=u
 | .call { callee:=.builtin .clear,args:=args,argTypes:=ts }=>∃ bx,e=.gn bx s.nb .un∧gz P ⟨fun _=>.un,s.bx,s.nb⟩ (fun s'=>bx=s'.bx) ts.toList (args.toList.map (ev G s))
 |_=>∃ v,e=.v v∧VYK P G tr o s fun u=>v=u
theorem Lk {t:Option Tmp}:(s.use t).bx=s.bx:=by
 cases t with
 |none=>rfl
 |some t=>simp only[S.use];split<;>rfl
theorem Af {t:Option Tmp}:(s.use t).nb=s.nb:=by
 cases t with
 |none=>rfl
 |some t=>simp only[S.use];split<;>rfl
theorem sc (v:V):(Ef.v v).run tr o s=s.after tr o v:=by
 unfold Ef.run S.after S.use S.put Ae Ce
 cases bN tr o with
 |none=>cases o.dst<;>rfl
 |some t=>by_cases h:(s.fr t).isOw=true<;>cases o.dst<;>simp[h,Ef.uses,S.clr,Ef.val,Ef.bx,Ef.nb]
theorem Ag (cs:List V):(Ef.al cs).run tr o s=(let s':=s.use (bN tr o);{ s' with bx:=up s'.bx s'.nb cs,nb:=s'.nb+1 }:S).put o.dst (.bp s.nb 0):=by
 unfold Ef.run S.use S.put Ae Ce
 cases bN tr o with
 |none=>cases o.dst<;>rfl
 |some t=>by_cases h:(s.fr t).isOw=true<;>cases o.dst<;>simp[h,Ef.uses,S.clr,Ef.val,Ef.bx,Ef.nb]
theorem Ll (b k:Nat) (ds:List V):(Ef.st b k ds).run tr o s=(let s':=s.use (bN tr o);{ s' with bx:=up s'.bx b (eF (s'.bx b) k ds) }:S).put o.dst .sk:=by
 unfold Ef.run S.use S.put Ae Ce
 cases bN tr o with
 |none=>cases o.dst<;>rfl
 |some t=>by_cases h:(s.fr t).isOw=true<;>cases o.dst<;>simp[h,Ef.uses,S.clr,Ef.val,Ef.bx,Ef.nb]
theorem iw (bx:Nat→List V) (nb:Nat) (x:V):(Ef.gn bx nb x).run tr o s=(let s':=s.use (bN tr o);{ s' with bx:=bx,nb:=nb }:S).put o.dst x:=by
 unfold Ef.run S.use S.put Ae Ce
 cases bN tr o with
 |none=>cases o.dst<;>rfl
 |some t=>by_cases h:(s.fr t).isOw=true<;>cases o.dst<;>simp[h,Ef.uses,S.clr,Ef.val,Ef.bx,Ef.nb]
theorem pI {T:TypeId} {len:Nat} {parts:List (Nat×V)} {v:V} {K:V→Prop} (h:ci P T len parts (fun u=>v=u)) (hk:∀ u,v=u→K u):ci P T len parts K:=by
 unfold ci at h
 split at h
 ·rename_i e1
  split at h
  ·rename_i e2
   obtain⟨h0,h⟩:=h
   split at h
   ·rename_i e3
    unfold ci
    simp only[e1,e2,e3]
    exact⟨h0,hk _ h⟩
   ·exact h.elim
  ·exact h.elim
 ·exact h.elim
theorem Cf {f:V} {args:List V} {K:V→Prop} (h:kz P G s f args K):∃ v,kz P G s f args (fun u=>v=u)∧K v:=by
 unfold kz at h
 split at h
 ·rename_i g all hc
  obtain⟨ρ,cargs,b0,r,h1,h2,h3,h4,h5,h6⟩:=h
  exact⟨r,by unfold kz;simp only[hc];exact⟨ρ,cargs,b0,r,h1,h2,h3,h4,h5,rfl⟩,h6⟩
 ·exact h.elim
theorem yp {s s':S} {ρ:Nat→Nat} (hn:s.nb≤s'.nb) (hb:∀ i,i<s.nb→s'.bx i=s.bx i):∀ (b:List (List V)) (i:Nat),nw s.bx s.nb ρ i b→nw s'.bx s'.nb ρ i b
 |[],_,_=>trivial
 |x::r,i,h=>⟨⟨bT h.1.1 hn,by rw[hb _ h.1.1];exact h.1.2⟩,yp hn hb r (i+1) h.2⟩
theorem uw {s s':S} {f:V} {args:List V} {K:V→Prop} (hn:s.nb≤s'.nb) (hb:∀ i,i<s.nb→s'.bx i=s.bx i) (h:kz P G s f args K):kz P G s' f args K:=by
 unfold kz at h ⊢
 split at h
 ·rename_i g all hc
  obtain⟨ρ,cargs,b0,r,h1,h2,h3,h4,h5,h6⟩:=h
  exact⟨ρ,cargs,b0,r,h1,h2,h3,fun N=>yp hn hb _ _ (h4 N),h5,h6⟩
 ·exact h.elim
theorem Ir {bx:Nat→List V} {nb:Nat} {f:V} {l:List V} {K K':(Nat→List V)→Nat→V→Prop} (h:ja P G bx nb f l K) (hk:∀ b n u,K b n u→K' b n u):ja P G bx nb f l K':=by
 unfold ja at h
 split at h
 ·rename_i e1
  unfold ja
  simp only[e1]
  obtain⟨ρ,cargs,b0,r,b1,h1,h2,h3,h4,h5⟩:=h
  exact⟨ρ,cargs,b0,r,b1,h1,h2,h3,h4,hk _ _ _ h5⟩
 ·exact h.elim
theorem Cg {T:TypeId} {l c:V} {K K':Nat→Nat→Nat→List C→Prop} (h:oe P T l c K) (hk:∀ n m sz z,K n m sz z→K' n m sz z):oe P T l c K':=by
 unfold oe at h
 split at h
 ·rename_i e1
  split at h
  ·rename_i e2
   unfold oe
   simp only[e1,e2]
   exact⟨h.1,hk _ _ _ _ h.2⟩
  ·exact h.elim
 ·exact h.elim
theorem pJ:Ef.skip.run tr o s=s.put o.dst .sk:=by
 unfold Ef.run S.put Ae Ce
 cases bN tr o<;>cases o.dst<;>simp[Ef.uses,Ef.val,Ef.bx,Ef.nb]
theorem VStep.ef {K:S→Prop} (hAN:j6 tr o=false) (h:VStep P G tr o s K):∃ e,e≠.skip∧VEf P G tr o s e∧K (e.run tr o s):=by
 have gen:VYK P G tr o s (fun v=>K (s.after tr o v))→(∀ e,VEf P G tr o s e↔∃ v,e=.v v∧VYK P G tr o s fun u=>v=u)→∃ e,e≠.skip∧VEf P G tr o s e∧K (e.run tr o s):=fun h hV=>by
  obtain⟨v,h1,h2⟩:=Cd h
  exact⟨.v v,by simp,(hV _).2 ⟨v,rfl,h1⟩,by rw[sc];exact h2⟩
 unfold VStep at h
 split at h
 ·rename_i T hop
  split at h
  ·rename_i z _ _ hi
   refine⟨.al (z.map kS),by simp,by unfold VEf;rw[hop];simp only[hi],?_⟩
   rw[Ag]
   have:bN tr o=none:=by simp[bN,hop]
   rw[this];exact h
  ·exact h.elim
 ·rename_i T X hop
  split at h
  ·rename_i cs hi
   refine⟨.al cs,by simp,by unfold VEf;rw[hop];simp only[hi],?_⟩
   rw[Ag];exact h
  ·exact h.elim
 ·rename_i T p X hop
  obtain⟨hdec,h⟩:=h
  split at h
  ·rename_i i b k cs h1 h2 h3
   obtain⟨h4,h⟩:=h
   refine⟨.st b k cs,by simp,by unfold VEf;rw[hop];simp only[h1,h2,h3];rw[h2] at hdec;exact⟨hdec,h4,trivial⟩,?_⟩
   rw[Ll];exact h
  ·rename_i i blk j h1 h2
   rcases h with h | ⟨b,k,len,cap,q,E,es,cs,h4,h⟩
   rotate_left
   ·refine⟨.gn (up s.bx b ((s.bx b).set k (.gg (.slice (some ⟨blk,0,none⟩) len cap) (some (E,i.size)) (es.set q cs)))) s.nb .sk,by simp,by unfold VEf;rw[hop];simp only[h1,h2];rw[h2] at hdec;exact⟨hdec,.inr ⟨b,k,len,cap,q,E,es,cs,h4,rfl⟩⟩,?_⟩
    rw[iw]
    have e:∀ bx,({ s.use (bN tr o) with bx:=bx,nb:=s.nb }:S)={ s.use (bN tr o) with bx:=bx }:=fun bx=>by rw[← Af (s:=s) (t:=bN tr o)]
    show K (({ s.use (bN tr o) with bx:=_,nb:=s.nb }:S).put o.dst .sk)
    rw[e]
    exact h
   obtain⟨b,k,len,cap,E,es,r,e',c,h4,h⟩:=h
   refine⟨.gn (up s.bx b ((s.bx b).set k (.hh (some (.slice (some ⟨blk,0,none⟩) len cap)) E (es++[e'.set r c])))) s.nb .sk,by simp,by unfold VEf;rw[hop];simp only[h1,h2];rw[h2] at hdec;exact⟨hdec,.inl ⟨b,k,len,cap,E,es,r,e',c,h4,rfl⟩⟩,?_⟩
   rw[iw]
   have h':K (({ s.use (bN tr o) with bx:=up (s.use (bN tr o)).bx b (((s.use (bN tr o)).bx b).set k (.hh (some (.slice (some ⟨blk,0,none⟩) len cap)) E (es++[e'.set r c]))) }:S).put o.dst .sk):=h
   rw[Lk] at h'
   have e:({ s.use (bN tr o) with bx:=up s.bx b ((s.bx b).set k (.hh (some (.slice (some ⟨blk,0,none⟩) len cap)) E (es++[e'.set r c]))),nb:=s.nb }:S)={ s.use (bN tr o) with bx:=up s.bx b ((s.bx b).set k (.hh (some (.slice (some ⟨blk,0,none⟩) len cap)) E (es++[e'.set r c]))) }:=by rw[← Af (s:=s) (t:=bN tr o)]
   show K (({ s.use (bN tr o) with bx:=up s.bx b ((s.bx b).set k (.hh (some (.slice (some ⟨blk,0,none⟩) len cap)) E (es++[e'.set r c]))),nb:=s.nb }:S).put o.dst .sk)
   rw[e]
   exact h'
  ·exact h.elim
 ·rename_i T len parts hop
  split at h
  ·rename_i hn
   obtain⟨v,h1,h2⟩:=lG h
   obtain⟨bx,nb,x,h3,h4⟩:=vT h2
   refine⟨.gn bx nb x,by simp,?_,?_⟩
   ·unfold VEf;rw[hop];simp only[hn,cA]
    refine⟨bx,nb,x,rfl,?_⟩
    refine pI h1 fun u hu=>?_
    subst hu;exact h3
   ·rw[iw]
    have:bN tr o=none:=by simp[bN,hop]
    rw[this];exact h4
  ·rename_i hn
   have hb:Ep tr o.dst=false:=by simpa[j6,hop] using hAN
   simp only[hb,aS,cX] at h
   refine gen h fun e=>?_
   unfold VEf;rw[hop];simp only[if_neg hn]
 ·rename_i T l c hop
  obtain⟨p,m,sz,z,h1,h2⟩:=EM h
  refine⟨.gn (up s.bx s.nb ((List.replicate m z).flatten.map .c)) (s.nb+1) (.ms s.nb 0 p m sz),by simp,?_,?_⟩
  ·unfold VEf;rw[hop]
   refine⟨_,_,_,rfl,?_⟩
   refine Cg h1 fun n' m' sz' z' hh=>?_
   obtain⟨rfl,rfl,rfl,rfl⟩:=hh
   exact⟨⟨rfl,rfl⟩,rfl⟩
  ·rw[iw]
   have:bN tr o=none:=by simp[bN,hop]
   rw[this];exact h2
 ·rename_i f args ts hop
  have hye:zr tr o.dst=false∧Eo tr o.dst=false:=by simpa[j6,hop] using hAN
  have hy:=hye.1
  have hef:=hye.2
  simp only[hy,hef,aS,cX] at h
  split at h
  ·rename_i hn
   obtain⟨bx,nb,x,h3,h4⟩:=B5 h
   have h5:(xt tr o.dst=true→Vr tr o.dst s ⟨s.fr,bx,nb⟩)∧K ((⟨s.fr,bx,nb⟩:S).put o.dst x):=by
    by_cases hl:xt tr o.dst=true
    ·rw[if_pos hl] at h4;exact⟨fun _=>h4.1,h4.2⟩
    ·rw[if_neg hl] at h4;exact⟨fun h=>absurd h hl,h4⟩
   refine⟨.gn bx nb x,by simp,?_,?_⟩
   ·unfold VEf;rw[hop];simp only[hn,cA]
    exact⟨bx,nb,x,rfl,h3,h5.1⟩
   ·rw[iw]
    have:bN tr o=none:=by simp[bN,hop]
    rw[this];exact h5.2
  ·rename_i hn
   by_cases hro:HY tr o.dst=true
   ·unfold VYQ at h;rw[if_pos hro] at h
    obtain⟨v,h1,h2⟩:=Cf h
    exact⟨.v v,by simp,by unfold VEf;rw[hop];simp only[if_neg hn];exact⟨v,rfl,by unfold VYQ;rw[if_pos hro];exact h1⟩,by rw[sc];exact h2⟩
   ·unfold VYQ at h;rw[if_neg hro] at h
    refine gen h fun e=>?_
    unfold VEf;rw[hop];simp only[if_neg hn,VYQ,if_neg hro]
 ·rename_i args ts hop
  have hn:lV tr o.dst=false:=by simpa[j6,hop] using hAN
  simp only[hn,aS,cX] at h
  split at h
  ·rename_i hr
   have hu:=sb (tr:=tr) hop h
   obtain⟨bx,v,h1,h2⟩:=xH h
   refine⟨.gn bx s.nb v,by simp,by unfold VEf;rw[hop];simp only[hn,hr,aS,cX,cA];exact⟨bx,v,rfl,h1⟩,?_⟩
   rw[iw,hu];exact h2
  ·rename_i hr
   refine gen h fun e=>?_
   unfold VEf;rw[hop];simp only[hn,aS,cX,if_neg hr]
 ·rename_i args ts hop
  obtain⟨bx,v,h1,h2⟩:=EN h
  refine⟨.gn bx s.nb v,by simp,by unfold VEf;rw[hop];exact⟨bx,v,rfl,h1⟩,?_⟩
  have:bN tr o=none:=by simp[bN,hop]
  rw[iw,this];exact h2
 ·rename_i args ts hop
  obtain⟨bx,h1,h2⟩:=B7 h
  refine⟨.gn bx s.nb .un,by simp,by unfold VEf;rw[hop];exact⟨bx,rfl,h1⟩,?_⟩
  have:bN tr o=none:=by simp[bN,hop]
  rw[iw,this];exact h2
 ·rename_i args ts hop
  have hn:Er tr o.dst=false:=by simpa[j6,hop] using hAN
  simp only[hn,aS,cX] at h
  refine gen h fun e=>?_
  unfold VEf;rw[hop]
 ·rename_i src dst X hop
  have hn:lV tr o.dst=false:=by simpa[j6,hop] using hAN
  simp only[hn,aS,cX] at h
  refine gen h fun e=>?_
  unfold VEf;rw[hop]
 ·rename_i op T X Y yT hop
  have hn:vl Y=false:=by simpa[j6,hop] using hAN
  simp only[hn,aS,cX] at h
  refine gen h fun e=>?_
  unfold VEf;rw[hop]
 ·rename_i T X hop
  have hn:isZ tr o.dst=false:=by simpa[j6,hop] using hAN
  simp only[hn,aS,cX] at h
  obtain⟨hdec,h⟩:=h
  obtain⟨v,h1,h2⟩:=Cd h
  exact⟨.v v,by simp,by unfold VEf;rw[hop];exact⟨v,rfl,hdec,h1⟩,by rw[sc];exact h2⟩
 ·rename_i T parts hop
  have hn:isZ tr o.dst=false:=by simpa[j6,hop] using hAN
  simp only[hn,aS,cX] at h
  refine gen h fun e=>?_
  unfold VEf;rw[hop]
 ·rename_i hop;simp[j6,hop] at hAN
 ·rename_i T m k X hop
  obtain⟨bx,h1,h2⟩:=Ab h
  refine⟨.gn bx s.nb .sk,by simp,by unfold VEf;rw[hop];exact⟨bx,rfl,h1⟩,?_⟩
  have:bN tr o=none:=by simp[bN,hop]
  rw[iw,this];exact h2
 ·rename_i T m k hop
  obtain⟨bx,v,h1,h2⟩:=vU h
  refine⟨.gn bx s.nb v,by simp,by unfold VEf;rw[hop];exact⟨bx,v,rfl,h1⟩,?_⟩
  have:bN tr o=none:=by simp[bN,hop]
  rw[iw,this];exact h2
 ·rename_i T m k X hop
  obtain⟨bx,h1,h2⟩:=vV h
  refine⟨.gn bx s.nb .sk,by simp,by unfold VEf;rw[hop];exact⟨bx,rfl,h1⟩,?_⟩
  have:bN tr o=none:=by simp[bN,hop]
  rw[iw,this];exact h2
 ·rename_i hop;simp[j6,hop] at hAN
 ·rename_i hop;simp[j6,hop] at hAN
 ·rename_i n1 n2 n3 n4 n5 n6 n7 n8 n9 n10 n11 n12 n13 n14 n15 n16 n17 n18 n19 n20
  refine gen h fun e=>?_
  unfold VEf
  split
  ·rename_i hop;exact absurd hop (n1 _)
  ·rename_i hop;exact absurd hop (n2 _ _)
  ·rename_i hop;exact absurd hop (n3 _ _ _)
  ·rename_i hop;exact absurd hop (n4 _ _ _)
  ·rename_i hop;exact absurd hop (n5 _ _ _)
  ·rename_i hop;exact absurd hop (n6 _ _ _)
  ·rename_i hop;exact absurd hop (n13 _ _)
  ·rename_i hop;exact absurd hop (n16 _ _ _ _)
  ·rename_i hop;exact absurd hop (n17 _ _ _)
  ·rename_i hop;exact absurd hop (n18 _ _ _ _)
  ·rename_i hop;exact absurd hop (n8 _ _)
  ·rename_i hop;exact absurd hop (n7 _ _)
  ·rename_i hop;exact absurd hop (n9 _ _)
  ·exact Iff.rfl
variable {n:Nat} {I0:Ft} {M:Mx} {w0:World} {I:Ft} {β:Nat→Option Nat} {ob:Loc→Option Nat} {a:Act} {w:World} {next:Act→World→Prop} {Q:Exit→Act→World→Prop}
theorem qo {e:Ef} (hst:St G n I0 M w0 I β ob s a w) (hd:∀ d,o.dst=some d→d<n) (h:VEf P G tr o s e)
 (hk:∀ a' w',SE G n I0 M w0 (e.run tr o s) a' w'→next a' w'):o.wp P a w next Q:=by
 have viaStep:ny tr o=false→VStep P G tr o s (fun s'=>e.run tr o s=s')→o.wp P a w next Q:=fun hy h=>
  l7 (tr:=tr) hst hd hy h (fun a' w' s' hs hse=>hk a' w' (by rw[hs];exact hse))
 unfold VEf at h
 split at h
 ·rename_i T hop
  split at h
  ·rename_i z _ _ hi
   subst h
   refine viaStep (by simp[ny,hop]) ?_
   unfold VStep
   rw[hop]
   simp only[hi]
   rw[Ag]
   have:bN tr o=none:=by simp[bN,hop]
   rw[this];rfl
  ·exact h.elim
 ·rename_i T X hop
  split at h
  ·rename_i cs hi
   subst h
   refine viaStep (by simp[ny,hop]) ?_
   unfold VStep
   rw[hop]
   simp only[hi]
   rw[Ag]
  ·exact h.elim
 ·rename_i T p X hop
  obtain⟨hdec,h⟩:=h
  split at h
  ·rename_i i b k cs h1 h2 h3
   obtain⟨h4,rfl⟩:=h
   refine viaStep (by simp[ny,hop]) ?_
   unfold VStep
   rw[hop]
   simp only[h1,h2,h3]
   rw[Ll]
   rw[h2] at hdec
   exact⟨hdec,h4,rfl⟩
  ·rename_i i blk j h1 h2
   rcases h with h | ⟨b,k,len,cap,q,E,es,cs,h4,rfl⟩
   rotate_left
   ·refine viaStep (by simp[ny,hop]) ?_
    unfold VStep
    rw[hop]
    simp only[h1,h2]
    rw[iw]
    rw[h2] at hdec
    refine⟨hdec,.inr ⟨b,k,len,cap,q,E,es,cs,h4,?_⟩⟩
    have e:∀ bx,({ s.use (bN tr o) with bx:=bx,nb:=s.nb }:S)={ s.use (bN tr o) with bx:=bx }:=fun bx=>by rw[← Af (s:=s) (t:=bN tr o)]
    show({ s.use (bN tr o) with bx:=_,nb:=s.nb }:S).put o.dst .sk=_
    rw[e]
   obtain⟨b,k,len,cap,E,es,r,e',c,h4,rfl⟩:=h
   refine viaStep (by simp[ny,hop]) ?_
   unfold VStep
   rw[hop]
   simp only[h1,h2]
   rw[iw]
   rw[h2] at hdec
   refine⟨hdec,.inl ⟨b,k,len,cap,E,es,r,e',c,h4,?_⟩⟩
   have e:({ s.use (bN tr o) with bx:=up s.bx b ((s.bx b).set k (.hh (some (.slice (some ⟨blk,0,none⟩) len cap)) E (es++[e'.set r c]))),nb:=s.nb }:S)={ s.use (bN tr o) with bx:=up s.bx b ((s.bx b).set k (.hh (some (.slice (some ⟨blk,0,none⟩) len cap)) E (es++[e'.set r c]))) }:=by rw[← Af (s:=s) (t:=bN tr o)]
   show({ s.use (bN tr o) with bx:=up s.bx b ((s.bx b).set k (.hh (some (.slice (some ⟨blk,0,none⟩) len cap)) E (es++[e'.set r c]))),nb:=s.nb }:S).put o.dst .sk=({ s.use (bN tr o) with bx:=up (s.use (bN tr o)).bx b (((s.use (bN tr o)).bx b).set k (.hh (some (.slice (some ⟨blk,0,none⟩) len cap)) E (es++[e'.set r c]))) }:S).put o.dst .sk
   rw[e,Lk]
  ·exact h.elim
 ·rename_i T len parts hop
  split at h
  ·rename_i hn
   obtain⟨bx,nb,x,rfl,h⟩:=h
   refine viaStep (by simp[ny,hop]) ?_
   unfold VStep
   rw[hop]
   simp only[hn,cA]
   have:bN tr o=none:=by simp[bN,hop]
   rw[iw,this]
   obtain⟨v,h1,h2⟩:=lG h
   refine pI h1 fun u hu=>?_
   subst hu
   obtain⟨b,n,y,h3,⟨rfl,rfl⟩,rfl⟩:=vT h2
   unfold KO
   unfold vC at h3 ⊢
   split at h3
   ·obtain⟨⟨rfl,rfl⟩,rfl⟩:=h3;rfl
   ·exact h3.elim
  ·rename_i hn
   obtain⟨v,rfl,h⟩:=h
   exact mQ (tr:=tr) hst hd h (fun a' w' x hx hse=>hk a' w' (by rw[sc];subst hx;exact hse))
 ·rename_i T l c hop
  obtain⟨bx,nb,x,rfl,h⟩:=h
  refine viaStep (by simp[ny,hop]) ?_
  unfold VStep
  rw[hop]
  have:bN tr o=none:=by simp[bN,hop]
  rw[iw,this]
  refine Cg h fun n m sz z hh=>?_
  obtain⟨⟨rfl,rfl⟩,rfl⟩:=hh
  rfl
 ·rename_i f args ts hop
  split at h
  ·rename_i hn
   obtain⟨bx,nb,x,rfl,h,hlc⟩:=h
   have hc:bN tr o=none:=by simp[bN,hop]
   refine oW (K:=fun s' u=>s'.put o.dst u=(Ef.gn bx nb x).run tr o s) hop hst hd ?_ (fun a' w' s' u hK hse=>hk a' w' (by rw[← hK];exact hse))
   unfold vcallB
   refine Ir h fun b n u hh=>?_
   obtain⟨⟨rfl,rfl⟩,rfl⟩:=hh
   rw[iw,hc];rfl
  ·rename_i hn
   obtain⟨v,rfl,h⟩:=h
   exact yn (tr:=tr) hop hst hd h (fun a' w' x hx hse=>hk a' w' (by rw[sc];subst hx;exact hse))
 ·obtain⟨v,rfl,_,h⟩:=h
  exact mQ (tr:=tr) hst hd h (fun a' w' x hx hse=>hk a' w' (by rw[sc];subst hx;exact hse))
 ·rename_i T m k X hop
  obtain⟨bx,rfl,h⟩:=h
  refine viaStep (by simp[ny,hop]) ?_
  have:bN tr o=none:=by simp[bN,hop]
  rw[iw,this]
  unfold VStep
  rw[hop]
  exact Ip (Ac h) fun s' e=>by rw[← e];rfl
 ·rename_i T m k hop
  obtain⟨bx,v,rfl,h⟩:=h
  refine viaStep (by simp[ny,hop]) ?_
  have:bN tr o=none:=by simp[bN,hop]
  rw[iw,this]
  unfold VStep
  rw[hop]
  exact pH (m3 h) fun s' u e=>by rw[← e.1,← e.2];rfl
 ·rename_i T m k X hop
  obtain⟨bx,rfl,h⟩:=h
  refine viaStep (by simp[ny,hop]) ?_
  have:bN tr o=none:=by simp[bN,hop]
  rw[iw,this]
  unfold VStep
  rw[hop]
  exact B9 (vW h) fun s' e=>by rw[← e];rfl
 ·rename_i args ts hop
  obtain⟨bx,v,rfl,h⟩:=h
  refine viaStep (by simp[ny,hop]) ?_
  have:bN tr o=none:=by simp[bN,hop]
  rw[iw,this]
  unfold VStep
  rw[hop]
  exact Qh (EO h) fun s' u e=>by rw[← e.1,← e.2];rfl
 ·rename_i args ts hop
  split at h
  ·exact h.elim
  rename_i hn
  split at h
  ·rename_i hr
   obtain⟨bx,v,rfl,h⟩:=h
   refine viaStep (by simp[ny,hop]) ?_
   rw[iw,sb (tr:=tr) hop h]
   unfold VStep
   rw[hop]
   simp only[hn,hr,cA,cX,aS]
   refine EP (xI h) (fun s' u e=>?_)
   rw[← e.1,← e.2]
  ·obtain⟨v,rfl,h⟩:=h
   exact mQ (tr:=tr) hst hd h (fun a' w' x hx hse=>hk a' w' (by rw[sc];subst hx;exact hse))
 ·rename_i args ts hop
  obtain⟨bx,rfl,h⟩:=h
  refine viaStep (by simp[ny,hop]) ?_
  have:bN tr o=none:=by simp[bN,hop]
  rw[iw,this]
  unfold VStep
  rw[hop]
  exact Lj (B8 h) fun s' e=>by rw[← e];rfl
 ·obtain⟨v,rfl,h⟩:=h
  exact mQ (tr:=tr) hst hd h (fun a' w' x hx hse=>hk a' w' (by rw[sc];subst hx;exact hse))
def da (tr:List Nat) (o:Oper):Nat:=
 match o.op with
 | .call { callee:=.builtin .copy,.. }=>2
 | .call { callee:=.builtin .clear,.. }=>2
 | .load _ _ | .convert _ _ _ | .lookup _ _ _ _ | .range _ _ | .entry _=>1
 | .call { callee:=.builtin .append,.. }=>if re tr o.dst then 2 else 1
 | .call { callee:=.value _,.. }=>if rM tr o.dst then 2 else 1
 | .buildSlice _ _ _=>if lV tr o.dst then 2 else 0
 | .alloc _ | .box _ _ | .store _ _ _ | .makeSlice _ _ _ | .mapUpdate _ _ _ _ | .mapEntry _ _ _ | .entryStore _ _ _ _=>2
 |_=>0
theorem vY {s':S} {x:Operand} (h:∀ t,x=.tmp t→s.fr t=s'.fr t):ev G s x=ev G s' x:=by
 cases x<;>simp only[ev]
 exact h _ rfl
theorem Qi {s':S} (hb:s.bx=s'.bx) (hn:s.nb=s'.nb):imm s=imm s':=by
 obtain⟨fr,bx,nb⟩:=s
 obtain⟨fr',bx',nb'⟩:=s'
 simp only at hb hn
 subst hb;subst hn
 funext x
 cases x<;>rfl
theorem Ah {s':S} (hb:s.bx=s'.bx) (hn:s.nb=s'.nb):vw s=vw s':=by
 obtain⟨fr,bx,nb⟩:=s
 obtain⟨fr',bx',nb'⟩:=s'
 simp only at hb hn
 subst hb;subst hn
 funext x
 cases x<;>rfl
theorem om {s':S} {K:V→Prop} (hdq:∀ d,o.dst=some d→s.fr d=s'.fr d) (he:∀ x∈o.op.operands,ev G s x=ev G s' x) (hm:da tr o≠0→s.bx=s'.bx∧s.nb=s'.nb) (h:VYK P G tr o s K):VYK P G tr o s' K:=by
 have marr:∀ l:Array Operand,(∀ x∈l,ev G s x=ev G s' x)→l.toList.map (ev G s)=l.toList.map (ev G s'):=fun l hl=>cd fun x hx=>hl x (by simpa using hx)
 have mopt:∀ l:Option Operand,(∀ x,l=some x→ev G s x=ev G s' x)→l.map (ev G s)=l.map (ev G s'):=fun l hl=>by cases l with
  |none=>rfl
  |some x=>simp only[bI,hl x rfl]
 obtain⟨dst,op,type,pos,after,guard⟩:=o
 cases op<;>simp only[VYK] at h ⊢<;>try exact h
 case move x=>rw[← he x (by simp[Op.operands])];exact h
 case assign x=>rw[← he x (by simp[Op.operands])];exact h
 case pick c a b=>rw[← he c (by simp[Op.operands]),← he a (by simp[Op.operands]),← he b (by simp[Op.operands])];exact h
 case build T parts=>
  have:(parts.toList.map fun(i,x)=>(i,ev G s' x))=parts.toList.map fun(i,x)=>(i,ev G s x):=cd fun p hp=>by
   obtain⟨i,x⟩:=p
   simp only[he x (by simp only[Op.operands,fc,bF];exact⟨(i,x),hp,rfl⟩)]
  rw[this];exact h
 case buildSlice T len parts=>
  have:(parts.toList.map fun(i,x)=>(i,ev G s' x))=parts.toList.map fun(i,x)=>(i,ev G s x):=cd fun p hp=>by
   obtain⟨i,x⟩:=p
   simp only[he x (by simp only[Op.operands,fc,bF];exact⟨(i,x),hp,rfl⟩)]
  rw[this];exact h
 case load T x=>
  obtain⟨h1,h2⟩:=hm (by simp[da])
  rw[← he x (by simp[Op.operands])]
  unfold cy at h ⊢
  rw[← h1,← h2];exact h
 case lookup T x k ok=>
  obtain⟨h1,h2⟩:=hm (by simp[da])
  rw[← he x (by simp[Op.operands]),← he k (by simp[Op.operands])]
  unfold eW gy at h ⊢
  rw[← h1,← h2];exact h
 case range T x=>
  obtain⟨h1,h2⟩:=hm (by simp[da])
  rw[← he x (by simp[Op.operands])]
  unfold ml at h ⊢
  rw[← h1,← h2];exact h
 case entry x=>
  obtain⟨h1,h2⟩:=hm (by simp[da])
  rw[← he x (by simp[Op.operands])]
  unfold lD at h ⊢
  rw[← h1,← h2];exact h
 case binOp op T x y yT=>rw[← he x (by simp[Op.operands]),← he y (by simp[Op.operands])];exact h
 case unOp op T x=>rw[← he x (by simp[Op.operands])];exact h
 case convert src dst x=>
  obtain⟨h1,h2⟩:=hm (by simp[da])
  rw[← he x (by simp[Op.operands]),← Ah h1 h2];exact h
 case makeFunc f a b=>rw[← marr a fun x hx=>he x (by simp[Op.operands,hx]),← marr b fun x hx=>he x (by simp[Op.operands,hx])];exact h
 case sliceToArrayPointer T x=>rw[← he x (by simp[Op.operands])];exact h
 case nilCheck x=>rw[← he x (by simp[Op.operands])];exact h
 case slice T x lo hi mx=>
  rw[← he x (by simp[Op.operands]),← mopt lo fun x hx=>he x (by simp[Op.operands,hx]),← mopt hi fun x hx=>he x (by simp[Op.operands,hx]),← mopt mx fun x hx=>he x (by simp[Op.operands,hx])];exact h
 case fieldAddr T x f=>rw[← he x (by simp[Op.operands])];exact h
 case field T x f=>rw[← he x (by simp[Op.operands])];exact h
 case indexAddr T x i=>rw[← he x (by simp[Op.operands]),← he i (by simp[Op.operands])];exact h
 case index T x i=>rw[← he x (by simp[Op.operands]),← he i (by simp[Op.operands])];exact h
 case extract x i=>rw[← he x (by simp[Op.operands])];exact h
 case call c=>
  obtain⟨callee,args,ts⟩:=c
  cases callee with
  |value f=>
   simp only at h ⊢
   obtain⟨h1,h2⟩:=hm (by simp only[da];split<;>simp)
   rw[← he f (by simp[Op.operands,Call.operands]),← marr args fun x hx=>he x (by simp[Op.operands,Call.operands,hx])]
   unfold oc at h ⊢
   rw[← Qi h1 h2];exact h
  |invoke r m=>exact h
  |builtin b=>
   cases b
   case append=>
    simp only at h ⊢
    obtain⟨h1,h2⟩:=hm (by simp only[da];split<;>simp)
    have:(args.toList.map fun x=>vw s' (ev G s' x))=args.toList.map fun x=>vw s (ev G s x):=cd fun x hx=>by
     rw[Ah h1 h2,he x (by simp only[Op.operands,Call.operands];simpa using hx)]
    rw[this]
    split at h
    ·rename_i hg
     rw[if_pos hg]
     split at h
     ·rename_i hg2
      rw[if_pos hg2]
      unfold rL at h ⊢
      split at h
      ·rename_i t y d ha
       have ht:s.fr t=s'.fr t:=by
        have:=he (.tmp t) (by simp only[Op.operands,Call.operands];rw[dN];exact cj.1 (by rw[ha];simp))
        simpa[ev] using this
       have hy:ev G s y=ev G s' y:=he y (by simp only[Op.operands,Call.operands];rw[dN];exact cj.1 (by rw[ha];simp))
       rw[← ht,← hdq d rfl,← hy,← Ah h1 h2]
       exact h
      ·exact h.elim
     ·rename_i hg2
      rw[if_neg hg2]
      unfold iQ at h ⊢
      split at h
      ·rename_i t y d ha
       have ht:s.fr t=s'.fr t:=by
        have:=he (.tmp t) (by simp only[Op.operands,Call.operands];rw[dN];exact cj.1 (by rw[ha];simp))
        simpa[ev] using this
       have hy:ev G s y=ev G s' y:=he y (by simp only[Op.operands,Call.operands];rw[dN];exact cj.1 (by rw[ha];simp))
       rw[← ht,← hdq d rfl,← hy,← Ah h1 h2]
       exact h
      ·exact h.elim
    ·rename_i hg
     rw[if_neg hg];exact h
   all_goals
    simp only at h ⊢
    rw[← marr args fun x hx=>he x (by simp[Op.operands,Call.operands,hx])];exact h
theorem Is {s':S} {e:Ef} (hdq:∀ d,o.dst=some d→s.fr d=s'.fr d) (he:∀ x∈o.op.operands,ev G s x=ev G s' x) (hm:da tr o≠0→s.bx=s'.bx∧s.nb=s'.nb) (h:VEf P G tr o s e):VEf P G tr o s' e:=by
 unfold VEf at h ⊢
 split at h
 ·exact h
 ·rename_i T X hop
  rw[← he X (by rw[hop];simp[Op.operands])];exact h
 ·rename_i T p X hop
  obtain⟨h1,h2⟩:=hm (by simp[da,hop])
  rw[← he p (by rw[hop];simp[Op.operands]),← he X (by rw[hop];simp[Op.operands]),← h1,← h2];exact h
 ·rename_i T len parts hop
  have:(parts.toList.map fun(i,x)=>(i,ev G s' x))=parts.toList.map fun(i,x)=>(i,ev G s x):=cd fun p hp=>by
   obtain⟨i,x⟩:=p
   simp only[he x (by rw[hop];simp only[Op.operands,fc,bF];exact⟨(i,x),hp,rfl⟩)]
  split at h
  ·rename_i hn
   rw[if_pos hn]
   obtain⟨h1,h2⟩:=hm (by simp[da,hop,hn])
   rw[this,← h1,← h2];exact h
  ·rename_i hn
   rw[if_neg hn]
   obtain⟨v,h1,h2⟩:=h
   exact⟨v,h1,om hdq he hm h2⟩
 ·rename_i T l c hop
  obtain⟨h1,h2⟩:=hm (by simp[da,hop])
  rw[← he l (by rw[hop];simp[Op.operands]),← he c (by rw[hop];simp[Op.operands]),← h1,← h2];exact h
 ·rename_i f args ts hop
  split at h
  ·rename_i hn
   rw[if_pos hn]
   obtain⟨h1,h2⟩:=hm (by simp[da,hop,hn])
   have:args.toList.map (ev G s)=args.toList.map (ev G s'):=cd fun x hx=>he x (by rw[hop];simp only[Op.operands,Call.operands];simp at hx;simp[hx])
   rw[← he f (by rw[hop];simp[Op.operands,Call.operands]),← this,← h1,← h2];exact h
  ·rename_i hn
   rw[if_neg hn]
   obtain⟨v,h1,h2⟩:=h
   refine⟨v,h1,?_⟩
   unfold VYQ at h2 ⊢
   split
   ·rename_i hro
    rw[if_pos hro] at h2
    obtain⟨q1,q2⟩:=hm (by simp[da,hop,hn])
    have:args.toList.map (ev G s)=args.toList.map (ev G s'):=cd fun x hx=>he x (by rw[hop];simp only[Op.operands,Call.operands];simp at hx;simp[hx])
    rw[← he f (by rw[hop];simp[Op.operands,Call.operands]),← this]
    exact uw (c9 q2) (fun i _=>by rw[q1]) h2
   ·rename_i hro
    rw[if_neg hro] at h2
    exact om hdq he hm h2
 ·rename_i T X hop
  obtain⟨v,h1,hdec,h2⟩:=h
  exact⟨v,h1,by rw[← he X (by rw[hop];simp[Op.operands])];exact hdec,om hdq he hm h2⟩
 ·rename_i T m k X hop
  obtain⟨h1,h2⟩:=hm (by simp[da,hop])
  rw[← he m (by rw[hop];simp[Op.operands]),← he k (by rw[hop];simp[Op.operands]),← he X (by rw[hop];simp[Op.operands]),← h1,← h2];exact h
 ·rename_i T m k hop
  obtain⟨h1,h2⟩:=hm (by simp[da,hop])
  rw[← he m (by rw[hop];simp[Op.operands]),← he k (by rw[hop];simp[Op.operands]),← h1,← h2];exact h
 ·rename_i T m k X hop
  obtain⟨h1,h2⟩:=hm (by simp[da,hop])
  rw[← he m (by rw[hop];simp[Op.operands]),← he k (by rw[hop];simp[Op.operands]),← he X (by rw[hop];simp[Op.operands]),← h1,← h2];exact h
 ·rename_i args ts hop
  obtain⟨h1,h2⟩:=hm (by simp[da,hop])
  have:args.toList.map (ev G s)=args.toList.map (ev G s'):=cd fun x hx=>he x (by rw[hop];simp only[Op.operands,Call.operands];simpa using hx)
  rw[← this,← h1,← h2];exact h
 ·rename_i args ts hop
  split at h
  ·exact h.elim
  rename_i hn
  rw[if_neg hn]
  split at h
  ·rename_i hr
   rw[if_pos hr]
   obtain⟨h1,h2⟩:=hm (by simp[da,hop,hr])
   have:args.toList.map (ev G s)=args.toList.map (ev G s'):=cd fun x hx=>he x (by rw[hop];simp only[Op.operands,Call.operands];simpa using hx)
   rw[← this,← h1,← h2];exact h
  ·rename_i hr
   rw[if_neg hr]
   obtain⟨v,h1,h2⟩:=h
   exact⟨v,h1,om hdq he hm h2⟩
 ·rename_i args ts hop
  obtain⟨h1,h2⟩:=hm (by simp[da,hop])
  have:args.toList.map (ev G s)=args.toList.map (ev G s'):=cd fun x hx=>he x (by rw[hop];simp only[Op.operands,Call.operands];simpa using hx)
  rw[← this,← h1,← h2];exact h
 ·obtain⟨v,h1,h2⟩:=h
  exact⟨v,h1,om hdq he hm h2⟩
def qM (ops:Array Oper) (o:Oper) (s:S):Option Bool:=
 match o.guard with
 |none=>some true
 |some (j,want)=>match(ops[j]?).bind (·.dst) with
  |some d=>match s.fr d with
   | .c (.lit (.bool p))=>some (p==want)
   | .sk=>some false
   |_=>none
  |none=>none
def TEf (P:Program) (G:Gl) (tr:List Nat) (ops:Array Oper) (o:Oper) (s:S) (e:Ef):Prop:=
 (qM ops o s=some true∧VEf P G tr o s e∧e≠.skip)∨(qM ops o s=some false∧e=.skip)
theorem fi {K:S→Prop} (hAN:j6 tr o=false) (h:lE ops o s (fun s=>VStep P G tr o s K) (fun s=>K (s.put o.dst .sk))):∃ e,TEf P G tr ops o s e∧K (e.run tr o s):=by
 unfold lE at h
 have yes:qM ops o s=some true→VStep P G tr o s K→∃ e,TEf P G tr ops o s e∧K (e.run tr o s):=fun hg hv=>by
  obtain⟨e,h1,h2,h3⟩:=hv.ef hAN
  exact⟨e,.inl ⟨hg,h2,h1⟩,h3⟩
 have no:qM ops o s=some false→K (s.put o.dst .sk)→∃ e,TEf P G tr ops o s e∧K (e.run tr o s):=fun hg hv=>⟨.skip,.inr ⟨hg,rfl⟩,by rw[pJ];exact hv⟩
 split at h
 ·rename_i hg
  exact yes (by unfold qM;rw[hg]) h
 ·rename_i j want hg
  split at h
  ·rename_i d hd
   split at h
   ·rename_i p hp
    by_cases hpw:p=want
    ·subst hpw
     have:=h.1 rfl
     rw[S.up_id hp] at this
     exact yes (by unfold qM;simp only[hg,hd,hp,beq_self_eq_true]) this
    ·have hpn:p=!want:=by cases p<;>cases want<;>simp_all
     have:=h.2 hpn
     rw[← hpn,S.up_id hp] at this
     exact no (by unfold qM;simp only[hg,hd,hp];simpa using hpw) this
   ·rename_i hp
    exact no (by unfold qM;simp only[hg,hd,hp]) h
   ·exact h.elim
  ·exact h.elim
theorem jk (hst:St G n I0 M w0 I β ob s a w) {p:Bool} (h:qM ops o s=some p):Region.wanted o (yielded ops a.tmps)=p:=by
 unfold qM at h
 unfold Region.wanted
 split at h
 ·rename_i hg;rw[hg];simpa using h
 ·rename_i j want hg
  rw[hg]
  split at h
  ·rename_i d hd
   split at h
   ·rename_i q hq
    simp only[rZ hst hd hq]
    simp only[am] at h
    rw[← h];cases q<;>cases want<;>rfl
   ·rename_i hq
    simp only[vS hst hd hq]
    simp only[am] at h
    rw[← h];rfl
   ·cases h
  ·cases h
def m4 (P:Program) (G:Gl) (tr:List Nat) (ops:Array Oper) (i:Nat) (K:S→Prop) (s:S):Prop:=
 match ops[i]? with
 |none=>K s
 |some o=>∃ e,TEf P G tr ops o s e∧K (e.run tr o s)
def Ai (P:Program) (G:Gl) (tr:List Nat) (md:Region.Mode) (ops:Array Oper) (K:S→Prop):Nat→Array Bool→S→Prop
 |0,listed,s=>Region.ready md ops listed=[]∧K s
 |fuel+1,listed,s=>
  (Region.ready md ops listed=[]→K s)∧
  ∀ i∈Region.ready md ops listed,m4 P G tr ops i (Ai P G tr md ops K fuel (listed.setIfInBounds i true)) s
theorem m5 (hok:iW n ops=true) {K:S→Prop} (hK:∀ a w s,K s→SE G n I0 M w0 s a w→Q .normal a w):∀ (fuel:Nat) (listed:Array Bool) (s:S) (a:Act) (w:World),
 Ai P G tr md ops K fuel listed s→SE G n I0 M w0 s a w→wpAny P md ops Q fuel listed a w
 |0,_,_,_,_,h,hse=>⟨h.1,hK _ _ _ h.2 hse⟩
 |fuel+1,_,s,a,w,h,hse=>by
  refine⟨fun h0=>hK _ _ _ (h.1 h0) hse,fun i hi=>?_⟩
  have hh:=h.2 i hi
  unfold m4 at hh
  unfold wpOp
  split
  ·rename_i ho;simp only[ho] at hh;exact m5 hok hK fuel _ s a w hh hse
  ·rename_i o ho
   simp only[ho] at hh
   obtain⟨e,he,hh⟩:=hh
   have hmem:o∈ops.toList:=by
    have:=eA ho
    simpa using this
   obtain⟨I,β,ob,hst⟩:=hse
   rcases he with⟨hg,hv,_⟩ | ⟨hg,rfl⟩
   ·rw[if_pos (jk hst hg)]
    exact .inl (qo hst (ew hok hmem) hv fun a' w' hse'=>m5 hok hK fuel _ _ a' w' hh hse')
   ·rw[jk hst hg]
    simp only[aS,cX]
    rw[pJ] at hh
    exact m5 hok hK fuel _ _ _ w hh (SE.put hst (ew hok hmem) (by simp only[LR];exact .sk))
def wr (tr:List Nat) (o:Oper):List Tmp:=o.dst.toList++(bN tr o).toList
def kX (tr:List Nat) (x y:Oper):Bool:=match x.op,x.dst,y.op with
 | .load _ _,some d,.store _ (.tmp t) _=>tr.contains (200000+d)&&tr.contains (200000+t)&&(List.range 100).all fun b=>!(tr.contains (300000+d*100+b)&&tr.contains (300000+t*100+b))
 | .load _ _,some d,.call { callee:=.value _,.. }=>tr.contains (200000+d)&&(rM tr y.dst&&xt tr y.dst)&&(List.range 100).all fun b=>!(tr.contains (300000+d*100+b)&&tr.contains (500000+y.dst.getD 0*100+b))
 |_,_,_=>false
def mL (x y:Oper):Bool:=match x.op,y.op with
 | .lookup T (.tmp m) (.tmp k) false,.mapEntry U (.tmp m') (.tmp k')=>T==U&&m==m'&&k==k'
 |_,_=>false
def sd (tr:List Nat) (x y:Oper):Bool:=da tr x==1&&match y.op with
 | .alloc _=>true
 | .box _ _=>true
 | .buildSlice _ _ _=>lV tr y.dst
 |_=>false
def Aj (tr:List Nat) (ops:Array Oper) (x y:Oper):Bool:=
 ((wr tr x).all fun d=>!(y.looksAt ops).contains d&&!(wr tr y).contains d)&&((wr tr y).all fun d=>!(x.looksAt ops).contains d)&&
 ((da tr x !=2||da tr y==0||(kX tr y x||mL y x))&&(da tr y !=2||da tr x==0||(kX tr x y||(mL x y||sd tr x y))))
structure Ch (tr:List Nat) (ops:Array Oper) (x y:Oper):Prop where
 xy:∀ d∈wr tr x,d∉y.looksAt ops
 ww:∀ d∈wr tr x,d∉wr tr y
 yx:∀ d∈wr tr y,d∉x.looksAt ops
 mx:da tr x=2→da tr y=0∨kX tr y x=true∨mL y x=true
 my:da tr y=2→da tr x=0∨kX tr x y=true∨mL x y=true∨sd tr x y=true
theorem Ci {x y:Oper} (h:Aj tr ops x y=true):Ch tr ops x y:=by
 simp only[Aj,aF,aU,dI,fZ,co,dx,bne_iff_ne,js] at h
 obtain⟨⟨h1,h2⟩,h3,h4⟩:=h
 exact⟨fun d hd=>(h1 d hd).1,fun d hd=>(h1 d hd).2,h2,fun h=>by rcases h3 with(h3 | h3) | h3;exact absurd h h3;exact .inl h3;exact .inr h3,
  fun h=>by rcases h4 with(h4 | h4) | h4;exact absurd h h4;exact .inl h4;exact .inr h4⟩
def pt (tr:List Nat) (o:Oper) (u:Bool) (x:V) (fr:Nat→V):Nat→V:=Ce o.dst x (Ae u (bN tr o) fr)
theorem vZ (u:Bool) (c:Option Tmp) (fr:Nat→V) (t:Nat):Ae u c fr t=if c=some t∧u=true∧(fr t).isOw=true then .un else fr t:=by
 unfold Ae
 cases c with
 |none=>simp
 |some q=>
  simp only
  by_cases hq:q=t
  ·subst hq
   by_cases h:u=true∧(fr q).isOw=true
   ·rw[if_pos (by simp[h.1,h.2]),bZ,if_pos ⟨rfl,h⟩]
   ·rw[if_neg (by simpa using h),if_neg (fun e=>h e.2)]
  ·have:¬ (some q=some t∧u=true∧(fr t).isOw=true):=fun e=>hq (by simpa using e.1)
   rw[if_neg this]
   split
   ·rw[cM _ _ (fp hq)]
   ·rfl
theorem l8 (u:Bool) (x:V) (fr:Nat→V) (t:Nat):pt tr o u x fr t=if o.dst=some t then x else if bN tr o=some t∧u=true∧(fr t).isOw=true then .un else fr t:=by
 unfold pt Ce
 cases o.dst with
 |none=>simpa using vZ u (bN tr o) fr t
 |some d=>
  simp only
  by_cases hd:d=t
  ·subst hd;simp
  ·rw[cM _ _ (fp hd),if_neg (by simpa using hd)]
   exact vZ u (bN tr o) fr t
theorem eZ {u:Bool} {x:V} {fr:Nat→V} {t:Nat} (h:t∉wr tr o):pt tr o u x fr t=fr t:=by
 simp only[wr,bf,Option.mem_toList,not_or] at h
 rw[l8,if_neg h.1,if_neg (fun e=>h.2 e.1)]
theorem v6 {x y:Oper} (h:∀ d∈wr tr x,d∉wr tr y) (u u':Bool) (vx vy:V) (fr:Nat→V) :
 pt tr y u' vy (pt tr x u vx fr)=pt tr x u vx (pt tr y u' vy fr):=by
 funext t
 by_cases hx:t∈wr tr x
 ·rw[eZ (h t hx),l8,l8,eZ (h t hx)]
 ·have e1:pt tr x u vx fr t=fr t:=eZ hx
  have e2:pt tr x u vx (pt tr y u' vy fr) t=pt tr y u' vy fr t:=eZ hx
  rw[e2,l8 (o:=y),e1,l8 (o:=y)]
theorem pK (e:Ef):e.run tr o s=⟨pt tr o e.uses (e.val s.nb) s.fr,e.bx s.nb s.bx,e.nb s.nb⟩:=rfl
theorem Qj {e:Ef} (h:VEf P G tr o s e) (hm:da tr o≠2):∃ v,e=.v v:=by
 unfold VEf at h
 split at h
 ·rename_i hop;simp[da,hop] at hm
 ·rename_i hop;simp[da,hop] at hm
 ·rename_i hop;simp[da,hop] at hm
 ·rename_i hop
  split at h
  ·rename_i hn;simp[da,hop,hn] at hm
  ·obtain⟨v,rfl,_⟩:=h;exact⟨v,rfl⟩
 ·rename_i hop;simp[da,hop] at hm
 ·rename_i hop
  split at h
  ·rename_i hn;simp[da,hop,hn] at hm
  ·obtain⟨v,rfl,_⟩:=h;exact⟨v,rfl⟩
 ·obtain⟨v,rfl,_⟩:=h;exact⟨v,rfl⟩
 ·rename_i hop;simp[da,hop] at hm
 ·rename_i hop;simp[da,hop] at hm
 ·rename_i hop;simp[da,hop] at hm
 ·rename_i hop;simp[da,hop] at hm
 ·rename_i hop
  split at h
  ·exact h.elim
  split at h
  ·rename_i hr;simp[da,hop,hr] at hm
  ·obtain⟨v,rfl,_⟩:=h;exact⟨v,rfl⟩
 ·rename_i hop;simp[da,hop] at hm
 ·obtain⟨v,rfl,_⟩:=h;exact⟨v,rfl⟩
theorem qp {e:Ef} (h:TEf P G tr ops o s e) (hm:da tr o≠2):(∃ v,e=.v v)∨e=.skip:=by
 rcases h with⟨_,h,_⟩ | ⟨_,h⟩
 ·exact .inl (Qj h hm)
 ·exact .inr h
theorem kM {e:Ef} (h:(∃ v,e=.v v)∨e=.skip) (bx:Nat→List V) (nb nb':Nat):e.bx nb bx=bx∧e.nb nb=nb∧e.val nb=e.val nb':=by
 rcases h with⟨v,rfl⟩ | rfl<;>exact⟨rfl,rfl,rfl⟩
theorem iR {s':S} (h:∀ t∈o.looksAt ops,s.fr t=s'.fr t):qM ops o s=qM ops o s':=by
 unfold qM
 split
 ·rfl
 ·rename_i j want hg
  split
  ·rename_i d hd
   have:d∈o.looksAt ops:=by
    unfold Oper.looksAt
    rw[hg]
    simp only[bf,Option.mem_toList]
    exact .inr hd
   rw[h d this]
  ·rfl
theorem iS {x:Operand} {t:Tmp} (hx:x∈o.op.operands) (ht:x=.tmp t):t∈o.looksAt ops:=by
 unfold Oper.looksAt
 simp only[bf,List.mem_filterMap]
 exact .inl ⟨x,by simpa using hx,by rw[ht]⟩
theorem qq {s':S} {e:Ef} (hdq:∀ d,o.dst=some d→s.fr d=s'.fr d) (hl:∀ t∈o.looksAt ops,s.fr t=s'.fr t) (hm:da tr o≠0→s.bx=s'.bx∧s.nb=s'.nb) (h:TEf P G tr ops o s e):TEf P G tr ops o s' e:=by
 rcases h with⟨h1,h2,h3⟩ | ⟨h1,h2⟩
 ·exact .inl ⟨by rw[← iR hl];exact h1,Is hdq (fun x hx=>vY fun t ht=>hl t (iS hx ht)) hm h2,h3⟩
 ·exact .inr ⟨by rw[← iR hl];exact h1,h2⟩
theorem o0 {x y:Oper} (h:kX tr x y=true):∃ T X d,x.op=.load T X∧x.dst=some d∧tr.contains (200000+d)=true∧
 ((∃ U t Y,y.op=.store U (.tmp t) Y∧tr.contains (200000+t)=true∧∀ b,b<100→tr.contains (300000+d*100+b)=true→tr.contains (300000+t*100+b)=true→False)∨
  (∃ c f,y.op=.call c∧c.callee=.value f∧rM tr y.dst=true∧xt tr y.dst=true∧∀ b,b<100→tr.contains (300000+d*100+b)=true→tr.contains (500000+y.dst.getD 0*100+b)=true→False)):=by
 unfold kX at h
 split at h
 ·rename_i T X d U t Y h1 h2 h3
  simp only[aF,aU] at h
  refine⟨T,X,d,h1,h2,h.1.1,.inl ⟨U,t,Y,h3,h.1.2,fun b hb q1 q2=>?_⟩⟩
  have:=h.2 b (cz.2 hb)
  rw[q1,q2] at this
  cases this
 ·rename_i T X d f args ts h1 h2 h3
  simp only[aF,aU] at h
  refine⟨T,X,d,h1,h2,h.1.1,.inr ⟨_,f,h3,rfl,h.1.2.1,h.1.2.2,fun b hb q1 q2=>?_⟩⟩
  have:=h.2 b (cz.2 hb)
  rw[q1,q2] at this
  cases this
 ·cases h
theorem Cj {x y:Oper} (h:kX tr x y=true):da tr x=1:=by
 obtain⟨T,X,d,h1,_⟩:=o0 h
 simp[da,h1]
theorem Lm {T:TypeId} {s':S} {b k:Nat} {K:V→Prop} (hb:s'.bx b=s.bx b) (hn:s'.nb=s.nb) (h:cy P T s (.bp b k) K):cy P T s' (.bp b k) K:=by
 unfold cy at *
 cases hT:ti P T with
 |none=>rw[hT] at h;exact h.elim
 |some i=>
  rw[hT] at h
  simp only at h ⊢
  rw[hb,hn];exact h
theorem ux {T:TypeId} {s':S} {K:V→Prop} (hx:∀ b k,x≠.bp b k) (hex:∀ v,x≠.c (.ex v)) (h:cy P T s x K):cy P T s' x K:=by
 unfold cy at *
 cases hT:ti P T with
 |none=>rw[hT] at h;exact h.elim
 |some i=>
  rw[hT] at h
  cases x with
  |c c=>
   cases c with
   |ex v=>exact absurd rfl (hex v)
   |_=>exact h
  |bp b k=>exact absurd rfl (hx b k)
  |_=>exact h.elim
theorem Ck {x y:Oper} {f:Ef} (hls:kX tr x y=true) (hy:TEf P G tr ops y s f):f.nb s.nb=s.nb∧∀ d b,x.dst=some d→b<100→tr.contains (300000+d*100+b)=true→f.bx s.nb s.bx b=s.bx b:=by
 obtain⟨T,X,d,hx1,hx2,hd,hcase⟩:=o0 hls
 rcases hy with⟨_,hv,_⟩ | ⟨_,rfl⟩
 ·unfold VEf at hv
  rcases hcase with⟨U,t,Y,hy1,ht,hno⟩ | ⟨c,g,hy1,hy2,hm,hl,hno⟩
  ·rw[hy1] at hv
   simp only at hv
   obtain⟨hdec,hv⟩:=hv
   split at hv
   ·rename_i i b k cs h1 h2 h3
    obtain⟨_,rfl⟩:=hv
    rw[h2] at hdec
    simp only[Es,mE,KT,ht,Bool.not_true,Bool.false_or,aF,bi] at hdec
    refine⟨rfl,fun d' b' hd' hb' hc'=>?_⟩
    rw[hx2] at hd';cases hd'
    have hne:b'≠b:=by rintro rfl;exact hno b' hb' hc' hdec.2
    simp only[Ef.bx,cM _ _ hne]
   ·rename_i i blk j h1 h2
    rw[h2] at hdec
    simp only[Es,mE,ht,Bool.not_true] at hdec
    cases hdec
   ·exact hv.elim
  ·obtain⟨callee,args,ts⟩:=c
   simp only at hy2;subst hy2
   rw[hy1] at hv
   simp only[hm,cA] at hv
   obtain⟨bx,nb,x',rfl,_,h2⟩:=hv
   obtain⟨h3,h4⟩:=h2 hl
   refine⟨h3,fun d' b' hd' hb' hc'=>?_⟩
   rw[hx2] at hd';cases hd'
   rcases h4 b' with h | ⟨_,h⟩
   ·exact h
   ·exact(hno b' hb' hc' h).elim
 ·exact⟨rfl,fun _ _ _ _ _=>rfl⟩
theorem Ln {x y:Oper} {e:Ef} {s':S} (hls:kX tr x y=true) (hl:∀ t∈x.looksAt ops,s.fr t=s'.fr t)
 (hbx:∀ d b,x.dst=some d→b<100→tr.contains (300000+d*100+b)=true→s'.bx b=s.bx b) (hnb:s'.nb=s.nb) (h:TEf P G tr ops x s e):TEf P G tr ops x s' e:=by
 obtain⟨T,X,d,hx1,hx2,hd,_⟩:=o0 hls
 rcases h with⟨h1,h2,h3⟩ | ⟨h1,h2⟩
 ·refine .inl ⟨by rw[← iR hl];exact h1,?_,h3⟩
  have hev:ev G s X=ev G s' X:=vY fun q hq=>hl q (iS (by rw[hx1];simp[Op.operands]) hq)
  unfold VEf at h2 ⊢
  rw[hx1] at h2 ⊢
  simp only at h2 ⊢
  obtain⟨v,he,hdec,hv⟩:=h2
  refine⟨v,he,by rw[← hev];exact hdec,?_⟩
  obtain⟨dst,op,type,pos,after,guard⟩:=x
  simp only at hx1 hx2 hdec hev hbx
  subst hx1;subst hx2
  simp only[VYK] at hv ⊢
  rw[← hev]
  rcases hcase:ev G s X with _ | _ | c | _ | _ | _ | ⟨b,k⟩ | _ | _ | _
  case bp=>
   rw[hcase] at hdec hv
   simp only[mE,KT,hd,Bool.not_true,Bool.false_or,aF,bi] at hdec
   exact Lm (hbx d b rfl hdec.1 hdec.2) hnb hv
  case c=>
   rw[hcase] at hdec hv
   refine ux (fun _ _ e=>by cases e) (fun v e=>?_) hv
   cases e
   simp only[mE,hd,Bool.not_true] at hdec
   cases hdec
  all_goals
   rw[hcase] at hv
   exact ux (fun _ _ e=>by cases e) (fun _ e=>by cases e) hv
 ·exact .inr ⟨by rw[← iR hl];exact h1,h2⟩
theorem o4 {x y:Oper} (h:mL x y=true):∃ T m k,x.op=.lookup T (.tmp m) (.tmp k) false∧y.op=.mapEntry T (.tmp m) (.tmp k):=by
 unfold mL at h
 split at h
 ·rename_i T m k U m' k' h1 h2
  simp only[aF,js] at h
  obtain⟨⟨rfl,rfl⟩,rfl⟩:=h
  exact⟨T,m,k,h1,h2⟩
 ·cases h
theorem Cm {x y:Oper} (h:mL x y=true):da tr x=1∧da tr y=2:=by
 obtain⟨T,m,k,h1,h2⟩:=o4 h
 simp[da,h1,h2]
theorem v7 {ag:Bool}:∀ {r:List V} {l:List (List C)},iP ag r=some l→r.length=2*l.length
 |[],l,h=>by simp only[iP,am] at h;subst h;rfl
 |[_],l,h=>by simp[iP] at h
 |k::v::r,l,h=>by
  unfold iP at h
  split at h
  ·rename_i q l' h1 h2
   simp only[am] at h;subst h
   have:=v7 h2
   simp[this];omega
  ·cases h
theorem uy {ag:Bool} {k v:V} {q:List C} (hk:k.kcs ag=some q):∀ {r:List V} {l:List (List C)},iP ag r=some l→iP ag (r++[k,v])=some (l++[q])
 |[],l,h=>by simp only[iP,am] at h;subst h;simp[iP,hk]
 |[_],l,h=>by simp[iP] at h
 |k'::v'::r,l,h=>by
  unfold iP at h
  split at h
  ·rename_i q' l' h1 h2
   simp only[am] at h;subst h
   have:=uy (v:=v) hk h2
   simp only[dt,iP,h1,this]
  ·cases h
theorem v8 {ks:List EK} {k:List C} (hl:k.length=ks.length) (hr:ig ks k k=some true):∀ {l:List (List C)} {i:Nat},lm ks k l i=some none→lm ks k (l++[k]) i=some (some (i+l.length))
 |[],i,_=>by simp[lm,hl,hr]
 |k'::l,i,h=>by
  unfold lm at h
  split at h
  ·rename_i h1
   split at h
   ·cases h
   ·rename_i h2
    simp only[dt,lm,h1,cA,h2]
    rw[v8 hl hr h];simp;omega
   ·cases h
  ·cases h
theorem wa {T:TypeId} {k:V} {K:S→V→Prop} (h:eS P T s x k K):∃ w,eW P T s x k false (fun u=>w=u):=by
 unfold eS at h
 obtain⟨i,bs,cl,r,res,z,h1,h2⟩:=gY h
 cases res with
 |none=>exact⟨_,fh h1 rfl⟩
 |some j=>exact⟨_,fh h1 rfl⟩
theorem uz {T:TypeId} {bx':Nat→List V} {k v u:V} {s':S} (h:eS P T s x k (fun s' u'=>bx'=s'.bx∧u=u')) (hv:eW P T s x k false (fun w=>v=w)) (h1:s'.bx=bx') (h2:s'.nb=s.nb) :
 eW P T s' x k false (fun w=>v=w):=by
 subst h1
 unfold eS at h
 obtain⟨i,kt,et,tT,tk,te,ks,kc,z,bs,cl,r,kcs,res,q1,q2,rfl,q3,q4,q5,q6,q7,q8,q9,q10,⟨q11,q12,q13,q14⟩,hK⟩:=rh h
 have hv':eW P T s (.mr i) k false (fun w=>(match res with | some j=>(r.getD (2*j+1) .un).fz | none=>z)=w):=by
  unfold eW
  refine ol q1 q2 q3 q4 q5 q6 q7 q8 q9 q10 q11 q12 q13 q14 ?_
  cases res<;>rfl
 have hvv:=uv hv hv'
 unfold eW
 cases res with
 |some j=>
  obtain⟨hb,_⟩:=hK
  refine ol q1 q2 q3 q4 q5 q6 q7 (by rw[hb];exact q8) q9 q10 (by rw[h2];exact q11) q12 q13 q14 ?_
  exact hvv
 |none=>
  obtain⟨hb,_⟩:=hK
  have hkf:k.fz.kcs tk.agg=some kc:=by cases k<;>simp_all[V.fz,V.kcs]
  have hz:z.fz=z:=by
   unfold nP at q7;split at q7<;>first | (simp only[am] at q7;subst q7;rfl) | cases q7
  have hlen:=v7 q9
  refine ol (bs:=bs++[cl]) (cl:=cl+1) (r:=r++[k.fz,z]) q1 q2 q3 q4 q5 q6 q7 (by rw[hb];simp only[bZ]) (uy hkf q9) (v8 q12 q13 q10) (by rw[h2];exact q11) q12 q13 q14 ?_
  simp only
  rw[show v=z from hvv]
  have:(r++[k.fz,z]).getD (2*(0+kcs.length)+1) .un=z:=by
   rw[ah,← hlen];simp
  rw[this,hz];rfl
theorem tK {s':S} (hn:s.nb≤s'.nb) (hb:∀ i,i<s.nb→s'.bx i=s.bx i) {i:Nat} {cs:List C} (h:uU s i=some cs):uU s' i=some cs:=by
 unfold uU at *
 split at h
 ·rename_i hi;rw[if_pos (by omega),hb i hi];exact h
 ·cases h
theorem rj {s':S} (hn:s.nb≤s'.nb) (hb:∀ i,i<s.nb→s'.bx i=s.bx i) {i off len sz:Nat} {c:C} (h:kF s i off len sz=some c):kF s' i off len sz=some c:=by
 unfold kF at *
 split at h
 ·rename_i cs hc;simp only[tK hn hb hc];exact h
 ·cases h
theorem tL {s':S} (hn:s.nb≤s'.nb) (hb:∀ i,i<s.nb→s'.bx i=s.bx i) {x:V} {c:C} (h:rb s x=some c):rb s' x=some c:=by
 unfold rb at *
 split at h
 ·exact h
 ·exact h
 ·obtain⟨cs,hc,rfl⟩:=aT.1 h;rw[tK hn hb hc];rfl
 ·exact rj hn hb h
 ·cases h
theorem kN {α β:Type} {f g:α→Option β} (h:∀ x y,f x=some y→g x=some y):∀ {l:List α} {r:List β},l.mapM f=some r→l.mapM g=some r
 |[],r,hr=>by simpa using hr
 |x::l,r,hr=>by
  rw[ek] at hr ⊢
  cases hx:f x with
  |none=>rw[hx] at hr;cases hr
  |some y=>
   rw[hx] at hr
   rw[h x y hx]
   cases hl:l.mapM f with
   |none=>rw[hl] at hr;cases hr
   |some r'=>rw[hl] at hr;rw[kN h hl];exact hr
theorem sf {s':S} (hn:s.nb≤s'.nb) (hb:∀ i,i<s.nb→s'.bx i=s.bx i) {x y:V} (h:imm s x=some y):imm s' x=some y:=by
 unfold imm at *
 split at h
 ·exact h
 ·exact h
 ·exact h
 ·obtain⟨cs,hc,rfl⟩:=aT.1 h;rw[tK hn hb hc];rfl
 ·split at h
  ·rename_i e1 e2
   simp only[kN (fun _ _=>tL hn hb) e1,kN (fun _ _=>tL hn hb) e2];exact h
  ·cases h
 ·obtain⟨c,hc,rfl⟩:=aT.1 h;rw[rj hn hb hc];rfl
 ·obtain⟨c,hc,rfl⟩:=aT.1 h;rw[kN (fun _ _=>tL hn hb) hc];rfl
 ·cases h
theorem qt {s':S} (hn:s.nb≤s'.nb) (hb:∀ i,i<s.nb→s'.bx i=s.bx i) (x:V):vw s x=vw s' x∨vw s x=.un:=by
 cases x<;>try exact .inl rfl
 case ms i off len cap sz=>
  simp only[vw]
  cases hv:kF s i off len sz with
  |none=>exact .inr rfl
  |some c=>rw[rj hn hb hv];exact .inl rfl
theorem It {s':S} {ts:List TypeId} {z y:V} {K:V→Prop} (hn:s.nb≤s'.nb) (hb:∀ i,i<s.nb→s'.bx i=s.bx i) (h:dW P .append ts [z,vw s y] K):dW P .append ts [z,vw s' y] K:=by
 rcases qt hn hb y with e2 | e2
 ·rw[← e2];exact h
 ·rw[e2] at h
  unfold dW at h
  split at h<;>first | cases ‹Builtin.append=_› | skip
  ·rename_i t t' x y' hxy
   obtain⟨rfl,rfl⟩:z=x∧V.un=y':=by
    simp only[bJ,fq] at hxy;exact hxy
   split at h
   ·exfalso
    unfold dX at h
    split at h
    ·split at h
     ·exact h.2.elim
     ·exact h.elim
    ·exact h.elim
   ·exfalso;unfold nD at h;simp[V.fz] at h
  ·exact h.elim
theorem EQ {s':S} {ts:List TypeId} {E:Option (TypeId×Nat)} {es:List (List C)} {y:V} {K:V→Prop} (hn:s.nb≤s'.nb) (hb:∀ i,i<s.nb→s'.bx i=s.bx i) (h:qO P ts E es (vw s y).fz K):qO P ts E es (vw s' y).fz K:=by
 rcases qt hn hb y with e2 | e2
 ·rw[← e2];exact h
 ·exfalso
  rw[e2] at h
  unfold qO at h
  split at h
  ·obtain⟨_,h⟩:=h
   split at h
   ·split at h
    ·obtain⟨_,h⟩:=h
     split at h
     ·rename_i e;cases e
     ·exact h.elim
    ·exact h.elim
   ·exact h.elim
  ·exact h.elim
theorem wb {s':S} {ts:List TypeId} {E:Option (TypeId×Nat)} {es:List (List C)} {y:V} {K:V→Prop} (hn:s.nb≤s'.nb) (hb:∀ i,i<s.nb→s'.bx i=s.bx i) (h:ln P ts E es (vw s y).fz K):ln P ts E es (vw s' y).fz K:=by
 rcases qt hn hb y with e2 | e2
 ·rw[← e2];exact h
 ·exfalso
  rw[e2] at h
  unfold ln at h
  split at h
  ·obtain⟨_,h⟩:=h
   split at h
   ·split at h
    ·obtain⟨_,h⟩:=h
     split at h
     ·rename_i e;cases e
     ·exact h.elim
    ·exact h.elim
   ·exact h.elim
  ·exact h.elim
theorem sg {s':S} {K:V→Prop} (hdq:∀ d,o.dst=some d→s.fr d=s'.fr d) (he:∀ x∈o.op.operands,ev G s x=ev G s' x) (hn:s.nb≤s'.nb) (hb:∀ i,i<s.nb→s'.bx i=s.bx i) (hm:da tr o=1) (h:VYK P G tr o s K):VYK P G tr o s' K:=by
 have marr:∀ l:Array Operand,(∀ x∈l,ev G s x=ev G s' x)→l.toList.map (ev G s)=l.toList.map (ev G s'):=fun l hl=>cd fun x hx=>hl x (by simpa using hx)
 have hm0:=hm
 obtain⟨dst,op,type,pos,after,guard⟩:=o
 cases op<;>simp only[da] at hm<;>try cases hm
 case buildSlice=>split at hm<;>cases hm
 case load T x=>
  simp only[VYK] at h ⊢
  rw[← he x (by simp[Op.operands])]
  unfold cy at h ⊢
  split at h
  ·exact h
  ·rename_i i b k _
   obtain⟨⟨h1,h2⟩,h3⟩:=h
   rw[hb _ h1]
   exact⟨⟨by omega,h2⟩,h3⟩
  ·rcases h with⟨h1,b,k,len,cap,E,es,c,⟨q1,q2,q3,q4⟩,h⟩ | ⟨b,k,len,cap,E,es,⟨q1,q2,q3⟩,h⟩
   ·exact .inl ⟨h1,b,k,len,cap,E,es,c,⟨by omega,by rw[hb _ q1];exact q2,by rw[hb _ q1];exact q3,q4⟩,h⟩
   ·exact .inr ⟨b,k,len,cap,E,es,⟨by omega,by rw[hb _ q1];exact q2,by rw[hb _ q1];exact q3⟩,h⟩
  ·exact h.elim
 case convert src dst' x=>
  simp only[VYK] at h ⊢
  rw[← he x (by simp[Op.operands])]
  rcases qt hn hb (ev G s x) with e | e
  ·rw[← e];exact h
  ·rw[e] at h;simp[V.fz,mD] at h
 case lookup T x k ok=>
  simp only[VYK] at h ⊢
  rw[← he x (by simp[Op.operands]),← he k (by simp[Op.operands])]
  unfold eW at h ⊢
  obtain⟨i,kt,et,tT,tk,te,ks,kc,z,bs,cl,r,kcs,res,q1,q2,q3,q4,q5,q6,q7,q8,q9,q10,q11,⟨q12,q13,q14,q15⟩,hK⟩:=rh h
  rw[q3]
  exact ol q1 q2 q4 q5 q6 q7 q8 (by rw[hb i q12];exact q9) q10 q11 (by omega) q13 q14 q15 hK
 case range T x=>
  simp only[VYK] at h ⊢
  rw[← he x (by simp[Op.operands])]
  unfold ml at h ⊢
  split at h
  ·rename_i i _
   split at h
   ·rename_i e1
    obtain⟨h1,h2⟩:=h
    rw[hb _ h1];simp only[e1];exact⟨by omega,h2⟩
   ·exact h.elim
  ·exact h.elim
 case entry x=>
  simp only[VYK] at h ⊢
  rw[← he x (by simp[Op.operands])]
  unfold lD at h ⊢
  split at h
  ·rename_i i since stepped seen _
   split at h
   ·rename_i e1 e2
    split at h
    ·rename_i e3
     obtain⟨⟨h1,h0⟩,h2⟩:=h
     rw[hb _ h1];simp only[e1,e2,e3];exact⟨⟨by omega,h0⟩,h2⟩
    ·exact h.elim
   ·exact h.elim
  ·exact h.elim
 case call c=>
  obtain⟨callee,args,ts⟩:=c
  cases callee with
  |value f=>
   simp only[VYK] at h ⊢
   rw[← he f (by simp[Op.operands,Call.operands]),← marr args fun x hx=>he x (by simp[Op.operands,Call.operands,hx])]
   unfold oc at h ⊢
   split at h
   ·split at h
    ·rename_i e1;simp only[kN (fun _ _=>sf hn hb) e1];exact h
    ·exact h.elim
   ·split at h
    ·rename_i e1 e2 e3
     simp only[kN (fun _ _=>sf hn hb) e1,kN (fun _ _=>sf hn hb) e2,kN (fun _ _=>sf hn hb) e3];exact h
    ·exact h.elim
   ·exact h.elim
  |invoke r m=>exact h.elim
  |builtin b=>
   cases b<;>first | (simp[da] at hm0;done) | skip
   case append=>
    by_cases hgh:vB tr dst=true
    ·simp only[VYK,if_pos hgh] at h ⊢
     by_cases hho:rK tr dst=true
     ·rw[if_pos hho] at h ⊢
      unfold rL at h ⊢
      split at h
      ·rename_i t y d ha
       have ht:s.fr t=s'.fr t:=by
        have:=he (.tmp t) (by simp only[Op.operands,Call.operands];rw[dN];exact cj.1 (by rw[ha];simp))
        simpa[ev] using this
       have hy:ev G s y=ev G s' y:=he y (by simp only[Op.operands,Call.operands];rw[dN];exact cj.1 (by rw[ha];simp))
       rw[← ht,← hdq d rfl,← hy]
       split at h
       ·exact⟨h.1,EQ hn hb h.2⟩
       ·exact h.elim
      ·exact h.elim
     ·rw[if_neg hho] at h ⊢
      unfold iQ at h ⊢
      split at h
      ·rename_i t y d ha
       have ht:s.fr t=s'.fr t:=by
        have:=he (.tmp t) (by simp only[Op.operands,Call.operands];rw[dN];exact cj.1 (by rw[ha];simp))
        simpa[ev] using this
       have hy:ev G s y=ev G s' y:=he y (by simp only[Op.operands,Call.operands];rw[dN];exact cj.1 (by rw[ha];simp))
       rw[← ht,← hdq d rfl,← hy]
       split at h
       ·exact⟨h.1,It hn hb h.2⟩
       ·exact⟨h.1,wb hn hb h.2⟩
       ·exact⟨h.1,wb hn hb h.2⟩
       ·exact h.elim
      ·exact h.elim
    simp only[VYK,if_neg hgh] at h ⊢
    have hh:(args.toList.map fun x=>vw s' (ev G s' x))=args.toList.map fun x=>vw s' (ev G s x):=cd fun x hx=>by rw[he x (by simp only[Op.operands,Call.operands];simpa using hx)]
    rw[hh]
    unfold dW at h ⊢
    split at h<;>first | cases ‹Builtin.append=_› | skip
    ·rename_i t t' x y hts hargs
     obtain⟨X,Y,hX,rfl,rfl⟩:∃ X Y,args.toList=[X,Y]∧x=vw s (ev G s X)∧y=vw s (ev G s Y):=by
      cases ha:args.toList with
      |nil=>simp[ha] at hargs
      |cons X l=>
       cases l with
       |nil=>simp[ha] at hargs
       |cons Y l=>simp only[ha,aI,bJ,dC] at hargs;exact⟨X,Y,by rw[hargs.2.2],hargs.1.symm,hargs.2.1.symm⟩
     rw[hX,hts]
     simp only[aI,bA]
     have hno:∀ u K',¬ dX P t .un u K':=fun u K' h=>by simp[dX] at h
     have hno2:∀ u K',¬ dX P t u V.un K':=fun u K' h=>by
      unfold dX at h
      split at h
      ·split at h
       ·exact h.2.elim
       ·exact h.elim
      ·exact h.elim
     rcases qt hn hb (ev G s X) with e1 | e1
     ·rcases qt hn hb (ev G s Y) with e2 | e2
      ·rw[← e1,← e2];exact h
      ·rw[e2] at h
       split at h
       ·exact(hno2 _ _ h).elim
       ·unfold nD at h;simp[V.fz] at h
     ·rw[e1] at h
      split at h
      ·exact(hno _ _ h).elim
      ·unfold nD at h
       split at h
       ·split at h
        ·exact(hno _ _ h.2).elim
        ·exact h.elim
       ·exact h.elim
    ·exact h.elim
theorem Lo {s':S} {e:Ef} (hdq:∀ d,o.dst=some d→s.fr d=s'.fr d) (hm:da tr o=1) (he:∀ x∈o.op.operands,ev G s x=ev G s' x) (hn:s.nb≤s'.nb) (hb:∀ i,i<s.nb→s'.bx i=s.bx i) (h:VEf P G tr o s e):VEf P G tr o s' e:=by
 unfold VEf at h ⊢
 split at h
 ·rename_i hop;simp[da,hop] at hm
 ·rename_i hop;simp[da,hop] at hm
 ·rename_i hop;simp[da,hop] at hm
 ·rename_i hop;simp only[da,hop] at hm;split at hm<;>cases hm
 ·rename_i hop;simp[da,hop] at hm
 ·rename_i f args ts hop
  split at h
  ·rename_i hmu;simp[da,hop,hmu] at hm
  ·rename_i hmu
   rw[if_neg hmu]
   obtain⟨v,h1,h2⟩:=h
   refine⟨v,h1,?_⟩
   unfold VYQ at h2 ⊢
   split
   ·rename_i hro
    rw[if_pos hro] at h2
    have:args.toList.map (ev G s)=args.toList.map (ev G s'):=cd fun x hx=>he x (by rw[hop];simp only[Op.operands,Call.operands];simp at hx;simp[hx])
    rw[← he f (by rw[hop];simp[Op.operands,Call.operands]),← this]
    exact uw hn hb h2
   ·rename_i hro
    rw[if_neg hro] at h2
    exact sg hdq he hn hb hm h2
 ·rename_i T X hop
  obtain⟨v,h1,h2,h3⟩:=h
  exact⟨v,h1,by rw[← he X (by rw[hop];simp[Op.operands])];exact h2,sg hdq he hn hb hm h3⟩
 ·rename_i hop;simp[da,hop] at hm
 ·rename_i hop;simp[da,hop] at hm
 ·rename_i hop;simp[da,hop] at hm
 ·rename_i hop;simp[da,hop] at hm
 ·rename_i hop
  split at h
  ·exact h.elim
  rename_i hne
  rw[if_neg hne]
  split at h
  ·rename_i hr;simp[da,hop,hr] at hm
  ·rename_i hr
   rw[if_neg hr]
   obtain⟨v,h1,h2⟩:=h
   exact⟨v,h1,sg hdq he hn hb hm h2⟩
 ·rename_i hop;simp[da,hop] at hm
 ·obtain⟨v,h1,h2⟩:=h
  exact⟨v,h1,sg hdq he hn hb hm h2⟩
theorem Ak {x y:Oper} (h:sd tr x y=true):da tr x=1∧∀ (q:S) (f:Ef),VEf P G tr y q f→q.nb≤f.nb q.nb∧∀ i,i<q.nb→f.bx q.nb q.bx i=q.bx i:=by
 unfold sd at h
 simp only[aF,js] at h
 refine⟨h.1,fun q f hf=>?_⟩
 have h2:=h.2
 have al:(∃ cs,f=.al cs)→q.nb≤f.nb q.nb∧∀ i,i<q.nb→f.bx q.nb q.bx i=q.bx i:=by
  rintro⟨cs,rfl⟩
  exact⟨Nat.le_succ _,fun i hi=>cM _ _ (by omega)⟩
 split at h2
 ·rename_i hop
  unfold VEf at hf;rw[hop] at hf
  simp only at hf
  split at hf
  ·exact al ⟨_,hf⟩
  ·exact hf.elim
 ·rename_i hop
  unfold VEf at hf;rw[hop] at hf
  simp only at hf
  split at hf
  ·exact al ⟨_,hf⟩
  ·exact hf.elim
 ·rename_i hop
  unfold VEf at hf;rw[hop] at hf
  simp only[h2,cA] at hf
  obtain⟨bx,nb,x,rfl,hv⟩:=hf
  unfold ci at hv
  split at hv
  ·split at hv
   ·obtain⟨_,hv⟩:=hv
    split at hv
    ·simp only[vC] at hv
     split at hv
     ·obtain⟨⟨rfl,rfl⟩,_⟩:=hv
      exact⟨Nat.le_succ _,fun i hi=>cM _ _ (by omega)⟩
     ·exact hv.elim
    ·exact hv.elim
   ·exact hv.elim
  ·exact hv.elim
 ·cases h2
theorem TEf.keep {x y:Oper} {e f:Ef} (hap:Ch tr ops x y) (hx:TEf P G tr ops x s e) (hy:TEf P G tr ops y s f):TEf P G tr ops x (f.run tr y s) e:=by
 have hl:∀ t∈x.looksAt ops,s.fr t=(f.run tr y s).fr t:=fun t ht=>by
  rw[pK]
  simp only
  rw[eZ (fun hw=>hap.yx t hw ht)]
 have hdq:∀ d,x.dst=some d→s.fr d=(f.run tr y s).fr d:=fun d hd=>by
  rw[pK]
  simp only
  rw[eZ (hap.ww d (by simp[wr,hd]))]
 by_cases hls:kX tr x y=true
 ·obtain⟨q1,q2⟩:=Ck hls hy
  exact Ln hls hl q2 q1 hx
 by_cases hlk:mL x y=true
 ·obtain⟨T,m,k,hx1,hy1⟩:=o4 hlk
  rcases hy with⟨_,hv,_⟩ | ⟨_,rfl⟩
  ·rcases hx with⟨hg,hw,hne⟩ | ⟨hg,he⟩
   ·refine .inl ⟨by rw[← iR hl];exact hg,?_,hne⟩
    unfold VEf at hv hw ⊢
    rw[hy1] at hv
    rw[hx1] at hw ⊢
    obtain⟨bx,u,rfl,hv⟩:=hv
    obtain⟨v,rfl,hw⟩:=hw
    refine⟨v,rfl,?_⟩
    obtain⟨dst,op,type,pos,after,guard⟩:=x
    simp only at hx1;subst hx1
    simp only[VYK] at hw ⊢
    have e1:ev G ((Ef.gn bx s.nb u).run tr y s) (.tmp m)=ev G s (.tmp m):=(hl m (iS (x:=.tmp m) (by simp[Op.operands]) rfl)).symm
    have e2:ev G ((Ef.gn bx s.nb u).run tr y s) (.tmp k)=ev G s (.tmp k):=(hl k (iS (x:=.tmp k) (by simp[Op.operands]) rfl)).symm
    rw[e1,e2]
    exact uz (bx':=bx) (u:=u) (pH (m3 hv) fun s' u' e=>⟨by rw[← e.1],e.2⟩) hw rfl rfl
   ·exact .inr ⟨by rw[← iR hl];exact hg,he⟩
  ·exact qq hdq hl (fun _=>⟨rfl,rfl⟩) hx
 by_cases hra:sd tr x y=true
 ·obtain⟨h1,h2⟩:=Ak hra
  rcases hx with⟨hg,hw,hne⟩ | ⟨hg,he⟩
  ·refine .inl ⟨by rw[← iR hl];exact hg,?_,hne⟩
   have hf:s.nb≤f.nb s.nb∧∀ i,i<s.nb→f.bx s.nb s.bx i=s.bx i:=by
    rcases hy with⟨_,hv,_⟩ | ⟨_,rfl⟩
    ·exact h2 _ _ hv
    ·exact⟨ae _,fun _ _=>rfl⟩
   exact Lo hdq h1 (fun q hq=>vY fun t ht=>hl t (iS hq ht)) hf.1 hf.2 hw
  ·exact .inr ⟨by rw[← iR hl];exact hg,he⟩
 ·refine qq hdq hl (fun hm=>?_) hx
  have hq:=qp hy (fun h=>hm ((hap.my h).resolve_right (fun h=>by rcases h with h | h | h;exact hls h;exact hlk h;exact hra h)))
  obtain⟨q1,q2,_⟩:=kM hq s.bx s.nb 0
  exact⟨q1.symm,q2.symm⟩
theorem TEf.back {x y:Oper} {e f:Ef} (hap:Ch tr ops x y) (hx:TEf P G tr ops x s e) (hy:TEf P G tr ops y (e.run tr x s) f):TEf P G tr ops y s f:=by
 have hl:∀ t∈y.looksAt ops,(e.run tr x s).fr t=s.fr t:=fun t ht=>by
  rw[pK]
  simp only
  rw[eZ (fun hw=>hap.xy t hw ht)]
 have hdq:∀ d,y.dst=some d→(e.run tr x s).fr d=s.fr d:=fun d hd=>by
  rw[pK]
  simp only
  rw[eZ (fun hw=>hap.ww d hw (by simp[wr,hd]))]
 by_cases hls:kX tr y x=true
 ·obtain⟨q1,q2⟩:=Ck hls hx
  exact Ln hls hl (fun d b h1 h2 h3=>(q2 d b h1 h2 h3).symm) q1.symm hy
 by_cases hlk:mL y x=true
 ·obtain⟨T,m,k,hx1,hy1⟩:=o4 hlk
  rcases hx with⟨_,hv,_⟩ | ⟨_,rfl⟩
  ·rcases hy with⟨hg,hw,hne⟩ | ⟨hg,he⟩
   ·refine .inl ⟨by rw[← iR hl];exact hg,?_,hne⟩
    unfold VEf at hv hw ⊢
    rw[hy1] at hv
    rw[hx1] at hw ⊢
    obtain⟨bx,u,rfl,hv⟩:=hv
    obtain⟨v,rfl,hw⟩:=hw
    refine⟨v,rfl,?_⟩
    obtain⟨dst,op,type,pos,after,guard⟩:=y
    simp only at hx1;subst hx1
    simp only[VYK] at hw ⊢
    have e1:ev G ((Ef.gn bx s.nb u).run tr x s) (.tmp m)=ev G s (.tmp m):=hl m (iS (x:=.tmp m) (by simp[Op.operands]) rfl)
    have e2:ev G ((Ef.gn bx s.nb u).run tr x s) (.tmp k)=ev G s (.tmp k):=hl k (iS (x:=.tmp k) (by simp[Op.operands]) rfl)
    rw[e1,e2] at hw
    have hE:=pH (m3 hv) (K':=fun s' u'=>bx=s'.bx∧u=u') fun s' u' e=>⟨by rw[← e.1],e.2⟩
    obtain⟨w,hw0⟩:=wa hE
    have:=uz (s':=(Ef.gn bx s.nb u).run tr x s) hE hw0 rfl rfl
    rw[uv hw this];exact hw0
   ·exact .inr ⟨by rw[← iR hl];exact hg,he⟩
  ·exact qq hdq hl (fun _=>⟨rfl,rfl⟩) hy
 ·refine qq hdq hl (fun hm=>?_) hy
  have hq:=qp hx (fun h=>hm ((hap.mx h).resolve_right (fun h=>by rcases h with h | h;exact hls h;exact hlk h)))
  obtain⟨q1,q2,_⟩:=kM hq s.bx s.nb 0
  exact⟨q1,q2⟩
theorem pL {x y:Oper} {e f:Ef} (hap:Ch tr ops x y) (hx:TEf P G tr ops x s e) (hy:TEf P G tr ops y s f):f.run tr y (e.run tr x s)=e.run tr x (f.run tr y s):=by
 simp only[pK]
 by_cases h2:da tr x=2
 ·have hq:=qp hy (fun h=>by
   rcases hap.mx h2 with h' | h' | h'
   ·rw[h'] at h;cases h
   ·rw[Cj h'] at h;cases h
   ·rw[(Cm (tr:=tr) h').1] at h;cases h)
  obtain⟨q1,q2,q3⟩:=kM hq (e.bx s.nb s.bx) (e.nb s.nb) s.nb
  obtain⟨r1,r2,_⟩:=kM hq s.bx s.nb s.nb
  rw[q1,q2,q3,r1,r2,v6 hap.ww]
 ·have hq:=qp hx h2
  obtain⟨q1,q2,q3⟩:=kM hq (f.bx s.nb s.bx) (f.nb s.nb) s.nb
  obtain⟨r1,r2,_⟩:=kM hq s.bx s.nb s.nb
  rw[q1,q2,q3,r1,r2,v6 hap.ww]
def FreeAt (tr:List Nat) (md:Region.Mode) (ops:Array Oper) (listed:Array Bool) (i:Nat) (oi:Oper):Prop:=
 ∃ B:List Nat,(∀ j∈B,listed.getD j true=false∧∃ oj,ops[j]?=some oj∧∃ e∈oj.after,Region.binds md e=true∧(e.on=i∨e.on∈B))∧
  ∀ j oj,ops[j]?=some oj→j≠i→listed.getD j true=false→j∉B→Aj tr ops oi oj=true
theorem FreeAt.step {md:Region.Mode} {listed:Array Bool} {i j:Nat} {oi oj:Oper} (h:FreeAt tr md ops listed i oi) (hr:i∈Region.ready md ops listed) (hj:j∈Region.ready md ops listed) (hji:j≠i) (hoj:ops[j]?=some oj) :
 Ch tr ops oi oj∧FreeAt tr md ops (listed.setIfInBounds j true) i oi:=by
 obtain⟨B,hB,hfree⟩:=h
 obtain⟨hjun,oj',hoj',hall⟩:=gw.1 hj
 rw[hoj] at hoj';cases hoj'
 have hun:∀ q,listed.getD q true=false→∀ e∈oj.after,Region.binds md e=true→e.on≠q:=fun q h0 e he hb heq=>by
  have h1:=hall e he hb
  rw[heq] at h1
  rcases cx q listed.size with h' | h'
  ·simp[h'] at h0 h1;rw[h0] at h1;cases h1
  ·simp[cK h'] at h1
 have hjB:j∉B:=fun hjB=>by
  obtain⟨_,oj',hoj',e,he,hb,hon⟩:=hB j hjB
  rw[hoj] at hoj';cases hoj'
  rcases hon with hon | hon
  ·exact hun i (gw.1 hr).1 e he hb hon
  ·exact hun _ (hB _ hon).1 e he hb rfl
 refine⟨Ci (hfree j oj hoj hji hjun hjB),B,fun b hb=>?_,fun k ok hk hki hun hno=>?_⟩
 ·have hjb:j≠b:=fun h=>hjB (by rw[h];exact hb)
  exact⟨by rw[jU true hjb];exact(hB b hb).1,(hB b hb).2⟩
 ·refine hfree k ok hk hki ?_ hno
  by_cases hjk:j=k
  ·subst hjk;exact hjun
  ·rw[jU true hjk] at hun;exact hun
theorem rk {K:S→Prop} {i:Nat} {oi:Oper} {e:Ef} (hi:ops[i]?=some oi) :
 ∀ (fuel:Nat) (listed:Array Bool) (s:S),FreeAt tr md ops listed i oi→
  i∈Region.ready md ops listed→TEf P G tr ops oi s e→
  Ai P G tr md ops K fuel (listed.setIfInBounds i true) (e.run tr oi s)→Ai P G tr md ops K (fuel+1) listed s:=by
 intro fuel
 induction fuel with
 |zero=>
  intro listed s _ hr hy H
  refine⟨fun h=>(by rw[h] at hr;cases hr),fun j hj=>?_⟩
  by_cases hji:j=i
  ·subst hji;unfold m4;simp only[hi];exact⟨e,hy,H⟩
  ·have:=iT hj hji
   rw[H.1] at this
   cases this
 |succ fuel ih=>
  intro listed s hfree hr hy H
  refine⟨fun h=>(by rw[h] at hr;cases hr),fun j hj=>?_⟩
  by_cases hji:j=i
  ·subst hji;unfold m4;simp only[hi];exact⟨e,hy,H⟩
  ·have h1:=H.2 j (iT hj hji)
   obtain⟨_,oj,hoj,_⟩:=gw.1 hj
   obtain⟨hap,hfree'⟩:=hfree.step hr hj hji hoj
   unfold m4 at h1 ⊢
   simp only[hoj] at h1 ⊢
   obtain⟨f,hf,hK⟩:=h1
   have hf':=hy.back hap hf
   refine⟨f,hf',ih (listed.setIfInBounds j true) _ hfree' (iT hr (fp hji)) (hy.keep hap hf') ?_⟩
   rw[fN _ _ hji,← pL hap hy hf']
   exact hK
def qu (ops:Array Oper) (listed:Array Bool) (i:Nat):List Nat→List Nat→List Nat
 |[],B=>B
 |j::r,B=>qu ops listed i r (match ops[j]? with
  |some oj=>if(!listed.getD j true)&&(oj.after.any fun e=>Region.binds .any e&&(e.on==i||B.contains e.on)) then j::B else B
  |none=>B)
theorem sh {ops:Array Oper} {listed:Array Bool} {i:Nat}:∀ (l B:List Nat),(∀ j∈B,listed.getD j true=false∧∃ oj,ops[j]?=some oj∧∃ e∈oj.after,Region.binds .any e=true∧(e.on=i∨e.on∈B))→
 ∀ j∈qu ops listed i l B,listed.getD j true=false∧∃ oj,ops[j]?=some oj∧∃ e∈oj.after,Region.binds .any e=true∧(e.on=i∨e.on∈qu ops listed i l B)
 |[],_,h=>h
 |k::r,B,h=>by
  unfold qu
  refine sh r _ ?_
  split
  ·rename_i oj hoj
   split
   ·rename_i hc
    simp only[aF,dI] at hc
    obtain⟨h1,h2⟩:=hc
    rw[Array.any_eq_true'] at h2
    obtain⟨e,he,h3⟩:=h2
    simp only[aF,dx,js,fZ,bi] at h3
    intro j hj
    rcases bw.1 hj with rfl | hj
    ·exact⟨h1,oj,hoj,e,he,h3.1,h3.2.imp id (aN _)⟩
    ·obtain⟨a,b,c,d,hd,f,g⟩:=h j hj
     exact⟨a,b,c,d,hd,f,g.imp id (aN _)⟩
   ·exact h
  ·exact h
def Cn (tr:List Nat) (ops:Array Oper) (listed:Array Bool) (i:Nat):Bool:=
 match ops[i]? with
 |none=>true
 |some oi=>(fun B=>(List.range ops.size).all fun j=>match ops[j]? with
  |none=>true
  |some oj=>j==i||listed.getD j true||List.contains B j||Aj tr ops oi oj) (qu ops listed i (List.range ops.size) [])
theorem jH {i:Nat} {oi:Oper} {listed:Array Bool} (hi:ops[i]?=some oi) (h:Cn tr ops listed i=true):FreeAt tr .any ops listed i oi:=by
 unfold Cn at h
 simp only[hi,aU,cz] at h
 refine⟨qu ops listed i (List.range ops.size) [],sh _ _ (fun _ h=>by cases h),fun j oj hj hji hl hno=>?_⟩
 have hlt:j<ops.size:=(aX.1 hj).1
 have:=h j hlt
 simp only[hj,hl,dx,js,hji,false_or,aS,fZ,bi] at this
 exact this.resolve_left hno
def pM (tr:List Nat) (ops:Array Oper):Nat→Nat→Array Bool→Bool
 |0,_,listed=>(Region.ready .any ops listed).isEmpty
 |fuel+1,k,listed=>(Region.ready .any ops listed).contains k&&Cn tr ops listed k&&pM tr ops fuel (k+1) (listed.setIfInBounds k true)
def yq (tr:List Nat) (ops:Array Oper):List Nat→Array Bool→Bool
 |[],listed=>(Region.ready .any ops listed).isEmpty
 |k::r,listed=>(Region.ready .any ops listed).contains k&&Cn tr ops listed k&&yq tr ops r (listed.setIfInBounds k true)
def jv (tr:List Nat) (ops:Array Oper):List Nat→Array Bool→Option (Array Bool)
 |[],listed=>some listed
 |k::r,listed=>if(Region.ready .any ops listed).contains k&&Cn tr ops listed k then jv tr ops r (listed.setIfInBounds k true) else none
def jb (ops:Array Oper) (ks:List Nat):List Oper:=ks.filterMap fun k=>ops[k]?
theorem tM {K:S→Prop}:∀ (ks:List Nat) (listed:Array Bool) (s:S),(∀ k∈ks,∃ o,ops[k]?=some o∧j6 tr o=false)→
 yq tr ops ks listed=true→ea P G tr ops (jb ops ks) s K→Ai P G tr .any ops K ks.length listed s
 |[],_,_,_,hB,h=>⟨by simpa[yq] using hB,h⟩
 |k::r,listed,s,hA,hB,h=>by
  obtain⟨o,ho,hAN⟩:=hA k (aR ..)
  simp only[yq,aF] at hB
  obtain⟨⟨hr,hf⟩,hB'⟩:=hB
  simp only[jb,er,ho,ea] at h
  obtain⟨e,he,hK⟩:=fi (K:=fun s'=>ea P G tr ops (jb ops r) s' K) hAN h
  exact rk ho r.length listed s (jH ho hf) (by simpa using hr) he
   (tM r _ _ (fun k hk=>hA k (aN _ hk)) hB' hK)
theorem Co {K K0:S→Prop} (m:Nat) (listed':Array Bool) (hK0:∀ s',K0 s'→Ai P G tr .any ops K m listed' s'):∀ (ks:List Nat) (listed:Array Bool) (s:S),(∀ k∈ks,∃ o,ops[k]?=some o∧j6 tr o=false)→
 jv tr ops ks listed=some listed'→ea P G tr ops (jb ops ks) s K0→Ai P G tr .any ops K (m+ks.length) listed s
 |[],listed,s,_,hB,h=>by simp only[jv,am] at hB;subst hB;exact hK0 _ h
 |k::r,listed,s,hA,hB,h=>by
  obtain⟨o,ho,hAN⟩:=hA k (aR ..)
  unfold jv at hB
  split at hB
  ·rename_i hc
   simp only[aF] at hc
   obtain⟨hr,hf⟩:=hc
   simp only[jb,er,ho,ea] at h
   obtain⟨e,he,hK⟩:=fi (K:=fun s'=>ea P G tr ops (jb ops r) s' K0) hAN h
   have:=rk ho (m+r.length) listed s (jH ho hf) (by simpa using hr) he
    (Co m listed' hK0 r _ _ (fun k hk=>hA k (aN _ hk)) hB hK)
   simpa[cO] using this
  ·cases hB
def yr (tr:List Nat) (ops:Array Oper):Bool:=ops.toList.all (fun o=>!j6 tr o)&&match jv tr ops (List.range (jm ops)) (Array.replicate ops.size false) with
 |some listed=>(Region.ready .any ops listed).all (fun k=>k==jm ops||k==jm ops+1)&&(Region.ready .any ops listed).contains (jm ops)&&decide (jm ops+1<ops.size)&&
   yq tr ops ((List.range ops.size).drop (jm ops+1)) (listed.setIfInBounds (jm ops) true)&&yq tr ops (jm ops::(List.range ops.size).drop (jm ops+2)) (listed.setIfInBounds (jm ops+1) true)
 |none=>false
theorem m6 (i m:Nat) (h:i+m≤ops.size):jb ops (List.range' i m)=(ops.toList.drop i).take m:=by
 induction m generalizing i with
 |zero=>simp[jb]
 |succ m ih=>
  have hi:i<ops.size:=by omega
  have ih':=ih (i+1) (by omega)
  unfold jb at ih' ⊢
  have hd:ops.toList.drop i=ops[i]::ops.toList.drop (i+1):=by
   rw[cm (by simpa using hi)];simp
  rw[fH,er,ax hi,hd,eu]
  simp only
  rw[ih']
theorem pN (hok:iW n ops=true) (hdr:yr tr ops=true) {K:S→Prop} (hK:∀ a w s,K s→SE G n I0 M w0 s a w→Q .normal a w)
 (h:BF P G tr ops s K) (hse:SE G n I0 M w0 s a w):wpAny P .any ops Q ops.size (Array.replicate ops.size false) a { w with drawn:=w.drawn+1 }:=by
 unfold yr at hdr
 simp only[aF,aU,dI] at hdr
 obtain⟨hA,hdr⟩:=hdr
 have hA':∀ k,k<ops.size→∃ o,ops[k]?=some o∧j6 tr o=false:=fun k hk=>⟨ops[k],ax hk,hA _ (by simp)⟩
 split at hdr
 ·rename_i listed hpre
  simp only[aF,bi] at hdr
  obtain⟨⟨⟨⟨hall,hmem⟩,hsz⟩,hl1⟩,hl2⟩:=hdr
  generalize hi:jm ops=i at *
  unfold BF at h
  rw[hi] at h
  have hr0:List.range i=List.range' 0 i:=dJ
  have hpreN:jb ops (List.range i)=ops.toList.take i:=by
   rw[hr0,m6 0 i (by omega)];rfl
  have hdN1:(List.range ops.size).drop (i+1)=List.range' (i+1) (ops.size - (i+1)):=by
   rw[dJ,List.drop_range'];simp
  have hdN2:(List.range ops.size).drop (i+2)=List.range' (i+2) (ops.size - (i+2)):=by
   rw[dJ,List.drop_range'];simp
  have hci:ops.toList.drop i=ops[i]::ops[i+1]::ops.toList.drop (i+2):=by
   rw[cm (by simp;omega),cm (i:=i+1) (by simp;omega)];simp
  have hn1:jb ops ((List.range ops.size).drop (i+1))=ops[i+1]::ops.toList.drop (i+2):=by
   rw[hdN1,m6 _ _ (by omega)]
   rw[dY (by simp),cm (by simp;omega)];simp
  have hn2:jb ops ((List.range ops.size).drop (i+2))=ops.toList.drop (i+2):=by
   rw[hdN2,m6 _ _ (by omega)]
   exact dY (by simp)
  have key:Ai P G tr .any ops K ((ops.size - (i+1)+1)+(List.range i).length) (Array.replicate ops.size false) s:=by
   rw[← hpreN] at h
   refine Co _ listed (fun s' hs'=>?_) (List.range i) _ s (fun k hk=>hA' k (by have:=cz.1 hk;omega)) hpre h
   obtain⟨h1,h2⟩:=hs'
   rw[hci] at h1 h2
   simp only[UH] at h2
   refine⟨fun h0=>(by rw[h0] at hmem;cases hmem),fun k hk=>?_⟩
   have hk':=aU.1 hall k hk
   simp only[dx,js] at hk'
   obtain⟨oi,hoi,hAi⟩:=hA' i (by omega)
   obtain⟨oj,hoj,hAj⟩:=hA' (i+1) hsz
   rcases hk' with rfl | rfl
   ·unfold m4
    simp only[hoi]
    rw[show ops[k]=oi from by rw[ax (by omega)] at hoi;simpa using hoi] at h1
    simp only[ea] at h1
    obtain⟨e,he,hK'⟩:=fi (K:=fun s'=>ea P G tr ops (ops[k+1]::ops.toList.drop (k+2)) s' K) hAi h1
    refine⟨e,he,?_⟩
    have:=tM (K:=K) ((List.range ops.size).drop (k+1)) (listed.setIfInBounds k true) _ (fun q hq=>hA' q (by have:=cz.1 (ct hq);exact this)) hl1 (by rw[hn1];exact hK')
    simpa using this
   ·unfold m4
    simp only[hoj]
    rw[show ops[i+1]=oj from by rw[ax hsz] at hoj;simpa using hoj] at h2
    simp only[ea] at h2
    obtain⟨e,he,hK'⟩:=fi (K:=fun s'=>ea P G tr ops (ops[i]::ops.toList.drop (i+2)) s' K) hAj h2
    refine⟨e,he,?_⟩
    have:=tM (K:=K) (i::(List.range ops.size).drop (i+2)) (listed.setIfInBounds (i+1) true) _ (fun q hq=>hA' q (by
     rcases bw.1 hq with rfl | hq
     ·omega
     ·exact cz.1 (ct hq))) hl2 (by
     unfold jb
     rw[er,ax (show i<ops.size by omega)]
     simp only
     have:=hn2
     unfold jb at this
     rw[this];exact hK')
    have e1:(i::(List.range ops.size).drop (i+2)).length=ops.size - (i+1):=by simp;omega
    rw[e1] at this;exact this
  have hse':SE G n I0 M w0 s a { w with drawn:=w.drawn+1 }:=by
   obtain⟨I,β,ob,hst⟩:=hse
   exact⟨I,β,ob,hst.drew⟩
  have e2:(ops.size - (i+1)+1)+(List.range i).length=ops.size:=by simp;omega
  rw[e2] at key
  exact m5 hok hK _ _ _ _ _ key hse'
 ·cases hdr
def tN (tr:List Nat) (ops:Array Oper):Bool:=ops.toList.all (fun o=>!j6 tr o)&&pM tr ops ops.size 0 (Array.replicate ops.size false)
theorem Cp {K:S→Prop}:∀ (l:List Oper) (k:Nat) (listed:Array Bool) (s:S),(∀ o∈l,j6 tr o=false)→(∀ j,l[j]?=ops[k+j]?)→
 pM tr ops l.length k listed=true→ea P G tr ops l s K→Ai P G tr .any ops K l.length listed s
 |[],_,_,_,_,_,hB,h=>⟨by simpa[pM] using hB,h⟩
 |o::l,k,listed,s,hA,hl,hB,h=>by
  have h0:ops[k]?=some o:=by simpa using(hl 0).symm
  simp only[aC,pM,aF] at hB
  obtain⟨⟨hr,hf⟩,hB'⟩:=hB
  simp only[ea] at h
  obtain⟨e,he,hK⟩:=fi (K:=fun s'=>ea P G tr ops l s' K) (hA o (aR ..)) h
  exact rk h0 l.length listed s (jH h0 hf) (by simpa using hr) he
   (Cp l (k+1) _ _ (fun o ho=>hA o (aN _ ho)) (fun j=>by have:=hl (j+1);simpa[cO,j4 1 j] using this) hB' hK)
theorem pu (hok:iW n ops=true) (hdr:tN tr ops=true) {K:S→Prop} (hK:∀ a w s,K s→SE G n I0 M w0 s a w→Q .normal a w)
 (h:ea P G tr ops ops.toList s K) (hse:SE G n I0 M w0 s a w):wpAny P .any ops Q ops.size (Array.replicate ops.size false) a { w with drawn:=w.drawn+1 }:=by
 simp only[tN,aF,aU,dI] at hdr
 have h1:=Cp (K:=K) ops.toList 0 (Array.replicate ops.size false) s hdr.1 (by simp) (by simpa using hdr.2) h
 have hse':SE G n I0 M w0 s a { w with drawn:=w.drawn+1 }:=by
  obtain⟨I,β,ob,hst⟩:=hse
  exact⟨I,β,ob,hst.drew⟩
 have:=m5 hok hK _ _ _ _ _ h1 hse'
 simpa using this
theorem tO {id:Nat} (hm:P.follows .mixedOrders=true) (hok:iW n ops=true) (hdr:yr tr ops=true) {K:S→Prop} (hK:∀ a w s,K s→SE G n I0 M w0 s a w→Q .normal a w)
 (h:BF P G tr ops s K) (hse:SE G n I0 M w0 s a w):(Code.region id ops true).wp P Q a w:=wp_region_any hm (pN hok hdr hK h hse)
theorem si {id:Nat} (hm:P.follows .mixedOrders=true) (hok:iW n ops=true) (hdr:tN tr ops=true) {K:S→Prop} (hK:∀ a w s,K s→SE G n I0 M w0 s a w→Q .normal a w)
 (h:ea P G tr ops ops.toList s K) (hse:SE G n I0 M w0 s a w):(Code.region id ops true).wp P Q a w:=wp_region_any hm (pu hok hdr hK h hse)
def uA (P:Program) (G:Gl) (tr:List Nat) (ops:Array Oper) (L1:Array Bool) (K0:S→Prop):Nat→Array Bool→S→Prop
 |0,listed,s=>listed=L1∧K0 s
 |fuel+1,listed,s=>Region.ready .any ops listed≠[]∧∀ i∈Region.ready .any ops listed,m4 P G tr ops i (uA P G tr ops L1 K0 fuel (listed.setIfInBounds i true)) s
def sj (ops:Array Oper) (m:Nat):Bool:=(List.range ops.size).all fun j=>decide (j<m)||match ops[j]? with
 |some o=>(List.range m).all fun k=>o.after.any fun e=>Region.binds .any e&&(e.on==k)
 |none=>true
theorem Al {m:Nat} (h:sj ops m=true) {j k:Nat} {oj:Oper} (hj:ops[j]?=some oj) (hm:m≤j) (hk:k<m):∃ e∈oj.after,Region.binds .any e=true∧e.on=k:=by
 unfold sj at h
 rw[aU] at h
 have h1:=h j (cz.2 (aX.1 hj).1)
 simp only[hj,dx,bi] at h1
 have h2:=aU.1 (h1.resolve_left (by omega)) k (cz.2 hk)
 rw[Array.any_eq_true'] at h2
 obtain⟨e,he,h3⟩:=h2
 simp only[aF,js] at h3
 exact⟨e,he,h3.1,h3.2⟩
theorem wd {m q j:Nat} (h:(mI m q).getD j true=false):m≤j:=by
 rcases cx j m with hj | hj
 ·exfalso
  unfold mI at h
  rw[ao,cv,aB (by simpa using hj)] at h
  simp[hj] at h
 ·exact hj
theorem yt {m q j:Nat} (h:(mI m q).getD j false=true):j<m:=by
 rcases cx j m with hj | hj
 ·exact hj
 ·exfalso
  unfold mI at h
  rw[ao,cv,aH (by simpa using hj),List.getElem?_replicate] at h
  split at h<;>simp at h
theorem Cq {K0:S→Prop} {m:Nat} (haw:sj ops m=true) {i:Nat} {oi:Oper} {e:Ef} (hi:ops[i]?=some oi) :
 ∀ (fuel:Nat) (listed:Array Bool) (s:S),listed.size=ops.size→FreeAt tr .any ops listed i oi→
  i∈Region.ready .any ops listed→TEf P G tr ops oi s e→
  uA P G tr ops (mI m ops.size) K0 fuel (listed.setIfInBounds i true) (e.run tr oi s)→uA P G tr ops (mI m ops.size) K0 (fuel+1) listed s:=by
 intro fuel
 induction fuel with
 |zero=>
  intro listed s hsz _ hr hy H
  refine⟨fun h=>(by rw[h] at hr;cases hr),fun j hj=>?_⟩
  by_cases hji:j=i
  ·subst hji;unfold m4;simp only[hi];exact⟨e,hy,H⟩
  ·exfalso
   obtain⟨hun,oj,hoj,hall⟩:=gw.1 hj
   have hil:i<listed.size:=by rw[hsz];exact(aX.1 hi).1
   have h1:(mI m ops.size).getD j true=false:=by rw[← H.1,jU true (fp hji)];exact hun
   have h2:(mI m ops.size).getD i false=true:=by
    rw[← H.1,ao,Array.getElem?_setIfInBounds_self_of_lt hil];rfl
   obtain⟨ed,hed,hb,hon⟩:=Al haw hoj (wd h1) (yt h2)
   have h3:=hall ed hed hb
   rw[hon] at h3
   have h4:=(gw.1 hr).1
   rw[ao,ax hil] at h3 h4
   simp only[bM] at h3 h4
   rw[h4] at h3;cases h3
 |succ fuel ih=>
  intro listed s hsz hfree hr hy H
  refine⟨fun h=>(by rw[h] at hr;cases hr),fun j hj=>?_⟩
  by_cases hji:j=i
  ·subst hji;unfold m4;simp only[hi];exact⟨e,hy,H⟩
  ·have h1:=H.2 j (iT hj hji)
   obtain⟨_,oj,hoj,_⟩:=gw.1 hj
   obtain⟨hap,hfree'⟩:=hfree.step hr hj hji hoj
   unfold m4 at h1 ⊢
   simp only[hoj] at h1 ⊢
   obtain⟨f,hf,hK⟩:=h1
   have hf':=hy.back hap hf
   refine⟨f,hf',ih (listed.setIfInBounds j true) _ (by rw[cP];exact hsz) hfree' (iT hr (fp hji)) (hy.keep hap hf') ?_⟩
   rw[fN _ _ hji,← pL hap hy hf']
   exact hK
theorem yu {K0:S→Prop} {m:Nat} (haw:sj ops m=true):∀ (ks:List Nat) (listed:Array Bool) (s:S),listed.size=ops.size→(∀ k∈ks,∃ o,ops[k]?=some o∧j6 tr o=false)→
 jv tr ops ks listed=some (mI m ops.size)→ea P G tr ops (jb ops ks) s K0→uA P G tr ops (mI m ops.size) K0 ks.length listed s
 |[],listed,s,_,_,hB,h=>by simp only[jv,am] at hB;exact⟨hB,h⟩
 |k::r,listed,s,hsz,hA,hB,h=>by
  obtain⟨o,ho,hAN⟩:=hA k (aR ..)
  unfold jv at hB
  split at hB
  ·rename_i hc
   simp only[aF] at hc
   obtain⟨hr,hf⟩:=hc
   simp only[jb,er,ho,ea] at h
   obtain⟨e,he,hK⟩:=fi (K:=fun s'=>ea P G tr ops (jb ops r) s' K0) hAN h
   exact Cq haw ho r.length listed s hsz (jH ho hf) (by simpa using hr) he
    (yu haw r _ _ (by rw[cP];exact hsz) (fun k hk=>hA k (aN _ hk)) hB hK)
  ·cases hB
theorem GI {K:S→Prop} {KW:Act→World→Prop} {i:Nat} {oi:Oper} {e:Ef} (hok:iW n ops=true) (hi:ops[i]?=some oi) (he:TEf P G tr ops oi s e) (hse:SE G n I0 M w0 s a w)
 (hK:K (e.run tr oi s)) (hKW:∀ a w s,K s→SE G n I0 M w0 s a w→KW a w):wpOp P ops Q i KW a w:=by
 unfold wpOp
 simp only[hi]
 have hmem:oi∈ops.toList:=by
  have:=eA hi
  simpa using this
 obtain⟨I,β,ob,hst⟩:=hse
 rcases he with⟨hg,hv,_⟩ | ⟨hg,rfl⟩
 ·rw[if_pos (jk hst hg)]
  exact .inl (qo hst (ew hok hmem) hv fun a' w' hse'=>hKW _ _ _ hK hse')
 ·rw[jk hst hg]
  simp only[aS,cX]
  rw[pJ] at hK
  exact hKW _ _ _ hK (SE.put hst (ew hok hmem) (by simp only[LR];exact .sk))
theorem pO (hok:iW n ops=true) {K0:S→Prop} {L1:Array Bool} {r:Nat} (hK:∀ a w s,K0 s→SE G n I0 M w0 s a w→wpAny P .any ops Q r L1 a w):∀ (fuel:Nat) (listed:Array Bool) (s:S) (a:Act) (w:World),
 uA P G tr ops L1 K0 fuel listed s→SE G n I0 M w0 s a w→wpAny P .any ops Q (r+fuel) listed a w
 |0,listed,_,a,w,h,hse=>by obtain⟨rfl,h⟩:=h;exact hK _ _ _ h hse
 |fuel+1,_,s,a,w,h,hse=>by
  refine⟨fun h0=>absurd h0 h.1,fun i hi=>?_⟩
  have hh:=h.2 i hi
  obtain⟨_,oi,hoi,_⟩:=gw.1 hi
  unfold m4 at hh
  simp only[hoi] at hh
  obtain⟨e,he,hh⟩:=hh
  exact GI hok hoi he hse hh fun a w s hs hse=>pO hok hK fuel _ s a w hs hse
def GK (Q:Exit→Act→World→Prop):Exit→Act→World→Prop:=fun e a w=>e=.normal∧Q e a w
theorem tP {Q:Exit→Act→World→Prop}:¬ LetsOut (GK Q):=fun⟨_,_,h,_⟩=>by cases h
theorem xJ {l:Option Nat} {m:Nat} {id:Nat} (hm:P.follows .mixedOrders=true) (hnd:vQ ops=true) (hok:iW n ops=true) (hdr:yr tr ops=true) {K:S→Prop} (hK:∀ a w s,K s→SE G n I0 M w0 s a w→Q .normal a w)
 (h:BF P G tr ops s K) (hse:SE G n I0 M w0 s a w):(Code.region id ops true).wpIn (FW l) m P Q a w:=
 wpIn_mono (Q:=GK Q) (wpIn_region_any hm (rY hnd tP _ _ _ _ (pN hok hdr (fun a w s hk hse=>⟨rfl,hK a w s hk hse⟩) h hse))) (fun _ _ _ h=>h.2)
theorem we {l:Option Nat} {m:Nat} {id:Nat} (hm:P.follows .mixedOrders=true) (hnd:vQ ops=true) (hok:iW n ops=true) (hdr:tN tr ops=true) {K:S→Prop} (hK:∀ a w s,K s→SE G n I0 M w0 s a w→Q .normal a w)
 (h:ea P G tr ops ops.toList s K) (hse:SE G n I0 M w0 s a w):(Code.region id ops true).wpIn (FW l) m P Q a w:=
 wpIn_mono (Q:=GK Q) (wpIn_region_any hm (rY hnd tP _ _ _ _ (pu hok hdr (fun a w s hk hse=>⟨rfl,hK a w s hk hse⟩) h hse))) (fun _ _ _ h=>h.2)
