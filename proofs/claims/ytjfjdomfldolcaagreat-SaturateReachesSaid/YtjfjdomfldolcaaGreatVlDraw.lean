/- Values without memory: regions that draw their order: an operation's effect. -/
import Derived.Test.YtjfjdomfldolcaaGreatVlCode
import Derived.Orders
set_option linter.all false
namespace Go.Vl
open Go Go.RowKit
section
variable {P:Program} {G:Gl} {tr:List Nat} {s:S} {o:Oper} {x y:V} {K:V→Prop}
theorem yN {op:BinOp} {k:IntKind} {a b:Int} (h:pA op k a b K):∃ v,pA op k a b (fun u=>v=u)∧K v:=by
 cases op<;>simp only[pA] at h ⊢<;>first | exact⟨_,rfl,h⟩ | exact⟨_,⟨h.1,rfl⟩,h.2⟩
theorem Od {op:BinOp} {a b:ByteArray} (h:EP op a b K):∃ v,EP op a b (fun u=>v=u)∧K v:=by
 cases op<;>simp only[EP] at h ⊢<;>first | exact h.elim | exact⟨_,rfl,h⟩ | exact⟨_,⟨h.1,rfl⟩,h.2⟩
theorem Oe {op:BinOp} {T:TypeId} (h:lv P op T x y K):∃ v,lv P op T x y (fun u=>v=u)∧K v:=by
 unfold lv at h
 split at h
 ·split at h
  ·exact yN h
  ·exact yN h
  ·rename_i h1 h2
   split at h
   ·rename_i hk
    obtain⟨v,hv,hK⟩:=yN h
    refine⟨v,?_,hK⟩
    unfold lv
    simp only[if_pos hk]
    first | exact hv | (split<;>first | exact hv | simp_all)
   ·exact h.elim
 ·exact Od h
 ·split at h
  ·rename_i hi
   split at h
   ·exact⟨_,by simp only[lv,hi],h⟩
   ·exact⟨_,by simp only[lv,hi],h⟩
   ·exact h.elim
  ·exact h.elim
 ·split at h
  ·rename_i hi
   split at h
   ·rename_i hr
    obtain⟨hl,h⟩:=h
    split at h
    ·exact⟨_,by simp only[lv,hi,hr];exact⟨hl,trivial⟩,h⟩
    ·exact⟨_,by simp only[lv,hi,hr];exact⟨hl,trivial⟩,h⟩
    ·exact h.elim
   ·exact h.elim
  ·exact h.elim
 ·exact h.elim
theorem QW {op:UnOp} (h:vun op x K):∃ v,vun op x (fun u=>v=u)∧K v:=by
 unfold vun at h
 split at h<;>first | exact h.elim | exact⟨_,rfl,h⟩
theorem sI {ag:Bool} {sz off:Nat} {cs:List C} (h:dC ag sz off cs K):∃ v,dC ag sz off cs (fun u=>v=u)∧K v:=by
 unfold dC at h
 split at h
 ·rename_i kT;exact⟨_,by unfold dC;rw[if_pos kT];exact⟨h.1,rfl⟩,h.2⟩
 ·rename_i kT
  split at h
  ·rename_i c hc;exact⟨_,by unfold dC;rw[if_neg kT,hc],h⟩
  ·exact h.elim
theorem Km {ag:Bool} {sz off:Nat} {vs:List V} (h:zm ag sz off vs K):∃ v,zm ag sz off vs (fun u=>v=u)∧K v:=by
 unfold zm at h
 split at h
 ·rename_i kT;exact⟨_,by unfold zm;rw[if_pos kT];exact⟨h.1,rfl⟩,h.2⟩
 ·rename_i kT
  split at h
  ·rename_i c hc;exact⟨_,by unfold zm;rw[if_neg kT,hc],h⟩
  ·exact h.elim
theorem Kn {T:TypeId} (h:dh P T s x K):∃ v,dh P T s x (fun u=>v=u)∧K v:=by
 unfold dh at h
 split at h
 ·rename_i hi
  obtain⟨v,h1,h2⟩:=sI h
  exact⟨v,by unfold dh;rw[hi];exact h1,h2⟩
 ·rename_i i b k hi
  obtain⟨hb,h⟩:=h
  split at h
  ·rename_i kT
   exact⟨_,by unfold dh;rw[hi];refine⟨hb,?_⟩;rw[if_pos kT];exact⟨h.1,rfl⟩,h.2⟩
  ·rename_i kT
   split at h
   ·rename_i c hc
    exact⟨_,by unfold dh;rw[hi];refine⟨hb,?_⟩;rw[if_neg kT,hc],h⟩
   ·exact h.elim
 ·rename_i hi
  rcases h with⟨h1,b,k,len,cap,E,es,c,h2,h⟩ | ⟨b,k,len,cap,E,es,h2,h⟩
  ·exact⟨_,by unfold dh;simp only[hi];exact .inl ⟨h1,b,k,len,cap,E,es,c,h2,rfl⟩,h⟩
  ·obtain⟨v,h3,h4⟩:=sI h
   exact⟨v,by unfold dh;simp only[hi];exact .inr ⟨b,k,len,cap,E,es,h2,h3⟩,h4⟩
 ·exact h.elim
theorem Al {T:TypeId} {f:Nat} (h:bf P T x f K):∃ v,bf P T x f (fun u=>v=u)∧K v:=by
 unfold bf at h
 split at h
 ·rename_i i hi
  split at h
  ·rename_i hf;exact⟨_,by unfold bf;simp only[hi,hf];exact⟨h.1,trivial⟩,h.2⟩
  ·rename_i hf;exact⟨_,by unfold bf;simp only[hi,hf];exact⟨h.1,trivial⟩,h.2⟩
  ·rename_i hf;exact⟨_,by unfold bf;simp only[hi,hf];exact⟨h.1,trivial⟩,h.2⟩
  ·exact h.elim
 ·exact h.elim
theorem G8 {T:TypeId} {f:Nat} (h:oG P T x f K):∃ v,oG P T x f (fun u=>v=u)∧K v:=by
 unfold oG at h
 split at h
 ·rename_i hi
  split at h
  ·rename_i hf
   obtain⟨v,h1,h2⟩:=sI h
   exact⟨v,by unfold oG;simp only[hi,hf];exact h1,h2⟩
  ·exact h.elim
 ·rename_i hi
  split at h
  ·rename_i hf
   obtain⟨v,h1,h2⟩:=Km h
   exact⟨v,by unfold oG;simp only[hi,hf];exact h1,h2⟩
  ·exact h.elim
 ·exact h.elim
theorem Am {T:TypeId} (h:cE P T x y K):∃ v,cE P T x y (fun u=>v=u)∧K v:=by
 unfold cE at h
 split at h
 ·rename_i hi
  split at h
  ·rename_i hj
   obtain⟨h0,h⟩:=h
   split at h
   ·rename_i hc
    exact⟨_,by unfold cE;simp only[hi,hj,hc];exact⟨h0,h.1,trivial⟩,h.2⟩
   ·exact h.elim
  ·exact h.elim
 ·rename_i hi
  split at h
  ·rename_i hj
   exact⟨_,by unfold cE;simp only[hi,hj];exact⟨h.1,trivial⟩,h.2⟩
  ·exact h.elim
 ·rename_i hi
  split at h
  ·rename_i hj
   exact⟨_,by unfold cE;simp only[hi,hj];exact⟨h.1,trivial⟩,h.2⟩
  ·exact h.elim
 ·rename_i hi
  split at h
  ·rename_i hj
   exact⟨_,by unfold cE;simp only[hi,hj];exact⟨h.1,trivial⟩,h.2⟩
  ·exact h.elim
 ·rename_i hi
  split at h
  ·rename_i hj
   exact⟨_,by unfold cE;simp only[hi,hj];exact⟨h.1,trivial⟩,h.2⟩
  ·exact h.elim
 ·exact h.elim
theorem G9 {T:TypeId} (h:sC P T x y K):∃ v,sC P T x y (fun u=>v=u)∧K v:=by
 unfold sC at h
 split at h
 ·rename_i hi
  obtain⟨h0,h⟩:=h
  split at h
  ·rename_i hc
   exact⟨_,by unfold sC;simp only[hi,hc];exact⟨h0,trivial⟩,h⟩
  ·exact h.elim
 ·rename_i hi
  split at h
  ·rename_i hj
   obtain⟨v,h1,h2⟩:=sI h.2
   exact⟨v,by unfold sC;simp only[hi,hj];exact⟨h.1,h1⟩,h2⟩
  ·exact h.elim
 ·exact h.elim
theorem Ha {T:TypeId} {lo hi mx:Option V} (h:kI P T x lo hi mx K):∃ v,kI P T x lo hi mx (fun u=>v=u)∧K v:=by
 unfold kI at h
 split at h
 ·rename_i ht
  split at h
  ·rename_i e1 e2
   exact⟨_,by unfold kI;simp only[ht,e1,e2];exact⟨h.1,trivial⟩,h.2⟩
  ·exact h.elim
 ·rename_i ht
  split at h
  ·split at h
   ·rename_i e1 e2 e3
    exact⟨_,by unfold kI;simp only[ht,e1,e2,e3];exact⟨h.1,trivial⟩,h.2⟩
   ·exact h.elim
  ·split at h
   ·rename_i e1 e2
    exact⟨_,by unfold kI;simp only[ht,e1,e2];exact⟨h.1,trivial⟩,h.2⟩
   ·exact h.elim
  ·exact h.elim
 ·rename_i ht
  split at h
  ·rename_i e1 e2 e3 e4
   exact⟨_,by unfold kI;simp only[ht,e1,e2,e3,e4];exact⟨h.1,trivial⟩,h.2⟩
  ·exact h.elim
 ·rename_i ht
  split at h
  ·rename_i e1 e2 e3 e4
   exact⟨_,by unfold kI;simp only[ht,e1,e2,e3,e4];exact⟨h.1,trivial⟩,h.2⟩
  ·exact h.elim
 ·rename_i ht
  split at h
  ·rename_i e1
   exact⟨_,by unfold kI;simp only[ht,e1];exact⟨h.1,trivial⟩,h.2⟩
  ·exact h.elim
 ·rename_i ht
  split at h
  ·rename_i e1 e2 e3
   exact⟨_,by unfold kI;simp only[ht,e1,e2,e3];exact⟨h.1,trivial⟩,h.2⟩
  ·exact h.elim
 ·exact h.elim
theorem Of {T:TypeId} (h:GH P T x K):∃ v,GH P T x (fun u=>v=u)∧K v:=by
 unfold GH at h
 split at h
 ·rename_i e1
  split at h
  ·rename_i e2;exact⟨_,by unfold GH;simp only[e1,e2];exact⟨h.1,trivial⟩,h.2⟩
  ·exact h.elim
 ·exact h.elim
theorem Ko {src dst:TypeId} (h:qG P src dst x K):∃ v,qG P src dst x (fun u=>v=u)∧K v:=by
 unfold qG at h
 split at h
 ·rename_i e1 e2;exact⟨_,by unfold qG;simp only[e1,e2],h⟩
 ·rename_i e1 e2;exact⟨_,by unfold qG;simp only[e1,e2],h⟩
 ·rename_i e1 e2
  split at h
  ·rename_i e3;exact⟨_,by unfold qG;simp only[e1,e2,e3],h⟩
  ·exact h.elim
 ·rename_i e1 e2
  split at h
  ·rename_i e3
   split at h
   ·rename_i e4;exact⟨_,by unfold qG;simp only[e1,e2,e3,e4],h⟩
   ·exact h.elim
  ·exact h.elim
 ·exact h.elim
theorem Hb {T:TypeId} {parts:List (Nat×V)} (h:jC P T parts K):∃ v,jC P T parts (fun u=>v=u)∧K v:=by
 unfold jC at h
 split at h
 ·rename_i e1
  split at h
  ·rename_i e2;exact⟨_,by unfold jC;simp only[e1,e2],h⟩
  ·rename_i e2
   split at h
   ·rename_i e3;exact⟨_,by unfold jC;simp only[e1,e2,e3],h⟩
   ·exact h.elim
 ·rename_i e1
  split at h
  ·rename_i e2
   split at h
   ·rename_i e3;exact⟨_,by unfold jC;simp only[e1,e2,e3],h⟩
   ·rename_i e3
    split at h
    ·rename_i e4;exact⟨_,by unfold jC;simp only[e1,e2,e3,e4],h⟩
    ·exact h.elim
  ·exact h.elim
 ·exact h.elim
theorem nw {T:TypeId} {len:Nat} {parts:List (Nat×V)} (h:cR P T len parts K):∃ v,cR P T len parts (fun u=>v=u)∧K v:=by
 unfold cR at h
 split at h
 ·rename_i e1
  split at h
  ·rename_i e2
   obtain⟨h0,h⟩:=h
   split at h
   ·rename_i e3;exact⟨_,by unfold cR;simp only[e1,e2,e3];exact⟨h0,trivial⟩,h⟩
   ·exact h.elim
  ·exact h.elim
 ·exact h.elim
theorem Og {T:TypeId} (h:hJ P T x K):∃ v,hJ P T x (fun u=>v=u)∧K v:=by
 unfold hJ at h
 split at h
 all_goals first | exact h.elim | (rename_i e1;exact⟨_,by unfold hJ;simp only[e1],h⟩)
theorem xB {T:TypeId} (h:dN P T x y K):∃ v,dN P T x y (fun u=>v=u)∧K v:=by
 unfold dN at h
 split at h
 ·rename_i e1
  split at h
  ·rename_i e2
   obtain⟨h0,h⟩:=h
   split at h
   ·exact⟨_,by unfold dN;simp only[e1,e2];exact⟨h0,h.1,trivial⟩,h.2⟩
   ·exact h.elim
  ·exact h.elim
 ·exact h.elim
theorem DI {mx:Bool} {l:List V} (h:Ah mx l K):∃ v,Ah mx l (fun u=>v=u)∧K v:=by
 unfold Ah at h
 split at h
 ·exact⟨_,rfl,h⟩
 ·exact h.elim
theorem Kp {f:V} {l:List V} (h:rD P G s f l K):∃ v,rD P G s f l (fun u=>v=u)∧K v:=by
 unfold rD at h
 split at h
 ·split at h
  ·rename_i e1
   obtain⟨r,h1,h2,h3⟩:=h
   exact⟨r,by unfold rD;simp only[e1];exact⟨r,h1,h2,rfl⟩,h3⟩
  ·exact h.elim
 ·split at h
  ·rename_i e1 e2 e3
   obtain⟨r,h1,h2,h3⟩:=h
   exact⟨r,by unfold rD;simp only[e1,e2,e3];exact⟨r,h1,h2,rfl⟩,h3⟩
  ·exact h.elim
 ·exact h.elim
theorem ri {b:Builtin} {ts:List TypeId} {l:List V} (h:eW P b ts l K):∃ v,eW P b ts l (fun u=>v=u)∧K v:=by
 unfold eW at h
 split at h
 ·exact Og h
 ·split at h
  ·rename_i ht
   obtain⟨v,h1,h2⟩:=xB h
   exact⟨v,by unfold eW;simp only[if_pos ht];exact h1,h2⟩
  ·rename_i ht
   unfold qH at h
   split at h
   ·rename_i e0 e1 e2
    split at h
    ·rename_i e3
     obtain⟨h0,h⟩:=h
     obtain⟨v,h1,h2⟩:=xB h
     exact⟨v,by unfold eW qH;simp only[if_neg ht,e0,e1,e2,e3];exact⟨h0,h1⟩,h2⟩
    ·exact h.elim
   ·exact h.elim
 ·exact DI h
 ·exact DI h
 ·exact h.elim
theorem Hd {bx:Nat→List V} {nb:Nat} {f:V} {l:List V} {K:(Nat→List V)→Nat→V→Prop} (h:ke P G bx nb f l K):∃ bx' nb' v,ke P G bx nb f l (fun b n u=>(bx'=b∧nb'=n)∧v=u)∧K bx' nb' v:=by
 unfold ke at h
 split at h
 ·rename_i g all e1
  obtain⟨ρ,cargs,b0,r,b1,h1,h2,h3,h4,h5⟩:=h
  exact⟨_,_,_,by unfold ke;simp only[e1];exact⟨ρ,cargs,b0,r,b1,h1,h2,h3,h4,⟨rfl,rfl⟩,rfl⟩,h5⟩
 ·exact h.elim
theorem Bi {bx:Nat→List V} {nb n m:Nat} {K:(Nat→List V)→Nat→V→Prop} (h:A3 bx nb n m K x):∃ bx' nb' v,A3 bx nb n m (fun b n u=>(bx'=b∧nb'=n)∧v=u) x∧K bx' nb' v:=by
 unfold A3 at h
 split at h
 ·exact⟨_,_,_,⟨⟨rfl,rfl⟩,rfl⟩,h⟩
 ·exact h.elim
theorem Kq {T:TypeId} {K:Nat→Nat→Nat→List C→Prop} (h:rE P T x y K):∃ n m sz z,rE P T x y (fun n' m' sz' z'=>n=n'∧m=m'∧sz=sz'∧z=z')∧K n m sz z:=by
 unfold rE at h
 split at h
 ·rename_i e1
  split at h
  ·rename_i e2
   exact⟨_,_,_,_,by unfold rE;simp only[e1,e2];exact⟨h.1,by simp⟩,h.2⟩
  ·exact h.elim
 ·exact h.elim
theorem ja {T:TypeId} {K:Nat→List Nat→Nat→List V→Option Nat→V→Prop} (h:ij P T s x y K) :
 ∃ i bs cl r res z,ij P T s x y (fun i' bs' cl' r' res' z'=>i=i'∧bs=bs'∧cl=cl'∧r=r'∧res=res'∧z=z')∧K i bs cl r res z:=by
 unfold ij at h
 split at h
 ·rename_i e1
  split at h
  ·rename_i e2 e3
   split at h
   ·rename_i e4 e5 e6
    split at h
    ·rename_i e7
     split at h
     ·rename_i e8
      exact⟨_,_,_,_,_,_,by unfold ij;simp only[e1,e2,e3,e4,e5,e6,e7,e8];exact⟨h.1,by simp⟩,h.2⟩
     ·exact h.elim
    ·exact h.elim
   ·exact h.elim
  ·exact h.elim
 ·exact h.elim
theorem gA {T:TypeId} {i cl:Nat} {bs:List Nat} {r:List V} {res:Option Nat} {z:V} {K:Nat→List Nat→Nat→List V→Option Nat→V→Prop}
 (h:ij P T s x y (fun i' bs' cl' r' res' z'=>i=i'∧bs=bs'∧cl=cl'∧r=r'∧res=res'∧z=z')) (hK:K i bs cl r res z):ij P T s x y K:=by
 unfold ij at h
 split at h
 ·rename_i e1
  split at h
  ·rename_i e2 e3
   split at h
   ·rename_i e4 e5 e6
    split at h
    ·rename_i e7
     split at h
     ·rename_i e8
      obtain⟨h1,rfl,rfl,rfl,rfl,rfl,rfl⟩:=h
      unfold ij;simp only[e1,e2,e3,e4,e5,e6,e7,e8];exact⟨h1,hK⟩
     ·exact h.elim
    ·exact h.elim
   ·exact h.elim
  ·exact h.elim
 ·exact h.elim
theorem rJ {T:TypeId} {kt et:TypeId} {tT tk te:TI} {ks:List EK} {kc:List C} {k z:V} {i cl:Nat} {bs:List Nat} {r:List V} {kcs:List (List C)} {res:Option Nat} {KM:Nat→List Nat→Nat→List V→Option Nat→V→Prop}
 (hT:ti P T=some tT) (hm:tT.kd=.map kt et) (hk:ti P kt=some tk) (WE:tk.eqs=some ks) (he:ti P et=some te) (hc:k.kcs tk.agg=some kc) (hz:re te=some z) (hb:s.bx i=.mk bs cl::r)
 (hkc:jQ tk.agg r=some kcs) (hf:ng ks kc kcs 0=some res) (hi:i<s.nb) (hl:kc.length=ks.length) (hr:jB ks kc kc=some true) (ha:zaB P et=true) (hK:KM i bs cl r res z):ij P T s (.mr i) k KM:=by
 obtain⟨kd,a1,a2,a3,a4,a5,a6⟩:=tT
 obtain⟨b1,b2,b3,ag,b5,b6,b7⟩:=tk
 simp only at hm WE hc hkc
 subst hm;subst WE
 unfold ij
 simp only[hT,hk,he,hc,hz,hb,hkc,hf]
 exact⟨⟨hi,hl,hr,ha⟩,hK⟩
theorem He {T:TypeId} {K K':Nat→List Nat→Nat→List V→Option Nat→V→Prop} (h:ij P T s x y K) (h':ij P T s x y K'):∃ i bs cl r res z,K i bs cl r res z∧K' i bs cl r res z:=by
 unfold ij at h
 split at h
 ·rename_i e1
  split at h
  ·rename_i e2 e3
   split at h
   ·rename_i e4 e5 e6
    split at h
    ·rename_i e7
     split at h
     ·rename_i e8
      unfold ij at h';simp only[e1,e2,e3,e4,e5,e6,e7,e8] at h'
      exact⟨_,_,_,_,_,_,h.2,h'.2⟩
     ·exact h.elim
    ·exact h.elim
   ·exact h.elim
  ·exact h.elim
 ·exact h.elim
theorem mh {T:TypeId} {s':S} {K:Nat→List Nat→Nat→List V→Option Nat→V→Prop} (hb:s.bx=s'.bx) (hn:s.nb=s'.nb) (h:ij P T s x y K):ij P T s' x y K:=by
 unfold ij at h ⊢
 rw[← hb,← hn];exact h
theorem Fq {T:TypeId} {v:V} {K:S→Prop} (h:iJ P T s x y v K):∃ bx,iJ P T ⟨fun _=>.un,s.bx,s.nb⟩ x y v (fun s'=>bx=s'.bx)∧K { s with bx:=bx }:=by
 unfold iJ at h
 obtain⟨i,bs,cl,r,res,z,h1,h2⟩:=ja h
 cases res with
 |none=>exact⟨_,gA (mh rfl rfl h1) rfl,h2⟩
 |some j=>exact⟨_,gA (mh rfl rfl h1) rfl,h2⟩
theorem Fu {T:TypeId} {v:V} {bx:Nat→List V} (h:iJ P T ⟨fun _=>.un,s.bx,s.nb⟩ x y v (fun s'=>bx=s'.bx)):iJ P T s x y v (fun s'=>{ s with bx:=bx }=s'):=by
 unfold iJ at h
 obtain⟨i,bs,cl,r,res,z,h1,h2⟩:=ja h
 cases res with
 |none=>simp only at h2;subst h2;exact gA (mh rfl rfl h1) rfl
 |some j=>simp only at h2;subst h2;exact gA (mh rfl rfl h1) rfl
theorem Bj {T:TypeId} {K:S→V→Prop} (h:fV P T s x y K):∃ bx v,fV P T ⟨fun _=>.un,s.bx,s.nb⟩ x y (fun s' u=>bx=s'.bx∧v=u)∧K { s with bx:=bx } v:=by
 unfold fV at h
 obtain⟨i,bs,cl,r,res,z,h1,h2⟩:=ja h
 cases res with
 |none=>exact⟨_,_,gA (mh rfl rfl h1) ⟨rfl,rfl⟩,h2⟩
 |some j=>exact⟨s.bx,_,gA (mh rfl rfl h1) ⟨rfl,rfl⟩,h2⟩
theorem pH {T:TypeId} {v:V} {bx:Nat→List V} (h:fV P T ⟨fun _=>.un,s.bx,s.nb⟩ x y (fun s' u=>bx=s'.bx∧v=u)):fV P T s x y (fun s' u=>{ s with bx:=bx }=s'∧v=u):=by
 unfold fV at h
 obtain⟨i,bs,cl,r,res,z,h1,h2⟩:=ja h
 cases res with
 |none=>obtain⟨rfl,rfl⟩:=h2;exact gA (mh rfl rfl h1) ⟨rfl,rfl⟩
 |some j=>obtain⟨rfl,rfl⟩:=h2;exact gA (mh rfl rfl h1) ⟨rfl,rfl⟩
theorem Bl {v:V} {K:S→Prop} (h:fN s x y v K):∃ bx,fN ⟨fun _=>.un,s.bx,s.nb⟩ x y v (fun s'=>bx=s'.bx)∧K { s with bx:=bx }:=by
 unfold fN at h
 split at h
 ·split at h
  ·rename_i e2
   split at h
   ·rename_i e3;exact⟨_,by unfold fN;simp only[e2,e3];exact⟨h.1,trivial⟩,h.2⟩
   ·exact h.elim
  ·exact h.elim
 ·exact h.elim
theorem Bm {v:V} {bx:Nat→List V} (h:fN ⟨fun _=>.un,s.bx,s.nb⟩ x y v (fun s'=>bx=s'.bx)):fN s x y v (fun s'=>{ s with bx:=bx }=s'):=by
 unfold fN at h
 split at h
 ·split at h
  ·rename_i e2
   split at h
   ·rename_i e3;obtain⟨h1,rfl⟩:=h;unfold fN;simp only[show s.bx _=_ from e2,e3];exact⟨h1,trivial⟩
   ·exact h.elim
  ·exact h.elim
 ·exact h.elim
theorem Kr {ts:List TypeId} {xs:List V} {K:S→V→Prop} (h:nm P s K ts xs):∃ bx v,nm P ⟨fun _=>.un,s.bx,s.nb⟩ (fun s' u=>bx=s'.bx∧v=u) ts xs∧K { s with bx:=bx } v:=by
 unfold nm at h
 split at h
 ·split at h
  ·rename_i e1
   split at h
   ·rename_i e2;exact⟨_,_,by unfold nm;simp only[e1,e2];exact⟨h.1,by simp⟩,h.2⟩
   ·exact h.elim
  ·exact h.elim
 ·exact h.elim
theorem Ks {ts:List TypeId} {xs:List V} {bx:Nat→List V} {v:V} (h:nm P ⟨fun _=>.un,s.bx,s.nb⟩ (fun s' u=>bx=s'.bx∧v=u) ts xs):nm P s (fun s' u=>{ s with bx:=bx }=s'∧v=u) ts xs:=by
 unfold nm at h
 split at h
 ·split at h
  ·rename_i e1
   split at h
   ·rename_i e2;obtain⟨h0,rfl,rfl⟩:=h;unfold nm;simp only[e1,e2];exact⟨h0,by simp⟩
   ·exact h.elim
  ·exact h.elim
 ·exact h.elim
theorem W2 {ts:List TypeId} {xs:List V} {K K':S→V→Prop} (h:nm P s K ts xs) (hk:∀ s v,K s v→K' s v):nm P s K' ts xs:=by
 unfold nm at h
 split at h
 ·split at h
  ·rename_i e1
   split at h
   ·rename_i e2;unfold nm;simp only[e1,e2];exact⟨h.1,hk _ _ h.2⟩
   ·exact h.elim
  ·exact h.elim
 ·exact h.elim
theorem C3 {ts:List TypeId} {xs:List V} {K:S→V→Prop} (h:fF P s K ts xs):∃ bx v,fF P ⟨fun _=>.un,s.bx,s.nb⟩ (fun s' u=>bx=s'.bx∧v=u) ts xs∧K { s with bx:=bx } v:=by
 unfold fF at h
 split at h
 ·rename_i b off len cap sz y
  have hi:v8 s y=v8 ⟨fun _=>.un,s.bx,s.nb⟩ y:=by cases y<;>rfl
  split at h
  ·rename_i e1 e2
   split at h
   ·rename_i e3;exact⟨_,_,by unfold fF;rw[hi] at e2;simp only[e1,e2,e3];exact⟨h.1,by simp⟩,h.2⟩
   ·exact h.elim
  ·exact h.elim
 ·split at h
  ·rename_i e1
   split at h
   ·rename_i e2
    obtain⟨b,k,j,E,es,h1,h2⟩:=h
    exact⟨_,_,by unfold fF;simp only[e1,e2];exact⟨b,k,j,E,es,h1,by simp⟩,h2⟩
   ·exact h.elim
  ·exact h.elim
 ·exact h.elim
theorem C4 {ts:List TypeId} {xs:List V} {bx:Nat→List V} {v:V} (h:fF P ⟨fun _=>.un,s.bx,s.nb⟩ (fun s' u=>bx=s'.bx∧v=u) ts xs):fF P s (fun s' u=>{ s with bx:=bx }=s'∧v=u) ts xs:=by
 unfold fF at h
 split at h
 ·rename_i b off len cap sz y
  have hi:v8 s y=v8 ⟨fun _=>.un,s.bx,s.nb⟩ y:=by cases y<;>rfl
  split at h
  ·rename_i e1 e2
   split at h
   ·rename_i e3;obtain⟨h0,rfl,rfl⟩:=h;unfold fF;rw[← hi] at e2;simp only[e1,e2,e3];exact⟨h0,by simp⟩
   ·exact h.elim
  ·exact h.elim
 ·split at h
  ·rename_i e1
   split at h
   ·rename_i e2
    obtain⟨b,k,j,E,es,h1,rfl,rfl⟩:=h
    unfold fF;simp only[e1,e2];exact⟨b,k,j,E,es,h1,by simp⟩
   ·exact h.elim
  ·exact h.elim
 ·exact h.elim
theorem Kt {ts:List TypeId} {xs:List V} {K K':S→V→Prop} (h:fF P s K ts xs) (hk:∀ s v,K s v→K' s v):fF P s K' ts xs:=by
 unfold fF at h
 split at h
 ·split at h
  ·rename_i e1 e2
   split at h
   ·rename_i e3;unfold fF;simp only[e1,e2,e3];exact⟨h.1,hk _ _ h.2⟩
   ·exact h.elim
  ·exact h.elim
 ·split at h
  ·rename_i e1
   split at h
   ·rename_i e2
    obtain⟨b,k,j,E,es,h1,h2⟩:=h
    unfold fF;simp only[e1,e2];exact⟨b,k,j,E,es,h1,hk _ _ h2⟩
   ·exact h.elim
  ·exact h.elim
 ·exact h.elim
theorem xC {tr:List Nat} {o:Oper} {args:Array Operand} {ts:Array TypeId} {K:S→V→Prop} {s':S} (ct:o.op=.call { callee:=.builtin .append,args:=args,argTypes:=ts }) (h:fF P s' K ts.toList (args.toList.map (ev G s))) :
 s.use (bY tr o)=s:=by
 have e:bY tr o=match args.toList with | .tmp t::_=>some t | _=>none:=by
  unfold bY;rw[ct];rfl
 rw[e]
 split
 ·rename_i t r ha
  rw[ha,bA] at h
  unfold fF at h
  split at h
  ·rename_i b off len cap sz y tz qt
   simp only[cB] at qt
   have:s.fr t=.ms b off len cap sz:=qt.1
   simp[S.use,this,V.isOw]
  ·rename_i tz qt
   simp only[cB] at qt
   have:=qt.1
   simp only[ev] at this
   simp[S.use,this,V.isOw]
  ·exact h.elim
 ·rfl
theorem Hf {ts:List TypeId} {xs:List V} {K:S→Prop} (h:jm P s K ts xs):∃ bx,jm P ⟨fun _=>.un,s.bx,s.nb⟩ (fun s'=>bx=s'.bx) ts xs∧K { s with bx:=bx }:=by
 unfold jm at h
 split at h
 ·split at h
  ·rename_i e1
   split at h
   ·rename_i e2;exact⟨_,by unfold jm;simp only[e1,e2];exact⟨h.1,trivial⟩,h.2⟩
   ·exact h.elim
  ·exact h.elim
 ·split at h
  ·rename_i e1
   split at h
   ·rename_i e2
    obtain⟨b,k,j,cap,E,es,h1,h2⟩:=h
    exact⟨_,by unfold jm;simp only[e1,e2];exact⟨b,k,j,cap,E,es,h1,rfl⟩,h2⟩
   ·exact h.elim
  ·exact h.elim
 ·exact h.elim
theorem Hg {ts:List TypeId} {xs:List V} {bx:Nat→List V} (h:jm P ⟨fun _=>.un,s.bx,s.nb⟩ (fun s'=>bx=s'.bx) ts xs):jm P s (fun s'=>{ s with bx:=bx }=s') ts xs:=by
 unfold jm at h
 split at h
 ·split at h
  ·rename_i e1
   split at h
   ·rename_i e2;obtain⟨h0,rfl⟩:=h;unfold jm;simp only[e1,e2];exact⟨h0,trivial⟩
   ·exact h.elim
  ·exact h.elim
 ·split at h
  ·rename_i e1
   split at h
   ·rename_i e2
    obtain⟨b,k,j,cap,E,es,h1,rfl⟩:=h
    unfold jm;simp only[e1,e2];exact⟨b,k,j,cap,E,es,h1,rfl⟩
   ·exact h.elim
  ·exact h.elim
 ·exact h.elim
theorem QX {ts:List TypeId} {xs:List V} {K K':S→Prop} (h:jm P s K ts xs) (hk:∀ s,K s→K' s):jm P s K' ts xs:=by
 unfold jm at h
 split at h
 ·split at h
  ·rename_i e1
   split at h
   ·rename_i e2;unfold jm;simp only[e1,e2];exact⟨h.1,hk _ h.2⟩
   ·exact h.elim
  ·exact h.elim
 ·split at h
  ·rename_i e1
   split at h
   ·rename_i e2
    obtain⟨b,k,j,cap,E,es,h1,h2⟩:=h
    unfold jm;simp only[e1,e2];exact⟨b,k,j,cap,E,es,h1,hk _ h2⟩
   ·exact h.elim
  ·exact h.elim
 ·exact h.elim
theorem Oh {T:TypeId} {v:V} {K K':S→Prop} (h:iJ P T s x y v K) (hk:∀ s,K s→K' s):iJ P T s x y v K':=by
 unfold iJ at h
 obtain⟨i,bs,cl,r,res,z,h1,h2⟩:=ja h
 refine gA h1 ?_
 cases res<;>exact hk _ h2
theorem um {T:TypeId} {K K':S→V→Prop} (h:fV P T s x y K) (hk:∀ s v,K s v→K' s v):fV P T s x y K':=by
 unfold fV at h
 obtain⟨i,bs,cl,r,res,z,h1,h2⟩:=ja h
 refine gA h1 ?_
 cases res<;>exact hk _ _ h2
theorem Hh {v:V} {K K':S→Prop} (h:fN s x y v K) (hk:∀ s,K s→K' s):fN s x y v K':=by
 unfold fN at h
 split at h
 ·split at h
  ·rename_i e2
   split at h
   ·rename_i e3;unfold fN;simp only[e2,e3];exact⟨h.1,hk _ h.2⟩
   ·exact h.elim
  ·exact h.elim
 ·exact h.elim
theorem Fv {T:TypeId} {ok:Bool} (h:fM P T s x y ok K):∃ v,fM P T s x y ok (fun u=>v=u)∧K v:=by
 unfold fM at h
 obtain⟨i,bs,cl,r,res,z,h1,h2⟩:=ja h
 cases res with
 |none=>cases ok<;>exact⟨_,gA h1 rfl,h2⟩
 |some j=>cases ok<;>exact⟨_,gA h1 rfl,h2⟩
theorem zu {T:TypeId} {ok:Bool} {v u:V} (h:fM P T s x y ok (fun w=>v=w)) (h':fM P T s x y ok (fun w=>u=w)):v=u:=by
 unfold fM at h h'
 obtain⟨i,bs,cl,r,res,z,h1,h2⟩:=ja h
 obtain⟨i',bs',cl',r',res',z',jf,mG⟩:=ja h'
 have e:i'=i∧bs'=bs∧cl'=cl∧r'=r∧res'=res∧z'=z:=by
  have:=He h1 jf
  obtain⟨_,_,_,_,_,_,⟨rfl,rfl,rfl,rfl,rfl,rfl⟩,rfl,rfl,rfl,rfl,rfl,rfl⟩:=this
  exact⟨rfl,rfl,rfl,rfl,rfl,rfl⟩
 obtain⟨rfl,rfl,rfl,rfl,rfl,rfl⟩:=e
 cases res'<;>cases ok<;>simp only at h2 mG<;>(rw[show v=_ from h2,show u=_ from mG])
theorem Hi {T:TypeId} (h:oH P T s x K):∃ v,oH P T s x (fun u=>v=u)∧K v:=by
 unfold oH at h
 split at h
 ·rename_i e1
  split at h
  ·rename_i e2;exact⟨_,by unfold oH;simp only[e1,e2];exact⟨h.1,trivial⟩,h.2⟩
  ·exact h.elim
 ·exact h.elim
theorem Hj (h:oI s x K):∃ v,oI s x (fun u=>v=u)∧K v:=by
 unfold oI at h
 split at h
 ·split at h
  ·rename_i e2 e3
   split at h
   ·rename_i e4;exact⟨_,by unfold oI;simp only[e2,e3,e4];exact⟨h.1,trivial⟩,h.2⟩
   ·exact h.elim
  ·exact h.elim
 ·exact h.elim
theorem Bn {ts:List TypeId} {E:Option (TypeId×Nat)} {es:List (List C)} (h:nh P ts E es y K):∃ v,nh P ts E es y (fun u=>v=u)∧K v:=by
 unfold nh at h
 split at h
 ·obtain⟨h1,h⟩:=h
  split at h
  ·rename_i e3
   split at h
   ·rename_i e4
    obtain⟨h2,h⟩:=h
    split at h
    ·exact⟨_,by unfold nh;simp only[e3,e4];exact⟨h1,h2,h.1,trivial⟩,h.2⟩
    ·exact h.elim
   ·exact h.elim
  ·exact h.elim
 ·exact h.elim
theorem Hk {d:Option Tmp} {args:List Operand} {ts:List TypeId} (h:jl P G s d ts args K):∃ v,jl P G s d ts args (fun u=>v=u)∧K v:=by
 unfold jl at h
 split at h
 ·split at h
  ·rename_i e1 e2
   obtain⟨h0,h⟩:=h
   obtain⟨v,h1,h2⟩:=ri h
   exact⟨v,by unfold jl;simp only[e1,e2];exact⟨h0,h1⟩,h2⟩
  ·rename_i e1 e2
   obtain⟨h0,h⟩:=h
   obtain⟨v,h1,h2⟩:=Bn h
   exact⟨v,by unfold jl;simp only[e1,e2];exact⟨h0,h1⟩,h2⟩
  ·rename_i e1
   obtain⟨h0,h⟩:=h
   obtain⟨v,h1,h2⟩:=Bn h
   exact⟨v,by unfold jl;simp only[e1];exact⟨h0,h1⟩,h2⟩
  ·exact h.elim
 ·exact h.elim
theorem Oi {d:Option Tmp} {args:List Operand} {ts:List TypeId} (h:vD P G s d ts args K):∃ v,vD P G s d ts args (fun u=>v=u)∧K v:=by
 unfold vD at h
 split at h
 ·split at h
  ·rename_i e1 e2
   obtain⟨h0,h⟩:=h
   unfold ud at h
   split at h
   ·obtain⟨h1,h⟩:=h
    split at h
    ·rename_i e3
     split at h
     ·rename_i e4
      obtain⟨h2,h⟩:=h
      split at h
      ·rename_i e5
       exact⟨_,by unfold vD;simp only[e1,e2];refine⟨h0,?_⟩;unfold ud;simp only[e3,e4,e5];exact⟨h1,h2,h.1,trivial⟩,h.2⟩
      ·exact h.elim
     ·exact h.elim
    ·exact h.elim
   ·exact h.elim
  ·exact h.elim
 ·exact h.elim
theorem Hl (h:VYK P G tr o s K):∃ v,VYK P G tr o s (fun u=>v=u)∧K v:=by
 obtain⟨dst,op,type,pos,after,guard⟩:=o
 cases op<;>simp only[VYK] at h ⊢<;>try exact h.elim
 case move x=>
  split at h
  ·rename_i e;simp only[if_pos e];exact⟨_,rfl,h⟩
  ·rename_i e;simp only[if_neg e];exact⟨_,rfl,h⟩
 case assign x=>exact⟨_,rfl,h⟩
 case pick c a b=>
  split at h
  ·exact⟨_,rfl,h⟩
  ·exact h.elim
 case build T parts=>exact Hb h
 case buildSlice T len parts=>exact nw h
 case load T x=>exact Kn h
 case binOp op T x y yT=>exact Oe h
 case unOp op T x=>exact QW h
 case convert src dst x=>exact Ko h
 case lookup T x k ok=>exact Fv h
 case range T x=>exact Hi h
 case entry x=>exact Hj h
 case makeFunc f a b=>exact⟨_,⟨h.1,rfl⟩,h.2⟩
 case sliceToArrayPointer T x=>exact Of h
 case nilCheck x=>
  split at h
  ·exact⟨_,rfl,h⟩
  ·exact⟨_,rfl,h⟩
  ·exact⟨_,rfl,h⟩
  ·exact h.elim
 case slice T x lo hi mx=>exact Ha h
 case fieldAddr T x f=>exact Al h
 case field T x f=>exact G8 h
 case indexAddr T x i=>exact Am h
 case index T x i=>exact G9 h
 case extract x i=>
  split at h
  ·split at h
   ·exact⟨_,rfl,h⟩
   ·exact h.elim
  ·exact h.elim
 case call c=>
  obtain⟨callee,args,ts⟩:=c
  cases callee with
  |value f=>exact Kp h
  |invoke r m=>exact h.elim
  |builtin b=>
   cases b
   case append=>
    have h':(if A2 tr dst then(if wh tr dst then vD P G s dst ts.toList args.toList K else jl P G s dst ts.toList args.toList K) else eW P .append ts.toList (args.toList.map fun x=>vw s (ev G s x)) K):=h
    show ∃ v,(if A2 tr dst then(if wh tr dst then vD P G s dst ts.toList args.toList (fun u=>v=u) else jl P G s dst ts.toList args.toList (fun u=>v=u)) else eW P .append ts.toList (args.toList.map fun x=>vw s (ev G s x)) (fun u=>v=u))∧K v
    by_cases hg:A2 tr dst=true
    ·rw[if_pos hg] at h';simp only[if_pos hg]
     by_cases NL:wh tr dst=true
     ·rw[if_pos NL] at h';simp only[if_pos NL];exact Oi h'
     ·rw[if_neg NL] at h';simp only[if_neg NL];exact Hk h'
    ·rw[if_neg hg] at h';simp only[if_neg hg];exact ri h'
   all_goals exact ri h
end
section
variable {P:Program} {G:Gl} {tr:List Nat} {s:S} {o:Oper} {x y:V} {ops:Array Oper} {md:Region.Mode}
inductive Ef where
 |v (x:V)
 |al (cs:List V)
 |st (b k:Nat) (ds:List V)
 |gn (bx:Nat→List V) (nb:Nat) (x:V)
 |skip
def Ef.val (nb:Nat):Ef→V
 | .v x=>x
 | .al _=>.bp nb 0
 | .st _ _ _=>.sk
 | .gn _ _ x=>x
 | .skip=>.sk
def Ef.bx (nb:Nat) (bx:Nat→List V):Ef→Nat→List V
 | .al cs=>up bx nb cs
 | .st b k ds=>up bx b (fj (bx b) k ds)
 | .gn bx' _ _=>bx'
 |_=>bx
def Ef.nb (nb:Nat):Ef→Nat
 | .al _=>nb+1
 | .gn _ nb' _=>nb'
 |_=>nb
def Ef.uses:Ef→Bool
 | .skip=>false
 |_=>true
def Fw (u:Bool) (t:Option Tmp) (fr:Nat→V):Nat→V:=match t with
 |some t=>if u&&(fr t).isOw then up fr t .un else fr
 |none=>fr
def Hm (d:Option Tmp) (x:V) (fr:Nat→V):Nat→V:=match d with
 |some d=>up fr d x
 |none=>fr
def Ef.run (tr:List Nat) (o:Oper) (s:S) (e:Ef):S:=⟨Hm o.dst (e.val s.nb) (Fw e.uses (bY tr o) s.fr),e.bx s.nb s.bx,e.nb s.nb⟩
def VEf (P:Program) (G:Gl) (tr:List Nat) (o:Oper) (s:S) (e:Ef):Prop:=
 match o.op with
 | .alloc T=>match ti P T with
  |some { zero:=some z,.. }=>e=.al (z.map ni)
  |_=>False
 | .box _ x=>match(ev G s x).bcells with
  |some cs=>e=.al cs
  |none=>False
 | .store T p x=>oR tr (J5 p) (ev G s p)=true∧match ti P T,ev G s p,(ev G s x).bcells with
  |some i,.bp b k,some cs=>(b<s.nb∧cs.length=i.size∧k+i.size≤(s.bx b).length∧cy (s.bx b)=false)∧e=.st b k cs
  |some i,.c (.ex (.pointer (some ⟨blk,j,none⟩))),_=>(∃ (b k len cap:Nat) (E:Option (TypeId×Nat)) (es:List (List C)) (r:Nat) (e':List C) (c:C),(i.size=1∧b<s.nb∧cy (s.bx b)=false∧(s.bx b)[k]?=some (V.hh (some (.slice (some ⟨blk,0,none⟩) len cap)) E (es++[e']))∧
    (es.flatten.length+r=j∧r<e'.length)∧(ev G s x).asC=some c)∧
   e=.gn (up s.bx b ((s.bx b).set k (.hh (some (.slice (some ⟨blk,0,none⟩) len cap)) E (es++[e'.set r c])))) s.nb .sk)∨acf s.bx s.nb i blk j (ev G s x) (fun bx=>e=.gn bx s.nb .sk)
  |_,_,_=>False
 | .buildSlice T len parts=>if nR tr o.dst then ∃ bx nb x,e=.gn bx nb x∧cR P T len (parts.toList.map fun(i,x)=>(i,ev G s x)) (A3 s.bx s.nb len len fun b n u=>(bx=b∧nb=n)∧x=u)
  else ∃ v,e=.v v∧VYK P G tr o s fun u=>v=u
 | .makeSlice T l c=>∃ bx nb x,e=.gn bx nb x∧rE P T (ev G s l) (ev G s c) fun n m sz z=>(up s.bx s.nb ((List.replicate m z).flatten.map .c)=bx∧s.nb+1=nb)∧V.ms s.nb 0 n m sz=x
 | .call { callee:=.value f,args:=args,.. }=>if xi tr o.dst then ∃ bx nb x,e=.gn bx nb x∧ke P G s.bx s.nb (ev G s f) (args.toList.map (ev G s)) (fun b n u=>(bx=b∧nb=n)∧x=u)∧(CP tr o.dst=true→nb=s.nb∧∀ b,bx b=s.bx b∨(b<100∧tr.contains (500000+o.dst.getD 0*100+b)=true))
  else ∃ v,e=.v v∧VYQ P G tr o s f args fun u=>v=u
 | .load _ x=>∃ v,e=.v v∧oR tr o.dst (ev G s x)=true∧VYK P G tr o s fun u=>v=u
 | .mapUpdate T m k x=>∃ bx,e=.gn bx s.nb .sk∧iJ P T ⟨fun _=>.un,s.bx,s.nb⟩ (ev G s m) (ev G s k) (ev G s x) fun s'=>bx=s'.bx
 | .mapEntry T m k=>∃ bx v,e=.gn bx s.nb v∧fV P T ⟨fun _=>.un,s.bx,s.nb⟩ (ev G s m) (ev G s k) fun s' u=>bx=s'.bx∧v=u
 | .entryStore _ m n x=>∃ bx,e=.gn bx s.nb .sk∧fN ⟨fun _=>.un,s.bx,s.nb⟩ (ev G s m) (ev G s n) (ev G s x) fun s'=>bx=s'.bx
 | .call { callee:=.builtin .copy,args:=args,argTypes:=ts }=>∃ bx v,e=.gn bx s.nb v∧nm P ⟨fun _=>.un,s.bx,s.nb⟩ (fun s' u=>bx=s'.bx∧v=u) ts.toList (args.toList.map (ev G s))
 | .call { callee:=.builtin .append,args:=args,argTypes:=ts }=>if nR tr o.dst then False else if wj tr o.dst then ∃ bx v,e=.gn bx s.nb v∧fF P ⟨fun _=>.un,s.bx,s.nb⟩ (fun s' u=>bx=s'.bx∧v=u) ts.toList (args.toList.map (ev G s))
  else ∃ v,e=.v v∧VYK P G tr o s fun u=>v=u
 | .call { callee:=.builtin .clear,args:=args,argTypes:=ts }=>∃ bx,e=.gn bx s.nb .un∧jm P ⟨fun _=>.un,s.bx,s.nb⟩ (fun s'=>bx=s'.bx) ts.toList (args.toList.map (ev G s))
 |_=>∃ v,e=.v v∧VYK P G tr o s fun u=>v=u
theorem QY {t:Option Tmp}:(s.use t).bx=s.bx:=by
 cases t with
 |none=>rfl
 |some t=>simp only[S.use];split<;>rfl
theorem Fx {t:Option Tmp}:(s.use t).nb=s.nb:=by
 cases t with
 |none=>rfl
 |some t=>simp only[S.use];split<;>rfl
theorem zw (v:V):(Ef.v v).run tr o s=s.after tr o v:=by
 unfold Ef.run S.after S.use S.put Fw Hm
 cases bY tr o with
 |none=>cases o.dst<;>rfl
 |some t=>by_cases h:(s.fr t).isOw=true<;>cases o.dst<;>simp[h,Ef.uses,S.clr,Ef.val,Ef.bx,Ef.nb]
theorem Fy (cs:List V):(Ef.al cs).run tr o s=(let s':=s.use (bY tr o);{ s' with bx:=up s'.bx s'.nb cs,nb:=s'.nb+1 }:S).put o.dst (.bp s.nb 0):=by
 unfold Ef.run S.use S.put Fw Hm
 cases bY tr o with
 |none=>cases o.dst<;>rfl
 |some t=>by_cases h:(s.fr t).isOw=true<;>cases o.dst<;>simp[h,Ef.uses,S.clr,Ef.val,Ef.bx,Ef.nb]
theorem QZ (b k:Nat) (ds:List V):(Ef.st b k ds).run tr o s=(let s':=s.use (bY tr o);{ s' with bx:=up s'.bx b (fj (s'.bx b) k ds) }:S).put o.dst .sk:=by
 unfold Ef.run S.use S.put Fw Hm
 cases bY tr o with
 |none=>cases o.dst<;>rfl
 |some t=>by_cases h:(s.fr t).isOw=true<;>cases o.dst<;>simp[h,Ef.uses,S.clr,Ef.val,Ef.bx,Ef.nb]
theorem jD (bx:Nat→List V) (nb:Nat) (x:V):(Ef.gn bx nb x).run tr o s=(let s':=s.use (bY tr o);{ s' with bx:=bx,nb:=nb }:S).put o.dst x:=by
 unfold Ef.run S.use S.put Fw Hm
 cases bY tr o with
 |none=>cases o.dst<;>rfl
 |some t=>by_cases h:(s.fr t).isOw=true<;>cases o.dst<;>simp[h,Ef.uses,S.clr,Ef.val,Ef.bx,Ef.nb]
theorem uo {T:TypeId} {len:Nat} {parts:List (Nat×V)} {v:V} {K:V→Prop} (h:cR P T len parts (fun u=>v=u)) (hk:∀ u,v=u→K u):cR P T len parts K:=by
 unfold cR at h
 split at h
 ·rename_i e1
  split at h
  ·rename_i e2
   obtain⟨h0,h⟩:=h
   split at h
   ·rename_i e3
    unfold cR
    simp only[e1,e2,e3]
    exact⟨h0,hk _ h⟩
   ·exact h.elim
  ·exact h.elim
 ·exact h.elim
theorem Hn {f:V} {args:List V} {K:V→Prop} (h:pB P G s f args K):∃ v,pB P G s f args (fun u=>v=u)∧K v:=by
 unfold pB at h
 split at h
 ·rename_i g all hc
  obtain⟨ρ,cargs,b0,r,h1,h2,h3,h4,h5,h6⟩:=h
  exact⟨r,by unfold pB;simp only[hc];exact⟨ρ,cargs,b0,r,h1,h2,h3,h4,h5,rfl⟩,h6⟩
 ·exact h.elim
theorem DJ {s s':S} {ρ:Nat→Nat} (hn:s.nb≤s'.nb) (hb:∀ i,i<s.nb→s'.bx i=s.bx i):∀ (b:List (List V)) (i:Nat),rb s.bx s.nb ρ i b→rb s'.bx s'.nb ρ i b
 |[],_,_=>trivial
 |x::r,i,h=>⟨⟨bZ h.1.1 hn,by rw[hb _ h.1.1];exact h.1.2⟩,DJ hn hb r (i+1) h.2⟩
theorem zx {s s':S} {f:V} {args:List V} {K:V→Prop} (hn:s.nb≤s'.nb) (hb:∀ i,i<s.nb→s'.bx i=s.bx i) (h:pB P G s f args K):pB P G s' f args K:=by
 unfold pB at h ⊢
 split at h
 ·rename_i g all hc
  obtain⟨ρ,cargs,b0,r,h1,h2,h3,h4,h5,h6⟩:=h
  exact⟨ρ,cargs,b0,r,h1,h2,h3,fun N=>DJ hn hb _ _ (h4 N),h5,h6⟩
 ·exact h.elim
theorem Oj {bx:Nat→List V} {nb:Nat} {f:V} {l:List V} {K K':(Nat→List V)→Nat→V→Prop} (h:ke P G bx nb f l K) (hk:∀ b n u,K b n u→K' b n u):ke P G bx nb f l K':=by
 unfold ke at h
 split at h
 ·rename_i e1
  unfold ke
  simp only[e1]
  obtain⟨ρ,cargs,b0,r,b1,h1,h2,h3,h4,h5⟩:=h
  exact⟨ρ,cargs,b0,r,b1,h1,h2,h3,h4,hk _ _ _ h5⟩
 ·exact h.elim
theorem Ho {T:TypeId} {l c:V} {K K':Nat→Nat→Nat→List C→Prop} (h:rE P T l c K) (hk:∀ n m sz z,K n m sz z→K' n m sz z):rE P T l c K':=by
 unfold rE at h
 split at h
 ·rename_i e1
  split at h
  ·rename_i e2
   unfold rE
   simp only[e1,e2]
   exact⟨h.1,hk _ _ _ _ h.2⟩
  ·exact h.elim
 ·exact h.elim
theorem Bo:Ef.skip.run tr o s=s.put o.dst .sk:=by
 unfold Ef.run S.put Fw Hm
 cases bY tr o<;>cases o.dst<;>simp[Ef.uses,Ef.val,Ef.bx,Ef.nb]
theorem VStep.ef {K:S→Prop} (Do:o1 tr o=false) (h:VStep P G tr o s K):∃ e,e≠.skip∧VEf P G tr o s e∧K (e.run tr o s):=by
 have gen:VYK P G tr o s (fun v=>K (s.after tr o v))→(∀ e,VEf P G tr o s e↔∃ v,e=.v v∧VYK P G tr o s fun u=>v=u)→∃ e,e≠.skip∧VEf P G tr o s e∧K (e.run tr o s):=fun h hV=>by
  obtain⟨v,h1,h2⟩:=Hl h
  exact⟨.v v,by simp,(hV _).2 ⟨v,rfl,h1⟩,by rw[zw];exact h2⟩
 unfold VStep at h
 split at h
 ·rename_i T ct
  split at h
  ·rename_i z _ _ hi
   refine⟨.al (z.map ni),by simp,by unfold VEf;rw[ct];simp only[hi],?_⟩
   rw[Fy]
   have:bY tr o=none:=by simp[bY,ct]
   rw[this];exact h
  ·exact h.elim
 ·rename_i T X ct
  split at h
  ·rename_i cs hi
   refine⟨.al cs,by simp,by unfold VEf;rw[ct];simp only[hi],?_⟩
   rw[Fy];exact h
  ·exact h.elim
 ·rename_i T p X ct
  obtain⟨lD,h⟩:=h
  split at h
  ·rename_i i b k cs h1 h2 h3
   obtain⟨h4,h⟩:=h
   refine⟨.st b k cs,by simp,by unfold VEf;rw[ct];simp only[h1,h2,h3];rw[h2] at lD;exact⟨lD,h4,trivial⟩,?_⟩
   rw[QZ];exact h
  ·rename_i i blk j h1 h2
   rcases h with h | ⟨b,k,len,cap,q,E,es,cs,h4,h⟩
   rotate_left
   ·refine⟨.gn (up s.bx b ((s.bx b).set k (.gg (.slice (some ⟨blk,0,none⟩) len cap) (some (E,i.size)) (es.set q cs)))) s.nb .sk,by simp,by unfold VEf;rw[ct];simp only[h1,h2];rw[h2] at lD;exact⟨lD,.inr ⟨b,k,len,cap,q,E,es,cs,h4,rfl⟩⟩,?_⟩
    rw[jD]
    have e:∀ bx,({ s.use (bY tr o) with bx:=bx,nb:=s.nb }:S)={ s.use (bY tr o) with bx:=bx }:=fun bx=>by rw[← Fx (s:=s) (t:=bY tr o)]
    show K (({ s.use (bY tr o) with bx:=_,nb:=s.nb }:S).put o.dst .sk)
    rw[e]
    exact h
   obtain⟨b,k,len,cap,E,es,r,e',c,h4,h⟩:=h
   refine⟨.gn (up s.bx b ((s.bx b).set k (.hh (some (.slice (some ⟨blk,0,none⟩) len cap)) E (es++[e'.set r c])))) s.nb .sk,by simp,by unfold VEf;rw[ct];simp only[h1,h2];rw[h2] at lD;exact⟨lD,.inl ⟨b,k,len,cap,E,es,r,e',c,h4,rfl⟩⟩,?_⟩
   rw[jD]
   have h':K (({ s.use (bY tr o) with bx:=up (s.use (bY tr o)).bx b (((s.use (bY tr o)).bx b).set k (.hh (some (.slice (some ⟨blk,0,none⟩) len cap)) E (es++[e'.set r c]))) }:S).put o.dst .sk):=h
   rw[QY] at h'
   have e:({ s.use (bY tr o) with bx:=up s.bx b ((s.bx b).set k (.hh (some (.slice (some ⟨blk,0,none⟩) len cap)) E (es++[e'.set r c]))),nb:=s.nb }:S)={ s.use (bY tr o) with bx:=up s.bx b ((s.bx b).set k (.hh (some (.slice (some ⟨blk,0,none⟩) len cap)) E (es++[e'.set r c]))) }:=by rw[← Fx (s:=s) (t:=bY tr o)]
   show K (({ s.use (bY tr o) with bx:=up s.bx b ((s.bx b).set k (.hh (some (.slice (some ⟨blk,0,none⟩) len cap)) E (es++[e'.set r c]))),nb:=s.nb }:S).put o.dst .sk)
   rw[e]
   exact h'
  ·exact h.elim
 ·rename_i T len parts ct
  split at h
  ·rename_i hn
   obtain⟨v,h1,h2⟩:=nw h
   obtain⟨bx,nb,x,h3,h4⟩:=Bi h2
   refine⟨.gn bx nb x,by simp,?_,?_⟩
   ·unfold VEf;rw[ct];simp only[hn,db]
    refine⟨bx,nb,x,rfl,?_⟩
    refine uo h1 fun u hu=>?_
    subst hu;exact h3
   ·rw[jD]
    have:bY tr o=none:=by simp[bY,ct]
    rw[this];exact h4
  ·rename_i hn
   have hb:J3 tr o.dst=false:=by simpa[o1,ct] using Do
   simp only[hb,aY,dm] at h
   refine gen h fun e=>?_
   unfold VEf;rw[ct];simp only[if_neg hn]
 ·rename_i T l c ct
  obtain⟨p,m,sz,z,h1,h2⟩:=Kq h
  refine⟨.gn (up s.bx s.nb ((List.replicate m z).flatten.map .c)) (s.nb+1) (.ms s.nb 0 p m sz),by simp,?_,?_⟩
  ·unfold VEf;rw[ct]
   refine⟨_,_,_,rfl,?_⟩
   refine Ho h1 fun n' m' sz' z' hh=>?_
   obtain⟨rfl,rfl,rfl,rfl⟩:=hh
   exact⟨⟨rfl,rfl⟩,rfl⟩
  ·rw[jD]
   have:bY tr o=none:=by simp[bY,ct]
   rw[this];exact h2
 ·rename_i f args ts ct
  have hye:ER tr o.dst=false∧GI tr o.dst=false:=by simpa[o1,ct] using Do
  have hy:=hye.1
  have hef:=hye.2
  simp only[hy,hef,aY,dm] at h
  split at h
  ·rename_i hn
   obtain⟨bx,nb,x,h3,h4⟩:=Hd h
   have h5:(CP tr o.dst=true→ace tr o.dst s ⟨s.fr,bx,nb⟩)∧K ((⟨s.fr,bx,nb⟩:S).put o.dst x):=by
    by_cases hl:CP tr o.dst=true
    ·rw[if_pos hl] at h4;exact⟨fun _=>h4.1,h4.2⟩
    ·rw[if_neg hl] at h4;exact⟨fun h=>absurd h hl,h4⟩
   refine⟨.gn bx nb x,by simp,?_,?_⟩
   ·unfold VEf;rw[ct];simp only[hn,db]
    exact⟨bx,nb,x,rfl,h3,h5.1⟩
   ·rw[jD]
    have:bY tr o=none:=by simp[bY,ct]
    rw[this];exact h5.2
  ·rename_i hn
   by_cases NO:NW tr o.dst=true
   ·unfold VYQ at h;rw[if_pos NO] at h
    obtain⟨v,h1,h2⟩:=Hn h
    exact⟨.v v,by simp,by unfold VEf;rw[ct];simp only[if_neg hn];exact⟨v,rfl,by unfold VYQ;rw[if_pos NO];exact h1⟩,by rw[zw];exact h2⟩
   ·unfold VYQ at h;rw[if_neg NO] at h
    refine gen h fun e=>?_
    unfold VEf;rw[ct];simp only[if_neg hn,VYQ,if_neg NO]
 ·rename_i args ts ct
  have hn:nR tr o.dst=false:=by simpa[o1,ct] using Do
  simp only[hn,aY,dm] at h
  split at h
  ·rename_i hr
   have hu:=xC (tr:=tr) ct h
   obtain⟨bx,v,h1,h2⟩:=C3 h
   refine⟨.gn bx s.nb v,by simp,by unfold VEf;rw[ct];simp only[hn,hr,aY,dm,db];exact⟨bx,v,rfl,h1⟩,?_⟩
   rw[jD,hu];exact h2
  ·rename_i hr
   refine gen h fun e=>?_
   unfold VEf;rw[ct];simp only[hn,aY,dm,if_neg hr]
 ·rename_i args ts ct
  obtain⟨bx,v,h1,h2⟩:=Kr h
  refine⟨.gn bx s.nb v,by simp,by unfold VEf;rw[ct];exact⟨bx,v,rfl,h1⟩,?_⟩
  have:bY tr o=none:=by simp[bY,ct]
  rw[jD,this];exact h2
 ·rename_i args ts ct
  obtain⟨bx,h1,h2⟩:=Hf h
  refine⟨.gn bx s.nb .un,by simp,by unfold VEf;rw[ct];exact⟨bx,rfl,h1⟩,?_⟩
  have:bY tr o=none:=by simp[bY,ct]
  rw[jD,this];exact h2
 ·rename_i args ts ct
  have hn:J4 tr o.dst=false:=by simpa[o1,ct] using Do
  simp only[hn,aY,dm] at h
  refine gen h fun e=>?_
  unfold VEf;rw[ct]
 ·rename_i src dst X ct
  have hn:nR tr o.dst=false:=by simpa[o1,ct] using Do
  simp only[hn,aY,dm] at h
  refine gen h fun e=>?_
  unfold VEf;rw[ct]
 ·rename_i op T X Y yT ct
  have hn:AC Y=false:=by simpa[o1,ct] using Do
  simp only[hn,aY,dm] at h
  refine gen h fun e=>?_
  unfold VEf;rw[ct]
 ·rename_i T X ct
  have hn:isZ tr o.dst=false:=by simpa[o1,ct] using Do
  simp only[hn,aY,dm] at h
  obtain⟨lD,h⟩:=h
  obtain⟨v,h1,h2⟩:=Hl h
  exact⟨.v v,by simp,by unfold VEf;rw[ct];exact⟨v,rfl,lD,h1⟩,by rw[zw];exact h2⟩
 ·rename_i T parts ct
  have hn:isZ tr o.dst=false:=by simpa[o1,ct] using Do
  simp only[hn,aY,dm] at h
  refine gen h fun e=>?_
  unfold VEf;rw[ct]
 ·rename_i ct;simp[o1,ct] at Do
 ·rename_i T m k X ct
  obtain⟨bx,h1,h2⟩:=Fq h
  refine⟨.gn bx s.nb .sk,by simp,by unfold VEf;rw[ct];exact⟨bx,rfl,h1⟩,?_⟩
  have:bY tr o=none:=by simp[bY,ct]
  rw[jD,this];exact h2
 ·rename_i T m k ct
  obtain⟨bx,v,h1,h2⟩:=Bj h
  refine⟨.gn bx s.nb v,by simp,by unfold VEf;rw[ct];exact⟨bx,v,rfl,h1⟩,?_⟩
  have:bY tr o=none:=by simp[bY,ct]
  rw[jD,this];exact h2
 ·rename_i T m k X ct
  obtain⟨bx,h1,h2⟩:=Bl h
  refine⟨.gn bx s.nb .sk,by simp,by unfold VEf;rw[ct];exact⟨bx,rfl,h1⟩,?_⟩
  have:bY tr o=none:=by simp[bY,ct]
  rw[jD,this];exact h2
 ·rename_i ct;simp[o1,ct] at Do
 ·rename_i ct;simp[o1,ct] at Do
 ·rename_i n1 n2 n3 n4 n5 n6 n7 n8 n9 n10 n11 n12 n13 n14 n15 n16 n17 n18 n19 n20
  refine gen h fun e=>?_
  unfold VEf
  split
  ·rename_i ct;exact absurd ct (n1 _)
  ·rename_i ct;exact absurd ct (n2 _ _)
  ·rename_i ct;exact absurd ct (n3 _ _ _)
  ·rename_i ct;exact absurd ct (n4 _ _ _)
  ·rename_i ct;exact absurd ct (n5 _ _ _)
  ·rename_i ct;exact absurd ct (n6 _ _ _)
  ·rename_i ct;exact absurd ct (n13 _ _)
  ·rename_i ct;exact absurd ct (n16 _ _ _ _)
  ·rename_i ct;exact absurd ct (n17 _ _ _)
  ·rename_i ct;exact absurd ct (n18 _ _ _ _)
  ·rename_i ct;exact absurd ct (n8 _ _)
  ·rename_i ct;exact absurd ct (n7 _ _)
  ·rename_i ct;exact absurd ct (n9 _ _)
  ·exact Iff.rfl
variable {n:Nat} {I0:Ft} {M:Mx} {w0:World} {I:Ft} {β:Nat→Option Nat} {ob:Loc→Option Nat} {a:Act} {w:World} {next:Act→World→Prop} {Q:Exit→Act→World→Prop}
theorem DK {e:Ef} (aR:St G n I0 M w0 I β ob s a w) (hd:∀ d,o.dst=some d→d<n) (h:VEf P G tr o s e)
 (hk:∀ a' w',SE G n I0 M w0 (e.run tr o s) a' w'→next a' w'):o.wp P a w next Q:=by
 have viaStep:qC tr o=false→VStep P G tr o s (fun s'=>e.run tr o s=s')→o.wp P a w next Q:=fun hy h=>
  qI (tr:=tr) aR hd hy h (fun a' w' s' hs dE=>hk a' w' (by rw[hs];exact dE))
 unfold VEf at h
 split at h
 ·rename_i T ct
  split at h
  ·rename_i z _ _ hi
   subst h
   refine viaStep (by simp[qC,ct]) ?_
   unfold VStep
   rw[ct]
   simp only[hi]
   rw[Fy]
   have:bY tr o=none:=by simp[bY,ct]
   rw[this];rfl
  ·exact h.elim
 ·rename_i T X ct
  split at h
  ·rename_i cs hi
   subst h
   refine viaStep (by simp[qC,ct]) ?_
   unfold VStep
   rw[ct]
   simp only[hi]
   rw[Fy]
  ·exact h.elim
 ·rename_i T p X ct
  obtain⟨lD,h⟩:=h
  split at h
  ·rename_i i b k cs h1 h2 h3
   obtain⟨h4,rfl⟩:=h
   refine viaStep (by simp[qC,ct]) ?_
   unfold VStep
   rw[ct]
   simp only[h1,h2,h3]
   rw[QZ]
   rw[h2] at lD
   exact⟨lD,h4,rfl⟩
  ·rename_i i blk j h1 h2
   rcases h with h | ⟨b,k,len,cap,q,E,es,cs,h4,rfl⟩
   rotate_left
   ·refine viaStep (by simp[qC,ct]) ?_
    unfold VStep
    rw[ct]
    simp only[h1,h2]
    rw[jD]
    rw[h2] at lD
    refine⟨lD,.inr ⟨b,k,len,cap,q,E,es,cs,h4,?_⟩⟩
    have e:∀ bx,({ s.use (bY tr o) with bx:=bx,nb:=s.nb }:S)={ s.use (bY tr o) with bx:=bx }:=fun bx=>by rw[← Fx (s:=s) (t:=bY tr o)]
    show({ s.use (bY tr o) with bx:=_,nb:=s.nb }:S).put o.dst .sk=_
    rw[e]
   obtain⟨b,k,len,cap,E,es,r,e',c,h4,rfl⟩:=h
   refine viaStep (by simp[qC,ct]) ?_
   unfold VStep
   rw[ct]
   simp only[h1,h2]
   rw[jD]
   rw[h2] at lD
   refine⟨lD,.inl ⟨b,k,len,cap,E,es,r,e',c,h4,?_⟩⟩
   have e:({ s.use (bY tr o) with bx:=up s.bx b ((s.bx b).set k (.hh (some (.slice (some ⟨blk,0,none⟩) len cap)) E (es++[e'.set r c]))),nb:=s.nb }:S)={ s.use (bY tr o) with bx:=up s.bx b ((s.bx b).set k (.hh (some (.slice (some ⟨blk,0,none⟩) len cap)) E (es++[e'.set r c]))) }:=by rw[← Fx (s:=s) (t:=bY tr o)]
   show({ s.use (bY tr o) with bx:=up s.bx b ((s.bx b).set k (.hh (some (.slice (some ⟨blk,0,none⟩) len cap)) E (es++[e'.set r c]))),nb:=s.nb }:S).put o.dst .sk=({ s.use (bY tr o) with bx:=up (s.use (bY tr o)).bx b (((s.use (bY tr o)).bx b).set k (.hh (some (.slice (some ⟨blk,0,none⟩) len cap)) E (es++[e'.set r c]))) }:S).put o.dst .sk
   rw[e,QY]
  ·exact h.elim
 ·rename_i T len parts ct
  split at h
  ·rename_i hn
   obtain⟨bx,nb,x,rfl,h⟩:=h
   refine viaStep (by simp[qC,ct]) ?_
   unfold VStep
   rw[ct]
   simp only[hn,db]
   have:bY tr o=none:=by simp[bY,ct]
   rw[jD,this]
   obtain⟨v,h1,h2⟩:=nw h
   refine uo h1 fun u hu=>?_
   subst hu
   obtain⟨b,n,y,h3,⟨rfl,rfl⟩,rfl⟩:=Bi h2
   unfold QA
   unfold A3 at h3 ⊢
   split at h3
   ·obtain⟨⟨rfl,rfl⟩,rfl⟩:=h3;rfl
   ·exact h3.elim
  ·rename_i hn
   obtain⟨v,rfl,h⟩:=h
   exact pq (tr:=tr) aR hd h (fun a' w' x hx dE=>hk a' w' (by rw[zw];subst hx;exact dE))
 ·rename_i T l c ct
  obtain⟨bx,nb,x,rfl,h⟩:=h
  refine viaStep (by simp[qC,ct]) ?_
  unfold VStep
  rw[ct]
  have:bY tr o=none:=by simp[bY,ct]
  rw[jD,this]
  refine Ho h fun n m sz z hh=>?_
  obtain⟨⟨rfl,rfl⟩,rfl⟩:=hh
  rfl
 ·rename_i f args ts ct
  split at h
  ·rename_i hn
   obtain⟨bx,nb,x,rfl,h,hlc⟩:=h
   have hc:bY tr o=none:=by simp[bY,ct]
   refine sH (K:=fun s' u=>s'.put o.dst u=(Ef.gn bx nb x).run tr o s) ct aR hd ?_ (fun a' w' s' u hK dE=>hk a' w' (by rw[← hK];exact dE))
   unfold vcallB
   refine Oj h fun b n u hh=>?_
   obtain⟨⟨rfl,rfl⟩,rfl⟩:=hh
   rw[jD,hc];rfl
  ·rename_i hn
   obtain⟨v,rfl,h⟩:=h
   exact DG (tr:=tr) ct aR hd h (fun a' w' x hx dE=>hk a' w' (by rw[zw];subst hx;exact dE))
 ·obtain⟨v,rfl,_,h⟩:=h
  exact pq (tr:=tr) aR hd h (fun a' w' x hx dE=>hk a' w' (by rw[zw];subst hx;exact dE))
 ·rename_i T m k X ct
  obtain⟨bx,rfl,h⟩:=h
  refine viaStep (by simp[qC,ct]) ?_
  have:bY tr o=none:=by simp[bY,ct]
  rw[jD,this]
  unfold VStep
  rw[ct]
  exact Oh (Fu h) fun s' e=>by rw[← e];rfl
 ·rename_i T m k ct
  obtain⟨bx,v,rfl,h⟩:=h
  refine viaStep (by simp[qC,ct]) ?_
  have:bY tr o=none:=by simp[bY,ct]
  rw[jD,this]
  unfold VStep
  rw[ct]
  exact um (pH h) fun s' u e=>by rw[← e.1,← e.2];rfl
 ·rename_i T m k X ct
  obtain⟨bx,rfl,h⟩:=h
  refine viaStep (by simp[qC,ct]) ?_
  have:bY tr o=none:=by simp[bY,ct]
  rw[jD,this]
  unfold VStep
  rw[ct]
  exact Hh (Bm h) fun s' e=>by rw[← e];rfl
 ·rename_i args ts ct
  obtain⟨bx,v,rfl,h⟩:=h
  refine viaStep (by simp[qC,ct]) ?_
  have:bY tr o=none:=by simp[bY,ct]
  rw[jD,this]
  unfold VStep
  rw[ct]
  exact W2 (Ks h) fun s' u e=>by rw[← e.1,← e.2];rfl
 ·rename_i args ts ct
  split at h
  ·exact h.elim
  rename_i hn
  split at h
  ·rename_i hr
   obtain⟨bx,v,rfl,h⟩:=h
   refine viaStep (by simp[qC,ct]) ?_
   rw[jD,xC (tr:=tr) ct h]
   unfold VStep
   rw[ct]
   simp only[hn,hr,db,dm,aY]
   refine Kt (C4 h) (fun s' u e=>?_)
   rw[← e.1,← e.2]
  ·obtain⟨v,rfl,h⟩:=h
   exact pq (tr:=tr) aR hd h (fun a' w' x hx dE=>hk a' w' (by rw[zw];subst hx;exact dE))
 ·rename_i args ts ct
  obtain⟨bx,rfl,h⟩:=h
  refine viaStep (by simp[qC,ct]) ?_
  have:bY tr o=none:=by simp[bY,ct]
  rw[jD,this]
  unfold VStep
  rw[ct]
  exact QX (Hg h) fun s' e=>by rw[← e];rfl
 ·obtain⟨v,rfl,h⟩:=h
  exact pq (tr:=tr) aR hd h (fun a' w' x hx dE=>hk a' w' (by rw[zw];subst hx;exact dE))
def dW (tr:List Nat) (o:Oper):Nat:=
 match o.op with
 | .call { callee:=.builtin .copy,.. }=>2
 | .call { callee:=.builtin .clear,.. }=>2
 | .load _ _ | .convert _ _ _ | .lookup _ _ _ _ | .range _ _ | .entry _=>1
 | .call { callee:=.builtin .append,.. }=>if wj tr o.dst then 2 else 1
 | .call { callee:=.value _,.. }=>if xi tr o.dst then 2 else 1
 | .buildSlice _ _ _=>if nR tr o.dst then 2 else 0
 | .alloc _ | .box _ _ | .store _ _ _ | .makeSlice _ _ _ | .mapUpdate _ _ _ _ | .mapEntry _ _ _ | .entryStore _ _ _ _=>2
 |_=>0
theorem Bp {s':S} {x:Operand} (h:∀ t,x=.tmp t→s.fr t=s'.fr t):ev G s x=ev G s' x:=by
 cases x<;>simp only[ev]
 exact h _ rfl
theorem W3 {s':S} (hb:s.bx=s'.bx) (hn:s.nb=s'.nb):imm s=imm s':=by
 obtain⟨fr,bx,nb⟩:=s
 obtain⟨fr',bx',nb'⟩:=s'
 simp only at hb hn
 subst hb;subst hn
 funext x
 cases x<;>rfl
theorem FA {s':S} (hb:s.bx=s'.bx) (hn:s.nb=s'.nb):vw s=vw s':=by
 obtain⟨fr,bx,nb⟩:=s
 obtain⟨fr',bx',nb'⟩:=s'
 simp only at hb hn
 subst hb;subst hn
 funext x
 cases x<;>rfl
theorem rK {s':S} {K:V→Prop} (Ay:∀ d,o.dst=some d→s.fr d=s'.fr d) (he:∀ x∈o.op.operands,ev G s x=ev G s' x) (hm:dW tr o≠0→s.bx=s'.bx∧s.nb=s'.nb) (h:VYK P G tr o s K):VYK P G tr o s' K:=by
 have marr:∀ l:Array Operand,(∀ x∈l,ev G s x=ev G s' x)→l.toList.map (ev G s)=l.toList.map (ev G s'):=fun l hl=>bT fun x hx=>hl x (by simpa using hx)
 have mopt:∀ l:Option Operand,(∀ x,l=some x→ev G s x=ev G s' x)→l.map (ev G s)=l.map (ev G s'):=fun l hl=>by cases l with
  |none=>rfl
  |some x=>simp only[b8,hl x rfl]
 obtain⟨dst,op,type,pos,after,guard⟩:=o
 cases op<;>simp only[VYK] at h ⊢<;>try exact h
 case move x=>rw[← he x (by simp[Op.operands])];exact h
 case assign x=>rw[← he x (by simp[Op.operands])];exact h
 case pick c a b=>rw[← he c (by simp[Op.operands]),← he a (by simp[Op.operands]),← he b (by simp[Op.operands])];exact h
 case build T parts=>
  have:(parts.toList.map fun(i,x)=>(i,ev G s' x))=parts.toList.map fun(i,x)=>(i,ev G s x):=bT fun p hp=>by
   obtain⟨i,x⟩:=p
   simp only[he x (by simp only[Op.operands,gu,bj];exact⟨(i,x),hp,rfl⟩)]
  rw[this];exact h
 case buildSlice T len parts=>
  have:(parts.toList.map fun(i,x)=>(i,ev G s' x))=parts.toList.map fun(i,x)=>(i,ev G s x):=bT fun p hp=>by
   obtain⟨i,x⟩:=p
   simp only[he x (by simp only[Op.operands,gu,bj];exact⟨(i,x),hp,rfl⟩)]
  rw[this];exact h
 case load T x=>
  obtain⟨h1,h2⟩:=hm (by simp[dW])
  rw[← he x (by simp[Op.operands])]
  unfold dh at h ⊢
  rw[← h1,← h2];exact h
 case lookup T x k ok=>
  obtain⟨h1,h2⟩:=hm (by simp[dW])
  rw[← he x (by simp[Op.operands]),← he k (by simp[Op.operands])]
  unfold fM ij at h ⊢
  rw[← h1,← h2];exact h
 case range T x=>
  obtain⟨h1,h2⟩:=hm (by simp[dW])
  rw[← he x (by simp[Op.operands])]
  unfold oH at h ⊢
  rw[← h1,← h2];exact h
 case entry x=>
  obtain⟨h1,h2⟩:=hm (by simp[dW])
  rw[← he x (by simp[Op.operands])]
  unfold oI at h ⊢
  rw[← h1,← h2];exact h
 case binOp op T x y yT=>rw[← he x (by simp[Op.operands]),← he y (by simp[Op.operands])];exact h
 case unOp op T x=>rw[← he x (by simp[Op.operands])];exact h
 case convert src dst x=>
  obtain⟨h1,h2⟩:=hm (by simp[dW])
  rw[← he x (by simp[Op.operands]),← FA h1 h2];exact h
 case makeFunc f a b=>rw[← marr a fun x hx=>he x (by simp[Op.operands,hx]),← marr b fun x hx=>he x (by simp[Op.operands,hx])];exact h
 case sliceToArrayPointer T x=>rw[← he x (by simp[Op.operands])];exact h
 case nilCheck x=>rw[← he x (by simp[Op.operands])];exact h
 case slice T x lo hi mx=>
  rw[← he x (by simp[Op.operands]),← mopt lo fun x hx=>he x (by simp[Op.operands,hx]),← mopt hi fun x hx=>he x (by simp[Op.operands,hx]),← mopt mx fun x hx=>he x (by simp[Op.operands,hx])];exact h
 case fieldAddr T x f=>rw[← he x (by simp[Op.operands])];exact h
 case field T x f=>rw[← he x (by simp[Op.operands])];exact h
 case indexAddr T x i=>rw[← he x (by simp[Op.operands]),← he i (by simp[Op.operands])];exact h
 case index T x i=>rw[← he x (by simp[Op.operands]),← he i (by simp[Op.operands])];exact h
 case extract x i=>rw[← he x (by simp[Op.operands])];exact h
 case call c=>
  obtain⟨callee,args,ts⟩:=c
  cases callee with
  |value f=>
   simp only at h ⊢
   obtain⟨h1,h2⟩:=hm (by simp only[dW];split<;>simp)
   rw[← he f (by simp[Op.operands,Call.operands]),← marr args fun x hx=>he x (by simp[Op.operands,Call.operands,hx])]
   unfold rD at h ⊢
   rw[← W3 h1 h2];exact h
  |invoke r m=>exact h
  |builtin b=>
   cases b
   case append=>
    simp only at h ⊢
    obtain⟨h1,h2⟩:=hm (by simp only[dW];split<;>simp)
    have:(args.toList.map fun x=>vw s' (ev G s' x))=args.toList.map fun x=>vw s (ev G s x):=bT fun x hx=>by
     rw[FA h1 h2,he x (by simp only[Op.operands,Call.operands];simpa using hx)]
    rw[this]
    split at h
    ·rename_i hg
     rw[if_pos hg]
     split at h
     ·rename_i NL
      rw[if_pos NL]
      unfold vD at h ⊢
      split at h
      ·rename_i t y d ha
       have ht:s.fr t=s'.fr t:=by
        have:=he (.tmp t) (by simp only[Op.operands,Call.operands];rw[eQ];exact cm.1 (by rw[ha];simp))
        simpa[ev] using this
       have hy:ev G s y=ev G s' y:=he y (by simp only[Op.operands,Call.operands];rw[eQ];exact cm.1 (by rw[ha];simp))
       rw[← ht,← Ay d rfl,← hy,← FA h1 h2]
       exact h
      ·exact h.elim
     ·rename_i NL
      rw[if_neg NL]
      unfold jl at h ⊢
      split at h
      ·rename_i t y d ha
       have ht:s.fr t=s'.fr t:=by
        have:=he (.tmp t) (by simp only[Op.operands,Call.operands];rw[eQ];exact cm.1 (by rw[ha];simp))
        simpa[ev] using this
       have hy:ev G s y=ev G s' y:=he y (by simp only[Op.operands,Call.operands];rw[eQ];exact cm.1 (by rw[ha];simp))
       rw[← ht,← Ay d rfl,← hy,← FA h1 h2]
       exact h
      ·exact h.elim
    ·rename_i hg
     rw[if_neg hg];exact h
   all_goals
    simp only at h ⊢
    rw[← marr args fun x hx=>he x (by simp[Op.operands,Call.operands,hx])];exact h
theorem Ol {s':S} {e:Ef} (Ay:∀ d,o.dst=some d→s.fr d=s'.fr d) (he:∀ x∈o.op.operands,ev G s x=ev G s' x) (hm:dW tr o≠0→s.bx=s'.bx∧s.nb=s'.nb) (h:VEf P G tr o s e):VEf P G tr o s' e:=by
 unfold VEf at h ⊢
 split at h
 ·exact h
 ·rename_i T X ct
  rw[← he X (by rw[ct];simp[Op.operands])];exact h
 ·rename_i T p X ct
  obtain⟨h1,h2⟩:=hm (by simp[dW,ct])
  rw[← he p (by rw[ct];simp[Op.operands]),← he X (by rw[ct];simp[Op.operands]),← h1,← h2];exact h
 ·rename_i T len parts ct
  have:(parts.toList.map fun(i,x)=>(i,ev G s' x))=parts.toList.map fun(i,x)=>(i,ev G s x):=bT fun p hp=>by
   obtain⟨i,x⟩:=p
   simp only[he x (by rw[ct];simp only[Op.operands,gu,bj];exact⟨(i,x),hp,rfl⟩)]
  split at h
  ·rename_i hn
   rw[if_pos hn]
   obtain⟨h1,h2⟩:=hm (by simp[dW,ct,hn])
   rw[this,← h1,← h2];exact h
  ·rename_i hn
   rw[if_neg hn]
   obtain⟨v,h1,h2⟩:=h
   exact⟨v,h1,rK Ay he hm h2⟩
 ·rename_i T l c ct
  obtain⟨h1,h2⟩:=hm (by simp[dW,ct])
  rw[← he l (by rw[ct];simp[Op.operands]),← he c (by rw[ct];simp[Op.operands]),← h1,← h2];exact h
 ·rename_i f args ts ct
  split at h
  ·rename_i hn
   rw[if_pos hn]
   obtain⟨h1,h2⟩:=hm (by simp[dW,ct,hn])
   have:args.toList.map (ev G s)=args.toList.map (ev G s'):=bT fun x hx=>he x (by rw[ct];simp only[Op.operands,Call.operands];simp at hx;simp[hx])
   rw[← he f (by rw[ct];simp[Op.operands,Call.operands]),← this,← h1,← h2];exact h
  ·rename_i hn
   rw[if_neg hn]
   obtain⟨v,h1,h2⟩:=h
   refine⟨v,h1,?_⟩
   unfold VYQ at h2 ⊢
   split
   ·rename_i NO
    rw[if_pos NO] at h2
    obtain⟨q1,q2⟩:=hm (by simp[dW,ct,hn])
    have:args.toList.map (ev G s)=args.toList.map (ev G s'):=bT fun x hx=>he x (by rw[ct];simp only[Op.operands,Call.operands];simp at hx;simp[hx])
    rw[← he f (by rw[ct];simp[Op.operands,Call.operands]),← this]
    exact zx (Nat.le_of_eq q2) (fun i _=>by rw[q1]) h2
   ·rename_i NO
    rw[if_neg NO] at h2
    exact rK Ay he hm h2
 ·rename_i T X ct
  obtain⟨v,h1,lD,h2⟩:=h
  exact⟨v,h1,by rw[← he X (by rw[ct];simp[Op.operands])];exact lD,rK Ay he hm h2⟩
 ·rename_i T m k X ct
  obtain⟨h1,h2⟩:=hm (by simp[dW,ct])
  rw[← he m (by rw[ct];simp[Op.operands]),← he k (by rw[ct];simp[Op.operands]),← he X (by rw[ct];simp[Op.operands]),← h1,← h2];exact h
 ·rename_i T m k ct
  obtain⟨h1,h2⟩:=hm (by simp[dW,ct])
  rw[← he m (by rw[ct];simp[Op.operands]),← he k (by rw[ct];simp[Op.operands]),← h1,← h2];exact h
 ·rename_i T m k X ct
  obtain⟨h1,h2⟩:=hm (by simp[dW,ct])
  rw[← he m (by rw[ct];simp[Op.operands]),← he k (by rw[ct];simp[Op.operands]),← he X (by rw[ct];simp[Op.operands]),← h1,← h2];exact h
 ·rename_i args ts ct
  obtain⟨h1,h2⟩:=hm (by simp[dW,ct])
  have:args.toList.map (ev G s)=args.toList.map (ev G s'):=bT fun x hx=>he x (by rw[ct];simp only[Op.operands,Call.operands];simpa using hx)
  rw[← this,← h1,← h2];exact h
 ·rename_i args ts ct
  split at h
  ·exact h.elim
  rename_i hn
  rw[if_neg hn]
  split at h
  ·rename_i hr
   rw[if_pos hr]
   obtain⟨h1,h2⟩:=hm (by simp[dW,ct,hr])
   have:args.toList.map (ev G s)=args.toList.map (ev G s'):=bT fun x hx=>he x (by rw[ct];simp only[Op.operands,Call.operands];simpa using hx)
   rw[← this,← h1,← h2];exact h
  ·rename_i hr
   rw[if_neg hr]
   obtain⟨v,h1,h2⟩:=h
   exact⟨v,h1,rK Ay he hm h2⟩
 ·rename_i args ts ct
  obtain⟨h1,h2⟩:=hm (by simp[dW,ct])
  have:args.toList.map (ev G s)=args.toList.map (ev G s'):=bT fun x hx=>he x (by rw[ct];simp only[Op.operands,Call.operands];simpa using hx)
  rw[← this,← h1,← h2];exact h
 ·obtain⟨v,h1,h2⟩:=h
  exact⟨v,h1,rK Ay he hm h2⟩
def yO (ops:Array Oper) (o:Oper) (s:S):Option Bool:=
 match o.guard with
 |none=>some true
 |some (j,want)=>match(ops[j]?).bind (·.dst) with
  |some d=>match s.fr d with
   | .c (.lit (.bool p))=>some (p==want)
   | .sk=>some false
   |_=>none
  |none=>none
def TEf (P:Program) (G:Gl) (tr:List Nat) (ops:Array Oper) (o:Oper) (s:S) (e:Ef):Prop:=
 (yO ops o s=some true∧VEf P G tr o s e∧e≠.skip)∨(yO ops o s=some false∧e=.skip)
theorem kg {K:S→Prop} (Do:o1 tr o=false) (h:nr ops o s (fun s=>VStep P G tr o s K) (fun s=>K (s.put o.dst .sk))):∃ e,TEf P G tr ops o s e∧K (e.run tr o s):=by
 unfold nr at h
 have yes:yO ops o s=some true→VStep P G tr o s K→∃ e,TEf P G tr ops o s e∧K (e.run tr o s):=fun hg hv=>by
  obtain⟨e,h1,h2,h3⟩:=hv.ef Do
  exact⟨e,.inl ⟨hg,h2,h1⟩,h3⟩
 have no:yO ops o s=some false→K (s.put o.dst .sk)→∃ e,TEf P G tr ops o s e∧K (e.run tr o s):=fun hg hv=>⟨.skip,.inr ⟨hg,rfl⟩,by rw[Bo];exact hv⟩
 split at h
 ·rename_i hg
  exact yes (by unfold yO;rw[hg]) h
 ·rename_i j want hg
  split at h
  ·rename_i d hd
   split at h
   ·rename_i p hp
    by_cases hpw:p=want
    ·subst hpw
     have:=h.1 rfl
     rw[S.up_id hp] at this
     exact yes (by unfold yO;simp only[hg,hd,hp,beq_self_eq_true]) this
    ·have hpn:p=!want:=by cases p<;>cases want<;>simp_all
     have:=h.2 hpn
     rw[← hpn,S.up_id hp] at this
     exact no (by unfold yO;simp only[hg,hd,hp];simpa using hpw) this
   ·rename_i hp
    exact no (by unfold yO;simp only[hg,hd,hp]) h
   ·exact h.elim
  ·exact h.elim
theorem qJ (aR:St G n I0 M w0 I β ob s a w) {p:Bool} (h:yO ops o s=some p):Region.wanted o (yielded ops a.tmps)=p:=by
 unfold yO at h
 unfold Region.wanted
 split at h
 ·rename_i hg;rw[hg];simpa using h
 ·rename_i j want hg
  rw[hg]
  split at h
  ·rename_i d hd
   split at h
   ·rename_i q hq
    simp only[xA aR hd hq]
    simp only[ao] at h
    rw[← h];cases q<;>cases want<;>rfl
   ·rename_i hq
    simp only[Bh aR hd hq]
    simp only[ao] at h
    rw[← h];rfl
   ·cases h
  ·cases h
def wz (P:Program) (G:Gl) (tr:List Nat) (ops:Array Oper) (i:Nat) (K:S→Prop) (s:S):Prop:=
 match ops[i]? with
 |none=>K s
 |some o=>∃ e,TEf P G tr ops o s e∧K (e.run tr o s)
def FB (P:Program) (G:Gl) (tr:List Nat) (md:Region.Mode) (ops:Array Oper) (K:S→Prop):Nat→Array Bool→S→Prop
 |0,listed,s=>Region.ready md ops listed=[]∧K s
 |fuel+1,listed,s=>
  (Region.ready md ops listed=[]→K s)∧
  ∀ i∈Region.ready md ops listed,wz P G tr ops i (FB P G tr md ops K fuel (listed.setIfInBounds i true)) s
theorem pI (eH:mf n ops=true) {K:S→Prop} (hK:∀ a w s,K s→SE G n I0 M w0 s a w→Q .normal a w):∀ (fuel:Nat) (listed:Array Bool) (s:S) (a:Act) (w:World),
 FB P G tr md ops K fuel listed s→SE G n I0 M w0 s a w→wpAny P md ops Q fuel listed a w
 |0,_,_,_,_,h,dE=>⟨h.1,hK _ _ _ h.2 dE⟩
 |fuel+1,_,s,a,w,h,dE=>by
  refine⟨fun h0=>hK _ _ _ (h.1 h0) dE,fun i hi=>?_⟩
  have hh:=h.2 i hi
  unfold wz at hh
  unfold wpOp
  split
  ·rename_i ho;simp only[ho] at hh;exact pI eH hK fuel _ s a w hh dE
  ·rename_i o ho
   simp only[ho] at hh
   obtain⟨e,he,hh⟩:=hh
   have j8:o∈ops.toList:=by
    have:=fX ho
    simpa using this
   obtain⟨I,β,ob,aR⟩:=dE
   rcases he with⟨hg,hv,_⟩ | ⟨hg,rfl⟩
   ·rw[if_pos (qJ aR hg)]
    exact .inl (DK aR (eX eH j8) hv fun a' w' tZ=>pI eH hK fuel _ _ a' w' hh tZ)
   ·rw[qJ aR hg]
    simp only[aY,dm]
    rw[Bo] at hh
    exact pI eH hK fuel _ _ _ w hh (SE.put aR (eX eH j8) (by simp only[LR];exact .sk))
def wr (tr:List Nat) (o:Oper):List Tmp:=o.dst.toList++(bY tr o).toList
def mN (tr:List Nat) (x y:Oper):Bool:=match x.op,x.dst,y.op with
 | .load _ _,some d,.store _ (.tmp t) _=>tr.contains (200000+d)&&tr.contains (200000+t)&&(List.range 100).all fun b=>!(tr.contains (300000+d*100+b)&&tr.contains (300000+t*100+b))
 | .load _ _,some d,.call { callee:=.value _,.. }=>tr.contains (200000+d)&&(xi tr y.dst&&CP tr y.dst)&&(List.range 100).all fun b=>!(tr.contains (300000+d*100+b)&&tr.contains (500000+y.dst.getD 0*100+b))
 |_,_,_=>false
def o9 (x y:Oper):Bool:=match x.op,y.op with
 | .lookup T (.tmp m) (.tmp k) false,.mapEntry U (.tmp m') (.tmp k')=>T==U&&m==m'&&k==k'
 |_,_=>false
def xE (tr:List Nat) (x y:Oper):Bool:=dW tr x==1&&match y.op with
 | .alloc _=>true
 | .box _ _=>true
 | .buildSlice _ _ _=>nR tr y.dst
 |_=>false
def FC (tr:List Nat) (ops:Array Oper) (x y:Oper):Bool:=
 ((wr tr x).all fun d=>!(y.looksAt ops).contains d&&!(wr tr y).contains d)&&((wr tr y).all fun d=>!(x.looksAt ops).contains d)&&
 ((dW tr x !=2||dW tr y==0||(mN tr y x||o9 y x))&&(dW tr y !=2||dW tr x==0||(mN tr x y||(o9 x y||xE tr x y))))
structure Hp (tr:List Nat) (ops:Array Oper) (x y:Oper):Prop where
 xy:∀ d∈wr tr x,d∉y.looksAt ops
 ww:∀ d∈wr tr x,d∉wr tr y
 yx:∀ d∈wr tr y,d∉x.looksAt ops
 mx:dW tr x=2→dW tr y=0∨mN tr y x=true∨o9 y x=true
 my:dW tr y=2→dW tr x=0∨mN tr x y=true∨o9 x y=true∨xE tr x y=true
theorem Hq {x y:Oper} (h:FC tr ops x y=true):Hp tr ops x y:=by
 simp only[FC,aS,ba,dJ,iG,cQ,eV,bne_iff_ne,kr] at h
 obtain⟨⟨h1,h2⟩,h3,h4⟩:=h
 exact⟨fun d hd=>(h1 d hd).1,fun d hd=>(h1 d hd).2,h2,fun h=>by rcases h3 with(h3 | h3) | h3;exact absurd h h3;exact .inl h3;exact .inr h3,
  fun h=>by rcases h4 with(h4 | h4) | h4;exact absurd h h4;exact .inl h4;exact .inr h4⟩
def tH (tr:List Nat) (o:Oper) (u:Bool) (x:V) (fr:Nat→V):Nat→V:=Hm o.dst x (Fw u (bY tr o) fr)
theorem Bq (u:Bool) (c:Option Tmp) (fr:Nat→V) (t:Nat):Fw u c fr t=if c=some t∧u=true∧(fr t).isOw=true then .un else fr t:=by
 unfold Fw
 cases c with
 |none=>simp
 |some q=>
  simp only
  by_cases hq:q=t
  ·subst hq
   by_cases h:u=true∧(fr q).isOw=true
   ·rw[if_pos (by simp[h.1,h.2]),bW,if_pos ⟨rfl,h⟩]
   ·rw[if_neg (by simpa using h),if_neg (fun e=>h e.2)]
  ·have:¬ (some q=some t∧u=true∧(fr t).isOw=true):=fun e=>hq (by simpa using e.1)
   rw[if_neg this]
   split
   ·rw[cY _ _ (gJ hq)]
   ·rfl
theorem oa (u:Bool) (x:V) (fr:Nat→V) (t:Nat):tH tr o u x fr t=if o.dst=some t then x else if bY tr o=some t∧u=true∧(fr t).isOw=true then .un else fr t:=by
 unfold tH Hm
 cases o.dst with
 |none=>simpa using Bq u (bY tr o) fr t
 |some d=>
  simp only
  by_cases hd:d=t
  ·subst hd;simp
  ·rw[cY _ _ (gJ hd),if_neg (by simpa using hd)]
   exact Bq u (bY tr o) fr t
theorem ka {u:Bool} {x:V} {fr:Nat→V} {t:Nat} (h:t∉wr tr o):tH tr o u x fr t=fr t:=by
 simp only[wr,aV,Option.mem_toList,not_or] at h
 rw[oa,if_neg h.1,if_neg (fun e=>h.2 e.1)]
theorem Br {x y:Oper} (h:∀ d∈wr tr x,d∉wr tr y) (u u':Bool) (vx vy:V) (fr:Nat→V) :
 tH tr y u' vy (tH tr x u vx fr)=tH tr x u vx (tH tr y u' vy fr):=by
 funext t
 by_cases hx:t∈wr tr x
 ·rw[ka (h t hx),oa,oa,ka (h t hx)]
 ·have e1:tH tr x u vx fr t=fr t:=ka hx
  have e2:tH tr x u vx (tH tr y u' vy fr) t=tH tr y u' vy fr t:=ka hx
  rw[e2,oa (o:=y),e1,oa (o:=y)]
theorem Bs (e:Ef):e.run tr o s=⟨tH tr o e.uses (e.val s.nb) s.fr,e.bx s.nb s.bx,e.nb s.nb⟩:=rfl
theorem W5 {e:Ef} (h:VEf P G tr o s e) (hm:dW tr o≠2):∃ v,e=.v v:=by
 unfold VEf at h
 split at h
 ·rename_i ct;simp[dW,ct] at hm
 ·rename_i ct;simp[dW,ct] at hm
 ·rename_i ct;simp[dW,ct] at hm
 ·rename_i ct
  split at h
  ·rename_i hn;simp[dW,ct,hn] at hm
  ·obtain⟨v,rfl,_⟩:=h;exact⟨v,rfl⟩
 ·rename_i ct;simp[dW,ct] at hm
 ·rename_i ct
  split at h
  ·rename_i hn;simp[dW,ct,hn] at hm
  ·obtain⟨v,rfl,_⟩:=h;exact⟨v,rfl⟩
 ·obtain⟨v,rfl,_⟩:=h;exact⟨v,rfl⟩
 ·rename_i ct;simp[dW,ct] at hm
 ·rename_i ct;simp[dW,ct] at hm
 ·rename_i ct;simp[dW,ct] at hm
 ·rename_i ct;simp[dW,ct] at hm
 ·rename_i ct
  split at h
  ·exact h.elim
  split at h
  ·rename_i hr;simp[dW,ct,hr] at hm
  ·obtain⟨v,rfl,_⟩:=h;exact⟨v,rfl⟩
 ·rename_i ct;simp[dW,ct] at hm
 ·obtain⟨v,rfl,_⟩:=h;exact⟨v,rfl⟩
theorem AH {e:Ef} (h:TEf P G tr ops o s e) (hm:dW tr o≠2):(∃ v,e=.v v)∨e=.skip:=by
 rcases h with⟨_,h,_⟩ | ⟨_,h⟩
 ·exact .inl (W5 h hm)
 ·exact .inr h
theorem pt {e:Ef} (h:(∃ v,e=.v v)∨e=.skip) (bx:Nat→List V) (nb nb':Nat):e.bx nb bx=bx∧e.nb nb=nb∧e.val nb=e.val nb':=by
 rcases h with⟨v,rfl⟩ | rfl<;>exact⟨rfl,rfl,rfl⟩
theorem jR {s':S} (h:∀ t∈o.looksAt ops,s.fr t=s'.fr t):yO ops o s=yO ops o s':=by
 unfold yO
 split
 ·rfl
 ·rename_i j want hg
  split
  ·rename_i d hd
   have:d∈o.looksAt ops:=by
    unfold Oper.looksAt
    rw[hg]
    simp only[aV,Option.mem_toList]
    exact .inr hd
   rw[h d this]
  ·rfl
theorem jS {x:Operand} {t:Tmp} (hx:x∈o.op.operands) (ht:x=.tmp t):t∈o.looksAt ops:=by
 unfold Oper.looksAt
 simp only[aV,List.mem_filterMap]
 exact .inl ⟨x,by simpa using hx,by rw[ht]⟩
theorem u7 {s':S} {e:Ef} (Ay:∀ d,o.dst=some d→s.fr d=s'.fr d) (hl:∀ t∈o.looksAt ops,s.fr t=s'.fr t) (hm:dW tr o≠0→s.bx=s'.bx∧s.nb=s'.nb) (h:TEf P G tr ops o s e):TEf P G tr ops o s' e:=by
 rcases h with⟨h1,h2,h3⟩ | ⟨h1,h2⟩
 ·exact .inl ⟨by rw[← jR hl];exact h1,Ol Ay (fun x hx=>Bp fun t ht=>hl t (jS hx ht)) hm h2,h3⟩
 ·exact .inr ⟨by rw[← jR hl];exact h1,h2⟩
theorem sJ {x y:Oper} (h:mN tr x y=true):∃ T X d,x.op=.load T X∧x.dst=some d∧tr.contains (200000+d)=true∧
 ((∃ U t Y,y.op=.store U (.tmp t) Y∧tr.contains (200000+t)=true∧∀ b,b<100→tr.contains (300000+d*100+b)=true→tr.contains (300000+t*100+b)=true→False)∨
  (∃ c f,y.op=.call c∧c.callee=.value f∧xi tr y.dst=true∧CP tr y.dst=true∧∀ b,b<100→tr.contains (300000+d*100+b)=true→tr.contains (500000+y.dst.getD 0*100+b)=true→False)):=by
 unfold mN at h
 split at h
 ·rename_i T X d U t Y h1 h2 h3
  simp only[aS,ba] at h
  refine⟨T,X,d,h1,h2,h.1.1,.inl ⟨U,t,Y,h3,h.1.2,fun b hb q1 q2=>?_⟩⟩
  have:=h.2 b (df.2 hb)
  rw[q1,q2] at this
  cases this
 ·rename_i T X d f args ts h1 h2 h3
  simp only[aS,ba] at h
  refine⟨T,X,d,h1,h2,h.1.1,.inr ⟨_,f,h3,rfl,h.1.2.1,h.1.2.2,fun b hb q1 q2=>?_⟩⟩
  have:=h.2 b (df.2 hb)
  rw[q1,q2] at this
  cases this
 ·cases h
theorem Hr {x y:Oper} (h:mN tr x y=true):dW tr x=1:=by
 obtain⟨T,X,d,h1,_⟩:=sJ h
 simp[dW,h1]
theorem Q0 {T:TypeId} {s':S} {b k:Nat} {K:V→Prop} (hb:s'.bx b=s.bx b) (hn:s'.nb=s.nb) (h:dh P T s (.bp b k) K):dh P T s' (.bp b k) K:=by
 unfold dh at *
 cases hT:ti P T with
 |none=>rw[hT] at h;exact h.elim
 |some i=>
  rw[hT] at h
  simp only at h ⊢
  rw[hb,hn];exact h
theorem zy {T:TypeId} {s':S} {K:V→Prop} (hx:∀ b k,x≠.bp b k) (hex:∀ v,x≠.c (.ex v)) (h:dh P T s x K):dh P T s' x K:=by
 unfold dh at *
 cases hT:ti P T with
 |none=>rw[hT] at h;exact h.elim
 |some i=>
  rw[hT] at h
  cases x with
  |c c=>
   cases c with
   |ex v=>exact absurd rfl (hex v)
   |_=>exact h
  |bp b k=>exact absurd rfl (hx b k)
  |_=>exact h.elim
theorem Ht {x y:Oper} {f:Ef} (dV:mN tr x y=true) (hy:TEf P G tr ops y s f):f.nb s.nb=s.nb∧∀ d b,x.dst=some d→b<100→tr.contains (300000+d*100+b)=true→f.bx s.nb s.bx b=s.bx b:=by
 obtain⟨T,X,d,J0,hx2,hd,JJ⟩:=sJ dV
 rcases hy with⟨_,hv,_⟩ | ⟨_,rfl⟩
 ·unfold VEf at hv
  rcases JJ with⟨U,t,Y,EJ,ht,mH⟩ | ⟨c,g,EJ,hy2,hm,hl,mH⟩
  ·rw[EJ] at hv
   simp only at hv
   obtain⟨lD,hv⟩:=hv
   split at hv
   ·rename_i i b k cs h1 h2 h3
    obtain⟨_,rfl⟩:=hv
    rw[h2] at lD
    simp only[J5,oR,QC,ht,kG,Bool.false_or,aS,bJ] at lD
    refine⟨rfl,fun d' b' qo yC Dj=>?_⟩
    rw[hx2] at qo;cases qo
    have gW:b'≠b:=by rintro rfl;exact mH b' yC Dj lD.2
    simp only[Ef.bx,cY _ _ gW]
   ·rename_i i blk j h1 h2
    rw[h2] at lD
    simp only[J5,oR,ht,kG] at lD
    cases lD
   ·exact hv.elim
  ·obtain⟨callee,args,ts⟩:=c
   simp only at hy2;subst hy2
   rw[EJ] at hv
   simp only[hm,db] at hv
   obtain⟨bx,nb,x',rfl,_,h2⟩:=hv
   obtain⟨h3,h4⟩:=h2 hl
   refine⟨h3,fun d' b' qo yC Dj=>?_⟩
   rw[hx2] at qo;cases qo
   rcases h4 b' with h | ⟨_,h⟩
   ·exact h
   ·exact(mH b' yC Dj h).elim
 ·exact⟨rfl,fun _ _ _ _ _=>rfl⟩
theorem Q1 {x y:Oper} {e:Ef} {s':S} (dV:mN tr x y=true) (hl:∀ t∈x.looksAt ops,s.fr t=s'.fr t)
 (ou:∀ d b,x.dst=some d→b<100→tr.contains (300000+d*100+b)=true→s'.bx b=s.bx b) (zi:s'.nb=s.nb) (h:TEf P G tr ops x s e):TEf P G tr ops x s' e:=by
 obtain⟨T,X,d,J0,hx2,hd,_⟩:=sJ dV
 rcases h with⟨h1,h2,h3⟩ | ⟨h1,h2⟩
 ·refine .inl ⟨by rw[← jR hl];exact h1,?_,h3⟩
  have tO:ev G s X=ev G s' X:=Bp fun q hq=>hl q (jS (by rw[J0];simp[Op.operands]) hq)
  unfold VEf at h2 ⊢
  rw[J0] at h2 ⊢
  simp only at h2 ⊢
  obtain⟨v,he,lD,hv⟩:=h2
  refine⟨v,he,by rw[← tO];exact lD,?_⟩
  obtain⟨dst,op,type,pos,after,guard⟩:=x
  simp only at J0 hx2 lD tO ou
  subst J0;subst hx2
  simp only[VYK] at hv ⊢
  rw[← tO]
  rcases JJ:ev G s X with _ | _ | c | _ | _ | _ | ⟨b,k⟩ | _ | _ | _
  case bp=>
   rw[JJ] at lD hv
   simp only[oR,QC,hd,kG,Bool.false_or,aS,bJ] at lD
   exact Q0 (ou d b rfl lD.1 lD.2) zi hv
  case c=>
   rw[JJ] at lD hv
   refine zy (fun _ _ e=>by cases e) (fun v e=>?_) hv
   cases e
   simp only[oR,hd,kG] at lD
   cases lD
  all_goals
   rw[JJ] at hv
   exact zy (fun _ _ e=>by cases e) (fun _ e=>by cases e) hv
 ·exact .inr ⟨by rw[← jR hl];exact h1,h2⟩
theorem sK {x y:Oper} (h:o9 x y=true):∃ T m k,x.op=.lookup T (.tmp m) (.tmp k) false∧y.op=.mapEntry T (.tmp m) (.tmp k):=by
 unfold o9 at h
 split at h
 ·rename_i T m k U m' k' h1 h2
  simp only[aS,kr] at h
  obtain⟨⟨rfl,rfl⟩,rfl⟩:=h
  exact⟨T,m,k,h1,h2⟩
 ·cases h
theorem Hu {x y:Oper} (h:o9 x y=true):dW tr x=1∧dW tr y=2:=by
 obtain⟨T,m,k,h1,h2⟩:=sK h
 simp[dW,h1,h2]
theorem Bt {ag:Bool}:∀ {r:List V} {l:List (List C)},jQ ag r=some l→r.length=2*l.length
 |[],l,h=>by simp only[jQ,ao] at h;subst h;rfl
 |[_],l,h=>by simp[jQ] at h
 |k::v::r,l,h=>by
  unfold jQ at h
  split at h
  ·rename_i q l' h1 h2
   simp only[ao] at h;subst h
   have:=Bt h2
   simp[this];omega
  ·cases h
theorem zA {ag:Bool} {k v:V} {q:List C} (hk:k.kcs ag=some q):∀ {r:List V} {l:List (List C)},jQ ag r=some l→jQ ag (r++[k,v])=some (l++[q])
 |[],l,h=>by simp only[jQ,ao] at h;subst h;simp[jQ,hk]
 |[_],l,h=>by simp[jQ] at h
 |k'::v'::r,l,h=>by
  unfold jQ at h
  split at h
  ·rename_i q' l' h1 h2
   simp only[ao] at h;subst h
   have:=zA (v:=v) hk h2
   simp only[fa,jQ,h1,this]
  ·cases h
theorem Bu {ks:List EK} {k:List C} (hl:k.length=ks.length) (hr:jB ks k k=some true):∀ {l:List (List C)} {i:Nat},ng ks k l i=some none→ng ks k (l++[k]) i=some (some (i+l.length))
 |[],i,_=>by simp[ng,hl,hr]
 |k'::l,i,h=>by
  unfold ng at h
  split at h
  ·rename_i h1
   split at h
   ·cases h
   ·rename_i h2
    simp only[fa,ng,h1,db,h2]
    rw[Bu hl hr h];simp;omega
   ·cases h
  ·cases h
theorem Bv {T:TypeId} {k:V} {K:S→V→Prop} (h:fV P T s x k K):∃ w,fM P T s x k false (fun u=>w=u):=by
 unfold fV at h
 obtain⟨i,bs,cl,r,res,z,h1,h2⟩:=ja h
 cases res with
 |none=>exact⟨_,gA h1 rfl⟩
 |some j=>exact⟨_,gA h1 rfl⟩
theorem zB {T:TypeId} {bx':Nat→List V} {k v u:V} {s':S} (h:fV P T s x k (fun s' u'=>bx'=s'.bx∧u=u')) (hv:fM P T s x k false (fun w=>v=w)) (h1:s'.bx=bx') (h2:s'.nb=s.nb) :
 fM P T s' x k false (fun w=>v=w):=by
 subst h1
 unfold fV at h
 obtain⟨i,kt,et,tT,tk,te,ks,kc,z,bs,cl,r,kcs,res,q1,q2,rfl,q3,q4,q5,q6,q7,q8,q9,q10,⟨q11,q12,q13,q14⟩,hK⟩:=wu h
 have hv':fM P T s (.mr i) k false (fun w=>(match res with | some j=>(r.getD (2*j+1) .un).fz | none=>z)=w):=by
  unfold fM
  refine rJ q1 q2 q3 q4 q5 q6 q7 q8 q9 q10 q11 q12 q13 q14 ?_
  cases res<;>rfl
 have Gx:=zu hv hv'
 unfold fM
 cases res with
 |some j=>
  obtain⟨hb,_⟩:=hK
  refine rJ q1 q2 q3 q4 q5 q6 q7 (by rw[hb];exact q8) q9 q10 (by rw[h2];exact q11) q12 q13 q14 ?_
  exact Gx
 |none=>
  obtain⟨hb,_⟩:=hK
  have hkf:k.fz.kcs tk.agg=some kc:=by cases k<;>simp_all[V.fz,V.kcs]
  have hz:z.fz=z:=by
   unfold re at q7;split at q7<;>first | (simp only[ao] at q7;subst q7;rfl) | cases q7
  have cg:=Bt q9
  refine rJ (bs:=bs++[cl]) (cl:=cl+1) (r:=r++[k.fz,z]) q1 q2 q3 q4 q5 q6 q7 (by rw[hb];simp only[bW]) (zA hkf q9) (Bu q12 q13 q10) (by rw[h2];exact q11) q12 q13 q14 ?_
  simp only
  rw[show v=z from Gx]
  have:(r++[k.fz,z]).getD (2*(0+kcs.length)+1) .un=z:=by
   rw[aX,← cg];simp
  rw[this,hz];rfl
theorem yP {s':S} (hn:s.nb≤s'.nb) (hb:∀ i,i<s.nb→s'.bx i=s.bx i) {i:Nat} {cs:List C} (h:Af s i=some cs):Af s' i=some cs:=by
 unfold Af at *
 split at h
 ·rename_i hi;rw[if_pos (by omega),hb i hi];exact h
 ·cases h
theorem wA {s':S} (hn:s.nb≤s'.nb) (hb:∀ i,i<s.nb→s'.bx i=s.bx i) {i off len sz:Nat} {c:C} (h:mJ s i off len sz=some c):mJ s' i off len sz=some c:=by
 unfold mJ at *
 split at h
 ·rename_i cs hc;simp only[yP hn hb hc];exact h
 ·cases h
theorem yQ {s':S} (hn:s.nb≤s'.nb) (hb:∀ i,i<s.nb→s'.bx i=s.bx i) {x:V} {c:C} (h:v8 s x=some c):v8 s' x=some c:=by
 unfold v8 at *
 split at h
 ·exact h
 ·exact h
 ·obtain⟨cs,hc,rfl⟩:=aW.1 h;rw[yP hn hb hc];rfl
 ·exact wA hn hb h
 ·cases h
theorem mi {α β:Type} {f g:α→Option β} (h:∀ x y,f x=some y→g x=some y):∀ {l:List α} {r:List β},l.mapM f=some r→l.mapM g=some r
 |[],r,hr=>by simpa using hr
 |x::l,r,hr=>by
  rw[fm] at hr ⊢
  cases hx:f x with
  |none=>rw[hx] at hr;cases hr
  |some y=>
   rw[hx] at hr
   rw[h x y hx]
   cases hl:l.mapM f with
   |none=>rw[hl] at hr;cases hr
   |some r'=>rw[hl] at hr;rw[mi h hl];exact hr
theorem xF {s':S} (hn:s.nb≤s'.nb) (hb:∀ i,i<s.nb→s'.bx i=s.bx i) {x y:V} (h:imm s x=some y):imm s' x=some y:=by
 unfold imm at *
 split at h
 ·exact h
 ·exact h
 ·exact h
 ·obtain⟨cs,hc,rfl⟩:=aW.1 h;rw[yP hn hb hc];rfl
 ·split at h
  ·rename_i e1 e2
   simp only[mi (fun _ _=>yQ hn hb) e1,mi (fun _ _=>yQ hn hb) e2];exact h
  ·cases h
 ·obtain⟨c,hc,rfl⟩:=aW.1 h;rw[wA hn hb hc];rfl
 ·obtain⟨c,hc,rfl⟩:=aW.1 h;rw[mi (fun _ _=>yQ hn hb) hc];rfl
 ·cases h
theorem u9 {s':S} (hn:s.nb≤s'.nb) (hb:∀ i,i<s.nb→s'.bx i=s.bx i) (x:V):vw s x=vw s' x∨vw s x=.un:=by
 cases x<;>try exact .inl rfl
 case ms i off len cap sz=>
  simp only[vw]
  cases hv:mJ s i off len sz with
  |none=>exact .inr rfl
  |some c=>rw[wA hn hb hv];exact .inl rfl
theorem Om {s':S} {ts:List TypeId} {z y:V} {K:V→Prop} (hn:s.nb≤s'.nb) (hb:∀ i,i<s.nb→s'.bx i=s.bx i) (h:eW P .append ts [z,vw s y] K):eW P .append ts [z,vw s' y] K:=by
 rcases u9 hn hb y with e2 | e2
 ·rw[← e2];exact h
 ·rw[e2] at h
  unfold eW at h
  split at h<;>first | cases ‹Builtin.append=_› | skip
  ·rename_i t t' x y' hxy
   obtain⟨rfl,rfl⟩:z=x∧V.un=y':=by
    simp only[cB,gK] at hxy;exact hxy
   split at h
   ·exfalso
    unfold dN at h
    split at h
    ·split at h
     ·exact h.2.elim
     ·exact h.elim
    ·exact h.elim
   ·exfalso;unfold qH at h;simp[V.fz] at h
  ·exact h.elim
theorem Ku {s':S} {ts:List TypeId} {E:Option (TypeId×Nat)} {es:List (List C)} {y:V} {K:V→Prop} (hn:s.nb≤s'.nb) (hb:∀ i,i<s.nb→s'.bx i=s.bx i) (h:ud P ts E es (vw s y).fz K):ud P ts E es (vw s' y).fz K:=by
 rcases u9 hn hb y with e2 | e2
 ·rw[← e2];exact h
 ·exfalso
  rw[e2] at h
  unfold ud at h
  split at h
  ·obtain⟨_,h⟩:=h
   split at h
   ·split at h
    ·obtain⟨_,h⟩:=h
     split at h
     ·rename_i e;cases e
     ·exact h.elim
    ·exact h.elim
   ·exact h.elim
  ·exact h.elim
theorem Bw {s':S} {ts:List TypeId} {E:Option (TypeId×Nat)} {es:List (List C)} {y:V} {K:V→Prop} (hn:s.nb≤s'.nb) (hb:∀ i,i<s.nb→s'.bx i=s.bx i) (h:nh P ts E es (vw s y).fz K):nh P ts E es (vw s' y).fz K:=by
 rcases u9 hn hb y with e2 | e2
 ·rw[← e2];exact h
 ·exfalso
  rw[e2] at h
  unfold nh at h
  split at h
  ·obtain⟨_,h⟩:=h
   split at h
   ·split at h
    ·obtain⟨_,h⟩:=h
     split at h
     ·rename_i e;cases e
     ·exact h.elim
    ·exact h.elim
   ·exact h.elim
  ·exact h.elim
theorem xG {s':S} {K:V→Prop} (Ay:∀ d,o.dst=some d→s.fr d=s'.fr d) (he:∀ x∈o.op.operands,ev G s x=ev G s' x) (hn:s.nb≤s'.nb) (hb:∀ i,i<s.nb→s'.bx i=s.bx i) (hm:dW tr o=1) (h:VYK P G tr o s K):VYK P G tr o s' K:=by
 have marr:∀ l:Array Operand,(∀ x∈l,ev G s x=ev G s' x)→l.toList.map (ev G s)=l.toList.map (ev G s'):=fun l hl=>bT fun x hx=>hl x (by simpa using hx)
 have Mf:=hm
 obtain⟨dst,op,type,pos,after,guard⟩:=o
 cases op<;>simp only[dW] at hm<;>try cases hm
 case buildSlice=>split at hm<;>cases hm
 case load T x=>
  simp only[VYK] at h ⊢
  rw[← he x (by simp[Op.operands])]
  unfold dh at h ⊢
  split at h
  ·exact h
  ·rename_i i b k _
   obtain⟨⟨h1,h2⟩,h3⟩:=h
   rw[hb _ h1]
   exact⟨⟨by omega,h2⟩,h3⟩
  ·rcases h with⟨h1,b,k,len,cap,E,es,c,⟨q1,q2,q3,q4⟩,h⟩ | ⟨b,k,len,cap,E,es,⟨q1,q2,q3⟩,h⟩
   ·exact .inl ⟨h1,b,k,len,cap,E,es,c,⟨by omega,by rw[hb _ q1];exact q2,by rw[hb _ q1];exact q3,q4⟩,h⟩
   ·exact .inr ⟨b,k,len,cap,E,es,⟨by omega,by rw[hb _ q1];exact q2,by rw[hb _ q1];exact q3⟩,h⟩
  ·exact h.elim
 case convert src dst' x=>
  simp only[VYK] at h ⊢
  rw[← he x (by simp[Op.operands])]
  rcases u9 hn hb (ev G s x) with e | e
  ·rw[← e];exact h
  ·rw[e] at h;simp[V.fz,qG] at h
 case lookup T x k ok=>
  simp only[VYK] at h ⊢
  rw[← he x (by simp[Op.operands]),← he k (by simp[Op.operands])]
  unfold fM at h ⊢
  obtain⟨i,kt,et,tT,tk,te,ks,kc,z,bs,cl,r,kcs,res,q1,q2,q3,q4,q5,q6,q7,q8,q9,q10,q11,⟨q12,q13,q14,q15⟩,hK⟩:=wu h
  rw[q3]
  exact rJ q1 q2 q4 q5 q6 q7 q8 (by rw[hb i q12];exact q9) q10 q11 (by omega) q13 q14 q15 hK
 case range T x=>
  simp only[VYK] at h ⊢
  rw[← he x (by simp[Op.operands])]
  unfold oH at h ⊢
  split at h
  ·rename_i i _
   split at h
   ·rename_i e1
    obtain⟨h1,h2⟩:=h
    rw[hb _ h1];simp only[e1];exact⟨by omega,h2⟩
   ·exact h.elim
  ·exact h.elim
 case entry x=>
  simp only[VYK] at h ⊢
  rw[← he x (by simp[Op.operands])]
  unfold oI at h ⊢
  split at h
  ·rename_i i since stepped seen _
   split at h
   ·rename_i e1 e2
    split at h
    ·rename_i e3
     obtain⟨⟨h1,h0⟩,h2⟩:=h
     rw[hb _ h1];simp only[e1,e2,e3];exact⟨⟨by omega,h0⟩,h2⟩
    ·exact h.elim
   ·exact h.elim
  ·exact h.elim
 case call c=>
  obtain⟨callee,args,ts⟩:=c
  cases callee with
  |value f=>
   simp only[VYK] at h ⊢
   rw[← he f (by simp[Op.operands,Call.operands]),← marr args fun x hx=>he x (by simp[Op.operands,Call.operands,hx])]
   unfold rD at h ⊢
   split at h
   ·split at h
    ·rename_i e1;simp only[mi (fun _ _=>xF hn hb) e1];exact h
    ·exact h.elim
   ·split at h
    ·rename_i e1 e2 e3
     simp only[mi (fun _ _=>xF hn hb) e1,mi (fun _ _=>xF hn hb) e2,mi (fun _ _=>xF hn hb) e3];exact h
    ·exact h.elim
   ·exact h.elim
  |invoke r m=>exact h.elim
  |builtin b=>
   cases b<;>first | (simp[dW] at Mf;done) | skip
   case append=>
    by_cases hgh:A2 tr dst=true
    ·simp only[VYK,if_pos hgh] at h ⊢
     by_cases hho:wh tr dst=true
     ·rw[if_pos hho] at h ⊢
      unfold vD at h ⊢
      split at h
      ·rename_i t y d ha
       have ht:s.fr t=s'.fr t:=by
        have:=he (.tmp t) (by simp only[Op.operands,Call.operands];rw[eQ];exact cm.1 (by rw[ha];simp))
        simpa[ev] using this
       have hy:ev G s y=ev G s' y:=he y (by simp only[Op.operands,Call.operands];rw[eQ];exact cm.1 (by rw[ha];simp))
       rw[← ht,← Ay d rfl,← hy]
       split at h
       ·exact⟨h.1,Ku hn hb h.2⟩
       ·exact h.elim
      ·exact h.elim
     ·rw[if_neg hho] at h ⊢
      unfold jl at h ⊢
      split at h
      ·rename_i t y d ha
       have ht:s.fr t=s'.fr t:=by
        have:=he (.tmp t) (by simp only[Op.operands,Call.operands];rw[eQ];exact cm.1 (by rw[ha];simp))
        simpa[ev] using this
       have hy:ev G s y=ev G s' y:=he y (by simp only[Op.operands,Call.operands];rw[eQ];exact cm.1 (by rw[ha];simp))
       rw[← ht,← Ay d rfl,← hy]
       split at h
       ·exact⟨h.1,Om hn hb h.2⟩
       ·exact⟨h.1,Bw hn hb h.2⟩
       ·exact⟨h.1,Bw hn hb h.2⟩
       ·exact h.elim
      ·exact h.elim
    simp only[VYK,if_neg hgh] at h ⊢
    have hh:(args.toList.map fun x=>vw s' (ev G s' x))=args.toList.map fun x=>vw s' (ev G s x):=bT fun x hx=>by rw[he x (by simp only[Op.operands,Call.operands];simpa using hx)]
    rw[hh]
    unfold eW at h ⊢
    split at h<;>first | cases ‹Builtin.append=_› | skip
    ·rename_i t t' x y nQ dD
     obtain⟨X,Y,hX,rfl,rfl⟩:∃ X Y,args.toList=[X,Y]∧x=vw s (ev G s X)∧y=vw s (ev G s Y):=by
      cases ha:args.toList with
      |nil=>simp[ha] at dD
      |cons X l=>
       cases l with
       |nil=>simp[ha] at dD
       |cons Y l=>simp only[ha,bA,cB,eE] at dD;exact⟨X,Y,by rw[dD.2.2],dD.1.symm,dD.2.1.symm⟩
     rw[hX,nQ]
     simp only[bA,lG]
     have mH:∀ u K',¬ dN P t .un u K':=fun u K' h=>by simp[dN] at h
     have alv:∀ u K',¬ dN P t u V.un K':=fun u K' h=>by
      unfold dN at h
      split at h
      ·split at h
       ·exact h.2.elim
       ·exact h.elim
      ·exact h.elim
     rcases u9 hn hb (ev G s X) with e1 | e1
     ·rcases u9 hn hb (ev G s Y) with e2 | e2
      ·rw[← e1,← e2];exact h
      ·rw[e2] at h
       split at h
       ·exact(alv _ _ h).elim
       ·unfold qH at h;simp[V.fz] at h
     ·rw[e1] at h
      split at h
      ·exact(mH _ _ h).elim
      ·unfold qH at h
       split at h
       ·split at h
        ·exact(mH _ _ h.2).elim
        ·exact h.elim
       ·exact h.elim
    ·exact h.elim
theorem Q2 {s':S} {e:Ef} (Ay:∀ d,o.dst=some d→s.fr d=s'.fr d) (hm:dW tr o=1) (he:∀ x∈o.op.operands,ev G s x=ev G s' x) (hn:s.nb≤s'.nb) (hb:∀ i,i<s.nb→s'.bx i=s.bx i) (h:VEf P G tr o s e):VEf P G tr o s' e:=by
 unfold VEf at h ⊢
 split at h
 ·rename_i ct;simp[dW,ct] at hm
 ·rename_i ct;simp[dW,ct] at hm
 ·rename_i ct;simp[dW,ct] at hm
 ·rename_i ct;simp only[dW,ct] at hm;split at hm<;>cases hm
 ·rename_i ct;simp[dW,ct] at hm
 ·rename_i f args ts ct
  split at h
  ·rename_i hmu;simp[dW,ct,hmu] at hm
  ·rename_i hmu
   rw[if_neg hmu]
   obtain⟨v,h1,h2⟩:=h
   refine⟨v,h1,?_⟩
   unfold VYQ at h2 ⊢
   split
   ·rename_i NO
    rw[if_pos NO] at h2
    have:args.toList.map (ev G s)=args.toList.map (ev G s'):=bT fun x hx=>he x (by rw[ct];simp only[Op.operands,Call.operands];simp at hx;simp[hx])
    rw[← he f (by rw[ct];simp[Op.operands,Call.operands]),← this]
    exact zx hn hb h2
   ·rename_i NO
    rw[if_neg NO] at h2
    exact xG Ay he hn hb hm h2
 ·rename_i T X ct
  obtain⟨v,h1,h2,h3⟩:=h
  exact⟨v,h1,by rw[← he X (by rw[ct];simp[Op.operands])];exact h2,xG Ay he hn hb hm h3⟩
 ·rename_i ct;simp[dW,ct] at hm
 ·rename_i ct;simp[dW,ct] at hm
 ·rename_i ct;simp[dW,ct] at hm
 ·rename_i ct;simp[dW,ct] at hm
 ·rename_i ct
  split at h
  ·exact h.elim
  rename_i gW
  rw[if_neg gW]
  split at h
  ·rename_i hr;simp[dW,ct,hr] at hm
  ·rename_i hr
   rw[if_neg hr]
   obtain⟨v,h1,h2⟩:=h
   exact⟨v,h1,xG Ay he hn hb hm h2⟩
 ·rename_i ct;simp[dW,ct] at hm
 ·obtain⟨v,h1,h2⟩:=h
  exact⟨v,h1,xG Ay he hn hb hm h2⟩
theorem FD {x y:Oper} (h:xE tr x y=true):dW tr x=1∧∀ (q:S) (f:Ef),VEf P G tr y q f→q.nb≤f.nb q.nb∧∀ i,i<q.nb→f.bx q.nb q.bx i=q.bx i:=by
 unfold xE at h
 simp only[aS,kr] at h
 refine⟨h.1,fun q f hf=>?_⟩
 have h2:=h.2
 have al:(∃ cs,f=.al cs)→q.nb≤f.nb q.nb∧∀ i,i<q.nb→f.bx q.nb q.bx i=q.bx i:=by
  rintro⟨cs,rfl⟩
  exact⟨Nat.le_succ _,fun i hi=>cY _ _ (by omega)⟩
 split at h2
 ·rename_i ct
  unfold VEf at hf;rw[ct] at hf
  simp only at hf
  split at hf
  ·exact al ⟨_,hf⟩
  ·exact hf.elim
 ·rename_i ct
  unfold VEf at hf;rw[ct] at hf
  simp only at hf
  split at hf
  ·exact al ⟨_,hf⟩
  ·exact hf.elim
 ·rename_i ct
  unfold VEf at hf;rw[ct] at hf
  simp only[h2,db] at hf
  obtain⟨bx,nb,x,rfl,hv⟩:=hf
  unfold cR at hv
  split at hv
  ·split at hv
   ·obtain⟨_,hv⟩:=hv
    split at hv
    ·simp only[A3] at hv
     split at hv
     ·obtain⟨⟨rfl,rfl⟩,_⟩:=hv
      exact⟨Nat.le_succ _,fun i hi=>cY _ _ (by omega)⟩
     ·exact hv.elim
    ·exact hv.elim
   ·exact hv.elim
  ·exact hv.elim
 ·cases h2
theorem TEf.keep {x y:Oper} {e f:Ef} (Aw:Hp tr ops x y) (hx:TEf P G tr ops x s e) (hy:TEf P G tr ops y s f):TEf P G tr ops x (f.run tr y s) e:=by
 have hl:∀ t∈x.looksAt ops,s.fr t=(f.run tr y s).fr t:=fun t ht=>by
  rw[Bs]
  simp only
  rw[ka (fun hw=>Aw.yx t hw ht)]
 have Ay:∀ d,x.dst=some d→s.fr d=(f.run tr y s).fr d:=fun d hd=>by
  rw[Bs]
  simp only
  rw[ka (Aw.ww d (by simp[wr,hd]))]
 by_cases dV:mN tr x y=true
 ·obtain⟨q1,q2⟩:=Ht dV hy
  exact Q1 dV hl q2 q1 hx
 by_cases hlk:o9 x y=true
 ·obtain⟨T,m,k,J0,EJ⟩:=sK hlk
  rcases hy with⟨_,hv,_⟩ | ⟨_,rfl⟩
  ·rcases hx with⟨hg,hw,gW⟩ | ⟨hg,he⟩
   ·refine .inl ⟨by rw[← jR hl];exact hg,?_,gW⟩
    unfold VEf at hv hw ⊢
    rw[EJ] at hv
    rw[J0] at hw ⊢
    obtain⟨bx,u,rfl,hv⟩:=hv
    obtain⟨v,rfl,hw⟩:=hw
    refine⟨v,rfl,?_⟩
    obtain⟨dst,op,type,pos,after,guard⟩:=x
    simp only at J0;subst J0
    simp only[VYK] at hw ⊢
    have e1:ev G ((Ef.gn bx s.nb u).run tr y s) (.tmp m)=ev G s (.tmp m):=(hl m (jS (x:=.tmp m) (by simp[Op.operands]) rfl)).symm
    have e2:ev G ((Ef.gn bx s.nb u).run tr y s) (.tmp k)=ev G s (.tmp k):=(hl k (jS (x:=.tmp k) (by simp[Op.operands]) rfl)).symm
    rw[e1,e2]
    exact zB (bx':=bx) (u:=u) (um (pH hv) fun s' u' e=>⟨by rw[← e.1],e.2⟩) hw rfl rfl
   ·exact .inr ⟨by rw[← jR hl];exact hg,he⟩
  ·exact u7 Ay hl (fun _=>⟨rfl,rfl⟩) hx
 by_cases hra:xE tr x y=true
 ·obtain⟨h1,h2⟩:=FD hra
  rcases hx with⟨hg,hw,gW⟩ | ⟨hg,he⟩
  ·refine .inl ⟨by rw[← jR hl];exact hg,?_,gW⟩
   have hf:s.nb≤f.nb s.nb∧∀ i,i<s.nb→f.bx s.nb s.bx i=s.bx i:=by
    rcases hy with⟨_,hv,_⟩ | ⟨_,rfl⟩
    ·exact h2 _ _ hv
    ·exact⟨ab _,fun _ _=>rfl⟩
   exact Q2 Ay h1 (fun q hq=>Bp fun t ht=>hl t (jS hq ht)) hf.1 hf.2 hw
  ·exact .inr ⟨by rw[← jR hl];exact hg,he⟩
 ·refine u7 Ay hl (fun hm=>?_) hx
  have hq:=AH hy (fun h=>hm ((Aw.my h).resolve_right (fun h=>by rcases h with h | h | h;exact dV h;exact hlk h;exact hra h)))
  obtain⟨q1,q2,_⟩:=pt hq s.bx s.nb 0
  exact⟨q1.symm,q2.symm⟩
theorem TEf.back {x y:Oper} {e f:Ef} (Aw:Hp tr ops x y) (hx:TEf P G tr ops x s e) (hy:TEf P G tr ops y (e.run tr x s) f):TEf P G tr ops y s f:=by
 have hl:∀ t∈y.looksAt ops,(e.run tr x s).fr t=s.fr t:=fun t ht=>by
  rw[Bs]
  simp only
  rw[ka (fun hw=>Aw.xy t hw ht)]
 have Ay:∀ d,y.dst=some d→(e.run tr x s).fr d=s.fr d:=fun d hd=>by
  rw[Bs]
  simp only
  rw[ka (fun hw=>Aw.ww d hw (by simp[wr,hd]))]
 by_cases dV:mN tr y x=true
 ·obtain⟨q1,q2⟩:=Ht dV hx
  exact Q1 dV hl (fun d b h1 h2 h3=>(q2 d b h1 h2 h3).symm) q1.symm hy
 by_cases hlk:o9 y x=true
 ·obtain⟨T,m,k,J0,EJ⟩:=sK hlk
  rcases hx with⟨_,hv,_⟩ | ⟨_,rfl⟩
  ·rcases hy with⟨hg,hw,gW⟩ | ⟨hg,he⟩
   ·refine .inl ⟨by rw[← jR hl];exact hg,?_,gW⟩
    unfold VEf at hv hw ⊢
    rw[EJ] at hv
    rw[J0] at hw ⊢
    obtain⟨bx,u,rfl,hv⟩:=hv
    obtain⟨v,rfl,hw⟩:=hw
    refine⟨v,rfl,?_⟩
    obtain⟨dst,op,type,pos,after,guard⟩:=y
    simp only at J0;subst J0
    simp only[VYK] at hw ⊢
    have e1:ev G ((Ef.gn bx s.nb u).run tr x s) (.tmp m)=ev G s (.tmp m):=hl m (jS (x:=.tmp m) (by simp[Op.operands]) rfl)
    have e2:ev G ((Ef.gn bx s.nb u).run tr x s) (.tmp k)=ev G s (.tmp k):=hl k (jS (x:=.tmp k) (by simp[Op.operands]) rfl)
    rw[e1,e2] at hw
    have hE:=um (pH hv) (K':=fun s' u'=>bx=s'.bx∧u=u') fun s' u' e=>⟨by rw[← e.1],e.2⟩
    obtain⟨w,yD⟩:=Bv hE
    have:=zB (s':=(Ef.gn bx s.nb u).run tr x s) hE yD rfl rfl
    rw[zu hw this];exact yD
   ·exact .inr ⟨by rw[← jR hl];exact hg,he⟩
  ·exact u7 Ay hl (fun _=>⟨rfl,rfl⟩) hy
 ·refine u7 Ay hl (fun hm=>?_) hy
  have hq:=AH hx (fun h=>hm ((Aw.mx h).resolve_right (fun h=>by rcases h with h | h;exact dV h;exact hlk h)))
  obtain⟨q1,q2,_⟩:=pt hq s.bx s.nb 0
  exact⟨q1,q2⟩
theorem By {x y:Oper} {e f:Ef} (Aw:Hp tr ops x y) (hx:TEf P G tr ops x s e) (hy:TEf P G tr ops y s f):f.run tr y (e.run tr x s)=e.run tr x (f.run tr y s):=by
 simp only[Bs]
 by_cases h2:dW tr x=2
 ·have hq:=AH hy (fun h=>by
   rcases Aw.mx h2 with h' | h' | h'
   ·rw[h'] at h;cases h
   ·rw[Hr h'] at h;cases h
   ·rw[(Hu (tr:=tr) h').1] at h;cases h)
  obtain⟨q1,q2,q3⟩:=pt hq (e.bx s.nb s.bx) (e.nb s.nb) s.nb
  obtain⟨r1,r2,_⟩:=pt hq s.bx s.nb s.nb
  rw[q1,q2,q3,r1,r2,Br Aw.ww]
 ·have hq:=AH hx h2
  obtain⟨q1,q2,q3⟩:=pt hq (f.bx s.nb s.bx) (f.nb s.nb) s.nb
  obtain⟨r1,r2,_⟩:=pt hq s.bx s.nb s.nb
  rw[q1,q2,q3,r1,r2,Br Aw.ww]
def FreeAt (tr:List Nat) (md:Region.Mode) (ops:Array Oper) (listed:Array Bool) (i:Nat) (oi:Oper):Prop:=
 ∃ B:List Nat,(∀ j∈B,listed.getD j true=false∧∃ oj,ops[j]?=some oj∧∃ e∈oj.after,Region.binds md e=true∧(e.on=i∨e.on∈B))∧
  ∀ j oj,ops[j]?=some oj→j≠i→listed.getD j true=false→j∉B→FC tr ops oi oj=true
theorem FreeAt.step {md:Region.Mode} {listed:Array Bool} {i j:Nat} {oi oj:Oper} (h:FreeAt tr md ops listed i oi) (hr:i∈Region.ready md ops listed) (hj:j∈Region.ready md ops listed) (xg:j≠i) (Ab:ops[j]?=some oj) :
 Hp tr ops oi oj∧FreeAt tr md ops (listed.setIfInBounds j true) i oi:=by
 obtain⟨B,hB,Ac⟩:=h
 obtain⟨ajf,oj',V8,eF⟩:=kH.1 hj
 rw[Ab] at V8;cases V8
 have V9:∀ q,listed.getD q true=false→∀ e∈oj.after,Region.binds md e=true→e.on≠q:=fun q h0 e he hb wX=>by
  have h1:=eF e he hb
  rw[wX] at h1
  rcases dG q listed.size with h' | h'
  ·simp[h'] at h0 h1;rw[h0] at h1;cases h1
  ·simp[dB h'] at h1
 have hjB:j∉B:=fun hjB=>by
  obtain⟨_,oj',V8,e,he,hb,Qw⟩:=hB j hjB
  rw[Ab] at V8;cases V8
  rcases Qw with Qw | Qw
  ·exact V9 i (kH.1 hr).1 e he hb Qw
  ·exact V9 _ (hB _ Qw).1 e he hb rfl
 refine⟨Hq (Ac j oj Ab xg ajf hjB),B,fun b hb=>?_,fun k ok hk hki V9 mH=>?_⟩
 ·have hjb:j≠b:=fun h=>hjB (by rw[h];exact hb)
  exact⟨by rw[ln true hjb];exact(hB b hb).1,(hB b hb).2⟩
 ·refine Ac k ok hk hki ?_ mH
  by_cases hjk:j=k
  ·subst hjk;exact ajf
  ·rw[ln true hjk] at V9;exact V9
theorem wB {K:S→Prop} {i:Nat} {oi:Oper} {e:Ef} (hi:ops[i]?=some oi) :
 ∀ (fuel:Nat) (listed:Array Bool) (s:S),FreeAt tr md ops listed i oi→
  i∈Region.ready md ops listed→TEf P G tr ops oi s e→
  FB P G tr md ops K fuel (listed.setIfInBounds i true) (e.run tr oi s)→FB P G tr md ops K (fuel+1) listed s:=by
 intro fuel
 induction fuel with
 |zero=>
  intro listed s _ hr hy H
  refine⟨fun h=>(by rw[h] at hr;cases hr),fun j hj=>?_⟩
  by_cases xg:j=i
  ·subst xg;unfold wz;simp only[hi];exact⟨e,hy,H⟩
  ·have:=ready_mono hj xg
   rw[H.1] at this
   cases this
 |succ fuel ih=>
  intro listed s Ac hr hy H
  refine⟨fun h=>(by rw[h] at hr;cases hr),fun j hj=>?_⟩
  by_cases xg:j=i
  ·subst xg;unfold wz;simp only[hi];exact⟨e,hy,H⟩
  ·have h1:=H.2 j (ready_mono hj xg)
   obtain⟨_,oj,Ab,_⟩:=kH.1 hj
   obtain⟨Aw,CC⟩:=Ac.step hr hj xg Ab
   unfold wz at h1 ⊢
   simp only[Ab] at h1 ⊢
   obtain⟨f,hf,hK⟩:=h1
   have GF:=hy.back Aw hf
   refine⟨f,GF,ih (listed.setIfInBounds j true) _ CC (ready_mono hr (gJ xg)) (hy.keep Aw GF) ?_⟩
   rw[Array.setIfInBounds_comm _ _ xg,← By Aw hy GF]
   exact hK
def vb (ops:Array Oper) (listed:Array Bool) (i:Nat):List Nat→List Nat→List Nat
 |[],B=>B
 |j::r,B=>vb ops listed i r (match ops[j]? with
  |some oj=>if(!listed.getD j true)&&(oj.after.any fun e=>Region.binds .any e&&(e.on==i||B.contains e.on)) then j::B else B
  |none=>B)
theorem xH {ops:Array Oper} {listed:Array Bool} {i:Nat}:∀ (l B:List Nat),(∀ j∈B,listed.getD j true=false∧∃ oj,ops[j]?=some oj∧∃ e∈oj.after,Region.binds .any e=true∧(e.on=i∨e.on∈B))→
 ∀ j∈vb ops listed i l B,listed.getD j true=false∧∃ oj,ops[j]?=some oj∧∃ e∈oj.after,Region.binds .any e=true∧(e.on=i∨e.on∈vb ops listed i l B)
 |[],_,h=>h
 |k::r,B,h=>by
  unfold vb
  refine xH r _ ?_
  split
  ·rename_i oj Ab
   split
   ·rename_i hc
    simp only[aS,dJ] at hc
    obtain⟨h1,h2⟩:=hc
    rw[Array.any_eq_true'] at h2
    obtain⟨e,he,h3⟩:=h2
    simp only[aS,eV,kr,iG,bJ] at h3
    intro j hj
    rcases aK.1 hj with rfl | hj
    ·exact⟨h1,oj,Ab,e,he,h3.1,h3.2.imp id (aD _)⟩
    ·obtain⟨a,b,c,d,hd,f,g⟩:=h j hj
     exact⟨a,b,c,d,hd,f,g.imp id (aD _)⟩
   ·exact h
  ·exact h
def Hv (tr:List Nat) (ops:Array Oper) (listed:Array Bool) (i:Nat):Bool:=
 match ops[i]? with
 |none=>true
 |some oi=>(fun B=>(List.range ops.size).all fun j=>match ops[j]? with
  |none=>true
  |some oj=>j==i||listed.getD j true||List.contains B j||FC tr ops oi oj) (vb ops listed i (List.range ops.size) [])
theorem pJ {i:Nat} {oi:Oper} {listed:Array Bool} (hi:ops[i]?=some oi) (h:Hv tr ops listed i=true):FreeAt tr .any ops listed i oi:=by
 unfold Hv at h
 simp only[hi,ba,df] at h
 refine⟨vb ops listed i (List.range ops.size) [],xH _ _ (fun _ h=>by cases h),fun j oj hj xg hl mH=>?_⟩
 have bK:j<ops.size:=(bh.1 hj).1
 have:=h j bK
 simp only[hj,hl,eV,kr,xg,false_or,aY,iG,bJ] at this
 exact this.resolve_left mH
def uq (tr:List Nat) (ops:Array Oper):Nat→Nat→Array Bool→Bool
 |0,_,listed=>(Region.ready .any ops listed).isEmpty
 |fuel+1,k,listed=>(Region.ready .any ops listed).contains k&&Hv tr ops listed k&&uq tr ops fuel (k+1) (listed.setIfInBounds k true)
def DL (tr:List Nat) (ops:Array Oper):List Nat→Array Bool→Bool
 |[],listed=>(Region.ready .any ops listed).isEmpty
 |k::r,listed=>(Region.ready .any ops listed).contains k&&Hv tr ops listed k&&DL tr ops r (listed.setIfInBounds k true)
def tI (tr:List Nat) (ops:Array Oper):List Nat→Array Bool→Option (Array Bool)
 |[],listed=>some listed
 |k::r,listed=>if(Region.ready .any ops listed).contains k&&Hv tr ops listed k then tI tr ops r (listed.setIfInBounds k true) else none
def rj (ops:Array Oper) (ks:List Nat):List Oper:=ks.filterMap fun k=>ops[k]?
theorem yR {K:S→Prop}:∀ (ks:List Nat) (listed:Array Bool) (s:S),(∀ k∈ks,∃ o,ops[k]?=some o∧o1 tr o=false)→
 DL tr ops ks listed=true→im P G tr ops (rj ops ks) s K→FB P G tr .any ops K ks.length listed s
 |[],_,_,_,hB,h=>⟨by simpa[DL] using hB,h⟩
 |k::r,listed,s,hA,hB,h=>by
  obtain⟨o,ho,Do⟩:=hA k (a8 ..)
  simp only[DL,aS] at hB
  obtain⟨⟨hr,hf⟩,hB'⟩:=hB
  simp only[rj,iS,ho,im] at h
  obtain⟨e,he,hK⟩:=kg (K:=fun s'=>im P G tr ops (rj ops r) s' K) Do h
  exact wB ho r.length listed s (pJ ho hf) (by simpa using hr) he
   (yR r _ _ (fun k hk=>hA k (aD _ hk)) hB' hK)
theorem Hw {K K0:S→Prop} (m:Nat) (Gy:Array Bool) (hK0:∀ s',K0 s'→FB P G tr .any ops K m Gy s'):∀ (ks:List Nat) (listed:Array Bool) (s:S),(∀ k∈ks,∃ o,ops[k]?=some o∧o1 tr o=false)→
 tI tr ops ks listed=some Gy→im P G tr ops (rj ops ks) s K0→FB P G tr .any ops K (m+ks.length) listed s
 |[],listed,s,_,hB,h=>by simp only[tI,ao] at hB;subst hB;exact hK0 _ h
 |k::r,listed,s,hA,hB,h=>by
  obtain⟨o,ho,Do⟩:=hA k (a8 ..)
  unfold tI at hB
  split at hB
  ·rename_i hc
   simp only[aS] at hc
   obtain⟨hr,hf⟩:=hc
   simp only[rj,iS,ho,im] at h
   obtain⟨e,he,hK⟩:=kg (K:=fun s'=>im P G tr ops (rj ops r) s' K0) Do h
   have:=wB ho (m+r.length) listed s (pJ ho hf) (by simpa using hr) he
    (Hw m Gy hK0 r _ _ (fun k hk=>hA k (aD _ hk)) hB hK)
   simpa[dF] using this
  ·cases hB
def MG (tr:List Nat) (ops:Array Oper):Bool:=ops.toList.all (fun o=>!o1 tr o)&&match tI tr ops (List.range (kL ops)) (Array.replicate ops.size false) with
 |some listed=>(Region.ready .any ops listed).all (fun k=>k==kL ops||k==kL ops+1)&&(Region.ready .any ops listed).contains (kL ops)&&decide (kL ops+1<ops.size)&&
   DL tr ops ((List.range ops.size).drop (kL ops+1)) (listed.setIfInBounds (kL ops) true)&&DL tr ops (kL ops::(List.range ops.size).drop (kL ops+2)) (listed.setIfInBounds (kL ops+1) true)
 |none=>false
theorem sL (i m:Nat) (h:i+m≤ops.size):rj ops (List.range' i m)=(ops.toList.drop i).take m:=by
 induction m generalizing i with
 |zero=>simp[rj]
 |succ m ih=>
  have hi:i<ops.size:=by omega
  have ih':=ih (i+1) (by omega)
  unfold rj at ih' ⊢
  have hd:ops.toList.drop i=ops[i]::ops.toList.drop (i+1):=by
   rw[cX (by simpa using hi)];simp
  rw[iA,iS,ay hi,hd,fR]
  simp only
  rw[ih']
theorem Bz (eH:mf n ops=true) (vZ:MG tr ops=true) {K:S→Prop} (hK:∀ a w s,K s→SE G n I0 M w0 s a w→Q .normal a w)
 (h:WO P G tr ops s K) (dE:SE G n I0 M w0 s a w):wpAny P .any ops Q ops.size (Array.replicate ops.size false) a { w with drawn:=w.drawn+1 }:=by
 unfold MG at vZ
 simp only[aS,ba,dJ] at vZ
 obtain⟨hA,vZ⟩:=vZ
 have NP:∀ k,k<ops.size→∃ o,ops[k]?=some o∧o1 tr o=false:=fun k hk=>⟨ops[k],ay hk,hA _ (by simp)⟩
 split at vZ
 ·rename_i listed uU
  simp only[aS,bJ] at vZ
  obtain⟨⟨⟨⟨eF,j8⟩,fW⟩,zZ⟩,WB⟩:=vZ
  generalize hi:kL ops=i at *
  unfold WO at h
  rw[hi] at h
  have Qs:List.range i=List.range' 0 i:=eL
  have Wa:rj ops (List.range i)=ops.toList.take i:=by
   rw[Qs,sL 0 i (by omega)];rfl
  have alx:(List.range ops.size).drop (i+1)=List.range' (i+1) (ops.size - (i+1)):=by
   rw[eL,List.drop_range'];simp
  have aly:(List.range ops.size).drop (i+2)=List.range' (i+2) (ops.size - (i+2)):=by
   rw[eL,List.drop_range'];simp
  have hci:ops.toList.drop i=ops[i]::ops[i+1]::ops.toList.drop (i+2):=by
   rw[cX (by simp;omega),cX (i:=i+1) (by simp;omega)];simp
  have EH:rj ops ((List.range ops.size).drop (i+1))=ops[i+1]::ops.toList.drop (i+2):=by
   rw[alx,sL _ _ (by omega)]
   rw[fP (by simp),cX (by simp;omega)];simp
  have hn2:rj ops ((List.range ops.size).drop (i+2))=ops.toList.drop (i+2):=by
   rw[aly,sL _ _ (by omega)]
   exact fP (by simp)
  have key:FB P G tr .any ops K ((ops.size - (i+1)+1)+(List.range i).length) (Array.replicate ops.size false) s:=by
   rw[← Wa] at h
   refine Hw _ listed (fun s' Dm=>?_) (List.range i) _ s (fun k hk=>NP k (by have:=df.1 hk;omega)) uU h
   obtain⟨h1,h2⟩:=Dm
   rw[hci] at h1 h2
   simp only[abb] at h2
   refine⟨fun h0=>(by rw[h0] at j8;cases j8),fun k hk=>?_⟩
   have Qi:=ba.1 eF k hk
   simp only[eV,kr] at Qi
   obtain⟨oi,hoi,hAi⟩:=NP i (by omega)
   obtain⟨oj,Ab,hAj⟩:=NP (i+1) fW
   rcases Qi with rfl | rfl
   ·unfold wz
    simp only[hoi]
    rw[show ops[k]=oi from by rw[ay (by omega)] at hoi;simpa using hoi] at h1
    simp only[im] at h1
    obtain⟨e,he,hK'⟩:=kg (K:=fun s'=>im P G tr ops (ops[k+1]::ops.toList.drop (k+2)) s' K) hAi h1
    refine⟨e,he,?_⟩
    have:=yR (K:=K) ((List.range ops.size).drop (k+1)) (listed.setIfInBounds k true) _ (fun q hq=>NP q (by have:=df.1 (cT hq);exact this)) zZ (by rw[EH];exact hK')
    simpa using this
   ·unfold wz
    simp only[Ab]
    rw[show ops[i+1]=oj from by rw[ay fW] at Ab;simpa using Ab] at h2
    simp only[im] at h2
    obtain⟨e,he,hK'⟩:=kg (K:=fun s'=>im P G tr ops (ops[i]::ops.toList.drop (i+2)) s' K) hAj h2
    refine⟨e,he,?_⟩
    have:=yR (K:=K) (i::(List.range ops.size).drop (i+2)) (listed.setIfInBounds (i+1) true) _ (fun q hq=>NP q (by
     rcases aK.1 hq with rfl | hq
     ·omega
     ·exact df.1 (cT hq))) WB (by
     unfold rj
     rw[iS,ay (show i<ops.size by omega)]
     simp only
     have:=hn2
     unfold rj at this
     rw[this];exact hK')
    have e1:(i::(List.range ops.size).drop (i+2)).length=ops.size - (i+1):=by simp;omega
    rw[e1] at this;exact this
  have tZ:SE G n I0 M w0 s a { w with drawn:=w.drawn+1 }:=by
   obtain⟨I,β,ob,aR⟩:=dE
   exact⟨I,β,ob,aR.drew⟩
  have e2:(ops.size - (i+1)+1)+(List.range i).length=ops.size:=by simp;omega
  rw[e2] at key
  exact pI eH hK _ _ _ _ _ key tZ
 ·cases vZ
def FG (tr:List Nat) (ops:Array Oper):Bool:=ops.toList.all (fun o=>!o1 tr o)&&uq tr ops ops.size 0 (Array.replicate ops.size false)
theorem Hx {K:S→Prop}:∀ (l:List Oper) (k:Nat) (listed:Array Bool) (s:S),(∀ o∈l,o1 tr o=false)→(∀ j,l[j]?=ops[k+j]?)→
 uq tr ops l.length k listed=true→im P G tr ops l s K→FB P G tr .any ops K l.length listed s
 |[],_,_,_,_,_,hB,h=>⟨by simpa[uq] using hB,h⟩
 |o::l,k,listed,s,hA,hl,hB,h=>by
  have h0:ops[k]?=some o:=by simpa using(hl 0).symm
  simp only[aZ,uq,aS] at hB
  obtain⟨⟨hr,hf⟩,hB'⟩:=hB
  simp only[im] at h
  obtain⟨e,he,hK⟩:=kg (K:=fun s'=>im P G tr ops l s' K) (hA o (a8 ..)) h
  exact wB h0 l.length listed s (pJ h0 hf) (by simpa using hr) he
   (Hx l (k+1) _ _ (fun o ho=>hA o (aD _ ho)) (fun j=>by have:=hl (j+1);simpa[dF,lF 1 j] using this) hB' hK)
theorem An (eH:mf n ops=true) (vZ:FG tr ops=true) {K:S→Prop} (hK:∀ a w s,K s→SE G n I0 M w0 s a w→Q .normal a w)
 (h:im P G tr ops ops.toList s K) (dE:SE G n I0 M w0 s a w):wpAny P .any ops Q ops.size (Array.replicate ops.size false) a { w with drawn:=w.drawn+1 }:=by
 simp only[FG,aS,ba,dJ] at vZ
 have h1:=Hx (K:=K) ops.toList 0 (Array.replicate ops.size false) s vZ.1 (by simp) (by simpa using vZ.2) h
 have tZ:SE G n I0 M w0 s a { w with drawn:=w.drawn+1 }:=by
  obtain⟨I,β,ob,aR⟩:=dE
  exact⟨I,β,ob,aR.drew⟩
 have:=pI eH hK _ _ _ _ _ h1 tZ
 simpa using this
def xI (P:Program) (G:Gl) (tr:List Nat) (ops:Array Oper) (L1:Array Bool) (K0:S→Prop):Nat→Array Bool→S→Prop
 |0,listed,s=>listed=L1∧K0 s
 |fuel+1,listed,s=>Region.ready .any ops listed≠[]∧∀ i∈Region.ready .any ops listed,wz P G tr ops i (xI P G tr ops L1 K0 fuel (listed.setIfInBounds i true)) s
def vd (ops:Array Oper) (m:Nat):Bool:=(List.range ops.size).all fun j=>decide (j<m)||match ops[j]? with
 |some o=>(List.range m).all fun k=>o.after.any fun e=>Region.binds .any e&&(e.on==k)
 |none=>true
theorem FH {m:Nat} (h:vd ops m=true) {j k:Nat} {oj:Oper} (hj:ops[j]?=some oj) (hm:m≤j) (hk:k<m):∃ e∈oj.after,Region.binds .any e=true∧e.on=k:=by
 unfold vd at h
 rw[ba] at h
 have h1:=h j (df.2 (bh.1 hj).1)
 simp only[hj,eV,bJ] at h1
 have h2:=ba.1 (h1.resolve_left (by omega)) k (df.2 hk)
 rw[Array.any_eq_true'] at h2
 obtain⟨e,he,h3⟩:=h2
 simp only[aS,kr] at h3
 exact⟨e,he,h3.1,h3.2⟩
theorem BA {m q j:Nat} (h:(nS m q).getD j true=false):m≤j:=by
 rcases dG j m with hj | hj
 ·exfalso
  unfold nS at h
  rw[aj,dq,az (by simpa using hj)] at h
  simp[hj] at h
 ·exact hj
theorem yS {m q j:Nat} (h:(nS m q).getD j false=true):j<m:=by
 rcases dG j m with hj | hj
 ·exact hj
 ·exfalso
  unfold nS at h
  rw[aj,dq,aH (by simpa using hj),List.getElem?_replicate] at h
  split at h<;>simp at h
theorem Hy {K0:S→Prop} {m:Nat} (JI:vd ops m=true) {i:Nat} {oi:Oper} {e:Ef} (hi:ops[i]?=some oi) :
 ∀ (fuel:Nat) (listed:Array Bool) (s:S),listed.size=ops.size→FreeAt tr .any ops listed i oi→
  i∈Region.ready .any ops listed→TEf P G tr ops oi s e→
  xI P G tr ops (nS m ops.size) K0 fuel (listed.setIfInBounds i true) (e.run tr oi s)→xI P G tr ops (nS m ops.size) K0 (fuel+1) listed s:=by
 intro fuel
 induction fuel with
 |zero=>
  intro listed s fW _ hr hy H
  refine⟨fun h=>(by rw[h] at hr;cases hr),fun j hj=>?_⟩
  by_cases xg:j=i
  ·subst xg;unfold wz;simp only[hi];exact⟨e,hy,H⟩
  ·exfalso
   obtain⟨V9,oj,Ab,eF⟩:=kH.1 hj
   have hil:i<listed.size:=by rw[fW];exact(bh.1 hi).1
   have h1:(nS m ops.size).getD j true=false:=by rw[← H.1,ln true (gJ xg)];exact V9
   have h2:(nS m ops.size).getD i false=true:=by
    rw[← H.1,aj,Array.getElem?_setIfInBounds_self_of_lt hil];rfl
   obtain⟨ed,hed,hb,Qw⟩:=FH JI Ab (BA h1) (yS h2)
   have h3:=eF ed hed hb
   rw[Qw] at h3
   have h4:=(kH.1 hr).1
   rw[aj,ay hil] at h3 h4
   simp only[cx] at h3 h4
   rw[h4] at h3;cases h3
 |succ fuel ih=>
  intro listed s fW Ac hr hy H
  refine⟨fun h=>(by rw[h] at hr;cases hr),fun j hj=>?_⟩
  by_cases xg:j=i
  ·subst xg;unfold wz;simp only[hi];exact⟨e,hy,H⟩
  ·have h1:=H.2 j (ready_mono hj xg)
   obtain⟨_,oj,Ab,_⟩:=kH.1 hj
   obtain⟨Aw,CC⟩:=Ac.step hr hj xg Ab
   unfold wz at h1 ⊢
   simp only[Ab] at h1 ⊢
   obtain⟨f,hf,hK⟩:=h1
   have GF:=hy.back Aw hf
   refine⟨f,GF,ih (listed.setIfInBounds j true) _ (by rw[dw];exact fW) CC (ready_mono hr (gJ xg)) (hy.keep Aw GF) ?_⟩
   rw[Array.setIfInBounds_comm _ _ xg,← By Aw hy GF]
   exact hK
theorem DN {K0:S→Prop} {m:Nat} (JI:vd ops m=true):∀ (ks:List Nat) (listed:Array Bool) (s:S),listed.size=ops.size→(∀ k∈ks,∃ o,ops[k]?=some o∧o1 tr o=false)→
 tI tr ops ks listed=some (nS m ops.size)→im P G tr ops (rj ops ks) s K0→xI P G tr ops (nS m ops.size) K0 ks.length listed s
 |[],listed,s,_,_,hB,h=>by simp only[tI,ao] at hB;exact⟨hB,h⟩
 |k::r,listed,s,fW,hA,hB,h=>by
  obtain⟨o,ho,Do⟩:=hA k (a8 ..)
  unfold tI at hB
  split at hB
  ·rename_i hc
   simp only[aS] at hc
   obtain⟨hr,hf⟩:=hc
   simp only[rj,iS,ho,im] at h
   obtain⟨e,he,hK⟩:=kg (K:=fun s'=>im P G tr ops (rj ops r) s' K0) Do h
   exact Hy JI ho r.length listed s fW (pJ ho hf) (by simpa using hr) he
    (DN JI r _ _ (by rw[dw];exact fW) (fun k hk=>hA k (aD _ hk)) hB hK)
  ·cases hB
theorem W6 {K:S→Prop} {KW:Act→World→Prop} {i:Nat} {oi:Oper} {e:Ef} (eH:mf n ops=true) (hi:ops[i]?=some oi) (he:TEf P G tr ops oi s e) (dE:SE G n I0 M w0 s a w)
 (hK:K (e.run tr oi s)) (hKW:∀ a w s,K s→SE G n I0 M w0 s a w→KW a w):wpOp P ops Q i KW a w:=by
 unfold wpOp
 simp only[hi]
 have j8:oi∈ops.toList:=by
  have:=fX hi
  simpa using this
 obtain⟨I,β,ob,aR⟩:=dE
 rcases he with⟨hg,hv,_⟩ | ⟨hg,rfl⟩
 ·rw[if_pos (qJ aR hg)]
  exact .inl (DK aR (eX eH j8) hv fun a' w' tZ=>hKW _ _ _ hK tZ)
 ·rw[qJ aR hg]
  simp only[aY,dm]
  rw[Bo] at hK
  exact hKW _ _ _ hK (SE.put aR (eX eH j8) (by simp only[LR];exact .sk))
theorem zC (eH:mf n ops=true) {K0:S→Prop} {L1:Array Bool} {r:Nat} (hK:∀ a w s,K0 s→SE G n I0 M w0 s a w→wpAny P .any ops Q r L1 a w):∀ (fuel:Nat) (listed:Array Bool) (s:S) (a:Act) (w:World),
 xI P G tr ops L1 K0 fuel listed s→SE G n I0 M w0 s a w→wpAny P .any ops Q (r+fuel) listed a w
 |0,listed,_,a,w,h,dE=>by obtain⟨rfl,h⟩:=h;exact hK _ _ _ h dE
 |fuel+1,_,s,a,w,h,dE=>by
  refine⟨fun h0=>absurd h0 h.1,fun i hi=>?_⟩
  have hh:=h.2 i hi
  obtain⟨_,oi,hoi,_⟩:=kH.1 hi
  unfold wz at hh
  simp only[hoi] at hh
  obtain⟨e,he,hh⟩:=hh
  exact W6 eH hoi he dE hh fun a w s hs dE=>zC eH hK fuel _ s a w hs dE
def MH (Q:Exit→Act→World→Prop):Exit→Act→World→Prop:=fun e a w=>e=.normal∧Q e a w
theorem yU {Q:Exit→Act→World→Prop}:¬ LetsOut (MH Q):=fun⟨_,_,h,_⟩=>by cases h
theorem C5 {l:Option Nat} {m:Nat} {id:Nat} (hm:P.follows .mixedOrders=true) (oZ:Bf ops=true) (eH:mf n ops=true) (vZ:MG tr ops=true) {K:S→Prop} (hK:∀ a w s,K s→SE G n I0 M w0 s a w→Q .normal a w)
 (h:WO P G tr ops s K) (dE:SE G n I0 M w0 s a w):(Code.region id ops true).wpIn (FW l) m P Q a w:=
 wpIn_mono (Q:=MH Q) (wpIn_region_any hm (xz oZ yU _ _ _ _ (Bz eH vZ (fun a w s hk dE=>⟨rfl,hK a w s hk dE⟩) h dE))) (fun _ _ _ h=>h.2)
theorem BB {l:Option Nat} {m:Nat} {id:Nat} (hm:P.follows .mixedOrders=true) (oZ:Bf ops=true) (eH:mf n ops=true) (vZ:FG tr ops=true) {K:S→Prop} (hK:∀ a w s,K s→SE G n I0 M w0 s a w→Q .normal a w)
 (h:im P G tr ops ops.toList s K) (dE:SE G n I0 M w0 s a w):(Code.region id ops true).wpIn (FW l) m P Q a w:=
 wpIn_mono (Q:=MH Q) (wpIn_region_any hm (xz oZ yU _ _ _ _ (An eH vZ (fun a w s hk dE=>⟨rfl,hK a w s hk dE⟩) h dE))) (fun _ _ _ h=>h.2)
