/- Layer 17, the specification: ruled, add. -/
import Derived.Test.YtloppcgcepgbnaaGreatDoorVlR5
import Derived.Test.YtloppcgcepgbnaaGreatDoorVlRunB
set_option maxHeartbeats 4000000
set_option linter.all false
namespace Go.Proofs.YtloppcgcepgbnaaGreatDoor
open Go Go.Vl
variable {G:Gl}
set_option maxRecDepth 4000
def owR (l:List Ru):V:=.ow (if l.isEmpty then none else some (120,3)) (l.map ruC)
theorem aj0 {l:List Ru}:(owR l).fz=.c (.sl (l.map ruC)):=rfl
theorem aj1 {l:List Ru}:(owR l).isOw=true:=rfl
theorem anh {l:List Ru} {x:Ru} {K:V->Prop} (h:l.length+1<=1000000000) (hK:K (owR (l++[x]))):dS Tryz.prog 23 (owR l) (.c (.sl [ruC x])) K:=by
 unfold owR;rw[ajc];refine⟨⟨by cases l<;>simp,sY yj _⟩,⟨by simp only[au,bA];omega,by simp only[au,bA];omega,by simp[ruC]⟩,?_⟩;have e:(if[ruC x].isEmpty=true then(if l.isEmpty=true then none else some (120,3)) else some (120,3))=if(l++[x]).isEmpty=true then none else some (120,3):=by cases l<;>simp
 have e2:l.map ruC++[ruC x]=(l++[x]).map ruC:=by simp
 rw[e,e2];exact hK
def Da (p:Pol) (kind:Int) (r:Ru):Bool:=decide (r.kind=kind)&&(decide (0<=r.a)&&(decide (r.a<p.types.length)&&(decide (0<=r.b)&&decide (r.b<p.types.length))))
theorem aeO {p:Pol} {kind:Int} {r:Ru}:Da p kind r=AQ p kind r:=by unfold Da AQ;rw[kY];simp only[aZ,bI];omega
def ruR (p:Pol) (kind:Int) (n:Nat):List Ru:=(p.rules.take n).filter (Da p kind)
theorem K9 {p:Pol} {kind:Int} {n:Nat} (h:n<p.rules.length):ruR p kind (n+1)=if Da p kind p.rules[n]=true then ruR p kind n++[p.rules[n]] else ruR p kind n:=by unfold ruR;rw[aT h,ir];by_cases h:Da p kind p.rules[n]=true<;>simp[h]
theorem qY {p:Pol} {kind:Int} {n:Nat}:(ruR p kind n).length<=n:=by unfold ruR;exact bY (du _ _) (by simp;omega)
section
variable {r:Ru} {nb q:Nat} {K:V->Prop}
theorem apF:ldB nb q ((ruC r).map .c) 0 K=(q<nb/\K (i64 r.kind)):=rfl
theorem apG:ldB nb q ((ruC r).map .c) 1 K=(q<nb/\K (i64 r.a)):=rfl
theorem apH:ldB nb q ((ruC r).map .c) 2 K=(q<nb/\K (i64 r.b)):=rfl
theorem aeP:ck ((ruC r).map V.c)=false:=rfl
theorem aj2:ldA nb q ((ruC r).map .c) 0 3 K=(q<nb/\K (.agg (ruC r))):=by unfold ldA;exact propext ⟨λh=>⟨h.1,h.2.2⟩,λh=>⟨h.1,⟨rfl,rfl⟩,h.2⟩⟩
end
def aj3:=jj @ajZ (jj @apF (jj @apG (jj @apH (jj @aeP (jj @aj2 (jj @aj0 @aj1))))))
def nw:=jj @pkA (jj @ptA @aj3)
def ags:=jj @pkA @aj3
theorem sd (p:Pol) (es:List In) (kind:Int) (hm:p.rules.length<=1000000) :
 FnB Tryz.prog G 112 [.bp 0 0,i64 kind] [lbx p es] (.c (.sl ((ruR p kind p.rules.length).map ruC))) [lbx p es]:=by
 refine jL (rs:=[.tmp 4]) (k:=1) [58,3000001] mixed Tryz.func112 rfl rfl rfl rfl (by kernel_rfl) (by simp) rfl rfl rfl (wZ rfl) (ab _) ?_;simp only[pkA,seval];refine bz (λi:Nat=>hdS [(0,.bp 0 0),(1,i64 kind),(5,owR (ruR p kind i)),(6,i64 i)] [lbx p es]) (λi=>p.rules.length - i) (λi=>i<=p.rules.length) 0 (ar _) ?_ ?_
 .exact le1 rfl (ab _) (ab _) (by simp[FL,aj,ruR,owR]) rfl
 rintro i hi R bL bQ dq;simp only[nw,seval,au];refine aD (λbF=>?_) (λfO=>?_)
 .have bF:i<p.rules.length:=by simpa using bF
  have hw:=br (n:=(i:Int)+1) (k:=i+1) (by omega) (by omega);have hl:=@qY p kind i;simp only[nw,seval];refine dP kV rfl fQ (by decide) (ay i) (c:=ruC p.rules[i]) (by simp[bF]) rfl ?_;have q1:∀ a b c:V,eQ [a,b,c] 0 ((ruC p.rules[i]).map .c)=(ruC p.rules[i]).map .c:=λ_ _ _=>rfl;have eG:Da p kind p.rules[i]=(decide (p.rules[i].kind=kind)&&(decide (0<=p.rules[i].a)&&(decide (p.rules[i].a<p.types.length)&&(decide (0<=p.rules[i].b)&&decide (p.rules[i].b<p.types.length))))):=rfl;have stay:Da p kind p.rules[i]=false->∀ fr bx nb,fr 0=.bp 0 0->fr 1=i64 kind->fr 5=owR (ruR p kind i)->fr 6=i64 ((i:Int)+1)->bx 0=lbx p es->1<=nb->R .normal ⟨fr,bx,nb⟩:=λh fr bx nb f0 f1 f5 f6 b0 hn=>
   bL (i+1) _ bF (by omega) (le1 rfl (ab _) hn (by simp[FL,f0,f1,f5,f6,K9 bF,h]) b0)
  simp only[nw,seval,q1];cases h1:decide (p.rules[i].kind=kind)
  .simp only[pkA,seval,hw]
   exact stay (by rw[eG,h1];rfl) _ _ _ rfl rfl rfl rfl (by simp[aj,bxs]) (show 1<=2 by decide)
  cases h2:decide (0<=p.rules[i].a)
  .simp only[nw,seval,h2,hw]
   exact stay (by rw[eG,h1,h2];rfl) _ _ _ rfl rfl rfl rfl (by simp[aj,bxs]) (show 1<=2 by decide)
  cases h3:decide (p.rules[i].a<p.types.length)
  .simp only[nw,seval,h2,h3,hw]
   exact stay (by rw[eG,h1,h2,h3];rfl) _ _ _ rfl rfl rfl rfl (by simp[aj,bxs]) (show 1<=2 by decide)
  cases h4:decide (0<=p.rules[i].b)
  .simp only[nw,seval,h2,h3,h4,hw]
   exact stay (by rw[eG,h1,h2,h3,h4];rfl) _ _ _ rfl rfl rfl rfl (by simp[aj,bxs]) (show 1<=2 by decide)
  cases h5:decide (p.rules[i].b<p.types.length)
  .simp only[nw,seval,h2,h3,h4,h5,hw]
   exact stay (by rw[eG,h1,h2,h3,h4,h5];rfl) _ _ _ rfl rfl rfl rfl (by simp[aj,bxs]) (show 1<=2 by decide)
  have hy:Da p kind p.rules[i]=true:=by rw[eG,h1,h2,h3,h4,h5];rfl
  simp only[nw,seval,h2,h3,h4,h5,dx];refine anh (l:=ruR p kind i) (x:=p.rules[i]) (by omega) ?_;simp only[ags,seval,hw];exact bL (i+1) _ bF (by omega) (le1 rfl (ab _) (show 1<=2 by decide) (by simp[FL,aj,K9 bF,hy]) (by simp[aj,bxs]))
 .have:i=p.rules.length:=by simp at fO;omega
  subst this;simp only[pkA];refine bQ _ _ ?_;simp only[ags,seval];exact ang rfl (ab _) rfl (by simp[]) rfl
def mB (rule:Int) (one two c:Fa):In:=⟨rule,(if 0<one.kind then[one] else[])++(if 0<two.kind then[two] else[]),[c]⟩
def sf:=jj @pkA @ptA
theorem ny (p:Pol) (es:List In) (rule:Int) (one two c:Fa) (hm:es.length<1000000) :
 FnB Tryz.prog G 110 [.bp 0 0,i64 rule,.agg (faC one),.agg (faC two),.agg (faC c)] [lbx p es] (.tup []) [lbx p (es++[mB rule one two c])]:=by
 refine jL (rs:=[]) (k:=1) [2300003,2400022,2300005,2400031,2300006,2400040,2500014,3000001] mixed Tryz.func110 rfl rfl rfl rfl (by kernel_rfl) (by simp) rfl rfl rfl (wZ rfl) (ab _) ?_;simp only[nw,seval];have q0:eQ [i64 0,.ow none [],.ow none []] 0 [i64 rule,.ow none [],.c (.sl [faC c])]=[i64 rule,.ow none [],.c (.sl [faC c])]:=rfl;have q1:∀ a b d x:V,eQ [a,b,d] 1 [x]=[a,x,d]:=λ_ _ _ _=>rfl;have q0:eQ [i64 0,.ow none [],.ow none []] 0 [i64 rule,.ow none [],.c (.sl [faC c])]=[i64 rule,.ow none [],.c (.sl [faC c])]:=rfl;have q1:∀ a b d x:V,eQ [a,b,d] 1 [x]=[a,x,d]:=λ_ _ _ _=>rfl;have lb:∀ x:V,(lbx p es).set 5 x=[.c (cS p.name),.c (.sl (p.types.map tyC)),.c (.sl (p.rules.map ruC)),.c (.sl (p.quorums.map quC)),i64 p.types.length,x]:=λ_=>rfl;have gl:∀ nb q (y:Value) K,ldB nb q [.c (cS p.name),.c (.sl (p.types.map tyC)),.c (.sl (p.rules.map ruC)),.c (.sl (p.quorums.map quC)),i64 p.types.length,.c (.ex y)] 5 K=(q<nb/\K (.c (.ex y))):=λ_ _ _ _=>rfl;have gm:∀ y:Value,ck [.c (cS p.name),.c (.sl (p.types.map tyC)),.c (.sl (p.rules.map ruC)),.c (.sl (p.quorums.map quC)),i64 p.types.length,.c (.ex y)]=false:=λ_=>rfl;have g5:∀ (y:Value) (x:V),eQ [.c (cS p.name),.c (.sl (p.types.map tyC)),.c (.sl (p.rules.map ruC)),.c (.sl (p.quorums.map quC)),i64 p.types.length,.c (.ex y)] 5 [x]=[.c (cS p.name),.c (.sl (p.types.map tyC)),.c (.sl (p.rules.map ruC)),.c (.sl (p.quorums.map quC)),i64 p.types.length,x]:=λ_ _=>rfl;refine aD (λh1=>?_) (λh1=>?_)
 .have jE:0<one.kind:=by simpa using h1
  simp only[pkA,seval,q0];refine rl 4 1 22 (E:=none) (es:=[]) rfl (show 4<5 by decide) rfl rfl ?_;intro v;simp only[nw,seval,S.split,dx];refine sZ (v:=v) (E:=none) (es:=[]) rfl rfl (by decide) ?_;simp only[pkA,seval];refine tJ (l:=[]) (x:=one) (by simp) ?_;simp only[nw,seval,q1,owF];refine aD (λh2=>?_) (λh2=>?_)
  .have nD:0<two.kind:=by simpa using h2
   simp only[pkA,seval];refine rl 4 1 31 (E:=(some (54,3))) (es:=[faC one]) rfl (show 4<5 by decide) rfl rfl ?_;intro v;simp only[nw,seval,S.split,dx];refine sZ (v:=v) (E:=(some (54,3))) (es:=[faC one]) rfl rfl (by decide) ?_;simp only[pkA,seval];refine tJ (l:=[one]) (x:=two) (by simp) ?_;simp only[sf,seval,q1,owF];have hx:inC (mB rule one two c)=[cI rule,.sl [faC one,faC two],.sl [faC c]]:=(by simp[inC,mB,fsC,jE,nD]);have ap:∀ K,K (owI (es++[mB rule one two c]))->dS Tryz.prog 86 (owI es) (.c (.sl [[cI rule,.sl [faC one,faC two],.sl [faC c]]])) K:=λK hK=>hx▸Qp (by omega) hK;refine rl 0 5 40 (E:=if es.isEmpty then none else some (35,3)) (es:=es.map inC) rfl (show 0<5 by decide) rfl rfl ?_
   intro v2;simp only[sf,seval,S.split,dx,lb,gl,gm];refine sZ (v:=v2) (E:=if es.isEmpty then none else some (35,3)) (es:=es.map inC) rfl rfl (by decide) ?_
   simp only[pkA,seval];refine ap _ ?_;unfold owI;simp only[sf,seval,gm,g5];exact C9 rfl (show 1<=5 by decide) (by simp[lbx,owI])
  .have nD:¬ 0<two.kind:=by simpa using h2
   simp only[pkA,seval];have hx:inC (mB rule one two c)=[cI rule,.sl [faC one],.sl [faC c]]:=(by simp[inC,mB,fsC,jE,nD]);have ap:∀ K,K (owI (es++[mB rule one two c]))->dS Tryz.prog 86 (owI es) (.c (.sl [[cI rule,.sl [faC one],.sl [faC c]]])) K:=λK hK=>hx▸Qp (by omega) hK;refine rl 0 5 40 (E:=if es.isEmpty then none else some (35,3)) (es:=es.map inC) rfl (show 0<5 by decide) rfl rfl ?_
   intro v2;simp only[sf,seval,S.split,dx,lb,gl,gm];refine sZ (v:=v2) (E:=if es.isEmpty then none else some (35,3)) (es:=es.map inC) rfl rfl (by decide) ?_
   simp only[pkA,seval];refine ap _ ?_;unfold owI;simp only[sf,seval,gm,g5];exact C9 rfl (show 1<=5 by decide) (by simp[lbx,owI])
 .have jE:¬ 0<one.kind:=by simpa using h1
  simp only[nw,seval,q0];refine aD (λh2=>?_) (λh2=>?_)
  .have nD:0<two.kind:=by simpa using h2
   simp only[pkA,seval];refine rl 4 1 31 (E:=none) (es:=[]) rfl (show 4<5 by decide) rfl rfl ?_;intro v;simp only[nw,seval,S.split,dx];refine sZ (v:=v) (E:=none) (es:=[]) rfl rfl (by decide) ?_;simp only[pkA,seval];refine tJ (l:=[]) (x:=two) (by simp) ?_;simp only[sf,seval,q1,owF];have hx:inC (mB rule one two c)=[cI rule,.sl [faC two],.sl [faC c]]:=(by simp[inC,mB,fsC,jE,nD]);have ap:∀ K,K (owI (es++[mB rule one two c]))->dS Tryz.prog 86 (owI es) (.c (.sl [[cI rule,.sl [faC two],.sl [faC c]]])) K:=λK hK=>hx▸Qp (by omega) hK;refine rl 0 5 40 (E:=if es.isEmpty then none else some (35,3)) (es:=es.map inC) rfl (show 0<5 by decide) rfl rfl ?_
   intro v2;simp only[sf,seval,S.split,dx,lb,gl,gm];refine sZ (v:=v2) (E:=if es.isEmpty then none else some (35,3)) (es:=es.map inC) rfl rfl (by decide) ?_
   simp only[pkA,seval];refine ap _ ?_;unfold owI;simp only[sf,seval,gm,g5];exact C9 rfl (show 1<=5 by decide) (by simp[lbx,owI])
  .have nD:¬ 0<two.kind:=by simpa using h2
   simp only[pkA,seval];have hx:inC (mB rule one two c)=[cI rule,.sl [],.sl [faC c]]:=(by simp[inC,mB,fsC,jE,nD]);have ap:∀ K,K (owI (es++[mB rule one two c]))->dS Tryz.prog 86 (owI es) (.c (.sl [[cI rule,.sl [],.sl [faC c]]])) K:=λK hK=>hx▸Qp (by omega) hK;refine rl 0 5 40 (E:=if es.isEmpty then none else some (35,3)) (es:=es.map inC) rfl (show 0<5 by decide) rfl rfl ?_
   intro v2;simp only[sf,seval,S.split,dx,lb,gl,gm];refine sZ (v:=v2) (E:=if es.isEmpty then none else some (35,3)) (es:=es.map inC) rfl rfl (by decide) ?_
   simp only[pkA,seval];refine ap _ ?_;unfold owI;simp only[sf,seval,gm,g5];exact C9 rfl (show 1<=5 by decide) (by simp[lbx,owI])
def OG (x:In):List C:=[cI x.rule,fsC x.pre,.sx (x.con.map faC)]
def lbh (p:Pol) (es:List In) (x:In):List V:=[.c (cS p.name),.c (.sl (p.types.map tyC)),.c (.sl (p.rules.map ruC)),.c (.sl (p.quorums.map quC)),i64 p.types.length,.hh none (some (35,3)) (es.map inC++[OG x])]
theorem H6 (p:Pol) (es:List In) (rule:Int) (one two c:Fa) (hm:es.length<1000000) (jE:0<one.kind) (nD:0<two.kind) :
 FnB Tryz.prog G 110 [.bp 0 0,i64 rule,.agg (faC one),.agg (faC two),.agg (faC c)] [lbx p es] (.tup []) [lbh p es ⟨rule,[one,two],[c]⟩]:=by
 refine jL (rs:=[]) (k:=1) [2300003,2400022,2300005,2400031,2300006,2400040,2450040,2500014,1400013,3000001] mixed Tryz.func110 rfl rfl rfl rfl (by kernel_rfl) (by simp) rfl rfl rfl (wZ rfl) (ab _) ?_;simp only[nw,seval];refine .inr (.inr ?_);have c1:decide (0<one.kind)=true:=dD jE;have c2:decide (0<two.kind)=true:=dD nD;have q0:eQ [i64 0,.ow none [],.ow none []] 0 [i64 rule,.ow none [],.c (.sx [faC c])]=[i64 rule,.ow none [],.c (.sx [faC c])]:=rfl;have q1:∀ a b d x:V,eQ [a,b,d] 1 [x]=[a,x,d]:=λ_ _ _ _=>rfl;have lb:∀ x:V,(lbx p es).set 5 x=[.c (cS p.name),.c (.sl (p.types.map tyC)),.c (.sl (p.rules.map ruC)),.c (.sl (p.quorums.map quC)),i64 p.types.length,x]:=λ_=>rfl;have gl:∀ nb q (y:Value) K,ldB nb q [.c (cS p.name),.c (.sl (p.types.map tyC)),.c (.sl (p.rules.map ruC)),.c (.sl (p.quorums.map quC)),i64 p.types.length,.c (.ex y)] 5 K=(q<nb/\K (.c (.ex y))):=λ_ _ _ _=>rfl;have gm:∀ y:Value,ck [.c (cS p.name),.c (.sl (p.types.map tyC)),.c (.sl (p.rules.map ruC)),.c (.sl (p.quorums.map quC)),i64 p.types.length,.c (.ex y)]=false:=λ_=>rfl;have g5:∀ (y:Value) (x:V),eQ [.c (cS p.name),.c (.sl (p.types.map tyC)),.c (.sl (p.rules.map ruC)),.c (.sl (p.quorums.map quC)),i64 p.types.length,.c (.ex y)] 5 [x]=[.c (cS p.name),.c (.sl (p.types.map tyC)),.c (.sl (p.rules.map ruC)),.c (.sl (p.quorums.map quC)),i64 p.types.length,x]:=λ_ _=>rfl;simp only[nw,seval,q0,c1];refine rl 4 1 22 (E:=none) (es:=[]) rfl (show 4<5 by decide) rfl rfl ?_;intro v22;simp only[nw,seval,S.split,dx];refine sZ (v:=v22) (E:=none) (es:=[]) rfl rfl (by decide) ?_;simp only[pkA,seval];refine tJ (l:=[]) (x:=one) (by simp) ?_;simp only[nw,seval,q1,owF,c2];refine rl 4 1 31 (E:=(some (54,3))) (es:=[faC one]) rfl (show 4<5 by decide) rfl rfl ?_;intro v31;simp only[nw,seval,S.split,dx];refine sZ (v:=v31) (E:=(some (54,3))) (es:=[faC one]) rfl rfl (by decide) ?_;simp only[pkA,seval];refine tJ (l:=[one]) (x:=two) (by simp) ?_;simp only[sf,seval,q1,owF];refine rl 0 5 40 (E:=if es.isEmpty then none else some (35,3)) (es:=es.map inC) rfl (show 0<5 by decide) rfl rfl ?_
 intro v2;simp only[sf,seval,S.split,dx,lb,gl,gm];refine ahM (v:=v2) (y1:=[cI rule,.sl [faC one,faC two],.sx [faC c]]) oK rfl lF rfl rfl rfl (by decide) rfl rfl rfl (by decide) rfl (by cases es<;>simp) (sY Bg _) rfl (by simp;omega) (by simp;omega) ?_;simp only[sf,seval,gm];rw[ahN (by simp[aj])];simp only[pkA,seval,g5];exact nO [] rfl (by simp only[gz,lbh,aY,bn,aB,aF];rfl) (ab _) (show 1<=5 by decide) trivial ⟨by simp[lbh,OG,fsC],trivial⟩ nW
