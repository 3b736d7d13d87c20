/- Layer 17, the specification: ruled, add. -/
import Derived.Test.YtloppcgcepgbnaaGreatDoorVlR5
import Derived.Test.YtloppcgcepgbnaaGreatDoorVlRunB
set_option maxHeartbeats 4000000
set_option linter.all false
namespace Go.Proofs.YtloppcgcepgbnaaGreatDoor
open Go Go.Vl
variable {G:Gl}
set_option maxRecDepth 4000
def owR (l:List Ru):V:=.ow (if l.isEmpty then none else some (120,3)) (l.map ruC)
theorem ahu {l:List Ru}:(owR l).fz=.c (.sl (l.map ruC)):=rfl
theorem ahv {l:List Ru}:(owR l).isOw=true:=rfl
theorem akw {l:List Ru} {x:Ru} {K:V->Prop} (h:l.length+1<=1000000000) (hK:K (owR (l++[x]))):dR Tryz.prog 23 (owR l) (.c (.sl [ruC x])) K:=by
 unfold owR;rw[agP];refine⟨⟨by cases l<;>simp,sC x9 _⟩,⟨by simp only[au,bz];omega,by simp only[au,bz];omega,by simp[ruC]⟩,?_⟩;have e:(if[ruC x].isEmpty=true then(if l.isEmpty=true then none else some (120,3)) else some (120,3))=if(l++[x]).isEmpty=true then none else some (120,3):=by cases l<;>simp
 have e2:l.map ruC++[ruC x]=(l++[x]).map ruC:=by simp
 rw[e,e2];exact hK
def C9 (p:Pol) (kind:Int) (r:Ru):Bool:=decide (r.kind=kind)&&(decide (0<=r.a)&&(decide (r.a<p.types.length)&&(decide (0<=r.b)&&decide (r.b<p.types.length))))
theorem acK {p:Pol} {kind:Int} {r:Ru}:C9 p kind r=AN p kind r:=by unfold C9 AN;rw[jO];simp only[aW,bF];omega
def ruR (p:Pol) (kind:Int) (n:Nat):List Ru:=(p.rules.take n).filter (C9 p kind)
theorem KN {p:Pol} {kind:Int} {n:Nat} (h:n<p.rules.length):ruR p kind (n+1)=if C9 p kind p.rules[n]=true then ruR p kind n++[p.rules[n]] else ruR p kind n:=by unfold ruR;rw[aU h,iq];by_cases h:C9 p kind p.rules[n]=true<;>simp[h]
theorem qO {p:Pol} {kind:Int} {n:Nat}:(ruR p kind n).length<=n:=by unfold ruR;exact b9 (dK _ _) (by simp;omega)
section
variable {r:Ru} {nb q:Nat} {K:V->Prop}
end
def ahw:=jj @aht (jj @ahu @ahv)
def nu:=jj @pkA (jj @ptA @ahw)
def aeo:=jj @pkA @ahw
theorem rO (p:Pol) (es:List In) (kind:Int) (hm:p.rules.length<=1000000) :
 FnB Tryz.prog G 112 [.bp 0 0,i64 kind] [lbx p es] (.c (.sl ((ruR p kind p.rules.length).map ruC))) [lbx p es]:=by
 refine jM (rs:=[.tmp 4]) (k:=1) [58,3000001] mixed Tryz.func112 rfl rfl rfl rfl (by kernel_rfl) (by simp) rfl rfl rfl (wQ rfl) (ab _) ?_;simp only[pkA,seval];refine bw (λi:Nat=>hdS [(0,.bp 0 0),(1,i64 kind),(5,owR (ruR p kind i)),(6,i64 i)] [lbx p es]) (λi=>p.rules.length - i) (λi=>i<=p.rules.length) 0 (ar _) ?_ ?_
 .exact le1 rfl (ab _) (ab _) (by simp[FL,ah,ruR,owR]) rfl
 rintro i hi R bL bO c8;simp only[nu,seval,au];refine aD (λbE=>?_) (λfH=>?_)
 .have bE:i<p.rules.length:=by simpa using bE
  have hw:=bn (n:=(i:Int)+1) (k:=i+1) (by omega) (by omega);have hl:=@qO p kind i;simp only[nu,seval];refine dQ mq rfl fU (by decide) (ay i) (c:=ruC p.rules[i]) (by simp[bE]) rfl ?_;have q1:∀ a b c:V,eP [a,b,c] 0 ((ruC p.rules[i]).map .c)=(ruC p.rules[i]).map .c:=λ_ _ _=>rfl;have eH:C9 p kind p.rules[i]=(decide (p.rules[i].kind=kind)&&(decide (0<=p.rules[i].a)&&(decide (p.rules[i].a<p.types.length)&&(decide (0<=p.rules[i].b)&&decide (p.rules[i].b<p.types.length))))):=rfl;have stay:C9 p kind p.rules[i]=false->∀ fr bx nb,fr 0=.bp 0 0->fr 1=i64 kind->fr 5=owR (ruR p kind i)->fr 6=i64 ((i:Int)+1)->bx 0=lbx p es->1<=nb->R .normal ⟨fr,bx,nb⟩:=λh fr bx nb f0 f1 f5 f6 b0 hn=>
   bL (i+1) _ bE (by omega) (le1 rfl (ab _) hn (by simp[FL,f0,f1,f5,f6,KN bE,h]) b0)
  simp only[nu,seval,q1];cases h1:decide (p.rules[i].kind=kind)
  .simp only[pkA,seval,hw]
   exact stay (by rw[eH,h1];rfl) _ _ _ rfl rfl rfl rfl (by simp[ah,bxs]) (show 1<=2 by decide)
  cases h2:decide (0<=p.rules[i].a)
  .simp only[nu,seval,h2,hw]
   exact stay (by rw[eH,h1,h2];rfl) _ _ _ rfl rfl rfl rfl (by simp[ah,bxs]) (show 1<=2 by decide)
  cases h3:decide (p.rules[i].a<p.types.length)
  .simp only[nu,seval,h2,h3,hw]
   exact stay (by rw[eH,h1,h2,h3];rfl) _ _ _ rfl rfl rfl rfl (by simp[ah,bxs]) (show 1<=2 by decide)
  cases h4:decide (0<=p.rules[i].b)
  .simp only[nu,seval,h2,h3,h4,hw]
   exact stay (by rw[eH,h1,h2,h3,h4];rfl) _ _ _ rfl rfl rfl rfl (by simp[ah,bxs]) (show 1<=2 by decide)
  cases h5:decide (p.rules[i].b<p.types.length)
  .simp only[nu,seval,h2,h3,h4,h5,hw]
   exact stay (by rw[eH,h1,h2,h3,h4,h5];rfl) _ _ _ rfl rfl rfl rfl (by simp[ah,bxs]) (show 1<=2 by decide)
  have hy:C9 p kind p.rules[i]=true:=by rw[eH,h1,h2,h3,h4,h5];rfl
  simp only[nu,seval,h2,h3,h4,h5,dm];refine akw (l:=ruR p kind i) (x:=p.rules[i]) (by omega) ?_;simp only[aeo,seval,hw];exact bL (i+1) _ bE (by omega) (le1 rfl (ab _) (show 1<=2 by decide) (by simp[FL,ah,KN bE,hy]) (by simp[ah,bxs]))
 .have:i=p.rules.length:=by simp at fH;omega
  subst this;simp only[pkA];refine bO _ _ ?_;simp only[aeo,seval];exact akv rfl (ab _) rfl (by simp[]) rfl
def mz (rule:Int) (one two c:Fa):In:=⟨rule,(if 0<one.kind then[one] else[])++(if 0<two.kind then[two] else[]),[c]⟩
def rP:=jj @pkA @ptA
theorem nv (p:Pol) (es:List In) (rule:Int) (one two c:Fa) (hm:es.length<1000000) :
 FnB Tryz.prog G 110 [.bp 0 0,i64 rule,.agg (faC one),.agg (faC two),.agg (faC c)] [lbx p es] (.tup []) [lbx p (es++[mz rule one two c])]:=by
 refine jM (rs:=[]) (k:=1) [2300003,2400022,2300005,2400031,2300006,2400040,2500014,3000001] mixed Tryz.func110 rfl rfl rfl rfl (by kernel_rfl) (by simp) rfl rfl rfl (wQ rfl) (ab _) ?_;simp only[nu,seval];have q0:eP [i64 0,.ow none [],.ow none []] 0 [i64 rule,.ow none [],.c (.sl [faC c])]=[i64 rule,.ow none [],.c (.sl [faC c])]:=rfl;have q1:∀ a b d x:V,eP [a,b,d] 1 [x]=[a,x,d]:=λ_ _ _ _=>rfl;have q0:eP [i64 0,.ow none [],.ow none []] 0 [i64 rule,.ow none [],.c (.sl [faC c])]=[i64 rule,.ow none [],.c (.sl [faC c])]:=rfl;have q1:∀ a b d x:V,eP [a,b,d] 1 [x]=[a,x,d]:=λ_ _ _ _=>rfl;have lb:∀ x:V,(lbx p es).set 5 x=[.c (cS p.name),.c (.sl (p.types.map tyC)),.c (.sl (p.rules.map ruC)),.c (.sl (p.quorums.map quC)),i64 p.types.length,x]:=λ_=>rfl;have gl:∀ nb q (y:Value) K,ldB nb q [.c (cS p.name),.c (.sl (p.types.map tyC)),.c (.sl (p.rules.map ruC)),.c (.sl (p.quorums.map quC)),i64 p.types.length,.c (.ex y)] 5 K=(q<nb/\K (.c (.ex y))):=λ_ _ _ _=>rfl;have gm:∀ y:Value,cL [.c (cS p.name),.c (.sl (p.types.map tyC)),.c (.sl (p.rules.map ruC)),.c (.sl (p.quorums.map quC)),i64 p.types.length,.c (.ex y)]=false:=λ_=>rfl;have g5:∀ (y:Value) (x:V),eP [.c (cS p.name),.c (.sl (p.types.map tyC)),.c (.sl (p.rules.map ruC)),.c (.sl (p.quorums.map quC)),i64 p.types.length,.c (.ex y)] 5 [x]=[.c (cS p.name),.c (.sl (p.types.map tyC)),.c (.sl (p.rules.map ruC)),.c (.sl (p.quorums.map quC)),i64 p.types.length,x]:=λ_ _=>rfl;refine aD (λh1=>?_) (λh1=>?_)
 .have jF:0<one.kind:=by simpa using h1
  simp only[pkA,seval,q0];refine ra 4 1 22 (E:=none) (es:=[]) rfl (show 4<5 by decide) rfl rfl ?_;intro v;simp only[nu,seval,S.split,dm];refine sD (v:=v) (E:=none) (es:=[]) rfl rfl (by decide) ?_;simp only[pkA,seval];refine rM (l:=[]) (x:=one) (by simp) ?_;simp only[nu,seval,q1,owF];refine aD (λh2=>?_) (λh2=>?_)
  .have nB:0<two.kind:=by simpa using h2
   simp only[pkA,seval];refine ra 4 1 31 (E:=(some (54,3))) (es:=[faC one]) rfl (show 4<5 by decide) rfl rfl ?_;intro v;simp only[nu,seval,S.split,dm];refine sD (v:=v) (E:=(some (54,3))) (es:=[faC one]) rfl rfl (by decide) ?_;simp only[pkA,seval];refine rM (l:=[one]) (x:=two) (by simp) ?_;simp only[rP,seval,q1,owF];have hx:inC (mz rule one two c)=[cI rule,.sl [faC one,faC two],.sl [faC c]]:=(by simp[inC,mz,fsC,jF,nB]);have ap:∀ K,K (owI (es++[mz rule one two c]))->dR Tryz.prog 86 (owI es) (.c (.sl [[cI rule,.sl [faC one,faC two],.sl [faC c]]])) K:=λK hK=>hx▸PV (by omega) hK;refine ra 0 5 40 (E:=if es.isEmpty then none else some (35,3)) (es:=es.map inC) rfl (show 0<5 by decide) rfl rfl ?_
   intro v2;simp only[rP,seval,S.split,dm,lb,gl,gm];refine sD (v:=v2) (E:=if es.isEmpty then none else some (35,3)) (es:=es.map inC) rfl rfl (by decide) ?_
   simp only[pkA,seval];refine ap _ ?_;unfold owI;simp only[rP,seval,gm,g5];exact C7 rfl (show 1<=5 by decide) (by simp[lbx,owI])
  .have nB:¬ 0<two.kind:=by simpa using h2
   simp only[pkA,seval];have hx:inC (mz rule one two c)=[cI rule,.sl [faC one],.sl [faC c]]:=(by simp[inC,mz,fsC,jF,nB]);have ap:∀ K,K (owI (es++[mz rule one two c]))->dR Tryz.prog 86 (owI es) (.c (.sl [[cI rule,.sl [faC one],.sl [faC c]]])) K:=λK hK=>hx▸PV (by omega) hK;refine ra 0 5 40 (E:=if es.isEmpty then none else some (35,3)) (es:=es.map inC) rfl (show 0<5 by decide) rfl rfl ?_
   intro v2;simp only[rP,seval,S.split,dm,lb,gl,gm];refine sD (v:=v2) (E:=if es.isEmpty then none else some (35,3)) (es:=es.map inC) rfl rfl (by decide) ?_
   simp only[pkA,seval];refine ap _ ?_;unfold owI;simp only[rP,seval,gm,g5];exact C7 rfl (show 1<=5 by decide) (by simp[lbx,owI])
 .have jF:¬ 0<one.kind:=by simpa using h1
  simp only[nu,seval,q0];refine aD (λh2=>?_) (λh2=>?_)
  .have nB:0<two.kind:=by simpa using h2
   simp only[pkA,seval];refine ra 4 1 31 (E:=none) (es:=[]) rfl (show 4<5 by decide) rfl rfl ?_;intro v;simp only[nu,seval,S.split,dm];refine sD (v:=v) (E:=none) (es:=[]) rfl rfl (by decide) ?_;simp only[pkA,seval];refine rM (l:=[]) (x:=two) (by simp) ?_;simp only[rP,seval,q1,owF];have hx:inC (mz rule one two c)=[cI rule,.sl [faC two],.sl [faC c]]:=(by simp[inC,mz,fsC,jF,nB]);have ap:∀ K,K (owI (es++[mz rule one two c]))->dR Tryz.prog 86 (owI es) (.c (.sl [[cI rule,.sl [faC two],.sl [faC c]]])) K:=λK hK=>hx▸PV (by omega) hK;refine ra 0 5 40 (E:=if es.isEmpty then none else some (35,3)) (es:=es.map inC) rfl (show 0<5 by decide) rfl rfl ?_
   intro v2;simp only[rP,seval,S.split,dm,lb,gl,gm];refine sD (v:=v2) (E:=if es.isEmpty then none else some (35,3)) (es:=es.map inC) rfl rfl (by decide) ?_
   simp only[pkA,seval];refine ap _ ?_;unfold owI;simp only[rP,seval,gm,g5];exact C7 rfl (show 1<=5 by decide) (by simp[lbx,owI])
  .have nB:¬ 0<two.kind:=by simpa using h2
   simp only[pkA,seval];have hx:inC (mz rule one two c)=[cI rule,.sl [],.sl [faC c]]:=(by simp[inC,mz,fsC,jF,nB]);have ap:∀ K,K (owI (es++[mz rule one two c]))->dR Tryz.prog 86 (owI es) (.c (.sl [[cI rule,.sl [],.sl [faC c]]])) K:=λK hK=>hx▸PV (by omega) hK;refine ra 0 5 40 (E:=if es.isEmpty then none else some (35,3)) (es:=es.map inC) rfl (show 0<5 by decide) rfl rfl ?_
   intro v2;simp only[rP,seval,S.split,dm,lb,gl,gm];refine sD (v:=v2) (E:=if es.isEmpty then none else some (35,3)) (es:=es.map inC) rfl rfl (by decide) ?_
   simp only[pkA,seval];refine ap _ ?_;unfold owI;simp only[rP,seval,gm,g5];exact C7 rfl (show 1<=5 by decide) (by simp[lbx,owI])
def N7 (x:In):List C:=[cI x.rule,fsC x.pre,.sx (x.con.map faC)]
def lbh (p:Pol) (es:List In) (x:In):List V:=[.c (cS p.name),.c (.sl (p.types.map tyC)),.c (.sl (p.rules.map ruC)),.c (.sl (p.quorums.map quC)),i64 p.types.length,.hh none (some (35,3)) (es.map inC++[N7 x])]
theorem HT (p:Pol) (es:List In) (rule:Int) (one two c:Fa) (hm:es.length<1000000) (jF:0<one.kind) (nB:0<two.kind) :
 FnB Tryz.prog G 110 [.bp 0 0,i64 rule,.agg (faC one),.agg (faC two),.agg (faC c)] [lbx p es] (.tup []) [lbh p es ⟨rule,[one,two],[c]⟩]:=by
 refine jM (rs:=[]) (k:=1) [2300003,2400022,2300005,2400031,2300006,2400040,2450040,2500014,1400013,3000001] mixed Tryz.func110 rfl rfl rfl rfl (by kernel_rfl) (by simp) rfl rfl rfl (wQ rfl) (ab _) ?_;simp only[nu,seval];refine .inr (.inr ?_);have c1:decide (0<one.kind)=true:=dn jF;have c2:decide (0<two.kind)=true:=dn nB;have q0:eP [i64 0,.ow none [],.ow none []] 0 [i64 rule,.ow none [],.c (.sx [faC c])]=[i64 rule,.ow none [],.c (.sx [faC c])]:=rfl;have q1:∀ a b d x:V,eP [a,b,d] 1 [x]=[a,x,d]:=λ_ _ _ _=>rfl;have lb:∀ x:V,(lbx p es).set 5 x=[.c (cS p.name),.c (.sl (p.types.map tyC)),.c (.sl (p.rules.map ruC)),.c (.sl (p.quorums.map quC)),i64 p.types.length,x]:=λ_=>rfl;have gl:∀ nb q (y:Value) K,ldB nb q [.c (cS p.name),.c (.sl (p.types.map tyC)),.c (.sl (p.rules.map ruC)),.c (.sl (p.quorums.map quC)),i64 p.types.length,.c (.ex y)] 5 K=(q<nb/\K (.c (.ex y))):=λ_ _ _ _=>rfl;have gm:∀ y:Value,cL [.c (cS p.name),.c (.sl (p.types.map tyC)),.c (.sl (p.rules.map ruC)),.c (.sl (p.quorums.map quC)),i64 p.types.length,.c (.ex y)]=false:=λ_=>rfl;have g5:∀ (y:Value) (x:V),eP [.c (cS p.name),.c (.sl (p.types.map tyC)),.c (.sl (p.rules.map ruC)),.c (.sl (p.quorums.map quC)),i64 p.types.length,.c (.ex y)] 5 [x]=[.c (cS p.name),.c (.sl (p.types.map tyC)),.c (.sl (p.rules.map ruC)),.c (.sl (p.quorums.map quC)),i64 p.types.length,x]:=λ_ _=>rfl;simp only[nu,seval,q0,c1];refine ra 4 1 22 (E:=none) (es:=[]) rfl (show 4<5 by decide) rfl rfl ?_;intro v22;simp only[nu,seval,S.split,dm];refine sD (v:=v22) (E:=none) (es:=[]) rfl rfl (by decide) ?_;simp only[pkA,seval];refine rM (l:=[]) (x:=one) (by simp) ?_;simp only[nu,seval,q1,owF,c2];refine ra 4 1 31 (E:=(some (54,3))) (es:=[faC one]) rfl (show 4<5 by decide) rfl rfl ?_;intro v31;simp only[nu,seval,S.split,dm];refine sD (v:=v31) (E:=(some (54,3))) (es:=[faC one]) rfl rfl (by decide) ?_;simp only[pkA,seval];refine rM (l:=[one]) (x:=two) (by simp) ?_;simp only[rP,seval,q1,owF];refine ra 0 5 40 (E:=if es.isEmpty then none else some (35,3)) (es:=es.map inC) rfl (show 0<5 by decide) rfl rfl ?_
 intro v2;simp only[rP,seval,S.split,dm,lb,gl,gm];refine afG (v:=v2) (y1:=[cI rule,.sl [faC one,faC two],.sx [faC c]]) tc rfl lD rfl rfl rfl (by decide) rfl rfl rfl (by decide) rfl (by cases es<;>simp) (sC Be _) rfl (by simp;omega) (by simp;omega) ?_;simp only[rP,seval,gm];rw[afH (by simp[ah])];simp only[pkA,seval,g5];exact nK [] rfl (by simp only[iV,lbh,bh,bB,aC,aG];rfl) (ab _) (show 1<=5 by decide) trivial ⟨by simp[lbh,N7,fsC],trivial⟩ nQ
