/- Layer 17, the specification: ruled, add. -/
import Derived.Test.YtjfjdomfldolcaaGreatVlR5
import Derived.Test.YtjfjdomfldolcaaGreatVlRunB
set_option maxHeartbeats 4000000
set_option linter.all false
namespace Go.Proofs.YtjfjdomfldolcaaGreat
open Go Go.Vl
variable {G:Gl}
set_option maxRecDepth 4000
def owR (l:List Ru):V:=.ow (if l.isEmpty then none else some (52,3)) (l.map ruC)
theorem afn {l:List Ru}:(owR l).fz=.c (.sl (l.map ruC)):=rfl
theorem afo {l:List Ru}:(owR l).isOw=true:=rfl
theorem aiK {l:List Ru} {x:Ru} {K:V→Prop} (h:l.length+1≤1000000000) (hK:K (owR (l++[x]))):dN Tryz.prog 23 (owR l) (.c (.sl [ruC x])) K:=by
 unfold owR
 rw[TZ]
 refine⟨⟨by cases l<;>simp,lz AP _⟩,⟨by simp only[au,bF];omega,by simp only[au,bF];omega,by simp[ruC]⟩,?_⟩
 have e:(if[ruC x].isEmpty=true then(if l.isEmpty=true then none else some (52,3)) else some (52,3))=if(l++[x]).isEmpty=true then none else some (52,3):=by
  cases l<;>simp
 have e2:l.map ruC++[ruC x]=(l++[x]).map ruC:=by simp
 rw[e,e2];exact hK
def B9 (p:Pol) (kind:Int) (r:Ru):Bool:=decide (r.kind=kind)&&(decide (0≤r.a)&&(decide (r.a<p.types.length)&&(decide (0≤r.b)&&decide (r.b<p.types.length))))
theorem aae {p:Pol} {kind:Int} {r:Ru}:B9 p kind r=Ar p kind r:=by
 unfold B9 Ar
 rw[kF]
 simp only[aS,bJ]
 omega
def ruR (p:Pol) (kind:Int) (n:Nat):List Ru:=(p.rules.take n).filter (B9 p kind)
theorem IT {p:Pol} {kind:Int} {n:Nat} (h:n<p.rules.length):ruR p kind (n+1)=if B9 p kind p.rules[n]=true then ruR p kind n++[p.rules[n]] else ruR p kind n:=by
 unfold ruR
 rw[aC h,fG]
 by_cases h:B9 p kind p.rules[n]=true<;>simp[h]
theorem qW {p:Pol} {kind:Int} {n:Nat}:(ruR p kind n).length≤n:=by
 unfold ruR
 exact bN (ck _ _) (by simp;omega)
section
variable {r:Ru} {nb q:Nat} {K:V→Prop}
theorem akW:ldB nb q ((ruC r).map .c) 0 K=(q<nb∧K (i64 r.kind)):=rfl
theorem akX:ldB nb q ((ruC r).map .c) 1 K=(q<nb∧K (i64 r.a)):=rfl
theorem akY:ldB nb q ((ruC r).map .c) 2 K=(q<nb∧K (i64 r.b)):=rfl
theorem aaf:cy ((ruC r).map V.c)=false:=rfl
theorem afp:ldA nb q ((ruC r).map .c) 0 3 K=(q<nb∧K (.agg (ruC r))):=by
 unfold ldA
 exact propext ⟨fun h=>⟨h.1,h.2.2⟩,fun h=>⟨h.1,⟨rfl,rfl⟩,h.2⟩⟩
end
def afq:=jj @afm (jj @akW (jj @akX (jj @akY (jj @aaf (jj @afp (jj @afn @afo))))))
def mR:=jj @pkA (jj @ptA @afq)
def abC:=jj @pkA @afq
theorem sb (p:Pol) (es:List In) (kind:Int) (hm:p.rules.length≤1000000) :
 FnB Tryz.prog G 63 [.bp 0 0,i64 kind] [lbx p es] (.c (.sl ((ruR p kind p.rules.length).map ruC))) [lbx p es]:=by
 refine lW (rs:=[.tmp 4]) (k:=1) [58,3000001] mixed Tryz.func63 rfl rfl rfl rfl (by kernel_rfl) (by simp) rfl rfl rfl (wR rfl) (ab _) ?_
 simp only[pkA,seval]
 refine bE (fun i:Nat=>hdS [(0,.bp 0 0),(1,i64 kind),(5,owR (ruR p kind i)),(6,i64 i)] [lbx p es]) (fun i=>p.rules.length - i) (fun i=>i≤p.rules.length) 0 (ar _) ?_ ?_
 ·exact le1 rfl (ab _) (ab _) (by simp[FL,ak,ruR,owR]) rfl
 rintro i hi R cj cJ eP
 simp only[mR,seval,au]
 refine aT (fun bK=>?_) (fun gr=>?_)
 ·have bK:i<p.rules.length:=by simpa using bK
  have hw:=bG (n:=(i:Int)+1) (k:=i+1) (by omega) (by omega)
  have hl:=@qW p kind i
  simp only[mR,seval]
  refine dR lJ rfl jZ (by decide) (aA i) (c:=ruC p.rules[i]) (by simp[bK]) rfl ?_
  have q1:∀ a b c:V,fj [a,b,c] 0 ((ruC p.rules[i]).map .c)=(ruC p.rules[i]).map .c:=fun _ _ _=>rfl
  have eH:B9 p kind p.rules[i]=(decide (p.rules[i].kind=kind)&&(decide (0≤p.rules[i].a)&&(decide (p.rules[i].a<p.types.length)&&(decide (0≤p.rules[i].b)&&decide (p.rules[i].b<p.types.length))))):=rfl
  have stay:B9 p kind p.rules[i]=false→∀ fr bx nb,fr 0=.bp 0 0→fr 1=i64 kind→fr 5=owR (ruR p kind i)→fr 6=i64 ((i:Int)+1)→bx 0=lbx p es→1≤nb→R .normal ⟨fr,bx,nb⟩:=fun h fr bx nb f0 f1 f5 f6 b0 hn=>
   cj (i+1) _ bK (by omega) (le1 rfl (ab _) hn (by simp[FL,f0,f1,f5,f6,IT bK,h]) b0)
  simp only[mR,seval,q1]
  cases h1:decide (p.rules[i].kind=kind)
  ·simp only[pkA,seval,hw]
   exact stay (by rw[eH,h1];rfl) _ _ _ rfl rfl rfl rfl (by simp[ak,bxs]) (show 1≤2 by decide)
  cases h2:decide (0≤p.rules[i].a)
  ·simp only[mR,seval,h2,hw]
   exact stay (by rw[eH,h1,h2];rfl) _ _ _ rfl rfl rfl rfl (by simp[ak,bxs]) (show 1≤2 by decide)
  cases h3:decide (p.rules[i].a<p.types.length)
  ·simp only[mR,seval,h2,h3,hw]
   exact stay (by rw[eH,h1,h2,h3];rfl) _ _ _ rfl rfl rfl rfl (by simp[ak,bxs]) (show 1≤2 by decide)
  cases h4:decide (0≤p.rules[i].b)
  ·simp only[mR,seval,h2,h3,h4,hw]
   exact stay (by rw[eH,h1,h2,h3,h4];rfl) _ _ _ rfl rfl rfl rfl (by simp[ak,bxs]) (show 1≤2 by decide)
  cases h5:decide (p.rules[i].b<p.types.length)
  ·simp only[mR,seval,h2,h3,h4,h5,hw]
   exact stay (by rw[eH,h1,h2,h3,h4,h5];rfl) _ _ _ rfl rfl rfl rfl (by simp[ak,bxs]) (show 1≤2 by decide)
  have hy:B9 p kind p.rules[i]=true:=by rw[eH,h1,h2,h3,h4,h5];rfl
  simp only[mR,seval,h2,h3,h4,h5,cG]
  refine aiK (l:=ruR p kind i) (x:=p.rules[i]) (by omega) ?_
  simp only[abC,seval,hw]
  exact cj (i+1) _ bK (by omega) (le1 rfl (ab _) (show 1≤2 by decide) (by simp[FL,ak,IT bK,hy]) (by simp[ak,bxs]))
 ·have:i=p.rules.length:=by simp at gr;omega
  subst this
  simp only[pkA]
  refine cJ _ _ ?_
  simp only[abC,seval]
  exact aiJ rfl (ab _) rfl (by simp[]) rfl
def lR (rule:Int) (one two c:Fa):In:=⟨rule,(if 0<one.kind then[one] else[])++(if 0<two.kind then[two] else[]),[c]⟩
def sc:=jj @pkA @ptA
theorem mS (p:Pol) (es:List In) (rule:Int) (one two c:Fa) (hm:es.length<1000000) :
 FnB Tryz.prog G 62 [.bp 0 0,i64 rule,.agg (faC one),.agg (faC two),.agg (faC c)] [lbx p es] (.tup []) [lbx p (es++[lR rule one two c])]:=by
 refine lW (rs:=[]) (k:=1) [2300003,2400022,2300005,2400031,2300006,2400040,2500014,3000001] mixed Tryz.func62 rfl rfl rfl rfl (by kernel_rfl) (by simp) rfl rfl rfl (wR rfl) (ab _) ?_
 simp only[mR,seval]
 have q0:fj [i64 0,.ow none [],.ow none []] 0 [i64 rule,.ow none [],.c (.sl [faC c])]=[i64 rule,.ow none [],.c (.sl [faC c])]:=rfl
 have q1:∀ a b d x:V,fj [a,b,d] 1 [x]=[a,x,d]:=fun _ _ _ _=>rfl
 have q0:fj [i64 0,.ow none [],.ow none []] 0 [i64 rule,.ow none [],.c (.sl [faC c])]=[i64 rule,.ow none [],.c (.sl [faC c])]:=rfl
 have q1:∀ a b d x:V,fj [a,b,d] 1 [x]=[a,x,d]:=fun _ _ _ _=>rfl
 have lb:∀ x:V,(lbx p es).set 5 x=[.c (cS p.name),.c (.sl (p.types.map tyC)),.c (.sl (p.rules.map ruC)),.c (.sl (p.quorums.map quC)),i64 p.types.length,x]:=fun _=>rfl
 have gl:∀ nb q (y:Value) K,ldB nb q [.c (cS p.name),.c (.sl (p.types.map tyC)),.c (.sl (p.rules.map ruC)),.c (.sl (p.quorums.map quC)),i64 p.types.length,.c (.ex y)] 5 K=(q<nb∧K (.c (.ex y))):=fun _ _ _ _=>rfl
 have gm:∀ y:Value,cy [.c (cS p.name),.c (.sl (p.types.map tyC)),.c (.sl (p.rules.map ruC)),.c (.sl (p.quorums.map quC)),i64 p.types.length,.c (.ex y)]=false:=fun _=>rfl
 have g5:∀ (y:Value) (x:V),fj [.c (cS p.name),.c (.sl (p.types.map tyC)),.c (.sl (p.rules.map ruC)),.c (.sl (p.quorums.map quC)),i64 p.types.length,.c (.ex y)] 5 [x]=[.c (cS p.name),.c (.sl (p.types.map tyC)),.c (.sl (p.rules.map ruC)),.c (.sl (p.quorums.map quC)),i64 p.types.length,x]:=fun _ _=>rfl
 refine aT (fun h1=>?_) (fun h1=>?_)
 ·have jf:0<one.kind:=by simpa using h1
  simp only[pkA,seval,q0]
  refine lV 4 1 22 (E:=none) (es:=[]) rfl (show 4<5 by decide) rfl rfl ?_
  intro v
  simp only[mR,seval,S.split,cG]
  refine mQ (v:=v) (E:=none) (es:=[]) rfl rfl (by decide) ?_
  simp only[pkA,seval]
  refine pY (l:=[]) (x:=one) (by simp) ?_
  simp only[mR,seval,q1,owF]
  refine aT (fun h2=>?_) (fun h2=>?_)
  ·have mG:0<two.kind:=by simpa using h2
   simp only[pkA,seval]
   refine lV 4 1 31 (E:=(some (28,3))) (es:=[faC one]) rfl (show 4<5 by decide) rfl rfl ?_
   intro v
   simp only[mR,seval,S.split,cG]
   refine mQ (v:=v) (E:=(some (28,3))) (es:=[faC one]) rfl rfl (by decide) ?_
   simp only[pkA,seval]
   refine pY (l:=[one]) (x:=two) (by simp) ?_
   simp only[sc,seval,q1,owF]
   have hx:inC (lR rule one two c)=[cI rule,.sl [faC one,faC two],.sl [faC c]]:=by simp[inC,lR,fsC,jf,mG]
   have ap:∀ K,K (owI (es++[lR rule one two c]))→dN Tryz.prog 44 (owI es) (.c (.sl [[cI rule,.sl [faC one,faC two],.sl [faC c]]])) K:=fun K hK=>hx▸Nn (by omega) hK
   refine lV 0 5 40 (E:=if es.isEmpty then none else some (41,3)) (es:=es.map inC) rfl (show 0<5 by decide) rfl rfl ?_
   intro v2
   simp only[sc,seval,S.split,cG,lb,gl,gm]
   refine mQ (v:=v2) (E:=if es.isEmpty then none else some (41,3)) (es:=es.map inC) rfl rfl (by decide) ?_
   simp only[pkA,seval]
   refine ap _ ?_
   unfold owI
   simp only[sc,seval,gm,g5]
   exact B8 rfl (show 1≤5 by decide) (by simp[lbx,owI])
  ·have mG:¬ 0<two.kind:=by simpa using h2
   simp only[pkA,seval]
   have hx:inC (lR rule one two c)=[cI rule,.sl [faC one],.sl [faC c]]:=by simp[inC,lR,fsC,jf,mG]
   have ap:∀ K,K (owI (es++[lR rule one two c]))→dN Tryz.prog 44 (owI es) (.c (.sl [[cI rule,.sl [faC one],.sl [faC c]]])) K:=fun K hK=>hx▸Nn (by omega) hK
   refine lV 0 5 40 (E:=if es.isEmpty then none else some (41,3)) (es:=es.map inC) rfl (show 0<5 by decide) rfl rfl ?_
   intro v2
   simp only[sc,seval,S.split,cG,lb,gl,gm]
   refine mQ (v:=v2) (E:=if es.isEmpty then none else some (41,3)) (es:=es.map inC) rfl rfl (by decide) ?_
   simp only[pkA,seval]
   refine ap _ ?_
   unfold owI
   simp only[sc,seval,gm,g5]
   exact B8 rfl (show 1≤5 by decide) (by simp[lbx,owI])
 ·have jf:¬ 0<one.kind:=by simpa using h1
  simp only[mR,seval,q0]
  refine aT (fun h2=>?_) (fun h2=>?_)
  ·have mG:0<two.kind:=by simpa using h2
   simp only[pkA,seval]
   refine lV 4 1 31 (E:=none) (es:=[]) rfl (show 4<5 by decide) rfl rfl ?_
   intro v
   simp only[mR,seval,S.split,cG]
   refine mQ (v:=v) (E:=none) (es:=[]) rfl rfl (by decide) ?_
   simp only[pkA,seval]
   refine pY (l:=[]) (x:=two) (by simp) ?_
   simp only[sc,seval,q1,owF]
   have hx:inC (lR rule one two c)=[cI rule,.sl [faC two],.sl [faC c]]:=by simp[inC,lR,fsC,jf,mG]
   have ap:∀ K,K (owI (es++[lR rule one two c]))→dN Tryz.prog 44 (owI es) (.c (.sl [[cI rule,.sl [faC two],.sl [faC c]]])) K:=fun K hK=>hx▸Nn (by omega) hK
   refine lV 0 5 40 (E:=if es.isEmpty then none else some (41,3)) (es:=es.map inC) rfl (show 0<5 by decide) rfl rfl ?_
   intro v2
   simp only[sc,seval,S.split,cG,lb,gl,gm]
   refine mQ (v:=v2) (E:=if es.isEmpty then none else some (41,3)) (es:=es.map inC) rfl rfl (by decide) ?_
   simp only[pkA,seval]
   refine ap _ ?_
   unfold owI
   simp only[sc,seval,gm,g5]
   exact B8 rfl (show 1≤5 by decide) (by simp[lbx,owI])
  ·have mG:¬ 0<two.kind:=by simpa using h2
   simp only[pkA,seval]
   have hx:inC (lR rule one two c)=[cI rule,.sl [],.sl [faC c]]:=by simp[inC,lR,fsC,jf,mG]
   have ap:∀ K,K (owI (es++[lR rule one two c]))→dN Tryz.prog 44 (owI es) (.c (.sl [[cI rule,.sl [],.sl [faC c]]])) K:=fun K hK=>hx▸Nn (by omega) hK
   refine lV 0 5 40 (E:=if es.isEmpty then none else some (41,3)) (es:=es.map inC) rfl (show 0<5 by decide) rfl rfl ?_
   intro v2
   simp only[sc,seval,S.split,cG,lb,gl,gm]
   refine mQ (v:=v2) (E:=if es.isEmpty then none else some (41,3)) (es:=es.map inC) rfl rfl (by decide) ?_
   simp only[pkA,seval]
   refine ap _ ?_
   unfold owI
   simp only[sc,seval,gm,g5]
   exact B8 rfl (show 1≤5 by decide) (by simp[lbx,owI])
def LO (x:In):List C:=[cI x.rule,fsC x.pre,.sx (x.con.map faC)]
def lbh (p:Pol) (es:List In) (x:In):List V:=[.c (cS p.name),.c (.sl (p.types.map tyC)),.c (.sl (p.rules.map ruC)),.c (.sl (p.quorums.map quC)),i64 p.types.length,.hh none (some (41,3)) (es.map inC++[LO x])]
theorem Gk (p:Pol) (es:List In) (rule:Int) (one two c:Fa) (hm:es.length<1000000) (jf:0<one.kind) (mG:0<two.kind) :
 FnB Tryz.prog G 62 [.bp 0 0,i64 rule,.agg (faC one),.agg (faC two),.agg (faC c)] [lbx p es] (.tup []) [lbh p es ⟨rule,[one,two],[c]⟩]:=by
 refine lW (rs:=[]) (k:=1) [2300003,2400022,2300005,2400031,2300006,2400040,2450040,2500014,1400013,3000001] mixed Tryz.func62 rfl rfl rfl rfl (by kernel_rfl) (by simp) rfl rfl rfl (wR rfl) (ab _) ?_
 simp only[mR,seval]
 refine .inr (.inr ?_)
 have c1:decide (0<one.kind)=true:=cu jf
 have c2:decide (0<two.kind)=true:=cu mG
 have q0:fj [i64 0,.ow none [],.ow none []] 0 [i64 rule,.ow none [],.c (.sx [faC c])]=[i64 rule,.ow none [],.c (.sx [faC c])]:=rfl
 have q1:∀ a b d x:V,fj [a,b,d] 1 [x]=[a,x,d]:=fun _ _ _ _=>rfl
 have lb:∀ x:V,(lbx p es).set 5 x=[.c (cS p.name),.c (.sl (p.types.map tyC)),.c (.sl (p.rules.map ruC)),.c (.sl (p.quorums.map quC)),i64 p.types.length,x]:=fun _=>rfl
 have gl:∀ nb q (y:Value) K,ldB nb q [.c (cS p.name),.c (.sl (p.types.map tyC)),.c (.sl (p.rules.map ruC)),.c (.sl (p.quorums.map quC)),i64 p.types.length,.c (.ex y)] 5 K=(q<nb∧K (.c (.ex y))):=fun _ _ _ _=>rfl
 have gm:∀ y:Value,cy [.c (cS p.name),.c (.sl (p.types.map tyC)),.c (.sl (p.rules.map ruC)),.c (.sl (p.quorums.map quC)),i64 p.types.length,.c (.ex y)]=false:=fun _=>rfl
 have g5:∀ (y:Value) (x:V),fj [.c (cS p.name),.c (.sl (p.types.map tyC)),.c (.sl (p.rules.map ruC)),.c (.sl (p.quorums.map quC)),i64 p.types.length,.c (.ex y)] 5 [x]=[.c (cS p.name),.c (.sl (p.types.map tyC)),.c (.sl (p.rules.map ruC)),.c (.sl (p.quorums.map quC)),i64 p.types.length,x]:=fun _ _=>rfl
 simp only[mR,seval,q0,c1]
 refine lV 4 1 22 (E:=none) (es:=[]) rfl (show 4<5 by decide) rfl rfl ?_
 intro v22
 simp only[mR,seval,S.split,cG]
 refine mQ (v:=v22) (E:=none) (es:=[]) rfl rfl (by decide) ?_
 simp only[pkA,seval]
 refine pY (l:=[]) (x:=one) (by simp) ?_
 simp only[mR,seval,q1,owF,c2]
 refine lV 4 1 31 (E:=(some (28,3))) (es:=[faC one]) rfl (show 4<5 by decide) rfl rfl ?_
 intro v31
 simp only[mR,seval,S.split,cG]
 refine mQ (v:=v31) (E:=(some (28,3))) (es:=[faC one]) rfl rfl (by decide) ?_
 simp only[pkA,seval]
 refine pY (l:=[one]) (x:=two) (by simp) ?_
 simp only[sc,seval,q1,owF]
 refine lV 0 5 40 (E:=if es.isEmpty then none else some (41,3)) (es:=es.map inC) rfl (show 0<5 by decide) rfl rfl ?_
 intro v2
 simp only[sc,seval,S.split,cG,lb,gl,gm]
 refine acY (v:=v2) (y1:=[cI rule,.sl [faC one,faC two],.sx [faC c]]) mP rfl kA rfl rfl rfl (by decide) rfl rfl rfl (by decide) rfl (by cases es<;>simp) (lz AQ _) rfl (by simp;omega) (by simp;omega) ?_
 simp only[sc,seval,gm]
 rw[acZ (by simp[ak])]
 simp only[pkA,seval,g5]
 exact tJ [] rfl (by simp only[kR,lbh,bR,cz,aZ,aU];rfl) (ab _) (show 1≤5 by decide) trivial ⟨by simp[lbh,LO,fsC],trivial⟩ pw
