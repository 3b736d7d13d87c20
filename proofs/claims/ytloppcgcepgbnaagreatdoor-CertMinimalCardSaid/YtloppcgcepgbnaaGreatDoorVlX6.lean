/- Layer 17, plain laws: the sorted list without repetitions, twice. -/
import Derived.Test.YtloppcgcepgbnaaGreatDoorVlR5
import Derived.Test.YtloppcgcepgbnaaGreatDoorVlC2
import Derived.Test.YtloppcgcepgbnaaGreatDoorKwVlW2
import Derived.Test.YtloppcgcepgbnaaGreatDoorVlX5
set_option linter.all false
namespace Go.Proofs.YtloppcgcepgbnaaGreatDoor
open Go Go.Vl
abbrev StF (l:List Fa):Prop:=l.Pairwise fun x y=>ltF x y=true
theorem Oi (x:Fa):ltF x x=false:=by unfold ltF;simp
theorem E6 {x y:Fa} (h:ltF x y=true):ltF y x=false:=by
 unfold ltF at *;simp only[bF,dc] at *;omega
theorem zb {x y z:Fa} (h1:ltF x y=true) (h2:ltF y z=true):ltF x z=true:=by
 unfold ltF at *;simp only[bF] at *;omega
theorem Oj {x y:Fa} (h1:ltF y x=false) (h2:x≠y):ltF x y=true:=by
 cases h:ltF x y
 ·exact absurd (xY h h1) h2
 ·rfl
theorem StF.nodup {l:List Fa} (h:StF l):l.Nodup:=h.imp fun h e=>by subst e;rw[Oi] at h;cases h
theorem sB {l m:List Fa} (hl:StF l) (hm:StF m) (h:∀ x,x∈l↔x∈m):l=m:=
 qO (lt:=ltF) ((gA hl.nodup hm.nodup).2 h) (fun x _ y _ h1 h2=>xY h1 h2) (hl.imp E6) (hm.imp E6)
theorem Hy {l:List Fa}:∀ m,m≤l.length→∀ x,x∈cpk l m↔x∈l.take m
 |0,_,x=>by simp[cpk]
 |m+1,h,x=>by
  have ih:=Hy (l:=l) m (Nat.le_of_succ_le h) x
  rw[bg (show m<l.length by omega),aZ,aW,← ih]
  by_cases h0:0<m
  ·by_cases he:l[m]=l[m - 1]'(by omega)
   ·rw[rD (by omega) h0 he]
    constructor
    ·exact .inl
    ·rintro(h1 | h1)
     ·exact h1
     ·rw[ih,h1,he]
      exact cT.2 ⟨m - 1,by simp only[Nat.lt_min];omega,rfl⟩
   ·rw[su (by omega) fun _=>he,aZ,aW]
  ·rw[su (by omega) fun h=>absurd h h0,aZ,aW]
theorem CQ {l:List Fa} (hs:l.Pairwise fun x y=>ltF y x=false):∀ m,m≤l.length→StF (cpk l m)
 |0,_=>List.Pairwise.nil
 |m+1,h=>by
  have ih:=CQ hs m (by omega)
  by_cases h0:0<m
  ·by_cases he:l[m]=l[m - 1]'(by omega)
   ·rw[rD (by omega) h0 he];exact ih
   ·rw[su (by omega) fun _=>he,StF,jV]
    refine⟨ih,List.pairwise_singleton _ _,fun y hy x hx=>?_⟩
    rw[aW] at hx;subst hx
    rw[Hy m (by omega),cT] at hy
    obtain⟨j,hj,rfl⟩:=hy
    have hp:=fN.1 hs
    have h1:ltF l[m] (l[j]'(by omega))=false:=hp j m (by omega) (by omega) (by omega)
    refine Oj h1 fun e=>he ?_
    have h2:ltF l[m] (l[m - 1]'(by omega))=false:=hp (m - 1) m (by omega) (by omega) (by omega)
    rcases bS j (m - 1) with h3 | h3
    ·have h4:ltF (l[m - 1]'(by omega)) (l[j]'(by omega))=false:=hp j (m - 1) (by omega) (by omega) h3
     rw[e] at h4
     exact xY h2 h4
    ·have:j=m - 1:=by omega
     subst this;exact e.symm
  ·have:m=0:=by omega
   subst this
   rw[su (by omega) fun h=>absurd h (Nat.lt_irrefl _)]
   simp[cpk]
theorem nc (l:List Fa):StF (fb l):=CQ (xZ l) _ (ar _)
theorem oq {l:List Fa} {x:Fa}:x∈fb l↔x∈l:=by
 unfold fb jc
 rw[Hy _ (ar _),cH]
 exact(wK l).mem_iff
theorem aeA {l:List Fa} {f:Fa} {j:Nat} (h:j<wP l f) (hj:j<l.length):ltF l[j] f=true:=by
 unfold wP at h
 have:=List.not_of_lt_findIdx h
 simpa using this
theorem aeB {l:List Fa} {f:Fa} (h:wP l f<l.length):ltF l[wP l f] f=false:=by
 have:=List.findIdx_getElem (xs:=l) (p:=fun y=>!ltF y f) (w:=h)
 simp only[dM] at this
 exact this
theorem CS {l:List Fa} {f x:Fa}:x∈sy l f↔x∈l∨x=f:=by
 unfold sy
 split
 ·rename_i h
  exact⟨.inl,fun h'=>by rcases h' with h' | rfl;exact h';exact aT h⟩
 ·have e:l=l.take (wP l f)++l.drop (wP l f):=(dh _ _).symm
  rw[aZ,aQ]
  conv=>rhs;rw[e,aZ]
  constructor
  ·rintro(h | h | h)
   ·exact .inl (.inl h)
   ·exact .inr h
   ·exact .inl (.inr h)
  ·rintro((h | h) | h)
   ·exact .inl h
   ·exact .inr (.inr h)
   ·exact .inr (.inl h)
theorem uw {l:List Fa} (hs:StF l) (f:Fa):StF (sy l f):=by
 unfold sy
 split
 ·exact hs
 ·rename_i gK
  have ke:=@ad0 l f
  have hp:=fN.1 hs
  have agm:∀ x∈l.drop (wP l f),ltF f x=true:=fun x hx=>by
   obtain⟨j,hj,rfl⟩:=gG hx
   rw[b9] at hj
   rw[List.getElem_drop]
   have hi:wP l f<l.length:=by omega
   have h1:ltF f l[wP l f]=true:=Oj (aeB hi) fun e=>gK (by rw[ab hi,← e])
   rcases kL j with h0 | h0
   ·subst h0;simpa using h1
   ·exact zb h1 (hp _ _ hi (by omega) (by omega))
  rw[StF,jV]
  refine⟨hs.sublist (List.take_sublist ..),kK.2 ⟨agm,hs.sublist (List.drop_sublist ..)⟩,fun x hx y hy=>?_⟩
  rw[cT] at hx
  obtain⟨j,hj,rfl⟩:=hx
  have h1:ltF (l[j]'(by omega)) f=true:=aeA (by omega) (by omega)
  rcases aQ.1 hy with rfl | hy
  ·exact h1
  ·exact zb h1 (agm y hy)
theorem E7 {l:List Fa}:∀ {m:List Fa},StF m→StF (l.foldl sy m)∧∀ x,x∈l.foldl sy m↔x∈l∨x∈m:=by
 induction l with
 |nil=>intro m h;exact⟨h,fun x=>by simp⟩
 |cons y l ih=>
  intro m h
  obtain⟨h1,h2⟩:=ih (uw h y)
  rw[dH]
  refine⟨h1,fun x=>?_⟩
  rw[h2,CS,aQ]
  constructor
  ·rintro(h | h | h)
   ·exact .inl (.inr h)
   ·exact .inr h
   ·exact .inl (.inl h)
  ·rintro((h | h) | h)
   ·exact .inr (.inr h)
   ·exact .inl h
   ·exact .inr (.inl h)
theorem KN (l:List Fa):StF (yZ l):=(E7 List.Pairwise.nil).1
theorem Zd {l:List Fa} {x:Fa}:x∈yZ l↔x∈l:=by
 unfold yZ
 rw[(E7 (m:=[]) List.Pairwise.nil).2];simp
theorem Ol (l:List Fa):fb l=yZ l:=sB (nc l) (KN l) fun x=>by rw[oq,Zd]
theorem nf {l:List Fa} (h:StF l):fb l=l:=sB (nc l) h fun x=>oq
theorem Hz (p:Pol):∀ n,StF (Kv p n)∧∀ x,x∈Kv p n↔x∈sw p n
 |0=>⟨List.Pairwise.nil,fun _=>Iff.rfl⟩
 |n+1=>by
  obtain⟨h1,h2⟩:=Hz p n
  simp only[Kv,PK,sw,Cf]
  split
  ·refine⟨uw (uw h1 _) _,fun x=>?_⟩
   rw[CS,CS,h2,aZ]
   simp only[aQ,aY,cN]
   constructor
   ·rintro((h | h) | h)
    ·exact .inl h
    ·exact .inr (.inl h)
    ·exact .inr (.inr h)
   ·rintro(h | h | h)
    ·exact .inl (.inl h)
    ·exact .inl (.inr h)
    ·exact .inr h
  ·exact⟨h1,fun x=>by rw[h2];simp⟩
theorem ajD (p:Pol):pf p=Kv p p.types.length:=sB (nc _) (Hz p _).1 fun x=>by unfold pf;rw[oq,(Hz p _).2]
open Go Go.Vl Go.Proofs.YtloppcgcepgbnaaGreatDoor.Kw
variable {G:Gl}
set_option maxRecDepth 100000
def mj (f:Fa):List Int:=[f.kind,f.a,f.b]
def nM (f:Fa):B:=((mj f).map Vl.encI).flatten
def iw (l:List Fa):B:=Vl.encI (fb l).length++((fb l).map nM).flatten
def FaI (f:Fa):Prop:=I64 f.kind∧I64 f.a∧I64 f.b
theorem nN (n:Int):(Vl.encI n).length≤9:=by
 have:=xQ (jb n)
 unfold Vl.encI
 simp only[aA,ak];omega
theorem Ze (f:Fa):(nM f).length≤27:=by
 have h1:=nN f.kind
 have h2:=nN f.a
 have h3:=nN f.b
 simp only[nM,mj,br,lO,cu,List.flatten_nil,aj,aB];omega
theorem Om:∀ l:List Fa,(l.map nM).flatten.length≤27*l.length
 |[]=>by simp
 |f::l=>by
  have h1:=Ze f
  have h2:=Om l
  simp only[br,cu,aj,aA];omega
theorem aeC {f:Fa} (h:FaI f) {j:Nat} (hj:j<3):I64 ((mj f)[j]'hj):=by
 match j,hj with
 |0,_=>exact h.1
 |1,_=>exact h.2.1
 |2,_=>exact h.2.2
theorem aoT {a b c:Int} {K:V→Prop}:iD Tryz.prog 65 [(0,i64 a),(1,i64 b),(2,i64 c)] K=K (.agg (faC ⟨a,b,c⟩)):=by
 simp only[iD,Px,pe];rfl
theorem TG (f:Fa):(mj f).length=3:=rfl
theorem ix3 {f:Fa} {j:Nat} (h:j<3) {K:V→Prop} (hK:K (i64 ((mj f)[j]'h))):mb Tryz.prog 65 (.agg (faC f)) (i64 j) K:=by
 simp only[mb,Px,pe]
 match j,h with
 |0,_=>exact⟨⟨by decide,by decide⟩,hK⟩
 |1,_=>exact⟨⟨by decide,by decide⟩,hK⟩
 |2,_=>exact⟨⟨by decide,by decide⟩,hK⟩
set_option maxHeartbeats 4000000 in
theorem pS (l:List Fa) (hl:l.length≤100000) (hI:∀ f∈l,FaI f):FnOK Tryz.prog G 19 [.c (fsC l)] (.c (.sl (bC (iw l)))):=by
 refine bR (rs:=[.tmp 2]) false [29] mixed Tryz.func19 rfl rfl rfl rfl (by kernel_rfl) (by simp) rfl rfl ?_
 simp only[pkA,seval,aK]
 refine aN rfl (EU l (by omega)) (fun h=>by cases h) ?_
 have lf:∀ (m:List Fa) (K:V→Prop),fw Tryz.prog 28 (.c (fsC m)) K=K (i64 m.length):=fun m K=>by unfold fsC;rw[ff eO rfl,ak]
 have LO:=oh l
 have hsI:∀ f∈fb l,FaI f:=fun f hf=>hI f (oq.1 hf)
 have he:iw l=Vl.encI (fb l).length++((fb l).map nM).flatten:=rfl
 rw[he]
 generalize fb l=m at *
 simp only[pkA,seval,lf]
 refine aN rfl (Za (m.length:Int) (aex (by omega))) (fun h=>by cases h) ?_
 simp only[pkA,seval,lf]
 refine cx (fun i:Nat=>hdS [(3,.ow EB (bC (Vl.encI m.length++((m.take i).map nM).flatten))),(13,.c (fsC m)),(14,i64 m.length),(15,i64 i)] []) (fun i=>m.length - i) (fun i=>i≤m.length) 0 (au _) ?_ ?_
 ·exact cL rfl (au _) (au _) (by simp[FL,ao]) trivial
 rintro i hi R cE cC dV
 simp only[pkA,seval]
 refine aS (fun bV=>?_) (fun jA=>?_)
 ·have bV:i<m.length:=by simpa using bV
  have hw:=cd (n:=(i:Int)+1) (k:=i+1) (by omega) (by omega)
  have ei:((i+1:Nat):Int)=(i:Int)+1:=by omega
  obtain⟨f,hf⟩:∃ f,f=m[i]:=⟨_,rfl⟩
  have hfI:FaI f:=hsI f (by rw[hf];exact bM bV)
  have ix:∀ {K:V→Prop},K (.c (.rp (faC f) 0))→dS Tryz.prog 28 (.c (fsC m)) (i64 i) K:=fun {K} hK=>
   fE eO rfl eV (by decide) (aJ _) (c:=faC f) (by simp[bV,hf]) rfl hK
  have r5:eS [i64 0,i64 0,i64 0] 0 ((faC f).map .c)=(faC f).map .c:=rfl
  have r7:bY ((faC f).map V.c)=false:=rfl
  have g0:∀ nb q (K:V→Prop),ldB nb q ((faC f).map .c) 0 K=(q<nb∧K (i64 f.kind)):=fun _ _ _=>rfl
  have g1:∀ nb q (K:V→Prop),ldB nb q ((faC f).map .c) 1 K=(q<nb∧K (i64 f.a)):=fun _ _ _=>rfl
  have g2:∀ nb q (K:V→Prop),ldB nb q ((faC f).map .c) 2 K=(q<nb∧K (i64 f.b)):=fun _ _ _=>rfl
  simp only[pkA,seval]
  refine ix ?_
  simp only[pkA,ptA,pkF,seval,aK,bz,r5,r7,g0,g1,g2]
  rw[aoT]
  simp only[pkA,seval]
  obtain⟨pre,vJ⟩:∃ pre,pre=Vl.encI m.length++((m.take i).map nM).flatten:=⟨_,rfl⟩
  have LA:pre.length≤9+27*i:=by
   have h1:=nN m.length
   have h2:=Om (m.take i)
   rw[aG] at h2
   rw[vJ,aj];omega
  rw[← vJ]
  refine cx (fun j:Nat=>hdS [(3,.ow EB (bC (pre++(((mj f).take j).map Vl.encI).flatten))),(13,.c (fsC m)),(14,i64 m.length),(15,i64 i),(25,.agg (faC f)),(26,i64 j)] []) (fun j=>3 - j) (fun j=>j≤3) 0 (au _) ?_ ?_
  ·exact cL rfl (au _) (au _) (by simp[FL,ao]) trivial
  rintro j hj Rj akD akE aqW
  simp only[pkA,seval]
  refine aS (fun Qa=>?_) (fun hjg=>?_)
  ·have Qa:j<3:=by simp at Qa;omega
   have hwj:=cd (n:=(j:Int)+1) (k:=j+1) (by omega) (by omega)
   have ej:((j+1:Nat):Int)=(j:Int)+1:=by omega
   simp only[pkA,seval]
   refine ix3 Qa ?_
   simp only[pkA,seval]
   refine aN rfl (Za _ (aeC hfI Qa)) (fun h=>by cases h) ?_
   simp only[pkA,seval,fh]
   have hq:(pre++(((mj f).take (j+1)).map Vl.encI).flatten)=(pre++(((mj f).take j).map Vl.encI).flatten)++Vl.encI (mj f)[j]:=by
    rw[bg (show j<(mj f).length from Qa),dA,dG];simp;rfl
   refine aoR ?_ ?_
   ·have h1:=PU (f:=Vl.encI) ((mj f).take j) nN
    have h2:=nN (mj f)[j]
    rw[aG] at h1
    rw[aj]
    have:min j (mj f).length≤3:=by rw[TG];omega
    omega
   rw[← hq]
   simp only[pkA,seval,hwj]
   refine akD (j+1) _ Qa (by omega) (cL rfl (au _) (au _) (by simp[FL,ao,ej]) trivial)
  ·have:j=3:=by simp at hjg;omega
   subst this
   simp only[pkA]
   refine akE _ _ ?_
   simp only[pkA,seval,hw]
   have hq:Vl.encI m.length++((m.take (i+1)).map nM).flatten=pre++(((mj f).take 3).map Vl.encI).flatten:=by
    rw[bg bV,dA,dG,← hf,← bw,← vJ];simp[nM];rfl
   refine cE (i+1) _ bV (by omega) (cL rfl (au _) (au _) (by have h9:=hq;simp only[j7] at h9;simp[FL,ao,ei,h9]) trivial)
 ·have:i=m.length:=by simp at jA;omega
  subst this
  rw[cH]
  simp only[pkA]
  refine cC _ _ ?_
  simp only[pkA,seval]
open Go Go.Vl Go.Sort
set_option maxRecDepth 4000
def wsC (W:List Wy):C:=.sl (W.map wyC)
theorem yq (w:Wy):(wyC w).length=6:=rfl
section
variable {K:V→Prop} {nb q:Nat} {w:Wy}
theorem aoU:ldA nb q ((wyC w).map .c) 0 3 K=(q<nb∧K (.agg (faC w.fact))):=by
 unfold ldA
 exact propext ⟨fun h=>⟨h.1,h.2.2⟩,fun h=>⟨h.1,⟨rfl,rfl⟩,h.2⟩⟩
theorem aoV:ldB nb q ((wyC w).map .c) 3 K=(q<nb∧K (i64 w.round)):=rfl
theorem aoW:ldB nb q ((wyC w).map .c) 4 K=(q<nb∧K (i64 w.rule)):=rfl
theorem aoX:ldB nb q ((wyC w).map .c) 5 K=(q<nb∧K (.c (fsC w.pre))):=rfl
theorem gwy:ldA nb q ((wyC w).map .c) 0 6 K=(q<nb∧K (.agg (wyC w))):=by
 unfold ldA
 exact propext ⟨fun h=>⟨h.1,h.2.2⟩,fun h=>⟨h.1,⟨rfl,rfl⟩,h.2⟩⟩
theorem aoY {sz:Nat}:cJ false sz 3 (wyC w) K=K (i64 w.round):=rfl
theorem aoZ {sz:Nat}:cJ false sz 4 (wyC w) K=K (i64 w.rule):=rfl
theorem ao0 {sz:Nat}:cJ false sz 5 (wyC w) K=K (.c (fsC w.pre)):=rfl
theorem aeD:bY ((wyC w).map V.c)=false:=rfl
end
def amB:=jj @amt (jj @yq (jj @aoU (jj @aoV (jj @aoW (jj @aoX (jj @gwy (jj @aoY (jj @aoZ (jj @ao0 @aeD)))))))))
def zW (a b:Wy):Int:=wJ a.fact b.fact
theorem TJ (a b:Wy):FnOK Tryz.prog G 91 [.agg (wyC a),.agg (wyC b)] (i64 (zW a b)):=by
 refine bR (rs:=[.tmp 4]) false [] mixed Tryz.func91 rfl rfl rfl rfl (by kernel_rfl) (by simp) rfl rfl ?_
 simp only[pkA,ptA,y5,amB,seval]
 refine aN rfl (sr _ _) (fun _=>rfl) ?_
 simp only[pkA,y5,seval]
 rfl
theorem Zf (a b:Wy):ltOf zW a b=ltF a.fact b.fact:=mE a.fact b.fact
theorem af2:SWO (ltOf zW) where
 irrefl x:=ltF_swo.irrefl x.fact
 trans x y z h1 h2:=ltF_swo.trans x.fact y.fact z.fact h1 h2
 ntrans x y z h1 h2:=ltF_swo.ntrans x.fact y.fact z.fact h1 h2
structure aeE (g:FuncId) (c:Wy→Wy→Int):Prop where
 ent:∀ args w,(callFunc g args).run Tryz.prog w=.ok (.enter g args) w
 ok:∀ x y,FnOK Tryz.prog gl0 g ([.agg (wyC x),.agg (wyC y)]++([]:List C).map .c) (i64 (c x y))
 swo:SWO (ltOf c)
 tot:∀ x y,ltOf c x y=false→ltOf c y x=false→x.fact=y.fact
theorem amC:aeE 91 zW:=
 ⟨enters_of Tryz.func91 (by kernel_rfl) rfl,fun x y=>TJ x y,af2,fun x y h1 h2=>by rw[Zf] at h1 h2;exact xY h1 h2⟩
def ux (c:Wy→Wy→Int) (W:List Wy):List Wy:=W.mergeSort fun x y=>!ltOf c y x
theorem sC (c:Wy→Wy→Int) (W:List Wy):(ux c W).Perm W:=List.mergeSort_perm ..
theorem yr {c:Wy→Wy→Int} (h:SWO (ltOf c)) (W:List Wy):(ux c W).Pairwise fun x y=>ltOf c y x=false:=by
 have:=List.pairwise_mergeSort (le:=fun x y=>!ltOf c y x) (fun x y z h1 h2=>by
  simp only[dM] at *
  exact h.ntrans z y x h2 h1) (fun x y=>by
  simp only[eT,dM]
  by_cases h1:ltOf c y x=true
  ·right
   rw[← Bool.not_eq_true]
   intro h2
   have:=h.trans x y x h2 h1
   rw[h.irrefl] at this;cases this
  ·left;simpa using h1) W
 exact this.imp fun h=>by simpa using h
theorem E8 {W:List Wy} (h:(cm W).Nodup) {x y:Wy} (hx:x∈W) (hy:y∈W) (he:x.fact=y.fact):x=y:=by
 induction W with
 |nil=>cases hx
 |cons w W ih=>
  have h':w.fact∉cm W∧(cm W).Nodup:=jK.1 h
  rcases aQ.1 hx with e1 | h1
  ·rcases aQ.1 hy with e2 | h2
   ·rw[e1,e2]
   ·exact absurd (bA.2 ⟨y,h2,by rw[← he,e1]⟩) h'.1
  ·rcases aQ.1 hy with e2 | h2
   ·exact absurd (bA.2 ⟨x,h1,by rw[he,e2]⟩) h'.1
   ·exact ih h'.2 h1 h2
theorem KO:∃ fn,Tryz.prog.funcs[135]?=some fn∧(fn.name== "runtime.NumGoroutine")=false∧∃ b,fn.body=some b:=⟨_,Tryz.func135,rfl,_,rfl⟩
theorem Zg {g:FuncId} {c:Wy→Wy→Int} (h:aeE g c) (l m:List Wy) (hl:l.length<4611686018427387904) (hm:m.Perm l) (oV:(cm l).Nodup) (cap:Nat) (hc:l.length≤cap) :
 FnB Tryz.prog G 135 [.ms 0 0 l.length cap 6,.c (.fn (.func g) [] [])] [flb wyC l] (.tup []) [flb wyC (ux c m)]:=
 JJ (ρ:=Tryz.sortWy_ren) Tryz.sortWy KO Tryz.isAgg93 Tryz.sizeOf93 yq (by decide) zwy [.int .i64 0,.int .i64 0,.int .i64 0,.int .i64 0,.int .i64 0,.slice none 0 0] rfl (fun v hv=>by simp at hv;rcases hv with rfl | rfl<;>rfl)
  (fun I w j x hx=>by
   match j with
   |0 | 1 | 2 | 3 | 4=>simp only[wyC,faC,zwy,cI,dx,dP,bJ,ct,ai] at hx;subst hx;exact .lit _ rfl
   |5=>simp only[wyC,faC,zwy,cI,fsC,dx,dP,bJ,ct,ai,lO] at hx;subst hx;exact .nil none 0 fun _=>rfl
   |j+6=>simp[wyC,faC] at hx)
  c h.swo g [] h.ent h.ok l (ux c m) hl ((sC c m).trans hm) (yr h.swo m) (fun x hx y hy h1 h2=>E8 oV hx hy (h.tot x y h1 h2)) cap hc
theorem TK {x:C}:FnOK Tryz.prog G 135 [.c (.sl []),.c x] (.tup []):=
 vO (ρ:=Tryz.sortWy_ren) Tryz.sortWy KO
