/- The specification's layer 1: an integer is read. -/
import Derived.Test.YtloppcgcepgbnaaGreatDoorKwVlQ1
set_option linter.all false
namespace Go.Proofs.YtloppcgcepgbnaaGreatDoor.Kw
open Go Go.Vl
variable {G:Gl}
end Go.Proofs.YtloppcgcepgbnaaGreatDoor.Kw
namespace Go.Proofs.YtloppcgcepgbnaaGreatDoor
open Go Go.Vl Go.Proofs.YtloppcgcepgbnaaGreatDoor.Kw
variable {G:Gl}
set_option maxRecDepth 100000
theorem CU {b:B} {e:Int} (h:e≠0):cQ b e=(0,b,e):=by unfold cQ;rw[if_pos h]
theorem vg {n:Int} (h:I64 n) (r:B):cQ (Vl.encI n++r) 0=(n,r,0):=by
 unfold cQ;rw[if_neg (by decide),Vl.getI_enc h r];simp
theorem yt {b b':B} {n:Int} (h:cQ b 0=(n,b',0)):I64 n∧b=Vl.encI n++b':=by
 unfold cQ at h;rw[if_neg (by decide)] at h
 obtain⟨m,u,f⟩:Int×Nat×Int:=nH b
 generalize hg:nH b=g at h
 obtain⟨m,u,f⟩:=g
 simp only[dC] at h
 obtain⟨rfl,rfl,rfl⟩:=h
 obtain⟨h1,h2,h3,h4⟩:=Vl.enc_getI hg
 exact⟨h1,by rw[← h3,dh]⟩
theorem PY (f:Fa) (r:B):nM f++r=Vl.encI f.kind++(Vl.encI f.a++(Vl.encI f.b++r)):=by
 simp[nM,mj]
theorem aeI {f:Fa} (h:FaI f) (r:B):mG (nM f++r) 0=(f,r,0):=by
 rw[PY];unfold mG
 simp only[vg h.1,vg h.2.1,vg h.2.2]
theorem Zs {b b':B} {f:Fa} (h:mG b 0=(f,b',0)):FaI f∧b=nM f++b':=by
 unfold mG at h
 generalize h1:cQ b 0=x at h
 obtain⟨k,b1,e1⟩:=x
 simp only at h
 by_cases q1:e1=0
 ·subst q1
  generalize h2:cQ b1 0=y at h
  obtain⟨a,b2,e2⟩:=y
  simp only at h
  by_cases q2:e2=0
  ·subst q2
   generalize h3:cQ b2 0=z at h
   obtain⟨c,b3,e3⟩:=z
   simp only[dC] at h
   obtain⟨rfl,rfl,rfl⟩:=h
   obtain⟨i1,w1⟩:=yt h1
   obtain⟨i2,w2⟩:=yt h2
   obtain⟨i3,w3⟩:=yt h3
   exact⟨⟨i1,i2,i3⟩,by rw[PY,w1,w2,w3]⟩
  ·rw[CU q2] at h;simp only[dC] at h;exact absurd h.2.2 q2
 ·rw[CU q1,CU q1] at h;simp only[dC] at h;exact absurd h.2.2 q1
theorem Zt {x y:Fa}:ltF x y=decide (wJ x y<0):=by rw[← mE];rfl
theorem aeJ {out:List Fa} {f:Fa} (h:StF (out++[f])):uv out f=false:=by
 unfold uv
 cases hl:out.getLast? with
 |none=>rfl
 |some g=>
  have hg:g∈out:=List.mem_of_getLast? hl
  have:=(jV.1 h).2.2 g hg f (List.mem_singleton_self f)
  rw[Zt] at this
  have:=bn this
  simp only[dc];omega
theorem aeK {out:List Fa} {f:Fa} (h:StF out) (hl:uv out f=false):StF (out++[f]):=by
 refine jV.2 ⟨h,List.pairwise_singleton _ _,fun x hx y hy=>?_⟩
 rw[aW] at hy;subst hy
 unfold uv at hl
 cases hg:out.getLast? with
 |none=>rw[List.getLast?_eq_none_iff] at hg;subst hg;cases hx
 |some g=>
  rw[hg] at hl
  have hgf:ltF g y=true:=by
   rw[Zt,bF]
   have:=cO hl;omega
  have gK:out≠[]:=by rintro rfl;cases hx
  have hgl:out.getLast gK=g:=by rw[List.getLast?_eq_some_getLast gK] at hg;exact dz hg
  rw[← List.dropLast_concat_getLast gK,aZ,aW] at hx
  rcases hx with hx | hx
  ·rw[← List.dropLast_concat_getLast gK] at h
   have:=(jV.1 h).2.2 x hx g (by rw[hgl];exact List.mem_singleton_self g)
   exact zb this hgf
  ·rw[hx,hgl];exact hgf
theorem PZ:∀ (m out:List Fa) (r:B),(∀ f∈m,FaI f)→StF (out++m)→kb m.length ⟨(m.map nM).flatten++r,0,out⟩=⟨r,0,out++m⟩
 |[],out,r,_,_=>by simp[kb]
 |f::m,out,r,hI,hs=>by
  have h1:=aeI (hI f (bB ..)) ((m.map nM).flatten++r)
  have D9:StF ((out++[f])++m):=by rw[bw];exact hs
  have hl:=aeJ (List.Pairwise.sublist (List.sublist_append_left (out++[f]) m) D9)
  show(if(0:Int)=0 then kb m.length (qg _) else _)=_
  rw[if_pos rfl]
  have e:qg ⟨((f::m).map nM).flatten++r,0,out⟩=⟨(m.map nM).flatten++r,0,out++[f]⟩:=by
   unfold qg
   simp only[br,cu,bw,h1,hl]
   rfl
  rw[e,PZ m (out++[f]) r (fun g hg=>hI g (aR _ hg)) D9,bw];rfl
theorem TP {m:List Fa} (h:m.length≤65536):cQ (Vl.encI m.length++(m.map nM).flatten) 0=((m.length:Int),(m.map nM).flatten,0):=vg (by unfold I64;omega) _
theorem zd {l:List Fa} (hI:∀ f∈l,FaI f) (hl:l.length≤65536):dF (iw l)=(fb l,0):=by
 have hsI:∀ f∈fb l,FaI f:=fun f hf=>hI f (oq.1 hf)
 have hst:=nc l
 have cn:=oh l
 have he:iw l=Vl.encI (fb l).length++((fb l).map nM).flatten:=rfl
 rw[he]
 generalize fb l=m at *
 have h1:=TP (m:=m) (by omega)
 have h2:=PZ m [] [] hsI (by simpa using hst)
 have h3:oo (Vl.encI m.length++(m.map nM).flatten)=⟨(m.map nM).flatten++[],0,[]⟩:=by
  unfold oo
  rw[h1]
  have:(decide ((m.length:Int)<0)||decide (65536<(m.length:Int)))=false:=by simp;omega
  simp only[this,ee]
  rfl
 unfold dF
 rw[h3,h1]
 simp only[gB,h2]
 rfl
theorem ze {is:Bool} {f e:Int} (h:lS is f e=0) (hf:f≠0):e=0∧is=false:=by
 unfold lS at h
 cases is
 ·simpa using h
 ·by_cases he:e=0
  ·subst he;simp at h;exact absurd h hf
  ·rw[if_neg (by simpa using he)] at h;exact absurd h he
theorem K4:∀ (n:Nat) (s:Rd),StF s.out→(kb n s).e=0→∃ m:List Fa,m.length=n∧(∀ f∈m,FaI f)∧(kb n s).out=s.out++m∧StF (s.out++m)∧s.b=(m.map nM).flatten++(kb n s).b∧s.e=0
 |0,s,hs,h=>⟨[],rfl,(fun _ h=>by cases h),(by simp[kb]),(by simpa using hs),(by simp[kb]),h⟩
 |n+1,s,hs,h=>by
  by_cases h0:s.e=0
  ·have hg:kb (n+1) s=kb n (qg s):=by show(if s.e=0 then _ else _)=_;rw[if_pos h0]
   rw[hg] at h ⊢
   have hz:(qg s).e=0:=by
    cases n with
    |zero=>exact h
    |succ n=>
     by_cases q:(qg s).e=0
     ·exact q
     ·have:kb (n+1) (qg s)=qg s:=by show(if(qg s).e=0 then _ else _)=_;rw[if_neg q]
      rw[this] at h;exact h
   have hf:=ze (show lS (uv s.out (mG s.b s.e).1) 6 (mG s.b s.e).2.2=0 from hz) (by decide)
   rw[h0] at hf
   obtain⟨f,b',e'⟩:Fa×B×Int:=mG s.b 0
   generalize ht:mG s.b 0=t at hf
   obtain⟨f,b',e'⟩:=t
   obtain⟨rfl,hl⟩:e'=0∧uv s.out f=false:=hf
   obtain⟨hfI,hb⟩:=Zs ht
   have eo:(qg s).out=s.out++[f]:=by unfold qg;rw[h0,ht]
   have eb:(qg s).b=b':=by unfold qg;rw[h0,ht]
   obtain⟨m,hm,hI,ho,hst,Qp,_⟩:=K4 n (qg s) (by rw[eo];exact aeK hs hl) h
   rw[eo,bw] at ho hst
   rw[eb] at Qp
   refine⟨f::m,by rw[aA,hm],fun g hg=>?_,ho,hst,?_,h0⟩
   ·rcases aQ.1 hg with rfl | hg
    ·exact hfI
    ·exact hI g hg
   ·rw[hb,Qp];simp
  ·have:kb (n+1) s=s:=by show(if s.e=0 then _ else _)=_;rw[if_neg h0]
   rw[this] at h;exact absurd h h0
theorem wV {b:B} (h:(dF b).2=0):StF (dF b).1∧(∀ f∈(dF b).1,FaI f)∧(dF b).1.length≤65536∧iw (dF b).1=b:=by
 have hE:dF b=(let s:=sZ (kb (cQ b 0).1.toNat (oo b));if s.e≠0 then([],s.e) else(s.out,0)):=rfl
 generalize hs:kb (cQ b 0).1.toNat (oo b)=s at hE
 simp only at hE
 by_cases he:(sZ s).e=0
 ·rw[if_neg (by rw[he];decide)] at hE
  have hE1:(dF b).1=s.out:=by rw[hE];rfl
  rw[hE1]
  obtain⟨h0,hb0⟩:=ze (show lS (decide (0<s.b.length)) 6 s.e=0 from he) (by decide)
  have hbn:s.b=[]:=by
   have:=cO hb0
   exact List.length_eq_zero_iff.1 (by omega)
  have hr:(kb (cQ b 0).1.toNat (oo b)).e=0:=by rw[hs];exact h0
  obtain⟨m,hm,hI,ho,hst,hb,hz⟩:=K4 _ (oo b) List.Pairwise.nil hr
  rw[hs] at ho hb
  rw[hbn,ee] at hb
  have hso:s.out=m:=by rw[ho];rfl
  rw[hso]
  obtain⟨he0,hc⟩:=ze (show lS (decide ((cQ b 0).1<0)||decide (65536<(cQ b 0).1)) 6 (cQ b 0).2.2=0 from hz) (by decide)
  have hc:¬ (cQ b 0).1<0∧¬ 65536<(cQ b 0).1:=by simpa using hc
  have hb2:(cQ b 0).2.1=(m.map nM).flatten:=hb
  have e1:(cQ b 0).1=((m.length:Nat):Int):=by omega
  have hn:cQ b 0=(((m.length:Nat):Int),(m.map nM).flatten,0):=Prod.ext e1 (Prod.ext hb2 he0)
  obtain⟨_,hbe⟩:=yt hn
  have hst:StF m:=hst
  refine⟨hst,hI,by omega,?_⟩
  show Vl.encI (fb m).length++((fb m).map nM).flatten=b
  rw[nf hst,hbe]
 ·rw[if_pos he] at hE
  rw[hE] at h;exact absurd h he
theorem Fb {b:B} (h:(dF b).2≠0):(dF b).1=[]:=by
 have hE:dF b=(let s:=sZ (kb (cQ b 0).1.toNat (oo b));if s.e≠0 then([],s.e) else(s.out,0)):=rfl
 simp only at hE
 split at hE
 ·rw[hE]
 ·rw[hE] at h;exact absurd rfl h
theorem zg (b:B):(dF b).1.length≤65536:=by
 by_cases h:(dF b).2=0
 ·exact(wV h).2.2.1
 ·rw[Fb h];exact au _
theorem aeL (b:B):∀ f∈(dF b).1,FaI f:=by
 by_cases h:(dF b).2=0
 ·exact(wV h).2.1
 ·rw[Fb h];exact fun _ h=>by cases h
