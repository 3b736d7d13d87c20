/- Layer 15: Valid. -/
import Derived.Test.YtegbpjodbjhjeaaGreatDoorVlUb
import Derived.Test.YtegbpjodbjhjeaaGreatDoorShelf
import Derived.Test.YtegbpjodbjhjeaaGreatDoorVlTree
set_option linter.all false
namespace Go.Proofs.YtegbpjodbjhjeaaGreatDoor
open Go Go.Vl
variable {G:Gl}
set_option maxRecDepth 4000
theorem JG {xs:List V} {Y:List (List V)} (h:eC xs Y=true):ltL Y.length Y:=by
 simp only[eC,aG,aW] at h
 exact fun b hb x hx=>V.ltB_ok (h.2 b hb x hx)
section
variable {tr:List Nat} {ty:TypeId} {d:Nat} {pos:String} {af:Array Edge} {g:Option (Nat×Bool)} {fr:Nat→V} {bx:Nat→List V} {nb:Nat} {H:Vl.S→Prop}
theorem afV:VStep Tryz.prog G tr ⟨some d,.alloc 105,ty,pos,af,g⟩ ⟨fr,bx,nb⟩ H=H ⟨up fr d (.bp nb 0),up bx nb [.c (.lit (.map none))],nb+1⟩:=nN uH rfl
end
theorem An {s:Vl.S} {f:V} {args all cargs:List V} {g:FuncId} {K:Vl.S→V→Prop} {M:List V} (hc:ew f args=some (g,all)) (hf:FnB Tryz.prog G g cargs [] (.mr 0) [M]) (dh:all.map V.fz=cargs) (hM:∀ ρ,M.map (V.ren ρ)=M)
 (hK:K { s with bx:=up s.bx s.nb M,nb:=s.nb+1 } (.mr s.nb)):vcallB Tryz.prog G s f args K:=by
 refine xb hc hf dh ?_
 simp only[ff,hM,da,V.ren,dL]
 exact hK
theorem aaR {fr:Nat→V} {bx:Nat→List V} {nb:Nat} {t:Tmp} {dO:Option Tmp} {b o i:Nat} {K:Vl.S→Prop} (h:fr t=.mr i):stS 1 (some t) dO b o (.mr i) ⟨fr,bx,nb⟩ K=
 ((b<nb∧o+1≤(bx b).length)∧K ((⟨fr,up bx b (eU (bx b) o [.mr i]),nb⟩:Vl.S).put dO .sk)):=by
 simp[stS,V.bcells,mn,h,V.isOw]
theorem SH {ρ:Nat→Nat} {x:C}:(V.c x).ren ρ=.c x:=rfl
def glT:Gl:=fun g=>if g=1 then some (Lib.pow10Tab.map fun z=>[C.lit (.int .u64 z)]).flatten else if g=1000000000 then some [] else none
theorem adw:gat glT 1=some (Lib.pow10Tab.map fun z=>[C.lit (.int .u64 z)]).flatten:=rfl
theorem Ao:¬ GT glT:=by unfold GT glT;simp
theorem Cf:Tryz.prog.globalNamed "internal/strconv.uint64pow10" = some 1:=by kernel_rfl
theorem SI {l:List Int}:(l.map fun z=>[C.lit (.int .u64 z)]).flatten=l.map fun z=>C.lit (.int .u64 z):=by
 induction l with
 |nil=>rfl
 |cons x l ih=>simp[ih]
theorem Li:(Lib.pow10Tab.map fun z=>C.lit (.int .u64 z)).length=20:=by rw[ap,Lib.pow10Tab_length]
theorem aaS {I:Ft} {w:World} (h:GOK glT I w):Lib.TabIs Tryz.prog w "internal/strconv.uint64pow10" .u64 Lib.pow10Tab:=by
 obtain⟨h1,_,h3⟩:=h 1 _ adw
 rw[SI] at h1 h3
 rw[Li] at h3
 obtain⟨b,off,f,hp,hf,hr⟩:=h1.rp_inv
 have hp2:(⟨1,0,none⟩:Addr)=⟨b,off+0,none⟩:=by injection hp with hp;exact dE hp
 injection hp2 with hb ho _
 have ho:off=0:=by omega
 subst hb;subst ho
 have hc:∀ j,j<20→w.cell? ⟨1,j,none⟩=(Lib.pow10Tab.map fun z=>Value.int .u64 z)[j]?:=fun j hj=>by
  have Uz:j<(Lib.pow10Tab.map fun z=>C.lit (.int .u64 z)).length:=by rw[Li];exact hj
  have hj3:j<Lib.pow10Tab.length:=by rw[Lib.pow10Tab_length];exact hj
  have e:=(hf j Uz).1
  rw[ah] at e
  have hg:(Lib.pow10Tab.map fun z=>C.lit (.int .u64 z))[j]?=some (C.lit (.int .u64 Lib.pow10Tab[j])):=by
   rw[ba,aj hj3];rfl
  obtain⟨e2,_⟩:=(hr j _ hg).lit_inv
  rw[e,e2,ba,aj hj3];rfl
 unfold Lib.TabIs World.var?
 rw[Cf,fE]
 have h19:=hc 0 (by decide)
 cases hh:w.heap[1]? with
 |none=>simp[World.cell?,hh,Lib.pow10Tab] at h19
 |some o=>
  cases o with
  |cells cs e fz=>
   have yI:∀ j:Nat,w.cell? ⟨1,j,none⟩=cs[j]?:=fun j=>by simp[World.cell?,hh]
   simp only
   congr 1
   apply Array.ext_getElem?
   intro j
   rw[← yI]
   by_cases hj:j<20
   ·rw[hc j hj];simp
   ·have dR:cs.size≤20:=by
     have:=(yI 20).symm.trans h3
     exact Array.getElem?_eq_none_iff.1 this
    rw[yI,cV (by omega)]
    symm
    rw[cV (by simp[Lib.pow10Tab_length];omega)]
  |_=>simp[World.cell?,hh,Lib.pow10Tab] at h19
theorem Em:∀ n:Nat,n<10000000000000000000→Lib.decDigits n=dec n:=by
 intro n
 induction n using Nat.strongRecOn with
 |_ n ih=>
  intro h
  rw[Lib.decDigits,WV h]
  by_cases hn:n<10
  ·rw[dif_pos hn,if_pos hn]
  ·rw[dif_neg hn,if_neg hn,ih _ (by omega) (by omega)]
theorem WY (N:Nat) (hN:N≤9223372036854775807):FnOK Tryz.prog glT 149 [i64 N] (sv (dec N)):=by
 refine⟨⟨_,Tryz.func149,rfl,_,rfl⟩,fun I w vs hI hg dR ha=>?_⟩
 have ha0:=ha 0 _ rfl
 have OR:vs=#[vs.getD 0 undef]:=by
  apply jn
  ·simpa using dR
  ·intro i h1 h2
   have:i=0:=by simpa using h2
   subst this;simp[Array.getD,h1]
 rw[OR]
 clear OR
 generalize vs.getD 0 undef=v0 at ha0 ⊢
 cases ha0 with
 |c _ _ h0=>
 obtain⟨rfl,_⟩:=h0.lit_inv
 refine (Tryz.strconv_Itoa N (by omega) (by omega) w (aaS hg)).mono ?_
 rintro e w' ⟨rfl,k,os,rfl⟩
 have e1:Lib.itoa N=dec N:=by
  unfold Lib.itoa
  rw[if_neg (by omega),iw,Em N (by omega)]
 rw[e1]
 refine⟨_,I,rfl,?_,fun _ _ h=>h,fun _ _ h=>.inl h,none,.ofLit rfl,fun b hb=>by cases hb⟩
 exact⟨rfl,rfl,rfl,by simp[Go.Sort.grow,World.drewN],fun q hq _=>by simp[Go.Sort.grow,World.drewN,dx hq],fun h=>absurd h Ao⟩
def stC (l:List By):C:=.sl (l.map fun b=>[cS b])
theorem Lj:∀ xs:List B,Lib.join xs [44]=mA xs
 |[]=>rfl
 |[x]=>by rw[Lib.join_one];rfl
 |x::y::r=>by
  have:=Lj (y::r)
  rw[Lib.join_cons] at this ⊢
  have e:Lib.joinTail [44] (y::r)=44::(y++Lib.joinTail [44] r):=by simp[Lib.joinTail]
  rw[e,this];rfl
theorem Lk (parts:List By) (hp:parts.length≤1000000000) (hl:(mA parts).length≤140737488355328):FnOK Tryz.prog glT 150 [.c (stC parts),sv [44]] (sv (mA parts)):=by
 refine⟨⟨_,Tryz.func150,rfl,_,rfl⟩,fun I w vs hI hg dR ha=>?_⟩
 have ha0:=ha 0 _ rfl
 have ha1:=ha 1 _ rfl
 have OR:vs=#[vs.getD 0 undef,vs.getD 1 undef]:=by
  apply jn
  ·simpa using dR
  ·intro i h1 h2
   have:i<2:=by simpa using h2
   match i with
   |0=>simp[Array.getD,h1]
   |1=>simp[Array.getD,h1]
 rw[OR]
 clear OR
 generalize vs.getD 0 undef=v0 at ha0 ⊢
 generalize vs.getD 1 undef=v1 at ha1 ⊢
 clear ha dR
 cases ha0 with
 |c _ _ h0=>
 cases ha1 with
 |c _ _ h1=>
 obtain⟨rfl,_⟩:=h1.lit_inv
 rcases h0.sl_inv with⟨⟨a,cap,rfl,_⟩,he⟩ | ⟨b,off,cap,sz,f,rfl,hc,hs,d5,ja⟩
 ·have E2:parts=[]:=by
   cases parts with
   |nil=>rfl
   |cons x r=>cases he
  subst E2
  refine (Tryz.strings_Join_none a cap (bs8 [44]) w).mono ?_
  rintro e w' ⟨rfl,rfl⟩
  exact⟨_,I,rfl,⟨rfl,rfl,rfl,ae _,fun _ _ _=>rfl,fun _=>ae _⟩,fun _ _ h=>h,fun _ _ h=>.inl h,none,.ofLit rfl,fun b hb=>by cases hb⟩
 ·have ce:(parts.map fun b=>[cS b]).length=(parts.map bs8).length:=by rw[ap,ap]
  have iY:∀ (j:Nat) (x:ByteArray),(parts.map bs8)[j]?=some x→w.cell? ⟨b,off+j,none⟩=some (.string x)∧I b (off+j):=fun j x hx=>by
   rw[ba] at hx
   obtain⟨y,hy,rfl⟩:=aX.1 hx
   have hj:j<(parts.map fun b=>[cS b]).length:=by rw[ap];exact(ak.1 hy).1
   have hg:(parts.map fun b=>[cS b])[j]?=some [cS y]:=by rw[ba,hy];rfl
   have ahO:sz=1:=(hs _ (bg hg)).symm
   subst ahO
   obtain⟨h2,h3⟩:=d5 j 0 hj (by decide)
   obtain⟨h4,_⟩:=(ja j 0 _ _ hg rfl).lit_inv
   rw[h4] at h2
   simp only[Nat.mul_one,dL] at h2 h3
   exact⟨h2,h3⟩
  rw[ce] at hc ⊢
  cases hpp:parts with
  |nil=>
   subst hpp
   refine (Tryz.strings_Join_none (some ⟨b,off,none⟩) cap (bs8 [44]) w).mono ?_
   rintro e w' ⟨rfl,rfl⟩
   exact⟨_,I,rfl,⟨rfl,rfl,rfl,ae _,fun _ _ _=>rfl,fun _=>ae _⟩,fun _ _ h=>h,fun _ _ h=>.inl h,none,.ofLit rfl,fun b hb=>by cases hb⟩
  |cons p0 r0=>
  rw[← hpp]
  have hb:b<w.heap.size:=hI b _ (iY 0 _ (by rw[hpp];rfl)).2
  have hm:(parts.map bs8).map (fun x=>x.data.toList)=parts:=by
   rw[gA];conv=>rhs;rw[← List.map_id parts]
   exact ct fun x _=>by simp[bs8]
  have hj:Lib.join ((parts.map bs8).map (fun x=>x.data.toList)) (bs8 [44]).data.toList=mA parts:=by rw[hm];exact Lj parts
  refine (Tryz.strings_Join b off cap (parts.map bs8) (bs8 [44]) w (fun j x hx=>(iY j x hx).1) hb (by rw[ap];omega) hc (by rw[hj];exact hl)).mono ?_
  rintro e w' ⟨rfl,nR⟩
  rw[hj]
  exact⟨_,I,rfl,⟨nR.os,nR.tape,nR.output,nR.size,fun k hk _=>nR.block k hk,fun h=>absurd h Ao⟩,fun _ _ h=>h,fun _ _ h=>.inl h,none,.ofLit rfl,fun b hb=>by cases hb⟩
def owS (l:List By):V:=.ow (if l.isEmpty then none else some (9,1)) (l.map fun b=>[cS b])
theorem SJ {l:List By}:(owS l).fz=.c (stC l):=rfl
theorem En {l:List By}:(owS l).isOw=true:=rfl
theorem yU {l:List By} {m:Nat}:(owS l).ltB m=true:=rfl
theorem Yf {l:List By} {x:By} {K:V→Prop} (h:l.length+1≤1000000000) (hK:K (owS (l++[x]))):dX Tryz.prog 161 (owS l) (.c (.sl [[cS x]])) K:=by
 have iY:∀ z∈l.map (fun b=>[cS b]),z.length=1:=fun z hz=>by obtain⟨b,_,rfl⟩:=bu.1 hz;rfl
 unfold owS
 rw[WO]
 refine⟨⟨?_,iY⟩,⟨by simp;omega,by simp;omega,by simp⟩,?_⟩
 ·by_cases hl:l.isEmpty=true
  ·exact .inl (by rw[if_pos hl])
  ·exact .inr (by rw[if_neg hl])
 ·have e:(l++[x]).isEmpty=false:=by cases l<;>rfl
  unfold owS at hK
  rw[e] at hK
  simpa using hK
theorem WZ {k:Int} {s:Vl.S} {i:Nat} {K:V→Prop} (hg:((vJ shL k).map shV).getD shZ=shV k) (hb:s.bx i=shM) (hi:i<s.nb) (hK:K (shV k)):ft Tryz.prog 158 s (.mr i) (i64 k) false K:=
 SB hb hi (by rw[hg];exact hK)
def G6:=jj @pkA @ptA
def Cg:=jj @pkA (jj @ptA @pkT)
set_option maxHeartbeats 8000000 in
theorem Eo:∀ t:Tm,bT t=true→br t≤1000000000→FnOK Tryz.prog glT 123 [.agg (tmC t)] (sv (jf t)):=by
 refine Tm.ind fun k n l ih hv hs=>?_
 have dR:cD l+1≤1000000000:=by simp only[br] at hs;omega
 have Mo:=jl l
 obtain⟨hk,⟨hn0,Kg,HZ⟩,ce,sP⟩:=fh hv
 obtain⟨N,rfl⟩:∃ N:Nat,n=(N:Int):=⟨n.toNat,by omega⟩
 have hdl:=Lf N
 have hd:=WY N (by omega)
 have Kw:∀ (a b:B) K,a.length≤40000000000→b.length≤40000000000→K (sv (a++b))→y2 .add (bs8 a) (bs8 b) K:=fun a b K h1 h2 hK=>adt (by omega) hK
 have hT:jf (.mk k N l)=mO k N++(if decide (gi k=0)=true then[] else 40::(mA (iR l)++[41])):=rfl
 have hHl:=B7 k N
 have hH:mO k N=ue k++(if qb k=true then dec N else[]):=rfl
 obtain⟨t0,Pf⟩:∃ t0,t0=Tm.mk k N l:=⟨_,rfl⟩
 have e0:t0.kind=k:=by rw[Pf];rfl
 have e1:t0.n=N:=by rw[Pf];rfl
 have e2:t0.l=l:=by rw[Pf];rfl
 rw[← Pf] at hT ⊢
 clear Pf
 refine bP (rs:=[.tmp 2]) false [2850001,2860001,1000008,32] mixed Tryz.func123 rfl rfl rfl rfl (by kernel_rfl) (by simp) rfl rfl ?_
 simp only[pkA,seval]
 refine K8 rfl rfl (Rp (A:=fun s=>∃ q fr bx,s=⟨fr,bx,3⟩∧(q=1∨q=2)∧fr 1=.bp 0 0∧fr 3=.bp q 0∧bx 0=(tmC t0).map .c∧bx q=(shC k).map .c) ?_ (fun K' hK'=>?_))
 ·rintro _ ⟨q,fr,bx,rfl,hq,h1,h3,h0,hbq⟩
  have ack:(q<3)=True:=by simp;omega
  have tM:(ue k).length≤4:=by rcases hk with rfl | rfl | rfl | rfl | rfl | rfl<;>decide
  simp only[G6,seval,h3,hbq,ack,shC,cS,cI]
  refine aV (fun hc=>?_) (fun hc=>?_)
  ·have hH:mO k N=ue k++dec N:=by rw[hH,if_pos hc]
   simp only[Cg,seval,h1,h0,e1]
   refine aD rfl hd (fun h=>by cases h) ?_
   simp only[pkA,seval]
   refine Kw (ue k) (dec N) _ (by omega) (by omega) ?_
   rw[← hH]
   simp only[G6,seval,h3,hbq,ack,shC,cS,cI]
   refine aV (fun hz=>?_) (fun XU=>?_)
   ·have hz:gi k=0:=by
     have:max 0 (gi k)=0:=by simpa using hz
     omega
    simp only[pkA,seval]
    rw[hT,hz];simp
   have XU:¬ gi k=0:=fun h=>by rw[h] at XU;simp at XU
   rw[fu XU] at hT
   simp only[Cg,seval,tsC,h1,h0,e2]
   refine cF (fun i:Nat=>hdS [(1,.bp 0 0),(4,sv (mO k N)),(5,owS (iR (l.take i))),(26,.c (.sl (l.map tmC))),(27,i64 l.length),(28,i64 i)] [(tmC t0).map .c]) (fun i=>l.length - i) (fun i=>i≤l.length) 0 (au _) ?_ ?_
   ·exact cj (by simp only[eW,aR,bb,jt,yU];rfl) (au _) (by simp) (by simp[FL,ar,iR,owS,h1]) ⟨by simp[h0],trivial⟩
   rintro i hi R ck cG dn
   simp only[pkA,seval]
   refine aV (fun bF=>?_) (fun ga=>?_)
   ·have bF:i<l.length:=by simpa using bF
    have lG:=fa (n:=(i:Int)+1) (k:=i+1) (by omega) (by omega)
    have hm:=fO (aF bF)
    have O1:iR (l.take (i+1))=iR (l.take i)++[jf l[i]]:=by
     rw[aU bF,nz,nz,dG];rfl
    have Ie:(iR (l.take i)).length≤i:=by rw[nz,ap,aZ];omega
    simp only[pkA,seval]
    refine dz dq rfl di (by decide) (aI i) (c:=tmC l[i]) (by simp[bF]) (bI _) ?_
    simp only[Cg,seval,En,jT (bI _)]
    refine aD rfl (ih l[i] (aF bF) (sP _ (aF bF)) (by omega)) (fun h=>by cases h) ?_
    simp only[G6,seval]
    refine Yf (l:=iR (l.take i)) (x:=jf l[i]) (by omega) ?_
    simp only[pkA,seval,En]
    refine ck (i+1) _ bF (by omega) (cj (by simp only[eW,aR,bb,jt,yU];rfl) (au _) (by simp) ?_ ⟨by simp[ar,bxs],trivial⟩)
    simp[FL,ar,lG,O1]
   ·have:i=l.length:=by simp at ga;omega
    subst this
    simp only[pkA]
    refine cG _ _ ?_
    rw[cx]
    have YN:=B9 l l.length
    rw[cx] at YN
    simp only[pkA,seval]
    refine Kw (mO k N) [40] _ (by omega) (by simp) ?_
    simp only[pkA,seval,SJ]
    refine aD rfl (Lk (iR l) (by rw[nz,ap];omega) (by omega)) (fun h=>by cases h) ?_
    simp only[pkA,seval]
    refine Kw (mO k N++[40]) (mA (iR l)) _ (by simp;omega) (by omega) ?_
    simp only[pkA,seval]
    refine Kw ((mO k N++[40])++mA (iR l)) [41] _ (by simp;omega) (by simp) ?_
    simp only[pkA,seval]
    rw[hT];simp
  ·have hH:mO k N=ue k:=by rw[hH,if_neg (by simp[hc])];simp
   rw[← hH]
   simp only[G6,seval,h3,hbq,ack,shC,cS,cI]
   refine aV (fun hz=>?_) (fun XU=>?_)
   ·have hz:gi k=0:=by
     have:max 0 (gi k)=0:=by simpa using hz
     omega
    simp only[pkA,seval]
    rw[hT,hz];simp
   have XU:¬ gi k=0:=fun h=>by rw[h] at XU;simp at XU
   rw[fu XU] at hT
   simp only[Cg,seval,tsC,h1,h0,e2]
   refine cF (fun i:Nat=>hdS [(1,.bp 0 0),(4,sv (mO k N)),(5,owS (iR (l.take i))),(26,.c (.sl (l.map tmC))),(27,i64 l.length),(28,i64 i)] [(tmC t0).map .c]) (fun i=>l.length - i) (fun i=>i≤l.length) 0 (au _) ?_ ?_
   ·exact cj (by simp only[eW,aR,bb,jt,yU];rfl) (au _) (by simp) (by simp[FL,ar,iR,owS,h1]) ⟨by simp[h0],trivial⟩
   rintro i hi R ck cG dn
   simp only[pkA,seval]
   refine aV (fun bF=>?_) (fun ga=>?_)
   ·have bF:i<l.length:=by simpa using bF
    have lG:=fa (n:=(i:Int)+1) (k:=i+1) (by omega) (by omega)
    have hm:=fO (aF bF)
    have O1:iR (l.take (i+1))=iR (l.take i)++[jf l[i]]:=by
     rw[aU bF,nz,nz,dG];rfl
    have Ie:(iR (l.take i)).length≤i:=by rw[nz,ap,aZ];omega
    simp only[pkA,seval]
    refine dz dq rfl di (by decide) (aI i) (c:=tmC l[i]) (by simp[bF]) (bI _) ?_
    simp only[Cg,seval,En,jT (bI _)]
    refine aD rfl (ih l[i] (aF bF) (sP _ (aF bF)) (by omega)) (fun h=>by cases h) ?_
    simp only[G6,seval]
    refine Yf (l:=iR (l.take i)) (x:=jf l[i]) (by omega) ?_
    simp only[pkA,seval,En]
    refine ck (i+1) _ bF (by omega) (cj (by simp only[eW,aR,bb,jt,yU];rfl) (au _) (by simp) ?_ ⟨by simp[ar,bxs],trivial⟩)
    simp[FL,ar,lG,O1]
   ·have:i=l.length:=by simp at ga;omega
    subst this
    simp only[pkA]
    refine cG _ _ ?_
    rw[cx]
    have YN:=B9 l l.length
    rw[cx] at YN
    simp only[pkA,seval]
    refine Kw (mO k N) [40] _ (by omega) (by simp) ?_
    simp only[pkA,seval,SJ]
    refine aD rfl (Lk (iR l) (by rw[nz,ap];omega) (by omega)) (fun h=>by cases h) ?_
    simp only[pkA,seval]
    refine Kw (mO k N++[40]) (mA (iR l)) _ (by simp;omega) (by omega) ?_
    simp only[pkA,seval]
    refine Kw ((mO k N++[40])++mA (iR l)) [41] _ (by simp;omega) (by simp) ?_
    simp only[pkA,seval]
    rw[hT];simp
 have ahQ:SC k=true:=by rcases hk with rfl | rfl | rfl | rfl | rfl | rfl<;>decide
 have ly:((vJ shL k).map shV).getD shZ=shV k:=by rw[aaQ,if_pos ahQ];rfl
 have hz:List.map ng [C.lit (Value.bool false),C.lit (Value.int IntKind.i64 0),C.lit (Value.string { data:=#[] })].reverse=[.c (.lit (.string ⟨#[]⟩)),.c (.lit (.int .i64 0)),.c (.lit (.bool false))]:=rfl
 have hst:∀ (x y z:V),eU [x,y,z] 0 ((shC k).map .c)=(shC k).map .c:=fun _ _ _=>rfl
 have Mg:(shC k).length=3:=rfl
 have iZ:cX ((shC k).map V.c)=false:=rfl
 repeat' first
  |(refine kK (by decide +kernel) (by decide +kernel) ?_;simp only[kL,mw,ah,Nat.reduceAdd];(repeat' (first | exact trivial | apply And.intro));(all_goals (first | exact Or.inl (by decide +kernel) | refine Or.inr ?_)))
  |(refine An rfl Oh rfl (fun _=>WX) ?_)
  |(refine WZ ly ?_ ?_ ?_;(· simp[ar]);(· simp))
  |(refine BW (by decide +kernel) (hK' _ ?_))
  |(simp only[jr,Cg,seval,e0,hz,shV,hst,Mg])
 all_goals first
  |(refine ⟨1,_,_,rfl,.inl rfl,?_,?_,?_,?_⟩<;>(simp[ar];done))
  |(refine ⟨2,_,_,rfl,.inr rfl,?_,?_,?_,?_⟩<;>(simp[ar];done))
