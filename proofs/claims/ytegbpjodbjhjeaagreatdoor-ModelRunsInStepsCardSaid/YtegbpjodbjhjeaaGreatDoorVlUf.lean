/- Layer 15: Valid. -/
import Derived.Test.YtegbpjodbjhjeaaGreatDoorVlUb
import Derived.Test.YtegbpjodbjhjeaaGreatDoorShelf
import Derived.Test.YtegbpjodbjhjeaaGreatDoorVlTree
set_option linter.all false
namespace Go.Proofs.YtegbpjodbjhjeaaGreatDoor
open Go Go.Vl
variable {G:Gl}
set_option maxRecDepth 4000
theorem F4 {xs:List V} {Y:List (List V)} (h:dU xs Y=true):ltL Y.length Y:=by
 simp only[dU,aF,aU] at h
 exact fun b hb x hx=>V.ltB_ok (h.2 b hb x hx)
section
variable {tr:List Nat} {ty:TypeId} {d:Nat} {pos:String} {af:Array Edge} {g:Option (Nat×Bool)} {fr:Nat→V} {bx:Nat→List V} {nb:Nat} {H:Vl.S→Prop}
theorem aaQ:VStep Tryz.prog G tr ⟨some d,.alloc 105,ty,pos,af,g⟩ ⟨fr,bx,nb⟩ H=H ⟨up fr d (.bp nb 0),up bx nb [.c (.lit (.map none))],nb+1⟩:=jy rC rfl
end
theorem wT {s:Vl.S} {f:V} {args all cargs:List V} {g:FuncId} {K:Vl.S→V→Prop} {M:List V} (hc:dS f args=some (g,all)) (hf:FnB Tryz.prog G g cargs [] (.mr 0) [M]) (hall:all.map V.fz=cargs) (hM:∀ ρ,M.map (V.ren ρ)=M)
 (hK:K { s with bx:=up s.bx s.nb M,nb:=s.nb+1 } (.mr s.nb)):vcallB Tryz.prog G s f args K:=by
 refine tV hc hf hall ?_
 simp only[eO,hM,dz,V.ren,dn]
 exact hK
theorem XO {fr:Nat→V} {bx:Nat→List V} {nb:Nat} {t:Tmp} {dO:Option Tmp} {b o i:Nat} {K:Vl.S→Prop} (h:fr t=.mr i):stS 1 (some t) dO b o (.mr i) ⟨fr,bx,nb⟩ K=
 ((b<nb∧o+1≤(bx b).length)∧K ((⟨fr,up bx b (eF (bx b) o [.mr i]),nb⟩:Vl.S).put dO .sk)):=by
 simp[stS,V.bcells,fR,h,V.isOw]
theorem OQ {ρ:Nat→Nat} {x:C}:(V.c x).ren ρ=.c x:=rfl
def glT:Gl:=fun g=>if g=1 then some (Lib.pow10Tab.map fun z=>[C.lit (.int .u64 z)]).flatten else if g=1000000000 then some [] else none
theorem ZJ:gat glT 1=some (Lib.pow10Tab.map fun z=>[C.lit (.int .u64 z)]).flatten:=rfl
theorem wU:¬ GT glT:=by unfold GT glT;simp
theorem yZ:Tryz.prog.globalNamed "internal/strconv.uint64pow10" = some 1:=by kernel_rfl
theorem OR {l:List Int}:(l.map fun z=>[C.lit (.int .u64 z)]).flatten=l.map fun z=>C.lit (.int .u64 z):=by
 induction l with
 |nil=>rfl
 |cons x l ih=>simp[ih]
theorem Hb:(Lib.pow10Tab.map fun z=>C.lit (.int .u64 z)).length=20:=by rw[ap,Lib.pow10Tab_length]
theorem XQ {I:Ft} {w:World} (h:GOK glT I w):Lib.TabIs Tryz.prog w "internal/strconv.uint64pow10" .u64 Lib.pow10Tab:=by
 obtain⟨h1,_,h3⟩:=h 1 _ ZJ
 rw[OR] at h1 h3
 rw[Hb] at h3
 obtain⟨b,off,f,hp,hf,hr⟩:=h1.rp_inv
 have hp2:(⟨1,0,none⟩:Addr)=⟨b,off+0,none⟩:=by injection hp with hp;exact dD hp
 injection hp2 with hb ho _
 have ho:off=0:=by omega
 subst hb;subst ho
 have hc:∀ j,j<20→w.cell? ⟨1,j,none⟩=(Lib.pow10Tab.map fun z=>Value.int .u64 z)[j]?:=fun j hj=>by
  have hj2:j<(Lib.pow10Tab.map fun z=>C.lit (.int .u64 z)).length:=by rw[Hb];exact hj
  have hj3:j<Lib.pow10Tab.length:=by rw[Lib.pow10Tab_length];exact hj
  have e:=(hf j hj2).1
  rw[ah] at e
  have hg:(Lib.pow10Tab.map fun z=>C.lit (.int .u64 z))[j]?=some (C.lit (.int .u64 Lib.pow10Tab[j])):=by
   rw[ba,ak hj3];rfl
  obtain⟨e2,_⟩:=(hr j _ hg).lit_inv
  rw[e,e2,ba,ak hj3];rfl
 unfold Lib.TabIs World.var?
 rw[yZ,fb]
 have h19:=hc 0 (by decide)
 cases hh:w.heap[1]? with
 |none=>simp[World.cell?,hh,Lib.pow10Tab] at h19
 |some o=>
  cases o with
  |cells cs e fz=>
   have hc':∀ j:Nat,w.cell? ⟨1,j,none⟩=cs[j]?:=fun j=>by simp[World.cell?,hh]
   simp only
   congr 1
   apply Array.ext_getElem?
   intro j
   rw[← hc']
   by_cases hj:j<20
   ·rw[hc j hj];simp
   ·have hsz:cs.size≤20:=by
     have:=(hc' 20).symm.trans h3
     exact Array.getElem?_eq_none_iff.1 this
    rw[hc',cK (by omega)]
    symm
    rw[cK (by simp[Lib.pow10Tab_length];omega)]
  |_=>simp[World.cell?,hh,Lib.pow10Tab] at h19
theorem A2:∀ n:Nat,n<10000000000000000000→Lib.decDigits n=dec n:=by
 intro n
 induction n using Nat.strongRecOn with
 |_ n ih=>
  intro h
  rw[Lib.decDigits,TU h]
  by_cases hn:n<10
  ·rw[dif_pos hn,if_pos hn]
  ·rw[dif_neg hn,if_neg hn,ih _ (by omega) (by omega)]
theorem TX (N:Nat) (hN:N≤9223372036854775807):FnOK Tryz.prog glT 149 [i64 N] (sv (dec N)):=by
 refine⟨⟨_,Tryz.func149,rfl,_,rfl⟩,fun I w vs hI hg hsz ha=>?_⟩
 have ha0:=ha 0 _ rfl
 have hvs:vs=#[vs.getD 0 undef]:=by
  apply iz
  ·simpa using hsz
  ·intro i h1 h2
   have:i=0:=by simpa using h2
   subst this;simp[Array.getD,h1]
 rw[hvs]
 clear hvs
 generalize vs.getD 0 undef=v0 at ha0 ⊢
 cases ha0 with
 |c _ _ h0=>
 obtain⟨rfl,_⟩:=h0.lit_inv
 refine (Tryz.strconv_Itoa N (by omega) (by omega) w (XQ hg)).mono ?_
 rintro e w' ⟨rfl,k,os,rfl⟩
 have e1:Lib.itoa N=dec N:=by
  unfold Lib.itoa
  rw[if_neg (by omega),iK,A2 N (by omega)]
 rw[e1]
 refine⟨_,I,rfl,?_,fun _ _ h=>h,fun _ _ h=>.inl h,none,.ofLit rfl,fun b hb=>by cases hb⟩
 exact⟨rfl,rfl,rfl,by simp[Go.Sort.grow,World.drewN],fun q hq _=>by simp[Go.Sort.grow,World.drewN,db hq],fun h=>absurd h wU⟩
def stC (l:List By):C:=.sl (l.map fun b=>[cS b])
theorem He:∀ xs:List B,Lib.join xs [44]=lg xs
 |[]=>rfl
 |[x]=>by rw[Lib.join_one];rfl
 |x::y::r=>by
  have:=He (y::r)
  rw[Lib.join_cons] at this ⊢
  have e:Lib.joinTail [44] (y::r)=44::(y++Lib.joinTail [44] r):=by simp[Lib.joinTail]
  rw[e,this];rfl
theorem Hf (parts:List By) (hp:parts.length≤1000000000) (hl:(lg parts).length≤140737488355328):FnOK Tryz.prog glT 150 [.c (stC parts),sv [44]] (sv (lg parts)):=by
 refine⟨⟨_,Tryz.func150,rfl,_,rfl⟩,fun I w vs hI hg hsz ha=>?_⟩
 have ha0:=ha 0 _ rfl
 have ha1:=ha 1 _ rfl
 have hvs:vs=#[vs.getD 0 undef,vs.getD 1 undef]:=by
  apply iz
  ·simpa using hsz
  ·intro i h1 h2
   have:i<2:=by simpa using h2
   match i with
   |0=>simp[Array.getD,h1]
   |1=>simp[Array.getD,h1]
 rw[hvs]
 clear hvs
 generalize vs.getD 0 undef=v0 at ha0 ⊢
 generalize vs.getD 1 undef=v1 at ha1 ⊢
 clear ha hsz
 cases ha0 with
 |c _ _ h0=>
 cases ha1 with
 |c _ _ h1=>
 obtain⟨rfl,_⟩:=h1.lit_inv
 rcases h0.sl_inv with⟨⟨a,cap,rfl,_⟩,he⟩ | ⟨b,off,cap,sz,f,rfl,hc,hs,hcell,hcr⟩
 ·have hpn:parts=[]:=by
   cases parts with
   |nil=>rfl
   |cons x r=>cases he
  subst hpn
  refine (Tryz.strings_Join_none a cap (bs8 [44]) w).mono ?_
  rintro e w' ⟨rfl,rfl⟩
  exact⟨_,I,rfl,⟨rfl,rfl,rfl,ae _,fun _ _ _=>rfl,fun _=>ae _⟩,fun _ _ h=>h,fun _ _ h=>.inl h,none,.ofLit rfl,fun b hb=>by cases hb⟩
 ·have hlen:(parts.map fun b=>[cS b]).length=(parts.map bs8).length:=by rw[ap,ap]
  have hone:∀ (j:Nat) (x:ByteArray),(parts.map bs8)[j]?=some x→w.cell? ⟨b,off+j,none⟩=some (.string x)∧I b (off+j):=fun j x hx=>by
   rw[ba] at hx
   obtain⟨y,hy,rfl⟩:=aT.1 hx
   have hj:j<(parts.map fun b=>[cS b]).length:=by rw[ap];exact(aj.1 hy).1
   have hg:(parts.map fun b=>[cS b])[j]?=some [cS y]:=by rw[ba,hy];rfl
   have hsz1:sz=1:=(hs _ (bb hg)).symm
   subst hsz1
   obtain⟨h2,h3⟩:=hcell j 0 hj (by decide)
   obtain⟨h4,_⟩:=(hcr j 0 _ _ hg rfl).lit_inv
   rw[h4] at h2
   simp only[Nat.mul_one,dn] at h2 h3
   exact⟨h2,h3⟩
  rw[hlen] at hc ⊢
  cases hpp:parts with
  |nil=>
   subst hpp
   refine (Tryz.strings_Join_none (some ⟨b,off,none⟩) cap (bs8 [44]) w).mono ?_
   rintro e w' ⟨rfl,rfl⟩
   exact⟨_,I,rfl,⟨rfl,rfl,rfl,ae _,fun _ _ _=>rfl,fun _=>ae _⟩,fun _ _ h=>h,fun _ _ h=>.inl h,none,.ofLit rfl,fun b hb=>by cases hb⟩
  |cons p0 r0=>
  rw[← hpp]
  have hb:b<w.heap.size:=hI b _ (hone 0 _ (by rw[hpp];rfl)).2
  have hm:(parts.map bs8).map (fun x=>x.data.toList)=parts:=by
   rw[fM];conv=>rhs;rw[← List.map_id parts]
   exact cd fun x _=>by simp[bs8]
  have hj:Lib.join ((parts.map bs8).map (fun x=>x.data.toList)) (bs8 [44]).data.toList=lg parts:=by rw[hm];exact He parts
  refine (Tryz.strings_Join b off cap (parts.map bs8) (bs8 [44]) w (fun j x hx=>(hone j x hx).1) hb (by rw[ap];omega) hc (by rw[hj];exact hl)).mono ?_
  rintro e w' ⟨rfl,hbel⟩
  rw[hj]
  exact⟨_,I,rfl,⟨hbel.os,hbel.tape,hbel.output,hbel.size,fun k hk _=>hbel.block k hk,fun h=>absurd h wU⟩,fun _ _ h=>h,fun _ _ h=>.inl h,none,.ofLit rfl,fun b hb=>by cases hb⟩
def owS (l:List By):V:=.ow (if l.isEmpty then none else some (9,1)) (l.map fun b=>[cS b])
theorem OS {l:List By}:(owS l).fz=.c (stC l):=rfl
theorem A3 {l:List By}:(owS l).isOw=true:=rfl
theorem vr {l:List By} {m:Nat}:(owS l).ltB m=true:=rfl
theorem US {l:List By} {x:By} {K:V→Prop} (h:l.length+1≤1000000000) (hK:K (owS (l++[x]))):dX Tryz.prog 161 (owS l) (.c (.sl [[cS x]])) K:=by
 have hone:∀ z∈l.map (fun b=>[cS b]),z.length=1:=fun z hz=>by obtain⟨b,_,rfl⟩:=bF.1 hz;rfl
 unfold owS
 rw[TM]
 refine⟨⟨?_,hone⟩,⟨by simp;omega,by simp;omega,by simp⟩,?_⟩
 ·by_cases hl:l.isEmpty=true
  ·exact .inl (by rw[if_pos hl])
  ·exact .inr (by rw[if_neg hl])
 ·have e:(l++[x]).isEmpty=false:=by cases l<;>rfl
  unfold owS at hK
  rw[e] at hK
  simpa using hK
theorem TY {k:Int} {s:Vl.S} {i:Nat} {K:V→Prop} (hg:((sD shL k).map shV).getD shZ=shV k) (hb:s.bx i=shM) (hi:i<s.nb) (hK:K (shV k)):eW Tryz.prog 158 s (.mr i) (i64 k) false K:=
 OM hb hi (by rw[hg];exact hK)
def Ds:=jj @pkA @ptA
def y0:=jj @pkA (jj @ptA @pkT)
set_option maxHeartbeats 8000000 in
theorem A4:∀ t:Tm,bR t=true→bu t≤1000000000→FnOK Tryz.prog glT 123 [.agg (tmC t)] (sv (ip t)):=by
 refine Tm.ind fun k n l ih hv hs=>?_
 have hsz:cH l+1≤1000000000:=by simp only[bu] at hs;omega
 have hll:=j3 l
 obtain⟨hk,⟨hn0,hn1,hnc⟩,hlen,hvl⟩:=eR hv
 obtain⟨N,rfl⟩:∃ N:Nat,n=(N:Int):=⟨n.toNat,by omega⟩
 have hdl:=G9 N
 have hd:=TX N (by omega)
 have hcat:∀ (a b:B) K,a.length≤40000000000→b.length≤40000000000→K (sv (a++b))→uV .add (bs8 a) (bs8 b) K:=fun a b K h1 h2 hK=>ZG (by omega) hK
 have hT:ip (.mk k N l)=ly k N++(if decide (fD k=0)=true then[] else 40::(lg (gZ l)++[41])):=rfl
 have hHl:=yQ k N
 have hH:ly k N=qU k++(if nX k=true then dec N else[]):=rfl
 obtain⟨t0,ht0⟩:∃ t0,t0=Tm.mk k N l:=⟨_,rfl⟩
 have e0:t0.kind=k:=by rw[ht0];rfl
 have e1:t0.n=N:=by rw[ht0];rfl
 have e2:t0.l=l:=by rw[ht0];rfl
 rw[← ht0] at hT ⊢
 clear ht0
 refine bP (rs:=[.tmp 2]) false [2850001,2860001,1000008,32] mixed Tryz.func123 rfl rfl rfl rfl (by kernel_rfl) (by simp) rfl rfl ?_
 simp only[pkA,seval]
 refine G5 rfl rfl (Nx (A:=fun s=>∃ q fr bx,s=⟨fr,bx,3⟩∧(q=1∨q=2)∧fr 1=.bp 0 0∧fr 3=.bp q 0∧bx 0=(tmC t0).map .c∧bx q=(shC k).map .c) ?_ (fun K' hK'=>?_))
 ·rintro _ ⟨q,fr,bx,rfl,hq,h1,h3,h0,hbq⟩
  have hqlt:(q<3)=True:=by simp;omega
  have hnl:(qU k).length≤4:=by rcases hk with rfl | rfl | rfl | rfl | rfl | rfl<;>decide
  simp only[Ds,seval,h3,hbq,hqlt,shC,cS,cI]
  refine aZ (fun hc=>?_) (fun hc=>?_)
  ·have hH:ly k N=qU k++dec N:=by rw[hH,if_pos hc]
   simp only[y0,seval,h1,h0,e1]
   refine aD rfl hd (fun h=>by cases h) ?_
   simp only[pkA,seval]
   refine hcat (qU k) (dec N) _ (by omega) (by omega) ?_
   rw[← hH]
   simp only[Ds,seval,h3,hbq,hqlt,shC,cS,cI]
   refine aZ (fun hz=>?_) (fun hnz=>?_)
   ·have hz:fD k=0:=by
     have:max 0 (fD k)=0:=by simpa using hz
     omega
    simp only[pkA,seval]
    rw[hT,hz];simp
   have hnz:¬ fD k=0:=fun h=>by rw[h] at hnz;simp at hnz
   rw[en hnz] at hT
   simp only[y0,seval,tsC,h1,h0,e2]
   refine cZ (fun i:Nat=>hdS [(1,.bp 0 0),(4,sv (ly k N)),(5,owS (gZ (l.take i))),(26,.c (.sl (l.map tmC))),(27,i64 l.length),(28,i64 i)] [(tmC t0).map .c]) (fun i=>l.length - i) (fun i=>i≤l.length) 0 (aA _) ?_ ?_
   ·exact cR (by simp only[fC,bh,bq,mM,vr];rfl) (aA _) (by simp) (by simp[FL,ar,gZ,owS,h1]) ⟨by simp[h0],trivial⟩
   rintro i hi R hnorm hexit hret
   simp only[pkA,seval]
   refine aZ (fun hlt=>?_) (fun hge=>?_)
   ·have hlt:i<l.length:=by simpa using hlt
    have hw2:=fj (n:=(i:Int)+1) (k:=i+1) (by omega) (by omega)
    have hm:=gq (aL hlt)
    have htk:gZ (l.take (i+1))=gZ (l.take i)++[ip l[i]]:=by
     rw[bg hlt,mc,mc,eK];rfl
    have htl:(gZ (l.take i)).length≤i:=by rw[mc,ap,aW];omega
    simp only[pkA,seval]
    refine dL dm rfl dc (by decide) (aM i) (c:=tmC l[i]) (by simp[hlt]) (b8 _) ?_
    simp only[y0,seval,A3,lw (b8 _)]
    refine aD rfl (ih l[i] (aL hlt) (hvl _ (aL hlt)) (by omega)) (fun h=>by cases h) ?_
    simp only[Ds,seval]
    refine US (l:=gZ (l.take i)) (x:=ip l[i]) (by omega) ?_
    simp only[pkA,seval,A3]
    refine hnorm (i+1) _ hlt (by omega) (cR (by simp only[fC,bh,bq,mM,vr];rfl) (aA _) (by simp) ?_ ⟨by simp[ar,bxs],trivial⟩)
    simp[FL,ar,hw2,htk]
   ·have:i=l.length:=by simp at hge;omega
    subst this
    simp only[pkA]
    refine hexit _ _ ?_
    rw[cY]
    have hjl:=yS l l.length
    rw[cY] at hjl
    simp only[pkA,seval]
    refine hcat (ly k N) [40] _ (by omega) (by simp) ?_
    simp only[pkA,seval,OS]
    refine aD rfl (Hf (gZ l) (by rw[mc,ap];omega) (by omega)) (fun h=>by cases h) ?_
    simp only[pkA,seval]
    refine hcat (ly k N++[40]) (lg (gZ l)) _ (by simp;omega) (by omega) ?_
    simp only[pkA,seval]
    refine hcat ((ly k N++[40])++lg (gZ l)) [41] _ (by simp;omega) (by simp) ?_
    simp only[pkA,seval]
    rw[hT];simp
  ·have hH:ly k N=qU k:=by rw[hH,if_neg (by simp[hc])];simp
   rw[← hH]
   simp only[Ds,seval,h3,hbq,hqlt,shC,cS,cI]
   refine aZ (fun hz=>?_) (fun hnz=>?_)
   ·have hz:fD k=0:=by
     have:max 0 (fD k)=0:=by simpa using hz
     omega
    simp only[pkA,seval]
    rw[hT,hz];simp
   have hnz:¬ fD k=0:=fun h=>by rw[h] at hnz;simp at hnz
   rw[en hnz] at hT
   simp only[y0,seval,tsC,h1,h0,e2]
   refine cZ (fun i:Nat=>hdS [(1,.bp 0 0),(4,sv (ly k N)),(5,owS (gZ (l.take i))),(26,.c (.sl (l.map tmC))),(27,i64 l.length),(28,i64 i)] [(tmC t0).map .c]) (fun i=>l.length - i) (fun i=>i≤l.length) 0 (aA _) ?_ ?_
   ·exact cR (by simp only[fC,bh,bq,mM,vr];rfl) (aA _) (by simp) (by simp[FL,ar,gZ,owS,h1]) ⟨by simp[h0],trivial⟩
   rintro i hi R hnorm hexit hret
   simp only[pkA,seval]
   refine aZ (fun hlt=>?_) (fun hge=>?_)
   ·have hlt:i<l.length:=by simpa using hlt
    have hw2:=fj (n:=(i:Int)+1) (k:=i+1) (by omega) (by omega)
    have hm:=gq (aL hlt)
    have htk:gZ (l.take (i+1))=gZ (l.take i)++[ip l[i]]:=by
     rw[bg hlt,mc,mc,eK];rfl
    have htl:(gZ (l.take i)).length≤i:=by rw[mc,ap,aW];omega
    simp only[pkA,seval]
    refine dL dm rfl dc (by decide) (aM i) (c:=tmC l[i]) (by simp[hlt]) (b8 _) ?_
    simp only[y0,seval,A3,lw (b8 _)]
    refine aD rfl (ih l[i] (aL hlt) (hvl _ (aL hlt)) (by omega)) (fun h=>by cases h) ?_
    simp only[Ds,seval]
    refine US (l:=gZ (l.take i)) (x:=ip l[i]) (by omega) ?_
    simp only[pkA,seval,A3]
    refine hnorm (i+1) _ hlt (by omega) (cR (by simp only[fC,bh,bq,mM,vr];rfl) (aA _) (by simp) ?_ ⟨by simp[ar,bxs],trivial⟩)
    simp[FL,ar,hw2,htk]
   ·have:i=l.length:=by simp at hge;omega
    subst this
    simp only[pkA]
    refine hexit _ _ ?_
    rw[cY]
    have hjl:=yS l l.length
    rw[cY] at hjl
    simp only[pkA,seval]
    refine hcat (ly k N) [40] _ (by omega) (by simp) ?_
    simp only[pkA,seval,OS]
    refine aD rfl (Hf (gZ l) (by rw[mc,ap];omega) (by omega)) (fun h=>by cases h) ?_
    simp only[pkA,seval]
    refine hcat (ly k N++[40]) (lg (gZ l)) _ (by simp;omega) (by omega) ?_
    simp only[pkA,seval]
    refine hcat ((ly k N++[40])++lg (gZ l)) [41] _ (by simp;omega) (by simp) ?_
    simp only[pkA,seval]
    rw[hT];simp
 have hknd:ON k=true:=by rcases hk with rfl | rfl | rfl | rfl | rfl | rfl<;>decide
 have hget:((sD shL k).map shV).getD shZ=shV k:=by rw[XN,if_pos hknd];rfl
 have hz:List.map kS [C.lit (Value.bool false),C.lit (Value.int IntKind.i64 0),C.lit (Value.string { data:=#[] })].reverse=[.c (.lit (.string ⟨#[]⟩)),.c (.lit (.int .i64 0)),.c (.lit (.bool false))]:=rfl
 have hst:∀ (x y z:V),eF [x,y,z] 0 ((shC k).map .c)=(shC k).map .c:=fun _ _ _=>rfl
 have hsl:(shC k).length=3:=rfl
 have hmb:ck ((shC k).map V.c)=false:=rfl
 repeat' first
  |(refine jK (by decide +kernel) (by decide +kernel) ?_;simp only[jL,lc,ah,Nat.reduceAdd];(repeat' (first | exact trivial | apply And.intro));(all_goals (first | exact Or.inl (by decide +kernel) | refine Or.inr ?_)))
  |(refine wT rfl Kc rfl (fun _=>TW) ?_)
  |(refine TY hget ?_ ?_ ?_;(· simp[ar]);(· simp))
  |(refine yH (by decide +kernel) (hK' _ ?_))
  |(simp only[iG,y0,seval,e0,hz,shV,hst,hsl])
 all_goals first
  |(refine ⟨1,_,_,rfl,.inl rfl,?_,?_,?_,?_⟩<;>(simp[ar];done))
  |(refine ⟨2,_,_,rfl,.inr rfl,?_,?_,?_,?_⟩<;>(simp[ar];done))
