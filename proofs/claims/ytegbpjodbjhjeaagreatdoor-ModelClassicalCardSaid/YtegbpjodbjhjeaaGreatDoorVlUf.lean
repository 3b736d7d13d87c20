/- Layer 15: Valid. -/
import Derived.Test.YtegbpjodbjhjeaaGreatDoorVlUb
import Derived.Test.YtegbpjodbjhjeaaGreatDoorShelf
import Derived.Test.YtegbpjodbjhjeaaGreatDoorVlTree
set_option linter.all false
namespace Go.Proofs.YtegbpjodbjhjeaaGreatDoor
open Go Go.Vl
variable {G:Gl}
set_option maxRecDepth 4000
theorem KO {xs:List V} {Y:List (List V)} (h:eN xs Y=true):ltL Y.length Y:=by
 simp only[eN,aI,aU] at h
 exact fun b hb x hx=>V.ltB_ok (h.2 b hb x hx)
section
variable {tr:List Nat} {ty:TypeId} {d:Nat} {pos:String} {af:Array Edge} {g:Option (Nat×Bool)} {fr:Nat→V} {bx:Nat→List V} {nb:Nat} {H:Vl.S→Prop}
theorem ag4:VStep Tryz.prog G tr ⟨some d,.alloc 105,ty,pos,af,g⟩ ⟨fr,bx,nb⟩ H=H ⟨up fr d (.bp nb 0),up bx nb [.c (.lit (.map none))],nb+1⟩:=oo vE rfl
end
theorem Bl {s:Vl.S} {f:V} {args all cargs:List V} {g:FuncId} {K:Vl.S→V→Prop} {M:List V} (hc:eI f args=some (g,all)) (hf:FnB Tryz.prog G g cargs [] (.mr 0) [M]) (dh:all.map V.fz=cargs) (hM:∀ ρ,M.map (V.ren ρ)=M)
 (hK:K { s with bx:=up s.bx s.nb M,nb:=s.nb+1 } (.mr s.nb)):vcallB Tryz.prog G s f args K:=by
 refine yh hc hf dh ?_
 simp only[fu,hM,dm,V.ren,dR]
 exact hK
theorem ab8 {fr:Nat→V} {bx:Nat→List V} {nb:Nat} {t:Tmp} {dO:Option Tmp} {b o i:Nat} {K:Vl.S→Prop} (h:fr t=.mr i):stS 1 (some t) dO b o (.mr i) ⟨fr,bx,nb⟩ K=
 ((b<nb∧o+1≤(bx b).length)∧K ((⟨fr,up bx b (eU (bx b) o [.mr i]),nb⟩:Vl.S).put dO .sk)):=by
 simp[stS,V.bcells,mO,h,V.isOw]
theorem TX {ρ:Nat→Nat} {x:C}:(V.c x).ren ρ=.c x:=rfl
def glT:Gl:=fun g=>if g=1 then some (Lib.pow10Tab.map fun z=>[C.lit (.int .u64 z)]).flatten else if g=1000000000 then some [] else none
theorem aeG:gat glT 1=some (Lib.pow10Tab.map fun z=>[C.lit (.int .u64 z)]).flatten:=rfl
theorem Bm:¬ GT glT:=by unfold GT glT;simp
theorem Dl:Tryz.prog.globalNamed "internal/strconv.uint64pow10" = some 1:=by kernel_rfl
theorem TY {l:List Int}:(l.map fun z=>[C.lit (.int .u64 z)]).flatten=l.map fun z=>C.lit (.int .u64 z):=by
 induction l with
 |nil=>rfl
 |cons x l ih=>simp[ih]
theorem Mw:(Lib.pow10Tab.map fun z=>C.lit (.int .u64 z)).length=20:=by rw[am,Lib.pow10Tab_length]
theorem ab9 {I:Ft} {w:World} (h:GOK glT I w):Lib.TabIs Tryz.prog w "internal/strconv.uint64pow10" .u64 Lib.pow10Tab:=by
 obtain⟨h1,_,h3⟩:=h 1 _ aeG
 rw[TY] at h1 h3
 rw[Mw] at h3
 obtain⟨b,off,f,hp,hf,hr⟩:=h1.rp_inv
 have hp2:(⟨1,0,none⟩:Addr)=⟨b,off+0,none⟩:=by injection hp with hp;exact cN hp
 injection hp2 with hb ho _
 have ho:off=0:=by omega
 subst hb;subst ho
 have hc:∀ j,j<20→w.cell? ⟨1,j,none⟩=(Lib.pow10Tab.map fun z=>Value.int .u64 z)[j]?:=fun j hj=>by
  have VO:j<(Lib.pow10Tab.map fun z=>C.lit (.int .u64 z)).length:=by rw[Mw];exact hj
  have hj3:j<Lib.pow10Tab.length:=by rw[Lib.pow10Tab_length];exact hj
  have e:=(hf j VO).1
  rw[ah] at e
  have hg:(Lib.pow10Tab.map fun z=>C.lit (.int .u64 z))[j]?=some (C.lit (.int .u64 Lib.pow10Tab[j])):=by
   rw[bb,aj hj3];rfl
  obtain⟨e2,_⟩:=(hr j _ hg).lit_inv
  rw[e,e2,bb,aj hj3];rfl
 unfold Lib.TabIs World.var?
 rw[Dl,fP]
 have h19:=hc 0 (by decide)
 cases hh:w.heap[1]? with
 |none=>simp[World.cell?,hh,Lib.pow10Tab] at h19
 |some o=>
  cases o with
  |cells cs e fz=>
   have zB:∀ j:Nat,w.cell? ⟨1,j,none⟩=cs[j]?:=fun j=>by simp[World.cell?,hh]
   simp only
   congr 1
   apply Array.ext_getElem?
   intro j
   rw[← zB]
   by_cases hj:j<20
   ·rw[hc j hj];simp
   ·have dZ:cs.size≤20:=by
     have:=(zB 20).symm.trans h3
     exact Array.getElem?_eq_none_iff.1 this
    rw[zB,db (by omega)]
    symm
    rw[db (by simp[Lib.pow10Tab_length];omega)]
  |_=>simp[World.cell?,hh,Lib.pow10Tab] at h19
theorem Fq:∀ n:Nat,n<10000000000000000000→Lib.decDigits n=dec n:=by
 intro n
 induction n using Nat.strongRecOn with
 |_ n ih=>
  intro h
  rw[Lib.decDigits,Yb h]
  by_cases hn:n<10
  ·rw[dif_pos hn,if_pos hn]
  ·rw[dif_neg hn,if_neg hn,ih _ (by omega) (by omega)]
theorem Ye (N:Nat) (hN:N≤9223372036854775807):FnOK Tryz.prog glT 149 [i64 N] (sv (dec N)):=by
 refine⟨⟨_,Tryz.func149,rfl,_,rfl⟩,fun I w vs hI hg dZ ha=>?_⟩
 have ha0:=ha 0 _ rfl
 have P1:vs=#[vs.getD 0 undef]:=by
  apply jw
  ·simpa using dZ
  ·intro i h1 h2
   have:i=0:=by simpa using h2
   subst this;simp[Array.getD,h1]
 rw[P1]
 clear P1
 generalize vs.getD 0 undef=v0 at ha0 ⊢
 cases ha0 with
 |c _ _ h0=>
 obtain⟨rfl,_⟩:=h0.lit_inv
 refine (Tryz.strconv_Itoa N (by omega) (by omega) w (ab9 hg)).mono ?_
 rintro e w' ⟨rfl,k,os,rfl⟩
 have e1:Lib.itoa N=dec N:=by
  unfold Lib.itoa
  rw[if_neg (by omega),iE,Fq N (by omega)]
 rw[e1]
 refine⟨_,I,rfl,?_,fun _ _ h=>h,fun _ _ h=>.inl h,none,.ofLit rfl,fun b hb=>by cases hb⟩
 exact⟨rfl,rfl,rfl,by simp[Go.Sort.grow,World.drewN],fun q hq _=>by simp[Go.Sort.grow,World.drewN,dG hq],fun h=>absurd h Bm⟩
def stC (l:List By):C:=.sl (l.map fun b=>[cS b])
theorem My:∀ xs:List B,Lib.join xs [44]=mV xs
 |[]=>rfl
 |[x]=>by rw[Lib.join_one];rfl
 |x::y::r=>by
  have:=My (y::r)
  rw[Lib.join_cons] at this ⊢
  have e:Lib.joinTail [44] (y::r)=44::(y++Lib.joinTail [44] r):=by simp[Lib.joinTail]
  rw[e,this];rfl
theorem Mz (parts:List By) (hp:parts.length≤1000000000) (hl:(mV parts).length≤140737488355328):FnOK Tryz.prog glT 150 [.c (stC parts),sv [44]] (sv (mV parts)):=by
 refine⟨⟨_,Tryz.func150,rfl,_,rfl⟩,fun I w vs hI hg dZ ha=>?_⟩
 have ha0:=ha 0 _ rfl
 have ha1:=ha 1 _ rfl
 have P1:vs=#[vs.getD 0 undef,vs.getD 1 undef]:=by
  apply jw
  ·simpa using dZ
  ·intro i h1 h2
   have:i<2:=by simpa using h2
   match i with
   |0=>simp[Array.getD,h1]
   |1=>simp[Array.getD,h1]
 rw[P1]
 clear P1
 generalize vs.getD 0 undef=v0 at ha0 ⊢
 generalize vs.getD 1 undef=v1 at ha1 ⊢
 clear ha dZ
 cases ha0 with
 |c _ _ h0=>
 cases ha1 with
 |c _ _ h1=>
 obtain⟨rfl,_⟩:=h1.lit_inv
 rcases h0.sl_inv with⟨⟨a,cap,rfl,_⟩,he⟩ | ⟨b,off,cap,sz,f,rfl,hc,hs,eo,jm⟩
 ·have Gg:parts=[]:=by
   cases parts with
   |nil=>rfl
   |cons x r=>cases he
  subst Gg
  refine (Tryz.strings_Join_none a cap (bs8 [44]) w).mono ?_
  rintro e w' ⟨rfl,rfl⟩
  exact⟨_,I,rfl,⟨rfl,rfl,rfl,ae _,fun _ _ _=>rfl,fun _=>ae _⟩,fun _ _ h=>h,fun _ _ h=>.inl h,none,.ofLit rfl,fun b hb=>by cases hb⟩
 ·have cu:(parts.map fun b=>[cS b]).length=(parts.map bs8).length:=by rw[am,am]
  have jk:∀ (j:Nat) (x:ByteArray),(parts.map bs8)[j]?=some x→w.cell? ⟨b,off+j,none⟩=some (.string x)∧I b (off+j):=fun j x hx=>by
   rw[bb] at hx
   obtain⟨y,hy,rfl⟩:=aY.1 hx
   have hj:j<(parts.map fun b=>[cS b]).length:=by rw[am];exact(ak.1 hy).1
   have hg:(parts.map fun b=>[cS b])[j]?=some [cS y]:=by rw[bb,hy];rfl
   have aiX:sz=1:=(hs _ (bh hg)).symm
   subst aiX
   obtain⟨h2,h3⟩:=eo j 0 hj (by decide)
   obtain⟨h4,_⟩:=(jm j 0 _ _ hg rfl).lit_inv
   rw[h4] at h2
   simp only[Nat.mul_one,dR] at h2 h3
   exact⟨h2,h3⟩
  rw[cu] at hc ⊢
  cases hpp:parts with
  |nil=>
   subst hpp
   refine (Tryz.strings_Join_none (some ⟨b,off,none⟩) cap (bs8 [44]) w).mono ?_
   rintro e w' ⟨rfl,rfl⟩
   exact⟨_,I,rfl,⟨rfl,rfl,rfl,ae _,fun _ _ _=>rfl,fun _=>ae _⟩,fun _ _ h=>h,fun _ _ h=>.inl h,none,.ofLit rfl,fun b hb=>by cases hb⟩
  |cons p0 r0=>
  rw[← hpp]
  have hb:b<w.heap.size:=hI b _ (jk 0 _ (by rw[hpp];rfl)).2
  have hm:(parts.map bs8).map (fun x=>x.data.toList)=parts:=by
   rw[gV];conv=>rhs;rw[← List.map_id parts]
   exact cz fun x _=>by simp[bs8]
  have hj:Lib.join ((parts.map bs8).map (fun x=>x.data.toList)) (bs8 [44]).data.toList=mV parts:=by rw[hm];exact My parts
  refine (Tryz.strings_Join b off cap (parts.map bs8) (bs8 [44]) w (fun j x hx=>(jk j x hx).1) hb (by rw[am];omega) hc (by rw[hj];exact hl)).mono ?_
  rintro e w' ⟨rfl,ou⟩
  rw[hj]
  exact⟨_,I,rfl,⟨ou.os,ou.tape,ou.output,ou.size,fun k hk _=>ou.block k hk,fun h=>absurd h Bm⟩,fun _ _ h=>h,fun _ _ h=>.inl h,none,.ofLit rfl,fun b hb=>by cases hb⟩
def owS (l:List By):V:=.ow (if l.isEmpty then none else some (9,1)) (l.map fun b=>[cS b])
theorem TZ {l:List By}:(owS l).fz=.c (stC l):=rfl
theorem Fu {l:List By}:(owS l).isOw=true:=rfl
theorem zO {l:List By} {m:Nat}:(owS l).ltB m=true:=rfl
theorem Zu {l:List By} {x:By} {K:V→Prop} (h:l.length+1≤1000000000) (hK:K (owS (l++[x]))):ee Tryz.prog 161 (owS l) (.c (.sl [[cS x]])) K:=by
 have jk:∀ z∈l.map (fun b=>[cS b]),z.length=1:=fun z hz=>by obtain⟨b,_,rfl⟩:=br.1 hz;rfl
 unfold owS
 rw[X3]
 refine⟨⟨?_,jk⟩,⟨by simp;omega,by simp;omega,by simp⟩,?_⟩
 ·by_cases hl:l.isEmpty=true
  ·exact .inl (by rw[if_pos hl])
  ·exact .inr (by rw[if_neg hl])
 ·have e:(l++[x]).isEmpty=false:=by cases l<;>rfl
  unfold owS at hK
  rw[e] at hK
  simpa using hK
theorem Yf {k:Int} {s:Vl.S} {i:Nat} {K:V→Prop} (hg:((wN shL k).map shV).getD shZ=shV k) (hb:s.bx i=shM) (hi:i<s.nb) (hK:K (shV k)):fG Tryz.prog 158 s (.mr i) (i64 k) false K:=
 TS hb hi (by rw[hg];exact hK)
def If:=jj @pkA @ptA
def Dm:=jj @pkA (jj @ptA @pkT)
set_option maxHeartbeats 8000000 in
theorem Fv:∀ t:Tm,bY t=true→bq t≤1000000000→FnOK Tryz.prog glT 123 [.agg (tmC t)] (sv (jq t)):=by
 refine Tm.ind fun k n l ih hv hs=>?_
 have dZ:cF l+1≤1000000000:=by simp only[bq] at hs;omega
 have LG:=jh l
 obtain⟨hk,⟨hn0,Ls,Jb⟩,cu,tV⟩:=fw hv
 obtain⟨N,rfl⟩:∃ N:Nat,n=(N:Int):=⟨n.toNat,by omega⟩
 have hdl:=Ms N
 have hd:=Ye N (by omega)
 have LL:∀ (a b:B) K,a.length≤40000000000→b.length≤40000000000→K (sv (a++b))→zZ .add (bs8 a) (bs8 b) K:=fun a b K h1 h2 hK=>aeD (by omega) hK
 have hT:jq (.mk k N l)=nh k N++(if decide (gA k=0)=true then[] else 40::(mV (jb l)++[41])):=rfl
 have hHl:=Dd k N
 have hH:nh k N=u3 k++(if qy k=true then dec N else[]):=rfl
 obtain⟨t0,Qn⟩:∃ t0,t0=Tm.mk k N l:=⟨_,rfl⟩
 have e0:t0.kind=k:=by rw[Qn];rfl
 have e1:t0.n=N:=by rw[Qn];rfl
 have e2:t0.l=l:=by rw[Qn];rfl
 rw[← Qn] at hT ⊢
 clear Qn
 refine bE (rs:=[.tmp 2]) false [2850001,2860001,1000008,32] mixed Tryz.func123 rfl rfl rfl rfl (by kernel_rfl) (by simp) rfl rfl ?_
 simp only[pkA,seval]
 refine Mn rfl rfl (SO (A:=fun s=>∃ q fr bx,s=⟨fr,bx,3⟩∧(q=1∨q=2)∧fr 1=.bp 0 0∧fr 3=.bp q 0∧bx 0=(tmC t0).map .c∧bx q=(shC k).map .c) ?_ (fun K' hK'=>?_))
 ·rintro _ ⟨q,fr,bx,rfl,hq,h1,h3,h0,hbq⟩
  have adw:(q<3)=True:=by simp;omega
  have uE:(u3 k).length≤4:=by rcases hk with rfl | rfl | rfl | rfl | rfl | rfl<;>decide
  simp only[If,seval,h3,hbq,adw,shC,cS,cI]
  refine aL (fun hc=>?_) (fun hc=>?_)
  ·have hH:nh k N=u3 k++dec N:=by rw[hH,if_pos hc]
   simp only[Dm,seval,h1,h0,e1]
   refine ay rfl hd (fun h=>by cases h) ?_
   simp only[pkA,seval]
   refine LL (u3 k) (dec N) _ (by omega) (by omega) ?_
   rw[← hH]
   simp only[If,seval,h3,hbq,adw,shC,cS,cI]
   refine aL (fun hz=>?_) (fun Y9=>?_)
   ·have hz:gA k=0:=by
     have:max 0 (gA k)=0:=by simpa using hz
     omega
    simp only[pkA,seval]
    rw[hT,hz];simp
   have Y9:¬ gA k=0:=fun h=>by rw[h] at Y9;simp at Y9
   rw[cR Y9] at hT
   simp only[Dm,seval,tsC,h1,h0,e2]
   refine ck (fun i:Nat=>hdS [(1,.bp 0 0),(4,sv (nh k N)),(5,owS (jb (l.take i))),(26,.c (.sl (l.map tmC))),(27,i64 l.length),(28,i64 i)] [(tmC t0).map .c]) (fun i=>l.length - i) (fun i=>i≤l.length) 0 (ar _) ?_ ?_
   ·exact bT (by simp only[eQ,aN,aX,jD,zO];rfl) (ar _) (by simp) (by simp[FL,au,jb,owS,h1]) ⟨by simp[h0],trivial⟩
   rintro i hi R bS cd cX
   simp only[pkA,seval]
   refine aL (fun bB=>?_) (fun fA=>?_)
   ·have bB:i<l.length:=by simpa using bB
    have ll:=ei (n:=(i:Int)+1) (k:=i+1) (by omega) (by omega)
    have hm:=fx (aF bB)
    have Qa:jb (l.take (i+1))=jb (l.take i)++[jq l[i]]:=by
     rw[aQ bB,nV,nV,dL];rfl
    have Jn:(jb (l.take i)).length≤i:=by rw[nV,am,a8];omega
    simp only[pkA,seval]
    refine df du rfl dl (by decide) (aD i) (c:=tmC l[i]) (by simp[bB]) (bG _) ?_
    simp only[Dm,seval,Fu,jA (bG _)]
    refine ay rfl (ih l[i] (aF bB) (tV _ (aF bB)) (by omega)) (fun h=>by cases h) ?_
    simp only[If,seval]
    refine Zu (l:=jb (l.take i)) (x:=jq l[i]) (by omega) ?_
    simp only[pkA,seval,Fu]
    refine bS (i+1) _ bB (by omega) (bT (by simp only[eQ,aN,aX,jD,zO];rfl) (ar _) (by simp) ?_ ⟨by simp[au,bxs],trivial⟩)
    simp[FL,au,ll,Qa]
   ·have:i=l.length:=by simp at fA;omega
    subst this
    simp only[pkA]
    refine cd _ _ ?_
    rw[cw]
    have Z3:=Df l l.length
    rw[cw] at Z3
    simp only[pkA,seval]
    refine LL (nh k N) [40] _ (by omega) (by simp) ?_
    simp only[pkA,seval,TZ]
    refine ay rfl (Mz (jb l) (by rw[nV,am];omega) (by omega)) (fun h=>by cases h) ?_
    simp only[pkA,seval]
    refine LL (nh k N++[40]) (mV (jb l)) _ (by simp;omega) (by omega) ?_
    simp only[pkA,seval]
    refine LL ((nh k N++[40])++mV (jb l)) [41] _ (by simp;omega) (by simp) ?_
    simp only[pkA,seval]
    rw[hT];simp
  ·have hH:nh k N=u3 k:=by rw[hH,if_neg (by simp[hc])];simp
   rw[← hH]
   simp only[If,seval,h3,hbq,adw,shC,cS,cI]
   refine aL (fun hz=>?_) (fun Y9=>?_)
   ·have hz:gA k=0:=by
     have:max 0 (gA k)=0:=by simpa using hz
     omega
    simp only[pkA,seval]
    rw[hT,hz];simp
   have Y9:¬ gA k=0:=fun h=>by rw[h] at Y9;simp at Y9
   rw[cR Y9] at hT
   simp only[Dm,seval,tsC,h1,h0,e2]
   refine ck (fun i:Nat=>hdS [(1,.bp 0 0),(4,sv (nh k N)),(5,owS (jb (l.take i))),(26,.c (.sl (l.map tmC))),(27,i64 l.length),(28,i64 i)] [(tmC t0).map .c]) (fun i=>l.length - i) (fun i=>i≤l.length) 0 (ar _) ?_ ?_
   ·exact bT (by simp only[eQ,aN,aX,jD,zO];rfl) (ar _) (by simp) (by simp[FL,au,jb,owS,h1]) ⟨by simp[h0],trivial⟩
   rintro i hi R bS cd cX
   simp only[pkA,seval]
   refine aL (fun bB=>?_) (fun fA=>?_)
   ·have bB:i<l.length:=by simpa using bB
    have ll:=ei (n:=(i:Int)+1) (k:=i+1) (by omega) (by omega)
    have hm:=fx (aF bB)
    have Qa:jb (l.take (i+1))=jb (l.take i)++[jq l[i]]:=by
     rw[aQ bB,nV,nV,dL];rfl
    have Jn:(jb (l.take i)).length≤i:=by rw[nV,am,a8];omega
    simp only[pkA,seval]
    refine df du rfl dl (by decide) (aD i) (c:=tmC l[i]) (by simp[bB]) (bG _) ?_
    simp only[Dm,seval,Fu,jA (bG _)]
    refine ay rfl (ih l[i] (aF bB) (tV _ (aF bB)) (by omega)) (fun h=>by cases h) ?_
    simp only[If,seval]
    refine Zu (l:=jb (l.take i)) (x:=jq l[i]) (by omega) ?_
    simp only[pkA,seval,Fu]
    refine bS (i+1) _ bB (by omega) (bT (by simp only[eQ,aN,aX,jD,zO];rfl) (ar _) (by simp) ?_ ⟨by simp[au,bxs],trivial⟩)
    simp[FL,au,ll,Qa]
   ·have:i=l.length:=by simp at fA;omega
    subst this
    simp only[pkA]
    refine cd _ _ ?_
    rw[cw]
    have Z3:=Df l l.length
    rw[cw] at Z3
    simp only[pkA,seval]
    refine LL (nh k N) [40] _ (by omega) (by simp) ?_
    simp only[pkA,seval,TZ]
    refine ay rfl (Mz (jb l) (by rw[nV,am];omega) (by omega)) (fun h=>by cases h) ?_
    simp only[pkA,seval]
    refine LL (nh k N++[40]) (mV (jb l)) _ (by simp;omega) (by omega) ?_
    simp only[pkA,seval]
    refine LL ((nh k N++[40])++mV (jb l)) [41] _ (by simp;omega) (by simp) ?_
    simp only[pkA,seval]
    rw[hT];simp
 have aiZ:TU k=true:=by rcases hk with rfl | rfl | rfl | rfl | rfl | rfl<;>decide
 have lR:((wN shL k).map shV).getD shZ=shV k:=by rw[ab7,if_pos aiZ];rfl
 have hz:List.map nH [C.lit (Value.bool false),C.lit (Value.int IntKind.i64 0),C.lit (Value.string { data:=#[] })].reverse=[.c (.lit (.string ⟨#[]⟩)),.c (.lit (.int .i64 0)),.c (.lit (.bool false))]:=rfl
 have hst:∀ (x y z:V),eU [x,y,z] 0 ((shC k).map .c)=(shC k).map .c:=fun _ _ _=>rfl
 have Nq:(shC k).length=3:=rfl
 have jl:dc ((shC k).map V.c)=false:=rfl
 repeat' first
  |(refine k6 (by decide +kernel) (by decide +kernel) ?_;simp only[k7,mR,ah,Nat.reduceAdd];(repeat' (first | exact trivial | apply And.intro));(all_goals (first | exact Or.inl (by decide +kernel) | refine Or.inr ?_)))
  |(refine Bl rfl Po rfl (fun _=>Yd) ?_)
  |(refine Yf lR ?_ ?_ ?_;(· simp[au]);(· simp))
  |(refine C0 (by decide +kernel) (hK' _ ?_))
  |(simp only[jz,Dm,seval,e0,hz,shV,hst,Nq])
 all_goals first
  |(refine ⟨1,_,_,rfl,.inl rfl,?_,?_,?_,?_⟩<;>(simp[au];done))
  |(refine ⟨2,_,_,rfl,.inr rfl,?_,?_,?_,?_⟩<;>(simp[au];done))
