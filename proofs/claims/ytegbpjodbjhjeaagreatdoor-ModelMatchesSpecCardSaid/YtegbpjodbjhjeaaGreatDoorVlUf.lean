/- Layer 15: slices.IndexFunc, slices.ContainsFunc with a closure over boxes. -/
import Derived.Test.YtegbpjodbjhjeaaGreatDoorVlUa
import Derived.Test.YtegbpjodbjhjeaaGreatDoorShelf
import Derived.Test.YtegbpjodbjhjeaaGreatDoorVlTree
set_option maxHeartbeats 8000000
set_option linter.all false
namespace Go.Proofs.YtegbpjodbjhjeaaGreatDoor
open Go Go.Vl
variable {G:Gl}
set_option maxRecDepth 4000
def CM (p:Tm->Bool) (l:List Tm):Int:=match l.findIdx? p with
 |some i=>(i:Int)
 |none=>-1
theorem M5 {p:Tm->Bool} {l:List Tm} {i:Nat} (h:i<l.length) (hp:p l[i]=true) (hn:∀ j (hj:j<l.length),j<i->p l[j]=false):CM p l=(i:Int):=by have:l.findIdx? p=some i:=b9.2 ⟨h,hp,λj hj=>by rw[hn j (by omega) hj];simp⟩;unfold CM;rw[this]
theorem DO {p:Tm->Bool} {l:List Tm} (hn:∀ j (hj:j<l.length),p l[j]=false):CM p l=-1:=by
 have:l.findIdx? p=none:=dT.2 λx hx=>by obtain⟨j,hj,rfl⟩:=eo hx;exact hn j hj
 unfold CM;rw[this]
theorem UL {p:Tm->Bool} {l:List Tm}:decide (CM p l≥0)=l.any p:=by
 unfold CM;cases h:l.findIdx? p with
 |none=>
  have:=dT.1 h;have h2:l.any p=false:=by rw[List.any_eq_false];exact λx hx=>by rw[this x hx];simp
  rw[h2];decide
 |some i=>obtain⟨h1,h2,_⟩:=b9.1 h;have h2:l.any p=true:=dN.2 ⟨_,aH h1,h2⟩;rw[h2];simp
structure Ask (G:Gl) (Y:List (List V)) (f:V) (R:Tm->Prop) (p:Tm->Bool) where
 g:FuncId
 caps:List V
 eq:f=.clo (.func g) [] caps
 lt:∀ x∈caps,x.ltP Y.length
 ltY:ltL Y.length Y
 fz:caps.map V.fz=caps
 ok:∀ t,R t->FnB Tryz.prog G g (.agg (tmC t)::caps) Y (bo (p t)) Y
theorem DT {Y:List (List V)} {g:FuncId} {f:V} {args all cargs:List V} {fr:Nat->V} {K:S->V->Prop} {r:V} (hc:eB f args=some (g,all)) (hf:FnB Tryz.prog G g cargs Y r Y) (dC:all.map V.fz=cargs) (bF:ltL Y.length Y) (hr:∀ ρ,r.ren ρ=r)
 (hK:K ⟨fr,bxs Y,kx Y.length 0⟩ r):vcallB Tryz.prog G ⟨fr,bxs Y,kx Y.length 0⟩ f args K:=by
 have:=Pl (Y:=Y) (Y':=Y) (ls:=[]) (rest:=[]) (n:=0) (k:=Y.length) (fr:=fr) (K:=K) hc (by simpa using hf) dC rfl rfl bF rfl hr (by simpa using hK);simpa using this
theorem UM {Y:List (List V)} {l:List (Nat×V)} {fr:Nat->V} (bF:ltL Y.length Y) (hl:∀ q∈l,q.2.lt (kx Y.length 0)) (h1:FL l fr):S.Le (kx Y.length 0) (hdS l Y) ⟨fr,bxs Y,kx Y.length 0⟩:=by have:=afJ (Y:=Y) (ls:=[]) (rest:=[]) (k:=Y.length) (m:=0) (n:=0) (j:=0) (l:=l) (fr:=fr) rfl bF rfl rfl (λb hb=>by cases hb) hl h1 (ai _);simpa using this
theorem FX {Y:List (List V)} {e:VE} {r:V} {t:Nat} {fr:Nat->V} (he:Dk e=true) (bF:ltL Y.length Y) (hr:r.lt (kx Y.length 0)) (QO:qC Tryz.prog false (hdS [(t,r)] Y) r [.tmp t]) (h:fr t=r):vJ Tryz.prog (kx Y.length 0) r Y [.tmp t] e ⟨fr,bxs Y,kx Y.length 0⟩:=by have:=afK (P:=Tryz.prog) (Y:=Y) (ls:=[]) (rest:=[]) (k:=Y.length) (m:=0) (n:=0) (e:=e) (r:=r) (rs:=[.tmp t]) (fr:=fr) [(t,r)] he rfl bF rfl rfl (λb hb=>by cases hb) (by simpa using hr) (by simp[FL,h]) (by simpa using QO);simpa using this
def DU:=jj @pkA @ptA
theorem FY {Y:List (List V)} {f:V} {R:Tm->Prop} {p:Tm->Bool} (h:Ask G Y f R p) (l:List Tm) (hl:∀ t∈l,R t) (hm:l.length<=1000000000):FnB Tryz.prog G 95 [.c (tsC l),f] Y (i64 (CM p l)) Y:=by
 obtain⟨g,caps,rfl,nr,CY,hcf,dV⟩:=h;have QD:(V.clo (.func g) [] caps).lt (kx Y.length 0):=⟨λx hx=>(by cases hx),nr⟩;have hcz:(V.clo (.func g) [] caps).fz=V.clo (.func g) [] caps:=rfl;have key:FnB Tryz.prog G 95 [.c (tsC l),.clo (.func g) [] caps] (Y++[]) (i64 (CM p l)) (Y++[]):=by
  refine MM (k:=Y.length) (m:=0) (rs:=[.tmp 4]) [1000016] mixed Tryz.func95 rfl rfl rfl rfl (by kernel_rfl) (by simp) rfl rfl rfl CY rfl (λb hb=>by cases hb) (λx hx=>?_) ?_
  .simp only[bI,eK,kJ] at hx
   rcases hx with rfl | rfl
   .trivial
   .exact QD
  simp only[DU,seval,tsC,d6];refine cm (λi:Nat=>hdS [(0,.c (.sl (l.map tmC))),(1,.clo (.func g) [] caps),(7,i64 l.length),(8,i64 i)] Y) (λi=>l.length - i) (λi=>i<=l.length/\∀ j (h:j<l.length),j<i->p l[j]=false) 0 ⟨ar _,λj h h'=>absurd h' (Nat.not_lt_zero _)⟩ ?_ ?_
  .exact UM CY (by simp[V.lt];exact nr) (by simp[FL,aw])
  rintro i ⟨hi,eX⟩ R bN b8 db;have cH:Y.length=kx Y.length 0:=rfl;simp only[pkA,seval];refine aJ (λbF=>?_) (λfu=>?_)
  .have bF:i<l.length:=by simpa using bF
   have hw:=dM (n:=(i:Int)+1) (k:=i+1) (by omega) (by omega);simp only[pkA,seval,hcz];refine cR dc rfl cV (by decide) (aC i) (c:=tmC l[i]) (by simp[bF]) (bG _) ?_;simp only[pkA,seval,jr (bG _)];refine DT rfl (dV _ (hl _ (aH bF))) (by simp[V.fz,hcf]) CY (λ_=>rfl) ?_;simp only[pkA,seval];refine aJ (λhy=>?_) (λhn=>?_)
   .simp only[pkA,seval]
    refine db _ ?_;simp only[pkA];rw[M5 bF hy eX];exact FX rfl CY trivial (by simp[hdS,frs,gK,up]) (by simp[])
   .simp only[pkA,seval]
    refine bN (i+1) _ ⟨bF,λj h hj=>?_⟩ (by omega) (UM CY (by simp[V.lt];exact nr) (by simp[FL,aw,hw]));rcases cd j i with h1 | h1
    .exact eX j h h1
    .have:j=i:=by omega
     subst this;exact hn
  .have:i=l.length:=by simp at fu;omega
   subst this;simp only[pkA];refine b8 _ _ ?_;simp only[pkA,seval];rw[DO (λj h=>eX j h h)];exact FX rfl CY trivial (by simp[hdS,frs,gK,up]) (by simp[])
 simpa using key
theorem Ab {Y:List (List V)} {f:V} {R:Tm->Prop} {p:Tm->Bool} (h:Ask G Y f R p) (l:List Tm) (hl:∀ t∈l,R t) (hm:l.length<=1000000000):FnB Tryz.prog G 50 [.c (tsC l),f] Y (bo (l.any p)) Y:=by
 have hix:=FY h l hl hm;obtain⟨g,caps,rfl,nr,CY,hcf,dV⟩:=h;have QD:(V.clo (.func g) [] caps).lt (kx Y.length 0):=⟨λx hx=>(by cases hx),nr⟩;have hcz:(V.clo (.func g) [] caps).fz=V.clo (.func g) [] caps:=rfl;have key:FnB Tryz.prog G 50 [.c (tsC l),.clo (.func g) [] caps] (Y++[]) (bo (l.any p)) (Y++[]):=by
  refine MM (k:=Y.length) (m:=0) (rs:=[.tmp 4]) [1000007] mixed Tryz.func50 rfl rfl rfl rfl (by kernel_rfl) (by simp) rfl rfl rfl CY rfl (λb hb=>by cases hb) (λx hx=>?_) ?_
  .simp only[bI,eK,kJ] at hx
   rcases hx with rfl | rfl
   .trivial
   .exact QD
  simp only[pkA,seval,tsC,d6,hcz];refine DT rfl hix (by simp[V.fz,tsC]) CY (λ_=>rfl) ?_;simp only[pkA,seval,UL];exact FX rfl CY trivial (by simp[hdS,frs,gK,up]) (by simp[])
 simpa using key
theorem Lo {xs:List V} {Y:List (List V)} (h:eM xs Y=true):ltL Y.length Y:=by simp only[eM,aA,a8] at h;exact λb hb x hx=>V.ltB_ok (h.2 b hb x hx)
section
variable {tr:List Nat} {ty:TypeId} {d:Nat} {pos:String} {af:Array Edge} {g:Option (Nat×Bool)} {fr:Nat->V} {bx:Nat->List V} {nb:Nat} {H:Vl.S->Prop}
theorem aix:VStep Tryz.prog G tr ⟨some d,.alloc 105,ty,pos,af,g⟩ ⟨fr,bx,nb⟩ H=H ⟨up fr d (.bp nb 0),up bx nb [.c (.lit (.map none))],nb+1⟩:=mW vP rfl
end
theorem BR {s:Vl.S} {f:V} {args all cargs:List V} {g:FuncId} {K:Vl.S->V->Prop} {M:List V} (hc:eB f args=some (g,all)) (hf:FnB Tryz.prog G g cargs [] (.mr 0) [M]) (dC:all.map V.fz=cargs) (hM:∀ ρ,M.map (V.ren ρ)=M)
 (hK:K { s with bx:=up s.bx s.nb M,nb:=s.nb+1 } (.mr s.nb)):vcallB Tryz.prog G s f args K:=by
 refine yw hc hf dC ?_;simp only[fC,hM,dR,V.ren,en];exact hK
theorem adz {fr:Nat->V} {bx:Nat->List V} {nb:Nat} {t:Tmp} {dO:Option Tmp} {b o i:Nat} {K:Vl.S->Prop} (h:fr t=.mr i):stS 1 (some t) dO b o (.mr i) ⟨fr,bx,nb⟩ K=
 ((b<nb/\o+1<=(bx b).length)/\K ((⟨fr,up bx b (fW (bx b) o [.mr i]),nb⟩:Vl.S).put dO .sk)):=by
 simp[stS,V.bcells,mR,h,V.isOw]
theorem UN {ρ:Nat->Nat} {x:C}:(V.c x).ren ρ=.c x:=rfl
def glT:Gl:=λg=>if g=1 then some (Lib.pow10Tab.map λz=>[C.lit (.int .u64 z)]).flatten else if g=1000000000 then some [] else none
theorem af7:gat glT 1=some (Lib.pow10Tab.map λz=>[C.lit (.int .u64 z)]).flatten:=rfl
theorem BS:¬ GT glT:=by unfold GT glT;simp
theorem DV:Tryz.prog.globalNamed "internal/strconv.uint64pow10" = some 1:=by kernel_rfl
theorem UO {l:List Int}:(l.map λz=>[C.lit (.int .u64 z)]).flatten=l.map λz=>C.lit (.int .u64 z):=by
 induction l with
 |nil=>rfl
 |cons x l ih=>simp[ih]
theorem M6:(Lib.pow10Tab.map λz=>C.lit (.int .u64 z)).length=20:=by rw[aj,Lib.pow10Tab_length]
theorem adA {I:Ft} {w:World} (h:GOK glT I w):Lib.TabIs Tryz.prog w "internal/strconv.uint64pow10" .u64 Lib.pow10Tab:=by
 obtain⟨h1,_,h3⟩:=h 1 _ af7;rw[UO] at h1 h3;rw[M6] at h3;obtain⟨b,off,f,hp,hf,hr⟩:=h1.rp_inv;have hp2:(⟨1,0,none⟩:Addr)=⟨b,off+0,none⟩:=by injection hp with hp;exact ew hp
 injection hp2 with hb ho _
 have ho:off=0:=by omega
 subst hb;subst ho;have hc:∀ j,j<20->w.cell? ⟨1,j,none⟩=(Lib.pow10Tab.map λz=>Value.int .u64 z)[j]?:=λj hj=>by
  have WO:j<(Lib.pow10Tab.map λz=>C.lit (.int .u64 z)).length:=by rw[M6];exact hj
  have hj3:j<Lib.pow10Tab.length:=by rw[Lib.pow10Tab_length];exact hj
  have e:=(hf j WO).1;rw[ao] at e;have hg:(Lib.pow10Tab.map λz=>C.lit (.int .u64 z))[j]?=some (C.lit (.int .u64 Lib.pow10Tab[j])):=by rw[bw,ak hj3];rfl
  obtain⟨e2,_⟩:=(hr j _ hg).lit_inv;rw[e,e2,bw,ak hj3];rfl
 unfold Lib.TabIs World.var?;rw[DV,gi];have h19:=hc 0 (by decide);cases hh:w.heap[1]? with
 |none=>simp[World.cell?,hh,Lib.pow10Tab] at h19
 |some o=>
  cases o with
  |cells cs e fz=>
   have Ah:∀ j:Nat,w.cell? ⟨1,j,none⟩=cs[j]?:=λj=>by simp[World.cell?,hh]
   simp only;congr 1;apply Array.ext_getElem?;intro j;rw[<- Ah];by_cases hj:j<20
   .rw[hc j hj];simp
   .have ej:cs.size<=20:=by have:=(Ah 20).symm.trans h3;exact Array.getElem?_eq_none_iff.1 this
    rw[Ah,dx (by omega)];symm;rw[dx (by simp[Lib.pow10Tab_length];omega)]
  |_=>simp[World.cell?,hh,Lib.pow10Tab] at h19
theorem FZ:∀ n:Nat,n<10000000000000000000->Lib.decDigits n=dec n:=by
 intro n;induction n using Nat.strongRecOn with
 |_ n ih=>
  intro h;rw[Lib.decDigits,Za h];by_cases hn:n<10
  .rw[dif_pos hn,if_pos hn]
  .rw[dif_neg hn,if_neg hn,ih _ (by omega) (by omega)]
theorem Zd (N:Nat) (hN:N<=9223372036854775807):FnOK Tryz.prog glT 149 [i64 N] (sv (dec N)):=by
 refine⟨⟨_,Tryz.func149,rfl,_,rfl⟩,λI w vs hI hg ej ha=>?_⟩;have ha0:=ha 0 _ rfl;have QA:vs=#[vs.getD 0 undef]:=by
  apply j8
  .simpa using ej
  .intro i h1 h2
   have:i=0:=(by simpa using h2);subst this;simp[Array.getD,h1]
 rw[QA];clear QA;generalize vs.getD 0 undef=v0 at ha0 ⊢
 cases ha0 with
 |c _ _ h0=>
 obtain⟨rfl,_⟩:=h0.lit_inv;refine (Tryz.strconv_Itoa N (by omega) (by omega) w (adA hg)).mono ?_;rintro e w' ⟨rfl,k,os,rfl⟩;have e1:Lib.itoa N=dec N:=by unfold Lib.itoa;rw[if_neg (by omega),fq,FZ N (by omega)]
 rw[e1];refine⟨_,I,rfl,?_,λ_ _ h=>h,λ_ _ h=>.inl h,none,.ofLit rfl,λb hb=>by cases hb⟩;exact⟨rfl,rfl,rfl,by simp[Go.Sort.grow,World.drewN],λq hq _=>by simp[Go.Sort.grow,World.drewN,ee hq],λh=>absurd h BS⟩
def stC (l:List By):C:=.sl (l.map λb=>[cS b])
theorem M7:∀ xs:List B,Lib.join xs [44]=m0 xs
 |[]=>rfl
 |[x]=>by rw[Lib.join_one];rfl
 |x::y::r=>by
  have:=M7 (y::r);rw[Lib.join_cons] at this ⊢
  have e:Lib.joinTail [44] (y::r)=44::(y++Lib.joinTail [44] r):=by simp[Lib.joinTail]
  rw[e,this];rfl
theorem M8 (parts:List By) (hp:parts.length<=1000000000) (hl:(m0 parts).length<=140737488355328):FnOK Tryz.prog glT 150 [.c (stC parts),sv [44]] (sv (m0 parts)):=by
 refine⟨⟨_,Tryz.func150,rfl,_,rfl⟩,λI w vs hI hg ej ha=>?_⟩;have ha0:=ha 0 _ rfl;have ha1:=ha 1 _ rfl;have QA:vs=#[vs.getD 0 undef,vs.getD 1 undef]:=by
  apply j8
  .simpa using ej
  .intro i h1 h2
   have:i<2:=by simpa using h2
   match i with
   |0=>simp[Array.getD,h1]
   |1=>simp[Array.getD,h1]
 rw[QA];clear QA;generalize vs.getD 0 undef=v0 at ha0 ⊢
 generalize vs.getD 1 undef=v1 at ha1 ⊢
 clear ha ej;cases ha0 with
 |c _ _ h0=>
 cases ha1 with
 |c _ _ h1=>
 obtain⟨rfl,_⟩:=h1.lit_inv;rcases h0.sl_inv with⟨⟨a,cap,rfl,_⟩,he⟩ | ⟨b,off,cap,sz,f,rfl,hc,hs,eE,ka⟩
 .have GO:parts=[]:=by
   cases parts with
   |nil=>rfl
   |cons x r=>cases he
  subst GO;refine (Tryz.strings_Join_none a cap (bs8 [44]) w).mono ?_;rintro e w' ⟨rfl,rfl⟩;exact⟨_,I,rfl,⟨rfl,rfl,rfl,ai _,λ_ _ _=>rfl,λ_=>ai _⟩,λ_ _ h=>h,λ_ _ h=>.inl h,none,.ofLit rfl,λb hb=>by cases hb⟩
 .have cH:(parts.map λb=>[cS b]).length=(parts.map bs8).length:=by rw[aj,aj]
  have kg:∀ (j:Nat) (x:ByteArray),(parts.map bs8)[j]?=some x->w.cell? ⟨b,off+j,none⟩=some (.string x)/\I b (off+j):=λj x hx=>by rw[bw] at hx;obtain⟨y,hy,rfl⟩:=aZ.1 hx;have hj:j<(parts.map λb=>[cS b]).length:=(by rw[aj];exact(am.1 hy).1);have hg:(parts.map λb=>[cS b])[j]?=some [cS y]:=(by rw[bw,hy];rfl);have akE:sz=1:=(hs _ (bn hg)).symm;subst akE;obtain⟨h2,h3⟩:=eE j 0 hj (by decide);obtain⟨h4,_⟩:=(ka j 0 _ _ hg rfl).lit_inv;rw[h4] at h2;simp only[Nat.mul_one,en] at h2 h3;exact⟨h2,h3⟩
  rw[cH] at hc ⊢
  cases hpp:parts with
  |nil=>subst hpp;refine (Tryz.strings_Join_none (some ⟨b,off,none⟩) cap (bs8 [44]) w).mono ?_;rintro e w' ⟨rfl,rfl⟩;exact⟨_,I,rfl,⟨rfl,rfl,rfl,ai _,λ_ _ _=>rfl,λ_=>ai _⟩,λ_ _ h=>h,λ_ _ h=>.inl h,none,.ofLit rfl,λb hb=>by cases hb⟩
  |cons p0 r0=>
  rw[<- hpp];have hb:b<w.heap.size:=hI b _ (kg 0 _ (by rw[hpp];rfl)).2;have hm:(parts.map bs8).map (λx=>x.data.toList)=parts:=by
   rw[jE];conv=>rhs;rw[<- List.map_id parts]
   exact cF λx _=>by simp[bs8]
  have hj:Lib.join ((parts.map bs8).map (λx=>x.data.toList)) (bs8 [44]).data.toList=m0 parts:=by rw[hm];exact M7 parts
  refine (Tryz.strings_Join b off cap (parts.map bs8) (bs8 [44]) w (λj x hx=>(kg j x hx).1) hb (by rw[aj];omega) hc (by rw[hj];exact hl)).mono ?_;rintro e w' ⟨rfl,oI⟩;rw[hj];exact⟨_,I,rfl,⟨oI.os,oI.tape,oI.output,oI.size,λk hk _=>oI.block k hk,λh=>absurd h BS⟩,λ_ _ h=>h,λ_ _ h=>.inl h,none,.ofLit rfl,λb hb=>by cases hb⟩
def owS (l:List By):V:=.ow (if l.isEmpty then none else some (9,1)) (l.map λb=>[cS b])
theorem UP {l:List By}:(owS l).fz=.c (stC l):=rfl
theorem F2 {l:List By}:(owS l).isOw=true:=rfl
theorem Aq {l:List By} {m:Nat}:(owS l).ltB m=true:=rfl
theorem aaw {l:List By} {x:By} {K:V->Prop} (h:l.length+1<=1000000000) (hK:K (owS (l++[x]))):dL Tryz.prog 161 (owS l) (.c (.sl [[cS x]])) K:=by
 have kg:∀ z∈l.map (λb=>[cS b]),z.length=1:=λz hz=>by obtain⟨b,_,rfl⟩:=ce.1 hz;rfl
 unfold owS;rw[Y2];refine⟨⟨?_,kg⟩,⟨by simp;omega,by simp;omega,by simp⟩,?_⟩
 .by_cases hl:l.isEmpty=true
  .exact .inl (by rw[if_pos hl])
  .exact .inr (by rw[if_neg hl])
 .have e:(l++[x]).isEmpty=false:=by cases l<;>rfl
  unfold owS at hK;rw[e] at hK;simpa using hK
theorem Ze {k:Int} {s:Vl.S} {i:Nat} {K:V->Prop} (hg:((wT shL k).map shV).getD shZ=shV k) (hb:s.bx i=shM) (hi:i<s.nb) (hK:K (shV k)):fV Tryz.prog 158 s (.mr i) (i64 k) false K:=
 UJ hb hi (by rw[hg];exact hK)
def DW:=jj @pkA (jj @ptA @pkT)
theorem F3:∀ t:Tm,bW t=true->bi t<=1000000000->FnOK Tryz.prog glT 123 [.agg (tmC t)] (sv (jo t)):=by
 refine Tm.ind λk n l ih hv hs=>?_;have ej:cz l+1<=1000000000:=by simp only[bi] at hs;omega
 have JU:=iG l;obtain⟨hk,⟨hn0,LX,NY⟩,cH,ui⟩:=fe hv;obtain⟨N,rfl⟩:∃ N:Nat,n=(N:Int):=⟨n.toNat,by omega⟩;have hdl:=M3 N;have hd:=Zd N (by omega);have Mk:∀ (a b:B) K,a.length<=40000000000->b.length<=40000000000->K (sv (a++b))->AA .add (bs8 a) (bs8 b) K:=λa b K h1 h2 hK=>af4 (by omega) hK;have hT:jo (.mk k N l)=np k N++(if decide (gR k=0)=true then[] else 40::(m0 (jc l)++[41])):=rfl
 have hHl:=DF k N;have hH:np k N=vh k++(if qH k=true then dec N else[]):=rfl
 obtain⟨t0,N2⟩:∃ t0,t0=Tm.mk k N l:=⟨_,rfl⟩;have e0:t0.kind=k:=by rw[N2];rfl
 have e1:t0.n=N:=by rw[N2];rfl
 have e2:t0.l=l:=by rw[N2];rfl
 rw[<- N2] at hT ⊢
 clear N2;refine bD (rs:=[.tmp 2]) false [2850001,2860001,1000008,32] mixed Tryz.func123 rfl rfl rfl rfl (by kernel_rfl) (by simp) rfl rfl ?_;simp only[pkA,seval];refine MS rfl rfl (TA (A:=λs=>∃ q fr bx,s=⟨fr,bx,3⟩/\(q=1∨q=2)/\fr 1=.bp 0 0/\fr 3=.bp q 0/\bx 0=(tmC t0).map .c/\bx q=(shC k).map .c) ?_ (λK' hK'=>?_))
 .rintro _ ⟨q,fr,bx,rfl,hq,h1,h3,h0,hbq⟩
  have aeR:(q<3)=True:=by simp;omega
  have yR:(vh k).length<=4:=by rcases hk with rfl | rfl | rfl | rfl | rfl | rfl<;>decide
  simp only[DU,seval,h3,hbq,aeR,shC,cS,cI];refine aJ (λhc=>?_) (λhc=>?_)
  .have hH:np k N=vh k++dec N:=by rw[hH,if_pos hc]
   simp only[DW,seval,h1,h0,e1];refine ax rfl hd (λh=>by cases h) ?_;simp only[pkA,seval];refine Mk (vh k) (dec N) _ (by omega) (by omega) ?_;rw[<- hH];simp only[DU,seval,h3,hbq,aeR,shC,cS,cI];refine aJ (λhz=>?_) (λhnz=>?_)
   .have hz:gR k=0:=by have:max 0 (gR k)=0:=(by simpa using hz);omega
    simp only[pkA,seval];rw[hT,hz];simp
   have hnz:¬ gR k=0:=λh=>by rw[h] at hnz;simp at hnz
   rw[eY hnz] at hT;simp only[DW,seval,tsC,h1,h0,e2];refine cm (λi:Nat=>hdS [(1,.bp 0 0),(4,sv (np k N)),(5,owS (jc (l.take i))),(26,.c (.sl (l.map tmC))),(27,i64 l.length),(28,i64 i)] [(tmC t0).map .c]) (λi=>l.length - i) (λi=>i<=l.length) 0 (ar _) ?_ ?_
   .exact bT (by simp only[eu,aK,aQ,iY,Aq];rfl) (ar _) (by simp) (by simp[FL,aw,jc,owS,h1]) ⟨by simp[h0],trivial⟩
   rintro i hi R bN b8 db;simp only[pkA,seval];refine aJ (λbF=>?_) (λfu=>?_)
   .have bF:i<l.length:=by simpa using bF
    have sW:=dM (n:=(i:Int)+1) (k:=i+1) (by omega) (by omega);have hm:=fE (aH bF);have WQ:jc (l.take (i+1))=jc (l.take i)++[jo l[i]]:=(by rw[aR bF,oc,oc,dl];rfl);have QQ:(jc (l.take i)).length<=i:=(by rw[oc,aj,bb];omega);simp only[pkA,seval];refine cR dc rfl cV (by decide) (aC i) (c:=tmC l[i]) (by simp[bF]) (bG _) ?_;simp only[DW,seval,F2,jr (bG _)];refine ax rfl (ih l[i] (aH bF) (ui _ (aH bF)) (by omega)) (λh=>by cases h) ?_;simp only[DU,seval];refine aaw (l:=jc (l.take i)) (x:=jo l[i]) (by omega) ?_;simp only[pkA,seval,F2];refine bN (i+1) _ bF (by omega) (bT (by simp only[eu,aK,aQ,iY,Aq];rfl) (ar _) (by simp) ?_ ⟨by simp[aw,bxs],trivial⟩);simp[FL,aw,sW,WQ]
   .have:i=l.length:=by simp at fu;omega
    subst this;simp only[pkA];refine b8 _ _ ?_;rw[ct];have hjl:=DI l l.length;rw[ct] at hjl;simp only[pkA,seval];refine Mk (np k N) [40] _ (by omega) (by simp) ?_;simp only[pkA,seval,UP];refine ax rfl (M8 (jc l) (by rw[oc,aj];omega) (by omega)) (λh=>by cases h) ?_;simp only[pkA,seval];refine Mk (np k N++[40]) (m0 (jc l)) _ (by simp;omega) (by omega) ?_;simp only[pkA,seval];refine Mk ((np k N++[40])++m0 (jc l)) [41] _ (by simp;omega) (by simp) ?_;simp only[pkA,seval];rw[hT];simp
  .have hH:np k N=vh k:=by rw[hH,if_neg (by simp[hc])];simp
   rw[<- hH];simp only[DU,seval,h3,hbq,aeR,shC,cS,cI];refine aJ (λhz=>?_) (λhnz=>?_)
   .have hz:gR k=0:=by have:max 0 (gR k)=0:=(by simpa using hz);omega
    simp only[pkA,seval];rw[hT,hz];simp
   have hnz:¬ gR k=0:=λh=>by rw[h] at hnz;simp at hnz
   rw[eY hnz] at hT;simp only[DW,seval,tsC,h1,h0,e2];refine cm (λi:Nat=>hdS [(1,.bp 0 0),(4,sv (np k N)),(5,owS (jc (l.take i))),(26,.c (.sl (l.map tmC))),(27,i64 l.length),(28,i64 i)] [(tmC t0).map .c]) (λi=>l.length - i) (λi=>i<=l.length) 0 (ar _) ?_ ?_
   .exact bT (by simp only[eu,aK,aQ,iY,Aq];rfl) (ar _) (by simp) (by simp[FL,aw,jc,owS,h1]) ⟨by simp[h0],trivial⟩
   rintro i hi R bN b8 db;simp only[pkA,seval];refine aJ (λbF=>?_) (λfu=>?_)
   .have bF:i<l.length:=by simpa using bF
    have sW:=dM (n:=(i:Int)+1) (k:=i+1) (by omega) (by omega);have hm:=fE (aH bF);have WQ:jc (l.take (i+1))=jc (l.take i)++[jo l[i]]:=(by rw[aR bF,oc,oc,dl];rfl);have QQ:(jc (l.take i)).length<=i:=(by rw[oc,aj,bb];omega);simp only[pkA,seval];refine cR dc rfl cV (by decide) (aC i) (c:=tmC l[i]) (by simp[bF]) (bG _) ?_;simp only[DW,seval,F2,jr (bG _)];refine ax rfl (ih l[i] (aH bF) (ui _ (aH bF)) (by omega)) (λh=>by cases h) ?_;simp only[DU,seval];refine aaw (l:=jc (l.take i)) (x:=jo l[i]) (by omega) ?_;simp only[pkA,seval,F2];refine bN (i+1) _ bF (by omega) (bT (by simp only[eu,aK,aQ,iY,Aq];rfl) (ar _) (by simp) ?_ ⟨by simp[aw,bxs],trivial⟩);simp[FL,aw,sW,WQ]
   .have:i=l.length:=by simp at fu;omega
    subst this;simp only[pkA];refine b8 _ _ ?_;rw[ct];have hjl:=DI l l.length;rw[ct] at hjl;simp only[pkA,seval];refine Mk (np k N) [40] _ (by omega) (by simp) ?_;simp only[pkA,seval,UP];refine ax rfl (M8 (jc l) (by rw[oc,aj];omega) (by omega)) (λh=>by cases h) ?_;simp only[pkA,seval];refine Mk (np k N++[40]) (m0 (jc l)) _ (by simp;omega) (by omega) ?_;simp only[pkA,seval];refine Mk ((np k N++[40])++m0 (jc l)) [41] _ (by simp;omega) (by simp) ?_;simp only[pkA,seval];rw[hT];simp
 have akG:UK k=true:=by rcases hk with rfl | rfl | rfl | rfl | rfl | rfl<;>decide
 have ng:((wT shL k).map shV).getD shZ=shV k:=by rw[ady,if_pos akG];rfl
 have hz:List.map mL [C.lit (Value.bool false),C.lit (Value.int IntKind.i64 0),C.lit (Value.string { data:=#[] })].reverse=[.c (.lit (.string ⟨#[]⟩)),.c (.lit (.int .i64 0)),.c (.lit (.bool false))]:=rfl;have hst:∀ (x y z:V),fW [x,y,z] 0 ((shC k).map .c)=(shC k).map .c:=λ_ _ _=>rfl;have NU:(shC k).length=3:=rfl;have lV:dE ((shC k).map V.c)=false:=rfl
 repeat' first
  |(refine k9 (by decide +kernel) (by decide +kernel) ?_;simp only[lb,mY,ao,Nat.reduceAdd];(repeat' (first | exact trivial | apply And.intro));(all_goals (first | exact Or.inl (by decide +kernel) | refine Or.inr ?_)))
  |(refine BR rfl P1 rfl (λ_=>Zc) ?_)
  |(refine Ze ng ?_ ?_ ?_;(· simp[aw]);(· simp))
  |(refine Dq (by decide +kernel) (hK' _ ?_))
  |(simp only[jy,DW,seval,e0,hz,shV,hst,NU])
 all_goals first
  |(refine ⟨1,_,_,rfl,.inl rfl,?_,?_,?_,?_⟩<;>(simp[aw];done))
  |(refine ⟨2,_,_,rfl,.inr rfl,?_,?_,?_,?_⟩<;>(simp[aw];done))
