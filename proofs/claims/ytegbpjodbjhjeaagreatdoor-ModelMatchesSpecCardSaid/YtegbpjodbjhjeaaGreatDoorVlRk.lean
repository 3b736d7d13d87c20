/- Layer 16: the specification: Facts, Reveals, Raw. -/
import Derived.Test.YtegbpjodbjhjeaaGreatDoorVlRj
set_option linter.all false
namespace Go.Proofs.YtegbpjodbjhjeaaGreatDoor
open Go Go.Vl
open Kp (Pol Ty Ru Qu poC tyC ruC quC)
variable {G:Gl}
set_option maxRecDepth 10000
def rZ (s:Sy) (o:Hd) (t:Tm):List Fa:=if t=o.va then[⟨4,o.ty+1,0⟩] else[]
def uZ (s:Sy) (o:Hd):List Fa:=if knS s o.va=true then[⟨3,o.ty+1,0⟩] else[]
def wa (s:Sy) (o:Hd):List Fa:=uZ s o++s.rs.flatMap (rZ s o)
def LP (s:Sy):List Fa:=s.hs.map (kX s)++((c9 s.its).flatMap (iy s)++s.os.flatMap (wa s))
def rj (l:List Fa):List Fa:=l.foldl ug []
theorem Wc {l m:List Fa}:rj (l++m)=m.foldl ug (rj l):=by unfold rj;rw[jD]
theorem Wd {l:List Fa} {f:Fa}:rj (l++[f])=ug (rj l) f:=by rw[Wc];rfl
theorem We (l:List Fa):(rj l).length<=l.length:=by
 suffices ∀ (l m:List Fa),(l.foldl ug m).length<=m.length+l.length by simpa[rj] using this l []
 intro l;induction l with
 |nil=>intro m;simp
 |cons x l ih=>intro m;have h1:=ih (ug m x);have h2:=Wa (l:=m) (f:=x);simp only[fY,aI];omega
theorem Wg {s:Sy} {o:Hd} {f:Fa}:f∈wa s o↔f∈m7 s o:=by
 unfold wa m7 uZ;rw[bh,bh,j7];refine or_congr Iff.rfl ?_;constructor
 .rintro⟨t,ht,h⟩
  unfold rZ at h;split at h
  .rename_i e
   rw[if_pos (by rw[dN];exact⟨t,ht,dU e⟩)];exact h
  .cases h
 .intro h
  split at h
  .rename_i e
   rw[dN] at e;obtain⟨t,ht,e⟩:=e;exact⟨t,ht,by unfold rZ;rw[if_pos (by simpa using e)];exact h⟩
  .cases h
theorem LQ (s:Sy):rj (LP s)=kP s:=by have h:=Qy (l:=LP s) (m:=[]) List.Pairwise.nil;refine vY h.1 (pK _) λf=>?_;have h2:f∈rj (LP s)↔f∈LP s∨f∈[]:=h.2 f;rw[h2];unfold kP;rw[zB];unfold LP CO;simp only[bh,j7,Wg,eK,kJ]
def nV (b:Bool) (l:List Fa):V:=if b=true then .ow none [] else .c (.sl (l.map faC))
theorem ag0 {b:Bool} {l:List Fa} (h:b=true->l=[]):(nV b l).fz=.c (.sl (l.map faC)):=by
 cases b with
 |false=>rfl
 |true=>rw[h rfl];rfl
theorem qJ {b:Bool} {l:List Fa} {m:Nat}:(nV b l).ltB m=true:=by cases b<;>rfl
theorem NS {b:Bool} {L:List Fa} (h:b=true->L=[]):(nV b (rj L)).fz=.c (.sl ((rj L).map faC)):=ag0 λhb=>by rw[h hb];rfl
def qp:=jj @pkA (jj @ptA @pkS)
def Cf:=jj @pkA @ptA
def Wh:=jj @pkA (jj @ptA @pkH)
def vu:=jj @pkA (jj @ptA @pkT)
set_option maxHeartbeats 8000000 in
theorem yQ {s:Sy} (hS:SyOk s):FnOK Tryz.prog glM 19 [.agg (syC s)] (.c (fsC (kP s))):=by
 have hCl:FnOK Tryz.prog glM 58 [.c (tsC s.its)] (.c (tsC (c9 s.its))):=DN s.its (λt ht=>(hS.iv t ht).1) (by have:=pI hS;omega);have hn:=hS.hn;have WE:=hS.on;have hrn:=hS.rn;have hCs:=nF (λt ht=>(hS.iv t ht).1) (j4 λt ht=>(hS.iv t ht).1).1.st (j4 λt ht=>(hS.iv t ht).1).1.kn;have nr:=hCs.1;have h10:=pI hS;have QD:∀ h∈s.hs,FnOK Tryz.prog glM 25 [.agg (syC s),.agg (tmC h.va)] (i64 (ni s h.va)):=λh hh=>ri hS _ (hS.hv h hh).1 (ci (hS.hv h hh).2.1 (by decide));have put:∀ (l:List Fa) (f:Fa),l.length<=1000000->FnOK Tryz.prog glM 57 [.c (.sl ((rj l).map faC)),.agg (faC f)] (.c (.sl ((rj (l++[f])).map faC))):=λl f h=>by have:=aek (G:=glM) (rj l) f (by have:=We l;omega);rw[Wd];exact this
 have zty:∀ o∈s.os,IntKind.i64.wrap (o.ty+1)=o.ty+1:=λo ho=>by have:=hS.hv o (hS.ov o ho);rw[dM (n:=o.ty+1) (k:=(o.ty+1).toNat) (by omega) (by omega)];omega
 refine bD (rs:=[.tmp 2]) false [] mixed Tryz.func19 rfl rfl rfl rfl (by kernel_rfl) (by simp) rfl rfl ?_;have hz:True:=trivial;simp only[pkA,seval,fsC];refine cm (λx:Nat×Bool=>hdS [(1,.bp 0 0),(3,nV x.2 (rj ((s.hs.map (kX s)).take x.1))),(4,i64 x.1)] [(syC s).map .c]) (λx=>s.hs.length - x.1) (λx=>x.1<=s.hs.length/\(x.2=true->(s.hs.map (kX s)).take x.1=[])) (0,true) ⟨ar _,λ_=>rfl⟩ ?_ ?_
 .refine bT (by simp only[eu,aK,aQ,qJ];rfl) (ar _) (by simp) ?_ ?_
  .simp[FL,aw,nV]
  .simp[BL]
 rintro⟨i,b⟩ ⟨hi,hb⟩ R bN b8 db;simp only at hi hb;have hz:=NS hb;simp only[qp,seval,hsC,aj];refine aJ (λbF=>?_) (λfu=>?_)
 .have bF:i<s.hs.length:=by simpa using bF
  have hw:=wrap_i64 (i+1) (by omega);have ia:∀ K,K (.c (.rp (hdC s.hs[i]) 0))->bK Tryz.prog 32 (.c (.sl (s.hs.map hdC))) (i64 (i:Int)) K:=λK hK=>
   cR ko rfl iT (by decide) (aC i) (c:=hdC s.hs[i]) (by simp[bF]) (ek _) hK
  simp only[qp,seval,hsC,hz];refine ia _ ?_;simp only[Cf,seval,m8];refine ax rfl (QD _ (aH bF)) (λ_=>rfl) ?_;simp only[qp,seval,hsC];refine ia _ ?_;simp only[Wh,seval];refine ax rfl (put ((s.hs.map (kX s)).take i) (kX s s.hs[i]) (by rw[bb,aj];omega)) (λh=>by cases h) ?_;simp only[pkA,seval];refine bN (i+1,false) _ ⟨bF,λh=>by cases h⟩ (by simp only;omega) (bT (by simp only[eu,aK,aQ,qJ];rfl) (ar _) (by simp) ?_ ?_)
  .have e:(s.hs.map (kX s)).take (i+1)=(s.hs.map (kX s)).take i++[kX s s.hs[i]]:=by rw[aR (by simpa using bF)];simp
   simp[FL,aw,hw,e,nV]
  .simp[BL,bxs]
 have:i=s.hs.length:=by simp at fu;omega
 subst this;rw[ey (by simp)] at hz hb ⊢
 simp only[pkA];refine b8 _ _ ?_;simp only[qp,seval,tsC];refine ax rfl hCl (λh=>(by cases h)) ?_;simp only[pkA,seval,tsC];clear bN db b8;clear R;have hbO:=hb;clear hz hb;refine cm (λx:Nat×Bool=>hdS [(1,.bp 0 0),(3,nV x.2 (rj (s.hs.map (kX s)++((c9 s.its).take x.1).flatMap (iy s)))),(5,.c (.sl ((c9 s.its).map tmC))),(6,i64 x.1)] [(syC s).map .c]) (λx=>(c9 s.its).length - x.1) (λx=>x.1<=(c9 s.its).length/\(x.2=true->s.hs.map (kX s)++((c9 s.its).take x.1).flatMap (iy s)=[])) (0,b) ⟨ar _,λh=>by simpa using hbO h⟩ ?_ ?_
 .refine bT (by simp only[eu,aK,aQ,qJ];rfl) (ar _) (by simp) ?_ ?_
  .simp[FL,aw]
  .simp[BL,bxs]
 rintro⟨i,b2⟩ ⟨hi,hb⟩ R bN b8 db;simp only at hi hb;have hz:=NS hb;simp only[Cf,seval,aj];refine aJ (λbF=>?_) (λfu=>?_)
 .have bF:i<(c9 s.its).length:=by simpa using bF
  have hm:(c9 s.its)[i]∈c9 s.its:=aH bF;have hvt:=hCs.2.2.1 _ hm;have hst:=hCs.2.2.2 _ hm;have e:((c9 s.its).take (i+1)).flatMap (iy s)=((c9 s.its).take i).flatMap (iy s)++iy s (c9 s.its)[i]:=by rw[aR bF,jR];simp
  have cH:(((c9 s.its).take i).flatMap (iy s)).length<=10000:=by have:=kF (l:=(c9 s.its).take i) (f:=iy s) (b:=1) (λt _=>by unfold iy;split<;>simp);rw[bb] at this;omega
  have hw:=wrap_i64 (i+1) (by omega);have ia:∀ K,K (.c (.rp (tmC (c9 s.its)[i]) 0))->bK Tryz.prog 33 (.c (.sl ((c9 s.its).map tmC))) (i64 (i:Int)) K:=λK hK=>
   cR dc rfl cV (by decide) (aC i) (c:=tmC (c9 s.its)[i]) (by simp[bF]) (bG _) hK
  generalize (c9 s.its)[i]=t at hm hvt hst e ia ⊢
  simp only[pkA,seval];refine ia _ ?_;have skip:iy s t=[]->∀ fr,fr 1=.bp 0 0->fr 3=nV b2 (rj (s.hs.map (kX s)++((c9 s.its).take i).flatMap (iy s)))->fr 5=.c (.sl ((c9 s.its).map tmC))->fr 6=i64 ((i+1:Nat):Int)->R .normal ⟨fr,bxs [(syC s).map .c],1⟩:=λe' fr f1 f3 f5 f6=>
   bN (i+1,b2) _ ⟨bF,λh=>by rw[e,e',d6];exact hb h⟩ (by simp only;omega) (bT (by simp only[eu,aK,aQ,qJ];rfl) (ar _) (by simp) (by simp[FL,f1,f3,f5,f6,e,e']) (by simp[BL,bxs]))
  by_cases hk:t.kind=3
  .obtain⟨a,b,mI⟩:=rV hvt (.inl hk)
   have hva:bW a=true/\bi a<=900000000:=(by obtain⟨k,n,l⟩:=t;simp only[Tm.l] at mI;subst mI;exact⟨(m6 hvt).1,by simp only[bi,cz] at hst;omega⟩);have hvb:bW b=true/\bi b<=900000000:=(by obtain⟨k,n,l⟩:=t;simp only[Tm.l] at mI;subst mI;exact⟨(m6 hvt).2.1,by simp only[bi,cz] at hst;omega⟩);have ia0:∀ K,K (.c (.rp (tmC a) 0))->bK Tryz.prog 33 (.c (.sl (t.l.map tmC))) (i64 0) K:=λK hK=>
    cR dc rfl cV (by decide) (mG 0) (c:=tmC a) (by rw[mI];rfl) (bG _) hK
   have ia1:∀ K,K (.c (.rp (tmC b) 0))->bK Tryz.prog 33 (.c (.sl (t.l.map tmC))) (i64 1) K:=λK hK=>
    cR dc rfl cV (by decide) (by decide) (c:=tmC b) (by rw[mI];rfl) (bG _) hK
   have GW:Jo t=(dF a&&dF b):=(by unfold Jo;rw[hk,mI];simp);simp only[vu,seval,hk,ah];refine ia _ ?_;simp only[vu,seval,tsC];refine ia0 _ ?_;simp only[vu,seval];refine ax rfl (oZ hva.1) (λ_=>rfl) ?_;cases QN:dF a with
   |false=>simp only[pkA,seval];exact skip (by unfold iy;rw[if_neg (by rw[GW,QN];simp)]) _ rfl rfl rfl (by simp[hw])
   |true=>
   simp only[pkA,seval];refine ia _ ?_;simp only[vu,seval,tsC];refine ia1 _ ?_;simp only[vu,seval];refine ax rfl (oZ hvb.1) (λ_=>rfl) ?_;cases hkb:dF b with
   |false=>simp only[pkA,seval];exact skip (by unfold iy;rw[if_neg (by rw[GW,QN,hkb];simp)]) _ rfl rfl rfl (by simp[hw])
   |true=>
   simp only[qp,seval,hz,ah];refine ia _ ?_;simp only[vu,seval,tsC];refine ia0 _ ?_;simp only[vu,seval];refine ax («as»:=[.agg (syC s),.agg (tmC a)]) rfl (ri hS a hva.1 hva.2) (λ_=>rfl) ?_;simp only[qp,seval,ah];refine ia _ ?_;simp only[vu,seval,tsC];refine ia1 _ ?_;simp only[vu,seval];refine ax («as»:=[.agg (syC s),.agg (tmC b)]) rfl (ri hS b hvb.1 hvb.2) (λ_=>rfl) ?_;simp only[Cf,seval];refine ax rfl (put (s.hs.map (kX s)++((c9 s.its).take i).flatMap (iy s)) ⟨2,ni s a,ni s b⟩ (by rw[aB,aj];omega)) (λh=>by cases h) ?_;simp only[pkA,seval];refine bN (i+1,false) _ ⟨bF,λh=>by cases h⟩ (by simp only;omega) (bT (by simp only[eu,aK,aQ,qJ];rfl) (ar _) (by simp) ?_ ?_)
   .have e':iy s t=[⟨2,ni s a,ni s b⟩]:=by unfold iy;rw[if_pos (by rw[GW,QN,hkb];rfl),mI];rfl
    simp[FL,aw,hw,e,e',nV]
   .simp[BL,bxs]
  .simp only[vu,seval,hk,aO]
   exact skip (by unfold iy;rw[if_neg (by unfold Jo;simp[hk])]) _ rfl rfl rfl (by simp[hw])
 have:i=(c9 s.its).length:=by simp at fu;omega
 subst this;rw[ct] at hz hb ⊢
 simp only[pkA];refine b8 _ _ ?_;simp only[pkA,seval];clear bN db b8;clear R;have nq:((c9 s.its).flatMap (iy s)).length<=10000:=by have:=kF (l:=c9 s.its) (f:=iy s) (b:=1) (λt _=>by unfold iy;split<;>simp);omega
 clear hz;generalize hB:s.hs.map (kX s)++(c9 s.its).flatMap (iy s)=B at hb ⊢
 have hBl:B.length<=20000:=by rw[<- hB,aB,aj];omega
 have JH:LP s=B++s.os.flatMap (wa s):=by rw[<- hB];unfold LP;rw[bU]
 clear nq hB;have hbO:=hb;clear hb;have hq:∀ l:List Hd,l.length<=s.os.length->(l.flatMap (wa s)).length<=20000:=λl hl=>by have:=kF (l:=l) (f:=wa s) (b:=101) (λo _=>by have:=kF (l:=s.rs) (f:=rZ s o) (b:=1) (λt _=>by unfold rZ;split<;>simp);have h2:(uZ s o).length<=1:=(by unfold uZ;split<;>simp);unfold wa;rw[aB];omega);omega
 refine cm (λx:Nat×Bool=>hdS [(1,.bp 0 0),(3,nV x.2 (rj (B++(s.os.take x.1).flatMap (wa s)))),(7,i64 x.1)] [(syC s).map .c]) (λx=>s.os.length - x.1) (λx=>x.1<=s.os.length/\(x.2=true->B++(s.os.take x.1).flatMap (wa s)=[])) (0,b2) ⟨ar _,λh=>by simpa using hbO h⟩ ?_ ?_
 .refine bT (by simp only[eu,aK,aQ,qJ];rfl) (ar _) (by simp) ?_ ?_
  .simp[FL,aw]
  .simp[BL,bxs]
 rintro⟨i,b⟩ ⟨hi,hb⟩ R bN b8 db;simp only at hi hb;have hz:=NS hb;simp only[qp,seval,hsC,aj];refine aJ (λbF=>?_) (λfu=>?_)
 .have bF:i<s.os.length:=by simpa using bF
  have hm:s.os[i]∈s.os:=aH bF;have e:(s.os.take (i+1)).flatMap (wa s)=(s.os.take i).flatMap (wa s)++wa s s.os[i]:=by rw[aR bF,jR];simp
  have hw:=wrap_i64 (i+1) (by omega);have ia:∀ K,K (.c (.rp (hdC s.os[i]) 0))->bK Tryz.prog 32 (.c (.sl (s.os.map hdC))) (i64 (i:Int)) K:=λK hK=>
   cR ko rfl iT (by decide) (aC i) (c:=hdC s.os[i]) (by simp[bF]) (ek _) hK
  have hD:=hq (s.os.take i) (by rw[bb];omega);have hzo:=zty _ hm;have hvo:=hS.hv _ (hS.ov _ hm);generalize s.os[i]=o at hm e ia hzo hvo ⊢
  generalize hDe:B++(s.os.take i).flatMap (wa s)=D;have hDl:D.length<=40000:=by rw[<- hDe,aB];omega
  have e2:B++(s.os.take (i+1)).flatMap (wa s)=D++uZ s o++s.rs.flatMap (rZ s o):=by rw[e,<- bU,hDe];unfold wa;rw[bU]
  have hK1:(uZ s o).length<=1:=by unfold uZ;split<;>simp
  simp only[qp,seval,hsC];refine ia _ ?_;simp only[Cf,seval,m8];refine ax («as»:=[.agg (syC s),.agg (tmC o.va)]) rfl (uQ hS o.va (by omega)) (λ_=>rfl) ?_;simp only[pkA,seval];generalize hQ:RB _ _ _ _ _ _=Q;have inner:∀ (fr:Nat->V) (b':Bool),fr 1=.bp 0 0->fr 3=nV b' (rj (D++uZ s o))->(b'=true->D++uZ s o=[])->fr 7=i64 (i:Int)->Q .normal ⟨fr,bxs [(syC s).map .c],1⟩:=by
   intro fr b' f1 f3 wj f7;subst hQ;simp only[pkA,seval];refine cm (λx:Nat×Bool=>hdS [(1,.bp 0 0),(3,nV x.2 (rj (D++uZ s o++(s.rs.take x.1).flatMap (rZ s o)))),(7,i64 i),(8,i64 x.1)] [(syC s).map .c]) (λx=>s.rs.length - x.1) (λx=>x.1<=s.rs.length/\(x.2=true->D++uZ s o++(s.rs.take x.1).flatMap (rZ s o)=[])) (0,b') ⟨ar _,λh=>by simpa using wj h⟩ ?_ ?_
   .refine bT (by simp only[eu,aK,aQ,qJ];rfl) (ar _) (by simp) ?_ ?_
    .simp[FL,aw,f1,f3,f7]
    .simp[BL,bxs]
   rintro⟨j,b3⟩ ⟨hj,hb3⟩ R2 Cm Ml ahT;simp only at hj hb3;have hz:=NS hb3;simp only[qp,seval,tsC,aj];refine aJ (λkR=>?_) (λMh=>?_)
   .have kR:j<s.rs.length:=by simpa using kR
    have hwj:=wrap_i64 (j+1) (by omega);have e3:(s.rs.take (j+1)).flatMap (rZ s o)=(s.rs.take j).flatMap (rZ s o)++rZ s o s.rs[j]:=(by rw[aR kR,jR];simp);have hst:=(hS.rv _ (aH kR)).2;have hlj:((s.rs.take j).flatMap (rZ s o)).length<=100:=(by have:=kF (l:=s.rs.take j) (f:=rZ s o) (b:=1) (λt _=>by unfold rZ;split<;>simp);rw[bb] at this;omega);have iat:∀ K,K (.c (.rp (tmC s.rs[j]) 0))->bK Tryz.prog 33 (.c (.sl (s.rs.map tmC))) (i64 (j:Int)) K:=λK hK=>
     cR dc rfl cV (by decide) (aC j) (c:=tmC s.rs[j]) (by simp[kR]) (bG _) hK
    generalize s.rs[j]=t at e3 hst iat ⊢
    simp only[qp,seval,tsC];refine iat _ ?_;simp only[pkA,ptA,pkT,pkS,seval,hsC];refine ia _ ?_;simp only[Cf,seval,m8];refine ax rfl (xF t o.va (by omega) (by omega)) (λ_=>rfl) ?_;simp only[pkA,seval];refine aJ (λhy=>?_) (λeX=>?_)
    .have hy:t=o.va:=by simpa using hy
     simp only[qp,seval,hsC,hz];refine ia _ ?_;simp only[Wh,seval,hzo];refine ax rfl (put (D++uZ s o++(s.rs.take j).flatMap (rZ s o)) ⟨4,o.ty+1,0⟩ (by rw[aB,aB];omega)) (λh=>by cases h) ?_;simp only[pkA,seval];refine Cm (j+1,false) _ ⟨kR,λh=>by cases h⟩ (by simp only;omega) (bT (by simp only[eu,aK,aQ,qJ];rfl) (ar _) (by simp) ?_ ?_)
     .have e':rZ s o t=[⟨4,o.ty+1,0⟩]:=by unfold rZ;rw[if_pos hy]
      simp[FL,aw,hwj,e3,e',nV]
     .simp[BL,bxs]
    .have eX:¬ t=o.va:=by simpa using eX
     have e':rZ s o t=[]:=(by unfold rZ;rw[if_neg eX]);simp only[pkA,seval];refine Cm (j+1,b3) _ ⟨kR,λh=>by rw[e3,e',d6];exact hb3 h⟩ (by simp only;omega) (bT (by simp only[eu,aK,aQ,qJ];rfl) (ar _) (by simp) ?_ ?_)
     .simp[FL,aw,hwj,e3,e']
     .simp[BL,bxs]
   .have:j=s.rs.length:=by simp at Mh;omega
    subst this;rw[ct] at hz hb3 ⊢
    simp only[pkA];refine Ml _ _ ?_;simp only[pkA,seval];refine bN (i+1,b3) _ ⟨bF,λh=>by simp only;rw[e2];exact hb3 h⟩ (by simp only;omega) (bT (by simp only[eu,aK,aQ,qJ];rfl) (ar _) (by simp) ?_ ?_)
    .simp[FL,aw,hw,e2]
    .simp[BL,bxs]
  rw[hDe] at hb hz;refine aJ (λhk=>?_) (λhk=>?_)
  .simp only[qp,seval,hsC,hz]
   refine ia _ ?_;simp only[Wh,seval,hzo];refine ax rfl (put D ⟨3,o.ty+1,0⟩ (by omega)) (λh=>by cases h) ?_;simp only[pkA,seval];have e':uZ s o=[⟨3,o.ty+1,0⟩]:=(by unfold uZ;rw[if_pos hk]);exact inner _ false rfl (by simp[e',nV]) (λh=>by cases h) rfl
  .have e':uZ s o=[]:=by unfold uZ;rw[if_neg (by rw[hk];decide)]
   simp only[pkA];exact inner _ b rfl (by simp[aw,e']) (λh=>by rw[e',d6];exact hb h) rfl
 .have:i=s.os.length:=by simp at fu;omega
  subst this;rw[ct] at hz hb ⊢
  simp only[pkA];refine b8 _ _ ?_;simp only[pkA,seval,hz];rw[<- LQ,JH]
theorem Jz {s:Sy} (hS:SyOk s) (k:Int):FnOK Tryz.prog glM 21 [.agg (syC s),i64 k] (bo (CP s 3 k)):=by have:=rf hS;refine bD (rs:=[.tmp 4]) false [] mixed Tryz.func21 rfl rfl rfl rfl (by kernel_rfl) (by simp) rfl rfl ?_;simp only[qp,seval];refine ax rfl (yQ hS) (λh=>(by cases h)) ?_;simp only[Cf,seval];refine ax rfl (Em (kP s) (by omega) ⟨3,k,0⟩) (λ_=>rfl) ?_;simp only[pkA,seval];rfl
theorem ZV {s:Sy} (hS:SyOk s) (k:Int):FnOK Tryz.prog glM 23 [.agg (syC s),i64 k] (bo (CP s 4 k)):=by have:=rf hS;refine bD (rs:=[.tmp 4]) false [] mixed Tryz.func23 rfl rfl rfl rfl (by kernel_rfl) (by simp) rfl rfl ?_;simp only[qp,seval];refine ax rfl (yQ hS) (λh=>(by cases h)) ?_;simp only[Cf,seval];refine ax rfl (Em (kP s) (by omega) ⟨4,k,0⟩) (λ_=>rfl) ?_;simp only[pkA,seval];rfl
