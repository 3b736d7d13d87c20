/- Layer 16: Facts. -/
import Derived.Test.YtegbpjodbjhjeaaGreatDoorVlMg
set_option linter.all false
namespace Go.Proofs.YtegbpjodbjhjeaaGreatDoor
open Go Go.Vl
open Kp (Pol Ty Ru Qu poC tyC ruC quC)
variable {G:Gl}
set_option maxRecDepth 10000
theorem FnOK.toB {P:Program} {G:Gl} {f:FuncId} {args:List V} {r:V} (h:FnOK P G f args r) (ha:args.all (λx=>match x with | .c _=>true | .agg _=>true | _=>false)=true):FnB P G f args [] r []:=by
 rw[a8] at ha;refine⟨h.1,⟨λx hx=>?_,λb hb=>(by cases hb),ai _⟩,λI M w vs β ob hI hg hB hs hv=>(h.2 I w vs hI hg hs (λj x hx=>?_)).mono ?_⟩
 .have:=ha x hx
  cases x<;>first | trivial | cases this
 .have h1:=ha x (bn hx)
  have h2:=hv j x hx;cases x<;>first | exact h2 | cases h1
 .rintro e w' ⟨v,I',h1,h2,h3,h4,o,h5,h6⟩
  refine⟨v,I',λ_=>none,λ_ _=>none,o,h1,⟨h2.os,h2.tape,h2.output,h2.size,λk hk _=>h2.block k hk (by simp),h2.drawn⟩,h3,λb o xW=>(h4 b o xW).imp id λh=>⟨.inl h.1,h.2⟩,λb o xW=>?_,λi hi=>(by cases hi),λi b _ hb=>(by cases hb),
   ⟨λi cs ju=>by simp at ju,λ_ _=>rfl,λ_ _ _ h=>(by cases h),λ_ _ _ _ _ h=>(by cases h),λ_ _ _ _ h=>(by cases h),λ_ _ _ h=>(by cases h),λ_ _ _=>rfl⟩,h5.wider λb hb=>.inl (h6 b hb).1,λb hb=>⟨⟨(h6 b hb).2,.inl (h6 b hb).1⟩,λ_ _ h=>(by cases h),λ_ h=>(by cases h)⟩⟩
  have hb:=hI b o xW;exact eQ (h2.block b hb (by simp))
theorem ad5 {P:Program} {G:Gl} {s:Vl.S} {T e:TypeId} {i j:TI} {sz:Nat} {E:Option (TypeId×Nat)} {es:List (List C)} {K:V->Prop} {t d:Nat} {y:Operand} {y1:List C} {by_:Nat} {z:List C} (hT:ti P T=some i) (hk:i.kd=.slice e) (hE:ti P e=some j) (hs:j.size=sz) (hb:j.bytes=by_) (hz:j.zero=some z) (hp:0<sz) (zL:z.length=sz) (h1:s.fr t=.gs none E es)
 (h0:t≠d/\y≠.tmp t) (hy:(vw s (ev G s y)).fz=.c (.sl [y1])) (hEE:E=none∨E=some (e,sz)) (qM:∀ x∈es,x.length=sz) (JD:y1.length=sz) (hm:(es.length+1)*by_<=140737488355328) (hm2:es.length+1<=9223372036854775807)
 (hK:K (.gs none (some (e,sz)) (es++[y1]))):jl P G s (some d) [T,T] [.tmp t,y] K:=by
 obtain⟨kd',a1,a2,a3,a4,a5,a6⟩:=i;simp only at hk;subst hk;obtain⟨b0,b1,b2,b3,b4,b5,b6⟩:=j;simp only at hs hb hz;subst hs;subst hb;subst hz;unfold jl;simp only[h1];refine⟨h0,?_⟩;rw[hy];simp only[nn,hT,hE];exact⟨trivial,⟨hp,zL,hEE,qM⟩,⟨hm,hm2,JD⟩,hK⟩
def gsF (L:List Fa):V:=.gs none (if L.isEmpty=true then none else some (62,3)) (L.map faC)
theorem l7 {L:List Fa}:(gsF L).isOw=true:=rfl
theorem VN {L:List Fa} {f:Fa}:V.gs none (some (62,3)) (L.map faC++[faC f])=gsF (L++[f]):=by unfold gsF;rw[if_neg (by simp)];simp
def kX (s:Sy) (h:Hd):Fa:=⟨1,ni s h.va,h.ty⟩
def Jo (t:Tm):Bool:=decide (t.kind=3)&&(dF (t.l.getD 0 gV)&&dF (t.l.getD 1 gV))
def iy (s:Sy) (t:Tm):List Fa:=if Jo t=true then[⟨2,ni s (t.l.getD 0 gV),ni s (t.l.getD 1 gV)⟩] else[]
def m7 (s:Sy) (o:Hd):List Fa:=(if knS s o.va=true then[⟨3,o.ty+1,0⟩] else[])++(if s.rs.any (λt=>decide (t=o.va))=true then[⟨4,o.ty+1,0⟩] else[])
def CO (s:Sy):List Fa:=s.hs.map (kX s)++((c9 s.its).flatMap (iy s)++s.os.flatMap (m7 s))
def kP (s:Sy):List Fa:=qm (CO s)
theorem m8 {fr:Nat->V} {bx:Nat->List V} {nb:Nat} {o:Hd} {K:V->Prop}:dJ Tryz.prog 47 ⟨fr,bx,nb⟩ (.c (.rp (hdC o) 1)) K=K (.agg (tmC o.va)):=by simp only[dJ,cV];exact agu
def zC:=jj @pkA (jj @ptA @pkT)
theorem Qn (t:Tm) (o:Hd) (ht:bi t<=1000000000) (ho:bi o.va<=1000000000):FnOK Tryz.prog G 51 [.agg (tmC t),.c (.rp (hdC o) 0)] (bo (decide (t=o.va))):=by refine bD (rs:=[.tmp 3]) false [] mixed Tryz.func51 rfl rfl rfl rfl (by kernel_rfl) (by simp) rfl rfl ?_;simp -implicitDefEqProofs only[zC,seval,m8];refine ax («as»:=[.agg (tmC t),.agg (tmC o.va)]) rfl (uM t o.va ht ho) (λ_=>rfl) ?_;simp -implicitDefEqProofs only[pkA,seval]
theorem NH {P:Program} {G:Gl} {s:Vl.S} {f:V} {args all cargs:List V} {g:FuncId} {K:Vl.S->V->Prop} {r:V} {c0 c1:List C} (q:Nat) (hc:eB f args=some (g,all)) (hf:FnB P G g cargs [c0.map .c] r [c1.map .c])
 (dC:all.map V.fz=cargs.map (V.ren (rho [q] s.nb))) (hq:q<s.nb) (hb:s.bx q=c0.map .c) (hK:K ⟨s.fr,up s.bx q (c1.map .c),s.nb⟩ (r.ren (rho [q] s.nb))):vcallB P G s f args K:=by
 have hm:∀ (ρ:Nat->Nat) (l:List C),(l.map V.c).map (V.ren ρ)=l.map .c:=λρ l=>by rw[jE];rfl
 have h0:rho [q] s.nb 0=q:=rfl;unfold vcallB jX;simp only[hc];refine⟨[q],cargs,[c0.map .c],r,[c1.map .c],hf,dC,⟨rfl,by simp⟩,⟨⟨by rw[h0];exact hq,by rw[h0,hm];exact hb⟩,trivial⟩,?_⟩;have e:fC (rho [q] s.nb) 0 [c1.map .c] s.bx=up s.bx q (c1.map .c):=by simp only[fC,hm,h0]
 rw[e];exact hK
theorem Jp {c:Prop} [Decidable c] {A B:Prop} (hc:c) (h:A):(if c then A else B):=by rw[if_pos hc];exact h
theorem xE {s:Vl.S} {L:List Fa} {f:Fa} {t d:Nat} {y:Operand} {K:V->Prop} (h1:s.fr t=gsF L) (h0:t≠d/\y≠.tmp t) (hy:(vw s (ev G s y)).fz=.c (.sl [faC f])) (hl:L.length<=1000000) (hK:K (gsF (L++[f]))) :
 jl Tryz.prog G s (some d) [43,43] [.tmp t,y] K:=by
 refine ad5 (E:=if L.isEmpty=true then none else some (62,3)) (es:=L.map faC) (y1:=faC f) (sz:=3) (by_:=24) kD rfl jb rfl rfl rfl (by decide) rfl h1 h0 hy ?_ (λx hx=>by obtain⟨y,_,rfl⟩:=ce.1 hx;exact iZ y) (iZ f) (by rw[aj];omega) (by rw[aj];omega) ?_
 .split
  .exact .inl rfl
  .exact .inr rfl
 .rw[VN];exact hK
theorem kF {α β:Type} {f:α->List β} {b:Nat}:∀ {l:List α},(∀ x∈l,(f x).length<=b)->(l.flatMap f).length<=l.length*b
 |[],_=>by simp
 |x::l,h=>by rw[List.flatMap_cons,aB,aI,dX];have h1:=h x (aX ..);have h2:=kF (l:=l) λy hy=>h y (aT _ hy);omega
def Jq:=jj @pkA (jj @ptA @pkS)
def aaM:=jj @pkA (jj @ptA (jj @pkH @pkS))
def NI:=jj @pkA (jj @ptA @pkH)
def aaN:=jj @pkA @ptA
def aaO:=jj @pkA (jj @ptA (jj @pkT @pkS))
set_option maxHeartbeats 4000000 in
theorem uc {s:Sy} (hS:SyOk s):FnOK Tryz.prog glM 18 [.agg (syC s)] (.c (fsC (kP s))):=by
 have hCl:FnOK Tryz.prog glM 47 [.c (tsC s.its)] (.c (tsC (c9 s.its))):=upM (U4 s.its (λt ht=>(hS.iv t ht).1) (by have:=pI hS;omega));have hn:=hS.hn;have QD:∀ h∈s.hs,FnOK Tryz.prog glM 24 [.agg (syC s),.agg (tmC h.va)] (i64 (ni s h.va)):=λh hh=>om hS _ (hS.hv h hh).1 (ci (hS.hv h hh).2.1 (by decide));refine bD (rs:=[.tmp 2]) true [17,53,82,93,2400026,2400068,2400088,2400099,2300002,2300021,1000102,1000104] mixed Tryz.func18 rfl rfl rfl rfl (by kernel_rfl) (by simp) rfl rfl ?_;simp -implicitDefEqProofs only[pkA,seval];refine Bg rfl (.warmT 3 (by simp[]) (.done ?_));simp -implicitDefEqProofs only[Jq,seval,hsC,aj];refine cm (λi:Nat=>hdS [(1,.bp 0 0),(3,gsF ((s.hs.map (kX s)).take i)),(11,.c (.sl (s.hs.map hdC))),(12,i64 s.hs.length),(13,i64 i)] [(syC s).map .c]) (λi=>s.hs.length - i) (λi=>i<=s.hs.length) 0 (ar _) ?_ ?_
 .refine bT rfl (ar _) (by simp) ?_ ?_
  .simp[FL,aw,gsF]
  .simp[BL]
 .intro i hi R bN b8 db
  simp -implicitDefEqProofs only[pkA,seval];refine aJ (λbF=>?_) (λfu=>?_)
  .have bF:i<s.hs.length:=by simpa using bF
   simp -implicitDefEqProofs only[pkA,seval];refine cR ko rfl iT (by decide) (aC i) (c:=hdC s.hs[i]) (by simp[bF]) (ek _) ?_;simp -implicitDefEqProofs only[aaM,seval,l7,ek];refine ax rfl (QD _ (aH bF)) (λ_=>rfl) ?_;simp -implicitDefEqProofs only[NI,seval];refine Jp rfl ?_;refine xE (L:=(s.hs.map (kX s)).take i) (f:=kX s s.hs[i]) (by simp[aw]) ⟨by decide,by simp⟩ rfl (by rw[bb,aj];omega) ?_;simp -implicitDefEqProofs only[pkA,seval,l7];have hw:=wrap_i64 (i+1) (by omega);refine bN (i+1) _ bF (by omega) (bT rfl (ar _) (by simp) ?_ ?_)
   .have e:(s.hs.map (kX s)).take (i+1)=(s.hs.map (kX s)).take i++[kX s s.hs[i]]:=by rw[aR (by simpa using bF)];simp
    simp[FL,aw,hw,e]
   .simp[BL,aw,bxs]
  .have:i=s.hs.length:=by simp at fu;omega
   subst this;rw[ey (by simp)];simp -implicitDefEqProofs only[pkA];refine b8 _ _ ?_;simp -implicitDefEqProofs only[Jq,seval];refine ax rfl hCl (λh=>(by cases h)) ?_;simp -implicitDefEqProofs only[pkA,seval];clear bN db b8;clear R;have hCs:=nF (λt ht=>(hS.iv t ht).1) (j4 λt ht=>(hS.iv t ht).1).1.st (j4 λt ht=>(hS.iv t ht).1).1.kn;have nr:=hCs.1;have h10:=pI hS;simp -implicitDefEqProofs only[aaN,seval,tsC,aj];refine cm (λi:Nat=>hdS [(1,.bp 0 0),(3,gsF (s.hs.map (kX s)++((c9 s.its).take i).flatMap (iy s))),(30,.c (.sl ((c9 s.its).map tmC))),(31,i64 (c9 s.its).length),(32,i64 i)] [(syC s).map .c]) (λi=>(c9 s.its).length - i) (λi=>i<=(c9 s.its).length) 0 (ar _) ?_ ?_
   .refine bT rfl (ar _) (by simp) ?_ ?_
    .simp[FL,aw]
    .simp[BL,bxs]
   .intro i hi R bN b8 db
    simp -implicitDefEqProofs only[pkA,seval];refine aJ (λbF=>?_) (λfu=>?_)
    .have bF:i<(c9 s.its).length:=by simpa using bF
     have hm:(c9 s.its)[i]∈c9 s.its:=aH bF;have hvt:=hCs.2.2.1 _ hm;have hst:=hCs.2.2.2 _ hm;have e:((c9 s.its).take (i+1)).flatMap (iy s)=((c9 s.its).take i).flatMap (iy s)++iy s (c9 s.its)[i]:=(by rw[aR bF,jR];simp);have cH:(((c9 s.its).take i).flatMap (iy s)).length<=10000:=(by have:=kF (l:=(c9 s.its).take i) (f:=iy s) (b:=1) (λt _=>by unfold iy;split<;>simp);rw[bb] at this;omega);have hw:=wrap_i64 (i+1) (by omega);simp -implicitDefEqProofs only[pkA,seval];refine cR dc rfl cV (by decide) (aC i) (c:=tmC (c9 s.its)[i]) (by simp[bF]) (bG _) ?_;generalize (c9 s.its)[i]=t at hm hvt hst e ⊢
     simp -implicitDefEqProofs only[zC,seval];by_cases hk:t.kind=3
     .obtain⟨a,b,mI⟩:=rV hvt (.inl hk)
      have hva:bW a=true/\bi a<=1000000000:=(by obtain⟨k,n,l⟩:=t;simp only[Tm.l] at mI;subst mI;exact⟨(m6 hvt).1,by simp only[bi,cz] at hst;omega⟩);have hvb:bW b=true/\bi b<=1000000000:=(by obtain⟨k,n,l⟩:=t;simp only[Tm.l] at mI;subst mI;exact⟨(m6 hvt).2.1,by simp only[bi,cz] at hst;omega⟩);have ia0:∀ K,K (.c (.rp (tmC a) 0))->bK Tryz.prog 33 (.c (.sl (t.l.map tmC))) (i64 0) K:=λK hK=>
       cR dc rfl cV (by decide) (mG 0) (c:=tmC a) (by rw[mI];rfl) (bG _) hK
      have ia1:∀ K,K (.c (.rp (tmC b) 0))->bK Tryz.prog 33 (.c (.sl (t.l.map tmC))) (i64 1) K:=λK hK=>
       cR dc rfl cV (by decide) (by decide) (c:=tmC b) (by rw[mI];rfl) (bG _) hK
      have GW:Jo t=(dF a&&dF b):=(by unfold Jo;rw[hk,mI];simp);simp -implicitDefEqProofs only[zC,seval,tsC,hk,ah];refine ia0 _ ?_;simp -implicitDefEqProofs only[zC,seval];refine ax rfl (xd a) (λ_=>rfl) ?_;cases QN:dF a with
      |false=>
       simp -implicitDefEqProofs only[pkA,seval];refine bN (i+1) _ bF (by omega) (bT rfl (ar _) (by simp) ?_ ?_)
       .have e':iy s t=[]:=by unfold iy;rw[if_neg (by rw[GW,QN];simp)]
        simp[FL,aw,hw,e,e']
       .simp[BL,aw,bxs]
      |true=>
       simp -implicitDefEqProofs only[zC,seval,tsC,ah];refine ia1 _ ?_;simp -implicitDefEqProofs only[zC,seval];refine ax rfl (xd b) (λ_=>rfl) ?_;cases hkb:dF b with
       |false=>
        simp -implicitDefEqProofs only[pkA,seval];refine bN (i+1) _ bF (by omega) (bT rfl (ar _) (by simp) ?_ ?_)
        .have e':iy s t=[]:=by unfold iy;rw[if_neg (by rw[GW,QN,hkb];simp)]
         simp[FL,aw,hw,e,e']
        .simp[BL,aw,bxs]
       |true=>
        simp -implicitDefEqProofs only[aaO,seval,l7,tsC,ah];refine ia0 _ ?_;simp -implicitDefEqProofs only[zC,seval];refine ax rfl (om hS a hva.1 hva.2) (λ_=>rfl) ?_;simp -implicitDefEqProofs only[aaO,seval,tsC,ah];refine ia1 _ ?_;simp -implicitDefEqProofs only[zC,seval];refine ax rfl (om hS b hvb.1 hvb.2) (λ_=>rfl) ?_;simp -implicitDefEqProofs only[aaN,seval];refine Jp rfl ?_;refine xE (L:=s.hs.map (kX s)++((c9 s.its).take i).flatMap (iy s)) (f:=⟨2,ni s a,ni s b⟩) (by simp[aw]) ⟨by decide,by simp⟩ rfl (by rw[aB,aj];omega) ?_;simp -implicitDefEqProofs only[pkA,seval,l7];refine bN (i+1) _ bF (by omega) (bT rfl (ar _) (by simp) ?_ ?_)
        .have e':iy s t=[⟨2,ni s a,ni s b⟩]:=by unfold iy;rw[if_pos (by rw[GW,QN,hkb];rfl),mI];rfl
         simp[FL,aw,hw,e,e']
        .simp[BL,aw,bxs]
     .have GW:Jo t=false:=by unfold Jo;simp[hk]
      simp -implicitDefEqProofs only[pkA,seval,aO,hk];refine bN (i+1) _ bF (by omega) (bT rfl (ar _) (by simp) ?_ ?_)
      .have e':iy s t=[]:=by unfold iy;rw[if_neg (by rw[GW];simp)]
       simp[FL,aw,hw,e,e']
      .simp[BL,aw,bxs]
    .have:i=(c9 s.its).length:=by simp at fu;omega
     subst this;rw[ey (ai _)];simp -implicitDefEqProofs only[pkA];refine b8 _ _ ?_;simp -implicitDefEqProofs only[Jq,seval,hsC,aj,ah,aj];clear bN db b8;clear R;have CW:s.os.length<=100:=(by have:=hS.on;omega);have Az:s.rs.length<=100:=(by have:=hS.rn;omega);have hl2:((c9 s.its).flatMap (iy s)).length<=10000:=(by have:=kF (l:=c9 s.its) (f:=iy s) (b:=1) (λt _=>by unfold iy;split<;>simp);omega);refine cm (λi:Nat=>hdS [(1,.bp 0 0),(3,gsF (s.hs.map (kX s)++((c9 s.its).flatMap (iy s)++(s.os.take i).flatMap (m7 s)))),(71,.c (.sl (s.os.map hdC))),(72,i64 s.os.length),(73,i64 i)] [(syC s).map .c]) (λi=>s.os.length - i) (λi=>i<=s.os.length) 0 (ar _) ?_ ?_
     .refine bT rfl (ar _) (by simp) ?_ ?_
      .simp[FL,aw]
      .simp[BL,bxs]
     .intro i hi R bN b8 db
      simp -implicitDefEqProofs only[pkA,seval];refine aJ (λbF=>?_) (λfu=>?_)
      .have bF:i<s.os.length:=by simpa using bF
       have hv:=hS.hv _ (hS.ov _ (aH bF));have e:(s.os.take (i+1)).flatMap (m7 s)=(s.os.take i).flatMap (m7 s)++m7 s s.os[i]:=(by rw[aR bF,jR];simp);have cH:((s.os.take i).flatMap (m7 s)).length<=200:=(by have:=kF (l:=s.os.take i) (f:=m7 s) (b:=2) (λt _=>by unfold m7;split<;>split<;>simp);rw[bb] at this;omega);have hw:=wrap_i64 (i+1) (by omega);have hwo:IntKind.i64.wrap (s.os[i].ty+1)=s.os[i].ty+1:=wrap_i64 _ (by omega);have hCF:=Ag (G:=glM) (caps:=[.rp (hdC s.os[i]) 0]) s.rs (by omega) 51 (λt=>decide (t=s.os[i].va)) (λt ht=>Qn t s.os[i] (ci (hS.rv t ht).2 (by decide)) (ci hv.2.1 (by decide)));simp -implicitDefEqProofs only[pkA,seval];refine cR ko rfl iT (by decide) (aC i) (c:=hdC s.os[i]) (by simp[bF]) (ek _) ?_;simp -implicitDefEqProofs only[aaM,seval,ek,tsC];refine ax rfl (Av hS _ hv.1 (ci hv.2.1 (by decide))) (λ_=>rfl) ?_;cases WW:knS s s.os[i].va with
       |false=>
        simp -implicitDefEqProofs only[Jq,seval,tsC,ah];refine ax («as»:=[.c (.sl (s.rs.map tmC)),.c (.fn (.func 51) [] [.rp (hdC s.os[i]) 0])]) rfl hCF (λ_=>rfl) ?_;cases hrw:s.rs.any (λt=>decide (t=s.os[i].va)) with
        |false=>
         simp -implicitDefEqProofs only[pkA,seval];refine bN (i+1) _ bF (by omega) (bT rfl (ar _) (by simp) ?_ ?_)
         .simp[FL,aw,hw,e,m7,WW,hrw]
         .simp[BL,aw,bxs]
        |true=>
         simp -implicitDefEqProofs only[NI,seval,l7,hwo,ah];refine Jp rfl ?_;refine xE (L:=s.hs.map (kX s)++((c9 s.its).flatMap (iy s)++(s.os.take i).flatMap (m7 s))) (f:=⟨4,s.os[i].ty+1,0⟩) (by simp[aw]) ⟨by decide,by simp⟩ rfl (by simp only[aB,aj];omega) ?_;simp -implicitDefEqProofs only[pkA,seval,l7];refine bN (i+1) _ bF (by omega) (bT rfl (ar _) (by simp) ?_ ?_)
         .simp[FL,aw,hw,e,m7,WW,hrw]
         .simp[BL,aw,bxs]
       |true=>
        simp -implicitDefEqProofs only[NI,seval,l7,hwo,ah];refine Jp rfl ?_;refine xE (L:=s.hs.map (kX s)++((c9 s.its).flatMap (iy s)++(s.os.take i).flatMap (m7 s))) (f:=⟨3,s.os[i].ty+1,0⟩) (by simp[aw]) ⟨by decide,by simp⟩ rfl (by simp only[aB,aj];omega) ?_;simp -implicitDefEqProofs only[Jq,seval,l7,tsC,ah];refine ax («as»:=[.c (.sl (s.rs.map tmC)),.c (.fn (.func 51) [] [.rp (hdC s.os[i]) 0])]) rfl hCF (λ_=>rfl) ?_;cases hrw:s.rs.any (λt=>decide (t=s.os[i].va)) with
        |false=>
         simp -implicitDefEqProofs only[pkA,seval];refine bN (i+1) _ bF (by omega) (bT rfl (ar _) (by simp) ?_ ?_)
         .simp[FL,aw,hw,e,m7,WW,hrw]
         .simp[BL,aw,bxs]
        |true=>
         simp -implicitDefEqProofs only[NI,seval,l7,hwo,ah];refine Jp rfl ?_;refine xE (L:=(s.hs.map (kX s)++((c9 s.its).flatMap (iy s)++(s.os.take i).flatMap (m7 s)))++[⟨3,s.os[i].ty+1,0⟩]) (f:=⟨4,s.os[i].ty+1,0⟩) (by simp[aw]) ⟨by decide,by simp⟩ rfl (by simp only[aB,aj,aI,aL];omega) ?_;simp -implicitDefEqProofs only[pkA,seval,l7];refine bN (i+1) _ bF (by omega) (bT rfl (ar _) (by simp) ?_ ?_)
         .simp[FL,aw,hw,e,m7,WW,hrw]
         .simp[BL,aw,bxs]
      .have:i=s.os.length:=by simp at fu;omega
       subst this;rw[ey (ai _)];simp -implicitDefEqProofs only[pkA];refine b8 _ _ ?_;simp -implicitDefEqProofs only[pkA,seval];have NU:(CO s).length<=20000:=(by have h3:=kF (l:=s.os) (f:=m7 s) (b:=2) (λt _=>by unfold m7;split<;>split<;>simp);unfold CO;simp only[aB,aj];omega);unfold kP;have sU:s.hs.map (kX s)++((c9 s.its).flatMap (iy s)++s.os.flatMap (m7 s))=CO s:=rfl;rw[sU];generalize CO s=L at NU;by_cases hL:L=[]
       .subst hL
        refine Bg rfl (.coolT (g:=none) (E:=none) (es:=[]) 3 rfl (.done ?_));simp -implicitDefEqProofs only[pkA,seval];refine yw rfl (FnOK.toB Qm rfl) rfl ?_;simp -implicitDefEqProofs only[pkA,seval,fC,en,V.ren];refine yw rfl (FnOK.toB Jm rfl) rfl ?_;simp -implicitDefEqProofs only[pkA,seval,fC,en,V.ren];have h0:qm []=[]:=(by simp[qm,oM,iI,cpk]);rw[Fh,h0];rfl
       .have uS:L.isEmpty=false:=by simpa using hL
        refine Bg rfl (.boxT (g:=none) (e:=62) (sz:=3) (es:=L.map faC) 3 (by show gsF L=_;unfold gsF;rw[uS];rfl) (.done ?_));have nq:(L.map faC).flatten.map V.c=flb faC L:=rfl;simp -implicitDefEqProofs only[pkA,seval,aj,nq];refine NH (c0:=(L.map faC).flatten) (c1:=((oM L).map faC).flatten) 1 rfl (VK Jk L (by omega) L.length (ai _)) rfl (ae rfl) rfl ?_;simp -implicitDefEqProofs only[pkA,seval,V.ren];have hC:=LL (G:=glM) (oM L) L.length (by rw[rb];exact ai _) (by rw[rb];omega);rw[rb] at hC;refine NH (c0:=((oM L).map faC).flatten) (c1:=((iI (oM L)++List.replicate (L.length - (iI (oM L)).length) zf).map faC).flatten) 1 rfl hC rfl (ae rfl) rfl ?_;simp -implicitDefEqProofs only[pkA,seval,V.ren,Fh];show Option.map V.c (mi _ _ _ _ _)=some _;rw[Po (c:=faC) (l:=iI (oM L)++List.replicate (L.length - (iI (oM L)).length) zf) (a:=0) iZ (ae rfl) (by rfl) rfl (by simp)];simp only[eZ,List.take_left];rfl
