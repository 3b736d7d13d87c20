/- Layer 16: the specification: what a call makes. -/
import Derived.Test.YtegbpjodbjhjeaaGreatDoorVlRd
set_option linter.all false
namespace Go.Proofs.YtegbpjodbjhjeaaGreatDoor
open Go Go.Vl
open Kp (Pol Ty Ru Qu poC tyC ruC quC)
set_option maxRecDepth 10000
def rsC (r:Rs):List C:=[.lit (.bool r.handle),cI r.h.ty,cI r.h.va.kind,cI r.h.va.n,tsC r.h.va.l,cI r.item.kind,cI r.item.n,tsC r.item.l,cI r.e]
theorem Qv {t y:Tm} (h:bW t=true) (hy:y∈t.l):bW y=true:=by obtain⟨k,n,l⟩:=t;exact(fe h).2.2.2 y hy
theorem ld9 {nb q:Nat} {l:List V} {r:Rs} (hq:q<nb) (h1:((l.drop 0).take 9).length=9/\((l.drop 0).take 9).all V.isPO=true) (h2:zQ (((l.drop 0).take 9).map V.fz)=.agg (rsC r)):ldA nb q l 0 9 (λu=>u=.agg (rsC r)):=by unfold ldA;exact⟨hq,h1,h2⟩
def kG:=jj @pkA @ptA
def pO:=jj @pkA (jj @ptA (jj @pkS @Cd))
def kH:=jj @pkA (jj @ptA @pkT)
def NP:=jj @pkA (jj @ptA (jj @Cd @pkT))
def uf:=jj @pkA (jj @ptA (jj @pkS (jj @Cd @pkT)))
def aa1:=jj @pkA (jj @ptA (jj @pkT @pkH))
set_option maxHeartbeats 16000000 in
theorem V6 {p:Pol} {s:Sy} {c:Cl} (hp:POk p) (hS:SyOk s) (hf:m9 p s c=true):FnOK Tryz.prog glM 38 [.agg (poC p),.agg (syC s),.agg (clC c)] (.agg (rsC (fD p s c c.kind.toNat))):=by
 have hk:=LO hf;have hF:=GF hf;obtain⟨k,a,b,m,t⟩:=c;simp only at hk hF ⊢
 have c0:∀ (k:Int) nb q K,ldB nb q ((clC ⟨k,a,b,m,t⟩).map V.c) 0 K=(q<nb/\K (i64 k)):=λ_ _ _ _=>rfl;have c1:∀ (k:Int) nb q K,ldB nb q ((clC ⟨k,a,b,m,t⟩).map V.c) 1 K=(q<nb/\K (i64 a)):=λ_ _ _ _=>rfl;have c2:∀ (k:Int) nb q K,ldB nb q ((clC ⟨k,a,b,m,t⟩).map V.c) 2 K=(q<nb/\K (i64 b)):=λ_ _ _ _=>rfl;have c3:∀ (k:Int) nb q K,ldB nb q ((clC ⟨k,a,b,m,t⟩).map V.c) 3 K=(q<nb/\K (i64 m)):=λ_ _ _ _=>rfl;have c4:∀ (k:Int) nb q K,ldB nb q ((clC ⟨k,a,b,m,t⟩).map V.c) 4 K=(q<nb/\K (i64 t)):=λ_ _ _ _=>rfl;have may:=λ(k a b:Int)=>NK (G:=glM) p k a b (by have:=hp.r;omega);refine bD (rs:=[.cell 6 71]) false [] mixed Tryz.func38 rfl rfl rfl rfl (by kernel_rfl) (by simp) rfl rfl ?_;rcases hk with rfl | rfl | rfl | rfl | rfl | rfl | rfl | rfl | rfl | rfl | rfl | rfl | rfl | rfl | rfl | rfl
 .have hu:usL.getD 1 us0=usL.getD 1 us0:=rfl
  conv at hu=>rhs;simp only[usL,us0,bg,bA]
  have uses:=im (G:=glM) 1 (by decide);simp only[kG,↓reduceIte,Nat.reduceEqDiff,Nat.reduceAdd,Nat.reduceMul,Nat.reduceLT,c0,ah];refine ax rfl uses (λ_=>rfl) ?_;simp only[pO,↓reduceIte,Nat.reduceEqDiff,Nat.reduceAdd,Nat.reduceMul,Nat.reduceLT,Nat.reduceLeDiff,c0,c4,ah,hu];have hC:fD p s ⟨1,a,b,m,t⟩ (Int.toNat 1)=rsH t (.mk 2 s.fresh []):=by show rsH _ _=_;rfl
  rw[hC]
  first | exact⟨rfl,ld9 (by decide) ⟨rfl,rfl⟩ rfl⟩ | exact⟨rfl,rfl,ld9 (by decide) ⟨rfl,rfl⟩ rfl⟩
 .have hu:usL.getD 2 us0=usL.getD 2 us0:=rfl
  conv at hu=>rhs;simp only[usL,us0,bg,bA]
  have uses:=im (G:=glM) 2 (by decide);simp only[Int.reduceToNat,gC,aA] at hF;obtain⟨xm,em⟩:=fA hF.1;have hm:iAt s m=xm:=by unfold iAt;rw[em];rfl
  simp only[kG,↓reduceIte,Nat.reduceEqDiff,Nat.reduceAdd,Nat.reduceMul,Nat.reduceLT,c0,ah];refine ax rfl uses (λ_=>rfl) ?_;simp only[pO,↓reduceIte,Nat.reduceEqDiff,Nat.reduceAdd,Nat.reduceMul,Nat.reduceLT,Nat.reduceLeDiff,tsC,c3,ah,hu];refine kQ em ?_;simp only[kH,↓reduceIte,Nat.reduceEqDiff,Nat.reduceAdd,Nat.reduceMul,Nat.reduceLT,Nat.reduceLeDiff,c0,c4,Int.reduceEq,ah,aO];have hC:fD p s ⟨2,a,b,m,t⟩ (Int.toNat 2)=rsH t xm:=by show rsH _ _=_;rw[hm]
  rw[hC];refine kO (cs:=rsC (rsH t xm)) (by rw[fx];rfl) ?_;simp only[kG,↓reduceIte,Nat.reduceEqDiff,Nat.reduceAdd,Nat.reduceMul,Nat.reduceLT,Nat.reduceLeDiff,ah]
  first | exact⟨rfl,ld9 (by decide) ⟨rfl,rfl⟩ rfl⟩ | exact⟨rfl,rfl,ld9 (by decide) ⟨rfl,rfl⟩ rfl⟩
 .have hu:usL.getD 3 us0=usL.getD 3 us0:=rfl
  conv at hu=>rhs;simp only[usL,us0,bg,bA]
  have uses:=im (G:=glM) 3 (by decide);simp only[Int.reduceToNat,gC] at hF;obtain⟨xa,ea⟩:=fA hF;have ha:hAt s a=xa:=by unfold hAt;rw[ea];rfl
  simp only[kG,↓reduceIte,Nat.reduceEqDiff,Nat.reduceAdd,Nat.reduceMul,Nat.reduceLT,c0,ah];refine ax rfl uses (λ_=>rfl) ?_;simp only[pO,↓reduceIte,Nat.reduceEqDiff,Nat.reduceAdd,Nat.reduceMul,Nat.reduceLT,Nat.reduceLeDiff,hsC,c1,ah,hu];refine kV ea ?_;simp only[NP,↓reduceIte,Nat.reduceEqDiff,Nat.reduceAdd,Nat.reduceMul,Nat.reduceLT,Nat.reduceLeDiff,m8,c0,Int.reduceEq,ah,aO];have hC:fD p s ⟨3,a,b,m,t⟩ (Int.toNat 3)=rsI xa.va:=by show rsI _=_;rw[ha]
  rw[hC];rw[fx];exact⟨rfl,rfl,ld9 (by decide) ⟨rfl,rfl⟩ rfl⟩
 .have hu:usL.getD 4 us0=usL.getD 4 us0:=rfl
  conv at hu=>rhs;simp only[usL,us0,bg,bA]
  have uses:=im (G:=glM) 4 (by decide);simp only[Int.reduceToNat,gC,aA] at hF;obtain⟨xa,ea⟩:=fA hF.1;have ha:hAt s a=xa:=by unfold hAt;rw[ea];rfl
  obtain⟨xm,em⟩:=fA hF.2;have hm:iAt s m=xm:=by unfold iAt;rw[em];rfl
  simp only[kG,↓reduceIte,Nat.reduceEqDiff,Nat.reduceAdd,Nat.reduceMul,Nat.reduceLT,c0,ah];refine ax rfl uses (λ_=>rfl) ?_;simp only[pO,↓reduceIte,Nat.reduceEqDiff,Nat.reduceAdd,Nat.reduceMul,Nat.reduceLT,Nat.reduceLeDiff,hsC,c1,ah,hu];refine kV ea ?_;simp only[uf,↓reduceIte,Nat.reduceEqDiff,Nat.reduceAdd,Nat.reduceMul,Nat.reduceLT,Nat.reduceLeDiff,m8,tsC,c3,ah];refine kQ em ?_;simp only[kH,↓reduceIte,Nat.reduceEqDiff,Nat.reduceAdd,Nat.reduceMul,Nat.reduceLT,Nat.reduceLeDiff,c0,Int.reduceEq,ah,aO];refine ax rfl (re 3 0 xa.va xm) (λh=>by cases h) ?_;simp only[kH,↓reduceIte,Nat.reduceEqDiff,Nat.reduceAdd,Nat.reduceMul,Nat.reduceLT,Nat.reduceLeDiff,ah];have hC:fD p s ⟨4,a,b,m,t⟩ (Int.toNat 4)=rsI (gr xa.va xm):=by show rsI _=_;rw[ha,hm]
  rw[hC];rw[fx];exact⟨rfl,rfl,ld9 (by decide) ⟨rfl,rfl⟩ rfl⟩
 .have hu:usL.getD 5 us0=usL.getD 5 us0:=rfl
  conv at hu=>rhs;simp only[usL,us0,bg,bA]
  have uses:=im (G:=glM) 5 (by decide);simp only[Int.reduceToNat,gC,aA] at hF;obtain⟨xa,ea⟩:=fA hF.1;have ha:hAt s a=xa:=by unfold hAt;rw[ea];rfl
  obtain⟨xm,em⟩:=fA hF.2;have hm:iAt s m=xm:=by unfold iAt;rw[em];rfl
  simp only[kG,↓reduceIte,Nat.reduceEqDiff,Nat.reduceAdd,Nat.reduceMul,Nat.reduceLT,c0,ah];refine ax rfl uses (λ_=>rfl) ?_;simp only[pO,↓reduceIte,Nat.reduceEqDiff,Nat.reduceAdd,Nat.reduceMul,Nat.reduceLT,Nat.reduceLeDiff,hsC,c1,ah,hu];refine kV ea ?_;simp only[uf,↓reduceIte,Nat.reduceEqDiff,Nat.reduceAdd,Nat.reduceMul,Nat.reduceLT,Nat.reduceLeDiff,m8,tsC,c3,ah];refine kQ em ?_;simp only[kH,↓reduceIte,Nat.reduceEqDiff,Nat.reduceAdd,Nat.reduceMul,Nat.reduceLT,Nat.reduceLeDiff,c0,Int.reduceEq,ah,aO];have vm:=hS.iv _ (jQ em);have vk:=(hS.hv _ (jQ ea)).2.1;have two:(true&&decide (xm.kind=3)||false&&decide (xm.kind=4))=true->∃ a b,xm.l=[a,b]:=λh=>rV vm.1 (by simp only[dI,eJ,g9,br] at h;omega);refine ax rfl (uR (G:=glM) xm xa.va true false two (by omega) (by omega)) (λ_=>rfl) ?_;cases hU:lR xm xa.va true false
  .simp only[kG,↓reduceIte,Nat.reduceEqDiff,Nat.reduceAdd,Nat.reduceMul,Nat.reduceLT,Nat.reduceLeDiff,ah]
   have hC:fD p s ⟨5,a,b,m,t⟩ (Int.toNat 5)=rsE 8:=by
    show(if lR _ _ _ _=true then _ else rsE 8)=_
    rw[if_neg (by rw[ha,hm,hU];decide)]
   rw[hC]
   first | exact⟨rfl,ld9 (by decide) ⟨rfl,rfl⟩ rfl⟩ | exact⟨rfl,rfl,ld9 (by decide) ⟨rfl,rfl⟩ rfl⟩
  .obtain⟨y0,y1,hl⟩:=two (by unfold lR at hU;simp only[aA] at hU;exact hU.1)
   have hs:pX xm=y1:=(by unfold pX;rw[hl];rfl);have ia1:∀ K,K (.c (.rp (tmC y1) 0))->bK Tryz.prog 33 (.c (.sl (xm.l.map tmC))) (i64 1) K:=λK hK=>by rw[hl];exact cR dc rfl cV (by decide) (by decide) (c:=tmC y1) rfl (bG _) hK
   simp only[kH,↓reduceIte,Nat.reduceEqDiff,Nat.reduceAdd,Nat.reduceMul,Nat.reduceLT,tsC,ah];refine ia1 _ ?_;simp only[kH,↓reduceIte,Nat.reduceEqDiff,Nat.reduceAdd,Nat.reduceMul,Nat.reduceLT,Nat.reduceLeDiff,ah];have hC:fD p s ⟨5,a,b,m,t⟩ (Int.toNat 5)=rsI y1:=by
    show(if lR _ _ _ _=true then rsI (pX (iAt s m)) else rsE 8)=_
    rw[if_pos (by rw[ha,hm,hU])];rw[hm,hs]
   rw[hC];rw[fx];exact⟨rfl,rfl,ld9 (by decide) ⟨rfl,rfl⟩ rfl⟩
 .have hu:usL.getD 6 us0=usL.getD 6 us0:=rfl
  conv at hu=>rhs;simp only[usL,us0,bg,bA]
  have uses:=im (G:=glM) 6 (by decide);simp only[Int.reduceToNat,gC,aA] at hF;obtain⟨xa,ea⟩:=fA hF.1;have ha:hAt s a=xa:=by unfold hAt;rw[ea];rfl
  obtain⟨xm,em⟩:=fA hF.2;have hm:iAt s m=xm:=by unfold iAt;rw[em];rfl
  simp only[kG,↓reduceIte,Nat.reduceEqDiff,Nat.reduceAdd,Nat.reduceMul,Nat.reduceLT,c0,ah];refine ax rfl uses (λ_=>rfl) ?_;simp only[pO,↓reduceIte,Nat.reduceEqDiff,Nat.reduceAdd,Nat.reduceMul,Nat.reduceLT,Nat.reduceLeDiff,hsC,c1,ah,hu];refine kV ea ?_;simp only[uf,↓reduceIte,Nat.reduceEqDiff,Nat.reduceAdd,Nat.reduceMul,Nat.reduceLT,Nat.reduceLeDiff,m8,tsC,c3,ah];refine kQ em ?_;simp only[kH,↓reduceIte,Nat.reduceEqDiff,Nat.reduceAdd,Nat.reduceMul,Nat.reduceLT,Nat.reduceLeDiff,c0,Int.reduceEq,ah,aO];refine ax rfl (re 6 0 xa.va xm) (λh=>by cases h) ?_;simp only[kH,↓reduceIte,Nat.reduceEqDiff,Nat.reduceAdd,Nat.reduceMul,Nat.reduceLT,Nat.reduceLeDiff,ah];have hC:fD p s ⟨6,a,b,m,t⟩ (Int.toNat 6)=rsI (.mk 6 0 [xa.va,xm]):=by show rsI _=_;rw[ha,hm]
  rw[hC];rw[fx];exact⟨rfl,rfl,ld9 (by decide) ⟨rfl,rfl⟩ rfl⟩
 .have hu:usL.getD 7 us0=usL.getD 7 us0:=rfl
  conv at hu=>rhs;simp only[usL,us0,bg,bA]
  have uses:=im (G:=glM) 7 (by decide);simp only[Int.reduceToNat,gC,aA] at hF;obtain⟨xa,ea⟩:=fA hF.1;have ha:hAt s a=xa:=by unfold hAt;rw[ea];rfl
  obtain⟨xb,eb⟩:=fA hF.2;have hb:hAt s b=xb:=by unfold hAt;rw[eb];rfl
  simp only[kG,↓reduceIte,Nat.reduceEqDiff,Nat.reduceAdd,Nat.reduceMul,Nat.reduceLT,c0,ah];refine ax rfl uses (λ_=>rfl) ?_;simp only[pO,↓reduceIte,Nat.reduceEqDiff,Nat.reduceAdd,Nat.reduceMul,Nat.reduceLT,Nat.reduceLeDiff,hsC,c1,ah,hu];refine kV ea ?_;simp only[uf,↓reduceIte,Nat.reduceEqDiff,Nat.reduceAdd,Nat.reduceMul,Nat.reduceLT,Nat.reduceLeDiff,m8,hsC,c2,ah];refine kV eb ?_;simp only[uf,↓reduceIte,Nat.reduceEqDiff,Nat.reduceAdd,Nat.reduceMul,Nat.reduceLT,Nat.reduceLeDiff,m8,hsC,c0,c2,Int.reduceEq,ah,aO];refine kV eb ?_;simp only[aa1,↓reduceIte,Nat.reduceEqDiff,Nat.reduceAdd,Nat.reduceMul,Nat.reduceLT,ah];refine ax rfl (re 4 xb.ty xa.va xb.va) (λh=>by cases h) ?_;simp only[kH,↓reduceIte,Nat.reduceEqDiff,Nat.reduceAdd,Nat.reduceMul,Nat.reduceLT,Nat.reduceLeDiff,ah];have hC:fD p s ⟨7,a,b,m,t⟩ (Int.toNat 7)=rsI (.mk 4 xb.ty [xa.va,xb.va]):=by show rsI _=_;rw[ha,hb]
  rw[hC];rw[fx];exact⟨rfl,rfl,ld9 (by decide) ⟨rfl,rfl⟩ rfl⟩
 .have hu:usL.getD 8 us0=usL.getD 8 us0:=rfl
  conv at hu=>rhs;simp only[usL,us0,bg,bA]
  have uses:=im (G:=glM) 8 (by decide);simp only[Int.reduceToNat,gC,aA] at hF;obtain⟨xa,ea⟩:=fA hF.1;have ha:hAt s a=xa:=by unfold hAt;rw[ea];rfl
  obtain⟨xm,em⟩:=fA hF.2;have hm:iAt s m=xm:=by unfold iAt;rw[em];rfl
  simp only[kG,↓reduceIte,Nat.reduceEqDiff,Nat.reduceAdd,Nat.reduceMul,Nat.reduceLT,c0,ah];refine ax rfl uses (λ_=>rfl) ?_;simp only[pO,↓reduceIte,Nat.reduceEqDiff,Nat.reduceAdd,Nat.reduceMul,Nat.reduceLT,Nat.reduceLeDiff,hsC,c1,ah,hu];refine kV ea ?_;simp only[uf,↓reduceIte,Nat.reduceEqDiff,Nat.reduceAdd,Nat.reduceMul,Nat.reduceLT,Nat.reduceLeDiff,m8,tsC,c3,ah];refine kQ em ?_;simp only[kH,↓reduceIte,Nat.reduceEqDiff,Nat.reduceAdd,Nat.reduceMul,Nat.reduceLT,Nat.reduceLeDiff,c0,Int.reduceEq,ah,aO];have vm:=hS.iv _ (jQ em);have vk:=(hS.hv _ (jQ ea)).2.1;have two:(false&&decide (xm.kind=3)||true&&decide (xm.kind=4))=true->∃ a b,xm.l=[a,b]:=λh=>rV vm.1 (by simp only[dI,eJ,Bool.false_or,br] at h;omega);refine ax rfl (uR (G:=glM) xm xa.va false true two (by omega) (by omega)) (λ_=>rfl) ?_;cases hU:lR xm xa.va false true
  .simp only[kG,↓reduceIte,Nat.reduceEqDiff,Nat.reduceAdd,Nat.reduceMul,Nat.reduceLT,Nat.reduceLeDiff,ah]
   have hC:fD p s ⟨8,a,b,m,t⟩ (Int.toNat 8)=rsE 8:=by
    show(if lR _ _ _ _=true then _ else rsE 8)=_
    rw[if_neg (by rw[ha,hm,hU];decide)]
   rw[hC]
   first | exact⟨rfl,ld9 (by decide) ⟨rfl,rfl⟩ rfl⟩ | exact⟨rfl,rfl,ld9 (by decide) ⟨rfl,rfl⟩ rfl⟩
  .obtain⟨y0,y1,hl⟩:=two (by unfold lR at hU;simp only[aA] at hU;exact hU.1)
   have hs:pX xm=y1:=(by unfold pX;rw[hl];rfl);have ia1:∀ K,K (.c (.rp (tmC y1) 0))->bK Tryz.prog 33 (.c (.sl (xm.l.map tmC))) (i64 1) K:=λK hK=>by rw[hl];exact cR dc rfl cV (by decide) (by decide) (c:=tmC y1) rfl (bG _) hK
   simp only[pkA,ptA,pkS,Kp.pkP,↓reduceIte,Nat.reduceEqDiff,Nat.reduceAdd,Nat.reduceMul,Nat.reduceLT,hsC,c1,ah];refine kV ea ?_;simp only[aa1,↓reduceIte,Nat.reduceEqDiff,Nat.reduceAdd,Nat.reduceMul,Nat.reduceLT,ah];refine ax rfl (may 2 xa.ty xm.n) (λ_=>rfl) ?_;cases hM:li p 2 xa.ty xm.n
   .simp only[kG,↓reduceIte,Nat.reduceEqDiff,Nat.reduceAdd,Nat.reduceMul,Nat.reduceLT,Nat.reduceLeDiff,ah]
    have hC:fD p s ⟨8,a,b,m,t⟩ (Int.toNat 8)=rsE 10:=by
     show(if lR _ _ _ _=true then(if li p 2 (hAt s a).ty (iAt s m).n=true then _ else rsE 10) else rsE 8)=_
     rw[if_pos (by rw[ha,hm,hU])];rw[if_neg (by rw[ha,hm,hM];decide)]
    rw[hC]
    first | exact⟨rfl,ld9 (by decide) ⟨rfl,rfl⟩ rfl⟩ | exact⟨rfl,rfl,ld9 (by decide) ⟨rfl,rfl⟩ rfl⟩
   .simp only[kH,↓reduceIte,Nat.reduceEqDiff,Nat.reduceAdd,Nat.reduceMul,Nat.reduceLT,tsC,ah]
    refine ia1 _ ?_;simp only[kH,↓reduceIte,Nat.reduceEqDiff,Nat.reduceAdd,Nat.reduceLeDiff];have hC:fD p s ⟨8,a,b,m,t⟩ (Int.toNat 8)=rsH xm.n y1:=by
     show(if lR _ _ _ _=true then(if li p 2 (hAt s a).ty (iAt s m).n=true then rsH (iAt s m).n (pX (iAt s m)) else rsE 10) else rsE 8)=_
     rw[if_pos (by rw[ha,hm,hU])];rw[if_pos (by rw[ha,hm,hM]),hm,hs]
    rw[hC];refine kO (cs:=rsC (rsH xm.n y1)) (by rw[fx];rfl) ?_;simp only[kG,↓reduceIte,Nat.reduceEqDiff,Nat.reduceAdd,Nat.reduceMul,Nat.reduceLT,Nat.reduceLeDiff,ah]
    first | exact⟨rfl,ld9 (by decide) ⟨rfl,rfl⟩ rfl⟩ | exact⟨rfl,rfl,ld9 (by decide) ⟨rfl,rfl⟩ rfl⟩
 .have hu:usL.getD 9 us0=usL.getD 9 us0:=rfl
  conv at hu=>rhs;simp only[usL,us0,bg,bA]
  have uses:=im (G:=glM) 9 (by decide);simp only[Int.reduceToNat,gC,aA] at hF;obtain⟨xa,ea⟩:=fA hF.1;have ha:hAt s a=xa:=by unfold hAt;rw[ea];rfl
  obtain⟨xb,eb⟩:=fA hF.2;have hb:hAt s b=xb:=by unfold hAt;rw[eb];rfl
  simp only[kG,↓reduceIte,Nat.reduceEqDiff,Nat.reduceAdd,Nat.reduceMul,Nat.reduceLT,c0,ah];refine ax rfl uses (λ_=>rfl) ?_;simp only[pO,↓reduceIte,Nat.reduceEqDiff,Nat.reduceAdd,Nat.reduceMul,Nat.reduceLT,Nat.reduceLeDiff,hsC,c1,ah,hu];refine kV ea ?_;simp only[uf,↓reduceIte,Nat.reduceEqDiff,Nat.reduceAdd,Nat.reduceMul,Nat.reduceLT,Nat.reduceLeDiff,m8,hsC,c2,ah];refine kV eb ?_;simp only[NP,↓reduceIte,Nat.reduceEqDiff,Nat.reduceAdd,Nat.reduceMul,Nat.reduceLT,Nat.reduceLeDiff,m8,c0,Int.reduceEq,ah,aO];refine ax rfl (re 3 0 xa.va xb.va) (λh=>by cases h) ?_;simp only[kH,↓reduceIte,Nat.reduceEqDiff,Nat.reduceAdd,Nat.reduceMul,Nat.reduceLT,Nat.reduceLeDiff,ah];have hC:fD p s ⟨9,a,b,m,t⟩ (Int.toNat 9)=rsI (gr xa.va xb.va):=by show rsI _=_;rw[ha,hb]
  rw[hC];rw[fx];exact⟨rfl,rfl,ld9 (by decide) ⟨rfl,rfl⟩ rfl⟩
 .have hu:usL.getD 10 us0=usL.getD 10 us0:=rfl
  conv at hu=>rhs;simp only[usL,us0,bg,bA]
  have uses:=im (G:=glM) 10 (by decide);simp only[Int.reduceToNat,gC,aA] at hF;obtain⟨xa,ea⟩:=fA hF.1;have ha:hAt s a=xa:=by unfold hAt;rw[ea];rfl
  obtain⟨xm,em⟩:=fA hF.2.1;have hm:iAt s m=xm:=by unfold iAt;rw[em];rfl
  simp only[kG,↓reduceIte,Nat.reduceEqDiff,Nat.reduceAdd,Nat.reduceMul,Nat.reduceLT,c0,ah];refine ax rfl uses (λ_=>rfl) ?_;simp only[pO,↓reduceIte,Nat.reduceEqDiff,Nat.reduceAdd,Nat.reduceMul,Nat.reduceLT,Nat.reduceLeDiff,hsC,c1,ah,hu];refine kV ea ?_;simp only[uf,↓reduceIte,Nat.reduceEqDiff,Nat.reduceAdd,Nat.reduceMul,Nat.reduceLT,Nat.reduceLeDiff,m8,tsC,c3,ah];refine kQ em ?_;simp only[kH,↓reduceIte,Nat.reduceEqDiff,Nat.reduceAdd,Nat.reduceMul,Nat.reduceLT,Nat.reduceLeDiff,c0,Int.reduceEq,ah,aO];have vm:=hS.iv _ (jQ em);have vk:=(hS.hv _ (jQ ea)).2.1;have two:(true&&decide (xm.kind=3)||false&&decide (xm.kind=4))=true->∃ a b,xm.l=[a,b]:=λh=>rV vm.1 (by simp only[dI,eJ,g9,br] at h;omega);refine ax rfl (uR (G:=glM) xm xa.va true false two (by omega) (by omega)) (λ_=>rfl) ?_;cases hU:lR xm xa.va true false
  .simp only[kG,↓reduceIte,Nat.reduceEqDiff,Nat.reduceAdd,Nat.reduceMul,Nat.reduceLT,Nat.reduceLeDiff,ah]
   have hC:fD p s ⟨10,a,b,m,t⟩ (Int.toNat 10)=rsE 8:=by
    show(if lR _ _ _ _=true then _ else rsE 8)=_
    rw[if_neg (by rw[ha,hm,hU];decide)]
   rw[hC]
   first | exact⟨rfl,ld9 (by decide) ⟨rfl,rfl⟩ rfl⟩ | exact⟨rfl,rfl,ld9 (by decide) ⟨rfl,rfl⟩ rfl⟩
  .obtain⟨y0,y1,hl⟩:=two (by unfold lR at hU;simp only[aA] at hU;exact hU.1)
   have hs:pX xm=y1:=(by unfold pX;rw[hl];rfl);have ia1:∀ K,K (.c (.rp (tmC y1) 0))->bK Tryz.prog 33 (.c (.sl (xm.l.map tmC))) (i64 1) K:=λK hK=>by rw[hl];exact cR dc rfl cV (by decide) (by decide) (c:=tmC y1) rfl (bG _) hK
   simp only[kH,↓reduceIte,Nat.reduceEqDiff,Nat.reduceAdd,Nat.reduceMul,Nat.reduceLT,tsC,ah];refine ia1 _ ?_;simp only[kH,↓reduceIte,Nat.reduceAdd];refine ax rfl (oZ (Qv vm.1 (by rw[hl];simp))) (λ_=>rfl) ?_;cases hM:dF y1
   .simp only[kG,↓reduceIte,Nat.reduceEqDiff,Nat.reduceAdd,Nat.reduceMul,Nat.reduceLT,Nat.reduceLeDiff,ah]
    have hC:fD p s ⟨10,a,b,m,t⟩ (Int.toNat 10)=rsE 1:=by
     show(if lR _ _ _ _=true then(if dF (pX (iAt s m))=true then _ else rsE 1) else rsE 8)=_
     rw[if_pos (by rw[ha,hm,hU])];rw[if_neg (by rw[hm,hs,hM];decide)]
    rw[hC]
    first | exact⟨rfl,ld9 (by decide) ⟨rfl,rfl⟩ rfl⟩ | exact⟨rfl,rfl,ld9 (by decide) ⟨rfl,rfl⟩ rfl⟩
   .simp only[kH,↓reduceIte,Nat.reduceEqDiff,Nat.reduceAdd,Nat.reduceMul,Nat.reduceLT,tsC,c4,ah]
    refine ia1 _ ?_;simp only[kH,↓reduceIte,Nat.reduceEqDiff,Nat.reduceAdd,Nat.reduceLeDiff];have hC:fD p s ⟨10,a,b,m,t⟩ (Int.toNat 10)=rsH t y1:=by
     show(if lR _ _ _ _=true then(if dF (pX (iAt s m))=true then rsH t (pX (iAt s m)) else rsE 1) else rsE 8)=_
     rw[if_pos (by rw[ha,hm,hU])];rw[if_pos (by rw[hm,hs,hM]),hm,hs]
    rw[hC];refine kO (cs:=rsC (rsH t y1)) (by rw[fx];rfl) ?_;simp only[kG,↓reduceIte,Nat.reduceEqDiff,Nat.reduceAdd,Nat.reduceMul,Nat.reduceLT,Nat.reduceLeDiff,ah]
    first | exact⟨rfl,ld9 (by decide) ⟨rfl,rfl⟩ rfl⟩ | exact⟨rfl,rfl,ld9 (by decide) ⟨rfl,rfl⟩ rfl⟩
 .have hu:usL.getD 11 us0=usL.getD 11 us0:=rfl
  conv at hu=>rhs;simp only[usL,us0,bg,bA]
  have uses:=im (G:=glM) 11 (by decide);simp only[Int.reduceToNat,gC,aA] at hF;obtain⟨xa,ea⟩:=fA hF.1;have ha:hAt s a=xa:=by unfold hAt;rw[ea];rfl
  simp only[kG,↓reduceIte,Nat.reduceEqDiff,Nat.reduceAdd,Nat.reduceMul,Nat.reduceLT,c0,ah];refine ax rfl uses (λ_=>rfl) ?_;simp only[pO,↓reduceIte,Nat.reduceEqDiff,Nat.reduceAdd,Nat.reduceMul,Nat.reduceLT,Nat.reduceLeDiff,hsC,c1,ah,hu];refine kV ea ?_;simp only[NP,↓reduceIte,Nat.reduceEqDiff,Nat.reduceAdd,Nat.reduceMul,Nat.reduceLT,Nat.reduceLeDiff,m8,c0,c4,Int.reduceEq,ah,aO];have hC:fD p s ⟨11,a,b,m,t⟩ (Int.toNat 11)=rsH t (.mk 5 t [xa.va]):=by show rsH _ _=_;rw[ha]
  rw[hC]
  first | exact⟨rfl,ld9 (by decide) ⟨rfl,rfl⟩ rfl⟩ | exact⟨rfl,rfl,ld9 (by decide) ⟨rfl,rfl⟩ rfl⟩
 .have hu:usL.getD 12 us0=usL.getD 12 us0:=rfl
  conv at hu=>rhs;simp only[usL,us0,bg,bA]
  have uses:=im (G:=glM) 12 (by decide);simp only[kG,↓reduceIte,Nat.reduceEqDiff,Nat.reduceAdd,Nat.reduceMul,Nat.reduceLT,c0,ah];refine ax rfl uses (λ_=>rfl) ?_;simp only[pkA,ptA,Cd,↓reduceIte,Nat.reduceEqDiff,Nat.reduceAdd,Nat.reduceMul,Nat.reduceLT,Nat.reduceLeDiff,c0,c4,Int.reduceEq,ah,aO,hu];have hC:fD p s ⟨12,a,b,m,t⟩ (Int.toNat 12)=rsI (.mk 1 t []):=by show rsI _=_;rfl
  rw[hC]
  first | exact⟨rfl,ld9 (by decide) ⟨rfl,rfl⟩ rfl⟩ | exact⟨rfl,rfl,ld9 (by decide) ⟨rfl,rfl⟩ rfl⟩
 .have hu:usL.getD 13 us0=usL.getD 13 us0:=rfl
  conv at hu=>rhs;simp only[usL,us0,bg,bA]
  have uses:=im (G:=glM) 13 (by decide);simp only[Int.reduceToNat,gC,aA] at hF;obtain⟨xi,ei⟩:=fA hF.1;have hi:iAt s a=xi:=by unfold iAt;rw[ei];rfl
  obtain⟨xm,em⟩:=fA hF.2.1;have hm:iAt s m=xm:=by unfold iAt;rw[em];rfl
  simp only[kG,↓reduceIte,Nat.reduceEqDiff,Nat.reduceAdd,Nat.reduceMul,Nat.reduceLT,c0,ah];refine ax rfl uses (λ_=>rfl) ?_;simp only[pO,↓reduceIte,Nat.reduceEqDiff,Nat.reduceAdd,Nat.reduceMul,Nat.reduceLT,Nat.reduceLeDiff,tsC,c1,ah,hu];refine kQ ei ?_;simp only[uf,↓reduceIte,Nat.reduceEqDiff,Nat.reduceAdd,Nat.reduceMul,Nat.reduceLT,Nat.reduceLeDiff,tsC,c3,ah];refine kQ em ?_;simp only[kH,↓reduceIte,Nat.reduceEqDiff,Nat.reduceAdd,Nat.reduceMul,Nat.reduceLT,Nat.reduceLeDiff,c0,Int.reduceEq,ah,aO];refine ax rfl (re 3 0 xi xm) (λh=>by cases h) ?_;simp only[kH,↓reduceIte,Nat.reduceEqDiff,Nat.reduceAdd,Nat.reduceMul,Nat.reduceLT,Nat.reduceLeDiff,ah];have hC:fD p s ⟨13,a,b,m,t⟩ (Int.toNat 13)=rsI (gr xi xm):=by show rsI _=_;rw[hi,hm]
  rw[hC];rw[fx];exact⟨rfl,rfl,ld9 (by decide) ⟨rfl,rfl⟩ rfl⟩
 .have hu:usL.getD 14 us0=usL.getD 14 us0:=rfl
  conv at hu=>rhs;simp only[usL,us0,bg,bA]
  have uses:=im (G:=glM) 14 (by decide);simp only[Int.reduceToNat,gC,aA] at hF;obtain⟨xi,ei⟩:=fA hF.1;have hi:iAt s a=xi:=by unfold iAt;rw[ei];rfl
  obtain⟨xm,em⟩:=fA hF.2.1;have hm:iAt s m=xm:=by unfold iAt;rw[em];rfl
  simp only[kG,↓reduceIte,Nat.reduceEqDiff,Nat.reduceAdd,Nat.reduceMul,Nat.reduceLT,c0,ah];refine ax rfl uses (λ_=>rfl) ?_;simp only[pO,↓reduceIte,Nat.reduceEqDiff,Nat.reduceAdd,Nat.reduceMul,Nat.reduceLT,Nat.reduceLeDiff,tsC,c1,ah,hu];refine kQ ei ?_;simp only[uf,↓reduceIte,Nat.reduceEqDiff,Nat.reduceAdd,Nat.reduceMul,Nat.reduceLT,Nat.reduceLeDiff,tsC,c3,ah];refine kQ em ?_;simp only[kH,↓reduceIte,Nat.reduceEqDiff,Nat.reduceAdd,Nat.reduceMul,Nat.reduceLT,Nat.reduceLeDiff,c0,c4,Int.reduceEq,ah,aO];refine ax rfl (re 4 t xi xm) (λh=>by cases h) ?_;simp only[kH,↓reduceIte,Nat.reduceEqDiff,Nat.reduceAdd,Nat.reduceMul,Nat.reduceLT,Nat.reduceLeDiff,ah];have hC:fD p s ⟨14,a,b,m,t⟩ (Int.toNat 14)=rsI (.mk 4 t [xi,xm]):=by show rsI _=_;rw[hi,hm]
  rw[hC];rw[fx];exact⟨rfl,rfl,ld9 (by decide) ⟨rfl,rfl⟩ rfl⟩
 .have hu:usL.getD 15 us0=usL.getD 15 us0:=rfl
  conv at hu=>rhs;simp only[usL,us0,bg,bA]
  have uses:=im (G:=glM) 15 (by decide);simp only[Int.reduceToNat,gC,aA] at hF;obtain⟨xi,ei⟩:=fA hF.1;have hi:iAt s a=xi:=by unfold iAt;rw[ei];rfl
  simp only[kG,↓reduceIte,Nat.reduceEqDiff,Nat.reduceAdd,Nat.reduceMul,Nat.reduceLT,c0,ah];refine ax rfl uses (λ_=>rfl) ?_;simp only[pO,↓reduceIte,Nat.reduceEqDiff,Nat.reduceAdd,Nat.reduceMul,Nat.reduceLT,Nat.reduceLeDiff,tsC,c1,ah,hu];refine kQ ei ?_;simp only[NP,↓reduceIte,Nat.reduceEqDiff,Nat.reduceAdd,Nat.reduceMul,Nat.reduceLT,Nat.reduceLeDiff,c0,c4,Int.reduceEq,ah,aO];have hC:fD p s ⟨15,a,b,m,t⟩ (Int.toNat 15)=rsI (.mk 5 t [xi]):=by show rsI _=_;rw[hi]
  rw[hC]
  first | exact⟨rfl,ld9 (by decide) ⟨rfl,rfl⟩ rfl⟩ | exact⟨rfl,rfl,ld9 (by decide) ⟨rfl,rfl⟩ rfl⟩
 .have hu:usL.getD 16 us0=usL.getD 16 us0:=rfl
  conv at hu=>rhs;simp only[usL,us0,bg,bA]
  have uses:=im (G:=glM) 16 (by decide);simp only[Int.reduceToNat,gC,aA] at hF;obtain⟨xi,ei⟩:=fA hF.1;have hi:iAt s a=xi:=by unfold iAt;rw[ei];rfl
  obtain⟨xm,em⟩:=fA hF.2;have hm:iAt s m=xm:=by unfold iAt;rw[em];rfl
  simp only[kG,↓reduceIte,Nat.reduceEqDiff,Nat.reduceAdd,Nat.reduceMul,Nat.reduceLT,c0,ah];refine ax rfl uses (λ_=>rfl) ?_;simp only[pO,↓reduceIte,Nat.reduceEqDiff,Nat.reduceAdd,Nat.reduceMul,Nat.reduceLT,Nat.reduceLeDiff,tsC,c1,ah,hu];refine kQ ei ?_;simp only[uf,↓reduceIte,Nat.reduceEqDiff,Nat.reduceAdd,Nat.reduceMul,Nat.reduceLT,Nat.reduceLeDiff,tsC,c3,ah];refine kQ em ?_;simp only[kH,↓reduceIte,Nat.reduceEqDiff,Nat.reduceAdd,Nat.reduceMul,Nat.reduceLT,Nat.reduceLeDiff,c0,Int.reduceEq,ah,aO];have vm:=hS.iv _ (jQ em);have vk:=(hS.iv _ (jQ ei)).2;have two:(true&&decide (xm.kind=3)||true&&decide (xm.kind=4))=true->∃ a b,xm.l=[a,b]:=λh=>rV vm.1 (by simp only[dI,dS,br] at h;omega);refine ax rfl (uR (G:=glM) xm xi true true two (by omega) (by omega)) (λ_=>rfl) ?_;cases hU:lR xm xi true true
  .simp only[kG,↓reduceIte,Nat.reduceEqDiff,Nat.reduceAdd,Nat.reduceMul,Nat.reduceLT,Nat.reduceLeDiff,ah]
   have hC:fD p s ⟨16,a,b,m,t⟩ (Int.toNat 16)=rsE 8:=by
    show(if lR _ _ _ _=true then _ else rsE 8)=_
    rw[if_neg (by rw[hi,hm,hU];decide)]
   rw[hC]
   first | exact⟨rfl,ld9 (by decide) ⟨rfl,rfl⟩ rfl⟩ | exact⟨rfl,rfl,ld9 (by decide) ⟨rfl,rfl⟩ rfl⟩
  .obtain⟨y0,y1,hl⟩:=two (by unfold lR at hU;simp only[aA] at hU;exact hU.1)
   have hs:pX xm=y1:=(by unfold pX;rw[hl];rfl);have ia1:∀ K,K (.c (.rp (tmC y1) 0))->bK Tryz.prog 33 (.c (.sl (xm.l.map tmC))) (i64 1) K:=λK hK=>by rw[hl];exact cR dc rfl cV (by decide) (by decide) (c:=tmC y1) rfl (bG _) hK
   simp only[kH,↓reduceIte,Nat.reduceEqDiff,Nat.reduceAdd,Nat.reduceMul,Nat.reduceLT,tsC,ah];refine ia1 _ ?_;simp only[kH,↓reduceIte,Nat.reduceEqDiff,Nat.reduceAdd,Nat.reduceMul,Nat.reduceLT,Nat.reduceLeDiff,ah];have hC:fD p s ⟨16,a,b,m,t⟩ (Int.toNat 16)=rsI y1:=by
    show(if lR _ _ _ _=true then rsI (pX (iAt s m)) else rsE 8)=_
    rw[if_pos (by rw[hi,hm,hU])];rw[hm,hs]
   rw[hC];rw[fx];exact⟨rfl,rfl,ld9 (by decide) ⟨rfl,rfl⟩ rfl⟩
