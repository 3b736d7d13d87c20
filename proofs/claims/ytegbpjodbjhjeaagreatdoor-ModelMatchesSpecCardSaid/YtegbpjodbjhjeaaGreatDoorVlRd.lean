/- Layer 16: the specification: whether a call fits. -/
import Derived.Test.YtegbpjodbjhjeaaGreatDoorVlRb
set_option maxHeartbeats 8000000
set_option linter.all false
namespace Go.Proofs.YtegbpjodbjhjeaaGreatDoor
open Go Go.Vl
open Kp (Pol Ty Ru Qu poC tyC ruC quC)
set_option maxRecDepth 10000
theorem kQ {s:Sy} {k:Int} {x:Tm} {K:V->Prop} (h:eD s.its k=some x) (hK:K (.c (.rp (tmC x) 0))):bK Tryz.prog 33 (.c (.sl (s.its.map tmC))) (i64 k) K:=by obtain⟨i,rfl,hi,rfl⟩:=qX h;exact cR dc rfl cV (by decide) (aC i) (c:=tmC s.its[i]) (by simp[hi]) (bG _) hK
theorem jQ {α:Type} {l:List α} {k:Int} {x:α} (h:eD l k=some x):x∈l:=by obtain⟨i,rfl,hi,rfl⟩:=qX h;exact aH hi
theorem ZO {p:Pol} {s:Sy} {a b m t:Int} {n:Nat} (h1:1<=n) (h2:n<=16) (hv:Kp.mh p=true):m9 p s ⟨n,a,b,m,t⟩=gC p s ⟨n,a,b,m,t⟩ n:=by
 have:inI ((n:Int) - 1) 16=true:=by simp[inI];omega
 simp only[m9,this,hv,dI,fq]
def V2:=jj @pkA (jj @ptA @Kp.pkP)
def vt:=jj @pkA @ptA
def V3:=jj @pkA (jj @ptA (jj @pkS (jj @Cd (jj @Kp.pkP @pkT))))
def zF:=jj @pkA (jj @ptA (jj @pkS @Cd))
def aaZ:=jj @pkA (jj @ptA (jj @pkS (jj @Cd @Kp.pkP)))
theorem V4 {p:Pol} {s:Sy} {c:Cl} (hp:POk p) (hS:SyOk s):FnOK Tryz.prog glM 36 [.agg (poC p),.agg (syC s),.agg (clC c)] (bo (m9 p s c)):=by
 obtain⟨k,a,b,m,t⟩:=c;have val:=Kp.I5 (G:=glM) p hp.i (by have:=hp.t;have:=hp.r;have:=hp.q;unfold Kp.lh;omega);refine bD (rs:=[.tmp 6]) false [] mixed Tryz.func36 rfl rfl rfl rfl (by kernel_rfl) (by simp) rfl rfl ?_;simp only[V2,↓reduceIte,Nat.reduceEqDiff,Nat.reduceAdd,Nat.reduceMul,Nat.reduceLT];refine ax rfl val (λ_=>rfl) ?_;have c0:∀ nb q K,ldB nb q ((clC ⟨k,a,b,m,t⟩).map V.c) 0 K=(q<nb/\K (i64 k)):=λ_ _ _=>rfl;have c1:∀ nb q K,ldB nb q ((clC ⟨k,a,b,m,t⟩).map V.c) 1 K=(q<nb/\K (i64 a)):=λ_ _ _=>rfl;have c2:∀ nb q K,ldB nb q ((clC ⟨k,a,b,m,t⟩).map V.c) 2 K=(q<nb/\K (i64 b)):=λ_ _ _=>rfl;have c3:∀ nb q K,ldB nb q ((clC ⟨k,a,b,m,t⟩).map V.c) 3 K=(q<nb/\K (i64 m)):=λ_ _ _=>rfl;have c4:∀ nb q K,ldB nb q ((clC ⟨k,a,b,m,t⟩).map V.c) 4 K=(q<nb/\K (i64 t)):=λ_ _ _=>rfl;by_cases h0:k<1
 .have hf:m9 p s ⟨k,a,b,m,t⟩=false:=by have:inI (k - 1) 16=false:=(by simp[inI];omega);simp[m9,this]
  simp only[vt,↓reduceIte,Nat.reduceEqDiff,Nat.reduceAdd,Nat.reduceMul,Nat.reduceLT,c0,h0,hf,ah]
 by_cases h1:16<k
 .have hf:m9 p s ⟨k,a,b,m,t⟩=false:=by have:inI (k - 1) 16=false:=(by simp[inI];omega);simp[m9,this]
  simp only[vt,↓reduceIte,Nat.reduceEqDiff,Nat.reduceAdd,Nat.reduceMul,Nat.reduceLT,c0,h0,h1,hf,ah,aO]
 cases hv:Kp.mh p with
 |false=>
  have hf:m9 p s ⟨k,a,b,m,t⟩=false:=by simp[m9,hv]
  simp only[vt,↓reduceIte,Nat.reduceEqDiff,Nat.reduceAdd,Nat.reduceMul,Nat.reduceLT,c0,h0,h1,hf,aO]
 |true=>
 obtain⟨n,rfl⟩:∃ n:Nat,k=n:=⟨k.toNat,by omega⟩;simp only[vt,↓reduceIte,Nat.reduceEqDiff,Nat.reduceAdd,Nat.reduceMul,Nat.reduceLT,c0,h0,h1,aO];refine ax rfl (im n (by omega)) (λ_=>rfl) ?_;have hn:n=1∨n=2∨n=3∨n=4∨n=5∨n=6∨n=7∨n=8∨n=9∨n=10∨n=11∨n=12∨n=13∨n=14∨n=15∨n=16:=by omega
 rw[ZO (by omega) (by omega) hv];rcases hn with rfl | rfl | rfl | rfl | rfl | rfl | rfl | rfl | rfl | rfl | rfl | rfl | rfl | rfl | rfl | rfl
 .have hu:usL.getD 1 us0=usL.getD 1 us0:=rfl
  conv at hu=>rhs;simp only[usL,us0,bg,bA]
  have d12:decide ((1:Nat)=(12:Int))=false:=rfl;have d2:decide ((1:Nat)=(2:Int))=false:=rfl;have d14:decide ((1:Nat)=(14:Int))=false:=rfl;have d13:decide ((13:Int)<=(1:Nat))=false:=rfl;have d15:decide ((1:Nat)<=(15:Int))=true:=rfl;rcases e0:eD p.types t with _ | x0
  all_goals simp only[gC,cT,e0,aW,aS]
  all_goals repeat (first
   |(simp only[pkA,ptA,Cd,Kp.pkP,↓reduceIte,Nat.reduceEqDiff,Nat.reduceAdd,Nat.reduceMul,Nat.reduceLT,Nat.reduceLeDiff,c0,c4,hu,d12,d2,d14,d13,aj,cT,ah,aW,aS,e0])
   |refine ax rfl (gB _ _) (λ_=>rfl) ?_
   |(refine aJ (λh=>?_) (λh=>?_)<;>simp_all only[dq,cO,ay]))
 .have hu:usL.getD 2 us0=usL.getD 2 us0:=rfl
  conv at hu=>rhs;simp only[usL,us0,bg,bA]
  have d12:decide ((2:Nat)=(12:Int))=false:=rfl;have d2:decide ((2:Nat)=(2:Int))=true:=rfl;have d14:decide ((2:Nat)=(14:Int))=false:=rfl;have d13:decide ((13:Int)<=(2:Nat))=false:=rfl;have d15:decide ((2:Nat)<=(15:Int))=true:=rfl;rcases e0:eD s.its m with _ | x0<;>rcases e1:eD p.types t with _ | x1
  all_goals simp only[gC,rh,cT,e0,e1,aW,aS,dI,eJ,cv]
  all_goals repeat (first
   |(simp only[V3,↓reduceIte,Nat.reduceEqDiff,Nat.reduceAdd,Nat.reduceMul,Nat.reduceLT,Nat.reduceLeDiff,tsC,c0,c3,c4,hu,d12,d2,d14,d13,aj,cT,ah,aW,aS,e0,e1])
   |refine ax rfl (gB _ _) (λ_=>rfl) ?_
   |refine kQ e0 ?_
   |(refine ax rfl (oZ (hS.iv _ (jQ e0)).1) (λ_=>rfl) ?_;cases aeY:dF x0)
   |(refine aJ (λh=>?_) (λh=>?_)<;>simp_all only[dq,cO,ay]))
 .have hu:usL.getD 3 us0=usL.getD 3 us0:=rfl
  conv at hu=>rhs;simp only[usL,us0,bg,bA]
  have d12:decide ((3:Nat)=(12:Int))=false:=rfl;have d2:decide ((3:Nat)=(2:Int))=false:=rfl;have d14:decide ((3:Nat)=(14:Int))=false:=rfl;have d13:decide ((13:Int)<=(3:Nat))=false:=rfl;have d15:decide ((3:Nat)<=(15:Int))=true:=rfl;rcases e0:eD s.hs a with _ | x0
  all_goals simp only[gC,cT,e0,aW,aS]
  all_goals repeat (first
   |(simp only[zF,↓reduceIte,Nat.reduceEqDiff,Nat.reduceAdd,Nat.reduceMul,Nat.reduceLT,Nat.reduceLeDiff,hsC,c0,c1,hu,d12,d2,d14,d13,aj,cT,ah,aW,aS,e0])
   |refine ax rfl (gB _ _) (λ_=>rfl) ?_
   |(refine aJ (λh=>?_) (λh=>?_)<;>simp_all only[dq,cO,ay]))
 .have hu:usL.getD 4 us0=usL.getD 4 us0:=rfl
  conv at hu=>rhs;simp only[usL,us0,bg,bA]
  have d12:decide ((4:Nat)=(12:Int))=false:=rfl;have d2:decide ((4:Nat)=(2:Int))=false:=rfl;have d14:decide ((4:Nat)=(14:Int))=false:=rfl;have d13:decide ((13:Int)<=(4:Nat))=false:=rfl;have d15:decide ((4:Nat)<=(15:Int))=true:=rfl;rcases e0:eD s.hs a with _ | x0<;>rcases e1:eD s.its m with _ | x1
  all_goals simp only[gC,cT,e0,e1,aW,aS,cK,cv]
  all_goals repeat (first
   |(simp only[zF,↓reduceIte,Nat.reduceEqDiff,Nat.reduceAdd,Nat.reduceMul,Nat.reduceLT,Nat.reduceLeDiff,tsC,hsC,c0,c1,c3,hu,d12,d2,d14,d13,aj,cT,ah,aW,aS,e0,e1])
   |refine ax rfl (gB _ _) (λ_=>rfl) ?_
   |(refine aJ (λh=>?_) (λh=>?_)<;>simp_all only[dq,cO,ay]))
 .have hu:usL.getD 5 us0=usL.getD 5 us0:=rfl
  conv at hu=>rhs;simp only[usL,us0,bg,bA]
  have d12:decide ((5:Nat)=(12:Int))=false:=rfl;have d2:decide ((5:Nat)=(2:Int))=false:=rfl;have d14:decide ((5:Nat)=(14:Int))=false:=rfl;have d13:decide ((13:Int)<=(5:Nat))=false:=rfl;have d15:decide ((5:Nat)<=(15:Int))=true:=rfl;rcases e0:eD s.hs a with _ | x0<;>rcases e1:eD s.its m with _ | x1
  all_goals simp only[gC,cT,e0,e1,aW,aS,cK,cv]
  all_goals repeat (first
   |(simp only[zF,↓reduceIte,Nat.reduceEqDiff,Nat.reduceAdd,Nat.reduceMul,Nat.reduceLT,Nat.reduceLeDiff,tsC,hsC,c0,c1,c3,hu,d12,d2,d14,d13,aj,cT,ah,aW,aS,e0,e1])
   |refine ax rfl (gB _ _) (λ_=>rfl) ?_
   |(refine aJ (λh=>?_) (λh=>?_)<;>simp_all only[dq,cO,ay]))
 .have hu:usL.getD 6 us0=usL.getD 6 us0:=rfl
  conv at hu=>rhs;simp only[usL,us0,bg,bA]
  have d12:decide ((6:Nat)=(12:Int))=false:=rfl;have d2:decide ((6:Nat)=(2:Int))=false:=rfl;have d14:decide ((6:Nat)=(14:Int))=false:=rfl;have d13:decide ((13:Int)<=(6:Nat))=false:=rfl;have d15:decide ((6:Nat)<=(15:Int))=true:=rfl;rcases e0:eD s.hs a with _ | x0<;>rcases e1:eD s.its m with _ | x1
  all_goals simp only[gC,cT,e0,e1,aW,aS,cK,cv]
  all_goals repeat (first
   |(simp only[zF,↓reduceIte,Nat.reduceEqDiff,Nat.reduceAdd,Nat.reduceMul,Nat.reduceLT,Nat.reduceLeDiff,tsC,hsC,c0,c1,c3,hu,d12,d2,d14,d13,aj,cT,ah,aW,aS,e0,e1])
   |refine ax rfl (gB _ _) (λ_=>rfl) ?_
   |(refine aJ (λh=>?_) (λh=>?_)<;>simp_all only[dq,cO,ay]))
 .have hu:usL.getD 7 us0=usL.getD 7 us0:=rfl
  conv at hu=>rhs;simp only[usL,us0,bg,bA]
  have d12:decide ((7:Nat)=(12:Int))=false:=rfl;have d2:decide ((7:Nat)=(2:Int))=false:=rfl;have d14:decide ((7:Nat)=(14:Int))=false:=rfl;have d13:decide ((13:Int)<=(7:Nat))=false:=rfl;have d15:decide ((7:Nat)<=(15:Int))=true:=rfl;rcases e0:eD s.hs a with _ | x0<;>rcases e1:eD s.hs b with _ | x1
  all_goals simp only[gC,cT,e0,e1,aW,aS,cK,cv]
  all_goals repeat (first
   |(simp only[zF,↓reduceIte,Nat.reduceEqDiff,Nat.reduceAdd,Nat.reduceMul,Nat.reduceLT,Nat.reduceLeDiff,hsC,c0,c1,c2,hu,d12,d2,d14,d13,aj,cT,ah,aW,aS,e0,e1])
   |refine ax rfl (gB _ _) (λ_=>rfl) ?_
   |(refine aJ (λh=>?_) (λh=>?_)<;>simp_all only[dq,cO,ay]))
 .have hu:usL.getD 8 us0=usL.getD 8 us0:=rfl
  conv at hu=>rhs;simp only[usL,us0,bg,bA]
  have d12:decide ((8:Nat)=(12:Int))=false:=rfl;have d2:decide ((8:Nat)=(2:Int))=false:=rfl;have d14:decide ((8:Nat)=(14:Int))=false:=rfl;have d13:decide ((13:Int)<=(8:Nat))=false:=rfl;have d15:decide ((8:Nat)<=(15:Int))=true:=rfl;rcases e0:eD s.hs a with _ | x0<;>rcases e1:eD s.its m with _ | x1
  all_goals simp only[gC,cT,e0,e1,aW,aS,cK,cv]
  all_goals repeat (first
   |(simp only[zF,↓reduceIte,Nat.reduceEqDiff,Nat.reduceAdd,Nat.reduceMul,Nat.reduceLT,Nat.reduceLeDiff,tsC,hsC,c0,c1,c3,hu,d12,d2,d14,d13,aj,cT,ah,aW,aS,e0,e1])
   |refine ax rfl (gB _ _) (λ_=>rfl) ?_
   |(refine aJ (λh=>?_) (λh=>?_)<;>simp_all only[dq,cO,ay]))
 .have hu:usL.getD 9 us0=usL.getD 9 us0:=rfl
  conv at hu=>rhs;simp only[usL,us0,bg,bA]
  have d12:decide ((9:Nat)=(12:Int))=false:=rfl;have d2:decide ((9:Nat)=(2:Int))=false:=rfl;have d14:decide ((9:Nat)=(14:Int))=false:=rfl;have d13:decide ((13:Int)<=(9:Nat))=false:=rfl;have d15:decide ((9:Nat)<=(15:Int))=true:=rfl;rcases e0:eD s.hs a with _ | x0<;>rcases e1:eD s.hs b with _ | x1
  all_goals simp only[gC,cT,e0,e1,aW,aS,cK,cv]
  all_goals repeat (first
   |(simp only[zF,↓reduceIte,Nat.reduceEqDiff,Nat.reduceAdd,Nat.reduceMul,Nat.reduceLT,Nat.reduceLeDiff,hsC,c0,c1,c2,hu,d12,d2,d14,d13,aj,cT,ah,aW,aS,e0,e1])
   |refine ax rfl (gB _ _) (λ_=>rfl) ?_
   |(refine aJ (λh=>?_) (λh=>?_)<;>simp_all only[dq,cO,ay]))
 .have hu:usL.getD 10 us0=usL.getD 10 us0:=rfl
  conv at hu=>rhs;simp only[usL,us0,bg,bA]
  have d12:decide ((10:Nat)=(12:Int))=false:=rfl;have d2:decide ((10:Nat)=(2:Int))=false:=rfl;have d14:decide ((10:Nat)=(14:Int))=false:=rfl;have d13:decide ((13:Int)<=(10:Nat))=false:=rfl;have d15:decide ((10:Nat)<=(15:Int))=true:=rfl;rcases e0:eD s.hs a with _ | x0<;>rcases e1:eD s.its m with _ | x1<;>rcases e2:eD p.types t with _ | x2
  all_goals simp only[gC,cT,e0,e1,e2,aW,aS,cK,cv]
  all_goals repeat (first
   |(simp only[aaZ,↓reduceIte,Nat.reduceEqDiff,Nat.reduceAdd,Nat.reduceMul,Nat.reduceLT,Nat.reduceLeDiff,tsC,hsC,c0,c1,c3,c4,hu,d12,d2,d14,d13,aj,cT,ah,aW,aS,e0,e1,e2])
   |refine ax rfl (gB _ _) (λ_=>rfl) ?_
   |(refine aJ (λh=>?_) (λh=>?_)<;>simp_all only[dq,cO,ay]))
 .have hu:usL.getD 11 us0=usL.getD 11 us0:=rfl
  conv at hu=>rhs;simp only[usL,us0,bg,bA]
  have d12:decide ((11:Nat)=(12:Int))=false:=rfl;have d2:decide ((11:Nat)=(2:Int))=false:=rfl;have d14:decide ((11:Nat)=(14:Int))=false:=rfl;have d13:decide ((13:Int)<=(11:Nat))=false:=rfl;have d15:decide ((11:Nat)<=(15:Int))=true:=rfl;rcases e0:eD s.hs a with _ | x0<;>rcases e1:eD p.types t with _ | x1
  all_goals simp only[gC,cT,e0,e1,aW,aS,cK,cv]
  all_goals repeat (first
   |(simp only[aaZ,↓reduceIte,Nat.reduceEqDiff,Nat.reduceAdd,Nat.reduceMul,Nat.reduceLT,Nat.reduceLeDiff,hsC,c0,c1,c4,hu,d12,d2,d14,d13,aj,cT,ah,aW,aS,e0,e1])
   |refine ax rfl (gB _ _) (λ_=>rfl) ?_
   |(refine aJ (λh=>?_) (λh=>?_)<;>simp_all only[dq,cO,ay]))
 .have hu:usL.getD 12 us0=usL.getD 12 us0:=rfl
  conv at hu=>rhs;simp only[usL,us0,bg,bA]
  have d12:decide ((12:Nat)=(12:Int))=true:=rfl;have d2:decide ((12:Nat)=(2:Int))=false:=rfl;have d14:decide ((12:Nat)=(14:Int))=false:=rfl;have d13:decide ((13:Int)<=(12:Nat))=false:=rfl;have d15:decide ((12:Nat)<=(15:Int))=true:=rfl;cases e0:inI t 2147483648
  all_goals simp only[gC,e0]
  all_goals repeat (first
   |(simp only[pkA,ptA,Cd,↓reduceIte,Nat.reduceEqDiff,Nat.reduceAdd,Nat.reduceMul,Nat.reduceLT,Nat.reduceLeDiff,c0,c4,hu,d12,d2,d14,d13,ah,e0])
   |refine ax rfl (gB _ _) (λ_=>rfl) ?_
   |(refine aJ (λh=>?_) (λh=>?_)<;>simp_all only[dq,cO,ay]))
 .have hu:usL.getD 13 us0=usL.getD 13 us0:=rfl
  conv at hu=>rhs;simp only[usL,us0,bg,bA]
  have d12:decide ((13:Nat)=(12:Int))=false:=rfl;have d2:decide ((13:Nat)=(2:Int))=false:=rfl;have d14:decide ((13:Nat)=(14:Int))=false:=rfl;have d13:decide ((13:Int)<=(13:Nat))=true:=rfl;have d15:decide ((13:Nat)<=(15:Int))=true:=rfl;rcases e0:eD s.its a with _ | x0<;>rcases e1:eD s.its m with _ | x1
  all_goals simp only[gC,rh,cT,e0,e1,aW,aS,dI,eJ,cv]
  all_goals repeat (first
   |(simp only[pkA,ptA,pkS,Cd,pkT,↓reduceIte,Nat.reduceEqDiff,Nat.reduceAdd,Nat.reduceMul,Nat.reduceLT,Nat.reduceLeDiff,tsC,c0,c1,c3,hu,d12,d2,d14,d13,d15,aj,cT,ah,aW,aS,e0,e1])
   |refine ax rfl (gB _ _) (λ_=>rfl) ?_
   |refine kQ e0 ?_
   |(refine ax rfl (oZ (hS.iv _ (jQ e0)).1) (λ_=>rfl) ?_;cases aeY:dF x0)
   |(refine aJ (λh=>?_) (λh=>?_)<;>simp_all only[dq,cO,ay]))
 .have hu:usL.getD 14 us0=usL.getD 14 us0:=rfl
  conv at hu=>rhs;simp only[usL,us0,bg,bA]
  have d12:decide ((14:Nat)=(12:Int))=false:=rfl;have d2:decide ((14:Nat)=(2:Int))=false:=rfl;have d14:decide ((14:Nat)=(14:Int))=true:=rfl;have d13:decide ((13:Int)<=(14:Nat))=true:=rfl;have d15:decide ((14:Nat)<=(15:Int))=true:=rfl;rcases e0:eD s.its a with _ | x0<;>rcases e1:eD s.its m with _ | x1<;>rcases e2:eD p.types t with _ | x2
  all_goals simp only[gC,rh,cT,e0,e1,e2,aW,aS,dI,eJ,cv]
  all_goals repeat (first
   |(simp only[V3,↓reduceIte,Nat.reduceEqDiff,Nat.reduceAdd,Nat.reduceMul,Nat.reduceLT,Nat.reduceLeDiff,tsC,c0,c1,c3,c4,hu,d12,d2,d14,d13,d15,aj,cT,ah,aW,aS,e0,e1,e2])
   |refine ax rfl (gB _ _) (λ_=>rfl) ?_
   |refine kQ e0 ?_
   |(refine ax rfl (oZ (hS.iv _ (jQ e0)).1) (λ_=>rfl) ?_;cases aeY:dF x0)
   |refine kQ e1 ?_
   |(refine ax rfl (oZ (hS.iv _ (jQ e1)).1) (λ_=>rfl) ?_;cases amT:dF x1)
   |(refine aJ (λh=>?_) (λh=>?_)<;>simp_all only[dq,cO,ay]))
 .have hu:usL.getD 15 us0=usL.getD 15 us0:=rfl
  conv at hu=>rhs;simp only[usL,us0,bg,bA]
  have d12:decide ((15:Nat)=(12:Int))=false:=rfl;have d2:decide ((15:Nat)=(2:Int))=false:=rfl;have d14:decide ((15:Nat)=(14:Int))=false:=rfl;have d13:decide ((13:Int)<=(15:Nat))=true:=rfl;have d15:decide ((15:Nat)<=(15:Int))=true:=rfl;rcases e0:eD s.its a with _ | x0<;>rcases e1:eD p.types t with _ | x1
  all_goals simp only[gC,rh,cT,e0,e1,aW,aS,dI,eJ,cv]
  all_goals repeat (first
   |(simp only[V3,↓reduceIte,Nat.reduceEqDiff,Nat.reduceAdd,Nat.reduceMul,Nat.reduceLT,Nat.reduceLeDiff,tsC,c0,c1,c4,hu,d12,d2,d14,d13,d15,aj,cT,ah,aW,aS,e0,e1])
   |refine ax rfl (gB _ _) (λ_=>rfl) ?_
   |refine kQ e0 ?_
   |(refine ax rfl (oZ (hS.iv _ (jQ e0)).1) (λ_=>rfl) ?_;cases aeY:dF x0)
   |(refine aJ (λh=>?_) (λh=>?_)<;>simp_all only[dq,cO,ay]))
 .have hu:usL.getD 16 us0=usL.getD 16 us0:=rfl
  conv at hu=>rhs;simp only[usL,us0,bg,bA]
  have d12:decide ((16:Nat)=(12:Int))=false:=rfl;have d2:decide ((16:Nat)=(2:Int))=false:=rfl;have d14:decide ((16:Nat)=(14:Int))=false:=rfl;have d13:decide ((13:Int)<=(16:Nat))=true:=rfl;have d15:decide ((16:Nat)<=(15:Int))=false:=rfl;rcases e0:eD s.its a with _ | x0<;>rcases e1:eD s.its m with _ | x1
  all_goals simp only[gC,cT,e0,e1,aW,aS,cK,cv]
  all_goals repeat (first
   |(simp only[zF,↓reduceIte,Nat.reduceEqDiff,Nat.reduceAdd,Nat.reduceMul,Nat.reduceLT,Nat.reduceLeDiff,tsC,c0,c1,c3,hu,d12,d2,d14,d13,d15,aj,cT,ah,aW,aS,e0,e1])
   |refine ax rfl (gB _ _) (λ_=>rfl) ?_
   |(refine aJ (λh=>?_) (λh=>?_)<;>simp_all only[dq,cO,ay]))
theorem kV {s:Sy} {k:Int} {x:Hd} {K:V->Prop} (h:eD s.hs k=some x) (hK:K (.c (.rp (hdC x) 0))):bK Tryz.prog 32 (.c (.sl (s.hs.map hdC))) (i64 k) K:=by obtain⟨i,rfl,hi,rfl⟩:=qX h;exact cR ko rfl iT (by decide) (aC i) (c:=hdC s.hs[i]) (by simp[hi]) (ek _) hK
theorem LO {p:Pol} {s:Sy} {c:Cl} (h:m9 p s c=true):c.kind=1∨c.kind=2∨c.kind=3∨c.kind=4∨c.kind=5∨c.kind=6∨c.kind=7∨c.kind=8∨c.kind=9∨c.kind=10∨c.kind=11∨c.kind=12∨c.kind=13∨c.kind=14∨c.kind=15∨c.kind=16:=by simp only[m9,aA] at h;have:=D6 h.1;omega
theorem GF {p:Pol} {s:Sy} {c:Cl} (h:m9 p s c=true):gC p s c c.kind.toNat=true:=by simp only[m9,aA] at h;exact h.2.2
theorem fA {α:Type} {l:List α} {k:Int} (h:inI k l.length=true):∃ x,eD l k=some x:=by rw[cT] at h;exact ib.1 h
def zG:=jj @pkA (jj @ptA (jj @pkS @Kp.pkP))
def zH:=jj @pkA (jj @ptA @pkH)
def aa0:=jj @pkA (jj @ptA (jj @pkS @pkH))
theorem V5 {p:Pol} {s:Sy} {c:Cl} (hp:POk p) (hS:SyOk s) (hf:m9 p s c=true):FnOK Tryz.prog glM 37 [.agg (poC p),.agg (syC s),.agg (clC c)] (bo (gY p s c c.kind.toNat)):=by
 have hk:=LO hf;have hF:=GF hf;obtain⟨k,a,b,m,t⟩:=c;simp only at hk hF ⊢
 have c0:∀ k nb q K,ldB nb q ((clC ⟨k,a,b,m,t⟩).map V.c) 0 K=(q<nb/\K (i64 k)):=λ_ _ _ _=>rfl;have c1:∀ k nb q K,ldB nb q ((clC ⟨k,a,b,m,t⟩).map V.c) 1 K=(q<nb/\K (i64 a)):=λ_ _ _ _=>rfl;have c2:∀ k nb q K,ldB nb q ((clC ⟨k,a,b,m,t⟩).map V.c) 2 K=(q<nb/\K (i64 b)):=λ_ _ _ _=>rfl;have c4:∀ k nb q K,ldB nb q ((clC ⟨k,a,b,m,t⟩).map V.c) 4 K=(q<nb/\K (i64 t)):=λ_ _ _ _=>rfl;have has:=λ(t f:Int) (h:I64 f)=>VV (G:=glM) p t f h;have may:=λ(k a b:Int)=>NK (G:=glM) p k a b (by have:=hp.r;omega);refine bD (rs:=[.tmp 6]) false [] mixed Tryz.func37 rfl rfl rfl rfl (by kernel_rfl) (by simp) rfl rfl ?_;rcases hk with rfl | rfl | rfl | rfl | rfl | rfl | rfl | rfl | rfl | rfl | rfl | rfl | rfl | rfl | rfl | rfl
 .simp only[V2,↓reduceIte,Nat.reduceEqDiff,Nat.reduceAdd,Nat.reduceMul,Nat.reduceLT,c0,c4,ah]
  refine ax rfl (has t 1 ⟨by decide,by decide⟩) (λ_=>rfl) ?_;simp only[pkA,↓reduceIte];simp only[Int.reduceToNat,gY]
 .simp only[V2,↓reduceIte,Nat.reduceEqDiff,Nat.reduceAdd,Nat.reduceMul,Nat.reduceLT,c0,c4,Int.reduceEq,ah,aO]
  refine ax rfl (has t 2 ⟨by decide,by decide⟩) (λ_=>rfl) ?_;simp only[pkA,↓reduceIte];simp only[Int.reduceToNat,gY]
 .simp only[Int.reduceToNat,gC] at hF
  obtain⟨x,e0⟩:=fA hF;simp only[zG,↓reduceIte,Nat.reduceEqDiff,Nat.reduceAdd,Nat.reduceMul,Nat.reduceLT,hsC,c0,c1,Int.reduceEq,ah,aO];refine kV e0 ?_;simp only[zH,↓reduceIte,Nat.reduceEqDiff,Nat.reduceAdd];refine ax rfl (has x.ty 4 ⟨by decide,by decide⟩) (λ_=>rfl) ?_;simp only[pkA,↓reduceIte];simp only[Int.reduceToNat,gY,hAt,e0,ba]
 .simp only[Int.reduceToNat,gC,aA] at hF
  obtain⟨x,e0⟩:=fA hF.1;simp only[zG,↓reduceIte,Nat.reduceEqDiff,Nat.reduceAdd,Nat.reduceMul,Nat.reduceLT,hsC,c0,c1,Int.reduceEq,ah,aO];refine kV e0 ?_;simp only[zH,↓reduceIte,Nat.reduceEqDiff,Nat.reduceAdd];refine ax rfl (has x.ty 8 ⟨by decide,by decide⟩) (λ_=>rfl) ?_;simp only[pkA,↓reduceIte];simp only[Int.reduceToNat,gY,hAt,e0,ba]
 .simp only[Int.reduceToNat,gC,aA] at hF
  obtain⟨x,e0⟩:=fA hF.1;simp only[zG,↓reduceIte,Nat.reduceEqDiff,Nat.reduceAdd,Nat.reduceMul,Nat.reduceLT,hsC,c0,c1,Int.reduceEq,ah,aO];refine kV e0 ?_;simp only[zH,↓reduceIte,Nat.reduceEqDiff,Nat.reduceAdd];refine ax rfl (has x.ty 16 ⟨by decide,by decide⟩) (λ_=>rfl) ?_;simp only[pkA,↓reduceIte];simp only[Int.reduceToNat,gY,hAt,e0,ba]
 .simp only[Int.reduceToNat,gC,aA] at hF
  obtain⟨x,e0⟩:=fA hF.1;simp only[zG,↓reduceIte,Nat.reduceEqDiff,Nat.reduceAdd,Nat.reduceMul,Nat.reduceLT,hsC,c0,c1,Int.reduceEq,ah,aO];refine kV e0 ?_;simp only[zH,↓reduceIte,Nat.reduceEqDiff,Nat.reduceAdd];refine ax rfl (has x.ty 32 ⟨by decide,by decide⟩) (λ_=>rfl) ?_;simp only[pkA,↓reduceIte];simp only[Int.reduceToNat,gY,hAt,e0,ba]
 .simp only[Int.reduceToNat,gC,aA] at hF
  obtain⟨x,e0⟩:=fA hF.1;obtain⟨y,e1⟩:=fA hF.2;simp only[zG,↓reduceIte,Nat.reduceEqDiff,Nat.reduceAdd,Nat.reduceMul,Nat.reduceLT,hsC,c0,c1,Int.reduceEq,ah,aO];refine kV e0 ?_;simp only[aa0,↓reduceIte,Nat.reduceEqDiff,Nat.reduceAdd,Nat.reduceMul,Nat.reduceLT,hsC,c2,ah];refine kV e1 ?_;simp only[zH,↓reduceIte,Nat.reduceEqDiff,Nat.reduceAdd];refine ax rfl (may 1 x.ty y.ty) (λ_=>rfl) ?_;simp only[pkA,↓reduceIte];simp only[Int.reduceToNat,gY,hAt,e0,e1,ba]
 .simp only[vt,↓reduceIte,Nat.reduceEqDiff,Nat.reduceAdd,Nat.reduceMul,Nat.reduceLT,c0,Int.reduceEq,ah,aO]
  simp only[Int.reduceToNat,gY]
 .simp only[Int.reduceToNat,gC,aA] at hF
  obtain⟨x,e0⟩:=fA hF.1;obtain⟨y,e1⟩:=fA hF.2;simp only[zG,↓reduceIte,Nat.reduceEqDiff,Nat.reduceAdd,Nat.reduceMul,Nat.reduceLT,hsC,c0,c1,Int.reduceEq,ah,aO];refine kV e0 ?_;simp only[aa0,↓reduceIte,Nat.reduceEqDiff,Nat.reduceAdd,Nat.reduceMul,Nat.reduceLT,hsC,c2,ah];refine kV e1 ?_;simp only[zH,↓reduceIte,Nat.reduceEqDiff,Nat.reduceAdd];refine ax rfl (may 3 x.ty y.ty) (λ_=>rfl) ?_;simp only[pkA,↓reduceIte];simp only[Int.reduceToNat,gY,hAt,e0,e1,ba]
 .simp only[Int.reduceToNat,gC,aA] at hF
  obtain⟨x,e0⟩:=fA hF.1;simp only[zG,↓reduceIte,Nat.reduceEqDiff,Nat.reduceAdd,Nat.reduceMul,Nat.reduceLT,hsC,c0,c1,Int.reduceEq,ah,aO];refine kV e0 ?_;simp only[zH,↓reduceIte,Nat.reduceEqDiff,Nat.reduceAdd,Nat.reduceMul,Nat.reduceLT,c4,ah];refine ax rfl (may 4 x.ty t) (λ_=>rfl) ?_;simp only[pkA,↓reduceIte];simp only[Int.reduceToNat,gY,hAt,e0,ba]
 .simp only[Int.reduceToNat,gC,aA] at hF
  obtain⟨x,e0⟩:=fA hF.1;simp only[zG,↓reduceIte,Nat.reduceEqDiff,Nat.reduceAdd,Nat.reduceMul,Nat.reduceLT,hsC,c0,c1,Int.reduceEq,ah,aO];refine kV e0 ?_;simp only[zH,↓reduceIte,Nat.reduceEqDiff,Nat.reduceAdd,Nat.reduceMul,Nat.reduceLT,c4,ah];refine ax rfl (may 5 x.ty t) (λ_=>rfl) ?_;simp only[pkA,↓reduceIte];simp only[Int.reduceToNat,gY,hAt,e0,ba]
 .simp only[vt,↓reduceIte,Nat.reduceEqDiff,Nat.reduceAdd,Nat.reduceMul,Nat.reduceLT,c0,Int.reduceEq,ah,aO]
  simp only[Int.reduceToNat,gY]
 .simp only[vt,↓reduceIte,Nat.reduceEqDiff,Nat.reduceAdd,Nat.reduceMul,Nat.reduceLT,c0,Int.reduceEq,ah,aO]
  simp only[Int.reduceToNat,gY]
 .simp only[vt,↓reduceIte,Nat.reduceEqDiff,Nat.reduceAdd,Nat.reduceMul,Nat.reduceLT,c0,Int.reduceEq,ah,aO]
  simp only[Int.reduceToNat,gY]
 .simp only[vt,↓reduceIte,Nat.reduceEqDiff,Nat.reduceAdd,Nat.reduceMul,Nat.reduceLT,c0,Int.reduceEq,ah,aO]
  simp only[Int.reduceToNat,gY]
 .simp only[vt,↓reduceIte,Nat.reduceEqDiff,Nat.reduceAdd,Nat.reduceMul,Nat.reduceLT,c0,Int.reduceEq,ah,aO]
  simp only[Int.reduceToNat,gY]
