/- Layer 18: the law SaturateReaches, as a contract. -/
import Derived.Test.YtjfjdomfldolcaaGreatVlZ3
import Derived.Test.YtjfjdomfldolcaaGreatVlLaw
set_option linter.all false
namespace Go.Proofs.YtjfjdomfldolcaaGreat
open Go Go.Vl
variable {G:Gl}
set_option maxRecDepth 10000
theorem VH:∀ i,i<64→(64#64).getLsbD i=decide (i=6):=by decide
theorem afK (x:BitVec 64):(x &&&64#64=0)↔¬ (64#64 &&&~~~x=0):=by
 constructor
 ·intro h h2
  have h3:=dK (fun z=>z.getLsbD 6) h
  have h4:=dK (fun z=>z.getLsbD 6) h2
  simp[VH 6 (by decide)] at h3 h4
  rw[h3] at h4;cases h4
 ·intro h
  apply iK
  intro i hi
  by_cases h6:i=6
  ·subst h6
   cases hx:x.getLsbD 6
   ·rw[BitVec.getLsbD_and,hx];simp
   ·exfalso
    apply h
    apply iK
    intro j hj
    rw[BitVec.getLsbD_and,VH j hj]
    by_cases hj6:j=6
    ·subst hj6;rw[BitVec.getLsbD_not,hx];simp
    ·simp[hj6]
  ·rw[BitVec.getLsbD_and,VH i hi];simp[h6]
theorem aiS (f:Int):decide (bits .and .i64 f 64=0)=!Aq 64 f:=by
 unfold Aq
 rw[Ii,qL]
 have e:BitVec.ofInt 64 64=64#64:=rfl
 rw[e]
 have h1:((BitVec.ofInt 64 f &&&64#64).toInt=0)↔(BitVec.ofInt 64 f &&&64#64=0):=⟨fun h=>jx (by rw[h];rfl),fun h=>by rw[h];rfl⟩
 have h2:((64#64 &&&~~~BitVec.ofInt 64 f).toInt=0)↔(64#64 &&&~~~BitVec.ofInt 64 f=0):=⟨fun h=>jx (by rw[h];rfl),fun h=>by rw[h];rfl⟩
 rw[kF,fJ,h1,afK]
 simp only[dJ,cQ,h2]
def kC (p:Pol) (f:Fa):Bool:=(decide (f.kind=3)||decide (f.kind=4))&&(decide (1≤f.a)&&(decide (f.a≤p.types.length)&&pT p (f.a - 1).toNat 64))
theorem Jr {p:Pol} {f:Fa}:∀ n,f∈uH p n↔∃ t,t<n∧pT p t 64=true∧(f=fC ((t:Int)+1)∨f=pR ((t:Int)+1))
 |0=>by simp[uH]
 |n+1=>by
  unfold uH
  rw[aV,Jr n]
  unfold LI
  constructor
  ·rintro(⟨t,h1,h2⟩ | h)
   ·exact⟨t,by omega,h2⟩
   ·split at h
    ·rename_i h3
     simp only[aK,bn,dc] at h
     exact⟨n,by omega,h3,h⟩
    ·cases h
  ·rintro⟨t,h1,h2,h3⟩
   by_cases ht:t=n
   ·subst ht
    right
    rw[if_pos h2];simpa using h3
   ·exact .inl ⟨t,by omega,h2,h3⟩
theorem P8 {p:Pol} {f:Fa} (h:f∈aL (fg p)):oN p f=true:=by
 obtain⟨w,hw,rfl⟩:=bj.1 h
 obtain⟨x,hx,_,_,hc⟩:=(qc _).2 w hw
 obtain⟨k,_,_,hg⟩:=IW hx
 exact hg.vc _ hc
theorem Dg (p:Pol):StF (dP p):=by
 have:=yq p
 unfold dP aL StF
 rw[List.pairwise_map];exact this
theorem VI {p:Pol}:sZ p=(dP p).filter (kC p):=by
 refine Cm ((uO _).filter _) ((Dg p).filter _) fun f=>?_
 unfold sZ
 rw[cH,cH,wW]
 unfold j4
 rw[zT,Jr,fJ]
 constructor
 ·rintro⟨⟨t,h1,h2,h3⟩,h4⟩
  refine⟨h4,?_⟩
  have e:((t:Int)+1 - 1).toNat=t:=by omega
  rcases h3 with rfl | rfl
  ·simp only[kC,fC,e,h2,jd,aS]
   exact⟨rfl,cu (by omega),cu (by omega)⟩
  ·simp only[kC,pR,e,h2,jd,aS]
   exact⟨rfl,cu (by omega),cu (by omega)⟩
 ·rintro⟨h4,h5⟩
  refine⟨?_,h4⟩
  have hv:=P8 h4
  unfold kC at h5
  simp only[aS,eV,bJ] at h5
  obtain⟨hk,h1,h2,h3⟩:=h5
  have hb:f.b=0:=by
   unfold oN at hv
   rw[if_neg (by omega),if_neg (by omega),if_pos hk] at hv
   simp only[aS,bJ] at hv
   exact hv.2
  refine⟨(f.a - 1).toNat,by omega,h3,?_⟩
  have e:(((f.a - 1).toNat:Nat):Int)+1=f.a:=by omega
  rw[e]
  rcases hk with hk | hk
  ·left;exact Ly hk rfl hb
  ·right;exact Ly hk rfl hb
def ql:=jj @pkA (jj @ptA (jj @pkI @gj))
def lj:=jj @pkA @gj
def abQ:=jj @pkA (jj @ptA @gj)
set_option maxHeartbeats 8000000 in
theorem Dh (p:Pol):FnOK Tryz.prog G 7 [.agg (poC p)] (bo true):=by
 refine cL (rs:=[.tmp 2]) false [68] mixed Tryz.func7 rfl rfl rfl rfl (by kernel_rfl) (by simp) rfl rfl ?_
 simp only[ql,seval]
 refine aB rfl (qg p) (fun _=>rfl) ?_
 cases hs:(decide ((p.types.length:Int)≤4)&&decide ((p.rules.length:Int)≤8))
 ·simp only[lj,seval]
  refine aB rfl jH (fun _=>rfl) ?_
  simp only[lj,seval]
 ·have hs:(p.types.length:Int)≤4∧(p.rules.length:Int)≤8:=by simpa using hs
  have hp:PolS p:=⟨by omega,by omega⟩
  have kP:=Cp hp
  simp only[ql,seval]
  refine aB rfl (yj hp) (fun h=>by cases h) ?_
  simp only[lj,seval]
  refine bE (fun i:Nat=>hdS [(1,.bp 0 0),(4,.c (fsC (dP p))),(5,owF (((dP p).take i).filter (kC p))),(6,i64 i)] [(poC p).map .c]) (fun i=>(dP p).length - i) (fun i=>i≤(dP p).length) 0 (ar _) ?_ ?_
  ·exact cD rfl (ar _) (ab 1) (by simp[FL,ak,owF]) ⟨rfl,trivial⟩
  rintro i hi R cj cJ eP
  have r0:∀ nb q (K:V→Prop),ldB nb q ((poC p).map .c) 1 K=(q<nb∧K (.c (.sl (p.types.map tyC)))):=fun _ _ _=>rfl
  have r1:∀ (K:V→Prop),hJ Tryz.prog 22 (.c (.sl (p.types.map tyC))) K=K (i64 p.types.length):=fun K=>by rw[jw pQ rfl,au]
  simp only[pkA,gj,pkY,seval]
  refine aT (fun bK=>?_) (fun gr=>?_)
  ·have bK:i<(dP p).length:=by simpa using bK
   have hw:=bG (n:=(i:Int)+1) (k:=i+1) (by omega) (by omega)
   have ei:((i+1:Nat):Int)=(i:Int)+1:=by omega
   obtain⟨f,hf⟩:∃ x,x=(dP p)[i]:=⟨_,rfl⟩
   have ixf:∀ {K:V→Prop},K (.c (.rp (faC f) 0))→cE Tryz.prog 37 (.c (.sl ((dP p).map faC))) (i64 i) K:=fun {K} hK=>
    dR fk rfl eY (by decide) (aA i) (c:=faC f) (by simp[bK,hf]) rfl hK
   have r5:jY 3 [(0,V.agg (faC f))] [[C.lit (Value.int IntKind.i64 0),C.lit (Value.int IntKind.i64 0),C.lit (Value.int IntKind.i64 0)]]=some [faC f]:=rfl
   have NS:∀ (b:Bool) (fr:Nat→V),kC p f=b→fr 1=.bp 0 0→fr 4=.c (.sl ((dP p).map faC))→fr 5=owF (if b then((dP p).take i).filter (kC p)++[f] else((dP p).take i).filter (kC p))→fr 6=i64 (i+1:Nat)→R .normal ⟨fr,bxs [(poC p).map .c],1⟩:=by
    intro b fr hb f1 f4 f5 f6
    refine cj (i+1) _ bK (by omega) (cD rfl (ar _) (ab 1) ?_ ⟨rfl,trivial⟩)
    have e:((dP p).take (i+1)).filter (kC p)=if b then((dP p).take i).filter (kC p)++[f] else((dP p).take i).filter (kC p):=by
     rw[aC bK,fG,← hf]
     cases b<;>simp[hb]
    rw[e]
    exact⟨f1,f4,f5,f6,trivial⟩
   have va:∀ (x y:Int) (K:V→Prop),pA .and .i64 x y K=K (i64 (bits .and .i64 x y)):=fun _ _ _=>rfl
   have CJ:decide (f.a≥1)=true→decide (f.a≤(p.types.length:Nat))=true→pT p (f.a - 1).toNat 64=!decide (bits .and .i64 (p.types.getD (f.a - 1).toNat ⟨⟨#[]⟩,0,0⟩).flags 64=0):=fun h2 h3=>by
    have h2:=bX h2
    have h3:=bX h3
    have sA:(f.a - 1).toNat<p.types.length:=by omega
    rw[aiS,Bool.not_not]
    unfold pT
    rw[ae sA,aw,ae sA];rfl
   have fc:decide (f.a≥1)=true→decide (f.a≤(p.types.length:Nat))=true→IntKind.i64.wrap (f.a - 1)=((f.a - 1).toNat:Nat):=fun h2 h3=>by
    have h2:=bX h2
    have h3:=bX h3
    exact bG (by omega) (by omega)
   have ixt:decide (f.a≥1)=true→decide (f.a≤(p.types.length:Nat))=true→∀ {K:V→Prop},K (.c (.rp (tyC (p.types.getD (f.a - 1).toNat ⟨⟨#[]⟩,0,0⟩)) 0))→cE Tryz.prog 22 (.c (.sl (p.types.map tyC))) (.c (.lit (.int .i64 ((f.a - 1).toNat:Nat)))) K:=fun h2 h3 {K} hK=>by
    have h2:=bX h2
    have h3:=bX h3
    have sA:(f.a - 1).toNat<p.types.length:=by omega
    exact dR pQ rfl oS (by decide) (aA _) (c:=tyC (p.types.getD (f.a - 1).toNat ⟨⟨#[]⟩,0,0⟩)) (by rw[c7,bb,ae sA,aw,ae sA];rfl) rfl hK
   simp only[lj,seval,fsC]
   refine ixf ?_
   simp only[ql,seval]
   refine fY (fun h1=>?_) (fun h1=>?_)
   ·simp only[lj,seval]
    refine ixf ?_
    simp only[ql,seval]
    refine fY (fun h0=>?_) (fun h0=>?_)
    ·simp only[lj,seval]
     refine ixf ?_
     simp only[ql,seval]
     refine fY (fun h2=>?_) (fun h2=>?_)
     ·simp only[lj,seval]
      refine ixf ?_
      simp only[ql,seval,r0,r1]
      refine fY (fun h3=>?_) (fun h3=>?_)
      ·have JV:=CJ h2 h3
       simp only[abQ,seval,r0]
       refine ixf ?_
       simp only[ql,seval,fc h2 h3]
       refine ixt h2 h3 ?_
       simp only[ql,seval,va]
       refine aT (fun h4=>?_) (fun h4=>?_)
       ·rw[h4] at JV
        simp only[lj,seval,iY,h4]
        refine ixf ?_
        simp only[ql,seval,r5,cG]
        refine pY (by have:=ck (kC p) ((dP p).take i);rw[aN] at this;omega) ?_
        simp only[lj,seval,iY,hw]
        refine NS true _ (by clear fc ixt CJ hf;unfold kC;simp_all<;>(intros;exfalso;omega)) ?_ ?_ ?_ ?_
        all_goals simp[ak,ei]
       ·rw[h4] at JV
        simp only[lj,seval,hw]
        refine NS false _ (by clear fc ixt CJ hf;unfold kC;simp_all<;>(intros;exfalso;omega)) ?_ ?_ ?_ ?_
        all_goals simp[ak,ei]
      ·skip
       simp only[lj,seval,hw]
       refine NS false _ (by clear fc ixt CJ hf;unfold kC;simp_all<;>(intros;exfalso;omega)) ?_ ?_ ?_ ?_
       all_goals simp[ak,ei]
     ·skip
      simp only[lj,seval,hw]
      refine NS false _ (by clear fc ixt CJ hf;unfold kC;simp_all<;>(intros;exfalso;omega)) ?_ ?_ ?_ ?_
      all_goals simp[ak,ei]
    ·skip
     simp only[lj,seval,hw]
     refine NS false _ (by clear fc ixt CJ hf;unfold kC;simp_all<;>(intros;exfalso;omega)) ?_ ?_ ?_ ?_
     all_goals simp[ak,ei]
   ·simp only[lj,seval]
    refine ixf ?_
    simp only[ql,seval]
    refine fY (fun h2=>?_) (fun h2=>?_)
    ·simp only[lj,seval]
     refine ixf ?_
     simp only[ql,seval,r0,r1]
     refine fY (fun h3=>?_) (fun h3=>?_)
     ·have JV:=CJ h2 h3
      simp only[abQ,seval,r0]
      refine ixf ?_
      simp only[ql,seval,fc h2 h3]
      refine ixt h2 h3 ?_
      simp only[ql,seval,va]
      refine aT (fun h4=>?_) (fun h4=>?_)
      ·rw[h4] at JV
       simp only[lj,seval,iY,h4]
       refine ixf ?_
       simp only[ql,seval,r5,cG]
       refine pY (by have:=ck (kC p) ((dP p).take i);rw[aN] at this;omega) ?_
       simp only[lj,seval,iY,hw]
       refine NS true _ (by clear fc ixt CJ hf;unfold kC;simp_all<;>(intros;exfalso;omega)) ?_ ?_ ?_ ?_
       all_goals simp[ak,ei]
      ·rw[h4] at JV
       simp only[lj,seval,hw]
       refine NS false _ (by clear fc ixt CJ hf;unfold kC;simp_all<;>(intros;exfalso;omega)) ?_ ?_ ?_ ?_
       all_goals simp[ak,ei]
     ·skip
      simp only[lj,seval,hw]
      refine NS false _ (by clear fc ixt CJ hf;unfold kC;simp_all<;>(intros;exfalso;omega)) ?_ ?_ ?_ ?_
      all_goals simp[ak,ei]
    ·skip
     simp only[lj,seval,hw]
     refine NS false _ (by clear fc ixt CJ hf;unfold kC;simp_all<;>(intros;exfalso;omega)) ?_ ?_ ?_ ?_
     all_goals simp[ak,ei]
  ·have gr:(dP p).length≤i:=by simpa using gr
   have e:i=(dP p).length:=by omega
   subst e
   rw[bD]
   simp only[pkA]
   refine cJ _ _ ?_
   simp only[lj,seval]
   refine aB rfl jH (fun _=>rfl) ?_
   simp only[ql,seval]
   refine aB rfl (wT hp) (fun h=>by cases h) ?_
   simp only[lj,seval,nH]
   rw[VI]
   have aoy:=ck (kC p) (dP p)
   refine aB («as»:=[.c (fsC ((dP p).filter (kC p))),.c (fsC ((dP p).filter (kC p)))]) rfl (qV _ _ (by omega)) (fun _=>rfl) ?_
   rw[cu rfl]
   simp only[lj,seval]
