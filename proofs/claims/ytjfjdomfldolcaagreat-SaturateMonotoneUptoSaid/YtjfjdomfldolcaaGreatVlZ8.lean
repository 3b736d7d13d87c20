/- Layer 18: the law SaturateMonotone, as a contract. -/
import Derived.Test.YtjfjdomfldolcaaGreatVlZ7
set_option linter.all false
namespace Go.Proofs.YtjfjdomfldolcaaGreat
open Go Go.Vl
variable {G:Gl}
set_option maxRecDepth 10000
def Au (l:List Ty):V:=.ow (if l.isEmpty then none else some (51,3)) (l.map tyC)
theorem aaP {l:List Ty}:(Au l).fz=.c (.sl (l.map tyC)):=rfl
theorem VN {l m:List Ty} {K:V→Prop} (h:l.length+m.length≤1000000000) (hK:K (Au (l++m))):dN Tryz.prog 22 (Au l) (.c (.sl (m.map tyC))) K:=by
 unfold Au
 rw[aer]
 refine⟨⟨by cases l<;>simp,lz F9 _⟩,⟨by simp only[au];omega,by simp only[au];omega,lz F9 _⟩,?_⟩
 have e:(if(m.map tyC).isEmpty=true then(if l.isEmpty=true then none else some (51,3)) else some (51,3))=if(l++m).isEmpty=true then none else some (51,3):=by
  cases l<;>cases m<;>simp
 rw[e,← dj];exact hK
theorem abS {l m:List Ru} {K:V→Prop} (h:l.length+m.length≤1000000000) (hK:K (owR (l++m))):dN Tryz.prog 23 (owR l) (.c (.sl (m.map ruC))) K:=by
 unfold owR
 rw[TZ]
 refine⟨⟨by cases l<;>simp,lz AP _⟩,⟨by simp only[au];omega,by simp only[au];omega,lz AP _⟩,?_⟩
 have e:(if(m.map ruC).isEmpty=true then(if l.isEmpty=true then none else some (52,3)) else some (52,3))=if(l++m).isEmpty=true then none else some (52,3):=by
  cases l<;>cases m<;>simp
 rw[e,← dj];exact hK
theorem aaQ {f:Int} {K:V→Prop}:qG Tryz.prog 5 3 (.c (.lit (.int .u8 f))) K=K (i64 (IntKind.i64.wrap f)):=by
 simp only[qG,Te,rS]
theorem afV (x y:Int) (K:V→Prop):pA .and .i64 x y K=K (i64 (bits .and .i64 x y)):=rfl
theorem aiT (x y:Int) (K:V→Prop):pA .or .i64 x y K=K (i64 (bits .or .i64 x y)):=rfl
def byC (f:Int):List C:=[.lit (.int .u8 f)]
def mV (fs:List Int):List Int:=fs.map IntKind.i64.wrap
theorem EE {fs:List Int} {l:List Ty} {i:Nat} (h:i<l.length):ma fs (l.take (i+1))=ma fs (l.take i)++[upT fs i l[i]]:=by
 unfold ma
 rw[aC h,List.zipIdx_append,dj]
 simp[bO (Nat.le_of_lt h)]
theorem Cv {v:Value}:(exV v).ldv=exV v:=rfl
theorem Mb {fr:Nat→V} {bx:Nat→List V} {nb:Nat} {t:Tmp} {dO:Option Tmp} {b o:Nat} {l:List Ty} {K:Vl.S→Prop} (h:fr t=Au l):stS 1 (some t) dO b o (Au l) ⟨fr,bx,nb⟩ K=((b<nb∧o+1≤(bx b).length)∧K ((⟨up fr t .un,up bx b (fj (bx b) o [Au l]),nb⟩:Vl.S).put dO .sk)):=KY h
theorem VO {fr:Nat→V} {bx:Nat→List V} {nb:Nat} {t:Tmp} {dO:Option Tmp} {b o:Nat} {l:List Ru} {K:Vl.S→Prop} (h:fr t=owR l):stS 1 (some t) dO b o (owR l) ⟨fr,bx,nb⟩ K=((b<nb∧o+1≤(bx b).length)∧K ((⟨up fr t .un,up bx b (fj (bx b) o [owR l]),nb⟩:Vl.S).put dO .sk)):=KY h
def fB (w v:Wy):Bool:=decide (v.fact=w.fact)&&decide (v.round≤w.round)
theorem u3 {a b c d e:V}:fj [a,b,c,d] 1 [e]=[a,e,c,d]:=rfl
def EF:=jj @pkA (jj @ptA (jj @pkU @gj))
def ot:=jj @pkA (jj @ptA @gj)
def mz:=jj @pkA @gj
def abT:=jj @pkA (jj @gj @pkY)
def VP:=jj @pkA (jj @ptA (jj @gj @pkY))
set_option maxHeartbeats 8000000 in
theorem Cw (p:Pol) (fs:List Int) (ts:List Ty) (rs:List Ru) (h1:p.types.length+ts.length≤100000000) (h2:p.rules.length+rs.length≤100000000) (h3:fs.length≤1000000000) :
 FnOK Tryz.prog G 6 [.agg (poC p),.c (.sl (fs.map byC)),.c (.sl (ts.map tyC)),.c (.sl (rs.map ruC))] (bo true):=by
 refine cL (rs:=[.tmp 8]) false [2500023,2300008,2400054,2300009,2400059,2300010,2400065,2300011,2400070] mixed Tryz.func6 rfl rfl rfl rfl (by kernel_rfl) (by simp) rfl rfl ?_
 simp only[EF,seval]
 refine bE (fun i:Nat=>hdS [(1,.c (.sl (fs.map byC))),(2,.c (.sl (ts.map tyC))),(3,.c (.sl (rs.map ruC))),(4,.bp 0 0),(9,.bp 1 0),(10,i64 i)] [(poC p).map .c,[.c (.lit (.string p.name)),Au (ma (mV fs) (p.types.take i)),.ow none [],.c (.sl (p.quorums.map quC))]]) (fun i=>p.types.length - i) (fun i=>i≤p.types.length) 0 (ar _) ?_ ?_
 ·exact cD rfl (ar _) (ab _) (by simp[FL,ak]) ⟨rfl,rfl,trivial⟩
 rintro i hi R cj cJ eP
 have r0:∀ nb q (K:V→Prop),ldB nb q ((poC p).map .c) 1 K=(q<nb∧K (.c (.sl (p.types.map tyC)))):=fun _ _ _=>rfl
 have r1:∀ (K:V→Prop),hJ Tryz.prog 22 (.c (.sl (p.types.map tyC))) K=K (i64 p.types.length):=fun K=>by rw[jw pQ rfl,au]
 have rq:∀ a b c d e,cy [V.c a,Au b,V.ow c d,V.c e]=false:=fun _ _ _ _ _=>rfl
 simp only[ot,seval,r0,r1]
 refine aT (fun bK=>?_) (fun gr=>?_)
 ·have bK:i<p.types.length:=by simpa using bK
  have hw:=bG (n:=(i:Int)+1) (k:=i+1) (by omega) (by omega)
  have ei:((i+1:Nat):Int)=(i:Int)+1:=by omega
  obtain⟨t,hte⟩:∃ t,t=p.types[i]:=⟨_,rfl⟩
  have ix:∀ {K:V→Prop},K (.c (.rp (tyC t) 0))→cE Tryz.prog 22 (.c (.sl (p.types.map tyC))) (i64 i) K:=fun {K} hK=>
   dR pQ rfl oS (by decide) (aA i) (c:=tyC t) (by simp[bK,hte]) rfl hK
  simp only[ot,seval,r0]
  refine ix ?_
  simp only[EF,seval]
  have q2:∀ a b c:V,fj [a,b,c] 0 ((tyC t).map .c)=(tyC t).map .c:=fun _ _ _=>rfl
  have q3:∀ z:Int,fj ((tyC t).map V.c) 1 [i64 z]=(tyC { t with flags:=z }).map .c:=fun _=>rfl
  have q4:∀ nb q (K:V→Prop),ldB nb q ((tyC t).map .c) 1 K=(q<nb∧K (i64 t.flags)):=fun _ _ _=>rfl
  have q5:cy ((tyC t).map V.c)=false:=rfl
  refine aT (fun hf=>?_) (fun hf=>?_)
  ·have hf:i<fs.length:=by simpa using hf
   have ixf:∀ {K:V→Prop},K (.c (.rp (byC fs[i]) 0))→cE Tryz.prog 49 (.c (.sl (fs.map byC))) (i64 i) K:=fun {K} hK=>
    dR MY rfl Te (by decide) (aA i) (c:=byC fs[i]) (by simp[hf]) rfl hK
   have q6:∀ (s:Vl.S) (K:V→Prop),dh Tryz.prog 5 s (.c (.rp (byC fs[i]) 0)) K=K (.c (.lit (.int .u8 fs[i]))):=fun s K=>by
    simp only[dh,Te];rfl
   simp only[ot,seval,q2,q4,q5]
   refine ixf ?_
   simp only[ot,seval,q3,q5,q6,aaQ,afV,aiT]
   refine⟨show 2≤3 by decide,?_⟩
   have hup:upT (mV fs) i t={ t with flags:=bits .or .i64 t.flags (bits .and .i64 (IntKind.i64.wrap fs[i]) 127) }:=by
    unfold upT mV
    rw[bb,ae hf];rfl
   generalize htu:({ t with flags:=bits .or .i64 t.flags (bits .and .i64 (IntKind.i64.wrap fs[i]) 127) }:Ty)=tu at hup
   have u1:∀ nb q (K:V→Prop),ldA nb q ((tyC tu).map .c) 0 3 K=(q<nb∧K (.agg (tyC tu))):=fun nb q K=>by
    unfold ldA
    exact propext ⟨fun h=>⟨h.1,h.2.2⟩,fun h=>⟨h.1,⟨rfl,rfl⟩,h.2⟩⟩
   have u2:cy ((tyC tu).map V.c)=false:=rfl
   have r5:jY 3 [(0,V.agg (tyC tu))] [[C.lit (Value.string ⟨#[]⟩),C.lit (Value.int IntKind.i64 0),C.lit (Value.int IntKind.i64 0)]]=some [tyC tu]:=rfl
   have hsn:ma (mV fs) (p.types.take (i+1))=ma (mV fs) (p.types.take i)++[tu]:=by rw[EE bK,← hte,hup]
   refine lV 1 1 54 (E:=if(ma (mV fs) (p.types.take i)).isEmpty then none else some (51,3)) (es:=(ma (mV fs) (p.types.take i)).map tyC) rfl (show 1<3 by decide) rfl rfl ?_
   intro v
   simp only[ot,seval,Vl.S.split,cG,u1,u2,r5,Cv]
   refine mQ (v:=v) (E:=if(ma (mV fs) (p.types.take i)).isEmpty then none else some (51,3)) (es:=(ma (mV fs) (p.types.take i)).map tyC) rfl rfl (by decide) ?_
   simp only[pkA,seval]
   refine VN (l:=ma (mV fs) (p.types.take i)) (m:=[tu]) (by rw[sj,aN,bF];omega) ?_
   rw[← hsn]
   simp only[ot,seval,Mb,hw]
   exact cj (i+1) _ bK (by omega) (cD rfl (ar _) (show 2≤3 by decide) (by simp[FL,ak,ei]) (by simp[BL,ak,bxs]))
  ·have hf:fs.length≤i:=by simpa using hf
   have hup:upT (mV fs) i t=t:=by
    unfold upT mV
    rw[bb,bw hf];rfl
   simp only[mz,seval,q2]
   have u1:∀ nb q (K:V→Prop),ldA nb q ((tyC t).map .c) 0 3 K=(q<nb∧K (.agg (tyC t))):=fun nb q K=>by
    unfold ldA
    exact propext ⟨fun h=>⟨h.1,h.2.2⟩,fun h=>⟨h.1,⟨rfl,rfl⟩,h.2⟩⟩
   have u2:cy ((tyC t).map V.c)=false:=rfl
   have r5:jY 3 [(0,V.agg (tyC t))] [[C.lit (Value.string ⟨#[]⟩),C.lit (Value.int IntKind.i64 0),C.lit (Value.int IntKind.i64 0)]]=some [tyC t]:=rfl
   have hsn:ma (mV fs) (p.types.take (i+1))=ma (mV fs) (p.types.take i)++[t]:=by rw[EE bK,← hte,hup]
   refine lV 1 1 54 (E:=if(ma (mV fs) (p.types.take i)).isEmpty then none else some (51,3)) (es:=(ma (mV fs) (p.types.take i)).map tyC) rfl (show 1<3 by decide) rfl rfl ?_
   intro v
   simp only[ot,seval,Vl.S.split,cG,u1,u2,r5,Cv]
   refine mQ (v:=v) (E:=if(ma (mV fs) (p.types.take i)).isEmpty then none else some (51,3)) (es:=(ma (mV fs) (p.types.take i)).map tyC) rfl rfl (by decide) ?_
   simp only[pkA,seval]
   refine VN (l:=ma (mV fs) (p.types.take i)) (m:=[t]) (by rw[sj,aN,bF];omega) ?_
   rw[← hsn]
   simp only[ot,seval,Mb,hw]
   exact cj (i+1) _ bK (by omega) (cD rfl (ar _) (show 2≤3 by decide) (by simp[FL,ak,ei]) (by simp[BL,ak,bxs]))
 ·have gr:p.types.length≤i:=by simpa using gr
  have e:i=p.types.length:=by omega
  subst e
  rw[bD]
  simp only[pkA]
  refine cJ _ _ ?_
  simp only[mz,seval]
  have r2:∀ nb q (K:V→Prop),ldB nb q ((poC p).map .c) 2 K=(q<nb∧K (.c (.sl (p.rules.map ruC)))):=fun _ _ _=>rfl
  refine lV 1 1 59 (E:=if(ma (mV fs) p.types).isEmpty then none else some (51,3)) (es:=(ma (mV fs) p.types).map tyC) rfl (show 1<2 by decide) rfl rfl ?_
  intro v1
  simp only[ot,seval,Vl.S.split,cG,Cv]
  refine mQ (v:=v1) (E:=if(ma (mV fs) p.types).isEmpty then none else some (51,3)) (es:=(ma (mV fs) p.types).map tyC) rfl rfl (by decide) ?_
  simp only[pkA,seval]
  refine VN (l:=(ma (mV fs) p.types)) (m:=ts) (by rw[sj];omega) ?_
  simp only[ot,seval,Mb]
  refine lV 1 2 65 (E:=none) (es:=[]) rfl (show 1<2 by decide) rfl rfl ?_
  intro v2
  simp only[ot,seval,r2,Vl.S.split,cG,Cv]
  refine mQ (v:=v2) (E:=none) (es:=[]) rfl rfl (by decide) ?_
  simp only[pkA,seval]
  refine abS (l:=[]) (m:=p.rules) (by rw[aU];omega) ?_
  rw[eI]
  simp only[ot,seval,VO]
  refine lV 1 2 70 (E:=if(p.rules).isEmpty then none else some (52,3)) (es:=p.rules.map ruC) rfl (show 1<2 by decide) rfl rfl ?_
  intro v3
  simp only[ot,seval,Vl.S.split,cG,Cv]
  refine mQ (v:=v3) (E:=if(p.rules).isEmpty then none else some (52,3)) (es:=p.rules.map ruC) rfl rfl (by decide) ?_
  simp only[pkA,seval]
  refine abS (l:=p.rules) (m:=rs) (by omega) ?_
  simp only[EF,seval,aaP,VO]
  refine⟨rfl,?_⟩
  have hgr:tc p (Jz p (mV fs) ts rs):=Ma p _ ts rs
  have hqe:Jz p (mV fs) ts rs=⟨p.name,ma (mV fs) p.types++ts,p.rules++rs,p.quorums⟩:=rfl
  rw[hqe] at hgr
  have hxl:p.types.length≤(ma (mV fs) p.types++ts).length:=by rw[ai,sj];omega
  have hyl:p.rules.length≤(p.rules++rs).length:=by rw[ai];omega
  generalize ma (mV fs) p.types++ts=X at hgr hxl
  generalize p.rules++rs=Y at hgr hyl
  have r4:∀ (K:V→Prop),hJ Tryz.prog 23 (.c (.sl (p.rules.map ruC))) K=K (i64 p.rules.length):=fun K=>by rw[jw lJ rfl,au]
  have r6:cy [.c (.lit (.string p.name)),Au X,owR Y,.c (.sl (p.quorums.map quC))]=false:=rfl
  have u5:∀ nb q (K:V→Prop),ldA nb q [.c (.lit (.string p.name)),Au X,owR Y,.c (.sl (p.quorums.map quC))] 0 4 K=(q<nb∧K (.agg (poC ⟨p.name,X,Y,p.quorums⟩))):=fun nb q K=>by
   unfold ldA
   exact propext ⟨fun h=>⟨h.1,h.2.2⟩,fun h=>⟨h.1,⟨rfl,rfl⟩,h.2⟩⟩
  refine aB («as»:=[.agg (poC ⟨p.name,X,Y,p.quorums⟩)]) rfl (qg _) (fun _=>rfl) ?_
  show kY _ _ _ (bo (decide ((X.length:Int)≤4)&&decide ((Y.length:Int)≤8)))
  cases hs:(decide ((X.length:Int)≤4)&&decide ((Y.length:Int)≤8))
  ·simp only[mz,seval]
   refine aB rfl jH (fun _=>rfl) ?_
   simp only[mz,seval]
  ·have hs:(X.length:Int)≤4∧(Y.length:Int)≤8:=by simpa using hs
   have hp:PolS p:=⟨by omega,by omega⟩
   have hq:PolS ⟨p.name,X,Y,p.quorums⟩:=⟨show X.length≤7 by omega,show Y.length≤15 by omega⟩
   have hg:=L9 hgr
   have zZ:=jU p
   have WB:=hp.sat
   have hl3:=jU ⟨p.name,X,Y,p.quorums⟩
   have hl4:=hq.sat
   have hL1:=sd (G:=G) hp
   have hL2:=sd (G:=G) hq
   simp only[mz,seval]
   refine bE (fun i:Nat=>hdS [(4,.bp 0 0),(9,.bp 1 0),(13,i64 i)] [(poC p).map .c,[.c (.lit (.string p.name)),Au X,owR Y,.c (.sl (p.quorums.map quC))]]) (fun i=>p.rules.length - i) (fun i=>i≤p.rules.length) 0 (ar _) ?_ ?_
   ·exact cD rfl (ar _) (ab _) (by simp[FL,ak]) (by simp[BL,ak,bxs])
   rintro i hi R cj cJ eP
   simp only[ot,seval,r2,r4]
   refine aT (fun bK=>?_) (fun gr=>?_)
   ·have bK:i<p.rules.length:=by simpa using bK
    have hw:=bG (n:=(i:Int)+1) (k:=i+1) (by omega) (by omega)
    have ei:((i+1:Nat):Int)=(i:Int)+1:=by omega
    have ix:∀ {K:V→Prop},K (.c (.rp (ruC p.rules[i]) 0))→cE Tryz.prog 23 (.c (.sl (p.rules.map ruC))) (i64 i) K:=fun {K} hK=>
     dR lJ rfl jZ (by decide) (aA i) (c:=ruC p.rules[i]) (by simp[bK]) rfl hK
    simp only[ot,seval,r2]
    refine ix ?_
    simp only[EF,seval,r0,r1]
    refine fY (fun ha=>?_) (fun ha=>?_)
    ·simp only[ot,seval,r2]
     refine ix ?_
     simp only[EF,seval,r0,r1]
     refine aT (fun hb=>?_) (fun hb=>?_)
     ·skip
      simp only[mz,seval]
      refine aB rfl jH (fun _=>rfl) ?_
      simp only[mz,seval]
      refine eP _ ?_
      simp only[pkA,seval]
     ·simp only[mz,seval,hw]
      exact cj (i+1) _ bK (by omega) (cD rfl (ar _) (ab _) (by simp[FL,ak,ei]) (by simp[BL,bxs]))
    ·skip
     simp only[mz,seval]
     refine aB rfl jH (fun _=>rfl) ?_
     simp only[mz,seval]
     refine eP _ ?_
     simp only[pkA,seval]
   ·simp only[pkA]
    refine cJ _ _ ?_
    simp only[EF,seval]
    refine aB rfl hL1 (fun h=>by cases h) ?_
    simp only[ot,seval,r6,u5]
    refine aB («as»:=[.agg (poC ⟨p.name,X,Y,p.quorums⟩)]) rfl hL2 (fun h=>by cases h) ?_
    simp only[mz,seval]
    clear hL1 hL2
    generalize cC p=la at hg zZ
    generalize cC ⟨p.name,X,Y,p.quorums⟩=lb at hg hl3
    have hla:la.length≤40000:=by omega
    have hlb:lb.length≤40000:=by omega
    refine bE (fun i:Nat=>hdS [(14,.c (wsC la)),(15,.c (wsC lb)),(16,i64 i)] []) (fun i=>la.length - i) (fun i=>i≤la.length) 0 (ar _) ?_ ?_
    ·exact cD rfl (ar _) (ar _) (by simp[FL,ak]) trivial
    rintro i hi R cj cJ eP
    simp only[abT,seval]
    refine aT (fun bK=>?_) (fun gr=>?_)
    ·have bK:i<la.length:=by simpa using bK
     have hw:=bG (n:=(i:Int)+1) (k:=i+1) (by omega) (by omega)
     have ei:((i+1:Nat):Int)=(i:Int)+1:=by omega
     obtain⟨w,hwe⟩:∃ w,w=la[i]:=⟨_,rfl⟩
     obtain⟨v0,Mk,hv1,JA⟩:=hg w (by rw[hwe];exact bL bK)
     have amk:lb.any (fB w)=true:=dU.2 ⟨v0,Mk,by simp[fB,hv1,JA]⟩
     have ix:∀ {K:V→Prop},K (.c (.rp (wyC w) 0))→cE Tryz.prog 31 (.c (.sl (la.map wyC))) (i64 i) K:=fun {K} hK=>
      dR kO rfl gX (by decide) (aA i) (c:=wyC w) (by simp[bK,hwe]) rfl hK
     simp only[mz,seval]
     refine bE (fun k:Nat=>hdS [(14,.c (wsC la)),(15,.c (wsC lb)),(16,i64 i),(17,bo ((lb.take k).any (fB w))),(18,i64 k)] []) (fun k=>lb.length - k) (fun k=>k≤lb.length) 0 (ar _) ?_ ?_
     ·exact cD rfl (ar _) (ar _) (by simp[FL,ak]) trivial
     rintro k hk Rk qA tF NT
     simp only[abT,seval]
     refine aT (fun vX=>?_) (fun hkg=>?_)
     ·have vX:k<lb.length:=by simpa using vX
      have Az:=bG (n:=(k:Int)+1) (k:=k+1) (by omega) (by omega)
      have ek:((k+1:Nat):Int)=(k:Int)+1:=by omega
      have ixk:∀ {K:V→Prop},K (.c (.rp (wyC lb[k]) 0))→cE Tryz.prog 31 (.c (.sl (lb.map wyC))) (i64 k) K:=fun {K} hK=>
       dR kO rfl gX (by decide) (aA k) (c:=wyC lb[k]) (by simp[vX]) rfl hK
      have hsn:(lb.take (k+1)).any (fB w)=((lb.take k).any (fB w)||fB w lb[k]):=by
       rw[aC vX,List.any_append];simp
      have hf:fB w lb[k]=(decide (lb[k].fact=w.fact)&&decide (lb[k].round≤w.round)):=rfl
      simp only[mz,seval,wsC]
      refine fY (fun hy=>?_) (fun hy=>?_)
      ·simp only[mz,seval]
       refine ixk ?_
       simp only[VP,seval]
       refine ix ?_
       simp only[pkA,ptA,pkU,gj,pkY,seval]
       refine fY (fun hz=>?_) (fun hz=>?_)
       ·simp only[mz,seval]
        refine ixk ?_
        simp only[VP,seval]
        refine ix ?_
        simp only[VP,seval,Az]
        exact qA (k+1) _ vX (by omega) (cD rfl (ar _) (ar _) (by simp[FL,ak,wsC,ek,hsn,hf,hy,hz]) trivial)
       ·simp only[mz,seval,Az]
        exact qA (k+1) _ vX (by omega) (cD rfl (ar _) (ar _) (by simp[FL,ak,wsC,ek,hsn,hf,hy,hz]) trivial)
      ·simp only[mz,seval,Az]
       exact qA (k+1) _ vX (by omega) (cD rfl (ar _) (ar _) (by simp[FL,ak,wsC,ek,hsn,hf,hy]) trivial)
     ·have:k=lb.length:=by simp at hkg;omega
      subst this
      simp only[pkA]
      refine tF _ _ ?_
      rw[bD,amk]
      simp only[mz,seval,hw]
      exact cj (i+1) _ bK (by omega) (cD rfl (ar _) (ar _) (by simp[FL,ak,wsC,ei]) trivial)
    ·have:i=la.length:=by simp at gr;omega
     subst this
     simp only[pkA]
     refine cJ _ _ ?_
     simp only[mz,seval]
     refine aB rfl jH (fun _=>rfl) ?_
     simp only[mz,seval]
