/- Layer 16: a call is executed: do. -/
import Derived.Test.YtegbpjodbjhjeaaGreatDoorVlMd
import Derived.Test.YtegbpjodbjhjeaaGreatDoorVlM8
import Derived.Test.YtegbpjodbjhjeaaGreatDoorVlM9
import Derived.Test.YtegbpjodbjhjeaaGreatDoorKpVlChk
set_option linter.all false
namespace Go.Proofs.YtegbpjodbjhjeaaGreatDoor
open Go Go.Vl
open Kp (Pol Ty Ru Qu poC tyC ruC quC)
variable {G:Gl} {p:Pol} {s:Sy} {c:Cl}
set_option maxRecDepth 10000
abbrev trO:List Nat:=[3000002,2900003,2900004,1000068]
theorem fa {P:Program} {tr:List Nat} {t:Nat} {g:FuncId} {k m:Nat} {rest:Code} {r:V} {b1:List (List V)} {rs:List ResultVar} {s:Vl.S}:Fx P G tr t g k rest r b1 rs m s=(∃ cs,(s.fr t=.clo (.func g) [] cs∧cs.length=k)∧s.nb=mo tr∧pwp P G tr (GX P G tr g k cs (mo tr) r b1 rs m) rest (rq P (mo tr) r b1 rs) s):=rfl
theorem ke:mo trO=2:=rfl
theorem aah {e:Int} {fr:Nat→V} {bx:Nat→List V} {nb:Nat} {x:C} (h2:fr 2=.bp 1 0) (h0:bx 0=mB p s c) (h1:bx 1=[V.c x]) (hnb:2≤nb) :
 GX Tryz.prog glM trO 68 1 [.bp 1 0] 2 (i64 e) [mB p s c,[i64 e]] [.cell 2 36] 69 (pnV e) ⟨fr,bx,nb⟩:=by
 refine⟨68,[(2,0,36,.int .i64 e,i64 e)],by decide,Yp e,?_⟩
 refine⟨⟨by decide,⟨1,0,h2,rfl⟩,fun I w=>.c _ _ (.lit _ rfl)⟩,?_⟩
 have hs:eF [V.c x] 0 [i64 e]=[i64 e]:=rfl
 simp only[pkA,ptA,seval,h2,h1,hs]
 refine⟨by omega,?_⟩
 refine⟨[(2,.bp 1 0)],cR rfl (ae 2) hnb ⟨by simp[ar,h2],trivial⟩ ⟨by simp[ar,h0],by simp[],trivial⟩,?_⟩
 refine (eN kp rfl (b:=1) (o:=0)).mpr ⟨rfl,?_⟩
 exact⟨by decide,rfl⟩
theorem li {e:Int} {fr:Nat→V} {bx:Nat→List V} {nb:Nat} {x:C} (h2:fr 2=.bp 1 0) (h0:bx 0=mB p s c) (h1:bx 1=[V.c x]) (hnb:2≤nb) :
 GX Tryz.prog glM trO 68 1 [.bp 1 0] (mo trO) (i64 (stR (Except.error e:Ou)).2) [mB p (stO s (.error e)) c,[i64 (stR (Except.error e:Ou)).2]] [.cell 2 36] Tryz.f35.ntmps (pnV e) ⟨fr,bx,nb⟩:=aah h2 h0 h1 hnb
theorem fY {P:Program} {T e:TypeId} {i j:TI} {n:Nat} {z:List C} {parts:List (Nat×V)} {vs:List V} {K:V→Prop} (hT:ti P T=some i) (hk:i.kd=.arr n e) (hz:i.zero=some z) (hE:ti P e=some j)
 (h1:iD ((List.range n).map fun i=>(i*j.size,j.size,j.agg)) parts z=none) (h2:gi ((List.range n).map fun i=>(i*j.size,j.size,j.agg)) parts (z.map .c)=some vs) (hK:K (.mag vs)):fQ P T parts K:=by
 obtain⟨a1,a2,a3,a4,a5,a6,a7⟩:=i
 simp only at hk hz;subst hk;subst hz
 simp only[fQ,hT,hE,h1,h2]
 exact hK
def bmL:List V:=[.bm 69 0 0,.bm 70 0 0,.bm 71 0 0,.bm 72 0 0,.bm 73 0 0,.bm 74 0 0,.bm 75 0 0,.bm 76 0 0,.bm 77 0 0,.bm 78 0 0,.bm 79 0 0,.bm 80 0 0,.bm 81 0 0,.bm 82 0 0,.bm 83 0 0,.bm 84 0 0]
def eC:=jj @pkX (jj @pkA @ptA)
def ee:=jj @pkX (jj @pkA (jj @ptA @pkM))
def lz:=jj @pkX @pkA
set_option maxHeartbeats 2000000 in
theorem Yr (hp:p.types.length≤8) (hr:p.rules.length≤40) (hq:p.quorums.length≤1000) (hP:Kp.PolIn p) (hS:SyOk s) (bad0:(inI (c.kind - 1) 16&&Kp.gB p)=false):FnB Tryz.prog glM 35 [.bp 0 0] [mB p s c] (i64 (stR (bG p s c)).2) [mB p (stO s (bG p s c)) c,[i64 (stR (bG p s c)).2]]:=by
 have bad:bG p s c=.error 1:=by unfold bG dR;rw[bad0];rfl
 have hV:=Kp.fV iH p hP (by unfold Kp.gr;omega)
 refine iF (rs:=[.cell 2 36]) 1 trO mixed Tryz.func35 rfl rfl rfl rfl (by simp) (by kernel_rfl) (by kernel_rfl) ⟨rfl,rfl,by decide⟩ ⟨rfl,rfl,rfl⟩ iI rfl (df rfl) (by simp) rfl ?_
 simp only[eC,seval,ah,fS,fa]
 refine⟨_,⟨rfl,rfl⟩,rfl,?_⟩
 have hmb:ck bmL=false:=rfl
 have hset:eF (ot 16 (V.c (C.lit Value.nilFunc))) 0 bmL=bmL:=rfl
 refine fY (vs:=bmL) fU rfl rfl jM rfl rfl ?_
 simp only[ee,aV,seval,ah,ai]
 refine⟨rfl,⟨rfl,ae _⟩,?_⟩
 rw[hset]
 by_cases h1:1≤c.kind
 case neg=>
  rw[bad]
  simp only[lz,aV,seval,h1,bE]
  exact .inl (.inr (qN rfl rfl (jf 1) rfl (li (by rfl) (by rfl) (by rfl) (ab rfl))))
 by_cases h2:c.kind≤16
 case neg=>
  rw[bad]
  simp only[ee,aV,seval,ah,ai,h1,h2,bE,ai]
  exact .inl (.inr (qN rfl rfl (jf 1) rfl (li (by rfl) (by rfl) (by rfl) (ab rfl))))
 simp only[ee,aV,seval,ah,ai,h1,h2,ai]
 refine .inl (aD rfl hV (fun _=>rfl) ?_)
 have hv:Kp.gB p=false:=by
  rw[show inI (c.kind - 1) 16=true by simp[inI];omega] at bad0
  exact bad0
 rw[bad]
 simp only[lz,aV,seval,hv]
 exact .inr (qN rfl rfl (jf 1) rfl (li (by rfl) (by rfl) (by rfl) (ab rfl)))
set_option maxHeartbeats 2000000 in
theorem DZ (hp:p.types.length≤8) (hr:p.rules.length≤40) (hq:p.quorums.length≤1000) (hP:Kp.PolIn p) (hS:SyOk s) (hv:Kp.gB p=true) (hk:c.kind=1):FnB Tryz.prog glM 35 [.bp 0 0] [mB p s c] (i64 (stR (bG p s c)).2) [mB p (stO s (bG p s c)) c,[i64 (stR (bG p s c)).2]]:=by
 have hV:=Kp.fV iH p hP (by unfold Kp.gr;omega)
 refine iF (rs:=[.cell 2 36]) 1 trO mixed Tryz.func35 rfl rfl rfl rfl (by simp) (by kernel_rfl) (by kernel_rfl) ⟨rfl,rfl,by decide⟩ ⟨rfl,rfl,rfl⟩ iI rfl (df rfl) (by simp) rfl ?_
 simp only[eC,seval,ah,fS,fa]
 refine⟨_,⟨rfl,rfl⟩,rfl,?_⟩
 have hmb:ck bmL=false:=rfl
 have hset:eF (ot 16 (V.c (C.lit Value.nilFunc))) 0 bmL=bmL:=rfl
 refine fY (vs:=bmL) fU rfl rfl jM rfl rfl ?_
 simp only[ee,aV,seval,ah,ai]
 refine⟨rfl,⟨rfl,ae _⟩,?_⟩
 rw[hset]
 have h1:1≤c.kind:=by omega
 have h2:c.kind≤16:=by omega
 simp only[ee,aV,seval,ah,ai,h1,h2,ai]
 refine .inl (aD rfl hV (fun _=>rfl) ?_)
 have good:bG p s c=doM p s c c.kind.toNat:=by
  unfold bG dR
  rw[hv,if_pos (by simp[inI];omega)];rfl
 simp only[lz,aV,seval,hv]
 refine .inl (aD rfl (fW 1) (fun _=>rfl) ?_)
 simp only[ee,aV,seval,ah,ai]
 have hO:FnO Tryz.prog glM 69 [.bp 0 0] [mB p s c] (oP (doM p s c 1)) (.tup []) [mB p (stO s (doM p s c 1)) c]:=DW hp hr hS
 have hg:bG p s c=doM p s c 1:=by rw[good,hk];rfl
 have hw:IntKind.i64.wrap (c.kind - 1)=0:=by rw[hk,show(1:Int) - 1=((0:Nat):Int) from rfl];exact wrap_i64 0 (by decide)
 refine j8 fU rfl jM (by rw[hw];decide) (by rw[hw];decide) ?_
 have hw2:(IntKind.i64.wrap (c.kind - 1)).toNat=0:=by rw[hw];rfl
 rw[hw2]
 have hl:∀ K:V→Prop,ldB 3 2 bmL 0 K=K (.clo (.func 69) [.bp 0 0] []):=fun K=>propext ⟨fun h=>h.2,fun h=>⟨by decide,h⟩⟩
 simp only[eC,aV,seval,ah,ai,hmb,hl]
 rw[hg]
 cases hD:doM p s c 1 with
 |error e=>
  rw[hD] at hO
  exact .inr (eM 0 rfl rfl hO rfl (ab rfl) rfl aY (li (by rfl) (by rfl) (by rfl) (ab rfl)))
 |ok s'=>
  rw[hD] at hO
  refine .inl (fe 0 rfl hO rfl (ab rfl) rfl rfl ?_)
  simp only[eC,seval,ah,ai]
  refine dj [(2,.bp 1 0)] rfl rfl (c9 ke) (ab rfl) ⟨rfl,trivial⟩ ⟨rfl,rfl,trivial⟩ ?_
  rw[eE]
  exact(eN kp rfl (b:=1) (o:=0)).mpr ⟨rfl,ae _,rfl⟩
set_option maxHeartbeats 2000000 in
theorem Ut (hp:p.types.length≤8) (hr:p.rules.length≤40) (hq:p.quorums.length≤1000) (hP:Kp.PolIn p) (hS:SyOk s) (hv:Kp.gB p=true) (hk:c.kind=2):FnB Tryz.prog glM 35 [.bp 0 0] [mB p s c] (i64 (stR (bG p s c)).2) [mB p (stO s (bG p s c)) c,[i64 (stR (bG p s c)).2]]:=by
 have hV:=Kp.fV iH p hP (by unfold Kp.gr;omega)
 refine iF (rs:=[.cell 2 36]) 1 trO mixed Tryz.func35 rfl rfl rfl rfl (by simp) (by kernel_rfl) (by kernel_rfl) ⟨rfl,rfl,by decide⟩ ⟨rfl,rfl,rfl⟩ iI rfl (df rfl) (by simp) rfl ?_
 simp only[eC,seval,ah,fS,fa]
 refine⟨_,⟨rfl,rfl⟩,rfl,?_⟩
 have hmb:ck bmL=false:=rfl
 have hset:eF (ot 16 (V.c (C.lit Value.nilFunc))) 0 bmL=bmL:=rfl
 refine fY (vs:=bmL) fU rfl rfl jM rfl rfl ?_
 simp only[ee,aV,seval,ah,ai]
 refine⟨rfl,⟨rfl,ae _⟩,?_⟩
 rw[hset]
 have h1:1≤c.kind:=by omega
 have h2:c.kind≤16:=by omega
 simp only[ee,aV,seval,ah,ai,h1,h2,ai]
 refine .inl (aD rfl hV (fun _=>rfl) ?_)
 have good:bG p s c=doM p s c c.kind.toNat:=by
  unfold bG dR
  rw[hv,if_pos (by simp[inI];omega)];rfl
 simp only[lz,aV,seval,hv]
 refine .inl (aD rfl (fW 1) (fun _=>rfl) ?_)
 simp only[ee,aV,seval,ah,ai]
 have hO:FnO Tryz.prog glM 70 [.bp 0 0] [mB p s c] (oP (doM p s c 2)) (.tup []) [mB p (stO s (doM p s c 2)) c]:=Us hp hr hS
 have hg:bG p s c=doM p s c 2:=by rw[good,hk];rfl
 have hw:IntKind.i64.wrap (c.kind - 1)=1:=by rw[hk,show(2:Int) - 1=((1:Nat):Int) from rfl];exact wrap_i64 1 (by decide)
 refine j8 fU rfl jM (by rw[hw];decide) (by rw[hw];decide) ?_
 have hw2:(IntKind.i64.wrap (c.kind - 1)).toNat=1:=by rw[hw];rfl
 rw[hw2]
 have hl:∀ K:V→Prop,ldB 3 2 bmL 1 K=K (.clo (.func 70) [.bp 0 0] []):=fun K=>propext ⟨fun h=>h.2,fun h=>⟨by decide,h⟩⟩
 simp only[eC,aV,seval,ah,ai,hmb,hl]
 rw[hg]
 cases hD:doM p s c 2 with
 |error e=>
  rw[hD] at hO
  exact .inr (eM 0 rfl rfl hO rfl (ab rfl) rfl aY (li (by rfl) (by rfl) (by rfl) (ab rfl)))
 |ok s'=>
  rw[hD] at hO
  refine .inl (fe 0 rfl hO rfl (ab rfl) rfl rfl ?_)
  simp only[eC,seval,ah,ai]
  refine dj [(2,.bp 1 0)] rfl rfl (c9 ke) (ab rfl) ⟨rfl,trivial⟩ ⟨rfl,rfl,trivial⟩ ?_
  rw[eE]
  exact(eN kp rfl (b:=1) (o:=0)).mpr ⟨rfl,ae _,rfl⟩
set_option maxHeartbeats 2000000 in
theorem xi (hp:p.types.length≤8) (hr:p.rules.length≤40) (hq:p.quorums.length≤1000) (hP:Kp.PolIn p) (hS:SyOk s) (hv:Kp.gB p=true) (hk:c.kind=3):FnB Tryz.prog glM 35 [.bp 0 0] [mB p s c] (i64 (stR (bG p s c)).2) [mB p (stO s (bG p s c)) c,[i64 (stR (bG p s c)).2]]:=by
 have hV:=Kp.fV iH p hP (by unfold Kp.gr;omega)
 refine iF (rs:=[.cell 2 36]) 1 trO mixed Tryz.func35 rfl rfl rfl rfl (by simp) (by kernel_rfl) (by kernel_rfl) ⟨rfl,rfl,by decide⟩ ⟨rfl,rfl,rfl⟩ iI rfl (df rfl) (by simp) rfl ?_
 simp only[eC,seval,ah,fS,fa]
 refine⟨_,⟨rfl,rfl⟩,rfl,?_⟩
 have hmb:ck bmL=false:=rfl
 have hset:eF (ot 16 (V.c (C.lit Value.nilFunc))) 0 bmL=bmL:=rfl
 refine fY (vs:=bmL) fU rfl rfl jM rfl rfl ?_
 simp only[ee,aV,seval,ah,ai]
 refine⟨rfl,⟨rfl,ae _⟩,?_⟩
 rw[hset]
 have h1:1≤c.kind:=by omega
 have h2:c.kind≤16:=by omega
 simp only[ee,aV,seval,ah,ai,h1,h2,ai]
 refine .inl (aD rfl hV (fun _=>rfl) ?_)
 have good:bG p s c=doM p s c c.kind.toNat:=by
  unfold bG dR
  rw[hv,if_pos (by simp[inI];omega)];rfl
 simp only[lz,aV,seval,hv]
 refine .inl (aD rfl (fW 1) (fun _=>rfl) ?_)
 simp only[ee,aV,seval,ah,ai]
 have hO:FnO Tryz.prog glM 71 [.bp 0 0] [mB p s c] (oP (doM p s c 3)) (.tup []) [mB p (stO s (doM p s c 3)) c]:=xh hp hr hS
 have hg:bG p s c=doM p s c 3:=by rw[good,hk];rfl
 have hw:IntKind.i64.wrap (c.kind - 1)=2:=by rw[hk,show(3:Int) - 1=((2:Nat):Int) from rfl];exact wrap_i64 2 (by decide)
 refine j8 fU rfl jM (by rw[hw];decide) (by rw[hw];decide) ?_
 have hw2:(IntKind.i64.wrap (c.kind - 1)).toNat=2:=by rw[hw];rfl
 rw[hw2]
 have hl:∀ K:V→Prop,ldB 3 2 bmL 2 K=K (.clo (.func 71) [.bp 0 0] []):=fun K=>propext ⟨fun h=>h.2,fun h=>⟨by decide,h⟩⟩
 simp only[eC,aV,seval,ah,ai,hmb,hl]
 rw[hg]
 cases hD:doM p s c 3 with
 |error e=>
  rw[hD] at hO
  exact .inr (eM 0 rfl rfl hO rfl (ab rfl) rfl aY (li (by rfl) (by rfl) (by rfl) (ab rfl)))
 |ok s'=>
  rw[hD] at hO
  refine .inl (fe 0 rfl hO rfl (ab rfl) rfl rfl ?_)
  simp only[eC,seval,ah,ai]
  refine dj [(2,.bp 1 0)] rfl rfl (c9 ke) (ab rfl) ⟨rfl,trivial⟩ ⟨rfl,rfl,trivial⟩ ?_
  rw[eE]
  exact(eN kp rfl (b:=1) (o:=0)).mpr ⟨rfl,ae _,rfl⟩
set_option maxHeartbeats 2000000 in
theorem Gp (hp:p.types.length≤8) (hr:p.rules.length≤40) (hq:p.quorums.length≤1000) (hP:Kp.PolIn p) (hS:SyOk s) (hv:Kp.gB p=true) (hk:c.kind=4):FnB Tryz.prog glM 35 [.bp 0 0] [mB p s c] (i64 (stR (bG p s c)).2) [mB p (stO s (bG p s c)) c,[i64 (stR (bG p s c)).2]]:=by
 have hV:=Kp.fV iH p hP (by unfold Kp.gr;omega)
 refine iF (rs:=[.cell 2 36]) 1 trO mixed Tryz.func35 rfl rfl rfl rfl (by simp) (by kernel_rfl) (by kernel_rfl) ⟨rfl,rfl,by decide⟩ ⟨rfl,rfl,rfl⟩ iI rfl (df rfl) (by simp) rfl ?_
 simp only[eC,seval,ah,fS,fa]
 refine⟨_,⟨rfl,rfl⟩,rfl,?_⟩
 have hmb:ck bmL=false:=rfl
 have hset:eF (ot 16 (V.c (C.lit Value.nilFunc))) 0 bmL=bmL:=rfl
 refine fY (vs:=bmL) fU rfl rfl jM rfl rfl ?_
 simp only[ee,aV,seval,ah,ai]
 refine⟨rfl,⟨rfl,ae _⟩,?_⟩
 rw[hset]
 have h1:1≤c.kind:=by omega
 have h2:c.kind≤16:=by omega
 simp only[ee,aV,seval,ah,ai,h1,h2,ai]
 refine .inl (aD rfl hV (fun _=>rfl) ?_)
 have good:bG p s c=doM p s c c.kind.toNat:=by
  unfold bG dR
  rw[hv,if_pos (by simp[inI];omega)];rfl
 simp only[lz,aV,seval,hv]
 refine .inl (aD rfl (fW 1) (fun _=>rfl) ?_)
 simp only[ee,aV,seval,ah,ai]
 have hO:FnO Tryz.prog glM 72 [.bp 0 0] [mB p s c] (oP (doM p s c 4)) (.tup []) [mB p (stO s (doM p s c 4)) c]:=Gi hp hr hS
 have hg:bG p s c=doM p s c 4:=by rw[good,hk];rfl
 have hw:IntKind.i64.wrap (c.kind - 1)=3:=by rw[hk,show(4:Int) - 1=((3:Nat):Int) from rfl];exact wrap_i64 3 (by decide)
 refine j8 fU rfl jM (by rw[hw];decide) (by rw[hw];decide) ?_
 have hw2:(IntKind.i64.wrap (c.kind - 1)).toNat=3:=by rw[hw];rfl
 rw[hw2]
 have hl:∀ K:V→Prop,ldB 3 2 bmL 3 K=K (.clo (.func 72) [.bp 0 0] []):=fun K=>propext ⟨fun h=>h.2,fun h=>⟨by decide,h⟩⟩
 simp only[eC,aV,seval,ah,ai,hmb,hl]
 rw[hg]
 cases hD:doM p s c 4 with
 |error e=>
  rw[hD] at hO
  exact .inr (eM 0 rfl rfl hO rfl (ab rfl) rfl aY (li (by rfl) (by rfl) (by rfl) (ab rfl)))
 |ok s'=>
  rw[hD] at hO
  refine .inl (fe 0 rfl hO rfl (ab rfl) rfl rfl ?_)
  simp only[eC,seval,ah,ai]
  refine dj [(2,.bp 1 0)] rfl rfl (c9 ke) (ab rfl) ⟨rfl,trivial⟩ ⟨rfl,rfl,trivial⟩ ?_
  rw[eE]
  exact(eN kp rfl (b:=1) (o:=0)).mpr ⟨rfl,ae _,rfl⟩
set_option maxHeartbeats 2000000 in
theorem Gq (hp:p.types.length≤8) (hr:p.rules.length≤40) (hq:p.quorums.length≤1000) (hP:Kp.PolIn p) (hS:SyOk s) (hv:Kp.gB p=true) (hk:c.kind=5):FnB Tryz.prog glM 35 [.bp 0 0] [mB p s c] (i64 (stR (bG p s c)).2) [mB p (stO s (bG p s c)) c,[i64 (stR (bG p s c)).2]]:=by
 have hV:=Kp.fV iH p hP (by unfold Kp.gr;omega)
 refine iF (rs:=[.cell 2 36]) 1 trO mixed Tryz.func35 rfl rfl rfl rfl (by simp) (by kernel_rfl) (by kernel_rfl) ⟨rfl,rfl,by decide⟩ ⟨rfl,rfl,rfl⟩ iI rfl (df rfl) (by simp) rfl ?_
 simp only[eC,seval,ah,fS,fa]
 refine⟨_,⟨rfl,rfl⟩,rfl,?_⟩
 have hmb:ck bmL=false:=rfl
 have hset:eF (ot 16 (V.c (C.lit Value.nilFunc))) 0 bmL=bmL:=rfl
 refine fY (vs:=bmL) fU rfl rfl jM rfl rfl ?_
 simp only[ee,aV,seval,ah,ai]
 refine⟨rfl,⟨rfl,ae _⟩,?_⟩
 rw[hset]
 have h1:1≤c.kind:=by omega
 have h2:c.kind≤16:=by omega
 simp only[ee,aV,seval,ah,ai,h1,h2,ai]
 refine .inl (aD rfl hV (fun _=>rfl) ?_)
 have good:bG p s c=doM p s c c.kind.toNat:=by
  unfold bG dR
  rw[hv,if_pos (by simp[inI];omega)];rfl
 simp only[lz,aV,seval,hv]
 refine .inl (aD rfl (fW 1) (fun _=>rfl) ?_)
 simp only[ee,aV,seval,ah,ai]
 have hO:FnO Tryz.prog glM 73 [.bp 0 0] [mB p s c] (oP (doM p s c 5)) (.tup []) [mB p (stO s (doM p s c 5)) c]:=Gj hp hr hS
 have hg:bG p s c=doM p s c 5:=by rw[good,hk];rfl
 have hw:IntKind.i64.wrap (c.kind - 1)=4:=by rw[hk,show(5:Int) - 1=((4:Nat):Int) from rfl];exact wrap_i64 4 (by decide)
 refine j8 fU rfl jM (by rw[hw];decide) (by rw[hw];decide) ?_
 have hw2:(IntKind.i64.wrap (c.kind - 1)).toNat=4:=by rw[hw];rfl
 rw[hw2]
 have hl:∀ K:V→Prop,ldB 3 2 bmL 4 K=K (.clo (.func 73) [.bp 0 0] []):=fun K=>propext ⟨fun h=>h.2,fun h=>⟨by decide,h⟩⟩
 simp only[eC,aV,seval,ah,ai,hmb,hl]
 rw[hg]
 cases hD:doM p s c 5 with
 |error e=>
  rw[hD] at hO
  exact .inr (eM 0 rfl rfl hO rfl (ab rfl) rfl aY (li (by rfl) (by rfl) (by rfl) (ab rfl)))
 |ok s'=>
  rw[hD] at hO
  refine .inl (fe 0 rfl hO rfl (ab rfl) rfl rfl ?_)
  simp only[eC,seval,ah,ai]
  refine dj [(2,.bp 1 0)] rfl rfl (c9 ke) (ab rfl) ⟨rfl,trivial⟩ ⟨rfl,rfl,trivial⟩ ?_
  rw[eE]
  exact(eN kp rfl (b:=1) (o:=0)).mpr ⟨rfl,ae _,rfl⟩
set_option maxHeartbeats 2000000 in
theorem Ys (hp:p.types.length≤8) (hr:p.rules.length≤40) (hq:p.quorums.length≤1000) (hP:Kp.PolIn p) (hS:SyOk s) (hv:Kp.gB p=true) (hk:c.kind=6):FnB Tryz.prog glM 35 [.bp 0 0] [mB p s c] (i64 (stR (bG p s c)).2) [mB p (stO s (bG p s c)) c,[i64 (stR (bG p s c)).2]]:=by
 have hV:=Kp.fV iH p hP (by unfold Kp.gr;omega)
 refine iF (rs:=[.cell 2 36]) 1 trO mixed Tryz.func35 rfl rfl rfl rfl (by simp) (by kernel_rfl) (by kernel_rfl) ⟨rfl,rfl,by decide⟩ ⟨rfl,rfl,rfl⟩ iI rfl (df rfl) (by simp) rfl ?_
 simp only[eC,seval,ah,fS,fa]
 refine⟨_,⟨rfl,rfl⟩,rfl,?_⟩
 have hmb:ck bmL=false:=rfl
 have hset:eF (ot 16 (V.c (C.lit Value.nilFunc))) 0 bmL=bmL:=rfl
 refine fY (vs:=bmL) fU rfl rfl jM rfl rfl ?_
 simp only[ee,aV,seval,ah,ai]
 refine⟨rfl,⟨rfl,ae _⟩,?_⟩
 rw[hset]
 have h1:1≤c.kind:=by omega
 have h2:c.kind≤16:=by omega
 simp only[ee,aV,seval,ah,ai,h1,h2,ai]
 refine .inl (aD rfl hV (fun _=>rfl) ?_)
 have good:bG p s c=doM p s c c.kind.toNat:=by
  unfold bG dR
  rw[hv,if_pos (by simp[inI];omega)];rfl
 simp only[lz,aV,seval,hv]
 refine .inl (aD rfl (fW 1) (fun _=>rfl) ?_)
 simp only[ee,aV,seval,ah,ai]
 have hO:FnO Tryz.prog glM 74 [.bp 0 0] [mB p s c] (oP (doM p s c 6)) (.tup []) [mB p (stO s (doM p s c 6)) c]:=Yq hp hr hS
 have hg:bG p s c=doM p s c 6:=by rw[good,hk];rfl
 have hw:IntKind.i64.wrap (c.kind - 1)=5:=by rw[hk,show(6:Int) - 1=((5:Nat):Int) from rfl];exact wrap_i64 5 (by decide)
 refine j8 fU rfl jM (by rw[hw];decide) (by rw[hw];decide) ?_
 have hw2:(IntKind.i64.wrap (c.kind - 1)).toNat=5:=by rw[hw];rfl
 rw[hw2]
 have hl:∀ K:V→Prop,ldB 3 2 bmL 5 K=K (.clo (.func 74) [.bp 0 0] []):=fun K=>propext ⟨fun h=>h.2,fun h=>⟨by decide,h⟩⟩
 simp only[eC,aV,seval,ah,ai,hmb,hl]
 rw[hg]
 cases hD:doM p s c 6 with
 |error e=>
  rw[hD] at hO
  exact .inr (eM 0 rfl rfl hO rfl (ab rfl) rfl aY (li (by rfl) (by rfl) (by rfl) (ab rfl)))
 |ok s'=>
  rw[hD] at hO
  refine .inl (fe 0 rfl hO rfl (ab rfl) rfl rfl ?_)
  simp only[eC,seval,ah,ai]
  refine dj [(2,.bp 1 0)] rfl rfl (c9 ke) (ab rfl) ⟨rfl,trivial⟩ ⟨rfl,rfl,trivial⟩ ?_
  rw[eE]
  exact(eN kp rfl (b:=1) (o:=0)).mpr ⟨rfl,ae _,rfl⟩
set_option maxHeartbeats 2000000 in
theorem Uu (hp:p.types.length≤8) (hr:p.rules.length≤40) (hq:p.quorums.length≤1000) (hP:Kp.PolIn p) (hS:SyOk s) (hv:Kp.gB p=true) (hk:c.kind=7):FnB Tryz.prog glM 35 [.bp 0 0] [mB p s c] (i64 (stR (bG p s c)).2) [mB p (stO s (bG p s c)) c,[i64 (stR (bG p s c)).2]]:=by
 have hV:=Kp.fV iH p hP (by unfold Kp.gr;omega)
 refine iF (rs:=[.cell 2 36]) 1 trO mixed Tryz.func35 rfl rfl rfl rfl (by simp) (by kernel_rfl) (by kernel_rfl) ⟨rfl,rfl,by decide⟩ ⟨rfl,rfl,rfl⟩ iI rfl (df rfl) (by simp) rfl ?_
 simp only[eC,seval,ah,fS,fa]
 refine⟨_,⟨rfl,rfl⟩,rfl,?_⟩
 have hmb:ck bmL=false:=rfl
 have hset:eF (ot 16 (V.c (C.lit Value.nilFunc))) 0 bmL=bmL:=rfl
 refine fY (vs:=bmL) fU rfl rfl jM rfl rfl ?_
 simp only[ee,aV,seval,ah,ai]
 refine⟨rfl,⟨rfl,ae _⟩,?_⟩
 rw[hset]
 have h1:1≤c.kind:=by omega
 have h2:c.kind≤16:=by omega
 simp only[ee,aV,seval,ah,ai,h1,h2,ai]
 refine .inl (aD rfl hV (fun _=>rfl) ?_)
 have good:bG p s c=doM p s c c.kind.toNat:=by
  unfold bG dR
  rw[hv,if_pos (by simp[inI];omega)];rfl
 simp only[lz,aV,seval,hv]
 refine .inl (aD rfl (fW 1) (fun _=>rfl) ?_)
 simp only[ee,aV,seval,ah,ai]
 have hO:FnO Tryz.prog glM 75 [.bp 0 0] [mB p s c] (oP (doM p s c 7)) (.tup []) [mB p (stO s (doM p s c 7)) c]:=Ur hp hr hS
 have hg:bG p s c=doM p s c 7:=by rw[good,hk];rfl
 have hw:IntKind.i64.wrap (c.kind - 1)=6:=by rw[hk,show(7:Int) - 1=((6:Nat):Int) from rfl];exact wrap_i64 6 (by decide)
 refine j8 fU rfl jM (by rw[hw];decide) (by rw[hw];decide) ?_
 have hw2:(IntKind.i64.wrap (c.kind - 1)).toNat=6:=by rw[hw];rfl
 rw[hw2]
 have hl:∀ K:V→Prop,ldB 3 2 bmL 6 K=K (.clo (.func 75) [.bp 0 0] []):=fun K=>propext ⟨fun h=>h.2,fun h=>⟨by decide,h⟩⟩
 simp only[eC,aV,seval,ah,ai,hmb,hl]
 rw[hg]
 cases hD:doM p s c 7 with
 |error e=>
  rw[hD] at hO
  exact .inr (eM 0 rfl rfl hO rfl (ab rfl) rfl aY (li (by rfl) (by rfl) (by rfl) (ab rfl)))
 |ok s'=>
  rw[hD] at hO
  refine .inl (fe 0 rfl hO rfl (ab rfl) rfl rfl ?_)
  simp only[eC,seval,ah,ai]
  refine dj [(2,.bp 1 0)] rfl rfl (c9 ke) (ab rfl) ⟨rfl,trivial⟩ ⟨rfl,rfl,trivial⟩ ?_
  rw[eE]
  exact(eN kp rfl (b:=1) (o:=0)).mpr ⟨rfl,ae _,rfl⟩
set_option maxHeartbeats 2000000 in
theorem Ky (hp:p.types.length≤8) (hr:p.rules.length≤40) (hq:p.quorums.length≤1000) (hP:Kp.PolIn p) (hS:SyOk s) (hv:Kp.gB p=true) (hk:c.kind=8):FnB Tryz.prog glM 35 [.bp 0 0] [mB p s c] (i64 (stR (bG p s c)).2) [mB p (stO s (bG p s c)) c,[i64 (stR (bG p s c)).2]]:=by
 have hV:=Kp.fV iH p hP (by unfold Kp.gr;omega)
 refine iF (rs:=[.cell 2 36]) 1 trO mixed Tryz.func35 rfl rfl rfl rfl (by simp) (by kernel_rfl) (by kernel_rfl) ⟨rfl,rfl,by decide⟩ ⟨rfl,rfl,rfl⟩ iI rfl (df rfl) (by simp) rfl ?_
 simp only[eC,seval,ah,fS,fa]
 refine⟨_,⟨rfl,rfl⟩,rfl,?_⟩
 have hmb:ck bmL=false:=rfl
 have hset:eF (ot 16 (V.c (C.lit Value.nilFunc))) 0 bmL=bmL:=rfl
 refine fY (vs:=bmL) fU rfl rfl jM rfl rfl ?_
 simp only[ee,aV,seval,ah,ai]
 refine⟨rfl,⟨rfl,ae _⟩,?_⟩
 rw[hset]
 have h1:1≤c.kind:=by omega
 have h2:c.kind≤16:=by omega
 simp only[ee,aV,seval,ah,ai,h1,h2,ai]
 refine .inl (aD rfl hV (fun _=>rfl) ?_)
 have good:bG p s c=doM p s c c.kind.toNat:=by
  unfold bG dR
  rw[hv,if_pos (by simp[inI];omega)];rfl
 simp only[lz,aV,seval,hv]
 refine .inl (aD rfl (fW 1) (fun _=>rfl) ?_)
 simp only[ee,aV,seval,ah,ai]
 have hO:FnO Tryz.prog glM 76 [.bp 0 0] [mB p s c] (oP (doM p s c 8)) (.tup []) [mB p (stO s (doM p s c 8)) c]:=Kx hp hr hS
 have hg:bG p s c=doM p s c 8:=by rw[good,hk];rfl
 have hw:IntKind.i64.wrap (c.kind - 1)=7:=by rw[hk,show(8:Int) - 1=((7:Nat):Int) from rfl];exact wrap_i64 7 (by decide)
 refine j8 fU rfl jM (by rw[hw];decide) (by rw[hw];decide) ?_
 have hw2:(IntKind.i64.wrap (c.kind - 1)).toNat=7:=by rw[hw];rfl
 rw[hw2]
 have hl:∀ K:V→Prop,ldB 3 2 bmL 7 K=K (.clo (.func 76) [.bp 0 0] []):=fun K=>propext ⟨fun h=>h.2,fun h=>⟨by decide,h⟩⟩
 simp only[eC,aV,seval,ah,ai,hmb,hl]
 rw[hg]
 cases hD:doM p s c 8 with
 |error e=>
  rw[hD] at hO
  exact .inr (eM 0 rfl rfl hO rfl (ab rfl) rfl aY (li (by rfl) (by rfl) (by rfl) (ab rfl)))
 |ok s'=>
  rw[hD] at hO
  refine .inl (fe 0 rfl hO rfl (ab rfl) rfl rfl ?_)
  simp only[eC,seval,ah,ai]
  refine dj [(2,.bp 1 0)] rfl rfl (c9 ke) (ab rfl) ⟨rfl,trivial⟩ ⟨rfl,rfl,trivial⟩ ?_
  rw[eE]
  exact(eN kp rfl (b:=1) (o:=0)).mpr ⟨rfl,ae _,rfl⟩
set_option maxHeartbeats 2000000 in
theorem Gr (hp:p.types.length≤8) (hr:p.rules.length≤40) (hq:p.quorums.length≤1000) (hP:Kp.PolIn p) (hS:SyOk s) (hv:Kp.gB p=true) (hk:c.kind=9):FnB Tryz.prog glM 35 [.bp 0 0] [mB p s c] (i64 (stR (bG p s c)).2) [mB p (stO s (bG p s c)) c,[i64 (stR (bG p s c)).2]]:=by
 have hV:=Kp.fV iH p hP (by unfold Kp.gr;omega)
 refine iF (rs:=[.cell 2 36]) 1 trO mixed Tryz.func35 rfl rfl rfl rfl (by simp) (by kernel_rfl) (by kernel_rfl) ⟨rfl,rfl,by decide⟩ ⟨rfl,rfl,rfl⟩ iI rfl (df rfl) (by simp) rfl ?_
 simp only[eC,seval,ah,fS,fa]
 refine⟨_,⟨rfl,rfl⟩,rfl,?_⟩
 have hmb:ck bmL=false:=rfl
 have hset:eF (ot 16 (V.c (C.lit Value.nilFunc))) 0 bmL=bmL:=rfl
 refine fY (vs:=bmL) fU rfl rfl jM rfl rfl ?_
 simp only[ee,aV,seval,ah,ai]
 refine⟨rfl,⟨rfl,ae _⟩,?_⟩
 rw[hset]
 have h1:1≤c.kind:=by omega
 have h2:c.kind≤16:=by omega
 simp only[ee,aV,seval,ah,ai,h1,h2,ai]
 refine .inl (aD rfl hV (fun _=>rfl) ?_)
 have good:bG p s c=doM p s c c.kind.toNat:=by
  unfold bG dR
  rw[hv,if_pos (by simp[inI];omega)];rfl
 simp only[lz,aV,seval,hv]
 refine .inl (aD rfl (fW 1) (fun _=>rfl) ?_)
 simp only[ee,aV,seval,ah,ai]
 have hO:FnO Tryz.prog glM 77 [.bp 0 0] [mB p s c] (oP (doM p s c 9)) (.tup []) [mB p (stO s (doM p s c 9)) c]:=Gk hp hr hS
 have hg:bG p s c=doM p s c 9:=by rw[good,hk];rfl
 have hw:IntKind.i64.wrap (c.kind - 1)=8:=by rw[hk,show(9:Int) - 1=((8:Nat):Int) from rfl];exact wrap_i64 8 (by decide)
 refine j8 fU rfl jM (by rw[hw];decide) (by rw[hw];decide) ?_
 have hw2:(IntKind.i64.wrap (c.kind - 1)).toNat=8:=by rw[hw];rfl
 rw[hw2]
 have hl:∀ K:V→Prop,ldB 3 2 bmL 8 K=K (.clo (.func 77) [.bp 0 0] []):=fun K=>propext ⟨fun h=>h.2,fun h=>⟨by decide,h⟩⟩
 simp only[eC,aV,seval,ah,ai,hmb,hl]
 rw[hg]
 cases hD:doM p s c 9 with
 |error e=>
  rw[hD] at hO
  exact .inr (eM 0 rfl rfl hO rfl (ab rfl) rfl aY (li (by rfl) (by rfl) (by rfl) (ab rfl)))
 |ok s'=>
  rw[hD] at hO
  refine .inl (fe 0 rfl hO rfl (ab rfl) rfl rfl ?_)
  simp only[eC,seval,ah,ai]
  refine dj [(2,.bp 1 0)] rfl rfl (c9 ke) (ab rfl) ⟨rfl,trivial⟩ ⟨rfl,rfl,trivial⟩ ?_
  rw[eE]
  exact(eN kp rfl (b:=1) (o:=0)).mpr ⟨rfl,ae _,rfl⟩
set_option maxHeartbeats 2000000 in
theorem Bu (hp:p.types.length≤8) (hr:p.rules.length≤40) (hq:p.quorums.length≤1000) (hP:Kp.PolIn p) (hS:SyOk s) (hv:Kp.gB p=true) (hk:c.kind=10):FnB Tryz.prog glM 35 [.bp 0 0] [mB p s c] (i64 (stR (bG p s c)).2) [mB p (stO s (bG p s c)) c,[i64 (stR (bG p s c)).2]]:=by
 have hV:=Kp.fV iH p hP (by unfold Kp.gr;omega)
 refine iF (rs:=[.cell 2 36]) 1 trO mixed Tryz.func35 rfl rfl rfl rfl (by simp) (by kernel_rfl) (by kernel_rfl) ⟨rfl,rfl,by decide⟩ ⟨rfl,rfl,rfl⟩ iI rfl (df rfl) (by simp) rfl ?_
 simp only[eC,seval,ah,fS,fa]
 refine⟨_,⟨rfl,rfl⟩,rfl,?_⟩
 have hmb:ck bmL=false:=rfl
 have hset:eF (ot 16 (V.c (C.lit Value.nilFunc))) 0 bmL=bmL:=rfl
 refine fY (vs:=bmL) fU rfl rfl jM rfl rfl ?_
 simp only[ee,aV,seval,ah,ai]
 refine⟨rfl,⟨rfl,ae _⟩,?_⟩
 rw[hset]
 have h1:1≤c.kind:=by omega
 have h2:c.kind≤16:=by omega
 simp only[ee,aV,seval,ah,ai,h1,h2,ai]
 refine .inl (aD rfl hV (fun _=>rfl) ?_)
 have good:bG p s c=doM p s c c.kind.toNat:=by
  unfold bG dR
  rw[hv,if_pos (by simp[inI];omega)];rfl
 simp only[lz,aV,seval,hv]
 refine .inl (aD rfl (fW 1) (fun _=>rfl) ?_)
 simp only[ee,aV,seval,ah,ai]
 have hO:FnO Tryz.prog glM 78 [.bp 0 0] [mB p s c] (oP (doM p s c 10)) (.tup []) [mB p (stO s (doM p s c 10)) c]:=Bt hp hr hS
 have hg:bG p s c=doM p s c 10:=by rw[good,hk];rfl
 have hw:IntKind.i64.wrap (c.kind - 1)=9:=by rw[hk,show(10:Int) - 1=((9:Nat):Int) from rfl];exact wrap_i64 9 (by decide)
 refine j8 fU rfl jM (by rw[hw];decide) (by rw[hw];decide) ?_
 have hw2:(IntKind.i64.wrap (c.kind - 1)).toNat=9:=by rw[hw];rfl
 rw[hw2]
 have hl:∀ K:V→Prop,ldB 3 2 bmL 9 K=K (.clo (.func 78) [.bp 0 0] []):=fun K=>propext ⟨fun h=>h.2,fun h=>⟨by decide,h⟩⟩
 simp only[eC,aV,seval,ah,ai,hmb,hl]
 rw[hg]
 cases hD:doM p s c 10 with
 |error e=>
  rw[hD] at hO
  exact .inr (eM 0 rfl rfl hO rfl (ab rfl) rfl aY (li (by rfl) (by rfl) (by rfl) (ab rfl)))
 |ok s'=>
  rw[hD] at hO
  refine .inl (fe 0 rfl hO rfl (ab rfl) rfl rfl ?_)
  simp only[eC,seval,ah,ai]
  refine dj [(2,.bp 1 0)] rfl rfl (c9 ke) (ab rfl) ⟨rfl,trivial⟩ ⟨rfl,rfl,trivial⟩ ?_
  rw[eE]
  exact(eN kp rfl (b:=1) (o:=0)).mpr ⟨rfl,ae _,rfl⟩
set_option maxHeartbeats 2000000 in
theorem Kz (hp:p.types.length≤8) (hr:p.rules.length≤40) (hq:p.quorums.length≤1000) (hP:Kp.PolIn p) (hS:SyOk s) (hv:Kp.gB p=true) (hk:c.kind=11):FnB Tryz.prog glM 35 [.bp 0 0] [mB p s c] (i64 (stR (bG p s c)).2) [mB p (stO s (bG p s c)) c,[i64 (stR (bG p s c)).2]]:=by
 have hV:=Kp.fV iH p hP (by unfold Kp.gr;omega)
 refine iF (rs:=[.cell 2 36]) 1 trO mixed Tryz.func35 rfl rfl rfl rfl (by simp) (by kernel_rfl) (by kernel_rfl) ⟨rfl,rfl,by decide⟩ ⟨rfl,rfl,rfl⟩ iI rfl (df rfl) (by simp) rfl ?_
 simp only[eC,seval,ah,fS,fa]
 refine⟨_,⟨rfl,rfl⟩,rfl,?_⟩
 have hmb:ck bmL=false:=rfl
 have hset:eF (ot 16 (V.c (C.lit Value.nilFunc))) 0 bmL=bmL:=rfl
 refine fY (vs:=bmL) fU rfl rfl jM rfl rfl ?_
 simp only[ee,aV,seval,ah,ai]
 refine⟨rfl,⟨rfl,ae _⟩,?_⟩
 rw[hset]
 have h1:1≤c.kind:=by omega
 have h2:c.kind≤16:=by omega
 simp only[ee,aV,seval,ah,ai,h1,h2,ai]
 refine .inl (aD rfl hV (fun _=>rfl) ?_)
 have good:bG p s c=doM p s c c.kind.toNat:=by
  unfold bG dR
  rw[hv,if_pos (by simp[inI];omega)];rfl
 simp only[lz,aV,seval,hv]
 refine .inl (aD rfl (fW 1) (fun _=>rfl) ?_)
 simp only[ee,aV,seval,ah,ai]
 have hO:FnO Tryz.prog glM 79 [.bp 0 0] [mB p s c] (oP (doM p s c 11)) (.tup []) [mB p (stO s (doM p s c 11)) c]:=Kw hp hr hS
 have hg:bG p s c=doM p s c 11:=by rw[good,hk];rfl
 have hw:IntKind.i64.wrap (c.kind - 1)=10:=by rw[hk,show(11:Int) - 1=((10:Nat):Int) from rfl];exact wrap_i64 10 (by decide)
 refine j8 fU rfl jM (by rw[hw];decide) (by rw[hw];decide) ?_
 have hw2:(IntKind.i64.wrap (c.kind - 1)).toNat=10:=by rw[hw];rfl
 rw[hw2]
 have hl:∀ K:V→Prop,ldB 3 2 bmL 10 K=K (.clo (.func 79) [.bp 0 0] []):=fun K=>propext ⟨fun h=>h.2,fun h=>⟨by decide,h⟩⟩
 simp only[eC,aV,seval,ah,ai,hmb,hl]
 rw[hg]
 cases hD:doM p s c 11 with
 |error e=>
  rw[hD] at hO
  exact .inr (eM 0 rfl rfl hO rfl (ab rfl) rfl aY (li (by rfl) (by rfl) (by rfl) (ab rfl)))
 |ok s'=>
  rw[hD] at hO
  refine .inl (fe 0 rfl hO rfl (ab rfl) rfl rfl ?_)
  simp only[eC,seval,ah,ai]
  refine dj [(2,.bp 1 0)] rfl rfl (c9 ke) (ab rfl) ⟨rfl,trivial⟩ ⟨rfl,rfl,trivial⟩ ?_
  rw[eE]
  exact(eN kp rfl (b:=1) (o:=0)).mpr ⟨rfl,ae _,rfl⟩
set_option maxHeartbeats 2000000 in
theorem Uv (hp:p.types.length≤8) (hr:p.rules.length≤40) (hq:p.quorums.length≤1000) (hP:Kp.PolIn p) (hS:SyOk s) (hv:Kp.gB p=true) (hk:c.kind=12):FnB Tryz.prog glM 35 [.bp 0 0] [mB p s c] (i64 (stR (bG p s c)).2) [mB p (stO s (bG p s c)) c,[i64 (stR (bG p s c)).2]]:=by
 have hV:=Kp.fV iH p hP (by unfold Kp.gr;omega)
 refine iF (rs:=[.cell 2 36]) 1 trO mixed Tryz.func35 rfl rfl rfl rfl (by simp) (by kernel_rfl) (by kernel_rfl) ⟨rfl,rfl,by decide⟩ ⟨rfl,rfl,rfl⟩ iI rfl (df rfl) (by simp) rfl ?_
 simp only[eC,seval,ah,fS,fa]
 refine⟨_,⟨rfl,rfl⟩,rfl,?_⟩
 have hmb:ck bmL=false:=rfl
 have hset:eF (ot 16 (V.c (C.lit Value.nilFunc))) 0 bmL=bmL:=rfl
 refine fY (vs:=bmL) fU rfl rfl jM rfl rfl ?_
 simp only[ee,aV,seval,ah,ai]
 refine⟨rfl,⟨rfl,ae _⟩,?_⟩
 rw[hset]
 have h1:1≤c.kind:=by omega
 have h2:c.kind≤16:=by omega
 simp only[ee,aV,seval,ah,ai,h1,h2,ai]
 refine .inl (aD rfl hV (fun _=>rfl) ?_)
 have good:bG p s c=doM p s c c.kind.toNat:=by
  unfold bG dR
  rw[hv,if_pos (by simp[inI];omega)];rfl
 simp only[lz,aV,seval,hv]
 refine .inl (aD rfl (fW 1) (fun _=>rfl) ?_)
 simp only[ee,aV,seval,ah,ai]
 have hO:FnO Tryz.prog glM 80 [.bp 0 0] [mB p s c] (oP (doM p s c 12)) (.tup []) [mB p (stO s (doM p s c 12)) c]:=Uq hp hr hS
 have hg:bG p s c=doM p s c 12:=by rw[good,hk];rfl
 have hw:IntKind.i64.wrap (c.kind - 1)=11:=by rw[hk,show(12:Int) - 1=((11:Nat):Int) from rfl];exact wrap_i64 11 (by decide)
 refine j8 fU rfl jM (by rw[hw];decide) (by rw[hw];decide) ?_
 have hw2:(IntKind.i64.wrap (c.kind - 1)).toNat=11:=by rw[hw];rfl
 rw[hw2]
 have hl:∀ K:V→Prop,ldB 3 2 bmL 11 K=K (.clo (.func 80) [.bp 0 0] []):=fun K=>propext ⟨fun h=>h.2,fun h=>⟨by decide,h⟩⟩
 simp only[eC,aV,seval,ah,ai,hmb,hl]
 rw[hg]
 cases hD:doM p s c 12 with
 |error e=>
  rw[hD] at hO
  exact .inr (eM 0 rfl rfl hO rfl (ab rfl) rfl aY (li (by rfl) (by rfl) (by rfl) (ab rfl)))
 |ok s'=>
  rw[hD] at hO
  refine .inl (fe 0 rfl hO rfl (ab rfl) rfl rfl ?_)
  simp only[eC,seval,ah,ai]
  refine dj [(2,.bp 1 0)] rfl rfl (c9 ke) (ab rfl) ⟨rfl,trivial⟩ ⟨rfl,rfl,trivial⟩ ?_
  rw[eE]
  exact(eN kp rfl (b:=1) (o:=0)).mpr ⟨rfl,ae _,rfl⟩
set_option maxHeartbeats 2000000 in
theorem D1 (hp:p.types.length≤8) (hr:p.rules.length≤40) (hq:p.quorums.length≤1000) (hP:Kp.PolIn p) (hS:SyOk s) (hv:Kp.gB p=true) (hk:c.kind=13):FnB Tryz.prog glM 35 [.bp 0 0] [mB p s c] (i64 (stR (bG p s c)).2) [mB p (stO s (bG p s c)) c,[i64 (stR (bG p s c)).2]]:=by
 have hV:=Kp.fV iH p hP (by unfold Kp.gr;omega)
 refine iF (rs:=[.cell 2 36]) 1 trO mixed Tryz.func35 rfl rfl rfl rfl (by simp) (by kernel_rfl) (by kernel_rfl) ⟨rfl,rfl,by decide⟩ ⟨rfl,rfl,rfl⟩ iI rfl (df rfl) (by simp) rfl ?_
 simp only[eC,seval,ah,fS,fa]
 refine⟨_,⟨rfl,rfl⟩,rfl,?_⟩
 have hmb:ck bmL=false:=rfl
 have hset:eF (ot 16 (V.c (C.lit Value.nilFunc))) 0 bmL=bmL:=rfl
 refine fY (vs:=bmL) fU rfl rfl jM rfl rfl ?_
 simp only[ee,aV,seval,ah,ai]
 refine⟨rfl,⟨rfl,ae _⟩,?_⟩
 rw[hset]
 have h1:1≤c.kind:=by omega
 have h2:c.kind≤16:=by omega
 simp only[ee,aV,seval,ah,ai,h1,h2,ai]
 refine .inl (aD rfl hV (fun _=>rfl) ?_)
 have good:bG p s c=doM p s c c.kind.toNat:=by
  unfold bG dR
  rw[hv,if_pos (by simp[inI];omega)];rfl
 simp only[lz,aV,seval,hv]
 refine .inl (aD rfl (fW 1) (fun _=>rfl) ?_)
 simp only[ee,aV,seval,ah,ai]
 have hO:FnO Tryz.prog glM 81 [.bp 0 0] [mB p s c] (oP (doM p s c 13)) (.tup []) [mB p (stO s (doM p s c 13)) c]:=DX hp hr hS
 have hg:bG p s c=doM p s c 13:=by rw[good,hk];rfl
 have hw:IntKind.i64.wrap (c.kind - 1)=12:=by rw[hk,show(13:Int) - 1=((12:Nat):Int) from rfl];exact wrap_i64 12 (by decide)
 refine j8 fU rfl jM (by rw[hw];decide) (by rw[hw];decide) ?_
 have hw2:(IntKind.i64.wrap (c.kind - 1)).toNat=12:=by rw[hw];rfl
 rw[hw2]
 have hl:∀ K:V→Prop,ldB 3 2 bmL 12 K=K (.clo (.func 81) [.bp 0 0] []):=fun K=>propext ⟨fun h=>h.2,fun h=>⟨by decide,h⟩⟩
 simp only[eC,aV,seval,ah,ai,hmb,hl]
 rw[hg]
 cases hD:doM p s c 13 with
 |error e=>
  rw[hD] at hO
  exact .inr (eM 0 rfl rfl hO rfl (ab rfl) rfl aY (li (by rfl) (by rfl) (by rfl) (ab rfl)))
 |ok s'=>
  rw[hD] at hO
  refine .inl (fe 0 rfl hO rfl (ab rfl) rfl rfl ?_)
  simp only[eC,seval,ah,ai]
  refine dj [(2,.bp 1 0)] rfl rfl (c9 ke) (ab rfl) ⟨rfl,trivial⟩ ⟨rfl,rfl,trivial⟩ ?_
  rw[eE]
  exact(eN kp rfl (b:=1) (o:=0)).mpr ⟨rfl,ae _,rfl⟩
set_option maxHeartbeats 2000000 in
theorem Gs (hp:p.types.length≤8) (hr:p.rules.length≤40) (hq:p.quorums.length≤1000) (hP:Kp.PolIn p) (hS:SyOk s) (hv:Kp.gB p=true) (hk:c.kind=14):FnB Tryz.prog glM 35 [.bp 0 0] [mB p s c] (i64 (stR (bG p s c)).2) [mB p (stO s (bG p s c)) c,[i64 (stR (bG p s c)).2]]:=by
 have hV:=Kp.fV iH p hP (by unfold Kp.gr;omega)
 refine iF (rs:=[.cell 2 36]) 1 trO mixed Tryz.func35 rfl rfl rfl rfl (by simp) (by kernel_rfl) (by kernel_rfl) ⟨rfl,rfl,by decide⟩ ⟨rfl,rfl,rfl⟩ iI rfl (df rfl) (by simp) rfl ?_
 simp only[eC,seval,ah,fS,fa]
 refine⟨_,⟨rfl,rfl⟩,rfl,?_⟩
 have hmb:ck bmL=false:=rfl
 have hset:eF (ot 16 (V.c (C.lit Value.nilFunc))) 0 bmL=bmL:=rfl
 refine fY (vs:=bmL) fU rfl rfl jM rfl rfl ?_
 simp only[ee,aV,seval,ah,ai]
 refine⟨rfl,⟨rfl,ae _⟩,?_⟩
 rw[hset]
 have h1:1≤c.kind:=by omega
 have h2:c.kind≤16:=by omega
 simp only[ee,aV,seval,ah,ai,h1,h2,ai]
 refine .inl (aD rfl hV (fun _=>rfl) ?_)
 have good:bG p s c=doM p s c c.kind.toNat:=by
  unfold bG dR
  rw[hv,if_pos (by simp[inI];omega)];rfl
 simp only[lz,aV,seval,hv]
 refine .inl (aD rfl (fW 1) (fun _=>rfl) ?_)
 simp only[ee,aV,seval,ah,ai]
 have hO:FnO Tryz.prog glM 82 [.bp 0 0] [mB p s c] (oP (doM p s c 14)) (.tup []) [mB p (stO s (doM p s c 14)) c]:=Gm hp hr hS
 have hg:bG p s c=doM p s c 14:=by rw[good,hk];rfl
 have hw:IntKind.i64.wrap (c.kind - 1)=13:=by rw[hk,show(14:Int) - 1=((13:Nat):Int) from rfl];exact wrap_i64 13 (by decide)
 refine j8 fU rfl jM (by rw[hw];decide) (by rw[hw];decide) ?_
 have hw2:(IntKind.i64.wrap (c.kind - 1)).toNat=13:=by rw[hw];rfl
 rw[hw2]
 have hl:∀ K:V→Prop,ldB 3 2 bmL 13 K=K (.clo (.func 82) [.bp 0 0] []):=fun K=>propext ⟨fun h=>h.2,fun h=>⟨by decide,h⟩⟩
 simp only[eC,aV,seval,ah,ai,hmb,hl]
 rw[hg]
 cases hD:doM p s c 14 with
 |error e=>
  rw[hD] at hO
  exact .inr (eM 0 rfl rfl hO rfl (ab rfl) rfl aY (li (by rfl) (by rfl) (by rfl) (ab rfl)))
 |ok s'=>
  rw[hD] at hO
  refine .inl (fe 0 rfl hO rfl (ab rfl) rfl rfl ?_)
  simp only[eC,seval,ah,ai]
  refine dj [(2,.bp 1 0)] rfl rfl (c9 ke) (ab rfl) ⟨rfl,trivial⟩ ⟨rfl,rfl,trivial⟩ ?_
  rw[eE]
  exact(eN kp rfl (b:=1) (o:=0)).mpr ⟨rfl,ae _,rfl⟩
set_option maxHeartbeats 2000000 in
theorem Gt (hp:p.types.length≤8) (hr:p.rules.length≤40) (hq:p.quorums.length≤1000) (hP:Kp.PolIn p) (hS:SyOk s) (hv:Kp.gB p=true) (hk:c.kind=15):FnB Tryz.prog glM 35 [.bp 0 0] [mB p s c] (i64 (stR (bG p s c)).2) [mB p (stO s (bG p s c)) c,[i64 (stR (bG p s c)).2]]:=by
 have hV:=Kp.fV iH p hP (by unfold Kp.gr;omega)
 refine iF (rs:=[.cell 2 36]) 1 trO mixed Tryz.func35 rfl rfl rfl rfl (by simp) (by kernel_rfl) (by kernel_rfl) ⟨rfl,rfl,by decide⟩ ⟨rfl,rfl,rfl⟩ iI rfl (df rfl) (by simp) rfl ?_
 simp only[eC,seval,ah,fS,fa]
 refine⟨_,⟨rfl,rfl⟩,rfl,?_⟩
 have hmb:ck bmL=false:=rfl
 have hset:eF (ot 16 (V.c (C.lit Value.nilFunc))) 0 bmL=bmL:=rfl
 refine fY (vs:=bmL) fU rfl rfl jM rfl rfl ?_
 simp only[ee,aV,seval,ah,ai]
 refine⟨rfl,⟨rfl,ae _⟩,?_⟩
 rw[hset]
 have h1:1≤c.kind:=by omega
 have h2:c.kind≤16:=by omega
 simp only[ee,aV,seval,ah,ai,h1,h2,ai]
 refine .inl (aD rfl hV (fun _=>rfl) ?_)
 have good:bG p s c=doM p s c c.kind.toNat:=by
  unfold bG dR
  rw[hv,if_pos (by simp[inI];omega)];rfl
 simp only[lz,aV,seval,hv]
 refine .inl (aD rfl (fW 1) (fun _=>rfl) ?_)
 simp only[ee,aV,seval,ah,ai]
 have hO:FnO Tryz.prog glM 83 [.bp 0 0] [mB p s c] (oP (doM p s c 15)) (.tup []) [mB p (stO s (doM p s c 15)) c]:=Gn hp hr hS
 have hg:bG p s c=doM p s c 15:=by rw[good,hk];rfl
 have hw:IntKind.i64.wrap (c.kind - 1)=14:=by rw[hk,show(15:Int) - 1=((14:Nat):Int) from rfl];exact wrap_i64 14 (by decide)
 refine j8 fU rfl jM (by rw[hw];decide) (by rw[hw];decide) ?_
 have hw2:(IntKind.i64.wrap (c.kind - 1)).toNat=14:=by rw[hw];rfl
 rw[hw2]
 have hl:∀ K:V→Prop,ldB 3 2 bmL 14 K=K (.clo (.func 83) [.bp 0 0] []):=fun K=>propext ⟨fun h=>h.2,fun h=>⟨by decide,h⟩⟩
 simp only[eC,aV,seval,ah,ai,hmb,hl]
 rw[hg]
 cases hD:doM p s c 15 with
 |error e=>
  rw[hD] at hO
  exact .inr (eM 0 rfl rfl hO rfl (ab rfl) rfl aY (li (by rfl) (by rfl) (by rfl) (ab rfl)))
 |ok s'=>
  rw[hD] at hO
  refine .inl (fe 0 rfl hO rfl (ab rfl) rfl rfl ?_)
  simp only[eC,seval,ah,ai]
  refine dj [(2,.bp 1 0)] rfl rfl (c9 ke) (ab rfl) ⟨rfl,trivial⟩ ⟨rfl,rfl,trivial⟩ ?_
  rw[eE]
  exact(eN kp rfl (b:=1) (o:=0)).mpr ⟨rfl,ae _,rfl⟩
set_option maxHeartbeats 2000000 in
theorem D2 (hp:p.types.length≤8) (hr:p.rules.length≤40) (hq:p.quorums.length≤1000) (hP:Kp.PolIn p) (hS:SyOk s) (hv:Kp.gB p=true) (hk:c.kind=16):FnB Tryz.prog glM 35 [.bp 0 0] [mB p s c] (i64 (stR (bG p s c)).2) [mB p (stO s (bG p s c)) c,[i64 (stR (bG p s c)).2]]:=by
 have hV:=Kp.fV iH p hP (by unfold Kp.gr;omega)
 refine iF (rs:=[.cell 2 36]) 1 trO mixed Tryz.func35 rfl rfl rfl rfl (by simp) (by kernel_rfl) (by kernel_rfl) ⟨rfl,rfl,by decide⟩ ⟨rfl,rfl,rfl⟩ iI rfl (df rfl) (by simp) rfl ?_
 simp only[eC,seval,ah,fS,fa]
 refine⟨_,⟨rfl,rfl⟩,rfl,?_⟩
 have hmb:ck bmL=false:=rfl
 have hset:eF (ot 16 (V.c (C.lit Value.nilFunc))) 0 bmL=bmL:=rfl
 refine fY (vs:=bmL) fU rfl rfl jM rfl rfl ?_
 simp only[ee,aV,seval,ah,ai]
 refine⟨rfl,⟨rfl,ae _⟩,?_⟩
 rw[hset]
 have h1:1≤c.kind:=by omega
 have h2:c.kind≤16:=by omega
 simp only[ee,aV,seval,ah,ai,h1,h2,ai]
 refine .inl (aD rfl hV (fun _=>rfl) ?_)
 have good:bG p s c=doM p s c c.kind.toNat:=by
  unfold bG dR
  rw[hv,if_pos (by simp[inI];omega)];rfl
 simp only[lz,aV,seval,hv]
 refine .inl (aD rfl (fW 1) (fun _=>rfl) ?_)
 simp only[ee,aV,seval,ah,ai]
 have hO:FnO Tryz.prog glM 84 [.bp 0 0] [mB p s c] (oP (doM p s c 16)) (.tup []) [mB p (stO s (doM p s c 16)) c]:=DY hp hr hS
 have hg:bG p s c=doM p s c 16:=by rw[good,hk];rfl
 have hw:IntKind.i64.wrap (c.kind - 1)=15:=by rw[hk,show(16:Int) - 1=((15:Nat):Int) from rfl];exact wrap_i64 15 (by decide)
 refine j8 fU rfl jM (by rw[hw];decide) (by rw[hw];decide) ?_
 have hw2:(IntKind.i64.wrap (c.kind - 1)).toNat=15:=by rw[hw];rfl
 rw[hw2]
 have hl:∀ K:V→Prop,ldB 3 2 bmL 15 K=K (.clo (.func 84) [.bp 0 0] []):=fun K=>propext ⟨fun h=>h.2,fun h=>⟨by decide,h⟩⟩
 simp only[eC,aV,seval,ah,ai,hmb,hl]
 rw[hg]
 cases hD:doM p s c 16 with
 |error e=>
  rw[hD] at hO
  exact .inr (eM 0 rfl rfl hO rfl (ab rfl) rfl aY (li (by rfl) (by rfl) (by rfl) (ab rfl)))
 |ok s'=>
  rw[hD] at hO
  refine .inl (fe 0 rfl hO rfl (ab rfl) rfl rfl ?_)
  simp only[eC,seval,ah,ai]
  refine dj [(2,.bp 1 0)] rfl rfl (c9 ke) (ab rfl) ⟨rfl,trivial⟩ ⟨rfl,rfl,trivial⟩ ?_
  rw[eE]
  exact(eN kp rfl (b:=1) (o:=0)).mpr ⟨rfl,ae _,rfl⟩
theorem aai (hp:p.types.length≤8) (hr:p.rules.length≤40) (hq:p.quorums.length≤1000) (hP:Kp.PolIn p) (hS:SyOk s):FnB Tryz.prog glM 35 [.bp 0 0] [mB p s c] (i64 (stR (bG p s c)).2) [mB p (stO s (bG p s c)) c,[i64 (stR (bG p s c)).2]]:=by
 by_cases hb:(inI (c.kind - 1) 16&&Kp.gB p)=true
 ·simp only[aF] at hb
  obtain⟨hb,hv⟩:=hb
  have hb:=Px hb
  have hk:c.kind=1∨c.kind=2∨c.kind=3∨c.kind=4∨c.kind=5∨c.kind=6∨c.kind=7∨c.kind=8∨c.kind=9∨c.kind=10∨c.kind=11∨c.kind=12∨c.kind=13∨c.kind=14∨c.kind=15∨c.kind=16:=by omega
  rcases hk with hk | hk | hk | hk | hk | hk | hk | hk | hk | hk | hk | hk | hk | hk | hk | hk
  ·exact DZ hp hr hq hP hS hv hk
  ·exact Ut hp hr hq hP hS hv hk
  ·exact xi hp hr hq hP hS hv hk
  ·exact Gp hp hr hq hP hS hv hk
  ·exact Gq hp hr hq hP hS hv hk
  ·exact Ys hp hr hq hP hS hv hk
  ·exact Uu hp hr hq hP hS hv hk
  ·exact Ky hp hr hq hP hS hv hk
  ·exact Gr hp hr hq hP hS hv hk
  ·exact Bu hp hr hq hP hS hv hk
  ·exact Kz hp hr hq hP hS hv hk
  ·exact Uv hp hr hq hP hS hv hk
  ·exact D1 hp hr hq hP hS hv hk
  ·exact Gs hp hr hq hP hS hv hk
  ·exact Gt hp hr hq hP hS hv hk
  ·exact D2 hp hr hq hP hS hv hk
 ·exact Yr hp hr hq hP hS (by simpa using hb)
