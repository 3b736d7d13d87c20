/- Layer 16: a call is executed: do. -/
import Derived.Test.YtegbpjodbjhjeaaGreatDoorVlMd
import Derived.Test.YtegbpjodbjhjeaaGreatDoorVlM8
import Derived.Test.YtegbpjodbjhjeaaGreatDoorVlM9
import Derived.Test.YtegbpjodbjhjeaaGreatDoorKpVlChk
set_option maxHeartbeats 2000000
set_option linter.all false
namespace Go.Proofs.YtegbpjodbjhjeaaGreatDoor
open Go Go.Vl
open Kp (Pol Ty Ru Qu poC tyC ruC quC)
variable {G:Gl} {p:Pol} {s:Sy} {c:Cl}
set_option maxRecDepth 10000
abbrev trO:List Nat:=[3000002,2900003,2900004,1000068]
theorem fD {P:Program} {tr:List Nat} {t:Nat} {g:FuncId} {k m:Nat} {rest:Code} {r:V} {b1:List (List V)} {rs:List ResultVar} {s:Vl.S}:Ji P G tr t g k rest r b1 rs m s=(∃ cs,(s.fr t=.clo (.func g) [] cs∧cs.length=k)∧s.nb=nL tr∧pwp P G tr (KY P G tr g k cs (nL tr) r b1 rs m) rest (uA P (nL tr) r b1 rs) s):=rfl
theorem lv:nL trO=2:=rfl
theorem ad4 {e:Int} {fr:Nat→V} {bx:Nat→List V} {nb:Nat} {x:C} (h2:fr 2=.bp 1 0) (h0:bx 0=mB p s c) (h1:bx 1=[V.c x]) (uZ:2≤nb) :
 KY Tryz.prog glM trO 68 1 [.bp 1 0] 2 (i64 e) [mB p s c,[i64 e]] [.cell 2 36] 69 (pnV e) ⟨fr,bx,nb⟩:=by
 refine⟨68,[(2,0,36,.int .i64 e,i64 e)],by decide,abh e,?_⟩
 refine⟨⟨by decide,⟨1,0,h2,rfl⟩,fun I w=>.c _ _ (.lit _ rfl)⟩,?_⟩
 have hs:eU [V.c x] 0 [i64 e]=[i64 e]:=rfl
 simp only[pkA,ptA,seval,h2,h1,hs]
 refine⟨by omega,?_⟩
 refine⟨[(2,.bp 1 0)],cj rfl (ae 2) uZ ⟨by simp[ar,h2],trivial⟩ ⟨by simp[ar,h0],by simp[],trivial⟩,?_⟩
 refine (gb mz rfl (b:=1) (o:=0)).mpr ⟨rfl,?_⟩
 exact⟨by decide,rfl⟩
theorem mF {e:Int} {fr:Nat→V} {bx:Nat→List V} {nb:Nat} {x:C} (h2:fr 2=.bp 1 0) (h0:bx 0=mB p s c) (h1:bx 1=[V.c x]) (uZ:2≤nb) :
 KY Tryz.prog glM trO 68 1 [.bp 1 0] (nL trO) (i64 (stR (Except.error e:Ou)).2) [mB p (stO s (.error e)) c,[i64 (stR (Except.error e:Ou)).2]] [.cell 2 36] Tryz.f35.ntmps (pnV e) ⟨fr,bx,nb⟩:=ad4 h2 h0 h1 uZ
theorem gW {P:Program} {T e:TypeId} {i j:TI} {n:Nat} {z:List C} {parts:List (Nat×V)} {vs:List V} {K:V→Prop} (hT:ti P T=some i) (hk:i.kd=.arr n e) (hz:i.zero=some z) (hE:ti P e=some j)
 (h1:jp ((List.range n).map fun i=>(i*j.size,j.size,j.agg)) parts z=none) (h2:tZ ((List.range n).map fun i=>(i*j.size,j.size,j.agg)) parts (z.map .c)=some vs) (hK:K (.mag vs)):gI P T parts K:=by
 obtain⟨a1,a2,a3,a4,a5,a6,a7⟩:=i
 simp only at hk hz;subst hk;subst hz
 simp only[gI,hT,hE,h1,h2]
 exact hK
def bmL:List V:=[.bm 69 0 0,.bm 70 0 0,.bm 71 0 0,.bm 72 0 0,.bm 73 0 0,.bm 74 0 0,.bm 75 0 0,.bm 76 0 0,.bm 77 0 0,.bm 78 0 0,.bm 79 0 0,.bm 80 0 0,.bm 81 0 0,.bm 82 0 0,.bm 83 0 0,.bm 84 0 0]
def eS:=jj @pkX (jj @pkA @ptA)
def eK:=jj @pkX (jj @pkA (jj @ptA @pkM))
def mP:=jj @pkX @pkA
theorem abj (hp:p.types.length≤8) (hr:p.rules.length≤40) (hq:p.quorums.length≤1000) (hP:Kp.PolIn p) (hS:SyOk s) (bad0:(inI (c.kind - 1) 16&&Kp.gQ p)=false):FnB Tryz.prog glM 35 [.bp 0 0] [mB p s c] (i64 (stR (bN p s c)).2) [mB p (stO s (bN p s c)) c,[i64 (stR (bN p s c)).2]]:=by
 have bad:bN p s c=.error 1:=by unfold bN er;rw[bad0];rfl
 have hV:=Kp.gR ju p hP (by unfold Kp.ij;omega)
 refine jq (rs:=[.cell 2 36]) 1 trO mixed Tryz.func35 rfl rfl rfl rfl (by simp) (by kernel_rfl) (by kernel_rfl) ⟨rfl,rfl,by decide⟩ ⟨rfl,rfl,rfl⟩ jv rfl (dA rfl) (by simp) rfl ?_
 simp only[eS,seval,ah,gJ,fD]
 refine⟨_,⟨rfl,rfl⟩,rfl,?_⟩
 have iZ:cX bmL=false:=rfl
 have gp:eU (rK 16 (V.c (C.lit Value.nilFunc))) 0 bmL=bmL:=rfl
 refine gW (vs:=bmL) gP rfl rfl k6 rfl rfl ?_
 simp only[eK,a8,seval,ah,ai]
 refine⟨rfl,⟨rfl,ae _⟩,?_⟩
 rw[gp]
 by_cases h1:1≤c.kind
 case neg=>
  rw[bad]
  simp only[mP,a8,seval,h1,cd]
  exact .inl (.inr (tW rfl rfl (jY 1) rfl (mF (by rfl) (by rfl) (by rfl) (ab rfl))))
 by_cases h2:c.kind≤16
 case neg=>
  rw[bad]
  simp only[eK,a8,seval,ah,ai,h1,h2,cd,ai]
  exact .inl (.inr (tW rfl rfl (jY 1) rfl (mF (by rfl) (by rfl) (by rfl) (ab rfl))))
 simp only[eK,a8,seval,ah,ai,h1,h2,ai]
 refine .inl (aD rfl hV (fun _=>rfl) ?_)
 have hv:Kp.gQ p=false:=by
  rw[show inI (c.kind - 1) 16=true by simp[inI];omega] at bad0
  exact bad0
 rw[bad]
 simp only[mP,a8,seval,hv]
 exact .inr (tW rfl rfl (jY 1) rfl (mF (by rfl) (by rfl) (by rfl) (ab rfl)))
theorem Hx (hp:p.types.length≤8) (hr:p.rules.length≤40) (hq:p.quorums.length≤1000) (hP:Kp.PolIn p) (hS:SyOk s) (hv:Kp.gQ p=true) (hk:c.kind=1):FnB Tryz.prog glM 35 [.bp 0 0] [mB p s c] (i64 (stR (bN p s c)).2) [mB p (stO s (bN p s c)) c,[i64 (stR (bN p s c)).2]]:=by
 have hV:=Kp.gR ju p hP (by unfold Kp.ij;omega)
 refine jq (rs:=[.cell 2 36]) 1 trO mixed Tryz.func35 rfl rfl rfl rfl (by simp) (by kernel_rfl) (by kernel_rfl) ⟨rfl,rfl,by decide⟩ ⟨rfl,rfl,rfl⟩ jv rfl (dA rfl) (by simp) rfl ?_
 simp only[eS,seval,ah,gJ,fD]
 refine⟨_,⟨rfl,rfl⟩,rfl,?_⟩
 have iZ:cX bmL=false:=rfl
 have gp:eU (rK 16 (V.c (C.lit Value.nilFunc))) 0 bmL=bmL:=rfl
 refine gW (vs:=bmL) gP rfl rfl k6 rfl rfl ?_
 simp only[eK,a8,seval,ah,ai]
 refine⟨rfl,⟨rfl,ae _⟩,?_⟩
 rw[gp]
 have h1:1≤c.kind:=by omega
 have h2:c.kind≤16:=by omega
 simp only[eK,a8,seval,ah,ai,h1,h2,ai]
 refine .inl (aD rfl hV (fun _=>rfl) ?_)
 have good:bN p s c=doM p s c c.kind.toNat:=by
  unfold bN er
  rw[hv,if_pos (by simp[inI];omega)];rfl
 simp only[mP,a8,seval,hv]
 refine .inl (aD rfl (gU 1) (fun _=>rfl) ?_)
 simp only[eK,a8,seval,ah,ai]
 have hO:FnO Tryz.prog glM 69 [.bp 0 0] [mB p s c] (oP (doM p s c 1)) (.tup []) [mB p (stO s (doM p s c 1)) c]:=Hu hp hr hS
 have hg:bN p s c=doM p s c 1:=by rw[good,hk];rfl
 have hw:IntKind.i64.wrap (c.kind - 1)=0:=by rw[hk,show(1:Int) - 1=((0:Nat):Int) from rfl];exact wrap_i64 0 (by decide)
 refine ll gP rfl k6 (by rw[hw];decide) (by rw[hw];decide) ?_
 have lG:(IntKind.i64.wrap (c.kind - 1)).toNat=0:=by rw[hw];rfl
 rw[lG]
 have hl:∀ K:V→Prop,ldB 3 2 bmL 0 K=K (.clo (.func 69) [.bp 0 0] []):=fun K=>propext ⟨fun h=>h.2,fun h=>⟨by decide,h⟩⟩
 simp only[eS,a8,seval,ah,ai,iZ,hl]
 rw[hg]
 cases hD:doM p s c 1 with
 |error e=>
  rw[hD] at hO
  exact .inr (fc 0 rfl rfl hO rfl (ab rfl) rfl bf (mF (by rfl) (by rfl) (by rfl) (ab rfl)))
 |ok s'=>
  rw[hD] at hO
  refine .inl (fG 0 rfl hO rfl (ab rfl) rfl rfl ?_)
  simp only[eS,seval,ah,ai]
  refine dJ [(2,.bp 1 0)] rfl rfl (du lv) (ab rfl) ⟨rfl,trivial⟩ ⟨rfl,rfl,trivial⟩ ?_
  rw[eV]
  exact(gb mz rfl (b:=1) (o:=0)).mpr ⟨rfl,ae _,rfl⟩
theorem Xl (hp:p.types.length≤8) (hr:p.rules.length≤40) (hq:p.quorums.length≤1000) (hP:Kp.PolIn p) (hS:SyOk s) (hv:Kp.gQ p=true) (hk:c.kind=2):FnB Tryz.prog glM 35 [.bp 0 0] [mB p s c] (i64 (stR (bN p s c)).2) [mB p (stO s (bN p s c)) c,[i64 (stR (bN p s c)).2]]:=by
 have hV:=Kp.gR ju p hP (by unfold Kp.ij;omega)
 refine jq (rs:=[.cell 2 36]) 1 trO mixed Tryz.func35 rfl rfl rfl rfl (by simp) (by kernel_rfl) (by kernel_rfl) ⟨rfl,rfl,by decide⟩ ⟨rfl,rfl,rfl⟩ jv rfl (dA rfl) (by simp) rfl ?_
 simp only[eS,seval,ah,gJ,fD]
 refine⟨_,⟨rfl,rfl⟩,rfl,?_⟩
 have iZ:cX bmL=false:=rfl
 have gp:eU (rK 16 (V.c (C.lit Value.nilFunc))) 0 bmL=bmL:=rfl
 refine gW (vs:=bmL) gP rfl rfl k6 rfl rfl ?_
 simp only[eK,a8,seval,ah,ai]
 refine⟨rfl,⟨rfl,ae _⟩,?_⟩
 rw[gp]
 have h1:1≤c.kind:=by omega
 have h2:c.kind≤16:=by omega
 simp only[eK,a8,seval,ah,ai,h1,h2,ai]
 refine .inl (aD rfl hV (fun _=>rfl) ?_)
 have good:bN p s c=doM p s c c.kind.toNat:=by
  unfold bN er
  rw[hv,if_pos (by simp[inI];omega)];rfl
 simp only[mP,a8,seval,hv]
 refine .inl (aD rfl (gU 1) (fun _=>rfl) ?_)
 simp only[eK,a8,seval,ah,ai]
 have hO:FnO Tryz.prog glM 70 [.bp 0 0] [mB p s c] (oP (doM p s c 2)) (.tup []) [mB p (stO s (doM p s c 2)) c]:=Xk hp hr hS
 have hg:bN p s c=doM p s c 2:=by rw[good,hk];rfl
 have hw:IntKind.i64.wrap (c.kind - 1)=1:=by rw[hk,show(2:Int) - 1=((1:Nat):Int) from rfl];exact wrap_i64 1 (by decide)
 refine ll gP rfl k6 (by rw[hw];decide) (by rw[hw];decide) ?_
 have lG:(IntKind.i64.wrap (c.kind - 1)).toNat=1:=by rw[hw];rfl
 rw[lG]
 have hl:∀ K:V→Prop,ldB 3 2 bmL 1 K=K (.clo (.func 70) [.bp 0 0] []):=fun K=>propext ⟨fun h=>h.2,fun h=>⟨by decide,h⟩⟩
 simp only[eS,a8,seval,ah,ai,iZ,hl]
 rw[hg]
 cases hD:doM p s c 2 with
 |error e=>
  rw[hD] at hO
  exact .inr (fc 0 rfl rfl hO rfl (ab rfl) rfl bf (mF (by rfl) (by rfl) (by rfl) (ab rfl)))
 |ok s'=>
  rw[hD] at hO
  refine .inl (fG 0 rfl hO rfl (ab rfl) rfl rfl ?_)
  simp only[eS,seval,ah,ai]
  refine dJ [(2,.bp 1 0)] rfl rfl (du lv) (ab rfl) ⟨rfl,trivial⟩ ⟨rfl,rfl,trivial⟩ ?_
  rw[eV]
  exact(gb mz rfl (b:=1) (o:=0)).mpr ⟨rfl,ae _,rfl⟩
theorem AB (hp:p.types.length≤8) (hr:p.rules.length≤40) (hq:p.quorums.length≤1000) (hP:Kp.PolIn p) (hS:SyOk s) (hv:Kp.gQ p=true) (hk:c.kind=3):FnB Tryz.prog glM 35 [.bp 0 0] [mB p s c] (i64 (stR (bN p s c)).2) [mB p (stO s (bN p s c)) c,[i64 (stR (bN p s c)).2]]:=by
 have hV:=Kp.gR ju p hP (by unfold Kp.ij;omega)
 refine jq (rs:=[.cell 2 36]) 1 trO mixed Tryz.func35 rfl rfl rfl rfl (by simp) (by kernel_rfl) (by kernel_rfl) ⟨rfl,rfl,by decide⟩ ⟨rfl,rfl,rfl⟩ jv rfl (dA rfl) (by simp) rfl ?_
 simp only[eS,seval,ah,gJ,fD]
 refine⟨_,⟨rfl,rfl⟩,rfl,?_⟩
 have iZ:cX bmL=false:=rfl
 have gp:eU (rK 16 (V.c (C.lit Value.nilFunc))) 0 bmL=bmL:=rfl
 refine gW (vs:=bmL) gP rfl rfl k6 rfl rfl ?_
 simp only[eK,a8,seval,ah,ai]
 refine⟨rfl,⟨rfl,ae _⟩,?_⟩
 rw[gp]
 have h1:1≤c.kind:=by omega
 have h2:c.kind≤16:=by omega
 simp only[eK,a8,seval,ah,ai,h1,h2,ai]
 refine .inl (aD rfl hV (fun _=>rfl) ?_)
 have good:bN p s c=doM p s c c.kind.toNat:=by
  unfold bN er
  rw[hv,if_pos (by simp[inI];omega)];rfl
 simp only[mP,a8,seval,hv]
 refine .inl (aD rfl (gU 1) (fun _=>rfl) ?_)
 simp only[eK,a8,seval,ah,ai]
 have hO:FnO Tryz.prog glM 71 [.bp 0 0] [mB p s c] (oP (doM p s c 3)) (.tup []) [mB p (stO s (doM p s c 3)) c]:=AA hp hr hS
 have hg:bN p s c=doM p s c 3:=by rw[good,hk];rfl
 have hw:IntKind.i64.wrap (c.kind - 1)=2:=by rw[hk,show(3:Int) - 1=((2:Nat):Int) from rfl];exact wrap_i64 2 (by decide)
 refine ll gP rfl k6 (by rw[hw];decide) (by rw[hw];decide) ?_
 have lG:(IntKind.i64.wrap (c.kind - 1)).toNat=2:=by rw[hw];rfl
 rw[lG]
 have hl:∀ K:V→Prop,ldB 3 2 bmL 2 K=K (.clo (.func 71) [.bp 0 0] []):=fun K=>propext ⟨fun h=>h.2,fun h=>⟨by decide,h⟩⟩
 simp only[eS,a8,seval,ah,ai,iZ,hl]
 rw[hg]
 cases hD:doM p s c 3 with
 |error e=>
  rw[hD] at hO
  exact .inr (fc 0 rfl rfl hO rfl (ab rfl) rfl bf (mF (by rfl) (by rfl) (by rfl) (ab rfl)))
 |ok s'=>
  rw[hD] at hO
  refine .inl (fG 0 rfl hO rfl (ab rfl) rfl rfl ?_)
  simp only[eS,seval,ah,ai]
  refine dJ [(2,.bp 1 0)] rfl rfl (du lv) (ab rfl) ⟨rfl,trivial⟩ ⟨rfl,rfl,trivial⟩ ?_
  rw[eV]
  exact(gb mz rfl (b:=1) (o:=0)).mpr ⟨rfl,ae _,rfl⟩
theorem J3 (hp:p.types.length≤8) (hr:p.rules.length≤40) (hq:p.quorums.length≤1000) (hP:Kp.PolIn p) (hS:SyOk s) (hv:Kp.gQ p=true) (hk:c.kind=4):FnB Tryz.prog glM 35 [.bp 0 0] [mB p s c] (i64 (stR (bN p s c)).2) [mB p (stO s (bN p s c)) c,[i64 (stR (bN p s c)).2]]:=by
 have hV:=Kp.gR ju p hP (by unfold Kp.ij;omega)
 refine jq (rs:=[.cell 2 36]) 1 trO mixed Tryz.func35 rfl rfl rfl rfl (by simp) (by kernel_rfl) (by kernel_rfl) ⟨rfl,rfl,by decide⟩ ⟨rfl,rfl,rfl⟩ jv rfl (dA rfl) (by simp) rfl ?_
 simp only[eS,seval,ah,gJ,fD]
 refine⟨_,⟨rfl,rfl⟩,rfl,?_⟩
 have iZ:cX bmL=false:=rfl
 have gp:eU (rK 16 (V.c (C.lit Value.nilFunc))) 0 bmL=bmL:=rfl
 refine gW (vs:=bmL) gP rfl rfl k6 rfl rfl ?_
 simp only[eK,a8,seval,ah,ai]
 refine⟨rfl,⟨rfl,ae _⟩,?_⟩
 rw[gp]
 have h1:1≤c.kind:=by omega
 have h2:c.kind≤16:=by omega
 simp only[eK,a8,seval,ah,ai,h1,h2,ai]
 refine .inl (aD rfl hV (fun _=>rfl) ?_)
 have good:bN p s c=doM p s c c.kind.toNat:=by
  unfold bN er
  rw[hv,if_pos (by simp[inI];omega)];rfl
 simp only[mP,a8,seval,hv]
 refine .inl (aD rfl (gU 1) (fun _=>rfl) ?_)
 simp only[eK,a8,seval,ah,ai]
 have hO:FnO Tryz.prog glM 72 [.bp 0 0] [mB p s c] (oP (doM p s c 4)) (.tup []) [mB p (stO s (doM p s c 4)) c]:=JY hp hr hS
 have hg:bN p s c=doM p s c 4:=by rw[good,hk];rfl
 have hw:IntKind.i64.wrap (c.kind - 1)=3:=by rw[hk,show(4:Int) - 1=((3:Nat):Int) from rfl];exact wrap_i64 3 (by decide)
 refine ll gP rfl k6 (by rw[hw];decide) (by rw[hw];decide) ?_
 have lG:(IntKind.i64.wrap (c.kind - 1)).toNat=3:=by rw[hw];rfl
 rw[lG]
 have hl:∀ K:V→Prop,ldB 3 2 bmL 3 K=K (.clo (.func 72) [.bp 0 0] []):=fun K=>propext ⟨fun h=>h.2,fun h=>⟨by decide,h⟩⟩
 simp only[eS,a8,seval,ah,ai,iZ,hl]
 rw[hg]
 cases hD:doM p s c 4 with
 |error e=>
  rw[hD] at hO
  exact .inr (fc 0 rfl rfl hO rfl (ab rfl) rfl bf (mF (by rfl) (by rfl) (by rfl) (ab rfl)))
 |ok s'=>
  rw[hD] at hO
  refine .inl (fG 0 rfl hO rfl (ab rfl) rfl rfl ?_)
  simp only[eS,seval,ah,ai]
  refine dJ [(2,.bp 1 0)] rfl rfl (du lv) (ab rfl) ⟨rfl,trivial⟩ ⟨rfl,rfl,trivial⟩ ?_
  rw[eV]
  exact(gb mz rfl (b:=1) (o:=0)).mpr ⟨rfl,ae _,rfl⟩
theorem J4 (hp:p.types.length≤8) (hr:p.rules.length≤40) (hq:p.quorums.length≤1000) (hP:Kp.PolIn p) (hS:SyOk s) (hv:Kp.gQ p=true) (hk:c.kind=5):FnB Tryz.prog glM 35 [.bp 0 0] [mB p s c] (i64 (stR (bN p s c)).2) [mB p (stO s (bN p s c)) c,[i64 (stR (bN p s c)).2]]:=by
 have hV:=Kp.gR ju p hP (by unfold Kp.ij;omega)
 refine jq (rs:=[.cell 2 36]) 1 trO mixed Tryz.func35 rfl rfl rfl rfl (by simp) (by kernel_rfl) (by kernel_rfl) ⟨rfl,rfl,by decide⟩ ⟨rfl,rfl,rfl⟩ jv rfl (dA rfl) (by simp) rfl ?_
 simp only[eS,seval,ah,gJ,fD]
 refine⟨_,⟨rfl,rfl⟩,rfl,?_⟩
 have iZ:cX bmL=false:=rfl
 have gp:eU (rK 16 (V.c (C.lit Value.nilFunc))) 0 bmL=bmL:=rfl
 refine gW (vs:=bmL) gP rfl rfl k6 rfl rfl ?_
 simp only[eK,a8,seval,ah,ai]
 refine⟨rfl,⟨rfl,ae _⟩,?_⟩
 rw[gp]
 have h1:1≤c.kind:=by omega
 have h2:c.kind≤16:=by omega
 simp only[eK,a8,seval,ah,ai,h1,h2,ai]
 refine .inl (aD rfl hV (fun _=>rfl) ?_)
 have good:bN p s c=doM p s c c.kind.toNat:=by
  unfold bN er
  rw[hv,if_pos (by simp[inI];omega)];rfl
 simp only[mP,a8,seval,hv]
 refine .inl (aD rfl (gU 1) (fun _=>rfl) ?_)
 simp only[eK,a8,seval,ah,ai]
 have hO:FnO Tryz.prog glM 73 [.bp 0 0] [mB p s c] (oP (doM p s c 5)) (.tup []) [mB p (stO s (doM p s c 5)) c]:=JZ hp hr hS
 have hg:bN p s c=doM p s c 5:=by rw[good,hk];rfl
 have hw:IntKind.i64.wrap (c.kind - 1)=4:=by rw[hk,show(5:Int) - 1=((4:Nat):Int) from rfl];exact wrap_i64 4 (by decide)
 refine ll gP rfl k6 (by rw[hw];decide) (by rw[hw];decide) ?_
 have lG:(IntKind.i64.wrap (c.kind - 1)).toNat=4:=by rw[hw];rfl
 rw[lG]
 have hl:∀ K:V→Prop,ldB 3 2 bmL 4 K=K (.clo (.func 73) [.bp 0 0] []):=fun K=>propext ⟨fun h=>h.2,fun h=>⟨by decide,h⟩⟩
 simp only[eS,a8,seval,ah,ai,iZ,hl]
 rw[hg]
 cases hD:doM p s c 5 with
 |error e=>
  rw[hD] at hO
  exact .inr (fc 0 rfl rfl hO rfl (ab rfl) rfl bf (mF (by rfl) (by rfl) (by rfl) (ab rfl)))
 |ok s'=>
  rw[hD] at hO
  refine .inl (fG 0 rfl hO rfl (ab rfl) rfl rfl ?_)
  simp only[eS,seval,ah,ai]
  refine dJ [(2,.bp 1 0)] rfl rfl (du lv) (ab rfl) ⟨rfl,trivial⟩ ⟨rfl,rfl,trivial⟩ ?_
  rw[eV]
  exact(gb mz rfl (b:=1) (o:=0)).mpr ⟨rfl,ae _,rfl⟩
theorem abk (hp:p.types.length≤8) (hr:p.rules.length≤40) (hq:p.quorums.length≤1000) (hP:Kp.PolIn p) (hS:SyOk s) (hv:Kp.gQ p=true) (hk:c.kind=6):FnB Tryz.prog glM 35 [.bp 0 0] [mB p s c] (i64 (stR (bN p s c)).2) [mB p (stO s (bN p s c)) c,[i64 (stR (bN p s c)).2]]:=by
 have hV:=Kp.gR ju p hP (by unfold Kp.ij;omega)
 refine jq (rs:=[.cell 2 36]) 1 trO mixed Tryz.func35 rfl rfl rfl rfl (by simp) (by kernel_rfl) (by kernel_rfl) ⟨rfl,rfl,by decide⟩ ⟨rfl,rfl,rfl⟩ jv rfl (dA rfl) (by simp) rfl ?_
 simp only[eS,seval,ah,gJ,fD]
 refine⟨_,⟨rfl,rfl⟩,rfl,?_⟩
 have iZ:cX bmL=false:=rfl
 have gp:eU (rK 16 (V.c (C.lit Value.nilFunc))) 0 bmL=bmL:=rfl
 refine gW (vs:=bmL) gP rfl rfl k6 rfl rfl ?_
 simp only[eK,a8,seval,ah,ai]
 refine⟨rfl,⟨rfl,ae _⟩,?_⟩
 rw[gp]
 have h1:1≤c.kind:=by omega
 have h2:c.kind≤16:=by omega
 simp only[eK,a8,seval,ah,ai,h1,h2,ai]
 refine .inl (aD rfl hV (fun _=>rfl) ?_)
 have good:bN p s c=doM p s c c.kind.toNat:=by
  unfold bN er
  rw[hv,if_pos (by simp[inI];omega)];rfl
 simp only[mP,a8,seval,hv]
 refine .inl (aD rfl (gU 1) (fun _=>rfl) ?_)
 simp only[eK,a8,seval,ah,ai]
 have hO:FnO Tryz.prog glM 74 [.bp 0 0] [mB p s c] (oP (doM p s c 6)) (.tup []) [mB p (stO s (doM p s c 6)) c]:=abi hp hr hS
 have hg:bN p s c=doM p s c 6:=by rw[good,hk];rfl
 have hw:IntKind.i64.wrap (c.kind - 1)=5:=by rw[hk,show(6:Int) - 1=((5:Nat):Int) from rfl];exact wrap_i64 5 (by decide)
 refine ll gP rfl k6 (by rw[hw];decide) (by rw[hw];decide) ?_
 have lG:(IntKind.i64.wrap (c.kind - 1)).toNat=5:=by rw[hw];rfl
 rw[lG]
 have hl:∀ K:V→Prop,ldB 3 2 bmL 5 K=K (.clo (.func 74) [.bp 0 0] []):=fun K=>propext ⟨fun h=>h.2,fun h=>⟨by decide,h⟩⟩
 simp only[eS,a8,seval,ah,ai,iZ,hl]
 rw[hg]
 cases hD:doM p s c 6 with
 |error e=>
  rw[hD] at hO
  exact .inr (fc 0 rfl rfl hO rfl (ab rfl) rfl bf (mF (by rfl) (by rfl) (by rfl) (ab rfl)))
 |ok s'=>
  rw[hD] at hO
  refine .inl (fG 0 rfl hO rfl (ab rfl) rfl rfl ?_)
  simp only[eS,seval,ah,ai]
  refine dJ [(2,.bp 1 0)] rfl rfl (du lv) (ab rfl) ⟨rfl,trivial⟩ ⟨rfl,rfl,trivial⟩ ?_
  rw[eV]
  exact(gb mz rfl (b:=1) (o:=0)).mpr ⟨rfl,ae _,rfl⟩
theorem Xm (hp:p.types.length≤8) (hr:p.rules.length≤40) (hq:p.quorums.length≤1000) (hP:Kp.PolIn p) (hS:SyOk s) (hv:Kp.gQ p=true) (hk:c.kind=7):FnB Tryz.prog glM 35 [.bp 0 0] [mB p s c] (i64 (stR (bN p s c)).2) [mB p (stO s (bN p s c)) c,[i64 (stR (bN p s c)).2]]:=by
 have hV:=Kp.gR ju p hP (by unfold Kp.ij;omega)
 refine jq (rs:=[.cell 2 36]) 1 trO mixed Tryz.func35 rfl rfl rfl rfl (by simp) (by kernel_rfl) (by kernel_rfl) ⟨rfl,rfl,by decide⟩ ⟨rfl,rfl,rfl⟩ jv rfl (dA rfl) (by simp) rfl ?_
 simp only[eS,seval,ah,gJ,fD]
 refine⟨_,⟨rfl,rfl⟩,rfl,?_⟩
 have iZ:cX bmL=false:=rfl
 have gp:eU (rK 16 (V.c (C.lit Value.nilFunc))) 0 bmL=bmL:=rfl
 refine gW (vs:=bmL) gP rfl rfl k6 rfl rfl ?_
 simp only[eK,a8,seval,ah,ai]
 refine⟨rfl,⟨rfl,ae _⟩,?_⟩
 rw[gp]
 have h1:1≤c.kind:=by omega
 have h2:c.kind≤16:=by omega
 simp only[eK,a8,seval,ah,ai,h1,h2,ai]
 refine .inl (aD rfl hV (fun _=>rfl) ?_)
 have good:bN p s c=doM p s c c.kind.toNat:=by
  unfold bN er
  rw[hv,if_pos (by simp[inI];omega)];rfl
 simp only[mP,a8,seval,hv]
 refine .inl (aD rfl (gU 1) (fun _=>rfl) ?_)
 simp only[eK,a8,seval,ah,ai]
 have hO:FnO Tryz.prog glM 75 [.bp 0 0] [mB p s c] (oP (doM p s c 7)) (.tup []) [mB p (stO s (doM p s c 7)) c]:=Xj hp hr hS
 have hg:bN p s c=doM p s c 7:=by rw[good,hk];rfl
 have hw:IntKind.i64.wrap (c.kind - 1)=6:=by rw[hk,show(7:Int) - 1=((6:Nat):Int) from rfl];exact wrap_i64 6 (by decide)
 refine ll gP rfl k6 (by rw[hw];decide) (by rw[hw];decide) ?_
 have lG:(IntKind.i64.wrap (c.kind - 1)).toNat=6:=by rw[hw];rfl
 rw[lG]
 have hl:∀ K:V→Prop,ldB 3 2 bmL 6 K=K (.clo (.func 75) [.bp 0 0] []):=fun K=>propext ⟨fun h=>h.2,fun h=>⟨by decide,h⟩⟩
 simp only[eS,a8,seval,ah,ai,iZ,hl]
 rw[hg]
 cases hD:doM p s c 7 with
 |error e=>
  rw[hD] at hO
  exact .inr (fc 0 rfl rfl hO rfl (ab rfl) rfl bf (mF (by rfl) (by rfl) (by rfl) (ab rfl)))
 |ok s'=>
  rw[hD] at hO
  refine .inl (fG 0 rfl hO rfl (ab rfl) rfl rfl ?_)
  simp only[eS,seval,ah,ai]
  refine dJ [(2,.bp 1 0)] rfl rfl (du lv) (ab rfl) ⟨rfl,trivial⟩ ⟨rfl,rfl,trivial⟩ ?_
  rw[eV]
  exact(gb mz rfl (b:=1) (o:=0)).mpr ⟨rfl,ae _,rfl⟩
theorem OH (hp:p.types.length≤8) (hr:p.rules.length≤40) (hq:p.quorums.length≤1000) (hP:Kp.PolIn p) (hS:SyOk s) (hv:Kp.gQ p=true) (hk:c.kind=8):FnB Tryz.prog glM 35 [.bp 0 0] [mB p s c] (i64 (stR (bN p s c)).2) [mB p (stO s (bN p s c)) c,[i64 (stR (bN p s c)).2]]:=by
 have hV:=Kp.gR ju p hP (by unfold Kp.ij;omega)
 refine jq (rs:=[.cell 2 36]) 1 trO mixed Tryz.func35 rfl rfl rfl rfl (by simp) (by kernel_rfl) (by kernel_rfl) ⟨rfl,rfl,by decide⟩ ⟨rfl,rfl,rfl⟩ jv rfl (dA rfl) (by simp) rfl ?_
 simp only[eS,seval,ah,gJ,fD]
 refine⟨_,⟨rfl,rfl⟩,rfl,?_⟩
 have iZ:cX bmL=false:=rfl
 have gp:eU (rK 16 (V.c (C.lit Value.nilFunc))) 0 bmL=bmL:=rfl
 refine gW (vs:=bmL) gP rfl rfl k6 rfl rfl ?_
 simp only[eK,a8,seval,ah,ai]
 refine⟨rfl,⟨rfl,ae _⟩,?_⟩
 rw[gp]
 have h1:1≤c.kind:=by omega
 have h2:c.kind≤16:=by omega
 simp only[eK,a8,seval,ah,ai,h1,h2,ai]
 refine .inl (aD rfl hV (fun _=>rfl) ?_)
 have good:bN p s c=doM p s c c.kind.toNat:=by
  unfold bN er
  rw[hv,if_pos (by simp[inI];omega)];rfl
 simp only[mP,a8,seval,hv]
 refine .inl (aD rfl (gU 1) (fun _=>rfl) ?_)
 simp only[eK,a8,seval,ah,ai]
 have hO:FnO Tryz.prog glM 76 [.bp 0 0] [mB p s c] (oP (doM p s c 8)) (.tup []) [mB p (stO s (doM p s c 8)) c]:=OG hp hr hS
 have hg:bN p s c=doM p s c 8:=by rw[good,hk];rfl
 have hw:IntKind.i64.wrap (c.kind - 1)=7:=by rw[hk,show(8:Int) - 1=((7:Nat):Int) from rfl];exact wrap_i64 7 (by decide)
 refine ll gP rfl k6 (by rw[hw];decide) (by rw[hw];decide) ?_
 have lG:(IntKind.i64.wrap (c.kind - 1)).toNat=7:=by rw[hw];rfl
 rw[lG]
 have hl:∀ K:V→Prop,ldB 3 2 bmL 7 K=K (.clo (.func 76) [.bp 0 0] []):=fun K=>propext ⟨fun h=>h.2,fun h=>⟨by decide,h⟩⟩
 simp only[eS,a8,seval,ah,ai,iZ,hl]
 rw[hg]
 cases hD:doM p s c 8 with
 |error e=>
  rw[hD] at hO
  exact .inr (fc 0 rfl rfl hO rfl (ab rfl) rfl bf (mF (by rfl) (by rfl) (by rfl) (ab rfl)))
 |ok s'=>
  rw[hD] at hO
  refine .inl (fG 0 rfl hO rfl (ab rfl) rfl rfl ?_)
  simp only[eS,seval,ah,ai]
  refine dJ [(2,.bp 1 0)] rfl rfl (du lv) (ab rfl) ⟨rfl,trivial⟩ ⟨rfl,rfl,trivial⟩ ?_
  rw[eV]
  exact(gb mz rfl (b:=1) (o:=0)).mpr ⟨rfl,ae _,rfl⟩
theorem J5 (hp:p.types.length≤8) (hr:p.rules.length≤40) (hq:p.quorums.length≤1000) (hP:Kp.PolIn p) (hS:SyOk s) (hv:Kp.gQ p=true) (hk:c.kind=9):FnB Tryz.prog glM 35 [.bp 0 0] [mB p s c] (i64 (stR (bN p s c)).2) [mB p (stO s (bN p s c)) c,[i64 (stR (bN p s c)).2]]:=by
 have hV:=Kp.gR ju p hP (by unfold Kp.ij;omega)
 refine jq (rs:=[.cell 2 36]) 1 trO mixed Tryz.func35 rfl rfl rfl rfl (by simp) (by kernel_rfl) (by kernel_rfl) ⟨rfl,rfl,by decide⟩ ⟨rfl,rfl,rfl⟩ jv rfl (dA rfl) (by simp) rfl ?_
 simp only[eS,seval,ah,gJ,fD]
 refine⟨_,⟨rfl,rfl⟩,rfl,?_⟩
 have iZ:cX bmL=false:=rfl
 have gp:eU (rK 16 (V.c (C.lit Value.nilFunc))) 0 bmL=bmL:=rfl
 refine gW (vs:=bmL) gP rfl rfl k6 rfl rfl ?_
 simp only[eK,a8,seval,ah,ai]
 refine⟨rfl,⟨rfl,ae _⟩,?_⟩
 rw[gp]
 have h1:1≤c.kind:=by omega
 have h2:c.kind≤16:=by omega
 simp only[eK,a8,seval,ah,ai,h1,h2,ai]
 refine .inl (aD rfl hV (fun _=>rfl) ?_)
 have good:bN p s c=doM p s c c.kind.toNat:=by
  unfold bN er
  rw[hv,if_pos (by simp[inI];omega)];rfl
 simp only[mP,a8,seval,hv]
 refine .inl (aD rfl (gU 1) (fun _=>rfl) ?_)
 simp only[eK,a8,seval,ah,ai]
 have hO:FnO Tryz.prog glM 77 [.bp 0 0] [mB p s c] (oP (doM p s c 9)) (.tup []) [mB p (stO s (doM p s c 9)) c]:=J0 hp hr hS
 have hg:bN p s c=doM p s c 9:=by rw[good,hk];rfl
 have hw:IntKind.i64.wrap (c.kind - 1)=8:=by rw[hk,show(9:Int) - 1=((8:Nat):Int) from rfl];exact wrap_i64 8 (by decide)
 refine ll gP rfl k6 (by rw[hw];decide) (by rw[hw];decide) ?_
 have lG:(IntKind.i64.wrap (c.kind - 1)).toNat=8:=by rw[hw];rfl
 rw[lG]
 have hl:∀ K:V→Prop,ldB 3 2 bmL 8 K=K (.clo (.func 77) [.bp 0 0] []):=fun K=>propext ⟨fun h=>h.2,fun h=>⟨by decide,h⟩⟩
 simp only[eS,a8,seval,ah,ai,iZ,hl]
 rw[hg]
 cases hD:doM p s c 9 with
 |error e=>
  rw[hD] at hO
  exact .inr (fc 0 rfl rfl hO rfl (ab rfl) rfl bf (mF (by rfl) (by rfl) (by rfl) (ab rfl)))
 |ok s'=>
  rw[hD] at hO
  refine .inl (fG 0 rfl hO rfl (ab rfl) rfl rfl ?_)
  simp only[eS,seval,ah,ai]
  refine dJ [(2,.bp 1 0)] rfl rfl (du lv) (ab rfl) ⟨rfl,trivial⟩ ⟨rfl,rfl,trivial⟩ ?_
  rw[eV]
  exact(gb mz rfl (b:=1) (o:=0)).mpr ⟨rfl,ae _,rfl⟩
theorem EM (hp:p.types.length≤8) (hr:p.rules.length≤40) (hq:p.quorums.length≤1000) (hP:Kp.PolIn p) (hS:SyOk s) (hv:Kp.gQ p=true) (hk:c.kind=10):FnB Tryz.prog glM 35 [.bp 0 0] [mB p s c] (i64 (stR (bN p s c)).2) [mB p (stO s (bN p s c)) c,[i64 (stR (bN p s c)).2]]:=by
 have hV:=Kp.gR ju p hP (by unfold Kp.ij;omega)
 refine jq (rs:=[.cell 2 36]) 1 trO mixed Tryz.func35 rfl rfl rfl rfl (by simp) (by kernel_rfl) (by kernel_rfl) ⟨rfl,rfl,by decide⟩ ⟨rfl,rfl,rfl⟩ jv rfl (dA rfl) (by simp) rfl ?_
 simp only[eS,seval,ah,gJ,fD]
 refine⟨_,⟨rfl,rfl⟩,rfl,?_⟩
 have iZ:cX bmL=false:=rfl
 have gp:eU (rK 16 (V.c (C.lit Value.nilFunc))) 0 bmL=bmL:=rfl
 refine gW (vs:=bmL) gP rfl rfl k6 rfl rfl ?_
 simp only[eK,a8,seval,ah,ai]
 refine⟨rfl,⟨rfl,ae _⟩,?_⟩
 rw[gp]
 have h1:1≤c.kind:=by omega
 have h2:c.kind≤16:=by omega
 simp only[eK,a8,seval,ah,ai,h1,h2,ai]
 refine .inl (aD rfl hV (fun _=>rfl) ?_)
 have good:bN p s c=doM p s c c.kind.toNat:=by
  unfold bN er
  rw[hv,if_pos (by simp[inI];omega)];rfl
 simp only[mP,a8,seval,hv]
 refine .inl (aD rfl (gU 1) (fun _=>rfl) ?_)
 simp only[eK,a8,seval,ah,ai]
 have hO:FnO Tryz.prog glM 78 [.bp 0 0] [mB p s c] (oP (doM p s c 10)) (.tup []) [mB p (stO s (doM p s c 10)) c]:=EL hp hr hS
 have hg:bN p s c=doM p s c 10:=by rw[good,hk];rfl
 have hw:IntKind.i64.wrap (c.kind - 1)=9:=by rw[hk,show(10:Int) - 1=((9:Nat):Int) from rfl];exact wrap_i64 9 (by decide)
 refine ll gP rfl k6 (by rw[hw];decide) (by rw[hw];decide) ?_
 have lG:(IntKind.i64.wrap (c.kind - 1)).toNat=9:=by rw[hw];rfl
 rw[lG]
 have hl:∀ K:V→Prop,ldB 3 2 bmL 9 K=K (.clo (.func 78) [.bp 0 0] []):=fun K=>propext ⟨fun h=>h.2,fun h=>⟨by decide,h⟩⟩
 simp only[eS,a8,seval,ah,ai,iZ,hl]
 rw[hg]
 cases hD:doM p s c 10 with
 |error e=>
  rw[hD] at hO
  exact .inr (fc 0 rfl rfl hO rfl (ab rfl) rfl bf (mF (by rfl) (by rfl) (by rfl) (ab rfl)))
 |ok s'=>
  rw[hD] at hO
  refine .inl (fG 0 rfl hO rfl (ab rfl) rfl rfl ?_)
  simp only[eS,seval,ah,ai]
  refine dJ [(2,.bp 1 0)] rfl rfl (du lv) (ab rfl) ⟨rfl,trivial⟩ ⟨rfl,rfl,trivial⟩ ?_
  rw[eV]
  exact(gb mz rfl (b:=1) (o:=0)).mpr ⟨rfl,ae _,rfl⟩
theorem OI (hp:p.types.length≤8) (hr:p.rules.length≤40) (hq:p.quorums.length≤1000) (hP:Kp.PolIn p) (hS:SyOk s) (hv:Kp.gQ p=true) (hk:c.kind=11):FnB Tryz.prog glM 35 [.bp 0 0] [mB p s c] (i64 (stR (bN p s c)).2) [mB p (stO s (bN p s c)) c,[i64 (stR (bN p s c)).2]]:=by
 have hV:=Kp.gR ju p hP (by unfold Kp.ij;omega)
 refine jq (rs:=[.cell 2 36]) 1 trO mixed Tryz.func35 rfl rfl rfl rfl (by simp) (by kernel_rfl) (by kernel_rfl) ⟨rfl,rfl,by decide⟩ ⟨rfl,rfl,rfl⟩ jv rfl (dA rfl) (by simp) rfl ?_
 simp only[eS,seval,ah,gJ,fD]
 refine⟨_,⟨rfl,rfl⟩,rfl,?_⟩
 have iZ:cX bmL=false:=rfl
 have gp:eU (rK 16 (V.c (C.lit Value.nilFunc))) 0 bmL=bmL:=rfl
 refine gW (vs:=bmL) gP rfl rfl k6 rfl rfl ?_
 simp only[eK,a8,seval,ah,ai]
 refine⟨rfl,⟨rfl,ae _⟩,?_⟩
 rw[gp]
 have h1:1≤c.kind:=by omega
 have h2:c.kind≤16:=by omega
 simp only[eK,a8,seval,ah,ai,h1,h2,ai]
 refine .inl (aD rfl hV (fun _=>rfl) ?_)
 have good:bN p s c=doM p s c c.kind.toNat:=by
  unfold bN er
  rw[hv,if_pos (by simp[inI];omega)];rfl
 simp only[mP,a8,seval,hv]
 refine .inl (aD rfl (gU 1) (fun _=>rfl) ?_)
 simp only[eK,a8,seval,ah,ai]
 have hO:FnO Tryz.prog glM 79 [.bp 0 0] [mB p s c] (oP (doM p s c 11)) (.tup []) [mB p (stO s (doM p s c 11)) c]:=OF hp hr hS
 have hg:bN p s c=doM p s c 11:=by rw[good,hk];rfl
 have hw:IntKind.i64.wrap (c.kind - 1)=10:=by rw[hk,show(11:Int) - 1=((10:Nat):Int) from rfl];exact wrap_i64 10 (by decide)
 refine ll gP rfl k6 (by rw[hw];decide) (by rw[hw];decide) ?_
 have lG:(IntKind.i64.wrap (c.kind - 1)).toNat=10:=by rw[hw];rfl
 rw[lG]
 have hl:∀ K:V→Prop,ldB 3 2 bmL 10 K=K (.clo (.func 79) [.bp 0 0] []):=fun K=>propext ⟨fun h=>h.2,fun h=>⟨by decide,h⟩⟩
 simp only[eS,a8,seval,ah,ai,iZ,hl]
 rw[hg]
 cases hD:doM p s c 11 with
 |error e=>
  rw[hD] at hO
  exact .inr (fc 0 rfl rfl hO rfl (ab rfl) rfl bf (mF (by rfl) (by rfl) (by rfl) (ab rfl)))
 |ok s'=>
  rw[hD] at hO
  refine .inl (fG 0 rfl hO rfl (ab rfl) rfl rfl ?_)
  simp only[eS,seval,ah,ai]
  refine dJ [(2,.bp 1 0)] rfl rfl (du lv) (ab rfl) ⟨rfl,trivial⟩ ⟨rfl,rfl,trivial⟩ ?_
  rw[eV]
  exact(gb mz rfl (b:=1) (o:=0)).mpr ⟨rfl,ae _,rfl⟩
theorem Xn (hp:p.types.length≤8) (hr:p.rules.length≤40) (hq:p.quorums.length≤1000) (hP:Kp.PolIn p) (hS:SyOk s) (hv:Kp.gQ p=true) (hk:c.kind=12):FnB Tryz.prog glM 35 [.bp 0 0] [mB p s c] (i64 (stR (bN p s c)).2) [mB p (stO s (bN p s c)) c,[i64 (stR (bN p s c)).2]]:=by
 have hV:=Kp.gR ju p hP (by unfold Kp.ij;omega)
 refine jq (rs:=[.cell 2 36]) 1 trO mixed Tryz.func35 rfl rfl rfl rfl (by simp) (by kernel_rfl) (by kernel_rfl) ⟨rfl,rfl,by decide⟩ ⟨rfl,rfl,rfl⟩ jv rfl (dA rfl) (by simp) rfl ?_
 simp only[eS,seval,ah,gJ,fD]
 refine⟨_,⟨rfl,rfl⟩,rfl,?_⟩
 have iZ:cX bmL=false:=rfl
 have gp:eU (rK 16 (V.c (C.lit Value.nilFunc))) 0 bmL=bmL:=rfl
 refine gW (vs:=bmL) gP rfl rfl k6 rfl rfl ?_
 simp only[eK,a8,seval,ah,ai]
 refine⟨rfl,⟨rfl,ae _⟩,?_⟩
 rw[gp]
 have h1:1≤c.kind:=by omega
 have h2:c.kind≤16:=by omega
 simp only[eK,a8,seval,ah,ai,h1,h2,ai]
 refine .inl (aD rfl hV (fun _=>rfl) ?_)
 have good:bN p s c=doM p s c c.kind.toNat:=by
  unfold bN er
  rw[hv,if_pos (by simp[inI];omega)];rfl
 simp only[mP,a8,seval,hv]
 refine .inl (aD rfl (gU 1) (fun _=>rfl) ?_)
 simp only[eK,a8,seval,ah,ai]
 have hO:FnO Tryz.prog glM 80 [.bp 0 0] [mB p s c] (oP (doM p s c 12)) (.tup []) [mB p (stO s (doM p s c 12)) c]:=Xi hp hr hS
 have hg:bN p s c=doM p s c 12:=by rw[good,hk];rfl
 have hw:IntKind.i64.wrap (c.kind - 1)=11:=by rw[hk,show(12:Int) - 1=((11:Nat):Int) from rfl];exact wrap_i64 11 (by decide)
 refine ll gP rfl k6 (by rw[hw];decide) (by rw[hw];decide) ?_
 have lG:(IntKind.i64.wrap (c.kind - 1)).toNat=11:=by rw[hw];rfl
 rw[lG]
 have hl:∀ K:V→Prop,ldB 3 2 bmL 11 K=K (.clo (.func 80) [.bp 0 0] []):=fun K=>propext ⟨fun h=>h.2,fun h=>⟨by decide,h⟩⟩
 simp only[eS,a8,seval,ah,ai,iZ,hl]
 rw[hg]
 cases hD:doM p s c 12 with
 |error e=>
  rw[hD] at hO
  exact .inr (fc 0 rfl rfl hO rfl (ab rfl) rfl bf (mF (by rfl) (by rfl) (by rfl) (ab rfl)))
 |ok s'=>
  rw[hD] at hO
  refine .inl (fG 0 rfl hO rfl (ab rfl) rfl rfl ?_)
  simp only[eS,seval,ah,ai]
  refine dJ [(2,.bp 1 0)] rfl rfl (du lv) (ab rfl) ⟨rfl,trivial⟩ ⟨rfl,rfl,trivial⟩ ?_
  rw[eV]
  exact(gb mz rfl (b:=1) (o:=0)).mpr ⟨rfl,ae _,rfl⟩
theorem Hy (hp:p.types.length≤8) (hr:p.rules.length≤40) (hq:p.quorums.length≤1000) (hP:Kp.PolIn p) (hS:SyOk s) (hv:Kp.gQ p=true) (hk:c.kind=13):FnB Tryz.prog glM 35 [.bp 0 0] [mB p s c] (i64 (stR (bN p s c)).2) [mB p (stO s (bN p s c)) c,[i64 (stR (bN p s c)).2]]:=by
 have hV:=Kp.gR ju p hP (by unfold Kp.ij;omega)
 refine jq (rs:=[.cell 2 36]) 1 trO mixed Tryz.func35 rfl rfl rfl rfl (by simp) (by kernel_rfl) (by kernel_rfl) ⟨rfl,rfl,by decide⟩ ⟨rfl,rfl,rfl⟩ jv rfl (dA rfl) (by simp) rfl ?_
 simp only[eS,seval,ah,gJ,fD]
 refine⟨_,⟨rfl,rfl⟩,rfl,?_⟩
 have iZ:cX bmL=false:=rfl
 have gp:eU (rK 16 (V.c (C.lit Value.nilFunc))) 0 bmL=bmL:=rfl
 refine gW (vs:=bmL) gP rfl rfl k6 rfl rfl ?_
 simp only[eK,a8,seval,ah,ai]
 refine⟨rfl,⟨rfl,ae _⟩,?_⟩
 rw[gp]
 have h1:1≤c.kind:=by omega
 have h2:c.kind≤16:=by omega
 simp only[eK,a8,seval,ah,ai,h1,h2,ai]
 refine .inl (aD rfl hV (fun _=>rfl) ?_)
 have good:bN p s c=doM p s c c.kind.toNat:=by
  unfold bN er
  rw[hv,if_pos (by simp[inI];omega)];rfl
 simp only[mP,a8,seval,hv]
 refine .inl (aD rfl (gU 1) (fun _=>rfl) ?_)
 simp only[eK,a8,seval,ah,ai]
 have hO:FnO Tryz.prog glM 81 [.bp 0 0] [mB p s c] (oP (doM p s c 13)) (.tup []) [mB p (stO s (doM p s c 13)) c]:=Hv hp hr hS
 have hg:bN p s c=doM p s c 13:=by rw[good,hk];rfl
 have hw:IntKind.i64.wrap (c.kind - 1)=12:=by rw[hk,show(13:Int) - 1=((12:Nat):Int) from rfl];exact wrap_i64 12 (by decide)
 refine ll gP rfl k6 (by rw[hw];decide) (by rw[hw];decide) ?_
 have lG:(IntKind.i64.wrap (c.kind - 1)).toNat=12:=by rw[hw];rfl
 rw[lG]
 have hl:∀ K:V→Prop,ldB 3 2 bmL 12 K=K (.clo (.func 81) [.bp 0 0] []):=fun K=>propext ⟨fun h=>h.2,fun h=>⟨by decide,h⟩⟩
 simp only[eS,a8,seval,ah,ai,iZ,hl]
 rw[hg]
 cases hD:doM p s c 13 with
 |error e=>
  rw[hD] at hO
  exact .inr (fc 0 rfl rfl hO rfl (ab rfl) rfl bf (mF (by rfl) (by rfl) (by rfl) (ab rfl)))
 |ok s'=>
  rw[hD] at hO
  refine .inl (fG 0 rfl hO rfl (ab rfl) rfl rfl ?_)
  simp only[eS,seval,ah,ai]
  refine dJ [(2,.bp 1 0)] rfl rfl (du lv) (ab rfl) ⟨rfl,trivial⟩ ⟨rfl,rfl,trivial⟩ ?_
  rw[eV]
  exact(gb mz rfl (b:=1) (o:=0)).mpr ⟨rfl,ae _,rfl⟩
theorem J6 (hp:p.types.length≤8) (hr:p.rules.length≤40) (hq:p.quorums.length≤1000) (hP:Kp.PolIn p) (hS:SyOk s) (hv:Kp.gQ p=true) (hk:c.kind=14):FnB Tryz.prog glM 35 [.bp 0 0] [mB p s c] (i64 (stR (bN p s c)).2) [mB p (stO s (bN p s c)) c,[i64 (stR (bN p s c)).2]]:=by
 have hV:=Kp.gR ju p hP (by unfold Kp.ij;omega)
 refine jq (rs:=[.cell 2 36]) 1 trO mixed Tryz.func35 rfl rfl rfl rfl (by simp) (by kernel_rfl) (by kernel_rfl) ⟨rfl,rfl,by decide⟩ ⟨rfl,rfl,rfl⟩ jv rfl (dA rfl) (by simp) rfl ?_
 simp only[eS,seval,ah,gJ,fD]
 refine⟨_,⟨rfl,rfl⟩,rfl,?_⟩
 have iZ:cX bmL=false:=rfl
 have gp:eU (rK 16 (V.c (C.lit Value.nilFunc))) 0 bmL=bmL:=rfl
 refine gW (vs:=bmL) gP rfl rfl k6 rfl rfl ?_
 simp only[eK,a8,seval,ah,ai]
 refine⟨rfl,⟨rfl,ae _⟩,?_⟩
 rw[gp]
 have h1:1≤c.kind:=by omega
 have h2:c.kind≤16:=by omega
 simp only[eK,a8,seval,ah,ai,h1,h2,ai]
 refine .inl (aD rfl hV (fun _=>rfl) ?_)
 have good:bN p s c=doM p s c c.kind.toNat:=by
  unfold bN er
  rw[hv,if_pos (by simp[inI];omega)];rfl
 simp only[mP,a8,seval,hv]
 refine .inl (aD rfl (gU 1) (fun _=>rfl) ?_)
 simp only[eK,a8,seval,ah,ai]
 have hO:FnO Tryz.prog glM 82 [.bp 0 0] [mB p s c] (oP (doM p s c 14)) (.tup []) [mB p (stO s (doM p s c 14)) c]:=J1 hp hr hS
 have hg:bN p s c=doM p s c 14:=by rw[good,hk];rfl
 have hw:IntKind.i64.wrap (c.kind - 1)=13:=by rw[hk,show(14:Int) - 1=((13:Nat):Int) from rfl];exact wrap_i64 13 (by decide)
 refine ll gP rfl k6 (by rw[hw];decide) (by rw[hw];decide) ?_
 have lG:(IntKind.i64.wrap (c.kind - 1)).toNat=13:=by rw[hw];rfl
 rw[lG]
 have hl:∀ K:V→Prop,ldB 3 2 bmL 13 K=K (.clo (.func 82) [.bp 0 0] []):=fun K=>propext ⟨fun h=>h.2,fun h=>⟨by decide,h⟩⟩
 simp only[eS,a8,seval,ah,ai,iZ,hl]
 rw[hg]
 cases hD:doM p s c 14 with
 |error e=>
  rw[hD] at hO
  exact .inr (fc 0 rfl rfl hO rfl (ab rfl) rfl bf (mF (by rfl) (by rfl) (by rfl) (ab rfl)))
 |ok s'=>
  rw[hD] at hO
  refine .inl (fG 0 rfl hO rfl (ab rfl) rfl rfl ?_)
  simp only[eS,seval,ah,ai]
  refine dJ [(2,.bp 1 0)] rfl rfl (du lv) (ab rfl) ⟨rfl,trivial⟩ ⟨rfl,rfl,trivial⟩ ?_
  rw[eV]
  exact(gb mz rfl (b:=1) (o:=0)).mpr ⟨rfl,ae _,rfl⟩
theorem J7 (hp:p.types.length≤8) (hr:p.rules.length≤40) (hq:p.quorums.length≤1000) (hP:Kp.PolIn p) (hS:SyOk s) (hv:Kp.gQ p=true) (hk:c.kind=15):FnB Tryz.prog glM 35 [.bp 0 0] [mB p s c] (i64 (stR (bN p s c)).2) [mB p (stO s (bN p s c)) c,[i64 (stR (bN p s c)).2]]:=by
 have hV:=Kp.gR ju p hP (by unfold Kp.ij;omega)
 refine jq (rs:=[.cell 2 36]) 1 trO mixed Tryz.func35 rfl rfl rfl rfl (by simp) (by kernel_rfl) (by kernel_rfl) ⟨rfl,rfl,by decide⟩ ⟨rfl,rfl,rfl⟩ jv rfl (dA rfl) (by simp) rfl ?_
 simp only[eS,seval,ah,gJ,fD]
 refine⟨_,⟨rfl,rfl⟩,rfl,?_⟩
 have iZ:cX bmL=false:=rfl
 have gp:eU (rK 16 (V.c (C.lit Value.nilFunc))) 0 bmL=bmL:=rfl
 refine gW (vs:=bmL) gP rfl rfl k6 rfl rfl ?_
 simp only[eK,a8,seval,ah,ai]
 refine⟨rfl,⟨rfl,ae _⟩,?_⟩
 rw[gp]
 have h1:1≤c.kind:=by omega
 have h2:c.kind≤16:=by omega
 simp only[eK,a8,seval,ah,ai,h1,h2,ai]
 refine .inl (aD rfl hV (fun _=>rfl) ?_)
 have good:bN p s c=doM p s c c.kind.toNat:=by
  unfold bN er
  rw[hv,if_pos (by simp[inI];omega)];rfl
 simp only[mP,a8,seval,hv]
 refine .inl (aD rfl (gU 1) (fun _=>rfl) ?_)
 simp only[eK,a8,seval,ah,ai]
 have hO:FnO Tryz.prog glM 83 [.bp 0 0] [mB p s c] (oP (doM p s c 15)) (.tup []) [mB p (stO s (doM p s c 15)) c]:=J2 hp hr hS
 have hg:bN p s c=doM p s c 15:=by rw[good,hk];rfl
 have hw:IntKind.i64.wrap (c.kind - 1)=14:=by rw[hk,show(15:Int) - 1=((14:Nat):Int) from rfl];exact wrap_i64 14 (by decide)
 refine ll gP rfl k6 (by rw[hw];decide) (by rw[hw];decide) ?_
 have lG:(IntKind.i64.wrap (c.kind - 1)).toNat=14:=by rw[hw];rfl
 rw[lG]
 have hl:∀ K:V→Prop,ldB 3 2 bmL 14 K=K (.clo (.func 83) [.bp 0 0] []):=fun K=>propext ⟨fun h=>h.2,fun h=>⟨by decide,h⟩⟩
 simp only[eS,a8,seval,ah,ai,iZ,hl]
 rw[hg]
 cases hD:doM p s c 15 with
 |error e=>
  rw[hD] at hO
  exact .inr (fc 0 rfl rfl hO rfl (ab rfl) rfl bf (mF (by rfl) (by rfl) (by rfl) (ab rfl)))
 |ok s'=>
  rw[hD] at hO
  refine .inl (fG 0 rfl hO rfl (ab rfl) rfl rfl ?_)
  simp only[eS,seval,ah,ai]
  refine dJ [(2,.bp 1 0)] rfl rfl (du lv) (ab rfl) ⟨rfl,trivial⟩ ⟨rfl,rfl,trivial⟩ ?_
  rw[eV]
  exact(gb mz rfl (b:=1) (o:=0)).mpr ⟨rfl,ae _,rfl⟩
theorem Hz (hp:p.types.length≤8) (hr:p.rules.length≤40) (hq:p.quorums.length≤1000) (hP:Kp.PolIn p) (hS:SyOk s) (hv:Kp.gQ p=true) (hk:c.kind=16):FnB Tryz.prog glM 35 [.bp 0 0] [mB p s c] (i64 (stR (bN p s c)).2) [mB p (stO s (bN p s c)) c,[i64 (stR (bN p s c)).2]]:=by
 have hV:=Kp.gR ju p hP (by unfold Kp.ij;omega)
 refine jq (rs:=[.cell 2 36]) 1 trO mixed Tryz.func35 rfl rfl rfl rfl (by simp) (by kernel_rfl) (by kernel_rfl) ⟨rfl,rfl,by decide⟩ ⟨rfl,rfl,rfl⟩ jv rfl (dA rfl) (by simp) rfl ?_
 simp only[eS,seval,ah,gJ,fD]
 refine⟨_,⟨rfl,rfl⟩,rfl,?_⟩
 have iZ:cX bmL=false:=rfl
 have gp:eU (rK 16 (V.c (C.lit Value.nilFunc))) 0 bmL=bmL:=rfl
 refine gW (vs:=bmL) gP rfl rfl k6 rfl rfl ?_
 simp only[eK,a8,seval,ah,ai]
 refine⟨rfl,⟨rfl,ae _⟩,?_⟩
 rw[gp]
 have h1:1≤c.kind:=by omega
 have h2:c.kind≤16:=by omega
 simp only[eK,a8,seval,ah,ai,h1,h2,ai]
 refine .inl (aD rfl hV (fun _=>rfl) ?_)
 have good:bN p s c=doM p s c c.kind.toNat:=by
  unfold bN er
  rw[hv,if_pos (by simp[inI];omega)];rfl
 simp only[mP,a8,seval,hv]
 refine .inl (aD rfl (gU 1) (fun _=>rfl) ?_)
 simp only[eK,a8,seval,ah,ai]
 have hO:FnO Tryz.prog glM 84 [.bp 0 0] [mB p s c] (oP (doM p s c 16)) (.tup []) [mB p (stO s (doM p s c 16)) c]:=Hw hp hr hS
 have hg:bN p s c=doM p s c 16:=by rw[good,hk];rfl
 have hw:IntKind.i64.wrap (c.kind - 1)=15:=by rw[hk,show(16:Int) - 1=((15:Nat):Int) from rfl];exact wrap_i64 15 (by decide)
 refine ll gP rfl k6 (by rw[hw];decide) (by rw[hw];decide) ?_
 have lG:(IntKind.i64.wrap (c.kind - 1)).toNat=15:=by rw[hw];rfl
 rw[lG]
 have hl:∀ K:V→Prop,ldB 3 2 bmL 15 K=K (.clo (.func 84) [.bp 0 0] []):=fun K=>propext ⟨fun h=>h.2,fun h=>⟨by decide,h⟩⟩
 simp only[eS,a8,seval,ah,ai,iZ,hl]
 rw[hg]
 cases hD:doM p s c 16 with
 |error e=>
  rw[hD] at hO
  exact .inr (fc 0 rfl rfl hO rfl (ab rfl) rfl bf (mF (by rfl) (by rfl) (by rfl) (ab rfl)))
 |ok s'=>
  rw[hD] at hO
  refine .inl (fG 0 rfl hO rfl (ab rfl) rfl rfl ?_)
  simp only[eS,seval,ah,ai]
  refine dJ [(2,.bp 1 0)] rfl rfl (du lv) (ab rfl) ⟨rfl,trivial⟩ ⟨rfl,rfl,trivial⟩ ?_
  rw[eV]
  exact(gb mz rfl (b:=1) (o:=0)).mpr ⟨rfl,ae _,rfl⟩
theorem ad5 (hp:p.types.length≤8) (hr:p.rules.length≤40) (hq:p.quorums.length≤1000) (hP:Kp.PolIn p) (hS:SyOk s):FnB Tryz.prog glM 35 [.bp 0 0] [mB p s c] (i64 (stR (bN p s c)).2) [mB p (stO s (bN p s c)) c,[i64 (stR (bN p s c)).2]]:=by
 by_cases hb:(inI (c.kind - 1) 16&&Kp.gQ p)=true
 ·simp only[aG] at hb
  obtain⟨hb,hv⟩:=hb
  have hb:=Tu hb
  have hk:c.kind=1∨c.kind=2∨c.kind=3∨c.kind=4∨c.kind=5∨c.kind=6∨c.kind=7∨c.kind=8∨c.kind=9∨c.kind=10∨c.kind=11∨c.kind=12∨c.kind=13∨c.kind=14∨c.kind=15∨c.kind=16:=by omega
  rcases hk with hk | hk | hk | hk | hk | hk | hk | hk | hk | hk | hk | hk | hk | hk | hk | hk
  ·exact Hx hp hr hq hP hS hv hk
  ·exact Xl hp hr hq hP hS hv hk
  ·exact AB hp hr hq hP hS hv hk
  ·exact J3 hp hr hq hP hS hv hk
  ·exact J4 hp hr hq hP hS hv hk
  ·exact abk hp hr hq hP hS hv hk
  ·exact Xm hp hr hq hP hS hv hk
  ·exact OH hp hr hq hP hS hv hk
  ·exact J5 hp hr hq hP hS hv hk
  ·exact EM hp hr hq hP hS hv hk
  ·exact OI hp hr hq hP hS hv hk
  ·exact Xn hp hr hq hP hS hv hk
  ·exact Hy hp hr hq hP hS hv hk
  ·exact J6 hp hr hq hP hS hv hk
  ·exact J7 hp hr hq hP hS hv hk
  ·exact Hz hp hr hq hP hS hv hk
 ·exact abj hp hr hq hP hS (by simpa using hb)
