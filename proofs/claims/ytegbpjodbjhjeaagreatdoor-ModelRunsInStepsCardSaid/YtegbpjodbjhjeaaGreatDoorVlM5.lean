/- Layer 16: the machine's small methods. -/
import Derived.Test.YtegbpjodbjhjeaaGreatDoorVlCA
set_option linter.all false
namespace Go.Proofs.YtegbpjodbjhjeaaGreatDoor
open Go Go.Vl
open Kp (Pol Ty Ru Qu poC tyC ruC quC)
variable {G:Gl}
set_option maxRecDepth 10000
def oP {α:Type}:Except Int α→Option Value
 | .ok _=>none
 | .error e=>some (pnV e)
theorem Hv {P:Program} {G:Gl} {KP:Value→S→Prop} {s:S} {o:Oper} {f:Operand} {args:Array Operand} {ts:Array TypeId} {g:FuncId} {all:List V} {pv:Value}
 (ho:o.op=.call { callee:=.value f,args:=args,argTypes:=ts })
 (hc:dS (ev G s f) (args.toList.map (ev G s))=some (g,all)) (hf:FnX P G g all [] pv []) (hall:all.map V.fz=all.map (V.ren (rho [] s.nb))) (hK:KP pv s):pw P G s o KP:=by
 unfold pw
 simp only[ho,hc]
 exact⟨[],all,[],pv,[],hf,hall,⟨rfl,by simp⟩,trivial,hK⟩
theorem qN {P:Program} {G:Gl} {KP:Value→S→Prop} {s:S} {o:Oper} {r:List Oper} {f:Operand} {args:Array Operand} {ts:Array TypeId} {g:FuncId} {all:List V} {pv:Value}
 (ho:o.op=.call { callee:=.value f,args:=args,argTypes:=ts })
 (hc:dS (ev G s f) (args.toList.map (ev G s))=some (g,all)) (hf:FnX P G g all [] pv []) (hall:all.map V.fz=all.map (V.ren (rho [] s.nb))) (hK:KP pv s):sw P G s o r KP:=by
 unfold sw
 simp only[ho,hc]
 exact⟨[],all,[],pv,[],hf,hall,⟨rfl,by simp⟩,trivial,hK⟩
def nj:=jj @pkX (jj @pkA (jj @ptA @pkM))
def za:=jj @pkA (jj @ptA @pkM)
theorem uh (p:Pol) (s:Sy) (c:Cl) (hp:p.types.length≤9223372036854775807):FnO Tryz.prog G 109 [.bp 0 0] [mB p s c] (oP (ni p c.t)) (.tup []) [mB p s c]:=by
 refine ij (rs:=[]) (k:=1) [3000001,2900000] mixed Tryz.func109 rfl rfl rfl rfl (by kernel_rfl) (by simp) rfl rfl rfl (df rfl) (ae _) ?_
 simp only[nj,seval,ah,ai]
 have hb:BL 0 [mB p s c] (bxs [mB p s c]):=⟨rfl,trivial⟩
 by_cases h0:0≤c.t
 ·by_cases h1:c.t<p.types.length
  ·left
   simp only[za,seval,h0,h1,ai,ap]
   refine aD rfl (fW 1) (fun _=>rfl) ?_
   have e:ni p c.t=.ok ():=by simp[ni,dR,inI,h0,h1]
   rw[e]
   simp only[pkA,oP,oQ]
   exact dj [] rfl rfl (ae _) (ae _) trivial hb cV
  ·right
   have e:ni p c.t=.error 1:=by simp[ni,dR,inI,h1]
   rw[e]
   refine fk (l:=[_,_,_,_,_,_,_,_,_,_,_,_,_,_,_,_,_,_,_,_]) rfl (by kernel_rfl) ?_
   simp only[za,seval,h0,h1,ai,bE,ap]
   exact Hv rfl rfl (jf 1) rfl (cG (ae _) rfl (ae _) hb)
 ·right
  have e:ni p c.t=.error 1:=by simp[ni,dR,inI,h0]
  rw[e]
  refine fk (l:=[_,_,_,_,_,_,_,_,_,_,_,_,_,_,_,_,_,_,_,_]) rfl (by kernel_rfl) ?_
  simp only[za,seval,h0,ai,bE]
  exact Hv rfl rfl (jf 1) rfl (cG (ae _) rfl (ae _) hb)
def rO {α:Type} (g:α→V):Except Int α→V
 | .ok x=>g x
 | .error _=>.tup []
def rO2 {α:Type} (g:α→List V):Except Int α→List V
 | .ok x=>g x
 | .error _=>[]
def Hw:=jj @pkX (jj @pkA @ptA)
def qX:=jj @pkX @pkA
theorem zb (p:Pol) (s:Sy) (c:Cl) (k:Int) (hp:s.hs.length≤9223372036854775807):FnO Tryz.prog G 116 [.bp 0 0,i64 k] [mB p s c] (oP (ofI s.hs k)) (rO (fun x=>.agg (hdC x)) (ofI s.hs k)) [mB p s c]:=by
 refine AK (rs:=[.cell 4 49]) (k:=1) [rO2 (fun x=>(hdC x).map .c) (ofI s.hs k)] [3000001,2900001] mixed Tryz.func116 rfl rfl rfl rfl (by kernel_rfl) (by simp) (by cases ofI s.hs k<;>rfl) rfl rfl (df rfl) (ae _) (by simp[ui]) (by cases ofI s.hs k<;>rfl) ?_
 simp only[Hw,aV,seval,ah]
 have hb:BL 0 [mB p s c] (bxs [mB p s c]):=⟨rfl,trivial⟩
 by_cases h0:0≤k
 ·by_cases h1:k<s.hs.length
  ·obtain⟨i,rfl⟩:∃ i:Nat,k=i:=⟨k.toNat,by omega⟩
   have h2:i<s.hs.length:=by omega
   have e:ofI s.hs (i:Int)=.ok s.hs[i]:=by simp[ofI,Bl h2]
   simp only[nj,aV,seval,ah,ai,h0,h1,ai,hsC,ap]
   left
   refine aD rfl (fW 1) (fun _=>rfl) ?_
   simp only[nj,seval,ah,ai,e,oP,rO,hsC,ai]
   have ia:∀ K,K (.c (.rp (hdC s.hs[i]) 0))→cw Tryz.prog 32 (.c (.sl (s.hs.map hdC))) (i64 (i:Int)) K:=fun K hK=>
    dL kO rfl jD (by decide) (aM i) (c:=hdC s.hs[i]) (by simp[h2]) (fK _) hK
   refine ia _ ?_
   simp only[nj,seval,ah,ai]
   simp only[oQ,rO2]
   refine dj [(4,.bp 1 0)] rfl (by simp only[fC,bh,bq,ui,hZ,iU,aC,aJ];rfl) (by simp) (ae _) ⟨rfl,trivial⟩ ⟨rfl,?_,trivial⟩ ?_
   ·rfl
   ·rw[eE]
    refine (k6 jD rfl rfl (b:=1) (o:=0)).mpr ⟨rfl,?_⟩
    unfold ldA
    exact⟨bn 1,⟨rfl,rfl⟩,rfl⟩
  ·have e:ofI s.hs k=.error 1:=by simp[ofI,mU.2 (by omega:¬ (0≤k∧k<s.hs.length))]
   simp only[nj,aV,seval,ah,ai,h0,h1,ai,bE,hsC,ap,e]
   exact .inr (qN rfl rfl (jf 1) rfl (cG (ae _) rfl (by simp) ⟨rfl,trivial⟩))
 ·have e:ofI s.hs k=.error 1:=by simp[ofI,mU.2 (by omega:¬ (0≤k∧k<s.hs.length))]
  simp only[qX,aV,seval,h0,bE,e]
  exact .inr (qN rfl rfl (jf 1) rfl (cG (ae _) rfl (by simp) ⟨rfl,trivial⟩))
def Hx:=jj @pkX (jj @pkA (jj @ptA @pkT))
theorem Hy (p:Pol) (s:Sy) (c:Cl) (k:Int) (hp:s.its.length≤9223372036854775807):FnO Tryz.prog G 114 [.bp 0 0,i64 k] [mB p s c] (oP (ofI s.its k)) (rO (fun x=>.agg (tmC x)) (ofI s.its k)) [mB p s c]:=by
 refine AK (rs:=[.cell 4 47]) (k:=1) [rO2 (fun x=>(tmC x).map .c) (ofI s.its k)] [3000001,2900001] mixed Tryz.func114 rfl rfl rfl rfl (by kernel_rfl) (by simp) (by cases ofI s.its k<;>rfl) rfl rfl (df rfl) (ae _) (by simp[ui]) (by cases ofI s.its k<;>rfl) ?_
 simp only[Hw,aV,seval,ah]
 have hb:BL 0 [mB p s c] (bxs [mB p s c]):=⟨rfl,trivial⟩
 by_cases h0:0≤k
 ·by_cases h1:k<s.its.length
  ·obtain⟨i,rfl⟩:∃ i:Nat,k=i:=⟨k.toNat,by omega⟩
   have h2:i<s.its.length:=by omega
   have e:ofI s.its (i:Int)=.ok s.its[i]:=by simp[ofI,Bl h2]
   simp only[nj,aV,seval,ah,ai,h0,h1,ai,tsC,ap]
   left
   refine aD rfl (fW 1) (fun _=>rfl) ?_
   simp only[nj,seval,ah,ai,e,oP,rO,tsC,ai]
   have ia:∀ K,K (.c (.rp (tmC s.its[i]) 0))→cw Tryz.prog 33 (.c (.sl (s.its.map tmC))) (i64 (i:Int)) K:=fun K hK=>
    dL dm rfl dc (by decide) (aM i) (c:=tmC s.its[i]) (by simp[h2]) (b8 _) hK
   refine ia _ ?_
   simp only[Hx,seval,ah,ai]
   simp only[oQ,rO2]
   refine dj [(4,.bp 1 0)] rfl (by simp only[fC,bh,bq,ui,hZ,iU,aC,aJ];rfl) (by simp) (ae _) ⟨rfl,trivial⟩ ⟨rfl,?_,trivial⟩ ?_
   ·rfl
   ·rw[eE,gA]
    refine (k6 dc rfl rfl (b:=1) (o:=0)).mpr ⟨rfl,?_⟩
    unfold ldA
    exact⟨bn 1,⟨rfl,rfl⟩,rfl⟩
  ·have e:ofI s.its k=.error 1:=by simp[ofI,mU.2 (by omega:¬ (0≤k∧k<s.its.length))]
   simp only[nj,aV,seval,ah,ai,h0,h1,ai,bE,tsC,ap,e]
   exact .inr (qN rfl rfl (jf 1) rfl (cG (ae _) rfl (by simp) ⟨rfl,trivial⟩))
 ·have e:ofI s.its k=.error 1:=by simp[ofI,mU.2 (by omega:¬ (0≤k∧k<s.its.length))]
  simp only[qX,aV,seval,h0,bE,e]
  exact .inr (qN rfl rfl (jf 1) rfl (cG (ae _) rfl (by simp) ⟨rfl,trivial⟩))
theorem Ks (a b:Int):FnOK Tryz.prog G 160 [i64 a,i64 b] (bo (Po a b)):=by
 refine bP (rs:=[.tmp 4]) false [] mixed Tryz.func160 rfl rfl rfl rfl (by kernel_rfl) (by simp) rfl rfl ?_
 have hN:∀ K,oL .andNot .i64 a b K=K (i64 (bits .andNot .i64 a b)):=fun _=>rfl
 simp only[pkA,seval,hN]
 rfl
def DN:=jj @pkA (jj @ptA @Kp.pkP)
theorem Kt (p:Pol) (t:Int):FnOK Tryz.prog G 159 [.agg (poC p),i64 t] (bo (decide (0≤t)&&decide (t<p.types.length))):=by
 refine bP (rs:=[.tmp 4]) false [] mixed Tryz.func159 rfl rfl rfl rfl (by kernel_rfl) (by simp) rfl rfl ?_
 repeat' first
  |(simp only[DN,seval])
  |refine jc (fun h=>?_) (fun h=>?_)
 all_goals (simp_all<;>omega)
theorem Yd (p:Pol) (t flags:Int) (hm:p.types.length≤9223372036854775807):FnOK Tryz.prog G 140 [.agg (poC p),i64 t,i64 flags] (bo (j9 p t flags)):=by
 refine bP (rs:=[.tmp 6]) false [] mixed Tryz.func140 rfl rfl rfl rfl (by kernel_rfl) (by simp) rfl rfl ?_
 simp only[DN,seval]
 refine aD rfl (Kt p t) (fun _=>rfl) ?_
 simp only[pkA,seval]
 refine jc (fun h=>?_) (fun h=>?_)
 ·simp only[aF,bi] at h
  obtain⟨i,rfl⟩:∃ i:Nat,t=i:=⟨t.toNat,by omega⟩
  have ht:i<p.types.length:=by omega
  simp only[DN,seval]
  refine dL mF rfl jN (by decide) (aM i) (c:=tyC p.types[i]) (by simp[ht]) rfl ?_
  simp only[DN,seval]
  refine aD rfl (Ks _ _) (fun _=>rfl) ?_
  simp only[pkA,seval]
  unfold j9
  rw[Bl ht]
 ·have:vh p.types t=none:=mU.2 (by simpa using h)
  simp only[pkA,seval]
  unfold j9
  rw[this]
theorem Ye (p:Pol) (k a b:Int) (hm:p.rules.length≤9223372036854775807):FnOK Tryz.prog G 143 [.agg (poC p),i64 k,i64 a,i64 b] (bo (nA p k a b)):=by
 refine bP (rs:=[.tmp 8]) false [] mixed Tryz.func143 rfl rfl rfl rfl (by kernel_rfl) (by simp) rfl rfl ?_
 simp only[DN,seval]
 refine aD rfl (Kp.uN p.rules hm ⟨k,a,b⟩) (fun _=>rfl) ?_
 simp only[pkA,seval]
 simp[nA,List.any_eq,eq_comm]
theorem Pr (p:Pol) (s:Sy) (c:Cl) (t fl:Int) (hp:p.types.length≤9223372036854775807):FnO Tryz.prog G 110 [.bp 0 0,i64 t,i64 fl] [mB p s c] (oP (dR (j9 p t fl) 10)) (.tup []) [mB p s c]:=by
 refine ij (rs:=[]) (k:=1) [3000001,2900000] mixed Tryz.func110 rfl rfl rfl rfl (by kernel_rfl) (by simp) rfl rfl rfl (df rfl) (ae _) ?_
 simp only[nj,aV,seval,ah,ai]
 refine .inl (aD rfl (Yd p t fl hp) (fun _=>rfl) ?_)
 simp only[qX,aV,seval]
 cases j9 p t fl with
 |true=>
  refine .inl (aD rfl (fW 10) (fun _=>rfl) ?_)
  simp only[qX,seval,oP,oQ,dR]
  exact dj [] rfl rfl (ae _) (ae _) trivial ⟨rfl,trivial⟩ cV
 |false=>exact .inr (qN rfl rfl (jf 10) rfl (cG (ae _) rfl (by simp) (by simp[BL,bxs])))
theorem Pt (p:Pol) (s:Sy) (c:Cl) (k a b:Int) (hp:p.rules.length≤9223372036854775807):FnO Tryz.prog G 119 [.bp 0 0,i64 k,i64 a,i64 b] [mB p s c] (oP (dR (nA p k a b) 10)) (.tup []) [mB p s c]:=by
 refine ij (rs:=[]) (k:=1) [3000001,2900000] mixed Tryz.func119 rfl rfl rfl rfl (by kernel_rfl) (by simp) rfl rfl rfl (df rfl) (ae _) ?_
 simp only[nj,aV,seval,ah,ai]
 refine .inl (aD rfl (Ye p k a b hp) (fun _=>rfl) ?_)
 simp only[qX,aV,seval]
 cases nA p k a b with
 |true=>
  refine .inl (aD rfl (fW 10) (fun _=>rfl) ?_)
  simp only[qX,seval,oP,oQ,dR]
  exact dj [] rfl rfl (ae _) (ae _) trivial ⟨rfl,trivial⟩ cV
 |false=>exact .inr (qN rfl rfl (jf 10) rfl (cG (ae _) rfl (by simp) (by simp[BL,bxs])))
theorem DO (t:Tm):FnO Tryz.prog G 115 [.agg (tmC t)] [] (oP (dR (ey t) 1)) (.tup []) []:=by
 refine ij (rs:=[]) (k:=0) [3000000,2900001] mixed Tryz.func115 rfl rfl rfl rfl (by kernel_rfl) (by simp) rfl rfl rfl rfl (ae _) ?_
 simp only[Hx,aV,seval,ah,ai]
 refine .inl (aD rfl (sN t) (fun _=>rfl) ?_)
 simp only[qX,aV,seval]
 cases ey t with
 |true=>
  refine .inl (aD rfl (fW 1) (fun _=>rfl) ?_)
  simp only[qX,seval,oP,oQ,dR]
  exact dj [] rfl rfl (ae _) (by simp) trivial trivial cV
 |false=>exact .inr (qN rfl rfl (jf 1) rfl (cG (ae _) rfl (by simp) (by simp[BL])))
def Hz:=jj @pkA (jj @ptA @pkT)
theorem qG (t u:Tm) (ht:bu t≤1000000000) (hu:bu u≤1000000000):FnOK Tryz.prog G 44 [.agg (tmC t),.agg (tmC u)] (bo (decide (t=u))):=by
 refine bP (rs:=[.tmp 4]) false [] mixed Tryz.func44 rfl rfl rfl rfl (by kernel_rfl) (by simp) rfl rfl ?_
 simp only[Hz,seval]
 refine aD rfl (rE t u ht hu) (fun _=>rfl) ?_
 simp only[pkA,seval]
 simp[jx]
theorem of_ok (k n:Int) (l:List Tm):FnOK Tryz.prog G 111 [i64 k,i64 n,.c (tsC l)] (.agg (tmC (.mk k n l))):=by
 refine bP (rs:=[.cell 6 47]) false [] mixed Tryz.func111 rfl rfl rfl rfl (by kernel_rfl) (by simp) rfl rfl ?_
 simp only[pkA,ptA,seval]
 rw[gA]
 unfold ldA
 exact⟨rfl,by decide,⟨rfl,rfl⟩,rfl⟩
def stO (s:Sy):Ou→Sy
 | .ok s'=>s'
 | .error _=>s
def mX (p:Pol) (s:Sy) (c:Cl) (x4 x5 x6 x7:V):List V:=[.c (.lit (.string p.name)),.c (.sl (p.types.map tyC)),.c (.sl (p.rules.map ruC)),.c (.sl (p.quorums.map quC)),x4,x5,x6,x7,i64 s.fresh,i64 c.kind,i64 c.a,i64 c.b,i64 c.m,i64 c.t]
theorem Bm {P:Program} {T e:TypeId} {i j:TI} {k k':IntKind} {n:Nat} {es:List (List C)} {K:V→Prop} (hT:ti P T=some i) (hk:i.kd=.slice e) (hE:ti P e=some j) (hs:∀ x∈es,x.length=j.size) (hn:es.length=n) (hK:K (.ow none es)) :
 fP P T (.c (.sl es)) none (some (.c (.lit (.int k (n:Nat))))) (some (.c (.lit (.int k' (n:Nat))))) K:=by
 subst hn
 obtain⟨a1,a2,a3,a4,a5,a6,a7⟩:=i
 simp only at hk;subst hk
 simp only[fP,hT,hE,fO]
 refine⟨⟨by omega,by omega,by omega,trivial,hs⟩,?_⟩
 rw[iK,cY];exact hK
theorem apT {es:List (List C)} {x:List C} {K:V→Prop} (hl:es.length≤10000000) (hs:∀ x∈es,x.length=3) (hx:x.length=3) (hK:K (.ow (some (47,3)) (es++[x]))):dX Tryz.prog 33 (.ow none es) (.c (.sl [x])) K:=by
 simp only[dX,dm,dc]
 refine⟨⟨by decide,rfl,.inl trivial,hs⟩,⟨?_,?_,by simp[hx]⟩,hK⟩
 ·simp only[aC,aJ];omega
 ·simp only[aC,aJ];omega
theorem HA (p:Pol) (s:Sy) (c:Cl) (t:Tm) (ht:bu t≤1000000000) (hn:s.its.length≤100000):FnO Tryz.prog G 117 [.bp 0 0,.agg (tmC t)] [mB p s c] (oP (ft s t)) (.tup []) [mB p (stO s (ft s t)) c]:=by
 refine vp (b2:=[mX p s c (.c (hsC s.hs)) (.ow (some (47,3)) (s.its.map tmC++[tmC t])) (.c (hsC s.os)) (.c (tsC s.rs))]) (rs:=[]) (k:=1) [3000001,2900001] mixed Tryz.func117 rfl rfl rfl rfl (by kernel_rfl) (by simp) rfl rfl rfl (df rfl) (by simp) (by simp) (by simp[mX];rfl) ?_ ?_
 ·intro h
  unfold ft at h ⊢
  split
  ·simp[stO,mX,mB,mC,V.fz,tsC,hsC,cI]
  ·rename_i hc;rw[if_neg hc] at h;cases h
 simp only[nj,aV,seval,ah,ai]
 have hS:=G8 (G:=G) t ht
 by_cases h0:(s.its.length:Int)<100
 ·simp only[Hx,aV,seval,ai,tsC,ap,h0,ai]
  refine .inl (aD rfl hS (fun _=>rfl) ?_)
  simp only[qX,aV,seval]
  by_cases h1:(bu t:Int)≤100
  ·have e:ft s t=.ok { s with its:=s.its++[t] }:=by unfold ft;rw[if_pos ⟨by omega,by omega⟩]
   simp only[ai,h1,ai,e,oP]
   refine .inl (aD rfl (fW 2) (fun _=>rfl) ?_)
   simp only[nj,seval,ah,ai,tsC,ap]
   refine Bm dm rfl dc (fun x hx=>by obtain⟨y,_,rfl⟩:=bF.1 hx;exact b8 y) (ap ..) ?_
   simp only[Hz,seval,ah,ai]
   rw[if_neg (by decide)]
   refine apT (by rw[ap];omega) (fun x hx=>by obtain⟨y,_,rfl⟩:=bF.1 hx;exact b8 y) (b8 t) ?_
   simp only[za,seval,ah,ai]
   refine⟨ab rfl,?_⟩
   simp only[oQ]
   exact dj [] rfl rfl (ae _) (by simp) trivial ⟨rfl,trivial⟩ cV
  ·have e:ft s t=.error 2:=by unfold ft;rw[if_neg (by omega)]
   simp only[h1,bE,e]
   exact .inr (qN rfl rfl (jf 2) rfl (cG (ae _) rfl (by simp) (by simp[BL,bxs,ar,stO])))
 ·have e:ft s t=.error 2:=by unfold ft;rw[if_neg (by omega)]
  simp only[Hw,aV,seval,tsC,ap,h0,bE,e]
  left
  exact .inr (qN rfl rfl (jf 2) rfl (cG (ae _) rfl (by simp) (by simp[BL,bxs,ar,stO])))
theorem apH {es:List (List C)} {x:List C} {K:V→Prop} (hl:es.length≤10000000) (hs:∀ x∈es,x.length=4) (hx:x.length=4) (hK:K (.ow (some (49,4)) (es++[x]))):dX Tryz.prog 32 (.ow none es) (.c (.sl [x])) K:=by
 simp only[dX,kO,jD]
 refine⟨⟨by decide,rfl,.inl trivial,hs⟩,⟨?_,?_,by simp[hx]⟩,hK⟩
 ·simp only[aC,aJ];omega
 ·simp only[aC,aJ];omega
theorem Pu (p:Pol) (s:Sy) (c:Cl) (t:Int) (v:Tm) (ht:bu v≤1000000000) (hn:s.hs.length≤100000):FnO Tryz.prog G 112 [.bp 0 0,i64 t,.agg (tmC v)] [mB p s c] (oP (ll s t v)) (.tup []) [mB p (stO s (ll s t v)) c]:=by
 refine vp (b2:=[mX p s c (.ow (some (49,4)) (s.hs.map hdC++[hdC ⟨t,v⟩])) (.c (tsC s.its)) (.c (hsC s.os)) (.c (tsC s.rs))]) (rs:=[]) (k:=1) [3000001,2900001] mixed Tryz.func112 rfl rfl rfl rfl (by kernel_rfl) (by simp) rfl rfl rfl (df rfl) (by simp) (by simp) (by simp[mX];rfl) ?_ ?_
 ·intro h
  unfold ll at h ⊢
  split
  ·simp[stO,mX,mB,mC,V.fz,tsC,hsC,cI]
  ·rename_i hc;rw[if_neg hc] at h;cases h
 simp only[nj,aV,seval,ah,ai]
 have hS:=G8 (G:=G) v ht
 by_cases h0:(s.hs.length:Int)<100
 ·simp only[Hx,aV,seval,ai,hsC,tsC,ap,h0,ai]
  refine .inl (aD rfl hS (fun _=>rfl) ?_)
  simp only[qX,aV,seval]
  by_cases h1:(bu v:Int)≤100
  ·have e:ll s t v=.ok { s with hs:=s.hs++[⟨t,v⟩] }:=by unfold ll;rw[if_pos ⟨by omega,by omega⟩]
   simp only[ai,h1,ai,e,oP]
   refine .inl (aD rfl (fW 2) (fun _=>rfl) ?_)
   simp only[nj,seval,ah,ai,hsC,ap]
   refine Bm kO rfl jD (fun x hx=>by obtain⟨y,_,rfl⟩:=bF.1 hx;exact fK y) (ap ..) ?_
   simp only[Hz,seval,ah,ai]
   rw[ej,if_pos (b8 v),show C.lit (.int .i64 t)::tmC v=hdC ⟨t,v⟩ from(Pp ⟨t,v⟩).symm]
   simp only[pkA]
   rw[if_neg (by decide)]
   refine apH (by rw[ap];omega) (fun x hx=>by obtain⟨y,_,rfl⟩:=bF.1 hx;exact fK y) (fK ⟨t,v⟩) ?_
   simp only[za,seval,ah,ai]
   refine⟨ab rfl,?_⟩
   simp only[oQ]
   exact dj [] rfl rfl (ae _) (by simp) trivial ⟨rfl,trivial⟩ cV
  ·have e:ll s t v=.error 2:=by unfold ll;rw[if_neg (by omega)]
   simp only[h1,bE,e]
   exact .inr (qN rfl rfl (jf 2) rfl (cG (ae _) rfl (by simp) (by simp[BL,bxs,ar,stO])))
 ·have e:ll s t v=.error 2:=by unfold ll;rw[if_neg (by omega)]
  simp only[Hw,aV,seval,hsC,tsC,ap,h0,bE,e]
  left
  exact .inr (qN rfl rfl (jf 2) rfl (cG (ae _) rfl (by simp) (by simp[BL,bxs,ar,stO])))
theorem HC (p:Pol) (s:Sy) (c:Cl) (t:Int) (v:Tm) (hn:s.os.length≤100000):FnB Tryz.prog G 113 [.bp 0 0,i64 t,.agg (tmC v)] [mB p s c] (.tup []) [mB p (mkM s t v) c]:=by
 have key:FnO Tryz.prog G 113 [.bp 0 0,i64 t,.agg (tmC v)] [mB p s c] none (.tup []) [mB p (mkM s t v) c]:=by
  refine vp (b2:=[mX p s c (.c (hsC s.hs)) (.c (tsC s.its)) (.ow (some (49,4)) (s.os.map hdC++[hdC ⟨t,v⟩])) (.c (tsC s.rs))]) (rs:=[]) (k:=1) [3000001] mixed Tryz.func113 rfl rfl rfl rfl (by kernel_rfl) (by simp) rfl rfl rfl (df rfl) (by simp) (by simp) (by simp[mX];rfl) ?_ ?_
  ·intro h
   simp[mX,mB,mC,V.fz,tsC,hsC,cI,mkM]
  simp only[nj,seval,ah,ai,hsC,tsC,ap]
  refine Bm kO rfl jD (fun x hx=>by obtain⟨y,_,rfl⟩:=bF.1 hx;exact fK y) (ap ..) ?_
  simp only[Hz,seval,ah,ai]
  rw[ej,if_pos (b8 v),show C.lit (.int .i64 t)::tmC v=hdC ⟨t,v⟩ from(Pp ⟨t,v⟩).symm]
  simp only[pkA]
  rw[if_neg (by decide)]
  refine apH (by rw[ap];omega) (fun x hx=>by obtain⟨y,_,rfl⟩:=bF.1 hx;exact fK y) (fK ⟨t,v⟩) ?_
  simp only[za,seval,ah,ai]
  refine⟨ab rfl,?_⟩
  simp only[oQ]
  exact dj [] rfl rfl (ae _) (by simp) trivial ⟨rfl,trivial⟩ cV
 exact key
