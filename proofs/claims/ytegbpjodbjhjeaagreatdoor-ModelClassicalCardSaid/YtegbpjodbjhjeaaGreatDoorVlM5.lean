/- Layer 16: the machine's small methods. -/
import Derived.Test.YtegbpjodbjhjeaaGreatDoorVlCA
set_option linter.all false
namespace Go.Proofs.YtegbpjodbjhjeaaGreatDoor
open Go Go.Vl
open Kp (Pol Ty Ru Qu poC tyC ruC quC)
variable {G:Gl}
set_option maxRecDepth 10000
def oP {α:Type}:Except Int α→Option Value
 | .ok _=>none
 | .error e=>some (pnV e)
theorem MO {P:Program} {G:Gl} {KP:Value→S→Prop} {s:S} {o:Oper} {f:Operand} {args:Array Operand} {ts:Array TypeId} {g:FuncId} {all:List V} {pv:Value}
 (ho:o.op=.call { callee:=.value f,args:=args,argTypes:=ts })
 (hc:eI (ev G s f) (args.toList.map (ev G s))=some (g,all)) (hf:FnX P G g all [] pv []) (dh:all.map V.fz=all.map (V.ren (rho [] s.nb))) (hK:KP pv s):rZ P G s o KP:=by
 unfold rZ
 simp only[ho,hc]
 exact⟨[],all,[],pv,[],hf,dh,⟨rfl,by simp⟩,trivial,hK⟩
theorem uM {P:Program} {G:Gl} {KP:Value→S→Prop} {s:S} {o:Oper} {r:List Oper} {f:Operand} {args:Array Operand} {ts:Array TypeId} {g:FuncId} {all:List V} {pv:Value}
 (ho:o.op=.call { callee:=.value f,args:=args,argTypes:=ts })
 (hc:eI (ev G s f) (args.toList.map (ev G s))=some (g,all)) (hf:FnX P G g all [] pv []) (dh:all.map V.fz=all.map (V.ren (rho [] s.nb))) (hK:KP pv s):wI P G s o r KP:=by
 unfold wI
 simp only[ho,hc]
 exact⟨[],all,[],pv,[],hf,dh,⟨rfl,by simp⟩,trivial,hK⟩
def pD:=jj @pkX (jj @pkA (jj @ptA @pkM))
def Dv:=jj @pkA (jj @ptA @pkM)
theorem uv (p:Pol) (s:Sy) (c:Cl) (hp:p.types.length≤9223372036854775807):FnO Tryz.prog G 109 [.bp 0 0] [mB p s c] (oP (pC p c.t)) (.tup []) [mB p s c]:=by
 refine jo (rs:=[]) (k:=1) [3000001,2900000] mixed Tryz.func109 rfl rfl rfl rfl (by kernel_rfl) (by simp) rfl rfl rfl (dI rfl) (ae _) ?_
 simp only[pD,seval,ah,ai]
 have hb:BL 0 [mB p s c] (bxs [mB p s c]):=⟨rfl,trivial⟩
 by_cases h0:0≤c.t
 ·by_cases h1:c.t<p.types.length
  ·left
   simp only[Dv,seval,h0,h1,ai,am]
   refine ay rfl (ic 1) (fun _=>rfl) ?_
   have e:pC p c.t=.ok ():=by simp[pC,eH,inI,h0,h1]
   rw[e]
   simp only[pkA,oP,oQ]
   exact dP [] rfl rfl (ae _) (ae _) trivial hb dx
  ·right
   have e:pC p c.t=.error 1:=by simp[pC,eH,inI,h1]
   rw[e]
   refine fY (l:=[_,_,_,_,_,_,_,_,_,_,_,_,_,_,_,_,_,_,_,_]) rfl (by kernel_rfl) ?_
   simp only[Dv,seval,h0,h1,ai,bK,am]
   exact MO rfl rfl (j9 1) rfl (cY (ae _) rfl (ae _) hb)
 ·right
  have e:pC p c.t=.error 1:=by simp[pC,eH,inI,h0]
  rw[e]
  refine fY (l:=[_,_,_,_,_,_,_,_,_,_,_,_,_,_,_,_,_,_,_,_]) rfl (by kernel_rfl) ?_
  simp only[Dv,seval,h0,ai,bK]
  exact MO rfl rfl (j9 1) rfl (cY (ae _) rfl (ae _) hb)
def rO {α:Type} (g:α→V):Except Int α→V
 | .ok x=>g x
 | .error _=>.tup []
def rO2 {α:Type} (g:α→List V):Except Int α→List V
 | .ok x=>g x
 | .error _=>[]
def MP:=jj @pkX (jj @pkA @ptA)
def u9:=jj @pkX @pkA
theorem Dw (p:Pol) (s:Sy) (c:Cl) (k:Int) (hp:s.hs.length≤9223372036854775807):FnO Tryz.prog G 116 [.bp 0 0,i64 k] [mB p s c] (oP (ofI s.hs k)) (rO (fun x=>.agg (hdC x)) (ofI s.hs k)) [mB p s c]:=by
 refine E3 (rs:=[.cell 4 49]) (k:=1) [rO2 (fun x=>(hdC x).map .c) (ofI s.hs k)] [3000001,2900001] mixed Tryz.func116 rfl rfl rfl rfl (by kernel_rfl) (by simp) (by cases ofI s.hs k<;>rfl) rfl rfl (dI rfl) (ae _) (by simp[yA]) (by cases ofI s.hs k<;>rfl) ?_
 simp only[MP,ba,seval,ah]
 have hb:BL 0 [mB p s c] (bxs [mB p s c]):=⟨rfl,trivial⟩
 by_cases h0:0≤k
 ·by_cases h1:k<s.hs.length
  ·obtain⟨i,rfl⟩:∃ i:Nat,k=i:=⟨k.toNat,by omega⟩
   have h2:i<s.hs.length:=by omega
   have e:ofI s.hs (i:Int)=.ok s.hs[i]:=by simp[ofI,zS h2]
   simp only[pD,ba,seval,ah,ai,h0,h1,ai,hsC,am]
   left
   refine ay rfl (ic 1) (fun _=>rfl) ?_
   simp only[pD,seval,ah,ai,e,oP,rO,hsC,ai]
   have ia:∀ K,K (.c (.rp (hdC s.hs[i]) 0))→cA Tryz.prog 32 (.c (.sl (s.hs.map hdC))) (i64 (i:Int)) K:=fun K hK=>
    df kN rfl jp (by decide) (aD i) (c:=hdC s.hs[i]) (by simp[h2]) (fi _) hK
   refine ia _ ?_
   simp only[pD,seval,ah,ai]
   simp only[oQ,rO2]
   refine dP [(4,.bp 1 0)] rfl (by simp only[eQ,aN,aX,yA,eM,jd,aC,aH];rfl) (by simp) (ae _) ⟨rfl,trivial⟩ ⟨rfl,?_,trivial⟩ ?_
   ·rfl
   ·rw[fh]
    refine (pt jp rfl rfl (b:=1) (o:=0)).mpr ⟨rfl,?_⟩
    unfold ldA
    exact⟨bz 1,⟨rfl,rfl⟩,rfl⟩
  ·have e:ofI s.hs k=.error 1:=by simp[ofI,o8.2 (by omega:¬ (0≤k∧k<s.hs.length))]
   simp only[pD,ba,seval,ah,ai,h0,h1,ai,bK,hsC,am,e]
   exact .inr (uM rfl rfl (j9 1) rfl (cY (ae _) rfl (by simp) ⟨rfl,trivial⟩))
 ·have e:ofI s.hs k=.error 1:=by simp[ofI,o8.2 (by omega:¬ (0≤k∧k<s.hs.length))]
  simp only[u9,ba,seval,h0,bK,e]
  exact .inr (uM rfl rfl (j9 1) rfl (cY (ae _) rfl (by simp) ⟨rfl,trivial⟩))
def MQ:=jj @pkX (jj @pkA (jj @ptA @pkT))
theorem MR (p:Pol) (s:Sy) (c:Cl) (k:Int) (hp:s.its.length≤9223372036854775807):FnO Tryz.prog G 114 [.bp 0 0,i64 k] [mB p s c] (oP (ofI s.its k)) (rO (fun x=>.agg (tmC x)) (ofI s.its k)) [mB p s c]:=by
 refine E3 (rs:=[.cell 4 47]) (k:=1) [rO2 (fun x=>(tmC x).map .c) (ofI s.its k)] [3000001,2900001] mixed Tryz.func114 rfl rfl rfl rfl (by kernel_rfl) (by simp) (by cases ofI s.its k<;>rfl) rfl rfl (dI rfl) (ae _) (by simp[yA]) (by cases ofI s.its k<;>rfl) ?_
 simp only[MP,ba,seval,ah]
 have hb:BL 0 [mB p s c] (bxs [mB p s c]):=⟨rfl,trivial⟩
 by_cases h0:0≤k
 ·by_cases h1:k<s.its.length
  ·obtain⟨i,rfl⟩:∃ i:Nat,k=i:=⟨k.toNat,by omega⟩
   have h2:i<s.its.length:=by omega
   have e:ofI s.its (i:Int)=.ok s.its[i]:=by simp[ofI,zS h2]
   simp only[pD,ba,seval,ah,ai,h0,h1,ai,tsC,am]
   left
   refine ay rfl (ic 1) (fun _=>rfl) ?_
   simp only[pD,seval,ah,ai,e,oP,rO,tsC,ai]
   have ia:∀ K,K (.c (.rp (tmC s.its[i]) 0))→cA Tryz.prog 33 (.c (.sl (s.its.map tmC))) (i64 (i:Int)) K:=fun K hK=>
    df du rfl dl (by decide) (aD i) (c:=tmC s.its[i]) (by simp[h2]) (bG _) hK
   refine ia _ ?_
   simp only[MQ,seval,ah,ai]
   simp only[oQ,rO2]
   refine dP [(4,.bp 1 0)] rfl (by simp only[eQ,aN,aX,yA,eM,jd,aC,aH];rfl) (by simp) (ae _) ⟨rfl,trivial⟩ ⟨rfl,?_,trivial⟩ ?_
   ·rfl
   ·rw[fh,j8]
    refine (pt dl rfl rfl (b:=1) (o:=0)).mpr ⟨rfl,?_⟩
    unfold ldA
    exact⟨bz 1,⟨rfl,rfl⟩,rfl⟩
  ·have e:ofI s.its k=.error 1:=by simp[ofI,o8.2 (by omega:¬ (0≤k∧k<s.its.length))]
   simp only[pD,ba,seval,ah,ai,h0,h1,ai,bK,tsC,am,e]
   exact .inr (uM rfl rfl (j9 1) rfl (cY (ae _) rfl (by simp) ⟨rfl,trivial⟩))
 ·have e:ofI s.its k=.error 1:=by simp[ofI,o8.2 (by omega:¬ (0≤k∧k<s.its.length))]
  simp only[u9,ba,seval,h0,bK,e]
  exact .inr (uM rfl rfl (j9 1) rfl (cY (ae _) rfl (by simp) ⟨rfl,trivial⟩))
theorem PG (a b:Int):FnOK Tryz.prog G 160 [i64 a,i64 b] (bo (FR a b)):=by
 refine bE (rs:=[.tmp 4]) false [] mixed Tryz.func160 rfl rfl rfl rfl (by kernel_rfl) (by simp) rfl rfl ?_
 have hN:∀ K,qD .andNot .i64 a b K=K (i64 (bits .andNot .i64 a b)):=fun _=>rfl
 simp only[pkA,seval,hN]
 rfl
def Iz:=jj @pkA (jj @ptA @Kp.pkP)
theorem PH (p:Pol) (t:Int):FnOK Tryz.prog G 159 [.agg (poC p),i64 t] (bo (decide (0≤t)&&decide (t<p.types.length))):=by
 refine bE (rs:=[.tmp 4]) false [] mixed Tryz.func159 rfl rfl rfl rfl (by kernel_rfl) (by simp) rfl rfl ?_
 repeat' first
  |(simp only[Iz,seval])
  |refine iK (fun h=>?_) (fun h=>?_)
 all_goals (simp_all<;>omega)
theorem acm (p:Pol) (t flags:Int) (hm:p.types.length≤9223372036854775807):FnOK Tryz.prog G 140 [.agg (poC p),i64 t,i64 flags] (bo (jE p t flags)):=by
 refine bE (rs:=[.tmp 6]) false [] mixed Tryz.func140 rfl rfl rfl rfl (by kernel_rfl) (by simp) rfl rfl ?_
 simp only[Iz,seval]
 refine ay rfl (PH p t) (fun _=>rfl) ?_
 simp only[pkA,seval]
 refine iK (fun h=>?_) (fun h=>?_)
 ·simp only[aI,bj] at h
  obtain⟨i,rfl⟩:∃ i:Nat,t=i:=⟨t.toNat,by omega⟩
  have ht:i<p.types.length:=by omega
  simp only[Iz,seval]
  refine df ng rfl kO (by decide) (aD i) (c:=tyC p.types[i]) (by simp[ht]) rfl ?_
  simp only[Iz,seval]
  refine ay rfl (PG _ _) (fun _=>rfl) ?_
  simp only[pkA,seval]
  unfold jE
  rw[zS ht]
 ·have:uL p.types t=none:=o8.2 (by simpa using h)
  simp only[pkA,seval]
  unfold jE
  rw[this]
theorem acn (p:Pol) (k a b:Int) (hm:p.rules.length≤9223372036854775807):FnOK Tryz.prog G 143 [.agg (poC p),i64 k,i64 a,i64 b] (bo (mH p k a b)):=by
 refine bE (rs:=[.tmp 8]) false [] mixed Tryz.func143 rfl rfl rfl rfl (by kernel_rfl) (by simp) rfl rfl ?_
 simp only[Iz,seval]
 refine ay rfl (Kp.y7 p.rules hm ⟨k,a,b⟩) (fun _=>rfl) ?_
 simp only[pkA,seval]
 simp[mH,List.any_eq,eq_comm]
theorem UD (p:Pol) (s:Sy) (c:Cl) (t fl:Int) (hp:p.types.length≤9223372036854775807):FnO Tryz.prog G 110 [.bp 0 0,i64 t,i64 fl] [mB p s c] (oP (eH (jE p t fl) 10)) (.tup []) [mB p s c]:=by
 refine jo (rs:=[]) (k:=1) [3000001,2900000] mixed Tryz.func110 rfl rfl rfl rfl (by kernel_rfl) (by simp) rfl rfl rfl (dI rfl) (ae _) ?_
 simp only[pD,ba,seval,ah,ai]
 refine .inl (ay rfl (acm p t fl hp) (fun _=>rfl) ?_)
 simp only[u9,ba,seval]
 cases jE p t fl with
 |true=>
  refine .inl (ay rfl (ic 10) (fun _=>rfl) ?_)
  simp only[u9,seval,oP,oQ,eH]
  exact dP [] rfl rfl (ae _) (ae _) trivial ⟨rfl,trivial⟩ dx
 |false=>exact .inr (uM rfl rfl (j9 10) rfl (cY (ae _) rfl (by simp) (by simp[BL,bxs])))
theorem UE (p:Pol) (s:Sy) (c:Cl) (k a b:Int) (hp:p.rules.length≤9223372036854775807):FnO Tryz.prog G 119 [.bp 0 0,i64 k,i64 a,i64 b] [mB p s c] (oP (eH (mH p k a b) 10)) (.tup []) [mB p s c]:=by
 refine jo (rs:=[]) (k:=1) [3000001,2900000] mixed Tryz.func119 rfl rfl rfl rfl (by kernel_rfl) (by simp) rfl rfl rfl (dI rfl) (ae _) ?_
 simp only[pD,ba,seval,ah,ai]
 refine .inl (ay rfl (acn p k a b hp) (fun _=>rfl) ?_)
 simp only[u9,ba,seval]
 cases mH p k a b with
 |true=>
  refine .inl (ay rfl (ic 10) (fun _=>rfl) ?_)
  simp only[u9,seval,oP,oQ,eH]
  exact dP [] rfl rfl (ae _) (ae _) trivial ⟨rfl,trivial⟩ dx
 |false=>exact .inr (uM rfl rfl (j9 10) rfl (cY (ae _) rfl (by simp) (by simp[BL,bxs])))
theorem IA (t:Tm):FnO Tryz.prog G 115 [.agg (tmC t)] [] (oP (eH (eC t) 1)) (.tup []) []:=by
 refine jo (rs:=[]) (k:=0) [3000000,2900001] mixed Tryz.func115 rfl rfl rfl rfl (by kernel_rfl) (by simp) rfl rfl rfl rfl (ae _) ?_
 simp only[MQ,ba,seval,ah,ai]
 refine .inl (ay rfl (wU t) (fun _=>rfl) ?_)
 simp only[u9,ba,seval]
 cases eC t with
 |true=>
  refine .inl (ay rfl (ic 1) (fun _=>rfl) ?_)
  simp only[u9,seval,oP,oQ,eH]
  exact dP [] rfl rfl (ae _) (by simp) trivial trivial dx
 |false=>exact .inr (uM rfl rfl (j9 1) rfl (cY (ae _) rfl (by simp) (by simp[BL])))
def MS:=jj @pkA (jj @ptA @pkT)
theorem uw (t u:Tm) (ht:bq t≤1000000000) (hu:bq u≤1000000000):FnOK Tryz.prog G 44 [.agg (tmC t),.agg (tmC u)] (bo (decide (t=u))):=by
 refine bE (rs:=[.tmp 4]) false [] mixed Tryz.func44 rfl rfl rfl rfl (by kernel_rfl) (by simp) rfl rfl ?_
 simp only[MS,seval]
 refine ay rfl (vJ t u ht hu) (fun _=>rfl) ?_
 simp only[pkA,seval]
 simp[gB]
theorem of_ok (k n:Int) (l:List Tm):FnOK Tryz.prog G 111 [i64 k,i64 n,.c (tsC l)] (.agg (tmC (.mk k n l))):=by
 refine bE (rs:=[.cell 6 47]) false [] mixed Tryz.func111 rfl rfl rfl rfl (by kernel_rfl) (by simp) rfl rfl ?_
 simp only[pkA,ptA,seval]
 rw[j8]
 unfold ldA
 exact⟨rfl,by decide,⟨rfl,rfl⟩,rfl⟩
def stO (s:Sy):Ou→Sy
 | .ok s'=>s'
 | .error _=>s
def mX (p:Pol) (s:Sy) (c:Cl) (x4 x5 x6 x7:V):List V:=[.c (.lit (.string p.name)),.c (.sl (p.types.map tyC)),.c (.sl (p.rules.map ruC)),.c (.sl (p.quorums.map quC)),x4,x5,x6,x7,i64 s.fresh,i64 c.kind,i64 c.a,i64 c.b,i64 c.m,i64 c.t]
theorem FS {P:Program} {T e:TypeId} {i j:TI} {k k':IntKind} {n:Nat} {es:List (List C)} {K:V→Prop} (hT:ti P T=some i) (hk:i.kd=.slice e) (hE:ti P e=some j) (hs:∀ x∈es,x.length=j.size) (hn:es.length=n) (hK:K (.ow none es)) :
 gY P T (.c (.sl es)) none (some (.c (.lit (.int k (n:Nat))))) (some (.c (.lit (.int k' (n:Nat))))) K:=by
 subst hn
 obtain⟨a1,a2,a3,a4,a5,a6,a7⟩:=i
 simp only at hk;subst hk
 simp only[gY,hT,hE,gX]
 refine⟨⟨by omega,by omega,by omega,trivial,hs⟩,?_⟩
 rw[iE,cw];exact hK
theorem apT {es:List (List C)} {x:List C} {K:V→Prop} (hl:es.length≤10000000) (hs:∀ x∈es,x.length=3) (hx:x.length=3) (hK:K (.ow (some (47,3)) (es++[x]))):ee Tryz.prog 33 (.ow none es) (.c (.sl [x])) K:=by
 simp only[ee,du,dl]
 refine⟨⟨by decide,rfl,.inl trivial,hs⟩,⟨?_,?_,by simp[hx]⟩,hK⟩
 ·simp only[aC,aH];omega
 ·simp only[aC,aH];omega
theorem MU (p:Pol) (s:Sy) (c:Cl) (t:Tm) (ht:bq t≤1000000000) (hn:s.its.length≤100000):FnO Tryz.prog G 117 [.bp 0 0,.agg (tmC t)] [mB p s c] (oP (gk s t)) (.tup []) [mB p (stO s (gk s t)) c]:=by
 refine zM (b2:=[mX p s c (.c (hsC s.hs)) (.ow (some (47,3)) (s.its.map tmC++[tmC t])) (.c (hsC s.os)) (.c (tsC s.rs))]) (rs:=[]) (k:=1) [3000001,2900001] mixed Tryz.func117 rfl rfl rfl rfl (by kernel_rfl) (by simp) rfl rfl rfl (dI rfl) (by simp) (by simp) (by simp[mX];rfl) ?_ ?_
 ·intro h
  unfold gk at h ⊢
  split
  ·simp[stO,mX,mB,mC,V.fz,tsC,hsC,cI]
  ·rename_i hc;rw[if_neg hc] at h;cases h
 simp only[pD,ba,seval,ah,ai]
 have hS:=Mr (G:=G) t ht
 by_cases h0:(s.its.length:Int)<100
 ·simp only[MQ,ba,seval,ai,tsC,am,h0,ai]
  refine .inl (ay rfl hS (fun _=>rfl) ?_)
  simp only[u9,ba,seval]
  by_cases h1:(bq t:Int)≤100
  ·have e:gk s t=.ok { s with its:=s.its++[t] }:=by unfold gk;rw[if_pos ⟨by omega,by omega⟩]
   simp only[ai,h1,ai,e,oP]
   refine .inl (ay rfl (ic 2) (fun _=>rfl) ?_)
   simp only[pD,seval,ah,ai,tsC,am]
   refine FS du rfl dl (fun x hx=>by obtain⟨y,_,rfl⟩:=br.1 hx;exact bG y) (am ..) ?_
   simp only[MS,seval,ah,ai]
   rw[if_neg (by decide)]
   refine apT (by rw[am];omega) (fun x hx=>by obtain⟨y,_,rfl⟩:=br.1 hx;exact bG y) (bG t) ?_
   simp only[Dv,seval,ah,ai]
   refine⟨ab rfl,?_⟩
   simp only[oQ]
   exact dP [] rfl rfl (ae _) (by simp) trivial ⟨rfl,trivial⟩ dx
  ·have e:gk s t=.error 2:=by unfold gk;rw[if_neg (by omega)]
   simp only[h1,bK,e]
   exact .inr (uM rfl rfl (j9 2) rfl (cY (ae _) rfl (by simp) (by simp[BL,bxs,au,stO])))
 ·have e:gk s t=.error 2:=by unfold gk;rw[if_neg (by omega)]
  simp only[MP,ba,seval,tsC,am,h0,bK,e]
  left
  exact .inr (uM rfl rfl (j9 2) rfl (cY (ae _) rfl (by simp) (by simp[BL,bxs,au,stO])))
theorem apH {es:List (List C)} {x:List C} {K:V→Prop} (hl:es.length≤10000000) (hs:∀ x∈es,x.length=4) (hx:x.length=4) (hK:K (.ow (some (49,4)) (es++[x]))):ee Tryz.prog 32 (.ow none es) (.c (.sl [x])) K:=by
 simp only[ee,kN,jp]
 refine⟨⟨by decide,rfl,.inl trivial,hs⟩,⟨?_,?_,by simp[hx]⟩,hK⟩
 ·simp only[aC,aH];omega
 ·simp only[aC,aH];omega
theorem UF (p:Pol) (s:Sy) (c:Cl) (t:Int) (v:Tm) (ht:bq v≤1000000000) (hn:s.hs.length≤100000):FnO Tryz.prog G 112 [.bp 0 0,i64 t,.agg (tmC v)] [mB p s c] (oP (m7 s t v)) (.tup []) [mB p (stO s (m7 s t v)) c]:=by
 refine zM (b2:=[mX p s c (.ow (some (49,4)) (s.hs.map hdC++[hdC ⟨t,v⟩])) (.c (tsC s.its)) (.c (hsC s.os)) (.c (tsC s.rs))]) (rs:=[]) (k:=1) [3000001,2900001] mixed Tryz.func112 rfl rfl rfl rfl (by kernel_rfl) (by simp) rfl rfl rfl (dI rfl) (by simp) (by simp) (by simp[mX];rfl) ?_ ?_
 ·intro h
  unfold m7 at h ⊢
  split
  ·simp[stO,mX,mB,mC,V.fz,tsC,hsC,cI]
  ·rename_i hc;rw[if_neg hc] at h;cases h
 simp only[pD,ba,seval,ah,ai]
 have hS:=Mr (G:=G) v ht
 by_cases h0:(s.hs.length:Int)<100
 ·simp only[MQ,ba,seval,ai,hsC,tsC,am,h0,ai]
  refine .inl (ay rfl hS (fun _=>rfl) ?_)
  simp only[u9,ba,seval]
  by_cases h1:(bq v:Int)≤100
  ·have e:m7 s t v=.ok { s with hs:=s.hs++[⟨t,v⟩] }:=by unfold m7;rw[if_pos ⟨by omega,by omega⟩]
   simp only[ai,h1,ai,e,oP]
   refine .inl (ay rfl (ic 2) (fun _=>rfl) ?_)
   simp only[pD,seval,ah,ai,hsC,am]
   refine FS kN rfl jp (fun x hx=>by obtain⟨y,_,rfl⟩:=br.1 hx;exact fi y) (am ..) ?_
   simp only[MS,seval,ah,ai]
   rw[eK,if_pos (bG v),show C.lit (.int .i64 t)::tmC v=hdC ⟨t,v⟩ from(UB ⟨t,v⟩).symm]
   simp only[pkA]
   rw[if_neg (by decide)]
   refine apH (by rw[am];omega) (fun x hx=>by obtain⟨y,_,rfl⟩:=br.1 hx;exact fi y) (fi ⟨t,v⟩) ?_
   simp only[Dv,seval,ah,ai]
   refine⟨ab rfl,?_⟩
   simp only[oQ]
   exact dP [] rfl rfl (ae _) (by simp) trivial ⟨rfl,trivial⟩ dx
  ·have e:m7 s t v=.error 2:=by unfold m7;rw[if_neg (by omega)]
   simp only[h1,bK,e]
   exact .inr (uM rfl rfl (j9 2) rfl (cY (ae _) rfl (by simp) (by simp[BL,bxs,au,stO])))
 ·have e:m7 s t v=.error 2:=by unfold m7;rw[if_neg (by omega)]
  simp only[MP,ba,seval,hsC,tsC,am,h0,bK,e]
  left
  exact .inr (uM rfl rfl (j9 2) rfl (cY (ae _) rfl (by simp) (by simp[BL,bxs,au,stO])))
theorem MV (p:Pol) (s:Sy) (c:Cl) (t:Int) (v:Tm) (hn:s.os.length≤100000):FnB Tryz.prog G 113 [.bp 0 0,i64 t,.agg (tmC v)] [mB p s c] (.tup []) [mB p (mkM s t v) c]:=by
 have key:FnO Tryz.prog G 113 [.bp 0 0,i64 t,.agg (tmC v)] [mB p s c] none (.tup []) [mB p (mkM s t v) c]:=by
  refine zM (b2:=[mX p s c (.c (hsC s.hs)) (.c (tsC s.its)) (.ow (some (49,4)) (s.os.map hdC++[hdC ⟨t,v⟩])) (.c (tsC s.rs))]) (rs:=[]) (k:=1) [3000001] mixed Tryz.func113 rfl rfl rfl rfl (by kernel_rfl) (by simp) rfl rfl rfl (dI rfl) (by simp) (by simp) (by simp[mX];rfl) ?_ ?_
  ·intro h
   simp[mX,mB,mC,V.fz,tsC,hsC,cI,mkM]
  simp only[pD,seval,ah,ai,hsC,tsC,am]
  refine FS kN rfl jp (fun x hx=>by obtain⟨y,_,rfl⟩:=br.1 hx;exact fi y) (am ..) ?_
  simp only[MS,seval,ah,ai]
  rw[eK,if_pos (bG v),show C.lit (.int .i64 t)::tmC v=hdC ⟨t,v⟩ from(UB ⟨t,v⟩).symm]
  simp only[pkA]
  rw[if_neg (by decide)]
  refine apH (by rw[am];omega) (fun x hx=>by obtain⟨y,_,rfl⟩:=br.1 hx;exact fi y) (fi ⟨t,v⟩) ?_
  simp only[Dv,seval,ah,ai]
  refine⟨ab rfl,?_⟩
  simp only[oQ]
  exact dP [] rfl rfl (ae _) (by simp) trivial ⟨rfl,trivial⟩ dx
 exact key
