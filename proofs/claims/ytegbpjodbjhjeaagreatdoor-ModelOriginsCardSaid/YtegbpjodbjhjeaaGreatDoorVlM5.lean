/- Layer 16: the machine's small methods. -/
import Derived.Test.YtegbpjodbjhjeaaGreatDoorVlCA
set_option linter.all false
namespace Go.Proofs.YtegbpjodbjhjeaaGreatDoor
open Go Go.Vl
open Kp (Pol Ty Ru Qu poC tyC ruC quC)
variable {G:Gl}
set_option maxRecDepth 10000
def oP {α:Type}:Except Int α→Option Value
 | .ok _=>none
 | .error e=>some (pnV e)
theorem LC {P:Program} {G:Gl} {KP:Value→S→Prop} {s:S} {o:Oper} {f:Operand} {args:Array Operand} {ts:Array TypeId} {g:FuncId} {all:List V} {pv:Value}
 (ho:o.op=.call { callee:=.value f,args:=args,argTypes:=ts })
 (hc:ew (ev G s f) (args.toList.map (ev G s))=some (g,all)) (hf:FnX P G g all [] pv []) (dh:all.map V.fz=all.map (V.ren (rho [] s.nb))) (hK:KP pv s):ry P G s o KP:=by
 unfold ry
 simp only[ho,hc]
 exact⟨[],all,[],pv,[],hf,dh,⟨rfl,by simp⟩,trivial,hK⟩
theorem tW {P:Program} {G:Gl} {KP:Value→S→Prop} {s:S} {o:Oper} {r:List Oper} {f:Operand} {args:Array Operand} {ts:Array TypeId} {g:FuncId} {all:List V} {pv:Value}
 (ho:o.op=.call { callee:=.value f,args:=args,argTypes:=ts })
 (hc:ew (ev G s f) (args.toList.map (ev G s))=some (g,all)) (hf:FnX P G g all [] pv []) (dh:all.map V.fz=all.map (V.ren (rho [] s.nb))) (hK:KP pv s):vE P G s o r KP:=by
 unfold vE
 simp only[ho,hc]
 exact⟨[],all,[],pv,[],hf,dh,⟨rfl,by simp⟩,trivial,hK⟩
def o8:=jj @pkX (jj @pkA (jj @ptA @pkM))
def Cq:=jj @pkA (jj @ptA @pkM)
theorem xr (p:Pol) (s:Sy) (c:Cl) (hp:p.types.length≤9223372036854775807):FnO Tryz.prog G 109 [.bp 0 0] [mB p s c] (oP (o7 p c.t)) (.tup []) [mB p s c]:=by
 refine jd (rs:=[]) (k:=1) [3000001,2900000] mixed Tryz.func109 rfl rfl rfl rfl (by kernel_rfl) (by simp) rfl rfl rfl (dA rfl) (ae _) ?_
 simp only[o8,seval,ah,ai]
 have hb:BL 0 [mB p s c] (bxs [mB p s c]):=⟨rfl,trivial⟩
 by_cases h0:0≤c.t
 ·by_cases h1:c.t<p.types.length
  ·left
   simp only[Cq,seval,h0,h1,ai,ap]
   refine aD rfl (gU 1) (fun _=>rfl) ?_
   have e:o7 p c.t=.ok ():=by simp[o7,er,inI,h0,h1]
   rw[e]
   simp only[pkA,oP,oQ]
   exact dJ [] rfl rfl (ae _) (ae _) trivial hb dl
  ·right
   have e:o7 p c.t=.error 1:=by simp[o7,er,inI,h1]
   rw[e]
   refine fL (l:=[_,_,_,_,_,_,_,_,_,_,_,_,_,_,_,_,_,_,_,_]) rfl (by kernel_rfl) ?_
   simp only[Cq,seval,h0,h1,ai,cd,ap]
   exact LC rfl rfl (jY 1) rfl (cT (ae _) rfl (ae _) hb)
 ·right
  have e:o7 p c.t=.error 1:=by simp[o7,er,inI,h0]
  rw[e]
  refine fL (l:=[_,_,_,_,_,_,_,_,_,_,_,_,_,_,_,_,_,_,_,_]) rfl (by kernel_rfl) ?_
  simp only[Cq,seval,h0,ai,cd]
  exact LC rfl rfl (jY 1) rfl (cT (ae _) rfl (ae _) hb)
def rO {α:Type} (g:α→V):Except Int α→V
 | .ok x=>g x
 | .error _=>.tup []
def rO2 {α:Type} (g:α→List V):Except Int α→List V
 | .ok x=>g x
 | .error _=>[]
def LD:=jj @pkX (jj @pkA @ptA)
def ui:=jj @pkX @pkA
theorem Cr (p:Pol) (s:Sy) (c:Cl) (k:Int) (hp:s.hs.length≤9223372036854775807):FnO Tryz.prog G 116 [.bp 0 0,i64 k] [mB p s c] (oP (ofI s.hs k)) (rO (fun x=>.agg (hdC x)) (ofI s.hs k)) [mB p s c]:=by
 refine D3 (rs:=[.cell 4 49]) (k:=1) [rO2 (fun x=>(hdC x).map .c) (ofI s.hs k)] [3000001,2900001] mixed Tryz.func116 rfl rfl rfl rfl (by kernel_rfl) (by simp) (by cases ofI s.hs k<;>rfl) rfl rfl (dA rfl) (ae _) (by simp[xt]) (by cases ofI s.hs k<;>rfl) ?_
 simp only[LD,a8,seval,ah]
 have hb:BL 0 [mB p s c] (bxs [mB p s c]):=⟨rfl,trivial⟩
 by_cases h0:0≤k
 ·by_cases h1:k<s.hs.length
  ·obtain⟨i,rfl⟩:∃ i:Nat,k=i:=⟨k.toNat,by omega⟩
   have h2:i<s.hs.length:=by omega
   have e:ofI s.hs (i:Int)=.ok s.hs[i]:=by simp[ofI,ED h2]
   simp only[o8,a8,seval,ah,ai,h0,h1,ai,hsC,ap]
   left
   refine aD rfl (gU 1) (fun _=>rfl) ?_
   simp only[o8,seval,ah,ai,e,oP,rO,hsC,ai]
   have ia:∀ K,K (.c (.rp (hdC s.hs[i]) 0))→cC Tryz.prog 32 (.c (.sl (s.hs.map hdC))) (i64 (i:Int)) K:=fun K hK=>
    dz l6 rfl jU (by decide) (aI i) (c:=hdC s.hs[i]) (by simp[h2]) (fi _) hK
   refine ia _ ?_
   simp only[o8,seval,ah,ai]
   simp only[oQ,rO2]
   refine dJ [(4,.bp 1 0)] rfl (by simp only[eW,aR,bb,xt,gd,iV,aB,aK];rfl) (by simp) (ae _) ⟨rfl,trivial⟩ ⟨rfl,?_,trivial⟩ ?_
   ·rfl
   ·rw[eV]
    refine (oV jU rfl rfl (b:=1) (o:=0)).mpr ⟨rfl,?_⟩
    unfold ldA
    exact⟨bq 1,⟨rfl,rfl⟩,rfl⟩
  ·have e:ofI s.hs k=.error 1:=by simp[ofI,oG.2 (by omega:¬ (0≤k∧k<s.hs.length))]
   simp only[o8,a8,seval,ah,ai,h0,h1,ai,cd,hsC,ap,e]
   exact .inr (tW rfl rfl (jY 1) rfl (cT (ae _) rfl (by simp) ⟨rfl,trivial⟩))
 ·have e:ofI s.hs k=.error 1:=by simp[ofI,oG.2 (by omega:¬ (0≤k∧k<s.hs.length))]
  simp only[ui,a8,seval,h0,cd,e]
  exact .inr (tW rfl rfl (jY 1) rfl (cT (ae _) rfl (by simp) ⟨rfl,trivial⟩))
def LF:=jj @pkX (jj @pkA (jj @ptA @pkT))
theorem LG (p:Pol) (s:Sy) (c:Cl) (k:Int) (hp:s.its.length≤9223372036854775807):FnO Tryz.prog G 114 [.bp 0 0,i64 k] [mB p s c] (oP (ofI s.its k)) (rO (fun x=>.agg (tmC x)) (ofI s.its k)) [mB p s c]:=by
 refine D3 (rs:=[.cell 4 47]) (k:=1) [rO2 (fun x=>(tmC x).map .c) (ofI s.its k)] [3000001,2900001] mixed Tryz.func114 rfl rfl rfl rfl (by kernel_rfl) (by simp) (by cases ofI s.its k<;>rfl) rfl rfl (dA rfl) (ae _) (by simp[xt]) (by cases ofI s.its k<;>rfl) ?_
 simp only[LD,a8,seval,ah]
 have hb:BL 0 [mB p s c] (bxs [mB p s c]):=⟨rfl,trivial⟩
 by_cases h0:0≤k
 ·by_cases h1:k<s.its.length
  ·obtain⟨i,rfl⟩:∃ i:Nat,k=i:=⟨k.toNat,by omega⟩
   have h2:i<s.its.length:=by omega
   have e:ofI s.its (i:Int)=.ok s.its[i]:=by simp[ofI,ED h2]
   simp only[o8,a8,seval,ah,ai,h0,h1,ai,tsC,ap]
   left
   refine aD rfl (gU 1) (fun _=>rfl) ?_
   simp only[o8,seval,ah,ai,e,oP,rO,tsC,ai]
   have ia:∀ K,K (.c (.rp (tmC s.its[i]) 0))→cC Tryz.prog 33 (.c (.sl (s.its.map tmC))) (i64 (i:Int)) K:=fun K hK=>
    dz dq rfl di (by decide) (aI i) (c:=tmC s.its[i]) (by simp[h2]) (bI _) hK
   refine ia _ ?_
   simp only[LF,seval,ah,ai]
   simp only[oQ,rO2]
   refine dJ [(4,.bp 1 0)] rfl (by simp only[eW,aR,bb,xt,gd,iV,aB,aK];rfl) (by simp) (ae _) ⟨rfl,trivial⟩ ⟨rfl,?_,trivial⟩ ?_
   ·rfl
   ·rw[eV,jX]
    refine (oV di rfl rfl (b:=1) (o:=0)).mpr ⟨rfl,?_⟩
    unfold ldA
    exact⟨bq 1,⟨rfl,rfl⟩,rfl⟩
  ·have e:ofI s.its k=.error 1:=by simp[ofI,oG.2 (by omega:¬ (0≤k∧k<s.its.length))]
   simp only[o8,a8,seval,ah,ai,h0,h1,ai,cd,tsC,ap,e]
   exact .inr (tW rfl rfl (jY 1) rfl (cT (ae _) rfl (by simp) ⟨rfl,trivial⟩))
 ·have e:ofI s.its k=.error 1:=by simp[ofI,oG.2 (by omega:¬ (0≤k∧k<s.its.length))]
  simp only[ui,a8,seval,h0,cd,e]
  exact .inr (tW rfl rfl (jY 1) rfl (cT (ae _) rfl (by simp) ⟨rfl,trivial⟩))
theorem OA (a b:Int):FnOK Tryz.prog G 160 [i64 a,i64 b] (bo (JU a b)):=by
 refine bP (rs:=[.tmp 4]) false [] mixed Tryz.func160 rfl rfl rfl rfl (by kernel_rfl) (by simp) rfl rfl ?_
 have hN:∀ K,qG .andNot .i64 a b K=K (i64 (bits .andNot .i64 a b)):=fun _=>rfl
 simp only[pkA,seval,hN]
 rfl
def Hn:=jj @pkA (jj @ptA @Kp.pkP)
theorem OB (p:Pol) (t:Int):FnOK Tryz.prog G 159 [.agg (poC p),i64 t] (bo (decide (0≤t)&&decide (t<p.types.length))):=by
 refine bP (rs:=[.tmp 4]) false [] mixed Tryz.func159 rfl rfl rfl rfl (by kernel_rfl) (by simp) rfl rfl ?_
 repeat' first
  |(simp only[Hn,seval])
  |refine jc (fun h=>?_) (fun h=>?_)
 all_goals (simp_all<;>omega)
theorem aa7 (p:Pol) (t flags:Int) (hm:p.types.length≤9223372036854775807):FnOK Tryz.prog G 140 [.agg (poC p),i64 t,i64 flags] (bo (kw p t flags)):=by
 refine bP (rs:=[.tmp 6]) false [] mixed Tryz.func140 rfl rfl rfl rfl (by kernel_rfl) (by simp) rfl rfl ?_
 simp only[Hn,seval]
 refine aD rfl (OB p t) (fun _=>rfl) ?_
 simp only[pkA,seval]
 refine jc (fun h=>?_) (fun h=>?_)
 ·simp only[aG,bi] at h
  obtain⟨i,rfl⟩:∃ i:Nat,t=i:=⟨t.toNat,by omega⟩
  have ht:i<p.types.length:=by omega
  simp only[Hn,seval]
  refine dz nw rfl kM (by decide) (aI i) (c:=tyC p.types[i]) (by simp[ht]) rfl ?_
  simp only[Hn,seval]
  refine aD rfl (OA _ _) (fun _=>rfl) ?_
  simp only[pkA,seval]
  unfold kw
  rw[ED ht]
 ·have:vY p.types t=none:=oG.2 (by simpa using h)
  simp only[pkA,seval]
  unfold kw
  rw[this]
theorem aa8 (p:Pol) (k a b:Int) (hm:p.rules.length≤9223372036854775807):FnOK Tryz.prog G 143 [.agg (poC p),i64 k,i64 a,i64 b] (bo (oh p k a b)):=by
 refine bP (rs:=[.tmp 8]) false [] mixed Tryz.func143 rfl rfl rfl rfl (by kernel_rfl) (by simp) rfl rfl ?_
 simp only[Hn,seval]
 refine aD rfl (Kp.yf p.rules hm ⟨k,a,b⟩) (fun _=>rfl) ?_
 simp only[pkA,seval]
 simp[oh,List.any_eq,eq_comm]
theorem To (p:Pol) (s:Sy) (c:Cl) (t fl:Int) (hp:p.types.length≤9223372036854775807):FnO Tryz.prog G 110 [.bp 0 0,i64 t,i64 fl] [mB p s c] (oP (er (kw p t fl) 10)) (.tup []) [mB p s c]:=by
 refine jd (rs:=[]) (k:=1) [3000001,2900000] mixed Tryz.func110 rfl rfl rfl rfl (by kernel_rfl) (by simp) rfl rfl rfl (dA rfl) (ae _) ?_
 simp only[o8,a8,seval,ah,ai]
 refine .inl (aD rfl (aa7 p t fl hp) (fun _=>rfl) ?_)
 simp only[ui,a8,seval]
 cases kw p t fl with
 |true=>
  refine .inl (aD rfl (gU 10) (fun _=>rfl) ?_)
  simp only[ui,seval,oP,oQ,er]
  exact dJ [] rfl rfl (ae _) (ae _) trivial ⟨rfl,trivial⟩ dl
 |false=>exact .inr (tW rfl rfl (jY 10) rfl (cT (ae _) rfl (by simp) (by simp[BL,bxs])))
theorem Tp (p:Pol) (s:Sy) (c:Cl) (k a b:Int) (hp:p.rules.length≤9223372036854775807):FnO Tryz.prog G 119 [.bp 0 0,i64 k,i64 a,i64 b] [mB p s c] (oP (er (oh p k a b) 10)) (.tup []) [mB p s c]:=by
 refine jd (rs:=[]) (k:=1) [3000001,2900000] mixed Tryz.func119 rfl rfl rfl rfl (by kernel_rfl) (by simp) rfl rfl rfl (dA rfl) (ae _) ?_
 simp only[o8,a8,seval,ah,ai]
 refine .inl (aD rfl (aa8 p k a b hp) (fun _=>rfl) ?_)
 simp only[ui,a8,seval]
 cases oh p k a b with
 |true=>
  refine .inl (aD rfl (gU 10) (fun _=>rfl) ?_)
  simp only[ui,seval,oP,oQ,er]
  exact dJ [] rfl rfl (ae _) (ae _) trivial ⟨rfl,trivial⟩ dl
 |false=>exact .inr (tW rfl rfl (jY 10) rfl (cT (ae _) rfl (by simp) (by simp[BL,bxs])))
theorem Ho (t:Tm):FnO Tryz.prog G 115 [.agg (tmC t)] [] (oP (er (ej t) 1)) (.tup []) []:=by
 refine jd (rs:=[]) (k:=0) [3000000,2900001] mixed Tryz.func115 rfl rfl rfl rfl (by kernel_rfl) (by simp) rfl rfl rfl rfl (ae _) ?_
 simp only[LF,a8,seval,ah,ai]
 refine .inl (aD rfl (vR t) (fun _=>rfl) ?_)
 simp only[ui,a8,seval]
 cases ej t with
 |true=>
  refine .inl (aD rfl (gU 1) (fun _=>rfl) ?_)
  simp only[ui,seval,oP,oQ,er]
  exact dJ [] rfl rfl (ae _) (by simp) trivial trivial dl
 |false=>exact .inr (tW rfl rfl (jY 1) rfl (cT (ae _) rfl (by simp) (by simp[BL])))
def LH:=jj @pkA (jj @ptA @pkT)
theorem tD (t u:Tm) (ht:br t≤1000000000) (hu:br u≤1000000000):FnOK Tryz.prog G 44 [.agg (tmC t),.agg (tmC u)] (bo (decide (t=u))):=by
 refine bP (rs:=[.tmp 4]) false [] mixed Tryz.func44 rfl rfl rfl rfl (by kernel_rfl) (by simp) rfl rfl ?_
 simp only[LH,seval]
 refine aD rfl (uM t u ht hu) (fun _=>rfl) ?_
 simp only[pkA,seval]
 simp[jk]
theorem of_ok (k n:Int) (l:List Tm):FnOK Tryz.prog G 111 [i64 k,i64 n,.c (tsC l)] (.agg (tmC (.mk k n l))):=by
 refine bP (rs:=[.cell 6 47]) false [] mixed Tryz.func111 rfl rfl rfl rfl (by kernel_rfl) (by simp) rfl rfl ?_
 simp only[pkA,ptA,seval]
 rw[jX]
 unfold ldA
 exact⟨rfl,by decide,⟨rfl,rfl⟩,rfl⟩
def stO (s:Sy):Ou→Sy
 | .ok s'=>s'
 | .error _=>s
def mX (p:Pol) (s:Sy) (c:Cl) (x4 x5 x6 x7:V):List V:=[.c (.lit (.string p.name)),.c (.sl (p.types.map tyC)),.c (.sl (p.rules.map ruC)),.c (.sl (p.quorums.map quC)),x4,x5,x6,x7,i64 s.fresh,i64 c.kind,i64 c.a,i64 c.b,i64 c.m,i64 c.t]
theorem EE {P:Program} {T e:TypeId} {i j:TI} {k k':IntKind} {n:Nat} {es:List (List C)} {K:V→Prop} (hT:ti P T=some i) (hk:i.kd=.slice e) (hE:ti P e=some j) (hs:∀ x∈es,x.length=j.size) (hn:es.length=n) (hK:K (.ow none es)) :
 gG P T (.c (.sl es)) none (some (.c (.lit (.int k (n:Nat))))) (some (.c (.lit (.int k' (n:Nat))))) K:=by
 subst hn
 obtain⟨a1,a2,a3,a4,a5,a6,a7⟩:=i
 simp only at hk;subst hk
 simp only[gG,hT,hE,gC]
 refine⟨⟨by omega,by omega,by omega,trivial,hs⟩,?_⟩
 rw[iw,cx];exact hK
theorem apT {es:List (List C)} {x:List C} {K:V→Prop} (hl:es.length≤10000000) (hs:∀ x∈es,x.length=3) (hx:x.length=3) (hK:K (.ow (some (47,3)) (es++[x]))):dX Tryz.prog 33 (.ow none es) (.c (.sl [x])) K:=by
 simp only[dX,dq,di]
 refine⟨⟨by decide,rfl,.inl trivial,hs⟩,⟨?_,?_,by simp[hx]⟩,hK⟩
 ·simp only[aB,aK];omega
 ·simp only[aB,aK];omega
theorem LI (p:Pol) (s:Sy) (c:Cl) (t:Tm) (ht:br t≤1000000000) (hn:s.its.length≤100000):FnO Tryz.prog G 117 [.bp 0 0,.agg (tmC t)] [mB p s c] (oP (fP s t)) (.tup []) [mB p (stO s (fP s t)) c]:=by
 refine yR (b2:=[mX p s c (.c (hsC s.hs)) (.ow (some (47,3)) (s.its.map tmC++[tmC t])) (.c (hsC s.os)) (.c (tsC s.rs))]) (rs:=[]) (k:=1) [3000001,2900001] mixed Tryz.func117 rfl rfl rfl rfl (by kernel_rfl) (by simp) rfl rfl rfl (dA rfl) (by simp) (by simp) (by simp[mX];rfl) ?_ ?_
 ·intro h
  unfold fP at h ⊢
  split
  ·simp[stO,mX,mB,mC,V.fz,tsC,hsC,cI]
  ·rename_i hc;rw[if_neg hc] at h;cases h
 simp only[o8,a8,seval,ah,ai]
 have hS:=Lc (G:=G) t ht
 by_cases h0:(s.its.length:Int)<100
 ·simp only[LF,a8,seval,ai,tsC,ap,h0,ai]
  refine .inl (aD rfl hS (fun _=>rfl) ?_)
  simp only[ui,a8,seval]
  by_cases h1:(br t:Int)≤100
  ·have e:fP s t=.ok { s with its:=s.its++[t] }:=by unfold fP;rw[if_pos ⟨by omega,by omega⟩]
   simp only[ai,h1,ai,e,oP]
   refine .inl (aD rfl (gU 2) (fun _=>rfl) ?_)
   simp only[o8,seval,ah,ai,tsC,ap]
   refine EE dq rfl di (fun x hx=>by obtain⟨y,_,rfl⟩:=bu.1 hx;exact bI y) (ap ..) ?_
   simp only[LH,seval,ah,ai]
   rw[if_neg (by decide)]
   refine apT (by rw[ap];omega) (fun x hx=>by obtain⟨y,_,rfl⟩:=bu.1 hx;exact bI y) (bI t) ?_
   simp only[Cq,seval,ah,ai]
   refine⟨ab rfl,?_⟩
   simp only[oQ]
   exact dJ [] rfl rfl (ae _) (by simp) trivial ⟨rfl,trivial⟩ dl
  ·have e:fP s t=.error 2:=by unfold fP;rw[if_neg (by omega)]
   simp only[h1,cd,e]
   exact .inr (tW rfl rfl (jY 2) rfl (cT (ae _) rfl (by simp) (by simp[BL,bxs,ar,stO])))
 ·have e:fP s t=.error 2:=by unfold fP;rw[if_neg (by omega)]
  simp only[LD,a8,seval,tsC,ap,h0,cd,e]
  left
  exact .inr (tW rfl rfl (jY 2) rfl (cT (ae _) rfl (by simp) (by simp[BL,bxs,ar,stO])))
theorem apH {es:List (List C)} {x:List C} {K:V→Prop} (hl:es.length≤10000000) (hs:∀ x∈es,x.length=4) (hx:x.length=4) (hK:K (.ow (some (49,4)) (es++[x]))):dX Tryz.prog 32 (.ow none es) (.c (.sl [x])) K:=by
 simp only[dX,l6,jU]
 refine⟨⟨by decide,rfl,.inl trivial,hs⟩,⟨?_,?_,by simp[hx]⟩,hK⟩
 ·simp only[aB,aK];omega
 ·simp only[aB,aK];omega
theorem Tq (p:Pol) (s:Sy) (c:Cl) (t:Int) (v:Tm) (ht:br v≤1000000000) (hn:s.hs.length≤100000):FnO Tryz.prog G 112 [.bp 0 0,i64 t,.agg (tmC v)] [mB p s c] (oP (mJ s t v)) (.tup []) [mB p (stO s (mJ s t v)) c]:=by
 refine yR (b2:=[mX p s c (.ow (some (49,4)) (s.hs.map hdC++[hdC ⟨t,v⟩])) (.c (tsC s.its)) (.c (hsC s.os)) (.c (tsC s.rs))]) (rs:=[]) (k:=1) [3000001,2900001] mixed Tryz.func112 rfl rfl rfl rfl (by kernel_rfl) (by simp) rfl rfl rfl (dA rfl) (by simp) (by simp) (by simp[mX];rfl) ?_ ?_
 ·intro h
  unfold mJ at h ⊢
  split
  ·simp[stO,mX,mB,mC,V.fz,tsC,hsC,cI]
  ·rename_i hc;rw[if_neg hc] at h;cases h
 simp only[o8,a8,seval,ah,ai]
 have hS:=Lc (G:=G) v ht
 by_cases h0:(s.hs.length:Int)<100
 ·simp only[LF,a8,seval,ai,hsC,tsC,ap,h0,ai]
  refine .inl (aD rfl hS (fun _=>rfl) ?_)
  simp only[ui,a8,seval]
  by_cases h1:(br v:Int)≤100
  ·have e:mJ s t v=.ok { s with hs:=s.hs++[⟨t,v⟩] }:=by unfold mJ;rw[if_pos ⟨by omega,by omega⟩]
   simp only[ai,h1,ai,e,oP]
   refine .inl (aD rfl (gU 2) (fun _=>rfl) ?_)
   simp only[o8,seval,ah,ai,hsC,ap]
   refine EE l6 rfl jU (fun x hx=>by obtain⟨y,_,rfl⟩:=bu.1 hx;exact fi y) (ap ..) ?_
   simp only[LH,seval,ah,ai]
   rw[eA,if_pos (bI v),show C.lit (.int .i64 t)::tmC v=hdC ⟨t,v⟩ from(Tl ⟨t,v⟩).symm]
   simp only[pkA]
   rw[if_neg (by decide)]
   refine apH (by rw[ap];omega) (fun x hx=>by obtain⟨y,_,rfl⟩:=bu.1 hx;exact fi y) (fi ⟨t,v⟩) ?_
   simp only[Cq,seval,ah,ai]
   refine⟨ab rfl,?_⟩
   simp only[oQ]
   exact dJ [] rfl rfl (ae _) (by simp) trivial ⟨rfl,trivial⟩ dl
  ·have e:mJ s t v=.error 2:=by unfold mJ;rw[if_neg (by omega)]
   simp only[h1,cd,e]
   exact .inr (tW rfl rfl (jY 2) rfl (cT (ae _) rfl (by simp) (by simp[BL,bxs,ar,stO])))
 ·have e:mJ s t v=.error 2:=by unfold mJ;rw[if_neg (by omega)]
  simp only[LD,a8,seval,hsC,tsC,ap,h0,cd,e]
  left
  exact .inr (tW rfl rfl (jY 2) rfl (cT (ae _) rfl (by simp) (by simp[BL,bxs,ar,stO])))
theorem LJ (p:Pol) (s:Sy) (c:Cl) (t:Int) (v:Tm) (hn:s.os.length≤100000):FnB Tryz.prog G 113 [.bp 0 0,i64 t,.agg (tmC v)] [mB p s c] (.tup []) [mB p (mkM s t v) c]:=by
 have key:FnO Tryz.prog G 113 [.bp 0 0,i64 t,.agg (tmC v)] [mB p s c] none (.tup []) [mB p (mkM s t v) c]:=by
  refine yR (b2:=[mX p s c (.c (hsC s.hs)) (.c (tsC s.its)) (.ow (some (49,4)) (s.os.map hdC++[hdC ⟨t,v⟩])) (.c (tsC s.rs))]) (rs:=[]) (k:=1) [3000001] mixed Tryz.func113 rfl rfl rfl rfl (by kernel_rfl) (by simp) rfl rfl rfl (dA rfl) (by simp) (by simp) (by simp[mX];rfl) ?_ ?_
  ·intro h
   simp[mX,mB,mC,V.fz,tsC,hsC,cI,mkM]
  simp only[o8,seval,ah,ai,hsC,tsC,ap]
  refine EE l6 rfl jU (fun x hx=>by obtain⟨y,_,rfl⟩:=bu.1 hx;exact fi y) (ap ..) ?_
  simp only[LH,seval,ah,ai]
  rw[eA,if_pos (bI v),show C.lit (.int .i64 t)::tmC v=hdC ⟨t,v⟩ from(Tl ⟨t,v⟩).symm]
  simp only[pkA]
  rw[if_neg (by decide)]
  refine apH (by rw[ap];omega) (fun x hx=>by obtain⟨y,_,rfl⟩:=bu.1 hx;exact fi y) (fi ⟨t,v⟩) ?_
  simp only[Cq,seval,ah,ai]
  refine⟨ab rfl,?_⟩
  simp only[oQ]
  exact dJ [] rfl rfl (ae _) (by simp) trivial ⟨rfl,trivial⟩ dl
 exact key
