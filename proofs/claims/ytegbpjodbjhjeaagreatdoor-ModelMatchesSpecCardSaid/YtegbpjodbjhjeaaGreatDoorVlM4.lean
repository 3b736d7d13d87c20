/- Layer 16, plain: the symbolic machine. -/
import Derived.Test.YtegbpjodbjhjeaaGreatDoorKpVlFun2
import Derived.Test.YtegbpjodbjhjeaaGreatDoorKpVlRefV
import Derived.Test.YtegbpjodbjhjeaaGreatDoorVlPanicB
import Derived.Test.YtegbpjodbjhjeaaGreatDoorVlWord
import Derived.WalkKit
import Derived.Recover
import Derived.Tactics
import Derived.Test.YtegbpjodbjhjeaaGreatDoorKpVlErr
import Derived.Test.YtegbpjodbjhjeaaGreatDoorVlBridge
set_option linter.all false
namespace Go.Proofs.YtegbpjodbjhjeaaGreatDoor
open Go Go.Vl
open Kp (Pol Ty Ru Qu)
structure Hd where
 ty:Int
 va:Tm
 deriving DecidableEq
structure Sy where
 hs:List Hd
 its:List Tm
 os:List Hd
 rs:List Tm
 fresh:Int
 deriving DecidableEq
structure Cl where
 kind:Int
 a:Int
 b:Int
 m:Int
 t:Int
 deriving DecidableEq
def sy0:Sy:=⟨[],[],[],[],0⟩
def eD {α:Type} (l:List α) (k:Int):Option α:=if 0<=k then l[k.toNat]? else none
theorem Au {α:Type} {l:List α} {k:Nat} (h:k<l.length):eD l (k:Int)=some l[k]:=by simp[eD,h]
theorem qX {α:Type} {l:List α} {k:Int} {x:α} (h:eD l k=some x):∃ i:Nat,k=i/\∃ h:i<l.length,l[i]=x:=by
 unfold eD at h;split at h
 .rename_i h0
  obtain⟨h1,h2⟩:=am.1 h;exact⟨k.toNat,by omega,h1,h2⟩
 .cases h
theorem pa {α:Type} {l:List α} {k:Int}:eD l k=none↔¬ (0<=k/\k<l.length):=by
 unfold eD;split
 .rename_i h0
  rw[List.getElem?_eq_none_iff];omega
 .simp;omega
def inI (k n:Int):Bool:=decide (0<=k)&&decide (k<n)
theorem cT {α:Type} {l:List α} {k:Int}:inI k l.length=(eD l k).isSome:=by
 cases h:eD l k with
 |none=>have:=pa.1 h;simp only[inI,aS,Bool.and_eq_false_iff,cJ];omega
 |some x=>obtain⟨i,rfl,hi,_⟩:=qX h;simp[inI,hi]
def knS (s:Sy) (t:Tm):Bool:=knT s.its t
def orS (s:Sy) (t:Tm):Int:=match s.os.find? (λo=>decide (o.va=t)) with
 |some o=>o.ty
 |none=>-1
def ni (s:Sy) (t:Tm):Int:=if dF t=true then(if knS s t=true then 0 else orS s t+1) else -1
def LC (a b:Int):Bool:=decide (bits .andNot .i64 a b=0)
def jO (p:Pol) (t flags:Int):Bool:=match eD p.types t with | some x=>LC flags x.flags | none=>false
def li (p:Pol) (k a b:Int):Bool:=decide ((⟨k,a,b⟩:Ru)∈p.rules)
abbrev Ou:=Except Int Sy
def fw (b:Bool) (e:Int):Except Int Unit:=if b=true then .ok () else .error e
def ofI {α:Type} (l:List α) (k:Int):Except Int α:=match eD l k with | some x=>.ok x | none=>.error 1
def lY (s:Sy) (t:Int) (v:Tm):Ou:=if s.hs.length<100/\bi v<=100 then .ok { s with hs:=s.hs++[⟨t,v⟩] } else .error 2
def gy (s:Sy) (v:Tm):Ou:=if s.its.length<100/\bi v<=100 then .ok { s with its:=s.its++[v] } else .error 2
def mkM (s:Sy) (t:Int) (v:Tm):Sy:={ s with os:=s.os++[⟨t,v⟩] }
def iH (t key:Tm) (kinds:List Int):Except Int Tm:=if t.kind∈kinds/\t.l[0]?=some key then .ok (t.l.getD 1 gV) else .error 8
def m5 (p:Pol) (t:Int):Except Int Unit:=fw (inI t p.types.length) 1
def gr (a b:Tm):Tm:=.mk 3 0 [a,b]
def doM (p:Pol) (s:Sy) (c:Cl):Nat->Ou
 |1=>do m5 p c.t;fw (jO p c.t 1) 10;let s1 <- lY s c.t (.mk 2 s.fresh []);.ok { mkM s1 c.t (.mk 2 s.fresh []) with fresh:=s.fresh+1 }
 |2=>do let x <- ofI s.its c.m;m5 p c.t;fw (dF x) 1;fw (jO p c.t 2) 10;lY s c.t x
 |3=>do let a <- ofI s.hs c.a;fw (jO p a.ty 4) 10;gy s a.va
 |4=>do let a <- ofI s.hs c.a;let x <- ofI s.its c.m;fw (jO p a.ty 8) 10;gy s (gr a.va x)
 |5=>do let a <- ofI s.hs c.a;let x <- ofI s.its c.m;fw (jO p a.ty 16) 10;let y <- iH x a.va [3];gy s y
 |6=>do let a <- ofI s.hs c.a;let x <- ofI s.its c.m;fw (jO p a.ty 32) 10;gy s (.mk 6 0 [a.va,x])
 |7=>do let a <- ofI s.hs c.a;let b <- ofI s.hs c.b;fw (li p 1 a.ty b.ty) 10;gy s (.mk 4 b.ty [a.va,b.va])
 |8=>do let a <- ofI s.hs c.a;let x <- ofI s.its c.m;let y <- iH x a.va [4];fw (li p 2 a.ty x.n) 10;lY s x.n y
 |9=>do let a <- ofI s.hs c.a;let b <- ofI s.hs c.b;fw (li p 3 a.ty b.ty) 10;gy s (gr a.va b.va)
 |10=>do
   let a <- ofI s.hs c.a;let x <- ofI s.its c.m;m5 p c.t;fw (li p 4 a.ty c.t) 10;let y <- iH x a.va [3];fw (dF y) 1
   let s1 <- lY s c.t y;.ok (if knS s1 y=true then s1 else { s1 with rs:=s1.rs++[y] })
 |11=>do
   let a <- ofI s.hs c.a;m5 p c.t;fw (li p 5 a.ty c.t) 10
   let s1 <- lY s c.t (.mk 5 c.t [a.va]);.ok (if knS s a.va=false/\orS s (.mk 5 c.t [a.va])<0 then mkM s1 c.t (.mk 5 c.t [a.va]) else s1)
 |12=>do fw (inI c.t 2147483648) 1;gy s (.mk 1 c.t [])
 |13=>do let a <- ofI s.its c.a;let x <- ofI s.its c.m;fw (dF a) 1;gy s (gr a x)
 |14=>do let a <- ofI s.its c.a;let x <- ofI s.its c.m;m5 p c.t;fw (dF a) 1;fw (dF x) 1;gy s (.mk 4 c.t [a,x])
 |15=>do let a <- ofI s.its c.a;m5 p c.t;fw (dF a) 1;gy s (.mk 5 c.t [a])
 |16=>do let a <- ofI s.its c.a;let x <- ofI s.its c.m;let y <- iH x a [3,4];gy s y
 |_=>.error 1
def fp (p:Pol) (s:Sy) (c:Cl):Ou:=do fw (inI (c.kind - 1) 16&&Kp.mh p) 1;doM p s c c.kind.toNat
def stR (o:Ou):Sy×Int:=match o with
 | .ok s=>(s,0)
 | .error e=>(sy0,e)
def lZ (p:Pol):Sy->Nat->List Cl->Sy×Nat×Int
 |s,n,[]=>(s,n,0)
 |s,n,c::l=>match fp p s c with
  | .ok s'=>lZ p s' (n+1) l
  | .error e=>(s,n,e)
open Kp (Pol Ty Ru Qu poC tyC ruC quC)
variable {G:Gl}
set_option maxRecDepth 10000
def hdC (h:Hd):List C:=[cI h.ty,cI h.va.kind,cI h.va.n,tsC h.va.l]
def hsC (l:List Hd):C:=.sl (l.map hdC)
def syC (s:Sy):List C:=[hsC s.hs,tsC s.its,hsC s.os,tsC s.rs,cI s.fresh]
def clC (c:Cl):List C:=[cI c.kind,cI c.a,cI c.b,cI c.m,cI c.t]
theorem Vn (h:Hd):hdC h=cI h.ty::tmC h.va:=by rw[fx];rfl
theorem ek (h:Hd):(hdC h).length=4:=rfl
theorem Zp (s:Sy):(syC s).length=5:=rfl
theorem Gm (c:Cl):(clC c).length=5:=rfl
def mC (p:Pol) (s:Sy) (c:Cl):List C:=[.lit (.string p.name),.sl (p.types.map tyC),.sl (p.rules.map ruC),.sl (p.quorums.map quC),hsC s.hs,tsC s.its,hsC s.os,tsC s.rs,cI s.fresh,cI c.kind,cI c.a,cI c.b,cI c.m,cI c.t]
def mB (p:Pol) (s:Sy) (c:Cl):List V:=(mC p s c).map .c
section
variable {p:Pol} {s:Sy} {c:Cl} {nb q:Nat} {K:V->Prop}
theorem aay:dE (mB p s c)=false:=rfl
theorem aiS:ldA nb q (mB p s c) 0 4 K=(q<nb/\K (.agg (poC p))):=by unfold ldA;exact propext ⟨λh=>⟨h.1,h.2.2⟩,λh=>⟨h.1,⟨rfl,rfl⟩,h.2⟩⟩
theorem aiT:ldB nb q (mB p s c) 1 K=(q<nb/\K (.c (.sl (p.types.map tyC)))):=rfl
theorem aiU:ldB nb q (mB p s c) 4 K=(q<nb/\K (.c (hsC s.hs))):=rfl
theorem aiV:ldB nb q (mB p s c) 5 K=(q<nb/\K (.c (tsC s.its))):=rfl
theorem aiW:ldB nb q (mB p s c) 6 K=(q<nb/\K (.c (hsC s.os))):=rfl
theorem aiX:ldB nb q (mB p s c) 7 K=(q<nb/\K (.c (tsC s.rs))):=rfl
theorem aiY:ldB nb q (mB p s c) 8 K=(q<nb/\K (i64 s.fresh)):=rfl
theorem aiZ:ldB nb q (mB p s c) 9 K=(q<nb/\K (i64 c.kind)):=rfl
theorem agp:ldB nb q (mB p s c) 10 K=(q<nb/\K (i64 c.a)):=rfl
theorem agq:ldB nb q (mB p s c) 11 K=(q<nb/\K (i64 c.b)):=rfl
theorem agr:ldB nb q (mB p s c) 12 K=(q<nb/\K (i64 c.m)):=rfl
theorem ags:ldB nb q (mB p s c) 13 K=(q<nb/\K (i64 c.t)):=rfl
theorem yN {m:Nat}:(mB p s c).all (λx=>x.ltB m)=true:=rfl
theorem adI {ρ:Nat->Nat}:(mB p s c).map (V.ren ρ)=mB p s c:=rfl
end
def pkM:=jj @aay (jj @aiS (jj @aiT (jj @aiU (jj @aiV (jj @aiW (jj @aiX (jj @aiY (jj @aiZ (jj @agp (jj @agq (jj @agr (jj @ags @ek))))))))))))
theorem fL {p:Pol} {s:Sy} {c:Cl} {xs:List V} (h:xs.all (λx=>x.ltB 1)=true):eM xs [mB p s c]=true:=by simp only[eM,aK,aQ,yN,aI,aL,h];rfl
theorem ai0:MG Tryz.prog 95:=λu w=>by unfold Instr.makeInterface;simp[aP]
def pnV (e:Int):Value:=.iface 95 (.int .i64 e)
theorem pF (e:Int):FnOK Tryz.prog G 85 [bo true,i64 e] (.tup []):=by refine bD (rs:=[]) false [] mixed Tryz.func85 rfl rfl rfl rfl (by kernel_rfl) (by simp) rfl rfl ?_;simp only[pkA,seval];exact dD
def xq:=jj @pkX @pkA
theorem j5 (e:Int):FnX Tryz.prog G 85 [bo false,i64 e] [] (pnV e) []:=by refine Tg (k:=0) [3000000,2900001] mixed Tryz.func85 rfl rfl rfl (by kernel_rfl) (by simp) rfl rfl rfl (by simp) ?_;simp only[xq,bV,seval,ao];refine Yf ai0 rfl ?_;exact di (by simp) rfl (by simp) trivial
set_option maxRecDepth 100000
theorem Vo:Tryz.prog.cellsOf 29=5:=by kernel_rfl
def adJ (c:Cl):Prop:=I64 c.kind/\I64 c.a/\I64 c.b/\I64 c.m/\I64 c.t
theorem aaz {xs:List C} (h:yD Tryz.prog 29 xs):∃ c:Cl,xs=clC c/\adJ c:=by
 obtain⟨hl,hf⟩:=pC Tryz.underlying29 h;rw[Vo] at hl
 match xs,hl with
 |[x0,x1,x2,x3,x4],_=>have h0:=hf _ (by simp;exact .inl rfl);have h1:=hf _ (by simp;exact .inr (.inl rfl));have h2:=hf _ (by simp;exact .inr (.inr (.inl rfl)));have h3:=hf _ (by simp;exact .inr (.inr (.inr (.inl rfl))));have h4:=hf _ (by simp;exact .inr (.inr (.inr (.inr rfl))));simp only[Kp.uK,eZ,iW,fK,ly] at h0 h1 h2 h3 h4;obtain⟨a0,e0,k0⟩:=Kp.lg h0;obtain⟨a1,e1,k1⟩:=Kp.lg h1;obtain⟨a2,e2,k2⟩:=Kp.lg h2;obtain⟨a3,e3,k3⟩:=Kp.lg h3;obtain⟨a4,e4,k4⟩:=Kp.lg h4;cases e0;cases e1;cases e2;cases e3;cases e4;exact⟨⟨a0,a1,a2,a3,a4⟩,rfl,k0,k1,k2,k3,k4⟩
theorem adK:dn Tryz.prog 29=true:=by kernel_rfl
theorem adL {x:V} (h:∃ n cs,Shp Tryz.prog n 29 cs/\x=sQ Tryz.prog 29 cs):∃ c:Cl,x=.agg (clC c)/\adJ c:=by obtain⟨n,cs,h,rfl⟩:=h;obtain⟨p,rfl,hp⟩:=aaz ⟨n,h⟩;exact⟨p,by unfold sQ;rw[adK,if_pos rfl],hp⟩
theorem Zq:dn Tryz.prog 27=false:=by kernel_rfl
theorem Zr {x:V} (h:∃ n cs,Shp Tryz.prog n 27 cs/\x=sQ Tryz.prog 27 cs):∃ l:List Cl,x=.c (.sl (l.map clC))/\l.length<=maxLen/\∀ c∈l,adJ c:=by obtain⟨n,cs,h,rfl⟩:=h;obtain⟨es,e,hl,hk⟩:=uH Tryz.underlying27 ⟨n,h⟩;obtain⟨l,rfl,hq⟩:=wY λx hx=>aaz (hk x hx);cases e;exact⟨l,by unfold sQ;rw[Zq,if_neg (by decide)];rfl,by simpa using hl,hq⟩
theorem Gh:dn Tryz.prog 3=false:=by kernel_rfl
theorem Nn {x:V} (h:∃ n cs,Shp Tryz.prog n 3 cs/\x=sQ Tryz.prog 3 cs):∃ k:Int,x=i64 k/\I64 k:=by obtain⟨n,cs,h,rfl⟩:=h;obtain⟨k,rfl,hk⟩:=Kp.lg ⟨n,h⟩;exact⟨k,by unfold sQ;rw[Gh,if_neg (by decide)];rfl,hk⟩
def oP {α:Type}:Except Int α->Option Value
 | .ok _=>none
 | .error e=>some (pnV e)
theorem Np {P:Program} {G:Gl} {KP:Value->S->Prop} {s:S} {o:Oper} {f:Operand} {args:Array Operand} {ts:Array TypeId} {g:FuncId} {all:List V} {pv:Value}
 (ho:o.op=.call { callee:=.value f,args:=args,argTypes:=ts })
 (hc:eB (ev G s f) (args.toList.map (ev G s))=some (g,all)) (hf:FnX P G g all [] pv []) (dC:all.map V.fz=all.map (V.ren (rho [] s.nb))) (hK:KP pv s):sC P G s o KP:=by
 unfold sC;simp only[ho,hc];exact⟨[],all,[],pv,[],hf,dC,⟨rfl,by simp⟩,trivial,hK⟩
theorem uX {P:Program} {G:Gl} {KP:Value->S->Prop} {s:S} {o:Oper} {r:List Oper} {f:Operand} {args:Array Operand} {ts:Array TypeId} {g:FuncId} {all:List V} {pv:Value}
 (ho:o.op=.call { callee:=.value f,args:=args,argTypes:=ts })
 (hc:eB (ev G s f) (args.toList.map (ev G s))=some (g,all)) (hf:FnX P G g all [] pv []) (dC:all.map V.fz=all.map (V.ren (rho [] s.nb))) (hK:KP pv s):wO P G s o r KP:=by
 unfold wO;simp only[ho,hc];exact⟨[],all,[],pv,[],hf,dC,⟨rfl,by simp⟩,trivial,hK⟩
def vn:=jj @pkX (jj @pkA (jj @ptA @pkM))
def Vp:=jj @pkA (jj @ptA @pkM)
theorem uL (p:Pol) (s:Sy) (c:Cl) (hp:p.types.length<=9223372036854775807):FnO Tryz.prog G 109 [.bp 0 0] [mB p s c] (oP (m5 p c.t)) (.tup []) [mB p s c]:=by
 refine jm (rs:=[]) (k:=1) [3000001,2900000] mixed Tryz.func109 rfl rfl rfl rfl (by kernel_rfl) (by simp) rfl rfl rfl (fL rfl) (ai _) ?_;simp only[vn,seval,ao,ah];have hb:BL 0 [mB p s c] (bxs [mB p s c]):=⟨rfl,trivial⟩;by_cases h0:0<=c.t
 .by_cases h1:c.t<p.types.length
  .left
   simp only[Vp,seval,h0,h1,ah,aj];refine ax rfl (pF 1) (λ_=>rfl) ?_;have e:m5 p c.t=.ok ():=(by simp[m5,fw,inI,h0,h1]);rw[e];simp only[pkA,oP,oQ];exact eO [] rfl rfl (ai _) (ai _) trivial hb dD
  .right
   have e:m5 p c.t=.error 1:=(by simp[m5,fw,inI,h1]);rw[e];refine gx (l:=[_,_,_,_,_,_,_,_,_,_,_,_,_,_,_,_,_,_,_,_]) rfl (by kernel_rfl) ?_;simp only[Vp,seval,h0,h1,ah,aO,aj];exact Np rfl rfl (j5 1) rfl (di (ai _) rfl (ai _) hb)
 .right
  have e:m5 p c.t=.error 1:=by simp[m5,fw,inI,h0]
  rw[e];refine gx (l:=[_,_,_,_,_,_,_,_,_,_,_,_,_,_,_,_,_,_,_,_]) rfl (by kernel_rfl) ?_;simp only[Vp,seval,h0,ah,aO];exact Np rfl rfl (j5 1) rfl (di (ai _) rfl (ai _) hb)
def rO {α:Type} (g:α->V):Except Int α->V
 | .ok x=>g x
 | .error _=>.tup []
def rO2 {α:Type} (g:α->List V):Except Int α->List V
 | .ok x=>g x
 | .error _=>[]
def aaA:=jj @pkX (jj @pkA @ptA)
theorem D5 (p:Pol) (s:Sy) (c:Cl) (k:Int) (hp:s.hs.length<=9223372036854775807):FnO Tryz.prog G 116 [.bp 0 0,i64 k] [mB p s c] (oP (ofI s.hs k)) (rO (λx=>.agg (hdC x)) (ofI s.hs k)) [mB p s c]:=by
 refine FC (rs:=[.cell 4 49]) (k:=1) [rO2 (λx=>(hdC x).map .c) (ofI s.hs k)] [3000001,2900001] mixed Tryz.func116 rfl rfl rfl rfl (by kernel_rfl) (by simp) (by cases ofI s.hs k<;>rfl) rfl rfl (fL rfl) (ai _) (by simp[yN]) (by cases ofI s.hs k<;>rfl) ?_;simp only[aaA,bV,seval,ao];have hb:BL 0 [mB p s c] (bxs [mB p s c]):=⟨rfl,trivial⟩;by_cases h0:0<=k
 .by_cases h1:k<s.hs.length
  .obtain⟨i,rfl⟩:∃ i:Nat,k=i:=⟨k.toNat,by omega⟩
   have h2:i<s.hs.length:=(by omega);have e:ofI s.hs (i:Int)=.ok s.hs[i]:=(by simp[ofI,Au h2]);simp only[vn,bV,seval,ao,ah,h0,h1,ah,hsC,aj];left;refine ax rfl (pF 1) (λ_=>rfl) ?_;simp only[vn,seval,ao,ah,e,oP,rO,hsC,ah];have ia:∀ K,K (.c (.rp (hdC s.hs[i]) 0))->bK Tryz.prog 32 (.c (.sl (s.hs.map hdC))) (i64 (i:Int)) K:=λK hK=>
    cR ko rfl iT (by decide) (aC i) (c:=hdC s.hs[i]) (by simp[h2]) (ek _) hK
   refine ia _ ?_;simp only[vn,seval,ao,ah];simp only[oQ,rO2];refine eO [(4,.bp 1 0)] rfl (by simp only[eu,aK,aQ,yN,fa,cK,aI,aL];rfl) (by simp) (ai _) ⟨rfl,trivial⟩ ⟨rfl,?_,trivial⟩ ?_
   .rfl
   .rw[o8]
    refine (mT iT rfl rfl (b:=1) (o:=0)).mpr ⟨rfl,?_⟩;unfold ldA;exact⟨bH 1,⟨rfl,rfl⟩,rfl⟩
  .have e:ofI s.hs k=.error 1:=by simp[ofI,pa.2 (by omega:¬ (0<=k/\k<s.hs.length))]
   simp only[vn,bV,seval,ao,ah,h0,h1,ah,aO,hsC,aj,e];exact .inr (uX rfl rfl (j5 1) rfl (di (ai _) rfl (by simp) ⟨rfl,trivial⟩))
 .have e:ofI s.hs k=.error 1:=by simp[ofI,pa.2 (by omega:¬ (0<=k/\k<s.hs.length))]
  simp only[xq,bV,seval,h0,aO,e];exact .inr (uX rfl rfl (j5 1) rfl (di (ai _) rfl (by simp) ⟨rfl,trivial⟩))
def aaB:=jj @pkX (jj @pkA (jj @ptA @pkT))
theorem Nq (p:Pol) (s:Sy) (c:Cl) (k:Int) (hp:s.its.length<=9223372036854775807):FnO Tryz.prog G 114 [.bp 0 0,i64 k] [mB p s c] (oP (ofI s.its k)) (rO (λx=>.agg (tmC x)) (ofI s.its k)) [mB p s c]:=by
 refine FC (rs:=[.cell 4 47]) (k:=1) [rO2 (λx=>(tmC x).map .c) (ofI s.its k)] [3000001,2900001] mixed Tryz.func114 rfl rfl rfl rfl (by kernel_rfl) (by simp) (by cases ofI s.its k<;>rfl) rfl rfl (fL rfl) (ai _) (by simp[yN]) (by cases ofI s.its k<;>rfl) ?_;simp only[aaA,bV,seval,ao];have hb:BL 0 [mB p s c] (bxs [mB p s c]):=⟨rfl,trivial⟩;by_cases h0:0<=k
 .by_cases h1:k<s.its.length
  .obtain⟨i,rfl⟩:∃ i:Nat,k=i:=⟨k.toNat,by omega⟩
   have h2:i<s.its.length:=(by omega);have e:ofI s.its (i:Int)=.ok s.its[i]:=(by simp[ofI,Au h2]);simp only[vn,bV,seval,ao,ah,h0,h1,ah,tsC,aj];left;refine ax rfl (pF 1) (λ_=>rfl) ?_;simp only[vn,seval,ao,ah,e,oP,rO,tsC,ah];have ia:∀ K,K (.c (.rp (tmC s.its[i]) 0))->bK Tryz.prog 33 (.c (.sl (s.its.map tmC))) (i64 (i:Int)) K:=λK hK=>
    cR dc rfl cV (by decide) (aC i) (c:=tmC s.its[i]) (by simp[h2]) (bG _) hK
   refine ia _ ?_;simp only[aaB,seval,ao,ah];simp only[oQ,rO2];refine eO [(4,.bp 1 0)] rfl (by simp only[eu,aK,aQ,yN,fa,cK,aI,aL];rfl) (by simp) (ai _) ⟨rfl,trivial⟩ ⟨rfl,?_,trivial⟩ ?_
   .rfl
   .rw[o8,fx]
    refine (mT cV rfl rfl (b:=1) (o:=0)).mpr ⟨rfl,?_⟩;unfold ldA;exact⟨bH 1,⟨rfl,rfl⟩,rfl⟩
  .have e:ofI s.its k=.error 1:=by simp[ofI,pa.2 (by omega:¬ (0<=k/\k<s.its.length))]
   simp only[vn,bV,seval,ao,ah,h0,h1,ah,aO,tsC,aj,e];exact .inr (uX rfl rfl (j5 1) rfl (di (ai _) rfl (by simp) ⟨rfl,trivial⟩))
 .have e:ofI s.its k=.error 1:=by simp[ofI,pa.2 (by omega:¬ (0<=k/\k<s.its.length))]
  simp only[xq,bV,seval,h0,aO,e];exact .inr (uX rfl rfl (j5 1) rfl (di (ai _) rfl (by simp) ⟨rfl,trivial⟩))
theorem Qf (a b:Int):FnOK Tryz.prog G 160 [i64 a,i64 b] (bo (LC a b)):=by refine bD (rs:=[.tmp 4]) false [] mixed Tryz.func160 rfl rfl rfl rfl (by kernel_rfl) (by simp) rfl rfl ?_;have hN:∀ K,rq .andNot .i64 a b K=K (i64 (bits .andNot .i64 a b)):=λ_=>rfl;simp only[pkA,seval,hN];rfl
def I6:=jj @pkA (jj @ptA @Kp.pkP)
theorem Qg (p:Pol) (t:Int):FnOK Tryz.prog G 159 [.agg (poC p),i64 t] (bo (decide (0<=t)&&decide (t<p.types.length))):=by
 refine bD (rs:=[.tmp 4]) false [] mixed Tryz.func159 rfl rfl rfl rfl (by kernel_rfl) (by simp) rfl rfl ?_
 repeat' first
  |(simp only[I6,seval])
  |refine fQ (λh=>?_) (λh=>?_)
 all_goals (simp_all<;>omega)
theorem adM (p:Pol) (t flags:Int) (hm:p.types.length<=9223372036854775807):FnOK Tryz.prog G 140 [.agg (poC p),i64 t,i64 flags] (bo (jO p t flags)):=by
 refine bD (rs:=[.tmp 6]) false [] mixed Tryz.func140 rfl rfl rfl rfl (by kernel_rfl) (by simp) rfl rfl ?_;simp only[I6,seval];refine ax rfl (Qg p t) (λ_=>rfl) ?_;simp only[pkA,seval];refine fQ (λh=>?_) (λh=>?_)
 .simp only[aA,br] at h
  obtain⟨i,rfl⟩:∃ i:Nat,t=i:=⟨t.toNat,by omega⟩;have ht:i<p.types.length:=by omega
  simp only[I6,seval];refine cR sD rfl mz (by decide) (aC i) (c:=tyC p.types[i]) (by simp[ht]) rfl ?_;simp only[I6,seval];refine ax rfl (Qf _ _) (λ_=>rfl) ?_;simp only[pkA,seval];unfold jO;rw[Au ht]
 .have:eD p.types t=none:=pa.2 (by simpa using h)
  simp only[pkA,seval];unfold jO;rw[this]
theorem adN (p:Pol) (k a b:Int) (hm:p.rules.length<=9223372036854775807):FnOK Tryz.prog G 143 [.agg (poC p),i64 k,i64 a,i64 b] (bo (li p k a b)):=by refine bD (rs:=[.tmp 8]) false [] mixed Tryz.func143 rfl rfl rfl rfl (by kernel_rfl) (by simp) rfl rfl ?_;simp only[I6,seval];refine ax rfl (Kp.zu p.rules hm ⟨k,a,b⟩) (λ_=>rfl) ?_;simp only[pkA,seval];simp[li,List.any_eq,eq_comm]
theorem Vq (p:Pol) (s:Sy) (c:Cl) (t fl:Int) (hp:p.types.length<=9223372036854775807):FnO Tryz.prog G 110 [.bp 0 0,i64 t,i64 fl] [mB p s c] (oP (fw (jO p t fl) 10)) (.tup []) [mB p s c]:=by
 refine jm (rs:=[]) (k:=1) [3000001,2900000] mixed Tryz.func110 rfl rfl rfl rfl (by kernel_rfl) (by simp) rfl rfl rfl (fL rfl) (ai _) ?_;simp only[vn,bV,seval,ao,ah];refine .inl (ax rfl (adM p t fl hp) (λ_=>rfl) ?_);simp only[xq,bV,seval];cases jO p t fl with
 |true=>refine .inl (ax rfl (pF 10) (λ_=>rfl) ?_);simp only[xq,seval,oP,oQ,fw];exact eO [] rfl rfl (ai _) (ai _) trivial ⟨rfl,trivial⟩ dD
 |false=>exact .inr (uX rfl rfl (j5 10) rfl (di (ai _) rfl (by simp) (by simp[BL,bxs])))
theorem Vr (p:Pol) (s:Sy) (c:Cl) (k a b:Int) (hp:p.rules.length<=9223372036854775807):FnO Tryz.prog G 119 [.bp 0 0,i64 k,i64 a,i64 b] [mB p s c] (oP (fw (li p k a b) 10)) (.tup []) [mB p s c]:=by
 refine jm (rs:=[]) (k:=1) [3000001,2900000] mixed Tryz.func119 rfl rfl rfl rfl (by kernel_rfl) (by simp) rfl rfl rfl (fL rfl) (ai _) ?_;simp only[vn,bV,seval,ao,ah];refine .inl (ax rfl (adN p k a b hp) (λ_=>rfl) ?_);simp only[xq,bV,seval];cases li p k a b with
 |true=>refine .inl (ax rfl (pF 10) (λ_=>rfl) ?_);simp only[xq,seval,oP,oQ,fw];exact eO [] rfl rfl (ai _) (ai _) trivial ⟨rfl,trivial⟩ dD
 |false=>exact .inr (uX rfl rfl (j5 10) rfl (di (ai _) rfl (by simp) (by simp[BL,bxs])))
theorem I7 (t:Tm):FnO Tryz.prog G 115 [.agg (tmC t)] [] (oP (fw (dF t) 1)) (.tup []) []:=by
 refine jm (rs:=[]) (k:=0) [3000000,2900001] mixed Tryz.func115 rfl rfl rfl rfl (by kernel_rfl) (by simp) rfl rfl rfl rfl (ai _) ?_;simp only[aaB,bV,seval,ao,ah];refine .inl (ax rfl (xd t) (λ_=>rfl) ?_);simp only[xq,bV,seval];cases dF t with
 |true=>refine .inl (ax rfl (pF 1) (λ_=>rfl) ?_);simp only[xq,seval,oP,oQ,fw];exact eO [] rfl rfl (ai _) (by simp) trivial trivial dD
 |false=>exact .inr (uX rfl rfl (j5 1) rfl (di (ai _) rfl (by simp) (by simp[BL])))
theorem uM (t u:Tm) (ht:bi t<=1000000000) (hu:bi u<=1000000000):FnOK Tryz.prog G 44 [.agg (tmC t),.agg (tmC u)] (bo (decide (t=u))):=by refine bD (rs:=[.tmp 4]) false [] mixed Tryz.func44 rfl rfl rfl rfl (by kernel_rfl) (by simp) rfl rfl ?_;simp only[pkA,ptA,pkT,seval];refine ax rfl (vU t u ht hu) (λ_=>rfl) ?_;simp only[pkA,seval];simp[iF]
theorem of_ok (k n:Int) (l:List Tm):FnOK Tryz.prog G 111 [i64 k,i64 n,.c (tsC l)] (.agg (tmC (.mk k n l))):=by refine bD (rs:=[.cell 6 47]) false [] mixed Tryz.func111 rfl rfl rfl rfl (by kernel_rfl) (by simp) rfl rfl ?_;simp only[pkA,ptA,seval];rw[fx];unfold ldA;exact⟨rfl,by decide,⟨rfl,rfl⟩,rfl⟩
