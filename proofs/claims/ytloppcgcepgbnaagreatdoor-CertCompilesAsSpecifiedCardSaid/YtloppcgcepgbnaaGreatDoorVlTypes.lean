/- The types of the translation, as the framework sees them: closed facts, by the kernel. Printed by vltypes.py. -/
import Derived.Test.YtloppcgcepgbnaaGreatDoorVlPack
import Derived.Test.YtloppcgcepgbnaaGreatDoorChecked
import Derived.KernelRfl
set_option linter.all false
namespace Go.Proofs.YtloppcgcepgbnaaGreatDoor
open Go Go.Vl
variable {G:Gl} {tr:List Nat} {ty:TypeId} {d:Nat} {dO:Option Tmp} {pos:String} {af:Array Edge} {g:Option (Nat×Bool)} {fr:Nat->V} {bx:Nat->List V} {nb:Nat} {H:S->Prop} {s:S} {cs:List C} {o:Nat} {b:Nat} {l c z:Nat} {K:V->Prop} {t q:Option Tmp} {v:V} {x:V} {E:Option (TypeId×Nat)} {es ys:List (List C)} {y:ByteArray} {len:Nat} {parts:List (Nat×V)}
theorem nH:ti Tryz.prog 3=some { kd:=.int .i64,size:=1,bytes:=8,agg:=false,zero:=some [.lit (.int .i64 0)],flds:=[],eqs:=some [.int] }:=by kernel_rfl
theorem amn:VStep Tryz.prog G tr ⟨some d,.alloc 3,ty,pos,af,g⟩ ⟨fr,bx,nb⟩ H=H ⟨up fr d (.bp nb 0),up bx nb [.c (.lit (.int .i64 0))],nb+1⟩:=lN nH rfl
theorem apj:cO Tryz.prog 3 s (.c (.rp cs o)) K=cQ false 1 o cs K:=iC nH rfl rfl
theorem amo:cO Tryz.prog 3 ⟨fr,bx,nb⟩ (.bp b o) K=(ck (bx b)=false/\ldB nb b (bx b) o K):=jy nH rfl
theorem amq:oH (ti Tryz.prog 3) t q (.bp b o) v ⟨fr,bx,nb⟩ H=(ck (bx b)=false/\stS 1 t q b o v ⟨fr,bx,nb⟩ H):=by rw[nH];exact kj rfl
theorem EA:ti Tryz.prog 4=some { kd:=.bool,size:=1,bytes:=1,agg:=false,zero:=some [.lit (.bool false)],flds:=[],eqs:=some [.bool] }:=by kernel_rfl
theorem amr:VStep Tryz.prog G tr ⟨some d,.alloc 4,ty,pos,af,g⟩ ⟨fr,bx,nb⟩ H=H ⟨up fr d (.bp nb 0),up bx nb [.c (.lit (.bool false))],nb+1⟩:=lN EA rfl
theorem apk:cO Tryz.prog 4 s (.c (.rp cs o)) K=cQ false 1 o cs K:=iC EA rfl rfl
theorem ams:cO Tryz.prog 4 ⟨fr,bx,nb⟩ (.bp b o) K=(ck (bx b)=false/\ldB nb b (bx b) o K):=jy EA rfl
theorem amt:oH (ti Tryz.prog 4) t q (.bp b o) v ⟨fr,bx,nb⟩ H=(ck (bx b)=false/\stS 1 t q b o v ⟨fr,bx,nb⟩ H):=by rw[EA];exact kj rfl
theorem ry:ti Tryz.prog 5=some { kd:=.int .u8,size:=1,bytes:=1,agg:=false,zero:=some [.lit (.int .u8 0)],flds:=[],eqs:=some [.int] }:=by kernel_rfl
theorem apl:cO Tryz.prog 5 s (.c (.rp cs o)) K=cQ false 1 o cs K:=iC ry rfl rfl
theorem amu:cO Tryz.prog 5 ⟨fr,bx,nb⟩ (.bp b o) K=(ck (bx b)=false/\ldB nb b (bx b) o K):=jy ry rfl
theorem X2:ti Tryz.prog 9=some { kd:=.str,size:=1,bytes:=16,agg:=false,zero:=some [.lit (.string (ByteArray.mk #[]))],flds:=[],eqs:=some [.str] }:=by kernel_rfl
theorem amv:fq Tryz.prog 9 (.c (.lit (.string y))) K=K (.c (.lit (.int .i64 y.size))):=Xb X2 rfl
theorem apm:cO Tryz.prog 9 s (.c (.rp cs o)) K=cQ false 1 o cs K:=iC X2 rfl rfl
theorem amw:cO Tryz.prog 9 ⟨fr,bx,nb⟩ (.bp b o) K=(ck (bx b)=false/\ldB nb b (bx b) o K):=jy X2 rfl
theorem pf:ti Tryz.prog 22=some { kd:=.slice 57,size:=1,bytes:=24,agg:=false,zero:=some [.sl []],flds:=[],eqs:=none }:=by kernel_rfl
theorem ahZ:fq Tryz.prog 22 (.c (.sl es)) K=K (.c (.lit (.int .i64 es.length))):=fD pf rfl
theorem adj:fq Tryz.prog 22 (.ow E es) K=K (.c (.lit (.int .i64 es.length))):=nq pf rfl
theorem adk:fq Tryz.prog 22 (.ms b o l c z) K=K (.c (.lit (.int .i64 l))):=nr pf rfl
theorem amx:cO Tryz.prog 22 s (.c (.rp cs o)) K=cQ false 1 o cs K:=iC pf rfl rfl
theorem ah0:cO Tryz.prog 22 ⟨fr,bx,nb⟩ (.bp b o) K=(ck (bx b)=false/\ldB nb b (bx b) o K):=jy pf rfl
theorem ah1:nQ Tryz.prog 22 ⟨fr,bx,nb⟩ (.bp b o) K=(ck (bx b)=false/\ldZ nb b (bx b) o K):=wO pf rfl
theorem kV:ti Tryz.prog 23=some { kd:=.slice 120,size:=1,bytes:=24,agg:=false,zero:=some [.sl []],flds:=[],eqs:=none }:=by kernel_rfl
theorem X3:fq Tryz.prog 23 (.c (.sl es)) K=K (.c (.lit (.int .i64 es.length))):=fD kV rfl
theorem adl:fq Tryz.prog 23 (.ow E es) K=K (.c (.lit (.int .i64 es.length))):=nq kV rfl
theorem adm:fq Tryz.prog 23 (.ms b o l c z) K=K (.c (.lit (.int .i64 l))):=nr kV rfl
theorem amy:cO Tryz.prog 23 s (.c (.rp cs o)) K=cQ false 1 o cs K:=iC kV rfl rfl
theorem ah2:cO Tryz.prog 23 ⟨fr,bx,nb⟩ (.bp b o) K=(ck (bx b)=false/\ldB nb b (bx b) o K):=jy kV rfl
theorem ah3:nQ Tryz.prog 23 ⟨fr,bx,nb⟩ (.bp b o) K=(ck (bx b)=false/\ldZ nb b (bx b) o K):=wO kV rfl
theorem uA:ti Tryz.prog 24=some { kd:=.slice 122,size:=1,bytes:=24,agg:=false,zero:=some [.sl []],flds:=[],eqs:=none }:=by kernel_rfl
theorem ah4:fq Tryz.prog 24 (.c (.sl es)) K=K (.c (.lit (.int .i64 es.length))):=fD uA rfl
theorem adn:fq Tryz.prog 24 (.ow E es) K=K (.c (.lit (.int .i64 es.length))):=nq uA rfl
theorem ado:fq Tryz.prog 24 (.ms b o l c z) K=K (.c (.lit (.int .i64 l))):=nr uA rfl
theorem amz:cO Tryz.prog 24 s (.c (.rp cs o)) K=cQ false 1 o cs K:=iC uA rfl rfl
theorem ah5:cO Tryz.prog 24 ⟨fr,bx,nb⟩ (.bp b o) K=(ck (bx b)=false/\ldB nb b (bx b) o K):=jy uA rfl
theorem ah6:nQ Tryz.prog 24 ⟨fr,bx,nb⟩ (.bp b o) K=(ck (bx b)=false/\ldZ nb b (bx b) o K):=wO uA rfl
theorem qR:ti Tryz.prog 26=some { kd:=.struct,size:=4,bytes:=88,agg:=true,zero:=some [.lit (.string (ByteArray.mk #[])),.sl [],.sl [],.sl []],flds:=[(0,1,false),(1,1,false),(2,1,false),(3,1,false)],eqs:=none }:=by kernel_rfl
theorem ah7:VStep Tryz.prog G tr ⟨some d,.alloc 26,ty,pos,af,g⟩ ⟨fr,bx,nb⟩ H=H ⟨up fr d (.bp nb 0),up bx nb [.c (.lit (.string (ByteArray.mk #[]))),.ow none [],.ow none [],.ow none []],nb+1⟩:=lN qR rfl
theorem amA (h:cs.length=4):cO Tryz.prog 26 s (.c (.rp cs 0)) K=K (.agg cs):=sL qR rfl h
theorem ah8:cO Tryz.prog 26 ⟨fr,bx,nb⟩ (.bp b o) K=(ck (bx b)=false/\ldA nb b (bx b) o 4 K):=rn qR rfl rfl
theorem ah9:jR Tryz.prog 26 parts K=qQ K (iR [(0,1,false),(1,1,false),(2,1,false),(3,1,false)] parts [.c (.lit (.string (ByteArray.mk #[]))),.ow none [],.ow none [],.ow none []]):=nu qR rfl rfl rfl
theorem aia:iH Tryz.prog 26 parts K=sN [(0,1,false),(1,1,false),(2,1,false),(3,1,false)] [.lit (.string (ByteArray.mk #[])),.sl [],.sl [],.sl []] parts K (ka [(0,1,false),(1,1,false),(2,1,false),(3,1,false)] parts [.lit (.string (ByteArray.mk #[])),.sl [],.sl [],.sl []]):=mJ qR rfl rfl rfl
theorem adp:aR Tryz.prog 26 (.c (.rp cs o)) 0 K=K (.c (.rp cs (o+0))):=fZ qR rfl (by decide)
theorem X4:aR Tryz.prog 26 (.bp b o) 0 K=K (.bp b (o+0)):=ga qR rfl (by decide)
theorem adq:aR Tryz.prog 26 (.c (.rp cs o)) 1 K=K (.c (.rp cs (o+1))):=fZ qR rfl (by decide)
theorem X5:aR Tryz.prog 26 (.bp b o) 1 K=K (.bp b (o+1)):=ga qR rfl (by decide)
theorem adr:aR Tryz.prog 26 (.c (.rp cs o)) 2 K=K (.c (.rp cs (o+2))):=fZ qR rfl (by decide)
theorem X6:aR Tryz.prog 26 (.bp b o) 2 K=K (.bp b (o+2)):=ga qR rfl (by decide)
theorem ads:aR Tryz.prog 26 (.c (.rp cs o)) 3 K=K (.c (.rp cs (o+3))):=fZ qR rfl (by decide)
theorem X7:aR Tryz.prog 26 (.bp b o) 3 K=K (.bp b (o+3)):=ga qR rfl (by decide)
theorem aib:oH (ti Tryz.prog 26) t q (.bp b o) v ⟨fr,bx,nb⟩ H=(ck (bx b)=false/\stS 4 t q b o v ⟨fr,bx,nb⟩ H):=by rw[qR];exact kj rfl
theorem lE:ti Tryz.prog 27=some { kd:=.slice 5,size:=1,bytes:=24,agg:=false,zero:=some [.sl []],flds:=[],eqs:=none }:=by kernel_rfl
theorem aic:fq Tryz.prog 27 (.c (.sl es)) K=K (.c (.lit (.int .i64 es.length))):=fD lE rfl
theorem adt:fq Tryz.prog 27 (.ow E es) K=K (.c (.lit (.int .i64 es.length))):=nq lE rfl
theorem adu:fq Tryz.prog 27 (.ms b o l c z) K=K (.c (.lit (.int .i64 l))):=nr lE rfl
theorem amB:cO Tryz.prog 27 s (.c (.rp cs o)) K=cQ false 1 o cs K:=iC lE rfl rfl
theorem aid:cO Tryz.prog 27 ⟨fr,bx,nb⟩ (.bp b o) K=(ck (bx b)=false/\ldB nb b (bx b) o K):=jy lE rfl
theorem aie:nQ Tryz.prog 27 ⟨fr,bx,nb⟩ (.bp b o) K=(ck (bx b)=false/\ldZ nb b (bx b) o K):=wO lE rfl
theorem aif:oH (ti Tryz.prog 27) t q (.bp b o) v ⟨fr,bx,nb⟩ H=(ck (bx b)=false/\stS 1 t q b o v ⟨fr,bx,nb⟩ H):=by rw[lE];exact kj rfl
theorem dY:ti Tryz.prog 28=some { kd:=.slice 54,size:=1,bytes:=24,agg:=false,zero:=some [.sl []],flds:=[],eqs:=none }:=by kernel_rfl
theorem HT:fq Tryz.prog 28 (.c (.sl es)) K=K (.c (.lit (.int .i64 es.length))):=fD dY rfl
theorem adv:fq Tryz.prog 28 (.ow E es) K=K (.c (.lit (.int .i64 es.length))):=nq dY rfl
theorem adw:fq Tryz.prog 28 (.ms b o l c z) K=K (.c (.lit (.int .i64 l))):=nr dY rfl
theorem amC:cO Tryz.prog 28 s (.c (.rp cs o)) K=cQ false 1 o cs K:=iC dY rfl rfl
theorem aih:cO Tryz.prog 28 ⟨fr,bx,nb⟩ (.bp b o) K=(ck (bx b)=false/\ldB nb b (bx b) o K):=jy dY rfl
theorem aii:nQ Tryz.prog 28 ⟨fr,bx,nb⟩ (.bp b o) K=(ck (bx b)=false/\ldZ nb b (bx b) o K):=wO dY rfl
theorem aij:oH (ti Tryz.prog 28) t q (.bp b o) v ⟨fr,bx,nb⟩ H=(ck (bx b)=false/\stS 1 t q b o v ⟨fr,bx,nb⟩ H):=by rw[dY];exact kj rfl
theorem Qc:ti Tryz.prog 30=some { kd:=.other,size:=1,bytes:=8,agg:=false,zero:=some [.lit .nilFunc],flds:=[],eqs:=none }:=by kernel_rfl
theorem amD:cO Tryz.prog 30 s (.c (.rp cs o)) K=cQ false 1 o cs K:=iC Qc rfl rfl
theorem aik:cO Tryz.prog 30 ⟨fr,bx,nb⟩ (.bp b o) K=(ck (bx b)=false/\ldB nb b (bx b) o K):=jy Qc rfl
theorem Qd:ti Tryz.prog 31=some { kd:=.int .i64,size:=1,bytes:=8,agg:=false,zero:=some [.lit (.int .i64 0)],flds:=[],eqs:=some [.int] }:=by kernel_rfl
theorem ail:VStep Tryz.prog G tr ⟨some d,.alloc 31,ty,pos,af,g⟩ ⟨fr,bx,nb⟩ H=H ⟨up fr d (.bp nb 0),up bx nb [.c (.lit (.int .i64 0))],nb+1⟩:=lN Qd rfl
theorem amE:cO Tryz.prog 31 s (.c (.rp cs o)) K=cQ false 1 o cs K:=iC Qd rfl rfl
theorem aim:cO Tryz.prog 31 ⟨fr,bx,nb⟩ (.bp b o) K=(ck (bx b)=false/\ldB nb b (bx b) o K):=jy Qd rfl
theorem ain:oH (ti Tryz.prog 31) t q (.bp b o) v ⟨fr,bx,nb⟩ H=(ck (bx b)=false/\stS 1 t q b o v ⟨fr,bx,nb⟩ H):=by rw[Qd];exact kj rfl
theorem lF:ti Tryz.prog 35=some { kd:=.struct,size:=3,bytes:=56,agg:=true,zero:=some [.lit (.int .i64 0),.sl [],.sl []],flds:=[(0,1,false),(1,1,false),(2,1,false)],eqs:=none }:=by kernel_rfl
theorem aio:VStep Tryz.prog G tr ⟨some d,.alloc 35,ty,pos,af,g⟩ ⟨fr,bx,nb⟩ H=H ⟨up fr d (.bp nb 0),up bx nb [.c (.lit (.int .i64 0)),.ow none [],.ow none []],nb+1⟩:=lN lF rfl
theorem amF (h:cs.length=3):cO Tryz.prog 35 s (.c (.rp cs 0)) K=K (.agg cs):=sL lF rfl h
theorem aip:cO Tryz.prog 35 ⟨fr,bx,nb⟩ (.bp b o) K=(ck (bx b)=false/\ldA nb b (bx b) o 3 K):=rn lF rfl rfl
theorem aiq:jR Tryz.prog 35 parts K=qQ K (iR [(0,1,false),(1,1,false),(2,1,false)] parts [.c (.lit (.int .i64 0)),.ow none [],.ow none []]):=nu lF rfl rfl rfl
theorem air:iH Tryz.prog 35 parts K=sN [(0,1,false),(1,1,false),(2,1,false)] [.lit (.int .i64 0),.sl [],.sl []] parts K (ka [(0,1,false),(1,1,false),(2,1,false)] parts [.lit (.int .i64 0),.sl [],.sl []]):=mJ lF rfl rfl rfl
theorem adx:aR Tryz.prog 35 (.c (.rp cs o)) 0 K=K (.c (.rp cs (o+0))):=fZ lF rfl (by decide)
theorem X8:aR Tryz.prog 35 (.bp b o) 0 K=K (.bp b (o+0)):=ga lF rfl (by decide)
theorem ady:aR Tryz.prog 35 (.c (.rp cs o)) 1 K=K (.c (.rp cs (o+1))):=fZ lF rfl (by decide)
theorem X9:aR Tryz.prog 35 (.bp b o) 1 K=K (.bp b (o+1)):=ga lF rfl (by decide)
theorem adz:aR Tryz.prog 35 (.c (.rp cs o)) 2 K=K (.c (.rp cs (o+2))):=fZ lF rfl (by decide)
theorem Ya:aR Tryz.prog 35 (.bp b o) 2 K=K (.bp b (o+2)):=ga lF rfl (by decide)
theorem ais:oH (ti Tryz.prog 35) t q (.bp b o) v ⟨fr,bx,nb⟩ H=(ck (bx b)=false/\stS 3 t q b o v ⟨fr,bx,nb⟩ H):=by rw[lF];exact kj rfl
theorem tI:ti Tryz.prog 47=some { kd:=.struct,size:=3,bytes:=56,agg:=true,zero:=some [.sl [],.sl [],.lit (.int .i64 0)],flds:=[(0,1,false),(1,1,false),(2,1,false)],eqs:=none }:=by kernel_rfl
theorem ait:VStep Tryz.prog G tr ⟨some d,.alloc 47,ty,pos,af,g⟩ ⟨fr,bx,nb⟩ H=H ⟨up fr d (.bp nb 0),up bx nb [.ow none [],.ow none [],.c (.lit (.int .i64 0))],nb+1⟩:=lN tI rfl
theorem amG (h:cs.length=3):cO Tryz.prog 47 s (.c (.rp cs 0)) K=K (.agg cs):=sL tI rfl h
theorem aiu:cO Tryz.prog 47 ⟨fr,bx,nb⟩ (.bp b o) K=(ck (bx b)=false/\ldA nb b (bx b) o 3 K):=rn tI rfl rfl
theorem aiv:jR Tryz.prog 47 parts K=qQ K (iR [(0,1,false),(1,1,false),(2,1,false)] parts [.ow none [],.ow none [],.c (.lit (.int .i64 0))]):=nu tI rfl rfl rfl
theorem aiw:iH Tryz.prog 47 parts K=sN [(0,1,false),(1,1,false),(2,1,false)] [.sl [],.sl [],.lit (.int .i64 0)] parts K (ka [(0,1,false),(1,1,false),(2,1,false)] parts [.sl [],.sl [],.lit (.int .i64 0)]):=mJ tI rfl rfl rfl
theorem adA:aR Tryz.prog 47 (.c (.rp cs o)) 0 K=K (.c (.rp cs (o+0))):=fZ tI rfl (by decide)
theorem Yb:aR Tryz.prog 47 (.bp b o) 0 K=K (.bp b (o+0)):=ga tI rfl (by decide)
theorem adB:aR Tryz.prog 47 (.c (.rp cs o)) 1 K=K (.c (.rp cs (o+1))):=fZ tI rfl (by decide)
theorem Yd:aR Tryz.prog 47 (.bp b o) 1 K=K (.bp b (o+1)):=ga tI rfl (by decide)
theorem adC:aR Tryz.prog 47 (.c (.rp cs o)) 2 K=K (.c (.rp cs (o+2))):=fZ tI rfl (by decide)
theorem Ye:aR Tryz.prog 47 (.bp b o) 2 K=K (.bp b (o+2)):=ga tI rfl (by decide)
theorem aix:oH (ti Tryz.prog 47) t q (.bp b o) v ⟨fr,bx,nb⟩ H=(ck (bx b)=false/\stS 3 t q b o v ⟨fr,bx,nb⟩ H):=by rw[tI];exact kj rfl
theorem eK:ti Tryz.prog 54=some { kd:=.struct,size:=3,bytes:=24,agg:=true,zero:=some [.lit (.int .i64 0),.lit (.int .i64 0),.lit (.int .i64 0)],flds:=[(0,1,false),(1,1,false),(2,1,false)],eqs:=some [.int,.int,.int] }:=by kernel_rfl
theorem aiy:VStep Tryz.prog G tr ⟨some d,.alloc 54,ty,pos,af,g⟩ ⟨fr,bx,nb⟩ H=H ⟨up fr d (.bp nb 0),up bx nb [.c (.lit (.int .i64 0)),.c (.lit (.int .i64 0)),.c (.lit (.int .i64 0))],nb+1⟩:=lN eK rfl
theorem amH (h:cs.length=3):cO Tryz.prog 54 s (.c (.rp cs 0)) K=K (.agg cs):=sL eK rfl h
theorem aiz:cO Tryz.prog 54 ⟨fr,bx,nb⟩ (.bp b o) K=(ck (bx b)=false/\ldA nb b (bx b) o 3 K):=rn eK rfl rfl
theorem aiA:jR Tryz.prog 54 parts K=qQ K (iR [(0,1,false),(1,1,false),(2,1,false)] parts [.c (.lit (.int .i64 0)),.c (.lit (.int .i64 0)),.c (.lit (.int .i64 0))]):=nu eK rfl rfl rfl
theorem aiB:iH Tryz.prog 54 parts K=sN [(0,1,false),(1,1,false),(2,1,false)] [.lit (.int .i64 0),.lit (.int .i64 0),.lit (.int .i64 0)] parts K (ka [(0,1,false),(1,1,false),(2,1,false)] parts [.lit (.int .i64 0),.lit (.int .i64 0),.lit (.int .i64 0)]):=mJ eK rfl rfl rfl
theorem adD:aR Tryz.prog 54 (.c (.rp cs o)) 0 K=K (.c (.rp cs (o+0))):=fZ eK rfl (by decide)
theorem Yf:aR Tryz.prog 54 (.bp b o) 0 K=K (.bp b (o+0)):=ga eK rfl (by decide)
theorem adE:aR Tryz.prog 54 (.c (.rp cs o)) 1 K=K (.c (.rp cs (o+1))):=fZ eK rfl (by decide)
theorem Yg:aR Tryz.prog 54 (.bp b o) 1 K=K (.bp b (o+1)):=ga eK rfl (by decide)
theorem adF:aR Tryz.prog 54 (.c (.rp cs o)) 2 K=K (.c (.rp cs (o+2))):=fZ eK rfl (by decide)
theorem Yh:aR Tryz.prog 54 (.bp b o) 2 K=K (.bp b (o+2)):=ga eK rfl (by decide)
theorem aiC:oH (ti Tryz.prog 54) t q (.bp b o) v ⟨fr,bx,nb⟩ H=(ck (bx b)=false/\stS 3 t q b o v ⟨fr,bx,nb⟩ H):=by rw[eK];exact kj rfl
theorem kC:ti Tryz.prog 57=some { kd:=.struct,size:=3,bytes:=32,agg:=true,zero:=some [.lit (.string (ByteArray.mk #[])),.lit (.int .i64 0),.lit (.int .i64 0)],flds:=[(0,1,false),(1,1,false),(2,1,false)],eqs:=some [.str,.int,.int] }:=by kernel_rfl
theorem aiD:VStep Tryz.prog G tr ⟨some d,.alloc 57,ty,pos,af,g⟩ ⟨fr,bx,nb⟩ H=H ⟨up fr d (.bp nb 0),up bx nb [.c (.lit (.string (ByteArray.mk #[]))),.c (.lit (.int .i64 0)),.c (.lit (.int .i64 0))],nb+1⟩:=lN kC rfl
theorem amI (h:cs.length=3):cO Tryz.prog 57 s (.c (.rp cs 0)) K=K (.agg cs):=sL kC rfl h
theorem aiE:cO Tryz.prog 57 ⟨fr,bx,nb⟩ (.bp b o) K=(ck (bx b)=false/\ldA nb b (bx b) o 3 K):=rn kC rfl rfl
theorem aiF:jR Tryz.prog 57 parts K=qQ K (iR [(0,1,false),(1,1,false),(2,1,false)] parts [.c (.lit (.string (ByteArray.mk #[]))),.c (.lit (.int .i64 0)),.c (.lit (.int .i64 0))]):=nu kC rfl rfl rfl
theorem aiG:iH Tryz.prog 57 parts K=sN [(0,1,false),(1,1,false),(2,1,false)] [.lit (.string (ByteArray.mk #[])),.lit (.int .i64 0),.lit (.int .i64 0)] parts K (ka [(0,1,false),(1,1,false),(2,1,false)] parts [.lit (.string (ByteArray.mk #[])),.lit (.int .i64 0),.lit (.int .i64 0)]):=mJ kC rfl rfl rfl
theorem adG:aR Tryz.prog 57 (.c (.rp cs o)) 0 K=K (.c (.rp cs (o+0))):=fZ kC rfl (by decide)
theorem Yi:aR Tryz.prog 57 (.bp b o) 0 K=K (.bp b (o+0)):=ga kC rfl (by decide)
theorem adH:aR Tryz.prog 57 (.c (.rp cs o)) 1 K=K (.c (.rp cs (o+1))):=fZ kC rfl (by decide)
theorem Yj:aR Tryz.prog 57 (.bp b o) 1 K=K (.bp b (o+1)):=ga kC rfl (by decide)
theorem adI:aR Tryz.prog 57 (.c (.rp cs o)) 2 K=K (.c (.rp cs (o+2))):=fZ kC rfl (by decide)
theorem Yk:aR Tryz.prog 57 (.bp b o) 2 K=K (.bp b (o+2)):=ga kC rfl (by decide)
theorem aiH:oH (ti Tryz.prog 57) t q (.bp b o) v ⟨fr,bx,nb⟩ H=(ck (bx b)=false/\stS 3 t q b o v ⟨fr,bx,nb⟩ H):=by rw[kC];exact kj rfl
theorem Qe:ti Tryz.prog 60=some { kd:=.other,size:=1,bytes:=8,agg:=false,zero:=some [.lit .nilFunc],flds:=[],eqs:=none }:=by kernel_rfl
theorem aiI:VStep Tryz.prog G tr ⟨some d,.alloc 60,ty,pos,af,g⟩ ⟨fr,bx,nb⟩ H=H ⟨up fr d (.bp nb 0),up bx nb [.c (.lit .nilFunc)],nb+1⟩:=lN Qe rfl
theorem amJ:cO Tryz.prog 60 s (.c (.rp cs o)) K=cQ false 1 o cs K:=iC Qe rfl rfl
theorem aiJ:cO Tryz.prog 60 ⟨fr,bx,nb⟩ (.bp b o) K=(ck (bx b)=false/\ldB nb b (bx b) o K):=jy Qe rfl
theorem aiK:oH (ti Tryz.prog 60) t q (.bp b o) v ⟨fr,bx,nb⟩ H=(ck (bx b)=false/\stS 1 t q b o v ⟨fr,bx,nb⟩ H):=by rw[Qe];exact kj rfl
theorem Qf:ti Tryz.prog 65=some { kd:=.arr 3 3,size:=3,bytes:=24,agg:=true,zero:=some [.lit (.int .i64 0),.lit (.int .i64 0),.lit (.int .i64 0)],flds:=[],eqs:=some [.int,.int,.int] }:=by kernel_rfl
theorem aiL:VStep Tryz.prog G tr ⟨some d,.alloc 65,ty,pos,af,g⟩ ⟨fr,bx,nb⟩ H=H ⟨up fr d (.bp nb 0),up bx nb [.c (.lit (.int .i64 0)),.c (.lit (.int .i64 0)),.c (.lit (.int .i64 0))],nb+1⟩:=lN Qf rfl
theorem Qg:ti Tryz.prog 75=some { kd:=.int .u64,size:=1,bytes:=8,agg:=false,zero:=some [.lit (.int .u64 0)],flds:=[],eqs:=some [.int] }:=by kernel_rfl
theorem oJ:ti Tryz.prog 79=some { kd:=.slice 3,size:=1,bytes:=24,agg:=false,zero:=some [.sl []],flds:=[],eqs:=none }:=by kernel_rfl
theorem Yl:fq Tryz.prog 79 (.c (.sl es)) K=K (.c (.lit (.int .i64 es.length))):=fD oJ rfl
theorem adJ:fq Tryz.prog 79 (.ow E es) K=K (.c (.lit (.int .i64 es.length))):=nq oJ rfl
theorem adK:fq Tryz.prog 79 (.ms b o l c z) K=K (.c (.lit (.int .i64 l))):=nr oJ rfl
theorem Qh:ti Tryz.prog 81=some { kd:=.ptr 100,size:=1,bytes:=8,agg:=false,zero:=some [.lit (.pointer none)],flds:=[],eqs:=none }:=by kernel_rfl
theorem aiM:VStep Tryz.prog G tr ⟨some d,.alloc 81,ty,pos,af,g⟩ ⟨fr,bx,nb⟩ H=H ⟨up fr d (.bp nb 0),up bx nb [.c (.lit (.pointer none))],nb+1⟩:=lN Qh rfl
theorem amK:cO Tryz.prog 81 s (.c (.rp cs o)) K=cQ false 1 o cs K:=iC Qh rfl rfl
theorem aiN:cO Tryz.prog 81 ⟨fr,bx,nb⟩ (.bp b o) K=(ck (bx b)=false/\ldB nb b (bx b) o K):=jy Qh rfl
theorem aiO:oH (ti Tryz.prog 81) t q (.bp b o) v ⟨fr,bx,nb⟩ H=(ck (bx b)=false/\stS 1 t q b o v ⟨fr,bx,nb⟩ H):=by rw[Qh];exact kj rfl
theorem oK:ti Tryz.prog 86=some { kd:=.slice 35,size:=1,bytes:=24,agg:=false,zero:=some [.sl []],flds:=[],eqs:=none }:=by kernel_rfl
theorem Ym:fq Tryz.prog 86 (.c (.sl es)) K=K (.c (.lit (.int .i64 es.length))):=fD oK rfl
theorem adL:fq Tryz.prog 86 (.ow E es) K=K (.c (.lit (.int .i64 es.length))):=nq oK rfl
theorem adM:fq Tryz.prog 86 (.ms b o l c z) K=K (.c (.lit (.int .i64 l))):=nr oK rfl
theorem amL:cO Tryz.prog 86 s (.c (.rp cs o)) K=cQ false 1 o cs K:=iC oK rfl rfl
theorem aiP:cO Tryz.prog 86 ⟨fr,bx,nb⟩ (.bp b o) K=(ck (bx b)=false/\ldB nb b (bx b) o K):=jy oK rfl
theorem aiQ:nQ Tryz.prog 86 ⟨fr,bx,nb⟩ (.bp b o) K=(ck (bx b)=false/\ldZ nb b (bx b) o K):=wO oK rfl
theorem aiR:oH (ti Tryz.prog 86) t q (.bp b o) v ⟨fr,bx,nb⟩ H=(ck (bx b)=false/\stS 1 t q b o v ⟨fr,bx,nb⟩ H):=by rw[oK];exact kj rfl
theorem Qi:ti Tryz.prog 88=some { kd:=.map 54 4,size:=1,bytes:=8,agg:=false,zero:=some [.lit (.map none)],flds:=[],eqs:=none }:=by kernel_rfl
theorem Yn:VStep Tryz.prog G tr ⟨dO,.makeMap 88 none,ty,pos,af,g⟩ ⟨fr,bx,nb⟩ H=H ((⟨fr,up bx nb [.mk [] 0],nb+1⟩:S).put dO (.mr nb)):=wN Qi rfl
theorem aiS:cO Tryz.prog 88 ⟨fr,bx,nb⟩ (.bp b o) K=(ck (bx b)=false/\ldB nb b (bx b) o K):=jy Qi rfl
theorem amM:zaB Tryz.prog 4=true:=by kernel_rfl
theorem FB:ti Tryz.prog 90=some { kd:=.slice 93,size:=1,bytes:=24,agg:=false,zero:=some [.sl []],flds:=[],eqs:=none }:=by kernel_rfl
theorem aiT:fq Tryz.prog 90 (.c (.sl es)) K=K (.c (.lit (.int .i64 es.length))):=fD FB rfl
theorem adN:fq Tryz.prog 90 (.ow E es) K=K (.c (.lit (.int .i64 es.length))):=nq FB rfl
theorem adO:fq Tryz.prog 90 (.ms b o l c z) K=K (.c (.lit (.int .i64 l))):=nr FB rfl
theorem qe:ti Tryz.prog 93=some { kd:=.struct,size:=6,bytes:=64,agg:=true,zero:=some [.lit (.int .i64 0),.lit (.int .i64 0),.lit (.int .i64 0),.lit (.int .i64 0),.lit (.int .i64 0),.sl []],flds:=[(0,3,true),(3,1,false),(4,1,false),(5,1,false)],eqs:=none }:=by kernel_rfl
theorem aiU:VStep Tryz.prog G tr ⟨some d,.alloc 93,ty,pos,af,g⟩ ⟨fr,bx,nb⟩ H=H ⟨up fr d (.bp nb 0),up bx nb [.c (.lit (.int .i64 0)),.c (.lit (.int .i64 0)),.c (.lit (.int .i64 0)),.c (.lit (.int .i64 0)),.c (.lit (.int .i64 0)),.ow none []],nb+1⟩:=lN qe rfl
theorem amN (h:cs.length=6):cO Tryz.prog 93 s (.c (.rp cs 0)) K=K (.agg cs):=sL qe rfl h
theorem aiV:cO Tryz.prog 93 ⟨fr,bx,nb⟩ (.bp b o) K=(ck (bx b)=false/\ldA nb b (bx b) o 6 K):=rn qe rfl rfl
theorem aiW:jR Tryz.prog 93 parts K=qQ K (iR [(0,3,true),(3,1,false),(4,1,false),(5,1,false)] parts [.c (.lit (.int .i64 0)),.c (.lit (.int .i64 0)),.c (.lit (.int .i64 0)),.c (.lit (.int .i64 0)),.c (.lit (.int .i64 0)),.ow none []]):=nu qe rfl rfl rfl
theorem aiX:iH Tryz.prog 93 parts K=sN [(0,3,true),(3,1,false),(4,1,false),(5,1,false)] [.lit (.int .i64 0),.lit (.int .i64 0),.lit (.int .i64 0),.lit (.int .i64 0),.lit (.int .i64 0),.sl []] parts K (ka [(0,3,true),(3,1,false),(4,1,false),(5,1,false)] parts [.lit (.int .i64 0),.lit (.int .i64 0),.lit (.int .i64 0),.lit (.int .i64 0),.lit (.int .i64 0),.sl []]):=mJ qe rfl rfl rfl
theorem adP:aR Tryz.prog 93 (.c (.rp cs o)) 0 K=K (.c (.rp cs (o+0))):=fZ qe rfl (by decide)
theorem Yo:aR Tryz.prog 93 (.bp b o) 0 K=K (.bp b (o+0)):=ga qe rfl (by decide)
theorem adQ:aR Tryz.prog 93 (.c (.rp cs o)) 3 K=K (.c (.rp cs (o+5))):=fZ qe rfl (by decide)
theorem Yp:aR Tryz.prog 93 (.bp b o) 3 K=K (.bp b (o+5)):=ga qe rfl (by decide)
theorem aiY:oH (ti Tryz.prog 93) t q (.bp b o) v ⟨fr,bx,nb⟩ H=(ck (bx b)=false/\stS 6 t q b o v ⟨fr,bx,nb⟩ H):=by rw[qe];exact kj rfl
theorem HU:ti Tryz.prog 100=some { kd:=.struct,size:=1,bytes:=8,agg:=true,zero:=some [.lit (.map none)],flds:=[(0,1,false)],eqs:=none }:=by kernel_rfl
theorem adR:jR Tryz.prog 100 parts K=qQ K (iR [(0,1,false)] parts [.c (.lit (.map none))]):=nu HU rfl rfl rfl
theorem adS:iH Tryz.prog 100 parts K=sN [(0,1,false)] [.lit (.map none)] parts K (ka [(0,1,false)] parts [.lit (.map none)]):=mJ HU rfl rfl rfl
theorem Yq:aR Tryz.prog 100 (.c (.rp cs o)) 0 K=K (.c (.rp cs (o+0))):=fZ HU rfl (by decide)
theorem TC:aR Tryz.prog 100 (.bp b o) 0 K=K (.bp b (o+0)):=ga HU rfl (by decide)
theorem Yr:ti Tryz.prog 102=some { kd:=.other,size:=1,bytes:=8,agg:=false,zero:=some [.lit .nilFunc],flds:=[],eqs:=none }:=by kernel_rfl
theorem aiZ:cO Tryz.prog 102 s (.c (.rp cs o)) K=cQ false 1 o cs K:=iC Yr rfl rfl
theorem adT:cO Tryz.prog 102 ⟨fr,bx,nb⟩ (.bp b o) K=(ck (bx b)=false/\ldB nb b (bx b) o K):=jy Yr rfl
theorem Yt:ti Tryz.prog 103=some { kd:=.ptr 106,size:=1,bytes:=8,agg:=false,zero:=some [.lit (.pointer none)],flds:=[],eqs:=none }:=by kernel_rfl
theorem ai0:cO Tryz.prog 103 s (.c (.rp cs o)) K=cQ false 1 o cs K:=iC Yt rfl rfl
theorem adU:cO Tryz.prog 103 ⟨fr,bx,nb⟩ (.bp b o) K=(ck (bx b)=false/\ldB nb b (bx b) o K):=jy Yt rfl
theorem Yu:ti Tryz.prog 104=some { kd:=.ptr 54,size:=1,bytes:=8,agg:=false,zero:=some [.lit (.pointer none)],flds:=[],eqs:=none }:=by kernel_rfl
theorem ai1:cO Tryz.prog 104 s (.c (.rp cs o)) K=cQ false 1 o cs K:=iC Yu rfl rfl
theorem adV:cO Tryz.prog 104 ⟨fr,bx,nb⟩ (.bp b o) K=(ck (bx b)=false/\ldB nb b (bx b) o K):=jy Yu rfl
theorem rz:ti Tryz.prog 106=some { kd:=.struct,size:=7,bytes:=112,agg:=true,zero:=some [.lit (.string (ByteArray.mk #[])),.sl [],.sl [],.sl [],.lit (.int .i64 0),.lit (.pointer none),.lit .nilFunc],flds:=[(0,4,true),(4,1,false),(5,1,false),(6,1,false)],eqs:=none }:=by kernel_rfl
theorem adW:jR Tryz.prog 106 parts K=qQ K (iR [(0,4,true),(4,1,false),(5,1,false),(6,1,false)] parts [.c (.lit (.string (ByteArray.mk #[]))),.ow none [],.ow none [],.ow none [],.c (.lit (.int .i64 0)),.c (.lit (.pointer none)),.c (.lit .nilFunc)]):=nu rz rfl rfl rfl
theorem adX:iH Tryz.prog 106 parts K=sN [(0,4,true),(4,1,false),(5,1,false),(6,1,false)] [.lit (.string (ByteArray.mk #[])),.sl [],.sl [],.sl [],.lit (.int .i64 0),.lit (.pointer none),.lit .nilFunc] parts K (ka [(0,4,true),(4,1,false),(5,1,false),(6,1,false)] parts [.lit (.string (ByteArray.mk #[])),.sl [],.sl [],.sl [],.lit (.int .i64 0),.lit (.pointer none),.lit .nilFunc]):=mJ rz rfl rfl rfl
theorem Yv:aR Tryz.prog 106 (.c (.rp cs o)) 0 K=K (.c (.rp cs (o+0))):=fZ rz rfl (by decide)
theorem TD:aR Tryz.prog 106 (.bp b o) 0 K=K (.bp b (o+0)):=ga rz rfl (by decide)
theorem Yx:aR Tryz.prog 106 (.c (.rp cs o)) 1 K=K (.c (.rp cs (o+4))):=fZ rz rfl (by decide)
theorem TE:aR Tryz.prog 106 (.bp b o) 1 K=K (.bp b (o+4)):=ga rz rfl (by decide)
theorem Yy:aR Tryz.prog 106 (.c (.rp cs o)) 2 K=K (.c (.rp cs (o+5))):=fZ rz rfl (by decide)
theorem TF:aR Tryz.prog 106 (.bp b o) 2 K=K (.bp b (o+5)):=ga rz rfl (by decide)
theorem Yz:aR Tryz.prog 106 (.c (.rp cs o)) 3 K=K (.c (.rp cs (o+6))):=fZ rz rfl (by decide)
theorem TG:aR Tryz.prog 106 (.bp b o) 3 K=K (.bp b (o+6)):=ga rz rfl (by decide)
theorem uB:ti Tryz.prog 110=some { kd:=.struct,size:=6,bytes:=120,agg:=true,zero:=some [.lit (.string (ByteArray.mk #[])),.sl [],.sl [],.sl [],.lit (.int .i64 0),.sl []],flds:=[(0,4,true),(4,1,false),(5,1,false)],eqs:=none }:=by kernel_rfl
theorem adY:jR Tryz.prog 110 parts K=qQ K (iR [(0,4,true),(4,1,false),(5,1,false)] parts [.c (.lit (.string (ByteArray.mk #[]))),.ow none [],.ow none [],.ow none [],.c (.lit (.int .i64 0)),.ow none []]):=nu uB rfl rfl rfl
theorem adZ:iH Tryz.prog 110 parts K=sN [(0,4,true),(4,1,false),(5,1,false)] [.lit (.string (ByteArray.mk #[])),.sl [],.sl [],.sl [],.lit (.int .i64 0),.sl []] parts K (ka [(0,4,true),(4,1,false),(5,1,false)] parts [.lit (.string (ByteArray.mk #[])),.sl [],.sl [],.sl [],.lit (.int .i64 0),.sl []]):=mJ uB rfl rfl rfl
theorem YA:aR Tryz.prog 110 (.c (.rp cs o)) 0 K=K (.c (.rp cs (o+0))):=fZ uB rfl (by decide)
theorem TJ:aR Tryz.prog 110 (.bp b o) 0 K=K (.bp b (o+0)):=ga uB rfl (by decide)
theorem YC:aR Tryz.prog 110 (.c (.rp cs o)) 1 K=K (.c (.rp cs (o+4))):=fZ uB rfl (by decide)
theorem TK:aR Tryz.prog 110 (.bp b o) 1 K=K (.bp b (o+4)):=ga uB rfl (by decide)
theorem YD:aR Tryz.prog 110 (.c (.rp cs o)) 2 K=K (.c (.rp cs (o+5))):=fZ uB rfl (by decide)
theorem TL:aR Tryz.prog 110 (.bp b o) 2 K=K (.bp b (o+5)):=ga uB rfl (by decide)
theorem CU:ti Tryz.prog 116=some { kd:=.map 54 93,size:=1,bytes:=8,agg:=false,zero:=some [.lit (.map none)],flds:=[],eqs:=none }:=by kernel_rfl
theorem ad0:VStep Tryz.prog G tr ⟨dO,.makeMap 116 none,ty,pos,af,g⟩ ⟨fr,bx,nb⟩ H=H ((⟨fr,up bx nb [.mk [] 0],nb+1⟩:S).put dO (.mr nb)):=wN CU rfl
theorem agl:zaB Tryz.prog 93=true:=by kernel_rfl
theorem fQ:ti Tryz.prog 120=some { kd:=.struct,size:=3,bytes:=24,agg:=true,zero:=some [.lit (.int .i64 0),.lit (.int .i64 0),.lit (.int .i64 0)],flds:=[(0,1,false),(1,1,false),(2,1,false)],eqs:=some [.int,.int,.int] }:=by kernel_rfl
theorem ad1:VStep Tryz.prog G tr ⟨some d,.alloc 120,ty,pos,af,g⟩ ⟨fr,bx,nb⟩ H=H ⟨up fr d (.bp nb 0),up bx nb [.c (.lit (.int .i64 0)),.c (.lit (.int .i64 0)),.c (.lit (.int .i64 0))],nb+1⟩:=lN fQ rfl
theorem ai2 (h:cs.length=3):cO Tryz.prog 120 s (.c (.rp cs 0)) K=K (.agg cs):=sL fQ rfl h
theorem ad2:cO Tryz.prog 120 ⟨fr,bx,nb⟩ (.bp b o) K=(ck (bx b)=false/\ldA nb b (bx b) o 3 K):=rn fQ rfl rfl
theorem YF:aR Tryz.prog 120 (.c (.rp cs o)) 0 K=K (.c (.rp cs (o+0))):=fZ fQ rfl (by decide)
theorem TM:aR Tryz.prog 120 (.bp b o) 0 K=K (.bp b (o+0)):=ga fQ rfl (by decide)
theorem YG:aR Tryz.prog 120 (.c (.rp cs o)) 1 K=K (.c (.rp cs (o+1))):=fZ fQ rfl (by decide)
theorem TN:aR Tryz.prog 120 (.bp b o) 1 K=K (.bp b (o+1)):=ga fQ rfl (by decide)
theorem YH:aR Tryz.prog 120 (.c (.rp cs o)) 2 K=K (.c (.rp cs (o+2))):=fZ fQ rfl (by decide)
theorem TO:aR Tryz.prog 120 (.bp b o) 2 K=K (.bp b (o+2)):=ga fQ rfl (by decide)
theorem ad3:oH (ti Tryz.prog 120) t q (.bp b o) v ⟨fr,bx,nb⟩ H=(ck (bx b)=false/\stS 3 t q b o v ⟨fr,bx,nb⟩ H):=by rw[fQ];exact kj rfl
theorem jA:ti Tryz.prog 122=some { kd:=.struct,size:=5,bytes:=40,agg:=true,zero:=some [.lit (.int .i64 0),.lit (.int .i64 0),.lit (.int .i64 0),.lit (.int .i64 0),.lit (.int .i64 0)],flds:=[(0,1,false),(1,1,false),(2,1,false),(3,1,false),(4,1,false)],eqs:=some [.int,.int,.int,.int,.int] }:=by kernel_rfl
theorem ad4:VStep Tryz.prog G tr ⟨some d,.alloc 122,ty,pos,af,g⟩ ⟨fr,bx,nb⟩ H=H ⟨up fr d (.bp nb 0),up bx nb [.c (.lit (.int .i64 0)),.c (.lit (.int .i64 0)),.c (.lit (.int .i64 0)),.c (.lit (.int .i64 0)),.c (.lit (.int .i64 0))],nb+1⟩:=lN jA rfl
theorem ai3 (h:cs.length=5):cO Tryz.prog 122 s (.c (.rp cs 0)) K=K (.agg cs):=sL jA rfl h
theorem ad5:cO Tryz.prog 122 ⟨fr,bx,nb⟩ (.bp b o) K=(ck (bx b)=false/\ldA nb b (bx b) o 5 K):=rn jA rfl rfl
theorem YI:aR Tryz.prog 122 (.c (.rp cs o)) 0 K=K (.c (.rp cs (o+0))):=fZ jA rfl (by decide)
theorem TP:aR Tryz.prog 122 (.bp b o) 0 K=K (.bp b (o+0)):=ga jA rfl (by decide)
theorem YJ:aR Tryz.prog 122 (.c (.rp cs o)) 1 K=K (.c (.rp cs (o+1))):=fZ jA rfl (by decide)
theorem TQ:aR Tryz.prog 122 (.bp b o) 1 K=K (.bp b (o+1)):=ga jA rfl (by decide)
theorem YK:aR Tryz.prog 122 (.c (.rp cs o)) 2 K=K (.c (.rp cs (o+2))):=fZ jA rfl (by decide)
theorem TR:aR Tryz.prog 122 (.bp b o) 2 K=K (.bp b (o+2)):=ga jA rfl (by decide)
theorem YL:aR Tryz.prog 122 (.c (.rp cs o)) 3 K=K (.c (.rp cs (o+3))):=fZ jA rfl (by decide)
theorem TS:aR Tryz.prog 122 (.bp b o) 3 K=K (.bp b (o+3)):=ga jA rfl (by decide)
theorem YM:aR Tryz.prog 122 (.c (.rp cs o)) 4 K=K (.c (.rp cs (o+4))):=fZ jA rfl (by decide)
theorem TU:aR Tryz.prog 122 (.bp b o) 4 K=K (.bp b (o+4)):=ga jA rfl (by decide)
theorem ad6:oH (ti Tryz.prog 122) t q (.bp b o) v ⟨fr,bx,nb⟩ H=(ck (bx b)=false/\stS 5 t q b o v ⟨fr,bx,nb⟩ H):=by rw[jA];exact kj rfl
theorem CV:ti Tryz.prog 123=some { kd:=.slice 30,size:=1,bytes:=24,agg:=false,zero:=some [.sl []],flds:=[],eqs:=none }:=by kernel_rfl
theorem ad7:fq Tryz.prog 123 (.c (.sl es)) K=K (.c (.lit (.int .i64 es.length))):=fD CV rfl
theorem YN:fq Tryz.prog 123 (.ow E es) K=K (.c (.lit (.int .i64 es.length))):=nq CV rfl
theorem YO:fq Tryz.prog 123 (.ms b o l c z) K=K (.c (.lit (.int .i64 l))):=nr CV rfl
theorem YP:ti Tryz.prog 130=some { kd:=.other,size:=1,bytes:=8,agg:=false,zero:=some [.lit .nilFunc],flds:=[],eqs:=none }:=by kernel_rfl
theorem ai4:cO Tryz.prog 130 s (.c (.rp cs o)) K=cQ false 1 o cs K:=iC YP rfl rfl
theorem ad8:cO Tryz.prog 130 ⟨fr,bx,nb⟩ (.bp b o) K=(ck (bx b)=false/\ldB nb b (bx b) o K):=jy YP rfl
theorem o7:ti Tryz.prog 146=some { kd:=.struct,size:=3,bytes:=24,agg:=true,zero:=some [.lit (.int .i64 0),.lit (.int .i64 0),.lit (.int .i64 0)],flds:=[(0,1,false),(1,1,false),(2,1,false)],eqs:=some [.int,.int,.int] }:=by kernel_rfl
theorem ai5 (h:cs.length=3):cO Tryz.prog 146 s (.c (.rp cs 0)) K=K (.agg cs):=sL o7 rfl h
theorem ad9:cO Tryz.prog 146 ⟨fr,bx,nb⟩ (.bp b o) K=(ck (bx b)=false/\ldA nb b (bx b) o 3 K):=rn o7 rfl rfl
theorem aea:jR Tryz.prog 146 parts K=qQ K (iR [(0,1,false),(1,1,false),(2,1,false)] parts [.c (.lit (.int .i64 0)),.c (.lit (.int .i64 0)),.c (.lit (.int .i64 0))]):=nu o7 rfl rfl rfl
theorem aeb:iH Tryz.prog 146 parts K=sN [(0,1,false),(1,1,false),(2,1,false)] [.lit (.int .i64 0),.lit (.int .i64 0),.lit (.int .i64 0)] parts K (ka [(0,1,false),(1,1,false),(2,1,false)] parts [.lit (.int .i64 0),.lit (.int .i64 0),.lit (.int .i64 0)]):=mJ o7 rfl rfl rfl
theorem YQ:aR Tryz.prog 146 (.c (.rp cs o)) 0 K=K (.c (.rp cs (o+0))):=fZ o7 rfl (by decide)
theorem TV:aR Tryz.prog 146 (.bp b o) 0 K=K (.bp b (o+0)):=ga o7 rfl (by decide)
theorem YR:aR Tryz.prog 146 (.c (.rp cs o)) 1 K=K (.c (.rp cs (o+1))):=fZ o7 rfl (by decide)
theorem TW:aR Tryz.prog 146 (.bp b o) 1 K=K (.bp b (o+1)):=ga o7 rfl (by decide)
theorem YS:aR Tryz.prog 146 (.c (.rp cs o)) 2 K=K (.c (.rp cs (o+2))):=fZ o7 rfl (by decide)
theorem TX:aR Tryz.prog 146 (.bp b o) 2 K=K (.bp b (o+2)):=ga o7 rfl (by decide)
theorem CW:ti Tryz.prog 152=some { kd:=.map 54 153,size:=1,bytes:=8,agg:=false,zero:=some [.lit (.map none)],flds:=[],eqs:=none }:=by kernel_rfl
theorem aec:VStep Tryz.prog G tr ⟨dO,.makeMap 152 none,ty,pos,af,g⟩ ⟨fr,bx,nb⟩ H=H ((⟨fr,up bx nb [.mk [] 0],nb+1⟩:S).put dO (.mr nb)):=wN CW rfl
theorem aed:cO Tryz.prog 152 ⟨fr,bx,nb⟩ (.bp b o) K=(ck (bx b)=false/\ldB nb b (bx b) o K):=jy CW rfl
theorem aee:oH (ti Tryz.prog 152) t q (.bp b o) v ⟨fr,bx,nb⟩ H=(ck (bx b)=false/\stS 1 t q b o v ⟨fr,bx,nb⟩ H):=by rw[CW];exact kj rfl
theorem ai6:zaB Tryz.prog 153=true:=by kernel_rfl
theorem lv:ti Tryz.prog 153=some { kd:=.slice 156,size:=1,bytes:=24,agg:=false,zero:=some [.sl []],flds:=[],eqs:=none }:=by kernel_rfl
theorem aef:fq Tryz.prog 153 (.c (.sl es)) K=K (.c (.lit (.int .i64 es.length))):=fD lv rfl
theorem YT:fq Tryz.prog 153 (.ow E es) K=K (.c (.lit (.int .i64 es.length))):=nq lv rfl
theorem YU:fq Tryz.prog 153 (.ms b o l c z) K=K (.c (.lit (.int .i64 l))):=nr lv rfl
theorem ai7:cO Tryz.prog 153 s (.c (.rp cs o)) K=cQ false 1 o cs K:=iC lv rfl rfl
theorem aeg:cO Tryz.prog 153 ⟨fr,bx,nb⟩ (.bp b o) K=(ck (bx b)=false/\ldB nb b (bx b) o K):=jy lv rfl
theorem aeh:nQ Tryz.prog 153 ⟨fr,bx,nb⟩ (.bp b o) K=(ck (bx b)=false/\ldZ nb b (bx b) o K):=wO lv rfl
theorem aei:oH (ti Tryz.prog 153) t q (.bp b o) v ⟨fr,bx,nb⟩ H=(ck (bx b)=false/\stS 1 t q b o v ⟨fr,bx,nb⟩ H):=by rw[lv];exact kj rfl
theorem wS:ti Tryz.prog 155=some { kd:=.struct,size:=3,bytes:=56,agg:=true,zero:=some [.sl [],.sl [],.lit (.int .i64 0)],flds:=[(0,1,false),(1,1,false),(2,1,false)],eqs:=none }:=by kernel_rfl
theorem aej:VStep Tryz.prog G tr ⟨some d,.alloc 155,ty,pos,af,g⟩ ⟨fr,bx,nb⟩ H=H ⟨up fr d (.bp nb 0),up bx nb [.ow none [],.ow none [],.c (.lit (.int .i64 0))],nb+1⟩:=lN wS rfl
theorem YV:aR Tryz.prog 155 (.c (.rp cs o)) 0 K=K (.c (.rp cs (o+0))):=fZ wS rfl (by decide)
theorem TY:aR Tryz.prog 155 (.bp b o) 0 K=K (.bp b (o+0)):=ga wS rfl (by decide)
theorem YW:aR Tryz.prog 155 (.c (.rp cs o)) 1 K=K (.c (.rp cs (o+1))):=fZ wS rfl (by decide)
theorem TZ:aR Tryz.prog 155 (.bp b o) 1 K=K (.bp b (o+1)):=ga wS rfl (by decide)
theorem YX:aR Tryz.prog 155 (.c (.rp cs o)) 2 K=K (.c (.rp cs (o+2))):=fZ wS rfl (by decide)
theorem T0:aR Tryz.prog 155 (.bp b o) 2 K=K (.bp b (o+2)):=ga wS rfl (by decide)
theorem rA:ti Tryz.prog 156=some { kd:=.ptr 158,size:=1,bytes:=8,agg:=false,zero:=some [.lit (.pointer none)],flds:=[],eqs:=none }:=by kernel_rfl
theorem ai8:cO Tryz.prog 156 s (.c (.rp cs o)) K=cQ false 1 o cs K:=iC rA rfl rfl
theorem aek:cO Tryz.prog 156 ⟨fr,bx,nb⟩ (.bp b o) K=(ck (bx b)=false/\ldB nb b (bx b) o K):=jy rA rfl
theorem ael:oH (ti Tryz.prog 156) t q (.bp b o) v ⟨fr,bx,nb⟩ H=(ck (bx b)=false/\stS 1 t q b o v ⟨fr,bx,nb⟩ H):=by rw[rA];exact kj rfl
theorem rC:ti Tryz.prog 158=some { kd:=.struct,size:=5,bytes:=72,agg:=true,zero:=some [.lit (.int .i64 0),.sl [],.sl [],.lit (.int .i64 0),.lit (.int .i64 0)],flds:=[(0,3,true),(3,1,false),(4,1,false)],eqs:=none }:=by kernel_rfl
theorem aem:jR Tryz.prog 158 parts K=qQ K (iR [(0,3,true),(3,1,false),(4,1,false)] parts [.c (.lit (.int .i64 0)),.ow none [],.ow none [],.c (.lit (.int .i64 0)),.c (.lit (.int .i64 0))]):=nu rC rfl rfl rfl
theorem aen:iH Tryz.prog 158 parts K=sN [(0,3,true),(3,1,false),(4,1,false)] [.lit (.int .i64 0),.sl [],.sl [],.lit (.int .i64 0),.lit (.int .i64 0)] parts K (ka [(0,3,true),(3,1,false),(4,1,false)] parts [.lit (.int .i64 0),.sl [],.sl [],.lit (.int .i64 0),.lit (.int .i64 0)]):=mJ rC rfl rfl rfl
theorem YY:aR Tryz.prog 158 (.c (.rp cs o)) 0 K=K (.c (.rp cs (o+0))):=fZ rC rfl (by decide)
theorem T8:aR Tryz.prog 158 (.bp b o) 0 K=K (.bp b (o+0)):=ga rC rfl (by decide)
theorem YZ:aR Tryz.prog 158 (.c (.rp cs o)) 1 K=K (.c (.rp cs (o+3))):=fZ rC rfl (by decide)
theorem T9:aR Tryz.prog 158 (.bp b o) 1 K=K (.bp b (o+3)):=ga rC rfl (by decide)
theorem Y0:aR Tryz.prog 158 (.c (.rp cs o)) 2 K=K (.c (.rp cs (o+4))):=fZ rC rfl (by decide)
theorem Ua:aR Tryz.prog 158 (.bp b o) 2 K=K (.bp b (o+4)):=ga rC rfl (by decide)
theorem HV:ti Tryz.prog 166=some { kd:=.int .u64,size:=1,bytes:=8,agg:=false,zero:=some [.lit (.int .u64 0)],flds:=[],eqs:=some [.int] }:=by kernel_rfl
theorem aeo:VStep Tryz.prog G tr ⟨some d,.alloc 166,ty,pos,af,g⟩ ⟨fr,bx,nb⟩ H=H ⟨up fr d (.bp nb 0),up bx nb [.c (.lit (.int .u64 0))],nb+1⟩:=lN HV rfl
theorem ai9:cO Tryz.prog 166 s (.c (.rp cs o)) K=cQ false 1 o cs K:=iC HV rfl rfl
theorem aep:cO Tryz.prog 166 ⟨fr,bx,nb⟩ (.bp b o) K=(ck (bx b)=false/\ldB nb b (bx b) o K):=jy HV rfl
theorem aeq:oH (ti Tryz.prog 166) t q (.bp b o) v ⟨fr,bx,nb⟩ H=(ck (bx b)=false/\stS 1 t q b o v ⟨fr,bx,nb⟩ H):=by rw[HV];exact kj rfl
theorem CX:ti Tryz.prog 173=some { kd:=.slice 146,size:=1,bytes:=24,agg:=false,zero:=some [.sl []],flds:=[],eqs:=none }:=by kernel_rfl
theorem aer:fq Tryz.prog 173 (.c (.sl es)) K=K (.c (.lit (.int .i64 es.length))):=fD CX rfl
theorem Y1:fq Tryz.prog 173 (.ow E es) K=K (.c (.lit (.int .i64 es.length))):=nq CX rfl
theorem Y2:fq Tryz.prog 173 (.ms b o l c z) K=K (.c (.lit (.int .i64 l))):=nr CX rfl
theorem aja (h:len*3<=16777216):cH Tryz.prog 22 len parts K=AO 57 3 [.lit (.string (ByteArray.mk #[])),.lit (.int .i64 0),.lit (.int .i64 0)] len parts K:=sM pf rfl kC rfl rfl (by decide) rfl h
theorem ajb (h:len*3<=16777216):cH Tryz.prog 23 len parts K=AO 120 3 [.lit (.int .i64 0),.lit (.int .i64 0),.lit (.int .i64 0)] len parts K:=sM kV rfl fQ rfl rfl (by decide) rfl h
theorem ajc:dS Tryz.prog 23 (.ow E es) (.c (.sl ys)) K=(((E=none∨E=some (120,3))/\∀ x∈es,x.length=3)/\((es.length+ys.length)*24<=140737488355328/\es.length+ys.length<=9223372036854775807/\∀ x∈ys,x.length=3)/\K (.ow (if ys.isEmpty then E else some (120,3)) (es++ys))):=HF kV rfl fQ rfl rfl rfl (by decide) rfl
theorem ajd (h:len*1<=16777216):cH Tryz.prog 27 len parts K=AO 5 1 [.lit (.int .u8 0)] len parts K:=sM lE rfl ry rfl rfl (by decide) rfl h
theorem aje (h:len*3<=16777216):cH Tryz.prog 28 len parts K=AO 54 3 [.lit (.int .i64 0),.lit (.int .i64 0),.lit (.int .i64 0)] len parts K:=sM dY rfl eK rfl rfl (by decide) rfl h
theorem zj:dS Tryz.prog 28 (.ow E es) (.c (.sl ys)) K=(((E=none∨E=some (54,3))/\∀ x∈es,x.length=3)/\((es.length+ys.length)*24<=140737488355328/\es.length+ys.length<=9223372036854775807/\∀ x∈ys,x.length=3)/\K (.ow (if ys.isEmpty then E else some (54,3)) (es++ys))):=HF dY rfl eK rfl rfl rfl (by decide) rfl
theorem ajf (h:len*1<=16777216):cH Tryz.prog 79 len parts K=AO 3 1 [.lit (.int .i64 0)] len parts K:=sM oJ rfl nH rfl rfl (by decide) rfl h
theorem ajg:dS Tryz.prog 79 (.ow E es) (.c (.sl ys)) K=(((E=none∨E=some (3,1))/\∀ x∈es,x.length=1)/\((es.length+ys.length)*8<=140737488355328/\es.length+ys.length<=9223372036854775807/\∀ x∈ys,x.length=1)/\K (.ow (if ys.isEmpty then E else some (3,1)) (es++ys))):=HF oJ rfl nH rfl rfl rfl (by decide) rfl
theorem ajh (h:len*3<=16777216):cH Tryz.prog 86 len parts K=AO 35 3 [.lit (.int .i64 0),.sl [],.sl []] len parts K:=sM oK rfl lF rfl rfl (by decide) rfl h
theorem aji:dS Tryz.prog 86 (.ow E es) (.c (.sl ys)) K=(((E=none∨E=some (35,3))/\∀ x∈es,x.length=3)/\((es.length+ys.length)*56<=140737488355328/\es.length+ys.length<=9223372036854775807/\∀ x∈ys,x.length=3)/\K (.ow (if ys.isEmpty then E else some (35,3)) (es++ys))):=HF oK rfl lF rfl rfl rfl (by decide) rfl
theorem ajj (h:len*6<=16777216):cH Tryz.prog 90 len parts K=AO 93 6 [.lit (.int .i64 0),.lit (.int .i64 0),.lit (.int .i64 0),.lit (.int .i64 0),.lit (.int .i64 0),.sl []] len parts K:=sM FB rfl qe rfl rfl (by decide) rfl h
theorem aes (h:len*1<=16777216):cH Tryz.prog 153 len parts K=AO 156 1 [.lit (.pointer none)] len parts K:=sM lv rfl rA rfl rfl (by decide) rfl h
theorem aet (h:len*3<=16777216):cH Tryz.prog 173 len parts K=AO 146 3 [.lit (.int .i64 0),.lit (.int .i64 0),.lit (.int .i64 0)] len parts K:=sM CX rfl o7 rfl rfl (by decide) rfl h
def pt0:=jj @amn (jj @apj (jj @amo (jj @amq (jj @amr (jj @apk (jj @ams (jj @amt (jj @apl (jj @amu (jj @amv (jj @apm (jj @amw (jj @ahZ (jj @adj (jj @adk (jj @amx (jj @ah0 (jj @ah1 (jj @X3 (jj @adl (jj @adm (jj @amy (jj @ah2 (jj @ah3 (jj @ah4 (jj @adn (jj @ado (jj @amz (jj @ah5 (jj @ah6 (jj @ah7 (jj @amA (jj @ah8 (jj @ah9 (jj @aia (jj @adp (jj @X4 (jj @adq @X5))))))))))))))))))))))))))))))))))))))
def pt1:=jj @adr (jj @X6 (jj @ads (jj @X7 (jj @aib (jj @aic (jj @adt (jj @adu (jj @amB (jj @aid (jj @aie (jj @aif (jj @HT (jj @adv (jj @adw (jj @amC (jj @aih (jj @aii (jj @aij (jj @amD (jj @aik (jj @ail (jj @amE (jj @aim (jj @ain (jj @aio (jj @amF (jj @aip (jj @aiq (jj @air (jj @adx (jj @X8 (jj @ady (jj @X9 (jj @adz (jj @Ya (jj @ais (jj @ait (jj @amG @aiu))))))))))))))))))))))))))))))))))))))
def pt2:=jj @aiv (jj @aiw (jj @adA (jj @Yb (jj @adB (jj @Yd (jj @adC (jj @Ye (jj @aix (jj @aiy (jj @amH (jj @aiz (jj @aiA (jj @aiB (jj @adD (jj @Yf (jj @adE (jj @Yg (jj @adF (jj @Yh (jj @aiC (jj @aiD (jj @amI (jj @aiE (jj @aiF (jj @aiG (jj @adG (jj @Yi (jj @adH (jj @Yj (jj @adI (jj @Yk (jj @aiH (jj @aiI (jj @amJ (jj @aiJ (jj @aiK (jj @aiL (jj @Yl @adJ))))))))))))))))))))))))))))))))))))))
def pt3:=jj @adK (jj @aiM (jj @amK (jj @aiN (jj @aiO (jj @Ym (jj @adL (jj @adM (jj @amL (jj @aiP (jj @aiQ (jj @aiR (jj @aiS (jj @aiT (jj @adN (jj @adO (jj @aiU (jj @amN (jj @aiV (jj @aiW (jj @aiX (jj @adP (jj @Yo (jj @adQ (jj @Yp (jj @aiY (jj @adR (jj @adS (jj @Yq (jj @TC (jj @aiZ (jj @adT (jj @ai0 (jj @adU (jj @ai1 (jj @adV (jj @adW (jj @adX (jj @Yv @TD))))))))))))))))))))))))))))))))))))))
def pt4:=jj @Yx (jj @TE (jj @Yy (jj @TF (jj @Yz (jj @TG (jj @adY (jj @adZ (jj @YA (jj @TJ (jj @YC (jj @TK (jj @YD (jj @TL (jj @ad1 (jj @ai2 (jj @ad2 (jj @YF (jj @TM (jj @YG (jj @TN (jj @YH (jj @TO (jj @ad3 (jj @ad4 (jj @ai3 (jj @ad5 (jj @YI (jj @TP (jj @YJ (jj @TQ (jj @YK (jj @TR (jj @YL (jj @TS (jj @YM (jj @TU (jj @ad6 (jj @ad7 @YN))))))))))))))))))))))))))))))))))))))
def pt5:=jj @YO (jj @ai4 (jj @ad8 (jj @ai5 (jj @ad9 (jj @aea (jj @aeb (jj @YQ (jj @TV (jj @YR (jj @TW (jj @YS (jj @TX (jj @aed (jj @aee (jj @aef (jj @YT (jj @YU (jj @ai7 (jj @aeg (jj @aeh (jj @aei (jj @aej (jj @YV (jj @TY (jj @YW (jj @TZ (jj @YX (jj @T0 (jj @ai8 (jj @aek (jj @ael (jj @aem (jj @aen (jj @YY (jj @T8 (jj @YZ (jj @T9 (jj @Y0 @Ua))))))))))))))))))))))))))))))))))))))
def pt6:=jj @aeo (jj @ai9 (jj @aep (jj @aeq (jj @aer (jj @Y1 (jj @Y2 (jj @aja (jj @ajb (jj @ajd (jj @aje (jj @ajf (jj @ajh (jj @ajj (jj @aes @aet))))))))))))))
def ptA:=jj pt0 (jj pt1 (jj pt2 (jj pt3 (jj pt4 (jj pt5 (pt6))))))
