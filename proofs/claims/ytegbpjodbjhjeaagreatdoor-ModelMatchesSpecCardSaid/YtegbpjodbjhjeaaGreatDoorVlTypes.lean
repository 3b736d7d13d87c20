/- The types of the translation, as the framework sees them: closed facts, by the kernel. Printed by vltypes.py. -/
import Derived.Test.YtegbpjodbjhjeaaGreatDoorVlPack
import Derived.Test.YtegbpjodbjhjeaaGreatDoorChecked
import Derived.KernelRfl
set_option linter.all false
namespace Go.Proofs.YtegbpjodbjhjeaaGreatDoor
open Go Go.Vl
variable {G:Gl} {tr:List Nat} {ty:TypeId} {d:Nat} {dO:Option Tmp} {pos:String} {af:Array Edge} {g:Option (Nat×Bool)} {fr:Nat->V} {bx:Nat->List V} {nb:Nat} {H:S->Prop} {s:S} {cs:List C} {o:Nat} {b:Nat} {l c z:Nat} {K:V->Prop} {t q:Option Tmp} {v:V} {x:V} {E:Option (TypeId×Nat)} {es ys:List (List C)} {y:ByteArray} {len:Nat} {parts:List (Nat×V)}
theorem Yv:ti Tryz.prog 1=some { kd:=.other,size:=1,bytes:=8,agg:=false,zero:=some [.lit .nilFunc],flds:=[],eqs:=none }:=by kernel_rfl
theorem afO:dJ Tryz.prog 1 ⟨fr,bx,nb⟩ (.bp b o) K=(dE (bx b)=false/\ldB nb b (bx b) o K):=nC Yv rfl
theorem FK:ti Tryz.prog 3=some { kd:=.int .i64,size:=1,bytes:=8,agg:=false,zero:=some [.lit (.int .i64 0)],flds:=[],eqs:=some [.int] }:=by kernel_rfl
theorem ain:dJ Tryz.prog 3 s (.c (.rp cs o)) K=dZ false 1 o cs K:=Am FK rfl rfl
theorem afP:dJ Tryz.prog 3 ⟨fr,bx,nb⟩ (.bp b o) K=(dE (bx b)=false/\ldB nb b (bx b) o K):=nC FK rfl
theorem afQ:oV (ti Tryz.prog 3) t q (.bp b o) v ⟨fr,bx,nb⟩ H=(dE (bx b)=false/\stS 1 t q b o v ⟨fr,bx,nb⟩ H):=by rw[FK];exact kN rfl
theorem afR:ti Tryz.prog 4=some { kd:=.bool,size:=1,bytes:=1,agg:=false,zero:=some [.lit (.bool false)],flds:=[],eqs:=some [.bool] }:=by kernel_rfl
theorem afS:dJ Tryz.prog 4 ⟨fr,bx,nb⟩ (.bp b o) K=(dE (bx b)=false/\ldB nb b (bx b) o K):=nC afR rfl
theorem acl:ti Tryz.prog 5=some { kd:=.int .u8,size:=1,bytes:=1,agg:=false,zero:=some [.lit (.int .u8 0)],flds:=[],eqs:=some [.int] }:=by kernel_rfl
theorem aio:dJ Tryz.prog 5 s (.c (.rp cs o)) K=dZ false 1 o cs K:=Am acl rfl rfl
theorem FM:ti Tryz.prog 9=some { kd:=.str,size:=1,bytes:=16,agg:=false,zero:=some [.lit (.string (ByteArray.mk #[]))],flds:=[],eqs:=some [.str] }:=by kernel_rfl
theorem afT:mb Tryz.prog 9 (.c (.lit (.string y))) K=K (.c (.lit (.int .i64 y.size))):=SG FM rfl
theorem aip:dJ Tryz.prog 9 s (.c (.rp cs o)) K=dZ false 1 o cs K:=Am FM rfl rfl
theorem afU:dJ Tryz.prog 9 ⟨fr,bx,nb⟩ (.bp b o) K=(dE (bx b)=false/\ldB nb b (bx b) o K):=nC FM rfl
theorem sD:ti Tryz.prog 22=some { kd:=.slice 56,size:=1,bytes:=24,agg:=false,zero:=some [.sl []],flds:=[],eqs:=none }:=by kernel_rfl
theorem acm:mb Tryz.prog 22 (.c (.sl es)) K=K (.c (.lit (.int .i64 es.length))):=nM sD rfl
theorem acn:dJ Tryz.prog 22 ⟨fr,bx,nb⟩ (.bp b o) K=(dE (bx b)=false/\ldB nb b (bx b) o K):=nC sD rfl
theorem vg:ti Tryz.prog 23=some { kd:=.slice 94,size:=1,bytes:=24,agg:=false,zero:=some [.sl []],flds:=[],eqs:=none }:=by kernel_rfl
theorem aco:mb Tryz.prog 23 (.c (.sl es)) K=K (.c (.lit (.int .i64 es.length))):=nM vg rfl
theorem acp:dJ Tryz.prog 23 ⟨fr,bx,nb⟩ (.bp b o) K=(dE (bx b)=false/\ldB nb b (bx b) o K):=nC vg rfl
theorem BC:ti Tryz.prog 24=some { kd:=.slice 154,size:=1,bytes:=24,agg:=false,zero:=some [.sl []],flds:=[],eqs:=none }:=by kernel_rfl
theorem acr:mb Tryz.prog 24 (.c (.sl es)) K=K (.c (.lit (.int .i64 es.length))):=nM BC rfl
theorem acs:dJ Tryz.prog 24 ⟨fr,bx,nb⟩ (.bp b o) K=(dE (bx b)=false/\ldB nb b (bx b) o K):=nC BC rfl
theorem zq:ti Tryz.prog 26=some { kd:=.struct,size:=4,bytes:=88,agg:=true,zero:=some [.lit (.string (ByteArray.mk #[])),.sl [],.sl [],.sl []],flds:=[(0,1,false),(1,1,false),(2,1,false),(3,1,false)],eqs:=none }:=by kernel_rfl
theorem acu:VStep Tryz.prog G tr ⟨some d,.alloc 26,ty,pos,af,g⟩ ⟨fr,bx,nb⟩ H=H ⟨up fr d (.bp nb 0),up bx nb [.c (.lit (.string (ByteArray.mk #[]))),.ow none [],.ow none [],.ow none []],nb+1⟩:=mW zq rfl
theorem acv:dJ Tryz.prog 26 ⟨fr,bx,nb⟩ (.bp b o) K=(dE (bx b)=false/\ldA nb b (bx b) o 4 K):=mT zq rfl rfl
theorem acw:gI Tryz.prog 26 parts K=tG [(0,1,false),(1,1,false),(2,1,false),(3,1,false)] [.lit (.string (ByteArray.mk #[])),.sl [],.sl [],.sl []] parts K (jk [(0,1,false),(1,1,false),(2,1,false),(3,1,false)] parts [.lit (.string (ByteArray.mk #[])),.sl [],.sl [],.sl []]):=kO zq rfl rfl rfl
theorem TG:bj Tryz.prog 26 (.bp b o) 0 K=K (.bp b (o+0)):=eW zq rfl (by decide)
theorem TJ:bj Tryz.prog 26 (.bp b o) 1 K=K (.bp b (o+1)):=eW zq rfl (by decide)
theorem TK:bj Tryz.prog 26 (.bp b o) 2 K=K (.bp b (o+2)):=eW zq rfl (by decide)
theorem TL:bj Tryz.prog 26 (.bp b o) 3 K=K (.bp b (o+3)):=eW zq rfl (by decide)
theorem acx:oV (ti Tryz.prog 26) t q (.bp b o) v ⟨fr,bx,nb⟩ H=(dE (bx b)=false/\stS 4 t q b o v ⟨fr,bx,nb⟩ H):=by rw[zq];exact kN rfl
theorem MV:ti Tryz.prog 27=some { kd:=.slice 29,size:=1,bytes:=24,agg:=false,zero:=some [.sl []],flds:=[],eqs:=none }:=by kernel_rfl
theorem acy:mb Tryz.prog 27 (.c (.sl es)) K=K (.c (.lit (.int .i64 es.length))):=nM MV rfl
theorem qU:ti Tryz.prog 29=some { kd:=.struct,size:=5,bytes:=40,agg:=true,zero:=some [.lit (.int .i64 0),.lit (.int .i64 0),.lit (.int .i64 0),.lit (.int .i64 0),.lit (.int .i64 0)],flds:=[(0,1,false),(1,1,false),(2,1,false),(3,1,false),(4,1,false)],eqs:=some [.int,.int,.int,.int,.int] }:=by kernel_rfl
theorem acz:VStep Tryz.prog G tr ⟨some d,.alloc 29,ty,pos,af,g⟩ ⟨fr,bx,nb⟩ H=H ⟨up fr d (.bp nb 0),up bx nb [.c (.lit (.int .i64 0)),.c (.lit (.int .i64 0)),.c (.lit (.int .i64 0)),.c (.lit (.int .i64 0)),.c (.lit (.int .i64 0))],nb+1⟩:=mW qU rfl
theorem afV (h:cs.length=5):dJ Tryz.prog 29 s (.c (.rp cs 0)) K=K (.agg cs):=rK qU rfl h
theorem acA:dJ Tryz.prog 29 ⟨fr,bx,nb⟩ (.bp b o) K=(dE (bx b)=false/\ldA nb b (bx b) o 5 K):=mT qU rfl rfl
theorem acB:gI Tryz.prog 29 parts K=tG [(0,1,false),(1,1,false),(2,1,false),(3,1,false),(4,1,false)] [.lit (.int .i64 0),.lit (.int .i64 0),.lit (.int .i64 0),.lit (.int .i64 0),.lit (.int .i64 0)] parts K (jk [(0,1,false),(1,1,false),(2,1,false),(3,1,false),(4,1,false)] parts [.lit (.int .i64 0),.lit (.int .i64 0),.lit (.int .i64 0),.lit (.int .i64 0),.lit (.int .i64 0)]):=kO qU rfl rfl rfl
theorem TM:bj Tryz.prog 29 (.bp b o) 0 K=K (.bp b (o+0)):=eW qU rfl (by decide)
theorem TN:bj Tryz.prog 29 (.bp b o) 1 K=K (.bp b (o+1)):=eW qU rfl (by decide)
theorem TO:bj Tryz.prog 29 (.bp b o) 2 K=K (.bp b (o+2)):=eW qU rfl (by decide)
theorem TP:bj Tryz.prog 29 (.bp b o) 3 K=K (.bp b (o+3)):=eW qU rfl (by decide)
theorem TQ:bj Tryz.prog 29 (.bp b o) 4 K=K (.bp b (o+4)):=eW qU rfl (by decide)
theorem acC:oV (ti Tryz.prog 29) t q (.bp b o) v ⟨fr,bx,nb⟩ H=(dE (bx b)=false/\stS 5 t q b o v ⟨fr,bx,nb⟩ H):=by rw[qU];exact kN rfl
theorem ko:ti Tryz.prog 32=some { kd:=.slice 49,size:=1,bytes:=24,agg:=false,zero:=some [.sl []],flds:=[],eqs:=none }:=by kernel_rfl
theorem acD:mb Tryz.prog 32 (.c (.sl es)) K=K (.c (.lit (.int .i64 es.length))):=nM ko rfl
theorem acE:dJ Tryz.prog 32 ⟨fr,bx,nb⟩ (.bp b o) K=(dE (bx b)=false/\ldB nb b (bx b) o K):=nC ko rfl
theorem acF:oV (ti Tryz.prog 32) t q (.bp b o) v ⟨fr,bx,nb⟩ H=(dE (bx b)=false/\stS 1 t q b o v ⟨fr,bx,nb⟩ H):=by rw[ko];exact kN rfl
theorem dc:ti Tryz.prog 33=some { kd:=.slice 47,size:=1,bytes:=24,agg:=false,zero:=some [.sl []],flds:=[],eqs:=none }:=by kernel_rfl
theorem acG:mb Tryz.prog 33 (.c (.sl es)) K=K (.c (.lit (.int .i64 es.length))):=nM dc rfl
theorem acH:VStep Tryz.prog G tr ⟨some d,.alloc 33,ty,pos,af,g⟩ ⟨fr,bx,nb⟩ H=H ⟨up fr d (.bp nb 0),up bx nb [.ow none []],nb+1⟩:=mW dc rfl
theorem afW:dJ Tryz.prog 33 s (.c (.rp cs o)) K=dZ false 1 o cs K:=Am dc rfl rfl
theorem acI:dJ Tryz.prog 33 ⟨fr,bx,nb⟩ (.bp b o) K=(dE (bx b)=false/\ldB nb b (bx b) o K):=nC dc rfl
theorem acJ:oV (ti Tryz.prog 33) t q (.bp b o) v ⟨fr,bx,nb⟩ H=(dE (bx b)=false/\stS 1 t q b o v ⟨fr,bx,nb⟩ H):=by rw[dc];exact kN rfl
theorem sE:ti Tryz.prog 35=some { kd:=.struct,size:=5,bytes:=104,agg:=true,zero:=some [.sl [],.sl [],.sl [],.sl [],.lit (.int .i64 0)],flds:=[(0,1,false),(1,1,false),(2,1,false),(3,1,false),(4,1,false)],eqs:=none }:=by kernel_rfl
theorem acK:VStep Tryz.prog G tr ⟨some d,.alloc 35,ty,pos,af,g⟩ ⟨fr,bx,nb⟩ H=H ⟨up fr d (.bp nb 0),up bx nb [.ow none [],.ow none [],.ow none [],.ow none [],.c (.lit (.int .i64 0))],nb+1⟩:=mW sE rfl
theorem acL:dJ Tryz.prog 35 ⟨fr,bx,nb⟩ (.bp b o) K=(dE (bx b)=false/\ldA nb b (bx b) o 5 K):=mT sE rfl rfl
theorem acM:rx Tryz.prog 35 parts K=S0 K (nj [(0,1,false),(1,1,false),(2,1,false),(3,1,false),(4,1,false)] parts [.ow none [],.ow none [],.ow none [],.ow none [],.c (.lit (.int .i64 0))]):=X6 sE rfl rfl rfl
theorem acN:gI Tryz.prog 35 parts K=tG [(0,1,false),(1,1,false),(2,1,false),(3,1,false),(4,1,false)] [.sl [],.sl [],.sl [],.sl [],.lit (.int .i64 0)] parts K (jk [(0,1,false),(1,1,false),(2,1,false),(3,1,false),(4,1,false)] parts [.sl [],.sl [],.sl [],.sl [],.lit (.int .i64 0)]):=kO sE rfl rfl rfl
theorem TR:bj Tryz.prog 35 (.bp b o) 0 K=K (.bp b (o+0)):=eW sE rfl (by decide)
theorem TS:bj Tryz.prog 35 (.bp b o) 1 K=K (.bp b (o+1)):=eW sE rfl (by decide)
theorem TU:bj Tryz.prog 35 (.bp b o) 2 K=K (.bp b (o+2)):=eW sE rfl (by decide)
theorem TV:bj Tryz.prog 35 (.bp b o) 3 K=K (.bp b (o+3)):=eW sE rfl (by decide)
theorem TW:bj Tryz.prog 35 (.bp b o) 4 K=K (.bp b (o+4)):=eW sE rfl (by decide)
theorem acO:oV (ti Tryz.prog 35) t q (.bp b o) v ⟨fr,bx,nb⟩ H=(dE (bx b)=false/\stS 5 t q b o v ⟨fr,bx,nb⟩ H):=by rw[sE];exact kN rfl
theorem Iu:ti Tryz.prog 36=some { kd:=.int .i64,size:=1,bytes:=8,agg:=false,zero:=some [.lit (.int .i64 0)],flds:=[],eqs:=some [.int] }:=by kernel_rfl
theorem acP:VStep Tryz.prog G tr ⟨some d,.alloc 36,ty,pos,af,g⟩ ⟨fr,bx,nb⟩ H=H ⟨up fr d (.bp nb 0),up bx nb [.c (.lit (.int .i64 0))],nb+1⟩:=mW Iu rfl
theorem acQ:dJ Tryz.prog 36 ⟨fr,bx,nb⟩ (.bp b o) K=(dE (bx b)=false/\ldB nb b (bx b) o K):=nC Iu rfl
theorem acR:oV (ti Tryz.prog 36) t q (.bp b o) v ⟨fr,bx,nb⟩ H=(dE (bx b)=false/\stS 1 t q b o v ⟨fr,bx,nb⟩ H):=by rw[Iu];exact kN rfl
theorem kD:ti Tryz.prog 43=some { kd:=.slice 62,size:=1,bytes:=24,agg:=false,zero:=some [.sl []],flds:=[],eqs:=none }:=by kernel_rfl
theorem acS:mb Tryz.prog 43 (.c (.sl es)) K=K (.c (.lit (.int .i64 es.length))):=nM kD rfl
theorem Yw:mb Tryz.prog 43 (.ms b o l c z) K=K (.c (.lit (.int .i64 l))):=XI kD rfl
theorem cV:ti Tryz.prog 47=some { kd:=.struct,size:=3,bytes:=40,agg:=true,zero:=some [.lit (.int .i64 0),.lit (.int .i64 0),.sl []],flds:=[(0,1,false),(1,1,false),(2,1,false)],eqs:=none }:=by kernel_rfl
theorem acT:VStep Tryz.prog G tr ⟨some d,.alloc 47,ty,pos,af,g⟩ ⟨fr,bx,nb⟩ H=H ⟨up fr d (.bp nb 0),up bx nb [.c (.lit (.int .i64 0)),.c (.lit (.int .i64 0)),.ow none []],nb+1⟩:=mW cV rfl
theorem jr (h:cs.length=3):dJ Tryz.prog 47 s (.c (.rp cs 0)) K=K (.agg cs):=rK cV rfl h
theorem acU:dJ Tryz.prog 47 ⟨fr,bx,nb⟩ (.bp b o) K=(dE (bx b)=false/\ldA nb b (bx b) o 3 K):=mT cV rfl rfl
theorem acV:gI Tryz.prog 47 parts K=tG [(0,1,false),(1,1,false),(2,1,false)] [.lit (.int .i64 0),.lit (.int .i64 0),.sl []] parts K (jk [(0,1,false),(1,1,false),(2,1,false)] parts [.lit (.int .i64 0),.lit (.int .i64 0),.sl []]):=kO cV rfl rfl rfl
theorem Yx:bj Tryz.prog 47 (.c (.rp cs o)) 0 K=K (.c (.rp cs (o+0))):=tC cV rfl (by decide)
theorem TX:bj Tryz.prog 47 (.bp b o) 0 K=K (.bp b (o+0)):=eW cV rfl (by decide)
theorem TY:bj Tryz.prog 47 (.bp b o) 1 K=K (.bp b (o+1)):=eW cV rfl (by decide)
theorem Yy:bj Tryz.prog 47 (.c (.rp cs o)) 2 K=K (.c (.rp cs (o+2))):=tC cV rfl (by decide)
theorem TZ:bj Tryz.prog 47 (.bp b o) 2 K=K (.bp b (o+2)):=eW cV rfl (by decide)
theorem acW:oV (ti Tryz.prog 47) t q (.bp b o) v ⟨fr,bx,nb⟩ H=(dE (bx b)=false/\stS 3 t q b o v ⟨fr,bx,nb⟩ H):=by rw[cV];exact kN rfl
theorem iT:ti Tryz.prog 49=some { kd:=.struct,size:=4,bytes:=48,agg:=true,zero:=some [.lit (.int .i64 0),.lit (.int .i64 0),.lit (.int .i64 0),.sl []],flds:=[(0,1,false),(1,3,true)],eqs:=none }:=by kernel_rfl
theorem acX:VStep Tryz.prog G tr ⟨some d,.alloc 49,ty,pos,af,g⟩ ⟨fr,bx,nb⟩ H=H ⟨up fr d (.bp nb 0),up bx nb [.c (.lit (.int .i64 0)),.c (.lit (.int .i64 0)),.c (.lit (.int .i64 0)),.ow none []],nb+1⟩:=mW iT rfl
theorem afX (h:cs.length=4):dJ Tryz.prog 49 s (.c (.rp cs 0)) K=K (.agg cs):=rK iT rfl h
theorem acY:dJ Tryz.prog 49 ⟨fr,bx,nb⟩ (.bp b o) K=(dE (bx b)=false/\ldA nb b (bx b) o 4 K):=mT iT rfl rfl
theorem acZ:gI Tryz.prog 49 parts K=tG [(0,1,false),(1,3,true)] [.lit (.int .i64 0),.lit (.int .i64 0),.lit (.int .i64 0),.sl []] parts K (jk [(0,1,false),(1,3,true)] parts [.lit (.int .i64 0),.lit (.int .i64 0),.lit (.int .i64 0),.sl []]):=kO iT rfl rfl rfl
theorem Yz:bj Tryz.prog 49 (.c (.rp cs o)) 0 K=K (.c (.rp cs (o+0))):=tC iT rfl (by decide)
theorem T0:bj Tryz.prog 49 (.bp b o) 0 K=K (.bp b (o+0)):=eW iT rfl (by decide)
theorem YA:bj Tryz.prog 49 (.c (.rp cs o)) 1 K=K (.c (.rp cs (o+1))):=tC iT rfl (by decide)
theorem T8:bj Tryz.prog 49 (.bp b o) 1 K=K (.bp b (o+1)):=eW iT rfl (by decide)
theorem ac0:oV (ti Tryz.prog 49) t q (.bp b o) v ⟨fr,bx,nb⟩ H=(dE (bx b)=false/\stS 4 t q b o v ⟨fr,bx,nb⟩ H):=by rw[iT];exact kN rfl
theorem mz:ti Tryz.prog 56=some { kd:=.struct,size:=3,bytes:=32,agg:=true,zero:=some [.lit (.string (ByteArray.mk #[])),.lit (.int .i64 0),.lit (.int .i64 0)],flds:=[(0,1,false),(1,1,false),(2,1,false)],eqs:=some [.str,.int,.int] }:=by kernel_rfl
theorem ac1:VStep Tryz.prog G tr ⟨some d,.alloc 56,ty,pos,af,g⟩ ⟨fr,bx,nb⟩ H=H ⟨up fr d (.bp nb 0),up bx nb [.c (.lit (.string (ByteArray.mk #[]))),.c (.lit (.int .i64 0)),.c (.lit (.int .i64 0))],nb+1⟩:=mW mz rfl
theorem afY (h:cs.length=3):dJ Tryz.prog 56 s (.c (.rp cs 0)) K=K (.agg cs):=rK mz rfl h
theorem ac2:gI Tryz.prog 56 parts K=tG [(0,1,false),(1,1,false),(2,1,false)] [.lit (.string (ByteArray.mk #[])),.lit (.int .i64 0),.lit (.int .i64 0)] parts K (jk [(0,1,false),(1,1,false),(2,1,false)] parts [.lit (.string (ByteArray.mk #[])),.lit (.int .i64 0),.lit (.int .i64 0)]):=kO mz rfl rfl rfl
theorem YC:bj Tryz.prog 56 (.c (.rp cs o)) 0 K=K (.c (.rp cs (o+0))):=tC mz rfl (by decide)
theorem T9:bj Tryz.prog 56 (.bp b o) 0 K=K (.bp b (o+0)):=eW mz rfl (by decide)
theorem YD:bj Tryz.prog 56 (.c (.rp cs o)) 1 K=K (.c (.rp cs (o+1))):=tC mz rfl (by decide)
theorem Ua:bj Tryz.prog 56 (.bp b o) 1 K=K (.bp b (o+1)):=eW mz rfl (by decide)
theorem YF:bj Tryz.prog 56 (.c (.rp cs o)) 2 K=K (.c (.rp cs (o+2))):=tC mz rfl (by decide)
theorem Ub:bj Tryz.prog 56 (.bp b o) 2 K=K (.bp b (o+2)):=eW mz rfl (by decide)
theorem ac3:oV (ti Tryz.prog 56) t q (.bp b o) v ⟨fr,bx,nb⟩ H=(dE (bx b)=false/\stS 3 t q b o v ⟨fr,bx,nb⟩ H):=by rw[mz];exact kN rfl
theorem jb:ti Tryz.prog 62=some { kd:=.struct,size:=3,bytes:=24,agg:=true,zero:=some [.lit (.int .i64 0),.lit (.int .i64 0),.lit (.int .i64 0)],flds:=[(0,1,false),(1,1,false),(2,1,false)],eqs:=some [.int,.int,.int] }:=by kernel_rfl
theorem afZ (h:cs.length=3):dJ Tryz.prog 62 s (.c (.rp cs 0)) K=K (.agg cs):=rK jb rfl h
theorem ac4:dJ Tryz.prog 62 ⟨fr,bx,nb⟩ (.bp b o) K=(dE (bx b)=false/\ldA nb b (bx b) o 3 K):=mT jb rfl rfl
theorem ac5:gI Tryz.prog 62 parts K=tG [(0,1,false),(1,1,false),(2,1,false)] [.lit (.int .i64 0),.lit (.int .i64 0),.lit (.int .i64 0)] parts K (jk [(0,1,false),(1,1,false),(2,1,false)] parts [.lit (.int .i64 0),.lit (.int .i64 0),.lit (.int .i64 0)]):=kO jb rfl rfl rfl
theorem Uc:bj Tryz.prog 62 (.bp b o) 0 K=K (.bp b (o+0)):=eW jb rfl (by decide)
theorem Ud:bj Tryz.prog 62 (.bp b o) 1 K=K (.bp b (o+1)):=eW jb rfl (by decide)
theorem Ue:bj Tryz.prog 62 (.bp b o) 2 K=K (.bp b (o+2)):=eW jb rfl (by decide)
theorem ac6:oV (ti Tryz.prog 62) t q (.bp b o) v ⟨fr,bx,nb⟩ H=(dE (bx b)=false/\stS 3 t q b o v ⟨fr,bx,nb⟩ H):=by rw[jb];exact kN rfl
theorem MW:ti Tryz.prog 67=some { kd:=.struct,size:=14,bytes:=232,agg:=true,zero:=some [.lit (.string (ByteArray.mk #[])),.sl [],.sl [],.sl [],.sl [],.sl [],.sl [],.sl [],.lit (.int .i64 0),.lit (.int .i64 0),.lit (.int .i64 0),.lit (.int .i64 0),.lit (.int .i64 0),.lit (.int .i64 0)],flds:=[(0,4,true),(4,5,true),(9,5,true)],eqs:=none }:=by kernel_rfl
theorem ac7:gI Tryz.prog 67 parts K=tG [(0,4,true),(4,5,true),(9,5,true)] [.lit (.string (ByteArray.mk #[])),.sl [],.sl [],.sl [],.sl [],.sl [],.sl [],.sl [],.lit (.int .i64 0),.lit (.int .i64 0),.lit (.int .i64 0),.lit (.int .i64 0),.lit (.int .i64 0),.lit (.int .i64 0)] parts K (jk [(0,4,true),(4,5,true),(9,5,true)] parts [.lit (.string (ByteArray.mk #[])),.sl [],.sl [],.sl [],.sl [],.sl [],.sl [],.sl [],.lit (.int .i64 0),.lit (.int .i64 0),.lit (.int .i64 0),.lit (.int .i64 0),.lit (.int .i64 0),.lit (.int .i64 0)]):=kO MW rfl rfl rfl
theorem Uf:bj Tryz.prog 67 (.bp b o) 0 K=K (.bp b (o+0)):=eW MW rfl (by decide)
theorem Ug:bj Tryz.prog 67 (.bp b o) 1 K=K (.bp b (o+4)):=eW MW rfl (by decide)
theorem Uh:bj Tryz.prog 67 (.bp b o) 2 K=K (.bp b (o+9)):=eW MW rfl (by decide)
theorem zr:ti Tryz.prog 71=some { kd:=.struct,size:=9,bytes:=104,agg:=true,zero:=some [.lit (.bool false),.lit (.int .i64 0),.lit (.int .i64 0),.lit (.int .i64 0),.sl [],.lit (.int .i64 0),.lit (.int .i64 0),.sl [],.lit (.int .i64 0)],flds:=[(0,1,false),(1,4,true),(5,3,true),(8,1,false)],eqs:=none }:=by kernel_rfl
theorem ac8:VStep Tryz.prog G tr ⟨some d,.alloc 71,ty,pos,af,g⟩ ⟨fr,bx,nb⟩ H=H ⟨up fr d (.bp nb 0),up bx nb [.c (.lit (.bool false)),.c (.lit (.int .i64 0)),.c (.lit (.int .i64 0)),.c (.lit (.int .i64 0)),.ow none [],.c (.lit (.int .i64 0)),.c (.lit (.int .i64 0)),.ow none [],.c (.lit (.int .i64 0))],nb+1⟩:=mW zr rfl
theorem ac9:dJ Tryz.prog 71 ⟨fr,bx,nb⟩ (.bp b o) K=(dE (bx b)=false/\ldA nb b (bx b) o 9 K):=mT zr rfl rfl
theorem ada:gI Tryz.prog 71 parts K=tG [(0,1,false),(1,4,true),(5,3,true),(8,1,false)] [.lit (.bool false),.lit (.int .i64 0),.lit (.int .i64 0),.lit (.int .i64 0),.sl [],.lit (.int .i64 0),.lit (.int .i64 0),.sl [],.lit (.int .i64 0)] parts K (jk [(0,1,false),(1,4,true),(5,3,true),(8,1,false)] parts [.lit (.bool false),.lit (.int .i64 0),.lit (.int .i64 0),.lit (.int .i64 0),.sl [],.lit (.int .i64 0),.lit (.int .i64 0),.sl [],.lit (.int .i64 0)]):=kO zr rfl rfl rfl
theorem Ui:bj Tryz.prog 71 (.bp b o) 0 K=K (.bp b (o+0)):=eW zr rfl (by decide)
theorem Uj:bj Tryz.prog 71 (.bp b o) 1 K=K (.bp b (o+1)):=eW zr rfl (by decide)
theorem Uk:bj Tryz.prog 71 (.bp b o) 2 K=K (.bp b (o+5)):=eW zr rfl (by decide)
theorem Ul:bj Tryz.prog 71 (.bp b o) 3 K=K (.bp b (o+8)):=eW zr rfl (by decide)
theorem adb:oV (ti Tryz.prog 71) t q (.bp b o) v ⟨fr,bx,nb⟩ H=(dE (bx b)=false/\stS 9 t q b o v ⟨fr,bx,nb⟩ H):=by rw[zr];exact kN rfl
theorem mA:ti Tryz.prog 94=some { kd:=.struct,size:=3,bytes:=24,agg:=true,zero:=some [.lit (.int .i64 0),.lit (.int .i64 0),.lit (.int .i64 0)],flds:=[(0,1,false),(1,1,false),(2,1,false)],eqs:=some [.int,.int,.int] }:=by kernel_rfl
theorem ade:VStep Tryz.prog G tr ⟨some d,.alloc 94,ty,pos,af,g⟩ ⟨fr,bx,nb⟩ H=H ⟨up fr d (.bp nb 0),up bx nb [.c (.lit (.int .i64 0)),.c (.lit (.int .i64 0)),.c (.lit (.int .i64 0))],nb+1⟩:=mW mA rfl
theorem af0 (h:cs.length=3):dJ Tryz.prog 94 s (.c (.rp cs 0)) K=K (.agg cs):=rK mA rfl h
theorem adf:dJ Tryz.prog 94 ⟨fr,bx,nb⟩ (.bp b o) K=(dE (bx b)=false/\ldA nb b (bx b) o 3 K):=mT mA rfl rfl
theorem adg:gI Tryz.prog 94 parts K=tG [(0,1,false),(1,1,false),(2,1,false)] [.lit (.int .i64 0),.lit (.int .i64 0),.lit (.int .i64 0)] parts K (jk [(0,1,false),(1,1,false),(2,1,false)] parts [.lit (.int .i64 0),.lit (.int .i64 0),.lit (.int .i64 0)]):=kO mA rfl rfl rfl
theorem YG:bj Tryz.prog 94 (.c (.rp cs o)) 0 K=K (.c (.rp cs (o+0))):=tC mA rfl (by decide)
theorem Um:bj Tryz.prog 94 (.bp b o) 0 K=K (.bp b (o+0)):=eW mA rfl (by decide)
theorem YH:bj Tryz.prog 94 (.c (.rp cs o)) 1 K=K (.c (.rp cs (o+1))):=tC mA rfl (by decide)
theorem Un:bj Tryz.prog 94 (.bp b o) 1 K=K (.bp b (o+1)):=eW mA rfl (by decide)
theorem YI:bj Tryz.prog 94 (.c (.rp cs o)) 2 K=K (.c (.rp cs (o+2))):=tC mA rfl (by decide)
theorem Uo:bj Tryz.prog 94 (.bp b o) 2 K=K (.bp b (o+2)):=eW mA rfl (by decide)
theorem adh:oV (ti Tryz.prog 94) t q (.bp b o) v ⟨fr,bx,nb⟩ H=(dE (bx b)=false/\stS 3 t q b o v ⟨fr,bx,nb⟩ H):=by rw[mA];exact kN rfl
theorem Iv:ti Tryz.prog 97=some { kd:=.arr 16 1,size:=16,bytes:=128,agg:=true,zero:=some [.lit .nilFunc,.lit .nilFunc,.lit .nilFunc,.lit .nilFunc,.lit .nilFunc,.lit .nilFunc,.lit .nilFunc,.lit .nilFunc,.lit .nilFunc,.lit .nilFunc,.lit .nilFunc,.lit .nilFunc,.lit .nilFunc,.lit .nilFunc,.lit .nilFunc,.lit .nilFunc],flds:=[],eqs:=none }:=by kernel_rfl
theorem adi:VStep Tryz.prog G tr ⟨some d,.alloc 97,ty,pos,af,g⟩ ⟨fr,bx,nb⟩ H=H ⟨up fr d (.bp nb 0),up bx nb (ach 16 (.c (.lit .nilFunc))),nb+1⟩:=mW Iv rfl
theorem adj:oV (ti Tryz.prog 97) t q (.bp b o) v ⟨fr,bx,nb⟩ H=(dE (bx b)=false/\stS 16 t q b o v ⟨fr,bx,nb⟩ H):=by rw[Iv];exact kN rfl
theorem oC:ti Tryz.prog 100=some { kd:=.struct,size:=5,bytes:=5,agg:=true,zero:=some [.lit (.bool false),.lit (.bool false),.lit (.bool false),.lit (.bool false),.lit (.bool false)],flds:=[(0,1,false),(1,1,false),(2,1,false),(3,1,false),(4,1,false)],eqs:=some [.bool,.bool,.bool,.bool,.bool] }:=by kernel_rfl
theorem YJ:VStep Tryz.prog G tr ⟨some d,.alloc 100,ty,pos,af,g⟩ ⟨fr,bx,nb⟩ H=H ⟨up fr d (.bp nb 0),up bx nb [.c (.lit (.bool false)),.c (.lit (.bool false)),.c (.lit (.bool false)),.c (.lit (.bool false)),.c (.lit (.bool false))],nb+1⟩:=mW oC rfl
theorem adk (h:cs.length=5):dJ Tryz.prog 100 s (.c (.rp cs 0)) K=K (.agg cs):=rK oC rfl h
theorem YK:dJ Tryz.prog 100 ⟨fr,bx,nb⟩ (.bp b o) K=(dE (bx b)=false/\ldA nb b (bx b) o 5 K):=mT oC rfl rfl
theorem YL:gI Tryz.prog 100 parts K=tG [(0,1,false),(1,1,false),(2,1,false),(3,1,false),(4,1,false)] [.lit (.bool false),.lit (.bool false),.lit (.bool false),.lit (.bool false),.lit (.bool false)] parts K (jk [(0,1,false),(1,1,false),(2,1,false),(3,1,false),(4,1,false)] parts [.lit (.bool false),.lit (.bool false),.lit (.bool false),.lit (.bool false),.lit (.bool false)]):=kO oC rfl rfl rfl
theorem Pw:bj Tryz.prog 100 (.bp b o) 0 K=K (.bp b (o+0)):=eW oC rfl (by decide)
theorem Px:bj Tryz.prog 100 (.bp b o) 1 K=K (.bp b (o+1)):=eW oC rfl (by decide)
theorem Py:bj Tryz.prog 100 (.bp b o) 2 K=K (.bp b (o+2)):=eW oC rfl (by decide)
theorem Pz:bj Tryz.prog 100 (.bp b o) 3 K=K (.bp b (o+3)):=eW oC rfl (by decide)
theorem PC:bj Tryz.prog 100 (.bp b o) 4 K=K (.bp b (o+4)):=eW oC rfl (by decide)
theorem YM:oV (ti Tryz.prog 100) t q (.bp b o) v ⟨fr,bx,nb⟩ H=(dE (bx b)=false/\stS 5 t q b o v ⟨fr,bx,nb⟩ H):=by rw[oC];exact kN rfl
theorem aat:zaB Tryz.prog 47=true:=by kernel_rfl
theorem vP:ti Tryz.prog 105=some { kd:=.map 9 47,size:=1,bytes:=8,agg:=false,zero:=some [.lit (.map none)],flds:=[],eqs:=none }:=by kernel_rfl
theorem YN:VStep Tryz.prog G tr ⟨dO,.makeMap 105 none,ty,pos,af,g⟩ ⟨fr,bx,nb⟩ H=H ((⟨fr,up bx nb [.mk [] 0],nb+1⟩:S).put dO (.mr nb)):=Bm vP rfl
theorem YO:dJ Tryz.prog 105 ⟨fr,bx,nb⟩ (.bp b o) K=(dE (bx b)=false/\ldB nb b (bx b) o K):=nC vP rfl
theorem YP:oV (ti Tryz.prog 105) t q (.bp b o) v ⟨fr,bx,nb⟩ H=(dE (bx b)=false/\stS 1 t q b o v ⟨fr,bx,nb⟩ H):=by rw[vP];exact kN rfl
theorem FN:ti Tryz.prog 112=some { kd:=.slice 3,size:=1,bytes:=24,agg:=false,zero:=some [.sl []],flds:=[],eqs:=none }:=by kernel_rfl
theorem YQ:mb Tryz.prog 112 (.c (.sl es)) K=K (.c (.lit (.int .i64 es.length))):=nM FN rfl
theorem Up:ti Tryz.prog 131=some { kd:=.slice 100,size:=1,bytes:=24,agg:=false,zero:=some [.sl []],flds:=[],eqs:=none }:=by kernel_rfl
theorem mZ:ti Tryz.prog 154=some { kd:=.struct,size:=5,bytes:=40,agg:=true,zero:=some [.lit (.int .i64 0),.lit (.int .i64 0),.lit (.int .i64 0),.lit (.int .i64 0),.lit (.int .i64 0)],flds:=[(0,1,false),(1,1,false),(2,1,false),(3,1,false),(4,1,false)],eqs:=some [.int,.int,.int,.int,.int] }:=by kernel_rfl
theorem YR:VStep Tryz.prog G tr ⟨some d,.alloc 154,ty,pos,af,g⟩ ⟨fr,bx,nb⟩ H=H ⟨up fr d (.bp nb 0),up bx nb [.c (.lit (.int .i64 0)),.c (.lit (.int .i64 0)),.c (.lit (.int .i64 0)),.c (.lit (.int .i64 0)),.c (.lit (.int .i64 0))],nb+1⟩:=mW mZ rfl
theorem adl (h:cs.length=5):dJ Tryz.prog 154 s (.c (.rp cs 0)) K=K (.agg cs):=rK mZ rfl h
theorem Uq:bj Tryz.prog 154 (.c (.rp cs o)) 0 K=K (.c (.rp cs (o+0))):=tC mZ rfl (by decide)
theorem PD:bj Tryz.prog 154 (.bp b o) 0 K=K (.bp b (o+0)):=eW mZ rfl (by decide)
theorem PE:bj Tryz.prog 154 (.bp b o) 1 K=K (.bp b (o+1)):=eW mZ rfl (by decide)
theorem PG:bj Tryz.prog 154 (.bp b o) 2 K=K (.bp b (o+2)):=eW mZ rfl (by decide)
theorem PH:bj Tryz.prog 154 (.bp b o) 3 K=K (.bp b (o+3)):=eW mZ rfl (by decide)
theorem PI:bj Tryz.prog 154 (.bp b o) 4 K=K (.bp b (o+4)):=eW mZ rfl (by decide)
theorem YS:oV (ti Tryz.prog 154) t q (.bp b o) v ⟨fr,bx,nb⟩ H=(dE (bx b)=false/\stS 5 t q b o v ⟨fr,bx,nb⟩ H):=by rw[mZ];exact kN rfl
theorem vQ:ti Tryz.prog 157=some { kd:=.struct,size:=3,bytes:=32,agg:=true,zero:=some [.lit (.string (ByteArray.mk #[])),.lit (.int .i64 0),.lit (.bool false)],flds:=[(0,1,false),(1,1,false),(2,1,false)],eqs:=some [.str,.int,.bool] }:=by kernel_rfl
theorem YT:gI Tryz.prog 157 parts K=tG [(0,1,false),(1,1,false),(2,1,false)] [.lit (.string (ByteArray.mk #[])),.lit (.int .i64 0),.lit (.bool false)] parts K (jk [(0,1,false),(1,1,false),(2,1,false)] parts [.lit (.string (ByteArray.mk #[])),.lit (.int .i64 0),.lit (.bool false)]):=kO vQ rfl rfl rfl
theorem PK:bj Tryz.prog 157 (.bp b o) 0 K=K (.bp b (o+0)):=eW vQ rfl (by decide)
theorem PL:bj Tryz.prog 157 (.bp b o) 1 K=K (.bp b (o+1)):=eW vQ rfl (by decide)
theorem PM:bj Tryz.prog 157 (.bp b o) 2 K=K (.bp b (o+2)):=eW vQ rfl (by decide)
theorem YU:oV (ti Tryz.prog 157) t q (.bp b o) v ⟨fr,bx,nb⟩ H=(dE (bx b)=false/\stS 3 t q b o v ⟨fr,bx,nb⟩ H):=by rw[vQ];exact kN rfl
theorem Lc:ti Tryz.prog 158=some { kd:=.map 3 157,size:=1,bytes:=8,agg:=false,zero:=some [.lit (.map none)],flds:=[],eqs:=none }:=by kernel_rfl
theorem YV:VStep Tryz.prog G tr ⟨dO,.makeMap 158 none,ty,pos,af,g⟩ ⟨fr,bx,nb⟩ H=H ((⟨fr,up bx nb [.mk [] 0],nb+1⟩:S).put dO (.mr nb)):=Bm Lc rfl
theorem Ur:zaB Tryz.prog 157=true:=by kernel_rfl
theorem Ut:ti Tryz.prog 161=some { kd:=.slice 9,size:=1,bytes:=24,agg:=false,zero:=some [.sl []],flds:=[],eqs:=none }:=by kernel_rfl
theorem Ld:ti Tryz.prog 173=some { kd:=.slice 5,size:=1,bytes:=24,agg:=false,zero:=some [.sl []],flds:=[],eqs:=none }:=by kernel_rfl
theorem YW:mb Tryz.prog 173 (.c (.sl es)) K=K (.c (.lit (.int .i64 es.length))):=nM Ld rfl
theorem vR:ti Tryz.prog 178=some { kd:=.struct,size:=3,bytes:=24,agg:=true,zero:=some [.lit (.int .i64 0),.lit (.int .i64 0),.lit (.int .i64 0)],flds:=[(0,1,false),(1,1,false),(2,1,false)],eqs:=some [.int,.int,.int] }:=by kernel_rfl
theorem adm (h:cs.length=3):dJ Tryz.prog 178 s (.c (.rp cs 0)) K=K (.agg cs):=rK vR rfl h
theorem YX:gI Tryz.prog 178 parts K=tG [(0,1,false),(1,1,false),(2,1,false)] [.lit (.int .i64 0),.lit (.int .i64 0),.lit (.int .i64 0)] parts K (jk [(0,1,false),(1,1,false),(2,1,false)] parts [.lit (.int .i64 0),.lit (.int .i64 0),.lit (.int .i64 0)]):=kO vR rfl rfl rfl
theorem PN:bj Tryz.prog 178 (.bp b o) 0 K=K (.bp b (o+0)):=eW vR rfl (by decide)
theorem PO:bj Tryz.prog 178 (.bp b o) 1 K=K (.bp b (o+1)):=eW vR rfl (by decide)
theorem PP:bj Tryz.prog 178 (.bp b o) 2 K=K (.bp b (o+2)):=eW vR rfl (by decide)
theorem adn:ti Tryz.prog 179=some { kd:=.arr 3 3,size:=3,bytes:=24,agg:=true,zero:=some [.lit (.int .i64 0),.lit (.int .i64 0),.lit (.int .i64 0)],flds:=[],eqs:=some [.int,.int,.int] }:=by kernel_rfl
theorem Lf:ti Tryz.prog 198=some { kd:=.slice 178,size:=1,bytes:=24,agg:=false,zero:=some [.sl []],flds:=[],eqs:=none }:=by kernel_rfl
theorem YY:mb Tryz.prog 198 (.c (.sl es)) K=K (.c (.lit (.int .i64 es.length))):=nM Lf rfl
theorem ado (h:len*3<=16777216):da Tryz.prog 22 len parts K=yy 56 3 [.lit (.string (ByteArray.mk #[])),.lit (.int .i64 0),.lit (.int .i64 0)] len parts K:=qE sD rfl mz rfl rfl (by decide) rfl h
theorem adp (h:len*3<=16777216):da Tryz.prog 23 len parts K=yy 94 3 [.lit (.int .i64 0),.lit (.int .i64 0),.lit (.int .i64 0)] len parts K:=qE vg rfl mA rfl rfl (by decide) rfl h
theorem adq (h:len*5<=16777216):da Tryz.prog 27 len parts K=yy 29 5 [.lit (.int .i64 0),.lit (.int .i64 0),.lit (.int .i64 0),.lit (.int .i64 0),.lit (.int .i64 0)] len parts K:=qE MV rfl qU rfl rfl (by decide) rfl h
theorem adr (h:len*4<=16777216):da Tryz.prog 32 len parts K=yy 49 4 [.lit (.int .i64 0),.lit (.int .i64 0),.lit (.int .i64 0),.sl []] len parts K:=qE ko rfl iT rfl rfl (by decide) rfl h
theorem ads (h:len*3<=16777216):da Tryz.prog 33 len parts K=yy 47 3 [.lit (.int .i64 0),.lit (.int .i64 0),.sl []] len parts K:=qE dc rfl cV rfl rfl (by decide) rfl h
theorem adt:dL Tryz.prog 33 (.ow E es) (.c (.sl ys)) K=(((E=none∨E=some (47,3))/\∀ x∈es,x.length=3)/\((es.length+ys.length)*40<=140737488355328/\es.length+ys.length<=9223372036854775807/\∀ x∈ys,x.length=3)/\K (.ow (if ys.isEmpty then E else some (47,3)) (es++ys))):=KU dc rfl cV rfl rfl rfl (by decide) rfl
theorem adu (h:len*3<=16777216):da Tryz.prog 43 len parts K=yy 62 3 [.lit (.int .i64 0),.lit (.int .i64 0),.lit (.int .i64 0)] len parts K:=qE kD rfl jb rfl rfl (by decide) rfl h
theorem adv:dL Tryz.prog 43 (.ow E es) (.c (.sl ys)) K=(((E=none∨E=some (62,3))/\∀ x∈es,x.length=3)/\((es.length+ys.length)*24<=140737488355328/\es.length+ys.length<=9223372036854775807/\∀ x∈ys,x.length=3)/\K (.ow (if ys.isEmpty then E else some (62,3)) (es++ys))):=KU kD rfl jb rfl rfl rfl (by decide) rfl
theorem YZ (h:len*1<=16777216):da Tryz.prog 112 len parts K=yy 3 1 [.lit (.int .i64 0)] len parts K:=qE FN rfl FK rfl rfl (by decide) rfl h
theorem Y0 (h:len*5<=16777216):da Tryz.prog 131 len parts K=yy 100 5 [.lit (.bool false),.lit (.bool false),.lit (.bool false),.lit (.bool false),.lit (.bool false)] len parts K:=qE Up rfl oC rfl rfl (by decide) rfl h
theorem Y1 (h:len*1<=16777216):da Tryz.prog 161 len parts K=yy 9 1 [.lit (.string (ByteArray.mk #[]))] len parts K:=qE Ut rfl FM rfl rfl (by decide) rfl h
theorem Y2:dL Tryz.prog 161 (.ow E es) (.c (.sl ys)) K=(((E=none∨E=some (9,1))/\∀ x∈es,x.length=1)/\((es.length+ys.length)*16<=140737488355328/\es.length+ys.length<=9223372036854775807/\∀ x∈ys,x.length=1)/\K (.ow (if ys.isEmpty then E else some (9,1)) (es++ys))):=KU Ut rfl FM rfl rfl rfl (by decide) rfl
theorem Y3 (h:len*3<=16777216):da Tryz.prog 198 len parts K=yy 178 3 [.lit (.int .i64 0),.lit (.int .i64 0),.lit (.int .i64 0)] len parts K:=qE Lf rfl vR rfl rfl (by decide) rfl h
def pt0:=jj @afO (jj @ain (jj @afP (jj @afQ (jj @afS (jj @aio (jj @afT (jj @aip (jj @afU (jj @acm (jj @acn (jj @aco (jj @acp (jj @acr (jj @acs (jj @acu (jj @acv (jj @acw @TG)))))))))))))))))
def pt1:=jj @TJ (jj @TK (jj @TL (jj @acx (jj @acy (jj @acz (jj @afV (jj @acA (jj @acB (jj @TM (jj @TN (jj @TO (jj @TP (jj @TQ (jj @acC (jj @acD (jj @acE (jj @acF (jj @acG (jj @acH (jj @afW (jj @acI @acJ)))))))))))))))))))))
def pt2:=jj @acK (jj @acL (jj @acM (jj @acN (jj @TR (jj @TS (jj @TU (jj @TV (jj @TW (jj @acO (jj @acP (jj @acQ (jj @acR (jj @acS (jj @Yw (jj @acT (jj @jr (jj @acU (jj @acV (jj @Yx (jj @TX (jj @TY (jj @Yy (jj @TZ (jj @acW (jj @acX (jj @afX (jj @acY @acZ)))))))))))))))))))))))))))
def pt3:=jj @Yz (jj @T0 (jj @YA (jj @T8 (jj @ac0 (jj @ac1 (jj @afY (jj @ac2 (jj @YC (jj @T9 (jj @YD (jj @Ua (jj @YF (jj @Ub (jj @ac3 (jj @afZ (jj @ac4 (jj @ac5 (jj @Uc (jj @Ud (jj @Ue (jj @ac6 (jj @ac7 (jj @Uf (jj @Ug (jj @Uh (jj @ac8 @ac9))))))))))))))))))))))))))
def pt4:=jj @ada (jj @Ui (jj @Uj (jj @Uk (jj @Ul (jj @adb (jj @ade (jj @af0 (jj @adf (jj @adg (jj @YG (jj @Um (jj @YH (jj @Un (jj @YI (jj @Uo (jj @adh (jj @adi (jj @adj (jj @YJ (jj @adk (jj @YK (jj @YL (jj @Pw (jj @Px (jj @Py (jj @Pz (jj @PC @YM)))))))))))))))))))))))))))
def pt5:=jj @YO (jj @YP (jj @YQ (jj @YR (jj @adl (jj @Uq (jj @PD (jj @PE (jj @PG (jj @PH (jj @PI (jj @YS (jj @YT (jj @PK (jj @PL (jj @PM (jj @YU @YW))))))))))))))))
def pt6:=jj @adm (jj @YX (jj @PN (jj @PO (jj @PP (jj @YY (jj @ado (jj @adp (jj @adq (jj @adr (jj @ads (jj @adu (jj @YZ (jj @Y0 (jj @Y1 @Y3))))))))))))))
def ptA:=jj pt0 (jj pt1 (jj pt2 (jj pt3 (jj pt4 (jj pt5 (pt6))))))
