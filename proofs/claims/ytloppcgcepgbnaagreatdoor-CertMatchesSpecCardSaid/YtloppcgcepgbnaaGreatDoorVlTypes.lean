/- The types of the translation, as the framework sees them: closed facts, by the kernel. Printed by vltypes.py. -/
import Derived.Test.YtloppcgcepgbnaaGreatDoorVlPack
import Derived.Test.YtloppcgcepgbnaaGreatDoorChecked
import Derived.KernelRfl
set_option linter.all false
namespace Go.Proofs.YtloppcgcepgbnaaGreatDoor
open Go Go.Vl
variable {G:Gl} {tr:List Nat} {ty:TypeId} {d:Nat} {dO:Option Tmp} {pos:String} {af:Array Edge} {g:Option (Nat×Bool)} {fr:Nat->V} {bx:Nat->List V} {nb:Nat} {H:S->Prop} {s:S} {cs:List C} {o:Nat} {b:Nat} {l c z:Nat} {K:V->Prop} {t q:Option Tmp} {v:V} {x:V} {E:Option (TypeId×Nat)} {es ys:List (List C)} {y:ByteArray} {len:Nat} {parts:List (Nat×V)}
theorem mo:ti Tryz.prog 3=some { kd:=.int .i64,size:=1,bytes:=8,agg:=false,zero:=some [.lit (.int .i64 0)],flds:=[],eqs:=some [.int] }:=by kernel_rfl
theorem ajE:VStep Tryz.prog G tr ⟨some d,.alloc 3,ty,pos,af,g⟩ ⟨fr,bx,nb⟩ H=H ⟨up fr d (.bp nb 0),up bx nb [.c (.lit (.int .i64 0))],nb+1⟩:=mK mo rfl
theorem amB:dG Tryz.prog 3 s (.c (.rp cs o)) K=dI false 1 o cs K:=xM mo rfl rfl
theorem ajF:dG Tryz.prog 3 ⟨fr,bx,nb⟩ (.bp b o) K=(cL (bx b)=false/\ldB nb b (bx b) o K):=j9 mo rfl
theorem ajG:pQ (ti Tryz.prog 3) t q (.bp b o) v ⟨fr,bx,nb⟩ H=(cL (bx b)=false/\stS 1 t q b o v ⟨fr,bx,nb⟩ H):=by rw[mo];exact lK rfl
theorem HI:ti Tryz.prog 4=some { kd:=.bool,size:=1,bytes:=1,agg:=false,zero:=some [.lit (.bool false)],flds:=[],eqs:=some [.bool] }:=by kernel_rfl
theorem ajH:VStep Tryz.prog G tr ⟨some d,.alloc 4,ty,pos,af,g⟩ ⟨fr,bx,nb⟩ H=H ⟨up fr d (.bp nb 0),up bx nb [.c (.lit (.bool false))],nb+1⟩:=mK HI rfl
theorem ajI:dG Tryz.prog 4 ⟨fr,bx,nb⟩ (.bp b o) K=(cL (bx b)=false/\ldB nb b (bx b) o K):=j9 HI rfl
theorem ajJ:pQ (ti Tryz.prog 4) t q (.bp b o) v ⟨fr,bx,nb⟩ H=(cL (bx b)=false/\stS 1 t q b o v ⟨fr,bx,nb⟩ H):=by rw[HI];exact lK rfl
theorem pw:ti Tryz.prog 5=some { kd:=.int .u8,size:=1,bytes:=1,agg:=false,zero:=some [.lit (.int .u8 0)],flds:=[],eqs:=some [.int] }:=by kernel_rfl
theorem amC:dG Tryz.prog 5 s (.c (.rp cs o)) K=dI false 1 o cs K:=xM pw rfl rfl
theorem Xa:ti Tryz.prog 9=some { kd:=.str,size:=1,bytes:=16,agg:=false,zero:=some [.lit (.string (ByteArray.mk #[]))],flds:=[],eqs:=some [.str] }:=by kernel_rfl
theorem ajK:iR Tryz.prog 9 (.c (.lit (.string y))) K=K (.c (.lit (.int .i64 y.size))):=Wh Xa rfl
theorem amD:dG Tryz.prog 9 s (.c (.rp cs o)) K=dI false 1 o cs K:=xM Xa rfl rfl
theorem ajL:dG Tryz.prog 9 ⟨fr,bx,nb⟩ (.bp b o) K=(cL (bx b)=false/\ldB nb b (bx b) o K):=j9 Xa rfl
theorem rJ:ti Tryz.prog 22=some { kd:=.slice 57,size:=1,bytes:=24,agg:=false,zero:=some [.sl []],flds:=[],eqs:=none }:=by kernel_rfl
theorem afS:iR Tryz.prog 22 (.c (.sl es)) K=K (.c (.lit (.int .i64 es.length))):=fN rJ rfl
theorem ajM:dG Tryz.prog 22 s (.c (.rp cs o)) K=dI false 1 o cs K:=xM rJ rfl rfl
theorem afT:dG Tryz.prog 22 ⟨fr,bx,nb⟩ (.bp b o) K=(cL (bx b)=false/\ldB nb b (bx b) o K):=j9 rJ rfl
theorem mq:ti Tryz.prog 23=some { kd:=.slice 120,size:=1,bytes:=24,agg:=false,zero:=some [.sl []],flds:=[],eqs:=none }:=by kernel_rfl
theorem afU:iR Tryz.prog 23 (.c (.sl es)) K=K (.c (.lit (.int .i64 es.length))):=fN mq rfl
theorem afV:dG Tryz.prog 23 ⟨fr,bx,nb⟩ (.bp b o) K=(cL (bx b)=false/\ldB nb b (bx b) o K):=j9 mq rfl
theorem CQ:ti Tryz.prog 24=some { kd:=.slice 122,size:=1,bytes:=24,agg:=false,zero:=some [.sl []],flds:=[],eqs:=none }:=by kernel_rfl
theorem afW:iR Tryz.prog 24 (.c (.sl es)) K=K (.c (.lit (.int .i64 es.length))):=fN CQ rfl
theorem afX:dG Tryz.prog 24 ⟨fr,bx,nb⟩ (.bp b o) K=(cL (bx b)=false/\ldB nb b (bx b) o K):=j9 CQ rfl
theorem vR:ti Tryz.prog 26=some { kd:=.struct,size:=4,bytes:=88,agg:=true,zero:=some [.lit (.string (ByteArray.mk #[])),.sl [],.sl [],.sl []],flds:=[(0,1,false),(1,1,false),(2,1,false),(3,1,false)],eqs:=none }:=by kernel_rfl
theorem afY:VStep Tryz.prog G tr ⟨some d,.alloc 26,ty,pos,af,g⟩ ⟨fr,bx,nb⟩ H=H ⟨up fr d (.bp nb 0),up bx nb [.c (.lit (.string (ByteArray.mk #[]))),.ow none [],.ow none [],.ow none []],nb+1⟩:=mK vR rfl
theorem ajN (h:cs.length=4):dG Tryz.prog 26 s (.c (.rp cs 0)) K=K (.agg cs):=tX vR rfl h
theorem afZ:dG Tryz.prog 26 ⟨fr,bx,nb⟩ (.bp b o) K=(cL (bx b)=false/\ldA nb b (bx b) o 4 K):=wB vR rfl rfl
theorem af0:jt Tryz.prog 26 parts K=vz [(0,1,false),(1,1,false),(2,1,false),(3,1,false)] [.lit (.string (ByteArray.mk #[])),.sl [],.sl [],.sl []] parts K (kT [(0,1,false),(1,1,false),(2,1,false),(3,1,false)] parts [.lit (.string (ByteArray.mk #[])),.sl [],.sl [],.sl []]):=oS vR rfl rfl rfl
theorem Xb:bq Tryz.prog 26 (.bp b o) 0 K=K (.bp b (o+0)):=ia vR rfl (by decide)
theorem abM:bq Tryz.prog 26 (.c (.rp cs o)) 1 K=K (.c (.rp cs (o+1))):=o0 vR rfl (by decide)
theorem Xc:bq Tryz.prog 26 (.bp b o) 1 K=K (.bp b (o+1)):=ia vR rfl (by decide)
theorem Xd:bq Tryz.prog 26 (.bp b o) 2 K=K (.bp b (o+2)):=ia vR rfl (by decide)
theorem Xe:bq Tryz.prog 26 (.bp b o) 3 K=K (.bp b (o+3)):=ia vR rfl (by decide)
theorem af1:pQ (ti Tryz.prog 26) t q (.bp b o) v ⟨fr,bx,nb⟩ H=(cL (bx b)=false/\stS 4 t q b o v ⟨fr,bx,nb⟩ H):=by rw[vR];exact lK rfl
theorem kU:ti Tryz.prog 27=some { kd:=.slice 5,size:=1,bytes:=24,agg:=false,zero:=some [.sl []],flds:=[],eqs:=none }:=by kernel_rfl
theorem af2:iR Tryz.prog 27 (.c (.sl es)) K=K (.c (.lit (.int .i64 es.length))):=fN kU rfl
theorem af4:dG Tryz.prog 27 ⟨fr,bx,nb⟩ (.bp b o) K=(cL (bx b)=false/\ldB nb b (bx b) o K):=j9 kU rfl
theorem af5:pQ (ti Tryz.prog 27) t q (.bp b o) v ⟨fr,bx,nb⟩ H=(cL (bx b)=false/\stS 1 t q b o v ⟨fr,bx,nb⟩ H):=by rw[kU];exact lK rfl
theorem eC:ti Tryz.prog 28=some { kd:=.slice 54,size:=1,bytes:=24,agg:=false,zero:=some [.sl []],flds:=[],eqs:=none }:=by kernel_rfl
theorem NQ:iR Tryz.prog 28 (.c (.sl es)) K=K (.c (.lit (.int .i64 es.length))):=fN eC rfl
theorem abN:iR Tryz.prog 28 (.ms b o l c z) K=K (.c (.lit (.int .i64 l))):=Ho eC rfl
theorem ajO:dG Tryz.prog 28 s (.c (.rp cs o)) K=dI false 1 o cs K:=xM eC rfl rfl
theorem af6:dG Tryz.prog 28 ⟨fr,bx,nb⟩ (.bp b o) K=(cL (bx b)=false/\ldB nb b (bx b) o K):=j9 eC rfl
theorem af7:pQ (ti Tryz.prog 28) t q (.bp b o) v ⟨fr,bx,nb⟩ H=(cL (bx b)=false/\stS 1 t q b o v ⟨fr,bx,nb⟩ H):=by rw[eC];exact lK rfl
theorem Xf:ti Tryz.prog 30=some { kd:=.other,size:=1,bytes:=8,agg:=false,zero:=some [.lit .nilFunc],flds:=[],eqs:=none }:=by kernel_rfl
theorem af8:dG Tryz.prog 30 ⟨fr,bx,nb⟩ (.bp b o) K=(cL (bx b)=false/\ldB nb b (bx b) o K):=j9 Xf rfl
theorem Xg:ti Tryz.prog 31=some { kd:=.int .i64,size:=1,bytes:=8,agg:=false,zero:=some [.lit (.int .i64 0)],flds:=[],eqs:=some [.int] }:=by kernel_rfl
theorem af9:VStep Tryz.prog G tr ⟨some d,.alloc 31,ty,pos,af,g⟩ ⟨fr,bx,nb⟩ H=H ⟨up fr d (.bp nb 0),up bx nb [.c (.lit (.int .i64 0))],nb+1⟩:=mK Xg rfl
theorem aga:dG Tryz.prog 31 ⟨fr,bx,nb⟩ (.bp b o) K=(cL (bx b)=false/\ldB nb b (bx b) o K):=j9 Xg rfl
theorem agb:pQ (ti Tryz.prog 31) t q (.bp b o) v ⟨fr,bx,nb⟩ H=(cL (bx b)=false/\stS 1 t q b o v ⟨fr,bx,nb⟩ H):=by rw[Xg];exact lK rfl
theorem lD:ti Tryz.prog 35=some { kd:=.struct,size:=3,bytes:=56,agg:=true,zero:=some [.lit (.int .i64 0),.sl [],.sl []],flds:=[(0,1,false),(1,1,false),(2,1,false)],eqs:=none }:=by kernel_rfl
theorem agc:VStep Tryz.prog G tr ⟨some d,.alloc 35,ty,pos,af,g⟩ ⟨fr,bx,nb⟩ H=H ⟨up fr d (.bp nb 0),up bx nb [.c (.lit (.int .i64 0)),.ow none [],.ow none []],nb+1⟩:=mK lD rfl
theorem ajP (h:cs.length=3):dG Tryz.prog 35 s (.c (.rp cs 0)) K=K (.agg cs):=tX lD rfl h
theorem agd:dG Tryz.prog 35 ⟨fr,bx,nb⟩ (.bp b o) K=(cL (bx b)=false/\ldA nb b (bx b) o 3 K):=wB lD rfl rfl
theorem age:pd Tryz.prog 35 parts K=E7 K (lx [(0,1,false),(1,1,false),(2,1,false)] parts [.c (.lit (.int .i64 0)),.ow none [],.ow none []]):=Hu lD rfl rfl rfl
theorem agf:jt Tryz.prog 35 parts K=vz [(0,1,false),(1,1,false),(2,1,false)] [.lit (.int .i64 0),.sl [],.sl []] parts K (kT [(0,1,false),(1,1,false),(2,1,false)] parts [.lit (.int .i64 0),.sl [],.sl []]):=oS lD rfl rfl rfl
theorem abO:bq Tryz.prog 35 (.c (.rp cs o)) 0 K=K (.c (.rp cs (o+0))):=o0 lD rfl (by decide)
theorem Xh:bq Tryz.prog 35 (.bp b o) 0 K=K (.bp b (o+0)):=ia lD rfl (by decide)
theorem abP:bq Tryz.prog 35 (.c (.rp cs o)) 1 K=K (.c (.rp cs (o+1))):=o0 lD rfl (by decide)
theorem Xi:bq Tryz.prog 35 (.bp b o) 1 K=K (.bp b (o+1)):=ia lD rfl (by decide)
theorem abQ:bq Tryz.prog 35 (.c (.rp cs o)) 2 K=K (.c (.rp cs (o+2))):=o0 lD rfl (by decide)
theorem Xj:bq Tryz.prog 35 (.bp b o) 2 K=K (.bp b (o+2)):=ia lD rfl (by decide)
theorem agh:pQ (ti Tryz.prog 35) t q (.bp b o) v ⟨fr,bx,nb⟩ H=(cL (bx b)=false/\stS 3 t q b o v ⟨fr,bx,nb⟩ H):=by rw[lD];exact lK rfl
theorem eS:ti Tryz.prog 54=some { kd:=.struct,size:=3,bytes:=24,agg:=true,zero:=some [.lit (.int .i64 0),.lit (.int .i64 0),.lit (.int .i64 0)],flds:=[(0,1,false),(1,1,false),(2,1,false)],eqs:=some [.int,.int,.int] }:=by kernel_rfl
theorem agi:VStep Tryz.prog G tr ⟨some d,.alloc 54,ty,pos,af,g⟩ ⟨fr,bx,nb⟩ H=H ⟨up fr d (.bp nb 0),up bx nb [.c (.lit (.int .i64 0)),.c (.lit (.int .i64 0)),.c (.lit (.int .i64 0))],nb+1⟩:=mK eS rfl
theorem ajQ (h:cs.length=3):dG Tryz.prog 54 s (.c (.rp cs 0)) K=K (.agg cs):=tX eS rfl h
theorem agj:dG Tryz.prog 54 ⟨fr,bx,nb⟩ (.bp b o) K=(cL (bx b)=false/\ldA nb b (bx b) o 3 K):=wB eS rfl rfl
theorem agk:jt Tryz.prog 54 parts K=vz [(0,1,false),(1,1,false),(2,1,false)] [.lit (.int .i64 0),.lit (.int .i64 0),.lit (.int .i64 0)] parts K (kT [(0,1,false),(1,1,false),(2,1,false)] parts [.lit (.int .i64 0),.lit (.int .i64 0),.lit (.int .i64 0)]):=oS eS rfl rfl rfl
theorem abR:bq Tryz.prog 54 (.c (.rp cs o)) 0 K=K (.c (.rp cs (o+0))):=o0 eS rfl (by decide)
theorem Xk:bq Tryz.prog 54 (.bp b o) 0 K=K (.bp b (o+0)):=ia eS rfl (by decide)
theorem abS:bq Tryz.prog 54 (.c (.rp cs o)) 1 K=K (.c (.rp cs (o+1))):=o0 eS rfl (by decide)
theorem Xl:bq Tryz.prog 54 (.bp b o) 1 K=K (.bp b (o+1)):=ia eS rfl (by decide)
theorem abT:bq Tryz.prog 54 (.c (.rp cs o)) 2 K=K (.c (.rp cs (o+2))):=o0 eS rfl (by decide)
theorem Xm:bq Tryz.prog 54 (.bp b o) 2 K=K (.bp b (o+2)):=ia eS rfl (by decide)
theorem agl:pQ (ti Tryz.prog 54) t q (.bp b o) v ⟨fr,bx,nb⟩ H=(cL (bx b)=false/\stS 3 t q b o v ⟨fr,bx,nb⟩ H):=by rw[eS];exact lK rfl
theorem lE:ti Tryz.prog 57=some { kd:=.struct,size:=3,bytes:=32,agg:=true,zero:=some [.lit (.string (ByteArray.mk #[])),.lit (.int .i64 0),.lit (.int .i64 0)],flds:=[(0,1,false),(1,1,false),(2,1,false)],eqs:=some [.str,.int,.int] }:=by kernel_rfl
theorem agm:VStep Tryz.prog G tr ⟨some d,.alloc 57,ty,pos,af,g⟩ ⟨fr,bx,nb⟩ H=H ⟨up fr d (.bp nb 0),up bx nb [.c (.lit (.string (ByteArray.mk #[]))),.c (.lit (.int .i64 0)),.c (.lit (.int .i64 0))],nb+1⟩:=mK lE rfl
theorem ajR (h:cs.length=3):dG Tryz.prog 57 s (.c (.rp cs 0)) K=K (.agg cs):=tX lE rfl h
theorem agn:jt Tryz.prog 57 parts K=vz [(0,1,false),(1,1,false),(2,1,false)] [.lit (.string (ByteArray.mk #[])),.lit (.int .i64 0),.lit (.int .i64 0)] parts K (kT [(0,1,false),(1,1,false),(2,1,false)] parts [.lit (.string (ByteArray.mk #[])),.lit (.int .i64 0),.lit (.int .i64 0)]):=oS lE rfl rfl rfl
theorem abU:bq Tryz.prog 57 (.c (.rp cs o)) 0 K=K (.c (.rp cs (o+0))):=o0 lE rfl (by decide)
theorem Xn:bq Tryz.prog 57 (.bp b o) 0 K=K (.bp b (o+0)):=ia lE rfl (by decide)
theorem abV:bq Tryz.prog 57 (.c (.rp cs o)) 1 K=K (.c (.rp cs (o+1))):=o0 lE rfl (by decide)
theorem Xo:bq Tryz.prog 57 (.bp b o) 1 K=K (.bp b (o+1)):=ia lE rfl (by decide)
theorem abW:bq Tryz.prog 57 (.c (.rp cs o)) 2 K=K (.c (.rp cs (o+2))):=o0 lE rfl (by decide)
theorem Xp:bq Tryz.prog 57 (.bp b o) 2 K=K (.bp b (o+2)):=ia lE rfl (by decide)
theorem ago:pQ (ti Tryz.prog 57) t q (.bp b o) v ⟨fr,bx,nb⟩ H=(cL (bx b)=false/\stS 3 t q b o v ⟨fr,bx,nb⟩ H):=by rw[lE];exact lK rfl
theorem Xq:ti Tryz.prog 60=some { kd:=.other,size:=1,bytes:=8,agg:=false,zero:=some [.lit .nilFunc],flds:=[],eqs:=none }:=by kernel_rfl
theorem agp:VStep Tryz.prog G tr ⟨some d,.alloc 60,ty,pos,af,g⟩ ⟨fr,bx,nb⟩ H=H ⟨up fr d (.bp nb 0),up bx nb [.c (.lit .nilFunc)],nb+1⟩:=mK Xq rfl
theorem agq:dG Tryz.prog 60 ⟨fr,bx,nb⟩ (.bp b o) K=(cL (bx b)=false/\ldB nb b (bx b) o K):=j9 Xq rfl
theorem agr:pQ (ti Tryz.prog 60) t q (.bp b o) v ⟨fr,bx,nb⟩ H=(cL (bx b)=false/\stS 1 t q b o v ⟨fr,bx,nb⟩ H):=by rw[Xq];exact lK rfl
theorem Ag:ti Tryz.prog 65=some { kd:=.arr 3 3,size:=3,bytes:=24,agg:=true,zero:=some [.lit (.int .i64 0),.lit (.int .i64 0),.lit (.int .i64 0)],flds:=[],eqs:=some [.int,.int,.int] }:=by kernel_rfl
theorem ags:VStep Tryz.prog G tr ⟨some d,.alloc 65,ty,pos,af,g⟩ ⟨fr,bx,nb⟩ H=H ⟨up fr d (.bp nb 0),up bx nb [.c (.lit (.int .i64 0)),.c (.lit (.int .i64 0)),.c (.lit (.int .i64 0))],nb+1⟩:=mK Ag rfl
theorem PL:ti Tryz.prog 75=some { kd:=.int .u64,size:=1,bytes:=8,agg:=false,zero:=some [.lit (.int .u64 0)],flds:=[],eqs:=some [.int] }:=by kernel_rfl
theorem pX:ti Tryz.prog 79=some { kd:=.slice 3,size:=1,bytes:=24,agg:=false,zero:=some [.sl []],flds:=[],eqs:=none }:=by kernel_rfl
theorem Xr:iR Tryz.prog 79 (.c (.sl es)) K=K (.c (.lit (.int .i64 es.length))):=fN pX rfl
theorem Xs:ti Tryz.prog 81=some { kd:=.ptr 100,size:=1,bytes:=8,agg:=false,zero:=some [.lit (.pointer none)],flds:=[],eqs:=none }:=by kernel_rfl
theorem agt:VStep Tryz.prog G tr ⟨some d,.alloc 81,ty,pos,af,g⟩ ⟨fr,bx,nb⟩ H=H ⟨up fr d (.bp nb 0),up bx nb [.c (.lit (.pointer none))],nb+1⟩:=mK Xs rfl
theorem agu:dG Tryz.prog 81 ⟨fr,bx,nb⟩ (.bp b o) K=(cL (bx b)=false/\ldB nb b (bx b) o K):=j9 Xs rfl
theorem agv:pQ (ti Tryz.prog 81) t q (.bp b o) v ⟨fr,bx,nb⟩ H=(cL (bx b)=false/\stS 1 t q b o v ⟨fr,bx,nb⟩ H):=by rw[Xs];exact lK rfl
theorem tc:ti Tryz.prog 86=some { kd:=.slice 35,size:=1,bytes:=24,agg:=false,zero:=some [.sl []],flds:=[],eqs:=none }:=by kernel_rfl
theorem agw:iR Tryz.prog 86 (.c (.sl es)) K=K (.c (.lit (.int .i64 es.length))):=fN tc rfl
theorem agx:dG Tryz.prog 86 ⟨fr,bx,nb⟩ (.bp b o) K=(cL (bx b)=false/\ldB nb b (bx b) o K):=j9 tc rfl
theorem agy:pQ (ti Tryz.prog 86) t q (.bp b o) v ⟨fr,bx,nb⟩ H=(cL (bx b)=false/\stS 1 t q b o v ⟨fr,bx,nb⟩ H):=by rw[tc];exact lK rfl
theorem PM:ti Tryz.prog 88=some { kd:=.map 54 4,size:=1,bytes:=8,agg:=false,zero:=some [.lit (.map none)],flds:=[],eqs:=none }:=by kernel_rfl
theorem Xt:VStep Tryz.prog G tr ⟨dO,.makeMap 88 none,ty,pos,af,g⟩ ⟨fr,bx,nb⟩ H=H ((⟨fr,up bx nb [.mk [] 0],nb+1⟩:S).put dO (.mr nb)):=wC PM rfl
theorem agz:dG Tryz.prog 88 ⟨fr,bx,nb⟩ (.bp b o) K=(cL (bx b)=false/\ldB nb b (bx b) o K):=j9 PM rfl
theorem ajS:zaB Tryz.prog 4=true:=by kernel_rfl
theorem PN:ti Tryz.prog 90=some { kd:=.slice 93,size:=1,bytes:=24,agg:=false,zero:=some [.sl []],flds:=[],eqs:=none }:=by kernel_rfl
theorem agA:iR Tryz.prog 90 (.c (.sl es)) K=K (.c (.lit (.int .i64 es.length))):=fN PN rfl
theorem td:ti Tryz.prog 93=some { kd:=.struct,size:=6,bytes:=64,agg:=true,zero:=some [.lit (.int .i64 0),.lit (.int .i64 0),.lit (.int .i64 0),.lit (.int .i64 0),.lit (.int .i64 0),.sl []],flds:=[(0,3,true),(3,1,false),(4,1,false),(5,1,false)],eqs:=none }:=by kernel_rfl
theorem agB:VStep Tryz.prog G tr ⟨some d,.alloc 93,ty,pos,af,g⟩ ⟨fr,bx,nb⟩ H=H ⟨up fr d (.bp nb 0),up bx nb [.c (.lit (.int .i64 0)),.c (.lit (.int .i64 0)),.c (.lit (.int .i64 0)),.c (.lit (.int .i64 0)),.c (.lit (.int .i64 0)),.ow none []],nb+1⟩:=mK td rfl
theorem ajT (h:cs.length=6):dG Tryz.prog 93 s (.c (.rp cs 0)) K=K (.agg cs):=tX td rfl h
theorem agC:dG Tryz.prog 93 ⟨fr,bx,nb⟩ (.bp b o) K=(cL (bx b)=false/\ldA nb b (bx b) o 6 K):=wB td rfl rfl
theorem agD:jt Tryz.prog 93 parts K=vz [(0,3,true),(3,1,false),(4,1,false),(5,1,false)] [.lit (.int .i64 0),.lit (.int .i64 0),.lit (.int .i64 0),.lit (.int .i64 0),.lit (.int .i64 0),.sl []] parts K (kT [(0,3,true),(3,1,false),(4,1,false),(5,1,false)] parts [.lit (.int .i64 0),.lit (.int .i64 0),.lit (.int .i64 0),.lit (.int .i64 0),.lit (.int .i64 0),.sl []]):=oS td rfl rfl rfl
theorem Xu:bq Tryz.prog 93 (.bp b o) 0 K=K (.bp b (o+0)):=ia td rfl (by decide)
theorem Xv:bq Tryz.prog 93 (.bp b o) 3 K=K (.bp b (o+5)):=ia td rfl (by decide)
theorem agE:pQ (ti Tryz.prog 93) t q (.bp b o) v ⟨fr,bx,nb⟩ H=(cL (bx b)=false/\stS 6 t q b o v ⟨fr,bx,nb⟩ H):=by rw[td];exact lK rfl
theorem Xw:ti Tryz.prog 100=some { kd:=.struct,size:=1,bytes:=8,agg:=true,zero:=some [.lit (.map none)],flds:=[(0,1,false)],eqs:=none }:=by kernel_rfl
theorem abX:jt Tryz.prog 100 parts K=vz [(0,1,false)] [.lit (.map none)] parts K (kT [(0,1,false)] parts [.lit (.map none)]):=oS Xw rfl rfl rfl
theorem SI:bq Tryz.prog 100 (.bp b o) 0 K=K (.bp b (o+0)):=ia Xw rfl (by decide)
theorem agF:ti Tryz.prog 102=some { kd:=.other,size:=1,bytes:=8,agg:=false,zero:=some [.lit .nilFunc],flds:=[],eqs:=none }:=by kernel_rfl
theorem abY:dG Tryz.prog 102 ⟨fr,bx,nb⟩ (.bp b o) K=(cL (bx b)=false/\ldB nb b (bx b) o K):=j9 agF rfl
theorem agG:ti Tryz.prog 103=some { kd:=.ptr 106,size:=1,bytes:=8,agg:=false,zero:=some [.lit (.pointer none)],flds:=[],eqs:=none }:=by kernel_rfl
theorem abZ:dG Tryz.prog 103 ⟨fr,bx,nb⟩ (.bp b o) K=(cL (bx b)=false/\ldB nb b (bx b) o K):=j9 agG rfl
theorem agH:ti Tryz.prog 104=some { kd:=.ptr 54,size:=1,bytes:=8,agg:=false,zero:=some [.lit (.pointer none)],flds:=[],eqs:=none }:=by kernel_rfl
theorem ab0:dG Tryz.prog 104 ⟨fr,bx,nb⟩ (.bp b o) K=(cL (bx b)=false/\ldB nb b (bx b) o K):=j9 agH rfl
theorem CS:ti Tryz.prog 106=some { kd:=.struct,size:=7,bytes:=112,agg:=true,zero:=some [.lit (.string (ByteArray.mk #[])),.sl [],.sl [],.sl [],.lit (.int .i64 0),.lit (.pointer none),.lit .nilFunc],flds:=[(0,4,true),(4,1,false),(5,1,false),(6,1,false)],eqs:=none }:=by kernel_rfl
theorem ab1:pd Tryz.prog 106 parts K=E7 K (lx [(0,4,true),(4,1,false),(5,1,false),(6,1,false)] parts [.c (.lit (.string (ByteArray.mk #[]))),.ow none [],.ow none [],.ow none [],.c (.lit (.int .i64 0)),.c (.lit (.pointer none)),.c (.lit .nilFunc)]):=Hu CS rfl rfl rfl
theorem SJ:bq Tryz.prog 106 (.bp b o) 0 K=K (.bp b (o+0)):=ia CS rfl (by decide)
theorem SK:bq Tryz.prog 106 (.bp b o) 1 K=K (.bp b (o+4)):=ia CS rfl (by decide)
theorem SL:bq Tryz.prog 106 (.bp b o) 2 K=K (.bp b (o+5)):=ia CS rfl (by decide)
theorem SN:bq Tryz.prog 106 (.bp b o) 3 K=K (.bp b (o+6)):=ia CS rfl (by decide)
theorem HJ:ti Tryz.prog 110=some { kd:=.struct,size:=6,bytes:=120,agg:=true,zero:=some [.lit (.string (ByteArray.mk #[])),.sl [],.sl [],.sl [],.lit (.int .i64 0),.sl []],flds:=[(0,4,true),(4,1,false),(5,1,false)],eqs:=none }:=by kernel_rfl
theorem ab2:pd Tryz.prog 110 parts K=E7 K (lx [(0,4,true),(4,1,false),(5,1,false)] parts [.c (.lit (.string (ByteArray.mk #[]))),.ow none [],.ow none [],.ow none [],.c (.lit (.int .i64 0)),.ow none []]):=Hu HJ rfl rfl rfl
theorem SO:bq Tryz.prog 110 (.bp b o) 0 K=K (.bp b (o+0)):=ia HJ rfl (by decide)
theorem SQ:bq Tryz.prog 110 (.bp b o) 1 K=K (.bp b (o+4)):=ia HJ rfl (by decide)
theorem SR:bq Tryz.prog 110 (.bp b o) 2 K=K (.bp b (o+5)):=ia HJ rfl (by decide)
theorem CU:ti Tryz.prog 116=some { kd:=.map 54 93,size:=1,bytes:=8,agg:=false,zero:=some [.lit (.map none)],flds:=[],eqs:=none }:=by kernel_rfl
theorem ab3:VStep Tryz.prog G tr ⟨dO,.makeMap 116 none,ty,pos,af,g⟩ ⟨fr,bx,nb⟩ H=H ((⟨fr,up bx nb [.mk [] 0],nb+1⟩:S).put dO (.mr nb)):=wC CU rfl
theorem aeg:zaB Tryz.prog 93=true:=by kernel_rfl
theorem fU:ti Tryz.prog 120=some { kd:=.struct,size:=3,bytes:=24,agg:=true,zero:=some [.lit (.int .i64 0),.lit (.int .i64 0),.lit (.int .i64 0)],flds:=[(0,1,false),(1,1,false),(2,1,false)],eqs:=some [.int,.int,.int] }:=by kernel_rfl
theorem ab4:VStep Tryz.prog G tr ⟨some d,.alloc 120,ty,pos,af,g⟩ ⟨fr,bx,nb⟩ H=H ⟨up fr d (.bp nb 0),up bx nb [.c (.lit (.int .i64 0)),.c (.lit (.int .i64 0)),.c (.lit (.int .i64 0))],nb+1⟩:=mK fU rfl
theorem agI (h:cs.length=3):dG Tryz.prog 120 s (.c (.rp cs 0)) K=K (.agg cs):=tX fU rfl h
theorem ab5:dG Tryz.prog 120 ⟨fr,bx,nb⟩ (.bp b o) K=(cL (bx b)=false/\ldA nb b (bx b) o 3 K):=wB fU rfl rfl
theorem Xx:bq Tryz.prog 120 (.c (.rp cs o)) 0 K=K (.c (.rp cs (o+0))):=o0 fU rfl (by decide)
theorem SS:bq Tryz.prog 120 (.bp b o) 0 K=K (.bp b (o+0)):=ia fU rfl (by decide)
theorem Xy:bq Tryz.prog 120 (.c (.rp cs o)) 1 K=K (.c (.rp cs (o+1))):=o0 fU rfl (by decide)
theorem SU:bq Tryz.prog 120 (.bp b o) 1 K=K (.bp b (o+1)):=ia fU rfl (by decide)
theorem Xz:bq Tryz.prog 120 (.c (.rp cs o)) 2 K=K (.c (.rp cs (o+2))):=o0 fU rfl (by decide)
theorem SV:bq Tryz.prog 120 (.bp b o) 2 K=K (.bp b (o+2)):=ia fU rfl (by decide)
theorem ab6:pQ (ti Tryz.prog 120) t q (.bp b o) v ⟨fr,bx,nb⟩ H=(cL (bx b)=false/\stS 3 t q b o v ⟨fr,bx,nb⟩ H):=by rw[fU];exact lK rfl
theorem ll:ti Tryz.prog 122=some { kd:=.struct,size:=5,bytes:=40,agg:=true,zero:=some [.lit (.int .i64 0),.lit (.int .i64 0),.lit (.int .i64 0),.lit (.int .i64 0),.lit (.int .i64 0)],flds:=[(0,1,false),(1,1,false),(2,1,false),(3,1,false),(4,1,false)],eqs:=some [.int,.int,.int,.int,.int] }:=by kernel_rfl
theorem ab7:VStep Tryz.prog G tr ⟨some d,.alloc 122,ty,pos,af,g⟩ ⟨fr,bx,nb⟩ H=H ⟨up fr d (.bp nb 0),up bx nb [.c (.lit (.int .i64 0)),.c (.lit (.int .i64 0)),.c (.lit (.int .i64 0)),.c (.lit (.int .i64 0)),.c (.lit (.int .i64 0))],nb+1⟩:=mK ll rfl
theorem agJ (h:cs.length=5):dG Tryz.prog 122 s (.c (.rp cs 0)) K=K (.agg cs):=tX ll rfl h
theorem XA:bq Tryz.prog 122 (.c (.rp cs o)) 0 K=K (.c (.rp cs (o+0))):=o0 ll rfl (by decide)
theorem SY:bq Tryz.prog 122 (.bp b o) 0 K=K (.bp b (o+0)):=ia ll rfl (by decide)
theorem SZ:bq Tryz.prog 122 (.bp b o) 1 K=K (.bp b (o+1)):=ia ll rfl (by decide)
theorem S0:bq Tryz.prog 122 (.bp b o) 2 K=K (.bp b (o+2)):=ia ll rfl (by decide)
theorem S1:bq Tryz.prog 122 (.bp b o) 3 K=K (.bp b (o+3)):=ia ll rfl (by decide)
theorem S3:bq Tryz.prog 122 (.bp b o) 4 K=K (.bp b (o+4)):=ia ll rfl (by decide)
theorem ab8:pQ (ti Tryz.prog 122) t q (.bp b o) v ⟨fr,bx,nb⟩ H=(cL (bx b)=false/\stS 5 t q b o v ⟨fr,bx,nb⟩ H):=by rw[ll];exact lK rfl
theorem NR:ti Tryz.prog 123=some { kd:=.slice 30,size:=1,bytes:=24,agg:=false,zero:=some [.sl []],flds:=[],eqs:=none }:=by kernel_rfl
theorem XB:iR Tryz.prog 123 (.ms b o l c z) K=K (.c (.lit (.int .i64 l))):=Ho NR rfl
theorem agK:ti Tryz.prog 130=some { kd:=.other,size:=1,bytes:=8,agg:=false,zero:=some [.lit .nilFunc],flds:=[],eqs:=none }:=by kernel_rfl
theorem ab9:dG Tryz.prog 130 ⟨fr,bx,nb⟩ (.bp b o) K=(cL (bx b)=false/\ldB nb b (bx b) o K):=j9 agK rfl
theorem wJ:ti Tryz.prog 146=some { kd:=.struct,size:=3,bytes:=24,agg:=true,zero:=some [.lit (.int .i64 0),.lit (.int .i64 0),.lit (.int .i64 0)],flds:=[(0,1,false),(1,1,false),(2,1,false)],eqs:=some [.int,.int,.int] }:=by kernel_rfl
theorem agL (h:cs.length=3):dG Tryz.prog 146 s (.c (.rp cs 0)) K=K (.agg cs):=tX wJ rfl h
theorem aca:jt Tryz.prog 146 parts K=vz [(0,1,false),(1,1,false),(2,1,false)] [.lit (.int .i64 0),.lit (.int .i64 0),.lit (.int .i64 0)] parts K (kT [(0,1,false),(1,1,false),(2,1,false)] parts [.lit (.int .i64 0),.lit (.int .i64 0),.lit (.int .i64 0)]):=oS wJ rfl rfl rfl
theorem S4:bq Tryz.prog 146 (.bp b o) 0 K=K (.bp b (o+0)):=ia wJ rfl (by decide)
theorem S5:bq Tryz.prog 146 (.bp b o) 1 K=K (.bp b (o+1)):=ia wJ rfl (by decide)
theorem S7:bq Tryz.prog 146 (.bp b o) 2 K=K (.bp b (o+2)):=ia wJ rfl (by decide)
theorem CV:ti Tryz.prog 152=some { kd:=.map 54 153,size:=1,bytes:=8,agg:=false,zero:=some [.lit (.map none)],flds:=[],eqs:=none }:=by kernel_rfl
theorem acb:VStep Tryz.prog G tr ⟨dO,.makeMap 152 none,ty,pos,af,g⟩ ⟨fr,bx,nb⟩ H=H ((⟨fr,up bx nb [.mk [] 0],nb+1⟩:S).put dO (.mr nb)):=wC CV rfl
theorem acd:dG Tryz.prog 152 ⟨fr,bx,nb⟩ (.bp b o) K=(cL (bx b)=false/\ldB nb b (bx b) o K):=j9 CV rfl
theorem ace:pQ (ti Tryz.prog 152) t q (.bp b o) v ⟨fr,bx,nb⟩ H=(cL (bx b)=false/\stS 1 t q b o v ⟨fr,bx,nb⟩ H):=by rw[CV];exact lK rfl
theorem agM:zaB Tryz.prog 153=true:=by kernel_rfl
theorem nq:ti Tryz.prog 153=some { kd:=.slice 156,size:=1,bytes:=24,agg:=false,zero:=some [.sl []],flds:=[],eqs:=none }:=by kernel_rfl
theorem XC:iR Tryz.prog 153 (.ms b o l c z) K=K (.c (.lit (.int .i64 l))):=Ho nq rfl
theorem acf:dG Tryz.prog 153 ⟨fr,bx,nb⟩ (.bp b o) K=(cL (bx b)=false/\ldB nb b (bx b) o K):=j9 nq rfl
theorem acg:pQ (ti Tryz.prog 153) t q (.bp b o) v ⟨fr,bx,nb⟩ H=(cL (bx b)=false/\stS 1 t q b o v ⟨fr,bx,nb⟩ H):=by rw[nq];exact lK rfl
theorem HK:ti Tryz.prog 155=some { kd:=.struct,size:=3,bytes:=56,agg:=true,zero:=some [.sl [],.sl [],.lit (.int .i64 0)],flds:=[(0,1,false),(1,1,false),(2,1,false)],eqs:=none }:=by kernel_rfl
theorem ach:VStep Tryz.prog G tr ⟨some d,.alloc 155,ty,pos,af,g⟩ ⟨fr,bx,nb⟩ H=H ⟨up fr d (.bp nb 0),up bx nb [.ow none [],.ow none [],.c (.lit (.int .i64 0))],nb+1⟩:=mK HK rfl
theorem S8:bq Tryz.prog 155 (.bp b o) 0 K=K (.bp b (o+0)):=ia HK rfl (by decide)
theorem S9:bq Tryz.prog 155 (.bp b o) 1 K=K (.bp b (o+1)):=ia HK rfl (by decide)
theorem Ta:bq Tryz.prog 155 (.bp b o) 2 K=K (.bp b (o+2)):=ia HK rfl (by decide)
theorem ui:ti Tryz.prog 156=some { kd:=.ptr 158,size:=1,bytes:=8,agg:=false,zero:=some [.lit (.pointer none)],flds:=[],eqs:=none }:=by kernel_rfl
theorem aci:dG Tryz.prog 156 ⟨fr,bx,nb⟩ (.bp b o) K=(cL (bx b)=false/\ldB nb b (bx b) o K):=j9 ui rfl
theorem CW:ti Tryz.prog 158=some { kd:=.struct,size:=5,bytes:=72,agg:=true,zero:=some [.lit (.int .i64 0),.sl [],.sl [],.lit (.int .i64 0),.lit (.int .i64 0)],flds:=[(0,3,true),(3,1,false),(4,1,false)],eqs:=none }:=by kernel_rfl
theorem acj:jt Tryz.prog 158 parts K=vz [(0,3,true),(3,1,false),(4,1,false)] [.lit (.int .i64 0),.sl [],.sl [],.lit (.int .i64 0),.lit (.int .i64 0)] parts K (kT [(0,3,true),(3,1,false),(4,1,false)] parts [.lit (.int .i64 0),.sl [],.sl [],.lit (.int .i64 0),.lit (.int .i64 0)]):=oS CW rfl rfl rfl
theorem XD:bq Tryz.prog 158 (.c (.rp cs o)) 0 K=K (.c (.rp cs (o+0))):=o0 CW rfl (by decide)
theorem XE:bq Tryz.prog 158 (.c (.rp cs o)) 1 K=K (.c (.rp cs (o+3))):=o0 CW rfl (by decide)
theorem NS:ti Tryz.prog 173=some { kd:=.slice 146,size:=1,bytes:=24,agg:=false,zero:=some [.sl []],flds:=[],eqs:=none }:=by kernel_rfl
theorem ack:iR Tryz.prog 173 (.c (.sl es)) K=K (.c (.lit (.int .i64 es.length))):=fN NS rfl
theorem agN (h:len*3<=16777216):cH Tryz.prog 22 len parts K=AM 57 3 [.lit (.string (ByteArray.mk #[])),.lit (.int .i64 0),.lit (.int .i64 0)] len parts K:=sq rJ rfl lE rfl rfl (by decide) rfl h
theorem agO (h:len*3<=16777216):cH Tryz.prog 23 len parts K=AM 120 3 [.lit (.int .i64 0),.lit (.int .i64 0),.lit (.int .i64 0)] len parts K:=sq mq rfl fU rfl rfl (by decide) rfl h
theorem agP:dR Tryz.prog 23 (.ow E es) (.c (.sl ys)) K=(((E=none∨E=some (120,3))/\∀ x∈es,x.length=3)/\((es.length+ys.length)*24<=140737488355328/\es.length+ys.length<=9223372036854775807/\∀ x∈ys,x.length=3)/\K (.ow (if ys.isEmpty then E else some (120,3)) (es++ys))):=Hv mq rfl fU rfl rfl rfl (by decide) rfl
theorem agQ (h:len*1<=16777216):cH Tryz.prog 27 len parts K=AM 5 1 [.lit (.int .u8 0)] len parts K:=sq kU rfl pw rfl rfl (by decide) rfl h
theorem agR (h:len*3<=16777216):cH Tryz.prog 28 len parts K=AM 54 3 [.lit (.int .i64 0),.lit (.int .i64 0),.lit (.int .i64 0)] len parts K:=sq eC rfl eS rfl rfl (by decide) rfl h
theorem zd:dR Tryz.prog 28 (.ow E es) (.c (.sl ys)) K=(((E=none∨E=some (54,3))/\∀ x∈es,x.length=3)/\((es.length+ys.length)*24<=140737488355328/\es.length+ys.length<=9223372036854775807/\∀ x∈ys,x.length=3)/\K (.ow (if ys.isEmpty then E else some (54,3)) (es++ys))):=Hv eC rfl eS rfl rfl rfl (by decide) rfl
theorem agS (h:len*1<=16777216):cH Tryz.prog 79 len parts K=AM 3 1 [.lit (.int .i64 0)] len parts K:=sq pX rfl mo rfl rfl (by decide) rfl h
theorem agT:dR Tryz.prog 79 (.ow E es) (.c (.sl ys)) K=(((E=none∨E=some (3,1))/\∀ x∈es,x.length=1)/\((es.length+ys.length)*8<=140737488355328/\es.length+ys.length<=9223372036854775807/\∀ x∈ys,x.length=1)/\K (.ow (if ys.isEmpty then E else some (3,1)) (es++ys))):=Hv pX rfl mo rfl rfl rfl (by decide) rfl
theorem agU (h:len*3<=16777216):cH Tryz.prog 86 len parts K=AM 35 3 [.lit (.int .i64 0),.sl [],.sl []] len parts K:=sq tc rfl lD rfl rfl (by decide) rfl h
theorem agV:dR Tryz.prog 86 (.ow E es) (.c (.sl ys)) K=(((E=none∨E=some (35,3))/\∀ x∈es,x.length=3)/\((es.length+ys.length)*56<=140737488355328/\es.length+ys.length<=9223372036854775807/\∀ x∈ys,x.length=3)/\K (.ow (if ys.isEmpty then E else some (35,3)) (es++ys))):=Hv tc rfl lD rfl rfl rfl (by decide) rfl
theorem agW (h:len*6<=16777216):cH Tryz.prog 90 len parts K=AM 93 6 [.lit (.int .i64 0),.lit (.int .i64 0),.lit (.int .i64 0),.lit (.int .i64 0),.lit (.int .i64 0),.sl []] len parts K:=sq PN rfl td rfl rfl (by decide) rfl h
theorem acm (h:len*1<=16777216):cH Tryz.prog 153 len parts K=AM 156 1 [.lit (.pointer none)] len parts K:=sq nq rfl ui rfl rfl (by decide) rfl h
theorem acn (h:len*3<=16777216):cH Tryz.prog 173 len parts K=AM 146 3 [.lit (.int .i64 0),.lit (.int .i64 0),.lit (.int .i64 0)] len parts K:=sq NS rfl wJ rfl rfl (by decide) rfl h
def pt0:=jj @ajE (jj @amB (jj @ajF (jj @ajG (jj @ajH (jj @ajI (jj @ajJ (jj @amC (jj @ajK (jj @amD (jj @ajL (jj @afS (jj @ajM (jj @afT (jj @afU (jj @afV (jj @afW (jj @afX (jj @afY (jj @ajN (jj @afZ (jj @af0 (jj @Xb (jj @abM @Xc)))))))))))))))))))))))
def pt1:=jj @Xd (jj @Xe (jj @af1 (jj @af2 (jj @af4 (jj @af5 (jj @NQ (jj @abN (jj @ajO (jj @af6 (jj @af7 (jj @af8 (jj @af9 (jj @aga (jj @agb (jj @agc (jj @ajP (jj @agd (jj @age (jj @agf (jj @abO (jj @Xh (jj @abP (jj @Xi (jj @abQ (jj @Xj @agh)))))))))))))))))))))))))
def pt2:=jj @agi (jj @ajQ (jj @agj (jj @agk (jj @abR (jj @Xk (jj @abS (jj @Xl (jj @abT (jj @Xm (jj @agl (jj @agm (jj @ajR (jj @agn (jj @abU (jj @Xn (jj @abV (jj @Xo (jj @abW (jj @Xp (jj @ago (jj @agp (jj @agq (jj @agr (jj @ags (jj @Xr (jj @agt (jj @agu @agv)))))))))))))))))))))))))))
def pt3:=jj @agx (jj @agy (jj @agz (jj @agA (jj @agB (jj @ajT (jj @agC (jj @agD (jj @Xu (jj @Xv (jj @agE (jj @abX (jj @SI (jj @abY (jj @abZ (jj @ab0 (jj @ab1 (jj @SJ (jj @SK (jj @SL @SN)))))))))))))))))))
def pt4:=jj @ab2 (jj @SO (jj @SQ (jj @SR (jj @ab4 (jj @agI (jj @ab5 (jj @Xx (jj @SS (jj @Xy (jj @SU (jj @Xz (jj @SV (jj @ab6 (jj @ab7 (jj @agJ (jj @XA (jj @SY (jj @SZ (jj @S0 (jj @S1 (jj @S3 (jj @ab8 (jj @XB (jj @ab9 @agL))))))))))))))))))))))))
def pt5:=jj @aca (jj @S4 (jj @S5 (jj @S7 (jj @acd (jj @ace (jj @XC (jj @acf (jj @acg (jj @ach (jj @S8 (jj @S9 (jj @Ta (jj @aci (jj @acj (jj @XD (jj @XE @ack))))))))))))))))
def pt6:=jj @agN (jj @agO (jj @agQ (jj @agR (jj @agS (jj @agU (jj @agW (jj @acm @acn)))))))
def ptA:=jj pt0 (jj pt1 (jj pt2 (jj pt3 (jj pt4 (jj pt5 (pt6))))))
