/- The types of the translation, as the framework sees them: closed facts, by the kernel. Printed by vltypes.py. -/
import Derived.Test.YtloppcgcepgbnaaGreatDoorVlPack
import Derived.Test.YtloppcgcepgbnaaGreatDoorChecked
import Derived.KernelRfl
set_option linter.all false
namespace Go.Proofs.YtloppcgcepgbnaaGreatDoor
open Go Go.Vl
variable {G:Gl} {tr:List Nat} {ty:TypeId} {d:Nat} {dO:Option Tmp} {pos:String} {af:Array Edge} {g:Option (Nat×Bool)} {fr:Nat→V} {bx:Nat→List V} {nb:Nat} {H:S→Prop} {s:S} {cs:List C} {o:Nat} {b:Nat} {l c z:Nat} {K:V→Prop} {t q:Option Tmp} {v:V} {x:V} {E:Option (TypeId×Nat)} {es ys:List (List C)} {y:ByteArray} {len:Nat} {parts:List (Nat×V)}
theorem pe:ti Tryz.prog 3=some { kd:=.int .i64,size:=1,bytes:=8,agg:=false,zero:=some [.lit (.int .i64 0)],flds:=[],eqs:=some [.int] }:=by kernel_rfl
theorem alu:VStep Tryz.prog G tr ⟨some d,.alloc 3,ty,pos,af,g⟩ ⟨fr,bx,nb⟩ H=H ⟨up fr d (.bp nb 0),up bx nb [.c (.lit (.int .i64 0))],nb+1⟩:=lA pe rfl
theorem aov:cK Tryz.prog 3 s (.c (.rp cs o)) K=cJ false 1 o cs K:=iy pe rfl rfl
theorem alv:cK Tryz.prog 3 ⟨fr,bx,nb⟩ (.bp b o) K=(bY (bx b)=false∧ldB nb b (bx b) o K):=jw pe rfl
theorem alw:oe (ti Tryz.prog 3) t q (.bp b o) v ⟨fr,bx,nb⟩ H=(bY (bx b)=false∧stS 1 t q b o v ⟨fr,bx,nb⟩ H):=by rw[pe];exact jI rfl
theorem DX:ti Tryz.prog 4=some { kd:=.bool,size:=1,bytes:=1,agg:=false,zero:=some [.lit (.bool false)],flds:=[],eqs:=some [.bool] }:=by kernel_rfl
theorem alx:VStep Tryz.prog G tr ⟨some d,.alloc 4,ty,pos,af,g⟩ ⟨fr,bx,nb⟩ H=H ⟨up fr d (.bp nb 0),up bx nb [.c (.lit (.bool false))],nb+1⟩:=lA DX rfl
theorem aow:cK Tryz.prog 4 s (.c (.rp cs o)) K=cJ false 1 o cs K:=iy DX rfl rfl
theorem aly:cK Tryz.prog 4 ⟨fr,bx,nb⟩ (.bp b o) K=(bY (bx b)=false∧ldB nb b (bx b) o K):=jw DX rfl
theorem alz:oe (ti Tryz.prog 4) t q (.bp b o) v ⟨fr,bx,nb⟩ H=(bY (bx b)=false∧stS 1 t q b o v ⟨fr,bx,nb⟩ H):=by rw[DX];exact jI rfl
theorem qP:ti Tryz.prog 5=some { kd:=.int .u8,size:=1,bytes:=1,agg:=false,zero:=some [.lit (.int .u8 0)],flds:=[],eqs:=some [.int] }:=by kernel_rfl
theorem aox:cK Tryz.prog 5 s (.c (.rp cs o)) K=cJ false 1 o cs K:=iy qP rfl rfl
theorem alA:cK Tryz.prog 5 ⟨fr,bx,nb⟩ (.bp b o) K=(bY (bx b)=false∧ldB nb b (bx b) o K):=jw qP rfl
theorem Xf:ti Tryz.prog 9=some { kd:=.str,size:=1,bytes:=16,agg:=false,zero:=some [.lit (.string (ByteArray.mk #[]))],flds:=[],eqs:=some [.str] }:=by kernel_rfl
theorem alB:fw Tryz.prog 9 (.c (.lit (.string y))) K=K (.c (.lit (.int .i64 y.size))):=Wg Xf rfl
theorem aoy:cK Tryz.prog 9 s (.c (.rp cs o)) K=cJ false 1 o cs K:=iy Xf rfl rfl
theorem alC:cK Tryz.prog 9 ⟨fr,bx,nb⟩ (.bp b o) K=(bY (bx b)=false∧ldB nb b (bx b) o K):=jw Xf rfl
theorem mD:ti Tryz.prog 22=some { kd:=.slice 57,size:=1,bytes:=24,agg:=false,zero:=some [.sl []],flds:=[],eqs:=none }:=by kernel_rfl
theorem ahf:fw Tryz.prog 22 (.c (.sl es)) K=K (.c (.lit (.int .i64 es.length))):=ff mD rfl
theorem acv:fw Tryz.prog 22 (.ow E es) K=K (.c (.lit (.int .i64 es.length))):=mU mD rfl
theorem acw:fw Tryz.prog 22 (.ms b o l c z) K=K (.c (.lit (.int .i64 l))):=mV mD rfl
theorem alD:cK Tryz.prog 22 s (.c (.rp cs o)) K=cJ false 1 o cs K:=iy mD rfl rfl
theorem ahg:cK Tryz.prog 22 ⟨fr,bx,nb⟩ (.bp b o) K=(bY (bx b)=false∧ldB nb b (bx b) o K):=jw mD rfl
theorem ahh:nB Tryz.prog 22 ⟨fr,bx,nb⟩ (.bp b o) K=(bY (bx b)=false∧ldZ nb b (bx b) o K):=wC mD rfl
theorem ahi:oe (ti Tryz.prog 22) t q (.bp b o) v ⟨fr,bx,nb⟩ H=(bY (bx b)=false∧stS 1 t q b o v ⟨fr,bx,nb⟩ H):=by rw[mD];exact jI rfl
theorem mY:ti Tryz.prog 23=some { kd:=.slice 120,size:=1,bytes:=24,agg:=false,zero:=some [.sl []],flds:=[],eqs:=none }:=by kernel_rfl
theorem ahj:fw Tryz.prog 23 (.c (.sl es)) K=K (.c (.lit (.int .i64 es.length))):=ff mY rfl
theorem acx:fw Tryz.prog 23 (.ow E es) K=K (.c (.lit (.int .i64 es.length))):=mU mY rfl
theorem acy:fw Tryz.prog 23 (.ms b o l c z) K=K (.c (.lit (.int .i64 l))):=mV mY rfl
theorem alE:cK Tryz.prog 23 s (.c (.rp cs o)) K=cJ false 1 o cs K:=iy mY rfl rfl
theorem ahk:cK Tryz.prog 23 ⟨fr,bx,nb⟩ (.bp b o) K=(bY (bx b)=false∧ldB nb b (bx b) o K):=jw mY rfl
theorem ahl:nB Tryz.prog 23 ⟨fr,bx,nb⟩ (.bp b o) K=(bY (bx b)=false∧ldZ nb b (bx b) o K):=wC mY rfl
theorem ahm:oe (ti Tryz.prog 23) t q (.bp b o) v ⟨fr,bx,nb⟩ H=(bY (bx b)=false∧stS 1 t q b o v ⟨fr,bx,nb⟩ H):=by rw[mY];exact jI rfl
theorem ub:ti Tryz.prog 24=some { kd:=.slice 122,size:=1,bytes:=24,agg:=false,zero:=some [.sl []],flds:=[],eqs:=none }:=by kernel_rfl
theorem ahn:fw Tryz.prog 24 (.c (.sl es)) K=K (.c (.lit (.int .i64 es.length))):=ff ub rfl
theorem acz:fw Tryz.prog 24 (.ow E es) K=K (.c (.lit (.int .i64 es.length))):=mU ub rfl
theorem acA:fw Tryz.prog 24 (.ms b o l c z) K=K (.c (.lit (.int .i64 l))):=mV ub rfl
theorem alF:cK Tryz.prog 24 s (.c (.rp cs o)) K=cJ false 1 o cs K:=iy ub rfl rfl
theorem aho:cK Tryz.prog 24 ⟨fr,bx,nb⟩ (.bp b o) K=(bY (bx b)=false∧ldB nb b (bx b) o K):=jw ub rfl
theorem ahp:nB Tryz.prog 24 ⟨fr,bx,nb⟩ (.bp b o) K=(bY (bx b)=false∧ldZ nb b (bx b) o K):=wC ub rfl
theorem qq:ti Tryz.prog 26=some { kd:=.struct,size:=4,bytes:=88,agg:=true,zero:=some [.lit (.string (ByteArray.mk #[])),.sl [],.sl [],.sl []],flds:=[(0,1,false),(1,1,false),(2,1,false),(3,1,false)],eqs:=none }:=by kernel_rfl
theorem ahq:VStep Tryz.prog G tr ⟨some d,.alloc 26,ty,pos,af,g⟩ ⟨fr,bx,nb⟩ H=H ⟨up fr d (.bp nb 0),up bx nb [.c (.lit (.string (ByteArray.mk #[]))),.ow none [],.ow none [],.ow none []],nb+1⟩:=lA qq rfl
theorem alG (h:cs.length=4):cK Tryz.prog 26 s (.c (.rp cs 0)) K=K (.agg cs):=sf qq rfl h
theorem ahr:cK Tryz.prog 26 ⟨fr,bx,nb⟩ (.bp b o) K=(bY (bx b)=false∧ldA nb b (bx b) o 4 K):=qN qq rfl rfl
theorem ahs:jN Tryz.prog 26 parts K=qp K (iI [(0,1,false),(1,1,false),(2,1,false),(3,1,false)] parts [.c (.lit (.string (ByteArray.mk #[]))),.ow none [],.ow none [],.ow none []]):=mW qq rfl rfl rfl
theorem aht:iD Tryz.prog 26 parts K=sh [(0,1,false),(1,1,false),(2,1,false),(3,1,false)] [.lit (.string (ByteArray.mk #[])),.sl [],.sl [],.sl []] parts K (j8 [(0,1,false),(1,1,false),(2,1,false),(3,1,false)] parts [.lit (.string (ByteArray.mk #[])),.sl [],.sl [],.sl []]):=me qq rfl rfl rfl
theorem acB:aM Tryz.prog 26 (.c (.rp cs o)) 0 K=K (.c (.rp cs (o+0))):=fU qq rfl (by decide)
theorem Xg:aM Tryz.prog 26 (.bp b o) 0 K=K (.bp b (o+0)):=fV qq rfl (by decide)
theorem acC:aM Tryz.prog 26 (.c (.rp cs o)) 1 K=K (.c (.rp cs (o+1))):=fU qq rfl (by decide)
theorem Xh:aM Tryz.prog 26 (.bp b o) 1 K=K (.bp b (o+1)):=fV qq rfl (by decide)
theorem acD:aM Tryz.prog 26 (.c (.rp cs o)) 2 K=K (.c (.rp cs (o+2))):=fU qq rfl (by decide)
theorem Xi:aM Tryz.prog 26 (.bp b o) 2 K=K (.bp b (o+2)):=fV qq rfl (by decide)
theorem acE:aM Tryz.prog 26 (.c (.rp cs o)) 3 K=K (.c (.rp cs (o+3))):=fU qq rfl (by decide)
theorem Xj:aM Tryz.prog 26 (.bp b o) 3 K=K (.bp b (o+3)):=fV qq rfl (by decide)
theorem ahu:oe (ti Tryz.prog 26) t q (.bp b o) v ⟨fr,bx,nb⟩ H=(bY (bx b)=false∧stS 4 t q b o v ⟨fr,bx,nb⟩ H):=by rw[qq];exact jI rfl
theorem kN:ti Tryz.prog 27=some { kd:=.slice 5,size:=1,bytes:=24,agg:=false,zero:=some [.sl []],flds:=[],eqs:=none }:=by kernel_rfl
theorem ahv:fw Tryz.prog 27 (.c (.sl es)) K=K (.c (.lit (.int .i64 es.length))):=ff kN rfl
theorem acF:fw Tryz.prog 27 (.ow E es) K=K (.c (.lit (.int .i64 es.length))):=mU kN rfl
theorem acG:fw Tryz.prog 27 (.ms b o l c z) K=K (.c (.lit (.int .i64 l))):=mV kN rfl
theorem alH:cK Tryz.prog 27 s (.c (.rp cs o)) K=cJ false 1 o cs K:=iy kN rfl rfl
theorem ahw:cK Tryz.prog 27 ⟨fr,bx,nb⟩ (.bp b o) K=(bY (bx b)=false∧ldB nb b (bx b) o K):=jw kN rfl
theorem ahx:nB Tryz.prog 27 ⟨fr,bx,nb⟩ (.bp b o) K=(bY (bx b)=false∧ldZ nb b (bx b) o K):=wC kN rfl
theorem ahy:oe (ti Tryz.prog 27) t q (.bp b o) v ⟨fr,bx,nb⟩ H=(bY (bx b)=false∧stS 1 t q b o v ⟨fr,bx,nb⟩ H):=by rw[kN];exact jI rfl
theorem eO:ti Tryz.prog 28=some { kd:=.slice 54,size:=1,bytes:=24,agg:=false,zero:=some [.sl []],flds:=[],eqs:=none }:=by kernel_rfl
theorem Xk:fw Tryz.prog 28 (.c (.sl es)) K=K (.c (.lit (.int .i64 es.length))):=ff eO rfl
theorem acH:fw Tryz.prog 28 (.ow E es) K=K (.c (.lit (.int .i64 es.length))):=mU eO rfl
theorem acI:fw Tryz.prog 28 (.ms b o l c z) K=K (.c (.lit (.int .i64 l))):=mV eO rfl
theorem alI:cK Tryz.prog 28 s (.c (.rp cs o)) K=cJ false 1 o cs K:=iy eO rfl rfl
theorem ahz:cK Tryz.prog 28 ⟨fr,bx,nb⟩ (.bp b o) K=(bY (bx b)=false∧ldB nb b (bx b) o K):=jw eO rfl
theorem ahA:nB Tryz.prog 28 ⟨fr,bx,nb⟩ (.bp b o) K=(bY (bx b)=false∧ldZ nb b (bx b) o K):=wC eO rfl
theorem ahB:oe (ti Tryz.prog 28) t q (.bp b o) v ⟨fr,bx,nb⟩ H=(bY (bx b)=false∧stS 1 t q b o v ⟨fr,bx,nb⟩ H):=by rw[eO];exact jI rfl
theorem Po:ti Tryz.prog 30=some { kd:=.other,size:=1,bytes:=8,agg:=false,zero:=some [.lit .nilFunc],flds:=[],eqs:=none }:=by kernel_rfl
theorem alJ:cK Tryz.prog 30 s (.c (.rp cs o)) K=cJ false 1 o cs K:=iy Po rfl rfl
theorem ahC:cK Tryz.prog 30 ⟨fr,bx,nb⟩ (.bp b o) K=(bY (bx b)=false∧ldB nb b (bx b) o K):=jw Po rfl
theorem Pq:ti Tryz.prog 31=some { kd:=.int .i64,size:=1,bytes:=8,agg:=false,zero:=some [.lit (.int .i64 0)],flds:=[],eqs:=some [.int] }:=by kernel_rfl
theorem ahD:VStep Tryz.prog G tr ⟨some d,.alloc 31,ty,pos,af,g⟩ ⟨fr,bx,nb⟩ H=H ⟨up fr d (.bp nb 0),up bx nb [.c (.lit (.int .i64 0))],nb+1⟩:=lA Pq rfl
theorem alK:cK Tryz.prog 31 s (.c (.rp cs o)) K=cJ false 1 o cs K:=iy Pq rfl rfl
theorem ahE:cK Tryz.prog 31 ⟨fr,bx,nb⟩ (.bp b o) K=(bY (bx b)=false∧ldB nb b (bx b) o K):=jw Pq rfl
theorem ahF:oe (ti Tryz.prog 31) t q (.bp b o) v ⟨fr,bx,nb⟩ H=(bY (bx b)=false∧stS 1 t q b o v ⟨fr,bx,nb⟩ H):=by rw[Pq];exact jI rfl
theorem qt:ti Tryz.prog 35=some { kd:=.struct,size:=3,bytes:=56,agg:=true,zero:=some [.lit (.int .i64 0),.sl [],.sl []],flds:=[(0,1,false),(1,1,false),(2,1,false)],eqs:=none }:=by kernel_rfl
theorem ahG:VStep Tryz.prog G tr ⟨some d,.alloc 35,ty,pos,af,g⟩ ⟨fr,bx,nb⟩ H=H ⟨up fr d (.bp nb 0),up bx nb [.c (.lit (.int .i64 0)),.ow none [],.ow none []],nb+1⟩:=lA qt rfl
theorem alL (h:cs.length=3):cK Tryz.prog 35 s (.c (.rp cs 0)) K=K (.agg cs):=sf qt rfl h
theorem ahH:cK Tryz.prog 35 ⟨fr,bx,nb⟩ (.bp b o) K=(bY (bx b)=false∧ldA nb b (bx b) o 3 K):=qN qt rfl rfl
theorem ahI:jN Tryz.prog 35 parts K=qp K (iI [(0,1,false),(1,1,false),(2,1,false)] parts [.c (.lit (.int .i64 0)),.ow none [],.ow none []]):=mW qt rfl rfl rfl
theorem ahJ:iD Tryz.prog 35 parts K=sh [(0,1,false),(1,1,false),(2,1,false)] [.lit (.int .i64 0),.sl [],.sl []] parts K (j8 [(0,1,false),(1,1,false),(2,1,false)] parts [.lit (.int .i64 0),.sl [],.sl []]):=me qt rfl rfl rfl
theorem acJ:aM Tryz.prog 35 (.c (.rp cs o)) 0 K=K (.c (.rp cs (o+0))):=fU qt rfl (by decide)
theorem Xl:aM Tryz.prog 35 (.bp b o) 0 K=K (.bp b (o+0)):=fV qt rfl (by decide)
theorem acK:aM Tryz.prog 35 (.c (.rp cs o)) 1 K=K (.c (.rp cs (o+1))):=fU qt rfl (by decide)
theorem Xm:aM Tryz.prog 35 (.bp b o) 1 K=K (.bp b (o+1)):=fV qt rfl (by decide)
theorem acL:aM Tryz.prog 35 (.c (.rp cs o)) 2 K=K (.c (.rp cs (o+2))):=fU qt rfl (by decide)
theorem Xn:aM Tryz.prog 35 (.bp b o) 2 K=K (.bp b (o+2)):=fV qt rfl (by decide)
theorem ahK:oe (ti Tryz.prog 35) t q (.bp b o) v ⟨fr,bx,nb⟩ H=(bY (bx b)=false∧stS 3 t q b o v ⟨fr,bx,nb⟩ H):=by rw[qt];exact jI rfl
theorem sX:ti Tryz.prog 47=some { kd:=.struct,size:=3,bytes:=56,agg:=true,zero:=some [.sl [],.sl [],.lit (.int .i64 0)],flds:=[(0,1,false),(1,1,false),(2,1,false)],eqs:=none }:=by kernel_rfl
theorem ahL:VStep Tryz.prog G tr ⟨some d,.alloc 47,ty,pos,af,g⟩ ⟨fr,bx,nb⟩ H=H ⟨up fr d (.bp nb 0),up bx nb [.ow none [],.ow none [],.c (.lit (.int .i64 0))],nb+1⟩:=lA sX rfl
theorem alM (h:cs.length=3):cK Tryz.prog 47 s (.c (.rp cs 0)) K=K (.agg cs):=sf sX rfl h
theorem ahM:cK Tryz.prog 47 ⟨fr,bx,nb⟩ (.bp b o) K=(bY (bx b)=false∧ldA nb b (bx b) o 3 K):=qN sX rfl rfl
theorem ahN:jN Tryz.prog 47 parts K=qp K (iI [(0,1,false),(1,1,false),(2,1,false)] parts [.ow none [],.ow none [],.c (.lit (.int .i64 0))]):=mW sX rfl rfl rfl
theorem ahO:iD Tryz.prog 47 parts K=sh [(0,1,false),(1,1,false),(2,1,false)] [.sl [],.sl [],.lit (.int .i64 0)] parts K (j8 [(0,1,false),(1,1,false),(2,1,false)] parts [.sl [],.sl [],.lit (.int .i64 0)]):=me sX rfl rfl rfl
theorem acM:aM Tryz.prog 47 (.c (.rp cs o)) 0 K=K (.c (.rp cs (o+0))):=fU sX rfl (by decide)
theorem Xo:aM Tryz.prog 47 (.bp b o) 0 K=K (.bp b (o+0)):=fV sX rfl (by decide)
theorem acN:aM Tryz.prog 47 (.c (.rp cs o)) 1 K=K (.c (.rp cs (o+1))):=fU sX rfl (by decide)
theorem Xp:aM Tryz.prog 47 (.bp b o) 1 K=K (.bp b (o+1)):=fV sX rfl (by decide)
theorem acO:aM Tryz.prog 47 (.c (.rp cs o)) 2 K=K (.c (.rp cs (o+2))):=fU sX rfl (by decide)
theorem Xq:aM Tryz.prog 47 (.bp b o) 2 K=K (.bp b (o+2)):=fV sX rfl (by decide)
theorem ahP:oe (ti Tryz.prog 47) t q (.bp b o) v ⟨fr,bx,nb⟩ H=(bY (bx b)=false∧stS 3 t q b o v ⟨fr,bx,nb⟩ H):=by rw[sX];exact jI rfl
theorem alN:ti Tryz.prog 51=some { kd:=.int .u16,size:=1,bytes:=2,agg:=false,zero:=some [.lit (.int .u16 0)],flds:=[],eqs:=some [.int] }:=by kernel_rfl
theorem eV:ti Tryz.prog 54=some { kd:=.struct,size:=3,bytes:=24,agg:=true,zero:=some [.lit (.int .i64 0),.lit (.int .i64 0),.lit (.int .i64 0)],flds:=[(0,1,false),(1,1,false),(2,1,false)],eqs:=some [.int,.int,.int] }:=by kernel_rfl
theorem ahQ:VStep Tryz.prog G tr ⟨some d,.alloc 54,ty,pos,af,g⟩ ⟨fr,bx,nb⟩ H=H ⟨up fr d (.bp nb 0),up bx nb [.c (.lit (.int .i64 0)),.c (.lit (.int .i64 0)),.c (.lit (.int .i64 0))],nb+1⟩:=lA eV rfl
theorem alO (h:cs.length=3):cK Tryz.prog 54 s (.c (.rp cs 0)) K=K (.agg cs):=sf eV rfl h
theorem ahR:cK Tryz.prog 54 ⟨fr,bx,nb⟩ (.bp b o) K=(bY (bx b)=false∧ldA nb b (bx b) o 3 K):=qN eV rfl rfl
theorem ahS:jN Tryz.prog 54 parts K=qp K (iI [(0,1,false),(1,1,false),(2,1,false)] parts [.c (.lit (.int .i64 0)),.c (.lit (.int .i64 0)),.c (.lit (.int .i64 0))]):=mW eV rfl rfl rfl
theorem ahT:iD Tryz.prog 54 parts K=sh [(0,1,false),(1,1,false),(2,1,false)] [.lit (.int .i64 0),.lit (.int .i64 0),.lit (.int .i64 0)] parts K (j8 [(0,1,false),(1,1,false),(2,1,false)] parts [.lit (.int .i64 0),.lit (.int .i64 0),.lit (.int .i64 0)]):=me eV rfl rfl rfl
theorem acP:aM Tryz.prog 54 (.c (.rp cs o)) 0 K=K (.c (.rp cs (o+0))):=fU eV rfl (by decide)
theorem Xr:aM Tryz.prog 54 (.bp b o) 0 K=K (.bp b (o+0)):=fV eV rfl (by decide)
theorem acQ:aM Tryz.prog 54 (.c (.rp cs o)) 1 K=K (.c (.rp cs (o+1))):=fU eV rfl (by decide)
theorem Xs:aM Tryz.prog 54 (.bp b o) 1 K=K (.bp b (o+1)):=fV eV rfl (by decide)
theorem acR:aM Tryz.prog 54 (.c (.rp cs o)) 2 K=K (.c (.rp cs (o+2))):=fU eV rfl (by decide)
theorem Xt:aM Tryz.prog 54 (.bp b o) 2 K=K (.bp b (o+2)):=fV eV rfl (by decide)
theorem ahU:oe (ti Tryz.prog 54) t q (.bp b o) v ⟨fr,bx,nb⟩ H=(bY (bx b)=false∧stS 3 t q b o v ⟨fr,bx,nb⟩ H):=by rw[eV];exact jI rfl
theorem j9:ti Tryz.prog 57=some { kd:=.struct,size:=3,bytes:=32,agg:=true,zero:=some [.lit (.string (ByteArray.mk #[])),.lit (.int .i64 0),.lit (.int .i64 0)],flds:=[(0,1,false),(1,1,false),(2,1,false)],eqs:=some [.str,.int,.int] }:=by kernel_rfl
theorem ahV:VStep Tryz.prog G tr ⟨some d,.alloc 57,ty,pos,af,g⟩ ⟨fr,bx,nb⟩ H=H ⟨up fr d (.bp nb 0),up bx nb [.c (.lit (.string (ByteArray.mk #[]))),.c (.lit (.int .i64 0)),.c (.lit (.int .i64 0))],nb+1⟩:=lA j9 rfl
theorem alP (h:cs.length=3):cK Tryz.prog 57 s (.c (.rp cs 0)) K=K (.agg cs):=sf j9 rfl h
theorem ahW:cK Tryz.prog 57 ⟨fr,bx,nb⟩ (.bp b o) K=(bY (bx b)=false∧ldA nb b (bx b) o 3 K):=qN j9 rfl rfl
theorem ahX:jN Tryz.prog 57 parts K=qp K (iI [(0,1,false),(1,1,false),(2,1,false)] parts [.c (.lit (.string (ByteArray.mk #[]))),.c (.lit (.int .i64 0)),.c (.lit (.int .i64 0))]):=mW j9 rfl rfl rfl
theorem ahY:iD Tryz.prog 57 parts K=sh [(0,1,false),(1,1,false),(2,1,false)] [.lit (.string (ByteArray.mk #[])),.lit (.int .i64 0),.lit (.int .i64 0)] parts K (j8 [(0,1,false),(1,1,false),(2,1,false)] parts [.lit (.string (ByteArray.mk #[])),.lit (.int .i64 0),.lit (.int .i64 0)]):=me j9 rfl rfl rfl
theorem acS:aM Tryz.prog 57 (.c (.rp cs o)) 0 K=K (.c (.rp cs (o+0))):=fU j9 rfl (by decide)
theorem Xu:aM Tryz.prog 57 (.bp b o) 0 K=K (.bp b (o+0)):=fV j9 rfl (by decide)
theorem acT:aM Tryz.prog 57 (.c (.rp cs o)) 1 K=K (.c (.rp cs (o+1))):=fU j9 rfl (by decide)
theorem Xv:aM Tryz.prog 57 (.bp b o) 1 K=K (.bp b (o+1)):=fV j9 rfl (by decide)
theorem acU:aM Tryz.prog 57 (.c (.rp cs o)) 2 K=K (.c (.rp cs (o+2))):=fU j9 rfl (by decide)
theorem Xw:aM Tryz.prog 57 (.bp b o) 2 K=K (.bp b (o+2)):=fV j9 rfl (by decide)
theorem ahZ:oe (ti Tryz.prog 57) t q (.bp b o) v ⟨fr,bx,nb⟩ H=(bY (bx b)=false∧stS 3 t q b o v ⟨fr,bx,nb⟩ H):=by rw[j9];exact jI rfl
theorem Pv:ti Tryz.prog 60=some { kd:=.other,size:=1,bytes:=8,agg:=false,zero:=some [.lit .nilFunc],flds:=[],eqs:=none }:=by kernel_rfl
theorem ah0:VStep Tryz.prog G tr ⟨some d,.alloc 60,ty,pos,af,g⟩ ⟨fr,bx,nb⟩ H=H ⟨up fr d (.bp nb 0),up bx nb [.c (.lit .nilFunc)],nb+1⟩:=lA Pv rfl
theorem alQ:cK Tryz.prog 60 s (.c (.rp cs o)) K=cJ false 1 o cs K:=iy Pv rfl rfl
theorem ah1:cK Tryz.prog 60 ⟨fr,bx,nb⟩ (.bp b o) K=(bY (bx b)=false∧ldB nb b (bx b) o K):=jw Pv rfl
theorem ah2:oe (ti Tryz.prog 60) t q (.bp b o) v ⟨fr,bx,nb⟩ H=(bY (bx b)=false∧stS 1 t q b o v ⟨fr,bx,nb⟩ H):=by rw[Pv];exact jI rfl
theorem Px:ti Tryz.prog 65=some { kd:=.arr 3 3,size:=3,bytes:=24,agg:=true,zero:=some [.lit (.int .i64 0),.lit (.int .i64 0),.lit (.int .i64 0)],flds:=[],eqs:=some [.int,.int,.int] }:=by kernel_rfl
theorem ah3:VStep Tryz.prog G tr ⟨some d,.alloc 65,ty,pos,af,g⟩ ⟨fr,bx,nb⟩ H=H ⟨up fr d (.bp nb 0),up bx nb [.c (.lit (.int .i64 0)),.c (.lit (.int .i64 0)),.c (.lit (.int .i64 0))],nb+1⟩:=lA Px rfl
theorem Py:ti Tryz.prog 75=some { kd:=.int .u64,size:=1,bytes:=8,agg:=false,zero:=some [.lit (.int .u64 0)],flds:=[],eqs:=some [.int] }:=by kernel_rfl
theorem uc:ti Tryz.prog 79=some { kd:=.slice 3,size:=1,bytes:=24,agg:=false,zero:=some [.sl []],flds:=[],eqs:=none }:=by kernel_rfl
theorem ah4:fw Tryz.prog 79 (.c (.sl es)) K=K (.c (.lit (.int .i64 es.length))):=ff uc rfl
theorem acV:fw Tryz.prog 79 (.ow E es) K=K (.c (.lit (.int .i64 es.length))):=mU uc rfl
theorem acW:fw Tryz.prog 79 (.ms b o l c z) K=K (.c (.lit (.int .i64 l))):=mV uc rfl
theorem Pz:ti Tryz.prog 81=some { kd:=.ptr 100,size:=1,bytes:=8,agg:=false,zero:=some [.lit (.pointer none)],flds:=[],eqs:=none }:=by kernel_rfl
theorem ah5:VStep Tryz.prog G tr ⟨some d,.alloc 81,ty,pos,af,g⟩ ⟨fr,bx,nb⟩ H=H ⟨up fr d (.bp nb 0),up bx nb [.c (.lit (.pointer none))],nb+1⟩:=lA Pz rfl
theorem alR:cK Tryz.prog 81 s (.c (.rp cs o)) K=cJ false 1 o cs K:=iy Pz rfl rfl
theorem ah6:cK Tryz.prog 81 ⟨fr,bx,nb⟩ (.bp b o) K=(bY (bx b)=false∧ldB nb b (bx b) o K):=jw Pz rfl
theorem ah7:oe (ti Tryz.prog 81) t q (.bp b o) v ⟨fr,bx,nb⟩ H=(bY (bx b)=false∧stS 1 t q b o v ⟨fr,bx,nb⟩ H):=by rw[Pz];exact jI rfl
theorem zU:ti Tryz.prog 86=some { kd:=.slice 35,size:=1,bytes:=24,agg:=false,zero:=some [.sl []],flds:=[],eqs:=none }:=by kernel_rfl
theorem ah8:fw Tryz.prog 86 (.c (.sl es)) K=K (.c (.lit (.int .i64 es.length))):=ff zU rfl
theorem acX:fw Tryz.prog 86 (.ow E es) K=K (.c (.lit (.int .i64 es.length))):=mU zU rfl
theorem acY:fw Tryz.prog 86 (.ms b o l c z) K=K (.c (.lit (.int .i64 l))):=mV zU rfl
theorem alS:cK Tryz.prog 86 s (.c (.rp cs o)) K=cJ false 1 o cs K:=iy zU rfl rfl
theorem ah9:cK Tryz.prog 86 ⟨fr,bx,nb⟩ (.bp b o) K=(bY (bx b)=false∧ldB nb b (bx b) o K):=jw zU rfl
theorem aia:nB Tryz.prog 86 ⟨fr,bx,nb⟩ (.bp b o) K=(bY (bx b)=false∧ldZ nb b (bx b) o K):=wC zU rfl
theorem aib:oe (ti Tryz.prog 86) t q (.bp b o) v ⟨fr,bx,nb⟩ H=(bY (bx b)=false∧stS 1 t q b o v ⟨fr,bx,nb⟩ H):=by rw[zU];exact jI rfl
theorem PC:ti Tryz.prog 88=some { kd:=.map 54 4,size:=1,bytes:=8,agg:=false,zero:=some [.lit (.map none)],flds:=[],eqs:=none }:=by kernel_rfl
theorem Xx:VStep Tryz.prog G tr ⟨dO,.makeMap 88 none,ty,pos,af,g⟩ ⟨fr,bx,nb⟩ H=H ((⟨fr,up bx nb [.mk [] 0],nb+1⟩:S).put dO (.mr nb)):=wB PC rfl
theorem aic:cK Tryz.prog 88 ⟨fr,bx,nb⟩ (.bp b o) K=(bY (bx b)=false∧ldB nb b (bx b) o K):=jw PC rfl
theorem alT:zaB Tryz.prog 4=true:=by kernel_rfl
theorem ES:ti Tryz.prog 90=some { kd:=.slice 93,size:=1,bytes:=24,agg:=false,zero:=some [.sl []],flds:=[],eqs:=none }:=by kernel_rfl
theorem aid:fw Tryz.prog 90 (.c (.sl es)) K=K (.c (.lit (.int .i64 es.length))):=ff ES rfl
theorem acZ:fw Tryz.prog 90 (.ow E es) K=K (.c (.lit (.int .i64 es.length))):=mU ES rfl
theorem ac0:fw Tryz.prog 90 (.ms b o l c z) K=K (.c (.lit (.int .i64 l))):=mV ES rfl
theorem pO:ti Tryz.prog 93=some { kd:=.struct,size:=6,bytes:=64,agg:=true,zero:=some [.lit (.int .i64 0),.lit (.int .i64 0),.lit (.int .i64 0),.lit (.int .i64 0),.lit (.int .i64 0),.sl []],flds:=[(0,3,true),(3,1,false),(4,1,false),(5,1,false)],eqs:=none }:=by kernel_rfl
theorem aie:VStep Tryz.prog G tr ⟨some d,.alloc 93,ty,pos,af,g⟩ ⟨fr,bx,nb⟩ H=H ⟨up fr d (.bp nb 0),up bx nb [.c (.lit (.int .i64 0)),.c (.lit (.int .i64 0)),.c (.lit (.int .i64 0)),.c (.lit (.int .i64 0)),.c (.lit (.int .i64 0)),.ow none []],nb+1⟩:=lA pO rfl
theorem alU (h:cs.length=6):cK Tryz.prog 93 s (.c (.rp cs 0)) K=K (.agg cs):=sf pO rfl h
theorem aif:cK Tryz.prog 93 ⟨fr,bx,nb⟩ (.bp b o) K=(bY (bx b)=false∧ldA nb b (bx b) o 6 K):=qN pO rfl rfl
theorem aih:jN Tryz.prog 93 parts K=qp K (iI [(0,3,true),(3,1,false),(4,1,false),(5,1,false)] parts [.c (.lit (.int .i64 0)),.c (.lit (.int .i64 0)),.c (.lit (.int .i64 0)),.c (.lit (.int .i64 0)),.c (.lit (.int .i64 0)),.ow none []]):=mW pO rfl rfl rfl
theorem aii:iD Tryz.prog 93 parts K=sh [(0,3,true),(3,1,false),(4,1,false),(5,1,false)] [.lit (.int .i64 0),.lit (.int .i64 0),.lit (.int .i64 0),.lit (.int .i64 0),.lit (.int .i64 0),.sl []] parts K (j8 [(0,3,true),(3,1,false),(4,1,false),(5,1,false)] parts [.lit (.int .i64 0),.lit (.int .i64 0),.lit (.int .i64 0),.lit (.int .i64 0),.lit (.int .i64 0),.sl []]):=me pO rfl rfl rfl
theorem ac1:aM Tryz.prog 93 (.c (.rp cs o)) 0 K=K (.c (.rp cs (o+0))):=fU pO rfl (by decide)
theorem Xy:aM Tryz.prog 93 (.bp b o) 0 K=K (.bp b (o+0)):=fV pO rfl (by decide)
theorem ac2:aM Tryz.prog 93 (.c (.rp cs o)) 3 K=K (.c (.rp cs (o+5))):=fU pO rfl (by decide)
theorem Xz:aM Tryz.prog 93 (.bp b o) 3 K=K (.bp b (o+5)):=fV pO rfl (by decide)
theorem aij:oe (ti Tryz.prog 93) t q (.bp b o) v ⟨fr,bx,nb⟩ H=(bY (bx b)=false∧stS 6 t q b o v ⟨fr,bx,nb⟩ H):=by rw[pO];exact jI rfl
theorem He:ti Tryz.prog 100=some { kd:=.struct,size:=1,bytes:=8,agg:=true,zero:=some [.lit (.map none)],flds:=[(0,1,false)],eqs:=none }:=by kernel_rfl
theorem ac3:jN Tryz.prog 100 parts K=qp K (iI [(0,1,false)] parts [.c (.lit (.map none))]):=mW He rfl rfl rfl
theorem ac4:iD Tryz.prog 100 parts K=sh [(0,1,false)] [.lit (.map none)] parts K (j8 [(0,1,false)] parts [.lit (.map none)]):=me He rfl rfl rfl
theorem XA:aM Tryz.prog 100 (.c (.rp cs o)) 0 K=K (.c (.rp cs (o+0))):=fU He rfl (by decide)
theorem SG:aM Tryz.prog 100 (.bp b o) 0 K=K (.bp b (o+0)):=fV He rfl (by decide)
theorem XB:ti Tryz.prog 102=some { kd:=.other,size:=1,bytes:=8,agg:=false,zero:=some [.lit .nilFunc],flds:=[],eqs:=none }:=by kernel_rfl
theorem aik:cK Tryz.prog 102 s (.c (.rp cs o)) K=cJ false 1 o cs K:=iy XB rfl rfl
theorem ac5:cK Tryz.prog 102 ⟨fr,bx,nb⟩ (.bp b o) K=(bY (bx b)=false∧ldB nb b (bx b) o K):=jw XB rfl
theorem XC:ti Tryz.prog 103=some { kd:=.ptr 106,size:=1,bytes:=8,agg:=false,zero:=some [.lit (.pointer none)],flds:=[],eqs:=none }:=by kernel_rfl
theorem ail:cK Tryz.prog 103 s (.c (.rp cs o)) K=cJ false 1 o cs K:=iy XC rfl rfl
theorem ac6:cK Tryz.prog 103 ⟨fr,bx,nb⟩ (.bp b o) K=(bY (bx b)=false∧ldB nb b (bx b) o K):=jw XC rfl
theorem XD:ti Tryz.prog 104=some { kd:=.ptr 54,size:=1,bytes:=8,agg:=false,zero:=some [.lit (.pointer none)],flds:=[],eqs:=none }:=by kernel_rfl
theorem aim:cK Tryz.prog 104 s (.c (.rp cs o)) K=cJ false 1 o cs K:=iy XD rfl rfl
theorem ac7:cK Tryz.prog 104 ⟨fr,bx,nb⟩ (.bp b o) K=(bY (bx b)=false∧ldB nb b (bx b) o K):=jw XD rfl
theorem qQ:ti Tryz.prog 106=some { kd:=.struct,size:=7,bytes:=112,agg:=true,zero:=some [.lit (.string (ByteArray.mk #[])),.sl [],.sl [],.sl [],.lit (.int .i64 0),.lit (.pointer none),.lit .nilFunc],flds:=[(0,4,true),(4,1,false),(5,1,false),(6,1,false)],eqs:=none }:=by kernel_rfl
theorem ac8:jN Tryz.prog 106 parts K=qp K (iI [(0,4,true),(4,1,false),(5,1,false),(6,1,false)] parts [.c (.lit (.string (ByteArray.mk #[]))),.ow none [],.ow none [],.ow none [],.c (.lit (.int .i64 0)),.c (.lit (.pointer none)),.c (.lit .nilFunc)]):=mW qQ rfl rfl rfl
theorem ac9:iD Tryz.prog 106 parts K=sh [(0,4,true),(4,1,false),(5,1,false),(6,1,false)] [.lit (.string (ByteArray.mk #[])),.sl [],.sl [],.sl [],.lit (.int .i64 0),.lit (.pointer none),.lit .nilFunc] parts K (j8 [(0,4,true),(4,1,false),(5,1,false),(6,1,false)] parts [.lit (.string (ByteArray.mk #[])),.sl [],.sl [],.sl [],.lit (.int .i64 0),.lit (.pointer none),.lit .nilFunc]):=me qQ rfl rfl rfl
theorem XE:aM Tryz.prog 106 (.c (.rp cs o)) 0 K=K (.c (.rp cs (o+0))):=fU qQ rfl (by decide)
theorem SH:aM Tryz.prog 106 (.bp b o) 0 K=K (.bp b (o+0)):=fV qQ rfl (by decide)
theorem XG:aM Tryz.prog 106 (.c (.rp cs o)) 1 K=K (.c (.rp cs (o+4))):=fU qQ rfl (by decide)
theorem SI:aM Tryz.prog 106 (.bp b o) 1 K=K (.bp b (o+4)):=fV qQ rfl (by decide)
theorem XH:aM Tryz.prog 106 (.c (.rp cs o)) 2 K=K (.c (.rp cs (o+5))):=fU qQ rfl (by decide)
theorem SJ:aM Tryz.prog 106 (.bp b o) 2 K=K (.bp b (o+5)):=fV qQ rfl (by decide)
theorem XI:aM Tryz.prog 106 (.c (.rp cs o)) 3 K=K (.c (.rp cs (o+6))):=fU qQ rfl (by decide)
theorem SK:aM Tryz.prog 106 (.bp b o) 3 K=K (.bp b (o+6)):=fV qQ rfl (by decide)
theorem ud:ti Tryz.prog 110=some { kd:=.struct,size:=6,bytes:=120,agg:=true,zero:=some [.lit (.string (ByteArray.mk #[])),.sl [],.sl [],.sl [],.lit (.int .i64 0),.sl []],flds:=[(0,4,true),(4,1,false),(5,1,false)],eqs:=none }:=by kernel_rfl
theorem ada:jN Tryz.prog 110 parts K=qp K (iI [(0,4,true),(4,1,false),(5,1,false)] parts [.c (.lit (.string (ByteArray.mk #[]))),.ow none [],.ow none [],.ow none [],.c (.lit (.int .i64 0)),.ow none []]):=mW ud rfl rfl rfl
theorem adb:iD Tryz.prog 110 parts K=sh [(0,4,true),(4,1,false),(5,1,false)] [.lit (.string (ByteArray.mk #[])),.sl [],.sl [],.sl [],.lit (.int .i64 0),.sl []] parts K (j8 [(0,4,true),(4,1,false),(5,1,false)] parts [.lit (.string (ByteArray.mk #[])),.sl [],.sl [],.sl [],.lit (.int .i64 0),.sl []]):=me ud rfl rfl rfl
theorem XJ:aM Tryz.prog 110 (.c (.rp cs o)) 0 K=K (.c (.rp cs (o+0))):=fU ud rfl (by decide)
theorem SL:aM Tryz.prog 110 (.bp b o) 0 K=K (.bp b (o+0)):=fV ud rfl (by decide)
theorem XK:aM Tryz.prog 110 (.c (.rp cs o)) 1 K=K (.c (.rp cs (o+4))):=fU ud rfl (by decide)
theorem SN:aM Tryz.prog 110 (.bp b o) 1 K=K (.bp b (o+4)):=fV ud rfl (by decide)
theorem XL:aM Tryz.prog 110 (.c (.rp cs o)) 2 K=K (.c (.rp cs (o+5))):=fU ud rfl (by decide)
theorem SO:aM Tryz.prog 110 (.bp b o) 2 K=K (.bp b (o+5)):=fV ud rfl (by decide)
theorem B7:ti Tryz.prog 116=some { kd:=.map 54 93,size:=1,bytes:=8,agg:=false,zero:=some [.lit (.map none)],flds:=[],eqs:=none }:=by kernel_rfl
theorem ade:VStep Tryz.prog G tr ⟨dO,.makeMap 116 none,ty,pos,af,g⟩ ⟨fr,bx,nb⟩ H=H ((⟨fr,up bx nb [.mk [] 0],nb+1⟩:S).put dO (.mr nb)):=wB B7 rfl
theorem afM:zaB Tryz.prog 93=true:=by kernel_rfl
theorem iR:ti Tryz.prog 120=some { kd:=.struct,size:=3,bytes:=24,agg:=true,zero:=some [.lit (.int .i64 0),.lit (.int .i64 0),.lit (.int .i64 0)],flds:=[(0,1,false),(1,1,false),(2,1,false)],eqs:=some [.int,.int,.int] }:=by kernel_rfl
theorem adf:VStep Tryz.prog G tr ⟨some d,.alloc 120,ty,pos,af,g⟩ ⟨fr,bx,nb⟩ H=H ⟨up fr d (.bp nb 0),up bx nb [.c (.lit (.int .i64 0)),.c (.lit (.int .i64 0)),.c (.lit (.int .i64 0))],nb+1⟩:=lA iR rfl
theorem ain (h:cs.length=3):cK Tryz.prog 120 s (.c (.rp cs 0)) K=K (.agg cs):=sf iR rfl h
theorem adg:cK Tryz.prog 120 ⟨fr,bx,nb⟩ (.bp b o) K=(bY (bx b)=false∧ldA nb b (bx b) o 3 K):=qN iR rfl rfl
theorem XM:aM Tryz.prog 120 (.c (.rp cs o)) 0 K=K (.c (.rp cs (o+0))):=fU iR rfl (by decide)
theorem SQ:aM Tryz.prog 120 (.bp b o) 0 K=K (.bp b (o+0)):=fV iR rfl (by decide)
theorem XN:aM Tryz.prog 120 (.c (.rp cs o)) 1 K=K (.c (.rp cs (o+1))):=fU iR rfl (by decide)
theorem SR:aM Tryz.prog 120 (.bp b o) 1 K=K (.bp b (o+1)):=fV iR rfl (by decide)
theorem XO:aM Tryz.prog 120 (.c (.rp cs o)) 2 K=K (.c (.rp cs (o+2))):=fU iR rfl (by decide)
theorem SS:aM Tryz.prog 120 (.bp b o) 2 K=K (.bp b (o+2)):=fV iR rfl (by decide)
theorem adh:oe (ti Tryz.prog 120) t q (.bp b o) v ⟨fr,bx,nb⟩ H=(bY (bx b)=false∧stS 3 t q b o v ⟨fr,bx,nb⟩ H):=by rw[iR];exact jI rfl
theorem jy:ti Tryz.prog 122=some { kd:=.struct,size:=5,bytes:=40,agg:=true,zero:=some [.lit (.int .i64 0),.lit (.int .i64 0),.lit (.int .i64 0),.lit (.int .i64 0),.lit (.int .i64 0)],flds:=[(0,1,false),(1,1,false),(2,1,false),(3,1,false),(4,1,false)],eqs:=some [.int,.int,.int,.int,.int] }:=by kernel_rfl
theorem adi:VStep Tryz.prog G tr ⟨some d,.alloc 122,ty,pos,af,g⟩ ⟨fr,bx,nb⟩ H=H ⟨up fr d (.bp nb 0),up bx nb [.c (.lit (.int .i64 0)),.c (.lit (.int .i64 0)),.c (.lit (.int .i64 0)),.c (.lit (.int .i64 0)),.c (.lit (.int .i64 0))],nb+1⟩:=lA jy rfl
theorem aio (h:cs.length=5):cK Tryz.prog 122 s (.c (.rp cs 0)) K=K (.agg cs):=sf jy rfl h
theorem adj:cK Tryz.prog 122 ⟨fr,bx,nb⟩ (.bp b o) K=(bY (bx b)=false∧ldA nb b (bx b) o 5 K):=qN jy rfl rfl
theorem XQ:aM Tryz.prog 122 (.c (.rp cs o)) 0 K=K (.c (.rp cs (o+0))):=fU jy rfl (by decide)
theorem SU:aM Tryz.prog 122 (.bp b o) 0 K=K (.bp b (o+0)):=fV jy rfl (by decide)
theorem XR:aM Tryz.prog 122 (.c (.rp cs o)) 1 K=K (.c (.rp cs (o+1))):=fU jy rfl (by decide)
theorem SV:aM Tryz.prog 122 (.bp b o) 1 K=K (.bp b (o+1)):=fV jy rfl (by decide)
theorem XT:aM Tryz.prog 122 (.c (.rp cs o)) 2 K=K (.c (.rp cs (o+2))):=fU jy rfl (by decide)
theorem SY:aM Tryz.prog 122 (.bp b o) 2 K=K (.bp b (o+2)):=fV jy rfl (by decide)
theorem XU:aM Tryz.prog 122 (.c (.rp cs o)) 3 K=K (.c (.rp cs (o+3))):=fU jy rfl (by decide)
theorem SZ:aM Tryz.prog 122 (.bp b o) 3 K=K (.bp b (o+3)):=fV jy rfl (by decide)
theorem XV:aM Tryz.prog 122 (.c (.rp cs o)) 4 K=K (.c (.rp cs (o+4))):=fU jy rfl (by decide)
theorem S0:aM Tryz.prog 122 (.bp b o) 4 K=K (.bp b (o+4)):=fV jy rfl (by decide)
theorem adk:oe (ti Tryz.prog 122) t q (.bp b o) v ⟨fr,bx,nb⟩ H=(bY (bx b)=false∧stS 5 t q b o v ⟨fr,bx,nb⟩ H):=by rw[jy];exact jI rfl
theorem B8:ti Tryz.prog 123=some { kd:=.slice 30,size:=1,bytes:=24,agg:=false,zero:=some [.sl []],flds:=[],eqs:=none }:=by kernel_rfl
theorem adl:fw Tryz.prog 123 (.c (.sl es)) K=K (.c (.lit (.int .i64 es.length))):=ff B8 rfl
theorem XW:fw Tryz.prog 123 (.ow E es) K=K (.c (.lit (.int .i64 es.length))):=mU B8 rfl
theorem XX:fw Tryz.prog 123 (.ms b o l c z) K=K (.c (.lit (.int .i64 l))):=mV B8 rfl
theorem XY:ti Tryz.prog 130=some { kd:=.other,size:=1,bytes:=8,agg:=false,zero:=some [.lit .nilFunc],flds:=[],eqs:=none }:=by kernel_rfl
theorem aip:cK Tryz.prog 130 s (.c (.rp cs o)) K=cJ false 1 o cs K:=iy XY rfl rfl
theorem adm:cK Tryz.prog 130 ⟨fr,bx,nb⟩ (.bp b o) K=(bY (bx b)=false∧ldB nb b (bx b) o K):=jw XY rfl
theorem oI:ti Tryz.prog 146=some { kd:=.struct,size:=3,bytes:=24,agg:=true,zero:=some [.lit (.int .i64 0),.lit (.int .i64 0),.lit (.int .i64 0)],flds:=[(0,1,false),(1,1,false),(2,1,false)],eqs:=some [.int,.int,.int] }:=by kernel_rfl
theorem aiq (h:cs.length=3):cK Tryz.prog 146 s (.c (.rp cs 0)) K=K (.agg cs):=sf oI rfl h
theorem adn:cK Tryz.prog 146 ⟨fr,bx,nb⟩ (.bp b o) K=(bY (bx b)=false∧ldA nb b (bx b) o 3 K):=qN oI rfl rfl
theorem ado:jN Tryz.prog 146 parts K=qp K (iI [(0,1,false),(1,1,false),(2,1,false)] parts [.c (.lit (.int .i64 0)),.c (.lit (.int .i64 0)),.c (.lit (.int .i64 0))]):=mW oI rfl rfl rfl
theorem adp:iD Tryz.prog 146 parts K=sh [(0,1,false),(1,1,false),(2,1,false)] [.lit (.int .i64 0),.lit (.int .i64 0),.lit (.int .i64 0)] parts K (j8 [(0,1,false),(1,1,false),(2,1,false)] parts [.lit (.int .i64 0),.lit (.int .i64 0),.lit (.int .i64 0)]):=me oI rfl rfl rfl
theorem XZ:aM Tryz.prog 146 (.c (.rp cs o)) 0 K=K (.c (.rp cs (o+0))):=fU oI rfl (by decide)
theorem S1:aM Tryz.prog 146 (.bp b o) 0 K=K (.bp b (o+0)):=fV oI rfl (by decide)
theorem X0:aM Tryz.prog 146 (.c (.rp cs o)) 1 K=K (.c (.rp cs (o+1))):=fU oI rfl (by decide)
theorem S3:aM Tryz.prog 146 (.bp b o) 1 K=K (.bp b (o+1)):=fV oI rfl (by decide)
theorem X1:aM Tryz.prog 146 (.c (.rp cs o)) 2 K=K (.c (.rp cs (o+2))):=fU oI rfl (by decide)
theorem S4:aM Tryz.prog 146 (.bp b o) 2 K=K (.bp b (o+2)):=fV oI rfl (by decide)
theorem B9:ti Tryz.prog 152=some { kd:=.map 54 153,size:=1,bytes:=8,agg:=false,zero:=some [.lit (.map none)],flds:=[],eqs:=none }:=by kernel_rfl
theorem adq:VStep Tryz.prog G tr ⟨dO,.makeMap 152 none,ty,pos,af,g⟩ ⟨fr,bx,nb⟩ H=H ((⟨fr,up bx nb [.mk [] 0],nb+1⟩:S).put dO (.mr nb)):=wB B9 rfl
theorem adr:cK Tryz.prog 152 ⟨fr,bx,nb⟩ (.bp b o) K=(bY (bx b)=false∧ldB nb b (bx b) o K):=jw B9 rfl
theorem ads:oe (ti Tryz.prog 152) t q (.bp b o) v ⟨fr,bx,nb⟩ H=(bY (bx b)=false∧stS 1 t q b o v ⟨fr,bx,nb⟩ H):=by rw[B9];exact jI rfl
theorem air:zaB Tryz.prog 153=true:=by kernel_rfl
theorem lh:ti Tryz.prog 153=some { kd:=.slice 156,size:=1,bytes:=24,agg:=false,zero:=some [.sl []],flds:=[],eqs:=none }:=by kernel_rfl
theorem adt:fw Tryz.prog 153 (.c (.sl es)) K=K (.c (.lit (.int .i64 es.length))):=ff lh rfl
theorem X2:fw Tryz.prog 153 (.ow E es) K=K (.c (.lit (.int .i64 es.length))):=mU lh rfl
theorem X3:fw Tryz.prog 153 (.ms b o l c z) K=K (.c (.lit (.int .i64 l))):=mV lh rfl
theorem ais:cK Tryz.prog 153 s (.c (.rp cs o)) K=cJ false 1 o cs K:=iy lh rfl rfl
theorem adu:cK Tryz.prog 153 ⟨fr,bx,nb⟩ (.bp b o) K=(bY (bx b)=false∧ldB nb b (bx b) o K):=jw lh rfl
theorem adv:nB Tryz.prog 153 ⟨fr,bx,nb⟩ (.bp b o) K=(bY (bx b)=false∧ldZ nb b (bx b) o K):=wC lh rfl
theorem adw:oe (ti Tryz.prog 153) t q (.bp b o) v ⟨fr,bx,nb⟩ H=(bY (bx b)=false∧stS 1 t q b o v ⟨fr,bx,nb⟩ H):=by rw[lh];exact jI rfl
theorem wI:ti Tryz.prog 155=some { kd:=.struct,size:=3,bytes:=56,agg:=true,zero:=some [.sl [],.sl [],.lit (.int .i64 0)],flds:=[(0,1,false),(1,1,false),(2,1,false)],eqs:=none }:=by kernel_rfl
theorem adx:VStep Tryz.prog G tr ⟨some d,.alloc 155,ty,pos,af,g⟩ ⟨fr,bx,nb⟩ H=H ⟨up fr d (.bp nb 0),up bx nb [.ow none [],.ow none [],.c (.lit (.int .i64 0))],nb+1⟩:=lA wI rfl
theorem X4:aM Tryz.prog 155 (.c (.rp cs o)) 0 K=K (.c (.rp cs (o+0))):=fU wI rfl (by decide)
theorem S5:aM Tryz.prog 155 (.bp b o) 0 K=K (.bp b (o+0)):=fV wI rfl (by decide)
theorem X5:aM Tryz.prog 155 (.c (.rp cs o)) 1 K=K (.c (.rp cs (o+1))):=fU wI rfl (by decide)
theorem S7:aM Tryz.prog 155 (.bp b o) 1 K=K (.bp b (o+1)):=fV wI rfl (by decide)
theorem X6:aM Tryz.prog 155 (.c (.rp cs o)) 2 K=K (.c (.rp cs (o+2))):=fU wI rfl (by decide)
theorem S8:aM Tryz.prog 155 (.bp b o) 2 K=K (.bp b (o+2)):=fV wI rfl (by decide)
theorem qR:ti Tryz.prog 156=some { kd:=.ptr 158,size:=1,bytes:=8,agg:=false,zero:=some [.lit (.pointer none)],flds:=[],eqs:=none }:=by kernel_rfl
theorem ait:cK Tryz.prog 156 s (.c (.rp cs o)) K=cJ false 1 o cs K:=iy qR rfl rfl
theorem ady:cK Tryz.prog 156 ⟨fr,bx,nb⟩ (.bp b o) K=(bY (bx b)=false∧ldB nb b (bx b) o K):=jw qR rfl
theorem adz:oe (ti Tryz.prog 156) t q (.bp b o) v ⟨fr,bx,nb⟩ H=(bY (bx b)=false∧stS 1 t q b o v ⟨fr,bx,nb⟩ H):=by rw[qR];exact jI rfl
theorem qS:ti Tryz.prog 158=some { kd:=.struct,size:=5,bytes:=72,agg:=true,zero:=some [.lit (.int .i64 0),.sl [],.sl [],.lit (.int .i64 0),.lit (.int .i64 0)],flds:=[(0,3,true),(3,1,false),(4,1,false)],eqs:=none }:=by kernel_rfl
theorem adA:jN Tryz.prog 158 parts K=qp K (iI [(0,3,true),(3,1,false),(4,1,false)] parts [.c (.lit (.int .i64 0)),.ow none [],.ow none [],.c (.lit (.int .i64 0)),.c (.lit (.int .i64 0))]):=mW qS rfl rfl rfl
theorem adB:iD Tryz.prog 158 parts K=sh [(0,3,true),(3,1,false),(4,1,false)] [.lit (.int .i64 0),.sl [],.sl [],.lit (.int .i64 0),.lit (.int .i64 0)] parts K (j8 [(0,3,true),(3,1,false),(4,1,false)] parts [.lit (.int .i64 0),.sl [],.sl [],.lit (.int .i64 0),.lit (.int .i64 0)]):=me qS rfl rfl rfl
theorem X7:aM Tryz.prog 158 (.c (.rp cs o)) 0 K=K (.c (.rp cs (o+0))):=fU qS rfl (by decide)
theorem S9:aM Tryz.prog 158 (.bp b o) 0 K=K (.bp b (o+0)):=fV qS rfl (by decide)
theorem X8:aM Tryz.prog 158 (.c (.rp cs o)) 1 K=K (.c (.rp cs (o+3))):=fU qS rfl (by decide)
theorem Ta:aM Tryz.prog 158 (.bp b o) 1 K=K (.bp b (o+3)):=fV qS rfl (by decide)
theorem X9:aM Tryz.prog 158 (.c (.rp cs o)) 2 K=K (.c (.rp cs (o+4))):=fU qS rfl (by decide)
theorem Tc:aM Tryz.prog 158 (.bp b o) 2 K=K (.bp b (o+4)):=fV qS rfl (by decide)
theorem Hf:ti Tryz.prog 166=some { kd:=.int .u64,size:=1,bytes:=8,agg:=false,zero:=some [.lit (.int .u64 0)],flds:=[],eqs:=some [.int] }:=by kernel_rfl
theorem adC:VStep Tryz.prog G tr ⟨some d,.alloc 166,ty,pos,af,g⟩ ⟨fr,bx,nb⟩ H=H ⟨up fr d (.bp nb 0),up bx nb [.c (.lit (.int .u64 0))],nb+1⟩:=lA Hf rfl
theorem aiu:cK Tryz.prog 166 s (.c (.rp cs o)) K=cJ false 1 o cs K:=iy Hf rfl rfl
theorem adD:cK Tryz.prog 166 ⟨fr,bx,nb⟩ (.bp b o) K=(bY (bx b)=false∧ldB nb b (bx b) o K):=jw Hf rfl
theorem adE:oe (ti Tryz.prog 166) t q (.bp b o) v ⟨fr,bx,nb⟩ H=(bY (bx b)=false∧stS 1 t q b o v ⟨fr,bx,nb⟩ H):=by rw[Hf];exact jI rfl
theorem Cb:ti Tryz.prog 173=some { kd:=.slice 146,size:=1,bytes:=24,agg:=false,zero:=some [.sl []],flds:=[],eqs:=none }:=by kernel_rfl
theorem adF:fw Tryz.prog 173 (.c (.sl es)) K=K (.c (.lit (.int .i64 es.length))):=ff Cb rfl
theorem Ya:fw Tryz.prog 173 (.ow E es) K=K (.c (.lit (.int .i64 es.length))):=mU Cb rfl
theorem Yb:fw Tryz.prog 173 (.ms b o l c z) K=K (.c (.lit (.int .i64 l))):=mV Cb rfl
theorem aiv (h:len*3≤16777216):cw Tryz.prog 22 len parts K=As 57 3 [.lit (.string (ByteArray.mk #[])),.lit (.int .i64 0),.lit (.int .i64 0)] len parts K:=sg mD rfl j9 rfl rfl (by decide) rfl h
theorem aiw:eR Tryz.prog 22 (.ow E es) (.c (.sl ys)) K=(((E=none∨E=some (57,3))∧∀ x∈es,x.length=3)∧((es.length+ys.length)*32≤140737488355328∧es.length+ys.length≤9223372036854775807∧∀ x∈ys,x.length=3)∧K (.ow (if ys.isEmpty then E else some (57,3)) (es++ys))):=Nx mD rfl j9 rfl rfl rfl (by decide) rfl
theorem aix (h:len*3≤16777216):cw Tryz.prog 23 len parts K=As 120 3 [.lit (.int .i64 0),.lit (.int .i64 0),.lit (.int .i64 0)] len parts K:=sg mY rfl iR rfl rfl (by decide) rfl h
theorem aiy:eR Tryz.prog 23 (.ow E es) (.c (.sl ys)) K=(((E=none∨E=some (120,3))∧∀ x∈es,x.length=3)∧((es.length+ys.length)*24≤140737488355328∧es.length+ys.length≤9223372036854775807∧∀ x∈ys,x.length=3)∧K (.ow (if ys.isEmpty then E else some (120,3)) (es++ys))):=Nx mY rfl iR rfl rfl rfl (by decide) rfl
theorem aiz (h:len*1≤16777216):cw Tryz.prog 27 len parts K=As 5 1 [.lit (.int .u8 0)] len parts K:=sg kN rfl qP rfl rfl (by decide) rfl h
theorem aiA (h:len*3≤16777216):cw Tryz.prog 28 len parts K=As 54 3 [.lit (.int .i64 0),.lit (.int .i64 0),.lit (.int .i64 0)] len parts K:=sg eO rfl eV rfl rfl (by decide) rfl h
theorem Cc:eR Tryz.prog 28 (.ow E es) (.c (.sl ys)) K=(((E=none∨E=some (54,3))∧∀ x∈es,x.length=3)∧((es.length+ys.length)*24≤140737488355328∧es.length+ys.length≤9223372036854775807∧∀ x∈ys,x.length=3)∧K (.ow (if ys.isEmpty then E else some (54,3)) (es++ys))):=Nx eO rfl eV rfl rfl rfl (by decide) rfl
theorem aiB (h:len*1≤16777216):cw Tryz.prog 79 len parts K=As 3 1 [.lit (.int .i64 0)] len parts K:=sg uc rfl pe rfl rfl (by decide) rfl h
theorem aiC (h:len*3≤16777216):cw Tryz.prog 86 len parts K=As 35 3 [.lit (.int .i64 0),.sl [],.sl []] len parts K:=sg zU rfl qt rfl rfl (by decide) rfl h
theorem aiD (h:len*6≤16777216):cw Tryz.prog 90 len parts K=As 93 6 [.lit (.int .i64 0),.lit (.int .i64 0),.lit (.int .i64 0),.lit (.int .i64 0),.lit (.int .i64 0),.sl []] len parts K:=sg ES rfl pO rfl rfl (by decide) rfl h
theorem adG (h:len*1≤16777216):cw Tryz.prog 153 len parts K=As 156 1 [.lit (.pointer none)] len parts K:=sg lh rfl qR rfl rfl (by decide) rfl h
theorem adH (h:len*3≤16777216):cw Tryz.prog 173 len parts K=As 146 3 [.lit (.int .i64 0),.lit (.int .i64 0),.lit (.int .i64 0)] len parts K:=sg Cb rfl oI rfl rfl (by decide) rfl h
def pt0:=jj @alu (jj @aov (jj @alv (jj @alw (jj @alx (jj @aow (jj @aly (jj @alz (jj @aox (jj @alA (jj @alB (jj @aoy (jj @alC (jj @ahf (jj @acv (jj @acw (jj @alD (jj @ahg (jj @ahh (jj @ahi (jj @ahj (jj @acx (jj @acy (jj @alE (jj @ahk (jj @ahl (jj @ahm (jj @ahn (jj @acz (jj @acA (jj @alF (jj @aho (jj @ahp (jj @ahq (jj @alG (jj @ahr (jj @ahs (jj @aht (jj @acB @Xg))))))))))))))))))))))))))))))))))))))
def pt1:=jj @acC (jj @Xh (jj @acD (jj @Xi (jj @acE (jj @Xj (jj @ahu (jj @ahv (jj @acF (jj @acG (jj @alH (jj @ahw (jj @ahx (jj @ahy (jj @Xk (jj @acH (jj @acI (jj @alI (jj @ahz (jj @ahA (jj @ahB (jj @alJ (jj @ahC (jj @ahD (jj @alK (jj @ahE (jj @ahF (jj @ahG (jj @alL (jj @ahH (jj @ahI (jj @ahJ (jj @acJ (jj @Xl (jj @acK (jj @Xm (jj @acL (jj @Xn (jj @ahK @ahL))))))))))))))))))))))))))))))))))))))
def pt2:=jj @alM (jj @ahM (jj @ahN (jj @ahO (jj @acM (jj @Xo (jj @acN (jj @Xp (jj @acO (jj @Xq (jj @ahP (jj @ahQ (jj @alO (jj @ahR (jj @ahS (jj @ahT (jj @acP (jj @Xr (jj @acQ (jj @Xs (jj @acR (jj @Xt (jj @ahU (jj @ahV (jj @alP (jj @ahW (jj @ahX (jj @ahY (jj @acS (jj @Xu (jj @acT (jj @Xv (jj @acU (jj @Xw (jj @ahZ (jj @ah0 (jj @alQ (jj @ah1 (jj @ah2 @ah3))))))))))))))))))))))))))))))))))))))
def pt3:=jj @ah4 (jj @acV (jj @acW (jj @ah5 (jj @alR (jj @ah6 (jj @ah7 (jj @ah8 (jj @acX (jj @acY (jj @alS (jj @ah9 (jj @aia (jj @aib (jj @aic (jj @aid (jj @acZ (jj @ac0 (jj @aie (jj @alU (jj @aif (jj @aih (jj @aii (jj @ac1 (jj @Xy (jj @ac2 (jj @Xz (jj @aij (jj @ac3 (jj @ac4 (jj @XA (jj @SG (jj @aik (jj @ac5 (jj @ail (jj @ac6 (jj @aim (jj @ac7 (jj @ac8 @ac9))))))))))))))))))))))))))))))))))))))
def pt4:=jj @XE (jj @SH (jj @XG (jj @SI (jj @XH (jj @SJ (jj @XI (jj @SK (jj @ada (jj @adb (jj @XJ (jj @SL (jj @XK (jj @SN (jj @XL (jj @SO (jj @adf (jj @ain (jj @adg (jj @XM (jj @SQ (jj @XN (jj @SR (jj @XO (jj @SS (jj @adh (jj @adi (jj @aio (jj @adj (jj @XQ (jj @SU (jj @XR (jj @SV (jj @XT (jj @SY (jj @XU (jj @SZ (jj @XV (jj @S0 @adk))))))))))))))))))))))))))))))))))))))
def pt5:=jj @adl (jj @XW (jj @XX (jj @aip (jj @adm (jj @aiq (jj @adn (jj @ado (jj @adp (jj @XZ (jj @S1 (jj @X0 (jj @S3 (jj @X1 (jj @S4 (jj @adr (jj @ads (jj @adt (jj @X2 (jj @X3 (jj @ais (jj @adu (jj @adv (jj @adw (jj @adx (jj @X4 (jj @S5 (jj @X5 (jj @S7 (jj @X6 (jj @S8 (jj @ait (jj @ady (jj @adz (jj @adA (jj @adB (jj @X7 (jj @S9 (jj @X8 @Ta))))))))))))))))))))))))))))))))))))))
def pt6:=jj @X9 (jj @Tc (jj @adC (jj @aiu (jj @adD (jj @adE (jj @adF (jj @Ya (jj @Yb (jj @aiv (jj @aix (jj @aiz (jj @aiA (jj @aiB (jj @aiC (jj @aiD (jj @adG @adH))))))))))))))))
def ptA:=jj pt0 (jj pt1 (jj pt2 (jj pt3 (jj pt4 (jj pt5 (pt6))))))
