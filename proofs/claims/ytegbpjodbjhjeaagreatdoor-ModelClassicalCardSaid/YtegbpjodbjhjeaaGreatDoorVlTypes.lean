/- The types of the translation, as the framework sees them: closed facts, by the kernel. Printed by vltypes.py. -/
import Derived.Test.YtegbpjodbjhjeaaGreatDoorVlPack
import Derived.Test.YtegbpjodbjhjeaaGreatDoorChecked
import Derived.KernelRfl
set_option linter.all false
namespace Go.Proofs.YtegbpjodbjhjeaaGreatDoor
open Go Go.Vl
variable {G:Gl} {tr:List Nat} {ty:TypeId} {d:Nat} {dO:Option Tmp} {pos:String} {af:Array Edge} {g:Option (Nat×Bool)} {fr:Nat→V} {bx:Nat→List V} {nb:Nat} {H:S→Prop} {s:S} {cs:List C} {o:Nat} {b:Nat} {l c z:Nat} {K:V→Prop} {t q:Option Tmp} {v:V} {x:V} {E:Option (TypeId×Nat)} {es ys:List (List C)} {y:ByteArray} {len:Nat} {parts:List (Nat×V)}
theorem lx:ti Tryz.prog 1=some { kd:=.other,size:=1,bytes:=8,agg:=false,zero:=some [.lit .nilFunc],flds:=[],eqs:=none }:=by kernel_rfl
theorem aeo:dH Tryz.prog 1 ⟨fr,bx,nb⟩ (.bp b o) K=(dc (bx b)=false∧ldB nb b (bx b) o K):=gz lx rfl
theorem E8:ti Tryz.prog 3=some { kd:=.int .i64,size:=1,bytes:=8,agg:=false,zero:=some [.lit (.int .i64 0)],flds:=[],eqs:=some [.int] }:=by kernel_rfl
theorem agU:dH Tryz.prog 3 s (.c (.rp cs o)) K=eA false 1 o cs K:=zJ E8 rfl rfl
theorem aep:dH Tryz.prog 3 ⟨fr,bx,nb⟩ (.bp b o) K=(dc (bx b)=false∧ldB nb b (bx b) o K):=gz E8 rfl
theorem aeq:oR (ti Tryz.prog 3) t q (.bp b o) v ⟨fr,bx,nb⟩ H=(dc (bx b)=false∧stS 1 t q b o v ⟨fr,bx,nb⟩ H):=by rw[E8];exact kJ rfl
theorem aer:ti Tryz.prog 4=some { kd:=.bool,size:=1,bytes:=1,agg:=false,zero:=some [.lit (.bool false)],flds:=[],eqs:=some [.bool] }:=by kernel_rfl
theorem aes:dH Tryz.prog 4 ⟨fr,bx,nb⟩ (.bp b o) K=(dc (bx b)=false∧ldB nb b (bx b) o K):=gz aer rfl
theorem aa2:ti Tryz.prog 5=some { kd:=.int .u8,size:=1,bytes:=1,agg:=false,zero:=some [.lit (.int .u8 0)],flds:=[],eqs:=some [.int] }:=by kernel_rfl
theorem agV:dH Tryz.prog 5 s (.c (.rp cs o)) K=eA false 1 o cs K:=zJ aa2 rfl rfl
theorem E9:ti Tryz.prog 9=some { kd:=.str,size:=1,bytes:=16,agg:=false,zero:=some [.lit (.string (ByteArray.mk #[]))],flds:=[],eqs:=some [.str] }:=by kernel_rfl
theorem aet:lT Tryz.prog 9 (.c (.lit (.string y))) K=K (.c (.lit (.int .i64 y.size))):=RU E9 rfl
theorem agW:dH Tryz.prog 9 s (.c (.rp cs o)) K=eA false 1 o cs K:=zJ E9 rfl rfl
theorem aeu:dH Tryz.prog 9 ⟨fr,bx,nb⟩ (.bp b o) K=(dc (bx b)=false∧ldB nb b (bx b) o K):=gz E9 rfl
theorem ng:ti Tryz.prog 22=some { kd:=.slice 56,size:=1,bytes:=24,agg:=false,zero:=some [.sl []],flds:=[],eqs:=none }:=by kernel_rfl
theorem aa3:lT Tryz.prog 22 (.c (.sl es)) K=K (.c (.lit (.int .i64 es.length))):=nC ng rfl
theorem XA:lT Tryz.prog 22 (.ms b o l c z) K=K (.c (.lit (.int .i64 l))):=Mb ng rfl
theorem aa4:dH Tryz.prog 22 ⟨fr,bx,nb⟩ (.bp b o) K=(dc (bx b)=false∧ldB nb b (bx b) o K):=gz ng rfl
theorem aa5:oR (ti Tryz.prog 22) t q (.bp b o) v ⟨fr,bx,nb⟩ H=(dc (bx b)=false∧stS 1 t q b o v ⟨fr,bx,nb⟩ H):=by rw[ng];exact kJ rfl
theorem tf:ti Tryz.prog 23=some { kd:=.slice 94,size:=1,bytes:=24,agg:=false,zero:=some [.sl []],flds:=[],eqs:=none }:=by kernel_rfl
theorem aa6:lT Tryz.prog 23 (.c (.sl es)) K=K (.c (.lit (.int .i64 es.length))):=nC tf rfl
theorem aa7:dH Tryz.prog 23 ⟨fr,bx,nb⟩ (.bp b o) K=(dc (bx b)=false∧ldB nb b (bx b) o K):=gz tf rfl
theorem aa8:oR (ti Tryz.prog 23) t q (.bp b o) v ⟨fr,bx,nb⟩ H=(dc (bx b)=false∧stS 1 t q b o v ⟨fr,bx,nb⟩ H):=by rw[tf];exact kJ rfl
theorem A6:ti Tryz.prog 24=some { kd:=.slice 154,size:=1,bytes:=24,agg:=false,zero:=some [.sl []],flds:=[],eqs:=none }:=by kernel_rfl
theorem aa9:lT Tryz.prog 24 (.c (.sl es)) K=K (.c (.lit (.int .i64 es.length))):=nC A6 rfl
theorem aba:dH Tryz.prog 24 ⟨fr,bx,nb⟩ (.bp b o) K=(dc (bx b)=false∧ldB nb b (bx b) o K):=gz A6 rfl
theorem y5:ti Tryz.prog 26=some { kd:=.struct,size:=4,bytes:=88,agg:=true,zero:=some [.lit (.string (ByteArray.mk #[])),.sl [],.sl [],.sl []],flds:=[(0,1,false),(1,1,false),(2,1,false),(3,1,false)],eqs:=none }:=by kernel_rfl
theorem abb:VStep Tryz.prog G tr ⟨some d,.alloc 26,ty,pos,af,g⟩ ⟨fr,bx,nb⟩ H=H ⟨up fr d (.bp nb 0),up bx nb [.c (.lit (.string (ByteArray.mk #[]))),.ow none [],.ow none [],.ow none []],nb+1⟩:=oo y5 rfl
theorem abc:dH Tryz.prog 26 ⟨fr,bx,nb⟩ (.bp b o) K=(dc (bx b)=false∧ldA nb b (bx b) o 4 K):=pt y5 rfl rfl
theorem abd:gZ Tryz.prog 26 parts K=vu [(0,1,false),(1,1,false),(2,1,false),(3,1,false)] [.lit (.string (ByteArray.mk #[])),.sl [],.sl [],.sl []] parts K (jx [(0,1,false),(1,1,false),(2,1,false),(3,1,false)] parts [.lit (.string (ByteArray.mk #[])),.sl [],.sl [],.sl []]):=nr y5 rfl rfl rfl
theorem SV:bn Tryz.prog 26 (.bp b o) 0 K=K (.bp b (o+0)):=fH y5 rfl (by decide)
theorem SY:bn Tryz.prog 26 (.bp b o) 1 K=K (.bp b (o+1)):=fH y5 rfl (by decide)
theorem SZ:bn Tryz.prog 26 (.bp b o) 2 K=K (.bp b (o+2)):=fH y5 rfl (by decide)
theorem S0:bn Tryz.prog 26 (.bp b o) 3 K=K (.bp b (o+3)):=fH y5 rfl (by decide)
theorem abe:oR (ti Tryz.prog 26) t q (.bp b o) v ⟨fr,bx,nb⟩ H=(dc (bx b)=false∧stS 4 t q b o v ⟨fr,bx,nb⟩ H):=by rw[y5];exact kJ rfl
theorem A7:ti Tryz.prog 27=some { kd:=.slice 29,size:=1,bytes:=24,agg:=false,zero:=some [.sl []],flds:=[],eqs:=none }:=by kernel_rfl
theorem abf:lT Tryz.prog 27 (.c (.sl es)) K=K (.c (.lit (.int .i64 es.length))):=nC A7 rfl
theorem oG:ti Tryz.prog 29=some { kd:=.struct,size:=5,bytes:=40,agg:=true,zero:=some [.lit (.int .i64 0),.lit (.int .i64 0),.lit (.int .i64 0),.lit (.int .i64 0),.lit (.int .i64 0)],flds:=[(0,1,false),(1,1,false),(2,1,false),(3,1,false),(4,1,false)],eqs:=some [.int,.int,.int,.int,.int] }:=by kernel_rfl
theorem abg:VStep Tryz.prog G tr ⟨some d,.alloc 29,ty,pos,af,g⟩ ⟨fr,bx,nb⟩ H=H ⟨up fr d (.bp nb 0),up bx nb [.c (.lit (.int .i64 0)),.c (.lit (.int .i64 0)),.c (.lit (.int .i64 0)),.c (.lit (.int .i64 0)),.c (.lit (.int .i64 0))],nb+1⟩:=oo oG rfl
theorem aev (h:cs.length=5):dH Tryz.prog 29 s (.c (.rp cs 0)) K=K (.agg cs):=sS oG rfl h
theorem abh:dH Tryz.prog 29 ⟨fr,bx,nb⟩ (.bp b o) K=(dc (bx b)=false∧ldA nb b (bx b) o 5 K):=pt oG rfl rfl
theorem abi:gZ Tryz.prog 29 parts K=vu [(0,1,false),(1,1,false),(2,1,false),(3,1,false),(4,1,false)] [.lit (.int .i64 0),.lit (.int .i64 0),.lit (.int .i64 0),.lit (.int .i64 0),.lit (.int .i64 0)] parts K (jx [(0,1,false),(1,1,false),(2,1,false),(3,1,false),(4,1,false)] parts [.lit (.int .i64 0),.lit (.int .i64 0),.lit (.int .i64 0),.lit (.int .i64 0),.lit (.int .i64 0)]):=nr oG rfl rfl rfl
theorem S1:bn Tryz.prog 29 (.bp b o) 0 K=K (.bp b (o+0)):=fH oG rfl (by decide)
theorem S2:bn Tryz.prog 29 (.bp b o) 1 K=K (.bp b (o+1)):=fH oG rfl (by decide)
theorem S3:bn Tryz.prog 29 (.bp b o) 2 K=K (.bp b (o+2)):=fH oG rfl (by decide)
theorem S4:bn Tryz.prog 29 (.bp b o) 3 K=K (.bp b (o+3)):=fH oG rfl (by decide)
theorem S5:bn Tryz.prog 29 (.bp b o) 4 K=K (.bp b (o+4)):=fH oG rfl (by decide)
theorem abj:oR (ti Tryz.prog 29) t q (.bp b o) v ⟨fr,bx,nb⟩ H=(dc (bx b)=false∧stS 5 t q b o v ⟨fr,bx,nb⟩ H):=by rw[oG];exact kJ rfl
theorem kN:ti Tryz.prog 32=some { kd:=.slice 49,size:=1,bytes:=24,agg:=false,zero:=some [.sl []],flds:=[],eqs:=none }:=by kernel_rfl
theorem abk:lT Tryz.prog 32 (.c (.sl es)) K=K (.c (.lit (.int .i64 es.length))):=nC kN rfl
theorem abl:dH Tryz.prog 32 ⟨fr,bx,nb⟩ (.bp b o) K=(dc (bx b)=false∧ldB nb b (bx b) o K):=gz kN rfl
theorem abm:oR (ti Tryz.prog 32) t q (.bp b o) v ⟨fr,bx,nb⟩ H=(dc (bx b)=false∧stS 1 t q b o v ⟨fr,bx,nb⟩ H):=by rw[kN];exact kJ rfl
theorem du:ti Tryz.prog 33=some { kd:=.slice 47,size:=1,bytes:=24,agg:=false,zero:=some [.sl []],flds:=[],eqs:=none }:=by kernel_rfl
theorem abn:lT Tryz.prog 33 (.c (.sl es)) K=K (.c (.lit (.int .i64 es.length))):=nC du rfl
theorem abo:VStep Tryz.prog G tr ⟨some d,.alloc 33,ty,pos,af,g⟩ ⟨fr,bx,nb⟩ H=H ⟨up fr d (.bp nb 0),up bx nb [.ow none []],nb+1⟩:=oo du rfl
theorem aew:dH Tryz.prog 33 s (.c (.rp cs o)) K=eA false 1 o cs K:=zJ du rfl rfl
theorem abp:dH Tryz.prog 33 ⟨fr,bx,nb⟩ (.bp b o) K=(dc (bx b)=false∧ldB nb b (bx b) o K):=gz du rfl
theorem abq:oR (ti Tryz.prog 33) t q (.bp b o) v ⟨fr,bx,nb⟩ H=(dc (bx b)=false∧stS 1 t q b o v ⟨fr,bx,nb⟩ H):=by rw[du];exact kJ rfl
theorem uZ:ti Tryz.prog 35=some { kd:=.struct,size:=5,bytes:=104,agg:=true,zero:=some [.sl [],.sl [],.sl [],.sl [],.lit (.int .i64 0)],flds:=[(0,1,false),(1,1,false),(2,1,false),(3,1,false),(4,1,false)],eqs:=none }:=by kernel_rfl
theorem abr:VStep Tryz.prog G tr ⟨some d,.alloc 35,ty,pos,af,g⟩ ⟨fr,bx,nb⟩ H=H ⟨up fr d (.bp nb 0),up bx nb [.ow none [],.ow none [],.ow none [],.ow none [],.c (.lit (.int .i64 0))],nb+1⟩:=oo uZ rfl
theorem abt:dH Tryz.prog 35 ⟨fr,bx,nb⟩ (.bp b o) K=(dc (bx b)=false∧ldA nb b (bx b) o 5 K):=pt uZ rfl rfl
theorem abu:gZ Tryz.prog 35 parts K=vu [(0,1,false),(1,1,false),(2,1,false),(3,1,false),(4,1,false)] [.sl [],.sl [],.sl [],.sl [],.lit (.int .i64 0)] parts K (jx [(0,1,false),(1,1,false),(2,1,false),(3,1,false),(4,1,false)] parts [.sl [],.sl [],.sl [],.sl [],.lit (.int .i64 0)]):=nr uZ rfl rfl rfl
theorem S6:bn Tryz.prog 35 (.bp b o) 0 K=K (.bp b (o+0)):=fH uZ rfl (by decide)
theorem S7:bn Tryz.prog 35 (.bp b o) 1 K=K (.bp b (o+1)):=fH uZ rfl (by decide)
theorem S8:bn Tryz.prog 35 (.bp b o) 2 K=K (.bp b (o+2)):=fH uZ rfl (by decide)
theorem S9:bn Tryz.prog 35 (.bp b o) 3 K=K (.bp b (o+3)):=fH uZ rfl (by decide)
theorem Ta:bn Tryz.prog 35 (.bp b o) 4 K=K (.bp b (o+4)):=fH uZ rfl (by decide)
theorem abv:oR (ti Tryz.prog 35) t q (.bp b o) v ⟨fr,bx,nb⟩ H=(dc (bx b)=false∧stS 5 t q b o v ⟨fr,bx,nb⟩ H):=by rw[uZ];exact kJ rfl
theorem mT:ti Tryz.prog 36=some { kd:=.int .i64,size:=1,bytes:=8,agg:=false,zero:=some [.lit (.int .i64 0)],flds:=[],eqs:=some [.int] }:=by kernel_rfl
theorem abw:VStep Tryz.prog G tr ⟨some d,.alloc 36,ty,pos,af,g⟩ ⟨fr,bx,nb⟩ H=H ⟨up fr d (.bp nb 0),up bx nb [.c (.lit (.int .i64 0))],nb+1⟩:=oo mT rfl
theorem abx:oR (ti Tryz.prog 36) t q (.bp b o) v ⟨fr,bx,nb⟩ H=(dc (bx b)=false∧stS 1 t q b o v ⟨fr,bx,nb⟩ H):=by rw[mT];exact kJ rfl
theorem nU:ti Tryz.prog 43=some { kd:=.slice 62,size:=1,bytes:=24,agg:=false,zero:=some [.sl []],flds:=[],eqs:=none }:=by kernel_rfl
theorem aby:lT Tryz.prog 43 (.c (.sl es)) K=K (.c (.lit (.int .i64 es.length))):=nC nU rfl
theorem XB:lT Tryz.prog 43 (.ms b o l c z) K=K (.c (.lit (.int .i64 l))):=Mb nU rfl
theorem dl:ti Tryz.prog 47=some { kd:=.struct,size:=3,bytes:=40,agg:=true,zero:=some [.lit (.int .i64 0),.lit (.int .i64 0),.sl []],flds:=[(0,1,false),(1,1,false),(2,1,false)],eqs:=none }:=by kernel_rfl
theorem abz:VStep Tryz.prog G tr ⟨some d,.alloc 47,ty,pos,af,g⟩ ⟨fr,bx,nb⟩ H=H ⟨up fr d (.bp nb 0),up bx nb [.c (.lit (.int .i64 0)),.c (.lit (.int .i64 0)),.ow none []],nb+1⟩:=oo dl rfl
theorem jA (h:cs.length=3):dH Tryz.prog 47 s (.c (.rp cs 0)) K=K (.agg cs):=sS dl rfl h
theorem abA:dH Tryz.prog 47 ⟨fr,bx,nb⟩ (.bp b o) K=(dc (bx b)=false∧ldA nb b (bx b) o 3 K):=pt dl rfl rfl
theorem abB:gZ Tryz.prog 47 parts K=vu [(0,1,false),(1,1,false),(2,1,false)] [.lit (.int .i64 0),.lit (.int .i64 0),.sl []] parts K (jx [(0,1,false),(1,1,false),(2,1,false)] parts [.lit (.int .i64 0),.lit (.int .i64 0),.sl []]):=nr dl rfl rfl rfl
theorem XC:bn Tryz.prog 47 (.c (.rp cs o)) 0 K=K (.c (.rp cs (o+0))):=sU dl rfl (by decide)
theorem Tb:bn Tryz.prog 47 (.bp b o) 0 K=K (.bp b (o+0)):=fH dl rfl (by decide)
theorem Tc:bn Tryz.prog 47 (.bp b o) 1 K=K (.bp b (o+1)):=fH dl rfl (by decide)
theorem XD:bn Tryz.prog 47 (.c (.rp cs o)) 2 K=K (.c (.rp cs (o+2))):=sU dl rfl (by decide)
theorem Td:bn Tryz.prog 47 (.bp b o) 2 K=K (.bp b (o+2)):=fH dl rfl (by decide)
theorem abC:oR (ti Tryz.prog 47) t q (.bp b o) v ⟨fr,bx,nb⟩ H=(dc (bx b)=false∧stS 3 t q b o v ⟨fr,bx,nb⟩ H):=by rw[dl];exact kJ rfl
theorem jp:ti Tryz.prog 49=some { kd:=.struct,size:=4,bytes:=48,agg:=true,zero:=some [.lit (.int .i64 0),.lit (.int .i64 0),.lit (.int .i64 0),.sl []],flds:=[(0,1,false),(1,3,true)],eqs:=none }:=by kernel_rfl
theorem abD:VStep Tryz.prog G tr ⟨some d,.alloc 49,ty,pos,af,g⟩ ⟨fr,bx,nb⟩ H=H ⟨up fr d (.bp nb 0),up bx nb [.c (.lit (.int .i64 0)),.c (.lit (.int .i64 0)),.c (.lit (.int .i64 0)),.ow none []],nb+1⟩:=oo jp rfl
theorem aex (h:cs.length=4):dH Tryz.prog 49 s (.c (.rp cs 0)) K=K (.agg cs):=sS jp rfl h
theorem abE:dH Tryz.prog 49 ⟨fr,bx,nb⟩ (.bp b o) K=(dc (bx b)=false∧ldA nb b (bx b) o 4 K):=pt jp rfl rfl
theorem abG:gZ Tryz.prog 49 parts K=vu [(0,1,false),(1,3,true)] [.lit (.int .i64 0),.lit (.int .i64 0),.lit (.int .i64 0),.sl []] parts K (jx [(0,1,false),(1,3,true)] parts [.lit (.int .i64 0),.lit (.int .i64 0),.lit (.int .i64 0),.sl []]):=nr jp rfl rfl rfl
theorem XE:bn Tryz.prog 49 (.c (.rp cs o)) 0 K=K (.c (.rp cs (o+0))):=sU jp rfl (by decide)
theorem Te:bn Tryz.prog 49 (.bp b o) 0 K=K (.bp b (o+0)):=fH jp rfl (by decide)
theorem XG:bn Tryz.prog 49 (.c (.rp cs o)) 1 K=K (.c (.rp cs (o+1))):=sU jp rfl (by decide)
theorem Tf:bn Tryz.prog 49 (.bp b o) 1 K=K (.bp b (o+1)):=fH jp rfl (by decide)
theorem abH:oR (ti Tryz.prog 49) t q (.bp b o) v ⟨fr,bx,nb⟩ H=(dc (bx b)=false∧stS 4 t q b o v ⟨fr,bx,nb⟩ H):=by rw[jp];exact kJ rfl
theorem kO:ti Tryz.prog 56=some { kd:=.struct,size:=3,bytes:=32,agg:=true,zero:=some [.lit (.string (ByteArray.mk #[])),.lit (.int .i64 0),.lit (.int .i64 0)],flds:=[(0,1,false),(1,1,false),(2,1,false)],eqs:=some [.str,.int,.int] }:=by kernel_rfl
theorem abI:VStep Tryz.prog G tr ⟨some d,.alloc 56,ty,pos,af,g⟩ ⟨fr,bx,nb⟩ H=H ⟨up fr d (.bp nb 0),up bx nb [.c (.lit (.string (ByteArray.mk #[]))),.c (.lit (.int .i64 0)),.c (.lit (.int .i64 0))],nb+1⟩:=oo kO rfl
theorem aey (h:cs.length=3):dH Tryz.prog 56 s (.c (.rp cs 0)) K=K (.agg cs):=sS kO rfl h
theorem abJ:gZ Tryz.prog 56 parts K=vu [(0,1,false),(1,1,false),(2,1,false)] [.lit (.string (ByteArray.mk #[])),.lit (.int .i64 0),.lit (.int .i64 0)] parts K (jx [(0,1,false),(1,1,false),(2,1,false)] parts [.lit (.string (ByteArray.mk #[])),.lit (.int .i64 0),.lit (.int .i64 0)]):=nr kO rfl rfl rfl
theorem XH:bn Tryz.prog 56 (.c (.rp cs o)) 0 K=K (.c (.rp cs (o+0))):=sU kO rfl (by decide)
theorem Tg:bn Tryz.prog 56 (.bp b o) 0 K=K (.bp b (o+0)):=fH kO rfl (by decide)
theorem XI:bn Tryz.prog 56 (.c (.rp cs o)) 1 K=K (.c (.rp cs (o+1))):=sU kO rfl (by decide)
theorem Ti:bn Tryz.prog 56 (.bp b o) 1 K=K (.bp b (o+1)):=fH kO rfl (by decide)
theorem XJ:bn Tryz.prog 56 (.c (.rp cs o)) 2 K=K (.c (.rp cs (o+2))):=sU kO rfl (by decide)
theorem Tj:bn Tryz.prog 56 (.bp b o) 2 K=K (.bp b (o+2)):=fH kO rfl (by decide)
theorem abK:oR (ti Tryz.prog 56) t q (.bp b o) v ⟨fr,bx,nb⟩ H=(dc (bx b)=false∧stS 3 t q b o v ⟨fr,bx,nb⟩ H):=by rw[kO];exact kJ rfl
theorem kP:ti Tryz.prog 62=some { kd:=.struct,size:=3,bytes:=24,agg:=true,zero:=some [.lit (.int .i64 0),.lit (.int .i64 0),.lit (.int .i64 0)],flds:=[(0,1,false),(1,1,false),(2,1,false)],eqs:=some [.int,.int,.int] }:=by kernel_rfl
theorem aez (h:cs.length=3):dH Tryz.prog 62 s (.c (.rp cs 0)) K=K (.agg cs):=sS kP rfl h
theorem abL:dH Tryz.prog 62 ⟨fr,bx,nb⟩ (.bp b o) K=(dc (bx b)=false∧ldA nb b (bx b) o 3 K):=pt kP rfl rfl
theorem abM:gZ Tryz.prog 62 parts K=vu [(0,1,false),(1,1,false),(2,1,false)] [.lit (.int .i64 0),.lit (.int .i64 0),.lit (.int .i64 0)] parts K (jx [(0,1,false),(1,1,false),(2,1,false)] parts [.lit (.int .i64 0),.lit (.int .i64 0),.lit (.int .i64 0)]):=nr kP rfl rfl rfl
theorem Tk:bn Tryz.prog 62 (.bp b o) 0 K=K (.bp b (o+0)):=fH kP rfl (by decide)
theorem Tl:bn Tryz.prog 62 (.bp b o) 1 K=K (.bp b (o+1)):=fH kP rfl (by decide)
theorem Tn:bn Tryz.prog 62 (.bp b o) 2 K=K (.bp b (o+2)):=fH kP rfl (by decide)
theorem abN:oR (ti Tryz.prog 62) t q (.bp b o) v ⟨fr,bx,nb⟩ H=(dc (bx b)=false∧stS 3 t q b o v ⟨fr,bx,nb⟩ H):=by rw[kP];exact kJ rfl
theorem Mp:ti Tryz.prog 67=some { kd:=.struct,size:=14,bytes:=232,agg:=true,zero:=some [.lit (.string (ByteArray.mk #[])),.sl [],.sl [],.sl [],.sl [],.sl [],.sl [],.sl [],.lit (.int .i64 0),.lit (.int .i64 0),.lit (.int .i64 0),.lit (.int .i64 0),.lit (.int .i64 0),.lit (.int .i64 0)],flds:=[(0,4,true),(4,5,true),(9,5,true)],eqs:=none }:=by kernel_rfl
theorem abO:gZ Tryz.prog 67 parts K=vu [(0,4,true),(4,5,true),(9,5,true)] [.lit (.string (ByteArray.mk #[])),.sl [],.sl [],.sl [],.sl [],.sl [],.sl [],.sl [],.lit (.int .i64 0),.lit (.int .i64 0),.lit (.int .i64 0),.lit (.int .i64 0),.lit (.int .i64 0),.lit (.int .i64 0)] parts K (jx [(0,4,true),(4,5,true),(9,5,true)] parts [.lit (.string (ByteArray.mk #[])),.sl [],.sl [],.sl [],.sl [],.sl [],.sl [],.sl [],.lit (.int .i64 0),.lit (.int .i64 0),.lit (.int .i64 0),.lit (.int .i64 0),.lit (.int .i64 0),.lit (.int .i64 0)]):=nr Mp rfl rfl rfl
theorem To:bn Tryz.prog 67 (.bp b o) 0 K=K (.bp b (o+0)):=fH Mp rfl (by decide)
theorem Tp:bn Tryz.prog 67 (.bp b o) 1 K=K (.bp b (o+4)):=fH Mp rfl (by decide)
theorem Tq:bn Tryz.prog 67 (.bp b o) 2 K=K (.bp b (o+9)):=fH Mp rfl (by decide)
theorem mz:ti Tryz.prog 94=some { kd:=.struct,size:=3,bytes:=24,agg:=true,zero:=some [.lit (.int .i64 0),.lit (.int .i64 0),.lit (.int .i64 0)],flds:=[(0,1,false),(1,1,false),(2,1,false)],eqs:=some [.int,.int,.int] }:=by kernel_rfl
theorem abP:VStep Tryz.prog G tr ⟨some d,.alloc 94,ty,pos,af,g⟩ ⟨fr,bx,nb⟩ H=H ⟨up fr d (.bp nb 0),up bx nb [.c (.lit (.int .i64 0)),.c (.lit (.int .i64 0)),.c (.lit (.int .i64 0))],nb+1⟩:=oo mz rfl
theorem aeA (h:cs.length=3):dH Tryz.prog 94 s (.c (.rp cs 0)) K=K (.agg cs):=sS mz rfl h
theorem abQ:dH Tryz.prog 94 ⟨fr,bx,nb⟩ (.bp b o) K=(dc (bx b)=false∧ldA nb b (bx b) o 3 K):=pt mz rfl rfl
theorem abR:gZ Tryz.prog 94 parts K=vu [(0,1,false),(1,1,false),(2,1,false)] [.lit (.int .i64 0),.lit (.int .i64 0),.lit (.int .i64 0)] parts K (jx [(0,1,false),(1,1,false),(2,1,false)] parts [.lit (.int .i64 0),.lit (.int .i64 0),.lit (.int .i64 0)]):=nr mz rfl rfl rfl
theorem XK:bn Tryz.prog 94 (.c (.rp cs o)) 0 K=K (.c (.rp cs (o+0))):=sU mz rfl (by decide)
theorem Tt:bn Tryz.prog 94 (.bp b o) 0 K=K (.bp b (o+0)):=fH mz rfl (by decide)
theorem XL:bn Tryz.prog 94 (.c (.rp cs o)) 1 K=K (.c (.rp cs (o+1))):=sU mz rfl (by decide)
theorem Tu:bn Tryz.prog 94 (.bp b o) 1 K=K (.bp b (o+1)):=fH mz rfl (by decide)
theorem XM:bn Tryz.prog 94 (.c (.rp cs o)) 2 K=K (.c (.rp cs (o+2))):=sU mz rfl (by decide)
theorem Tv:bn Tryz.prog 94 (.bp b o) 2 K=K (.bp b (o+2)):=fH mz rfl (by decide)
theorem abS:oR (ti Tryz.prog 94) t q (.bp b o) v ⟨fr,bx,nb⟩ H=(dc (bx b)=false∧stS 3 t q b o v ⟨fr,bx,nb⟩ H):=by rw[mz];exact kJ rfl
theorem hZ:ti Tryz.prog 97=some { kd:=.arr 16 1,size:=16,bytes:=128,agg:=true,zero:=some [.lit .nilFunc,.lit .nilFunc,.lit .nilFunc,.lit .nilFunc,.lit .nilFunc,.lit .nilFunc,.lit .nilFunc,.lit .nilFunc,.lit .nilFunc,.lit .nilFunc,.lit .nilFunc,.lit .nilFunc,.lit .nilFunc,.lit .nilFunc,.lit .nilFunc,.lit .nilFunc],flds:=[],eqs:=none }:=by kernel_rfl
theorem abT:VStep Tryz.prog G tr ⟨some d,.alloc 97,ty,pos,af,g⟩ ⟨fr,bx,nb⟩ H=H ⟨up fr d (.bp nb 0),up bx nb (su 16 (.c (.lit .nilFunc))),nb+1⟩:=oo hZ rfl
theorem abU:oR (ti Tryz.prog 97) t q (.bp b o) v ⟨fr,bx,nb⟩ H=(dc (bx b)=false∧stS 16 t q b o v ⟨fr,bx,nb⟩ H):=by rw[hZ];exact kJ rfl
theorem Zq:zaB Tryz.prog 47=true:=by kernel_rfl
theorem vE:ti Tryz.prog 105=some { kd:=.map 9 47,size:=1,bytes:=8,agg:=false,zero:=some [.lit (.map none)],flds:=[],eqs:=none }:=by kernel_rfl
theorem XN:VStep Tryz.prog G tr ⟨dO,.makeMap 105 none,ty,pos,af,g⟩ ⟨fr,bx,nb⟩ H=H ((⟨fr,up bx nb [.mk [] 0],nb+1⟩:S).put dO (.mr nb)):=AP vE rfl
theorem XO:dH Tryz.prog 105 ⟨fr,bx,nb⟩ (.bp b o) K=(dc (bx b)=false∧ldB nb b (bx b) o K):=gz vE rfl
theorem XQ:oR (ti Tryz.prog 105) t q (.bp b o) v ⟨fr,bx,nb⟩ H=(dc (bx b)=false∧stS 1 t q b o v ⟨fr,bx,nb⟩ H):=by rw[vE];exact kJ rfl
theorem Fb:ti Tryz.prog 112=some { kd:=.slice 3,size:=1,bytes:=24,agg:=false,zero:=some [.sl []],flds:=[],eqs:=none }:=by kernel_rfl
theorem XR:lT Tryz.prog 112 (.c (.sl es)) K=K (.c (.lit (.int .i64 es.length))):=nC Fb rfl
theorem mU:ti Tryz.prog 154=some { kd:=.struct,size:=5,bytes:=40,agg:=true,zero:=some [.lit (.int .i64 0),.lit (.int .i64 0),.lit (.int .i64 0),.lit (.int .i64 0),.lit (.int .i64 0)],flds:=[(0,1,false),(1,1,false),(2,1,false),(3,1,false),(4,1,false)],eqs:=some [.int,.int,.int,.int,.int] }:=by kernel_rfl
theorem XT:VStep Tryz.prog G tr ⟨some d,.alloc 154,ty,pos,af,g⟩ ⟨fr,bx,nb⟩ H=H ⟨up fr d (.bp nb 0),up bx nb [.c (.lit (.int .i64 0)),.c (.lit (.int .i64 0)),.c (.lit (.int .i64 0)),.c (.lit (.int .i64 0)),.c (.lit (.int .i64 0))],nb+1⟩:=oo mU rfl
theorem abV (h:cs.length=5):dH Tryz.prog 154 s (.c (.rp cs 0)) K=K (.agg cs):=sS mU rfl h
theorem Tw:bn Tryz.prog 154 (.c (.rp cs o)) 0 K=K (.c (.rp cs (o+0))):=sU mU rfl (by decide)
theorem O2:bn Tryz.prog 154 (.bp b o) 0 K=K (.bp b (o+0)):=fH mU rfl (by decide)
theorem O3:bn Tryz.prog 154 (.bp b o) 1 K=K (.bp b (o+1)):=fH mU rfl (by decide)
theorem O4:bn Tryz.prog 154 (.bp b o) 2 K=K (.bp b (o+2)):=fH mU rfl (by decide)
theorem O5:bn Tryz.prog 154 (.bp b o) 3 K=K (.bp b (o+3)):=fH mU rfl (by decide)
theorem O6:bn Tryz.prog 154 (.bp b o) 4 K=K (.bp b (o+4)):=fH mU rfl (by decide)
theorem XU:oR (ti Tryz.prog 154) t q (.bp b o) v ⟨fr,bx,nb⟩ H=(dc (bx b)=false∧stS 5 t q b o v ⟨fr,bx,nb⟩ H):=by rw[mU];exact kJ rfl
theorem vF:ti Tryz.prog 157=some { kd:=.struct,size:=3,bytes:=32,agg:=true,zero:=some [.lit (.string (ByteArray.mk #[])),.lit (.int .i64 0),.lit (.bool false)],flds:=[(0,1,false),(1,1,false),(2,1,false)],eqs:=some [.str,.int,.bool] }:=by kernel_rfl
theorem XV:gZ Tryz.prog 157 parts K=vu [(0,1,false),(1,1,false),(2,1,false)] [.lit (.string (ByteArray.mk #[])),.lit (.int .i64 0),.lit (.bool false)] parts K (jx [(0,1,false),(1,1,false),(2,1,false)] parts [.lit (.string (ByteArray.mk #[])),.lit (.int .i64 0),.lit (.bool false)]):=nr vF rfl rfl rfl
theorem O7:bn Tryz.prog 157 (.bp b o) 0 K=K (.bp b (o+0)):=fH vF rfl (by decide)
theorem O8:bn Tryz.prog 157 (.bp b o) 1 K=K (.bp b (o+1)):=fH vF rfl (by decide)
theorem O9:bn Tryz.prog 157 (.bp b o) 2 K=K (.bp b (o+2)):=fH vF rfl (by decide)
theorem XW:oR (ti Tryz.prog 157) t q (.bp b o) v ⟨fr,bx,nb⟩ H=(dc (bx b)=false∧stS 3 t q b o v ⟨fr,bx,nb⟩ H):=by rw[vF];exact kJ rfl
theorem KA:ti Tryz.prog 158=some { kd:=.map 3 157,size:=1,bytes:=8,agg:=false,zero:=some [.lit (.map none)],flds:=[],eqs:=none }:=by kernel_rfl
theorem XX:VStep Tryz.prog G tr ⟨dO,.makeMap 158 none,ty,pos,af,g⟩ ⟨fr,bx,nb⟩ H=H ((⟨fr,up bx nb [.mk [] 0],nb+1⟩:S).put dO (.mr nb)):=AP KA rfl
theorem Tx:zaB Tryz.prog 157=true:=by kernel_rfl
theorem Tz:ti Tryz.prog 161=some { kd:=.slice 9,size:=1,bytes:=24,agg:=false,zero:=some [.sl []],flds:=[],eqs:=none }:=by kernel_rfl
theorem KB:ti Tryz.prog 173=some { kd:=.slice 5,size:=1,bytes:=24,agg:=false,zero:=some [.sl []],flds:=[],eqs:=none }:=by kernel_rfl
theorem XY:lT Tryz.prog 173 (.c (.sl es)) K=K (.c (.lit (.int .i64 es.length))):=nC KB rfl
theorem vG:ti Tryz.prog 178=some { kd:=.struct,size:=3,bytes:=24,agg:=true,zero:=some [.lit (.int .i64 0),.lit (.int .i64 0),.lit (.int .i64 0)],flds:=[(0,1,false),(1,1,false),(2,1,false)],eqs:=some [.int,.int,.int] }:=by kernel_rfl
theorem abW (h:cs.length=3):dH Tryz.prog 178 s (.c (.rp cs 0)) K=K (.agg cs):=sS vG rfl h
theorem XZ:gZ Tryz.prog 178 parts K=vu [(0,1,false),(1,1,false),(2,1,false)] [.lit (.int .i64 0),.lit (.int .i64 0),.lit (.int .i64 0)] parts K (jx [(0,1,false),(1,1,false),(2,1,false)] parts [.lit (.int .i64 0),.lit (.int .i64 0),.lit (.int .i64 0)]):=nr vG rfl rfl rfl
theorem Pa:bn Tryz.prog 178 (.bp b o) 0 K=K (.bp b (o+0)):=fH vG rfl (by decide)
theorem Pb:bn Tryz.prog 178 (.bp b o) 1 K=K (.bp b (o+1)):=fH vG rfl (by decide)
theorem Pd:bn Tryz.prog 178 (.bp b o) 2 K=K (.bp b (o+2)):=fH vG rfl (by decide)
theorem abX:ti Tryz.prog 179=some { kd:=.arr 3 3,size:=3,bytes:=24,agg:=true,zero:=some [.lit (.int .i64 0),.lit (.int .i64 0),.lit (.int .i64 0)],flds:=[],eqs:=some [.int,.int,.int] }:=by kernel_rfl
theorem KC:ti Tryz.prog 198=some { kd:=.slice 178,size:=1,bytes:=24,agg:=false,zero:=some [.sl []],flds:=[],eqs:=none }:=by kernel_rfl
theorem X0:lT Tryz.prog 198 (.c (.sl es)) K=K (.c (.lit (.int .i64 es.length))):=nC KC rfl
theorem abY (h:len*3≤16777216):cG Tryz.prog 22 len parts K=zp 56 3 [.lit (.string (ByteArray.mk #[])),.lit (.int .i64 0),.lit (.int .i64 0)] len parts K:=rA ng rfl kO rfl rfl (by decide) rfl h
theorem abZ (h:len*3≤16777216):cG Tryz.prog 23 len parts K=zp 94 3 [.lit (.int .i64 0),.lit (.int .i64 0),.lit (.int .i64 0)] len parts K:=rA tf rfl mz rfl rfl (by decide) rfl h
theorem ab0 (h:len*5≤16777216):cG Tryz.prog 27 len parts K=zp 29 5 [.lit (.int .i64 0),.lit (.int .i64 0),.lit (.int .i64 0),.lit (.int .i64 0),.lit (.int .i64 0)] len parts K:=rA A7 rfl oG rfl rfl (by decide) rfl h
theorem ab1 (h:len*4≤16777216):cG Tryz.prog 32 len parts K=zp 49 4 [.lit (.int .i64 0),.lit (.int .i64 0),.lit (.int .i64 0),.sl []] len parts K:=rA kN rfl jp rfl rfl (by decide) rfl h
theorem ab2 (h:len*3≤16777216):cG Tryz.prog 33 len parts K=zp 47 3 [.lit (.int .i64 0),.lit (.int .i64 0),.sl []] len parts K:=rA du rfl dl rfl rfl (by decide) rfl h
theorem ab3:ee Tryz.prog 33 (.ow E es) (.c (.sl ys)) K=(((E=none∨E=some (47,3))∧∀ x∈es,x.length=3)∧((es.length+ys.length)*40≤140737488355328∧es.length+ys.length≤9223372036854775807∧∀ x∈ys,x.length=3)∧K (.ow (if ys.isEmpty then E else some (47,3)) (es++ys))):=Se du rfl dl rfl rfl rfl (by decide) rfl
theorem ab4 (h:len*3≤16777216):cG Tryz.prog 43 len parts K=zp 62 3 [.lit (.int .i64 0),.lit (.int .i64 0),.lit (.int .i64 0)] len parts K:=rA nU rfl kP rfl rfl (by decide) rfl h
theorem X1 (h:len*1≤16777216):cG Tryz.prog 112 len parts K=zp 3 1 [.lit (.int .i64 0)] len parts K:=rA Fb rfl E8 rfl rfl (by decide) rfl h
theorem X2 (h:len*1≤16777216):cG Tryz.prog 161 len parts K=zp 9 1 [.lit (.string (ByteArray.mk #[]))] len parts K:=rA Tz rfl E9 rfl rfl (by decide) rfl h
theorem X3:ee Tryz.prog 161 (.ow E es) (.c (.sl ys)) K=(((E=none∨E=some (9,1))∧∀ x∈es,x.length=1)∧((es.length+ys.length)*16≤140737488355328∧es.length+ys.length≤9223372036854775807∧∀ x∈ys,x.length=1)∧K (.ow (if ys.isEmpty then E else some (9,1)) (es++ys))):=Se Tz rfl E9 rfl rfl rfl (by decide) rfl
theorem X4 (h:len*3≤16777216):cG Tryz.prog 198 len parts K=zp 178 3 [.lit (.int .i64 0),.lit (.int .i64 0),.lit (.int .i64 0)] len parts K:=rA KC rfl vG rfl rfl (by decide) rfl h
def pt0:=jj @aeo (jj @agU (jj @aep (jj @aeq (jj @aes (jj @agV (jj @aet (jj @agW (jj @aeu (jj @aa3 (jj @XA (jj @aa4 (jj @aa5 (jj @aa6 (jj @aa7 (jj @aa8 (jj @aa9 (jj @aba (jj @abb (jj @abc @abd)))))))))))))))))))
def pt1:=jj @SV (jj @SY (jj @SZ (jj @S0 (jj @abe (jj @abf (jj @abg (jj @aev (jj @abh (jj @abi (jj @S1 (jj @S2 (jj @S3 (jj @S4 (jj @S5 (jj @abj (jj @abk (jj @abl (jj @abm (jj @abn (jj @abo (jj @aew @abp)))))))))))))))))))))
def pt2:=jj @abq (jj @abr (jj @abt (jj @abu (jj @S6 (jj @S7 (jj @S8 (jj @S9 (jj @Ta (jj @abv (jj @abw (jj @abx (jj @aby (jj @XB (jj @abz (jj @jA (jj @abA (jj @abB (jj @XC (jj @Tb (jj @Tc (jj @XD (jj @Td (jj @abC (jj @abD (jj @aex @abE)))))))))))))))))))))))))
def pt3:=jj @abG (jj @XE (jj @Te (jj @XG (jj @Tf (jj @abH (jj @abI (jj @aey (jj @abJ (jj @XH (jj @Tg (jj @XI (jj @Ti (jj @XJ (jj @Tj (jj @abK (jj @aez (jj @abL (jj @abM (jj @Tk (jj @Tl (jj @Tn (jj @abN (jj @abO (jj @To (jj @Tp (jj @Tq (jj @abP @aeA)))))))))))))))))))))))))))
def pt4:=jj @abQ (jj @abR (jj @XK (jj @Tt (jj @XL (jj @Tu (jj @XM (jj @Tv (jj @abS (jj @abT (jj @abU (jj @XO (jj @XQ (jj @XR (jj @XT (jj @abV (jj @Tw (jj @O2 (jj @O3 (jj @O4 (jj @O5 (jj @O6 (jj @XU (jj @XV (jj @O7 @O8))))))))))))))))))))))))
def pt5:=jj @O9 (jj @XW (jj @XY (jj @abW (jj @XZ (jj @Pa (jj @Pb (jj @Pd @X0)))))))
def pt6:=jj @abY (jj @abZ (jj @ab0 (jj @ab1 (jj @ab2 (jj @ab4 (jj @X1 (jj @X2 @X4)))))))
def ptA:=jj pt0 (jj pt1 (jj pt2 (jj pt3 (jj pt4 (jj pt5 (pt6))))))
