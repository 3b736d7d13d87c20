/- The types of the translation, as the framework sees them: closed facts, by the kernel. Printed by vltypes.py. -/
import Derived.Test.YtegbpjodbjhjeaaGreatDoorVlPack
import Derived.Test.YtegbpjodbjhjeaaGreatDoorChecked
import Derived.KernelRfl
set_option linter.all false
namespace Go.Proofs.YtegbpjodbjhjeaaGreatDoor
open Go Go.Vl
variable {G:Gl} {tr:List Nat} {ty:TypeId} {d:Nat} {dO:Option Tmp} {pos:String} {af:Array Edge} {g:Option (Nat×Bool)} {fr:Nat→V} {bx:Nat→List V} {nb:Nat} {H:S→Prop} {s:S} {cs:List C} {o:Nat} {b:Nat} {l c z:Nat} {K:V→Prop} {t q:Option Tmp} {v:V} {x:V} {E:Option (TypeId×Nat)} {es ys:List (List C)} {y:ByteArray} {len:Nat} {parts:List (Nat×V)}
theorem jM:ti Tryz.prog 1=some { kd:=.other,size:=1,bytes:=8,agg:=false,zero:=some [.lit .nilFunc],flds:=[],eqs:=none }:=by kernel_rfl
theorem aaE:cy Tryz.prog 1 s (.c (.rp cs o)) K=cU false 1 o cs K:=jn jM rfl rfl
theorem Zi:cy Tryz.prog 1 ⟨fr,bx,nb⟩ (.bp b o) K=(ck (bx b)=false∧ldB nb b (bx b) o K):=eN jM rfl
theorem xW:ti Tryz.prog 3=some { kd:=.int .i64,size:=1,bytes:=8,agg:=false,zero:=some [.lit (.int .i64 0)],flds:=[],eqs:=some [.int] }:=by kernel_rfl
theorem Zj:VStep Tryz.prog G tr ⟨some d,.alloc 3,ty,pos,af,g⟩ ⟨fr,bx,nb⟩ H=H ⟨up fr d (.bp nb 0),up bx nb [.c (.lit (.int .i64 0))],nb+1⟩:=jy xW rfl
theorem aaF:cy Tryz.prog 3 s (.c (.rp cs o)) K=cU false 1 o cs K:=jn xW rfl rfl
theorem Zk:cy Tryz.prog 3 ⟨fr,bx,nb⟩ (.bp b o) K=(ck (bx b)=false∧ldB nb b (bx b) o K):=eN xW rfl
theorem Zl:lj (ti Tryz.prog 3) t q (.bp b o) v ⟨fr,bx,nb⟩ H=(ck (bx b)=false∧stS 1 t q b o v ⟨fr,bx,nb⟩ H):=by rw[xW];exact ix rfl
theorem Se:ti Tryz.prog 4=some { kd:=.bool,size:=1,bytes:=1,agg:=false,zero:=some [.lit (.bool false)],flds:=[],eqs:=some [.bool] }:=by kernel_rfl
theorem aaG:cy Tryz.prog 4 s (.c (.rp cs o)) K=cU false 1 o cs K:=jn Se rfl rfl
theorem Zm:cy Tryz.prog 4 ⟨fr,bx,nb⟩ (.bp b o) K=(ck (bx b)=false∧ldB nb b (bx b) o K):=eN Se rfl
theorem NC:ti Tryz.prog 5=some { kd:=.int .u8,size:=1,bytes:=1,agg:=false,zero:=some [.lit (.int .u8 0)],flds:=[],eqs:=some [.int] }:=by kernel_rfl
theorem aaH:cy Tryz.prog 5 s (.c (.rp cs o)) K=cU false 1 o cs K:=jn NC rfl rfl
theorem Zn:cy Tryz.prog 5 ⟨fr,bx,nb⟩ (.bp b o) K=(ck (bx b)=false∧ldB nb b (bx b) o K):=eN NC rfl
theorem Zo:lj (ti Tryz.prog 5) t q (.bp b o) v ⟨fr,bx,nb⟩ H=(ck (bx b)=false∧stS 1 t q b o v ⟨fr,bx,nb⟩ H):=by rw[NC];exact ix rfl
theorem AP:ti Tryz.prog 9=some { kd:=.str,size:=1,bytes:=16,agg:=false,zero:=some [.lit (.string (ByteArray.mk #[]))],flds:=[],eqs:=some [.str] }:=by kernel_rfl
theorem Zp:fB Tryz.prog 9 (.c (.lit (.string y))) K=K (.c (.lit (.int .i64 y.size))):=MB AP rfl
theorem aaI:cy Tryz.prog 9 s (.c (.rp cs o)) K=cU false 1 o cs K:=jn AP rfl rfl
theorem Zq:cy Tryz.prog 9 ⟨fr,bx,nb⟩ (.bp b o) K=(ck (bx b)=false∧ldB nb b (bx b) o K):=eN AP rfl
theorem mF:ti Tryz.prog 22=some { kd:=.slice 56,size:=1,bytes:=24,agg:=false,zero:=some [.sl []],flds:=[],eqs:=none }:=by kernel_rfl
theorem Wl:fB Tryz.prog 22 (.c (.sl es)) K=K (.c (.lit (.int .i64 es.length))):=kY mF rfl
theorem Sf:fB Tryz.prog 22 (.ow E es) K=K (.c (.lit (.int .i64 es.length))):=kZ mF rfl
theorem Sg:fB Tryz.prog 22 (.ms b o l c z) K=K (.c (.lit (.int .i64 l))):=k5 mF rfl
theorem Zr:cy Tryz.prog 22 s (.c (.rp cs o)) K=cU false 1 o cs K:=jn mF rfl rfl
theorem Wm:cy Tryz.prog 22 ⟨fr,bx,nb⟩ (.bp b o) K=(ck (bx b)=false∧ldB nb b (bx b) o K):=eN mF rfl
theorem Wn:mn Tryz.prog 22 ⟨fr,bx,nb⟩ (.bp b o) K=(ck (bx b)=false∧ldZ nb b (bx b) o K):=tW mF rfl
theorem Wo:lj (ti Tryz.prog 22) t q (.bp b o) v ⟨fr,bx,nb⟩ H=(ck (bx b)=false∧stS 1 t q b o v ⟨fr,bx,nb⟩ H):=by rw[mF];exact ix rfl
theorem pY:ti Tryz.prog 23=some { kd:=.slice 94,size:=1,bytes:=24,agg:=false,zero:=some [.sl []],flds:=[],eqs:=none }:=by kernel_rfl
theorem Wp:fB Tryz.prog 23 (.c (.sl es)) K=K (.c (.lit (.int .i64 es.length))):=kY pY rfl
theorem Si:fB Tryz.prog 23 (.ow E es) K=K (.c (.lit (.int .i64 es.length))):=kZ pY rfl
theorem Sj:fB Tryz.prog 23 (.ms b o l c z) K=K (.c (.lit (.int .i64 l))):=k5 pY rfl
theorem Zs:cy Tryz.prog 23 s (.c (.rp cs o)) K=cU false 1 o cs K:=jn pY rfl rfl
theorem Wq:cy Tryz.prog 23 ⟨fr,bx,nb⟩ (.bp b o) K=(ck (bx b)=false∧ldB nb b (bx b) o K):=eN pY rfl
theorem Ws:mn Tryz.prog 23 ⟨fr,bx,nb⟩ (.bp b o) K=(ck (bx b)=false∧ldZ nb b (bx b) o K):=tW pY rfl
theorem Wt:lj (ti Tryz.prog 23) t q (.bp b o) v ⟨fr,bx,nb⟩ H=(ck (bx b)=false∧stS 1 t q b o v ⟨fr,bx,nb⟩ H):=by rw[pY];exact ix rfl
theorem sK:ti Tryz.prog 24=some { kd:=.slice 154,size:=1,bytes:=24,agg:=false,zero:=some [.sl []],flds:=[],eqs:=none }:=by kernel_rfl
theorem Wu:fB Tryz.prog 24 (.c (.sl es)) K=K (.c (.lit (.int .i64 es.length))):=kY sK rfl
theorem Sk:fB Tryz.prog 24 (.ow E es) K=K (.c (.lit (.int .i64 es.length))):=kZ sK rfl
theorem Sl:fB Tryz.prog 24 (.ms b o l c z) K=K (.c (.lit (.int .i64 l))):=k5 sK rfl
theorem Zt:cy Tryz.prog 24 s (.c (.rp cs o)) K=cU false 1 o cs K:=jn sK rfl rfl
theorem Wv:cy Tryz.prog 24 ⟨fr,bx,nb⟩ (.bp b o) K=(ck (bx b)=false∧ldB nb b (bx b) o K):=eN sK rfl
theorem Ww:mn Tryz.prog 24 ⟨fr,bx,nb⟩ (.bp b o) K=(ck (bx b)=false∧ldZ nb b (bx b) o K):=tW sK rfl
theorem nI:ti Tryz.prog 26=some { kd:=.struct,size:=4,bytes:=88,agg:=true,zero:=some [.lit (.string (ByteArray.mk #[])),.sl [],.sl [],.sl []],flds:=[(0,1,false),(1,1,false),(2,1,false),(3,1,false)],eqs:=none }:=by kernel_rfl
theorem Wx:VStep Tryz.prog G tr ⟨some d,.alloc 26,ty,pos,af,g⟩ ⟨fr,bx,nb⟩ H=H ⟨up fr d (.bp nb 0),up bx nb [.c (.lit (.string (ByteArray.mk #[]))),.ow none [],.ow none [],.ow none []],nb+1⟩:=jy nI rfl
theorem Zu (h:cs.length=4):cy Tryz.prog 26 s (.c (.rp cs 0)) K=K (.agg cs):=nT nI rfl h
theorem Wy:cy Tryz.prog 26 ⟨fr,bx,nb⟩ (.bp b o) K=(ck (bx b)=false∧ldA nb b (bx b) o 4 K):=k6 nI rfl rfl
theorem Wz:iE Tryz.prog 26 parts K=oq K (gi [(0,1,false),(1,1,false),(2,1,false),(3,1,false)] parts [.c (.lit (.string (ByteArray.mk #[]))),.ow none [],.ow none [],.ow none []]):=k9 nI rfl rfl rfl
theorem WA:fQ Tryz.prog 26 parts K=ru [(0,1,false),(1,1,false),(2,1,false),(3,1,false)] [.lit (.string (ByteArray.mk #[])),.sl [],.sl [],.sl []] parts K (iD [(0,1,false),(1,1,false),(2,1,false),(3,1,false)] parts [.lit (.string (ByteArray.mk #[])),.sl [],.sl [],.sl []]):=lJ nI rfl rfl rfl
theorem Sm:aK Tryz.prog 26 (.c (.rp cs o)) 0 K=K (.c (.rp cs (o+0))):=eP nI rfl (by decide)
theorem ND:aK Tryz.prog 26 (.bp b o) 0 K=K (.bp b (o+0)):=eQ nI rfl (by decide)
theorem So:aK Tryz.prog 26 (.c (.rp cs o)) 1 K=K (.c (.rp cs (o+1))):=eP nI rfl (by decide)
theorem NE:aK Tryz.prog 26 (.bp b o) 1 K=K (.bp b (o+1)):=eQ nI rfl (by decide)
theorem Sp:aK Tryz.prog 26 (.c (.rp cs o)) 2 K=K (.c (.rp cs (o+2))):=eP nI rfl (by decide)
theorem NF:aK Tryz.prog 26 (.bp b o) 2 K=K (.bp b (o+2)):=eQ nI rfl (by decide)
theorem Sq:aK Tryz.prog 26 (.c (.rp cs o)) 3 K=K (.c (.rp cs (o+3))):=eP nI rfl (by decide)
theorem NG:aK Tryz.prog 26 (.bp b o) 3 K=K (.bp b (o+3)):=eQ nI rfl (by decide)
theorem WB:lj (ti Tryz.prog 26) t q (.bp b o) v ⟨fr,bx,nb⟩ H=(ck (bx b)=false∧stS 4 t q b o v ⟨fr,bx,nb⟩ H):=by rw[nI];exact ix rfl
theorem uK:ti Tryz.prog 27=some { kd:=.slice 29,size:=1,bytes:=24,agg:=false,zero:=some [.sl []],flds:=[],eqs:=none }:=by kernel_rfl
theorem WC:fB Tryz.prog 27 (.c (.sl es)) K=K (.c (.lit (.int .i64 es.length))):=kY uK rfl
theorem Sr:fB Tryz.prog 27 (.ow E es) K=K (.c (.lit (.int .i64 es.length))):=kZ uK rfl
theorem Ss:fB Tryz.prog 27 (.ms b o l c z) K=K (.c (.lit (.int .i64 l))):=k5 uK rfl
theorem ko:ti Tryz.prog 29=some { kd:=.struct,size:=5,bytes:=40,agg:=true,zero:=some [.lit (.int .i64 0),.lit (.int .i64 0),.lit (.int .i64 0),.lit (.int .i64 0),.lit (.int .i64 0)],flds:=[(0,1,false),(1,1,false),(2,1,false),(3,1,false),(4,1,false)],eqs:=some [.int,.int,.int,.int,.int] }:=by kernel_rfl
theorem WE:VStep Tryz.prog G tr ⟨some d,.alloc 29,ty,pos,af,g⟩ ⟨fr,bx,nb⟩ H=H ⟨up fr d (.bp nb 0),up bx nb [.c (.lit (.int .i64 0)),.c (.lit (.int .i64 0)),.c (.lit (.int .i64 0)),.c (.lit (.int .i64 0)),.c (.lit (.int .i64 0))],nb+1⟩:=jy ko rfl
theorem Zv (h:cs.length=5):cy Tryz.prog 29 s (.c (.rp cs 0)) K=K (.agg cs):=nT ko rfl h
theorem WG:cy Tryz.prog 29 ⟨fr,bx,nb⟩ (.bp b o) K=(ck (bx b)=false∧ldA nb b (bx b) o 5 K):=k6 ko rfl rfl
theorem WH:iE Tryz.prog 29 parts K=oq K (gi [(0,1,false),(1,1,false),(2,1,false),(3,1,false),(4,1,false)] parts [.c (.lit (.int .i64 0)),.c (.lit (.int .i64 0)),.c (.lit (.int .i64 0)),.c (.lit (.int .i64 0)),.c (.lit (.int .i64 0))]):=k9 ko rfl rfl rfl
theorem WI:fQ Tryz.prog 29 parts K=ru [(0,1,false),(1,1,false),(2,1,false),(3,1,false),(4,1,false)] [.lit (.int .i64 0),.lit (.int .i64 0),.lit (.int .i64 0),.lit (.int .i64 0),.lit (.int .i64 0)] parts K (iD [(0,1,false),(1,1,false),(2,1,false),(3,1,false),(4,1,false)] parts [.lit (.int .i64 0),.lit (.int .i64 0),.lit (.int .i64 0),.lit (.int .i64 0),.lit (.int .i64 0)]):=lJ ko rfl rfl rfl
theorem Su:aK Tryz.prog 29 (.c (.rp cs o)) 0 K=K (.c (.rp cs (o+0))):=eP ko rfl (by decide)
theorem NH:aK Tryz.prog 29 (.bp b o) 0 K=K (.bp b (o+0)):=eQ ko rfl (by decide)
theorem Sv:aK Tryz.prog 29 (.c (.rp cs o)) 1 K=K (.c (.rp cs (o+1))):=eP ko rfl (by decide)
theorem NI:aK Tryz.prog 29 (.bp b o) 1 K=K (.bp b (o+1)):=eQ ko rfl (by decide)
theorem Sw:aK Tryz.prog 29 (.c (.rp cs o)) 2 K=K (.c (.rp cs (o+2))):=eP ko rfl (by decide)
theorem NJ:aK Tryz.prog 29 (.bp b o) 2 K=K (.bp b (o+2)):=eQ ko rfl (by decide)
theorem Sx:aK Tryz.prog 29 (.c (.rp cs o)) 3 K=K (.c (.rp cs (o+3))):=eP ko rfl (by decide)
theorem NK:aK Tryz.prog 29 (.bp b o) 3 K=K (.bp b (o+3)):=eQ ko rfl (by decide)
theorem Sz:aK Tryz.prog 29 (.c (.rp cs o)) 4 K=K (.c (.rp cs (o+4))):=eP ko rfl (by decide)
theorem NL:aK Tryz.prog 29 (.bp b o) 4 K=K (.bp b (o+4)):=eQ ko rfl (by decide)
theorem WJ:lj (ti Tryz.prog 29) t q (.bp b o) v ⟨fr,bx,nb⟩ H=(ck (bx b)=false∧stS 5 t q b o v ⟨fr,bx,nb⟩ H):=by rw[ko];exact ix rfl
theorem kO:ti Tryz.prog 32=some { kd:=.slice 49,size:=1,bytes:=24,agg:=false,zero:=some [.sl []],flds:=[],eqs:=none }:=by kernel_rfl
theorem WL:fB Tryz.prog 32 (.c (.sl es)) K=K (.c (.lit (.int .i64 es.length))):=kY kO rfl
theorem SA:fB Tryz.prog 32 (.ow E es) K=K (.c (.lit (.int .i64 es.length))):=kZ kO rfl
theorem SB:fB Tryz.prog 32 (.ms b o l c z) K=K (.c (.lit (.int .i64 l))):=k5 kO rfl
theorem Zw:cy Tryz.prog 32 s (.c (.rp cs o)) K=cU false 1 o cs K:=jn kO rfl rfl
theorem WM:cy Tryz.prog 32 ⟨fr,bx,nb⟩ (.bp b o) K=(ck (bx b)=false∧ldB nb b (bx b) o K):=eN kO rfl
theorem WN:mn Tryz.prog 32 ⟨fr,bx,nb⟩ (.bp b o) K=(ck (bx b)=false∧ldZ nb b (bx b) o K):=tW kO rfl
theorem WO:lj (ti Tryz.prog 32) t q (.bp b o) v ⟨fr,bx,nb⟩ H=(ck (bx b)=false∧stS 1 t q b o v ⟨fr,bx,nb⟩ H):=by rw[kO];exact ix rfl
theorem dm:ti Tryz.prog 33=some { kd:=.slice 47,size:=1,bytes:=24,agg:=false,zero:=some [.sl []],flds:=[],eqs:=none }:=by kernel_rfl
theorem WP:fB Tryz.prog 33 (.c (.sl es)) K=K (.c (.lit (.int .i64 es.length))):=kY dm rfl
theorem SC:fB Tryz.prog 33 (.ow E es) K=K (.c (.lit (.int .i64 es.length))):=kZ dm rfl
theorem SD:fB Tryz.prog 33 (.ms b o l c z) K=K (.c (.lit (.int .i64 l))):=k5 dm rfl
theorem WQ:VStep Tryz.prog G tr ⟨some d,.alloc 33,ty,pos,af,g⟩ ⟨fr,bx,nb⟩ H=H ⟨up fr d (.bp nb 0),up bx nb [.ow none []],nb+1⟩:=jy dm rfl
theorem Zx:cy Tryz.prog 33 s (.c (.rp cs o)) K=cU false 1 o cs K:=jn dm rfl rfl
theorem WR:cy Tryz.prog 33 ⟨fr,bx,nb⟩ (.bp b o) K=(ck (bx b)=false∧ldB nb b (bx b) o K):=eN dm rfl
theorem WS:mn Tryz.prog 33 ⟨fr,bx,nb⟩ (.bp b o) K=(ck (bx b)=false∧ldZ nb b (bx b) o K):=tW dm rfl
theorem WT:lj (ti Tryz.prog 33) t q (.bp b o) v ⟨fr,bx,nb⟩ H=(ck (bx b)=false∧stS 1 t q b o v ⟨fr,bx,nb⟩ H):=by rw[dm];exact ix rfl
theorem mb:ti Tryz.prog 35=some { kd:=.struct,size:=5,bytes:=104,agg:=true,zero:=some [.sl [],.sl [],.sl [],.sl [],.lit (.int .i64 0)],flds:=[(0,1,false),(1,1,false),(2,1,false),(3,1,false),(4,1,false)],eqs:=none }:=by kernel_rfl
theorem WU:VStep Tryz.prog G tr ⟨some d,.alloc 35,ty,pos,af,g⟩ ⟨fr,bx,nb⟩ H=H ⟨up fr d (.bp nb 0),up bx nb [.ow none [],.ow none [],.ow none [],.ow none [],.c (.lit (.int .i64 0))],nb+1⟩:=jy mb rfl
theorem Zy (h:cs.length=5):cy Tryz.prog 35 s (.c (.rp cs 0)) K=K (.agg cs):=nT mb rfl h
theorem WV:cy Tryz.prog 35 ⟨fr,bx,nb⟩ (.bp b o) K=(ck (bx b)=false∧ldA nb b (bx b) o 5 K):=k6 mb rfl rfl
theorem WW:iE Tryz.prog 35 parts K=oq K (gi [(0,1,false),(1,1,false),(2,1,false),(3,1,false),(4,1,false)] parts [.ow none [],.ow none [],.ow none [],.ow none [],.c (.lit (.int .i64 0))]):=k9 mb rfl rfl rfl
theorem WX:fQ Tryz.prog 35 parts K=ru [(0,1,false),(1,1,false),(2,1,false),(3,1,false),(4,1,false)] [.sl [],.sl [],.sl [],.sl [],.lit (.int .i64 0)] parts K (iD [(0,1,false),(1,1,false),(2,1,false),(3,1,false),(4,1,false)] parts [.sl [],.sl [],.sl [],.sl [],.lit (.int .i64 0)]):=lJ mb rfl rfl rfl
theorem SG:aK Tryz.prog 35 (.c (.rp cs o)) 0 K=K (.c (.rp cs (o+0))):=eP mb rfl (by decide)
theorem NM:aK Tryz.prog 35 (.bp b o) 0 K=K (.bp b (o+0)):=eQ mb rfl (by decide)
theorem SH:aK Tryz.prog 35 (.c (.rp cs o)) 1 K=K (.c (.rp cs (o+1))):=eP mb rfl (by decide)
theorem NN:aK Tryz.prog 35 (.bp b o) 1 K=K (.bp b (o+1)):=eQ mb rfl (by decide)
theorem SI:aK Tryz.prog 35 (.c (.rp cs o)) 2 K=K (.c (.rp cs (o+2))):=eP mb rfl (by decide)
theorem NP:aK Tryz.prog 35 (.bp b o) 2 K=K (.bp b (o+2)):=eQ mb rfl (by decide)
theorem SJ:aK Tryz.prog 35 (.c (.rp cs o)) 3 K=K (.c (.rp cs (o+3))):=eP mb rfl (by decide)
theorem NQ:aK Tryz.prog 35 (.bp b o) 3 K=K (.bp b (o+3)):=eQ mb rfl (by decide)
theorem SK:aK Tryz.prog 35 (.c (.rp cs o)) 4 K=K (.c (.rp cs (o+4))):=eP mb rfl (by decide)
theorem NR:aK Tryz.prog 35 (.bp b o) 4 K=K (.bp b (o+4)):=eQ mb rfl (by decide)
theorem WY:lj (ti Tryz.prog 35) t q (.bp b o) v ⟨fr,bx,nb⟩ H=(ck (bx b)=false∧stS 5 t q b o v ⟨fr,bx,nb⟩ H):=by rw[mb];exact ix rfl
theorem kp:ti Tryz.prog 36=some { kd:=.int .i64,size:=1,bytes:=8,agg:=false,zero:=some [.lit (.int .i64 0)],flds:=[],eqs:=some [.int] }:=by kernel_rfl
theorem WZ:VStep Tryz.prog G tr ⟨some d,.alloc 36,ty,pos,af,g⟩ ⟨fr,bx,nb⟩ H=H ⟨up fr d (.bp nb 0),up bx nb [.c (.lit (.int .i64 0))],nb+1⟩:=jy kp rfl
theorem Zz:cy Tryz.prog 36 s (.c (.rp cs o)) K=cU false 1 o cs K:=jn kp rfl rfl
theorem W0:cy Tryz.prog 36 ⟨fr,bx,nb⟩ (.bp b o) K=(ck (bx b)=false∧ldB nb b (bx b) o K):=eN kp rfl
theorem W1:lj (ti Tryz.prog 36) t q (.bp b o) v ⟨fr,bx,nb⟩ H=(ck (bx b)=false∧stS 1 t q b o v ⟨fr,bx,nb⟩ H):=by rw[kp];exact ix rfl
theorem lv:ti Tryz.prog 43=some { kd:=.slice 62,size:=1,bytes:=24,agg:=false,zero:=some [.sl []],flds:=[],eqs:=none }:=by kernel_rfl
theorem W2:fB Tryz.prog 43 (.c (.sl es)) K=K (.c (.lit (.int .i64 es.length))):=kY lv rfl
theorem SL:fB Tryz.prog 43 (.ow E es) K=K (.c (.lit (.int .i64 es.length))):=kZ lv rfl
theorem SN:fB Tryz.prog 43 (.ms b o l c z) K=K (.c (.lit (.int .i64 l))):=k5 lv rfl
theorem dc:ti Tryz.prog 47=some { kd:=.struct,size:=3,bytes:=40,agg:=true,zero:=some [.lit (.int .i64 0),.lit (.int .i64 0),.sl []],flds:=[(0,1,false),(1,1,false),(2,1,false)],eqs:=none }:=by kernel_rfl
theorem W3:VStep Tryz.prog G tr ⟨some d,.alloc 47,ty,pos,af,g⟩ ⟨fr,bx,nb⟩ H=H ⟨up fr d (.bp nb 0),up bx nb [.c (.lit (.int .i64 0)),.c (.lit (.int .i64 0)),.ow none []],nb+1⟩:=jy dc rfl
theorem lw (h:cs.length=3):cy Tryz.prog 47 s (.c (.rp cs 0)) K=K (.agg cs):=nT dc rfl h
theorem W4:cy Tryz.prog 47 ⟨fr,bx,nb⟩ (.bp b o) K=(ck (bx b)=false∧ldA nb b (bx b) o 3 K):=k6 dc rfl rfl
theorem W5:iE Tryz.prog 47 parts K=oq K (gi [(0,1,false),(1,1,false),(2,1,false)] parts [.c (.lit (.int .i64 0)),.c (.lit (.int .i64 0)),.ow none []]):=k9 dc rfl rfl rfl
theorem W6:fQ Tryz.prog 47 parts K=ru [(0,1,false),(1,1,false),(2,1,false)] [.lit (.int .i64 0),.lit (.int .i64 0),.sl []] parts K (iD [(0,1,false),(1,1,false),(2,1,false)] parts [.lit (.int .i64 0),.lit (.int .i64 0),.sl []]):=lJ dc rfl rfl rfl
theorem SO:aK Tryz.prog 47 (.c (.rp cs o)) 0 K=K (.c (.rp cs (o+0))):=eP dc rfl (by decide)
theorem NS:aK Tryz.prog 47 (.bp b o) 0 K=K (.bp b (o+0)):=eQ dc rfl (by decide)
theorem SQ:aK Tryz.prog 47 (.c (.rp cs o)) 1 K=K (.c (.rp cs (o+1))):=eP dc rfl (by decide)
theorem NT:aK Tryz.prog 47 (.bp b o) 1 K=K (.bp b (o+1)):=eQ dc rfl (by decide)
theorem SR:aK Tryz.prog 47 (.c (.rp cs o)) 2 K=K (.c (.rp cs (o+2))):=eP dc rfl (by decide)
theorem NU:aK Tryz.prog 47 (.bp b o) 2 K=K (.bp b (o+2)):=eQ dc rfl (by decide)
theorem W7:lj (ti Tryz.prog 47) t q (.bp b o) v ⟨fr,bx,nb⟩ H=(ck (bx b)=false∧stS 3 t q b o v ⟨fr,bx,nb⟩ H):=by rw[dc];exact ix rfl
theorem jD:ti Tryz.prog 49=some { kd:=.struct,size:=4,bytes:=48,agg:=true,zero:=some [.lit (.int .i64 0),.lit (.int .i64 0),.lit (.int .i64 0),.sl []],flds:=[(0,1,false),(1,3,true)],eqs:=none }:=by kernel_rfl
theorem W8:VStep Tryz.prog G tr ⟨some d,.alloc 49,ty,pos,af,g⟩ ⟨fr,bx,nb⟩ H=H ⟨up fr d (.bp nb 0),up bx nb [.c (.lit (.int .i64 0)),.c (.lit (.int .i64 0)),.c (.lit (.int .i64 0)),.ow none []],nb+1⟩:=jy jD rfl
theorem ZA (h:cs.length=4):cy Tryz.prog 49 s (.c (.rp cs 0)) K=K (.agg cs):=nT jD rfl h
theorem W9:cy Tryz.prog 49 ⟨fr,bx,nb⟩ (.bp b o) K=(ck (bx b)=false∧ldA nb b (bx b) o 4 K):=k6 jD rfl rfl
theorem Xa:iE Tryz.prog 49 parts K=oq K (gi [(0,1,false),(1,3,true)] parts [.c (.lit (.int .i64 0)),.c (.lit (.int .i64 0)),.c (.lit (.int .i64 0)),.ow none []]):=k9 jD rfl rfl rfl
theorem Xb:fQ Tryz.prog 49 parts K=ru [(0,1,false),(1,3,true)] [.lit (.int .i64 0),.lit (.int .i64 0),.lit (.int .i64 0),.sl []] parts K (iD [(0,1,false),(1,3,true)] parts [.lit (.int .i64 0),.lit (.int .i64 0),.lit (.int .i64 0),.sl []]):=lJ jD rfl rfl rfl
theorem SS:aK Tryz.prog 49 (.c (.rp cs o)) 0 K=K (.c (.rp cs (o+0))):=eP jD rfl (by decide)
theorem NV:aK Tryz.prog 49 (.bp b o) 0 K=K (.bp b (o+0)):=eQ jD rfl (by decide)
theorem SU:aK Tryz.prog 49 (.c (.rp cs o)) 1 K=K (.c (.rp cs (o+1))):=eP jD rfl (by decide)
theorem NW:aK Tryz.prog 49 (.bp b o) 1 K=K (.bp b (o+1)):=eQ jD rfl (by decide)
theorem Xc:lj (ti Tryz.prog 49) t q (.bp b o) v ⟨fr,bx,nb⟩ H=(ck (bx b)=false∧stS 4 t q b o v ⟨fr,bx,nb⟩ H):=by rw[jD];exact ix rfl
theorem jN:ti Tryz.prog 56=some { kd:=.struct,size:=3,bytes:=32,agg:=true,zero:=some [.lit (.string (ByteArray.mk #[])),.lit (.int .i64 0),.lit (.int .i64 0)],flds:=[(0,1,false),(1,1,false),(2,1,false)],eqs:=some [.str,.int,.int] }:=by kernel_rfl
theorem Xd:VStep Tryz.prog G tr ⟨some d,.alloc 56,ty,pos,af,g⟩ ⟨fr,bx,nb⟩ H=H ⟨up fr d (.bp nb 0),up bx nb [.c (.lit (.string (ByteArray.mk #[]))),.c (.lit (.int .i64 0)),.c (.lit (.int .i64 0))],nb+1⟩:=jy jN rfl
theorem ZB (h:cs.length=3):cy Tryz.prog 56 s (.c (.rp cs 0)) K=K (.agg cs):=nT jN rfl h
theorem Xe:cy Tryz.prog 56 ⟨fr,bx,nb⟩ (.bp b o) K=(ck (bx b)=false∧ldA nb b (bx b) o 3 K):=k6 jN rfl rfl
theorem Xf:iE Tryz.prog 56 parts K=oq K (gi [(0,1,false),(1,1,false),(2,1,false)] parts [.c (.lit (.string (ByteArray.mk #[]))),.c (.lit (.int .i64 0)),.c (.lit (.int .i64 0))]):=k9 jN rfl rfl rfl
theorem Xg:fQ Tryz.prog 56 parts K=ru [(0,1,false),(1,1,false),(2,1,false)] [.lit (.string (ByteArray.mk #[])),.lit (.int .i64 0),.lit (.int .i64 0)] parts K (iD [(0,1,false),(1,1,false),(2,1,false)] parts [.lit (.string (ByteArray.mk #[])),.lit (.int .i64 0),.lit (.int .i64 0)]):=lJ jN rfl rfl rfl
theorem SV:aK Tryz.prog 56 (.c (.rp cs o)) 0 K=K (.c (.rp cs (o+0))):=eP jN rfl (by decide)
theorem NX:aK Tryz.prog 56 (.bp b o) 0 K=K (.bp b (o+0)):=eQ jN rfl (by decide)
theorem SY:aK Tryz.prog 56 (.c (.rp cs o)) 1 K=K (.c (.rp cs (o+1))):=eP jN rfl (by decide)
theorem NY:aK Tryz.prog 56 (.bp b o) 1 K=K (.bp b (o+1)):=eQ jN rfl (by decide)
theorem SZ:aK Tryz.prog 56 (.c (.rp cs o)) 2 K=K (.c (.rp cs (o+2))):=eP jN rfl (by decide)
theorem NZ:aK Tryz.prog 56 (.bp b o) 2 K=K (.bp b (o+2)):=eQ jN rfl (by decide)
theorem Xh:lj (ti Tryz.prog 56) t q (.bp b o) v ⟨fr,bx,nb⟩ H=(ck (bx b)=false∧stS 3 t q b o v ⟨fr,bx,nb⟩ H):=by rw[jN];exact ix rfl
theorem iY:ti Tryz.prog 62=some { kd:=.struct,size:=3,bytes:=24,agg:=true,zero:=some [.lit (.int .i64 0),.lit (.int .i64 0),.lit (.int .i64 0)],flds:=[(0,1,false),(1,1,false),(2,1,false)],eqs:=some [.int,.int,.int] }:=by kernel_rfl
theorem ZC (h:cs.length=3):cy Tryz.prog 62 s (.c (.rp cs 0)) K=K (.agg cs):=nT iY rfl h
theorem Xi:cy Tryz.prog 62 ⟨fr,bx,nb⟩ (.bp b o) K=(ck (bx b)=false∧ldA nb b (bx b) o 3 K):=k6 iY rfl rfl
theorem Xj:iE Tryz.prog 62 parts K=oq K (gi [(0,1,false),(1,1,false),(2,1,false)] parts [.c (.lit (.int .i64 0)),.c (.lit (.int .i64 0)),.c (.lit (.int .i64 0))]):=k9 iY rfl rfl rfl
theorem Xk:fQ Tryz.prog 62 parts K=ru [(0,1,false),(1,1,false),(2,1,false)] [.lit (.int .i64 0),.lit (.int .i64 0),.lit (.int .i64 0)] parts K (iD [(0,1,false),(1,1,false),(2,1,false)] parts [.lit (.int .i64 0),.lit (.int .i64 0),.lit (.int .i64 0)]):=lJ iY rfl rfl rfl
theorem S0:aK Tryz.prog 62 (.c (.rp cs o)) 0 K=K (.c (.rp cs (o+0))):=eP iY rfl (by decide)
theorem N1:aK Tryz.prog 62 (.bp b o) 0 K=K (.bp b (o+0)):=eQ iY rfl (by decide)
theorem S1:aK Tryz.prog 62 (.c (.rp cs o)) 1 K=K (.c (.rp cs (o+1))):=eP iY rfl (by decide)
theorem N2:aK Tryz.prog 62 (.bp b o) 1 K=K (.bp b (o+1)):=eQ iY rfl (by decide)
theorem S2:aK Tryz.prog 62 (.c (.rp cs o)) 2 K=K (.c (.rp cs (o+2))):=eP iY rfl (by decide)
theorem N3:aK Tryz.prog 62 (.bp b o) 2 K=K (.bp b (o+2)):=eQ iY rfl (by decide)
theorem Xl:lj (ti Tryz.prog 62) t q (.bp b o) v ⟨fr,bx,nb⟩ H=(ck (bx b)=false∧stS 3 t q b o v ⟨fr,bx,nb⟩ H):=by rw[iY];exact ix rfl
theorem uL:ti Tryz.prog 67=some { kd:=.struct,size:=14,bytes:=232,agg:=true,zero:=some [.lit (.string (ByteArray.mk #[])),.sl [],.sl [],.sl [],.sl [],.sl [],.sl [],.sl [],.lit (.int .i64 0),.lit (.int .i64 0),.lit (.int .i64 0),.lit (.int .i64 0),.lit (.int .i64 0),.lit (.int .i64 0)],flds:=[(0,4,true),(4,5,true),(9,5,true)],eqs:=none }:=by kernel_rfl
theorem Xm:iE Tryz.prog 67 parts K=oq K (gi [(0,4,true),(4,5,true),(9,5,true)] parts [.c (.lit (.string (ByteArray.mk #[]))),.ow none [],.ow none [],.ow none [],.ow none [],.ow none [],.ow none [],.ow none [],.c (.lit (.int .i64 0)),.c (.lit (.int .i64 0)),.c (.lit (.int .i64 0)),.c (.lit (.int .i64 0)),.c (.lit (.int .i64 0)),.c (.lit (.int .i64 0))]):=k9 uL rfl rfl rfl
theorem Xn:fQ Tryz.prog 67 parts K=ru [(0,4,true),(4,5,true),(9,5,true)] [.lit (.string (ByteArray.mk #[])),.sl [],.sl [],.sl [],.sl [],.sl [],.sl [],.sl [],.lit (.int .i64 0),.lit (.int .i64 0),.lit (.int .i64 0),.lit (.int .i64 0),.lit (.int .i64 0),.lit (.int .i64 0)] parts K (iD [(0,4,true),(4,5,true),(9,5,true)] parts [.lit (.string (ByteArray.mk #[])),.sl [],.sl [],.sl [],.sl [],.sl [],.sl [],.sl [],.lit (.int .i64 0),.lit (.int .i64 0),.lit (.int .i64 0),.lit (.int .i64 0),.lit (.int .i64 0),.lit (.int .i64 0)]):=lJ uL rfl rfl rfl
theorem S3:aK Tryz.prog 67 (.c (.rp cs o)) 0 K=K (.c (.rp cs (o+0))):=eP uL rfl (by decide)
theorem N4:aK Tryz.prog 67 (.bp b o) 0 K=K (.bp b (o+0)):=eQ uL rfl (by decide)
theorem S4:aK Tryz.prog 67 (.c (.rp cs o)) 1 K=K (.c (.rp cs (o+4))):=eP uL rfl (by decide)
theorem N5:aK Tryz.prog 67 (.bp b o) 1 K=K (.bp b (o+4)):=eQ uL rfl (by decide)
theorem S5:aK Tryz.prog 67 (.c (.rp cs o)) 2 K=K (.c (.rp cs (o+9))):=eP uL rfl (by decide)
theorem N6:aK Tryz.prog 67 (.bp b o) 2 K=K (.bp b (o+9)):=eQ uL rfl (by decide)
theorem lx:ti Tryz.prog 94=some { kd:=.struct,size:=3,bytes:=24,agg:=true,zero:=some [.lit (.int .i64 0),.lit (.int .i64 0),.lit (.int .i64 0)],flds:=[(0,1,false),(1,1,false),(2,1,false)],eqs:=some [.int,.int,.int] }:=by kernel_rfl
theorem Xo:VStep Tryz.prog G tr ⟨some d,.alloc 94,ty,pos,af,g⟩ ⟨fr,bx,nb⟩ H=H ⟨up fr d (.bp nb 0),up bx nb [.c (.lit (.int .i64 0)),.c (.lit (.int .i64 0)),.c (.lit (.int .i64 0))],nb+1⟩:=jy lx rfl
theorem ZD (h:cs.length=3):cy Tryz.prog 94 s (.c (.rp cs 0)) K=K (.agg cs):=nT lx rfl h
theorem Xp:cy Tryz.prog 94 ⟨fr,bx,nb⟩ (.bp b o) K=(ck (bx b)=false∧ldA nb b (bx b) o 3 K):=k6 lx rfl rfl
theorem Xq:iE Tryz.prog 94 parts K=oq K (gi [(0,1,false),(1,1,false),(2,1,false)] parts [.c (.lit (.int .i64 0)),.c (.lit (.int .i64 0)),.c (.lit (.int .i64 0))]):=k9 lx rfl rfl rfl
theorem Xr:fQ Tryz.prog 94 parts K=ru [(0,1,false),(1,1,false),(2,1,false)] [.lit (.int .i64 0),.lit (.int .i64 0),.lit (.int .i64 0)] parts K (iD [(0,1,false),(1,1,false),(2,1,false)] parts [.lit (.int .i64 0),.lit (.int .i64 0),.lit (.int .i64 0)]):=lJ lx rfl rfl rfl
theorem S6:aK Tryz.prog 94 (.c (.rp cs o)) 0 K=K (.c (.rp cs (o+0))):=eP lx rfl (by decide)
theorem N7:aK Tryz.prog 94 (.bp b o) 0 K=K (.bp b (o+0)):=eQ lx rfl (by decide)
theorem S7:aK Tryz.prog 94 (.c (.rp cs o)) 1 K=K (.c (.rp cs (o+1))):=eP lx rfl (by decide)
theorem N8:aK Tryz.prog 94 (.bp b o) 1 K=K (.bp b (o+1)):=eQ lx rfl (by decide)
theorem S8:aK Tryz.prog 94 (.c (.rp cs o)) 2 K=K (.c (.rp cs (o+2))):=eP lx rfl (by decide)
theorem N9:aK Tryz.prog 94 (.bp b o) 2 K=K (.bp b (o+2)):=eQ lx rfl (by decide)
theorem Xs:lj (ti Tryz.prog 94) t q (.bp b o) v ⟨fr,bx,nb⟩ H=(ck (bx b)=false∧stS 3 t q b o v ⟨fr,bx,nb⟩ H):=by rw[lx];exact ix rfl
theorem fU:ti Tryz.prog 97=some { kd:=.arr 16 1,size:=16,bytes:=128,agg:=true,zero:=some [.lit .nilFunc,.lit .nilFunc,.lit .nilFunc,.lit .nilFunc,.lit .nilFunc,.lit .nilFunc,.lit .nilFunc,.lit .nilFunc,.lit .nilFunc,.lit .nilFunc,.lit .nilFunc,.lit .nilFunc,.lit .nilFunc,.lit .nilFunc,.lit .nilFunc,.lit .nilFunc],flds:=[],eqs:=none }:=by kernel_rfl
theorem Xt:VStep Tryz.prog G tr ⟨some d,.alloc 97,ty,pos,af,g⟩ ⟨fr,bx,nb⟩ H=H ⟨up fr d (.bp nb 0),up bx nb (ot 16 (.c (.lit .nilFunc))),nb+1⟩:=jy fU rfl
theorem Xu:lj (ti Tryz.prog 97) t q (.bp b o) v ⟨fr,bx,nb⟩ H=(ck (bx b)=false∧stS 16 t q b o v ⟨fr,bx,nb⟩ H):=by rw[fU];exact ix rfl
theorem UN:zaB Tryz.prog 47=true:=by kernel_rfl
theorem rC:ti Tryz.prog 105=some { kd:=.map 9 47,size:=1,bytes:=8,agg:=false,zero:=some [.lit (.map none)],flds:=[],eqs:=none }:=by kernel_rfl
theorem S9:VStep Tryz.prog G tr ⟨dO,.makeMap 105 none,ty,pos,af,g⟩ ⟨fr,bx,nb⟩ H=H ((⟨fr,up bx nb [.mk [] 0],nb+1⟩:S).put dO (.mr nb)):=wl rC rfl
theorem Ta:cy Tryz.prog 105 ⟨fr,bx,nb⟩ (.bp b o) K=(ck (bx b)=false∧ldB nb b (bx b) o K):=eN rC rfl
theorem Tb:lj (ti Tryz.prog 105) t q (.bp b o) v ⟨fr,bx,nb⟩ H=(ck (bx b)=false∧stS 1 t q b o v ⟨fr,bx,nb⟩ H):=by rw[rC];exact ix rfl
theorem t7:ti Tryz.prog 112=some { kd:=.slice 3,size:=1,bytes:=24,agg:=false,zero:=some [.sl []],flds:=[],eqs:=none }:=by kernel_rfl
theorem Tc:fB Tryz.prog 112 (.c (.sl es)) K=K (.c (.lit (.int .i64 es.length))):=kY t7 rfl
theorem Oa:fB Tryz.prog 112 (.ow E es) K=K (.c (.lit (.int .i64 es.length))):=kZ t7 rfl
theorem Ob:fB Tryz.prog 112 (.ms b o l c z) K=K (.c (.lit (.int .i64 l))):=k5 t7 rfl
theorem Oc:ti Tryz.prog 151=some { kd:=.int .u64,size:=1,bytes:=8,agg:=false,zero:=some [.lit (.int .u64 0)],flds:=[],eqs:=some [.int] }:=by kernel_rfl
theorem Xv:cy Tryz.prog 151 s (.c (.rp cs o)) K=cU false 1 o cs K:=jn Oc rfl rfl
theorem Td:cy Tryz.prog 151 ⟨fr,bx,nb⟩ (.bp b o) K=(ck (bx b)=false∧ldB nb b (bx b) o K):=eN Oc rfl
theorem jp:ti Tryz.prog 154=some { kd:=.struct,size:=5,bytes:=40,agg:=true,zero:=some [.lit (.int .i64 0),.lit (.int .i64 0),.lit (.int .i64 0),.lit (.int .i64 0),.lit (.int .i64 0)],flds:=[(0,1,false),(1,1,false),(2,1,false),(3,1,false),(4,1,false)],eqs:=some [.int,.int,.int,.int,.int] }:=by kernel_rfl
theorem Te:VStep Tryz.prog G tr ⟨some d,.alloc 154,ty,pos,af,g⟩ ⟨fr,bx,nb⟩ H=H ⟨up fr d (.bp nb 0),up bx nb [.c (.lit (.int .i64 0)),.c (.lit (.int .i64 0)),.c (.lit (.int .i64 0)),.c (.lit (.int .i64 0)),.c (.lit (.int .i64 0))],nb+1⟩:=jy jp rfl
theorem Xw (h:cs.length=5):cy Tryz.prog 154 s (.c (.rp cs 0)) K=K (.agg cs):=nT jp rfl h
theorem Tf:cy Tryz.prog 154 ⟨fr,bx,nb⟩ (.bp b o) K=(ck (bx b)=false∧ldA nb b (bx b) o 5 K):=k6 jp rfl rfl
theorem Od:aK Tryz.prog 154 (.c (.rp cs o)) 0 K=K (.c (.rp cs (o+0))):=eP jp rfl (by decide)
theorem JQ:aK Tryz.prog 154 (.bp b o) 0 K=K (.bp b (o+0)):=eQ jp rfl (by decide)
theorem Oe:aK Tryz.prog 154 (.c (.rp cs o)) 1 K=K (.c (.rp cs (o+1))):=eP jp rfl (by decide)
theorem JR:aK Tryz.prog 154 (.bp b o) 1 K=K (.bp b (o+1)):=eQ jp rfl (by decide)
theorem Of:aK Tryz.prog 154 (.c (.rp cs o)) 2 K=K (.c (.rp cs (o+2))):=eP jp rfl (by decide)
theorem JS:aK Tryz.prog 154 (.bp b o) 2 K=K (.bp b (o+2)):=eQ jp rfl (by decide)
theorem Og:aK Tryz.prog 154 (.c (.rp cs o)) 3 K=K (.c (.rp cs (o+3))):=eP jp rfl (by decide)
theorem JU:aK Tryz.prog 154 (.bp b o) 3 K=K (.bp b (o+3)):=eQ jp rfl (by decide)
theorem Oh:aK Tryz.prog 154 (.c (.rp cs o)) 4 K=K (.c (.rp cs (o+4))):=eP jp rfl (by decide)
theorem JV:aK Tryz.prog 154 (.bp b o) 4 K=K (.bp b (o+4)):=eQ jp rfl (by decide)
theorem Tg:lj (ti Tryz.prog 154) t q (.bp b o) v ⟨fr,bx,nb⟩ H=(ck (bx b)=false∧stS 5 t q b o v ⟨fr,bx,nb⟩ H):=by rw[jp];exact ix rfl
theorem mw:ti Tryz.prog 157=some { kd:=.struct,size:=3,bytes:=32,agg:=true,zero:=some [.lit (.string (ByteArray.mk #[])),.lit (.int .i64 0),.lit (.bool false)],flds:=[(0,1,false),(1,1,false),(2,1,false)],eqs:=some [.str,.int,.bool] }:=by kernel_rfl
theorem Ti:VStep Tryz.prog G tr ⟨some d,.alloc 157,ty,pos,af,g⟩ ⟨fr,bx,nb⟩ H=H ⟨up fr d (.bp nb 0),up bx nb [.c (.lit (.string (ByteArray.mk #[]))),.c (.lit (.int .i64 0)),.c (.lit (.bool false))],nb+1⟩:=jy mw rfl
theorem Tj:iE Tryz.prog 157 parts K=oq K (gi [(0,1,false),(1,1,false),(2,1,false)] parts [.c (.lit (.string (ByteArray.mk #[]))),.c (.lit (.int .i64 0)),.c (.lit (.bool false))]):=k9 mw rfl rfl rfl
theorem Tk:fQ Tryz.prog 157 parts K=ru [(0,1,false),(1,1,false),(2,1,false)] [.lit (.string (ByteArray.mk #[])),.lit (.int .i64 0),.lit (.bool false)] parts K (iD [(0,1,false),(1,1,false),(2,1,false)] parts [.lit (.string (ByteArray.mk #[])),.lit (.int .i64 0),.lit (.bool false)]):=lJ mw rfl rfl rfl
theorem Oi:aK Tryz.prog 157 (.c (.rp cs o)) 0 K=K (.c (.rp cs (o+0))):=eP mw rfl (by decide)
theorem JW:aK Tryz.prog 157 (.bp b o) 0 K=K (.bp b (o+0)):=eQ mw rfl (by decide)
theorem Oj:aK Tryz.prog 157 (.c (.rp cs o)) 1 K=K (.c (.rp cs (o+1))):=eP mw rfl (by decide)
theorem JX:aK Tryz.prog 157 (.bp b o) 1 K=K (.bp b (o+1)):=eQ mw rfl (by decide)
theorem Ol:aK Tryz.prog 157 (.c (.rp cs o)) 2 K=K (.c (.rp cs (o+2))):=eP mw rfl (by decide)
theorem JY:aK Tryz.prog 157 (.bp b o) 2 K=K (.bp b (o+2)):=eQ mw rfl (by decide)
theorem Tl:lj (ti Tryz.prog 157) t q (.bp b o) v ⟨fr,bx,nb⟩ H=(ck (bx b)=false∧stS 3 t q b o v ⟨fr,bx,nb⟩ H):=by rw[mw];exact ix rfl
theorem FO:ti Tryz.prog 158=some { kd:=.map 3 157,size:=1,bytes:=8,agg:=false,zero:=some [.lit (.map none)],flds:=[],eqs:=none }:=by kernel_rfl
theorem Tn:VStep Tryz.prog G tr ⟨dO,.makeMap 158 none,ty,pos,af,g⟩ ⟨fr,bx,nb⟩ H=H ((⟨fr,up bx nb [.mk [] 0],nb+1⟩:S).put dO (.mr nb)):=wl FO rfl
theorem Om:zaB Tryz.prog 157=true:=by kernel_rfl
theorem wF:ti Tryz.prog 161=some { kd:=.slice 9,size:=1,bytes:=24,agg:=false,zero:=some [.sl []],flds:=[],eqs:=none }:=by kernel_rfl
theorem To:fB Tryz.prog 161 (.c (.sl es)) K=K (.c (.lit (.int .i64 es.length))):=kY wF rfl
theorem On:fB Tryz.prog 161 (.ow E es) K=K (.c (.lit (.int .i64 es.length))):=kZ wF rfl
theorem Oo:fB Tryz.prog 161 (.ms b o l c z) K=K (.c (.lit (.int .i64 l))):=k5 wF rfl
theorem AQ:ti Tryz.prog 165=some { kd:=.int .u64,size:=1,bytes:=8,agg:=false,zero:=some [.lit (.int .u64 0)],flds:=[],eqs:=some [.int] }:=by kernel_rfl
theorem Tp:VStep Tryz.prog G tr ⟨some d,.alloc 165,ty,pos,af,g⟩ ⟨fr,bx,nb⟩ H=H ⟨up fr d (.bp nb 0),up bx nb [.c (.lit (.int .u64 0))],nb+1⟩:=jy AQ rfl
theorem Xx:cy Tryz.prog 165 s (.c (.rp cs o)) K=cU false 1 o cs K:=jn AQ rfl rfl
theorem Tq:cy Tryz.prog 165 ⟨fr,bx,nb⟩ (.bp b o) K=(ck (bx b)=false∧ldB nb b (bx b) o K):=eN AQ rfl
theorem Tt:lj (ti Tryz.prog 165) t q (.bp b o) v ⟨fr,bx,nb⟩ H=(ck (bx b)=false∧stS 1 t q b o v ⟨fr,bx,nb⟩ H):=by rw[AQ];exact ix rfl
theorem pa:ti Tryz.prog 173=some { kd:=.slice 5,size:=1,bytes:=24,agg:=false,zero:=some [.sl []],flds:=[],eqs:=none }:=by kernel_rfl
theorem Tu:fB Tryz.prog 173 (.c (.sl es)) K=K (.c (.lit (.int .i64 es.length))):=kY pa rfl
theorem Oq:fB Tryz.prog 173 (.ow E es) K=K (.c (.lit (.int .i64 es.length))):=kZ pa rfl
theorem Ot:fB Tryz.prog 173 (.ms b o l c z) K=K (.c (.lit (.int .i64 l))):=k5 pa rfl
theorem Xy:cy Tryz.prog 173 s (.c (.rp cs o)) K=cU false 1 o cs K:=jn pa rfl rfl
theorem Tv:cy Tryz.prog 173 ⟨fr,bx,nb⟩ (.bp b o) K=(ck (bx b)=false∧ldB nb b (bx b) o K):=eN pa rfl
theorem Tw:mn Tryz.prog 173 ⟨fr,bx,nb⟩ (.bp b o) K=(ck (bx b)=false∧ldZ nb b (bx b) o K):=tW pa rfl
theorem Tx:lj (ti Tryz.prog 173) t q (.bp b o) v ⟨fr,bx,nb⟩ H=(ck (bx b)=false∧stS 1 t q b o v ⟨fr,bx,nb⟩ H):=by rw[pa];exact ix rfl
theorem mz:ti Tryz.prog 178=some { kd:=.struct,size:=3,bytes:=24,agg:=true,zero:=some [.lit (.int .i64 0),.lit (.int .i64 0),.lit (.int .i64 0)],flds:=[(0,1,false),(1,1,false),(2,1,false)],eqs:=some [.int,.int,.int] }:=by kernel_rfl
theorem Xz (h:cs.length=3):cy Tryz.prog 178 s (.c (.rp cs 0)) K=K (.agg cs):=nT mz rfl h
theorem Tz:cy Tryz.prog 178 ⟨fr,bx,nb⟩ (.bp b o) K=(ck (bx b)=false∧ldA nb b (bx b) o 3 K):=k6 mz rfl rfl
theorem TA:iE Tryz.prog 178 parts K=oq K (gi [(0,1,false),(1,1,false),(2,1,false)] parts [.c (.lit (.int .i64 0)),.c (.lit (.int .i64 0)),.c (.lit (.int .i64 0))]):=k9 mz rfl rfl rfl
theorem TB:fQ Tryz.prog 178 parts K=ru [(0,1,false),(1,1,false),(2,1,false)] [.lit (.int .i64 0),.lit (.int .i64 0),.lit (.int .i64 0)] parts K (iD [(0,1,false),(1,1,false),(2,1,false)] parts [.lit (.int .i64 0),.lit (.int .i64 0),.lit (.int .i64 0)]):=lJ mz rfl rfl rfl
theorem Ov:aK Tryz.prog 178 (.c (.rp cs o)) 0 K=K (.c (.rp cs (o+0))):=eP mz rfl (by decide)
theorem JZ:aK Tryz.prog 178 (.bp b o) 0 K=K (.bp b (o+0)):=eQ mz rfl (by decide)
theorem Ow:aK Tryz.prog 178 (.c (.rp cs o)) 1 K=K (.c (.rp cs (o+1))):=eP mz rfl (by decide)
theorem J0:aK Tryz.prog 178 (.bp b o) 1 K=K (.bp b (o+1)):=eQ mz rfl (by decide)
theorem Ox:aK Tryz.prog 178 (.c (.rp cs o)) 2 K=K (.c (.rp cs (o+2))):=eP mz rfl (by decide)
theorem J1:aK Tryz.prog 178 (.bp b o) 2 K=K (.bp b (o+2)):=eQ mz rfl (by decide)
theorem XA:ti Tryz.prog 179=some { kd:=.arr 3 3,size:=3,bytes:=24,agg:=true,zero:=some [.lit (.int .i64 0),.lit (.int .i64 0),.lit (.int .i64 0)],flds:=[],eqs:=some [.int,.int,.int] }:=by kernel_rfl
theorem FP:ti Tryz.prog 182=some { kd:=.ptr 184,size:=1,bytes:=8,agg:=false,zero:=some [.lit (.pointer none)],flds:=[],eqs:=none }:=by kernel_rfl
theorem XB:cy Tryz.prog 182 s (.c (.rp cs o)) K=cU false 1 o cs K:=jn FP rfl rfl
theorem TC:cy Tryz.prog 182 ⟨fr,bx,nb⟩ (.bp b o) K=(ck (bx b)=false∧ldB nb b (bx b) o K):=eN FP rfl
theorem TD:lj (ti Tryz.prog 182) t q (.bp b o) v ⟨fr,bx,nb⟩ H=(ck (bx b)=false∧stS 1 t q b o v ⟨fr,bx,nb⟩ H):=by rw[FP];exact ix rfl
theorem wG:ti Tryz.prog 184=some { kd:=.struct,size:=2,bytes:=32,agg:=true,zero:=some [.lit (.pointer none),.sl []],flds:=[(0,1,false),(1,1,false)],eqs:=none }:=by kernel_rfl
theorem TE:VStep Tryz.prog G tr ⟨some d,.alloc 184,ty,pos,af,g⟩ ⟨fr,bx,nb⟩ H=H ⟨up fr d (.bp nb 0),up bx nb [.c (.lit (.pointer none)),.ow none []],nb+1⟩:=jy wG rfl
theorem Oy:aK Tryz.prog 184 (.c (.rp cs o)) 0 K=K (.c (.rp cs (o+0))):=eP wG rfl (by decide)
theorem J2:aK Tryz.prog 184 (.bp b o) 0 K=K (.bp b (o+0)):=eQ wG rfl (by decide)
theorem Oz:aK Tryz.prog 184 (.c (.rp cs o)) 1 K=K (.c (.rp cs (o+1))):=eP wG rfl (by decide)
theorem J3:aK Tryz.prog 184 (.bp b o) 1 K=K (.bp b (o+1)):=eQ wG rfl (by decide)
theorem wH:ti Tryz.prog 198=some { kd:=.slice 178,size:=1,bytes:=24,agg:=false,zero:=some [.sl []],flds:=[],eqs:=none }:=by kernel_rfl
theorem TF:fB Tryz.prog 198 (.c (.sl es)) K=K (.c (.lit (.int .i64 es.length))):=kY wH rfl
theorem OA:fB Tryz.prog 198 (.ow E es) K=K (.c (.lit (.int .i64 es.length))):=kZ wH rfl
theorem OB:fB Tryz.prog 198 (.ms b o l c z) K=K (.c (.lit (.int .i64 l))):=k5 wH rfl
theorem XC:ti Tryz.prog 210=some { kd:=.arr 24 5,size:=24,bytes:=24,agg:=true,zero:=some [.lit (.int .u8 0),.lit (.int .u8 0),.lit (.int .u8 0),.lit (.int .u8 0),.lit (.int .u8 0),.lit (.int .u8 0),.lit (.int .u8 0),.lit (.int .u8 0),.lit (.int .u8 0),.lit (.int .u8 0),.lit (.int .u8 0),.lit (.int .u8 0),.lit (.int .u8 0),.lit (.int .u8 0),.lit (.int .u8 0),.lit (.int .u8 0),.lit (.int .u8 0),.lit (.int .u8 0),.lit (.int .u8 0),.lit (.int .u8 0),.lit (.int .u8 0),.lit (.int .u8 0),.lit (.int .u8 0),.lit (.int .u8 0)],flds:=[],eqs:=some [.int,.int,.int,.int,.int,.int,.int,.int,.int,.int,.int,.int,.int,.int,.int,.int,.int,.int,.int,.int,.int,.int,.int,.int] }:=by kernel_rfl
theorem TG:VStep Tryz.prog G tr ⟨some d,.alloc 210,ty,pos,af,g⟩ ⟨fr,bx,nb⟩ H=H ⟨up fr d (.bp nb 0),up bx nb (ot 24 (.c (.lit (.int .u8 0)))),nb+1⟩:=jy XC rfl
theorem XD:ti Tryz.prog 222=some { kd:=.arr 65 5,size:=65,bytes:=65,agg:=true,zero:=some [.lit (.int .u8 0),.lit (.int .u8 0),.lit (.int .u8 0),.lit (.int .u8 0),.lit (.int .u8 0),.lit (.int .u8 0),.lit (.int .u8 0),.lit (.int .u8 0),.lit (.int .u8 0),.lit (.int .u8 0),.lit (.int .u8 0),.lit (.int .u8 0),.lit (.int .u8 0),.lit (.int .u8 0),.lit (.int .u8 0),.lit (.int .u8 0),.lit (.int .u8 0),.lit (.int .u8 0),.lit (.int .u8 0),.lit (.int .u8 0),.lit (.int .u8 0),.lit (.int .u8 0),.lit (.int .u8 0),.lit (.int .u8 0),.lit (.int .u8 0),.lit (.int .u8 0),.lit (.int .u8 0),.lit (.int .u8 0),.lit (.int .u8 0),.lit (.int .u8 0),.lit (.int .u8 0),.lit (.int .u8 0),.lit (.int .u8 0),.lit (.int .u8 0),.lit (.int .u8 0),.lit (.int .u8 0),.lit (.int .u8 0),.lit (.int .u8 0),.lit (.int .u8 0),.lit (.int .u8 0),.lit (.int .u8 0),.lit (.int .u8 0),.lit (.int .u8 0),.lit (.int .u8 0),.lit (.int .u8 0),.lit (.int .u8 0),.lit (.int .u8 0),.lit (.int .u8 0),.lit (.int .u8 0),.lit (.int .u8 0),.lit (.int .u8 0),.lit (.int .u8 0),.lit (.int .u8 0),.lit (.int .u8 0),.lit (.int .u8 0),.lit (.int .u8 0),.lit (.int .u8 0),.lit (.int .u8 0),.lit (.int .u8 0),.lit (.int .u8 0),.lit (.int .u8 0),.lit (.int .u8 0),.lit (.int .u8 0),.lit (.int .u8 0),.lit (.int .u8 0)],flds:=[],eqs:=some [.int,.int,.int,.int,.int,.int,.int,.int,.int,.int,.int,.int,.int,.int,.int,.int,.int,.int,.int,.int,.int,.int,.int,.int,.int,.int,.int,.int,.int,.int,.int,.int,.int,.int,.int,.int,.int,.int,.int,.int,.int,.int,.int,.int,.int,.int,.int,.int,.int,.int,.int,.int,.int,.int,.int,.int,.int,.int,.int,.int,.int,.int,.int,.int,.int] }:=by kernel_rfl
theorem TJ:VStep Tryz.prog G tr ⟨some d,.alloc 222,ty,pos,af,g⟩ ⟨fr,bx,nb⟩ H=H ⟨up fr d (.bp nb 0),up bx nb (ot 65 (.c (.lit (.int .u8 0)))),nb+1⟩:=jy XD rfl
theorem XE (h:len*3≤16777216):ci Tryz.prog 22 len parts K=u7 56 3 [.lit (.string (ByteArray.mk #[])),.lit (.int .i64 0),.lit (.int .i64 0)] len parts K:=o5 mF rfl jN rfl rfl (by decide) rfl h
theorem XG (h:len*3≤16777216):ci Tryz.prog 23 len parts K=u7 94 3 [.lit (.int .i64 0),.lit (.int .i64 0),.lit (.int .i64 0)] len parts K:=o5 pY rfl lx rfl rfl (by decide) rfl h
theorem XH (h:len*5≤16777216):ci Tryz.prog 27 len parts K=u7 29 5 [.lit (.int .i64 0),.lit (.int .i64 0),.lit (.int .i64 0),.lit (.int .i64 0),.lit (.int .i64 0)] len parts K:=o5 uK rfl ko rfl rfl (by decide) rfl h
theorem XI (h:len*4≤16777216):ci Tryz.prog 32 len parts K=u7 49 4 [.lit (.int .i64 0),.lit (.int .i64 0),.lit (.int .i64 0),.sl []] len parts K:=o5 kO rfl jD rfl rfl (by decide) rfl h
theorem XJ (h:len*3≤16777216):ci Tryz.prog 33 len parts K=u7 47 3 [.lit (.int .i64 0),.lit (.int .i64 0),.sl []] len parts K:=o5 dm rfl dc rfl rfl (by decide) rfl h
theorem XK:dX Tryz.prog 33 (.ow E es) (.c (.sl ys)) K=(((E=none∨E=some (47,3))∧∀ x∈es,x.length=3)∧((es.length+ys.length)*40≤140737488355328∧es.length+ys.length≤9223372036854775807∧∀ x∈ys,x.length=3)∧K (.ow (if ys.isEmpty then E else some (47,3)) (es++ys))):=MX dm rfl dc rfl rfl rfl (by decide) rfl
theorem XL (h:len*3≤16777216):ci Tryz.prog 43 len parts K=u7 62 3 [.lit (.int .i64 0),.lit (.int .i64 0),.lit (.int .i64 0)] len parts K:=o5 lv rfl iY rfl rfl (by decide) rfl h
theorem TK (h:len*1≤16777216):ci Tryz.prog 112 len parts K=u7 3 1 [.lit (.int .i64 0)] len parts K:=o5 t7 rfl xW rfl rfl (by decide) rfl h
theorem TL (h:len*1≤16777216):ci Tryz.prog 161 len parts K=u7 9 1 [.lit (.string (ByteArray.mk #[]))] len parts K:=o5 wF rfl AP rfl rfl (by decide) rfl h
theorem TM:dX Tryz.prog 161 (.ow E es) (.c (.sl ys)) K=(((E=none∨E=some (9,1))∧∀ x∈es,x.length=1)∧((es.length+ys.length)*16≤140737488355328∧es.length+ys.length≤9223372036854775807∧∀ x∈ys,x.length=1)∧K (.ow (if ys.isEmpty then E else some (9,1)) (es++ys))):=MX wF rfl AP rfl rfl rfl (by decide) rfl
theorem TN (h:len*3≤16777216):ci Tryz.prog 198 len parts K=u7 178 3 [.lit (.int .i64 0),.lit (.int .i64 0),.lit (.int .i64 0)] len parts K:=o5 wH rfl mz rfl rfl (by decide) rfl h
def pt0:=jj @aaE (jj @Zi (jj @Zj (jj @aaF (jj @Zk (jj @Zl (jj @aaG (jj @Zm (jj @aaH (jj @Zn (jj @Zo (jj @Zp (jj @aaI (jj @Zq (jj @Wl (jj @Sf (jj @Sg (jj @Zr (jj @Wm (jj @Wn (jj @Wo (jj @Wp (jj @Si (jj @Sj (jj @Zs (jj @Wq (jj @Ws (jj @Wt (jj @Wu (jj @Sk (jj @Sl (jj @Zt (jj @Wv (jj @Ww (jj @Wx (jj @Zu (jj @Wy (jj @Wz (jj @WA @Sm))))))))))))))))))))))))))))))))))))))
def pt1:=jj @ND (jj @So (jj @NE (jj @Sp (jj @NF (jj @Sq (jj @NG (jj @WB (jj @WC (jj @Sr (jj @Ss (jj @WE (jj @Zv (jj @WG (jj @WH (jj @WI (jj @Su (jj @NH (jj @Sv (jj @NI (jj @Sw (jj @NJ (jj @Sx (jj @NK (jj @Sz (jj @NL (jj @WJ (jj @WL (jj @SA (jj @SB (jj @Zw (jj @WM (jj @WN (jj @WO (jj @WP (jj @SC (jj @SD (jj @WQ (jj @Zx @WR))))))))))))))))))))))))))))))))))))))
def pt2:=jj @WS (jj @WT (jj @WU (jj @Zy (jj @WV (jj @WW (jj @WX (jj @SG (jj @NM (jj @SH (jj @NN (jj @SI (jj @NP (jj @SJ (jj @NQ (jj @SK (jj @NR (jj @WY (jj @WZ (jj @Zz (jj @W0 (jj @W1 (jj @W2 (jj @SL (jj @SN (jj @W3 (jj @lw (jj @W4 (jj @W5 (jj @W6 (jj @SO (jj @NS (jj @SQ (jj @NT (jj @SR (jj @NU (jj @W7 (jj @W8 (jj @ZA @W9))))))))))))))))))))))))))))))))))))))
def pt3:=jj @Xa (jj @Xb (jj @SS (jj @NV (jj @SU (jj @NW (jj @Xc (jj @Xd (jj @ZB (jj @Xe (jj @Xf (jj @Xg (jj @SV (jj @NX (jj @SY (jj @NY (jj @SZ (jj @NZ (jj @Xh (jj @ZC (jj @Xi (jj @Xj (jj @Xk (jj @S0 (jj @N1 (jj @S1 (jj @N2 (jj @S2 (jj @N3 (jj @Xl (jj @Xm (jj @Xn (jj @S3 (jj @N4 (jj @S4 (jj @N5 (jj @S5 (jj @N6 (jj @Xo @ZD))))))))))))))))))))))))))))))))))))))
def pt4:=jj @Xp (jj @Xq (jj @Xr (jj @S6 (jj @N7 (jj @S7 (jj @N8 (jj @S8 (jj @N9 (jj @Xs (jj @Xt (jj @Xu (jj @Ta (jj @Tb (jj @Tc (jj @Oa (jj @Ob (jj @Xv (jj @Td (jj @Te (jj @Xw (jj @Tf (jj @Od (jj @JQ (jj @Oe (jj @JR (jj @Of (jj @JS (jj @Og (jj @JU (jj @Oh (jj @JV (jj @Tg (jj @Ti (jj @Tj (jj @Tk (jj @Oi (jj @JW (jj @Oj @JX))))))))))))))))))))))))))))))))))))))
def pt5:=jj @Ol (jj @JY (jj @Tl (jj @To (jj @On (jj @Oo (jj @Tp (jj @Xx (jj @Tq (jj @Tt (jj @Tu (jj @Oq (jj @Ot (jj @Xy (jj @Tv (jj @Tw (jj @Tx (jj @Xz (jj @Tz (jj @TA (jj @TB (jj @Ov (jj @JZ (jj @Ow (jj @J0 (jj @Ox (jj @J1 (jj @XB (jj @TC (jj @TD (jj @TE (jj @Oy (jj @J2 (jj @Oz (jj @J3 (jj @TF (jj @OA (jj @OB (jj @TG @TJ))))))))))))))))))))))))))))))))))))))
def pt6:=jj @XE (jj @XG (jj @XH (jj @XI (jj @XJ (jj @XL (jj @TK (jj @TL @TN)))))))
def ptA:=jj pt0 (jj pt1 (jj pt2 (jj pt3 (jj pt4 (jj pt5 (pt6))))))
