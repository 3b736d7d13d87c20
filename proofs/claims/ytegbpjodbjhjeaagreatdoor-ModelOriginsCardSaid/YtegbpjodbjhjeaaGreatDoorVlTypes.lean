/- The types of the translation, as the framework sees them: closed facts, by the kernel. Printed by vltypes.py. -/
import Derived.Test.YtegbpjodbjhjeaaGreatDoorVlPack
import Derived.Test.YtegbpjodbjhjeaaGreatDoorChecked
import Derived.KernelRfl
set_option linter.all false
namespace Go.Proofs.YtegbpjodbjhjeaaGreatDoor
open Go Go.Vl
variable {G:Gl} {tr:List Nat} {ty:TypeId} {d:Nat} {dO:Option Tmp} {pos:String} {af:Array Edge} {g:Option (Nat×Bool)} {fr:Nat→V} {bx:Nat→List V} {nb:Nat} {H:S→Prop} {s:S} {cs:List C} {o:Nat} {b:Nat} {l c z:Nat} {K:V→Prop} {t q:Option Tmp} {v:V} {x:V} {E:Option (TypeId×Nat)} {es ys:List (List C)} {y:ByteArray} {len:Nat} {parts:List (Nat×V)}
theorem k6:ti Tryz.prog 1=some { kd:=.other,size:=1,bytes:=8,agg:=false,zero:=some [.lit .nilFunc],flds:=[],eqs:=none }:=by kernel_rfl
theorem ade:dy Tryz.prog 1 ⟨fr,bx,nb⟩ (.bp b o) K=(cX (bx b)=false∧ldB nb b (bx b) o K):=gb k6 rfl
theorem D8:ti Tryz.prog 3=some { kd:=.int .i64,size:=1,bytes:=8,agg:=false,zero:=some [.lit (.int .i64 0)],flds:=[],eqs:=some [.int] }:=by kernel_rfl
theorem afL:dy Tryz.prog 3 s (.c (.rp cs o)) K=eB false 1 o cs K:=yP D8 rfl rfl
theorem adf:dy Tryz.prog 3 ⟨fr,bx,nb⟩ (.bp b o) K=(cX (bx b)=false∧ldB nb b (bx b) o K):=gb D8 rfl
theorem adg:og (ti Tryz.prog 3) t q (.bp b o) v ⟨fr,bx,nb⟩ H=(cX (bx b)=false∧stS 1 t q b o v ⟨fr,bx,nb⟩ H):=by rw[D8];exact ku rfl
theorem adh:ti Tryz.prog 4=some { kd:=.bool,size:=1,bytes:=1,agg:=false,zero:=some [.lit (.bool false)],flds:=[],eqs:=some [.bool] }:=by kernel_rfl
theorem adi:dy Tryz.prog 4 ⟨fr,bx,nb⟩ (.bp b o) K=(cX (bx b)=false∧ldB nb b (bx b) o K):=gb adh rfl
theorem ZN:ti Tryz.prog 5=some { kd:=.int .u8,size:=1,bytes:=1,agg:=false,zero:=some [.lit (.int .u8 0)],flds:=[],eqs:=some [.int] }:=by kernel_rfl
theorem afM:dy Tryz.prog 5 s (.c (.rp cs o)) K=eB false 1 o cs K:=yP ZN rfl rfl
theorem D9:ti Tryz.prog 9=some { kd:=.str,size:=1,bytes:=16,agg:=false,zero:=some [.lit (.string (ByteArray.mk #[]))],flds:=[],eqs:=some [.str] }:=by kernel_rfl
theorem adj:lC Tryz.prog 9 (.c (.lit (.string y))) K=K (.c (.lit (.int .i64 y.size))):=QI D9 rfl
theorem afN:dy Tryz.prog 9 s (.c (.rp cs o)) K=eB false 1 o cs K:=yP D9 rfl rfl
theorem adk:dy Tryz.prog 9 ⟨fr,bx,nb⟩ (.bp b o) K=(cX (bx b)=false∧ldB nb b (bx b) o K):=gb D9 rfl
theorem nw:ti Tryz.prog 22=some { kd:=.slice 56,size:=1,bytes:=24,agg:=false,zero:=some [.sl []],flds:=[],eqs:=none }:=by kernel_rfl
theorem ZO:lC Tryz.prog 22 (.c (.sl es)) K=K (.c (.lit (.int .i64 es.length))):=m8 nw rfl
theorem Wk:lC Tryz.prog 22 (.ms b o l c z) K=K (.c (.lit (.int .i64 l))):=KQ nw rfl
theorem ZP:dy Tryz.prog 22 ⟨fr,bx,nb⟩ (.bp b o) K=(cX (bx b)=false∧ldB nb b (bx b) o K):=gb nw rfl
theorem ZQ:og (ti Tryz.prog 22) t q (.bp b o) v ⟨fr,bx,nb⟩ H=(cX (bx b)=false∧stS 1 t q b o v ⟨fr,bx,nb⟩ H):=by rw[nw];exact ku rfl
theorem Aa:ti Tryz.prog 23=some { kd:=.slice 94,size:=1,bytes:=24,agg:=false,zero:=some [.sl []],flds:=[],eqs:=none }:=by kernel_rfl
theorem ZR:lC Tryz.prog 23 (.c (.sl es)) K=K (.c (.lit (.int .i64 es.length))):=m8 Aa rfl
theorem ZS:dy Tryz.prog 23 ⟨fr,bx,nb⟩ (.bp b o) K=(cX (bx b)=false∧ldB nb b (bx b) o K):=gb Aa rfl
theorem ZT:og (ti Tryz.prog 23) t q (.bp b o) v ⟨fr,bx,nb⟩ H=(cX (bx b)=false∧stS 1 t q b o v ⟨fr,bx,nb⟩ H):=by rw[Aa];exact ku rfl
theorem GU:ti Tryz.prog 24=some { kd:=.slice 154,size:=1,bytes:=24,agg:=false,zero:=some [.sl []],flds:=[],eqs:=none }:=by kernel_rfl
theorem ZU:lC Tryz.prog 24 (.c (.sl es)) K=K (.c (.lit (.int .i64 es.length))):=m8 GU rfl
theorem ZV:dy Tryz.prog 24 ⟨fr,bx,nb⟩ (.bp b o) K=(cX (bx b)=false∧ldB nb b (bx b) o K):=gb GU rfl
theorem yd:ti Tryz.prog 26=some { kd:=.struct,size:=4,bytes:=88,agg:=true,zero:=some [.lit (.string (ByteArray.mk #[])),.sl [],.sl [],.sl []],flds:=[(0,1,false),(1,1,false),(2,1,false),(3,1,false)],eqs:=none }:=by kernel_rfl
theorem ZW:VStep Tryz.prog G tr ⟨some d,.alloc 26,ty,pos,af,g⟩ ⟨fr,bx,nb⟩ H=H ⟨up fr d (.bp nb 0),up bx nb [.c (.lit (.string (ByteArray.mk #[]))),.ow none [],.ow none [],.ow none []],nb+1⟩:=nN yd rfl
theorem ZX:dy Tryz.prog 26 ⟨fr,bx,nb⟩ (.bp b o) K=(cX (bx b)=false∧ldA nb b (bx b) o 4 K):=oV yd rfl rfl
theorem ZY:gI Tryz.prog 26 parts K=uB [(0,1,false),(1,1,false),(2,1,false),(3,1,false)] [.lit (.string (ByteArray.mk #[])),.sl [],.sl [],.sl []] parts K (jp [(0,1,false),(1,1,false),(2,1,false),(3,1,false)] parts [.lit (.string (ByteArray.mk #[])),.sl [],.sl [],.sl []]):=mZ yd rfl rfl rfl
theorem Rt:bj Tryz.prog 26 (.bp b o) 0 K=K (.bp b (o+0)):=fw yd rfl (by decide)
theorem Rv:bj Tryz.prog 26 (.bp b o) 1 K=K (.bp b (o+1)):=fw yd rfl (by decide)
theorem Rw:bj Tryz.prog 26 (.bp b o) 2 K=K (.bp b (o+2)):=fw yd rfl (by decide)
theorem Rx:bj Tryz.prog 26 (.bp b o) 3 K=K (.bp b (o+3)):=fw yd rfl (by decide)
theorem ZZ:og (ti Tryz.prog 26) t q (.bp b o) v ⟨fr,bx,nb⟩ H=(cX (bx b)=false∧stS 4 t q b o v ⟨fr,bx,nb⟩ H):=by rw[yd];exact ku rfl
theorem Ry:ti Tryz.prog 27=some { kd:=.slice 29,size:=1,bytes:=24,agg:=false,zero:=some [.sl []],flds:=[],eqs:=none }:=by kernel_rfl
theorem Z0:lC Tryz.prog 27 (.c (.sl es)) K=K (.c (.lit (.int .i64 es.length))):=m8 Ry rfl
theorem rz:ti Tryz.prog 29=some { kd:=.struct,size:=5,bytes:=40,agg:=true,zero:=some [.lit (.int .i64 0),.lit (.int .i64 0),.lit (.int .i64 0),.lit (.int .i64 0),.lit (.int .i64 0)],flds:=[(0,1,false),(1,1,false),(2,1,false),(3,1,false),(4,1,false)],eqs:=some [.int,.int,.int,.int,.int] }:=by kernel_rfl
theorem Z1:VStep Tryz.prog G tr ⟨some d,.alloc 29,ty,pos,af,g⟩ ⟨fr,bx,nb⟩ H=H ⟨up fr d (.bp nb 0),up bx nb [.c (.lit (.int .i64 0)),.c (.lit (.int .i64 0)),.c (.lit (.int .i64 0)),.c (.lit (.int .i64 0)),.c (.lit (.int .i64 0))],nb+1⟩:=nN rz rfl
theorem adl (h:cs.length=5):dy Tryz.prog 29 s (.c (.rp cs 0)) K=K (.agg cs):=sf rz rfl h
theorem Z2:dy Tryz.prog 29 ⟨fr,bx,nb⟩ (.bp b o) K=(cX (bx b)=false∧ldA nb b (bx b) o 5 K):=oV rz rfl rfl
theorem Z3:gI Tryz.prog 29 parts K=uB [(0,1,false),(1,1,false),(2,1,false),(3,1,false),(4,1,false)] [.lit (.int .i64 0),.lit (.int .i64 0),.lit (.int .i64 0),.lit (.int .i64 0),.lit (.int .i64 0)] parts K (jp [(0,1,false),(1,1,false),(2,1,false),(3,1,false),(4,1,false)] parts [.lit (.int .i64 0),.lit (.int .i64 0),.lit (.int .i64 0),.lit (.int .i64 0),.lit (.int .i64 0)]):=mZ rz rfl rfl rfl
theorem Rz:bj Tryz.prog 29 (.bp b o) 0 K=K (.bp b (o+0)):=fw rz rfl (by decide)
theorem RA:bj Tryz.prog 29 (.bp b o) 1 K=K (.bp b (o+1)):=fw rz rfl (by decide)
theorem RB:bj Tryz.prog 29 (.bp b o) 2 K=K (.bp b (o+2)):=fw rz rfl (by decide)
theorem RE:bj Tryz.prog 29 (.bp b o) 3 K=K (.bp b (o+3)):=fw rz rfl (by decide)
theorem RF:bj Tryz.prog 29 (.bp b o) 4 K=K (.bp b (o+4)):=fw rz rfl (by decide)
theorem Z4:og (ti Tryz.prog 29) t q (.bp b o) v ⟨fr,bx,nb⟩ H=(cX (bx b)=false∧stS 5 t q b o v ⟨fr,bx,nb⟩ H):=by rw[rz];exact ku rfl
theorem l6:ti Tryz.prog 32=some { kd:=.slice 49,size:=1,bytes:=24,agg:=false,zero:=some [.sl []],flds:=[],eqs:=none }:=by kernel_rfl
theorem Z5:lC Tryz.prog 32 (.c (.sl es)) K=K (.c (.lit (.int .i64 es.length))):=m8 l6 rfl
theorem Z6:dy Tryz.prog 32 ⟨fr,bx,nb⟩ (.bp b o) K=(cX (bx b)=false∧ldB nb b (bx b) o K):=gb l6 rfl
theorem Z7:og (ti Tryz.prog 32) t q (.bp b o) v ⟨fr,bx,nb⟩ H=(cX (bx b)=false∧stS 1 t q b o v ⟨fr,bx,nb⟩ H):=by rw[l6];exact ku rfl
theorem dq:ti Tryz.prog 33=some { kd:=.slice 47,size:=1,bytes:=24,agg:=false,zero:=some [.sl []],flds:=[],eqs:=none }:=by kernel_rfl
theorem Z8:lC Tryz.prog 33 (.c (.sl es)) K=K (.c (.lit (.int .i64 es.length))):=m8 dq rfl
theorem Z9:VStep Tryz.prog G tr ⟨some d,.alloc 33,ty,pos,af,g⟩ ⟨fr,bx,nb⟩ H=H ⟨up fr d (.bp nb 0),up bx nb [.ow none []],nb+1⟩:=nN dq rfl
theorem adm:dy Tryz.prog 33 s (.c (.rp cs o)) K=eB false 1 o cs K:=yP dq rfl rfl
theorem aaa:dy Tryz.prog 33 ⟨fr,bx,nb⟩ (.bp b o) K=(cX (bx b)=false∧ldB nb b (bx b) o K):=gb dq rfl
theorem aab:og (ti Tryz.prog 33) t q (.bp b o) v ⟨fr,bx,nb⟩ H=(cX (bx b)=false∧stS 1 t q b o v ⟨fr,bx,nb⟩ H):=by rw[dq];exact ku rfl
theorem ud:ti Tryz.prog 35=some { kd:=.struct,size:=5,bytes:=104,agg:=true,zero:=some [.sl [],.sl [],.sl [],.sl [],.lit (.int .i64 0)],flds:=[(0,1,false),(1,1,false),(2,1,false),(3,1,false),(4,1,false)],eqs:=none }:=by kernel_rfl
theorem aac:VStep Tryz.prog G tr ⟨some d,.alloc 35,ty,pos,af,g⟩ ⟨fr,bx,nb⟩ H=H ⟨up fr d (.bp nb 0),up bx nb [.ow none [],.ow none [],.ow none [],.ow none [],.c (.lit (.int .i64 0))],nb+1⟩:=nN ud rfl
theorem aad:dy Tryz.prog 35 ⟨fr,bx,nb⟩ (.bp b o) K=(cX (bx b)=false∧ldA nb b (bx b) o 5 K):=oV ud rfl rfl
theorem aae:gI Tryz.prog 35 parts K=uB [(0,1,false),(1,1,false),(2,1,false),(3,1,false),(4,1,false)] [.sl [],.sl [],.sl [],.sl [],.lit (.int .i64 0)] parts K (jp [(0,1,false),(1,1,false),(2,1,false),(3,1,false),(4,1,false)] parts [.sl [],.sl [],.sl [],.sl [],.lit (.int .i64 0)]):=mZ ud rfl rfl rfl
theorem RG:bj Tryz.prog 35 (.bp b o) 0 K=K (.bp b (o+0)):=fw ud rfl (by decide)
theorem RH:bj Tryz.prog 35 (.bp b o) 1 K=K (.bp b (o+1)):=fw ud rfl (by decide)
theorem RI:bj Tryz.prog 35 (.bp b o) 2 K=K (.bp b (o+2)):=fw ud rfl (by decide)
theorem RJ:bj Tryz.prog 35 (.bp b o) 3 K=K (.bp b (o+3)):=fw ud rfl (by decide)
theorem RL:bj Tryz.prog 35 (.bp b o) 4 K=K (.bp b (o+4)):=fw ud rfl (by decide)
theorem aaf:og (ti Tryz.prog 35) t q (.bp b o) v ⟨fr,bx,nb⟩ H=(cX (bx b)=false∧stS 5 t q b o v ⟨fr,bx,nb⟩ H):=by rw[ud];exact ku rfl
theorem mz:ti Tryz.prog 36=some { kd:=.int .i64,size:=1,bytes:=8,agg:=false,zero:=some [.lit (.int .i64 0)],flds:=[],eqs:=some [.int] }:=by kernel_rfl
theorem aag:VStep Tryz.prog G tr ⟨some d,.alloc 36,ty,pos,af,g⟩ ⟨fr,bx,nb⟩ H=H ⟨up fr d (.bp nb 0),up bx nb [.c (.lit (.int .i64 0))],nb+1⟩:=nN mz rfl
theorem aah:og (ti Tryz.prog 36) t q (.bp b o) v ⟨fr,bx,nb⟩ H=(cX (bx b)=false∧stS 1 t q b o v ⟨fr,bx,nb⟩ H):=by rw[mz];exact ku rfl
theorem ny:ti Tryz.prog 43=some { kd:=.slice 62,size:=1,bytes:=24,agg:=false,zero:=some [.sl []],flds:=[],eqs:=none }:=by kernel_rfl
theorem aai:lC Tryz.prog 43 (.c (.sl es)) K=K (.c (.lit (.int .i64 es.length))):=m8 ny rfl
theorem Wl:lC Tryz.prog 43 (.ms b o l c z) K=K (.c (.lit (.int .i64 l))):=KQ ny rfl
theorem di:ti Tryz.prog 47=some { kd:=.struct,size:=3,bytes:=40,agg:=true,zero:=some [.lit (.int .i64 0),.lit (.int .i64 0),.sl []],flds:=[(0,1,false),(1,1,false),(2,1,false)],eqs:=none }:=by kernel_rfl
theorem aaj:VStep Tryz.prog G tr ⟨some d,.alloc 47,ty,pos,af,g⟩ ⟨fr,bx,nb⟩ H=H ⟨up fr d (.bp nb 0),up bx nb [.c (.lit (.int .i64 0)),.c (.lit (.int .i64 0)),.ow none []],nb+1⟩:=nN di rfl
theorem jT (h:cs.length=3):dy Tryz.prog 47 s (.c (.rp cs 0)) K=K (.agg cs):=sf di rfl h
theorem aak:dy Tryz.prog 47 ⟨fr,bx,nb⟩ (.bp b o) K=(cX (bx b)=false∧ldA nb b (bx b) o 3 K):=oV di rfl rfl
theorem aal:gI Tryz.prog 47 parts K=uB [(0,1,false),(1,1,false),(2,1,false)] [.lit (.int .i64 0),.lit (.int .i64 0),.sl []] parts K (jp [(0,1,false),(1,1,false),(2,1,false)] parts [.lit (.int .i64 0),.lit (.int .i64 0),.sl []]):=mZ di rfl rfl rfl
theorem Wm:bj Tryz.prog 47 (.c (.rp cs o)) 0 K=K (.c (.rp cs (o+0))):=sg di rfl (by decide)
theorem RN:bj Tryz.prog 47 (.bp b o) 0 K=K (.bp b (o+0)):=fw di rfl (by decide)
theorem RO:bj Tryz.prog 47 (.bp b o) 1 K=K (.bp b (o+1)):=fw di rfl (by decide)
theorem Wn:bj Tryz.prog 47 (.c (.rp cs o)) 2 K=K (.c (.rp cs (o+2))):=sg di rfl (by decide)
theorem RP:bj Tryz.prog 47 (.bp b o) 2 K=K (.bp b (o+2)):=fw di rfl (by decide)
theorem aam:og (ti Tryz.prog 47) t q (.bp b o) v ⟨fr,bx,nb⟩ H=(cX (bx b)=false∧stS 3 t q b o v ⟨fr,bx,nb⟩ H):=by rw[di];exact ku rfl
theorem jU:ti Tryz.prog 49=some { kd:=.struct,size:=4,bytes:=48,agg:=true,zero:=some [.lit (.int .i64 0),.lit (.int .i64 0),.lit (.int .i64 0),.sl []],flds:=[(0,1,false),(1,3,true)],eqs:=none }:=by kernel_rfl
theorem aan:VStep Tryz.prog G tr ⟨some d,.alloc 49,ty,pos,af,g⟩ ⟨fr,bx,nb⟩ H=H ⟨up fr d (.bp nb 0),up bx nb [.c (.lit (.int .i64 0)),.c (.lit (.int .i64 0)),.c (.lit (.int .i64 0)),.ow none []],nb+1⟩:=nN jU rfl
theorem adn (h:cs.length=4):dy Tryz.prog 49 s (.c (.rp cs 0)) K=K (.agg cs):=sf jU rfl h
theorem aao:dy Tryz.prog 49 ⟨fr,bx,nb⟩ (.bp b o) K=(cX (bx b)=false∧ldA nb b (bx b) o 4 K):=oV jU rfl rfl
theorem aap:gI Tryz.prog 49 parts K=uB [(0,1,false),(1,3,true)] [.lit (.int .i64 0),.lit (.int .i64 0),.lit (.int .i64 0),.sl []] parts K (jp [(0,1,false),(1,3,true)] parts [.lit (.int .i64 0),.lit (.int .i64 0),.lit (.int .i64 0),.sl []]):=mZ jU rfl rfl rfl
theorem Wo:bj Tryz.prog 49 (.c (.rp cs o)) 0 K=K (.c (.rp cs (o+0))):=sg jU rfl (by decide)
theorem RQ:bj Tryz.prog 49 (.bp b o) 0 K=K (.bp b (o+0)):=fw jU rfl (by decide)
theorem Wp:bj Tryz.prog 49 (.c (.rp cs o)) 1 K=K (.c (.rp cs (o+1))):=sg jU rfl (by decide)
theorem RR:bj Tryz.prog 49 (.bp b o) 1 K=K (.bp b (o+1)):=fw jU rfl (by decide)
theorem aaq:og (ti Tryz.prog 49) t q (.bp b o) v ⟨fr,bx,nb⟩ H=(cX (bx b)=false∧stS 4 t q b o v ⟨fr,bx,nb⟩ H):=by rw[jU];exact ku rfl
theorem kM:ti Tryz.prog 56=some { kd:=.struct,size:=3,bytes:=32,agg:=true,zero:=some [.lit (.string (ByteArray.mk #[])),.lit (.int .i64 0),.lit (.int .i64 0)],flds:=[(0,1,false),(1,1,false),(2,1,false)],eqs:=some [.str,.int,.int] }:=by kernel_rfl
theorem aar:VStep Tryz.prog G tr ⟨some d,.alloc 56,ty,pos,af,g⟩ ⟨fr,bx,nb⟩ H=H ⟨up fr d (.bp nb 0),up bx nb [.c (.lit (.string (ByteArray.mk #[]))),.c (.lit (.int .i64 0)),.c (.lit (.int .i64 0))],nb+1⟩:=nN kM rfl
theorem ado (h:cs.length=3):dy Tryz.prog 56 s (.c (.rp cs 0)) K=K (.agg cs):=sf kM rfl h
theorem aas:gI Tryz.prog 56 parts K=uB [(0,1,false),(1,1,false),(2,1,false)] [.lit (.string (ByteArray.mk #[])),.lit (.int .i64 0),.lit (.int .i64 0)] parts K (jp [(0,1,false),(1,1,false),(2,1,false)] parts [.lit (.string (ByteArray.mk #[])),.lit (.int .i64 0),.lit (.int .i64 0)]):=mZ kM rfl rfl rfl
theorem Wq:bj Tryz.prog 56 (.c (.rp cs o)) 0 K=K (.c (.rp cs (o+0))):=sg kM rfl (by decide)
theorem RS:bj Tryz.prog 56 (.bp b o) 0 K=K (.bp b (o+0)):=fw kM rfl (by decide)
theorem Ws:bj Tryz.prog 56 (.c (.rp cs o)) 1 K=K (.c (.rp cs (o+1))):=sg kM rfl (by decide)
theorem RU:bj Tryz.prog 56 (.bp b o) 1 K=K (.bp b (o+1)):=fw kM rfl (by decide)
theorem Wt:bj Tryz.prog 56 (.c (.rp cs o)) 2 K=K (.c (.rp cs (o+2))):=sg kM rfl (by decide)
theorem RV:bj Tryz.prog 56 (.bp b o) 2 K=K (.bp b (o+2)):=fw kM rfl (by decide)
theorem aat:og (ti Tryz.prog 56) t q (.bp b o) v ⟨fr,bx,nb⟩ H=(cX (bx b)=false∧stS 3 t q b o v ⟨fr,bx,nb⟩ H):=by rw[kM];exact ku rfl
theorem kB:ti Tryz.prog 62=some { kd:=.struct,size:=3,bytes:=24,agg:=true,zero:=some [.lit (.int .i64 0),.lit (.int .i64 0),.lit (.int .i64 0)],flds:=[(0,1,false),(1,1,false),(2,1,false)],eqs:=some [.int,.int,.int] }:=by kernel_rfl
theorem adp (h:cs.length=3):dy Tryz.prog 62 s (.c (.rp cs 0)) K=K (.agg cs):=sf kB rfl h
theorem aau:dy Tryz.prog 62 ⟨fr,bx,nb⟩ (.bp b o) K=(cX (bx b)=false∧ldA nb b (bx b) o 3 K):=oV kB rfl rfl
theorem aav:gI Tryz.prog 62 parts K=uB [(0,1,false),(1,1,false),(2,1,false)] [.lit (.int .i64 0),.lit (.int .i64 0),.lit (.int .i64 0)] parts K (jp [(0,1,false),(1,1,false),(2,1,false)] parts [.lit (.int .i64 0),.lit (.int .i64 0),.lit (.int .i64 0)]):=mZ kB rfl rfl rfl
theorem RX:bj Tryz.prog 62 (.bp b o) 0 K=K (.bp b (o+0)):=fw kB rfl (by decide)
theorem RY:bj Tryz.prog 62 (.bp b o) 1 K=K (.bp b (o+1)):=fw kB rfl (by decide)
theorem RZ:bj Tryz.prog 62 (.bp b o) 2 K=K (.bp b (o+2)):=fw kB rfl (by decide)
theorem aaw:og (ti Tryz.prog 62) t q (.bp b o) v ⟨fr,bx,nb⟩ H=(cX (bx b)=false∧stS 3 t q b o v ⟨fr,bx,nb⟩ H):=by rw[kB];exact ku rfl
theorem La:ti Tryz.prog 67=some { kd:=.struct,size:=14,bytes:=232,agg:=true,zero:=some [.lit (.string (ByteArray.mk #[])),.sl [],.sl [],.sl [],.sl [],.sl [],.sl [],.sl [],.lit (.int .i64 0),.lit (.int .i64 0),.lit (.int .i64 0),.lit (.int .i64 0),.lit (.int .i64 0),.lit (.int .i64 0)],flds:=[(0,4,true),(4,5,true),(9,5,true)],eqs:=none }:=by kernel_rfl
theorem aax:gI Tryz.prog 67 parts K=uB [(0,4,true),(4,5,true),(9,5,true)] [.lit (.string (ByteArray.mk #[])),.sl [],.sl [],.sl [],.sl [],.sl [],.sl [],.sl [],.lit (.int .i64 0),.lit (.int .i64 0),.lit (.int .i64 0),.lit (.int .i64 0),.lit (.int .i64 0),.lit (.int .i64 0)] parts K (jp [(0,4,true),(4,5,true),(9,5,true)] parts [.lit (.string (ByteArray.mk #[])),.sl [],.sl [],.sl [],.sl [],.sl [],.sl [],.sl [],.lit (.int .i64 0),.lit (.int .i64 0),.lit (.int .i64 0),.lit (.int .i64 0),.lit (.int .i64 0),.lit (.int .i64 0)]):=mZ La rfl rfl rfl
theorem R1:bj Tryz.prog 67 (.bp b o) 0 K=K (.bp b (o+0)):=fw La rfl (by decide)
theorem R7:bj Tryz.prog 67 (.bp b o) 1 K=K (.bp b (o+4)):=fw La rfl (by decide)
theorem R9:bj Tryz.prog 67 (.bp b o) 2 K=K (.bp b (o+9)):=fw La rfl (by decide)
theorem nV:ti Tryz.prog 94=some { kd:=.struct,size:=3,bytes:=24,agg:=true,zero:=some [.lit (.int .i64 0),.lit (.int .i64 0),.lit (.int .i64 0)],flds:=[(0,1,false),(1,1,false),(2,1,false)],eqs:=some [.int,.int,.int] }:=by kernel_rfl
theorem aay:VStep Tryz.prog G tr ⟨some d,.alloc 94,ty,pos,af,g⟩ ⟨fr,bx,nb⟩ H=H ⟨up fr d (.bp nb 0),up bx nb [.c (.lit (.int .i64 0)),.c (.lit (.int .i64 0)),.c (.lit (.int .i64 0))],nb+1⟩:=nN nV rfl
theorem adq (h:cs.length=3):dy Tryz.prog 94 s (.c (.rp cs 0)) K=K (.agg cs):=sf nV rfl h
theorem aaz:dy Tryz.prog 94 ⟨fr,bx,nb⟩ (.bp b o) K=(cX (bx b)=false∧ldA nb b (bx b) o 3 K):=oV nV rfl rfl
theorem aaA:gI Tryz.prog 94 parts K=uB [(0,1,false),(1,1,false),(2,1,false)] [.lit (.int .i64 0),.lit (.int .i64 0),.lit (.int .i64 0)] parts K (jp [(0,1,false),(1,1,false),(2,1,false)] parts [.lit (.int .i64 0),.lit (.int .i64 0),.lit (.int .i64 0)]):=mZ nV rfl rfl rfl
theorem Wu:bj Tryz.prog 94 (.c (.rp cs o)) 0 K=K (.c (.rp cs (o+0))):=sg nV rfl (by decide)
theorem Sa:bj Tryz.prog 94 (.bp b o) 0 K=K (.bp b (o+0)):=fw nV rfl (by decide)
theorem Wv:bj Tryz.prog 94 (.c (.rp cs o)) 1 K=K (.c (.rp cs (o+1))):=sg nV rfl (by decide)
theorem Sb:bj Tryz.prog 94 (.bp b o) 1 K=K (.bp b (o+1)):=fw nV rfl (by decide)
theorem Ww:bj Tryz.prog 94 (.c (.rp cs o)) 2 K=K (.c (.rp cs (o+2))):=sg nV rfl (by decide)
theorem Sc:bj Tryz.prog 94 (.bp b o) 2 K=K (.bp b (o+2)):=fw nV rfl (by decide)
theorem aaB:og (ti Tryz.prog 94) t q (.bp b o) v ⟨fr,bx,nb⟩ H=(cX (bx b)=false∧stS 3 t q b o v ⟨fr,bx,nb⟩ H):=by rw[nV];exact ku rfl
theorem gP:ti Tryz.prog 97=some { kd:=.arr 16 1,size:=16,bytes:=128,agg:=true,zero:=some [.lit .nilFunc,.lit .nilFunc,.lit .nilFunc,.lit .nilFunc,.lit .nilFunc,.lit .nilFunc,.lit .nilFunc,.lit .nilFunc,.lit .nilFunc,.lit .nilFunc,.lit .nilFunc,.lit .nilFunc,.lit .nilFunc,.lit .nilFunc,.lit .nilFunc,.lit .nilFunc],flds:=[],eqs:=none }:=by kernel_rfl
theorem aaC:VStep Tryz.prog G tr ⟨some d,.alloc 97,ty,pos,af,g⟩ ⟨fr,bx,nb⟩ H=H ⟨up fr d (.bp nb 0),up bx nb (rK 16 (.c (.lit .nilFunc))),nb+1⟩:=nN gP rfl
theorem aaD:og (ti Tryz.prog 97) t q (.bp b o) v ⟨fr,bx,nb⟩ H=(cX (bx b)=false∧stS 16 t q b o v ⟨fr,bx,nb⟩ H):=by rw[gP];exact ku rfl
theorem Yb:zaB Tryz.prog 47=true:=by kernel_rfl
theorem uH:ti Tryz.prog 105=some { kd:=.map 9 47,size:=1,bytes:=8,agg:=false,zero:=some [.lit (.map none)],flds:=[],eqs:=none }:=by kernel_rfl
theorem Wx:VStep Tryz.prog G tr ⟨dO,.makeMap 105 none,ty,pos,af,g⟩ ⟨fr,bx,nb⟩ H=H ((⟨fr,up bx nb [.mk [] 0],nb+1⟩:S).put dO (.mr nb)):=zM uH rfl
theorem Wy:dy Tryz.prog 105 ⟨fr,bx,nb⟩ (.bp b o) K=(cX (bx b)=false∧ldB nb b (bx b) o K):=gb uH rfl
theorem Wz:og (ti Tryz.prog 105) t q (.bp b o) v ⟨fr,bx,nb⟩ H=(cX (bx b)=false∧stS 1 t q b o v ⟨fr,bx,nb⟩ H):=by rw[uH];exact ku rfl
theorem Ea:ti Tryz.prog 112=some { kd:=.slice 3,size:=1,bytes:=24,agg:=false,zero:=some [.sl []],flds:=[],eqs:=none }:=by kernel_rfl
theorem WA:lC Tryz.prog 112 (.c (.sl es)) K=K (.c (.lit (.int .i64 es.length))):=m8 Ea rfl
theorem nO:ti Tryz.prog 154=some { kd:=.struct,size:=5,bytes:=40,agg:=true,zero:=some [.lit (.int .i64 0),.lit (.int .i64 0),.lit (.int .i64 0),.lit (.int .i64 0),.lit (.int .i64 0)],flds:=[(0,1,false),(1,1,false),(2,1,false),(3,1,false),(4,1,false)],eqs:=some [.int,.int,.int,.int,.int] }:=by kernel_rfl
theorem WB:VStep Tryz.prog G tr ⟨some d,.alloc 154,ty,pos,af,g⟩ ⟨fr,bx,nb⟩ H=H ⟨up fr d (.bp nb 0),up bx nb [.c (.lit (.int .i64 0)),.c (.lit (.int .i64 0)),.c (.lit (.int .i64 0)),.c (.lit (.int .i64 0)),.c (.lit (.int .i64 0))],nb+1⟩:=nN nO rfl
theorem aaE (h:cs.length=5):dy Tryz.prog 154 s (.c (.rp cs 0)) K=K (.agg cs):=sf nO rfl h
theorem Se:bj Tryz.prog 154 (.c (.rp cs o)) 0 K=K (.c (.rp cs (o+0))):=sg nO rfl (by decide)
theorem NV:bj Tryz.prog 154 (.bp b o) 0 K=K (.bp b (o+0)):=fw nO rfl (by decide)
theorem NW:bj Tryz.prog 154 (.bp b o) 1 K=K (.bp b (o+1)):=fw nO rfl (by decide)
theorem NX:bj Tryz.prog 154 (.bp b o) 2 K=K (.bp b (o+2)):=fw nO rfl (by decide)
theorem NY:bj Tryz.prog 154 (.bp b o) 3 K=K (.bp b (o+3)):=fw nO rfl (by decide)
theorem NZ:bj Tryz.prog 154 (.bp b o) 4 K=K (.bp b (o+4)):=fw nO rfl (by decide)
theorem WC:og (ti Tryz.prog 154) t q (.bp b o) v ⟨fr,bx,nb⟩ H=(cX (bx b)=false∧stS 5 t q b o v ⟨fr,bx,nb⟩ H):=by rw[nO];exact ku rfl
theorem uI:ti Tryz.prog 157=some { kd:=.struct,size:=3,bytes:=32,agg:=true,zero:=some [.lit (.string (ByteArray.mk #[])),.lit (.int .i64 0),.lit (.bool false)],flds:=[(0,1,false),(1,1,false),(2,1,false)],eqs:=some [.str,.int,.bool] }:=by kernel_rfl
theorem WE:gI Tryz.prog 157 parts K=uB [(0,1,false),(1,1,false),(2,1,false)] [.lit (.string (ByteArray.mk #[])),.lit (.int .i64 0),.lit (.bool false)] parts K (jp [(0,1,false),(1,1,false),(2,1,false)] parts [.lit (.string (ByteArray.mk #[])),.lit (.int .i64 0),.lit (.bool false)]):=mZ uI rfl rfl rfl
theorem N1:bj Tryz.prog 157 (.bp b o) 0 K=K (.bp b (o+0)):=fw uI rfl (by decide)
theorem N2:bj Tryz.prog 157 (.bp b o) 1 K=K (.bp b (o+1)):=fw uI rfl (by decide)
theorem N3:bj Tryz.prog 157 (.bp b o) 2 K=K (.bp b (o+2)):=fw uI rfl (by decide)
theorem WG:og (ti Tryz.prog 157) t q (.bp b o) v ⟨fr,bx,nb⟩ H=(cX (bx b)=false∧stS 3 t q b o v ⟨fr,bx,nb⟩ H):=by rw[uI];exact ku rfl
theorem Ju:ti Tryz.prog 158=some { kd:=.map 3 157,size:=1,bytes:=8,agg:=false,zero:=some [.lit (.map none)],flds:=[],eqs:=none }:=by kernel_rfl
theorem WH:VStep Tryz.prog G tr ⟨dO,.makeMap 158 none,ty,pos,af,g⟩ ⟨fr,bx,nb⟩ H=H ((⟨fr,up bx nb [.mk [] 0],nb+1⟩:S).put dO (.mr nb)):=zM Ju rfl
theorem Sf:zaB Tryz.prog 157=true:=by kernel_rfl
theorem Sg:ti Tryz.prog 161=some { kd:=.slice 9,size:=1,bytes:=24,agg:=false,zero:=some [.sl []],flds:=[],eqs:=none }:=by kernel_rfl
theorem Jv:ti Tryz.prog 173=some { kd:=.slice 5,size:=1,bytes:=24,agg:=false,zero:=some [.sl []],flds:=[],eqs:=none }:=by kernel_rfl
theorem WI:lC Tryz.prog 173 (.c (.sl es)) K=K (.c (.lit (.int .i64 es.length))):=m8 Jv rfl
theorem uJ:ti Tryz.prog 178=some { kd:=.struct,size:=3,bytes:=24,agg:=true,zero:=some [.lit (.int .i64 0),.lit (.int .i64 0),.lit (.int .i64 0)],flds:=[(0,1,false),(1,1,false),(2,1,false)],eqs:=some [.int,.int,.int] }:=by kernel_rfl
theorem aaF (h:cs.length=3):dy Tryz.prog 178 s (.c (.rp cs 0)) K=K (.agg cs):=sf uJ rfl h
theorem WJ:gI Tryz.prog 178 parts K=uB [(0,1,false),(1,1,false),(2,1,false)] [.lit (.int .i64 0),.lit (.int .i64 0),.lit (.int .i64 0)] parts K (jp [(0,1,false),(1,1,false),(2,1,false)] parts [.lit (.int .i64 0),.lit (.int .i64 0),.lit (.int .i64 0)]):=mZ uJ rfl rfl rfl
theorem N4:bj Tryz.prog 178 (.bp b o) 0 K=K (.bp b (o+0)):=fw uJ rfl (by decide)
theorem N5:bj Tryz.prog 178 (.bp b o) 1 K=K (.bp b (o+1)):=fw uJ rfl (by decide)
theorem N6:bj Tryz.prog 178 (.bp b o) 2 K=K (.bp b (o+2)):=fw uJ rfl (by decide)
theorem aaG:ti Tryz.prog 179=some { kd:=.arr 3 3,size:=3,bytes:=24,agg:=true,zero:=some [.lit (.int .i64 0),.lit (.int .i64 0),.lit (.int .i64 0)],flds:=[],eqs:=some [.int,.int,.int] }:=by kernel_rfl
theorem Jw:ti Tryz.prog 198=some { kd:=.slice 178,size:=1,bytes:=24,agg:=false,zero:=some [.sl []],flds:=[],eqs:=none }:=by kernel_rfl
theorem WL:lC Tryz.prog 198 (.c (.sl es)) K=K (.c (.lit (.int .i64 es.length))):=m8 Jw rfl
theorem aaH (h:len*3≤16777216):cy Tryz.prog 22 len parts K=yA 56 3 [.lit (.string (ByteArray.mk #[])),.lit (.int .i64 0),.lit (.int .i64 0)] len parts K:=qT nw rfl kM rfl rfl (by decide) rfl h
theorem aaI (h:len*3≤16777216):cy Tryz.prog 23 len parts K=yA 94 3 [.lit (.int .i64 0),.lit (.int .i64 0),.lit (.int .i64 0)] len parts K:=qT Aa rfl nV rfl rfl (by decide) rfl h
theorem aaJ (h:len*5≤16777216):cy Tryz.prog 27 len parts K=yA 29 5 [.lit (.int .i64 0),.lit (.int .i64 0),.lit (.int .i64 0),.lit (.int .i64 0),.lit (.int .i64 0)] len parts K:=qT Ry rfl rz rfl rfl (by decide) rfl h
theorem aaK (h:len*4≤16777216):cy Tryz.prog 32 len parts K=yA 49 4 [.lit (.int .i64 0),.lit (.int .i64 0),.lit (.int .i64 0),.sl []] len parts K:=qT l6 rfl jU rfl rfl (by decide) rfl h
theorem aaL (h:len*3≤16777216):cy Tryz.prog 33 len parts K=yA 47 3 [.lit (.int .i64 0),.lit (.int .i64 0),.sl []] len parts K:=qT dq rfl di rfl rfl (by decide) rfl h
theorem aaM:dX Tryz.prog 33 (.ow E es) (.c (.sl ys)) K=(((E=none∨E=some (47,3))∧∀ x∈es,x.length=3)∧((es.length+ys.length)*40≤140737488355328∧es.length+ys.length≤9223372036854775807∧∀ x∈ys,x.length=3)∧K (.ow (if ys.isEmpty then E else some (47,3)) (es++ys))):=QT dq rfl di rfl rfl rfl (by decide) rfl
theorem aaN (h:len*3≤16777216):cy Tryz.prog 43 len parts K=yA 62 3 [.lit (.int .i64 0),.lit (.int .i64 0),.lit (.int .i64 0)] len parts K:=qT ny rfl kB rfl rfl (by decide) rfl h
theorem WM (h:len*1≤16777216):cy Tryz.prog 112 len parts K=yA 3 1 [.lit (.int .i64 0)] len parts K:=qT Ea rfl D8 rfl rfl (by decide) rfl h
theorem WN (h:len*1≤16777216):cy Tryz.prog 161 len parts K=yA 9 1 [.lit (.string (ByteArray.mk #[]))] len parts K:=qT Sg rfl D9 rfl rfl (by decide) rfl h
theorem WO:dX Tryz.prog 161 (.ow E es) (.c (.sl ys)) K=(((E=none∨E=some (9,1))∧∀ x∈es,x.length=1)∧((es.length+ys.length)*16≤140737488355328∧es.length+ys.length≤9223372036854775807∧∀ x∈ys,x.length=1)∧K (.ow (if ys.isEmpty then E else some (9,1)) (es++ys))):=QT Sg rfl D9 rfl rfl rfl (by decide) rfl
theorem WP (h:len*3≤16777216):cy Tryz.prog 198 len parts K=yA 178 3 [.lit (.int .i64 0),.lit (.int .i64 0),.lit (.int .i64 0)] len parts K:=qT Jw rfl uJ rfl rfl (by decide) rfl h
def pt0:=jj @ade (jj @afL (jj @adf (jj @adg (jj @adi (jj @afM (jj @adj (jj @afN (jj @adk (jj @ZO (jj @Wk (jj @ZP (jj @ZQ (jj @ZR (jj @ZS (jj @ZT (jj @ZU (jj @ZV (jj @ZW (jj @ZX @ZY)))))))))))))))))))
def pt1:=jj @Rt (jj @Rv (jj @Rw (jj @Rx (jj @ZZ (jj @Z0 (jj @Z1 (jj @adl (jj @Z2 (jj @Z3 (jj @Rz (jj @RA (jj @RB (jj @RE (jj @RF (jj @Z4 (jj @Z5 (jj @Z6 (jj @Z7 (jj @Z8 (jj @Z9 (jj @adm @aaa)))))))))))))))))))))
def pt2:=jj @aab (jj @aac (jj @aad (jj @aae (jj @RG (jj @RH (jj @RI (jj @RJ (jj @RL (jj @aaf (jj @aag (jj @aah (jj @aai (jj @Wl (jj @aaj (jj @jT (jj @aak (jj @aal (jj @Wm (jj @RN (jj @RO (jj @Wn (jj @RP (jj @aam (jj @aan (jj @adn @aao)))))))))))))))))))))))))
def pt3:=jj @aap (jj @Wo (jj @RQ (jj @Wp (jj @RR (jj @aaq (jj @aar (jj @ado (jj @aas (jj @Wq (jj @RS (jj @Ws (jj @RU (jj @Wt (jj @RV (jj @aat (jj @adp (jj @aau (jj @aav (jj @RX (jj @RY (jj @RZ (jj @aaw (jj @aax (jj @R1 (jj @R7 (jj @R9 (jj @aay @adq)))))))))))))))))))))))))))
def pt4:=jj @aaz (jj @aaA (jj @Wu (jj @Sa (jj @Wv (jj @Sb (jj @Ww (jj @Sc (jj @aaB (jj @aaC (jj @aaD (jj @Wy (jj @Wz (jj @WA (jj @WB (jj @aaE (jj @Se (jj @NV (jj @NW (jj @NX (jj @NY (jj @NZ (jj @WC (jj @WE (jj @N1 @N2))))))))))))))))))))))))
def pt5:=jj @N3 (jj @WG (jj @WI (jj @aaF (jj @WJ (jj @N4 (jj @N5 (jj @N6 @WL)))))))
def pt6:=jj @aaH (jj @aaI (jj @aaJ (jj @aaK (jj @aaL (jj @aaN (jj @WM (jj @WN @WP)))))))
def ptA:=jj pt0 (jj pt1 (jj pt2 (jj pt3 (jj pt4 (jj pt5 (pt6))))))
