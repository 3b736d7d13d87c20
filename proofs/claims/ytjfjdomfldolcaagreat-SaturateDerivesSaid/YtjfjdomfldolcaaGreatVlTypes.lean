/- The types of the translation, as the framework sees them: closed facts, by the kernel. Printed by vltypes.py. -/
import Derived.Test.YtjfjdomfldolcaaGreatVlPack
import Derived.Test.YtjfjdomfldolcaaGreatChecked
import Derived.KernelRfl
set_option linter.all false
namespace Go.Proofs.YtjfjdomfldolcaaGreat
open Go Go.Vl
variable {G:Gl} {tr:List Nat} {ty:TypeId} {d:Nat} {dO:Option Tmp} {pos:String} {af:Array Edge} {g:Option (Nat×Bool)} {fr:Nat→V} {bx:Nat→List V} {nb:Nat} {H:S→Prop} {s:S} {cs:List C} {o:Nat} {b:Nat} {l c z:Nat} {K:V→Prop} {t q:Option Tmp} {v:V} {x:V} {E:Option (TypeId×Nat)} {es ys:List (List C)} {y:ByteArray} {len:Nat} {parts:List (Nat×V)}
theorem rS:ti Tryz.prog 3=some { kd:=.int .i64,size:=1,bytes:=8,agg:=false,zero:=some [.lit (.int .i64 0)],flds:=[],eqs:=some [.int] }:=by kernel_rfl
theorem ahB:VStep Tryz.prog G tr ⟨some d,.alloc 3,ty,pos,af,g⟩ ⟨fr,bx,nb⟩ H=H ⟨up fr d (.bp nb 0),up bx nb [.c (.lit (.int .i64 0))],nb+1⟩:=oL rS rfl
theorem akf:dh Tryz.prog 3 s (.c (.rp cs o)) K=dC false 1 o cs K:=jM rS rfl rfl
theorem ahC:dh Tryz.prog 3 ⟨fr,bx,nb⟩ (.bp b o) K=(cy (bx b)=false∧ldB nb b (bx b) o K):=kj rS rfl
theorem ahD:pK (ti Tryz.prog 3) t q (.bp b o) v ⟨fr,bx,nb⟩ H=(cy (bx b)=false∧stS 1 t q b o v ⟨fr,bx,nb⟩ H):=by rw[rS];exact kZ rfl
theorem ahE:ti Tryz.prog 4=some { kd:=.bool,size:=1,bytes:=1,agg:=false,zero:=some [.lit (.bool false)],flds:=[],eqs:=some [.bool] }:=by kernel_rfl
theorem Te:ti Tryz.prog 5=some { kd:=.int .u8,size:=1,bytes:=1,agg:=false,zero:=some [.lit (.int .u8 0)],flds:=[],eqs:=some [.int] }:=by kernel_rfl
theorem akg:dh Tryz.prog 5 s (.c (.rp cs o)) K=dC false 1 o cs K:=jM Te rfl rfl
theorem ahF:dh Tryz.prog 5 ⟨fr,bx,nb⟩ (.bp b o) K=(cy (bx b)=false∧ldB nb b (bx b) o K):=kj Te rfl
theorem ahG:ti Tryz.prog 9=some { kd:=.str,size:=1,bytes:=16,agg:=false,zero:=some [.lit (.string (ByteArray.mk #[]))],flds:=[],eqs:=some [.str] }:=by kernel_rfl
theorem akh:dh Tryz.prog 9 s (.c (.rp cs o)) K=dC false 1 o cs K:=jM ahG rfl rfl
theorem ahH:dh Tryz.prog 9 ⟨fr,bx,nb⟩ (.bp b o) K=(cy (bx b)=false∧ldB nb b (bx b) o K):=kj ahG rfl
theorem pQ:ti Tryz.prog 22=some { kd:=.slice 51,size:=1,bytes:=24,agg:=false,zero:=some [.sl []],flds:=[],eqs:=none }:=by kernel_rfl
theorem adb:hJ Tryz.prog 22 (.c (.sl es)) K=K (.c (.lit (.int .i64 es.length))):=jw pQ rfl
theorem YH:hJ Tryz.prog 22 (.ow E es) K=K (.c (.lit (.int .i64 es.length))):=pa pQ rfl
theorem YI:hJ Tryz.prog 22 (.ms b o l c z) K=K (.c (.lit (.int .i64 l))):=pb pQ rfl
theorem ahI:dh Tryz.prog 22 s (.c (.rp cs o)) K=dC false 1 o cs K:=jM pQ rfl rfl
theorem ade:dh Tryz.prog 22 ⟨fr,bx,nb⟩ (.bp b o) K=(cy (bx b)=false∧ldB nb b (bx b) o K):=kj pQ rfl
theorem adf:oJ Tryz.prog 22 ⟨fr,bx,nb⟩ (.bp b o) K=(cy (bx b)=false∧ldZ nb b (bx b) o K):=yX pQ rfl
theorem adg:pK (ti Tryz.prog 22) t q (.bp b o) v ⟨fr,bx,nb⟩ H=(cy (bx b)=false∧stS 1 t q b o v ⟨fr,bx,nb⟩ H):=by rw[pQ];exact kZ rfl
theorem lJ:ti Tryz.prog 23=some { kd:=.slice 52,size:=1,bytes:=24,agg:=false,zero:=some [.sl []],flds:=[],eqs:=none }:=by kernel_rfl
theorem Tf:hJ Tryz.prog 23 (.c (.sl es)) K=K (.c (.lit (.int .i64 es.length))):=jw lJ rfl
theorem YJ:hJ Tryz.prog 23 (.ow E es) K=K (.c (.lit (.int .i64 es.length))):=pa lJ rfl
theorem YK:hJ Tryz.prog 23 (.ms b o l c z) K=K (.c (.lit (.int .i64 l))):=pb lJ rfl
theorem ahJ:dh Tryz.prog 23 s (.c (.rp cs o)) K=dC false 1 o cs K:=jM lJ rfl rfl
theorem adh:dh Tryz.prog 23 ⟨fr,bx,nb⟩ (.bp b o) K=(cy (bx b)=false∧ldB nb b (bx b) o K):=kj lJ rfl
theorem adi:oJ Tryz.prog 23 ⟨fr,bx,nb⟩ (.bp b o) K=(cy (bx b)=false∧ldZ nb b (bx b) o K):=yX lJ rfl
theorem adj:pK (ti Tryz.prog 23) t q (.bp b o) v ⟨fr,bx,nb⟩ H=(cy (bx b)=false∧stS 1 t q b o v ⟨fr,bx,nb⟩ H):=by rw[lJ];exact kZ rfl
theorem Tg:ti Tryz.prog 24=some { kd:=.slice 169,size:=1,bytes:=24,agg:=false,zero:=some [.sl []],flds:=[],eqs:=none }:=by kernel_rfl
theorem ahK:dh Tryz.prog 24 s (.c (.rp cs o)) K=dC false 1 o cs K:=jM Tg rfl rfl
theorem adk:dh Tryz.prog 24 ⟨fr,bx,nb⟩ (.bp b o) K=(cy (bx b)=false∧ldB nb b (bx b) o K):=kj Tg rfl
theorem adl:oJ Tryz.prog 24 ⟨fr,bx,nb⟩ (.bp b o) K=(cy (bx b)=false∧ldZ nb b (bx b) o K):=yX Tg rfl
theorem qM:ti Tryz.prog 26=some { kd:=.struct,size:=4,bytes:=88,agg:=true,zero:=some [.lit (.string (ByteArray.mk #[])),.sl [],.sl [],.sl []],flds:=[(0,1,false),(1,1,false),(2,1,false),(3,1,false)],eqs:=none }:=by kernel_rfl
theorem adm:VStep Tryz.prog G tr ⟨some d,.alloc 26,ty,pos,af,g⟩ ⟨fr,bx,nb⟩ H=H ⟨up fr d (.bp nb 0),up bx nb [.c (.lit (.string (ByteArray.mk #[]))),.ow none [],.ow none [],.ow none []],nb+1⟩:=oL qM rfl
theorem ahL (h:cs.length=4):dh Tryz.prog 26 s (.c (.rp cs 0)) K=K (.agg cs):=yV qM rfl h
theorem adn:dh Tryz.prog 26 ⟨fr,bx,nb⟩ (.bp b o) K=(cy (bx b)=false∧ldA nb b (bx b) o 4 K):=wF qM rfl rfl
theorem ado:kf Tryz.prog 26 parts K=tK K (jk [(0,1,false),(1,1,false),(2,1,false),(3,1,false)] parts [.c (.lit (.string (ByteArray.mk #[]))),.ow none [],.ow none [],.ow none []]):=pd qM rfl rfl rfl
theorem adp:jC Tryz.prog 26 parts K=xP [(0,1,false),(1,1,false),(2,1,false),(3,1,false)] [.lit (.string (ByteArray.mk #[])),.sl [],.sl [],.sl []] parts K (j9 [(0,1,false),(1,1,false),(2,1,false),(3,1,false)] parts [.lit (.string (ByteArray.mk #[])),.sl [],.sl [],.sl []]):=ny qM rfl rfl rfl
theorem YL:bf Tryz.prog 26 (.c (.rp cs o)) 0 K=K (.c (.rp cs (o+0))):=jo qM rfl (by decide)
theorem Ti:bf Tryz.prog 26 (.bp b o) 0 K=K (.bp b (o+0)):=jq qM rfl (by decide)
theorem YM:bf Tryz.prog 26 (.c (.rp cs o)) 1 K=K (.c (.rp cs (o+1))):=jo qM rfl (by decide)
theorem Tj:bf Tryz.prog 26 (.bp b o) 1 K=K (.bp b (o+1)):=jq qM rfl (by decide)
theorem YN:bf Tryz.prog 26 (.c (.rp cs o)) 2 K=K (.c (.rp cs (o+2))):=jo qM rfl (by decide)
theorem Tk:bf Tryz.prog 26 (.bp b o) 2 K=K (.bp b (o+2)):=jq qM rfl (by decide)
theorem YO:bf Tryz.prog 26 (.c (.rp cs o)) 3 K=K (.c (.rp cs (o+3))):=jo qM rfl (by decide)
theorem Tl:bf Tryz.prog 26 (.bp b o) 3 K=K (.bp b (o+3)):=jq qM rfl (by decide)
theorem adq:pK (ti Tryz.prog 26) t q (.bp b o) v ⟨fr,bx,nb⟩ H=(cy (bx b)=false∧stS 4 t q b o v ⟨fr,bx,nb⟩ H):=by rw[qM];exact kZ rfl
theorem eY:ti Tryz.prog 28=some { kd:=.struct,size:=3,bytes:=24,agg:=true,zero:=some [.lit (.int .i64 0),.lit (.int .i64 0),.lit (.int .i64 0)],flds:=[(0,1,false),(1,1,false),(2,1,false)],eqs:=some [.int,.int,.int] }:=by kernel_rfl
theorem adr:VStep Tryz.prog G tr ⟨some d,.alloc 28,ty,pos,af,g⟩ ⟨fr,bx,nb⟩ H=H ⟨up fr d (.bp nb 0),up bx nb [.c (.lit (.int .i64 0)),.c (.lit (.int .i64 0)),.c (.lit (.int .i64 0))],nb+1⟩:=oL eY rfl
theorem ahM (h:cs.length=3):dh Tryz.prog 28 s (.c (.rp cs 0)) K=K (.agg cs):=yV eY rfl h
theorem ads:dh Tryz.prog 28 ⟨fr,bx,nb⟩ (.bp b o) K=(cy (bx b)=false∧ldA nb b (bx b) o 3 K):=wF eY rfl rfl
theorem adt:kf Tryz.prog 28 parts K=tK K (jk [(0,1,false),(1,1,false),(2,1,false)] parts [.c (.lit (.int .i64 0)),.c (.lit (.int .i64 0)),.c (.lit (.int .i64 0))]):=pd eY rfl rfl rfl
theorem adu:jC Tryz.prog 28 parts K=xP [(0,1,false),(1,1,false),(2,1,false)] [.lit (.int .i64 0),.lit (.int .i64 0),.lit (.int .i64 0)] parts K (j9 [(0,1,false),(1,1,false),(2,1,false)] parts [.lit (.int .i64 0),.lit (.int .i64 0),.lit (.int .i64 0)]):=ny eY rfl rfl rfl
theorem YP:bf Tryz.prog 28 (.c (.rp cs o)) 0 K=K (.c (.rp cs (o+0))):=jo eY rfl (by decide)
theorem Tm:bf Tryz.prog 28 (.bp b o) 0 K=K (.bp b (o+0)):=jq eY rfl (by decide)
theorem YQ:bf Tryz.prog 28 (.c (.rp cs o)) 1 K=K (.c (.rp cs (o+1))):=jo eY rfl (by decide)
theorem Tn:bf Tryz.prog 28 (.bp b o) 1 K=K (.bp b (o+1)):=jq eY rfl (by decide)
theorem YR:bf Tryz.prog 28 (.c (.rp cs o)) 2 K=K (.c (.rp cs (o+2))):=jo eY rfl (by decide)
theorem To:bf Tryz.prog 28 (.bp b o) 2 K=K (.bp b (o+2)):=jq eY rfl (by decide)
theorem adv:pK (ti Tryz.prog 28) t q (.bp b o) v ⟨fr,bx,nb⟩ H=(cy (bx b)=false∧stS 3 t q b o v ⟨fr,bx,nb⟩ H):=by rw[eY];exact kZ rfl
theorem MX:ti Tryz.prog 30=some { kd:=.other,size:=1,bytes:=8,agg:=false,zero:=some [.lit .nilFunc],flds:=[],eqs:=none }:=by kernel_rfl
theorem ahN:dh Tryz.prog 30 s (.c (.rp cs o)) K=dC false 1 o cs K:=jM MX rfl rfl
theorem adw:dh Tryz.prog 30 ⟨fr,bx,nb⟩ (.bp b o) K=(cy (bx b)=false∧ldB nb b (bx b) o K):=kj MX rfl
theorem kO:ti Tryz.prog 31=some { kd:=.slice 48,size:=1,bytes:=24,agg:=false,zero:=some [.sl []],flds:=[],eqs:=none }:=by kernel_rfl
theorem adx:hJ Tryz.prog 31 (.c (.sl es)) K=K (.c (.lit (.int .i64 es.length))):=jw kO rfl
theorem YS:hJ Tryz.prog 31 (.ow E es) K=K (.c (.lit (.int .i64 es.length))):=pa kO rfl
theorem YT:hJ Tryz.prog 31 (.ms b o l c z) K=K (.c (.lit (.int .i64 l))):=pb kO rfl
theorem fk:ti Tryz.prog 37=some { kd:=.slice 28,size:=1,bytes:=24,agg:=false,zero:=some [.sl []],flds:=[],eqs:=none }:=by kernel_rfl
theorem Lm:hJ Tryz.prog 37 (.c (.sl es)) K=K (.c (.lit (.int .i64 es.length))):=jw fk rfl
theorem YU:hJ Tryz.prog 37 (.ow E es) K=K (.c (.lit (.int .i64 es.length))):=pa fk rfl
theorem YV:hJ Tryz.prog 37 (.ms b o l c z) K=K (.c (.lit (.int .i64 l))):=pb fk rfl
theorem ahO:dh Tryz.prog 37 s (.c (.rp cs o)) K=dC false 1 o cs K:=jM fk rfl rfl
theorem ady:dh Tryz.prog 37 ⟨fr,bx,nb⟩ (.bp b o) K=(cy (bx b)=false∧ldB nb b (bx b) o K):=kj fk rfl
theorem adz:oJ Tryz.prog 37 ⟨fr,bx,nb⟩ (.bp b o) K=(cy (bx b)=false∧ldZ nb b (bx b) o K):=yX fk rfl
theorem adA:pK (ti Tryz.prog 37) t q (.bp b o) v ⟨fr,bx,nb⟩ H=(cy (bx b)=false∧stS 1 t q b o v ⟨fr,bx,nb⟩ H):=by rw[fk];exact kZ rfl
theorem kA:ti Tryz.prog 41=some { kd:=.struct,size:=3,bytes:=56,agg:=true,zero:=some [.lit (.int .i64 0),.sl [],.sl []],flds:=[(0,1,false),(1,1,false),(2,1,false)],eqs:=none }:=by kernel_rfl
theorem adB:VStep Tryz.prog G tr ⟨some d,.alloc 41,ty,pos,af,g⟩ ⟨fr,bx,nb⟩ H=H ⟨up fr d (.bp nb 0),up bx nb [.c (.lit (.int .i64 0)),.ow none [],.ow none []],nb+1⟩:=oL kA rfl
theorem ahP (h:cs.length=3):dh Tryz.prog 41 s (.c (.rp cs 0)) K=K (.agg cs):=yV kA rfl h
theorem adC:dh Tryz.prog 41 ⟨fr,bx,nb⟩ (.bp b o) K=(cy (bx b)=false∧ldA nb b (bx b) o 3 K):=wF kA rfl rfl
theorem adD:kf Tryz.prog 41 parts K=tK K (jk [(0,1,false),(1,1,false),(2,1,false)] parts [.c (.lit (.int .i64 0)),.ow none [],.ow none []]):=pd kA rfl rfl rfl
theorem adE:jC Tryz.prog 41 parts K=xP [(0,1,false),(1,1,false),(2,1,false)] [.lit (.int .i64 0),.sl [],.sl []] parts K (j9 [(0,1,false),(1,1,false),(2,1,false)] parts [.lit (.int .i64 0),.sl [],.sl []]):=ny kA rfl rfl rfl
theorem YW:bf Tryz.prog 41 (.c (.rp cs o)) 0 K=K (.c (.rp cs (o+0))):=jo kA rfl (by decide)
theorem Tp:bf Tryz.prog 41 (.bp b o) 0 K=K (.bp b (o+0)):=jq kA rfl (by decide)
theorem YX:bf Tryz.prog 41 (.c (.rp cs o)) 1 K=K (.c (.rp cs (o+1))):=jo kA rfl (by decide)
theorem Tq:bf Tryz.prog 41 (.bp b o) 1 K=K (.bp b (o+1)):=jq kA rfl (by decide)
theorem YY:bf Tryz.prog 41 (.c (.rp cs o)) 2 K=K (.c (.rp cs (o+2))):=jo kA rfl (by decide)
theorem Ts:bf Tryz.prog 41 (.bp b o) 2 K=K (.bp b (o+2)):=jq kA rfl (by decide)
theorem adF:pK (ti Tryz.prog 41) t q (.bp b o) v ⟨fr,bx,nb⟩ H=(cy (bx b)=false∧stS 3 t q b o v ⟨fr,bx,nb⟩ H):=by rw[kA];exact kZ rfl
theorem mP:ti Tryz.prog 44=some { kd:=.slice 41,size:=1,bytes:=24,agg:=false,zero:=some [.sl []],flds:=[],eqs:=none }:=by kernel_rfl
theorem adG:hJ Tryz.prog 44 (.c (.sl es)) K=K (.c (.lit (.int .i64 es.length))):=jw mP rfl
theorem YZ:hJ Tryz.prog 44 (.ow E es) K=K (.c (.lit (.int .i64 es.length))):=pa mP rfl
theorem Y0:hJ Tryz.prog 44 (.ms b o l c z) K=K (.c (.lit (.int .i64 l))):=pb mP rfl
theorem ahQ:dh Tryz.prog 44 s (.c (.rp cs o)) K=dC false 1 o cs K:=jM mP rfl rfl
theorem adH:dh Tryz.prog 44 ⟨fr,bx,nb⟩ (.bp b o) K=(cy (bx b)=false∧ldB nb b (bx b) o K):=kj mP rfl
theorem adI:oJ Tryz.prog 44 ⟨fr,bx,nb⟩ (.bp b o) K=(cy (bx b)=false∧ldZ nb b (bx b) o K):=yX mP rfl
theorem adJ:pK (ti Tryz.prog 44) t q (.bp b o) v ⟨fr,bx,nb⟩ H=(cy (bx b)=false∧stS 1 t q b o v ⟨fr,bx,nb⟩ H):=by rw[mP];exact kZ rfl
theorem gX:ti Tryz.prog 48=some { kd:=.struct,size:=6,bytes:=64,agg:=true,zero:=some [.lit (.int .i64 0),.lit (.int .i64 0),.lit (.int .i64 0),.lit (.int .i64 0),.lit (.int .i64 0),.sl []],flds:=[(0,3,true),(3,1,false),(4,1,false),(5,1,false)],eqs:=none }:=by kernel_rfl
theorem adK:VStep Tryz.prog G tr ⟨some d,.alloc 48,ty,pos,af,g⟩ ⟨fr,bx,nb⟩ H=H ⟨up fr d (.bp nb 0),up bx nb [.c (.lit (.int .i64 0)),.c (.lit (.int .i64 0)),.c (.lit (.int .i64 0)),.c (.lit (.int .i64 0)),.c (.lit (.int .i64 0)),.ow none []],nb+1⟩:=oL gX rfl
theorem ahR (h:cs.length=6):dh Tryz.prog 48 s (.c (.rp cs 0)) K=K (.agg cs):=yV gX rfl h
theorem adL:dh Tryz.prog 48 ⟨fr,bx,nb⟩ (.bp b o) K=(cy (bx b)=false∧ldA nb b (bx b) o 6 K):=wF gX rfl rfl
theorem adM:kf Tryz.prog 48 parts K=tK K (jk [(0,3,true),(3,1,false),(4,1,false),(5,1,false)] parts [.c (.lit (.int .i64 0)),.c (.lit (.int .i64 0)),.c (.lit (.int .i64 0)),.c (.lit (.int .i64 0)),.c (.lit (.int .i64 0)),.ow none []]):=pd gX rfl rfl rfl
theorem adN:jC Tryz.prog 48 parts K=xP [(0,3,true),(3,1,false),(4,1,false),(5,1,false)] [.lit (.int .i64 0),.lit (.int .i64 0),.lit (.int .i64 0),.lit (.int .i64 0),.lit (.int .i64 0),.sl []] parts K (j9 [(0,3,true),(3,1,false),(4,1,false),(5,1,false)] parts [.lit (.int .i64 0),.lit (.int .i64 0),.lit (.int .i64 0),.lit (.int .i64 0),.lit (.int .i64 0),.sl []]):=ny gX rfl rfl rfl
theorem Y1:bf Tryz.prog 48 (.c (.rp cs o)) 0 K=K (.c (.rp cs (o+0))):=jo gX rfl (by decide)
theorem Tt:bf Tryz.prog 48 (.bp b o) 0 K=K (.bp b (o+0)):=jq gX rfl (by decide)
theorem Y2:bf Tryz.prog 48 (.c (.rp cs o)) 1 K=K (.c (.rp cs (o+3))):=jo gX rfl (by decide)
theorem Tu:bf Tryz.prog 48 (.bp b o) 1 K=K (.bp b (o+3)):=jq gX rfl (by decide)
theorem Y3:bf Tryz.prog 48 (.c (.rp cs o)) 2 K=K (.c (.rp cs (o+4))):=jo gX rfl (by decide)
theorem Tv:bf Tryz.prog 48 (.bp b o) 2 K=K (.bp b (o+4)):=jq gX rfl (by decide)
theorem Y4:bf Tryz.prog 48 (.c (.rp cs o)) 3 K=K (.c (.rp cs (o+5))):=jo gX rfl (by decide)
theorem Tw:bf Tryz.prog 48 (.bp b o) 3 K=K (.bp b (o+5)):=jq gX rfl (by decide)
theorem Y5:oG Tryz.prog 48 (.agg cs) 3 K=dC false 1 5 cs K:=ahq gX rfl
theorem adO:pK (ti Tryz.prog 48) t q (.bp b o) v ⟨fr,bx,nb⟩ H=(cy (bx b)=false∧stS 6 t q b o v ⟨fr,bx,nb⟩ H):=by rw[gX];exact kZ rfl
theorem MY:ti Tryz.prog 49=some { kd:=.slice 5,size:=1,bytes:=24,agg:=false,zero:=some [.sl []],flds:=[],eqs:=none }:=by kernel_rfl
theorem adP:hJ Tryz.prog 49 (.c (.sl es)) K=K (.c (.lit (.int .i64 es.length))):=jw MY rfl
theorem Y6:hJ Tryz.prog 49 (.ow E es) K=K (.c (.lit (.int .i64 es.length))):=pa MY rfl
theorem Y7:hJ Tryz.prog 49 (.ms b o l c z) K=K (.c (.lit (.int .i64 l))):=pb MY rfl
theorem oS:ti Tryz.prog 51=some { kd:=.struct,size:=3,bytes:=32,agg:=true,zero:=some [.lit (.string (ByteArray.mk #[])),.lit (.int .i64 0),.lit (.int .i64 0)],flds:=[(0,1,false),(1,1,false),(2,1,false)],eqs:=some [.str,.int,.int] }:=by kernel_rfl
theorem adQ:VStep Tryz.prog G tr ⟨some d,.alloc 51,ty,pos,af,g⟩ ⟨fr,bx,nb⟩ H=H ⟨up fr d (.bp nb 0),up bx nb [.c (.lit (.string (ByteArray.mk #[]))),.c (.lit (.int .i64 0)),.c (.lit (.int .i64 0))],nb+1⟩:=oL oS rfl
theorem ahS (h:cs.length=3):dh Tryz.prog 51 s (.c (.rp cs 0)) K=K (.agg cs):=yV oS rfl h
theorem adR:dh Tryz.prog 51 ⟨fr,bx,nb⟩ (.bp b o) K=(cy (bx b)=false∧ldA nb b (bx b) o 3 K):=wF oS rfl rfl
theorem adS:kf Tryz.prog 51 parts K=tK K (jk [(0,1,false),(1,1,false),(2,1,false)] parts [.c (.lit (.string (ByteArray.mk #[]))),.c (.lit (.int .i64 0)),.c (.lit (.int .i64 0))]):=pd oS rfl rfl rfl
theorem adT:jC Tryz.prog 51 parts K=xP [(0,1,false),(1,1,false),(2,1,false)] [.lit (.string (ByteArray.mk #[])),.lit (.int .i64 0),.lit (.int .i64 0)] parts K (j9 [(0,1,false),(1,1,false),(2,1,false)] parts [.lit (.string (ByteArray.mk #[])),.lit (.int .i64 0),.lit (.int .i64 0)]):=ny oS rfl rfl rfl
theorem Y8:bf Tryz.prog 51 (.c (.rp cs o)) 1 K=K (.c (.rp cs (o+1))):=jo oS rfl (by decide)
theorem Tx:bf Tryz.prog 51 (.bp b o) 1 K=K (.bp b (o+1)):=jq oS rfl (by decide)
theorem adU:pK (ti Tryz.prog 51) t q (.bp b o) v ⟨fr,bx,nb⟩ H=(cy (bx b)=false∧stS 3 t q b o v ⟨fr,bx,nb⟩ H):=by rw[oS];exact kZ rfl
theorem jZ:ti Tryz.prog 52=some { kd:=.struct,size:=3,bytes:=24,agg:=true,zero:=some [.lit (.int .i64 0),.lit (.int .i64 0),.lit (.int .i64 0)],flds:=[(0,1,false),(1,1,false),(2,1,false)],eqs:=some [.int,.int,.int] }:=by kernel_rfl
theorem adV:VStep Tryz.prog G tr ⟨some d,.alloc 52,ty,pos,af,g⟩ ⟨fr,bx,nb⟩ H=H ⟨up fr d (.bp nb 0),up bx nb [.c (.lit (.int .i64 0)),.c (.lit (.int .i64 0)),.c (.lit (.int .i64 0))],nb+1⟩:=oL jZ rfl
theorem ahT (h:cs.length=3):dh Tryz.prog 52 s (.c (.rp cs 0)) K=K (.agg cs):=yV jZ rfl h
theorem adW:dh Tryz.prog 52 ⟨fr,bx,nb⟩ (.bp b o) K=(cy (bx b)=false∧ldA nb b (bx b) o 3 K):=wF jZ rfl rfl
theorem adX:kf Tryz.prog 52 parts K=tK K (jk [(0,1,false),(1,1,false),(2,1,false)] parts [.c (.lit (.int .i64 0)),.c (.lit (.int .i64 0)),.c (.lit (.int .i64 0))]):=pd jZ rfl rfl rfl
theorem adY:jC Tryz.prog 52 parts K=xP [(0,1,false),(1,1,false),(2,1,false)] [.lit (.int .i64 0),.lit (.int .i64 0),.lit (.int .i64 0)] parts K (j9 [(0,1,false),(1,1,false),(2,1,false)] parts [.lit (.int .i64 0),.lit (.int .i64 0),.lit (.int .i64 0)]):=ny jZ rfl rfl rfl
theorem Y9:bf Tryz.prog 52 (.c (.rp cs o)) 0 K=K (.c (.rp cs (o+0))):=jo jZ rfl (by decide)
theorem Tz:bf Tryz.prog 52 (.bp b o) 0 K=K (.bp b (o+0)):=jq jZ rfl (by decide)
theorem Za:bf Tryz.prog 52 (.c (.rp cs o)) 1 K=K (.c (.rp cs (o+1))):=jo jZ rfl (by decide)
theorem TA:bf Tryz.prog 52 (.bp b o) 1 K=K (.bp b (o+1)):=jq jZ rfl (by decide)
theorem Zb:bf Tryz.prog 52 (.c (.rp cs o)) 2 K=K (.c (.rp cs (o+2))):=jo jZ rfl (by decide)
theorem TB:bf Tryz.prog 52 (.bp b o) 2 K=K (.bp b (o+2)):=jq jZ rfl (by decide)
theorem adZ:pK (ti Tryz.prog 52) t q (.bp b o) v ⟨fr,bx,nb⟩ H=(cy (bx b)=false∧stS 3 t q b o v ⟨fr,bx,nb⟩ H):=by rw[jZ];exact kZ rfl
theorem xY:ti Tryz.prog 57=some { kd:=.map 28 48,size:=1,bytes:=8,agg:=false,zero:=some [.lit (.map none)],flds:=[],eqs:=none }:=by kernel_rfl
theorem TC:VStep Tryz.prog G tr ⟨dO,.makeMap 57 none,ty,pos,af,g⟩ ⟨fr,bx,nb⟩ H=H ((⟨fr,up bx nb [.mk [] 0],nb+1⟩:S).put dO (.mr nb)):=BI xY rfl
theorem ad0:dh Tryz.prog 57 ⟨fr,bx,nb⟩ (.bp b o) K=(cy (bx b)=false∧ldB nb b (bx b) o K):=kj xY rfl
theorem ad1:pK (ti Tryz.prog 57) t q (.bp b o) v ⟨fr,bx,nb⟩ H=(cy (bx b)=false∧stS 1 t q b o v ⟨fr,bx,nb⟩ H):=by rw[xY];exact kZ rfl
theorem TD:zaB Tryz.prog 48=true:=by kernel_rfl
theorem MZ:ti Tryz.prog 59=some { kd:=.other,size:=1,bytes:=8,agg:=false,zero:=some [.lit .nilFunc],flds:=[],eqs:=none }:=by kernel_rfl
theorem ad2:VStep Tryz.prog G tr ⟨some d,.alloc 59,ty,pos,af,g⟩ ⟨fr,bx,nb⟩ H=H ⟨up fr d (.bp nb 0),up bx nb [.c (.lit .nilFunc)],nb+1⟩:=oL MZ rfl
theorem ahU:dh Tryz.prog 59 s (.c (.rp cs o)) K=dC false 1 o cs K:=jM MZ rfl rfl
theorem ad3:dh Tryz.prog 59 ⟨fr,bx,nb⟩ (.bp b o) K=(cy (bx b)=false∧ldB nb b (bx b) o K):=kj MZ rfl
theorem ad4:pK (ti Tryz.prog 59) t q (.bp b o) v ⟨fr,bx,nb⟩ H=(cy (bx b)=false∧stS 1 t q b o v ⟨fr,bx,nb⟩ H):=by rw[MZ];exact kZ rfl
theorem zM:ti Tryz.prog 71=some { kd:=.struct,size:=6,bytes:=120,agg:=true,zero:=some [.lit (.string (ByteArray.mk #[])),.sl [],.sl [],.sl [],.lit (.int .i64 0),.sl []],flds:=[(0,4,true),(4,1,false),(5,1,false)],eqs:=none }:=by kernel_rfl
theorem ad5:kf Tryz.prog 71 parts K=tK K (jk [(0,4,true),(4,1,false),(5,1,false)] parts [.c (.lit (.string (ByteArray.mk #[]))),.ow none [],.ow none [],.ow none [],.c (.lit (.int .i64 0)),.ow none []]):=pd zM rfl rfl rfl
theorem ad6:jC Tryz.prog 71 parts K=xP [(0,4,true),(4,1,false),(5,1,false)] [.lit (.string (ByteArray.mk #[])),.sl [],.sl [],.sl [],.lit (.int .i64 0),.sl []] parts K (j9 [(0,4,true),(4,1,false),(5,1,false)] parts [.lit (.string (ByteArray.mk #[])),.sl [],.sl [],.sl [],.lit (.int .i64 0),.sl []]):=ny zM rfl rfl rfl
theorem Zc:bf Tryz.prog 71 (.c (.rp cs o)) 0 K=K (.c (.rp cs (o+0))):=jo zM rfl (by decide)
theorem TE:bf Tryz.prog 71 (.bp b o) 0 K=K (.bp b (o+0)):=jq zM rfl (by decide)
theorem Zd:bf Tryz.prog 71 (.c (.rp cs o)) 1 K=K (.c (.rp cs (o+4))):=jo zM rfl (by decide)
theorem TF:bf Tryz.prog 71 (.bp b o) 1 K=K (.bp b (o+4)):=jq zM rfl (by decide)
theorem Ze:bf Tryz.prog 71 (.c (.rp cs o)) 2 K=K (.c (.rp cs (o+5))):=jo zM rfl (by decide)
theorem TG:bf Tryz.prog 71 (.bp b o) 2 K=K (.bp b (o+5)):=jq zM rfl (by decide)
theorem Ik:ti Tryz.prog 72=some { kd:=.map 28 73,size:=1,bytes:=8,agg:=false,zero:=some [.lit (.map none)],flds:=[],eqs:=none }:=by kernel_rfl
theorem ad7:VStep Tryz.prog G tr ⟨dO,.makeMap 72 none,ty,pos,af,g⟩ ⟨fr,bx,nb⟩ H=H ((⟨fr,up bx nb [.mk [] 0],nb+1⟩:S).put dO (.mr nb)):=BI Ik rfl
theorem ad8:dh Tryz.prog 72 ⟨fr,bx,nb⟩ (.bp b o) K=(cy (bx b)=false∧ldB nb b (bx b) o K):=kj Ik rfl
theorem ad9:pK (ti Tryz.prog 72) t q (.bp b o) v ⟨fr,bx,nb⟩ H=(cy (bx b)=false∧stS 1 t q b o v ⟨fr,bx,nb⟩ H):=by rw[Ik];exact kZ rfl
theorem ahV:zaB Tryz.prog 73=true:=by kernel_rfl
theorem nq:ti Tryz.prog 73=some { kd:=.slice 78,size:=1,bytes:=24,agg:=false,zero:=some [.sl []],flds:=[],eqs:=none }:=by kernel_rfl
theorem aea:hJ Tryz.prog 73 (.c (.sl es)) K=K (.c (.lit (.int .i64 es.length))):=jw nq rfl
theorem Zf:hJ Tryz.prog 73 (.ow E es) K=K (.c (.lit (.int .i64 es.length))):=pa nq rfl
theorem Zg:hJ Tryz.prog 73 (.ms b o l c z) K=K (.c (.lit (.int .i64 l))):=pb nq rfl
theorem ahW:dh Tryz.prog 73 s (.c (.rp cs o)) K=dC false 1 o cs K:=jM nq rfl rfl
theorem aeb:dh Tryz.prog 73 ⟨fr,bx,nb⟩ (.bp b o) K=(cy (bx b)=false∧ldB nb b (bx b) o K):=kj nq rfl
theorem aec:oJ Tryz.prog 73 ⟨fr,bx,nb⟩ (.bp b o) K=(cy (bx b)=false∧ldZ nb b (bx b) o K):=yX nq rfl
theorem aed:pK (ti Tryz.prog 73) t q (.bp b o) v ⟨fr,bx,nb⟩ H=(cy (bx b)=false∧stS 1 t q b o v ⟨fr,bx,nb⟩ H):=by rw[nq];exact kZ rfl
theorem BQ:ti Tryz.prog 75=some { kd:=.struct,size:=3,bytes:=56,agg:=true,zero:=some [.sl [],.sl [],.lit (.int .i64 0)],flds:=[(0,1,false),(1,1,false),(2,1,false)],eqs:=none }:=by kernel_rfl
theorem aee:VStep Tryz.prog G tr ⟨some d,.alloc 75,ty,pos,af,g⟩ ⟨fr,bx,nb⟩ H=H ⟨up fr d (.bp nb 0),up bx nb [.ow none [],.ow none [],.c (.lit (.int .i64 0))],nb+1⟩:=oL BQ rfl
theorem Zh:bf Tryz.prog 75 (.c (.rp cs o)) 0 K=K (.c (.rp cs (o+0))):=jo BQ rfl (by decide)
theorem TJ:bf Tryz.prog 75 (.bp b o) 0 K=K (.bp b (o+0)):=jq BQ rfl (by decide)
theorem Zi:bf Tryz.prog 75 (.c (.rp cs o)) 1 K=K (.c (.rp cs (o+1))):=jo BQ rfl (by decide)
theorem TK:bf Tryz.prog 75 (.bp b o) 1 K=K (.bp b (o+1)):=jq BQ rfl (by decide)
theorem Zj:bf Tryz.prog 75 (.c (.rp cs o)) 2 K=K (.c (.rp cs (o+2))):=jo BQ rfl (by decide)
theorem TL:bf Tryz.prog 75 (.bp b o) 2 K=K (.bp b (o+2)):=jq BQ rfl (by decide)
theorem vQ:ti Tryz.prog 78=some { kd:=.ptr 80,size:=1,bytes:=8,agg:=false,zero:=some [.lit (.pointer none)],flds:=[],eqs:=none }:=by kernel_rfl
theorem ahX:dh Tryz.prog 78 s (.c (.rp cs o)) K=dC false 1 o cs K:=jM vQ rfl rfl
theorem aef:dh Tryz.prog 78 ⟨fr,bx,nb⟩ (.bp b o) K=(cy (bx b)=false∧ldB nb b (bx b) o K):=kj vQ rfl
theorem aeg:pK (ti Tryz.prog 78) t q (.bp b o) v ⟨fr,bx,nb⟩ H=(cy (bx b)=false∧stS 1 t q b o v ⟨fr,bx,nb⟩ H):=by rw[vQ];exact kZ rfl
theorem vR:ti Tryz.prog 80=some { kd:=.struct,size:=5,bytes:=72,agg:=true,zero:=some [.lit (.int .i64 0),.sl [],.sl [],.lit (.int .i64 0),.lit (.int .i64 0)],flds:=[(0,3,true),(3,1,false),(4,1,false)],eqs:=none }:=by kernel_rfl
theorem aeh:kf Tryz.prog 80 parts K=tK K (jk [(0,3,true),(3,1,false),(4,1,false)] parts [.c (.lit (.int .i64 0)),.ow none [],.ow none [],.c (.lit (.int .i64 0)),.c (.lit (.int .i64 0))]):=pd vR rfl rfl rfl
theorem aei:jC Tryz.prog 80 parts K=xP [(0,3,true),(3,1,false),(4,1,false)] [.lit (.int .i64 0),.sl [],.sl [],.lit (.int .i64 0),.lit (.int .i64 0)] parts K (j9 [(0,3,true),(3,1,false),(4,1,false)] parts [.lit (.int .i64 0),.sl [],.sl [],.lit (.int .i64 0),.lit (.int .i64 0)]):=ny vR rfl rfl rfl
theorem Zk:bf Tryz.prog 80 (.c (.rp cs o)) 0 K=K (.c (.rp cs (o+0))):=jo vR rfl (by decide)
theorem TM:bf Tryz.prog 80 (.bp b o) 0 K=K (.bp b (o+0)):=jq vR rfl (by decide)
theorem Zl:bf Tryz.prog 80 (.c (.rp cs o)) 1 K=K (.c (.rp cs (o+3))):=jo vR rfl (by decide)
theorem TN:bf Tryz.prog 80 (.bp b o) 1 K=K (.bp b (o+3)):=jq vR rfl (by decide)
theorem Zm:bf Tryz.prog 80 (.c (.rp cs o)) 2 K=K (.c (.rp cs (o+4))):=jo vR rfl (by decide)
theorem TO:bf Tryz.prog 80 (.bp b o) 2 K=K (.bp b (o+4)):=jq vR rfl (by decide)
theorem oT:ti Tryz.prog 86=some { kd:=.slice 3,size:=1,bytes:=24,agg:=false,zero:=some [.sl []],flds:=[],eqs:=none }:=by kernel_rfl
theorem TP:hJ Tryz.prog 86 (.c (.sl es)) K=K (.c (.lit (.int .i64 es.length))):=jw oT rfl
theorem Zn:hJ Tryz.prog 86 (.ow E es) K=K (.c (.lit (.int .i64 es.length))):=pa oT rfl
theorem Zo:hJ Tryz.prog 86 (.ms b o l c z) K=K (.c (.lit (.int .i64 l))):=pb oT rfl
theorem abg:ti Tryz.prog 94=some { kd:=.other,size:=1,bytes:=8,agg:=false,zero:=some [.lit .nilFunc],flds:=[],eqs:=none }:=by kernel_rfl
theorem ahY:dh Tryz.prog 94 s (.c (.rp cs o)) K=dC false 1 o cs K:=jM abg rfl rfl
theorem aej:dh Tryz.prog 94 ⟨fr,bx,nb⟩ (.bp b o) K=(cy (bx b)=false∧ldB nb b (bx b) o K):=kj abg rfl
theorem abh:ti Tryz.prog 95=some { kd:=.ptr 98,size:=1,bytes:=8,agg:=false,zero:=some [.lit (.pointer none)],flds:=[],eqs:=none }:=by kernel_rfl
theorem ahZ:dh Tryz.prog 95 s (.c (.rp cs o)) K=dC false 1 o cs K:=jM abh rfl rfl
theorem aek:dh Tryz.prog 95 ⟨fr,bx,nb⟩ (.bp b o) K=(cy (bx b)=false∧ldB nb b (bx b) o K):=kj abh rfl
theorem abi:ti Tryz.prog 96=some { kd:=.ptr 28,size:=1,bytes:=8,agg:=false,zero:=some [.lit (.pointer none)],flds:=[],eqs:=none }:=by kernel_rfl
theorem ah0:dh Tryz.prog 96 s (.c (.rp cs o)) K=dC false 1 o cs K:=jM abi rfl rfl
theorem ael:dh Tryz.prog 96 ⟨fr,bx,nb⟩ (.bp b o) K=(cy (bx b)=false∧ldB nb b (bx b) o K):=kj abi rfl
theorem vS:ti Tryz.prog 98=some { kd:=.struct,size:=7,bytes:=112,agg:=true,zero:=some [.lit (.string (ByteArray.mk #[])),.sl [],.sl [],.sl [],.lit (.int .i64 0),.lit (.pointer none),.lit .nilFunc],flds:=[(0,4,true),(4,1,false),(5,1,false),(6,1,false)],eqs:=none }:=by kernel_rfl
theorem aem:kf Tryz.prog 98 parts K=tK K (jk [(0,4,true),(4,1,false),(5,1,false),(6,1,false)] parts [.c (.lit (.string (ByteArray.mk #[]))),.ow none [],.ow none [],.ow none [],.c (.lit (.int .i64 0)),.c (.lit (.pointer none)),.c (.lit .nilFunc)]):=pd vS rfl rfl rfl
theorem aen:jC Tryz.prog 98 parts K=xP [(0,4,true),(4,1,false),(5,1,false),(6,1,false)] [.lit (.string (ByteArray.mk #[])),.sl [],.sl [],.sl [],.lit (.int .i64 0),.lit (.pointer none),.lit .nilFunc] parts K (j9 [(0,4,true),(4,1,false),(5,1,false),(6,1,false)] parts [.lit (.string (ByteArray.mk #[])),.sl [],.sl [],.sl [],.lit (.int .i64 0),.lit (.pointer none),.lit .nilFunc]):=ny vS rfl rfl rfl
theorem Zp:bf Tryz.prog 98 (.c (.rp cs o)) 0 K=K (.c (.rp cs (o+0))):=jo vS rfl (by decide)
theorem TQ:bf Tryz.prog 98 (.bp b o) 0 K=K (.bp b (o+0)):=jq vS rfl (by decide)
theorem Zq:bf Tryz.prog 98 (.c (.rp cs o)) 1 K=K (.c (.rp cs (o+4))):=jo vS rfl (by decide)
theorem TR:bf Tryz.prog 98 (.bp b o) 1 K=K (.bp b (o+4)):=jq vS rfl (by decide)
theorem Zr:bf Tryz.prog 98 (.c (.rp cs o)) 2 K=K (.c (.rp cs (o+5))):=jo vS rfl (by decide)
theorem TS:bf Tryz.prog 98 (.bp b o) 2 K=K (.bp b (o+5)):=jq vS rfl (by decide)
theorem Zs:bf Tryz.prog 98 (.c (.rp cs o)) 3 K=K (.c (.rp cs (o+6))):=jo vS rfl (by decide)
theorem TU:bf Tryz.prog 98 (.bp b o) 3 K=K (.bp b (o+6)):=jq vS rfl (by decide)
theorem TV:ti Tryz.prog 105=some { kd:=.other,size:=1,bytes:=8,agg:=false,zero:=some [.lit .nilFunc],flds:=[],eqs:=none }:=by kernel_rfl
theorem aeo:dh Tryz.prog 105 s (.c (.rp cs o)) K=dC false 1 o cs K:=jM TV rfl rfl
theorem Zt:dh Tryz.prog 105 ⟨fr,bx,nb⟩ (.bp b o) K=(cy (bx b)=false∧ldB nb b (bx b) o K):=kj TV rfl
theorem BR:ti Tryz.prog 107=some { kd:=.slice 30,size:=1,bytes:=24,agg:=false,zero:=some [.sl []],flds:=[],eqs:=none }:=by kernel_rfl
theorem Zu:hJ Tryz.prog 107 (.c (.sl es)) K=K (.c (.lit (.int .i64 es.length))):=jw BR rfl
theorem TW:hJ Tryz.prog 107 (.ow E es) K=K (.c (.lit (.int .i64 es.length))):=pa BR rfl
theorem TX:hJ Tryz.prog 107 (.ms b o l c z) K=K (.c (.lit (.int .i64 l))):=pb BR rfl
theorem F8:ti Tryz.prog 129=some { kd:=.int .u64,size:=1,bytes:=8,agg:=false,zero:=some [.lit (.int .u64 0)],flds:=[],eqs:=some [.int] }:=by kernel_rfl
theorem Zv:VStep Tryz.prog G tr ⟨some d,.alloc 129,ty,pos,af,g⟩ ⟨fr,bx,nb⟩ H=H ⟨up fr d (.bp nb 0),up bx nb [.c (.lit (.int .u64 0))],nb+1⟩:=oL F8 rfl
theorem aep:dh Tryz.prog 129 s (.c (.rp cs o)) K=dC false 1 o cs K:=jM F8 rfl rfl
theorem Zw:dh Tryz.prog 129 ⟨fr,bx,nb⟩ (.bp b o) K=(cy (bx b)=false∧ldB nb b (bx b) o K):=kj F8 rfl
theorem Zx:pK (ti Tryz.prog 129) t q (.bp b o) v ⟨fr,bx,nb⟩ H=(cy (bx b)=false∧stS 1 t q b o v ⟨fr,bx,nb⟩ H):=by rw[F8];exact kZ rfl
theorem TY:ti Tryz.prog 169=some { kd:=.struct,size:=5,bytes:=40,agg:=true,zero:=some [.lit (.int .i64 0),.lit (.int .i64 0),.lit (.int .i64 0),.lit (.int .i64 0),.lit (.int .i64 0)],flds:=[(0,1,false),(1,1,false),(2,1,false),(3,1,false),(4,1,false)],eqs:=some [.int,.int,.int,.int,.int] }:=by kernel_rfl
theorem aeq (h:len*3≤16777216):cR Tryz.prog 22 len parts K=De 51 3 [.lit (.string (ByteArray.mk #[])),.lit (.int .i64 0),.lit (.int .i64 0)] len parts K:=wG pQ rfl oS rfl rfl (by decide) rfl h
theorem aer:dN Tryz.prog 22 (.ow E es) (.c (.sl ys)) K=(((E=none∨E=some (51,3))∧∀ x∈es,x.length=3)∧((es.length+ys.length)*32≤140737488355328∧es.length+ys.length≤9223372036854775807∧∀ x∈ys,x.length=3)∧K (.ow (if ys.isEmpty then E else some (51,3)) (es++ys))):=yY pQ rfl oS rfl rfl rfl (by decide) rfl
theorem aes (h:len*3≤16777216):cR Tryz.prog 23 len parts K=De 52 3 [.lit (.int .i64 0),.lit (.int .i64 0),.lit (.int .i64 0)] len parts K:=wG lJ rfl jZ rfl rfl (by decide) rfl h
theorem TZ:dN Tryz.prog 23 (.ow E es) (.c (.sl ys)) K=(((E=none∨E=some (52,3))∧∀ x∈es,x.length=3)∧((es.length+ys.length)*24≤140737488355328∧es.length+ys.length≤9223372036854775807∧∀ x∈ys,x.length=3)∧K (.ow (if ys.isEmpty then E else some (52,3)) (es++ys))):=yY lJ rfl jZ rfl rfl rfl (by decide) rfl
theorem aet (h:len*6≤16777216):cR Tryz.prog 31 len parts K=De 48 6 [.lit (.int .i64 0),.lit (.int .i64 0),.lit (.int .i64 0),.lit (.int .i64 0),.lit (.int .i64 0),.sl []] len parts K:=wG kO rfl gX rfl rfl (by decide) rfl h
theorem aeu:dN Tryz.prog 31 (.ow E es) (.c (.sl ys)) K=(((E=none∨E=some (48,6))∧∀ x∈es,x.length=6)∧((es.length+ys.length)*64≤140737488355328∧es.length+ys.length≤9223372036854775807∧∀ x∈ys,x.length=6)∧K (.ow (if ys.isEmpty then E else some (48,6)) (es++ys))):=yY kO rfl gX rfl rfl rfl (by decide) rfl
theorem aev (h:len*3≤16777216):cR Tryz.prog 37 len parts K=De 28 3 [.lit (.int .i64 0),.lit (.int .i64 0),.lit (.int .i64 0)] len parts K:=wG fk rfl eY rfl rfl (by decide) rfl h
theorem y6:dN Tryz.prog 37 (.ow E es) (.c (.sl ys)) K=(((E=none∨E=some (28,3))∧∀ x∈es,x.length=3)∧((es.length+ys.length)*24≤140737488355328∧es.length+ys.length≤9223372036854775807∧∀ x∈ys,x.length=3)∧K (.ow (if ys.isEmpty then E else some (28,3)) (es++ys))):=yY fk rfl eY rfl rfl rfl (by decide) rfl
theorem aew (h:len*3≤16777216):cR Tryz.prog 44 len parts K=De 41 3 [.lit (.int .i64 0),.sl [],.sl []] len parts K:=wG mP rfl kA rfl rfl (by decide) rfl h
theorem aex:dN Tryz.prog 44 (.ow E es) (.c (.sl ys)) K=(((E=none∨E=some (41,3))∧∀ x∈es,x.length=3)∧((es.length+ys.length)*56≤140737488355328∧es.length+ys.length≤9223372036854775807∧∀ x∈ys,x.length=3)∧K (.ow (if ys.isEmpty then E else some (41,3)) (es++ys))):=yY mP rfl kA rfl rfl rfl (by decide) rfl
theorem aey (h:len*1≤16777216):cR Tryz.prog 73 len parts K=De 78 1 [.lit (.pointer none)] len parts K:=wG nq rfl vQ rfl rfl (by decide) rfl h
theorem aez (h:len*1≤16777216):cR Tryz.prog 86 len parts K=De 3 1 [.lit (.int .i64 0)] len parts K:=wG oT rfl rS rfl rfl (by decide) rfl h
theorem aeA:dN Tryz.prog 86 (.ow E es) (.c (.sl ys)) K=(((E=none∨E=some (3,1))∧∀ x∈es,x.length=1)∧((es.length+ys.length)*8≤140737488355328∧es.length+ys.length≤9223372036854775807∧∀ x∈ys,x.length=1)∧K (.ow (if ys.isEmpty then E else some (3,1)) (es++ys))):=yY oT rfl rS rfl rfl rfl (by decide) rfl
def pt0:=jj @ahB (jj @akf (jj @ahC (jj @ahD (jj @akg (jj @ahF (jj @akh (jj @ahH (jj @adb (jj @YH (jj @YI (jj @ahI (jj @ade (jj @adf (jj @adg (jj @Tf (jj @YJ (jj @YK (jj @ahJ (jj @adh (jj @adi (jj @adj (jj @ahK (jj @adk (jj @adl (jj @adm (jj @ahL (jj @adn (jj @ado (jj @adp (jj @YL (jj @Ti (jj @YM (jj @Tj (jj @YN (jj @Tk (jj @YO (jj @Tl (jj @adq @adr))))))))))))))))))))))))))))))))))))))
def pt1:=jj @ahM (jj @ads (jj @adt (jj @adu (jj @YP (jj @Tm (jj @YQ (jj @Tn (jj @YR (jj @To (jj @adv (jj @ahN (jj @adw (jj @adx (jj @YS (jj @YT (jj @Lm (jj @YU (jj @YV (jj @ahO (jj @ady (jj @adz (jj @adA (jj @adB (jj @ahP (jj @adC (jj @adD (jj @adE (jj @YW (jj @Tp (jj @YX (jj @Tq (jj @YY (jj @Ts (jj @adF (jj @adG (jj @YZ (jj @Y0 (jj @ahQ @adH))))))))))))))))))))))))))))))))))))))
def pt2:=jj @adI (jj @adJ (jj @adK (jj @ahR (jj @adL (jj @adM (jj @adN (jj @Y1 (jj @Tt (jj @Y2 (jj @Tu (jj @Y3 (jj @Tv (jj @Y4 (jj @Tw (jj @Y5 (jj @adO (jj @adP (jj @Y6 (jj @Y7 (jj @adQ (jj @ahS (jj @adR (jj @adS (jj @adT (jj @Y8 (jj @Tx (jj @adU (jj @adV (jj @ahT (jj @adW (jj @adX (jj @adY (jj @Y9 (jj @Tz (jj @Za (jj @TA (jj @Zb (jj @TB @adZ))))))))))))))))))))))))))))))))))))))
def pt3:=jj @ad0 (jj @ad1 (jj @ad2 (jj @ahU (jj @ad3 (jj @ad4 (jj @ad5 (jj @ad6 (jj @Zc (jj @TE (jj @Zd (jj @TF (jj @Ze (jj @TG (jj @ad8 (jj @ad9 (jj @aea (jj @Zf (jj @Zg (jj @ahW (jj @aeb (jj @aec (jj @aed (jj @aee (jj @Zh (jj @TJ (jj @Zi (jj @TK (jj @Zj (jj @TL (jj @ahX (jj @aef (jj @aeg (jj @aeh (jj @aei (jj @Zk (jj @TM (jj @Zl (jj @TN @Zm))))))))))))))))))))))))))))))))))))))
def pt4:=jj @TO (jj @TP (jj @Zn (jj @Zo (jj @ahY (jj @aej (jj @ahZ (jj @aek (jj @ah0 (jj @ael (jj @aem (jj @aen (jj @Zp (jj @TQ (jj @Zq (jj @TR (jj @Zr (jj @TS (jj @Zs (jj @TU (jj @aeo (jj @Zt (jj @Zu (jj @TW (jj @TX (jj @Zv (jj @aep (jj @Zw (jj @Zx (jj @aeq (jj @aes (jj @aet (jj @aev (jj @aew (jj @aey @aez))))))))))))))))))))))))))))))))))
def ptA:=jj pt0 (jj pt1 (jj pt2 (jj pt3 (pt4))))
