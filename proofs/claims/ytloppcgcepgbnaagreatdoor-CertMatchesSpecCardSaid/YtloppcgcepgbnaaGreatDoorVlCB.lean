/- Check, Valid of the reference of layer 13. -/
import Derived.Test.YtloppcgcepgbnaaGreatDoorKpVlChk
import Derived.Test.YtloppcgcepgbnaaGreatDoorVlP2
import Derived.Test.YtloppcgcepgbnaaGreatDoorKpVlFun2
import Derived.Test.YtloppcgcepgbnaaGreatDoorKpVlShape
import Derived.Test.YtloppcgcepgbnaaGreatDoorVlLaw
import Derived.Test.YtloppcgcepgbnaaGreatDoorRows
import Derived.JoinedOf
import Derived.JoinedCond
import Derived.MakeChecks
set_option maxHeartbeats 4000000
set_option linter.all false
namespace Go.Proofs.YtloppcgcepgbnaaGreatDoor.Kp
open Go Go.Vl
set_option maxRecDepth 10000
def vV:=jj @pkA (jj @ptA @pkP)
theorem LD {G:Gl} (p:Pol) (hp:PolIn p) (hsm:mb p<=4611686018427387904) :
 FnOK Tryz.prog G 46 [.agg (poC p)] (.tup [i64 (chk p).1,i64 (chk p).2]):=by
 refine bI (rs:=[.tmp 2,.tmp 3]) false [] mixed Tryz.func46 rfl rfl rfl rfl (by kernel_rfl) (by simp) rfl rfl ?_;obtain⟨o1,o2,o3⟩:=hp.ok;have hit:mb p=p.types.length+p.rules.length+p.quorums.length:=rfl;simp only[vV,seval];refine az rfl (DN _ hp.nm) (λ_=>rfl) ?_;simp only[pkA,seval];refine aD (λhn=>?_) (λhn=>?_)
 .have hn:nz p.name=false:=by simpa using hn
  simp only[pkA,seval];rw[LC hn];refine fi ?_ ?_<;>simp only[pkA,seval]
 have hn:nz p.name=true:=by simpa using hn
 simp only[pkA,seval];refine bw (λi:Nat=>hdS [(1,.bp 0 0),(5,i64 i)] [(poC p).map .c]) (λi=>p.types.length - i) (λi=>i<=p.types.length/\∀ j,j<i->itE p j=0) 0 ⟨ar _,by simp⟩ ?_ ?_
 .refine cm (by simp only[iV,bh,bB,gP,aC,aG];rfl) (ar _) (by simp) (by simp[FL,ah]) (by simp[BL])
 rintro i ⟨hi,gy⟩ R bL bO c8;simp only[vV,seval,au];refine aD (λbE=>?_) (λfH=>?_)
 .have ht:i<p.types.length:=by simpa using bE
  have hw:=bn (n:=(i:Int)+1) (k:=i+1) (by omega) (by omega);have bad:itE p i≠0->chk p=((i:Int),itE p i):=λh=>Ik hn (by omega) h gy;have good:itE p i=0->∀ j,j<i+1->itE p j=0:=λh j hj=>by
   rcases bX j i with q | q
   .exact gy j q
   .have:j=i:=by omega
    subst this;exact h
  have e:itE p i=uC p.types i p.types[i]:=by unfold itE;rw[if_pos ht,Zj ht]
  rw[e] at bad good;simp only[vV,seval];refine az rfl (Uf p.types i ht o1 hp.tn) (λ_=>rfl) ?_;simp only[pkA,seval];refine aD (λhb=>?_) (λhg=>?_)
  .simp only[pkA,seval]
   refine c8 _ ?_;simp only[pkA];rw[bad (by simpa using hb)];refine fi ?_ ?_<;>simp only[pkA,seval]
  .simp only[pkA,seval,hw]
   exact bL (i+1) _ ⟨ht,good (by simpa using hg)⟩ (by omega) (cm (by simp only[iV,bh,bB,gP,aC,aG];rfl) (ar _) (by simp) (by simp[FL,ah]) (by simp[BL,bxs]))
 have:i=p.types.length:=by simp at fH;omega
 subst this;simp only[pkA];refine bO _ _ ?_;clear bO c8 bL fH hi;simp only[pkA,seval];refine bw (λi:Nat=>hdS [(1,.bp 0 0),(7,i64 i)] [(poC p).map .c]) (λi=>p.rules.length - i) (λi=>i<=p.rules.length/\∀ j,j<p.types.length+i->itE p j=0) 0 ⟨ar _,gy⟩ ?_ ?_
 .refine cm (by simp only[iV,bh,bB,gP,aC,aG];rfl) (ar _) (by simp) (by simp[FL,ah]) (by simp[BL,bxs])
 clear gy;rintro i ⟨hi,gy⟩ R bL bO c8;simp only[vV,seval,au];refine aD (λbE=>?_) (λfH=>?_)
 .have ht:i<p.rules.length:=by simpa using bE
  have hw:=bn (n:=(i:Int)+1) (k:=i+1) (by omega) (by omega);have LV:=bn (n:=(p.types.length:Int)+i) (k:=p.types.length+i) (by omega) (by omega);have bad:itE p (p.types.length+i)≠0->chk p=(((p.types.length+i:Nat):Int),itE p (p.types.length+i)):=λh=>Ik hn (by omega) h gy;have good:itE p (p.types.length+i)=0->∀ j,j<p.types.length+(i+1)->itE p j=0:=λh j hj=>by
   rcases bX j (p.types.length+i) with q | q
   .exact gy j q
   .have:j=p.types.length+i:=by omega
    subst this;exact h
  have e:itE p (p.types.length+i)=uD p.rules i p.types.length p.rules[i]:=by unfold itE;rw[if_neg (by omega),if_pos (by omega),Nat.add_sub_cancel_left,Zk ht]
  rw[e] at bad good;simp only[vV,seval,au];refine az rfl (Ug p.rules i p.types.length ht o2 (by omega)) (λ_=>rfl) ?_;simp only[pkA,seval];refine aD (λhb=>?_) (λhg=>?_)
  .simp only[vV,seval,au,LV]
   refine c8 _ ?_;simp only[pkA];rw[bad (by simpa using hb)];refine fi ?_ ?_<;>simp only[pkA,seval]
  .simp only[pkA,seval,hw]
   exact bL (i+1) _ ⟨ht,good (by simpa using hg)⟩ (by omega) (cm (by simp only[iV,bh,bB,gP,aC,aG];rfl) (ar _) (by simp) (by simp[FL,ah]) (by simp[BL,bxs]))
 have:i=p.rules.length:=by simp at fH;omega
 subst this;simp only[pkA];refine bO _ _ ?_;clear bO c8 bL fH hi;simp only[pkA,seval];refine bw (λi:Nat=>hdS [(1,.bp 0 0),(9,i64 i)] [(poC p).map .c]) (λi=>p.quorums.length - i) (λi=>i<=p.quorums.length/\∀ j,j<p.types.length+p.rules.length+i->itE p j=0) 0 ⟨ar _,gy⟩ ?_ ?_
 .refine cm (by simp only[iV,bh,bB,gP,aC,aG];rfl) (ar _) (by simp) (by simp[FL,ah]) (by simp[BL,bxs])
 clear gy;rintro i ⟨hi,gy⟩ R bL bO c8;simp only[vV,seval,au];refine aD (λbE=>?_) (λfH=>?_)
 .have ht:i<p.quorums.length:=by simpa using bE
  have hw:=bn (n:=(i:Int)+1) (k:=i+1) (by omega) (by omega);have LV:=bn (n:=(p.types.length:Int)+p.rules.length) (k:=p.types.length+p.rules.length) (by omega) (by omega);have hw3:=bn (n:=((p.types.length+p.rules.length:Nat):Int)+i) (k:=p.types.length+p.rules.length+i) (by omega) (by omega);have bad:itE p (p.types.length+p.rules.length+i)≠0->chk p=(((p.types.length+p.rules.length+i:Nat):Int),itE p (p.types.length+p.rules.length+i)):=λh=>Ik hn (by omega) h gy;have good:itE p (p.types.length+p.rules.length+i)=0->∀ j,j<p.types.length+p.rules.length+(i+1)->itE p j=0:=λh j hj=>by
   rcases bX j (p.types.length+p.rules.length+i) with q | q
   .exact gy j q
   .have:j=p.types.length+p.rules.length+i:=by omega
    subst this;exact h
  have e:itE p (p.types.length+p.rules.length+i)=vU p.quorums i p.quorums[i]:=by have:p.types.length+p.rules.length+i - p.types.length - p.rules.length=i:=(by omega);unfold itE;rw[if_neg (by omega),if_neg (by omega),this,Zl ht]
  rw[e] at bad good;simp only[vV,seval];refine az rfl (Ly p.quorums i ht o3) (λ_=>rfl) ?_;simp only[pkA,seval];refine aD (λhb=>?_) (λhg=>?_)
  .simp only[vV,seval,au,LV,hw3]
   refine c8 _ ?_;simp only[pkA];rw[bad (by simpa using hb)];refine fi ?_ ?_<;>simp only[pkA,seval]
  .simp only[pkA,seval,hw]
   exact bL (i+1) _ ⟨ht,good (by simpa using hg)⟩ (by omega) (cm (by simp only[iV,bh,bB,gP,aC,aG];rfl) (ar _) (by simp) (by simp[FL,ah]) (by simp[BL,bxs]))
 have:i=p.quorums.length:=by simp at fH;omega
 subst this;simp only[pkA];refine bO _ _ ?_;simp only[pkA,seval];rw[LA hn gy];refine fi ?_ ?_<;>simp only[pkA,seval]
theorem LF {G:Gl} (p:Pol) (hp:PolIn p) (hsm:mb p<=4611686018427387904):FnOK Tryz.prog G 25 [.agg (poC p)] (bo (OF p)):=by refine bI (rs:=[.tmp 2]) false [] mixed Tryz.func25 rfl rfl rfl rfl (by kernel_rfl) (by simp) rfl rfl ?_;simp only[vV,seval];refine az rfl (LD p hp hsm) (λh=>by cases h) ?_;simp only[pkA,seval];rfl
end Go.Proofs.YtloppcgcepgbnaaGreatDoor.Kp
namespace Go.Proofs.YtloppcgcepgbnaaGreatDoor
open Go Go.Vl
variable {G:Gl}
set_option maxRecDepth 100000
def kPo (p:Pol):Kp.Pol:=⟨p.name,p.types.map λt=>⟨t.name,t.flags,t.life⟩,p.rules.map λt=>⟨t.kind,t.a,t.b⟩,p.quorums.map λt=>⟨t.cmd,t.count,t.delay,t.valid,t.uses⟩⟩
def unK (p:Kp.Pol):Pol:=⟨p.name,p.types.map λt=>⟨t.name,t.flags,t.life⟩,p.rules.map λt=>⟨t.kind,t.a,t.b⟩,p.quorums.map λt=>⟨t.cmd,t.count,t.delay,t.valid,t.uses⟩⟩
theorem Zn (p:Kp.Pol):kPo (unK p)=p:=by cases p;simp[kPo,unK,eW,j3]
theorem Zo (p:Pol):Kp.poC (kPo p)=poC p:=by cases p;simp[Kp.poC,poC,kPo,eW,j3];exact⟨rfl,λ_ _=>rfl,λ_ _=>rfl,λ_ _=>rfl⟩
def kH (p:Pol):Bool:=Kp.OF (kPo p)
def GV (G:Gl):Prop:=G 0=some [.lit (.int .i64 23),.lit (.int .i64 24),.lit (.int .i64 25)]
structure zy (p:Pol):Prop where
 inn:Kp.PolIn (kPo p)
 sm:Kp.mb (kPo p)<=4611686018427387904
theorem F3 (hG:GV G) {p:Pol} (hp:zy p):FnOK Tryz.prog G 42 [.agg (poC p)] (bo (kH p)):=by rw[<- Zo];exact Kp.C3 hG (kPo p) hp.inn hp.sm
theorem LG {p:Pol} (hp:zy p):FnOK Tryz.prog G 25 [.agg (poC p)] (bo (kH p)):=by rw[<- Zo];exact Kp.LF (kPo p) hp.inn hp.sm
open Go Go.Vl Go.Proofs.YtloppcgcepgbnaaGreatDoor.Kw
theorem Zp:Tryz.prog.cellsOf 54=3:=by kernel_rfl
theorem ak2 {xs:List C} (h:vB Tryz.prog 54 xs):∃ t:Fa,xs=faC t/\FaI t:=by
 obtain⟨hl,hf⟩:=pW Tryz.underlying54 h;rw[Zp] at hl
 match xs,hl with
 |[x0,x1,x2],_=>have h0:=hf _ (by simp;exact .inl rfl);have h1:=hf _ (by simp;exact .inr (.inl rfl));have h2:=hf _ (by simp;exact .inr (.inr rfl));simp only[Kp.vj,ct,gU,eZ,jC] at h0 h1 h2;obtain⟨s,e0,hs⟩:=Kp.nY h0;obtain⟨a,e1,ha⟩:=Kp.nY h1;obtain⟨b,e2,hb⟩:=Kp.nY h2;cases e0;cases e1;cases e2;exact⟨⟨s,a,b⟩,rfl,hs,ha,hb⟩
theorem adA:dh Tryz.prog 28=false:=by kernel_rfl
theorem ah5 {x:V} (h:∃ n cs,Shp Tryz.prog n 28 cs/\x=x7 Tryz.prog 28 cs):∃ p:List Fa,x=.c (fsC p)/\∀ f∈p,FaI f:=by obtain⟨n,cs,h,rfl⟩:=h;obtain⟨es,e0,l,k⟩:=rH Tryz.underlying28 (⟨n,h⟩:vB Tryz.prog 28 cs);obtain⟨fs,rfl,t⟩:=u4 λx hx=>ak2 (k x hx);exact⟨fs,by subst e0;unfold x7;rw[adA];rfl,t⟩
theorem ak3 {m:Int} (hm:(Lit.int .u8 m).wf=true):0<=m/\m<=255:=by
 have h2:IntKind.u8.min<=m/\m<=IntKind.u8.max:=by simpa[Lit.wf] using hm
 have e1:IntKind.u8.min=0:=by decide
 have e2:IntKind.u8.max=255:=by decide
 rw[e1,e2] at h2;exact h2
theorem ak4 {xs:List C} (h:vB Tryz.prog 5 xs):∃ t:UInt8,xs=[bc t]/\True:=by
 obtain⟨m,rfl,hm⟩:=PK Tryz.underlying5 h;obtain⟨h1,h2⟩:=ak3 hm;refine⟨UInt8.ofNat m.toNat,?_,trivial⟩;have e:((UInt8.ofNat m.toNat).toNat:Int)=m:=by rw[fp];omega
 unfold bc;rw[e]
theorem adB:dh Tryz.prog 27=false:=by kernel_rfl
theorem ah6 {x:V} (h:∃ n cs,Shp Tryz.prog n 27 cs/\x=x7 Tryz.prog 27 cs):∃ b:B,x=bv b:=by obtain⟨n,cs,h,rfl⟩:=h;obtain⟨es,e0,l,k⟩:=rH Tryz.underlying27 (⟨n,h⟩:vB Tryz.prog 27 cs);obtain⟨fs,rfl,t⟩:=u4 λx hx=>ak4 (k x hx);exact⟨fs,by subst e0;unfold x7;rw[adB];rfl⟩
theorem OD {x:V} (h:∃ n cs,Shp Tryz.prog n 26 cs/\x=x7 Tryz.prog 26 cs):∃ p:Pol,x=.agg (poC p)/\Kp.PolIn (kPo p):=by obtain⟨q,rfl,hq⟩:=Kp.OD h;exact⟨unK q,by rw[<- Zo,Zn],by rw[Zn];exact hq⟩
open Go Go.Vl Go.RowKit Go.ChangeShapes
def argTypes:List TypeId:=[26,9,3,22,23,24,57,120,122,28,54,5,27,51,65]
theorem DU:wI Tryz.prog argTypes=true:=by kernel_rfl
theorem Uh:laidOutB Tryz.prog=true:=by kernel_rfl
theorem ak5:ownKnob Tryz.prog.godebug=none:=by kernel_rfl
def Aq:List (String×DataW Unit):=[("custody/check.own",Rows.laid_custody_check_own)]
theorem Ui:Tryz.prog.globalNamed "custody/check.own" = some 0:=by kernel_rfl
theorem amY:(Tryz.prog.globals[0]?).map (·.type)=some 65:=by kernel_rfl
theorem adC:vA (Rows.laid_custody_check_own:DataW Unit)=some [.lit (.int .i64 23),.lit (.int .i64 24),.lit (.int .i64 25)]:=by kernel_rfl
def glO:Gl:=λg=>if g=0 then some [.lit (.int .i64 23),.lit (.int .i64 24),.lit (.int .i64 25)] else none
theorem ak6:GV glO:=rfl
set_option maxRecDepth 100000 in
theorem ak7 {W:World} (h:laidMetH Tryz.prog Aq W):GOK glO (CM W) W:=by
 have h':laidMet Tryz.prog Aq W:=by rw[Go.MakeChecks.laidMetH_plain _ _ _ (by kernel_rfl)] at h;exact h
 intro g cs hg;obtain⟨ps,hv,_⟩:=h';unfold gat at hg;split at hg
 .cases hg
 .unfold glO at hg
  split at hg
  .rename_i h0
   simp only[ao] at hg;subst hg;subst h0;exact J8 DU Ui amY (by simp[argTypes]) (d:=Rows.laid_custody_check_own) adC Aq ps hv (bJ ..)
  .cases hg
theorem Zq (os:Os) (args:Array Value):laidMet Tryz.prog Aq ((World.doorLaid Tryz.prog 400 os).forCall (λ_ _=>0) ⟨#[],args,[]⟩).memory:=
 laidMet_of_run' 8 (by kernel_rfl) (by kernel_rfl)
theorem Uj (os:Os) (args:Array Value):laidMetH Tryz.prog Aq ((World.doorLaid Tryz.prog 400 os).forCall (λ_ _=>0) ⟨#[],args,[]⟩).memory:=by rw[Go.MakeChecks.laidMetH_plain _ _ _ (by kernel_rfl)];exact Zq os args
def amZ:Value:=.agg #[.string ⟨#[]⟩,.slice none 0 0,.slice none 0 0,.slice none 0 0]
theorem OG {x:List V} {a b c:TypeId} (h:x8 Tryz.prog [a,b,c] x):∃ u v w,x=[u,v,w]/\(∃ n cs,Shp Tryz.prog n a cs/\u=x7 Tryz.prog a cs)/\(∃ n cs,Shp Tryz.prog n b cs/\v=x7 Tryz.prog b cs)/\(∃ n cs,Shp Tryz.prog n c cs/\w=x7 Tryz.prog c cs):=by
 match x,h with
 |[u,v,w],h=>exact⟨u,v,w,rfl,h.1,h.2.1,h.2.2.1⟩
