/- Check, Valid of the reference of layer 13. -/
import Derived.Test.YtloppcgcepgbnaaGreatDoorKpVlChk
import Derived.Test.YtloppcgcepgbnaaGreatDoorVlP2
import Derived.Test.YtloppcgcepgbnaaGreatDoorKpVlFun2
import Derived.Test.YtloppcgcepgbnaaGreatDoorKpVlShape
import Derived.Test.YtloppcgcepgbnaaGreatDoorVlLaw
import Derived.Test.YtloppcgcepgbnaaGreatDoorRows
import Derived.JoinedOf
import Derived.JoinedCond
import Derived.MakeChecks
set_option maxHeartbeats 4000000
set_option linter.all false
namespace Go.Proofs.YtloppcgcepgbnaaGreatDoor.Kp
open Go Go.Vl
set_option maxRecDepth 10000
def we:=jj @pkA (jj @ptA @pkP)
theorem LS {G:Gl} (p:Pol) (hp:PolIn p) (hsm:mi p<=4611686018427387904) :
 FnOK Tryz.prog G 46 [.agg (poC p)] (.tup [i64 (chk p).1,i64 (chk p).2]):=by
 refine bJ (rs:=[.tmp 2,.tmp 3]) false [] mixed Tryz.func46 rfl rfl rfl rfl (by kernel_rfl) (by simp) rfl rfl ?_;obtain⟨o1,o2,o3⟩:=hp.ok;have hit:mi p=p.types.length+p.rules.length+p.quorums.length:=rfl;simp only[we,seval];refine aC rfl (DG _ hp.nm) (λ_=>rfl) ?_;simp only[pkA,seval];refine aD (λhn=>?_) (λhn=>?_)
 .have hn:nA p.name=false:=by simpa using hn
  simp only[pkA,seval];rw[LQ hn];refine jb ?_ ?_<;>simp only[pkA,seval]
 have hn:nA p.name=true:=by simpa using hn
 simp only[pkA,seval];refine bz (λi:Nat=>hdS [(1,.bp 0 0),(5,i64 i)] [(poC p).map .c]) (λi=>p.types.length - i) (λi=>i<=p.types.length/\∀ j,j<i->itE p j=0) 0 ⟨ar _,by simp⟩ ?_ ?_
 .refine cg (by simp only[gz,aY,bn,gQ,aB,aF];rfl) (ar _) (by simp) (by simp[FL,aj]) (by simp[BL])
 rintro i ⟨hi,gw⟩ R bL bQ dq;simp only[we,seval,au];refine aD (λbF=>?_) (λfO=>?_)
 .have ht:i<p.types.length:=by simpa using bF
  have hw:=br (n:=(i:Int)+1) (k:=i+1) (by omega) (by omega);have bad:itE p i≠0->chk p=((i:Int),itE p i):=λh=>Iw hn (by omega) h gw;have good:itE p i=0->∀ j,j<i+1->itE p j=0:=λh j hj=>by
   rcases bZ j i with q | q
   .exact gw j q
   .have:j=i:=by omega
    subst this;exact h
  have e:itE p i=uW p.types i p.types[i]:=by unfold itE;rw[if_pos ht,aau ht]
  rw[e] at bad good;simp only[we,seval];refine aC rfl (UP p.types i ht o1 hp.tn) (λ_=>rfl) ?_;simp only[pkA,seval];refine aD (λhb=>?_) (λhg=>?_)
  .simp only[pkA,seval]
   refine dq _ ?_;simp only[pkA];rw[bad (by simpa using hb)];refine jb ?_ ?_<;>simp only[pkA,seval]
  .simp only[pkA,seval,hw]
   exact bL (i+1) _ ⟨ht,good (by simpa using hg)⟩ (by omega) (cg (by simp only[gz,aY,bn,gQ,aB,aF];rfl) (ar _) (by simp) (by simp[FL,aj]) (by simp[BL,bxs]))
 have:i=p.types.length:=by simp at fO;omega
 subst this;simp only[pkA];refine bQ _ _ ?_;clear bQ dq bL fO hi;simp only[pkA,seval];refine bz (λi:Nat=>hdS [(1,.bp 0 0),(7,i64 i)] [(poC p).map .c]) (λi=>p.rules.length - i) (λi=>i<=p.rules.length/\∀ j,j<p.types.length+i->itE p j=0) 0 ⟨ar _,gw⟩ ?_ ?_
 .refine cg (by simp only[gz,aY,bn,gQ,aB,aF];rfl) (ar _) (by simp) (by simp[FL,aj]) (by simp[BL,bxs])
 clear gw;rintro i ⟨hi,gw⟩ R bL bQ dq;simp only[we,seval,au];refine aD (λbF=>?_) (λfO=>?_)
 .have ht:i<p.rules.length:=by simpa using bF
  have hw:=br (n:=(i:Int)+1) (k:=i+1) (by omega) (by omega);have ME:=br (n:=(p.types.length:Int)+i) (k:=p.types.length+i) (by omega) (by omega);have bad:itE p (p.types.length+i)≠0->chk p=(((p.types.length+i:Nat):Int),itE p (p.types.length+i)):=λh=>Iw hn (by omega) h gw;have good:itE p (p.types.length+i)=0->∀ j,j<p.types.length+(i+1)->itE p j=0:=λh j hj=>by
   rcases bZ j (p.types.length+i) with q | q
   .exact gw j q
   .have:j=p.types.length+i:=by omega
    subst this;exact h
  have e:itE p (p.types.length+i)=uX p.rules i p.types.length p.rules[i]:=by unfold itE;rw[if_neg (by omega),if_pos (by omega),Nat.add_sub_cancel_left,aav ht]
  rw[e] at bad good;simp only[we,seval,au];refine aC rfl (UQ p.rules i p.types.length ht o2 (by omega)) (λ_=>rfl) ?_;simp only[pkA,seval];refine aD (λhb=>?_) (λhg=>?_)
  .simp only[we,seval,au,ME]
   refine dq _ ?_;simp only[pkA];rw[bad (by simpa using hb)];refine jb ?_ ?_<;>simp only[pkA,seval]
  .simp only[pkA,seval,hw]
   exact bL (i+1) _ ⟨ht,good (by simpa using hg)⟩ (by omega) (cg (by simp only[gz,aY,bn,gQ,aB,aF];rfl) (ar _) (by simp) (by simp[FL,aj]) (by simp[BL,bxs]))
 have:i=p.rules.length:=by simp at fO;omega
 subst this;simp only[pkA];refine bQ _ _ ?_;clear bQ dq bL fO hi;simp only[pkA,seval];refine bz (λi:Nat=>hdS [(1,.bp 0 0),(9,i64 i)] [(poC p).map .c]) (λi=>p.quorums.length - i) (λi=>i<=p.quorums.length/\∀ j,j<p.types.length+p.rules.length+i->itE p j=0) 0 ⟨ar _,gw⟩ ?_ ?_
 .refine cg (by simp only[gz,aY,bn,gQ,aB,aF];rfl) (ar _) (by simp) (by simp[FL,aj]) (by simp[BL,bxs])
 clear gw;rintro i ⟨hi,gw⟩ R bL bQ dq;simp only[we,seval,au];refine aD (λbF=>?_) (λfO=>?_)
 .have ht:i<p.quorums.length:=by simpa using bF
  have hw:=br (n:=(i:Int)+1) (k:=i+1) (by omega) (by omega);have ME:=br (n:=(p.types.length:Int)+p.rules.length) (k:=p.types.length+p.rules.length) (by omega) (by omega);have hw3:=br (n:=((p.types.length+p.rules.length:Nat):Int)+i) (k:=p.types.length+p.rules.length+i) (by omega) (by omega);have bad:itE p (p.types.length+p.rules.length+i)≠0->chk p=(((p.types.length+p.rules.length+i:Nat):Int),itE p (p.types.length+p.rules.length+i)):=λh=>Iw hn (by omega) h gw;have good:itE p (p.types.length+p.rules.length+i)=0->∀ j,j<p.types.length+p.rules.length+(i+1)->itE p j=0:=λh j hj=>by
   rcases bZ j (p.types.length+p.rules.length+i) with q | q
   .exact gw j q
   .have:j=p.types.length+p.rules.length+i:=by omega
    subst this;exact h
  have e:itE p (p.types.length+p.rules.length+i)=wa p.quorums i p.quorums[i]:=by have:p.types.length+p.rules.length+i - p.types.length - p.rules.length=i:=(by omega);unfold itE;rw[if_neg (by omega),if_neg (by omega),this,aaw ht]
  rw[e] at bad good;simp only[we,seval];refine aC rfl (LO p.quorums i ht o3) (λ_=>rfl) ?_;simp only[pkA,seval];refine aD (λhb=>?_) (λhg=>?_)
  .simp only[we,seval,au,ME,hw3]
   refine dq _ ?_;simp only[pkA];rw[bad (by simpa using hb)];refine jb ?_ ?_<;>simp only[pkA,seval]
  .simp only[pkA,seval,hw]
   exact bL (i+1) _ ⟨ht,good (by simpa using hg)⟩ (by omega) (cg (by simp only[gz,aY,bn,gQ,aB,aF];rfl) (ar _) (by simp) (by simp[FL,aj]) (by simp[BL,bxs]))
 have:i=p.quorums.length:=by simp at fO;omega
 subst this;simp only[pkA];refine bQ _ _ ?_;simp only[pkA,seval];rw[LP hn gw];refine jb ?_ ?_<;>simp only[pkA,seval]
theorem LU {G:Gl} (p:Pol) (hp:PolIn p) (hsm:mi p<=4611686018427387904):FnOK Tryz.prog G 25 [.agg (poC p)] (bo (O9 p)):=by refine bJ (rs:=[.tmp 2]) false [] mixed Tryz.func25 rfl rfl rfl rfl (by kernel_rfl) (by simp) rfl rfl ?_;simp only[we,seval];refine aC rfl (LS p hp hsm) (λh=>by cases h) ?_;simp only[pkA,seval];rfl
end Go.Proofs.YtloppcgcepgbnaaGreatDoor.Kp
namespace Go.Proofs.YtloppcgcepgbnaaGreatDoor
open Go Go.Vl
variable {G:Gl}
set_option maxRecDepth 100000
def kPo (p:Pol):Kp.Pol:=⟨p.name,p.types.map λt=>⟨t.name,t.flags,t.life⟩,p.rules.map λt=>⟨t.kind,t.a,t.b⟩,p.quorums.map λt=>⟨t.cmd,t.count,t.delay,t.valid,t.uses⟩⟩
def unK (p:Kp.Pol):Pol:=⟨p.name,p.types.map λt=>⟨t.name,t.flags,t.life⟩,p.rules.map λt=>⟨t.kind,t.a,t.b⟩,p.quorums.map λt=>⟨t.cmd,t.count,t.delay,t.valid,t.uses⟩⟩
theorem aay (p:Kp.Pol):kPo (unK p)=p:=by cases p;simp[kPo,unK,eU,j0]
theorem aaz (p:Pol):Kp.poC (kPo p)=poC p:=by cases p;simp[Kp.poC,poC,kPo,eU,j0];exact⟨rfl,λ_ _=>rfl,λ_ _=>rfl,λ_ _=>rfl⟩
def mq (p:Pol):Bool:=Kp.O9 (kPo p)
def GV (G:Gl):Prop:=G 0=some [.lit (.int .i64 23),.lit (.int .i64 24),.lit (.int .i64 25)]
structure DK (p:Pol):Prop where
 inn:Kp.PolIn (kPo p)
 sm:Kp.mi (kPo p)<=4611686018427387904
theorem Ge (hG:GV G) {p:Pol} (hp:DK p):FnOK Tryz.prog G 42 [.agg (poC p)] (bo (mq p)):=by rw[<- aaz];exact Kp.C4 hG (kPo p) hp.inn hp.sm
theorem LV {p:Pol} (hp:DK p):FnOK Tryz.prog G 25 [.agg (poC p)] (bo (mq p)):=by rw[<- aaz];exact Kp.LU (kPo p) hp.inn hp.sm
open Go Go.Vl Go.Proofs.YtloppcgcepgbnaaGreatDoor.Kw
theorem O7 {x:V} (h:∃ n cs,Shp Tryz.prog n 26 cs/\x=KD Tryz.prog 26 cs):∃ p:Pol,x=.agg (poC p)/\Kp.PolIn (kPo p):=by obtain⟨q,rfl,hq⟩:=Kp.O7 h;exact⟨unK q,by rw[<- aaz,aay],by rw[aay];exact hq⟩
open Go Go.Vl Go.RowKit Go.ChangeShapes
def argTypes:List TypeId:=[26,9,3,22,23,24,57,120,122,28,54,5,27,51,65]
theorem DL:wR Tryz.prog argTypes=true:=by kernel_rfl
theorem UR:laidOutB Tryz.prog=true:=by kernel_rfl
theorem anQ:ownKnob Tryz.prog.godebug=none:=by kernel_rfl
def Au:List (String×DataW Unit):=[("custody/check.own",Rows.laid_custody_check_own)]
theorem US:Tryz.prog.globalNamed "custody/check.own" = some 0:=by kernel_rfl
theorem ap4:(Tryz.prog.globals[0]?).map (·.type)=some 65:=by kernel_rfl
theorem afH:vJ (Rows.laid_custody_check_own:DataW Unit)=some [.lit (.int .i64 23),.lit (.int .i64 24),.lit (.int .i64 25)]:=by kernel_rfl
def glO:Gl:=λg=>if g=0 then some [.lit (.int .i64 23),.lit (.int .i64 24),.lit (.int .i64 25)] else none
theorem anR:GV glO:=rfl
set_option maxRecDepth 100000 in
theorem anS {W:World} (h:laidMetH Tryz.prog Au W):GOK glO (CO W) W:=by
 have h':laidMet Tryz.prog Au W:=by rw[Go.MakeChecks.laidMetH_plain _ _ _ (by kernel_rfl)] at h;exact h
 intro g cs hg;obtain⟨ps,hv,_⟩:=h';unfold gat at hg;split at hg
 .cases hg
 .unfold glO at hg
  split at hg
  .rename_i h0
   simp only[ao] at hg;subst hg;subst h0;exact KF DL US ap4 (by simp[argTypes]) (d:=Rows.laid_custody_check_own) afH Au ps hv (bD ..)
  .cases hg
theorem aaA (os:Os) (args:Array Value):laidMet Tryz.prog Au ((World.doorLaid Tryz.prog 400 os).forCall (λ_ _=>0) ⟨#[],args,[]⟩).memory:=
 laidMet_of_run' 8 (by kernel_rfl) (by kernel_rfl)
theorem UT (os:Os) (args:Array Value):laidMetH Tryz.prog Au ((World.doorLaid Tryz.prog 400 os).forCall (λ_ _=>0) ⟨#[],args,[]⟩).memory:=by rw[Go.MakeChecks.laidMetH_plain _ _ _ (by kernel_rfl)];exact aaA os args
def ap5:Value:=.agg #[.string ⟨#[]⟩,.slice none 0 0,.slice none 0 0,.slice none 0 0]
theorem aaB {x:List V} {a:TypeId} (h:yi Tryz.prog [a] x):∃ u,x=[u]/\(∃ n cs,Shp Tryz.prog n a cs/\u=KD Tryz.prog a cs):=by
 match x,h with
 |[u],h=>exact⟨u,rfl,h.1⟩
