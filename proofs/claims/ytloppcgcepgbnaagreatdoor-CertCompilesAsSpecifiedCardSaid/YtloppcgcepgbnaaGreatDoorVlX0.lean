/- Layer 17: all: are all facts of a list in a set? -/
import Derived.Test.YtloppcgcepgbnaaGreatDoorVlI1
import Derived.Test.YtloppcgcepgbnaaGreatDoorVlR2
import Derived.Test.YtloppcgcepgbnaaGreatDoorVlTree
import Derived.Test.YtloppcgcepgbnaaGreatDoorVlH2
import Derived.Test.YtloppcgcepgbnaaGreatDoorSrt
import Derived.Test.YtloppcgcepgbnaaGreatDoorVlSrt
import Derived.Test.YtloppcgcepgbnaaGreatDoorVlFlb
set_option maxHeartbeats 1000000
set_option linter.all false
namespace Go.Proofs.YtloppcgcepgbnaaGreatDoor
open Go Go.Vl
variable {G:Gl}
set_option maxRecDepth 4000
def yw (l:List Fa):List (List V):=[ln faC l,[.mr 0],[.bp 1 0]]
theorem vr {l:List Fa}:yw l=[ln faC l,[.mr 0],[.bp 1 0]]:=rfl
theorem aeU {i o:Nat}:ck [V.bp i o]=false:=rfl
theorem gbp {nb q i o:Nat} {K:V->Prop}:ldB nb q [.bp i o] 0 K=(q<nb/\K (.bp i o)):=rfl
def ank:=jj @pkS (jj @aeU @gbp)
theorem Bm {l:List Fa} {r:V} {t:Tmp} {e:VE} {fr:Nat->V} {bx:Nat->List V} {nb:Nat} (he:rV e=true) (hn:3<=nb) (h0:bx 0=ln faC l) (h1:bx 1=[.mr 0]) (h2:bx 2=[.bp 1 0]) (ht:fr t=r) (hr:r.ltB 3=true) (MP:r.fz=r):x7 Tryz.prog 3 r (yw l) [.tmp t] e ⟨fr,bx,nb⟩:=
 nO [(t,r)] he (by simp only[gz,yw,aY,bn,jd,hr,aB,aF];rfl) (ab _) hn ⟨ht,trivial⟩ ⟨h0,h1,h2,trivial⟩ (by simp[hdS,frs,pZ,up])
theorem H9 {l:List Fa} {xs:List V} (h:xs.all (λx=>x.ltB 3)=true):lD xs (yw l)=true:=by simp only[lD,yw,aY,bn,jd,aB,aF,h];rfl
def agx:=jj @pkA (jj @ptA @ank)
theorem Zx (l:List Fa) (f:Fa):FnB Tryz.prog G 73 [.agg (faC f),.bp 2 0] (yw l) (bo (!decide (f∈l))) (yw l):=by refine jL (rs:=[.tmp 3]) (k:=3) [3000003] mixed Tryz.func73 rfl rfl rfl rfl (by kernel_rfl) (by simp) rfl rfl rfl (H9 rfl) (ab _) ?_;simp only[agx,seval,vr];refine H8 rfl (show 0<4 by decide) ?_;simp only[pkA,seval];exact Bm rfl (show 3<=4 by decide) rfl rfl rfl (by simp[]) rfl rfl
def Ap:=jj @pkA @ptA
theorem Ld (l fs:List Fa) (hm:fs.length<=1000000000):FnB Tryz.prog G 108 [.c (fsC fs),.clo (.func 73) [] [.bp 2 0]] (yw l) (i64 (qO (λf=>!decide (f∈l)) fs)) (yw l):=by
 refine jL (rs:=[.tmp 4]) (k:=3) [1000016,3000003] mixed Tryz.func108 rfl rfl rfl rfl (by kernel_rfl) (by simp) rfl rfl rfl (H9 rfl) (ab _) ?_;have setren:∀ (ρ:Nat->Nat) (m:List Fa),(ln faC m).map (V.ren ρ)=ln faC m:=λρ m=>uw;simp only[Ap,seval,vr,fsC];refine bz (λi:Nat=>hdS [(0,.c (.sl (fs.map faC))),(1,.clo (.func 73) [] [.bp 2 0]),(7,i64 fs.length),(8,i64 i)] (yw l)) (λi=>fs.length - i) (λi=>i<=fs.length/\∀ j (h:j<fs.length),j<i->(!decide (fs[j]∈l))=false) 0 ⟨ar _,λj h h'=>absurd h' (gW _)⟩ ?_ ?_
 .refine cg (by simp only[gz,yw,aY,bn,jd,aB,aF];rfl) (ab _) (ab _) ?_ ⟨rfl,rfl,rfl,trivial⟩
  simp[FL,aj]
 rintro i ⟨hi,gw⟩ R bL bQ dq;simp only[pkA,seval,vr];refine aD (λbF=>?_) (λfO=>?_)
 .have bF:i<fs.length:=by simpa using bF
  simp only[pkA,seval];refine dP dY rfl eK (by decide) (ay i) (c:=faC fs[i]) (by simp[bF]) rfl ?_;simp only[agx,seval];refine vl rfl (Zx l fs[i]) rfl rfl ⟨rfl,rfl,rfl,trivial⟩ ?_;simp only[pkA,seval,vr];refine aD (λhy=>?_) (λhn=>?_)
  .simp only[pkA,seval]
   refine dq _ ?_;simp only[pkA];rw[oI bF hy gw];exact Bm rfl (ab _) rfl rfl rfl (by simp[]) rfl rfl
  .have hw:=br (n:=(i:Int)+1) (k:=i+1) (by omega) (by omega)
   simp only[pkA,seval];refine bL (i+1) _ ⟨bF,λj h hj=>?_⟩ (by omega) (cg (by simp only[gz,yw,aY,bn,jd,aB,aF];rfl) (ab _) (ab _) ?_ ⟨rfl,rfl,rfl,trivial⟩)
   .rcases bZ j i with h1 | h1
    .exact gw j h h1
    .have:j=i:=by omega
     subst this;exact hn
   .simp[FL,aj,hw]
 .have:i=fs.length:=by simp at fO;omega
  subst this;simp only[pkA];refine bQ _ _ ?_;simp only[pkA,seval];rw[lM (λj h _=>gw j h h)];exact Bm rfl (ab _) rfl rfl rfl (by simp[]) rfl rfl
theorem Dh (l fs:List Fa) (hm:fs.length<=1000000000):FnB Tryz.prog G 72 [.c (fsC fs),.clo (.func 73) [] [.bp 2 0]] (yw l) (bo (fs.any λf=>!decide (f∈l))) (yw l):=by refine jL (rs:=[.tmp 4]) (k:=3) [1000007,3000003] mixed Tryz.func72 rfl rfl rfl rfl (by kernel_rfl) (by simp) rfl rfl rfl (H9 rfl) (ab _) ?_;simp only[pkA,seval,vr];refine vl rfl (Ld l fs hm) rfl rfl ⟨rfl,rfl,rfl,trivial⟩ ?_;simp only[pkA,seval,vr];rw[jT];exact Bm rfl (ab _) rfl rfl rfl (by simp[]) rfl rfl
theorem Um (l fs:List Fa) (hm:fs.length<=1000000000):FnB Tryz.prog G 52 [.bp 1 0,.c (fsC fs)] (xb l) (bo (fs.all λf=>decide (f∈l))) (xb l):=by refine jL (rs:=[.tmp 4]) (k:=2) [1000007,3000002] mixed Tryz.func52 rfl rfl rfl rfl (by kernel_rfl) (by simp) rfl rfl rfl (by simp only[lD,xb,aY,bn,jd,aB,aF];rfl) (ab _) ?_;simp only[pkA,seval,yv];refine vl rfl (Dh l fs hm) rfl rfl ⟨rfl,rfl,rfl,trivial⟩ ?_;simp only[pkA,seval];refine Zu rfl (show 2<=3 by decide) rfl rfl ?_ rfl rfl;simp[List.all_eq_not_any_not]
def qB (now next:V) (n:Int):List V:=[now,next,i64 n]
theorem OL {now next:V} {n:Int} {B1:List V} (h:now.ltB 2=true) (hx:next.ltB 2=true) (hB:(B1.all λv=>v.ltB 2)=true):([qB now next n,B1]:List (List V)).all (λb=>b.all λx=>x.ltB 2)=true:=by simp only[qB,aY,bn,h,hx,hB];rfl
theorem Zy {xs:List V} {now next:V} {n:Int} {B1:List V} (tW:xs.all (λx=>x.ltB 2)=true) (h:now.ltB 2=true) (hx:next.ltB 2=true) (hB:(B1.all λv=>v.ltB 2)=true):lD xs [qB now next n,B1]=true:=by simp only[lD,aB,aF,tW];exact OL h hx hB
theorem Qs (x:C) (now:V) (B1:List V) (num:Int) (es:List (List C)) (E:Option (TypeId×Nat)) (hE:E=none∨E=some (156,1)) (pG:∀ e∈es,e.length=1) (hm:es.length<1000000) (A4:now.ltB 2=true) (Va:now.isMk=false) (hB:(B1.all λv=>v.ltB 2)=true) :
 FnB Tryz.prog G 136 [.bp 0 0,.c x] [qB now (.gs none E es) num,B1] (.tup []) [qB now (.gs none (some (156,1)) (es++[[x]])) num,B1]:=by
 refine jL (rs:=[]) (k:=2) [2300000,2400011,3000002] mixed Tryz.func136 rfl rfl rfl rfl (by kernel_rfl) (by simp) rfl rfl rfl (Zy rfl A4 rfl hB) (ab _) ?_;have ly:ck (qB now (.gs none E es) num)=false:=Va;simp only[pkA,seval];refine rm rfl (.split 0 1 11 (g:=none) (E:=E) (es:=es) (show 0<2 by decide) ly rfl rfl λv _ hgv=>.done ?_);have af6:ck [now,V.c (.ex v),i64 num]=false:=Va;have hl:∀ K,ldB 2 0 [now,V.c (.ex v),i64 num] 1 K=K (.c (.ex v)):=λK=>by unfold ldB;exact propext ⟨λh=>h.2,λh=>⟨by decide,h⟩⟩
 simp only[Ap,seval,qB,af6,hl,dx,wy];refine N7 (v:=v) (E:=E) (es:=es) (y1:=[x]) (sz:=1) (by_:=8) lv rfl rA rfl rfl rfl (by decide) rfl (by simp[aj]) (by simp[aj]) ⟨by decide,by simp,by simp⟩ rfl hE pG rfl (by omega) (by omega) ?_;simp only[Ap,seval,af6];rw[ahV (by simp[aj])];refine⟨⟨by decide,by simp⟩,?_⟩;simp only[pkA,seval];exact nO [] rfl (by simp only[gz];exact Bool.and_eq_true_iff.2 ⟨rfl,OL (n:=num) A4 rfl hB⟩) (ab _) (ab 2) trivial ⟨by simp[],by simp[aj,bxs],trivial⟩ nW
theorem aeV {fr:Nat->V} {bx:Nat->List V} {nb b o:Nat} {K:Vl.S->Prop}:stS 1 none none b o (.ow none []) ⟨fr,bx,nb⟩ K=((b<nb/\o+1<=(bx b).length)/\K ⟨fr,up bx b (eQ (bx b) o [.ow none []]),nb⟩):=by simp[stS,V.bcells,S.use,S.put]
theorem aeW (B1:List V) (num:Nat) (es:List (List C)) (E:Option (TypeId×Nat)) (now:V) (hn:num<1000000) (hm:es.length<1000000) (A4:now.ltB 2=true) (Va:now.isMk=false) (hB:(B1.all λv=>v.ltB 2)=true) :
 FnB Tryz.prog G 137 [.bp 0 0] [qB now (.gs none E es) (num:Int),B1] (bo (decide (0<es.length))) [qB (.gs none E es) (.ow none []) ((num+1:Nat):Int),B1]:=by
 refine jL (rs:=[.tmp 2]) (k:=2) [2850001,2890001,2380008,2850003,2890003,3000002] mixed Tryz.func137 rfl rfl rfl rfl (by kernel_rfl) (by simp) rfl rfl rfl (Zy rfl A4 rfl hB) (ab _) ?_;simp only[pkA,seval];refine ux ?_;simp only[Ap,seval,dX,dT,nS,nG,gu];have ly:ck (qB now (.gs none E es) (num:Int))=false:=Va;refine .split 0 1 5 (g:=none) (E:=E) (es:=es) (show 0<2 by decide) ly rfl rfl λv _ hgv=>.done ?_;have af6:∀ x:V,ck [now,x,i64 (num:Int)]=false:=λ_=>Va;have aq0:∀ y:V,ck [V.c (.ex v),y,i64 (num:Int)]=false:=λ_=>rfl;have hl:∀ K,ldB 2 0 [now,V.c (.ex v),i64 (num:Int)] 1 K=K (.c (.ex v)):=λK=>by unfold ldB;exact propext ⟨λh=>h.2,λh=>⟨by decide,h⟩⟩
 simp only[Ap,seval,dX,dT,nS,nG,gu,qB,af6,aq0,hl];rw[aeV];refine⟨⟨by decide,by simp⟩,?_⟩;simp only[dT];refine .joinS 0 0 5 (v:=v) (E:=E) (es:=es) (show 0<2 by decide) (by simp[eQ];rfl) (by simp[eQ]) (by simp[aj]) (.done ?_);have alh:=br (n:=(num:Int)+1) (k:=num+1) (by omega) (by omega);simp only[Ap,seval,eQ];refine⟨rfl,rfl,ux ?_⟩;have aoL:∀ K,K (i64 (es.length:Int))->fq Tryz.prog 153 (.c (.ex v)) K:=λK hK=>by
  rcases hgv with⟨blk,cap,rfl,_⟩ | ⟨h0,_,c,rfl⟩
  .exact Bd lv rfl hK
  .subst h0
   exact Bd lv rfl hK
 have hl2:∀ n K,ldB 2 0 [V.gs (some v) E es,V.ow none [],n] 0 K=K (.c (.ex v)):=λn K=>by unfold ldB;exact propext ⟨λh=>h.2,λh=>⟨by decide,h⟩⟩
 have aq1:∀ n,ck [V.gs (some v) E es,V.ow none [],n]=false:=λ_=>rfl;simp only[Ap,seval,dX,dT,nS,nG,gu,hl2,aq1];refine aoL _ ?_;simp only[pkA,seval,dX,dT,nS,nG,gu];refine .unname 0 0 (g:=some v) (E:=E) (es:=es) (show 0<2 by decide) (by simp[]) (.done ?_);simp only[pkA,seval,S.cell,alh];exact nO [(2,bo (decide (0<es.length)))] rfl (by simp only[gz];exact Bool.and_eq_true_iff.2 ⟨rfl,OL (now:=.gs none E es) (n:=((num+1:Nat):Int)) rfl rfl hB⟩) (ab _) (ab 2) ⟨by simp[],trivial⟩ ⟨by simp[],by simp[aj,bxs],trivial⟩ (by simp[hdS,frs,pZ,up])
structure Wt where
 x:In
 order:Int
 missing:Int
 deriving DecidableEq
def wtC (w:Wt):List C:=inC w.x++[cI w.order,cI w.missing]
theorem pw3 {w:Wt} {K:V->Prop}:cQ false 1 3 (wtC w) K=K (i64 w.order):=rfl
theorem aeX (a b:Wt):FnOK Tryz.prog G 139 [.c (.rp (wtC a) 0),.c (.rp (wtC b) 0)] (i64 (qF a.order b.order)):=by refine bJ (rs:=[.tmp 4]) false [] mixed Tryz.func139 rfl rfl rfl rfl (by kernel_rfl) (by simp) rfl rfl ?_;simp only[Ap,seval,pw3];refine aC rfl (qT _ _) (λ_=>rfl) ?_;simp only[pkA,seval]
open Go Go.Vl Go.Sort
def wtP (w:Wt):C:=.rp (wtC w) 0
def aeY (a b:Wt):Int:=qF a.order b.order
theorem sg (a b:Wt):ltOf aeY a b=decide (a.order<b.order):=by
 simp only[ltOf,aeY,qF];by_cases h:a.order<b.order
 .simp[h]
 .by_cases h2:b.order<a.order<;>simp[h,h2]
theorem Zz:SWO (ltOf aeY):=⟨λx=>by rw[sg];simp,λx y z h1 h2=>by rw[sg] at *;simp at *;omega,λx y z h1 h2=>by rw[sg] at *;simp at *;omega⟩
theorem ZA:∃ fn,Tryz.prog.funcs[138]?=some fn/\(fn.name== "runtime.NumGoroutine")=false/\∃ b,fn.body=some b:=⟨_,Tryz.func138,rfl,_,rfl⟩
theorem ZB (l l':List Wt) (gZ:0<l.length) (hl:l.length<4611686018427387904) (hp:l'.Perm l) (hs:l'.Pairwise λx y=>x.order<=y.order) (hu:∀ x∈l,∀ y∈l,x.order=y.order->x=y) (cap:Nat) (hc:l.length<=cap) :
 FnB Tryz.prog G 138 [.ms 0 0 l.length cap 1,.c (.fn (.func 139) [] [])] [flb (λx=>[wtP x]) l] (.tup []) [flb (λx=>[wtP x]) l']:=
 Tu (ρ:=Tryz.sortWt_ren) (c1:=wtP) Tryz.sortWt ZA aeY Zz 139 [] (enters_of Tryz.func139 (by kernel_rfl) rfl) (λx y=>aeX x y)
  l l' gZ hl hp (hs.imp λh=>by rw[sg];simpa using h) (λx hx y hy h1 h2=>by rw[sg] at h1 h2;simp at h1 h2;exact hu x hx y hy (by omega)) cap hc
inductive It where
 |ob (i:Nat)
 |us (f:Fa)
 deriving DecidableEq
def obP (b:Nat):C:=.ex (.pointer (some ⟨b,0,none⟩))
def obV (b:Nat):V:=.c (obP b)
def obG (b:Nat) (w:Wt):V:=.gg (.slice (some ⟨b,0,none⟩) 1 1) (some (158,5)) [wtC w]
def usG (v:Value) (l:List Nat):V:=.gg v (some (156,1)) (l.map λb=>[obP b])
structure Me where
 its:List It
 bl:Nat->Nat
 hd:Fa->Value
def sh (m:Me) (ob:Nat->Option Wt) (u:Fa->List Nat):It->V
 | .ob i=>match ob i with
  |some w=>obG (m.bl i) w
  |none=>.un
 | .us f=>usG (m.hd f) ((u f).map m.bl)
def cells (m:Me) (ob:Nat->Option Wt) (u:Fa->List Nat):List V:=m.its.map (sh m ob u)
structure Mw (m:Me) (n:Nat) (keys:List Fa) (u:Fa->List Nat):Prop where
 nd:m.its.Nodup
 us:∀ f,It.us f∈m.its↔f∈keys
 ob:∀ i,It.ob i∈m.its↔i<n
 hd:∀ f∈keys,∃ blk cap,m.hd f=.slice (some ⟨blk,0,none⟩) (u f).length cap
 lt:∀ f,∀ i∈u f,i<n
 ku:∀ f,f∉keys->u f=[]
 kn:keys.Nodup
def upF {β:Type} (h:Fa->β) (f:Fa) (v:β):Fa->β:=λg=>if g=f then v else h g
theorem oM {β:Type} {h:Fa->β} {f:Fa} {v:β}:upF h f v f=v:=if_pos rfl
theorem rD {β:Type} {h:Fa->β} {f g:Fa} {v:β} (hn:g≠f):upF h f v g=h g:=if_neg hn
def upO {β:Type} (ob:Nat->β) (i:Nat) (w:β):Nat->β:=λj=>if j=i then w else ob j
theorem yy {β:Type} {ob:Nat->β} {i:Nat} {w:β}:upO ob i w i=w:=if_pos rfl
theorem OM {β:Type} {ob:Nat->β} {i j:Nat} {w:β} (hn:j≠i):upO ob i w j=ob j:=if_neg hn
theorem oo {α β:Type} {f g:α->β} {a:α}:∀ {l:List α} {c:Nat},l.Nodup->l[c]?=some a->(∀ x∈l,x≠a->f x=g x)->(l.map f).set c (g a)=l.map g
 |[],_,_,h,_=>by simp at h
 |x::l,0,hn,h,hg=>by simp only[bP,ao] at h;subst h;rw[bB,kT,bB];congr 1;refine bS λy hy=>hg y (aP _ hy) ?_;rintro rfl;exact(jN.1 hn).1 hy
 |x::l,c+1,hn,h,hg=>by rw[bB,jC,bB,oo (jN.1 hn).2 h λy hy=>hg y (aP _ hy)];congr 1;refine hg x (bD ..) ?_;rintro rfl;exact(jN.1 hn).1 (aV h)
section
variable {m:Me} {n:Nat} {keys:List Fa} {u:Fa->List Nat} {ob:Nat->Option Wt}
theorem Un (h:Mw m n keys u) (b:Nat) (w:Wt):cells ⟨m.its++[.ob n],upO m.bl n b,m.hd⟩ (upO ob n (some w)) u=cells m ob u++[obG b w]:=by
 unfold cells;rw[dh,gk];congr 1
 .refine bS λit hit=>?_
  cases it with
  |ob i=>have:=(h.ob i).1 hit;have gZ:i≠n:=(by omega);simp only[sh,OM gZ]
  |us f=>simp only[sh];congr 1;refine bS λi hi=>?_;have:=h.lt f i hi;exact OM (by omega)
 .simp only[sh,yy]
theorem Mw.new (h:Mw m n keys u) (b:Nat):Mw ⟨m.its++[.ob n],upO m.bl n b,m.hd⟩ (n+1) keys u where
 nd:=by rw[iV];refine⟨h.nd,by simp,λx hx y hy=>?_⟩;simp only[aX] at hy;subst hy;rintro rfl;have:=(h.ob n).1 hx;omega
 us:=λf=>by simp[h.us f]
 ob:=λi=>by simp only[ba,h.ob i,aX,It.ob.injEq];omega
 hd:=h.hd
 lt:=λf i hi=>by have:=h.lt f i hi;omega
 ku:=h.ku
 kn:=h.kn
theorem yz {it:It} (hit:it∈m.its):∃ c,c<m.its.length/\m.its[c]?=some it/\(cells m ob u)[c]?=some (sh m ob u it):=by obtain⟨c,hc⟩:=eB.1 hit;refine⟨c,(ai.1 hc).1,hc,?_⟩;unfold cells;rw[bj,hc];rfl
theorem FP:(cells m ob u).length=m.its.length:=au ..
theorem ON (h:Mw m n keys u) {f:Fa} {c:Nat} (hc:m.its[c]?=some (.us f)) (v:Value) (i:Nat):(cells m ob u).set c (usG v ((u f++[i]).map m.bl))=cells ⟨m.its,m.bl,upF m.hd f v⟩ ob (upF u f (u f++[i])):=by
 unfold cells;have e:usG v ((u f++[i]).map m.bl)=sh ⟨m.its,m.bl,upF m.hd f v⟩ ob (upF u f (u f++[i])) (.us f):=by simp only[sh,oM]
 rw[e];refine oo h.nd hc λit hit gZ=>?_;cases it with
 |ob j=>rfl
 |us g=>have hg:g≠f:=λe=>gZ (by rw[e]);simp only[sh,rD hg]
theorem Lh (h:Mw m n keys u) {f:Fa} (hf:f∉keys) (v:Value) (i:Nat):cells ⟨m.its++[.us f],m.bl,upF m.hd f v⟩ ob (upF u f (u f++[i]))=cells m ob u++[usG v ((u f++[i]).map m.bl)]:=by
 unfold cells;rw[dh,gk];congr 1
 .refine bS λit hit=>?_
  cases it with
  |ob i=>rfl
  |us g=>have hg:g≠f:=(by rintro rfl;exact hf ((h.us g).1 hit));simp only[sh,rD hg]
 .simp only[sh,oM]
theorem Mw.more (h:Mw m n keys u) {f:Fa} (hf:f∈keys) {v:Value} {i:Nat} (hi:i<n) (hv:∃ blk cap,v=.slice (some ⟨blk,0,none⟩) (u f++[i]).length cap):Mw ⟨m.its,m.bl,upF m.hd f v⟩ n keys (upF u f (u f++[i])) where
 nd:=h.nd
 us:=h.us
 ob:=h.ob
 hd:=λg hg=>by
  by_cases e:g=f
  .subst e;simp only[oM];exact hv
  .simp only[rD e];exact h.hd g hg
 lt:=λg j hj=>by
  by_cases e:g=f
  .subst e;rw[oM] at hj
   rcases ba.1 hj with h2 | h2
   .exact h.lt g j h2
   .simp only[aX] at h2;omega
  .rw[rD e] at hj;exact h.lt g j hj
 ku:=λg hg=>by
  have e:g≠f:=by rintro rfl;exact hg hf
  rw[rD e];exact h.ku g hg
 kn:=h.kn
theorem Mw.first (h:Mw m n keys u) {f:Fa} (hf:f∉keys) {v:Value} {i:Nat} (hi:i<n) (hv:∃ blk cap,v=.slice (some ⟨blk,0,none⟩) (u f++[i]).length cap):Mw ⟨m.its++[.us f],m.bl,upF m.hd f v⟩ n (keys++[f]) (upF u f (u f++[i])) where
 nd:=by rw[iV];refine⟨h.nd,by simp,λx hx y hy=>?_⟩;simp only[aX] at hy;subst hy;rintro rfl;exact hf ((h.us f).1 hx)
 us:=λg=>by simp[h.us g]
 ob:=λj=>by simp[h.ob j]
 hd:=λg hg=>by
  by_cases e:g=f
  .subst e;simp only[oM];exact hv
  .simp only[rD e]
   refine h.hd g ?_;rcases ba.1 hg with h2 | h2
   .exact h2
   .simp only[aX] at h2;exact absurd h2 e
 lt:=λg j hj=>by
  by_cases e:g=f
  .subst e;rw[oM] at hj
   rcases ba.1 hj with h2 | h2
   .exact h.lt g j h2
   .simp only[aX] at h2;omega
  .rw[rD e] at hj;exact h.lt g j hj
 ku:=λg hg=>by
  have e:g≠f:=by rintro rfl;exact hg (by simp)
  rw[rD e];exact h.ku g λh2=>hg (fG _ h2)
 kn:=by rw[iV];refine⟨h.kn,by simp,λx hx y hy=>?_⟩;simp only[aX] at hy;subst hy;rintro rfl;exact hf hx
theorem Di (h:Mw m n keys u) {i c:Nat} (hc:m.its[c]?=some (.ob i)) (w:Option Wt):(cells m ob u).set c (match w with | some w=>obG (m.bl i) w | none=>.un)=cells m (upO ob i w) u:=by
 unfold cells;have e:(match w with | some w=>obG (m.bl i) w | none=>V.un)=sh m (upO ob i w) u (.ob i):=by simp only[sh,yy]
 rw[e];refine oo h.nd hc λit hit gZ=>?_;cases it with
 |ob j=>have hj:j≠i:=λe=>gZ (by rw[e]);simp only[sh,OM hj]
 |us g=>rfl
end
def exV (v:Value):V:=.c (.ex v)
def faV (f:Fa):V:=.agg (faC f)
def uM (l:List (Fa×Value)):List V:=qE faV exV l
def hds (keys:List Fa) (hd:Fa->Value):List (Fa×Value):=keys.map λf=>(f,hd f)
theorem Qv {keys:List Fa} {hd:Fa->Value}:(hds keys hd).map (·.1)=keys:=by unfold hds;rw[eU];exact List.map_id keys
theorem ZC {ρ:Nat->Nat} {l:List (Fa×Value)}:(uM l).map (V.ren ρ)=uM l:=Kr (λ_=>rfl) λ_=>rfl
theorem Ia {k:Nat} {l:List (Fa×Value)}:(uM l).all (λx=>x.ltB k)=true:=Ks (λ_=>rfl) λ_=>rfl
theorem aeZ:∀ w,(zeroValue 153).run Tryz.prog w=.ok (.slice none 0 0) w:=λw=>rfl
theorem aj8:Tryz.prog.underlying 152=some (.map 54 153):=by kernel_rfl
theorem agy {s:Vl.S} {i:Nat} {l:List (Fa×Value)} {f:Fa} (hb:s.bx i=uM l) (hi:i<s.nb) {KM:Nat->List Nat->Nat->List V->Option Nat->V->Prop}
 (hK:KM i (List.range l.length) l.length (nf faV exV l) (wQ l f) (.c (.sl []))):gX Tryz.prog 152 s (.mr i) (faV f) KM:=
 HJ (c:=faC) CW rfl eK rfl lv rfl ai6 (λ_=>rfl) (λ_=>rfl) CY hb hi hK
theorem anl {s:Vl.S} {i:Nat} {l:List (Fa×Value)} {f:Fa} {K:Vl.S->V->Prop} (hb:s.bx i=uM l) (hi:i<s.nb) (h1:∀ (j:Nat) (v:Value),l[j]?=some (f,v)->K s (.tup [exV v,i64 j]))
 (h2:f∉l.map (·.1)->K { s with bx:=up s.bx i (uM (l++[(f,.slice none 0 0)])) } (.tup [nilC,i64 l.length])):MX Tryz.prog 152 s (.mr i) (faV f) K:=by
 refine⟨_,_,⟨aj8,aeZ⟩,agy hb hi ?_⟩;cases hj:wQ l f with
 |none=>
  have h3:=h2 (zg hj);have e:List.range (l++[(f,Value.slice none 0 0)]).length=List.range l.length++[l.length]:=by rw[ae,bA,List.range_succ]
  unfold uM qE at h3;rw[e,qP,ae,bA] at h3;exact h3
 |some j=>
  obtain⟨v,hv⟩:=pM hj;have e:=(rW (f:=faV) (h:=exV) l j (f,v) hv).1;have bF:=(ai.1 hv).1;have e2:(List.range l.length).getD j 0=j:=by simp[aA,bF]
  simp only[e,e2];exact h1 j v hv
theorem agz {s:Vl.S} {i j:Nat} {l:List (Fa×Value)} {f:Fa} {v0 v:Value} {K:Vl.S->Prop} (hb:s.bx i=uM l) (hi:i<s.nb) (hj:l[j]?=some (f,v0)) (hK:K { s with bx:=up s.bx i (uM (l.set j (f,v))) }):fJ s (.mr i) (i64 j) (exV v) K:=by
 have bF:=(ai.1 hj).1;unfold fJ;simp only[hb,uM,qE];have hf:(List.range l.length).findIdx? (λ(b:Nat)=>(b:Int)==(j:Int))=some j:=by rw[eF];refine⟨by simpa using bF,by simp,λk hk=>by simp;omega⟩
 simp only[hf];refine⟨hi,?_⟩;unfold uM qE at hK;rw[gi] at hK;rw[show(exV v).fz=exV v from rfl,yd l j f v0 v hj];exact hK
theorem ae0 {s:Vl.S} {i:Nat} {l:List (Fa×Value)} {f:Fa} {K:V->Prop} (hb:s.bx i=uM l) (hi:i<s.nb) (h1:∀ v,(f,v)∈l->K (exV v)) (h2:f∉l.map (·.1)->K (.c (.sl []))):fH Tryz.prog 152 s (.mr i) (faV f) false K:=by
 unfold fH;refine agy hb hi ?_;cases hj:wQ l f with
 |none=>exact h2 (zg hj)
 |some j=>obtain⟨v,hv⟩:=pM hj;have e:=(rW (f:=faV) (h:=exV) l j (f,v) hv).1;simp only[e,aM,dp];exact h1 v (aV hv)
theorem ae1 {keys:List Fa} {hd:Fa->Value} {f:Fa} {j:Nat} {v v0:Value} (hn:keys.Nodup) (hj:(hds keys hd)[j]?=some (f,v0)):(hds keys hd).set j (f,v)=hds keys (upF hd f v):=by
 unfold hds at *;have Gu:keys[j]?=some f:=by rw[bj,aW] at hj;obtain⟨g,h1,h2⟩:=hj;cases h2;exact h1
 have:=oo (f:=λg=>(g,hd g)) (g:=λg=>(g,upF hd f v g)) hn Gu λx _ gZ=>by simp only[rD gZ]
 simp only[oM] at this;exact this
theorem Qw {keys:List Fa} {hd:Fa->Value} {f:Fa} {j:Nat} {v:Value} (hj:(hds keys hd)[j]?=some (f,v)):f∈keys/\hd f=v:=by unfold hds at hj;rw[bj,aW] at hj;obtain⟨g,h1,h2⟩:=hj;cases h2;exact⟨aV h1,rfl⟩
theorem ae2 {keys:List Fa} {hd:Fa->Value} {f:Fa} {v v0:Value} (hn:f∉keys):(hds keys hd++[(f,v0)]).set (hds keys hd).length (f,v)=hds (keys++[f]) (upF hd f v):=by rw[List.set_append_right _ _ (ab _),Nat.sub_self,kT];unfold hds;rw[dh,gk,oM];congr 1;refine bS λg hg=>?_;rw[rD (by rintro rfl;exact hn hg)]
def mV (ps:List (Fa×Nat)):List Fa:=ps.foldl (λl p=>pE l p.1) []
def uP (ps:List (Fa×Nat)) (f:Fa):List Nat:=(ps.filter λp=>decide (p.1=f)).map (·.2)
theorem ta {ps:List (Fa×Nat)} {f:Fa} {i:Nat}:mV (ps++[(f,i)])=pE (mV ps) f:=by unfold mV;rw[gJ];rfl
theorem Bn {ps:List (Fa×Nat)} {f:Fa} {i:Nat}:uP (ps++[(f,i)])=upF (uP ps) f (uP ps f++[i]):=by
 funext g;unfold uP upF;rw[ir,dh];by_cases h:g=f
 .subst h;simp
 .rw[if_neg h]
  have:¬ f=g:=λe=>h e.symm;simp[this]
theorem Ib {l:List Fa} {f:Fa} (h:f∈l):pE l f=l:=by simp[pE,h]
theorem Dj {l:List Fa} {f:Fa} (h:f∉l):pE l f=l++[f]:=by simp[pE,h]
