/- Layer 17: all: are all facts of a list in a set? -/
import Derived.Test.YtloppcgcepgbnaaGreatDoorVlI1
import Derived.Test.YtloppcgcepgbnaaGreatDoorVlR2
import Derived.Test.YtloppcgcepgbnaaGreatDoorVlTree
import Derived.Test.YtloppcgcepgbnaaGreatDoorVlH2
import Derived.Test.YtloppcgcepgbnaaGreatDoorSrt
import Derived.Test.YtloppcgcepgbnaaGreatDoorVlSrt
import Derived.Test.YtloppcgcepgbnaaGreatDoorVlFlb
set_option maxHeartbeats 1000000
set_option linter.all false
namespace Go.Proofs.YtloppcgcepgbnaaGreatDoor
open Go Go.Vl
variable {G:Gl}
set_option maxRecDepth 4000
def yp (l:List Fa):List (List V):=[lk faC l,[.mr 0],[.bp 1 0]]
theorem u6 {l:List Fa}:yp l=[lk faC l,[.mr 0],[.bp 1 0]]:=rfl
def aky:=@pkS
theorem Bj {l:List Fa} {r:V} {t:Tmp} {e:VE} {fr:Nat->V} {bx:Nat->List V} {nb:Nat} (he:rF e=true) (hn:3<=nb) (h0:bx 0=lk faC l) (h1:bx 1=[.mr 0]) (h2:bx 2=[.bp 1 0]) (ht:fr t=r) (hr:r.ltB 3=true) (Md:r.fz=r):xN Tryz.prog 3 r (yp l) [.tmp t] e ⟨fr,bx,nb⟩:=
 nK [(t,r)] he (by simp only[iV,yp,bh,bB,jc,hr,aC,aG];rfl) (ab _) hn ⟨ht,trivial⟩ ⟨h0,h1,h2,trivial⟩ (by simp[hdS,frs,pR,up])
theorem HW {l:List Fa} {xs:List V} (h:xs.all (λx=>x.ltB 3)=true):lC xs (yp l)=true:=by simp only[lC,yp,bh,bB,jc,aC,aG,h];rfl
def aet:=jj @pkA (jj @ptA @aky)
theorem Yn (l:List Fa) (f:Fa):FnB Tryz.prog G 73 [.agg (faC f),.bp 2 0] (yp l) (bo (!decide (f∈l))) (yp l):=by refine jM (rs:=[.tmp 3]) (k:=3) [3000003] mixed Tryz.func73 rfl rfl rfl rfl (by kernel_rfl) (by simp) rfl rfl rfl (HW rfl) (ab _) ?_;simp only[aet,seval,u6];refine HV rfl (show 0<4 by decide) ?_;simp only[pkA,seval];exact Bj rfl (show 3<=4 by decide) rfl rfl rfl (by simp[]) rfl rfl
def Aj:=jj @pkA @ptA
theorem KP (l fs:List Fa) (hm:fs.length<=1000000000):FnB Tryz.prog G 108 [.c (fsC fs),.clo (.func 73) [] [.bp 2 0]] (yp l) (i64 (qG (λf=>!decide (f∈l)) fs)) (yp l):=by
 refine jM (rs:=[.tmp 4]) (k:=3) [1000016,3000003] mixed Tryz.func108 rfl rfl rfl rfl (by kernel_rfl) (by simp) rfl rfl rfl (HW rfl) (ab _) ?_;have setren:∀ (ρ:Nat->Nat) (m:List Fa),(lk faC m).map (V.ren ρ)=lk faC m:=λρ m=>ud;simp only[Aj,seval,u6,fsC];refine bw (λi:Nat=>hdS [(0,.c (.sl (fs.map faC))),(1,.clo (.func 73) [] [.bp 2 0]),(7,i64 fs.length),(8,i64 i)] (yp l)) (λi=>fs.length - i) (λi=>i<=fs.length/\∀ j (h:j<fs.length),j<i->(!decide (fs[j]∈l))=false) 0 ⟨ar _,λj h h'=>absurd h' (gf _)⟩ ?_ ?_
 .refine cm (by simp only[iV,yp,bh,bB,jc,aC,aG];rfl) (ab _) (ab _) ?_ ⟨rfl,rfl,rfl,trivial⟩
  simp[FL,ah]
 rintro i ⟨hi,gy⟩ R bL bO c8;simp only[pkA,seval,u6];refine aD (λbE=>?_) (λfH=>?_)
 .have bE:i<fs.length:=by simpa using bE
  simp only[pkA,seval];refine dQ eC rfl eS (by decide) (ay i) (c:=faC fs[i]) (by simp[bE]) rfl ?_;simp only[aet,seval];refine uX rfl (Yn l fs[i]) rfl rfl ⟨rfl,rfl,rfl,trivial⟩ ?_;simp only[pkA,seval,u6];refine aD (λhy=>?_) (λhn=>?_)
  .simp only[pkA,seval]
   refine c8 _ ?_;simp only[pkA];rw[ou bE hy gy];exact Bj rfl (ab _) rfl rfl rfl (by simp[]) rfl rfl
  .have hw:=bn (n:=(i:Int)+1) (k:=i+1) (by omega) (by omega)
   simp only[pkA,seval];refine bL (i+1) _ ⟨bE,λj h hj=>?_⟩ (by omega) (cm (by simp only[iV,yp,bh,bB,jc,aC,aG];rfl) (ab _) (ab _) ?_ ⟨rfl,rfl,rfl,trivial⟩)
   .rcases bX j i with h1 | h1
    .exact gy j h h1
    .have:j=i:=by omega
     subst this;exact hn
   .simp[FL,ah,hw]
 .have:i=fs.length:=by simp at fH;omega
  subst this;simp only[pkA];refine bO _ _ ?_;simp only[pkA,seval];rw[lL (λj h _=>gy j h h)];exact Bj rfl (ab _) rfl rfl rfl (by simp[]) rfl rfl
theorem Df (l fs:List Fa) (hm:fs.length<=1000000000):FnB Tryz.prog G 72 [.c (fsC fs),.clo (.func 73) [] [.bp 2 0]] (yp l) (bo (fs.any λf=>!decide (f∈l))) (yp l):=by refine jM (rs:=[.tmp 4]) (k:=3) [1000007,3000003] mixed Tryz.func72 rfl rfl rfl rfl (by kernel_rfl) (by simp) rfl rfl rfl (HW rfl) (ab _) ?_;simp only[pkA,seval,u6];refine uX rfl (KP l fs hm) rfl rfl ⟨rfl,rfl,rfl,trivial⟩ ?_;simp only[pkA,seval,u6];rw[jT];exact Bj rfl (ab _) rfl rfl rfl (by simp[]) rfl rfl
theorem TA (l fs:List Fa) (hm:fs.length<=1000000000):FnB Tryz.prog G 52 [.bp 1 0,.c (fsC fs)] (wS l) (bo (fs.all λf=>decide (f∈l))) (wS l):=by refine jM (rs:=[.tmp 4]) (k:=2) [1000007,3000002] mixed Tryz.func52 rfl rfl rfl rfl (by kernel_rfl) (by simp) rfl rfl rfl (by simp only[lC,wS,bh,bB,jc,aC,aG];rfl) (ab _) ?_;simp only[pkA,seval,yo];refine uX rfl (Df l fs hm) rfl rfl ⟨rfl,rfl,rfl,trivial⟩ ?_;simp only[pkA,seval];refine Yk rfl (show 2<=3 by decide) rfl rfl ?_ rfl rfl;simp[List.all_eq_not_any_not]
def qB (now next:V) (n:Int):List V:=[now,next,i64 n]
theorem Oc {now next:V} {n:Int} {B1:List V} (h:now.ltB 2=true) (hx:next.ltB 2=true) (hB:(B1.all λv=>v.ltB 2)=true):([qB now next n,B1]:List (List V)).all (λb=>b.all λx=>x.ltB 2)=true:=by simp only[qB,bh,bB,h,hx,hB];rfl
theorem Yo {xs:List V} {now next:V} {n:Int} {B1:List V} (tG:xs.all (λx=>x.ltB 2)=true) (h:now.ltB 2=true) (hx:next.ltB 2=true) (hB:(B1.all λv=>v.ltB 2)=true):lC xs [qB now next n,B1]=true:=by simp only[lC,aC,aG,tG];exact Oc h hx hB
theorem PY (x:C) (now:V) (B1:List V) (num:Int) (es:List (List C)) (E:Option (TypeId×Nat)) (hE:E=none∨E=some (156,1)) (px:∀ e∈es,e.length=1) (hm:es.length<1000000) (A2:now.ltB 2=true) (UD:now.isMk=false) (hB:(B1.all λv=>v.ltB 2)=true) :
 FnB Tryz.prog G 136 [.bp 0 0,.c x] [qB now (.gs none E es) num,B1] (.tup []) [qB now (.gs none (some (156,1)) (es++[[x]])) num,B1]:=by
 refine jM (rs:=[]) (k:=2) [2300000,2400011,3000002] mixed Tryz.func136 rfl rfl rfl rfl (by kernel_rfl) (by simp) rfl rfl rfl (Yo rfl A2 rfl hB) (ab _) ?_;have lv:cL (qB now (.gs none E es) num)=false:=UD;simp only[pkA,seval];refine rb rfl (.split 0 1 11 (g:=none) (E:=E) (es:=es) (show 0<2 by decide) lv rfl rfl λv _ hgv=>.done ?_);have ad2:cL [now,V.c (.ex v),i64 num]=false:=UD;have hl:∀ K,ldB 2 0 [now,V.c (.ex v),i64 num] 1 K=K (.c (.ex v)):=λK=>by unfold ldB;exact propext ⟨λh=>h.2,λh=>⟨by decide,h⟩⟩
 simp only[Aj,seval,qB,ad2,hl,dm,xl];refine NI (v:=v) (E:=E) (es:=es) (y1:=[x]) (sz:=1) (by_:=8) nq rfl ui rfl rfl rfl (by decide) rfl (by simp[ah]) (by simp[ah]) ⟨by decide,by simp,by simp⟩ rfl hE px rfl (by omega) (by omega) ?_;simp only[Aj,seval,ad2];rw[afO (by simp[ah])];refine⟨⟨by decide,by simp⟩,?_⟩;simp only[pkA,seval];exact nK [] rfl (by simp only[iV];exact Bool.and_eq_true_iff.2 ⟨rfl,Oc (n:=num) A2 rfl hB⟩) (ab _) (ab 2) trivial ⟨by simp[],by simp[ah,bxs],trivial⟩ nQ
theorem acO {fr:Nat->V} {bx:Nat->List V} {nb b o:Nat} {K:Vl.S->Prop}:stS 1 none none b o (.ow none []) ⟨fr,bx,nb⟩ K=((b<nb/\o+1<=(bx b).length)/\K ⟨fr,up bx b (eP (bx b) o [.ow none []]),nb⟩):=by simp[stS,V.bcells,S.use,S.put]
theorem acP (B1:List V) (num:Nat) (es:List (List C)) (E:Option (TypeId×Nat)) (now:V) (hn:num<1000000) (hm:es.length<1000000) (A2:now.ltB 2=true) (UD:now.isMk=false) (hB:(B1.all λv=>v.ltB 2)=true) :
 FnB Tryz.prog G 137 [.bp 0 0] [qB now (.gs none E es) (num:Int),B1] (bo (decide (0<es.length))) [qB (.gs none E es) (.ow none []) ((num+1:Nat):Int),B1]:=by
 refine jM (rs:=[.tmp 2]) (k:=2) [2850001,2890001,2380008,2850003,2890003,3000002] mixed Tryz.func137 rfl rfl rfl rfl (by kernel_rfl) (by simp) rfl rfl rfl (Yo rfl A2 rfl hB) (ab _) ?_;simp only[pkA,seval];refine ue ?_;simp only[Aj,seval,dW,dS,nN,nE,gv];have lv:cL (qB now (.gs none E es) (num:Int))=false:=UD;refine .split 0 1 5 (g:=none) (E:=E) (es:=es) (show 0<2 by decide) lv rfl rfl λv _ hgv=>.done ?_;have ad2:∀ x:V,cL [now,x,i64 (num:Int)]=false:=λ_=>UD;have anX:∀ y:V,cL [V.c (.ex v),y,i64 (num:Int)]=false:=λ_=>rfl;have hl:∀ K,ldB 2 0 [now,V.c (.ex v),i64 (num:Int)] 1 K=K (.c (.ex v)):=λK=>by unfold ldB;exact propext ⟨λh=>h.2,λh=>⟨by decide,h⟩⟩
 simp only[Aj,seval,dW,dS,nN,nE,gv,qB,ad2,anX,hl];rw[acO];refine⟨⟨by decide,by simp⟩,?_⟩;simp only[dS];refine .joinS 0 0 5 (v:=v) (E:=E) (es:=es) (show 0<2 by decide) (by simp[eP];rfl) (by simp[eP]) (by simp[ah]) (.done ?_);have aiI:=bn (n:=(num:Int)+1) (k:=num+1) (by omega) (by omega);simp only[Aj,seval,eP];refine⟨rfl,rfl,ue ?_⟩;have alY:∀ K,K (i64 (es.length:Int))->iR Tryz.prog 153 (.c (.ex v)) K:=λK hK=>by
  rcases hgv with⟨blk,cap,rfl,_⟩ | ⟨h0,_,c,rfl⟩
  .exact Ba nq rfl hK
  .subst h0
   exact Ba nq rfl hK
 have hl2:∀ n K,ldB 2 0 [V.gs (some v) E es,V.ow none [],n] 0 K=K (.c (.ex v)):=λn K=>by unfold ldB;exact propext ⟨λh=>h.2,λh=>⟨by decide,h⟩⟩
 have anY:∀ n,cL [V.gs (some v) E es,V.ow none [],n]=false:=λ_=>rfl;simp only[Aj,seval,dW,dS,nN,nE,gv,hl2,anY];refine alY _ ?_;simp only[pkA,seval,dW,dS,nN,nE,gv];refine .unname 0 0 (g:=some v) (E:=E) (es:=es) (show 0<2 by decide) (by simp[]) (.done ?_);simp only[pkA,seval,S.cell,aiI];exact nK [(2,bo (decide (0<es.length)))] rfl (by simp only[iV];exact Bool.and_eq_true_iff.2 ⟨rfl,Oc (now:=.gs none E es) (n:=((num+1:Nat):Int)) rfl rfl hB⟩) (ab _) (ab 2) ⟨by simp[],trivial⟩ ⟨by simp[],by simp[ah,bxs],trivial⟩ (by simp[hdS,frs,pR,up])
structure Wt where
 x:In
 order:Int
 missing:Int
 deriving DecidableEq
def wtC (w:Wt):List C:=inC w.x++[cI w.order,cI w.missing]
theorem pw3 {w:Wt} {K:V->Prop}:dI false 1 3 (wtC w) K=K (i64 w.order):=rfl
theorem acQ (a b:Wt):FnOK Tryz.prog G 139 [.c (.rp (wtC a) 0),.c (.rp (wtC b) 0)] (i64 (qw a.order b.order)):=by refine bI (rs:=[.tmp 4]) false [] mixed Tryz.func139 rfl rfl rfl rfl (by kernel_rfl) (by simp) rfl rfl ?_;simp only[Aj,seval,pw3];refine az rfl (qJ _ _) (λ_=>rfl) ?_;simp only[pkA,seval]
open Go Go.Vl Go.Sort
def wtP (w:Wt):C:=.rp (wtC w) 0
def acR (a b:Wt):Int:=qw a.order b.order
theorem rR (a b:Wt):ltOf acR a b=decide (a.order<b.order):=by
 simp only[ltOf,acR,qw];by_cases h:a.order<b.order
 .simp[h]
 .by_cases h2:b.order<a.order<;>simp[h,h2]
theorem Yp:SWO (ltOf acR):=⟨λx=>by rw[rR];simp,λx y z h1 h2=>by rw[rR] at *;simp at *;omega,λx y z h1 h2=>by rw[rR] at *;simp at *;omega⟩
theorem Yq:∃ fn,Tryz.prog.funcs[138]?=some fn/\(fn.name== "runtime.NumGoroutine")=false/\∃ b,fn.body=some b:=⟨_,Tryz.func138,rfl,_,rfl⟩
theorem Yr (l l':List Wt) (gY:0<l.length) (hl:l.length<4611686018427387904) (hp:l'.Perm l) (hs:l'.Pairwise λx y=>x.order<=y.order) (hu:∀ x∈l,∀ y∈l,x.order=y.order->x=y) (cap:Nat) (hc:l.length<=cap) :
 FnB Tryz.prog G 138 [.ms 0 0 l.length cap 1,.c (.fn (.func 139) [] [])] [flb (λx=>[wtP x]) l] (.tup []) [flb (λx=>[wtP x]) l']:=
 SC (ρ:=Tryz.sortWt_ren) (c1:=wtP) Tryz.sortWt Yq acR Yp 139 [] (enters_of Tryz.func139 (by kernel_rfl) rfl) (λx y=>acQ x y)
  l l' gY hl hp (hs.imp λh=>by rw[rR];simpa using h) (λx hx y hy h1 h2=>by rw[rR] at h1 h2;simp at h1 h2;exact hu x hx y hy (by omega)) cap hc
inductive It where
 |ob (i:Nat)
 |us (f:Fa)
 deriving DecidableEq
def obP (b:Nat):C:=.ex (.pointer (some ⟨b,0,none⟩))
def obV (b:Nat):V:=.c (obP b)
def obG (b:Nat) (w:Wt):V:=.gg (.slice (some ⟨b,0,none⟩) 1 1) (some (158,5)) [wtC w]
def usG (v:Value) (l:List Nat):V:=.gg v (some (156,1)) (l.map λb=>[obP b])
structure Me where
 its:List It
 bl:Nat->Nat
 hd:Fa->Value
def rS (m:Me) (ob:Nat->Option Wt) (u:Fa->List Nat):It->V
 | .ob i=>match ob i with
  |some w=>obG (m.bl i) w
  |none=>.un
 | .us f=>usG (m.hd f) ((u f).map m.bl)
def cells (m:Me) (ob:Nat->Option Wt) (u:Fa->List Nat):List V:=m.its.map (rS m ob u)
structure Mw (m:Me) (n:Nat) (keys:List Fa) (u:Fa->List Nat):Prop where
 nd:m.its.Nodup
 us:∀ f,It.us f∈m.its↔f∈keys
 ob:∀ i,It.ob i∈m.its↔i<n
 hd:∀ f∈keys,∃ blk cap,m.hd f=.slice (some ⟨blk,0,none⟩) (u f).length cap
 lt:∀ f,∀ i∈u f,i<n
 ku:∀ f,f∉keys->u f=[]
 kn:keys.Nodup
def upF {β:Type} (h:Fa->β) (f:Fa) (v:β):Fa->β:=λg=>if g=f then v else h g
theorem oD {β:Type} {h:Fa->β} {f:Fa} {v:β}:upF h f v f=v:=if_pos rfl
theorem ri {β:Type} {h:Fa->β} {f g:Fa} {v:β} (hn:g≠f):upF h f v g=h g:=if_neg hn
def upO {β:Type} (ob:Nat->β) (i:Nat) (w:β):Nat->β:=λj=>if j=i then w else ob j
theorem yq {β:Type} {ob:Nat->β} {i:Nat} {w:β}:upO ob i w i=w:=if_pos rfl
theorem Oe {β:Type} {ob:Nat->β} {i j:Nat} {w:β} (hn:j≠i):upO ob i w j=ob j:=if_neg hn
theorem oc {α β:Type} {f g:α->β} {a:α}:∀ {l:List α} {c:Nat},l.Nodup->l[c]?=some a->(∀ x∈l,x≠a->f x=g x)->(l.map f).set c (g a)=l.map g
 |[],_,_,h,_=>by simp at h
 |x::l,0,hn,h,hg=>by simp only[bQ,ao] at h;subst h;rw[bA,kS,bA];congr 1;refine bT λy hy=>hg y (aT _ hy) ?_;rintro rfl;exact(jP.1 hn).1 hy
 |x::l,c+1,hn,h,hg=>by rw[bA,jD,bA,oc (jP.1 hn).2 h λy hy=>hg y (aT _ hy)];congr 1;refine hg x (bJ ..) ?_;rintro rfl;exact(jP.1 hn).1 (aS h)
section
variable {m:Me} {n:Nat} {keys:List Fa} {u:Fa->List Nat} {ob:Nat->Option Wt}
theorem TB (h:Mw m n keys u) (b:Nat) (w:Wt):cells ⟨m.its++[.ob n],upO m.bl n b,m.hd⟩ (upO ob n (some w)) u=cells m ob u++[obG b w]:=by
 unfold cells;rw[db,gp];congr 1
 .refine bT λit hit=>?_
  cases it with
  |ob i=>have:=(h.ob i).1 hit;have gY:i≠n:=(by omega);simp only[rS,Oe gY]
  |us f=>simp only[rS];congr 1;refine bT λi hi=>?_;have:=h.lt f i hi;exact Oe (by omega)
 .simp only[rS,yq]
theorem Mw.new (h:Mw m n keys u) (b:Nat):Mw ⟨m.its++[.ob n],upO m.bl n b,m.hd⟩ (n+1) keys u where
 nd:=by rw[iT];refine⟨h.nd,by simp,λx hx y hy=>?_⟩;simp only[aX] at hy;subst hy;rintro rfl;have:=(h.ob n).1 hx;omega
 us:=λf=>by simp[h.us f]
 ob:=λi=>by simp only[ba,h.ob i,aX,It.ob.injEq];omega
 hd:=h.hd
 lt:=λf i hi=>by have:=h.lt f i hi;omega
 ku:=h.ku
 kn:=h.kn
theorem yr {it:It} (hit:it∈m.its):∃ c,c<m.its.length/\m.its[c]?=some it/\(cells m ob u)[c]?=some (rS m ob u it):=by obtain⟨c,hc⟩:=eA.1 hit;refine⟨c,(aj.1 hc).1,hc,?_⟩;unfold cells;rw[bj,hc];rfl
theorem FI:(cells m ob u).length=m.its.length:=au ..
theorem Of (h:Mw m n keys u) {f:Fa} {c:Nat} (hc:m.its[c]?=some (.us f)) (v:Value) (i:Nat):(cells m ob u).set c (usG v ((u f++[i]).map m.bl))=cells ⟨m.its,m.bl,upF m.hd f v⟩ ob (upF u f (u f++[i])):=by
 unfold cells;have e:usG v ((u f++[i]).map m.bl)=rS ⟨m.its,m.bl,upF m.hd f v⟩ ob (upF u f (u f++[i])) (.us f):=by simp only[rS,oD]
 rw[e];refine oc h.nd hc λit hit gY=>?_;cases it with
 |ob j=>rfl
 |us g=>have hg:g≠f:=λe=>gY (by rw[e]);simp only[rS,ri hg]
theorem KQ (h:Mw m n keys u) {f:Fa} (hf:f∉keys) (v:Value) (i:Nat):cells ⟨m.its++[.us f],m.bl,upF m.hd f v⟩ ob (upF u f (u f++[i]))=cells m ob u++[usG v ((u f++[i]).map m.bl)]:=by
 unfold cells;rw[db,gp];congr 1
 .refine bT λit hit=>?_
  cases it with
  |ob i=>rfl
  |us g=>have hg:g≠f:=(by rintro rfl;exact hf ((h.us g).1 hit));simp only[rS,ri hg]
 .simp only[rS,oD]
theorem Mw.more (h:Mw m n keys u) {f:Fa} (hf:f∈keys) {v:Value} {i:Nat} (hi:i<n) (hv:∃ blk cap,v=.slice (some ⟨blk,0,none⟩) (u f++[i]).length cap):Mw ⟨m.its,m.bl,upF m.hd f v⟩ n keys (upF u f (u f++[i])) where
 nd:=h.nd
 us:=h.us
 ob:=h.ob
 hd:=λg hg=>by
  by_cases e:g=f
  .subst e;simp only[oD];exact hv
  .simp only[ri e];exact h.hd g hg
 lt:=λg j hj=>by
  by_cases e:g=f
  .subst e;rw[oD] at hj
   rcases ba.1 hj with h2 | h2
   .exact h.lt g j h2
   .simp only[aX] at h2;omega
  .rw[ri e] at hj;exact h.lt g j hj
 ku:=λg hg=>by
  have e:g≠f:=by rintro rfl;exact hg hf
  rw[ri e];exact h.ku g hg
 kn:=h.kn
theorem Mw.first (h:Mw m n keys u) {f:Fa} (hf:f∉keys) {v:Value} {i:Nat} (hi:i<n) (hv:∃ blk cap,v=.slice (some ⟨blk,0,none⟩) (u f++[i]).length cap):Mw ⟨m.its++[.us f],m.bl,upF m.hd f v⟩ n (keys++[f]) (upF u f (u f++[i])) where
 nd:=by rw[iT];refine⟨h.nd,by simp,λx hx y hy=>?_⟩;simp only[aX] at hy;subst hy;rintro rfl;exact hf ((h.us f).1 hx)
 us:=λg=>by simp[h.us g]
 ob:=λj=>by simp[h.ob j]
 hd:=λg hg=>by
  by_cases e:g=f
  .subst e;simp only[oD];exact hv
  .simp only[ri e]
   refine h.hd g ?_;rcases ba.1 hg with h2 | h2
   .exact h2
   .simp only[aX] at h2;exact absurd h2 e
 lt:=λg j hj=>by
  by_cases e:g=f
  .subst e;rw[oD] at hj
   rcases ba.1 hj with h2 | h2
   .exact h.lt g j h2
   .simp only[aX] at h2;omega
  .rw[ri e] at hj;exact h.lt g j hj
 ku:=λg hg=>by
  have e:g≠f:=by rintro rfl;exact hg (by simp)
  rw[ri e];exact h.ku g λh2=>hg (jW _ h2)
 kn:=by rw[iT];refine⟨h.kn,by simp,λx hx y hy=>?_⟩;simp only[aX] at hy;subst hy;rintro rfl;exact hf hx
theorem Dh (h:Mw m n keys u) {i c:Nat} (hc:m.its[c]?=some (.ob i)) (w:Option Wt):(cells m ob u).set c (match w with | some w=>obG (m.bl i) w | none=>.un)=cells m (upO ob i w) u:=by
 unfold cells;have e:(match w with | some w=>obG (m.bl i) w | none=>V.un)=rS m (upO ob i w) u (.ob i):=by simp only[rS,yq]
 rw[e];refine oc h.nd hc λit hit gY=>?_;cases it with
 |ob j=>have hj:j≠i:=λe=>gY (by rw[e]);simp only[rS,Oe hj]
 |us g=>rfl
end
def exV (v:Value):V:=.c (.ex v)
def faV (f:Fa):V:=.agg (faC f)
def uM (l:List (Fa×Value)):List V:=qu faV exV l
def hds (keys:List Fa) (hd:Fa->Value):List (Fa×Value):=keys.map λf=>(f,hd f)
theorem PZ {keys:List Fa} {hd:Fa->Value}:(hds keys hd).map (·.1)=keys:=by unfold hds;rw[eW];exact List.map_id keys
theorem Yt {ρ:Nat->Nat} {l:List (Fa×Value)}:(uM l).map (V.ren ρ)=uM l:=JW (λ_=>rfl) λ_=>rfl
theorem HY {k:Nat} {l:List (Fa×Value)}:(uM l).all (λx=>x.ltB k)=true:=JX (λ_=>rfl) λ_=>rfl
theorem acS:∀ w,(zeroValue 153).run Tryz.prog w=.ok (.slice none 0 0) w:=λw=>rfl
theorem ahz:Tryz.prog.underlying 152=some (.map 54 153):=by kernel_rfl
theorem aeu {s:Vl.S} {i:Nat} {l:List (Fa×Value)} {f:Fa} (hb:s.bx i=uM l) (hi:i<s.nb) {KM:Nat->List Nat->Nat->List V->Option Nat->V->Prop}
 (hK:KM i (List.range l.length) l.length (ng faV exV l) (wG l f) (.c (.sl []))):gW Tryz.prog 152 s (.mr i) (faV f) KM:=
 HA (c:=faC) CV rfl eS rfl nq rfl agM (λ_=>rfl) (λ_=>rfl) CX hb hi hK
theorem akz {s:Vl.S} {i:Nat} {l:List (Fa×Value)} {f:Fa} {K:Vl.S->V->Prop} (hb:s.bx i=uM l) (hi:i<s.nb) (h1:∀ (j:Nat) (v:Value),l[j]?=some (f,v)->K s (.tup [exV v,i64 j]))
 (h2:f∉l.map (·.1)->K { s with bx:=up s.bx i (uM (l++[(f,.slice none 0 0)])) } (.tup [nilC,i64 l.length])):MF Tryz.prog 152 s (.mr i) (faV f) K:=by
 refine⟨_,_,⟨ahz,acS⟩,aeu hb hi ?_⟩;cases hj:wG l f with
 |none=>
  have h3:=h2 (y7 hj);have e:List.range (l++[(f,Value.slice none 0 0)]).length=List.range l.length++[l.length]:=by rw[ae,bz,List.range_succ]
  unfold uM qu at h3;rw[e,qH,ae,bz] at h3;exact h3
 |some j=>
  obtain⟨v,hv⟩:=pE hj;have e:=(rG (f:=faV) (h:=exV) l j (f,v) hv).1;have bE:=(aj.1 hv).1;have e2:(List.range l.length).getD j 0=j:=by simp[aB,bE]
  simp only[e,e2];exact h1 j v hv
theorem aev {s:Vl.S} {i j:Nat} {l:List (Fa×Value)} {f:Fa} {v0 v:Value} {K:Vl.S->Prop} (hb:s.bx i=uM l) (hi:i<s.nb) (hj:l[j]?=some (f,v0)) (hK:K { s with bx:=up s.bx i (uM (l.set j (f,v))) }):fM s (.mr i) (i64 j) (exV v) K:=by
 have bE:=(aj.1 hj).1;unfold fM;simp only[hb,uM,qu];have hf:(List.range l.length).findIdx? (λ(b:Nat)=>(b:Int)==(j:Int))=some j:=by rw[eG];refine⟨by simpa using bE,by simp,λk hk=>by simp;omega⟩
 simp only[hf];refine⟨hi,?_⟩;unfold uM qu at hK;rw[gd] at hK;rw[show(exV v).fz=exV v from rfl,xQ l j f v0 v hj];exact hK
theorem acT {s:Vl.S} {i:Nat} {l:List (Fa×Value)} {f:Fa} {K:V->Prop} (hb:s.bx i=uM l) (hi:i<s.nb) (h1:∀ v,(f,v)∈l->K (exV v)) (h2:f∉l.map (·.1)->K (.c (.sl []))):fL Tryz.prog 152 s (.mr i) (faV f) false K:=by
 unfold fL;refine aeu hb hi ?_;cases hj:wG l f with
 |none=>exact h2 (y7 hj)
 |some j=>obtain⟨v,hv⟩:=pE hj;have e:=(rG (f:=faV) (h:=exV) l j (f,v) hv).1;simp only[e,aM,df];exact h1 v (aS hv)
theorem acU {keys:List Fa} {hd:Fa->Value} {f:Fa} {j:Nat} {v v0:Value} (hn:keys.Nodup) (hj:(hds keys hd)[j]?=some (f,v0)):(hds keys hd).set j (f,v)=hds keys (upF hd f v):=by
 unfold hds at *;have Gj:keys[j]?=some f:=by rw[bj,aV] at hj;obtain⟨g,h1,h2⟩:=hj;cases h2;exact h1
 have:=oc (f:=λg=>(g,hd g)) (g:=λg=>(g,upF hd f v g)) hn Gj λx _ gY=>by simp only[ri gY]
 simp only[oD] at this;exact this
theorem P0 {keys:List Fa} {hd:Fa->Value} {f:Fa} {j:Nat} {v:Value} (hj:(hds keys hd)[j]?=some (f,v)):f∈keys/\hd f=v:=by unfold hds at hj;rw[bj,aV] at hj;obtain⟨g,h1,h2⟩:=hj;cases h2;exact⟨aS h1,rfl⟩
theorem acV {keys:List Fa} {hd:Fa->Value} {f:Fa} {v v0:Value} (hn:f∉keys):(hds keys hd++[(f,v0)]).set (hds keys hd).length (f,v)=hds (keys++[f]) (upF hd f v):=by rw[List.set_append_right _ _ (ab _),Nat.sub_self,kS];unfold hds;rw[db,gp,oD];congr 1;refine bT λg hg=>?_;rw[ri (by rintro rfl;exact hn hg)]
def mX (ps:List (Fa×Nat)):List Fa:=ps.foldl (λl p=>pt l p.1) []
def uP (ps:List (Fa×Nat)) (f:Fa):List Nat:=(ps.filter λp=>decide (p.1=f)).map (·.2)
theorem sE {ps:List (Fa×Nat)} {f:Fa} {i:Nat}:mX (ps++[(f,i)])=pt (mX ps) f:=by unfold mX;rw[jZ];rfl
theorem Bl {ps:List (Fa×Nat)} {f:Fa} {i:Nat}:uP (ps++[(f,i)])=upF (uP ps) f (uP ps f++[i]):=by
 funext g;unfold uP upF;rw[iq,db];by_cases h:g=f
 .subst h;simp
 .rw[if_neg h]
  have:¬ f=g:=λe=>h e.symm;simp[this]
theorem HZ {l:List Fa} {f:Fa} (h:f∈l):pt l f=l:=by simp[pt,h]
theorem Di {l:List Fa} {f:Fa} (h:f∉l):pt l f=l++[f]:=by simp[pt,h]
