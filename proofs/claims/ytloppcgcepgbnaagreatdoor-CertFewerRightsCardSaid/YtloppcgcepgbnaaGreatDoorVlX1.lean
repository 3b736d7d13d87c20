/- Layer 18: the queue: push, turn. -/
import Derived.Test.YtloppcgcepgbnaaGreatDoorVlR2
import Derived.Test.YtloppcgcepgbnaaGreatDoorVlTree
import Derived.Test.YtloppcgcepgbnaaGreatDoorVlH2
import Derived.Test.YtloppcgcepgbnaaGreatDoorSrt
import Derived.Test.YtloppcgcepgbnaaGreatDoorVlSrt
import Derived.Test.YtloppcgcepgbnaaGreatDoorVlFlb
set_option linter.all false
namespace Go.Proofs.YtloppcgcepgbnaaGreatDoor
open Go Go.Vl
variable {G:Gl}
set_option maxRecDepth 4000
def qB (now next:V) (n:Int):List V:=[now,next,i64 n]
theorem N6 {now next:V} {n:Int} {B1:List V} (h:now.ltB 2=true) (hx:next.ltB 2=true) (hB:(B1.all fun v=>v.ltB 2)=true):([qB now next n,B1]:List (List V)).all (fun b=>b.all fun x=>x.ltB 2)=true:=by
 simp only[qB,bh,bG,h,hx,hB];rfl
theorem YL {xs:List V} {now next:V} {n:Int} {B1:List V} (qX:xs.all (fun x=>x.ltB 2)=true) (h:now.ltB 2=true) (hx:next.ltB 2=true) (hB:(B1.all fun v=>v.ltB 2)=true):l0 xs [qB now next n,B1]=true:=by
 simp only[l0,aA,aB,qX];exact N6 h hx hB
def CC:=jj @pkA @ptA
theorem PL (x:C) (now:V) (B1:List V) (num:Int) (es:List (List C)) (E:Option (TypeId×Nat)) (hE:E=none∨E=some (156,1)) (pV:∀ e∈es,e.length=1) (hm:es.length<1000000) (AK:now.ltB 2=true) (Up:now.isMk=false) (hB:(B1.all fun v=>v.ltB 2)=true) :
 FnB Tryz.prog G 136 [.bp 0 0,.c x] [qB now (.gs none E es) num,B1] (.tup []) [qB now (.gs none (some (156,1)) (es++[[x]])) num,B1]:=by
 refine mc (rs:=[]) (k:=2) [2300000,2400011,3000002] mixed Tryz.func136 rfl rfl rfl rfl (by kernel_rfl) (by simp) rfl rfl rfl (YL rfl AK rfl hB) (ar _) ?_
 have kR:bY (qB now (.gs none E es) num)=false:=Up
 simp only[pkA,seval]
 refine qM rfl (.split 0 1 11 (g:=none) (E:=E) (es:=es) (show 0<2 by decide) kR rfl rfl fun v _ hgv=>.done ?_)
 have afw:bY [now,V.c (.ex v),i64 num]=false:=Up
 have hl:∀ K,ldB 2 0 [now,V.c (.ex v),i64 num] 1 K=K (.c (.ex v)):=fun K=>by unfold ldB;exact propext ⟨fun h=>h.2,fun h=>⟨by decide,h⟩⟩
 simp only[CC,seval,qB,afw,hl,fh,v7]
 refine NC (v:=v) (E:=E) (es:=es) (y1:=[x]) (sz:=1) (by_:=8) lh rfl qR rfl rfl rfl (by decide) rfl (by simp[ao]) (by simp[ao]) ⟨by decide,by simp,by simp⟩ rfl hE pV rfl (by omega) (by omega) ?_
 simp only[CC,seval,afw]
 rw[ahb (by simp[ao])]
 refine⟨⟨by decide,by simp⟩,?_⟩
 simp only[pkA,seval]
 exact pL [] rfl (by simp only[jq];exact Bool.and_eq_true_iff.2 ⟨rfl,N6 (n:=num) AK rfl hB⟩) (ar _) (ar 2) trivial ⟨by simp[],by simp[ao,bxs],trivial⟩ rq
theorem ad7 {fr:Nat→V} {bx:Nat→List V} {nb b o:Nat} {K:Vl.S→Prop}:stS 1 none none b o (.ow none []) ⟨fr,bx,nb⟩ K=((b<nb∧o+1≤(bx b).length)∧K ⟨fr,up bx b (eS (bx b) o [.ow none []]),nb⟩):=by
 simp[stS,V.bcells,S.use,S.put]
theorem ad8 (B1:List V) (num:Nat) (es:List (List C)) (E:Option (TypeId×Nat)) (now:V) (hn:num<1000000) (hm:es.length<1000000) (AK:now.ltB 2=true) (Up:now.isMk=false) (hB:(B1.all fun v=>v.ltB 2)=true) :
 FnB Tryz.prog G 137 [.bp 0 0] [qB now (.gs none E es) (num:Int),B1] (bo (decide (0<es.length))) [qB (.gs none E es) (.ow none []) ((num+1:Nat):Int),B1]:=by
 refine mc (rs:=[.tmp 2]) (k:=2) [2850001,2890001,2380008,2850003,2890003,3000002] mixed Tryz.func137 rfl rfl rfl rfl (by kernel_rfl) (by simp) rfl rfl rfl (YL rfl AK rfl hB) (ar _) ?_
 simp only[pkA,seval]
 refine tY ?_
 simp only[CC,seval,dU,dK,nD,nu,gp]
 have kR:bY (qB now (.gs none E es) (num:Int))=false:=Up
 refine .split 0 1 5 (g:=none) (E:=E) (es:=es) (show 0<2 by decide) kR rfl rfl fun v _ hgv=>.done ?_
 have afw:∀ x:V,bY [now,x,i64 (num:Int)]=false:=fun _=>Up
 have ap5:∀ y:V,bY [V.c (.ex v),y,i64 (num:Int)]=false:=fun _=>rfl
 have hl:∀ K,ldB 2 0 [now,V.c (.ex v),i64 (num:Int)] 1 K=K (.c (.ex v)):=fun K=>by unfold ldB;exact propext ⟨fun h=>h.2,fun h=>⟨by decide,h⟩⟩
 simp only[CC,seval,dU,dK,nD,nu,gp,qB,afw,ap5,hl]
 rw[ad7]
 refine⟨⟨by decide,by simp⟩,?_⟩
 simp only[dK]
 refine .joinS 0 0 5 (v:=v) (E:=E) (es:=es) (show 0<2 by decide) (by simp[eS];rfl) (by simp[eS]) (by simp[ao]) (.done ?_)
 have akr:=cd (n:=(num:Int)+1) (k:=num+1) (by omega) (by omega)
 simp only[CC,seval,eS]
 refine⟨rfl,rfl,tY ?_⟩
 have anR:∀ K,K (i64 (es.length:Int))→fw Tryz.prog 153 (.c (.ex v)) K:=fun K hK=>by
  rcases hgv with⟨blk,cap,rfl,_⟩ | ⟨h0,_,c,rfl⟩
  ·exact G1 lh rfl hK
  ·subst h0
   exact G1 lh rfl hK
 have hl2:∀ n K,ldB 2 0 [V.gs (some v) E es,V.ow none [],n] 0 K=K (.c (.ex v)):=fun n K=>by unfold ldB;exact propext ⟨fun h=>h.2,fun h=>⟨by decide,h⟩⟩
 have ap6:∀ n,bY [V.gs (some v) E es,V.ow none [],n]=false:=fun _=>rfl
 simp only[CC,seval,dU,dK,nD,nu,gp,hl2,ap6]
 refine anR _ ?_
 simp only[pkA,seval,dU,dK,nD,nu,gp]
 refine .unname 0 0 (g:=some v) (E:=E) (es:=es) (show 0<2 by decide) (by simp[]) (.done ?_)
 simp only[pkA,seval,S.cell,akr]
 exact pL [(2,bo (decide (0<es.length)))] rfl (by simp only[jq];exact Bool.and_eq_true_iff.2 ⟨rfl,N6 (now:=.gs none E es) (n:=((num+1:Nat):Int)) rfl rfl hB⟩) (ar _) (ar 2) ⟨by simp[],trivial⟩ ⟨by simp[],by simp[ao,bxs],trivial⟩ (by simp[hdS,frs,rm,up])
structure Wt where
 x:In
 order:Int
 missing:Int
 deriving DecidableEq
def wtC (w:Wt):List C:=inC w.x++[cI w.order,cI w.missing]
theorem pw3 {w:Wt} {K:V→Prop}:cJ false 1 3 (wtC w) K=K (i64 w.order):=rfl
theorem ad9 (a b:Wt):FnOK Tryz.prog G 139 [.c (.rp (wtC a) 0),.c (.rp (wtC b) 0)] (i64 (qf a.order b.order)):=by
 refine bR (rs:=[.tmp 4]) false [] mixed Tryz.func139 rfl rfl rfl rfl (by kernel_rfl) (by simp) rfl rfl ?_
 simp only[CC,seval,pw3]
 refine aN rfl (qy _ _) (fun _=>rfl) ?_
 simp only[pkA,seval]
open Go Go.Vl Go.Sort
def wtP (w:Wt):C:=.rp (wtC w) 0
def aea (a b:Wt):Int:=qf a.order b.order
theorem rG (a b:Wt):ltOf aea a b=decide (a.order<b.order):=by
 simp only[ltOf,aea,qf]
 by_cases h:a.order<b.order
 ·simp[h]
 ·by_cases h2:b.order<a.order<;>simp[h,h2]
theorem YM:SWO (ltOf aea):=⟨fun x=>by rw[rG];simp,fun x y z h1 h2=>by rw[rG] at *;simp at *;omega,fun x y z h1 h2=>by rw[rG] at *;simp at *;omega⟩
theorem YN:∃ fn,Tryz.prog.funcs[138]?=some fn∧(fn.name== "runtime.NumGoroutine")=false∧∃ b,fn.body=some b:=⟨_,Tryz.func138,rfl,_,rfl⟩
theorem YO (l l':List Wt) (gK:0<l.length) (hl:l.length<4611686018427387904) (hp:l'.Perm l) (hs:l'.Pairwise fun x y=>x.order≤y.order) (hu:∀ x∈l,∀ y∈l,x.order=y.order→x=y) (cap:Nat) (hc:l.length≤cap) :
 FnB Tryz.prog G 138 [.ms 0 0 l.length cap 1,.c (.fn (.func 139) [] [])] [flb (fun x=>[wtP x]) l] (.tup []) [flb (fun x=>[wtP x]) l']:=
 Su (ρ:=Tryz.sortWt_ren) (c1:=wtP) Tryz.sortWt YN aea YM 139 [] (enters_of Tryz.func139 (by kernel_rfl) rfl) (fun x y=>ad9 x y)
  l l' gK hl hp (hs.imp fun h=>by rw[rG];simpa using h) (fun x hx y hy h1 h2=>by rw[rG] at h1 h2;simp at h1 h2;exact hu x hx y hy (by omega)) cap hc
inductive It where
 |ob (i:Nat)
 |us (f:Fa)
 deriving DecidableEq
def obP (b:Nat):C:=.ex (.pointer (some ⟨b,0,none⟩))
def obV (b:Nat):V:=.c (obP b)
def obG (b:Nat) (w:Wt):V:=.gg (.slice (some ⟨b,0,none⟩) 1 1) (some (158,5)) [wtC w]
def usG (v:Value) (l:List Nat):V:=.gg v (some (156,1)) (l.map fun b=>[obP b])
structure Me where
 its:List It
 bl:Nat→Nat
 hd:Fa→Value
def rH (m:Me) (ob:Nat→Option Wt) (u:Fa→List Nat):It→V
 | .ob i=>match ob i with
  |some w=>obG (m.bl i) w
  |none=>.un
 | .us f=>usG (m.hd f) ((u f).map m.bl)
def cells (m:Me) (ob:Nat→Option Wt) (u:Fa→List Nat):List V:=m.its.map (rH m ob u)
structure Mw (m:Me) (n:Nat) (keys:List Fa) (u:Fa→List Nat):Prop where
 nd:m.its.Nodup
 us:∀ f,It.us f∈m.its↔f∈keys
 ob:∀ i,It.ob i∈m.its↔i<n
 hd:∀ f∈keys,∃ blk cap,m.hd f=.slice (some ⟨blk,0,none⟩) (u f).length cap
 lt:∀ f,∀ i∈u f,i<n
 ku:∀ f,f∉keys→u f=[]
 kn:keys.Nodup
def upF {β:Type} (h:Fa→β) (f:Fa) (v:β):Fa→β:=fun g=>if g=f then v else h g
theorem om {β:Type} {h:Fa→β} {f:Fa} {v:β}:upF h f v f=v:=if_pos rfl
theorem qT {β:Type} {h:Fa→β} {f g:Fa} {v:β} (hn:g≠f):upF h f v g=h g:=if_neg hn
def upO {β:Type} (ob:Nat→β) (i:Nat) (w:β):Nat→β:=fun j=>if j=i then w else ob j
theorem yg {β:Type} {ob:Nat→β} {i:Nat} {w:β}:upO ob i w i=w:=if_pos rfl
theorem N7 {β:Type} {ob:Nat→β} {i j:Nat} {w:β} (hn:j≠i):upO ob i w j=ob j:=if_neg hn
theorem nS {α β:Type} {f g:α→β} {a:α}:∀ {l:List α} {c:Nat},l.Nodup→l[c]?=some a→(∀ x∈l,x≠a→f x=g x)→(l.map f).set c (g a)=l.map g
 |[],_,_,h,_=>by simp at h
 |x::l,0,hn,h,hg=>by
  simp only[bJ,ai] at h;subst h
  rw[br,List.set_cons_zero,br]
  congr 1
  refine bL fun y hy=>hg y (aR _ hy) ?_
  rintro rfl
  exact(jK.1 hn).1 hy
 |x::l,c+1,hn,h,hg=>by
  rw[br,List.set_cons_succ,br,nS (jK.1 hn).2 h fun y hy=>hg y (aR _ hy)]
  congr 1
  refine hg x (bB ..) ?_
  rintro rfl
  exact(jK.1 hn).1 (aT h)
section
variable {m:Me} {n:Nat} {keys:List Fa} {u:Fa→List Nat} {ob:Nat→Option Wt}
theorem Tz (h:Mw m n keys u) (b:Nat) (w:Wt):cells ⟨m.its++[.ob n],upO m.bl n b,m.hd⟩ (upO ob n (some w)) u=cells m ob u++[obG b w]:=by
 unfold cells
 rw[dA,gi]
 congr 1
 ·refine bL fun it hit=>?_
  cases it with
  |ob i=>
   have:=(h.ob i).1 hit
   have gK:i≠n:=by omega
   simp only[rH,N7 gK]
  |us f=>
   simp only[rH]
   congr 1
   refine bL fun i hi=>?_
   have:=h.lt f i hi
   exact N7 (by omega)
 ·simp only[rH,yg]
theorem Mw.new (h:Mw m n keys u) (b:Nat):Mw ⟨m.its++[.ob n],upO m.bl n b,m.hd⟩ (n+1) keys u where
 nd:=by
  rw[iN]
  refine⟨h.nd,by simp,fun x hx y hy=>?_⟩
  simp only[aW] at hy;subst hy
  rintro rfl
  have:=(h.ob n).1 hx;omega
 us:=fun f=>by simp[h.us f]
 ob:=fun i=>by
  simp only[aZ,h.ob i,aW,It.ob.injEq];omega
 hd:=h.hd
 lt:=fun f i hi=>by have:=h.lt f i hi;omega
 ku:=h.ku
 kn:=h.kn
theorem yh {it:It} (hit:it∈m.its):∃ c,c<m.its.length∧m.its[c]?=some it∧(cells m ob u)[c]?=some (rH m ob u it):=by
 obtain⟨c,hc⟩:=eA.1 hit
 refine⟨c,(ae.1 hc).1,hc,?_⟩
 unfold cells
 rw[ba,hc];rfl
theorem EY:(cells m ob u).length=m.its.length:=ak ..
theorem N8 (h:Mw m n keys u) {f:Fa} {c:Nat} (hc:m.its[c]?=some (.us f)) (v:Value) (i:Nat):(cells m ob u).set c (usG v ((u f++[i]).map m.bl))=cells ⟨m.its,m.bl,upF m.hd f v⟩ ob (upF u f (u f++[i])):=by
 unfold cells
 have e:usG v ((u f++[i]).map m.bl)=rH ⟨m.its,m.bl,upF m.hd f v⟩ ob (upF u f (u f++[i])) (.us f):=by simp only[rH,om]
 rw[e]
 refine nS h.nd hc fun it hit gK=>?_
 cases it with
 |ob j=>rfl
 |us g=>
  have hg:g≠f:=fun e=>gK (by rw[e])
  simp only[rH,qT hg]
theorem Ky (h:Mw m n keys u) {f:Fa} (hf:f∉keys) (v:Value) (i:Nat):cells ⟨m.its++[.us f],m.bl,upF m.hd f v⟩ ob (upF u f (u f++[i]))=cells m ob u++[usG v ((u f++[i]).map m.bl)]:=by
 unfold cells
 rw[dA,gi]
 congr 1
 ·refine bL fun it hit=>?_
  cases it with
  |ob i=>rfl
  |us g=>
   have hg:g≠f:=by rintro rfl;exact hf ((h.us g).1 hit)
   simp only[rH,qT hg]
 ·simp only[rH,om]
theorem Mw.more (h:Mw m n keys u) {f:Fa} (hf:f∈keys) {v:Value} {i:Nat} (hi:i<n) (hv:∃ blk cap,v=.slice (some ⟨blk,0,none⟩) (u f++[i]).length cap):Mw ⟨m.its,m.bl,upF m.hd f v⟩ n keys (upF u f (u f++[i])) where
 nd:=h.nd
 us:=h.us
 ob:=h.ob
 hd:=fun g hg=>by
  by_cases e:g=f
  ·subst e;simp only[om];exact hv
  ·simp only[qT e];exact h.hd g hg
 lt:=fun g j hj=>by
  by_cases e:g=f
  ·subst e;rw[om] at hj
   rcases aZ.1 hj with h2 | h2
   ·exact h.lt g j h2
   ·simp only[aW] at h2;omega
  ·rw[qT e] at hj;exact h.lt g j hj
 ku:=fun g hg=>by
  have e:g≠f:=by rintro rfl;exact hg hf
  rw[qT e];exact h.ku g hg
 kn:=h.kn
theorem Mw.first (h:Mw m n keys u) {f:Fa} (hf:f∉keys) {v:Value} {i:Nat} (hi:i<n) (hv:∃ blk cap,v=.slice (some ⟨blk,0,none⟩) (u f++[i]).length cap):Mw ⟨m.its++[.us f],m.bl,upF m.hd f v⟩ n (keys++[f]) (upF u f (u f++[i])) where
 nd:=by
  rw[iN]
  refine⟨h.nd,by simp,fun x hx y hy=>?_⟩
  simp only[aW] at hy;subst hy
  rintro rfl
  exact hf ((h.us f).1 hx)
 us:=fun g=>by simp[h.us g]
 ob:=fun j=>by simp[h.ob j]
 hd:=fun g hg=>by
  by_cases e:g=f
  ·subst e;simp only[om];exact hv
  ·simp only[qT e]
   refine h.hd g ?_
   rcases aZ.1 hg with h2 | h2
   ·exact h2
   ·simp only[aW] at h2;exact absurd h2 e
 lt:=fun g j hj=>by
  by_cases e:g=f
  ·subst e;rw[om] at hj
   rcases aZ.1 hj with h2 | h2
   ·exact h.lt g j h2
   ·simp only[aW] at h2;omega
  ·rw[qT e] at hj;exact h.lt g j hj
 ku:=fun g hg=>by
  have e:g≠f:=by rintro rfl;exact hg (by simp)
  rw[qT e];exact h.ku g fun h2=>hg (fB _ h2)
 kn:=by
  rw[iN]
  refine⟨h.kn,by simp,fun x hx y hy=>?_⟩
  simp only[aW] at hy;subst hy
  rintro rfl;exact hf hx
theorem CE (h:Mw m n keys u) {i c:Nat} (hc:m.its[c]?=some (.ob i)) (w:Option Wt):(cells m ob u).set c (match w with | some w=>obG (m.bl i) w | none=>.un)=cells m (upO ob i w) u:=by
 unfold cells
 have e:(match w with | some w=>obG (m.bl i) w | none=>V.un)=rH m (upO ob i w) u (.ob i):=by simp only[rH,yg]
 rw[e]
 refine nS h.nd hc fun it hit gK=>?_
 cases it with
 |ob j=>
  have hj:j≠i:=fun e=>gK (by rw[e])
  simp only[rH,N7 hj]
 |us g=>rfl
end
def exV (v:Value):V:=.c (.ex v)
def faV (f:Fa):V:=.agg (faC f)
def uM (l:List (Fa×Value)):List V:=qe faV exV l
def hds (keys:List Fa) (hd:Fa→Value):List (Fa×Value):=keys.map fun f=>(f,hd f)
theorem PM {keys:List Fa} {hd:Fa→Value}:(hds keys hd).map (·.1)=keys:=by
 unfold hds;rw[fu];exact List.map_id keys
theorem YP {ρ:Nat→Nat} {l:List (Fa×Value)}:(uM l).map (V.ren ρ)=uM l:=JF (fun _=>rfl) fun _=>rfl
theorem Ho {k:Nat} {l:List (Fa×Value)}:(uM l).all (fun x=>x.ltB k)=true:=JG (fun _=>rfl) fun _=>rfl
theorem aeb:∀ w,(zeroValue 153).run Tryz.prog w=.ok (.slice none 0 0) w:=fun w=>rfl
theorem ajf:Tryz.prog.underlying 152=some (.map 54 153):=by kernel_rfl
theorem afU {s:Vl.S} {i:Nat} {l:List (Fa×Value)} {f:Fa} (hb:s.bx i=uM l) (hi:i<s.nb) {KM:Nat→List Nat→Nat→List V→Option Nat→V→Prop}
 (hK:KM i (List.range l.length) l.length (mM faV exV l) (wF l f) (.c (.sl []))):gR Tryz.prog 152 s (.mr i) (faV f) KM:=
 G4 (c:=faC) B9 rfl eV rfl lh rfl air (fun _=>rfl) (fun _=>rfl) Cd hb hi hK
theorem aml {s:Vl.S} {i:Nat} {l:List (Fa×Value)} {f:Fa} {K:Vl.S→V→Prop} (hb:s.bx i=uM l) (hi:i<s.nb) (h1:∀ (j:Nat) (v:Value),l[j]?=some (f,v)→K s (.tup [exV v,i64 j]))
 (h2:f∉l.map (·.1)→K { s with bx:=up s.bx i (uM (l++[(f,.slice none 0 0)])) } (.tup [nilC,i64 l.length])):L6 Tryz.prog 152 s (.mr i) (faV f) K:=by
 refine⟨_,_,⟨ajf,aeb⟩,afU hb hi ?_⟩
 cases hj:wF l f with
 |none=>
  have h3:=h2 (yW hj)
  have e:List.range (l++[(f,Value.slice none 0 0)]).length=List.range l.length++[l.length]:=by rw[aj,bN,List.range_succ]
  unfold uM qe at h3
  rw[e,qo,aj,bN] at h3
  exact h3
 |some j=>
  obtain⟨v,hv⟩:=pw hj
  have e:=(rn (f:=faV) (h:=exV) l j (f,v) hv).1
  have bV:=(ae.1 hv).1
  have e2:(List.range l.length).getD j 0=j:=by simp[ay,bV]
  simp only[e,e2]
  exact h1 j v hv
theorem afV {s:Vl.S} {i j:Nat} {l:List (Fa×Value)} {f:Fa} {v0 v:Value} {K:Vl.S→Prop} (hb:s.bx i=uM l) (hi:i<s.nb) (hj:l[j]?=some (f,v0)) (hK:K { s with bx:=up s.bx i (uM (l.set j (f,v))) }):fG s (.mr i) (i64 j) (exV v) K:=by
 have bV:=(ae.1 hj).1
 unfold fG
 simp only[hb,uM,qe]
 have hf:(List.range l.length).findIdx? (fun(b:Nat)=>(b:Int)==(j:Int))=some j:=by
  rw[eG]
  refine⟨by simpa using bV,by simp,fun k hk=>by simp;omega⟩
 simp only[hf]
 refine⟨hi,?_⟩
 unfold uM qe at hK
 rw[fD] at hK
 rw[show(exV v).fz=exV v from rfl,xO l j f v0 v hj]
 exact hK
theorem aec {s:Vl.S} {i:Nat} {l:List (Fa×Value)} {f:Fa} {K:V→Prop} (hb:s.bx i=uM l) (hi:i<s.nb) (h1:∀ v,(f,v)∈l→K (exV v)) (h2:f∉l.map (·.1)→K (.c (.sl []))):fF Tryz.prog 152 s (.mr i) (faV f) false K:=by
 unfold fF
 refine afU hb hi ?_
 cases hj:wF l f with
 |none=>exact h2 (yW hj)
 |some j=>
  obtain⟨v,hv⟩:=pw hj
  have e:=(rn (f:=faV) (h:=exV) l j (f,v) hv).1
  simp only[e,aI,dj]
  exact h1 v (aT hv)
theorem aed {keys:List Fa} {hd:Fa→Value} {f:Fa} {j:Nat} {v v0:Value} (hn:keys.Nodup) (hj:(hds keys hd)[j]?=some (f,v0)):(hds keys hd).set j (f,v)=hds keys (upF hd f v):=by
 unfold hds at *
 have Dm:keys[j]?=some f:=by
  rw[ba,aU] at hj
  obtain⟨g,h1,h2⟩:=hj
  cases h2;exact h1
 have:=nS (f:=fun g=>(g,hd g)) (g:=fun g=>(g,upF hd f v g)) hn Dm fun x _ gK=>by simp only[qT gK]
 simp only[om] at this
 exact this
theorem PN {keys:List Fa} {hd:Fa→Value} {f:Fa} {j:Nat} {v:Value} (hj:(hds keys hd)[j]?=some (f,v)):f∈keys∧hd f=v:=by
 unfold hds at hj
 rw[ba,aU] at hj
 obtain⟨g,h1,h2⟩:=hj
 cases h2;exact⟨aT h1,rfl⟩
theorem aee {keys:List Fa} {hd:Fa→Value} {f:Fa} {v v0:Value} (hn:f∉keys):(hds keys hd++[(f,v0)]).set (hds keys hd).length (f,v)=hds (keys++[f]) (upF hd f v):=by
 rw[List.set_append_right _ _ (ar _),Nat.sub_self,List.set_cons_zero]
 unfold hds
 rw[dA,gi,om]
 congr 1
 refine bL fun g hg=>?_
 rw[qT (by rintro rfl;exact hn hg)]
def mF (ps:List (Fa×Nat)):List Fa:=ps.foldl (fun l p=>o9 l p.1) []
def uP (ps:List (Fa×Nat)) (f:Fa):List Nat:=(ps.filter fun p=>decide (p.1=f)).map (·.2)
theorem sA {ps:List (Fa×Nat)} {f:Fa} {i:Nat}:mF (ps++[(f,i)])=o9 (mF ps) f:=by
 unfold mF;rw[jU];rfl
theorem A0 {ps:List (Fa×Nat)} {f:Fa} {i:Nat}:uP (ps++[(f,i)])=upF (uP ps) f (uP ps f++[i]):=by
 funext g
 unfold uP upF
 rw[List.filter_append,dA]
 by_cases h:g=f
 ·subst h;simp
 ·rw[if_neg h]
  have:¬ f=g:=fun e=>h e.symm
  simp[this]
theorem Hq {l:List Fa} {f:Fa} (h:f∈l):o9 l f=l:=by simp[o9,h]
theorem CG {l:List Fa} {f:Fa} (h:f∉l):o9 l f=l++[f]:=by simp[o9,h]
def prs (xs:List In):List (Fa×Nat):=xs.zipIdx.flatMap fun q=>q.1.pre.map fun f=>(f,q.2)
theorem Kz {xs:List In} {x:In}:prs (xs++[x])=prs xs++x.pre.map fun f=>(f,xs.length):=by
 unfold prs
 rw[List.zipIdx_append,List.flatMap_append]
 simp
structure Sa where
 xs:List In
 m:Me
 wf:Mw m xs.length (mF (prs xs)) (uP (prs xs))
def obs (xs:List In) (i:Nat):Option Wt:=match xs[i]? with
 |some x=>if x.pre.isEmpty then none else some ⟨x,(i:Nat),(x.pre.length:Nat)⟩
 |none=>none
theorem KA {xs:List In} {x:In}:obs (xs++[x])=upO (obs xs) xs.length (if x.pre.isEmpty then none else some ⟨x,(xs.length:Nat),(x.pre.length:Nat)⟩):=by
 funext i
 unfold obs upO
 by_cases h:i=xs.length
 ·subst h;simp
 ·rw[if_neg h]
  by_cases h2:i<xs.length
  ·rw[az h2]
  ·have h3:(xs++[x])[i]?=none:=bq (by simp;omega)
   have h4:xs[i]?=none:=bq (by omega)
   simp only[h3,h4]
def que (xs:List In):List Wt:=(xs.zipIdx.filter fun q=>q.1.pre.isEmpty).map fun q=>⟨q.1,(q.2:Nat),0⟩
theorem KB {xs:List In} {x:In}:que (xs++[x])=que xs++(if x.pre.isEmpty then[⟨x,(xs.length:Nat),0⟩] else[]):=by
 unfold que
 rw[List.zipIdx_append,List.filter_append,dA]
 congr 1
 by_cases h:x.pre=[]
 ·simp[h]
 ·simp[h]
theorem PO {xs:List In}:(que xs).length≤xs.length:=by
 unfold que
 rw[ak]
 exact df (eD _ _) (by simp)
def Hr (l:List Wt):Option (TypeId×Nat):=if l.isEmpty then none else some (156,1)
def vz (l:List Wt):V:=.gs none (Hr l) (l.map fun w=>[wtP w])
theorem PQ {l:List Wt}:Hr l=none∨Hr l=some (156,1):=by
 unfold Hr;split<;>simp
theorem EZ {l:List Wt} {w:Wt}:vz (l++[w])=.gs none (some (156,1)) (l.map (fun w=>[wtP w])++[[wtP w]]):=by
 simp[vz,Hr]
def flS:List (Nat×V):=[(4,.bp 1 0),(5,.bp 3 0),(6,.bp 4 0)]
def ybS (n:Nat) (ps:Array Tmp) (ca cb:Code) (t:Sa):List (List V):=
 [.lp (lp0 n ps ca cb) flS::cells t.m (obs t.xs) (uP (prs t.xs)),[.mr 2],uM (hds (mF (prs t.xs)) t.m.hd),qB .un (vz (que t.xs)) 0,[i64 t.xs.length]]
theorem CH {m:Me} {ob:Nat→Option Wt} {u:Fa→List Nat} {k:Nat}:∀ x∈cells m ob u,x.ltB k=true:=by
 intro x hx
 unfold cells at hx
 obtain⟨it,_,rfl⟩:=bA.1 hx
 cases it with
 |ob i=>simp only[rH];split<;>rfl
 |us f=>rfl
theorem y4 {m:Me} {ob:Nat→Option Wt} {u:Fa→List Nat} {k:Nat}:(cells m ob u).all (fun x=>x.ltB k)=true:=aV.2 fun x hx=>CH x hx
theorem ajg:∀ (L:Loop),(V.lp L flS).lt 5:=by
 intro L p hp
 simp only[flS,aQ,aY,cN] at hp
 rcases hp with rfl | rfl | rfl<;>simp[V.ltP]
theorem ltS {L:Loop} {c:List V} {l:List (Fa×Value)} {q:List Wt} {z:Int} (hc:∀ x∈c,x.ltB 5=true):ltL 5 [V.lp L flS::c,[.mr 2],uM l,qB .un (vz q) 0,[i64 z]]:=by
 intro b hb x hx
 simp only[aQ,aY,cN] at hb
 rcases hb with rfl | rfl | rfl | rfl | rfl
 ·rcases aQ.1 hx with rfl | hx
  ·exact ajg L
  ·exact V.ltB_ok (hc x hx)
 ·simp only[aW] at hx;subst hx;simp[V.lt]
 ·exact V.ltB_ok (aV.1 (Ho (k:=5)) x hx)
 ·simp only[qB,aQ,aY,cN] at hx
  rcases hx with rfl | rfl | rfl<;>trivial
 ·simp only[aW] at hx;subst hx;trivial
def Yw (n:Nat) (ps:Array Tmp) (ca cb:Code):Ys Sa where
 yb:=ybS n ps ca cb
 k:=5
 pos:=by decide
 len:=fun _=>rfl
 lt:=fun s=>ltS CH
 step:=fun t x t' b=>b=true∧t'.xs=t.xs++[x]
def bxS (Lb:Loop) (c:List V) (l:List (Fa×Value)) (q:List Wt) (z:Nat):List (List V):=[V.lp Lb flS::c,[.mr 2],uM l,qB .un (vz q) 0,[i64 z]]
theorem N9 {Lb:Loop} {m:Me} {ob:Nat→Option Wt} {u:Fa→List Nat} {l:List (Fa×Value)} {q:List Wt} {z:Nat} {fl:List (Nat×V)} (h:(fl.all fun p=>p.2.ltB 5)=true):jq fl (bxS Lb (cells m ob u) l q z)=true:=by
 simp only[jq,bxS,aA,aB,h,bh,bG,y4,Ho,Bool.and_true,j5]
 rfl
theorem YQ {b:Nat}:(obV b).isOw=false:=rfl
theorem ajh {b:Nat}:(obV b).fz=obV b:=rfl
theorem YR {f:Fa}:(faV f).isOw=false:=rfl
theorem YS {v:Value}:(exV v).isOw=false:=rfl
theorem aji {v:Value}:(exV v).fz=exV v:=rfl
theorem ajj {v:Value}:V.c (.ex v)=exV v:=rfl
theorem YT {g:Option Value} {E:Option (TypeId×Nat)} {es:List (List C)}:(V.gs g E es).isOw=true:=rfl
theorem aef:nilC=exV (.slice none 0 0):=rfl
theorem YU {ps:List (Fa×Nat)} {f:Fa}:(uP ps f).length≤ps.length:=by
 unfold uP;rw[ak];exact eD _ _
def y5:=jj @YQ (jj @ajh (jj @YR (jj @YS (jj @aji (jj @ajj (jj @YT @aI))))))
def obF (b o:Nat):V:=.c (.ex (.pointer (some ⟨b,o,none⟩)))
theorem vb {b:Nat} {K:V→Prop}:AQ (obV b) K=K (obV b):=rfl
theorem Ht {b:Nat} {K:V→Prop} (hK:K (obF b 4)):aM Tryz.prog 158 (obV b) 2 K:=ag3 (k:=0) qS rfl (by decide) hK
theorem Oa {s:Vl.S} {b k blk:Nat} {w:Wt} {K:V→Prop} (hb:b<s.nb) (hk:(s.bx b)[k]?=some (obG blk w)) (hK:K (i64 w.missing)):wa Tryz.prog s 3 (obF blk 4) K:=by
 unfold wa
 rw[pe]
 exact⟨b,k,1,1,_,_,_,⟨hb,hk⟩,hK⟩
theorem aeg {β:Type} {ob:Nat→β} {i:Nat} {v w:β}:upO (upO ob i v) i w=upO ob i w:=by
 funext j;unfold upO;split<;>rfl
theorem YV {E:Option (TypeId×Nat)} {es:List (List C)} {l:List Nat} {n:Nat} {bl:Nat→Nat} {v:Value} (he:es=((l++[n]).map bl).map fun b=>[obP b]) (h:GsV E es v):∃ blk cap,v=.slice (some ⟨blk,0,none⟩) (l++[n]).length cap:=by
 have hl:es.length=(l++[n]).length:=by rw[he];simp
 rcases h with⟨blk,cap,h,_⟩ | ⟨h,_⟩
 ·exact⟨blk,cap,by rw[← hl];exact h⟩
 ·rw[h] at hl;simp at hl
theorem ajk {P:Program} {n:Nat} {ps:Array Tmp} {ca cb:Code} {fl:List (Nat×V)} {gs:List V} {xs:List V} {bs:List (List V)} {R:V→List (List V)→Prop} (tr:List Nat) (hm:P.follows .mixedOrders=true) (vD:ps.toList.length=xs.length)
 (LA:∀ p∈ps.toList,p<n) (aan:cok n tr ca=true) (aao:cok n tr cb=true)
 (UD:(∀ x∈xs,x.lt (bs.length+1))∧(∀ b∈(V.lp (lp0 n ps ca cb) fl::gs)::bs,∀ x∈b,x.lt (bs.length+1))∧∀ r b1,R r b1→bs.length+1≤b1.length)
 (h:∀ (Lb Lc:Loop) (R':V→List (List V)→Prop),BR Lb .normal=Lc→Lc=lp0 n ps ca cb→R'=R→gZ P G tr (bs.length+1) ca (fun e s=>e=.normal∧(s.bx 0=.lp Lc fl::gs∧0<s.nb)∧gZ P G tr (bs.length+1) cb (O7 (bs.length+1) R') { s with bx:=up s.bx 0 (.lp Lb fl::gs) })
  ⟨frY fl ps.toList xs,bxs ((V.lp Lc fl::gs)::bs),bs.length+1⟩) (Qm:FP tr=false:=by rfl):YE P G xs ((V.lp (lp0 n ps ca cb) fl::gs)::bs) R:=
 afI (L:=lp0 n ps ca cb) tr hm rfl vD LA aan aao UD (h { lp0 n ps ca cb with state:=.busy } _ _ rfl rfl rfl) Qm
