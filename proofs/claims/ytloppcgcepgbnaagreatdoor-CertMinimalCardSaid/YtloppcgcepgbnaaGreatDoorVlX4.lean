/- Layer 18: the loop over the instances. -/
import Derived.Test.YtloppcgcepgbnaaGreatDoorVlX3
set_option linter.all false
namespace Go.Proofs.YtloppcgcepgbnaaGreatDoor
open Go Go.Vl
variable {G:Gl}
set_option maxRecDepth 4000
theorem E3 {P:Program} {G:Gl} {tr:List Nat} {k0:Nat} {f:Operand} {ps:Array Tmp} {ca cb:Code} {Q:VE→S→Prop} {fr:Nat→V} {bx:Nat→List V} {nb:Nat}:gZ P G tr k0 (.rangeFunc f ps ca cb) Q ⟨fr,bx,nb⟩=vrg P G tr f ps ca cb Q ⟨fr,bx,nb⟩:=rfl
def lE (m:List In):Prop:=∀ x∈m,x.pre.length≤2∧x.con.length≤2
theorem aek {x:In} {xs:List In}:(prs (xs++[x])).length=(prs xs).length+x.pre.length:=by rw[Kz,aj,ak]
theorem ajo {L:List In} (h:lE L):(prs L).length≤2*L.length:=by
 have e:∀ (M:List In) (k:Nat),lE M→((M.zipIdx k).flatMap fun q=>q.1.pre.map fun f=>(f,q.2)).length≤2*M.length:=by
  intro M
  induction M with
  |nil=>intro k _;simp
  |cons x M ih=>
   intro k hs
   rw[List.zipIdx_cons,iL,aj,ak,aA]
   have h1:(x,k).1.pre.length≤2:=(hs x (bB ..)).1
   have h2:=ih (k+1) fun y hy=>hs y (aR _ hy)
   omega
 exact e L 0 h
theorem amm {c:Code×Code} (hc:Ob=some c) (t:Sa) (x:In) (hx:x.pre.length≤1000000) (hp:(prs t.xs).length≤1000000) (hn:t.xs.length<1000000):(Yw 141 #[26] c.1 c.2).ok G t x:=by
 obtain⟨c',h1,h2⟩:=TB (G:=G) t x hx hp hn
 rw[hc] at h1;cases h1;exact h2
theorem amn {c:Code×Code} (hc:Ob=some c):∀ (m:List In) (t:Sa),lE m→t.xs.length+m.length<1000000→(prs t.xs).length+2*m.length≤1000000→Fut G (Yw 141 #[26] c.1 c.2) t m
 |[],_,_,_,_=>trivial
 |x::m,t,hs,hn,hp=>by
  rw[aA] at hn hp
  have hx:=(hs x (bB ..)).1
  refine⟨amm hc t x (by omega) (by omega) (by omega),fun t' h=>?_⟩
  have e:t'.xs=t.xs++[x]:=h.2
  exact amn hc m t' (fun y hy=>hs y (aR _ hy)) (by rw[e,aj,bN];omega) (by rw[e,aek];omega)
theorem amo {c:Code×Code}:∀ {m:List In} {s t:Sa} {b:Bool},(Yw 141 #[26] c.1 c.2).run s m t b→t.xs=s.xs++m
 |_,_,_,_,.nil s=>by simp
 |_,_,_,_,.stop l h=>by cases h.1
 |_,_,_,_,.go h1 h2=>by
  have e:_=_:=h1.2
  rw[amo h2,e,bw];rfl
def m0:Me:=⟨[],fun _=>0,fun _=>.slice none 0 0⟩
theorem wf0:Mw m0 0 (mF (prs [])) (uP (prs [])) where
 nd:=gy
 us:=fun f=>by simp[m0,mF,prs]
 ob:=fun i=>by simp[m0]
 hd:=fun f hf=>by simp[mF,prs] at hf
 lt:=fun f i hi=>by simp[uP,prs] at hi
 ku:=fun f _=>rfl
 kn:=gy
def t0:Sa:=⟨[],m0,wf0⟩
theorem amq {c:Code×Code} (hc:Ob=some c) (m:List In) (t:Sa) (ht:t.xs=[]) (hs:lE m) (hl:m.length≤20000):Fut G (Yw 141 #[26] c.1 c.2) t m:=by
 have h1:t.xs.length=0:=by rw[ht];rfl
 have h2:(prs t.xs).length=0:=by rw[ht];rfl
 exact amn hc m t hs (by omega) (by omega)
theorem aoN {c:Code×Code} (hc:Ob=some c) (m:List In) (hs:lE m) (hl:m.length≤20000):Fut G (Yw 141 #[26] c.1 c.2) t0 m:=amq hc m t0 rfl hs hl
def flT:List (Nat×V):=[(4,.bp 3 0),(5,.bp 4 0),(6,.bp 5 0)]
theorem cells_ren {m:Me} {ob:Nat→Option Wt} {u:Fa→List Nat} {ρ:Nat→Nat}:(cells m ob u).map (V.ren ρ)=cells m ob u:=by
 unfold cells
 rw[fu]
 refine bL fun it _=>?_
 cases it with
 |ob i=>simp only[Function.comp,rH];split<;>rfl
 |us f=>rfl
theorem YZ {L:Loop} {n:Nat}:(V.lp L flS).ren (rho [6,3,2,4,5] n)=V.lp L flT:=by
 simp[V.ren,flS,flT,V.renP,rho]
theorem amr {c:Code×Code} (hc:Ob=some c) {p:Pol} (hp:p.types.length≤9223372036854775806) (hr:p.rules.length≤9223372036854775806) (hl:(iS p none).length≤20000) (hs:lE (iS p none)) :
 FnE Tryz.prog G 70 [.yl 0,.c (.rp (poC p) 0)] ((Yw 141 #[26] c.1 c.2).yb t0) (fun r b1=>∃ t b,(Yw 141 #[26] c.1 c.2).run t0 (iS p none) t b∧r=.tup []∧b1=(Yw 141 #[26] c.1 c.2).yb t):=
 PG (G:=G) (Yw 141 #[26] c.1 c.2) p hp hr t0 (aoN hc _ hs hl)
theorem aoO {c:Code×Code} {p:Pol} {L:List In}
 (hI:FnE Tryz.prog G 70 [.yl 0,.c (.rp (poC p) 0)] (ybS 141 #[26] c.1 c.2 t0) (fun r b1=>∃ t b,(Yw 141 #[26] c.1 c.2).run t0 L t b∧r=.tup []∧b1=ybS 141 #[26] c.1 c.2 t)) {tr:List Nat} {Q:VE→S→Prop} {fr:Nat→V} {bx:Nat→List V}
 (Qm:FP tr=true) (h1:tr.contains 1200001=true) (hn:rgN tr=141) (hf:fr 25=Yv p) (h4:fr 4=.bp 3 0) (h5:fr 5=.bp 4 0) (h6:fr 6=.bp 5 0) (b2:bx 2=uM []) (b3:bx 3=[.mr 2]) (b4:bx 4=qB .un (vz []) 0) (b5:bx 5=[i64 0])
 (hQ:∀ (bx':Nat→List V) (R:Loop) (t:Sa),t.xs=L→(∀ j,j<2→bx' j=bx j)→bx' 2=uM (hds (mF (prs t.xs)) t.m.hd)→bx' 3=[.mr 2]→bx' 4=qB .un (vz (que t.xs)) 0→bx' 5=[i64 t.xs.length]→bx' 6=.lp R flT::cells t.m (obs t.xs) (uP (prs t.xs))→
  Q .normal ⟨fr,bx',7⟩):vrg Tryz.prog G tr (.tmp 25) #[26] c.1 c.2 Q ⟨fr,bx,6⟩:=by
 refine⟨Qm,flT,fun q hq=>?_,⟨_,_,by simp only[ev,hf];rfl⟩,?_⟩
 ·simp only[flT,aQ,aY,cN] at hq
  rcases hq with rfl | rfl | rfl<;>simp[h4,h5,h6,V.fz,V.isKR]
 ·rw[if_pos h1]
  unfold kZ
  simp only[ev,hf]
  refine⟨[6,3,2,4,5],_,_,_,hI,rfl,⟨rfl,by decide⟩,?_,fun r b1 hR=>?_⟩
  ·show qH _ _ (rho [6,3,2,4,5] 7) 0 (ybS 141 #[26] c.1 c.2 t0)
   rw[hn]
   refine⟨⟨by decide,?_⟩,⟨by decide,?_⟩,⟨by decide,?_⟩,⟨by decide,?_⟩,⟨by decide,?_⟩,trivial⟩
   ·simp only[t0,m0,cells,br,lO,YZ]
    simp[rho,up]
   ·simp[rho,up,b3,V.ren]
   ·rw[YP];simp[rho,up,b2,t0,mF,prs,hds]
   ·simp[rho,up,b4,V.ren,qB,vz,que,t0]
   ·simp[rho,up,b5,V.ren,t0]
  ·obtain⟨t,b,bH,rfl,rfl⟩:=hR
   have qX:t.xs=L:=by rw[amo bH];rfl
   have e6:fM (rho [6,3,2,4,5] 7) 0 (ybS 141 #[26] c.1 c.2 t) (up bx 6 [.lp (lp0 (rgN tr) #[26] c.1 c.2) flT]) 6=.lp (lp0 141 #[26] c.1 c.2) flT::cells t.m (obs t.xs) (uP (prs t.xs)):=by
    simp only[ybS,fM,br,YZ,cells_ren]
    simp[rho,up]
   show Ia Q 6 ⟨fr,fM (rho [6,3,2,4,5] 7) 0 (ybS 141 #[26] c.1 c.2 t) (up bx 6 [.lp (lp0 (rgN tr) #[26] c.1 c.2) flT]),7⟩
   unfold Ia
   simp only[e6]
   refine⟨by simp[lp0],by decide,?_⟩
   show Q .normal ⟨fr,up _ 6 _,7⟩
   refine hQ _ _ t qX (fun j hj=>?_) ?_ ?_ ?_ ?_ (bT _ _ _)
   ·have:j=0∨j=1:=by omega
    rcases this with rfl | rfl<;>simp[ybS,fM,rho,up]
   ·simp only[ybS,fM,YP]
    simp[rho,up]
   ·simp[ybS,fM,rho,up,V.ren]
   ·simp[ybS,fM,rho,up,V.ren,qB,vz]
   ·simp[ybS,fM,rho,up,V.ren]
