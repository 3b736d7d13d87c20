/- Layer 18: the caller of the instances' iterator: what its boxes hold. -/
import Derived.Test.YtjfjdomfldolcaaGreatVlX0
set_option linter.all false
namespace Go.Proofs.YtjfjdomfldolcaaGreat
open Go Go.Vl
variable {G:Gl}
set_option maxRecDepth 4000
def prs (xs:List In):List (Fa×Nat):=xs.zipIdx.flatMap fun q=>q.1.pre.map fun f=>(f,q.2)
theorem ID {xs:List In} {x:In}:prs (xs++[x])=prs xs++x.pre.map fun f=>(f,xs.length):=by
 unfold prs
 rw[List.zipIdx_append,List.flatMap_append]
 simp
structure Sa where
 xs:List In
 m:Me
 wf:Mw m xs.length (mo (prs xs)) (uP (prs xs))
def obs (xs:List In) (i:Nat):Option Wt:=match xs[i]? with
 |some x=>if x.pre.isEmpty then none else some ⟨x,(i:Nat),(x.pre.length:Nat)⟩
 |none=>none
theorem IE {xs:List In} {x:In}:obs (xs++[x])=upO (obs xs) xs.length (if x.pre.isEmpty then none else some ⟨x,(xs.length:Nat),(x.pre.length:Nat)⟩):=by
 funext i
 unfold obs upO
 by_cases h:i=xs.length
 ·subst h;simp
 ·rw[if_neg h]
  by_cases h2:i<xs.length
  ·rw[az h2]
  ·have h3:(xs++[x])[i]?=none:=bw (by simp;omega)
   have h4:xs[i]?=none:=bw (by omega)
   simp only[h3,h4]
def que (xs:List In):List Wt:=(xs.zipIdx.filter fun q=>q.1.pre.isEmpty).map fun q=>⟨q.1,(q.2:Nat),0⟩
theorem IF {xs:List In} {x:In}:que (xs++[x])=que xs++(if x.pre.isEmpty then[⟨x,(xs.length:Nat),0⟩] else[]):=by
 unfold que
 rw[List.zipIdx_append,fG,dj]
 congr 1
 by_cases h:x.pre=[]
 ·simp[h]
 ·simp[h]
theorem Nb {xs:List In}:(que xs).length≤xs.length:=by
 unfold que
 rw[au]
 exact bN (ck _ _) (by simp)
def Gg (l:List Wt):Option (TypeId×Nat):=if l.isEmpty then none else some (78,1)
def vH (l:List Wt):V:=.gs none (Gg l) (l.map fun w=>[wtP w])
theorem Nc {l:List Wt}:Gg l=none∨Gg l=some (78,1):=by
 unfold Gg;split<;>simp
theorem Ee {l:List Wt} {w:Wt}:vH (l++[w])=.gs none (some (78,1)) (l.map (fun w=>[wtP w])++[[wtP w]]):=by
 simp[vH,Gg]
def flS:List (Nat×V):=[(4,.bp 1 0),(5,.bp 3 0),(6,.bp 4 0)]
def ybS (n:Nat) (ps:Array Tmp) (ca cb:Code) (t:Sa):List (List V):=
 [.lp (lp0 n ps ca cb) flS::cells t.m (obs t.xs) (uP (prs t.xs)),[.mr 2],uM (hds (mo (prs t.xs)) t.m.hd),qB .un (vH (que t.xs)) 0,[i64 t.xs.length]]
theorem B2 {m:Me} {ob:Nat→Option Wt} {u:Fa→List Nat} {k:Nat}:∀ x∈cells m ob u,x.ltB k=true:=by
 intro x hx
 unfold cells at hx
 obtain⟨it,_,rfl⟩:=bj.1 hx
 cases it with
 |ob i=>simp only[rX];split<;>rfl
 |us f=>rfl
theorem y7 {m:Me} {ob:Nat→Option Wt} {u:Fa→List Nat} {k:Nat}:(cells m ob u).all (fun x=>x.ltB k)=true:=ba.2 fun x hx=>B2 x hx
theorem ae4:∀ (L:Loop),(V.lp L flS).lt 5:=by
 intro L p hp
 simp only[flS,aK,bn,dc] at hp
 rcases hp with rfl | rfl | rfl<;>simp[V.ltP]
theorem ltS {L:Loop} {c:List V} {l:List (Fa×Value)} {q:List Wt} {z:Int} (hc:∀ x∈c,x.ltB 5=true):ltL 5 [V.lp L flS::c,[.mr 2],uM l,qB .un (vH q) 0,[i64 z]]:=by
 intro b hb x hx
 simp only[aK,bn,dc] at hb
 rcases hb with rfl | rfl | rfl | rfl | rfl
 ·rcases aK.1 hx with rfl | hx
  ·exact ae4 L
  ·exact V.ltB_ok (hc x hx)
 ·simp only[a7] at hx;subst hx;simp[V.lt]
 ·exact V.ltB_ok (ba.1 (Gf (k:=5)) x hx)
 ·simp only[qB,aK,bn,dc] at hx
  rcases hx with rfl | rfl | rfl<;>trivial
 ·simp only[a7] at hx;subst hx;trivial
def Yw (n:Nat) (ps:Array Tmp) (ca cb:Code):Ys Sa where
 yb:=ybS n ps ca cb
 k:=5
 pos:=by decide
 len:=fun _=>rfl
 lt:=fun s=>ltS B2
 step:=fun t x t' b=>b=true∧t'.xs=t.xs++[x]
def bxS (Lb:Loop) (c:List V) (l:List (Fa×Value)) (q:List Wt) (z:Nat):List (List V):=[V.lp Lb flS::c,[.mr 2],uM l,qB .un (vH q) 0,[i64 z]]
theorem LB {Lb:Loop} {m:Me} {ob:Nat→Option Wt} {u:Fa→List Nat} {l:List (Fa×Value)} {q:List Wt} {z:Nat} {fl:List (Nat×V)} (h:(fl.all fun p=>p.2.ltB 5)=true):kR fl (bxS Lb (cells m ob u) l q z)=true:=by
 simp only[kR,bxS,aZ,aU,h,bR,cz,y7,Gf,jd,jX]
 rfl
theorem Uy {b:Nat}:(obV b).isOw=false:=rfl
theorem ae5 {b:Nat}:(obV b).fz=obV b:=rfl
theorem Uz {f:Fa}:(faV f).isOw=false:=rfl
theorem UA {v:Value}:(exV v).isOw=false:=rfl
theorem ae6 {v:Value}:(exV v).fz=exV v:=rfl
theorem ae7 {v:Value}:V.c (.ex v)=exV v:=rfl
theorem UB {g:Option Value} {E:Option (TypeId×Nat)} {es:List (List C)}:(V.gs g E es).isOw=true:=rfl
theorem Z0:nilC=exV (.slice none 0 0):=rfl
theorem UC {ps:List (Fa×Nat)} {f:Fa}:(uP ps f).length≤ps.length:=by
 unfold uP;rw[au];exact ck _ _
def gj:=jj @Uy (jj @ae5 (jj @Uz (jj @UA (jj @ae6 (jj @ae7 (jj @UB @aY))))))
def obF (b o:Nat):V:=.c (.ex (.pointer (some ⟨b,o,none⟩)))
theorem vo {b:Nat} {K:V→Prop}:AI (obV b) K=K (obV b):=rfl
theorem Gh {b:Nat} {K:V→Prop} (hK:K (obF b 4)):bf Tryz.prog 80 (obV b) 2 K:=K9 (k:=0) vR rfl (by decide) hK
theorem LC {s:Vl.S} {b k blk:Nat} {w:Wt} {K:V→Prop} (hb:b<s.nb) (hk:(s.bx b)[k]?=some (obG blk w)) (hK:K (i64 w.missing)):wm Tryz.prog s 3 (obF blk 4) K:=by
 unfold wm
 rw[rS]
 exact⟨b,k,1,1,_,_,_,⟨hb,hk⟩,hK⟩
theorem Z1 {β:Type} {ob:Nat→β} {i:Nat} {v w:β}:upO (upO ob i v) i w=upO ob i w:=by
 funext j;unfold upO;split<;>rfl
theorem UD {E:Option (TypeId×Nat)} {es:List (List C)} {l:List Nat} {n:Nat} {bl:Nat→Nat} {v:Value} (he:es=((l++[n]).map bl).map fun b=>[obP b]) (h:GsV E es v):∃ blk cap,v=.slice (some ⟨blk,0,none⟩) (l++[n]).length cap:=by
 have hl:es.length=(l++[n]).length:=by rw[he];simp
 rcases h with⟨blk,cap,h,_⟩ | ⟨h,_⟩
 ·exact⟨blk,cap,by rw[← hl];exact h⟩
 ·rw[h] at hl;simp at hl
theorem ae8 {P:Program} {n:Nat} {ps:Array Tmp} {ca cb:Code} {fl:List (Nat×V)} {gs:List V} {xs:List V} {bs:List (List V)} {R:V→List (List V)→Prop} (tr:List Nat) (hm:P.follows .mixedOrders=true) (wZ:ps.toList.length=xs.length)
 (JB:∀ p∈ps.toList,p<n) (agl:cok n tr ca=true) (agm:cok n tr cb=true)
 (WJ:(∀ x∈xs,x.lt (bs.length+1))∧(∀ b∈(V.lp (lp0 n ps ca cb) fl::gs)::bs,∀ x∈b,x.lt (bs.length+1))∧∀ r b1,R r b1→bs.length+1≤b1.length)
 (h:∀ (Lb Lc:Loop) (R':V→List (List V)→Prop),H5 Lb .normal=Lc→Lc=lp0 n ps ca cb→R'=R→iI P G tr (bs.length+1) ca (fun e s=>e=.normal∧(s.bx 0=.lp Lc fl::gs∧0<s.nb)∧iI P G tr (bs.length+1) cb (SY (bs.length+1) R') { s with bx:=up s.bx 0 (.lp Lb fl::gs) })
  ⟨frY fl ps.toList xs,bxs ((V.lp Lc fl::gs)::bs),bs.length+1⟩) (WI:J6 tr=false:=by rfl):YE P G xs ((V.lp (lp0 n ps ca cb) fl::gs)::bs) R:=
 ahz (L:=lp0 n ps ca cb) tr hm rfl wZ JB agl agm WJ (h { lp0 n ps ca cb with state:=.busy } _ _ rfl rfl rfl) WI
theorem ny {f:List (Nat×Nat×Bool)} {z cs:List C} {p:List (Nat×V)} {K:V→Prop} {o:Option (List C)} (h:o=some cs) (hK:K (.agg cs)):xP f z p K o:=by subst h;exact hK
theorem Z2 {s:Vl.S} {d:Option Tmp} {w:Wt} {b k:Nat} {y:V} {K:Vl.S→Prop} (hb:b<s.nb) (hk:(s.bx b)[k]?=some y) (hy:y.isMk=false) (hK:∀ blk,K ({ s with bx:=up s.bx b ((s.bx b).set k (obG blk w)) }.put d (obV blk))) :
 xm Tryz.prog s d 80 (.agg (wtC w)) K:=by
 unfold xm
 rw[vR]
 exact⟨b,k,y,⟨rfl,by decide,hb,hk,hy⟩,hK⟩
def PN:Code→Option (Code×Code)
 | .seq a b=>match PN a with
  |some r=>some r
  |none=>PN b
 | .block _ b=>PN b
 | .scope b=>PN b
 | .loop b=>PN b
 | .rangeFunc _ _ a b=>some (a,b)
 |_=>none
noncomputable def LD:Option (Code×Code):=(Tryz.f28.body).bind PN
def abw:=jj @pkA (jj @ptA @pkF)
def abx:=jj @pkA (jj @ptA @gj)
def oV:=jj @pkA @gj
set_option maxHeartbeats 4000000 in
theorem PO (t:Sa) (x:In) (hx:x.pre.length≤1000000) (hp:(prs t.xs).length≤1000000) (hn:t.xs.length<1000000):∃ c,LD=some c∧(Yw 141 #[26] c.1 c.2).ok G t x:=by
 refine⟨(_,_),rfl,?_⟩
 unfold Ys.ok
 show YE Tryz.prog G _ (ybS 141 #[26] _ _ t) _
 refine ae8 (fl:=flS) (gs:=cells t.m (obs t.xs) (uP (prs t.xs))) (bs:=[[.mr 2],uM (hds (mo (prs t.xs)) t.m.hd),qB .un (vH (que t.xs)) 0,[i64 t.xs.length]])
  [2850007,2890007,2350033,2380033,2850012,2890012,2350048,2380049,2400049,2380050,2850014,2890014,2350055,2300015,1000058] mixed rfl ?_ ?_ ?_ ?_ ?_
 ·intro q hq;simp at hq;subst hq;decide
 ·kernel_rfl
 ·kernel_rfl
 ·refine⟨fun y hy=>?_,(Yw 141 #[26] _ _).lt t,fun r b1 h=>?_⟩
  ·simp only[a7] at hy;subst hy;trivial
  ·obtain⟨t',b,_,_,rfl⟩:=h
   exact ab _
 intro Lb Lc R hLb hLc hR
 have q1:∀ a b c:V,fj [a,b,c] 0 ((inC x).map .c)=(inC x).map .c:=fun _ _ _=>rfl
 have q2:cy ((inC x).map V.c)=false:=rfl
 have q3:∀ nb q (K:V→Prop),ldA nb q ((inC x).map V.c) 0 3 K=(q<nb∧K (.agg (inC x))):=fun nb q K=>by
  unfold ldA
  exact propext ⟨fun h=>⟨h.1,h.2.2⟩,fun h=>⟨h.1,⟨rfl,rfl⟩,h.2⟩⟩
 have q4:∀ nb q (K:V→Prop),ldB nb q ((inC x).map V.c) 1 K=(q<nb∧K (.c (fsC x.pre))):=fun _ _ _=>rfl
 have q5:cy (qB .un (vH (que t.xs)) 0)=false:=rfl
 have len_fs:∀ (l:List Fa) (K:V→Prop),hJ Tryz.prog 37 (.c (fsC l)) K=K (i64 l.length):=fun l K=>by
  rw[fsC,jw fk rfl,au]
 simp only[abw,seval,frY,flS,List.zip_cons_cons,List.zip_nil_right,br,List.foldl_nil,q1]
 refine uB ?_
 simp only[abw,seval,dY,dS,nu,na,gw,q2,q3,q4,len_fs]
 refine ny (cs:=wtC ⟨x,(t.xs.length:Nat),(x.pre.length:Nat)⟩) rfl ?_
 simp only[pkA,seval,dY,dS,nu,na,gw]
 refine .more 0 (show 0<6 by decide) rfl (.done ?_)
 simp only[pkA,seval,vE]
 refine Z2 (b:=0) (k:=(cells t.m (obs t.xs) (uP (prs t.xs))).length+1) (y:=.un) (show 0<6 by decide) (by simp[]) rfl fun bk=>?_
 have e0:∀ (l:List V) (a:V),(V.lp Lb flS::(l++[V.un])).set (l.length+1) a=V.lp Lb flS::(l++[a]):=fun l a=>by simp
 simp only[pkA,seval,dY,dS,nu,na,gw]
 refine .done ?_
 have len_nn:((t.xs.length:Nat):Int)+1=((t.xs.length+1:Nat):Int):=by omega
 have hw:=bG (n:=(t.xs.length:Int)+1) (k:=t.xs.length+1) (by omega) (by omega)
 simp only[abx,seval,q2,q4,len_fs,hw]
 have rA:∀ (l:List V) (a:V),(l++[V.un]).set l.length a=l++[a]:=fun l a=>by simp
 obtain⟨ob1,jV⟩:∃ o,o=upO (obs t.xs) t.xs.length (some ⟨x,(t.xs.length:Nat),(x.pre.length:Nat)⟩):=⟨_,rfl⟩
 refine bE (fun s:Me×Nat=>hdS [(4,.bp 1 0),(5,.bp 3 0),(6,.bp 4 0),(8,obV bk),(37,.c (fsC x.pre)),(38,i64 x.pre.length),(39,i64 s.2)]
  (bxS Lb (cells s.1 (ob1) (uP (prs t.xs++(x.pre.take s.2).map fun f=>(f,t.xs.length))))
   (hds (mo (prs t.xs++(x.pre.take s.2).map fun f=>(f,t.xs.length))) s.1.hd) (que t.xs) (t.xs.length+1)))
  (fun s=>x.pre.length - s.2) (fun s=>(Mw s.1 (t.xs.length+1) (mo (prs t.xs++(x.pre.take s.2).map fun f=>(f,t.xs.length))) (uP (prs t.xs++(x.pre.take s.2).map fun f=>(f,t.xs.length)))∧s.1.bl t.xs.length=bk)∧s.2≤x.pre.length)
  (⟨t.m.its++[.ob t.xs.length],upO t.m.bl t.xs.length bk,t.m.hd⟩,0) ⟨⟨by simpa using t.wf.new bk,x6⟩,ar _⟩ ?_ ?_
 ·refine cD (LB rfl) (show 5≤5 by decide) (show 5≤6 by decide) (by simp[FL,ak]) ?_
  simp only[jv,lG,bq]
  rw[jV,PM t.wf]
  exact⟨by simp[ak,rA,flS],by simp[ak,bxs],by simp[ak,bxs],by simp[ak,bxs],by simp[],trivial⟩
 ·rintro⟨m,j⟩ ⟨⟨hm,WH⟩,hj⟩ Q cj cJ eP
  simp only at hm WH hj
  simp only[oV,seval,bxS]
  refine aT (fun bK=>?_) (fun gr=>?_)
  ·have bK:j<x.pre.length:=by simpa using bK
   simp only[oV,seval,fsC]
   refine dR fk rfl eY (by decide) (aA j) (c:=faC x.pre[j]) (by simp[bK]) rfl ?_
   have r1:∀ a b c:V,fj [a,b,c] 0 ((faC x.pre[j]).map .c)=(faC x.pre[j]).map .c:=fun _ _ _=>rfl
   have r3:∀ nb q (K:V→Prop),ldA nb q ((faC x.pre[j]).map .c) 0 3 K=(q<nb∧K (faV x.pre[j])):=fun nb q K=>by
    unfold ldA
    exact propext ⟨fun h=>⟨h.1,h.2.2⟩,fun h=>⟨h.1,⟨rfl,rfl⟩,h.2⟩⟩
   have r2:cy ((faC x.pre[j]).map V.c)=false:=rfl
   simp only[pkA,ptA,pkF,gj,seval,r1]
   refine uB ?_
   simp only[abx,seval,dY,dS,nu,na,gw,r2,r3]
   have hP1:prs t.xs++(x.pre.take (j+1)).map (fun f=>(f,t.xs.length))=(prs t.xs++(x.pre.take j).map fun f=>(f,t.xs.length))++[(x.pre[j],t.xs.length)]:=by
    rw[aC bK,dj,gk,aI]
   have hwj:=bG (n:=(j:Int)+1) (k:=j+1) (by omega) (by omega)
   have hj1:((j+1:Nat):Int)=(j:Int)+1:=by omega
   have hPl:∀ f,(uP (prs t.xs++(x.pre.take j).map fun f=>(f,t.xs.length)) f).length≤2000000:=fun f=>by
    have:=@UC (prs t.xs++(x.pre.take j).map fun f=>(f,t.xs.length)) f
    rw[ai,au,aN] at this;omega
   have r4:jY 1 [(0,obV bk)] [[C.lit (.pointer none)]]=some [[obP bk]]:=rfl
   simp only[pkA,seval,vE,r4]
   refine aiu (l:=hds (mo (prs t.xs++(x.pre.take j).map fun f=>(f,t.xs.length))) m.hd) rfl (show 2<6 by decide) (fun jj v hjv=>?_) (fun qx=>?_)
   ·simp only[oV,seval,dY,dS,nu,na,gw]
    have EO:=Na hjv
    obtain⟨hkf,rfl⟩:=EO
    obtain⟨c,vB,hc2,hc3⟩:=x7 (ob:=ob1) (u:=uP (prs t.xs++(x.pre.take j).map fun f=>(f,t.xs.length))) ((hm.us _).2 hkf)
    refine .ggT 0 (c+1) 49 (show 0<6 by decide) hc3 rfl (.done ?_)
    simp only[oV,seval,cG,wh]
    refine Li (v:=m.hd x.pre[j]) (y1:=[obP bk]) (sz:=1) (by_:=8) nq rfl vQ rfl rfl rfl (by decide) rfl rfl rfl ⟨by decide,by simp,by simp⟩ rfl (.inr rfl) (by simp) rfl ?_ ?_ ?_
    ·have:=hPl x.pre[j]
     rw[au,au];omega
    ·have:=hPl x.pre[j]
     rw[au,au];omega
    simp only[oV,seval,dY,dS,nu,na,gw]
    refine .ggB 49 0 (c+1) (x:=.un) rfl (show 0<6 by decide) (by simp[Ed,vB]) rfl fun v' _ hgv=>.done ?_
    simp only[oV,seval,dY,dS,nu,na,gw]
    refine abv (l:=hds (mo (prs t.xs++(x.pre.take j).map fun f=>(f,t.xs.length))) m.hd) (f:=x.pre[j]) (v0:=m.hd x.pre[j]) rfl (show 2<6 by decide) hjv ?_
    simp only[pkA,dS]
    refine .done ?_
    simp only[oV,seval,hwj]
    have pg:((uP (prs t.xs++(x.pre.take j).map fun f=>(f,t.xs.length)) x.pre[j]).map m.bl).map (fun b=>[obP b])++[[obP bk]]=((uP (prs t.xs++(x.pre.take j).map fun f=>(f,t.xs.length)) x.pre[j]++[t.xs.length]).map m.bl).map (fun b=>[obP b]):=by
     rw[dj,dj,gk,gk,WH]
    have hv':∃ blk cap,v'=.slice (some ⟨blk,0,none⟩) (uP (prs t.xs++(x.pre.take j).map fun f=>(f,t.xs.length)) x.pre[j]++[t.xs.length]).length cap:=UD pg hgv
    refine cj (⟨m.its,m.bl,upF m.hd x.pre[j] v'⟩,j+1) _ ⟨⟨?_,WH⟩,bK⟩ (by simp only;omega) (cD (LB rfl) (show 5≤5 by decide) (show 5≤6 by decide) (by simp[FL,ak,hj1,fsC]) ?_)
    ·simp only[hP1,sS,AW,AX hkf]
     exact hm.more hkf (bQ _) hv'
    ·simp only[hP1,sS,AW,AX hkf]
     refine⟨?_,by simp[ak,bxs],?_,by simp[ak,bxs],by simp[ak,bxs],trivial⟩
     ·rw[← LA hm hc2]
      simp[ak,usG,WH]
     ·simp only[ak,ZY hm.kn hjv]
      rfl
   ·simp only[oV,seval,dY,dS,nu,na,gw,Z0]
    rw[M9] at qx
    have hu0:=hm.ku _ qx
    refine .more 0 (show 0<6 by decide) rfl (.gg0 49 rfl (.done ?_))
    simp only[oV,seval,cG,wh]
    refine Li (v:=.slice none 0 0) (E:=none) (es:=[]) (y1:=[obP bk]) (sz:=1) (by_:=8) nq rfl vQ rfl rfl rfl (by decide) rfl rfl rfl ⟨by decide,by simp,by simp⟩ rfl (.inl rfl) (by simp) rfl (by decide) (by decide) ?_
    simp only[oV,seval,dY,dS,nu,na,gw]
    refine .ggB 49 0 ((cells m ob1 (uP (prs t.xs++(x.pre.take j).map fun f=>(f,t.xs.length)))).length+1) (x:=.un) rfl (show 0<6 by decide) (by simp[]) rfl fun v' _ hgv=>.done ?_
    simp only[oV,seval,dY,dS,nu,na,gw]
    refine abv (j:=(hds (mo (prs t.xs++(x.pre.take j).map fun f=>(f,t.xs.length))) m.hd).length) (l:=hds (mo (prs t.xs++(x.pre.take j).map fun f=>(f,t.xs.length))) m.hd++[(x.pre[j],.slice none 0 0)]) (f:=x.pre[j]) (v0:=.slice none 0 0) rfl (show 2<6 by decide) (by simp) ?_
    simp only[pkA,dS]
    refine .done ?_
    simp only[oV,seval,hwj]
    have pg:([]:List (List C))++[[obP bk]]=((uP (prs t.xs++(x.pre.take j).map fun f=>(f,t.xs.length)) x.pre[j]++[t.xs.length]).map m.bl).map (fun b=>[obP b]):=by
     rw[hu0,eI,eI,gk,gk,WH]
    have hv':∃ blk cap,v'=.slice (some ⟨blk,0,none⟩) (uP (prs t.xs++(x.pre.take j).map fun f=>(f,t.xs.length)) x.pre[j]++[t.xs.length]).length cap:=UD pg hgv
    refine cj (⟨m.its++[.us x.pre[j]],m.bl,upF m.hd x.pre[j] v'⟩,j+1) _ ⟨⟨?_,WH⟩,bK⟩ (by simp only;omega) (cD (LB rfl) (show 5≤5 by decide) (show 5≤6 by decide) (by simp[FL,ak,hj1,fsC]) ?_)
    ·simp only[hP1,sS,AW,x8 qx]
     exact hm.first qx (bQ _) hv'
    ·simp only[hP1,sS,AW,x8 qx]
     refine⟨?_,by simp[ak,bxs],?_,by simp[ak,bxs],by simp[ak,bxs],trivial⟩
     ·rw[IC hm qx,hu0]
      simp[ak,usG,WH]
     ·rw[← ZZ (v0:=.slice none 0 0) qx]
      simp[]
  ·have hj0:j=x.pre.length:=by simp at gr;omega
   subst hj0
   have hP:prs t.xs++(x.pre.take x.pre.length).map (fun f=>(f,t.xs.length))=prs (t.xs++[x]):=by rw[bD,ID]
   simp only[hP] at hm
   have hm':Mw m (t.xs++[x]).length (mo (prs (t.xs++[x]))) (uP (prs (t.xs++[x]))):=by simpa using hm
   simp only[pkA,hP]
   refine cJ _ _ ?_
   simp only[pkA,seval]
   refine uB ?_
   obtain⟨c,vB,hc2,hc3⟩:=x7 (ob:=ob1) (u:=uP (prs (t.xs++[x]))) ((hm.ob _).2 (bQ t.xs.length))
   have yE:rX m ob1 (uP (prs (t.xs++[x]))) (.ob t.xs.length)=obG bk ⟨x,(t.xs.length:Nat),(x.pre.length:Nat)⟩:=by simp only[rX,jV,x6,WH]
   rw[yE] at hc3
   simp only[oV,seval,dY,dS,nu,na,gw,vo]
   refine Gh ?_
   simp only[oV,seval,vE,dY,dS,nu,na,gw]
   refine LC (b:=0) (k:=c+1) (show 0<5 by decide) hc3 ?_
   simp only[pkA,dS]
   refine .done ?_
   have yz:∀ (q:List Wt) (o:Nat→Option Wt) (bx:Nat→List V) (nb:Nat) (fr:Nat→V),q=que (t.xs++[x])→o=obs (t.xs++[x])→5≤nb→bx 0=V.lp Lb flS::cells m o (uP (prs (t.xs++[x])))→bx 1=[.mr 2]→bx 2=uM (hds (mo (prs (t.xs++[x]))) m.hd)→bx 3=qB .un (vH q) 0→bx 4=[i64 (t.xs.length+1:Nat)]→
    SY 5 R .normal ⟨fr,bx,nb⟩:=by
    rintro q o bx nb fr rfl rfl h5 b0 b1 b2 b3 b4
    refine⟨bo true,ybS 141 #[26] _ _ ⟨t.xs++[x],m,hm'⟩,by rw[hR];exact⟨⟨t.xs++[x],m,hm'⟩,true,⟨rfl,rfl⟩,rfl,rfl⟩,rfl,Lb,flS,_,⟨b0,show 0<nb by omega⟩,[],?_⟩
    rw[hLb,hLc]
    refine S0 (fun _ h=>by cases h) (ltS B2) (ab 5) h5 trivial ?_
    intro i hi
    match i,hi with
    |0,_=>simp[up,bxs,ybS]
    |1,_=>simp[up,bxs,ybS,b1]
    |2,_=>simp[up,bxs,ybS,b2]
    |3,_=>simp[up,bxs,ybS,b3]
    |4,_=>simp[up,bxs,ybS,b4]
   have hoe:x.pre≠[]→ob1=obs (t.xs++[x]):=fun h=>by rw[jV,IE,if_neg (by simpa using h)]
   refine aT (fun hy=>?_) (fun hy=>?_)
   ·have h0:x.pre=[]:=by simpa using hy
    simp only[oV,seval]
    refine rk rfl (.frz 0 (c+1) 8 bk 1 1 (show 0<5 by decide) hc3 rfl (.done ?_))
    simp only[oV,seval]
    have hq:que (t.xs++[x])=que t.xs++[⟨x,(t.xs.length:Nat),(x.pre.length:Nat)⟩]:=by rw[IF,if_pos (by simp[h0]),h0];rfl
    have mZ:=Nb (xs:=t.xs)
    refine ml [3,4] rfl (M6 (wtP ⟨x,(t.xs.length:Nat),(x.pre.length:Nat)⟩) .un [i64 (t.xs.length+1:Nat)] 0 ((que t.xs).map fun w=>[wtP w]) (Gg (que t.xs)) Nc (by simp) (by rw[au];omega) rfl rfl rfl) (by simp[V.fz,V.ren,rho,wtP]) rfl (by decide) rfl
     ⟨⟨show 3<5 by decide,rfl⟩,⟨show 4<5 by decide,rfl⟩,trivial⟩ ?_
    intro bx' ko vA
    simp only[pkA]
    refine yz (que (t.xs++[x])) (upO ob1 t.xs.length none) _ _ _ rfl ?_ (ab 5) ?_ ?_ ?_ ?_ ?_
    ·rw[jV,Z1,IE,if_pos (by simp[h0])]
    ·rw[ko 0 (by decide),← B0 hm hc2 none];rfl
    ·rw[ko 1 (by decide)];rfl
    ·rw[ko 2 (by decide)];rfl
    ·rw[hq,Ee];exact vA 0 3 _ rfl rfl
    ·exact vA 1 4 _ rfl rfl
   ·have h0:x.pre≠[]:=by simpa using hy
    simp only[pkA]
    refine yz (que t.xs) ob1 _ _ _ (by rw[IF,if_neg (by simpa using h0),bq]) (hoe h0) (ab 5) rfl rfl rfl rfl rfl
