/- Layer 18: a round of the loop over the instances. -/
import Derived.Test.YtloppcgcepgbnaaGreatDoorVlX1
set_option linter.all false
namespace Go.Proofs.YtloppcgcepgbnaaGreatDoor
open Go Go.Vl
variable {G:Gl}
set_option maxRecDepth 4000
theorem me {f:List (Nat×Nat×Bool)} {z cs:List C} {p:List (Nat×V)} {K:V→Prop} {o:Option (List C)} (h:o=some cs) (hK:K (.agg cs)):sh f z p K o:=by subst h;exact hK
theorem aeh {s:Vl.S} {d:Option Tmp} {w:Wt} {b k:Nat} {y:V} {K:Vl.S→Prop} (hb:b<s.nb) (hk:(s.bx b)[k]?=some y) (hy:y.isMk=false) (hK:∀ blk,K ({ s with bx:=up s.bx b ((s.bx b).set k (obG blk w)) }.put d (obV blk))) :
 xn Tryz.prog s d 158 (.agg (wtC w)) K:=by
 unfold xn
 rw[qS]
 exact⟨b,k,y,⟨rfl,by decide,hb,hk,hy⟩,hK⟩
def TA:Code→Option (Code×Code)
 | .seq a b=>match TA a with
  |some r=>some r
  |none=>TA b
 | .block _ b=>TA b
 | .scope b=>TA b
 | .loop b=>TA b
 | .rangeFunc _ _ a b=>some (a,b)
 |_=>none
noncomputable def Ob:Option (Code×Code):=(Tryz.f90.body).bind TA
def afW:=jj @pkA (jj @ptA @pkF)
def afX:=jj @pkA (jj @ptA @y5)
def oR:=jj @pkA @y5
set_option maxHeartbeats 4000000 in
theorem TB (t:Sa) (x:In) (hx:x.pre.length≤1000000) (hp:(prs t.xs).length≤1000000) (hn:t.xs.length<1000000):∃ c,Ob=some c∧(Yw 141 #[26] c.1 c.2).ok G t x:=by
 refine⟨(_,_),rfl,?_⟩
 unfold Ys.ok
 show YE Tryz.prog G _ (ybS 141 #[26] _ _ t) _
 refine ajk (fl:=flS) (gs:=cells t.m (obs t.xs) (uP (prs t.xs))) (bs:=[[.mr 2],uM (hds (mF (prs t.xs)) t.m.hd),qB .un (vz (que t.xs)) 0,[i64 t.xs.length]])
  [2850007,2890007,2350033,2380033,2850012,2890012,2350048,2380049,2400049,2380050,2850014,2890014,2350055,2300015,1000058] mixed rfl ?_ ?_ ?_ ?_ ?_
 ·intro q hq;simp at hq;subst hq;decide
 ·kernel_rfl
 ·kernel_rfl
 ·refine⟨fun y hy=>?_,(Yw 141 #[26] _ _).lt t,fun r b1 h=>?_⟩
  ·simp only[aW] at hy;subst hy;trivial
  ·obtain⟨t',b,_,_,rfl⟩:=h
   exact ar _
 intro Lb Lc R hLb hLc hR
 have q1:∀ a b c:V,eS [a,b,c] 0 ((inC x).map .c)=(inC x).map .c:=fun _ _ _=>rfl
 have q2:bY ((inC x).map V.c)=false:=rfl
 have q3:∀ nb q (K:V→Prop),ldA nb q ((inC x).map V.c) 0 3 K=(q<nb∧K (.agg (inC x))):=fun nb q K=>by
  unfold ldA
  exact propext ⟨fun h=>⟨h.1,h.2.2⟩,fun h=>⟨h.1,⟨rfl,rfl⟩,h.2⟩⟩
 have q4:∀ nb q (K:V→Prop),ldB nb q ((inC x).map V.c) 1 K=(q<nb∧K (.c (fsC x.pre))):=fun _ _ _=>rfl
 have q5:bY (qB .un (vz (que t.xs)) 0)=false:=rfl
 have len_fs:∀ (l:List Fa) (K:V→Prop),fw Tryz.prog 28 (.c (fsC l)) K=K (i64 l.length):=fun l K=>by
  rw[fsC,ff eO rfl,ak]
 simp only[afW,seval,frY,flS,List.zip_cons_cons,List.zip_nil_right,dH,List.foldl_nil,q1]
 refine tY ?_
 simp only[afW,seval,dU,dK,nD,nu,gp,q2,q3,q4,len_fs]
 refine me (cs:=wtC ⟨x,(t.xs.length:Nat),(x.pre.length:Nat)⟩) rfl ?_
 simp only[pkA,seval,dU,dK,nD,nu,gp]
 refine .more 0 (show 0<6 by decide) rfl (.done ?_)
 simp only[pkA,seval,vr]
 refine aeh (b:=0) (k:=(cells t.m (obs t.xs) (uP (prs t.xs))).length+1) (y:=.un) (show 0<6 by decide) (by simp[]) rfl fun bk=>?_
 have e0:∀ (l:List V) (a:V),(V.lp Lb flS::(l++[V.un])).set (l.length+1) a=V.lp Lb flS::(l++[a]):=fun l a=>by simp
 simp only[pkA,seval,dU,dK,nD,nu,gp]
 refine .done ?_
 have len_nn:((t.xs.length:Nat):Int)+1=((t.xs.length+1:Nat):Int):=by omega
 have hw:=cd (n:=(t.xs.length:Int)+1) (k:=t.xs.length+1) (by omega) (by omega)
 simp only[afX,seval,q2,q4,len_fs,hw]
 have pZ:∀ (l:List V) (a:V),(l++[V.un]).set l.length a=l++[a]:=fun l a=>by simp
 obtain⟨ob1,j4⟩:∃ o,o=upO (obs t.xs) t.xs.length (some ⟨x,(t.xs.length:Nat),(x.pre.length:Nat)⟩):=⟨_,rfl⟩
 refine cx (fun s:Me×Nat=>hdS [(4,.bp 1 0),(5,.bp 3 0),(6,.bp 4 0),(8,obV bk),(37,.c (fsC x.pre)),(38,i64 x.pre.length),(39,i64 s.2)]
  (bxS Lb (cells s.1 (ob1) (uP (prs t.xs++(x.pre.take s.2).map fun f=>(f,t.xs.length))))
   (hds (mF (prs t.xs++(x.pre.take s.2).map fun f=>(f,t.xs.length))) s.1.hd) (que t.xs) (t.xs.length+1)))
  (fun s=>x.pre.length - s.2) (fun s=>(Mw s.1 (t.xs.length+1) (mF (prs t.xs++(x.pre.take s.2).map fun f=>(f,t.xs.length))) (uP (prs t.xs++(x.pre.take s.2).map fun f=>(f,t.xs.length)))∧s.1.bl t.xs.length=bk)∧s.2≤x.pre.length)
  (⟨t.m.its++[.ob t.xs.length],upO t.m.bl t.xs.length bk,t.m.hd⟩,0) ⟨⟨by simpa using t.wf.new bk,yg⟩,au _⟩ ?_ ?_
 ·refine cL (N9 rfl) (show 5≤5 by decide) (show 5≤6 by decide) (by simp[FL,ao]) ?_
  simp only[jB,lO,ee]
  rw[j4,Tz t.wf]
  exact⟨by simp[ao,pZ,flS],by simp[ao,bxs],by simp[ao,bxs],by simp[ao,bxs],by simp[],trivial⟩
 ·rintro⟨m,j⟩ ⟨⟨hm,Uo⟩,hj⟩ Q cE cC dV
  simp only at hm Uo hj
  simp only[oR,seval,bxS]
  refine aS (fun bV=>?_) (fun jA=>?_)
  ·have bV:j<x.pre.length:=by simpa using bV
   simp only[oR,seval,fsC]
   refine fE eO rfl eV (by decide) (aJ j) (c:=faC x.pre[j]) (by simp[bV]) rfl ?_
   have r1:∀ a b c:V,eS [a,b,c] 0 ((faC x.pre[j]).map .c)=(faC x.pre[j]).map .c:=fun _ _ _=>rfl
   have r3:∀ nb q (K:V→Prop),ldA nb q ((faC x.pre[j]).map .c) 0 3 K=(q<nb∧K (faV x.pre[j])):=fun nb q K=>by
    unfold ldA
    exact propext ⟨fun h=>⟨h.1,h.2.2⟩,fun h=>⟨h.1,⟨rfl,rfl⟩,h.2⟩⟩
   have r2:bY ((faC x.pre[j]).map V.c)=false:=rfl
   simp only[pkA,ptA,pkF,y5,seval,r1]
   refine tY ?_
   simp only[afX,seval,dU,dK,nD,nu,gp,r2,r3]
   have hP1:prs t.xs++(x.pre.take (j+1)).map (fun f=>(f,t.xs.length))=(prs t.xs++(x.pre.take j).map fun f=>(f,t.xs.length))++[(x.pre[j],t.xs.length)]:=by
    rw[bg bV,dA,gi,bw]
   have hwj:=cd (n:=(j:Int)+1) (k:=j+1) (by omega) (by omega)
   have hj1:((j+1:Nat):Int)=(j:Int)+1:=by omega
   have hPl:∀ f,(uP (prs t.xs++(x.pre.take j).map fun f=>(f,t.xs.length)) f).length≤2000000:=fun f=>by
    have:=@YU (prs t.xs++(x.pre.take j).map fun f=>(f,t.xs.length)) f
    rw[aj,ak,aG] at this;omega
   have r4:lW 1 [(0,obV bk)] [[C.lit (.pointer none)]]=some [[obP bk]]:=rfl
   simp only[pkA,seval,vr,r4]
   refine aml (l:=hds (mF (prs t.xs++(x.pre.take j).map fun f=>(f,t.xs.length))) m.hd) rfl (show 2<6 by decide) (fun jj v hjv=>?_) (fun vI=>?_)
   ·simp only[oR,seval,dU,dK,nD,nu,gp]
    have Dm:=PN hjv
    obtain⟨hkf,rfl⟩:=Dm
    obtain⟨c,hc1,hc2,hc3⟩:=yh (ob:=ob1) (u:=uP (prs t.xs++(x.pre.take j).map fun f=>(f,t.xs.length))) ((hm.us _).2 hkf)
    refine .ggT 0 (c+1) 49 (show 0<6 by decide) hc3 rfl (.done ?_)
    simp only[oR,seval,fh,v7]
    refine NC (v:=m.hd x.pre[j]) (y1:=[obP bk]) (sz:=1) (by_:=8) lh rfl qR rfl rfl rfl (by decide) rfl rfl rfl ⟨by decide,by simp,by simp⟩ rfl (.inr rfl) (by simp) rfl ?_ ?_ ?_
    ·have:=hPl x.pre[j]
     rw[ak,ak];omega
    ·have:=hPl x.pre[j]
     rw[ak,ak];omega
    simp only[oR,seval,dU,dK,nD,nu,gp]
    refine .ggB 49 0 (c+1) (x:=.un) rfl (show 0<6 by decide) (by simp[EY,hc1]) rfl fun v' _ hgv=>.done ?_
    simp only[oR,seval,dU,dK,nD,nu,gp]
    refine afV (l:=hds (mF (prs t.xs++(x.pre.take j).map fun f=>(f,t.xs.length))) m.hd) (f:=x.pre[j]) (v0:=m.hd x.pre[j]) rfl (show 2<6 by decide) hjv ?_
    simp only[pkA,dK]
    refine .done ?_
    simp only[oR,seval,hwj]
    have pV:((uP (prs t.xs++(x.pre.take j).map fun f=>(f,t.xs.length)) x.pre[j]).map m.bl).map (fun b=>[obP b])++[[obP bk]]=((uP (prs t.xs++(x.pre.take j).map fun f=>(f,t.xs.length)) x.pre[j]++[t.xs.length]).map m.bl).map (fun b=>[obP b]):=by
     rw[dA,dA,gi,gi,Uo]
    have hv':∃ blk cap,v'=.slice (some ⟨blk,0,none⟩) (uP (prs t.xs++(x.pre.take j).map fun f=>(f,t.xs.length)) x.pre[j]++[t.xs.length]).length cap:=YV pV hgv
    refine cE (⟨m.its,m.bl,upF m.hd x.pre[j] v'⟩,j+1) _ ⟨⟨?_,Uo⟩,bV⟩ (by simp only;omega) (cL (N9 rfl) (show 5≤5 by decide) (show 5≤6 by decide) (by simp[FL,ao,hj1,fsC]) ?_)
    ·simp only[hP1,sA,A0,Hq hkf]
     exact hm.more hkf (dN _) hv'
    ·simp only[hP1,sA,A0,Hq hkf]
     refine⟨?_,by simp[ao,bxs],?_,by simp[ao,bxs],by simp[ao,bxs],trivial⟩
     ·rw[← N8 hm hc2]
      simp[ao,usG,Uo]
     ·simp only[ao,aed hm.kn hjv]
      rfl
   ·simp only[oR,seval,dU,dK,nD,nu,gp,aef]
    rw[PM] at vI
    have hu0:=hm.ku _ vI
    refine .more 0 (show 0<6 by decide) rfl (.gg0 49 rfl (.done ?_))
    simp only[oR,seval,fh,v7]
    refine NC (v:=.slice none 0 0) (E:=none) (es:=[]) (y1:=[obP bk]) (sz:=1) (by_:=8) lh rfl qR rfl rfl rfl (by decide) rfl rfl rfl ⟨by decide,by simp,by simp⟩ rfl (.inl rfl) (by simp) rfl (by decide) (by decide) ?_
    simp only[oR,seval,dU,dK,nD,nu,gp]
    refine .ggB 49 0 ((cells m ob1 (uP (prs t.xs++(x.pre.take j).map fun f=>(f,t.xs.length)))).length+1) (x:=.un) rfl (show 0<6 by decide) (by simp[]) rfl fun v' _ hgv=>.done ?_
    simp only[oR,seval,dU,dK,nD,nu,gp]
    refine afV (j:=(hds (mF (prs t.xs++(x.pre.take j).map fun f=>(f,t.xs.length))) m.hd).length) (l:=hds (mF (prs t.xs++(x.pre.take j).map fun f=>(f,t.xs.length))) m.hd++[(x.pre[j],.slice none 0 0)]) (f:=x.pre[j]) (v0:=.slice none 0 0) rfl (show 2<6 by decide) (by simp) ?_
    simp only[pkA,dK]
    refine .done ?_
    simp only[oR,seval,hwj]
    have pV:([]:List (List C))++[[obP bk]]=((uP (prs t.xs++(x.pre.take j).map fun f=>(f,t.xs.length)) x.pre[j]++[t.xs.length]).map m.bl).map (fun b=>[obP b]):=by
     rw[hu0,dP,dP,gi,gi,Uo]
    have hv':∃ blk cap,v'=.slice (some ⟨blk,0,none⟩) (uP (prs t.xs++(x.pre.take j).map fun f=>(f,t.xs.length)) x.pre[j]++[t.xs.length]).length cap:=YV pV hgv
    refine cE (⟨m.its++[.us x.pre[j]],m.bl,upF m.hd x.pre[j] v'⟩,j+1) _ ⟨⟨?_,Uo⟩,bV⟩ (by simp only;omega) (cL (N9 rfl) (show 5≤5 by decide) (show 5≤6 by decide) (by simp[FL,ao,hj1,fsC]) ?_)
    ·simp only[hP1,sA,A0,CG vI]
     exact hm.first vI (dN _) hv'
    ·simp only[hP1,sA,A0,CG vI]
     refine⟨?_,by simp[ao,bxs],?_,by simp[ao,bxs],by simp[ao,bxs],trivial⟩
     ·rw[Ky hm vI,hu0]
      simp[ao,usG,Uo]
     ·rw[← aee (v0:=.slice none 0 0) vI]
      simp[]
  ·have hj0:j=x.pre.length:=by simp at jA;omega
   subst hj0
   have hP:prs t.xs++(x.pre.take x.pre.length).map (fun f=>(f,t.xs.length))=prs (t.xs++[x]):=by rw[cH,Kz]
   simp only[hP] at hm
   have hm':Mw m (t.xs++[x]).length (mF (prs (t.xs++[x]))) (uP (prs (t.xs++[x]))):=by simpa using hm
   simp only[pkA,hP]
   refine cC _ _ ?_
   simp only[pkA,seval]
   refine tY ?_
   obtain⟨c,hc1,hc2,hc3⟩:=yh (ob:=ob1) (u:=uP (prs (t.xs++[x]))) ((hm.ob _).2 (dN t.xs.length))
   have Ae:rH m ob1 (uP (prs (t.xs++[x]))) (.ob t.xs.length)=obG bk ⟨x,(t.xs.length:Nat),(x.pre.length:Nat)⟩:=by simp only[rH,j4,yg,Uo]
   rw[Ae] at hc3
   simp only[oR,seval,dU,dK,nD,nu,gp,vb]
   refine Ht ?_
   simp only[oR,seval,vr,dU,dK,nD,nu,gp]
   refine Oa (b:=0) (k:=c+1) (show 0<5 by decide) hc3 ?_
   simp only[pkA,dK]
   refine .done ?_
   have vH:∀ (q:List Wt) (o:Nat→Option Wt) (bx:Nat→List V) (nb:Nat) (fr:Nat→V),q=que (t.xs++[x])→o=obs (t.xs++[x])→5≤nb→bx 0=V.lp Lb flS::cells m o (uP (prs (t.xs++[x])))→bx 1=[.mr 2]→bx 2=uM (hds (mF (prs (t.xs++[x]))) m.hd)→bx 3=qB .un (vz q) 0→bx 4=[i64 (t.xs.length+1:Nat)]→
    O7 5 R .normal ⟨fr,bx,nb⟩:=by
    rintro q o bx nb fr rfl rfl h5 b0 b1 b2 b3 b4
    refine⟨bo true,ybS 141 #[26] _ _ ⟨t.xs++[x],m,hm'⟩,by rw[hR];exact⟨⟨t.xs++[x],m,hm'⟩,true,⟨rfl,rfl⟩,rfl,rfl⟩,rfl,Lb,flS,_,⟨b0,show 0<nb by omega⟩,[],?_⟩
    rw[hLb,hLc]
    refine G3 (fun _ h=>by cases h) (ltS CH) (ar 5) h5 trivial ?_
    intro i hi
    match i,hi with
    |0,_=>simp[up,bxs,ybS]
    |1,_=>simp[up,bxs,ybS,b1]
    |2,_=>simp[up,bxs,ybS,b2]
    |3,_=>simp[up,bxs,ybS,b3]
    |4,_=>simp[up,bxs,ybS,b4]
   have hoe:x.pre≠[]→ob1=obs (t.xs++[x]):=fun h=>by rw[j4,KA,if_neg (by simpa using h)]
   refine aS (fun hy=>?_) (fun hy=>?_)
   ·have h0:x.pre=[]:=by simpa using hy
    simp only[oR,seval]
    refine qM rfl (.frz 0 (c+1) 8 bk 1 1 (show 0<5 by decide) hc3 rfl (.done ?_))
    simp only[oR,seval]
    have hq:que (t.xs++[x])=que t.xs++[⟨x,(t.xs.length:Nat),(x.pre.length:Nat)⟩]:=by rw[KB,if_pos (by simp[h0]),h0];rfl
    have nr:=PO (xs:=t.xs)
    refine ko [3,4] rfl (PL (wtP ⟨x,(t.xs.length:Nat),(x.pre.length:Nat)⟩) .un [i64 (t.xs.length+1:Nat)] 0 ((que t.xs).map fun w=>[wtP w]) (Hr (que t.xs)) PQ (by simp) (by rw[ak];omega) rfl rfl rfl) (by simp[V.fz,V.ren,rho,wtP]) rfl (by decide) rfl
     ⟨⟨show 3<5 by decide,rfl⟩,⟨show 4<5 by decide,rfl⟩,trivial⟩ ?_
    intro bx' iH qc
    simp only[pkA]
    refine vH (que (t.xs++[x])) (upO ob1 t.xs.length none) _ _ _ rfl ?_ (ar 5) ?_ ?_ ?_ ?_ ?_
    ·rw[j4,aeg,KA,if_pos (by simp[h0])]
    ·rw[iH 0 (by decide),← CE hm hc2 none];rfl
    ·rw[iH 1 (by decide)];rfl
    ·rw[iH 2 (by decide)];rfl
    ·rw[hq,EZ];exact qc 0 3 _ rfl rfl
    ·exact qc 1 4 _ rfl rfl
   ·have h0:x.pre≠[]:=by simpa using hy
    simp only[pkA]
    refine vH (que t.xs) ob1 _ _ _ (by rw[KB,if_neg (by simpa using h0),ee]) (hoe h0) (ar 5) rfl rfl rfl rfl rfl
structure Wy where
 fact:Fa
 round:Int
 rule:Int
 pre:List Fa
 deriving DecidableEq
def cm (W:List Wy):List Fa:=W.map (·.fact)
def tj (num:Int) (x:In) (W:List Wy) (f:Fa):List Wy:=if f∈cm W then W else W++[⟨f,num,x.rule,x.pre⟩]
def Oc (num:Int) (W:List Wy) (x:In):List Wy:=x.con.foldl (tj num x) W
def lg (num:Int) (W:List Wy) (l:List Wt):List Wy:=l.foldl (fun W w=>Oc num W w.x) W
def rdy (D:List Fa) (x:In):Bool:=x.pre.all fun f=>decide (f∈D)
def yi (L:List In) (D D':List Fa):List Wt:=(L.zipIdx.filter fun q=>rdy D' q.1&&!rdy D q.1).map fun q=>⟨q.1,(q.2:Nat),0⟩
def y6 (L:List In):Nat→Int→List Wt→List Wy→List Wy
 |0,_,_,W=>W
 |n+1,num,now,W=>if now=[] then W else y6 L n (num+1) (yi L (cm W) (cm (lg num W now))) (lg num W now)
def yj (L:List In):List Wy:=y6 L (L.length+2) 1 (que L) []
theorem E0 {V W:List Wy}:cm (V++W)=cm V++cm W:=dA
theorem Oe {num:Int} {x:In} {W:List Wy} {f:Fa}:cm (tj num x W f)=o9 (cm W) f:=by
 unfold tj
 by_cases h:f∈cm W
 ·rw[if_pos h,Hq h]
 ·rw[if_neg h,CG h,E0];rfl
theorem uo {num:Int} {x:In}:∀ (l:List Fa) (W:List Wy),cm (l.foldl (tj num x) W)=l.foldl o9 (cm W)
 |[],_=>rfl
 |f::l,W=>by rw[dH,dH,uo l,Oe]
theorem KC:∀ (l m:List Fa),m.Nodup→(l.foldl o9 m).Nodup
 |[],_,h=>h
 |f::l,m,h=>by
  rw[dH]
  exact KC l _ (Nz h)
theorem E1 {g:Fa}:∀ (l m:List Fa),g∈l.foldl o9 m↔g∈m∨g∈l
 |[],m=>by simp
 |f::l,m=>by rw[dH,E1 l,Jy,aQ];grind
theorem A1 {num:Int}:∀ (l:List Wt) (W:List Wy),(cm W).Nodup→(cm (lg num W l)).Nodup
 |[],_,h=>h
 |w::l,W,h=>A1 l (Oc num W w.x) (by unfold Oc;rw[uo];exact KC _ _ h)
theorem uq {num:Int} {g:Fa}:∀ (l:List Wt) (W:List Wy),g∈cm (lg num W l)↔g∈cm W∨∃ w∈l,g∈w.x.con
 |[],W=>by simp[lg]
 |w::l,W=>by
  have:=uq (num:=num) (g:=g) l (Oc num W w.x)
  unfold lg at *
  rw[dH,this]
  unfold Oc
  rw[uo,E1]
  simp only[aQ,exists_eq_or_imp]
  grind
def mkc (D:List Fa) (rest:List Nat) (x:In) (i:Nat):Nat:=(x.pre.filter fun f=>!decide (f∈D)).length+rest.count i
def obK (L:List In) (D:List Fa) (rest:List Nat) (i:Nat):Option Wt:=match L[i]? with
 |some x=>if mkc D rest x i=0 then none else some ⟨x,(i:Nat),(mkc D rest x i:Nat)⟩
 |none=>none
theorem aei {L:List In}:obs L=obK L [] []:=by
 funext i
 unfold obs obK
 cases h:L[i]? with
 |none=>rfl
 |some x=>
  have e:mkc [] [] x i=x.pre.length:=by
   unfold mkc
   rw[List.filter_eq_self.2 fun f _=>by simp]
   simp
  simp only[e]
  by_cases h2:x.pre=[]
  ·simp[h2]
  ·simp[h2]
theorem KD {L:List In} {f:Fa} {i:Nat}:(uP (prs L) f).count i=((L[i]?).map fun x=>x.pre.count f).getD 0:=by
 have ap8:∀ (M:List In) (k:Nat),(((M.zipIdx k).flatMap fun q=>q.1.pre.map fun f=>(f,q.2)).filter (fun p=>decide (p.1=f)) |>.map (·.2)).count i=if k≤i then((M[i - k]?).map fun x=>x.pre.count f).getD 0 else 0:=by
  intro M
  induction M with
  |nil=>intro k;simp
  |cons x M ih=>
   intro k
   rw[List.zipIdx_cons,iL,List.filter_append,dA,List.count_append,ih]
   have e:(((x.pre.map fun f=>(f,k)).filter (fun p=>decide (p.1=f))).map (·.2)).count i=if k=i then x.pre.count f else 0:=by
    induction x.pre with
    |nil=>simp
    |cons g l ih2=>
     rw[br,fL]
     by_cases hg:g=f
     ·subst hg
      simp only[bz,dn,br,List.count_cons,ih2,kG]
      by_cases hk:k=i<;>simp[hk]
     ·simp only[hg,decide_false,aI,dj,ih2]
      by_cases hk:k=i
      ·simp[hk,hg]
      ·simp[hk]
   simp only[e]
   rcases Nat.lt_trichotomy k i with hk | hk | hk
   ·rw[if_neg (by omega),if_pos (by omega),if_pos (by omega)]
    have:i - k=(i - (k+1))+1:=by omega
    rw[this,ct];simp
   ·subst hk;simp;intro h;omega
   ·rw[if_neg (by omega),if_neg (by omega),if_neg (by omega)]
 have:=ap8 L 0
 simpa[uP,prs] using this
theorem E2 {D:List Fa} {f:Fa} (hf:f∉D):∀ l:List Fa,(l.filter fun g=>!decide (g∈D)).length=(l.filter fun g=>!decide (g∈D++[f])).length+l.count f
 |[]=>rfl
 |g::l=>by
  have ih:=E2 hf l
  by_cases h:g=f
  ·subst h
   rw[fL,fL]
   simp[hf] at ih ⊢
   omega
  ·by_cases h2:g∈D
   ·rw[fL,fL]
    simp[h2,h] at ih ⊢
    omega
   ·rw[fL,fL]
    simp[h2,h] at ih ⊢
    omega
theorem vd {L:List In} {D:List Fa} {f:Fa} (hf:f∉D) {i:Nat} {x:In} (hx:L[i]?=some x):mkc (D++[f]) (uP (prs L) f) x i=mkc D [] x i:=by
 unfold mkc
 rw[KD,hx,E2 hf x.pre]
 simp
theorem TC {L:List In} {D:List Fa} {f:Fa} (hf:f∉D):obK L (D++[f]) (uP (prs L) f)=obK L D []:=by
 funext i
 unfold obK
 cases h:L[i]? with
 |none=>rfl
 |some x=>simp only[vd hf h]
theorem ym {D:List Fa} {rest:List Nat} {x:In} {i:Nat}:mkc D (i::rest) x i=mkc D rest x i+1:=by
 unfold mkc;rw[List.count_cons_self];omega
theorem rJ {D:List Fa} {rest:List Nat} {x:In} {i j:Nat} (h:j≠i):mkc D (i::rest) x j=mkc D rest x j:=by
 unfold mkc;rw[List.count_cons_of_ne (fun e=>h e.symm)]
theorem ajl {L:List In} {D:List Fa} {rest:List Nat} {i:Nat} {x:In} (hx:L[i]?=some x):obK L D (i::rest) i=some ⟨x,(i:Nat),(mkc D rest x i+1:Nat)⟩:=by
 unfold obK
 simp only[hx,ym]
 rw[if_neg (by omega)]
theorem YW {L:List In} {D:List Fa} {rest:List Nat} {i:Nat} {x:In} (hx:L[i]?=some x):obK L D rest=upO (obK L D (i::rest)) i (if mkc D rest x i=0 then none else some ⟨x,(i:Nat),(mkc D rest x i:Nat)⟩):=by
 funext j
 unfold obK upO
 by_cases h:j=i
 ·subst h;simp only[hx,dn]
 ·simp only[if_neg h]
  cases h2:L[j]? with
  |none=>simp only[]
  |some y=>simp only[rJ h]
theorem YX {D:List Fa} {l:List Nat} {k:Nat} {x:In} {i:Nat}:mkc D (l.drop k) x i≤mkc D l x i:=by
 unfold mkc
 have:=(List.drop_sublist k l).count_le i
 omega
theorem aej {D:List Fa} {x:In} {i:Nat}:mkc D [] x i≤x.pre.length:=by
 unfold mkc
 have:=eD (fun f=>!decide (f∈D)) x.pre
 simpa using this
theorem PS {D:List Fa} {x:In} {i:Nat}:mkc D [] x i=0↔rdy D x=true:=by
 unfold mkc rdy
 simp[List.filter_eq_nil_iff]
theorem ajm {L:List In} {f:Fa} {i:Nat} (h:i∈uP (prs L) f):∃ x,L[i]?=some x∧f∈x.pre:=by
 have h1:0<(uP (prs L) f).count i:=List.count_pos_iff.2 h
 rw[KD] at h1
 cases hx:L[i]? with
 |none=>rw[hx] at h1;simp at h1
 |some x=>
  rw[hx] at h1
  exact⟨x,rfl,List.count_pos_iff.1 (by simpa using h1)⟩
def NX (L:List In) (D0 D:List Fa) (rest:List Nat) (nx:List Wt):Prop:=nx.Nodup∧∀ w,w∈nx↔∃ (i:Nat) (x:In),L[i]?=some x∧w=⟨x,(i:Nat),0⟩∧rdy D0 x=false∧mkc D rest x i=0
theorem NX.init {L:List In} {D0:List Fa}:NX L D0 D0 [] []:=by
 refine⟨gy,fun w=>⟨fun h=>by simp at h,?_⟩⟩
 rintro⟨i,x,_,_,h1,h2⟩
 rw[PS,h1] at h2;cases h2
theorem NX.start {L:List In} {D0 D:List Fa} {nx:List Wt} {f:Fa} (h:NX L D0 D [] nx) (hf:f∉D):NX L D0 (D++[f]) (uP (prs L) f) nx:=by
 refine⟨h.1,fun w=>(h.2 w).trans ?_⟩
 constructor
 ·rintro⟨i,x,h1,h2,h3,h4⟩;exact⟨i,x,h1,h2,h3,by rw[vd hf h1];exact h4⟩
 ·rintro⟨i,x,h1,h2,h3,h4⟩;exact⟨i,x,h1,h2,h3,by rw[vd hf h1] at h4;exact h4⟩
theorem NX.keep {L:List In} {D0 D:List Fa} {nx:List Wt} {i:Nat} {rest:List Nat} {x:In} (h:NX L D0 D (i::rest) nx) (hx:L[i]?=some x) (hc:mkc D rest x i≠0):NX L D0 D rest nx:=by
 refine⟨h.1,fun w=>(h.2 w).trans ?_⟩
 constructor
 ·rintro⟨j,y,h1,h2,h3,h4⟩
  refine⟨j,y,h1,h2,h3,?_⟩
  by_cases e:j=i
  ·subst e;rw[ym] at h4;omega
  ·rw[rJ e] at h4;exact h4
 ·rintro⟨j,y,h1,h2,h3,h4⟩
  refine⟨j,y,h1,h2,h3,?_⟩
  by_cases e:j=i
  ·subst e;rw[hx] at h1;cases h1;exact absurd h4 hc
  ·rw[rJ e];exact h4
theorem NX.push {L:List In} {D0 D:List Fa} {nx:List Wt} {i:Nat} {rest:List Nat} {x:In} (h:NX L D0 D (i::rest) nx) (hx:L[i]?=some x) (h0:rdy D0 x=false) (hc:mkc D rest x i=0):NX L D0 D rest (nx++[⟨x,(i:Nat),0⟩]):=by
 refine⟨?_,fun w=>?_⟩
 ·rw[iN]
  refine⟨h.1,by simp,fun a ha b hb=>?_⟩
  simp only[aW] at hb;subst hb
  rintro rfl
  obtain⟨j,y,h1,h2,h3,h4⟩:=(h.2 _).1 ha
  injection h2 with e1 e2 e3
  have:i=j:=by omega
  subst this
  rw[ym] at h4;omega
 ·rw[aZ,h.2 w,aW]
  constructor
  ·rintro(⟨j,y,h1,h2,h3,h4⟩ | rfl)
   ·refine⟨j,y,h1,h2,h3,?_⟩
    by_cases e:j=i
    ·subst e;rw[ym] at h4;omega
    ·rw[rJ e] at h4;exact h4
   ·exact⟨i,x,hx,rfl,h0,hc⟩
  ·rintro⟨j,y,h1,h2,h3,h4⟩
   by_cases e:j=i
   ·subst e;rw[hx] at h1;cases h1;exact .inr h2
   ·exact .inl ⟨j,y,h1,h2,h3,by rw[rJ e];exact h4⟩
theorem yo {L:List In} {D D':List Fa} {w:Wt}:w∈yi L D D'↔∃ (i:Nat) (x:In),L[i]?=some x∧w=⟨x,(i:Nat),0⟩∧rdy D x=false∧rdy D' x=true:=by
 unfold yi
 simp only[bA,gb,Prod.exists,iU]
 constructor
 ·rintro⟨x,i,⟨h1,h2⟩,rfl⟩
  simp only[aX,dM] at h2
  exact⟨i,x,h1,rfl,h2.2,h2.1⟩
 ·rintro⟨i,x,h1,rfl,h2,h3⟩
  exact⟨x,i,⟨h1,by simp[h2,h3]⟩,rfl⟩
theorem wR {L:List In} {p:In×Nat→Bool}:((L.zipIdx.filter p).map fun q=>(⟨q.1,(q.2:Nat),0⟩:Wt)).Pairwise fun a b=>a.order<b.order:=by
 rw[List.pairwise_map]
 refine List.Pairwise.filter _ ?_
 rw[fN]
 intro i j hi hj hij
 simp only[List.getElem_zipIdx]
 omega
theorem zV {L:List In} {D D':List Fa}:(yi L D D').Pairwise fun a b=>a.order<b.order:=wR
theorem Of {L:List In}:(que L).Pairwise fun a b=>a.order<b.order:=wR
theorem KE {l:List Wt} (h:l.Pairwise fun a b=>a.order<b.order):l.Nodup:=h.imp fun {a b} A5=>by rintro rfl;omega
theorem ajn {l:List Wt} (h:l.Pairwise fun a b=>a.order<b.order) {x y:Wt} (hx:x∈l) (hy:y∈l) (he:x.order=y.order):x=y:=by
 obtain⟨i,hi,rfl⟩:=gG hx
 obtain⟨j,hj,rfl⟩:=gG hy
 rw[fN] at h
 rcases Nat.lt_trichotomy i j with h1 | h1 | h1
 ·have:=h i j hi hj h1;omega
 ·subst h1;rfl
 ·have:=h j i hj hi h1;omega
theorem NX.done {L:List In} {D0 D:List Fa} {nx:List Wt} (h:NX L D0 D [] nx):nx.Perm (yi L D0 D):=by
 refine (gA h.1 (KE zV)).2 fun w=>(h.2 w).trans ?_
 rw[yo]
 simp only[PS]
theorem NX.len {L:List In} {D0 D:List Fa} {rest:List Nat} {nx:List Wt} (h:NX L D0 D rest nx):nx.length≤L.length:=by
 have oV:=KE (wR (L:=L) (p:=fun _=>true))
 have hp:(((L.zipIdx.filter fun _=>true).map fun q=>(⟨q.1,(q.2:Nat),0⟩:Wt)).filter fun w=>decide (w∈nx)).Perm nx:=by
  refine (gA (oV.filter _) h.1).2 fun w=>?_
  rw[gb,decide_eq_true_iff]
  refine⟨fun q=>q.2,fun q=>⟨?_,q⟩⟩
  obtain⟨i,x,h1,rfl,_⟩:=(h.2 w).1 q
  exact bA.2 ⟨(x,i),gb.2 ⟨iU.2 h1,rfl⟩,rfl⟩
 rw[← hp.length_eq]
 refine df (eD _ _) ?_
 rw[ak]
 exact df (eD _ _) (by simp)
def unr (L:List In) (D:List Fa):Nat:=(L.filter fun x=>!rdy D x).length
theorem YY {D D':List Fa} (h:∀ f∈D,f∈D') {x:In} (hx:rdy D x=true):rdy D' x=true:=by
 unfold rdy at *
 rw[aV] at *
 exact fun f hf=>ey (h f (bn (hx f hf)))
theorem KF {L:List In} {D D':List Fa} (h:∀ f∈D,f∈D'):(yi L D D').length+unr L D'=unr L D:=by
 have e:∀ (M:List In) (k:Nat),(((M.zipIdx k).filter fun q=>rdy D' q.1&&!rdy D q.1).length)+unr M D'=unr M D:=by
  intro M
  induction M with
  |nil=>intro k;rfl
  |cons x M ih=>
   intro k
   have:=ih (k+1)
   unfold unr at *
   rw[List.zipIdx_cons,fL,fL,fL]
   cases h1:rdy D x
   ·cases h2:rdy D' x
    ·simp[] at this ⊢;omega
    ·simp[] at this ⊢;omega
   ·have h2:=YY h h1
    simp[h2] at this ⊢;omega
 have:=e L 0
 unfold yi
 rw[ak];exact this
theorem Og {L:List In} {D:List Fa}:unr L D≤L.length:=eD _ _
