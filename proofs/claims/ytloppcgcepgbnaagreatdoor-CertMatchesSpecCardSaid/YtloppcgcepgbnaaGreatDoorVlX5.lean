/- Layer 18: saturated. -/
import Derived.Test.YtloppcgcepgbnaaGreatDoorVlX4
import Derived.Test.YtloppcgcepgbnaaGreatDoorVlE0
set_option linter.all false
namespace Go.Proofs.YtloppcgcepgbnaaGreatDoor
open Go Go.Vl
variable {G:Gl}
set_option maxRecDepth 4000
def wyC (w:Wy):List C:=faC w.fact++[cI w.round,cI w.rule,fsC w.pre]
def wyV (w:Wy):V:=.agg (wyC w)
def wM (W:List Wy):List V:=qu faV wyV (W.map λw=>(w.fact,w))
theorem Dn {ρ:Nat->Nat} {W:List Wy}:(wM W).map (V.ren ρ)=wM W:=JW (λ_=>rfl) λ_=>rfl
theorem wU {k:Nat} {W:List Wy}:(wM W).all (λx=>x.ltB k)=true:=JX (λ_=>rfl) λ_=>rfl
def zwy:Wy:=⟨⟨0,0,0⟩,0,0,[]⟩
def aey (W:List Wy) (f:Fa):Wy:=(JV (W.map λw=>(w.fact,w)) f).getD zwy
theorem TG {W:List Wy} {f:Fa}:(JV (W.map λw=>(w.fact,w)) f).isSome=decide (f∈cG W):=by rw[WX,eW];rfl
theorem YF {s:Vl.S} {i:Nat} {W:List Wy} {f:Fa} {K:V->Prop} (hb:s.bx i=wM W) (hi:i<s.nb) (hK:K (.tup [.agg (wyC (aey W f)),bo (decide (f∈cG W))])):fL Tryz.prog 116 s (.mr i) (faV f) true K:=by
 refine SB (h:=wyV) (z:=.agg (wyC zwy)) (c:=faC) CU rfl eS rfl td rfl aeg (λ_=>rfl) (λ_=>rfl) CX hb hi ?_;rw[TG];unfold aey at hK;cases hg:JV (W.map λw=>(w.fact,w)) f with
 |none=>rw[hg] at hK;exact hK
 |some w=>rw[hg] at hK;exact hK
theorem YG {W:List Wy} {w:Wy} (h:w.fact∉cG W):abC (W.map λw=>(w.fact,w)) w.fact w=(W++[w]).map λw=>(w.fact,w):=by
 unfold abC;cases hj:wG (W.map λw=>(w.fact,w)) w.fact with
 |none=>simp
 |some j=>obtain⟨b,hb⟩:=pE hj;rw[bj,aV] at hb;obtain⟨a,h1,h2⟩:=hb;simp only[dH] at h2;exact absurd (bU.2 ⟨a,aS h1,h2.1⟩) h
theorem ac2 {s:Vl.S} {i:Nat} {W:List Wy} {w:Wy} {K:Vl.S->Prop} (hb:s.bx i=wM W) (hi:i<s.nb) (hn:w.fact∉cG W) (hK:K { s with bx:=up s.bx i (wM (W++[w])) }):iC Tryz.prog 116 s (.mr i) (faV w.fact) (.agg (wyC w)) K:=by refine WY (h:=wyV) (z:=.agg (wyC zwy)) (c:=faC) (b:=w) CU rfl eS rfl td rfl aeg (λ_=>rfl) (λ_=>rfl) CX rfl rfl hb hi ?_;rw[YG hn];exact hK
def bxQ (p:Pol) (W:List Wy) (U:List (Fa×Value)) (now:V) (nx:List Wt) (num:Nat) (z:Nat) (R:Loop) (c:List V):List (List V):=[(poC p).map .c,wM W,uM U,[.mr 2],qB now (vD nx) (num:Nat),[i64 z],.lp R flT::c]
theorem wV {p:Pol} {W:List Wy} {U:List (Fa×Value)} {now:V} {nx:List Wt} {num z:Nat} {R:Loop} {m:Me} {ob:Nat->Option Wt} {u:Fa->List Nat} {fl:List (Nat×V)} (h:(fl.all λp=>p.2.ltB 7)=true) (hn:now.ltB 7=true):iV fl (bxQ p W U now nx num z R (cells m ob u))=true:=by simp only[iV,bxQ,qB,aC,aG,h,hn,bh,bB,zj,HY,wU,Bool.and_true,ke];rfl
structure Rs where
 num:Nat
 n:Nat
 W:List Wy
 now:List Wt
 nx:List Wt
structure RsI (L:List In) (s:Rs):Prop where
 perm:s.nx.Perm s.now
 srt:s.now.Pairwise λa b=>a.order<b.order
 mem:∀ w∈s.now,w.x∈L
 fin:Dl L s.n ((s.num:Int)+1) s.now s.W=zm L
 cnt:unr L (cG s.W)+(if s.now=[] then 0 else 1)<s.n
 nn:s.num+s.n=L.length+2
 nd:(cG s.W).Nodup
 sub:∀ f∈cG s.W,f∈L.flatMap In.con
 len:s.now.length<=L.length
theorem P4 {L:List In} {w:Wt} (h:w∈que L):w.x∈L:=by unfold que at h;obtain⟨q,hq,rfl⟩:=bU.1 h;have:=(fJ.1 hq).1;exact List.fst_mem_of_mem_zipIdx this
theorem RsI.init {L:List In}:RsI L ⟨0,L.length+2,[],que L,que L⟩ where
 perm:=List.Perm.refl _
 srt:=Ol
 mem:=λw h=>P4 h
 fin:=rfl
 cnt:=by have:=@Om L (cG []);show unr L (cG [])+_<L.length+2;split<;>omega
 nn:=by simp
 nd:=gG
 sub:=λf h=>by cases h
 len:=P1
theorem ac3 {m:Nat} {l:List Wt}:(flb (λx=>[wtP x]) l).all (λv=>v.ltB m)=true:=by rw[aY];intro v hv;unfold flb at hv;obtain⟨c,_,rfl⟩:=bU.1 hv;rfl
def bxR (p:Pol) (W:List Wy) (U:List (Fa×Value)) (now:List Wt) (num:Nat) (z:Nat) (R:Loop) (c:List V):List (List V):=[(poC p).map .c,wM W,uM U,[.mr 2],[.ms 7 0 now.length now.length 1,.gs none none [],i64 (num:Nat)],[i64 z],.lp R flT::c,flb (λx=>[wtP x]) now]
theorem Dp {p:Pol} {W:List Wy} {U:List (Fa×Value)} {now:List Wt} {num z:Nat} {R:Loop} {m:Me} {ob:Nat->Option Wt} {u:Fa->List Nat} {fl:List (Nat×V)} (h:(fl.all λp=>p.2.ltB 8)=true):iV fl (bxR p W U now num z R (cells m ob u))=true:=by simp only[iV,bxR,aC,aG,h,bh,bB,zj,HY,wU,ac3,Bool.and_true,ke];rfl
theorem ahJ {now:List Wt} {i nb:Nat} {K:V->Prop} (hi:i<now.length) (hb:7<nb) (hK:K (.c (.rp (wtC now[i]) 0))):ldB nb 7 (flb (λx=>[wtP x]) now) (i*1) K:=by
 unfold ldB;have e:(flb (λx=>[wtP x]) now)[i*1]?=some (.c (wtP now[i])):=by
  rw[Nat.mul_one];unfold flb;have:(now.map λx=>[wtP x]).flatten=now.map wtP:=by
   generalize now=l;induction l with
   |nil=>rfl
   |cons a l ih=>rw[bA,cF,ih];rfl
  rw[this];simp[hi]
 rw[e];exact⟨hb,hK⟩
theorem pw0 {w:Wt} {K:V->Prop}:dI false 1 0 (wtC w) K=K (i64 w.x.rule):=rfl
theorem pw1 {w:Wt} {K:V->Prop}:dI false 1 1 (wtC w) K=K (.c (fsC w.x.pre)):=rfl
theorem pw2 {w:Wt} {K:V->Prop}:dI false 1 2 (wtC w) K=K (.c (fsC w.x.con)):=rfl
theorem akF {l:List Fa} {K:V->Prop}:iR Tryz.prog 28 (.c (fsC l)) K=K (i64 l.length):=by rw[fsC,fN eC rfl,au]
def akG:=jj @pw0 (jj @pw1 (jj @pw2 @akF))
def HdV (m:Me) (u:Fa->List Nat) (f:Fa) (hv:V):Prop:=(∃ blk cap,hv=exV (.slice (some ⟨blk,0,none⟩) (u f).length cap)/\It.us f∈m.its/\m.hd f=.slice (some ⟨blk,0,none⟩) (u f).length cap)∨(hv=.c (.sl [])/\u f=[])
theorem YH {m:Me} {n:Nat} {keys:List Fa} {u:Fa->List Nat} {s:Vl.S} {i:Nat} {f:Fa} {K:V->Prop} (hm:Mw m n keys u) (hb:s.bx i=uM (hds keys m.hd)) (hi:i<s.nb) (h:∀ hv,HdV m u f hv->K hv) :
 fL Tryz.prog 152 s (.mr i) (faV f) false K:=by
 refine acT hb hi (λv hv=>h _ ?_) λgy=>h _ ?_
 .obtain⟨j,hj⟩:=eA.1 hv
  obtain⟨hk,rfl⟩:=P0 hj;obtain⟨blk,cap,e⟩:=hm.hd f hk;exact .inl ⟨blk,cap,by rw[e],(hm.us f).2 hk,e⟩
 .rw[PZ] at gy
  exact .inr ⟨rfl,hm.ku f gy⟩
section
variable {m:Me} {u:Fa->List Nat} {f:Fa} {hv:V}
theorem HdV.ow (h:HdV m u f hv):hv.isOw=false:=by rcases h with⟨_,_,rfl,_⟩ | ⟨rfl,_⟩<;>rfl
theorem HdV.fz (h:HdV m u f hv):hv.fz=hv:=by rcases h with⟨_,_,rfl,_⟩ | ⟨rfl,_⟩<;>rfl
theorem HdV.lt (h:HdV m u f hv) {k:Nat}:hv.ltB k=true:=by rcases h with⟨_,_,rfl,_⟩ | ⟨rfl,_⟩<;>rfl
theorem HdV.len (h:HdV m u f hv) {K:V->Prop} (hK:K (i64 (u f).length)):iR Tryz.prog 153 hv K:=by
 rcases h with⟨blk,cap,rfl,_⟩ | ⟨rfl,h0⟩
 .exact Ba nq rfl hK
 .rw[fN nq rfl]
  rw[h0] at hK;exact hK
end
theorem akH {s:Vl.S} {b c blk len cap k:Nat} {l:List Nat} {K:V->Prop} (hb:b<s.nb) (hk:(s.bx b)[c]?=some (usG (.slice (some ⟨blk,0,none⟩) len cap) l)) (hl:k<l.length) (hK:K (obV l[k])):wa Tryz.prog s 156 (.c (.ex (.pointer (some ⟨blk,0+k*1,none⟩)))) K:=by
 unfold wa;rw[ui];refine⟨b,c,len,cap,_,_,_,⟨hb,hk⟩,?_⟩;have e:(l.map λb=>[obP b]).flatten=l.map obP:=by
  clear hl hk hK;induction l with
  |nil=>rfl
  |cons a l ih=>rw[bA,cF,ih];rfl
 have e2:(l.map obP)[0+k*1]?=some (obP l[k]):=by rw[aF,Nat.mul_one];simp[hl]
 unfold dI;rw[e,e2];exact hK
theorem ahK {s:Vl.S} {b k blk:Nat} {w:Wt} {z:Int} {K:(Nat->List V)->Prop} (hb:b<s.nb) (hk:(s.bx b)[k]?=some (obG blk w)) (hK:K (up s.bx b ((s.bx b).set k (obG blk ⟨w.x,w.order,z⟩)))):By Tryz.prog s 3 (obF blk 4) (i64 z) K:=by have e:(i64 z).cs=some [cI z]:=rfl;unfold By;rw[mo,e];exact⟨b,k,1,1,_,_,_,⟨hb,hk,rfl,show 4+1<=5 from ab 5⟩,hK⟩
theorem ahL {fr:Nat->V} {bx:Nat->List V} {nb:Nat} {t:Tmp} {dO:Option Tmp} {b o i:Nat} {K:Vl.S->Prop} (h:fr t=.mr i):stS 1 (some t) dO b o (.mr i) ⟨fr,bx,nb⟩ K=
 ((b<nb/\o+1<=(bx b).length)/\K ((⟨fr,up bx b (eP (bx b) o [.mr i]),nb⟩:Vl.S).put dO .sk)):=by
 simp[stS,V.bcells,jx,h,V.isOw]
theorem ahM {tr:List Nat} {ty:TypeId} {d:Nat} {pos:String} {af:Array Edge} {g:Option (Nat×Bool)} {fr:Nat->V} {bx:Nat->List V} {nb:Nat} {K:S->Prop}:VStep Tryz.prog G tr ⟨some d,.alloc 152,ty,pos,af,g⟩ ⟨fr,bx,nb⟩ K=K ⟨up fr d (.bp nb 0),up bx nb [.c (.lit (.map none))],nb+1⟩:=mK CV rfl
def Dq:=jj @pkA (jj @ptA @Dk)
def YI:=jj @pkA (jj @ptA (jj @pkF @Dk))
def jI:=jj @pkA @Dk
def aez:=jj @pkA (jj @ptA (jj @Dk @akG))
set_option maxHeartbeats 4000000 in
theorem ac4 (p:Pol) (L:List In) (hI:∀ c,Oi=some c->FnE Tryz.prog G 70 [.yl 0,.c (.rp (poC p) 0)] (ybS 141 #[26] c.1 c.2 t0) (λr b1=>∃ t b,(Yw 141 #[26] c.1 c.2).run t0 L t b/\r=.tup []/\b1=ybS 141 #[26] c.1 c.2 t))
 (hl:L.length<=20000) (hs:kq L):FnB Tryz.prog G 90 [.agg (poC p)] [] (.mr 1) [(poC p).map .c,wM (zm L)]:=by
 refine jM (rs:=[.tmp 2]) (k:=0) [1200000,1200001,1300141,2300005,1000059,2300017,1000062,104,2300031,2850036,2890036,2350123,2850037,2890037,2350127,2360130,2850038,2890038,2350134,2300039,1000137] mixed Tryz.func90 rfl rfl rfl rfl (by kernel_rfl) (by simp) rfl rfl rfl rfl (ar _) ?_;simp only[Dq,seval,ab3,acb,ahM,ahL];refine rb rfl ?_;refine .forget 4 0 (x:=.ow none []) (show 4<6 by decide) rfl rfl ?_;refine .warm 4 1 (show 4<6 by decide) rfl (.done ?_);simp only[YI,seval,S.cell];refine az rfl (yi p) (λh=>by cases h) ?_;simp only[pkA,FP];refine amN (c:=(_,_)) (L:=L) (hI _ rfl) rfl rfl rfl rfl (by simp[ah]) (by simp[ah]) (by simp[ah]) (by simp[ah];rfl) (by simp[ah]) (by simp[];rfl) (by simp[ah]) ?_;intro bx' R t tG al1 b2 b3 b4 b5 b6;have b0:bx' 0=(poC p).map .c:=by rw[al1 0 (by decide)];simp[ah]
 have b1:bx' 1=wM []:=by rw[al1 1 (by decide)];simp[ah];rfl
 rw[tG] at b2 b4 b5 b6;have hm:=t.wf;rw[tG] at hm;generalize hU:hds (mX (prs L)) t.m.hd=U at b2;simp only[pkA];refine bw (λs:Rs=>hdS [(3,.mr 1),(4,.bp 3 0),(5,.bp 4 0)] (bxQ p s.W U .un s.nx s.num L.length R (cells t.m (obK L (cG s.W) []) (uP (prs L))))) (λs=>s.n) (RsI L) ⟨0,L.length+2,[],que L,que L⟩ RsI.init ?_ ?_
 .refine cm (wV rfl rfl) (ar _) (ab 7) (by simp[FL,ah]) ?_
  rw[acZ] at b6;exact⟨b0,b1,b2,b3,b4,b5,b6,trivial⟩
 rintro⟨num,n,W,now,nx⟩ ⟨Az,aiN,jG,qz,ad4,hnn,qp,gx,cj⟩ Q bL bO c8;simp only at Az aiN jG qz ad4 hnn qp gx cj;have aqf:nx.length<=L.length:=by rw[Az.length_eq];exact cj
 simp only[jI,seval,bxQ];refine jN [4,5] rfl (acP [i64 L.length] num (nx.map λw=>[wtP w]) (H2 nx) .un (by omega) (by rw[au];omega) rfl rfl rfl) (by simp[V.fz,V.ren,rho]) rfl (by decide) rfl
  ⟨⟨show 4<7 by decide,rfl⟩,⟨show 5<7 by decide,rfl⟩,trivial⟩ ?_
 intro bx1 iE oa;simp only[pkA,seval,V.ren];have h0:bx1 0=(poC p).map .c:=by rw[iE 0 (by decide)];rfl
 have h1:bx1 1=wM W:=by rw[iE 1 (by decide)];rfl
 have h2:bx1 2=uM U:=by rw[iE 2 (by decide)];rfl
 have h3:bx1 3=[.mr 2]:=by rw[iE 3 (by decide)];rfl
 have h4:bx1 4=qB (vD nx) (.ow none []) ((num+1:Nat):Int):=oa 0 4 _ rfl rfl;have h5:bx1 5=[i64 L.length]:=oa 1 5 _ rfl rfl;have h6:bx1 6=.lp R flT::cells t.m (obK L (cG W) []) (uP (prs L)):=by rw[iE 6 (by decide)];rfl
 refine aD (λhy=>?_) (λhy=>?_)
 .simp only[jI,seval]
  clear iE oa;have gY:nx≠[]:=by rintro rfl;simp at hy
  have A2:now≠[]:=by rintro rfl;exact gY (by simpa using Az)
  have hqv:vD nx=.gs none (some (156,1)) (nx.map λw=>[wtP w]):=by
   unfold vD H2;cases nx with
   |nil=>exact absurd rfl gY
   |cons _ _=>rfl
  rw[hqv] at h4;refine rb rfl ?_;refine .warm 4 1 (show 4<7 by decide) (by simp only[h4];rfl) ?_;refine .box 4 0 (g:=none) (e:=156) (sz:=1) (es:=nx.map λw=>[wtP w]) (show 4<7 by decide) (by simp[S.cell,h4,qB];rfl) (by simp[S.cell,h4,qB]) (.done ?_);have oM:∀ K a b c,ldB 8 4 [V.ms 7 0 a a 1,b,c] 0 K=K (.ms 7 0 a a 1):=λK a b c=>by unfold ldB;exact propext ⟨λh=>h.2,λh=>⟨by decide,h⟩⟩
  have aiK:∀ a b c,cL [V.ms 7 0 a a 1,b,c]=false:=λ_ _ _=>rfl;simp only[Dq,seval,S.cell,h4,qB,oM,aiK,au];refine jN [7] rfl (Yr nx now (by cases nx with | nil=>exact absurd rfl gY | cons _ _=>exact Nat.zero_lt_succ _) (by omega) Az.symm (aiN.imp λh=>by omega) (λx hx y hy he=>ahH aiN (Az.mem_iff.1 hx) (Az.mem_iff.1 hy) he) nx.length (ab _)) (by simp[V.fz,V.ren,rho]) rfl (by decide) rfl
   ⟨⟨show 7<8 by decide,by simp only[u3];rfl⟩,trivial⟩ ?_
  intro bx2 iE oa;have k0:bx2 0=(poC p).map .c:=by rw[iE 0 (by decide)];simp[ah,h0]
  have k1:bx2 1=wM W:=by rw[iE 1 (by decide)];simp[ah,h1]
  have k2:bx2 2=uM U:=by rw[iE 2 (by decide)];simp[ah,h2]
  have k3:bx2 3=[.mr 2]:=by rw[iE 3 (by decide)];simp[ah,h3]
  have k4:bx2 4=[.ms 7 0 nx.length nx.length 1,.gs none none [],i64 (num+1:Nat)]:=by rw[iE 4 (by decide)];simp[ah]
  have k5:bx2 5=[i64 L.length]:=by rw[iE 5 (by decide)];simp[ah,h5]
  have k6:bx2 6=.lp R flT::cells t.m (obK L (cG W) []) (uP (prs L)):=by rw[iE 6 (by decide)];simp[ah,h6]
  have k7:bx2 7=flb (λx=>[wtP x]) now:=by rw[<- u3];exact oa 0 7 _ rfl rfl
  clear iE oa h0 h1 h2 h3 h4 h5 h6;have vX:nx.length=now.length:=Az.length_eq;rw[vX] at k4;simp only[Dq,seval,k4,oM,aiK];refine bw (λs:Nat×List Fa=>hdS [(3,.mr 1),(4,.bp 3 0),(5,.bp 4 0),(11,owF s.2),(64,.ms 7 0 now.length now.length 1),(65,i64 now.length),(66,i64 s.1)] (bxR p (mn (num+1:Nat) W (now.take s.1)) U now (num+1) L.length R (cells t.m (obK L (cG W) []) (uP (prs L)))))
   (λs=>now.length - s.1) (λs=>s.1<=now.length/\s.2.length<=2*s.1/\cG (mn (num+1:Nat) W (now.take s.1))=cG W++s.2) (0,[]) ⟨ar _,ar _,by simp[mn]⟩ ?_ ?_
  .refine cm (Dp rfl) (ar _) (ab 8) (by simp[FL,ah,owF]) ?_
   exact⟨k0,k1,k2,k3,k4,k5,k6,k7,trivial⟩
  rintro⟨i,fr3⟩ ⟨hi,hf3,UF⟩ Q3 aiO aiP aoS;simp only at hi hf3 UF;simp only[jI,seval,bxR];refine aD (λbE=>?_) (λfH=>?_)
  .have bE:i<now.length:=by simpa using bE
   simp only[jI,seval];refine Hz nq rfl ui rfl (by decide) rfl bE ?_;simp only[Dq,seval,jb];refine ahJ bE (show 7<8 by decide) ?_;simp only[aez,seval];refine bw (λs:Nat×List Fa=>hdS [(3,.mr 1),(4,.bp 3 0),(5,.bp 4 0),(11,owF s.2),(13,.c (.rp (wtC now[i]) 0)),(64,.ms 7 0 now.length now.length 1),(65,i64 now.length),(66,i64 i),(74,.c (fsC now[i].x.con)),(75,i64 now[i].x.con.length),(76,i64 s.1)]
    (bxR p ((now[i].x.con.take s.1).foldl (zk (num+1:Nat) now[i].x) (mn (num+1:Nat) W (now.take i))) U now (num+1) L.length R (cells t.m (obK L (cG W) []) (uP (prs L)))))
    (λs=>now[i].x.con.length - s.1) (λs=>s.1<=now[i].x.con.length/\s.2.length<=2*i+s.1/\cG ((now[i].x.con.take s.1).foldl (zk (num+1:Nat) now[i].x) (mn (num+1:Nat) W (now.take i)))=cG W++s.2) (0,fr3) ⟨ar _,hf3,UF⟩ ?_ ?_
   .refine cm (Dp rfl) (ar _) (ab 8) (by simp[FL,ah]) ?_
    exact⟨rfl,rfl,rfl,rfl,rfl,rfl,rfl,rfl,trivial⟩
   rintro⟨k,fr4⟩ ⟨hk,hf4,Z8⟩ Q4 Z9 aiQ aoT;simp only at hk hf4 Z8;have Ur:=(hs _ (jG _ (bR bE))).2;generalize hW4:(now[i].x.con.take k).foldl (zk (num+1:Nat) now[i].x) (mn (num+1:Nat) W (now.take i))=W4 at Z8;simp only[jI,seval,bxR];refine aD (λOX=>?_) (λan3=>?_)
   .have OX:k<now[i].x.con.length:=by simpa using OX
    simp only[jI,seval,fsC];refine dQ eC rfl eS (by decide) (ay k) (c:=faC now[i].x.con[k]) (by simp[OX]) rfl ?_;have r1:∀ a b c:V,eP [a,b,c] 0 ((faC now[i].x.con[k]).map .c)=(faC now[i].x.con[k]).map .c:=λ_ _ _=>rfl;have r3:∀ nb q (K:V->Prop),ldA nb q ((faC now[i].x.con[k]).map .c) 0 3 K=(q<nb/\K (faV now[i].x.con[k])):=λnb q K=>by unfold ldA;exact propext ⟨λh=>⟨h.1,h.2.2⟩,λh=>⟨h.1,⟨rfl,rfl⟩,h.2⟩⟩
    have r2:cL ((faC now[i].x.con[k]).map V.c)=false:=rfl;simp only[YI,seval,r1,r2,r3];refine YF rfl (show 1<9 by decide) ?_;have r4:∀ (w:Wy) (a b c d e f:V),eP [a,b,c,d,e,f] 0 ((wyC w).map .c)=(wyC w).map .c:=λ_ _ _ _ _ _ _=>rfl;simp only[Dq,seval,r4];have Iy:=bn (n:=(k:Int)+1) (k:=k+1) (by omega) (by omega);have AU:((k+1:Nat):Int)=(k:Int)+1:=(by omega);refine⟨rfl,aD (λvL=>?_) (λuH=>?_)⟩
    .have vL:now[i].x.con[k]∉cG W4:=by simpa using vL
     have l1:∀ nb q (K:V->Prop),ldB nb q [V.ms 7 0 now.length now.length 1,V.gs none none [],i64 ((num+1:Nat):Int)] 2 K=(q<nb/\K (i64 ((num+1:Nat):Int))):=λ_ _ _=>rfl;simp only[aez,seval,r2,r3,aiK,l1];refine oS (cs:=wyC ⟨now[i].x.con[k],(num+1:Nat),now[i].x.rule,now[i].x.pre⟩) rfl ?_;simp only[pkA,seval];refine ac2 (w:=⟨now[i].x.con[k],(num+1:Nat),now[i].x.rule,now[i].x.pre⟩) rfl (show 1<10 by decide) vL ?_;simp only[Dq,seval,r2,r3,ka];have r5:ml 3 [(0,faV now[i].x.con[k])] [[C.lit (Value.int IntKind.i64 0),C.lit (Value.int IntKind.i64 0),C.lit (Value.int IntKind.i64 0)]]=some [faC now[i].x.con[k]]:=rfl;simp only[pkA,seval,r5,dm];refine rM (by omega) ?_;simp only[jI,seval,Iy,ka];have EC:(now[i].x.con.take (k+1)).foldl (zk (num+1:Nat) now[i].x) (mn (num+1:Nat) W (now.take i))=W4++[⟨now[i].x.con[k],(num+1:Nat),now[i].x.rule,now[i].x.pre⟩]:=(by rw[aU OX,jZ,hW4];simp only[dT,List.foldl_nil,zk,if_neg vL]);refine Z9 (k+1,fr4++[now[i].x.con[k]]) _ ⟨OX,by simp only[ae,bz];omega,?_⟩ (by simp only;omega) (cm (Dp rfl) (ar _) (show 8<=10 by decide) (by simp[FL,ah,AU,fsC]) ?_)
     .simp only[EC,FM,Z8]
      rw[aI];rfl
     .simp only[EC]
      exact⟨by simp[ah,bxs],by simp[],by simp[ah,bxs],by simp[ah,bxs],by simp[ah,bxs],by simp[ah,bxs],by simp[ah,bxs],by simp[ah,bxs],trivial⟩
    .have uH:now[i].x.con[k]∈cG W4:=by simpa using uH
     simp only[jI,seval,Iy];have EC:(now[i].x.con.take (k+1)).foldl (zk (num+1:Nat) now[i].x) (mn (num+1:Nat) W (now.take i))=W4:=(by rw[aU OX,jZ,hW4];simp only[dT,List.foldl_nil,zk,if_pos uH]);refine Z9 (k+1,fr4) _ ⟨OX,by simp only;omega,?_⟩ (by simp only;omega) (cm (Dp rfl) (ar _) (show 8<=10 by decide) (by simp[FL,ah,AU,fsC]) ?_)
     .simp only[EC,Z8]
     .simp only[EC]
      exact⟨by simp[ah,bxs],by simp[ah,bxs],by simp[ah,bxs],by simp[ah,bxs],by simp[ah,bxs],by simp[ah,bxs],by simp[ah,bxs],by simp[ah,bxs],trivial⟩
   .have xd:k=now[i].x.con.length:=by simp at an3;omega
    subst xd;simp only[pkA];refine aiQ _ _ ?_;have hwi:=bn (n:=(i:Int)+1) (k:=i+1) (by omega) (by omega);have Gg:((i+1:Nat):Int)=(i:Int)+1:=(by omega);simp only[jI,seval,hwi];have EC:mn (num+1:Nat) W (now.take (i+1))=W4:=(by rw[aU bE];unfold mn at *;rw[jZ,<- hW4,bZ];rfl);refine aiO (i+1,fr4) _ ⟨bE,by simp only;omega,?_⟩ (by simp only;omega) (cm (Dp rfl) (ar _) (show 8<=8 by decide) (by simp[FL,ah,Gg]) ?_)
    .simp only[EC,Z8]
    .simp only[EC]
     exact⟨rfl,rfl,rfl,rfl,rfl,rfl,rfl,rfl,trivial⟩
  .have hi0:i=now.length:=by simp at fH;omega
   subst hi0;rw[bZ] at UF;simp only[pkA,bZ];refine aiP _ _ ?_;simp only[jI,seval];refine rb rfl ?_;refine .forget 4 0 (x:=.ms 7 0 now.length now.length 1) (show 4<8 by decide) rfl rfl (.done ?_);simp only[Dq,seval,rf,au];have aiL:(cG W++fr3).Nodup:=(by rw[<- UF];exact Bm _ _ qp);refine bw (λs:Nat×List Wt=>hdS [(3,.mr 1),(4,.bp 3 0),(5,.bp 4 0),(110,.c (fsC fr3)),(111,i64 fr3.length),(112,i64 s.1)] (bxQ p (mn (num+1:Nat) W now) U .un s.2 (num+1) L.length R (cells t.m (obK L (cG W++fr3.take s.1) []) (uP (prs L)))))
    (λs=>fr3.length - s.1) (λs=>s.1<=fr3.length/\NX L (cG W) (cG W++fr3.take s.1) [] s.2) (0,[]) ⟨ar _,by simpa using NX.init⟩ ?_ ?_
   .refine cm (wV rfl rfl) (ar _) (show 7<=8 by decide) (by simp[FL,ah,fsC]) ?_
    simp only[jC,br];exact⟨rfl,rfl,rfl,rfl,rfl,rfl,rfl,trivial⟩
   rintro⟨a,nx5⟩ ⟨ha,ad5⟩ Q5 aiR aiS aoU;simp only at ha ad5;simp only[jI,seval,bxQ];refine aD (λOY=>?_) (λan4=>?_)
   .have OY:a<fr3.length:=by simpa using OY
    simp only[jI,seval,fsC];refine dQ eC rfl eS (by decide) (ay a) (c:=faC fr3[a]) (by simp[OY]) rfl ?_;obtain⟨f,hf⟩:∃ f,f=fr3[a]:=⟨_,rfl⟩;rw[<- hf];have r1:∀ a b c:V,eP [a,b,c] 0 ((faC f).map .c)=(faC f).map .c:=λ_ _ _=>rfl;have r3:∀ nb q (K:V->Prop),ldA nb q ((faC f).map .c) 0 3 K=(q<nb/\K (faV f)):=λnb q K=>by unfold ldA;exact propext ⟨λh=>⟨h.1,h.2.2⟩,λh=>⟨h.1,⟨rfl,rfl⟩,h.2⟩⟩
    have r2:cL ((faC f).map V.c)=false:=rfl;simp only[YI,seval,r1,r2,r3];rw[<- hU];refine YH hm rfl (show 2<8 by decide) (λhv hH=>?_);simp only[jI,seval];refine hH.len ?_;simp only[jI,seval];have Mc:f∉cG W++fr3.take a:=by
     rw[iT] at aiL;rw[ba];rintro(h | h)
     .exact aiL.2.2 f h f (by rw[hf];exact bR OY) rfl
     .have h2:=aiL.2.1
      rw[fk] at h;obtain⟨j,hj,h3⟩:=h;have F7:j<fr3.length:=(by omega);have:j=a:=(List.getElem_inj (h₀:=F7) (h₁:=OY) h2).1 (by rw[h3,hf]);omega
    refine bw (λs:Nat×List Wt=>hdS [(3,.mr 1),(4,.bp 3 0),(5,.bp 4 0),(110,.c (fsC fr3)),(111,i64 fr3.length),(112,i64 a),(118,hv),(119,i64 (uP (prs L) f).length),(120,i64 s.1)]
     (bxQ p (mn (num+1:Nat) W now) U .un s.2 (num+1) L.length R (cells t.m (obK L ((cG W++fr3.take a)++[f]) ((uP (prs L) f).drop s.1)) (uP (prs L)))))
     (λs=>(uP (prs L) f).length - s.1) (λs=>s.1<=(uP (prs L) f).length/\NX L (cG W) ((cG W++fr3.take a)++[f]) ((uP (prs L) f).drop s.1) s.2) (0,nx5) ⟨ar _,ad5.start Mc⟩ ?_ ?_
    .refine cm (wV (by simp only[bh,bB,hH.lt];rfl) rfl) (ar _) (show 7<=8 by decide) (by simp[FL,ah,fsC]) ?_
     simp only[ct,TF Mc];exact⟨by simp[ah,bxs],by simp[ah,bxs],by simp[ah,bxs,hU],by simp[ah,bxs],by simp[ah,bxs],by simp[ah,bxs],by simp[ah,bxs],trivial⟩
    rintro⟨k,nx6⟩ ⟨hk,IA⟩ Q6 OZ aiT aoV;simp only at hk IA;simp only[jI,seval,bxQ];refine aD (λEG=>?_) (λan5=>?_)
    .have EG:k<(uP (prs L) f).length:=by simpa using EG
     obtain⟨blk,cap,rfl,jg,hhd⟩:=Or.resolve_right hH (λh=>by rw[h.2] at EG;exact absurd EG (gf _));simp only[pkA,seval];refine ue ?_;simp only[jI,seval,dW,dS,nN,nE,gv];refine NB (off:=0) (k:=k) nq rfl ui rfl (by decide) rfl EG ?_;obtain⟨D,hD⟩:∃ D,D=(cG W++fr3.take a)++[f]:=⟨_,rfl⟩;simp only[<- hD] at IA OZ ⊢
     obtain⟨c,vo,hc2,hc3⟩:=yr (m:=t.m) (ob:=obK L D ((uP (prs L) f).drop k)) (u:=uP (prs L)) jg;have hc4:(cells t.m (obK L D ((uP (prs L) f).drop k)) (uP (prs L)))[c]?=some (usG (.slice (some ⟨blk,0,none⟩) (uP (prs L) f).length cap) ((uP (prs L) f).map t.m.bl)):=(by rw[hc3];simp only[rS,hhd]);simp only[jI,seval,vt,dW,dS,nN,nE,gv];refine akH (b:=6) (c:=c+1) (l:=(uP (prs L) f).map t.m.bl) (show 6<7 by decide) hc4 (by rw[au];exact EG) ?_;rw[List.getElem_map];have Z7:(uP (prs L) f)[k]∈uP (prs L) f:=bR EG;have vn:(uP (prs L) f).drop k=(uP (prs L) f)[k]::(uP (prs L) f).drop (k+1):=dj EG;generalize (uP (prs L) f)[k]=q at Z7 vn;obtain⟨x,hx,hfx⟩:=ahG Z7;have hmq:mkc D ((uP (prs L) f).drop (k+1)) x q<=2:=(by refine b9 YA ?_;rw[hD,u9 Mc hx];exact b9 ac0 (hs x (aS hx)).1);simp only[jI,seval];refine .done ?_;simp only[pkA,seval];refine ue ?_;simp only[jI,seval,dW,dS,nN,nE,gv,u7];obtain⟨c',ZJ,hd2,hd3⟩:=yr (m:=t.m) (ob:=obK L D ((uP (prs L) f).drop k)) (u:=uP (prs L)) ((hm.ob q).2 (hm.lt f q Z7));have hd4:rS t.m (obK L D ((uP (prs L) f).drop k)) (uP (prs L)) (.ob q)=obG (t.m.bl q) ⟨x,(q:Nat),(mkc D ((uP (prs L) f).drop (k+1)) x q+1:Nat)⟩:=(by simp only[rS,vn,ahF hx]);rw[hd4] at hd3;refine H3 ?_;simp only[jI,seval,vt,dW,dS,nN,nE,gv];refine Oh (b:=6) (k:=c'+1) (show 6<7 by decide) hd3 ?_;have hws:=bn (n:=((mkc D ((uP (prs L) f).drop (k+1)) x q+1:Nat):Int) - 1) (k:=mkc D ((uP (prs L) f).drop (k+1)) x q) (by omega) (by omega);simp only[jI,seval,vt,dW,dS,nN,nE,gv,u7,hws];refine H3 ?_;simp only[jI,seval,vt,dW,dS,nN,nE,gv];refine ahK (b:=6) (k:=c'+1) (show 6<7 by decide) hd3 ?_;simp only[pkA];refine .done ?_;have aiM:obK L D ((uP (prs L) f).drop (k+1))=upO (obK L D ((uP (prs L) f).drop k)) q (if mkc D ((uP (prs L) f).drop (k+1)) x q=0 then none else some ⟨x,(q:Nat),(mkc D ((uP (prs L) f).drop (k+1)) x q:Nat)⟩):=by rw[vn];exact Yz hx
     have Iy:=bn (n:=(k:Int)+1) (k:=k+1) (by omega) (by have:=@Yx (prs L) f;have:=ahI hs;omega);have AU:((k+1:Nat):Int)=(k:Int)+1:=(by omega);have aql:∀ w:V,(cells t.m (obK L D ((uP (prs L) f).drop k)) (uP (prs L))).set c' w=(cells t.m (obK L D ((uP (prs L) f).drop k)) (uP (prs L))).set c' w:=λ_=>rfl;generalize hM:mkc D ((uP (prs L) f).drop (k+1)) x q=M at hmq hws aiM;simp only[pkA,seval];refine ue ?_;simp only[jI,seval,dW,dS,nN,nE,gv,u7];refine H3 ?_;simp only[jI,seval,vt,dW,dS,nN,nE,gv];have hc'l:c'<(cells t.m (obK L D ((uP (prs L) f).drop k)) (uP (prs L))).length:=(by rw[FI];exact ZJ);refine Oh (b:=6) (k:=c'+1) (w:=⟨x,(q:Nat),(M:Nat)⟩) (blk:=t.m.bl q) (show 6<7 by decide) (by simp[hc'l]) ?_;simp only[pkA,dS];refine .done ?_;refine aD (λhy6=>?_) (λhn6=>?_)
     .have hM0:M=0:=by simpa using hy6
      simp only[jI,seval];subst hM0;refine rb rfl ?_;refine .frz 6 (c'+1) 21 (t.m.bl q) 1 1 (e:=158) (sz:=5) (cs:=wtC ⟨x,(q:Nat),0⟩) (show 6<7 by decide) (by simp[hc'l];rfl) rfl (.done ?_);simp only[jI,seval];have nC:=IA.len;refine jN [4,5] rfl (PY (wtP ⟨x,(q:Nat),0⟩) .un [i64 L.length] (num+1:Nat) (nx6.map λw=>[wtP w]) (H2 nx6) P2 (by simp) (by rw[au];omega) rfl rfl rfl) (by simp[V.fz,V.ren,rho,wtP]) rfl (by decide) rfl
       ⟨⟨show 4<7 by decide,rfl⟩,⟨show 5<7 by decide,rfl⟩,trivial⟩ ?_
      intro bx6 iE oa;simp only[jI,seval,Iy];have hrx:rdy (cG W) x=false:=(by unfold rdy;rw[<- Bool.not_eq_true,aY];intro h;exact Mc (jW _ (a8 (h f hfx))));refine OZ (k+1,nx6++[⟨x,(q:Nat),0⟩]) _ ⟨EG,?_⟩ (by simp only;omega) (cm (wV rfl rfl) (ar _) (show 7<=7 by decide) (by simp[FL,ah,fsC,AU]) ?_)
      .rw[vn] at IA
       exact IA.push hx hrx hM
      .refine⟨?_,?_,?_,?_,?_,?_,?_,trivial⟩
       .rw[iE 0 (by decide)];rfl
       .rw[iE 1 (by decide)];rfl
       .rw[iE 2 (by decide)];rfl
       .rw[iE 3 (by decide)];rfl
       .rw[FK];exact oa 0 4 _ rfl rfl
       .exact oa 1 5 _ rfl rfl
       .rw[iE 6 (by decide),aiM,if_pos rfl,<- Dh hm hd2 none]
        simp[]
     .have hM0:M≠0:=by simpa using hn6
      simp only[jI,seval,Iy];refine OZ (k+1,nx6) _ ⟨EG,?_⟩ (by simp only;omega) (cm (wV rfl rfl) (ar _) (show 7<=7 by decide) (by simp[FL,ah,fsC,AU]) ?_)
      .rw[vn] at IA
       exact IA.keep hx (by rw[hM];exact hM0)
      .refine⟨rfl,rfl,rfl,rfl,rfl,rfl,?_,trivial⟩
       rw[aiM,if_neg hM0,<- Dh hm hd2 (some _)];simp[]
    .have xd:k=(uP (prs L) f).length:=by simp at an5;omega
     subst xd;have hwa:=bn (n:=(a:Int)+1) (k:=a+1) (by omega) (by omega);have ha1:((a+1:Nat):Int)=(a:Int)+1:=(by omega);simp only[pkA];refine aiT _ _ ?_;simp only[jI,seval,hwa];have hDa:cG W++fr3.take (a+1)=(cG W++fr3.take a)++[f]:=(by rw[aU OY,<- hf,aI]);rw[ep] at IA;refine aiR (a+1,nx6) _ ⟨OY,by simp only[hDa];exact IA⟩ (by simp only;omega) (cm (wV rfl rfl) (ar _) (show 7<=7 by decide) (by simp[FL,ah,ha1]) ?_);simp only[hDa,ep];exact⟨rfl,rfl,rfl,rfl,rfl,rfl,rfl,trivial⟩
   .have ha0:a=fr3.length:=by simp at an4;omega
    subst ha0;simp only[pkA];refine aiS _ _ ?_;simp only[pkA,seval];rw[bZ,<- UF] at ad5;simp only[bZ,<- UF];have aiI:((num+1:Nat):Int)=(num:Int)+1:=(by omega);rw[if_neg A2] at ad4;obtain⟨n,rfl⟩:∃ n',n=n'+1:=⟨n - 1,by omega⟩;have al0:∀ g∈cG W,g∈cG (mn (num+1:Nat) W now):=λg hg=>(uv _ _).2 (.inl hg);have j4:=K3 (L:=L) al0;have hul:=@Om L (cG W);refine bL ⟨num+1,n,mn (num+1:Nat) W now,zl L (cG W) (cG (mn (num+1:Nat) W now)),nx5⟩ _ ⟨ad5.done,Ak,λw hw=>?_,?_,?_,by simp only;omega,Bm _ _ qp,λg hg=>?_,by simp only;omega⟩ (ck n) (cm (wV rfl rfl) (ar _) (show 7<=7 by decide) (by simp[FL,ah]) ?_)
    .obtain⟨i,x,h1,rfl,_⟩:=Dm.1 hw
     exact aS h1
    .simp only[Dl] at qz
     rw[if_neg A2] at qz;simp only[aiI];exact qz
    .show unr L (cG (mn (num+1:Nat) W now))+(if zl L (cG W) (cG (mn (num+1:Nat) W now))=[] then 0 else 1)<n
     split
     .rename_i h;rw[h] at j4;simp only[aG] at j4;omega
     .rename_i h
      have:0<(zl L (cG W) (cG (mn (num+1:Nat) W now))).length:=gR.2 h;omega
    .rcases(uv _ _).1 hg with h | ⟨w,hw,h⟩
     .exact gx g h
     .exact List.mem_flatMap.2 ⟨w.x,jG w hw,h⟩
    .exact⟨rfl,rfl,rfl,rfl,rfl,rfl,rfl,trivial⟩
 .have hnx:nx=[]:=by simpa using hy
  subst hnx;have A2:now=[]:=by simpa using Az.symm
  subst A2;have hW:W=zm L:=by
   rw[<- qz];cases n with
   |zero=>rfl
   |succ n=>simp[Dl]
  simp only[pkA,seval];refine bO _ _ ?_;simp only[jI,seval];refine nK [(2,.mr 1)] rfl ?_ (ar _) (show 2<=7 by decide) ⟨by simp[],trivial⟩ ⟨h0,by rw[<- hW];exact h1,trivial⟩ rfl;simp only[iV,bh,bB,wU,aC,aG];rfl
theorem H4 (p:Pol) (hp:p.types.length<=9223372036854775806) (hr:p.rules.length<=9223372036854775806) (hl:(fR p none).length<=20000) (hs:kq (fR p none)) :
 FnB Tryz.prog G 90 [.agg (poC p)] [] (.mr 1) [(poC p).map .c,wM (zm (fR p none))]:=
 ac4 p _ (λ_ hc=>akE hc hp hr hl hs) hl hs
