/- Layer 18: saturated. -/
import Derived.Test.YtloppcgcepgbnaaGreatDoorVlX4
import Derived.Test.YtloppcgcepgbnaaGreatDoorVlE0
set_option linter.all false
namespace Go.Proofs.YtloppcgcepgbnaaGreatDoor
open Go Go.Vl
variable {G:Gl}
set_option maxRecDepth 4000
def wyC (w:Wy):List C:=faC w.fact++[cI w.round,cI w.rule,fsC w.pre]
def wyV (w:Wy):V:=.agg (wyC w)
def wM (W:List Wy):List V:=qE faV wyV (W.map λw=>(w.fact,w))
theorem Dm {ρ:Nat->Nat} {W:List Wy}:(wM W).map (V.ren ρ)=wM W:=Kr (λ_=>rfl) λ_=>rfl
theorem xe {k:Nat} {W:List Wy}:(wM W).all (λx=>x.ltB k)=true:=Ks (λ_=>rfl) λ_=>rfl
def zwy:Wy:=⟨⟨0,0,0⟩,0,0,[]⟩
def agC (W:List Wy) (f:Fa):Wy:=(Kq (W.map λw=>(w.fact,w)) f).getD zwy
theorem Us {W:List Wy} {f:Fa}:(Kq (W.map λw=>(w.fact,w)) f).isSome=decide (f∈cB W):=by rw[XN,eU];rfl
theorem ZN {s:Vl.S} {i:Nat} {W:List Wy} {f:Fa} {K:V->Prop} (hb:s.bx i=wM W) (hi:i<s.nb) (hK:K (.tup [.agg (wyC (agC W f)),bo (decide (f∈cB W))])):fH Tryz.prog 116 s (.mr i) (faV f) true K:=by
 refine Tt (h:=wyV) (z:=.agg (wyC zwy)) (c:=faC) CU rfl eK rfl qe rfl agl (λ_=>rfl) (λ_=>rfl) CY hb hi ?_;rw[Us];unfold agC at hK;cases hg:Kq (W.map λw=>(w.fact,w)) f with
 |none=>rw[hg] at hK;exact hK
 |some w=>rw[hg] at hK;exact hK
theorem ZO {W:List Wy} {w:Wy} (h:w.fact∉cB W):ac5 (W.map λw=>(w.fact,w)) w.fact w=(W++[w]).map λw=>(w.fact,w):=by
 unfold ac5;cases hj:wQ (W.map λw=>(w.fact,w)) w.fact with
 |none=>simp
 |some j=>obtain⟨b,hb⟩:=pM hj;rw[bj,aW] at hb;obtain⟨a,h1,h2⟩:=hb;simp only[dJ] at h2;exact absurd (bM.2 ⟨a,aV h1,h2.1⟩) h
theorem ae9 {s:Vl.S} {i:Nat} {W:List Wy} {w:Wy} {K:Vl.S->Prop} (hb:s.bx i=wM W) (hi:i<s.nb) (hn:w.fact∉cB W) (hK:K { s with bx:=up s.bx i (wM (W++[w])) }):gY Tryz.prog 116 s (.mr i) (faV w.fact) (.agg (wyC w)) K:=by refine XO (h:=wyV) (z:=.agg (wyC zwy)) (c:=faC) (b:=w) CU rfl eK rfl qe rfl agl (λ_=>rfl) (λ_=>rfl) CY rfl rfl hb hi ?_;rw[ZO hn];exact hK
def bxQ (p:Pol) (W:List Wy) (U:List (Fa×Value)) (now:V) (nx:List Wt) (num:Nat) (z:Nat) (R:Loop) (c:List V):List (List V):=[(poC p).map .c,wM W,uM U,[.mr 2],qB now (vK nx) (num:Nat),[i64 z],.lp R flT::c]
theorem xg {p:Pol} {W:List Wy} {U:List (Fa×Value)} {now:V} {nx:List Wt} {num z:Nat} {R:Loop} {m:Me} {ob:Nat->Option Wt} {u:Fa->List Nat} {fl:List (Nat×V)} (h:(fl.all λp=>p.2.ltB 7)=true) (hn:now.ltB 7=true):gz fl (bxQ p W U now nx num z R (cells m ob u))=true:=by simp only[gz,bxQ,qB,aB,aF,h,hn,aY,bn,zn,Ia,xe,Bool.and_true,j9];rfl
structure Rs where
 num:Nat
 n:Nat
 W:List Wy
 now:List Wt
 nx:List Wt
structure RsI (L:List In) (s:Rs):Prop where
 perm:s.nx.Perm s.now
 srt:s.now.Pairwise λa b=>a.order<b.order
 mem:∀ w∈s.now,w.x∈L
 fin:zo L s.n ((s.num:Int)+1) s.now s.W=vL L
 cnt:unr L (cB s.W)+(if s.now=[] then 0 else 1)<s.n
 nn:s.num+s.n=L.length+2
 nd:(cB s.W).Nodup
 sub:∀ f∈cB s.W,f∈L.flatMap In.con
 len:s.now.length<=L.length
theorem QA {L:List In} {w:Wt} (h:w∈que L):w.x∈L:=by unfold que at h;obtain⟨q,hq,rfl⟩:=bM.1 h;have:=(eW.1 hq).1;exact List.fst_mem_of_mem_zipIdx this
theorem RsI.init {L:List In}:RsI L ⟨0,L.length+2,[],que L,que L⟩ where
 perm:=List.Perm.refl _
 srt:=OT
 mem:=λw h=>QA h
 fin:=rfl
 cnt:=by have:=@OU L (cB []);show unr L (cB [])+_<L.length+2;split<;>omega
 nn:=by simp
 nd:=gI
 sub:=λf h=>by cases h
 len:=Qx
theorem afa {m:Nat} {l:List Wt}:(flb (λx=>[wtP x]) l).all (λv=>v.ltB m)=true:=by rw[a8];intro v hv;unfold flb at hv;obtain⟨c,_,rfl⟩:=bM.1 hv;rfl
def bxR (p:Pol) (W:List Wy) (U:List (Fa×Value)) (now:List Wt) (num:Nat) (z:Nat) (R:Loop) (c:List V):List (List V):=[(poC p).map .c,wM W,uM U,[.mr 2],[.ms 7 0 now.length now.length 1,.gs none none [],i64 (num:Nat)],[i64 z],.lp R flT::c,flb (λx=>[wtP x]) now]
theorem Dn {p:Pol} {W:List Wy} {U:List (Fa×Value)} {now:List Wt} {num z:Nat} {R:Loop} {m:Me} {ob:Nat->Option Wt} {u:Fa->List Nat} {fl:List (Nat×V)} (h:(fl.all λp=>p.2.ltB 8)=true):gz fl (bxR p W U now num z R (cells m ob u))=true:=by simp only[gz,bxR,aB,aF,h,aY,bn,zn,Ia,xe,afa,Bool.and_true,j9];rfl
theorem aki {now:List Wt} {i nb:Nat} {K:V->Prop} (hi:i<now.length) (hb:7<nb) (hK:K (.c (.rp (wtC now[i]) 0))):ldB nb 7 (flb (λx=>[wtP x]) now) (i*1) K:=by
 unfold ldB;have e:(flb (λx=>[wtP x]) now)[i*1]?=some (.c (wtP now[i])):=by
  rw[Nat.mul_one];unfold flb;have:(now.map λx=>[wtP x]).flatten=now.map wtP:=by
   generalize now=l;induction l with
   |nil=>rfl
   |cons a l ih=>rw[bB,cE,ih];rfl
  rw[this];simp[hi]
 rw[e];exact⟨hb,hK⟩
theorem pw0 {w:Wt} {K:V->Prop}:cQ false 1 0 (wtC w) K=K (i64 w.x.rule):=rfl
theorem pw1 {w:Wt} {K:V->Prop}:cQ false 1 1 (wtC w) K=K (.c (fsC w.x.pre)):=rfl
theorem pw2 {w:Wt} {K:V->Prop}:cQ false 1 2 (wtC w) K=K (.c (fsC w.x.con)):=rfl
theorem anr {l:List Fa} {K:V->Prop}:fq Tryz.prog 28 (.c (fsC l)) K=K (i64 l.length):=by rw[fsC,fD dY rfl,au]
def ant:=jj @pw0 (jj @pw1 (jj @pw2 @anr))
def HdV (m:Me) (u:Fa->List Nat) (f:Fa) (hv:V):Prop:=(∃ blk cap,hv=exV (.slice (some ⟨blk,0,none⟩) (u f).length cap)/\It.us f∈m.its/\m.hd f=.slice (some ⟨blk,0,none⟩) (u f).length cap)∨(hv=.c (.sl [])/\u f=[])
theorem ZP {m:Me} {n:Nat} {keys:List Fa} {u:Fa->List Nat} {s:Vl.S} {i:Nat} {f:Fa} {K:V->Prop} (hm:Mw m n keys u) (hb:s.bx i=uM (hds keys m.hd)) (hi:i<s.nb) (h:∀ hv,HdV m u f hv->K hv) :
 fH Tryz.prog 152 s (.mr i) (faV f) false K:=by
 refine ae0 hb hi (λv hv=>h _ ?_) λgw=>h _ ?_
 .obtain⟨j,hj⟩:=eB.1 hv
  obtain⟨hk,rfl⟩:=Qw hj;obtain⟨blk,cap,e⟩:=hm.hd f hk;exact .inl ⟨blk,cap,by rw[e],(hm.us f).2 hk,e⟩
 .rw[Qv] at gw
  exact .inr ⟨rfl,hm.ku f gw⟩
section
variable {m:Me} {u:Fa->List Nat} {f:Fa} {hv:V}
theorem HdV.ow (h:HdV m u f hv):hv.isOw=false:=by rcases h with⟨_,_,rfl,_⟩ | ⟨rfl,_⟩<;>rfl
theorem HdV.fz (h:HdV m u f hv):hv.fz=hv:=by rcases h with⟨_,_,rfl,_⟩ | ⟨rfl,_⟩<;>rfl
theorem HdV.lt (h:HdV m u f hv) {k:Nat}:hv.ltB k=true:=by rcases h with⟨_,_,rfl,_⟩ | ⟨rfl,_⟩<;>rfl
theorem HdV.len (h:HdV m u f hv) {K:V->Prop} (hK:K (i64 (u f).length)):fq Tryz.prog 153 hv K:=by
 rcases h with⟨blk,cap,rfl,_⟩ | ⟨rfl,h0⟩
 .exact Bd lv rfl hK
 .rw[fD lv rfl]
  rw[h0] at hK;exact hK
end
theorem anu {s:Vl.S} {b c blk len cap k:Nat} {l:List Nat} {K:V->Prop} (hb:b<s.nb) (hk:(s.bx b)[c]?=some (usG (.slice (some ⟨blk,0,none⟩) len cap) l)) (hl:k<l.length) (hK:K (obV l[k])):wA Tryz.prog s 156 (.c (.ex (.pointer (some ⟨blk,0+k*1,none⟩)))) K:=by
 unfold wA;rw[rA];refine⟨b,c,len,cap,_,_,_,⟨hb,hk⟩,?_⟩;have e:(l.map λb=>[obP b]).flatten=l.map obP:=by
  clear hl hk hK;induction l with
  |nil=>rfl
  |cons a l ih=>rw[bB,cE,ih];rfl
 have e2:(l.map obP)[0+k*1]?=some (obP l[k]):=by rw[aJ,Nat.mul_one];simp[hl]
 unfold cQ;rw[e,e2];exact hK
theorem akj {s:Vl.S} {b k blk:Nat} {w:Wt} {z:Int} {K:(Nat->List V)->Prop} (hb:b<s.nb) (hk:(s.bx b)[k]?=some (obG blk w)) (hK:K (up s.bx b ((s.bx b).set k (obG blk ⟨w.x,w.order,z⟩)))):Bz Tryz.prog s 3 (obF blk 4) (i64 z) K:=by have e:(i64 z).cs=some [cI z]:=rfl;unfold Bz;rw[nH,e];exact⟨b,k,1,1,_,_,_,⟨hb,hk,rfl,show 4+1<=5 from ab 5⟩,hK⟩
theorem akk {fr:Nat->V} {bx:Nat->List V} {nb:Nat} {t:Tmp} {dO:Option Tmp} {b o i:Nat} {K:Vl.S->Prop} (h:fr t=.mr i):stS 1 (some t) dO b o (.mr i) ⟨fr,bx,nb⟩ K=
 ((b<nb/\o+1<=(bx b).length)/\K ((⟨fr,up bx b (eQ (bx b) o [.mr i]),nb⟩:Vl.S).put dO .sk)):=by
 simp[stS,V.bcells,ib,h,V.isOw]
theorem akl {tr:List Nat} {ty:TypeId} {d:Nat} {pos:String} {af:Array Edge} {g:Option (Nat×Bool)} {fr:Nat->V} {bx:Nat->List V} {nb:Nat} {K:S->Prop}:VStep Tryz.prog G tr ⟨some d,.alloc 152,ty,pos,af,g⟩ ⟨fr,bx,nb⟩ K=K ⟨up fr d (.bp nb 0),up bx nb [.c (.lit (.map none))],nb+1⟩:=lN CW rfl
def Dp:=jj @pkA (jj @ptA @Dl)
def ZQ:=jj @pkA (jj @ptA (jj @pkF @Dl))
def jH:=jj @pkA @Dl
def agD:=jj @pkA (jj @ptA (jj @Dl @ant))
set_option maxHeartbeats 4000000 in
theorem afb (p:Pol) (L:List In) (hI:∀ c,OQ=some c->FnE Tryz.prog G 70 [.yl 0,.c (.rp (poC p) 0)] (ybS 141 #[26] c.1 c.2 t0) (λr b1=>∃ t b,(Yw 141 #[26] c.1 c.2).run t0 L t b/\r=.tup []/\b1=ybS 141 #[26] c.1 c.2 t))
 (hl:L.length<=20000) (hs:kH L):FnB Tryz.prog G 90 [.agg (poC p)] [] (.mr 1) [(poC p).map .c,wM (vL L)]:=by
 refine jL (rs:=[.tmp 2]) (k:=0) [1200000,1200001,1300141,2300005,1000059,2300017,1000062,104,2300031,2850036,2890036,2350123,2850037,2890037,2350127,2360130,2850038,2890038,2350134,2300039,1000137] mixed Tryz.func90 rfl rfl rfl rfl (by kernel_rfl) (by simp) rfl rfl rfl rfl (ar _) ?_;simp only[Dp,seval,ad0,aec,akl,akk];refine rm rfl ?_;refine .forget 4 0 (x:=.ow none []) (show 4<6 by decide) rfl rfl ?_;refine .warm 4 1 (show 4<6 by decide) rfl (.done ?_);simp only[ZQ,seval,S.cell];refine aC rfl (yu p) (λh=>by cases h) ?_;simp only[pkA,FV];refine apO (c:=(_,_)) (L:=L) (hI _ rfl) rfl rfl rfl rfl (by simp[aj]) (by simp[aj]) (by simp[aj]) (by simp[aj];rfl) (by simp[aj]) (by simp[];rfl) (by simp[aj]) ?_;intro bx' R t tW aoN b2 b3 b4 b5 b6;have b0:bx' 0=(poC p).map .c:=by rw[aoN 0 (by decide)];simp[aj]
 have b1:bx' 1=wM []:=by rw[aoN 1 (by decide)];simp[aj];rfl
 rw[tW] at b2 b4 b5 b6;have hm:=t.wf;rw[tW] at hm;generalize hU:hds (mV (prs L)) t.m.hd=U at b2;simp only[pkA];refine bz (λs:Rs=>hdS [(3,.mr 1),(4,.bp 3 0),(5,.bp 4 0)] (bxQ p s.W U .un s.nx s.num L.length R (cells t.m (obK L (cB s.W) []) (uP (prs L))))) (λs=>s.n) (RsI L) ⟨0,L.length+2,[],que L,que L⟩ RsI.init ?_ ?_
 .refine cg (xg rfl rfl) (ar _) (ab 7) (by simp[FL,aj]) ?_
  rw[ae6] at b6;exact⟨b0,b1,b2,b3,b4,b5,b6,trivial⟩
 rintro⟨num,n,W,now,nx⟩ ⟨AB,aln,jF,vS,af8,hnn,qA,fF,cm⟩ Q bL bQ dq;simp only at AB aln jF vS af8 hnn qA fF cm;have ath:nx.length<=L.length:=by rw[AB.length_eq];exact cm
 simp only[jH,seval,bxQ];refine jM [4,5] rfl (aeW [i64 L.length] num (nx.map λw=>[wtP w]) (Ie nx) .un (by omega) (by rw[au];omega) rfl rfl rfl) (by simp[V.fz,V.ren,rho]) rfl (by decide) rfl
  ⟨⟨show 4<7 by decide,rfl⟩,⟨show 5<7 by decide,rfl⟩,trivial⟩ ?_
 intro bx1 iE oW;simp only[pkA,seval,V.ren];have h0:bx1 0=(poC p).map .c:=by rw[iE 0 (by decide)];rfl
 have h1:bx1 1=wM W:=by rw[iE 1 (by decide)];rfl
 have h2:bx1 2=uM U:=by rw[iE 2 (by decide)];rfl
 have h3:bx1 3=[.mr 2]:=by rw[iE 3 (by decide)];rfl
 have h4:bx1 4=qB (vK nx) (.ow none []) ((num+1:Nat):Int):=oW 0 4 _ rfl rfl;have h5:bx1 5=[i64 L.length]:=oW 1 5 _ rfl rfl;have h6:bx1 6=.lp R flT::cells t.m (obK L (cB W) []) (uP (prs L)):=by rw[iE 6 (by decide)];rfl
 refine aD (λhy=>?_) (λhy=>?_)
 .simp only[jH,seval]
  clear iE oW;have gZ:nx≠[]:=by rintro rfl;simp at hy
  have A4:now≠[]:=by rintro rfl;exact gZ (by simpa using AB)
  have hqv:vK nx=.gs none (some (156,1)) (nx.map λw=>[wtP w]):=by
   unfold vK Ie;cases nx with
   |nil=>exact absurd rfl gZ
   |cons _ _=>rfl
  rw[hqv] at h4;refine rm rfl ?_;refine .warm 4 1 (show 4<7 by decide) (by simp only[h4];rfl) ?_;refine .box 4 0 (g:=none) (e:=156) (sz:=1) (es:=nx.map λw=>[wtP w]) (show 4<7 by decide) (by simp[S.cell,h4,qB];rfl) (by simp[S.cell,h4,qB]) (.done ?_);have oY:∀ K a b c,ldB 8 4 [V.ms 7 0 a a 1,b,c] 0 K=K (.ms 7 0 a a 1):=λK a b c=>by unfold ldB;exact propext ⟨λh=>h.2,λh=>⟨by decide,h⟩⟩
  have alj:∀ a b c,ck [V.ms 7 0 a a 1,b,c]=false:=λ_ _ _=>rfl;simp only[Dp,seval,S.cell,h4,qB,oY,alj,au];refine jM [7] rfl (ZB nx now (by cases nx with | nil=>exact absurd rfl gZ | cons _ _=>exact Nat.zero_lt_succ _) (by omega) AB.symm (aln.imp λh=>by omega) (λx hx y hy he=>akg aln (AB.mem_iff.1 hx) (AB.mem_iff.1 hy) he) nx.length (ab _)) (by simp[V.fz,V.ren,rho]) rfl (by decide) rfl
   ⟨⟨show 7<8 by decide,by simp only[vo];rfl⟩,trivial⟩ ?_
  intro bx2 iE oW;have k0:bx2 0=(poC p).map .c:=by rw[iE 0 (by decide)];simp[aj,h0]
  have k1:bx2 1=wM W:=by rw[iE 1 (by decide)];simp[aj,h1]
  have k2:bx2 2=uM U:=by rw[iE 2 (by decide)];simp[aj,h2]
  have k3:bx2 3=[.mr 2]:=by rw[iE 3 (by decide)];simp[aj,h3]
  have k4:bx2 4=[.ms 7 0 nx.length nx.length 1,.gs none none [],i64 (num+1:Nat)]:=by rw[iE 4 (by decide)];simp[aj]
  have k5:bx2 5=[i64 L.length]:=by rw[iE 5 (by decide)];simp[aj,h5]
  have k6:bx2 6=.lp R flT::cells t.m (obK L (cB W) []) (uP (prs L)):=by rw[iE 6 (by decide)];simp[aj,h6]
  have k7:bx2 7=flb (λx=>[wtP x]) now:=by rw[<- vo];exact oW 0 7 _ rfl rfl
  clear iE oW h0 h1 h2 h3 h4 h5 h6;have vC:nx.length=now.length:=AB.length_eq;rw[vC] at k4;simp only[Dp,seval,k4,oY,alj];refine bz (λs:Nat×List Fa=>hdS [(3,.mr 1),(4,.bp 3 0),(5,.bp 4 0),(11,owF s.2),(64,.ms 7 0 now.length now.length 1),(65,i64 now.length),(66,i64 s.1)] (bxR p (lu (num+1:Nat) W (now.take s.1)) U now (num+1) L.length R (cells t.m (obK L (cB W) []) (uP (prs L)))))
   (λs=>now.length - s.1) (λs=>s.1<=now.length/\s.2.length<=2*s.1/\cB (lu (num+1:Nat) W (now.take s.1))=cB W++s.2) (0,[]) ⟨ar _,ar _,by simp[lu]⟩ ?_ ?_
  .refine cg (Dn rfl) (ar _) (ab 8) (by simp[FL,aj,owF]) ?_
   exact⟨k0,k1,k2,k3,k4,k5,k6,k7,trivial⟩
  rintro⟨i,fr3⟩ ⟨hi,hf3,Vd⟩ Q3 alo alp arR;simp only at hi hf3 Vd;simp only[jH,seval,bxR];refine aD (λbF=>?_) (λfO=>?_)
  .have bF:i<now.length:=by simpa using bF
   simp only[jH,seval];refine HI lv rfl rA rfl (by decide) rfl bF ?_;simp only[Dp,seval,jc];refine aki bF (show 7<8 by decide) ?_;simp only[agD,seval];refine bz (λs:Nat×List Fa=>hdS [(3,.mr 1),(4,.bp 3 0),(5,.bp 4 0),(11,owF s.2),(13,.c (.rp (wtC now[i]) 0)),(64,.ms 7 0 now.length now.length 1),(65,i64 now.length),(66,i64 i),(74,.c (fsC now[i].x.con)),(75,i64 now[i].x.con.length),(76,i64 s.1)]
    (bxR p ((now[i].x.con.take s.1).foldl (tP (num+1:Nat) now[i].x) (lu (num+1:Nat) W (now.take i))) U now (num+1) L.length R (cells t.m (obK L (cB W) []) (uP (prs L)))))
    (λs=>now[i].x.con.length - s.1) (λs=>s.1<=now[i].x.con.length/\s.2.length<=2*i+s.1/\cB ((now[i].x.con.take s.1).foldl (tP (num+1:Nat) now[i].x) (lu (num+1:Nat) W (now.take i)))=cB W++s.2) (0,fr3) ⟨ar _,hf3,Vd⟩ ?_ ?_
   .refine cg (Dn rfl) (ar _) (ab 8) (by simp[FL,aj]) ?_
    exact⟨rfl,rfl,rfl,rfl,rfl,rfl,rfl,rfl,trivial⟩
   rintro⟨k,fr4⟩ ⟨hk,hf4,abe⟩ Q4 abf alq arS;simp only at hk hf4 abe;have U1:=(hs _ (jF _ (bT bF))).2;generalize hW4:(now[i].x.con.take k).foldl (tP (num+1:Nat) now[i].x) (lu (num+1:Nat) W (now.take i))=W4 at abe;simp only[jH,seval,bxR];refine aD (λPH=>?_) (λaq6=>?_)
   .have PH:k<now[i].x.con.length:=by simpa using PH
    simp only[jH,seval,fsC];refine dP dY rfl eK (by decide) (ay k) (c:=faC now[i].x.con[k]) (by simp[PH]) rfl ?_;have r1:∀ a b c:V,eQ [a,b,c] 0 ((faC now[i].x.con[k]).map .c)=(faC now[i].x.con[k]).map .c:=λ_ _ _=>rfl;have r3:∀ nb q (K:V->Prop),ldA nb q ((faC now[i].x.con[k]).map .c) 0 3 K=(q<nb/\K (faV now[i].x.con[k])):=λnb q K=>by unfold ldA;exact propext ⟨λh=>⟨h.1,h.2.2⟩,λh=>⟨h.1,⟨rfl,rfl⟩,h.2⟩⟩
    have r2:ck ((faC now[i].x.con[k]).map V.c)=false:=rfl;simp only[ZQ,seval,r1,r2,r3];refine ZN rfl (show 1<9 by decide) ?_;have r4:∀ (w:Wy) (a b c d e f:V),eQ [a,b,c,d,e,f] 0 ((wyC w).map .c)=(wyC w).map .c:=λ_ _ _ _ _ _ _=>rfl;simp only[Dp,seval,r4];have MN:=br (n:=(k:Int)+1) (k:=k+1) (by omega) (by omega);have DY:((k+1:Nat):Int)=(k:Int)+1:=(by omega);refine⟨rfl,aD (λvT=>?_) (λu3=>?_)⟩
    .have vT:now[i].x.con[k]∉cB W4:=by simpa using vT
     have l1:∀ nb q (K:V->Prop),ldB nb q [V.ms 7 0 now.length now.length 1,V.gs none none [],i64 ((num+1:Nat):Int)] 2 K=(q<nb/\K (i64 ((num+1:Nat):Int))):=λ_ _ _=>rfl;simp only[agD,seval,r2,r3,alj,l1];refine mJ (cs:=wyC ⟨now[i].x.con[k],(num+1:Nat),now[i].x.rule,now[i].x.pre⟩) rfl ?_;simp only[pkA,seval];refine ae9 (w:=⟨now[i].x.con[k],(num+1:Nat),now[i].x.rule,now[i].x.pre⟩) rfl (show 1<10 by decide) vT ?_;simp only[Dp,seval,r2,r3,kG];have r5:mb 3 [(0,faV now[i].x.con[k])] [[C.lit (Value.int IntKind.i64 0),C.lit (Value.int IntKind.i64 0),C.lit (Value.int IntKind.i64 0)]]=some [faC now[i].x.con[k]]:=rfl;simp only[pkA,seval,r5,dx];refine tJ (by omega) ?_;simp only[jH,seval,MN,kG];have ED:(now[i].x.con.take (k+1)).foldl (tP (num+1:Nat) now[i].x) (lu (num+1:Nat) W (now.take i))=W4++[⟨now[i].x.con[k],(num+1:Nat),now[i].x.rule,now[i].x.pre⟩]:=(by rw[aT PH,gJ,hW4];simp only[di,List.foldl_nil,tP,if_neg vT]);refine abf (k+1,fr4++[now[i].x.con[k]]) _ ⟨PH,by simp only[ae,bA];omega,?_⟩ (by simp only;omega) (cg (Dn rfl) (ar _) (show 8<=10 by decide) (by simp[FL,aj,DY,fsC]) ?_)
     .simp only[ED,FR,abe]
      rw[aH];rfl
     .simp only[ED]
      exact⟨by simp[aj,bxs],by simp[],by simp[aj,bxs],by simp[aj,bxs],by simp[aj,bxs],by simp[aj,bxs],by simp[aj,bxs],by simp[aj,bxs],trivial⟩
    .have u3:now[i].x.con[k]∈cB W4:=by simpa using u3
     simp only[jH,seval,MN];have ED:(now[i].x.con.take (k+1)).foldl (tP (num+1:Nat) now[i].x) (lu (num+1:Nat) W (now.take i))=W4:=(by rw[aT PH,gJ,hW4];simp only[di,List.foldl_nil,tP,if_pos u3]);refine abf (k+1,fr4) _ ⟨PH,by simp only;omega,?_⟩ (by simp only;omega) (cg (Dn rfl) (ar _) (show 8<=10 by decide) (by simp[FL,aj,DY,fsC]) ?_)
     .simp only[ED,abe]
     .simp only[ED]
      exact⟨by simp[aj,bxs],by simp[aj,bxs],by simp[aj,bxs],by simp[aj,bxs],by simp[aj,bxs],by simp[aj,bxs],by simp[aj,bxs],by simp[aj,bxs],trivial⟩
   .have xw:k=now[i].x.con.length:=by simp at aq6;omega
    subst xw;simp only[pkA];refine alq _ _ ?_;have hwi:=br (n:=(i:Int)+1) (k:=i+1) (by omega) (by omega);have Gq:((i+1:Nat):Int)=(i:Int)+1:=(by omega);simp only[jH,seval,hwi];have ED:lu (num+1:Nat) W (now.take (i+1))=W4:=(by rw[aT bF];unfold lu at *;rw[gJ,<- hW4,bW];rfl);refine alo (i+1,fr4) _ ⟨bF,by simp only;omega,?_⟩ (by simp only;omega) (cg (Dn rfl) (ar _) (show 8<=8 by decide) (by simp[FL,aj,Gq]) ?_)
    .simp only[ED,abe]
    .simp only[ED]
     exact⟨rfl,rfl,rfl,rfl,rfl,rfl,rfl,rfl,trivial⟩
  .have hi0:i=now.length:=by simp at fO;omega
   subst hi0;rw[bW] at Vd;simp only[pkA,bW];refine alp _ _ ?_;simp only[jH,seval];refine rm rfl ?_;refine .forget 4 0 (x:=.ms 7 0 now.length now.length 1) (show 4<8 by decide) rfl rfl (.done ?_);simp only[Dp,seval,uD,au];have alk:(cB W++fr3).Nodup:=(by rw[<- Vd];exact Bo _ _ qA);refine bz (λs:Nat×List Wt=>hdS [(3,.mr 1),(4,.bp 3 0),(5,.bp 4 0),(110,.c (fsC fr3)),(111,i64 fr3.length),(112,i64 s.1)] (bxQ p (lu (num+1:Nat) W now) U .un s.2 (num+1) L.length R (cells t.m (obK L (cB W++fr3.take s.1) []) (uP (prs L)))))
    (λs=>fr3.length - s.1) (λs=>s.1<=fr3.length/\NX L (cB W) (cB W++fr3.take s.1) [] s.2) (0,[]) ⟨ar _,by simpa using NX.init⟩ ?_ ?_
   .refine cg (xg rfl rfl) (ar _) (show 7<=8 by decide) (by simp[FL,aj,fsC]) ?_
    simp only[ky,bq];exact⟨rfl,rfl,rfl,rfl,rfl,rfl,rfl,trivial⟩
   rintro⟨a,nx5⟩ ⟨ha,af9⟩ Q5 alr als arT;simp only at ha af9;simp only[jH,seval,bxQ];refine aD (λPI=>?_) (λaq8=>?_)
   .have PI:a<fr3.length:=by simpa using PI
    simp only[jH,seval,fsC];refine dP dY rfl eK (by decide) (ay a) (c:=faC fr3[a]) (by simp[PI]) rfl ?_;obtain⟨f,hf⟩:∃ f,f=fr3[a]:=⟨_,rfl⟩;rw[<- hf];have r1:∀ a b c:V,eQ [a,b,c] 0 ((faC f).map .c)=(faC f).map .c:=λ_ _ _=>rfl;have r3:∀ nb q (K:V->Prop),ldA nb q ((faC f).map .c) 0 3 K=(q<nb/\K (faV f)):=λnb q K=>by unfold ldA;exact propext ⟨λh=>⟨h.1,h.2.2⟩,λh=>⟨h.1,⟨rfl,rfl⟩,h.2⟩⟩
    have r2:ck ((faC f).map V.c)=false:=rfl;simp only[ZQ,seval,r1,r2,r3];rw[<- hU];refine ZP hm rfl (show 2<8 by decide) (λhv hH=>?_);simp only[jH,seval];refine hH.len ?_;simp only[jH,seval];have MO:f∉cB W++fr3.take a:=by
     rw[iV] at alk;rw[ba];rintro(h | h)
     .exact alk.2.2 f h f (by rw[hf];exact bT PI) rfl
     .have h2:=alk.2.1
      rw[fP] at h;obtain⟨j,hj,h3⟩:=h;have U0:j<fr3.length:=(by omega);have:j=a:=(List.getElem_inj (h₀:=U0) (h₁:=PI) h2).1 (by rw[h3,hf]);omega
    refine bz (λs:Nat×List Wt=>hdS [(3,.mr 1),(4,.bp 3 0),(5,.bp 4 0),(110,.c (fsC fr3)),(111,i64 fr3.length),(112,i64 a),(118,hv),(119,i64 (uP (prs L) f).length),(120,i64 s.1)]
     (bxQ p (lu (num+1:Nat) W now) U .un s.2 (num+1) L.length R (cells t.m (obK L ((cB W++fr3.take a)++[f]) ((uP (prs L) f).drop s.1)) (uP (prs L)))))
     (λs=>(uP (prs L) f).length - s.1) (λs=>s.1<=(uP (prs L) f).length/\NX L (cB W) ((cB W++fr3.take a)++[f]) ((uP (prs L) f).drop s.1) s.2) (0,nx5) ⟨ar _,af9.start MO⟩ ?_ ?_
    .refine cg (xg (by simp only[aY,bn,hH.lt];rfl) rfl) (ar _) (show 7<=8 by decide) (by simp[FL,aj,fsC]) ?_
     simp only[cx,Ur MO];exact⟨by simp[aj,bxs],by simp[aj,bxs],by simp[aj,bxs,hU],by simp[aj,bxs],by simp[aj,bxs],by simp[aj,bxs],by simp[aj,bxs],trivial⟩
    rintro⟨k,nx6⟩ ⟨hk,IH⟩ Q6 PK alu arU;simp only at hk IH;simp only[jH,seval,bxQ];refine aD (λEJ=>?_) (λaq9=>?_)
    .have EJ:k<(uP (prs L) f).length:=by simpa using EJ
     obtain⟨blk,cap,rfl,iT,hhd⟩:=Or.resolve_right hH (λh=>by rw[h.2] at EJ;exact absurd EJ (gW _));simp only[pkA,seval];refine ux ?_;simp only[jH,seval,dX,dT,nS,nG,gu];refine N1 (off:=0) (k:=k) lv rfl rA rfl (by decide) rfl EJ ?_;obtain⟨D,hD⟩:∃ D,D=(cB W++fr3.take a)++[f]:=⟨_,rfl⟩;simp only[<- hD] at IH PK ⊢
     obtain⟨c,vE,hc2,hc3⟩:=yz (m:=t.m) (ob:=obK L D ((uP (prs L) f).drop k)) (u:=uP (prs L)) iT;have hc4:(cells t.m (obK L D ((uP (prs L) f).drop k)) (uP (prs L)))[c]?=some (usG (.slice (some ⟨blk,0,none⟩) (uP (prs L) f).length cap) ((uP (prs L) f).map t.m.bl)):=(by rw[hc3];simp only[sh,hhd]);simp only[jH,seval,vH,dX,dT,nS,nG,gu];refine anu (b:=6) (c:=c+1) (l:=(uP (prs L) f).map t.m.bl) (show 6<7 by decide) hc4 (by rw[au];exact EJ) ?_;rw[List.getElem_map];have abd:(uP (prs L) f)[k]∈uP (prs L) f:=bT EJ;have vD:(uP (prs L) f).drop k=(uP (prs L) f)[k]::(uP (prs L) f).drop (k+1):=dn EJ;generalize (uP (prs L) f)[k]=q at abd vD;obtain⟨x,hx,hfx⟩:=akf abd;have hmq:mkc D ((uP (prs L) f).drop (k+1)) x q<=2:=(by refine bY ZK ?_;rw[hD,vu MO hx];exact bY ae7 (hs x (aV hx)).1);simp only[jH,seval];refine .done ?_;simp only[pkA,seval];refine ux ?_;simp only[jH,seval,dX,dT,nS,nG,gu,vt];obtain⟨c',hd1,hd2,hd3⟩:=yz (m:=t.m) (ob:=obK L D ((uP (prs L) f).drop k)) (u:=uP (prs L)) ((hm.ob q).2 (hm.lt f q abd));have hd4:sh t.m (obK L D ((uP (prs L) f).drop k)) (uP (prs L)) (.ob q)=obG (t.m.bl q) ⟨x,(q:Nat),(mkc D ((uP (prs L) f).drop (k+1)) x q+1:Nat)⟩:=(by simp only[sh,vD,ake hx]);rw[hd4] at hd3;refine Ig ?_;simp only[jH,seval,vH,dX,dT,nS,nG,gu];refine OP (b:=6) (k:=c'+1) (show 6<7 by decide) hd3 ?_;have hws:=br (n:=((mkc D ((uP (prs L) f).drop (k+1)) x q+1:Nat):Int) - 1) (k:=mkc D ((uP (prs L) f).drop (k+1)) x q) (by omega) (by omega);simp only[jH,seval,vH,dX,dT,nS,nG,gu,vt,hws];refine Ig ?_;simp only[jH,seval,vH,dX,dT,nS,nG,gu];refine akj (b:=6) (k:=c'+1) (show 6<7 by decide) hd3 ?_;simp only[pkA];refine .done ?_;have alm:obK L D ((uP (prs L) f).drop (k+1))=upO (obK L D ((uP (prs L) f).drop k)) q (if mkc D ((uP (prs L) f).drop (k+1)) x q=0 then none else some ⟨x,(q:Nat),(mkc D ((uP (prs L) f).drop (k+1)) x q:Nat)⟩):=by rw[vD];exact ZJ hx
     have MN:=br (n:=(k:Int)+1) (k:=k+1) (by omega) (by have:=@ZH (prs L) f;have:=akh hs;omega);have DY:((k+1:Nat):Int)=(k:Int)+1:=(by omega);have atn:∀ w:V,(cells t.m (obK L D ((uP (prs L) f).drop k)) (uP (prs L))).set c' w=(cells t.m (obK L D ((uP (prs L) f).drop k)) (uP (prs L))).set c' w:=λ_=>rfl;generalize hM:mkc D ((uP (prs L) f).drop (k+1)) x q=M at hmq hws alm;simp only[pkA,seval];refine ux ?_;simp only[jH,seval,dX,dT,nS,nG,gu,vt];refine Ig ?_;simp only[jH,seval,vH,dX,dT,nS,nG,gu];have hc'l:c'<(cells t.m (obK L D ((uP (prs L) f).drop k)) (uP (prs L))).length:=(by rw[FP];exact hd1);refine OP (b:=6) (k:=c'+1) (w:=⟨x,(q:Nat),(M:Nat)⟩) (blk:=t.m.bl q) (show 6<7 by decide) (by simp[hc'l]) ?_;simp only[pkA,dT];refine .done ?_;refine aD (λhy6=>?_) (λhn6=>?_)
     .have hM0:M=0:=by simpa using hy6
      simp only[jH,seval];subst hM0;refine rm rfl ?_;refine .frz 6 (c'+1) 21 (t.m.bl q) 1 1 (e:=158) (sz:=5) (cs:=wtC ⟨x,(q:Nat),0⟩) (show 6<7 by decide) (by simp[hc'l];rfl) rfl (.done ?_);simp only[jH,seval];have nE:=IH.len;refine jM [4,5] rfl (Qs (wtP ⟨x,(q:Nat),0⟩) .un [i64 L.length] (num+1:Nat) (nx6.map λw=>[wtP w]) (Ie nx6) Qy (by simp) (by rw[au];omega) rfl rfl rfl) (by simp[V.fz,V.ren,rho,wtP]) rfl (by decide) rfl
       ⟨⟨show 4<7 by decide,rfl⟩,⟨show 5<7 by decide,rfl⟩,trivial⟩ ?_
      intro bx6 iE oW;simp only[jH,seval,MN];have hrx:rdy (cB W) x=false:=(by unfold rdy;rw[<- Bool.not_eq_true,a8];intro h;exact MO (fG _ (bw (h f hfx))));refine PK (k+1,nx6++[⟨x,(q:Nat),0⟩]) _ ⟨EJ,?_⟩ (by simp only;omega) (cg (xg rfl rfl) (ar _) (show 7<=7 by decide) (by simp[FL,aj,fsC,DY]) ?_)
      .rw[vD] at IH
       exact IH.push hx hrx hM
      .refine⟨?_,?_,?_,?_,?_,?_,?_,trivial⟩
       .rw[iE 0 (by decide)];rfl
       .rw[iE 1 (by decide)];rfl
       .rw[iE 2 (by decide)];rfl
       .rw[iE 3 (by decide)];rfl
       .rw[FQ];exact oW 0 4 _ rfl rfl
       .exact oW 1 5 _ rfl rfl
       .rw[iE 6 (by decide),alm,if_pos rfl,<- Di hm hd2 none]
        simp[]
     .have hM0:M≠0:=by simpa using hn6
      simp only[jH,seval,MN];refine PK (k+1,nx6) _ ⟨EJ,?_⟩ (by simp only;omega) (cg (xg rfl rfl) (ar _) (show 7<=7 by decide) (by simp[FL,aj,fsC,DY]) ?_)
      .rw[vD] at IH
       exact IH.keep hx (by rw[hM];exact hM0)
      .refine⟨rfl,rfl,rfl,rfl,rfl,rfl,?_,trivial⟩
       rw[alm,if_neg hM0,<- Di hm hd2 (some _)];simp[]
    .have xw:k=(uP (prs L) f).length:=by simp at aq9;omega
     subst xw;have hwa:=br (n:=(a:Int)+1) (k:=a+1) (by omega) (by omega);have ha1:((a+1:Nat):Int)=(a:Int)+1:=(by omega);simp only[pkA];refine alu _ _ ?_;simp only[jH,seval,hwa];have hDa:cB W++fr3.take (a+1)=(cB W++fr3.take a)++[f]:=(by rw[aT PI,<- hf,aH]);rw[en] at IH;refine alr (a+1,nx6) _ ⟨PI,by simp only[hDa];exact IH⟩ (by simp only;omega) (cg (xg rfl rfl) (ar _) (show 7<=7 by decide) (by simp[FL,aj,ha1]) ?_);simp only[hDa,en];exact⟨rfl,rfl,rfl,rfl,rfl,rfl,rfl,trivial⟩
   .have ha0:a=fr3.length:=by simp at aq8;omega
    subst ha0;simp only[pkA];refine als _ _ ?_;simp only[pkA,seval];rw[bW,<- Vd] at af9;simp only[bW,<- Vd];have alh:((num+1:Nat):Int)=(num:Int)+1:=(by omega);rw[if_neg A4] at af8;obtain⟨n,rfl⟩:∃ n',n=n'+1:=⟨n - 1,by omega⟩;have aoM:∀ g∈cB W,g∈cB (lu (num+1:Nat) W now):=λg hg=>(uL _ _).2 (.inl hg);have j8:=Lq (L:=L) aoM;have hul:=@OU L (cB W);refine bL ⟨num+1,n,lu (num+1:Nat) W now,yA L (cB W) (cB (lu (num+1:Nat) W now)),nx5⟩ _ ⟨af9.done,Aq,λw hw=>?_,?_,?_,by simp only;omega,Bo _ _ qA,λg hg=>?_,by simp only;omega⟩ (cd n) (cg (xg rfl rfl) (ar _) (show 7<=7 by decide) (by simp[FL,aj]) ?_)
    .obtain⟨i,x,h1,rfl,_⟩:=yC.1 hw
     exact aV h1
    .simp only[zo] at vS
     rw[if_neg A4] at vS;simp only[alh];exact vS
    .show unr L (cB (lu (num+1:Nat) W now))+(if yA L (cB W) (cB (lu (num+1:Nat) W now))=[] then 0 else 1)<n
     split
     .rename_i h;rw[h] at j8;simp only[aF] at j8;omega
     .rename_i h
      have:0<(yA L (cB W) (cB (lu (num+1:Nat) W now))).length:=gU.2 h;omega
    .rcases(uL _ _).1 hg with h | ⟨w,hw,h⟩
     .exact fF g h
     .exact List.mem_flatMap.2 ⟨w.x,jF w hw,h⟩
    .exact⟨rfl,rfl,rfl,rfl,rfl,rfl,rfl,trivial⟩
 .have hnx:nx=[]:=by simpa using hy
  subst hnx;have A4:now=[]:=by simpa using AB.symm
  subst A4;have hW:W=vL L:=by
   rw[<- vS];cases n with
   |zero=>rfl
   |succ n=>simp[zo]
  simp only[pkA,seval];refine bQ _ _ ?_;simp only[jH,seval];refine nO [(2,.mr 1)] rfl ?_ (ar _) (show 2<=7 by decide) ⟨by simp[],trivial⟩ ⟨h0,by rw[<- hW];exact h1,trivial⟩ rfl;simp only[gz,aY,bn,xe,aB,aF];rfl
theorem Ih (p:Pol) (hp:p.types.length<=9223372036854775806) (hr:p.rules.length<=9223372036854775806) (hl:(fN p none).length<=20000) (hs:kH (fN p none)) :
 FnB Tryz.prog G 90 [.agg (poC p)] [] (.mr 1) [(poC p).map .c,wM (vL (fN p none))]:=
 afb p _ (λ_ hc=>anq hc hp hr hl hs) hl hs
