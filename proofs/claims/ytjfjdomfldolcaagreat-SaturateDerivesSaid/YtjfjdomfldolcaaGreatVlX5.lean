/- Layer 18: saturated. -/
import Derived.Test.YtjfjdomfldolcaaGreatVlX4
import Derived.Test.YtjfjdomfldolcaaGreatVlH4
set_option linter.all false
namespace Go.Proofs.YtjfjdomfldolcaaGreat
open Go Go.Vl
variable {G:Gl}
set_option maxRecDepth 4000
def wyC (w:Wy):List C:=faC w.fact++[cI w.round,cI w.rule,fsC w.pre]
def wyV (w:Wy):V:=.agg (wyC w)
def wM (W:List Wy):List V:=pN faV wyV (W.map fun w=>(w.fact,w))
theorem rn {ρ:Nat→Nat} {W:List Wy}:(wM W).map (V.ren ρ)=wM W:=H9 (fun _=>rfl) fun _=>rfl
theorem oM {k:Nat} {W:List Wy}:(wM W).all (fun x=>x.ltB k)=true:=Ia (fun _=>rfl) fun _=>rfl
def zwy:Wy:=⟨⟨0,0,0⟩,0,0,[]⟩
def mq (W:List Wy) (f:Fa):Wy:=(xR (W.map fun w=>(w.fact,w)) f).getD zwy
theorem Eh {W:List Wy} {f:Fa}:(xR (W.map fun w=>(w.fact,w)) f).isSome=decide (f∈aL W):=by
 rw[S9,gG];rfl
theorem yf {s:Vl.S} {i:Nat} {W:List Wy} {f:Fa} {K:V→Prop} (hb:s.bx i=wM W) (hi:i<s.nb) (hK:K (.tup [.agg (wyC (mq W f)),bo (decide (f∈aL W))])):fM Tryz.prog 57 s (.mr i) (faV f) true K:=by
 refine Pr (h:=wyV) (z:=.agg (wyC zwy)) (c:=faC) xY rfl eY rfl gX rfl TD (fun _=>rfl) (fun _=>rfl) D7 hb hi ?_
 rw[Eh]
 unfold mq at hK
 cases hg:xR (W.map fun w=>(w.fact,w)) f with
 |none=>rw[hg] at hK;exact hK
 |some w=>rw[hg] at hK;exact hK
theorem UK {W:List Wy} {w:Wy} (h:w.fact∉aL W):YA (W.map fun w=>(w.fact,w)) w.fact w=(W++[w]).map fun w=>(w.fact,w):=by
 unfold YA
 cases hj:uA (W.map fun w=>(w.fact,w)) w.fact with
 |none=>simp
 |some j=>
  obtain⟨b,hb⟩:=mn hj
  rw[bb,aW] at hb
  obtain⟨a,h1,h2⟩:=hb
  simp only[ft] at h2
  exact absurd (bj.2 ⟨a,aQ h1,h2.1⟩) h
theorem Ng {s:Vl.S} {i:Nat} {W:List Wy} {w:Wy} {K:Vl.S→Prop} (hb:s.bx i=wM W) (hi:i<s.nb) (hn:w.fact∉aL W) (hK:K { s with bx:=up s.bx i (wM (W++[w])) }):iJ Tryz.prog 57 s (.mr i) (faV w.fact) (.agg (wyC w)) K:=by
 refine Ta (h:=wyV) (z:=.agg (wyC zwy)) (c:=faC) (b:=w) xY rfl eY rfl gX rfl TD (fun _=>rfl) (fun _=>rfl) D7 rfl rfl hb hi ?_
 rw[UK hn];exact hK
def bxQ (p:Pol) (W:List Wy) (U:List (Fa×Value)) (now:V) (nx:List Wt) (num:Nat) (z:Nat) (R:Loop) (c:List V):List (List V):=[(poC p).map .c,wM W,uM U,[.mr 2],qB now (vH nx) (num:Nat),[i64 z],.lp R flT::c]
theorem wO {p:Pol} {W:List Wy} {U:List (Fa×Value)} {now:V} {nx:List Wt} {num z:Nat} {R:Loop} {m:Me} {ob:Nat→Option Wt} {u:Fa→List Nat} {fl:List (Nat×V)} (h:(fl.all fun p=>p.2.ltB 7)=true) (hn:now.ltB 7=true):kR fl (bxQ p W U now nx num z R (cells m ob u))=true:=by
 simp only[kR,bxQ,qB,aZ,aU,h,hn,bR,cz,y7,Gf,oM,jd,jX]
 rfl
structure Rs where
 num:Nat
 n:Nat
 W:List Wy
 now:List Wt
 nx:List Wt
structure RsI (L:List In) (s:Rs):Prop where
 perm:s.nx.Perm s.now
 srt:s.now.Pairwise fun a b=>a.order<b.order
 mem:∀ w∈s.now,w.x∈L
 fin:pX L s.n ((s.num:Int)+1) s.now s.W=vI L
 cnt:unr L (aL s.W)+(if s.now=[] then 0 else 1)<s.n
 nn:s.num+s.n=L.length+2
 nd:(aL s.W).Nodup
 sub:∀ f∈aL s.W,f∈L.flatMap In.con
 len:s.now.length≤L.length
theorem Nh {L:List In} {w:Wt} (h:w∈que L):w.x∈L:=by
 unfold que at h
 obtain⟨q,hq,rfl⟩:=bj.1 h
 have:=(cH.1 hq).1
 exact List.fst_mem_of_mem_zipIdx this
theorem RsI.init {L:List In}:RsI L ⟨0,L.length+2,[],que L,que L⟩ where
 perm:=List.Perm.refl _
 srt:=LG
 mem:=fun w h=>Nh h
 fin:=rfl
 cnt:=by
  have:=@B3 L (aL [])
  show unr L (aL [])+_<L.length+2
  split<;>omega
 nn:=by simp
 nd:=fH
 sub:=fun f h=>by cases h
 len:=Nb
theorem Z6 {m:Nat} {l:List Wt}:(flb (fun x=>[wtP x]) l).all (fun v=>v.ltB m)=true:=by
 rw[ba]
 intro v hv
 unfold flb at hv
 obtain⟨c,_,rfl⟩:=bj.1 hv
 rfl
def bxR (p:Pol) (W:List Wy) (U:List (Fa×Value)) (now:List Wt) (num:Nat) (z:Nat) (R:Loop) (c:List V):List (List V):=[(poC p).map .c,wM W,uM U,[.mr 2],[.ms 7 0 now.length now.length 1,.gs none none [],i64 (num:Nat)],[i64 z],.lp R flT::c,flb (fun x=>[wtP x]) now]
theorem B4 {p:Pol} {W:List Wy} {U:List (Fa×Value)} {now:List Wt} {num z:Nat} {R:Loop} {m:Me} {ob:Nat→Option Wt} {u:Fa→List Nat} {fl:List (Nat×V)} (h:(fl.all fun p=>p.2.ltB 8)=true):kR fl (bxR p W U now num z R (cells m ob u))=true:=by
 simp only[kR,bxR,aZ,aU,h,bR,cz,y7,Gf,oM,Z6,jd,jX]
 rfl
theorem afe {now:List Wt} {i nb:Nat} {K:V→Prop} (hi:i<now.length) (hb:7<nb) (hK:K (.c (.rp (wtC now[i]) 0))):ldB nb 7 (flb (fun x=>[wtP x]) now) (i*1) K:=by
 unfold ldB
 have e:(flb (fun x=>[wtP x]) now)[i*1]?=some (.c (wtP now[i])):=by
  rw[Nat.mul_one]
  unfold flb
  have:(now.map fun x=>[wtP x]).flatten=now.map wtP:=by
   generalize now=l
   induction l with
   |nil=>rfl
   |cons a l ih=>rw[bA,cU,ih];rfl
  rw[this];simp[hi]
 rw[e]
 exact⟨hb,hK⟩
theorem pw0 {w:Wt} {K:V→Prop}:dC false 1 0 (wtC w) K=K (i64 w.x.rule):=rfl
theorem pw1 {w:Wt} {K:V→Prop}:dC false 1 1 (wtC w) K=K (.c (fsC w.x.pre)):=rfl
theorem pw2 {w:Wt} {K:V→Prop}:dC false 1 2 (wtC w) K=K (.c (fsC w.x.con)):=rfl
theorem aiA {l:List Fa} {K:V→Prop}:hJ Tryz.prog 37 (.c (fsC l)) K=K (i64 l.length):=by
 rw[fsC,jw fk rfl,au]
def aiB:=jj @pw0 (jj @pw1 (jj @pw2 @aiA))
def HdV (m:Me) (u:Fa→List Nat) (f:Fa) (hv:V):Prop:=(∃ blk cap,hv=exV (.slice (some ⟨blk,0,none⟩) (u f).length cap)∧It.us f∈m.its∧m.hd f=.slice (some ⟨blk,0,none⟩) (u f).length cap)∨(hv=.c (.sl [])∧u f=[])
theorem UL {m:Me} {n:Nat} {keys:List Fa} {u:Fa→List Nat} {s:Vl.S} {i:Nat} {f:Fa} {K:V→Prop} (hm:Mw m n keys u) (hb:s.bx i=uM (hds keys m.hd)) (hi:i<s.nb) (h:∀ hv,HdV m u f hv→K hv) :
 fM Tryz.prog 72 s (.mr i) (faV f) false K:=by
 refine ZX hb hi (fun v hv=>h _ ?_) fun mH=>h _ ?_
 ·obtain⟨j,hj⟩:=da.1 hv
  obtain⟨hk,rfl⟩:=Na hj
  obtain⟨blk,cap,e⟩:=hm.hd f hk
  exact .inl ⟨blk,cap,by rw[e],(hm.us f).2 hk,e⟩
 ·rw[M9] at mH
  exact .inr ⟨rfl,hm.ku f mH⟩
section
variable {m:Me} {u:Fa→List Nat} {f:Fa} {hv:V}
theorem HdV.ow (h:HdV m u f hv):hv.isOw=false:=by rcases h with⟨_,_,rfl,_⟩ | ⟨rfl,_⟩<;>rfl
theorem HdV.fz (h:HdV m u f hv):hv.fz=hv:=by rcases h with⟨_,_,rfl,_⟩ | ⟨rfl,_⟩<;>rfl
theorem HdV.lt (h:HdV m u f hv) {k:Nat}:hv.ltB k=true:=by rcases h with⟨_,_,rfl,_⟩ | ⟨rfl,_⟩<;>rfl
theorem HdV.len (h:HdV m u f hv) {K:V→Prop} (hK:K (i64 (u f).length)):hJ Tryz.prog 73 hv K:=by
 rcases h with⟨blk,cap,rfl,_⟩ | ⟨rfl,h0⟩
 ·exact AM nq rfl hK
 ·rw[jw nq rfl]
  rw[h0] at hK;exact hK
end
theorem aiC {s:Vl.S} {b c blk len cap k:Nat} {l:List Nat} {K:V→Prop} (hb:b<s.nb) (hk:(s.bx b)[c]?=some (usG (.slice (some ⟨blk,0,none⟩) len cap) l)) (hl:k<l.length) (hK:K (obV l[k])):wm Tryz.prog s 78 (.c (.ex (.pointer (some ⟨blk,0+k*1,none⟩)))) K:=by
 unfold wm
 rw[vQ]
 refine⟨b,c,len,cap,_,_,_,⟨hb,hk⟩,?_⟩
 have e:(l.map fun b=>[obP b]).flatten=l.map obP:=by
  clear hl hk hK
  induction l with
  |nil=>rfl
  |cons a l ih=>rw[bA,cU,ih];rfl
 have e2:(l.map obP)[0+k*1]?=some (obP l[k]):=by rw[aX,Nat.mul_one];simp[hl]
 unfold dC
 rw[e,e2]
 exact hK
theorem aff {s:Vl.S} {b k blk:Nat} {w:Wt} {z:Int} {K:(Nat→List V)→Prop} (hb:b<s.nb) (hk:(s.bx b)[k]?=some (obG blk w)) (hK:K (up s.bx b ((s.bx b).set k (obG blk ⟨w.x,w.order,z⟩)))):A4 Tryz.prog s 3 (obF blk 4) (i64 z) K:=by
 have e:(i64 z).cs=some [cI z]:=rfl
 unfold A4
 rw[rS,e]
 exact⟨b,k,1,1,_,_,_,⟨hb,hk,rfl,show 4+1≤5 from ab 5⟩,hK⟩
theorem UM {fr:Nat→V} {bx:Nat→List V} {nb:Nat} {t:Tmp} {dO:Option Tmp} {b o i:Nat} {K:Vl.S→Prop} (h:fr t=.mr i):stS 1 (some t) dO b o (.mr i) ⟨fr,bx,nb⟩ K=
 ((b<nb∧o+1≤(bx b).length)∧K ((⟨fr,up bx b (fj (bx b) o [.mr i]),nb⟩:Vl.S).put dO .sk)):=by
 simp[stS,V.bcells,ic,h,V.isOw]
theorem afg {tr:List Nat} {ty:TypeId} {d:Nat} {pos:String} {af:Array Edge} {g:Option (Nat×Bool)} {fr:Nat→V} {bx:Nat→List V} {nb:Nat} {K:S→Prop}:VStep Tryz.prog G tr ⟨some d,.alloc 72,ty,pos,af,g⟩ ⟨fr,bx,nb⟩ K=K ⟨up fr d (.bp nb 0),up bx nb [.c (.lit (.map none))],nb+1⟩:=oL Ik rfl
def B5:=jj @pkA (jj @ptA @gj)
def UN:=jj @pkA (jj @ptA (jj @pkF @gj))
def jz:=jj @pkA @gj
def abz:=jj @pkA (jj @ptA (jj @gj @aiB))
set_option maxHeartbeats 4000000 in
theorem Z7 (p:Pol) (L:List In) (hI:∀ c,LD=some c→FnE Tryz.prog G 64 [.yl 0,.c (.rp (poC p) 0)] (ybS 141 #[26] c.1 c.2 t0) (fun r b1=>∃ t b,(Yw 141 #[26] c.1 c.2).run t0 L t b∧r=.tup []∧b1=ybS 141 #[26] c.1 c.2 t))
 (hl:L.length≤20000) (hs:nG L):FnB Tryz.prog G 28 [.agg (poC p)] [] (.mr 1) [(poC p).map .c,wM (vI L)]:=by
 refine lW (rs:=[.tmp 2]) (k:=0) [1200000,1200001,1300141,2300005,1000059,2300017,1000062,104,2300031,2850036,2890036,2350123,2850037,2890037,2350127,2360130,2850038,2890038,2350134,2300039,1000137] mixed Tryz.func28 rfl rfl rfl rfl (by kernel_rfl) (by simp) rfl rfl rfl rfl (ar _) ?_
 simp only[B5,seval,TC,ad7,afg,UM]
 refine rk rfl ?_
 refine .forget 4 0 (x:=.ow none []) (show 4<6 by decide) rfl rfl ?_
 refine .warm 4 1 (show 4<6 by decide) rfl (.done ?_)
 simp only[UN,seval,S.cell]
 refine aB rfl (Ge p) (fun h=>by cases h) ?_
 simp only[pkA,PQ]
 refine akI (c:=(_,_)) (L:=L) (hI _ rfl) rfl rfl rfl rfl (by simp[ak]) (by simp[ak]) (by simp[ak]) (by simp[ak];rfl) (by simp[ak]) (by simp[];rfl) (by simp[ak]) ?_
 intro bx' R t oE ajD b2 b3 b4 b5 b6
 have b0:bx' 0=(poC p).map .c:=by rw[ajD 0 (by decide)];simp[ak]
 have b1:bx' 1=wM []:=by rw[ajD 1 (by decide)];simp[ak];rfl
 rw[oE] at b2 b4 b5 b6
 have hm:=t.wf
 rw[oE] at hm
 generalize hU:hds (mo (prs L)) t.m.hd=U at b2
 simp only[pkA]
 refine bE (fun s:Rs=>hdS [(3,.mr 1),(4,.bp 3 0),(5,.bp 4 0)] (bxQ p s.W U .un s.nx s.num L.length R (cells t.m (obK L (aL s.W) []) (uP (prs L))))) (fun s=>s.n) (RsI L) ⟨0,L.length+2,[],que L,que L⟩ RsI.init ?_ ?_
 ·refine cD (wO rfl rfl) (ar _) (ab 7) (by simp[FL,ak]) ?_
  rw[Z3] at b6
  exact⟨b0,b1,b2,b3,b4,b5,b6,trivial⟩
 rintro⟨num,n,W,now,nx⟩ ⟨Ae,agv,j8,yz,JQ,hnn,oZ,fc,cg⟩ Q cj cJ eP
 simp only at Ae agv j8 yz JQ hnn oZ fc cg
 have an1:nx.length≤L.length:=by rw[Ae.length_eq];exact cg
 simp only[jz,seval,bxQ]
 refine ml [4,5] rfl (ZS [i64 L.length] num (nx.map fun w=>[wtP w]) (Gg nx) .un (by omega) (by rw[au];omega) rfl rfl rfl) (by simp[V.fz,V.ren,rho]) rfl (by decide) rfl
  ⟨⟨show 4<7 by decide,rfl⟩,⟨show 5<7 by decide,rfl⟩,trivial⟩ ?_
 intro bx1 ko vA
 simp only[pkA,seval,V.ren]
 have h0:bx1 0=(poC p).map .c:=by rw[ko 0 (by decide)];rfl
 have h1:bx1 1=wM W:=by rw[ko 1 (by decide)];rfl
 have h2:bx1 2=uM U:=by rw[ko 2 (by decide)];rfl
 have h3:bx1 3=[.mr 2]:=by rw[ko 3 (by decide)];rfl
 have h4:bx1 4=qB (vH nx) (.ow none []) ((num+1:Nat):Int):=vA 0 4 _ rfl rfl
 have h5:bx1 5=[i64 L.length]:=vA 1 5 _ rfl rfl
 have h6:bx1 6=.lp R flT::cells t.m (obK L (aL W) []) (uP (prs L)):=by rw[ko 6 (by decide)];rfl
 refine aT (fun hy=>?_) (fun hy=>?_)
 ·simp only[jz,seval]
  clear ko vA
  have gW:nx≠[]:=by rintro rfl;simp at hy
  have ub:now≠[]:=by rintro rfl;exact gW (by simpa using Ae)
  have hqv:vH nx=.gs none (some (78,1)) (nx.map fun w=>[wtP w]):=by
   unfold vH Gg
   cases nx with
   |nil=>exact absurd rfl gW
   |cons _ _=>rfl
  rw[hqv] at h4
  refine rk rfl ?_
  refine .warm 4 1 (show 4<7 by decide) (by simp only[h4];rfl) ?_
  refine .box 4 0 (g:=none) (e:=78) (sz:=1) (es:=nx.map fun w=>[wtP w]) (show 4<7 by decide) (by simp[S.cell,h4,qB];rfl) (by simp[S.cell,h4,qB]) (.done ?_)
  have oD:∀ K a b c,ldB 8 4 [V.ms 7 0 a a 1,b,c] 0 K=K (.ms 7 0 a a 1):=fun K a b c=>by unfold ldB;exact propext ⟨fun h=>h.2,fun h=>⟨by decide,h⟩⟩
  have agt:∀ a b c,cy [V.ms 7 0 a a 1,b,c]=false:=fun _ _ _=>rfl
  simp only[B5,seval,S.cell,h4,qB,oD,agt,au]
  refine ml [7] rfl (Uw nx now (by cases nx with | nil=>exact absurd rfl gW | cons _ _=>exact Nat.zero_lt_succ _) (by omega) Ae.symm (agv.imp fun h=>by omega) (fun x hx y hy he=>afb agv (Ae.mem_iff.1 hx) (Ae.mem_iff.1 hy) he) nx.length (ab _)) (by simp[V.fz,V.ren,rho]) rfl (by decide) rfl
   ⟨⟨show 7<8 by decide,by simp only[vl];rfl⟩,trivial⟩ ?_
  intro bx2 ko vA
  have k0:bx2 0=(poC p).map .c:=by rw[ko 0 (by decide)];simp[ak,h0]
  have k1:bx2 1=wM W:=by rw[ko 1 (by decide)];simp[ak,h1]
  have k2:bx2 2=uM U:=by rw[ko 2 (by decide)];simp[ak,h2]
  have k3:bx2 3=[.mr 2]:=by rw[ko 3 (by decide)];simp[ak,h3]
  have k4:bx2 4=[.ms 7 0 nx.length nx.length 1,.gs none none [],i64 (num+1:Nat)]:=by rw[ko 4 (by decide)];simp[ak]
  have k5:bx2 5=[i64 L.length]:=by rw[ko 5 (by decide)];simp[ak,h5]
  have k6:bx2 6=.lp R flT::cells t.m (obK L (aL W) []) (uP (prs L)):=by rw[ko 6 (by decide)];simp[ak,h6]
  have k7:bx2 7=flb (fun x=>[wtP x]) now:=by rw[← vl];exact vA 0 7 _ rfl rfl
  clear ko vA h0 h1 h2 h3 h4 h5 h6
  have tX:nx.length=now.length:=Ae.length_eq
  rw[tX] at k4
  simp only[B5,seval,k4,oD,agt]
  refine bE (fun s:Nat×List Fa=>hdS [(3,.mr 1),(4,.bp 3 0),(5,.bp 4 0),(11,owF s.2),(64,.ms 7 0 now.length now.length 1),(65,i64 now.length),(66,i64 s.1)] (bxR p (iD (num+1:Nat) W (now.take s.1)) U now (num+1) L.length R (cells t.m (obK L (aL W) []) (uP (prs L)))))
   (fun s=>now.length - s.1) (fun s=>s.1≤now.length∧s.2.length≤2*s.1∧aL (iD (num+1:Nat) W (now.take s.1))=aL W++s.2) (0,[]) ⟨ar _,ar _,by simp[iD]⟩ ?_ ?_
  ·refine cD (B4 rfl) (ar _) (ab 8) (by simp[FL,ak,owF]) ?_
   exact⟨k0,k1,k2,k3,k4,k5,k6,k7,trivial⟩
  rintro⟨i,fr3⟩ ⟨hi,hf3,Qn⟩ Q3 agw agx amQ
  simp only at hi hf3 Qn
  simp only[jz,seval,bxR]
  refine aT (fun bK=>?_) (fun gr=>?_)
  ·have bK:i<now.length:=by simpa using bK
   simp only[jz,seval]
   refine F3 nq rfl vQ rfl (by decide) rfl bK ?_
   simp only[B5,seval,iQ]
   refine afe bK (show 7<8 by decide) ?_
   simp only[abz,seval]
   refine bE (fun s:Nat×List Fa=>hdS [(3,.mr 1),(4,.bp 3 0),(5,.bp 4 0),(11,owF s.2),(13,.c (.rp (wtC now[i]) 0)),(64,.ms 7 0 now.length now.length 1),(65,i64 now.length),(66,i64 i),(74,.c (fsC now[i].x.con)),(75,i64 now[i].x.con.length),(76,i64 s.1)]
    (bxR p ((now[i].x.con.take s.1).foldl (k9 (num+1:Nat) now[i].x) (iD (num+1:Nat) W (now.take i))) U now (num+1) L.length R (cells t.m (obK L (aL W) []) (uP (prs L)))))
    (fun s=>now[i].x.con.length - s.1) (fun s=>s.1≤now[i].x.con.length∧s.2.length≤2*i+s.1∧aL ((now[i].x.con.take s.1).foldl (k9 (num+1:Nat) now[i].x) (iD (num+1:Nat) W (now.take i)))=aL W++s.2) (0,fr3) ⟨ar _,hf3,Qn⟩ ?_ ?_
   ·refine cD (B4 rfl) (ar _) (ab 8) (by simp[FL,ak]) ?_
    exact⟨rfl,rfl,rfl,rfl,rfl,rfl,rfl,rfl,trivial⟩
   rintro⟨k,fr4⟩ ⟨hk,hf4,Wn⟩ Q4 Wo agy amR
   simp only at hk hf4 Wn
   have hx2:=(hs _ (j8 _ (bL bK))).2
   generalize hW4:(now[i].x.con.take k).foldl (k9 (num+1:Nat) now[i].x) (iD (num+1:Nat) W (now.take i))=W4 at Wn
   simp only[jz,seval,bxR]
   refine aT (fun Mp=>?_) (fun al4=>?_)
   ·have Mp:k<now[i].x.con.length:=by simpa using Mp
    simp only[jz,seval,fsC]
    refine dR fk rfl eY (by decide) (aA k) (c:=faC now[i].x.con[k]) (by simp[Mp]) rfl ?_
    have r1:∀ a b c:V,fj [a,b,c] 0 ((faC now[i].x.con[k]).map .c)=(faC now[i].x.con[k]).map .c:=fun _ _ _=>rfl
    have r3:∀ nb q (K:V→Prop),ldA nb q ((faC now[i].x.con[k]).map .c) 0 3 K=(q<nb∧K (faV now[i].x.con[k])):=fun nb q K=>by
     unfold ldA
     exact propext ⟨fun h=>⟨h.1,h.2.2⟩,fun h=>⟨h.1,⟨rfl,rfl⟩,h.2⟩⟩
    have r2:cy ((faC now[i].x.con[k]).map V.c)=false:=rfl
    simp only[UN,seval,r1,r2,r3]
    refine yf rfl (show 1<9 by decide) ?_
    have r4:∀ (w:Wy) (a b c d e f:V),fj [a,b,c,d,e,f] 0 ((wyC w).map .c)=(wyC w).map .c:=fun _ _ _ _ _ _ _=>rfl
    simp only[B5,seval,r4]
    have Az:=bG (n:=(k:Int)+1) (k:=k+1) (by omega) (by omega)
    have Dk:((k+1:Nat):Int)=(k:Int)+1:=by omega
    refine⟨rfl,aT (fun qx=>?_) (fun nN=>?_)⟩
    ·have qx:now[i].x.con[k]∉aL W4:=by simpa using qx
     have l1:∀ nb q (K:V→Prop),ldB nb q [V.ms 7 0 now.length now.length 1,V.gs none none [],i64 ((num+1:Nat):Int)] 2 K=(q<nb∧K (i64 ((num+1:Nat):Int))):=fun _ _ _=>rfl
     simp only[abz,seval,r2,r3,agt,l1]
     refine ny (cs:=wyC ⟨now[i].x.con[k],(num+1:Nat),now[i].x.rule,now[i].x.pre⟩) rfl ?_
     simp only[pkA,seval]
     refine Ng (w:=⟨now[i].x.con[k],(num+1:Nat),now[i].x.rule,now[i].x.pre⟩) rfl (show 1<10 by decide) qx ?_
     simp only[B5,seval,r2,r3,iY]
     have r5:jY 3 [(0,faV now[i].x.con[k])] [[C.lit (Value.int IntKind.i64 0),C.lit (Value.int IntKind.i64 0),C.lit (Value.int IntKind.i64 0)]]=some [faC now[i].x.con[k]]:=rfl
     simp only[pkA,seval,r5,cG]
     refine pY (by omega) ?_
     simp only[jz,seval,Az,iY]
     have Dl:(now[i].x.con.take (k+1)).foldl (k9 (num+1:Nat) now[i].x) (iD (num+1:Nat) W (now.take i))=W4++[⟨now[i].x.con[k],(num+1:Nat),now[i].x.rule,now[i].x.pre⟩]:=by
      rw[aC Mp,ew,hW4]
      simp only[br,List.foldl_nil,k9,if_neg qx]
     refine Wo (k+1,fr4++[now[i].x.con[k]]) _ ⟨Mp,by simp only[ai,bF];omega,?_⟩ (by simp only;omega) (cD (B4 rfl) (ar _) (show 8≤10 by decide) (by simp[FL,ak,Dk,fsC]) ?_)
     ·simp only[Dl,nF,Wn]
      rw[aI];rfl
     ·simp only[Dl]
      exact⟨by simp[ak,bxs],by simp[],by simp[ak,bxs],by simp[ak,bxs],by simp[ak,bxs],by simp[ak,bxs],by simp[ak,bxs],by simp[ak,bxs],trivial⟩
    ·have nN:now[i].x.con[k]∈aL W4:=by simpa using nN
     simp only[jz,seval,Az]
     have Dl:(now[i].x.con.take (k+1)).foldl (k9 (num+1:Nat) now[i].x) (iD (num+1:Nat) W (now.take i))=W4:=by
      rw[aC Mp,ew,hW4]
      simp only[br,List.foldl_nil,k9,if_pos nN]
     refine Wo (k+1,fr4) _ ⟨Mp,by simp only;omega,?_⟩ (by simp only;omega) (cD (B4 rfl) (ar _) (show 8≤10 by decide) (by simp[FL,ak,Dk,fsC]) ?_)
     ·simp only[Dl,Wn]
     ·simp only[Dl]
      exact⟨by simp[ak,bxs],by simp[ak,bxs],by simp[ak,bxs],by simp[ak,bxs],by simp[ak,bxs],by simp[ak,bxs],by simp[ak,bxs],by simp[ak,bxs],trivial⟩
   ·have xd:k=now[i].x.con.length:=by simp at al4;omega
    subst xd
    simp only[pkA]
    refine agy _ _ ?_
    have hwi:=bG (n:=(i:Int)+1) (k:=i+1) (by omega) (by omega)
    have EL:((i+1:Nat):Int)=(i:Int)+1:=by omega
    simp only[jz,seval,hwi]
    have Dl:iD (num+1:Nat) W (now.take (i+1))=W4:=by
     rw[aC bK]
     unfold iD at *
     rw[ew,← hW4,bD];rfl
    refine agw (i+1,fr4) _ ⟨bK,by simp only;omega,?_⟩ (by simp only;omega) (cD (B4 rfl) (ar _) (show 8≤8 by decide) (by simp[FL,ak,EL]) ?_)
    ·simp only[Dl,Wn]
    ·simp only[Dl]
     exact⟨rfl,rfl,rfl,rfl,rfl,rfl,rfl,rfl,trivial⟩
  ·have hi0:i=now.length:=by simp at gr;omega
   subst hi0
   rw[bD] at Qn
   simp only[pkA,bD]
   refine agx _ _ ?_
   simp only[jz,seval]
   refine rk rfl ?_
   refine .forget 4 0 (x:=.ms 7 0 now.length now.length 1) (show 4<8 by decide) rfl rfl (.done ?_)
   simp only[B5,seval,nH,au]
   have Wk:(aL W++fr3).Nodup:=by rw[← Qn];exact AY _ _ oZ
   refine bE (fun s:Nat×List Wt=>hdS [(3,.mr 1),(4,.bp 3 0),(5,.bp 4 0),(110,.c (fsC fr3)),(111,i64 fr3.length),(112,i64 s.1)] (bxQ p (iD (num+1:Nat) W now) U .un s.2 (num+1) L.length R (cells t.m (obK L (aL W++fr3.take s.1) []) (uP (prs L)))))
    (fun s=>fr3.length - s.1) (fun s=>s.1≤fr3.length∧NX L (aL W) (aL W++fr3.take s.1) [] s.2) (0,[]) ⟨ar _,by simpa using NX.init⟩ ?_ ?_
   ·refine cD (wO rfl rfl) (ar _) (show 7≤8 by decide) (by simp[FL,ak,fsC]) ?_
    simp only[jv,bq]
    exact⟨rfl,rfl,rfl,rfl,rfl,rfl,rfl,trivial⟩
   rintro⟨a,nx5⟩ ⟨ha,aa9⟩ Q5 agz agA amS
   simp only at ha aa9
   simp only[jz,seval,bxQ]
   refine aT (fun Mq=>?_) (fun al5=>?_)
   ·have Mq:a<fr3.length:=by simpa using Mq
    simp only[jz,seval,fsC]
    refine dR fk rfl eY (by decide) (aA a) (c:=faC fr3[a]) (by simp[Mq]) rfl ?_
    obtain⟨f,hf⟩:∃ f,f=fr3[a]:=⟨_,rfl⟩
    rw[← hf]
    have r1:∀ a b c:V,fj [a,b,c] 0 ((faC f).map .c)=(faC f).map .c:=fun _ _ _=>rfl
    have r3:∀ nb q (K:V→Prop),ldA nb q ((faC f).map .c) 0 3 K=(q<nb∧K (faV f)):=fun nb q K=>by
     unfold ldA
     exact propext ⟨fun h=>⟨h.1,h.2.2⟩,fun h=>⟨h.1,⟨rfl,rfl⟩,h.2⟩⟩
    have r2:cy ((faC f).map V.c)=false:=rfl
    simp only[UN,seval,r1,r2,r3]
    rw[← hU]
    refine UL hm rfl (show 2<8 by decide) (fun hv hH=>?_)
    simp only[jz,seval]
    refine hH.len ?_
    simp only[jz,seval]
    have J1:f∉aL W++fr3.take a:=by
     rw[fU] at Wk
     rw[aV]
     rintro(h | h)
     ·exact Wk.2.2 f h f (by rw[hf];exact bL Mq) rfl
     ·have h2:=Wk.2.1
      rw[ia] at h
      obtain⟨j,hj,h3⟩:=h
      have NG:j<fr3.length:=by omega
      have:j=a:=(List.getElem_inj (h₀:=NG) (h₁:=Mq) h2).1 (by rw[h3,hf])
      omega
    refine bE (fun s:Nat×List Wt=>hdS [(3,.mr 1),(4,.bp 3 0),(5,.bp 4 0),(110,.c (fsC fr3)),(111,i64 fr3.length),(112,i64 a),(118,hv),(119,i64 (uP (prs L) f).length),(120,i64 s.1)]
     (bxQ p (iD (num+1:Nat) W now) U .un s.2 (num+1) L.length R (cells t.m (obK L ((aL W++fr3.take a)++[f]) ((uP (prs L) f).drop s.1)) (uP (prs L)))))
     (fun s=>(uP (prs L) f).length - s.1) (fun s=>s.1≤(uP (prs L) f).length∧NX L (aL W) ((aL W++fr3.take a)++[f]) ((uP (prs L) f).drop s.1) s.2) (0,nx5) ⟨ar _,aa9.start J1⟩ ?_ ?_
    ·refine cD (wO (by simp only[bR,cz,hH.lt];rfl) rfl) (ar _) (show 7≤8 by decide) (by simp[FL,ak,fsC]) ?_
     simp only[cd,PP J1]
     exact⟨by simp[ak,bxs],by simp[ak,bxs],by simp[ak,bxs,hU],by simp[ak,bxs],by simp[ak,bxs],by simp[ak,bxs],by simp[ak,bxs],trivial⟩
    rintro⟨k,nx6⟩ ⟨hk,GB⟩ Q6 Mr agB amT
    simp only at hk GB
    simp only[jz,seval,bxQ]
    refine aT (fun Dp=>?_) (fun al6=>?_)
    ·have Dp:k<(uP (prs L) f).length:=by simpa using Dp
     obtain⟨blk,cap,rfl,gC,hhd⟩:=Or.resolve_right hH (fun h=>by rw[h.2] at Dp;exact absurd Dp (fL _))
     simp only[pkA,seval]
     refine uB ?_
     simp only[jz,seval,dY,dS,nu,na,gw]
     refine K8 (off:=0) (k:=k) nq rfl vQ rfl (by decide) rfl Dp ?_
     obtain⟨D,hD⟩:∃ D,D=(aL W++fr3.take a)++[f]:=⟨_,rfl⟩
     simp only[← hD] at GB Mr ⊢
     obtain⟨c,vB,hc2,hc3⟩:=x7 (m:=t.m) (ob:=obK L D ((uP (prs L) f).drop k)) (u:=uP (prs L)) gC
     have hc4:(cells t.m (obK L D ((uP (prs L) f).drop k)) (uP (prs L)))[c]?=some (usG (.slice (some ⟨blk,0,none⟩) (uP (prs L) f).length cap) ((uP (prs L) f).map t.m.bl)):=by rw[hc3];simp only[rX,hhd]
     simp only[jz,seval,vE,dY,dS,nu,na,gw]
     refine aiC (b:=6) (c:=c+1) (l:=(uP (prs L) f).map t.m.bl) (show 6<7 by decide) hc4 (by rw[au];exact Dp) ?_
     rw[j6]
     have Wl:(uP (prs L) f)[k]∈uP (prs L) f:=bL Dp
     have vZ:(uP (prs L) f).drop k=(uP (prs L) f)[k]::(uP (prs L) f).drop (k+1):=cX Dp
     generalize (uP (prs L) f)[k]=q at Wl vZ
     obtain⟨x,hx,hfx⟩:=afa Wl
     have hmq:mkc D ((uP (prs L) f).drop (k+1)) x q≤2:=by
      refine bN UF ?_
      rw[hD,vr J1 hx]
      exact bN Z4 (hs x (aQ hx)).1
     simp only[jz,seval]
     refine .done ?_
     simp only[pkA,seval]
     refine uB ?_
     simp only[jz,seval,dY,dS,nu,na,gw,vo]
     obtain⟨c',VY,hd2,hd3⟩:=x7 (m:=t.m) (ob:=obK L D ((uP (prs L) f).drop k)) (u:=uP (prs L)) ((hm.ob q).2 (hm.lt f q Wl))
     have hd4:rX t.m (obK L D ((uP (prs L) f).drop k)) (uP (prs L)) (.ob q)=obG (t.m.bl q) ⟨x,(q:Nat),(mkc D ((uP (prs L) f).drop (k+1)) x q+1:Nat)⟩:=by simp only[rX,vZ,ae9 hx]
     rw[hd4] at hd3
     refine Gh ?_
     simp only[jz,seval,vE,dY,dS,nu,na,gw]
     refine LC (b:=6) (k:=c'+1) (show 6<7 by decide) hd3 ?_
     have Wm:=bG (n:=((mkc D ((uP (prs L) f).drop (k+1)) x q+1:Nat):Int) - 1) (k:=mkc D ((uP (prs L) f).drop (k+1)) x q) (by omega) (by omega)
     simp only[jz,seval,vE,dY,dS,nu,na,gw,vo,Wm]
     refine Gh ?_
     simp only[jz,seval,vE,dY,dS,nu,na,gw]
     refine aff (b:=6) (k:=c'+1) (show 6<7 by decide) hd3 ?_
     simp only[pkA]
     refine .done ?_
     have agu:obK L D ((uP (prs L) f).drop (k+1))=upO (obK L D ((uP (prs L) f).drop k)) q (if mkc D ((uP (prs L) f).drop (k+1)) x q=0 then none else some ⟨x,(q:Nat),(mkc D ((uP (prs L) f).drop (k+1)) x q:Nat)⟩):=by
      rw[vZ];exact UE hx
     have Az:=bG (n:=(k:Int)+1) (k:=k+1) (by omega) (by have:=@UC (prs L) f;have:=afc hs;omega)
     have Dk:((k+1:Nat):Int)=(k:Int)+1:=by omega
     have an7:∀ w:V,(cells t.m (obK L D ((uP (prs L) f).drop k)) (uP (prs L))).set c' w=(cells t.m (obK L D ((uP (prs L) f).drop k)) (uP (prs L))).set c' w:=fun _=>rfl
     generalize hM:mkc D ((uP (prs L) f).drop (k+1)) x q=M at hmq Wm agu
     simp only[pkA,seval]
     refine uB ?_
     simp only[jz,seval,dY,dS,nu,na,gw,vo]
     refine Gh ?_
     simp only[jz,seval,vE,dY,dS,nu,na,gw]
     have hc'l:c'<(cells t.m (obK L D ((uP (prs L) f).drop k)) (uP (prs L))).length:=by rw[Ed];exact VY
     refine LC (b:=6) (k:=c'+1) (w:=⟨x,(q:Nat),(M:Nat)⟩) (blk:=t.m.bl q) (show 6<7 by decide) (by simp[hc'l]) ?_
     simp only[pkA,dS]
     refine .done ?_
     refine aT (fun hy6=>?_) (fun hn6=>?_)
     ·have hM0:M=0:=by simpa using hy6
      simp only[jz,seval]
      subst hM0
      refine rk rfl ?_
      refine .frz 6 (c'+1) 21 (t.m.bl q) 1 1 (e:=80) (sz:=5) (cs:=wtC ⟨x,(q:Nat),0⟩) (show 6<7 by decide) (by simp[hc'l];rfl) rfl (.done ?_)
      simp only[jz,seval]
      have mZ:=GB.len
      refine ml [4,5] rfl (M6 (wtP ⟨x,(q:Nat),0⟩) .un [i64 L.length] (num+1:Nat) (nx6.map fun w=>[wtP w]) (Gg nx6) Nc (by simp) (by rw[au];omega) rfl rfl rfl) (by simp[V.fz,V.ren,rho,wtP]) rfl (by decide) rfl
       ⟨⟨show 4<7 by decide,rfl⟩,⟨show 5<7 by decide,rfl⟩,trivial⟩ ?_
      intro bx6 ko vA
      simp only[jz,seval,Az]
      have hrx:rdy (aL W) x=false:=by
       unfold rdy
       rw[← iB,ba]
       intro h
       exact J1 (ee _ (bX (h f hfx)))
      refine Mr (k+1,nx6++[⟨x,(q:Nat),0⟩]) _ ⟨Dp,?_⟩ (by simp only;omega) (cD (wO rfl rfl) (ar _) (show 7≤7 by decide) (by simp[FL,ak,fsC,Dk]) ?_)
      ·rw[vZ] at GB
       exact GB.push hx hrx hM
      ·refine⟨?_,?_,?_,?_,?_,?_,?_,trivial⟩
       ·rw[ko 0 (by decide)];rfl
       ·rw[ko 1 (by decide)];rfl
       ·rw[ko 2 (by decide)];rfl
       ·rw[ko 3 (by decide)];rfl
       ·rw[Ee];exact vA 0 4 _ rfl rfl
       ·exact vA 1 5 _ rfl rfl
       ·rw[ko 6 (by decide),agu,if_pos rfl,← B0 hm hd2 none]
        simp[]
     ·have hM0:M≠0:=by simpa using hn6
      simp only[jz,seval,Az]
      refine Mr (k+1,nx6) _ ⟨Dp,?_⟩ (by simp only;omega) (cD (wO rfl rfl) (ar _) (show 7≤7 by decide) (by simp[FL,ak,fsC,Dk]) ?_)
      ·rw[vZ] at GB
       exact GB.keep hx (by rw[hM];exact hM0)
      ·refine⟨rfl,rfl,rfl,rfl,rfl,rfl,?_,trivial⟩
       rw[agu,if_neg hM0,← B0 hm hd2 (some _)]
       simp[]
    ·have xd:k=(uP (prs L) f).length:=by simp at al6;omega
     subst xd
     have hwa:=bG (n:=(a:Int)+1) (k:=a+1) (by omega) (by omega)
     have ha1:((a+1:Nat):Int)=(a:Int)+1:=by omega
     simp only[pkA]
     refine agB _ _ ?_
     simp only[jz,seval,hwa]
     have hDa:aL W++fr3.take (a+1)=(aL W++fr3.take a)++[f]:=by rw[aC Mq,← hf,aI]
     rw[eo] at GB
     refine agz (a+1,nx6) _ ⟨Mq,by simp only[hDa];exact GB⟩ (by simp only;omega) (cD (wO rfl rfl) (ar _) (show 7≤7 by decide) (by simp[FL,ak,ha1]) ?_)
     simp only[hDa,eo]
     exact⟨rfl,rfl,rfl,rfl,rfl,rfl,rfl,trivial⟩
   ·have ha0:a=fr3.length:=by simp at al5;omega
    subst ha0
    simp only[pkA]
    refine agA _ _ ?_
    simp only[pkA,seval]
    rw[bD,← Qn] at aa9
    simp only[bD,← Qn]
    have Qm:((num+1:Nat):Int)=(num:Int)+1:=by omega
    rw[if_neg ub] at JQ
    obtain⟨n,rfl⟩:∃ n',n=n'+1:=⟨n - 1,by omega⟩
    have ajC:∀ g∈aL W,g∈aL (iD (num+1:Nat) W now):=fun g hg=>(lQ _ _).2 (.inl hg)
    have jI:=yd (L:=L) ajC
    have hul:=@B3 L (aL W)
    refine cj ⟨num+1,n,iD (num+1:Nat) W now,sU L (aL W) (aL (iD (num+1:Nat) W now)),nx5⟩ _ ⟨aa9.done,zN,fun w hw=>?_,?_,?_,by simp only;omega,AY _ _ oZ,fun g hg=>?_,by simp only;omega⟩ (bQ n) (cD (wO rfl rfl) (ar _) (show 7≤7 by decide) (by simp[FL,ak]) ?_)
    ·obtain⟨i,x,h1,rfl,_⟩:=uG.1 hw
     exact aQ h1
    ·simp only[pX] at yz
     rw[if_neg ub] at yz
     simp only[Qm]
     exact yz
    ·show unr L (aL (iD (num+1:Nat) W now))+(if sU L (aL W) (aL (iD (num+1:Nat) W now))=[] then 0 else 1)<n
     split
     ·rename_i h;rw[h] at jI;simp only[aU] at jI;omega
     ·rename_i h
      have:0<(sU L (aL W) (aL (iD (num+1:Nat) W now))).length:=fx.2 h
      omega
    ·rcases(lQ _ _).1 hg with h | ⟨w,hw,h⟩
     ·exact fc g h
     ·exact iw.2 ⟨w.x,j8 w hw,h⟩
    ·exact⟨rfl,rfl,rfl,rfl,rfl,rfl,rfl,trivial⟩
 ·have NS:nx=[]:=by simpa using hy
  subst NS
  have ub:now=[]:=by simpa using Ae.symm
  subst ub
  have hW:W=vI L:=by
   rw[← yz]
   cases n with
   |zero=>rfl
   |succ n=>simp[pX]
  simp only[pkA,seval]
  refine cJ _ _ ?_
  simp only[jz,seval]
  refine tJ [(2,.mr 1)] rfl ?_ (ar _) (show 2≤7 by decide) ⟨by simp[],trivial⟩ ⟨h0,by rw[← hW];exact h1,trivial⟩ rfl
  simp only[kR,bR,cz,oM,aZ,aU];rfl
theorem Gi (p:Pol) (hp:p.types.length≤9223372036854775806) (hr:p.rules.length≤9223372036854775806) (hl:(gp p none).length≤20000) (hs:nG (gp p none)) :
 FnB Tryz.prog G 28 [.agg (poC p)] [] (.mr 1) [(poC p).map .c,wM (vI (gp p none))]:=
 Z7 p _ (fun _ hc=>aiz hc hp hr hl hs) hl hs
