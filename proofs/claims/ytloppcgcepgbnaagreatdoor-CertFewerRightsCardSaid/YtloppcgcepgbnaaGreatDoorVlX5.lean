/- Layer 18: saturated. -/
import Derived.Test.YtloppcgcepgbnaaGreatDoorVlX4
import Derived.Test.YtloppcgcepgbnaaGreatDoorVlE0
set_option linter.all false
namespace Go.Proofs.YtloppcgcepgbnaaGreatDoor
open Go Go.Vl
variable {G:Gl}
set_option maxRecDepth 4000
def wyC (w:Wy):List C:=faC w.fact++[cI w.round,cI w.rule,fsC w.pre]
def wyV (w:Wy):V:=.agg (wyC w)
def wM (W:List Wy):List V:=qe faV wyV (W.map fun w=>(w.fact,w))
theorem CJ {ρ:Nat→Nat} {W:List Wy}:(wM W).map (V.ren ρ)=wM W:=JF (fun _=>rfl) fun _=>rfl
theorem wS {k:Nat} {W:List Wy}:(wM W).all (fun x=>x.ltB k)=true:=JG (fun _=>rfl) fun _=>rfl
def zwy:Wy:=⟨⟨0,0,0⟩,0,0,[]⟩
def afY (W:List Wy) (f:Fa):Wy:=(JE (W.map fun w=>(w.fact,w)) f).getD zwy
theorem TD {W:List Wy} {f:Fa}:(JE (W.map fun w=>(w.fact,w)) f).isSome=decide (f∈cm W):=by
 rw[W3,fu];rfl
theorem Y0 {s:Vl.S} {i:Nat} {W:List Wy} {f:Fa} {K:V→Prop} (hb:s.bx i=wM W) (hi:i<s.nb) (hK:K (.tup [.agg (wyC (afY W f)),bo (decide (f∈cm W))])):fF Tryz.prog 116 s (.mr i) (faV f) true K:=by
 refine Ss (h:=wyV) (z:=.agg (wyC zwy)) (c:=faC) B7 rfl eV rfl pO rfl afM (fun _=>rfl) (fun _=>rfl) Cd hb hi ?_
 rw[TD]
 unfold afY at hK
 cases hg:JE (W.map fun w=>(w.fact,w)) f with
 |none=>rw[hg] at hK;exact hK
 |some w=>rw[hg] at hK;exact hK
theorem Y1 {W:List Wy} {w:Wy} (h:w.fact∉cm W):aci (W.map fun w=>(w.fact,w)) w.fact w=(W++[w]).map fun w=>(w.fact,w):=by
 unfold aci
 cases hj:wF (W.map fun w=>(w.fact,w)) w.fact with
 |none=>simp
 |some j=>
  obtain⟨b,hb⟩:=pw hj
  rw[ba,aU] at hb
  obtain⟨a,h1,h2⟩:=hb
  simp only[dC] at h2
  exact absurd (bA.2 ⟨a,aT h1,h2.1⟩) h
theorem ael {s:Vl.S} {i:Nat} {W:List Wy} {w:Wy} {K:Vl.S→Prop} (hb:s.bx i=wM W) (hi:i<s.nb) (hn:w.fact∉cm W) (hK:K { s with bx:=up s.bx i (wM (W++[w])) }):gV Tryz.prog 116 s (.mr i) (faV w.fact) (.agg (wyC w)) K:=by
 refine W5 (h:=wyV) (z:=.agg (wyC zwy)) (c:=faC) (b:=w) B7 rfl eV rfl pO rfl afM (fun _=>rfl) (fun _=>rfl) Cd rfl rfl hb hi ?_
 rw[Y1 hn];exact hK
def bxQ (p:Pol) (W:List Wy) (U:List (Fa×Value)) (now:V) (nx:List Wt) (num:Nat) (z:Nat) (R:Loop) (c:List V):List (List V):=[(poC p).map .c,wM W,uM U,[.mr 2],qB now (vz nx) (num:Nat),[i64 z],.lp R flT::c]
theorem wT {p:Pol} {W:List Wy} {U:List (Fa×Value)} {now:V} {nx:List Wt} {num z:Nat} {R:Loop} {m:Me} {ob:Nat→Option Wt} {u:Fa→List Nat} {fl:List (Nat×V)} (h:(fl.all fun p=>p.2.ltB 7)=true) (hn:now.ltB 7=true):jq fl (bxQ p W U now nx num z R (cells m ob u))=true:=by
 simp only[jq,bxQ,qB,aA,aB,h,hn,bh,bG,y4,Ho,wS,Bool.and_true,j5]
 rfl
structure Rs where
 num:Nat
 n:Nat
 W:List Wy
 now:List Wt
 nx:List Wt
structure RsI (L:List In) (s:Rs):Prop where
 perm:s.nx.Perm s.now
 srt:s.now.Pairwise fun a b=>a.order<b.order
 mem:∀ w∈s.now,w.x∈L
 fin:y6 L s.n ((s.num:Int)+1) s.now s.W=yj L
 cnt:unr L (cm s.W)+(if s.now=[] then 0 else 1)<s.n
 nn:s.num+s.n=L.length+2
 nd:(cm s.W).Nodup
 sub:∀ f∈cm s.W,f∈L.flatMap In.con
 len:s.now.length≤L.length
theorem PT {L:List In} {w:Wt} (h:w∈que L):w.x∈L:=by
 unfold que at h
 obtain⟨q,hq,rfl⟩:=bA.1 h
 have:=(gb.1 hq).1
 exact List.fst_mem_of_mem_zipIdx this
theorem RsI.init {L:List In}:RsI L ⟨0,L.length+2,[],que L,que L⟩ where
 perm:=List.Perm.refl _
 srt:=Of
 mem:=fun w h=>PT h
 fin:=rfl
 cnt:=by
  have:=@Og L (cm [])
  show unr L (cm [])+_<L.length+2
  split<;>omega
 nn:=by simp
 nd:=gy
 sub:=fun f h=>by cases h
 len:=PO
theorem aem {m:Nat} {l:List Wt}:(flb (fun x=>[wtP x]) l).all (fun v=>v.ltB m)=true:=by
 rw[aV]
 intro v hv
 unfold flb at hv
 obtain⟨c,_,rfl⟩:=bA.1 hv
 rfl
def bxR (p:Pol) (W:List Wy) (U:List (Fa×Value)) (now:List Wt) (num:Nat) (z:Nat) (R:Loop) (c:List V):List (List V):=[(poC p).map .c,wM W,uM U,[.mr 2],[.ms 7 0 now.length now.length 1,.gs none none [],i64 (num:Nat)],[i64 z],.lp R flT::c,flb (fun x=>[wtP x]) now]
theorem CL {p:Pol} {W:List Wy} {U:List (Fa×Value)} {now:List Wt} {num z:Nat} {R:Loop} {m:Me} {ob:Nat→Option Wt} {u:Fa→List Nat} {fl:List (Nat×V)} (h:(fl.all fun p=>p.2.ltB 8)=true):jq fl (bxR p W U now num z R (cells m ob u))=true:=by
 simp only[jq,bxR,aA,aB,h,bh,bG,y4,Ho,wS,aem,Bool.and_true,j5]
 rfl
theorem ajp {now:List Wt} {i nb:Nat} {K:V→Prop} (hi:i<now.length) (hb:7<nb) (hK:K (.c (.rp (wtC now[i]) 0))):ldB nb 7 (flb (fun x=>[wtP x]) now) (i*1) K:=by
 unfold ldB
 have e:(flb (fun x=>[wtP x]) now)[i*1]?=some (.c (wtP now[i])):=by
  rw[Nat.mul_one]
  unfold flb
  have:(now.map fun x=>[wtP x]).flatten=now.map wtP:=by
   generalize now=l
   induction l with
   |nil=>rfl
   |cons a l ih=>rw[br,cu,ih];rfl
  rw[this];simp[hi]
 rw[e]
 exact⟨hb,hK⟩
theorem pw0 {w:Wt} {K:V→Prop}:cJ false 1 0 (wtC w) K=K (i64 w.x.rule):=rfl
theorem pw1 {w:Wt} {K:V→Prop}:cJ false 1 1 (wtC w) K=K (.c (fsC w.x.pre)):=rfl
theorem pw2 {w:Wt} {K:V→Prop}:cJ false 1 2 (wtC w) K=K (.c (fsC w.x.con)):=rfl
theorem ams {l:List Fa} {K:V→Prop}:fw Tryz.prog 28 (.c (fsC l)) K=K (i64 l.length):=by
 rw[fsC,ff eO rfl,ak]
def amt:=jj @pw0 (jj @pw1 (jj @pw2 @ams))
def HdV (m:Me) (u:Fa→List Nat) (f:Fa) (hv:V):Prop:=(∃ blk cap,hv=exV (.slice (some ⟨blk,0,none⟩) (u f).length cap)∧It.us f∈m.its∧m.hd f=.slice (some ⟨blk,0,none⟩) (u f).length cap)∨(hv=.c (.sl [])∧u f=[])
theorem Y2 {m:Me} {n:Nat} {keys:List Fa} {u:Fa→List Nat} {s:Vl.S} {i:Nat} {f:Fa} {K:V→Prop} (hm:Mw m n keys u) (hb:s.bx i=uM (hds keys m.hd)) (hi:i<s.nb) (h:∀ hv,HdV m u f hv→K hv) :
 fF Tryz.prog 152 s (.mr i) (faV f) false K:=by
 refine aec hb hi (fun v hv=>h _ ?_) fun fS=>h _ ?_
 ·obtain⟨j,hj⟩:=eA.1 hv
  obtain⟨hk,rfl⟩:=PN hj
  obtain⟨blk,cap,e⟩:=hm.hd f hk
  exact .inl ⟨blk,cap,by rw[e],(hm.us f).2 hk,e⟩
 ·rw[PM] at fS
  exact .inr ⟨rfl,hm.ku f fS⟩
section
variable {m:Me} {u:Fa→List Nat} {f:Fa} {hv:V}
theorem HdV.ow (h:HdV m u f hv):hv.isOw=false:=by rcases h with⟨_,_,rfl,_⟩ | ⟨rfl,_⟩<;>rfl
theorem HdV.fz (h:HdV m u f hv):hv.fz=hv:=by rcases h with⟨_,_,rfl,_⟩ | ⟨rfl,_⟩<;>rfl
theorem HdV.lt (h:HdV m u f hv) {k:Nat}:hv.ltB k=true:=by rcases h with⟨_,_,rfl,_⟩ | ⟨rfl,_⟩<;>rfl
theorem HdV.len (h:HdV m u f hv) {K:V→Prop} (hK:K (i64 (u f).length)):fw Tryz.prog 153 hv K:=by
 rcases h with⟨blk,cap,rfl,_⟩ | ⟨rfl,h0⟩
 ·exact G1 lh rfl hK
 ·rw[ff lh rfl]
  rw[h0] at hK;exact hK
end
theorem amu {s:Vl.S} {b c blk len cap k:Nat} {l:List Nat} {K:V→Prop} (hb:b<s.nb) (hk:(s.bx b)[c]?=some (usG (.slice (some ⟨blk,0,none⟩) len cap) l)) (hl:k<l.length) (hK:K (obV l[k])):wa Tryz.prog s 156 (.c (.ex (.pointer (some ⟨blk,0+k*1,none⟩)))) K:=by
 unfold wa
 rw[qR]
 refine⟨b,c,len,cap,_,_,_,⟨hb,hk⟩,?_⟩
 have e:(l.map fun b=>[obP b]).flatten=l.map obP:=by
  clear hl hk hK
  induction l with
  |nil=>rfl
  |cons a l ih=>rw[br,cu,ih];rfl
 have e2:(l.map obP)[0+k*1]?=some (obP l[k]):=by rw[aK,Nat.mul_one];simp[hl]
 unfold cJ
 rw[e,e2]
 exact hK
theorem ajq {s:Vl.S} {b k blk:Nat} {w:Wt} {z:Int} {K:(Nat→List V)→Prop} (hb:b<s.nb) (hk:(s.bx b)[k]?=some (obG blk w)) (hK:K (up s.bx b ((s.bx b).set k (obG blk ⟨w.x,w.order,z⟩)))):A9 Tryz.prog s 3 (obF blk 4) (i64 z) K:=by
 have e:(i64 z).cs=some [cI z]:=rfl
 unfold A9
 rw[pe,e]
 exact⟨b,k,1,1,_,_,_,⟨hb,hk,rfl,show 4+1≤5 from ar 5⟩,hK⟩
theorem ajr {fr:Nat→V} {bx:Nat→List V} {nb:Nat} {t:Tmp} {dO:Option Tmp} {b o i:Nat} {K:Vl.S→Prop} (h:fr t=.mr i):stS 1 (some t) dO b o (.mr i) ⟨fr,bx,nb⟩ K=
 ((b<nb∧o+1≤(bx b).length)∧K ((⟨fr,up bx b (eS (bx b) o [.mr i]),nb⟩:Vl.S).put dO .sk)):=by
 simp[stS,V.bcells,iE,h,V.isOw]
theorem ajs {tr:List Nat} {ty:TypeId} {d:Nat} {pos:String} {af:Array Edge} {g:Option (Nat×Bool)} {fr:Nat→V} {bx:Nat→List V} {nb:Nat} {K:S→Prop}:VStep Tryz.prog G tr ⟨some d,.alloc 152,ty,pos,af,g⟩ ⟨fr,bx,nb⟩ K=K ⟨up fr d (.bp nb 0),up bx nb [.c (.lit (.map none))],nb+1⟩:=lA B9 rfl
def CM:=jj @pkA (jj @ptA @y5)
def Y3:=jj @pkA (jj @ptA (jj @pkF @y5))
def jF:=jj @pkA @y5
def afZ:=jj @pkA (jj @ptA (jj @y5 @amt))
set_option maxHeartbeats 4000000 in
theorem aen (p:Pol) (L:List In) (hI:∀ c,Ob=some c→FnE Tryz.prog G 70 [.yl 0,.c (.rp (poC p) 0)] (ybS 141 #[26] c.1 c.2 t0) (fun r b1=>∃ t b,(Yw 141 #[26] c.1 c.2).run t0 L t b∧r=.tup []∧b1=ybS 141 #[26] c.1 c.2 t))
 (hl:L.length≤20000) (hs:lE L):FnB Tryz.prog G 90 [.agg (poC p)] [] (.mr 1) [(poC p).map .c,wM (yj L)]:=by
 refine mc (rs:=[.tmp 2]) (k:=0) [1200000,1200001,1300141,2300005,1000059,2300017,1000062,104,2300031,2850036,2890036,2350123,2850037,2890037,2350127,2360130,2850038,2890038,2350134,2300039,1000137] mixed Tryz.func90 rfl rfl rfl rfl (by kernel_rfl) (by simp) rfl rfl rfl rfl (au _) ?_
 simp only[CM,seval,ade,adq,ajs,ajr]
 refine qM rfl ?_
 refine .forget 4 0 (x:=.ow none []) (show 4<6 by decide) rfl rfl ?_
 refine .warm 4 1 (show 4<6 by decide) rfl (.done ?_)
 simp only[Y3,seval,S.cell]
 refine aN rfl (yd p) (fun h=>by cases h) ?_
 simp only[pkA,E3]
 refine aoO (c:=(_,_)) (L:=L) (hI _ rfl) rfl rfl rfl rfl (by simp[ao]) (by simp[ao]) (by simp[ao]) (by simp[ao];rfl) (by simp[ao]) (by simp[];rfl) (by simp[ao]) ?_
 intro bx' R t qX anT b2 b3 b4 b5 b6
 have b0:bx' 0=(poC p).map .c:=by rw[anT 0 (by decide)];simp[ao]
 have b1:bx' 1=wM []:=by rw[anT 1 (by decide)];simp[ao];rfl
 rw[qX] at b2 b4 b5 b6
 have hm:=t.wf
 rw[qX] at hm
 generalize hU:hds (mF (prs L)) t.m.hd=U at b2
 simp only[pkA]
 refine cx (fun s:Rs=>hdS [(3,.mr 1),(4,.bp 3 0),(5,.bp 4 0)] (bxQ p s.W U .un s.nx s.num L.length R (cells t.m (obK L (cm s.W) []) (uP (prs L))))) (fun s=>s.n) (RsI L) ⟨0,L.length+2,[],que L,que L⟩ RsI.init ?_ ?_
 ·refine cL (wT rfl rfl) (au _) (ar 7) (by simp[FL,ao]) ?_
  rw[aei] at b6
  exact⟨b0,b1,b2,b3,b4,b5,b6,trivial⟩
 rintro⟨num,n,W,now,nx⟩ ⟨Ag,akw,jE,vH,afy,hnn,oV,fJ,cn⟩ Q cE cC dV
 simp only at Ag akw jE vH afy hnn oV fJ cn
 have ase:nx.length≤L.length:=by rw[Ag.length_eq];exact cn
 simp only[jF,seval,bxQ]
 refine ko [4,5] rfl (ad8 [i64 L.length] num (nx.map fun w=>[wtP w]) (Hr nx) .un (by omega) (by rw[ak];omega) rfl rfl rfl) (by simp[V.fz,V.ren,rho]) rfl (by decide) rfl
  ⟨⟨show 4<7 by decide,rfl⟩,⟨show 5<7 by decide,rfl⟩,trivial⟩ ?_
 intro bx1 iH qc
 simp only[pkA,seval,V.ren]
 have h0:bx1 0=(poC p).map .c:=by rw[iH 0 (by decide)];rfl
 have h1:bx1 1=wM W:=by rw[iH 1 (by decide)];rfl
 have h2:bx1 2=uM U:=by rw[iH 2 (by decide)];rfl
 have h3:bx1 3=[.mr 2]:=by rw[iH 3 (by decide)];rfl
 have h4:bx1 4=qB (vz nx) (.ow none []) ((num+1:Nat):Int):=qc 0 4 _ rfl rfl
 have h5:bx1 5=[i64 L.length]:=qc 1 5 _ rfl rfl
 have h6:bx1 6=.lp R flT::cells t.m (obK L (cm W) []) (uP (prs L)):=by rw[iH 6 (by decide)];rfl
 refine aS (fun hy=>?_) (fun hy=>?_)
 ·simp only[jF,seval]
  clear iH qc
  have gK:nx≠[]:=by rintro rfl;simp at hy
  have AK:now≠[]:=by rintro rfl;exact gK (by simpa using Ag)
  have hqv:vz nx=.gs none (some (156,1)) (nx.map fun w=>[wtP w]):=by
   unfold vz Hr
   cases nx with
   |nil=>exact absurd rfl gK
   |cons _ _=>rfl
  rw[hqv] at h4
  refine qM rfl ?_
  refine .warm 4 1 (show 4<7 by decide) (by simp only[h4];rfl) ?_
  refine .box 4 0 (g:=none) (e:=156) (sz:=1) (es:=nx.map fun w=>[wtP w]) (show 4<7 by decide) (by simp[S.cell,h4,qB];rfl) (by simp[S.cell,h4,qB]) (.done ?_)
  have Qo:∀ K a b c,ldB 8 4 [V.ms 7 0 a a 1,b,c] 0 K=K (.ms 7 0 a a 1):=fun K a b c=>by unfold ldB;exact propext ⟨fun h=>h.2,fun h=>⟨by decide,h⟩⟩
  have akt:∀ a b c,bY [V.ms 7 0 a a 1,b,c]=false:=fun _ _ _=>rfl
  simp only[CM,seval,S.cell,h4,qB,Qo,akt,ak]
  refine ko [7] rfl (YO nx now (by cases nx with | nil=>exact absurd rfl gK | cons _ _=>exact Nat.zero_lt_succ _) (by omega) Ag.symm (akw.imp fun h=>by omega) (fun x hx y hy he=>ajn akw (Ag.mem_iff.1 hx) (Ag.mem_iff.1 hy) he) nx.length (ar _)) (by simp[V.fz,V.ren,rho]) rfl (by decide) rfl
   ⟨⟨show 7<8 by decide,by simp only[uY];rfl⟩,trivial⟩ ?_
  intro bx2 iH qc
  have k0:bx2 0=(poC p).map .c:=by rw[iH 0 (by decide)];simp[ao,h0]
  have k1:bx2 1=wM W:=by rw[iH 1 (by decide)];simp[ao,h1]
  have k2:bx2 2=uM U:=by rw[iH 2 (by decide)];simp[ao,h2]
  have k3:bx2 3=[.mr 2]:=by rw[iH 3 (by decide)];simp[ao,h3]
  have k4:bx2 4=[.ms 7 0 nx.length nx.length 1,.gs none none [],i64 (num+1:Nat)]:=by rw[iH 4 (by decide)];simp[ao]
  have k5:bx2 5=[i64 L.length]:=by rw[iH 5 (by decide)];simp[ao,h5]
  have k6:bx2 6=.lp R flT::cells t.m (obK L (cm W) []) (uP (prs L)):=by rw[iH 6 (by decide)];simp[ao,h6]
  have k7:bx2 7=flb (fun x=>[wtP x]) now:=by rw[← uY];exact qc 0 7 _ rfl rfl
  clear iH qc h0 h1 h2 h3 h4 h5 h6
  have uG:nx.length=now.length:=Ag.length_eq
  rw[uG] at k4
  simp only[CM,seval,k4,Qo,akt]
  refine cx (fun s:Nat×List Fa=>hdS [(3,.mr 1),(4,.bp 3 0),(5,.bp 4 0),(11,owF s.2),(64,.ms 7 0 now.length now.length 1),(65,i64 now.length),(66,i64 s.1)] (bxR p (lg (num+1:Nat) W (now.take s.1)) U now (num+1) L.length R (cells t.m (obK L (cm W) []) (uP (prs L)))))
   (fun s=>now.length - s.1) (fun s=>s.1≤now.length∧s.2.length≤2*s.1∧cm (lg (num+1:Nat) W (now.take s.1))=cm W++s.2) (0,[]) ⟨au _,au _,by simp[lg]⟩ ?_ ?_
  ·refine cL (CL rfl) (au _) (ar 8) (by simp[FL,ao,owF]) ?_
   exact⟨k0,k1,k2,k3,k4,k5,k6,k7,trivial⟩
  rintro⟨i,fr3⟩ ⟨hi,hf3,Ur⟩ Q3 akx aky aqP
  simp only at hi hf3 Ur
  simp only[jF,seval,bxR]
  refine aS (fun bV=>?_) (fun jA=>?_)
  ·have bV:i<now.length:=by simpa using bV
   simp only[jF,seval]
   refine yV lh rfl qR rfl (by decide) rfl bV ?_
   simp only[CM,seval,gw]
   refine ajp bV (show 7<8 by decide) ?_
   simp only[afZ,seval]
   refine cx (fun s:Nat×List Fa=>hdS [(3,.mr 1),(4,.bp 3 0),(5,.bp 4 0),(11,owF s.2),(13,.c (.rp (wtC now[i]) 0)),(64,.ms 7 0 now.length now.length 1),(65,i64 now.length),(66,i64 i),(74,.c (fsC now[i].x.con)),(75,i64 now[i].x.con.length),(76,i64 s.1)]
    (bxR p ((now[i].x.con.take s.1).foldl (tj (num+1:Nat) now[i].x) (lg (num+1:Nat) W (now.take i))) U now (num+1) L.length R (cells t.m (obK L (cm W) []) (uP (prs L)))))
    (fun s=>now[i].x.con.length - s.1) (fun s=>s.1≤now[i].x.con.length∧s.2.length≤2*i+s.1∧cm ((now[i].x.con.take s.1).foldl (tj (num+1:Nat) now[i].x) (lg (num+1:Nat) W (now.take i)))=cm W++s.2) (0,fr3) ⟨au _,hf3,Ur⟩ ?_ ?_
   ·refine cL (CL rfl) (au _) (ar 8) (by simp[FL,ao]) ?_
    exact⟨rfl,rfl,rfl,rfl,rfl,rfl,rfl,rfl,trivial⟩
   rintro⟨k,fr4⟩ ⟨hk,hf4,aat⟩ Q4 aau akz aqQ
   simp only at hk hf4 aat
   have Ud:=(hs _ (jE _ (bM bV))).2
   generalize hW4:(now[i].x.con.take k).foldl (tj (num+1:Nat) now[i].x) (lg (num+1:Nat) W (now.take i))=W4 at aat
   simp only[jF,seval,bxR]
   refine aS (fun ON=>?_) (fun aqb=>?_)
   ·have ON:k<now[i].x.con.length:=by simpa using ON
    simp only[jF,seval,fsC]
    refine fE eO rfl eV (by decide) (aJ k) (c:=faC now[i].x.con[k]) (by simp[ON]) rfl ?_
    have r1:∀ a b c:V,eS [a,b,c] 0 ((faC now[i].x.con[k]).map .c)=(faC now[i].x.con[k]).map .c:=fun _ _ _=>rfl
    have r3:∀ nb q (K:V→Prop),ldA nb q ((faC now[i].x.con[k]).map .c) 0 3 K=(q<nb∧K (faV now[i].x.con[k])):=fun nb q K=>by
     unfold ldA
     exact propext ⟨fun h=>⟨h.1,h.2.2⟩,fun h=>⟨h.1,⟨rfl,rfl⟩,h.2⟩⟩
    have r2:bY ((faC now[i].x.con[k]).map V.c)=false:=rfl
    simp only[Y3,seval,r1,r2,r3]
    refine Y0 rfl (show 1<9 by decide) ?_
    have r4:∀ (w:Wy) (a b c d e f:V),eS [a,b,c,d,e,f] 0 ((wyC w).map .c)=(wyC w).map .c:=fun _ _ _ _ _ _ _=>rfl
    simp only[CM,seval,r4]
    have OK:=cd (n:=(k:Int)+1) (k:=k+1) (by omega) (by omega)
    have Dc:((k+1:Nat):Int)=(k:Int)+1:=by omega
    refine⟨rfl,aS (fun vI=>?_) (fun vE=>?_)⟩
    ·have vI:now[i].x.con[k]∉cm W4:=by simpa using vI
     have l1:∀ nb q (K:V→Prop),ldB nb q [V.ms 7 0 now.length now.length 1,V.gs none none [],i64 ((num+1:Nat):Int)] 2 K=(q<nb∧K (i64 ((num+1:Nat):Int))):=fun _ _ _=>rfl
     simp only[afZ,seval,r2,r3,akt,l1]
     refine me (cs:=wyC ⟨now[i].x.con[k],(num+1:Nat),now[i].x.rule,now[i].x.pre⟩) rfl ?_
     simp only[pkA,seval]
     refine ael (w:=⟨now[i].x.con[k],(num+1:Nat),now[i].x.rule,now[i].x.pre⟩) rfl (show 1<10 by decide) vI ?_
     simp only[CM,seval,r2,r3,lj]
     have r5:lW 3 [(0,faV now[i].x.con[k])] [[C.lit (Value.int IntKind.i64 0),C.lit (Value.int IntKind.i64 0),C.lit (Value.int IntKind.i64 0)]]=some [faC now[i].x.con[k]]:=rfl
     simp only[pkA,seval,r5,fh]
     refine EV (by omega) ?_
     simp only[jF,seval,OK,lj]
     have D3:(now[i].x.con.take (k+1)).foldl (tj (num+1:Nat) now[i].x) (lg (num+1:Nat) W (now.take i))=W4++[⟨now[i].x.con[k],(num+1:Nat),now[i].x.rule,now[i].x.pre⟩]:=by
      rw[bg ON,jU,hW4]
      simp only[dH,List.foldl_nil,tj,if_neg vI]
     refine aau (k+1,fr4++[now[i].x.con[k]]) _ ⟨ON,by simp only[aj,bN];omega,?_⟩ (by simp only;omega) (cL (CL rfl) (au _) (show 8≤10 by decide) (by simp[FL,ao,Dc,fsC]) ?_)
     ·simp only[D3,E0,aat]
      rw[bw];rfl
     ·simp only[D3]
      exact⟨by simp[ao,bxs],by simp[],by simp[ao,bxs],by simp[ao,bxs],by simp[ao,bxs],by simp[ao,bxs],by simp[ao,bxs],by simp[ao,bxs],trivial⟩
    ·have vE:now[i].x.con[k]∈cm W4:=by simpa using vE
     simp only[jF,seval,OK]
     have D3:(now[i].x.con.take (k+1)).foldl (tj (num+1:Nat) now[i].x) (lg (num+1:Nat) W (now.take i))=W4:=by
      rw[bg ON,jU,hW4]
      simp only[dH,List.foldl_nil,tj,if_pos vE]
     refine aau (k+1,fr4) _ ⟨ON,by simp only;omega,?_⟩ (by simp only;omega) (cL (CL rfl) (au _) (show 8≤10 by decide) (by simp[FL,ao,Dc,fsC]) ?_)
     ·simp only[D3,aat]
     ·simp only[D3]
      exact⟨by simp[ao,bxs],by simp[ao,bxs],by simp[ao,bxs],by simp[ao,bxs],by simp[ao,bxs],by simp[ao,bxs],by simp[ao,bxs],by simp[ao,bxs],trivial⟩
   ·have xg:k=now[i].x.con.length:=by simp at aqb;omega
    subst xg
    simp only[pkA]
    refine akz _ _ ?_
    have hwi:=cd (n:=(i:Int)+1) (k:=i+1) (by omega) (by omega)
    have FC:((i+1:Nat):Int)=(i:Int)+1:=by omega
    simp only[jF,seval,hwi]
    have D3:lg (num+1:Nat) W (now.take (i+1))=W4:=by
     rw[bg bV]
     unfold lg at *
     rw[jU,← hW4,cH];rfl
    refine akx (i+1,fr4) _ ⟨bV,by simp only;omega,?_⟩ (by simp only;omega) (cL (CL rfl) (au _) (show 8≤8 by decide) (by simp[FL,ao,FC]) ?_)
    ·simp only[D3,aat]
    ·simp only[D3]
     exact⟨rfl,rfl,rfl,rfl,rfl,rfl,rfl,rfl,trivial⟩
  ·have hi0:i=now.length:=by simp at jA;omega
   subst hi0
   rw[cH] at Ur
   simp only[pkA,cH]
   refine aky _ _ ?_
   simp only[jF,seval]
   refine qM rfl ?_
   refine .forget 4 0 (x:=.ms 7 0 now.length now.length 1) (show 4<8 by decide) rfl rfl (.done ?_)
   simp only[CM,seval,wL,ak]
   have aku:(cm W++fr3).Nodup:=by rw[← Ur];exact A1 _ _ oV
   refine cx (fun s:Nat×List Wt=>hdS [(3,.mr 1),(4,.bp 3 0),(5,.bp 4 0),(110,.c (fsC fr3)),(111,i64 fr3.length),(112,i64 s.1)] (bxQ p (lg (num+1:Nat) W now) U .un s.2 (num+1) L.length R (cells t.m (obK L (cm W++fr3.take s.1) []) (uP (prs L)))))
    (fun s=>fr3.length - s.1) (fun s=>s.1≤fr3.length∧NX L (cm W) (cm W++fr3.take s.1) [] s.2) (0,[]) ⟨au _,by simpa using NX.init⟩ ?_ ?_
   ·refine cL (wT rfl rfl) (au _) (show 7≤8 by decide) (by simp[FL,ao,fsC]) ?_
    simp only[jB,ee]
    exact⟨rfl,rfl,rfl,rfl,rfl,rfl,rfl,trivial⟩
   rintro⟨a,nx5⟩ ⟨ha,afz⟩ Q5 akA akB aqR
   simp only at ha afz
   simp only[jF,seval,bxQ]
   refine aS (fun OO=>?_) (fun aqd=>?_)
   ·have OO:a<fr3.length:=by simpa using OO
    simp only[jF,seval,fsC]
    refine fE eO rfl eV (by decide) (aJ a) (c:=faC fr3[a]) (by simp[OO]) rfl ?_
    obtain⟨f,hf⟩:∃ f,f=fr3[a]:=⟨_,rfl⟩
    rw[← hf]
    have r1:∀ a b c:V,eS [a,b,c] 0 ((faC f).map .c)=(faC f).map .c:=fun _ _ _=>rfl
    have r3:∀ nb q (K:V→Prop),ldA nb q ((faC f).map .c) 0 3 K=(q<nb∧K (faV f)):=fun nb q K=>by
     unfold ldA
     exact propext ⟨fun h=>⟨h.1,h.2.2⟩,fun h=>⟨h.1,⟨rfl,rfl⟩,h.2⟩⟩
    have r2:bY ((faC f).map V.c)=false:=rfl
    simp only[Y3,seval,r1,r2,r3]
    rw[← hU]
    refine Y2 hm rfl (show 2<8 by decide) (fun hv hH=>?_)
    simp only[jF,seval]
    refine hH.len ?_
    simp only[jF,seval]
    have FI:f∉cm W++fr3.take a:=by
     rw[iN] at aku
     rw[aZ]
     rintro(h | h)
     ·exact aku.2.2 f h f (by rw[hf];exact bM OO) rfl
     ·have h2:=aku.2.1
      rw[cT] at h
      obtain⟨j,hj,h3⟩:=h
      have Qa:j<fr3.length:=by omega
      have:j=a:=(List.getElem_inj (h₀:=Qa) (h₁:=OO) h2).1 (by rw[h3,hf])
      omega
    refine cx (fun s:Nat×List Wt=>hdS [(3,.mr 1),(4,.bp 3 0),(5,.bp 4 0),(110,.c (fsC fr3)),(111,i64 fr3.length),(112,i64 a),(118,hv),(119,i64 (uP (prs L) f).length),(120,i64 s.1)]
     (bxQ p (lg (num+1:Nat) W now) U .un s.2 (num+1) L.length R (cells t.m (obK L ((cm W++fr3.take a)++[f]) ((uP (prs L) f).drop s.1)) (uP (prs L)))))
     (fun s=>(uP (prs L) f).length - s.1) (fun s=>s.1≤(uP (prs L) f).length∧NX L (cm W) ((cm W++fr3.take a)++[f]) ((uP (prs L) f).drop s.1) s.2) (0,nx5) ⟨au _,afz.start FI⟩ ?_ ?_
    ·refine cL (wT (by simp only[bh,bG,hH.lt];rfl) rfl) (au _) (show 7≤8 by decide) (by simp[FL,ao,fsC]) ?_
     simp only[dE,TC FI]
     exact⟨by simp[ao,bxs],by simp[ao,bxs],by simp[ao,bxs,hU],by simp[ao,bxs],by simp[ao,bxs],by simp[ao,bxs],by simp[ao,bxs],trivial⟩
    rintro⟨k,nx6⟩ ⟨hk,H3⟩ Q6 OP akC aqS
    simp only at hk H3
    simp only[jF,seval,bxQ]
    refine aS (fun Ea=>?_) (fun aqe=>?_)
    ·have Ea:k<(uP (prs L) f).length:=by simpa using Ea
     obtain⟨blk,cap,rfl,jg,hhd⟩:=Or.resolve_right hH (fun h=>by rw[h.2] at Ea;exact absurd Ea (gQ _))
     simp only[pkA,seval]
     refine tY ?_
     simp only[jF,seval,dU,dK,nD,nu,gp]
     refine ag2 (off:=0) (k:=k) lh rfl qR rfl (by decide) rfl Ea ?_
     obtain⟨D,hD⟩:∃ D,D=(cm W++fr3.take a)++[f]:=⟨_,rfl⟩
     simp only[← hD] at H3 OP ⊢
     obtain⟨c,hc1,hc2,hc3⟩:=yh (m:=t.m) (ob:=obK L D ((uP (prs L) f).drop k)) (u:=uP (prs L)) jg
     have hc4:(cells t.m (obK L D ((uP (prs L) f).drop k)) (uP (prs L)))[c]?=some (usG (.slice (some ⟨blk,0,none⟩) (uP (prs L) f).length cap) ((uP (prs L) f).map t.m.bl)):=by rw[hc3];simp only[rH,hhd]
     simp only[jF,seval,vr,dU,dK,nD,nu,gp]
     refine amu (b:=6) (c:=c+1) (l:=(uP (prs L) f).map t.m.bl) (show 6<7 by decide) hc4 (by rw[ak];exact Ea) ?_
     rw[jt]
     have aas:(uP (prs L) f)[k]∈uP (prs L) f:=bM Ea
     have vU:(uP (prs L) f).drop k=(uP (prs L) f)[k]::(uP (prs L) f).drop (k+1):=dD Ea
     generalize (uP (prs L) f)[k]=q at aas vU
     obtain⟨x,hx,hfx⟩:=ajm aas
     have hmq:mkc D ((uP (prs L) f).drop (k+1)) x q≤2:=by
      refine df YX ?_
      rw[hD,vd FI hx]
      exact df aej (hs x (aT hx)).1
     simp only[jF,seval]
     refine .done ?_
     simp only[pkA,seval]
     refine tY ?_
     simp only[jF,seval,dU,dK,nD,nu,gp,vb]
     obtain⟨c',Z9,hd2,hd3⟩:=yh (m:=t.m) (ob:=obK L D ((uP (prs L) f).drop k)) (u:=uP (prs L)) ((hm.ob q).2 (hm.lt f q aas))
     have hd4:rH t.m (obK L D ((uP (prs L) f).drop k)) (uP (prs L)) (.ob q)=obG (t.m.bl q) ⟨x,(q:Nat),(mkc D ((uP (prs L) f).drop (k+1)) x q+1:Nat)⟩:=by simp only[rH,vU,ajl hx]
     rw[hd4] at hd3
     refine Ht ?_
     simp only[jF,seval,vr,dU,dK,nD,nu,gp]
     refine Oa (b:=6) (k:=c'+1) (show 6<7 by decide) hd3 ?_
     have hws:=cd (n:=((mkc D ((uP (prs L) f).drop (k+1)) x q+1:Nat):Int) - 1) (k:=mkc D ((uP (prs L) f).drop (k+1)) x q) (by omega) (by omega)
     simp only[jF,seval,vr,dU,dK,nD,nu,gp,vb,hws]
     refine Ht ?_
     simp only[jF,seval,vr,dU,dK,nD,nu,gp]
     refine ajq (b:=6) (k:=c'+1) (show 6<7 by decide) hd3 ?_
     simp only[pkA]
     refine .done ?_
     have akv:obK L D ((uP (prs L) f).drop (k+1))=upO (obK L D ((uP (prs L) f).drop k)) q (if mkc D ((uP (prs L) f).drop (k+1)) x q=0 then none else some ⟨x,(q:Nat),(mkc D ((uP (prs L) f).drop (k+1)) x q:Nat)⟩):=by
      rw[vU];exact YW hx
     have OK:=cd (n:=(k:Int)+1) (k:=k+1) (by omega) (by have:=@YU (prs L) f;have:=ajo hs;omega)
     have Dc:((k+1:Nat):Int)=(k:Int)+1:=by omega
     have asl:∀ w:V,(cells t.m (obK L D ((uP (prs L) f).drop k)) (uP (prs L))).set c' w=(cells t.m (obK L D ((uP (prs L) f).drop k)) (uP (prs L))).set c' w:=fun _=>rfl
     generalize hM:mkc D ((uP (prs L) f).drop (k+1)) x q=M at hmq hws akv
     simp only[pkA,seval]
     refine tY ?_
     simp only[jF,seval,dU,dK,nD,nu,gp,vb]
     refine Ht ?_
     simp only[jF,seval,vr,dU,dK,nD,nu,gp]
     have hc'l:c'<(cells t.m (obK L D ((uP (prs L) f).drop k)) (uP (prs L))).length:=by rw[EY];exact Z9
     refine Oa (b:=6) (k:=c'+1) (w:=⟨x,(q:Nat),(M:Nat)⟩) (blk:=t.m.bl q) (show 6<7 by decide) (by simp[hc'l]) ?_
     simp only[pkA,dK]
     refine .done ?_
     refine aS (fun hy6=>?_) (fun hn6=>?_)
     ·have hM0:M=0:=by simpa using hy6
      simp only[jF,seval]
      subst hM0
      refine qM rfl ?_
      refine .frz 6 (c'+1) 21 (t.m.bl q) 1 1 (e:=158) (sz:=5) (cs:=wtC ⟨x,(q:Nat),0⟩) (show 6<7 by decide) (by simp[hc'l];rfl) rfl (.done ?_)
      simp only[jF,seval]
      have nr:=H3.len
      refine ko [4,5] rfl (PL (wtP ⟨x,(q:Nat),0⟩) .un [i64 L.length] (num+1:Nat) (nx6.map fun w=>[wtP w]) (Hr nx6) PQ (by simp) (by rw[ak];omega) rfl rfl rfl) (by simp[V.fz,V.ren,rho,wtP]) rfl (by decide) rfl
       ⟨⟨show 4<7 by decide,rfl⟩,⟨show 5<7 by decide,rfl⟩,trivial⟩ ?_
      intro bx6 iH qc
      simp only[jF,seval,OK]
      have hrx:rdy (cm W) x=false:=by
       unfold rdy
       rw[← Bool.not_eq_true,aV]
       intro h
       exact FI (fB _ (bn (h f hfx)))
      refine OP (k+1,nx6++[⟨x,(q:Nat),0⟩]) _ ⟨Ea,?_⟩ (by simp only;omega) (cL (wT rfl rfl) (au _) (show 7≤7 by decide) (by simp[FL,ao,fsC,Dc]) ?_)
      ·rw[vU] at H3
       exact H3.push hx hrx hM
      ·refine⟨?_,?_,?_,?_,?_,?_,?_,trivial⟩
       ·rw[iH 0 (by decide)];rfl
       ·rw[iH 1 (by decide)];rfl
       ·rw[iH 2 (by decide)];rfl
       ·rw[iH 3 (by decide)];rfl
       ·rw[EZ];exact qc 0 4 _ rfl rfl
       ·exact qc 1 5 _ rfl rfl
       ·rw[iH 6 (by decide),akv,if_pos rfl,← CE hm hd2 none]
        simp[]
     ·have hM0:M≠0:=by simpa using hn6
      simp only[jF,seval,OK]
      refine OP (k+1,nx6) _ ⟨Ea,?_⟩ (by simp only;omega) (cL (wT rfl rfl) (au _) (show 7≤7 by decide) (by simp[FL,ao,fsC,Dc]) ?_)
      ·rw[vU] at H3
       exact H3.keep hx (by rw[hM];exact hM0)
      ·refine⟨rfl,rfl,rfl,rfl,rfl,rfl,?_,trivial⟩
       rw[akv,if_neg hM0,← CE hm hd2 (some _)]
       simp[]
    ·have xg:k=(uP (prs L) f).length:=by simp at aqe;omega
     subst xg
     have hwa:=cd (n:=(a:Int)+1) (k:=a+1) (by omega) (by omega)
     have ha1:((a+1:Nat):Int)=(a:Int)+1:=by omega
     simp only[pkA]
     refine akC _ _ ?_
     simp only[jF,seval,hwa]
     have hDa:cm W++fr3.take (a+1)=(cm W++fr3.take a)++[f]:=by rw[bg OO,← hf,bw]
     rw[List.drop_length] at H3
     refine akA (a+1,nx6) _ ⟨OO,by simp only[hDa];exact H3⟩ (by simp only;omega) (cL (wT rfl rfl) (au _) (show 7≤7 by decide) (by simp[FL,ao,ha1]) ?_)
     simp only[hDa,List.drop_length]
     exact⟨rfl,rfl,rfl,rfl,rfl,rfl,rfl,trivial⟩
   ·have ha0:a=fr3.length:=by simp at aqd;omega
    subst ha0
    simp only[pkA]
    refine akB _ _ ?_
    simp only[pkA,seval]
    rw[cH,← Ur] at afz
    simp only[cH,← Ur]
    have akr:((num+1:Nat):Int)=(num:Int)+1:=by omega
    rw[if_neg AK] at afy
    obtain⟨n,rfl⟩:∃ n',n=n'+1:=⟨n - 1,by omega⟩
    have anS:∀ g∈cm W,g∈cm (lg (num+1:Nat) W now):=fun g hg=>(uq _ _).2 (.inl hg)
    have kf:=KF (L:=L) anS
    have hul:=@Og L (cm W)
    refine cE ⟨num+1,n,lg (num+1:Nat) W now,yi L (cm W) (cm (lg (num+1:Nat) W now)),nx5⟩ _ ⟨afz.done,zV,fun w hw=>?_,?_,?_,by simp only;omega,A1 _ _ oV,fun g hg=>?_,by simp only;omega⟩ (dN n) (cL (wT rfl rfl) (au _) (show 7≤7 by decide) (by simp[FL,ao]) ?_)
    ·obtain⟨i,x,h1,rfl,_⟩:=yo.1 hw
     exact aT h1
    ·simp only[y6] at vH
     rw[if_neg AK] at vH
     simp only[akr]
     exact vH
    ·show unr L (cm (lg (num+1:Nat) W now))+(if yi L (cm W) (cm (lg (num+1:Nat) W now))=[] then 0 else 1)<n
     split
     ·rename_i h;rw[h] at kf;simp only[aB] at kf;omega
     ·rename_i h
      have:0<(yi L (cm W) (cm (lg (num+1:Nat) W now))).length:=fm.2 h
      omega
    ·rcases(uq _ _).1 hg with h | ⟨w,hw,h⟩
     ·exact fJ g h
     ·exact List.mem_flatMap.2 ⟨w.x,jE w hw,h⟩
    ·exact⟨rfl,rfl,rfl,rfl,rfl,rfl,rfl,trivial⟩
 ·have hnx:nx=[]:=by simpa using hy
  subst hnx
  have AK:now=[]:=by simpa using Ag.symm
  subst AK
  have hW:W=yj L:=by
   rw[← vH]
   cases n with
   |zero=>rfl
   |succ n=>simp[y6]
  simp only[pkA,seval]
  refine cC _ _ ?_
  simp only[jF,seval]
  refine pL [(2,.mr 1)] rfl ?_ (au _) (show 2≤7 by decide) ⟨by simp[],trivial⟩ ⟨h0,by rw[← hW];exact h1,trivial⟩ rfl
  simp only[jq,bh,bG,wS,aA,aB];rfl
theorem Hu (p:Pol) (hp:p.types.length≤9223372036854775806) (hr:p.rules.length≤9223372036854775806) (hl:(iS p none).length≤20000) (hs:lE (iS p none)) :
 FnB Tryz.prog G 90 [.agg (poC p)] [] (.mr 1) [(poC p).map .c,wM (yj (iS p none))]:=
 aen p _ (fun _ hc=>amr hc hp hr hl hs) hl hs
