/- Layer 15: maps.Values, ranged over. -/
import Derived.Test.YtegbpjodbjhjeaaGreatDoorVlUf
import Derived.Test.YtegbpjodbjhjeaaGreatDoorVlEnv
import Derived.Test.YtegbpjodbjhjeaaGreatDoorSrt
import Derived.Test.YtegbpjodbjhjeaaGreatDoorVlSrt
set_option linter.all false
namespace Go.Proofs.YtegbpjodbjhjeaaGreatDoor
open Go Go.Vl
variable {G:Gl}
set_option maxRecDepth 4000
def tmV (t:Tm):V:=.agg (tmC t)
def mS (S:List Tm):List V:=px sv tmV (S.map fun t=>(jq t,t))
theorem gC {S:List Tm} {m:Nat}:(mS S).all (fun x=>x.ltB m)=true:=HS (fun _=>rfl) (fun _=>rfl)
theorem yv {S:List Tm} {ρ:Nat→Nat}:(mS S).map (V.ren ρ)=mS S:=HQ (fun _=>rfl) (fun _=>rfl)
def gsT (l:List Tm):V:=.gs none (if l.isEmpty then none else some (47,3)) (l.map tmC)
def flV:List (Nat×V):=[(2,.bp 1 0)]
def ybV (n:Nat) (ps:Array Tmp) (ca cb:Code) (l:List Tm):List (List V):=[[.lp (lp0 n ps ca cb) flV],[gsT l]]
theorem KQ {n:Nat} {ps:Array Tmp} {ca cb:Code} {l:List Tm}:ltL 2 (ybV n ps ca cb l):=fun b hb x hx=>by
 simp only[ybV,bu,dW,jK] at hb
 rcases hb with rfl | rfl
 ·simp only[aP] at hx;subst hx
  intro p hp
  simp only[flV,bu,dW,jK] at hp
  subst hp;simp[V.ltP]
 ·simp only[aP] at hx;subst hx;trivial
def ag5 (n:Nat) (ps:Array Tmp) (ca cb:Code) (S:List Tm) (r:V) (b1:List (List V)):Prop:=r=.tup []∧∃ l,l.Perm S∧b1=ybV n ps ca cb l++[mS S,[.mr 2]]
theorem zP {n:Nat} {ps:Array Tmp} {ca cb:Code} {l:List Tm} {S:List Tm}:(ybV n ps ca cb l++[mS S,[.mr 2]]).all (fun b=>b.all fun v=>v.ltB 4)=true:=by
 simp only[ybV,dK,gr,aN,aX,gC,gsT];rfl
def prS (S:List Tm):List (By×Tm):=S.map fun t=>(jq t,t)
theorem mW {S:List Tm}:(prS S).length=S.length:=am ..
theorem Fw {S:List Tm} {j:Nat} (hj:j<(prS S).length):(prS S)[j]=(jq (S[j]'(by rw[mW] at hj;exact hj)),S[j]'(by rw[mW] at hj;exact hj)):=List.getElem_map ..
theorem Yg {S:List Tm} {s:Vl.S} {i:Nat} {seen:List Nat} {K:Option V→V→Prop} (hb:s.bx i=mS S) (hi:i<s.nb)
 (h0:(∀ b,b<S.length→b∈seen)→K none (.tup [bo false])) (h1:∀ j (hj:j<S.length),j∉seen→K (some (.it i S.length S.length (seen++[j]))) (.tup [bo true,sv (jq S[j]),tmV S[j]])):Aa s (.it i S.length S.length seen) K:=by
 have h:=Ku (f:=sv) (h:=tmV) (l:=prS S) (seen:=seen) (K:=K) hb hi (fun dh=>h0 fun b hb=>dh b (by rw[mW];exact hb)) (fun j hj hn=>by
  have VO:j<S.length:=by rw[mW] at hj;exact hj
  have e:=h1 j VO hn
  rw[Fw hj];simp only[mW];exact e)
 rw[mW] at h;exact h
theorem T0 {S:List Tm} {s:Vl.S} {i j:Nat} {seen:List Nat} {KV:V→Prop} (hb:s.bx i=mS S) (hi:i<s.nb) (hj:j<S.length) (hK:KV (.tup [sv (jq S[j]),tmV S[j]])):nk s (.it i S.length S.length (seen++[j])) KV:=by
 have VO:j<(prS S).length:=by rw[mW];exact hj
 have h:=Kv (f:=sv) (h:=tmV) (l:=prS S) (seen:=seen) (KV:=KV) hb hi VO (by rw[Fw VO];exact hK)
 rw[mW] at h;exact h
theorem Ig {l:List Nat} {n:Nat} (pU:l.Nodup) (h:∀ b∈l,b<n):l.length≤n:=by
 have:=mE pU (m:=List.range n) fun x hx=>cQ.2 (h x hx)
 simpa using this
def Dn:=jj @pkA @ptA
def T8:=jj @pkA (jj @ptA @pkT)
set_option maxHeartbeats 4000000 in
theorem KT {n:Nat} {ps:Array Tmp} {ca cb:Code} (S:List Tm) (hS:S.length≤1000000000) (dC:∀ l t,l.length<S.length→t∈S→YB Tryz.prog G [.agg (tmC t)] (ybV n ps ca cb l) (bo true) (ybV n ps ca cb (l++[t]))) :
 FnE Tryz.prog G 153 [.yl 0,.bp 3 0] (ybV n ps ca cb []++[mS S,[.mr 2]]) (ag5 n ps ca cb S):=by
 refine A0 (rs:=[]) (k:=4) [1100013,3000004,6] mixed Tryz.func153 rfl rfl rfl rfl (by kernel_rfl) (by simp) (fun r b1 h=>by rw[h.1];rfl) rfl rfl ?_ (fun r b1 h=>by obtain⟨_,l,_,rfl⟩:=h;exact ae _) ?_
 ·simp only[eN]
  exact cn.2 ⟨rfl,zP⟩
 simp only[Dn,seval,ybV]
 have cu:(S.map fun t=>(jq t,t)).length=S.length:=am ..
 refine Kt (f:=sv) (h:=tmV) (l:=S.map fun t=>(jq t,t)) vE rfl rfl (show 2<4 by decide) ?_
 rw[cu]
 simp only[pkA]
 refine ck (fun x:List Tm×List Nat=>hdS [(0,.yl 0),(6,.it 2 S.length S.length x.2)] (ybV n ps ca cb x.1++[mS S,[.mr 2]])) (fun x=>S.length - x.2.length) (fun x=>x.2.Nodup∧(∀ b∈x.2,b<S.length)∧x.1.map some=x.2.map fun j=>S[j]?) ([],[]) ⟨ip,by simp,rfl⟩ ?_ ?_
 ·exact bT (by simp only[eQ];exact cn.2 ⟨rfl,zP⟩) (ae _) (ae _) (by simp[FL,au]) ⟨rfl,rfl,rfl,rfl,trivial⟩
 rintro⟨l,seen⟩ ⟨pU,bB,hm⟩ R bS cd cX
 simp only at pU bB hm
 have LG:l.length=seen.length:=by have:=iY List.length hm;simpa using this
 have Nq:=Ig pU bB
 simp only[pkA,seval,ybV]
 refine Yg rfl (show 2<4 by decide) (fun dh=>?_) (fun j hj hn=>?_)
 ·simp only[pkA,seval]
  refine cd _ _ ?_
  simp only[pkA,seval]
  exact⟨.tup [],_,⟨rfl,l,O0 hm pU bB dh,rfl⟩,dP [] rfl (by simp only[eQ];exact cn.2 ⟨rfl,zP⟩) (ae _) (ae _) trivial ⟨rfl,rfl,rfl,rfl,trivial⟩ dx⟩
 ·simp only[pkA,seval]
  refine T0 rfl (show 2<4 by decide) hj ?_
  simp only[T8,seval,tmV]
  have hlj:l.length<S.length:=by
   have:=Ig (l:=seen++[j]) (n:=S.length) (List.nodup_append.2 ⟨pU,by simp,fun a ha b hb e=>by rw[aP] at hb;exact hn (by rw[← hb,← e];exact ha)⟩) (fun b hb=>by
    rcases aZ.1 hb with hb | hb
    ·exact bB b hb
    ·rw[aP] at hb;rw[hb];exact hj)
   rw[ax,dm] at this
   omega
  refine OZ (Y:=ybV n ps ca cb l) (dC l S[j] hlj (aF hj)) (by simp[V.fz]) (show 0<2 by decide) rfl KQ (show 2≤5 by decide) ⟨rfl,rfl,trivial⟩ (fun _ _=>rfl) (fun bx' xC hB=>?_)
  have b2:bx' 2=mS S:=xC 2 (ae _)
  have b3:bx' 3=[.mr 2]:=xC 3 (show 2≤3 by decide)
  simp only[pkA,seval]
  refine bS (l++[S[j]],seen++[j]) _ ⟨List.nodup_append.2 ⟨pU,by simp,fun a ha b hb e=>by rw[aP] at hb;exact hn (by rw[← hb,← e];exact ha)⟩,fun b hb=>?_,?_⟩ ?_ (bT (by simp only[eQ];exact cn.2 ⟨rfl,zP⟩) (ae _) (show 4≤5 by decide) (by simp[FL,au]) ⟨hB.1,hB.2.1,b2,b3,trivial⟩)
  ·rcases aZ.1 hb with hb | hb
   ·exact bB b hb
   ·rw[aP] at hb;rw[hb];exact hj
  ·simp only[dL,hm,aO,bI]
   rw[aj hj]
  ·simp only[ax,dm];omega
theorem Do {P:Program} {G:Gl} {tr:List Nat} {k0:Nat} {f:Operand} {ps:Array Tmp} {ca cb:Code} {Q:VE→Vl.S→Prop} {fr:Nat→V} {bx:Nat→List V} {nb:Nat}:gR P G tr k0 (.rangeFunc f ps ca cb) Q ⟨fr,bx,nb⟩=vrg P G tr f ps ca cb Q ⟨fr,bx,nb⟩:=rfl
theorem ut {tr:List Nat} {id:Nat} {ops:Array Oper} {s:Vl.S} {K:Vl.S→Prop} (h:NC tr id=true) (hK:GsK ops K s):spl tr id ops s K:=by
 unfold spl
 rw[if_pos h]
 exact .inr (.inr (.inr hK))
def nv:V:=.clo (.func 153) [] [.bp 1 0]
set_option maxHeartbeats 4000000 in
theorem aeH {S:List Tm} (hS:S.length≤1000000000) {tr:List Nat} {n t:Nat} {ps:Array Tmp} {ca cb:Code} {Q:VE→Vl.S→Prop} {fr:Nat→V} {bx:Nat→List V}
 (uG:uI tr=true) (hre:tr.contains 1200001=true) (hn:rgN tr=n) (hf:fr t=nv) (h2:fr 2=.bp 2 0) (b0:bx 0=mS S) (b1:bx 1=[.mr 0]) (b2:bx 2=[gsT []])
 (dC:∀ l t,l.length<S.length→t∈S→YB Tryz.prog G [.agg (tmC t)] (ybV n ps ca cb l) (bo true) (ybV n ps ca cb (l++[t])))
 (hQ:∀ l bx',l.Perm S→bx' 0=mS S→bx' 1=[.mr 0]→bx' 2=[gsT l]→bx' 3=[.lp { lp0 n ps ca cb with state:=.exhausted } [(2,.bp 2 0)]]→Q .normal ⟨fr,bx',4⟩):vrg Tryz.prog G tr (.tmp t) ps ca cb Q ⟨fr,bx,3⟩:=by
 subst hn
 have hI:=KT (G:=G) S hS dC
 have hc:eI (ev G ⟨fr,bx,3⟩ (.tmp t)) [.yl 3]=some (153,[.yl 3,.bp 1 0]):=by simp only[ev,hf];rfl
 refine⟨uG,[(2,.bp 2 0)],fun q hq=>?_,⟨_,_,hc⟩,?_⟩
 ·simp only[bu,dW,jK] at hq
  subst hq;simp[h2,V.fz,V.isKR]
 ·rw[if_pos hre]
  unfold og
  rw[hc]
  simp only
  refine⟨[3,2,0,1],_,_,_,hI,rfl,⟨rfl,by decide⟩,?_,?_⟩
  ·refine⟨⟨by decide,?_⟩,⟨by decide,?_⟩,⟨by decide,?_⟩,⟨by decide,?_⟩,trivial⟩
   ·simp[rho,up,flV,V.ren,V.renP]
   ·simp[rho,up,b2,V.ren,gsT]
   ·simp[rho,up,b0,yv]
   ·simp[rho,up,b1,V.ren]
  ·rintro r b1' ⟨rfl,l,hl,rfl⟩
   have e4:fu (rho [3,2,0,1] 4) 0 (ybV (rgN tr) ps ca cb l++[mS S,[.mr 2]]) (up bx 3 [.lp (lp0 (rgN tr) ps ca cb) [(2,.bp 2 0)]]) 3=[.lp (lp0 (rgN tr) ps ca cb) [(2,.bp 2 0)]]:=by
    simp[ybV,fu,rho,up,flV,V.ren,V.renP]
   show NB Q 3 ⟨fr,fu (rho [3,2,0,1] 4) 0 (ybV (rgN tr) ps ca cb l++[mS S,[.mr 2]]) (up bx 3 [.lp (lp0 (rgN tr) ps ca cb) [(2,.bp 2 0)]]),4⟩
   unfold NB
   simp only[e4]
   refine⟨by simp[lp0],by decide,?_⟩
   show Q .normal ⟨fr,up _ 3 _,4⟩
   refine hQ l _ hl ?_ ?_ ?_ ?_
   ·simp[ybV,fu,rho,up,yv]
   ·simp[ybV,fu,rho,up,V.ren]
   ·simp[ybV,fu,rho,up,V.ren,gsT]
   ·simp[up]
def aeI (S:List Tm) (r:V) (b1:List (List V)):Prop:=∃ l j,l.Perm S∧r=.ms 4 0 S.length S.length 3∧b1=[mS S,[.mr 0],[.ms 4 0 S.length S.length 3],j,flb tmC l]∧j.all (fun x=>x.ltB 5)=true
set_option maxHeartbeats 4000000 in
theorem Fx (S:List Tm) (hS:S.length≤1000000000) (fO:S≠[]):FnE Tryz.prog G 172 [.c (.ex (.slice none 0 0)),nv] [mS S,[.mr 0]] (aeI S):=by
 refine A0 (rs:=[.tmp 4]) (k:=2) [1200000,1200001,1300015,2300001,2300004,3000002] mixed Tryz.func172 rfl rfl rfl rfl (by kernel_rfl) (by simp) (fun r b1 h=>by obtain⟨_,_,_,rfl,_⟩:=h;rfl) rfl rfl ?_ (fun r b1 h=>by obtain⟨_,_,_,_,rfl,_⟩:=h;simp) ?_
 ·simp only[eN,aN,aX,gC,nv,aC,aH];rfl
 simp only[pkA,seval,nv]
 refine ut rfl (.warmX 2 0 (show 2<3 by decide) rfl (.done ?_))
 simp only[pkA,seval,Vl.S.cell,Do]
 refine aeH (S:=S) (n:=15) hS rfl rfl rfl rfl rfl rfl rfl rfl ?_ ?_
 ·intro l x hl hx
  refine aeh (L:=lp0 15 #[7] _ _) (fl:=flV) (bs:=[[gsT l]]) [2850003,2400012] mixed rfl rfl ?_ ?_ ?_ ?_ ?_
  ·intro q hq;simp[lp0] at hq;subst hq;decide
  ·kernel_rfl
  ·kernel_rfl
  ·refine⟨fun y hy=>?_,KQ,ae _⟩
   simp only[aP] at hy;subst hy;trivial
  ·simp only[T8,seval,frY,flV,lp0,List.zip_cons_cons,List.zip_nil_right,iP,List.foldl_nil]
   refine yj (m:=4) (n:=8) rfl rfl rfl ?_
   refine .split 1 0 12 (g:=none) (E:=if l.isEmpty then none else some (47,3)) (es:=l.map tmC) (show 1<3 by decide) rfl rfl rfl fun v _ hgv=>.done ?_
   have Ji:∀ K,K (i64 (l.length:Int))→lT Tryz.prog 33 (.c (.ex v)) K:=fun K hK=>by
    rcases hgv with⟨blk,cap,rfl,_⟩ | ⟨h0,_,a,rfl⟩
    ·exact nD du rfl (by rw[am];exact hK)
    ·have:l=[]:=by cases l with
      |nil=>rfl
      |cons=>cases h0
     subst this
     exact nD du rfl hK
   simp only[T8,seval,gsT]
   refine Ji _ ?_
   simp only[Dn,seval]
   generalize hE:(if l.isEmpty=true then none else some (47,3))=E
   have Y8:E=none∨E=some (47,3):=by
    rw[← hE];cases l<;>simp
   have v7:∀ z∈l.map tmC,z.length=3:=Bh
   have sr:(l.map tmC).length=l.length:=am ..
   refine k6 (f:=3) (by decide +kernel) (by decide +kernel) ?_
   simp only[k7,mR,ah,Nat.reduceAdd]
   repeat' (first | exact trivial | apply And.intro)
   all_goals first
    |exact .inl (by decide +kernel)
    |refine .inr ?_
   simp only[jz,pkA,seval,ye,xM]
   refine Kw (v:=v) (E:=E) (es:=l.map tmC) (y1:=tmC (.mk 0 0 [])) (sz:=3) (by_:=40) du rfl dl rfl rfl rfl (by decide) rfl (by simp[au]) (by simp[au]) ⟨by decide,by simp,by simp⟩ rfl Y8 v7 (bG _) (by rw[sr];omega) (by rw[sr];omega) ?_
   simp only[pkA,seval]
   refine qf (f:=2) (by decide +kernel) (by decide +kernel) (.splitB 12 2 0 (g:=none) (E:=some (47,3)) (es:=l.map tmC++[tmC (.mk 0 0 [])]) (x:=.c (cI x.kind)) (by simp[]) (show 2<3 by decide) (by simp[au,mtm]) (by simp[au,j8]) fun v' _ VQ=>.done ?_)
   obtain⟨blk,cap,rfl⟩:∃ blk cap,v'=.slice (some ⟨blk,0,none⟩) (l.map tmC++[tmC (.mk 0 0 [])]).length cap:=by
    rcases VQ with⟨blk,cap,h,_⟩ | ⟨h,_⟩
    ·exact⟨blk,cap,h⟩
    ·cases BR:l<;>simp[BR] at h
   have Jj:(l.map tmC++[tmC (.mk 0 0 [])]).set l.length (tmC x)=(l++[x]).map tmC:=by
    rw[List.set_append_right _ _ (by rw[sr];exact ae _),sr,kB,dL];rfl
   have gv:∀ g:V,((tmC x).map V.c).set 0 g=[g,.c (cI x.n),.c (tsC x.l)]:=fun g=>by rw[j8];rfl
   have hln:((l.map tmC++[tmC (.mk 0 0 [])]).length)=l.length+1:=by simp
   simp only[k7,mR,ah,Nat.reduceAdd]
   repeat' (first | exact trivial | apply And.intro)
   all_goals first
    |exact .inl (by decide +kernel)
    |refine .inr ?_
   all_goals simp only[jz,Dn,seval,gv,hln]
   repeat' first
    |(refine k6 (by decide +kernel) (by decide +kernel) ?_;simp only[k7,mR,ah,Nat.reduceAdd];(repeat' (first | exact trivial | apply And.intro));(all_goals (first | exact Or.inl (by decide +kernel) | refine Or.inr ?_)))
    |(refine AS (k:=l.length) du rfl dl rfl (by decide) rfl (bz _) ?_)
    |(refine Kx (b:=2) (k:=0) (len:=l.length+1) (cap:=cap) (e':=47) (sz:=3) (q:=l.length) (es:=l.map tmC++[tmC (.mk 0 0 [])]) (cs:=tmC x) dl rfl ?_ ?_ ?_ rfl (bG _) (by decide) (by rw[hln];exact bz _) rfl ?_;(· simp);(· (simp[au];rfl));(· simp[au]))
    |(refine vC (by decide +kernel) ?_)
    |(simp only[jz,Dn,seval])
   all_goals (
    refine .join 1 0 2 0 (v:=.slice (some ⟨blk,0,none⟩) (l.length+1) cap) (E:=some (47,3)) (es:=(l.map tmC++[tmC (.mk 0 0 [])]).set l.length (tmC x)) (show 1<3 by decide) ?_ ?_ (show 2<3 by decide) ?_ (by decide) ?_ (.unname 1 0 (g:=some (.slice (some ⟨blk,0,none⟩) (l.length+1) cap)) (E:=some (47,3)) (es:=(l.map tmC++[tmC (.mk 0 0 [])]).set l.length (tmC x)) (show 1<3 by decide) ?_ (.done ?_))
    ·simp[au];rfl
    ·simp[au]
    ·simp[au];rfl
    ·simp[au]
    ·simp[au]
    ·simp only[pkA,seval,Vl.S.cell,Jj]
     refine⟨rfl,_,_,⟨rfl,show 0<3 by decide⟩,[],?_⟩
     refine SA (fun _ h=>by cases h) KQ (ae _) (show 2≤3 by decide) trivial ?_
     intro i hi
     match i,hi with
     |0,_=>simp[ybV,up,bxs,HI,lp0,flV]
     |1,_=>
      have:(l++[x]).isEmpty=false:=by cases l<;>rfl
      simp[ybV,up,bxs,gsT])
 intro l bx' hl b0 b1 b2 b3
 have BR:l≠[]:=fun h=>by subst h;exact fO (List.nil_perm.1 hl)
 have fA:(if l.isEmpty then none else some (47,3))=some (47,3):=by cases l with
  |nil=>exact absurd rfl BR
  |cons=>rfl
 have b2':bx' 2=[.gs none (some (47,3)) (l.map tmC)]:=by rw[b2];unfold gsT;rw[fA]
 simp only[pkA,seval]
 refine ut rfl (.box 2 0 (g:=none) (e:=47) (sz:=3) (es:=l.map tmC) (show 2<4 by decide) (by simp only[b2'];rfl) (by simp only[b2'];rfl) (.done ?_))
 simp only[Dn,seval,b2',am]
 rw[hl.length_eq]
 refine⟨.ms 4 0 S.length S.length 3,[mS S,[.mr 0],[.ms 4 0 S.length S.length 3],_,flb tmC l],⟨l,_,hl,rfl,rfl,rfl⟩,dP [(4,.ms 4 0 S.length S.length 3)] rfl ?_ (show 2≤5 by decide) (ae 5) ⟨by simp[],trivial⟩ ⟨by simp[au,b0],by simp[au,b1],by simp[au],by simp only[au];exact b3,by simp[flb],trivial⟩ (by simp[hdS,frs,gx,up])⟩
 simp only[eQ,aN,aX,gC,flb,eM,aC,aH];rfl
def aeJ (r:V) (b1:List (List V)):Prop:=r=.ow none []∧∃ j,b1=[mS [],[.mr 0],[.ow none []],j]∧j.all (fun x=>x.ltB 4)=true
set_option maxHeartbeats 4000000 in
theorem Cm:FnE Tryz.prog G 172 [.c (.ex (.slice none 0 0)),nv] [mS [],[.mr 0]] aeJ:=by
 refine A0 (rs:=[.tmp 4]) (k:=2) [1200000,1200001,1300015,2300001,2300004,3000002] mixed Tryz.func172 rfl rfl rfl rfl (by kernel_rfl) (by simp) (fun r b1 h=>by rw[h.1];rfl) rfl rfl ?_ (fun r b1 h=>by obtain⟨_,j,rfl,_⟩:=h;simp) ?_
 ·simp only[eN,aN,aX,gC,nv,aC,aH];rfl
 simp only[pkA,seval,nv]
 refine ut rfl (.warmX 2 0 (show 2<3 by decide) rfl (.done ?_))
 simp only[pkA,seval,Vl.S.cell,Do]
 refine aeH (S:=[]) (n:=15) (by simp) rfl rfl rfl rfl rfl rfl rfl rfl (fun l x hl hx=>by cases hx) ?_
 intro l bx' hl b0 b1 b2 b3
 have BR:l=[]:=List.perm_nil.1 hl
 subst BR
 simp only[pkA,seval]
 refine ut rfl (.cool 2 0 (g:=none) (E:=none) (es:=[]) (show 2<4 by decide) (by simp only[b2];rfl) (.done ?_))
 simp only[Dn,seval,b2,Vl.S.cell,gsT]
 refine⟨.ow none [],[mS [],[.mr 0],[.ow none []],_],⟨rfl,_,rfl,rfl⟩,dP [(4,.ow none [])] rfl ?_ (show 2≤4 by decide) (ae 4) ⟨by simp[],trivial⟩ ⟨by simp[au,b0],by simp[au,b1],by simp[],by simp only[au];exact b3,trivial⟩ (by simp[hdS,frs,gx,up])⟩
 simp only[eQ,aN,aX,gC,aC,aH];rfl
set_option maxHeartbeats 4000000 in
theorem KU (S:List Tm) (hS:S.length≤1000000000) (fO:S≠[]):FnE Tryz.prog G 151 [nv] [mS S,[.mr 0]] (aeI S):=by
 refine A0 (rs:=[.tmp 2]) (k:=2) [1500004,3000002] mixed Tryz.func151 rfl rfl rfl rfl (by kernel_rfl) (by simp) (fun r b1 h=>by obtain⟨_,_,_,rfl,_⟩:=h;rfl) rfl rfl ?_ (fun r b1 h=>by obtain⟨_,_,_,_,rfl,_⟩:=h;simp) ?_
 ·simp only[eN,aN,aX,gC,nv,aC,aH];rfl
 simp only[pkA,seval,nv]
 refine ul rfl (Fx S hS fO) (by simp[V.fz,nv]) rfl ⟨rfl,rfl,trivial⟩ ?_
 rintro r b1 ⟨l,j,hl,rfl,rfl,hj⟩
 simp only[pkA,seval]
 refine⟨.ms 4 0 S.length S.length 3,[mS S,[.mr 0],[.ms 4 0 S.length S.length 3],j,flb tmC l],⟨l,j,hl,rfl,rfl,hj⟩,dP [(2,.ms 4 0 S.length S.length 3)] rfl ?_ (show 2≤5 by decide) (ae 5) ⟨by simp[],trivial⟩ ⟨rfl,rfl,rfl,rfl,rfl,trivial⟩ (by simp[hdS,frs,gx,up])⟩
 simp only[eQ,aN,aX,gC,flb,eM,aC,aH,hj];rfl
set_option maxHeartbeats 4000000 in
theorem Ih:FnE Tryz.prog G 151 [nv] [mS [],[.mr 0]] aeJ:=by
 refine A0 (rs:=[.tmp 2]) (k:=2) [1500004,3000002] mixed Tryz.func151 rfl rfl rfl rfl (by kernel_rfl) (by simp) (fun r b1 h=>by rw[h.1];rfl) rfl rfl ?_ (fun r b1 h=>by obtain⟨_,j,rfl,_⟩:=h;simp) ?_
 ·simp only[eN,aN,aX,gC,nv,aC,aH];rfl
 simp only[pkA,seval,nv]
 refine ul rfl Cm (by simp[V.fz,nv]) rfl ⟨rfl,rfl,trivial⟩ ?_
 rintro r b1 ⟨rfl,j,rfl,hj⟩
 simp only[pkA,seval]
 refine⟨.ow none [],[mS [],[.mr 0],[.ow none []],j],⟨rfl,j,rfl,hj⟩,dP [(2,.ow none [])] rfl ?_ (show 2≤4 by decide) (ae 4) ⟨by simp[],trivial⟩ ⟨rfl,rfl,rfl,rfl,trivial⟩ (by simp[hdS,frs,gx,up])⟩
 simp only[eQ,aN,aX,gC,aC,aH,hj];rfl
theorem T9 {fr:Nat→V} {bx:Nat→List V} {nb:Nat} {K:Vl.S→Prop} {t d:Tmp} {i:Nat} (h:fr t=.mr i):boxK (some t) d (.mr i) ⟨fr,bx,nb⟩ K=K ⟨up fr d (.bp nb 0),up bx nb [.mr i],nb+1⟩:=by
 simp[boxK,V.bcells,mO,h,Vl.S.put,V.isOw]
theorem Ii:mJ .nilFunc=.c (.lit .nilFunc):=rfl
set_option maxHeartbeats 4000000 in
theorem Pp (S:List Tm):FnB Tryz.prog G 127 [.mr 0] [mS S] nv [mS S,[.mr 0]]:=by
 refine nq (rs:=[.tmp 2]) (k:=1) [3000001] mixed Tryz.func127 rfl rfl rfl rfl (by kernel_rfl) (by simp) rfl rfl rfl (by simp only[eN,aN,aX,gC,aC,aH];rfl) (by simp) ?_
 simp only[pkA,seval,T9,Ii]
 exact dP [(2,nv)] rfl (by simp only[eQ,aN,aX,gC,nv,aC,aH];rfl) (show 1≤2 by decide) (ae 2) ⟨by simp[nv],trivial⟩ ⟨rfl,rfl,trivial⟩ rfl
abbrev Ts:={ t:Tm // bq t≤1000000000 }
def vK (t:Ts):List C:=tmC t.1
def aca (x y:Ts):Int:=jB x.1 y.1
theorem qN (x y:Ts):ltOf aca x y=ltT x.1 y.1:=rfl
theorem Yh:Go.Sort.SWO (ltOf aca) where
 irrefl x:=by rw[qN];exact rF _
 trans x y z h1 h2:=by rw[qN] at *;exact uq h1 h2
 ntrans x y z h1 h2:=by
  rw[qN] at *
  cases h:ltT x.1 z.1 with
  |false=>rfl
  |true=>
   cases h3:ltT y.1 x.1 with
   |true=>rw[uq h3 h] at h2;cases h2
   |false=>
    have:=Fe h1 h3
    rw[this] at h;rw[h] at h2;cases h2
theorem MA:∃ fn,Tryz.prog.funcs[152]?=some fn∧(fn.name== "runtime.NumGoroutine")=false∧∃ b,fn.body=some b:=⟨_,Tryz.func152,rfl,_,rfl⟩
theorem KX {l m:List Tm} (h1:l.Nodup) (h2:m.Nodup) (h:∀ x,x∈l↔x∈m):l.Perm m:=(js h1 h2).2 h
theorem Ij {α β:Type} {f:α→β} (hf:∀ x y,f x=f y→x=y) {l m:List α} (h1:(l.map f).Nodup) (h2:(m.map f).Nodup) (h:∀ y,y∈l.map f↔y∈m.map f):l.Perm m:=by
 have n1:l.Nodup:=(List.pairwise_map.1 h1).imp fun h e=>h (by rw[e])
 have n2:m.Nodup:=(List.pairwise_map.1 h2).imp fun h e=>h (by rw[e])
 refine (js n1 n2).2 fun x=>⟨fun hx=>?_,fun hx=>?_⟩
 ·obtain⟨y,hy,e⟩:=br.1 ((h (f x)).1 (br.2 ⟨x,hx,rfl⟩))
  rw[← hf _ _ e];exact hy
 ·obtain⟨y,hy,e⟩:=br.1 ((h (f x)).2 (br.2 ⟨x,hx,rfl⟩))
  rw[← hf _ _ e];exact hy
theorem MB {l:List Tm} (h:∀ t∈l,bq t≤1000000000):flb vK (l.attachWith _ h)=flb tmC l:=by
 unfold flb
 have:(l.attachWith _ h).map vK=l.map tmC:=by
  have e:(l.attachWith _ h).map vK=((l.attachWith _ h).map Subtype.val).map tmC:=by rw[gV];rfl
  rw[e,eG]
 rw[this]
theorem Yi (l:List Tm) (hs:∀ t∈l,bq t≤1000000000) (pU:l.Nodup) (hl:l.length<4611686018427387904) (cap:Nat) (hc:l.length≤cap) :
 FnB Tryz.prog G 152 [.ms 0 0 l.length cap 3,.c (.fn (.func 91) [] [])] [flb tmC l] (.tup []) [flb tmC (kF l)]:=by
 have xx:∀ t∈kF l,bq t≤1000000000:=fun t ht=>hs t (jg.1 ht)
 have h:=HV (P:=Tryz.prog) (G:=G) (ρ:=Tryz.sortTm_ren) (c:=vK) Tryz.sortTm MA Tryz.isAgg47 Tryz.sizeOf47 (fun t=>bG t.1) (by decide) ⟨.mk 0 0 [],by decide⟩ [.int .i64 0,.int .i64 0,.slice none 0 0] rfl (fun v hv=>by simp at hv;rcases hv with rfl | rfl | rfl<;>rfl)
  (fun I w j x hx=>by
   match j with
   |0 | 1=>simp only[vK,tmC,Pi,cI,bJ,cK,ao] at hx;subst hx;exact .lit _ rfl
   |2=>simp only[vK,tmC,Pi,cI,bJ,cK,ao] at hx;subst hx;exact .nil none 0 (fun _=>rfl)
   |j+3=>simp[vK,tmC] at hx)
  aca Yh 91 [] (enters_of Tryz.func91 (by kernel_rfl) rfl) (fun x y=>vJ x.1 y.1 x.2 y.2) (l.attachWith _ hs) ((kF l).attachWith _ xx) (by simpa using hl)
  (Ij (f:=Subtype.val) (fun x y h=>Subtype.ext h) (by rw[eG];exact(jC l).nodup) (by rw[eG];exact pU) (fun y=>by rw[eG,eG];exact jg))
  (by
   have hp:((kF l).attachWith _ xx).Pairwise fun x y=>ltT x.1 y.1=true:=by
    have:=jC l
    rw[← List.pairwise_map (f:=Subtype.val) (R:=fun x y=>ltT x y=true),eG];exact this
   exact hp.imp fun h=>by rw[qN];exact C9 h)
  (fun x _ y _ h1 h2=>by rw[qN] at h1 h2;exact Subtype.ext (Fe h1 h2)) cap (by simpa using hc)
 rw[MB,MB,List.length_attachWith] at h
 exact h
theorem Ua {x:C}:FnOK Tryz.prog G 152 [.c (.sl []),.c x] (.tup []):=
 uX (ρ:=Tryz.sortTm_ren) Tryz.sortTm MA
