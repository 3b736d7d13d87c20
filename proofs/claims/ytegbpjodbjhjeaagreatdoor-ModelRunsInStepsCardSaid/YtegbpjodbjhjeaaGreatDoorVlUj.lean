/- Layer 15: maps.Values, ranged over. -/
import Derived.Test.YtegbpjodbjhjeaaGreatDoorVlUf
import Derived.Test.YtegbpjodbjhjeaaGreatDoorVlEnv
import Derived.Test.YtegbpjodbjhjeaaGreatDoorSrt
import Derived.Test.YtegbpjodbjhjeaaGreatDoorVlSrt
set_option linter.all false
namespace Go.Proofs.YtegbpjodbjhjeaaGreatDoor
open Go Go.Vl
variable {G:Gl}
set_option maxRecDepth 4000
def tmV (t:Tm):V:=.agg (tmC t)
def mS (S:List Tm):List V:=na sv tmV (S.map fun t=>(ip t,t))
theorem fE {S:List Tm} {m:Nat}:(mS S).all (fun x=>x.ltB m)=true:=Db (fun _=>rfl) (fun _=>rfl)
theorem uf {S:List Tm} {ρ:Nat→Nat}:(mS S).map (V.ren ρ)=mS S:=Da (fun _=>rfl) (fun _=>rfl)
def gsT (l:List Tm):V:=.gs none (if l.isEmpty then none else some (47,3)) (l.map tmC)
def flV:List (Nat×V):=[(2,.bp 1 0)]
def ybV (n:Nat) (ps:Array Tmp) (ca cb:Code) (l:List Tm):List (List V):=[[.lp (lp0 n ps ca cb) flV],[gsT l]]
theorem F5 {n:Nat} {ps:Array Tmp} {ca cb:Code} {l:List Tm}:ltL 2 (ybV n ps ca cb l):=fun b hb x hx=>by
 simp only[ybV,bw,eo,jT] at hb
 rcases hb with rfl | rfl
 ·simp only[a8] at hx;subst hx
  intro p hp
  simp only[flV,bw,eo,jT] at hp
  subst hp;simp[V.ltP]
 ·simp only[a8] at hx;subst hx;trivial
def aaR (n:Nat) (ps:Array Tmp) (ca cb:Code) (S:List Tm) (r:V) (b1:List (List V)):Prop:=r=.tup []∧∃ l,l.Perm S∧b1=ybV n ps ca cb l++[mS S,[.mr 2]]
theorem vt {n:Nat} {ps:Array Tmp} {ca cb:Code} {l:List Tm} {S:List Tm}:(ybV n ps ca cb l++[mS S,[.mr 2]]).all (fun b=>b.all fun v=>v.ltB 4)=true:=by
 simp only[ybV,dt,gC,bh,bq,fE,gsT];rfl
def prS (S:List Tm):List (By×Tm):=S.map fun t=>(ip t,t)
theorem lh {S:List Tm}:(prS S).length=S.length:=ap ..
theorem A5 {S:List Tm} {j:Nat} (hj:j<(prS S).length):(prS S)[j]=(ip (S[j]'(by rw[lh] at hj;exact hj)),S[j]'(by rw[lh] at hj;exact hj)):=List.getElem_map ..
theorem TZ {S:List Tm} {s:Vl.S} {i:Nat} {seen:List Nat} {K:Option V→V→Prop} (hb:s.bx i=mS S) (hi:i<s.nb)
 (h0:(∀ b,b<S.length→b∈seen)→K none (.tup [bo false])) (h1:∀ j (hj:j<S.length),j∉seen→K (some (.it i S.length S.length (seen++[j]))) (.tup [bo true,sv (ip S[j]),tmV S[j]])):vA s (.it i S.length S.length seen) K:=by
 have h:=FG (f:=sv) (h:=tmV) (l:=prS S) (seen:=seen) (K:=K) hb hi (fun hall=>h0 fun b hb=>hall b (by rw[lh];exact hb)) (fun j hj hn=>by
  have hj2:j<S.length:=by rw[lh] at hj;exact hj
  have e:=h1 j hj2 hn
  rw[A5 hj];simp only[lh];exact e)
 rw[lh] at h;exact h
theorem OT {S:List Tm} {s:Vl.S} {i j:Nat} {seen:List Nat} {KV:V→Prop} (hb:s.bx i=mS S) (hi:i<s.nb) (hj:j<S.length) (hK:KV (.tup [sv (ip S[j]),tmV S[j]])):lD s (.it i S.length S.length (seen++[j])) KV:=by
 have hj2:j<(prS S).length:=by rw[lh];exact hj
 have h:=FH (f:=sv) (h:=tmV) (l:=prS S) (seen:=seen) (KV:=KV) hb hi hj2 (by rw[A5 hj2];exact hK)
 rw[lh] at h;exact h
theorem Dt {l:List Nat} {n:Nat} (hnd:l.Nodup) (h:∀ b∈l,b<n):l.length≤n:=by
 have:=lL hnd (m:=List.range n) fun x hx=>cz.2 (h x hx)
 simpa using this
def y2:=jj @pkA @ptA
def OU:=jj @pkA (jj @ptA @pkT)
set_option maxHeartbeats 4000000 in
theorem F6 {n:Nat} {ps:Array Tmp} {ca cb:Code} (S:List Tm) (hS:S.length≤1000000000) (hok:∀ l t,l.length<S.length→t∈S→YB Tryz.prog G [.agg (tmC t)] (ybV n ps ca cb l) (bo true) (ybV n ps ca cb (l++[t]))) :
 FnE Tryz.prog G 153 [.yl 0,.bp 3 0] (ybV n ps ca cb []++[mS S,[.mr 2]]) (aaR n ps ca cb S):=by
 refine wz (rs:=[]) (k:=4) [1100013,3000004,6] mixed Tryz.func153 rfl rfl rfl rfl (by kernel_rfl) (by simp) (fun r b1 h=>by rw[h.1];rfl) rfl rfl ?_ (fun r b1 h=>by obtain⟨_,l,_,rfl⟩:=h;exact ae _) ?_
 ·simp only[dU]
  exact bX.2 ⟨rfl,vt⟩
 simp only[y2,seval,ybV]
 have hlen:(S.map fun t=>(ip t,t)).length=S.length:=ap ..
 refine FD (f:=sv) (h:=tmV) (l:=S.map fun t=>(ip t,t)) rC rfl rfl (show 2<4 by decide) ?_
 rw[hlen]
 simp only[pkA]
 refine cZ (fun x:List Tm×List Nat=>hdS [(0,.yl 0),(6,.it 2 S.length S.length x.2)] (ybV n ps ca cb x.1++[mS S,[.mr 2]])) (fun x=>S.length - x.2.length) (fun x=>x.2.Nodup∧(∀ b∈x.2,b<S.length)∧x.1.map some=x.2.map fun j=>S[j]?) ([],[]) ⟨iq,by simp,rfl⟩ ?_ ?_
 ·exact cR (by simp only[fC];exact bX.2 ⟨rfl,vt⟩) (ae _) (ae _) (by simp[FL,ar]) ⟨rfl,rfl,rfl,rfl,trivial⟩
 rintro⟨l,seen⟩ ⟨hnd,hlt,hm⟩ R hnorm hexit hret
 simp only at hnd hlt hm
 have hll:l.length=seen.length:=by have:=kr List.length hm;simpa using this
 have hsl:=Dt hnd hlt
 simp only[pkA,seval,ybV]
 refine TZ rfl (show 2<4 by decide) (fun hall=>?_) (fun j hj hn=>?_)
 ·simp only[pkA,seval]
  refine hexit _ _ ?_
  simp only[pkA,seval]
  exact⟨.tup [],_,⟨rfl,l,JO hm hnd hlt hall,rfl⟩,dj [] rfl (by simp only[fC];exact bX.2 ⟨rfl,vt⟩) (ae _) (ae _) trivial ⟨rfl,rfl,rfl,rfl,trivial⟩ cV⟩
 ·simp only[pkA,seval]
  refine OT rfl (show 2<4 by decide) hj ?_
  simp only[OU,seval,tmV]
  have hlj:l.length<S.length:=by
   have:=Dt (l:=seen++[j]) (n:=S.length) (List.nodup_append.2 ⟨hnd,by simp,fun a ha b hb e=>by rw[a8] at hb;exact hn (by rw[← hb,← e];exact ha)⟩) (fun b hb=>by
    rcases bf.1 hb with hb | hb
    ·exact hlt b hb
    ·rw[a8] at hb;rw[hb];exact hj)
   rw[aw,dz] at this
   omega
  refine JM (Y:=ybV n ps ca cb l) (hok l S[j] hlj (aL hj)) (by simp[V.fz]) (show 0<2 by decide) rfl F5 (show 2≤5 by decide) ⟨rfl,rfl,trivial⟩ (fun _ _=>rfl) (fun bx' hoth hB=>?_)
  have b2:bx' 2=mS S:=hoth 2 (ae _)
  have b3:bx' 3=[.mr 2]:=hoth 3 (show 2≤3 by decide)
  simp only[pkA,seval]
  refine hnorm (l++[S[j]],seen++[j]) _ ⟨List.nodup_append.2 ⟨hnd,by simp,fun a ha b hb e=>by rw[a8] at hb;exact hn (by rw[← hb,← e];exact ha)⟩,fun b hb=>?_,?_⟩ ?_ (cR (by simp only[fC];exact bX.2 ⟨rfl,vt⟩) (ae _) (show 4≤5 by decide) (by simp[FL,ar]) ⟨hB.1,hB.2.1,b2,b3,trivial⟩)
  ·rcases bf.1 hb with hb | hb
   ·exact hlt b hb
   ·rw[a8] at hb;rw[hb];exact hj
  ·simp only[eK,hm,aI,bA]
   rw[ak hj]
  ·simp only[aw,dz];omega
theorem y3 {P:Program} {G:Gl} {tr:List Nat} {k0:Nat} {f:Operand} {ps:Array Tmp} {ca cb:Code} {Q:VE→Vl.S→Prop} {fr:Nat→V} {bx:Nat→List V} {nb:Nat}:fw P G tr k0 (.rangeFunc f ps ca cb) Q ⟨fr,bx,nb⟩=vrg P G tr f ps ca cb Q ⟨fr,bx,nb⟩:=rfl
theorem qE {tr:List Nat} {id:Nat} {ops:Array Oper} {s:Vl.S} {K:Vl.S→Prop} (h:Et tr id=true) (hK:GsK ops K s):spl tr id ops s K:=by
 unfold spl
 rw[if_pos h]
 exact .inr (.inr (.inr hK))
def lM:V:=.clo (.func 153) [] [.bp 1 0]
set_option maxHeartbeats 4000000 in
theorem ZK {S:List Tm} (hS:S.length≤1000000000) {tr:List Nat} {n t:Nat} {ps:Array Tmp} {ca cb:Code} {Q:VE→Vl.S→Prop} {fr:Nat→V} {bx:Nat→List V}
 (hrg:qK tr=true) (hre:tr.contains 1200001=true) (hn:rgN tr=n) (hf:fr t=lM) (h2:fr 2=.bp 2 0) (b0:bx 0=mS S) (b1:bx 1=[.mr 0]) (b2:bx 2=[gsT []])
 (hok:∀ l t,l.length<S.length→t∈S→YB Tryz.prog G [.agg (tmC t)] (ybV n ps ca cb l) (bo true) (ybV n ps ca cb (l++[t])))
 (hQ:∀ l bx',l.Perm S→bx' 0=mS S→bx' 1=[.mr 0]→bx' 2=[gsT l]→bx' 3=[.lp { lp0 n ps ca cb with state:=.exhausted } [(2,.bp 2 0)]]→Q .normal ⟨fr,bx',4⟩):vrg Tryz.prog G tr (.tmp t) ps ca cb Q ⟨fr,bx,3⟩:=by
 subst hn
 have hI:=F6 (G:=G) S hS hok
 have hc:dS (ev G ⟨fr,bx,3⟩ (.tmp t)) [.yl 3]=some (153,[.yl 3,.bp 1 0]):=by simp only[ev,hf];rfl
 refine⟨hrg,[(2,.bp 2 0)],fun q hq=>?_,⟨_,_,hc⟩,?_⟩
 ·simp only[bw,eo,jT] at hq
  subst hq;simp[h2,V.fz,V.isKR]
 ·rw[if_pos hre]
  unfold mj
  rw[hc]
  simp only
  refine⟨[3,2,0,1],_,_,_,hI,rfl,⟨rfl,by decide⟩,?_,?_⟩
  ·refine⟨⟨by decide,?_⟩,⟨by decide,?_⟩,⟨by decide,?_⟩,⟨by decide,?_⟩,trivial⟩
   ·simp[rho,up,flV,V.ren,V.renP]
   ·simp[rho,up,b2,V.ren,gsT]
   ·simp[rho,up,b0,uf]
   ·simp[rho,up,b1,V.ren]
  ·rintro r b1' ⟨rfl,l,hl,rfl⟩
   have e4:eO (rho [3,2,0,1] 4) 0 (ybV (rgN tr) ps ca cb l++[mS S,[.mr 2]]) (up bx 3 [.lp (lp0 (rgN tr) ps ca cb) [(2,.bp 2 0)]]) 3=[.lp (lp0 (rgN tr) ps ca cb) [(2,.bp 2 0)]]:=by
    simp[ybV,eO,rho,up,flV,V.ren,V.renP]
   show H2 Q 3 ⟨fr,eO (rho [3,2,0,1] 4) 0 (ybV (rgN tr) ps ca cb l++[mS S,[.mr 2]]) (up bx 3 [.lp (lp0 (rgN tr) ps ca cb) [(2,.bp 2 0)]]),4⟩
   unfold H2
   simp only[e4]
   refine⟨by simp[lp0],by decide,?_⟩
   show Q .normal ⟨fr,up _ 3 _,4⟩
   refine hQ l _ hl ?_ ?_ ?_ ?_
   ·simp[ybV,eO,rho,up,uf]
   ·simp[ybV,eO,rho,up,V.ren]
   ·simp[ybV,eO,rho,up,V.ren,gsT]
   ·simp[up]
def ZL (S:List Tm) (r:V) (b1:List (List V)):Prop:=∃ l j,l.Perm S∧r=.ms 4 0 S.length S.length 3∧b1=[mS S,[.mr 0],[.ms 4 0 S.length S.length 3],j,flb tmC l]∧j.all (fun x=>x.ltB 5)=true
set_option maxHeartbeats 4000000 in
theorem A6 (S:List Tm) (hS:S.length≤1000000000) (hne:S≠[]):FnE Tryz.prog G 172 [.c (.ex (.slice none 0 0)),lM] [mS S,[.mr 0]] (ZL S):=by
 refine wz (rs:=[.tmp 4]) (k:=2) [1200000,1200001,1300015,2300001,2300004,3000002] mixed Tryz.func172 rfl rfl rfl rfl (by kernel_rfl) (by simp) (fun r b1 h=>by obtain⟨_,_,_,rfl,_⟩:=h;rfl) rfl rfl ?_ (fun r b1 h=>by obtain⟨_,_,_,_,rfl,_⟩:=h;simp) ?_
 ·simp only[dU,bh,bq,fE,lM,aC,aJ];rfl
 simp only[pkA,seval,lM]
 refine qE rfl (.warmX 2 0 (show 2<3 by decide) rfl (.done ?_))
 simp only[pkA,seval,Vl.S.cell,y3]
 refine ZK (S:=S) (n:=15) hS rfl rfl rfl rfl rfl rfl rfl rfl ?_ ?_
 ·intro l x hl hx
  refine Zb (L:=lp0 15 #[7] _ _) (fl:=flV) (bs:=[[gsT l]]) [2850003,2400012] mixed rfl rfl ?_ ?_ ?_ ?_ ?_
  ·intro q hq;simp[lp0] at hq;subst hq;decide
  ·kernel_rfl
  ·kernel_rfl
  ·refine⟨fun y hy=>?_,F5,ae _⟩
   simp only[a8] at hy;subst hy;trivial
  ·simp only[OU,seval,frY,flV,lp0,List.zip_cons_cons,List.zip_nil_right,gG,List.foldl_nil]
   refine tY (m:=4) (n:=8) rfl rfl rfl ?_
   refine .split 1 0 12 (g:=none) (E:=if l.isEmpty then none else some (47,3)) (es:=l.map tmC) (show 1<3 by decide) rfl rfl rfl fun v _ hgv=>.done ?_
   have hlenv:∀ K,K (i64 (l.length:Int))→fB Tryz.prog 33 (.c (.ex v)) K:=fun K hK=>by
    rcases hgv with⟨blk,cap,rfl,_⟩ | ⟨h0,_,a,rfl⟩
    ·exact lR dm rfl (by rw[ap];exact hK)
    ·have:l=[]:=by cases l with
      |nil=>rfl
      |cons=>cases h0
     subst this
     exact lR dm rfl hK
   simp only[OU,seval,gsT]
   refine hlenv _ ?_
   simp only[y2,seval]
   generalize hE:(if l.isEmpty=true then none else some (47,3))=E
   have hEE:E=none∨E=some (47,3):=by
    rw[← hE];cases l<;>simp
   have hls:∀ z∈l.map tmC,z.length=3:=wQ
   have hlm:(l.map tmC).length=l.length:=ap ..
   refine jK (f:=3) (by decide +kernel) (by decide +kernel) ?_
   simp only[jL,lc,ah,Nat.reduceAdd]
   repeat' (first | exact trivial | apply And.intro)
   all_goals first
    |exact .inl (by decide +kernel)
    |refine .inr ?_
   simp only[iG,pkA,seval,tQ,rK]
   refine FI (v:=v) (E:=E) (es:=l.map tmC) (y1:=tmC (.mk 0 0 [])) (sz:=3) (by_:=40) dm rfl dc rfl rfl rfl (by decide) rfl (by simp[ar]) (by simp[ar]) ⟨by decide,by simp,by simp⟩ rfl hEE hls (b8 _) (by rw[hlm];omega) (by rw[hlm];omega) ?_
   simp only[pkA,seval]
   refine nH (f:=2) (by decide +kernel) (by decide +kernel) (.splitB 12 2 0 (g:=none) (E:=some (47,3)) (es:=l.map tmC++[tmC (.mk 0 0 [])]) (x:=.c (cI x.kind)) (by simp[]) (show 2<3 by decide) (by simp[ar,mtm]) (by simp[ar,gA]) fun v' _ hgv'=>.done ?_)
   obtain⟨blk,cap,rfl⟩:∃ blk cap,v'=.slice (some ⟨blk,0,none⟩) (l.map tmC++[tmC (.mk 0 0 [])]).length cap:=by
    rcases hgv' with⟨blk,cap,h,_⟩ | ⟨h,_⟩
    ·exact⟨blk,cap,h⟩
    ·cases hl0:l<;>simp[hl0] at h
   have hsetl:(l.map tmC++[tmC (.mk 0 0 [])]).set l.length (tmC x)=(l++[x]).map tmC:=by
    rw[List.set_append_right _ _ (by rw[hlm];exact ae _),hlm,jr,eK];rfl
   have hset:∀ g:V,((tmC x).map V.c).set 0 g=[g,.c (cI x.n),.c (tsC x.l)]:=fun g=>by rw[gA];rfl
   have hln:((l.map tmC++[tmC (.mk 0 0 [])]).length)=l.length+1:=by simp
   simp only[jL,lc,ah,Nat.reduceAdd]
   repeat' (first | exact trivial | apply And.intro)
   all_goals first
    |exact .inl (by decide +kernel)
    |refine .inr ?_
   all_goals simp only[iG,y2,seval,hset,hln]
   repeat' first
    |(refine jK (by decide +kernel) (by decide +kernel) ?_;simp only[jL,lc,ah,Nat.reduceAdd];(repeat' (first | exact trivial | apply And.intro));(all_goals (first | exact Or.inl (by decide +kernel) | refine Or.inr ?_)))
    |(refine wn (k:=l.length) dm rfl dc rfl (by decide) rfl (bn _) ?_)
    |(refine FK (b:=2) (k:=0) (len:=l.length+1) (cap:=cap) (e':=47) (sz:=3) (q:=l.length) (es:=l.map tmC++[tmC (.mk 0 0 [])]) (cs:=tmC x) dc rfl ?_ ?_ ?_ rfl (b8 _) (by decide) (by rw[hln];exact bn _) rfl ?_;(· simp);(· (simp[ar];rfl));(· simp[ar]))
    |(refine rA (by decide +kernel) ?_)
    |(simp only[iG,y2,seval])
   all_goals (
    refine .join 1 0 2 0 (v:=.slice (some ⟨blk,0,none⟩) (l.length+1) cap) (E:=some (47,3)) (es:=(l.map tmC++[tmC (.mk 0 0 [])]).set l.length (tmC x)) (show 1<3 by decide) ?_ ?_ (show 2<3 by decide) ?_ (by decide) ?_ (.unname 1 0 (g:=some (.slice (some ⟨blk,0,none⟩) (l.length+1) cap)) (E:=some (47,3)) (es:=(l.map tmC++[tmC (.mk 0 0 [])]).set l.length (tmC x)) (show 1<3 by decide) ?_ (.done ?_))
    ·simp[ar];rfl
    ·simp[ar]
    ·simp[ar];rfl
    ·simp[ar]
    ·simp[ar]
    ·simp only[pkA,seval,Vl.S.cell,hsetl]
     refine⟨rfl,_,_,⟨rfl,show 0<3 by decide⟩,[],?_⟩
     refine Nk (fun _ h=>by cases h) F5 (ae _) (show 2≤3 by decide) trivial ?_
     intro i hi
     match i,hi with
     |0,_=>simp[ybV,up,bxs,C4,lp0,flV]
     |1,_=>
      have:(l++[x]).isEmpty=false:=by cases l<;>rfl
      simp[ybV,up,bxs,gsT])
 intro l bx' hl b0 b1 b2 b3
 have hl0:l≠[]:=fun h=>by subst h;exact hne (List.nil_perm.1 hl)
 have hge:(if l.isEmpty then none else some (47,3))=some (47,3):=by cases l with
  |nil=>exact absurd rfl hl0
  |cons=>rfl
 have b2':bx' 2=[.gs none (some (47,3)) (l.map tmC)]:=by rw[b2];unfold gsT;rw[hge]
 simp only[pkA,seval]
 refine qE rfl (.box 2 0 (g:=none) (e:=47) (sz:=3) (es:=l.map tmC) (show 2<4 by decide) (by simp only[b2'];rfl) (by simp only[b2'];rfl) (.done ?_))
 simp only[y2,seval,b2',ap]
 rw[hl.length_eq]
 refine⟨.ms 4 0 S.length S.length 3,[mS S,[.mr 0],[.ms 4 0 S.length S.length 3],_,flb tmC l],⟨l,_,hl,rfl,rfl,rfl⟩,dj [(4,.ms 4 0 S.length S.length 3)] rfl ?_ (show 2≤5 by decide) (ae 5) ⟨by simp[],trivial⟩ ⟨by simp[ar,b0],by simp[ar,b1],by simp[ar],by simp only[ar];exact b3,by simp[flb],trivial⟩ (by simp[hdS,frs,fy,up])⟩
 simp only[fC,bh,bq,fE,flb,hZ,aC,aJ];rfl
def ZM (r:V) (b1:List (List V)):Prop:=r=.ow none []∧∃ j,b1=[mS [],[.mr 0],[.ow none []],j]∧j.all (fun x=>x.ltB 4)=true
set_option maxHeartbeats 4000000 in
theorem xZ:FnE Tryz.prog G 172 [.c (.ex (.slice none 0 0)),lM] [mS [],[.mr 0]] ZM:=by
 refine wz (rs:=[.tmp 4]) (k:=2) [1200000,1200001,1300015,2300001,2300004,3000002] mixed Tryz.func172 rfl rfl rfl rfl (by kernel_rfl) (by simp) (fun r b1 h=>by rw[h.1];rfl) rfl rfl ?_ (fun r b1 h=>by obtain⟨_,j,rfl,_⟩:=h;simp) ?_
 ·simp only[dU,bh,bq,fE,lM,aC,aJ];rfl
 simp only[pkA,seval,lM]
 refine qE rfl (.warmX 2 0 (show 2<3 by decide) rfl (.done ?_))
 simp only[pkA,seval,Vl.S.cell,y3]
 refine ZK (S:=[]) (n:=15) (by simp) rfl rfl rfl rfl rfl rfl rfl rfl (fun l x hl hx=>by cases hx) ?_
 intro l bx' hl b0 b1 b2 b3
 have hl0:l=[]:=List.perm_nil.1 hl
 subst hl0
 simp only[pkA,seval]
 refine qE rfl (.cool 2 0 (g:=none) (E:=none) (es:=[]) (show 2<4 by decide) (by simp only[b2];rfl) (.done ?_))
 simp only[y2,seval,b2,Vl.S.cell,gsT]
 refine⟨.ow none [],[mS [],[.mr 0],[.ow none []],_],⟨rfl,_,rfl,rfl⟩,dj [(4,.ow none [])] rfl ?_ (show 2≤4 by decide) (ae 4) ⟨by simp[],trivial⟩ ⟨by simp[ar,b0],by simp[ar,b1],by simp[],by simp only[ar];exact b3,trivial⟩ (by simp[hdS,frs,fy,up])⟩
 simp only[fC,bh,bq,fE,aC,aJ];rfl
set_option maxHeartbeats 4000000 in
theorem F7 (S:List Tm) (hS:S.length≤1000000000) (hne:S≠[]):FnE Tryz.prog G 151 [lM] [mS S,[.mr 0]] (ZL S):=by
 refine wz (rs:=[.tmp 2]) (k:=2) [1500004,3000002] mixed Tryz.func151 rfl rfl rfl rfl (by kernel_rfl) (by simp) (fun r b1 h=>by obtain⟨_,_,_,rfl,_⟩:=h;rfl) rfl rfl ?_ (fun r b1 h=>by obtain⟨_,_,_,_,rfl,_⟩:=h;simp) ?_
 ·simp only[dU,bh,bq,fE,lM,aC,aJ];rfl
 simp only[pkA,seval,lM]
 refine qB rfl (A6 S hS hne) (by simp[V.fz,lM]) rfl ⟨rfl,rfl,trivial⟩ ?_
 rintro r b1 ⟨l,j,hl,rfl,rfl,hj⟩
 simp only[pkA,seval]
 refine⟨.ms 4 0 S.length S.length 3,[mS S,[.mr 0],[.ms 4 0 S.length S.length 3],j,flb tmC l],⟨l,j,hl,rfl,rfl,hj⟩,dj [(2,.ms 4 0 S.length S.length 3)] rfl ?_ (show 2≤5 by decide) (ae 5) ⟨by simp[],trivial⟩ ⟨rfl,rfl,rfl,rfl,rfl,trivial⟩ (by simp[hdS,frs,fy,up])⟩
 simp only[fC,bh,bq,fE,flb,hZ,aC,aJ,hj];rfl
set_option maxHeartbeats 4000000 in
theorem Du:FnE Tryz.prog G 151 [lM] [mS [],[.mr 0]] ZM:=by
 refine wz (rs:=[.tmp 2]) (k:=2) [1500004,3000002] mixed Tryz.func151 rfl rfl rfl rfl (by kernel_rfl) (by simp) (fun r b1 h=>by rw[h.1];rfl) rfl rfl ?_ (fun r b1 h=>by obtain⟨_,j,rfl,_⟩:=h;simp) ?_
 ·simp only[dU,bh,bq,fE,lM,aC,aJ];rfl
 simp only[pkA,seval,lM]
 refine qB rfl xZ (by simp[V.fz,lM]) rfl ⟨rfl,rfl,trivial⟩ ?_
 rintro r b1 ⟨rfl,j,rfl,hj⟩
 simp only[pkA,seval]
 refine⟨.ow none [],[mS [],[.mr 0],[.ow none []],j],⟨rfl,j,rfl,hj⟩,dj [(2,.ow none [])] rfl ?_ (show 2≤4 by decide) (ae 4) ⟨by simp[],trivial⟩ ⟨rfl,rfl,rfl,rfl,trivial⟩ (by simp[hdS,frs,fy,up])⟩
 simp only[fC,bh,bq,fE,aC,aJ,hj];rfl
theorem OV {fr:Nat→V} {bx:Nat→List V} {nb:Nat} {K:Vl.S→Prop} {t d:Tmp} {i:Nat} (h:fr t=.mr i):boxK (some t) d (.mr i) ⟨fr,bx,nb⟩ K=K ⟨up fr d (.bp nb 0),up bx nb [.mr i],nb+1⟩:=by
 simp[boxK,V.bcells,fR,h,Vl.S.put,V.isOw]
theorem Dv:kw .nilFunc=.c (.lit .nilFunc):=rfl
set_option maxHeartbeats 4000000 in
theorem Kd (S:List Tm):FnB Tryz.prog G 127 [.mr 0] [mS S] lM [mS S,[.mr 0]]:=by
 refine lH (rs:=[.tmp 2]) (k:=1) [3000001] mixed Tryz.func127 rfl rfl rfl rfl (by kernel_rfl) (by simp) rfl rfl rfl (by simp only[dU,bh,bq,fE,aC,aJ];rfl) (by simp) ?_
 simp only[pkA,seval,OV,Dv]
 exact dj [(2,lM)] rfl (by simp only[fC,bh,bq,fE,lM,aC,aJ];rfl) (show 1≤2 by decide) (ae 2) ⟨by simp[lM],trivial⟩ ⟨rfl,rfl,trivial⟩ rfl
abbrev Ts:={ t:Tm // bu t≤1000000000 }
def rF (t:Ts):List C:=tmC t.1
def XR (x y:Ts):Int:=jO x.1 y.1
theorem ou (x y:Ts):ltOf XR x y=ltT x.1 y.1:=rfl
theorem T0:Go.Sort.SWO (ltOf XR) where
 irrefl x:=by rw[ou];exact pd _
 trans x y z h1 h2:=by rw[ou] at *;exact qD h1 h2
 ntrans x y z h1 h2:=by
  rw[ou] at *
  cases h:ltT x.1 z.1 with
  |false=>rfl
  |true=>
   cases h3:ltT y.1 x.1 with
   |true=>rw[qD h3 h] at h2;cases h2
   |false=>
    have:=AU h1 h3
    rw[this] at h;rw[h] at h2;cases h2
theorem Hg:∃ fn,Tryz.prog.funcs[152]?=some fn∧(fn.name== "runtime.NumGoroutine")=false∧∃ b,fn.body=some b:=⟨_,Tryz.func152,rfl,_,rfl⟩
theorem F8 {l m:List Tm} (h1:l.Nodup) (h2:m.Nodup) (h:∀ x,x∈l↔x∈m):l.Perm m:=(ir h1 h2).2 h
theorem Dw {α β:Type} {f:α→β} (hf:∀ x y,f x=f y→x=y) {l m:List α} (h1:(l.map f).Nodup) (h2:(m.map f).Nodup) (h:∀ y,y∈l.map f↔y∈m.map f):l.Perm m:=by
 have n1:l.Nodup:=(List.pairwise_map.1 h1).imp fun h e=>h (by rw[e])
 have n2:m.Nodup:=(List.pairwise_map.1 h2).imp fun h e=>h (by rw[e])
 refine (ir n1 n2).2 fun x=>⟨fun hx=>?_,fun hx=>?_⟩
 ·obtain⟨y,hy,e⟩:=bF.1 ((h (f x)).1 (bF.2 ⟨x,hx,rfl⟩))
  rw[← hf _ _ e];exact hy
 ·obtain⟨y,hy,e⟩:=bF.1 ((h (f x)).2 (bF.2 ⟨x,hx,rfl⟩))
  rw[← hf _ _ e];exact hy
theorem Hh {l:List Tm} (h:∀ t∈l,bu t≤1000000000):flb rF (l.attachWith _ h)=flb tmC l:=by
 unfold flb
 have:(l.attachWith _ h).map rF=l.map tmC:=by
  have e:(l.attachWith _ h).map rF=((l.attachWith _ h).map Subtype.val).map tmC:=by rw[fM];rfl
  rw[e,dQ]
 rw[this]
theorem T8 (l:List Tm) (hs:∀ t∈l,bu t≤1000000000) (hnd:l.Nodup) (hl:l.length<4611686018427387904) (cap:Nat) (hc:l.length≤cap) :
 FnB Tryz.prog G 152 [.ms 0 0 l.length cap 3,.c (.fn (.func 91) [] [])] [flb tmC l] (.tup []) [flb tmC (jP l)]:=by
 have hs':∀ t∈jP l,bu t≤1000000000:=fun t ht=>hs t (iy.1 ht)
 have h:=De (P:=Tryz.prog) (G:=G) (ρ:=Tryz.sortTm_ren) (c:=rF) Tryz.sortTm Hg Tryz.isAgg47 Tryz.sizeOf47 (fun t=>b8 t.1) (by decide) ⟨.mk 0 0 [],by decide⟩ [.int .i64 0,.int .i64 0,.slice none 0 0] rfl (fun v hv=>by simp at hv;rcases hv with rfl | rfl | rfl<;>rfl)
  (fun I w j x hx=>by
   match j with
   |0 | 1=>simp only[rF,tmC,J8,cI,bD,cn,am] at hx;subst hx;exact .lit _ rfl
   |2=>simp only[rF,tmC,J8,cI,bD,cn,am] at hx;subst hx;exact .nil none 0 (fun _=>rfl)
   |j+3=>simp[rF,tmC] at hx)
  XR T0 91 [] (enters_of Tryz.func91 (by kernel_rfl) rfl) (fun x y=>rE x.1 y.1 x.2 y.2) (l.attachWith _ hs) ((jP l).attachWith _ hs') (by simpa using hl)
  (Dw (f:=Subtype.val) (fun x y h=>Subtype.ext h) (by rw[dQ];exact(jq l).nodup) (by rw[dQ];exact hnd) (fun y=>by rw[dQ,dQ];exact iy))
  (by
   have hp:((jP l).attachWith _ hs').Pairwise fun x y=>ltT x.1 y.1=true:=by
    have:=jq l
    rw[← List.pairwise_map (f:=Subtype.val) (R:=fun x y=>ltT x y=true),dQ];exact this
   exact hp.imp fun h=>by rw[ou];exact yN h)
  (fun x _ y _ h1 h2=>by rw[ou] at h1 h2;exact Subtype.ext (AU h1 h2)) cap (by simpa using hc)
 rw[Hh,Hh,List.length_attachWith] at h
 exact h
theorem OW {x:C}:FnOK Tryz.prog G 152 [.c (.sl []),.c x] (.tup []):=
 qS (ρ:=Tryz.sortTm_ren) Tryz.sortTm Hg
