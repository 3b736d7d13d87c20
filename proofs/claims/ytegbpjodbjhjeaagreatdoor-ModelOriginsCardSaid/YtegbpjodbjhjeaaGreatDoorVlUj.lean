/- Layer 15: maps.Values, ranged over. -/
import Derived.Test.YtegbpjodbjhjeaaGreatDoorVlUf
import Derived.Test.YtegbpjodbjhjeaaGreatDoorVlEnv
import Derived.Test.YtegbpjodbjhjeaaGreatDoorSrt
import Derived.Test.YtegbpjodbjhjeaaGreatDoorVlSrt
set_option maxHeartbeats 4000000
set_option linter.all false
namespace Go.Proofs.YtegbpjodbjhjeaaGreatDoor
open Go Go.Vl
variable {G:Gl}
set_option maxRecDepth 4000
def tmV (t:Tm):V:=.agg (tmC t)
def mS (S:List Tm):List V:=oZ sv tmV (S.map fun t=>(jf t,t))
theorem gj {S:List Tm} {m:Nat}:(mS S).all (fun x=>x.ltB m)=true:=GM (fun _=>rfl) (fun _=>rfl)
theorem xp {S:List Tm} {ρ:Nat→Nat}:(mS S).map (V.ren ρ)=mS S:=GL (fun _=>rfl) (fun _=>rfl)
def gsT (l:List Tm):V:=.gs none (if l.isEmpty then none else some (47,3)) (l.map tmC)
def flV:List (Nat×V):=[(2,.bp 1 0)]
def ybV (n:Nat) (ps:Array Tmp) (ca cb:Code) (l:List Tm):List (List V):=[[.lp (lp0 n ps ca cb) flV],[gsT l]]
theorem JH {n:Nat} {ps:Array Tmp} {ca cb:Code} {l:List Tm}:ltL 2 (ybV n ps ca cb l):=fun b hb x hx=>by
 simp only[ybV,bw,eO,kT] at hb
 rcases hb with rfl | rfl
 ·simp only[aN] at hx;subst hx
  intro p hp
  simp only[flV,bw,eO,kT] at hp
  subst hp;simp[V.ltP]
 ·simp only[aN] at hx;subst hx;trivial
def afW (n:Nat) (ps:Array Tmp) (ca cb:Code) (S:List Tm) (r:V) (b1:List (List V)):Prop:=r=.tup []∧∃ l,l.Perm S∧b1=ybV n ps ca cb l++[mS S,[.mr 2]]
theorem yV {n:Nat} {ps:Array Tmp} {ca cb:Code} {l:List Tm} {S:List Tm}:(ybV n ps ca cb l++[mS S,[.mr 2]]).all (fun b=>b.all fun v=>v.ltB 4)=true:=by
 simp only[ybV,dC,fS,aR,bb,gj,gsT];rfl
def prS (S:List Tm):List (By×Tm):=S.map fun t=>(jf t,t)
theorem mD {S:List Tm}:(prS S).length=S.length:=ap ..
theorem Ep {S:List Tm} {j:Nat} (hj:j<(prS S).length):(prS S)[j]=(jf (S[j]'(by rw[mD] at hj;exact hj)),S[j]'(by rw[mD] at hj;exact hj)):=List.getElem_map ..
theorem W0 {S:List Tm} {s:Vl.S} {i:Nat} {seen:List Nat} {K:Option V→V→Prop} (hb:s.bx i=mS S) (hi:i<s.nb)
 (h0:(∀ b,b<S.length→b∈seen)→K none (.tup [bo false])) (h1:∀ j (hj:j<S.length),j∉seen→K (some (.it i S.length S.length (seen++[j]))) (.tup [bo true,sv (jf S[j]),tmV S[j]])):y3 s (.it i S.length S.length seen) K:=by
 have h:=Jo (f:=sv) (h:=tmV) (l:=prS S) (seen:=seen) (K:=K) hb hi (fun dh=>h0 fun b hb=>dh b (by rw[mD];exact hb)) (fun j hj hn=>by
  have Uz:j<S.length:=by rw[mD] at hj;exact hj
  have e:=h1 j Uz hn
  rw[Ep hj];simp only[mD];exact e)
 rw[mD] at h;exact h
theorem SK {S:List Tm} {s:Vl.S} {i j:Nat} {seen:List Nat} {KV:V→Prop} (hb:s.bx i=mS S) (hi:i<s.nb) (hj:j<S.length) (hK:KV (.tup [sv (jf S[j]),tmV S[j]])):mT s (.it i S.length S.length (seen++[j])) KV:=by
 have Uz:j<(prS S).length:=by rw[mD];exact hj
 have h:=Jp (f:=sv) (h:=tmV) (l:=prS S) (seen:=seen) (KV:=KV) hb hi Uz (by rw[Ep Uz];exact hK)
 rw[mD] at h;exact h
theorem G7 {l:List Nat} {n:Nat} (pA:l.Nodup) (h:∀ b∈l,b<n):l.length≤n:=by
 have:=ma pA (m:=List.range n) fun x hx=>cO.2 (h x hx)
 simpa using this
def Ch:=jj @pkA @ptA
def SL:=jj @pkA (jj @ptA @pkT)
theorem JI {n:Nat} {ps:Array Tmp} {ca cb:Code} (S:List Tm) (hS:S.length≤1000000000) (dI:∀ l t,l.length<S.length→t∈S→YB Tryz.prog G [.agg (tmC t)] (ybV n ps ca cb l) (bo true) (ybV n ps ca cb (l++[t]))) :
 FnE Tryz.prog G 153 [.yl 0,.bp 3 0] (ybV n ps ca cb []++[mS S,[.mr 2]]) (afW n ps ca cb S):=by
 refine zV (rs:=[]) (k:=4) [1100013,3000004,6] mixed Tryz.func153 rfl rfl rfl rfl (by kernel_rfl) (by simp) (fun r b1 h=>by rw[h.1];rfl) rfl rfl ?_ (fun r b1 h=>by obtain⟨_,l,_,rfl⟩:=h;exact ae _) ?_
 ·simp only[eC]
  exact b9.2 ⟨rfl,yV⟩
 simp only[Ch,seval,ybV]
 have ce:(S.map fun t=>(jf t,t)).length=S.length:=ap ..
 refine Jn (f:=sv) (h:=tmV) (l:=S.map fun t=>(jf t,t)) uH rfl rfl (show 2<4 by decide) ?_
 rw[ce]
 simp only[pkA]
 refine cF (fun x:List Tm×List Nat=>hdS [(0,.yl 0),(6,.it 2 S.length S.length x.2)] (ybV n ps ca cb x.1++[mS S,[.mr 2]])) (fun x=>S.length - x.2.length) (fun x=>x.2.Nodup∧(∀ b∈x.2,b<S.length)∧x.1.map some=x.2.map fun j=>S[j]?) ([],[]) ⟨g8,by simp,rfl⟩ ?_ ?_
 ·exact cj (by simp only[eW];exact b9.2 ⟨rfl,yV⟩) (ae _) (ae _) (by simp[FL,ar]) ⟨rfl,rfl,rfl,rfl,trivial⟩
 rintro⟨l,seen⟩ ⟨pA,bF,hm⟩ R ck cG dn
 simp only at pA bF hm
 have Mo:l.length=seen.length:=by have:=jz List.length hm;simpa using this
 have Mg:=G7 pA bF
 simp only[pkA,seval,ybV]
 refine W0 rfl (show 2<4 by decide) (fun dh=>?_) (fun j hj hn=>?_)
 ·simp only[pkA,seval]
  refine cG _ _ ?_
  simp only[pkA,seval]
  exact⟨.tup [],_,⟨rfl,l,NT hm pA bF dh,rfl⟩,dJ [] rfl (by simp only[eW];exact b9.2 ⟨rfl,yV⟩) (ae _) (ae _) trivial ⟨rfl,rfl,rfl,rfl,trivial⟩ dl⟩
 ·simp only[pkA,seval]
  refine SK rfl (show 2<4 by decide) hj ?_
  simp only[SL,seval,tmV]
  have hlj:l.length<S.length:=by
   have:=G7 (l:=seen++[j]) (n:=S.length) (List.nodup_append.2 ⟨pA,by simp,fun a ha b hb e=>by rw[aN] at hb;exact hn (by rw[← hb,← e];exact ha)⟩) (fun b hb=>by
    rcases aY.1 hb with hb | hb
    ·exact bF b hb
    ·rw[aN] at hb;rw[hb];exact hj)
   rw[ax,da] at this
   omega
  refine NS (Y:=ybV n ps ca cb l) (dI l S[j] hlj (aF hj)) (by simp[V.fz]) (show 0<2 by decide) rfl JH (show 2≤5 by decide) ⟨rfl,rfl,trivial⟩ (fun _ _=>rfl) (fun bx' wz hB=>?_)
  have b2:bx' 2=mS S:=wz 2 (ae _)
  have b3:bx' 3=[.mr 2]:=wz 3 (show 2≤3 by decide)
  simp only[pkA,seval]
  refine ck (l++[S[j]],seen++[j]) _ ⟨List.nodup_append.2 ⟨pA,by simp,fun a ha b hb e=>by rw[aN] at hb;exact hn (by rw[← hb,← e];exact ha)⟩,fun b hb=>?_,?_⟩ ?_ (cj (by simp only[eW];exact b9.2 ⟨rfl,yV⟩) (ae _) (show 4≤5 by decide) (by simp[FL,ar]) ⟨hB.1,hB.2.1,b2,b3,trivial⟩)
  ·rcases aY.1 hb with hb | hb
   ·exact bF b hb
   ·rw[aN] at hb;rw[hb];exact hj
  ·simp only[dG,hm,aL,bE]
   rw[aj hj]
  ·simp only[ax,da];omega
theorem Ci {P:Program} {G:Gl} {tr:List Nat} {k0:Nat} {f:Operand} {ps:Array Tmp} {ca cb:Code} {Q:VE→Vl.S→Prop} {fr:Nat→V} {bx:Nat→List V} {nb:Nat}:gy P G tr k0 (.rangeFunc f ps ca cb) Q ⟨fr,bx,nb⟩=vrg P G tr f ps ca cb Q ⟨fr,bx,nb⟩:=rfl
theorem tA {tr:List Nat} {id:Nat} {ops:Array Oper} {s:Vl.S} {K:Vl.S→Prop} (h:Ms tr id=true) (hK:GsK ops K s):spl tr id ops s K:=by
 unfold spl
 rw[if_pos h]
 exact .inr (.inr (.inr hK))
def m3:V:=.clo (.func 153) [] [.bp 1 0]
theorem adx {S:List Tm} (hS:S.length≤1000000000) {tr:List Nat} {n t:Nat} {ps:Array Tmp} {ca cb:Code} {Q:VE→Vl.S→Prop} {fr:Nat→V} {bx:Nat→List V}
 (tO:tR tr=true) (hre:tr.contains 1200001=true) (hn:rgN tr=n) (hf:fr t=m3) (h2:fr 2=.bp 2 0) (b0:bx 0=mS S) (b1:bx 1=[.mr 0]) (b2:bx 2=[gsT []])
 (dI:∀ l t,l.length<S.length→t∈S→YB Tryz.prog G [.agg (tmC t)] (ybV n ps ca cb l) (bo true) (ybV n ps ca cb (l++[t])))
 (hQ:∀ l bx',l.Perm S→bx' 0=mS S→bx' 1=[.mr 0]→bx' 2=[gsT l]→bx' 3=[.lp { lp0 n ps ca cb with state:=.exhausted } [(2,.bp 2 0)]]→Q .normal ⟨fr,bx',4⟩):vrg Tryz.prog G tr (.tmp t) ps ca cb Q ⟨fr,bx,3⟩:=by
 subst hn
 have hI:=JI (G:=G) S hS dI
 have hc:ew (ev G ⟨fr,bx,3⟩ (.tmp t)) [.yl 3]=some (153,[.yl 3,.bp 1 0]):=by simp only[ev,hf];rfl
 refine⟨tO,[(2,.bp 2 0)],fun q hq=>?_,⟨_,_,hc⟩,?_⟩
 ·simp only[bw,eO,kT] at hq
  subst hq;simp[h2,V.fz,V.isKR]
 ·rw[if_pos hre]
  unfold nJ
  rw[hc]
  simp only
  refine⟨[3,2,0,1],_,_,_,hI,rfl,⟨rfl,by decide⟩,?_,?_⟩
  ·refine⟨⟨by decide,?_⟩,⟨by decide,?_⟩,⟨by decide,?_⟩,⟨by decide,?_⟩,trivial⟩
   ·simp[rho,up,flV,V.ren,V.renP]
   ·simp[rho,up,b2,V.ren,gsT]
   ·simp[rho,up,b0,xp]
   ·simp[rho,up,b1,V.ren]
  ·rintro r b1' ⟨rfl,l,hl,rfl⟩
   have e4:ff (rho [3,2,0,1] 4) 0 (ybV (rgN tr) ps ca cb l++[mS S,[.mr 2]]) (up bx 3 [.lp (lp0 (rgN tr) ps ca cb) [(2,.bp 2 0)]]) 3=[.lp (lp0 (rgN tr) ps ca cb) [(2,.bp 2 0)]]:=by
    simp[ybV,ff,rho,up,flV,V.ren,V.renP]
   show Mr Q 3 ⟨fr,ff (rho [3,2,0,1] 4) 0 (ybV (rgN tr) ps ca cb l++[mS S,[.mr 2]]) (up bx 3 [.lp (lp0 (rgN tr) ps ca cb) [(2,.bp 2 0)]]),4⟩
   unfold Mr
   simp only[e4]
   refine⟨by simp[lp0],by decide,?_⟩
   show Q .normal ⟨fr,up _ 3 _,4⟩
   refine hQ l _ hl ?_ ?_ ?_ ?_
   ·simp[ybV,ff,rho,up,xp]
   ·simp[ybV,ff,rho,up,V.ren]
   ·simp[ybV,ff,rho,up,V.ren,gsT]
   ·simp[up]
def ady (S:List Tm) (r:V) (b1:List (List V)):Prop:=∃ l j,l.Perm S∧r=.ms 4 0 S.length S.length 3∧b1=[mS S,[.mr 0],[.ms 4 0 S.length S.length 3],j,flb tmC l]∧j.all (fun x=>x.ltB 5)=true
theorem Er (S:List Tm) (hS:S.length≤1000000000) (gv:S≠[]):FnE Tryz.prog G 172 [.c (.ex (.slice none 0 0)),m3] [mS S,[.mr 0]] (ady S):=by
 refine zV (rs:=[.tmp 4]) (k:=2) [1200000,1200001,1300015,2300001,2300004,3000002] mixed Tryz.func172 rfl rfl rfl rfl (by kernel_rfl) (by simp) (fun r b1 h=>by obtain⟨_,_,_,rfl,_⟩:=h;rfl) rfl rfl ?_ (fun r b1 h=>by obtain⟨_,_,_,_,rfl,_⟩:=h;simp) ?_
 ·simp only[eC,aR,bb,gj,m3,aB,aK];rfl
 simp only[pkA,seval,m3]
 refine tA rfl (.warmX 2 0 (show 2<3 by decide) rfl (.done ?_))
 simp only[pkA,seval,Vl.S.cell,Ci]
 refine adx (S:=S) (n:=15) hS rfl rfl rfl rfl rfl rfl rfl rfl ?_ ?_
 ·intro l x hl hx
  refine ac5 (L:=lp0 15 #[7] _ _) (fl:=flV) (bs:=[[gsT l]]) [2850003,2400012] mixed rfl rfl ?_ ?_ ?_ ?_ ?_
  ·intro q hq;simp[lp0] at hq;subst hq;decide
  ·kernel_rfl
  ·kernel_rfl
  ·refine⟨fun y hy=>?_,JH,ae _⟩
   simp only[aN] at hy;subst hy;trivial
  ·simp only[SL,seval,frY,flV,lp0,List.zip_cons_cons,List.zip_nil_right,iz,List.foldl_nil]
   refine xe (m:=4) (n:=8) rfl rfl rfl ?_
   refine .split 1 0 12 (g:=none) (E:=if l.isEmpty then none else some (47,3)) (es:=l.map tmC) (show 1<3 by decide) rfl rfl rfl fun v _ hgv=>.done ?_
   have H8:∀ K,K (i64 (l.length:Int))→lC Tryz.prog 33 (.c (.ex v)) K:=fun K hK=>by
    rcases hgv with⟨blk,cap,rfl,_⟩ | ⟨h0,_,a,rfl⟩
    ·exact m9 dq rfl (by rw[ap];exact hK)
    ·have:l=[]:=by cases l with
      |nil=>rfl
      |cons=>cases h0
     subst this
     exact m9 dq rfl hK
   simp only[SL,seval,gsT]
   refine H8 _ ?_
   simp only[Ch,seval]
   generalize hE:(if l.isEmpty=true then none else some (47,3))=E
   have XR:E=none∨E=some (47,3):=by
    rw[← hE];cases l<;>simp
   have u3:∀ z∈l.map tmC,z.length=3:=Ak
   have tP:(l.map tmC).length=l.length:=ap ..
   refine kK (f:=3) (by decide +kernel) (by decide +kernel) ?_
   simp only[kL,mw,ah,Nat.reduceAdd]
   repeat' (first | exact trivial | apply And.intro)
   all_goals first
    |exact .inl (by decide +kernel)
    |refine .inr ?_
   simp only[jr,pkA,seval,wY,wJ]
   refine Jq (v:=v) (E:=E) (es:=l.map tmC) (y1:=tmC (.mk 0 0 [])) (sz:=3) (by_:=40) dq rfl di rfl rfl rfl (by decide) rfl (by simp[ar]) (by simp[ar]) ⟨by decide,by simp,by simp⟩ rfl XR u3 (bI _) (by rw[tP];omega) (by rw[tP];omega) ?_
   simp only[pkA,seval]
   refine pL (f:=2) (by decide +kernel) (by decide +kernel) (.splitB 12 2 0 (g:=none) (E:=some (47,3)) (es:=l.map tmC++[tmC (.mk 0 0 [])]) (x:=.c (cI x.kind)) (by simp[]) (show 2<3 by decide) (by simp[ar,mtm]) (by simp[ar,jX]) fun v' _ UB=>.done ?_)
   obtain⟨blk,cap,rfl⟩:∃ blk cap,v'=.slice (some ⟨blk,0,none⟩) (l.map tmC++[tmC (.mk 0 0 [])]).length cap:=by
    rcases UB with⟨blk,cap,h,_⟩ | ⟨h,_⟩
    ·exact⟨blk,cap,h⟩
    ·cases AP:l<;>simp[AP] at h
   have H9:(l.map tmC++[tmC (.mk 0 0 [])]).set l.length (tmC x)=(l++[x]).map tmC:=by
    rw[List.set_append_right _ _ (by rw[tP];exact ae _),tP,kj,dG];rfl
   have gp:∀ g:V,((tmC x).map V.c).set 0 g=[g,.c (cI x.n),.c (tsC x.l)]:=fun g=>by rw[jX];rfl
   have Y8:((l.map tmC++[tmC (.mk 0 0 [])]).length)=l.length+1:=by simp
   simp only[kL,mw,ah,Nat.reduceAdd]
   repeat' (first | exact trivial | apply And.intro)
   all_goals first
    |exact .inl (by decide +kernel)
    |refine .inr ?_
   all_goals simp only[jr,Ch,seval,gp,Y8]
   repeat' first
    |(refine kK (by decide +kernel) (by decide +kernel) ?_;simp only[kL,mw,ah,Nat.reduceAdd];(repeat' (first | exact trivial | apply And.intro));(all_goals (first | exact Or.inl (by decide +kernel) | refine Or.inr ?_)))
    |(refine zO (k:=l.length) dq rfl di rfl (by decide) rfl (bq _) ?_)
    |(refine Jr (b:=2) (k:=0) (len:=l.length+1) (cap:=cap) (e':=47) (sz:=3) (q:=l.length) (es:=l.map tmC++[tmC (.mk 0 0 [])]) (cs:=tmC x) di rfl ?_ ?_ ?_ rfl (bI _) (by decide) (by rw[Y8];exact bq _) rfl ?_;(· simp);(· (simp[ar];rfl));(· simp[ar]))
    |(refine uF (by decide +kernel) ?_)
    |(simp only[jr,Ch,seval])
   all_goals (
    refine .join 1 0 2 0 (v:=.slice (some ⟨blk,0,none⟩) (l.length+1) cap) (E:=some (47,3)) (es:=(l.map tmC++[tmC (.mk 0 0 [])]).set l.length (tmC x)) (show 1<3 by decide) ?_ ?_ (show 2<3 by decide) ?_ (by decide) ?_ (.unname 1 0 (g:=some (.slice (some ⟨blk,0,none⟩) (l.length+1) cap)) (E:=some (47,3)) (es:=(l.map tmC++[tmC (.mk 0 0 [])]).set l.length (tmC x)) (show 1<3 by decide) ?_ (.done ?_))
    ·simp[ar];rfl
    ·simp[ar]
    ·simp[ar];rfl
    ·simp[ar]
    ·simp[ar]
    ·simp only[pkA,seval,Vl.S.cell,H9]
     refine⟨rfl,_,_,⟨rfl,show 0<3 by decide⟩,[],?_⟩
     refine Rc (fun _ h=>by cases h) JH (ae _) (show 2≤3 by decide) trivial ?_
     intro i hi
     match i,hi with
     |0,_=>simp[ybV,up,bxs,GB,lp0,flV]
     |1,_=>
      have:(l++[x]).isEmpty=false:=by cases l<;>rfl
      simp[ybV,up,bxs,gsT])
 intro l bx' hl b0 b1 b2 b3
 have AP:l≠[]:=fun h=>by subst h;exact gv (List.nil_perm.1 hl)
 have ga:(if l.isEmpty then none else some (47,3))=some (47,3):=by cases l with
  |nil=>exact absurd rfl AP
  |cons=>rfl
 have b2':bx' 2=[.gs none (some (47,3)) (l.map tmC)]:=by rw[b2];unfold gsT;rw[ga]
 simp only[pkA,seval]
 refine tA rfl (.box 2 0 (g:=none) (e:=47) (sz:=3) (es:=l.map tmC) (show 2<4 by decide) (by simp only[b2'];rfl) (by simp only[b2'];rfl) (.done ?_))
 simp only[Ch,seval,b2',ap]
 rw[hl.length_eq]
 refine⟨.ms 4 0 S.length S.length 3,[mS S,[.mr 0],[.ms 4 0 S.length S.length 3],_,flb tmC l],⟨l,_,hl,rfl,rfl,rfl⟩,dJ [(4,.ms 4 0 S.length S.length 3)] rfl ?_ (show 2≤5 by decide) (ae 5) ⟨by simp[],trivial⟩ ⟨by simp[ar,b0],by simp[ar,b1],by simp[ar],by simp only[ar];exact b3,by simp[flb],trivial⟩ (by simp[hdS,frs,fW,up])⟩
 simp only[eW,aR,bb,gj,flb,gd,aB,aK];rfl
def adz (r:V) (b1:List (List V)):Prop:=r=.ow none []∧∃ j,b1=[mS [],[.mr 0],[.ow none []],j]∧j.all (fun x=>x.ltB 4)=true
theorem Bj:FnE Tryz.prog G 172 [.c (.ex (.slice none 0 0)),m3] [mS [],[.mr 0]] adz:=by
 refine zV (rs:=[.tmp 4]) (k:=2) [1200000,1200001,1300015,2300001,2300004,3000002] mixed Tryz.func172 rfl rfl rfl rfl (by kernel_rfl) (by simp) (fun r b1 h=>by rw[h.1];rfl) rfl rfl ?_ (fun r b1 h=>by obtain⟨_,j,rfl,_⟩:=h;simp) ?_
 ·simp only[eC,aR,bb,gj,m3,aB,aK];rfl
 simp only[pkA,seval,m3]
 refine tA rfl (.warmX 2 0 (show 2<3 by decide) rfl (.done ?_))
 simp only[pkA,seval,Vl.S.cell,Ci]
 refine adx (S:=[]) (n:=15) (by simp) rfl rfl rfl rfl rfl rfl rfl rfl (fun l x hl hx=>by cases hx) ?_
 intro l bx' hl b0 b1 b2 b3
 have AP:l=[]:=List.perm_nil.1 hl
 subst AP
 simp only[pkA,seval]
 refine tA rfl (.cool 2 0 (g:=none) (E:=none) (es:=[]) (show 2<4 by decide) (by simp only[b2];rfl) (.done ?_))
 simp only[Ch,seval,b2,Vl.S.cell,gsT]
 refine⟨.ow none [],[mS [],[.mr 0],[.ow none []],_],⟨rfl,_,rfl,rfl⟩,dJ [(4,.ow none [])] rfl ?_ (show 2≤4 by decide) (ae 4) ⟨by simp[],trivial⟩ ⟨by simp[ar,b0],by simp[ar,b1],by simp[],by simp only[ar];exact b3,trivial⟩ (by simp[hdS,frs,fW,up])⟩
 simp only[eW,aR,bb,gj,aB,aK];rfl
theorem JJ (S:List Tm) (hS:S.length≤1000000000) (gv:S≠[]):FnE Tryz.prog G 151 [m3] [mS S,[.mr 0]] (ady S):=by
 refine zV (rs:=[.tmp 2]) (k:=2) [1500004,3000002] mixed Tryz.func151 rfl rfl rfl rfl (by kernel_rfl) (by simp) (fun r b1 h=>by obtain⟨_,_,_,rfl,_⟩:=h;rfl) rfl rfl ?_ (fun r b1 h=>by obtain⟨_,_,_,_,rfl,_⟩:=h;simp) ?_
 ·simp only[eC,aR,bb,gj,m3,aB,aK];rfl
 simp only[pkA,seval,m3]
 refine tu rfl (Er S hS gv) (by simp[V.fz,m3]) rfl ⟨rfl,rfl,trivial⟩ ?_
 rintro r b1 ⟨l,j,hl,rfl,rfl,hj⟩
 simp only[pkA,seval]
 refine⟨.ms 4 0 S.length S.length 3,[mS S,[.mr 0],[.ms 4 0 S.length S.length 3],j,flb tmC l],⟨l,j,hl,rfl,rfl,hj⟩,dJ [(2,.ms 4 0 S.length S.length 3)] rfl ?_ (show 2≤5 by decide) (ae 5) ⟨by simp[],trivial⟩ ⟨rfl,rfl,rfl,rfl,rfl,trivial⟩ (by simp[hdS,frs,fW,up])⟩
 simp only[eW,aR,bb,gj,flb,gd,aB,aK,hj];rfl
theorem G8:FnE Tryz.prog G 151 [m3] [mS [],[.mr 0]] adz:=by
 refine zV (rs:=[.tmp 2]) (k:=2) [1500004,3000002] mixed Tryz.func151 rfl rfl rfl rfl (by kernel_rfl) (by simp) (fun r b1 h=>by rw[h.1];rfl) rfl rfl ?_ (fun r b1 h=>by obtain⟨_,j,rfl,_⟩:=h;simp) ?_
 ·simp only[eC,aR,bb,gj,m3,aB,aK];rfl
 simp only[pkA,seval,m3]
 refine tu rfl Bj (by simp[V.fz,m3]) rfl ⟨rfl,rfl,trivial⟩ ?_
 rintro r b1 ⟨rfl,j,rfl,hj⟩
 simp only[pkA,seval]
 refine⟨.ow none [],[mS [],[.mr 0],[.ow none []],j],⟨rfl,j,rfl,hj⟩,dJ [(2,.ow none [])] rfl ?_ (show 2≤4 by decide) (ae 4) ⟨by simp[],trivial⟩ ⟨rfl,rfl,rfl,rfl,trivial⟩ (by simp[hdS,frs,fW,up])⟩
 simp only[eW,aR,bb,gj,aB,aK,hj];rfl
theorem SN {fr:Nat→V} {bx:Nat→List V} {nb:Nat} {K:Vl.S→Prop} {t d:Tmp} {i:Nat} (h:fr t=.mr i):boxK (some t) d (.mr i) ⟨fr,bx,nb⟩ K=K ⟨up fr d (.bp nb 0),up bx nb [.mr i],nb+1⟩:=by
 simp[boxK,V.bcells,mn,h,Vl.S.put,V.isOw]
theorem G9:mg .nilFunc=.c (.lit .nilFunc):=rfl
theorem Oi (S:List Tm):FnB Tryz.prog G 127 [.mr 0] [mS S] m3 [mS S,[.mr 0]]:=by
 refine mY (rs:=[.tmp 2]) (k:=1) [3000001] mixed Tryz.func127 rfl rfl rfl rfl (by kernel_rfl) (by simp) rfl rfl rfl (by simp only[eC,aR,bb,gj,aB,aK];rfl) (by simp) ?_
 simp only[pkA,seval,SN,G9]
 exact dJ [(2,m3)] rfl (by simp only[eW,aR,bb,gj,m3,aB,aK];rfl) (show 1≤2 by decide) (ae 2) ⟨by simp[m3],trivial⟩ ⟨rfl,rfl,trivial⟩ rfl
abbrev Ts:={ t:Tm // br t≤1000000000 }
def uN (t:Ts):List C:=tmC t.1
def aaT (x y:Ts):Int:=jK x.1 y.1
theorem qp (x y:Ts):ltOf aaT x y=ltT x.1 y.1:=rfl
theorem W1:Go.Sort.SWO (ltOf aaT) where
 irrefl x:=by rw[qp];exact qX _
 trans x y z h1 h2:=by rw[qp] at *;exact tz h1 h2
 ntrans x y z h1 h2:=by
  rw[qp] at *
  cases h:ltT x.1 z.1 with
  |false=>rfl
  |true=>
   cases h3:ltT y.1 x.1 with
   |true=>rw[tz h3 h] at h2;cases h2
   |false=>
    have:=Ec h1 h3
    rw[this] at h;rw[h] at h2;cases h2
theorem Ll:∃ fn,Tryz.prog.funcs[152]?=some fn∧(fn.name== "runtime.NumGoroutine")=false∧∃ b,fn.body=some b:=⟨_,Tryz.func152,rfl,_,rfl⟩
theorem JK {l m:List Tm} (h1:l.Nodup) (h2:m.Nodup) (h:∀ x,x∈l↔x∈m):l.Perm m:=(jg h1 h2).2 h
theorem Ha {α β:Type} {f:α→β} (hf:∀ x y,f x=f y→x=y) {l m:List α} (h1:(l.map f).Nodup) (h2:(m.map f).Nodup) (h:∀ y,y∈l.map f↔y∈m.map f):l.Perm m:=by
 have n1:l.Nodup:=(List.pairwise_map.1 h1).imp fun h e=>h (by rw[e])
 have n2:m.Nodup:=(List.pairwise_map.1 h2).imp fun h e=>h (by rw[e])
 refine (jg n1 n2).2 fun x=>⟨fun hx=>?_,fun hx=>?_⟩
 ·obtain⟨y,hy,e⟩:=bu.1 ((h (f x)).1 (bu.2 ⟨x,hx,rfl⟩))
  rw[← hf _ _ e];exact hy
 ·obtain⟨y,hy,e⟩:=bu.1 ((h (f x)).2 (bu.2 ⟨x,hx,rfl⟩))
  rw[← hf _ _ e];exact hy
theorem Lm {l:List Tm} (h:∀ t∈l,br t≤1000000000):flb uN (l.attachWith _ h)=flb tmC l:=by
 unfold flb
 have:(l.attachWith _ h).map uN=l.map tmC:=by
  have e:(l.attachWith _ h).map uN=((l.attachWith _ h).map Subtype.val).map tmC:=by rw[gA];rfl
  rw[e,ep]
 rw[this]
theorem W2 (l:List Tm) (hs:∀ t∈l,br t≤1000000000) (pA:l.Nodup) (hl:l.length<4611686018427387904) (cap:Nat) (hc:l.length≤cap) :
 FnB Tryz.prog G 152 [.ms 0 0 l.length cap 3,.c (.fn (.func 91) [] [])] [flb tmC l] (.tup []) [flb tmC (kr l)]:=by
 have wF:∀ t∈kr l,br t≤1000000000:=fun t ht=>hs t (iW.1 ht)
 have h:=GP (P:=Tryz.prog) (G:=G) (ρ:=Tryz.sortTm_ren) (c:=uN) Tryz.sortTm Ll Tryz.isAgg47 Tryz.sizeOf47 (fun t=>bI t.1) (by decide) ⟨.mk 0 0 [],by decide⟩ [.int .i64 0,.int .i64 0,.slice none 0 0] rfl (fun v hv=>by simp at hv;rcases hv with rfl | rfl | rfl<;>rfl)
  (fun I w j x hx=>by
   match j with
   |0 | 1=>simp only[uN,tmC,Ob,cI,bG,cH,am] at hx;subst hx;exact .lit _ rfl
   |2=>simp only[uN,tmC,Ob,cI,bG,cH,am] at hx;subst hx;exact .nil none 0 (fun _=>rfl)
   |j+3=>simp[uN,tmC] at hx)
  aaT W1 91 [] (enters_of Tryz.func91 (by kernel_rfl) rfl) (fun x y=>uM x.1 y.1 x.2 y.2) (l.attachWith _ hs) ((kr l).attachWith _ wF) (by simpa using hl)
  (Ha (f:=Subtype.val) (fun x y h=>Subtype.ext h) (by rw[ep];exact(js l).nodup) (by rw[ep];exact pA) (fun y=>by rw[ep,ep];exact iW))
  (by
   have hp:((kr l).attachWith _ wF).Pairwise fun x y=>ltT x.1 y.1=true:=by
    have:=js l
    rw[← List.pairwise_map (f:=Subtype.val) (R:=fun x y=>ltT x y=true),ep];exact this
   exact hp.imp fun h=>by rw[qp];exact B2 h)
  (fun x _ y _ h1 h2=>by rw[qp] at h1 h2;exact Subtype.ext (Ec h1 h2)) cap (by simpa using hc)
 rw[Lm,Lm,List.length_attachWith] at h
 exact h
theorem SO {x:C}:FnOK Tryz.prog G 152 [.c (.sl []),.c x] (.tup []):=
 ub (ρ:=Tryz.sortTm_ren) Tryz.sortTm Ll
