/- Layer 15: maps.Values, ranged over. -/
import Derived.Test.YtegbpjodbjhjeaaGreatDoorVlUf
import Derived.Test.YtegbpjodbjhjeaaGreatDoorVlEnv
import Derived.Test.YtegbpjodbjhjeaaGreatDoorSrt
import Derived.Test.YtegbpjodbjhjeaaGreatDoorVlSrt
set_option maxHeartbeats 4000000
set_option linter.all false
namespace Go.Proofs.YtegbpjodbjhjeaaGreatDoor
open Go Go.Vl
variable {G:Gl}
set_option maxRecDepth 4000
def tmV (t:Tm):V:=.agg (tmC t)
def mS (S:List Tm):List V:=pB sv tmV (S.map λt=>(jo t,t))
theorem gU {S:List Tm} {m:Nat}:(mS S).all (λx=>x.ltB m)=true:=Im (λ_=>rfl) (λ_=>rfl)
theorem yK {S:List Tm} {ρ:Nat->Nat}:(mS S).map (V.ren ρ)=mS S:=Il (λ_=>rfl) (λ_=>rfl)
def gsT (l:List Tm):V:=.gs none (if l.isEmpty then none else some (47,3)) (l.map tmC)
def flV:List (Nat×V):=[(2,.bp 1 0)]
def ybV (n:Nat) (ps:Array Tmp) (ca cb:Code) (l:List Tm):List (List V):=[[.lp (lp0 n ps ca cb) flV],[gsT l]]
theorem Lp {n:Nat} {ps:Array Tmp} {ca cb:Code} {l:List Tm}:ltL 2 (ybV n ps ca cb l):=λb hb x hx=>by
 simp only[ybV,bI,eK,kJ] at hb;rcases hb with rfl | rfl
 .simp only[bu] at hx;subst hx
  intro p hp;simp only[flV,bI,eK,kJ] at hp;subst hp;simp[V.ltP]
 .simp only[bu] at hx;subst hx;trivial
def aiy (n:Nat) (ps:Array Tmp) (ca cb:Code) (S:List Tm) (r:V) (b1:List (List V)):Prop:=r=.tup []/\∃ l,l.Perm S/\b1=ybV n ps ca cb l++[mS S,[.mr 2]]
theorem Ar {n:Nat} {ps:Array Tmp} {ca cb:Code} {l:List Tm} {S:List Tm}:(ybV n ps ca cb l++[mS S,[.mr 2]]).all (λb=>b.all λv=>v.ltB 4)=true:=by simp only[ybV,dP,fZ,aK,aQ,gU,gsT];rfl
def prS (S:List Tm):List (By×Tm):=S.map λt=>(jo t,t)
theorem m3 {S:List Tm}:(prS S).length=S.length:=aj ..
theorem F4 {S:List Tm} {j:Nat} (hj:j<(prS S).length):(prS S)[j]=(jo (S[j]'(by rw[m3] at hj;exact hj)),S[j]'(by rw[m3] at hj;exact hj)):=List.getElem_map ..
theorem Zf {S:List Tm} {s:Vl.S} {i:Nat} {seen:List Nat} {K:Option V->V->Prop} (hb:s.bx i=mS S) (hi:i<s.nb)
 (h0:(∀ b,b<S.length->b∈seen)->K none (.tup [bo false])) (h1:∀ j (hj:j<S.length),j∉seen->K (some (.it i S.length S.length (seen++[j]))) (.tup [bo true,sv (jo S[j]),tmV S[j]])):AB s (.it i S.length S.length seen) K:=by
 have h:=K6 (f:=sv) (h:=tmV) (l:=prS S) (seen:=seen) (K:=K) hb hi (λdC=>h0 λb hb=>dC b (by rw[m3];exact hb)) (λj hj hn=>by
  have WO:j<S.length:=by rw[m3] at hj;exact hj
  have e:=h1 j WO hn;rw[F4 hj];simp only[m3];exact e)
 rw[m3] at h;exact h
theorem UQ {S:List Tm} {s:Vl.S} {i j:Nat} {seen:List Nat} {KV:V->Prop} (hb:s.bx i=mS S) (hi:i<s.nb) (hj:j<S.length) (hK:KV (.tup [sv (jo S[j]),tmV S[j]])):nv s (.it i S.length S.length (seen++[j])) KV:=by
 have WO:j<(prS S).length:=by rw[m3];exact hj
 have h:=K7 (f:=sv) (h:=tmV) (l:=prS S) (seen:=seen) (KV:=KV) hb hi WO (by rw[F4 WO];exact hK);rw[m3] at h;exact h
theorem IJ {l:List Nat} {n:Nat} (qw:l.Nodup) (h:∀ b∈l,b<n):l.length<=n:=by have:=mF qw (m:=List.range n) λx hx=>df.2 (h x hx);simpa using this
def DX:=jj @pkA @ptA
def UR:=jj @pkA (jj @ptA @pkT)
theorem Lq {n:Nat} {ps:Array Tmp} {ca cb:Code} (S:List Tm) (hS:S.length<=1000000000) (dV:∀ l t,l.length<S.length->t∈S->YB Tryz.prog G [.agg (tmC t)] (ybV n ps ca cb l) (bo true) (ybV n ps ca cb (l++[t]))) :
 FnE Tryz.prog G 153 [.yl 0,.bp 3 0] (ybV n ps ca cb []++[mS S,[.mr 2]]) (aiy n ps ca cb S):=by
 refine yB (rs:=[]) (k:=4) [1100013,3000004,6] mixed Tryz.func153 rfl rfl rfl rfl (by kernel_rfl) (by simp) (λr b1 h=>by rw[h.1];rfl) rfl rfl ?_ (λr b1 h=>by obtain⟨_,l,_,rfl⟩:=h;exact ai _) ?_
 .simp only[eM]
  exact cx.2 ⟨rfl,Ar⟩
 simp only[DX,seval,ybV];have cH:(S.map λt=>(jo t,t)).length=S.length:=aj ..
 refine K5 (f:=sv) (h:=tmV) (l:=S.map λt=>(jo t,t)) vP rfl rfl (show 2<4 by decide) ?_;rw[cH];simp only[pkA];refine cm (λx:List Tm×List Nat=>hdS [(0,.yl 0),(6,.it 2 S.length S.length x.2)] (ybV n ps ca cb x.1++[mS S,[.mr 2]])) (λx=>S.length - x.2.length) (λx=>x.2.Nodup/\(∀ b∈x.2,b<S.length)/\x.1.map some=x.2.map λj=>S[j]?) ([],[]) ⟨ir,by simp,rfl⟩ ?_ ?_
 .exact bT (by simp only[eu];exact cx.2 ⟨rfl,Ar⟩) (ai _) (ai _) (by simp[FL,aw]) ⟨rfl,rfl,rfl,rfl,trivial⟩
 rintro⟨l,seen⟩ ⟨qw,bF,hm⟩ R bN b8 db;simp only at qw bF hm;have JU:l.length=seen.length:=by have:=kK List.length hm;simpa using this
 have NU:=IJ qw bF;simp only[pkA,seval,ybV];refine Zf rfl (show 2<4 by decide) (λdC=>?_) (λj hj hn=>?_)
 .simp only[pkA,seval]
  refine b8 _ _ ?_;simp only[pkA,seval];exact⟨.tup [],_,⟨rfl,l,Pu hm qw bF dC,rfl⟩,eO [] rfl (by simp only[eu];exact cx.2 ⟨rfl,Ar⟩) (ai _) (ai _) trivial ⟨rfl,rfl,rfl,rfl,trivial⟩ dD⟩
 .simp only[pkA,seval]
  refine UQ rfl (show 2<4 by decide) hj ?_;simp only[UR,seval,tmV];have hlj:l.length<S.length:=by
   have:=IJ (l:=seen++[j]) (n:=S.length) (List.nodup_append.2 ⟨qw,by simp,λa ha b hb e=>by rw[bu] at hb;exact hn (by rw[<- hb,<- e];exact ha)⟩) (λb hb=>by
    rcases bh.1 hb with hb | hb
    .exact bF b hb
    .rw[bu] at hb;rw[hb];exact hj)
   rw[aB,dR] at this;omega
  refine Pt (Y:=ybV n ps ca cb l) (dV l S[j] hlj (aH hj)) (by simp[V.fz]) (show 0<2 by decide) rfl Lp (show 2<=5 by decide) ⟨rfl,rfl,trivial⟩ (λ_ _=>rfl) (λbx' xQ hB=>?_);have b2:bx' 2=mS S:=xQ 2 (ai _);have b3:bx' 3=[.mr 2]:=xQ 3 (show 2<=3 by decide);simp only[pkA,seval];refine bN (l++[S[j]],seen++[j]) _ ⟨List.nodup_append.2 ⟨qw,by simp,λa ha b hb e=>by rw[bu] at hb;exact hn (by rw[<- hb,<- e];exact ha)⟩,λb hb=>?_,?_⟩ ?_ (bT (by simp only[eu];exact cx.2 ⟨rfl,Ar⟩) (ai _) (show 4<=5 by decide) (by simp[FL,aw]) ⟨hB.1,hB.2.1,b2,b3,trivial⟩)
  .rcases bh.1 hb with hb | hb
   .exact bF b hb
   .rw[bu] at hb;rw[hb];exact hj
  .simp only[dl,hm,aN,bE]
   rw[ak hj]
  .simp only[aB,dR];omega
theorem DY {P:Program} {G:Gl} {tr:List Nat} {k0:Nat} {f:Operand} {ps:Array Tmp} {ca cb:Code} {Q:VE->Vl.S->Prop} {fr:Nat->V} {bx:Nat->List V} {nb:Nat}:gJ P G tr k0 (.rangeFunc f ps ca cb) Q ⟨fr,bx,nb⟩=vrg P G tr f ps ca cb Q ⟨fr,bx,nb⟩:=rfl
theorem uJ {tr:List Nat} {id:Nat} {ops:Array Oper} {s:Vl.S} {K:Vl.S->Prop} (h:J1 tr id=true) (hK:GsK ops K s):spl tr id ops s K:=by unfold spl;rw[if_pos h];exact .inr (.inr (.inr hK))
def nG:V:=.clo (.func 153) [] [.bp 1 0]
theorem af8 {S:List Tm} (hS:S.length<=1000000000) {tr:List Nat} {n t:Nat} {ps:Array Tmp} {ca cb:Code} {Q:VE->Vl.S->Prop} {fr:Nat->V} {bx:Nat->List V}
 (sY:sZ tr=true) (hre:tr.contains 1200001=true) (hn:rgN tr=n) (hf:fr t=nG) (h2:fr 2=.bp 2 0) (b0:bx 0=mS S) (b1:bx 1=[.mr 0]) (b2:bx 2=[gsT []])
 (dV:∀ l t,l.length<S.length->t∈S->YB Tryz.prog G [.agg (tmC t)] (ybV n ps ca cb l) (bo true) (ybV n ps ca cb (l++[t])))
 (hQ:∀ l bx',l.Perm S->bx' 0=mS S->bx' 1=[.mr 0]->bx' 2=[gsT l]->bx' 3=[.lp { lp0 n ps ca cb with state:=.exhausted } [(2,.bp 2 0)]]->Q .normal ⟨fr,bx',4⟩):vrg Tryz.prog G tr (.tmp t) ps ca cb Q ⟨fr,bx,3⟩:=by
 subst hn;have hI:=Lq (G:=G) S hS dV;have hc:eB (ev G ⟨fr,bx,3⟩ (.tmp t)) [.yl 3]=some (153,[.yl 3,.bp 1 0]):=by simp only[ev,hf];rfl
 refine⟨sY,[(2,.bp 2 0)],λq hq=>?_,⟨_,_,hc⟩,?_⟩
 .simp only[bI,eK,kJ] at hq
  subst hq;simp[h2,V.fz,V.isKR]
 .rw[if_pos hre]
  unfold mK;rw[hc];simp only;refine⟨[3,2,0,1],_,_,_,hI,rfl,⟨rfl,by decide⟩,?_,?_⟩
  .refine⟨⟨by decide,?_⟩,⟨by decide,?_⟩,⟨by decide,?_⟩,⟨by decide,?_⟩,trivial⟩
   .simp[rho,up,flV,V.ren,V.renP]
   .simp[rho,up,b2,V.ren,gsT]
   .simp[rho,up,b0,yK]
   .simp[rho,up,b1,V.ren]
  .rintro r b1' ⟨rfl,l,hl,rfl⟩
   have e4:fC (rho [3,2,0,1] 4) 0 (ybV (rgN tr) ps ca cb l++[mS S,[.mr 2]]) (up bx 3 [.lp (lp0 (rgN tr) ps ca cb) [(2,.bp 2 0)]]) 3=[.lp (lp0 (rgN tr) ps ca cb) [(2,.bp 2 0)]]:=(by simp[ybV,fC,rho,up,flV,V.ren,V.renP]);show N5 Q 3 ⟨fr,fC (rho [3,2,0,1] 4) 0 (ybV (rgN tr) ps ca cb l++[mS S,[.mr 2]]) (up bx 3 [.lp (lp0 (rgN tr) ps ca cb) [(2,.bp 2 0)]]),4⟩;unfold N5;simp only[e4];refine⟨by simp[lp0],by decide,?_⟩;show Q .normal ⟨fr,up _ 3 _,4⟩;refine hQ l _ hl ?_ ?_ ?_ ?_
   .simp[ybV,fC,rho,up,yK]
   .simp[ybV,fC,rho,up,V.ren]
   .simp[ybV,fC,rho,up,V.ren,gsT]
   .simp[up]
def af9 (S:List Tm) (r:V) (b1:List (List V)):Prop:=∃ l j,l.Perm S/\r=.ms 4 0 S.length S.length 3/\b1=[mS S,[.mr 0],[.ms 4 0 S.length S.length 3],j,flb tmC l]/\j.all (λx=>x.ltB 5)=true
theorem F5 (S:List Tm) (hS:S.length<=1000000000) (gu:S≠[]):FnE Tryz.prog G 172 [.c (.ex (.slice none 0 0)),nG] [mS S,[.mr 0]] (af9 S):=by
 refine yB (rs:=[.tmp 4]) (k:=2) [1200000,1200001,1300015,2300001,2300004,3000002] mixed Tryz.func172 rfl rfl rfl rfl (by kernel_rfl) (by simp) (λr b1 h=>by obtain⟨_,_,_,rfl,_⟩:=h;rfl) rfl rfl ?_ (λr b1 h=>by obtain⟨_,_,_,_,rfl,_⟩:=h;simp) ?_
 .simp only[eM,aK,aQ,gU,nG,aI,aL];rfl
 simp only[pkA,seval,nG];refine uJ rfl (.warmX 2 0 (show 2<3 by decide) rfl (.done ?_));simp only[pkA,seval,Vl.S.cell,DY];refine af8 (S:=S) (n:=15) hS rfl rfl rfl rfl rfl rfl rfl rfl ?_ ?_
 .intro l x hl hx
  refine afI (L:=lp0 15 #[7] _ _) (fl:=flV) (bs:=[[gsT l]]) [2850003,2400012] mixed rfl rfl ?_ ?_ ?_ ?_ ?_
  .intro q hq;simp[lp0] at hq;subst hq;decide
  .kernel_rfl
  .kernel_rfl
  .refine⟨λy hy=>?_,Lp,ai _⟩
   simp only[bu] at hy;subst hy;trivial
  .simp only[UR,seval,frY,flV,lp0,List.zip_cons_cons,List.zip_nil_right,fY,List.foldl_nil]
   refine yA (m:=4) (n:=8) rfl rfl rfl ?_;refine .split 1 0 12 (g:=none) (E:=if l.isEmpty then none else some (47,3)) (es:=l.map tmC) (show 1<3 by decide) rfl rfl rfl λv _ hgv=>.done ?_
   have JL:∀ K,K (i64 (l.length:Int))->mb Tryz.prog 33 (.c (.ex v)) K:=λK hK=>by
    rcases hgv with⟨blk,cap,rfl,_⟩ | ⟨h0,_,a,rfl⟩
    .exact nN dc rfl (by rw[aj];exact hK)
    .have:l=[]:=by cases l with
      |nil=>rfl
      |cons=>cases h0
     subst this;exact nN dc rfl hK
   simp only[UR,seval,gsT];refine JL _ ?_;simp only[DX,seval];generalize hE:(if l.isEmpty=true then none else some (47,3))=E
   have hEE:E=none∨E=some (47,3):=(by rw[<- hE];cases l<;>simp);have xU:∀ z∈l.map tmC,z.length=3:=BP;have sP:(l.map tmC).length=l.length:=aj ..
   refine k9 (f:=3) (by decide +kernel) (by decide +kernel) ?_;simp only[lb,mY,ao,Nat.reduceAdd]
   repeat' (first | exact trivial | apply And.intro)
   all_goals first
    |exact .inl (by decide +kernel)
    |refine .inr ?_
   simp only[jy,pkA,seval,fP,yd];refine K8 (v:=v) (E:=E) (es:=l.map tmC) (y1:=tmC (.mk 0 0 [])) (sz:=3) (by_:=40) dc rfl cV rfl rfl rfl (by decide) rfl (by simp[aw]) (by simp[aw]) ⟨by decide,by simp,by simp⟩ rfl hEE xU (bG _) (by rw[sP];omega) (by rw[sP];omega) ?_;simp only[pkA,seval];refine qg (f:=2) (by decide +kernel) (by decide +kernel) (.splitB 12 2 0 (g:=none) (E:=some (47,3)) (es:=l.map tmC++[tmC (.mk 0 0 [])]) (x:=.c (cI x.kind)) (by simp[]) (show 2<3 by decide) (by simp[aw,mtm]) (by simp[aw,fx]) λv' _ WR=>.done ?_);obtain⟨blk,cap,rfl⟩:∃ blk cap,v'=.slice (some ⟨blk,0,none⟩) (l.map tmC++[tmC (.mk 0 0 [])]).length cap:=by
    rcases WR with⟨blk,cap,h,_⟩ | ⟨h,_⟩
    .exact⟨blk,cap,h⟩
    .cases JV:l<;>simp[JV] at h
   have JM:(l.map tmC++[tmC (.mk 0 0 [])]).set l.length (tmC x)=(l++[x]).map tmC:=(by rw[List.set_append_right _ _ (by rw[sP];exact ai _),sP,kw,dl];rfl);have nI:∀ g:V,((tmC x).map V.c).set 0 g=[g,.c (cI x.n),.c (tsC x.l)]:=λg=>by rw[fx];rfl
   have hln:((l.map tmC++[tmC (.mk 0 0 [])]).length)=l.length+1:=(by simp);simp only[lb,mY,ao,Nat.reduceAdd]
   repeat' (first | exact trivial | apply And.intro)
   all_goals first
    |exact .inl (by decide +kernel)
    |refine .inr ?_
   all_goals simp only[jy,DX,seval,nI,hln]
   repeat' first
    |(refine k9 (by decide +kernel) (by decide +kernel) ?_;simp only[lb,mY,ao,Nat.reduceAdd];(repeat' (first | exact trivial | apply And.intro));(all_goals (first | exact Or.inl (by decide +kernel) | refine Or.inr ?_)))
    |(refine Bo (k:=l.length) dc rfl cV rfl (by decide) rfl (bH _) ?_)
    |(refine K9 (b:=2) (k:=0) (len:=l.length+1) (cap:=cap) (e':=47) (sz:=3) (q:=l.length) (es:=l.map tmC++[tmC (.mk 0 0 [])]) (cs:=tmC x) cV rfl ?_ ?_ ?_ rfl (bG _) (by decide) (by rw[hln];exact bH _) rfl ?_;(· simp);(· (simp[aw];rfl));(· simp[aw]))
    |(refine vN (by decide +kernel) ?_)
    |(simp only[jy,DX,seval])
   all_goals (
    refine .join 1 0 2 0 (v:=.slice (some ⟨blk,0,none⟩) (l.length+1) cap) (E:=some (47,3)) (es:=(l.map tmC++[tmC (.mk 0 0 [])]).set l.length (tmC x)) (show 1<3 by decide) ?_ ?_ (show 2<3 by decide) ?_ (by decide) ?_ (.unname 1 0 (g:=some (.slice (some ⟨blk,0,none⟩) (l.length+1) cap)) (E:=some (47,3)) (es:=(l.map tmC++[tmC (.mk 0 0 [])]).set l.length (tmC x)) (show 1<3 by decide) ?_ (.done ?_))
    .simp[aw];rfl
    .simp[aw]
    .simp[aw];rfl
    .simp[aw]
    .simp[aw]
    .simp only[pkA,seval,Vl.S.cell,JM]
     refine⟨rfl,_,_,_,⟨rfl,show 0<3 by decide⟩,[],?_⟩;refine Tj (λ_ h=>by cases h) Lp (ai _) (show 2<=3 by decide) trivial ?_;intro i hi
     match i,hi with
     |0,_=>simp[ybV,up,bxs,Ig,lp0,flV]
     |1,_=>have:(l++[x]).isEmpty=false:=(by cases l<;>rfl);simp[ybV,up,bxs,gsT])
 intro l bx' hl b0 b1 b2 b3;have JV:l≠[]:=λh=>by subst h;exact gu (List.nil_perm.1 hl)
 have fu:(if l.isEmpty then none else some (47,3))=some (47,3):=by cases l with
  |nil=>exact absurd rfl JV
  |cons=>rfl
 have b2':bx' 2=[.gs none (some (47,3)) (l.map tmC)]:=by rw[b2];unfold gsT;rw[fu]
 simp only[pkA,seval];refine uJ rfl (.box 2 0 (g:=none) (e:=47) (sz:=3) (es:=l.map tmC) (show 2<4 by decide) (by simp only[b2'];rfl) (by simp only[b2'];rfl) (.done ?_));simp only[DX,seval,b2',aj];rw[hl.length_eq];refine⟨.ms 4 0 S.length S.length 3,[mS S,[.mr 0],[.ms 4 0 S.length S.length 3],_,flb tmC l],⟨l,_,hl,rfl,rfl,rfl⟩,eO [(4,.ms 4 0 S.length S.length 3)] rfl ?_ (show 2<=5 by decide) (ai 5) ⟨by simp[],trivial⟩ ⟨by simp[aw,b0],by simp[aw,b1],by simp[aw],by simp only[aw];exact b3,by simp[flb],trivial⟩ (by simp[hdS,frs,gK,up])⟩;simp only[eu,aK,aQ,gU,flb,fa,aI,aL];rfl
def aga (r:V) (b1:List (List V)):Prop:=r=.ow none []/\∃ j,b1=[mS [],[.mr 0],[.ow none []],j]/\j.all (λx=>x.ltB 4)=true
theorem CN:FnE Tryz.prog G 172 [.c (.ex (.slice none 0 0)),nG] [mS [],[.mr 0]] aga:=by
 refine yB (rs:=[.tmp 4]) (k:=2) [1200000,1200001,1300015,2300001,2300004,3000002] mixed Tryz.func172 rfl rfl rfl rfl (by kernel_rfl) (by simp) (λr b1 h=>by rw[h.1];rfl) rfl rfl ?_ (λr b1 h=>by obtain⟨_,j,rfl,_⟩:=h;simp) ?_
 .simp only[eM,aK,aQ,gU,nG,aI,aL];rfl
 simp only[pkA,seval,nG];refine uJ rfl (.warmX 2 0 (show 2<3 by decide) rfl (.done ?_));simp only[pkA,seval,Vl.S.cell,DY];refine af8 (S:=[]) (n:=15) (by simp) rfl rfl rfl rfl rfl rfl rfl rfl (λl x hl hx=>by cases hx) ?_;intro l bx' hl b0 b1 b2 b3;have JV:l=[]:=List.perm_nil.1 hl;subst JV;simp only[pkA,seval];refine uJ rfl (.cool 2 0 (g:=none) (E:=none) (es:=[]) (show 2<4 by decide) (by simp only[b2];rfl) (.done ?_));simp only[DX,seval,b2,Vl.S.cell,gsT];refine⟨.ow none [],[mS [],[.mr 0],[.ow none []],_],⟨rfl,_,rfl,rfl⟩,eO [(4,.ow none [])] rfl ?_ (show 2<=4 by decide) (ai 4) ⟨by simp[],trivial⟩ ⟨by simp[aw,b0],by simp[aw,b1],by simp[],by simp only[aw];exact b3,trivial⟩ (by simp[hdS,frs,gK,up])⟩;simp only[eu,aK,aQ,gU,aI,aL];rfl
theorem Lr (S:List Tm) (hS:S.length<=1000000000) (gu:S≠[]):FnE Tryz.prog G 151 [nG] [mS S,[.mr 0]] (af9 S):=by
 refine yB (rs:=[.tmp 2]) (k:=2) [1500004,3000002] mixed Tryz.func151 rfl rfl rfl rfl (by kernel_rfl) (by simp) (λr b1 h=>by obtain⟨_,_,_,rfl,_⟩:=h;rfl) rfl rfl ?_ (λr b1 h=>by obtain⟨_,_,_,_,rfl,_⟩:=h;simp) ?_
 .simp only[eM,aK,aQ,gU,nG,aI,aL];rfl
 simp only[pkA,seval,nG];refine uG rfl (F5 S hS gu) (by simp[V.fz,nG]) rfl ⟨rfl,rfl,trivial⟩ ?_;rintro r b1 ⟨l,j,hl,rfl,rfl,hj⟩;simp only[pkA,seval];refine⟨.ms 4 0 S.length S.length 3,[mS S,[.mr 0],[.ms 4 0 S.length S.length 3],j,flb tmC l],⟨l,j,hl,rfl,rfl,hj⟩,eO [(2,.ms 4 0 S.length S.length 3)] rfl ?_ (show 2<=5 by decide) (ai 5) ⟨by simp[],trivial⟩ ⟨rfl,rfl,rfl,rfl,rfl,trivial⟩ (by simp[hdS,frs,gK,up])⟩;simp only[eu,aK,aQ,gU,flb,fa,aI,aL,hj];rfl
theorem IK:FnE Tryz.prog G 151 [nG] [mS [],[.mr 0]] aga:=by
 refine yB (rs:=[.tmp 2]) (k:=2) [1500004,3000002] mixed Tryz.func151 rfl rfl rfl rfl (by kernel_rfl) (by simp) (λr b1 h=>by rw[h.1];rfl) rfl rfl ?_ (λr b1 h=>by obtain⟨_,j,rfl,_⟩:=h;simp) ?_
 .simp only[eM,aK,aQ,gU,nG,aI,aL];rfl
 simp only[pkA,seval,nG];refine uG rfl CN (by simp[V.fz,nG]) rfl ⟨rfl,rfl,trivial⟩ ?_;rintro r b1 ⟨rfl,j,rfl,hj⟩;simp only[pkA,seval];refine⟨.ow none [],[mS [],[.mr 0],[.ow none []],j],⟨rfl,j,rfl,hj⟩,eO [(2,.ow none [])] rfl ?_ (show 2<=4 by decide) (ai 4) ⟨by simp[],trivial⟩ ⟨rfl,rfl,rfl,rfl,trivial⟩ (by simp[hdS,frs,gK,up])⟩;simp only[eu,aK,aQ,gU,aI,aL,hj];rfl
theorem US {fr:Nat->V} {bx:Nat->List V} {nb:Nat} {K:Vl.S->Prop} {t d:Tmp} {i:Nat} (h:fr t=.mr i):boxK (some t) d (.mr i) ⟨fr,bx,nb⟩ K=K ⟨up fr d (.bp nb 0),up bx nb [.mr i],nb+1⟩:=by simp[boxK,V.bcells,mR,h,Vl.S.put,V.isOw]
theorem IL:mJ .nilFunc=.c (.lit .nilFunc):=rfl
theorem P2 (S:List Tm):FnB Tryz.prog G 127 [.mr 0] [mS S] nG [mS S,[.mr 0]]:=by refine nD (rs:=[.tmp 2]) (k:=1) [3000001] mixed Tryz.func127 rfl rfl rfl rfl (by kernel_rfl) (by simp) rfl rfl rfl (by simp only[eM,aK,aQ,gU,aI,aL];rfl) (by simp) ?_;simp only[pkA,seval,US,IL];exact eO [(2,nG)] rfl (by simp only[eu,aK,aQ,gU,nG,aI,aL];rfl) (show 1<=2 by decide) (ai 2) ⟨by simp[nG],trivial⟩ ⟨rfl,rfl,trivial⟩ rfl
abbrev Ts:={ t:Tm // bi t<=1000000000 }
def vV (t:Ts):List C:=tmC t.1
def adB (x y:Ts):Int:=jJ x.1 y.1
theorem qW (x y:Ts):ltOf adB x y=ltT x.1 y.1:=rfl
theorem Zg:Go.Sort.SWO (ltOf adB) where
 irrefl x:=by rw[qW];exact rP _
 trans x y z h1 h2:=by rw[qW] at *;exact uI h1 h2
 ntrans x y z h1 h2:=by
  rw[qW] at *;cases h:ltT x.1 z.1 with
  |false=>rfl
  |true=>
   cases h3:ltT y.1 x.1 with
   |true=>rw[uI h3 h] at h2;cases h2
   |false=>have:=FP h1 h3;rw[this] at h;rw[h] at h2;cases h2
theorem M9:∃ fn,Tryz.prog.funcs[152]?=some fn/\(fn.name== "runtime.NumGoroutine")=false/\∃ b,fn.body=some b:=⟨_,Tryz.func152,rfl,_,rfl⟩
theorem Ls {l m:List Tm} (h1:l.Nodup) (h2:m.Nodup) (h:∀ x,x∈l↔x∈m):l.Perm m:=(jp h1 h2).2 h
theorem IM {α β:Type} {f:α->β} (hf:∀ x y,f x=f y->x=y) {l m:List α} (h1:(l.map f).Nodup) (h2:(m.map f).Nodup) (h:∀ y,y∈l.map f↔y∈m.map f):l.Perm m:=by
 have n1:l.Nodup:=(List.pairwise_map.1 h1).imp λh e=>h (by rw[e]);have n2:m.Nodup:=(List.pairwise_map.1 h2).imp λh e=>h (by rw[e]);refine (jp n1 n2).2 λx=>⟨λhx=>?_,λhx=>?_⟩
 .obtain⟨y,hy,e⟩:=ce.1 ((h (f x)).1 (ce.2 ⟨x,hx,rfl⟩))
  rw[<- hf _ _ e];exact hy
 .obtain⟨y,hy,e⟩:=ce.1 ((h (f x)).2 (ce.2 ⟨x,hx,rfl⟩))
  rw[<- hf _ _ e];exact hy
theorem Na {l:List Tm} (h:∀ t∈l,bi t<=1000000000):flb vV (l.attachWith _ h)=flb tmC l:=by
 unfold flb;have:(l.attachWith _ h).map vV=l.map tmC:=by
  have e:(l.attachWith _ h).map vV=((l.attachWith _ h).map Subtype.val).map tmC:=by rw[jE];rfl
  rw[e,eC]
 rw[this]
theorem Zh (l:List Tm) (hs:∀ t∈l,bi t<=1000000000) (qw:l.Nodup) (hl:l.length<4611686018427387904) (cap:Nat) (hc:l.length<=cap) :
 FnB Tryz.prog G 152 [.ms 0 0 l.length cap 3,.c (.fn (.func 91) [] [])] [flb tmC l] (.tup []) [flb tmC (kE l)]:=by
 have xP:∀ t∈kE l,bi t<=1000000000:=λt ht=>hs t (jg.1 ht);have h:=Ir (P:=Tryz.prog) (G:=G) (ρ:=Tryz.sortTm_ren) (c:=vV) Tryz.sortTm M9 Tryz.isAgg47 Tryz.sizeOf47 (λt=>bG t.1) (by decide) ⟨.mk 0 0 [],by decide⟩ [.int .i64 0,.int .i64 0,.slice none 0 0] rfl (λv hv=>by simp at hv;rcases hv with rfl | rfl | rfl<;>rfl)
  (λI w j x hx=>by
   match j with
   |0 | 1=>simp only[vV,tmC,PV,cI,bJ,cU,ap] at hx;subst hx;exact .lit _ rfl
   |2=>simp only[vV,tmC,PV,cI,bJ,cU,ap] at hx;subst hx;exact .nil none 0 (λ_=>rfl)
   |j+3=>simp[vV,tmC] at hx)
  adB Zg 91 [] (enters_of Tryz.func91 (by kernel_rfl) rfl) (λx y=>vU x.1 y.1 x.2 y.2) (l.attachWith _ hs) ((kE l).attachWith _ xP) (by simpa using hl)
  (IM (f:=Subtype.val) (λx y h=>Subtype.ext h) (by rw[eC];exact(jz l).nodup) (by rw[eC];exact qw) (λy=>by rw[eC,eC];exact jg))
  (by have hp:((kE l).attachWith _ xP).Pairwise λx y=>ltT x.1 y.1=true:=(by have:=jz l;rw[<- List.pairwise_map (f:=Subtype.val) (R:=λx y=>ltT x y=true),eC];exact this);exact hp.imp λh=>by rw[qW];exact Dy h)
  (λx _ y _ h1 h2=>by rw[qW] at h1 h2;exact Subtype.ext (FP h1 h2)) cap (by simpa using hc)
 rw[Na,Na,List.length_attachWith] at h;exact h
theorem UT {x:C}:FnOK Tryz.prog G 152 [.c (.sl []),.c x] (.tup []):=
 vb (ρ:=Tryz.sortTm_ren) Tryz.sortTm M9
