/- Layer 18: sorted: the reasons of a map, in the order of a comparison. -/
import Derived.Test.YtloppcgcepgbnaaGreatDoorVlX6
import Derived.Test.YtloppcgcepgbnaaGreatDoorVlRc
set_option maxHeartbeats 4000000
set_option linter.all false
namespace Go.Proofs.YtloppcgcepgbnaaGreatDoor
open Go Go.Vl Go.Sort
variable {G:Gl}
set_option maxRecDepth 4000
theorem FnOK.toB {P:Program} {G:Gl} {f:FuncId} {args:List V} {r:V} (h:FnOK P G f args r) (ha:args.all (fun x=>match x with | .c _=>true | .agg _=>true | _=>false)=true):FnB P G f args [] r []:=by
 rw[aV] at ha
 refine⟨h.1,⟨fun x hx=>?_,fun b hb=>(by cases hb),ar _⟩,fun I M w vs β ob hI hg hB hs hv=>(h.2 I w vs hI hg hs (fun j x hx=>?_)).mono ?_⟩
 ·have:=ha x hx
  cases x<;>first | trivial | cases this
 ·have h1:=ha x (aT hx)
  have h2:=hv j x hx
  cases x<;>first | exact h2 | cases h1
 ·rintro e w' ⟨v,I',h1,h2,h3,h4,o,h5,h6⟩
  refine⟨v,I',fun _=>none,fun _ _=>none,o,h1,⟨h2.os,h2.tape,h2.output,h2.size,fun k hk _=>h2.block k hk (by simp),h2.drawn⟩,h3,fun b o FH=>(h4 b o FH).imp id fun h=>⟨.inl h.1,h.2⟩,fun b o FH=>?_,fun i hi=>(by cases hi),fun i b _ hb=>(by cases hb),
   ⟨fun i cs jo=>by simp at jo,fun _ _=>rfl,fun _ _ _ h=>(by cases h),fun _ _ _ _ _ h=>(by cases h),fun _ _ _ _ h=>(by cases h),fun _ _ _ h=>(by cases h),fun _ _ _=>rfl⟩,h5.wider fun b hb=>.inl (h6 b hb).1,fun b hb=>⟨⟨(h6 b hb).2,.inl (h6 b hb).1⟩,fun _ _ h=>(by cases h),fun _ h=>(by cases h)⟩⟩
  have hb:=hI b o FH
  exact dJ (h2.block b hb (by simp))
theorem ajE {P:Program} {G:Gl} {s:Vl.S} {T e:TypeId} {i j:TI} {sz:Nat} {E:Option (TypeId×Nat)} {es:List (List C)} {K:V→Prop} {t d:Nat} {y:Operand} {y1:List C} {by_:Nat} {z:List C} (hT:ti P T=some i) (hk:i.kd=.slice e) (hE:ti P e=some j) (hs:j.size=sz) (hb:j.bytes=by_) (hz:j.zero=some z) (hp:0<sz) (vo:z.length=sz) (h1:s.fr t=.gs none E es)
 (h0:t≠d∧y≠.tmp t) (hy:(vw s (ev G s y)).fz=.c (.sl [y1])) (hEE:E=none∨E=some (e,sz)) (pV:∀ x∈es,x.length=sz) (H5:y1.length=sz) (hm:(es.length+1)*by_≤140737488355328) (hm2:es.length+1≤9223372036854775807)
 (hK:K (.gs none (some (e,sz)) (es++[y1]))):jZ P G s (some d) [T,T] [.tmp t,y] K:=by
 obtain⟨kd',a1,a2,a3,a4,a5,a6⟩:=i;simp only at hk;subst hk
 obtain⟨b0,b1,b2,b3,b4,b5,b6⟩:=j;simp only at hs hb hz;subst hs;subst hb;subst hz
 unfold jZ
 simp only[h1]
 refine⟨h0,?_⟩
 rw[hy]
 simp only[nw,hT,hE]
 exact⟨trivial,⟨hp,vo,hEE,pV⟩,⟨hm,hm2,H5⟩,hK⟩
def gsY (l:List Wy):V:=.gs none (if l.isEmpty=true then none else some (93,6)) (l.map wyC)
theorem KP {l:List Wy}:(gsY l).isOw=true:=rfl
theorem Zh {l:List Wy} {w:Wy}:V.gs none (some (93,6)) (l.map wyC++[wyC w])=gsY (l++[w]):=by
 unfold gsY;simp
theorem aeF {s:Vl.S} {l:List Wy} {w:Wy} {t d:Nat} {y:Operand} {K:V→Prop} (h1:s.fr t=gsY l) (h0:t≠d∧y≠.tmp t) (hy:(vw s (ev G s y)).fz=.c (.sl [wyC w])) (hl:l.length≤1000000) (hK:K (gsY (l++[w]))) :
 jZ Tryz.prog G s (some d) [90,90] [.tmp t,y] K:=by
 refine ajE (E:=if l.isEmpty=true then none else some (93,6)) (es:=l.map wyC) (y1:=wyC w) (sz:=6) (by_:=64) ES rfl pO rfl rfl rfl (by decide) rfl h1 h0 hy ?_ (fun x hx=>by obtain⟨y,_,rfl⟩:=bA.1 hx;exact yq y) (yq w) (by rw[ak];omega) (by rw[ak];omega) ?_
 ·split
  ·exact .inl rfl
  ·exact .inr rfl
 ·rw[Zh];exact hK
def sD (W:List Wy) (seen:List Nat):List Wy:=seen.map fun b=>W.getD b zwy
theorem Zi {W:List Wy} {seen:List Nat}:(sD W seen).length=seen.length:=ak ..
theorem On {n:Nat} {l:List Nat} (oV:l.Nodup) (h1:∀ b∈l,b<n) (h2:∀ b,b<n→b∈l):l.Perm (List.range n):=
 (gA oV kr).2 fun b=>⟨fun h=>db.2 (h1 b h),fun h=>h2 b (db.1 h)⟩
theorem TL {W:List Wy} {seen:List Nat} (oV:seen.Nodup) (h1:∀ b∈seen,b<W.length) (h2:∀ b,b<W.length→b∈seen):(sD W seen).Perm W:=by
 have e:(List.range W.length).map (fun b=>W.getD b zwy)=W:=by
  apply List.ext_getElem (by simp)
  intro i h3 h4
  simp[ay,h4]
 conv=>rhs;rw[← e]
 exact(On oV h1 h2).map _
theorem TM {l:List Nat} {n:Nat} (oV:l.Nodup) (h:∀ b∈l,b<n):l.length≤n:=by
 have hp:l.Perm ((List.range n).filter fun b=>decide (b∈l)):=(gA oV (kr.filter _)).2 fun b=>by
  simp only[gb,db,bF]
  exact⟨fun hb=>⟨h b hb,hb⟩,fun hb=>hb.2⟩
 rw[hp.length_eq]
 exact df (eD _ _) (by simp)
theorem aeG {m:Nat} {l:List Wy}:(flb wyC l).all (fun v=>v.ltB m)=true:=by
 rw[aV]
 intro v hv
 unfold flb at hv
 obtain⟨c,_,rfl⟩:=bA.1 hv
 rfl
def mH:=jj @pkA @y5
def Zj:=jj @pkA (jj @ptA (jj @y5 @amB))
def Zk:=jj @pkA (jj @ptA @y5)
theorem TN {g:FuncId} {c:Wy→Wy→Int} (h:aeE g c) (W:List Wy) (gK:W≠[]) (oV:(cm W).Nodup) (hW:W.length≤1000000) (vJ:∀ w∈W,w.pre.length≤1000000) :
 FnB Tryz.prog G 89 [.mr 0,.c (.fn (.func g) [] [])] [wM W] (.ms 1 0 W.length W.length 6) [wM W,flb wyC (ux c W)]:=by
 refine mc (rs:=[.tmp 4]) (k:=1) [3000001,18,2400021,2300002,2300007,1000024] mixed Tryz.func89 rfl rfl rfl rfl (by kernel_rfl) (by simp) rfl rfl rfl (by simp only[l0,bh,bG,wS,aA,aB];rfl) (by simp) ?_
 simp only[mH,seval]
 refine qM rfl (.warmT 5 (by simp[]) (.done ?_))
 simp only[mH,seval]
 refine BW (h:=wyV) (f:=faV) (l:=W.map fun w=>(w.fact,w)) B7 rfl rfl (show 0<1 by decide) ?_
 rw[ak]
 simp only[pkA]
 refine cx (fun seen:List Nat=>hdS [(1,.c (.fn (.func g) [] [])),(5,gsY (sD W seen)),(9,.it 0 W.length W.length seen)] [wM W])
  (fun seen=>Pg (List.range W.length) seen) (fun seen=>seen.Nodup∧∀ b∈seen,b<W.length) [] ⟨gy,by simp⟩ ?_ ?_
 ·refine cL (by simp only[jq,bh,bG,wS,aA,aB];rfl) (ar 1) (ar _) (by simp[FL,ao,gsY,sD]) ⟨rfl,trivial⟩
 rintro seen ⟨hsd,bV⟩ R cE cC dV
 have LO:=TM hsd bV
 have LN:(W.map fun w=>(w.fact,w)).length=W.length:=ak ..
 simp only[mH,seval]
 rw[← LN]
 refine EH (h:=wyV) (f:=faV) (l:=W.map fun w=>(w.fact,w)) (i:=0) (s:=⟨_,bxs [wM W],1⟩) rfl (dN 0) (fun en=>?_) (fun b hb hn x y=>?_)
 ·rw[LN] at en
  simp only[pkA,seval]
  refine cC _ _ ?_
  have aav:=TL hsd bV en
  have cn:(sD W seen).length=W.length:=aav.length_eq
  have akp:sD W seen≠[]:=fun e=>gK (by rw[e] at aav;exact List.Perm.nil_eq aav▸rfl)
  simp only[mH,seval]
  have ra:(sD W seen).isEmpty=false:=by simpa using akp
  refine qM rfl (.boxT (g:=none) (e:=93) (sz:=6) (es:=(sD W seen).map wyC) 5 (by show gsY _=_;unfold gsY;rw[ra];rfl) (.done ?_))
  have kU:((sD W seen).map wyC).flatten.map V.c=flb wyC (sD W seen):=rfl
  simp only[mH,seval,kU,ak]
  have hS:=Zg (G:=G) h (sD W seen) W (by omega) aav.symm ((List.Perm.nodup_iff (List.Perm.map Wy.fact aav)).2 oV) (sD W seen).length (ar _)
  refine ko [1] rfl hS (by simp[V.fz,V.ren,rho]) rfl (by decide) rfl ⟨⟨show 1<2 by decide,by simp only[uY];rfl⟩,trivial⟩ ?_
  intro bx' iH qc
  have h0:bx' 0=wM W:=by rw[iH 0 (by decide)];rfl
  have h1:bx' 1=flb wyC (ux c W):=by rw[← uY];exact qc 0 1 _ rfl rfl
  simp only[mH,seval]
  rw[← cn]
  exact pL [(4,.ms 1 0 (sD W seen).length (sD W seen).length 6)] rfl (by simp only[jq,bh,bG,wS,aeG,aA,aB];rfl) (Nat.le_succ 1) (ar _) ⟨by simp[],trivial⟩ ⟨h0,h1,trivial⟩ rfl
 ·rw[LN] at hb
  simp only[mH,seval]
  refine NB (h:=wyV) (f:=faV) (l:=W.map fun w=>(w.fact,w)) (i:=0) (s:=⟨_,bxs [wM W],1⟩) (b:=b) rfl (dN 0) (by rw[LN];exact hb) ?_
  rw[jt]
  obtain⟨wb,hwb⟩:∃ w,w=W[b]:=⟨_,rfl⟩
  rw[← hwb]
  have hwm:wb∈W:=by rw[hwb];exact bM hb
  have r4:∀ (a b c d e f:V),eS [a,b,c,d,e,f] 0 ((wyC wb).map .c)=(wyC wb).map .c:=fun _ _ _ _ _ _=>rfl
  simp only[Zj,seval,wyV,LN,r4]
  have hp:=vJ wb hwm
  refine aN rfl (ET (wb.pre.map faC) (nR jQ _) (by rw[ak];omega)) (fun h=>by cases h) ?_
  simp only[Zk,seval]
  refine⟨ar 6,?_⟩
  have pZ:∀ E es,eS ((wyC wb).map .c) 5 [V.ow E es]=[.c (cI wb.fact.kind),.c (cI wb.fact.a),.c (cI wb.fact.b),.c (cI wb.round),.c (cI wb.rule),.ow E es]:=fun _ _=>rfl
  have hld:∀ nb q E (K:V→Prop),ldA nb q [.c (cI wb.fact.kind),.c (cI wb.fact.a),.c (cI wb.fact.b),.c (cI wb.round),.c (cI wb.rule),V.ow E (wb.pre.map faC)] 0 6 K=(q<nb∧K (.agg (wyC wb))):=fun nb q E K=>by
   unfold ldA
   exact propext ⟨fun h=>⟨h.1,h.2.2⟩,fun h=>⟨h.1,⟨rfl,rfl⟩,h.2⟩⟩
  have kR:∀ E es,bY [.c (cI wb.fact.kind),.c (cI wb.fact.a),.c (cI wb.fact.b),.c (cI wb.round),.c (cI wb.rule),V.ow E es]=false:=fun _ _=>rfl
  have hf6:lW 6 [(0,V.agg (wyC wb))] [[.lit (.int .i64 0),.lit (.int .i64 0),.lit (.int .i64 0),.lit (.int .i64 0),.lit (.int .i64 0),.sl []]]=some [wyC wb]:=rfl
  simp only[Zk,seval,KP,pZ,hld,kR,hf6,fh,v7]
  have anX:(sD W seen).length≤1000000:=by rw[Zi];omega
  refine aeF (l:=sD W seen) (w:=wb) (by simp[ao]) ⟨by decide,by simp⟩ rfl anX ?_
  simp only[pkA,seval,KP]
  have e0:sD W (seen++[b])=sD W seen++[wb]:=by unfold sD;simp[hb,hwb]
  refine cE (seen++[b]) _ ⟨?_,fun c hc=>?_⟩ (WV (db.2 hb) hn) (cL (by simp only[jq,bh,bG,wS,aA,aB];rfl) (ar 1) (show 1≤2 by decide) ?_ ⟨by simp[ao,bxs],trivial⟩)
  ·rw[iN]
   exact⟨hsd,by simp,fun x hx y hy=>by simp at hy;subst hy;rintro rfl;exact hn hx⟩
  ·rcases aZ.1 hc with hc | hc
   ·exact bV c hc
   ·simp at hc;subst hc;exact hb
  ·simp[FL,ao,e0]
theorem Oo {g:FuncId}:FnB Tryz.prog G 89 [.mr 0,.c (.fn (.func g) [] [])] [wM []] (.c (.sl [])) [wM []]:=by
 refine mc (rs:=[.tmp 4]) (k:=1) [3000001,18,2400021,2300002,2300007,1000024] mixed Tryz.func89 rfl rfl rfl rfl (by kernel_rfl) (by simp) rfl rfl rfl rfl (by simp) ?_
 simp only[mH,seval]
 refine qM rfl (.warmT 5 (by simp[]) (.done ?_))
 simp only[mH,seval]
 refine BW (h:=wyV) (f:=faV) (l:=([]:List Wy).map fun w=>(w.fact,w)) B7 rfl rfl (show 0<1 by decide) ?_
 simp only[pkA]
 refine cx (fun _:Unit=>hdS [(1,.c (.fn (.func g) [] [])),(5,.gs none none []),(9,.it 0 0 0 [])] [wM []]) (fun _=>0) (fun _=>True) () trivial ?_ ?_
 ·exact cL rfl (ar 1) (ar _) (by simp[FL,ao]) ⟨rfl,trivial⟩
 rintro _ _ R cE cC dV
 simp only[mH,seval]
 refine EH (h:=wyV) (f:=faV) (l:=([]:List Wy).map fun w=>(w.fact,w)) (i:=0) (s:=⟨_,bxs [wM []],1⟩) rfl (dN 0) (fun en=>?_) (fun b hb hn x y=>absurd hb (gQ b))
 simp only[pkA,seval]
 refine cC _ _ ?_
 simp only[mH,seval]
 refine qM rfl (.coolT (g:=none) (E:=none) (es:=[]) 5 (by simp[ao]) (.done ?_))
 simp only[mH,seval]
 refine uU rfl (FnOK.toB TK rfl) rfl ?_
 simp only[mH,seval,fM,eI,V.ren]
 exact pL [(4,.c (.sl []))] rfl rfl (ar _) (ar _) ⟨by simp[],trivial⟩ ⟨rfl,trivial⟩ rfl
theorem KQ {g:FuncId} {c:Wy→Wy→Int} (h:aeE g c) {W:List Wy} (oV:(cm W).Nodup) (hW:W.length≤1000000) (vJ:∀ w∈W,w.pre.length≤1000000) {a nb:Nat} {fr:Nat→V} {bx:Nat→List V} {K:Vl.S→V→Prop} (ha:a<nb) (h0:bx a=wM W)
 (hK0:W=[]→∀ bx':Nat→List V,(∀ j,j≠a→bx' j=bx j)→bx' a=wM []→K ⟨fr,bx',nb⟩ (.c (.sl [])))
 (hK1:W≠[]→∀ bx':Nat→List V,(∀ j,j≠a→j≠nb→bx' j=bx j)→bx' a=wM W→bx' nb=flb wyC (ux c W)→K ⟨fr,bx',nb+1⟩ (.ms nb 0 W.length W.length 6)) :
 vcallB Tryz.prog G ⟨fr,bx,nb⟩ (.c (.fn (.func 89) [] [])) [.mr a,.c (.fn (.func g) [] [])] K:=by
 by_cases gK:W=[]
 ·subst gK
  refine ko [a] rfl (Oo (g:=g)) (by simp[V.fz,V.ren,rho]) rfl (by simp) rfl ⟨⟨by simp[rho,ha],by rw[CJ];simp[rho,h0]⟩,trivial⟩ ?_
  intro bx' iH qc
  refine hK0 rfl bx' (fun j hj=>iH j (by simp[hj])) ?_
  rw[← CJ];exact qc 0 a _ rfl rfl
 ·refine NA (b1:=[wM W]) [a] rfl (TN h W gK oV hW vJ) (by simp[V.fz,V.ren,rho]) rfl (by simp) rfl ⟨⟨by simp[rho,ha],by rw[CJ];simp[rho,h0]⟩,trivial⟩ (by simp[ha]) ?_
  intro bx' iH qc hl
  have:=hK1 gK bx' (fun j hj Dm=>iH j (by simp[hj]) Dm) (by rw[← CJ];exact qc 0 a _ rfl rfl) (by rw[← uY];exact hl)
  simpa[V.ren,rho] using this
open Go Go.Vl
def WyI (L:List In) (w:Wy):Prop:=∃ x∈L,w.rule=x.rule∧w.pre=x.pre∧w.fact∈x.con
theorem KT {L:List In} {num:Int} {x:In} (hx:x∈L):∀ (l:List Fa) (W:List Wy),(∀ f∈l,f∈x.con)→(∀ w∈W,WyI L w)→∀ w∈l.foldl (tj num x) W,WyI L w
 |[],_,_,h=>h
 |f::l,W,hl,h=>by
  rw[dH]
  refine KT hx l _ (fun g hg=>hl g (aR _ hg)) fun w hw=>?_
  unfold tj at hw
  split at hw
  ·exact h w hw
  ·rcases aZ.1 hw with hw | hw
   ·exact h w hw
   ·rw[aW] at hw;subst hw
    exact⟨x,hx,rfl,rfl,hl f (bB ..)⟩
theorem KU {L:List In} {num:Int}:∀ (l:List Wt) (W:List Wy),(∀ w∈l,w.x∈L)→(∀ w∈W,WyI L w)→∀ w∈lg num W l,WyI L w
 |[],_,_,h=>h
 |v::l,W,hl,h=>KU l (Oc num W v.x) (fun w hw=>hl w (aR _ hw)) (KT (hl v (bB ..)) _ _ (fun _ h=>h) h)
theorem Zl {L:List In} {D D':List Fa} {w:Wt} (h:w∈yi L D D'):w.x∈L:=by
 obtain⟨i,x,h1,rfl,_⟩:=yo.1 h
 exact aT h1
theorem KX {L:List In}:∀ (n:Nat) (num:Int) (now:List Wt) (W:List Wy),(∀ w∈now,w.x∈L)→(cm W).Nodup→(∀ w∈W,WyI L w)→(cm (y6 L n num now W)).Nodup∧∀ w∈y6 L n num now W,WyI L w
 |0,_,_,_,_,h1,h2=>⟨h1,h2⟩
 |n+1,num,now,W,h0,h1,h2=>by
  unfold y6
  split
  ·exact⟨h1,h2⟩
  ·exact KX n _ _ _ (fun _ h=>Zl h) (A1 _ _ h1) (KU _ _ h0 h2)
theorem uy (L:List In):(cm (yj L)).Nodup∧∀ w∈yj L,WyI L w:=KX _ _ _ _ (fun _ h=>PT h) gy (fun _ h=>by cases h)
theorem TO {L:List In} (h:lE L):(L.flatMap In.con).length≤2*L.length:=by
 induction L with
 |nil=>simp
 |cons x L ih=>
  rw[iL,aj,aA]
  have h1:=(h x (bB ..)).2
  have h2:=ih fun y hy=>h y (aR _ hy)
  omega
theorem ajF {α:Type} [DecidableEq α] {l m:List α} (h:l.Nodup) (hs:∀ x∈l,x∈m):l.length≤m.length:=by
 induction l generalizing m with
 |nil=>simp
 |cons x l ih=>
  have h':=jK.1 h
  have hx:=hs x (bB ..)
  have h2:=ih (m:=m.erase x) h'.2 fun y hy=>by
   have gK:y≠x:=by rintro rfl;exact h'.1 hy
   exact(List.mem_erase_of_ne gK).2 (hs y (aR _ hy))
  rw[List.length_erase_of_mem hx] at h2
  have:0<m.length:=List.length_pos_of_mem hx
  rw[aA];omega
theorem Zm {L:List In} (h:lE L):(yj L).length≤2*L.length:=by
 have h1:=uy L
 have h2:=ajF h1.1 (m:=L.flatMap In.con) fun f hf=>by
  obtain⟨w,hw,rfl⟩:=bA.1 hf
  obtain⟨x,hx,_,_,hc⟩:=h1.2 w hw
  exact List.mem_flatMap.2 ⟨x,hx,hc⟩
 have h3:=TO h
 unfold cm at h2
 rw[ak] at h2
 omega
structure PolS (p:Pol):Prop where
 ty:p.types.length≤7
 ru:p.rules.length≤15
def wU (p:Pol):List Wy:=yj (iS p none)
theorem PolS.len {p:Pol} (h:PolS p):(iS p none).length≤20000:=Y8 h.ty h.ru
theorem PolS.sat {p:Pol} (h:PolS p):(wU p).length≤40000:=by
 have h1:=h.len
 have h2:(wU p).length≤2*(iS p none).length:=Zm nK
 omega
theorem HA (p:Pol):(cm (wU p)).Nodup:=(uy _).1
theorem Zn {p:Pol}:∀ w∈wU p,w.pre.length≤2:=fun w hw=>by
 obtain⟨x,hx,_,h,_⟩:=(uy _).2 w hw
 rw[h];exact(nK x hx).1
theorem KY {p:Pol} (h:PolS p):FnB Tryz.prog G 90 [.agg (poC p)] [] (.mr 1) [(poC p).map .c,wM (wU p)]:=
 Hu p (by have:=h.ty;omega) (by have:=h.ru;omega) h.len nK
def kq (p:Pol):List Wy:=ux zW (wU p)
theorem sE (p:Pol):(kq p).length=(wU p).length:=(sC _ _).length_eq
theorem ajG {p:Pol} {ρ:Nat→Nat}:((poC p).map V.c).map (V.ren ρ)=(poC p).map .c:=Vl.cells_ren
def af4:=jj @pkA (jj @ptA (jj @pkF @y5))
theorem Zo {p:Pol} (h:PolS p):FnOK Tryz.prog G 62 [.agg (poC p)] (.c (wsC (kq p))):=by
 refine bR (rs:=[.tmp 2]) true [1000004,1000005] mixed Tryz.func62 rfl rfl rfl rfl (by kernel_rfl) (by simp) rfl rfl ?_
 simp only[af4,seval]
 refine uU rfl (KY h) rfl ?_
 simp only[mH,seval,V.ren,fM,ajG,CJ]
 have aqm:=h.sat
 refine KQ amC (HA p) (by omega) (fun w hw=>by have:=Zn w hw;omega) (show 2<3 by decide) (by simp[]) (fun h0 bx' iH hb=>?_) (fun h0 bx' iH hb hn=>?_)
 ·simp only[mH,seval,AS]
  have e:kq p=[]:=by unfold kq;rw[h0];simp[ux]
  rw[e];rfl
 ·simp only[mH,seval,AS]
  show Option.map V.c (mn _ _ _ _ _)=some _
  have hl:(ux zW (wU p)).length=(wU p).length:=sE p
  rw[EG (c:=wyC) (l:=ux zW (wU p)) (a:=0) yq (show 3<4 by decide) hn rfl (by omega),dE,dW (by omega)]
  rfl
def cR (p:Pol):List Fa:=cm (kq p)
theorem Zp {p:Pol} (h:PolS p):FnOK Tryz.prog G 43 [.agg (poC p)] (.c (fsC (cR p))):=by
 refine bR (rs:=[.tmp 2]) false [12] mixed Tryz.func43 rfl rfl rfl rfl (by kernel_rfl) (by simp) rfl rfl ?_
 have aqm:=h.sat
 have hll:=sE p
 simp only[af4,seval]
 refine aN rfl (Zo h) (fun h=>by cases h) ?_
 simp only[Zk,seval,wsC,ak]
 refine cx (fun i:Nat=>hdS [(2,owF ((cR p).take i)),(6,.c (.sl ((kq p).map wyC))),(7,i64 (kq p).length),(8,i64 i)] []) (fun i=>(kq p).length - i) (fun i=>i≤(kq p).length) 0 (au _) ?_ ?_
 ·exact cL rfl (au _) (au _) (by simp[FL,ao,owF]) trivial
 rintro i hi R cE cC dV
 simp only[mH,seval]
 refine aS (fun bV=>?_) (fun jA=>?_)
 ·have bV:i<(kq p).length:=by simpa using bV
  have hw:=cd (n:=(i:Int)+1) (k:=i+1) (by omega) (by omega)
  have e1:((i+1:Nat):Int)=(i:Int)+1:=by omega
  simp only[mH,seval]
  refine fE ES rfl pO (by decide) (aJ i) (c:=wyC (kq p)[i]) (by simp[bV]) rfl ?_
  have r4:∀ (w:Wy) (a b c d e f:V),eS [a,b,c,d,e,f] 0 ((wyC w).map .c)=(wyC w).map .c:=fun _ _ _ _ _ _ _=>rfl
  simp only[Zj,seval,r4]
  have r5:lW 3 [(0,V.agg (faC (kq p)[i].fact))] [[C.lit (Value.int IntKind.i64 0),C.lit (Value.int IntKind.i64 0),C.lit (Value.int IntKind.i64 0)]]=some [faC (kq p)[i].fact]:=rfl
  simp only[Zj,seval,lj,r5,fh]
  refine EV (by rw[aG];omega) ?_
  simp only[mH,seval,lj,hw]
  have hfi:i<(cR p).length:=by unfold cR cm;rw[ak];exact bV
  have e2:(cR p).take (i+1)=(cR p).take i++[(kq p)[i].fact]:=by
   have hg:(cR p)[i]=(kq p)[i].fact:=jt _
   rw[bg hfi,hg]
  refine cE (i+1) _ bV (by omega) (cL rfl (au _) (au _) (by simp[FL,ao,e1,e2]) trivial)
 ·have:i=(kq p).length:=by simp at jA;omega
  subst this
  have kU:(kq p).length=(cR p).length:=by unfold cR cm;rw[ak]
  simp only[pkA]
  refine cC _ _ ?_
  simp only[mH,seval,wL]
  rw[kU,cH];rfl
theorem KZ {p:Pol}:(pf p).length≤2*p.types.length:=df (oh _) (x7 p _)
set_option maxRecDepth 100000
def ng (p:Pol) (l:List Fa):List Fa:=(pf p).filter fun f=>decide (f∈l)
def PW:=jj @pkA (jj @ptA @pkS)
theorem PX (p:Pol) (l:List Fa) (hn:p.types.length≤1000) (hl:l.length≤1000000):FnOK Tryz.prog G 37 [.agg (poC p),.c (fsC l)] (.c (fsC (ng p l))):=by
 refine bR (rs:=[.tmp 4]) false [31] mixed Tryz.func37 rfl rfl rfl rfl (by kernel_rfl) (by simp) rfl rfl ?_
 have lf:∀ (m:List Fa) (K:V→Prop),fw Tryz.prog 28 (.c (fsC m)) K=K (i64 m.length):=fun m K=>by unfold fsC;rw[ff eO rfl,ak]
 have Ux:=@KZ p
 simp only[pkA,seval,lf,Xx]
 refine cx (fun i:Nat=>hdS [(2,.bp 0 0),(5,.mr 1),(12,.c (fsC l)),(13,i64 l.length),(14,i64 i)] [(poC p).map .c,k9 faC (mZ (l.take i))]) (fun i=>l.length - i) (fun i=>i≤l.length) 0 (au _) ?_ ?_
 ·refine cL (by simp only[jq,bh,bG,ja,aA,aB];rfl) (au _) (ar 2) ?_ (by simp[BL,ao,mZ,JD])
  simp[FL,ao]
 rintro i hi R cE cC dV
 simp only[pkA,seval]
 refine aS (fun bV=>?_) (fun jA=>?_)
 ·have bV:i<l.length:=by simpa using bV
  have hw:=cd (n:=(i:Int)+1) (k:=i+1) (by omega) (by omega)
  have e1:((i+1:Nat):Int)=(i:Int)+1:=by omega
  simp only[pkA,seval]
  refine fE eO rfl eV (by decide) (aJ i) (c:=faC l[i]) (by simp[bV]) rfl ?_
  have q1:∀ a b c:V,eS [a,b,c] 0 ((faC l[i]).map .c)=(faC l[i]).map .c:=fun _ _ _=>rfl
  simp only[PW,seval,q1]
  refine YF rfl (show 1<3 by decide) ?_
  rw[← EX bV]
  simp only[pkA,seval,hw]
  refine cE (i+1) _ bV (by omega) (cL (by simp only[jq,bh,bG,ja,aA,aB];rfl) (au _) (show 2≤3 by decide) ?_ (by simp[BL,ao,bxs]))
  simp[FL,ao,e1]
 ·have:i=l.length:=by simp at jA;omega
  subst this
  rw[cH]
  simp only[pkA]
  refine cC _ _ ?_
  simp only[PW,seval]
  refine aN rfl (aiX p (by omega)) (fun h=>by cases h) ?_
  simp only[pkA,seval,lf]
  have hm:∀ f,decide (f∈mZ l)=decide (f∈l):=fun f=>by rw[decide_eq_decide];exact um
  refine cx (fun i:Nat=>hdS [(5,.mr 1),(8,owF (((pf p).take i).filter fun f=>decide (f∈l))),(22,.c (fsC (pf p))),(23,i64 (pf p).length),(24,i64 i)] [(poC p).map .c,k9 faC (mZ l)]) (fun i=>(pf p).length - i) (fun i=>i≤(pf p).length) 0 (au _) ?_ ?_
  ·refine cL (by simp only[jq,bh,bG,ja,aA,aB];rfl) (au _) (ar 2) ?_ (by simp[BL,bxs])
   simp[FL,ao,owF]
  rintro i hi R cE cC dV
  simp only[pkA,seval]
  refine aS (fun bV=>?_) (fun jA=>?_)
  ·have bV:i<(pf p).length:=by simpa using bV
   have hw:=cd (n:=(i:Int)+1) (k:=i+1) (by omega) (by omega)
   have e1:((i+1:Nat):Int)=(i:Int)+1:=by omega
   obtain⟨f,hf⟩:∃ f,f=(pf p)[i]:=⟨_,rfl⟩
   have q1:∀ a b c:V,eS [a,b,c] 0 ((faC f).map .c)=(faC f).map .c:=fun _ _ _=>rfl
   have r5:lW 3 [(0,V.agg (faC f))] [[C.lit (Value.int IntKind.i64 0),C.lit (Value.int IntKind.i64 0),C.lit (Value.int IntKind.i64 0)]]=some [faC f]:=rfl
   have e2:∀ b,decide (f∈l)=b→((pf p).take (i+1)).filter (fun f=>decide (f∈l))=if b then((pf p).take i).filter (fun f=>decide (f∈l))++[f] else((pf p).take i).filter (fun f=>decide (f∈l)):=fun b hb=>by
    rw[bg bV,List.filter_append,← hf]
    cases b<;>simp[hb]
   simp only[pkA,seval]
   refine fE eO rfl eV (by decide) (aJ i) (c:=faC f) (by simp[bV,hf]) rfl ?_
   simp only[PW,seval,q1]
   refine Hm rfl (show 1<3 by decide) ?_
   rw[hm]
   simp only[pkA,seval]
   refine aS (fun hy=>?_) (fun hy=>?_)
   ·simp only[PW,seval,lj,r5,fh]
    refine EV (by have:=eD (fun f=>decide (f∈l)) ((pf p).take i);rw[aG] at this;omega) ?_
    simp only[pkA,seval,lj,hw]
    refine cE (i+1) _ bV (by omega) (cL (by simp only[jq,bh,bG,ja,aA,aB];rfl) (au _) (show 2≤3 by decide) ?_ (by simp[BL,ao,bxs]))
    simp[FL,ao,e1,e2 true hy]
   ·simp only[pkA,seval,hw]
    refine cE (i+1) _ bV (by omega) (cL (by simp only[jq,bh,bG,ja,aA,aB];rfl) (au _) (show 2≤3 by decide) ?_ (by simp[BL,ao,bxs]))
    simp[FL,ao,e1,e2 false hy]
  ·have:i=(pf p).length:=by simp at jA;omega
   subst this
   rw[cH]
   simp only[pkA]
   refine cC _ _ ?_
   simp only[pkA,seval,wL]
   rfl
