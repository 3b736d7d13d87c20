/- Layer 18: what is true of all reasons; Least, Facts, Reaches. -/
import Derived.Test.YtjfjdomfldolcaaGreatVlX7
import Derived.Test.YtjfjdomfldolcaaGreatVlN3
set_option maxHeartbeats 4000000
set_option linter.all false
namespace Go.Proofs.YtjfjdomfldolcaaGreat
open Go Go.Vl
variable {G:Gl}
set_option maxRecDepth 4000
def WyI (L:List In) (w:Wy):Prop:=∃ x∈L,w.rule=x.rule∧w.pre=x.pre∧w.fact∈x.con
theorem IX {L:List In} {num:Int} {x:In} (hx:x∈L):∀ (l:List Fa) (W:List Wy),(∀ f∈l,f∈x.con)→(∀ w∈W,WyI L w)→∀ w∈l.foldl (k9 num x) W,WyI L w
 |[],_,_,h=>h
 |f::l,W,hl,h=>by
  rw[br]
  refine IX hx l _ (fun g hg=>hl g (aD _ hg)) fun w hw=>?_
  unfold k9 at hw
  split at hw
  ·exact h w hw
  ·rcases aV.1 hw with hw | hw
   ·exact h w hw
   ·rw[a7] at hw;subst hw
    exact⟨x,hx,rfl,rfl,hl f (a8 ..)⟩
theorem IY {L:List In} {num:Int}:∀ (l:List Wt) (W:List Wy),(∀ w∈l,w.x∈L)→(∀ w∈W,WyI L w)→∀ w∈iD num W l,WyI L w
 |[],_,_,h=>h
 |v::l,W,hl,h=>IY l (tS num W v.x) (fun w hw=>hl w (aD _ hw)) (IX (hl v (a8 ..)) _ _ (fun _ h=>h) h)
theorem Vb {L:List In} {D D':List Fa} {w:Wt} (h:w∈sU L D D'):w.x∈L:=by
 obtain⟨i,x,h1,rfl,_⟩:=uG.1 h
 exact aQ h1
theorem IZ {L:List In}:∀ (n:Nat) (num:Int) (now:List Wt) (W:List Wy),(∀ w∈now,w.x∈L)→(aL W).Nodup→(∀ w∈W,WyI L w)→(aL (pX L n num now W)).Nodup∧∀ w∈pX L n num now W,WyI L w
 |0,_,_,_,_,h1,h2=>⟨h1,h2⟩
 |n+1,num,now,W,h0,h1,h2=>by
  unfold pX
  split
  ·exact⟨h1,h2⟩
  ·exact IZ n _ _ _ (fun _ h=>Vb h) (AY _ _ h1) (IY _ _ h0 h2)
theorem qc (L:List In):(aL (vI L)).Nodup∧∀ w∈vI L,WyI L w:=IZ _ _ _ _ (fun _ h=>Nh h) fH (fun _ h=>by cases h)
theorem Em {L:List In} (h:nG L):(L.flatMap In.con).length≤2*L.length:=by
 induction L with
 |nil=>simp
 |cons x L ih=>
  rw[fE,ai,aZ]
  have h1:=(h x (a8 ..)).2
  have h2:=ih fun y hy=>h y (aD _ hy)
  omega
theorem Gn {α:Type} [DecidableEq α] {l m:List α} (h:l.Nodup) (hs:∀ x∈l,x∈m):l.length≤m.length:=by
 induction l generalizing m with
 |nil=>simp
 |cons x l ih=>
  have h':=gZ.1 h
  have hx:=hs x (a8 ..)
  have h2:=ih (m:=m.erase x) h'.2 fun y hy=>by
   have gW:y≠x:=by rintro rfl;exact h'.1 hy
   exact(List.mem_erase_of_ne gW).2 (hs y (aD _ hy))
  rw[List.length_erase_of_mem hx] at h2
  have:0<m.length:=List.length_pos_of_mem hx
  rw[aZ];omega
theorem Vd {L:List In} (h:nG L):(vI L).length≤2*L.length:=by
 have h1:=qc L
 have h2:=Gn h1.1 (m:=L.flatMap In.con) fun f hf=>by
  obtain⟨w,hw,rfl⟩:=bj.1 hf
  obtain⟨x,hx,_,_,hc⟩:=h1.2 w hw
  exact iw.2 ⟨x,hx,hc⟩
 have h3:=Em h
 unfold aL at h2
 rw[au] at h2
 omega
structure PolS (p:Pol):Prop where
 ty:p.types.length≤7
 ru:p.rules.length≤15
def fg (p:Pol):List Wy:=vI (gp p none)
theorem PolS.len {p:Pol} (h:PolS p):(gp p none).length≤20000:=Va h.ty h.ru
theorem PolS.sat {p:Pol} (h:PolS p):(fg p).length≤40000:=by
 have h1:=h.len
 have h2:(fg p).length≤2*(gp p none).length:=Vd l0
 omega
theorem qX (p:Pol):(aL (fg p)).Nodup:=(qc _).1
theorem qd {p:Pol}:∀ w∈fg p,w.pre.length≤2:=fun w hw=>by
 obtain⟨x,hx,_,h,_⟩:=(qc _).2 w hw
 rw[h];exact(l0 x hx).1
theorem uJ {p:Pol} (h:PolS p):FnB Tryz.prog G 28 [.agg (poC p)] [] (.mr 1) [(poC p).map .c,wM (fg p)]:=
 Gi p (by have:=h.ty;omega) (by have:=h.ru;omega) h.len l0
def cC (p:Pol):List Wy:=oh yg (fg p)
theorem jU (p:Pol):(cC p).length=(fg p).length:=(jT _ _).length_eq
theorem LV {p:Pol} {ρ:Nat→Nat}:((poC p).map V.c).map (V.ren ρ)=(poC p).map .c:=Vl.cells_ren
def En:=jj @pkA (jj @ptA (jj @pkF @gj))
def qe:=jj @pkA @gj
theorem sd {p:Pol} (h:PolS p):FnOK Tryz.prog G 13 [.agg (poC p)] (.c (wsC (cC p))):=by
 refine cL (rs:=[.tmp 2]) true [1000004,1000005] mixed Tryz.func13 rfl rfl rfl rfl (by kernel_rfl) (by simp) rfl rfl ?_
 simp only[En,seval]
 refine rO rfl (uJ h) rfl ?_
 simp only[qe,seval,V.ren,gz,LV,rn]
 have JS:=h.sat
 refine zO cmp_f (qX p) (by omega) (fun w hw=>by have:=qd w hw;omega) (show 2<3 by decide) (by simp[]) (fun h0 bx' ko hb=>?_) (fun h0 bx' ko hb hn=>?_)
 ·simp only[qe,seval,AK]
  have e:cC p=[]:=by unfold cC;rw[h0];simp[oh]
  rw[e];rfl
 ·simp only[qe,seval,AK]
  show Option.map V.c (mJ _ _ _ _ _)=some _
  have hl:(oh yg (fg p)).length=(fg p).length:=jU p
  rw[yZ (c:=wyC) (l:=oh yg (fg p)) (a:=0) qU (show 3<4 by decide) hn rfl (by omega),cd,fP (by omega)]
  rfl
def dP (p:Pol):List Fa:=aL (cC p)
def I4:=jj @pkA (jj @ptA @gj)
def I5:=jj @pkA (jj @ptA (jj @gj @UO))
theorem yj {p:Pol} (h:PolS p):FnOK Tryz.prog G 16 [.agg (poC p)] (.c (fsC (dP p))):=by
 refine cL (rs:=[.tmp 2]) false [12] mixed Tryz.func16 rfl rfl rfl rfl (by kernel_rfl) (by simp) rfl rfl ?_
 have JS:=h.sat
 have Mo:=jU p
 simp only[En,seval]
 refine aB rfl (sd h) (fun h=>by cases h) ?_
 simp only[I4,seval,wsC,au]
 refine bE (fun i:Nat=>hdS [(2,owF ((dP p).take i)),(6,.c (.sl ((cC p).map wyC))),(7,i64 (cC p).length),(8,i64 i)] []) (fun i=>(cC p).length - i) (fun i=>i≤(cC p).length) 0 (ar _) ?_ ?_
 ·exact cD rfl (ar _) (ar _) (by simp[FL,ak,owF]) trivial
 rintro i hi R cj cJ eP
 simp only[qe,seval]
 refine aT (fun bK=>?_) (fun gr=>?_)
 ·have bK:i<(cC p).length:=by simpa using bK
  have hw:=bG (n:=(i:Int)+1) (k:=i+1) (by omega) (by omega)
  have e1:((i+1:Nat):Int)=(i:Int)+1:=by omega
  simp only[qe,seval]
  refine dR kO rfl gX (by decide) (aA i) (c:=wyC (cC p)[i]) (by simp[bK]) rfl ?_
  have r4:∀ (w:Wy) (a b c d e f:V),fj [a,b,c,d,e,f] 0 ((wyC w).map .c)=(wyC w).map .c:=fun _ _ _ _ _ _ _=>rfl
  simp only[I5,seval,r4]
  have r5:jY 3 [(0,V.agg (faC (cC p)[i].fact))] [[C.lit (Value.int IntKind.i64 0),C.lit (Value.int IntKind.i64 0),C.lit (Value.int IntKind.i64 0)]]=some [faC (cC p)[i].fact]:=rfl
  simp only[I5,seval,iY,r5,cG]
  refine pY (by rw[aN];omega) ?_
  simp only[qe,seval,iY,hw]
  have NR:i<(dP p).length:=by unfold dP aL;rw[au];exact bK
  have e2:(dP p).take (i+1)=(dP p).take i++[(cC p)[i].fact]:=by
   have hg:(dP p)[i]=(cC p)[i].fact:=j6 _
   rw[aC NR,hg]
  refine cj (i+1) _ bK (by omega) (cD rfl (ar _) (ar _) (by simp[FL,ak,e1,e2]) trivial)
 ·have:i=(cC p).length:=by simp at gr;omega
  subst this
  have kP:(cC p).length=(dP p).length:=by unfold dP aL;rw[au]
  simp only[pkA]
  refine cJ _ _ ?_
  simp only[qe,seval,nH]
  rw[kP,bD];rfl
def sZ (p:Pol):List Fa:=(j4 p).filter fun f=>decide (f∈aL (fg p))
theorem Cf {p:Pol}:(j4 p).length≤2*p.types.length:=bN (IL _) (ye p _)
theorem wT {p:Pol} (h:PolS p):FnOK Tryz.prog G 18 [.agg (poC p)] (.c (fsC (sZ p))):=by
 refine cL (rs:=[.tmp 2]) false [24,1000009] mixed Tryz.func18 rfl rfl rfl rfl (by kernel_rfl) (by simp) rfl rfl ?_
 have JS:=h.sat
 have hty:=h.ty
 have WC:=@Cf p
 simp only[En,seval]
 refine rO rfl (uJ h) rfl ?_
 simp only[En,seval,V.ren,gz,LV,rn]
 refine aB rfl (afd p (by omega)) (fun h=>by cases h) ?_
 simp only[pkA,gj,UO,seval]
 refine bE (fun i:Nat=>hdS [(2,owF (((j4 p).take i).filter fun f=>decide (f∈aL (fg p)))),(3,.mr 2),(11,.c (fsC (j4 p))),(12,i64 (j4 p).length),(13,i64 i)] [(poC p).map .c,(poC p).map .c,wM (fg p)]) (fun i=>(j4 p).length - i) (fun i=>i≤(j4 p).length) 0 (ar _) ?_ ?_
 ·refine cD (by simp only[kR,bR,cz,oM,aZ,aU];rfl) (ar _) (show 3≤3 by decide) (by simp[FL,ak,owF]) ⟨by simp[ak],by simp[ak],by simp[],trivial⟩
 rintro i hi R cj cJ eP
 simp only[qe,seval]
 refine aT (fun bK=>?_) (fun gr=>?_)
 ·have bK:i<(j4 p).length:=by simpa using bK
  have hw:=bG (n:=(i:Int)+1) (k:=i+1) (by omega) (by omega)
  have e1:((i+1:Nat):Int)=(i:Int)+1:=by omega
  simp only[qe,seval,fsC]
  refine dR fk rfl eY (by decide) (aA i) (c:=faC (j4 p)[i]) (by simp[bK]) rfl ?_
  obtain⟨f,hf⟩:∃ f,f=(j4 p)[i]:=⟨_,rfl⟩
  rw[← hf]
  have r1:∀ a b c:V,fj [a,b,c] 0 ((faC f).map .c)=(faC f).map .c:=fun _ _ _=>rfl
  have r3:∀ nb q (K:V→Prop),ldA nb q ((faC f).map .c) 0 3 K=(q<nb∧K (faV f)):=fun nb q K=>by
   unfold ldA
   exact propext ⟨fun h=>⟨h.1,h.2.2⟩,fun h=>⟨h.1,⟨rfl,rfl⟩,h.2⟩⟩
  have r2:cy ((faC f).map V.c)=false:=rfl
  have r4:∀ (w:Wy) (a b c d e f:V),fj [a,b,c,d,e,f] 0 ((wyC w).map .c)=(wyC w).map .c:=fun _ _ _ _ _ _ _=>rfl
  simp only[En,seval,r1,r2,r3]
  refine yf rfl (show 2<4 by decide) ?_
  simp only[I5,seval,r4]
  have e2:∀ b,decide (f∈aL (fg p))=b→((j4 p).take (i+1)).filter (fun f=>decide (f∈aL (fg p)))=if b then((j4 p).take i).filter (fun f=>decide (f∈aL (fg p)))++[f] else((j4 p).take i).filter (fun f=>decide (f∈aL (fg p))):=fun b hb=>by
   rw[aC bK,fG,← hf]
   cases b
   ·simp[hb]
   ·simp[hb]
  refine aT (fun hy=>?_) (fun hy=>?_)
  ·have r5:jY 3 [(0,faV f)] [[C.lit (Value.int IntKind.i64 0),C.lit (Value.int IntKind.i64 0),C.lit (Value.int IntKind.i64 0)]]=some [faC f]:=rfl
   simp only[I4,seval,iY,r2,r3,r5,cG]
   refine pY (by have:=ck (fun f=>decide (f∈aL (fg p))) ((j4 p).take i);rw[aN] at this;omega) ?_
   simp only[qe,seval,iY,hw]
   refine cj (i+1) _ bK (by omega) (cD (by simp only[kR,bR,cz,oM,aZ,aU];rfl) (ar _) (show 3≤5 by decide) (by simp[FL,ak,e1,e2 true hy,fsC]) ⟨by simp[ak,bxs],by simp[ak,bxs],by simp[ak,bxs],trivial⟩)
  ·simp only[qe,seval,hw]
   refine cj (i+1) _ bK (by omega) (cD (by simp only[kR,bR,cz,oM,aZ,aU];rfl) (ar _) (show 3≤5 by decide) (by simp[FL,ak,e1,e2 false hy,fsC]) ⟨by simp[ak,bxs],by simp[ak,bxs],by simp[ak,bxs],trivial⟩)
 ·have:i=(j4 p).length:=by simp at gr;omega
  subst this
  simp only[pkA]
  refine cJ _ _ ?_
  simp only[qe,seval,nH]
  rw[bD];rfl
def kK (W:List Wy):Nat→List Wy→Fa→List Wy
 |0,N,_=>N
 |n+1,N,f=>if f∈aL N then N else(mq W f).pre.foldl (kK W n) (N++[mq W f])
theorem ym {W:List Wy} {f:Fa} (h:f∈aL W):mq W f∈W∧(mq W f).fact=f:=by
 have h1:=@Eh W f
 rw[cu h] at h1
 unfold mq
 cases hg:xR (W.map fun w=>(w.fact,w)) f with
 |none=>rw[hg] at h1;cases h1
 |some w=>
  have:=Pq hg
  obtain⟨v,hv,he⟩:=bj.1 this
  cases he
  exact⟨hv,rfl⟩
def sf (W:List Wy):Prop:=∀ w∈W,∀ g∈w.pre,g∈aL W
def unv (W N:List Wy):Nat:=((aL W).filter fun f=>!decide (f∈aL N)).length
theorem I6 {W N M:List Wy} (h:∀ f∈aL N,f∈aL M):unv W M≤unv W N:=by
 unfold unv
 refine (List.Sublist.length_le ?_)
 have:((aL W).filter fun f=>!decide (f∈aL M))=((aL W).filter fun f=>!decide (f∈aL N)).filter fun f=>!decide (f∈aL M):=by
  rw[List.filter_filter]
  refine List.filter_congr fun f _=>?_
  by_cases h1:f∈aL N
  ·simp[h f h1]
  ·simp[h1]
 rw[this]
 exact List.filter_sublist
theorem Ve {W N:List Wy} {w:Wy} (h1:w.fact∈aL W) (h2:w.fact∉aL N):unv W (N++[w])<unv W N:=by
 unfold unv
 rw[nF]
 have:∀ l:List Fa,w.fact∈l→(l.filter fun f=>!decide (f∈aL N++aL [w])).length<(l.filter fun f=>!decide (f∈aL N)).length:=by
  intro l
  have jW:∀ l:List Fa,(l.filter fun f=>!decide (f∈aL N++aL [w])).length≤(l.filter fun f=>!decide (f∈aL N)).length:=by
   intro l
   induction l with
   |nil=>exact ab _
   |cons f l ih=>
    rw[cP,cP]
    by_cases h:f∈aL N
    ·simpa[h] using ih
    ·by_cases h3:f∈aL [w]
     ·simp[h,h3] at ih ⊢;omega
     ·simp[h,h3] at ih ⊢;omega
  induction l with
  |nil=>intro h;cases h
  |cons f l ih=>
   intro h
   rw[cP,cP]
   by_cases hf:f=w.fact
   ·subst hf
    have:=jW l
    rw[if_neg (by simp[aL]),if_pos (by simp[h2]),aZ]
    omega
   ·have hm:w.fact∈l:=by
     rcases aK.1 h with h | h
     ·exact absurd h.symm hf
     ·exact h
    have:=ih hm
    by_cases h4:f∈aL N
    ·simpa[h4] using this
    ·have h5:f∉aL [w]:=by simpa[aL] using hf
     simp[h4,h5] at this ⊢;omega
 exact this _ h1
theorem Cg {W:List Wy}:∀ (n:Nat) (N:List Wy) (f:Fa),∀ g∈aL N,g∈aL (kK W n N f)
 |0,_,_,_,h=>h
 |n+1,N,f,g,h=>by
  unfold kK
  split
  ·exact h
  ·have:∀ (l:List Fa) (M:List Wy),g∈aL M→g∈aL (l.foldl (kK W n) M):=fun l=>by
    induction l with
    |nil=>intro M h;exact h
    |cons x l ih=>intro M h;rw[br];exact ih _ (Cg n M x g h)
   exact this _ _ (by rw[nF];exact ee _ h)
theorem uK {W:List Wy} {n:Nat} {g:Fa}:∀ (l:List Fa) (M:List Wy),g∈aL M→g∈aL (l.foldl (kK W n) M)
 |[],_,h=>h
 |x::l,M,h=>by rw[br];exact uK l _ (Cg n M x g h)
theorem aao {W:List Wy} {n:Nat} {N:List Wy} {f:Fa} (h:f∈aL N):kK W n N f=N:=by
 cases n with
 |zero=>rfl
 |succ n=>unfold kK;rw[if_pos h]
theorem Eo {s:Vl.S} {i:Nat} {W:List Wy} {f:Fa} {K:V→Prop} (hb:s.bx i=wM W) (hi:i<s.nb) (hK:K (.agg (wyC (mq W f)))):fM Tryz.prog 57 s (.mr i) (faV f) false K:=by
 refine Lg (h:=wyV) (z:=.agg (wyC zwy)) (c:=faC) xY rfl eY rfl gX rfl TD (fun _=>rfl) (fun _=>rfl) D7 hb hi ?_
 unfold mq at hK
 cases hg:xR (W.map fun w=>(w.fact,w)) f with
 |none=>rw[hg] at hK;exact hK
 |some w=>rw[hg] at hK;exact hK
def Vf:V:=.clo (.func 29) [] [.bp 3 0,.bp 2 0,.bp 4 0]
def bxV (W N:List Wy):List (List V):=[wM W,wM N,[.mr 0],[.mr 1],[Vf]]
theorem Ch {W N:List Wy} {fl:List (Nat×V)} (h:(fl.all fun p=>p.2.ltB 5)=true):kR fl (bxV W N)=true:=by
 simp only[kR,bxV,aZ,aU,h,bR,cz,oM,jd,jX]
 rfl
theorem afC {W N:List Wy}:ltL 5 (bxV W N):=by
 have h:=@Ch W N [] rfl
 simp only[kR,aS,ba] at h
 intro b hb x hx
 exact V.ltB_ok (h.2 b hb x hx)
theorem Vg (W:List Wy) (hp:sf W) (hs:∀ w∈W,w.pre.length≤1000000) (n:Nat) (ih:∀ m,m<n→∀ (N:List Wy) (f:Fa),f∈aL W→unv W N≤m→FnB Tryz.prog G 29 [.agg (faC f),.bp 3 0,.bp 2 0,.bp 4 0] (bxV W N) (.tup []) (bxV W (kK W m N f)))
 (N:List Wy) (f:Fa) (hf:f∈aL W) (hu:unv W N≤n):FnB Tryz.prog G 29 [.agg (faC f),.bp 3 0,.bp 2 0,.bp 4 0] (bxV W N) (.tup []) (bxV W (kK W n N f)):=by
 refine lW (rs:=[]) (k:=5) [1000033,3000005] mixed Tryz.func29 rfl rfl rfl rfl (by kernel_rfl) (by simp) rfl rfl rfl (by simp only[nO,bxV,bR,cz,oM,aZ,aU];rfl) (ab 5) ?_
 have r1:∀ a b c:V,fj [a,b,c] 0 ((faC f).map .c)=(faC f).map .c:=fun _ _ _=>rfl
 have r3:∀ nb q (K:V→Prop),ldA nb q ((faC f).map .c) 0 3 K=(q<nb∧K (faV f)):=fun nb q K=>by
  unfold ldA
  exact propext ⟨fun h=>⟨h.1,h.2.2⟩,fun h=>⟨h.1,⟨rfl,rfl⟩,h.2⟩⟩
 have r2:cy ((faC f).map V.c)=false:=rfl
 have r4:∀ (w:Wy) (a b c d e f:V),fj [a,b,c,d,e,f] 0 ((wyC w).map .c)=(wyC w).map .c:=fun _ _ _ _ _ _ _=>rfl
 simp only[I4,seval,bxV,r2,r3]
 refine yf (W:=N) rfl (show 1<6 by decide) ?_
 simp only[I5,seval,r4]
 refine aT (fun hy=>?_) (fun hy=>?_)
 ·have hn:f∉aL N:=by simpa using hy
  obtain⟨m,rfl⟩:∃ m,n=m+1:=⟨n - 1,by
   have:0<unv W N:=List.length_pos_of_mem (cH.2 ⟨hf,by simp[hn]⟩)
   omega⟩
  simp only[I4,seval,r2,r3]
  refine Eo (W:=W) rfl (show 0<7 by decide) ?_
  obtain⟨yE,JL⟩:=ym hf
  have Qj:∀ {s:Vl.S} {K:Vl.S→Prop},s.bx 1=wM N→1<s.nb→K { s with bx:=up s.bx 1 (wM (N++[mq W f])) }→iJ Tryz.prog 57 s (.mr 1) (faV f) (.agg (wyC (mq W f))) K:=fun hb hi hK=>by
   have:=Ng (w:=mq W f) hb hi (by rw[JL];exact hn) hK
   rwa [JL] at this
  simp only[pkA,seval]
  refine Qj rfl (show 1<7 by decide) ?_
  simp only[I4,seval,r2,r3]
  refine Eo (W:=W) rfl (show 0<7 by decide) ?_
  have JB:=hs _ yE
  have hpp:=hp _ yE
  have V9:=Ve (W:=W) (N:=N) (w:=mq W f) (by rw[JL];exact hf) (by rw[JL];exact hn)
  have mX:kK W (m+1) N f=(mq W f).pre.foldl (kK W m) (N++[mq W f]):=by
   conv=>lhs;unfold kK
   rw[if_neg hn]
  rw[mX]
  simp only[I5,seval]
  generalize mq W f=w at *
  refine bE (fun i:Nat=>hdS [(3,.bp 4 0),(25,.c (fsC w.pre)),(26,i64 w.pre.length),(27,i64 i)] (bxV W ((w.pre.take i).foldl (kK W m) (N++[w])))) (fun i=>w.pre.length - i) (fun i=>i≤w.pre.length) 0 (ar _) ?_ ?_
  ·refine cD (Ch rfl) (ab 5) (show 5≤7 by decide) (by simp[FL,ak]) ⟨by simp[ak,bxs],by simp[],by simp[ak,bxs],by simp[ak,bxs],by simp[ak,bxs],trivial⟩
  rintro i hi R cj cJ eP
  simp only[qe,seval,bxV]
  refine aT (fun bK=>?_) (fun gr=>?_)
  ·have bK:i<w.pre.length:=by simpa using bK
   have hwi:=bG (n:=(i:Int)+1) (k:=i+1) (by omega) (by omega)
   have e1:((i+1:Nat):Int)=(i:Int)+1:=by omega
   simp only[qe,seval,fsC]
   refine dR fk rfl eY (by decide) (aA i) (c:=faC w.pre[i]) (by simp[bK]) rfl ?_
   have hgm:w.pre[i]∈w.pre:=bL bK
   obtain⟨g,hg⟩:∃ g,g=w.pre[i]:=⟨_,rfl⟩
   rw[← hg] at hgm ⊢
   have q1:∀ a b c:V,fj [a,b,c] 0 ((faC g).map .c)=(faC g).map .c:=fun _ _ _=>rfl
   have q3:∀ nb q (K:V→Prop),ldA nb q ((faC g).map .c) 0 3 K=(q<nb∧K (faV g)):=fun nb q K=>by
    unfold ldA
    exact propext ⟨fun h=>⟨h.1,h.2.2⟩,fun h=>⟨h.1,⟨rfl,rfl⟩,h.2⟩⟩
   have q2:cy ((faC g).map V.c)=false:=rfl
   have jI:∀ nb (K:V→Prop),ldB nb 4 [Vf] 0 K=(4<nb∧K Vf):=fun _ _=>rfl
   have Qb:cy [Vf]=false:=rfl
   simp only[En,seval,q1,q2,q3,jI,Qb]
   have hui:unv W ((w.pre.take i).foldl (kK W m) (N++[w]))≤m:=by
    have:=I6 (W:=W) (N:=N++[w]) (M:=(w.pre.take i).foldl (kK W m) (N++[w])) fun x hx=>uK _ _ hx
    omega
   refine Pt (f:=Vf) rfl (ih m (bQ m) ((w.pre.take i).foldl (kK W m) (N++[w])) g (hpp g hgm) hui) rfl rfl afC (show 5≤6 by decide) ⟨rfl,rfl,rfl,rfl,rfl,trivial⟩ (fun _ _=>rfl) (fun bx' _ hb=>?_)
   obtain⟨c0,c1,c2,c3,c4,_⟩:=hb
   simp only[qe,seval,hwi]
   have e2:(w.pre.take (i+1)).foldl (kK W m) (N++[w])=kK W m ((w.pre.take i).foldl (kK W m) (N++[w])) g:=by
    rw[aC bK,ew,← hg];rfl
   refine cj (i+1) _ bK (by omega) (cD (Ch rfl) (ab 5) (show 5≤6 by decide) (by simp[FL,ak,e1,fsC]) ?_)
   rw[e2]
   exact⟨c0,c1,c2,c3,c4,trivial⟩
  ·have:i=w.pre.length:=by simp at gr;omega
   subst this
   simp only[pkA,bD]
   refine cJ _ _ ?_
   simp only[pkA,seval]
   exact tJ [] rfl (Ch rfl) (ab 5) (show 5≤5 by decide) trivial ⟨rfl,rfl,rfl,rfl,rfl,trivial⟩ pw
 ·have hn:f∈aL N:=by simpa using hy
  rw[aao hn]
  simp only[pkA]
  exact tJ [] rfl (Ch rfl) (ab 5) (show 5≤7 by decide) trivial ⟨by simp[ak,bxs],by simp[ak,bxs],by simp[ak,bxs],by simp[ak,bxs],by simp[ak,bxs],trivial⟩ pw
theorem Vh (W:List Wy) (hp:sf W) (hs:∀ w∈W,w.pre.length≤1000000) (n:Nat):∀ (N:List Wy) (f:Fa),f∈aL W→unv W N≤n→
 FnB Tryz.prog G 29 [.agg (faC f),.bp 3 0,.bp 2 0,.bp 4 0] (bxV W N) (.tup []) (bxV W (kK W n N f)):=by
 induction n using Nat.strongRecOn with
 |_ n ih=>exact fun N f hf hu=>Vg W hp hs n ih N f hf hu
