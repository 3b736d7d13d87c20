/- Layer 18, the specification: Least, plain. -/
import Derived.Test.YtjfjdomfldolcaaGreatVlY2
set_option linter.all false
namespace Go.Proofs.YtjfjdomfldolcaaGreat
open Go Go.Vl
set_option maxRecDepth 4000
def pW (w:Wy) (y:Wy):Bool:=!ltF w.fact y.fact
theorem Es {w:Wy}:∀ (m o:List Wy),m.foldl (tU w) (o,true)=(o++m,true)
 |[],o=>by simp
 |y::m,o=>by
  rw[br]
  have e:tU w (o,true) y=(o++[y],true):=rfl
  rw[e,Es m]
  simp
theorem Ci {w:Wy}:∀ (m o:List Wy),m.foldl (tU w) (o,false)=if m.all (pW w)=true then(o++m,false) else(o++m.takeWhile (pW w)++w::m.dropWhile (pW w),true)
 |[],o=>by simp
 |y::m,o=>by
  rw[br]
  cases hy:ltF w.fact y.fact
  ·have e:tU w (o,false) y=(o++[y],false):=by unfold tU;rw[hy];rfl
   have hp:pW w y=true:=by unfold pW;rw[hy];rfl
   rw[e,Ci m,bR,hp,jX,List.takeWhile_cons_of_pos hp,List.dropWhile_cons_of_pos hp]
   simp
  ·have e:tU w (o,false) y=(o++[w,y],true):=by unfold tU;rw[hy];rfl
   have hp:pW w y=false:=by unfold pW;rw[hy];rfl
   rw[e,Es m,bR,hp,Bool.false_and,if_neg (by decide),List.takeWhile_cons_of_neg (by rw[hp];decide),List.dropWhile_cons_of_neg (by rw[hp];decide)]
   simp
theorem Vm {α:Type} {p:α→Bool}:∀ {l:List α},l.all p=true→l.takeWhile p=l∧l.dropWhile p=[]
 |[],_=>⟨rfl,rfl⟩
 |x::l,h=>by
  rw[bR,aS] at h
  obtain⟨h1,h2⟩:=Vm h.2
  rw[List.takeWhile_cons_of_pos h.1,List.dropWhile_cons_of_pos h.1,h1,h2]
  exact⟨rfl,rfl⟩
theorem Nt (l:List Wy) (w:Wy):As l w=l.takeWhile (pW w)++w::l.dropWhile (pW w):=by
 unfold As om
 rw[bD,Ci]
 by_cases h:l.all (pW w)=true
 ·rw[if_pos h]
  obtain⟨e1,e2⟩:=Vm h
  rw[e1,e2];simp
 ·rw[if_neg h];simp
theorem sg (l:List Wy) (w:Wy):(As l w).Perm (w::l):=by
 rw[Nt]
 refine List.perm_middle.trans ?_
 rw[List.takeWhile_append_dropWhile]
def aaq (l:List Wy):Prop:=l.Pairwise fun a b=>ltF b.fact a.fact=false
theorem Vn {x y:Fa} (h:ltF x y=true):ltF y x=false:=by
 rw[← iB]
 intro h2
 have:=US h h2
 rw[UR] at this;cases this
theorem Jb {l:List Wy} {w:Wy} (h:aaq l):aaq (As l w):=by
 rw[Nt]
 have hl:l=l.takeWhile (pW w)++l.dropWhile (pW w):=List.takeWhile_append_dropWhile.symm
 unfold aaq at *
 rw[hl,List.pairwise_append] at h
 obtain⟨h1,h2,h3⟩:=h
 have ht:∀ y∈l.takeWhile (pW w),ltF w.fact y.fact=false:=fun y hy=>by
  have:=List.all_takeWhile (p:=pW w) (l:=l)
  rw[ba] at this
  have:=this y hy
  unfold pW at this;simpa using this
 rw[List.pairwise_append,iy]
 refine⟨h1,⟨fun y hy=>?_,h2⟩,fun x hx y hy=>?_⟩
 ·cases hd:l.dropWhile (pW w) with
  |nil=>rw[hd] at hy;cases hy
  |cons z m=>
   have hz:pW w z=false:=by
    have:=List.head?_dropWhile_not (p:=pW w) (l:=l)
    rw[hd] at this
    simpa using this
   have hz:ltF w.fact z.fact=true:=by unfold pW at hz;simpa using hz
   rw[hd] at hy h2
   rcases aK.1 hy with rfl | hy
   ·exact Vn hz
   ·have:=(iy.1 h2).1 y hy
    exact UT this (Vn hz)
 ·rcases aK.1 hy with rfl | hy
  ·exact ht x hx
  ·exact h3 x hx y hy
def stepK (r:Int) (x:In) (next:List Wy) (c:Fa):List Wy:=if kS next c=0 then As next ⟨c,r,x.rule,x.pre⟩ else next
def stepX (r:Int) (l:List Wy) (next:List Wy) (x:In):List Wy:=if nI l x=true then x.con.foldl (stepK r x) next else next
def nJ (L:List In) (r:Int) (l:List Wy):List Wy:=L.foldl (stepX r l) l
def qi (L:List In):Nat→Int→List Wy→List Wy
 |0,_,l=>l
 |n+1,r,l=>if(nJ L r l).length=l.length then l else qi L n (r+1) (nJ L r l)
structure RI (L:List In) (l:List Wy):Prop where
 nd:(aL l).Nodup
 sub:∀ f∈aL l,f∈L.flatMap In.con
 pos:∀ w∈l,0<w.round
 srt:aaq l
theorem oo {l:List Wy} (h:∀ w∈l,0<w.round) {f:Fa}:kS l f=0↔f∉aL l:=by
 unfold kS
 cases hf:l.find? (fun w=>decide (w.fact=f)) with
 |none=>
  have:=js.1 hf
  simp only[jJ,Option.getD_none,true_iff]
  intro h2
  obtain⟨w,hw,he⟩:=bj.1 h2
  have:=this w hw
  simp[he] at this
 |some w=>
  have h1:=jF hf
  have h2:=List.find?_some hf
  have h3:=h w h1
  simp only[b8,cx]
  refine⟨fun h4=>by omega,fun h4=>absurd (bj.2 ⟨w,h1,by simpa using h2⟩) h4⟩
theorem P2 {l:List Wy} (h:∀ w∈l,0<w.round) {x:In}:nI l x=rdy (aL l) x:=by
 unfold nI rdy
 rw[kF,ba,ba]
 constructor
 ·intro h1 f hf
  have:=h1 f hf
  simp only[dJ,cQ,oo h] at this
  exact cu (Classical.not_not.1 this)
 ·intro h1 f hf
  have:=bX (h1 f hf)
  simp only[dJ,cQ,oo h]
  exact fun h2=>h2 this
theorem wV {l m:List Wy} (h:l.Perm m):(aL l).Perm (aL m):=h.map _
theorem RI.ins {L:List In} {l:List Wy} (h:RI L l) {w:Wy} (hw:w.fact∈L.flatMap In.con) (hn:w.fact∉aL l) (hr:0<w.round):RI L (As l w) where
 nd:=(wV (sg l w)).nodup_iff.2 (gZ.2 ⟨hn,h.nd⟩)
 sub:=fun f hf=>by
  rcases aK.1 ((wV (sg l w)).mem_iff.1 hf) with rfl | hf
  ·exact hw
  ·exact h.sub f hf
 pos:=fun v hv=>by
  rcases aK.1 ((sg l w).mem_iff.1 hv) with rfl | hv
  ·exact hr
  ·exact h.pos v hv
 srt:=Jb h.srt
theorem RI.stepK {L:List In} {l:List Wy} {r:Int} (hr:0<r) {x:In} (h:RI L l) {c:Fa} (hc:c∈L.flatMap In.con):RI L (stepK r x l c):=by
 unfold Go.Proofs.YtjfjdomfldolcaaGreat.stepK
 split
 ·rename_i h0
  exact h.ins hc ((oo h.pos).1 h0) hr
 ·exact h
theorem RI.fold {L:List In} {r:Int} (hr:0<r) {x:In} (hx:x∈L):∀ (m:List Fa) (l:List Wy),(∀ c∈m,c∈x.con)→RI L l→RI L (m.foldl (Go.Proofs.YtjfjdomfldolcaaGreat.stepK r x) l)
 |[],_,_,h=>h
 |c::m,l,hm,h=>by
  rw[br]
  exact RI.fold hr hx m _ (fun d hd=>hm d (aD _ hd)) (h.stepK hr (iw.2 ⟨x,hx,hm c (a8 ..)⟩))
theorem RI.stepX {L:List In} {r:Int} (hr:0<r) {l next:List Wy} {x:In} (hx:x∈L) (h:RI L next):RI L (stepX r l next x):=by
 unfold Go.Proofs.YtjfjdomfldolcaaGreat.stepX
 split
 ·exact RI.fold hr hx _ _ (fun _ h=>h) h
 ·exact h
theorem RI.foldX {L:List In} {r:Int} (hr:0<r) {l:List Wy}:∀ (M:List In) (next:List Wy),(∀ x∈M,x∈L)→RI L next→RI L (M.foldl (Go.Proofs.YtjfjdomfldolcaaGreat.stepX r l) next)
 |[],_,_,h=>h
 |x::M,next,hM,h=>by
  rw[br]
  exact RI.foldX hr M _ (fun y hy=>hM y (aD _ hy)) (h.stepX hr (hM x (a8 ..)))
theorem RI.round {L:List In} {r:Int} (hr:0<r) {l:List Wy} (h:RI L l):RI L (nJ L r l):=RI.foldX hr L l (fun _ h=>h) h
theorem RI.len {L:List In} {l:List Wy} (h:RI L l):l.length≤(L.flatMap In.con).length:=by
 have:=Gn h.nd h.sub
 unfold aL at this
 rwa [au] at this
theorem RI.nil {L:List In}:RI L []:=⟨fH,(fun _ h=>by cases h),(fun _ h=>by cases h),List.Pairwise.nil⟩
theorem P3 {r:Int} {x:In} {l:List Wy} {c:Fa}:l.length≤(stepK r x l c).length:=by
 unfold stepK
 split
 ·rw[(sg _ _).length_eq];simp
 ·exact ab _
theorem Et {r:Int} {x:In}:∀ (m:List Fa) (l:List Wy),l.length≤(m.foldl (stepK r x) l).length
 |[],_=>ab _
 |c::m,l=>by rw[br];exact bN P3 (Et m _)
theorem Eu {r:Int} {l:List Wy}:∀ (M:List In) (next:List Wy),next.length≤(M.foldl (stepX r l) next).length
 |[],_=>ab _
 |x::M,next=>by
  rw[br]
  refine bN ?_ (Eu M _)
  unfold stepX
  split
  ·exact Et _ _
  ·exact ab _
theorem Ev {L:List In} {r:Int} {l:List Wy}:l.length≤(nJ L r l).length:=Eu _ _
variable {G:Gl}
def nY (b:Bool) (l:List Wy):V:=if b then .ow none [] else .c (wsC l)
theorem aiQ {b:Bool} {l:List Wy} (h:b=true→l=[]):(nY b l).fz=.c (wsC l):=by
 cases b
 ·rfl
 ·rw[h rfl];rfl
theorem Cj {b:Bool} {l:List Wy} {m:Nat}:(nY b l).ltB m=true:=by cases b<;>rfl
theorem abM {l:List In} {K:V→Prop}:hJ Tryz.prog 44 (.c (sY l)) K=K (i64 l.length):=by
 rw[sY,jw mP rfl,au]
def zS:=jj @pkA (jj @ptA (jj @pkI @gj))
def qj:=jj @pkA @gj
set_option maxHeartbeats 4000000 in
theorem LX (p:Pol) (L:List In) (hI:FnOK Tryz.prog G 21 [.agg (poC p)] (.c (sY L))) (hl:L.length≤20000) (hs:nG L) (M:Nat) (hM:(L.flatMap In.con).length=M) (hM2:M≤40000) :
 FnOK Tryz.prog G 14 [.agg (poC p)] (.c (wsC (qi L (M+1) 1 []))):=by
 refine cL (rs:=[.tmp 2]) false [] mixed Tryz.func14 rfl rfl rfl rfl (by kernel_rfl) (by simp) rfl rfl ?_
 simp only[zS,seval]
 refine aB rfl hI (fun h=>by cases h) ?_
 simp only[qj,seval]
 refine bE (fun s:Nat×Nat×List Wy=>hdS [(3,.c (sY L)),(4,nY (decide (s.2.1=1)) s.2.2),(5,i64 s.2.1)] []) (fun s=>s.1)
  (fun s=>RI L s.2.2∧M<s.1+s.2.2.length∧s.1+s.2.1=M+2∧qi L s.1 s.2.1 s.2.2=qi L (M+1) 1 []∧(s.2.1=1→s.2.2=[])∧1≤s.2.1) (M+1,1,[]) ⟨RI.nil,by simp,by simp;try omega,rfl,fun _=>rfl,ab 1⟩ ?_ ?_
 ·exact cD rfl (ar _) (ar _) (by simp[FL,ak,nY]) trivial
 rintro⟨n,r,l⟩ ⟨qz,hMn,hnr,mX,hr1,Qs⟩ R cj cJ eP
 simp only at qz hMn hnr mX hr1 Qs
 have Mo:=qz.len
 rw[hM] at Mo
 have hz:(nY (decide (r=1)) l).fz=.c (wsC l):=aiQ fun h=>hr1 (by simpa using h)
 obtain⟨n,rfl⟩:∃ m,n=m+1:=⟨n - 1,by omega⟩
 simp only[qj,seval,hz]
 refine bE (fun i:Nat=>hdS [(3,.c (sY L)),(4,nY (decide (r=1)) l),(5,i64 r),(6,.c (wsC ((L.take i).foldl (stepX r l) l))),(7,i64 i)] []) (fun i=>L.length - i) (fun i=>i≤L.length) 0 (ar _) ?_ ?_
 ·exact cD (by simp only[kR,bR,cz,Cj];rfl) (ar _) (ar _) (by simp[FL,ak]) trivial
 rintro i hi Ri agF agG amZ
 simp only[qj,seval,abM]
 refine aT (fun bK=>?_) (fun gr=>?_)
 ·have bK:i<L.length:=by simpa using bK
  simp only[qj,seval,hz,sY]
  obtain⟨x,hx⟩:∃ x,x=L[i]:=⟨_,rfl⟩
  have JZ:x∈L:=by rw[hx];exact bL bK
  have hx2:=hs x JZ
  have hri_i:=RI.foldX (L:=L) (r:=r) (by omega) (l:=l) (L.take i) l (fun y hy=>cn hy) qz
  have ix:∀ {K:V→Prop},K (.c (.rp (inC x) 0))→cE Tryz.prog 44 (.c (.sl (L.map inC))) (i64 i) K:=fun {K} hK=>
   dR mP rfl kA (by decide) (aA i) (c:=inC x) (by simp[bK,hx]) rfl hK
  refine ix ?_
  simp only[zS,seval]
  refine aB rfl (Vj l x (by omega) (by omega)) (fun _=>rfl) ?_
  simp only[qj,seval]
  generalize hNi:(L.take i).foldl (stepX r l) l=Ni at *
  refine bE (fun k:Nat=>hdS [(3,.c (.sl (L.map inC))),(4,nY (decide (r=1)) l),(5,i64 r),(6,.c (wsC ((x.con.take k).foldl (stepK r x) Ni))),(7,i64 i),(8,bo (nI l x)),(9,i64 k)] []) (fun k=>x.con.length - k) (fun k=>k≤x.con.length∧(nI l x=false→k=0)) 0 ⟨ar _,fun _=>rfl⟩ ?_ ?_
  ·exact cD (by simp only[kR,bR,cz,Cj];rfl) (ar _) (ar _) (by simp[FL,ak]) trivial
  rintro k ⟨hk,xd⟩ Rk qA tF NT
  have hri_k:=RI.fold (L:=L) (r:=r) (by omega) JZ (x.con.take k) Ni (fun y hy=>cn hy) hri_i
  have hlk:=hri_k.len
  rw[hM] at hlk
  have post:(nI l x=true→k=x.con.length)→∀ fr:Nat→V,fr 3=.c (.sl (L.map inC))→fr 4=nY (decide (r=1)) l→fr 5=i64 r→fr 6=.c (wsC ((x.con.take k).foldl (stepK r x) Ni))→fr 7=i64 i→Rk (.exit 4) ⟨fr,bxs [],0⟩:=by
   intro hkx fr f3 f4 f5 f6 f7
   have hw:=bG (n:=(i:Int)+1) (k:=i+1) (by omega) (by omega)
   have e1:((i+1:Nat):Int)=(i:Int)+1:=by omega
   refine tF _ _ ?_
   simp only[qj,seval,f7,hw]
   have e2:(L.take (i+1)).foldl (stepX r l) l=(x.con.take k).foldl (stepK r x) Ni:=by
    rw[aC bK,ew,hNi,← hx]
    simp only[br,List.foldl_nil,stepX]
    cases hb:nI l x
    ·rw[if_neg (by decide),xd hb];rfl
    ·rw[if_pos rfl,hkx hb,bD]
   refine agF (i+1) _ bK (by omega) (cD (by simp only[kR,bR,cz,Cj];rfl) (ar _) (ar _) ?_ trivial)
   rw[e2]
   exact⟨by simp[ak,f3,sY],by simp[ak,f4],by simp[ak,f5],by simp[ak,f6],by simp[e1],trivial⟩
  simp only[qj,seval]
  refine fY (fun hb=>?_) (fun hb=>?_)
  ·simp only[qj,seval]
   refine ix ?_
   simp only[pkA,ptA,pkI,gj,pkY,seval]
   refine aT (fun hy=>?_) (fun hn=>?_)
   ·have uW:k<x.con.length:=by simpa using hy
    have Az:=bG (n:=(k:Int)+1) (k:=k+1) (by omega) (by omega)
    have e1:((k+1:Nat):Int)=(k:Int)+1:=by omega
    simp only[qj,seval]
    refine ix ?_
    simp only[zS,seval,fsC]
    refine dR fk rfl eY (by decide) (aA k) (c:=faC x.con[k]) (by simp[uW]) rfl ?_
    simp only[zS,seval]
    refine aB rfl (uN _ x.con[k] (by omega)) (fun _=>rfl) ?_
    have e2:(x.con.take (k+1)).foldl (stepK r x) Ni=stepK r x ((x.con.take k).foldl (stepK r x) Ni) x.con[k]:=by
     rw[aC uW,ew];rfl
    have NS:∀ fr:Nat→V,fr 3=.c (.sl (L.map inC))→fr 4=nY (decide (r=1)) l→fr 5=i64 r→fr 6=.c (wsC ((x.con.take (k+1)).foldl (stepK r x) Ni))→fr 7=i64 i→fr 8=bo (nI l x)→fr 9=i64 (k+1:Nat)→Rk .normal ⟨fr,bxs [],0⟩:=by
     intro fr f3 f4 f5 f6 f7 f8 f9
     refine qA (k+1) _ ⟨uW,fun h=>by rw[hb] at h;cases h⟩ (by omega) (cD (by simp only[kR,bR,cz,Cj];rfl) (ar _) (ar _) ⟨f3,f4,f5,f6,f7,f8,f9,trivial⟩ trivial)
    simp only[pkA,seval]
    refine aT (fun hy0=>?_) (fun hn0=>?_)
    ·have h0:kS ((x.con.take k).foldl (stepK r x) Ni) x.con[k]=0:=by simpa using hy0
     simp only[qj,seval]
     refine ix ?_
     simp only[zS,seval,fsC]
     refine dR fk rfl eY (by decide) (aA k) (c:=faC x.con[k]) (by simp[uW]) rfl ?_
     simp only[zS,seval]
     refine ix ?_
     simp only[zS,seval]
     refine ix ?_
     simp only[zS,seval]
     refine ny (cs:=wyC ⟨x.con[k],(r:Nat),x.rule,x.pre⟩) rfl ?_
     simp only[qj,seval]
     refine aB rfl (P1 _ ⟨x.con[k],(r:Nat),x.rule,x.pre⟩ (by omega)) (fun h=>by cases h) ?_
     simp only[qj,seval,Az]
     have e3:stepK r x ((x.con.take k).foldl (stepK r x) Ni) x.con[k]=As ((x.con.take k).foldl (stepK r x) Ni) ⟨x.con[k],(r:Nat),x.rule,x.pre⟩:=if_pos h0
     refine NS _ ?_ ?_ ?_ ?_ ?_ ?_ ?_
     all_goals simp[ak,e2,e3,e1,hb]
    ·have h0:¬ kS ((x.con.take k).foldl (stepK r x) Ni) x.con[k]=0:=by simpa using hn0
     simp only[qj,seval,Az]
     have e3:stepK r x ((x.con.take k).foldl (stepK r x) Ni) x.con[k]=(x.con.take k).foldl (stepK r x) Ni:=if_neg h0
     refine NS _ ?_ ?_ ?_ ?_ ?_ ?_ ?_
     all_goals simp[ak,e2,e3,e1,hb]
   ·have gr:k=x.con.length:=by simp at hn;omega
    simp only[pkA]
    refine post (fun _=>gr) _ ?_ ?_ ?_ ?_ ?_
    all_goals simp[ak]
  ·simp only[pkA,seval]
   refine post (fun h=>by rw[hb] at h;cases h) _ ?_ ?_ ?_ ?_ ?_
   all_goals simp[ak]
 ·have:i=L.length:=by simp at gr;omega
  subst this
  simp only[pkA]
  refine agG _ _ ?_
  rw[bD]
  simp only[pkA,gj,pkY,seval,hz]
  have hRl:=(qz.round (L:=L) (r:=r) (by omega)).len
  rw[hM] at hRl
  have hRg:=@Ev L r l
  rw[show L.foldl (stepX r l) l=nJ L r l from rfl]
  have zY:qi L (n+1) r l=if(nJ L r l).length=l.length then l else qi L n ((r:Int)+1) (nJ L r l):=rfl
  refine aT (fun hy=>?_) (fun hn=>?_)
  ·have hy:(nJ L r l).length=l.length:=by have:=bX hy;omega
   simp only[qj,seval,hz]
   refine eP _ ?_
   simp only[pkA,seval]
   rw[← mX,zY,if_pos hy]
  ·have hn:(nJ L r l).length≠l.length:=by have:=of_decide_eq_false hn;omega
   have vL:=bG (n:=(r:Int)+1) (k:=r+1) (by omega) (by omega)
   have e1:((r+1:Nat):Int)=(r:Int)+1:=by omega
   simp only[qj,seval,vL]
   rw[if_neg hn] at zY
   refine cj (n,r+1,nJ L r l) _ ⟨qz.round (by omega),by simp only;omega,by simp only;omega,?_,fun h=>by simp only at h;omega,by simp only;omega⟩ (bQ n) (cD (by simp only[kR,bR,cz,Cj];rfl) (ar _) (ar _) ?_ trivial)
   ·simp only[e1]
    rw[← mX,zY]
   ·have hr:r≠0:=by omega
    simp[FL,ak,hr,nY,e1]
def Gq (p:Pol):List Wy:=qi (gp p none) (((gp p none).flatMap In.con).length+1) 1 []
theorem vu {p:Pol} (h:PolS p):FnOK Tryz.prog G 14 [.agg (poC p)] (.c (wsC (Gq p))):=
 LX p (gp p none) (IV p (by have:=h.ty;omega) (by have:=h.ru;omega) h.len) h.len l0 _ rfl (by
  have h1:=h.len
  have h2:=Em (l0 (p:=p) (o:=none))
  omega)
