/- Layer 18: rounds by counting are rounds by readiness: Least. -/
import Derived.Test.YtjfjdomfldolcaaGreatVlY4
import Derived.Test.YtjfjdomfldolcaaGreatVlR5
set_option linter.all false
namespace Go.Proofs.YtjfjdomfldolcaaGreat
open Go Go.Vl Go.Sort
set_option maxRecDepth 4000
theorem pz {l m:List Wy} (h:l.Perm m) {f:Fa}:f∈aL l↔f∈aL m:=(wV h).mem_iff
theorem Vo {l m:List Wy} (h:l.Perm m) {x:In}:rdy (aL l) x=rdy (aL m) x:=by
 rw[kF,wU,wU]
 exact⟨fun q g hg=>(pz h).1 (q g hg),fun q g hg=>(pz h).2 (q g hg)⟩
theorem LY {L:List In} {r:Int} {x:In} {next V:List Wy} (h:next.Perm V) (hr:RI L next) {c:Fa}:(stepK r x next c).Perm (k9 r x V c):=by
 unfold stepK k9
 by_cases hc:c∈aL V
 ·rw[if_pos hc,if_neg (fun h0=>(oo hr.pos).1 h0 ((pz h).2 hc))]
  exact h
 ·rw[if_neg hc,if_pos ((oo hr.pos).2 fun h0=>hc ((pz h).1 h0))]
  refine (sg _ _).trans ?_
  exact(List.Perm.cons _ h).trans (List.perm_append_singleton _ _).symm
theorem Ck {L:List In} {r:Int} (Qs:0<r) {x:In} (hx:x∈L):∀ (m:List Fa) (next V:List Wy),(∀ c∈m,c∈x.con)→next.Perm V→RI L next→(m.foldl (stepK r x) next).Perm (m.foldl (k9 r x) V)
 |[],_,_,_,h,_=>h
 |c::m,next,V,hm,h,hr=>by
  rw[br,br]
  exact Ck Qs hx m _ _ (fun d hd=>hm d (aD _ hd)) (LY h hr) (hr.stepK Qs (iw.2 ⟨x,hx,hm c (a8 ..)⟩))
theorem Cl {L:List In} {r:Int} (Qs:0<r) {l:List Wy} (hl:∀ w∈l,0<w.round):∀ (M:List In) (next V:List Wy),(∀ x∈M,x∈L)→next.Perm V→RI L next→
 (M.foldl (stepX r l) next).Perm (M.foldl (fun V x=>if rdy (aL l) x=true then tS r V x else V) V)
 |[],_,_,_,h,_=>h
 |x::M,next,V,hM,h,hr=>by
  rw[br,br]
  have hx:=hM x (a8 ..)
  refine Cl Qs hl M _ _ (fun y hy=>hM y (aD _ hy)) ?_ (hr.stepX Qs hx)
  unfold stepX
  rw[P2 hl]
  split
  ·exact Ck Qs hx _ _ _ (fun _ h=>h) h hr
  ·exact h
theorem Ew {r:Int} {x:In}:∀ (m:List Fa) (V:List Wy),(∀ c∈m,c∈aL V)→m.foldl (k9 r x) V=V
 |[],_,_=>rfl
 |c::m,V,h=>by
  rw[br]
  have e:k9 r x V c=V:=if_pos (h c (a8 ..))
  rw[e]
  exact Ew m V fun d hd=>h d (aD _ hd)
theorem Vp {r:Int} {x:In} {V:List Wy} {f:Fa} (h:f∈aL V):f∈aL (tS r V x):=by
 unfold tS;rw[qT,vq];exact .inl h
theorem yo {D:List Fa} {r:Int} {old:In→Bool} {W:List Wy}:∀ (M:List In) (k:Nat) (V:List Wy),(∀ x∈M,old x=true→∀ c∈x.con,c∈aL W)→(∀ f∈aL W,f∈aL V)→
 M.foldl (fun V x=>if rdy D x=true then tS r V x else V) V=iD r V (((M.zipIdx k).filter fun q=>rdy D q.1&&!old q.1).map fun q=>⟨q.1,(q.2:Nat),0⟩)
 |[],_,_,_,_=>rfl
 |x::M,k,V,ho,hV=>by
  rw[br,List.zipIdx_cons,cP]
  have hoM:∀ y∈M,old y=true→∀ c∈y.con,c∈aL W:=fun y hy=>ho y (aD _ hy)
  cases h1:rdy D x
  ·simp only[Bool.false_and,aY,dm]
   exact yo M (k+1) V hoM hV
  ·cases h2:old x
   ·simp only[Bool.not_false,Bool.and_self,db,bA]
    rw[yo M (k+1) _ hoM fun f hf=>Vp (hV f hf)]
    rfl
   ·simp only[kG,Bool.and_false,aY,db,dm]
    have e:tS r V x=V:=Ew _ _ fun c hc=>hV c (ho x (a8 ..) h2 c hc)
    rw[e]
    exact yo M (k+1) V hoM hV
theorem Jc {r:Int} {x:In}:∀ (m:List Fa) (V:List Wy),∃ E,m.foldl (k9 r x) V=V++E
 |[],V=>⟨[],by simp⟩
 |c::m,V=>by
  rw[br]
  obtain⟨E,h⟩:=Jc (r:=r) (x:=x) m (k9 r x V c)
  rw[h]
  unfold k9
  split
  ·exact⟨E,rfl⟩
  ·exact⟨_::E,by rw[aI];rfl⟩
theorem Jd {r:Int}:∀ (l:List Wt) (V:List Wy),∃ E,iD r V l=V++E
 |[],V=>⟨[],by simp[iD]⟩
 |w::l,V=>by
  obtain⟨E,h⟩:=Jd (r:=r) l (tS r V w.x)
  obtain⟨E2,h2⟩:=Jc (r:=r) (x:=w.x) w.x.con V
  refine⟨E2++E,?_⟩
  rw[← aI,← h2]
  exact h
theorem P4 {L:List In} {D:List Fa}:sU L D D=[]:=by
 unfold sU
 rw[List.filter_eq_nil_iff.2 fun q _=>by simp];rfl
theorem Vq {L:List In} {n:Nat} {num:Int} {W:List Wy}:pX L n num [] W=W:=by
 cases n with
 |zero=>rfl
 |succ n=>unfold pX;rw[if_pos rfl]
theorem Ex {L:List In}:∀ (n m:Nat) (num:Int) (now:List Wt) (W l:List Wy) (old:In→Bool),l.Perm W→RI L l→now=((L.zipIdx.filter fun q=>rdy (aL W) q.1&&!old q.1).map fun q=>⟨q.1,(q.2:Nat),0⟩)→
 (∀ x∈L,old x=true→∀ c∈x.con,c∈aL W)→0<num→unr L (aL W)+(if now=[] then 0 else 1)<n→(L.flatMap In.con).length<m+l.length→(qi L m num l).Perm (pX L n num now W)
 |0,_,_,_,_,_,_,_,_,_,_,_,h,_=>absurd h (fL _)
 |n+1,m,num,now,W,l,old,hp,qz,ub,nN,Qm,JQ,hm=>by
  have Mo:=qz.len
  obtain⟨m,rfl⟩:∃ k,m=k+1:=⟨m - 1,by omega⟩
  have Ax:(nJ L num l).Perm (iD num W now):=by
   have h1:=Cl (L:=L) (r:=num) Qm qz.pos L l W (fun _ h=>h) hp qz
   have h2:L.foldl (fun V x=>if rdy (aL l) x=true then tS num V x else V) W=iD num W now:=by
    have e:(fun(V:List Wy) (x:In)=>if rdy (aL l) x=true then tS num V x else V)=fun V x=>if rdy (aL W) x=true then tS num V x else V:=by
     funext V x;rw[Vo hp]
    rw[e,ub]
    exact yo L 0 W nN fun _ h=>h
   rw[h2] at h1
   exact h1
  have cg:=Ax.length_eq
  have hlW:=hp.length_eq
  unfold qi pX
  by_cases h0:now=[]
  ·rw[if_pos h0]
   rw[h0] at cg
   have cg:(nJ L num l).length=W.length:=cg
   rw[if_pos (by omega)]
   exact hp
  ·rw[if_neg h0]
   rw[if_neg h0] at JQ
   obtain⟨E,hE⟩:=Jd (r:=num) now W
   by_cases he:(nJ L num l).length=l.length
   ·rw[if_pos he]
    have hE0:E=[]:=by
     rw[hE,ai] at cg
     exact List.length_eq_zero_iff.1 (by omega)
    rw[hE,hE0,bq,P4,Vq]
    exact hp
   ·rw[if_neg he]
    have hg:=@Ev L num l
    have fc:∀ g∈aL W,g∈aL (iD num W now):=fun g hg=>(lQ _ _).2 (.inl hg)
    have jI:=yd (L:=L) fc
    refine Ex n m (num+1) _ (iD num W now) _ (rdy (aL W)) Ax (qz.round Qm) rfl (fun x hx hr c hc=>?_) (by omega) ?_ (by omega)
    ·cases ho:old x
     ·refine (lQ _ _).2 (.inr ?_)
      obtain⟨i,hi⟩:=da.1 hx
      refine⟨⟨x,(i:Nat),0⟩,?_,hc⟩
      rw[ub]
      exact bj.2 ⟨(x,i),cH.2 ⟨eJ.2 hi,by simp[hr,ho]⟩,rfl⟩
     ·exact fc c (nN x hx ho c hc)
    ·split
     ·rename_i h;rw[h] at jI;simp only[aU] at jI;omega
     ·rename_i h
      have:0<(sU L (aL W) (aL (iD num W now))).length:=fx.2 h
      omega
theorem Je (p:Pol):(Gq p).Perm (fg p):=by
 refine Ex _ _ 1 (que (gp p none)) [] [] (fun _=>false) (List.Perm.refl _) RI.nil ?_ (fun _ _ h=>by cases h) (by decide) ?_ ?_
 ·unfold que
  have e:(fun q:In×Nat=>q.1.pre.isEmpty)=fun q=>rdy (aL []) q.1&&!false:=by
   funext q
   have:rdy (aL []) q.1=q.1.pre.isEmpty:=by
    unfold rdy aL
    cases q.1.pre<;>simp
   rw[this];simp
  rw[e]
 ·have:=@B3 (gp p none) (aL [])
  split<;>omega
 ·rw[aU];omega
theorem vz (p:Pol):RI (gp p none) (Gq p):=by
 have:∀ (n:Nat) (r:Int) (l:List Wy),0<r→RI (gp p none) l→RI (gp p none) (qi (gp p none) n r l):=by
  intro n
  induction n with
  |zero=>intro r l _ h;exact h
  |succ n ih=>
   intro r l hr h
   unfold qi
   split
   ·exact h
   ·exact ih _ _ (by omega) (h.round hr)
 exact this _ _ _ (by decide) RI.nil
theorem nK (p:Pol):Gq p=cC p:=
 lO (lt:=ltOf yg) ((Je p).trans (jT _ _).symm)
  (fun x hx y hy h1 h2=>lA (vz p).nd hx hy (cmp_f.tot x y h1 h2))
  ((vz p).srt.imp fun h=>by rw[UQ];exact h) (sW cmp_f.swo (fg p))
open Go Go.Vl
abbrev StF (l:List Fa):Prop:=l.Pairwise fun x y=>ltF x y=true
theorem L2 (x:Fa):ltF x x=false:=by unfold ltF;simp
theorem Ey {x y:Fa} (h:ltF x y=true):ltF y x=false:=by
 unfold ltF at *;simp only[bJ,cQ] at *;omega
theorem Ez {x y z:Fa} (h1:ltF x y=true) (h2:ltF y z=true):ltF x z=true:=by
 unfold ltF at *;simp only[bJ] at *;omega
theorem Vr {x y:Fa} (h1:ltF y x=false) (h2:x≠y):ltF x y=true:=by
 cases h:ltF x y
 ·exact absurd (sR h h1) h2
 ·rfl
theorem StF.nodup {l:List Fa} (h:StF l):l.Nodup:=h.imp fun h e=>by subst e;rw[L2] at h;cases h
theorem Cm {l m:List Fa} (hl:StF l) (hm:StF m) (h:∀ x,x∈l↔x∈m):l=m:=
 lO (lt:=ltF) ((fK hl.nodup hm.nodup).2 h) (fun x _ y _ h1 h2=>sR h1 h2) (hl.imp Ey) (hm.imp Ey)
theorem Gr {l:List Fa}:∀ m,m≤l.length→∀ x,x∈cpk l m↔x∈l.take m
 |0,_,x=>by simp[cpk]
 |m+1,h,x=>by
  have ih:=Gr (l:=l) m (Nat.le_of_succ_le h) x
  rw[aC (show m<l.length by omega),aV,a7,← ih]
  by_cases h0:0<m
  ·by_cases he:l[m]=l[m - 1]'(by omega)
   ·rw[rZ (by omega) h0 he]
    constructor
    ·exact .inl
    ·rintro(h1 | h1)
     ·exact h1
     ·rw[ih,h1,he]
      exact ia.2 ⟨m - 1,by simp only[Nat.lt_min];omega,rfl⟩
   ·rw[sV (by omega) fun _=>he,aV,a7]
  ·rw[sV (by omega) fun h=>absurd h h0,aV,a7]
theorem Cn {l:List Fa} (hs:l.Pairwise fun x y=>ltF y x=false):∀ m,m≤l.length→StF (cpk l m)
 |0,_=>List.Pairwise.nil
 |m+1,h=>by
  have ih:=Cn hs m (by omega)
  by_cases h0:0<m
  ·by_cases he:l[m]=l[m - 1]'(by omega)
   ·rw[rZ (by omega) h0 he];exact ih
   ·rw[sV (by omega) fun _=>he,StF,List.pairwise_append]
    refine⟨ih,List.pairwise_singleton _ _,fun y hy x hx=>?_⟩
    rw[a7] at hx;subst hx
    rw[Gr m (by omega),ia] at hy
    obtain⟨j,hj,rfl⟩:=hy
    have hp:=ib.1 hs
    have h1:ltF l[m] (l[j]'(by omega))=false:=hp j m (by omega) (by omega) (by omega)
    refine Vr h1 fun e=>he ?_
    have h2:ltF l[m] (l[m - 1]'(by omega))=false:=hp (m - 1) m (by omega) (by omega) (by omega)
    rcases dG j (m - 1) with h3 | h3
    ·have h4:ltF (l[m - 1]'(by omega)) (l[j]'(by omega))=false:=hp j (m - 1) (by omega) (by omega) h3
     rw[e] at h4
     exact sR h2 h4
    ·have:j=m - 1:=by omega
     subst this;exact e.symm
  ·have:m=0:=by omega
   subst this
   rw[sV (by omega) fun h=>absurd h (Nat.lt_irrefl _)]
   simp[cpk]
theorem uO (l:List Fa):StF (pe l):=Cn (x5 l) _ (ab _)
theorem zT {l:List Fa} {x:Fa}:x∈pe l↔x∈l:=by
 unfold pe iR
 rw[Gr _ (ab _),bD]
 exact(wL l).mem_iff
theorem aar {l:List Fa} {f:Fa} {j:Nat} (h:j<wP l f) (hj:j<l.length):ltF l[j] f=true:=by
 unfold wP at h
 have:=List.not_of_lt_findIdx h
 simpa using this
theorem aas {l:List Fa} {f:Fa} (h:wP l f<l.length):ltF l[wP l f] f=false:=by
 have:=List.findIdx_getElem (xs:=l) (p:=fun y=>!ltF y f) (w:=h)
 simp only[dJ] at this
 exact this
theorem Jf {l:List Fa} {f x:Fa}:x∈wQ l f↔x∈l∨x=f:=by
 unfold wQ
 split
 ·rename_i h
  exact⟨.inl,fun h'=>by rcases h' with h' | rfl;exact h';exact aQ h⟩
 ·have e:l=l.take (wP l f)++l.drop (wP l f):=(dI _ _).symm
  rw[aV,aK]
  conv=>rhs;rw[e,aV]
  constructor
  ·rintro(h | h | h)
   ·exact .inl (.inl h)
   ·exact .inr h
   ·exact .inl (.inr h)
  ·rintro((h | h) | h)
   ·exact .inl h
   ·exact .inr (.inr h)
   ·exact .inr (.inl h)
theorem zU {l:List Fa} (hs:StF l) (f:Fa):StF (wQ l f):=by
 unfold wQ
 split
 ·exact hs
 ·rename_i gW
  have jW:=@aab l f
  have hp:=ib.1 hs
  have acd:∀ x∈l.drop (wP l f),ltF f x=true:=fun x hx=>by
   obtain⟨j,hj,rfl⟩:=gU hx
   rw[cW] at hj
   rw[List.getElem_drop]
   have hi:wP l f<l.length:=by omega
   have h1:ltF f l[wP l f]=true:=Vr (aas hi) fun e=>gW (by rw[ae hi,← e])
   rcases Nat.eq_zero_or_pos j with h0 | h0
   ·subst h0;simpa using h1
   ·exact Ez h1 (hp _ _ hi (by omega) (by omega))
  rw[StF,List.pairwise_append]
  refine⟨hs.sublist (List.take_sublist ..),iy.2 ⟨acd,hs.sublist (List.drop_sublist ..)⟩,fun x hx y hy=>?_⟩
  rw[ia] at hx
  obtain⟨j,hj,rfl⟩:=hx
  have h1:ltF (l[j]'(by omega)) f=true:=aar (by omega) (by omega)
  rcases aK.1 hy with rfl | hy
  ·exact h1
  ·exact Ez h1 (acd y hy)
theorem Gs (p:Pol):∀ n,StF (mw p n)∧∀ x,x∈mw p n↔x∈uH p n
 |0=>⟨List.Pairwise.nil,fun _=>Iff.rfl⟩
 |n+1=>by
  obtain⟨h1,h2⟩:=Gs p n
  simp only[mw,IQ,uH,LI]
  split
  ·refine⟨zU (zU h1 _) _,fun x=>?_⟩
   rw[Jf,Jf,h2,aV]
   simp only[aK,bn,dc]
   constructor
   ·rintro((h | h) | h)
    ·exact .inl h
    ·exact .inr (.inl h)
    ·exact .inr (.inr h)
   ·rintro(h | h | h)
    ·exact .inl (.inl h)
    ·exact .inl (.inr h)
    ·exact .inr h
  ·exact⟨h1,fun x=>by rw[h2];simp⟩
theorem Vs (p:Pol):j4 p=mw p p.types.length:=Cm (uO _) (Gs p _).1 fun x=>by unfold j4;rw[zT,(Gs p _).2]
