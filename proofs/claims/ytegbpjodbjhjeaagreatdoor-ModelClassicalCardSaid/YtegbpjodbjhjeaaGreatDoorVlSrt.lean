/- Values without memory: slices.SortFunc at structs: the kit's contract as one of ours: a box's list becomes the sorted one. -/
import Derived.Shelf.SlSortCmp.NoneTotal
import Derived.Test.YtegbpjodbjhjeaaGreatDoorVlFlb
set_option linter.all false
namespace Go.Vl
open Go Go.RowKit Go.Sort Go.Proofs
def gl0:Gl:=fun _=>none
theorem aa0 {I:Ft} {w:World}:GOK gl0 I w:=fun g cs h=>by
 unfold gat gl0 at h;split at h<;>cases h
theorem HT {w w':World} (h:w.grb w' none):∃ q os,w'=Go.Sort.grow (w.drewN q) os:=by
 refine⟨w'.drawn - w.drawn,w'.heap.extract w.heap.size w'.heap.size,?_⟩
 have e1:w'.heap=w.heap++w'.heap.extract w.heap.size w'.heap.size:=by
  apply Array.ext_getElem?
  intro k
  by_cases hk:k<w.heap.size
  ·rw[dG hk,h.block k hk (by simp)]
  ·rw[Array.getElem?_append_right (by omega),eT]
   by_cases hk2:k<w'.heap.size
   ·rw[if_pos (by omega)];congr 1;omega
   ·rw[if_neg (by omega),db (by omega)]
 have e2:w'.drawn=w.drawn+(w'.drawn - w.drawn):=by have:=h.drawn;omega
 cases w with
 |mk heap tape drawn os out=>
 cases w' with
 |mk heap' tape' drawn' os' out'=>
 have h1:=h.os;have h2:=h.tape;have h3:=h.output
 simp only at h1 h2 h3 e1 e2
 subst h1 h2 h3
 simp only[Go.Sort.grow,World.drewN,World.mk.injEq,ga,fZ]
 exact⟨e1,e2⟩
section
variable {α:Type} [Inhabited α] {enc:α→List Value} {k:Nat} {w:World} {blk off m:Nat} {d:Array α} {os:Array Obj}
theorem HU (h:blk<w.heap.size) {b:Nat} (hb:b<w.heap.size) (fO:b≠blk):(sortWorldK enc k w blk off m d os).heap[b]?=w.heap[b]?:=by
 simp only[sortWorldK,Go.Sort.grow,putRowK,putRow,mapBlock,Go.Sort.ahead]
 rw[dG (by simpa using hb),Array.getElem?_modify,if_neg (gb fO)]
theorem Xs {cur:Array Value} {T:TypeId} {fz:Nat×Nat} (h:w.heap[blk]?=some (.cells cur T fz)):(sortWorldK enc k w blk off m d os).heap[blk]?=some (.cells (putCells id off (flatK enc k d) cur) T fz):=by
 have hb:blk<w.heap.size:=(be.1 h).1
 simp only[sortWorldK,Go.Sort.grow,putRowK,putRow,mapBlock,Go.Sort.ahead]
 rw[dG (by simpa using hb),Array.getElem?_modify,if_pos rfl,h]
 rfl
theorem E6:w.heap.size≤(sortWorldK enc k w blk off m d os).heap.size:=size_sortWorldK_c enc k w blk off m d os
theorem Xt (h:blk<w.heap.size) {b o:Nat} (hb:b<w.heap.size) (fO:b≠blk):(sortWorldK enc k w blk off m d os).cell? ⟨b,o,none⟩=w.cell? ⟨b,o,none⟩:=dV (HU h hb fO)
end
theorem qw {α:Type} {lt:α→α→Bool}:∀ {l l':List α},l.Perm l'→(∀ x∈l,∀ y∈l,lt x y=false→lt y x=false→x=y)→l.Pairwise (fun x y=>lt y x=false)→l'.Pairwise (fun x y=>lt y x=false)→l=l'
 |[],l',h,_,_,_=>(List.nil_perm.1 h).symm
 |x::l,[],h,_,_,_=>by simp at h
 |x::l,y::l',h,hu,h1,h2=>by
  have hy:y∈x::l:=h.mem_iff.2 (aW ..)
  have hx:x∈y::l':=h.mem_iff.1 (aW ..)
  have e:x=y:=by
   rcases bu.1 hy with e | P9
   ·exact e.symm
   ·rcases bu.1 hx with e | F7
    ·exact e
    ·exact hu x (aW ..) y hy ((gI.1 h2).1 x F7) ((gI.1 h1).1 y P9)
  subst e
  rw[qw (List.perm_cons x |>.1 h) (fun a ha b hb=>hu a (aR _ ha) b (aR _ hb)) (gI.1 h1).2 (gI.1 h2).2]
theorem Ky {α:Type} {c:α→List C} {sz:Nat} (hc:∀ x,(c x).length=sz):∀ (l:List α) (i j:Nat) (hi:i<l.length),j<sz→(flb c l)[i*sz+j]?=((c l[i])[j]?).map V.c
 |[],i,_,hi,_=>absurd hi (Nat.not_lt_zero _)
 |x::l,0,j,_,hj=>by
  rw[s0,Nat.zero_mul,ah,aG (by rw[am,hc];exact hj),bb];rfl
 |x::l,i+1,j,hi,hj=>by
  rw[s0,cU,Nat.one_mul,aK (by rw[am,hc];omega),am,hc]
  have:=Ky hc l i j (by simpa using hi) hj
  rw[show i*sz+sz+j - sz=i*sz+j by omega,this];rfl
section
variable {P:Program} {G:Gl} {ρ:Go.Shelf.Ren} {α:Type} {c:α→List C} {k:Nat}
theorem DR.cr {I:Ft} {w:World} {v:Value} {x:C} (h:DR I w v (.c x)):CR I w v x:=by
 cases h with
 |c v x h=>exact h
abbrev Row (I:Ft) (w:World) (c:α→List C) (k:Nat):Type:={ p:α×List Value // p.2.length=k∧(∀ v∈p.2,v.oneCell'=true)∧∀ j x,(c p.1)[j]?=some x→CR I w (p.2.getD j undef) x }
set_option maxHeartbeats 4000000 in
theorem HV (L:SlLaysF0.n6 P ρ) (LH:∃ fn,P.funcs[ρ.f 6]?=some fn∧(fn.name== "runtime.NumGoroutine")=false∧∃ b,fn.body=some b) (aE:∀ w,(isAgg (ρ.t 24)).run P w=.ok true w) (zE:∀ w,(Go.sizeOf (ρ.t 24)).run P w=.ok k w) (hk:∀ x,(c x).length=k) (k0:0<k)
 (x0:α) (v0:List Value) (hv0:v0.length=k) (ho0:∀ v∈v0,v.oneCell'=true) (hx0:∀ I w j x,(c x0)[j]?=some x→CR I w (v0.getD j undef) x) (cf:α→α→Int) (hO:SWO (ltOf cf)) (g:Nat) (cs:List C)
 (eg:∀ args w,(callFunc g args).run P w=.ok (.enter g args) w) (aiM:∀ x y,FnOK P gl0 g ([.agg (c x),.agg (c y)]++cs.map .c) (.c (.lit (.int .i64 (cf x y)))))
 (l l':List α) (hl:l.length<4611686018427387904) (hp:l'.Perm l) (hs:l'.Pairwise fun x y=>ltOf cf y x=false) (hu:∀ x∈l,∀ y∈l,ltOf cf x y=false→ltOf cf y x=false→x=y) (cap:Nat) (jW:l.length≤cap) :
 FnB P G (ρ.f 6) [.ms 0 0 l.length cap k,.c (.fn (.func g) [] cs)] [flb c l] (.tup []) [flb c l']:=by
 have LG:l'.length=l.length:=hp.length_eq
 refine⟨LH,⟨?_,?_,ae _⟩,?_⟩
 ·intro x hx
  simp only[bu,dW,jK] at hx
  rcases hx with rfl | rfl
  ·exact Nat.zero_lt_one
  ·trivial
 ·intro b hb x hx
  simp only[aP] at hb;subst hb
  unfold flb at hx
  obtain⟨y,_,rfl⟩:=br.1 hx
  trivial
 intro I M w vs β ob hI hg hB dZ ha
 obtain⟨blk,cur,e1,e2,e3,e4,e5,e7⟩:=hB.bx 0 _ rfl
 obtain⟨T,h1,h2,hT⟩:=e3.cells g9
 have Gf:blk<w.heap.size:=(be.1 h1).1
 have a0:=ha 0 _ rfl
 have a1:=ha 1 _ rfl
 simp only[LR] at a0
 obtain⟨_,ra,off,cap',hc1,BU,ho,hv⟩:=a0
 rw[e1] at BU;cases BU
 have a1:DR I w (vs.getD 1 undef) (.c (.fn (.func g) [] cs)):=a1
 obtain⟨cb,hcb,aiN,aiO⟩:∃ cb:Array Value,vs.getD 1 undef=.func (.func g) #[] cb∧cb.size=cs.length∧∀ j x,cs[j]?=some x→CR I w (cb.getD j undef) x:=by
  obtain⟨vf,vc,q1,q2,q3,_,q5⟩:=a1.cr.fn_inv
  have:vf=#[]:=Array.eq_empty_of_size_eq_zero (by simpa using q2)
  subst this
  exact⟨vc,q1,q3,q5⟩
 have P1:vs=#[.slice (some ⟨blk,off,none⟩) l.length cap',.func (.func g) #[] cb]:=by
  have dZ:vs.size=2:=dZ
  rw[← hv,← hcb]
  apply jw (by simpa using dZ)
  intro i Nw Jc
  have:i=0∨i=1:=by simp at Jc;omega
  rcases this with rfl | rfl<;>simp[Nw]
 subst P1
 clear ha hv hcb a1 dZ
 have Y0:l.length*k≤cur.size:=by rw[ky hk] at e4;exact e4
 letI:Inhabited (Row I w c k):=⟨⟨(x0,v0),hv0,ho0,hx0 I w⟩⟩
 have Co:∀ i (hi:i<l.length),∃ r:Row I w c k,r.1.1=l[i]∧∀ j,j<k→cur[i*k+j]?=some (r.1.2.getD j undef):=fun i hi=>by
  have hb:i*k+k≤l.length*k:=by have:=aS k (show i+1≤l.length from hi);rwa [cU,Nat.one_mul] at this
  refine⟨⟨(l[i],(List.range k).map fun j=>cur.getD (i*k+j) undef),by simp,fun v hv=>?_,fun j x hx=>?_⟩,rfl,fun j hj=>?_⟩
  ·simp only[br,cQ] at hv
   obtain⟨j,hj,rfl⟩:=hv
   have bB:i*k+j<cur.size:=by omega
   rw[ap,aA bB]
   exact h2 _ (Array.getElem_mem bB)
  ·have hj:j<k:=by rw[← hk l[i]];exact(ak.1 hx).1
   have h3:=e5 (i*k+j)
   rw[aB,Ky hk l i j hi hj,hx] at h3
   simp only[bO,bU,LR] at h3
   simp only[aB,bb,j3 hj,bO,bU]
   exact DR.cr h3
  ·have bB:i*k+j<cur.size:=by omega
   simp only[aB,bb,j3 hj,bO,bU]
   rw[ap,aA bB];rfl
 obtain⟨d,YW,hd2⟩:∃ d:Array (Row I w c k),d.size=l.length∧∀ i (hi:i<l.length),(d[i]!).1.1=l[i]∧∀ j,j<k→cur[i*k+j]?=some ((d[i]!).1.2.getD j undef):=by
  refine⟨((List.range l.length).map fun i=>if h:i<l.length then(Co i h).choose else default).toArray,by simp,fun i hi=>?_⟩
  have:(((List.range l.length).map fun i=>if h:i<l.length then(Co i h).choose else default).toArray)[i]! = (Co i hi).choose:=by
   rw[getElem!_pos _ i (by simpa using hi)]
   simp[hi]
  rw[this]
  exact(Co i hi).choose_spec
 have aiK:d.toList.map (·.1.1)=l:=by
  apply List.ext_getElem (by simpa using YW)
  intro i Nw Jc
  have hi3:i<d.size:=by simpa using Nw
  rw[List.getElem_map,Array.getElem_toList]
  have:=(hd2 i Jc).1
  rwa [getElem!_pos d i hi3] at this
 have off0:0<l.length→off=0:=fun h=>by rcases ho with h' | h';omega;exact h'
 have hH:HoldsK (fun r:Row I w c k=>r.1.2) k w blk off d:=by
  intro t ht
  rw[size_flatK,YW] at ht
  have q0:0<l.length:=by rcases Nat.eq_zero_or_pos l.length with h | h;rw[h] at ht;simp at ht;exact h
  rw[off0 q0,ah]
  have q1:t / k<l.length:=Nat.div_lt_of_lt_mul (by rwa [Nat.mul_comm])
  have q2:t % k<k:=lm _ k0
  have q3:t / k*k+t % k=t:=by have:=Nat.div_add_mod t k;rw[Nat.mul_comm] at this;exact this
  have hc:=(hd2 _ q1).2 _ q2
  rw[q3] at hc
  have Jn:t<cur.size:=by omega
  rw[get_flatK _ _ _ _ (by rw[YW];exact ht)]
  constructor
  ·simp only[World.cell?,h1,kA,aM,dy]
   rw[hc]
   congr 1
   have cu:t % k<(d[t / k]!).1.2.length:=by rw[(d[t / k]!).2.1];exact q2
   simp[List.getElem!_eq_getElem?_getD,aB,aj cu]
  ·simp only[World.frozen?,h1]
   rw[Bool.and_eq_false_iff,b9,b9]
   unfold RT.ok at hT
   show ¬T.fz.1≤t∨¬t<T.fz.2
   rcases hT with hT | hT<;>omega
 have oc:∀ (n:Nat) (dk:Array (Row I w c k)) (os:Array Obj) b o,I b o→(sortWorldK (fun r:Row I w c k=>r.1.2) k w blk off n dk os).cell? ⟨b,o,none⟩=w.cell? ⟨b,o,none⟩:=fun n dk os b o xG=>
  Xt Gf (hI b o xG) (fun e=>e7 o (e▸xG))
 have af7:CmpLays P g cb (fun r:Row I w c k=>r.1.2) k (fun x y=>cf x.1.1 y.1.1) blk off d.size w:=by
  intro m os dk hdk x y
  refine ((aiM x.1.1 y.1.1).2 I _ _ (fun b o h=>ce (hI b o h) E6) aa0 (by simp[aiN];omega) (fun j z hz=>?_)).mono ?_
  ·match j with
   |0=>
    simp only[dK,bJ,ao] at hz;subst hz
    have:(#[Value.agg x.1.2.toArray,Value.agg y.1.2.toArray]++cb).getD 0 undef=.agg x.1.2.toArray:=by simp[ap,Array.getElem?_append]
    rw[this]
    refine .agg _ _ (by simp[x.2.1,hk]) fun j z hz=>?_
    have:=(x.2.2.2 j z hz).mono (w':=sortWorldK (fun r:Row I w c k=>r.1.2) k w blk off m dk os) fun b o h=>⟨h,oc _ _ _ b o h⟩
    simpa[ap,aB] using this
   |1=>
    simp only[dK,bJ,cK,ao] at hz;subst hz
    have:(#[Value.agg x.1.2.toArray,Value.agg y.1.2.toArray]++cb).getD 1 undef=.agg y.1.2.toArray:=by simp[ap,Array.getElem?_append]
    rw[this]
    refine .agg _ _ (by simp[y.2.1,hk]) fun j z hz=>?_
    have:=(y.2.2.2 j z hz).mono (w':=sortWorldK (fun r:Row I w c k=>r.1.2) k w blk off m dk os) fun b o h=>⟨h,oc _ _ _ b o h⟩
    simpa[ap,aB] using this
   |j+2=>
    simp only[dK,gr,cK,bb] at hz
    obtain⟨z',me,rfl⟩:=aY.1 hz
    have:(#[Value.agg x.1.2.toArray,Value.agg y.1.2.toArray]++cb).getD (j+2) undef=cb.getD j undef:=by
     simp only[ap,Array.getElem?_append]
     rw[if_neg (by simp)];rfl
    rw[this]
    exact .c _ _ ((aiO j z' me).mono fun b o h=>⟨h,oc _ _ _ b o h⟩)
  ·rintro e w' ⟨v,I',rfl,hgr,_,_,ob',hr,_⟩
   simp only[LR] at hr
   obtain⟨rfl,_⟩:=(DR.cr hr).lit_inv
   exact⟨rfl,HT (hgr.toB rfl)⟩
 have hO':SWO (ltOf fun x y:Row I w c k=>cf x.1.1 y.1.1):=⟨fun x=>hO.irrefl x.1.1,fun x y z=>hO.trans x.1.1 y.1.1 z.1.1,fun x y z=>hO.ntrans x.1.1 y.1.1 z.1.1⟩
 have aaj:=AnyQ.slices_SortFunc L k aE zE (fun r:Row I w c k=>r.1.2) (fun r=>r.2.1) (fun r=>r.2.2.1) (fun x y=>cf x.1.1 y.1.1) hO' g cb blk off cap' d w eg af7 hH Gf (by rw[YW];exact hl)
 rw[YW] at aaj
 refine aaj.mono ?_
 rintro e w' ⟨rfl,d',n,os,⟨Nr,_,hp3⟩,hsd,rfl⟩
 have hd's:d'.size=l.length:=Nr.trans YW
 have Jk:d'.toList.map (·.1.1)=l':=by
  have p1:(d'.toList.map (·.1.1)).Perm l:=by
   rw[← aiK]
   refine List.Perm.map _ ?_
   have x1:(d'.extract 0 l.length).toList=d'.toList:=by rw[← hd's];simp
   have x2:(d.extract 0 l.length).toList=d.toList:=by rw[← YW];simp
   rw[x1,x2] at hp3;exact hp3
  refine qw (lt:=ltOf cf) (p1.trans hp.symm) (fun x hx y hy=>hu x (p1.mem_iff.1 hx) y (p1.mem_iff.1 hy)) ?_ hs
  rw[List.pairwise_iff_getElem]
  intro i j hi hj hij
  have Jc:i<d'.size:=by simpa using hi
  have VO:j<d'.size:=by simpa using hj
  have:=hsd i j (ar _) hij (by omega)
  rw[getElem!_pos d' i Jc,getElem!_pos d' j VO] at this
  simpa[ltOf] using this
 have rQ:∀ i (hi:i<l'.length),(d'[i]!).1.1=l'[i]:=fun i hi=>by
  have Jc:i<d'.size:=by omega
  have e:l'[i]=(d'.toList.map (·.1.1))[i]'(by simpa using Jc):=by simp only[Jk]
  rw[e,List.getElem_map,Array.getElem_toList,getElem!_pos d' i Jc]
 refine⟨.tuple #[],I,β,ob,none,rfl,⟨rfl,rfl,rfl,E6,fun q hq hM=>?_,fun _=>Nat.le_add_right _ _⟩,fun _ _ h=>h,fun _ _ h=>.inl h,fun b o h=>oc _ _ _ b o h,fun _ _=>rfl,fun i b hi hb=>?_,?_,?_,fun b hb=>by cases hb⟩
 ·refine HU Gf hq (fun e=>?_)
  subst e
  rcases e2 with h | h
  ·omega
  ·exact hM h
 ·have:=hB.bnone i (by simpa using hi);rw[this] at hb;cases hb
 ·exact {
   bx:=fun i cs' iR=>by
    have hi:i=0:=by
     have:=(ak.1 iR).1;simp at this;exact this
    subst hi
    simp only[bJ,ao] at iR;subst iR
    have gP:(putCells id off (flatK (fun r:Row I w c k=>r.1.2) k d') cur).size=cur.size:=by simp[putCells]
    have lR:∀ t (ht:t<cur.size),(putCells id off (flatK (fun r:Row I w c k=>r.1.2) k d') cur).getD t undef=if off≤t∧t<off+l.length*k then(d'[(t - off) / k]!).1.2.getD ((t - off) % k) undef else cur.getD t undef:=fun t ht=>by
     rw[ap]
     simp only[putCells,Array.getElem?_mapIdx,aA ht,bO,bU,size_flatK,hd's,id]
     split
     ·rename_i hx
      rw[get_flatK _ _ _ _ (by rw[hd's];omega)]
      have cu:(t - off) % k<(d'[(t - off) / k]!).1.2.length:=by rw[(d'[(t - off) / k]!).2.1];exact lm _ k0
      simp[List.getElem!_eq_getElem?_getD,aB,aj cu]
     ·simp[ap,ht]
    refine⟨blk,_,e1,e2,.of (T:=T) (Xs h1) (fun u hu=>?_) (by rw[gP];exact hT) g9,?_,fun j=>?_,e7⟩
    ·obtain⟨t,ht,rfl⟩:=Array.getElem_of_mem hu
     have ht':t<cur.size:=by rwa [gP] at ht
     have:=lR t ht'
     rw[ap,aA ht,bU] at this
     rw[this]
     by_cases hx:off≤t∧t<off+l.length*k
     ·rw[if_pos hx]
      have cu:(t - off) % k<(d'[(t - off) / k]!).1.2.length:=by rw[(d'[(t - off) / k]!).2.1];exact lm _ k0
      rw[aB,aj cu]
      exact(d'[(t - off) / k]!).2.2.1 _ (aF cu)
     ·rw[if_neg hx,ap,aA ht'];exact h2 _ (Array.getElem_mem ht')
    ·rw[gP,ky hk,LG];exact Y0
    ·by_cases hj:j<l'.length*k
     ·have q0:0<l.length:=by rcases Nat.eq_zero_or_pos l.length with h | h;rw[LG,h] at hj;simp at hj;exact h
      have q1:j / k<l'.length:=Nat.div_lt_of_lt_mul (by rwa [Nat.mul_comm])
      have q2:j % k<k:=lm _ k0
      have q3:j / k*k+j % k=j:=by have:=Nat.div_add_mod j k;rw[Nat.mul_comm] at this;exact this
      have aak:=lR j (by rw[LG] at hj;omega)
      obtain rfl:=off0 q0
      rw[if_pos ⟨ar _,by rw[LG] at hj;omega⟩,lF] at aak
      rw[aak]
      have m8:=Ky hk l' (j / k) (j % k) q1 q2
      rw[q3] at m8
      have cu:j % k<(c l'[j / k]).length:=by rw[hk];exact q2
      rw[aj cu] at m8
      have Cr:(flb c l').getD j .un=.c ((c l'[j / k])[j % k]'cu):=by rw[aB,m8];rfl
      have hv:=rQ _ q1
      rw[Cr]
      generalize d'[j / k]! = r at hv
      have hx:(c r.1.1)[j % k]?=some ((c l'[j / k])[j % k]'cu):=by rw[hv,aj cu]
      generalize (c l'[j / k])[j % k]'cu=x at hx
      have jm:=(r.2.2.2 (j % k) x hx).mono (w':=sortWorldK (fun r:Row I w c k=>r.1.2) k w blk 0 n d' os) fun b o h=>⟨h,oc n d' os b o h⟩
      simp only[LR]
      exact .c _ _ jm
     ·have:(flb c l').getD j .un=.un:=by
       rw[aB,co (by rw[ky hk];omega)];rfl
      rw[this];simp only[LR];exact .un _
   bnone:=hB.bnone
   binj:=hB.binj
   oinj:=hB.oinj
   obx:=hB.obx
   obnd:=fun i j b h=>⟨ce (hB.obnd i j b h).1 E6,(hB.obnd i j b h).2⟩
   olen:=hB.olen }
 ·simp only[LR]
  exact .tup _ _ rfl fun j d hd=>by simp at hd
theorem uX (L:SlLaysF0.n6 P ρ) (LH:∃ fn,P.funcs[ρ.f 6]?=some fn∧(fn.name== "runtime.NumGoroutine")=false∧∃ b,fn.body=some b) {x:C}:FnOK P G (ρ.f 6) [.c (.sl []),.c x] (.tup []):=by
 refine⟨LH,fun I w vs hI hg dZ ha=>?_⟩
 have a0:=ha 0 _ rfl
 obtain⟨p,cap,hv⟩:∃ p cap,vs.getD 0 undef=.slice p 0 cap:=by
  rcases(DR.cr a0).sl_inv with⟨⟨a,cap,h,_⟩,_⟩ | ⟨b,off,cap,_,_,h,_⟩
  ·exact⟨_,_,h⟩
  ·exact⟨_,_,h⟩
 have P1:vs=#[.slice p 0 cap,vs.getD 1 undef]:=by
  have dZ:vs.size=2:=dZ
  rw[← hv]
  apply jw (by simpa using dZ)
  intro i Nw Jc
  have:i=0∨i=1:=by simp at Jc;omega
  rcases this with rfl | rfl<;>simp[Nw]
 rw[P1]
 refine (AnyF.slices_SortFunc_none L p cap _ w).mono ?_
 rintro e w' ⟨rfl,rfl⟩
 exact⟨_,I,rfl,⟨rfl,rfl,rfl,ae _,fun _ _ _=>rfl,fun _=>ae _⟩,fun _ _ h=>h,fun _ _ h=>.inl h,none,.tup _ _ rfl fun j d hd=>by simp at hd,fun b hb=>by cases hb⟩
