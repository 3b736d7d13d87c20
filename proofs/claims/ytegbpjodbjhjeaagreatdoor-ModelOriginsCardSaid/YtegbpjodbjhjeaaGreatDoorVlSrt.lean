/- Values without memory: slices.SortFunc at structs: the kit's contract as one of ours: a box's list becomes the sorted one. -/
import Derived.Shelf.SlSortCmp.NoneTotal
import Derived.Test.YtegbpjodbjhjeaaGreatDoorVlFlb
set_option linter.all false
namespace Go.Vl
open Go Go.RowKit Go.Sort Go.Proofs
def gl0:Gl:=fun _=>none
theorem ZL {I:Ft} {w:World}:GOK gl0 I w:=fun g cs h=>by
 unfold gat gl0 at h;split at h<;>cases h
theorem GN {w w':World} (h:w.grb w' none):∃ q os,w'=Go.Sort.grow (w.drewN q) os:=by
 refine⟨w'.drawn - w.drawn,w'.heap.extract w.heap.size w'.heap.size,?_⟩
 have e1:w'.heap=w.heap++w'.heap.extract w.heap.size w'.heap.size:=by
  apply Array.ext_getElem?
  intro k
  by_cases hk:k<w.heap.size
  ·rw[dx hk,h.block k hk (by simp)]
  ·rw[Array.getElem?_append_right (by omega),eF]
   by_cases hk2:k<w'.heap.size
   ·rw[if_pos (by omega)];congr 1;omega
   ·rw[if_neg (by omega),cV (by omega)]
 have e2:w'.drawn=w.drawn+(w'.drawn - w.drawn):=by have:=h.drawn;omega
 cases w with
 |mk heap tape drawn os out=>
 cases w' with
 |mk heap' tape' drawn' os' out'=>
 have h1:=h.os;have h2:=h.tape;have h3:=h.output
 simp only at h1 h2 h3 e1 e2
 subst h1 h2 h3
 simp only[Go.Sort.grow,World.drewN,World.mk.injEq,fY,fZ]
 exact⟨e1,e2⟩
section
variable {α:Type} [Inhabited α] {enc:α→List Value} {k:Nat} {w:World} {blk off m:Nat} {d:Array α} {os:Array Obj}
theorem GO (h:blk<w.heap.size) {b:Nat} (hb:b<w.heap.size) (gv:b≠blk):(sortWorldK enc k w blk off m d os).heap[b]?=w.heap[b]?:=by
 simp only[sortWorldK,Go.Sort.grow,putRowK,putRow,mapBlock,Go.Sort.ahead]
 rw[dx (by simpa using hb),Array.getElem?_modify,if_neg (fM gv)]
theorem Wa {cur:Array Value} {T:TypeId} {fz:Nat×Nat} (h:w.heap[blk]?=some (.cells cur T fz)):(sortWorldK enc k w blk off m d os).heap[blk]?=some (.cells (putCells id off (flatK enc k d) cur) T fz):=by
 have hb:blk<w.heap.size:=(be.1 h).1
 simp only[sortWorldK,Go.Sort.grow,putRowK,putRow,mapBlock,Go.Sort.ahead]
 rw[dx (by simpa using hb),Array.getElem?_modify,if_pos rfl,h]
 rfl
theorem D6:w.heap.size≤(sortWorldK enc k w blk off m d os).heap.size:=size_sortWorldK_c enc k w blk off m d os
theorem Wb (h:blk<w.heap.size) {b o:Nat} (hb:b<w.heap.size) (gv:b≠blk):(sortWorldK enc k w blk off m d os).cell? ⟨b,o,none⟩=w.cell? ⟨b,o,none⟩:=dN (GO h hb gv)
end
theorem pZ {α:Type} {lt:α→α→Bool}:∀ {l l':List α},l.Perm l'→(∀ x∈l,∀ y∈l,lt x y=false→lt y x=false→x=y)→l.Pairwise (fun x y=>lt y x=false)→l'.Pairwise (fun x y=>lt y x=false)→l=l'
 |[],l',h,_,_,_=>(List.nil_perm.1 h).symm
 |x::l,[],h,_,_,_=>by simp at h
 |x::l,y::l',h,hu,h1,h2=>by
  have hy:y∈x::l:=h.mem_iff.2 (aT ..)
  have hx:x∈y::l':=h.mem_iff.1 (aT ..)
  have e:x=y:=by
   rcases bw.1 hy with e | O0
   ·exact e.symm
   ·rcases bw.1 hx with e | ET
    ·exact e
    ·exact hu x (aT ..) y hy ((gu.1 h2).1 x ET) ((gu.1 h1).1 y O0)
  subst e
  rw[pZ (List.perm_cons x |>.1 h) (fun a ha b hb=>hu a (aM _ ha) b (aM _ hb)) (gu.1 h1).2 (gu.1 h2).2]
theorem Js {α:Type} {c:α→List C} {sz:Nat} (hc:∀ x,(c x).length=sz):∀ (l:List α) (i j:Nat) (hi:i<l.length),j<sz→(flb c l)[i*sz+j]?=((c l[i])[j]?).map V.c
 |[],i,_,hi,_=>absurd hi (Nat.not_lt_zero _)
 |x::l,0,j,_,hj=>by
  rw[sr,Nat.zero_mul,ah,aC (by rw[ap,hc];exact hj),ba];rfl
 |x::l,i+1,j,hi,hj=>by
  rw[sr,cR,Nat.one_mul,aJ (by rw[ap,hc];omega),ap,hc]
  have:=Js hc l i j (by simpa using hi) hj
  rw[show i*sz+sz+j - sz=i*sz+j by omega,this];rfl
section
variable {P:Program} {G:Gl} {ρ:Go.Shelf.Ren} {α:Type} {c:α→List C} {k:Nat}
theorem DR.cr {I:Ft} {w:World} {v:Value} {x:C} (h:DR I w v (.c x)):CR I w v x:=by
 cases h with
 |c v x h=>exact h
abbrev Row (I:Ft) (w:World) (c:α→List C) (k:Nat):Type:={ p:α×List Value // p.2.length=k∧(∀ v∈p.2,v.oneCell'=true)∧∀ j x,(c p.1)[j]?=some x→CR I w (p.2.getD j undef) x }
set_option maxHeartbeats 4000000 in
theorem GP (L:SlLaysF0.n6 P ρ) (XT:∃ fn,P.funcs[ρ.f 6]?=some fn∧(fn.name== "runtime.NumGoroutine")=false∧∃ b,fn.body=some b) (aE:∀ w,(isAgg (ρ.t 24)).run P w=.ok true w) (zE:∀ w,(Go.sizeOf (ρ.t 24)).run P w=.ok k w) (hk:∀ x,(c x).length=k) (k0:0<k)
 (x0:α) (v0:List Value) (hv0:v0.length=k) (ho0:∀ v∈v0,v.oneCell'=true) (hx0:∀ I w j x,(c x0)[j]?=some x→CR I w (v0.getD j undef) x) (cf:α→α→Int) (hO:SWO (ltOf cf)) (g:Nat) (cs:List C)
 (eg:∀ args w,(callFunc g args).run P w=.ok (.enter g args) w) (ahD:∀ x y,FnOK P gl0 g ([.agg (c x),.agg (c y)]++cs.map .c) (.c (.lit (.int .i64 (cf x y)))))
 (l l':List α) (hl:l.length<4611686018427387904) (hp:l'.Perm l) (hs:l'.Pairwise fun x y=>ltOf cf y x=false) (hu:∀ x∈l,∀ y∈l,ltOf cf x y=false→ltOf cf y x=false→x=y) (cap:Nat) (jL:l.length≤cap) :
 FnB P G (ρ.f 6) [.ms 0 0 l.length cap k,.c (.fn (.func g) [] cs)] [flb c l] (.tup []) [flb c l']:=by
 have Mo:l'.length=l.length:=hp.length_eq
 refine⟨XT,⟨?_,?_,ae _⟩,?_⟩
 ·intro x hx
  simp only[bw,eO,kT] at hx
  rcases hx with rfl | rfl
  ·exact Nat.zero_lt_one
  ·trivial
 ·intro b hb x hx
  simp only[aN] at hb;subst hb
  unfold flb at hx
  obtain⟨y,_,rfl⟩:=bu.1 hx
  trivial
 intro I M w vs β ob hI hg hB dR ha
 obtain⟨blk,cur,e1,e2,e3,e4,e5,e7⟩:=hB.bx 0 _ rfl
 obtain⟨T,h1,h2,hT⟩:=e3.cells gK
 have E1:blk<w.heap.size:=(be.1 h1).1
 have a0:=ha 0 _ rfl
 have a1:=ha 1 _ rfl
 simp only[LR] at a0
 obtain⟨_,qC,off,cap',hc1,AS,ho,hv⟩:=a0
 rw[e1] at AS;cases AS
 have a1:DR I w (vs.getD 1 undef) (.c (.fn (.func g) [] cs)):=a1
 obtain⟨cb,hcb,ahE,ahF⟩:∃ cb:Array Value,vs.getD 1 undef=.func (.func g) #[] cb∧cb.size=cs.length∧∀ j x,cs[j]?=some x→CR I w (cb.getD j undef) x:=by
  obtain⟨vf,vc,q1,q2,q3,_,q5⟩:=a1.cr.fn_inv
  have:vf=#[]:=Array.eq_empty_of_size_eq_zero (by simpa using q2)
  subst this
  exact⟨vc,q1,q3,q5⟩
 have OR:vs=#[.slice (some ⟨blk,off,none⟩) l.length cap',.func (.func g) #[] cb]:=by
  have dR:vs.size=2:=dR
  rw[← hv,← hcb]
  apply jn (by simpa using dR)
  intro i Mm H2
  have:i=0∨i=1:=by simp at H2;omega
  rcases this with rfl | rfl<;>simp[Mm]
 subst OR
 clear ha hv hcb a1 dR
 have XI:l.length*k≤cur.size:=by rw[ke hk] at e4;exact e4
 letI:Inhabited (Row I w c k):=⟨⟨(x0,v0),hv0,ho0,hx0 I w⟩⟩
 have Bn:∀ i (hi:i<l.length),∃ r:Row I w c k,r.1.1=l[i]∧∀ j,j<k→cur[i*k+j]?=some (r.1.2.getD j undef):=fun i hi=>by
  have hb:i*k+k≤l.length*k:=by have:=aP k (show i+1≤l.length from hi);rwa [cR,Nat.one_mul] at this
  refine⟨⟨(l[i],(List.range k).map fun j=>cur.getD (i*k+j) undef),by simp,fun v hv=>?_,fun j x hx=>?_⟩,rfl,fun j hj=>?_⟩
  ·simp only[bu,cO] at hv
   obtain⟨j,hj,rfl⟩:=hv
   have bF:i*k+j<cur.size:=by omega
   rw[ao,ay bF]
   exact h2 _ (Array.getElem_mem bF)
  ·have hj:j<k:=by rw[← hk l[i]];exact(ak.1 hx).1
   have h3:=e5 (i*k+j)
   rw[aA,Js hk l i j hi hj,hx] at h3
   simp only[bK,bQ,LR] at h3
   simp only[aA,ba,jP hj,bK,bQ]
   exact DR.cr h3
  ·have bF:i*k+j<cur.size:=by omega
   simp only[aA,ba,jP hj,bK,bQ]
   rw[ao,ay bF];rfl
 obtain⟨d,XD,hd2⟩:∃ d:Array (Row I w c k),d.size=l.length∧∀ i (hi:i<l.length),(d[i]!).1.1=l[i]∧∀ j,j<k→cur[i*k+j]?=some ((d[i]!).1.2.getD j undef):=by
  refine⟨((List.range l.length).map fun i=>if h:i<l.length then(Bn i h).choose else default).toArray,by simp,fun i hi=>?_⟩
  have:(((List.range l.length).map fun i=>if h:i<l.length then(Bn i h).choose else default).toArray)[i]! = (Bn i hi).choose:=by
   rw[getElem!_pos _ i (by simpa using hi)]
   simp[hi]
  rw[this]
  exact(Bn i hi).choose_spec
 have ahB:d.toList.map (·.1.1)=l:=by
  apply List.ext_getElem (by simpa using XD)
  intro i Mm H2
  have hi3:i<d.size:=by simpa using Mm
  rw[List.getElem_map,Array.getElem_toList]
  have:=(hd2 i H2).1
  rwa [getElem!_pos d i hi3] at this
 have off0:0<l.length→off=0:=fun h=>by rcases ho with h' | h';omega;exact h'
 have hH:HoldsK (fun r:Row I w c k=>r.1.2) k w blk off d:=by
  intro t ht
  rw[size_flatK,XD] at ht
  have qB:0<l.length:=by rcases Nat.eq_zero_or_pos l.length with h | h;rw[h] at ht;simp at ht;exact h
  rw[off0 qB,ah]
  have q1:t / k<l.length:=Nat.div_lt_of_lt_mul (by rwa [Nat.mul_comm])
  have q2:t % k<k:=kU _ k0
  have q3:t / k*k+t % k=t:=by have:=Nat.div_add_mod t k;rw[Nat.mul_comm] at this;exact this
  have hc:=(hd2 _ q1).2 _ q2
  rw[q3] at hc
  have Ie:t<cur.size:=by omega
  rw[get_flatK _ _ _ _ (by rw[XD];exact ht)]
  constructor
  ·simp only[World.cell?,h1,kg,aS,dm]
   rw[hc]
   congr 1
   have ce:t % k<(d[t / k]!).1.2.length:=by rw[(d[t / k]!).2.1];exact q2
   simp[List.getElem!_eq_getElem?_getD,aA,aj ce]
  ·simp only[World.frozen?,h1]
   rw[Bool.and_eq_false_iff,cm,cm]
   unfold RT.ok at hT
   show ¬T.fz.1≤t∨¬t<T.fz.2
   rcases hT with hT | hT<;>omega
 have nH:∀ (n:Nat) (dk:Array (Row I w c k)) (os:Array Obj) b o,I b o→(sortWorldK (fun r:Row I w c k=>r.1.2) k w blk off n dk os).cell? ⟨b,o,none⟩=w.cell? ⟨b,o,none⟩:=fun n dk os b o wC=>
  Wb E1 (hI b o wC) (fun e=>e7 o (e▸wC))
 have ae0:CmpLays P g cb (fun r:Row I w c k=>r.1.2) k (fun x y=>cf x.1.1 y.1.1) blk off d.size w:=by
  intro m os dk hdk x y
  refine ((ahD x.1.1 y.1.1).2 I _ _ (fun b o h=>bW (hI b o h) D6) ZL (by simp[ahE];omega) (fun j z hz=>?_)).mono ?_
  ·match j with
   |0=>
    simp only[dC,bG,am] at hz;subst hz
    have:(#[Value.agg x.1.2.toArray,Value.agg y.1.2.toArray]++cb).getD 0 undef=.agg x.1.2.toArray:=by simp[ao,Array.getElem?_append]
    rw[this]
    refine .agg _ _ (by simp[x.2.1,hk]) fun j z hz=>?_
    have:=(x.2.2.2 j z hz).mono (w':=sortWorldK (fun r:Row I w c k=>r.1.2) k w blk off m dk os) fun b o h=>⟨h,nH _ _ _ b o h⟩
    simpa[ao,aA] using this
   |1=>
    simp only[dC,bG,cH,am] at hz;subst hz
    have:(#[Value.agg x.1.2.toArray,Value.agg y.1.2.toArray]++cb).getD 1 undef=.agg y.1.2.toArray:=by simp[ao,Array.getElem?_append]
    rw[this]
    refine .agg _ _ (by simp[y.2.1,hk]) fun j z hz=>?_
    have:=(y.2.2.2 j z hz).mono (w':=sortWorldK (fun r:Row I w c k=>r.1.2) k w blk off m dk os) fun b o h=>⟨h,nH _ _ _ b o h⟩
    simpa[ao,aA] using this
   |j+2=>
    simp only[dC,fS,cH,ba] at hz
    obtain⟨z',lQ,rfl⟩:=aX.1 hz
    have:(#[Value.agg x.1.2.toArray,Value.agg y.1.2.toArray]++cb).getD (j+2) undef=cb.getD j undef:=by
     simp only[ao,Array.getElem?_append]
     rw[if_neg (by simp)];rfl
    rw[this]
    exact .c _ _ ((ahF j z' lQ).mono fun b o h=>⟨h,nH _ _ _ b o h⟩)
  ·rintro e w' ⟨v,I',rfl,hgr,_,_,ob',hr,_⟩
   simp only[LR] at hr
   obtain⟨rfl,_⟩:=(DR.cr hr).lit_inv
   exact⟨rfl,GN (hgr.toB rfl)⟩
 have hO':SWO (ltOf fun x y:Row I w c k=>cf x.1.1 y.1.1):=⟨fun x=>hO.irrefl x.1.1,fun x y z=>hO.trans x.1.1 y.1.1 z.1.1,fun x y z=>hO.ntrans x.1.1 y.1.1 z.1.1⟩
 have Y4:=AnyQ.slices_SortFunc L k aE zE (fun r:Row I w c k=>r.1.2) (fun r=>r.2.1) (fun r=>r.2.2.1) (fun x y=>cf x.1.1 y.1.1) hO' g cb blk off cap' d w eg ae0 hH E1 (by rw[XD];exact hl)
 rw[XD] at Y4
 refine Y4.mono ?_
 rintro e w' ⟨rfl,d',n,os,⟨Mh,_,hp3⟩,hsd,rfl⟩
 have hd's:d'.size=l.length:=Mh.trans XD
 have Ia:d'.toList.map (·.1.1)=l':=by
  have p1:(d'.toList.map (·.1.1)).Perm l:=by
   rw[← ahB]
   refine List.Perm.map _ ?_
   have x1:(d'.extract 0 l.length).toList=d'.toList:=by rw[← hd's];simp
   have x2:(d.extract 0 l.length).toList=d.toList:=by rw[← XD];simp
   rw[x1,x2] at hp3;exact hp3
  refine pZ (lt:=ltOf cf) (p1.trans hp.symm) (fun x hx y hy=>hu x (p1.mem_iff.1 hx) y (p1.mem_iff.1 hy)) ?_ hs
  rw[List.pairwise_iff_getElem]
  intro i j hi hj hij
  have H2:i<d'.size:=by simpa using hi
  have Uz:j<d'.size:=by simpa using hj
  have:=hsd i j (au _) hij (by omega)
  rw[getElem!_pos d' i H2,getElem!_pos d' j Uz] at this
  simpa[ltOf] using this
 have rh:∀ i (hi:i<l'.length),(d'[i]!).1.1=l'[i]:=fun i hi=>by
  have H2:i<d'.size:=by omega
  have e:l'[i]=(d'.toList.map (·.1.1))[i]'(by simpa using H2):=by simp only[Ia]
  rw[e,List.getElem_map,Array.getElem_toList,getElem!_pos d' i H2]
 refine⟨.tuple #[],I,β,ob,none,rfl,⟨rfl,rfl,rfl,D6,fun q hq hM=>?_,fun _=>Nat.le_add_right _ _⟩,fun _ _ h=>h,fun _ _ h=>.inl h,fun b o h=>nH _ _ _ b o h,fun _ _=>rfl,fun i b hi hb=>?_,?_,?_,fun b hb=>by cases hb⟩
 ·refine GO E1 hq (fun e=>?_)
  subst e
  rcases e2 with h | h
  ·omega
  ·exact hM h
 ·have:=hB.bnone i (by simpa using hi);rw[this] at hb;cases hb
 ·exact {
   bx:=fun i cs' iE=>by
    have hi:i=0:=by
     have:=(ak.1 iE).1;simp at this;exact this
    subst hi
    simp only[bG,am] at iE;subst iE
    have gw:(putCells id off (flatK (fun r:Row I w c k=>r.1.2) k d') cur).size=cur.size:=by simp[putCells]
    have ly:∀ t (ht:t<cur.size),(putCells id off (flatK (fun r:Row I w c k=>r.1.2) k d') cur).getD t undef=if off≤t∧t<off+l.length*k then(d'[(t - off) / k]!).1.2.getD ((t - off) % k) undef else cur.getD t undef:=fun t ht=>by
     rw[ao]
     simp only[putCells,Array.getElem?_mapIdx,ay ht,bK,bQ,size_flatK,hd's,id]
     split
     ·rename_i hx
      rw[get_flatK _ _ _ _ (by rw[hd's];omega)]
      have ce:(t - off) % k<(d'[(t - off) / k]!).1.2.length:=by rw[(d'[(t - off) / k]!).2.1];exact kU _ k0
      simp[List.getElem!_eq_getElem?_getD,aA,aj ce]
     ·simp[ao,ht]
    refine⟨blk,_,e1,e2,.of (T:=T) (Wa h1) (fun u hu=>?_) (by rw[gw];exact hT) gK,?_,fun j=>?_,e7⟩
    ·obtain⟨t,ht,rfl⟩:=Array.getElem_of_mem hu
     have ht':t<cur.size:=by rwa [gw] at ht
     have:=ly t ht'
     rw[ao,ay ht,bQ] at this
     rw[this]
     by_cases hx:off≤t∧t<off+l.length*k
     ·rw[if_pos hx]
      have ce:(t - off) % k<(d'[(t - off) / k]!).1.2.length:=by rw[(d'[(t - off) / k]!).2.1];exact kU _ k0
      rw[aA,aj ce]
      exact(d'[(t - off) / k]!).2.2.1 _ (aF ce)
     ·rw[if_neg hx,ao,ay ht'];exact h2 _ (Array.getElem_mem ht')
    ·rw[gw,ke hk,Mo];exact XI
    ·by_cases hj:j<l'.length*k
     ·have qB:0<l.length:=by rcases Nat.eq_zero_or_pos l.length with h | h;rw[Mo,h] at hj;simp at hj;exact h
      have q1:j / k<l'.length:=Nat.div_lt_of_lt_mul (by rwa [Nat.mul_comm])
      have q2:j % k<k:=kU _ k0
      have q3:j / k*k+j % k=j:=by have:=Nat.div_add_mod j k;rw[Nat.mul_comm] at this;exact this
      have Y5:=ly j (by rw[Mo] at hj;omega)
      obtain rfl:=off0 qB
      rw[if_pos ⟨au _,by rw[Mo] at hj;omega⟩,lb] at Y5
      rw[Y5]
      have mK:=Js hk l' (j / k) (j % k) q1 q2
      rw[q3] at mK
      have ce:j % k<(c l'[j / k]).length:=by rw[hk];exact q2
      rw[aj ce] at mK
      have Bq:(flb c l').getD j .un=.c ((c l'[j / k])[j % k]'ce):=by rw[aA,mK];rfl
      have hv:=rh _ q1
      rw[Bq]
      generalize d'[j / k]! = r at hv
      have hx:(c r.1.1)[j % k]?=some ((c l'[j / k])[j % k]'ce):=by rw[hv,aj ce]
      generalize (c l'[j / k])[j % k]'ce=x at hx
      have ja:=(r.2.2.2 (j % k) x hx).mono (w':=sortWorldK (fun r:Row I w c k=>r.1.2) k w blk 0 n d' os) fun b o h=>⟨h,nH n d' os b o h⟩
      simp only[LR]
      exact .c _ _ ja
     ·have:(flb c l').getD j .un=.un:=by
       rw[aA,b8 (by rw[ke hk];omega)];rfl
      rw[this];simp only[LR];exact .un _
   bnone:=hB.bnone
   binj:=hB.binj
   oinj:=hB.oinj
   obx:=hB.obx
   obnd:=fun i j b h=>⟨bW (hB.obnd i j b h).1 D6,(hB.obnd i j b h).2⟩
   olen:=hB.olen }
 ·simp only[LR]
  exact .tup _ _ rfl fun j d hd=>by simp at hd
theorem ub (L:SlLaysF0.n6 P ρ) (XT:∃ fn,P.funcs[ρ.f 6]?=some fn∧(fn.name== "runtime.NumGoroutine")=false∧∃ b,fn.body=some b) {x:C}:FnOK P G (ρ.f 6) [.c (.sl []),.c x] (.tup []):=by
 refine⟨XT,fun I w vs hI hg dR ha=>?_⟩
 have a0:=ha 0 _ rfl
 obtain⟨p,cap,hv⟩:∃ p cap,vs.getD 0 undef=.slice p 0 cap:=by
  rcases(DR.cr a0).sl_inv with⟨⟨a,cap,h,_⟩,_⟩ | ⟨b,off,cap,_,_,h,_⟩
  ·exact⟨_,_,h⟩
  ·exact⟨_,_,h⟩
 have OR:vs=#[.slice p 0 cap,vs.getD 1 undef]:=by
  have dR:vs.size=2:=dR
  rw[← hv]
  apply jn (by simpa using dR)
  intro i Mm H2
  have:i=0∨i=1:=by simp at H2;omega
  rcases this with rfl | rfl<;>simp[Mm]
 rw[OR]
 refine (AnyF.slices_SortFunc_none L p cap _ w).mono ?_
 rintro e w' ⟨rfl,rfl⟩
 exact⟨_,I,rfl,⟨rfl,rfl,rfl,ae _,fun _ _ _=>rfl,fun _=>ae _⟩,fun _ _ h=>h,fun _ _ h=>.inl h,none,.tup _ _ rfl fun j d hd=>by simp at hd,fun b hb=>by cases hb⟩
