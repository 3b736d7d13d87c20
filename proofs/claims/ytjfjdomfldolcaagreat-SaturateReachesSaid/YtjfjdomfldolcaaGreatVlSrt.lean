/- Values without memory: slices.SortFunc at structs: the kit's contract as one of ours: a box's list becomes the sorted one. -/
import Derived.Shelf.SlSortCmp.NoneTotal
import Derived.Test.YtjfjdomfldolcaaGreatVlFlb
set_option linter.all false
namespace Go.Vl
open Go Go.RowKit Go.Sort Go.Proofs
def gl0:Gl:=fun _=>none
theorem ac9 {I:Ft} {w:World}:GOK gl0 I w:=fun g cs h=>by
 unfold gat gl0 at h;split at h<;>cases h
theorem Ib {w w':World} (h:w.grb w' none):∃ q os,w'=Go.Sort.grow (w.drewN q) os:=by
 refine⟨w'.drawn - w.drawn,w'.heap.extract w.heap.size w'.heap.size,?_⟩
 have e1:w'.heap=w.heap++w'.heap.extract w.heap.size w'.heap.size:=by
  apply Array.ext_getElem?
  intro k
  by_cases hk:k<w.heap.size
  ·rw[eB hk,h.block k hk (by simp)]
  ·rw[Array.getElem?_append_right (by omega),dA]
   by_cases hk2:k<w'.heap.size
   ·rw[if_pos (by omega)];congr 1;omega
   ·rw[if_neg (by omega),dB (by omega)]
 have e2:w'.drawn=w.drawn+(w'.drawn - w.drawn):=by have:=h.drawn;omega
 cases w with
 |mk heap tape drawn os out=>
 cases w' with
 |mk heap' tape' drawn' os' out'=>
 have h1:=h.os;have h2:=h.tape;have h3:=h.output
 simp only at h1 h2 h3 e1 e2
 subst h1 h2 h3
 simp only[Go.Sort.grow,World.drewN,World.mk.injEq,gK,jt]
 exact⟨e1,e2⟩
section
variable {α:Type} [Inhabited α] {enc:α→List Value} {k:Nat} {w:World} {blk off m:Nat} {d:Array α} {os:Array Obj}
theorem Ie (h:blk<w.heap.size) {b:Nat} (hb:b<w.heap.size) (gW:b≠blk):(sortWorldK enc k w blk off m d os).heap[b]?=w.heap[b]?:=by
 simp only[sortWorldK,Go.Sort.grow,putRowK,putRow,mapBlock,Go.Sort.ahead]
 rw[eB (by simpa using hb),Array.getElem?_modify,if_neg (gJ gW)]
theorem YD {cur:Array Value} {T:TypeId} {fz:Nat×Nat} (h:w.heap[blk]?=some (.cells cur T fz)):(sortWorldK enc k w blk off m d os).heap[blk]?=some (.cells (putCells id off (flatK enc k d) cur) T fz):=by
 have hb:blk<w.heap.size:=(bh.1 h).1
 simp only[sortWorldK,Go.Sort.grow,putRowK,putRow,mapBlock,Go.Sort.ahead]
 rw[eB (by simpa using hb),Array.getElem?_modify,if_pos rfl,h]
 rfl
theorem F5:w.heap.size≤(sortWorldK enc k w blk off m d os).heap.size:=size_sortWorldK_c enc k w blk off m d os
theorem YF (h:blk<w.heap.size) {b o:Nat} (hb:b<w.heap.size) (gW:b≠blk):(sortWorldK enc k w blk off m d os).cell? ⟨b,o,none⟩=w.cell? ⟨b,o,none⟩:=dQ (Ie h hb gW)
end
theorem lO {α:Type} {lt:α→α→Bool}:∀ {l l':List α},l.Perm l'→(∀ x∈l,∀ y∈l,lt x y=false→lt y x=false→x=y)→l.Pairwise (fun x y=>lt y x=false)→l'.Pairwise (fun x y=>lt y x=false)→l=l'
 |[],l',h,_,_,_=>(List.nil_perm.1 h).symm
 |x::l,[],h,_,_,_=>by simp at h
 |x::l,y::l',h,hu,h1,h2=>by
  have hy:y∈x::l:=h.mem_iff.2 (a8 ..)
  have hx:x∈y::l':=h.mem_iff.1 (a8 ..)
  have e:x=y:=by
   rcases aK.1 hy with e | Qg
   ·exact e.symm
   ·rcases aK.1 hx with e | Cx
    ·exact e
    ·exact hu x (a8 ..) y hy ((iy.1 h2).1 x Cx) ((iy.1 h1).1 y Qg)
  subst e
  rw[lO (List.perm_cons x |>.1 h) (fun a ha b hb=>hu a (aD _ ha) b (aD _ hb)) (iy.1 h1).2 (iy.1 h2).2]
theorem Lk {α:Type} {c:α→List C} {sz:Nat} (hc:∀ x,(c x).length=sz):∀ (l:List α) (i j:Nat) (hi:i<l.length),j<sz→(flb c l)[i*sz+j]?=((c l[i])[j]?).map V.c
 |[],i,_,hi,_=>absurd hi (fL _)
 |x::l,0,j,_,hj=>by
  rw[uz,Nat.zero_mul,aX,az (by rw[au,hc];exact hj),bb];rfl
 |x::l,i+1,j,hi,hj=>by
  rw[uz,di,mD,aH (by rw[au,hc];omega),au,hc]
  have:=Lk hc l i j (by simpa using hi) hj
  rw[show i*sz+sz+j - sz=i*sz+j by omega,this];rfl
section
variable {P:Program} {G:Gl} {ρ:Go.Shelf.Ren} {α:Type} {c:α→List C} {k:Nat}
theorem DR.cr {I:Ft} {w:World} {v:Value} {x:C} (h:DR I w v (.c x)):CR I w v x:=by
 cases h with
 |c v x h=>exact h
abbrev Row (I:Ft) (w:World) (c:α→List C) (k:Nat):Type:={ p:α×List Value // p.2.length=k∧(∀ v∈p.2,v.oneCell'=true)∧∀ j x,(c p.1)[j]?=some x→CR I w (p.2.getD j undef) x }
set_option maxHeartbeats 4000000 in
theorem D2 (J1:∃ fn,P.funcs[ρ.f 6]?=some fn∧(fn.name== "runtime.NumGoroutine")=false∧∃ b,fn.body=some b) (hk:∀ x,(c x).length=k) (k0:0<k)
 (cf:α→α→Int) (hO:SWO (ltOf cf)) (g:Nat) (cs:List C)
 (ev:List Value→Value) (cv:α→V) (GG:∀ (base:Nat→Prop) (I:Ft) (β:Nat→Option Nat) (w:World) (x:α) (vs:List Value),vs.length=k→(∀ j z,(c x)[j]?=some z→CR I w (vs.getD j undef) z)→DR I w (ev vs) (cv x))
 (Wd:∀ x y,FnOK P gl0 g ([cv x,cv y]++cs.map .c) (.c (.lit (.int .i64 (cf x y)))))
 (agn:∀ (I:Ft) (w:World) (cb:Array Value) (blk off cap:Nat) [Inhabited (Row I w c k)] (d:Array (Row I w c k)),SWO (ltOf fun x y:Row I w c k=>cf x.1.1 y.1.1)→
  (∀ (m:Nat) (os:Array Obj) (dk:Array (Row I w c k)),dk.size=d.size→∀ x y:Row I w c k,Calls P g (#[ev x.1.2,ev y.1.2]++cb) (sortWorldK (fun r:Row I w c k=>r.1.2) k w blk off m dk os) fun e w'=>e=.returned (.int .i64 (cf x.1.1 y.1.1))∧∃ q os',w'=Go.Sort.grow ((sortWorldK (fun r:Row I w c k=>r.1.2) k w blk off m dk os).drewN q) os')→
  HoldsK (fun r:Row I w c k=>r.1.2) k w blk off d→blk<w.heap.size→d.size<4611686018427387904→
  Calls P (ρ.f 6) #[.slice (some ⟨blk,off,none⟩) d.size cap,.func (.func g) #[] cb] w fun e w'=>e=.returned (.tuple #[])∧∃ d' n os,PermIn 0 d.size d d'∧SortedIn (ltOf fun x y:Row I w c k=>cf x.1.1 y.1.1) 0 d.size d'∧w'=sortWorldK (fun r:Row I w c k=>r.1.2) k w blk off n d' os)
 (l l':List α) (alO:0<l.length∨∃ (x0:α) (v0:List Value),v0.length=k∧(∀ v∈v0,v.oneCell'=true)∧∀ I w j x,(c x0)[j]?=some x→CR I w (v0.getD j undef) x) (hl:l.length<4611686018427387904) (hp:l'.Perm l) (hs:l'.Pairwise fun x y=>ltOf cf y x=false) (hu:∀ x∈l,∀ y∈l,ltOf cf x y=false→ltOf cf y x=false→x=y) (cap:Nat) (j7:l.length≤cap) :
 FnB P G (ρ.f 6) [.ms 0 0 l.length cap k,.c (.fn (.func g) [] cs)] [flb c l] (.tup []) [flb c l']:=by
 have Mo:l'.length=l.length:=hp.length_eq
 refine⟨J1,⟨?_,?_,ab _⟩,?_⟩
 ·intro x hx
  simp only[aK,bn,dc] at hx
  rcases hx with rfl | rfl
  ·exact Nat.zero_lt_one
  ·trivial
 ·intro b hb x hx
  simp only[a7] at hb;subst hb
  unfold flb at hx
  obtain⟨y,_,rfl⟩:=bj.1 hx
  trivial
 intro I M w vs β ob hI hg hB fW ha
 obtain⟨blk,cur,e1,e2,e3,e4,e5,e7⟩:=hB.bx 0 _ rfl
 obtain⟨T,h1,h2,hT⟩:=e3.cells iQ
 have zh:blk<w.heap.size:=(bh.1 h1).1
 have a0:=ha 0 _ rfl
 have a1:=ha 1 _ rfl
 simp only[LR] at a0
 obtain⟨_,tn,off,cap',vB,yC,ho,hv⟩:=a0
 rw[e1] at yC;cases yC
 have a1:DR I w (vs.getD 1 undef) (.c (.fn (.func g) [] cs)):=a1
 obtain⟨cb,hcb,alR,alS⟩:∃ cb:Array Value,vs.getD 1 undef=.func (.func g) #[] cb∧cb.size=cs.length∧∀ j x,cs[j]?=some x→CR I w (cb.getD j undef) x:=by
  obtain⟨vf,vc,q1,q2,q3,_,q5⟩:=a1.cr.fn_inv
  have:vf=#[]:=Array.eq_empty_of_size_eq_zero (by simpa using q2)
  subst this
  exact⟨vc,q1,q3,q5⟩
 have Wz:vs=#[.slice (some ⟨blk,off,none⟩) l.length cap',.func (.func g) #[] cb]:=by
  have fW:vs.size=2:=fW
  rw[← hv,← hcb]
  apply mE (by simpa using fW)
  intro i EL JD
  have:i=0∨i=1:=by simp at JD;omega
  rcases this with rfl | rfl<;>simp[EL]
 subst Wz
 clear ha hv hcb a1 fW
 have aaY:l.length*k≤cur.size:=by rw[ly hk] at e4;exact e4
 have zd:∀ i (hi:i<l.length),∃ r:Row I w c k,r.1.1=l[i]∧∀ j,j<k→cur[i*k+j]?=some (r.1.2.getD j undef):=fun i hi=>by
  have hb:i*k+k≤l.length*k:=by have:=aO k (show i+1≤l.length from hi);rwa [di,mD] at this
  refine⟨⟨(l[i],(List.range k).map fun j=>cur.getD (i*k+j) undef),by simp,fun v hv=>?_,fun j x hx=>?_⟩,rfl,fun j hj=>?_⟩
  ·simp only[bj,df] at hv
   obtain⟨j,hj,rfl⟩:=hv
   have bK:i*k+j<cur.size:=by omega
   rw[aj,ay bK]
   exact h2 _ (Array.getElem_mem bK)
  ·have hj:j<k:=by rw[← hk l[i]];exact(ah.1 hx).1
   have h3:=e5 (i*k+j)
   rw[aw,Lk hk l i j hi hj,hx] at h3
   simp only[b8,cx,LR] at h3
   simp only[aw,bb,iT hj,b8,cx]
   exact DR.cr h3
  ·have bK:i*k+j<cur.size:=by omega
   simp only[aw,bb,iT hj,b8,cx]
   rw[aj,ay bK];rfl
 have gW:Nonempty (Row I w c k):=by
  rcases alO with h | ⟨x0,v0,Mk,ho0,hx0⟩
  ·exact⟨(zd 0 h).choose⟩
  ·exact⟨⟨(x0,v0),Mk,ho0,hx0 I w⟩⟩
 letI:Inhabited (Row I w c k):=⟨Classical.choice gW⟩
 obtain⟨d,VY,hd2⟩:∃ d:Array (Row I w c k),d.size=l.length∧∀ i (hi:i<l.length),(d[i]!).1.1=l[i]∧∀ j,j<k→cur[i*k+j]?=some ((d[i]!).1.2.getD j undef):=by
  refine⟨((List.range l.length).map fun i=>if h:i<l.length then(zd i h).choose else default).toArray,by simp,fun i hi=>?_⟩
  have:(((List.range l.length).map fun i=>if h:i<l.length then(zd i h).choose else default).toArray)[i]! = (zd i hi).choose:=by
   rw[getElem!_pos _ i (by simpa using hi)]
   simp[hi]
  rw[this]
  exact(zd i hi).choose_spec
 have alM:d.toList.map (·.1.1)=l:=by
  apply List.ext_getElem (by simpa using VY)
  intro i EL JD
  have hi3:i<d.size:=by simpa using EL
  rw[j6,Array.getElem_toList]
  have:=(hd2 i JD).1
  rwa [getElem!_pos d i hi3] at this
 have off0:0<l.length→off=0:=fun h=>by rcases ho with h' | h';omega;exact h'
 have hH:HoldsK (fun r:Row I w c k=>r.1.2) k w blk off d:=by
  intro t ht
  rw[size_flatK,VY] at ht
  have tV:0<l.length:=by rcases Nat.eq_zero_or_pos l.length with h | h;rw[h] at ht;simp at ht;exact h
  rw[off0 tV,aX]
  have q1:t / k<l.length:=Nat.div_lt_of_lt_mul (by rwa [Nat.mul_comm])
  have q2:t % k<k:=Nat.mod_lt _ k0
  have q3:t / k*k+t % k=t:=by have:=Nat.div_add_mod t k;rw[Nat.mul_comm] at this;exact this
  have hc:=(hd2 _ q1).2 _ q2
  rw[q3] at hc
  have NK:t<cur.size:=by omega
  rw[get_flatK _ _ _ _ (by rw[VY];exact ht)]
  constructor
  ·simp only[World.cell?,h1,Option.isSome_none,aY,dm]
   rw[hc]
   congr 1
   have cg:t % k<(d[t / k]!).1.2.length:=by rw[(d[t / k]!).2.1];exact q2
   simp[List.getElem!_eq_getElem?_getD,aw,ae cg]
  ·simp only[World.frozen?,h1]
   rw[Bool.and_eq_false_iff,cQ,cQ]
   unfold RT.ok at hT
   show ¬T.fz.1≤t∨¬t<T.fz.2
   rcases hT with hT | hT<;>omega
 have ov:∀ (n:Nat) (dk:Array (Row I w c k)) (os:Array Obj) b o,I b o→(sortWorldK (fun r:Row I w c k=>r.1.2) k w blk off n dk os).cell? ⟨b,o,none⟩=w.cell? ⟨b,o,none⟩:=fun n dk os b o EN=>
  YF zh (hI b o EN) (fun e=>e7 o (e▸EN))
 have JM:∀ (m:Nat) (os:Array Obj) (dk:Array (Row I w c k)),dk.size=d.size→∀ x y:Row I w c k,Calls P g (#[ev x.1.2,ev y.1.2]++cb) (sortWorldK (fun r:Row I w c k=>r.1.2) k w blk off m dk os) fun e w'=>e=.returned (.int .i64 (cf x.1.1 y.1.1))∧∃ q os',w'=Go.Sort.grow ((sortWorldK (fun r:Row I w c k=>r.1.2) k w blk off m dk os).drewN q) os':=by
  intro m os dk hdk x y
  refine ((Wd x.1.1 y.1.1).2 I _ _ (fun b o h=>bZ (hI b o h) F5) ac9 (by simp[alR];omega) (fun j z hz=>?_)).mono ?_
  ·match j with
   |0=>
    simp only[fa,cw,ao] at hz;subst hz
    have:(#[ev x.1.2,ev y.1.2]++cb).getD 0 undef=ev x.1.2:=by simp[aj,Array.getElem?_append]
    rw[this]
    exact GG (fun _=>True) I β _ x.1.1 x.1.2 x.2.1 fun j z hz=>(x.2.2.2 j z hz).mono fun b o h=>⟨h,ov _ _ _ b o h⟩
   |1=>
    simp only[fa,cw,dp,ao] at hz;subst hz
    have:(#[ev x.1.2,ev y.1.2]++cb).getD 1 undef=ev y.1.2:=by simp[aj,Array.getElem?_append]
    rw[this]
    exact GG (fun _=>True) I β _ y.1.1 y.1.2 y.2.1 fun j z hz=>(y.2.2.2 j z hz).mono fun b o h=>⟨h,ov _ _ _ b o h⟩
   |j+2=>
    simp only[fa,eI,dp,bb] at hz
    obtain⟨z',lT,rfl⟩:=aW.1 hz
    have:(#[ev x.1.2,ev y.1.2]++cb).getD (j+2) undef=cb.getD j undef:=by
     simp only[aj,Array.getElem?_append]
     rw[if_neg (by simp)];rfl
    rw[this]
    exact .c _ _ ((alS j z' lT).mono fun b o h=>⟨h,ov _ _ _ b o h⟩)
  ·rintro e w' ⟨v,I',rfl,hgr,_,_,ob',hr,_⟩
   simp only[LR] at hr
   obtain⟨rfl,_⟩:=(DR.cr hr).lit_inv
   exact⟨rfl,Ib (hgr.toB rfl)⟩
 have hO':SWO (ltOf fun x y:Row I w c k=>cf x.1.1 y.1.1):=⟨fun x=>hO.irrefl x.1.1,fun x y z=>hO.trans x.1.1 y.1.1 z.1.1,fun x y z=>hO.ntrans x.1.1 y.1.1 z.1.1⟩
 have ab6:=agn I w cb blk off cap' d hO' JM hH zh (by rw[VY];exact hl)
 rw[VY] at ab6
 refine ab6.mono ?_
 rintro e w' ⟨rfl,d',n,os,⟨hp1,_,hp3⟩,hsd,rfl⟩
 have hd's:d'.size=l.length:=hp1.trans VY
 have Md:d'.toList.map (·.1.1)=l':=by
  have p1:(d'.toList.map (·.1.1)).Perm l:=by
   rw[← alM]
   refine List.Perm.map _ ?_
   have x1:(d'.extract 0 l.length).toList=d'.toList:=by rw[← hd's];simp
   have x2:(d.extract 0 l.length).toList=d.toList:=by rw[← VY];simp
   rw[x1,x2] at hp3;exact hp3
  refine lO (lt:=ltOf cf) (p1.trans hp.symm) (fun x hx y hy=>hu x (p1.mem_iff.1 hx) y (p1.mem_iff.1 hy)) ?_ hs
  rw[ib]
  intro i j hi hj hij
  have JD:i<d'.size:=by simpa using hi
  have EO:j<d'.size:=by simpa using hj
  have:=hsd i j (ar _) hij (by omega)
  rw[getElem!_pos d' i JD,getElem!_pos d' j EO] at this
  simpa[ltOf] using this
 have ze:∀ i (hi:i<l'.length),(d'[i]!).1.1=l'[i]:=fun i hi=>by
  have JD:i<d'.size:=by omega
  have e:l'[i]=(d'.toList.map (·.1.1))[i]'(by simpa using JD):=by simp only[Md]
  rw[e,j6,Array.getElem_toList,getElem!_pos d' i JD]
 refine⟨.tuple #[],I,β,ob,none,rfl,⟨rfl,rfl,rfl,F5,fun q hq hM=>?_,fun _=>Nat.le_add_right _ _⟩,fun _ _ h=>h,fun _ _ h=>.inl h,fun b o h=>ov _ _ _ b o h,fun _ _=>rfl,fun i b hi hb=>?_,?_,?_,fun b hb=>by cases hb⟩
 ·refine Ie zh hq (fun e=>?_)
  subst e
  rcases e2 with h | h
  ·omega
  ·exact hM h
 ·have:=hB.bnone i (by simpa using hi);rw[this] at hb;cases hb
 ·exact {
   bx:=fun i cs' jc=>by
    have hi:i=0:=by
     have:=(ah.1 jc).1;simp at this;exact this
    subst hi
    simp only[cw,ao] at jc;subst jc
    have jA:(putCells id off (flatK (fun r:Row I w c k=>r.1.2) k d') cur).size=cur.size:=by simp[putCells]
    have nM:∀ t (ht:t<cur.size),(putCells id off (flatK (fun r:Row I w c k=>r.1.2) k d') cur).getD t undef=if off≤t∧t<off+l.length*k then(d'[(t - off) / k]!).1.2.getD ((t - off) % k) undef else cur.getD t undef:=fun t ht=>by
     rw[aj]
     simp only[putCells,Array.getElem?_mapIdx,ay ht,b8,cx,size_flatK,hd's,id]
     split
     ·rename_i hx
      rw[get_flatK _ _ _ _ (by rw[hd's];omega)]
      have cg:(t - off) % k<(d'[(t - off) / k]!).1.2.length:=by rw[(d'[(t - off) / k]!).2.1];exact Nat.mod_lt _ k0
      simp[List.getElem!_eq_getElem?_getD,aw,ae cg]
     ·simp[aj,ht]
    refine⟨blk,_,e1,e2,.of (T:=T) (YD h1) (fun u hu=>?_) (by rw[jA];exact hT) iQ,?_,fun j=>?_,e7⟩
    ·obtain⟨t,ht,rfl⟩:=Array.getElem_of_mem hu
     have ht':t<cur.size:=by rwa [jA] at ht
     have:=nM t ht'
     rw[aj,ay ht,cx] at this
     rw[this]
     by_cases hx:off≤t∧t<off+l.length*k
     ·rw[if_pos hx]
      have cg:(t - off) % k<(d'[(t - off) / k]!).1.2.length:=by rw[(d'[(t - off) / k]!).2.1];exact Nat.mod_lt _ k0
      rw[aw,ae cg]
      exact(d'[(t - off) / k]!).2.2.1 _ (bL cg)
     ·rw[if_neg hx,aj,ay ht'];exact h2 _ (Array.getElem_mem ht')
    ·rw[jA,ly hk,Mo];exact aaY
    ·by_cases hj:j<l'.length*k
     ·have tV:0<l.length:=by rcases Nat.eq_zero_or_pos l.length with h | h;rw[Mo,h] at hj;simp at hj;exact h
      have q1:j / k<l'.length:=Nat.div_lt_of_lt_mul (by rwa [Nat.mul_comm])
      have q2:j % k<k:=Nat.mod_lt _ k0
      have q3:j / k*k+j % k=j:=by have:=Nat.div_add_mod j k;rw[Nat.mul_comm] at this;exact this
      have ab7:=nM j (by rw[Mo] at hj;omega)
      obtain rfl:=off0 tV
      rw[if_pos ⟨ar _,by rw[Mo] at hj;omega⟩,Nat.sub_zero] at ab7
      rw[ab7]
      have kP:=Lk hk l' (j / k) (j % k) q1 q2
      rw[q3] at kP
      have cg:j % k<(c l'[j / k]).length:=by rw[hk];exact q2
      rw[ae cg] at kP
      have hgd:(flb c l').getD j .un=.c ((c l'[j / k])[j % k]'cg):=by rw[aw,kP];rfl
      have hv:=ze _ q1
      rw[hgd]
      generalize d'[j / k]! = r at hv
      have hx:(c r.1.1)[j % k]?=some ((c l'[j / k])[j % k]'cg):=by rw[hv,ae cg]
      generalize (c l'[j / k])[j % k]'cg=x at hx
      have iW:=(r.2.2.2 (j % k) x hx).mono (w':=sortWorldK (fun r:Row I w c k=>r.1.2) k w blk 0 n d' os) fun b o h=>⟨h,ov n d' os b o h⟩
      simp only[LR]
      exact .c _ _ iW
     ·have:(flb c l').getD j .un=.un:=by
       rw[aw,bw (by rw[ly hk];omega)];rfl
      rw[this];simp only[LR];exact .un _
   bnone:=hB.bnone
   binj:=hB.binj
   oinj:=hB.oinj
   obx:=hB.obx
   obnd:=fun i j b h=>⟨bZ (hB.obnd i j b h).1 F5,(hB.obnd i j b h).2⟩
   olen:=hB.olen }
 ·simp only[LR]
  exact .tup _ _ rfl fun j d hd=>by simp at hd
theorem If (L:SlLaysF0.n6 P ρ) (J1:∃ fn,P.funcs[ρ.f 6]?=some fn∧(fn.name== "runtime.NumGoroutine")=false∧∃ b,fn.body=some b) (aE:∀ w,(isAgg (ρ.t 24)).run P w=.ok true w) (zE:∀ w,(Go.sizeOf (ρ.t 24)).run P w=.ok k w) (hk:∀ x,(c x).length=k) (k0:0<k)
 (x0:α) (v0:List Value) (Mk:v0.length=k) (ho0:∀ v∈v0,v.oneCell'=true) (hx0:∀ I w j x,(c x0)[j]?=some x→CR I w (v0.getD j undef) x) (cf:α→α→Int) (hO:SWO (ltOf cf)) (g:Nat) (cs:List C)
 (eg:∀ args w,(callFunc g args).run P w=.ok (.enter g args) w) (Wd:∀ x y,FnOK P gl0 g ([.agg (c x),.agg (c y)]++cs.map .c) (.c (.lit (.int .i64 (cf x y)))))
 (l l':List α) (hl:l.length<4611686018427387904) (hp:l'.Perm l) (hs:l'.Pairwise fun x y=>ltOf cf y x=false) (hu:∀ x∈l,∀ y∈l,ltOf cf x y=false→ltOf cf y x=false→x=y) (cap:Nat) (j7:l.length≤cap) :
 FnB P G (ρ.f 6) [.ms 0 0 l.length cap k,.c (.fn (.func g) [] cs)] [flb c l] (.tup []) [flb c l']:=
 D2 J1 hk k0 cf hO g cs (fun vs=>.agg vs.toArray) (fun x=>.agg (c x)) (fun _ I _ w x vs Wz hr=>.agg _ _ (by simp[Wz,hk]) fun j z hz=>by
  simpa[aj,aw] using hr j z hz) Wd
  (fun I w cb blk off cap _ d hO' JM hH zh fW=>AnyQ.slices_SortFunc L k aE zE (fun r:Row I w c k=>r.1.2) (fun r=>r.2.1) (fun r=>r.2.2.1) (fun x y=>cf x.1.1 y.1.1) hO' g cb blk off cap d w eg JM hH zh fW) l l' (.inr ⟨x0,v0,Mk,ho0,hx0⟩) hl hp hs hu cap j7
theorem Ig {α:Type} [Inhabited α] {encL:α→List Value} {enc:α→Value} (h:∀ a,encL a=[enc a]) (d:Array α) (t:Nat) (ht:t<d.size):(flatK encL 1 d)[t]! = enc d[t]! :=by
 rw[get_flatK _ _ _ _ (by omega),Nat.div_one,Nat.mod_one,h];rfl
theorem Tc {α:Type} [Inhabited α] {encL:α→List Value} {enc:α→Value} (h:∀ a,encL a=[enc a]) {w:World} {blk off m:Nat} {d:Array α} {os:Array Obj}:sortWorld enc w blk off m d os=sortWorldK encL 1 w blk off m d os:=by
 have e:putCells enc off d=putCells id off (flatK encL 1 d):=by
  funext c
  simp only[putCells,size_flatK,Nat.mul_one]
  congr 1
  funext k x
  split
  ·rename_i hk
   rw[id,Ig h d (k - off) (by omega)]
  ·rfl
 simp only[sortWorld,sortWorldK,putRowK,putRow,e]
theorem Pv {c1:α→C} (L:SlLaysF.n6 P ρ) (J1:∃ fn,P.funcs[ρ.f 6]?=some fn∧(fn.name== "runtime.NumGoroutine")=false∧∃ b,fn.body=some b)
 (cf:α→α→Int) (hO:SWO (ltOf cf)) (g:Nat) (cs:List C)
 (eg:∀ args w,(callFunc g args).run P w=.ok (.enter g args) w) (Wd:∀ x y,FnOK P gl0 g ([.c (c1 x),.c (c1 y)]++cs.map .c) (.c (.lit (.int .i64 (cf x y)))))
 (l l':List α) (gW:0<l.length) (hl:l.length<4611686018427387904) (hp:l'.Perm l) (hs:l'.Pairwise fun x y=>ltOf cf y x=false) (hu:∀ x∈l,∀ y∈l,ltOf cf x y=false→ltOf cf y x=false→x=y) (cap:Nat) (j7:l.length≤cap) :
 FnB P G (ρ.f 6) [.ms 0 0 l.length cap 1,.c (.fn (.func g) [] cs)] [flb (fun x=>[c1 x]) l] (.tup []) [flb (fun x=>[c1 x]) l']:=
 D2 (c:=fun x=>[c1 x]) (k:=1) J1 (fun _=>rfl) (by decide) cf hO g cs (fun vs=>vs.getD 0 undef) (fun x=>.c (c1 x)) (fun _ I _ w x vs Wz hr=>.c _ _ (hr 0 _ rfl)) Wd
  (fun I w cb blk off cap _ d hO' JM hH zh fW=>by
   have h1:∀ r:Row I w (fun x=>[c1 x]) 1,r.1.2=[r.1.2.getD 0 undef]:=fun r=>by
    have:=r.2.1
    match hq:r.1.2,this with
    |[v],_=>rfl
   have hm:=Any.slices_SortFunc L (fun r:Row I w (fun x=>[c1 x]) 1=>r.1.2.getD 0 undef) (fun r=>r.2.2.1 _ (by rw[h1 r];simp)) (fun x y=>cf x.1.1 y.1.1) hO' g cb blk off cap d w eg
    (fun m os dk hdk x y=>by rw[Tc h1];exact JM m os dk hdk x y)
    (fun j hj=>by
     have:=hH j (by simpa using hj)
     rw[Ig h1 d j hj] at this
     exact this) zh fW
   refine hm.mono ?_
   rintro e w' ⟨he,d',n,os,hp,hs,hw⟩
   exact⟨he,d',n,os,hp,hs,by rw[hw,Tc h1]⟩) l l' (.inl gW) hl hp hs hu cap j7
theorem vP (L:SlLaysF0.n6 P ρ) (J1:∃ fn,P.funcs[ρ.f 6]?=some fn∧(fn.name== "runtime.NumGoroutine")=false∧∃ b,fn.body=some b) {x:C}:FnOK P G (ρ.f 6) [.c (.sl []),.c x] (.tup []):=by
 refine⟨J1,fun I w vs hI hg fW ha=>?_⟩
 have a0:=ha 0 _ rfl
 obtain⟨p,cap,hv⟩:∃ p cap,vs.getD 0 undef=.slice p 0 cap:=by
  rcases(DR.cr a0).sl_inv with⟨⟨a,cap,h,_⟩,_⟩ | ⟨b,off,cap,_,_,h,_⟩
  ·exact⟨_,_,h⟩
  ·exact⟨_,_,h⟩
 have Wz:vs=#[.slice p 0 cap,vs.getD 1 undef]:=by
  have fW:vs.size=2:=fW
  rw[← hv]
  apply mE (by simpa using fW)
  intro i EL JD
  have:i=0∨i=1:=by simp at JD;omega
  rcases this with rfl | rfl<;>simp[EL]
 rw[Wz]
 refine (AnyF.slices_SortFunc_none L p cap _ w).mono ?_
 rintro e w' ⟨rfl,rfl⟩
 exact⟨_,I,rfl,⟨rfl,rfl,rfl,ab _,fun _ _ _=>rfl,fun _=>ab _⟩,fun _ _ h=>h,fun _ _ h=>.inl h,none,.tup _ _ rfl fun j d hd=>by simp at hd,fun b hb=>by cases hb⟩
