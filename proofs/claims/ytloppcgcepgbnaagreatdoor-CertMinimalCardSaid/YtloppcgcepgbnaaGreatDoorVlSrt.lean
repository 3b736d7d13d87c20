/- Values without memory: slices.SortFunc at structs: the kit's contract as one of ours: a box's list becomes the sorted one. -/
import Derived.Shelf.SlSortCmp.NoneTotal
import Derived.Test.YtloppcgcepgbnaaGreatDoorVlFlb
set_option linter.all false
namespace Go.Vl
open Go Go.RowKit Go.Sort Go.Proofs
def gl0:Gl:=fun _=>none
theorem ahd {I:Ft} {w:World}:GOK gl0 I w:=fun g cs h=>by
 unfold gat gl0 at h;split at h<;>cases h
theorem JH {w w':World} (h:w.grb w' none):∃ q os,w'=Go.Sort.grow (w.drewN q) os:=by
 refine⟨w'.drawn - w.drawn,w'.heap.extract w.heap.size w'.heap.size,?_⟩
 have e1:w'.heap=w.heap++w'.heap.extract w.heap.size w'.heap.size:=by
  apply Array.ext_getElem?
  intro k
  by_cases hk:k<w.heap.size
  ·rw[ew hk,h.block k hk (by simp)]
  ·rw[Array.getElem?_append_right (by omega),dw]
   by_cases hk2:k<w'.heap.size
   ·rw[if_pos (by omega)];congr 1;omega
   ·rw[if_neg (by omega),c9 (by omega)]
 have e2:w'.drawn=w.drawn+(w'.drawn - w.drawn):=by have:=h.drawn;omega
 cases w with
 |mk heap tape drawn os out=>
 cases w' with
 |mk heap' tape' drawn' os' out'=>
 have h1:=h.os;have h2:=h.tape;have h3:=h.output
 simp only at h1 h2 h3 e1 e2
 subst h1 h2 h3
 simp only[Go.Sort.grow,World.drewN,World.mk.injEq,gj,ia]
 exact⟨e1,e2⟩
section
variable {α:Type} [Inhabited α] {enc:α→List Value} {k:Nat} {w:World} {blk off m:Nat} {d:Array α} {os:Array Obj}
theorem JI (h:blk<w.heap.size) {b:Nat} (hb:b<w.heap.size) (gK:b≠blk):(sortWorldK enc k w blk off m d os).heap[b]?=w.heap[b]?:=by
 simp only[sortWorldK,Go.Sort.grow,putRowK,putRow,mapBlock,Go.Sort.ahead]
 rw[ew (by simpa using hb),Array.getElem?_modify,if_neg (gX gK)]
theorem ack {cur:Array Value} {T:TypeId} {fz:Nat×Nat} (h:w.heap[blk]?=some (.cells cur T fz)):(sortWorldK enc k w blk off m d os).heap[blk]?=some (.cells (putCells id off (flatK enc k d) cur) T fz):=by
 have hb:blk<w.heap.size:=(bf.1 h).1
 simp only[sortWorldK,Go.Sort.grow,putRowK,putRow,mapBlock,Go.Sort.ahead]
 rw[ew (by simpa using hb),Array.getElem?_modify,if_pos rfl,h]
 rfl
theorem G6:w.heap.size≤(sortWorldK enc k w blk off m d os).heap.size:=size_sortWorldK_c enc k w blk off m d os
theorem acm (h:blk<w.heap.size) {b o:Nat} (hb:b<w.heap.size) (gK:b≠blk):(sortWorldK enc k w blk off m d os).cell? ⟨b,o,none⟩=w.cell? ⟨b,o,none⟩:=dJ (JI h hb gK)
end
theorem qO {α:Type} {lt:α→α→Bool}:∀ {l l':List α},l.Perm l'→(∀ x∈l,∀ y∈l,lt x y=false→lt y x=false→x=y)→l.Pairwise (fun x y=>lt y x=false)→l'.Pairwise (fun x y=>lt y x=false)→l=l'
 |[],l',h,_,_,_=>(List.nil_perm.1 h).symm
 |x::l,[],h,_,_,_=>by simp at h
 |x::l,y::l',h,hu,h1,h2=>by
  have hy:y∈x::l:=h.mem_iff.2 (bB ..)
  have hx:x∈y::l':=h.mem_iff.1 (bB ..)
  have e:x=y:=by
   rcases aQ.1 hy with e | Ui
   ·exact e.symm
   ·rcases aQ.1 hx with e | Db
    ·exact e
    ·exact hu x (bB ..) y hy ((kK.1 h2).1 x Db) ((kK.1 h1).1 y Ui)
  subst e
  rw[qO (List.perm_cons x |>.1 h) (fun a ha b hb=>hu a (aR _ ha) b (aR _ hb)) (kK.1 h1).2 (kK.1 h2).2]
theorem G7 {α:Type} {c:α→List C} {sz:Nat} (hc:∀ x,(c x).length=sz):∀ (l:List α) (i j:Nat) (hi:i<l.length),j<sz→(flb c l)[i*sz+j]?=((c l[i])[j]?).map V.c
 |[],i,_,hi,_=>absurd hi (gQ _)
 |x::l,0,j,_,hj=>by
  rw[pM,Nat.zero_mul,aK,az (by rw[ak,hc];exact hj),ba];rfl
 |x::l,i+1,j,hi,hj=>by
  rw[pM,c8,mK,aF (by rw[ak,hc];omega),ak,hc]
  have:=G7 hc l i j (by simpa using hi) hj
  rw[show i*sz+sz+j - sz=i*sz+j by omega,this];rfl
section
variable {P:Program} {G:Gl} {ρ:Go.Shelf.Ren} {α:Type} {c:α→List C} {k:Nat}
theorem DR.cr {I:Ft} {w:World} {v:Value} {x:C} (h:DR I w v (.c x)):CR I w v x:=by
 cases h with
 |c v x h=>exact h
abbrev Row (I:Ft) (w:World) (c:α→List C) (k:Nat):Type:={ p:α×List Value // p.2.length=k∧(∀ v∈p.2,v.oneCell'=true)∧∀ j x,(c p.1)[j]?=some x→CR I w (p.2.getD j undef) x }
set_option maxHeartbeats 4000000 in
theorem EL (FI:∃ fn,P.funcs[ρ.f 6]?=some fn∧(fn.name== "runtime.NumGoroutine")=false∧∃ b,fn.body=some b) (hk:∀ x,(c x).length=k) (k0:0<k)
 (cf:α→α→Int) (hO:SWO (ltOf cf)) (g:Nat) (cs:List C)
 (ev:List Value→Value) (cv:α→V) (Dp:∀ (base:Nat→Prop) (I:Ft) (β:Nat→Option Nat) (w:World) (x:α) (vs:List Value),vs.length=k→(∀ j z,(c x)[j]?=some z→CR I w (vs.getD j undef) z)→DR I w (ev vs) (cv x))
 (aaq:∀ x y,FnOK P gl0 g ([cv x,cv y]++cs.map .c) (.c (.lit (.int .i64 (cf x y)))))
 (akm:∀ (I:Ft) (w:World) (cb:Array Value) (blk off cap:Nat) [Inhabited (Row I w c k)] (d:Array (Row I w c k)),SWO (ltOf fun x y:Row I w c k=>cf x.1.1 y.1.1)→
  (∀ (m:Nat) (os:Array Obj) (dk:Array (Row I w c k)),dk.size=d.size→∀ x y:Row I w c k,Calls P g (#[ev x.1.2,ev y.1.2]++cb) (sortWorldK (fun r:Row I w c k=>r.1.2) k w blk off m dk os) fun e w'=>e=.returned (.int .i64 (cf x.1.1 y.1.1))∧∃ q os',w'=Go.Sort.grow ((sortWorldK (fun r:Row I w c k=>r.1.2) k w blk off m dk os).drewN q) os')→
  HoldsK (fun r:Row I w c k=>r.1.2) k w blk off d→blk<w.heap.size→d.size<4611686018427387904→
  Calls P (ρ.f 6) #[.slice (some ⟨blk,off,none⟩) d.size cap,.func (.func g) #[] cb] w fun e w'=>e=.returned (.tuple #[])∧∃ d' n os,PermIn 0 d.size d d'∧SortedIn (ltOf fun x y:Row I w c k=>cf x.1.1 y.1.1) 0 d.size d'∧w'=sortWorldK (fun r:Row I w c k=>r.1.2) k w blk off n d' os)
 (l l':List α) (apT:0<l.length∨∃ (x0:α) (v0:List Value),v0.length=k∧(∀ v∈v0,v.oneCell'=true)∧∀ I w j x,(c x0)[j]?=some x→CR I w (v0.getD j undef) x) (hl:l.length<4611686018427387904) (hp:l'.Perm l) (hs:l'.Pairwise fun x y=>ltOf cf y x=false) (hu:∀ x∈l,∀ y∈l,ltOf cf x y=false→ltOf cf y x=false→x=y) (cap:Nat) (ky:l.length≤cap) :
 FnB P G (ρ.f 6) [.ms 0 0 l.length cap k,.c (.fn (.func g) [] cs)] [flb c l] (.tup []) [flb c l']:=by
 have hll:l'.length=l.length:=hp.length_eq
 refine⟨FI,⟨?_,?_,ar _⟩,?_⟩
 ·intro x hx
  simp only[aQ,aY,cN] at hx
  rcases hx with rfl | rfl
  ·exact Nat.zero_lt_one
  ·trivial
 ·intro b hb x hx
  simp only[aW] at hb;subst hb
  unfold flb at hx
  obtain⟨y,_,rfl⟩:=bA.1 hx
  trivial
 intro I M w vs β ob hI hg hB fC ha
 obtain⟨blk,cur,e1,e2,e3,e4,e5,e7⟩:=hB.bx 0 _ rfl
 obtain⟨T,h1,h2,hT⟩:=e3.cells gw
 have zp:blk<w.heap.size:=(bf.1 h1).1
 have a0:=ha 0 _ rfl
 have a1:=ha 1 _ rfl
 simp only[LR] at a0
 obtain⟨_,sN,off,cap',hc1,yB,ho,hv⟩:=a0
 rw[e1] at yB;cases yB
 have a1:DR I w (vs.getD 1 undef) (.c (.fn (.func g) [] cs)):=a1
 obtain⟨cb,hcb,apW,apX⟩:∃ cb:Array Value,vs.getD 1 undef=.func (.func g) #[] cb∧cb.size=cs.length∧∀ j x,cs[j]?=some x→CR I w (cb.getD j undef) x:=by
  obtain⟨vf,vc,q1,q2,q3,_,q5⟩:=a1.cr.fn_inv
  have:vf=#[]:=Array.eq_empty_of_size_eq_zero (by simpa using q2)
  subst this
  exact⟨vc,q1,q3,q5⟩
 have hvs:vs=#[.slice (some ⟨blk,off,none⟩) l.length cap',.func (.func g) #[] cb]:=by
  have fC:vs.size=2:=fC
  rw[← hv,← hcb]
  apply mL (by simpa using fC)
  intro i FC D6
  have:i=0∨i=1:=by simp at D6;omega
  rcases this with rfl | rfl<;>simp[FC]
 subst hvs
 clear ha hv hcb a1 fC
 have afo:l.length*k≤cur.size:=by rw[kg hk] at e4;exact e4
 have zo:∀ i (hi:i<l.length),∃ r:Row I w c k,r.1.1=l[i]∧∀ j,j<k→cur[i*k+j]?=some (r.1.2.getD j undef):=fun i hi=>by
  have hb:i*k+k≤l.length*k:=by have:=aL k (show i+1≤l.length from hi);rwa [c8,mK] at this
  refine⟨⟨(l[i],(List.range k).map fun j=>cur.getD (i*k+j) undef),by simp,fun v hv=>?_,fun j x hx=>?_⟩,rfl,fun j hj=>?_⟩
  ·simp only[bA,db] at hv
   obtain⟨j,hj,rfl⟩:=hv
   have bV:i*k+j<cur.size:=by omega
   rw[ah,ax bV]
   exact h2 _ (Array.getElem_mem bV)
  ·have hj:j<k:=by rw[← hk l[i]];exact(ae.1 hx).1
   have h3:=e5 (i*k+j)
   rw[ay,G7 hk l i j hi hj,hx] at h3
   simp only[cD,cG,LR] at h3
   simp only[ay,ba,jk hj,cD,cG]
   exact DR.cr h3
  ·have bV:i*k+j<cur.size:=by omega
   simp only[ay,ba,jk hj,cD,cG]
   rw[ah,ax bV];rfl
 have gK:Nonempty (Row I w c k):=by
  rcases apT with h | ⟨x0,v0,Uj,ho0,hx0⟩
  ·exact⟨(zo 0 h).choose⟩
  ·exact⟨⟨(x0,v0),Uj,ho0,hx0 I w⟩⟩
 letI:Inhabited (Row I w c k):=⟨Classical.choice gK⟩
 obtain⟨d,Z9,hd2⟩:∃ d:Array (Row I w c k),d.size=l.length∧∀ i (hi:i<l.length),(d[i]!).1.1=l[i]∧∀ j,j<k→cur[i*k+j]?=some ((d[i]!).1.2.getD j undef):=by
  refine⟨((List.range l.length).map fun i=>if h:i<l.length then(zo i h).choose else default).toArray,by simp,fun i hi=>?_⟩
  have:(((List.range l.length).map fun i=>if h:i<l.length then(zo i h).choose else default).toArray)[i]! = (zo i hi).choose:=by
   rw[getElem!_pos _ i (by simpa using hi)]
   simp[hi]
  rw[this]
  exact(zo i hi).choose_spec
 have apR:d.toList.map (·.1.1)=l:=by
  apply List.ext_getElem (by simpa using Z9)
  intro i FC D6
  have hi3:i<d.size:=by simpa using FC
  rw[jt,Array.getElem_toList]
  have:=(hd2 i D6).1
  rwa [getElem!_pos d i hi3] at this
 have off0:0<l.length→off=0:=fun h=>by rcases ho with h' | h';omega;exact h'
 have hH:HoldsK (fun r:Row I w c k=>r.1.2) k w blk off d:=by
  intro t ht
  rw[size_flatK,Z9] at ht
  have qY:0<l.length:=by rcases kL l.length with h | h;rw[h] at ht;simp at ht;exact h
  rw[off0 qY,aK]
  have q1:t / k<l.length:=Nat.div_lt_of_lt_mul (by rwa [kJ])
  have q2:t % k<k:=kH _ k0
  have q3:t / k*k+t % k=t:=by have:=Nat.div_add_mod t k;rw[kJ] at this;exact this
  have hc:=(hd2 _ q1).2 _ q2
  rw[q3] at hc
  have Qf:t<cur.size:=by omega
  rw[get_flatK _ _ _ _ (by rw[Z9];exact ht)]
  constructor
  ·simp only[World.cell?,h1,Option.isSome_none,aI,dj]
   rw[hc]
   congr 1
   have cn:t % k<(d[t / k]!).1.2.length:=by rw[(d[t / k]!).2.1];exact q2
   simp[List.getElem!_eq_getElem?_getD,ay,ab cn]
  ·simp only[World.frozen?,h1]
   rw[Bool.and_eq_false_iff,dc,dc]
   unfold RT.ok at hT
   show ¬T.fz.1≤t∨¬t<T.fz.2
   rcases hT with hT | hT<;>omega
 have ou:∀ (n:Nat) (dk:Array (Row I w c k)) (os:Array Obj) b o,I b o→(sortWorldK (fun r:Row I w c k=>r.1.2) k w blk off n dk os).cell? ⟨b,o,none⟩=w.cell? ⟨b,o,none⟩:=fun n dk os b o FH=>
  acm zp (hI b o FH) (fun e=>e7 o (e▸FH))
 have LK:∀ (m:Nat) (os:Array Obj) (dk:Array (Row I w c k)),dk.size=d.size→∀ x y:Row I w c k,Calls P g (#[ev x.1.2,ev y.1.2]++cb) (sortWorldK (fun r:Row I w c k=>r.1.2) k w blk off m dk os) fun e w'=>e=.returned (.int .i64 (cf x.1.1 y.1.1))∧∃ q os',w'=Go.Sort.grow ((sortWorldK (fun r:Row I w c k=>r.1.2) k w blk off m dk os).drewN q) os':=by
  intro m os dk hdk x y
  refine ((aaq x.1.1 y.1.1).2 I _ _ (fun b o h=>bW (hI b o h) G6) ahd (by simp[apW];omega) (fun j z hz=>?_)).mono ?_
  ·match j with
   |0=>
    simp only[dx,bJ,ai] at hz;subst hz
    have:(#[ev x.1.2,ev y.1.2]++cb).getD 0 undef=ev x.1.2:=by simp[ah,Array.getElem?_append]
    rw[this]
    exact Dp (fun _=>True) I β _ x.1.1 x.1.2 x.2.1 fun j z hz=>(x.2.2.2 j z hz).mono fun b o h=>⟨h,ou _ _ _ b o h⟩
   |1=>
    simp only[dx,bJ,ct,ai] at hz;subst hz
    have:(#[ev x.1.2,ev y.1.2]++cb).getD 1 undef=ev y.1.2:=by simp[ah,Array.getElem?_append]
    rw[this]
    exact Dp (fun _=>True) I β _ y.1.1 y.1.2 y.2.1 fun j z hz=>(y.2.2.2 j z hz).mono fun b o h=>⟨h,ou _ _ _ b o h⟩
   |j+2=>
    simp only[dx,dP,ct,ba] at hz
    obtain⟨z',nj,rfl⟩:=aU.1 hz
    have:(#[ev x.1.2,ev y.1.2]++cb).getD (j+2) undef=cb.getD j undef:=by
     simp only[ah,Array.getElem?_append]
     rw[if_neg (by simp)];rfl
    rw[this]
    exact .c _ _ ((apX j z' nj).mono fun b o h=>⟨h,ou _ _ _ b o h⟩)
  ·rintro e w' ⟨v,I',rfl,hgr,_,_,ob',hr,_⟩
   simp only[LR] at hr
   obtain⟨rfl,_⟩:=(DR.cr hr).lit_inv
   exact⟨rfl,JH (hgr.toB rfl)⟩
 have hO':SWO (ltOf fun x y:Row I w c k=>cf x.1.1 y.1.1):=⟨fun x=>hO.irrefl x.1.1,fun x y z=>hO.trans x.1.1 y.1.1 z.1.1,fun x y z=>hO.ntrans x.1.1 y.1.1 z.1.1⟩
 have agj:=akm I w cb blk off cap' d hO' LK hH zp (by rw[Z9];exact hl)
 rw[Z9] at agj
 refine agj.mono ?_
 rintro e w' ⟨rfl,d',n,os,⟨hp1,_,hp3⟩,hsd,rfl⟩
 have hd's:d'.size=l.length:=hp1.trans Z9
 have OD:d'.toList.map (·.1.1)=l':=by
  have p1:(d'.toList.map (·.1.1)).Perm l:=by
   rw[← apR]
   refine List.Perm.map _ ?_
   have x1:(d'.extract 0 l.length).toList=d'.toList:=by rw[← hd's];simp
   have x2:(d.extract 0 l.length).toList=d.toList:=by rw[← Z9];simp
   rw[x1,x2] at hp3;exact hp3
  refine qO (lt:=ltOf cf) (p1.trans hp.symm) (fun x hx y hy=>hu x (p1.mem_iff.1 hx) y (p1.mem_iff.1 hy)) ?_ hs
  rw[fN]
  intro i j hi hj hij
  have D6:i<d'.size:=by simpa using hi
  have Dm:j<d'.size:=by simpa using hj
  have:=hsd i j (au _) hij (by omega)
  rw[getElem!_pos d' i D6,getElem!_pos d' j Dm] at this
  simpa[ltOf] using this
 have HW:∀ i (hi:i<l'.length),(d'[i]!).1.1=l'[i]:=fun i hi=>by
  have D6:i<d'.size:=by omega
  have e:l'[i]=(d'.toList.map (·.1.1))[i]'(by simpa using D6):=by simp only[OD]
  rw[e,jt,Array.getElem_toList,getElem!_pos d' i D6]
 refine⟨.tuple #[],I,β,ob,none,rfl,⟨rfl,rfl,rfl,G6,fun q hq hM=>?_,fun _=>Nat.le_add_right _ _⟩,fun _ _ h=>h,fun _ _ h=>.inl h,fun b o h=>ou _ _ _ b o h,fun _ _=>rfl,fun i b hi hb=>?_,?_,?_,fun b hb=>by cases hb⟩
 ·refine JI zp hq (fun e=>?_)
  subst e
  rcases e2 with h | h
  ·omega
  ·exact hM h
 ·have:=hB.bnone i (by simpa using hi);rw[this] at hb;cases hb
 ·exact {
   bx:=fun i cs' jo=>by
    have hi:i=0:=by
     have:=(ae.1 jo).1;simp at this;exact this
    subst hi
    simp only[bJ,ai] at jo;subst jo
    have jG:(putCells id off (flatK (fun r:Row I w c k=>r.1.2) k d') cur).size=cur.size:=by simp[putCells]
    have oK:∀ t (ht:t<cur.size),(putCells id off (flatK (fun r:Row I w c k=>r.1.2) k d') cur).getD t undef=if off≤t∧t<off+l.length*k then(d'[(t - off) / k]!).1.2.getD ((t - off) % k) undef else cur.getD t undef:=fun t ht=>by
     rw[ah]
     simp only[putCells,Array.getElem?_mapIdx,ax ht,cD,cG,size_flatK,hd's,id]
     split
     ·rename_i hx
      rw[get_flatK _ _ _ _ (by rw[hd's];omega)]
      have cn:(t - off) % k<(d'[(t - off) / k]!).1.2.length:=by rw[(d'[(t - off) / k]!).2.1];exact kH _ k0
      simp[List.getElem!_eq_getElem?_getD,ay,ab cn]
     ·simp[ah,ht]
    refine⟨blk,_,e1,e2,.of (T:=T) (ack h1) (fun u hu=>?_) (by rw[jG];exact hT) gw,?_,fun j=>?_,e7⟩
    ·obtain⟨t,ht,rfl⟩:=Array.getElem_of_mem hu
     have ht':t<cur.size:=by rwa [jG] at ht
     have:=oK t ht'
     rw[ah,ax ht,cG] at this
     rw[this]
     by_cases hx:off≤t∧t<off+l.length*k
     ·rw[if_pos hx]
      have cn:(t - off) % k<(d'[(t - off) / k]!).1.2.length:=by rw[(d'[(t - off) / k]!).2.1];exact kH _ k0
      rw[ay,ab cn]
      exact(d'[(t - off) / k]!).2.2.1 _ (bM cn)
     ·rw[if_neg hx,ah,ax ht'];exact h2 _ (Array.getElem_mem ht')
    ·rw[jG,kg hk,hll];exact afo
    ·by_cases hj:j<l'.length*k
     ·have qY:0<l.length:=by rcases kL l.length with h | h;rw[hll,h] at hj;simp at hj;exact h
      have q1:j / k<l'.length:=Nat.div_lt_of_lt_mul (by rwa [kJ])
      have q2:j % k<k:=kH _ k0
      have q3:j / k*k+j % k=j:=by have:=Nat.div_add_mod j k;rw[kJ] at this;exact this
      have agk:=oK j (by rw[hll] at hj;omega)
      obtain rfl:=off0 qY
      rw[if_pos ⟨au _,by rw[hll] at hj;omega⟩,Nat.sub_zero] at agk
      rw[agk]
      have kU:=G7 hk l' (j / k) (j % k) q1 q2
      rw[q3] at kU
      have cn:j % k<(c l'[j / k]).length:=by rw[hk];exact q2
      rw[ab cn] at kU
      have hgd:(flb c l').getD j .un=.c ((c l'[j / k])[j % k]'cn):=by rw[ay,kU];rfl
      have hv:=HW _ q1
      rw[hgd]
      generalize d'[j / k]! = r at hv
      have hx:(c r.1.1)[j % k]?=some ((c l'[j / k])[j % k]'cn):=by rw[hv,ab cn]
      generalize (c l'[j / k])[j % k]'cn=x at hx
      have jn:=(r.2.2.2 (j % k) x hx).mono (w':=sortWorldK (fun r:Row I w c k=>r.1.2) k w blk 0 n d' os) fun b o h=>⟨h,ou n d' os b o h⟩
      simp only[LR]
      exact .c _ _ jn
     ·have:(flb c l').getD j .un=.un:=by
       rw[ay,bq (by rw[kg hk];omega)];rfl
      rw[this];simp only[LR];exact .un _
   bnone:=hB.bnone
   binj:=hB.binj
   oinj:=hB.oinj
   obx:=hB.obx
   obnd:=fun i j b h=>⟨bW (hB.obnd i j b h).1 G6,(hB.obnd i j b h).2⟩
   olen:=hB.olen }
 ·simp only[LR]
  exact .tup _ _ rfl fun j d hd=>by simp at hd
theorem JJ (L:SlLaysF0.n6 P ρ) (FI:∃ fn,P.funcs[ρ.f 6]?=some fn∧(fn.name== "runtime.NumGoroutine")=false∧∃ b,fn.body=some b) (aE:∀ w,(isAgg (ρ.t 24)).run P w=.ok true w) (zE:∀ w,(Go.sizeOf (ρ.t 24)).run P w=.ok k w) (hk:∀ x,(c x).length=k) (k0:0<k)
 (x0:α) (v0:List Value) (Uj:v0.length=k) (ho0:∀ v∈v0,v.oneCell'=true) (hx0:∀ I w j x,(c x0)[j]?=some x→CR I w (v0.getD j undef) x) (cf:α→α→Int) (hO:SWO (ltOf cf)) (g:Nat) (cs:List C)
 (eg:∀ args w,(callFunc g args).run P w=.ok (.enter g args) w) (aaq:∀ x y,FnOK P gl0 g ([.agg (c x),.agg (c y)]++cs.map .c) (.c (.lit (.int .i64 (cf x y)))))
 (l l':List α) (hl:l.length<4611686018427387904) (hp:l'.Perm l) (hs:l'.Pairwise fun x y=>ltOf cf y x=false) (hu:∀ x∈l,∀ y∈l,ltOf cf x y=false→ltOf cf y x=false→x=y) (cap:Nat) (ky:l.length≤cap) :
 FnB P G (ρ.f 6) [.ms 0 0 l.length cap k,.c (.fn (.func g) [] cs)] [flb c l] (.tup []) [flb c l']:=
 EL FI hk k0 cf hO g cs (fun vs=>.agg vs.toArray) (fun x=>.agg (c x)) (fun _ I _ w x vs hvs hr=>.agg _ _ (by simp[hvs,hk]) fun j z hz=>by
  simpa[ah,ay] using hr j z hz) aaq
  (fun I w cb blk off cap _ d hO' LK hH zp fC=>AnyQ.slices_SortFunc L k aE zE (fun r:Row I w c k=>r.1.2) (fun r=>r.2.1) (fun r=>r.2.2.1) (fun x y=>cf x.1.1 y.1.1) hO' g cb blk off cap d w eg LK hH zp fC) l l' (.inr ⟨x0,v0,Uj,ho0,hx0⟩) hl hp hs hu cap ky
theorem JK {α:Type} [Inhabited α] {encL:α→List Value} {enc:α→Value} (h:∀ a,encL a=[enc a]) (d:Array α) (t:Nat) (ht:t<d.size):(flatK encL 1 d)[t]! = enc d[t]! :=by
 rw[get_flatK _ _ _ _ (by omega),Nat.div_one,Nat.mod_one,h];rfl
theorem W7 {α:Type} [Inhabited α] {encL:α→List Value} {enc:α→Value} (h:∀ a,encL a=[enc a]) {w:World} {blk off m:Nat} {d:Array α} {os:Array Obj}:sortWorld enc w blk off m d os=sortWorldK encL 1 w blk off m d os:=by
 have e:putCells enc off d=putCells id off (flatK encL 1 d):=by
  funext c
  simp only[putCells,size_flatK,Nat.mul_one]
  congr 1
  funext k x
  split
  ·rename_i hk
   rw[id,JK h d (k - off) (by omega)]
  ·rfl
 simp only[sortWorld,sortWorldK,putRowK,putRow,e]
theorem Su {c1:α→C} (L:SlLaysF.n6 P ρ) (FI:∃ fn,P.funcs[ρ.f 6]?=some fn∧(fn.name== "runtime.NumGoroutine")=false∧∃ b,fn.body=some b)
 (cf:α→α→Int) (hO:SWO (ltOf cf)) (g:Nat) (cs:List C)
 (eg:∀ args w,(callFunc g args).run P w=.ok (.enter g args) w) (aaq:∀ x y,FnOK P gl0 g ([.c (c1 x),.c (c1 y)]++cs.map .c) (.c (.lit (.int .i64 (cf x y)))))
 (l l':List α) (gK:0<l.length) (hl:l.length<4611686018427387904) (hp:l'.Perm l) (hs:l'.Pairwise fun x y=>ltOf cf y x=false) (hu:∀ x∈l,∀ y∈l,ltOf cf x y=false→ltOf cf y x=false→x=y) (cap:Nat) (ky:l.length≤cap) :
 FnB P G (ρ.f 6) [.ms 0 0 l.length cap 1,.c (.fn (.func g) [] cs)] [flb (fun x=>[c1 x]) l] (.tup []) [flb (fun x=>[c1 x]) l']:=
 EL (c:=fun x=>[c1 x]) (k:=1) FI (fun _=>rfl) (by decide) cf hO g cs (fun vs=>vs.getD 0 undef) (fun x=>.c (c1 x)) (fun _ I _ w x vs hvs hr=>.c _ _ (hr 0 _ rfl)) aaq
  (fun I w cb blk off cap _ d hO' LK hH zp fC=>by
   have h1:∀ r:Row I w (fun x=>[c1 x]) 1,r.1.2=[r.1.2.getD 0 undef]:=fun r=>by
    have:=r.2.1
    match hq:r.1.2,this with
    |[v],_=>rfl
   have hm:=Any.slices_SortFunc L (fun r:Row I w (fun x=>[c1 x]) 1=>r.1.2.getD 0 undef) (fun r=>r.2.2.1 _ (by rw[h1 r];simp)) (fun x y=>cf x.1.1 y.1.1) hO' g cb blk off cap d w eg
    (fun m os dk hdk x y=>by rw[W7 h1];exact LK m os dk hdk x y)
    (fun j hj=>by
     have:=hH j (by simpa using hj)
     rw[JK h1 d j hj] at this
     exact this) zp fC
   refine hm.mono ?_
   rintro e w' ⟨he,d',n,os,hp,hs,hw⟩
   exact⟨he,d',n,os,hp,hs,by rw[hw,W7 h1]⟩) l l' (.inl gK) hl hp hs hu cap ky
theorem vO (L:SlLaysF0.n6 P ρ) (FI:∃ fn,P.funcs[ρ.f 6]?=some fn∧(fn.name== "runtime.NumGoroutine")=false∧∃ b,fn.body=some b) {x:C}:FnOK P G (ρ.f 6) [.c (.sl []),.c x] (.tup []):=by
 refine⟨FI,fun I w vs hI hg fC ha=>?_⟩
 have a0:=ha 0 _ rfl
 obtain⟨p,cap,hv⟩:∃ p cap,vs.getD 0 undef=.slice p 0 cap:=by
  rcases(DR.cr a0).sl_inv with⟨⟨a,cap,h,_⟩,_⟩ | ⟨b,off,cap,_,_,h,_⟩
  ·exact⟨_,_,h⟩
  ·exact⟨_,_,h⟩
 have hvs:vs=#[.slice p 0 cap,vs.getD 1 undef]:=by
  have fC:vs.size=2:=fC
  rw[← hv]
  apply mL (by simpa using fC)
  intro i FC D6
  have:i=0∨i=1:=by simp at D6;omega
  rcases this with rfl | rfl<;>simp[FC]
 rw[hvs]
 refine (AnyF.slices_SortFunc_none L p cap _ w).mono ?_
 rintro e w' ⟨rfl,rfl⟩
 exact⟨_,I,rfl,⟨rfl,rfl,rfl,ar _,fun _ _ _=>rfl,fun _=>ar _⟩,fun _ _ h=>h,fun _ _ h=>.inl h,none,.tup _ _ rfl fun j d hd=>by simp at hd,fun b hb=>by cases hb⟩
