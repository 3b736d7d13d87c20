/- Values without memory: slices.SortFunc at structs: the kit's contract as one of ours: a box's list becomes the sorted one. -/
import Derived.Shelf.SlSortCmp.NoneTotal
import Derived.Test.YtegbpjodbjhjeaaGreatDoorVlFlb
set_option linter.all false
namespace Go.Vl
open Go Go.RowKit Go.Sort Go.Proofs
def gl0:Gl:=λ_=>none
theorem acj {I:Ft} {w:World}:GOK gl0 I w:=λg cs h=>by unfold gat gl0 at h;split at h<;>cases h
theorem Ip {w w':World} (h:w.grb w' none):∃ q os,w'=Go.Sort.grow (w.drewN q) os:=by
 refine⟨w'.drawn - w.drawn,w'.heap.extract w.heap.size w'.heap.size,?_⟩;have e1:w'.heap=w.heap++w'.heap.extract w.heap.size w'.heap.size:=by
  apply Array.ext_getElem?;intro k;by_cases hk:k<w.heap.size
  .rw[ee hk,h.block k hk (by simp)]
  .rw[Array.getElem?_append_right (by omega),eS]
   by_cases hk2:k<w'.heap.size
   .rw[if_pos (by omega)];congr 1;omega
   .rw[if_neg (by omega),dx (by omega)]
 have e2:w'.drawn=w.drawn+(w'.drawn - w.drawn):=by have:=h.drawn;omega
 cases w with
 |mk heap tape drawn os out=>
 cases w' with
 |mk heap' tape' drawn' os' out'=>
 have h1:=h.os;have h2:=h.tape;have h3:=h.output;simp only at h1 h2 h3 e1 e2;subst h1 h2 h3;simp only[Go.Sort.grow,World.drewN,World.mk.injEq,ip,bX];exact⟨e1,e2⟩
section
variable {α:Type} [Inhabited α] {enc:α->List Value} {k:Nat} {w:World} {blk off m:Nat} {d:Array α} {os:Array Obj}
theorem Iq (h:blk<w.heap.size) {b:Nat} (hb:b<w.heap.size) (gu:b≠blk):(sortWorldK enc k w blk off m d os).heap[b]?=w.heap[b]?:=by simp only[sortWorldK,Go.Sort.grow,putRowK,putRow,mapBlock,Go.Sort.ahead];rw[ee (by simpa using hb),Array.getElem?_modify,if_neg (gz gu)]
theorem Yn {cur:Array Value} {T:TypeId} {fz:Nat×Nat} (h:w.heap[blk]?=some (.cells cur T fz)):(sortWorldK enc k w blk off m d os).heap[blk]?=some (.cells (putCells id off (flatK enc k d) cur) T fz):=by have hb:blk<w.heap.size:=(bq.1 h).1;simp only[sortWorldK,Go.Sort.grow,putRowK,putRow,mapBlock,Go.Sort.ahead];rw[ee (by simpa using hb),Array.getElem?_modify,if_pos rfl,h];rfl
theorem FH:w.heap.size<=(sortWorldK enc k w blk off m d os).heap.size:=size_sortWorldK_c enc k w blk off m d os
theorem Yo (h:blk<w.heap.size) {b o:Nat} (hb:b<w.heap.size) (gu:b≠blk):(sortWorldK enc k w blk off m d os).cell? ⟨b,o,none⟩=w.cell? ⟨b,o,none⟩:=eQ (Iq h hb gu)
end
theorem qF {α:Type} {lt:α->α->Bool}:∀ {l l':List α},l.Perm l'->(∀ x∈l,∀ y∈l,lt x y=false->lt y x=false->x=y)->l.Pairwise (λx y=>lt y x=false)->l'.Pairwise (λx y=>lt y x=false)->l=l'
 |[],l',h,_,_,_=>(List.nil_perm.1 h).symm
 |x::l,[],h,_,_,_=>by simp at h
 |x::l,y::l',h,hu,h1,h2=>by
  have hy:y∈x::l:=h.mem_iff.2 (aX ..);have hx:x∈y::l':=h.mem_iff.1 (aX ..);have e:x=y:=by
   rcases bI.1 hy with e | QF
   .exact e.symm
   .rcases bI.1 hx with e | GI
    .exact e
    .exact hu x (aX ..) y hy ((f8.1 h2).1 x GI) ((f8.1 h1).1 y QF)
  subst e;rw[qF (List.perm_cons x |>.1 h) (λa ha b hb=>hu a (aT _ ha) b (aT _ hb)) (f8.1 h1).2 (f8.1 h2).2]
theorem La {α:Type} {c:α->List C} {sz:Nat} (hc:∀ x,(c x).length=sz):∀ (l:List α) (i j:Nat) (hi:i<l.length),j<sz->(flb c l)[i*sz+j]?=((c l[i])[j]?).map V.c
 |[],i,_,hi,_=>absurd hi (Nat.not_lt_zero _)
 |x::l,0,j,_,hj=>by rw[tL,Nat.zero_mul,ao,aM (by rw[aj,hc];exact hj),bw];rfl
 |x::l,i+1,j,hi,hj=>by rw[tL,dy,Nat.one_mul,aU (by rw[aj,hc];omega),aj,hc];have:=La hc l i j (by simpa using hi) hj;rw[show i*sz+sz+j - sz=i*sz+j by omega,this];rfl
section
variable {P:Program} {G:Gl} {ρ:Go.Shelf.Ren} {α:Type} {c:α->List C} {k:Nat}
theorem DR.cr {I:Ft} {w:World} {v:Value} {x:C} (h:DR I w v (.c x)):CR I w v x:=by
 cases h with
 |c v x h=>exact h
abbrev Row (I:Ft) (w:World) (c:α->List C) (k:Nat):Type:={ p:α×List Value // p.2.length=k/\(∀ v∈p.2,v.oneCell'=true)/\∀ j x,(c p.1)[j]?=some x->CR I w (p.2.getD j undef) x }
set_option maxHeartbeats 4000000 in
theorem Ir (L:SlLaysF0.n6 P ρ) (hfn:∃ fn,P.funcs[ρ.f 6]?=some fn/\(fn.name== "runtime.NumGoroutine")=false/\∃ b,fn.body=some b) (aE:∀ w,(isAgg (ρ.t 24)).run P w=.ok true w) (zE:∀ w,(Go.sizeOf (ρ.t 24)).run P w=.ok k w) (hk:∀ x,(c x).length=k) (k0:0<k)
 (x0:α) (v0:List Value) (hv0:v0.length=k) (ho0:∀ v∈v0,v.oneCell'=true) (hx0:∀ I w j x,(c x0)[j]?=some x->CR I w (v0.getD j undef) x) (cf:α->α->Int) (hO:SWO (ltOf cf)) (g:Nat) (cs:List C)
 (eg:∀ args w,(callFunc g args).run P w=.ok (.enter g args) w) (akt:∀ x y,FnOK P gl0 g ([.agg (c x),.agg (c y)]++cs.map .c) (.c (.lit (.int .i64 (cf x y)))))
 (l l':List α) (hl:l.length<4611686018427387904) (hp:l'.Perm l) (hs:l'.Pairwise λx y=>ltOf cf y x=false) (hu:∀ x∈l,∀ y∈l,ltOf cf x y=false->ltOf cf y x=false->x=y) (cap:Nat) (lv:l.length<=cap) :
 FnB P G (ρ.f 6) [.ms 0 0 l.length cap k,.c (.fn (.func g) [] cs)] [flb c l] (.tup []) [flb c l']:=by
 have JU:l'.length=l.length:=hp.length_eq;refine⟨hfn,⟨?_,?_,ai _⟩,?_⟩
 .intro x hx
  simp only[bI,eK,kJ] at hx;rcases hx with rfl | rfl
  .exact Nat.zero_lt_one
  .trivial
 .intro b hb x hx
  simp only[bu] at hb;subst hb;unfold flb at hx;obtain⟨y,_,rfl⟩:=ce.1 hx;trivial
 intro I M w vs β ob hI hg hB ej ha;obtain⟨blk,cur,e1,e2,e3,e4,e5,e7⟩:=hB.bx 0 _ rfl;obtain⟨T,h1,h2,hT⟩:=e3.cells jn;have GN:blk<w.heap.size:=(bq.1 h1).1;have a0:=ha 0 _ rfl;have a1:=ha 1 _ rfl;simp only[LR] at a0;obtain⟨_,sj,off,cap',hc1,wj,ho,hv⟩:=a0;rw[e1] at wj;cases wj;have a1:DR I w (vs.getD 1 undef) (.c (.fn (.func g) [] cs)):=a1;obtain⟨cb,hcb,aku,akv⟩:∃ cb:Array Value,vs.getD 1 undef=.func (.func g) #[] cb/\cb.size=cs.length/\∀ j x,cs[j]?=some x->CR I w (cb.getD j undef) x:=by obtain⟨vf,vc,q1,q2,q3,_,q5⟩:=a1.cr.fn_inv;have:vf=#[]:=Array.eq_empty_of_size_eq_zero (by simpa using q2);subst this;exact⟨vc,q1,q3,q5⟩
 have QA:vs=#[.slice (some ⟨blk,off,none⟩) l.length cap',.func (.func g) #[] cb]:=by
  have ej:vs.size=2:=ej;rw[<- hv,<- hcb];apply j8 (by simpa using ej);intro i QU JE;have:i=0∨i=1:=by simp at JE;omega
  rcases this with rfl | rfl<;>simp[QU]
 subst QA;clear ha hv hcb a1 ej;have aeE:l.length*k<=cur.size:=by rw[kT hk] at e4;exact e4
 letI:Inhabited (Row I w c k):=⟨⟨(x0,v0),hv0,ho0,hx0 I w⟩⟩
 have CS:∀ i (hi:i<l.length),∃ r:Row I w c k,r.1.1=l[i]/\∀ j,j<k->cur[i*k+j]?=some (r.1.2.getD j undef):=λi hi=>by
  have hb:i*k+k<=l.length*k:=by have:=bf k (show i+1<=l.length from hi);rwa [dy,Nat.one_mul] at this
  refine⟨⟨(l[i],(List.range k).map λj=>cur.getD (i*k+j) undef),by simp,λv hv=>?_,λj x hx=>?_⟩,rfl,λj hj=>?_⟩
  .simp only[ce,df] at hv
   obtain⟨j,hj,rfl⟩:=hv;have bF:i*k+j<cur.size:=(by omega);rw[au,aF bF];exact h2 _ (Array.getElem_mem bF)
  .have hj:j<k:=by rw[<- hk l[i]];exact(am.1 hx).1
   have h3:=e5 (i*k+j);rw[aG,La hk l i j hi hj,hx] at h3;simp only[bQ,ba,LR] at h3;simp only[aG,bw,jV hj,bQ,ba];exact DR.cr h3
  .have bF:i*k+j<cur.size:=by omega
   simp only[aG,bw,jV hj,bQ,ba];rw[au,aF bF];rfl
 obtain⟨d,Z5,hd2⟩:∃ d:Array (Row I w c k),d.size=l.length/\∀ i (hi:i<l.length),(d[i]!).1.1=l[i]/\∀ j,j<k->cur[i*k+j]?=some ((d[i]!).1.2.getD j undef):=by
  refine⟨((List.range l.length).map λi=>if h:i<l.length then(CS i h).choose else default).toArray,by simp,λi hi=>?_⟩
  have:(((List.range l.length).map λi=>if h:i<l.length then(CS i h).choose else default).toArray)[i]! = (CS i hi).choose:=by rw[getElem!_pos _ i (by simpa using hi)];simp[hi]
  rw[this];exact(CS i hi).choose_spec
 have akq:d.toList.map (·.1.1)=l:=by
  apply List.ext_getElem (by simpa using Z5);intro i QU JE;have hi3:i<d.size:=by simpa using QU
  rw[List.getElem_map,Array.getElem_toList];have:=(hd2 i JE).1;rwa [getElem!_pos d i hi3] at this
 have off0:0<l.length->off=0:=λh=>by rcases ho with h' | h';omega;exact h'
 have hH:HoldsK (λr:Row I w c k=>r.1.2) k w blk off d:=by
  intro t ht;rw[size_flatK,Z5] at ht;have sg:0<l.length:=by rcases kz l.length with h | h;rw[h] at ht;simp at ht;exact h
  rw[off0 sg,ao];have q1:t / k<l.length:=Nat.div_lt_of_lt_mul (by rwa [Nat.mul_comm]);have q2:t % k<k:=lz _ k0;have q3:t / k*k+t % k=t:=by have:=Nat.div_add_mod t k;rw[Nat.mul_comm] at this;exact this
  have hc:=(hd2 _ q1).2 _ q2;rw[q3] at hc;have QQ:t<cur.size:=by omega
  rw[get_flatK _ _ _ _ (by rw[Z5];exact ht)];constructor
  .simp only[World.cell?,h1,aS,ay,cD]
   rw[hc];congr 1;have cH:t % k<(d[t / k]!).1.2.length:=(by rw[(d[t / k]!).2.1];exact q2);simp[List.getElem!_eq_getElem?_getD,aG,ak cH]
  .simp only[World.frozen?,h1]
   rw[Bool.and_eq_false_iff,cJ,cJ];unfold RT.ok at hT;show ¬T.fz.1<=t∨¬t<T.fz.2;rcases hT with hT | hT<;>omega
 have qu:∀ (n:Nat) (dk:Array (Row I w c k)) (os:Array Obj) b o,I b o->(sortWorldK (λr:Row I w c k=>r.1.2) k w blk off n dk os).cell? ⟨b,o,none⟩=w.cell? ⟨b,o,none⟩:=λn dk os b o xW=>
  Yo GN (hI b o xW) (λe=>e7 o (e▸xW))
 have ahD:CmpLays P g cb (λr:Row I w c k=>r.1.2) k (λx y=>cf x.1.1 y.1.1) blk off d.size w:=by
  intro m os dk hdk x y;refine ((akt x.1.1 y.1.1).2 I _ _ (λb o h=>co (hI b o h) FH) acj (by simp[aku];omega) (λj z hz=>?_)).mono ?_
  .match j with
   |0=>simp only[dP,bJ,ap] at hz;subst hz;have:(#[Value.agg x.1.2.toArray,Value.agg y.1.2.toArray]++cb).getD 0 undef=.agg x.1.2.toArray:=(by simp[au,Array.getElem?_append]);rw[this];refine .agg _ _ (by simp[x.2.1,hk]) λj z hz=>?_;have:=(x.2.2.2 j z hz).mono (w':=sortWorldK (λr:Row I w c k=>r.1.2) k w blk off m dk os) λb o h=>⟨h,qu _ _ _ b o h⟩;simpa[au,aG] using this
   |1=>simp only[dP,bJ,cU,ap] at hz;subst hz;have:(#[Value.agg x.1.2.toArray,Value.agg y.1.2.toArray]++cb).getD 1 undef=.agg y.1.2.toArray:=(by simp[au,Array.getElem?_append]);rw[this];refine .agg _ _ (by simp[y.2.1,hk]) λj z hz=>?_;have:=(y.2.2.2 j z hz).mono (w':=sortWorldK (λr:Row I w c k=>r.1.2) k w blk off m dk os) λb o h=>⟨h,qu _ _ _ b o h⟩;simpa[au,aG] using this
   |j+2=>simp only[dP,fZ,cU,bw] at hz;obtain⟨z',pd,rfl⟩:=aZ.1 hz;have:(#[Value.agg x.1.2.toArray,Value.agg y.1.2.toArray]++cb).getD (j+2) undef=cb.getD j undef:=(by simp only[au,Array.getElem?_append];rw[if_neg (by simp)];rfl);rw[this];exact .c _ _ ((akv j z' pd).mono λb o h=>⟨h,qu _ _ _ b o h⟩)
  .rintro e w' ⟨v,I',rfl,hgr,_,_,ob',hr,_⟩
   simp only[LR] at hr;obtain⟨rfl,_⟩:=(DR.cr hr).lit_inv;exact⟨rfl,Ip (hgr.toB rfl)⟩
 have hO':SWO (ltOf λx y:Row I w c k=>cf x.1.1 y.1.1):=⟨λx=>hO.irrefl x.1.1,λx y z=>hO.trans x.1.1 y.1.1 z.1.1,λx y z=>hO.ntrans x.1.1 y.1.1 z.1.1⟩;have abu:=AnyQ.slices_SortFunc L k aE zE (λr:Row I w c k=>r.1.2) (λr=>r.2.1) (λr=>r.2.2.1) (λx y=>cf x.1.1 y.1.1) hO' g cb blk off cap' d w eg ahD hH GN (by rw[Z5];exact hl);rw[Z5] at abu;refine abu.mono ?_;rintro e w' ⟨rfl,d',n,os,⟨hp1,_,hp3⟩,hsd,rfl⟩;have hd's:d'.size=l.length:=hp1.trans Z5;have JO:d'.toList.map (·.1.1)=l':=by
  have p1:(d'.toList.map (·.1.1)).Perm l:=by rw[<- akq];refine List.Perm.map _ ?_;have x1:(d'.extract 0 l.length).toList=d'.toList:=(by rw[<- hd's];simp);have x2:(d.extract 0 l.length).toList=d.toList:=(by rw[<- Z5];simp);rw[x1,x2] at hp3;exact hp3
  refine qF (lt:=ltOf cf) (p1.trans hp.symm) (λx hx y hy=>hu x (p1.mem_iff.1 hx) y (p1.mem_iff.1 hy)) ?_ hs;rw[List.pairwise_iff_getElem];intro i j hi hj hij;have JE:i<d'.size:=by simpa using hi
  have WO:j<d'.size:=by simpa using hj
  have:=hsd i j (ar _) hij (by omega);rw[getElem!_pos d' i JE,getElem!_pos d' j WO] at this;simpa[ltOf] using this
 have we:∀ i (hi:i<l'.length),(d'[i]!).1.1=l'[i]:=λi hi=>by
  have JE:i<d'.size:=by omega
  have e:l'[i]=(d'.toList.map (·.1.1))[i]'(by simpa using JE):=by simp only[JO]
  rw[e,List.getElem_map,Array.getElem_toList,getElem!_pos d' i JE]
 refine⟨.tuple #[],I,β,ob,none,rfl,⟨rfl,rfl,rfl,FH,λq hq hM=>?_,λ_=>Nat.le_add_right _ _⟩,λ_ _ h=>h,λ_ _ h=>.inl h,λb o h=>qu _ _ _ b o h,λ_ _=>rfl,λi b hi hb=>?_,?_,?_,λb hb=>by cases hb⟩
 .refine Iq GN hq (λe=>?_)
  subst e;rcases e2 with h | h
  .omega
  .exact hM h
 .have:=hB.bnone i (by simpa using hi);rw[this] at hb;cases hb
 .exact {
   bx:=λi cs' ju=>by
    have hi:i=0:=(by have:=(am.1 ju).1;simp at this;exact this);subst hi;simp only[bJ,ap] at ju;subst ju;have iU:(putCells id off (flatK (λr:Row I w c k=>r.1.2) k d') cur).size=cur.size:=(by simp[putCells]);have ng:∀ t (ht:t<cur.size),(putCells id off (flatK (λr:Row I w c k=>r.1.2) k d') cur).getD t undef=if off<=t/\t<off+l.length*k then(d'[(t - off) / k]!).1.2.getD ((t - off) % k) undef else cur.getD t undef:=λt ht=>by
     rw[au];simp only[putCells,Array.getElem?_mapIdx,aF ht,bQ,ba,size_flatK,hd's,id];split
     .rename_i hx
      rw[get_flatK _ _ _ _ (by rw[hd's];omega)];have cH:(t - off) % k<(d'[(t - off) / k]!).1.2.length:=(by rw[(d'[(t - off) / k]!).2.1];exact lz _ k0);simp[List.getElem!_eq_getElem?_getD,aG,ak cH]
     .simp[au,ht]
    refine⟨blk,_,e1,e2,.of (T:=T) (Yn h1) (λu hu=>?_) (by rw[iU];exact hT) jn,?_,λj=>?_,e7⟩
    .obtain⟨t,ht,rfl⟩:=Array.getElem_of_mem hu
     have ht':t<cur.size:=(by rwa [iU] at ht);have:=ng t ht';rw[au,aF ht,ba] at this;rw[this];by_cases hx:off<=t/\t<off+l.length*k
     .rw[if_pos hx]
      have cH:(t - off) % k<(d'[(t - off) / k]!).1.2.length:=(by rw[(d'[(t - off) / k]!).2.1];exact lz _ k0);rw[aG,ak cH];exact(d'[(t - off) / k]!).2.2.1 _ (aH cH)
     .rw[if_neg hx,au,aF ht'];exact h2 _ (Array.getElem_mem ht')
    .rw[iU,kT hk,JU];exact aeE
    .by_cases hj:j<l'.length*k
     .have sg:0<l.length:=by rcases kz l.length with h | h;rw[JU,h] at hj;simp at hj;exact h
      have q1:j / k<l'.length:=Nat.div_lt_of_lt_mul (by rwa [Nat.mul_comm]);have q2:j % k<k:=lz _ k0;have q3:j / k*k+j % k=j:=(by have:=Nat.div_add_mod j k;rw[Nat.mul_comm] at this;exact this);have abv:=ng j (by rw[JU] at hj;omega);obtain rfl:=off0 sg;rw[if_pos ⟨ar _,by rw[JU] at hj;omega⟩,lF] at abv;rw[abv];have nq:=La hk l' (j / k) (j % k) q1 q2;rw[q3] at nq;have cH:j % k<(c l'[j / k]).length:=(by rw[hk];exact q2);rw[ak cH] at nq;have CX:(flb c l').getD j .un=.c ((c l'[j / k])[j % k]'cH):=(by rw[aG,nq];rfl);have hv:=we _ q1;rw[CX];generalize d'[j / k]! = r at hv;have hx:(c r.1.1)[j % k]?=some ((c l'[j / k])[j % k]'cH):=(by rw[hv,ak cH]);generalize (c l'[j / k])[j % k]'cH=x at hx;have ka:=(r.2.2.2 (j % k) x hx).mono (w':=sortWorldK (λr:Row I w c k=>r.1.2) k w blk 0 n d' os) λb o h=>⟨h,qu n d' os b o h⟩;simp only[LR];exact .c _ _ ka
     .have:(flb c l').getD j .un=.un:=by rw[aG,cE (by rw[kT hk];omega)];rfl
      rw[this];simp only[LR];exact .un _
   bnone:=hB.bnone
   binj:=hB.binj
   oinj:=hB.oinj
   obx:=hB.obx
   obnd:=λi j b h=>⟨co (hB.obnd i j b h).1 FH,(hB.obnd i j b h).2⟩
   olen:=hB.olen }
 .simp only[LR]
  exact .tup _ _ rfl λj d hd=>by simp at hd
theorem vb (L:SlLaysF0.n6 P ρ) (hfn:∃ fn,P.funcs[ρ.f 6]?=some fn/\(fn.name== "runtime.NumGoroutine")=false/\∃ b,fn.body=some b) {x:C}:FnOK P G (ρ.f 6) [.c (.sl []),.c x] (.tup []):=by
 refine⟨hfn,λI w vs hI hg ej ha=>?_⟩;have a0:=ha 0 _ rfl;obtain⟨p,cap,hv⟩:∃ p cap,vs.getD 0 undef=.slice p 0 cap:=by
  rcases(DR.cr a0).sl_inv with⟨⟨a,cap,h,_⟩,_⟩ | ⟨b,off,cap,_,_,h,_⟩
  .exact⟨_,_,h⟩
  .exact⟨_,_,h⟩
 have QA:vs=#[.slice p 0 cap,vs.getD 1 undef]:=by
  have ej:vs.size=2:=ej;rw[<- hv];apply j8 (by simpa using ej);intro i QU JE;have:i=0∨i=1:=by simp at JE;omega
  rcases this with rfl | rfl<;>simp[QU]
 rw[QA];refine (AnyF.slices_SortFunc_none L p cap _ w).mono ?_;rintro e w' ⟨rfl,rfl⟩;exact⟨_,I,rfl,⟨rfl,rfl,rfl,ai _,λ_ _ _=>rfl,λ_=>ai _⟩,λ_ _ h=>h,λ_ _ h=>.inl h,none,.tup _ _ rfl λj d hd=>by simp at hd,λb hb=>by cases hb⟩
