/- Values without memory: slices.SortFunc at structs: the kit's contract as one of ours: a box's list becomes the sorted one. -/
import Derived.Shelf.SlSortCmp.NoneTotal
import Derived.Test.YtloppcgcepgbnaaGreatDoorVlFlb
set_option linter.all false
namespace Go.Vl
open Go Go.RowKit Go.Sort Go.Proofs
def gl0:Gl:=λ_=>none
theorem afQ {I:Ft} {w:World}:GOK gl0 I w:=λg cs h=>by unfold gat gl0 at h;split at h<;>cases h
theorem JY {w w':World} (h:w.grb w' none):∃ q os,w'=Go.Sort.grow (w.drewN q) os:=by
 refine⟨w'.drawn - w.drawn,w'.heap.extract w.heap.size w'.heap.size,?_⟩;have e1:w'.heap=w.heap++w'.heap.extract w.heap.size w'.heap.size:=by
  apply Array.ext_getElem?;intro k;by_cases hk:k<w.heap.size
  .rw[fe hk,h.block k hk (by simp)]
  .rw[Array.getElem?_append_right (by omega),dC]
   by_cases hk2:k<w'.heap.size
   .rw[if_pos (by omega)];congr 1;omega
   .rw[if_neg (by omega),dc (by omega)]
 have e2:w'.drawn=w.drawn+(w'.drawn - w.drawn):=by have:=h.drawn;omega
 cases w with
 |mk heap tape drawn os out=>
 cases w' with
 |mk heap' tape' drawn' os' out'=>
 have h1:=h.os;have h2:=h.tape;have h3:=h.output;simp only at h1 h2 h3 e1 e2;subst h1 h2 h3;simp only[Go.Sort.grow,World.drewN,World.mk.injEq,gC,iM];exact⟨e1,e2⟩
section
variable {α:Type} [Inhabited α] {enc:α->List Value} {k:Nat} {w:World} {blk off m:Nat} {d:Array α} {os:Array Obj}
theorem JZ (h:blk<w.heap.size) {b:Nat} (hb:b<w.heap.size) (gY:b≠blk):(sortWorldK enc k w blk off m d os).heap[b]?=w.heap[b]?:=by simp only[sortWorldK,Go.Sort.grow,putRowK,putRow,mapBlock,Go.Sort.ahead];rw[fe (by simpa using hb),Array.getElem?_modify,if_neg (gZ gY)]
theorem abE {cur:Array Value} {T:TypeId} {fz:Nat×Nat} (h:w.heap[blk]?=some (.cells cur T fz)):(sortWorldK enc k w blk off m d os).heap[blk]?=some (.cells (putCells id off (flatK enc k d) cur) T fz):=by have hb:blk<w.heap.size:=(bf.1 h).1;simp only[sortWorldK,Go.Sort.grow,putRowK,putRow,mapBlock,Go.Sort.ahead];rw[fe (by simpa using hb),Array.getElem?_modify,if_pos rfl,h];rfl
theorem HD:w.heap.size<=(sortWorldK enc k w blk off m d os).heap.size:=size_sortWorldK_c enc k w blk off m d os
theorem abG (h:blk<w.heap.size) {b o:Nat} (hb:b<w.heap.size) (gY:b≠blk):(sortWorldK enc k w blk off m d os).cell? ⟨b,o,none⟩=w.cell? ⟨b,o,none⟩:=dP (JZ h hb gY)
end
theorem re {α:Type} {lt:α->α->Bool}:∀ {l l':List α},l.Perm l'->(∀ x∈l,∀ y∈l,lt x y=false->lt y x=false->x=y)->l.Pairwise (λx y=>lt y x=false)->l'.Pairwise (λx y=>lt y x=false)->l=l'
 |[],l',h,_,_,_=>(List.nil_perm.1 h).symm
 |x::l,[],h,_,_,_=>by simp at h
 |x::l,y::l',h,hu,h1,h2=>by
  have hy:y∈x::l:=h.mem_iff.2 (bJ ..);have hx:x∈y::l':=h.mem_iff.1 (bJ ..);have e:x=y:=by
   rcases aP.1 hy with e | Ux
   .exact e.symm
   .rcases aP.1 hx with e | DY
    .exact e
    .exact hu x (bJ ..) y hy ((kR.1 h2).1 x DY) ((kR.1 h1).1 y Ux)
  subst e;rw[re (List.perm_cons x |>.1 h) (λa ha b hb=>hu a (aT _ ha) b (aT _ hb)) (kR.1 h1).2 (kR.1 h2).2]
theorem NK {α:Type} {c:α->List C} {sz:Nat} (hc:∀ x,(c x).length=sz):∀ (l:List α) (i j:Nat) (hi:i<l.length),j<sz->(flb c l)[i*sz+j]?=((c l[i])[j]?).map V.c
 |[],i,_,hi,_=>absurd hi (gf _)
 |x::l,0,j,_,hj=>by rw[uc,Nat.zero_mul,aF,aA (by rw[au,hc];exact hj),bj];rfl
 |x::l,i+1,j,hi,hj=>by rw[uc,da,nf,aH (by rw[au,hc];omega),au,hc];have:=NK hc l i j (by simpa using hi) hj;rw[show i*sz+sz+j - sz=i*sz+j by omega,this];rfl
section
variable {P:Program} {G:Gl} {ρ:Go.Shelf.Ren} {α:Type} {c:α->List C} {k:Nat}
theorem DR.cr {I:Ft} {w:World} {v:Value} {x:C} (h:DR I w v (.c x)):CR I w v x:=by
 cases h with
 |c v x h=>exact h
abbrev Row (I:Ft) (w:World) (c:α->List C) (k:Nat):Type:={ p:α×List Value // p.2.length=k/\(∀ v∈p.2,v.oneCell'=true)/\∀ j x,(c p.1)[j]?=some x->CR I w (p.2.getD j undef) x }
set_option maxHeartbeats 4000000 in
theorem Ff (Mc:∃ fn,P.funcs[ρ.f 6]?=some fn/\(fn.name== "runtime.NumGoroutine")=false/\∃ b,fn.body=some b) (hk:∀ x,(c x).length=k) (k0:0<k)
 (cf:α->α->Int) (hO:SWO (ltOf cf)) (g:Nat) (cs:List C)
 (ev:List Value->Value) (cv:α->V) (D8:∀ (base:Nat->Prop) (I:Ft) (β:Nat->Option Nat) (w:World) (x:α) (vs:List Value),vs.length=k->(∀ j z,(c x)[j]?=some z->CR I w (vs.getD j undef) z)->DR I w (ev vs) (cv x))
 (Z0:∀ x y,FnOK P gl0 g ([cv x,cv y]++cs.map .c) (.c (.lit (.int .i64 (cf x y)))))
 (aiC:∀ (I:Ft) (w:World) (cb:Array Value) (blk off cap:Nat) [Inhabited (Row I w c k)] (d:Array (Row I w c k)),SWO (ltOf λx y:Row I w c k=>cf x.1.1 y.1.1)->
  (∀ (m:Nat) (os:Array Obj) (dk:Array (Row I w c k)),dk.size=d.size->∀ x y:Row I w c k,Calls P g (#[ev x.1.2,ev y.1.2]++cb) (sortWorldK (λr:Row I w c k=>r.1.2) k w blk off m dk os) λe w'=>e=.returned (.int .i64 (cf x.1.1 y.1.1))/\∃ q os',w'=Go.Sort.grow ((sortWorldK (λr:Row I w c k=>r.1.2) k w blk off m dk os).drewN q) os')->
  HoldsK (λr:Row I w c k=>r.1.2) k w blk off d->blk<w.heap.size->d.size<4611686018427387904->
  Calls P (ρ.f 6) #[.slice (some ⟨blk,off,none⟩) d.size cap,.func (.func g) #[] cb] w λe w'=>e=.returned (.tuple #[])/\∃ d' n os,PermIn 0 d.size d d'/\SortedIn (ltOf λx y:Row I w c k=>cf x.1.1 y.1.1) 0 d.size d'/\w'=sortWorldK (λr:Row I w c k=>r.1.2) k w blk off n d' os)
 (l l':List α) (anK:0<l.length∨∃ (x0:α) (v0:List Value),v0.length=k/\(∀ v∈v0,v.oneCell'=true)/\∀ I w j x,(c x0)[j]?=some x->CR I w (v0.getD j undef) x) (hl:l.length<4611686018427387904) (hp:l'.Perm l) (hs:l'.Pairwise λx y=>ltOf cf y x=false) (hu:∀ x∈l,∀ y∈l,ltOf cf x y=false->ltOf cf y x=false->x=y) (cap:Nat) (kX:l.length<=cap) :
 FnB P G (ρ.f 6) [.ms 0 0 l.length cap k,.c (.fn (.func g) [] cs)] [flb c l] (.tup []) [flb c l']:=by
 have LW:l'.length=l.length:=hp.length_eq;refine⟨Mc,⟨?_,?_,ab _⟩,?_⟩
 .intro x hx
  simp only[aP,aZ,cR] at hx;rcases hx with rfl | rfl
  .exact Nat.zero_lt_one
  .trivial
 .intro b hb x hx
  simp only[aX] at hb;subst hb;unfold flb at hx;obtain⟨y,_,rfl⟩:=bU.1 hx;trivial
 intro I M w vs β ob hI hg hB fO ha;obtain⟨blk,cur,e1,e2,e3,e4,e5,e7⟩:=hB.bx 0 _ rfl;obtain⟨T,h1,h2,hT⟩:=e3.cells jb;have zF:blk<w.heap.size:=(bf.1 h1).1;have a0:=ha 0 _ rfl;have a1:=ha 1 _ rfl;simp only[LR] at a0;obtain⟨_,sN,off,cap',vo,yI,ho,hv⟩:=a0;rw[e1] at yI;cases yI;have a1:DR I w (vs.getD 1 undef) (.c (.fn (.func g) [] cs)):=a1;obtain⟨cb,hcb,anN,anO⟩:∃ cb:Array Value,vs.getD 1 undef=.func (.func g) #[] cb/\cb.size=cs.length/\∀ j x,cs[j]?=some x->CR I w (cb.getD j undef) x:=by obtain⟨vf,vc,q1,q2,q3,_,q5⟩:=a1.cr.fn_inv;have:vf=#[]:=Array.eq_empty_of_size_eq_zero (by simpa using q2);subst this;exact⟨vc,q1,q3,q5⟩
 have hvs:vs=#[.slice (some ⟨blk,off,none⟩) l.length cap',.func (.func g) #[] cb]:=by
  have fO:vs.size=2:=fO;rw[<- hv,<- hcb];apply nc (by simpa using fO);intro i Gg LL;have:i=0∨i=1:=by simp at LL;omega
  rcases this with rfl | rfl<;>simp[Gg]
 subst hvs;clear ha hv hcb a1 fO;have aiw:l.length*k<=cur.size:=by rw[lV hk] at e4;exact e4
 have zD:∀ i (hi:i<l.length),∃ r:Row I w c k,r.1.1=l[i]/\∀ j,j<k->cur[i*k+j]?=some (r.1.2.getD j undef):=λi hi=>by
  have hb:i*k+k<=l.length*k:=by have:=aO k (show i+1<=l.length from hi);rwa [da,nf] at this
  refine⟨⟨(l[i],(List.range k).map λj=>cur.getD (i*k+j) undef),by simp,λv hv=>?_,λj x hx=>?_⟩,rfl,λj hj=>?_⟩
  .simp only[bU,c9] at hv
   obtain⟨j,hj,rfl⟩:=hv;have bE:i*k+j<cur.size:=(by omega);rw[ak,ax bE];exact h2 _ (Array.getElem_mem bE)
  .have hj:j<k:=by rw[<- hk l[i]];exact(aj.1 hx).1
   have h3:=e5 (i*k+j);rw[aB,NK hk l i j hi hj,hx] at h3;simp only[cT,cV,LR] at h3;simp only[aB,bj,ji hj,cT,cV];exact DR.cr h3
  .have bE:i*k+j<cur.size:=by omega
   simp only[aB,bj,ji hj,cT,cV];rw[ak,ax bE];rfl
 have gY:Nonempty (Row I w c k):=by
  rcases anK with h | ⟨x0,v0,Uy,ho0,hx0⟩
  .exact⟨(zD 0 h).choose⟩
  .exact⟨⟨(x0,v0),Uy,ho0,hx0 I w⟩⟩
 letI:Inhabited (Row I w c k):=⟨Classical.choice gY⟩
 obtain⟨d,ZJ,hd2⟩:∃ d:Array (Row I w c k),d.size=l.length/\∀ i (hi:i<l.length),(d[i]!).1.1=l[i]/\∀ j,j<k->cur[i*k+j]?=some ((d[i]!).1.2.getD j undef):=by
  refine⟨((List.range l.length).map λi=>if h:i<l.length then(zD i h).choose else default).toArray,by simp,λi hi=>?_⟩
  have:(((List.range l.length).map λi=>if h:i<l.length then(zD i h).choose else default).toArray)[i]! = (zD i hi).choose:=by rw[getElem!_pos _ i (by simpa using hi)];simp[hi]
  rw[this];exact(zD i hi).choose_spec
 have anI:d.toList.map (·.1.1)=l:=by
  apply List.ext_getElem (by simpa using ZJ);intro i Gg LL;have hi3:i<d.size:=by simpa using Gg
  rw[List.getElem_map,Array.getElem_toList];have:=(hd2 i LL).1;rwa [getElem!_pos d i hi3] at this
 have off0:0<l.length->off=0:=λh=>by rcases ho with h' | h';omega;exact h'
 have hH:HoldsK (λr:Row I w c k=>r.1.2) k w blk off d:=by
  intro t ht;rw[size_flatK,ZJ] at ht;have wX:0<l.length:=by rcases kN l.length with h | h;rw[h] at ht;simp at ht;exact h
  rw[off0 wX,aF];have q1:t / k<l.length:=Nat.div_lt_of_lt_mul (by rwa [kM]);have q2:t % k<k:=Nat.mod_lt _ k0;have q3:t / k*k+t % k=t:=by have:=Nat.div_add_mod t k;rw[kM] at this;exact this
  have hc:=(hd2 _ q1).2 _ q2;rw[q3] at hc;have Qr:t<cur.size:=by omega
  rw[get_flatK _ _ _ _ (by rw[ZJ];exact ht)];constructor
  .simp only[World.cell?,h1,Option.isSome_none,aM,df]
   rw[hc];congr 1;have cj:t % k<(d[t / k]!).1.2.length:=(by rw[(d[t / k]!).2.1];exact q2);simp[List.getElem!_eq_getElem?_getD,aB,ai cj]
  .simp only[World.frozen?,h1]
   rw[Bool.and_eq_false_iff,dq,dq];unfold RT.ok at hT;show ¬T.fz.1<=t∨¬t<T.fz.2;rcases hT with hT | hT<;>omega
 have oK:∀ (n:Nat) (dk:Array (Row I w c k)) (os:Array Obj) b o,I b o->(sortWorldK (λr:Row I w c k=>r.1.2) k w blk off n dk os).cell? ⟨b,o,none⟩=w.cell? ⟨b,o,none⟩:=λn dk os b o Gi=>
  abG zF (hI b o Gi) (λe=>e7 o (e▸Gi))
 have LX:∀ (m:Nat) (os:Array Obj) (dk:Array (Row I w c k)),dk.size=d.size->∀ x y:Row I w c k,Calls P g (#[ev x.1.2,ev y.1.2]++cb) (sortWorldK (λr:Row I w c k=>r.1.2) k w blk off m dk os) λe w'=>e=.returned (.int .i64 (cf x.1.1 y.1.1))/\∃ q os',w'=Go.Sort.grow ((sortWorldK (λr:Row I w c k=>r.1.2) k w blk off m dk os).drewN q) os':=by
  intro m os dk hdk x y;refine ((Z0 x.1.1 y.1.1).2 I _ _ (λb o h=>cu (hI b o h) HD) afQ (by simp[anN];omega) (λj z hz=>?_)).mono ?_
  .match j with
   |0=>simp only[dE,bQ,ao] at hz;subst hz;have:(#[ev x.1.2,ev y.1.2]++cb).getD 0 undef=ev x.1.2:=(by simp[ak,Array.getElem?_append]);rw[this];exact D8 (λ_=>True) I β _ x.1.1 x.1.2 x.2.1 λj z hz=>(x.2.2.2 j z hz).mono λb o h=>⟨h,oK _ _ _ b o h⟩
   |1=>simp only[dE,bQ,cB,ao] at hz;subst hz;have:(#[ev x.1.2,ev y.1.2]++cb).getD 1 undef=ev y.1.2:=(by simp[ak,Array.getElem?_append]);rw[this];exact D8 (λ_=>True) I β _ y.1.1 y.1.2 y.2.1 λj z hz=>(y.2.2.2 j z hz).mono λb o h=>⟨h,oK _ _ _ b o h⟩
   |j+2=>simp only[dE,eu,cB,bj] at hz;obtain⟨z',mE,rfl⟩:=aV.1 hz;have:(#[ev x.1.2,ev y.1.2]++cb).getD (j+2) undef=cb.getD j undef:=(by simp only[ak,Array.getElem?_append];rw[if_neg (by simp)];rfl);rw[this];exact .c _ _ ((anO j z' mE).mono λb o h=>⟨h,oK _ _ _ b o h⟩)
  .rintro e w' ⟨v,I',rfl,hgr,_,_,ob',hr,_⟩
   simp only[LR] at hr;obtain⟨rfl,_⟩:=(DR.cr hr).lit_inv;exact⟨rfl,JY (hgr.toB rfl)⟩
 have hO':SWO (ltOf λx y:Row I w c k=>cf x.1.1 y.1.1):=⟨λx=>hO.irrefl x.1.1,λx y z=>hO.trans x.1.1 y.1.1 z.1.1,λx y z=>hO.ntrans x.1.1 y.1.1 z.1.1⟩;have aeW:=aiC I w cb blk off cap' d hO' LX hH zF (by rw[ZJ];exact hl);rw[ZJ] at aeW;refine aeW.mono ?_;rintro e w' ⟨rfl,d',n,os,⟨hp1,_,hp3⟩,hsd,rfl⟩;have hd's:d'.size=l.length:=hp1.trans ZJ;have OM:d'.toList.map (·.1.1)=l':=by
  have p1:(d'.toList.map (·.1.1)).Perm l:=by rw[<- anI];refine List.Perm.map _ ?_;have x1:(d'.extract 0 l.length).toList=d'.toList:=(by rw[<- hd's];simp);have x2:(d.extract 0 l.length).toList=d.toList:=(by rw[<- ZJ];simp);rw[x1,x2] at hp3;exact hp3
  refine re (lt:=ltOf cf) (p1.trans hp.symm) (λx hx y hy=>hu x (p1.mem_iff.1 hx) y (p1.mem_iff.1 hy)) ?_ hs;rw[hJ];intro i j hi hj hij;have LL:i<d'.size:=by simpa using hi
  have Gj:j<d'.size:=by simpa using hj
  have:=hsd i j (ar _) hij (by omega);rw[getElem!_pos d' i LL,getElem!_pos d' j Gj] at this;simpa[ltOf] using this
 have Ir:∀ i (hi:i<l'.length),(d'[i]!).1.1=l'[i]:=λi hi=>by
  have LL:i<d'.size:=by omega
  have e:l'[i]=(d'.toList.map (·.1.1))[i]'(by simpa using LL):=by simp only[OM]
  rw[e,List.getElem_map,Array.getElem_toList,getElem!_pos d' i LL]
 refine⟨.tuple #[],I,β,ob,none,rfl,⟨rfl,rfl,rfl,HD,λq hq hM=>?_,λ_=>Nat.le_add_right _ _⟩,λ_ _ h=>h,λ_ _ h=>.inl h,λb o h=>oK _ _ _ b o h,λ_ _=>rfl,λi b hi hb=>?_,?_,?_,λb hb=>by cases hb⟩
 .refine JZ zF hq (λe=>?_)
  subst e;rcases e2 with h | h
  .omega
  .exact hM h
 .have:=hB.bnone i (by simpa using hi);rw[this] at hb;cases hb
 .exact {
   bx:=λi cs' jf=>by
    have hi:i=0:=(by have:=(aj.1 jf).1;simp at this;exact this);subst hi;simp only[bQ,ao] at jf;subst jf;have jK:(putCells id off (flatK (λr:Row I w c k=>r.1.2) k d') cur).size=cur.size:=(by simp[putCells]);have qk:∀ t (ht:t<cur.size),(putCells id off (flatK (λr:Row I w c k=>r.1.2) k d') cur).getD t undef=if off<=t/\t<off+l.length*k then(d'[(t - off) / k]!).1.2.getD ((t - off) % k) undef else cur.getD t undef:=λt ht=>by
     rw[ak];simp only[putCells,Array.getElem?_mapIdx,ax ht,cT,cV,size_flatK,hd's,id];split
     .rename_i hx
      rw[get_flatK _ _ _ _ (by rw[hd's];omega)];have cj:(t - off) % k<(d'[(t - off) / k]!).1.2.length:=(by rw[(d'[(t - off) / k]!).2.1];exact Nat.mod_lt _ k0);simp[List.getElem!_eq_getElem?_getD,aB,ai cj]
     .simp[ak,ht]
    refine⟨blk,_,e1,e2,.of (T:=T) (abE h1) (λu hu=>?_) (by rw[jK];exact hT) jb,?_,λj=>?_,e7⟩
    .obtain⟨t,ht,rfl⟩:=Array.getElem_of_mem hu
     have ht':t<cur.size:=(by rwa [jK] at ht);have:=qk t ht';rw[ak,ax ht,cV] at this;rw[this];by_cases hx:off<=t/\t<off+l.length*k
     .rw[if_pos hx]
      have cj:(t - off) % k<(d'[(t - off) / k]!).1.2.length:=(by rw[(d'[(t - off) / k]!).2.1];exact Nat.mod_lt _ k0);rw[aB,ai cj];exact(d'[(t - off) / k]!).2.2.1 _ (bR cj)
     .rw[if_neg hx,ak,ax ht'];exact h2 _ (Array.getElem_mem ht')
    .rw[jK,lV hk,LW];exact aiw
    .by_cases hj:j<l'.length*k
     .have wX:0<l.length:=by rcases kN l.length with h | h;rw[LW,h] at hj;simp at hj;exact h
      have q1:j / k<l'.length:=Nat.div_lt_of_lt_mul (by rwa [kM]);have q2:j % k<k:=Nat.mod_lt _ k0;have q3:j / k*k+j % k=j:=(by have:=Nat.div_add_mod j k;rw[kM] at this;exact this);have aeX:=qk j (by rw[LW] at hj;omega);obtain rfl:=off0 wX;rw[if_pos ⟨ar _,by rw[LW] at hj;omega⟩,Nat.sub_zero] at aeX;rw[aeX];have lu:=NK hk l' (j / k) (j % k) q1 q2;rw[q3] at lu;have cj:j % k<(c l'[j / k]).length:=(by rw[hk];exact q2);rw[ai cj] at lu;have hgd:(flb c l').getD j .un=.c ((c l'[j / k])[j % k]'cj):=(by rw[aB,lu];rfl);have hv:=Ir _ q1;rw[hgd];generalize d'[j / k]! = r at hv;have hx:(c r.1.1)[j % k]?=some ((c l'[j / k])[j % k]'cj):=(by rw[hv,ai cj]);generalize (c l'[j / k])[j % k]'cj=x at hx;have jq:=(r.2.2.2 (j % k) x hx).mono (w':=sortWorldK (λr:Row I w c k=>r.1.2) k w blk 0 n d' os) λb o h=>⟨h,oK n d' os b o h⟩;simp only[LR];exact .c _ _ jq
     .have:(flb c l').getD j .un=.un:=by rw[aB,bG (by rw[lV hk];omega)];rfl
      rw[this];simp only[LR];exact .un _
   bnone:=hB.bnone
   binj:=hB.binj
   oinj:=hB.oinj
   obx:=hB.obx
   obnd:=λi j b h=>⟨cu (hB.obnd i j b h).1 HD,(hB.obnd i j b h).2⟩
   olen:=hB.olen }
 .simp only[LR]
  exact .tup _ _ rfl λj d hd=>by simp at hd
theorem J0 (L:SlLaysF0.n6 P ρ) (Mc:∃ fn,P.funcs[ρ.f 6]?=some fn/\(fn.name== "runtime.NumGoroutine")=false/\∃ b,fn.body=some b) (aE:∀ w,(isAgg (ρ.t 24)).run P w=.ok true w) (zE:∀ w,(Go.sizeOf (ρ.t 24)).run P w=.ok k w) (hk:∀ x,(c x).length=k) (k0:0<k)
 (x0:α) (v0:List Value) (Uy:v0.length=k) (ho0:∀ v∈v0,v.oneCell'=true) (hx0:∀ I w j x,(c x0)[j]?=some x->CR I w (v0.getD j undef) x) (cf:α->α->Int) (hO:SWO (ltOf cf)) (g:Nat) (cs:List C)
 (eg:∀ args w,(callFunc g args).run P w=.ok (.enter g args) w) (Z0:∀ x y,FnOK P gl0 g ([.agg (c x),.agg (c y)]++cs.map .c) (.c (.lit (.int .i64 (cf x y)))))
 (l l':List α) (hl:l.length<4611686018427387904) (hp:l'.Perm l) (hs:l'.Pairwise λx y=>ltOf cf y x=false) (hu:∀ x∈l,∀ y∈l,ltOf cf x y=false->ltOf cf y x=false->x=y) (cap:Nat) (kX:l.length<=cap) :
 FnB P G (ρ.f 6) [.ms 0 0 l.length cap k,.c (.fn (.func g) [] cs)] [flb c l] (.tup []) [flb c l']:=
 Ff Mc hk k0 cf hO g cs (λvs=>.agg vs.toArray) (λx=>.agg (c x)) (λ_ I _ w x vs hvs hr=>.agg _ _ (by simp[hvs,hk]) λj z hz=>by
  simpa[ak,aB] using hr j z hz) Z0
  (λI w cb blk off cap _ d hO' LX hH zF fO=>AnyQ.slices_SortFunc L k aE zE (λr:Row I w c k=>r.1.2) (λr=>r.2.1) (λr=>r.2.2.1) (λx y=>cf x.1.1 y.1.1) hO' g cb blk off cap d w eg LX hH zF fO) l l' (.inr ⟨x0,v0,Uy,ho0,hx0⟩) hl hp hs hu cap kX
theorem J1 {α:Type} [Inhabited α] {encL:α->List Value} {enc:α->Value} (h:∀ a,encL a=[enc a]) (d:Array α) (t:Nat) (ht:t<d.size):(flatK encL 1 d)[t]! = enc d[t]! :=by rw[get_flatK _ _ _ _ (by omega),Nat.div_one,Nat.mod_one,h];rfl
theorem W0 {α:Type} [Inhabited α] {encL:α->List Value} {enc:α->Value} (h:∀ a,encL a=[enc a]) {w:World} {blk off m:Nat} {d:Array α} {os:Array Obj}:sortWorld enc w blk off m d os=sortWorldK encL 1 w blk off m d os:=by
 have e:putCells enc off d=putCells id off (flatK encL 1 d):=by
  funext c;simp only[putCells,size_flatK,Nat.mul_one];congr 1;funext k x;split
  .rename_i hk
   rw[id,J1 h d (k - off) (by omega)]
  .rfl
 simp only[sortWorld,sortWorldK,putRowK,putRow,e]
theorem SC {c1:α->C} (L:SlLaysF.n6 P ρ) (Mc:∃ fn,P.funcs[ρ.f 6]?=some fn/\(fn.name== "runtime.NumGoroutine")=false/\∃ b,fn.body=some b)
 (cf:α->α->Int) (hO:SWO (ltOf cf)) (g:Nat) (cs:List C)
 (eg:∀ args w,(callFunc g args).run P w=.ok (.enter g args) w) (Z0:∀ x y,FnOK P gl0 g ([.c (c1 x),.c (c1 y)]++cs.map .c) (.c (.lit (.int .i64 (cf x y)))))
 (l l':List α) (gY:0<l.length) (hl:l.length<4611686018427387904) (hp:l'.Perm l) (hs:l'.Pairwise λx y=>ltOf cf y x=false) (hu:∀ x∈l,∀ y∈l,ltOf cf x y=false->ltOf cf y x=false->x=y) (cap:Nat) (kX:l.length<=cap) :
 FnB P G (ρ.f 6) [.ms 0 0 l.length cap 1,.c (.fn (.func g) [] cs)] [flb (λx=>[c1 x]) l] (.tup []) [flb (λx=>[c1 x]) l']:=
 Ff (c:=λx=>[c1 x]) (k:=1) Mc (λ_=>rfl) (by decide) cf hO g cs (λvs=>vs.getD 0 undef) (λx=>.c (c1 x)) (λ_ I _ w x vs hvs hr=>.c _ _ (hr 0 _ rfl)) Z0
  (λI w cb blk off cap _ d hO' LX hH zF fO=>by
   have h1:∀ r:Row I w (λx=>[c1 x]) 1,r.1.2=[r.1.2.getD 0 undef]:=λr=>by
    have:=r.2.1
    match hq:r.1.2,this with
    |[v],_=>rfl
   have hm:=Any.slices_SortFunc L (λr:Row I w (λx=>[c1 x]) 1=>r.1.2.getD 0 undef) (λr=>r.2.2.1 _ (by rw[h1 r];simp)) (λx y=>cf x.1.1 y.1.1) hO' g cb blk off cap d w eg
    (λm os dk hdk x y=>by rw[W0 h1];exact LX m os dk hdk x y)
    (λj hj=>by have:=hH j (by simpa using hj);rw[J1 h1 d j hj] at this;exact this) zF fO
   refine hm.mono ?_;rintro e w' ⟨he,d',n,os,hp,hs,hw⟩;exact⟨he,d',n,os,hp,hs,by rw[hw,W0 h1]⟩) l l' (.inl gY) hl hp hs hu cap kX
theorem vP (L:SlLaysF0.n6 P ρ) (Mc:∃ fn,P.funcs[ρ.f 6]?=some fn/\(fn.name== "runtime.NumGoroutine")=false/\∃ b,fn.body=some b) {x:C}:FnOK P G (ρ.f 6) [.c (.sl []),.c x] (.tup []):=by
 refine⟨Mc,λI w vs hI hg fO ha=>?_⟩;have a0:=ha 0 _ rfl;obtain⟨p,cap,hv⟩:∃ p cap,vs.getD 0 undef=.slice p 0 cap:=by
  rcases(DR.cr a0).sl_inv with⟨⟨a,cap,h,_⟩,_⟩ | ⟨b,off,cap,_,_,h,_⟩
  .exact⟨_,_,h⟩
  .exact⟨_,_,h⟩
 have hvs:vs=#[.slice p 0 cap,vs.getD 1 undef]:=by
  have fO:vs.size=2:=fO;rw[<- hv];apply nc (by simpa using fO);intro i Gg LL;have:i=0∨i=1:=by simp at LL;omega
  rcases this with rfl | rfl<;>simp[Gg]
 rw[hvs];refine (AnyF.slices_SortFunc_none L p cap _ w).mono ?_;rintro e w' ⟨rfl,rfl⟩;exact⟨_,I,rfl,⟨rfl,rfl,rfl,ab _,λ_ _ _=>rfl,λ_=>ab _⟩,λ_ _ h=>h,λ_ _ h=>.inl h,none,.tup _ _ rfl λj d hd=>by simp at hd,λb hb=>by cases hb⟩
