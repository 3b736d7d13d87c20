/- Values without memory: from what a law's arguments read as to values, and from a contract to the law's row. -/
import Derived.Test.YtloppcgcepgbnaaGreatDoorVlRunB
import Derived.Test.YtloppcgcepgbnaaGreatDoorVlWord
import Derived.ProofKit
import Derived.LaidMore
import Derived.Stop.Joined
import Derived.Deep.Slices
set_option linter.all false
namespace Go.Vl
open Go Go.RowKit Go.ChangeShapes
section
variable {H:Type} {enc:TypeId×Value->H} {P:Program} {w:World} {base:Nat} {spare:Nat->Bool}
def su (P:Program):List (Nat×TypeId)->Nat->Nat->Bool
 |[],off,tot=>decide (off=tot)
 |(o,t)::r,off,tot=>decide (o=off)&&su P r (off+P.cellsOf t) tot
def xY (P:Program) (m:Nat) (e:TypeId):List (Nat×TypeId):=(List.range m).map λi=>(i*P.cellsOf e,e)
def wI (P:Program) (L:List TypeId):Bool:=L.all λt=>match P.underlying t with
 |some .bool | some (.int _) | some .string=>true
 |some (.slice e)=>L.contains e&&decide (P.cellsOf e≠0)
 |some (.struct fs)=>fs.toList.all (λf=>L.contains f.type)&&su P (fs.toList.map λf=>(f.offset,f.type)) 0 (P.cellsOf t)
 |some (.array m e)=>L.contains e&&su P (xY P m e) 0 (P.cellsOf t)
 |_=>false
def Shp (P:Program):Nat->TypeId->List C->Prop
 |0,_,_=>False
 |n+1,t,xs=>match P.underlying t with
  |some .bool=>∃ b,xs=[.lit (.bool b)]
  |some (.int k)=>∃ m,xs=[.lit (.int k m)]/\(Lit.int k m).wf=true
  |some .string=>∃ s,xs=[.lit (.string s)]/\s.size<=maxLen
  |some (.slice e)=>∃ es,xs=[.sl es]/\es.length<=maxLen/\∀ x∈es,x.length=P.cellsOf e/\Shp P n e x
  |some (.struct fs)=>xs.length=P.cellsOf t/\∀ f∈fs.toList,Shp P n f.type ((xs.drop f.offset).take (P.cellsOf f.type))
  |some (.array m e)=>xs.length=P.cellsOf t/\∀ i,i<m->Shp P n e ((xs.drop (i*P.cellsOf e)).take (P.cellsOf e))
  |_=>False
def CM (w:World):Ft:=λb _=>b<w.heap.size
def CsR (w:World) (cs:List Value) (xs:List C):Prop:=xs.length=cs.length/\∀ (j:Nat) (v:Value) (x:C),cs[j]?=some v->xs[j]?=some x->CR (CM w) w v x
theorem CsR.one {v:Value} {x:C} (h:CR (CM w) w v x):CsR w [v] [x]:=⟨rfl,λj u y hu hy=>by
 cases j with
 |zero=>simp at hu hy;subst hu;subst hy;exact h
 |succ j=>simp at hu⟩
theorem CsR.append {a b:List Value} {x y:List C} (h:CsR w a x) (k:CsR w b y):CsR w (a++b) (x++y):=by
 refine⟨by simp[h.1,k.1],λj v c hv hc=>?_⟩;by_cases hj:j<a.length
 .rw[aA hj] at hv
  rw[aA (by rw[h.1];exact hj)] at hc;exact h.2 j v c hv hc
 .rw[aH (by omega)] at hv
  rw[aH (by rw[h.1];omega),h.1] at hc;exact k.2 _ v c hv hc
theorem Fj:∀ {ps:List (Nat×TypeId)} {off tot:Nat},su P ps off tot=true->off<=tot/\∀ p∈ps,off<=p.1/\p.1+P.cellsOf p.2<=tot
 |[],off,tot,h=>by simp only[su,bF] at h;exact⟨by omega,by simp⟩
 |(o,t)::r,off,tot,h=>by
  simp only[su,aW,bF] at h;obtain⟨h1,h2⟩:=Fj h.2;refine⟨by omega,λp hp=>?_⟩;rcases aP.1 hp with rfl | hp
  .exact⟨by omega,by simp only;omega⟩
  .have:=h2 p hp;exact⟨by omega,this.2⟩
theorem zb {n:Nat}:∀ (ps:List (Nat×TypeId)) (pc:List (List C)) (off:Nat) (cs:List Value),su P ps off cs.length=true->pc.length=ps.length->
 (∀ (i:Nat) (p:Nat×TypeId) (x:List C),ps[i]?=some p->pc[i]?=some x->CsR w ((cs.drop p.1).take (P.cellsOf p.2)) x/\Shp P n p.2 x)->
 CsR w (cs.drop off) pc.flatten/\∀ p∈ps,Shp P n p.2 ((pc.flatten.drop (p.1 - off)).take (P.cellsOf p.2))
 |[],[],off,cs,hc,_,_=>by simp only[su,bF] at hc;exact⟨⟨by simp[hc],λj v x hv hx=>by simp at hx⟩,by simp⟩
 |(o,t)::r,xf::pc,off,cs,hc,OM,h=>by
  have EA:=hc;simp only[su,aW,bF] at hc;obtain⟨rfl,hc⟩:=hc;obtain⟨hl,eF⟩:=Fj hc;obtain⟨h1,h2⟩:=zb r pc _ cs hc (by simpa using OM) (λi p x hp hx=>h (i+1) p x (by simpa using hp) (by simpa using hx));obtain⟨h3,h4⟩:=h 0 (o,t) xf rfl rfl;simp only at h3 h4;have cj:xf.length=P.cellsOf t:=by rw[h3.1];simp;omega
  simp only[cF];refine⟨?_,λp hp=>?_⟩
  .have:cs.drop o=(cs.drop o).take (P.cellsOf t)++cs.drop (o+P.cellsOf t):=by rw[<- fG,du]
   rw[this];exact h3.append h1
  .rcases aP.1 hp with rfl | hp
   .simp only[Nat.sub_self,ct]
    rw[<- cj,List.take_left];exact h4
   .have h5:=eF p hp
    have h6:=h2 p hp;have e:(xf++pc.flatten).drop (p.1 - o)=pc.flatten.drop (p.1 - (o+P.cellsOf t)):=(by rw[List.drop_append,List.drop_eq_nil_of_le (by omega),eu,cj];congr 1;omega);rw[e];exact h6
 |[],_::_,_,_,_,h,_=>by simp at h
 |_::_,[],_,_,_,h,_=>by simp at h
mutual
def vA {H:Type}:DataW H->Option (List C)
 | .lit (.bool b)=>some [.lit (.bool b)]
 | .lit (.int k n)=>some [.lit (.int k n)]
 | .lit (.string s)=>some [.lit (.string ⟨s.toArray⟩)]
 | .nil=>some [.sl []]
 | .slice es _=>match CN es with
  |some l=>some [.sl l]
  |none=>none
 | .agg ds=>match CN ds with
  |some l=>some l.flatten
  |none=>none
 |_=>none
def CN {H:Type}:List (DataW H)->Option (List (List C))
 |[]=>some []
 |d::r=>match vA d,CN r with
  |some a,some b=>some (a::b)
  |_,_=>none
end
theorem xZ {H:Type}:∀ {ds:List (DataW H)} {es:List (List C)},es.length=ds.length->(∀ (i:Nat) (d:DataW H) (x:List C),ds[i]?=some d->es[i]?=some x->vA d=some x)->CN ds=some es
 |[],[],_,_=>by unfold CN;rfl
 |d::ds,e::es,hl,h=>by have h1:=h 0 d e rfl rfl;have h2:=xZ (ds:=ds) (es:=es) (by simpa using hl) λi d x hd hx=>h (i+1) d x (by simpa using hd) (by simpa using hx);unfold CN;rw[h1,h2]
 |[],_::_,hl,_=>by simp at hl
 |_::_,[],hl,_=>by simp at hl
theorem Fo {a:Addr} {v:Value} (h:w.cell? a=some v):a.spot=none/\a.block<w.heap.size:=by
 unfold World.cell? at h;split at h
 .rename_i c t f hh
  refine⟨?_,(bf.1 hh).1⟩;split at h
  .cases h
  .rename_i hs;simpa using hs
 .cases h
theorem HH {α:Type} {R:Nat->α->Prop}:∀ (n:Nat),(∀ i,i<n->∃ y,R i y)->∃ l:List α,l.length=n/\∀ i y,l[i]?=some y->R i y
 |0,_=>⟨[],rfl,by simp⟩
 |n+1,h=>by
  obtain⟨l,h1,h2⟩:=HH n λi hi=>h i (by omega);obtain⟨y,hy⟩:=h n (by omega);refine⟨l++[y],by simp[h1],λi z hz=>?_⟩;by_cases hi:i<l.length
  .rw[aA hi] at hz;exact h2 i z hz
  .rw[aH (by omega)] at hz
   have:i - l.length=0:=(by have:=(aj.1 hz).1;simp at this;omega);rw[this] at hz;simp at hz;have e:i=n:=(by omega);subst hz;rw[e];exact hy
theorem Ae {L:List TypeId} (hL:wI P L=true) {OW:Bool}:∀ (n:Nat) (t:TypeId) (cs:List Value) (x:DataW H×List MemPlace),t∈L->DataW.trod enc P w base spare OW n t cs=some x->
 ∃ xs,CsR w cs xs/\Shp P n t xs/\vA x.1=some xs:=by
 intro n;induction n with
 |zero=>intro t cs x _ h;cases h
 |succ n ih=>
  intro t cs x ht h;have hp:=aY.1 hL t ht;unfold DataW.trod at h;unfold Shp;cases hu:P.underlying t with
  |none=>rw[hu] at hp;cases hp
  |some d=>
   rw[hu] at hp h;cases d<;>simp only at hp h<;>try (cases hp;done)
   case bool=>
    split at h<;>first | (cases h;done) | skip
    all_goals (rename_i hd;simp only[ao,reduceCtorEq] at hd)
    simp only[ao] at h;subst h;exact⟨_,.one (.lit _ rfl),⟨_,rfl⟩,by simp[vA]⟩
   case int k=>
    split at h<;>first | (cases h;done) | skip
    all_goals (rename_i hd;simp only[ao,reduceCtorEq,TypeDesc.int.injEq] at hd)
    subst hd;split at h
    .rename_i hk
     obtain⟨rfl,hw⟩:=hk;simp only[ao] at h;subst h;exact⟨_,.one (.lit _ rfl),⟨_,rfl,hw⟩,by simp[vA]⟩
    .cases h
   case string=>
    split at h<;>first | (cases h;done) | skip
    all_goals (rename_i hd;simp only[ao,reduceCtorEq] at hd)
    split at h
    .rename_i hs
     simp only[ao] at h;subst h;exact⟨_,.one (.lit _ rfl),⟨_,rfl,hs⟩,by simp[vA]⟩
    .cases h
   case slice e=>
    simp only[aW,iQ,bF] at hp;split at h<;>first | (cases h;done) | skip
    all_goals (rename_i hd;simp only[ao,reduceCtorEq,TypeDesc.slice.injEq] at hd)
    .simp only[ao] at h;subst h
     exact⟨_,.one (.nil none 0 (λ_=>rfl)),⟨_,rfl,by simp,by simp⟩,by simp[vA]⟩
    .subst hd
     rename_i a len cap;split at h
     .rename_i hb
      obtain⟨hb1,hb2,hb3⟩:=hb;simp only[iS] at h;obtain⟨elems,Qo,hx⟩:=h;have hxe:∃ rest,x.1=.slice (elems.map (·.1)) rest:=(by simp only[aV] at hx;obtain⟨rest,_,rfl⟩:=hx;exact⟨_,rfl⟩);obtain⟨rest,hxe⟩:=hxe;rw[hxe];have alM:elems.length=len:=(by have:=List.mapM_eq_some_length Qo;simpa using this);by_cases h0:len=0
      .subst h0
       have:elems=[]:=dx alM;subst this;exact⟨[.sl []],.one (.nil (some a) cap (λh=>by cases h)),⟨[],rfl,by simp,by simp⟩,by simp[vA,CN]⟩
      have key:∀ i,i<len->∃ xs:List C,∃ cs',w.cells? base (a.add (i*P.cellsOf e)) (P.cellsOf e)=some cs'/\CsR w cs' xs/\Shp P n e xs/\∀ y,elems[i]?=some y->vA y.1=some xs:=λi hi=>by obtain⟨i',sQ,hy⟩:=List.mapM_eq_some_get Qo i _ (ai (show i<elems.length by omega));rw[ji hi,ao] at sQ;subst sQ;generalize hye:elems[i]=y at hy;simp only[iS] at hy;obtain⟨cs',h1,h2⟩:=hy;obtain⟨xs,h3,h4,h5⟩:=ih e cs' y hp.1 h2;refine⟨xs,cs',h1,h3,h4,λy' Ux=>?_⟩;rw[ai (show i<elems.length by omega),hye,ao] at Ux;subst Ux;exact h5
      obtain⟨es,px,hR⟩:=HH len key;have fO:0<P.cellsOf e:=Nat.pos_of_ne_zero hp.2;have cellAt:∀ i j,i<len->j<P.cellsOf e->∃ v,w.cell? ((a.add (i*P.cellsOf e)).add j)=some v:=λi j hi hj=>by obtain⟨xs,cs',h1,_⟩:=key i hi;obtain⟨_,h5,h6⟩:=World.cells?_some h1;rw[h6 j hj];exact⟨_,ai (by omega)⟩
      obtain⟨v0,Uy⟩:=cellAt 0 0 (by omega) fO;have hs0:=Fo Uy;obtain⟨b,off,spot⟩:=a;simp only[Nat.zero_mul,Addr.add,cZ] at hs0;obtain⟨rfl,OP⟩:=hs0;refine⟨[.sl es],.one ?_,⟨es,rfl,by omega,λx hx=>?_⟩,?_⟩
      .have:=CR.sl (I:=CM w) (w:=w) b off cap (P.cellsOf e) es (λi j=>(w.cell? ⟨b,off+i*P.cellsOf e+j,none⟩).getD undef) (by omega) (λx hx=>by
        obtain⟨i,hi,rfl⟩:=iN.1 hx;obtain⟨cs',h1,h2,_⟩:=hR i _ (ai hi);rw[h2.1,(World.cells?_some h1).2.1]) (λi j hi hj=>by
        obtain⟨v,hv⟩:=cellAt i j (by omega) hj;rw[cY,cY] at hv;exact⟨by rw[hv];rfl,OP⟩) (λi j x c hx hc=>by
        obtain⟨cs',h1,h2,_⟩:=hR i _ hx;obtain⟨_,h5,h6⟩:=World.cells?_some h1;have hj:j<P.cellsOf e:=(by have:=(aj.1 hc).1;rw[h2.1,h5] at this;exact this);have h7:=h6 j hj;rw[cY,cY] at h7;simp only[h7,ai (show j<cs'.length by omega),cV];exact h2.2 j _ c (ai (by omega)) hc)
       rw[px] at this;exact this
      .obtain⟨i,hi,rfl⟩:=iN.1 hx
       obtain⟨cs',h1,h2,h3,_⟩:=hR i _ (ai hi);exact⟨by rw[h2.1,(World.cells?_some h1).2.1],h3⟩
      .have:=xZ (ds:=elems.map (·.1)) (es:=es) (by simp[px,alM]) (λi d x hd hx=>by simp only[bj,aV] at hd;obtain⟨y,hy,rfl⟩:=hd;obtain⟨_,_,_,_,h5⟩:=hR i x hx;exact h5 y hy)
       simp only[vA,this]
     .cases h
   case struct fs=>
    simp only[aW,aY,iQ,bF] at hp;split at h
    .rename_i hl
     simp only[aV] at h;obtain⟨ys,uG,rfl⟩:=h;have hyl:ys.length=fs.toList.length:=List.mapM_eq_some_length uG;obtain⟨pc,LJ,hpc⟩:=HH (R:=λi (x:List C)=>∀ f,fs.toList[i]?=some f->(CsR w ((cs.drop f.offset).take (P.cellsOf f.type)) x/\Shp P n f.type x)/\∀ y,ys[i]?=some y->vA y.1=some x) fs.toList.length (λi hi=>by obtain⟨f,hf,hy⟩:=List.mapM_eq_some_get uG i _ (ai (show i<ys.length by omega));obtain⟨x,h3,h4,h5⟩:=ih f.type _ _ (hp.1 f (aS hf)) hy;refine⟨x,λf' IC=>?_⟩;rw[hf,ao] at IC;subst IC;refine⟨⟨h3,h4⟩,λy Ux=>?_⟩;rw[ai (show i<ys.length by omega),ao] at Ux;subst Ux;exact h5);obtain⟨h1,h2⟩:=zb (w:=w) (n:=n) (fs.toList.map λf=>(f.offset,f.type)) pc 0 cs (by rw[hl];exact hp.2) (by simp[LJ]) (λi p x hp' hx=>by simp only[bj,aV] at hp';obtain⟨f,hf,rfl⟩:=hp';exact(hpc i x hx f hf).1);rw[ct] at h1;refine⟨pc.flatten,h1,⟨by rw[h1.1,hl],λf hf=>?_⟩,?_⟩
     .have:=h2 (f.offset,f.type) (bU.2 ⟨f,hf,rfl⟩)
      simpa using this
     .have:=xZ (ds:=ys.map (·.1)) (es:=pc) (by simp[LJ,hyl]) (λi d x hd hx=>by simp only[bj,aV] at hd;obtain⟨y,hy,rfl⟩:=hd;have hi:i<fs.toList.length:=(by have:=(aj.1 hx).1;omega);exact(hpc i x hx _ (ai hi)).2 y hy)
      simp only[vA,this]
    .cases h
   case array m e=>
    simp only[aW,iQ,bF] at hp;split at h
    .rename_i hl
     simp only[aV] at h;obtain⟨ys,uG,rfl⟩:=h;have hyl:ys.length=m:=(by have:=List.mapM_eq_some_length uG;simpa using this);obtain⟨pc,LJ,hpc⟩:=HH (R:=λi (x:List C)=>(CsR w ((cs.drop (i*P.cellsOf e)).take (P.cellsOf e)) x/\Shp P n e x)/\∀ y,ys[i]?=some y->vA y.1=some x) m (λi hi=>by obtain⟨i',sQ,hy⟩:=List.mapM_eq_some_get uG i _ (ai (show i<ys.length by omega));rw[ji hi,ao] at sQ;subst sQ;obtain⟨x,h3,h4,h5⟩:=ih e _ _ hp.1 hy;refine⟨x,⟨h3,h4⟩,λy Ux=>?_⟩;rw[ai (show i<ys.length by omega),ao] at Ux;subst Ux;exact h5);obtain⟨h1,h2⟩:=zb (w:=w) (n:=n) (xY P m e) pc 0 cs (by rw[hl];exact hp.2) (by simp[LJ,xY]) (λi p x hp' hx=>by unfold xY at hp';simp only[bj,aV] at hp';obtain⟨i',sQ,rfl⟩:=hp';have hi:i<m:=(by have:=(aj.1 sQ).1;simpa using this);rw[ji hi,ao] at sQ;subst sQ;exact(hpc i x hx).1);rw[ct] at h1;refine⟨pc.flatten,h1,⟨by rw[h1.1,hl],λi hi=>?_⟩,?_⟩
     .have:=h2 (i*P.cellsOf e,e) (bU.2 ⟨i,c9.2 hi,rfl⟩)
      simpa using this
     .have:=xZ (ds:=ys.map (·.1)) (es:=pc) (by simp[LJ,hyl]) (λi d x hd hx=>by simp only[bj,aV] at hd;obtain⟨y,hy,rfl⟩:=hd;exact(hpc i x hx).2 y hy)
      simp only[vA,this]
    .cases h
def x7 (P:Program) (t:TypeId) (xs:List C):V:=if dh P t then .agg xs else .c (xs.getD 0 default)
theorem abJ:∀ {n:Nat} {t:TypeId} {xs:List C},Shp P n t xs->dh P t=false->∃ x,xs=[x]
 |0,_,_,h,_=>h.elim
 |n+1,t,xs,h,ha=>by
  unfold Shp at h;unfold dh at ha;split at h
  .obtain⟨b,rfl⟩:=h;exact⟨_,rfl⟩
  .obtain⟨b,rfl,_⟩:=h;exact⟨_,rfl⟩
  .obtain⟨b,rfl,_⟩:=h;exact⟨_,rfl⟩
  .obtain⟨b,rfl,_⟩:=h;exact⟨_,rfl⟩
  .rename_i hu;rw[hu] at ha;cases ha
  .rename_i hu;rw[hu] at ha;cases ha
  .exact h.elim
theorem abK {L:List TypeId} (hL:wI P L=true) {OW:Bool} {t:TypeId} {v:Value} {d:DataW H} {p:List MemPlace} (ht:t∈L) (h:DataW.Trod enc P w base spare OW t v d p) {b:Nat} (eH:Value.okWide P w .any b t v) :
 ∃ n xs,Shp P n t xs/\DR (CM w) w v (x7 P t xs):=by
 obtain⟨n,h⟩:=h;obtain⟨xs,h1,h2,_⟩:=Ae hL n t _ _ ht h;refine⟨n,xs,h2,?_⟩;unfold x7;by_cases ha:dh P t=true
 .rw[if_pos ha]
  have:∃ cs,v=.agg cs:=by
   unfold dh at ha;unfold Value.okWide at eH;split at ha
   .rename_i hu;rw[hu] at eH;obtain⟨cs,e,_⟩:=eH;exact⟨cs,e⟩
   .rename_i hu;rw[hu] at eH;obtain⟨cs,e,_⟩:=eH;exact⟨cs,e⟩
   .cases ha
  obtain⟨cs,rfl⟩:=this;simp only[Value.cells] at h1;refine .agg cs xs (by rw[h1.1];simp) λj c hc=>?_;have hj:j<cs.size:=by have:=(aj.1 hc).1;rw[h1.1] at this;simpa using this
  have:=h1.2 j cs[j] c (by simp[hj]) hc;simpa[hj] using this
 .have ha:dh P t=false:=by simpa using ha
  rw[if_neg (by simp[ha])];obtain⟨x,rfl⟩:=abJ h2 ha;have hl:=h1.1;simp only[aC,aG,aF] at hl;have hv:v.cells=#[v]:=by
   cases v<;>try rfl
   rename_i cs;simp only[Value.cells] at h1 hl;exfalso;unfold Value.okWide at eH;unfold dh at ha;split at eH
   .rename_i hu;rw[hu] at ha;cases ha
   .rename_i hu;rw[hu] at ha;cases ha
   .rename_i n1 n2
    unfold Shp at h2;cases n with
    |zero=>exact h2
    |succ n=>
     simp only at h2;unfold Cell.okWide Cell.ok at eH;cases hu:P.underlying t with
     |none=>rw[hu] at h2;exact h2
     |some dd=>rw[hu] at eH h2;cases dd<;>simp_all
  rw[hv] at h1;exact .c v x (h1.2 0 v x (by simp) rfl)
def x8 (P:Program):List TypeId->List V->Prop
 |[],[]=>True
 |t::ts,x::xs=>(∃ n cs,Shp P n t cs/\x=x7 P t cs)/\x8 P ts xs
 |_,_=>False
theorem J7 {L:List TypeId} (hL:wI P L=true) {OW:Bool} {b:Nat}:∀ (ts:List TypeId) (vs:List Value) (ds:List (DataW H)) (p:List MemPlace),(∀ t∈ts,t∈L)->DataW.TrodAll enc P w base spare OW ts vs ds p->
 (∀ (j:Nat) (t:TypeId) (v:Value),ts[j]?=some t->vs[j]?=some v->Value.okWide P w .any b t v)->
 ∃ xs,x8 P ts xs/\xs.length=vs.length/\∀ (j:Nat) (x:V),xs[j]?=some x->DR (CM w) w (vs.getD j undef) x
 |[],[],[],_,_,_,_=>⟨[],trivial,rfl,by simp⟩
 |t::ts,v::vs,d::ds,p,jg,h,eH=>by
  obtain⟨p',q,h1,h2,_⟩:=h;obtain⟨n,xs,h3,h4⟩:=abK hL (jg t (bJ ..)) h1 (eH 0 t v rfl rfl);obtain⟨ys,h5,h6,h7⟩:=J7 hL ts vs ds q (λu hu=>jg u (aT _ hu)) h2 (λj u x hu hx=>eH (j+1) u x (by simpa using hu) (by simpa using hx));refine⟨x7 P t xs::ys,⟨⟨n,xs,h3,rfl⟩,h5⟩,by simp[h6],λj x hx=>?_⟩;cases j with
  |zero=>simp at hx;subst hx;exact h4
  |succ j=>simpa using h7 j x (by simpa using hx)
 |[],[],_::_,_,_,h,_=>h.elim
 |[],_::_,_,_,_,h,_=>h.elim
 |_::_,[],_,_,_,h,_=>h.elim
 |_::_,_::_,[],_,_,h,_=>h.elim
theorem uh {OW:Bool}:∀ {ts:List TypeId} {vs:List Value} {ds:List (DataW H)} {p:List MemPlace},DataW.TrodAll enc P w base spare OW ts vs ds p->ds.length=ts.length
 |[],[],[],_,_=>rfl
 |_::_,_::_,_::_,_,h=>by obtain⟨_,_,_,h2,_⟩:=h;simp[uh h2]
 |[],[],_::_,_,h=>h.elim
 |[],_::_,_,_,h=>h.elim
 |_::_,[],_,_,h=>h.elim
 |_::_,_::_,[],_,h=>h.elim
theorem vQ (hl:laidOutB P=true) {W W':World} (hb:Below W.heap.size W W'):∀ {ts:List TypeId} {vs:List Value} {ds:List (DataW H)} {p:List MemPlace},(∀ t∈ts,P.readableRec t=true/\t<P.types.size)->
 DataW.TrodAll enc P W 0 (λ_=>true) true ts vs ds p->DataW.TrodAll enc P W' 0 (λb=>decide (b<W.heap.size)) true ts vs ds p
 |[],[],[],_,_,h=>h
 |t::ts,v::vs,d::ds,p,hr,h=>by have bE:=h.lt;obtain⟨p',q,h1,h2,rfl⟩:=h;exact⟨p',q,Below.trod hl (hr t (bJ ..)).1 (hr t (bJ ..)).2 h1 hb (λx hx=>bE x (jW _ hx)),vQ hl hb (λu hu=>hr u (aT _ hu)) h2,rfl⟩
 |[],[],_::_,_,_,h=>h.elim
 |[],_::_,_,_,_,h=>h.elim
 |_::_,[],_,_,_,h=>h.elim
 |_::_,_::_,[],_,_,h=>h.elim
theorem CO {T:Prop} {W W':World} (h:World.grt T W W' none):Below W.heap.size W W':=⟨h.os,h.tape,h.output,h.size,λk hk=>h.block k hk (by simp)⟩
theorem SH {gl:Gl} {f:FuncId} {L:List TypeId} (hL:wI P L=true) {ts:List TypeId} {args:Array Value} {ds:List (DataW H)} {p:List MemPlace} {W:World} {b:Nat} (jg:∀ t∈ts,t∈L)
 (hA:DataW.TrodAll enc P W 0 (λ_=>true) true ts args.toList ds p) (eH:∀ (j:Nat) (t:TypeId) (v:Value),ts[j]?=some t->args.toList[j]?=some v->Value.okWide P W .any b t v)
 (hG:GOK gl (CM W) W) (hF:∀ xs:List V,x8 P ts xs->FnOK P gl f xs (.c (.lit (.bool true)))):Calls P f args W λe w'=>e=.returned (.bool true)/\Below W.heap.size W w':=by
 obtain⟨xs,h1,h2,h3⟩:=J7 hL ts _ ds p jg hA eH;refine ((hF xs h1).2 (CM W) W args (λ_ _ h=>h) hG (by simpa using h2.symm) (λj x hx=>?_)).mono ?_
 .have:=h3 j x hx
  have e:args.toList.getD j undef=args.getD j undef:=by rw[aB,aQ,ak]
  rw[<- e];exact this
 .rintro e w' ⟨v,I',rfl,hg,_,_,ob,iD,_⟩
  have:v=.bool true:=iD.lit;subst this;exact⟨rfl,CO hg⟩
theorem W8 {C:Checked} {os:Os} {f:FuncId} {fn:Func} {s:ChangeSpec} {laid:List (String×DataW Unit)} {gl:Gl} (own:ownKnob C.prog.godebug=none) (started:os.Started) (noInit:C.prog.inits.idxOf? f=none) (Mc:C.prog.funcs[f]?=some fn)
 (witness:∃ (w:World) (tape:Tape) (i:Input),w.os=os/\(w.forCall tape i).Shaped C.prog/\i.vars=[]/\Input.okWide C.prog (w.forCall tape i) .any w.heap.size f i/\
  ((s.pre enc C.prog fn [] false (w.forCall tape i).memory i.args/\laidMetH C.prog laid (w.forCall tape i).memory)/\sizedMet enc C.prog fn (OpenSpec.ofChange s) false (w.forCall tape i).memory i.args)/\
   ({}:Assume).holds C.prog (lone (Frame.enter C.prog f i.args .normal) [] (w.forCall tape i)))
 {L:List TypeId} (hL:wI C.prog L=true) {ts:List TypeId} (qq:fn.params.toList=ts) (jg:∀ t∈ts,t∈L) (alO:laidOutB C.prog=true) (alP:∀ t∈ts,C.prog.readableRec t=true/\t<C.prog.types.size)
 (aeY:s.vars=[]) (alQ:∀ ds:List (DataW H),ds.length=ts.length->s.fn H ds={ results:=[.lit (.bool true)],args:=ds,vars:=[] }) {tb:TypeId} (vI:fn.resultTypes=#[tb]) (alR:C.prog.underlying tb=some .bool)
 (hG:∀ W:World,laidMetH C.prog laid W->GOK gl (CM W) W) (hF:∀ xs:List V,x8 C.prog ts xs->FnOK C.prog gl f xs (.c (.lit (.bool true)))) :
 ReturnsInHanded {} C os f .any (λw args=>(s.pre enc C.prog fn [] false w args/\laidMetH C.prog laid w)/\sizedMet enc C.prog fn (OpenSpec.ofChange s) false w args) (s.post enc C.prog fn false true false false):=by
 refine returnsInHanded_of_change_and (C:=C) (X:=λw _=>laidMetH C.prog laid w) (λ_ _ _ hh h=>h.of_heap hh) own started noInit Mc witness ?_;intro W base args ds gs before Ir hW _ _ hLm _;have hW':=hW;obtain⟨p,q,hA,hV,rfl,hfz,qp⟩:=hW;rw[aeY] at hV;obtain⟨rfl,rfl⟩:=trodVars_none hV;rw[qq] at hA;refine (SH (b:=base) hL jg hA (λj t v ht hv=>Ir j t v (by rw[<- aQ,qq];exact ht) (by rw[<- aQ];exact hv)) (hG W hLm) hF).mono ?_;rintro e W' ⟨rfl,hb⟩;have hsp:=alQ ds (uh hA);refine⟨_,rfl,ds,[],p++[],[],p,[],hW',?_,?_,?_,hb.frame _,λh=>by cases h⟩
 .rw[br,hsp,vI];exact trodAll_mk1 (shut_bool alR true)
 .rw[br,hsp,qq];exact vQ alO hb alP hA
 .rw[br,hsp,aeY];rfl
theorem J8 {L:List TypeId} (hL:wI P L=true) {name:String} {d:DataW Unit} {g t:Nat} {xs:List C} {W:World} (hg:P.globalNamed name=some g)
 (ht:(P.globals[g]?).map (·.type)=some t) (htL:t∈L) (hd:vA d=some xs):∀ (laid:List (String×DataW Unit)) (ps:List MemPlace),DataW.LaidVars P W laid ps->(name,d)∈laid->GCR (CM W) W g xs
 |[],_,_,hm=>by cases hm
 |(n',d')::r,ps,hv,hm=>by
  obtain⟨g',t',cs,fuel,p,q,h1,h2,h3,h4,h5,_⟩:=hv;rcases aP.1 hm with e | hm
  .cases e
   obtain rfl:=eI (hg.symm.trans h1);obtain rfl:=eI (ht.symm.trans h2);obtain⟨xs',k1,_,k3⟩:=Ae hL fuel t _ _ htL h4;rw[hd,ao] at k3;subst k3;have cj:xs.length=cs.size:=(by rw[k1.1];simp);have eU:∀ j,j<cs.size->W.cell? ⟨g,j,none⟩=some (cs.getD j undef):=λj hj=>by rw[World.var?_cell h1 h3 j];simp[hj]
   have:=CR.rp (I:=CM W) (w:=W) g 0 0 xs (λj=>cs.getD j undef) (λj hj=>by
    rw[aF];have hc:=eU j (by omega);exact⟨hc,(Fo hc).2⟩) (λj c hc=>by
    have hj:=(aj.1 hc).1;exact k1.2 j _ c (by simp[show j<cs.size by omega]) hc)
   have hgs:g<W.heap.size:=by
    unfold World.var? at h3;rw[h1] at h3;by_cases hh:g<W.heap.size
    .exact hh
    .simp[dc (show W.heap.size<=g by omega)] at h3
   exact⟨by simpa using this,hgs,by rw[World.var?_cell h1 h3,cj];simp⟩
  .exact J8 hL hg ht htL hd r q h5 hm
end
open Go Go.RowKit
section
variable {P:Program}
def vB (P:Program) (t:TypeId) (xs:List C):Prop:=∃ n,Shp P n t xs
theorem afR {n:Int} (h:(Lit.int .i64 n).wf=true):I64 n:=by simp[Lit.wf,IntKind.min,IntKind.max,IntKind.signed,IntKind.bits] at h;unfold I64;omega
theorem PK {t:TypeId} {k:IntKind} {xs:List C} (hu:P.underlying t=some (.int k)) (h:vB P t xs):∃ m,xs=[.lit (.int k m)]/\(Lit.int k m).wf=true:=by
 obtain⟨n,h⟩:=h;cases n with
 |zero=>exact h.elim
 |succ n=>unfold Shp at h;rw[hu] at h;exact h
theorem abL {t:TypeId} {xs:List C} (hu:P.underlying t=some .string) (h:vB P t xs):∃ s,xs=[.lit (.string s)]/\s.size<=maxLen:=by
 obtain⟨n,h⟩:=h;cases n with
 |zero=>exact h.elim
 |succ n=>unfold Shp at h;rw[hu] at h;exact h
theorem rH {t e:TypeId} {xs:List C} (hu:P.underlying t=some (.slice e)) (h:vB P t xs):∃ es,xs=[.sl es]/\es.length<=maxLen/\∀ x∈es,vB P e x:=by
 obtain⟨n,h⟩:=h;cases n with
 |zero=>exact h.elim
 |succ n=>unfold Shp at h;rw[hu] at h;obtain⟨es,h1,h2,h3⟩:=h;exact⟨es,h1,h2,λx hx=>⟨n,(h3 x hx).2⟩⟩
theorem pW {t:TypeId} {fs:Array Field} {xs:List C} (hu:P.underlying t=some (.struct fs)) (h:vB P t xs):xs.length=P.cellsOf t/\∀ f∈fs.toList,vB P f.type ((xs.drop f.offset).take (P.cellsOf f.type)):=by
 obtain⟨n,h⟩:=h;cases n with
 |zero=>exact h.elim
 |succ n=>unfold Shp at h;rw[hu] at h;exact⟨h.1,λf hf=>⟨n,h.2 f hf⟩⟩
theorem u4 {α:Type} {f:α->List C} {ok:α->Prop}:∀ {es:List (List C)},(∀ x∈es,∃ a,x=f a/\ok a)->∃ l:List α,es=l.map f/\∀ a∈l,ok a
 |[],_=>⟨[],rfl,by simp⟩
 |x::es,h=>by
  obtain⟨a,rfl,ha⟩:=h x (bJ ..);obtain⟨l,rfl,hl⟩:=u4 (es:=es) λy hy=>h y (aT _ hy);exact⟨a::l,rfl,λb hb=>by rcases aP.1 hb with rfl | hb;exact ha;exact hl b hb⟩
end
theorem CP (z:BitVec 64):IntKind.i64.wrap (z.toNat:Int)=z.toInt:=by
 have h:=z.isLt;rw[BitVec.toInt_eq_toNat_cond];have hb:IntKind.i64.bits=64:=rfl;have hs:IntKind.i64.signed=true:=rfl;have e:((z.toNat:Int) % 2 ^ 64)=z.toNat:=by omega
 unfold IntKind.wrap;simp only[hb,hs,ke,bF,e];by_cases c:2*z.toNat<2 ^ 64
 .rw[if_pos c,if_neg (by omega)]
 .rw[if_neg c,if_pos (by omega)];rfl
theorem W9 (a b:Int):bits .and .i64 a b=(BitVec.ofInt 64 a &&&BitVec.ofInt 64 b).toInt:=CP _
theorem Af (a b:Int):bits .andNot .i64 a b=(BitVec.ofInt 64 a &&&~~~BitVec.ofInt 64 b).toInt:=CP _
theorem J9 {a:Int} (h:I64 a):(BitVec.ofInt 64 a).toInt=a:=by obtain⟨h1,h2⟩:=h;rw[BitVec.toInt_ofInt];rw[Int.bmod_def];simp;omega
theorem Fp (x y:BitVec 64):x &&&~~~y=0↔x &&&y=x:=by
 constructor
 .intro h
  apply BitVec.eq_of_getLsbD_eq;intro i hi;have:=dJ (λz=>z.getLsbD i) h;simp at this ⊢
  cases hx:x.getLsbD i<;>cases hy:y.getLsbD i<;>simp_all
 .intro h
  apply BitVec.eq_of_getLsbD_eq;intro i hi;have:=dJ (λz=>z.getLsbD i) h;simp at this ⊢
  cases hx:x.getLsbD i<;>cases hy:y.getLsbD i<;>simp_all
theorem NP {a b:Int} (ha:I64 a):(bits .andNot .i64 a b=0)↔(bits .and .i64 a b=a):=by
 rw[Af,W9];constructor
 .intro h
  have h0:BitVec.ofInt 64 a &&&~~~BitVec.ofInt 64 b=0:=BitVec.eq_of_toInt_eq (by rw[h];rfl);rw[(Fp _ _).1 h0,J9 ha]
 .intro h
  have h0:BitVec.ofInt 64 a &&&BitVec.ofInt 64 b=BitVec.ofInt 64 a:=BitVec.eq_of_toInt_eq (by rw[h,J9 ha]);rw[(Fp _ _).2 h0];rfl
section
variable {H:Type} {enc:TypeId×Value->H} {P:Program} {w:World} {base:Nat} {spare:Nat->Bool}
