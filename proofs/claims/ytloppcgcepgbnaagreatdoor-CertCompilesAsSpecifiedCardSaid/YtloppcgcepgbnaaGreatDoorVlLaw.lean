/- Values without memory: from what a law's arguments read as to values, and from a contract to the law's row. -/
import Derived.Test.YtloppcgcepgbnaaGreatDoorVlRunB
import Derived.Test.YtloppcgcepgbnaaGreatDoorVlWord
import Derived.ProofKit
import Derived.LaidMore
import Derived.Stop.Joined
import Derived.Deep.Slices
set_option linter.all false
namespace Go.Vl
open Go Go.RowKit Go.ChangeShapes
section
variable {H:Type} {enc:TypeId×Value->H} {P:Program} {w:World} {base:Nat} {spare:Nat->Bool}
def sR (P:Program):List (Nat×TypeId)->Nat->Nat->Bool
 |[],off,tot=>decide (off=tot)
 |(o,t)::r,off,tot=>decide (o=off)&&sR P r (off+P.cellsOf t) tot
def yg (P:Program) (m:Nat) (e:TypeId):List (Nat×TypeId):=(List.range m).map λi=>(i*P.cellsOf e,e)
def wR (P:Program) (L:List TypeId):Bool:=L.all λt=>match P.underlying t with
 |some .bool | some (.int _) | some .string=>true
 |some (.slice e)=>L.contains e&&decide (P.cellsOf e≠0)
 |some (.struct fs)=>fs.toList.all (λf=>L.contains f.type)&&sR P (fs.toList.map λf=>(f.offset,f.type)) 0 (P.cellsOf t)
 |some (.array m e)=>L.contains e&&sR P (yg P m e) 0 (P.cellsOf t)
 |_=>false
def Shp (P:Program):Nat->TypeId->List C->Prop
 |0,_,_=>False
 |n+1,t,xs=>match P.underlying t with
  |some .bool=>∃ b,xs=[.lit (.bool b)]
  |some (.int k)=>∃ m,xs=[.lit (.int k m)]/\(Lit.int k m).wf=true
  |some .string=>∃ s,xs=[.lit (.string s)]/\s.size<=maxLen
  |some (.slice e)=>∃ es,xs=[.sl es]/\es.length<=maxLen/\∀ x∈es,x.length=P.cellsOf e/\Shp P n e x
  |some (.struct fs)=>xs.length=P.cellsOf t/\∀ f∈fs.toList,Shp P n f.type ((xs.drop f.offset).take (P.cellsOf f.type))
  |some (.array m e)=>xs.length=P.cellsOf t/\∀ i,i<m->Shp P n e ((xs.drop (i*P.cellsOf e)).take (P.cellsOf e))
  |_=>False
def CO (w:World):Ft:=λb _=>b<w.heap.size
def CsR (w:World) (cs:List Value) (xs:List C):Prop:=xs.length=cs.length/\∀ (j:Nat) (v:Value) (x:C),cs[j]?=some v->xs[j]?=some x->CR (CO w) w v x
theorem CsR.one {v:Value} {x:C} (h:CR (CO w) w v x):CsR w [v] [x]:=⟨rfl,λj u y hu hy=>by
 cases j with
 |zero=>simp at hu hy;subst hu;subst hy;exact h
 |succ j=>simp at hu⟩
theorem CsR.append {a b:List Value} {x y:List C} (h:CsR w a x) (k:CsR w b y):CsR w (a++b) (x++y):=by
 refine⟨by simp[h.1,k.1],λj v c hv hc=>?_⟩;by_cases hj:j<a.length
 .rw[az hj] at hv
  rw[az (by rw[h.1];exact hj)] at hc;exact h.2 j v c hv hc
 .rw[aG (by omega)] at hv
  rw[aG (by rw[h.1];omega),h.1] at hc;exact k.2 _ v c hv hc
theorem Fq:∀ {ps:List (Nat×TypeId)} {off tot:Nat},sR P ps off tot=true->off<=tot/\∀ p∈ps,off<=p.1/\p.1+P.cellsOf p.2<=tot
 |[],off,tot,h=>by simp only[sR,bI] at h;exact⟨by omega,by simp⟩
 |(o,t)::r,off,tot,h=>by
  simp only[sR,aZ,bI] at h;obtain⟨h1,h2⟩:=Fq h.2;refine⟨by omega,λp hp=>?_⟩;rcases aN.1 hp with rfl | hp
  .exact⟨by omega,by simp only;omega⟩
  .have:=h2 p hp;exact⟨by omega,this.2⟩
theorem zh {n:Nat}:∀ (ps:List (Nat×TypeId)) (pc:List (List C)) (off:Nat) (cs:List Value),sR P ps off cs.length=true->pc.length=ps.length->
 (∀ (i:Nat) (p:Nat×TypeId) (x:List C),ps[i]?=some p->pc[i]?=some x->CsR w ((cs.drop p.1).take (P.cellsOf p.2)) x/\Shp P n p.2 x)->
 CsR w (cs.drop off) pc.flatten/\∀ p∈ps,Shp P n p.2 ((pc.flatten.drop (p.1 - off)).take (P.cellsOf p.2))
 |[],[],off,cs,hc,_,_=>by simp only[sR,bI] at hc;exact⟨⟨by simp[hc],λj v x hv hx=>by simp at hx⟩,by simp⟩
 |(o,t)::r,xf::pc,off,cs,hc,Pn,h=>by
  have EC:=hc;simp only[sR,aZ,bI] at hc;obtain⟨rfl,hc⟩:=hc;obtain⟨hl,eE⟩:=Fq hc;obtain⟨h1,h2⟩:=zh r pc _ cs hc (by simpa using Pn) (λi p x hp hx=>h (i+1) p x (by simpa using hp) (by simpa using hx));obtain⟨h3,h4⟩:=h 0 (o,t) xf rfl rfl;simp only at h3 h4;have cm:xf.length=P.cellsOf t:=by rw[h3.1];simp;omega
  simp only[cE];refine⟨?_,λp hp=>?_⟩
  .have:cs.drop o=(cs.drop o).take (P.cellsOf t)++cs.drop (o+P.cellsOf t):=by rw[<- gd,dK]
   rw[this];exact h3.append h1
  .rcases aN.1 hp with rfl | hp
   .simp only[Nat.sub_self,cx]
    rw[<- cm,List.take_left];exact h4
   .have h5:=eE p hp
    have h6:=h2 p hp;have e:(xf++pc.flatten).drop (p.1 - o)=pc.flatten.drop (p.1 - (o+P.cellsOf t)):=(by rw[List.drop_append,List.drop_eq_nil_of_le (by omega),eu,cm];congr 1;omega);rw[e];exact h6
 |[],_::_,_,_,_,h,_=>by simp at h
 |_::_,[],_,_,_,h,_=>by simp at h
mutual
def vJ {H:Type}:DataW H->Option (List C)
 | .lit (.bool b)=>some [.lit (.bool b)]
 | .lit (.int k n)=>some [.lit (.int k n)]
 | .lit (.string s)=>some [.lit (.string ⟨s.toArray⟩)]
 | .nil=>some [.sl []]
 | .slice es _=>match CP es with
  |some l=>some [.sl l]
  |none=>none
 | .agg ds=>match CP ds with
  |some l=>some l.flatten
  |none=>none
 |_=>none
def CP {H:Type}:List (DataW H)->Option (List (List C))
 |[]=>some []
 |d::r=>match vJ d,CP r with
  |some a,some b=>some (a::b)
  |_,_=>none
end
theorem yh {H:Type}:∀ {ds:List (DataW H)} {es:List (List C)},es.length=ds.length->(∀ (i:Nat) (d:DataW H) (x:List C),ds[i]?=some d->es[i]?=some x->vJ d=some x)->CP ds=some es
 |[],[],_,_=>by unfold CP;rfl
 |d::ds,e::es,hl,h=>by have h1:=h 0 d e rfl rfl;have h2:=yh (ds:=ds) (es:=es) (by simpa using hl) λi d x hd hx=>h (i+1) d x (by simpa using hd) (by simpa using hx);unfold CP;rw[h1,h2]
 |[],_::_,hl,_=>by simp at hl
 |_::_,[],hl,_=>by simp at hl
theorem Fv {a:Addr} {v:Value} (h:w.cell? a=some v):a.spot=none/\a.block<w.heap.size:=by
 unfold World.cell? at h;split at h
 .rename_i c t f hh
  refine⟨?_,(bg.1 hh).1⟩;split at h
  .cases h
  .rename_i hs;simpa using hs
 .cases h
theorem HS {α:Type} {R:Nat->α->Prop}:∀ (n:Nat),(∀ i,i<n->∃ y,R i y)->∃ l:List α,l.length=n/\∀ i y,l[i]?=some y->R i y
 |0,_=>⟨[],rfl,by simp⟩
 |n+1,h=>by
  obtain⟨l,h1,h2⟩:=HS n λi hi=>h i (by omega);obtain⟨y,hy⟩:=h n (by omega);refine⟨l++[y],by simp[h1],λi z hz=>?_⟩;by_cases hi:i<l.length
  .rw[az hi] at hz;exact h2 i z hz
  .rw[aG (by omega)] at hz
   have:i - l.length=0:=(by have:=(ai.1 hz).1;simp at this;omega);rw[this] at hz;simp at hz;have e:i=n:=(by omega);subst hz;rw[e];exact hy
theorem Am {L:List TypeId} (hL:wR P L=true) {PG:Bool}:∀ (n:Nat) (t:TypeId) (cs:List Value) (x:DataW H×List MemPlace),t∈L->DataW.trod enc P w base spare PG n t cs=some x->
 ∃ xs,CsR w cs xs/\Shp P n t xs/\vJ x.1=some xs:=by
 intro n;induction n with
 |zero=>intro t cs x _ h;cases h
 |succ n ih=>
  intro t cs x ht h;have hp:=a8.1 hL t ht;unfold DataW.trod at h;unfold Shp;cases hu:P.underlying t with
  |none=>rw[hu] at hp;cases hp
  |some d=>
   rw[hu] at hp h;cases d<;>simp only at hp h<;>try (cases hp;done)
   case bool=>
    split at h<;>first | (cases h;done) | skip
    all_goals (rename_i hd;simp only[ao,reduceCtorEq] at hd)
    simp only[ao] at h;subst h;exact⟨_,.one (.lit _ rfl),⟨_,rfl⟩,by simp[vJ]⟩
   case int k=>
    split at h<;>first | (cases h;done) | skip
    all_goals (rename_i hd;simp only[ao,reduceCtorEq,TypeDesc.int.injEq] at hd)
    subst hd;split at h
    .rename_i hk
     obtain⟨rfl,hw⟩:=hk;simp only[ao] at h;subst h;exact⟨_,.one (.lit _ rfl),⟨_,rfl,hw⟩,by simp[vJ]⟩
    .cases h
   case string=>
    split at h<;>first | (cases h;done) | skip
    all_goals (rename_i hd;simp only[ao,reduceCtorEq] at hd)
    split at h
    .rename_i hs
     simp only[ao] at h;subst h;exact⟨_,.one (.lit _ rfl),⟨_,rfl,hs⟩,by simp[vJ]⟩
    .cases h
   case slice e=>
    simp only[aZ,iQ,bI] at hp;split at h<;>first | (cases h;done) | skip
    all_goals (rename_i hd;simp only[ao,reduceCtorEq,TypeDesc.slice.injEq] at hd)
    .simp only[ao] at h;subst h
     exact⟨_,.one (.nil none 0 (λ_=>rfl)),⟨_,rfl,by simp,by simp⟩,by simp[vJ]⟩
    .subst hd
     rename_i a len cap;split at h
     .rename_i hb
      obtain⟨hb1,hb2,hb3⟩:=hb;simp only[iU] at h;obtain⟨elems,Ve,hx⟩:=h;have hxe:∃ rest,x.1=.slice (elems.map (·.1)) rest:=(by simp only[aW] at hx;obtain⟨rest,_,rfl⟩:=hx;exact⟨_,rfl⟩);obtain⟨rest,hxe⟩:=hxe;rw[hxe];have aoz:elems.length=len:=(by have:=List.mapM_eq_some_length Ve;simpa using this);by_cases h0:len=0
      .subst h0
       have:elems=[]:=dz aoz;subst this;exact⟨[.sl []],.one (.nil (some a) cap (λh=>by cases h)),⟨[],rfl,by simp,by simp⟩,by simp[vJ,CP]⟩
      have key:∀ i,i<len->∃ xs:List C,∃ cs',w.cells? base (a.add (i*P.cellsOf e)) (P.cellsOf e)=some cs'/\CsR w cs' xs/\Shp P n e xs/\∀ y,elems[i]?=some y->vJ y.1=some xs:=λi hi=>by obtain⟨i',tu,hy⟩:=List.mapM_eq_some_get Ve i _ (ah (show i<elems.length by omega));rw[jg hi,ao] at tu;subst tu;generalize hye:elems[i]=y at hy;simp only[iU] at hy;obtain⟨cs',h1,h2⟩:=hy;obtain⟨xs,h3,h4,h5⟩:=ih e cs' y hp.1 h2;refine⟨xs,cs',h1,h3,h4,λy' U5=>?_⟩;rw[ah (show i<elems.length by omega),hye,ao] at U5;subst U5;exact h5
      obtain⟨es,pG,hR⟩:=HS len key;have fK:0<P.cellsOf e:=Nat.pos_of_ne_zero hp.2;have cellAt:∀ i j,i<len->j<P.cellsOf e->∃ v,w.cell? ((a.add (i*P.cellsOf e)).add j)=some v:=λi j hi hj=>by obtain⟨xs,cs',h1,_⟩:=key i hi;obtain⟨_,h5,h6⟩:=World.cells?_some h1;rw[h6 j hj];exact⟨_,ah (by omega)⟩
      obtain⟨v0,U6⟩:=cellAt 0 0 (by omega) fK;have hs0:=Fv U6;obtain⟨b,off,spot⟩:=a;simp only[Nat.zero_mul,Addr.add,cZ] at hs0;obtain⟨rfl,Pv⟩:=hs0;refine⟨[.sl es],.one ?_,⟨es,rfl,by omega,λx hx=>?_⟩,?_⟩
      .have:=CR.sl (I:=CO w) (w:=w) b off cap (P.cellsOf e) es (λi j=>(w.cell? ⟨b,off+i*P.cellsOf e+j,none⟩).getD undef) (by omega) (λx hx=>by
        obtain⟨i,hi,rfl⟩:=iP.1 hx;obtain⟨cs',h1,h2,_⟩:=hR i _ (ah hi);rw[h2.1,(World.cells?_some h1).2.1]) (λi j hi hj=>by
        obtain⟨v,hv⟩:=cellAt i j (by omega) hj;rw[c8,c8] at hv;exact⟨by rw[hv];rfl,Pv⟩) (λi j x c hx hc=>by
        obtain⟨cs',h1,h2,_⟩:=hR i _ hx;obtain⟨_,h5,h6⟩:=World.cells?_some h1;have hj:j<P.cellsOf e:=(by have:=(ai.1 hc).1;rw[h2.1,h5] at this;exact this);have h7:=h6 j hj;rw[c8,c8] at h7;simp only[h7,ah (show j<cs'.length by omega),cX];exact h2.2 j _ c (ah (by omega)) hc)
       rw[pG] at this;exact this
      .obtain⟨i,hi,rfl⟩:=iP.1 hx
       obtain⟨cs',h1,h2,h3,_⟩:=hR i _ (ah hi);exact⟨by rw[h2.1,(World.cells?_some h1).2.1],h3⟩
      .have:=yh (ds:=elems.map (·.1)) (es:=es) (by simp[pG,aoz]) (λi d x hd hx=>by simp only[bj,aW] at hd;obtain⟨y,hy,rfl⟩:=hd;obtain⟨_,_,_,_,h5⟩:=hR i x hx;exact h5 y hy)
       simp only[vJ,this]
     .cases h
   case struct fs=>
    simp only[aZ,a8,iQ,bI] at hp;split at h
    .rename_i hl
     simp only[aW] at h;obtain⟨ys,uZ,rfl⟩:=h;have hyl:ys.length=fs.toList.length:=List.mapM_eq_some_length uZ;obtain⟨pc,Gk,hpc⟩:=HS (R:=λi (x:List C)=>∀ f,fs.toList[i]?=some f->(CsR w ((cs.drop f.offset).take (P.cellsOf f.type)) x/\Shp P n f.type x)/\∀ y,ys[i]?=some y->vJ y.1=some x) fs.toList.length (λi hi=>by obtain⟨f,hf,hy⟩:=List.mapM_eq_some_get uZ i _ (ah (show i<ys.length by omega));obtain⟨x,h3,h4,h5⟩:=ih f.type _ _ (hp.1 f (aV hf)) hy;refine⟨x,λf' IJ=>?_⟩;rw[hf,ao] at IJ;subst IJ;refine⟨⟨h3,h4⟩,λy U5=>?_⟩;rw[ah (show i<ys.length by omega),ao] at U5;subst U5;exact h5);obtain⟨h1,h2⟩:=zh (w:=w) (n:=n) (fs.toList.map λf=>(f.offset,f.type)) pc 0 cs (by rw[hl];exact hp.2) (by simp[Gk]) (λi p x hp' hx=>by simp only[bj,aW] at hp';obtain⟨f,hf,rfl⟩:=hp';exact(hpc i x hx f hf).1);rw[cx] at h1;refine⟨pc.flatten,h1,⟨by rw[h1.1,hl],λf hf=>?_⟩,?_⟩
     .have:=h2 (f.offset,f.type) (bM.2 ⟨f,hf,rfl⟩)
      simpa using this
     .have:=yh (ds:=ys.map (·.1)) (es:=pc) (by simp[Gk,hyl]) (λi d x hd hx=>by simp only[bj,aW] at hd;obtain⟨y,hy,rfl⟩:=hd;have hi:i<fs.toList.length:=(by have:=(ai.1 hx).1;omega);exact(hpc i x hx _ (ah hi)).2 y hy)
      simp only[vJ,this]
    .cases h
   case array m e=>
    simp only[aZ,iQ,bI] at hp;split at h
    .rename_i hl
     simp only[aW] at h;obtain⟨ys,uZ,rfl⟩:=h;have hyl:ys.length=m:=(by have:=List.mapM_eq_some_length uZ;simpa using this);obtain⟨pc,Gk,hpc⟩:=HS (R:=λi (x:List C)=>(CsR w ((cs.drop (i*P.cellsOf e)).take (P.cellsOf e)) x/\Shp P n e x)/\∀ y,ys[i]?=some y->vJ y.1=some x) m (λi hi=>by obtain⟨i',tu,hy⟩:=List.mapM_eq_some_get uZ i _ (ah (show i<ys.length by omega));rw[jg hi,ao] at tu;subst tu;obtain⟨x,h3,h4,h5⟩:=ih e _ _ hp.1 hy;refine⟨x,⟨h3,h4⟩,λy U5=>?_⟩;rw[ah (show i<ys.length by omega),ao] at U5;subst U5;exact h5);obtain⟨h1,h2⟩:=zh (w:=w) (n:=n) (yg P m e) pc 0 cs (by rw[hl];exact hp.2) (by simp[Gk,yg]) (λi p x hp' hx=>by unfold yg at hp';simp only[bj,aW] at hp';obtain⟨i',tu,rfl⟩:=hp';have hi:i<m:=(by have:=(ai.1 tu).1;simpa using this);rw[jg hi,ao] at tu;subst tu;exact(hpc i x hx).1);rw[cx] at h1;refine⟨pc.flatten,h1,⟨by rw[h1.1,hl],λi hi=>?_⟩,?_⟩
     .have:=h2 (i*P.cellsOf e,e) (bM.2 ⟨i,dc.2 hi,rfl⟩)
      simpa using this
     .have:=yh (ds:=ys.map (·.1)) (es:=pc) (by simp[Gk,hyl]) (λi d x hd hx=>by simp only[bj,aW] at hd;obtain⟨y,hy,rfl⟩:=hd;exact(hpc i x hx).2 y hy)
      simp only[vJ,this]
    .cases h
def KD (P:Program) (t:TypeId) (xs:List C):V:=if dt P t then .agg xs else .c (xs.getD 0 default)
theorem adf:∀ {n:Nat} {t:TypeId} {xs:List C},Shp P n t xs->dt P t=false->∃ x,xs=[x]
 |0,_,_,h,_=>h.elim
 |n+1,t,xs,h,ha=>by
  unfold Shp at h;unfold dt at ha;split at h
  .obtain⟨b,rfl⟩:=h;exact⟨_,rfl⟩
  .obtain⟨b,rfl,_⟩:=h;exact⟨_,rfl⟩
  .obtain⟨b,rfl,_⟩:=h;exact⟨_,rfl⟩
  .obtain⟨b,rfl,_⟩:=h;exact⟨_,rfl⟩
  .rename_i hu;rw[hu] at ha;cases ha
  .rename_i hu;rw[hu] at ha;cases ha
  .exact h.elim
theorem adg {L:List TypeId} (hL:wR P L=true) {PG:Bool} {t:TypeId} {v:Value} {d:DataW H} {p:List MemPlace} (ht:t∈L) (h:DataW.Trod enc P w base spare PG t v d p) {b:Nat} (eG:Value.okWide P w .any b t v) :
 ∃ n xs,Shp P n t xs/\DR (CO w) w v (KD P t xs):=by
 obtain⟨n,h⟩:=h;obtain⟨xs,h1,h2,_⟩:=Am hL n t _ _ ht h;refine⟨n,xs,h2,?_⟩;unfold KD;by_cases ha:dt P t=true
 .rw[if_pos ha]
  have:∃ cs,v=.agg cs:=by
   unfold dt at ha;unfold Value.okWide at eG;split at ha
   .rename_i hu;rw[hu] at eG;obtain⟨cs,e,_⟩:=eG;exact⟨cs,e⟩
   .rename_i hu;rw[hu] at eG;obtain⟨cs,e,_⟩:=eG;exact⟨cs,e⟩
   .cases ha
  obtain⟨cs,rfl⟩:=this;simp only[Value.cells] at h1;refine .agg cs xs (by rw[h1.1];simp) λj c hc=>?_;have hj:j<cs.size:=by have:=(ai.1 hc).1;rw[h1.1] at this;simpa using this
  have:=h1.2 j cs[j] c (by simp[hj]) hc;simpa[hj] using this
 .have ha:dt P t=false:=by simpa using ha
  rw[if_neg (by simp[ha])];obtain⟨x,rfl⟩:=adf h2 ha;have hl:=h1.1;simp only[aB,aF,aJ] at hl;have hv:v.cells=#[v]:=by
   cases v<;>try rfl
   rename_i cs;simp only[Value.cells] at h1 hl;exfalso;unfold Value.okWide at eG;unfold dt at ha;split at eG
   .rename_i hu;rw[hu] at ha;cases ha
   .rename_i hu;rw[hu] at ha;cases ha
   .rename_i n1 n2
    unfold Shp at h2;cases n with
    |zero=>exact h2
    |succ n=>
     simp only at h2;unfold Cell.okWide Cell.ok at eG;cases hu:P.underlying t with
     |none=>rw[hu] at h2;exact h2
     |some dd=>rw[hu] at eG h2;cases dd<;>simp_all
  rw[hv] at h1;exact .c v x (h1.2 0 v x (by simp) rfl)
def yi (P:Program):List TypeId->List V->Prop
 |[],[]=>True
 |t::ts,x::xs=>(∃ n cs,Shp P n t cs/\x=KD P t cs)/\yi P ts xs
 |_,_=>False
theorem KE {L:List TypeId} (hL:wR P L=true) {PG:Bool} {b:Nat}:∀ (ts:List TypeId) (vs:List Value) (ds:List (DataW H)) (p:List MemPlace),(∀ t∈ts,t∈L)->DataW.TrodAll enc P w base spare PG ts vs ds p->
 (∀ (j:Nat) (t:TypeId) (v:Value),ts[j]?=some t->vs[j]?=some v->Value.okWide P w .any b t v)->
 ∃ xs,yi P ts xs/\xs.length=vs.length/\∀ (j:Nat) (x:V),xs[j]?=some x->DR (CO w) w (vs.getD j undef) x
 |[],[],[],_,_,_,_=>⟨[],trivial,rfl,by simp⟩
 |t::ts,v::vs,d::ds,p,iT,h,eG=>by
  obtain⟨p',q,h1,h2,_⟩:=h;obtain⟨n,xs,h3,h4⟩:=adg hL (iT t (bD ..)) h1 (eG 0 t v rfl rfl);obtain⟨ys,h5,h6,h7⟩:=KE hL ts vs ds q (λu hu=>iT u (aP _ hu)) h2 (λj u x hu hx=>eG (j+1) u x (by simpa using hu) (by simpa using hx));refine⟨KD P t xs::ys,⟨⟨n,xs,h3,rfl⟩,h5⟩,by simp[h6],λj x hx=>?_⟩;cases j with
  |zero=>simp at hx;subst hx;exact h4
  |succ j=>simpa using h7 j x (by simpa using hx)
 |[],[],_::_,_,_,h,_=>h.elim
 |[],_::_,_,_,_,h,_=>h.elim
 |_::_,[],_,_,_,h,_=>h.elim
 |_::_,_::_,[],_,_,h,_=>h.elim
theorem uz {PG:Bool}:∀ {ts:List TypeId} {vs:List Value} {ds:List (DataW H)} {p:List MemPlace},DataW.TrodAll enc P w base spare PG ts vs ds p->ds.length=ts.length
 |[],[],[],_,_=>rfl
 |_::_,_::_,_::_,_,h=>by obtain⟨_,_,_,h2,_⟩:=h;simp[uz h2]
 |[],[],_::_,_,h=>h.elim
 |[],_::_,_,_,h=>h.elim
 |_::_,[],_,_,h=>h.elim
 |_::_,_::_,[],_,h=>h.elim
theorem vZ (hl:laidOutB P=true) {W W':World} (hb:Below W.heap.size W W'):∀ {ts:List TypeId} {vs:List Value} {ds:List (DataW H)} {p:List MemPlace},(∀ t∈ts,P.readableRec t=true/\t<P.types.size)->
 DataW.TrodAll enc P W 0 (λ_=>true) true ts vs ds p->DataW.TrodAll enc P W' 0 (λb=>decide (b<W.heap.size)) true ts vs ds p
 |[],[],[],_,_,h=>h
 |t::ts,v::vs,d::ds,p,hr,h=>by have bF:=h.lt;obtain⟨p',q,h1,h2,rfl⟩:=h;exact⟨p',q,Below.trod hl (hr t (bD ..)).1 (hr t (bD ..)).2 h1 hb (λx hx=>bF x (fG _ hx)),vZ hl hb (λu hu=>hr u (aP _ hu)) h2,rfl⟩
 |[],[],_::_,_,_,h=>h.elim
 |[],_::_,_,_,_,h=>h.elim
 |_::_,[],_,_,_,h=>h.elim
 |_::_,_::_,[],_,_,h=>h.elim
theorem CQ {T:Prop} {W W':World} (h:World.grt T W W' none):Below W.heap.size W W':=⟨h.os,h.tape,h.output,h.size,λk hk=>h.block k hk (by simp)⟩
theorem TB {gl:Gl} {f:FuncId} {L:List TypeId} (hL:wR P L=true) {ts:List TypeId} {args:Array Value} {ds:List (DataW H)} {p:List MemPlace} {W:World} {b:Nat} (iT:∀ t∈ts,t∈L)
 (hA:DataW.TrodAll enc P W 0 (λ_=>true) true ts args.toList ds p) (eG:∀ (j:Nat) (t:TypeId) (v:Value),ts[j]?=some t->args.toList[j]?=some v->Value.okWide P W .any b t v)
 (hG:GOK gl (CO W) W) (hF:∀ xs:List V,yi P ts xs->FnOK P gl f xs (.c (.lit (.bool true)))):Calls P f args W λe w'=>e=.returned (.bool true)/\Below W.heap.size W w':=by
 obtain⟨xs,h1,h2,h3⟩:=KE hL ts _ ds p iT hA eG;refine ((hF xs h1).2 (CO W) W args (λ_ _ h=>h) hG (by simpa using h2.symm) (λj x hx=>?_)).mono ?_
 .have:=h3 j x hx
  have e:args.toList.getD j undef=args.getD j undef:=by rw[aA,aS,ak]
  rw[<- e];exact this
 .rintro e w' ⟨v,I',rfl,hg,_,_,ob,iD,_⟩
  have:v=.bool true:=iD.lit;subst this;exact⟨rfl,CQ hg⟩
theorem X0 {C:Checked} {os:Os} {f:FuncId} {fn:Func} {s:ChangeSpec} {laid:List (String×DataW Unit)} {gl:Gl} (own:ownKnob C.prog.godebug=none) (started:os.Started) (noInit:C.prog.inits.idxOf? f=none) (MO:C.prog.funcs[f]?=some fn)
 (witness:∃ (w:World) (tape:Tape) (i:Input),w.os=os/\(w.forCall tape i).Shaped C.prog/\i.vars=[]/\Input.okWide C.prog (w.forCall tape i) .any w.heap.size f i/\
  ((s.pre enc C.prog fn [] false (w.forCall tape i).memory i.args/\laidMetH C.prog laid (w.forCall tape i).memory)/\sizedMet enc C.prog fn (OpenSpec.ofChange s) false (w.forCall tape i).memory i.args)/\
   ({}:Assume).holds C.prog (lone (Frame.enter C.prog f i.args .normal) [] (w.forCall tape i)))
 {L:List TypeId} (hL:wR C.prog L=true) {ts:List TypeId} (qC:fn.params.toList=ts) (iT:∀ t∈ts,t∈L) (aoB:laidOutB C.prog=true) (aoC:∀ t∈ts,C.prog.readableRec t=true/\t<C.prog.types.size)
 (agY:s.vars=[]) (aoD:∀ ds:List (DataW H),ds.length=ts.length->s.fn H ds={ results:=[.lit (.bool true)],args:=ds,vars:=[] }) {tb:TypeId} (vP:fn.resultTypes=#[tb]) (aoE:C.prog.underlying tb=some .bool)
 (hG:∀ W:World,laidMetH C.prog laid W->GOK gl (CO W) W) (hF:∀ xs:List V,yi C.prog ts xs->FnOK C.prog gl f xs (.c (.lit (.bool true)))) :
 ReturnsInHanded {} C os f .any (λw args=>(s.pre enc C.prog fn [] false w args/\laidMetH C.prog laid w)/\sizedMet enc C.prog fn (OpenSpec.ofChange s) false w args) (s.post enc C.prog fn false true false false):=by
 refine returnsInHanded_of_change_and (C:=C) (X:=λw _=>laidMetH C.prog laid w) (λ_ _ _ hh h=>h.of_heap hh) own started noInit MO witness ?_;intro W base args ds gs before IC hW _ _ hLm _;have hW':=hW;obtain⟨p,q,hA,hV,rfl,hfz,qA⟩:=hW;rw[agY] at hV;obtain⟨rfl,rfl⟩:=trodVars_none hV;rw[qC] at hA;refine (TB (b:=base) hL iT hA (λj t v ht hv=>IC j t v (by rw[<- aS,qC];exact ht) (by rw[<- aS];exact hv)) (hG W hLm) hF).mono ?_;rintro e W' ⟨rfl,hb⟩;have hsp:=aoD ds (uz hA);refine⟨_,rfl,ds,[],p++[],[],p,[],hW',?_,?_,?_,hb.frame _,λh=>by cases h⟩
 .rw[bq,hsp,vP];exact trodAll_mk1 (shut_bool aoE true)
 .rw[bq,hsp,qC];exact vZ aoB hb aoC hA
 .rw[bq,hsp,agY];rfl
theorem KF {L:List TypeId} (hL:wR P L=true) {name:String} {d:DataW Unit} {g t:Nat} {xs:List C} {W:World} (hg:P.globalNamed name=some g)
 (ht:(P.globals[g]?).map (·.type)=some t) (htL:t∈L) (hd:vJ d=some xs):∀ (laid:List (String×DataW Unit)) (ps:List MemPlace),DataW.LaidVars P W laid ps->(name,d)∈laid->GCR (CO W) W g xs
 |[],_,_,hm=>by cases hm
 |(n',d')::r,ps,hv,hm=>by
  obtain⟨g',t',cs,fuel,p,q,h1,h2,h3,h4,h5,_⟩:=hv;rcases aN.1 hm with e | hm
  .cases e
   obtain rfl:=eH (hg.symm.trans h1);obtain rfl:=eH (ht.symm.trans h2);obtain⟨xs',k1,_,k3⟩:=Am hL fuel t _ _ htL h4;rw[hd,ao] at k3;subst k3;have cm:xs.length=cs.size:=(by rw[k1.1];simp);have eR:∀ j,j<cs.size->W.cell? ⟨g,j,none⟩=some (cs.getD j undef):=λj hj=>by rw[World.var?_cell h1 h3 j];simp[hj]
   have:=CR.rp (I:=CO W) (w:=W) g 0 0 xs (λj=>cs.getD j undef) (λj hj=>by
    rw[aJ];have hc:=eR j (by omega);exact⟨hc,(Fv hc).2⟩) (λj c hc=>by
    have hj:=(ai.1 hc).1;exact k1.2 j _ c (by simp[show j<cs.size by omega]) hc)
   have hgs:g<W.heap.size:=by
    unfold World.var? at h3;rw[h1] at h3;by_cases hh:g<W.heap.size
    .exact hh
    .simp[dj (show W.heap.size<=g by omega)] at h3
   exact⟨by simpa using this,hgs,by rw[World.var?_cell h1 h3,cm];simp⟩
  .exact KF hL hg ht htL hd r q h5 hm
end
open Go Go.RowKit
section
variable {P:Program}
def AP (P:Program) (t:TypeId) (xs:List C):Prop:=∃ n,Shp P n t xs
theorem ahY {n:Int} (h:(Lit.int .i64 n).wf=true):I64 n:=by simp[Lit.wf,IntKind.min,IntKind.max,IntKind.signed,IntKind.bits] at h;unfold I64;omega
theorem adh {t:TypeId} {k:IntKind} {xs:List C} (hu:P.underlying t=some (.int k)) (h:AP P t xs):∃ m,xs=[.lit (.int k m)]/\(Lit.int k m).wf=true:=by
 obtain⟨n,h⟩:=h;cases n with
 |zero=>exact h.elim
 |succ n=>unfold Shp at h;rw[hu] at h;exact h
theorem adi {t:TypeId} {xs:List C} (hu:P.underlying t=some .string) (h:AP P t xs):∃ s,xs=[.lit (.string s)]/\s.size<=maxLen:=by
 obtain⟨n,h⟩:=h;cases n with
 |zero=>exact h.elim
 |succ n=>unfold Shp at h;rw[hu] at h;exact h
theorem zi {t e:TypeId} {xs:List C} (hu:P.underlying t=some (.slice e)) (h:AP P t xs):∃ es,xs=[.sl es]/\es.length<=maxLen/\∀ x∈es,AP P e x:=by
 obtain⟨n,h⟩:=h;cases n with
 |zero=>exact h.elim
 |succ n=>unfold Shp at h;rw[hu] at h;obtain⟨es,h1,h2,h3⟩:=h;exact⟨es,h1,h2,λx hx=>⟨n,(h3 x hx).2⟩⟩
theorem sS {t:TypeId} {fs:Array Field} {xs:List C} (hu:P.underlying t=some (.struct fs)) (h:AP P t xs):xs.length=P.cellsOf t/\∀ f∈fs.toList,AP P f.type ((xs.drop f.offset).take (P.cellsOf f.type)):=by
 obtain⟨n,h⟩:=h;cases n with
 |zero=>exact h.elim
 |succ n=>unfold Shp at h;rw[hu] at h;exact⟨h.1,λf hf=>⟨n,h.2 f hf⟩⟩
theorem Be {α:Type} {f:α->List C} {ok:α->Prop}:∀ {es:List (List C)},(∀ x∈es,∃ a,x=f a/\ok a)->∃ l:List α,es=l.map f/\∀ a∈l,ok a
 |[],_=>⟨[],rfl,by simp⟩
 |x::es,h=>by
  obtain⟨a,rfl,ha⟩:=h x (bD ..);obtain⟨l,rfl,hl⟩:=Be (es:=es) λy hy=>h y (aP _ hy);exact⟨a::l,rfl,λb hb=>by rcases aN.1 hb with rfl | hb;exact ha;exact hl b hb⟩
end
theorem CS (z:BitVec 64):IntKind.i64.wrap (z.toNat:Int)=z.toInt:=by
 have h:=z.isLt;rw[BitVec.toInt_eq_toNat_cond];have hb:IntKind.i64.bits=64:=rfl;have hs:IntKind.i64.signed=true:=rfl;have e:((z.toNat:Int) % 2 ^ 64)=z.toNat:=by omega
 unfold IntKind.wrap;simp only[hb,hs,j9,bI,e];by_cases c:2*z.toNat<2 ^ 64
 .rw[if_pos c,if_neg (by omega)]
 .rw[if_neg c,if_pos (by omega)];rfl
theorem X1 (a b:Int):bits .and .i64 a b=(BitVec.ofInt 64 a &&&BitVec.ofInt 64 b).toInt:=CS _
theorem An (a b:Int):bits .andNot .i64 a b=(BitVec.ofInt 64 a &&&~~~BitVec.ofInt 64 b).toInt:=CS _
theorem KG {a:Int} (h:I64 a):(BitVec.ofInt 64 a).toInt=a:=by obtain⟨h1,h2⟩:=h;rw[BitVec.toInt_ofInt];rw[Int.bmod_def];simp;omega
theorem FA (x y:BitVec 64):x &&&~~~y=0↔x &&&y=x:=by
 constructor
 .intro h
  apply BitVec.eq_of_getLsbD_eq;intro i hi;have:=dM (λz=>z.getLsbD i) h;simp at this ⊢
  cases hx:x.getLsbD i<;>cases hy:y.getLsbD i<;>simp_all
 .intro h
  apply BitVec.eq_of_getLsbD_eq;intro i hi;have:=dM (λz=>z.getLsbD i) h;simp at this ⊢
  cases hx:x.getLsbD i<;>cases hy:y.getLsbD i<;>simp_all
theorem Of {a b:Int} (ha:I64 a):(bits .andNot .i64 a b=0)↔(bits .and .i64 a b=a):=by
 rw[An,X1];constructor
 .intro h
  have h0:BitVec.ofInt 64 a &&&~~~BitVec.ofInt 64 b=0:=BitVec.eq_of_toInt_eq (by rw[h];rfl);rw[(FA _ _).1 h0,KG ha]
 .intro h
  have h0:BitVec.ofInt 64 a &&&BitVec.ofInt 64 b=BitVec.ofInt 64 a:=BitVec.eq_of_toInt_eq (by rw[h,KG ha]);rw[(FA _ _).2 h0];rfl
section
variable {H:Type} {enc:TypeId×Value->H} {P:Program} {w:World} {base:Nat} {spare:Nat->Bool}
