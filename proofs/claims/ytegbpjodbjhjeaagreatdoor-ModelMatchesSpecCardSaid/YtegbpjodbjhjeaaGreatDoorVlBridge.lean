/- Values without memory: from what a law's arguments read as to values, and from a contract to the law's row. -/
import Derived.Test.YtegbpjodbjhjeaaGreatDoorVlRunB
import Derived.Test.YtegbpjodbjhjeaaGreatDoorVlWord
import Derived.ProofKit
import Derived.LaidMore
import Derived.Stop.Joined
import Derived.Deep.Slices
set_option linter.all false
namespace Go.Vl
open Go Go.RowKit Go.ChangeShapes
section
variable {H:Type} {enc:TypeId×Value->H} {P:Program} {w:World} {base:Nat} {spare:Nat->Bool}
def rN (P:Program):List (Nat×TypeId)->Nat->Nat->Bool
 |[],off,tot=>decide (off=tot)
 |(o,t)::r,off,tot=>decide (o=off)&&rN P r (off+P.cellsOf t) tot
def wV (P:Program) (m:Nat) (e:TypeId):List (Nat×TypeId):=(List.range m).map λi=>(i*P.cellsOf e,e)
def vO (P:Program) (L:List TypeId):Bool:=L.all λt=>match P.underlying t with
 |some .bool | some (.int _) | some .string=>true
 |some (.slice e)=>L.contains e&&decide (P.cellsOf e≠0)
 |some (.struct fs)=>fs.toList.all (λf=>L.contains f.type)&&rN P (fs.toList.map λf=>(f.offset,f.type)) 0 (P.cellsOf t)
 |some (.array m e)=>L.contains e&&rN P (wV P m e) 0 (P.cellsOf t)
 |_=>false
def Shp (P:Program):Nat->TypeId->List C->Prop
 |0,_,_=>False
 |n+1,t,xs=>match P.underlying t with
  |some .bool=>∃ b,xs=[.lit (.bool b)]
  |some (.int k)=>∃ m,xs=[.lit (.int k m)]/\(Lit.int k m).wf=true
  |some .string=>∃ s,xs=[.lit (.string s)]/\s.size<=maxLen
  |some (.slice e)=>∃ es,xs=[.sl es]/\es.length<=maxLen/\∀ x∈es,x.length=P.cellsOf e/\Shp P n e x
  |some (.struct fs)=>xs.length=P.cellsOf t/\∀ f∈fs.toList,Shp P n f.type ((xs.drop f.offset).take (P.cellsOf f.type))
  |some (.array m e)=>xs.length=P.cellsOf t/\∀ i,i<m->Shp P n e ((xs.drop (i*P.cellsOf e)).take (P.cellsOf e))
  |_=>False
def Bv (w:World):Ft:=λb _=>b<w.heap.size
def CsR (w:World) (cs:List Value) (xs:List C):Prop:=xs.length=cs.length/\∀ (j:Nat) (v:Value) (x:C),cs[j]?=some v->xs[j]?=some x->CR (Bv w) w v x
theorem CsR.one {v:Value} {x:C} (h:CR (Bv w) w v x):CsR w [v] [x]:=⟨rfl,λj u y hu hy=>by
 cases j with
 |zero=>simp at hu hy;subst hu;subst hy;exact h
 |succ j=>simp at hu⟩
theorem CsR.append {a b:List Value} {x y:List C} (h:CsR w a x) (k:CsR w b y):CsR w (a++b) (x++y):=by
 refine⟨by simp[h.1,k.1],λj v c hv hc=>?_⟩;by_cases hj:j<a.length
 .rw[aM hj] at hv
  rw[aM (by rw[h.1];exact hj)] at hc;exact h.2 j v c hv hc
 .rw[aU (by omega)] at hv
  rw[aU (by rw[h.1];omega),h.1] at hc;exact k.2 _ v c hv hc
theorem Ds:∀ {ps:List (Nat×TypeId)} {off tot:Nat},rN P ps off tot=true->off<=tot/\∀ p∈ps,off<=p.1/\p.1+P.cellsOf p.2<=tot
 |[],off,tot,h=>by simp only[rN,br] at h;exact⟨by omega,by simp⟩
 |(o,t)::r,off,tot,h=>by
  simp only[rN,aA,br] at h;obtain⟨h1,h2⟩:=Ds h.2;refine⟨by omega,λp hp=>?_⟩;rcases bI.1 hp with rfl | hp
  .exact⟨by omega,by simp only;omega⟩
  .have:=h2 p hp;exact⟨by omega,this.2⟩
theorem yC {n:Nat}:∀ (ps:List (Nat×TypeId)) (pc:List (List C)) (off:Nat) (cs:List Value),rN P ps off cs.length=true->pc.length=ps.length->
 (∀ (i:Nat) (p:Nat×TypeId) (x:List C),ps[i]?=some p->pc[i]?=some x->CsR w ((cs.drop p.1).take (P.cellsOf p.2)) x/\Shp P n p.2 x)->
 CsR w (cs.drop off) pc.flatten/\∀ p∈ps,Shp P n p.2 ((pc.flatten.drop (p.1 - off)).take (P.cellsOf p.2))
 |[],[],off,cs,hc,_,_=>by simp only[rN,br] at hc;exact⟨⟨by simp[hc],λj v x hv hx=>by simp at hx⟩,by simp⟩
 |(o,t)::r,xf::pc,off,cs,hc,JO,h=>by
  have Ah:=hc;simp only[rN,aA,br] at hc;obtain⟨rfl,hc⟩:=hc;obtain⟨hl,dC⟩:=Ds hc;obtain⟨h1,h2⟩:=yC r pc _ cs hc (by simpa using JO) (λi p x hp hx=>h (i+1) p x (by simpa using hp) (by simpa using hx));obtain⟨h3,h4⟩:=h 0 (o,t) xf rfl rfl;simp only at h3 h4;have cH:xf.length=P.cellsOf t:=by rw[h3.1];simp;omega
  simp only[eN];refine⟨?_,λp hp=>?_⟩
  .have:cs.drop o=(cs.drop o).take (P.cellsOf t)++cs.drop (o+P.cellsOf t):=by rw[<- fS,dQ]
   rw[this];exact h3.append h1
  .rcases bI.1 hp with rfl | hp
   .simp only[kw,eZ]
    rw[<- cH,List.take_left];exact h4
   .have h5:=dC p hp
    have h6:=h2 p hp;have e:(xf++pc.flatten).drop (p.1 - o)=pc.flatten.drop (p.1 - (o+P.cellsOf t)):=(by rw[List.drop_append,List.drop_eq_nil_of_le (by omega),fZ,cH];congr 1;omega);rw[e];exact h6
 |[],_::_,_,_,_,h,_=>by simp at h
 |_::_,[],_,_,_,h,_=>by simp at h
mutual
def tM {H:Type}:DataW H->Option (List C)
 | .lit (.bool b)=>some [.lit (.bool b)]
 | .lit (.int k n)=>some [.lit (.int k n)]
 | .lit (.string s)=>some [.lit (.string ⟨s.toArray⟩)]
 | .nil=>some [.sl []]
 | .slice es _=>match Bw es with
  |some l=>some [.sl l]
  |none=>none
 | .agg ds=>match Bw ds with
  |some l=>some l.flatten
  |none=>none
 |_=>none
def Bw {H:Type}:List (DataW H)->Option (List (List C))
 |[]=>some []
 |d::r=>match tM d,Bw r with
  |some a,some b=>some (a::b)
  |_,_=>none
end
theorem wW {H:Type}:∀ {ds:List (DataW H)} {es:List (List C)},es.length=ds.length->(∀ (i:Nat) (d:DataW H) (x:List C),ds[i]?=some d->es[i]?=some x->tM d=some x)->Bw ds=some es
 |[],[],_,_=>by unfold Bw;rfl
 |d::ds,e::es,hl,h=>by have h1:=h 0 d e rfl rfl;have h2:=wW (ds:=ds) (es:=es) (by simpa using hl) λi d x hd hx=>h (i+1) d x (by simpa using hd) (by simpa using hx);unfold Bw;rw[h1,h2]
 |[],_::_,hl,_=>by simp at hl
 |_::_,[],hl,_=>by simp at hl
theorem Dt {a:Addr} {v:Value} (h:w.cell? a=some v):a.spot=none/\a.block<w.heap.size:=by
 unfold World.cell? at h;split at h
 .rename_i c t f hh
  refine⟨?_,(bq.1 hh).1⟩;split at h
  .cases h
  .rename_i hs;simpa using hs
 .cases h
theorem FI {α:Type} {R:Nat->α->Prop}:∀ (n:Nat),(∀ i,i<n->∃ y,R i y)->∃ l:List α,l.length=n/\∀ i y,l[i]?=some y->R i y
 |0,_=>⟨[],rfl,by simp⟩
 |n+1,h=>by
  obtain⟨l,h1,h2⟩:=FI n λi hi=>h i (by omega);obtain⟨y,hy⟩:=h n (by omega);refine⟨l++[y],by simp[h1],λi z hz=>?_⟩;by_cases hi:i<l.length
  .rw[aM hi] at hz;exact h2 i z hz
  .rw[aU (by omega)] at hz
   have:i - l.length=0:=(by have:=(am.1 hz).1;simp at this;omega);rw[this] at hz;simp at hz;have e:i=n:=(by omega);subst hz;rw[e];exact hy
theorem zo {L:List TypeId} (hL:vO P L=true) {Mg:Bool}:∀ (n:Nat) (t:TypeId) (cs:List Value) (x:DataW H×List MemPlace),t∈L->DataW.trod enc P w base spare Mg n t cs=some x->
 ∃ xs,CsR w cs xs/\Shp P n t xs/\tM x.1=some xs:=by
 intro n;induction n with
 |zero=>intro t cs x _ h;cases h
 |succ n ih=>
  intro t cs x ht h;have hp:=a8.1 hL t ht;unfold DataW.trod at h;unfold Shp;cases hu:P.underlying t with
  |none=>rw[hu] at hp;cases hp
  |some d=>
   rw[hu] at hp h;cases d<;>simp only at hp h<;>try (cases hp;done)
   case bool=>
    split at h<;>first | (cases h;done) | skip
    all_goals (rename_i hd;simp only[ap,reduceCtorEq] at hd)
    simp only[ap] at h;subst h;exact⟨_,.one (.lit _ rfl),⟨_,rfl⟩,by simp[tM]⟩
   case int k=>
    split at h<;>first | (cases h;done) | skip
    all_goals (rename_i hd;simp only[ap,reduceCtorEq,TypeDesc.int.injEq] at hd)
    subst hd;split at h
    .rename_i hk
     obtain⟨rfl,hw⟩:=hk;simp only[ap] at h;subst h;exact⟨_,.one (.lit _ rfl),⟨_,rfl,hw⟩,by simp[tM]⟩
    .cases h
   case string=>
    split at h<;>first | (cases h;done) | skip
    all_goals (rename_i hd;simp only[ap,reduceCtorEq] at hd)
    split at h
    .rename_i hs
     simp only[ap] at h;subst h;exact⟨_,.one (.lit _ rfl),⟨_,rfl,hs⟩,by simp[tM]⟩
    .cases h
   case slice e=>
    simp only[aA,ix,br] at hp;split at h<;>first | (cases h;done) | skip
    all_goals (rename_i hd;simp only[ap,reduceCtorEq,TypeDesc.slice.injEq] at hd)
    .simp only[ap] at h;subst h
     exact⟨_,.one (.nil none 0 (λ_=>rfl)),⟨_,rfl,by simp,by simp⟩,by simp[tM]⟩
    .subst hd
     rename_i a len cap;split at h
     .rename_i hb
      obtain⟨hb1,hb2,hb3⟩:=hb;simp only[iM] at h;obtain⟨elems,hel,hx⟩:=h;have hxe:∃ rest,x.1=.slice (elems.map (·.1)) rest:=(by simp only[aZ] at hx;obtain⟨rest,_,rfl⟩:=hx;exact⟨_,rfl⟩);obtain⟨rest,hxe⟩:=hxe;rw[hxe];have ahE:elems.length=len:=(by have:=List.mapM_eq_some_length hel;simpa using this);by_cases h0:len=0
      .subst h0
       have:elems=[]:=cQ ahE;subst this;exact⟨[.sl []],.one (.nil (some a) cap (λh=>by cases h)),⟨[],rfl,by simp,by simp⟩,by simp[tM,Bw]⟩
      have key:∀ i,i<len->∃ xs:List C,∃ cs',w.cells? base (a.add (i*P.cellsOf e)) (P.cellsOf e)=some cs'/\CsR w cs' xs/\Shp P n e xs/\∀ y,elems[i]?=some y->tM y.1=some xs:=λi hi=>by obtain⟨i',sS,hy⟩:=List.mapM_eq_some_get hel i _ (ak (show i<elems.length by omega));rw[jV hi,ap] at sS;subst sS;generalize hye:elems[i]=y at hy;simp only[iM] at hy;obtain⟨cs',h1,h2⟩:=hy;obtain⟨xs,h3,h4,h5⟩:=ih e cs' y hp.1 h2;refine⟨xs,cs',h1,h3,h4,λy' QF=>?_⟩;rw[ak (show i<elems.length by omega),hye,ap] at QF;subst QF;exact h5
      obtain⟨es,qM,hR⟩:=FI len key;have ej:0<P.cellsOf e:=Nat.pos_of_ne_zero hp.2;have cellAt:∀ i j,i<len->j<P.cellsOf e->∃ v,w.cell? ((a.add (i*P.cellsOf e)).add j)=some v:=λi j hi hj=>by obtain⟨xs,cs',h1,_⟩:=key i hi;obtain⟨_,h5,h6⟩:=World.cells?_some h1;rw[h6 j hj];exact⟨_,ak (by omega)⟩
      obtain⟨v0,hv0⟩:=cellAt 0 0 (by omega) ej;have hs0:=Dt hv0;obtain⟨b,off,spot⟩:=a;simp only[Nat.zero_mul,Addr.add,bY] at hs0;obtain⟨rfl,hbl⟩:=hs0;refine⟨[.sl es],.one ?_,⟨es,rfl,by omega,λx hx=>?_⟩,?_⟩
      .have:=CR.sl (I:=Bv w) (w:=w) b off cap (P.cellsOf e) es (λi j=>(w.cell? ⟨b,off+i*P.cellsOf e+j,none⟩).getD undef) (by omega) (λx hx=>by
        obtain⟨i,hi,rfl⟩:=iq.1 hx;obtain⟨cs',h1,h2,_⟩:=hR i _ (ak hi);rw[h2.1,(World.cells?_some h1).2.1]) (λi j hi hj=>by
        obtain⟨v,hv⟩:=cellAt i j (by omega) hj;rw[dm,dm] at hv;exact⟨by rw[hv];rfl,hbl⟩) (λi j x c hx hc=>by
        obtain⟨cs',h1,h2,_⟩:=hR i _ hx;obtain⟨_,h5,h6⟩:=World.cells?_some h1;have hj:j<P.cellsOf e:=(by have:=(am.1 hc).1;rw[h2.1,h5] at this;exact this);have h7:=h6 j hj;rw[dm,dm] at h7;simp only[h7,ak (show j<cs'.length by omega),ba];exact h2.2 j _ c (ak (by omega)) hc)
       rw[qM] at this;exact this
      .obtain⟨i,hi,rfl⟩:=iq.1 hx
       obtain⟨cs',h1,h2,h3,_⟩:=hR i _ (ak hi);exact⟨by rw[h2.1,(World.cells?_some h1).2.1],h3⟩
      .have:=wW (ds:=elems.map (·.1)) (es:=es) (by simp[qM,ahE]) (λi d x hd hx=>by simp only[bw,aZ] at hd;obtain⟨y,hy,rfl⟩:=hd;obtain⟨_,_,_,_,h5⟩:=hR i x hx;exact h5 y hy)
       simp only[tM,this]
     .cases h
   case struct fs=>
    simp only[aA,a8,ix,br] at hp;split at h
    .rename_i hl
     simp only[aZ] at h;obtain⟨ys,xY,rfl⟩:=h;have hyl:ys.length=fs.toList.length:=List.mapM_eq_some_length xY;obtain⟨pc,LU,hpc⟩:=FI (R:=λi (x:List C)=>∀ f,fs.toList[i]?=some f->(CsR w ((cs.drop f.offset).take (P.cellsOf f.type)) x/\Shp P n f.type x)/\∀ y,ys[i]?=some y->tM y.1=some x) fs.toList.length (λi hi=>by obtain⟨f,hf,hy⟩:=List.mapM_eq_some_get xY i _ (ak (show i<ys.length by omega));obtain⟨x,h3,h4,h5⟩:=ih f.type _ _ (hp.1 f (bn hf)) hy;refine⟨x,λf' zN=>?_⟩;rw[hf,ap] at zN;subst zN;refine⟨⟨h3,h4⟩,λy QF=>?_⟩;rw[ak (show i<ys.length by omega),ap] at QF;subst QF;exact h5);obtain⟨h1,h2⟩:=yC (w:=w) (n:=n) (fs.toList.map λf=>(f.offset,f.type)) pc 0 cs (by rw[hl];exact hp.2) (by simp[LU]) (λi p x hp' hx=>by simp only[bw,aZ] at hp';obtain⟨f,hf,rfl⟩:=hp';exact(hpc i x hx f hf).1);rw[eZ] at h1;refine⟨pc.flatten,h1,⟨by rw[h1.1,hl],λf hf=>?_⟩,?_⟩
     .have:=h2 (f.offset,f.type) (ce.2 ⟨f,hf,rfl⟩)
      simpa using this
     .have:=wW (ds:=ys.map (·.1)) (es:=pc) (by simp[LU,hyl]) (λi d x hd hx=>by simp only[bw,aZ] at hd;obtain⟨y,hy,rfl⟩:=hd;have hi:i<fs.toList.length:=(by have:=(am.1 hx).1;omega);exact(hpc i x hx _ (ak hi)).2 y hy)
      simp only[tM,this]
    .cases h
   case array m e=>
    simp only[aA,ix,br] at hp;split at h
    .rename_i hl
     simp only[aZ] at h;obtain⟨ys,xY,rfl⟩:=h;have hyl:ys.length=m:=(by have:=List.mapM_eq_some_length xY;simpa using this);obtain⟨pc,LU,hpc⟩:=FI (R:=λi (x:List C)=>(CsR w ((cs.drop (i*P.cellsOf e)).take (P.cellsOf e)) x/\Shp P n e x)/\∀ y,ys[i]?=some y->tM y.1=some x) m (λi hi=>by obtain⟨i',sS,hy⟩:=List.mapM_eq_some_get xY i _ (ak (show i<ys.length by omega));rw[jV hi,ap] at sS;subst sS;obtain⟨x,h3,h4,h5⟩:=ih e _ _ hp.1 hy;refine⟨x,⟨h3,h4⟩,λy QF=>?_⟩;rw[ak (show i<ys.length by omega),ap] at QF;subst QF;exact h5);obtain⟨h1,h2⟩:=yC (w:=w) (n:=n) (wV P m e) pc 0 cs (by rw[hl];exact hp.2) (by simp[LU,wV]) (λi p x hp' hx=>by unfold wV at hp';simp only[bw,aZ] at hp';obtain⟨i',sS,rfl⟩:=hp';have hi:i<m:=(by have:=(am.1 sS).1;simpa using this);rw[jV hi,ap] at sS;subst sS;exact(hpc i x hx).1);rw[eZ] at h1;refine⟨pc.flatten,h1,⟨by rw[h1.1,hl],λi hi=>?_⟩,?_⟩
     .have:=h2 (i*P.cellsOf e,e) (ce.2 ⟨i,df.2 hi,rfl⟩)
      simpa using this
     .have:=wW (ds:=ys.map (·.1)) (es:=pc) (by simp[LU,hyl]) (λi d x hd hx=>by simp only[bw,aZ] at hd;obtain⟨y,hy,rfl⟩:=hd;exact(hpc i x hx).2 y hy)
      simp only[tM,this]
    .cases h
def sQ (P:Program) (t:TypeId) (xs:List C):V:=if dn P t then .agg xs else .c (xs.getD 0 default)
theorem Yr:∀ {n:Nat} {t:TypeId} {xs:List C},Shp P n t xs->dn P t=false->∃ x,xs=[x]
 |0,_,_,h,_=>h.elim
 |n+1,t,xs,h,ha=>by
  unfold Shp at h;unfold dn at ha;split at h
  .obtain⟨b,rfl⟩:=h;exact⟨_,rfl⟩
  .obtain⟨b,rfl,_⟩:=h;exact⟨_,rfl⟩
  .obtain⟨b,rfl,_⟩:=h;exact⟨_,rfl⟩
  .obtain⟨b,rfl,_⟩:=h;exact⟨_,rfl⟩
  .rename_i hu;rw[hu] at ha;cases ha
  .rename_i hu;rw[hu] at ha;cases ha
  .exact h.elim
theorem Ys {L:List TypeId} (hL:vO P L=true) {Mg:Bool} {t:TypeId} {v:Value} {d:DataW H} {p:List MemPlace} (ht:t∈L) (h:DataW.Trod enc P w base spare Mg t v d p) {b:Nat} (dV:Value.okWide P w .any b t v) :
 ∃ n xs,Shp P n t xs/\DR (Bv w) w v (sQ P t xs):=by
 obtain⟨n,h⟩:=h;obtain⟨xs,h1,h2,_⟩:=zo hL n t _ _ ht h;refine⟨n,xs,h2,?_⟩;unfold sQ;by_cases ha:dn P t=true
 .rw[if_pos ha]
  have:∃ cs,v=.agg cs:=by
   unfold dn at ha;unfold Value.okWide at dV;split at ha
   .rename_i hu;rw[hu] at dV;obtain⟨cs,e,_⟩:=dV;exact⟨cs,e⟩
   .rename_i hu;rw[hu] at dV;obtain⟨cs,e,_⟩:=dV;exact⟨cs,e⟩
   .cases ha
  obtain⟨cs,rfl⟩:=this;simp only[Value.cells] at h1;refine .agg cs xs (by rw[h1.1];simp) λj c hc=>?_;have hj:j<cs.size:=by have:=(am.1 hc).1;rw[h1.1] at this;simpa using this
  have:=h1.2 j cs[j] c (by simp[hj]) hc;simpa[hj] using this
 .have ha:dn P t=false:=by simpa using ha
  rw[if_neg (by simp[ha])];obtain⟨x,rfl⟩:=Yr h2 ha;have hl:=h1.1;simp only[aI,aL,ao] at hl;have hv:v.cells=#[v]:=by
   cases v<;>try rfl
   rename_i cs;simp only[Value.cells] at h1 hl;exfalso;unfold Value.okWide at dV;unfold dn at ha;split at dV
   .rename_i hu;rw[hu] at ha;cases ha
   .rename_i hu;rw[hu] at ha;cases ha
   .rename_i n1 n2
    unfold Shp at h2;cases n with
    |zero=>exact h2
    |succ n=>
     simp only at h2;unfold Cell.okWide Cell.ok at dV;cases hu:P.underlying t with
     |none=>rw[hu] at h2;exact h2
     |some dd=>rw[hu] at dV h2;cases dd<;>simp_all
  rw[hv] at h1;exact .c v x (h1.2 0 v x (by simp) rfl)
def wX (P:Program):List TypeId->List V->Prop
 |[],[]=>True
 |t::ts,x::xs=>(∃ n cs,Shp P n t cs/\x=sQ P t cs)/\wX P ts xs
 |_,_=>False
theorem Is {L:List TypeId} (hL:vO P L=true) {Mg:Bool} {b:Nat}:∀ (ts:List TypeId) (vs:List Value) (ds:List (DataW H)) (p:List MemPlace),(∀ t∈ts,t∈L)->DataW.TrodAll enc P w base spare Mg ts vs ds p->
 (∀ (j:Nat) (t:TypeId) (v:Value),ts[j]?=some t->vs[j]?=some v->Value.okWide P w .any b t v)->
 ∃ xs,wX P ts xs/\xs.length=vs.length/\∀ (j:Nat) (x:V),xs[j]?=some x->DR (Bv w) w (vs.getD j undef) x
 |[],[],[],_,_,_,_=>⟨[],trivial,rfl,by simp⟩
 |t::ts,v::vs,d::ds,p,f9,h,dV=>by
  obtain⟨p',q,h1,h2,_⟩:=h;obtain⟨n,xs,h3,h4⟩:=Ys hL (f9 t (aX ..)) h1 (dV 0 t v rfl rfl);obtain⟨ys,h5,h6,h7⟩:=Is hL ts vs ds q (λu hu=>f9 u (aT _ hu)) h2 (λj u x hu hx=>dV (j+1) u x (by simpa using hu) (by simpa using hx));refine⟨sQ P t xs::ys,⟨⟨n,xs,h3,rfl⟩,h5⟩,by simp[h6],λj x hx=>?_⟩;cases j with
  |zero=>simp at hx;subst hx;exact h4
  |succ j=>simpa using h7 j x (by simpa using hx)
 |[],[],_::_,_,_,h,_=>h.elim
 |[],_::_,_,_,_,h,_=>h.elim
 |_::_,[],_,_,_,h,_=>h.elim
 |_::_,_::_,[],_,_,h,_=>h.elim
theorem tN {Mg:Bool}:∀ {ts:List TypeId} {vs:List Value} {ds:List (DataW H)} {p:List MemPlace},DataW.TrodAll enc P w base spare Mg ts vs ds p->ds.length=ts.length
 |[],[],[],_,_=>rfl
 |_::_,_::_,_::_,_,h=>by obtain⟨_,_,_,h2,_⟩:=h;simp[tN h2]
 |[],[],_::_,_,h=>h.elim
 |[],_::_,_,_,h=>h.elim
 |_::_,[],_,_,h=>h.elim
 |_::_,_::_,[],_,h=>h.elim
theorem ve (hl:laidOutB P=true) {W W':World} (hb:Below W.heap.size W W'):∀ {ts:List TypeId} {vs:List Value} {ds:List (DataW H)} {p:List MemPlace},(∀ t∈ts,P.readableRec t=true/\t<P.types.size)->
 DataW.TrodAll enc P W 0 (λ_=>true) true ts vs ds p->DataW.TrodAll enc P W' 0 (λb=>decide (b<W.heap.size)) true ts vs ds p
 |[],[],[],_,_,h=>h
 |t::ts,v::vs,d::ds,p,hr,h=>by have bF:=h.lt;obtain⟨p',q,h1,h2,rfl⟩:=h;exact⟨p',q,Below.trod hl (hr t (aX ..)).1 (hr t (aX ..)).2 h1 hb (λx hx=>bF x (iu _ hx)),ve hl hb (λu hu=>hr u (aT _ hu)) h2,rfl⟩
 |[],[],_::_,_,_,h=>h.elim
 |[],_::_,_,_,_,h=>h.elim
 |_::_,[],_,_,_,h=>h.elim
 |_::_,_::_,[],_,_,h=>h.elim
theorem Bz {T:Prop} {W W':World} (h:World.grt T W W' none):Below W.heap.size W W':=⟨h.os,h.tape,h.output,h.size,λk hk=>h.block k hk (by simp)⟩
theorem Pv {gl:Gl} {f:FuncId} {L:List TypeId} (hL:vO P L=true) {ts:List TypeId} {args:Array Value} {ds:List (DataW H)} {p:List MemPlace} {W:World} {b:Nat} (f9:∀ t∈ts,t∈L)
 (hA:DataW.TrodAll enc P W 0 (λ_=>true) true ts args.toList ds p) (dV:∀ (j:Nat) (t:TypeId) (v:Value),ts[j]?=some t->args.toList[j]?=some v->Value.okWide P W .any b t v)
 (hG:GOK gl (Bv W) W) (hF:∀ xs:List V,wX P ts xs->FnOK P gl f xs (.c (.lit (.bool true)))):Calls P f args W λe w'=>e=.returned (.bool true)/\Below W.heap.size W w':=by
 obtain⟨xs,h1,h2,h3⟩:=Is hL ts _ ds p f9 hA dV;refine ((hF xs h1).2 (Bv W) W args (λ_ _ h=>h) hG (by simpa using h2.symm) (λj x hx=>?_)).mono ?_
 .have:=h3 j x hx
  have e:args.toList.getD j undef=args.getD j undef:=by rw[aG,aY,au]
  rw[<- e];exact this
 .rintro e w' ⟨v,I',rfl,hg,_,_,ob,iR,_⟩
  have:v=.bool true:=iR.lit;subst this;exact⟨rfl,Bz hg⟩
theorem TE {C:Checked} {os:Os} {f:FuncId} {fn:Func} {s:ChangeSpec} {laid:List (String×DataW Unit)} {gl:Gl} (own:ownKnob C.prog.godebug=none) (started:os.Started) (noInit:C.prog.inits.idxOf? f=none) (hfn:C.prog.funcs[f]?=some fn)
 (witness:∃ (w:World) (tape:Tape) (i:Input),w.os=os/\(w.forCall tape i).Shaped C.prog/\i.vars=[]/\Input.okWide C.prog (w.forCall tape i) .any w.heap.size f i/\
  ((s.pre enc C.prog fn [] false (w.forCall tape i).memory i.args/\laidMetH C.prog laid (w.forCall tape i).memory)/\sizedMet enc C.prog fn (OpenSpec.ofChange s) false (w.forCall tape i).memory i.args)/\
   ({}:Assume).holds C.prog (lone (Frame.enter C.prog f i.args .normal) [] (w.forCall tape i)))
 {L:List TypeId} (hL:vO C.prog L=true) {ts:List TypeId} (qt:fn.params.toList=ts) (f9:∀ t∈ts,t∈L) (ahF:laidOutB C.prog=true) (ahG:∀ t∈ts,C.prog.readableRec t=true/\t<C.prog.types.size)
 (abw:s.vars=[]) (ahH:∀ ds:List (DataW H),ds.length=ts.length->s.fn H ds={ results:=[.lit (.bool true)],args:=ds,vars:=[] }) {tb:TypeId} (xO:fn.resultTypes=#[tb]) (ahI:C.prog.underlying tb=some .bool)
 (hG:∀ W:World,laidMetH C.prog laid W->GOK gl (Bv W) W) (hF:∀ xs:List V,wX C.prog ts xs->FnOK C.prog gl f xs (.c (.lit (.bool true)))) :
 ReturnsInHanded {} C os f .any (λw args=>(s.pre enc C.prog fn [] false w args/\laidMetH C.prog laid w)/\sizedMet enc C.prog fn (OpenSpec.ofChange s) false w args) (s.post enc C.prog fn false true false false):=by
 refine returnsInHanded_of_change_and (C:=C) (X:=λw _=>laidMetH C.prog laid w) (λ_ _ _ hh h=>h.of_heap hh) own started noInit hfn witness ?_;intro W base args ds gs before we hW _ _ hLm _;have hW':=hW;obtain⟨p,q,hA,hV,rfl,Z7,qw⟩:=hW;rw[abw] at hV;obtain⟨rfl,rfl⟩:=trodVars_none hV;rw[qt] at hA;refine (Pv (b:=base) hL f9 hA (λj t v ht hv=>we j t v (by rw[<- aY,qt];exact ht) (by rw[<- aY];exact hv)) (hG W hLm) hF).mono ?_;rintro e W' ⟨rfl,hb⟩;have hsp:=ahH ds (tN hA);refine⟨_,rfl,ds,[],p++[],[],p,[],hW',?_,?_,?_,hb.frame _,λh=>by cases h⟩
 .rw[d6,hsp,xO];exact trodAll_mk1 (shut_bool ahI true)
 .rw[d6,hsp,qt];exact ve ahF hb ahG hA
 .rw[d6,hsp,abw];rfl
theorem BA {L:List TypeId} (hL:vO P L=true) {name:String} {d:DataW Unit} {g t:Nat} {xs:List C} {W:World} (hg:P.globalNamed name=some g)
 (ht:(P.globals[g]?).map (·.type)=some t) (htL:t∈L) (hd:tM d=some xs):∀ (laid:List (String×DataW Unit)) (ps:List MemPlace),DataW.LaidVars P W laid ps->(name,d)∈laid->GCR (Bv W) W g xs
 |[],_,_,hm=>by cases hm
 |(n',d')::r,ps,hv,hm=>by
  obtain⟨g',t',cs,fuel,p,q,h1,h2,h3,h4,h5,_⟩:=hv;rcases bI.1 hm with e | hm
  .cases e
   obtain rfl:=ew (hg.symm.trans h1);obtain rfl:=ew (ht.symm.trans h2);obtain⟨xs',k1,_,k3⟩:=zo hL fuel t _ _ htL h4;rw[hd,ap] at k3;subst k3;have cH:xs.length=cs.size:=(by rw[k1.1];simp);have eE:∀ j,j<cs.size->W.cell? ⟨g,j,none⟩=some (cs.getD j undef):=λj hj=>by rw[World.var?_cell h1 h3 j];simp[hj]
   have:=CR.rp (I:=Bv W) (w:=W) g 0 0 xs (λj=>cs.getD j undef) (λj hj=>by
    rw[ao];have hc:=eE j (by omega);exact⟨hc,(Dt hc).2⟩) (λj c hc=>by
    have hj:=(am.1 hc).1;exact k1.2 j _ c (by simp[show j<cs.size by omega]) hc)
   have hgs:g<W.heap.size:=by
    unfold World.var? at h3;rw[h1] at h3;by_cases hh:g<W.heap.size
    .exact hh
    .simp[dx (show W.heap.size<=g by omega)] at h3
   exact⟨by simpa using this,hgs,by rw[World.var?_cell h1 h3,cH];simp⟩
  .exact BA hL hg ht htL hd r q h5 hm
end
open Go Go.RowKit
section
variable {P:Program}
def yD (P:Program) (t:TypeId) (xs:List C):Prop:=∃ n,Shp P n t xs
theorem ack {n:Int} (h:(Lit.int .i64 n).wf=true):I64 n:=by simp[Lit.wf,IntKind.min,IntKind.max,IntKind.signed,IntKind.bits] at h;unfold I64;omega
theorem Yt {t:TypeId} {k:IntKind} {xs:List C} (hu:P.underlying t=some (.int k)) (h:yD P t xs):∃ m,xs=[.lit (.int k m)]/\(Lit.int k m).wf=true:=by
 obtain⟨n,h⟩:=h;cases n with
 |zero=>exact h.elim
 |succ n=>unfold Shp at h;rw[hu] at h;exact h
theorem Yu {t:TypeId} {xs:List C} (hu:P.underlying t=some .string) (h:yD P t xs):∃ s,xs=[.lit (.string s)]/\s.size<=maxLen:=by
 obtain⟨n,h⟩:=h;cases n with
 |zero=>exact h.elim
 |succ n=>unfold Shp at h;rw[hu] at h;exact h
theorem uH {t e:TypeId} {xs:List C} (hu:P.underlying t=some (.slice e)) (h:yD P t xs):∃ es,xs=[.sl es]/\es.length<=maxLen/\∀ x∈es,yD P e x:=by
 obtain⟨n,h⟩:=h;cases n with
 |zero=>exact h.elim
 |succ n=>unfold Shp at h;rw[hu] at h;obtain⟨es,h1,h2,h3⟩:=h;exact⟨es,h1,h2,λx hx=>⟨n,(h3 x hx).2⟩⟩
theorem pC {t:TypeId} {fs:Array Field} {xs:List C} (hu:P.underlying t=some (.struct fs)) (h:yD P t xs):xs.length=P.cellsOf t/\∀ f∈fs.toList,yD P f.type ((xs.drop f.offset).take (P.cellsOf f.type)):=by
 obtain⟨n,h⟩:=h;cases n with
 |zero=>exact h.elim
 |succ n=>unfold Shp at h;rw[hu] at h;exact⟨h.1,λf hf=>⟨n,h.2 f hf⟩⟩
theorem wY {α:Type} {f:α->List C} {ok:α->Prop}:∀ {es:List (List C)},(∀ x∈es,∃ a,x=f a/\ok a)->∃ l:List α,es=l.map f/\∀ a∈l,ok a
 |[],_=>⟨[],rfl,by simp⟩
 |x::es,h=>by
  obtain⟨a,rfl,ha⟩:=h x (aX ..);obtain⟨l,rfl,hl⟩:=wY (es:=es) λy hy=>h y (aT _ hy);exact⟨a::l,rfl,λb hb=>by rcases bI.1 hb with rfl | hb;exact ha;exact hl b hb⟩
end
theorem BB (z:BitVec 64):IntKind.i64.wrap (z.toNat:Int)=z.toInt:=by
 have h:=z.isLt;rw[BitVec.toInt_eq_toNat_cond];have hb:IntKind.i64.bits=64:=rfl;have hs:IntKind.i64.signed=true:=rfl;have e:((z.toNat:Int) % 2 ^ 64)=z.toNat:=by omega
 unfold IntKind.wrap;simp only[hb,hs,dI,br,e];by_cases c:2*z.toNat<2 ^ 64
 .rw[if_pos c,if_neg (by omega)]
 .rw[if_neg c,if_pos (by omega)];rfl
theorem TF (a b:Int):bits .and .i64 a b=(BitVec.ofInt 64 a &&&BitVec.ofInt 64 b).toInt:=BB _
theorem zp (a b:Int):bits .andNot .i64 a b=(BitVec.ofInt 64 a &&&~~~BitVec.ofInt 64 b).toInt:=BB _
theorem It {a:Int} (h:I64 a):(BitVec.ofInt 64 a).toInt=a:=by obtain⟨h1,h2⟩:=h;rw[BitVec.toInt_ofInt];rw[Int.bmod_def];simp;omega
theorem Du (x y:BitVec 64):x &&&~~~y=0↔x &&&y=x:=by
 constructor
 .intro h
  apply BitVec.eq_of_getLsbD_eq;intro i hi;have:=kK (λz=>z.getLsbD i) h;simp at this ⊢
  cases hx:x.getLsbD i<;>cases hy:y.getLsbD i<;>simp_all
 .intro h
  apply BitVec.eq_of_getLsbD_eq;intro i hi;have:=kK (λz=>z.getLsbD i) h;simp at this ⊢
  cases hx:x.getLsbD i<;>cases hy:y.getLsbD i<;>simp_all
theorem Lb {a b:Int} (ha:I64 a):(bits .andNot .i64 a b=0)↔(bits .and .i64 a b=a):=by
 rw[zp,TF];constructor
 .intro h
  have h0:BitVec.ofInt 64 a &&&~~~BitVec.ofInt 64 b=0:=BitVec.eq_of_toInt_eq (by rw[h];rfl);rw[(Du _ _).1 h0,It ha]
 .intro h
  have h0:BitVec.ofInt 64 a &&&BitVec.ofInt 64 b=BitVec.ofInt 64 a:=BitVec.eq_of_toInt_eq (by rw[h,It ha]);rw[(Du _ _).2 h0];rfl
