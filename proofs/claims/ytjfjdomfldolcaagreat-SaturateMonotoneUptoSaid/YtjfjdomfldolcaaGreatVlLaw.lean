/- Values without memory: from what a law's arguments read as to values, and from a contract to the law's row. -/
import Derived.Test.YtjfjdomfldolcaaGreatVlRunB
import Derived.Test.YtjfjdomfldolcaaGreatVlWord
import Derived.ProofKit
import Derived.LaidMore
import Derived.Stop.Joined
import Derived.Deep.Slices
set_option linter.all false
namespace Go.Vl
open Go Go.RowKit Go.ChangeShapes
section
variable {H:Type} {enc:TypeId×Value→H} {P:Program} {w:World} {base:Nat} {spare:Nat→Bool}
def sN (P:Program):List (Nat×TypeId)→Nat→Nat→Bool
 |[],off,tot=>decide (off=tot)
 |(o,t)::r,off,tot=>decide (o=off)&&sN P r (off+P.cellsOf t) tot
def xT (P:Program) (m:Nat) (e:TypeId):List (Nat×TypeId):=(List.range m).map fun i=>(i*P.cellsOf e,e)
def sO (P:Program) (L:List TypeId):Bool:=L.all fun t=>match P.underlying t with
 |some .bool | some (.int _) | some .string=>true
 |some (.slice e)=>L.contains e&&decide (P.cellsOf e≠0)
 |some (.struct fs)=>fs.toList.all (fun f=>L.contains f.type)&&sN P (fs.toList.map fun f=>(f.offset,f.type)) 0 (P.cellsOf t)
 |some (.array m e)=>L.contains e&&sN P (xT P m e) 0 (P.cellsOf t)
 |_=>false
def Shp (P:Program):Nat→TypeId→List C→Prop
 |0,_,_=>False
 |n+1,t,xs=>match P.underlying t with
  |some .bool=>∃ b,xs=[.lit (.bool b)]
  |some (.int k)=>∃ m,xs=[.lit (.int k m)]∧(Lit.int k m).wf=true
  |some .string=>∃ s,xs=[.lit (.string s)]∧s.size≤maxLen
  |some (.slice e)=>∃ es,xs=[.sl es]∧es.length≤maxLen∧∀ x∈es,x.length=P.cellsOf e∧Shp P n e x
  |some (.struct fs)=>xs.length=P.cellsOf t∧∀ f∈fs.toList,Shp P n f.type ((xs.drop f.offset).take (P.cellsOf f.type))
  |some (.array m e)=>xs.length=P.cellsOf t∧∀ i,i<m→Shp P n e ((xs.drop (i*P.cellsOf e)).take (P.cellsOf e))
  |_=>False
def xU (w:World):Ft:=fun b _=>b<w.heap.size
def CsR (w:World) (cs:List Value) (xs:List C):Prop:=xs.length=cs.length∧∀ (j:Nat) (v:Value) (x:C),cs[j]?=some v→xs[j]?=some x→CR (xU w) w v x
theorem CsR.one {v:Value} {x:C} (h:CR (xU w) w v x):CsR w [v] [x]:=⟨rfl,fun j u y hu hy=>by
 cases j with
 |zero=>simp at hu hy;subst hu;subst hy;exact h
 |succ j=>simp at hu⟩
theorem CsR.append {a b:List Value} {x y:List C} (h:CsR w a x) (k:CsR w b y):CsR w (a++b) (x++y):=by
 refine⟨by simp[h.1,k.1],fun j v c hv hc=>?_⟩
 by_cases hj:j<a.length
 ·rw[az hj] at hv
  rw[az (by rw[h.1];exact hj)] at hc
  exact h.2 j v c hv hc
 ·rw[aH (by omega)] at hv
  rw[aH (by rw[h.1];omega),h.1] at hc
  exact k.2 _ v c hv hc
theorem D3:∀ {ps:List (Nat×TypeId)} {off tot:Nat},sN P ps off tot=true→off≤tot∧∀ p∈ps,off≤p.1∧p.1+P.cellsOf p.2≤tot
 |[],off,tot,h=>by simp only[sN,bJ] at h;exact⟨by omega,by simp⟩
 |(o,t)::r,off,tot,h=>by
  simp only[sN,aS,bJ] at h
  obtain⟨h1,h2⟩:=D3 h.2
  refine⟨by omega,fun p hp=>?_⟩
  rcases aK.1 hp with rfl | hp
  ·exact⟨by omega,by simp only;omega⟩
  ·have:=h2 p hp;exact⟨by omega,this.2⟩
theorem y5 {n:Nat}:∀ (ps:List (Nat×TypeId)) (pc:List (List C)) (off:Nat) (cs:List Value),sN P ps off cs.length=true→pc.length=ps.length→
 (∀ (i:Nat) (p:Nat×TypeId) (x:List C),ps[i]?=some p→pc[i]?=some x→CsR w ((cs.drop p.1).take (P.cellsOf p.2)) x∧Shp P n p.2 x)→
 CsR w (cs.drop off) pc.flatten∧∀ p∈ps,Shp P n p.2 ((pc.flatten.drop (p.1 - off)).take (P.cellsOf p.2))
 |[],[],off,cs,hc,_,_=>by
  simp only[sN,bJ] at hc
  exact⟨⟨by simp[hc],fun j v x hv hx=>by simp at hx⟩,by simp⟩
 |(o,t)::r,xf::pc,off,cs,hc,Md,h=>by
  have Dj:=hc
  simp only[sN,aS,bJ] at hc
  obtain⟨rfl,hc⟩:=hc
  obtain⟨hl,eF⟩:=D3 hc
  obtain⟨h1,h2⟩:=y5 r pc _ cs hc (by simpa using Md) (fun i p x hp hx=>h (i+1) p x (by simpa using hp) (by simpa using hx))
  obtain⟨h3,h4⟩:=h 0 (o,t) xf rfl rfl
  simp only at h3 h4
  have cg:xf.length=P.cellsOf t:=by rw[h3.1];simp;omega
  simp only[cU]
  refine⟨?_,fun p hp=>?_⟩
  ·have:cs.drop o=(cs.drop o).take (P.cellsOf t)++cs.drop (o+P.cellsOf t):=by
    rw[← gb,dI]
   rw[this]
   exact h3.append h1
  ·rcases aK.1 hp with rfl | hp
   ·simp only[lE,cd]
    rw[← cg,List.take_left];exact h4
   ·have h5:=eF p hp
    have h6:=h2 p hp
    have e:(xf++pc.flatten).drop (p.1 - o)=pc.flatten.drop (p.1 - (o+P.cellsOf t)):=by
     rw[List.drop_append,List.drop_eq_nil_of_le (by omega),eI,cg]
     congr 1;omega
    rw[e];exact h6
 |[],_::_,_,_,_,h,_=>by simp at h
 |_::_,[],_,_,_,h,_=>by simp at h
mutual
def nf {H:Type}:DataW H→Option (List C)
 | .lit (.bool b)=>some [.lit (.bool b)]
 | .lit (.int k n)=>some [.lit (.int k n)]
 | .lit (.string s)=>some [.lit (.string ⟨s.toArray⟩)]
 | .nil=>some [.sl []]
 | .slice es _=>match rR es with
  |some l=>some [.sl l]
  |none=>none
 | .agg ds=>match rR ds with
  |some l=>some l.flatten
  |none=>none
 |_=>none
def rR {H:Type}:List (DataW H)→Option (List (List C))
 |[]=>some []
 |d::r=>match nf d,rR r with
  |some a,some b=>some (a::b)
  |_,_=>none
end
theorem xW {H:Type}:∀ {ds:List (DataW H)} {es:List (List C)},es.length=ds.length→(∀ (i:Nat) (d:DataW H) (x:List C),ds[i]?=some d→es[i]?=some x→nf d=some x)→rR ds=some es
 |[],[],_,_=>by unfold rR;rfl
 |d::ds,e::es,hl,h=>by
  have h1:=h 0 d e rfl rfl
  have h2:=xW (ds:=ds) (es:=es) (by simpa using hl) fun i d x hd hx=>h (i+1) d x (by simpa using hd) (by simpa using hx)
  unfold rR
  rw[h1,h2]
 |[],_::_,hl,_=>by simp at hl
 |_::_,[],hl,_=>by simp at hl
theorem Pw {a:Addr} {v:Value} (h:w.cell? a=some v):a.spot=none∧a.block<w.heap.size:=by
 unfold World.cell? at h
 split at h
 ·rename_i c t f hh
  refine⟨?_,(bh.1 hh).1⟩
  split at h
  ·cases h
  ·rename_i hs;simpa using hs
 ·cases h
theorem F6 {α:Type} {R:Nat→α→Prop}:∀ (n:Nat),(∀ i,i<n→∃ y,R i y)→∃ l:List α,l.length=n∧∀ i y,l[i]?=some y→R i y
 |0,_=>⟨[],rfl,by simp⟩
 |n+1,h=>by
  obtain⟨l,h1,h2⟩:=F6 n fun i hi=>h i (by omega)
  obtain⟨y,hy⟩:=h n (by omega)
  refine⟨l++[y],by simp[h1],fun i z hz=>?_⟩
  by_cases hi:i<l.length
  ·rw[az hi] at hz;exact h2 i z hz
  ·rw[aH (by omega)] at hz
   have:i - l.length=0:=by
    have:=(ah.1 hz).1
    simp at this;omega
   rw[this] at hz
   simp at hz
   have e:i=n:=by omega
   subst hz;rw[e];exact hy
theorem zL {L:List TypeId} (hL:sO P L=true) {CH:Bool}:∀ (n:Nat) (t:TypeId) (cs:List Value) (x:DataW H×List MemPlace),t∈L→DataW.trod enc P w base spare CH n t cs=some x→
 ∃ xs,CsR w cs xs∧Shp P n t xs∧nf x.1=some xs:=by
 intro n
 induction n with
 |zero=>intro t cs x _ h;cases h
 |succ n ih=>
  intro t cs x ht h
  have hp:=ba.1 hL t ht
  unfold DataW.trod at h
  unfold Shp
  cases hu:P.underlying t with
  |none=>rw[hu] at hp;cases hp
  |some d=>
   rw[hu] at hp h
   cases d<;>simp only at hp h<;>try (cases hp;done)
   case bool=>
    split at h<;>first | (cases h;done) | skip
    all_goals (rename_i hd;simp only[ao,reduceCtorEq] at hd)
    simp only[ao] at h;subst h
    exact⟨_,.one (.lit _ rfl),⟨_,rfl⟩,by simp[nf]⟩
   case int k=>
    split at h<;>first | (cases h;done) | skip
    all_goals (rename_i hd;simp only[ao,reduceCtorEq,TypeDesc.int.injEq] at hd)
    subst hd
    split at h
    ·rename_i hk
     obtain⟨rfl,hw⟩:=hk
     simp only[ao] at h;subst h
     exact⟨_,.one (.lit _ rfl),⟨_,rfl,hw⟩,by simp[nf]⟩
    ·cases h
   case string=>
    split at h<;>first | (cases h;done) | skip
    all_goals (rename_i hd;simp only[ao,reduceCtorEq] at hd)
    split at h
    ·rename_i hs
     simp only[ao] at h;subst h
     exact⟨_,.one (.lit _ rfl),⟨_,rfl,hs⟩,by simp[nf]⟩
    ·cases h
   case slice e=>
    simp only[aS,iG,bJ] at hp
    split at h<;>first | (cases h;done) | skip
    all_goals (rename_i hd;simp only[ao,reduceCtorEq,TypeDesc.slice.injEq] at hd)
    ·simp only[ao] at h;subst h
     exact⟨_,.one (.nil none 0 (fun _=>rfl)),⟨_,rfl,by simp,by simp⟩,by simp[nf]⟩
    ·subst hd
     rename_i a len cap
     split at h
     ·rename_i hb
      obtain⟨hb1,hb2,hb3⟩:=hb
      simp only[iL] at h
      obtain⟨elems,Qp,hx⟩:=h
      have hxe:∃ rest,x.1=.slice (elems.map (·.1)) rest:=by
       simp only[aW] at hx
       obtain⟨rest,_,rfl⟩:=hx
       exact⟨_,rfl⟩
      obtain⟨rest,hxe⟩:=hxe
      rw[hxe]
      have ajv:elems.length=len:=by have:=List.mapM_eq_some_length Qp;simpa using this
      by_cases h0:len=0
      ·subst h0
       have:elems=[]:=du ajv
       subst this
       exact⟨[.sl []],.one (.nil (some a) cap (fun h=>by cases h)),⟨[],rfl,by simp,by simp⟩,by simp[nf,rR]⟩
      have key:∀ i,i<len→∃ xs:List C,∃ cs',w.cells? base (a.add (i*P.cellsOf e)) (P.cellsOf e)=some cs'∧CsR w cs' xs∧Shp P n e xs∧∀ y,elems[i]?=some y→nf y.1=some xs:=fun i hi=>by
       obtain⟨i',sy,hy⟩:=List.mapM_eq_some_get Qp i _ (ae (show i<elems.length by omega))
       rw[iT hi,ao] at sy
       subst sy
       generalize hye:elems[i]=y at hy
       simp only[iL] at hy
       obtain⟨cs',h1,h2⟩:=hy
       obtain⟨xs,h3,h4,h5⟩:=ih e cs' y hp.1 h2
       refine⟨xs,cs',h1,h3,h4,fun y' Qg=>?_⟩
       rw[ae (show i<elems.length by omega),hye,ao] at Qg
       subst Qg;exact h5
      obtain⟨es,pg,hR⟩:=F6 len key
      have fW:0<P.cellsOf e:=Nat.pos_of_ne_zero hp.2
      have cellAt:∀ i j,i<len→j<P.cellsOf e→∃ v,w.cell? ((a.add (i*P.cellsOf e)).add j)=some v:=fun i j hi hj=>by
       obtain⟨xs,cs',h1,_⟩:=key i hi
       obtain⟨_,h5,h6⟩:=World.cells?_some h1
       rw[h6 j hj]
       exact⟨_,ae (by omega)⟩
      obtain⟨v0,Mk⟩:=cellAt 0 0 (by omega) fW
      have hs0:=Pw Mk
      obtain⟨b,off,spot⟩:=a
      simp only[Nat.zero_mul,Addr.add,db] at hs0
      obtain⟨rfl,WC⟩:=hs0
      refine⟨[.sl es],.one ?_,⟨es,rfl,by omega,fun x hx=>?_⟩,?_⟩
      ·have:=CR.sl (I:=xU w) (w:=w) b off cap (P.cellsOf e) es (fun i j=>(w.cell? ⟨b,off+i*P.cellsOf e+j,none⟩).getD undef) (by omega) (fun x hx=>by
        obtain⟨i,hi,rfl⟩:=iF.1 hx
        obtain⟨cs',h1,h2,_⟩:=hR i _ (ae hi)
        rw[h2.1,(World.cells?_some h1).2.1]) (fun i j hi hj=>by
        obtain⟨v,hv⟩:=cellAt i j (by omega) hj
        rw[c9,c9] at hv
        exact⟨by rw[hv];rfl,WC⟩) (fun i j x c hx hc=>by
        obtain⟨cs',h1,h2,_⟩:=hR i _ hx
        obtain⟨_,h5,h6⟩:=World.cells?_some h1
        have hj:j<P.cellsOf e:=by
         have:=(ah.1 hc).1
         rw[h2.1,h5] at this;exact this
        have h7:=h6 j hj
        rw[c9,c9] at h7
        simp only[h7,ae (show j<cs'.length by omega),cx]
        exact h2.2 j _ c (ae (by omega)) hc)
       rw[pg] at this
       exact this
      ·obtain⟨i,hi,rfl⟩:=iF.1 hx
       obtain⟨cs',h1,h2,h3,_⟩:=hR i _ (ae hi)
       exact⟨by rw[h2.1,(World.cells?_some h1).2.1],h3⟩
      ·have:=xW (ds:=elems.map (·.1)) (es:=es) (by simp[pg,ajv]) (fun i d x hd hx=>by
        simp only[bb,aW] at hd
        obtain⟨y,hy,rfl⟩:=hd
        obtain⟨_,_,_,_,h5⟩:=hR i x hx
        exact h5 y hy)
       simp only[nf,this]
     ·cases h
   case struct fs=>
    simp only[aS,ba,iG,bJ] at hp
    split at h
    ·rename_i hl
     simp only[aW] at h
     obtain⟨ys,uS,rfl⟩:=h
     have hyl:ys.length=fs.toList.length:=List.mapM_eq_some_length uS
     obtain⟨pc,JB,hpc⟩:=F6 (R:=fun i (x:List C)=>∀ f,fs.toList[i]?=some f→(CsR w ((cs.drop f.offset).take (P.cellsOf f.type)) x∧Shp P n f.type x)∧∀ y,ys[i]?=some y→nf y.1=some x) fs.toList.length (fun i hi=>by
      obtain⟨f,hf,hy⟩:=List.mapM_eq_some_get uS i _ (ae (show i<ys.length by omega))
      obtain⟨x,h3,h4,h5⟩:=ih f.type _ _ (hp.1 f (aQ hf)) hy
      refine⟨x,fun f' GF=>?_⟩
      rw[hf,ao] at GF
      subst GF
      refine⟨⟨h3,h4⟩,fun y Qg=>?_⟩
      rw[ae (show i<ys.length by omega),ao] at Qg
      subst Qg;exact h5)
     obtain⟨h1,h2⟩:=y5 (w:=w) (n:=n) (fs.toList.map fun f=>(f.offset,f.type)) pc 0 cs (by rw[hl];exact hp.2) (by simp[JB]) (fun i p x hp' hx=>by
      simp only[bb,aW] at hp'
      obtain⟨f,hf,rfl⟩:=hp'
      exact(hpc i x hx f hf).1)
     rw[cd] at h1
     refine⟨pc.flatten,h1,⟨by rw[h1.1,hl],fun f hf=>?_⟩,?_⟩
     ·have:=h2 (f.offset,f.type) (bj.2 ⟨f,hf,rfl⟩)
      simpa using this
     ·have:=xW (ds:=ys.map (·.1)) (es:=pc) (by simp[JB,hyl]) (fun i d x hd hx=>by
       simp only[bb,aW] at hd
       obtain⟨y,hy,rfl⟩:=hd
       have hi:i<fs.toList.length:=by have:=(ah.1 hx).1;omega
       exact(hpc i x hx _ (ae hi)).2 y hy)
      simp only[nf,this]
    ·cases h
   case array m e=>
    simp only[aS,iG,bJ] at hp
    split at h
    ·rename_i hl
     simp only[aW] at h
     obtain⟨ys,uS,rfl⟩:=h
     have hyl:ys.length=m:=by have:=List.mapM_eq_some_length uS;simpa using this
     obtain⟨pc,JB,hpc⟩:=F6 (R:=fun i (x:List C)=>(CsR w ((cs.drop (i*P.cellsOf e)).take (P.cellsOf e)) x∧Shp P n e x)∧∀ y,ys[i]?=some y→nf y.1=some x) m (fun i hi=>by
      obtain⟨i',sy,hy⟩:=List.mapM_eq_some_get uS i _ (ae (show i<ys.length by omega))
      rw[iT hi,ao] at sy
      subst sy
      obtain⟨x,h3,h4,h5⟩:=ih e _ _ hp.1 hy
      refine⟨x,⟨h3,h4⟩,fun y Qg=>?_⟩
      rw[ae (show i<ys.length by omega),ao] at Qg
      subst Qg;exact h5)
     obtain⟨h1,h2⟩:=y5 (w:=w) (n:=n) (xT P m e) pc 0 cs (by rw[hl];exact hp.2) (by simp[JB,xT]) (fun i p x hp' hx=>by
      unfold xT at hp'
      simp only[bb,aW] at hp'
      obtain⟨i',sy,rfl⟩:=hp'
      have hi:i<m:=by have:=(ah.1 sy).1;simpa using this
      rw[iT hi,ao] at sy
      subst sy
      exact(hpc i x hx).1)
     rw[cd] at h1
     refine⟨pc.flatten,h1,⟨by rw[h1.1,hl],fun i hi=>?_⟩,?_⟩
     ·have:=h2 (i*P.cellsOf e,e) (bj.2 ⟨i,df.2 hi,rfl⟩)
      simpa using this
     ·have:=xW (ds:=ys.map (·.1)) (es:=pc) (by simp[JB,hyl]) (fun i d x hd hx=>by
       simp only[bb,aW] at hd
       obtain⟨y,hy,rfl⟩:=hd
       exact(hpc i x hx).2 y hy)
      simp only[nf,this]
    ·cases h
def oc (P:Program) (t:TypeId) (xs:List C):V:=if cZ P t then .agg xs else .c (xs.getD 0 default)
theorem F7:∀ {n:Nat} {t:TypeId} {xs:List C},Shp P n t xs→cZ P t=false→∃ x,xs=[x]
 |0,_,_,h,_=>h.elim
 |n+1,t,xs,h,ha=>by
  unfold Shp at h
  unfold cZ at ha
  split at h
  ·obtain⟨b,rfl⟩:=h;exact⟨_,rfl⟩
  ·obtain⟨b,rfl,_⟩:=h;exact⟨_,rfl⟩
  ·obtain⟨b,rfl,_⟩:=h;exact⟨_,rfl⟩
  ·obtain⟨b,rfl,_⟩:=h;exact⟨_,rfl⟩
  ·rename_i hu;rw[hu] at ha;cases ha
  ·rename_i hu;rw[hu] at ha;cases ha
  ·exact h.elim
theorem MV {L:List TypeId} (hL:sO P L=true) {CH:Bool} {t:TypeId} {v:Value} {d:DataW H} {p:List MemPlace} (ht:t∈L) (h:DataW.Trod enc P w base spare CH t v d p) {b:Nat} (eH:Value.okWide P w .any b t v) :
 ∃ n xs,Shp P n t xs∧DR (xU w) w v (oc P t xs):=by
 obtain⟨n,h⟩:=h
 obtain⟨xs,h1,h2,_⟩:=zL hL n t _ _ ht h
 refine⟨n,xs,h2,?_⟩
 unfold oc
 by_cases ha:cZ P t=true
 ·rw[if_pos ha]
  have:∃ cs,v=.agg cs:=by
   unfold cZ at ha
   unfold Value.okWide at eH
   split at ha
   ·rename_i hu;rw[hu] at eH;obtain⟨cs,e,_⟩:=eH;exact⟨cs,e⟩
   ·rename_i hu;rw[hu] at eH;obtain⟨cs,e,_⟩:=eH;exact⟨cs,e⟩
   ·cases ha
  obtain⟨cs,rfl⟩:=this
  simp only[Value.cells] at h1
  refine .agg cs xs (by rw[h1.1];simp) fun j c hc=>?_
  have hj:j<cs.size:=by have:=(ah.1 hc).1;rw[h1.1] at this;simpa using this
  have:=h1.2 j cs[j] c (by simp[hj]) hc
  simpa[hj] using this
 ·have ha:cZ P t=false:=by simpa using ha
  rw[if_neg (by simp[ha])]
  obtain⟨x,rfl⟩:=F7 h2 ha
  have hl:=h1.1
  simp only[aZ,aU,aX] at hl
  have hv:v.cells=#[v]:=by
   cases v<;>try rfl
   rename_i cs
   simp only[Value.cells] at h1 hl
   exfalso
   unfold Value.okWide at eH
   unfold cZ at ha
   split at eH
   ·rename_i hu;rw[hu] at ha;cases ha
   ·rename_i hu;rw[hu] at ha;cases ha
   ·rename_i n1 n2
    unfold Shp at h2
    cases n with
    |zero=>exact h2
    |succ n=>
     simp only at h2
     unfold Cell.okWide Cell.ok at eH
     cases hu:P.underlying t with
     |none=>rw[hu] at h2;exact h2
     |some dd=>rw[hu] at eH h2;cases dd<;>simp_all
  rw[hv] at h1
  exact .c v x (h1.2 0 v x (by simp) rfl)
def vm (P:Program):List TypeId→List V→Prop
 |[],[]=>True
 |t::ts,x::xs=>(∃ n cs,Shp P n t cs∧x=oc P t cs)∧vm P ts xs
 |_,_=>False
theorem Ih {L:List TypeId} (hL:sO P L=true) {CH:Bool} {b:Nat}:∀ (ts:List TypeId) (vs:List Value) (ds:List (DataW H)) (p:List MemPlace),(∀ t∈ts,t∈L)→DataW.TrodAll enc P w base spare CH ts vs ds p→
 (∀ (j:Nat) (t:TypeId) (v:Value),ts[j]?=some t→vs[j]?=some v→Value.okWide P w .any b t v)→
 ∃ xs,vm P ts xs∧xs.length=vs.length∧∀ (j:Nat) (x:V),xs[j]?=some x→DR (xU w) w (vs.getD j undef) x
 |[],[],[],_,_,_,_=>⟨[],trivial,rfl,by simp⟩
 |t::ts,v::vs,d::ds,p,gC,h,eH=>by
  obtain⟨p',q,h1,h2,_⟩:=h
  obtain⟨n,xs,h3,h4⟩:=MV hL (gC t (a8 ..)) h1 (eH 0 t v rfl rfl)
  obtain⟨ys,h5,h6,h7⟩:=Ih hL ts vs ds q (fun u hu=>gC u (aD _ hu)) h2 (fun j u x hu hx=>eH (j+1) u x (by simpa using hu) (by simpa using hx))
  refine⟨oc P t xs::ys,⟨⟨n,xs,h3,rfl⟩,h5⟩,by simp[h6],fun j x hx=>?_⟩
  cases j with
  |zero=>simp at hx;subst hx;exact h4
  |succ j=>simpa using h7 j x (by simpa using hx)
 |[],[],_::_,_,_,h,_=>h.elim
 |[],_::_,_,_,_,h,_=>h.elim
 |_::_,[],_,_,_,h,_=>h.elim
 |_::_,_::_,[],_,_,h,_=>h.elim
theorem pO {CH:Bool}:∀ {ts:List TypeId} {vs:List Value} {ds:List (DataW H)} {p:List MemPlace},DataW.TrodAll enc P w base spare CH ts vs ds p→ds.length=ts.length
 |[],[],[],_,_=>rfl
 |_::_,_::_,_::_,_,h=>by obtain⟨_,_,_,h2,_⟩:=h;simp[pO h2]
 |[],[],_::_,_,h=>h.elim
 |[],_::_,_,_,h=>h.elim
 |_::_,[],_,_,h=>h.elim
 |_::_,_::_,[],_,h=>h.elim
theorem rl (hl:laidOutB P=true) {W W':World} (hb:Below W.heap.size W W'):∀ {ts:List TypeId} {vs:List Value} {ds:List (DataW H)} {p:List MemPlace},(∀ t∈ts,P.readableRec t=true∧t<P.types.size)→
 DataW.TrodAll enc P W 0 (fun _=>true) true ts vs ds p→DataW.TrodAll enc P W' 0 (fun b=>decide (b<W.heap.size)) true ts vs ds p
 |[],[],[],_,_,h=>h
 |t::ts,v::vs,d::ds,p,hr,h=>by
  have bK:=h.lt
  obtain⟨p',q,h1,h2,rfl⟩:=h
  exact⟨p',q,Below.trod hl (hr t (a8 ..)).1 (hr t (a8 ..)).2 h1 hb (fun x hx=>bK x (ee _ hx)),rl hl hb (fun u hu=>hr u (aD _ hu)) h2,rfl⟩
 |[],[],_::_,_,_,h=>h.elim
 |[],_::_,_,_,_,h=>h.elim
 |_::_,[],_,_,_,h=>h.elim
 |_::_,_::_,[],_,_,h=>h.elim
theorem uC {T:Prop} {W W':World} (h:World.grt T W W' none):Below W.heap.size W W':=⟨h.os,h.tape,h.output,h.size,fun k hk=>h.block k hk (by simp)⟩
theorem Px {gl:Gl} {f:FuncId} {L:List TypeId} (hL:sO P L=true) {ts:List TypeId} {args:Array Value} {ds:List (DataW H)} {p:List MemPlace} {W:World} {b:Nat} (gC:∀ t∈ts,t∈L)
 (hA:DataW.TrodAll enc P W 0 (fun _=>true) true ts args.toList ds p) (eH:∀ (j:Nat) (t:TypeId) (v:Value),ts[j]?=some t→args.toList[j]?=some v→Value.okWide P W .any b t v)
 (hG:GOK gl (xU W) W) (hF:∀ xs:List V,vm P ts xs→FnOK P gl f xs (.c (.lit (.bool true)))):Calls P f args W fun e w'=>e=.returned (.bool true)∧Below W.heap.size W w':=by
 obtain⟨xs,h1,h2,h3⟩:=Ih hL ts _ ds p gC hA eH
 refine ((hF xs h1).2 (xU W) W args (fun _ _ h=>h) hG (by simpa using h2.symm) (fun j x hx=>?_)).mono ?_
 ·have:=h3 j x hx
  have e:args.toList.getD j undef=args.getD j undef:=by rw[aw,aM,aj]
  rw[← e];exact this
 ·rintro e w' ⟨v,I',rfl,hg,_,_,ob,hZ,_⟩
  have:v=.bool true:=hZ.lit
  subst this
  exact⟨rfl,uC hg⟩
theorem xX {C:Checked} {os:Os} {f:FuncId} {fn:Func} {s:ChangeSpec} {laid:List (String×DataW Unit)} {gl:Gl} (own:ownKnob C.prog.godebug=none) (started:os.Started) (noInit:C.prog.inits.idxOf? f=none) (J1:C.prog.funcs[f]?=some fn)
 (witness:∃ (w:World) (tape:Tape) (i:Input),w.os=os∧(w.forCall tape i).Shaped C.prog∧i.vars=[]∧Input.okWide C.prog (w.forCall tape i) .any w.heap.size f i∧
  ((s.pre enc C.prog fn [] false (w.forCall tape i).memory i.args∧laidMetH C.prog laid (w.forCall tape i).memory)∧sizedMet enc C.prog fn (OpenSpec.ofChange s) false (w.forCall tape i).memory i.args)∧
   ({}:Assume).holds C.prog (lone (Frame.enter C.prog f i.args .normal) [] (w.forCall tape i)))
 {L:List TypeId} (hL:sO C.prog L=true) {ts:List TypeId} (nQ:fn.params.toList=ts) (gC:∀ t∈ts,t∈L) (We:laidOutB C.prog=true) (Wg:∀ t∈ts,C.prog.readableRec t=true∧t<C.prog.types.size)
 (JO:s.vars=[]) (Wh:∀ ds:List (DataW H),ds.length=ts.length→s.fn H ds={ results:=[.lit (.bool true)],args:=ds,vars:=[] }) {tb:TypeId} (mX:fn.resultTypes=#[tb]) (Wi:C.prog.underlying tb=some .bool)
 (hG:∀ W:World,laidMetH C.prog laid W→GOK gl (xU W) W) (hF:∀ xs:List V,vm C.prog ts xs→FnOK C.prog gl f xs (.c (.lit (.bool true)))) :
 ReturnsInHanded {} C os f .any (fun w args=>(s.pre enc C.prog fn [] false w args∧laidMetH C.prog laid w)∧sizedMet enc C.prog fn (OpenSpec.ofChange s) false w args) (s.post enc C.prog fn false true false false):=by
 refine returnsInHanded_of_change_and (C:=C) (X:=fun w _=>laidMetH C.prog laid w) (fun _ _ _ hh h=>h.of_heap hh) own started noInit J1 witness ?_
 intro W base args ds gs before ze hW _ _ hLm _
 have hW':=hW
 obtain⟨p,q,hA,hV,rfl,hfz,oZ⟩:=hW
 rw[JO] at hV
 obtain⟨rfl,rfl⟩:=trodVars_none hV
 rw[nQ] at hA
 refine (Px (b:=base) hL gC hA (fun j t v ht hv=>ze j t v (by rw[← aM,nQ];exact ht) (by rw[← aM];exact hv)) (hG W hLm) hF).mono ?_
 rintro e W' ⟨rfl,hb⟩
 have hsp:=Wh ds (pO hA)
 refine⟨_,rfl,ds,[],p++[],[],p,[],hW',?_,?_,?_,hb.frame _,fun h=>by cases h⟩
 ·rw[bq,hsp,mX];exact trodAll_mk1 (shut_bool Wi true)
 ·rw[bq,hsp,nQ];exact rl We hb Wg hA
 ·rw[bq,hsp,JO];rfl
end
open Go Go.RowKit
section
variable {P:Program}
def vG (P:Program) (t:TypeId) (xs:List C):Prop:=∃ n,Shp P n t xs
theorem ada {n:Int} (h:(Lit.int .i64 n).wf=true):I64 n:=by
 simp[Lit.wf,IntKind.min,IntKind.max,IntKind.signed,IntKind.bits] at h
 unfold I64;omega
theorem MW {t:TypeId} {k:IntKind} {xs:List C} (hu:P.underlying t=some (.int k)) (h:vG P t xs):∃ m,xs=[.lit (.int k m)]∧(Lit.int k m).wf=true:=by
 obtain⟨n,h⟩:=h
 cases n with
 |zero=>exact h.elim
 |succ n=>unfold Shp at h;rw[hu] at h;exact h
theorem YG {t:TypeId} {xs:List C} (hu:P.underlying t=some .string) (h:vG P t xs):∃ s,xs=[.lit (.string s)]∧s.size≤maxLen:=by
 obtain⟨n,h⟩:=h
 cases n with
 |zero=>exact h.elim
 |succ n=>unfold Shp at h;rw[hu] at h;exact h
theorem px {t e:TypeId} {xs:List C} (hu:P.underlying t=some (.slice e)) (h:vG P t xs):∃ es,xs=[.sl es]∧es.length≤maxLen∧∀ x∈es,vG P e x:=by
 obtain⟨n,h⟩:=h
 cases n with
 |zero=>exact h.elim
 |succ n=>
  unfold Shp at h;rw[hu] at h
  obtain⟨es,h1,h2,h3⟩:=h
  exact⟨es,h1,h2,fun x hx=>⟨n,(h3 x hx).2⟩⟩
theorem pP {t:TypeId} {fs:Array Field} {xs:List C} (hu:P.underlying t=some (.struct fs)) (h:vG P t xs):xs.length=P.cellsOf t∧∀ f∈fs.toList,vG P f.type ((xs.drop f.offset).take (P.cellsOf f.type)):=by
 obtain⟨n,h⟩:=h
 cases n with
 |zero=>exact h.elim
 |succ n=>
  unfold Shp at h;rw[hu] at h
  exact⟨h.1,fun f hf=>⟨n,h.2 f hf⟩⟩
theorem sP {α:Type} {f:α→List C} {ok:α→Prop}:∀ {es:List (List C)},(∀ x∈es,∃ a,x=f a∧ok a)→∃ l:List α,es=l.map f∧∀ a∈l,ok a
 |[],_=>⟨[],rfl,by simp⟩
 |x::es,h=>by
  obtain⟨a,rfl,ha⟩:=h x (a8 ..)
  obtain⟨l,rfl,hl⟩:=sP (es:=es) fun y hy=>h y (aD _ hy)
  exact⟨a::l,rfl,fun b hb=>by rcases aK.1 hb with rfl | hb;exact ha;exact hl b hb⟩
end
theorem wH (z:BitVec 64):IntKind.i64.wrap (z.toNat:Int)=z.toInt:=by
 have h:=z.isLt
 rw[BitVec.toInt_eq_toNat_cond]
 have hb:IntKind.i64.bits=64:=rfl
 have hs:IntKind.i64.signed=true:=rfl
 have e:((z.toNat:Int) % 2 ^ 64)=z.toNat:=by omega
 unfold IntKind.wrap
 simp only[hb,hs,jX,bJ,e]
 by_cases c:2*z.toNat<2 ^ 64
 ·rw[if_pos c,if_neg (by omega)]
 ·rw[if_neg c,if_pos (by omega)];rfl
theorem Ii (a b:Int):bits .and .i64 a b=(BitVec.ofInt 64 a &&&BitVec.ofInt 64 b).toInt:=wH _
theorem qL (a b:Int):bits .andNot .i64 a b=(BitVec.ofInt 64 a &&&~~~BitVec.ofInt 64 b).toInt:=wH _
theorem Ij {a:Int} (h:I64 a):(BitVec.ofInt 64 a).toInt=a:=by
 obtain⟨h1,h2⟩:=h
 rw[BitVec.toInt_ofInt]
 rw[Int.bmod_def];simp;omega
theorem D4 (x y:BitVec 64):x &&&~~~y=0↔x &&&y=x:=by
 constructor
 ·intro h
  apply iK
  intro i hi
  have:=dK (fun z=>z.getLsbD i) h
  simp at this ⊢
  cases hx:x.getLsbD i<;>cases hy:y.getLsbD i<;>simp_all
 ·intro h
  apply iK
  intro i hi
  have:=dK (fun z=>z.getLsbD i) h
  simp at this ⊢
  cases hx:x.getLsbD i<;>cases hy:y.getLsbD i<;>simp_all
theorem Ll {a b:Int} (ha:I64 a):(bits .andNot .i64 a b=0)↔(bits .and .i64 a b=a):=by
 rw[qL,Ii]
 constructor
 ·intro h
  have h0:BitVec.ofInt 64 a &&&~~~BitVec.ofInt 64 b=0:=jx (by rw[h];rfl)
  rw[(D4 _ _).1 h0,Ij ha]
 ·intro h
  have h0:BitVec.ofInt 64 a &&&BitVec.ofInt 64 b=BitVec.ofInt 64 a:=jx (by rw[h,Ij ha])
  rw[(D4 _ _).2 h0];rfl
section
variable {H:Type} {enc:TypeId×Value→H} {P:Program} {w:World} {base:Nat} {spare:Nat→Bool}
theorem Td {L:List TypeId} (hL:sO P L=true) {CH:Bool} {t:TypeId} {v:Value} {d:DataW H} {p:List MemPlace} (ht:t∈L) (h:DataW.Trod enc P w base spare CH t v d p) {b:Nat} (eH:Value.okWide P w .any b t v) :
 ∃ n xs,Shp P n t xs∧nf d=some xs∧DR (xU w) w v (oc P t xs):=by
 obtain⟨n,h⟩:=h
 obtain⟨xs,h1,h2,h3⟩:=zL hL n t _ _ ht h
 obtain⟨n',xs',k1,k2⟩:=MV (H:=H) (enc:=enc) hL ht ⟨n,h⟩ eH
 refine⟨n,xs,h2,h3,?_⟩
 unfold oc
 by_cases ha:cZ P t=true
 ·rw[if_pos ha]
  unfold oc at k2
  rw[if_pos ha] at k2
  have:∃ cs,v=.agg cs:=by
   cases k2 with
   |agg cs _ _ _=>exact⟨cs,rfl⟩
  obtain⟨cs,rfl⟩:=this
  simp only[Value.cells] at h1
  refine .agg cs xs (by rw[h1.1];simp) fun j c hc=>?_
  have hj:j<cs.size:=by have:=(ah.1 hc).1;rw[h1.1] at this;simpa using this
  have:=h1.2 j cs[j] c (by simp[hj]) hc
  simpa[hj] using this
 ·have ha:cZ P t=false:=by simpa using ha
  rw[if_neg (by simp[ha])]
  unfold oc at k2
  rw[if_neg (by simp[ha])] at k2
  obtain⟨x,rfl⟩:=F7 h2 ha
  obtain⟨x',rfl⟩:=F7 k1 ha
  have iW:CR (xU w) w v x':=by
   cases k2 with
   |c _ _ h=>exact h
  have hv:v.cells=#[v]:=iW.notAgg
  rw[hv] at h1
  exact .c v x (h1.2 0 v x (by simp) rfl)
def D5 {H:Type} (P:Program):List TypeId→List (DataW H)→List V→Prop
 |[],[],[]=>True
 |t::ts,d::ds,x::xs=>(∃ n cs,Shp P n t cs∧nf d=some cs∧x=oc P t cs)∧D5 P ts ds xs
 |_,_,_=>False
theorem D6 {L:List TypeId} (hL:sO P L=true) {CH:Bool} {b:Nat}:∀ (ts:List TypeId) (vs:List Value) (ds:List (DataW H)) (p:List MemPlace),(∀ t∈ts,t∈L)→DataW.TrodAll enc P w base spare CH ts vs ds p→
 (∀ (j:Nat) (t:TypeId) (v:Value),ts[j]?=some t→vs[j]?=some v→Value.okWide P w .any b t v)→
 ∃ xs,D5 P ts ds xs∧xs.length=vs.length∧∀ (j:Nat) (x:V),xs[j]?=some x→DR (xU w) w (vs.getD j undef) x
 |[],[],[],_,_,_,_=>⟨[],trivial,rfl,by simp⟩
 |t::ts,v::vs,d::ds,p,gC,h,eH=>by
  obtain⟨p',q,h1,h2,_⟩:=h
  obtain⟨n,xs,h3,hd,h4⟩:=Td hL (gC t (a8 ..)) h1 (eH 0 t v rfl rfl)
  obtain⟨ys,h5,h6,h7⟩:=D6 hL ts vs ds q (fun u hu=>gC u (aD _ hu)) h2 (fun j u x hu hx=>eH (j+1) u x (by simpa using hu) (by simpa using hx))
  refine⟨oc P t xs::ys,⟨⟨n,xs,h3,hd,rfl⟩,h5⟩,by simp[h6],fun j x hx=>?_⟩
  cases j with
  |zero=>simp at hx;subst hx;exact h4
  |succ j=>simpa using h7 j x (by simpa using hx)
 |[],[],_::_,_,_,h,_=>h.elim
 |[],_::_,_,_,_,h,_=>h.elim
 |_::_,[],_,_,_,h,_=>h.elim
 |_::_,_::_,[],_,_,h,_=>h.elim
theorem Py {f:FuncId} {fn:Func} {s:ChangeSpec} {gl:Gl} {L:List TypeId} (hL:sO P L=true) {ts:List TypeId} (nQ:fn.params.toList=ts) (gC:∀ t∈ts,t∈L) (We:laidOutB P=true) (Wg:∀ t∈ts,P.readableRec t=true∧t<P.types.size)
 (JO:s.vars=[]) (Wh:∀ ds:List (DataW H),ds.length=ts.length→s.fn H ds={ results:=[.lit (.bool true)],args:=ds,vars:=[] }) {tb:TypeId} (mX:fn.resultTypes=#[tb]) (Wi:P.underlying tb=some .bool)
 {W:World} {base:Nat} {args:Array Value} {ds gs:List (DataW H)} {before:List MemPlace} (ze:∀ (j:Nat) t v,fn.params[j]?=some t→args[j]?=some v→Value.okWide P W .any base t v)
 (hW:DataW.Whole enc P fn.params.toList s.vars false W args.toList ds gs before) (hG:GOK gl (xU W) W) (hF:∀ xs:List V,gs=[]→D5 P ts ds xs→FnOK P gl f xs (.c (.lit (.bool true)))) :
 Calls P f args W fun e W'=>∃ v,e=.returned v∧s.post enc P fn false true false false W args v W':=by
 have hW':=hW
 obtain⟨p,q,hA,hV,rfl,hfz,oZ⟩:=hW
 rw[JO] at hV
 obtain⟨rfl,rfl⟩:=trodVars_none hV
 rw[nQ] at hA
 obtain⟨xs,h1,h2,h3⟩:=D6 hL ts _ ds p gC hA (fun j t v ht hv=>ze j t v (by rw[← aM,nQ];exact ht) (by rw[← aM];exact hv))
 refine ((hF xs rfl h1).2 (xU W) W args (fun _ _ h=>h) hG (by simpa using h2.symm) (fun j x hx=>?_)).mono ?_
 ·have:=h3 j x hx
  have e:args.toList.getD j undef=args.getD j undef:=by rw[aw,aM,aj]
  rw[← e];exact this
 ·rintro e W' ⟨v,I',rfl,hg,_,_,ob,hZ,_⟩
  have:v=.bool true:=hZ.lit
  subst this
  have hb:=uC hg
  have hsp:=Wh ds (pO hA)
  refine⟨_,rfl,ds,[],p++[],[],p,[],hW',?_,?_,?_,hb.frame _,fun h=>by cases h⟩
  ·rw[bq,hsp,mX];exact trodAll_mk1 (shut_bool Wi true)
  ·rw[bq,hsp,nQ];exact rl We hb Wg hA
  ·rw[bq,hsp,JO];rfl
