/- Values without memory: from what a law's arguments read as to values, and from a contract to the law's row. -/
import Derived.Test.YtegbpjodbjhjeaaGreatDoorVlRunB
import Derived.Test.YtegbpjodbjhjeaaGreatDoorVlWord
import Derived.ProofKit
import Derived.LaidMore
import Derived.Stop.Joined
import Derived.Deep.Slices
set_option linter.all false
namespace Go.Vl
open Go Go.RowKit Go.ChangeShapes
section
variable {H:Type} {enc:TypeId×Value→H} {P:Program} {w:World} {base:Nat} {spare:Nat→Bool}
def qW (P:Program):List (Nat×TypeId)→Nat→Nat→Bool
 |[],off,tot=>decide (off=tot)
 |(o,t)::r,off,tot=>decide (o=off)&&qW P r (off+P.cellsOf t) tot
def vL (P:Program) (m:Nat) (e:TypeId):List (Nat×TypeId):=(List.range m).map fun i=>(i*P.cellsOf e,e)
def uG (P:Program) (L:List TypeId):Bool:=L.all fun t=>match P.underlying t with
 |some .bool | some (.int _) | some .string=>true
 |some (.slice e)=>L.contains e&&decide (P.cellsOf e≠0)
 |some (.struct fs)=>fs.toList.all (fun f=>L.contains f.type)&&qW P (fs.toList.map fun f=>(f.offset,f.type)) 0 (P.cellsOf t)
 |some (.array m e)=>L.contains e&&qW P (vL P m e) 0 (P.cellsOf t)
 |_=>false
def Shp (P:Program):Nat→TypeId→List C→Prop
 |0,_,_=>False
 |n+1,t,xs=>match P.underlying t with
  |some .bool=>∃ b,xs=[.lit (.bool b)]
  |some (.int k)=>∃ m,xs=[.lit (.int k m)]∧(Lit.int k m).wf=true
  |some .string=>∃ s,xs=[.lit (.string s)]∧s.size≤maxLen
  |some (.slice e)=>∃ es,xs=[.sl es]∧es.length≤maxLen∧∀ x∈es,x.length=P.cellsOf e∧Shp P n e x
  |some (.struct fs)=>xs.length=P.cellsOf t∧∀ f∈fs.toList,Shp P n f.type ((xs.drop f.offset).take (P.cellsOf f.type))
  |some (.array m e)=>xs.length=P.cellsOf t∧∀ i,i<m→Shp P n e ((xs.drop (i*P.cellsOf e)).take (P.cellsOf e))
  |_=>False
def zW (w:World):Ft:=fun b _=>b<w.heap.size
def CsR (w:World) (cs:List Value) (xs:List C):Prop:=xs.length=cs.length∧∀ (j:Nat) (v:Value) (x:C),cs[j]?=some v→xs[j]?=some x→CR (zW w) w v x
theorem CsR.one {v:Value} {x:C} (h:CR (zW w) w v x):CsR w [v] [x]:=⟨rfl,fun j u y hu hy=>by
 cases j with
 |zero=>simp at hu hy;subst hu;subst hy;exact h
 |succ j=>simp at hu⟩
theorem CsR.append {a b:List Value} {x y:List C} (h:CsR w a x) (k:CsR w b y):CsR w (a++b) (x++y):=by
 refine⟨by simp[h.1,k.1],fun j v c hv hc=>?_⟩
 by_cases hj:j<a.length
 ·rw[aC hj] at hv
  rw[aC (by rw[h.1];exact hj)] at hc
  exact h.2 j v c hv hc
 ·rw[aJ (by omega)] at hv
  rw[aJ (by rw[h.1];omega),h.1] at hc
  exact k.2 _ v c hv hc
theorem BX:∀ {ps:List (Nat×TypeId)} {off tot:Nat},qW P ps off tot=true→off≤tot∧∀ p∈ps,off≤p.1∧p.1+P.cellsOf p.2≤tot
 |[],off,tot,h=>by simp only[qW,bi] at h;exact⟨by omega,by simp⟩
 |(o,t)::r,off,tot,h=>by
  simp only[qW,aG,bi] at h
  obtain⟨h1,h2⟩:=BX h.2
  refine⟨by omega,fun p hp=>?_⟩
  rcases bw.1 hp with rfl | hp
  ·exact⟨by omega,by simp only;omega⟩
  ·have:=h2 p hp;exact⟨by omega,this.2⟩
theorem xg {n:Nat}:∀ (ps:List (Nat×TypeId)) (pc:List (List C)) (off:Nat) (cs:List Value),qW P ps off cs.length=true→pc.length=ps.length→
 (∀ (i:Nat) (p:Nat×TypeId) (x:List C),ps[i]?=some p→pc[i]?=some x→CsR w ((cs.drop p.1).take (P.cellsOf p.2)) x∧Shp P n p.2 x)→
 CsR w (cs.drop off) pc.flatten∧∀ p∈ps,Shp P n p.2 ((pc.flatten.drop (p.1 - off)).take (P.cellsOf p.2))
 |[],[],off,cs,hc,_,_=>by
  simp only[qW,bi] at hc
  exact⟨⟨by simp[hc],fun j v x hv hx=>by simp at hx⟩,by simp⟩
 |(o,t)::r,xf::pc,off,cs,hc,Ia,h=>by
  have yI:=hc
  simp only[qW,aG,bi] at hc
  obtain⟨rfl,hc⟩:=hc
  obtain⟨hl,dh⟩:=BX hc
  obtain⟨h1,h2⟩:=xg r pc _ cs hc (by simpa using Ia) (fun i p x hp hx=>h (i+1) p x (by simpa using hp) (by simpa using hx))
  obtain⟨h3,h4⟩:=h 0 (o,t) xf rfl rfl
  simp only at h3 h4
  have ce:xf.length=P.cellsOf t:=by rw[h3.1];simp;omega
  simp only[dQ]
  refine⟨?_,fun p hp=>?_⟩
  ·have:cs.drop o=(cs.drop o).take (P.cellsOf t)++cs.drop (o+P.cellsOf t):=by
    rw[← fp,dS]
   rw[this]
   exact h3.append h1
  ·rcases bw.1 hp with rfl | hp
   ·simp only[kj,eM]
    rw[← ce,List.take_left];exact h4
   ·have h5:=dh p hp
    have h6:=h2 p hp
    have e:(xf++pc.flatten).drop (p.1 - o)=pc.flatten.drop (p.1 - (o+P.cellsOf t)):=by
     rw[List.drop_append,iP (by omega),fS,ce]
     congr 1;omega
    rw[e];exact h6
 |[],_::_,_,_,_,h,_=>by simp at h
 |_::_,[],_,_,_,h,_=>by simp at h
mutual
def su {H:Type}:DataW H→Option (List C)
 | .lit (.bool b)=>some [.lit (.bool b)]
 | .lit (.int k n)=>some [.lit (.int k n)]
 | .lit (.string s)=>some [.lit (.string ⟨s.toArray⟩)]
 | .nil=>some [.sl []]
 | .slice es _=>match zX es with
  |some l=>some [.sl l]
  |none=>none
 | .agg ds=>match zX ds with
  |some l=>some l.flatten
  |none=>none
 |_=>none
def zX {H:Type}:List (DataW H)→Option (List (List C))
 |[]=>some []
 |d::r=>match su d,zX r with
  |some a,some b=>some (a::b)
  |_,_=>none
end
theorem vM {H:Type}:∀ {ds:List (DataW H)} {es:List (List C)},es.length=ds.length→(∀ (i:Nat) (d:DataW H) (x:List C),ds[i]?=some d→es[i]?=some x→su d=some x)→zX ds=some es
 |[],[],_,_=>by unfold zX;rfl
 |d::ds,e::es,hl,h=>by
  have h1:=h 0 d e rfl rfl
  have h2:=vM (ds:=ds) (es:=es) (by simpa using hl) fun i d x hd hx=>h (i+1) d x (by simpa using hd) (by simpa using hx)
  unfold zX
  rw[h1,h2]
 |[],_::_,hl,_=>by simp at hl
 |_::_,[],hl,_=>by simp at hl
theorem BY {a:Addr} {v:Value} (h:w.cell? a=some v):a.spot=none∧a.block<w.heap.size:=by
 unfold World.cell? at h
 split at h
 ·rename_i c t f hh
  refine⟨?_,(be.1 hh).1⟩
  split at h
  ·cases h
  ·rename_i hs;simpa using hs
 ·cases h
theorem D7 {α:Type} {R:Nat→α→Prop}:∀ (n:Nat),(∀ i,i<n→∃ y,R i y)→∃ l:List α,l.length=n∧∀ i y,l[i]?=some y→R i y
 |0,_=>⟨[],rfl,by simp⟩
 |n+1,h=>by
  obtain⟨l,h1,h2⟩:=D7 n fun i hi=>h i (by omega)
  obtain⟨y,hy⟩:=h n (by omega)
  refine⟨l++[y],by simp[h1],fun i z hz=>?_⟩
  by_cases hi:i<l.length
  ·rw[aC hi] at hz;exact h2 i z hz
  ·rw[aJ (by omega)] at hz
   have:i - l.length=0:=by
    have:=(ak.1 hz).1
    simp at this;omega
   rw[this] at hz
   simp at hz
   have e:i=n:=by omega
   subst hz;rw[e];exact hy
theorem x9 {L:List TypeId} (hL:uG P L=true) {Kt:Bool}:∀ (n:Nat) (t:TypeId) (cs:List Value) (x:DataW H×List MemPlace),t∈L→DataW.trod enc P w base spare Kt n t cs=some x→
 ∃ xs,CsR w cs xs∧Shp P n t xs∧su x.1=some xs:=by
 intro n
 induction n with
 |zero=>intro t cs x _ h;cases h
 |succ n ih=>
  intro t cs x ht h
  have hp:=aW.1 hL t ht
  unfold DataW.trod at h
  unfold Shp
  cases hu:P.underlying t with
  |none=>rw[hu] at hp;cases hp
  |some d=>
   rw[hu] at hp h
   cases d<;>simp only at hp h<;>try (cases hp;done)
   case bool=>
    split at h<;>first | (cases h;done) | skip
    all_goals (rename_i hd;simp only[am,reduceCtorEq] at hd)
    simp only[am] at h;subst h
    exact⟨_,.one (.lit _ rfl),⟨_,rfl⟩,by simp[su]⟩
   case int k=>
    split at h<;>first | (cases h;done) | skip
    all_goals (rename_i hd;simp only[am,reduceCtorEq,TypeDesc.int.injEq] at hd)
    subst hd
    split at h
    ·rename_i hk
     obtain⟨rfl,hw⟩:=hk
     simp only[am] at h;subst h
     exact⟨_,.one (.lit _ rfl),⟨_,rfl,hw⟩,by simp[su]⟩
    ·cases h
   case string=>
    split at h<;>first | (cases h;done) | skip
    all_goals (rename_i hd;simp only[am,reduceCtorEq] at hd)
    split at h
    ·rename_i hs
     simp only[am] at h;subst h
     exact⟨_,.one (.lit _ rfl),⟨_,rfl,hs⟩,by simp[su]⟩
    ·cases h
   case slice e=>
    simp only[aG,gY,bi] at hp
    split at h<;>first | (cases h;done) | skip
    all_goals (rename_i hd;simp only[am,reduceCtorEq,TypeDesc.slice.injEq] at hd)
    ·simp only[am] at h;subst h
     exact⟨_,.one (.nil none 0 (fun _=>rfl)),⟨_,rfl,by simp,by simp⟩,by simp[su]⟩
    ·subst hd
     rename_i a len cap
     split at h
     ·rename_i hb
      obtain⟨hb1,hb2,hb3⟩:=hb
      simp only[iq] at h
      obtain⟨elems,Pb,hx⟩:=h
      have hxe:∃ rest,x.1=.slice (elems.map (·.1)) rest:=by
       simp only[aX] at hx
       obtain⟨rest,_,rfl⟩:=hx
       exact⟨_,rfl⟩
      obtain⟨rest,hxe⟩:=hxe
      rw[hxe]
      have ae1:elems.length=len:=by have:=List.mapM_eq_some_length Pb;simpa using this
      by_cases h0:len=0
      ·subst h0
       have:elems=[]:=co ae1
       subst this
       exact⟨[.sl []],.one (.nil (some a) cap (fun h=>by cases h)),⟨[],rfl,by simp,by simp⟩,by simp[su,zX]⟩
      have key:∀ i,i<len→∃ xs:List C,∃ cs',w.cells? base (a.add (i*P.cellsOf e)) (P.cellsOf e)=some cs'∧CsR w cs' xs∧Shp P n e xs∧∀ y,elems[i]?=some y→su y.1=some xs:=fun i hi=>by
       obtain⟨i',rj,hy⟩:=List.mapM_eq_some_get Pb i _ (aj (show i<elems.length by omega))
       rw[jP hi,am] at rj
       subst rj
       generalize hye:elems[i]=y at hy
       simp only[iq] at hy
       obtain⟨cs',h1,h2⟩:=hy
       obtain⟨xs,h3,h4,h5⟩:=ih e cs' y hp.1 h2
       refine⟨xs,cs',h1,h3,h4,fun y' O0=>?_⟩
       rw[aj (show i<elems.length by omega),hye,am] at O0
       subst O0;exact h5
      obtain⟨es,pz,hR⟩:=D7 len key
      have dR:0<P.cellsOf e:=Nat.pos_of_ne_zero hp.2
      have cellAt:∀ i j,i<len→j<P.cellsOf e→∃ v,w.cell? ((a.add (i*P.cellsOf e)).add j)=some v:=fun i j hi hj=>by
       obtain⟨xs,cs',h1,_⟩:=key i hi
       obtain⟨_,h5,h6⟩:=World.cells?_some h1
       rw[h6 j hj]
       exact⟨_,aj (by omega)⟩
      obtain⟨v0,hv0⟩:=cellAt 0 0 (by omega) dR
      have hs0:=BY hv0
      obtain⟨b,off,spot⟩:=a
      simp only[Nat.zero_mul,Addr.add,cJ] at hs0
      obtain⟨rfl,hbl⟩:=hs0
      refine⟨[.sl es],.one ?_,⟨es,rfl,by omega,fun x hx=>?_⟩,?_⟩
      ·have:=CR.sl (I:=zW w) (w:=w) b off cap (P.cellsOf e) es (fun i j=>(w.cell? ⟨b,off+i*P.cellsOf e+j,none⟩).getD undef) (by omega) (fun x hx=>by
        obtain⟨i,hi,rfl⟩:=gZ.1 hx
        obtain⟨cs',h1,h2,_⟩:=hR i _ (aj hi)
        rw[h2.1,(World.cells?_some h1).2.1]) (fun i j hi hj=>by
        obtain⟨v,hv⟩:=cellAt i j (by omega) hj
        rw[cQ,cQ] at hv
        exact⟨by rw[hv];rfl,hbl⟩) (fun i j x c hx hc=>by
        obtain⟨cs',h1,h2,_⟩:=hR i _ hx
        obtain⟨_,h5,h6⟩:=World.cells?_some h1
        have hj:j<P.cellsOf e:=by
         have:=(ak.1 hc).1
         rw[h2.1,h5] at this;exact this
        have h7:=h6 j hj
        rw[cQ,cQ] at h7
        simp only[h7,aj (show j<cs'.length by omega),bQ]
        exact h2.2 j _ c (aj (by omega)) hc)
       rw[pz] at this
       exact this
      ·obtain⟨i,hi,rfl⟩:=gZ.1 hx
       obtain⟨cs',h1,h2,h3,_⟩:=hR i _ (aj hi)
       exact⟨by rw[h2.1,(World.cells?_some h1).2.1],h3⟩
      ·have:=vM (ds:=elems.map (·.1)) (es:=es) (by simp[pz,ae1]) (fun i d x hd hx=>by
        simp only[ba,aX] at hd
        obtain⟨y,hy,rfl⟩:=hd
        obtain⟨_,_,_,_,h5⟩:=hR i x hx
        exact h5 y hy)
       simp only[su,this]
     ·cases h
   case struct fs=>
    simp only[aG,aW,gY,bi] at hp
    split at h
    ·rename_i hl
     simp only[aX] at h
     obtain⟨ys,uT,rfl⟩:=h
     have hyl:ys.length=fs.toList.length:=List.mapM_eq_some_length uT
     obtain⟨pc,OS,hpc⟩:=D7 (R:=fun i (x:List C)=>∀ f,fs.toList[i]?=some f→(CsR w ((cs.drop f.offset).take (P.cellsOf f.type)) x∧Shp P n f.type x)∧∀ y,ys[i]?=some y→su y.1=some x) fs.toList.length (fun i hi=>by
      obtain⟨f,hf,hy⟩:=List.mapM_eq_some_get uT i _ (aj (show i<ys.length by omega))
      obtain⟨x,h3,h4,h5⟩:=ih f.type _ _ (hp.1 f (bg hf)) hy
      refine⟨x,fun f' yp=>?_⟩
      rw[hf,am] at yp
      subst yp
      refine⟨⟨h3,h4⟩,fun y O0=>?_⟩
      rw[aj (show i<ys.length by omega),am] at O0
      subst O0;exact h5)
     obtain⟨h1,h2⟩:=xg (w:=w) (n:=n) (fs.toList.map fun f=>(f.offset,f.type)) pc 0 cs (by rw[hl];exact hp.2) (by simp[OS]) (fun i p x hp' hx=>by
      simp only[ba,aX] at hp'
      obtain⟨f,hf,rfl⟩:=hp'
      exact(hpc i x hx f hf).1)
     rw[eM] at h1
     refine⟨pc.flatten,h1,⟨by rw[h1.1,hl],fun f hf=>?_⟩,?_⟩
     ·have:=h2 (f.offset,f.type) (bu.2 ⟨f,hf,rfl⟩)
      simpa using this
     ·have:=vM (ds:=ys.map (·.1)) (es:=pc) (by simp[OS,hyl]) (fun i d x hd hx=>by
       simp only[ba,aX] at hd
       obtain⟨y,hy,rfl⟩:=hd
       have hi:i<fs.toList.length:=by have:=(ak.1 hx).1;omega
       exact(hpc i x hx _ (aj hi)).2 y hy)
      simp only[su,this]
    ·cases h
   case array m e=>
    simp only[aG,gY,bi] at hp
    split at h
    ·rename_i hl
     simp only[aX] at h
     obtain⟨ys,uT,rfl⟩:=h
     have hyl:ys.length=m:=by have:=List.mapM_eq_some_length uT;simpa using this
     obtain⟨pc,OS,hpc⟩:=D7 (R:=fun i (x:List C)=>(CsR w ((cs.drop (i*P.cellsOf e)).take (P.cellsOf e)) x∧Shp P n e x)∧∀ y,ys[i]?=some y→su y.1=some x) m (fun i hi=>by
      obtain⟨i',rj,hy⟩:=List.mapM_eq_some_get uT i _ (aj (show i<ys.length by omega))
      rw[jP hi,am] at rj
      subst rj
      obtain⟨x,h3,h4,h5⟩:=ih e _ _ hp.1 hy
      refine⟨x,⟨h3,h4⟩,fun y O0=>?_⟩
      rw[aj (show i<ys.length by omega),am] at O0
      subst O0;exact h5)
     obtain⟨h1,h2⟩:=xg (w:=w) (n:=n) (vL P m e) pc 0 cs (by rw[hl];exact hp.2) (by simp[OS,vL]) (fun i p x hp' hx=>by
      unfold vL at hp'
      simp only[ba,aX] at hp'
      obtain⟨i',rj,rfl⟩:=hp'
      have hi:i<m:=by have:=(ak.1 rj).1;simpa using this
      rw[jP hi,am] at rj
      subst rj
      exact(hpc i x hx).1)
     rw[eM] at h1
     refine⟨pc.flatten,h1,⟨by rw[h1.1,hl],fun i hi=>?_⟩,?_⟩
     ·have:=h2 (i*P.cellsOf e,e) (bu.2 ⟨i,cO.2 hi,rfl⟩)
      simpa using this
     ·have:=vM (ds:=ys.map (·.1)) (es:=pc) (by simp[OS,hyl]) (fun i d x hd hx=>by
       simp only[ba,aX] at hd
       obtain⟨y,hy,rfl⟩:=hd
       exact(hpc i x hx).2 y hy)
      simp only[su,this]
    ·cases h
def Bg (P:Program) (t:TypeId) (xs:List C):V:=if c9 P t then .agg xs else .c (xs.getD 0 default)
theorem We:∀ {n:Nat} {t:TypeId} {xs:List C},Shp P n t xs→c9 P t=false→∃ x,xs=[x]
 |0,_,_,h,_=>h.elim
 |n+1,t,xs,h,ha=>by
  unfold Shp at h
  unfold c9 at ha
  split at h
  ·obtain⟨b,rfl⟩:=h;exact⟨_,rfl⟩
  ·obtain⟨b,rfl,_⟩:=h;exact⟨_,rfl⟩
  ·obtain⟨b,rfl,_⟩:=h;exact⟨_,rfl⟩
  ·obtain⟨b,rfl,_⟩:=h;exact⟨_,rfl⟩
  ·rename_i hu;rw[hu] at ha;cases ha
  ·rename_i hu;rw[hu] at ha;cases ha
  ·exact h.elim
theorem Wg {L:List TypeId} (hL:uG P L=true) {Kt:Bool} {t:TypeId} {v:Value} {d:DataW H} {p:List MemPlace} (ht:t∈L) (h:DataW.Trod enc P w base spare Kt t v d p) {b:Nat} (dI:Value.okWide P w .any b t v) :
 ∃ n xs,Shp P n t xs∧DR (zW w) w v (Bg P t xs):=by
 obtain⟨n,h⟩:=h
 obtain⟨xs,h1,h2,_⟩:=x9 hL n t _ _ ht h
 refine⟨n,xs,h2,?_⟩
 unfold Bg
 by_cases ha:c9 P t=true
 ·rw[if_pos ha]
  have:∃ cs,v=.agg cs:=by
   unfold c9 at ha
   unfold Value.okWide at dI
   split at ha
   ·rename_i hu;rw[hu] at dI;obtain⟨cs,e,_⟩:=dI;exact⟨cs,e⟩
   ·rename_i hu;rw[hu] at dI;obtain⟨cs,e,_⟩:=dI;exact⟨cs,e⟩
   ·cases ha
  obtain⟨cs,rfl⟩:=this
  simp only[Value.cells] at h1
  refine .agg cs xs (by rw[h1.1];simp) fun j c hc=>?_
  have hj:j<cs.size:=by have:=(ak.1 hc).1;rw[h1.1] at this;simpa using this
  have:=h1.2 j cs[j] c (by simp[hj]) hc
  simpa[hj] using this
 ·have ha:c9 P t=false:=by simpa using ha
  rw[if_neg (by simp[ha])]
  obtain⟨x,rfl⟩:=We h2 ha
  have hl:=h1.1
  simp only[aB,aK,ah] at hl
  have hv:v.cells=#[v]:=by
   cases v<;>try rfl
   rename_i cs
   simp only[Value.cells] at h1 hl
   exfalso
   unfold Value.okWide at dI
   unfold c9 at ha
   split at dI
   ·rename_i hu;rw[hu] at ha;cases ha
   ·rename_i hu;rw[hu] at ha;cases ha
   ·rename_i n1 n2
    unfold Shp at h2
    cases n with
    |zero=>exact h2
    |succ n=>
     simp only at h2
     unfold Cell.okWide Cell.ok at dI
     cases hu:P.underlying t with
     |none=>rw[hu] at h2;exact h2
     |some dd=>rw[hu] at dI h2;cases dd<;>simp_all
  rw[hv] at h1
  exact .c v x (h1.2 0 v x (by simp) rfl)
def vN (P:Program):List TypeId→List V→Prop
 |[],[]=>True
 |t::ts,x::xs=>(∃ n cs,Shp P n t cs∧x=Bg P t cs)∧vN P ts xs
 |_,_=>False
theorem GQ {L:List TypeId} (hL:uG P L=true) {Kt:Bool} {b:Nat}:∀ (ts:List TypeId) (vs:List Value) (ds:List (DataW H)) (p:List MemPlace),(∀ t∈ts,t∈L)→DataW.TrodAll enc P w base spare Kt ts vs ds p→
 (∀ (j:Nat) (t:TypeId) (v:Value),ts[j]?=some t→vs[j]?=some v→Value.okWide P w .any b t v)→
 ∃ xs,vN P ts xs∧xs.length=vs.length∧∀ (j:Nat) (x:V),xs[j]?=some x→DR (zW w) w (vs.getD j undef) x
 |[],[],[],_,_,_,_=>⟨[],trivial,rfl,by simp⟩
 |t::ts,v::vs,d::ds,p,fy,h,dI=>by
  obtain⟨p',q,h1,h2,_⟩:=h
  obtain⟨n,xs,h3,h4⟩:=Wg hL (fy t (aT ..)) h1 (dI 0 t v rfl rfl)
  obtain⟨ys,h5,h6,h7⟩:=GQ hL ts vs ds q (fun u hu=>fy u (aM _ hu)) h2 (fun j u x hu hx=>dI (j+1) u x (by simpa using hu) (by simpa using hx))
  refine⟨Bg P t xs::ys,⟨⟨n,xs,h3,rfl⟩,h5⟩,by simp[h6],fun j x hx=>?_⟩
  cases j with
  |zero=>simp at hx;subst hx;exact h4
  |succ j=>simpa using h7 j x (by simpa using hx)
 |[],[],_::_,_,_,h,_=>h.elim
 |[],_::_,_,_,_,h,_=>h.elim
 |_::_,[],_,_,_,h,_=>h.elim
 |_::_,_::_,[],_,_,h,_=>h.elim
theorem sy {Kt:Bool}:∀ {ts:List TypeId} {vs:List Value} {ds:List (DataW H)} {p:List MemPlace},DataW.TrodAll enc P w base spare Kt ts vs ds p→ds.length=ts.length
 |[],[],[],_,_=>rfl
 |_::_,_::_,_::_,_,h=>by obtain⟨_,_,_,h2,_⟩:=h;simp[sy h2]
 |[],[],_::_,_,h=>h.elim
 |[],_::_,_,_,h=>h.elim
 |_::_,[],_,_,h=>h.elim
 |_::_,_::_,[],_,h=>h.elim
theorem uc (hl:laidOutB P=true) {W W':World} (hb:Below W.heap.size W W'):∀ {ts:List TypeId} {vs:List Value} {ds:List (DataW H)} {p:List MemPlace},(∀ t∈ts,P.readableRec t=true∧t<P.types.size)→
 DataW.TrodAll enc P W 0 (fun _=>true) true ts vs ds p→DataW.TrodAll enc P W' 0 (fun b=>decide (b<W.heap.size)) true ts vs ds p
 |[],[],[],_,_,h=>h
 |t::ts,v::vs,d::ds,p,hr,h=>by
  have bF:=h.lt
  obtain⟨p',q,h1,h2,rfl⟩:=h
  exact⟨p',q,Below.trod hl (hr t (aT ..)).1 (hr t (aT ..)).2 h1 hb (fun x hx=>bF x (ee _ hx)),uc hl hb (fun u hu=>hr u (aM _ hu)) h2,rfl⟩
 |[],[],_::_,_,_,h=>h.elim
 |[],_::_,_,_,_,h=>h.elim
 |_::_,[],_,_,_,h=>h.elim
 |_::_,_::_,[],_,_,h=>h.elim
theorem zY {T:Prop} {W W':World} (h:World.grt T W W' none):Below W.heap.size W W':=⟨h.os,h.tape,h.output,h.size,fun k hk=>h.block k hk (by simp)⟩
theorem NU {gl:Gl} {f:FuncId} {L:List TypeId} (hL:uG P L=true) {ts:List TypeId} {args:Array Value} {ds:List (DataW H)} {p:List MemPlace} {W:World} {b:Nat} (fy:∀ t∈ts,t∈L)
 (hA:DataW.TrodAll enc P W 0 (fun _=>true) true ts args.toList ds p) (dI:∀ (j:Nat) (t:TypeId) (v:Value),ts[j]?=some t→args.toList[j]?=some v→Value.okWide P W .any b t v)
 (hG:GOK gl (zW W) W) (hF:∀ xs:List V,vN P ts xs→FnOK P gl f xs (.c (.lit (.bool true)))):Calls P f args W fun e w'=>e=.returned (.bool true)∧Below W.heap.size W w':=by
 obtain⟨xs,h1,h2,h3⟩:=GQ hL ts _ ds p fy hA dI
 refine ((hF xs h1).2 (zW W) W args (fun _ _ h=>h) hG (by simpa using h2.symm) (fun j x hx=>?_)).mono ?_
 ·have:=h3 j x hx
  have e:args.toList.getD j undef=args.getD j undef:=by rw[aA,aQ,ao]
  rw[← e];exact this
 ·rintro e w' ⟨v,I',rfl,hg,_,_,ob,gX,_⟩
  have:v=.bool true:=gX.lit
  subst this
  exact⟨rfl,zY hg⟩
theorem GR {C:Checked} {os:Os} {f:FuncId} {fn:Func} {s:ChangeSpec} {laid:List (String×DataW Unit)} {gl:Gl} (own:ownKnob C.prog.godebug=none) (started:os.Started) (noInit:C.prog.inits.idxOf? f=none) (XT:C.prog.funcs[f]?=some fn)
 (witness:∃ (w:World) (tape:Tape) (i:Input),w.os=os∧(w.forCall tape i).Shaped C.prog∧i.vars=[]∧Input.okWide C.prog (w.forCall tape i) .any w.heap.size f i∧
  ((s.pre enc C.prog fn [] false (w.forCall tape i).memory i.args∧laidMetH C.prog laid (w.forCall tape i).memory)∧sizedMet enc C.prog fn (OpenSpec.ofChange s) false (w.forCall tape i).memory i.args)∧
   ({}:Assume).holds C.prog (lone (Frame.enter C.prog f i.args .normal) [] (w.forCall tape i)))
 {L:List TypeId} (hL:uG C.prog L=true) {ts:List TypeId} (nZ:fn.params.toList=ts) (fy:∀ t∈ts,t∈L) (ae2:laidOutB C.prog=true) (ae3:∀ t∈ts,C.prog.readableRec t=true∧t<C.prog.types.size)
 (Y6:s.vars=[]) (ae4:∀ ds:List (DataW H),ds.length=ts.length→s.fn H ds={ results:=[.lit (.bool true)],args:=ds,vars:=[] }) {tb:TypeId} (wv:fn.resultTypes=#[tb]) (ae5:C.prog.underlying tb=some .bool)
 (hG:∀ W:World,laidMetH C.prog laid W→GOK gl (zW W) W) (hF:∀ xs:List V,vN C.prog ts xs→FnOK C.prog gl f xs (.c (.lit (.bool true)))) :
 ReturnsInHanded {} C os f .any (fun w args=>(s.pre enc C.prog fn [] false w args∧laidMetH C.prog laid w)∧sizedMet enc C.prog fn (OpenSpec.ofChange s) false w args) (s.post enc C.prog fn false true false false):=by
 refine returnsInHanded_of_change_and (C:=C) (X:=fun w _=>laidMetH C.prog laid w) (fun _ _ _ hh h=>h.of_heap hh) own started noInit XT witness ?_
 intro W base args ds gs before rh hW _ _ hLm _
 have hW':=hW
 obtain⟨p,q,hA,hV,rfl,XG,pA⟩:=hW
 rw[Y6] at hV
 obtain⟨rfl,rfl⟩:=trodVars_none hV
 rw[nZ] at hA
 refine (NU (b:=base) hL fy hA (fun j t v ht hv=>rh j t v (by rw[← aQ,nZ];exact ht) (by rw[← aQ];exact hv)) (hG W hLm) hF).mono ?_
 rintro e W' ⟨rfl,hb⟩
 have hsp:=ae4 ds (sy hA)
 refine⟨_,rfl,ds,[],p++[],[],p,[],hW',?_,?_,?_,hb.frame _,fun h=>by cases h⟩
 ·rw[eA,hsp,wv];exact trodAll_mk1 (shut_bool ae5 true)
 ·rw[eA,hsp,nZ];exact uc ae2 hb ae3 hA
 ·rw[eA,hsp,Y6];rfl
theorem zZ {L:List TypeId} (hL:uG P L=true) {name:String} {d:DataW Unit} {g t:Nat} {xs:List C} {W:World} (hg:P.globalNamed name=some g)
 (ht:(P.globals[g]?).map (·.type)=some t) (htL:t∈L) (hd:su d=some xs):∀ (laid:List (String×DataW Unit)) (ps:List MemPlace),DataW.LaidVars P W laid ps→(name,d)∈laid→GCR (zW W) W g xs
 |[],_,_,hm=>by cases hm
 |(n',d')::r,ps,hv,hm=>by
  obtain⟨g',t',cs,fuel,p,q,h1,h2,h3,h4,h5,_⟩:=hv
  rcases bw.1 hm with e | hm
  ·cases e
   obtain rfl:=dE (hg.symm.trans h1)
   obtain rfl:=dE (ht.symm.trans h2)
   obtain⟨xs',k1,_,k3⟩:=x9 hL fuel t _ _ htL h4
   rw[hd,am] at k3
   subst k3
   have ce:xs.length=cs.size:=by rw[k1.1];simp
   have d5:∀ j,j<cs.size→W.cell? ⟨g,j,none⟩=some (cs.getD j undef):=fun j hj=>by
    rw[World.var?_cell h1 h3 j]
    simp[hj]
   have:=CR.rp (I:=zW W) (w:=W) g 0 0 xs (fun j=>cs.getD j undef) (fun j hj=>by
    rw[ah]
    have hc:=d5 j (by omega)
    exact⟨hc,(BY hc).2⟩) (fun j c hc=>by
    have hj:=(ak.1 hc).1
    exact k1.2 j _ c (by simp[show j<cs.size by omega]) hc)
   have hgs:g<W.heap.size:=by
    unfold World.var? at h3
    rw[h1] at h3
    by_cases hh:g<W.heap.size
    ·exact hh
    ·simp[cV (show W.heap.size≤g by omega)] at h3
   exact⟨by simpa using this,hgs,by rw[World.var?_cell h1 h3,ce];simp⟩
  ·exact zZ hL hg ht htL hd r q h5 hm
end
open Go Go.RowKit
section
variable {P:Program}
def xh (P:Program) (t:TypeId) (xs:List C):Prop:=∃ n,Shp P n t xs
theorem ZM {n:Int} (h:(Lit.int .i64 n).wf=true):I64 n:=by
 simp[Lit.wf,IntKind.min,IntKind.max,IntKind.signed,IntKind.bits] at h
 unfold I64;omega
theorem Wh {t:TypeId} {k:IntKind} {xs:List C} (hu:P.underlying t=some (.int k)) (h:xh P t xs):∃ m,xs=[.lit (.int k m)]∧(Lit.int k m).wf=true:=by
 obtain⟨n,h⟩:=h
 cases n with
 |zero=>exact h.elim
 |succ n=>unfold Shp at h;rw[hu] at h;exact h
theorem Wj {t:TypeId} {xs:List C} (hu:P.underlying t=some .string) (h:xh P t xs):∃ s,xs=[.lit (.string s)]∧s.size≤maxLen:=by
 obtain⟨n,h⟩:=h
 cases n with
 |zero=>exact h.elim
 |succ n=>unfold Shp at h;rw[hu] at h;exact h
theorem tw {t e:TypeId} {xs:List C} (hu:P.underlying t=some (.slice e)) (h:xh P t xs):∃ es,xs=[.sl es]∧es.length≤maxLen∧∀ x∈es,xh P e x:=by
 obtain⟨n,h⟩:=h
 cases n with
 |zero=>exact h.elim
 |succ n=>
  unfold Shp at h;rw[hu] at h
  obtain⟨es,h1,h2,h3⟩:=h
  exact⟨es,h1,h2,fun x hx=>⟨n,(h3 x hx).2⟩⟩
theorem o0 {t:TypeId} {fs:Array Field} {xs:List C} (hu:P.underlying t=some (.struct fs)) (h:xh P t xs):xs.length=P.cellsOf t∧∀ f∈fs.toList,xh P f.type ((xs.drop f.offset).take (P.cellsOf f.type)):=by
 obtain⟨n,h⟩:=h
 cases n with
 |zero=>exact h.elim
 |succ n=>
  unfold Shp at h;rw[hu] at h
  exact⟨h.1,fun f hf=>⟨n,h.2 f hf⟩⟩
theorem vO {α:Type} {f:α→List C} {ok:α→Prop}:∀ {es:List (List C)},(∀ x∈es,∃ a,x=f a∧ok a)→∃ l:List α,es=l.map f∧∀ a∈l,ok a
 |[],_=>⟨[],rfl,by simp⟩
 |x::es,h=>by
  obtain⟨a,rfl,ha⟩:=h x (aT ..)
  obtain⟨l,rfl,hl⟩:=vO (es:=es) fun y hy=>h y (aM _ hy)
  exact⟨a::l,rfl,fun b hb=>by rcases bw.1 hb with rfl | hb;exact ha;exact hl b hb⟩
end
theorem Jt (z:BitVec 64):IntKind.i64.wrap (z.toNat:Int)=z.toInt:=by
 have h:=z.isLt
 rw[BitVec.toInt_eq_toNat_cond]
 have hb:IntKind.i64.bits=64:=rfl
 have hs:IntKind.i64.signed=true:=rfl
 have e:((z.toNat:Int) % 2 ^ 64)=z.toNat:=by omega
 unfold IntKind.wrap
 simp only[hb,hs,Bool.true_and,bi,e]
 by_cases c:2*z.toNat<2 ^ 64
 ·rw[if_pos c,if_neg (by omega)]
 ·rw[if_neg c,if_pos (by omega)];rfl
theorem pM (a b:Int):bits .andNot .i64 a b=(BitVec.ofInt 64 a &&&~~~BitVec.ofInt 64 b).toInt:=Jt _
