/- Layer 18: Tree. -/
import Derived.Test.YtjfjdomfldolcaaGreatVlX9
set_option maxHeartbeats 4000000
set_option linter.all false
namespace Go.Proofs.YtjfjdomfldolcaaGreat
open Go Go.Vl
variable {G:Gl}
set_option maxRecDepth 4000
theorem wU {D:List Fa} {x:In}:rdy D x=true↔∀ g∈x.pre,g∈D:=by
 unfold rdy
 rw[ba]
 exact⟨fun h g hg=>bX (h g hg),fun h g hg=>cu (h g hg)⟩
theorem I7 {num:Int} {x:In} {D:List Fa}:∀ (l:List Fa) (W:List Wy),(∀ g∈x.pre,g∈D)→(∀ w∈W,∀ g∈w.pre,g∈D)→∀ w∈l.foldl (k9 num x) W,∀ g∈w.pre,g∈D
 |[],_,_,h=>h
 |f::l,W,hx,h=>by
  rw[br]
  refine I7 l _ hx fun w hw=>?_
  unfold k9 at hw
  split at hw
  ·exact h w hw
  ·rcases aV.1 hw with hw | hw
   ·exact h w hw
   ·rw[a7] at hw;subst hw;exact hx
theorem I8 {num:Int} {D:List Fa}:∀ (l:List Wt) (W:List Wy),(∀ w∈l,∀ g∈w.x.pre,g∈D)→(∀ w∈W,∀ g∈w.pre,g∈D)→∀ w∈iD num W l,∀ g∈w.pre,g∈D
 |[],_,_,h=>h
 |v::l,W,hl,h=>I8 l (tS num W v.x) (fun w hw=>hl w (aD _ hw)) (I7 _ _ (hl v (a8 ..)) h)
theorem I9 {L:List In}:∀ (n:Nat) (num:Int) (now:List Wt) (W:List Wy),(∀ w∈now,∀ g∈w.x.pre,g∈aL W)→sf W→sf (pX L n num now W)
 |0,_,_,_,_,h=>h
 |n+1,num,now,W,h0,h=>by
  unfold pX
  split
  ·exact h
  ·have fc:∀ g∈aL W,g∈aL (iD num W now):=fun g hg=>(lQ _ _).2 (.inl hg)
   refine I9 n _ _ _ (fun w hw=>?_) ?_
   ·obtain⟨i,x,_,rfl,_,h3⟩:=uG.1 hw
    exact wU.1 h3
   ·exact I8 _ _ (fun w hw g hg=>fc g (h0 w hw g hg)) fun w hw g hg=>fc g (h w hw g hg)
theorem Vi (L:List In):sf (vI L):=I9 _ _ _ _ (fun w hw=>by
 unfold que at hw
 obtain⟨q,hq,rfl⟩:=bj.1 hw
 have:=(cH.1 hq).2
 have h0:q.1.pre=[]:=by simpa using this
 intro g hg
 rw[h0] at hg;cases hg) (fun w hw=>by cases hw)
theorem yn (p:Pol):sf (fg p):=Vi _
theorem Ja {W:List Wy} (hp:sf W):∀ (n:Nat) (N:List Wy) (f:Fa),f∈aL W→(aL N).Nodup→(∀ w∈N,w∈W)→(aL (kK W n N f)).Nodup∧∀ w∈kK W n N f,w∈W
 |0,_,_,_,h1,h2=>⟨h1,h2⟩
 |n+1,N,f,hf,h1,h2=>by
  unfold kK
  split
  ·exact⟨h1,h2⟩
  ·rename_i hn
   obtain⟨q1,q2⟩:=ym hf
   have JU:∀ (l:List Fa) (M:List Wy),(∀ g∈l,g∈aL W)→(aL M).Nodup→(∀ w∈M,w∈W)→(aL (l.foldl (kK W n) M)).Nodup∧∀ w∈l.foldl (kK W n) M,w∈W:=by
    intro l
    induction l with
    |nil=>intro M _ h1 h2;exact⟨h1,h2⟩
    |cons x l ih=>
     intro M hl h1 h2
     rw[br]
     obtain⟨h3,h4⟩:=Ja hp n M x (hl x (a8 ..)) h1 h2
     exact ih _ (fun g hg=>hl g (aD _ hg)) h3 h4
   refine JU _ _ (hp _ q1) ?_ fun w hw=>?_
   ·rw[nF,fU]
    refine⟨h1,by simp[aL],fun a ha b hb=>?_⟩
    have:b=f:=by simpa[aL,q2] using hb
    subst this
    rintro rfl;exact hn ha
   ·rcases aV.1 hw with hw | hw
    ·exact h2 w hw
    ·rw[a7] at hw;subst hw;exact q1
def qf (p:Pol) (f:Fa):List Wy:=kK (fg p) (fg p).length [] f
def lg (p:Pol) (f:Fa):List Wy:=if f∈aL (fg p) then oh tL (qf p f) else[]
theorem Ns (p:Pol):unv (fg p) []≤(fg p).length:=by
 unfold unv aL
 exact bN (ck _ _) (by rw[au];exact ab _)
theorem lC {p:Pol} {f:Fa} (hf:f∈aL (fg p)):(aL (qf p f)).Nodup∧∀ w∈qf p f,w∈fg p:=Ja (yn p) _ _ _ hf fH (fun _ h=>by cases h)
theorem Ep {p:Pol} {f:Fa} (hf:f∈aL (fg p)):(qf p f).length≤(fg p).length:=by
 have h:=lC hf
 have:=Gn h.1 (m:=aL (fg p)) fun g hg=>by
  obtain⟨w,hw,rfl⟩:=bj.1 hg
  exact bj.2 ⟨w,h.2 w hw,rfl⟩
 unfold aL at this
 rwa [au,au] at this
theorem uL {P:Program} {fr:Nat→V} {bx:Nat→List V} {nb:Nat} {d e:V} {p q:Tmp} (h1:imm ⟨fr,bx,nb⟩ (fr p)=some d) (h2:imm ⟨fr,bx,nb⟩ (fr q)=some e):tR P true ⟨fr,bx,nb⟩ (.tup [d,e]) [.tmp p,.tmp q]:=by
 refine⟨_,rfl,rfl,fun i R x hR hx=>?_⟩
 match i with
 |0=>simp only[cw,ao] at hR hx;subst hR;subst hx;simpa[Ot,DT] using h1
 |1=>simp only[dp,cw,ao] at hR hx;subst hR;subst hx;simpa[Ot,DT] using h2
 |n+2=>simp at hR
def abI:=jj @pkA (jj @ptA (jj @pkF @gj))
def mU:=jj @pkA @gj
def abJ:=jj @pkA (jj @ptA @gj)
theorem Gp {p:Pol} (h:PolS p) (f:Fa):FnOK Tryz.prog G 10 [.agg (poC p),.agg (faC f)] (.tup [.c (wsC (lg p f)),bo (decide (f∈aL (fg p)))]):=by
 refine cL (rs:=[.tmp 4,.tmp 5]) true [1000012,1000025,1000027] mixed Tryz.func10 rfl rfl rfl rfl (by kernel_rfl) (by simp) rfl rfl ?_
 have JS:=h.sat
 have r1:∀ a b c:V,fj [a,b,c] 0 ((faC f).map .c)=(faC f).map .c:=fun _ _ _=>rfl
 have r3:∀ nb q (K:V→Prop),ldA nb q ((faC f).map .c) 0 3 K=(q<nb∧K (faV f)):=fun nb q K=>by
  unfold ldA
  exact propext ⟨fun h=>⟨h.1,h.2.2⟩,fun h=>⟨h.1,⟨rfl,rfl⟩,h.2⟩⟩
 have r2:cy ((faC f).map V.c)=false:=rfl
 have r4:∀ (w:Wy) (a b c d e f:V),fj [a,b,c,d,e,f] 0 ((wyC w).map .c)=(wyC w).map .c:=fun _ _ _ _ _ _ _=>rfl
 have alcM:∀ {tr:List Nat} {ty:TypeId} {d:Nat} {pos:String} {af:Array Edge} {g:Option (Nat×Bool)} {fr:Nat→V} {bx:Nat→List V} {nb:Nat} {K:Vl.S→Prop},VStep Tryz.prog G tr ⟨some d,.alloc 57,ty,pos,af,g⟩ ⟨fr,bx,nb⟩ K=K ⟨up fr d (.bp nb 0),up bx nb [.c (.lit (.map none))],nb+1⟩:=fun {tr ty d pos af g fr bx nb K}=>oL xY rfl
 simp only[abI,seval]
 refine rO rfl (uJ h) rfl ?_
 simp only[abI,seval,V.ren,gz,LV,rn,TC,alcM,UM]
 refine yf (W:=fg p) rfl (show 3<8 by decide) ?_
 simp only[pkA,ptA,gj,UO,seval,r4]
 refine aT (fun hy=>?_) (fun hy=>?_)
 ·have hn:f∉aL (fg p):=by simpa using hy
  have e:lg p f=[]:=by unfold lg;rw[if_neg hn]
  have e2:decide (f∈aL (fg p))=false:=dM hn
  simp only[mU,seval]
  rw[e,e2]
  exact uL rfl rfl
 ·have hf:f∈aL (fg p):=by simpa using hy
  have e:lg p f=oh tL (qf p f):=by unfold lg;rw[if_pos hf]
  have e2:decide (f∈aL (fg p))=true:=cu hf
  have ajI:=lC hf
  have tX:=Ep hf
  have hV:=Vh (G:=G) (fg p) (yn p) (fun w hw=>by have:=qd w hw;omega) (fg p).length [] f hf (Ns p)
  simp only[abJ,seval,r2,r3]
  refine ml [3,4,5,6,7] rfl hV (by simp[V.fz,V.ren,rho,faV]) rfl (by decide) rfl ?_ ?_
  ·refine⟨⟨show 3<9 by decide,?_⟩,⟨show 4<9 by decide,?_⟩,⟨show 5<9 by decide,rfl⟩,⟨show 6<9 by decide,rfl⟩,⟨show 7<9 by decide,rfl⟩,trivial⟩
   ·rw[rn];rfl
   ·rw[rn];rfl
  ·intro bx' ko vA
   have c4:bx' 4=wM (qf p f):=by rw[← rn];exact vA 1 4 _ rfl rfl
   have c6:bx' 6=[.mr 4]:=vA 3 6 _ rfl rfl
   simp only[abJ,seval,c6]
   refine zO cmp_r ajI.1 (by omega) (fun w hw=>by have:=qd w (ajI.2 w hw);omega) (show 4<9 by decide) c4 (fun h0 bx2 _ hb=>?_) (fun h0 bx2 _ hb hn=>?_)
   ·simp only[mU,seval]
    rw[e,e2,h0]
    exact uL (by simp[ak,oh,wsC];rfl) rfl
   ·simp only[mU,seval]
    rw[e,e2]
    refine uL ?_ rfl
    show Option.map V.c (mJ _ _ _ _ _)=some _
    have hl:(oh tL (qf p f)).length=(qf p f).length:=(jT _ _).length_eq
    rw[yZ (c:=wyC) (l:=oh tL (qf p f)) (a:=0) qU (show 9<10 by decide) hn rfl (by omega),cd,fP (by omega)]
    rfl
theorem aiO {w:Wy} {K:V→Prop}:dC true 3 0 (wyC w) K=K (.agg (faC w.fact)):=by
 unfold dC
 rw[if_pos rfl]
 exact propext ⟨fun h=>h.2,fun h=>⟨show 0+3≤6 by decide,h⟩⟩
theorem afD {s:Vl.S} {w:Wy} {K:V→Prop}:dh Tryz.prog 28 s (.c (.rp (wyC w) 0)) K=K (.agg (faC w.fact)):=by
 simp only[dh,eY];exact aiO
theorem aiP {l:List Wy} {K:V→Prop}:hJ Tryz.prog 31 (.c (wsC l)) K=K (i64 l.length):=by
 rw[wsC,jw kO rfl,au]
def pkY:=jj @UO (jj @aiO (jj @afD @aiP))
theorem qg (p:Pol):FnOK Tryz.prog G 8 [.agg (poC p)] (bo (decide ((p.types.length:Int)≤4)&&decide ((p.rules.length:Int)≤8))):=by
 refine cL (rs:=[.tmp 2]) false [] mixed Tryz.func8 rfl rfl rfl rfl (by kernel_rfl) (by simp) rfl rfl ?_
 repeat' first
  |(simp only[pkA,ptA,pkF,seval])
  |refine fY (fun h=>?_) (fun h=>?_)
 all_goals (simp_all<;>omega)
def kS (l:List Wy) (f:Fa):Int:=((l.find? fun w=>decide (w.fact=f)).map (·.round)).getD 0
def abK:=jj @pkA (jj @gj @pkY)
def zR:=jj @pkA (jj @ptA (jj @gj @pkY))
theorem uN (l:List Wy) (f:Fa) (hm:l.length≤1000000000):FnOK Tryz.prog G 35 [.c (wsC l),.agg (faC f)] (i64 (kS l f)):=by
 refine cL (rs:=[.tmp 4]) false [] mixed Tryz.func35 rfl rfl rfl rfl (by kernel_rfl) (by simp) rfl rfl ?_
 simp only[mU,seval]
 refine bE (fun i:Nat=>hdS [(0,.c (wsC l)),(3,.bp 0 0),(5,i64 i)] [(faC f).map .c]) (fun i=>l.length - i) (fun i=>i≤l.length∧∀ w∈l.take i,w.fact≠f) 0 ⟨ar _,by simp⟩ ?_ ?_
 ·exact cD rfl (ar _) (ab _) (by simp[FL,ak]) (by simp[BL])
 rintro i ⟨hi,ht⟩ R cj cJ eP
 have r3:∀ nb q (K:V→Prop),ldA nb q ((faC f).map .c) 0 3 K=(q<nb∧K (.agg (faC f))):=fun nb q K=>by
  unfold ldA
  exact propext ⟨fun h=>⟨h.1,h.2.2⟩,fun h=>⟨h.1,⟨rfl,rfl⟩,h.2⟩⟩
 have r2:cy ((faC f).map V.c)=false:=rfl
 simp only[abK,seval]
 refine aT (fun bK=>?_) (fun gr=>?_)
 ·have bK:i<l.length:=by simpa using bK
  have hw:=bG (n:=(i:Int)+1) (k:=i+1) (by omega) (by omega)
  simp only[mU,seval,wsC]
  refine dR kO rfl gX (by decide) (aA i) (c:=wyC l[i]) (by simp[bK]) rfl ?_
  simp only[pkA,ptA,pkF,gj,pkY,seval,r2,r3]
  have hsp:l=l.take i++l[i]::l.drop (i+1):=by rw[← cX bK,dI]
  have J1:(l.take i).find? (fun w=>decide (w.fact=f))=none:=by
   rw[js];exact fun w hw=>by simpa using ht w hw
  refine aT (fun hy=>?_) (fun hn=>?_)
  ·have hy:l[i].fact=f:=by simpa using hy
   simp only[mU,seval]
   refine dR kO rfl gX (by decide) (aA i) (c:=wyC l[i]) (by simp[bK]) rfl ?_
   simp only[zR,seval]
   refine eP _ ?_
   simp only[pkA,seval]
   have e:kS l f=l[i].round:=by
    unfold kS
    conv=>lhs;rw[hsp]
    rw[List.find?_append,J1,Option.none_or,List.find?_cons]
    simp[hy]
   rw[e]
  ·have hn:¬ l[i].fact=f:=by simpa using hn
   simp only[pkA,seval]
   refine cj (i+1) _ ⟨bK,?_⟩ (by omega) (cD rfl (ar _) (ab _) (by simp[FL,ak,hw,wsC]) (by simp[BL,bxs]))
   intro w hw
   rw[aC bK,aV,a7] at hw
   rcases hw with hw | rfl
   ·exact ht w hw
   ·exact hn
 ·have:i=l.length:=by simp at gr;omega
  subst this
  simp only[pkA]
  refine cJ _ _ ?_
  simp only[pkA,seval]
  rw[bD] at ht
  have e:kS l f=0:=by
   unfold kS
   rw[js.2 fun w hw=>by simpa using ht w hw];rfl
  rw[e]
def nI (l:List Wy) (x:In):Bool:=x.pre.all fun f=>!decide (kS l f=0)
def abL:=jj @pkA (jj @ptA (jj @pkI @gj))
theorem Vj (l:List Wy) (x:In) (hm:l.length≤1000000000) (hx:x.pre.length≤1000000000):FnOK Tryz.prog G 37 [.c (wsC l),.agg (inC x)] (bo (nI l x)):=by
 refine cL (rs:=[.tmp 4]) false [] mixed Tryz.func37 rfl rfl rfl rfl (by kernel_rfl) (by simp) rfl rfl ?_
 simp only[mU,seval]
 refine bE (fun i:Nat=>hdS [(0,.c (wsC l)),(3,.bp 0 0),(5,i64 i)] [(inC x).map .c]) (fun i=>x.pre.length - i) (fun i=>i≤x.pre.length∧∀ f∈x.pre.take i,kS l f≠0) 0 ⟨ar _,by simp⟩ ?_ ?_
 ·exact cD rfl (ar _) (ab _) (by simp[FL,ak]) (by simp[BL])
 rintro i ⟨hi,ht⟩ R cj cJ eP
 simp only[pkA,ptA,pkI,gj,pkY,seval]
 refine aT (fun bK=>?_) (fun gr=>?_)
 ·have bK:i<x.pre.length:=by simpa using bK
  have hw:=bG (n:=(i:Int)+1) (k:=i+1) (by omega) (by omega)
  simp only[abL,seval,fsC]
  refine dR fk rfl eY (by decide) (aA i) (c:=faC x.pre[i]) (by simp[bK]) rfl ?_
  simp only[abL,seval]
  refine aB rfl (uN l x.pre[i] hm) (fun _=>rfl) ?_
  simp only[pkA,seval]
  refine aT (fun hy=>?_) (fun hn=>?_)
  ·have hy:kS l x.pre[i]=0:=by simpa using hy
   simp only[mU,seval]
   refine eP _ ?_
   simp only[pkA,seval]
   have e:nI l x=false:=by
    unfold nI
    rw[List.all_eq_false];exact⟨x.pre[i],bL bK,by simp[hy]⟩
   rw[e]
  ·have hn:¬ kS l x.pre[i]=0:=by simpa using hn
   simp only[pkA,seval]
   refine cj (i+1) _ ⟨bK,?_⟩ (by omega) (cD rfl (ar _) (ab _) (by simp[FL,ak,hw]) (by simp[BL,bxs]))
   intro f hf
   rw[aC bK,aV,a7] at hf
   rcases hf with hf | rfl
   ·exact ht f hf
   ·exact hn
 ·have:i=x.pre.length:=by simp at gr;omega
  subst this
  simp only[pkA]
  refine cJ _ _ ?_
  simp only[pkA,seval]
  rw[bD] at ht
  have e:nI l x=true:=by
   unfold nI
   rw[ba];exact fun f hf=>by simpa using ht f hf
  rw[e]
def owY (l:List Wy):V:=.ow (if l.isEmpty then none else some (48,6)) (l.map wyC)
theorem LW {l:List Wy}:(owY l).fz=.c (wsC l):=rfl
theorem qh {l:List Wy}:(owY l).isOw=true:=rfl
theorem ak2 {l m:List Wy} {K:V→Prop} (h:l.length+m.length≤1000000000) (hK:K (owY (l++m))):dN Tryz.prog 31 (owY l) (.c (.sl (m.map wyC))) K:=by
 unfold owY
 rw[aeu]
 refine⟨⟨by cases l<;>simp,lz qU _⟩,⟨by simp only[au];omega,by simp only[au];omega,lz qU _⟩,?_⟩
 have e:(if(m.map wyC).isEmpty=true then(if l.isEmpty=true then none else some (48,6)) else some (48,6))=if(l++m).isEmpty=true then none else some (48,6):=by
  cases l<;>cases m<;>simp
 rw[e,← dj];exact hK
theorem Er {l:List Wy} {x:Wy} {K:V→Prop} (h:l.length+1≤1000000000) (hK:K (owY (l++[x]))):dN Tryz.prog 31 (owY l) (.c (.sl [wyC x])) K:=ak2 (m:=[x]) h hK
def tU (w:Wy) (s:List Wy×Bool) (y:Wy):List Wy×Bool:=if(!s.2&&ltF w.fact y.fact)=true then(s.1++[w,y],true) else(s.1++[y],s.2)
def om (l:List Wy) (w:Wy) (i:Nat):List Wy×Bool:=(l.take i).foldl (tU w) ([],false)
def As (l:List Wy) (w:Wy):List Wy:=if(om l w l.length).2=true then(om l w l.length).1 else(om l w l.length).1++[w]
theorem P0 {l:List Wy} {w:Wy} {i:Nat} (h:i<l.length):om l w (i+1)=tU w (om l w i) l[i]:=by
 unfold om
 rw[aC h,ew];rfl
theorem Vk {l:List Wy} {w:Wy}:∀ i,(om l w i).1.length≤i+1∧((om l w i).2=false→(om l w i).1.length≤i):=by
 have e:∀ (m:List Wy) (s:List Wy×Bool),(m.foldl (tU w) s).1.length≤s.1.length+m.length+(if s.2 then 0 else 1)∧((m.foldl (tU w) s).2=false→s.2=false∧(m.foldl (tU w) s).1.length≤s.1.length+m.length):=by
  intro m
  induction m with
  |nil=>intro s;simp
  |cons y m ih=>
   intro s
   rw[br]
   have h:=ih (tU w s y)
   obtain⟨o,b⟩:=s
   unfold tU at h ⊢
   cases b
   ·by_cases hy:ltF w.fact y.fact=true
    ·simp[hy] at h ⊢
     exact⟨by omega,fun q=>by rw[h.2] at q;cases q⟩
    ·simp[hy] at h ⊢
     exact⟨by omega,fun q=>by have:=h.2 q;omega⟩
   ·simp at h ⊢
    exact⟨by omega,h.2⟩
 intro i
 have:=e (l.take i) ([],false)
 unfold om
 rw[aN] at this
 simp at this
 exact⟨by omega,fun q=>by have:=this.2 q;omega⟩
theorem aap {a b:Fa}:decide (wK a b<0)=ltF a b:=gR a b
theorem P1 (l:List Wy) (w:Wy) (hm:l.length≤1000000):FnOK Tryz.prog G 38 [.c (wsC l),.agg (wyC w)] (.c (wsC (As l w))):=by
 refine cL (rs:=[.tmp 4]) false [27,31,40] mixed Tryz.func38 rfl rfl rfl rfl (by kernel_rfl) (by simp) rfl rfl ?_
 have r6:∀ y:Wy,jY 6 [(0,V.agg (wyC y))] [[.lit (.int .i64 0),.lit (.int .i64 0),.lit (.int .i64 0),.lit (.int .i64 0),.lit (.int .i64 0),.sl []]]=some [wyC y]:=fun _=>rfl
 simp only[mU,seval]
 refine bE (fun i:Nat=>hdS [(0,.c (wsC l)),(3,.bp 0 0),(5,owY (om l w i).1),(6,bo (om l w i).2),(7,i64 i)] [(wyC w).map .c]) (fun i=>l.length - i) (fun i=>i≤l.length) 0 (ar _) ?_ ?_
 ·exact cD rfl (ar _) (ab _) (by simp[FL,ak,om,owY]) (by simp[BL])
 rintro i hi R cj cJ eP
 have hil:=@Vk l w i
 simp only[abK,seval]
 refine aT (fun bK=>?_) (fun gr=>?_)
 ·have bK:i<l.length:=by simpa using bK
  have hw:=bG (n:=(i:Int)+1) (k:=i+1) (by omega) (by omega)
  simp only[mU,seval]
  have Ml:∀ (o:List Wy) (b:Bool) (fr:Nat→V) (bx:Nat→List V) (nb:Nat),tU w (om l w i) l[i]=(o,b)→1≤nb→bx 0=(wyC w).map .c→fr 0=.c (wsC l)→fr 3=.bp 0 0→fr 5=owY o→fr 6=bo b→fr 7=i64 (i+1:Nat)→R .normal ⟨fr,bx,nb⟩:=by
   intro o b fr bx nb ho zi h0 f0 f3 f5 f6 f7
   refine cj (i+1) _ bK (by omega) (cD rfl (ar _) zi ?_ ⟨h0,trivial⟩)
   rw[P0 bK,ho]
   exact⟨f0,f3,f5,f6,f7,trivial⟩
  refine fY (fun hp=>?_) (fun hp=>?_)
  ·have hp:(om l w i).2=false:=by simpa using hp
   have WB:=hil.2 hp
   simp only[zR,seval,wsC]
   refine dR kO rfl gX (by decide) (aA i) (c:=wyC l[i]) (by simp[bK]) rfl ?_
   simp only[zR,seval]
   refine aB rfl (zP w.fact l[i].fact) (fun _=>rfl) ?_
   simp only[pkA,seval,aap]
   refine aT (fun hy=>?_) (fun hn=>?_)
   ·simp only[zR,seval,qh,r6,cG]
    refine Er (by omega) ?_
    simp only[mU,seval,qh]
    refine dR kO rfl gX (by decide) (aA i) (c:=wyC l[i]) (by simp[bK]) rfl ?_
    simp only[zR,seval,r6,cG]
    refine Er (by rw[ai,bF];omega) ?_
    simp only[mU,seval,qh,hw]
    refine Ml ((om l w i).1++[w]++[l[i]]) true _ _ _ ?_ (ab 1) rfl ?_ ?_ ?_ ?_ ?_
    ·unfold tU;rw[hp,hy];simp
    all_goals simp[ak,wsC]
   ·simp only[mU,seval,qh]
    refine dR kO rfl gX (by decide) (aA i) (c:=wyC l[i]) (by simp[bK]) rfl ?_
    simp only[zR,seval,r6,cG]
    refine Er (by omega) ?_
    simp only[mU,seval,qh,hw]
    refine Ml ((om l w i).1++[l[i]]) (om l w i).2 _ _ _ ?_ (ab 1) rfl ?_ ?_ ?_ ?_ ?_
    ·unfold tU;rw[hp,hn];simp
    all_goals simp[ak,wsC]
  ·have hp:(om l w i).2=true:=by simpa using hp
   simp only[mU,seval,qh,wsC]
   refine dR kO rfl gX (by decide) (aA i) (c:=wyC l[i]) (by simp[bK]) rfl ?_
   simp only[zR,seval,r6,cG]
   refine Er (by omega) ?_
   simp only[mU,seval,qh,hw]
   refine Ml ((om l w i).1++[l[i]]) (om l w i).2 _ _ _ ?_ (ab 1) rfl ?_ ?_ ?_ ?_ ?_
   ·unfold tU;rw[hp];simp
   all_goals simp[ak,wsC]
 ·have:i=l.length:=by simp at gr;omega
  subst this
  simp only[pkA]
  refine cJ _ _ ?_
  simp only[mU,seval]
  refine aT (fun hy=>?_) (fun hn=>?_)
  ·have hy:(om l w l.length).2=false:=by simpa using hy
   have WB:=hil.2 hy
   simp only[zR,seval,qh,r6,cG]
   refine Er (by omega) ?_
   simp only[mU,seval,qh,LW]
   have e:As l w=(om l w l.length).1++[w]:=by unfold As;rw[if_neg (by rw[hy];decide)]
   rw[e];try rfl
  ·have hn:(om l w l.length).2=true:=by simpa using hn
   simp only[mU,seval,LW]
   have e:As l w=(om l w l.length).1:=by unfold As;rw[if_pos hn]
   rw[e];try rfl
