/- Layer 19, plain laws: an encoding is read back, and what is read is the encoding. -/
import Derived.Test.YtloppcgcepgbnaaGreatDoorVlD1
set_option linter.all false
namespace Go.Proofs.YtloppcgcepgbnaaGreatDoor
open Go Go.Vl Go.Proofs.YtloppcgcepgbnaaGreatDoor.Kw
theorem DF {b:B} {e:Int} (h:e≠0):cE b e=(0,b,e):=by unfold cE;rw[if_pos h]
theorem ve {n:Int} (h:I64 n) (r:B):cE (Vl.encI n++r) 0=(n,r,0):=by unfold cE;rw[if_neg (by decide),Vl.getI_enc h r];simp
theorem yB {b b':B} {n:Int} (h:cE b 0=(n,b',0)):I64 n/\b=Vl.encI n++b':=by unfold cE at h;rw[if_neg (by decide)] at h;obtain⟨m,u,f⟩:Int×Nat×Int:=kB b;generalize hg:kB b=g at h;obtain⟨m,u,f⟩:=g;simp only[dH] at h;obtain⟨rfl,rfl,rfl⟩:=h;obtain⟨h1,h2,h3,h4⟩:=Vl.enc_getI hg;exact⟨h1,by rw[<- h3,du]⟩
theorem Qc (f:Fa) (r:B):lW f++r=Vl.encI f.kind++(Vl.encI f.a++(Vl.encI f.b++r)):=by simp[lW,mi]
theorem ads {f:Fa} (h:FaI f) (r:B):kD (lW f++r) 0=(f,r,0):=by rw[Qc];unfold kD;simp only[ve h.1,ve h.2.1,ve h.2.2]
theorem Y6 {b b':B} {f:Fa} (h:kD b 0=(f,b',0)):FaI f/\b=lW f++b':=by
 unfold kD at h;generalize h1:cE b 0=x at h;obtain⟨k,b1,e1⟩:=x;simp only at h;by_cases q1:e1=0
 .subst q1
  generalize h2:cE b1 0=y at h;obtain⟨a,b2,e2⟩:=y;simp only at h;by_cases q2:e2=0
  .subst q2
   generalize h3:cE b2 0=z at h;obtain⟨c,b3,e3⟩:=z;simp only[dH] at h;obtain⟨rfl,rfl,rfl⟩:=h;obtain⟨i1,w1⟩:=yB h1;obtain⟨i2,w2⟩:=yB h2;obtain⟨i3,w3⟩:=yB h3;exact⟨⟨i1,i2,i3⟩,by rw[Qc,w1,w2,w3]⟩
  .rw[DF q2] at h;simp only[dH] at h;exact absurd h.2.2 q2
 .rw[DF q1,DF q1] at h;simp only[dH] at h;exact absurd h.2.2 q1
theorem Y7 {x y:Fa}:ltF x y=decide (vC x y<0):=by rw[<- mW];rfl
theorem adt {out:List Fa} {f:Fa} (h:StF (out++[f])):oG out f=false:=by
 unfold oG;cases hl:out.getLast? with
 |none=>rfl
 |some g=>have hg:g∈out:=List.mem_of_getLast? hl;have:=(j0.1 h).2.2 g hg f (List.mem_singleton_self f);rw[Y7] at this;have:=a8 this;simp only[dq];omega
theorem adu {out:List Fa} {f:Fa} (h:StF out) (hl:oG out f=false):StF (out++[f]):=by
 refine j0.2 ⟨h,List.pairwise_singleton _ _,λx hx y hy=>?_⟩;rw[aX] at hy;subst hy;unfold oG at hl;cases hg:out.getLast? with
 |none=>rw[List.getLast?_eq_none_iff] at hg;subst hg;cases hx
 |some g=>
  rw[hg] at hl;have hgf:ltF g y=true:=by rw[Y7,bF];have:=bK hl;omega
  have gY:out≠[]:=by rintro rfl;cases hx
  have hgl:out.getLast gY=g:=by rw[List.getLast?_eq_some_getLast gY] at hg;exact eI hg
  rw[<- List.dropLast_concat_getLast gY,ba,aX] at hx;rcases hx with hx | hx
  .rw[<- List.dropLast_concat_getLast gY] at h
   have:=(j0.1 h).2.2 x hx g (by rw[hgl];exact List.mem_singleton_self g);exact zr this hgf
  .rw[hx,hgl];exact hgf
theorem Qd:∀ (m out:List Fa) (r:B),(∀ f∈m,FaI f)->StF (out++m)->gi m.length ⟨(m.map lW).flatten++r,0,out⟩=⟨r,0,out++m⟩
 |[],out,r,_,_=>by simp[gi]
 |f::m,out,r,hI,hs=>by
  have h1:=ads (hI f (bJ ..)) ((m.map lW).flatten++r);have LU:StF ((out++[f])++m):=by rw[aI];exact hs
  have hl:=adt (List.Pairwise.sublist (List.sublist_append_left (out++[f]) m) LU);show(if(0:Int)=0 then gi m.length (nw _) else _)=_
  rw[if_pos rfl];have e:nw ⟨((f::m).map lW).flatten++r,0,out⟩=⟨(m.map lW).flatten++r,0,out++[f]⟩:=by unfold nw;simp only[bA,cF,aI,h1,hl];rfl
  rw[e,Qd m (out++[f]) r (λg hg=>hI g (aT _ hg)) LU,aI];rfl
theorem TX {m:List Fa} (h:m.length<=65536):cE (Vl.encI m.length++(m.map lW).flatten) 0=((m.length:Int),(m.map lW).flatten,0):=ve (by unfold I64;omega) _
theorem TY {l:List Fa} (hI:∀ f∈l,FaI f) (hl:l.length<=65536):dX (jJ l)=(eV l,0):=by
 have hsI:∀ f∈eV l,FaI f:=λf hf=>hI f (mY.1 hf);have hst:=ny l;have cj:=oC l;have he:jJ l=Vl.encI (eV l).length++((eV l).map lW).flatten:=rfl;rw[he];generalize eV l=m at *;have h1:=TX (m:=m) (by omega);have h2:=Qd m [] [] hsI (by simpa using hst);have h3:kV (Vl.encI m.length++(m.map lW).flatten)=⟨(m.map lW).flatten++[],0,[]⟩:=by
  unfold kV;rw[h1];have:(decide ((m.length:Int)<0)||decide (65536<(m.length:Int)))=false:=by simp;omega
  simp only[this,br];rfl
 unfold dX;rw[h3,h1];simp only[cC,h2];rfl
theorem zu {is:Bool} {f e:Int} (h:jA is f e=0) (hf:f≠0):e=0/\is=false:=by
 unfold jA at h;cases is
 .simpa using h
 .by_cases he:e=0
  .subst he;simp at h;exact absurd h hf
  .rw[if_neg (by simpa using he)] at h;exact absurd h he
theorem Ls:∀ (n:Nat) (s:Rd),StF s.out->(gi n s).e=0->∃ m:List Fa,m.length=n/\(∀ f∈m,FaI f)/\(gi n s).out=s.out++m/\StF (s.out++m)/\s.b=(m.map lW).flatten++(gi n s).b/\s.e=0
 |0,s,hs,h=>⟨[],rfl,(λ_ h=>by cases h),(by simp[gi]),(by simpa using hs),(by simp[gi]),h⟩
 |n+1,s,hs,h=>by
  by_cases h0:s.e=0
  .have hg:gi (n+1) s=gi n (nw s):=by show(if s.e=0 then _ else _)=_;rw[if_pos h0]
   rw[hg] at h ⊢
   have hz:(nw s).e=0:=by
    cases n with
    |zero=>exact h
    |succ n=>
     by_cases q:(nw s).e=0
     .exact q
     .have:gi (n+1) (nw s)=nw s:=by show(if(nw s).e=0 then _ else _)=_;rw[if_neg q]
      rw[this] at h;exact h
   have hf:=zu (show jA (oG s.out (kD s.b s.e).1) 6 (kD s.b s.e).2.2=0 from hz) (by decide);rw[h0] at hf;obtain⟨f,b',e'⟩:Fa×B×Int:=kD s.b 0;generalize ht:kD s.b 0=t at hf;obtain⟨f,b',e'⟩:=t;obtain⟨rfl,hl⟩:e'=0/\oG s.out f=false:=hf;obtain⟨hfI,hb⟩:=Y6 ht;have eo:(nw s).out=s.out++[f]:=(by unfold nw;rw[h0,ht]);have eb:(nw s).b=b':=(by unfold nw;rw[h0,ht]);obtain⟨m,hm,hI,ho,hst,QG,_⟩:=Ls n (nw s) (by rw[eo];exact adu hs hl) h;rw[eo,aI] at ho hst;rw[eb] at QG;refine⟨f::m,by rw[aC,hm],λg hg=>?_,ho,hst,?_,h0⟩
   .rcases aP.1 hg with rfl | hg
    .exact hfI
    .exact hI g hg
   .rw[hb,QG];simp
  .have:gi (n+1) s=s:=by show(if s.e=0 then _ else _)=_;rw[if_neg h0]
   rw[this] at h;exact absurd h h0
theorem Oz {b:B} (h:(dX b).2=0):StF (dX b).1/\(∀ f∈(dX b).1,FaI f)/\(dX b).1.length<=65536/\jJ (dX b).1=b:=by
 have hE:dX b=(let s:=oH (gi (cE b 0).1.toNat (kV b));if s.e≠0 then([],s.e) else(s.out,0)):=rfl
 generalize hs:gi (cE b 0).1.toNat (kV b)=s at hE;simp only at hE;by_cases he:(oH s).e=0
 .rw[if_neg (by rw[he];decide)] at hE
  have hE1:(dX b).1=s.out:=by rw[hE];rfl
  rw[hE1];obtain⟨h0,hb0⟩:=zu (show jA (decide (0<s.b.length)) 6 s.e=0 from he) (by decide);have UC:s.b=[]:=by have:=bK hb0;exact List.length_eq_zero_iff.1 (by omega)
  have hr:(gi (cE b 0).1.toNat (kV b)).e=0:=by rw[hs];exact h0
  obtain⟨m,hm,hI,ho,hst,hb,hz⟩:=Ls _ (kV b) List.Pairwise.nil hr;rw[hs] at ho hb;rw[UC,br] at hb;have hso:s.out=m:=by rw[ho];rfl
  rw[hso];obtain⟨he0,hc⟩:=zu (show jA (decide ((cE b 0).1<0)||decide (65536<(cE b 0).1)) 6 (cE b 0).2.2=0 from hz) (by decide);have hc:¬ (cE b 0).1<0/\¬ 65536<(cE b 0).1:=by simpa using hc
  have hb2:(cE b 0).2.1=(m.map lW).flatten:=hb;have e1:(cE b 0).1=((m.length:Nat):Int):=by omega
  have hn:cE b 0=(((m.length:Nat):Int),(m.map lW).flatten,0):=Prod.ext e1 (Prod.ext hb2 he0);obtain⟨_,hbe⟩:=yB hn;have hst:StF m:=hst;refine⟨hst,hI,by omega,?_⟩;show Vl.encI (eV m).length++((eV m).map lW).flatten=b;rw[qQ hst,hbe]
 .rw[if_pos he] at hE
  rw[hE] at h;exact absurd h he
theorem TZ {b:B} (h:(dX b).2≠0):(dX b).1=[]:=by
 have hE:dX b=(let s:=oH (gi (cE b 0).1.toNat (kV b));if s.e≠0 then([],s.e) else(s.out,0)):=rfl
 simp only at hE;split at hE
 .rw[hE]
 .rw[hE] at h;exact absurd rfl h
theorem vg (b:B):(dX b).1.length<=65536:=by
 by_cases h:(dX b).2=0
 .exact(Oz h).2.2.1
 .rw[TZ h];exact ar _
open Go Go.Vl Go.Sort
set_option maxRecDepth 4000
theorem ah1 {D:List Fa} {x:In}:rdy D x=true↔∀ g∈x.pre,g∈D:=by unfold rdy;rw[aY];exact⟨λh g hg=>a8 (h g hg),λh g hg=>dn (h g hg)⟩
structure RdI (b:Int) (W:List Wy):Prop where
 pos:∀ w∈W,0<w.round
 le:∀ w∈W,w.round<=b
 pre:∀ w∈W,∀ g∈w.pre,∃ v∈W,v.fact=g/\v.round<w.round
theorem RdI.mono {a b:Int} {W:List Wy} (h:RdI a W) (Bo:a<=b):RdI b W:=⟨h.pos,λw hw=>by have:=h.le w hw;omega,h.pre⟩
theorem OA (L:List In):∀ x∈L,(∀ g∈x.pre,g∈cG (zm L))->∀ c∈x.con,c∈cG (zm L):=by
 have key:∀ (n:Nat) (num:Int) (now:List Wt) (W:List Wy) (old:In->Bool),now=((L.zipIdx.filter λq=>rdy (cG W) q.1&&!old q.1).map λq=>⟨q.1,(q.2:Nat),0⟩)->
  (∀ x∈L,old x=true->∀ c∈x.con,c∈cG W)->unr L (cG W)+(if now=[] then 0 else 1)<n->∀ x∈L,rdy (cG (Dl L n num now W)) x=true->∀ c∈x.con,c∈cG (Dl L n num now W):=by
  intro n;induction n with
  |zero=>intro num now W old _ _ h;exact absurd h (gf _)
  |succ n ih=>
   intro num now W old A2 uH ad4 x hx hr c hc;unfold Dl at hr ⊢
   by_cases h0:now=[]
   .rw[if_pos h0] at hr ⊢
    cases ho:old x
    .exfalso
     obtain⟨i,hi⟩:=eA.1 hx;have:(⟨x,(i:Nat),0⟩:Wt)∈now:=(by rw[A2];exact bU.2 ⟨(x,i),fJ.2 ⟨iZ.2 hi,by simp[hr,ho]⟩,rfl⟩);rw[h0] at this;cases this
    .exact uH x hx ho c hc
   .rw[if_neg h0] at hr ⊢ ad4
    have gx:∀ g∈cG W,g∈cG (mn num W now):=λg hg=>(uv _ _).2 (.inl hg);have j4:=K3 (L:=L) gx;refine ih (num+1) _ (mn num W now) (rdy (cG W)) rfl (λy hy hry d hd=>?_) ?_ x hx hr c hc
    .cases ho:old y
     .refine (uv _ _).2 (.inr ?_)
      obtain⟨i,hi⟩:=eA.1 hy;refine⟨⟨y,(i:Nat),0⟩,?_,hd⟩;rw[A2];exact bU.2 ⟨(y,i),fJ.2 ⟨iZ.2 hi,by simp[hry,ho]⟩,rfl⟩
     .exact gx d (uH y hy ho d hd)
    .show unr L (cG (mn num W now))+(if zl L (cG W) (cG (mn num W now))=[] then 0 else 1)<n
     split
     .rename_i h;rw[h] at j4;simp only[aG] at j4;omega
     .rename_i h
      have:0<(zl L (cG W) (cG (mn num W now))).length:=gR.2 h;omega
 intro x hx xb c hc;refine key (L.length+2) 1 (que L) [] (λ_=>false) ?_ (λ_ _ h=>by cases h) ?_ x hx (ah1.2 xb) c hc
 .unfold que
  have e:(λq:In×Nat=>q.1.pre.isEmpty)=λq=>rdy (cG []) q.1&&!false:=by funext q;have:rdy (cG []) q.1=q.1.pre.isEmpty:=(by unfold rdy cG;cases q.1.pre<;>simp);rw[this];simp
  rw[e]
 .have:=@Om L (cG [])
  split<;>omega
theorem FV {p:Pol} {w:Wy}:w∈ky p↔w∈yz p:=(sG _ _).mem_iff
theorem sK {p:Pol} {f:Fa}:f∈fm p↔f∈cG (yz p):=by unfold fm cG;rw[bU,bU];exact⟨λ⟨w,h,e⟩=>⟨w,FV.1 h,e⟩,λ⟨w,h,e⟩=>⟨w,FV.2 h,e⟩⟩
theorem T0 (p:Pol):(fm p).Nodup:=by have:(fm p).Perm (cG (yz p)):=(sG _ _).map _;exact this.nodup_iff.2 (Qa p)
theorem FX (p:Pol):StF (fm p):=by have h1:(ky p).Pairwise λx y=>ltOf An y x=false:=yw aeE _;have h2:(ky p).Pairwise λx y=>x.fact≠y.fact:=List.pairwise_map.1 (T0 p);unfold fm cG;refine List.pairwise_map.2 ((h1.and h2).imp ?_);intro x y h;rw[YS] at h;exact Oq h.1 h.2
theorem Ia {p:Pol}:∀ x∈fR p none,(∀ g∈x.pre,g∈fm p)->∀ c∈x.con,c∈fm p:=λx hx h c hc=>
 sK.2 (OA _ x hx (λg hg=>sK.1 (h g hg)) c hc)
theorem DG {p:Pol} {f:Fa} (hf:f∈fm p):gj p f=true:=by obtain⟨w,hw,rfl⟩:=bU.1 (sK.1 hf);obtain⟨x,hx,_,_,hc⟩:=(yy _).2 w hw;obtain⟨k,_,_,hg⟩:=K7 hx;exact hg.vc _ hc
theorem akT {p:Pol} {f:Fa} (hp:p.types.length<=1000000) (h:gj p f=true):FaI f:=by
 unfold gj at h;unfold FaI I64;split at h
 .simp only[aW,bF] at h;omega
 split at h
 .simp only[aW,bF] at h;omega
 split at h
 .simp only[aW,bF] at h;omega
 .cases h
theorem OB {p:Pol} (h:PolS p):(fm p).length<=40000:=by unfold fm cG;rw[au,sJ];exact h.sat
theorem DI {l:List Fa} {x:In}:qc (mA l) x=true↔(∀ g∈x.pre,g∈l)/\¬ ∀ c∈x.con,c∈l:=by
 unfold qc;rw[aW,aY,ew,<- Bool.not_eq_true,aY];constructor
 .rintro⟨h1,h2⟩
  exact⟨λg hg=>rQ.1 (a8 (h1 g hg)),λh=>h2 λc hc=>dn (rQ.2 (h c hc))⟩
 .rintro⟨h1,h2⟩
  exact⟨λg hg=>dn (rQ.2 (h1 g hg)),λh=>h2 λc hc=>rQ.1 (a8 (h c hc))⟩
theorem T8 {l:List Fa} {x:In}:qc (mA l) x=tf l x:=by
 unfold qc tf;have e:(λf=>decide (f∈mA l))=λf=>decide (f∈l):=by funext f;rw[ir];exact rQ
 rw[e]
theorem uz {p:Pol} {l:List Fa}:gX p l=mG l (fR p none):=by
 unfold gX mG oV;have:qc (mA l)=tf l:=by funext x;exact T8
 rw[this];cases(fR p none).find? (tf l)<;>rfl
theorem OC {p:Pol} {l:List Fa}:(gX p l).2=true↔∀ x∈fR p none,(∀ g∈x.pre,g∈l)->∀ c∈x.con,c∈l:=by
 unfold gX oV;cases h:(fR p none).find? (qc (mA l)) with
 |none=>refine⟨λ_ x hx h1=>?_,λ_=>rfl⟩;have:=List.find?_eq_none.1 h x hx;rw[DI] at this;exact Classical.byContradiction λq=>this ⟨h1,q⟩
 |some x=>refine⟨λh=>(by cases h),λq=>?_⟩;have h1:=List.find?_some h;rw[DI] at h1;exact absurd (q x (List.mem_of_find?_eq_some h) h1.1) h1.2
theorem Ib {p:Pol} {l:List Fa} (h:(gX p l).2=false):(gX p l).1∈fR p none/\(∀ g∈(gX p l).1.pre,g∈l)/\¬ ∀ c∈(gX p l).1.con,c∈l:=by
 unfold gX oV at h ⊢
 cases hf:(fR p none).find? (qc (mA l)) with
 |none=>rw[hf] at h;cases h
 |some x=>have h1:=List.find?_some hf;rw[DI] at h1;exact⟨List.mem_of_find?_eq_some hf,h1⟩
