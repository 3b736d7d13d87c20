/- Layer 19, plain laws: an encoding is read back, and what is read is the encoding. -/
import Derived.Test.YtloppcgcepgbnaaGreatDoorVlD1
set_option linter.all false
namespace Go.Proofs.YtloppcgcepgbnaaGreatDoor
open Go Go.Vl Go.Proofs.YtloppcgcepgbnaaGreatDoor.Kw
theorem Dz {b:B} {e:Int} (h:e≠0):cY b e=(0,b,e):=by unfold cY;rw[if_pos h]
theorem vA {n:Int} (h:I64 n) (r:B):cY (Vl.encI n++r) 0=(n,r,0):=by unfold cY;rw[if_neg (by decide),Vl.getI_enc h r];simp
theorem yH {b b':B} {n:Int} (h:cY b 0=(n,b',0)):I64 n/\b=Vl.encI n++b':=by unfold cY at h;rw[if_neg (by decide)] at h;obtain⟨m,u,f⟩:Int×Nat×Int:=nZ b;generalize hg:nZ b=g at h;obtain⟨m,u,f⟩:=g;simp only[dJ] at h;obtain⟨rfl,rfl,rfl⟩:=h;obtain⟨h1,h2,h3,h4⟩:=Vl.enc_getI hg;exact⟨h1,by rw[<- h3,dK]⟩
theorem QH (f:Fa) (r:B):lZ f++r=Vl.encI f.kind++(Vl.encI f.a++(Vl.encI f.b++r)):=by simp[lZ,mo]
theorem afz {f:Fa} (h:FaI f) (r:B):mW (lZ f++r) 0=(f,r,0):=by rw[QH];unfold mW;simp only[vA h.1,vA h.2.1,vA h.2.2]
theorem aai {b b':B} {f:Fa} (h:mW b 0=(f,b',0)):FaI f/\b=lZ f++b':=by
 unfold mW at h;generalize h1:cY b 0=x at h;obtain⟨k,b1,e1⟩:=x;simp only at h;by_cases q1:e1=0
 .subst q1
  generalize h2:cY b1 0=y at h;obtain⟨a,b2,e2⟩:=y;simp only at h;by_cases q2:e2=0
  .subst q2
   generalize h3:cY b2 0=z at h;obtain⟨c,b3,e3⟩:=z;simp only[dJ] at h;obtain⟨rfl,rfl,rfl⟩:=h;obtain⟨i1,w1⟩:=yH h1;obtain⟨i2,w2⟩:=yH h2;obtain⟨i3,w3⟩:=yH h3;exact⟨⟨i1,i2,i3⟩,by rw[QH,w1,w2,w3]⟩
  .rw[Dz q2] at h;simp only[dJ] at h;exact absurd h.2.2 q2
 .rw[Dz q1,Dz q1] at h;simp only[dJ] at h;exact absurd h.2.2 q1
theorem aaj {x y:Fa}:ltF x y=decide (wU x y<0):=by rw[<- mU];rfl
theorem afA {out:List Fa} {f:Fa} (h:StF (out++[f])):uQ out f=false:=by
 unfold uQ;cases hl:out.getLast? with
 |none=>rfl
 |some g=>have hg:g∈out:=List.mem_of_getLast? hl;have:=(jY.1 h).2.2 g hg f (List.mem_singleton_self f);rw[aaj] at this;have:=bw this;simp only[dI];omega
theorem afB {out:List Fa} {f:Fa} (h:StF out) (hl:uQ out f=false):StF (out++[f]):=by
 refine jY.2 ⟨h,List.pairwise_singleton _ _,λx hx y hy=>?_⟩;rw[aX] at hy;subst hy;unfold uQ at hl;cases hg:out.getLast? with
 |none=>rw[List.getLast?_eq_none_iff] at hg;subst hg;cases hx
 |some g=>
  rw[hg] at hl;have hgf:ltF g y=true:=by rw[aaj,bI];have:=cD hl;omega
  have gZ:out≠[]:=by rintro rfl;cases hx
  have hgl:out.getLast gZ=g:=by rw[List.getLast?_eq_some_getLast gZ] at hg;exact eH hg
  rw[<- List.dropLast_concat_getLast gZ,ba,aX] at hx;rcases hx with hx | hx
  .rw[<- List.dropLast_concat_getLast gZ] at h
   have:=(jY.1 h).2.2 x hx g (by rw[hgl];exact List.mem_singleton_self g);exact zx this hgf
  .rw[hx,hgl];exact hgf
theorem QI:∀ (m out:List Fa) (r:B),(∀ f∈m,FaI f)->StF (out++m)->kb m.length ⟨(m.map lZ).flatten++r,0,out⟩=⟨r,0,out++m⟩
 |[],out,r,_,_=>by simp[kb]
 |f::m,out,r,hI,hs=>by
  have h1:=afz (hI f (bD ..)) ((m.map lZ).flatten++r);have IG:StF ((out++[f])++m):=by rw[aH];exact hs
  have hl:=afA (List.Pairwise.sublist (List.sublist_append_left (out++[f]) m) IG);show(if(0:Int)=0 then kb m.length (qH _) else _)=_
  rw[if_pos rfl];have e:qH ⟨((f::m).map lZ).flatten++r,0,out⟩=⟨(m.map lZ).flatten++r,0,out++[f]⟩:=by unfold qH;simp only[bB,cE,aH,h1,hl];rfl
  rw[e,QI m (out++[f]) r (λg hg=>hI g (aP _ hg)) IG,aH];rfl
theorem UG {m:List Fa} (h:m.length<=65536):cY (Vl.encI m.length++(m.map lZ).flatten) 0=((m.length:Int),(m.map lZ).flatten,0):=vA (by unfold I64;omega) _
theorem UH {l:List Fa} (hI:∀ f∈l,FaI f) (hl:l.length<=65536):fi (jI l)=(eS l,0):=by
 have hsI:∀ f∈eS l,FaI f:=λf hf=>hI f (mX.1 hf);have hst:=nz l;have cm:=oL l;have he:jI l=Vl.encI (eS l).length++((eS l).map lZ).flatten:=rfl;rw[he];generalize eS l=m at *;have h1:=UG (m:=m) (by omega);have h2:=QI m [] [] hsI (by simpa using hst);have h3:oN (Vl.encI m.length++(m.map lZ).flatten)=⟨(m.map lZ).flatten++[],0,[]⟩:=by
  unfold oN;rw[h1];have:(decide ((m.length:Int)<0)||decide (65536<(m.length:Int)))=false:=by simp;omega
  simp only[this,bq];rfl
 unfold fi;rw[h3,h1];simp only[cz,h2];rfl
theorem zy {is:Bool} {f e:Int} (h:mh is f e=0) (hf:f≠0):e=0/\is=false:=by
 unfold mh at h;cases is
 .simpa using h
 .by_cases he:e=0
  .subst he;simp at h;exact absurd h hf
  .rw[if_neg (by simpa using he)] at h;exact absurd h he
theorem LK:∀ (n:Nat) (s:Rd),StF s.out->(kb n s).e=0->∃ m:List Fa,m.length=n/\(∀ f∈m,FaI f)/\(kb n s).out=s.out++m/\StF (s.out++m)/\s.b=(m.map lZ).flatten++(kb n s).b/\s.e=0
 |0,s,hs,h=>⟨[],rfl,(λ_ h=>by cases h),(by simp[kb]),(by simpa using hs),(by simp[kb]),h⟩
 |n+1,s,hs,h=>by
  by_cases h0:s.e=0
  .have hg:kb (n+1) s=kb n (qH s):=by show(if s.e=0 then _ else _)=_;rw[if_pos h0]
   rw[hg] at h ⊢
   have hz:(qH s).e=0:=by
    cases n with
    |zero=>exact h
    |succ n=>
     by_cases q:(qH s).e=0
     .exact q
     .have:kb (n+1) (qH s)=qH s:=by show(if(qH s).e=0 then _ else _)=_;rw[if_neg q]
      rw[this] at h;exact h
   have hf:=zy (show mh (uQ s.out (mW s.b s.e).1) 6 (mW s.b s.e).2.2=0 from hz) (by decide);rw[h0] at hf;obtain⟨f,b',e'⟩:Fa×B×Int:=mW s.b 0;generalize ht:mW s.b 0=t at hf;obtain⟨f,b',e'⟩:=t;obtain⟨rfl,hl⟩:e'=0/\uQ s.out f=false:=hf;obtain⟨hfI,hb⟩:=aai ht;have eo:(qH s).out=s.out++[f]:=(by unfold qH;rw[h0,ht]);have eb:(qH s).b=b':=(by unfold qH;rw[h0,ht]);obtain⟨m,hm,hI,ho,hst,Re,_⟩:=LK n (qH s) (by rw[eo];exact afB hs hl) h;rw[eo,aH] at ho hst;rw[eb] at Re;refine⟨f::m,by rw[aB,hm],λg hg=>?_,ho,hst,?_,h0⟩
   .rcases aN.1 hg with rfl | hg
    .exact hfI
    .exact hI g hg
   .rw[hb,Re];simp
  .have:kb (n+1) s=s:=by show(if s.e=0 then _ else _)=_;rw[if_neg h0]
   rw[this] at h;exact absurd h h0
theorem O4 {b:B} (h:(fi b).2=0):StF (fi b).1/\(∀ f∈(fi b).1,FaI f)/\(fi b).1.length<=65536/\jI (fi b).1=b:=by
 have hE:fi b=(let s:=tK (kb (cY b 0).1.toNat (oN b));if s.e≠0 then([],s.e) else(s.out,0)):=rfl
 generalize hs:kb (cY b 0).1.toNat (oN b)=s at hE;simp only at hE;by_cases he:(tK s).e=0
 .rw[if_neg (by rw[he];decide)] at hE
  have hE1:(fi b).1=s.out:=by rw[hE];rfl
  rw[hE1];obtain⟨h0,hb0⟩:=zy (show mh (decide (0<s.b.length)) 6 s.e=0 from he) (by decide);have Vm:s.b=[]:=by have:=cD hb0;exact List.length_eq_zero_iff.1 (by omega)
  have hr:(kb (cY b 0).1.toNat (oN b)).e=0:=by rw[hs];exact h0
  obtain⟨m,hm,hI,ho,hst,hb,hz⟩:=LK _ (oN b) List.Pairwise.nil hr;rw[hs] at ho hb;rw[Vm,bq] at hb;have hso:s.out=m:=by rw[ho];rfl
  rw[hso];obtain⟨he0,hc⟩:=zy (show mh (decide ((cY b 0).1<0)||decide (65536<(cY b 0).1)) 6 (cY b 0).2.2=0 from hz) (by decide);have hc:¬ (cY b 0).1<0/\¬ 65536<(cY b 0).1:=by simpa using hc
  have hb2:(cY b 0).2.1=(m.map lZ).flatten:=hb;have e1:(cY b 0).1=((m.length:Nat):Int):=by omega
  have hn:cY b 0=(((m.length:Nat):Int),(m.map lZ).flatten,0):=Prod.ext e1 (Prod.ext hb2 he0);obtain⟨_,hbe⟩:=yH hn;have hst:StF m:=hst;refine⟨hst,hI,by omega,?_⟩;show Vl.encI (eS m).length++((eS m).map lZ).flatten=b;rw[ra hst,hbe]
 .rw[if_pos he] at hE
  rw[hE] at h;exact absurd h he
theorem UI {b:B} (h:(fi b).2≠0):(fi b).1=[]:=by
 have hE:fi b=(let s:=tK (kb (cY b 0).1.toNat (oN b));if s.e≠0 then([],s.e) else(s.out,0)):=rfl
 simp only at hE;split at hE
 .rw[hE]
 .rw[hE] at h;exact absurd rfl h
theorem F5 (b:B):(fi b).1.length<=65536:=by
 by_cases h:(fi b).2=0
 .exact(O4 h).2.2.1
 .rw[UI h];exact ar _
open Go Go.Vl Go.Sort
set_option maxRecDepth 4000
theorem aak {D:List Fa} {x:In}:rdy D x=true↔∀ g∈x.pre,g∈D:=by unfold rdy;rw[a8];exact⟨λh g hg=>bw (h g hg),λh g hg=>dD (h g hg)⟩
structure RdI (b:Int) (W:List Wy):Prop where
 pos:∀ w∈W,0<w.round
 le:∀ w∈W,w.round<=b
 pre:∀ w∈W,∀ g∈w.pre,∃ v∈W,v.fact=g/\v.round<w.round
theorem QJ {num:Int} {x:In} {W0:List Wy} (hx:∀ g∈x.pre,∃ v∈W0,v.fact=g/\v.round<num):∀ (l:List Fa) (W:List Wy),(∀ v∈W0,v∈W)->0<num->RdI num W->RdI num (l.foldl (tP num x) W)/\∀ v∈W0,v∈l.foldl (tP num x) W
 |[],_,hs,_,h=>⟨h,hs⟩
 |f::l,W,hs,hn,h=>by
  rw[di];have EE:∀ v∈W,v∈tP num x W f:=λv hv=>by
   unfold tP;split
   .exact hv
   .exact fG _ hv
  refine QJ hx l _ (λv hv=>EE v (hs v hv)) hn ?_;unfold tP;split
  .exact h
  .refine⟨λw hw=>?_,λw hw=>?_,λw hw g hg=>?_⟩
   .rcases ba.1 hw with hw | hw
    .exact h.pos w hw
    .rw[aX] at hw;subst hw;exact hn
   .rcases ba.1 hw with hw | hw
    .exact h.le w hw
    .rw[aX] at hw;subst hw;exact Int.le_refl _
   .rcases ba.1 hw with hw | hw
    .obtain⟨v,hv,h1,h2⟩:=h.pre w hw g hg
     exact⟨v,fG _ hv,h1,h2⟩
    .rw[aX] at hw;subst hw
     obtain⟨v,hv,h1,h2⟩:=hx g hg;exact⟨v,fG _ (hs v hv),h1,h2⟩
theorem QK {num:Int} {W0:List Wy}:∀ (l:List Wt) (W:List Wy),(∀ w∈l,∀ g∈w.x.pre,∃ v∈W0,v.fact=g/\v.round<num)->(∀ v∈W0,v∈W)->0<num->RdI num W->RdI num (lu num W l)
 |[],_,_,_,_,h=>h
 |w::l,W,hl,hs,hn,h=>by obtain⟨h1,h2⟩:=QJ (hl w (bD ..)) w.x.con W hs hn h;exact QK l (OR num W w.x) (λv hv=>hl v (aP _ hv)) h2 hn h1
theorem RdI.mono {a b:Int} {W:List Wy} (h:RdI a W) (Bt:a<=b):RdI b W:=⟨h.pos,λw hw=>by have:=h.le w hw;omega,h.pre⟩
theorem QL {L:List In}:∀ (n:Nat) (num:Int) (now:List Wt) (W:List Wy),0<num->(∀ w∈now,∀ g∈w.x.pre,g∈cB W)->RdI (num - 1) W->RdI (num+n) (zo L n num now W)
 |0,num,_,W,_,_,h=>h.mono (by omega)
 |n+1,num,now,W,hn,h0,h=>by
  unfold zo;split
  .exact h.mono (by omega)
  .have h1:RdI num (lu num W now):=by refine QK (W0:=W) now W (λw hw g hg=>?_) (λ_ h=>h) hn (h.mono (by omega));obtain⟨v,hv,he⟩:=bM.1 (h0 w hw g hg);exact⟨v,hv,he,by have:=h.le v hv;omega⟩
   have:=QL (L:=L) n (num+1) (yA L (cB W) (cB (lu num W now))) (lu num W now) (by omega) (λw hw=>by obtain⟨i,x,_,rfl,_,h3⟩:=yC.1 hw;exact aak.1 h3) (show RdI (num+1 - 1) (lu num W now) by rwa [show num+1 - 1=num by omega]);exact this.mono (by omega)
theorem afC (L:List In):RdI (L.length+3) (vL L):=by
 have:=QL (L:=L) (L.length+2) 1 (que L) [] (by decide) (λw hw=>by
  unfold que at hw;obtain⟨q,hq,rfl⟩:=bM.1 hw;have:=(eW.1 hq).2;have h0:q.1.pre=[]:=by simpa using this
  intro g hg;rw[h0] at hg;cases hg) ⟨λw hw=>(by cases hw),λw hw=>(by cases hw),λw hw=>(by cases hw)⟩
 exact this.mono (by omega)
theorem O5 (L:List In):∀ x∈L,(∀ g∈x.pre,g∈cB (vL L))->∀ c∈x.con,c∈cB (vL L):=by
 have key:∀ (n:Nat) (num:Int) (now:List Wt) (W:List Wy) (old:In->Bool),now=((L.zipIdx.filter λq=>rdy (cB W) q.1&&!old q.1).map λq=>⟨q.1,(q.2:Nat),0⟩)->
  (∀ x∈L,old x=true->∀ c∈x.con,c∈cB W)->unr L (cB W)+(if now=[] then 0 else 1)<n->∀ x∈L,rdy (cB (zo L n num now W)) x=true->∀ c∈x.con,c∈cB (zo L n num now W):=by
  intro n;induction n with
  |zero=>intro num now W old _ _ h;exact absurd h (gW _)
  |succ n ih=>
   intro num now W old A4 u3 af8 x hx hr c hc;unfold zo at hr ⊢
   by_cases h0:now=[]
   .rw[if_pos h0] at hr ⊢
    cases ho:old x
    .exfalso
     obtain⟨i,hi⟩:=eB.1 hx;have:(⟨x,(i:Nat),0⟩:Wt)∈now:=(by rw[A4];exact bM.2 ⟨(x,i),eW.2 ⟨iZ.2 hi,by simp[hr,ho]⟩,rfl⟩);rw[h0] at this;cases this
    .exact u3 x hx ho c hc
   .rw[if_neg h0] at hr ⊢ af8
    have fF:∀ g∈cB W,g∈cB (lu num W now):=λg hg=>(uL _ _).2 (.inl hg);have j8:=Lq (L:=L) fF;refine ih (num+1) _ (lu num W now) (rdy (cB W)) rfl (λy hy hry d hd=>?_) ?_ x hx hr c hc
    .cases ho:old y
     .refine (uL _ _).2 (.inr ?_)
      obtain⟨i,hi⟩:=eB.1 hy;refine⟨⟨y,(i:Nat),0⟩,?_,hd⟩;rw[A4];exact bM.2 ⟨(y,i),eW.2 ⟨iZ.2 hi,by simp[hry,ho]⟩,rfl⟩
     .exact fF d (u3 y hy ho d hd)
    .show unr L (cB (lu num W now))+(if yA L (cB W) (cB (lu num W now))=[] then 0 else 1)<n
     split
     .rename_i h;rw[h] at j8;simp only[aF] at j8;omega
     .rename_i h
      have:0<(yA L (cB W) (cB (lu num W now))).length:=gU.2 h;omega
 intro x hx xo c hc;refine key (L.length+2) 1 (que L) [] (λ_=>false) ?_ (λ_ _ h=>by cases h) ?_ x hx (aak.2 xo) c hc
 .unfold que
  have e:(λq:In×Nat=>q.1.pre.isEmpty)=λq=>rdy (cB []) q.1&&!false:=by funext q;have:rdy (cB []) q.1=q.1.pre.isEmpty:=(by unfold rdy cB;cases q.1.pre<;>simp);rw[this];simp
  rw[e]
 .have:=@OU L (cB [])
  split<;>omega
theorem F6 {p:Pol} {w:Wy}:w∈kq p↔w∈yG p:=(tc _ _).mem_iff
theorem qn {p:Pol} {f:Fa}:f∈db p↔f∈cB (yG p):=by unfold db cB;rw[bM,bM];exact⟨λ⟨w,h,e⟩=>⟨w,F6.1 h,e⟩,λ⟨w,h,e⟩=>⟨w,F6.2 h,e⟩⟩
theorem afD {L:List In} {S:List Fa} (h:∀ x∈L,(∀ g∈x.pre,g∈S)->∀ c∈x.con,c∈S):∀ f∈cB (vL L),f∈S:=by
 have hr:=afC L;have key:∀ (n:Nat) (w:Wy),w∈vL L->w.round.toNat<=n->w.fact∈S:=by
  intro n;induction n with
  |zero=>intro w hw hn;have:=hr.pos w hw;omega
  |succ n ih=>intro w hw hn;obtain⟨x,hx,_,hp,hc⟩:=(uT _).2 w hw;refine h x hx (λg hg=>?_) _ hc;obtain⟨v,hv,he,bF⟩:=hr.pre w hw g (by rw[hp];exact hg);rw[<- he];exact ih v hv (by have:=hr.pos v hv;omega)
 intro f hf;obtain⟨w,hw,rfl⟩:=bM.1 hf;exact key _ w hw (ab _)
theorem UJ (p:Pol):(db p).Nodup:=by have:(db p).Perm (cB (yG p)):=(tc _ _).map _;exact this.nodup_iff.2 (QF p)
theorem zA (p:Pol):StF (db p):=by have h1:(kq p).Pairwise λx y=>ltOf As y x=false:=yF agH _;have h2:(kq p).Pairwise λx y=>x.fact≠y.fact:=List.pairwise_map.1 (UJ p);unfold db cB;refine List.pairwise_map.2 ((h1.and h2).imp ?_);intro x y h;rw[Z5] at h;exact OX h.1 h.2
theorem yI {p:Pol}:∀ x∈fN p none,(∀ g∈x.pre,g∈db p)->∀ c∈x.con,c∈db p:=λx hx h c hc=>
 qn.2 (O5 _ x hx (λg hg=>qn.1 (h g hg)) c hc)
theorem UK {p:Pol} {S:List Fa} (h:∀ x∈fN p none,(∀ g∈x.pre,g∈S)->∀ c∈x.con,c∈S):∀ f∈db p,f∈S:=λf hf=>afD h f (qn.1 hf)
theorem DD {p:Pol} {f:Fa} (hf:f∈db p):jn p f=true:=by obtain⟨w,hw,rfl⟩:=bM.1 (qn.1 hf);obtain⟨x,hx,_,_,hc⟩:=(uT _).2 w hw;obtain⟨k,_,_,hg⟩:=Lu hx;exact hg.vc _ hc
theorem anH {p:Pol} {f:Fa} (hp:p.types.length<=1000000) (h:jn p f=true):FaI f:=by
 unfold jn at h;unfold FaI I64;split at h
 .simp only[aZ,bI] at h;omega
 split at h
 .simp only[aZ,bI] at h;omega
 split at h
 .simp only[aZ,bI] at h;omega
 .cases h
theorem qo {p:Pol} (h:PolS p):(db p).length<=40000:=by unfold db cB;rw[au,tf];exact h.sat
theorem LL {l:List Fa} {x:In}:uN (nI l) x=true↔(∀ g∈x.pre,g∈l)/\¬ ∀ c∈x.con,c∈l:=by
 unfold uN;rw[aZ,a8,ew,<- Bool.not_eq_true,a8];constructor
 .rintro⟨h1,h2⟩
  exact⟨λg hg=>uJ.1 (bw (h1 g hg)),λh=>h2 λc hc=>dD (uJ.2 (h c hc))⟩
 .rintro⟨h1,h2⟩
  exact⟨λg hg=>dD (uJ.2 (h1 g hg)),λh=>h2 λc hc=>uJ.1 (bw (h c hc))⟩
theorem O6 {p:Pol} {l:List Fa}:(lY p l).2=true↔∀ x∈fN p none,(∀ g∈x.pre,g∈l)->∀ c∈x.con,c∈l:=by
 unfold lY rF;cases h:(fN p none).find? (uN (nI l)) with
 |none=>refine⟨λ_ x hx h1=>?_,λ_=>rfl⟩;have:=List.find?_eq_none.1 h x hx;rw[LL] at this;exact Classical.byContradiction λq=>this ⟨h1,q⟩
 |some x=>refine⟨λh=>(by cases h),λq=>?_⟩;have h1:=List.find?_some h;rw[LL] at h1;exact absurd (q x (List.mem_of_find?_eq_some h) h1.1) h1.2
