/- Layer 15: slices.SortedFunc, list. -/
import Derived.Test.YtegbpjodbjhjeaaGreatDoorVlUj
set_option maxHeartbeats 8000000
set_option linter.all false
namespace Go.Proofs.YtegbpjodbjhjeaaGreatDoor
open Go Go.Vl
variable {G:Gl}
set_option maxRecDepth 4000
theorem tW {S:List Tm} {xs:List V} (h:xs.all (λx=>x.ltB 2)=true):eM xs [mS S,[.mr 0]]=true:=by simp only[eM,aK,aQ,gU,aI,aL,h];rfl
theorem Lt:FnB Tryz.prog G 126 [nG,.c (.fn (.func 91) [] [])] [mS [],[.mr 0]] (.c (tsC [])) [mS [],[.mr 0]]:=by refine nD (rs:=[.tmp 4]) (k:=2) [1500007,3000002] mixed Tryz.func126 rfl rfl rfl rfl (by kernel_rfl) (by simp) rfl rfl rfl (tW rfl) (ai _) ?_;simp only[pkA,seval,nG];refine uG rfl IK (by simp[V.fz,nG]) rfl ⟨rfl,rfl,trivial⟩ ?_;rintro r b1 ⟨rfl,j,rfl,hj⟩;simp only[pkA,seval];refine ax rfl UT (λh=>by cases h) ?_;simp only[pkA,seval];exact eO [(4,.c (tsC []))] rfl (by simp only[eu,aK,aQ,gU,aI,aL];rfl) (ai _) (show 2<=4 by decide) ⟨by simp[tsC],trivial⟩ ⟨rfl,rfl,trivial⟩ (by simp[hdS,frs,gK,up])
theorem F6 {s:Vl.S} {m:Nat}:∀ xs:List V,LZ s m xs xs
 |[]=>trivial
 |_::xs=>⟨.inl rfl,F6 xs⟩
theorem P3 (S:List Tm) (hS:S.length<=1000000000) (gu:S≠[]) (hs:∀ t∈S,bi t<=1000000000) (qw:S.Nodup):FnB Tryz.prog G 126 [nG,.c (.fn (.func 91) [] [])] [mS S,[.mr 0]] (.c (tsC (kE S))) [mS S,[.mr 0]]:=by
 refine nD (rs:=[.tmp 4]) (k:=2) [1500007,1000010,2600003,3000002] mixed Tryz.func126 rfl rfl rfl rfl (by kernel_rfl) (by simp) rfl rfl rfl (tW rfl) (ai _) ?_;simp only[pkA,seval,nG];refine uG rfl (Lr S hS gu) (by simp[V.fz,nG]) rfl ⟨rfl,rfl,trivial⟩ ?_;rintro r b1 ⟨l,j,hl,rfl,rfl,hj⟩;have hso:kE l=kE S:=qi (jz l) (jz S) λx=>by rw[jg,jg];exact hl.mem_iff
 have aaf:=Zh (G:=G) l (λt ht=>hs t (hl.mem_iff.1 ht)) (hl.nodup_iff.2 qw) (by rw[hl.length_eq];omega) l.length (ai _);rw[hso,hl.length_eq] at aaf;simp only[pkA,seval];refine uE [4] rfl aaf (by simp[V.fz,V.ren,rho]) rfl (by decide) rfl ⟨⟨show 4<5 by decide,by simp only[MP];rfl⟩,trivial⟩ ?_;intro bx' xQ hat;have h0:bx' 0=mS S:=by rw[xQ 0 (by decide)];rfl
 have h1:bx' 1=[.mr 0]:=by rw[xQ 1 (by decide)];rfl
 have h4:bx' 4=flb tmC (kE S):=by have:=hat 0 4 _ rfl rfl;rwa [MP] at this
 simp only[pkA,seval];refine afy (l:=[(5,.c (tsC (kE S)))]) (bl:=[mS S,[.mr 0]]) (by simp only[eu,aK,aQ,gU,aI,aL];rfl) (ai _) (show 2<=5 by decide) ⟨.inr ?_,trivial⟩ ⟨by rw[h0];exact F6 _,by rw[h1];exact F6 _,trivial⟩ ?_
 .have cH:S.length=(kE S).length:=by have h1:=(Ls (jz S).nodup qw (λx=>jg)).length_eq;exact h1.symm
  exact⟨4,0,S.length,S.length,3,tsC (kE S),by simp[aw],show 2<=4 by decide,To bG (show 4<5 by decide) h4 cH,rfl⟩
 simp only[pkA,seval,tsC];exact eO [(4,.c (tsC (kE S)))] rfl (by simp only[eu,aK,aQ,gU,aI,aL];rfl) (ai _) (ai 2) ⟨by simp[tsC],trivial⟩ ⟨rfl,rfl,trivial⟩ (by simp[hdS,frs,gK,up,tsC])
theorem Zi (S:List Tm) (hS:S.length<=1000000000) (hs:∀ t∈S,bi t<=1000000000) (qw:S.Nodup):FnB Tryz.prog G 93 [.mr 0] [mS S] (.c (tsC (kE S))) [mS S]:=by
 refine nD (rs:=[.tmp 2]) (k:=1) [1000004,1000005,3000001] mixed Tryz.func93 rfl rfl rfl rfl (by kernel_rfl) (by simp) rfl rfl rfl (by simp only[eM,aK,aQ,gU,aI,aL];rfl) (ai _) ?_;simp only[pkA,seval];refine O0 rfl (P2 S) rfl rfl ⟨rfl,trivial⟩ ?_;simp only[pkA,seval];have aaf:FnB Tryz.prog G 126 [nG,.c (.fn (.func 91) [] [])] [mS S,[.mr 0]] (.c (tsC (kE S))) [mS S,[.mr 0]]:=by
  by_cases h:S=[]
  .subst h;exact Lt
  .exact P3 S hS h hs qw
 refine k7 rfl aaf (by simp[V.fz,nG]) (show 2<=2 by decide) ⟨rfl,rfl,trivial⟩ (λ_ _=>rfl) ?_;simp only[pkA,seval];exact eO [(2,.c (tsC (kE S)))] rfl (by simp only[eu,aK,aQ,gU,aI,aL];rfl) (ai _) (show 1<=2 by decide) ⟨by simp[],trivial⟩ ⟨rfl,trivial⟩ (by simp[hdS,frs,gK,up])
def xh (S:List Tm):Prop:=∀ t∈S,bW t=true
theorem Zj {S:List Tm}:(prS S).map (·.1)=S.map jo:=by unfold prS;rw[jE];rfl
theorem Nb {S:List Tm} (hS:xh S) {t:Tm} (ht:bW t=true):wS (prS S) (jo t)=S.findIdx? (λu=>decide (t=u)):=by
 unfold wS;rw[Zj];induction S with
 |nil=>rfl
 |cons u S ih=>have hu:decide (jo t=jo u)=decide (t=u):=fb.2 ⟨Uy ht (hS u (aX ..)),λh=>by rw[h]⟩;simp only[aN,List.findIdx?_cons,hu,ih λv hv=>hS v (aT _ hv)]
theorem Zk {S:List Tm} (hS:xh S) {t:Tm} (ht:bW t=true):wT (prS S) (jo t)=if t∈S then some t else none:=by
 unfold wT;rw[Nb hS ht];cases hf:S.findIdx? (λu=>decide (t=u)) with
 |none=>
  have:t∉S:=λh=>by have:=dT.1 hf t h;simp at this
  rw[if_neg this]
 |some j=>
  obtain⟨h1,h2,_⟩:=b9.1 hf;have h2:t=S[j]:=by simpa using h2
  have:t∈S:=by rw[h2];exact aH h1
  rw[if_pos this];simp only;rw[ak (by rw[m3];exact h1),F4];simp[<- h2]
theorem Zl {S:List Tm} (hS:xh S) {t:Tm} (ht:bW t=true):Tu (prS S) (jo t) t=prS (Ih S t):=by
 unfold Tu;rw[Nb hS ht];cases hf:S.findIdx? (λu=>decide (t=u)) with
 |none=>
  have:t∉S:=λh=>by have:=dT.1 hf t h;simp at this
  simp only;unfold Ih;rw[if_neg (by simpa using this)];simp[prS]
 |some j=>
  obtain⟨h1,h2,_⟩:=b9.1 hf;have h2:t=S[j]:=by simpa using h2
  have:t∈S:=by rw[h2];exact aH h1
  simp only;unfold Ih;rw[if_pos (by simpa using this)];apply iL;intro i;rw[List.getElem?_set];split
  .rename_i e;subst e
   rw[if_pos (by rw[m3];exact h1),ak (by rw[m3];exact h1),F4,<- h2]
  .rfl
theorem adC {S:List Tm} {t:Tm} {s:Vl.S} {i:Nat} {K:Vl.S->Prop} (hS:xh S) (ht:bW t=true) (hb:s.bx i=mS S) (hi:i<s.nb) (hK:K { s with bx:=up s.bx i (mS (Ih S t)) }):iC Tryz.prog 105 s (.mr i) (sv (jo t)) (.agg (tmC t)) K:=by refine Ik (f:=sv) (h:=tmV) (c:=λa=>[cS a]) (b:=t) (l:=prS S) vP rfl FM rfl cV rfl aat (λ_=>rfl) (λ_=>rfl) eqS rfl rfl hb hi ?_;rw[Zl hS ht];exact hK
def gV:Tm:=.mk 0 0 []
theorem Nc {S:List Tm} {t:Tm} {s:Vl.S} {i:Nat} {K:V->Prop} (hS:xh S) (ht:bW t=true) (hb:s.bx i=mS S) (hi:i<s.nb) (hK:K (.tup [.agg (tmC (if t∈S then t else gV)),bo (decide (t∈S))])):fV Tryz.prog 105 s (.mr i) (sv (jo t)) true K:=by
 refine Pq (f:=sv) (h:=tmV) (c:=λa=>[cS a]) (l:=prS S) vP rfl FM rfl cV rfl aat (λ_=>rfl) (λ_=>rfl) eqS hb hi ?_;rw[Zk hS ht];by_cases h:t∈S
 .simp only[if_pos h,dU h] at hK ⊢;exact hK
 .simp only[if_neg h,eY h] at hK ⊢;exact hK
theorem UU {S:List Tm} {t:Tm} (hS:xh S) (ht:bW t=true):xh (Ih S t):=λu hu=>by
 unfold Ih at hu;split at hu
 .exact hS u hu
 .rcases bh.1 hu with h | h
  .exact hS u h
  .rw[bu] at h;rw[h];exact ht
theorem agb {G:Gl} {tr:List Nat} {ty:TypeId} {d:Option Tmp} {pos:String} {af:Array Edge} {g:Option (Nat×Bool)} {fr:Nat->V} {bx:Nat->List V} {nb:Nat} {H:Vl.S->Prop}:VStep Tryz.prog G tr ⟨d,.makeMap 105 none,ty,pos,af,g⟩ ⟨fr,bx,nb⟩ H=H ((⟨fr,up bx nb (mS []),nb+1⟩:Vl.S).put d (.mr nb)):=YN
def Lu (S:List Tm):List (List V):=[mS S,[.mr 0]]
theorem Nf {S:List Tm}:Lu S=[mS S,[.mr 0]]:=rfl
def IP:=jj @pkA (jj @ptA @pkT)
theorem P4 (S:List Tm) (t:Tm) (h:FnB Tryz.prog glT 94 [.mr 0,.agg (tmC t)] [mS S] (bo (dH (inP S) t)) [mS S]):FnB Tryz.prog glT 128 [.agg (tmC t),.bp 1 0] (Lu S) (bo (!dH (inP S) t)) (Lu S):=by refine nD (rs:=[.tmp 3]) (k:=2) [1000006,3000002] mixed Tryz.func128 rfl rfl rfl rfl (by kernel_rfl) (by simp) rfl rfl rfl (tW rfl) (ai _) ?_;simp only[IP,seval,Nf];refine k7 rfl h (by simp[V.fz]) (show 1<=3 by decide) ⟨rfl,trivial⟩ (λ_ _=>rfl) ?_;simp only[pkA,seval];exact eO [(3,bo (!dH (inP S) t))] rfl (by simp only[eu,aK,aQ,gU,aI,aL];rfl) (ai _) (show 2<=3 by decide) ⟨by simp[],trivial⟩ ⟨rfl,rfl,trivial⟩ (by simp[hdS,frs,gK,up])
def UV (S:List Tm) (R:Tm->Prop) (h:∀ t,R t->FnB Tryz.prog glT 94 [.mr 0,.agg (tmC t)] [mS S] (bo (dH (inP S) t)) [mS S]):Ask glT (Lu S) (.clo (.func 128) [] [.bp 1 0]) R (λt=>!dH (inP S) t) where
 g:=128
 caps:=[.bp 1 0]
 eq:=rfl
 lt:=by simp[V.ltP,Lu]
 ltY:=Lo (tW (xs:=[]) rfl)
 fz:=rfl
 ok t ht:=P4 S t (h t ht)
theorem Lv {S l:List Tm}:(l.any λt=>!dH (inP S) t)=!lN (inP S) l:=by
 induction l with
 |nil=>rfl
 |cons t l ih=>simp[lN,ih]
theorem P5 {p:Tm->Bool} {k n:Int} {l:List Tm}:dH p (.mk k n l)=(p (.mk k n l)||decide (k=1)||(!decide (k=2)&&lN p l)):=by simp[dH]
theorem xj (S:List Tm) (hS:xh S):∀ t:Tm,bW t=true->bi t<=1000000000->FnB Tryz.prog glT 94 [.mr 0,.agg (tmC t)] [mS S] (bo (dH (inP S) t)) [mS S]:=by
 refine Tm.ind λk n l ih hv ej=>?_;obtain⟨_,_,_,ui⟩:=fe hv;have WS:cz l+1<=1000000000:=by simp only[bi] at ej;omega
 have JU:=iG l;have aag:=UV S (λt=>t∈l) (λt ht=>ih t ht (ui t ht) (by have:=fE ht;omega));refine nD (rs:=[.tmp 4]) (k:=1) [1000027,3000001] mixed Tryz.func94 rfl rfl rfl rfl (by kernel_rfl) (by simp) rfl rfl rfl (by simp only[eM,aK,aQ,gU,aI,aL];rfl) (ai _) ?_;simp only[IP,seval,US];refine ax rfl (F3 _ hv ej) (λ_=>rfl) ?_;simp only[pkA,seval];refine Nc hS hv rfl (show 0<3 by decide) ?_;simp only[IP,seval];have JH:∀ (fr:Nat->V) (bx:Nat->List V) (nb:Nat) (e:VE) (b:Bool),Dk e=true->1<=nb->bx 0=mS S->fr 4=bo b->dH (inP S) (.mk k n l)=b->vJ Tryz.prog 1 (bo (dH (inP S) (.mk k n l))) [mS S] [.tmp 4] e ⟨fr,bx,nb⟩:=λfr bx nb e b he hn h0 h4 hb=>by rw[hb];exact eO [(4,bo b)] he (by simp only[eu,aK,aQ,gU,aI,aL];rfl) (ai _) hn ⟨h4,trivial⟩ ⟨h0,trivial⟩ (by simp[hdS,frs,gK,up])
 have hbt:=P5 (p:=inP S) (k:=k) (n:=n) (l:=l)
 repeat' first
  |(simp only[IP,seval,tsC])
  |refine fQ (λh=>?_) (λh=>?_)
  |refine aJ (λh=>?_) (λh=>?_)
  |(refine k7 rfl (Ab aag l (λt h=>h) (by omega)) (by simp[V.fz,tsC]) (show 2<=4 by decide) ⟨rfl,rfl,trivial⟩ (λ_ _=>rfl) ?_)
 all_goals (
  refine JH _ _ _ _ _ rfl (by simp) (by simp[aw,bxs]) rfl ?_;rw[hbt];show(decide (Tm.mk k n l∈S)||decide (k=1)||!decide (k=2)&&lN (inP S) l)=_;have dC:=Lv (S:=S) (l:=l);clear JH aag ih hbt;generalize decide (Tm.mk k n l∈S)=b1 at *;generalize decide (k=1)=b2 at *;generalize decide (k=2)=b3 at *;generalize lN (inP S) l=b4 at *;simp_all)
def kf:Tm->List Tm×List Tm->List Tm×List Tm
 | .mk k n l,(S,L)=>
  if Tm.mk k n l∈S then(S,L) else
  if k=3∨k=4 then
   match l with
   |[a,b]=>if dH (inP (S++[.mk k n [a,b]])) a=true then kf b (S++[.mk k n [a,b]],L) else(S++[.mk k n [a,b]],L++[.mk k n [a,b]])
   |l=>(S++[.mk k n l],L)
  else(S++[.mk k n l],L)
termination_by t=>bi t
decreasing_by simp only[bi,cz];omega
structure xl (I S L:List Tm):Prop where
 nd:S.Nodup
 sub:∀ t∈S,Kn I false t
 inl:∀ t∈L,t∈S/\(t.kind=3∨t.kind=4)
 opn:∀ k n a b,Tm.mk k n [a,b]∈S->(k=3∨k=4)->b∈S∨Tm.mk k n [a,b]∈L
theorem F7 {k n:Int} {l S L:List Tm}:kf (.mk k n l) (S,L)=if Tm.mk k n l∈S then(S,L) else
 if k=3∨k=4 then
  match l with
  |[a,b]=>if dH (inP (S++[.mk k n [a,b]])) a=true then kf b (S++[.mk k n [a,b]],L) else(S++[.mk k n [a,b]],L++[.mk k n [a,b]])
  |l=>(S++[.mk k n l],L)
 else(S++[.mk k n l],L):=by
 rcases l with _ | ⟨a,_ | ⟨b,_ | ⟨c,r⟩⟩⟩
 .rw[kf];simp
 .rw[kf];simp
 .rw[kf]
 .rw[kf];simp
theorem F8 {I:List Tm}:∀ (t:Tm) (S L:List Tm),bW t=true->S.Nodup->(∀ x∈S,Kn I false x)->(∀ x∈L,x∈S/\(x.kind=3∨x.kind=4))->
 (∀ k n a b,Tm.mk k n [a,b]∈S->(k=3∨k=4)->b∈S∨Tm.mk k n [a,b]∈L∨b=t)->Kn I false t->
 xl I (kf t (S,L)).1 (kf t (S,L)).2/\t∈(kf t (S,L)).1/\(∀ x∈S,x∈(kf t (S,L)).1)/\(kf t (S,L)=(S,L)∨(S.length<(kf t (S,L)).1.length/\(kf t (S,L)).2.length<=L.length+1)):=by
 refine Tm.ind λk n l ih S L hv qw WW f9 cC ht=>?_;obtain⟨hk6,_,cH,ui⟩:=fe hv;rw[F7];by_cases hm:Tm.mk k n l∈S
 .rw[if_pos hm]
  refine⟨⟨qw,WW,f9,λk' n' a b h1 h2=>?_⟩,hm,λx hx=>hx,.inl rfl⟩;rcases cC k' n' a b h1 h2 with h | h | h
  .exact .inl h
  .exact .inr h
  .rw[h];exact .inl hm
 rw[if_neg hm];have WI:(S++[Tm.mk k n l]).Nodup:=List.nodup_append.2 ⟨qw,by simp,λa ha b hb e=>by rw[bu] at hb;exact hm (by rw[<- hb,<- e];exact ha)⟩;have aah:∀ x∈S++[Tm.mk k n l],Kn I false x:=λx hx=>by
  rcases bh.1 hx with h | h
  .exact WW x h
  .rw[bu] at h;rw[h];exact ht
 have Ck:Tm.mk k n l∈S++[Tm.mk k n l]:=by simp
 have eF:∀ x∈S,x∈S++[Tm.mk k n l]:=λx hx=>iu _ hx;by_cases hk:k=3∨k=4
 .rw[if_pos hk]
  have h2:l.length=2:=by rcases hk with rfl | rfl<;>simp[gR] at cH<;>omega
  match l,h2 with
  |[a,b],_=>
   simp only;by_cases hb:dH (inP (S++[.mk k n [a,b]])) a=true
   .rw[if_pos hb]
    have hih:=ih b (by simp) (S++[.mk k n [a,b]]) L (ui b (by simp)) WI aah (λx hx=>⟨eF x (f9 x hx).1,(f9 x hx).2⟩) (λk' n' a' b' h1 h2=>by
     rcases bh.1 h1 with h | h
     .rcases cC k' n' a' b' h h2 with h | h | h
      .exact .inl (eF _ h)
      .exact .inr (.inl h)
      .rw[h];exact .inl Ck
     .rw[bu] at h
      cases h;exact .inr (.inr rfl)) (.opn ht hk (oe aah a hb))
    obtain⟨q1,q2,q3,q4⟩:=hih;refine⟨q1,q3 _ Ck,λx hx=>q3 _ (eF x hx),.inr ?_⟩;rcases q4 with h | h
    .rw[h];exact⟨by simp,by simp⟩
    .have:=h.1;simp only[aB,dR] at this;exact⟨by omega,h.2⟩
   .rw[if_neg hb]
    refine⟨⟨WI,aah,λx hx=>?_,λk' n' a' b' h1 h2=>?_⟩,Ck,eF,.inr ⟨by simp,by simp⟩⟩
    .rcases bh.1 hx with h | h
     .exact⟨eF x (f9 x h).1,(f9 x h).2⟩
     .rw[bu] at h;rw[h];exact⟨Ck,hk⟩
    .rcases bh.1 h1 with h | h
     .rcases cC k' n' a' b' h h2 with h | h | h
      .exact .inl (eF _ h)
      .exact .inr (iu _ h)
      .rw[h];exact .inl Ck
     .rw[bu] at h
      cases h;exact .inr (by simp)
 .rw[if_neg hk]
  refine⟨⟨WI,aah,λx hx=>⟨eF x (f9 x hx).1,(f9 x hx).2⟩,λk' n' a' b' h1 h2=>?_⟩,Ck,eF,.inr ⟨by simp,by simp⟩⟩;rcases bh.1 h1 with h | h
  .rcases cC k' n' a' b' h h2 with h | h | h
   .exact .inl (eF _ h)
   .exact .inr h
   .rw[h];exact .inl Ck
  .rw[bu] at h
   cases h;exact absurd h2 hk
def fm (I:List Tm) (s:List Tm×List Tm):List Tm×List Tm:=I.foldl (λs t=>kf t s) s
theorem vW {I:List Tm} (hv:∀ t∈I,bW t=true):∀ (J:List Tm) (S L:List Tm),(∀ t∈J,t∈I)->xl I S L->xl I (fm J (S,L)).1 (fm J (S,L)).2/\(∀ t∈J,t∈(fm J (S,L)).1)/\∀ x∈S,x∈(fm J (S,L)).1
 |[],S,L,_,h=>⟨h,by simp,λx hx=>hx⟩
 |t::J,S,L,hJ,h=>by
  have ht:=hJ t (aX ..);obtain⟨q1,q2,q3,_⟩:=F8 (I:=I) t S L (hv t ht) h.nd h.sub h.inl (λk n a b h1 h2=>(h.opn k n a b h1 h2).imp_right .inl) (.item ht);obtain⟨p1,p2,p3⟩:=vW hv J (kf t (S,L)).1 (kf t (S,L)).2 (λu hu=>hJ u (aT _ hu)) q1;have e:fm (t::J) (S,L)=fm J ((kf t (S,L)).1,(kf t (S,L)).2):=rfl;rw[e];refine⟨p1,λu hu=>?_,λx hx=>p3 _ (q3 x hx)⟩;rcases bI.1 hu with rfl | hu
  .exact p3 _ q2
  .exact p2 u hu
def BU (t:Tm):Tm:=t.l.getD 0 gV
def Ng (t:Tm):Tm:=t.l.getD 1 gV
def sG:Nat->List Tm×List Tm->List Tm×List Tm
 |0,s=>s
 |f+1,(S,L)=>match L.findIdx? (λt=>dH (inP S) (BU t)) with
  |none=>(S,L)
  |some i=>sG f (kf (Ng (L.getD i gV)) (S,L.eraseIdx i))
theorem tX {I S L:List Tm} (h:xl I S L):S.length<=cz I:=by
 have eF:∀ x∈S,x∈mD I:=λx hx=>mE.2 ((h.sub x hx).loc rfl);have:=mF h.nd eF;have e:(mD I).length=cz I:=by
  clear eF this h;induction I with
  |nil=>rfl
  |cons t l ih=>simp only[mD,cz,aB,BH,ih]
 omega
theorem IQ {I:List Tm} (hv:∀ t∈I,bW t=true):∀ (f:Nat) (S L:List Tm),xl I S L->2*(cz I - S.length)+L.length<f->xl I (sG f (S,L)).1 (sG f (S,L)).2/\(∀ x∈S,x∈(sG f (S,L)).1)/\∀ t∈(sG f (S,L)).2,dH (inP (sG f (S,L)).1) (BU t)=false
 |0,_,_,_,h=>by omega
 |f+1,S,L,hC,hf=>by
  unfold sG;cases hi:L.findIdx? (λt=>dH (inP S) (BU t)) with
  |none=>refine⟨hC,λx hx=>hx,λt ht=>?_⟩;exact dT.1 hi t ht
  |some i=>
   obtain⟨bF,hb,_⟩:=b9.1 hi;simp only;have eg:L.getD i gV=L[i]:=(by simp[bF]);rw[eg];have jL:=aH bF;obtain⟨hS,hk⟩:=hC.inl _ jL;obtain⟨w,hw,eF⟩:=(hC.sub _ hS).loc rfl;obtain⟨a,b,mI⟩:=FV (pD w (hv w hw) _ eF) hk;have GM:BU L[i]=a:=(by rw[mI];rfl);have sq:Ng L[i]=b:=(by rw[mI];rfl);rw[GM] at hb;rw[sq];have hvb:bW b=true:=(by have:=pD w (hv w hw) _ eF;rw[mI] at this;exact(fe this).2.2.2 b (by simp));have hKu:Kn I false (.mk L[i].kind L[i].n [a,b]):=(by rw[<- mI];exact hC.sub _ hS);have ahN:∀ x∈L.eraseIdx i,x∈L:=λx hx=>List.mem_of_mem_eraseIdx hx;obtain⟨q1,q2,q3,q4⟩:=F8 (I:=I) b S (L.eraseIdx i) hvb hC.nd hC.sub (λx hx=>hC.inl x (ahN x hx)) (λk' n' a' b' h1 h2=>by
    rcases hC.opn k' n' a' b' h1 h2 with h | h
    .exact .inl h
    .obtain⟨j,hj,e⟩:=eo h
     by_cases pe:j=i
     .subst pe
      rw[mI] at e;injection e with _ _ e
      injection e with _ e
      injection e with e _
      exact .inr (.inr e.symm)
     .refine .inr (.inl ?_)
      rw[List.mem_eraseIdx_iff_getElem];exact⟨j,hj,pe,e⟩) (.opn hKu hk (oe hC.sub a hb))
   have fO:(L.eraseIdx i).length=L.length - 1:=List.length_eraseIdx_of_lt bF;have nr:=tX q1;have akJ:=tX hC;have hm:2*(cz I - (kf b (S,L.eraseIdx i)).1.length)+(kf b (S,L.eraseIdx i)).2.length<f:=by
    rcases q4 with h | ⟨h1,h2⟩
    .rw[h];simp only;omega
    .omega
   obtain⟨p1,p2,p3⟩:=IQ hv f (kf b (S,L.eraseIdx i)).1 (kf b (S,L.eraseIdx i)).2 q1 hm;exact⟨p1,λx hx=>p2 x (q3 x hx),p3⟩
theorem IR {S:List Tm}:inP (kE S)=inP S:=funext λt=>fb.2 jg
theorem Lx {I S L:List Tm} (hv:∀ t∈I,bW t=true) (hC:xl I S L) (hI:∀ t∈I,t∈S) (hn:∀ t∈L,dH (inP S) (BU t)=false):kE S=c9 I:=by
 obtain⟨h1,h2⟩:=j4 hv;refine Lm (I:=I) ⟨jz S,λt ht=>jg.2 (hI t ht),λt ht=>hC.sub t (jg.1 ht)⟩ (λk n a b hm hk hb=>?_) h1 h2;rw[IR] at hb;rcases hC.opn k n a b (jg.1 hm) hk with h | h
 .exact jg.2 h
 .have:=hn _ h
  rw[show BU (.mk k n [a,b])=a from rfl,hb] at this;cases this
def xn (I:List Tm):List Tm×List Tm:=sG (2*cz I+(fm I ([],[])).2.length+1) (fm I ([],[]))
theorem IS {I:List Tm} (hv:∀ t∈I,bW t=true):xl I (xn I).1 (xn I).2/\kE (xn I).1=c9 I:=by obtain⟨p1,p2,_⟩:=vW hv I [] [] (λ_ h=>h) ⟨ir,by simp,by simp,λ_ _ _ _ h=>by cases h⟩;have e:fm I ([],[])=((fm I ([],[])).1,(fm I ([],[])).2):=rfl;obtain⟨q1,q2,q3⟩:=IQ hv (2*cz I+(fm I ([],[])).2.length+1) _ _ p1 (by omega);exact⟨q1,Lx hv q1 (λt ht=>q2 t (p2 t ht)) q3⟩
theorem UW (S:List Tm) (hS:xh S) (k n:Int) (a b:Tm) (hva:bW a=true) (ej:bi a<=1000000000):FnB Tryz.prog glT 124 [.agg (tmC (.mk k n [a,b])),.bp 1 0] (Lu S) (bo (dH (inP S) a)) (Lu S):=by refine nD (rs:=[.tmp 3]) (k:=2) [1000009,3000002] mixed Tryz.func124 rfl rfl rfl rfl (by kernel_rfl) (by simp) rfl rfl rfl (tW rfl) (ai _) ?_;simp only[IP,seval,Nf,tsC];refine cR dc rfl cV (by decide) (by decide) (c:=tmC a) rfl (bG _) ?_;simp only[pkA,seval,jr (bG _)];refine k7 rfl (xj S hS a hva ej) (by simp[V.fz]) (show 1<=3 by decide) ⟨rfl,trivial⟩ (λ_ _=>rfl) ?_;simp only[pkA,seval];exact eO [(3,bo (dH (inP S) a))] rfl (by simp only[eu,aK,aQ,gU,aI,aL];rfl) (ai _) (show 2<=3 by decide) ⟨by simp[],trivial⟩ ⟨rfl,rfl,trivial⟩ (by simp[hdS,frs,gK,up])
