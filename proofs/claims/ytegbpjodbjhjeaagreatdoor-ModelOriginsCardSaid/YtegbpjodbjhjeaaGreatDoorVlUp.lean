/- Layer 15: slices.SortedFunc, list. -/
import Derived.Test.YtegbpjodbjhjeaaGreatDoorVlUj
set_option maxHeartbeats 8000000
set_option linter.all false
namespace Go.Proofs.YtegbpjodbjhjeaaGreatDoor
open Go Go.Vl
variable {G:Gl}
set_option maxRecDepth 4000
theorem sG {S:List Tm} {xs:List V} (h:xs.all (fun x=>x.ltB 2)=true):eC xs [mS S,[.mr 0]]=true:=by
 simp only[eC,aR,bb,gj,aB,aK,h];rfl
theorem JL:FnB Tryz.prog G 126 [m3,.c (.fn (.func 91) [] [])] [mS [],[.mr 0]] (.c (tsC [])) [mS [],[.mr 0]]:=by
 refine mY (rs:=[.tmp 4]) (k:=2) [1500007,3000002] mixed Tryz.func126 rfl rfl rfl rfl (by kernel_rfl) (by simp) rfl rfl rfl (sG rfl) (ae _) ?_
 simp only[pkA,seval,m3]
 refine tu rfl G8 (by simp[V.fz,m3]) rfl ⟨rfl,rfl,trivial⟩ ?_
 rintro r b1 ⟨rfl,j,rfl,hj⟩
 simp only[pkA,seval]
 refine aD rfl SO (fun h=>by cases h) ?_
 simp only[pkA,seval]
 exact dJ [(4,.c (tsC []))] rfl (by simp only[eW,aR,bb,gj,aB,aK];rfl) (ae _) (show 2≤4 by decide) ⟨by simp[tsC],trivial⟩ ⟨rfl,rfl,trivial⟩ (by simp[hdS,frs,fW,up])
theorem yW {s:Vl.S} {m:Nat}:∀ xs:List V,LZ s m xs xs
 |[]=>trivial
 |_::xs=>⟨.inl rfl,yW xs⟩
theorem Oj (S:List Tm) (hS:S.length≤1000000000) (gv:S≠[]) (hs:∀ t∈S,br t≤1000000000) (pA:S.Nodup):FnB Tryz.prog G 126 [m3,.c (.fn (.func 91) [] [])] [mS S,[.mr 0]] (.c (tsC (kr S))) [mS S,[.mr 0]]:=by
 refine mY (rs:=[.tmp 4]) (k:=2) [1500007,1000010,2600003,3000002] mixed Tryz.func126 rfl rfl rfl rfl (by kernel_rfl) (by simp) rfl rfl rfl (sG rfl) (ae _) ?_
 simp only[pkA,seval,m3]
 refine tu rfl (JJ S hS gv) (by simp[V.fz,m3]) rfl ⟨rfl,rfl,trivial⟩ ?_
 rintro r b1 ⟨l,j,hl,rfl,rfl,hj⟩
 have hso:kr l=kr S:=pO (js l) (js S) fun x=>by rw[iW,iW];exact hl.mem_iff
 have XV:=W2 (G:=G) l (fun t ht=>hs t (hl.mem_iff.1 ht)) (hl.nodup_iff.2 pA) (by rw[hl.length_eq];omega) l.length (ae _)
 rw[hso,hl.length_eq] at XV
 simp only[pkA,seval]
 refine tp [4] rfl XV (by simp[V.fz,V.ren,rho]) rfl (by decide) rfl ⟨⟨show 4<5 by decide,by simp only[K5];rfl⟩,trivial⟩ ?_
 intro bx' wz Y3
 have h0:bx' 0=mS S:=by rw[wz 0 (by decide)];rfl
 have h1:bx' 1=[.mr 0]:=by rw[wz 1 (by decide)];rfl
 have h4:bx' 4=flb tmC (kr S):=by
  have:=Y3 0 4 _ rfl rfl
  rwa [K5] at this
 simp only[pkA,seval]
 refine X7 (l:=[(5,.c (tsC (kr S)))]) (bl:=[mS S,[.mr 0]]) (by simp only[eW,aR,bb,gj,aB,aK];rfl) (ae _) (show 2≤5 by decide) ⟨.inr ?_,trivial⟩ ⟨by rw[h0];exact yW _,by rw[h1];exact yW _,trivial⟩ ?_
 ·have ce:S.length=(kr S).length:=by
   have h1:=(JK (js S).nodup pA (fun x=>iW)).length_eq
   exact h1.symm
  exact⟨4,0,S.length,S.length,3,tsC (kr S),by simp[ar],show 2≤4 by decide,GG bI (show 4<5 by decide) h4 ce,rfl⟩
 simp only[pkA,seval,tsC]
 exact dJ [(4,.c (tsC (kr S)))] rfl (by simp only[eW,aR,bb,gj,aB,aK];rfl) (ae _) (ae 2) ⟨by simp[tsC],trivial⟩ ⟨rfl,rfl,trivial⟩ (by simp[hdS,frs,fW,up,tsC])
theorem W3 (S:List Tm) (hS:S.length≤1000000000) (hs:∀ t∈S,br t≤1000000000) (pA:S.Nodup):FnB Tryz.prog G 93 [.mr 0] [mS S] (.c (tsC (kr S))) [mS S]:=by
 refine mY (rs:=[.tmp 2]) (k:=1) [1000004,1000005,3000001] mixed Tryz.func93 rfl rfl rfl rfl (by kernel_rfl) (by simp) rfl rfl rfl (by simp only[eC,aR,bb,gj,aB,aK];rfl) (ae _) ?_
 simp only[pkA,seval]
 refine Nt rfl (Oi S) rfl rfl ⟨rfl,trivial⟩ ?_
 simp only[pkA,seval]
 have XV:FnB Tryz.prog G 126 [m3,.c (.fn (.func 91) [] [])] [mS S,[.mr 0]] (.c (tsC (kr S))) [mS S,[.mr 0]]:=by
  by_cases h:S=[]
  ·subst h;exact JL
  ·exact Oj S hS h hs pA
 refine kJ rfl XV (by simp[V.fz,m3]) (show 2≤2 by decide) ⟨rfl,rfl,trivial⟩ (fun _ _=>rfl) ?_
 simp only[pkA,seval]
 exact dJ [(2,.c (tsC (kr S)))] rfl (by simp only[eW,aR,bb,gj,aB,aK];rfl) (ae _) (show 1≤2 by decide) ⟨by simp[],trivial⟩ ⟨rfl,trivial⟩ (by simp[hdS,frs,fW,up])
def vT (S:List Tm):Prop:=∀ t∈S,bT t=true
theorem W4 {S:List Tm}:(prS S).map (·.1)=S.map jf:=by unfold prS;rw[gA];rfl
theorem Ln {S:List Tm} (hS:vT S) {t:Tm} (ht:bT t=true):vI (prS S) (jf t)=S.findIdx? (fun u=>decide (t=u)):=by
 unfold vI
 rw[W4]
 induction S with
 |nil=>rfl
 |cons u S ih=>
  have hu:decide (jf t=jf u)=decide (t=u):=i8.2 ⟨Sm ht (hS u (aT ..)),fun h=>by rw[h]⟩
  simp only[aL,List.findIdx?_cons,hu,ih fun v hv=>hS v (aM _ hv)]
theorem W5 {S:List Tm} (hS:vT S) {t:Tm} (ht:bT t=true):vJ (prS S) (jf t)=if t∈S then some t else none:=by
 unfold vJ
 rw[Ln hS ht]
 cases hf:S.findIdx? (fun u=>decide (t=u)) with
 |none=>
  have:t∉S:=fun h=>by have:=dH.1 hf t h;simp at this
  rw[if_neg this]
 |some j=>
  obtain⟨h1,h2,_⟩:=bS.1 hf
  have h2:t=S[j]:=by simpa using h2
  have:t∈S:=by rw[h2];exact aF h1
  rw[if_pos this]
  simp only
  rw[aj (by rw[mD];exact h1),Ep]
  simp[← h2]
theorem W6 {S:List Tm} (hS:vT S) {t:Tm} (ht:bT t=true):Rk (prS S) (jf t) t=prS (GE S t):=by
 unfold Rk
 rw[Ln hS ht]
 cases hf:S.findIdx? (fun u=>decide (t=u)) with
 |none=>
  have:t∉S:=fun h=>by have:=dH.1 hf t h;simp at this
  simp only
  unfold GE
  rw[if_neg (by simpa using this)]
  simp[prS]
 |some j=>
  obtain⟨h1,h2,_⟩:=bS.1 hf
  have h2:t=S[j]:=by simpa using h2
  have:t∈S:=by rw[h2];exact aF h1
  simp only
  unfold GE
  rw[if_pos (by simpa using this)]
  apply ir
  intro i
  rw[List.getElem?_set]
  split
  ·rename_i e;subst e
   rw[if_pos (by rw[mD];exact h1),aj (by rw[mD];exact h1),Ep,← h2]
  ·rfl
theorem aaU {S:List Tm} {t:Tm} {s:Vl.S} {i:Nat} {K:Vl.S→Prop} (hS:vT S) (ht:bT t=true) (hb:s.bx i=mS S) (hi:i<s.nb) (hK:K { s with bx:=up s.bx i (mS (GE S t)) }):ib Tryz.prog 105 s (.mr i) (sv (jf t)) (.agg (tmC t)) K:=by
 refine GK (f:=sv) (h:=tmV) (c:=fun a=>[cS a]) (b:=t) (l:=prS S) uH rfl D9 rfl di rfl Yb (fun _=>rfl) (fun _=>rfl) eqS rfl rfl hb hi ?_
 rw[W6 hS ht];exact hK
def lN:Tm:=.mk 0 0 []
theorem Lo {S:List Tm} {t:Tm} {s:Vl.S} {i:Nat} {K:V→Prop} (hS:vT S) (ht:bT t=true) (hb:s.bx i=mS S) (hi:i<s.nb) (hK:K (.tup [.agg (tmC (if t∈S then t else lN)),bo (decide (t∈S))])):ft Tryz.prog 105 s (.mr i) (sv (jf t)) true K:=by
 refine NQ (f:=sv) (h:=tmV) (c:=fun a=>[cS a]) (l:=prS S) uH rfl D9 rfl di rfl Yb (fun _=>rfl) (fun _=>rfl) eqS hb hi ?_
 rw[W5 hS ht]
 by_cases h:t∈S
 ·simp only[if_pos h,eZ h] at hK ⊢;exact hK
 ·simp only[if_neg h,fu h] at hK ⊢;exact hK
theorem SQ {S:List Tm} {t:Tm} (hS:vT S) (ht:bT t=true):vT (GE S t):=fun u hu=>by
 unfold GE at hu
 split at hu
 ·exact hS u hu
 ·rcases aY.1 hu with h | h
  ·exact hS u h
  ·rw[aN] at h;rw[h];exact ht
theorem adA {G:Gl} {tr:List Nat} {ty:TypeId} {d:Option Tmp} {pos:String} {af:Array Edge} {g:Option (Nat×Bool)} {fr:Nat→V} {bx:Nat→List V} {nb:Nat} {H:Vl.S→Prop}:VStep Tryz.prog G tr ⟨d,.makeMap 105 none,ty,pos,af,g⟩ ⟨fr,bx,nb⟩ H=H ((⟨fr,up bx nb (mS []),nb+1⟩:Vl.S).put d (.mr nb)):=Wx
def JM (S:List Tm):List (List V):=[mS S,[.mr 0]]
theorem Lp {S:List Tm}:JM S=[mS S,[.mr 0]]:=rfl
def Hb:=jj @pkA (jj @ptA @pkT)
theorem Ol (S:List Tm) (t:Tm) (h:FnB Tryz.prog glT 94 [.mr 0,.agg (tmC t)] [mS S] (bo (dt (inP S) t)) [mS S]):FnB Tryz.prog glT 128 [.agg (tmC t),.bp 1 0] (JM S) (bo (!dt (inP S) t)) (JM S):=by
 refine mY (rs:=[.tmp 3]) (k:=2) [1000006,3000002] mixed Tryz.func128 rfl rfl rfl rfl (by kernel_rfl) (by simp) rfl rfl rfl (sG rfl) (ae _) ?_
 simp only[Hb,seval,Lp]
 refine kJ rfl h (by simp[V.fz]) (show 1≤3 by decide) ⟨rfl,trivial⟩ (fun _ _=>rfl) ?_
 simp only[pkA,seval]
 exact dJ [(3,bo (!dt (inP S) t))] rfl (by simp only[eW,aR,bb,gj,aB,aK];rfl) (ae _) (show 2≤3 by decide) ⟨by simp[],trivial⟩ ⟨rfl,rfl,trivial⟩ (by simp[hdS,frs,fW,up])
def SR (S:List Tm) (R:Tm→Prop) (h:∀ t,R t→FnB Tryz.prog glT 94 [.mr 0,.agg (tmC t)] [mS S] (bo (dt (inP S) t)) [mS S]):Ask glT (JM S) (.clo (.func 128) [] [.bp 1 0]) R (fun t=>!dt (inP S) t) where
 g:=128
 caps:=[.bp 1 0]
 eq:=rfl
 lt:=by simp[V.ltP,JM]
 ltY:=JG (sG (xs:=[]) rfl)
 fz:=rfl
 ok t ht:=Ol S t (h t ht)
theorem JO {S l:List Tm}:(l.any fun t=>!dt (inP S) t)=!lm (inP S) l:=by
 induction l with
 |nil=>rfl
 |cons t l ih=>simp[lm,ih]
theorem Om {p:Tm→Bool} {k n:Int} {l:List Tm}:dt p (.mk k n l)=(p (.mk k n l)||decide (k=1)||(!decide (k=2)&&lm p l)):=by simp[dt]
theorem vU (S:List Tm) (hS:vT S):∀ t:Tm,bT t=true→br t≤1000000000→FnB Tryz.prog glT 94 [.mr 0,.agg (tmC t)] [mS S] (bo (dt (inP S) t)) [mS S]:=by
 refine Tm.ind fun k n l ih hv dR=>?_
 obtain⟨_,_,_,sP⟩:=fh hv
 have Pe:cD l+1≤1000000000:=by simp only[br] at dR;omega
 have Mo:=jl l
 have XW:=SR S (fun t=>t∈l) (fun t ht=>ih t ht (sP t ht) (by have:=fO ht;omega))
 refine mY (rs:=[.tmp 4]) (k:=1) [1000027,3000001] mixed Tryz.func94 rfl rfl rfl rfl (by kernel_rfl) (by simp) rfl rfl rfl (by simp only[eC,aR,bb,gj,aB,aK];rfl) (ae _) ?_
 simp only[Hb,seval,SN]
 refine aD rfl (Eo _ hv dR) (fun _=>rfl) ?_
 simp only[pkA,seval]
 refine Lo hS hv rfl (show 0<3 by decide) ?_
 simp only[Hb,seval]
 have O3:∀ (fr:Nat→V) (bx:Nat→List V) (nb:Nat) (e:VE) (b:Bool),BP e=true→1≤nb→bx 0=mS S→fr 4=bo b→dt (inP S) (.mk k n l)=b→uA Tryz.prog 1 (bo (dt (inP S) (.mk k n l))) [mS S] [.tmp 4] e ⟨fr,bx,nb⟩:=fun fr bx nb e b he hn h0 h4 hb=>by
  rw[hb]
  exact dJ [(4,bo b)] he (by simp only[eW,aR,bb,gj,aB,aK];rfl) (ae _) hn ⟨h4,trivial⟩ ⟨h0,trivial⟩ (by simp[hdS,frs,fW,up])
 have hbt:=Om (p:=inP S) (k:=k) (n:=n) (l:=l)
 repeat' first
  |(simp only[Hb,seval,tsC])
  |refine jc (fun h=>?_) (fun h=>?_)
  |refine aV (fun h=>?_) (fun h=>?_)
  |(refine kJ rfl (yD XW l (fun t h=>h) (by omega)) (by simp[V.fz,tsC]) (show 2≤4 by decide) ⟨rfl,rfl,trivial⟩ (fun _ _=>rfl) ?_)
 all_goals (
  refine O3 _ _ _ _ _ rfl (by simp) (by simp[ar,bxs]) rfl ?_
  rw[hbt]
  show(decide (Tm.mk k n l∈S)||decide (k=1)||!decide (k=2)&&lm (inP S) l)=_
  have dh:=JO (S:=S) (l:=l)
  clear O3 XW ih hbt
  generalize decide (Tm.mk k n l∈S)=b1 at *
  generalize decide (k=1)=b2 at *
  generalize decide (k=2)=b3 at *
  generalize lm (inP S) l=b4 at *
  simp_all)
def j5:Tm→List Tm×List Tm→List Tm×List Tm
 | .mk k n l,(S,L)=>
  if Tm.mk k n l∈S then(S,L) else
  if k=3∨k=4 then
   match l with
   |[a,b]=>if dt (inP (S++[.mk k n [a,b]])) a=true then j5 b (S++[.mk k n [a,b]],L) else(S++[.mk k n [a,b]],L++[.mk k n [a,b]])
   |l=>(S++[.mk k n l],L)
  else(S++[.mk k n l],L)
termination_by t=>br t
decreasing_by simp only[br,cD];omega
structure vV (I S L:List Tm):Prop where
 nd:S.Nodup
 sub:∀ t∈S,Kn I false t
 inl:∀ t∈L,t∈S∧(t.kind=3∨t.kind=4)
 opn:∀ k n a b,Tm.mk k n [a,b]∈S→(k=3∨k=4)→b∈S∨Tm.mk k n [a,b]∈L
theorem Es {k n:Int} {l S L:List Tm}:j5 (.mk k n l) (S,L)=if Tm.mk k n l∈S then(S,L) else
 if k=3∨k=4 then
  match l with
  |[a,b]=>if dt (inP (S++[.mk k n [a,b]])) a=true then j5 b (S++[.mk k n [a,b]],L) else(S++[.mk k n [a,b]],L++[.mk k n [a,b]])
  |l=>(S++[.mk k n l],L)
 else(S++[.mk k n l],L):=by
 rcases l with _ | ⟨a,_ | ⟨b,_ | ⟨c,r⟩⟩⟩
 ·rw[j5];simp
 ·rw[j5];simp
 ·rw[j5]
 ·rw[j5];simp
theorem Et {I:List Tm}:∀ (t:Tm) (S L:List Tm),bT t=true→S.Nodup→(∀ x∈S,Kn I false x)→(∀ x∈L,x∈S∧(x.kind=3∨x.kind=4))→
 (∀ k n a b,Tm.mk k n [a,b]∈S→(k=3∨k=4)→b∈S∨Tm.mk k n [a,b]∈L∨b=t)→Kn I false t→
 vV I (j5 t (S,L)).1 (j5 t (S,L)).2∧t∈(j5 t (S,L)).1∧(∀ x∈S,x∈(j5 t (S,L)).1)∧(j5 t (S,L)=(S,L)∨(S.length<(j5 t (S,L)).1.length∧(j5 t (S,L)).2.length≤L.length+1)):=by
 refine Tm.ind fun k n l ih S L hv pA UK fy bZ ht=>?_
 obtain⟨hk6,_,ce,sP⟩:=fh hv
 rw[Es]
 by_cases hm:Tm.mk k n l∈S
 ·rw[if_pos hm]
  refine⟨⟨pA,UK,fy,fun k' n' a b h1 h2=>?_⟩,hm,fun x hx=>hx,.inl rfl⟩
  rcases bZ k' n' a b h1 h2 with h | h | h
  ·exact .inl h
  ·exact .inr h
  ·rw[h];exact .inl hm
 rw[if_neg hm]
 have Ut:(S++[Tm.mk k n l]).Nodup:=List.nodup_append.2 ⟨pA,by simp,fun a ha b hb e=>by rw[aN] at hb;exact hm (by rw[← hb,← e];exact ha)⟩
 have XX:∀ x∈S++[Tm.mk k n l],Kn I false x:=fun x hx=>by
  rcases aY.1 hx with h | h
  ·exact UK x h
  ·rw[aN] at h;rw[h];exact ht
 have AQ:Tm.mk k n l∈S++[Tm.mk k n l]:=by simp
 have ey:∀ x∈S,x∈S++[Tm.mk k n l]:=fun x hx=>ee _ hx
 by_cases hk:k=3∨k=4
 ·rw[if_pos hk]
  have h2:l.length=2:=by rcases hk with rfl | rfl<;>simp[gi] at ce<;>omega
  match l,h2 with
  |[a,b],_=>
   simp only
   by_cases hb:dt (inP (S++[.mk k n [a,b]])) a=true
   ·rw[if_pos hb]
    have hih:=ih b (by simp) (S++[.mk k n [a,b]]) L (sP b (by simp)) Ut XX (fun x hx=>⟨ey x (fy x hx).1,(fy x hx).2⟩) (fun k' n' a' b' h1 h2=>by
     rcases aY.1 h1 with h | h
     ·rcases bZ k' n' a' b' h h2 with h | h | h
      ·exact .inl (ey _ h)
      ·exact .inr (.inl h)
      ·rw[h];exact .inl AQ
     ·rw[aN] at h
      cases h;exact .inr (.inr rfl)) (.opn ht hk (nA XX a hb))
    obtain⟨q1,q2,q3,q4⟩:=hih
    refine⟨q1,q3 _ AQ,fun x hx=>q3 _ (ey x hx),.inr ?_⟩
    rcases q4 with h | h
    ·rw[h];exact⟨by simp,by simp⟩
    ·have:=h.1;simp only[ax,da] at this;exact⟨by omega,h.2⟩
   ·rw[if_neg hb]
    refine⟨⟨Ut,XX,fun x hx=>?_,fun k' n' a' b' h1 h2=>?_⟩,AQ,ey,.inr ⟨by simp,by simp⟩⟩
    ·rcases aY.1 hx with h | h
     ·exact⟨ey x (fy x h).1,(fy x h).2⟩
     ·rw[aN] at h;rw[h];exact⟨AQ,hk⟩
    ·rcases aY.1 h1 with h | h
     ·rcases bZ k' n' a' b' h h2 with h | h | h
      ·exact .inl (ey _ h)
      ·exact .inr (ee _ h)
      ·rw[h];exact .inl AQ
     ·rw[aN] at h
      cases h;exact .inr (by simp)
 ·rw[if_neg hk]
  refine⟨⟨Ut,XX,fun x hx=>⟨ey x (fy x hx).1,(fy x hx).2⟩,fun k' n' a' b' h1 h2=>?_⟩,AQ,ey,.inr ⟨by simp,by simp⟩⟩
  rcases aY.1 h1 with h | h
  ·rcases bZ k' n' a' b' h h2 with h | h | h
   ·exact .inl (ey _ h)
   ·exact .inr h
   ·rw[h];exact .inl AQ
  ·rw[aN] at h
   cases h;exact absurd h2 hk
def eR (I:List Tm) (s:List Tm×List Tm):List Tm×List Tm:=I.foldl (fun s t=>j5 t s) s
theorem uO {I:List Tm} (hv:∀ t∈I,bT t=true):∀ (J:List Tm) (S L:List Tm),(∀ t∈J,t∈I)→vV I S L→vV I (eR J (S,L)).1 (eR J (S,L)).2∧(∀ t∈J,t∈(eR J (S,L)).1)∧∀ x∈S,x∈(eR J (S,L)).1
 |[],S,L,_,h=>⟨h,by simp,fun x hx=>hx⟩
 |t::J,S,L,hJ,h=>by
  have ht:=hJ t (aT ..)
  obtain⟨q1,q2,q3,_⟩:=Et (I:=I) t S L (hv t ht) h.nd h.sub h.inl (fun k n a b h1 h2=>(h.opn k n a b h1 h2).imp_right .inl) (.item ht)
  obtain⟨p1,p2,p3⟩:=uO hv J (j5 t (S,L)).1 (j5 t (S,L)).2 (fun u hu=>hJ u (aM _ hu)) q1
  have e:eR (t::J) (S,L)=eR J ((j5 t (S,L)).1,(j5 t (S,L)).2):=rfl
  rw[e]
  refine⟨p1,fun u hu=>?_,fun x hx=>p3 _ (q3 x hx)⟩
  rcases bw.1 hu with rfl | hu
  ·exact p3 _ q2
  ·exact p2 u hu
def Ap (t:Tm):Tm:=t.l.getD 0 lN
def Lq (t:Tm):Tm:=t.l.getD 1 lN
def rA:Nat→List Tm×List Tm→List Tm×List Tm
 |0,s=>s
 |f+1,(S,L)=>match L.findIdx? (fun t=>dt (inP S) (Ap t)) with
  |none=>(S,L)
  |some i=>rA f (j5 (Lq (L.getD i lN)) (S,L.eraseIdx i))
theorem sH {I S L:List Tm} (h:vV I S L):S.length≤cD I:=by
 have ey:∀ x∈S,x∈l7 I:=fun x hx=>l8.2 ((h.sub x hx).loc rfl)
 have:=ma h.nd ey
 have e:(l7 I).length=cD I:=by
  clear ey this h
  induction I with
  |nil=>rfl
  |cons t l ih=>simp only[l7,cD,ax,Af,ih]
 omega
theorem He {I:List Tm} (hv:∀ t∈I,bT t=true):∀ (f:Nat) (S L:List Tm),vV I S L→2*(cD I - S.length)+L.length<f→vV I (rA f (S,L)).1 (rA f (S,L)).2∧(∀ x∈S,x∈(rA f (S,L)).1)∧∀ t∈(rA f (S,L)).2,dt (inP (rA f (S,L)).1) (Ap t)=false
 |0,_,_,_,h=>by omega
 |f+1,S,L,hC,hf=>by
  unfold rA
  cases hi:L.findIdx? (fun t=>dt (inP S) (Ap t)) with
  |none=>
   refine⟨hC,fun x hx=>hx,fun t ht=>?_⟩
   exact dH.1 hi t ht
  |some i=>
   obtain⟨bF,hb,_⟩:=bS.1 hi
   simp only
   have eg:L.getD i lN=L[i]:=by simp[bF]
   rw[eg]
   have jG:=aF bF
   obtain⟨hS,hk⟩:=hC.inl _ jG
   obtain⟨w,hw,ey⟩:=(hC.sub _ hS).loc rfl
   obtain⟨a,b,pT⟩:=Ej (o5 w (hv w hw) _ ey) hk
   have E0:Ap L[i]=a:=by rw[pT];rfl
   have pp:Lq L[i]=b:=by rw[pT];rfl
   rw[E0] at hb
   rw[pp]
   have hvb:bT b=true:=by
    have:=o5 w (hv w hw) _ ey
    rw[pT] at this
    exact(fh this).2.2.2 b (by simp)
   have hKu:Kn I false (.mk L[i].kind L[i].n [a,b]):=by rw[← pT];exact hC.sub _ hS
   have afb:∀ x∈L.eraseIdx i,x∈L:=fun x hx=>List.mem_of_mem_eraseIdx hx
   obtain⟨q1,q2,q3,q4⟩:=Et (I:=I) b S (L.eraseIdx i) hvb hC.nd hC.sub (fun x hx=>hC.inl x (afb x hx)) (fun k' n' a' b' h1 h2=>by
    rcases hC.opn k' n' a' b' h1 h2 with h | h
    ·exact .inl h
    ·obtain⟨j,hj,e⟩:=iJ h
     by_cases oI:j=i
     ·subst oI
      rw[pT] at e
      injection e with _ _ e
      injection e with _ e
      injection e with e _
      exact .inr (.inr e.symm)
     ·refine .inr (.inl ?_)
      rw[List.mem_eraseIdx_iff_getElem]
      exact⟨j,hj,oI,e⟩) (.opn hKu hk (nA hC.sub a hb))
   have fx:(L.eraseIdx i).length=L.length - 1:=List.length_eraseIdx_of_lt bF
   have mL:=sH q1
   have ahT:=sH hC
   have hm:2*(cD I - (j5 b (S,L.eraseIdx i)).1.length)+(j5 b (S,L.eraseIdx i)).2.length<f:=by
    rcases q4 with h | ⟨h1,h2⟩
    ·rw[h];simp only;omega
    ·omega
   obtain⟨p1,p2,p3⟩:=He hv f (j5 b (S,L.eraseIdx i)).1 (j5 b (S,L.eraseIdx i)).2 q1 hm
   exact⟨p1,fun x hx=>p2 x (q3 x hx),p3⟩
theorem Hf {S:List Tm}:inP (kr S)=inP S:=funext fun t=>i8.2 iW
theorem JP {I S L:List Tm} (hv:∀ t∈I,bT t=true) (hC:vV I S L) (hI:∀ t∈I,t∈S) (hn:∀ t∈L,dt (inP S) (Ap t)=false):kr S=d4 I:=by
 obtain⟨h1,h2⟩:=k7 hv
 refine JD (I:=I) ⟨js S,fun t ht=>iW.2 (hI t ht),fun t ht=>hC.sub t (iW.1 ht)⟩ (fun k n a b hm hk hb=>?_) h1 h2
 rw[Hf] at hb
 rcases hC.opn k n a b (iW.1 hm) hk with h | h
 ·exact iW.2 h
 ·have:=hn _ h
  rw[show Ap (.mk k n [a,b])=a from rfl,hb] at this
  cases this
def vW (I:List Tm):List Tm×List Tm:=rA (2*cD I+(eR I ([],[])).2.length+1) (eR I ([],[]))
theorem Hg {I:List Tm} (hv:∀ t∈I,bT t=true):vV I (vW I).1 (vW I).2∧kr (vW I).1=d4 I:=by
 obtain⟨p1,p2,_⟩:=uO hv I [] [] (fun _ h=>h) ⟨g8,by simp,by simp,fun _ _ _ _ h=>by cases h⟩
 have e:eR I ([],[])=((eR I ([],[])).1,(eR I ([],[])).2):=rfl
 obtain⟨q1,q2,q3⟩:=He hv (2*cD I+(eR I ([],[])).2.length+1) _ _ p1 (by omega)
 exact⟨q1,JP hv q1 (fun t ht=>q2 t (p2 t ht)) q3⟩
theorem SS (S:List Tm) (hS:vT S) (k n:Int) (a b:Tm) (hva:bT a=true) (dR:br a≤1000000000):FnB Tryz.prog glT 124 [.agg (tmC (.mk k n [a,b])),.bp 1 0] (JM S) (bo (dt (inP S) a)) (JM S):=by
 refine mY (rs:=[.tmp 3]) (k:=2) [1000009,3000002] mixed Tryz.func124 rfl rfl rfl rfl (by kernel_rfl) (by simp) rfl rfl rfl (sG rfl) (ae _) ?_
 simp only[Hb,seval,Lp,tsC]
 refine dz dq rfl di (by decide) (by decide) (c:=tmC a) rfl (bI _) ?_
 simp only[pkA,seval,jT (bI _)]
 refine kJ rfl (vU S hS a hva dR) (by simp[V.fz]) (show 1≤3 by decide) ⟨rfl,trivial⟩ (fun _ _=>rfl) ?_
 simp only[pkA,seval]
 exact dJ [(3,bo (dt (inP S) a))] rfl (by simp only[eW,aR,bb,gj,aB,aK];rfl) (ae _) (show 2≤3 by decide) ⟨by simp[],trivial⟩ ⟨rfl,rfl,trivial⟩ (by simp[hdS,frs,fW,up])
