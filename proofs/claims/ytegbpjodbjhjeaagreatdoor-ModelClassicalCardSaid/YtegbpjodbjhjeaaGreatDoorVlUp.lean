/- Layer 15: slices.SortedFunc, list. -/
import Derived.Test.YtegbpjodbjhjeaaGreatDoorVlUj
set_option linter.all false
namespace Go.Proofs.YtegbpjodbjhjeaaGreatDoor
open Go Go.Vl
variable {G:Gl}
set_option maxRecDepth 4000
theorem tz {S:List Tm} {xs:List V} (h:xs.all (fun x=>x.ltB 2)=true):eN xs [mS S,[.mr 0]]=true:=by
 simp only[eN,aN,aX,gC,aC,aH,h];rfl
set_option maxHeartbeats 4000000 in
theorem KY:FnB Tryz.prog G 126 [nv,.c (.fn (.func 91) [] [])] [mS [],[.mr 0]] (.c (tsC [])) [mS [],[.mr 0]]:=by
 refine nq (rs:=[.tmp 4]) (k:=2) [1500007,3000002] mixed Tryz.func126 rfl rfl rfl rfl (by kernel_rfl) (by simp) rfl rfl rfl (tz rfl) (ae _) ?_
 simp only[pkA,seval,nv]
 refine ul rfl Ih (by simp[V.fz,nv]) rfl ⟨rfl,rfl,trivial⟩ ?_
 rintro r b1 ⟨rfl,j,rfl,hj⟩
 simp only[pkA,seval]
 refine ay rfl Ua (fun h=>by cases h) ?_
 simp only[pkA,seval]
 exact dP [(4,.c (tsC []))] rfl (by simp only[eQ,aN,aX,gC,aC,aH];rfl) (ae _) (show 2≤4 by decide) ⟨by simp[tsC],trivial⟩ ⟨rfl,rfl,trivial⟩ (by simp[hdS,frs,gx,up])
theorem zQ {s:Vl.S} {m:Nat}:∀ xs:List V,LZ s m xs xs
 |[]=>trivial
 |_::xs=>⟨.inl rfl,zQ xs⟩
set_option maxHeartbeats 4000000 in
theorem Pq (S:List Tm) (hS:S.length≤1000000000) (fO:S≠[]) (hs:∀ t∈S,bq t≤1000000000) (pU:S.Nodup):FnB Tryz.prog G 126 [nv,.c (.fn (.func 91) [] [])] [mS S,[.mr 0]] (.c (tsC (kF S))) [mS S,[.mr 0]]:=by
 refine nq (rs:=[.tmp 4]) (k:=2) [1500007,1000010,2600003,3000002] mixed Tryz.func126 rfl rfl rfl rfl (by kernel_rfl) (by simp) rfl rfl rfl (tz rfl) (ae _) ?_
 simp only[pkA,seval,nv]
 refine ul rfl (KU S hS fO) (by simp[V.fz,nv]) rfl ⟨rfl,rfl,trivial⟩ ?_
 rintro r b1 ⟨l,j,hl,rfl,rfl,hj⟩
 have hso:kF l=kF S:=qh (jC l) (jC S) fun x=>by rw[jg,jg];exact hl.mem_iff
 have Za:=Yi (G:=G) l (fun t ht=>hs t (hl.mem_iff.1 ht)) (hl.nodup_iff.2 pU) (by rw[hl.length_eq];omega) l.length (ae _)
 rw[hso,hl.length_eq] at Za
 simp only[pkA,seval]
 refine uj [4] rfl Za (by simp[V.fz,V.ren,rho]) rfl (by decide) rfl ⟨⟨show 4<5 by decide,by simp only[Mk];rfl⟩,trivial⟩ ?_
 intro bx' xC hat
 have h0:bx' 0=mS S:=by rw[xC 0 (by decide)];rfl
 have h1:bx' 1=[.mr 0]:=by rw[xC 1 (by decide)];rfl
 have h4:bx' 4=flb tmC (kF S):=by
  have:=hat 0 4 _ rfl rfl
  rwa [Mk] at this
 simp only[pkA,seval]
 refine Zm (l:=[(5,.c (tsC (kF S)))]) (bl:=[mS S,[.mr 0]]) (by simp only[eQ,aN,aX,gC,aC,aH];rfl) (ae _) (show 2≤5 by decide) ⟨.inr ?_,trivial⟩ ⟨by rw[h0];exact zQ _,by rw[h1];exact zQ _,trivial⟩ ?_
 ·have cu:S.length=(kF S).length:=by
   have h1:=(KX (jC S).nodup pU (fun x=>jg)).length_eq
   exact h1.symm
  exact⟨4,0,S.length,S.length,3,tsC (kF S),by simp[au],show 2≤4 by decide,HL bG (show 4<5 by decide) h4 cu,rfl⟩
 simp only[pkA,seval,tsC]
 exact dP [(4,.c (tsC (kF S)))] rfl (by simp only[eQ,aN,aX,gC,aC,aH];rfl) (ae _) (ae 2) ⟨by simp[tsC],trivial⟩ ⟨rfl,rfl,trivial⟩ (by simp[hdS,frs,gx,up,tsC])
set_option maxHeartbeats 4000000 in
theorem Yj (S:List Tm) (hS:S.length≤1000000000) (hs:∀ t∈S,bq t≤1000000000) (pU:S.Nodup):FnB Tryz.prog G 93 [.mr 0] [mS S] (.c (tsC (kF S))) [mS S]:=by
 refine nq (rs:=[.tmp 2]) (k:=1) [1000004,1000005,3000001] mixed Tryz.func93 rfl rfl rfl rfl (by kernel_rfl) (by simp) rfl rfl rfl (by simp only[eN,aN,aX,gC,aC,aH];rfl) (ae _) ?_
 simp only[pkA,seval]
 refine OB rfl (Pp S) rfl rfl ⟨rfl,trivial⟩ ?_
 simp only[pkA,seval]
 have Za:FnB Tryz.prog G 126 [nv,.c (.fn (.func 91) [] [])] [mS S,[.mr 0]] (.c (tsC (kF S))) [mS S,[.mr 0]]:=by
  by_cases h:S=[]
  ·subst h;exact KY
  ·exact Pq S hS h hs pU
 refine kZ rfl Za (by simp[V.fz,nv]) (show 2≤2 by decide) ⟨rfl,rfl,trivial⟩ (fun _ _=>rfl) ?_
 simp only[pkA,seval]
 exact dP [(2,.c (tsC (kF S)))] rfl (by simp only[eQ,aN,aX,gC,aC,aH];rfl) (ae _) (show 1≤2 by decide) ⟨by simp[],trivial⟩ ⟨rfl,trivial⟩ (by simp[hdS,frs,gx,up])
def wW (S:List Tm):Prop:=∀ t∈S,bY t=true
theorem Yk {S:List Tm}:(prS S).map (·.1)=S.map jq:=by unfold prS;rw[gV];rfl
theorem MC {S:List Tm} (hS:wW S) {t:Tm} (ht:bY t=true):wM (prS S) (jq t)=S.findIdx? (fun u=>decide (t=u)):=by
 unfold wM
 rw[Yk]
 induction S with
 |nil=>rfl
 |cons u S ih=>
  have hu:decide (jq t=jq u)=decide (t=u):=fR.2 ⟨TE ht (hS u (aW ..)),fun h=>by rw[h]⟩
  simp only[aO,List.findIdx?_cons,hu,ih fun v hv=>hS v (aR _ hv)]
theorem Yl {S:List Tm} (hS:wW S) {t:Tm} (ht:bY t=true):wN (prS S) (jq t)=if t∈S then some t else none:=by
 unfold wN
 rw[MC hS ht]
 cases hf:S.findIdx? (fun u=>decide (t=u)) with
 |none=>
  have:t∉S:=fun h=>by have:=dN.1 hf t h;simp at this
  rw[if_neg this]
 |some j=>
  obtain⟨h1,h2,_⟩:=bW.1 hf
  have h2:t=S[j]:=by simpa using h2
  have:t∈S:=by rw[h2];exact aF h1
  rw[if_pos this]
  simp only
  rw[aj (by rw[mW];exact h1),Fw]
  simp[← h2]
theorem Ym {S:List Tm} (hS:wW S) {t:Tm} (ht:bY t=true):SI (prS S) (jq t) t=prS (HJ S t):=by
 unfold SI
 rw[MC hS ht]
 cases hf:S.findIdx? (fun u=>decide (t=u)) with
 |none=>
  have:t∉S:=fun h=>by have:=dN.1 hf t h;simp at this
  simp only
  unfold HJ
  rw[if_neg (by simpa using this)]
  simp[prS]
 |some j=>
  obtain⟨h1,h2,_⟩:=bW.1 hf
  have h2:t=S[j]:=by simpa using h2
  have:t∈S:=by rw[h2];exact aF h1
  simp only
  unfold HJ
  rw[if_pos (by simpa using this)]
  apply iF
  intro i
  rw[List.getElem?_set]
  split
  ·rename_i e;subst e
   rw[if_pos (by rw[mW];exact h1),aj (by rw[mW];exact h1),Fw,← h2]
  ·rfl
theorem acb {S:List Tm} {t:Tm} {s:Vl.S} {i:Nat} {K:Vl.S→Prop} (hS:wW S) (ht:bY t=true) (hb:s.bx i=mS S) (hi:i<s.nb) (hK:K { s with bx:=up s.bx i (mS (HJ S t)) }):ix Tryz.prog 105 s (.mr i) (sv (jq t)) (.agg (tmC t)) K:=by
 refine HO (f:=sv) (h:=tmV) (c:=fun a=>[cS a]) (b:=t) (l:=prS S) vE rfl E9 rfl dl rfl Zq (fun _=>rfl) (fun _=>rfl) eqS rfl rfl hb hi ?_
 rw[Ym hS ht];exact hK
def ma:Tm:=.mk 0 0 []
theorem MD {S:List Tm} {t:Tm} {s:Vl.S} {i:Nat} {K:V→Prop} (hS:wW S) (ht:bY t=true) (hb:s.bx i=mS S) (hi:i<s.nb) (hK:K (.tup [.agg (tmC (if t∈S then t else ma)),bo (decide (t∈S))])):fG Tryz.prog 105 s (.mr i) (sv (jq t)) true K:=by
 refine OX (f:=sv) (h:=tmV) (c:=fun a=>[cS a]) (l:=prS S) vE rfl E9 rfl dl rfl Zq (fun _=>rfl) (fun _=>rfl) eqS hb hi ?_
 rw[Yl hS ht]
 by_cases h:t∈S
 ·simp only[if_pos h,cZ h] at hK ⊢;exact hK
 ·simp only[if_neg h,cR h] at hK ⊢;exact hK
theorem Ub {S:List Tm} {t:Tm} (hS:wW S) (ht:bY t=true):wW (HJ S t):=fun u hu=>by
 unfold HJ at hu
 split at hu
 ·exact hS u hu
 ·rcases aZ.1 hu with h | h
  ·exact hS u h
  ·rw[aP] at h;rw[h];exact ht
theorem aeK {G:Gl} {tr:List Nat} {ty:TypeId} {d:Option Tmp} {pos:String} {af:Array Edge} {g:Option (Nat×Bool)} {fr:Nat→V} {bx:Nat→List V} {nb:Nat} {H:Vl.S→Prop}:VStep Tryz.prog G tr ⟨d,.makeMap 105 none,ty,pos,af,g⟩ ⟨fr,bx,nb⟩ H=H ((⟨fr,up bx nb (mS []),nb+1⟩:Vl.S).put d (.mr nb)):=XN
def KZ (S:List Tm):List (List V):=[mS S,[.mr 0]]
theorem ME {S:List Tm}:KZ S=[mS S,[.mr 0]]:=rfl
def Ik:=jj @pkA (jj @ptA @pkT)
set_option maxHeartbeats 4000000 in
theorem Pr (S:List Tm) (t:Tm) (h:FnB Tryz.prog glT 94 [.mr 0,.agg (tmC t)] [mS S] (bo (dD (inP S) t)) [mS S]):FnB Tryz.prog glT 128 [.agg (tmC t),.bp 1 0] (KZ S) (bo (!dD (inP S) t)) (KZ S):=by
 refine nq (rs:=[.tmp 3]) (k:=2) [1000006,3000002] mixed Tryz.func128 rfl rfl rfl rfl (by kernel_rfl) (by simp) rfl rfl rfl (tz rfl) (ae _) ?_
 simp only[Ik,seval,ME]
 refine kZ rfl h (by simp[V.fz]) (show 1≤3 by decide) ⟨rfl,trivial⟩ (fun _ _=>rfl) ?_
 simp only[pkA,seval]
 exact dP [(3,bo (!dD (inP S) t))] rfl (by simp only[eQ,aN,aX,gC,aC,aH];rfl) (ae _) (show 2≤3 by decide) ⟨by simp[],trivial⟩ ⟨rfl,rfl,trivial⟩ (by simp[hdS,frs,gx,up])
def Uc (S:List Tm) (R:Tm→Prop) (h:∀ t,R t→FnB Tryz.prog glT 94 [.mr 0,.agg (tmC t)] [mS S] (bo (dD (inP S) t)) [mS S]):Ask glT (KZ S) (.clo (.func 128) [] [.bp 1 0]) R (fun t=>!dD (inP S) t) where
 g:=128
 caps:=[.bp 1 0]
 eq:=rfl
 lt:=by simp[V.ltP,KZ]
 ltY:=KO (tz (xs:=[]) rfl)
 fz:=rfl
 ok t ht:=Pr S t (h t ht)
theorem K1 {S l:List Tm}:(l.any fun t=>!dD (inP S) t)=!lM (inP S) l:=by
 induction l with
 |nil=>rfl
 |cons t l ih=>simp[lM,ih]
theorem Pt {p:Tm→Bool} {k n:Int} {l:List Tm}:dD p (.mk k n l)=(p (.mk k n l)||decide (k=1)||(!decide (k=2)&&lM p l)):=by simp[dD]
set_option maxHeartbeats 8000000 in
theorem wX (S:List Tm) (hS:wW S):∀ t:Tm,bY t=true→bq t≤1000000000→FnB Tryz.prog glT 94 [.mr 0,.agg (tmC t)] [mS S] (bo (dD (inP S) t)) [mS S]:=by
 refine Tm.ind fun k n l ih hv dZ=>?_
 obtain⟨_,_,_,tV⟩:=fw hv
 have Qm:cF l+1≤1000000000:=by simp only[bq] at dZ;omega
 have LG:=jh l
 have Zb:=Uc S (fun t=>t∈l) (fun t ht=>ih t ht (tV t ht) (by have:=fx ht;omega))
 refine nq (rs:=[.tmp 4]) (k:=1) [1000027,3000001] mixed Tryz.func94 rfl rfl rfl rfl (by kernel_rfl) (by simp) rfl rfl rfl (by simp only[eN,aN,aX,gC,aC,aH];rfl) (ae _) ?_
 simp only[Ik,seval,T9]
 refine ay rfl (Fv _ hv dZ) (fun _=>rfl) ?_
 simp only[pkA,seval]
 refine MD hS hv rfl (show 0<3 by decide) ?_
 simp only[Ik,seval]
 have Qc:∀ (fr:Nat→V) (bx:Nat→List V) (nb:Nat) (e:VE) (b:Bool),CU e=true→1≤nb→bx 0=mS S→fr 4=bo b→dD (inP S) (.mk k n l)=b→vt Tryz.prog 1 (bo (dD (inP S) (.mk k n l))) [mS S] [.tmp 4] e ⟨fr,bx,nb⟩:=fun fr bx nb e b he hn h0 h4 hb=>by
  rw[hb]
  exact dP [(4,bo b)] he (by simp only[eQ,aN,aX,gC,aC,aH];rfl) (ae _) hn ⟨h4,trivial⟩ ⟨h0,trivial⟩ (by simp[hdS,frs,gx,up])
 have hbt:=Pt (p:=inP S) (k:=k) (n:=n) (l:=l)
 repeat' first
  |(simp only[Ik,seval,tsC])
  |refine iK (fun h=>?_) (fun h=>?_)
  |refine aL (fun h=>?_) (fun h=>?_)
  |(refine kZ rfl (zt Zb l (fun t h=>h) (by omega)) (by simp[V.fz,tsC]) (show 2≤4 by decide) ⟨rfl,rfl,trivial⟩ (fun _ _=>rfl) ?_)
 all_goals (
  refine Qc _ _ _ _ _ rfl (by simp) (by simp[au,bxs]) rfl ?_
  rw[hbt]
  show(decide (Tm.mk k n l∈S)||decide (k=1)||!decide (k=2)&&lM (inP S) l)=_
  have dh:=K1 (S:=S) (l:=l)
  clear Qc Zb ih hbt
  generalize decide (Tm.mk k n l∈S)=b1 at *
  generalize decide (k=1)=b2 at *
  generalize decide (k=2)=b3 at *
  generalize lM (inP S) l=b4 at *
  simp_all)
def kg:Tm→List Tm×List Tm→List Tm×List Tm
 | .mk k n l,(S,L)=>
  if Tm.mk k n l∈S then(S,L) else
  if k=3∨k=4 then
   match l with
   |[a,b]=>if dD (inP (S++[.mk k n [a,b]])) a=true then kg b (S++[.mk k n [a,b]],L) else(S++[.mk k n [a,b]],L++[.mk k n [a,b]])
   |l=>(S++[.mk k n l],L)
  else(S++[.mk k n l],L)
termination_by t=>bq t
decreasing_by simp only[bq,cF];omega
structure wY (I S L:List Tm):Prop where
 nd:S.Nodup
 sub:∀ t∈S,Kn I false t
 inl:∀ t∈L,t∈S∧(t.kind=3∨t.kind=4)
 opn:∀ k n a b,Tm.mk k n [a,b]∈S→(k=3∨k=4)→b∈S∨Tm.mk k n [a,b]∈L
theorem Fy {k n:Int} {l S L:List Tm}:kg (.mk k n l) (S,L)=if Tm.mk k n l∈S then(S,L) else
 if k=3∨k=4 then
  match l with
  |[a,b]=>if dD (inP (S++[.mk k n [a,b]])) a=true then kg b (S++[.mk k n [a,b]],L) else(S++[.mk k n [a,b]],L++[.mk k n [a,b]])
  |l=>(S++[.mk k n l],L)
 else(S++[.mk k n l],L):=by
 rcases l with _ | ⟨a,_ | ⟨b,_ | ⟨c,r⟩⟩⟩
 ·rw[kg];simp
 ·rw[kg];simp
 ·rw[kg]
 ·rw[kg];simp
theorem FA {I:List Tm}:∀ (t:Tm) (S L:List Tm),bY t=true→S.Nodup→(∀ x∈S,Kn I false x)→(∀ x∈L,x∈S∧(x.kind=3∨x.kind=4))→
 (∀ k n a b,Tm.mk k n [a,b]∈S→(k=3∨k=4)→b∈S∨Tm.mk k n [a,b]∈L∨b=t)→Kn I false t→
 wY I (kg t (S,L)).1 (kg t (S,L)).2∧t∈(kg t (S,L)).1∧(∀ x∈S,x∈(kg t (S,L)).1)∧(kg t (S,L)=(S,L)∨(S.length<(kg t (S,L)).1.length∧(kg t (S,L)).2.length≤L.length+1)):=by
 refine Tm.ind fun k n l ih S L hv pU Qo fJ cm ht=>?_
 obtain⟨hk6,_,cu,tV⟩:=fw hv
 rw[Fy]
 by_cases hm:Tm.mk k n l∈S
 ·rw[if_pos hm]
  refine⟨⟨pU,Qo,fJ,fun k' n' a b h1 h2=>?_⟩,hm,fun x hx=>hx,.inl rfl⟩
  rcases cm k' n' a b h1 h2 with h | h | h
  ·exact .inl h
  ·exact .inr h
  ·rw[h];exact .inl hm
 rw[if_neg hm]
 have VI:(S++[Tm.mk k n l]).Nodup:=List.nodup_append.2 ⟨pU,by simp,fun a ha b hb e=>by rw[aP] at hb;exact hm (by rw[← hb,← e];exact ha)⟩
 have Zc:∀ x∈S++[Tm.mk k n l],Kn I false x:=fun x hx=>by
  rcases aZ.1 hx with h | h
  ·exact Qo x h
  ·rw[aP] at h;rw[h];exact ht
 have BS:Tm.mk k n l∈S++[Tm.mk k n l]:=by simp
 have eJ:∀ x∈S,x∈S++[Tm.mk k n l]:=fun x hx=>eu _ hx
 by_cases hk:k=3∨k=4
 ·rw[if_pos hk]
  have h2:l.length=2:=by rcases hk with rfl | rfl<;>simp[gA] at cu<;>omega
  match l,h2 with
  |[a,b],_=>
   simp only
   by_cases hb:dD (inP (S++[.mk k n [a,b]])) a=true
   ·rw[if_pos hb]
    have hih:=ih b (by simp) (S++[.mk k n [a,b]]) L (tV b (by simp)) VI Zc (fun x hx=>⟨eJ x (fJ x hx).1,(fJ x hx).2⟩) (fun k' n' a' b' h1 h2=>by
     rcases aZ.1 h1 with h | h
     ·rcases cm k' n' a' b' h h2 with h | h | h
      ·exact .inl (eJ _ h)
      ·exact .inr (.inl h)
      ·rw[h];exact .inl BS
     ·rw[aP] at h
      cases h;exact .inr (.inr rfl)) (.opn ht hk (nW Zc a hb))
    obtain⟨q1,q2,q3,q4⟩:=hih
    refine⟨q1,q3 _ BS,fun x hx=>q3 _ (eJ x hx),.inr ?_⟩
    rcases q4 with h | h
    ·rw[h];exact⟨by simp,by simp⟩
    ·have:=h.1;simp only[ax,dm] at this;exact⟨by omega,h.2⟩
   ·rw[if_neg hb]
    refine⟨⟨VI,Zc,fun x hx=>?_,fun k' n' a' b' h1 h2=>?_⟩,BS,eJ,.inr ⟨by simp,by simp⟩⟩
    ·rcases aZ.1 hx with h | h
     ·exact⟨eJ x (fJ x h).1,(fJ x h).2⟩
     ·rw[aP] at h;rw[h];exact⟨BS,hk⟩
    ·rcases aZ.1 h1 with h | h
     ·rcases cm k' n' a' b' h h2 with h | h | h
      ·exact .inl (eJ _ h)
      ·exact .inr (eu _ h)
      ·rw[h];exact .inl BS
     ·rw[aP] at h
      cases h;exact .inr (by simp)
 ·rw[if_neg hk]
  refine⟨⟨VI,Zc,fun x hx=>⟨eJ x (fJ x hx).1,(fJ x hx).2⟩,fun k' n' a' b' h1 h2=>?_⟩,BS,eJ,.inr ⟨by simp,by simp⟩⟩
  rcases aZ.1 h1 with h | h
  ·rcases cm k' n' a' b' h h2 with h | h | h
   ·exact .inl (eJ _ h)
   ·exact .inr h
   ·rw[h];exact .inl BS
  ·rw[aP] at h
   cases h;exact absurd h2 hk
def fc (I:List Tm) (s:List Tm×List Tm):List Tm×List Tm:=I.foldl (fun s t=>kg t s) s
theorem vL {I:List Tm} (hv:∀ t∈I,bY t=true):∀ (J:List Tm) (S L:List Tm),(∀ t∈J,t∈I)→wY I S L→wY I (fc J (S,L)).1 (fc J (S,L)).2∧(∀ t∈J,t∈(fc J (S,L)).1)∧∀ x∈S,x∈(fc J (S,L)).1
 |[],S,L,_,h=>⟨h,by simp,fun x hx=>hx⟩
 |t::J,S,L,hJ,h=>by
  have ht:=hJ t (aW ..)
  obtain⟨q1,q2,q3,_⟩:=FA (I:=I) t S L (hv t ht) h.nd h.sub h.inl (fun k n a b h1 h2=>(h.opn k n a b h1 h2).imp_right .inl) (.item ht)
  obtain⟨p1,p2,p3⟩:=vL hv J (kg t (S,L)).1 (kg t (S,L)).2 (fun u hu=>hJ u (aR _ hu)) q1
  have e:fc (t::J) (S,L)=fc J ((kg t (S,L)).1,(kg t (S,L)).2):=rfl
  rw[e]
  refine⟨p1,fun u hu=>?_,fun x hx=>p3 _ (q3 x hx)⟩
  rcases bu.1 hu with rfl | hu
  ·exact p3 _ q2
  ·exact p2 u hu
def Bn (t:Tm):Tm:=t.l.getD 0 ma
def MF (t:Tm):Tm:=t.l.getD 1 ma
def sa:Nat→List Tm×List Tm→List Tm×List Tm
 |0,s=>s
 |f+1,(S,L)=>match L.findIdx? (fun t=>dD (inP S) (Bn t)) with
  |none=>(S,L)
  |some i=>sa f (kg (MF (L.getD i ma)) (S,L.eraseIdx i))
theorem tA {I S L:List Tm} (h:wY I S L):S.length≤cF I:=by
 have eJ:∀ x∈S,x∈mA I:=fun x hx=>mD.2 ((h.sub x hx).loc rfl)
 have:=mE h.nd eJ
 have e:(mA I).length=cF I:=by
  clear eJ this h
  induction I with
  |nil=>rfl
  |cons t l ih=>simp only[mA,cF,ax,Bc,ih]
 omega
theorem Il {I:List Tm} (hv:∀ t∈I,bY t=true):∀ (f:Nat) (S L:List Tm),wY I S L→2*(cF I - S.length)+L.length<f→wY I (sa f (S,L)).1 (sa f (S,L)).2∧(∀ x∈S,x∈(sa f (S,L)).1)∧∀ t∈(sa f (S,L)).2,dD (inP (sa f (S,L)).1) (Bn t)=false
 |0,_,_,_,h=>by omega
 |f+1,S,L,hC,hf=>by
  unfold sa
  cases hi:L.findIdx? (fun t=>dD (inP S) (Bn t)) with
  |none=>
   refine⟨hC,fun x hx=>hx,fun t ht=>?_⟩
   exact dN.1 hi t ht
  |some i=>
   obtain⟨bB,hb,_⟩:=bW.1 hi
   simp only
   have eg:L.getD i ma=L[i]:=by simp[bB]
   rw[eg]
   have jS:=aF bB
   obtain⟨hS,hk⟩:=hC.inl _ jS
   obtain⟨w,hw,eJ⟩:=(hC.sub _ hS).loc rfl
   obtain⟨a,b,qn⟩:=Fl (pA w (hv w hw) _ eJ) hk
   have Ge:Bn L[i]=a:=by rw[qn];rfl
   have pO:MF L[i]=b:=by rw[qn];rfl
   rw[Ge] at hb
   rw[pO]
   have hvb:bY b=true:=by
    have:=pA w (hv w hw) _ eJ
    rw[qn] at this
    exact(fw this).2.2.2 b (by simp)
   have hKu:Kn I false (.mk L[i].kind L[i].n [a,b]):=by rw[← qn];exact hC.sub _ hS
   have agj:∀ x∈L.eraseIdx i,x∈L:=fun x hx=>List.mem_of_mem_eraseIdx hx
   obtain⟨q1,q2,q3,q4⟩:=FA (I:=I) b S (L.eraseIdx i) hvb hC.nd hC.sub (fun x hx=>hC.inl x (agj x hx)) (fun k' n' a' b' h1 h2=>by
    rcases hC.opn k' n' a' b' h1 h2 with h | h
    ·exact .inl h
    ·obtain⟨j,hj,e⟩:=gi h
     by_cases pd:j=i
     ·subst pd
      rw[qn] at e
      injection e with _ _ e
      injection e with _ e
      injection e with e _
      exact .inr (.inr e.symm)
     ·refine .inr (.inl ?_)
      rw[List.mem_eraseIdx_iff_getElem]
      exact⟨j,hj,pd,e⟩) (.opn hKu hk (nW hC.sub a hb))
   have fy:(L.eraseIdx i).length=L.length - 1:=List.length_eraseIdx_of_lt bB
   have m9:=tA q1
   have ai2:=tA hC
   have hm:2*(cF I - (kg b (S,L.eraseIdx i)).1.length)+(kg b (S,L.eraseIdx i)).2.length<f:=by
    rcases q4 with h | ⟨h1,h2⟩
    ·rw[h];simp only;omega
    ·omega
   obtain⟨p1,p2,p3⟩:=Il hv f (kg b (S,L.eraseIdx i)).1 (kg b (S,L.eraseIdx i)).2 q1 hm
   exact⟨p1,fun x hx=>p2 x (q3 x hx),p3⟩
theorem Im {S:List Tm}:inP (kF S)=inP S:=funext fun t=>fR.2 jg
theorem K3 {I S L:List Tm} (hv:∀ t∈I,bY t=true) (hC:wY I S L) (hI:∀ t∈I,t∈S) (hn:∀ t∈L,dD (inP S) (Bn t)=false):kF S=en I:=by
 obtain⟨h1,h2⟩:=ly hv
 refine KJ (I:=I) ⟨jC S,fun t ht=>jg.2 (hI t ht),fun t ht=>hC.sub t (jg.1 ht)⟩ (fun k n a b hm hk hb=>?_) h1 h2
 rw[Im] at hb
 rcases hC.opn k n a b (jg.1 hm) hk with h | h
 ·exact jg.2 h
 ·have:=hn _ h
  rw[show Bn (.mk k n [a,b])=a from rfl,hb] at this
  cases this
def wZ (I:List Tm):List Tm×List Tm:=sa (2*cF I+(fc I ([],[])).2.length+1) (fc I ([],[]))
theorem Ip {I:List Tm} (hv:∀ t∈I,bY t=true):wY I (wZ I).1 (wZ I).2∧kF (wZ I).1=en I:=by
 obtain⟨p1,p2,_⟩:=vL hv I [] [] (fun _ h=>h) ⟨ip,by simp,by simp,fun _ _ _ _ h=>by cases h⟩
 have e:fc I ([],[])=((fc I ([],[])).1,(fc I ([],[])).2):=rfl
 obtain⟨q1,q2,q3⟩:=Il hv (2*cF I+(fc I ([],[])).2.length+1) _ _ p1 (by omega)
 exact⟨q1,K3 hv q1 (fun t ht=>q2 t (p2 t ht)) q3⟩
set_option maxHeartbeats 4000000 in
theorem Ud (S:List Tm) (hS:wW S) (k n:Int) (a b:Tm) (hva:bY a=true) (dZ:bq a≤1000000000):FnB Tryz.prog glT 124 [.agg (tmC (.mk k n [a,b])),.bp 1 0] (KZ S) (bo (dD (inP S) a)) (KZ S):=by
 refine nq (rs:=[.tmp 3]) (k:=2) [1000009,3000002] mixed Tryz.func124 rfl rfl rfl rfl (by kernel_rfl) (by simp) rfl rfl rfl (tz rfl) (ae _) ?_
 simp only[Ik,seval,ME,tsC]
 refine df du rfl dl (by decide) (by decide) (c:=tmC a) rfl (bG _) ?_
 simp only[pkA,seval,jA (bG _)]
 refine kZ rfl (wX S hS a hva dZ) (by simp[V.fz]) (show 1≤3 by decide) ⟨rfl,trivial⟩ (fun _ _=>rfl) ?_
 simp only[pkA,seval]
 exact dP [(3,bo (dD (inP S) a))] rfl (by simp only[eQ,aN,aX,gC,aC,aH];rfl) (ae _) (show 2≤3 by decide) ⟨by simp[],trivial⟩ ⟨rfl,rfl,trivial⟩ (by simp[hdS,frs,gx,up])
