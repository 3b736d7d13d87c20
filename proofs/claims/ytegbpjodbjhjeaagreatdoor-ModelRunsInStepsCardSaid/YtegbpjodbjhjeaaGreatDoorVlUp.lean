/- Layer 15: slices.SortedFunc, list. -/
import Derived.Test.YtegbpjodbjhjeaaGreatDoorVlUj
set_option linter.all false
namespace Go.Proofs.YtegbpjodbjhjeaaGreatDoor
open Go Go.Vl
variable {G:Gl}
set_option maxRecDepth 4000
theorem qd {S:List Tm} {xs:List V} (h:xs.all (fun x=>x.ltB 2)=true):dU xs [mS S,[.mr 0]]=true:=by
 simp only[dU,bh,bq,fE,aC,aJ,h];rfl
set_option maxHeartbeats 4000000 in
theorem F9:FnB Tryz.prog G 126 [lM,.c (.fn (.func 91) [] [])] [mS [],[.mr 0]] (.c (tsC [])) [mS [],[.mr 0]]:=by
 refine lH (rs:=[.tmp 4]) (k:=2) [1500007,3000002] mixed Tryz.func126 rfl rfl rfl rfl (by kernel_rfl) (by simp) rfl rfl rfl (qd rfl) (ae _) ?_
 simp only[pkA,seval,lM]
 refine qB rfl Du (by simp[V.fz,lM]) rfl ⟨rfl,rfl,trivial⟩ ?_
 rintro r b1 ⟨rfl,j,rfl,hj⟩
 simp only[pkA,seval]
 refine aD rfl OW (fun h=>by cases h) ?_
 simp only[pkA,seval]
 exact dj [(4,.c (tsC []))] rfl (by simp only[fC,bh,bq,fE,aC,aJ];rfl) (ae _) (show 2≤4 by decide) ⟨by simp[tsC],trivial⟩ ⟨rfl,rfl,trivial⟩ (by simp[hdS,frs,fy,up])
theorem A7 {s:Vl.S} {m:Nat}:∀ xs:List V,LZ s m xs xs
 |[]=>trivial
 |_::xs=>⟨.inl rfl,A7 xs⟩
set_option maxHeartbeats 4000000 in
theorem Ke (S:List Tm) (hS:S.length≤1000000000) (hne:S≠[]) (hs:∀ t∈S,bu t≤1000000000) (hnd:S.Nodup):FnB Tryz.prog G 126 [lM,.c (.fn (.func 91) [] [])] [mS S,[.mr 0]] (.c (tsC (jP S))) [mS S,[.mr 0]]:=by
 refine lH (rs:=[.tmp 4]) (k:=2) [1500007,1000010,2600003,3000002] mixed Tryz.func126 rfl rfl rfl rfl (by kernel_rfl) (by simp) rfl rfl rfl (qd rfl) (ae _) ?_
 simp only[pkA,seval,lM]
 refine qB rfl (F7 S hS hne) (by simp[V.fz,lM]) rfl ⟨rfl,rfl,trivial⟩ ?_
 rintro r b1 ⟨l,j,hl,rfl,rfl,hj⟩
 have hso:jP l=jP S:=nK (jq l) (jq S) fun x=>by rw[iy,iy];exact hl.mem_iff
 have hsrt:=T8 (G:=G) l (fun t ht=>hs t (hl.mem_iff.1 ht)) (hl.nodup_iff.2 hnd) (by rw[hl.length_eq];omega) l.length (ae _)
 rw[hso,hl.length_eq] at hsrt
 simp only[pkA,seval]
 refine qz [4] rfl hsrt (by simp[V.fz,V.ren,rho]) rfl (by decide) rfl ⟨⟨show 4<5 by decide,by simp only[G2];rfl⟩,trivial⟩ ?_
 intro bx' hoth hat
 have h0:bx' 0=mS S:=by rw[hoth 0 (by decide)];rfl
 have h1:bx' 1=[.mr 0]:=by rw[hoth 1 (by decide)];rfl
 have h4:bx' 4=flb tmC (jP S):=by
  have:=hat 0 4 _ rfl rfl
  rwa [G2] at this
 simp only[pkA,seval]
 refine Y0 (l:=[(5,.c (tsC (jP S)))]) (bl:=[mS S,[.mr 0]]) (by simp only[fC,bh,bq,fE,aC,aJ];rfl) (ae _) (show 2≤5 by decide) ⟨.inr ?_,trivial⟩ ⟨by rw[h0];exact A7 _,by rw[h1];exact A7 _,trivial⟩ ?_
 ·have hlen:S.length=(jP S).length:=by
   have h1:=(F8 (jq S).nodup hnd (fun x=>iy)).length_eq
   exact h1.symm
  exact⟨4,0,S.length,S.length,3,tsC (jP S),by simp[ar],show 2≤4 by decide,No b8 (show 4<5 by decide) h4 hlen,rfl⟩
 simp only[pkA,seval,tsC]
 exact dj [(4,.c (tsC (jP S)))] rfl (by simp only[fC,bh,bq,fE,aC,aJ];rfl) (ae _) (ae 2) ⟨by simp[tsC],trivial⟩ ⟨rfl,rfl,trivial⟩ (by simp[hdS,frs,fy,up,tsC])
set_option maxHeartbeats 4000000 in
theorem T9 (S:List Tm) (hS:S.length≤1000000000) (hs:∀ t∈S,bu t≤1000000000) (hnd:S.Nodup):FnB Tryz.prog G 93 [.mr 0] [mS S] (.c (tsC (jP S))) [mS S]:=by
 refine lH (rs:=[.tmp 2]) (k:=1) [1000004,1000005,3000001] mixed Tryz.func93 rfl rfl rfl rfl (by kernel_rfl) (by simp) rfl rfl rfl (by simp only[dU,bh,bq,fE,aC,aJ];rfl) (ae _) ?_
 simp only[pkA,seval]
 refine Ji rfl (Kd S) rfl rfl ⟨rfl,trivial⟩ ?_
 simp only[pkA,seval]
 have hsrt:FnB Tryz.prog G 126 [lM,.c (.fn (.func 91) [] [])] [mS S,[.mr 0]] (.c (tsC (jP S))) [mS S,[.mr 0]]:=by
  by_cases h:S=[]
  ·subst h;exact F9
  ·exact Ke S hS h hs hnd
 refine jJ rfl hsrt (by simp[V.fz,lM]) (show 2≤2 by decide) ⟨rfl,rfl,trivial⟩ (fun _ _=>rfl) ?_
 simp only[pkA,seval]
 exact dj [(2,.c (tsC (jP S)))] rfl (by simp only[fC,bh,bq,fE,aC,aJ];rfl) (ae _) (show 1≤2 by decide) ⟨by simp[],trivial⟩ ⟨rfl,trivial⟩ (by simp[hdS,frs,fy,up])
def sP (S:List Tm):Prop:=∀ t∈S,bR t=true
theorem Ua {S:List Tm}:(prS S).map (·.1)=S.map ip:=by unfold prS;rw[fM];rfl
theorem Hi {S:List Tm} (hS:sP S) {t:Tm} (ht:bR t=true):sC (prS S) (ip t)=S.findIdx? (fun u=>decide (t=u)):=by
 unfold sC
 rw[Ua]
 induction S with
 |nil=>rfl
 |cons u S ih=>
  have hu:decide (ip t=ip u)=decide (t=u):=ib.2 ⟨OG ht (hS u (aR ..)),fun h=>by rw[h]⟩
  simp only[aI,List.findIdx?_cons,hu,ih fun v hv=>hS v (aN _ hv)]
theorem Ub {S:List Tm} (hS:sP S) {t:Tm} (ht:bR t=true):sD (prS S) (ip t)=if t∈S then some t else none:=by
 unfold sD
 rw[Hi hS ht]
 cases hf:S.findIdx? (fun u=>decide (t=u)) with
 |none=>
  have:t∉S:=fun h=>by have:=di.1 hf t h;simp at this
  rw[if_neg this]
 |some j=>
  obtain⟨h1,h2,_⟩:=bO.1 hf
  have h2:t=S[j]:=by simpa using h2
  have:t∈S:=by rw[h2];exact aL h1
  rw[if_pos this]
  simp only
  rw[ak (by rw[lh];exact h1),A5]
  simp[← h2]
theorem Uc {S:List Tm} (hS:sP S) {t:Tm} (ht:bR t=true):Ns (prS S) (ip t) t=prS (C5 S t):=by
 unfold Ns
 rw[Hi hS ht]
 cases hf:S.findIdx? (fun u=>decide (t=u)) with
 |none=>
  have:t∉S:=fun h=>by have:=di.1 hf t h;simp at this
  simp only
  unfold C5
  rw[if_neg (by simpa using this)]
  simp[prS]
 |some j=>
  obtain⟨h1,h2,_⟩:=bO.1 hf
  have h2:t=S[j]:=by simpa using h2
  have:t∈S:=by rw[h2];exact aL h1
  simp only
  unfold C5
  rw[if_pos (by simpa using this)]
  apply gx
  intro i
  rw[List.getElem?_set]
  split
  ·rename_i e;subst e
   rw[if_pos (by rw[lh];exact h1),ak (by rw[lh];exact h1),A5,← h2]
  ·rfl
theorem XT {S:List Tm} {t:Tm} {s:Vl.S} {i:Nat} {K:Vl.S→Prop} (hS:sP S) (ht:bR t=true) (hb:s.bx i=mS S) (hi:i<s.nb) (hK:K { s with bx:=up s.bx i (mS (C5 S t)) }):gj Tryz.prog 105 s (.mr i) (sv (ip t)) (.agg (tmC t)) K:=by
 refine C9 (f:=sv) (h:=tmV) (c:=fun a=>[cS a]) (b:=t) (l:=prS S) rC rfl AP rfl dc rfl UN (fun _=>rfl) (fun _=>rfl) eqS rfl rfl hb hi ?_
 rw[Uc hS ht];exact hK
def kC:Tm:=.mk 0 0 []
theorem Hj {S:List Tm} {t:Tm} {s:Vl.S} {i:Nat} {K:V→Prop} (hS:sP S) (ht:bR t=true) (hb:s.bx i=mS S) (hi:i<s.nb) (hK:K (.tup [.agg (tmC (if t∈S then t else kC)),bo (decide (t∈S))])):eW Tryz.prog 105 s (.mr i) (sv (ip t)) true K:=by
 refine JK (f:=sv) (h:=tmV) (c:=fun a=>[cS a]) (l:=prS S) rC rfl AP rfl dc rfl UN (fun _=>rfl) (fun _=>rfl) eqS hb hi ?_
 rw[Ub hS ht]
 by_cases h:t∈S
 ·simp only[if_pos h,eI h] at hK ⊢;exact hK
 ·simp only[if_neg h,en h] at hK ⊢;exact hK
theorem OX {S:List Tm} {t:Tm} (hS:sP S) (ht:bR t=true):sP (C5 S t):=fun u hu=>by
 unfold C5 at hu
 split at hu
 ·exact hS u hu
 ·rcases bf.1 hu with h | h
  ·exact hS u h
  ·rw[a8] at h;rw[h];exact ht
theorem ZN {G:Gl} {tr:List Nat} {ty:TypeId} {d:Option Tmp} {pos:String} {af:Array Edge} {g:Option (Nat×Bool)} {fr:Nat→V} {bx:Nat→List V} {nb:Nat} {H:Vl.S→Prop}:VStep Tryz.prog G tr ⟨d,.makeMap 105 none,ty,pos,af,g⟩ ⟨fr,bx,nb⟩ H=H ((⟨fr,up bx nb (mS []),nb+1⟩:Vl.S).put d (.mr nb)):=S9
def Ga (S:List Tm):List (List V):=[mS S,[.mr 0]]
theorem Hk {S:List Tm}:Ga S=[mS S,[.mr 0]]:=rfl
def Dx:=jj @pkA (jj @ptA @pkT)
set_option maxHeartbeats 4000000 in
theorem Kf (S:List Tm) (t:Tm) (h:FnB Tryz.prog glT 94 [.mr 0,.agg (tmC t)] [mS S] (bo (dH (inP S) t)) [mS S]):FnB Tryz.prog glT 128 [.agg (tmC t),.bp 1 0] (Ga S) (bo (!dH (inP S) t)) (Ga S):=by
 refine lH (rs:=[.tmp 3]) (k:=2) [1000006,3000002] mixed Tryz.func128 rfl rfl rfl rfl (by kernel_rfl) (by simp) rfl rfl rfl (qd rfl) (ae _) ?_
 simp only[Dx,seval,Hk]
 refine jJ rfl h (by simp[V.fz]) (show 1≤3 by decide) ⟨rfl,trivial⟩ (fun _ _=>rfl) ?_
 simp only[pkA,seval]
 exact dj [(3,bo (!dH (inP S) t))] rfl (by simp only[fC,bh,bq,fE,aC,aJ];rfl) (ae _) (show 2≤3 by decide) ⟨by simp[],trivial⟩ ⟨rfl,rfl,trivial⟩ (by simp[hdS,frs,fy,up])
def OY (S:List Tm) (R:Tm→Prop) (h:∀ t,R t→FnB Tryz.prog glT 94 [.mr 0,.agg (tmC t)] [mS S] (bo (dH (inP S) t)) [mS S]):Ask glT (Ga S) (.clo (.func 128) [] [.bp 1 0]) R (fun t=>!dH (inP S) t) where
 g:=128
 caps:=[.bp 1 0]
 eq:=rfl
 lt:=by simp[V.ltP,Ga]
 ltY:=F4 (qd (xs:=[]) rfl)
 fz:=rfl
 ok t ht:=Kf S t (h t ht)
theorem Gb {S l:List Tm}:(l.any fun t=>!dH (inP S) t)=!nY (inP S) l:=by
 induction l with
 |nil=>rfl
 |cons t l ih=>simp[nY,ih]
theorem Kg {p:Tm→Bool} {k n:Int} {l:List Tm}:dH p (.mk k n l)=(p (.mk k n l)||decide (k=1)||(!decide (k=2)&&nY p l)):=by simp[dH]
set_option maxHeartbeats 8000000 in
theorem sQ (S:List Tm) (hS:sP S):∀ t:Tm,bR t=true→bu t≤1000000000→FnB Tryz.prog glT 94 [.mr 0,.agg (tmC t)] [mS S] (bo (dH (inP S) t)) [mS S]:=by
 refine Tm.ind fun k n l ih hv hsz=>?_
 obtain⟨_,_,_,hvl⟩:=eR hv
 have hs1:cH l+1≤1000000000:=by simp only[bu] at hsz;omega
 have hll:=j3 l
 have hask:=OY S (fun t=>t∈l) (fun t ht=>ih t ht (hvl t ht) (by have:=gq ht;omega))
 refine lH (rs:=[.tmp 4]) (k:=1) [1000027,3000001] mixed Tryz.func94 rfl rfl rfl rfl (by kernel_rfl) (by simp) rfl rfl rfl (by simp only[dU,bh,bq,fE,aC,aJ];rfl) (ae _) ?_
 simp only[Dx,seval,OV]
 refine aD rfl (A4 _ hv hsz) (fun _=>rfl) ?_
 simp only[pkA,seval]
 refine Hj hS hv rfl (show 0<3 by decide) ?_
 simp only[Dx,seval]
 have hend:∀ (fr:Nat→V) (bx:Nat→List V) (nb:Nat) (e:VE) (b:Bool),yB e=true→1≤nb→bx 0=mS S→fr 4=bo b→dH (inP S) (.mk k n l)=b→rq Tryz.prog 1 (bo (dH (inP S) (.mk k n l))) [mS S] [.tmp 4] e ⟨fr,bx,nb⟩:=fun fr bx nb e b he hn h0 h4 hb=>by
  rw[hb]
  exact dj [(4,bo b)] he (by simp only[fC,bh,bq,fE,aC,aJ];rfl) (ae _) hn ⟨h4,trivial⟩ ⟨h0,trivial⟩ (by simp[hdS,frs,fy,up])
 have hbt:=Kg (p:=inP S) (k:=k) (n:=n) (l:=l)
 repeat' first
  |(simp only[Dx,seval,tsC])
  |refine jc (fun h=>?_) (fun h=>?_)
  |refine aZ (fun h=>?_) (fun h=>?_)
  |(refine jJ rfl (vb hask l (fun t h=>h) (by omega)) (by simp[V.fz,tsC]) (show 2≤4 by decide) ⟨rfl,rfl,trivial⟩ (fun _ _=>rfl) ?_)
 all_goals (
  refine hend _ _ _ _ _ rfl (by simp) (by simp[ar,bxs]) rfl ?_
  rw[hbt]
  show(decide (Tm.mk k n l∈S)||decide (k=1)||!decide (k=2)&&nY (inP S) l)=_
  have hall:=Gb (S:=S) (l:=l)
  clear hend hask ih hbt
  generalize decide (Tm.mk k n l∈S)=b1 at *
  generalize decide (k=1)=b2 at *
  generalize decide (k=2)=b3 at *
  generalize nY (inP S) l=b4 at *
  simp_all)
def jh:Tm→List Tm×List Tm→List Tm×List Tm
 | .mk k n l,(S,L)=>
  if Tm.mk k n l∈S then(S,L) else
  if k=3∨k=4 then
   match l with
   |[a,b]=>if dH (inP (S++[.mk k n [a,b]])) a=true then jh b (S++[.mk k n [a,b]],L) else(S++[.mk k n [a,b]],L++[.mk k n [a,b]])
   |l=>(S++[.mk k n l],L)
  else(S++[.mk k n l],L)
termination_by t=>bu t
decreasing_by simp only[bu,cH];omega
structure sR (I S L:List Tm):Prop where
 nd:S.Nodup
 sub:∀ t∈S,Kn I false t
 inl:∀ t∈L,t∈S∧(t.kind=3∨t.kind=4)
 opn:∀ k n a b,Tm.mk k n [a,b]∈S→(k=3∨k=4)→b∈S∨Tm.mk k n [a,b]∈L
theorem A8 {k n:Int} {l S L:List Tm}:jh (.mk k n l) (S,L)=if Tm.mk k n l∈S then(S,L) else
 if k=3∨k=4 then
  match l with
  |[a,b]=>if dH (inP (S++[.mk k n [a,b]])) a=true then jh b (S++[.mk k n [a,b]],L) else(S++[.mk k n [a,b]],L++[.mk k n [a,b]])
  |l=>(S++[.mk k n l],L)
 else(S++[.mk k n l],L):=by
 rcases l with _ | ⟨a,_ | ⟨b,_ | ⟨c,r⟩⟩⟩
 ·rw[jh];simp
 ·rw[jh];simp
 ·rw[jh]
 ·rw[jh];simp
theorem A9 {I:List Tm}:∀ (t:Tm) (S L:List Tm),bR t=true→S.Nodup→(∀ x∈S,Kn I false x)→(∀ x∈L,x∈S∧(x.kind=3∨x.kind=4))→
 (∀ k n a b,Tm.mk k n [a,b]∈S→(k=3∨k=4)→b∈S∨Tm.mk k n [a,b]∈L∨b=t)→Kn I false t→
 sR I (jh t (S,L)).1 (jh t (S,L)).2∧t∈(jh t (S,L)).1∧(∀ x∈S,x∈(jh t (S,L)).1)∧(jh t (S,L)=(S,L)∨(S.length<(jh t (S,L)).1.length∧(jh t (S,L)).2.length≤L.length+1)):=by
 refine Tm.ind fun k n l ih S L hv hnd hkn hin hop ht=>?_
 obtain⟨hk6,_,hlen,hvl⟩:=eR hv
 rw[A8]
 by_cases hm:Tm.mk k n l∈S
 ·rw[if_pos hm]
  refine⟨⟨hnd,hkn,hin,fun k' n' a b h1 h2=>?_⟩,hm,fun x hx=>hx,.inl rfl⟩
  rcases hop k' n' a b h1 h2 with h | h | h
  ·exact .inl h
  ·exact .inr h
  ·rw[h];exact .inl hm
 rw[if_neg hm]
 have hnd':(S++[Tm.mk k n l]).Nodup:=List.nodup_append.2 ⟨hnd,by simp,fun a ha b hb e=>by rw[a8] at hb;exact hm (by rw[← hb,← e];exact ha)⟩
 have hkn':∀ x∈S++[Tm.mk k n l],Kn I false x:=fun x hx=>by
  rcases bf.1 hx with h | h
  ·exact hkn x h
  ·rw[a8] at h;rw[h];exact ht
 have hself:Tm.mk k n l∈S++[Tm.mk k n l]:=by simp
 have hsub:∀ x∈S,x∈S++[Tm.mk k n l]:=fun x hx=>eH _ hx
 by_cases hk:k=3∨k=4
 ·rw[if_pos hk]
  have h2:l.length=2:=by rcases hk with rfl | rfl<;>simp[fD] at hlen<;>omega
  match l,h2 with
  |[a,b],_=>
   simp only
   by_cases hb:dH (inP (S++[.mk k n [a,b]])) a=true
   ·rw[if_pos hb]
    have hih:=ih b (by simp) (S++[.mk k n [a,b]]) L (hvl b (by simp)) hnd' hkn' (fun x hx=>⟨hsub x (hin x hx).1,(hin x hx).2⟩) (fun k' n' a' b' h1 h2=>by
     rcases bf.1 h1 with h | h
     ·rcases hop k' n' a' b' h h2 with h | h | h
      ·exact .inl (hsub _ h)
      ·exact .inr (.inl h)
      ·rw[h];exact .inl hself
     ·rw[a8] at h
      cases h;exact .inr (.inr rfl)) (.opn ht hk (me hkn' a hb))
    obtain⟨q1,q2,q3,q4⟩:=hih
    refine⟨q1,q3 _ hself,fun x hx=>q3 _ (hsub x hx),.inr ?_⟩
    rcases q4 with h | h
    ·rw[h];exact⟨by simp,by simp⟩
    ·have:=h.1;simp only[aw,dz] at this;exact⟨by omega,h.2⟩
   ·rw[if_neg hb]
    refine⟨⟨hnd',hkn',fun x hx=>?_,fun k' n' a' b' h1 h2=>?_⟩,hself,hsub,.inr ⟨by simp,by simp⟩⟩
    ·rcases bf.1 hx with h | h
     ·exact⟨hsub x (hin x h).1,(hin x h).2⟩
     ·rw[a8] at h;rw[h];exact⟨hself,hk⟩
    ·rcases bf.1 h1 with h | h
     ·rcases hop k' n' a' b' h h2 with h | h | h
      ·exact .inl (hsub _ h)
      ·exact .inr (eH _ h)
      ·rw[h];exact .inl hself
     ·rw[a8] at h
      cases h;exact .inr (by simp)
 ·rw[if_neg hk]
  refine⟨⟨hnd',hkn',fun x hx=>⟨hsub x (hin x hx).1,(hin x hx).2⟩,fun k' n' a' b' h1 h2=>?_⟩,hself,hsub,.inr ⟨by simp,by simp⟩⟩
  rcases bf.1 h1 with h | h
  ·rcases hop k' n' a' b' h h2 with h | h | h
   ·exact .inl (hsub _ h)
   ·exact .inr h
   ·rw[h];exact .inl hself
  ·rw[a8] at h
   cases h;exact absurd h2 hk
def eB (I:List Tm) (s:List Tm×List Tm):List Tm×List Tm:=I.foldl (fun s t=>jh t s) s
theorem rG {I:List Tm} (hv:∀ t∈I,bR t=true):∀ (J:List Tm) (S L:List Tm),(∀ t∈J,t∈I)→sR I S L→sR I (eB J (S,L)).1 (eB J (S,L)).2∧(∀ t∈J,t∈(eB J (S,L)).1)∧∀ x∈S,x∈(eB J (S,L)).1
 |[],S,L,_,h=>⟨h,by simp,fun x hx=>hx⟩
 |t::J,S,L,hJ,h=>by
  have ht:=hJ t (aR ..)
  obtain⟨q1,q2,q3,_⟩:=A9 (I:=I) t S L (hv t ht) h.nd h.sub h.inl (fun k n a b h1 h2=>(h.opn k n a b h1 h2).imp_right .inl) (.item ht)
  obtain⟨p1,p2,p3⟩:=rG hv J (jh t (S,L)).1 (jh t (S,L)).2 (fun u hu=>hJ u (aN _ hu)) q1
  have e:eB (t::J) (S,L)=eB J ((jh t (S,L)).1,(jh t (S,L)).2):=rfl
  rw[e]
  refine⟨p1,fun u hu=>?_,fun x hx=>p3 _ (q3 x hx)⟩
  rcases bw.1 hu with rfl | hu
  ·exact p3 _ q2
  ·exact p2 u hu
def wV (t:Tm):Tm:=t.l.getD 0 kC
def Hl (t:Tm):Tm:=t.l.getD 1 kC
def px:Nat→List Tm×List Tm→List Tm×List Tm
 |0,s=>s
 |f+1,(S,L)=>match L.findIdx? (fun t=>dH (inP S) (wV t)) with
  |none=>(S,L)
  |some i=>px f (jh (Hl (L.getD i kC)) (S,L.eraseIdx i))
theorem qe {I S L:List Tm} (h:sR I S L):S.length≤cH I:=by
 have hsub:∀ x∈S,x∈kP I:=fun x hx=>kQ.2 ((h.sub x hx).loc rfl)
 have:=lL h.nd hsub
 have e:(kP I).length=cH I:=by
  clear hsub this h
  induction I with
  |nil=>rfl
  |cons t l ih=>simp only[kP,cH,aw,wL,ih]
 omega
theorem Dy {I:List Tm} (hv:∀ t∈I,bR t=true):∀ (f:Nat) (S L:List Tm),sR I S L→2*(cH I - S.length)+L.length<f→sR I (px f (S,L)).1 (px f (S,L)).2∧(∀ x∈S,x∈(px f (S,L)).1)∧∀ t∈(px f (S,L)).2,dH (inP (px f (S,L)).1) (wV t)=false
 |0,_,_,_,h=>by omega
 |f+1,S,L,hC,hf=>by
  unfold px
  cases hi:L.findIdx? (fun t=>dH (inP S) (wV t)) with
  |none=>
   refine⟨hC,fun x hx=>hx,fun t ht=>?_⟩
   exact di.1 hi t ht
  |some i=>
   obtain⟨hlt,hb,_⟩:=bO.1 hi
   simp only
   have eg:L.getD i kC=L[i]:=by simp[hlt]
   rw[eg]
   have hmem:=aL hlt
   obtain⟨hS,hk⟩:=hC.inl _ hmem
   obtain⟨w,hw,hsub⟩:=(hC.sub _ hS).loc rfl
   obtain⟨a,b,hab⟩:=OL (nf w (hv w hw) _ hsub) hk
   have hkey:wV L[i]=a:=by rw[hab];rfl
   have hcon:Hl L[i]=b:=by rw[hab];rfl
   rw[hkey] at hb
   rw[hcon]
   have hvb:bR b=true:=by
    have:=nf w (hv w hw) _ hsub
    rw[hab] at this
    exact(eR this).2.2.2 b (by simp)
   have hKu:Kn I false (.mk L[i].kind L[i].n [a,b]):=by rw[← hab];exact hC.sub _ hS
   have hsubL:∀ x∈L.eraseIdx i,x∈L:=fun x hx=>List.mem_of_mem_eraseIdx hx
   obtain⟨q1,q2,q3,q4⟩:=A9 (I:=I) b S (L.eraseIdx i) hvb hC.nd hC.sub (fun x hx=>hC.inl x (hsubL x hx)) (fun k' n' a' b' h1 h2=>by
    rcases hC.opn k' n' a' b' h1 h2 with h | h
    ·exact .inl h
    ·obtain⟨j,hj,e⟩:=gV h
     by_cases hji:j=i
     ·subst hji
      rw[hab] at e
      injection e with _ _ e
      injection e with _ e
      injection e with e _
      exact .inr (.inr e.symm)
     ·refine .inr (.inl ?_)
      rw[List.mem_eraseIdx_iff_getElem]
      exact⟨j,hj,hji,e⟩) (.opn hKu hk (me hC.sub a hb))
   have hle:(L.eraseIdx i).length=L.length - 1:=List.length_eraseIdx_of_lt hlt
   have hcl:=qe q1
   have hcl0:=qe hC
   have hm:2*(cH I - (jh b (S,L.eraseIdx i)).1.length)+(jh b (S,L.eraseIdx i)).2.length<f:=by
    rcases q4 with h | ⟨h1,h2⟩
    ·rw[h];simp only;omega
    ·omega
   obtain⟨p1,p2,p3⟩:=Dy hv f (jh b (S,L.eraseIdx i)).1 (jh b (S,L.eraseIdx i)).2 q1 hm
   exact⟨p1,fun x hx=>p2 x (q3 x hx),p3⟩
theorem Dz {S:List Tm}:inP (jP S)=inP S:=funext fun t=>ib.2 iy
theorem Gc {I S L:List Tm} (hv:∀ t∈I,bR t=true) (hC:sR I S L) (hI:∀ t∈I,t∈S) (hn:∀ t∈L,dH (inP S) (wV t)=false):jP S=eb I:=by
 obtain⟨h1,h2⟩:=kR hv
 refine FZ (I:=I) ⟨jq S,fun t ht=>iy.2 (hI t ht),fun t ht=>hC.sub t (iy.1 ht)⟩ (fun k n a b hm hk hb=>?_) h1 h2
 rw[Dz] at hb
 rcases hC.opn k n a b (iy.1 hm) hk with h | h
 ·exact iy.2 h
 ·have:=hn _ h
  rw[show wV (.mk k n [a,b])=a from rfl,hb] at this
  cases this
def sS (I:List Tm):List Tm×List Tm:=px (2*cH I+(eB I ([],[])).2.length+1) (eB I ([],[]))
theorem DD {I:List Tm} (hv:∀ t∈I,bR t=true):sR I (sS I).1 (sS I).2∧jP (sS I).1=eb I:=by
 obtain⟨p1,p2,_⟩:=rG hv I [] [] (fun _ h=>h) ⟨iq,by simp,by simp,fun _ _ _ _ h=>by cases h⟩
 have e:eB I ([],[])=((eB I ([],[])).1,(eB I ([],[])).2):=rfl
 obtain⟨q1,q2,q3⟩:=Dy hv (2*cH I+(eB I ([],[])).2.length+1) _ _ p1 (by omega)
 exact⟨q1,Gc hv q1 (fun t ht=>q2 t (p2 t ht)) q3⟩
set_option maxHeartbeats 4000000 in
theorem OZ (S:List Tm) (hS:sP S) (k n:Int) (a b:Tm) (hva:bR a=true) (hsz:bu a≤1000000000):FnB Tryz.prog glT 124 [.agg (tmC (.mk k n [a,b])),.bp 1 0] (Ga S) (bo (dH (inP S) a)) (Ga S):=by
 refine lH (rs:=[.tmp 3]) (k:=2) [1000009,3000002] mixed Tryz.func124 rfl rfl rfl rfl (by kernel_rfl) (by simp) rfl rfl rfl (qd rfl) (ae _) ?_
 simp only[Dx,seval,Hk,tsC]
 refine dL dm rfl dc (by decide) (by decide) (c:=tmC a) rfl (b8 _) ?_
 simp only[pkA,seval,lw (b8 _)]
 refine jJ rfl (sQ S hS a hva hsz) (by simp[V.fz]) (show 1≤3 by decide) ⟨rfl,trivial⟩ (fun _ _=>rfl) ?_
 simp only[pkA,seval]
 exact dj [(3,bo (dH (inP S) a))] rfl (by simp only[fC,bh,bq,fE,aC,aJ];rfl) (ae _) (show 2≤3 by decide) ⟨by simp[],trivial⟩ ⟨rfl,rfl,trivial⟩ (by simp[hdS,frs,fy,up])
