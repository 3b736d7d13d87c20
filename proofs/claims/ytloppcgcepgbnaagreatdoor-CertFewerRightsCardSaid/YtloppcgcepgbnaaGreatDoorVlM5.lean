/- Layer 19: the law CertFewerRights, as a contract. -/
import Derived.Test.YtloppcgcepgbnaaGreatDoorVlM4
set_option linter.all false
namespace Go.Proofs.YtloppcgcepgbnaaGreatDoor
open Go Go.Vl Go.Proofs.YtloppcgcepgbnaaGreatDoor.Kw
variable {G:Gl}
set_option maxRecDepth 100000
theorem amQ {l:List Ty} {i nb q:Nat} {K:V→Prop} (h:i<l.length) (hq:q<nb) (hK:K (i64 l[i].flags)):ldB nb q (flb tyC l) (i*3+1) K:=by
 unfold ldB
 rw[G7 nQ l i 1 h (by decide)]
 exact⟨hq,hK⟩
theorem afh {l:List Ty} {i:Nat} (h:i<l.length) (z:Int):eS (flb tyC l) (i*3+1) [i64 z]=flb tyC (l.set i { l[i] with flags:=z }):=by
 have hl:(flb tyC (l.take i)).length=i*3:=by rw[kg nQ,aG,bI (by omega)]
 have e:l=l.take i++l[i]::l.drop (i+1):=by rw[List.getElem_cons_drop,dh]
 have e2:l.set i { l[i] with flags:=z }=l.take i++{ l[i] with flags:=z }::l.drop (i+1):=by rw[List.set_eq_take_append_cons_drop,if_pos h]
 have e3:flb tyC l=flb tyC (l.take i)++([.c (cS l[i].name),i64 l[i].flags,i64 l[i].life]++flb tyC (l.drop (i+1))):=by
  conv=>lhs;rw[e]
  rw[lC,pM];rfl
 have e4:flb tyC (l.take i++{ l[i] with flags:=z }::l.drop (i+1))=flb tyC (l.take i)++([.c (cS l[i].name),i64 z,i64 l[i].life]++flb tyC (l.drop (i+1))):=by
  rw[lC,pM];rfl
 rw[e2,e4,e3]
 have key:∀ (A B:List V) (x y w:V),A.length=i*3→eS (A++([x,y,w]++B)) (i*3+1) [i64 z]=A++([x,i64 z,w]++B):=fun A B x y w hA=>by
  have p1:A++([x,y,w]++B)=(A++[x])++(y::w::B):=by simp
  have p2:A++([x,y,w]++B)=(A++[x,y])++(w::B):=by simp
  unfold eS
  rw[p1,iV (by simp[hA]),← p1,p2,kT (by simp[hA])]
  simp
 exact key _ _ _ _ _ hl
theorem Uc {m:Int} {i:Nat} {l:List Ty} (h:i<l.length):iK m i l=l.set i (ae0 m l[i]):=by
 apply List.ext_getElem
 ·rw[im,fD]
 ·intro k h1 h2
  rw[vm h1 (by rw[im] at h1;exact h1),List.getElem_set]
  by_cases q:i=k
  ·subst q;simp
  ·rw[if_neg q,if_neg q]
theorem amR (x y:Int):I64 (bits .and .i64 x y):=by
 rw[xW]
 have h1:=BitVec.toInt_lt (x:=BitVec.ofInt 64 x &&&BitVec.ofInt 64 y)
 have h2:=BitVec.le_toInt (x:=BitVec.ofInt 64 x &&&BitVec.ofInt 64 y)
 constructor<;>simp at h1 h2 ⊢<;>omega
theorem ZZ {p:Pol} {R:List Ru} {m:Int} {i:Nat} (hR:R.Sublist p.rules) (h:Ax p):Ax ⟨p.name,iK m i p.types,R,p.quorums⟩ where
 inn:={
  name:=h.inn.name
  lt:=by have:=h.inn.lt;simp only[kPo,ak,im] at this ⊢;exact this
  lr:=by have:=h.inn.lr;have:=hR.length_le;simp only[kPo,ak] at *;omega
  lq:=h.inn.lq
  types:=fun t ht=>by
   obtain⟨j,hj,rfl⟩:=fa.1 ht
   have Dm:j<p.types.length:=by simpa[kPo,im] using hj
   have ho:=h.inn.types ((kPo p).types[j]'(by simpa[kPo] using Dm)) (bM _)
   simp only[kPo,jt,vm _ Dm] at ho ⊢
   by_cases q:i=j
   ·simp only[if_pos q];exact⟨ho.1,amR _ _,ho.2.2⟩
   ·simp only[if_neg q];exact ho
  rules:=fun t ht=>by
   obtain⟨r,hr,rfl⟩:=bA.1 ht
   exact h.inn.rules _ (bA.2 ⟨r,hR.subset hr,rfl⟩)
  quorums:=h.inn.quorums }
 sm:=by
  have:=h.sm;have:=hR.length_le
  unfold Kp.jf at *
  simp only[kPo,ak,im] at *
  omega
theorem af7 {l m:List Ru} {K:V→Prop} (h:l.length+m.length≤1000000000) (hK:K (owR (l++m))):eR Tryz.prog 23 (owR l) (.c (.sl (m.map ruC))) K:=by
 unfold owR
 rw[aiy]
 refine⟨⟨by cases l<;>simp,nR qu _⟩,⟨by simp only[ak];omega,by simp only[ak];omega,nR qu _⟩,?_⟩
 have e:(if(m.map ruC).isEmpty=true then(if l.isEmpty=true then none else some (120,3)) else some (120,3))=if(l++m).isEmpty=true then none else some (120,3):=by
  cases l<;>cases m<;>simp
 rw[e,← dA];exact hK
theorem ajU {fr:Nat→V} {bx:Nat→List V} {nb:Nat} {t:Tmp} {dO:Option Tmp} {b o:Nat} {l:List Ru} {K:Vl.S→Prop} (h:fr t=owR l):stS 1 (some t) dO b o (owR l) ⟨fr,bx,nb⟩ K=((b<nb∧o+1≤(bx b).length)∧K ((⟨up fr t .un,up bx b (eS (bx b) o [owR l]),nb⟩:Vl.S).put dO .sk)):=Wx h
theorem HQ {s:Vl.S} {m:Nat}:∀ l:List V,LZ s m l l
 |[]=>trivial
 |_::l=>⟨.inl rfl,HQ l⟩
theorem ajV (x y:Int) (K:V→Prop):mO .and .i64 x y K=K (i64 (bits .and .i64 x y)):=rfl
theorem amS (x y:Int) (K:V→Prop):mO .or .i64 x y K=K (i64 (bits .or .i64 x y)):=rfl
def Lx:=jj @pkA (jj @ptA @pkI)
def zZ:=jj @pkA @ptA
set_option maxHeartbeats 8000000 in
theorem Ly (hG:GV G) {p:Pol} (hp0:Kp.PolIn (kPo p)) (b:B) (r a:Nat) (m:Int) (hr:r≤255) (ha:a≤255) :
 FnOK Tryz.prog G 7 [.agg (poC p),bv b,.c (.lit (.int .u8 r)),.c (.lit (.int .u8 a)),i64 m] (bo true):=by
 refine bR (rs:=[.tmp 10]) false [2000044,200047,304701,200051,305101,200061,306102,2600010] mixed Tryz.func7 rfl rfl rfl rfl (by kernel_rfl) (by simp) rfl rfl ?_
 have lf:∀ (m:List Fa) (K:V→Prop),fw Tryz.prog 28 (.c (fsC m)) K=K (i64 m.length):=fun m K=>by unfold fsC;rw[ff eO rfl,ak]
 have lb:∀ (b:B) (K:V→Prop),fw Tryz.prog 27 (.c (.sl (bC b))) K=K (i64 b.length):=fun b K=>by rw[ff kN rfl];simp[bC]
 have q0:∀ (p:Pol) (a b c d:V),eS [a,b,c,d] 0 ((poC p).map .c)=(poC p).map .c:=fun _ _ _ _ _=>rfl
 have qi:∀ (x:In) (a b c:V),eS [a,b,c] 0 ((inC x).map .c)=(inC x).map .c:=fun _ _ _ _=>rfl
 have cvr:∀ (K:V→Prop),iW Tryz.prog 5 3 (.c (.lit (.int .u8 r))) K=K (i64 r):=fun K=>BV qP pe rfl (by omega)
 have cva:∀ (K:V→Prop),iW Tryz.prog 5 3 (.c (.lit (.int .u8 a))) K=K (i64 a):=fun K=>BV qP pe rfl (by omega)
 have r1:∀ nb q (K:V→Prop),ldB nb q ((poC p).map .c) 1 K=(q<nb∧K (.c (.sl (p.types.map tyC)))):=fun _ _ _=>rfl
 have r2:∀ nb q (K:V→Prop),ldB nb q ((poC p).map .c) 2 K=(q<nb∧K (.c (.sl (p.rules.map ruC)))):=fun _ _ _=>rfl
 have lt:∀ (K:V→Prop),fw Tryz.prog 22 (.c (.sl (p.types.map tyC))) K=K (i64 p.types.length):=fun K=>by rw[ff mD rfl,ak]
 have lr:∀ (K:V→Prop),fw Tryz.prog 23 (.c (.sl (p.rules.map ruC))) K=K (i64 p.rules.length):=fun K=>by rw[ff mY rfl,ak]
 simp only[Lx,seval,bO,bz]
 refine aN rfl (ZV p) (fun _=>rfl) ?_
 simp only[pkA,seval,bO]
 cases hf:OA p
 ·simp only[pkA,seval,bO]
  refine aN rfl (jr hG) (fun h=>by cases h) ?_
  simp only[pkA,seval,bO]
 obtain⟨hs,hty,hru,hqu⟩:=ZW hf
 have hp:=af6 hf hp0
 cases hb:decide ((3000:Int)<(b.length:Nat))
 case true=>
  simp only[pkA,seval,lb,bO,hb]
  refine aN rfl (jr hG) (fun h=>by cases h) ?_
  simp only[pkA,seval,bO]
 have hb3:b.length≤3000:=by have:=cO hb;omega
 simp only[Lx,seval,lb,bO,bz,hb]
 refine aN rfl (px hG hp hs b (by omega)) (fun h=>by cases h) ?_
 simp only[pkA,seval,bO]
 cases hA:decide (jD (iT p) p b=0)
 case false=>
  simp only[pkA,seval,bO]
  refine aN rfl (jr hG) (fun h=>by cases h) ?_
  simp only[pkA,seval,bO]
 simp only[Lx,seval,bO,bz]
 refine aN rfl (Lj hp) (fun h=>by cases h) ?_
 simp only[pkA,seval,bO]
 cases hV:iT p
 case false=>
  simp only[pkA,seval,bO]
  refine aN rfl (jr hG) (fun h=>by cases h) ?_
  simp only[pkA,seval,bO]
 simp only[zZ,seval,bO,bz,r1,lt]
 cases hT:decide ((p.types.length:Int)=0)
 case true=>
  simp only[pkA,seval]
  refine aN rfl (jr hG) (fun h=>by cases h) ?_
  simp only[pkA,seval,bO]
 have gK:p.types≠[]:=fun h=>by rw[h] at hT;exact absurd hT (by decide)
 have qY:0<p.types.length:=fm.2 gK
 simp only[Lx,seval,q0,bO,bz,r1]
 have er:(List.map tyC p.types).isEmpty=false:=by simpa using gK
 have flr:List.map V.c (List.map tyC p.types).flatten=flb tyC p.types:=rfl
 obtain⟨k,hk⟩:∃ k,k=a % p.types.length:=⟨_,rfl⟩
 have zn:k<p.types.length:=by rw[hk];exact kH _ qY
 have hrm:=fun K=>HO (a:=a) (K:=K) qY
 rw[← hk] at hrm
 have lp:(2≤((poC p).map V.c).length)=True:=eq_true (by simp[poC])
 have u3:∀ x:V,eS ((poC p).map .c) 1 [x]=[.c (.lit (.string p.name)),x,.c (.sl (p.rules.map ruC)),.c (.sl (p.quorums.map quC))]:=fun _=>rfl
 rw[aiw]
 refine⟨⟨.inl rfl,by simp⟩,⟨by simp<;>omega,by simp<;>omega,nR nQ _⟩,?_⟩
 simp only[Lx,seval,bO,bz,ak,er,flr,u3,cva,hrm]
 refine yV mD rfl j9 rfl (by decide) rfl zn ?_
 simp only[zZ,seval,gw,bO,bz]
 have hst:eS (flb tyC p.types) (k*3+1) [i64 (bits .and .i64 p.types[k].flags (bits .or .i64 m 64))]=flb tyC (iK m k p.types):=by rw[afh zn,Uc zn];rfl
 have LO:(k*3+1+1≤(flb tyC p.types).length)=True:=eq_true (by rw[kg nQ];omega)
 refine amQ zn (by decide) ?_
 simp only[pkA,seval,bO,ajV,amS]
 refine yV mD rfl j9 rfl (by decide) rfl zn ?_
 simp only[zZ,seval,gw,bO,bz,r2,lr,hst,LO,gw]
 have hA0:=bn hA
 have hpr:=hp
 cases hr0:decide ((0:Int)<(p.rules.length:Nat))
 case false=>
  have fJ:p.rules.Sublist p.rules:=List.Sublist.refl _
  simp only[pkA,seval,bO]
  have hA2:=px hG (ZZ (m:=m) (i:=k) fJ hp) (p:=⟨p.name,iK m k p.types,p.rules,p.quorums⟩) ⟨by show(iK m k p.types).length≤7;rw[im];omega,by show(p.rules).length≤15;have:=fJ.length_le;omega⟩ b (by omega)
  rw[zY fJ hA0] at hA2
  refine afH (l:=[(1,bv b),(5,.bp 0 0),(11,.bp 1 0)]) (bl:=[(poC p).map .c,[.c (.lit (.string p.name)),.c (.sl ((iK m k p.types).map tyC)),.c (.sl (p.rules.map ruC)),.c (.sl (p.quorums.map quC))]]) (by simp only[jq,bh,bG,fR,aA,aB];rfl) (au _) (show 2≤3 by decide) (by simp[FZL,ao]) ?_ ?_
  ·refine⟨?_,?_,trivial⟩
   ·simp only[ao,seval]
    exact HQ _
   ·simp only[ao,seval]
    exact⟨.inl rfl,.inr ⟨2,0,_,_,3,_,rfl,by simp,JB (l:=iK m k p.types) nQ (by decide) (by simp[]) (by rw[im]),rfl⟩,.inl rfl,.inl rfl,trivial⟩
  have u5:∀ nb q (K:V→Prop),ldA nb q [.c (.lit (.string p.name)),.c (.sl ((iK m k p.types).map tyC)),.c (.sl (p.rules.map ruC)),.c (.sl (p.quorums.map quC))] 0 4 K=(q<nb∧K (.agg (poC ⟨p.name,iK m k p.types,p.rules,p.quorums⟩))):=fun nb q K=>by
   unfold ldA
   exact propext ⟨fun h=>⟨h.1,h.2.2⟩,fun h=>⟨h.1,⟨rfl,rfl⟩,h.2⟩⟩
  have u6:bY [.c (.lit (.string p.name)),.c (.sl ((iK m k p.types).map tyC)),.c (.sl (p.rules.map ruC)),.c (.sl (p.quorums.map quC))]=false:=rfl
  simp only[pkA,seval]
  refine aN rfl (jr hG) (fun h=>by cases h) ?_
  simp only[zZ,seval,bO,bz,u5,u6]
  refine aN rfl (hA2) (fun h=>by cases h) ?_
  simp only[pkA,seval,bO,bz]
 have hrp:0<p.rules.length:=by have:=bn hr0;omega
 obtain⟨j,hj⟩:∃ j,j=r % p.rules.length:=⟨_,rfl⟩
 have Qa:j<p.rules.length:=by rw[hj];exact kH _ hrp
 have hrj:=fun K=>HO (a:=r) (K:=K) hrp
 rw[← hj] at hrj
 have hwj:=cd (n:=(j:Int)+1) (k:=j+1) (by omega) (by omega)
 have fJ:(p.rules.take j++p.rules.drop (j+1)).Sublist p.rules:=by rw[← fx];exact List.eraseIdx_sublist _ _
 have ht:((p.rules.map ruC).take j).drop 0=(p.rules.take j).map ruC:=by rw[dE,j7]
 have hd:((p.rules.map ruC).take p.rules.length).drop (j+1)=(p.rules.drop (j+1)).map ruC:=by rw[dW (by simp),List.map_drop]
 simp only[zZ,seval,bO,bz,r2,cvr,hrj]
 refine uk (l:=0) (h:=j) mY rfl iR rfl rfl (au _) (by simp;omega) (nR qu _) ?_
 rw[ht]
 simp only[pkA,seval,bO,fh]
 refine af7 (l:=[]) (m:=p.rules.take j) (by rw[aG,aB];omega) ?_
 rw[dP]
 simp only[zZ,seval,bO,bz,r2,hwj]
 refine uk (l:=j+1) (h:=p.rules.length) mY rfl iR rfl (by rw[ak];rfl) (by omega) (by simp) (nR qu _) ?_
 rw[hd]
 simp only[pkA,seval,bO,fh]
 refine af7 (l:=p.rules.take j) (m:=p.rules.drop (j+1)) (by rw[aG,b9];omega) ?_
 simp only[zZ,seval,bO,bz,aje,ajU]
 have hA2:=px hG (ZZ (m:=m) (i:=k) fJ hp) (p:=⟨p.name,iK m k p.types,(p.rules.take j++p.rules.drop (j+1)),p.quorums⟩) ⟨by show(iK m k p.types).length≤7;rw[im];omega,by show((p.rules.take j++p.rules.drop (j+1))).length≤15;have:=fJ.length_le;omega⟩ b (by omega)
 rw[zY fJ hA0] at hA2
 refine afH (l:=[(1,bv b),(5,.bp 0 0),(11,.bp 1 0)]) (bl:=[(poC p).map .c,[.c (.lit (.string p.name)),.c (.sl ((iK m k p.types).map tyC)),owR (p.rules.take j++p.rules.drop (j+1)),.c (.sl (p.quorums.map quC))]]) (by simp only[jq,bh,bG,fR,aA,aB];rfl) (au _) (show 2≤3 by decide) (by simp[FZL,ao]) ?_ ?_
 ·refine⟨?_,?_,trivial⟩
  ·simp only[ao,seval]
   exact HQ _
  ·simp only[ao,seval]
   exact⟨.inl rfl,.inr ⟨2,0,_,_,3,_,rfl,by simp,JB (l:=iK m k p.types) nQ (by decide) (by simp[ao]) (by rw[im]),rfl⟩,.inl rfl,.inl rfl,trivial⟩
 have u5:∀ nb q (K:V→Prop),ldA nb q [.c (.lit (.string p.name)),.c (.sl ((iK m k p.types).map tyC)),owR (p.rules.take j++p.rules.drop (j+1)),.c (.sl (p.quorums.map quC))] 0 4 K=(q<nb∧K (.agg (poC ⟨p.name,iK m k p.types,(p.rules.take j++p.rules.drop (j+1)),p.quorums⟩))):=fun nb q K=>by
  unfold ldA
  exact propext ⟨fun h=>⟨h.1,h.2.2⟩,fun h=>⟨h.1,⟨rfl,rfl⟩,h.2⟩⟩
 have u6:bY [.c (.lit (.string p.name)),.c (.sl ((iK m k p.types).map tyC)),owR (p.rules.take j++p.rules.drop (j+1)),.c (.sl (p.quorums.map quC))]=false:=rfl
 simp only[pkA,seval]
 refine aN rfl (jr hG) (fun h=>by cases h) ?_
 simp only[zZ,seval,bO,bz,u5,u6]
 refine aN rfl (hA2) (fun h=>by cases h) ?_
 simp only[pkA,seval,bO,bz]
