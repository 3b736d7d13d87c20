/- Layer 16: give, own, make. -/
import Derived.Test.YtegbpjodbjhjeaaGreatDoorVlM4
set_option linter.all false
namespace Go.Proofs.YtegbpjodbjhjeaaGreatDoor
open Go Go.Vl
open Kp (Pol Ty Ru Qu poC tyC ruC quC)
variable {G:Gl}
set_option maxRecDepth 10000
def stO (s:Sy):Ou->Sy
 | .ok s'=>s'
 | .error _=>s
def mX (p:Pol) (s:Sy) (c:Cl) (x4 x5 x6 x7:V):List V:=[.c (.lit (.string p.name)),.c (.sl (p.types.map tyC)),.c (.sl (p.rules.map ruC)),.c (.sl (p.quorums.map quC)),x4,x5,x6,x7,i64 s.fresh,i64 c.kind,i64 c.a,i64 c.b,i64 c.m,i64 c.t]
theorem Gn {P:Program} {T e:TypeId} {i j:TI} {k k':IntKind} {n:Nat} {es:List (List C)} {K:V->Prop} (hT:ti P T=some i) (hk:i.kd=.slice e) (hE:ti P e=some j) (hs:∀ x∈es,x.length=j.size) (hn:es.length=n) (hK:K (.ow none es)) :
 ig P T (.c (.sl es)) none (some (.c (.lit (.int k (n:Nat))))) (some (.c (.lit (.int k' (n:Nat))))) K:=by
 subst hn;obtain⟨a1,a2,a3,a4,a5,a6,a7⟩:=i;simp only at hk;subst hk;simp only[ig,hT,hE,ic];refine⟨⟨by omega,by omega,by omega,trivial,hs⟩,?_⟩;rw[fq,ct];exact hK
theorem apT {es:List (List C)} {x:List C} {K:V->Prop} (hl:es.length<=10000000) (hs:∀ x∈es,x.length=3) (hx:x.length=3) (hK:K (.ow (some (47,3)) (es++[x]))):dL Tryz.prog 33 (.ow none es) (.c (.sl [x])) K:=by
 simp only[dL,dc,cV];refine⟨⟨by decide,rfl,.inl trivial,hs⟩,⟨?_,?_,by simp[hx]⟩,hK⟩
 .simp only[aI,aL];omega
 .simp only[aI,aL];omega
def I8:=jj @pkX (jj @pkA (jj @ptA @pkM))
def I9:=jj @pkX (jj @pkA (jj @ptA @pkT))
def aaC:=jj @pkX @pkA
def xr:=jj @pkA (jj @ptA @pkT)
def Vs:=jj @pkA (jj @ptA @pkM)
def aaD:=jj @pkX (jj @pkA @ptA)
theorem Nr (p:Pol) (s:Sy) (c:Cl) (t:Tm) (ht:bi t<=1000000000) (hn:s.its.length<=100000):FnO Tryz.prog G 117 [.bp 0 0,.agg (tmC t)] [mB p s c] (oP (gy s t)) (.tup []) [mB p (stO s (gy s t)) c]:=by
 refine Ao (b2:=[mX p s c (.c (hsC s.hs)) (.ow (some (47,3)) (s.its.map tmC++[tmC t])) (.c (hsC s.os)) (.c (tsC s.rs))]) (rs:=[]) (k:=1) [3000001,2900001] mixed Tryz.func117 rfl rfl rfl rfl (by kernel_rfl) (by simp) rfl rfl rfl (fL rfl) (by simp) (by simp) (by simp[mX];rfl) ?_ ?_
 .intro h
  unfold gy at h ⊢
  split
  .simp[stO,mX,mB,mC,V.fz,tsC,hsC,cI]
  .rename_i hc;rw[if_neg hc] at h;cases h
 simp only[I8,bV,seval,ao,ah];have hS:=MY (G:=G) t ht;by_cases h0:(s.its.length:Int)<100
 .simp only[I9,bV,seval,ah,tsC,aj,h0,ah]
  refine .inl (ax rfl hS (λ_=>rfl) ?_);simp only[aaC,bV,seval];by_cases h1:(bi t:Int)<=100
  .have e:gy s t=.ok { s with its:=s.its++[t] }:=by unfold gy;rw[if_pos ⟨by omega,by omega⟩]
   simp only[ah,h1,ah,e,oP];refine .inl (ax rfl (pF 2) (λ_=>rfl) ?_);simp only[I8,seval,ao,ah,tsC,aj];refine Gn dc rfl cV (λx hx=>by obtain⟨y,_,rfl⟩:=ce.1 hx;exact bG y) (aj ..) ?_;simp only[xr,seval,ao,ah];rw[if_neg (by decide)];refine apT (by rw[aj];omega) (λx hx=>by obtain⟨y,_,rfl⟩:=ce.1 hx;exact bG y) (bG t) ?_;simp only[Vs,seval,ao,ah];refine⟨ae rfl,?_⟩;simp only[oQ];exact eO [] rfl rfl (ai _) (by simp) trivial ⟨rfl,trivial⟩ dD
  .have e:gy s t=.error 2:=by unfold gy;rw[if_neg (by omega)]
   simp only[h1,aO,e];exact .inr (uX rfl rfl (j5 2) rfl (di (ai _) rfl (by simp) (by simp[BL,bxs,aw,stO])))
 .have e:gy s t=.error 2:=by unfold gy;rw[if_neg (by omega)]
  simp only[aaD,bV,seval,tsC,aj,h0,aO,e];left;exact .inr (uX rfl rfl (j5 2) rfl (di (ai _) rfl (by simp) (by simp[BL,bxs,aw,stO])))
theorem apH {es:List (List C)} {x:List C} {K:V->Prop} (hl:es.length<=10000000) (hs:∀ x∈es,x.length=4) (hx:x.length=4) (hK:K (.ow (some (49,4)) (es++[x]))):dL Tryz.prog 32 (.ow none es) (.c (.sl [x])) K:=by
 simp only[dL,ko,iT];refine⟨⟨by decide,rfl,.inl trivial,hs⟩,⟨?_,?_,by simp[hx]⟩,hK⟩
 .simp only[aI,aL];omega
 .simp only[aI,aL];omega
theorem Vt (p:Pol) (s:Sy) (c:Cl) (t:Int) (v:Tm) (ht:bi v<=1000000000) (hn:s.hs.length<=100000):FnO Tryz.prog G 112 [.bp 0 0,i64 t,.agg (tmC v)] [mB p s c] (oP (lY s t v)) (.tup []) [mB p (stO s (lY s t v)) c]:=by
 refine Ao (b2:=[mX p s c (.ow (some (49,4)) (s.hs.map hdC++[hdC ⟨t,v⟩])) (.c (tsC s.its)) (.c (hsC s.os)) (.c (tsC s.rs))]) (rs:=[]) (k:=1) [3000001,2900001] mixed Tryz.func112 rfl rfl rfl rfl (by kernel_rfl) (by simp) rfl rfl rfl (fL rfl) (by simp) (by simp) (by simp[mX];rfl) ?_ ?_
 .intro h
  unfold lY at h ⊢
  split
  .simp[stO,mX,mB,mC,V.fz,tsC,hsC,cI]
  .rename_i hc;rw[if_neg hc] at h;cases h
 simp only[I8,bV,seval,ao,ah];have hS:=MY (G:=G) v ht;by_cases h0:(s.hs.length:Int)<100
 .simp only[I9,bV,seval,ah,hsC,tsC,aj,h0,ah]
  refine .inl (ax rfl hS (λ_=>rfl) ?_);simp only[aaC,bV,seval];by_cases h1:(bi v:Int)<=100
  .have e:lY s t v=.ok { s with hs:=s.hs++[⟨t,v⟩] }:=by unfold lY;rw[if_pos ⟨by omega,by omega⟩]
   simp only[ah,h1,ah,e,oP];refine .inl (ax rfl (pF 2) (λ_=>rfl) ?_);simp only[I8,seval,ao,ah,hsC,aj];refine Gn ko rfl iT (λx hx=>by obtain⟨y,_,rfl⟩:=ce.1 hx;exact ek y) (aj ..) ?_;simp only[xr,seval,ao,ah];rw[d6,if_pos (bG v),show C.lit (.int .i64 t)::tmC v=hdC ⟨t,v⟩ from(Vn ⟨t,v⟩).symm];simp only[pkA];rw[if_neg (by decide)];refine apH (by rw[aj];omega) (λx hx=>by obtain⟨y,_,rfl⟩:=ce.1 hx;exact ek y) (ek ⟨t,v⟩) ?_;simp only[Vs,seval,ao,ah];refine⟨ae rfl,?_⟩;simp only[oQ];exact eO [] rfl rfl (ai _) (by simp) trivial ⟨rfl,trivial⟩ dD
  .have e:lY s t v=.error 2:=by unfold lY;rw[if_neg (by omega)]
   simp only[h1,aO,e];exact .inr (uX rfl rfl (j5 2) rfl (di (ai _) rfl (by simp) (by simp[BL,bxs,aw,stO])))
 .have e:lY s t v=.error 2:=by unfold lY;rw[if_neg (by omega)]
  simp only[aaD,bV,seval,hsC,tsC,aj,h0,aO,e];left;exact .inr (uX rfl rfl (j5 2) rfl (di (ai _) rfl (by simp) (by simp[BL,bxs,aw,stO])))
theorem Ns (p:Pol) (s:Sy) (c:Cl) (t:Int) (v:Tm) (hn:s.os.length<=100000):FnB Tryz.prog G 113 [.bp 0 0,i64 t,.agg (tmC v)] [mB p s c] (.tup []) [mB p (mkM s t v) c]:=by
 have key:FnO Tryz.prog G 113 [.bp 0 0,i64 t,.agg (tmC v)] [mB p s c] none (.tup []) [mB p (mkM s t v) c]:=by
  refine Ao (b2:=[mX p s c (.c (hsC s.hs)) (.c (tsC s.its)) (.ow (some (49,4)) (s.os.map hdC++[hdC ⟨t,v⟩])) (.c (tsC s.rs))]) (rs:=[]) (k:=1) [3000001] mixed Tryz.func113 rfl rfl rfl rfl (by kernel_rfl) (by simp) rfl rfl rfl (fL rfl) (by simp) (by simp) (by simp[mX];rfl) ?_ ?_
  .intro h
   simp[mX,mB,mC,V.fz,tsC,hsC,cI,mkM]
  simp only[I8,seval,ao,ah,hsC,tsC,aj];refine Gn ko rfl iT (λx hx=>by obtain⟨y,_,rfl⟩:=ce.1 hx;exact ek y) (aj ..) ?_;simp only[xr,seval,ao,ah];rw[d6,if_pos (bG v),show C.lit (.int .i64 t)::tmC v=hdC ⟨t,v⟩ from(Vn ⟨t,v⟩).symm];simp only[pkA];rw[if_neg (by decide)];refine apH (by rw[aj];omega) (λx hx=>by obtain⟨y,_,rfl⟩:=ce.1 hx;exact ek y) (ek ⟨t,v⟩) ?_;simp only[Vs,seval,ao,ah];refine⟨ae rfl,?_⟩;simp only[oQ];exact eO [] rfl rfl (ai _) (by simp) trivial ⟨rfl,trivial⟩ dD
 exact key
theorem Zs (t key:Tm) (kinds:List Int) (ht:bi t<=1000000000) (hk:bi key<=1000000000) (hn:kinds.length<=1000) (hl:t.kind∈kinds->∃ a b,t.l=[a,b]) :
 FnO Tryz.prog G 118 [.agg (tmC t),.agg (tmC key),.c (.sl (kinds.map λk=>[cI k]))] [] (oP (iH t key kinds)) (rO (λx=>.agg (tmC x)) (iH t key kinds)) []:=by
 refine FC (rs:=[.cell 6 47]) (k:=0) [(tmC t).map .c,(tmC key).map .c,rO2 (λx=>(tmC x).map .c) (iH t key kinds)] [3000000,2900001] mixed Tryz.func118 rfl rfl rfl rfl (by kernel_rfl) (by simp) (by cases iH t key kinds<;>rfl) rfl rfl rfl (ai _) rfl (by cases iH t key kinds<;>rfl) ?_;simp only[I9,seval,ao,ah];have hC:(kinds.any λe=>decide (t.kind=e))=decide (t.kind∈kinds):=by simp[List.any_eq,eq_comm]
 have hCk:=Kp.zw (G:=G) kinds (by omega) t.kind;rw[hC] at hCk;have ia0:∀ (a b:Tm) K,K (.c (.rp (tmC a) 0))->bK Tryz.prog 33 (.c (tsC [a,b])) (i64 0) K:=λa b K hK=>
  cR dc rfl cV (by decide) (mG 0) (c:=tmC a) rfl (bG _) hK
 have ia1:∀ (a b:Tm) K,K (.c (.rp (tmC b) 0))->bK Tryz.prog 33 (.c (tsC [a,b])) (i64 1) K:=λa b K hK=>
  cR dc rfl cV (by decide) (by decide) (c:=tmC b) rfl (bG _) hK
 by_cases f9:t.kind∈kinds
 .obtain⟨a,b,mI⟩:=hl f9
  have hsa:bi a<=1000000000:=by obtain⟨k,n,l⟩:=t;simp only[Tm.l] at mI;subst mI;simp only[bi,cz] at ht;omega
  have NV:=uM (G:=G) a key hsa hk;rw[dU f9] at hCk;by_cases hab2:a=key
  .have e:iH t key kinds=.ok b:=by simp[iH,f9,mI,hab2]
   left;refine ax rfl hCk (λ_=>rfl) ?_;simp only[xr,seval,ao,ah,mI];refine ia0 a b _ ?_;simp only[xr,seval,ah];refine ax rfl NV (λ_=>rfl) ?_;simp only[pkA,seval,ah,hab2,ah];refine ax rfl (pF 8) (λ_=>rfl) ?_;simp only[I9,seval,ao,ah,mI,hab2,ah];refine ia1 a b _ ?_;simp only[I9,seval,ao,ah,e,oP,oQ,rO,rO2];refine eO [(6,.bp 2 0)] rfl (by simp only[eu,aK,aQ,fa,cK,aI,aL];rfl) (by simp) (ai _) ⟨rfl,trivial⟩ ⟨rfl,rfl,rfl,trivial⟩ ?_;rw[o8,fx b];refine (mT cV rfl rfl (b:=2) (o:=0)).mpr ⟨rfl,?_⟩;unfold ldA;exact⟨bH 2,⟨rfl,rfl⟩,rfl⟩
  .have e:iH t key kinds=.error 8:=by simp[iH,f9,mI,hab2]
   right;refine gx (l:=[_,_,_,_,_,_,_,_,_,_,_,_]) rfl (by kernel_rfl) ?_;simp only[xr,seval,e];refine ax rfl hCk (λ_=>rfl) ?_;simp only[xr,seval,mI];refine ia0 a b _ ?_;simp only[xr,seval];refine ax rfl NV (λ_=>rfl) ?_;simp only[pkA,seval,hab2,aO];exact Np rfl rfl (j5 8) rfl (di (ai _) rfl (by simp) trivial)
 .have e:iH t key kinds=.error 8:=by simp[iH,f9]
  rw[eY f9] at hCk;right;refine gx (l:=[_,_,_,_,_,_,_,_,_,_,_,_]) rfl (by kernel_rfl) ?_;simp only[xr,seval,e];refine ax rfl hCk (λ_=>rfl) ?_;simp only[pkA,seval];exact Np rfl rfl (j5 8) rfl (di (ai _) rfl (by simp) trivial)
open Kp (Pol Ty Ru Qu)
theorem cZ {α β:Type} {x:Except Int α} {f:α->Except Int β} {y:β} (h:(x >>=f)=.ok y):∃ a,x=.ok a/\f a=.ok y:=by
 cases x with
 |error e=>cases h
 |ok a=>exact⟨a,rfl,h⟩
theorem g8 {b:Bool} {e:Int} {u:Unit} (h:fw b e=.ok u):b=true:=by
 unfold fw at h;split at h
 .assumption
 .cases h
theorem ij {α:Type} {l:List α} {k:Int} {x:α} (h:ofI l k=.ok x):x∈l:=by
 unfold ofI at h;split at h
 .rename_i y hy
  cases h;obtain⟨i,_,hi,rfl⟩:=qX hy;exact aH hi
 .cases h
def gvS (s:Sy) (v:Tm):Sy:={ s with its:=s.its++[v] }
def hoS (s:Sy) (t:Int) (v:Tm):Sy:={ s with hs:=s.hs++[⟨t,v⟩] }
theorem lj {s s':Sy} {v:Tm} (h:gy s v=.ok s'):(s.its.length<100/\bi v<=100)/\s'=gvS s v:=by
 unfold gy at h;split at h
 .rename_i hc;cases h;exact⟨hc,rfl⟩
 .cases h
theorem nO {s s':Sy} {t:Int} {v:Tm} (h:lY s t v=.ok s'):(s.hs.length<100/\bi v<=100)/\s'=hoS s t v:=by
 unfold lY at h;split at h
 .rename_i hc;cases h;exact⟨hc,rfl⟩
 .cases h
structure SyOk (s:Sy):Prop where
 hn:s.hs.length<=100
 iN:s.its.length<=100
 on:s.os.length<=s.hs.length
 rn:s.rs.length<=s.hs.length
 hv:∀ h∈s.hs,bW h.va=true/\bi h.va<=100/\0<=h.ty/\h.ty<=2147483647
 iv:∀ t∈s.its,bW t=true/\bi t<=100
 ov:∀ o∈s.os,o∈s.hs
 rv:∀ t∈s.rs,bW t=true/\bi t<=100
 fr:0<=s.fresh/\s.fresh<=s.hs.length
theorem sok0:SyOk sy0:=⟨by decide,by decide,by decide,by decide,λ_ h=>(by cases h),λ_ h=>(by cases h),λ_ h=>(by cases h),λ_ h=>(by cases h),by decide⟩
theorem ua {t key y:Tm} {kinds:List Int} (hv:bW t=true) (hk:∀ k∈kinds,k=3∨k=4) (h:iH t key kinds=.ok y):∃ k n,k∈kinds/\t=.mk k n [key,y]:=by
 unfold iH at h;split at h
 .rename_i hc
  obtain⟨k,n,l⟩:=t;simp only[Tm.kind,Tm.l] at hc h;have hl:=(fe hv).2.2.1;have h2:l.length=2:=by rcases hk k hc.1 with rfl | rfl<;>simp[gR] at hl<;>omega
  match l,h2 with
  |[a,b],_=>simp only[bJ,ap] at hc;obtain⟨hc1,rfl⟩:=hc;cases h;exact⟨k,n,hc1,rfl⟩
 .cases h
inductive Did (p:Pol) (s:Sy) (c:Cl):Nat->Sy->Prop
 |gen:inI c.t p.types.length=true->jO p c.t 1=true->s.hs.length<100->Did p s c 1 { mkM (hoS s c.t (.mk 2 s.fresh [])) c.t (.mk 2 s.fresh []) with fresh:=s.fresh+1 }
 |load {x:Tm}:x∈s.its->inI c.t p.types.length=true->dF x=true->s.hs.length<100/\bi x<=100->Did p s c 2 (hoS s c.t x)
 |expo {a:Hd}:a∈s.hs->jO p a.ty 4=true->s.its.length<100/\bi a.va<=100->Did p s c 3 (gvS s a.va)
 |encrypt {a:Hd} {x:Tm}:a∈s.hs->x∈s.its->s.its.length<100/\bi (gr a.va x)<=100->Did p s c 4 (gvS s (gr a.va x))
 |decrypt {a:Hd} {n:Int} {y:Tm}:a∈s.hs->.mk 3 n [a.va,y]∈s.its->s.its.length<100/\bi y<=100->Did p s c 5 (gvS s y)
 |mac {a:Hd} {x:Tm}:a∈s.hs->x∈s.its->s.its.length<100/\bi (.mk 6 0 [a.va,x])<=100->Did p s c 6 (gvS s (.mk 6 0 [a.va,x]))
 |wrap {a b:Hd}:a∈s.hs->b∈s.hs->li p 1 a.ty b.ty=true->s.its.length<100/\bi (.mk 4 b.ty [a.va,b.va])<=100->Did p s c 7 (gvS s (.mk 4 b.ty [a.va,b.va]))
 |unwrap {a:Hd} {n:Int} {y:Tm}:a∈s.hs->.mk 4 n [a.va,y]∈s.its->li p 2 a.ty n=true->s.hs.length<100/\bi y<=100->Did p s c 8 (hoS s n y)
 |rawWrap {a b:Hd}:a∈s.hs->b∈s.hs->li p 3 a.ty b.ty=true->s.its.length<100/\bi (gr a.va b.va)<=100->Did p s c 9 (gvS s (gr a.va b.va))
 |rawUnwrap {a:Hd} {n:Int} {y:Tm}:a∈s.hs->.mk 3 n [a.va,y]∈s.its->inI c.t p.types.length=true->li p 4 a.ty c.t=true->dF y=true->s.hs.length<100/\bi y<=100->
   Did p s c 10 (if knS s y=true then hoS s c.t y else { hoS s c.t y with rs:=s.rs++[y] })
 |derive {a:Hd}:a∈s.hs->inI c.t p.types.length=true->li p 5 a.ty c.t=true->s.hs.length<100/\bi (.mk 5 c.t [a.va])<=100->
   Did p s c 11 (if knS s a.va=false/\orS s (.mk 5 c.t [a.va])<0 then mkM (hoS s c.t (.mk 5 c.t [a.va])) c.t (.mk 5 c.t [a.va]) else hoS s c.t (.mk 5 c.t [a.va]))
 |data:inI c.t 2147483648=true->s.its.length<100->Did p s c 12 (gvS s (.mk 1 c.t []))
 |hostSeal {a x:Tm}:a∈s.its->x∈s.its->dF a=true->s.its.length<100/\bi (gr a x)<=100->Did p s c 13 (gvS s (gr a x))
 |hostBox {a x:Tm}:a∈s.its->x∈s.its->inI c.t p.types.length=true->dF a=true->dF x=true->s.its.length<100/\bi (.mk 4 c.t [a,x])<=100->Did p s c 14 (gvS s (.mk 4 c.t [a,x]))
 |hostKdf {a:Tm}:a∈s.its->inI c.t p.types.length=true->dF a=true->s.its.length<100/\bi (.mk 5 c.t [a])<=100->Did p s c 15 (gvS s (.mk 5 c.t [a]))
 |hostOpen {a:Tm} {k n:Int} {y:Tm}:a∈s.its->k=3∨k=4->.mk k n [a,y]∈s.its->s.its.length<100/\bi y<=100->Did p s c 16 (gvS s y)
theorem adO {p:Pol} {s s':Sy} {c:Cl} (hS:SyOk s):∀ {n:Nat},doM p s c n=.ok s'->Did p s c n s':=by
 have k3:∀ k∈([3]:List Int),k=3∨k=4:=by simp
 have k4:∀ k∈([4]:List Int),k=3∨k=4:=by simp
 have k34:∀ k∈([3,4]:List Int),k=3∨k=4:=by simp
 intro n h;unfold doM at h;split at h
 .obtain⟨_,h1,h⟩:=cZ h
  obtain⟨_,h2,h⟩:=cZ h;obtain⟨s1,h3,h⟩:=cZ h;obtain⟨h4,rfl⟩:=nO h3;cases h;exact .gen (g8 h1) (g8 h2) h4.1
 .obtain⟨x,h1,h⟩:=cZ h
  obtain⟨_,h2,h⟩:=cZ h;obtain⟨_,h3,h⟩:=cZ h;obtain⟨_,h4,h⟩:=cZ h;obtain⟨h5,rfl⟩:=nO h;exact .load (ij h1) (g8 h2) (g8 h3) h5
 .obtain⟨a,h1,h⟩:=cZ h
  obtain⟨_,h2,h⟩:=cZ h;obtain⟨h5,rfl⟩:=lj h;exact .expo (ij h1) (g8 h2) h5
 .obtain⟨a,h1,h⟩:=cZ h
  obtain⟨x,h2,h⟩:=cZ h;obtain⟨_,h3,h⟩:=cZ h;obtain⟨h5,rfl⟩:=lj h;exact .encrypt (ij h1) (ij h2) h5
 .obtain⟨a,h1,h⟩:=cZ h
  obtain⟨x,h2,h⟩:=cZ h;obtain⟨_,h3,h⟩:=cZ h;obtain⟨y,h4,h⟩:=cZ h;obtain⟨h5,rfl⟩:=lj h;have hx:=ij h2;obtain⟨k,n,hk,rfl⟩:=ua (hS.iv x hx).1 k3 h4;obtain rfl:=bu.1 hk;exact .decrypt (ij h1) hx h5
 .obtain⟨a,h1,h⟩:=cZ h
  obtain⟨x,h2,h⟩:=cZ h;obtain⟨_,h3,h⟩:=cZ h;obtain⟨h5,rfl⟩:=lj h;exact .mac (ij h1) (ij h2) h5
 .obtain⟨a,h1,h⟩:=cZ h
  obtain⟨x,h2,h⟩:=cZ h;obtain⟨_,h3,h⟩:=cZ h;obtain⟨h5,rfl⟩:=lj h;exact .wrap (ij h1) (ij h2) (g8 h3) h5
 .obtain⟨a,h1,h⟩:=cZ h
  obtain⟨x,h2,h⟩:=cZ h;obtain⟨y,h4,h⟩:=cZ h;obtain⟨_,h3,h⟩:=cZ h;have hx:=ij h2;obtain⟨k,n,hk,rfl⟩:=ua (hS.iv x hx).1 k4 h4;obtain rfl:=bu.1 hk;obtain⟨h5,rfl⟩:=nO h;exact .unwrap (ij h1) hx (g8 h3) h5
 .obtain⟨a,h1,h⟩:=cZ h
  obtain⟨x,h2,h⟩:=cZ h;obtain⟨_,h3,h⟩:=cZ h;obtain⟨h5,rfl⟩:=lj h;exact .rawWrap (ij h1) (ij h2) (g8 h3) h5
 .obtain⟨a,h1,h⟩:=cZ h
  obtain⟨x,h2,h⟩:=cZ h;obtain⟨_,h3,h⟩:=cZ h;obtain⟨_,h4,h⟩:=cZ h;obtain⟨y,h5,h⟩:=cZ h;obtain⟨_,h6,h⟩:=cZ h;obtain⟨s1,h7,h⟩:=cZ h;have hx:=ij h2;obtain⟨k,n,hk,rfl⟩:=ua (hS.iv x hx).1 k3 h5;obtain rfl:=bu.1 hk;obtain⟨h8,rfl⟩:=nO h7;cases h;exact .rawUnwrap (ij h1) hx (g8 h3) (g8 h4) (g8 h6) h8
 .obtain⟨a,h1,h⟩:=cZ h
  obtain⟨_,h3,h⟩:=cZ h;obtain⟨_,h4,h⟩:=cZ h;obtain⟨s1,h7,h⟩:=cZ h;obtain⟨h8,rfl⟩:=nO h7;cases h;exact .derive (ij h1) (g8 h3) (g8 h4) h8
 .obtain⟨_,h1,h⟩:=cZ h
  obtain⟨h5,rfl⟩:=lj h;exact .data (g8 h1) h5.1
 .obtain⟨a,h1,h⟩:=cZ h
  obtain⟨x,h2,h⟩:=cZ h;obtain⟨_,h3,h⟩:=cZ h;obtain⟨h5,rfl⟩:=lj h;exact .hostSeal (ij h1) (ij h2) (g8 h3) h5
 .obtain⟨a,h1,h⟩:=cZ h
  obtain⟨x,h2,h⟩:=cZ h;obtain⟨_,h3,h⟩:=cZ h;obtain⟨_,h4,h⟩:=cZ h;obtain⟨_,h6,h⟩:=cZ h;obtain⟨h5,rfl⟩:=lj h;exact .hostBox (ij h1) (ij h2) (g8 h3) (g8 h4) (g8 h6) h5
 .obtain⟨a,h1,h⟩:=cZ h
  obtain⟨_,h3,h⟩:=cZ h;obtain⟨_,h4,h⟩:=cZ h;obtain⟨h5,rfl⟩:=lj h;exact .hostKdf (ij h1) (g8 h3) (g8 h4) h5
 .obtain⟨a,h1,h⟩:=cZ h
  obtain⟨x,h2,h⟩:=cZ h;obtain⟨y,h4,h⟩:=cZ h;have hx:=ij h2;obtain⟨h5,rfl⟩:=lj h;obtain⟨k,n,hk,rfl⟩:=ua (hS.iv x hx).1 k34 h4;exact .hostOpen (ij h1) (by simpa using hk) hx h5
 .cases h
theorem Vu {p:Pol} {s s':Sy} {c:Cl} (hS:SyOk s) (h:fp p s c=.ok s'):Kp.mh p=true/\1<=c.kind/\c.kind<=16/\Did p s c c.kind.toNat s':=by unfold fp at h;obtain⟨_,h1,h⟩:=cZ h;have:=g8 h1;simp only[aA,inI,br] at this;exact⟨this.2,by omega,by omega,adO hS h⟩
theorem D6 {k n:Int} (h:inI k n=true):0<=k/\k<n:=by simpa[inI] using h
theorem Gp {k n:Int} {a b:Tm} (hk:k=3∨k=4∨k=6) (hn:(k=4->0<=n/\n<=2147483647)/\(k≠4->n=0)) (ha:bW a=true) (hb:bW b=true):bW (.mk k n [a,b])=true:=by
 rcases hk with rfl | rfl | rfl
 .have:=hn.2 (by decide);subst this;simp[bW,qG,ha,hb,gR]
 .have:=hn.1 rfl;simp[bW,qG,ha,hb,gR,this.1,this.2]
 .have:=hn.2 (by decide);subst this;simp[bW,qG,ha,hb,gR]
theorem Vv {n:Int} {a:Tm} (hn:0<=n/\n<=2147483647) (ha:bW a=true):bW (.mk 5 n [a])=true:=by simp[bW,qG,ha,gR,hn.1,hn.2]
theorem Nt {k n:Int} (hk:k=1∨k=2) (hn:0<=n/\n<=2147483647):bW (.mk k n [])=true:=by rcases hk with rfl | rfl<;>simp[bW,qG,gR,hn.1,hn.2]
theorem m6 {k n:Int} {a b:Tm} (h:bW (.mk k n [a,b])=true):bW a=true/\bW b=true/\0<=n/\n<=2147483647:=by obtain⟨_,h2,_,h3⟩:=fe h;exact⟨h3 a (by simp),h3 b (by simp),h2.1,h2.2.1⟩
theorem ll {s:Sy} {v:Tm} (hS:SyOk s) (hv:bW v=true) (hl:s.its.length<100/\bi v<=100):SyOk (gvS s v) where
 hn:=hS.hn
 iN:=by simp[gvS];omega
 on:=hS.on
 rn:=hS.rn
 hv:=hS.hv
 iv:=λt ht=>by
  rcases bh.1 ht with h | h
  .exact hS.iv t h
  .rw[bu] at h;subst h;exact⟨hv,hl.2⟩
 ov:=hS.ov
 rv:=hS.rv
 fr:=hS.fr
theorem xt {s:Sy} {t:Int} {v:Tm} (hS:SyOk s) (hv:bW v=true) (hl:s.hs.length<100/\bi v<=100) (ht:0<=t/\t<=2147483647):SyOk (hoS s t v) where
 hn:=by simp[hoS];omega
 iN:=hS.iN
 on:=by have:=hS.on;simp[hoS];omega
 rn:=by have:=hS.rn;simp[hoS];omega
 hv:=λh hh=>by
  rcases bh.1 hh with h1 | h1
  .exact hS.hv h h1
  .rw[bu] at h1;subst h1;exact⟨hv,hl.2,ht.1,ht.2⟩
 iv:=hS.iv
 ov:=λo ho=>iu _ (hS.ov o ho)
 rv:=hS.rv
 fr:=by have:=hS.fr;simp[hoS];omega
theorem Ja {s:Sy} {t:Int} {v:Tm} (hS:SyOk s) (hv:bW v=true) (hl:s.hs.length<100/\bi v<=100) (ht:0<=t/\t<=2147483647):SyOk (mkM (hoS s t v) t v):=
 { xt hS hv hl ht with
  on:=by have:=hS.on;simp[hoS,mkM];omega
  ov:=λo ho=>by
   rcases bh.1 ho with h1 | h1
   .exact iu _ (hS.ov o h1)
   .rw[bu] at h1;subst h1;exact List.mem_append_right _ (bu.2 rfl) }
theorem Zt {p:Pol} {s s':Sy} {c:Cl} {n:Nat} (hS:SyOk s) (hp:p.types.length<=8) (h:Did p s c n s'):SyOk s':=by
 have tt:inI c.t p.types.length=true->0<=c.t/\c.t<=2147483647:=λh=>by have:=D6 h;omega
 have sl:∀ {a b:Tm},bW a=true->bW b=true->bW (gr a b)=true:=λha hb=>Gp (.inl rfl) ⟨λh=>(by cases h),λ_=>rfl⟩ ha hb;have fr:=hS.fr;have hn:=hS.hn;cases h with
 |gen h1 h2 h3=>
  have hk:bW (.mk 2 s.fresh [])=true:=Nt (.inr rfl) ⟨fr.1,by omega⟩;have h:=Ja hS hk ⟨h3,by simp[bi,cz]⟩ (tt h1);exact { h with fr:=by have:=hS.fr;simp[hoS,mkM];omega }
 |load h1 h2 h3 h4=>exact xt hS (hS.iv _ h1).1 h4 (tt h2)
 |expo h1 h2 h3=>exact ll hS (hS.hv _ h1).1 h3
 |encrypt h1 h2 h3=>exact ll hS (sl (hS.hv _ h1).1 (hS.iv _ h2).1) h3
 |decrypt h1 h2 h3=>exact ll hS (m6 (hS.iv _ h2).1).2.1 h3
 |mac h1 h2 h3=>exact ll hS (Gp (.inr (.inr rfl)) ⟨λh=>(by cases h),λ_=>rfl⟩ (hS.hv _ h1).1 (hS.iv _ h2).1) h3
 |wrap h1 h2 h3 h4=>exact ll hS (Gp (.inr (.inl rfl)) ⟨λ_=>(hS.hv _ h2).2.2,λh=>absurd rfl h⟩ (hS.hv _ h1).1 (hS.hv _ h2).1) h4
 |unwrap h1 h2 h3 h4=>have h5:=m6 (hS.iv _ h2).1;exact xt hS h5.2.1 h4 h5.2.2
 |rawWrap h1 h2 h3 h4=>exact ll hS (sl (hS.hv _ h1).1 (hS.hv _ h2).1) h4
 |rawUnwrap h1 h2 h3 h4 h5 h6=>
  have hv:=(m6 (hS.iv _ h2).1).2.1;have h:=xt hS hv h6 (tt h3);split
  .exact h
  .exact { h with
    rn:=by have:=hS.rn;simp[hoS];omega
    rv:=λt ht=>by
     rcases bh.1 ht with h1 | h1
     .exact hS.rv t h1
     .rw[bu] at h1;subst h1;exact⟨hv,h6.2⟩ }
 |derive h1 h2 h3 h4=>
  have hv:=Vv (tt h2) (hS.hv _ h1).1;split
  .exact Ja hS hv h4 (tt h2)
  .exact xt hS hv h4 (tt h2)
 |data h1 h2=>exact ll hS (Nt (.inl rfl) (by have:=D6 h1;omega)) ⟨h2,by simp[bi,cz]⟩
 |hostSeal h1 h2 h3 h4=>exact ll hS (sl (hS.iv _ h1).1 (hS.iv _ h2).1) h4
 |hostBox h1 h2 h3 h4 h5 h6=>exact ll hS (Gp (.inr (.inl rfl)) ⟨λ_=>tt h3,λh=>absurd rfl h⟩ (hS.iv _ h1).1 (hS.iv _ h2).1) h6
 |hostKdf h1 h2 h3 h4=>exact ll hS (Vv (tt h2) (hS.iv _ h1).1) h4
 |hostOpen h1 h2 h3 h4=>exact ll hS (m6 (hS.iv _ h3).1).2.1 h4
theorem ub {p:Pol} {s s':Sy} {c:Cl} (hS:SyOk s) (hp:p.types.length<=8) (h:fp p s c=.ok s'):SyOk s':=Zt hS hp (Vu hS h).2.2.2
theorem Gq {p:Pol} (hp:p.types.length<=8):∀ (l:List Cl) (s:Sy) (n:Nat),SyOk s->SyOk (lZ p s n l).1
 |[],_,_,h=>h
 |c::l,s,n,h=>by
  unfold lZ;split
  .rename_i s' hs;exact Gq hp l s' (n+1) (ub h hp hs)
  .exact h
