/- Layer 19: Facts. -/
import Derived.Test.YtloppcgcepgbnaaGreatDoorVlC1
import Derived.Test.YtloppcgcepgbnaaGreatDoorVlR5
import Derived.Test.YtloppcgcepgbnaaGreatDoorKwVlW2
set_option maxHeartbeats 4000000
set_option linter.all false
namespace Go.Proofs.YtloppcgcepgbnaaGreatDoor
open Go Go.Vl Go.Proofs.YtloppcgcepgbnaaGreatDoor.Kw
variable {G:Gl}
set_option maxRecDepth 100000
theorem FY {P:Program} {G:Gl} {tr:List Nat} {ops:Array Oper} {o:Oper} {r:List Oper} {K:Vl.S->Prop} {d:Option Tmp} {v:V} {w:Bool} {s:Vl.S} (J:Vl.S->Prop) (h:∀ s',J s'->K s') (hb:∀ K':Vl.S->Prop,(∀ s',J s'->K' s')->vgd P G tr ops o r K' d v w s):vgd P G tr ops o r K d v w s:=hb K h
def failW:V:=.clo (.func 27) [] [.bp 1 0]
def nextW:V:=.clo (.func 28) [] [.bp 1 0,.bp 0 0,.bp 2 0]
theorem zr:failW.isMk=false:=rfl
theorem zt:failW.ldv=failW:=rfl
theorem Dv:nextW.fz=nextW:=rfl
theorem vz {b:B} {e:Int} {nb:Nat} {fr:Nat->V} {bx:Nat->List V} {K:Vl.S->V->Prop} (hb:b.length<=1000000000) (hn:3<=nb) (h0:bx 0=[bv b]) (h1:bx 1=[i64 e]) (h2:bx 2=[failW])
 (hK:∀ bx':Nat->List V,(∀ j,3<=j->bx' j=bx j)->bx' 0=[bv (cY b e).2.1]->bx' 1=[i64 (cY b e).2.2]->bx' 2=[failW]->K ⟨fr,bx',nb⟩ (i64 (cY b e).1)):vcallB Tryz.prog G ⟨fr,bx,nb⟩ nextW [] K:=by
 refine jM [1,0,2] rfl (afq b e hb) rfl rfl (by decide) rfl ⟨⟨show 1<nb by omega,by simp[rho,h1,V.ren]⟩,⟨show 0<nb by omega,by simp[rho,h0,V.ren]⟩,⟨show 2<nb by omega,by simp[rho,h2,V.ren,Lx,failW,V.renP]⟩,trivial⟩ ?_;intro bx' iE oW;refine hK bx' (λj hj=>iE j (by simp;omega)) ?_ ?_ ?_
 .have:=oW 1 0 _ rfl rfl
  simpa[V.ren] using this
 .have:=oW 0 1 _ rfl rfl
  simpa[V.ren] using this
 .have:=oW 2 2 _ rfl rfl
  simpa[V.ren,Lx,failW,V.renP,rho] using this
theorem sq {is:Bool} {f e:Int} {nb:Nat} {fr:Nat->V} {bx:Nat->List V} {K:Vl.S->V->Prop} (hn:3<=nb) (h1:bx 1=[i64 e])
 (hK:∀ bx':Nat->List V,(∀ j,j≠1->bx' j=bx j)->bx' 1=[i64 (mh is f e)]->K ⟨fr,bx',nb⟩ (.tup [])):vcallB Tryz.prog G ⟨fr,bx,nb⟩ failW [bo is,i64 f] K:=by
 refine jM [1] rfl (QD is f e) rfl rfl (by decide) rfl ⟨⟨show 1<nb by omega,by simp[rho,h1,V.ren]⟩,trivial⟩ ?_;intro bx' iE oW;refine hK bx' (λj hj=>iE j (by simp[hj])) ?_;have:=oW 0 1 _ rfl rfl;simpa[V.ren] using this
theorem zu (b:B) (e:Int):(cY b e).2.1.length<=b.length:=by
 unfold cY;split
 .exact ab _
 .rw[cG];omega
structure Rd where
 b:B
 e:Int
 out:List Fa
def mW (b:B) (e:Int):Fa×B×Int:=
 let x:=cY b e
 let y:=cY x.2.1 x.2.2
 let z:=cY y.2.1 y.2.2
 (⟨x.1,y.1,z.1⟩,z.2.1,z.2.2)
def uQ (out:List Fa) (f:Fa):Bool:=match out.getLast? with
 |some g=>decide (wU g f≥0)
 |none=>false
def qH (s:Rd):Rd:=⟨(mW s.b s.e).2.1,mh (uQ s.out (mW s.b s.e).1) 6 (mW s.b s.e).2.2,s.out++[(mW s.b s.e).1]⟩
def kb:Nat->Rd->Rd
 |0,s=>s
 |n+1,s=>if s.e=0 then kb n (qH s) else s
def oN (b:B):Rd:=⟨(cY b 0).2.1,mh (decide ((cY b 0).1<0)||decide (65536<(cY b 0).1)) 6 (cY b 0).2.2,[]⟩
def tK (s:Rd):Rd:=⟨s.b,mh (decide (0<s.b.length)) 6 s.e,s.out⟩
def fi (b:B):List Fa×Int:=
 let s:=tK (kb (cY b 0).1.toNat (oN b))
 if s.e≠0 then([],s.e) else(s.out,0)
def Ar:=jj @pkA @ptA
def agG:=jj @pkA (jj @ptA @pkF)
theorem zw (b:B) (hb:b.length<=1000000000):FnOK Tryz.prog G 10 [bv b] (.tup [.c (fsC (fi b).1),i64 (fi b).2]):=by
 refine bJ (rs:=[.tmp 2,.tmp 3]) false [53,65,1000014,1000022,1000033,1000035,1000037,1000052,1000061] mixed Tryz.func10 rfl rfl rfl rfl (by kernel_rfl) (by simp) rfl rfl ?_;simp only[Ar,seval,aJ,cy];refine vz hb (ab 3) rfl rfl rfl ?_;intro bx1 ho1 x0 x1 x2;simp only[Ar,seval,cy,zr,zt,x2];refine FY (λs'=>(s'.fr 1=.bp 0 0/\s'.fr 4=.bp 1 0/\s'.fr 5=.bp 2 0/\s'.fr 6=nextW/\s'.fr 7=i64 (cY b 0).1)/\s'.bx 0=[bv (oN b).b]/\s'.bx 1=[i64 (oN b).e]/\s'.bx 2=[failW]/\s'.nb=3) ?_ ?_
 rotate_left
 .intro K' hK'
  refine fy (λh=>?_) (λh=>?_)
  .simp only[pkA,seval]
   refine sq (e:=(cY b 0).2.2) (ab 3) x1 ?_;intro bx2 IK z1;simp only[pkA];refine hK' _ ⟨⟨rfl,rfl,rfl,rfl,rfl⟩,?_,?_,?_,rfl⟩
   .show bx2 0=_;rw[IK 0 (by decide),x0];rfl
   .show bx2 1=_;rw[z1];unfold oN;rw[h];rfl
   .show bx2 2=_;rw[IK 2 (by decide),x2]
  .simp only[pkA,seval]
   refine sq (e:=(cY b 0).2.2) (ab 3) x1 ?_;intro bx2 IK z1;simp only[pkA];refine hK' _ ⟨⟨rfl,rfl,rfl,rfl,rfl⟩,?_,?_,?_,rfl⟩
   .show bx2 0=_;rw[IK 0 (by decide),x0];rfl
   .show bx2 1=_;rw[z1];unfold oN;rw[h];rfl
   .show bx2 2=_;rw[IK 2 (by decide),x2]
 rintro⟨fr,bx,nb⟩ ⟨⟨f1,f4,f5,f6,f7⟩,y0,y1,y2,yn⟩;simp only at f1 f4 f5 f6 f7 y0 y1 y2 yn;subst yn;simp only[pkA,seval];obtain⟨N,hN⟩:∃ N,N=(cY b 0).1.toNat:=⟨_,rfl⟩;obtain⟨n,hn⟩:∃ n,n=(cY b 0).1:=⟨_,rfl⟩;have vS:fi b=(let s:=tK (kb N (oN b));if s.e≠0 then([],s.e) else(s.out,0)):=by rw[hN];rfl
 have hb0:(oN b).b.length<=1000000000:=by show(cY b 0).2.1.length<=_;unfold cY;rw[if_neg (by decide),cG];omega
 have hNe:N<=65536∨(oN b).e≠0:=by
  by_cases h:65536<n
  .right
   show mh (decide ((cY b 0).1<0)||decide (65536<(cY b 0).1)) 6 (cY b 0).2.2≠0;rw[<- hn,dD h,jX];unfold mh;by_cases h0:(cY b 0).2.2=0<;>simp[h0]
  .left;omega
 rw[<- hn] at hN f7;rw[vS];have hs0:(oN b).out=[]:=rfl;generalize oN b=s0 at *;refine bz (λks:Nat×Rd=>hdS [(1,.bp 0 0),(4,.bp 1 0),(5,.bp 2 0),(6,nextW),(7,i64 n),(8,owF ks.2.out),(9,i64 ks.1)] [[bv ks.2.b],[i64 ks.2.e],[failW]]) (λks=>N - ks.1) (λks=>ks.1<=N/\kb (N - ks.1) ks.2=kb N s0/\ks.2.out.length=ks.1/\ks.2.b.length<=1000000000/\(N<=65536∨ks.2.e≠0)) (0,s0) ?_ ?_ ?_
 .exact⟨ar _,rfl,by simp[hs0],hb0,hNe⟩
 .exact cg rfl (ar _) (ab 3) (by simp[FL,aj,f1,f4,f5,f6,f7,hs0,owF]) ⟨y0,y1,y2,trivial⟩
 .rintro⟨k,s⟩ ⟨hk,bO,cm,Pv,hNs⟩ R bL bQ dq
  have Pv:s.b.length<=1000000000:=Pv;have cm:s.out.length=k:=cm;have hk:k<=N:=hk;have bO:kb (N - k) s=kb N s0:=bO;have hNs:N<=65536∨s.e≠0:=hNs;have afX:∀ (fr:Nat->V) (bx:Nat->List V),fr 1=.bp 0 0->fr 4=.bp 1 0->fr 5=.bp 2 0->fr 8=owF s.out->bx 0=[bv s.b]->bx 1=[i64 s.e]->bx 2=[failW]->kb N s0=s->R (.exit 0) ⟨fr,bx,3⟩:=by
   intro fr bx f1 f4 f5 f8 y0 y1 y2 hfs;rw[hfs] at bQ;refine bQ _ _ ?_;have lb:∀ K:V->Prop,fq Tryz.prog 27 (bv s.b) K=K (i64 s.b.length):=λK=>by rw[fD lE rfl];simp[bC]
   simp only[Ar,seval,cy,zr,zt,f1,f5,y0,y2,lb];refine sq (e:=s.e) (ab 3) y1 ?_;intro b4 o4 z1;have hE:(tK s).e=mh (decide (0<s.b.length)) 6 s.e:=rfl;have hd:decide ((0:Int)<(s.b.length:Int))=decide (0<s.b.length):=(by simp);rw[hd,<- hE] at z1;have m1:ck [i64 (tK s).e]=false:=rfl;simp only[Ar,seval,cy,f4,z1,m1];refine aD (λhe=>?_) (λhe=>?_)
   .have he:(tK s).e≠0:=by simpa using he
    simp only[Ar,seval,cy,f4,z1,m1];rw[if_pos he];exact jb rfl rfl
   .have he:(tK s).e=0:=by simpa using he
    simp only[pkA,seval,kG,f8];rw[if_neg (by rw[he];decide)];exact jb rfl rfl
  simp only[pkA,seval,aJ];refine fy (λh1=>?_) (λh1=>?_)
  .simp only[Ar,seval,cy]
   refine aD (λh2=>?_) (λh2=>?_)
   .have h1:k<N:=by simp at h1;omega
    have h2:s.e=0:=(by simpa using h2);simp only[pkA,seval,Dv];refine vz (b:=s.b) (e:=s.e) Pv (ab 3) rfl rfl rfl ?_;intro b1 o1 p0 p1 p2;simp only[pkA,seval,Dv];have l1:=zu s.b s.e;refine vz (b:=(cY s.b s.e).2.1) (e:=(cY s.b s.e).2.2) (by omega) (ab 3) p0 p1 p2 ?_;intro b2 o2 q0 q1 q2;simp only[pkA,seval,Dv];have l2:=zu (cY s.b s.e).2.1 (cY s.b s.e).2.2;refine vz (b:=(cY (cY s.b s.e).2.1 (cY s.b s.e).2.2).2.1) (e:=(cY (cY s.b s.e).2.1 (cY s.b s.e).2.2).2.2) (by omega) (ab 3) q0 q1 q2 ?_;intro b3 o3 t0 t1 t2;have l3:=zu (cY (cY s.b s.e).2.1 (cY s.b s.e).2.2).2.1 (cY (cY s.b s.e).2.1 (cY s.b s.e).2.2).2.2;obtain⟨g,hg⟩:∃ g:Fa,g=(mW s.b s.e).1:=⟨_,rfl⟩;have hgk:faC g=[cI (cY s.b s.e).1,cI (cY (cY s.b s.e).2.1 (cY s.b s.e).2.2).1,cI (cY (cY (cY s.b s.e).2.1 (cY s.b s.e).2.2).2.1 (cY (cY s.b s.e).2.1 (cY s.b s.e).2.2).2.2).1]:=(by rw[hg];rfl);have hsv:eQ [i64 0,i64 0,i64 0] 0 [i64 (cY s.b s.e).1,i64 (cY (cY s.b s.e).2.1 (cY s.b s.e).2.2).1,i64 (cY (cY (cY s.b s.e).2.1 (cY s.b s.e).2.2).2.1 (cY (cY s.b s.e).2.1 (cY s.b s.e).2.2).2.2).1]=(faC g).map .c:=(by rw[hgk];rfl);have t0:b3 0=[bv (mW s.b s.e).2.1]:=t0;have t1:b3 1=[i64 (mW s.b s.e).2.2]:=t1;have hl3:(mW s.b s.e).2.1.length<=1000000000:=(by show(cY _ _).2.1.length<=_;omega);simp only[Ar,seval,aJ,cy,zr,zt,t2,hsv];have r5:eQ [i64 0,i64 0,i64 0] 0 ((faC g).map .c)=(faC g).map .c:=rfl;have r6:∀ nb q (K:V->Prop),ldA nb q ((faC g).map .c) 0 3 K=(q<nb/\K (.agg (faC g))):=λnb q K=>by unfold ldA;exact propext ⟨λh=>⟨h.1,h.2.2⟩,λh=>⟨h.1,⟨rfl,rfl⟩,h.2⟩⟩
    have r7:ck ((faC g).map V.c)=false:=rfl;have r8:mb 3 [(0,V.agg (faC g))] [[C.lit (Value.int IntKind.i64 0),C.lit (Value.int IntKind.i64 0),C.lit (Value.int IntKind.i64 0)]]=some [faC g]:=rfl;have ark:N<=65536:=by rcases hNs with h | h;exact h;exact absurd h2 h
    refine FY (λs'=>(s'.fr 1=.bp 0 0/\s'.fr 4=.bp 1 0/\s'.fr 5=.bp 2 0/\s'.fr 6=nextW/\s'.fr 7=i64 n/\s'.fr 8=owF s.out/\s'.fr 9=i64 k/\s'.fr 10=.bp 3 0)/\s'.bx 0=[bv (qH s).b]/\s'.bx 1=[i64 (qH s).e]/\s'.bx 2=[failW]/\s'.bx 3=(faC g).map .c/\s'.nb=4) ?_ ?_
    rotate_left
    .intro K' hK'
     have hS:(qH s).e=mh (uQ s.out g) 6 (mW s.b s.e).2.2:=(by rw[hg];rfl);have hB:(qH s).b=(mW s.b s.e).2.1:=rfl;refine fy (λh=>?_) (λh=>?_)
     .have xw:0<k:=by simpa using h
      have DY:=br (n:=(k:Int) - 1) (k:=k - 1) (by omega) (by omega);have hko:k - 1<s.out.length:=(by omega);have ix:∀ {K:V->Prop},K (.c (.rp (faC s.out[k - 1]) 0))->dW Tryz.prog 28 (.c (.sl (s.out.map faC))) (i64 (k - 1:Nat)) K:=λ{K} hK=>
       dP dY rfl eK (by decide) (ay _) (c:=faC s.out[k - 1]) (by simp[hko]) rfl hK
      have bF:uQ s.out g=decide (0<=wU s.out[k - 1] g):=(by unfold uQ;have:s.out.getLast?=some s.out[k - 1]:=(by rw[List.getLast?_eq_getElem?,cm,ah hko]);rw[this]);simp only[pkA,seval,uD,DY];refine ix ?_;simp only[agG,seval,cy,r6,r7];refine aC rfl (sW s.out[k - 1] g) (λ_=>rfl) ?_;simp only[pkA,seval];refine sq (e:=(mW s.b s.e).2.2) (show 3<=4 by decide) (by simp[aj,t1]) ?_;intro bx2 IK z1;simp only[pkA];refine hK' _ ⟨⟨rfl,rfl,rfl,rfl,rfl,rfl,rfl,rfl⟩,?_,?_,?_,?_,rfl⟩
      .show bx2 0=_;rw[IK 0 (by decide),hB];simp[aj,t0]
      .show bx2 1=_;rw[z1,hS,bF]
      .show bx2 2=_;rw[IK 2 (by decide)];simp[aj,t2]
      .show bx2 3=_;rw[IK 3 (by decide)];simp[]
     .have h0:s.out=[]:=by have:k=0:=(by simpa using h);rw[this] at cm;exact List.length_eq_zero_iff.1 cm
      have bF:uQ s.out g=false:=(by rw[h0];rfl);simp only[pkA,seval];refine sq (e:=(mW s.b s.e).2.2) (show 3<=4 by decide) (by simp[aj,t1]) ?_;intro bx2 IK z1;simp only[pkA];refine hK' _ ⟨⟨rfl,rfl,rfl,rfl,rfl,rfl,rfl,rfl⟩,?_,?_,?_,?_,rfl⟩
      .show bx2 0=_;rw[IK 0 (by decide),hB];simp[aj,t0]
      .show bx2 1=_;rw[z1,hS,bF]
      .show bx2 2=_;rw[IK 2 (by decide)];simp[aj,t2]
      .show bx2 3=_;rw[IK 3 (by decide)];simp[]
    rintro⟨fr,bx,nb⟩ ⟨⟨f1,f4,f5,f6,f7,f8,f9,f10⟩,y0,y1,y2,y3,yn⟩;simp only at f1 f4 f5 f6 f7 f8 f9 f10 y0 y1 y2 y3 yn;subst yn;simp only[Ar,seval,cy,kG,f8,f10,y3,r6,r7,r8,dx];refine tJ (by omega) ?_;have MN:=br (n:=(k:Int)+1) (k:=k+1) (by omega) (by omega);have ek:((k+1:Nat):Int)=(k:Int)+1:=(by omega);simp only[pkA,seval,kG,MN,f9];have aoO:kb (N - (k+1)) (qH s)=kb N s0:=by
     rw[<- bO,show N - k=(N - (k+1))+1 by omega];show _=if s.e=0 then _ else _
     rw[if_pos h2]
    have aoP:(qH s).out=s.out++[g]:=(by rw[hg];rfl);refine bL (k+1,qH s) _ ⟨h1,aoO,by rw[aoP,ae,cm];rfl,hl3,.inl ark⟩ (by show N - (k+1)<N - k;omega) ?_;refine cg rfl (ar _) (show 3<=4 by decide) (by simp[FL,aj,f1,f4,f5,f6,f7,aoP,ek]) ⟨y0,y1,y2,trivial⟩
   .have h2:¬ s.e=0:=by simpa using h2
    have hfs:kb N s0=s:=by
     rw[<- bO];cases N - k with
     |zero=>rfl
     |succ m=>show(if s.e=0 then _ else _)=_;rw[if_neg h2]
    simp only[pkA];exact afX _ _ (by simp[aj]) (by simp[aj]) (by simp[aj]) (by simp[aj]) rfl rfl rfl hfs
  .have h1:N<=k:=by simp at h1;omega
   have hfs:kb N s0=s:=(by rw[<- bO,show N - k=0 by omega];rfl);simp only[pkA,seval];exact afX _ _ (by simp[aj]) (by simp[aj]) (by simp[aj]) (by simp[aj]) rfl rfl rfl hfs
open Go Go.Vl
abbrev StF (l:List Fa):Prop:=l.Pairwise λx y=>ltF x y=true
theorem OW (x:Fa):ltF x x=false:=by unfold ltF;simp
theorem FZ {x y:Fa} (h:ltF x y=true):ltF y x=false:=by unfold ltF at *;simp only[bI,dI] at *;omega
theorem zx {x y z:Fa} (h1:ltF x y=true) (h2:ltF y z=true):ltF x z=true:=by unfold ltF at *;simp only[bI] at *;omega
theorem OX {x y:Fa} (h1:ltF y x=false) (h2:x≠y):ltF x y=true:=by
 cases h:ltF x y
 .exact absurd (yo h h1) h2
 .rfl
theorem StF.nodup {l:List Fa} (h:StF l):l.Nodup:=h.imp λh e=>by subst e;rw[OW] at h;cases h
theorem ql {l m:List Fa} (hl:StF l) (hm:StF m) (h:∀ x,x∈l↔x∈m):l=m:=
 rq (lt:=ltF) ((gG hl.nodup hm.nodup).2 h) (λx _ y _ h1 h2=>yo h1 h2) (hl.imp FZ) (hm.imp FZ)
theorem Ij {l:List Fa}:∀ m,m<=l.length->∀ x,x∈cpk l m↔x∈l.take m
 |0,_,x=>by simp[cpk]
 |m+1,h,x=>by
  have ih:=Ij (l:=l) m (Nat.le_of_succ_le h) x;rw[aT (show m<l.length by omega),ba,aX,<- ih];by_cases h0:0<m
  .by_cases he:l[m]=l[m - 1]'(by omega)
   .rw[r0 (by omega) h0 he]
    constructor
    .exact .inl
    .rintro(h1 | h1)
     .exact h1
     .rw[ih,h1,he]
      exact fP.2 ⟨m - 1,by simp only[Nat.lt_min];omega,rfl⟩
   .rw[sX (by omega) λ_=>he,ba,aX]
  .rw[sX (by omega) λh=>absurd h h0,ba,aX]
theorem Dw {l:List Fa} (hs:l.Pairwise λx y=>ltF y x=false):∀ m,m<=l.length->StF (cpk l m)
 |0,_=>List.Pairwise.nil
 |m+1,h=>by
  have ih:=Dw hs m (by omega);by_cases h0:0<m
  .by_cases he:l[m]=l[m - 1]'(by omega)
   .rw[r0 (by omega) h0 he];exact ih
   .rw[sX (by omega) λ_=>he,StF,jY]
    refine⟨ih,List.pairwise_singleton _ _,λy hy x hx=>?_⟩;rw[aX] at hx;subst hx;rw[Ij m (by omega),fP] at hy;obtain⟨j,hj,rfl⟩:=hy;have hp:=hZ.1 hs;have h1:ltF l[m] (l[j]'(by omega))=false:=hp j m (by omega) (by omega) (by omega);refine OX h1 λe=>he ?_;have h2:ltF l[m] (l[m - 1]'(by omega))=false:=hp (m - 1) m (by omega) (by omega) (by omega);rcases bZ j (m - 1) with h3 | h3
    .have h4:ltF (l[m - 1]'(by omega)) (l[j]'(by omega))=false:=hp j (m - 1) (by omega) (by omega) h3
     rw[e] at h4;exact yo h2 h4
    .have:j=m - 1:=by omega
     subst this;exact e.symm
  .have:m=0:=by omega
   subst this;rw[sX (by omega) λh=>absurd h (Nat.lt_irrefl _)];simp[cpk]
theorem nz (l:List Fa):StF (eS l):=Dw (yp l) _ (ab _)
theorem mX {l:List Fa} {x:Fa}:x∈eS l↔x∈l:=by unfold eS jf;rw[Ij _ (ab _),bW];exact(wV l).mem_iff
theorem afr {l:List Fa} {f:Fa} {j:Nat} (h:j<wY l f) (hj:j<l.length):ltF l[j] f=true:=by unfold wY at h;have:=List.not_of_lt_findIdx h;simpa using this
theorem afs {l:List Fa} {f:Fa} (h:wY l f<l.length):ltF l[wY l f] f=false:=by have:=List.findIdx_getElem (xs:=l) (p:=λy=>!ltF y f) (w:=h);simp only[ew] at this;exact this
theorem uR {l:List Fa} {f x:Fa}:x∈o8 l f↔x∈l∨x=f:=by
 unfold o8;split
 .rename_i h
  exact⟨.inl,λh'=>by rcases h' with h' | rfl;exact h';exact aV h⟩
 .have e:l=l.take (wY l f)++l.drop (wY l f):=(dK _ _).symm
  rw[ba,aN]
  conv=>rhs;rw[e,ba]
  constructor
  .rintro(h | h | h)
   .exact .inl (.inl h)
   .exact .inr h
   .exact .inl (.inr h)
  .rintro((h | h) | h)
   .exact .inl h
   .exact .inr (.inr h)
   .exact .inr (.inl h)
theorem oO {l:List Fa} (hs:StF l) (f:Fa):StF (o8 l f):=by
 unfold o8;split
 .exact hs
 .rename_i gZ
  have kg:=@aeL l f;have hp:=hZ.1 hs;have ag2:∀ x∈l.drop (wY l f),ltF f x=true:=λx hx=>by
   obtain⟨j,hj,rfl⟩:=gR hx;rw[cG] at hj;rw[List.getElem_drop];have hi:wY l f<l.length:=(by omega);have h1:ltF f l[wY l f]=true:=OX (afs hi) λe=>gZ (by rw[ah hi,<- e]);rcases kO j with h0 | h0
   .subst h0;simpa using h1
   .exact zx h1 (hp _ _ hi (by omega) (by omega))
  rw[StF,jY];refine⟨hs.sublist (List.take_sublist ..),kR.2 ⟨ag2,hs.sublist (List.drop_sublist ..)⟩,λx hx y hy=>?_⟩;rw[fP] at hx;obtain⟨j,hj,rfl⟩:=hx;have h1:ltF (l[j]'(by omega)) f=true:=afr (by omega) (by omega);rcases aN.1 hy with rfl | hy
  .exact h1
  .exact zx h1 (ag2 y hy)
theorem F2 {l:List Fa}:∀ {m:List Fa},StF m->StF (l.foldl o8 m)/\∀ x,x∈l.foldl o8 m↔x∈l∨x∈m:=by
 induction l with
 |nil=>intro m h;exact⟨h,λx=>by simp⟩
 |cons y l ih=>
  intro m h;obtain⟨h1,h2⟩:=ih (oO h y);rw[di];refine⟨h1,λx=>?_⟩;rw[h2,uR,aN];constructor
  .rintro(h | h | h)
   .exact .inl (.inr h)
   .exact .inr h
   .exact .inl (.inl h)
  .rintro((h | h) | h)
   .exact .inr (.inr h)
   .exact .inl h
   .exact .inr (.inl h)
theorem Ly (l:List Fa):StF (zk l):=(F2 List.Pairwise.nil).1
theorem Z2 {l:List Fa} {x:Fa}:x∈zk l↔x∈l:=by unfold zk;rw[(F2 (m:=[]) List.Pairwise.nil).2];simp
theorem OY (l:List Fa):eS l=zk l:=ql (nz l) (Ly l) λx=>by rw[mX,Z2]
theorem ra {l:List Fa} (h:StF l):eS l=l:=ql (nz l) h λx=>mX
theorem Ik (p:Pol):∀ n,StF (nv p n)/\∀ x,x∈nv p n↔x∈yq p n
 |0=>⟨List.Pairwise.nil,λ_=>Iff.rfl⟩
 |n+1=>by
  obtain⟨h1,h2⟩:=Ik p n;simp only[nv,C7,yq,Uh];split
  .refine⟨oO (oO h1 _) _,λx=>?_⟩
   rw[uR,uR,h2,ba];simp only[aN,bf,cR];constructor
   .rintro((h | h) | h)
    .exact .inl h
    .exact .inr (.inl h)
    .exact .inr (.inr h)
   .rintro(h | h | h)
    .exact .inl (.inl h)
    .exact .inl (.inr h)
    .exact .inr h
  .exact⟨h1,λx=>by rw[h2];simp⟩
theorem Z3 (p:Pol):qG p=nv p p.types.length:=ql (nz _) (Ik p _).1 λx=>by unfold qG;rw[mX,(Ik p _).2]
def mo (f:Fa):List Int:=[f.kind,f.a,f.b]
def lZ (f:Fa):B:=((mo f).map Vl.encI).flatten
def jI (l:List Fa):B:=Vl.encI (eS l).length++((eS l).map lZ).flatten
def FaI (f:Fa):Prop:=I64 f.kind/\I64 f.a/\I64 f.b
theorem kp (n:Int):(Vl.encI n).length<=9:=by have:=uy (fV n);unfold Vl.encI;simp only[aB,au];omega
theorem Z4 (f:Fa):(lZ f).length<=27:=by have h1:=kp f.kind;have h2:=kp f.a;have h3:=kp f.b;simp only[lZ,mo,bB,jW,cE,List.flatten_nil,ae,aF];omega
theorem Il:∀ l:List Fa,(l.map lZ).flatten.length<=27*l.length
 |[]=>by simp
 |f::l=>by have h1:=Z4 f;have h2:=Il l;simp only[bB,cE,ae,aB];omega
theorem aft {f:Fa} (h:FaI f) {j:Nat} (hj:j<3):I64 ((mo f)[j]'hj):=by
 match j,hj with
 |0,_=>exact h.1
 |1,_=>exact h.2.1
 |2,_=>exact h.2.2
theorem apR {a b c:Int} {K:V->Prop}:iH Tryz.prog 65 [(0,i64 a),(1,i64 b),(2,i64 c)] K=K (.agg (faC ⟨a,b,c⟩)):=by simp only[iH,Qf,nH];rfl
theorem Uw (f:Fa):(mo f).length=3:=rfl
theorem ix3 {f:Fa} {j:Nat} (h:j<3) {K:V->Prop} (hK:K (i64 ((mo f)[j]'h))):mI Tryz.prog 65 (.agg (faC f)) (i64 j) K:=by
 simp only[mI,Qf,nH]
 match j,h with
 |0,_=>exact⟨⟨by decide,by decide⟩,hK⟩
 |1,_=>exact⟨⟨by decide,by decide⟩,hK⟩
 |2,_=>exact⟨⟨by decide,by decide⟩,hK⟩
theorem Dx (l:List Fa) (hl:l.length<=100000) (hI:∀ f∈l,FaI f):FnOK Tryz.prog G 19 [.c (fsC l)] (.c (.sl (bC (jI l)))):=by
 refine bJ (rs:=[.tmp 2]) false [29] mixed Tryz.func19 rfl rfl rfl rfl (by kernel_rfl) (by simp) rfl rfl ?_;simp only[pkA,seval,aJ];refine aC rfl (FD l (by omega)) (λh=>by cases h) ?_;have lf:∀ (m:List Fa) (K:V->Prop),fq Tryz.prog 28 (.c (fsC m)) K=K (i64 m.length):=λm K=>by unfold fsC;rw[fD dY rfl,au]
 have QV:=oL l;have hsI:∀ f∈eS l,FaI f:=λf hf=>hI f (mX.1 hf);have he:jI l=Vl.encI (eS l).length++((eS l).map lZ).flatten:=rfl;rw[he];generalize eS l=m at *;simp only[pkA,seval,lf];refine aC rfl (ZZ (m.length:Int) (QB (by omega))) (λh=>by cases h) ?_;simp only[pkA,seval,lf];refine bz (λi:Nat=>hdS [(3,.ow EB (bC (Vl.encI m.length++((m.take i).map lZ).flatten))),(13,.c (fsC m)),(14,i64 m.length),(15,i64 i)] []) (λi=>m.length - i) (λi=>i<=m.length) 0 (ar _) ?_ ?_
 .exact cg rfl (ar _) (ar _) (by simp[FL,aj]) trivial
 rintro i hi R bL bQ dq;simp only[pkA,seval];refine aD (λbF=>?_) (λfO=>?_)
 .have bF:i<m.length:=by simpa using bF
  have hw:=br (n:=(i:Int)+1) (k:=i+1) (by omega) (by omega);have ei:((i+1:Nat):Int)=(i:Int)+1:=by omega
  obtain⟨f,hf⟩:∃ f,f=m[i]:=⟨_,rfl⟩;have hfI:FaI f:=hsI f (by rw[hf];exact bT bF);have ix:∀ {K:V->Prop},K (.c (.rp (faC f) 0))->dW Tryz.prog 28 (.c (fsC m)) (i64 i) K:=λ{K} hK=>
   dP dY rfl eK (by decide) (ay _) (c:=faC f) (by simp[bF,hf]) rfl hK
  have r5:eQ [i64 0,i64 0,i64 0] 0 ((faC f).map .c)=(faC f).map .c:=rfl;have r7:ck ((faC f).map V.c)=false:=rfl;have g0:∀ nb q (K:V->Prop),ldB nb q ((faC f).map .c) 0 K=(q<nb/\K (i64 f.kind)):=λ_ _ _=>rfl;have g1:∀ nb q (K:V->Prop),ldB nb q ((faC f).map .c) 1 K=(q<nb/\K (i64 f.a)):=λ_ _ _=>rfl;have g2:∀ nb q (K:V->Prop),ldB nb q ((faC f).map .c) 2 K=(q<nb/\K (i64 f.b)):=λ_ _ _=>rfl;simp only[pkA,seval];refine ix ?_;simp only[agG,seval,aJ,cy,r5,r7,g0,g1,g2];rw[apR];simp only[pkA,seval];obtain⟨pre,xo⟩:∃ pre,pre=Vl.encI m.length++((m.take i).map lZ).flatten:=⟨_,rfl⟩;have Gk:pre.length<=9+27*i:=by have h1:=kp m.length;have h2:=Il (m.take i);rw[aQ] at h2;rw[xo,ae];omega
  rw[<- xo];refine bz (λj:Nat=>hdS [(3,.ow EB (bC (pre++(((mo f).take j).map Vl.encI).flatten))),(13,.c (fsC m)),(14,i64 m.length),(15,i64 i),(25,.agg (faC f)),(26,i64 j)] []) (λj=>3 - j) (λj=>j<=3) 0 (ar _) ?_ ?_
  .exact cg rfl (ar _) (ar _) (by simp[FL,aj]) trivial
  rintro j hj Rj alw alx arZ;simp only[pkA,seval];refine aD (λU0=>?_) (λhjg=>?_)
  .have U0:j<3:=by simp at U0;omega
   have hwj:=br (n:=(j:Int)+1) (k:=j+1) (by omega) (by omega);have ej:((j+1:Nat):Int)=(j:Int)+1:=(by omega);simp only[pkA,seval];refine ix3 U0 ?_;simp only[pkA,seval];refine aC rfl (ZZ _ (aft hfI U0)) (λh=>by cases h) ?_;simp only[pkA,seval,dx];have hq:(pre++(((mo f).take (j+1)).map Vl.encI).flatten)=(pre++(((mo f).take j).map Vl.encI).flatten)++Vl.encI (mo f)[j]:=(by rw[aT (show j<(mo f).length from U0),dh,dm];simp;rfl);refine afo ?_ ?_
   .have h1:=QC (f:=Vl.encI) ((mo f).take j) kp
    have h2:=kp (mo f)[j];rw[aQ] at h1;rw[ae];have:min j (mo f).length<=3:=(by rw[Uw];omega);omega
   rw[<- hq];simp only[pkA,seval,hwj];refine alw (j+1) _ U0 (by omega) (cg rfl (ar _) (ar _) (by simp[FL,aj,ej]) trivial)
  .have:j=3:=by simp at hjg;omega
   subst this;simp only[pkA];refine alx _ _ ?_;simp only[pkA,seval,hw];have hq:Vl.encI m.length++((m.take (i+1)).map lZ).flatten=pre++(((mo f).take 3).map Vl.encI).flatten:=(by rw[aT bF,dh,dm,<- hf,<- aH,<- xo];simp[lZ];rfl);refine bL (i+1) _ bF (by omega) (cg rfl (ar _) (ar _) (by have h9:=hq;simp only[List.map_take] at h9;simp[FL,aj,ei,h9]) trivial)
 .have:i=m.length:=by simp at fO;omega
  subst this;rw[bW];simp only[pkA];refine bQ _ _ ?_;simp only[pkA,seval]
