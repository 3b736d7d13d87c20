/- Layer 19: Facts. -/
import Derived.Test.YtloppcgcepgbnaaGreatDoorVlC1
import Derived.Test.YtloppcgcepgbnaaGreatDoorVlR5
import Derived.Test.YtloppcgcepgbnaaGreatDoorKwVlW2
set_option maxHeartbeats 4000000
set_option linter.all false
namespace Go.Proofs.YtloppcgcepgbnaaGreatDoor
open Go Go.Vl Go.Proofs.YtloppcgcepgbnaaGreatDoor.Kw
variable {G:Gl}
set_option maxRecDepth 100000
theorem va {P:Program} {G:Gl} {tr:List Nat} {ops:Array Oper} {o:Oper} {r:List Oper} {K:Vl.S->Prop} {d:Option Tmp} {v:V} {w:Bool} {s:Vl.S} (J:Vl.S->Prop) (h:∀ s',J s'->K s') (hb:∀ K':Vl.S->Prop,(∀ s',J s'->K' s')->vgd P G tr ops o r K' d v w s):vgd P G tr ops o r K d v w s:=hb K h
def failW:V:=.clo (.func 27) [] [.bp 1 0]
def nextW:V:=.clo (.func 28) [] [.bp 1 0,.bp 0 0,.bp 2 0]
theorem zo:failW.isMk=false:=rfl
theorem zp:failW.ldv=failW:=rfl
theorem Dx:nextW.fz=nextW:=rfl
theorem vb {b:B} {e:Int} {nb:Nat} {fr:Nat->V} {bx:Nat->List V} {K:Vl.S->V->Prop} (hb:b.length<=1000000000) (hn:3<=nb) (h0:bx 0=[bv b]) (h1:bx 1=[i64 e]) (h2:bx 2=[failW])
 (hK:∀ bx':Nat->List V,(∀ j,3<=j->bx' j=bx j)->bx' 0=[bv (cE b e).2.1]->bx' 1=[i64 (cE b e).2.2]->bx' 2=[failW]->K ⟨fr,bx',nb⟩ (i64 (cE b e).1)):vcallB Tryz.prog G ⟨fr,bx,nb⟩ nextW [] K:=by
 refine jN [1,0,2] rfl (adk b e hb) rfl rfl (by decide) rfl ⟨⟨show 1<nb by omega,by simp[rho,h1,V.ren]⟩,⟨show 0<nb by omega,by simp[rho,h0,V.ren]⟩,⟨show 2<nb by omega,by simp[rho,h2,V.ren,La,failW,V.renP]⟩,trivial⟩ ?_;intro bx' iE oa;refine hK bx' (λj hj=>iE j (by simp;omega)) ?_ ?_ ?_
 .have:=oa 1 0 _ rfl rfl
  simpa[V.ren] using this
 .have:=oa 0 1 _ rfl rfl
  simpa[V.ren] using this
 .have:=oa 2 2 _ rfl rfl
  simpa[V.ren,La,failW,V.renP,rho] using this
theorem rV {is:Bool} {f e:Int} {nb:Nat} {fr:Nat->V} {bx:Nat->List V} {K:Vl.S->V->Prop} (hn:3<=nb) (h1:bx 1=[i64 e])
 (hK:∀ bx':Nat->List V,(∀ j,j≠1->bx' j=bx j)->bx' 1=[i64 (jA is f e)]->K ⟨fr,bx',nb⟩ (.tup [])):vcallB Tryz.prog G ⟨fr,bx,nb⟩ failW [bo is,i64 f] K:=by
 refine jN [1] rfl (P8 is f e) rfl rfl (by decide) rfl ⟨⟨show 1<nb by omega,by simp[rho,h1,V.ren]⟩,trivial⟩ ?_;intro bx' iE oa;refine hK bx' (λj hj=>iE j (by simp[hj])) ?_;have:=oa 0 1 _ rfl rfl;simpa[V.ren] using this
theorem zq (b:B) (e:Int):(cE b e).2.1.length<=b.length:=by
 unfold cE;split
 .exact ab _
 .rw[cw];omega
structure Rd where
 b:B
 e:Int
 out:List Fa
def kD (b:B) (e:Int):Fa×B×Int:=
 let x:=cE b e
 let y:=cE x.2.1 x.2.2
 let z:=cE y.2.1 y.2.2
 (⟨x.1,y.1,z.1⟩,z.2.1,z.2.2)
def oG (out:List Fa) (f:Fa):Bool:=match out.getLast? with
 |some g=>decide (vC g f≥0)
 |none=>false
def nw (s:Rd):Rd:=⟨(kD s.b s.e).2.1,jA (oG s.out (kD s.b s.e).1) 6 (kD s.b s.e).2.2,s.out++[(kD s.b s.e).1]⟩
def gi:Nat->Rd->Rd
 |0,s=>s
 |n+1,s=>if s.e=0 then gi n (nw s) else s
def kV (b:B):Rd:=⟨(cE b 0).2.1,jA (decide ((cE b 0).1<0)||decide (65536<(cE b 0).1)) 6 (cE b 0).2.2,[]⟩
def oH (s:Rd):Rd:=⟨s.b,jA (decide (0<s.b.length)) 6 s.e,s.out⟩
def dX (b:B):List Fa×Int:=
 let s:=oH (gi (cE b 0).1.toNat (kV b))
 if s.e≠0 then([],s.e) else(s.out,0)
def Am:=jj @pkA @ptA
def aeD:=jj @pkA (jj @ptA @pkF)
theorem vd (b:B) (hb:b.length<=1000000000):FnOK Tryz.prog G 10 [bv b] (.tup [.c (fsC (dX b).1),i64 (dX b).2]):=by
 refine bI (rs:=[.tmp 2,.tmp 3]) false [53,65,1000014,1000022,1000033,1000035,1000037,1000052,1000061] mixed Tryz.func10 rfl rfl rfl rfl (by kernel_rfl) (by simp) rfl rfl ?_;simp only[Am,seval,aF,bW];refine vb hb (ab 3) rfl rfl rfl ?_;intro bx1 ho1 x0 x1 x2;simp only[Am,seval,bW,zo,zp,x2];refine va (λs'=>(s'.fr 1=.bp 0 0/\s'.fr 4=.bp 1 0/\s'.fr 5=.bp 2 0/\s'.fr 6=nextW/\s'.fr 7=i64 (cE b 0).1)/\s'.bx 0=[bv (kV b).b]/\s'.bx 1=[i64 (kV b).e]/\s'.bx 2=[failW]/\s'.nb=3) ?_ ?_
 rotate_left
 .intro K' OT
  refine eT (λh=>?_) (λh=>?_)
  .simp only[pkA,seval]
   refine rV (e:=(cE b 0).2.2) (ab 3) x1 ?_;intro bx2 UG z1;simp only[pkA];refine OT _ ⟨⟨rfl,rfl,rfl,rfl,rfl⟩,?_,?_,?_,rfl⟩
   .show bx2 0=_;rw[UG 0 (by decide),x0];rfl
   .show bx2 1=_;rw[z1];unfold kV;rw[h];rfl
   .show bx2 2=_;rw[UG 2 (by decide),x2]
  .simp only[pkA,seval]
   refine rV (e:=(cE b 0).2.2) (ab 3) x1 ?_;intro bx2 UG z1;simp only[pkA];refine OT _ ⟨⟨rfl,rfl,rfl,rfl,rfl⟩,?_,?_,?_,rfl⟩
   .show bx2 0=_;rw[UG 0 (by decide),x0];rfl
   .show bx2 1=_;rw[z1];unfold kV;rw[h];rfl
   .show bx2 2=_;rw[UG 2 (by decide),x2]
 rintro⟨fr,bx,nb⟩ ⟨⟨f1,f4,f5,f6,f7⟩,y0,y1,y2,yn⟩;simp only at f1 f4 f5 f6 f7 y0 y1 y2 yn;subst yn;simp only[pkA,seval];obtain⟨N,hN⟩:∃ N,N=(cE b 0).1.toNat:=⟨_,rfl⟩;obtain⟨n,hn⟩:∃ n,n=(cE b 0).1:=⟨_,rfl⟩;have qz:dX b=(let s:=oH (gi N (kV b));if s.e≠0 then([],s.e) else(s.out,0)):=by rw[hN];rfl
 have hb0:(kV b).b.length<=1000000000:=by show(cE b 0).2.1.length<=_;unfold cE;rw[if_neg (by decide),cw];omega
 have hNe:N<=65536∨(kV b).e≠0:=by
  by_cases h:65536<n
  .right
   show jA (decide ((cE b 0).1<0)||decide (65536<(cE b 0).1)) 6 (cE b 0).2.2≠0;rw[<- hn,dn h,jX];unfold jA;by_cases h0:(cE b 0).2.2=0<;>simp[h0]
  .left;omega
 rw[<- hn] at hN f7;rw[qz];have hs0:(kV b).out=[]:=rfl;generalize kV b=s0 at *;refine bw (λks:Nat×Rd=>hdS [(1,.bp 0 0),(4,.bp 1 0),(5,.bp 2 0),(6,nextW),(7,i64 n),(8,owF ks.2.out),(9,i64 ks.1)] [[bv ks.2.b],[i64 ks.2.e],[failW]]) (λks=>N - ks.1) (λks=>ks.1<=N/\gi (N - ks.1) ks.2=gi N s0/\ks.2.out.length=ks.1/\ks.2.b.length<=1000000000/\(N<=65536∨ks.2.e≠0)) (0,s0) ?_ ?_ ?_
 .exact⟨ar _,rfl,by simp[hs0],hb0,hNe⟩
 .exact cm rfl (ar _) (ab 3) (by simp[FL,ah,f1,f4,f5,f6,f7,hs0,owF]) ⟨y0,y1,y2,trivial⟩
 .rintro⟨k,s⟩ ⟨hk,bM,cj,OP,hNs⟩ R bL bO c8
  have OP:s.b.length<=1000000000:=OP;have cj:s.out.length=k:=cj;have hk:k<=N:=hk;have bM:gi (N - k) s=gi N s0:=bM;have hNs:N<=65536∨s.e≠0:=hNs;have adU:∀ (fr:Nat->V) (bx:Nat->List V),fr 1=.bp 0 0->fr 4=.bp 1 0->fr 5=.bp 2 0->fr 8=owF s.out->bx 0=[bv s.b]->bx 1=[i64 s.e]->bx 2=[failW]->gi N s0=s->R (.exit 0) ⟨fr,bx,3⟩:=by
   intro fr bx f1 f4 f5 f8 y0 y1 y2 hfs;rw[hfs] at bO;refine bO _ _ ?_;have lb:∀ K:V->Prop,iR Tryz.prog 27 (bv s.b) K=K (i64 s.b.length):=λK=>by rw[fN kU rfl];simp[bC]
   simp only[Am,seval,bW,zo,zp,f1,f5,y0,y2,lb];refine rV (e:=s.e) (ab 3) y1 ?_;intro b4 o4 z1;have hE:(oH s).e=jA (decide (0<s.b.length)) 6 s.e:=rfl;have hd:decide ((0:Int)<(s.b.length:Int))=decide (0<s.b.length):=(by simp);rw[hd,<- hE] at z1;have m1:cL [i64 (oH s).e]=false:=rfl;simp only[Am,seval,bW,f4,z1,m1];refine aD (λhe=>?_) (λhe=>?_)
   .have he:(oH s).e≠0:=by simpa using he
    simp only[Am,seval,bW,f4,z1,m1];rw[if_pos he];exact fi rfl rfl
   .have he:(oH s).e=0:=by simpa using he
    simp only[pkA,seval,ka,f8];rw[if_neg (by rw[he];decide)];exact fi rfl rfl
  simp only[pkA,seval,aF];refine eT (λh1=>?_) (λh1=>?_)
  .simp only[Am,seval,bW]
   refine aD (λh2=>?_) (λh2=>?_)
   .have h1:k<N:=by simp at h1;omega
    have h2:s.e=0:=(by simpa using h2);simp only[pkA,seval,Dx];refine vb (b:=s.b) (e:=s.e) OP (ab 3) rfl rfl rfl ?_;intro b1 o1 p0 p1 p2;simp only[pkA,seval,Dx];have l1:=zq s.b s.e;refine vb (b:=(cE s.b s.e).2.1) (e:=(cE s.b s.e).2.2) (by omega) (ab 3) p0 p1 p2 ?_;intro b2 o2 q0 q1 q2;simp only[pkA,seval,Dx];have l2:=zq (cE s.b s.e).2.1 (cE s.b s.e).2.2;refine vb (b:=(cE (cE s.b s.e).2.1 (cE s.b s.e).2.2).2.1) (e:=(cE (cE s.b s.e).2.1 (cE s.b s.e).2.2).2.2) (by omega) (ab 3) q0 q1 q2 ?_;intro b3 o3 t0 t1 t2;have l3:=zq (cE (cE s.b s.e).2.1 (cE s.b s.e).2.2).2.1 (cE (cE s.b s.e).2.1 (cE s.b s.e).2.2).2.2;obtain⟨g,hg⟩:∃ g:Fa,g=(kD s.b s.e).1:=⟨_,rfl⟩;have hgk:faC g=[cI (cE s.b s.e).1,cI (cE (cE s.b s.e).2.1 (cE s.b s.e).2.2).1,cI (cE (cE (cE s.b s.e).2.1 (cE s.b s.e).2.2).2.1 (cE (cE s.b s.e).2.1 (cE s.b s.e).2.2).2.2).1]:=(by rw[hg];rfl);have hsv:eP [i64 0,i64 0,i64 0] 0 [i64 (cE s.b s.e).1,i64 (cE (cE s.b s.e).2.1 (cE s.b s.e).2.2).1,i64 (cE (cE (cE s.b s.e).2.1 (cE s.b s.e).2.2).2.1 (cE (cE s.b s.e).2.1 (cE s.b s.e).2.2).2.2).1]=(faC g).map .c:=(by rw[hgk];rfl);have t0:b3 0=[bv (kD s.b s.e).2.1]:=t0;have t1:b3 1=[i64 (kD s.b s.e).2.2]:=t1;have hl3:(kD s.b s.e).2.1.length<=1000000000:=(by show(cE _ _).2.1.length<=_;omega);simp only[Am,seval,aF,bW,zo,zp,t2,hsv];have r5:eP [i64 0,i64 0,i64 0] 0 ((faC g).map .c)=(faC g).map .c:=rfl;have r6:∀ nb q (K:V->Prop),ldA nb q ((faC g).map .c) 0 3 K=(q<nb/\K (.agg (faC g))):=λnb q K=>by unfold ldA;exact propext ⟨λh=>⟨h.1,h.2.2⟩,λh=>⟨h.1,⟨rfl,rfl⟩,h.2⟩⟩
    have r7:cL ((faC g).map V.c)=false:=rfl;have r8:ml 3 [(0,V.agg (faC g))] [[C.lit (Value.int IntKind.i64 0),C.lit (Value.int IntKind.i64 0),C.lit (Value.int IntKind.i64 0)]]=some [faC g]:=rfl;have aof:N<=65536:=by rcases hNs with h | h;exact h;exact absurd h2 h
    refine va (λs'=>(s'.fr 1=.bp 0 0/\s'.fr 4=.bp 1 0/\s'.fr 5=.bp 2 0/\s'.fr 6=nextW/\s'.fr 7=i64 n/\s'.fr 8=owF s.out/\s'.fr 9=i64 k/\s'.fr 10=.bp 3 0)/\s'.bx 0=[bv (nw s).b]/\s'.bx 1=[i64 (nw s).e]/\s'.bx 2=[failW]/\s'.bx 3=(faC g).map .c/\s'.nb=4) ?_ ?_
    rotate_left
    .intro K' OT
     have hS:(nw s).e=jA (oG s.out g) 6 (kD s.b s.e).2.2:=(by rw[hg];rfl);have hB:(nw s).b=(kD s.b s.e).2.1:=rfl;refine eT (λh=>?_) (λh=>?_)
     .have xd:0<k:=by simpa using h
      have AU:=bn (n:=(k:Int) - 1) (k:=k - 1) (by omega) (by omega);have hko:k - 1<s.out.length:=(by omega);have ix:∀ {K:V->Prop},K (.c (.rp (faC s.out[k - 1]) 0))->dF Tryz.prog 28 (.c (.sl (s.out.map faC))) (i64 (k - 1:Nat)) K:=λ{K} hK=>
       dQ eC rfl eS (by decide) (ay _) (c:=faC s.out[k - 1]) (by simp[hko]) rfl hK
      have bE:oG s.out g=decide (0<=vC s.out[k - 1] g):=(by unfold oG;have:s.out.getLast?=some s.out[k - 1]:=(by rw[List.getLast?_eq_getElem?,cj,ai hko]);rw[this]);simp only[pkA,seval,rf,AU];refine ix ?_;simp only[aeD,seval,bW,r6,r7];refine az rfl (sA s.out[k - 1] g) (λ_=>rfl) ?_;simp only[pkA,seval];refine rV (e:=(kD s.b s.e).2.2) (show 3<=4 by decide) (by simp[ah,t1]) ?_;intro bx2 UG z1;simp only[pkA];refine OT _ ⟨⟨rfl,rfl,rfl,rfl,rfl,rfl,rfl,rfl⟩,?_,?_,?_,?_,rfl⟩
      .show bx2 0=_;rw[UG 0 (by decide),hB];simp[ah,t0]
      .show bx2 1=_;rw[z1,hS,bE]
      .show bx2 2=_;rw[UG 2 (by decide)];simp[ah,t2]
      .show bx2 3=_;rw[UG 3 (by decide)];simp[]
     .have h0:s.out=[]:=by have:k=0:=(by simpa using h);rw[this] at cj;exact List.length_eq_zero_iff.1 cj
      have bE:oG s.out g=false:=(by rw[h0];rfl);simp only[pkA,seval];refine rV (e:=(kD s.b s.e).2.2) (show 3<=4 by decide) (by simp[ah,t1]) ?_;intro bx2 UG z1;simp only[pkA];refine OT _ ⟨⟨rfl,rfl,rfl,rfl,rfl,rfl,rfl,rfl⟩,?_,?_,?_,?_,rfl⟩
      .show bx2 0=_;rw[UG 0 (by decide),hB];simp[ah,t0]
      .show bx2 1=_;rw[z1,hS,bE]
      .show bx2 2=_;rw[UG 2 (by decide)];simp[ah,t2]
      .show bx2 3=_;rw[UG 3 (by decide)];simp[]
    rintro⟨fr,bx,nb⟩ ⟨⟨f1,f4,f5,f6,f7,f8,f9,f10⟩,y0,y1,y2,y3,yn⟩;simp only at f1 f4 f5 f6 f7 f8 f9 f10 y0 y1 y2 y3 yn;subst yn;simp only[Am,seval,bW,ka,f8,f10,y3,r6,r7,r8,dm];refine rM (by omega) ?_;have Iy:=bn (n:=(k:Int)+1) (k:=k+1) (by omega) (by omega);have ek:((k+1:Nat):Int)=(k:Int)+1:=(by omega);simp only[pkA,seval,ka,Iy,f9];have QF:gi (N - (k+1)) (nw s)=gi N s0:=by
     rw[<- bM,show N - k=(N - (k+1))+1 by omega];show _=if s.e=0 then _ else _
     rw[if_pos h2]
    have al3:(nw s).out=s.out++[g]:=(by rw[hg];rfl);refine bL (k+1,nw s) _ ⟨h1,QF,by rw[al3,ae,cj];rfl,hl3,.inl aof⟩ (by show N - (k+1)<N - k;omega) ?_;refine cm rfl (ar _) (show 3<=4 by decide) (by simp[FL,ah,f1,f4,f5,f6,f7,al3,ek]) ⟨y0,y1,y2,trivial⟩
   .have h2:¬ s.e=0:=by simpa using h2
    have hfs:gi N s0=s:=by
     rw[<- bM];cases N - k with
     |zero=>rfl
     |succ m=>show(if s.e=0 then _ else _)=_;rw[if_neg h2]
    simp only[pkA];exact adU _ _ (by simp[ah]) (by simp[ah]) (by simp[ah]) (by simp[ah]) rfl rfl rfl hfs
  .have h1:N<=k:=by simp at h1;omega
   have hfs:gi N s0=s:=(by rw[<- bM,show N - k=0 by omega];rfl);simp only[pkA,seval];exact adU _ _ (by simp[ah]) (by simp[ah]) (by simp[ah]) (by simp[ah]) rfl rfl rfl hfs
open Go Go.Vl
abbrev StF (l:List Fa):Prop:=l.Pairwise λx y=>ltF x y=true
theorem Oo (x:Fa):ltF x x=false:=by unfold ltF;simp
theorem FR {x y:Fa} (h:ltF x y=true):ltF y x=false:=by unfold ltF at *;simp only[bF,dq] at *;omega
theorem zr {x y z:Fa} (h1:ltF x y=true) (h2:ltF y z=true):ltF x z=true:=by unfold ltF at *;simp only[bF] at *;omega
theorem Oq {x y:Fa} (h1:ltF y x=false) (h2:x≠y):ltF x y=true:=by
 cases h:ltF x y
 .exact absurd (yd h h1) h2
 .rfl
theorem StF.nodup {l:List Fa} (h:StF l):l.Nodup:=h.imp λh e=>by subst e;rw[Oo] at h;cases h
theorem sF {l m:List Fa} (hl:StF l) (hm:StF m) (h:∀ x,x∈l↔x∈m):l=m:=
 re (lt:=ltF) ((gJ hl.nodup hm.nodup).2 h) (λx _ y _ h1 h2=>yd h1 h2) (hl.imp FR) (hm.imp FR)
theorem H6 {l:List Fa}:∀ m,m<=l.length->∀ x,x∈cpk l m↔x∈l.take m
 |0,_,x=>by simp[cpk]
 |m+1,h,x=>by
  have ih:=H6 (l:=l) m (Nat.le_of_succ_le h) x;rw[aU (show m<l.length by omega),ba,aX,<- ih];by_cases h0:0<m
  .by_cases he:l[m]=l[m - 1]'(by omega)
   .rw[rL (by omega) h0 he]
    constructor
    .exact .inl
    .rintro(h1 | h1)
     .exact h1
     .rw[ih,h1,he]
      exact fk.2 ⟨m - 1,by simp only[Nat.lt_min];omega,rfl⟩
   .rw[sB (by omega) λ_=>he,ba,aX]
  .rw[sB (by omega) λh=>absurd h h0,ba,aX]
theorem Dy {l:List Fa} (hs:l.Pairwise λx y=>ltF y x=false):∀ m,m<=l.length->StF (cpk l m)
 |0,_=>List.Pairwise.nil
 |m+1,h=>by
  have ih:=Dy hs m (by omega);by_cases h0:0<m
  .by_cases he:l[m]=l[m - 1]'(by omega)
   .rw[rL (by omega) h0 he];exact ih
   .rw[sB (by omega) λ_=>he,StF,j0]
    refine⟨ih,List.pairwise_singleton _ _,λy hy x hx=>?_⟩;rw[aX] at hx;subst hx;rw[H6 m (by omega),fk] at hy;obtain⟨j,hj,rfl⟩:=hy;have hp:=hJ.1 hs;have h1:ltF l[m] (l[j]'(by omega))=false:=hp j m (by omega) (by omega) (by omega);refine Oq h1 λe=>he ?_;have h2:ltF l[m] (l[m - 1]'(by omega))=false:=hp (m - 1) m (by omega) (by omega) (by omega);rcases bX j (m - 1) with h3 | h3
    .have h4:ltF (l[m - 1]'(by omega)) (l[j]'(by omega))=false:=hp j (m - 1) (by omega) (by omega) h3
     rw[e] at h4;exact yd h2 h4
    .have:j=m - 1:=by omega
     subst this;exact e.symm
  .have:m=0:=by omega
   subst this;rw[sB (by omega) λh=>absurd h (Nat.lt_irrefl _)];simp[cpk]
theorem ny (l:List Fa):StF (eV l):=Dy (ye l) _ (ab _)
theorem mY {l:List Fa} {x:Fa}:x∈eV l↔x∈l:=by unfold eV jd;rw[H6 _ (ab _),bZ];exact(wL l).mem_iff
theorem adl {l:List Fa} {f:Fa} {j:Nat} (h:j<wP l f) (hj:j<l.length):ltF l[j] f=true:=by unfold wP at h;have:=List.not_of_lt_findIdx h;simpa using this
theorem adm {l:List Fa} {f:Fa} (h:wP l f<l.length):ltF l[wP l f] f=false:=by have:=List.findIdx_getElem (xs:=l) (p:=λy=>!ltF y f) (w:=h);simp only[ew] at this;exact this
theorem Dz {l:List Fa} {f x:Fa}:x∈qx l f↔x∈l∨x=f:=by
 unfold qx;split
 .rename_i h
  exact⟨.inl,λh'=>by rcases h' with h' | rfl;exact h';exact aS h⟩
 .have e:l=l.take (wP l f)++l.drop (wP l f):=(du _ _).symm
  rw[ba,aP]
  conv=>rhs;rw[e,ba]
  constructor
  .rintro(h | h | h)
   .exact .inl (.inl h)
   .exact .inr h
   .exact .inl (.inr h)
  .rintro((h | h) | h)
   .exact .inl h
   .exact .inr (.inr h)
   .exact .inr (.inl h)
theorem ux {l:List Fa} (hs:StF l) (f:Fa):StF (qx l f):=by
 unfold qx;split
 .exact hs
 .rename_i gY
  have ko:=@acH l f;have hp:=hJ.1 hs;have ae1:∀ x∈l.drop (wP l f),ltF f x=true:=λx hx=>by
   obtain⟨j,hj,rfl⟩:=gQ hx;rw[cw] at hj;rw[List.getElem_drop];have hi:wP l f<l.length:=(by omega);have h1:ltF f l[wP l f]=true:=Oq (adm hi) λe=>gY (by rw[ai hi,<- e]);rcases kN j with h0 | h0
   .subst h0;simpa using h1
   .exact zr h1 (hp _ _ hi (by omega) (by omega))
  rw[StF,j0];refine⟨hs.sublist (List.take_sublist ..),kR.2 ⟨ae1,hs.sublist (List.drop_sublist ..)⟩,λx hx y hy=>?_⟩;rw[fk] at hx;obtain⟨j,hj,rfl⟩:=hx;have h1:ltF (l[j]'(by omega)) f=true:=adl (by omega) (by omega);rcases aP.1 hy with rfl | hy
  .exact h1
  .exact zr h1 (ae1 y hy)
theorem FT {l:List Fa}:∀ {m:List Fa},StF m->StF (l.foldl qx m)/\∀ x,x∈l.foldl qx m↔x∈l∨x∈m:=by
 induction l with
 |nil=>intro m h;exact⟨h,λx=>by simp⟩
 |cons y l ih=>
  intro m h;obtain⟨h1,h2⟩:=ih (ux h y);rw[dT];refine⟨h1,λx=>?_⟩;rw[h2,Dz,aP];constructor
  .rintro(h | h | h)
   .exact .inl (.inr h)
   .exact .inr h
   .exact .inl (.inl h)
  .rintro((h | h) | h)
   .exact .inr (.inr h)
   .exact .inl h
   .exact .inr (.inl h)
theorem Ld (l:List Fa):StF (zg l):=(FT List.Pairwise.nil).1
theorem YP {l:List Fa} {x:Fa}:x∈zg l↔x∈l:=by unfold zg;rw[(FT (m:=[]) List.Pairwise.nil).2];simp
theorem Ot (l:List Fa):eV l=zg l:=sF (ny l) (Ld l) λx=>by rw[mY,YP]
theorem qQ {l:List Fa} (h:StF l):eV l=l:=sF (ny l) h λx=>mY
theorem H7 (p:Pol):∀ n,StF (nr p n)/\∀ x,x∈nr p n↔x∈yf p n
 |0=>⟨List.Pairwise.nil,λ_=>Iff.rfl⟩
 |n+1=>by
  obtain⟨h1,h2⟩:=H7 p n;simp only[nr,C6,yf,Tn];split
  .refine⟨ux (ux h1 _) _,λx=>?_⟩
   rw[Dz,Dz,h2,ba];simp only[aP,aZ,cR];constructor
   .rintro((h | h) | h)
    .exact .inl h
    .exact .inr (.inl h)
    .exact .inr (.inr h)
   .rintro(h | h | h)
    .exact .inl (.inl h)
    .exact .inl (.inr h)
    .exact .inr h
  .exact⟨h1,λx=>by rw[h2];simp⟩
theorem YQ (p:Pol):rh p=nr p p.types.length:=sF (ny _) (H7 p _).1 λx=>by unfold rh;rw[mY,(H7 p _).2]
def mi (f:Fa):List Int:=[f.kind,f.a,f.b]
def lW (f:Fa):B:=((mi f).map Vl.encI).flatten
def jJ (l:List Fa):B:=Vl.encI (eV l).length++((eV l).map lW).flatten
def FaI (f:Fa):Prop:=I64 f.kind/\I64 f.a/\I64 f.b
theorem kr (n:Int):(Vl.encI n).length<=9:=by have:=uf (fK n);unfold Vl.encI;simp only[aC,au];omega
theorem YR (f:Fa):(lW f).length<=27:=by have h1:=kr f.kind;have h2:=kr f.a;have h3:=kr f.b;simp only[lW,mi,bA,jY,cF,List.flatten_nil,ae,aG];omega
theorem H8:∀ l:List Fa,(l.map lW).flatten.length<=27*l.length
 |[]=>by simp
 |f::l=>by have h1:=YR f;have h2:=H8 l;simp only[bA,cF,ae,aC];omega
theorem adn {f:Fa} (h:FaI f) {j:Nat} (hj:j<3):I64 ((mi f)[j]'hj):=by
 match j,hj with
 |0,_=>exact h.1
 |1,_=>exact h.2.1
 |2,_=>exact h.2.2
theorem amR {a b c:Int} {K:V->Prop}:jt Tryz.prog 65 [(0,i64 a),(1,i64 b),(2,i64 c)] K=K (.agg (faC ⟨a,b,c⟩)):=by simp only[jt,Ag,mo];rfl
theorem TL (f:Fa):(mi f).length=3:=rfl
theorem ix3 {f:Fa} {j:Nat} (h:j<3) {K:V->Prop} (hK:K (i64 ((mi f)[j]'h))):mI Tryz.prog 65 (.agg (faC f)) (i64 j) K:=by
 simp only[mI,Ag,mo]
 match j,h with
 |0,_=>exact⟨⟨by decide,by decide⟩,hK⟩
 |1,_=>exact⟨⟨by decide,by decide⟩,hK⟩
 |2,_=>exact⟨⟨by decide,by decide⟩,hK⟩
theorem wW (l:List Fa) (hl:l.length<=100000) (hI:∀ f∈l,FaI f):FnOK Tryz.prog G 19 [.c (fsC l)] (.c (.sl (bC (jJ l)))):=by
 refine bI (rs:=[.tmp 2]) false [29] mixed Tryz.func19 rfl rfl rfl rfl (by kernel_rfl) (by simp) rfl rfl ?_;simp only[pkA,seval,aF];refine az rfl (Fv l (by omega)) (λh=>by cases h) ?_;have lf:∀ (m:List Fa) (K:V->Prop),iR Tryz.prog 28 (.c (fsC m)) K=K (i64 m.length):=λm K=>by unfold fsC;rw[fN eC rfl,au]
 have Qn:=oC l;have hsI:∀ f∈eV l,FaI f:=λf hf=>hI f (mY.1 hf);have he:jJ l=Vl.encI (eV l).length++((eV l).map lW).flatten:=rfl;rw[he];generalize eV l=m at *;simp only[pkA,seval,lf];refine az rfl (YO (m.length:Int) (P6 (by omega))) (λh=>by cases h) ?_;simp only[pkA,seval,lf];refine bw (λi:Nat=>hdS [(3,.ow EB (bC (Vl.encI m.length++((m.take i).map lW).flatten))),(13,.c (fsC m)),(14,i64 m.length),(15,i64 i)] []) (λi=>m.length - i) (λi=>i<=m.length) 0 (ar _) ?_ ?_
 .exact cm rfl (ar _) (ar _) (by simp[FL,ah]) trivial
 rintro i hi R bL bO c8;simp only[pkA,seval];refine aD (λbE=>?_) (λfH=>?_)
 .have bE:i<m.length:=by simpa using bE
  have hw:=bn (n:=(i:Int)+1) (k:=i+1) (by omega) (by omega);have ei:((i+1:Nat):Int)=(i:Int)+1:=by omega
  obtain⟨f,hf⟩:∃ f,f=m[i]:=⟨_,rfl⟩;have hfI:FaI f:=hsI f (by rw[hf];exact bR bE);have ix:∀ {K:V->Prop},K (.c (.rp (faC f) 0))->dF Tryz.prog 28 (.c (fsC m)) (i64 i) K:=λ{K} hK=>
   dQ eC rfl eS (by decide) (ay _) (c:=faC f) (by simp[bE,hf]) rfl hK
  have r5:eP [i64 0,i64 0,i64 0] 0 ((faC f).map .c)=(faC f).map .c:=rfl;have r7:cL ((faC f).map V.c)=false:=rfl;have g0:∀ nb q (K:V->Prop),ldB nb q ((faC f).map .c) 0 K=(q<nb/\K (i64 f.kind)):=λ_ _ _=>rfl;have g1:∀ nb q (K:V->Prop),ldB nb q ((faC f).map .c) 1 K=(q<nb/\K (i64 f.a)):=λ_ _ _=>rfl;have g2:∀ nb q (K:V->Prop),ldB nb q ((faC f).map .c) 2 K=(q<nb/\K (i64 f.b)):=λ_ _ _=>rfl;simp only[pkA,seval];refine ix ?_;simp only[aeD,seval,aF,bW,r5,r7,g0,g1,g2];rw[amR];simp only[pkA,seval];obtain⟨pre,xb⟩:∃ pre,pre=Vl.encI m.length++((m.take i).map lW).flatten:=⟨_,rfl⟩;have LJ:pre.length<=9+27*i:=by have h1:=kr m.length;have h2:=H8 (m.take i);rw[aN] at h2;rw[xb,ae];omega
  rw[<- xb];refine bw (λj:Nat=>hdS [(3,.ow EB (bC (pre++(((mi f).take j).map Vl.encI).flatten))),(13,.c (fsC m)),(14,i64 m.length),(15,i64 i),(25,.agg (faC f)),(26,i64 j)] []) (λj=>3 - j) (λj=>j<=3) 0 (ar _) ?_ ?_
  .exact cm rfl (ar _) (ar _) (by simp[FL,ah]) trivial
  rintro j hj Rj O0 O1 ae2;simp only[pkA,seval];refine aD (λF7=>?_) (λhjg=>?_)
  .have F7:j<3:=by simp at F7;omega
   have hwj:=bn (n:=(j:Int)+1) (k:=j+1) (by omega) (by omega);have ej:((j+1:Nat):Int)=(j:Int)+1:=(by omega);simp only[pkA,seval];refine ix3 F7 ?_;simp only[pkA,seval];refine az rfl (YO _ (adn hfI F7)) (λh=>by cases h) ?_;simp only[pkA,seval,dm];have hq:(pre++(((mi f).take (j+1)).map Vl.encI).flatten)=(pre++(((mi f).take j).map Vl.encI).flatten)++Vl.encI (mi f)[j]:=(by rw[aU (show j<(mi f).length from F7),db,di];simp;rfl);refine adi ?_ ?_
   .have h1:=P7 (f:=Vl.encI) ((mi f).take j) kr
    have h2:=kr (mi f)[j];rw[aN] at h1;rw[ae];have:min j (mi f).length<=3:=(by rw[TL];omega);omega
   rw[<- hq];simp only[pkA,seval,hwj];refine O0 (j+1) _ F7 (by omega) (cm rfl (ar _) (ar _) (by simp[FL,ah,ej]) trivial)
  .have:j=3:=by simp at hjg;omega
   subst this;simp only[pkA];refine O1 _ _ ?_;simp only[pkA,seval,hw];have hq:Vl.encI m.length++((m.take (i+1)).map lW).flatten=pre++(((mi f).take 3).map Vl.encI).flatten:=(by rw[aU bE,db,di,<- hf,<- aI,<- xb];simp[lW];rfl);refine bL (i+1) _ bE (by omega) (cm rfl (ar _) (ar _) (by have h9:=hq;simp only[List.map_take] at h9;simp[FL,ah,ei,h9]) trivial)
 .have:i=m.length:=by simp at fH;omega
  subst this;rw[bZ];simp only[pkA];refine bO _ _ ?_;simp only[pkA,seval]
