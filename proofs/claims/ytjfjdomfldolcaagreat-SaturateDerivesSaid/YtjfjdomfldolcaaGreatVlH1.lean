/- The engine of layer 17: run. -/
import Derived.Test.YtjfjdomfldolcaaGreatVlE8
import Derived.Test.YtjfjdomfldolcaaGreatVlTree
import Derived.Test.YtjfjdomfldolcaaGreatVlA1
set_option maxHeartbeats 2000000
set_option linter.all false
namespace Go.Proofs.YtjfjdomfldolcaaGreat
open Go Go.Vl
variable {G:Gl}
set_option maxRecDepth 4000
def ZO (p:Pol) (o:Option Fa) (i:Nat):List In:=(Lt p o).getD i []
def Iy (p:Pol) (o:Option Fa) (i:Nat):List In:=((Lt p o).drop i).flatten
theorem Lu {p:Pol} {o:Option Fa} {i:Nat} (h:i<15):Iy p o i=ZO p o i++Iy p o (i+1):=by
 unfold Iy ZO
 have hl:i<(Lt p o).length:=h
 rw[cX hl,cU,aw,ae hl]
 rfl
theorem aeZ {τ:Type} (Y:Ys τ) (p:Pol) (o:Option Fa) (hp:p.types.length≤9223372036854775806) (hr:p.rules.length≤9223372036854775806) (i:Nat) (hi:i<15) (s:τ) (hF:Fut G Y s (ZO p o i)) :
 FnR G Y (75+i) [.bp (kx Y.k 0) 0] s (ZO p o i) [eng p o]:=by
 match i,hi with
 |0,_=>exact ZF Y p o hp hr s hF
 |1,_=>exact ZG Y p o hp hr s hF
 |2,_=>exact ZH Y p o hp hr s hF
 |3,_=>exact ZI Y p o hp hr s hF
 |4,_=>exact ZJ Y p o hp hr s hF
 |5,_=>exact ZK Y p o hp hr s hF
 |6,_=>exact ZL Y p o hp hr s hF
 |7,_=>exact ZM Y p o hp hr s hF
 |8,_=>exact ZN Y p o hp hr s hF
 |9,_=>exact Uk Y p o hp hr s hF
 |10,_=>exact Ul Y p o hp hr s hF
 |11,_=>exact Um Y p o hp hr s hF
 |12,_=>exact Un Y p o hp hr s hF
 |13,_=>exact Ui Y p o s hF
 |14,_=>exact Uo Y p o hp hr s hF
def ae0 (k i:Nat):V:=.clo (.func (75+i)) [.bp (kx k 0) 0] []
def uF (k:Nat):List V:=(List.range 15).map (ae0 k)
theorem Up {k i:Nat} (h:i<15):(uF k)[i]?=some (ae0 k i):=by
 unfold uF
 rw[bb,iT h];rfl
def Ys.outT {τ:Type} (Y:Ys τ) (s:τ) (L:List In) (ls:List (List V)) (r:V) (b1:List (List V)):Prop:=∃ t b,Y.run s L t b∧r=.tup []∧b1=Y.yb t++ls
theorem Gd {τ:Type} {Y:Ys τ} {s0 s:τ} {L:List In} {b:Bool} (hR:Y.run s0 L s b) {ls rest:List (List V)} {m n:Nat} {fr:Nat→V} {e:VE} (he:ux e=true) (hm:ls.length=m) (hn:(ls++rest).length=n) (dV:ltL (kx Y.k m) ls) :
 Pu Tryz.prog (kx Y.k m) (Y.outT s0 L ls) [] e ⟨fr,bxs (Y.yb s++(ls++rest)),kx Y.k n⟩:=
 ⟨_,_,⟨s,b,hR,rfl,rfl⟩,S2 [] he (Y.len s) (Y.lt s) hm hn dV (fun _ h=>by cases h) trivial pw⟩
theorem M5 {τ:Type} {Y:Ys τ} {s:τ} {L:List In} {ls:List (List V)}:∀ r b1,Y.outT s L ls r b1→r.compT=true∧b1.length=(Y.yb s++ls).length:=fun r b1 h=>by
 obtain⟨t,b,_,rfl,rfl⟩:=h
 exact⟨rfl,by rw[ai,ai,Y.len,Y.len]⟩
theorem Uq {τ:Type} {Y:Ys τ} {s:τ} {ls:List (List V)} {m j:Nat} {l:List (Nat×V)} {fr:Nat→V} (hj:j≤m) (hm:ls.length=m) (dV:ltL (kx Y.k m) ls) (hl:∀ q∈l,q.2.lt (kx Y.k m)) (h1:FL l fr):S.Le (kx Y.k j) (hdS l (Y.yb s++ls)) ⟨fr,bxs (Y.yb s++ls),kx Y.k m⟩:=by
 have:=Yt (rest:=[]) (Y:=Y.yb s) (ls:=ls) (n:=m) (j:=j) (Y.len s) (Y.lt s) hm (by simpa using hm) dV hl h1 hj
 simpa using this
theorem ae1 {P:Program} {T e:TypeId} {i j:TI} {z:List C} {len:Nat} {parts:List (Nat×V)} {L:List V} {fr:Nat→V} {bx:Nat→List V} {nb d:Nat} {K:S→Prop} (hT:ti P T=some i) (hk:i.kd=.slice e) (hE:ti P e=some j) (hs:j.size=1) (hz:j.zero=some z) (uc:z.length=1)
 (hp:parts.map (·.1)=List.range len) (ho:(parts.all fun p=>p.2.fz.one)=true) (h0:0<len) (hl:len≤16777216) (hL:parts.map (fun p=>p.2.fz)=L) (hK:K ⟨up fr d (.ms nb 0 len len 1),up bx nb L,nb+1⟩):xl P T len parts ⟨fr,bx,nb⟩ (some d) K:=by
 obtain⟨kd,a,b,c,q,f,g⟩:=i
 simp only at hk;subst hk
 obtain⟨kd',a',b',c',q',f',g'⟩:=j
 simp only at hs hz;subst hs;subst hz
 unfold xl
 simp only[hT,hE]
 rw[ba] at ho
 exact⟨⟨trivial,uc,hp,ho,h0,hl⟩,by rw[hL];exact hK⟩
theorem Ur {k:Nat}:∀ x∈uF k,x.lt (kx k 2):=fun x hx=>by
 obtain⟨i,_,rfl⟩:=bj.1 hx
 refine⟨fun q hq=>?_,fun q hq=>by cases hq⟩
 simp only[a7] at hq;subst hq;simp only[V.ltP,kz];decide
def qR:=jj @pkA @ptA
theorem ae2 {τ:Type} (Y:Ys τ) (p:Pol) (o:Option Fa) (hp:p.types.length≤9223372036854775806) (hr:p.rules.length≤9223372036854775806) (s:τ) (hF:Fut G Y s (gp p o)) :
 FnE Tryz.prog G 65 [.bp (kx Y.k 0) 0] (Y.yb s++[eng p o]) (Y.outT s (gp p o) [eng p o]):=by
 have dV:ltL (kx Y.k 1) [eng p o]:=aG (cO Y.pos) cM
 refine F4 (k:=Y.k) (m:=1) (rs:=[]) [1400034,1500041] mixed Tryz.func65 rfl rfl rfl rfl (by kernel_rfl) (by simp) M5 (Y.len s) (Y.lt s) rfl dV (bz (ec (by decide)) eD) ?_
 simp only[pkA,seval,pkB Y _]
 refine .inl (ae1 BR rfl MX rfl rfl rfl rfl rfl (by decide) (by decide) (L:=uF Y.k) rfl ?_)
 have hms:(V.ms (kx Y.k 1) 0 15 15 1).lt (kx Y.k 2):=by simp only[V.lt,kz];decide
 have ajx:ltL (kx Y.k 2) [eng p o,uF Y.k]:=aG (cO Y.pos) (aG Ur cM)
 simp only[qR,seval,pkB Y _,fp]
 refine bE (fun x:Nat×τ=>hdS [(34,.ms (kx Y.k 1) 0 15 15 1),(35,i64 15),(36,i64 x.1)] (Y.yb x.2++[eng p o,uF Y.k])) (fun x=>15 - x.1)
  (fun x=>x.1≤15∧Fut G Y x.2 (Iy p o x.1)∧∀ t b,Y.run x.2 (Iy p o x.1) t b→Y.run s (gp p o) t b) (0,s) ⟨ar _,hF,fun _ _ h=>h⟩ ?_ ?_
 ·exact Uq (by decide) rfl ajx (eR hms (eR trivial (eR trivial uD))) (by simp[FL,ak])
 rintro⟨i,s'⟩ ⟨hi,AB,qz⟩ R cj cJ eP
 simp only at hi AB qz
 simp only[pkA,seval,pkB Y _,AV]
 refine aT (fun bK=>?_) (fun gr=>?_)
 ·have bK:i<15:=by simp at bK;omega
  rw[Lu bK] at AB qz
  have hw:=bG (n:=(i:Int)+1) (k:=i+1) (by omega) (by omega)
  simp only[pkA,seval,pkB Y _]
  refine Sw BR rfl MX rfl (by decide) (aA i) (by omega) ?_
  have hld:∀ K,ldB (kx Y.k 2) (kx Y.k 1) (uF Y.k) (0+((i:Int)).toNat*1) K=K (.clo (.func (75+i)) [.bp (kx Y.k 0) 0] []):=fun K=>by
   unfold ldB
   rw[kz,show 0+((i:Int)).toNat*1=i by simp,Up bK]
   simp only[ae0,MI]
   exact propext ⟨fun h=>h.2,fun h=>⟨by decide,h⟩⟩
  have hml:cy (uF Y.k)=false:=rfl
  simp only[qR,seval,pkB Y _,hld,hml]
  refine nD (ls:=[eng p o]) (rest:=[uF Y.k]) rfl (aeZ Y p o hp hr i bK s' AB.app.1) rfl rfl fun t' b' hR=>?_
  simp only[pkA,seval,pkB Y _]
  refine aT (fun hn=>?_) (fun hn=>?_)
  ·have hn:b'=false:=by simpa using hn
   subst hn
   simp only[pkA,pkB Y _]
   refine eP _ ?_
   simp only[pkA,pkB Y _]
   exact Gd (qz _ _ (AU hR)) (rest:=[uF Y.k]) rfl rfl rfl dV
  ·have hn:b'=true:=by simpa using hn
   subst hn
   simp only[pkA,seval,pkB Y _]
   exact cj (i+1,t') _ ⟨by simp only;omega,AB.app.2 _ hR,fun t b h=>qz t b (AS hR h)⟩ (by simp only;omega) (Uq (by decide) rfl ajx (eR hms (eR trivial (eR trivial uD))) (by simp[FL,ak,hw]))
 ·have:i=15:=by simp at gr;omega
  subst this
  simp only[pkA,pkB Y _]
  refine cJ _ _ ?_
  simp only[pkA,seval,pkB Y _]
  exact Gd (qz _ _ (.nil s')) (rest:=[uF Y.k]) rfl rfl rfl dV
theorem Iz {o:Option (List V)} {l:List V} {K:V→Prop} (h:o=some l) (hK:K (.mag l)):tK K o:=by
 subst h;exact hK
theorem Lv {τ:Type} {Y:Ys τ} {s:τ} {L:List In} {g:FuncId} {ls:List (List V)} {f:V} {args all cargs:List V} {n:Nat} {fr:Nat→V} {K:S→V→Prop} (hc:gv f args=some (g,all)) (hf:FnE Tryz.prog G g cargs (Y.yb s++ls) (Y.outT s L ls)) (eF:all.map V.fz=cargs)
 (hn:ls.length=n) (hK:∀ t b,Y.run s L t b→K ⟨fr,bxs (Y.yb t++ls),kx Y.k n⟩ (.tup [])):kJ Tryz.prog G ⟨fr,bxs (Y.yb s++ls),kx Y.k n⟩ f args K:=by
 have:=D1 (rest:=[]) (n:=n) (fr:=fr) (K:=K) hc hf eF (Y.len s) (by simpa using hn) fun r b1 h=>by
  obtain⟨t,b,hR,rfl,rfl⟩:=h
  exact⟨Y.yb t,rfl,Y.len t,Y.lt t,fun _=>rfl,by simpa using hK t b hR⟩
 simpa using this
theorem ZP {τ:Type} {Y:Ys τ} {s0 s:τ} {L:List In} {b:Bool} (hR:Y.run s0 L s b) {rest:List (List V)} {n:Nat} {fr:Nat→V} {e:VE} (he:ux e=true) (hn:rest.length=n):Pu Tryz.prog (kx Y.k 0) (Y.outT s0 L []) [] e ⟨fr,bxs (Y.yb s++rest),kx Y.k n⟩:=by
 have:=Gd hR (ls:=[]) (rest:=rest) (m:=0) (n:=n) (fr:=fr) (e:=e) he rfl (by simpa using hn) cM
 simpa using this
theorem ZQ {τ:Type} (Y:Ys τ) (p:Pol) (hp:p.types.length≤9223372036854775806) (hr:p.rules.length≤9223372036854775806) (s:τ) (hF:Fut G Y s (gp p none)) :
 FnE Tryz.prog G 64 [.yl 0,.c (.rp (poC p) 0)] (Y.yb s) (fun r b1=>∃ t b,Y.run s (gp p none) t b∧r=.tup []∧b1=Y.yb t):=by
 have h:FnE Tryz.prog G 64 [.yl 0,.c (.rp (poC p) 0)] (Y.yb s++[]) (Y.outT s (gp p none) []):=by
  refine F4 (k:=Y.k) (m:=0) (rs:=[]) [1500010,2500008] mixed Tryz.func64 rfl rfl rfl rfl (by kernel_rfl) (by simp) M5 (Y.len s) (Y.lt s) rfl cM (bz (by simpa[V.lt,kx] using Y.pos) (bz trivial eD)) ?_
  simp only[pkA,ptA,pkE,seval,pkB Y _,bq]
  refine Iz (l:=eng p none) (by rw[show(p.types.map tyC).length=p.types.length from au ..];rfl) ?_
  simp only[pkA,seval,pkB Y _,fp]
  refine Lv (ls:=[eng p none]) rfl (ae2 Y p none hp hr s hF) rfl rfl fun t' b' hR=>?_
  simp only[pkA,pkB Y _]
  exact ZP hR rfl rfl
 have e:Y.outT s (gp p none) []=(fun r b1=>∃ t b,Y.run s (gp p none) t b∧r=.tup []∧b1=Y.yb t):=by
  funext r b1;simp[Ys.outT]
 rw[e,bq] at h
 exact h
def abq (p:Pol):V:=.c (.fn (.func 64) [] [.rp (poC p) 0])
theorem Ge (p:Pol):FnOK Tryz.prog G 45 [.agg (poC p)] (abq p):=by
 refine cL (rs:=[.tmp 2]) true [] mixed Tryz.func45 rfl rfl rfl rfl (by kernel_rfl) (by simp) rfl rfl ?_
 simp only[pkA,seval,AK]
 rfl
def qB (now next:V) (n:Int):List V:=[now,next,i64 n]
theorem Lx {now next:V} {n:Int} {B1:List V} (h:now.ltB 2=true) (hx:next.ltB 2=true) (hB:(B1.all fun v=>v.ltB 2)=true):([qB now next n,B1]:List (List V)).all (fun b=>b.all fun x=>x.ltB 2)=true:=by
 simp only[qB,bR,cz,h,hx,hB];rfl
theorem Us {xs:List V} {now next:V} {n:Int} {B1:List V} (oE:xs.all (fun x=>x.ltB 2)=true) (h:now.ltB 2=true) (hx:next.ltB 2=true) (hB:(B1.all fun v=>v.ltB 2)=true):nO xs [qB now next n,B1]=true:=by
 simp only[nO,aZ,aU,oE];exact Lx h hx hB
theorem M6 (x:C) (now:V) (B1:List V) (num:Int) (es:List (List C)) (E:Option (TypeId×Nat)) (hE:E=none∨E=some (78,1)) (pg:∀ e∈es,e.length=1) (hm:es.length<1000000) (ub:now.ltB 2=true) (Ql:now.isMk=false) (hB:(B1.all fun v=>v.ltB 2)=true) :
 FnB Tryz.prog G 46 [.bp 0 0,.c x] [qB now (.gs none E es) num,B1] (.tup []) [qB now (.gs none (some (78,1)) (es++[[x]])) num,B1]:=by
 refine lW (rs:=[]) (k:=2) [2300000,2400011,3000002] mixed Tryz.func46 rfl rfl rfl rfl (by kernel_rfl) (by simp) rfl rfl rfl (Us rfl ub rfl hB) (ab _) ?_
 have kE:cy (qB now (.gs none E es) num)=false:=Ql
 simp only[pkA,seval]
 refine rk rfl (.split 0 1 11 (g:=none) (E:=E) (es:=es) (show 0<2 by decide) kE rfl rfl fun v _ hgv=>.done ?_)
 have aa7:cy [now,V.c (.ex v),i64 num]=false:=Ql
 have hl:∀ K,ldB 2 0 [now,V.c (.ex v),i64 num] 1 K=K (.c (.ex v)):=fun K=>by unfold ldB;exact propext ⟨fun h=>h.2,fun h=>⟨by decide,h⟩⟩
 simp only[qR,seval,qB,aa7,hl,cG,wh]
 refine Li (v:=v) (E:=E) (es:=es) (y1:=[x]) (sz:=1) (by_:=8) nq rfl vQ rfl rfl rfl (by decide) rfl (by simp[ak]) (by simp[ak]) ⟨by decide,by simp,by simp⟩ rfl hE pg rfl (by omega) (by omega) ?_
 simp only[qR,seval,aa7]
 rw[ac7 (by simp[ak])]
 refine⟨⟨by decide,by simp⟩,?_⟩
 simp only[pkA,seval]
 exact tJ [] rfl (by simp only[kR];exact Bool.and_eq_true_iff.2 ⟨rfl,Lx (n:=num) ub rfl hB⟩) (ab _) (ab 2) trivial ⟨by simp[],by simp[ak,bxs],trivial⟩ pw
theorem ZR {fr:Nat→V} {bx:Nat→List V} {nb b o:Nat} {K:Vl.S→Prop}:stS 1 none none b o (.ow none []) ⟨fr,bx,nb⟩ K=((b<nb∧o+1≤(bx b).length)∧K ⟨fr,up bx b (fj (bx b) o [.ow none []]),nb⟩):=by
 simp[stS,V.bcells,S.use,S.put]
theorem ZS (B1:List V) (num:Nat) (es:List (List C)) (E:Option (TypeId×Nat)) (now:V) (hn:num<1000000) (hm:es.length<1000000) (ub:now.ltB 2=true) (Ql:now.isMk=false) (hB:(B1.all fun v=>v.ltB 2)=true) :
 FnB Tryz.prog G 47 [.bp 0 0] [qB now (.gs none E es) (num:Int),B1] (bo (decide (0<es.length))) [qB (.gs none E es) (.ow none []) ((num+1:Nat):Int),B1]:=by
 refine lW (rs:=[.tmp 2]) (k:=2) [2850001,2890001,2380008,2850003,2890003,3000002] mixed Tryz.func47 rfl rfl rfl rfl (by kernel_rfl) (by simp) rfl rfl rfl (Us rfl ub rfl hB) (ab _) ?_
 simp only[pkA,seval]
 refine uB ?_
 simp only[qR,seval,dY,dS,nu,na,gw]
 have kE:cy (qB now (.gs none E es) (num:Int))=false:=Ql
 refine .split 0 1 5 (g:=none) (E:=E) (es:=es) (show 0<2 by decide) kE rfl rfl fun v _ hgv=>.done ?_
 have aa7:∀ x:V,cy [now,x,i64 (num:Int)]=false:=fun _=>Ql
 have alV:∀ y:V,cy [V.c (.ex v),y,i64 (num:Int)]=false:=fun _=>rfl
 have hl:∀ K,ldB 2 0 [now,V.c (.ex v),i64 (num:Int)] 1 K=K (.c (.ex v)):=fun K=>by unfold ldB;exact propext ⟨fun h=>h.2,fun h=>⟨by decide,h⟩⟩
 simp only[qR,seval,dY,dS,nu,na,gw,qB,aa7,alV,hl]
 rw[ZR]
 refine⟨⟨by decide,by simp⟩,?_⟩
 simp only[dS]
 refine .joinS 0 0 5 (v:=v) (E:=E) (es:=es) (show 0<2 by decide) (by simp[fj];rfl) (by simp[fj]) (by simp[ak]) (.done ?_)
 have Qm:=bG (n:=(num:Int)+1) (k:=num+1) (by omega) (by omega)
 simp only[qR,seval,fj]
 refine⟨rfl,rfl,uB ?_⟩
 have ajy:∀ K,K (i64 (es.length:Int))→hJ Tryz.prog 73 (.c (.ex v)) K:=fun K hK=>by
  rcases hgv with⟨blk,cap,rfl,_⟩ | ⟨h0,_,c,rfl⟩
  ·exact AM nq rfl hK
  ·subst h0
   exact AM nq rfl hK
 have WB:∀ n K,ldB 2 0 [V.gs (some v) E es,V.ow none [],n] 0 K=K (.c (.ex v)):=fun n K=>by unfold ldB;exact propext ⟨fun h=>h.2,fun h=>⟨by decide,h⟩⟩
 have alW:∀ n,cy [V.gs (some v) E es,V.ow none [],n]=false:=fun _=>rfl
 simp only[qR,seval,dY,dS,nu,na,gw,WB,alW]
 refine ajy _ ?_
 simp only[pkA,seval,dY,dS,nu,na,gw]
 refine .unname 0 0 (g:=some v) (E:=E) (es:=es) (show 0<2 by decide) (by simp[]) (.done ?_)
 simp only[pkA,seval,S.cell,Qm]
 exact tJ [(2,bo (decide (0<es.length)))] rfl (by simp only[kR];exact Bool.and_eq_true_iff.2 ⟨rfl,Lx (now:=.gs none E es) (n:=((num+1:Nat):Int)) rfl rfl hB⟩) (ab _) (ab 2) ⟨by simp[],trivial⟩ ⟨by simp[],by simp[ak,bxs],trivial⟩ (by simp[hdS,frs,uw,up])
theorem IA (a:Int):FnOK Tryz.prog G 52 [i64 a] (bo false):=by
 refine cL (rs:=[.tmp 2]) false [] mixed Tryz.func52 rfl rfl rfl rfl (by kernel_rfl) (by simp) rfl rfl ?_
 repeat' first
  |(simp only[pkA,seval])
  |refine fY (fun h=>?_) (fun h=>?_)
  |refine aT (fun h=>?_) (fun h=>?_)
 all_goals simp_all
def qE (a b:Int):Int:=if a<b then -1 else if b<a then 1 else 0
theorem oe (a b:Int):FnOK Tryz.prog G 33 [i64 a,i64 b] (i64 (qE a b)):=by
 refine cL (rs:=[.tmp 4]) false [] mixed Tryz.func33 rfl rfl rfl rfl (by kernel_rfl) (by simp) rfl rfl ?_
 simp only[pkA,seval]
 refine aB rfl (IA a) (by simp[V.boxy]) ?_
 simp only[pkA,seval]
 refine aB rfl (IA b) (by simp[V.boxy]) ?_
 repeat' first
  |(simp only[pkA,seval])
  |refine fY (fun h=>?_) (fun h=>?_)
  |refine aT (fun h=>?_) (fun h=>?_)
 all_goals (simp_all[qE]<;>omega)
def orL:List Int→Int
 |[]=>0
 |x::l=>if x=0 then orL l else x
theorem abr (l:List Int) (hm:l.length≤9223372036854775807):FnOK Tryz.prog G 32 [.c (.sl (l.map fun y=>[cI y]))] (i64 (orL l)):=by
 refine cL (rs:=[.tmp 2]) false [] mixed Tryz.func32 rfl rfl rfl rfl (by kernel_rfl) (by simp) rfl rfl ?_
 simp only[qR,seval]
 refine bE (fun i:Nat=>hdS [(3,i64 0),(6,.c (.sl (l.map fun y=>[cI y]))),(7,i64 l.length),(8,i64 i)] []) (fun i=>l.length - i) (fun i=>i≤l.length∧orL l=orL (l.drop i)) 0 ⟨ar _,rfl⟩ ?_ ?_
 ·refine cD rfl (ar _) (ab _) ?_ trivial
  simp[FL,ak]
 rintro i ⟨hi,mH⟩ R cj cJ eP
 simp only[pkA,seval]
 refine aT (fun bK=>?_) (fun gr=>?_)
 ·have bK:i<l.length:=by simpa using bK
  rw[cX bK] at mH
  simp only[pkA,seval]
  refine dR oT rfl rS (by decide) (aA i) (c:=[cI l[i]]) (by simp[bK]) rfl ?_
  have e0:∀ K,dC false 1 0 [cI l[i]] K=K (i64 l[i]):=fun _=>rfl
  simp only[qR,seval,e0]
  refine aT (fun hy=>?_) (fun hn=>?_)
  ·have hy:¬ l[i]=0:=by simpa using hy
   simp only[pkA,seval]
   refine eP _ ?_
   simp only[pkA,seval]
   rw[mH];simp only[orL];rw[if_neg hy]
  ·have hn:l[i]=0:=by simpa using hn
   have hw:=bG (n:=(i:Int)+1) (k:=i+1) (by omega) (by omega)
   simp only[pkA,seval]
   refine cj (i+1) _ ⟨bK,?_⟩ (by omega) (cD rfl (ar _) (ab _) ?_ trivial)
   ·rw[mH];simp only[orL];rw[if_pos hn]
   ·simp[FL,ak,hw]
 ·have:i=l.length:=by simp at gr;omega
  subst this
  simp only[pkA]
  refine cJ _ _ ?_
  simp only[pkA,seval]
  rw[mH];simp[orL]
def wK (a b:Fa):Int:=orL [qE a.kind b.kind,qE a.a b.a,qE a.b b.b]
theorem BZ (a b:Fa):FnOK Tryz.prog G 53 [.agg (faC a),.agg (faC b)] (i64 (wK a b)):=by
 refine cL (rs:=[.tmp 4]) false [] mixed Tryz.func53 rfl rfl rfl rfl (by kernel_rfl) (by simp) rfl rfl ?_
 have g0:∀ (nb q:Nat) (f:Fa) K,ldB nb q ((faC f).map .c) 0 K=(q<nb∧K (i64 f.kind)):=fun _ _ _ _=>rfl
 have g1:∀ (nb q:Nat) (f:Fa) K,ldB nb q ((faC f).map .c) 1 K=(q<nb∧K (i64 f.a)):=fun _ _ _ _=>rfl
 have g2:∀ (nb q:Nat) (f:Fa) K,ldB nb q ((faC f).map .c) 2 K=(q<nb∧K (i64 f.b)):=fun _ _ _ _=>rfl
 have gm:∀ f:Fa,cy ((faC f).map V.c)=false:=fun _=>rfl
 simp only[qR,seval,g0,gm]
 refine aB rfl (oe _ _) (fun _=>rfl) ?_
 simp only[qR,seval,g1,gm]
 refine aB rfl (oe _ _) (fun _=>rfl) ?_
 simp only[qR,seval,g2,gm]
 refine aB rfl (oe _ _) (fun _=>rfl) ?_
 simp only[qR,seval]
 refine aB rfl (abr [qE a.kind b.kind,qE a.a b.a,qE a.b b.b] (by simp)) (fun _=>rfl) ?_
 simp only[pkA,seval,wK]
