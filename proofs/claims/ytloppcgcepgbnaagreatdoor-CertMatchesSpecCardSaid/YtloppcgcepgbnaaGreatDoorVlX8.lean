/- Layer 18: reasons in order: comparing, sorting. -/
import Derived.Test.YtloppcgcepgbnaaGreatDoorVlX5
import Derived.Test.YtloppcgcepgbnaaGreatDoorVlRc
set_option maxHeartbeats 4000000
set_option linter.all false
namespace Go.Proofs.YtloppcgcepgbnaaGreatDoor
open Go Go.Vl Go.Sort
variable {G:Gl}
set_option maxRecDepth 4000
def wsC (W:List Wy):C:=.sl (W.map wyC)
theorem yv (w:Wy):(wyC w).length=6:=rfl
section
variable {K:V->Prop} {nb q:Nat} {w:Wy}
theorem amS:ldA nb q ((wyC w).map .c) 0 3 K=(q<nb/\K (.agg (faC w.fact))):=by unfold ldA;exact propext ⟨λh=>⟨h.1,h.2.2⟩,λh=>⟨h.1,⟨rfl,rfl⟩,h.2⟩⟩
theorem amT {sz:Nat}:dI false sz 5 (wyC w) K=K (.c (fsC w.pre)):=rfl
end
def amU:=jj @akG (jj @yv (jj @amS @amT))
def An (a b:Wy):Int:=vC a.fact b.fact
def P9:=jj @pkA (jj @ptA (jj @Dk @amU))
def mD:=jj @pkA @Dk
theorem TM (a b:Wy):FnOK Tryz.prog G 91 [.agg (wyC a),.agg (wyC b)] (i64 (An a b)):=by refine bI (rs:=[.tmp 4]) false [] mixed Tryz.func91 rfl rfl rfl rfl (by kernel_rfl) (by simp) rfl rfl ?_;simp only[P9,seval];refine az rfl (sA _ _) (λ_=>rfl) ?_;simp only[mD,seval];rfl
theorem YS (a b:Wy):ltOf An a b=ltF a.fact b.fact:=mW a.fact b.fact
theorem aeE:SWO (ltOf An) where
 irrefl x:=ltF_swo.irrefl x.fact
 trans x y z h1 h2:=ltF_swo.trans x.fact y.fact z.fact h1 h2
 ntrans x y z h1 h2:=ltF_swo.ntrans x.fact y.fact z.fact h1 h2
structure ado (g:FuncId) (c:Wy->Wy->Int):Prop where
 ent:∀ args w,(callFunc g args).run Tryz.prog w=.ok (.enter g args) w
 ok:∀ x y,FnOK Tryz.prog gl0 g ([.agg (wyC x),.agg (wyC y)]++([]:List C).map .c) (i64 (c x y))
 swo:SWO (ltOf c)
 tot:∀ x y,ltOf c x y=false->ltOf c y x=false->x.fact=y.fact
theorem akP:ado 91 An:=
 ⟨enters_of Tryz.func91 (by kernel_rfl) rfl,λx y=>TM x y,aeE,λx y h1 h2=>by rw[YS] at h1 h2;exact yd h1 h2⟩
def uy (c:Wy->Wy->Int) (W:List Wy):List Wy:=W.mergeSort λx y=>!ltOf c y x
theorem sG (c:Wy->Wy->Int) (W:List Wy):(uy c W).Perm W:=List.mergeSort_perm ..
theorem yw {c:Wy->Wy->Int} (h:SWO (ltOf c)) (W:List Wy):(uy c W).Pairwise λx y=>ltOf c y x=false:=by
 have:=List.pairwise_mergeSort (le:=λx y=>!ltOf c y x) (λx y z h1 h2=>by
  simp only[ew] at *;exact h.ntrans z y x h2 h1) (λx y=>by
  simp only[fu,ew];by_cases h1:ltOf c y x=true
  .right
   rw[<- Bool.not_eq_true];intro h2;have:=h.trans x y x h2 h1;rw[h.irrefl] at this;cases this
  .left;simpa using h1) W
 exact this.imp λh=>by simpa using h
theorem TN {W:List Wy} (h:(cG W).Nodup) {x y:Wy} (hx:x∈W) (hy:y∈W) (he:x.fact=y.fact):x=y:=by
 induction W with
 |nil=>cases hx
 |cons w W ih=>
  have h':w.fact∉cG W/\(cG W).Nodup:=jP.1 h;rcases aP.1 hx with e1 | h1
  .rcases aP.1 hy with e2 | h2
   .rw[e1,e2]
   .exact absurd (bU.2 ⟨y,h2,by rw[<- he,e1]⟩) h'.1
  .rcases aP.1 hy with e2 | h2
   .exact absurd (bU.2 ⟨x,h1,by rw[he,e2]⟩) h'.1
   .exact ih h'.2 h1 h2
theorem Lh:∃ fn,Tryz.prog.funcs[135]?=some fn/\(fn.name== "runtime.NumGoroutine")=false/\∃ b,fn.body=some b:=⟨_,Tryz.func135,rfl,_,rfl⟩
theorem YT {g:FuncId} {c:Wy->Wy->Int} (h:ado g c) (l m:List Wy) (hl:l.length<4611686018427387904) (hm:m.Perm l) (qp:(cG l).Nodup) (cap:Nat) (hc:l.length<=cap) :
 FnB Tryz.prog G 135 [.ms 0 0 l.length cap 6,.c (.fn (.func g) [] [])] [flb wyC l] (.tup []) [flb wyC (uy c m)]:=
 J0 (ρ:=Tryz.sortWy_ren) Tryz.sortWy Lh Tryz.isAgg93 Tryz.sizeOf93 yv (by decide) zwy [.int .i64 0,.int .i64 0,.int .i64 0,.int .i64 0,.int .i64 0,.slice none 0 0] rfl (λv hv=>by simp at hv;rcases hv with rfl | rfl<;>rfl)
  (λI w j x hx=>by
   match j with
   |0 | 1 | 2 | 3 | 4=>simp only[wyC,faC,zwy,cI,dE,eu,bQ,cB,ao] at hx;subst hx;exact .lit _ rfl
   |5=>simp only[wyC,faC,zwy,cI,fsC,dE,eu,bQ,cB,ao,jY] at hx;subst hx;exact .nil none 0 λ_=>rfl
   |j+6=>simp[wyC,faC] at hx)
  c h.swo g [] h.ent h.ok l (uy c m) hl ((sG c m).trans hm) (yw h.swo m) (λx hx y hy h1 h2=>TN qp hx hy (h.tot x y h1 h2)) cap hc
theorem TO {x:C}:FnOK Tryz.prog G 135 [.c (.sl []),.c x] (.tup []):=
 vP (ρ:=Tryz.sortWy_ren) Tryz.sortWy Lh
theorem FnOK.toB {P:Program} {G:Gl} {f:FuncId} {args:List V} {r:V} (h:FnOK P G f args r) (ha:args.all (λx=>match x with | .c _=>true | .agg _=>true | _=>false)=true):FnB P G f args [] r []:=by
 rw[aY] at ha;refine⟨h.1,⟨λx hx=>?_,λb hb=>(by cases hb),ab _⟩,λI M w vs β ob hI hg hB hs hv=>(h.2 I w vs hI hg hs (λj x hx=>?_)).mono ?_⟩
 .have:=ha x hx
  cases x<;>first | trivial | cases this
 .have h1:=ha x (aS hx)
  have h2:=hv j x hx;cases x<;>first | exact h2 | cases h1
 .rintro e w' ⟨v,I',h1,h2,h3,h4,o,h5,h6⟩
  refine⟨v,I',λ_=>none,λ_ _=>none,o,h1,⟨h2.os,h2.tape,h2.output,h2.size,λk hk _=>h2.block k hk (by simp),h2.drawn⟩,h3,λb o Gi=>(h4 b o Gi).imp id λh=>⟨.inl h.1,h.2⟩,λb o Gi=>?_,λi hi=>(by cases hi),λi b _ hb=>(by cases hb),
   ⟨λi cs jf=>by simp at jf,λ_ _=>rfl,λ_ _ _ h=>(by cases h),λ_ _ _ _ _ h=>(by cases h),λ_ _ _ _ h=>(by cases h),λ_ _ _ h=>(by cases h),λ_ _ _=>rfl⟩,h5.wider λb hb=>.inl (h6 b hb).1,λb hb=>⟨⟨(h6 b hb).2,.inl (h6 b hb).1⟩,λ_ _ h=>(by cases h),λ_ h=>(by cases h)⟩⟩
  have hb:=hI b o Gi;exact dP (h2.block b hb (by simp))
theorem ahX {P:Program} {G:Gl} {s:Vl.S} {T e:TypeId} {i j:TI} {sz:Nat} {E:Option (TypeId×Nat)} {es:List (List C)} {K:V->Prop} {t d:Nat} {y:Operand} {y1:List C} {by_:Nat} {z:List C} (hT:ti P T=some i) (hk:i.kd=.slice e) (hE:ti P e=some j) (hs:j.size=sz) (hb:j.bytes=by_) (hz:j.zero=some z) (hp:0<sz) (tH:z.length=sz) (h1:s.fr t=.gs none E es)
 (h0:t≠d/\y≠.tmp t) (hy:(vw s (ev G s y)).fz=.c (.sl [y1])) (hEE:E=none∨E=some (e,sz)) (px:∀ x∈es,x.length=sz) (Gf:y1.length=sz) (hm:(es.length+1)*by_<=140737488355328) (hm2:es.length+1<=9223372036854775807)
 (hK:K (.gs none (some (e,sz)) (es++[y1]))):ju P G s (some d) [T,T] [.tmp t,y] K:=by
 obtain⟨kd',a1,a2,a3,a4,a5,a6⟩:=i;simp only at hk;subst hk;obtain⟨b0,b1,b2,b3,b4,b5,b6⟩:=j;simp only at hs hb hz;subst hs;subst hb;subst hz;unfold ju;simp only[h1];refine⟨h0,?_⟩;rw[hy];simp only[nH,hT,hE];exact⟨trivial,⟨hp,tH,hEE,px⟩,⟨hm,hm2,Gf⟩,hK⟩
def gsY (l:List Wy):V:=.gs none (if l.isEmpty=true then none else some (93,6)) (l.map wyC)
theorem Lj {l:List Wy}:(gsY l).isOw=true:=rfl
theorem YU {l:List Wy} {w:Wy}:V.gs none (some (93,6)) (l.map wyC++[wyC w])=gsY (l++[w]):=by unfold gsY;simp
theorem adp {s:Vl.S} {l:List Wy} {w:Wy} {t d:Nat} {y:Operand} {K:V->Prop} (h1:s.fr t=gsY l) (h0:t≠d/\y≠.tmp t) (hy:(vw s (ev G s y)).fz=.c (.sl [wyC w])) (hl:l.length<=1000000) (hK:K (gsY (l++[w]))) :
 ju Tryz.prog G s (some d) [90,90] [.tmp t,y] K:=by
 refine ahX (E:=if l.isEmpty=true then none else some (93,6)) (es:=l.map wyC) (y1:=wyC w) (sz:=6) (by_:=64) PN rfl td rfl rfl rfl (by decide) rfl h1 h0 hy ?_ (λx hx=>by obtain⟨y,_,rfl⟩:=bU.1 hx;exact yv y) (yv w) (by rw[au];omega) (by rw[au];omega) ?_
 .split
  .exact .inl rfl
  .exact .inr rfl
 .rw[YU];exact hK
def sH (W:List Wy) (seen:List Nat):List Wy:=seen.map λb=>W.getD b zwy
theorem YV {W:List Wy} {seen:List Nat}:(sH W seen).length=seen.length:=au ..
theorem Ou {n:Nat} {l:List Nat} (qp:l.Nodup) (h1:∀ b∈l,b<n) (h2:∀ b,b<n->b∈l):l.Perm (List.range n):=
 (gJ qp kA).2 λb=>⟨λh=>c9.2 (h1 b h),λh=>h2 b (c9.1 h)⟩
theorem TP {W:List Wy} {seen:List Nat} (qp:seen.Nodup) (h1:∀ b∈seen,b<W.length) (h2:∀ b,b<W.length->b∈seen):(sH W seen).Perm W:=by
 have e:(List.range W.length).map (λb=>W.getD b zwy)=W:=by apply List.ext_getElem (by simp);intro i h3 h4;simp[aB,h4]
 conv=>rhs;rw[<- e]
 exact(Ou qp h1 h2).map _
theorem TQ {l:List Nat} {n:Nat} (qp:l.Nodup) (h:∀ b∈l,b<n):l.length<=n:=by
 have hp:l.Perm ((List.range n).filter λb=>decide (b∈l)):=(gJ qp (kA.filter _)).2 λb=>by simp only[fJ,c9,bF];exact⟨λhb=>⟨h b hb,hb⟩,λhb=>hb.2⟩
 rw[hp.length_eq];exact b9 (dK _ _) (by simp)
theorem adq {m:Nat} {l:List Wy}:(flb wyC l).all (λv=>v.ltB m)=true:=by rw[aY];intro v hv;unfold flb at hv;obtain⟨c,_,rfl⟩:=bU.1 hv;rfl
def YW:=jj @pkA (jj @ptA @Dk)
theorem TR {g:FuncId} {c:Wy->Wy->Int} (h:ado g c) (W:List Wy) (gY:W≠[]) (qp:(cG W).Nodup) (hW:W.length<=1000000) (xb:∀ w∈W,w.pre.length<=1000000) :
 FnB Tryz.prog G 89 [.mr 0,.c (.fn (.func g) [] [])] [wM W] (.ms 1 0 W.length W.length 6) [wM W,flb wyC (uy c W)]:=by
 refine jM (rs:=[.tmp 4]) (k:=1) [3000001,18,2400021,2300002,2300007,1000024] mixed Tryz.func89 rfl rfl rfl rfl (by kernel_rfl) (by simp) rfl rfl rfl (by simp only[lC,bh,bB,wU,aC,aG];rfl) (by simp) ?_;simp only[mD,seval];refine rb rfl (.warmT 5 (by simp[]) (.done ?_));simp only[mD,seval];refine CE (h:=wyV) (f:=faV) (l:=W.map λw=>(w.fact,w)) CU rfl rfl (show 0<1 by decide) ?_;rw[au];simp only[pkA];refine bw (λseen:List Nat=>hdS [(1,.c (.fn (.func g) [] [])),(5,gsY (sH W seen)),(9,.it 0 W.length W.length seen)] [wM W])
  (λseen=>PC (List.range W.length) seen) (λseen=>seen.Nodup/\∀ b∈seen,b<W.length) [] ⟨gG,by simp⟩ ?_ ?_
 .refine cm (by simp only[iV,bh,bB,wU,aC,aG];rfl) (ab 1) (ab _) (by simp[FL,ah,gsY,sH]) ⟨rfl,trivial⟩
 rintro seen ⟨hsd,bE⟩ R bL bO c8;have Qn:=TQ hsd bE;have L2:(W.map λw=>(w.fact,w)).length=W.length:=au ..
 simp only[mD,seval];rw[<- L2];refine Fb (h:=wyV) (f:=faV) (l:=W.map λw=>(w.fact,w)) (i:=0) (s:=⟨_,bxs [wM W],1⟩) rfl (ck 0) (λeF=>?_) (λb hb hn x y=>?_)
 .rw[L2] at eF
  simp only[pkA,seval];refine bO _ _ ?_;have aaa:=TP hsd bE eF;have cj:(sH W seen).length=W.length:=aaa.length_eq;have aiE:sH W seen≠[]:=λe=>gY (by rw[e] at aaa;exact List.Perm.nil_eq aaa▸rfl);simp only[mD,seval];have mc:(sH W seen).isEmpty=false:=by simpa using aiE
  refine rb rfl (.boxT (g:=none) (e:=93) (sz:=6) (es:=(sH W seen).map wyC) 5 (by show gsY _=_;unfold gsY;rw[mc];rfl) (.done ?_));have lu:((sH W seen).map wyC).flatten.map V.c=flb wyC (sH W seen):=rfl;simp only[mD,seval,lu,au];have hS:=YT (G:=G) h (sH W seen) W (by omega) aaa.symm ((List.Perm.nodup_iff (List.Perm.map Wy.fact aaa)).2 qp) (sH W seen).length (ab _);refine jN [1] rfl hS (by simp[V.fz,V.ren,rho]) rfl (by decide) rfl ⟨⟨show 1<2 by decide,by simp only[u3];rfl⟩,trivial⟩ ?_;intro bx' iE oa;have h0:bx' 0=wM W:=by rw[iE 0 (by decide)];rfl
  have h1:bx' 1=flb wyC (uy c W):=by rw[<- u3];exact oa 0 1 _ rfl rfl
  simp only[mD,seval];rw[<- cj];exact nK [(4,.ms 1 0 (sH W seen).length (sH W seen).length 6)] rfl (by simp only[iV,bh,bB,wU,adq,aC,aG];rfl) (Nat.le_succ 1) (ab _) ⟨by simp[],trivial⟩ ⟨h0,h1,trivial⟩ rfl
 .rw[L2] at hb
  simp only[mD,seval];refine NH (h:=wyV) (f:=faV) (l:=W.map λw=>(w.fact,w)) (i:=0) (s:=⟨_,bxs [wM W],1⟩) (b:=b) rfl (ck 0) (by rw[L2];exact hb) ?_;rw[List.getElem_map];obtain⟨wb,hwb⟩:∃ w,w=W[b]:=⟨_,rfl⟩;rw[<- hwb];have hwm:wb∈W:=by rw[hwb];exact bR hb
  have r4:∀ (a b c d e f:V),eP [a,b,c,d,e,f] 0 ((wyC wb).map .c)=(wyC wb).map .c:=λ_ _ _ _ _ _=>rfl;simp only[P9,seval,wyV,L2,r4];have hp:=xb wb hwm;refine az rfl (Fq (wb.pre.map faC) (sC kj _) (by rw[au];omega)) (λh=>by cases h) ?_;simp only[YW,seval];refine⟨ab 6,?_⟩;have qm:∀ E es,eP ((wyC wb).map .c) 5 [V.ow E es]=[.c (cI wb.fact.kind),.c (cI wb.fact.a),.c (cI wb.fact.b),.c (cI wb.round),.c (cI wb.rule),.ow E es]:=λ_ _=>rfl;have hld:∀ nb q E (K:V->Prop),ldA nb q [.c (cI wb.fact.kind),.c (cI wb.fact.a),.c (cI wb.fact.b),.c (cI wb.round),.c (cI wb.rule),V.ow E (wb.pre.map faC)] 0 6 K=(q<nb/\K (.agg (wyC wb))):=λnb q E K=>by unfold ldA;exact propext ⟨λh=>⟨h.1,h.2.2⟩,λh=>⟨h.1,⟨rfl,rfl⟩,h.2⟩⟩
  have lv:∀ E es,cL [.c (cI wb.fact.kind),.c (cI wb.fact.a),.c (cI wb.fact.b),.c (cI wb.round),.c (cI wb.rule),V.ow E es]=false:=λ_ _=>rfl;have hf6:ml 6 [(0,V.agg (wyC wb))] [[.lit (.int .i64 0),.lit (.int .i64 0),.lit (.int .i64 0),.lit (.int .i64 0),.lit (.int .i64 0),.sl []]]=some [wyC wb]:=rfl;simp only[YW,seval,Lj,qm,hld,lv,hf6,dm,xl];have al5:(sH W seen).length<=1000000:=by rw[YV];omega
  refine adp (l:=sH W seen) (w:=wb) (by simp[ah]) ⟨by decide,by simp⟩ rfl al5 ?_;simp only[pkA,seval,Lj];have e0:sH W (seen++[b])=sH W seen++[wb]:=by unfold sH;simp[hb,hwb]
  refine bL (seen++[b]) _ ⟨?_,λc hc=>?_⟩ (WQ (c9.2 hb) hn) (cm (by simp only[iV,bh,bB,wU,aC,aG];rfl) (ab 1) (show 1<=2 by decide) ?_ ⟨by simp[ah,bxs],trivial⟩)
  .rw[iT]
   exact⟨hsd,by simp,λx hx y hy=>by simp at hy;subst hy;rintro rfl;exact hn hx⟩
  .rcases ba.1 hc with hc | hc
   .exact bE c hc
   .simp at hc;subst hc;exact hb
  .simp[FL,ah,e0]
theorem Ov {g:FuncId}:FnB Tryz.prog G 89 [.mr 0,.c (.fn (.func g) [] [])] [wM []] (.c (.sl [])) [wM []]:=by
 refine jM (rs:=[.tmp 4]) (k:=1) [3000001,18,2400021,2300002,2300007,1000024] mixed Tryz.func89 rfl rfl rfl rfl (by kernel_rfl) (by simp) rfl rfl rfl rfl (by simp) ?_;simp only[mD,seval];refine rb rfl (.warmT 5 (by simp[]) (.done ?_));simp only[mD,seval];refine CE (h:=wyV) (f:=faV) (l:=([]:List Wy).map λw=>(w.fact,w)) CU rfl rfl (show 0<1 by decide) ?_;simp only[pkA];refine bw (λ_:Unit=>hdS [(1,.c (.fn (.func g) [] [])),(5,.gs none none []),(9,.it 0 0 0 [])] [wM []]) (λ_=>0) (λ_=>True) () trivial ?_ ?_
 .exact cm rfl (ab 1) (ab _) (by simp[FL,ah]) ⟨rfl,trivial⟩
 rintro _ _ R bL bO c8;simp only[mD,seval];refine Fb (h:=wyV) (f:=faV) (l:=([]:List Wy).map λw=>(w.fact,w)) (i:=0) (s:=⟨_,bxs [wM []],1⟩) rfl (ck 0) (λeF=>?_) (λb hb hn x y=>absurd hb (gf b));simp only[pkA,seval];refine bO _ _ ?_;simp only[mD,seval];refine rb rfl (.coolT (g:=none) (E:=none) (es:=[]) 5 (by simp[ah]) (.done ?_));simp only[mD,seval];refine uW rfl (FnOK.toB TO rfl) rfl ?_;simp only[mD,seval,fQ,eX,V.ren];exact nK [(4,.c (.sl []))] rfl rfl (ab _) (ab _) ⟨by simp[],trivial⟩ ⟨rfl,trivial⟩ rfl
theorem Ll {g:FuncId} {c:Wy->Wy->Int} (h:ado g c) {W:List Wy} (qp:(cG W).Nodup) (hW:W.length<=1000000) (xb:∀ w∈W,w.pre.length<=1000000) {a nb:Nat} {fr:Nat->V} {bx:Nat->List V} {K:Vl.S->V->Prop} (ha:a<nb) (h0:bx a=wM W)
 (hK0:W=[]->∀ bx':Nat->List V,(∀ j,j≠a->bx' j=bx j)->bx' a=wM []->K ⟨fr,bx',nb⟩ (.c (.sl [])))
 (hK1:W≠[]->∀ bx':Nat->List V,(∀ j,j≠a->j≠nb->bx' j=bx j)->bx' a=wM W->bx' nb=flb wyC (uy c W)->K ⟨fr,bx',nb+1⟩ (.ms nb 0 W.length W.length 6)) :
 vcallB Tryz.prog G ⟨fr,bx,nb⟩ (.c (.fn (.func 89) [] [])) [.mr a,.c (.fn (.func g) [] [])] K:=by
 by_cases gY:W=[]
 .subst gY
  refine jN [a] rfl (Ov (g:=g)) (by simp[V.fz,V.ren,rho]) rfl (by simp) rfl ⟨⟨by simp[rho,ha],by rw[Dn];simp[rho,h0]⟩,trivial⟩ ?_;intro bx' iE oa;refine hK0 rfl bx' (λj hj=>iE j (by simp[hj])) ?_;rw[<- Dn];exact oa 0 a _ rfl rfl
 .refine NG (b1:=[wM W]) [a] rfl (TR h W gY qp hW xb) (by simp[V.fz,V.ren,rho]) rfl (by simp) rfl ⟨⟨by simp[rho,ha],by rw[Dn];simp[rho,h0]⟩,trivial⟩ (by simp[ha]) ?_
  intro bx' iE oa hl;have:=hK1 gY bx' (λj hj Gj=>iE j (by simp[hj]) Gj) (by rw[<- Dn];exact oa 0 a _ rfl rfl) (by rw[<- u3];exact hl);simpa[V.ren,rho] using this
open Go Go.Vl
def WyI (L:List In) (w:Wy):Prop:=∃ x∈L,w.rule=x.rule/\w.pre=x.pre/\w.fact∈x.con
theorem Lm {L:List In} {num:Int} {x:In} (hx:x∈L):∀ (l:List Fa) (W:List Wy),(∀ f∈l,f∈x.con)->(∀ w∈W,WyI L w)->∀ w∈l.foldl (zk num x) W,WyI L w
 |[],_,_,h=>h
 |f::l,W,hl,h=>by
  rw[dT];refine Lm hx l _ (λg hg=>hl g (aT _ hg)) λw hw=>?_;unfold zk at hw;split at hw
  .exact h w hw
  .rcases ba.1 hw with hw | hw
   .exact h w hw
   .rw[aX] at hw;subst hw
    exact⟨x,hx,rfl,rfl,hl f (bJ ..)⟩
theorem Ln {L:List In} {num:Int}:∀ (l:List Wt) (W:List Wy),(∀ w∈l,w.x∈L)->(∀ w∈W,WyI L w)->∀ w∈mn num W l,WyI L w
 |[],_,_,h=>h
 |v::l,W,hl,h=>Ln l (TE num W v.x) (λw hw=>hl w (aT _ hw)) (Lm (hl v (bJ ..)) _ _ (λ_ h=>h) h)
theorem YX {L:List In} {D D':List Fa} {w:Wt} (h:w∈zl L D D'):w.x∈L:=by obtain⟨i,x,h1,rfl,_⟩:=Dm.1 h;exact aS h1
theorem Lo {L:List In}:∀ (n:Nat) (num:Int) (now:List Wt) (W:List Wy),(∀ w∈now,w.x∈L)->(cG W).Nodup->(∀ w∈W,WyI L w)->(cG (Dl L n num now W)).Nodup/\∀ w∈Dl L n num now W,WyI L w
 |0,_,_,_,_,h1,h2=>⟨h1,h2⟩
 |n+1,num,now,W,h0,h1,h2=>by
  unfold Dl;split
  .exact⟨h1,h2⟩
  .exact Lo n _ _ _ (λ_ h=>YX h) (Bm _ _ h1) (Ln _ _ h0 h2)
theorem yy (L:List In):(cG (zm L)).Nodup/\∀ w∈zm L,WyI L w:=Lo _ _ _ _ (λ_ h=>P4 h) gG (λ_ h=>by cases h)
theorem TS {L:List In} (h:kq L):(L.flatMap In.con).length<=2*L.length:=by
 induction L with
 |nil=>simp
 |cons x L ih=>rw[fZ,ae,aC];have h1:=(h x (bJ ..)).2;have h2:=ih λy hy=>h y (aT _ hy);omega
theorem ahY {α:Type} [DecidableEq α] {l m:List α} (h:l.Nodup) (hs:∀ x∈l,x∈m):l.length<=m.length:=by
 induction l generalizing m with
 |nil=>simp
 |cons x l ih=>
  have h':=jP.1 h;have hx:=hs x (bJ ..);have h2:=ih (m:=m.erase x) h'.2 λy hy=>by have gY:y≠x:=(by rintro rfl;exact h'.1 hy);exact(List.mem_erase_of_ne gY).2 (hs y (aT _ hy))
  rw[List.length_erase_of_mem hx] at h2;have:0<m.length:=List.length_pos_of_mem hx;rw[aC];omega
theorem YY {L:List In} (h:kq L):(zm L).length<=2*L.length:=by
 have h1:=yy L;have h2:=ahY h1.1 (m:=L.flatMap In.con) λf hf=>by obtain⟨w,hw,rfl⟩:=bU.1 hf;obtain⟨x,hx,_,_,hc⟩:=h1.2 w hw;exact List.mem_flatMap.2 ⟨x,hx,hc⟩
 have h3:=TS h;unfold cG at h2;rw[au] at h2;omega
structure PolS (p:Pol):Prop where
 ty:p.types.length<=7
 ru:p.rules.length<=15
def yz (p:Pol):List Wy:=zm (fR p none)
theorem PolS.len {p:Pol} (h:PolS p):(fR p none).length<=20000:=YN h.ty h.ru
theorem PolS.sat {p:Pol} (h:PolS p):(yz p).length<=40000:=by have h1:=h.len;have h2:(yz p).length<=2*(fR p none).length:=YY lN;omega
theorem Qa (p:Pol):(cG (yz p)).Nodup:=(yy _).1
theorem YZ {p:Pol}:∀ w∈yz p,w.pre.length<=2:=λw hw=>by obtain⟨x,hx,_,h,_⟩:=(yy _).2 w hw;rw[h];exact(lN x hx).1
theorem Lp {p:Pol} (h:PolS p):FnB Tryz.prog G 90 [.agg (poC p)] [] (.mr 1) [(poC p).map .c,wM (yz p)]:=
 H4 p (by have:=h.ty;omega) (by have:=h.ru;omega) h.len lN
def ky (p:Pol):List Wy:=uy An (yz p)
theorem sJ (p:Pol):(ky p).length=(yz p).length:=(sG _ _).length_eq
theorem ahZ {p:Pol} {ρ:Nat->Nat}:((poC p).map V.c).map (V.ren ρ)=(poC p).map .c:=Vl.cells_ren
def aeF:=jj @pkA (jj @ptA (jj @pkF @Dk))
theorem Y0 {p:Pol} (h:PolS p):FnOK Tryz.prog G 62 [.agg (poC p)] (.c (wsC (ky p))):=by
 refine bI (rs:=[.tmp 2]) true [1000004,1000005] mixed Tryz.func62 rfl rfl rfl rfl (by kernel_rfl) (by simp) rfl rfl ?_;simp only[aeF,seval];refine uW rfl (Lp h) rfl ?_;simp only[mD,seval,V.ren,fQ,ahZ,Dn];have aoi:=h.sat;refine Ll akP (Qa p) (by omega) (λw hw=>by have:=YZ w hw;omega) (show 2<3 by decide) (by simp[]) (λh0 bx' iE hb=>?_) (λh0 bx' iE hb hn=>?_)
 .simp only[mD,seval,A8]
  have e:ky p=[]:=by unfold ky;rw[h0];simp[uy]
  rw[e];rfl
 .simp only[mD,seval,A8]
  show Option.map V.c (nF _ _ _ _ _)=some _;have hl:(uy An (yz p)).length=(yz p).length:=sJ p;rw[E9 (c:=wyC) (l:=uy An (yz p)) (a:=0) yv (show 3<4 by decide) hn rfl (by omega),ct,dY (by omega)];rfl
def fm (p:Pol):List Fa:=cG (ky p)
theorem Y1 {p:Pol} (h:PolS p):FnOK Tryz.prog G 43 [.agg (poC p)] (.c (fsC (fm p))):=by
 refine bI (rs:=[.tmp 2]) false [12] mixed Tryz.func43 rfl rfl rfl rfl (by kernel_rfl) (by simp) rfl rfl ?_;have aoi:=h.sat;have LW:=sJ p;simp only[aeF,seval];refine az rfl (Y0 h) (λh=>by cases h) ?_;simp only[YW,seval,wsC,au];refine bw (λi:Nat=>hdS [(2,owF ((fm p).take i)),(6,.c (.sl ((ky p).map wyC))),(7,i64 (ky p).length),(8,i64 i)] []) (λi=>(ky p).length - i) (λi=>i<=(ky p).length) 0 (ar _) ?_ ?_
 .exact cm rfl (ar _) (ar _) (by simp[FL,ah,owF]) trivial
 rintro i hi R bL bO c8;simp only[mD,seval];refine aD (λbE=>?_) (λfH=>?_)
 .have bE:i<(ky p).length:=by simpa using bE
  have hw:=bn (n:=(i:Int)+1) (k:=i+1) (by omega) (by omega);have e1:((i+1:Nat):Int)=(i:Int)+1:=by omega
  simp only[mD,seval];refine dQ PN rfl td (by decide) (ay i) (c:=wyC (ky p)[i]) (by simp[bE]) rfl ?_;have r4:∀ (w:Wy) (a b c d e f:V),eP [a,b,c,d,e,f] 0 ((wyC w).map .c)=(wyC w).map .c:=λ_ _ _ _ _ _ _=>rfl;simp only[P9,seval,r4];have r5:ml 3 [(0,V.agg (faC (ky p)[i].fact))] [[C.lit (Value.int IntKind.i64 0),C.lit (Value.int IntKind.i64 0),C.lit (Value.int IntKind.i64 0)]]=some [faC (ky p)[i].fact]:=rfl;simp only[P9,seval,ka,r5,dm];refine rM (by rw[aN];omega) ?_;simp only[mD,seval,ka,hw];have hfi:i<(fm p).length:=by unfold fm cG;rw[au];exact bE
  have e2:(fm p).take (i+1)=(fm p).take i++[(ky p)[i].fact]:=by have hg:(fm p)[i]=(ky p)[i].fact:=List.getElem_map _;rw[aU hfi,hg]
  refine bL (i+1) _ bE (by omega) (cm rfl (ar _) (ar _) (by simp[FL,ah,e1,e2]) trivial)
 .have:i=(ky p).length:=by simp at fH;omega
  subst this;have lu:(ky p).length=(fm p).length:=by unfold fm cG;rw[au]
  simp only[pkA];refine bO _ _ ?_;simp only[mD,seval,rf];rw[lu,bZ];rfl
theorem Lq {p:Pol}:(rh p).length<=2*p.types.length:=b9 (oC _) (yg p _)
