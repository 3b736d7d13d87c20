/- Layer 18: reasons in order: comparing, sorting. -/
import Derived.Test.YtloppcgcepgbnaaGreatDoorVlX5
import Derived.Test.YtloppcgcepgbnaaGreatDoorVlRc
set_option maxHeartbeats 4000000
set_option linter.all false
namespace Go.Proofs.YtloppcgcepgbnaaGreatDoor
open Go Go.Vl Go.Sort
variable {G:Gl}
set_option maxRecDepth 4000
def wsC (W:List Wy):C:=.sl (W.map wyC)
theorem yE (w:Wy):(wyC w).length=6:=rfl
section
variable {K:V->Prop} {nb q:Nat} {w:Wy}
theorem apS:ldA nb q ((wyC w).map .c) 0 3 K=(q<nb/\K (.agg (faC w.fact))):=by unfold ldA;exact propext ⟨λh=>⟨h.1,h.2.2⟩,λh=>⟨h.1,⟨rfl,rfl⟩,h.2⟩⟩
theorem apT:ldB nb q ((wyC w).map .c) 3 K=(q<nb/\K (i64 w.round)):=rfl
theorem apU:ldB nb q ((wyC w).map .c) 4 K=(q<nb/\K (i64 w.rule)):=rfl
theorem apV:ldB nb q ((wyC w).map .c) 5 K=(q<nb/\K (.c (fsC w.pre))):=rfl
theorem gwy:ldA nb q ((wyC w).map .c) 0 6 K=(q<nb/\K (.agg (wyC w))):=by unfold ldA;exact propext ⟨λh=>⟨h.1,h.2.2⟩,λh=>⟨h.1,⟨rfl,rfl⟩,h.2⟩⟩
theorem apW {sz:Nat}:cQ false sz 3 (wyC w) K=K (i64 w.round):=rfl
theorem apX {sz:Nat}:cQ false sz 4 (wyC w) K=K (i64 w.rule):=rfl
theorem apY {sz:Nat}:cQ false sz 5 (wyC w) K=K (.c (fsC w.pre)):=rfl
theorem afu:ck ((wyC w).map V.c)=false:=rfl
end
def apZ:=jj @ant (jj @yE (jj @apS (jj @apT (jj @apU (jj @apV (jj @gwy (jj @apW (jj @apX (jj @apY @afu)))))))))
def As (a b:Wy):Int:=wU a.fact b.fact
def QE:=jj @pkA (jj @ptA (jj @Dl @apZ))
def mE:=jj @pkA @Dl
theorem Ux (a b:Wy):FnOK Tryz.prog G 91 [.agg (wyC a),.agg (wyC b)] (i64 (As a b)):=by refine bJ (rs:=[.tmp 4]) false [] mixed Tryz.func91 rfl rfl rfl rfl (by kernel_rfl) (by simp) rfl rfl ?_;simp only[QE,seval];refine aC rfl (sW _ _) (λ_=>rfl) ?_;simp only[mE,seval];rfl
theorem Z5 (a b:Wy):ltOf As a b=ltF a.fact b.fact:=mU a.fact b.fact
theorem agH:SWO (ltOf As) where
 irrefl x:=ltF_swo.irrefl x.fact
 trans x y z h1 h2:=ltF_swo.trans x.fact y.fact z.fact h1 h2
 ntrans x y z h1 h2:=ltF_swo.ntrans x.fact y.fact z.fact h1 h2
structure afv (g:FuncId) (c:Wy->Wy->Int):Prop where
 ent:∀ args w,(callFunc g args).run Tryz.prog w=.ok (.enter g args) w
 ok:∀ x y,FnOK Tryz.prog gl0 g ([.agg (wyC x),.agg (wyC y)]++([]:List C).map .c) (i64 (c x y))
 swo:SWO (ltOf c)
 tot:∀ x y,ltOf c x y=false->ltOf c y x=false->x.fact=y.fact
theorem anD:afv 91 As:=
 ⟨enters_of Tryz.func91 (by kernel_rfl) rfl,λx y=>Ux x y,agH,λx y h1 h2=>by rw[Z5] at h1 h2;exact yo h1 h2⟩
def uS (c:Wy->Wy->Int) (W:List Wy):List Wy:=W.mergeSort λx y=>!ltOf c y x
theorem tc (c:Wy->Wy->Int) (W:List Wy):(uS c W).Perm W:=List.mergeSort_perm ..
theorem yF {c:Wy->Wy->Int} (h:SWO (ltOf c)) (W:List Wy):(uS c W).Pairwise λx y=>ltOf c y x=false:=by
 have:=List.pairwise_mergeSort (le:=λx y=>!ltOf c y x) (λx y z h1 h2=>by
  simp only[ew] at *;exact h.ntrans z y x h2 h1) (λx y=>by
  simp only[fm,ew];by_cases h1:ltOf c y x=true
  .right
   rw[<- Bool.not_eq_true];intro h2;have:=h.trans x y x h2 h1;rw[h.irrefl] at this;cases this
  .left;simpa using h1) W
 exact this.imp λh=>by simpa using h
theorem Uy {W:List Wy} (h:(cB W).Nodup) {x y:Wy} (hx:x∈W) (hy:y∈W) (he:x.fact=y.fact):x=y:=by
 induction W with
 |nil=>cases hx
 |cons w W ih=>
  have h':w.fact∉cB W/\(cB W).Nodup:=jN.1 h;rcases aN.1 hx with e1 | h1
  .rcases aN.1 hy with e2 | h2
   .rw[e1,e2]
   .exact absurd (bM.2 ⟨y,h2,by rw[<- he,e1]⟩) h'.1
  .rcases aN.1 hy with e2 | h2
   .exact absurd (bM.2 ⟨x,h1,by rw[he,e2]⟩) h'.1
   .exact ih h'.2 h1 h2
theorem LA:∃ fn,Tryz.prog.funcs[135]?=some fn/\(fn.name== "runtime.NumGoroutine")=false/\∃ b,fn.body=some b:=⟨_,Tryz.func135,rfl,_,rfl⟩
theorem Z6 {g:FuncId} {c:Wy->Wy->Int} (h:afv g c) (l m:List Wy) (hl:l.length<4611686018427387904) (hm:m.Perm l) (qA:(cB l).Nodup) (cap:Nat) (hc:l.length<=cap) :
 FnB Tryz.prog G 135 [.ms 0 0 l.length cap 6,.c (.fn (.func g) [] [])] [flb wyC l] (.tup []) [flb wyC (uS c m)]:=
 Kv (ρ:=Tryz.sortWy_ren) Tryz.sortWy LA Tryz.isAgg93 Tryz.sizeOf93 yE (by decide) zwy [.int .i64 0,.int .i64 0,.int .i64 0,.int .i64 0,.int .i64 0,.slice none 0 0] rfl (λv hv=>by simp at hv;rcases hv with rfl | rfl<;>rfl)
  (λI w j x hx=>by
   match j with
   |0 | 1 | 2 | 3 | 4=>simp only[wyC,faC,zwy,cI,dG,eu,bP,cF,ao] at hx;subst hx;exact .lit _ rfl
   |5=>simp only[wyC,faC,zwy,cI,fsC,dG,eu,bP,cF,ao,jW] at hx;subst hx;exact .nil none 0 λ_=>rfl
   |j+6=>simp[wyC,faC] at hx)
  c h.swo g [] h.ent h.ok l (uS c m) hl ((tc c m).trans hm) (yF h.swo m) (λx hx y hy h1 h2=>Uy qA hx hy (h.tot x y h1 h2)) cap hc
theorem Uz {x:C}:FnOK Tryz.prog G 135 [.c (.sl []),.c x] (.tup []):=
 vX (ρ:=Tryz.sortWy_ren) Tryz.sortWy LA
theorem FnOK.toB {P:Program} {G:Gl} {f:FuncId} {args:List V} {r:V} (h:FnOK P G f args r) (ha:args.all (λx=>match x with | .c _=>true | .agg _=>true | _=>false)=true):FnB P G f args [] r []:=by
 rw[a8] at ha;refine⟨h.1,⟨λx hx=>?_,λb hb=>(by cases hb),ab _⟩,λI M w vs β ob hI hg hB hs hv=>(h.2 I w vs hI hg hs (λj x hx=>?_)).mono ?_⟩
 .have:=ha x hx
  cases x<;>first | trivial | cases this
 .have h1:=ha x (aV hx)
  have h2:=hv j x hx;cases x<;>first | exact h2 | cases h1
 .rintro e w' ⟨v,I',h1,h2,h3,h4,o,h5,h6⟩
  refine⟨v,I',λ_=>none,λ_ _=>none,o,h1,⟨h2.os,h2.tape,h2.output,h2.size,λk hk _=>h2.block k hk (by simp),h2.drawn⟩,h3,λb o Gt=>(h4 b o Gt).imp id λh=>⟨.inl h.1,h.2⟩,λb o Gt=>?_,λi hi=>(by cases hi),λi b _ hb=>(by cases hb),
   ⟨λi cs js=>by simp at js,λ_ _=>rfl,λ_ _ _ h=>(by cases h),λ_ _ _ _ _ h=>(by cases h),λ_ _ _ _ h=>(by cases h),λ_ _ _ h=>(by cases h),λ_ _ _=>rfl⟩,h5.wider λb hb=>.inl (h6 b hb).1,λb hb=>⟨⟨(h6 b hb).2,.inl (h6 b hb).1⟩,λ_ _ h=>(by cases h),λ_ h=>(by cases h)⟩⟩
  have hb:=hI b o Gt;exact dR (h2.block b hb (by simp))
theorem akA {P:Program} {G:Gl} {s:Vl.S} {T e:TypeId} {i j:TI} {sz:Nat} {E:Option (TypeId×Nat)} {es:List (List C)} {K:V->Prop} {t d:Nat} {y:Operand} {y1:List C} {by_:Nat} {z:List C} (hT:ti P T=some i) (hk:i.kd=.slice e) (hE:ti P e=some j) (hs:j.size=sz) (hb:j.bytes=by_) (hz:j.zero=some z) (hp:0<sz) (tX:z.length=sz) (h1:s.fr t=.gs none E es)
 (h0:t≠d/\y≠.tmp t) (hy:(vw s (ev G s y)).fz=.c (.sl [y1])) (hEE:E=none∨E=some (e,sz)) (pG:∀ x∈es,x.length=sz) (Gp:y1.length=sz) (hm:(es.length+1)*by_<=140737488355328) (Vp:es.length+1<=9223372036854775807)
 (hK:K (.gs none (some (e,sz)) (es++[y1]))):jv P G s (some d) [T,T] [.tmp t,y] K:=by
 obtain⟨kd',a1,a2,a3,a4,a5,a6⟩:=i;simp only at hk;subst hk;obtain⟨b0,b1,b2,b3,b4,b5,b6⟩:=j;simp only at hs hb hz;subst hs;subst hb;subst hz;unfold jv;simp only[h1];refine⟨h0,?_⟩;rw[hy];simp only[nL,hT,hE];exact⟨trivial,⟨hp,tX,hEE,pG⟩,⟨hm,Vp,Gp⟩,hK⟩
def gsY (l:List Wy):V:=.gs none (if l.isEmpty=true then none else some (93,6)) (l.map wyC)
theorem LC {l:List Wy}:(gsY l).isOw=true:=rfl
theorem Z7 {l:List Wy} {w:Wy}:V.gs none (some (93,6)) (l.map wyC++[wyC w])=gsY (l++[w]):=by unfold gsY;simp
theorem afw {s:Vl.S} {l:List Wy} {w:Wy} {t d:Nat} {y:Operand} {K:V->Prop} (h1:s.fr t=gsY l) (h0:t≠d/\y≠.tmp t) (hy:(vw s (ev G s y)).fz=.c (.sl [wyC w])) (hl:l.length<=1000000) (hK:K (gsY (l++[w]))) :
 jv Tryz.prog G s (some d) [90,90] [.tmp t,y] K:=by
 refine akA (E:=if l.isEmpty=true then none else some (93,6)) (es:=l.map wyC) (y1:=wyC w) (sz:=6) (by_:=64) FB rfl qe rfl rfl rfl (by decide) rfl h1 h0 hy ?_ (λx hx=>by obtain⟨y,_,rfl⟩:=bM.1 hx;exact yE y) (yE w) (by rw[au];omega) (by rw[au];omega) ?_
 .split
  .exact .inl rfl
  .exact .inr rfl
 .rw[Z7];exact hK
def td (W:List Wy) (seen:List Nat):List Wy:=seen.map λb=>W.getD b zwy
theorem Z8 {W:List Wy} {seen:List Nat}:(td W seen).length=seen.length:=au ..
theorem OZ {n:Nat} {l:List Nat} (qA:l.Nodup) (h1:∀ b∈l,b<n) (h2:∀ b,b<n->b∈l):l.Perm (List.range n):=
 (gG qA kA).2 λb=>⟨λh=>dc.2 (h1 b h),λh=>h2 b (dc.1 h)⟩
theorem UA {W:List Wy} {seen:List Nat} (qA:seen.Nodup) (h1:∀ b∈seen,b<W.length) (h2:∀ b,b<W.length->b∈seen):(td W seen).Perm W:=by
 have e:(List.range W.length).map (λb=>W.getD b zwy)=W:=by apply List.ext_getElem (by simp);intro i h3 h4;simp[aA,h4]
 conv=>rhs;rw[<- e]
 exact(OZ qA h1 h2).map _
theorem UB {l:List Nat} {n:Nat} (qA:l.Nodup) (h:∀ b∈l,b<n):l.length<=n:=by
 have hp:l.Perm ((List.range n).filter λb=>decide (b∈l)):=(gG qA (kA.filter _)).2 λb=>by simp only[eW,dc,bI];exact⟨λhb=>⟨h b hb,hb⟩,λhb=>hb.2⟩
 rw[hp.length_eq];exact bY (du _ _) (by simp)
theorem afx {m:Nat} {l:List Wy}:(flb wyC l).all (λv=>v.ltB m)=true:=by rw[a8];intro v hv;unfold flb at hv;obtain⟨c,_,rfl⟩:=bM.1 hv;rfl
def Z9:=jj @pkA (jj @ptA @Dl)
theorem UC {g:FuncId} {c:Wy->Wy->Int} (h:afv g c) (W:List Wy) (gZ:W≠[]) (qA:(cB W).Nodup) (hW:W.length<=1000000) (xo:∀ w∈W,w.pre.length<=1000000) :
 FnB Tryz.prog G 89 [.mr 0,.c (.fn (.func g) [] [])] [wM W] (.ms 1 0 W.length W.length 6) [wM W,flb wyC (uS c W)]:=by
 refine jL (rs:=[.tmp 4]) (k:=1) [3000001,18,2400021,2300002,2300007,1000024] mixed Tryz.func89 rfl rfl rfl rfl (by kernel_rfl) (by simp) rfl rfl rfl (by simp only[lD,aY,bn,xe,aB,aF];rfl) (by simp) ?_;simp only[mE,seval];refine rm rfl (.warmT 5 (by simp[]) (.done ?_));simp only[mE,seval];refine CE (h:=wyV) (f:=faV) (l:=W.map λw=>(w.fact,w)) CU rfl rfl (show 0<1 by decide) ?_;rw[au];simp only[pkA];refine bz (λseen:List Nat=>hdS [(1,.c (.fn (.func g) [] [])),(5,gsY (td W seen)),(9,.it 0 W.length W.length seen)] [wM W])
  (λseen=>P9 (List.range W.length) seen) (λseen=>seen.Nodup/\∀ b∈seen,b<W.length) [] ⟨gI,by simp⟩ ?_ ?_
 .refine cg (by simp only[gz,aY,bn,xe,aB,aF];rfl) (ab 1) (ab _) (by simp[FL,aj,gsY,td]) ⟨rfl,trivial⟩
 rintro seen ⟨hsd,bF⟩ R bL bQ dq;have QV:=UB hsd bF;have MI:(W.map λw=>(w.fact,w)).length=W.length:=au ..
 simp only[mE,seval];rw[<- MI];refine Fe (h:=wyV) (f:=faV) (l:=W.map λw=>(w.fact,w)) (i:=0) (s:=⟨_,bxs [wM W],1⟩) rfl (cd 0) (λeE=>?_) (λb hb hn x y=>?_)
 .rw[MI] at eE
  simp only[pkA,seval];refine bQ _ _ ?_;have abg:=UA hsd bF eE;have cm:(td W seen).length=W.length:=abg.length_eq;have ale:td W seen≠[]:=λe=>gZ (by rw[e] at abg;exact List.Perm.nil_eq abg▸rfl);simp only[mE,seval];have mj:(td W seen).isEmpty=false:=by simpa using ale
  refine rm rfl (.boxT (g:=none) (e:=93) (sz:=6) (es:=(td W seen).map wyC) 5 (by show gsY _=_;unfold gsY;rw[mj];rfl) (.done ?_));have lG:((td W seen).map wyC).flatten.map V.c=flb wyC (td W seen):=rfl;simp only[mE,seval,lG,au];have hS:=Z6 (G:=G) h (td W seen) W (by omega) abg.symm ((List.Perm.nodup_iff (List.Perm.map Wy.fact abg)).2 qA) (td W seen).length (ab _);refine jM [1] rfl hS (by simp[V.fz,V.ren,rho]) rfl (by decide) rfl ⟨⟨show 1<2 by decide,by simp only[vo];rfl⟩,trivial⟩ ?_;intro bx' iE oW;have h0:bx' 0=wM W:=by rw[iE 0 (by decide)];rfl
  have h1:bx' 1=flb wyC (uS c W):=by rw[<- vo];exact oW 0 1 _ rfl rfl
  simp only[mE,seval];rw[<- cm];exact nO [(4,.ms 1 0 (td W seen).length (td W seen).length 6)] rfl (by simp only[gz,aY,bn,xe,afx,aB,aF];rfl) (Nat.le_succ 1) (ab _) ⟨by simp[],trivial⟩ ⟨h0,h1,trivial⟩ rfl
 .rw[MI] at hb
  simp only[mE,seval];refine N6 (h:=wyV) (f:=faV) (l:=W.map λw=>(w.fact,w)) (i:=0) (s:=⟨_,bxs [wM W],1⟩) (b:=b) rfl (cd 0) (by rw[MI];exact hb) ?_;rw[List.getElem_map];obtain⟨wb,hwb⟩:∃ w,w=W[b]:=⟨_,rfl⟩;rw[<- hwb];have hwm:wb∈W:=by rw[hwb];exact bT hb
  have r4:∀ (a b c d e f:V),eQ [a,b,c,d,e,f] 0 ((wyC wb).map .c)=(wyC wb).map .c:=λ_ _ _ _ _ _=>rfl;simp only[QE,seval,wyV,MI,r4];have hp:=xo wb hwm;refine aC rfl (FC (wb.pre.map faC) (sY kf _) (by rw[au];omega)) (λh=>by cases h) ?_;simp only[Z9,seval];refine⟨ab 6,?_⟩;have qx:∀ E es,eQ ((wyC wb).map .c) 5 [V.ow E es]=[.c (cI wb.fact.kind),.c (cI wb.fact.a),.c (cI wb.fact.b),.c (cI wb.round),.c (cI wb.rule),.ow E es]:=λ_ _=>rfl;have hld:∀ nb q E (K:V->Prop),ldA nb q [.c (cI wb.fact.kind),.c (cI wb.fact.a),.c (cI wb.fact.b),.c (cI wb.round),.c (cI wb.rule),V.ow E (wb.pre.map faC)] 0 6 K=(q<nb/\K (.agg (wyC wb))):=λnb q E K=>by unfold ldA;exact propext ⟨λh=>⟨h.1,h.2.2⟩,λh=>⟨h.1,⟨rfl,rfl⟩,h.2⟩⟩
  have ly:∀ E es,ck [.c (cI wb.fact.kind),.c (cI wb.fact.a),.c (cI wb.fact.b),.c (cI wb.round),.c (cI wb.rule),V.ow E es]=false:=λ_ _=>rfl;have hf6:mb 6 [(0,V.agg (wyC wb))] [[.lit (.int .i64 0),.lit (.int .i64 0),.lit (.int .i64 0),.lit (.int .i64 0),.lit (.int .i64 0),.sl []]]=some [wyC wb]:=rfl;simp only[Z9,seval,LC,qx,hld,ly,hf6,dx,wy];have aoR:(td W seen).length<=1000000:=by rw[Z8];omega
  refine afw (l:=td W seen) (w:=wb) (by simp[aj]) ⟨by decide,by simp⟩ rfl aoR ?_;simp only[pkA,seval,LC];have e0:td W (seen++[b])=td W seen++[wb]:=by unfold td;simp[hb,hwb]
  refine bL (seen++[b]) _ ⟨?_,λc hc=>?_⟩ (XG (dc.2 hb) hn) (cg (by simp only[gz,aY,bn,xe,aB,aF];rfl) (ab 1) (show 1<=2 by decide) ?_ ⟨by simp[aj,bxs],trivial⟩)
  .rw[iV]
   exact⟨hsd,by simp,λx hx y hy=>by simp at hy;subst hy;rintro rfl;exact hn hx⟩
  .rcases ba.1 hc with hc | hc
   .exact bF c hc
   .simp at hc;subst hc;exact hb
  .simp[FL,aj,e0]
theorem O0 {g:FuncId}:FnB Tryz.prog G 89 [.mr 0,.c (.fn (.func g) [] [])] [wM []] (.c (.sl [])) [wM []]:=by
 refine jL (rs:=[.tmp 4]) (k:=1) [3000001,18,2400021,2300002,2300007,1000024] mixed Tryz.func89 rfl rfl rfl rfl (by kernel_rfl) (by simp) rfl rfl rfl rfl (by simp) ?_;simp only[mE,seval];refine rm rfl (.warmT 5 (by simp[]) (.done ?_));simp only[mE,seval];refine CE (h:=wyV) (f:=faV) (l:=([]:List Wy).map λw=>(w.fact,w)) CU rfl rfl (show 0<1 by decide) ?_;simp only[pkA];refine bz (λ_:Unit=>hdS [(1,.c (.fn (.func g) [] [])),(5,.gs none none []),(9,.it 0 0 0 [])] [wM []]) (λ_=>0) (λ_=>True) () trivial ?_ ?_
 .exact cg rfl (ab 1) (ab _) (by simp[FL,aj]) ⟨rfl,trivial⟩
 rintro _ _ R bL bQ dq;simp only[mE,seval];refine Fe (h:=wyV) (f:=faV) (l:=([]:List Wy).map λw=>(w.fact,w)) (i:=0) (s:=⟨_,bxs [wM []],1⟩) rfl (cd 0) (λeE=>?_) (λb hb hn x y=>absurd hb (gW b));simp only[pkA,seval];refine bQ _ _ ?_;simp only[mE,seval];refine rm rfl (.coolT (g:=none) (E:=none) (es:=[]) 5 (by simp[aj]) (.done ?_));simp only[mE,seval];refine vj rfl (FnOK.toB Uz rfl) rfl ?_;simp only[mE,seval,fM,eT,V.ren];exact nO [(4,.c (.sl []))] rfl rfl (ab _) (ab _) ⟨by simp[],trivial⟩ ⟨rfl,trivial⟩ rfl
theorem LD {g:FuncId} {c:Wy->Wy->Int} (h:afv g c) {W:List Wy} (qA:(cB W).Nodup) (hW:W.length<=1000000) (xo:∀ w∈W,w.pre.length<=1000000) {a nb:Nat} {fr:Nat->V} {bx:Nat->List V} {K:Vl.S->V->Prop} (ha:a<nb) (h0:bx a=wM W)
 (hK0:W=[]->∀ bx':Nat->List V,(∀ j,j≠a->bx' j=bx j)->bx' a=wM []->K ⟨fr,bx',nb⟩ (.c (.sl [])))
 (hK1:W≠[]->∀ bx':Nat->List V,(∀ j,j≠a->j≠nb->bx' j=bx j)->bx' a=wM W->bx' nb=flb wyC (uS c W)->K ⟨fr,bx',nb+1⟩ (.ms nb 0 W.length W.length 6)) :
 vcallB Tryz.prog G ⟨fr,bx,nb⟩ (.c (.fn (.func 89) [] [])) [.mr a,.c (.fn (.func g) [] [])] K:=by
 by_cases gZ:W=[]
 .subst gZ
  refine jM [a] rfl (O0 (g:=g)) (by simp[V.fz,V.ren,rho]) rfl (by simp) rfl ⟨⟨by simp[rho,ha],by rw[Dm];simp[rho,h0]⟩,trivial⟩ ?_;intro bx' iE oW;refine hK0 rfl bx' (λj hj=>iE j (by simp[hj])) ?_;rw[<- Dm];exact oW 0 a _ rfl rfl
 .refine N5 (b1:=[wM W]) [a] rfl (UC h W gZ qA hW xo) (by simp[V.fz,V.ren,rho]) rfl (by simp) rfl ⟨⟨by simp[rho,ha],by rw[Dm];simp[rho,h0]⟩,trivial⟩ (by simp[ha]) ?_
  intro bx' iE oW hl;have:=hK1 gZ bx' (λj hj Gu=>iE j (by simp[hj]) Gu) (by rw[<- Dm];exact oW 0 a _ rfl rfl) (by rw[<- vo];exact hl);simpa[V.ren,rho] using this
open Go Go.Vl
def WyI (L:List In) (w:Wy):Prop:=∃ x∈L,w.rule=x.rule/\w.pre=x.pre/\w.fact∈x.con
theorem LF {L:List In} {num:Int} {x:In} (hx:x∈L):∀ (l:List Fa) (W:List Wy),(∀ f∈l,f∈x.con)->(∀ w∈W,WyI L w)->∀ w∈l.foldl (tP num x) W,WyI L w
 |[],_,_,h=>h
 |f::l,W,hl,h=>by
  rw[di];refine LF hx l _ (λg hg=>hl g (aP _ hg)) λw hw=>?_;unfold tP at hw;split at hw
  .exact h w hw
  .rcases ba.1 hw with hw | hw
   .exact h w hw
   .rw[aX] at hw;subst hw
    exact⟨x,hx,rfl,rfl,hl f (bD ..)⟩
theorem LG {L:List In} {num:Int}:∀ (l:List Wt) (W:List Wy),(∀ w∈l,w.x∈L)->(∀ w∈W,WyI L w)->∀ w∈lu num W l,WyI L w
 |[],_,_,h=>h
 |v::l,W,hl,h=>LG l (OR num W v.x) (λw hw=>hl w (aP _ hw)) (LF (hl v (bD ..)) _ _ (λ_ h=>h) h)
theorem aaa {L:List In} {D D':List Fa} {w:Wt} (h:w∈yA L D D'):w.x∈L:=by obtain⟨i,x,h1,rfl,_⟩:=yC.1 h;exact aV h1
theorem LH {L:List In}:∀ (n:Nat) (num:Int) (now:List Wt) (W:List Wy),(∀ w∈now,w.x∈L)->(cB W).Nodup->(∀ w∈W,WyI L w)->(cB (zo L n num now W)).Nodup/\∀ w∈zo L n num now W,WyI L w
 |0,_,_,_,_,h1,h2=>⟨h1,h2⟩
 |n+1,num,now,W,h0,h1,h2=>by
  unfold zo;split
  .exact⟨h1,h2⟩
  .exact LH n _ _ _ (λ_ h=>aaa h) (Bo _ _ h1) (LG _ _ h0 h2)
theorem uT (L:List In):(cB (vL L)).Nodup/\∀ w∈vL L,WyI L w:=LH _ _ _ _ (λ_ h=>QA h) gI (λ_ h=>by cases h)
theorem UD {L:List In} (h:kH L):(L.flatMap In.con).length<=2*L.length:=by
 induction L with
 |nil=>simp
 |cons x L ih=>rw[fX,ae,aB];have h1:=(h x (bD ..)).2;have h2:=ih λy hy=>h y (aP _ hy);omega
theorem Im {α:Type} [DecidableEq α] {l m:List α} (h:l.Nodup) (hs:∀ x∈l,x∈m):l.length<=m.length:=by
 induction l generalizing m with
 |nil=>simp
 |cons x l ih=>
  have h':=jN.1 h;have hx:=hs x (bD ..);have h2:=ih (m:=m.erase x) h'.2 λy hy=>by have gZ:y≠x:=(by rintro rfl;exact h'.1 hy);exact(List.mem_erase_of_ne gZ).2 (hs y (aP _ hy))
  rw[List.length_erase_of_mem hx] at h2;have:0<m.length:=List.length_pos_of_mem hx;rw[aB];omega
theorem aab {L:List In} (h:kH L):(vL L).length<=2*L.length:=by
 have h1:=uT L;have h2:=Im h1.1 (m:=L.flatMap In.con) λf hf=>by obtain⟨w,hw,rfl⟩:=bM.1 hf;obtain⟨x,hx,_,_,hc⟩:=h1.2 w hw;exact List.mem_flatMap.2 ⟨x,hx,hc⟩
 have h3:=UD h;unfold cB at h2;rw[au] at h2;omega
structure PolS (p:Pol):Prop where
 ty:p.types.length<=7
 ru:p.rules.length<=15
def yG (p:Pol):List Wy:=vL (fN p none)
theorem PolS.len {p:Pol} (h:PolS p):(fN p none).length<=20000:=ZV h.ty h.ru
theorem PolS.sat {p:Pol} (h:PolS p):(yG p).length<=40000:=by have h1:=h.len;have h2:(yG p).length<=2*(fN p none).length:=aab og;omega
theorem QF (p:Pol):(cB (yG p)).Nodup:=(uT _).1
theorem aac {p:Pol}:∀ w∈yG p,w.pre.length<=2:=λw hw=>by obtain⟨x,hx,_,h,_⟩:=(uT _).2 w hw;rw[h];exact(og x hx).1
theorem LI {p:Pol} (h:PolS p):FnB Tryz.prog G 90 [.agg (poC p)] [] (.mr 1) [(poC p).map .c,wM (yG p)]:=
 Ih p (by have:=h.ty;omega) (by have:=h.ru;omega) h.len og
def kq (p:Pol):List Wy:=uS As (yG p)
theorem tf (p:Pol):(kq p).length=(yG p).length:=(tc _ _).length_eq
theorem akB {p:Pol} {ρ:Nat->Nat}:((poC p).map V.c).map (V.ren ρ)=(poC p).map .c:=Vl.cells_ren
def agI:=jj @pkA (jj @ptA (jj @pkF @Dl))
theorem aad {p:Pol} (h:PolS p):FnOK Tryz.prog G 62 [.agg (poC p)] (.c (wsC (kq p))):=by
 refine bJ (rs:=[.tmp 2]) true [1000004,1000005] mixed Tryz.func62 rfl rfl rfl rfl (by kernel_rfl) (by simp) rfl rfl ?_;simp only[agI,seval];refine vj rfl (LI h) rfl ?_;simp only[mE,seval,V.ren,fM,akB,Dm];have arn:=h.sat;refine LD anD (QF p) (by omega) (λw hw=>by have:=aac w hw;omega) (show 2<3 by decide) (by simp[]) (λh0 bx' iE hb=>?_) (λh0 bx' iE hb hn=>?_)
 .simp only[mE,seval,Ba]
  have e:kq p=[]:=by unfold kq;rw[h0];simp[uS]
  rw[e];rfl
 .simp only[mE,seval,Ba]
  show Option.map V.c (nJ _ _ _ _ _)=some _;have hl:(uS As (yG p)).length=(yG p).length:=tf p;rw[Fb (c:=wyC) (l:=uS As (yG p)) (a:=0) yE (show 3<4 by decide) hn rfl (by omega),cx,fh (by omega)];rfl
def db (p:Pol):List Fa:=cB (kq p)
theorem aae {p:Pol} (h:PolS p):FnOK Tryz.prog G 43 [.agg (poC p)] (.c (fsC (db p))):=by
 refine bJ (rs:=[.tmp 2]) false [12] mixed Tryz.func43 rfl rfl rfl rfl (by kernel_rfl) (by simp) rfl rfl ?_;have arn:=h.sat;have Vb:=tf p;simp only[agI,seval];refine aC rfl (aad h) (λh=>by cases h) ?_;simp only[Z9,seval,wsC,au];refine bz (λi:Nat=>hdS [(2,owF ((db p).take i)),(6,.c (.sl ((kq p).map wyC))),(7,i64 (kq p).length),(8,i64 i)] []) (λi=>(kq p).length - i) (λi=>i<=(kq p).length) 0 (ar _) ?_ ?_
 .exact cg rfl (ar _) (ar _) (by simp[FL,aj,owF]) trivial
 rintro i hi R bL bQ dq;simp only[mE,seval];refine aD (λbF=>?_) (λfO=>?_)
 .have bF:i<(kq p).length:=by simpa using bF
  have hw:=br (n:=(i:Int)+1) (k:=i+1) (by omega) (by omega);have e1:((i+1:Nat):Int)=(i:Int)+1:=by omega
  simp only[mE,seval];refine dP FB rfl qe (by decide) (ay i) (c:=wyC (kq p)[i]) (by simp[bF]) rfl ?_;have r4:∀ (w:Wy) (a b c d e f:V),eQ [a,b,c,d,e,f] 0 ((wyC w).map .c)=(wyC w).map .c:=λ_ _ _ _ _ _ _=>rfl;simp only[QE,seval,r4];have r5:mb 3 [(0,V.agg (faC (kq p)[i].fact))] [[C.lit (Value.int IntKind.i64 0),C.lit (Value.int IntKind.i64 0),C.lit (Value.int IntKind.i64 0)]]=some [faC (kq p)[i].fact]:=rfl;simp only[QE,seval,kG,r5,dx];refine tJ (by rw[aQ];omega) ?_;simp only[mE,seval,kG,hw];have hfi:i<(db p).length:=by unfold db cB;rw[au];exact bF
  have e2:(db p).take (i+1)=(db p).take i++[(kq p)[i].fact]:=by have hg:(db p)[i]=(kq p)[i].fact:=List.getElem_map _;rw[aT hfi,hg]
  refine bL (i+1) _ bF (by omega) (cg rfl (ar _) (ar _) (by simp[FL,aj,e1,e2]) trivial)
 .have:i=(kq p).length:=by simp at fO;omega
  subst this;have lG:(kq p).length=(db p).length:=by unfold db cB;rw[au]
  simp only[pkA];refine bQ _ _ ?_;simp only[mE,seval,uD];rw[lG,bW];rfl
theorem Dy {p:Pol}:(qG p).length<=2*p.types.length:=bY (oL _) (yr p _)
