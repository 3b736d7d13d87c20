/- Layer 18: reasons in order: comparing, sorting. -/
import Derived.Test.YtjfjdomfldolcaaGreatVlX5
set_option linter.all false
namespace Go.Proofs.YtjfjdomfldolcaaGreat
open Go Go.Vl Go.Sort
variable {G:Gl}
set_option maxRecDepth 4000
def wsC (W:List Wy):C:=.sl (W.map wyC)
theorem qU (w:Wy):(wyC w).length=6:=rfl
section
variable {K:V→Prop} {nb q:Nat} {w:Wy}
theorem akJ:ldA nb q ((wyC w).map .c) 0 3 K=(q<nb∧K (.agg (faC w.fact))):=by
 unfold ldA
 exact propext ⟨fun h=>⟨h.1,h.2.2⟩,fun h=>⟨h.1,⟨rfl,rfl⟩,h.2⟩⟩
theorem akK:ldB nb q ((wyC w).map .c) 3 K=(q<nb∧K (i64 w.round)):=rfl
theorem akL:ldB nb q ((wyC w).map .c) 4 K=(q<nb∧K (i64 w.rule)):=rfl
theorem akM:ldB nb q ((wyC w).map .c) 5 K=(q<nb∧K (.c (fsC w.pre))):=rfl
theorem gwy:ldA nb q ((wyC w).map .c) 0 6 K=(q<nb∧K (.agg (wyC w))):=by
 unfold ldA
 exact propext ⟨fun h=>⟨h.1,h.2.2⟩,fun h=>⟨h.1,⟨rfl,rfl⟩,h.2⟩⟩
theorem akN {sz:Nat}:dC false sz 3 (wyC w) K=K (i64 w.round):=rfl
theorem akO {sz:Nat}:dC false sz 4 (wyC w) K=K (i64 w.rule):=rfl
theorem akP {sz:Nat}:dC false sz 5 (wyC w) K=K (.c (fsC w.pre)):=rfl
theorem Z8:cy ((wyC w).map V.c)=false:=rfl
end
def UO:=jj @aiB (jj @qU (jj @akJ (jj @akK (jj @akL (jj @akM (jj @gwy (jj @akN (jj @akO (jj @akP @Z8)))))))))
def yg (a b:Wy):Int:=wK a.fact b.fact
def tL (a b:Wy):Int:=orL [qE a.round b.round,wK a.fact b.fact]
def Nj:=jj @pkA (jj @ptA (jj @gj @UO))
def pZ:=jj @pkA @gj
theorem Ei (a b:Wy):FnOK Tryz.prog G 34 [.agg (wyC a),.agg (wyC b)] (i64 (yg a b)):=by
 refine cL (rs:=[.tmp 4]) false [] mixed Tryz.func34 rfl rfl rfl rfl (by kernel_rfl) (by simp) rfl rfl ?_
 simp only[Nj,seval]
 refine aB rfl (BZ _ _) (fun _=>rfl) ?_
 simp only[pZ,seval]
 rfl
def UP:=jj @pkA (jj @ptA @gj)
theorem LJ (a b:Wy):FnOK Tryz.prog G 31 [.agg (wyC a),.agg (wyC b)] (i64 (tL a b)):=by
 refine cL (rs:=[.tmp 4]) false [] mixed Tryz.func31 rfl rfl rfl rfl (by kernel_rfl) (by simp) rfl rfl ?_
 simp only[Nj,seval]
 refine aB rfl (oe _ _) (fun _=>rfl) ?_
 simp only[Nj,seval]
 refine aB rfl (Ei a b) (fun _=>rfl) ?_
 simp only[UP,seval]
 refine aB rfl (abr [qE a.round b.round,yg a b] (by simp)) (fun _=>rfl) ?_
 simp only[pZ,seval]
 rfl
theorem UQ (a b:Wy):ltOf yg a b=ltF a.fact b.fact:=gR a.fact b.fact
theorem y8 (a b:Wy):ltOf tL a b=decide (a.round<b.round∨(a.round=b.round∧ltF a.fact b.fact=true)):=by
 have e:(ltF a.fact b.fact=true)↔wK a.fact b.fact<0:=by rw[← gR];unfold ltOf;exact fJ
 unfold ltOf tL
 simp only[e]
 refine jg.2 ?_
 simp only[orL,qE]
 repeat' split
 all_goals omega
theorem aiD:SWO (ltOf yg) where
 irrefl x:=ltF_swo.irrefl x.fact
 trans x y z h1 h2:=ltF_swo.trans x.fact y.fact z.fact h1 h2
 ntrans x y z h1 h2:=ltF_swo.ntrans x.fact y.fact z.fact h1 h2
theorem UR (x:Fa):ltF x x=false:=by have:=ltF_swo.irrefl x;rwa [gR] at this
theorem US {x y z:Fa} (h1:ltF x y=true) (h2:ltF y z=true):ltF x z=true:=by have:=ltF_swo.trans x y z (by rwa [gR]) (by rwa [gR]);rwa [gR] at this
theorem UT {x y z:Fa} (h1:ltF x y=false) (h2:ltF y z=false):ltF x z=false:=by have:=ltF_swo.ntrans x y z (by rwa [gR]) (by rwa [gR]);rwa [gR] at this
theorem swo_r:SWO (ltOf tL) where
 irrefl x:=by rw[y8,UR];simp
 trans x y z h1 h2:=by
  rw[y8,fJ] at *
  rcases h1 with h1 | ⟨h1,h3⟩
  ·rcases h2 with h2 | ⟨h2,_⟩
   ·exact .inl (by omega)
   ·exact .inl (by omega)
  ·rcases h2 with h2 | ⟨h2,h4⟩
   ·exact .inl (by omega)
   ·exact .inr ⟨by omega,US h3 h4⟩
 ntrans x y z h1 h2:=by
  rw[y8,cQ] at *
  rintro(h | ⟨h,h3⟩)
  ·rcases Int.lt_trichotomy x.round y.round with h4 | h4 | h4
   ·exact h1 (.inl h4)
   ·exact h2 (.inl (by omega))
   ·exact h2 (.inl (by omega))
  ·have a1:¬ x.round<y.round:=fun q=>h1 (.inl q)
   have a2:¬ y.round<z.round:=fun q=>h2 (.inl q)
   have e1:x.round=y.round:=by omega
   have e2:y.round=z.round:=by omega
   have b1:ltF x.fact y.fact=false:=by rw[← iB];exact fun q=>h1 (.inr ⟨e1,q⟩)
   have b2:ltF y.fact z.fact=false:=by rw[← iB];exact fun q=>h2 (.inr ⟨e2,q⟩)
   rw[UT b1 b2] at h3;cases h3
structure UU (g:FuncId) (c:Wy→Wy→Int):Prop where
 ent:∀ args w,(callFunc g args).run Tryz.prog w=.ok (.enter g args) w
 ok:∀ x y,FnOK Tryz.prog gl0 g ([.agg (wyC x),.agg (wyC y)]++([]:List C).map .c) (i64 (c x y))
 swo:SWO (ltOf c)
 tot:∀ x y,ltOf c x y=false→ltOf c y x=false→x.fact=y.fact
theorem cmp_f:UU 34 yg:=
 ⟨enters_of Tryz.func34 (by kernel_rfl) rfl,fun x y=>Ei x y,aiD,fun x y h1 h2=>by rw[UQ] at h1 h2;exact sR h1 h2⟩
theorem cmp_r:UU 31 tL:=
 ⟨enters_of Tryz.func31 (by kernel_rfl) rfl,fun x y=>LJ x y,swo_r,fun x y h1 h2=>by
  rw[y8,cQ] at h1 h2
  have e:x.round=y.round:=by
   rcases Int.lt_trichotomy x.round y.round with h | h | h
   ·exact absurd (.inl h) h1
   ·exact h
   ·exact absurd (.inl h) h2
  refine sR ?_ ?_
  ·rw[← iB];exact fun q=>h1 (.inr ⟨e,q⟩)
  ·rw[← iB];exact fun q=>h2 (.inr ⟨e.symm,q⟩)⟩
def oh (c:Wy→Wy→Int) (W:List Wy):List Wy:=W.mergeSort fun x y=>!ltOf c y x
theorem jT (c:Wy→Wy→Int) (W:List Wy):(oh c W).Perm W:=List.mergeSort_perm ..
theorem sW {c:Wy→Wy→Int} (h:SWO (ltOf c)) (W:List Wy):(oh c W).Pairwise fun x y=>ltOf c y x=false:=by
 have:=List.pairwise_mergeSort (le:=fun x y=>!ltOf c y x) (fun x y z h1 h2=>by
  simp only[dJ] at *
  exact h.ntrans z y x h2 h1) (fun x y=>by
  simp only[eV,dJ]
  by_cases h1:ltOf c y x=true
  ·right
   rw[← iB]
   intro h2
   have:=h.trans x y x h2 h1
   rw[h.irrefl] at this;cases this
  ·left;simpa using h1) W
 exact this.imp fun h=>by simpa using h
theorem lA {W:List Wy} (h:(aL W).Nodup) {x y:Wy} (hx:x∈W) (hy:y∈W) (he:x.fact=y.fact):x=y:=by
 induction W with
 |nil=>cases hx
 |cons w W ih=>
  have h':w.fact∉aL W∧(aL W).Nodup:=gZ.1 h
  rcases aK.1 hx with e1 | h1
  ·rcases aK.1 hy with e2 | h2
   ·rw[e1,e2]
   ·exact absurd (bj.2 ⟨y,h2,by rw[← he,e1]⟩) h'.1
  ·rcases aK.1 hy with e2 | h2
   ·exact absurd (bj.2 ⟨x,h1,by rw[he,e2]⟩) h'.1
   ·exact ih h'.2 h1 h2
theorem IM:∃ fn,Tryz.prog.funcs[51]?=some fn∧(fn.name== "runtime.NumGoroutine")=false∧∃ b,fn.body=some b:=⟨_,Tryz.func51,rfl,_,rfl⟩
theorem UV {g:FuncId} {c:Wy→Wy→Int} (h:UU g c) (l m:List Wy) (hl:l.length<4611686018427387904) (hm:m.Perm l) (oZ:(aL l).Nodup) (cap:Nat) (hc:l.length≤cap) :
 FnB Tryz.prog G 51 [.ms 0 0 l.length cap 6,.c (.fn (.func g) [] [])] [flb wyC l] (.tup []) [flb wyC (oh c m)]:=
 If (ρ:=Tryz.sortWy_ren) Tryz.sortWy IM Tryz.isAgg48 Tryz.sizeOf48 qU (by decide) zwy [.int .i64 0,.int .i64 0,.int .i64 0,.int .i64 0,.int .i64 0,.slice none 0 0] rfl (fun v hv=>by simp at hv;rcases hv with rfl | rfl<;>rfl)
  (fun I w j x hx=>by
   match j with
   |0 | 1 | 2 | 3 | 4=>simp only[wyC,faC,zwy,cI,fa,eI,cw,dp,ao] at hx;subst hx;exact .lit _ rfl
   |5=>simp only[wyC,faC,zwy,cI,fsC,fa,eI,cw,dp,ao,lG] at hx;subst hx;exact .nil none 0 fun _=>rfl
   |j+6=>simp[wyC,faC] at hx)
  c h.swo g [] h.ent h.ok l (oh c m) hl ((jT c m).trans hm) (sW h.swo m) (fun x hx y hy h1 h2=>lA oZ hx hy (h.tot x y h1 h2)) cap hc
theorem PU {x:C}:FnOK Tryz.prog G 51 [.c (.sl []),.c x] (.tup []):=
 vP (ρ:=Tryz.sortWy_ren) Tryz.sortWy IM
theorem FnOK.toB {P:Program} {G:Gl} {f:FuncId} {args:List V} {r:V} (h:FnOK P G f args r) (ha:args.all (fun x=>match x with | .c _=>true | .agg _=>true | _=>false)=true):FnB P G f args [] r []:=by
 rw[ba] at ha
 refine⟨h.1,⟨fun x hx=>?_,fun b hb=>(by cases hb),ab _⟩,fun I M w vs β ob hI hg hB hs hv=>(h.2 I w vs hI hg hs (fun j x hx=>?_)).mono ?_⟩
 ·have:=ha x hx
  cases x<;>first | trivial | cases this
 ·have h1:=ha x (aQ hx)
  have h2:=hv j x hx
  cases x<;>first | exact h2 | cases h1
 ·rintro e w' ⟨v,I',h1,h2,h3,h4,o,h5,h6⟩
  refine⟨v,I',fun _=>none,fun _ _=>none,o,h1,⟨h2.os,h2.tape,h2.output,h2.size,fun k hk _=>h2.block k hk (by simp),h2.drawn⟩,h3,fun b o EN=>(h4 b o EN).imp id fun h=>⟨.inl h.1,h.2⟩,fun b o EN=>?_,fun i hi=>(by cases hi),fun i b _ hb=>(by cases hb),
   ⟨fun i cs jc=>by simp at jc,fun _ _=>rfl,fun _ _ _ h=>(by cases h),fun _ _ _ _ _ h=>(by cases h),fun _ _ _ _ h=>(by cases h),fun _ _ _ h=>(by cases h),fun _ _ _=>rfl⟩,h5.wider fun b hb=>.inl (h6 b hb).1,fun b hb=>⟨⟨(h6 b hb).2,.inl (h6 b hb).1⟩,fun _ _ h=>(by cases h),fun _ h=>(by cases h)⟩⟩
  have hb:=hI b o EN
  exact dQ (h2.block b hb (by simp))
theorem afh {P:Program} {G:Gl} {s:Vl.S} {T e:TypeId} {i j:TI} {sz:Nat} {E:Option (TypeId×Nat)} {es:List (List C)} {K:V→Prop} {t d:Nat} {y:Operand} {y1:List C} {by_:Nat} {z:List C} (hT:ti P T=some i) (hk:i.kd=.slice e) (hE:ti P e=some j) (hs:j.size=sz) (hb:j.bytes=by_) (hz:j.zero=some z) (hp:0<sz) (uc:z.length=sz) (h1:s.fr t=.gs none E es)
 (h0:t≠d∧y≠.tmp t) (hy:(vw s (ev G s y)).fz=.c (.sl [y1])) (hEE:E=none∨E=some (e,sz)) (pg:∀ x∈es,x.length=sz) (EJ:y1.length=sz) (hm:(es.length+1)*by_≤140737488355328) (hm2:es.length+1≤9223372036854775807)
 (hK:K (.gs none (some (e,sz)) (es++[y1]))):jl P G s (some d) [T,T] [.tmp t,y] K:=by
 obtain⟨kd',a1,a2,a3,a4,a5,a6⟩:=i;simp only at hk;subst hk
 obtain⟨b0,b1,b2,b3,b4,b5,b6⟩:=j;simp only at hs hb hz;subst hs;subst hb;subst hz
 unfold jl
 simp only[h1]
 refine⟨h0,?_⟩
 rw[hy]
 simp only[nh,hT,hE]
 exact⟨trivial,⟨hp,uc,hEE,pg⟩,⟨hm,hm2,EJ⟩,hK⟩
def gsY (l:List Wy):V:=.gs none (if l.isEmpty=true then none else some (48,6)) (l.map wyC)
theorem IP {l:List Wy}:(gsY l).isOw=true:=rfl
theorem UW {l:List Wy} {w:Wy}:V.gs none (some (48,6)) (l.map wyC++[wyC w])=gsY (l++[w]):=by
 unfold gsY;simp
theorem Z9 {s:Vl.S} {l:List Wy} {w:Wy} {t d:Nat} {y:Operand} {K:V→Prop} (h1:s.fr t=gsY l) (h0:t≠d∧y≠.tmp t) (hy:(vw s (ev G s y)).fz=.c (.sl [wyC w])) (hl:l.length≤1000000) (hK:K (gsY (l++[w]))) :
 jl Tryz.prog G s (some d) [31,31] [.tmp t,y] K:=by
 refine afh (E:=if l.isEmpty=true then none else some (48,6)) (es:=l.map wyC) (y1:=wyC w) (sz:=6) (by_:=64) kO rfl gX rfl rfl rfl (by decide) rfl h1 h0 hy ?_ (fun x hx=>by obtain⟨y,_,rfl⟩:=bj.1 hx;exact qU y) (qU w) (by rw[au];omega) (by rw[au];omega) ?_
 ·split
  ·exact .inl rfl
  ·exact .inr rfl
 ·rw[UW];exact hK
def sX (W:List Wy) (seen:List Nat):List Wy:=seen.map fun b=>W.getD b zwy
theorem UX {W:List Wy} {seen:List Nat}:(sX W seen).length=seen.length:=au ..
theorem LK {n:Nat} {l:List Nat} (oZ:l.Nodup) (h1:∀ b∈l,b<n) (h2:∀ b,b<n→b∈l):l.Perm (List.range n):=
 (fK oZ jh).2 fun b=>⟨fun h=>df.2 (h1 b h),fun h=>h2 b (df.1 h)⟩
theorem PV {W:List Wy} {seen:List Nat} (oZ:seen.Nodup) (h1:∀ b∈seen,b<W.length) (h2:∀ b,b<W.length→b∈seen):(sX W seen).Perm W:=by
 have e:(List.range W.length).map (fun b=>W.getD b zwy)=W:=by
  apply List.ext_getElem (by simp)
  intro i h3 h4
  simp[aw,h4]
 conv=>rhs;rw[← e]
 exact(LK oZ h1 h2).map _
theorem PW {l:List Nat} {n:Nat} (oZ:l.Nodup) (h:∀ b∈l,b<n):l.length≤n:=by
 have hp:l.Perm ((List.range n).filter fun b=>decide (b∈l)):=(fK oZ (jh.filter _)).2 fun b=>by
  simp only[cH,df,bJ]
  exact⟨fun hb=>⟨h b hb,hb⟩,fun hb=>hb.2⟩
 rw[hp.length_eq]
 exact bN (ck _ _) (by simp)
theorem aaa {m:Nat} {l:List Wy}:(flb wyC l).all (fun v=>v.ltB m)=true:=by
 rw[ba]
 intro v hv
 unfold flb at hv
 obtain⟨c,_,rfl⟩:=bj.1 hv
 rfl
set_option maxHeartbeats 4000000 in
theorem PX {g:FuncId} {c:Wy→Wy→Int} (h:UU g c) (W:List Wy) (gW:W≠[]) (oZ:(aL W).Nodup) (hW:W.length≤1000000) (uU:∀ w∈W,w.pre.length≤1000000) :
 FnB Tryz.prog G 30 [.mr 0,.c (.fn (.func g) [] [])] [wM W] (.ms 1 0 W.length W.length 6) [wM W,flb wyC (oh c W)]:=by
 refine lW (rs:=[.tmp 4]) (k:=1) [3000001,18,2400021,2300002,2300007,1000024] mixed Tryz.func30 rfl rfl rfl rfl (by kernel_rfl) (by simp) rfl rfl rfl (by simp only[nO,bR,cz,oM,aZ,aU];rfl) (by simp) ?_
 simp only[pZ,seval]
 refine rk rfl (.warmT 5 (by simp[]) (.done ?_))
 simp only[pZ,seval]
 refine BP (h:=wyV) (f:=faV) (l:=W.map fun w=>(w.fact,w)) xY rfl rfl (show 0<1 by decide) ?_
 rw[au]
 simp only[pkA]
 refine bE (fun seen:List Nat=>hdS [(1,.c (.fn (.func g) [] [])),(5,gsY (sX W seen)),(9,.it 0 W.length W.length seen)] [wM W])
  (fun seen=>MS (List.range W.length) seen) (fun seen=>seen.Nodup∧∀ b∈seen,b<W.length) [] ⟨fH,by simp⟩ ?_ ?_
 ·refine cD (by simp only[kR,bR,cz,oM,aZ,aU];rfl) (ab 1) (ab _) (by simp[FL,ak,gsY,sX]) ⟨rfl,trivial⟩
 rintro seen ⟨hsd,bK⟩ R cj cJ eP
 have Wx:=PW hsd bK
 have JR:(W.map fun w=>(w.fact,w)).length=W.length:=au ..
 simp only[pZ,seval]
 rw[← JR]
 refine DZ (h:=wyV) (f:=faV) (l:=W.map fun w=>(w.fact,w)) (i:=0) (s:=⟨_,bxs [wM W],1⟩) rfl (bQ 0) (fun eF=>?_) (fun b hb hn x y=>?_)
 ·rw[JR] at eF
  simp only[pkA,seval]
  refine cJ _ _ ?_
  have Wp:=PV hsd bK eF
  have cg:(sX W seen).length=W.length:=Wp.length_eq
  have agr:sX W seen≠[]:=fun e=>gW (by rw[e] at Wp;exact List.Perm.nil_eq Wp▸rfl)
  simp only[pZ,seval]
  have kU:(sX W seen).isEmpty=false:=by simpa using agr
  refine rk rfl (.boxT (g:=none) (e:=48) (sz:=6) (es:=(sX W seen).map wyC) 5 (by show gsY _=_;unfold gsY;rw[kU];rfl) (.done ?_))
  have kP:((sX W seen).map wyC).flatten.map V.c=flb wyC (sX W seen):=rfl
  simp only[pZ,seval,kP,au]
  have hS:=UV (G:=G) h (sX W seen) W (by omega) Wp.symm ((List.Perm.nodup_iff (List.Perm.map Wy.fact Wp)).2 oZ) (sX W seen).length (ab _)
  refine ml [1] rfl hS (by simp[V.fz,V.ren,rho]) rfl (by decide) rfl ⟨⟨show 1<2 by decide,by simp only[vl];rfl⟩,trivial⟩ ?_
  intro bx' ko vA
  have h0:bx' 0=wM W:=by rw[ko 0 (by decide)];rfl
  have h1:bx' 1=flb wyC (oh c W):=by rw[← vl];exact vA 0 1 _ rfl rfl
  simp only[pZ,seval]
  rw[← cg]
  exact tJ [(4,.ms 1 0 (sX W seen).length (sX W seen).length 6)] rfl (by simp only[kR,bR,cz,oM,aaa,aZ,aU];rfl) (Nat.le_succ 1) (ab _) ⟨by simp[],trivial⟩ ⟨h0,h1,trivial⟩ rfl
 ·rw[JR] at hb
  simp only[pZ,seval]
  refine Lh (h:=wyV) (f:=faV) (l:=W.map fun w=>(w.fact,w)) (i:=0) (s:=⟨_,bxs [wM W],1⟩) (b:=b) rfl (bQ 0) (by rw[JR];exact hb) ?_
  rw[j6]
  obtain⟨wb,hwb⟩:∃ w,w=W[b]:=⟨_,rfl⟩
  rw[← hwb]
  have hwm:wb∈W:=by rw[hwb];exact bL hb
  have r4:∀ (a b c d e f:V),fj [a,b,c,d,e,f] 0 ((wyC wb).map .c)=(wyC wb).map .c:=fun _ _ _ _ _ _=>rfl
  simp only[Nj,seval,wyV,JR,r4]
  have hp:=uU wb hwm
  refine aB rfl (Ec (wb.pre.map faC) (lz j0 _) (by rw[au];omega)) (fun h=>by cases h) ?_
  simp only[UP,seval]
  refine⟨ab 6,?_⟩
  have rA:∀ E es,fj ((wyC wb).map .c) 5 [V.ow E es]=[.c (cI wb.fact.kind),.c (cI wb.fact.a),.c (cI wb.fact.b),.c (cI wb.round),.c (cI wb.rule),.ow E es]:=fun _ _=>rfl
  have hld:∀ nb q E (K:V→Prop),ldA nb q [.c (cI wb.fact.kind),.c (cI wb.fact.a),.c (cI wb.fact.b),.c (cI wb.round),.c (cI wb.rule),V.ow E (wb.pre.map faC)] 0 6 K=(q<nb∧K (.agg (wyC wb))):=fun nb q E K=>by
   unfold ldA
   exact propext ⟨fun h=>⟨h.1,h.2.2⟩,fun h=>⟨h.1,⟨rfl,rfl⟩,h.2⟩⟩
  have kE:∀ E es,cy [.c (cI wb.fact.kind),.c (cI wb.fact.a),.c (cI wb.fact.b),.c (cI wb.round),.c (cI wb.rule),V.ow E es]=false:=fun _ _=>rfl
  have hf6:jY 6 [(0,V.agg (wyC wb))] [[.lit (.int .i64 0),.lit (.int .i64 0),.lit (.int .i64 0),.lit (.int .i64 0),.lit (.int .i64 0),.sl []]]=some [wyC wb]:=rfl
  simp only[UP,seval,IP,rA,hld,kE,hf6,cG,wh]
  have ajF:(sX W seen).length≤1000000:=by rw[UX];omega
  refine Z9 (l:=sX W seen) (w:=wb) (by simp[ak]) ⟨by decide,by simp⟩ rfl ajF ?_
  simp only[pkA,seval,IP]
  have e0:sX W (seen++[b])=sX W seen++[wb]:=by unfold sX;simp[hb,hwb]
  refine cj (seen++[b]) _ ⟨?_,fun c hc=>?_⟩ (S3 (df.2 hb) hn) (cD (by simp only[kR,bR,cz,oM,aZ,aU];rfl) (ab 1) (show 1≤2 by decide) ?_ ⟨by simp[ak,bxs],trivial⟩)
  ·rw[fU]
   exact⟨hsd,by simp,fun x hx y hy=>by simp at hy;subst hy;rintro rfl;exact hn hx⟩
  ·rcases aV.1 hc with hc | hc
   ·exact bK c hc
   ·simp at hc;subst hc;exact hb
  ·simp[FL,ak,e0]
theorem LL {g:FuncId}:FnB Tryz.prog G 30 [.mr 0,.c (.fn (.func g) [] [])] [wM []] (.c (.sl [])) [wM []]:=by
 refine lW (rs:=[.tmp 4]) (k:=1) [3000001,18,2400021,2300002,2300007,1000024] mixed Tryz.func30 rfl rfl rfl rfl (by kernel_rfl) (by simp) rfl rfl rfl rfl (by simp) ?_
 simp only[pZ,seval]
 refine rk rfl (.warmT 5 (by simp[]) (.done ?_))
 simp only[pZ,seval]
 refine BP (h:=wyV) (f:=faV) (l:=([]:List Wy).map fun w=>(w.fact,w)) xY rfl rfl (show 0<1 by decide) ?_
 simp only[pkA]
 refine bE (fun _:Unit=>hdS [(1,.c (.fn (.func g) [] [])),(5,.gs none none []),(9,.it 0 0 0 [])] [wM []]) (fun _=>0) (fun _=>True) () trivial ?_ ?_
 ·exact cD rfl (ab 1) (ab _) (by simp[FL,ak]) ⟨rfl,trivial⟩
 rintro _ _ R cj cJ eP
 simp only[pZ,seval]
 refine DZ (h:=wyV) (f:=faV) (l:=([]:List Wy).map fun w=>(w.fact,w)) (i:=0) (s:=⟨_,bxs [wM []],1⟩) rfl (bQ 0) (fun eF=>?_) (fun b hb hn x y=>absurd hb (fL b))
 simp only[pkA,seval]
 refine cJ _ _ ?_
 simp only[pZ,seval]
 refine rk rfl (.coolT (g:=none) (E:=none) (es:=[]) 5 (by simp[ak]) (.done ?_))
 simp only[pZ,seval]
 refine rO rfl (FnOK.toB PU rfl) rfl ?_
 simp only[pZ,seval,gz,eC,V.ren]
 exact tJ [(4,.c (.sl []))] rfl rfl (ab _) (ab _) ⟨by simp[],trivial⟩ ⟨rfl,trivial⟩ rfl
theorem zO {g:FuncId} {c:Wy→Wy→Int} (h:UU g c) {W:List Wy} (oZ:(aL W).Nodup) (hW:W.length≤1000000) (uU:∀ w∈W,w.pre.length≤1000000) {a nb:Nat} {fr:Nat→V} {bx:Nat→List V} {K:Vl.S→V→Prop} (ha:a<nb) (h0:bx a=wM W)
 (hK0:W=[]→∀ bx':Nat→List V,(∀ j,j≠a→bx' j=bx j)→bx' a=wM []→K ⟨fr,bx',nb⟩ (.c (.sl [])))
 (hK1:W≠[]→∀ bx':Nat→List V,(∀ j,j≠a→j≠nb→bx' j=bx j)→bx' a=wM W→bx' nb=flb wyC (oh c W)→K ⟨fr,bx',nb+1⟩ (.ms nb 0 W.length W.length 6)) :
 vcallB Tryz.prog G ⟨fr,bx,nb⟩ (.c (.fn (.func 30) [] [])) [.mr a,.c (.fn (.func g) [] [])] K:=by
 by_cases gW:W=[]
 ·subst gW
  refine ml [a] rfl (LL (g:=g)) (by simp[V.fz,V.ren,rho]) rfl (by simp) rfl ⟨⟨by simp[rho,ha],by rw[rn];simp[rho,h0]⟩,trivial⟩ ?_
  intro bx' ko vA
  refine hK0 rfl bx' (fun j hj=>ko j (by simp[hj])) ?_
  rw[← rn];exact vA 0 a _ rfl rfl
 ·refine Lf (b1:=[wM W]) [a] rfl (PX h W gW oZ hW uU) (by simp[V.fz,V.ren,rho]) rfl (by simp) rfl ⟨⟨by simp[rho,ha],by rw[rn];simp[rho,h0]⟩,trivial⟩ (by simp[ha]) ?_
  intro bx' ko vA hl
  have:=hK1 gW bx' (fun j hj EO=>ko j (by simp[hj]) EO) (by rw[← rn];exact vA 0 a _ rfl rfl) (by rw[← vl];exact hl)
  simpa[V.ren,rho] using this
