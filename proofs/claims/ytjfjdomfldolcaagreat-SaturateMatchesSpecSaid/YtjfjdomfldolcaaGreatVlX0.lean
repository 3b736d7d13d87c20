/- Layer 17: sorting facts: slices.SortFunc, Clone, Compact. -/
import Derived.Test.YtjfjdomfldolcaaGreatVlH1
import Derived.Test.YtjfjdomfldolcaaGreatSrt
import Derived.Test.YtjfjdomfldolcaaGreatVlSrt
import Derived.Test.YtjfjdomfldolcaaGreatVlFlb
set_option maxHeartbeats 1000000
set_option linter.all false
namespace Go.Proofs.YtjfjdomfldolcaaGreat
open Go Go.Vl
variable {G:Gl}
set_option maxRecDepth 4000
def ltF (x y:Fa):Bool:=decide (x.kind<y.kind∨(x.kind=y.kind∧(x.a<y.a∨(x.a=y.a∧x.b<y.b))))
theorem gR (x y:Fa):ltOf wK x y=ltF x y:=by
 have h:wK x y<0↔(x.kind<y.kind∨(x.kind=y.kind∧(x.a<y.a∨(x.a=y.a∧x.b<y.b)))):=by
  unfold wK
  simp only[orL,qE]
  repeat' split
  all_goals omega
 unfold ltOf ltF
 exact jg.2 h
theorem Ly {x y:Fa} (h1:x.kind=y.kind) (h2:x.a=y.a) (h3:x.b=y.b):x=y:=by cases x;cases y;simp_all
theorem ltF_swo:Go.Sort.SWO (ltOf wK) where
 irrefl x:=by rw[gR];unfold ltF;simp
 trans x y z h1 h2:=by rw[gR] at *;unfold ltF at *;simp only[bJ] at *;omega
 ntrans x y z h1 h2:=by rw[gR] at *;unfold ltF at *;simp only[cQ] at *;omega
theorem sR {x y:Fa} (h1:ltF x y=false) (h2:ltF y x=false):x=y:=by
 unfold ltF at *
 simp only[cQ] at *
 exact Ly (by omega) (by omega) (by omega)
def leF (x y:Fa):Bool:=!ltF y x
def qS (l:List Fa):List Fa:=l.mergeSort leF
theorem wL (l:List Fa):(qS l).Perm l:=List.mergeSort_perm l leF
theorem rV (l:List Fa):(qS l).length=l.length:=(wL l).length_eq
theorem x5 (l:List Fa):(qS l).Pairwise fun x y=>ltF y x=false:=by
 have:=List.pairwise_mergeSort (le:=leF) (fun x y z h1 h2=>by unfold leF ltF at *;simp only[dJ,cQ] at *;omega) (fun x y=>by
  unfold leF ltF;simp only[eV,dJ,cQ];omega) l
 exact this.imp fun h=>by unfold leF at h;simpa using h
theorem M7:∃ fn,Tryz.prog.funcs[71]?=some fn∧(fn.name== "runtime.NumGoroutine")=false∧∃ b,fn.body=some b:=⟨_,Tryz.func71,rfl,_,rfl⟩
def abt (G:Gl) (g:FuncId) (cs:List C):Prop:=(∀ args w,(callFunc g args).run Tryz.prog w=.ok (.enter g args) w)∧∀ x y:Fa,FnOK Tryz.prog G g ([.agg (faC x),.agg (faC y)]++cs.map .c) (i64 (wK x y))
theorem IB:abt G 53 []:=⟨enters_of Tryz.func53 (by kernel_rfl) rfl,fun x y=>BZ x y⟩
theorem ZT {g:FuncId} {cs:List C} (h:abt gl0 g cs) (l:List Fa) (hl:l.length<4611686018427387904) (cap:Nat) (hc:l.length≤cap) :
 FnB Tryz.prog G 71 [.ms 0 0 l.length cap 3,.c (.fn (.func g) [] cs)] [flb faC l] (.tup []) [flb faC (qS l)]:=
 If (ρ:=Tryz.sortFa_ren) Tryz.sortFa M7 Tryz.isAgg28 Tryz.sizeOf28 j0 (by decide) ⟨0,0,0⟩ [.int .i64 0,.int .i64 0,.int .i64 0] rfl (fun v hv=>by simp at hv;rcases hv with rfl | rfl | rfl<;>rfl)
  (fun I w j x hx=>by
   match j with
   |0 | 1 | 2=>simp only[faC,cI,cw,dp,ao] at hx;subst hx;exact .lit _ rfl
   |j+3=>simp[faC] at hx)
  wK ltF_swo g cs h.1 h.2 l (qS l) hl (wL l) ((x5 l).imp fun h=>by rw[gR];exact h) (fun x _ y _ h1 h2=>by rw[gR] at h1 h2;exact sR h1 h2) cap hc
theorem Ut {x:C}:FnOK Tryz.prog G 71 [.c (.sl []),.c x] (.tup []):=
 vP (ρ:=Tryz.sortFa_ren) Tryz.sortFa M7
def M8:=jj @pkA @ptA
theorem PL (es:List (List C)) (gW:es≠[]) (hl:∀ e∈es,e.length=3) (hm:es.length<1000000000) :
 FnB Tryz.prog G 50 [.c (.sl es)] [] (.ms 0 0 es.length es.length 3) [es.flatten.map .c]:=by
 refine lW (rs:=[.tmp 2]) (k:=0) [2000007] mixed Tryz.func50 rfl rfl rfl rfl (by kernel_rfl) (by simp) rfl rfl rfl rfl (by simp) ?_
 have kU:es.isEmpty=false:=by simpa using gW
 simp only[M8,seval,MP fk rfl gW]
 rw[y6]
 refine⟨⟨.inl rfl,by simp⟩,⟨by simp only[aU,aX];omega,by simp only[aU,aX];omega,hl⟩,?_⟩
 simp only[pkA,seval,kU]
 refine tJ [(2,.ms 0 0 es.length es.length 3)] rfl ?_ (by simp) (by simp) (by simp[FL]) (by simp[BL]) rfl
 simp only[kR,bR,cz,vh,aZ,aU];rfl
theorem Ec (es:List (List C)) (hl:∀ e∈es,e.length=3) (hm:es.length<1000000000) :
 FnOK Tryz.prog G 50 [.c (.sl es)] (.ow (if es.isEmpty then none else some (28,3)) es):=by
 refine cL (rs:=[.tmp 2]) false [7] mixed Tryz.func50 rfl rfl rfl rfl (by kernel_rfl) (by simp) rfl rfl ?_
 by_cases gW:es=[]
 ·subst gW
  simp only[M8,seval,SQ fk rfl]
  rw[y6]
  refine⟨⟨.inl rfl,by simp⟩,⟨by simp,by simp,by simp⟩,?_⟩
  simp only[pkA,seval]
 ·have kU:es.isEmpty=false:=by simpa using gW
  simp only[M8,seval,MP fk rfl gW]
  rw[y6]
  refine⟨⟨.inl rfl,by simp⟩,⟨by simp only[aU,aX];omega,by simp only[aU,aX];omega,hl⟩,?_⟩
  simp only[pkA,seval,kU]
structure Wt where
 x:In
 order:Int
 missing:Int
 deriving DecidableEq
def wtC (w:Wt):List C:=inC w.x++[cI w.order,cI w.missing]
theorem pw3 {w:Wt} {K:V→Prop}:dC false 1 3 (wtC w) K=K (i64 w.order):=rfl
theorem ZU (a b:Wt):FnOK Tryz.prog G 49 [.c (.rp (wtC a) 0),.c (.rp (wtC b) 0)] (i64 (qE a.order b.order)):=by
 refine cL (rs:=[.tmp 4]) false [] mixed Tryz.func49 rfl rfl rfl rfl (by kernel_rfl) (by simp) rfl rfl ?_
 simp only[M8,seval,pw3]
 refine aB rfl (oe _ _) (fun _=>rfl) ?_
 simp only[pkA,seval]
open Go Go.Vl Go.Sort
def wtP (w:Wt):C:=.rp (wtC w) 0
def ZV (a b:Wt):Int:=qE a.order b.order
theorem rW (a b:Wt):ltOf ZV a b=decide (a.order<b.order):=by
 simp only[ltOf,ZV,qE]
 by_cases h:a.order<b.order
 ·simp[h]
 ·by_cases h2:b.order<a.order<;>simp[h,h2]
theorem Uu:SWO (ltOf ZV):=⟨fun x=>by rw[rW];simp,fun x y z h1 h2=>by rw[rW] at *;simp at *;omega,fun x y z h1 h2=>by rw[rW] at *;simp at *;omega⟩
theorem Uv:∃ fn,Tryz.prog.funcs[48]?=some fn∧(fn.name== "runtime.NumGoroutine")=false∧∃ b,fn.body=some b:=⟨_,Tryz.func48,rfl,_,rfl⟩
theorem Uw (l l':List Wt) (gW:0<l.length) (hl:l.length<4611686018427387904) (hp:l'.Perm l) (hs:l'.Pairwise fun x y=>x.order≤y.order) (hu:∀ x∈l,∀ y∈l,x.order=y.order→x=y) (cap:Nat) (hc:l.length≤cap) :
 FnB Tryz.prog G 48 [.ms 0 0 l.length cap 1,.c (.fn (.func 49) [] [])] [flb (fun x=>[wtP x]) l] (.tup []) [flb (fun x=>[wtP x]) l']:=
 Pv (ρ:=Tryz.sortWt_ren) (c1:=wtP) Tryz.sortWt Uv ZV Uu 49 [] (enters_of Tryz.func49 (by kernel_rfl) rfl) (fun x y=>ZU x y)
  l l' gW hl hp (hs.imp fun h=>by rw[rW];simpa using h) (fun x hx y hy h1 h2=>by rw[rW] at h1 h2;simp at h1 h2;exact hu x hx y hy (by omega)) cap hc
inductive It where
 |ob (i:Nat)
 |us (f:Fa)
 deriving DecidableEq
def obP (b:Nat):C:=.ex (.pointer (some ⟨b,0,none⟩))
def obV (b:Nat):V:=.c (obP b)
def obG (b:Nat) (w:Wt):V:=.gg (.slice (some ⟨b,0,none⟩) 1 1) (some (80,5)) [wtC w]
def usG (v:Value) (l:List Nat):V:=.gg v (some (78,1)) (l.map fun b=>[obP b])
structure Me where
 its:List It
 bl:Nat→Nat
 hd:Fa→Value
def rX (m:Me) (ob:Nat→Option Wt) (u:Fa→List Nat):It→V
 | .ob i=>match ob i with
  |some w=>obG (m.bl i) w
  |none=>.un
 | .us f=>usG (m.hd f) ((u f).map m.bl)
def cells (m:Me) (ob:Nat→Option Wt) (u:Fa→List Nat):List V:=m.its.map (rX m ob u)
structure Mw (m:Me) (n:Nat) (keys:List Fa) (u:Fa→List Nat):Prop where
 nd:m.its.Nodup
 us:∀ f,It.us f∈m.its↔f∈keys
 ob:∀ i,It.ob i∈m.its↔i<n
 hd:∀ f∈keys,∃ blk cap,m.hd f=.slice (some ⟨blk,0,none⟩) (u f).length cap
 lt:∀ f,∀ i∈u f,i<n
 ku:∀ f,f∉keys→u f=[]
 kn:keys.Nodup
def upF {β:Type} (h:Fa→β) (f:Fa) (v:β):Fa→β:=fun g=>if g=f then v else h g
theorem og {β:Type} {h:Fa→β} {f:Fa} {v:β}:upF h f v f=v:=if_pos rfl
theorem rm {β:Type} {h:Fa→β} {f g:Fa} {v:β} (hn:g≠f):upF h f v g=h g:=if_neg hn
def upO {β:Type} (ob:Nat→β) (i:Nat) (w:β):Nat→β:=fun j=>if j=i then w else ob j
theorem x6 {β:Type} {ob:Nat→β} {i:Nat} {w:β}:upO ob i w i=w:=if_pos rfl
theorem Lz {β:Type} {ob:Nat→β} {i j:Nat} {w:β} (hn:j≠i):upO ob i w j=ob j:=if_neg hn
theorem nP {α β:Type} {f g:α→β} {a:α}:∀ {l:List α} {c:Nat},l.Nodup→l[c]?=some a→(∀ x∈l,x≠a→f x=g x)→(l.map f).set c (g a)=l.map g
 |[],_,_,h,_=>by simp at h
 |x::l,0,hn,h,hg=>by
  simp only[cw,ao] at h;subst h
  rw[bA,ky,bA]
  congr 1
  refine bT fun y hy=>hg y (aD _ hy) ?_
  rintro rfl
  exact(gZ.1 hn).1 hy
 |x::l,c+1,hn,h,hg=>by
  rw[bA,ju,bA,nP (gZ.1 hn).2 h fun y hy=>hg y (aD _ hy)]
  congr 1
  refine hg x (a8 ..) ?_
  rintro rfl
  exact(gZ.1 hn).1 (aQ h)
section
variable {m:Me} {n:Nat} {keys:List Fa} {u:Fa→List Nat} {ob:Nat→Option Wt}
theorem PM (h:Mw m n keys u) (b:Nat) (w:Wt):cells ⟨m.its++[.ob n],upO m.bl n b,m.hd⟩ (upO ob n (some w)) u=cells m ob u++[obG b w]:=by
 unfold cells
 rw[dj,gk]
 congr 1
 ·refine bT fun it hit=>?_
  cases it with
  |ob i=>
   have:=(h.ob i).1 hit
   have gW:i≠n:=by omega
   simp only[rX,Lz gW]
  |us f=>
   simp only[rX]
   congr 1
   refine bT fun i hi=>?_
   have:=h.lt f i hi
   exact Lz (by omega)
 ·simp only[rX,x6]
theorem Mw.new (h:Mw m n keys u) (b:Nat):Mw ⟨m.its++[.ob n],upO m.bl n b,m.hd⟩ (n+1) keys u where
 nd:=by
  rw[fU]
  refine⟨h.nd,by simp,fun x hx y hy=>?_⟩
  simp only[a7] at hy;subst hy
  rintro rfl
  have:=(h.ob n).1 hx;omega
 us:=fun f=>by simp[h.us f]
 ob:=fun i=>by
  simp only[aV,h.ob i,a7,It.ob.injEq];omega
 hd:=h.hd
 lt:=fun f i hi=>by have:=h.lt f i hi;omega
 ku:=h.ku
 kn:=h.kn
theorem x7 {it:It} (hit:it∈m.its):∃ c,c<m.its.length∧m.its[c]?=some it∧(cells m ob u)[c]?=some (rX m ob u it):=by
 obtain⟨c,hc⟩:=da.1 hit
 refine⟨c,(ah.1 hc).1,hc,?_⟩
 unfold cells
 rw[bb,hc];rfl
theorem Ed:(cells m ob u).length=m.its.length:=au ..
theorem LA (h:Mw m n keys u) {f:Fa} {c:Nat} (hc:m.its[c]?=some (.us f)) (v:Value) (i:Nat):(cells m ob u).set c (usG v ((u f++[i]).map m.bl))=cells ⟨m.its,m.bl,upF m.hd f v⟩ ob (upF u f (u f++[i])):=by
 unfold cells
 have e:usG v ((u f++[i]).map m.bl)=rX ⟨m.its,m.bl,upF m.hd f v⟩ ob (upF u f (u f++[i])) (.us f):=by simp only[rX,og]
 rw[e]
 refine nP h.nd hc fun it hit gW=>?_
 cases it with
 |ob j=>rfl
 |us g=>
  have hg:g≠f:=fun e=>gW (by rw[e])
  simp only[rX,rm hg]
theorem IC (h:Mw m n keys u) {f:Fa} (hf:f∉keys) (v:Value) (i:Nat):cells ⟨m.its++[.us f],m.bl,upF m.hd f v⟩ ob (upF u f (u f++[i]))=cells m ob u++[usG v ((u f++[i]).map m.bl)]:=by
 unfold cells
 rw[dj,gk]
 congr 1
 ·refine bT fun it hit=>?_
  cases it with
  |ob i=>rfl
  |us g=>
   have hg:g≠f:=by rintro rfl;exact hf ((h.us g).1 hit)
   simp only[rX,rm hg]
 ·simp only[rX,og]
theorem Mw.more (h:Mw m n keys u) {f:Fa} (hf:f∈keys) {v:Value} {i:Nat} (hi:i<n) (hv:∃ blk cap,v=.slice (some ⟨blk,0,none⟩) (u f++[i]).length cap):Mw ⟨m.its,m.bl,upF m.hd f v⟩ n keys (upF u f (u f++[i])) where
 nd:=h.nd
 us:=h.us
 ob:=h.ob
 hd:=fun g hg=>by
  by_cases e:g=f
  ·subst e;simp only[og];exact hv
  ·simp only[rm e];exact h.hd g hg
 lt:=fun g j hj=>by
  by_cases e:g=f
  ·subst e;rw[og] at hj
   rcases aV.1 hj with h2 | h2
   ·exact h.lt g j h2
   ·simp only[a7] at h2;omega
  ·rw[rm e] at hj;exact h.lt g j hj
 ku:=fun g hg=>by
  have e:g≠f:=by rintro rfl;exact hg hf
  rw[rm e];exact h.ku g hg
 kn:=h.kn
theorem Mw.first (h:Mw m n keys u) {f:Fa} (hf:f∉keys) {v:Value} {i:Nat} (hi:i<n) (hv:∃ blk cap,v=.slice (some ⟨blk,0,none⟩) (u f++[i]).length cap):Mw ⟨m.its++[.us f],m.bl,upF m.hd f v⟩ n (keys++[f]) (upF u f (u f++[i])) where
 nd:=by
  rw[fU]
  refine⟨h.nd,by simp,fun x hx y hy=>?_⟩
  simp only[a7] at hy;subst hy
  rintro rfl
  exact hf ((h.us f).1 hx)
 us:=fun g=>by simp[h.us g]
 ob:=fun j=>by simp[h.ob j]
 hd:=fun g hg=>by
  by_cases e:g=f
  ·subst e;simp only[og];exact hv
  ·simp only[rm e]
   refine h.hd g ?_
   rcases aV.1 hg with h2 | h2
   ·exact h2
   ·simp only[a7] at h2;exact absurd h2 e
 lt:=fun g j hj=>by
  by_cases e:g=f
  ·subst e;rw[og] at hj
   rcases aV.1 hj with h2 | h2
   ·exact h.lt g j h2
   ·simp only[a7] at h2;omega
  ·rw[rm e] at hj;exact h.lt g j hj
 ku:=fun g hg=>by
  have e:g≠f:=by rintro rfl;exact hg (by simp)
  rw[rm e];exact h.ku g fun h2=>hg (ee _ h2)
 kn:=by
  rw[fU]
  refine⟨h.kn,by simp,fun x hx y hy=>?_⟩
  simp only[a7] at hy;subst hy
  rintro rfl;exact hf hx
theorem B0 (h:Mw m n keys u) {i c:Nat} (hc:m.its[c]?=some (.ob i)) (w:Option Wt):(cells m ob u).set c (match w with | some w=>obG (m.bl i) w | none=>.un)=cells m (upO ob i w) u:=by
 unfold cells
 have e:(match w with | some w=>obG (m.bl i) w | none=>V.un)=rX m (upO ob i w) u (.ob i):=by simp only[rX,x6]
 rw[e]
 refine nP h.nd hc fun it hit gW=>?_
 cases it with
 |ob j=>
  have hj:j≠i:=fun e=>gW (by rw[e])
  simp only[rX,Lz hj]
 |us g=>rfl
end
def exV (v:Value):V:=.c (.ex v)
def faV (f:Fa):V:=.agg (faC f)
def uM (l:List (Fa×Value)):List V:=pN faV exV l
def hds (keys:List Fa) (hd:Fa→Value):List (Fa×Value):=keys.map fun f=>(f,hd f)
theorem M9 {keys:List Fa} {hd:Fa→Value}:(hds keys hd).map (·.1)=keys:=by
 unfold hds;rw[gG];exact List.map_id keys
theorem Ux {ρ:Nat→Nat} {l:List (Fa×Value)}:(uM l).map (V.ren ρ)=uM l:=H9 (fun _=>rfl) fun _=>rfl
theorem Gf {k:Nat} {l:List (Fa×Value)}:(uM l).all (fun x=>x.ltB k)=true:=Ia (fun _=>rfl) fun _=>rfl
theorem ZW:∀ w,(zeroValue 73).run Tryz.prog w=.ok (.slice none 0 0) w:=fun w=>rfl
theorem ae3:Tryz.prog.underlying 72=some (.map 28 73):=by kernel_rfl
theorem abu {s:Vl.S} {i:Nat} {l:List (Fa×Value)} {f:Fa} (hb:s.bx i=uM l) (hi:i<s.nb) {KM:Nat→List Nat→Nat→List V→Option Nat→V→Prop}
 (hK:KM i (List.range l.length) l.length (qD faV exV l) (uA l f) (.c (.sl []))):ij Tryz.prog 72 s (.mr i) (faV f) KM:=
 AO (c:=faC) Ik rfl eY rfl nq rfl ahV (fun _=>rfl) (fun _=>rfl) D7 hb hi hK
theorem aiu {s:Vl.S} {i:Nat} {l:List (Fa×Value)} {f:Fa} {K:Vl.S→V→Prop} (hb:s.bx i=uM l) (hi:i<s.nb) (h1:∀ (j:Nat) (v:Value),l[j]?=some (f,v)→K s (.tup [exV v,i64 j]))
 (h2:f∉l.map (·.1)→K { s with bx:=up s.bx i (uM (l++[(f,.slice none 0 0)])) } (.tup [nilC,i64 l.length])):J8 Tryz.prog 72 s (.mr i) (faV f) K:=by
 refine⟨_,_,⟨ae3,ZW⟩,abu hb hi ?_⟩
 cases hj:uA l f with
 |none=>
  have h3:=h2 (y4 hj)
  have e:List.range (l++[(f,Value.slice none 0 0)]).length=List.range l.length++[l.length]:=by rw[ai,bF,List.range_succ]
  unfold uM pN at h3
  rw[e,uy,ai,bF] at h3
  exact h3
 |some j=>
  obtain⟨v,hv⟩:=mn hj
  have e:=(rN (f:=faV) (h:=exV) l j (f,v) hv).1
  have bK:=(ah.1 hv).1
  have e2:(List.range l.length).getD j 0=j:=by simp[aw,bK]
  simp only[e,e2]
  exact h1 j v hv
theorem abv {s:Vl.S} {i j:Nat} {l:List (Fa×Value)} {f:Fa} {v0 v:Value} {K:Vl.S→Prop} (hb:s.bx i=uM l) (hi:i<s.nb) (hj:l[j]?=some (f,v0)) (hK:K { s with bx:=up s.bx i (uM (l.set j (f,v))) }):fN s (.mr i) (i64 j) (exV v) K:=by
 have bK:=(ah.1 hj).1
 unfold fN
 simp only[hb,uM,pN]
 have hf:(List.range l.length).findIdx? (fun(b:Nat)=>(b:Int)==(j:Int))=some j:=by
  rw[eG]
  refine⟨by simpa using bK,by simp,fun k hk=>by simp;omega⟩
 simp only[hf]
 refine⟨hi,?_⟩
 unfold uM pN at hK
 rw[gf] at hK
 rw[show(exV v).fz=exV v from rfl,BJ l j f v0 v hj]
 exact hK
theorem ZX {s:Vl.S} {i:Nat} {l:List (Fa×Value)} {f:Fa} {K:V→Prop} (hb:s.bx i=uM l) (hi:i<s.nb) (h1:∀ v,(f,v)∈l→K (exV v)) (h2:f∉l.map (·.1)→K (.c (.sl []))):fM Tryz.prog 72 s (.mr i) (faV f) false K:=by
 unfold fM
 refine abu hb hi ?_
 cases hj:uA l f with
 |none=>exact h2 (y4 hj)
 |some j=>
  obtain⟨v,hv⟩:=mn hj
  have e:=(rN (f:=faV) (h:=exV) l j (f,v) hv).1
  simp only[e,aY,dm]
  exact h1 v (aQ hv)
theorem ZY {keys:List Fa} {hd:Fa→Value} {f:Fa} {j:Nat} {v v0:Value} (hn:keys.Nodup) (hj:(hds keys hd)[j]?=some (f,v0)):(hds keys hd).set j (f,v)=hds keys (upF hd f v):=by
 unfold hds at *
 have EO:keys[j]?=some f:=by
  rw[bb,aW] at hj
  obtain⟨g,h1,h2⟩:=hj
  cases h2;exact h1
 have:=nP (f:=fun g=>(g,hd g)) (g:=fun g=>(g,upF hd f v g)) hn EO fun x _ gW=>by simp only[rm gW]
 simp only[og] at this
 exact this
theorem Na {keys:List Fa} {hd:Fa→Value} {f:Fa} {j:Nat} {v:Value} (hj:(hds keys hd)[j]?=some (f,v)):f∈keys∧hd f=v:=by
 unfold hds at hj
 rw[bb,aW] at hj
 obtain⟨g,h1,h2⟩:=hj
 cases h2;exact⟨aQ h1,rfl⟩
theorem ZZ {keys:List Fa} {hd:Fa→Value} {f:Fa} {v v0:Value} (hn:f∉keys):(hds keys hd++[(f,v0)]).set (hds keys hd).length (f,v)=hds (keys++[f]) (upF hd f v):=by
 rw[List.set_append_right _ _ (ab _),lE,ky]
 unfold hds
 rw[dj,gk,og]
 congr 1
 refine bT fun g hg=>?_
 rw[rm (by rintro rfl;exact hn hg)]
def mo (ps:List (Fa×Nat)):List Fa:=ps.foldl (fun l p=>nc l p.1) []
def uP (ps:List (Fa×Nat)) (f:Fa):List Nat:=(ps.filter fun p=>decide (p.1=f)).map (·.2)
theorem sS {ps:List (Fa×Nat)} {f:Fa} {i:Nat}:mo (ps++[(f,i)])=nc (mo ps) f:=by
 unfold mo;rw[ew];rfl
theorem AW {ps:List (Fa×Nat)} {f:Fa} {i:Nat}:uP (ps++[(f,i)])=upF (uP ps) f (uP ps f++[i]):=by
 funext g
 unfold uP upF
 rw[fG,dj]
 by_cases h:g=f
 ·subst h;simp
 ·rw[if_neg h]
  have:¬ f=g:=fun e=>h e.symm
  simp[this]
theorem AX {l:List Fa} {f:Fa} (h:f∈l):nc l f=l:=by simp[nc,h]
theorem x8 {l:List Fa} {f:Fa} (h:f∉l):nc l f=l++[f]:=by simp[nc,h]
