/- Values without memory: a function that defers one closure, and that does not panic. -/
import Derived.Test.YtegbpjodbjhjeaaGreatDoorVlRunB
import Derived.Defers
import Derived.Recover
set_option linter.all false
namespace Go.Vl
open Go Go.RowKit
section
variable {P:Program} {G:Gl} {tr:List Nat} {n:Nat} {I0:Ft} {M:Mx} {w0:World} {I:Ft} {β:Nat→Option Nat} {ob:Loc→Option Nat} {s:S} {a:Act} {w:World}
theorem St.deferred (h:St G n I0 M w0 I β ob s a w) (d:Deferred):St G n I0 ⟨M.m,β,d::M.d⟩ w0 I β ob s { a with defers:=d::a.defers } w where
 size:=h.size
 defers:=by rw[h.defers]
 below:=⟨h.below.os,h.below.tape,h.below.output,h.below.size,h.below.block,h.below.drawn⟩
 kept:=h.kept
 ilow:=h.ilow
 ihigh:=h.ihigh
 ibnd:=h.ibnd
 fr:=h.fr
 bx:=h.bx
 bnone:=h.bnone
 ext:=fun _ _ h=>h
 bnew:=fun _ _ h=>.inl h
 binj:=h.binj
 oinj:=h.oinj
 obx:=h.obx
 obnd:=h.obnd
 glob:=h.glob
def QU (P:Program) (g:FuncId) (k:Nat):Prop:=(∃ fn,P.funcs[g]?=some fn∧(fn.name== "runtime.NumGoroutine")=false∧∃ c,fn.body=some c)∧
 ∀ (caps:Array Value) (w:World),caps.size=k→CallsD P g caps .returning w fun e u' w'=>(∃ v,e=.returned v)∧u'=.returning∧w'=w
end
section
variable {P:Program} {G:Gl} {tr:List Nat} {n:Nat} {I0:Ft} {M:Mx} {w0:World} {I:Ft} {β:Nat→Option Nat} {ob:Loc→Option Nat} {s:S} {a:Act} {w:World} {o:Oper}
 {next:Act→World→Prop} {Q:Exit→Act→World→Prop} {base:Nat→Prop}
def FnX (P:Program) (G:Gl) (f:FuncId) (args:List V) (b0:List (List V)) (pv:Value) (b1:List (List V)):Prop:=
 (∃ fn,P.funcs[f]?=some fn∧(fn.name== "runtime.NumGoroutine")=false∧∃ c,fn.body=some c)∧
 ((∀ x∈args,x.lt b0.length)∧(∀ b∈b0,∀ x∈b,x.lt b0.length)∧b0.length≤b1.length)∧
 ∀ (I:Ft) (M:Mx) (w:World) (vs:Array Value) (β:Nat→Option Nat) (ob:Nat→Nat→Option Nat),(∀ b o,I b o→b<w.heap.size)→GOK G I w→BxR (Wr M w) I w β ob b0→vs.size=args.length→
  (∀ j x,args[j]?=some x→LR (Wr M w) I β w none (vs.getD j undef) x)→
  Calls P f vs w fun e w'=>∃ I' β' ob',e=.panicked [{ v:=pv,recovered:=false }]∧BelowM (GT G) M w w'∧(∀ b o,I b o→I' b o)∧(∀ b o,I' b o→I b o∨(Wr M w b∧b<w'.heap.size))∧
   (∀ b o,I b o→w'.cell? ⟨b,o,none⟩=w.cell? ⟨b,o,none⟩)∧(∀ i,i<b0.length→β' i=β i)∧(∀ i b,b0.length≤i→β' i=some b→Wr M w b)∧BxR (Wr M w) I' w' β' ob' b1
def KU (P:Program) (T:TypeId):Prop:=∀ (u:Value) (w:World),(Instr.makeInterface T u).run P w=.ok (.iface T u) w
def vE (P:Program) (G:Gl) (s:S) (o:Oper) (r:List Oper) (KP:Value→S→Prop):Prop:=match o.op with
 | .makeInterface T x=>match ev G s x,r,o.dst with
  | .c (.lit u),[o2],some d=>(KU P T∧o2.guard=none∧o2.op=.panic (.tmp d))∧KP (.iface T u) (s.put (some d) .un)
  |_,_,_=>False
 | .call { callee:=.value f,args:=args,.. }=>match ew (ev G s f) (args.toList.map (ev G s)) with
  |some (g,all)=>∃ (ρ:List Nat) (cargs:List V) (b0:List (List V)) (pv:Value) (b1:List (List V)),FnX P G g cargs b0 pv b1∧all.map V.fz=cargs.map (V.ren (rho ρ s.nb))∧
    (ρ.length=b0.length∧ρ.Nodup)∧pB s.bx s.nb (rho ρ s.nb) 0 b0∧KP pv { s with bx:=ff (rho ρ s.nb) 0 b1 s.bx,nb:=s.nb+(b1.length - b0.length) }
  |none=>False
 |_=>False
def Be (P:Program) (G:Gl) (tr:List Nat) (ops:Array Oper):List Oper→S→(S→Prop)→(Value→S→Prop)→Prop
 |[],s,K,_=>K s
 |o::r,s,K,KP=>eJ P G tr ops [o] s (fun s'=>Be P G tr ops r s' K KP)∨(o.guard=none∧vE P G s o r KP)
def ry (P:Program) (G:Gl) (s:S) (o:Oper) (KP:Value→S→Prop):Prop:=match o.op with
 | .call { callee:=.value f,args:=args,.. }=>match ew (ev G s f) (args.toList.map (ev G s)) with
  |some (g,all)=>∃ (ρ:List Nat) (cargs:List V) (b0:List (List V)) (pv:Value) (b1:List (List V)),FnX P G g cargs b0 pv b1∧all.map V.fz=cargs.map (V.ren (rho ρ s.nb))∧
    (ρ.length=b0.length∧ρ.Nodup)∧pB s.bx s.nb (rho ρ s.nb) 0 b0∧KP pv { s with bx:=ff (rho ρ s.nb) 0 b1 s.bx,nb:=s.nb+(b1.length - b0.length) }
  |none=>False
 |_=>False
def si (ops:Array Oper) (stop:Nat):List Nat:=
 (List.range ops.size).foldl (fun D k=>if k==stop||((ops[k]?).map fun o=>o.after.any fun e=>Region.binds .any e&&D.contains e.on).getD false then k::D else D) []
def ahead (ops:Array Oper) (stop:Nat):List Nat:=(List.range ops.size).filter fun k=>!(si ops stop).contains k
def ac3 (tr:List Nat) (ops:Array Oper) (stop:Nat):Bool:=
 (ahead ops stop).all (fun k=>((ops[k]?).map fun o=>!li tr o&&dw tr o !=2).getD false)&&((ops[stop]?).map fun o=>o.guard.isNone).getD false&&match kq tr ops (ahead ops stop) (Array.replicate ops.size false) with
 |some listed=>(Region.ready .any ops listed)==[stop]
 |none=>false
def wrs (tr:List Nat) (ops:Array Oper) (stop:Nat):List Tmp:=(jS ops (ahead ops stop)).flatMap (wr tr)
theorem xY {ops:Array Oper} {stop:Nat} (h:stop<ops.size):(si ops stop).contains stop=true:=by
 have gen:∀ (l:List Nat) (D:List Nat),stop∈l∨stop∈D→stop∈l.foldl (fun D k=>if k==stop||((ops[k]?).map fun o=>o.after.any fun e=>Region.binds .any e&&D.contains e.on).getD false then k::D else D) D:=by
  intro l
  induction l with
  |nil=>intro D h;exact h.resolve_left (by simp)
  |cons k l ih=>
   intro D h
   rw[iz]
   apply ih
   rcases h with h | h
   ·rcases bw.1 h with rfl | h
    ·right;simp
    ·exact .inl h
   ·right;split
    ·exact aM _ h
    ·exact h
 have:=gen (List.range ops.size) [] (.inl (cO.2 h))
 simpa[si] using this
def QV (P:Program) (G:Gl) (tr:List Nat) (ops:Array Oper) (s:S) (KP:Value→S→Prop):Prop:=
 ∃ stop o,ops[stop]?=some o∧ac3 tr ops stop=true∧eJ P G tr ops (jS ops (ahead ops stop)) s (fun _=>True)∧
  ∀ fr,(∀ t,t∉wrs tr ops stop→fr t=s.fr t)→ry P G ⟨fr,s.bx,s.nb⟩ o KP
def sj (ops:Array Oper) (m:Nat):Bool:=(List.range m).all fun i=>(List.range ops.size).any fun k=>decide (k≠i)&&((ops[k]?).map fun o=>o.after.any fun e=>Region.binds .any e&&(e.on==i)).getD false
def QW (tr:List Nat) (ops:Array Oper) (stop:Nat):Bool:=
 decide (stop+1=ops.size)&&(ops.toList.take stop).all (fun o=>!li tr o)&&((ops[stop]?).map fun o=>o.guard.isNone).getD false&&
 decide (kq tr ops (List.range stop) (Array.replicate ops.size false)=some (n0 stop ops.size))&&sj ops stop&&Region.ready .any ops (n0 stop ops.size)==[stop]
def QX (P:Program) (G:Gl) (tr:List Nat) (ops:Array Oper) (s:S) (KP:Value→S→Prop):Prop:=
 ∃ stop o,ops[stop]?=some o∧QW tr ops stop=true∧eJ P G tr ops (ops.toList.take stop) s (fun s'=>ry P G s' o KP)
def unO (Q:Nat) (o:Oper):Oper:=match o.op with
 | .alloc _=>{ o with op:=.move (.tmp Q) }
 |_=>o
def unA (Q:Nat) (ops:Array Oper):Array Oper:=⟨ops.toList.map (unO Q)⟩
def Gv (P:Program) (ops:Array Oper):Bool:=ops.toList.all fun o=>match o.op with
 | .alloc T=>o.guard.isNone&&(match ti P T with | some i=>i.zero.isSome | none=>false)
 |_=>true
def Gw (ops:Array Oper) (stop:Nat) (A:List Nat):Bool:=A.all fun k=>(List.range ops.size).any fun j=>decide (k<j)&&(decide (j=stop)||A.contains j)&&((ops[j]?).map fun o=>o.after.any fun e=>Region.binds .any e&&(e.on==k)).getD false
def QY (P:Program) (tr:List Nat) (ops:Array Oper) (Q stop:Nat) (A B:List Nat):Bool:=
 (A++B).all (fun k=>(((unA Q ops)[k]?).map fun o=>!li tr o).getD false)&&B.all (fun k=>(((unA Q ops)[k]?).map fun o=>dw tr o !=2).getD false)&&((ops[stop]?).map fun o=>o.guard.isNone).getD false&&Gv P ops&&
 Gw (unA Q ops) stop A&&(unA Q ops).toList.all (fun o=>!(wr tr o).contains Q)&&decide (A.length+B.length<ops.size)&&match kq tr (unA Q ops) A (Array.replicate ops.size false) with
 |some l1=>(match kq tr (unA Q ops) B l1 with | some l2=>(Region.ready .any (unA Q ops) l2)==[stop] | none=>false)
 |none=>false
def QZ (P:Program) (G:Gl) (tr:List Nat) (ops:Array Oper) (s:S) (KP:Value→S→Prop):Prop:=
 ∃ Q stop A B o,ops[stop]?=some o∧QY P tr ops Q stop A B=true∧s.fr Q=.un∧eJ P G tr (unA Q ops) (jS (unA Q ops) A) s fun s1=>eJ P G tr (unA Q ops) (jS (unA Q ops) B) s1 (fun _=>True)∧
  ∀ fr,(∀ t,t∉(jS (unA Q ops) B).flatMap (wr tr)→fr t=s1.fr t)→ry P G ⟨fr,s1.bx,s1.nb⟩ o KP
def BR (P:Program) (G:Gl) (tr:List Nat) (ops:Array Oper) (s:S) (KP:Value→S→Prop):Prop:=QV P G tr ops s KP∨QX P G tr ops s KP∨QZ P G tr ops s KP
def NA (tr:List Nat) (id:Nat):Bool:=tr.contains (2900000+id)
theorem ic {P:Program} {G:Gl} {tr:List Nat} {ops:Array Oper} {s:S} {KP:Value→S→Prop} {o:Oper} (Q stop:Nat) (A B:List Nat) {lA lB:List Oper} (ho:ops[stop]?=some o) (h:QY P tr ops Q stop A B=true) (hQ:s.fr Q=.un) (hA:jS (unA Q ops) A=lA) (hB:jS (unA Q ops) B=lB)
 (hv:eJ P G tr (unA Q ops) lA s fun s1=>eJ P G tr (unA Q ops) lB s1 (fun _=>True)∧∀ fr,(∀ t,t∉lB.flatMap (wr tr)→fr t=s1.fr t)→ry P G ⟨fr,s1.bx,s1.nb⟩ o KP):BR P G tr ops s KP:=
 .inr (.inr ⟨Q,stop,A,B,o,ho,h,hQ,by rw[hA,hB];exact hv⟩)
theorem fL {P:Program} {G:Gl} {tr:List Nat} {ops:Array Oper} {s:S} {KP:Value→S→Prop} {o:Oper} {l:List Oper} (hl:ops.toList=l++[o]) (h:QW tr ops l.length=true) (hv:eJ P G tr ops l s (fun s'=>ry P G s' o KP)):BR P G tr ops s KP:=
 .inr<|.inl ⟨l.length,o,by rw[← aQ,hl];simp,h,by rw[hl,fR];exact hv;rfl⟩
def qU (P:Program) (G:Gl) (tr:List Nat) (k:Nat) (KP:Value→S→Prop):Code→(VE→S→Prop)→S→Prop
 | .region id ops d,Q,s=>if NA tr id then spl tr id ops s (fun s=>if d then vtw P G tr id ops s (Q .normal)∨BR P G tr ops s KP else Be P G tr ops ops.toList s (Q .normal) KP) else gy P G tr k (.region id ops d) Q s
 | .seq a b,Q,s=>qU P G tr k KP a (fun e s'=>match e with | .normal=>qU P G tr k KP b Q s' | e=>Q e s') s
 | .cond c x y,Q,s=>match ev G s c with
  | .c (.lit (.bool p))=>(p=true→qU P G tr k KP x Q (refine s c true))∧(p=false→qU P G tr k KP y Q (refine s c false))
  |_=>False
 | .block id body,Q,s=>qU P G tr k KP body (fun e s'=>match e with | .exit i=>if i=id then Q .normal s' else Q (.exit i) s' | e=>Q e s') s
 | .loop body,Q,s=>∃ n,sW k (qU P G tr k KP body) Q n s
 | .scope body,Q,s=>qU P G tr k KP body Q s
 |c,Q,s=>gy P G tr k c Q s
def pD (n:Nat) (tr:List Nat):Code→Bool
 | .region id ops draw=>if NA tr id then jJ n ops&&(ops.toList.all fun o=>!pC tr o)&&(!draw||(if Mq tr id then BH tr ops else wV tr ops)) else cok n tr (.region id ops draw)
 | .seq a b=>pD n tr a&&pD n tr b
 | .cond _ a b=>pD n tr a&&pD n tr b
 | .block _ a=>pD n tr a
 | .loop a=>pD n tr a
 | .scope a=>pD n tr a
 |_=>true
theorem NB {T:TypeId} {x:Operand} (ho:o.op=.makeInterface T x) (h:KU P T):(execOp a.eval o).run P w=.ok (.value (.iface T (a.eval x))) w:=by
 unfold execOp
 simp only[ho]
 simp[aH,h (a.eval x) w]
theorem NC {x:Operand} {T:TypeId} {u:Value} (ho:o.op=.panic x) (h:a.eval x=.iface T u):(execOp a.eval o).run P w=.halt (.panic (.iface T u)) w:=by
 unfold execOp
 simp only[ho]
 simp[aH,h,Instr.panic,goPanic,Sem.run]
theorem vF {d:Tmp} {v:Value} (h:d<a.tmps.size):(a.put (some d) v).eval (.tmp d)=v:=by
 show(a.tmps.set! d v).getD d undef=v
 simp[ao,bD,h]
theorem vG (hst:St G n I0 M w0 I β ob s a w) {f:FuncId} {vs:List Value} {all:List V} {ρ:List Nat} {cargs:List V} {b0 b1:List (List V)} {pv:Value}
 (dI:FnX P G f cargs b0 pv b1) (cv:ArgsL (Wr M w0) I β w vs all) (dh:all.map V.fz=cargs.map (V.ren (rho ρ s.nb))) (hρ:ρ.length=b0.length∧ρ.Nodup) (fy:pB s.bx s.nb (rho ρ s.nb) 0 b0)
 (bA:(execOp a.eval o).run P w=.ok (.enter f vs.toArray) w)
 (hk:∀ w',SE G n I0 M w0 { s with bx:=ff (rho ρ s.nb) 0 b1 s.bx,nb:=s.nb+(b1.length - b0.length) } a w'→Q (.panic [{ v:=pv,recovered:=false }]) a w'):o.wp P a w next Q:=by
 unfold Oper.wp
 rw[bA]
 simp only[Oper.upon]
 obtain⟨hρl,hn⟩:=hρ
 obtain⟨AM,nS,fx⟩:=dI.2.1
 have hl:∀ i,i<ρ.length→ρ.getD i 0<s.nb:=fun i hi=>by
  obtain⟨b,hb⟩:∃ b,b0[i]?=some b:=⟨_,aj (by omega)⟩
  have:=(np b0 0 i b fy hb).1
  rw[ah] at this
  simpa[rho,hi] using this
 have pE:=sY hn hl
 have ce:all.length=cargs.length:=by simpa using jz List.length dh
 refine (dI.2.2 I ⟨Mof β ob (rho ρ s.nb) b0.length,fun _=>none,[]⟩ w vs.toArray (kp β (rho ρ s.nb) b0.length) (obC ob (rho ρ s.nb) b0.length) hst.ibnd hst.glob (hst.give pE fy nS)
  (by have:=cv.1;simp;omega) (fun j x hx=>?_)).mono ?_
 ·have hj:j<cargs.length:=(ak.1 hx).1
  have hz:all[j]?=some all[j]:=aj (by omega)
  have h1:=cv.2 j _ hz
  have h2:all[j].fz=x.ren (rho ρ s.nb):=by
   have e1:(all.map V.fz)[j]?=some all[j].fz:=by simp[hz]
   have e2:(cargs.map (V.ren (rho ρ s.nb)))[j]?=some (x.ren (rho ρ s.nb)):=by simp[hx]
   rw[dh,e2] at e1
   exact(dE e1).symm
  rw[h2] at h1
  have h3:=h1.ren (β':=kp β (rho ρ s.nb) b0.length) (AM x (bg hx)) (fun i b hi hb=>by simp[kp,hi,hb])
  have h4:=h3.wider (base':=Wr ⟨Mof β ob (rho ρ s.nb) b0.length,fun _=>none,[]⟩ w) fun b hb=>by cases hb
  simpa using h4
 ·rintro e w' ⟨I',β',ob',rfl,nR,Kj,Ig,rI,O2,H4,nF⟩
  simp only
  exact hk _ ⟨_,_,_,(hst.called hρl hn fy fx nR Kj Ig rI O2 H4 nF).1⟩
theorem Jh {ops:Array Oper} (dI:jJ n ops=true) {KP:Value→S→Prop} (AN:∀ v s a w,KP v s→SE G n I0 M w0 s a w→Q (.panic [{ v:=v,recovered:=false }]) a w) {l:List Oper} {k:Nat}
 (hl:ops.toList.drop k=o::l) (hst:St G n I0 M w0 I β ob s a w) (hg:o.guard=none) (h:vE P G s o l KP):wpOps P ops Q (List.range' k (l.length+1)) a w:=by
 have ly:ops[k]?=some o:=by
  have:(ops.toList.drop k)[0]?=some o:=by rw[hl];rfl
  rw[bX] at this
  simpa using this
 have jG:o∈ops.toList:=cK (i:=k) (by rw[hl];simp)
 have hw:Region.wanted o (yielded ops a.tmps)=true:=by simp[Region.wanted,hg]
 simp only[gr,wpOps,ly]
 rw[if_pos hw]
 left
 unfold vE at h
 split at h
 ·rename_i T x bZ
  split at h
  ·rename_i u o2 d hx hd
   obtain⟨⟨hi,E8,ahl⟩,hk⟩:=h
   have Mj:d<n:=eQ dI jG d hd
   unfold Oper.wp
   rw[NB bZ hi]
   simp only[Oper.upon]
   have aeO:ops[k+1]?=some o2:=by
    have:(ops.toList.drop k)[1]?=some o2:=by rw[hl];rfl
    rw[bX] at this
    simpa using this
   have lG:∀ a:Act,Region.wanted o2 (yielded ops a.tmps)=true:=fun a=>by simp[Region.wanted,E8]
   simp only[aB,aK,gr,wpOps,aeO]
   rw[if_pos (lG _)]
   left
   unfold Oper.wp
   have uY:a.eval x=u:=by have:=bB hst x;rw[hx] at this;exact this.lit
   rw[NC (T:=T) (u:=u) ahl (by rw[hd,vF (by rw[hst.size];exact Mj),uY])]
   simp only[Oper.upon]
   refine AN _ _ _ _ hk ?_
   rw[hd]
   exact SE.put hst (dst:=some d) (fun d' h'=>by cases h';exact Mj) (by simp only[LR];exact .un _)
  ·exact h.elim
 ·rename_i f args ts bZ
  split at h
  ·rename_i g all kS
   obtain⟨ρ,cargs,b0,pv,b1,Kr,dh,hρ,fy,hK⟩:=h
   obtain⟨fn,h1,h2,c,h3⟩:=Kr.1
   have hf:=bB hst f
   unfold ew at kS
   split at kS
   ·rename_i g' fs cs he
    simp only[am,dU] at kS
    obtain⟨rfl,rfl⟩:=kS
    rw[he] at hf
    obtain⟨vf,vc,hv,q1,q2,q3,q4⟩:=hf.toC.fn_inv
    have bA:=lD (P:=P) (w:=w) bZ hv h1 h2 h3
    refine vG hst Kr (vs:=vf.toList++args.toList.map a.eval++vc.toList) (((m6 vf fs q1 q3).append (lW hst _)).append (m6 vc cs q2 q4)) dh hρ fy ?_ (fun w'=>AN _ _ _ _ hK)
    rw[bA];congr 2;apply cP;simp
   ·rename_i g' fs cs he
    simp only[am,dU] at kS
    obtain⟨rfl,rfl⟩:=kS
    rw[he] at hf
    simp only[LR] at hf
    obtain⟨vf,vc,hv,q1,q2,q3,q4⟩:=hf
    have bA:=lD (P:=P) (w:=w) bZ hv h1 h2 h3
    refine vG hst Kr (vs:=vf.toList++args.toList.map a.eval++vc.toList) (((m7 vf fs q1 q3).append (lW hst _)).append (m7 vc cs q2 q4)) dh hρ fy ?_ (fun w'=>AN _ _ _ _ hK)
    rw[bA];congr 2;apply cP;simp
   ·cases kS
  ·exact h.elim
 ·exact h.elim
theorem uC {ops:Array Oper} (dI:jJ n ops=true) (hny:(ops.toList.all fun o=>!pC tr o)=true) {K:S→Prop} {KP:Value→S→Prop} (hK:∀ a w s,K s→SE G n I0 M w0 s a w→Q .normal a w)
 (AN:∀ v s a w,KP v s→SE G n I0 M w0 s a w→Q (.panic [{ v:=v,recovered:=false }]) a w):∀ (l:List Oper) (k:Nat),ops.toList.drop k=l→∀ (s:S) (a:Act) (w:World),
 Be P G tr ops l s K KP→SE G n I0 M w0 s a w→wpOps P ops Q (List.range' k l.length) a w
 |[],k,_,s,a,w,h,cw=>by simp only[aK,List.range'_zero,wpOps];exact hK _ _ _ h cw
 |o::l,k,hl,s,a,w,h,cw=>by
  have ly:ops[k]?=some o:=by
   have:(ops.toList.drop k)[0]?=some o:=by rw[hl];rfl
   rw[bX] at this
   simpa using this
  have Ia:ops.toList.drop (k+1)=l:=by
   rw[← fp,hl];rfl
  have jG:o∈ops.toList:=cK (i:=k) (by rw[hl];simp)
  obtain⟨I,β,ob,hst⟩:=cw
  rcases h with h | ⟨hg,h⟩
  ·simp only[aB,gr,wpOps,ly]
   simp only[eJ] at h
   rcases qP hst h with⟨hw,h⟩ | ⟨hw,h⟩
   ·rw[if_pos hw]
    refine .inl (nr (tr:=tr) hst (eQ dI jG) (by simpa using aW.1 hny o jG) h fun a' w' s' wF m5=>?_)
    exact uC dI hny hK AN l (k+1) Ia s' a' w' wF m5
   ·rw[hw]
    simp only[aS,dm]
    exact uC dI hny hK AN l (k+1) Ia _ _ w h (SE.put hst (eQ dI jG) (by simp only[LR];exact .sk))
  ·exact Jh dI AN hl hst hg h
theorem sn {KP:Value→S→Prop} (AN:∀ v s a w,KP v s→SE G n I0 M w0 s a w→Q (.panic [{ v:=v,recovered:=false }]) a w) (hst:St G n I0 M w0 I β ob s a w) (h:ry P G s o KP):o.wp P a w next Q:=by
 unfold ry at h
 split at h
 ·rename_i f args ts bZ
  split at h
  ·rename_i g all kS
   obtain⟨ρ,cargs,b0,pv,b1,Kr,dh,hρ,fy,hK⟩:=h
   obtain⟨fn,h1,h2,c,h3⟩:=Kr.1
   have hf:=bB hst f
   unfold ew at kS
   split at kS
   ·rename_i g' fs cs he
    simp only[am,dU] at kS
    obtain⟨rfl,rfl⟩:=kS
    rw[he] at hf
    obtain⟨vf,vc,hv,q1,q2,q3,q4⟩:=hf.toC.fn_inv
    have bA:=lD (P:=P) (w:=w) bZ hv h1 h2 h3
    refine vG hst Kr (vs:=vf.toList++args.toList.map a.eval++vc.toList) (((m6 vf fs q1 q3).append (lW hst _)).append (m6 vc cs q2 q4)) dh hρ fy ?_ (fun w'=>AN _ _ _ _ hK)
    rw[bA];congr 2;apply cP;simp
   ·rename_i g' fs cs he
    simp only[am,dU] at kS
    obtain⟨rfl,rfl⟩:=kS
    rw[he] at hf
    simp only[LR] at hf
    obtain⟨vf,vc,hv,q1,q2,q3,q4⟩:=hf
    have bA:=lD (P:=P) (w:=w) bZ hv h1 h2 h3
    refine vG hst Kr (vs:=vf.toList++args.toList.map a.eval++vc.toList) (((m7 vf fs q1 q3).append (lW hst _)).append (m7 vc cs q2 q4)) dh hρ fy ?_ (fun w'=>AN _ _ _ _ hK)
    rw[bA];congr 2;apply cP;simp
   ·cases kS
  ·exact h.elim
 ·exact h.elim
def afH (P:Program) (G:Gl) (tr:List Nat) (ops:Array Oper) (stop:Nat) (C:S→Prop) (i:Nat) (K:S→Prop) (s:S):Prop:=oO P G tr ops i K s∨(i=stop∧C s)
def oY (P:Program) (G:Gl) (tr:List Nat) (md:Region.Mode) (ops:Array Oper) (stop:Nat) (C:S→Prop):Nat→Array Bool→S→Prop
 |0,_,_=>False
 |fuel+1,listed,s=>
  Region.ready md ops listed≠[]∧
  ∀ i∈Region.ready md ops listed,afH P G tr ops stop C i (oY P G tr md ops stop C fuel (listed.setIfInBounds i true)) s
theorem pK {ops:Array Oper} {md:Region.Mode} {stop:Nat} {C:S→Prop} {os:Oper} (Bp:ops[stop]?=some os) (Bq:os.guard=none) (dI:jJ n ops=true)
 (hC:∀ s I β ob a w next,C s→St G n I0 M w0 I β ob s a w→os.wp P a w next Q):∀ (fuel:Nat) (listed:Array Bool) (s:S) (a:Act) (w:World),
 oY P G tr md ops stop C fuel listed s→SE G n I0 M w0 s a w→wpAny P md ops Q fuel listed a w
 |0,_,_,_,_,h,_=>h.elim
 |fuel+1,_,s,a,w,h,cw=>by
  refine⟨fun h0=>absurd h0 h.1,fun i hi=>?_⟩
  have hh:=h.2 i hi
  rcases hh with hh | ⟨rfl,hh⟩
  ·unfold oO at hh
   unfold wpOp
   split
   ·rename_i ho;simp only[ho] at hh;exact pK Bp Bq dI hC fuel _ s a w hh cw
   ·rename_i o ho
    simp only[ho] at hh
    obtain⟨e,he,hh⟩:=hh
    have jG:o∈ops.toList:=by
     have:=eu ho
     simpa using this
    obtain⟨I,β,ob,hst⟩:=cw
    rcases he with⟨hg,hv,_⟩ | ⟨hg,rfl⟩
    ·rw[if_pos (j6 hst hg)]
     exact .inl (sZ hst (eQ dI jG) hv fun a' w' m5=>pK Bp Bq dI hC fuel _ _ a' w' hh m5)
    ·rw[j6 hst hg]
     simp only[aS,dm]
     rw[rX] at hh
     exact pK Bp Bq dI hC fuel _ _ _ w hh (SE.put hst (eQ dI jG) (by simp only[LR];exact .sk))
  ·obtain⟨I,β,ob,hst⟩:=cw
   unfold wpOp
   simp only[Bp]
   rw[if_pos (by simp[Region.wanted,Bq])]
   exact .inl (hC _ _ _ _ _ _ _ hh hst)
theorem xZ {ops:Array Oper} {md:Region.Mode} {stop:Nat} {C:S→Prop} {i:Nat} {oi:Oper} {e:Ef} (hi:ops[i]?=some oi) (Uv:∀ s,C (e.run tr oi s)→C s) :
 ∀ (fuel:Nat) (listed:Array Bool) (s:S),FreeAt tr md ops listed i oi→
  i∈Region.ready md ops listed→TEf P G tr ops oi s e→
  oY P G tr md ops stop C fuel (listed.setIfInBounds i true) (e.run tr oi s)→oY P G tr md ops stop C (fuel+1) listed s:=by
 intro fuel
 induction fuel with
 |zero=>intro listed s _ _ _ H;exact H.elim
 |succ fuel ih=>
  intro listed s rJ hr hy H
  refine⟨fun h=>(by rw[h] at hr;cases hr),fun j hj=>?_⟩
  by_cases oI:j=i
  ·subst oI;left;unfold oO;simp only[hi];exact⟨e,hy,H⟩
  ·rcases H.2 j (jI hj oI) with h1 | ⟨h1,h2⟩
   ·left
    obtain⟨_,oj,tN,_⟩:=iu.1 hj
    obtain⟨tY,rl⟩:=rJ.step hr hj oI tN
    unfold oO at h1 ⊢
    simp only[tN] at h1 ⊢
    obtain⟨f,hf,hK⟩:=h1
    have yp:=hy.back tY hf
    refine⟨f,yp,ih (listed.setIfInBounds j true) _ rl (jI hr (fM oI)) (hy.keep tY yp) ?_⟩
    rw[gB _ _ oI,← rZ tY hy yp]
    exact hK
   ·exact .inr ⟨h1,Uv _ h2⟩
theorem BS {ops:Array Oper} {stop:Nat} {C:S→Prop} (m:Nat) (kf:Array Bool) (Uv:∀ k o s e,k∈ahead ops stop→ops[k]?=some o→TEf P G tr ops o s e→∀ s',(C (e.run tr o s')↔C s'))
 (Uq:∀ s',C s'→oY P G tr .any ops stop C m kf s'):∀ (ks:List Nat) (listed:Array Bool) (s:S),(∀ k∈ks,k∈ahead ops stop∧∃ o,ops[k]?=some o∧li tr o=false)→
 kq tr ops ks listed=some kf→eJ P G tr ops (jS ops ks) s (fun _=>True)→C s→oY P G tr .any ops stop C (m+ks.length) listed s
 |[],listed,s,_,hB,_,hc=>by simp only[kq,am] at hB;subst hB;exact Uq _ hc
 |k::r,listed,s,hA,hB,h,hc=>by
  obtain⟨XQ,o,ho,wB⟩:=hA k (aT ..)
  unfold kq at hB
  split at hB
  ·rename_i Y2
   simp only[aG] at Y2
   obtain⟨hr,hf⟩:=Y2
   simp only[jS,eP,ho,eJ] at h
   obtain⟨e,he,hK⟩:=fK (K:=fun s'=>eJ P G tr ops (jS ops r) s' fun _=>True) wB h
   have:=xZ ho (fun s'=>(Uv k o s e XQ ho he s').1) (m+r.length) listed s (kG ho hf) (by simpa using hr) he
    (BS m kf Uv Uq r _ _ (fun k hk=>hA k (aM _ hk)) hB hK ((Uv k o s e XQ ho he s).2 hc))
   simpa[db] using this
  ·cases hB
theorem DV {id:Nat} {ops:Array Oper} (hm:P.follows .mixedOrders=true) (dI:jJ n ops=true) {KP:Value→S→Prop} (AN:∀ v s a w,KP v s→SE G n I0 M w0 s a w→Q (.panic [{ v:=v,recovered:=false }]) a w)
 (h:QV P G tr ops s KP) (cw:SE G n I0 M w0 s a w):(Code.region id ops true).wp P Q a w:=by
 refine wp_region_any hm ?_
 obtain⟨stop,os,Bp,E2,hv,acf⟩:=h
 unfold ac3 at E2
 simp only[aG,aW] at E2
 obtain⟨⟨dh,Bq⟩,uW⟩:=E2
 simp only[Bp,bK,bQ,Option.isNone_iff_eq_none] at Bq
 have hA:∀ k∈ahead ops stop,∃ o,ops[k]?=some o∧li tr o=false∧dw tr o≠2:=fun k hk=>by
  have:=dh k hk
  cases ho:ops[k]? with
  |none=>simp[ho] at this
  |some o=>simp[ho] at this;exact⟨o,rfl,this.1,this.2⟩
 have m5:SE G n I0 M w0 s a { w with drawn:=w.drawn+1 }:=by
  obtain⟨I,β,ob,hst⟩:=cw
  exact⟨I,β,ob,hst.drew⟩
 split at uW
 ·rename_i listed OS
  have Kk:Region.ready .any ops listed=[stop]:=by simpa using uW
  let C:S→Prop:=fun s'=>(∀ t,t∉wrs tr ops stop→s'.fr t=s.fr t)∧s'.bx=s.bx∧s'.nb=s.nb
  have Uv:∀ k o s1 e,k∈ahead ops stop→ops[k]?=some o→TEf P G tr ops o s1 e→∀ s',(C (e.run tr o s')↔C s'):=fun k o s1 e hk ho he s'=>by
   obtain⟨o',ho',_,hm2⟩:=hA k hk
   rw[ho] at ho';cases ho'
   obtain⟨q1,q2,_⟩:=lZ (s0 he hm2) s'.bx s'.nb 0
   have hw:∀ t,t∉wrs tr ops stop→t∉wr tr o:=fun t ht hto=>ht (by
    unfold wrs
    exact List.mem_flatMap.2 ⟨o,List.mem_filterMap.2 ⟨k,hk,ho⟩,hto⟩)
   show((∀ t,t∉wrs tr ops stop→(e.run tr o s').fr t=s.fr t)∧(e.run tr o s').bx=s.bx∧(e.run tr o s').nb=s.nb)↔_
   rw[rY]
   simp only[q1,q2]
   constructor
   ·rintro⟨h1,h2⟩
    exact⟨fun t ht=>by have:=h1 t ht;rw[fC (hw t ht)] at this;exact this,h2⟩
   ·rintro⟨h1,h2⟩
    exact⟨fun t ht=>by rw[fC (hw t ht)];exact h1 t ht,h2⟩
  have key:=BS (P:=P) (G:=G) (ops.size - (ahead ops stop).length) listed Uv (fun s' hc=>?_) (ahead ops stop) (Array.replicate ops.size false) s (fun k hk=>⟨hk,by obtain⟨o,h1,h2,_⟩:=hA k hk;exact⟨o,h1,h2⟩⟩) OS hv ⟨fun _ _=>rfl,rfl,rfl⟩
  ·have ce:(ahead ops stop).length≤ops.size:=by
    have:=List.length_filter_le (fun k=>!(si ops stop).contains k) (List.range ops.size)
    simpa[ahead] using this
   rw[Nat.sub_add_cancel ce] at key
   refine pK Bp Bq dI (fun s' I β ob a w next hc hst=>?_) _ _ _ _ _ key m5
   obtain⟨h1,h2,h3⟩:=hc
   obtain⟨fr,bx,nb⟩:=s'
   simp only at h1 h2 h3
   subst h2 h3
   exact sn AN hst (acf fr h1)
  ·have bF:(ahead ops stop).length<ops.size:=by
    have hs:stop<ops.size:=(be.1 Bp).1
    have jG:stop∈Region.ready .any ops listed:=by rw[Kk];simp
    have OX:stop∉ahead ops stop:=by
     intro fy
     have:=(List.mem_filter.1 fy).2
     have hb:(si ops stop).contains stop=true:=xY hs
     rw[hb] at this;cases this
    have ey:(ahead ops stop).length<(List.range ops.size).length:=by
     unfold ahead
     rw[List.length_filter_lt_length_iff_exists]
     exact⟨stop,cO.2 hs,by
      have hb:(si ops stop).contains stop=true:=xY hs
      show ¬ ((!(si ops stop).contains stop)=true)
      rw[hb];simp⟩
    simpa using ey
   obtain⟨q,hq⟩:∃ q,ops.size - (ahead ops stop).length=q+1:=⟨ops.size - (ahead ops stop).length - 1,by omega⟩
   rw[hq]
   exact⟨by rw[Kk];simp,fun i hi=>by
    rw[Kk] at hi
    simp only[aN] at hi
    exact .inr ⟨hi,hc⟩⟩
 ·cases uW
theorem Bf {ops:Array Oper} {m:Nat} (h:sj ops m=true) {i:Nat} (hi:i<m):∃ k o,k≠i∧ops[k]?=some o∧∃ e∈o.after,Region.binds .any e=true∧e.on=i:=by
 unfold sj at h
 rw[aW] at h
 have h1:=h i (cO.2 hi)
 rw[dp] at h1
 obtain⟨k,_,h2⟩:=h1
 simp only[aG,bi] at h2
 obtain⟨gv,h2⟩:=h2
 cases ho:ops[k]? with
 |none=>simp[ho] at h2
 |some o=>
  simp only[ho,bK,bQ] at h2
  rw[Array.any_eq_true'] at h2
  obtain⟨e,he,h3⟩:=h2
  simp only[aG,ko] at h3
  exact⟨k,o,gv,ho,e,he,h3.1,h3.2⟩
def DC (ops:Array Oper) (listed:Array Bool):Prop:=∀ k o,ops[k]?=some o→listed.getD k false=true→∀ e∈o.after,Region.binds .any e=true→listed.getD e.on false=true
theorem DC.step {ops:Array Oper} {listed:Array Bool} {j:Nat} (h:DC ops listed) (hj:j∈Region.ready .any ops listed):DC ops (listed.setIfInBounds j true):=by
 intro k o ho hk e he hb
 obtain⟨_,oj,tN,dh⟩:=iu.1 hj
 by_cases hkj:k=j
 ·subst hkj
  rw[tN] at ho;cases ho
  exact Go.getD_set_true (dh e he hb)
 ·rw[kX false (fM hkj)] at hk
  exact Go.getD_set_true (h k o ho hk e he hb)
theorem DW {ops:Array Oper} {K0:S→Prop} {m:Nat} (O6:sj ops m=true) (OT:m+1=ops.size) {i:Nat} {oi:Oper} {e:Ef} (hi:ops[i]?=some oi) :
 ∀ (fuel:Nat) (listed:Array Bool) (s:S),listed.size=ops.size→DC ops listed→FreeAt tr .any ops listed i oi→
  i∈Region.ready .any ops listed→TEf P G tr ops oi s e→
  xQ P G tr ops (n0 m ops.size) K0 fuel (listed.setIfInBounds i true) (e.run tr oi s)→xQ P G tr ops (n0 m ops.size) K0 (fuel+1) listed s:=by
 intro fuel
 induction fuel with
 |zero=>
  intro listed s dR Ii _ hr hy H
  refine⟨fun h=>(by rw[h] at hr;cases hr),fun j hj=>?_⟩
  by_cases oI:j=i
  ·subst oI;unfold oO;simp only[hi];exact⟨e,hy,H⟩
  ·exfalso
   obtain⟨XK,oj,tN,dh⟩:=iu.1 hj
   have Y1:i<listed.size:=by rw[dR];exact(be.1 hi).1
   have YN:j<ops.size:=(be.1 tN).1
   have h1:(n0 m ops.size).getD j true=false:=by rw[← H.1,kX true (fM oI)];exact XK
   have h2:(n0 m ops.size).getD i false=true:=by
    rw[← H.1,ao,Array.getElem?_setIfInBounds_self_of_lt Y1];rfl
   have hjm:=zF h1
   have him:=BI h2
   have h4:=(iu.1 hr).1
   obtain⟨k,ok,hki,dI,ed,hed,hb,Ur⟩:=Bf O6 him
   have EU:k<ops.size:=(be.1 dI).1
   have h5:listed.getD i false=true:=by
    by_cases hkj:k=j
    ·subst hkj
     rw[tN] at dI;cases dI
     have:=dh ed hed hb
     rw[Ur] at this;exact this
    ·have hkm:k<m:=by omega
     have h6:listed.getD k false=true:=by
      have h7:(listed.setIfInBounds i true).getD k false=true:=by
       rw[H.1]
       unfold n0
       rw[ao,cM,aC (by simpa using hkm)]
       simp[hkm]
      rw[kX false (fM hki)] at h7
      exact h7
     have:=Ii k ok dI h6 ed hed hb
     rw[Ur] at this;exact this
   rw[ao,ay Y1] at h5 h4
   simp only[bQ] at h5 h4
   rw[h4] at h5;cases h5
 |succ fuel ih=>
  intro listed s dR Ii rJ hr hy H
  refine⟨fun h=>(by rw[h] at hr;cases hr),fun j hj=>?_⟩
  by_cases oI:j=i
  ·subst oI;unfold oO;simp only[hi];exact⟨e,hy,H⟩
  ·have h1:=H.2 j (jI hj oI)
   obtain⟨_,oj,tN,_⟩:=iu.1 hj
   obtain⟨tY,rl⟩:=rJ.step hr hj oI tN
   unfold oO at h1 ⊢
   simp only[tN] at h1 ⊢
   obtain⟨f,hf,hK⟩:=h1
   have yp:=hy.back tY hf
   refine⟨f,yp,ih (listed.setIfInBounds j true) _ (by rw[dc];exact dR) (Ii.step hj) rl (jI hr (fM oI)) (hy.keep tY yp) ?_⟩
   rw[gB _ _ oI,← rZ tY hy yp]
   exact hK
theorem zP {ops:Array Oper} {K0:S→Prop} {m:Nat} (O6:sj ops m=true) (OT:m+1=ops.size):∀ (ks:List Nat) (listed:Array Bool) (s:S),listed.size=ops.size→DC ops listed→(∀ k∈ks,∃ o,ops[k]?=some o∧li tr o=false)→
 kq tr ops ks listed=some (n0 m ops.size)→eJ P G tr ops (jS ops ks) s K0→xQ P G tr ops (n0 m ops.size) K0 ks.length listed s
 |[],listed,s,_,_,_,hB,h=>by simp only[kq,am] at hB;exact⟨hB,h⟩
 |k::r,listed,s,dR,Ii,hA,hB,h=>by
  obtain⟨o,ho,wB⟩:=hA k (aT ..)
  unfold kq at hB
  split at hB
  ·rename_i hc
   simp only[aG] at hc
   obtain⟨hr,hf⟩:=hc
   have hr':k∈Region.ready .any ops listed:=by simpa using hr
   simp only[jS,eP,ho,eJ] at h
   obtain⟨e,he,hK⟩:=fK (K:=fun s'=>eJ P G tr ops (jS ops r) s' K0) wB h
   exact DW O6 OT ho r.length listed s dR Ii (kG ho hf) hr' he
    (zP O6 OT r _ _ (by rw[dc];exact dR) (Ii.step hr') (fun k hk=>hA k (aM _ hk)) hB hK)
  ·cases hB
theorem DX {id:Nat} {ops:Array Oper} (hm:P.follows .mixedOrders=true) (dI:jJ n ops=true) {KP:Value→S→Prop} (AN:∀ v s a w,KP v s→SE G n I0 M w0 s a w→Q (.panic [{ v:=v,recovered:=false }]) a w)
 (h:QX P G tr ops s KP) (cw:SE G n I0 M w0 s a w):(Code.region id ops true).wp P Q a w:=by
 refine wp_region_any hm ?_
 obtain⟨stop,os,Bp,E2,hv⟩:=h
 unfold QW at E2
 simp only[aG,aW,eb,bi,ko] at E2
 obtain⟨⟨⟨⟨⟨dR,hA⟩,Bq⟩,uW⟩,O6⟩,Kk⟩:=E2
 simp only[Bp,bK,bQ,Option.isNone_iff_eq_none] at Bq
 have m5:SE G n I0 M w0 s a { w with drawn:=w.drawn+1 }:=by
  obtain⟨I,β,ob,hst⟩:=cw
  exact⟨I,β,ob,hst.drew⟩
 have H5:jS ops (List.range stop)=ops.toList.take stop:=by
  rw[d6,oS 0 _ (by omega)];rfl
 rw[← H5] at hv
 have UG:∀ k∈List.range stop,∃ o,ops[k]?=some o∧li tr o=false:=fun k hk=>by
  have hk:=cO.1 hk
  have bF:k<ops.size:=by omega
  refine⟨ops[k],ay bF,hA _ ?_⟩
  rw[fV]
  exact⟨k,by rw[bJ];omega,by simp⟩
 have h3:=zP O6 dR (List.range stop) (Array.replicate ops.size false) s (by simp) (fun k o ho hk=>by exfalso;simp only[ao,Array.getElem?_replicate] at hk;split at hk<;>cases hk) UG uW hv
 have h4:=sc (Q:=Q) (r:=1) dI (fun a w s hs cw=>?_) _ _ _ _ _ h3 m5
 ·rw[jx,lc,dR] at h4
  exact h4
 ·refine⟨fun h0=>(by rw[Kk] at h0;cases h0),fun i hi=>?_⟩
  rw[Kk,aN] at hi
  subst hi
  obtain⟨I,β,ob,hst⟩:=cw
  unfold wpOp
  simp only[Bp]
  rw[if_pos (by simp[Region.wanted,Bq])]
  exact .inl (sn AN hst hs)
theorem DY {Q:Nat} {ops:Array Oper} {i:Nat}:(unA Q ops)[i]?=(ops[i]?).map (unO Q):=by unfold unA;simp
theorem ND {Q:Nat} {o:Oper}:(unO Q o).after=o.after:=by unfold unO;split<;>rfl
theorem KX {Q:Nat} {o:Oper}:(unO Q o).dst=o.dst:=by unfold unO;split<;>rfl
theorem NE {Q:Nat} {o:Oper}:(unO Q o).guard=o.guard:=by unfold unO;split<;>rfl
theorem BU {Q:Nat} {ops:Array Oper} {listed:Array Bool}:Region.ready .any (unA Q ops) listed=Region.ready .any ops listed:=by
 unfold Region.ready
 have e:(unA Q ops).size=ops.size:=by unfold unA;simp
 rw[e]
 congr 1
 funext j
 rw[DY]
 cases ops[j]? with
 |none=>rfl
 |some o=>simp only[bK,ND]
theorem Q1 {Q:Nat} {ops:Array Oper} {o:Oper} {s:S}:tV (unA Q ops) (unO Q o) s=tV ops o s:=by
 unfold tV
 rw[NE]
 cases o.guard with
 |none=>rfl
 |some g=>
  obtain⟨j,want⟩:=g
  simp only
  have e:((unA Q ops)[j]?).bind (·.dst)=(ops[j]?).bind (·.dst):=by
   rw[DY]
   cases ops[j]? with
   |none=>rfl
   |some o=>simp only[bK,fE,KX]
  rw[e]
theorem Q2 (hst:St G n I0 M w0 I β ob s a w) (hd:∀ d,o.dst=some d→d<n) {T:TypeId} (bZ:o.op=.alloc T) {i:TI} (hi:ti P T=some i) (hz0:i.zero.isSome=true) (hk:∀ a' w',SE G n I0 M w0 (s.put o.dst .un) a' w'→next a' w'):o.wp P a w next Q:=by
 obtain⟨z,UF⟩:=Option.isSome_iff_exists.1 hz0
 obtain⟨j,d,h1,h2,_,_,_,_,hz,_⟩:=bn hi
 rw[UF] at hz
 split at hz
 ·rename_i zv rF
  refine eo (v':=.pointer (some ⟨w.heap.size,0,none⟩)) (w':=w.alloc (.cells zv.cells T)) ?_ (hk _ _ (SE.put (hst.allocOwn _) hd (by simp only[LR];exact .un _)))
  have bA:(Instr.alloc T true (.tuple #[])).run P w=.ok (.pointer (some ⟨w.heap.size,0,none⟩)) (w.alloc (.cells zv.cells T)):=by
   simp[Instr.alloc,zeroValue,typeInfo,h1,rF,newVar,newRow]
  obtain⟨dst,op,type,pos,after,guard⟩:=o
  simp only at bZ
  subst bZ
  simp only[execOp,aH,bA,aw,bh]
 ·cases hz
theorem uD {ops:Array Oper} {md:Region.Mode} {stop:Nat} {C C':S→Prop} (h:∀ s,C s→C' s):∀ (fuel:Nat) (listed:Array Bool) (s:S),oY P G tr md ops stop C fuel listed s→oY P G tr md ops stop C' fuel listed s
 |0,_,_,h0=>h0.elim
 |fuel+1,listed,s,h0=>by
  refine⟨h0.1,fun i hi=>?_⟩
  rcases h0.2 i hi with h1 | ⟨h1,h2⟩
  ·left
   unfold oO at h1 ⊢
   split
   ·rename_i ho;simp only[ho] at h1;exact uD h fuel _ _ h1
   ·rename_i o ho
    simp only[ho] at h1
    obtain⟨e,he,h3⟩:=h1
    exact⟨e,he,uD h fuel _ _ h3⟩
  ·exact .inr ⟨h1,h _ h2⟩
theorem NF {ops:Array Oper} {stop:Nat} {A:List Nat} (h:Gw ops stop A=true) {listed:Array Bool} (Ii:DC ops listed) (hr:stop∈Region.ready .any ops listed):∀ (m k:Nat),ops.size - k≤m→k∈A→listed.getD k false=true:=by
 intro m
 induction m with
 |zero=>
  intro k hm hk
  unfold Gw at h
  obtain⟨j,hj,h2⟩:=dp.1 (aW.1 h k hk)
  simp only[aG,bi] at h2
  have:=cO.1 hj
  omega
 |succ m ih=>
  intro k hm hk
  have h0:=h
  unfold Gw at h0
  obtain⟨j,hj,h2⟩:=dp.1 (aW.1 h0 k hk)
  simp only[aG,bi,dF] at h2
  obtain⟨⟨hkj,hjs⟩,h3⟩:=h2
  have ajo:=cO.1 hj
  cases ho:ops[j]? with
  |none=>simp[ho] at h3
  |some o=>
   simp only[ho,bK,bQ] at h3
   rw[Array.any_eq_true'] at h3
   obtain⟨e,he,h4⟩:=h3
   simp only[aG,ko] at h4
   rcases hjs with hjs | hjA
   ·subst hjs
    obtain⟨_,oj,tN,dh⟩:=iu.1 hr
    rw[ho] at tN;cases tN
    have:=dh e he h4.1
    rw[h4.2] at this;exact this
   ·have h5:=ih j (by omega) (by simpa using hjA)
    have:=Ii j o ho h5 e he h4.1
    rw[h4.2] at this;exact this
theorem DZ {ops:Array Oper} {stop:Nat} {C:S→Prop} {i:Nat} {oi:Oper} {e:Ef} (hi:ops[i]?=some oi) (hns:∀ listed,DC ops listed→listed.getD i true=false→stop∉Region.ready .any ops listed) :
 ∀ (fuel:Nat) (listed:Array Bool) (s:S),DC ops listed→FreeAt tr .any ops listed i oi→
  i∈Region.ready .any ops listed→TEf P G tr ops oi s e→
  oY P G tr .any ops stop C fuel (listed.setIfInBounds i true) (e.run tr oi s)→oY P G tr .any ops stop C (fuel+1) listed s:=by
 intro fuel
 induction fuel with
 |zero=>intro listed s _ _ _ _ H;exact H.elim
 |succ fuel ih=>
  intro listed s Ii rJ hr hy H
  refine⟨fun h=>(by rw[h] at hr;cases hr),fun j hj=>?_⟩
  by_cases oI:j=i
  ·subst oI;left;unfold oO;simp only[hi];exact⟨e,hy,H⟩
  ·rcases H.2 j (jI hj oI) with h1 | ⟨h1,h2⟩
   ·left
    obtain⟨_,oj,tN,_⟩:=iu.1 hj
    obtain⟨tY,rl⟩:=rJ.step hr hj oI tN
    unfold oO at h1 ⊢
    simp only[tN] at h1 ⊢
    obtain⟨f,hf,hK⟩:=h1
    have yp:=hy.back tY hf
    refine⟨f,yp,ih (listed.setIfInBounds j true) _ (Ii.step hj) rl (jI hr (fM oI)) (hy.keep tY yp) ?_⟩
    rw[gB _ _ oI,← rZ tY hy yp]
    exact hK
   ·exfalso
    subst h1
    exact hns listed Ii (iu.1 hr).1 hj
theorem zQ {ops:Array Oper} {stop:Nat} {C:S→Prop} {A:List Nat} (XO:Gw ops stop A=true) {K:S→Prop} (m:Nat) (kf:Array Bool) (Uq:∀ s1,K s1→oY P G tr .any ops stop C m kf s1):∀ (ks:List Nat) (listed:Array Bool) (s:S),DC ops listed→(∀ k∈ks,k∈A∧∃ o,ops[k]?=some o∧li tr o=false)→
 kq tr ops ks listed=some kf→eJ P G tr ops (jS ops ks) s K→oY P G tr .any ops stop C (m+ks.length) listed s
 |[],listed,s,_,_,hB,h=>by simp only[kq,am] at hB;subst hB;exact Uq _ h
 |k::r,listed,s,Ii,hA,hB,h=>by
  obtain⟨hkA,o,ho,wB⟩:=hA k (aT ..)
  unfold kq at hB
  split at hB
  ·rename_i Y2
   simp only[aG] at Y2
   obtain⟨hr,hf⟩:=Y2
   have hr':k∈Region.ready .any ops listed:=by simpa using hr
   simp only[jS,eP,ho,eJ] at h
   obtain⟨e,he,hK⟩:=fK (K:=fun s'=>eJ P G tr ops (jS ops r) s' K) wB h
   refine DZ ho (fun l Ii hl hs=>?_) (m+r.length) listed s Ii (kG ho hf) hr' he
    (zQ XO m kf Uq r _ _ (Ii.step hr') (fun k hk=>hA k (aM _ hk)) hB hK)
   have h1:=NF XO Ii hs _ k (ae _) hkA
   rw[ao] at h1 hl
   cases UJ:l[k]? with
   |none=>rw[UJ] at h1;cases h1
   |some b=>rw[UJ] at h1 hl;simp only[bQ] at h1 hl;rw[h1] at hl;cases hl
  ·cases hB
theorem zR {ops:Array Oper} {stop:Nat} {C:S→Prop} {B:List Nat} (m:Nat) (kf:Array Bool) (Uv:∀ k o s e,k∈B→ops[k]?=some o→TEf P G tr ops o s e→∀ s',(C (e.run tr o s')↔C s'))
 (Uq:∀ s',C s'→oY P G tr .any ops stop C m kf s'):∀ (ks:List Nat) (listed:Array Bool) (s:S),(∀ k∈ks,k∈B∧∃ o,ops[k]?=some o∧li tr o=false)→
 kq tr ops ks listed=some kf→eJ P G tr ops (jS ops ks) s (fun _=>True)→C s→oY P G tr .any ops stop C (m+ks.length) listed s
 |[],listed,s,_,hB,_,hc=>by simp only[kq,am] at hB;subst hB;exact Uq _ hc
 |k::r,listed,s,hA,hB,h,hc=>by
  obtain⟨XQ,o,ho,wB⟩:=hA k (aT ..)
  unfold kq at hB
  split at hB
  ·rename_i Y2
   simp only[aG] at Y2
   obtain⟨hr,hf⟩:=Y2
   simp only[jS,eP,ho,eJ] at h
   obtain⟨e,he,hK⟩:=fK (K:=fun s'=>eJ P G tr ops (jS ops r) s' fun _=>True) wB h
   exact xZ ho (fun s'=>(Uv k o s e XQ ho he s').1) (m+r.length) listed s (kG ho hf) (by simpa using hr) he
    (zR m kf Uv Uq r _ _ (fun k hk=>hA k (aM _ hk)) hB hK ((Uv k o s e XQ ho he s).2 hc))
  ·cases hB
theorem mq {ops:Array Oper} {stop Q0:Nat} {C:S→Prop} {os:Oper} (Bp:ops[stop]?=some os) (Bq:os.guard=none) (dI:jJ n ops=true) (Pa:Gv P ops=true) (sQ:∀ o∈(unA Q0 ops).toList,Q0∉wr tr o)
 (hC:∀ s I β ob a w next,C s→St G n I0 M w0 I β ob s a w→os.wp P a w next Q):∀ (fuel:Nat) (listed:Array Bool) (s:S) (a:Act) (w:World),s.fr Q0=.un→
 oY P G tr .any (unA Q0 ops) stop C fuel listed s→SE G n I0 M w0 s a w→wpAny P .any ops Q fuel listed a w
 |0,_,_,_,_,_,h,_=>h.elim
 |fuel+1,listed,s,a,w,hQ,h,cw=>by
  refine⟨fun h0=>absurd (by rw[BU];exact h0) h.1,fun i hi=>?_⟩
  have hh:=h.2 i (by rw[BU];exact hi)
  rcases hh with hh | ⟨rfl,hh⟩
  ·unfold oO at hh
   unfold wpOp
   rw[DY] at hh
   split
   ·rename_i ho;simp only[ho,jo] at hh;exact mq Bp Bq dI Pa sQ hC fuel _ s a w hQ hh cw
   ·rename_i o ho
    simp only[ho,bK] at hh
    obtain⟨e,he,hh⟩:=hh
    have jG:o∈ops.toList:=by
     have:=eu ho
     simpa using this
    have aeP:unO Q0 o∈(unA Q0 ops).toList:=by
     unfold unA
     exact List.mem_map_of_mem jG
    have O9:(e.run tr (unO Q0 o) s).fr Q0=.un:=by
     rw[rY]
     simp only
     rw[fC (sQ _ aeP)];exact hQ
    obtain⟨I,β,ob,hst⟩:=cw
    unfold TEf at he
    rw[Q1] at he
    rcases he with⟨hg,hv,_⟩ | ⟨hg,rfl⟩
    ·rw[if_pos (j6 hst hg)]
     left
     by_cases ha:∃ T,o.op=.alloc T
     ·obtain⟨T,hT⟩:=ha
      have h1:=aW.1 Pa o jG
      rw[hT] at h1
      simp only[aG] at h1
      have hu:unO Q0 o={ o with op:=.move (.tmp Q0) }:=by unfold unO;rw[hT]
      cases hti:ti P T with
      |none=>rw[hti] at h1;cases h1.2
      |some ii=>
       rw[hti] at h1
       have uY:e.run tr (unO Q0 o) s=s.put o.dst .un:=by
        rw[hu] at hv ⊢
        unfold VEf at hv
        simp only[VYK,ev,hQ,V.fz] at hv
        obtain⟨v,rfl,hv⟩:=hv
        have hv':v=.un:=by split at hv<;>exact hv
        subst hv'
        rw[vr]
        unfold S.after S.use
        have:∀ t,bR tr { o with op:=.move (.tmp Q0) }=some t→t=Q0:=fun t ht=>by
         unfold bR at ht
         simp only at ht
         split at ht
         ·exact(dE ht).symm
         ·cases ht
        cases hc:bR tr { o with op:=.move (.tmp Q0) } with
        |none=>rfl
        |some t=>rw[this t hc];simp[hQ,V.isOw]
       rw[uY] at hh O9
       exact Q2 hst (eQ dI jG) hT hti h1.2 fun a' w' m5=>mq Bp Bq dI Pa sQ hC fuel _ _ a' w' O9 hh m5
     ·have hu:unO Q0 o=o:=by
       unfold unO
       split
       ·rename_i T hT;exact absurd ⟨T,hT⟩ ha
       ·rfl
      rw[hu] at hv hh O9
      exact sZ hst (eQ dI jG) hv fun a' w' m5=>mq Bp Bq dI Pa sQ hC fuel _ _ a' w' O9 hh m5
    ·rw[j6 hst hg]
     simp only[aS,dm]
     rw[rX] at hh O9
     rw[KX] at hh O9
     exact mq Bp Bq dI Pa sQ hC fuel _ _ _ w O9 hh (SE.put hst (eQ dI jG) (by simp only[LR];exact .sk))
  ·obtain⟨I,β,ob,hst⟩:=cw
   unfold wpOp
   simp only[Bp]
   rw[if_pos (by simp[Region.wanted,Bq])]
   exact .inl (hC _ _ _ _ _ _ _ hh hst)
theorem D1 {id:Nat} {ops:Array Oper} (hm:P.follows .mixedOrders=true) (dI:jJ n ops=true) {KP:Value→S→Prop} (AN:∀ v s a w,KP v s→SE G n I0 M w0 s a w→Q (.panic [{ v:=v,recovered:=false }]) a w)
 (h:QZ P G tr ops s KP) (cw:SE G n I0 M w0 s a w):(Code.region id ops true).wp P Q a w:=by
 refine wp_region_any hm ?_
 obtain⟨Q0,stop,A,B,os,Bp,E2,hQ,hv⟩:=h
 unfold QY at E2
 simp only[aG,bi] at E2
 obtain⟨⟨⟨⟨⟨⟨⟨wB,hBq⟩,Bq⟩,Pa⟩,XO⟩,sQ⟩,ce⟩,uW⟩:=E2
 simp only[Bp,bK,bQ,Option.isNone_iff_eq_none] at Bq
 have m5:SE G n I0 M w0 s a { w with drawn:=w.drawn+1 }:=by
  obtain⟨I,β,ob,hst⟩:=cw
  exact⟨I,β,ob,hst.drew⟩
 have aeQ:∀ k∈A++B,∃ o,(unA Q0 ops)[k]?=some o∧li tr o=false:=fun k hk=>by
  have:=aW.1 wB k hk
  cases ho:(unA Q0 ops)[k]? with
  |none=>simp[ho] at this
  |some o=>simp[ho] at this;exact⟨o,rfl,this⟩
 split at uW
 ·rename_i l1 hl1
  split at uW
  ·rename_i l2 YO
   have Kk:Region.ready .any (unA Q0 ops) l2=[stop]:=by simpa using uW
   obtain⟨q,hq⟩:∃ q,ops.size - A.length - B.length=q+1:=⟨ops.size - A.length - B.length - 1,by omega⟩
   have key:=zQ (P:=P) (G:=G) (C:=fun s'=>ry P G s' os KP) XO (q+1+B.length) l1 (fun s1 h1=>?_) A (Array.replicate ops.size false) s (fun k o ho hk=>by exfalso;simp only[ao,Array.getElem?_replicate] at hk;split at hk<;>cases hk)
    (fun k hk=>⟨hk,aeQ k (ee _ hk)⟩) hl1 hv
   ·have e:q+1+B.length+A.length=ops.size:=by omega
    rw[e] at key
    exact mq Bp Bq dI Pa (fun o ho=>by simpa using aW.1 sQ o ho) (fun s' I β ob a w next hc hst=>sn AN hst hc) _ _ _ _ _ hQ key m5
   ·obtain⟨hvB,acf⟩:=h1
    let C1:S→Prop:=fun s'=>(∀ t,t∉(jS (unA Q0 ops) B).flatMap (wr tr)→s'.fr t=s1.fr t)∧s'.bx=s1.bx∧s'.nb=s1.nb
    refine uD (C:=C1) (fun s' wF=>?_) _ _ _ (zR (q+1) l2 (fun k o s2 e hk ho he s'=>?_) (fun s' hc=>?_) B l1 s1 (fun k hk=>⟨hk,aeQ k (List.mem_append_right _ hk)⟩) YO hvB ⟨fun _ _=>rfl,rfl,rfl⟩)
    ·obtain⟨h1,h2,h3⟩:=wF
     obtain⟨fr,bx,nb⟩:=s'
     simp only at h1 h2 h3
     subst h2 h3
     exact acf fr h1
    ·have hm2:dw tr o≠2:=by
      have:=aW.1 hBq k hk
      simp[ho] at this;exact this
     obtain⟨q1,q2,_⟩:=lZ (s0 he hm2) s'.bx s'.nb 0
     have hw:∀ t,t∉(jS (unA Q0 ops) B).flatMap (wr tr)→t∉wr tr o:=fun t ht hto=>ht (List.mem_flatMap.2 ⟨o,List.mem_filterMap.2 ⟨k,hk,ho⟩,hto⟩)
     show((∀ t,t∉(jS (unA Q0 ops) B).flatMap (wr tr)→(e.run tr o s').fr t=s1.fr t)∧(e.run tr o s').bx=s1.bx∧(e.run tr o s').nb=s1.nb)↔_
     rw[rY]
     simp only[q1,q2]
     constructor
     ·rintro⟨h1,h2⟩
      exact⟨fun t ht=>by have:=h1 t ht;rw[fC (hw t ht)] at this;exact this,h2⟩
     ·rintro⟨h1,h2⟩
      exact⟨fun t ht=>by rw[fC (hw t ht)];exact h1 t ht,h2⟩
    ·exact⟨by rw[Kk];simp,fun i hi=>by
      rw[Kk] at hi
      simp only[aN] at hi
      exact .inr ⟨hi,hc⟩⟩
  ·cases uW
 ·cases uW
theorem Gx {id:Nat} {ops:Array Oper} (hm:P.follows .mixedOrders=true) (dI:jJ n ops=true) {KP:Value→S→Prop} (AN:∀ v s a w,KP v s→SE G n I0 M w0 s a w→Q (.panic [{ v:=v,recovered:=false }]) a w)
 (h:BR P G tr ops s KP) (cw:SE G n I0 M w0 s a w):(Code.region id ops true).wp P Q a w:=by
 rcases h with h | h | h
 ·exact DV hm dI AN h cw
 ·exact DX hm dI AN h cw
 ·exact D1 hm dI AN h cw
theorem uE {k0:Nat} (tO:tR tr=false) (hm:P.follows .mixedOrders=true) (qf:∀ i b,M.e i=some b→i<k0) (KP:Value→S→Prop) (Q:Exit→Act→World→Prop) (AN:∀ v s a w,KP v s→SE G n I0 M w0 s a w→Q (.panic [{ v:=v,recovered:=false }]) a w) :
 ∀ (c:Code) (_hc:pD n tr c=true) (q:VE→S→Prop) (R:Exit→Act→World→Prop) (_hQ:∀ e s a w,q e s→SE G n I0 M w0 s a w→R e.ex a w) (_hR:∀ ch a w,Q (.panic ch) a w→R (.panic ch) a w) (s:S) (a:Act) (w:World),
 qU P G tr k0 KP c q s→SE G n I0 M w0 s a w→c.wp P R a w:=by
 intro c
 induction c with
 |region id ops draw=>
  intro hc q R hQ hR s a w h cw
  simp only[qU] at h
  simp only[pD] at hc
  by_cases hp:NA tr id=true
  ·rw[if_pos hp] at h hc
   simp only[aG,dF,eb] at hc
   obtain⟨⟨hd,hny⟩,uo⟩:=hc
   obtain⟨s,h,cw⟩:=BK hd h cw
   cases draw with
   |true=>
    simp only[cJ] at h
    rcases h with h | h
    ·have XN:=uo.resolve_left (by simp)
     unfold vtw at h
     by_cases htw:Mq tr id=true
     ·rw[if_pos htw] at h XN
      exact wW hm hd XN (fun a w s hk cw=>hQ .normal s a w hk cw) h cw
     ·rw[if_neg htw] at h XN
      exact vB hm hd XN (fun a w s hk cw=>hQ .normal s a w hk cw) h cw
    ·exact Gx hm hd (fun v s a w hk cw=>hR _ _ _ (AN v s a w hk cw)) h cw
   |false=>
   simp only[aS,dm] at h
   refine wp_region ?_
   have:=uC (Q:=R) hd hny (fun a w s hk cw=>hQ .normal s a w hk cw) (fun v s a w hk cw=>hR _ _ _ (AN v s a w hk cw)) ops.toList 0 rfl s a w h cw
   rw[d6]
   simpa using this
  ·rw[if_neg hp] at h hc
   exact uz hm qf tO _ hc q R hQ s a w h cw
 |seq x y ihx ihy=>
  intro hc q R hQ hR s a w h cw
  simp only[pD,aG] at hc
  simp only[qU] at h
  refine wp_seq (ihx hc.1 _ _ (fun e s a w hk cw=>?_) (fun ch a w h=>?_) s a w h cw)
  rotate_left
  ·exact hR ch a w h
  cases e with
  |normal=>exact ihy hc.2 q R hQ hR s a w hk cw
  |exit i=>exact hQ (.exit i) s a w hk cw
  |ret=>exact hQ .ret s a w hk cw
 |cond c x y ihx ihy=>
  intro hc q R hQ hR s a w h cw
  simp only[pD,aG] at hc
  simp only[qU] at h
  split at h
  ·rename_i p hp
   obtain⟨I,β,ob,hst⟩:=cw
   have Ui:a.eval c=.bool p:=by have:=bB hst c;rw[hp] at this;exact this.lit
   have E5:refine s c p=s:=by
    cases c with
    |tmp t=>simp only[refine];simp only[ev] at hp;exact S.up_id hp
    |_=>rfl
   refine wp_cond_split Ui (fun ht=>?_) (fun hf=>?_)
   ·have:=h.1 ht
    rw[ht] at E5
    rw[E5] at this
    exact ihx hc.1 q R hQ hR s a w this ⟨I,β,ob,hst⟩
   ·have:=h.2 hf
    rw[hf] at E5
    rw[E5] at this
    exact ihy hc.2 q R hQ hR s a w this ⟨I,β,ob,hst⟩
  ·exact h.elim
 |block id body ih=>
  intro hc q R hQ hR s a w h cw
  simp only[pD] at hc
  simp only[qU] at h
  refine wp_block (ih hc _ _ (fun e s a w hk cw=>?_) (fun ch a w h=>?_) s a w h cw)
  rotate_left
  ·exact hR ch a w h
  cases e with
  |normal=>exact hQ .normal s a w hk cw
  |exit i=>
   simp only[VE.ex,Exit.inBlock] at hk ⊢
   split
   ·rename_i e;rw[if_pos e] at hk;exact hQ .normal s a w hk cw
   ·rename_i e;rw[if_neg e] at hk;exact hQ (.exit i) s a w hk cw
  |ret=>exact hQ .ret s a w hk cw
 |loop body ih=>
  intro hc q R hQ hR s a w h cw
  simp only[pD] at hc
  simp only[qU] at h
  obtain⟨k,h⟩:=h
  refine wp_loop_rounds k ?_
  induction k generalizing s a w with
  |zero=>exact h.elim
  |succ k ihk=>
   simp only[sW] at h
   obtain⟨s',fx,h⟩:=h
   rw[rounds_succ]
   refine ih hc _ _ (fun e s a w hk cw=>?_) (fun ch a w h=>?_) s' a w h (by rcases fx with rfl | fx;exact cw;exact cw.weaken qf fx)
   rotate_left
   ·exact hR ch a w h
   cases e with
   |normal=>exact ihk s a w cw hk
   |exit i=>exact hQ (.exit i) s a w hk cw
   |ret=>exact hQ .ret s a w hk cw
 |scope body ih=>
  intro hc q R hQ hR s a w h cw
  simp only[pD] at hc
  simp only[qU] at h
  refine wp_scope_straight (ih hc _ _ (fun e s a w hk cw=>?_) (fun ch a w h=>?_) s a w h cw)
  rotate_left
  ·exact hR ch a w h
  cases e with
  |normal=>exact hQ .normal s a w hk cw
  |exit i=>exact hQ (.exit i) s a w hk cw
  |ret=>exact hQ .ret s a w hk cw
 |rangeFunc f ps assign body=>intro _ q R hQ _ s a w h cw;simp only[qU,gy] at h;have:=h.1;rw[tO] at this;cases this
 |_=>intro _ q R hQ _ s a w h cw;exact uz hm qf tO _ (n:=n) (tr:=tr) (by simp[cok]) q R hQ s a w h cw
def VV (k:Nat) (pv:Value) (b1:List (List V)) (v:Value) (s:S):Prop:=v=pv∧∃ l,S.Le k (hdS l b1) s
theorem VW {f:FuncId} {fn:Func} {c:Code} {args:List V} {b0 b1:List (List V)} {pv:Value} (tr:List Nat) (hm:P.follows .mixedOrders=true) (hf:P.funcs[f]?=some fn) (hb:fn.body=some c)
 (gx:(fn.name== "runtime.NumGoroutine")=false) (hn:args.length≤fn.ntmps) (pt:pD fn.ntmps tr c=true)
 (Uu:(∀ x∈args,x.lt b0.length)∧(∀ b∈b0,∀ x∈b,x.lt b0.length)∧b0.length≤b1.length)
 (h:qU P G tr b0.length (VV b0.length pv b1) c (fun _ _=>False) ⟨fun j=>args.getD j .un,bxs b0,b0.length⟩) (tO:tR tr=false:=by rfl):FnX P G f args b0 pv b1:=by
 refine⟨⟨fn,hf,gx,c,hb⟩,Uu,fun I M w vs β ob hI hg hB dR ha=>?_⟩
 have gw:fn.ntmps=(vs++Array.replicate (fn.ntmps - vs.size) undef).size:=by simp;omega
 have hst:=St.initB (n:=fn.ntmps) hI hg hB dR ha gw
 have px:∀ i b,β i=some b→i<b0.length:=fun i b hi=>by
  by_cases h:i<b0.length
  ·exact h
  ·rw[hB.bnone i (by omega)] at hi;cases hi
 refine calls_of_wp hf hb (uE tO hm (fun i b hi=>px i b hi) _ _ (fun v s a w' hq cw=>?_) c pt _ _ (fun e s a w' hq cw=>hq.elim) (fun _ _ _ h=>h) _ _ _ h ⟨_,_,_,hst⟩)
 obtain⟨rfl,l,fx⟩:=hq
 obtain⟨I',β',ob',bH⟩:=cw.weaken (fun i b hi=>px i b hi) fx
 refine⟨bH.defers,I',β',fun i j=>if i<b1.length then ob' (.b i j) else none,rfl,⟨bH.below.os,bH.below.tape,bH.below.output,bH.below.size,bH.below.block,bH.below.drawn⟩,bH.ilow,fun b o wC=>?_,bH.kept,fun i hi=>?_,fun i b hi hb=>?_,?_⟩
 ·rcases bH.ihigh b o wC with h4 | h4
  ·exact .inl h4
  ·exact .inr ⟨h4,bH.ibnd b o wC⟩
 ·obtain⟨blk,_,e1,_⟩:=hB.bx i _ (aj hi)
  rw[e1];exact bH.ext i blk e1
 ·rcases bH.bnew i b hb with h4 | h4
  ·have:=px i b h4;omega
  ·exact h4
 ·exact {
   bx:=fun i cs iE=>by
    have hi:i<b1.length:=(ak.1 iE).1
    obtain⟨blk,cur,e1,e2,e3,e4,e5,e7⟩:=bH.bx i hi
    have e:bxs b1 i=cs:=by simp[bxs,List.getD,iE]
    refine⟨blk,cur,e1,e2,by simp only[hdS,e] at e3;exact e3,by simp only[hdS,e] at e4;exact e4,fun j=>?_,e7⟩
    have:=e5 j
    simp only[hdS,e] at this
    rw[if_pos hi];exact this
   bnone:=fun i hi=>bH.bnone i hi
   binj:=bH.binj
   oinj:=fun i j i' j' b h h'=>by
    split at h<;>try cases h
    split at h'<;>try cases h'
    have:=bH.oinj _ _ b h h'
    simp only[Loc.b.injEq] at this;exact this
   obx:=fun i j b k h=>by
    split at h<;>try cases h
    exact bH.obx _ b k h
   obnd:=fun i j b h=>by
    split at h<;>try cases h
    exact bH.obnd _ b h
   olen:=fun i j hi=>by rw[if_neg (by omega)] }
def Wts (P:Program) (caps:Array Value):List (Nat×TypeId×Value)→World→World→Prop
 |[],w,w'=>w'=w
 |(i,T,z)::l,w,w'=>∃ w1,(Instr.storeAt T (caps.getD i undef) z).run P w=.ok () w1∧Wts P caps l w1 w'
def ac4 (P:Program) (g:FuncId) (k:Nat) (v:Value) (l:List (Nat×TypeId×Value)):Prop:=∀ (caps:Array Value) (w w':World),caps.size=k→Wts P caps l w w'→
 CallsD P g caps (.panicking [{ v:=v,recovered:=false }]) w fun e u' w''=>(∃ x,e=.returned x)∧u'=.panicking [{ v:=v,recovered:=true }]∧w''=w'
def ZE (P:Program) (G:Gl) (tr:List Nat) (d:Tmp) (cs:List V) (K:S→Prop):List (Tmp×Nat×TypeId×Value×V)→S→Prop
 |[],s=>K s
 |(p,i,T,z,x)::l,s=>(p≠d∧(∃ j off,s.fr p=.bp j off∧cs[i]?=some (.bp j off))∧∀ I w,DR I w z x)∧
   VStep P G tr ⟨none,.store T (.tmp p) (.tmp d),T, "",#[],none⟩ (s.put (some d) x) (fun s'=>ZE P G tr d cs K l (s'.put (some d) .un))
theorem Q3 {d:Tmp} {z:Value} (h:d<a.tmps.size):(a.put (some d) z).put (some d) (a.tmps.getD d undef)=a:=by
 have:(a.tmps.set! d z).set! d (a.tmps.getD d undef)=a.tmps:=by
  apply jn
  ·simp[bD]
  ·intro i h1 h2
   simp only[bD,Array.setIfInBounds_setIfInBounds,eT h2]
   split
   ·rename_i e;subst e;simp[Array.getD,h2]
   ·rfl
 show(⟨(a.tmps.set! d z).set! d (a.tmps.getD d undef),a.defers⟩:Act)=a
 rw[this]
theorem Q4 {p d:Tmp} {T:TypeId} {z:Value} {x:V} {K:S→Prop} (hst:St G n I0 M w0 I β ob s a w) (hd:d<n) (hp:p≠d) (hz:∀ I w,DR I w z x)
 (h:VStep P G tr ⟨none,.store T (.tmp p) (.tmp d),T, "",#[],none⟩ (s.put (some d) x) K):∃ w1 s1,(Instr.storeAt T (a.tmps.getD p undef) z).run P w=.ok () w1∧K s1∧SE G n I0 M w0 (s1.put (some d) .un) a w1:=by
 have cw:SE G n I0 M w0 (s.put (some d) x) (a.put (some d) z) w:=SE.put hst (dst:=some d) (fun d' h'=>by cases h';exact hd) (.ofDR (hz I w))
 obtain⟨I1,β1,ob1,lR⟩:=cw
 have dR:d<a.tmps.size:=by rw[hst.size];exact hd
 have e1:(a.put (some d) z).eval (.tmp p)=a.tmps.getD p undef:=by
  show(a.tmps.set! d z).getD p undef=_
  simp[ao,bD,iD,fM hp]
 have e2:(a.put (some d) z).eval (.tmp d)=z:=vF dR
 have hw:=nr (tr:=tr) (next:=fun a' w'=>a'=a.put (some d) z→∃ s1,K s1∧SE G n I0 M w0 s1 (a.put (some d) z) w') (Q:=fun _ _ _=>False) lR (fun d' h'=>by cases h') rfl h (fun a' w' s' hk cw e=>⟨s',hk,e▸cw⟩)
 unfold Oper.wp at hw
 have hx:(execOp (a.put (some d) z).eval ⟨none,.store T (.tmp p) (.tmp d),T, "",#[],none⟩)=(do Instr.storeAt T (a.tmps.getD p undef) z;pure .skip):=by
  unfold execOp
  simp only[e1,e2]
 rw[hx] at hw
 simp only[aH] at hw
 cases hr:(Instr.storeAt T (a.tmps.getD p undef) z).run P w with
 |halt h' w'=>
  rw[hr] at hw
  simp only[Result.andThen] at hw
  cases h'<;>simp only[Oper.upon] at hw
 |ok u w1=>
  rw[hr] at hw
  have hw:(a.put (some d) z).put none undef=a.put (some d) z→∃ s1,K s1∧SE G n I0 M w0 s1 (a.put (some d) z) w1:=hw
  obtain⟨s1,hk,cw⟩:=hw rfl
  refine⟨w1,s1,rfl,hk,?_⟩
  obtain⟨I2,β2,ob2,lS⟩:=cw
  have:=SE.put (v:=a.tmps.getD d undef) lS (dst:=some d) (fun d' h'=>by cases h';exact hd) (x:=.un) (by simp only[LR];exact .un _)
  rw[Q3 dR] at this
  exact this
theorem BV {d:Tmp} (hd:d<n) {cs:List V} {vc:Array Value} {K:S→Prop}:∀ (l:List (Tmp×Nat×TypeId×Value×V)) (s:S) (w:World),ZE P G tr d cs K l s→SE G n I0 M w0 s a w→
 (∀ I β ob w s p i j off,St G n I0 M w0 I β ob s a w→s.fr p=.bp j off→cs[i]?=some (.bp j off)→a.tmps.getD p undef=vc.getD i undef)→
 ∃ w' s',Wts P vc (l.map fun q=>(q.2.1,q.2.2.1,q.2.2.2.1)) w w'∧K s'∧SE G n I0 M w0 s' a w'
 |[],s,w,h,cw,_=>⟨w,s,rfl,h,cw⟩
 |(p,i,T,z,x)::l,s,w,h,cw,hv=>by
  obtain⟨⟨hp,⟨j,off,hf,hc⟩,hz⟩,h⟩:=h
  obtain⟨I,β,ob,hst⟩:=cw
  obtain⟨w1,s1,bA,hk,ahm⟩:=Q4 (z:=z) hst hd hp hz h
  obtain⟨w',s',h1,h2,h3⟩:=BV hd l _ _ hk ahm hv
  refine⟨w',s',⟨w1,?_,h1⟩,h2,h3⟩
  rw[← hv I β ob w s p i j off hst hf hc];exact bA
section
variable {fr:Nat→V} {bx:Nat→List V} {nb:Nat} {K:S→Prop} {KP:Value→S→Prop} {Q:VE→S→Prop}
def pwp (P:Program) (G:Gl) (tr:List Nat) (KP:Value→S→Prop):Code→(VE→S→Prop)→S→Prop:=qU P G tr (nL tr) KP
def Ya (P:Program) (G:Gl) (tr:List Nat) (KP:Value→S→Prop) (b:Code) (Q:VE→S→Prop) (e:VE) (s:S):Prop:=match e with | .normal=>pwp P G tr KP b Q s | e=>Q e s
def Gy (P:Program) (G:Gl) (tr:List Nat) (KP:Value→S→Prop) (v:V) (c:Operand) (x y:Code) (Q:VE→S→Prop) (s:S):Prop:=match v with
 | .c (.lit (.bool p))=>(p=true→pwp P G tr KP x Q (refine s c true))∧(p=false→pwp P G tr KP y Q (refine s c false))
 |_=>False
def NG (P:Program) (G:Gl) (tr:List Nat) (ops:Array Oper) (r:List Oper) (K:S→Prop) (KP:Value→S→Prop) (s:S):Prop:=Be P G tr ops r s K KP
def a8:Op→Bool
 | .makeInterface _ _=>true
 | .call { callee:=.value _,.. }=>true
 |_=>false
def Q5 (P:Program) (G:Gl) (tr:List Nat) (ops:Array Oper) (o:Oper) (r:List Oper) (K:S→Prop) (KP:Value→S→Prop) (s:S):Bool→Prop
 |false=>eJ P G tr ops [o] s (NG P G tr ops r K KP)
 |true=>eJ P G tr ops [o] s (NG P G tr ops r K KP)∨(o.guard=none∧vE P G s o r KP)
def VX (P:Program) (G:Gl) (tr:List Nat) (id:Nat) (ops:Array Oper) (K:S→Prop) (KP:Value→S→Prop) (d:Bool) (s:S):Prop:=if d then vtw P G tr id ops s K∨BR P G tr ops s KP else Be P G tr ops ops.toList s K KP
theorem VY {id:Nat} {ops:Array Oper} {d:Bool}:VX P G tr id ops K KP d ⟨fr,bx,nb⟩=if d then(if tr.contains (2800000+id) then Fc P G tr ops ⟨fr,bx,nb⟩ K else eJ P G tr ops ops.toList ⟨fr,bx,nb⟩ K)∨BR P G tr ops ⟨fr,bx,nb⟩ KP else Be P G tr ops ops.toList ⟨fr,bx,nb⟩ K KP:=rfl
theorem Gz {i:Nat} {ops:Array Oper} {d:Bool}:pwp P G tr KP (.region i ops d) Q ⟨fr,bx,nb⟩=if NA tr i then(if Ms tr i then spl tr i ops ⟨fr,bx,nb⟩ (VX P G tr i ops (Q .normal) KP d) else VX P G tr i ops (Q .normal) KP d ⟨fr,bx,nb⟩) else gy P G tr (nL tr) (.region i ops d) Q ⟨fr,bx,nb⟩:=by
 show(if NA tr i then spl tr i ops ⟨fr,bx,nb⟩ (VX P G tr i ops (Q .normal) KP d) else gy P G tr (nL tr) (.region i ops d) Q ⟨fr,bx,nb⟩)=_
 congr 1
 unfold spl
 split<;>rfl
theorem VZ {i:Nat}:NA tr i=tr.contains (2900000+i):=rfl
theorem Q6 {a b:Code}:pwp P G tr KP (.seq a b) Q ⟨fr,bx,nb⟩=pwp P G tr KP a (Ya P G tr KP b Q) ⟨fr,bx,nb⟩:=rfl
theorem NH:pwp P G tr KP .skip Q ⟨fr,bx,nb⟩=Q .normal ⟨fr,bx,nb⟩:=rfl
theorem Q7:pwp P G tr KP .ret Q ⟨fr,bx,nb⟩=Q .ret ⟨fr,bx,nb⟩:=rfl
theorem NI {c:Operand} {x y:Code}:pwp P G tr KP (.cond c x y) Q ⟨fr,bx,nb⟩=Gy P G tr KP (ev G ⟨fr,bx,nb⟩ c) c x y Q ⟨fr,bx,nb⟩:=rfl
theorem zS {c:Operand} {x y:Code}:Gy P G tr KP (.c (.lit (.bool true))) c x y Q ⟨fr,bx,nb⟩=pwp P G tr KP x Q (refine ⟨fr,bx,nb⟩ c true):=by simp[Gy]
theorem yB {c:Operand} {x y:Code}:Gy P G tr KP (.c (.lit (.bool false))) c x y Q ⟨fr,bx,nb⟩=pwp P G tr KP y Q (refine ⟨fr,bx,nb⟩ c false):=by simp[Gy]
theorem D2 {b:Code} {s:S}:Ya P G tr KP b Q .normal s=pwp P G tr KP b Q s:=rfl
theorem Q8 {ops:Array Oper}:Be P G tr ops [] ⟨fr,bx,nb⟩ K KP=K ⟨fr,bx,nb⟩:=rfl
theorem V0 {ops:Array Oper} {d:Option Tmp} {op:Op} {ty:TypeId} {pos:String} {af:Array Edge} {g:Option (Nat×Bool)} {r:List Oper} :
 Be P G tr ops (⟨d,op,ty,pos,af,g⟩::r) ⟨fr,bx,nb⟩ K KP=Q5 P G tr ops ⟨d,op,ty,pos,af,g⟩ r K KP ⟨fr,bx,nb⟩ (a8 op):=by
 have gen:a8 op=false→Be P G tr ops (⟨d,op,ty,pos,af,g⟩::r) ⟨fr,bx,nb⟩ K KP=eJ P G tr ops [⟨d,op,ty,pos,af,g⟩] ⟨fr,bx,nb⟩ (NG P G tr ops r K KP):=fun h=>by
  refine propext ⟨fun hh=>?_,fun hh=>.inl hh⟩
  rcases hh with hh | ⟨_,hh⟩
  ·exact hh
  ·exfalso
   unfold vE at hh
   unfold a8 at h
   split at hh<;>first | exact hh | (rename_i e;simp only at e;rw[e] at h;cases h)
 cases h:a8 op with
 |false=>exact gen h
 |true=>rfl
theorem Q9 {ops:Array Oper} {o:Oper} {r:List Oper}:Q5 P G tr ops o r K KP ⟨fr,bx,nb⟩ false=eJ P G tr ops [o] ⟨fr,bx,nb⟩ (NG P G tr ops r K KP):=rfl
theorem NJ {ops:Array Oper} {o:Oper} {r:List Oper}:Q5 P G tr ops o r K KP ⟨fr,bx,nb⟩ true=(eJ P G tr ops [o] ⟨fr,bx,nb⟩ (NG P G tr ops r K KP)∨(o.guard=none∧vE P G ⟨fr,bx,nb⟩ o r KP)):=rfl
theorem V1 {ops:Array Oper} {r:List Oper}:NG P G tr ops r K KP ⟨fr,bx,nb⟩=Be P G tr ops r ⟨fr,bx,nb⟩ K KP:=rfl
def pkX:=jj @Gz (jj @VZ (jj @VY (jj @Q6 (jj @NH (jj @Q7 (jj @NI (jj @zS (jj @yB (jj @D2 (jj @Q8 (jj @V0 (jj @Q9 (jj @NJ @V1)))))))))))))
theorem V2 {T ty ty':TypeId} {d:Nat} {x:Operand} {u:Value} {pos pos':String} {af af':Array Edge} {d':Option Tmp} {A:Prop} {s:S} (hT:KU P T) (hx:ev G s x=.c (.lit u)) (h:KP (.iface T u) (s.put (some d) .un)) :
 A∨vE P G s ⟨some d,.makeInterface T x,ty,pos,af,none⟩ [⟨d',.panic (.tmp d),ty',pos',af',none⟩] KP:=by
 refine .inr ?_
 unfold vE
 simp only[hx]
 refine⟨⟨hT,?_,?_⟩,h⟩<;>trivial
theorem Ra {f:FuncId} {fn:Func} {c:Code} {args:List V} {b0 b1:List (List V)} {pv:Value} (tr:List Nat) (hm:P.follows .mixedOrders=true) (hf:P.funcs[f]?=some fn) (hb:fn.body=some c) (gx:(fn.name== "runtime.NumGoroutine")=false)
 {n:Nat} (hn:fn.ntmps=n) (pt:pD n tr c=true) (ce:args.length≤n) {k:Nat} (hk:nL tr=k) (sS:b0.length=k)
 (cv:eC args b0=true) (fx:b0.length≤b1.length)
 (h:pwp P G tr (VV k pv b1) c (fun _ _=>False) ⟨frm 0 args,bxs b0,k⟩) (tO:tR tr=false:=by rfl):FnX P G f args b0 pv b1:=by
 subst hn
 subst sS
 simp only[eC,aG,aW] at cv
 refine VW tr hm hf hb gx ce pt ⟨fun x hx=>V.ltB_ok (cv.1 x hx),fun b hb x hx=>V.ltB_ok (cv.2 b hb x hx),fx⟩ ?_ tO
 unfold pwp at h
 rw[hk] at h
 rw[w9] at h;exact h
theorem cT {k:Nat} {pv:Value} {b1:List (List V)} (hk:k≤b1.length) (dI:eW [] b1=true) (hn:b1.length≤nb) (h2:BL 0 b1 bx):VV k pv b1 pv ⟨fr,bx,nb⟩:=
 ⟨rfl,[],cj dI hk hn trivial h2⟩
end
end
section
variable {P:Program} {G:Gl} {tr:List Nat} {n:Nat} {I0:Ft} {M:Mx} {w0:World} {I:Ft} {β:Nat→Option Nat} {ob:Loc→Option Nat} {s:S} {a:Act} {w:World}
def KY (P:Program) (G:Gl) (tr:List Nat) (g:FuncId) (k:Nat) (cs:List V) (kb:Nat) (r:V) (b1:List (List V)) (rs:List ResultVar) (m:Nat) (v:Value) (s:S):Prop:=
 ∃ (d:Tmp) (l:List (Tmp×Nat×TypeId×Value×V)),d<m∧ac4 P g k v (l.map fun q=>(q.2.1,q.2.2.1,q.2.2.2.1))∧ZE P G tr d cs (fun s=>∃ l,S.Le kb (hdS l b1) s∧pX P false (hdS l b1) r rs) l s
def Ji (P:Program) (G:Gl) (tr:List Nat) (t:Nat) (g:FuncId) (k:Nat) (rest:Code) (r:V) (b1:List (List V)) (rs:List ResultVar) (m:Nat) (s:S):Prop:=
 ∃ cs,(s.fr t=.clo (.func g) [] cs∧cs.length=k)∧s.nb=nL tr∧qU P G tr (nL tr) (KY P G tr g k cs (nL tr) r b1 rs m) rest (uA P (nL tr) r b1 rs) s
def Jj (P:Program) (G:Gl) (tr:List Nat) (o1:Oper) (t:Nat) (g:FuncId) (k:Nat) (rest:Code) (r:V) (b1:List (List V)) (rs:List ResultVar) (m:Nat) (e:VE) (s:S):Prop:=match e with
 | .normal=>VStep P G tr o1 s (Ji P G tr t g k rest r b1 rs m)
 |_=>False
theorem gJ {o1:Oper} {t:Nat} {g:FuncId} {k m:Nat} {rest:Code} {r:V} {b1:List (List V)} {rs:List ResultVar} {s:S}:Jj P G tr o1 t g k rest r b1 rs m .normal s=VStep P G tr o1 s (Ji P G tr t g k rest r b1 rs m):=rfl
theorem V3 {f g:FuncId} {t:Nat} {fn:Func} {id:Nat} {r0 rest:Code} {o1 o2:Oper} {args:List V} {b0 b1:List (List V)} {r:V} (k:Nat) (tr:List Nat) (hm:P.follows .mixedOrders=true) (hf:P.funcs[f]?=some fn)
 (hb:fn.body=some (.seq r0 (.seq (.region id #[o1,o2] false) rest))) (gx:(fn.name== "runtime.NumGoroutine")=false)
 (hn:args.length≤fn.ntmps) (pt:cok fn.ntmps tr r0=true) (Uw:pD fn.ntmps tr rest=true) (h1:o1.guard=none∧o1.dst=some t∧t<fn.ntmps)
 (h2:o2.guard=none∧o2.dst=none∧o2.op=.defer { callee:=.value (.tmp t),args:=#[],argTypes:=#[] }) (Ux:QU P g k)
 (iH:r.compT=true) (Uu:(∀ x∈args,x.lt b0.length)∧(∀ b∈b0,∀ x∈b,x.lt b0.length)∧b0.length≤b1.length)
 (h:gy P G tr b0.length r0 (Jj P G tr o1 t g k rest r b1 fn.results.toList fn.ntmps) ⟨fun j=>args.getD j .un,bxs b0,b0.length⟩) (tO:tR tr=false:=by rfl) (EZ:pC tr o1=false:=by rfl):FnB P G f args b0 r b1:=by
 refine⟨⟨fn,hf,gx,_,hb⟩,Uu,fun I M w vs β ob hI hg hB dR ha=>?_⟩
 have gw:fn.ntmps=(vs++Array.replicate (fn.ntmps - vs.size) undef).size:=by simp;omega
 have hst:=St.initB (n:=fn.ntmps) hI hg hB dR ha gw
 have px:∀ i b,β i=some b→i<b0.length:=fun i b hi=>by
  by_cases h:i<b0.length
  ·exact h
  ·rw[hB.bnone i (by omega)] at hi;cases hi
 refine calls_of_wp_defers hf hb (wp_seq ?_)
 refine uz hm (fun i b hi=>px i b hi) tO r0 pt _ _ (fun e s a w1 hq cw=>?_) _ _ _ h ⟨_,_,_,hst⟩
 cases e with
 |exit i=>exact hq.elim
 |ret=>exact hq.elim
 |normal=>
 refine wp_seq (wp_region ?_)
 obtain⟨I1,β1,ob1,lR⟩:=cw
 show wpOps P #[o1,o2] _ [0,1] a w1
 have hg1:Region.wanted o1 (yielded #[o1,o2] a.tmps)=true:=by simp[Region.wanted,h1.1]
 have E8:∀ a:Act,Region.wanted o2 (yielded #[o1,o2] a.tmps)=true:=fun a=>by simp[Region.wanted,h2.1]
 unfold wpOps
 simp only[cM,bG]
 rw[if_pos hg1]
 refine .inl (nr (tr:=tr) lR (fun d hd=>by rw[h1.2.1] at hd;cases hd;exact h1.2.2) EZ hq fun a2 w2 s2 hs2 ahn=>?_)
 obtain⟨cs,⟨xx,mL⟩,uZ,CM⟩:=hs2
 obtain⟨I2,β2,ob2,lS⟩:=ahn
 unfold wpOps
 simp only[cM,cH,bG]
 rw[if_pos (E8 a2)]
 left
 have hv:=lS.fr t
 rw[xx] at hv
 simp only[LR] at hv
 obtain⟨vf,vc,rh,Ks,YP,_,jL⟩:=hv
 have ahi:vf=#[]:=Array.eq_empty_of_size_eq_zero (by simpa using Ks)
 have bA:(execOp a2.eval o2).run P w2=.ok (.defer { target:=.fn (.func g) vc,args:=#[] }) w2:=by
  have he:a2.eval (.tmp t)=.func (.func g) vf vc:=rh
  unfold execOp
  simp only[h2.2.2,resolve,Deferred.ofValue,he,aH,bh,aw,ahi]
  simp
 unfold Oper.wp
 rw[bA]
 simp only[Oper.upon,h2.2.1,Act.put,wpOps]
 have uX:=lS.deferred { target:=.fn (.func g) vc,args:=#[] }
 have H4:∀ i b,β2 i=some b→i<nL tr:=fun i b hi=>by
  by_cases bF:i<nL tr
  ·exact bF
  ·rw[lS.bnone i (by omega)] at hi;cases hi
 have aeR:∀ i,i<b0.length→β2 i=β i:=fun i hi=>by
  obtain⟨blk,_,e1,_⟩:=hB.bx i _ (aj hi)
  rw[e1];exact lS.ext i blk e1
 have ahj:∀ i b,b0.length≤i→β2 i=some b→Wr M w b:=fun i b hi hb=>by
  rcases lS.bnew i b hb with h4 | h4
  ·have:=px i b h4;omega
  ·exact h4
 have fin:∀ (d:Deferred) (s:S) (l:List (Nat×V)) (a a':Act) (w':World),a'.tmps=a.tmps→SE G fn.ntmps I ⟨M.m,β2,[d]⟩ w s a w'→S.Le (nL tr) (hdS l b1) s→pX P false (hdS l b1) r fn.results.toList→
  ∃ v,(results fn a'.tmps).run P w'=.ok v w'∧∃ v' I' β' ob' o',(Ending.returned v=.returned v')∧BelowM (GT G) M w w'∧(∀ b o,I b o→I' b o)∧(∀ b o,I' b o→I b o∨(Wr M w b∧b<w'.heap.size))∧
  (∀ b o,I b o→w'.cell? ⟨b,o,none⟩=w.cell? ⟨b,o,none⟩)∧(∀ i,i<b0.length→β' i=β i)∧(∀ i b,b0.length≤i→β' i=some b→Wr M w b)∧BxR (Wr M w) I' w' β' ob' b1∧
  LR (Wr M w) I' β' w' o' v' r∧(∀ b,o'=some b→(b<w'.heap.size∧Wr M w b)∧(∀ i j,ob' i j≠some b)∧∀ i,β' i≠some b):=by
  intro d s l a a' w' hta cw fx dn
  obtain⟨I',β',ob',bH⟩:=cw.weaken (fun i b hi=>H4 i b hi) fx
  obtain⟨v,o',q1,q2,q3⟩:=oU (P:=P) (fn:=fn) bH iH (Ic:=I') (fun _=>rfl) (fun _ _ h=>h) (fun hz=>by cases hz) dn
  refine⟨v,by rw[hta];exact q1,v,I',β',fun i j=>if i<b1.length then ob' (.b i j) else none,o',rfl,⟨bH.below.os,bH.below.tape,bH.below.output,bH.below.size,bH.below.block,bH.below.drawn⟩,bH.ilow,fun b o wC=>?_,bH.kept,fun i hi=>?_,fun i b hi hb=>?_,?_,q2,fun b hb=>?_⟩
  ·rcases bH.ihigh b o wC with h4 | h4
   ·exact .inl h4
   ·exact .inr ⟨h4,bH.ibnd b o wC⟩
  ·rw[← aeR i hi]
   obtain⟨blk,_,e1,_⟩:=hB.bx i _ (aj hi)
   have e2:β2 i=some blk:=by rw[aeR i hi];exact e1
   rw[e2];exact bH.ext i blk e2
  ·rcases bH.bnew i b hb with h4 | h4
   ·exact ahj i b hi h4
   ·exact h4
  ·exact {
    bx:=fun i cs iE=>by
     have hi:i<b1.length:=(ak.1 iE).1
     obtain⟨blk,cur,e1,e2,e3,e4,e5,e7⟩:=bH.bx i hi
     have e:bxs b1 i=cs:=by simp[bxs,List.getD,iE]
     refine⟨blk,cur,e1,e2,by simp only[hdS,e] at e3;exact e3,by simp only[hdS,e] at e4;exact e4,fun j=>?_,e7⟩
     have:=e5 j
     simp only[hdS,e] at this
     rw[if_pos hi];exact this
    bnone:=fun i hi=>bH.bnone i hi
    binj:=bH.binj
    oinj:=fun i j i' j' b h h'=>by
     split at h<;>try cases h
     split at h'<;>try cases h'
     have:=bH.oinj _ _ b h h'
     simp only[Loc.b.injEq] at this;exact this
    obx:=fun i j b k h=>by
     split at h<;>try cases h
     exact bH.obx _ b k h
    obnd:=fun i j b h=>by
     split at h<;>try cases h
     exact bH.obnd _ b h
    olen:=fun i j hi=>by rw[if_neg (by omega)] }
  ·obtain⟨t,ht⟩:=q3 b hb
   refine⟨bH.obnd _ b ht,fun i j h=>?_,fun i=>bH.obx _ b i ht⟩
   simp only at h
   split at h<;>try cases h
   have:=bH.oinj _ _ b ht h
   cases this
 obtain⟨⟨fg,ahp,ahq,cg,ahr⟩,aeU⟩:=Ux
 have aeS:∀ w',(invoke (Deferred.mk (.fn (.func g) vc) #[]).target (Deferred.mk (.fn (.func g) vc) #[]).args).run P w'=.ok (.enter g (#[]++vc)) w':=fun w'=>by
  have ahk:fg.name≠ "runtime.NumGoroutine" :=by simpa using ahq
  simp[invoke,callFunc,ahp,ahk,ahr]
 have ajq:a2.defers=[]:=lS.defers
 refine uE tO hm (fun i b hi=>H4 i b hi) _ _ (fun v s a w' hq cw=>?_) rest Uw _ _ (fun e s a w' hq cw=>?_) (fun _ _ _ h=>h) _ _ _ CM ⟨_,_,_,uX⟩
 ·obtain⟨d,l,hd,ahs,hK⟩:=hq
  have hdf:a.defers=[{ target:=.fn (.func g) vc,args:=#[] }]:=by obtain⟨_,_,_,h'⟩:=cw;exact h'.defers
  obtain⟨w'',s',h4,⟨l',h50,h51⟩,h6⟩:=BV (vc:=vc) hd l s w' hK cw (fun I β ob w s p i j off bH hf hc=>by
   have h7:=bH.fr p
   rw[hf] at h7
   simp only[LR] at h7
   obtain⟨blk,e1,e2⟩:=h7
   have h8:=jL i _ hc
   simp only[PR] at h8
   obtain⟨qC,e3,e4⟩:=h8
   have h9:=bH.ext j qC e3
   rw[h9] at e1
   cases e1
   rw[e2,e4])
  show Leaves P fn a.tmps _ a.defers (.panicking _) w'
  rw[hdf]
  refine leaves_cons (f:=g) (args:=#[]++vc) (by simp) (aeS w') ?_
  refine (ahs (#[]++vc) w' w'' (by simp[YP,mL]) (by simpa using h4)).mono ?_
  rintro e u' w3 ⟨⟨v',rfl⟩,rfl,rfl⟩
  obtain⟨v,h7,h8⟩:=fin _ s' l' a a _ rfl h6 h50 h51
  exact⟨v,h7,h8⟩
 ·obtain⟨O5,l',fx,dn⟩:=hq
  have hdf:a.defers=[{ target:=.fn (.func g) vc,args:=#[] }]:=by obtain⟨_,_,_,h'⟩:=cw;exact h'.defers
  have main:∀ (hx:True),Leaves P fn a.tmps (fun e w'=>∃ v' I' β' ob' o',e=.returned v'∧BelowM (GT G) M w w'∧(∀ b o,I b o→I' b o)∧(∀ b o,I' b o→I b o∨(Wr M w b∧b<w'.heap.size))∧
   (∀ b o,I b o→w'.cell? ⟨b,o,none⟩=w.cell? ⟨b,o,none⟩)∧(∀ i,i<b0.length→β' i=β i)∧(∀ i b,b0.length≤i→β' i=some b→Wr M w b)∧BxR (Wr M w) I' w' β' ob' b1∧
   LR (Wr M w) I' β' w' o' v' r∧(∀ b,o'=some b→(b<w'.heap.size∧Wr M w b)∧(∀ i j,ob' i j≠some b)∧∀ i,β' i≠some b)) a.defers .returning w':=fun _=>by
   rw[hdf]
   refine leaves_cons (f:=g) (args:=#[]++vc) (by simp) (aeS w') ?_
   refine (aeU (#[]++vc) w' (by simp[YP,mL])).mono ?_
   rintro e u' w'' ⟨⟨v',rfl⟩,rfl,rfl⟩
   obtain⟨v,h7,h8⟩:=fin _ s l' a a _ rfl cw fx dn
   exact⟨v,h7,h8⟩
  cases e with
  |normal=>exact main trivial
  |exit i=>exact O5.elim
  |ret=>exact main trivial
theorem jq {f g:FuncId} {t:Nat} {fn:Func} {id:Nat} {r0 rest:Code} {o1 o2:Oper} {args:List V} {b0 b1:List (List V)} {r:V} (k:Nat) (tr:List Nat) (hm:P.follows .mixedOrders=true) (hf:P.funcs[f]?=some fn)
 (hb:fn.body=some (.seq r0 (.seq (.region id #[o1,o2] false) rest))) (gx:(fn.name== "runtime.NumGoroutine")=false) {rs:List ResultVar} (wG:fn.results.toList=rs) {n:Nat} (hnt:fn.ntmps=n)
 (hn:args.length≤n) (pt:cok n tr r0=true) (Uw:pD n tr rest=true) (h1:o1.guard=none∧o1.dst=some t∧t<n)
 (h2:o2.guard=none∧o2.dst=none∧o2.op=.defer { callee:=.value (.tmp t),args:=#[],argTypes:=#[] }) (Ux:QU P g k)
 (iH:r.compT=true) (cv:eC args b0=true) (fx:b0.length≤b1.length) {k0:Nat} (hk:b0.length=k0)
 (h:gy P G tr k0 r0 (Jj P G tr o1 t g k rest r b1 rs n) ⟨frm 0 args,bxs b0,k0⟩) (tO:tR tr=false:=by rfl) (EZ:pC tr o1=false:=by rfl):FnB P G f args b0 r b1:=by
 subst hnt
 subst wG
 subst hk
 simp only[eC,aG,aW] at cv
 refine V3 (t:=t) (g:=g) k tr hm hf hb gx hn pt Uw h1 h2 Ux iH ⟨fun x hx=>V.ltB_ok (cv.1 x hx),fun b hb x hx=>V.ltB_ok (cv.2 b hb x hx),fx⟩ ?_ tO EZ
 rw[w9] at h;exact h
theorem V4 {f:FuncId} {fn:Func} {c:Code} {args:List V} {b0 b1:List (List V)} {r:V} (tr:List Nat) (hm:P.follows .mixedOrders=true) (hf:P.funcs[f]?=some fn) (hb:fn.body=some c)
 (gx:(fn.name== "runtime.NumGoroutine")=false) (hn:args.length≤fn.ntmps) (pt:pD fn.ntmps tr c=true) (iH:r.compT=true)
 (Uu:(∀ x∈args,x.lt b0.length)∧(∀ b∈b0,∀ x∈b,x.lt b0.length)∧b0.length≤b1.length)
 (h:qU P G tr b0.length (fun _ _=>False) c (uA P b0.length r b1 fn.results.toList) ⟨fun j=>args.getD j .un,bxs b0,b0.length⟩) (tO:tR tr=false:=by rfl):FnB P G f args b0 r b1:=by
 refine⟨⟨fn,hf,gx,c,hb⟩,Uu,fun I M w vs β ob hI hg hB dR ha=>?_⟩
 have gw:fn.ntmps=(vs++Array.replicate (fn.ntmps - vs.size) undef).size:=by simp;omega
 have hst:=St.initB (n:=fn.ntmps) hI hg hB dR ha gw
 have px:∀ i b,β i=some b→i<b0.length:=fun i b hi=>by
  by_cases h:i<b0.length
  ·exact h
  ·rw[hB.bnone i (by omega)] at hi;cases hi
 refine calls_of_wp hf hb (uE (Q:=fun _ _ _=>False) tO hm (fun i b hi=>px i b hi) _ (fun v s a w' hq cw=>hq.elim) c pt _ _ (fun e s a w' hq cw=>?_) (fun _ _ _ h=>h.elim) _ _ _ h ⟨_,_,_,hst⟩)
 obtain⟨O5,l,fx,dn⟩:=hq
 have main:a.defers=[]∧∃ v,(results fn a.tmps).run P w'=.ok v w'∧∃ v' I' β' ob' o',(Ending.returned v=.returned v')∧BelowM (GT G) M w w'∧(∀ b o,I b o→I' b o)∧(∀ b o,I' b o→I b o∨(Wr M w b∧b<w'.heap.size))∧
  (∀ b o,I b o→w'.cell? ⟨b,o,none⟩=w.cell? ⟨b,o,none⟩)∧(∀ i,i<b0.length→β' i=β i)∧(∀ i b,b0.length≤i→β' i=some b→Wr M w b)∧BxR (Wr M w) I' w' β' ob' b1∧
  LR (Wr M w) I' β' w' o' v' r∧(∀ b,o'=some b→(b<w'.heap.size∧Wr M w b)∧(∀ i j,ob' i j≠some b)∧∀ i,β' i≠some b):=by
  obtain⟨I',β',ob',bH⟩:=cw.weaken (fun i b hi=>px i b hi) fx
  refine⟨bH.defers,?_⟩
  obtain⟨v,o',q1,q2,q3⟩:=oU (P:=P) (fn:=fn) bH iH (Ic:=I') (fun _=>rfl) (fun _ _ h=>h) (fun hz=>by cases hz) dn
  refine⟨v,q1,v,I',β',fun i j=>if i<b1.length then ob' (.b i j) else none,o',rfl,⟨bH.below.os,bH.below.tape,bH.below.output,bH.below.size,bH.below.block,bH.below.drawn⟩,bH.ilow,fun b o wC=>?_,bH.kept,fun i hi=>?_,fun i b hi hb=>?_,?_,q2,fun b hb=>?_⟩
  ·rcases bH.ihigh b o wC with h4 | h4
   ·exact .inl h4
   ·exact .inr ⟨h4,bH.ibnd b o wC⟩
  ·obtain⟨blk,_,e1,_⟩:=hB.bx i _ (aj hi)
   rw[e1];exact bH.ext i blk e1
  ·rcases bH.bnew i b hb with h4 | h4
   ·have:=px i b h4;omega
   ·exact h4
  ·exact {
    bx:=fun i cs iE=>by
     have hi:i<b1.length:=(ak.1 iE).1
     obtain⟨blk,cur,e1,e2,e3,e4,e5,e7⟩:=bH.bx i hi
     have e:bxs b1 i=cs:=by simp[bxs,List.getD,iE]
     refine⟨blk,cur,e1,e2,by simp only[hdS,e] at e3;exact e3,by simp only[hdS,e] at e4;exact e4,fun j=>?_,e7⟩
     have:=e5 j
     simp only[hdS,e] at this
     rw[if_pos hi];exact this
    bnone:=fun i hi=>bH.bnone i hi
    binj:=bH.binj
    oinj:=fun i j i' j' b h h'=>by
     split at h<;>try cases h
     split at h'<;>try cases h'
     have:=bH.oinj _ _ b h h'
     simp only[Loc.b.injEq] at this;exact this
    obx:=fun i j b k h=>by
     split at h<;>try cases h
     exact bH.obx _ b k h
    obnd:=fun i j b h=>by
     split at h<;>try cases h
     exact bH.obnd _ b h
    olen:=fun i j hi=>by rw[if_neg (by omega)] }
  ·obtain⟨t,ht⟩:=q3 b hb
   refine⟨bH.obnd _ b ht,fun i j h=>?_,fun i=>bH.obx _ b i ht⟩
   simp only at h
   split at h<;>try cases h
   have:=bH.oinj _ _ b ht h
   cases this
 cases e with
 |normal=>exact main
 |exit i=>exact O5.elim
 |ret=>exact main
def FnO (P:Program) (G:Gl) (f:FuncId) (args:List V) (b0:List (List V)) (o:Option Value) (r:V) (b1:List (List V)):Prop:=match o with
 |none=>FnB P G f args b0 r b1
 |some pv=>FnX P G f args b0 pv b1
def oKP (k:Nat) (b1:List (List V)) (o:Option Value) (pv:Value) (s:S):Prop:=match o with
 |none=>False
 |some v=>VV k v b1 pv s
def oQ (P:Program) (k:Nat) (r:V) (b1:List (List V)) (rs:List ResultVar) (o:Option Value) (e:VE) (s:S):Prop:=match o with
 |none=>uA P k r b1 rs e s
 |some _=>False
theorem jd {f:FuncId} {fn:Func} {c:Code} {args:List V} {b0 b1:List (List V)} {o:Option Value} {r:V} (tr:List Nat) (hm:P.follows .mixedOrders=true) (hf:P.funcs[f]?=some fn) (hb:fn.body=some c) (gx:(fn.name== "runtime.NumGoroutine")=false)
 {rs:List ResultVar} (wG:fn.results.toList=rs) {n:Nat} (hn:fn.ntmps=n) (pt:pD n tr c=true) (ce:args.length≤n) (iH:r.compT=true) {k:Nat} (hk:nL tr=k) (sS:b0.length=k)
 (cv:eC args b0=true) (fx:b0.length≤b1.length)
 (h:pwp P G tr (oKP k b1 o) c (oQ P k r b1 rs o) ⟨frm 0 args,bxs b0,k⟩) (tO:tR tr=false:=by rfl):FnO P G f args b0 o r b1:=by
 subst wG
 cases o with
 |some v=>
  exact Ra tr hm hf hb gx hn pt ce hk sS cv fx h tO
 |none=>
  subst hn
  subst sS
  simp only[eC,aG,aW] at cv
  refine V4 tr hm hf hb gx ce pt iH ⟨fun x hx=>V.ltB_ok (cv.1 x hx),fun b hb x hx=>V.ltB_ok (cv.2 b hb x hx),fx⟩ ?_ tO
  unfold pwp at h
  rw[hk] at h
  rw[w9] at h;exact h
end
theorem GA {P:Program} {G:Gl} {f:FuncId} {args:List V} {b0 b1:List (List V)} {r:V} (ex:List (List V)) (h:FnB P G f args b0 r (b1++ex)) (fx:b0.length≤b1.length) (hb:b1.all (fun b=>b.all fun x=>x.ltB b1.length)=true) (hr:r.ltB b1.length=true):FnB P G f args b0 r b1:=by
 obtain⟨h1,h2,h3⟩:=h
 refine⟨h1,⟨h2.1,h2.2.1,fx⟩,fun I M w vs β ob hI hg hB dR ha=>?_⟩
 refine Calls.mono (h3 I M w vs β ob hI hg hB dR ha) fun e w' he=>?_
 obtain⟨v,I',β',ob',o',e1,e2,e3,e4,e5,e6,e7,e8,e9,e10⟩:=he
 have hβ:∀ i b,(if i<b1.length then β' i else none)=some b→β' i=some b:=fun i b hb=>by split at hb;exact hb;cases hb
 refine⟨v,I',fun i=>if i<b1.length then β' i else none,fun i j=>if i<b1.length then ob' i j else none,o',e1,e2,e3,e4,e5,fun i hi=>?_,fun i b hi hb=>e7 i b hi (hβ i b hb),?_,e9.lt (V.ltB_ok hr) (fun i hi=>if_pos hi),fun b hb=>?_⟩
 ·show(if i<b1.length then β' i else none)=β i
  rw[if_pos (by omega)];exact e6 i hi
 ·exact {
   bx:=fun i cs iE=>by
    have hi:i<b1.length:=(ak.1 iE).1
    obtain⟨blk,cur,c1,c2,c3,c4,c5,c6⟩:=e8.bx i cs (by rw[aC hi];exact iE)
    refine⟨blk,cur,by rw[if_pos hi];exact c1,c2,c3,c4,fun j=>?_,c6⟩
    rw[if_pos hi]
    refine (c5 j).lt ?_ (fun i hi=>if_pos hi)
    have hm:cs∈b1:=bg iE
    rcases cN j cs.length with hj | hj
    ·have:cs.getD j .un=cs[j]:=by simp[List.getD,hj]
     rw[this]
     have h4:=aW.1 hb _ hm
     exact V.ltB_ok (aW.1 h4 _ (aF hj))
    ·have:cs.getD j .un=.un:=by simp[List.getD,b8 hj]
     rw[this];trivial
   bnone:=fun i hi=>if_neg (by omega)
   binj:=fun i j b hi hj=>e8.binj i j b (hβ _ _ hi) (hβ _ _ hj)
   oinj:=fun i j i' j' b h h'=>by
    split at h<;>try cases h
    split at h'<;>try cases h'
    exact e8.oinj _ _ _ _ b h h'
   obx:=fun i j b k h hk=>by
    split at h<;>try cases h
    exact e8.obx _ _ b k h (hβ _ _ hk)
   obnd:=fun i j b h=>by
    split at h<;>try cases h
    exact e8.obnd _ _ b h
   olen:=fun i j hi=>if_neg (by omega) }
 ·obtain⟨d1,d2,d3⟩:=e10 b hb
  refine⟨d1,fun i j h=>?_,fun i h=>d3 i (hβ i b h)⟩
  simp only at h
  split at h<;>try cases h
  exact d2 i j h
theorem ZF {P:Program} {G:Gl} {f:FuncId} {args:List V} {b0 b1:List (List V)} {r:V} (h:FnB P G f args b0 r b1) (hm:∀ b∈b1,nI (b.map V.fz)=nI b):FnB P G f args b0 r (b1.map (·.map V.fz)):=by
 obtain⟨h1,h2,h3⟩:=h
 refine⟨h1,⟨h2.1,h2.2.1,by rw[ap];exact h2.2.2⟩,fun I M w vs β ob hI hg hB dR ha=>?_⟩
 refine Calls.mono (h3 I M w vs β ob hI hg hB dR ha) fun e w' he=>?_
 obtain⟨v,I',β',ob',o',e1,e2,e3,e4,e5,e6,e7,e8,e9,e10⟩:=he
 refine⟨v,I',β',fun _ _=>none,o',e1,e2,e3,e4,e5,e6,e7,?_,e9,fun b hb=>?_⟩
 ·exact {
   bx:=fun i cs iE=>by
    rw[ba] at iE
    obtain⟨cs0,aeV,rfl⟩:=aX.1 iE
    obtain⟨blk,cur,c1,c2,c3,c4,c5,c6⟩:=e8.bx i cs0 aeV
    refine⟨blk,cur,c1,c2,c3.congr (by rw[ap]) (hm cs0 (bg aeV)),by rw[ap];exact c4,fun j=>?_,c6⟩
    have h5:=(c5 j).fz none
    have e:(cs0.map V.fz).getD j .un=(cs0.getD j .un).fz:=by
     simp only[aA,ba]
     cases cs0[j]?<;>rfl
    rw[e];exact h5
   bnone:=fun i hi=>e8.bnone i (by rw[ap] at hi;exact hi)
   binj:=e8.binj
   oinj:=fun i j i' j' b h h'=>by cases h
   obx:=fun i j b k h hk=>by cases h
   obnd:=fun i j b h=>by cases h
   olen:=fun i j hi=>rfl }
 ·obtain⟨d1,d2,d3⟩:=e10 b hb
  exact⟨d1,fun i j h=>by(cases h),d3⟩
theorem D3 {P:Program} {G:Gl} {f:FuncId} {fn:Func} {c:Code} {args:List V} {b0 b1:List (List V)} {o:Option Value} {r:V} (ex:List (List V)) (tr:List Nat) (hm:P.follows .mixedOrders=true) (hf:P.funcs[f]?=some fn) (hb:fn.body=some c) (gx:(fn.name== "runtime.NumGoroutine")=false)
 {rs:List ResultVar} (wG:fn.results.toList=rs) {n:Nat} (hn:fn.ntmps=n) (pt:pD n tr c=true) (ce:args.length≤n) (iH:r.compT=true) {k:Nat} (hk:nL tr=k) (sS:b0.length=k)
 (cv:eC args b0=true) (fx:b0.length≤b1.length) (hb1:b1.all (fun b=>b.all fun x=>x.ltB b1.length)=true) (hr:r.ltB b1.length=true)
 (h:pwp P G tr (oKP k b1 o) c (oQ P k r (b1++ex) rs o) ⟨frm 0 args,bxs b0,k⟩) (tO:tR tr=false:=by rfl):FnO P G f args b0 o r b1:=by
 cases o with
 |some v=>exact jd (o:=some v) tr hm hf hb gx wG hn pt ce iH hk sS cv fx h tO
 |none=>exact GA ex (jd (o:=none) tr hm hf hb gx wG hn pt ce iH hk sS cv (by rw[ax];omega) h tO) fx hb1 hr
theorem yR {P:Program} {G:Gl} {f:FuncId} {fn:Func} {c:Code} {args:List V} {b0 b1 b2:List (List V)} {o:Option Value} {r:V} (tr:List Nat) (hm:P.follows .mixedOrders=true) (hf:P.funcs[f]?=some fn) (hb:fn.body=some c) (gx:(fn.name== "runtime.NumGoroutine")=false)
 {rs:List ResultVar} (wG:fn.results.toList=rs) {n:Nat} (hn:fn.ntmps=n) (pt:pD n tr c=true) (ce:args.length≤n) (iH:r.compT=true) {k:Nat} (hk:nL tr=k) (sS:b0.length=k)
 (cv:eC args b0=true) (fx:b0.length≤b1.length) (Kl:b0.length≤b2.length) (hmk:∀ b∈b2,nI (b.map V.fz)=nI b) (XG:o=none→b2.map (·.map V.fz)=b1)
 (h:pwp P G tr (oKP k b1 o) c (oQ P k r b2 rs o) ⟨frm 0 args,bxs b0,k⟩) (tO:tR tr=false:=by rfl):FnO P G f args b0 o r b1:=by
 cases o with
 |some v=>exact jd (o:=some v) tr hm hf hb gx wG hn pt ce iH hk sS cv fx h tO
 |none=>exact XG rfl▸ZF (jd (o:=none) tr hm hf hb gx wG hn pt ce iH hk sS cv Kl h tO) hmk
