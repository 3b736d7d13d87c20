/- Values without memory: a function that defers one closure, and that does not panic. -/
import Derived.Test.YtegbpjodbjhjeaaGreatDoorVlRunB
import Derived.Defers
import Derived.Recover
set_option linter.all false
namespace Go.Vl
open Go Go.RowKit
section
variable {P:Program} {G:Gl} {tr:List Nat} {n:Nat} {I0:Ft} {M:Mx} {w0:World} {I:Ft} {β:Nat→Option Nat} {ob:Loc→Option Nat} {s:S} {a:Act} {w:World}
theorem St.deferred (h:St G n I0 M w0 I β ob s a w) (d:Deferred):St G n I0 ⟨M.m,β,d::M.d⟩ w0 I β ob s { a with defers:=d::a.defers } w where
 size:=h.size
 defers:=by rw[h.defers]
 below:=⟨h.below.os,h.below.tape,h.below.output,h.below.size,h.below.block,h.below.drawn⟩
 kept:=h.kept
 ilow:=h.ilow
 ihigh:=h.ihigh
 ibnd:=h.ibnd
 fr:=h.fr
 bx:=h.bx
 bnone:=h.bnone
 ext:=fun _ _ h=>h
 bnew:=fun _ _ h=>.inl h
 binj:=h.binj
 oinj:=h.oinj
 obx:=h.obx
 obnd:=h.obnd
 glob:=h.glob
def MY (P:Program) (g:FuncId) (k:Nat):Prop:=(∃ fn,P.funcs[g]?=some fn∧(fn.name== "runtime.NumGoroutine")=false∧∃ c,fn.body=some c)∧
 ∀ (caps:Array Value) (w:World),caps.size=k→CallsD P g caps .returning w fun e u' w'=>(∃ v,e=.returned v)∧u'=.returning∧w'=w
end
section
variable {P:Program} {G:Gl} {tr:List Nat} {n:Nat} {I0:Ft} {M:Mx} {w0:World} {I:Ft} {β:Nat→Option Nat} {ob:Loc→Option Nat} {s:S} {a:Act} {w:World} {o:Oper}
 {next:Act→World→Prop} {Q:Exit→Act→World→Prop} {base:Nat→Prop}
def FnX (P:Program) (G:Gl) (f:FuncId) (args:List V) (b0:List (List V)) (pv:Value) (b1:List (List V)):Prop:=
 (∃ fn,P.funcs[f]?=some fn∧(fn.name== "runtime.NumGoroutine")=false∧∃ c,fn.body=some c)∧
 ((∀ x∈args,x.lt b0.length)∧(∀ b∈b0,∀ x∈b,x.lt b0.length)∧b0.length≤b1.length)∧
 ∀ (I:Ft) (M:Mx) (w:World) (vs:Array Value) (β:Nat→Option Nat) (ob:Nat→Nat→Option Nat),(∀ b o,I b o→b<w.heap.size)→GOK G I w→BxR (Wr M w) I w β ob b0→vs.size=args.length→
  (∀ j x,args[j]?=some x→LR (Wr M w) I β w none (vs.getD j undef) x)→
  Calls P f vs w fun e w'=>∃ I' β' ob',e=.panicked [{ v:=pv,recovered:=false }]∧BelowM (GT G) M w w'∧(∀ b o,I b o→I' b o)∧(∀ b o,I' b o→I b o∨(Wr M w b∧b<w'.heap.size))∧
   (∀ b o,I b o→w'.cell? ⟨b,o,none⟩=w.cell? ⟨b,o,none⟩)∧(∀ i,i<b0.length→β' i=β i)∧(∀ i b,b0.length≤i→β' i=some b→Wr M w b)∧BxR (Wr M w) I' w' β' ob' b1
def GU (P:Program) (T:TypeId):Prop:=∀ (u:Value) (w:World),(Instr.makeInterface T u).run P w=.ok (.iface T u) w
def sw (P:Program) (G:Gl) (s:S) (o:Oper) (r:List Oper) (KP:Value→S→Prop):Prop:=match o.op with
 | .makeInterface T x=>match ev G s x,r,o.dst with
  | .c (.lit u),[o2],some d=>(GU P T∧o2.guard=none∧o2.op=.panic (.tmp d))∧KP (.iface T u) (s.put (some d) .un)
  |_,_,_=>False
 | .call { callee:=.value f,args:=args,.. }=>match dS (ev G s f) (args.toList.map (ev G s)) with
  |some (g,all)=>∃ (ρ:List Nat) (cargs:List V) (b0:List (List V)) (pv:Value) (b1:List (List V)),FnX P G g cargs b0 pv b1∧all.map V.fz=cargs.map (V.ren (rho ρ s.nb))∧
    (ρ.length=b0.length∧ρ.Nodup)∧nw s.bx s.nb (rho ρ s.nb) 0 b0∧KP pv { s with bx:=eO (rho ρ s.nb) 0 b1 s.bx,nb:=s.nb+(b1.length - b0.length) }
  |none=>False
 |_=>False
def xR (P:Program) (G:Gl) (tr:List Nat) (ops:Array Oper):List Oper→S→(S→Prop)→(Value→S→Prop)→Prop
 |[],s,K,_=>K s
 |o::r,s,K,KP=>ea P G tr ops [o] s (fun s'=>xR P G tr ops r s' K KP)∨(o.guard=none∧sw P G s o r KP)
def pw (P:Program) (G:Gl) (s:S) (o:Oper) (KP:Value→S→Prop):Prop:=match o.op with
 | .call { callee:=.value f,args:=args,.. }=>match dS (ev G s f) (args.toList.map (ev G s)) with
  |some (g,all)=>∃ (ρ:List Nat) (cargs:List V) (b0:List (List V)) (pv:Value) (b1:List (List V)),FnX P G g cargs b0 pv b1∧all.map V.fz=cargs.map (V.ren (rho ρ s.nb))∧
    (ρ.length=b0.length∧ρ.Nodup)∧nw s.bx s.nb (rho ρ s.nb) 0 b0∧KP pv { s with bx:=eO (rho ρ s.nb) 0 b1 s.bx,nb:=s.nb+(b1.length - b0.length) }
  |none=>False
 |_=>False
def pR (ops:Array Oper) (stop:Nat):List Nat:=
 (List.range ops.size).foldl (fun D k=>if k==stop||((ops[k]?).map fun o=>o.after.any fun e=>Region.binds .any e&&D.contains e.on).getD false then k::D else D) []
def ahead (ops:Array Oper) (stop:Nat):List Nat:=(List.range ops.size).filter fun k=>!(pR ops stop).contains k
def Y9 (tr:List Nat) (ops:Array Oper) (stop:Nat):Bool:=
 (ahead ops stop).all (fun k=>((ops[k]?).map fun o=>!j6 tr o&&da tr o !=2).getD false)&&((ops[stop]?).map fun o=>o.guard.isNone).getD false&&match jv tr ops (ahead ops stop) (Array.replicate ops.size false) with
 |some listed=>(Region.ready .any ops listed)==[stop]
 |none=>false
def wrs (tr:List Nat) (ops:Array Oper) (stop:Nat):List Tmp:=(jb ops (ahead ops stop)).flatMap (wr tr)
theorem uG {ops:Array Oper} {stop:Nat} (h:stop<ops.size):(pR ops stop).contains stop=true:=by
 have gen:∀ (l:List Nat) (D:List Nat),stop∈l∨stop∈D→stop∈l.foldl (fun D k=>if k==stop||((ops[k]?).map fun o=>o.after.any fun e=>Region.binds .any e&&D.contains e.on).getD false then k::D else D) D:=by
  intro l
  induction l with
  |nil=>intro D h;exact h.resolve_left (by simp)
  |cons k l ih=>
   intro D h
   rw[gG]
   apply ih
   rcases h with h | h
   ·rcases bw.1 h with rfl | h
    ·right;simp
    ·exact .inl h
   ·right;split
    ·exact aN _ h
    ·exact h
 have:=gen (List.range ops.size) [] (.inl (cz.2 h))
 simpa[pR] using this
def MZ (P:Program) (G:Gl) (tr:List Nat) (ops:Array Oper) (s:S) (KP:Value→S→Prop):Prop:=
 ∃ stop o,ops[stop]?=some o∧Y9 tr ops stop=true∧ea P G tr ops (jb ops (ahead ops stop)) s (fun _=>True)∧
  ∀ fr,(∀ t,t∉wrs tr ops stop→fr t=s.fr t)→pw P G ⟨fr,s.bx,s.nb⟩ o KP
def pS (ops:Array Oper) (m:Nat):Bool:=(List.range m).all fun i=>(List.range ops.size).any fun k=>decide (k≠i)&&((ops[k]?).map fun o=>o.after.any fun e=>Region.binds .any e&&(e.on==i)).getD false
def M3 (tr:List Nat) (ops:Array Oper) (stop:Nat):Bool:=
 decide (stop+1=ops.size)&&(ops.toList.take stop).all (fun o=>!j6 tr o)&&((ops[stop]?).map fun o=>o.guard.isNone).getD false&&
 decide (jv tr ops (List.range stop) (Array.replicate ops.size false)=some (mI stop ops.size))&&pS ops stop&&Region.ready .any ops (mI stop ops.size)==[stop]
def M4 (P:Program) (G:Gl) (tr:List Nat) (ops:Array Oper) (s:S) (KP:Value→S→Prop):Prop:=
 ∃ stop o,ops[stop]?=some o∧M3 tr ops stop=true∧ea P G tr ops (ops.toList.take stop) s (fun s'=>pw P G s' o KP)
def unO (Q:Nat) (o:Oper):Oper:=match o.op with
 | .alloc _=>{ o with op:=.move (.tmp Q) }
 |_=>o
def unA (Q:Nat) (ops:Array Oper):Array Oper:=⟨ops.toList.map (unO Q)⟩
def CX (P:Program) (ops:Array Oper):Bool:=ops.toList.all fun o=>match o.op with
 | .alloc T=>o.guard.isNone&&(match ti P T with | some i=>i.zero.isSome | none=>false)
 |_=>true
def CY (ops:Array Oper) (stop:Nat) (A:List Nat):Bool:=A.all fun k=>(List.range ops.size).any fun j=>decide (k<j)&&(decide (j=stop)||A.contains j)&&((ops[j]?).map fun o=>o.after.any fun e=>Region.binds .any e&&(e.on==k)).getD false
def M5 (P:Program) (tr:List Nat) (ops:Array Oper) (Q stop:Nat) (A B:List Nat):Bool:=
 (A++B).all (fun k=>(((unA Q ops)[k]?).map fun o=>!j6 tr o).getD false)&&B.all (fun k=>(((unA Q ops)[k]?).map fun o=>da tr o !=2).getD false)&&((ops[stop]?).map fun o=>o.guard.isNone).getD false&&CX P ops&&
 CY (unA Q ops) stop A&&(unA Q ops).toList.all (fun o=>!(wr tr o).contains Q)&&decide (A.length+B.length<ops.size)&&match jv tr (unA Q ops) A (Array.replicate ops.size false) with
 |some l1=>(match jv tr (unA Q ops) B l1 with | some l2=>(Region.ready .any (unA Q ops) l2)==[stop] | none=>false)
 |none=>false
def M6 (P:Program) (G:Gl) (tr:List Nat) (ops:Array Oper) (s:S) (KP:Value→S→Prop):Prop:=
 ∃ Q stop A B o,ops[stop]?=some o∧M5 P tr ops Q stop A B=true∧s.fr Q=.un∧ea P G tr (unA Q ops) (jb (unA Q ops) A) s fun s1=>ea P G tr (unA Q ops) (jb (unA Q ops) B) s1 (fun _=>True)∧
  ∀ fr,(∀ t,t∉(jb (unA Q ops) B).flatMap (wr tr)→fr t=s1.fr t)→pw P G ⟨fr,s1.bx,s1.nb⟩ o KP
def yD (P:Program) (G:Gl) (tr:List Nat) (ops:Array Oper) (s:S) (KP:Value→S→Prop):Prop:=MZ P G tr ops s KP∨M4 P G tr ops s KP∨M6 P G tr ops s KP
def Jt (tr:List Nat) (id:Nat):Bool:=tr.contains (2900000+id)
theorem gk {P:Program} {G:Gl} {tr:List Nat} {ops:Array Oper} {s:S} {KP:Value→S→Prop} {o:Oper} (Q stop:Nat) (A B:List Nat) {lA lB:List Oper} (ho:ops[stop]?=some o) (h:M5 P tr ops Q stop A B=true) (hQ:s.fr Q=.un) (hA:jb (unA Q ops) A=lA) (hB:jb (unA Q ops) B=lB)
 (hv:ea P G tr (unA Q ops) lA s fun s1=>ea P G tr (unA Q ops) lB s1 (fun _=>True)∧∀ fr,(∀ t,t∉lB.flatMap (wr tr)→fr t=s1.fr t)→pw P G ⟨fr,s1.bx,s1.nb⟩ o KP):yD P G tr ops s KP:=
 .inr (.inr ⟨Q,stop,A,B,o,ho,h,hQ,by rw[hA,hB];exact hv⟩)
theorem fk {P:Program} {G:Gl} {tr:List Nat} {ops:Array Oper} {s:S} {KP:Value→S→Prop} {o:Oper} {l:List Oper} (hl:ops.toList=l++[o]) (h:M3 tr ops l.length=true) (hv:ea P G tr ops l s (fun s'=>pw P G s' o KP)):yD P G tr ops s KP:=
 .inr<|.inl ⟨l.length,o,by rw[← aQ,hl];simp,h,by rw[hl,fu];exact hv;rfl⟩
def o7 (P:Program) (G:Gl) (tr:List Nat) (k:Nat) (KP:Value→S→Prop):Code→(VE→S→Prop)→S→Prop
 | .region id ops d,Q,s=>if Jt tr id then spl tr id ops s (fun s=>if d then vtw P G tr id ops s (Q .normal)∨yD P G tr ops s KP else xR P G tr ops ops.toList s (Q .normal) KP) else fw P G tr k (.region id ops d) Q s
 | .seq a b,Q,s=>o7 P G tr k KP a (fun e s'=>match e with | .normal=>o7 P G tr k KP b Q s' | e=>Q e s') s
 | .cond c x y,Q,s=>match ev G s c with
  | .c (.lit (.bool p))=>(p=true→o7 P G tr k KP x Q (refine s c true))∧(p=false→o7 P G tr k KP y Q (refine s c false))
  |_=>False
 | .block id body,Q,s=>o7 P G tr k KP body (fun e s'=>match e with | .exit i=>if i=id then Q .normal s' else Q (.exit i) s' | e=>Q e s') s
 | .loop body,Q,s=>∃ n,ql k (o7 P G tr k KP body) Q n s
 | .scope body,Q,s=>o7 P G tr k KP body Q s
 |c,Q,s=>fw P G tr k c Q s
def nz (n:Nat) (tr:List Nat):Code→Bool
 | .region id ops draw=>if Jt tr id then iW n ops&&(ops.toList.all fun o=>!ny tr o)&&(!draw||(if HZ tr id then yr tr ops else tN tr ops)) else cok n tr (.region id ops draw)
 | .seq a b=>nz n tr a&&nz n tr b
 | .cond _ a b=>nz n tr a&&nz n tr b
 | .block _ a=>nz n tr a
 | .loop a=>nz n tr a
 | .scope a=>nz n tr a
 |_=>true
theorem Ju {T:TypeId} {x:Operand} (ho:o.op=.makeInterface T x) (h:GU P T):(execOp a.eval o).run P w=.ok (.value (.iface T (a.eval x))) w:=by
 unfold execOp
 simp only[ho]
 simp[aG,h (a.eval x) w]
theorem Jv {x:Operand} {T:TypeId} {u:Value} (ho:o.op=.panic x) (h:a.eval x=.iface T u):(execOp a.eval o).run P w=.halt (.panic (.iface T u)) w:=by
 unfold execOp
 simp only[ho]
 simp[aG,h,Instr.panic,goPanic,Sem.run]
theorem sy {d:Tmp} {v:Value} (h:d<a.tmps.size):(a.put (some d) v).eval (.tmp d)=v:=by
 show(a.tmps.set! d v).getD d undef=v
 simp[ao,bB,h]
theorem sA (hst:St G n I0 M w0 I β ob s a w) {f:FuncId} {vs:List Value} {all:List V} {ρ:List Nat} {cargs:List V} {b0 b1:List (List V)} {pv:Value}
 (hok:FnX P G f cargs b0 pv b1) (hargs:ArgsL (Wr M w0) I β w vs all) (hall:all.map V.fz=cargs.map (V.ren (rho ρ s.nb))) (hρ:ρ.length=b0.length∧ρ.Nodup) (hin:nw s.bx s.nb (rho ρ s.nb) 0 b0)
 (hrun:(execOp a.eval o).run P w=.ok (.enter f vs.toArray) w)
 (hk:∀ w',SE G n I0 M w0 { s with bx:=eO (rho ρ s.nb) 0 b1 s.bx,nb:=s.nb+(b1.length - b0.length) } a w'→Q (.panic [{ v:=pv,recovered:=false }]) a w'):o.wp P a w next Q:=by
 unfold Oper.wp
 rw[hrun]
 simp only[Oper.upon]
 obtain⟨hρl,hn⟩:=hρ
 obtain⟨hlt1,hlt2,hle⟩:=hok.2.1
 have hl:∀ i,i<ρ.length→ρ.getD i 0<s.nb:=fun i hi=>by
  obtain⟨b,hb⟩:∃ b,b0[i]?=some b:=⟨_,ak (by omega)⟩
  have:=(l0 b0 0 i b hin hb).1
  rw[ah] at this
  simpa[rho,hi] using this
 have hinj:=qn hn hl
 have hlen:all.length=cargs.length:=by simpa using kr List.length hall
 refine (hok.2.2 I ⟨Mof β ob (rho ρ s.nb) b0.length,fun _=>none,[]⟩ w vs.toArray (ju β (rho ρ s.nb) b0.length) (obC ob (rho ρ s.nb) b0.length) hst.ibnd hst.glob (hst.give hinj hin hlt2)
  (by have:=hargs.1;simp;omega) (fun j x hx=>?_)).mono ?_
 ·have hj:j<cargs.length:=(aj.1 hx).1
  have hz:all[j]?=some all[j]:=ak (by omega)
  have h1:=hargs.2 j _ hz
  have h2:all[j].fz=x.ren (rho ρ s.nb):=by
   have e1:(all.map V.fz)[j]?=some all[j].fz:=by simp[hz]
   have e2:(cargs.map (V.ren (rho ρ s.nb)))[j]?=some (x.ren (rho ρ s.nb)):=by simp[hx]
   rw[hall,e2] at e1
   exact(dD e1).symm
  rw[h2] at h1
  have h3:=h1.ren (β':=ju β (rho ρ s.nb) b0.length) (hlt1 x (bb hx)) (fun i b hi hb=>by simp[ju,hi,hb])
  have h4:=h3.wider (base':=Wr ⟨Mof β ob (rho ρ s.nb) b0.length,fun _=>none,[]⟩ w) fun b hb=>by cases hb
  simpa using h4
 ·rintro e w' ⟨I',β',ob',rfl,hbel,hI1,hI2,hkept,hβ1,hβ2,hbx⟩
  simp only
  exact hk _ ⟨_,_,_,(hst.called hρl hn hin hle hbel hI1 hI2 hkept hβ1 hβ2 hbx).1⟩
theorem Fp {ops:Array Oper} (hok:iW n ops=true) {KP:Value→S→Prop} (hKP:∀ v s a w,KP v s→SE G n I0 M w0 s a w→Q (.panic [{ v:=v,recovered:=false }]) a w) {l:List Oper} {k:Nat}
 (hl:ops.toList.drop k=o::l) (hst:St G n I0 M w0 I β ob s a w) (hg:o.guard=none) (h:sw P G s o l KP):wpOps P ops Q (List.range' k (l.length+1)) a w:=by
 have hget:ops[k]?=some o:=by
  have:(ops.toList.drop k)[0]?=some o:=by rw[hl];rfl
  rw[bS] at this
  simpa using this
 have hmem:o∈ops.toList:=ct (i:=k) (by rw[hl];simp)
 have hw:Region.wanted o (yielded ops a.tmps)=true:=by simp[Region.wanted,hg]
 simp only[fH,wpOps,hget]
 rw[if_pos hw]
 left
 unfold sw at h
 split at h
 ·rename_i T x hop
  split at h
  ·rename_i u o2 d hx hd
   obtain⟨⟨hi,hg2,hop2⟩,hk⟩:=h
   have hdn:d<n:=ew hok hmem d hd
   unfold Oper.wp
   rw[Ju hop hi]
   simp only[Oper.upon]
   have hget2:ops[k+1]?=some o2:=by
    have:(ops.toList.drop k)[1]?=some o2:=by rw[hl];rfl
    rw[bS] at this
    simpa using this
   have hw2:∀ a:Act,Region.wanted o2 (yielded ops a.tmps)=true:=fun a=>by simp[Region.wanted,hg2]
   simp only[aC,aJ,fH,wpOps,hget2]
   rw[if_pos (hw2 _)]
   left
   unfold Oper.wp
   have hev:a.eval x=u:=by have:=bz hst x;rw[hx] at this;exact this.lit
   rw[Jv (T:=T) (u:=u) hop2 (by rw[hd,sy (by rw[hst.size];exact hdn),hev])]
   simp only[Oper.upon]
   refine hKP _ _ _ _ hk ?_
   rw[hd]
   exact SE.put hst (dst:=some d) (fun d' h'=>by cases h';exact hdn) (by simp only[LR];exact .un _)
  ·exact h.elim
 ·rename_i f args ts hop
  split at h
  ·rename_i g all hcal
   obtain⟨ρ,cargs,b0,pv,b1,hok',hall,hρ,hin,hK⟩:=h
   obtain⟨fn,h1,h2,c,h3⟩:=hok'.1
   have hf:=bz hst f
   unfold dS at hcal
   split at hcal
   ·rename_i g' fs cs he
    simp only[am,dp] at hcal
    obtain⟨rfl,rfl⟩:=hcal
    rw[he] at hf
    obtain⟨vf,vc,hv,q1,q2,q3,q4⟩:=hf.toC.fn_inv
    have hrun:=kg (P:=P) (w:=w) hop hv h1 h2 h3
    refine sA hst hok' (vs:=vf.toList++args.toList.map a.eval++vc.toList) (((lP vf fs q1 q3).append (kJ hst _)).append (lP vc cs q2 q4)) hall hρ hin ?_ (fun w'=>hKP _ _ _ _ hK)
    rw[hrun];congr 2;apply cC;simp
   ·rename_i g' fs cs he
    simp only[am,dp] at hcal
    obtain⟨rfl,rfl⟩:=hcal
    rw[he] at hf
    simp only[LR] at hf
    obtain⟨vf,vc,hv,q1,q2,q3,q4⟩:=hf
    have hrun:=kg (P:=P) (w:=w) hop hv h1 h2 h3
    refine sA hst hok' (vs:=vf.toList++args.toList.map a.eval++vc.toList) (((lQ vf fs q1 q3).append (kJ hst _)).append (lQ vc cs q2 q4)) hall hρ hin ?_ (fun w'=>hKP _ _ _ _ hK)
    rw[hrun];congr 2;apply cC;simp
   ·cases hcal
  ·exact h.elim
 ·exact h.elim
theorem rx {ops:Array Oper} (hok:iW n ops=true) (hny:(ops.toList.all fun o=>!ny tr o)=true) {K:S→Prop} {KP:Value→S→Prop} (hK:∀ a w s,K s→SE G n I0 M w0 s a w→Q .normal a w)
 (hKP:∀ v s a w,KP v s→SE G n I0 M w0 s a w→Q (.panic [{ v:=v,recovered:=false }]) a w):∀ (l:List Oper) (k:Nat),ops.toList.drop k=l→∀ (s:S) (a:Act) (w:World),
 xR P G tr ops l s K KP→SE G n I0 M w0 s a w→wpOps P ops Q (List.range' k l.length) a w
 |[],k,_,s,a,w,h,hse=>by simp only[aJ,List.range'_zero,wpOps];exact hK _ _ _ h hse
 |o::l,k,hl,s,a,w,h,hse=>by
  have hget:ops[k]?=some o:=by
   have:(ops.toList.drop k)[0]?=some o:=by rw[hl];rfl
   rw[bS] at this
   simpa using this
  have hl':ops.toList.drop (k+1)=l:=by
   rw[← eU,hl];rfl
  have hmem:o∈ops.toList:=ct (i:=k) (by rw[hl];simp)
  obtain⟨I,β,ob,hst⟩:=hse
  rcases h with h | ⟨hg,h⟩
  ·simp only[aC,fH,wpOps,hget]
   simp only[ea] at h
   rcases oY hst h with⟨hw,h⟩ | ⟨hw,h⟩
   ·rw[if_pos hw]
    refine .inl (l7 (tr:=tr) hst (ew hok hmem) (by simpa using aU.1 hny o hmem) h fun a' w' s' hs' hse'=>?_)
    exact rx hok hny hK hKP l (k+1) hl' s' a' w' hs' hse'
   ·rw[hw]
    simp only[aS,cX]
    exact rx hok hny hK hKP l (k+1) hl' _ _ w h (SE.put hst (ew hok hmem) (by simp only[LR];exact .sk))
  ·exact Fp hok hKP hl hst hg h
theorem pT {KP:Value→S→Prop} (hKP:∀ v s a w,KP v s→SE G n I0 M w0 s a w→Q (.panic [{ v:=v,recovered:=false }]) a w) (hst:St G n I0 M w0 I β ob s a w) (h:pw P G s o KP):o.wp P a w next Q:=by
 unfold pw at h
 split at h
 ·rename_i f args ts hop
  split at h
  ·rename_i g all hcal
   obtain⟨ρ,cargs,b0,pv,b1,hok',hall,hρ,hin,hK⟩:=h
   obtain⟨fn,h1,h2,c,h3⟩:=hok'.1
   have hf:=bz hst f
   unfold dS at hcal
   split at hcal
   ·rename_i g' fs cs he
    simp only[am,dp] at hcal
    obtain⟨rfl,rfl⟩:=hcal
    rw[he] at hf
    obtain⟨vf,vc,hv,q1,q2,q3,q4⟩:=hf.toC.fn_inv
    have hrun:=kg (P:=P) (w:=w) hop hv h1 h2 h3
    refine sA hst hok' (vs:=vf.toList++args.toList.map a.eval++vc.toList) (((lP vf fs q1 q3).append (kJ hst _)).append (lP vc cs q2 q4)) hall hρ hin ?_ (fun w'=>hKP _ _ _ _ hK)
    rw[hrun];congr 2;apply cC;simp
   ·rename_i g' fs cs he
    simp only[am,dp] at hcal
    obtain⟨rfl,rfl⟩:=hcal
    rw[he] at hf
    simp only[LR] at hf
    obtain⟨vf,vc,hv,q1,q2,q3,q4⟩:=hf
    have hrun:=kg (P:=P) (w:=w) hop hv h1 h2 h3
    refine sA hst hok' (vs:=vf.toList++args.toList.map a.eval++vc.toList) (((lQ vf fs q1 q3).append (kJ hst _)).append (lQ vc cs q2 q4)) hall hρ hin ?_ (fun w'=>hKP _ _ _ _ hK)
    rw[hrun];congr 2;apply cC;simp
   ·cases hcal
  ·exact h.elim
 ·exact h.elim
def aaA (P:Program) (G:Gl) (tr:List Nat) (ops:Array Oper) (stop:Nat) (C:S→Prop) (i:Nat) (K:S→Prop) (s:S):Prop:=m4 P G tr ops i K s∨(i=stop∧C s)
def m9 (P:Program) (G:Gl) (tr:List Nat) (md:Region.Mode) (ops:Array Oper) (stop:Nat) (C:S→Prop):Nat→Array Bool→S→Prop
 |0,_,_=>False
 |fuel+1,listed,s=>
  Region.ready md ops listed≠[]∧
  ∀ i∈Region.ready md ops listed,aaA P G tr ops stop C i (m9 P G tr md ops stop C fuel (listed.setIfInBounds i true)) s
theorem nG {ops:Array Oper} {md:Region.Mode} {stop:Nat} {C:S→Prop} {os:Oper} (hos:ops[stop]?=some os) (hgd:os.guard=none) (hok:iW n ops=true)
 (hC:∀ s I β ob a w next,C s→St G n I0 M w0 I β ob s a w→os.wp P a w next Q):∀ (fuel:Nat) (listed:Array Bool) (s:S) (a:Act) (w:World),
 m9 P G tr md ops stop C fuel listed s→SE G n I0 M w0 s a w→wpAny P md ops Q fuel listed a w
 |0,_,_,_,_,h,_=>h.elim
 |fuel+1,_,s,a,w,h,hse=>by
  refine⟨fun h0=>absurd h0 h.1,fun i hi=>?_⟩
  have hh:=h.2 i hi
  rcases hh with hh | ⟨rfl,hh⟩
  ·unfold m4 at hh
   unfold wpOp
   split
   ·rename_i ho;simp only[ho] at hh;exact nG hos hgd hok hC fuel _ s a w hh hse
   ·rename_i o ho
    simp only[ho] at hh
    obtain⟨e,he,hh⟩:=hh
    have hmem:o∈ops.toList:=by
     have:=eA ho
     simpa using this
    obtain⟨I,β,ob,hst⟩:=hse
    rcases he with⟨hg,hv,_⟩ | ⟨hg,rfl⟩
    ·rw[if_pos (jk hst hg)]
     exact .inl (qo hst (ew hok hmem) hv fun a' w' hse'=>nG hos hgd hok hC fuel _ _ a' w' hh hse')
    ·rw[jk hst hg]
     simp only[aS,cX]
     rw[pJ] at hh
     exact nG hos hgd hok hC fuel _ _ _ w hh (SE.put hst (ew hok hmem) (by simp only[LR];exact .sk))
  ·obtain⟨I,β,ob,hst⟩:=hse
   unfold wpOp
   simp only[hos]
   rw[if_pos (by simp[Region.wanted,hgd])]
   exact .inl (hC _ _ _ _ _ _ _ hh hst)
theorem uH {ops:Array Oper} {md:Region.Mode} {stop:Nat} {C:S→Prop} {i:Nat} {oi:Oper} {e:Ef} (hi:ops[i]?=some oi) (hCb:∀ s,C (e.run tr oi s)→C s) :
 ∀ (fuel:Nat) (listed:Array Bool) (s:S),FreeAt tr md ops listed i oi→
  i∈Region.ready md ops listed→TEf P G tr ops oi s e→
  m9 P G tr md ops stop C fuel (listed.setIfInBounds i true) (e.run tr oi s)→m9 P G tr md ops stop C (fuel+1) listed s:=by
 intro fuel
 induction fuel with
 |zero=>intro listed s _ _ _ H;exact H.elim
 |succ fuel ih=>
  intro listed s hfree hr hy H
  refine⟨fun h=>(by rw[h] at hr;cases hr),fun j hj=>?_⟩
  by_cases hji:j=i
  ·subst hji;left;unfold m4;simp only[hi];exact⟨e,hy,H⟩
  ·rcases H.2 j (iT hj hji) with h1 | ⟨h1,h2⟩
   ·left
    obtain⟨_,oj,hoj,_⟩:=gw.1 hj
    obtain⟨hap,hfree'⟩:=hfree.step hr hj hji hoj
    unfold m4 at h1 ⊢
    simp only[hoj] at h1 ⊢
    obtain⟨f,hf,hK⟩:=h1
    have hf':=hy.back hap hf
    refine⟨f,hf',ih (listed.setIfInBounds j true) _ hfree' (iT hr (fp hji)) (hy.keep hap hf') ?_⟩
    rw[fN _ _ hji,← pL hap hy hf']
    exact hK
   ·exact .inr ⟨h1,hCb _ h2⟩
theorem yE {ops:Array Oper} {stop:Nat} {C:S→Prop} (m:Nat) (listed':Array Bool) (hCb:∀ k o s e,k∈ahead ops stop→ops[k]?=some o→TEf P G tr ops o s e→∀ s',(C (e.run tr o s')↔C s'))
 (hK0:∀ s',C s'→m9 P G tr .any ops stop C m listed' s'):∀ (ks:List Nat) (listed:Array Bool) (s:S),(∀ k∈ks,k∈ahead ops stop∧∃ o,ops[k]?=some o∧j6 tr o=false)→
 jv tr ops ks listed=some listed'→ea P G tr ops (jb ops ks) s (fun _=>True)→C s→m9 P G tr .any ops stop C (m+ks.length) listed s
 |[],listed,s,_,hB,_,hc=>by simp only[jv,am] at hB;subst hB;exact hK0 _ hc
 |k::r,listed,s,hA,hB,h,hc=>by
  obtain⟨hka,o,ho,hAN⟩:=hA k (aR ..)
  unfold jv at hB
  split at hB
  ·rename_i hcd
   simp only[aF] at hcd
   obtain⟨hr,hf⟩:=hcd
   simp only[jb,er,ho,ea] at h
   obtain⟨e,he,hK⟩:=fi (K:=fun s'=>ea P G tr ops (jb ops r) s' fun _=>True) hAN h
   have:=uH ho (fun s'=>(hCb k o s e hka ho he s').1) (m+r.length) listed s (jH ho hf) (by simpa using hr) he
    (yE m listed' hCb hK0 r _ _ (fun k hk=>hA k (aN _ hk)) hB hK ((hCb k o s e hka ho he s).2 hc))
   simpa[cO] using this
  ·cases hB
theorem AB {id:Nat} {ops:Array Oper} (hm:P.follows .mixedOrders=true) (hok:iW n ops=true) {KP:Value→S→Prop} (hKP:∀ v s a w,KP v s→SE G n I0 M w0 s a w→Q (.panic [{ v:=v,recovered:=false }]) a w)
 (h:MZ P G tr ops s KP) (hse:SE G n I0 M w0 s a w):(Code.region id ops true).wp P Q a w:=by
 refine wp_region_any hm ?_
 obtain⟨stop,os,hos,hpn,hv,hpan⟩:=h
 unfold Y9 at hpn
 simp only[aF,aU] at hpn
 obtain⟨⟨hall,hgd⟩,hpre⟩:=hpn
 simp only[hos,bI,bM,Option.isNone_iff_eq_none] at hgd
 have hA:∀ k∈ahead ops stop,∃ o,ops[k]?=some o∧j6 tr o=false∧da tr o≠2:=fun k hk=>by
  have:=hall k hk
  cases ho:ops[k]? with
  |none=>simp[ho] at this
  |some o=>simp[ho] at this;exact⟨o,rfl,this.1,this.2⟩
 have hse':SE G n I0 M w0 s a { w with drawn:=w.drawn+1 }:=by
  obtain⟨I,β,ob,hst⟩:=hse
  exact⟨I,β,ob,hst.drew⟩
 split at hpre
 ·rename_i listed hpl
  have hrd:Region.ready .any ops listed=[stop]:=by simpa using hpre
  let C:S→Prop:=fun s'=>(∀ t,t∉wrs tr ops stop→s'.fr t=s.fr t)∧s'.bx=s.bx∧s'.nb=s.nb
  have hCb:∀ k o s1 e,k∈ahead ops stop→ops[k]?=some o→TEf P G tr ops o s1 e→∀ s',(C (e.run tr o s')↔C s'):=fun k o s1 e hk ho he s'=>by
   obtain⟨o',ho',_,hm2⟩:=hA k hk
   rw[ho] at ho';cases ho'
   obtain⟨q1,q2,_⟩:=kM (qp he hm2) s'.bx s'.nb 0
   have hw:∀ t,t∉wrs tr ops stop→t∉wr tr o:=fun t ht hto=>ht (by
    unfold wrs
    exact List.mem_flatMap.2 ⟨o,List.mem_filterMap.2 ⟨k,hk,ho⟩,hto⟩)
   show((∀ t,t∉wrs tr ops stop→(e.run tr o s').fr t=s.fr t)∧(e.run tr o s').bx=s.bx∧(e.run tr o s').nb=s.nb)↔_
   rw[pK]
   simp only[q1,q2]
   constructor
   ·rintro⟨h1,h2⟩
    exact⟨fun t ht=>by have:=h1 t ht;rw[eZ (hw t ht)] at this;exact this,h2⟩
   ·rintro⟨h1,h2⟩
    exact⟨fun t ht=>by rw[eZ (hw t ht)];exact h1 t ht,h2⟩
  have key:=yE (P:=P) (G:=G) (ops.size - (ahead ops stop).length) listed hCb (fun s' hc=>?_) (ahead ops stop) (Array.replicate ops.size false) s (fun k hk=>⟨hk,by obtain⟨o,h1,h2,_⟩:=hA k hk;exact⟨o,h1,h2⟩⟩) hpl hv ⟨fun _ _=>rfl,rfl,rfl⟩
  ·have hlen:(ahead ops stop).length≤ops.size:=by
    have:=List.length_filter_le (fun k=>!(pR ops stop).contains k) (List.range ops.size)
    simpa[ahead] using this
   rw[Nat.sub_add_cancel hlen] at key
   refine nG hos hgd hok (fun s' I β ob a w next hc hst=>?_) _ _ _ _ _ key hse'
   obtain⟨h1,h2,h3⟩:=hc
   obtain⟨fr,bx,nb⟩:=s'
   simp only at h1 h2 h3
   subst h2 h3
   exact pT hKP hst (hpan fr h1)
  ·have hlt:(ahead ops stop).length<ops.size:=by
    have hs:stop<ops.size:=(aX.1 hos).1
    have hmem:stop∈Region.ready .any ops listed:=by rw[hrd];simp
    have hnot:stop∉ahead ops stop:=by
     intro hin
     have:=(List.mem_filter.1 hin).2
     have hb:(pR ops stop).contains stop=true:=uG hs
     rw[hb] at this;cases this
    have hsub:(ahead ops stop).length<(List.range ops.size).length:=by
     unfold ahead
     rw[List.length_filter_lt_length_iff_exists]
     exact⟨stop,cz.2 hs,by
      have hb:(pR ops stop).contains stop=true:=uG hs
      show ¬ ((!(pR ops stop).contains stop)=true)
      rw[hb];simp⟩
    simpa using hsub
   obtain⟨q,hq⟩:∃ q,ops.size - (ahead ops stop).length=q+1:=⟨ops.size - (ahead ops stop).length - 1,by omega⟩
   rw[hq]
   exact⟨by rw[hrd];simp,fun i hi=>by
    rw[hrd] at hi
    simp only[a8] at hi
    exact .inr ⟨hi,hc⟩⟩
 ·cases hpre
theorem xT {ops:Array Oper} {m:Nat} (h:pS ops m=true) {i:Nat} (hi:i<m):∃ k o,k≠i∧ops[k]?=some o∧∃ e∈o.after,Region.binds .any e=true∧e.on=i:=by
 unfold pS at h
 rw[aU] at h
 have h1:=h i (cz.2 hi)
 rw[dE] at h1
 obtain⟨k,_,h2⟩:=h1
 simp only[aF,bi] at h2
 obtain⟨hne,h2⟩:=h2
 cases ho:ops[k]? with
 |none=>simp[ho] at h2
 |some o=>
  simp only[ho,bI,bM] at h2
  rw[Array.any_eq_true'] at h2
  obtain⟨e,he,h3⟩:=h2
  simp only[aF,js] at h3
  exact⟨k,o,hne,ho,e,he,h3.1,h3.2⟩
def DC (ops:Array Oper) (listed:Array Bool):Prop:=∀ k o,ops[k]?=some o→listed.getD k false=true→∀ e∈o.after,Region.binds .any e=true→listed.getD e.on false=true
theorem DC.step {ops:Array Oper} {listed:Array Bool} {j:Nat} (h:DC ops listed) (hj:j∈Region.ready .any ops listed):DC ops (listed.setIfInBounds j true):=by
 intro k o ho hk e he hb
 obtain⟨_,oj,hoj,hall⟩:=gw.1 hj
 by_cases hkj:k=j
 ·subst hkj
  rw[hoj] at ho;cases ho
  exact Go.getD_set_true (hall e he hb)
 ·rw[jU false (fp hkj)] at hk
  exact Go.getD_set_true (h k o ho hk e he hb)
theorem AC {ops:Array Oper} {K0:S→Prop} {m:Nat} (haw:pS ops m=true) (hsm:m+1=ops.size) {i:Nat} {oi:Oper} {e:Ef} (hi:ops[i]?=some oi) :
 ∀ (fuel:Nat) (listed:Array Bool) (s:S),listed.size=ops.size→DC ops listed→FreeAt tr .any ops listed i oi→
  i∈Region.ready .any ops listed→TEf P G tr ops oi s e→
  uA P G tr ops (mI m ops.size) K0 fuel (listed.setIfInBounds i true) (e.run tr oi s)→uA P G tr ops (mI m ops.size) K0 (fuel+1) listed s:=by
 intro fuel
 induction fuel with
 |zero=>
  intro listed s hsz hdc _ hr hy H
  refine⟨fun h=>(by rw[h] at hr;cases hr),fun j hj=>?_⟩
  by_cases hji:j=i
  ·subst hji;unfold m4;simp only[hi];exact⟨e,hy,H⟩
  ·exfalso
   obtain⟨hun,oj,hoj,hall⟩:=gw.1 hj
   have hil:i<listed.size:=by rw[hsz];exact(aX.1 hi).1
   have hjl:j<ops.size:=(aX.1 hoj).1
   have h1:(mI m ops.size).getD j true=false:=by rw[← H.1,jU true (fp hji)];exact hun
   have h2:(mI m ops.size).getD i false=true:=by
    rw[← H.1,ao,Array.getElem?_setIfInBounds_self_of_lt hil];rfl
   have hjm:=wd h1
   have him:=yt h2
   have h4:=(gw.1 hr).1
   obtain⟨k,ok,hki,hok,ed,hed,hb,hon⟩:=xT haw him
   have hkl:k<ops.size:=(aX.1 hok).1
   have h5:listed.getD i false=true:=by
    by_cases hkj:k=j
    ·subst hkj
     rw[hoj] at hok;cases hok
     have:=hall ed hed hb
     rw[hon] at this;exact this
    ·have hkm:k<m:=by omega
     have h6:listed.getD k false=true:=by
      have h7:(listed.setIfInBounds i true).getD k false=true:=by
       rw[H.1]
       unfold mI
       rw[ao,cv,aB (by simpa using hkm)]
       simp[hkm]
      rw[jU false (fp hki)] at h7
      exact h7
     have:=hdc k ok hok h6 ed hed hb
     rw[hon] at this;exact this
   rw[ao,ax hil] at h5 h4
   simp only[bM] at h5 h4
   rw[h4] at h5;cases h5
 |succ fuel ih=>
  intro listed s hsz hdc hfree hr hy H
  refine⟨fun h=>(by rw[h] at hr;cases hr),fun j hj=>?_⟩
  by_cases hji:j=i
  ·subst hji;unfold m4;simp only[hi];exact⟨e,hy,H⟩
  ·have h1:=H.2 j (iT hj hji)
   obtain⟨_,oj,hoj,_⟩:=gw.1 hj
   obtain⟨hap,hfree'⟩:=hfree.step hr hj hji hoj
   unfold m4 at h1 ⊢
   simp only[hoj] at h1 ⊢
   obtain⟨f,hf,hK⟩:=h1
   have hf':=hy.back hap hf
   refine⟨f,hf',ih (listed.setIfInBounds j true) _ (by rw[cP];exact hsz) (hdc.step hj) hfree' (iT hr (fp hji)) (hy.keep hap hf') ?_⟩
   rw[fN _ _ hji,← pL hap hy hf']
   exact hK
theorem wo {ops:Array Oper} {K0:S→Prop} {m:Nat} (haw:pS ops m=true) (hsm:m+1=ops.size):∀ (ks:List Nat) (listed:Array Bool) (s:S),listed.size=ops.size→DC ops listed→(∀ k∈ks,∃ o,ops[k]?=some o∧j6 tr o=false)→
 jv tr ops ks listed=some (mI m ops.size)→ea P G tr ops (jb ops ks) s K0→uA P G tr ops (mI m ops.size) K0 ks.length listed s
 |[],listed,s,_,_,_,hB,h=>by simp only[jv,am] at hB;exact⟨hB,h⟩
 |k::r,listed,s,hsz,hdc,hA,hB,h=>by
  obtain⟨o,ho,hAN⟩:=hA k (aR ..)
  unfold jv at hB
  split at hB
  ·rename_i hc
   simp only[aF] at hc
   obtain⟨hr,hf⟩:=hc
   have hr':k∈Region.ready .any ops listed:=by simpa using hr
   simp only[jb,er,ho,ea] at h
   obtain⟨e,he,hK⟩:=fi (K:=fun s'=>ea P G tr ops (jb ops r) s' K0) hAN h
   exact AC haw hsm ho r.length listed s hsz hdc (jH ho hf) hr' he
    (wo haw hsm r _ _ (by rw[cP];exact hsz) (hdc.step hr') (fun k hk=>hA k (aN _ hk)) hB hK)
  ·cases hB
theorem AD {id:Nat} {ops:Array Oper} (hm:P.follows .mixedOrders=true) (hok:iW n ops=true) {KP:Value→S→Prop} (hKP:∀ v s a w,KP v s→SE G n I0 M w0 s a w→Q (.panic [{ v:=v,recovered:=false }]) a w)
 (h:M4 P G tr ops s KP) (hse:SE G n I0 M w0 s a w):(Code.region id ops true).wp P Q a w:=by
 refine wp_region_any hm ?_
 obtain⟨stop,os,hos,hpn,hv⟩:=h
 unfold M3 at hpn
 simp only[aF,aU,dI,bi,js] at hpn
 obtain⟨⟨⟨⟨⟨hsz,hA⟩,hgd⟩,hpre⟩,haw⟩,hrd⟩:=hpn
 simp only[hos,bI,bM,Option.isNone_iff_eq_none] at hgd
 have hse':SE G n I0 M w0 s a { w with drawn:=w.drawn+1 }:=by
  obtain⟨I,β,ob,hst⟩:=hse
  exact⟨I,β,ob,hst.drew⟩
 have hpreN:jb ops (List.range stop)=ops.toList.take stop:=by
  rw[dJ,m6 0 _ (by omega)];rfl
 rw[← hpreN] at hv
 have hA':∀ k∈List.range stop,∃ o,ops[k]?=some o∧j6 tr o=false:=fun k hk=>by
  have hk:=cz.1 hk
  have hlt:k<ops.size:=by omega
  refine⟨ops[k],ax hlt,hA _ ?_⟩
  rw[fx]
  exact⟨k,by rw[bH];omega,by simp⟩
 have h3:=wo haw hsz (List.range stop) (Array.replicate ops.size false) s (by simp) (fun k o ho hk=>by exfalso;simp only[ao,Array.getElem?_replicate] at hk;split at hk<;>cases hk) hA' hpre hv
 have h4:=pO (Q:=Q) (r:=1) hok (fun a w s hs hse=>?_) _ _ _ _ _ h3 hse'
 ·rw[iJ,j4,hsz] at h4
  exact h4
 ·refine⟨fun h0=>(by rw[hrd] at h0;cases h0),fun i hi=>?_⟩
  rw[hrd,a8] at hi
  subst hi
  obtain⟨I,β,ob,hst⟩:=hse
  unfold wpOp
  simp only[hos]
  rw[if_pos (by simp[Region.wanted,hgd])]
  exact .inl (pT hKP hst hs)
theorem AE {Q:Nat} {ops:Array Oper} {i:Nat}:(unA Q ops)[i]?=(ops[i]?).map (unO Q):=by unfold unA;simp
theorem Jw {Q:Nat} {o:Oper}:(unO Q o).after=o.after:=by unfold unO;split<;>rfl
theorem GV {Q:Nat} {o:Oper}:(unO Q o).dst=o.dst:=by unfold unO;split<;>rfl
theorem Jx {Q:Nat} {o:Oper}:(unO Q o).guard=o.guard:=by unfold unO;split<;>rfl
theorem yF {Q:Nat} {ops:Array Oper} {listed:Array Bool}:Region.ready .any (unA Q ops) listed=Region.ready .any ops listed:=by
 unfold Region.ready
 have e:(unA Q ops).size=ops.size:=by unfold unA;simp
 rw[e]
 congr 1
 funext j
 rw[AE]
 cases ops[j]? with
 |none=>rfl
 |some o=>simp only[bI,Jw]
theorem M7 {Q:Nat} {ops:Array Oper} {o:Oper} {s:S}:qM (unA Q ops) (unO Q o) s=qM ops o s:=by
 unfold qM
 rw[Jx]
 cases o.guard with
 |none=>rfl
 |some g=>
  obtain⟨j,want⟩:=g
  simp only
  have e:((unA Q ops)[j]?).bind (·.dst)=(ops[j]?).bind (·.dst):=by
   rw[AE]
   cases ops[j]? with
   |none=>rfl
   |some o=>simp only[bI,fb,GV]
  rw[e]
theorem M8 (hst:St G n I0 M w0 I β ob s a w) (hd:∀ d,o.dst=some d→d<n) {T:TypeId} (hop:o.op=.alloc T) {i:TI} (hi:ti P T=some i) (hz0:i.zero.isSome=true) (hk:∀ a' w',SE G n I0 M w0 (s.put o.dst .un) a' w'→next a' w'):o.wp P a w next Q:=by
 obtain⟨z,hz1⟩:=Option.isSome_iff_exists.1 hz0
 obtain⟨j,d,h1,h2,_,_,_,_,hz,_⟩:=bj hi
 rw[hz1] at hz
 split at hz
 ·rename_i zv hzv
  refine dP (v':=.pointer (some ⟨w.heap.size,0,none⟩)) (w':=w.alloc (.cells zv.cells T)) ?_ (hk _ _ (SE.put (hst.allocOwn _) hd (by simp only[LR];exact .un _)))
  have hrun:(Instr.alloc T true (.tuple #[])).run P w=.ok (.pointer (some ⟨w.heap.size,0,none⟩)) (w.alloc (.cells zv.cells T)):=by
   simp[Instr.alloc,zeroValue,typeInfo,h1,hzv,newVar,newRow]
  obtain⟨dst,op,type,pos,after,guard⟩:=o
  simp only at hop
  subst hop
  simp only[execOp,aG,hrun,au,be]
 ·cases hz
theorem ry {ops:Array Oper} {md:Region.Mode} {stop:Nat} {C C':S→Prop} (h:∀ s,C s→C' s):∀ (fuel:Nat) (listed:Array Bool) (s:S),m9 P G tr md ops stop C fuel listed s→m9 P G tr md ops stop C' fuel listed s
 |0,_,_,h0=>h0.elim
 |fuel+1,listed,s,h0=>by
  refine⟨h0.1,fun i hi=>?_⟩
  rcases h0.2 i hi with h1 | ⟨h1,h2⟩
  ·left
   unfold m4 at h1 ⊢
   split
   ·rename_i ho;simp only[ho] at h1;exact ry h fuel _ _ h1
   ·rename_i o ho
    simp only[ho] at h1
    obtain⟨e,he,h3⟩:=h1
    exact⟨e,he,ry h fuel _ _ h3⟩
  ·exact .inr ⟨h1,h _ h2⟩
theorem Jy {ops:Array Oper} {stop:Nat} {A:List Nat} (h:CY ops stop A=true) {listed:Array Bool} (hdc:DC ops listed) (hr:stop∈Region.ready .any ops listed):∀ (m k:Nat),ops.size - k≤m→k∈A→listed.getD k false=true:=by
 intro m
 induction m with
 |zero=>
  intro k hm hk
  unfold CY at h
  obtain⟨j,hj,h2⟩:=dE.1 (aU.1 h k hk)
  simp only[aF,bi] at h2
  have:=cz.1 hj
  omega
 |succ m ih=>
  intro k hm hk
  have h0:=h
  unfold CY at h0
  obtain⟨j,hj,h2⟩:=dE.1 (aU.1 h0 k hk)
  simp only[aF,bi,dx] at h2
  obtain⟨⟨hkj,hjs⟩,h3⟩:=h2
  have hjlt:=cz.1 hj
  cases ho:ops[j]? with
  |none=>simp[ho] at h3
  |some o=>
   simp only[ho,bI,bM] at h3
   rw[Array.any_eq_true'] at h3
   obtain⟨e,he,h4⟩:=h3
   simp only[aF,js] at h4
   rcases hjs with hjs | hjA
   ·subst hjs
    obtain⟨_,oj,hoj,hall⟩:=gw.1 hr
    rw[ho] at hoj;cases hoj
    have:=hall e he h4.1
    rw[h4.2] at this;exact this
   ·have h5:=ih j (by omega) (by simpa using hjA)
    have:=hdc j o ho h5 e he h4.1
    rw[h4.2] at this;exact this
theorem AG {ops:Array Oper} {stop:Nat} {C:S→Prop} {i:Nat} {oi:Oper} {e:Ef} (hi:ops[i]?=some oi) (hns:∀ listed,DC ops listed→listed.getD i true=false→stop∉Region.ready .any ops listed) :
 ∀ (fuel:Nat) (listed:Array Bool) (s:S),DC ops listed→FreeAt tr .any ops listed i oi→
  i∈Region.ready .any ops listed→TEf P G tr ops oi s e→
  m9 P G tr .any ops stop C fuel (listed.setIfInBounds i true) (e.run tr oi s)→m9 P G tr .any ops stop C (fuel+1) listed s:=by
 intro fuel
 induction fuel with
 |zero=>intro listed s _ _ _ _ H;exact H.elim
 |succ fuel ih=>
  intro listed s hdc hfree hr hy H
  refine⟨fun h=>(by rw[h] at hr;cases hr),fun j hj=>?_⟩
  by_cases hji:j=i
  ·subst hji;left;unfold m4;simp only[hi];exact⟨e,hy,H⟩
  ·rcases H.2 j (iT hj hji) with h1 | ⟨h1,h2⟩
   ·left
    obtain⟨_,oj,hoj,_⟩:=gw.1 hj
    obtain⟨hap,hfree'⟩:=hfree.step hr hj hji hoj
    unfold m4 at h1 ⊢
    simp only[hoj] at h1 ⊢
    obtain⟨f,hf,hK⟩:=h1
    have hf':=hy.back hap hf
    refine⟨f,hf',ih (listed.setIfInBounds j true) _ (hdc.step hj) hfree' (iT hr (fp hji)) (hy.keep hap hf') ?_⟩
    rw[fN _ _ hji,← pL hap hy hf']
    exact hK
   ·exfalso
    subst h1
    exact hns listed hdc (gw.1 hr).1 hj
theorem wt {ops:Array Oper} {stop:Nat} {C:S→Prop} {A:List Nat} (hanc:CY ops stop A=true) {K:S→Prop} (m:Nat) (listed':Array Bool) (hK0:∀ s1,K s1→m9 P G tr .any ops stop C m listed' s1):∀ (ks:List Nat) (listed:Array Bool) (s:S),DC ops listed→(∀ k∈ks,k∈A∧∃ o,ops[k]?=some o∧j6 tr o=false)→
 jv tr ops ks listed=some listed'→ea P G tr ops (jb ops ks) s K→m9 P G tr .any ops stop C (m+ks.length) listed s
 |[],listed,s,_,_,hB,h=>by simp only[jv,am] at hB;subst hB;exact hK0 _ h
 |k::r,listed,s,hdc,hA,hB,h=>by
  obtain⟨hkA,o,ho,hAN⟩:=hA k (aR ..)
  unfold jv at hB
  split at hB
  ·rename_i hcd
   simp only[aF] at hcd
   obtain⟨hr,hf⟩:=hcd
   have hr':k∈Region.ready .any ops listed:=by simpa using hr
   simp only[jb,er,ho,ea] at h
   obtain⟨e,he,hK⟩:=fi (K:=fun s'=>ea P G tr ops (jb ops r) s' K) hAN h
   refine AG ho (fun l hdc hl hs=>?_) (m+r.length) listed s hdc (jH ho hf) hr' he
    (wt hanc m listed' hK0 r _ _ (hdc.step hr') (fun k hk=>hA k (aN _ hk)) hB hK)
   have h1:=Jy hanc hdc hs _ k (ae _) hkA
   rw[ao] at h1 hl
   cases hlk:l[k]? with
   |none=>rw[hlk] at h1;cases h1
   |some b=>rw[hlk] at h1 hl;simp only[bM] at h1 hl;rw[h1] at hl;cases hl
  ·cases hB
theorem wu {ops:Array Oper} {stop:Nat} {C:S→Prop} {B:List Nat} (m:Nat) (listed':Array Bool) (hCb:∀ k o s e,k∈B→ops[k]?=some o→TEf P G tr ops o s e→∀ s',(C (e.run tr o s')↔C s'))
 (hK0:∀ s',C s'→m9 P G tr .any ops stop C m listed' s'):∀ (ks:List Nat) (listed:Array Bool) (s:S),(∀ k∈ks,k∈B∧∃ o,ops[k]?=some o∧j6 tr o=false)→
 jv tr ops ks listed=some listed'→ea P G tr ops (jb ops ks) s (fun _=>True)→C s→m9 P G tr .any ops stop C (m+ks.length) listed s
 |[],listed,s,_,hB,_,hc=>by simp only[jv,am] at hB;subst hB;exact hK0 _ hc
 |k::r,listed,s,hA,hB,h,hc=>by
  obtain⟨hka,o,ho,hAN⟩:=hA k (aR ..)
  unfold jv at hB
  split at hB
  ·rename_i hcd
   simp only[aF] at hcd
   obtain⟨hr,hf⟩:=hcd
   simp only[jb,er,ho,ea] at h
   obtain⟨e,he,hK⟩:=fi (K:=fun s'=>ea P G tr ops (jb ops r) s' fun _=>True) hAN h
   exact uH ho (fun s'=>(hCb k o s e hka ho he s').1) (m+r.length) listed s (jH ho hf) (by simpa using hr) he
    (wu m listed' hCb hK0 r _ _ (fun k hk=>hA k (aN _ hk)) hB hK ((hCb k o s e hka ho he s).2 hc))
  ·cases hB
theorem lb {ops:Array Oper} {stop Q0:Nat} {C:S→Prop} {os:Oper} (hos:ops[stop]?=some os) (hgd:os.guard=none) (hok:iW n ops=true) (hal:CX P ops=true) (hwr:∀ o∈(unA Q0 ops).toList,Q0∉wr tr o)
 (hC:∀ s I β ob a w next,C s→St G n I0 M w0 I β ob s a w→os.wp P a w next Q):∀ (fuel:Nat) (listed:Array Bool) (s:S) (a:Act) (w:World),s.fr Q0=.un→
 m9 P G tr .any (unA Q0 ops) stop C fuel listed s→SE G n I0 M w0 s a w→wpAny P .any ops Q fuel listed a w
 |0,_,_,_,_,_,h,_=>h.elim
 |fuel+1,listed,s,a,w,hQ,h,hse=>by
  refine⟨fun h0=>absurd (by rw[yF];exact h0) h.1,fun i hi=>?_⟩
  have hh:=h.2 i (by rw[yF];exact hi)
  rcases hh with hh | ⟨rfl,hh⟩
  ·unfold m4 at hh
   unfold wpOp
   rw[AE] at hh
   split
   ·rename_i ho;simp only[ho,iC] at hh;exact lb hos hgd hok hal hwr hC fuel _ s a w hQ hh hse
   ·rename_i o ho
    simp only[ho,bI] at hh
    obtain⟨e,he,hh⟩:=hh
    have hmem:o∈ops.toList:=by
     have:=eA ho
     simpa using this
    have hmem':unO Q0 o∈(unA Q0 ops).toList:=by
     unfold unA
     exact List.mem_map_of_mem hmem
    have hQ':(e.run tr (unO Q0 o) s).fr Q0=.un:=by
     rw[pK]
     simp only
     rw[eZ (hwr _ hmem')];exact hQ
    obtain⟨I,β,ob,hst⟩:=hse
    unfold TEf at he
    rw[M7] at he
    rcases he with⟨hg,hv,_⟩ | ⟨hg,rfl⟩
    ·rw[if_pos (jk hst hg)]
     left
     by_cases ha:∃ T,o.op=.alloc T
     ·obtain⟨T,hT⟩:=ha
      have h1:=aU.1 hal o hmem
      rw[hT] at h1
      simp only[aF] at h1
      have hu:unO Q0 o={ o with op:=.move (.tmp Q0) }:=by unfold unO;rw[hT]
      cases hti:ti P T with
      |none=>rw[hti] at h1;cases h1.2
      |some ii=>
       rw[hti] at h1
       have hev:e.run tr (unO Q0 o) s=s.put o.dst .un:=by
        rw[hu] at hv ⊢
        unfold VEf at hv
        simp only[VYK,ev,hQ,V.fz] at hv
        obtain⟨v,rfl,hv⟩:=hv
        have hv':v=.un:=by split at hv<;>exact hv
        subst hv'
        rw[sc]
        unfold S.after S.use
        have:∀ t,bN tr { o with op:=.move (.tmp Q0) }=some t→t=Q0:=fun t ht=>by
         unfold bN at ht
         simp only at ht
         split at ht
         ·exact(dD ht).symm
         ·cases ht
        cases hc:bN tr { o with op:=.move (.tmp Q0) } with
        |none=>rfl
        |some t=>rw[this t hc];simp[hQ,V.isOw]
       rw[hev] at hh hQ'
       exact M8 hst (ew hok hmem) hT hti h1.2 fun a' w' hse'=>lb hos hgd hok hal hwr hC fuel _ _ a' w' hQ' hh hse'
     ·have hu:unO Q0 o=o:=by
       unfold unO
       split
       ·rename_i T hT;exact absurd ⟨T,hT⟩ ha
       ·rfl
      rw[hu] at hv hh hQ'
      exact qo hst (ew hok hmem) hv fun a' w' hse'=>lb hos hgd hok hal hwr hC fuel _ _ a' w' hQ' hh hse'
    ·rw[jk hst hg]
     simp only[aS,cX]
     rw[pJ] at hh hQ'
     rw[GV] at hh hQ'
     exact lb hos hgd hok hal hwr hC fuel _ _ _ w hQ' hh (SE.put hst (ew hok hmem) (by simp only[LR];exact .sk))
  ·obtain⟨I,β,ob,hst⟩:=hse
   unfold wpOp
   simp only[hos]
   rw[if_pos (by simp[Region.wanted,hgd])]
   exact .inl (hC _ _ _ _ _ _ _ hh hst)
theorem AH {id:Nat} {ops:Array Oper} (hm:P.follows .mixedOrders=true) (hok:iW n ops=true) {KP:Value→S→Prop} (hKP:∀ v s a w,KP v s→SE G n I0 M w0 s a w→Q (.panic [{ v:=v,recovered:=false }]) a w)
 (h:M6 P G tr ops s KP) (hse:SE G n I0 M w0 s a w):(Code.region id ops true).wp P Q a w:=by
 refine wp_region_any hm ?_
 obtain⟨Q0,stop,A,B,os,hos,hpn,hQ,hv⟩:=h
 unfold M5 at hpn
 simp only[aF,bi] at hpn
 obtain⟨⟨⟨⟨⟨⟨⟨hAN,hBq⟩,hgd⟩,hal⟩,hanc⟩,hwr⟩,hlen⟩,hpre⟩:=hpn
 simp only[hos,bI,bM,Option.isNone_iff_eq_none] at hgd
 have hse':SE G n I0 M w0 s a { w with drawn:=w.drawn+1 }:=by
  obtain⟨I,β,ob,hst⟩:=hse
  exact⟨I,β,ob,hst.drew⟩
 have hAN':∀ k∈A++B,∃ o,(unA Q0 ops)[k]?=some o∧j6 tr o=false:=fun k hk=>by
  have:=aU.1 hAN k hk
  cases ho:(unA Q0 ops)[k]? with
  |none=>simp[ho] at this
  |some o=>simp[ho] at this;exact⟨o,rfl,this⟩
 split at hpre
 ·rename_i l1 hl1
  split at hpre
  ·rename_i l2 hl2
   have hrd:Region.ready .any (unA Q0 ops) l2=[stop]:=by simpa using hpre
   obtain⟨q,hq⟩:∃ q,ops.size - A.length - B.length=q+1:=⟨ops.size - A.length - B.length - 1,by omega⟩
   have key:=wt (P:=P) (G:=G) (C:=fun s'=>pw P G s' os KP) hanc (q+1+B.length) l1 (fun s1 h1=>?_) A (Array.replicate ops.size false) s (fun k o ho hk=>by exfalso;simp only[ao,Array.getElem?_replicate] at hk;split at hk<;>cases hk)
    (fun k hk=>⟨hk,hAN' k (eH _ hk)⟩) hl1 hv
   ·have e:q+1+B.length+A.length=ops.size:=by omega
    rw[e] at key
    exact lb hos hgd hok hal (fun o ho=>by simpa using aU.1 hwr o ho) (fun s' I β ob a w next hc hst=>pT hKP hst hc) _ _ _ _ _ hQ key hse'
   ·obtain⟨hvB,hpan⟩:=h1
    let C1:S→Prop:=fun s'=>(∀ t,t∉(jb (unA Q0 ops) B).flatMap (wr tr)→s'.fr t=s1.fr t)∧s'.bx=s1.bx∧s'.nb=s1.nb
    refine ry (C:=C1) (fun s' hs'=>?_) _ _ _ (wu (q+1) l2 (fun k o s2 e hk ho he s'=>?_) (fun s' hc=>?_) B l1 s1 (fun k hk=>⟨hk,hAN' k (List.mem_append_right _ hk)⟩) hl2 hvB ⟨fun _ _=>rfl,rfl,rfl⟩)
    ·obtain⟨h1,h2,h3⟩:=hs'
     obtain⟨fr,bx,nb⟩:=s'
     simp only at h1 h2 h3
     subst h2 h3
     exact hpan fr h1
    ·have hm2:da tr o≠2:=by
      have:=aU.1 hBq k hk
      simp[ho] at this;exact this
     obtain⟨q1,q2,_⟩:=kM (qp he hm2) s'.bx s'.nb 0
     have hw:∀ t,t∉(jb (unA Q0 ops) B).flatMap (wr tr)→t∉wr tr o:=fun t ht hto=>ht (List.mem_flatMap.2 ⟨o,List.mem_filterMap.2 ⟨k,hk,ho⟩,hto⟩)
     show((∀ t,t∉(jb (unA Q0 ops) B).flatMap (wr tr)→(e.run tr o s').fr t=s1.fr t)∧(e.run tr o s').bx=s1.bx∧(e.run tr o s').nb=s1.nb)↔_
     rw[pK]
     simp only[q1,q2]
     constructor
     ·rintro⟨h1,h2⟩
      exact⟨fun t ht=>by have:=h1 t ht;rw[eZ (hw t ht)] at this;exact this,h2⟩
     ·rintro⟨h1,h2⟩
      exact⟨fun t ht=>by rw[eZ (hw t ht)];exact h1 t ht,h2⟩
    ·exact⟨by rw[hrd];simp,fun i hi=>by
      rw[hrd] at hi
      simp only[a8] at hi
      exact .inr ⟨hi,hc⟩⟩
  ·cases hpre
 ·cases hpre
theorem CZ {id:Nat} {ops:Array Oper} (hm:P.follows .mixedOrders=true) (hok:iW n ops=true) {KP:Value→S→Prop} (hKP:∀ v s a w,KP v s→SE G n I0 M w0 s a w→Q (.panic [{ v:=v,recovered:=false }]) a w)
 (h:yD P G tr ops s KP) (hse:SE G n I0 M w0 s a w):(Code.region id ops true).wp P Q a w:=by
 rcases h with h | h | h
 ·exact AB hm hok hKP h hse
 ·exact AD hm hok hKP h hse
 ·exact AH hm hok hKP h hse
theorem rz {k0:Nat} (hrg:qK tr=false) (hm:P.follows .mixedOrders=true) (hext:∀ i b,M.e i=some b→i<k0) (KP:Value→S→Prop) (Q:Exit→Act→World→Prop) (hKP:∀ v s a w,KP v s→SE G n I0 M w0 s a w→Q (.panic [{ v:=v,recovered:=false }]) a w) :
 ∀ (c:Code) (_hc:nz n tr c=true) (q:VE→S→Prop) (R:Exit→Act→World→Prop) (_hQ:∀ e s a w,q e s→SE G n I0 M w0 s a w→R e.ex a w) (_hR:∀ ch a w,Q (.panic ch) a w→R (.panic ch) a w) (s:S) (a:Act) (w:World),
 o7 P G tr k0 KP c q s→SE G n I0 M w0 s a w→c.wp P R a w:=by
 intro c
 induction c with
 |region id ops draw=>
  intro hc q R hQ hR s a w h hse
  simp only[o7] at h
  simp only[nz] at hc
  by_cases hp:Jt tr id=true
  ·rw[if_pos hp] at h hc
   simp only[aF,dx,dI] at hc
   obtain⟨⟨hd,hny⟩,hdr⟩:=hc
   obtain⟨s,h,hse⟩:=yv hd h hse
   cases draw with
   |true=>
    simp only[cA] at h
    rcases h with h | h
    ·have hdr':=hdr.resolve_left (by simp)
     unfold vtw at h
     by_cases htw:HZ tr id=true
     ·rw[if_pos htw] at h hdr'
      exact tO hm hd hdr' (fun a w s hk hse=>hQ .normal s a w hk hse) h hse
     ·rw[if_neg htw] at h hdr'
      exact si hm hd hdr' (fun a w s hk hse=>hQ .normal s a w hk hse) h hse
    ·exact CZ hm hd (fun v s a w hk hse=>hR _ _ _ (hKP v s a w hk hse)) h hse
   |false=>
   simp only[aS,cX] at h
   refine wp_region ?_
   have:=rx (Q:=R) hd hny (fun a w s hk hse=>hQ .normal s a w hk hse) (fun v s a w hk hse=>hR _ _ _ (hKP v s a w hk hse)) ops.toList 0 rfl s a w h hse
   rw[dJ]
   simpa using this
  ·rw[if_neg hp] at h hc
   exact rm hm hext hrg _ hc q R hQ s a w h hse
 |seq x y ihx ihy=>
  intro hc q R hQ hR s a w h hse
  simp only[nz,aF] at hc
  simp only[o7] at h
  refine wp_seq (ihx hc.1 _ _ (fun e s a w hk hse=>?_) (fun ch a w h=>?_) s a w h hse)
  rotate_left
  ·exact hR ch a w h
  cases e with
  |normal=>exact ihy hc.2 q R hQ hR s a w hk hse
  |exit i=>exact hQ (.exit i) s a w hk hse
  |ret=>exact hQ .ret s a w hk hse
 |cond c x y ihx ihy=>
  intro hc q R hQ hR s a w h hse
  simp only[nz,aF] at hc
  simp only[o7] at h
  split at h
  ·rename_i p hp
   obtain⟨I,β,ob,hst⟩:=hse
   have hcv:a.eval c=.bool p:=by have:=bz hst c;rw[hp] at this;exact this.lit
   have href:refine s c p=s:=by
    cases c with
    |tmp t=>simp only[refine];simp only[ev] at hp;exact S.up_id hp
    |_=>rfl
   refine wp_cond_split hcv (fun ht=>?_) (fun hf=>?_)
   ·have:=h.1 ht
    rw[ht] at href
    rw[href] at this
    exact ihx hc.1 q R hQ hR s a w this ⟨I,β,ob,hst⟩
   ·have:=h.2 hf
    rw[hf] at href
    rw[href] at this
    exact ihy hc.2 q R hQ hR s a w this ⟨I,β,ob,hst⟩
  ·exact h.elim
 |block id body ih=>
  intro hc q R hQ hR s a w h hse
  simp only[nz] at hc
  simp only[o7] at h
  refine wp_block (ih hc _ _ (fun e s a w hk hse=>?_) (fun ch a w h=>?_) s a w h hse)
  rotate_left
  ·exact hR ch a w h
  cases e with
  |normal=>exact hQ .normal s a w hk hse
  |exit i=>
   simp only[VE.ex,Exit.inBlock] at hk ⊢
   split
   ·rename_i e;rw[if_pos e] at hk;exact hQ .normal s a w hk hse
   ·rename_i e;rw[if_neg e] at hk;exact hQ (.exit i) s a w hk hse
  |ret=>exact hQ .ret s a w hk hse
 |loop body ih=>
  intro hc q R hQ hR s a w h hse
  simp only[nz] at hc
  simp only[o7] at h
  obtain⟨k,h⟩:=h
  refine wp_loop_rounds k ?_
  induction k generalizing s a w with
  |zero=>exact h.elim
  |succ k ihk=>
   simp only[ql] at h
   obtain⟨s',hle,h⟩:=h
   rw[rounds_succ]
   refine ih hc _ _ (fun e s a w hk hse=>?_) (fun ch a w h=>?_) s' a w h (by rcases hle with rfl | hle;exact hse;exact hse.weaken hext hle)
   rotate_left
   ·exact hR ch a w h
   cases e with
   |normal=>exact ihk s a w hse hk
   |exit i=>exact hQ (.exit i) s a w hk hse
   |ret=>exact hQ .ret s a w hk hse
 |scope body ih=>
  intro hc q R hQ hR s a w h hse
  simp only[nz] at hc
  simp only[o7] at h
  refine wp_scope_straight (ih hc _ _ (fun e s a w hk hse=>?_) (fun ch a w h=>?_) s a w h hse)
  rotate_left
  ·exact hR ch a w h
  cases e with
  |normal=>exact hQ .normal s a w hk hse
  |exit i=>exact hQ (.exit i) s a w hk hse
  |ret=>exact hQ .ret s a w hk hse
 |rangeFunc f ps assign body=>intro _ q R hQ _ s a w h hse;simp only[o7,fw] at h;have:=h.1;rw[hrg] at this;cases this
 |_=>intro _ q R hQ _ s a w h hse;exact rm hm hext hrg _ (n:=n) (tr:=tr) (by simp[cok]) q R hQ s a w h hse
def RF (k:Nat) (pv:Value) (b1:List (List V)) (v:Value) (s:S):Prop:=v=pv∧∃ l,S.Le k (hdS l b1) s
theorem RG {f:FuncId} {fn:Func} {c:Code} {args:List V} {b0 b1:List (List V)} {pv:Value} (tr:List Nat) (hm:P.follows .mixedOrders=true) (hf:P.funcs[f]?=some fn) (hb:fn.body=some c)
 (hname:(fn.name== "runtime.NumGoroutine")=false) (hn:args.length≤fn.ntmps) (hck:nz fn.ntmps tr c=true)
 (hwf:(∀ x∈args,x.lt b0.length)∧(∀ b∈b0,∀ x∈b,x.lt b0.length)∧b0.length≤b1.length)
 (h:o7 P G tr b0.length (RF b0.length pv b1) c (fun _ _=>False) ⟨fun j=>args.getD j .un,bxs b0,b0.length⟩) (hrg:qK tr=false:=by rfl):FnX P G f args b0 pv b1:=by
 refine⟨⟨fn,hf,hname,c,hb⟩,hwf,fun I M w vs β ob hI hg hB hsz ha=>?_⟩
 have hsize:fn.ntmps=(vs++Array.replicate (fn.ntmps - vs.size) undef).size:=by simp;omega
 have hst:=St.initB (n:=fn.ntmps) hI hg hB hsz ha hsize
 have hβlt:∀ i b,β i=some b→i<b0.length:=fun i b hi=>by
  by_cases h:i<b0.length
  ·exact h
  ·rw[hB.bnone i (by omega)] at hi;cases hi
 refine calls_of_wp hf hb (rz hrg hm (fun i b hi=>hβlt i b hi) _ _ (fun v s a w' hq hse=>?_) c hck _ _ (fun e s a w' hq hse=>hq.elim) (fun _ _ _ h=>h) _ _ _ h ⟨_,_,_,hst⟩)
 obtain⟨rfl,l,hle⟩:=hq
 obtain⟨I',β',ob',hst'⟩:=hse.weaken (fun i b hi=>hβlt i b hi) hle
 refine⟨hst'.defers,I',β',fun i j=>if i<b1.length then ob' (.b i j) else none,rfl,⟨hst'.below.os,hst'.below.tape,hst'.below.output,hst'.below.size,hst'.below.block,hst'.below.drawn⟩,hst'.ilow,fun b o hbo=>?_,hst'.kept,fun i hi=>?_,fun i b hi hb=>?_,?_⟩
 ·rcases hst'.ihigh b o hbo with h4 | h4
  ·exact .inl h4
  ·exact .inr ⟨h4,hst'.ibnd b o hbo⟩
 ·obtain⟨blk,_,e1,_⟩:=hB.bx i _ (ak hi)
  rw[e1];exact hst'.ext i blk e1
 ·rcases hst'.bnew i b hb with h4 | h4
  ·have:=hβlt i b h4;omega
  ·exact h4
 ·exact {
   bx:=fun i cs hcs=>by
    have hi:i<b1.length:=(aj.1 hcs).1
    obtain⟨blk,cur,e1,e2,e3,e4,e5,e7⟩:=hst'.bx i hi
    have e:bxs b1 i=cs:=by simp[bxs,List.getD,hcs]
    refine⟨blk,cur,e1,e2,by simp only[hdS,e] at e3;exact e3,by simp only[hdS,e] at e4;exact e4,fun j=>?_,e7⟩
    have:=e5 j
    simp only[hdS,e] at this
    rw[if_pos hi];exact this
   bnone:=fun i hi=>hst'.bnone i hi
   binj:=hst'.binj
   oinj:=fun i j i' j' b h h'=>by
    split at h<;>try cases h
    split at h'<;>try cases h'
    have:=hst'.oinj _ _ b h h'
    simp only[Loc.b.injEq] at this;exact this
   obx:=fun i j b k h=>by
    split at h<;>try cases h
    exact hst'.obx _ b k h
   obnd:=fun i j b h=>by
    split at h<;>try cases h
    exact hst'.obnd _ b h
   olen:=fun i j hi=>by rw[if_neg (by omega)] }
def Wts (P:Program) (caps:Array Value):List (Nat×TypeId×Value)→World→World→Prop
 |[],w,w'=>w'=w
 |(i,T,z)::l,w,w'=>∃ w1,(Instr.storeAt T (caps.getD i undef) z).run P w=.ok () w1∧Wts P caps l w1 w'
def Za (P:Program) (g:FuncId) (k:Nat) (v:Value) (l:List (Nat×TypeId×Value)):Prop:=∀ (caps:Array Value) (w w':World),caps.size=k→Wts P caps l w w'→
 CallsD P g caps (.panicking [{ v:=v,recovered:=false }]) w fun e u' w''=>(∃ x,e=.returned x)∧u'=.panicking [{ v:=v,recovered:=true }]∧w''=w'
def V9 (P:Program) (G:Gl) (tr:List Nat) (d:Tmp) (cs:List V) (K:S→Prop):List (Tmp×Nat×TypeId×Value×V)→S→Prop
 |[],s=>K s
 |(p,i,T,z,x)::l,s=>(p≠d∧(∃ j off,s.fr p=.bp j off∧cs[i]?=some (.bp j off))∧∀ I w,DR I w z x)∧
   VStep P G tr ⟨none,.store T (.tmp p) (.tmp d),T, "",#[],none⟩ (s.put (some d) x) (fun s'=>V9 P G tr d cs K l (s'.put (some d) .un))
theorem M9 {d:Tmp} {z:Value} (h:d<a.tmps.size):(a.put (some d) z).put (some d) (a.tmps.getD d undef)=a:=by
 have:(a.tmps.set! d z).set! d (a.tmps.getD d undef)=a.tmps:=by
  apply iz
  ·simp[bB]
  ·intro i h1 h2
   simp only[bB,Array.setIfInBounds_setIfInBounds,eD h2]
   split
   ·rename_i e;subst e;simp[Array.getD,h2]
   ·rfl
 show(⟨(a.tmps.set! d z).set! d (a.tmps.getD d undef),a.defers⟩:Act)=a
 rw[this]
theorem Na {p d:Tmp} {T:TypeId} {z:Value} {x:V} {K:S→Prop} (hst:St G n I0 M w0 I β ob s a w) (hd:d<n) (hp:p≠d) (hz:∀ I w,DR I w z x)
 (h:VStep P G tr ⟨none,.store T (.tmp p) (.tmp d),T, "",#[],none⟩ (s.put (some d) x) K):∃ w1 s1,(Instr.storeAt T (a.tmps.getD p undef) z).run P w=.ok () w1∧K s1∧SE G n I0 M w0 (s1.put (some d) .un) a w1:=by
 have hse:SE G n I0 M w0 (s.put (some d) x) (a.put (some d) z) w:=SE.put hst (dst:=some d) (fun d' h'=>by cases h';exact hd) (.ofDR (hz I w))
 obtain⟨I1,β1,ob1,hst1⟩:=hse
 have hsz:d<a.tmps.size:=by rw[hst.size];exact hd
 have e1:(a.put (some d) z).eval (.tmp p)=a.tmps.getD p undef:=by
  show(a.tmps.set! d z).getD p undef=_
  simp[ao,bB,gI,fp hp]
 have e2:(a.put (some d) z).eval (.tmp d)=z:=sy hsz
 have hw:=l7 (tr:=tr) (next:=fun a' w'=>a'=a.put (some d) z→∃ s1,K s1∧SE G n I0 M w0 s1 (a.put (some d) z) w') (Q:=fun _ _ _=>False) hst1 (fun d' h'=>by cases h') rfl h (fun a' w' s' hk hse e=>⟨s',hk,e▸hse⟩)
 unfold Oper.wp at hw
 have hx:(execOp (a.put (some d) z).eval ⟨none,.store T (.tmp p) (.tmp d),T, "",#[],none⟩)=(do Instr.storeAt T (a.tmps.getD p undef) z;pure .skip):=by
  unfold execOp
  simp only[e1,e2]
 rw[hx] at hw
 simp only[aG] at hw
 cases hr:(Instr.storeAt T (a.tmps.getD p undef) z).run P w with
 |halt h' w'=>
  rw[hr] at hw
  simp only[Result.andThen] at hw
  cases h'<;>simp only[Oper.upon] at hw
 |ok u w1=>
  rw[hr] at hw
  have hw:(a.put (some d) z).put none undef=a.put (some d) z→∃ s1,K s1∧SE G n I0 M w0 s1 (a.put (some d) z) w1:=hw
  obtain⟨s1,hk,hse⟩:=hw rfl
  refine⟨w1,s1,rfl,hk,?_⟩
  obtain⟨I2,β2,ob2,hst2⟩:=hse
  have:=SE.put (v:=a.tmps.getD d undef) hst2 (dst:=some d) (fun d' h'=>by cases h';exact hd) (x:=.un) (by simp only[LR];exact .un _)
  rw[M9 hsz] at this
  exact this
theorem yG {d:Tmp} (hd:d<n) {cs:List V} {vc:Array Value} {K:S→Prop}:∀ (l:List (Tmp×Nat×TypeId×Value×V)) (s:S) (w:World),V9 P G tr d cs K l s→SE G n I0 M w0 s a w→
 (∀ I β ob w s p i j off,St G n I0 M w0 I β ob s a w→s.fr p=.bp j off→cs[i]?=some (.bp j off)→a.tmps.getD p undef=vc.getD i undef)→
 ∃ w' s',Wts P vc (l.map fun q=>(q.2.1,q.2.2.1,q.2.2.2.1)) w w'∧K s'∧SE G n I0 M w0 s' a w'
 |[],s,w,h,hse,_=>⟨w,s,rfl,h,hse⟩
 |(p,i,T,z,x)::l,s,w,h,hse,hv=>by
  obtain⟨⟨hp,⟨j,off,hf,hc⟩,hz⟩,h⟩:=h
  obtain⟨I,β,ob,hst⟩:=hse
  obtain⟨w1,s1,hrun,hk,hse1⟩:=Na (z:=z) hst hd hp hz h
  obtain⟨w',s',h1,h2,h3⟩:=yG hd l _ _ hk hse1 hv
  refine⟨w',s',⟨w1,?_,h1⟩,h2,h3⟩
  rw[← hv I β ob w s p i j off hst hf hc];exact hrun
section
variable {fr:Nat→V} {bx:Nat→List V} {nb:Nat} {K:S→Prop} {KP:Value→S→Prop} {Q:VE→S→Prop}
def pwp (P:Program) (G:Gl) (tr:List Nat) (KP:Value→S→Prop):Code→(VE→S→Prop)→S→Prop:=o7 P G tr (mo tr) KP
def GW (P:Program) (G:Gl) (tr:List Nat) (KP:Value→S→Prop) (b:Code) (Q:VE→S→Prop) (e:VE) (s:S):Prop:=match e with | .normal=>pwp P G tr KP b Q s | e=>Q e s
def C0 (P:Program) (G:Gl) (tr:List Nat) (KP:Value→S→Prop) (v:V) (c:Operand) (x y:Code) (Q:VE→S→Prop) (s:S):Prop:=match v with
 | .c (.lit (.bool p))=>(p=true→pwp P G tr KP x Q (refine s c true))∧(p=false→pwp P G tr KP y Q (refine s c false))
 |_=>False
def Jz (P:Program) (G:Gl) (tr:List Nat) (ops:Array Oper) (r:List Oper) (K:S→Prop) (KP:Value→S→Prop) (s:S):Prop:=xR P G tr ops r s K KP
def aV:Op→Bool
 | .makeInterface _ _=>true
 | .call { callee:=.value _,.. }=>true
 |_=>false
def Nb (P:Program) (G:Gl) (tr:List Nat) (ops:Array Oper) (o:Oper) (r:List Oper) (K:S→Prop) (KP:Value→S→Prop) (s:S):Bool→Prop
 |false=>ea P G tr ops [o] s (Jz P G tr ops r K KP)
 |true=>ea P G tr ops [o] s (Jz P G tr ops r K KP)∨(o.guard=none∧sw P G s o r KP)
def RH (P:Program) (G:Gl) (tr:List Nat) (id:Nat) (ops:Array Oper) (K:S→Prop) (KP:Value→S→Prop) (d:Bool) (s:S):Prop:=if d then vtw P G tr id ops s K∨yD P G tr ops s KP else xR P G tr ops ops.toList s K KP
theorem RI {id:Nat} {ops:Array Oper} {d:Bool}:RH P G tr id ops K KP d ⟨fr,bx,nb⟩=if d then(if tr.contains (2800000+id) then BF P G tr ops ⟨fr,bx,nb⟩ K else ea P G tr ops ops.toList ⟨fr,bx,nb⟩ K)∨yD P G tr ops ⟨fr,bx,nb⟩ KP else xR P G tr ops ops.toList ⟨fr,bx,nb⟩ K KP:=rfl
theorem C2 {i:Nat} {ops:Array Oper} {d:Bool}:pwp P G tr KP (.region i ops d) Q ⟨fr,bx,nb⟩=if Jt tr i then(if Et tr i then spl tr i ops ⟨fr,bx,nb⟩ (RH P G tr i ops (Q .normal) KP d) else RH P G tr i ops (Q .normal) KP d ⟨fr,bx,nb⟩) else fw P G tr (mo tr) (.region i ops d) Q ⟨fr,bx,nb⟩:=by
 show(if Jt tr i then spl tr i ops ⟨fr,bx,nb⟩ (RH P G tr i ops (Q .normal) KP d) else fw P G tr (mo tr) (.region i ops d) Q ⟨fr,bx,nb⟩)=_
 congr 1
 unfold spl
 split<;>rfl
theorem RJ {i:Nat}:Jt tr i=tr.contains (2900000+i):=rfl
theorem Nc {a b:Code}:pwp P G tr KP (.seq a b) Q ⟨fr,bx,nb⟩=pwp P G tr KP a (GW P G tr KP b Q) ⟨fr,bx,nb⟩:=rfl
theorem JA:pwp P G tr KP .skip Q ⟨fr,bx,nb⟩=Q .normal ⟨fr,bx,nb⟩:=rfl
theorem Nf:pwp P G tr KP .ret Q ⟨fr,bx,nb⟩=Q .ret ⟨fr,bx,nb⟩:=rfl
theorem JB {i:Nat}:pwp P G tr KP (.exit i) Q ⟨fr,bx,nb⟩=Q (.exit i) ⟨fr,bx,nb⟩:=rfl
theorem Fq {i:Nat}:pwp P G tr KP (.label i) Q ⟨fr,bx,nb⟩=Q .normal ⟨fr,bx,nb⟩:=rfl
theorem Fu {a:Code}:pwp P G tr KP (.scope a) Q ⟨fr,bx,nb⟩=pwp P G tr KP a Q ⟨fr,bx,nb⟩:=rfl
theorem Fv {i:Nat} {a:Code}:pwp P G tr KP (.block i a) Q ⟨fr,bx,nb⟩=pwp P G tr KP a (Lr i Q) ⟨fr,bx,nb⟩:=rfl
theorem JC {c:Operand} {x y:Code}:pwp P G tr KP (.cond c x y) Q ⟨fr,bx,nb⟩=C0 P G tr KP (ev G ⟨fr,bx,nb⟩ c) c x y Q ⟨fr,bx,nb⟩:=rfl
theorem wv {c:Operand} {x y:Code}:C0 P G tr KP (.c (.lit (.bool true))) c x y Q ⟨fr,bx,nb⟩=pwp P G tr KP x Q (refine ⟨fr,bx,nb⟩ c true):=by simp[C0]
theorem u9 {c:Operand} {x y:Code}:C0 P G tr KP (.c (.lit (.bool false))) c x y Q ⟨fr,bx,nb⟩=pwp P G tr KP y Q (refine ⟨fr,bx,nb⟩ c false):=by simp[C0]
theorem AI {b:Code} {s:S}:GW P G tr KP b Q .normal s=pwp P G tr KP b Q s:=rfl
theorem JD {b:Code} {s:S}:GW P G tr KP b Q .ret s=Q .ret s:=rfl
theorem Fw {b:Code} {s:S} {i:Nat}:GW P G tr KP b Q (.exit i) s=Q (.exit i) s:=rfl
theorem Ng {ops:Array Oper}:xR P G tr ops [] ⟨fr,bx,nb⟩ K KP=K ⟨fr,bx,nb⟩:=rfl
theorem RL {ops:Array Oper} {d:Option Tmp} {op:Op} {ty:TypeId} {pos:String} {af:Array Edge} {g:Option (Nat×Bool)} {r:List Oper} :
 xR P G tr ops (⟨d,op,ty,pos,af,g⟩::r) ⟨fr,bx,nb⟩ K KP=Nb P G tr ops ⟨d,op,ty,pos,af,g⟩ r K KP ⟨fr,bx,nb⟩ (aV op):=by
 have gen:aV op=false→xR P G tr ops (⟨d,op,ty,pos,af,g⟩::r) ⟨fr,bx,nb⟩ K KP=ea P G tr ops [⟨d,op,ty,pos,af,g⟩] ⟨fr,bx,nb⟩ (Jz P G tr ops r K KP):=fun h=>by
  refine propext ⟨fun hh=>?_,fun hh=>.inl hh⟩
  rcases hh with hh | ⟨_,hh⟩
  ·exact hh
  ·exfalso
   unfold sw at hh
   unfold aV at h
   split at hh<;>first | exact hh | (rename_i e;simp only at e;rw[e] at h;cases h)
 cases h:aV op with
 |false=>exact gen h
 |true=>rfl
theorem Nh {ops:Array Oper} {o:Oper} {r:List Oper}:Nb P G tr ops o r K KP ⟨fr,bx,nb⟩ false=ea P G tr ops [o] ⟨fr,bx,nb⟩ (Jz P G tr ops r K KP):=rfl
theorem JE {ops:Array Oper} {o:Oper} {r:List Oper}:Nb P G tr ops o r K KP ⟨fr,bx,nb⟩ true=(ea P G tr ops [o] ⟨fr,bx,nb⟩ (Jz P G tr ops r K KP)∨(o.guard=none∧sw P G ⟨fr,bx,nb⟩ o r KP)):=rfl
theorem RN {ops:Array Oper} {r:List Oper}:Jz P G tr ops r K KP ⟨fr,bx,nb⟩=xR P G tr ops r ⟨fr,bx,nb⟩ K KP:=rfl
def pkX:=jj @C2 (jj @RJ (jj @RI (jj @Nc (jj @JA (jj @Nf (jj @JB (jj @Fq (jj @Fu (jj @Fv (jj @JC (jj @wv (jj @u9 (jj @AI (jj @JD (jj @Fw (jj @Ng (jj @RL (jj @Nh (jj @JE @RN)))))))))))))))))))
theorem RO {T ty ty':TypeId} {d:Nat} {x:Operand} {u:Value} {pos pos':String} {af af':Array Edge} {d':Option Tmp} {A:Prop} {s:S} (hT:GU P T) (hx:ev G s x=.c (.lit u)) (h:KP (.iface T u) (s.put (some d) .un)) :
 A∨sw P G s ⟨some d,.makeInterface T x,ty,pos,af,none⟩ [⟨d',.panic (.tmp d),ty',pos',af',none⟩] KP:=by
 refine .inr ?_
 unfold sw
 simp only[hx]
 refine⟨⟨hT,?_,?_⟩,h⟩<;>trivial
theorem Ni {f:FuncId} {fn:Func} {c:Code} {args:List V} {b0 b1:List (List V)} {pv:Value} (tr:List Nat) (hm:P.follows .mixedOrders=true) (hf:P.funcs[f]?=some fn) (hb:fn.body=some c) (hname:(fn.name== "runtime.NumGoroutine")=false)
 {n:Nat} (hn:fn.ntmps=n) (hck:nz n tr c=true) (hlen:args.length≤n) {k:Nat} (hk:mo tr=k) (hk0:b0.length=k)
 (hargs:dU args b0=true) (hle:b0.length≤b1.length)
 (h:pwp P G tr (RF k pv b1) c (fun _ _=>False) ⟨frm 0 args,bxs b0,k⟩) (hrg:qK tr=false:=by rfl):FnX P G f args b0 pv b1:=by
 subst hn
 subst hk0
 simp only[dU,aF,aU] at hargs
 refine RG tr hm hf hb hname hlen hck ⟨fun x hx=>V.ltB_ok (hargs.1 x hx),fun b hb x hx=>V.ltB_ok (hargs.2 b hb x hx),hle⟩ ?_ hrg
 unfold pwp at h
 rw[hk] at h
 rw[tU] at h;exact h
theorem cG {k:Nat} {pv:Value} {b1:List (List V)} (hk:k≤b1.length) (hok:fC [] b1=true) (hn:b1.length≤nb) (h2:BL 0 b1 bx):RF k pv b1 pv ⟨fr,bx,nb⟩:=
 ⟨rfl,[],cR hok hk hn trivial h2⟩
end
end
section
variable {P:Program} {G:Gl} {tr:List Nat} {n:Nat} {I0:Ft} {M:Mx} {w0:World} {I:Ft} {β:Nat→Option Nat} {ob:Loc→Option Nat} {s:S} {a:Act} {w:World}
def GX (P:Program) (G:Gl) (tr:List Nat) (g:FuncId) (k:Nat) (cs:List V) (kb:Nat) (r:V) (b1:List (List V)) (rs:List ResultVar) (m:Nat) (v:Value) (s:S):Prop:=
 ∃ (d:Tmp) (l:List (Tmp×Nat×TypeId×Value×V)),d<m∧Za P g k v (l.map fun q=>(q.2.1,q.2.2.1,q.2.2.2.1))∧V9 P G tr d cs (fun s=>∃ l,S.Le kb (hdS l b1) s∧nS P false (hdS l b1) r rs) l s
def Fx (P:Program) (G:Gl) (tr:List Nat) (t:Nat) (g:FuncId) (k:Nat) (rest:Code) (r:V) (b1:List (List V)) (rs:List ResultVar) (m:Nat) (s:S):Prop:=
 ∃ cs,(s.fr t=.clo (.func g) [] cs∧cs.length=k)∧s.nb=mo tr∧o7 P G tr (mo tr) (GX P G tr g k cs (mo tr) r b1 rs m) rest (rq P (mo tr) r b1 rs) s
def Fy (P:Program) (G:Gl) (tr:List Nat) (o1:Oper) (t:Nat) (g:FuncId) (k:Nat) (rest:Code) (r:V) (b1:List (List V)) (rs:List ResultVar) (m:Nat) (e:VE) (s:S):Prop:=match e with
 | .normal=>VStep P G tr o1 s (Fx P G tr t g k rest r b1 rs m)
 |_=>False
theorem fS {o1:Oper} {t:Nat} {g:FuncId} {k m:Nat} {rest:Code} {r:V} {b1:List (List V)} {rs:List ResultVar} {s:S}:Fy P G tr o1 t g k rest r b1 rs m .normal s=VStep P G tr o1 s (Fx P G tr t g k rest r b1 rs m):=rfl
theorem RP {f g:FuncId} {t:Nat} {fn:Func} {id:Nat} {r0 rest:Code} {o1 o2:Oper} {args:List V} {b0 b1:List (List V)} {r:V} (k:Nat) (tr:List Nat) (hm:P.follows .mixedOrders=true) (hf:P.funcs[f]?=some fn)
 (hb:fn.body=some (.seq r0 (.seq (.region id #[o1,o2] false) rest))) (hname:(fn.name== "runtime.NumGoroutine")=false)
 (hn:args.length≤fn.ntmps) (hck:cok fn.ntmps tr r0=true) (hck2:nz fn.ntmps tr rest=true) (h1:o1.guard=none∧o1.dst=some t∧t<fn.ntmps)
 (h2:o2.guard=none∧o2.dst=none∧o2.op=.defer { callee:=.value (.tmp t),args:=#[],argTypes:=#[] }) (hidle:MY P g k)
 (hcomp:r.compT=true) (hwf:(∀ x∈args,x.lt b0.length)∧(∀ b∈b0,∀ x∈b,x.lt b0.length)∧b0.length≤b1.length)
 (h:fw P G tr b0.length r0 (Fy P G tr o1 t g k rest r b1 fn.results.toList fn.ntmps) ⟨fun j=>args.getD j .un,bxs b0,b0.length⟩) (hrg:qK tr=false:=by rfl) (hy1:ny tr o1=false:=by rfl):FnB P G f args b0 r b1:=by
 refine⟨⟨fn,hf,hname,_,hb⟩,hwf,fun I M w vs β ob hI hg hB hsz ha=>?_⟩
 have hsize:fn.ntmps=(vs++Array.replicate (fn.ntmps - vs.size) undef).size:=by simp;omega
 have hst:=St.initB (n:=fn.ntmps) hI hg hB hsz ha hsize
 have hβlt:∀ i b,β i=some b→i<b0.length:=fun i b hi=>by
  by_cases h:i<b0.length
  ·exact h
  ·rw[hB.bnone i (by omega)] at hi;cases hi
 refine calls_of_wp_defers hf hb (wp_seq ?_)
 refine rm hm (fun i b hi=>hβlt i b hi) hrg r0 hck _ _ (fun e s a w1 hq hse=>?_) _ _ _ h ⟨_,_,_,hst⟩
 cases e with
 |exit i=>exact hq.elim
 |ret=>exact hq.elim
 |normal=>
 refine wp_seq (wp_region ?_)
 obtain⟨I1,β1,ob1,hst1⟩:=hse
 show wpOps P #[o1,o2] _ [0,1] a w1
 have hg1:Region.wanted o1 (yielded #[o1,o2] a.tmps)=true:=by simp[Region.wanted,h1.1]
 have hg2:∀ a:Act,Region.wanted o2 (yielded #[o1,o2] a.tmps)=true:=fun a=>by simp[Region.wanted,h2.1]
 unfold wpOps
 simp only[cv,bD]
 rw[if_pos hg1]
 refine .inl (l7 (tr:=tr) hst1 (fun d hd=>by rw[h1.2.1] at hd;cases hd;exact h1.2.2) hy1 hq fun a2 w2 s2 hs2 hse2=>?_)
 obtain⟨cs,⟨hclo,hcl⟩,hnb,hrest⟩:=hs2
 obtain⟨I2,β2,ob2,hst2⟩:=hse2
 unfold wpOps
 simp only[cv,cn,bD]
 rw[if_pos (hg2 a2)]
 left
 have hv:=hst2.fr t
 rw[hclo] at hv
 simp only[LR] at hv
 obtain⟨vf,vc,hval,hvf,hvc,_,hcap⟩:=hv
 have hvf0:vf=#[]:=Array.eq_empty_of_size_eq_zero (by simpa using hvf)
 have hrun:(execOp a2.eval o2).run P w2=.ok (.defer { target:=.fn (.func g) vc,args:=#[] }) w2:=by
  have he:a2.eval (.tmp t)=.func (.func g) vf vc:=hval
  unfold execOp
  simp only[h2.2.2,resolve,Deferred.ofValue,he,aG,be,au,hvf0]
  simp
 unfold Oper.wp
 rw[hrun]
 simp only[Oper.upon,h2.2.1,Act.put,wpOps]
 have hst3:=hst2.deferred { target:=.fn (.func g) vc,args:=#[] }
 have hβ2:∀ i b,β2 i=some b→i<mo tr:=fun i b hi=>by
  by_cases hlt:i<mo tr
  ·exact hlt
  ·rw[hst2.bnone i (by omega)] at hi;cases hi
 have hβ20:∀ i,i<b0.length→β2 i=β i:=fun i hi=>by
  obtain⟨blk,_,e1,_⟩:=hB.bx i _ (ak hi)
  rw[e1];exact hst2.ext i blk e1
 have hβ21:∀ i b,b0.length≤i→β2 i=some b→Wr M w b:=fun i b hi hb=>by
  rcases hst2.bnew i b hb with h4 | h4
  ·have:=hβlt i b h4;omega
  ·exact h4
 have fin:∀ (d:Deferred) (s:S) (l:List (Nat×V)) (a a':Act) (w':World),a'.tmps=a.tmps→SE G fn.ntmps I ⟨M.m,β2,[d]⟩ w s a w'→S.Le (mo tr) (hdS l b1) s→nS P false (hdS l b1) r fn.results.toList→
  ∃ v,(results fn a'.tmps).run P w'=.ok v w'∧∃ v' I' β' ob' o',(Ending.returned v=.returned v')∧BelowM (GT G) M w w'∧(∀ b o,I b o→I' b o)∧(∀ b o,I' b o→I b o∨(Wr M w b∧b<w'.heap.size))∧
  (∀ b o,I b o→w'.cell? ⟨b,o,none⟩=w.cell? ⟨b,o,none⟩)∧(∀ i,i<b0.length→β' i=β i)∧(∀ i b,b0.length≤i→β' i=some b→Wr M w b)∧BxR (Wr M w) I' w' β' ob' b1∧
  LR (Wr M w) I' β' w' o' v' r∧(∀ b,o'=some b→(b<w'.heap.size∧Wr M w b)∧(∀ i j,ob' i j≠some b)∧∀ i,β' i≠some b):=by
  intro d s l a a' w' hta hse hle hret
  obtain⟨I',β',ob',hst'⟩:=hse.weaken (fun i b hi=>hβ2 i b hi) hle
  obtain⟨v,o',q1,q2,q3⟩:=m7 (P:=P) (fn:=fn) hst' hcomp (Ic:=I') (fun _=>rfl) (fun _ _ h=>h) (fun hz=>by cases hz) hret
  refine⟨v,by rw[hta];exact q1,v,I',β',fun i j=>if i<b1.length then ob' (.b i j) else none,o',rfl,⟨hst'.below.os,hst'.below.tape,hst'.below.output,hst'.below.size,hst'.below.block,hst'.below.drawn⟩,hst'.ilow,fun b o hbo=>?_,hst'.kept,fun i hi=>?_,fun i b hi hb=>?_,?_,q2,fun b hb=>?_⟩
  ·rcases hst'.ihigh b o hbo with h4 | h4
   ·exact .inl h4
   ·exact .inr ⟨h4,hst'.ibnd b o hbo⟩
  ·rw[← hβ20 i hi]
   obtain⟨blk,_,e1,_⟩:=hB.bx i _ (ak hi)
   have e2:β2 i=some blk:=by rw[hβ20 i hi];exact e1
   rw[e2];exact hst'.ext i blk e2
  ·rcases hst'.bnew i b hb with h4 | h4
   ·exact hβ21 i b hi h4
   ·exact h4
  ·exact {
    bx:=fun i cs hcs=>by
     have hi:i<b1.length:=(aj.1 hcs).1
     obtain⟨blk,cur,e1,e2,e3,e4,e5,e7⟩:=hst'.bx i hi
     have e:bxs b1 i=cs:=by simp[bxs,List.getD,hcs]
     refine⟨blk,cur,e1,e2,by simp only[hdS,e] at e3;exact e3,by simp only[hdS,e] at e4;exact e4,fun j=>?_,e7⟩
     have:=e5 j
     simp only[hdS,e] at this
     rw[if_pos hi];exact this
    bnone:=fun i hi=>hst'.bnone i hi
    binj:=hst'.binj
    oinj:=fun i j i' j' b h h'=>by
     split at h<;>try cases h
     split at h'<;>try cases h'
     have:=hst'.oinj _ _ b h h'
     simp only[Loc.b.injEq] at this;exact this
    obx:=fun i j b k h=>by
     split at h<;>try cases h
     exact hst'.obx _ b k h
    obnd:=fun i j b h=>by
     split at h<;>try cases h
     exact hst'.obnd _ b h
    olen:=fun i j hi=>by rw[if_neg (by omega)] }
  ·obtain⟨t,ht⟩:=q3 b hb
   refine⟨hst'.obnd _ b ht,fun i j h=>?_,fun i=>hst'.obx _ b i ht⟩
   simp only at h
   split at h<;>try cases h
   have:=hst'.oinj _ _ b ht h
   cases this
 obtain⟨⟨fg,hfg1,hfg2,cg,hfg3⟩,hcall⟩:=hidle
 have hinv:∀ w',(invoke (Deferred.mk (.fn (.func g) vc) #[]).target (Deferred.mk (.fn (.func g) vc) #[]).args).run P w'=.ok (.enter g (#[]++vc)) w':=fun w'=>by
  have hg2':fg.name≠ "runtime.NumGoroutine" :=by simpa using hfg2
  simp[invoke,callFunc,hfg1,hg2',hfg3]
 have hdef:a2.defers=[]:=hst2.defers
 refine rz hrg hm (fun i b hi=>hβ2 i b hi) _ _ (fun v s a w' hq hse=>?_) rest hck2 _ _ (fun e s a w' hq hse=>?_) (fun _ _ _ h=>h) _ _ _ hrest ⟨_,_,_,hst3⟩
 ·obtain⟨d,l,hd,hrec,hK⟩:=hq
  have hdf:a.defers=[{ target:=.fn (.func g) vc,args:=#[] }]:=by obtain⟨_,_,_,h'⟩:=hse;exact h'.defers
  obtain⟨w'',s',h4,⟨l',h50,h51⟩,h6⟩:=yG (vc:=vc) hd l s w' hK hse (fun I β ob w s p i j off hst' hf hc=>by
   have h7:=hst'.fr p
   rw[hf] at h7
   simp only[LR] at h7
   obtain⟨blk,e1,e2⟩:=h7
   have h8:=hcap i _ hc
   simp only[PR] at h8
   obtain⟨blk',e3,e4⟩:=h8
   have h9:=hst'.ext j blk' e3
   rw[h9] at e1
   cases e1
   rw[e2,e4])
  show Leaves P fn a.tmps _ a.defers (.panicking _) w'
  rw[hdf]
  refine leaves_cons (f:=g) (args:=#[]++vc) (by simp) (hinv w') ?_
  refine (hrec (#[]++vc) w' w'' (by simp[hvc,hcl]) (by simpa using h4)).mono ?_
  rintro e u' w3 ⟨⟨v',rfl⟩,rfl,rfl⟩
  obtain⟨v,h7,h8⟩:=fin _ s' l' a a _ rfl h6 h50 h51
  exact⟨v,h7,h8⟩
 ·obtain⟨hex,l',hle,hret⟩:=hq
  have hdf:a.defers=[{ target:=.fn (.func g) vc,args:=#[] }]:=by obtain⟨_,_,_,h'⟩:=hse;exact h'.defers
  have main:∀ (hx:True),Leaves P fn a.tmps (fun e w'=>∃ v' I' β' ob' o',e=.returned v'∧BelowM (GT G) M w w'∧(∀ b o,I b o→I' b o)∧(∀ b o,I' b o→I b o∨(Wr M w b∧b<w'.heap.size))∧
   (∀ b o,I b o→w'.cell? ⟨b,o,none⟩=w.cell? ⟨b,o,none⟩)∧(∀ i,i<b0.length→β' i=β i)∧(∀ i b,b0.length≤i→β' i=some b→Wr M w b)∧BxR (Wr M w) I' w' β' ob' b1∧
   LR (Wr M w) I' β' w' o' v' r∧(∀ b,o'=some b→(b<w'.heap.size∧Wr M w b)∧(∀ i j,ob' i j≠some b)∧∀ i,β' i≠some b)) a.defers .returning w':=fun _=>by
   rw[hdf]
   refine leaves_cons (f:=g) (args:=#[]++vc) (by simp) (hinv w') ?_
   refine (hcall (#[]++vc) w' (by simp[hvc,hcl])).mono ?_
   rintro e u' w'' ⟨⟨v',rfl⟩,rfl,rfl⟩
   obtain⟨v,h7,h8⟩:=fin _ s l' a a _ rfl hse hle hret
   exact⟨v,h7,h8⟩
  cases e with
  |normal=>exact main trivial
  |exit i=>exact hex.elim
  |ret=>exact main trivial
theorem iF {f g:FuncId} {t:Nat} {fn:Func} {id:Nat} {r0 rest:Code} {o1 o2:Oper} {args:List V} {b0 b1:List (List V)} {r:V} (k:Nat) (tr:List Nat) (hm:P.follows .mixedOrders=true) (hf:P.funcs[f]?=some fn)
 (hb:fn.body=some (.seq r0 (.seq (.region id #[o1,o2] false) rest))) (hname:(fn.name== "runtime.NumGoroutine")=false) {rs:List ResultVar} (hrs:fn.results.toList=rs) {n:Nat} (hnt:fn.ntmps=n)
 (hn:args.length≤n) (hck:cok n tr r0=true) (hck2:nz n tr rest=true) (h1:o1.guard=none∧o1.dst=some t∧t<n)
 (h2:o2.guard=none∧o2.dst=none∧o2.op=.defer { callee:=.value (.tmp t),args:=#[],argTypes:=#[] }) (hidle:MY P g k)
 (hcomp:r.compT=true) (hargs:dU args b0=true) (hle:b0.length≤b1.length) {k0:Nat} (hk:b0.length=k0)
 (h:fw P G tr k0 r0 (Fy P G tr o1 t g k rest r b1 rs n) ⟨frm 0 args,bxs b0,k0⟩) (hrg:qK tr=false:=by rfl) (hy1:ny tr o1=false:=by rfl):FnB P G f args b0 r b1:=by
 subst hnt
 subst hrs
 subst hk
 simp only[dU,aF,aU] at hargs
 refine RP (t:=t) (g:=g) k tr hm hf hb hname hn hck hck2 h1 h2 hidle hcomp ⟨fun x hx=>V.ltB_ok (hargs.1 x hx),fun b hb x hx=>V.ltB_ok (hargs.2 b hb x hx),hle⟩ ?_ hrg hy1
 rw[tU] at h;exact h
theorem RQ {f:FuncId} {fn:Func} {c:Code} {args:List V} {b0 b1:List (List V)} {r:V} (tr:List Nat) (hm:P.follows .mixedOrders=true) (hf:P.funcs[f]?=some fn) (hb:fn.body=some c)
 (hname:(fn.name== "runtime.NumGoroutine")=false) (hn:args.length≤fn.ntmps) (hck:nz fn.ntmps tr c=true) (hcomp:r.compT=true)
 (hwf:(∀ x∈args,x.lt b0.length)∧(∀ b∈b0,∀ x∈b,x.lt b0.length)∧b0.length≤b1.length)
 (h:o7 P G tr b0.length (fun _ _=>False) c (rq P b0.length r b1 fn.results.toList) ⟨fun j=>args.getD j .un,bxs b0,b0.length⟩) (hrg:qK tr=false:=by rfl):FnB P G f args b0 r b1:=by
 refine⟨⟨fn,hf,hname,c,hb⟩,hwf,fun I M w vs β ob hI hg hB hsz ha=>?_⟩
 have hsize:fn.ntmps=(vs++Array.replicate (fn.ntmps - vs.size) undef).size:=by simp;omega
 have hst:=St.initB (n:=fn.ntmps) hI hg hB hsz ha hsize
 have hβlt:∀ i b,β i=some b→i<b0.length:=fun i b hi=>by
  by_cases h:i<b0.length
  ·exact h
  ·rw[hB.bnone i (by omega)] at hi;cases hi
 refine calls_of_wp hf hb (rz (Q:=fun _ _ _=>False) hrg hm (fun i b hi=>hβlt i b hi) _ (fun v s a w' hq hse=>hq.elim) c hck _ _ (fun e s a w' hq hse=>?_) (fun _ _ _ h=>h.elim) _ _ _ h ⟨_,_,_,hst⟩)
 obtain⟨hex,l,hle,hret⟩:=hq
 have main:a.defers=[]∧∃ v,(results fn a.tmps).run P w'=.ok v w'∧∃ v' I' β' ob' o',(Ending.returned v=.returned v')∧BelowM (GT G) M w w'∧(∀ b o,I b o→I' b o)∧(∀ b o,I' b o→I b o∨(Wr M w b∧b<w'.heap.size))∧
  (∀ b o,I b o→w'.cell? ⟨b,o,none⟩=w.cell? ⟨b,o,none⟩)∧(∀ i,i<b0.length→β' i=β i)∧(∀ i b,b0.length≤i→β' i=some b→Wr M w b)∧BxR (Wr M w) I' w' β' ob' b1∧
  LR (Wr M w) I' β' w' o' v' r∧(∀ b,o'=some b→(b<w'.heap.size∧Wr M w b)∧(∀ i j,ob' i j≠some b)∧∀ i,β' i≠some b):=by
  obtain⟨I',β',ob',hst'⟩:=hse.weaken (fun i b hi=>hβlt i b hi) hle
  refine⟨hst'.defers,?_⟩
  obtain⟨v,o',q1,q2,q3⟩:=m7 (P:=P) (fn:=fn) hst' hcomp (Ic:=I') (fun _=>rfl) (fun _ _ h=>h) (fun hz=>by cases hz) hret
  refine⟨v,q1,v,I',β',fun i j=>if i<b1.length then ob' (.b i j) else none,o',rfl,⟨hst'.below.os,hst'.below.tape,hst'.below.output,hst'.below.size,hst'.below.block,hst'.below.drawn⟩,hst'.ilow,fun b o hbo=>?_,hst'.kept,fun i hi=>?_,fun i b hi hb=>?_,?_,q2,fun b hb=>?_⟩
  ·rcases hst'.ihigh b o hbo with h4 | h4
   ·exact .inl h4
   ·exact .inr ⟨h4,hst'.ibnd b o hbo⟩
  ·obtain⟨blk,_,e1,_⟩:=hB.bx i _ (ak hi)
   rw[e1];exact hst'.ext i blk e1
  ·rcases hst'.bnew i b hb with h4 | h4
   ·have:=hβlt i b h4;omega
   ·exact h4
  ·exact {
    bx:=fun i cs hcs=>by
     have hi:i<b1.length:=(aj.1 hcs).1
     obtain⟨blk,cur,e1,e2,e3,e4,e5,e7⟩:=hst'.bx i hi
     have e:bxs b1 i=cs:=by simp[bxs,List.getD,hcs]
     refine⟨blk,cur,e1,e2,by simp only[hdS,e] at e3;exact e3,by simp only[hdS,e] at e4;exact e4,fun j=>?_,e7⟩
     have:=e5 j
     simp only[hdS,e] at this
     rw[if_pos hi];exact this
    bnone:=fun i hi=>hst'.bnone i hi
    binj:=hst'.binj
    oinj:=fun i j i' j' b h h'=>by
     split at h<;>try cases h
     split at h'<;>try cases h'
     have:=hst'.oinj _ _ b h h'
     simp only[Loc.b.injEq] at this;exact this
    obx:=fun i j b k h=>by
     split at h<;>try cases h
     exact hst'.obx _ b k h
    obnd:=fun i j b h=>by
     split at h<;>try cases h
     exact hst'.obnd _ b h
    olen:=fun i j hi=>by rw[if_neg (by omega)] }
  ·obtain⟨t,ht⟩:=q3 b hb
   refine⟨hst'.obnd _ b ht,fun i j h=>?_,fun i=>hst'.obx _ b i ht⟩
   simp only at h
   split at h<;>try cases h
   have:=hst'.oinj _ _ b ht h
   cases this
 cases e with
 |normal=>exact main
 |exit i=>exact hex.elim
 |ret=>exact main
def FnO (P:Program) (G:Gl) (f:FuncId) (args:List V) (b0:List (List V)) (o:Option Value) (r:V) (b1:List (List V)):Prop:=match o with
 |none=>FnB P G f args b0 r b1
 |some pv=>FnX P G f args b0 pv b1
def oKP (k:Nat) (b1:List (List V)) (o:Option Value) (pv:Value) (s:S):Prop:=match o with
 |none=>False
 |some v=>RF k v b1 pv s
def oQ (P:Program) (k:Nat) (r:V) (b1:List (List V)) (rs:List ResultVar) (o:Option Value) (e:VE) (s:S):Prop:=match o with
 |none=>rq P k r b1 rs e s
 |some _=>False
theorem ij {f:FuncId} {fn:Func} {c:Code} {args:List V} {b0 b1:List (List V)} {o:Option Value} {r:V} (tr:List Nat) (hm:P.follows .mixedOrders=true) (hf:P.funcs[f]?=some fn) (hb:fn.body=some c) (hname:(fn.name== "runtime.NumGoroutine")=false)
 {rs:List ResultVar} (hrs:fn.results.toList=rs) {n:Nat} (hn:fn.ntmps=n) (hck:nz n tr c=true) (hlen:args.length≤n) (hcomp:r.compT=true) {k:Nat} (hk:mo tr=k) (hk0:b0.length=k)
 (hargs:dU args b0=true) (hle:b0.length≤b1.length)
 (h:pwp P G tr (oKP k b1 o) c (oQ P k r b1 rs o) ⟨frm 0 args,bxs b0,k⟩) (hrg:qK tr=false:=by rfl):FnO P G f args b0 o r b1:=by
 subst hrs
 cases o with
 |some v=>
  exact Ni tr hm hf hb hname hn hck hlen hk hk0 hargs hle h hrg
 |none=>
  subst hn
  subst hk0
  simp only[dU,aF,aU] at hargs
  refine RQ tr hm hf hb hname hlen hck hcomp ⟨fun x hx=>V.ltB_ok (hargs.1 x hx),fun b hb x hx=>V.ltB_ok (hargs.2 b hb x hx),hle⟩ ?_ hrg
  unfold pwp at h
  rw[hk] at h
  rw[tU] at h;exact h
end
theorem C3 {P:Program} {G:Gl} {f:FuncId} {args:List V} {b0 b1:List (List V)} {r:V} (ex:List (List V)) (h:FnB P G f args b0 r (b1++ex)) (hle:b0.length≤b1.length) (hb:b1.all (fun b=>b.all fun x=>x.ltB b1.length)=true) (hr:r.ltB b1.length=true):FnB P G f args b0 r b1:=by
 obtain⟨h1,h2,h3⟩:=h
 refine⟨h1,⟨h2.1,h2.2.1,hle⟩,fun I M w vs β ob hI hg hB hsz ha=>?_⟩
 refine Calls.mono (h3 I M w vs β ob hI hg hB hsz ha) fun e w' he=>?_
 obtain⟨v,I',β',ob',o',e1,e2,e3,e4,e5,e6,e7,e8,e9,e10⟩:=he
 have hβ:∀ i b,(if i<b1.length then β' i else none)=some b→β' i=some b:=fun i b hb=>by split at hb;exact hb;cases hb
 refine⟨v,I',fun i=>if i<b1.length then β' i else none,fun i j=>if i<b1.length then ob' i j else none,o',e1,e2,e3,e4,e5,fun i hi=>?_,fun i b hi hb=>e7 i b hi (hβ i b hb),?_,e9.lt (V.ltB_ok hr) (fun i hi=>if_pos hi),fun b hb=>?_⟩
 ·show(if i<b1.length then β' i else none)=β i
  rw[if_pos (by omega)];exact e6 i hi
 ·exact {
   bx:=fun i cs hcs=>by
    have hi:i<b1.length:=(aj.1 hcs).1
    obtain⟨blk,cur,c1,c2,c3,c4,c5,c6⟩:=e8.bx i cs (by rw[aB hi];exact hcs)
    refine⟨blk,cur,by rw[if_pos hi];exact c1,c2,c3,c4,fun j=>?_,c6⟩
    rw[if_pos hi]
    refine (c5 j).lt ?_ (fun i hi=>if_pos hi)
    have hm:cs∈b1:=bb hcs
    rcases cx j cs.length with hj | hj
    ·have:cs.getD j .un=cs[j]:=by simp[List.getD,hj]
     rw[this]
     have h4:=aU.1 hb _ hm
     exact V.ltB_ok (aU.1 h4 _ (aL hj))
    ·have:cs.getD j .un=.un:=by simp[List.getD,bW hj]
     rw[this];trivial
   bnone:=fun i hi=>if_neg (by omega)
   binj:=fun i j b hi hj=>e8.binj i j b (hβ _ _ hi) (hβ _ _ hj)
   oinj:=fun i j i' j' b h h'=>by
    split at h<;>try cases h
    split at h'<;>try cases h'
    exact e8.oinj _ _ _ _ b h h'
   obx:=fun i j b k h hk=>by
    split at h<;>try cases h
    exact e8.obx _ _ b k h (hβ _ _ hk)
   obnd:=fun i j b h=>by
    split at h<;>try cases h
    exact e8.obnd _ _ b h
   olen:=fun i j hi=>if_neg (by omega) }
 ·obtain⟨d1,d2,d3⟩:=e10 b hb
  refine⟨d1,fun i j h=>?_,fun i h=>d3 i (hβ i b h)⟩
  simp only at h
  split at h<;>try cases h
  exact d2 i j h
theorem Wa {P:Program} {G:Gl} {f:FuncId} {args:List V} {b0 b1:List (List V)} {r:V} (h:FnB P G f args b0 r b1) (hm:∀ b∈b1,mi (b.map V.fz)=mi b):FnB P G f args b0 r (b1.map (·.map V.fz)):=by
 obtain⟨h1,h2,h3⟩:=h
 refine⟨h1,⟨h2.1,h2.2.1,by rw[ap];exact h2.2.2⟩,fun I M w vs β ob hI hg hB hsz ha=>?_⟩
 refine Calls.mono (h3 I M w vs β ob hI hg hB hsz ha) fun e w' he=>?_
 obtain⟨v,I',β',ob',o',e1,e2,e3,e4,e5,e6,e7,e8,e9,e10⟩:=he
 refine⟨v,I',β',fun _ _=>none,o',e1,e2,e3,e4,e5,e6,e7,?_,e9,fun b hb=>?_⟩
 ·exact {
   bx:=fun i cs hcs=>by
    rw[ba] at hcs
    obtain⟨cs0,hcs0,rfl⟩:=aT.1 hcs
    obtain⟨blk,cur,c1,c2,c3,c4,c5,c6⟩:=e8.bx i cs0 hcs0
    refine⟨blk,cur,c1,c2,c3.congr (by rw[ap]) (hm cs0 (bb hcs0)),by rw[ap];exact c4,fun j=>?_,c6⟩
    have h5:=(c5 j).fz none
    have e:(cs0.map V.fz).getD j .un=(cs0.getD j .un).fz:=by
     simp only[ay,ba]
     cases cs0[j]?<;>rfl
    rw[e];exact h5
   bnone:=fun i hi=>e8.bnone i (by rw[ap] at hi;exact hi)
   binj:=e8.binj
   oinj:=fun i j i' j' b h h'=>by cases h
   obx:=fun i j b k h hk=>by cases h
   obnd:=fun i j b h=>by cases h
   olen:=fun i j hi=>rfl }
 ·obtain⟨d1,d2,d3⟩:=e10 b hb
  exact⟨d1,fun i j h=>by(cases h),d3⟩
theorem AK {P:Program} {G:Gl} {f:FuncId} {fn:Func} {c:Code} {args:List V} {b0 b1:List (List V)} {o:Option Value} {r:V} (ex:List (List V)) (tr:List Nat) (hm:P.follows .mixedOrders=true) (hf:P.funcs[f]?=some fn) (hb:fn.body=some c) (hname:(fn.name== "runtime.NumGoroutine")=false)
 {rs:List ResultVar} (hrs:fn.results.toList=rs) {n:Nat} (hn:fn.ntmps=n) (hck:nz n tr c=true) (hlen:args.length≤n) (hcomp:r.compT=true) {k:Nat} (hk:mo tr=k) (hk0:b0.length=k)
 (hargs:dU args b0=true) (hle:b0.length≤b1.length) (hb1:b1.all (fun b=>b.all fun x=>x.ltB b1.length)=true) (hr:r.ltB b1.length=true)
 (h:pwp P G tr (oKP k b1 o) c (oQ P k r (b1++ex) rs o) ⟨frm 0 args,bxs b0,k⟩) (hrg:qK tr=false:=by rfl):FnO P G f args b0 o r b1:=by
 cases o with
 |some v=>exact ij (o:=some v) tr hm hf hb hname hrs hn hck hlen hcomp hk hk0 hargs hle h hrg
 |none=>exact C3 ex (ij (o:=none) tr hm hf hb hname hrs hn hck hlen hcomp hk hk0 hargs (by rw[aw];omega) h hrg) hle hb1 hr
theorem vp {P:Program} {G:Gl} {f:FuncId} {fn:Func} {c:Code} {args:List V} {b0 b1 b2:List (List V)} {o:Option Value} {r:V} (tr:List Nat) (hm:P.follows .mixedOrders=true) (hf:P.funcs[f]?=some fn) (hb:fn.body=some c) (hname:(fn.name== "runtime.NumGoroutine")=false)
 {rs:List ResultVar} (hrs:fn.results.toList=rs) {n:Nat} (hn:fn.ntmps=n) (hck:nz n tr c=true) (hlen:args.length≤n) (hcomp:r.compT=true) {k:Nat} (hk:mo tr=k) (hk0:b0.length=k)
 (hargs:dU args b0=true) (hle:b0.length≤b1.length) (hle2:b0.length≤b2.length) (hmk:∀ b∈b2,mi (b.map V.fz)=mi b) (hfz:o=none→b2.map (·.map V.fz)=b1)
 (h:pwp P G tr (oKP k b1 o) c (oQ P k r b2 rs o) ⟨frm 0 args,bxs b0,k⟩) (hrg:qK tr=false:=by rfl):FnO P G f args b0 o r b1:=by
 cases o with
 |some v=>exact ij (o:=some v) tr hm hf hb hname hrs hn hck hlen hcomp hk hk0 hargs hle h hrg
 |none=>exact hfz rfl▸Wa (ij (o:=none) tr hm hf hb hname hrs hn hck hlen hcomp hk hk0 hargs hle2 h hrg) hmk
