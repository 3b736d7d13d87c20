/- Values without memory: a function that defers one closure, and that does not panic. -/
import Derived.Test.YtegbpjodbjhjeaaGreatDoorVlRunB
import Derived.Defers
import Derived.Recover
set_option linter.all false
namespace Go.Vl
open Go Go.RowKit
section
variable {P:Program} {G:Gl} {tr:List Nat} {n:Nat} {I0:Ft} {M:Mx} {w0:World} {I:Ft} {β:Nat→Option Nat} {ob:Loc→Option Nat} {s:S} {a:Act} {w:World}
theorem St.deferred (h:St G n I0 M w0 I β ob s a w) (d:Deferred):St G n I0 ⟨M.m,β,d::M.d⟩ w0 I β ob s { a with defers:=d::a.defers } w where
 size:=h.size
 defers:=by rw[h.defers]
 below:=⟨h.below.os,h.below.tape,h.below.output,h.below.size,h.below.block,h.below.drawn⟩
 kept:=h.kept
 ilow:=h.ilow
 ihigh:=h.ihigh
 ibnd:=h.ibnd
 fr:=h.fr
 bx:=h.bx
 bnone:=h.bnone
 ext:=fun _ _ h=>h
 bnew:=fun _ _ h=>.inl h
 binj:=h.binj
 oinj:=h.oinj
 obx:=h.obx
 obnd:=h.obnd
 glob:=h.glob
def Sf (P:Program) (g:FuncId) (k:Nat):Prop:=(∃ fn,P.funcs[g]?=some fn∧(fn.name== "runtime.NumGoroutine")=false∧∃ c,fn.body=some c)∧
 ∀ (caps:Array Value) (w:World),caps.size=k→CallsD P g caps .returning w fun e u' w'=>(∃ v,e=.returned v)∧u'=.returning∧w'=w
end
section
variable {P:Program} {G:Gl} {tr:List Nat} {n:Nat} {I0:Ft} {M:Mx} {w0:World} {I:Ft} {β:Nat→Option Nat} {ob:Loc→Option Nat} {s:S} {a:Act} {w:World} {o:Oper}
 {next:Act→World→Prop} {Q:Exit→Act→World→Prop} {base:Nat→Prop}
def FnX (P:Program) (G:Gl) (f:FuncId) (args:List V) (b0:List (List V)) (pv:Value) (b1:List (List V)):Prop:=
 (∃ fn,P.funcs[f]?=some fn∧(fn.name== "runtime.NumGoroutine")=false∧∃ c,fn.body=some c)∧
 ((∀ x∈args,x.lt b0.length)∧(∀ b∈b0,∀ x∈b,x.lt b0.length)∧b0.length≤b1.length)∧
 ∀ (I:Ft) (M:Mx) (w:World) (vs:Array Value) (β:Nat→Option Nat) (ob:Nat→Nat→Option Nat),(∀ b o,I b o→b<w.heap.size)→GOK G I w→BxR (Wr M w) I w β ob b0→vs.size=args.length→
  (∀ j x,args[j]?=some x→LR (Wr M w) I β w none (vs.getD j undef) x)→
  Calls P f vs w fun e w'=>∃ I' β' ob',e=.panicked [{ v:=pv,recovered:=false }]∧BelowM (GT G) M w w'∧(∀ b o,I b o→I' b o)∧(∀ b o,I' b o→I b o∨(Wr M w b∧b<w'.heap.size))∧
   (∀ b o,I b o→w'.cell? ⟨b,o,none⟩=w.cell? ⟨b,o,none⟩)∧(∀ i,i<b0.length→β' i=β i)∧(∀ i b,b0.length≤i→β' i=some b→Wr M w b)∧BxR (Wr M w) I' w' β' ob' b1
def Md (P:Program) (T:TypeId):Prop:=∀ (u:Value) (w:World),(Instr.makeInterface T u).run P w=.ok (.iface T u) w
def wI (P:Program) (G:Gl) (s:S) (o:Oper) (r:List Oper) (KP:Value→S→Prop):Prop:=match o.op with
 | .makeInterface T x=>match ev G s x,r,o.dst with
  | .c (.lit u),[o2],some d=>(Md P T∧o2.guard=none∧o2.op=.panic (.tmp d))∧KP (.iface T u) (s.put (some d) .un)
  |_,_,_=>False
 | .call { callee:=.value f,args:=args,.. }=>match eI (ev G s f) (args.toList.map (ev G s)) with
  |some (g,all)=>∃ (ρ:List Nat) (cargs:List V) (b0:List (List V)) (pv:Value) (b1:List (List V)),FnX P G g cargs b0 pv b1∧all.map V.fz=cargs.map (V.ren (rho ρ s.nb))∧
    (ρ.length=b0.length∧ρ.Nodup)∧pV s.bx s.nb (rho ρ s.nb) 0 b0∧KP pv { s with bx:=fu (rho ρ s.nb) 0 b1 s.bx,nb:=s.nb+(b1.length - b0.length) }
  |none=>False
 |_=>False
def Ch (P:Program) (G:Gl) (tr:List Nat) (ops:Array Oper):List Oper→S→(S→Prop)→(Value→S→Prop)→Prop
 |[],s,K,_=>K s
 |o::r,s,K,KP=>eW P G tr ops [o] s (fun s'=>Ch P G tr ops r s' K KP)∨(o.guard=none∧wI P G s o r KP)
def rZ (P:Program) (G:Gl) (s:S) (o:Oper) (KP:Value→S→Prop):Prop:=match o.op with
 | .call { callee:=.value f,args:=args,.. }=>match eI (ev G s f) (args.toList.map (ev G s)) with
  |some (g,all)=>∃ (ρ:List Nat) (cargs:List V) (b0:List (List V)) (pv:Value) (b1:List (List V)),FnX P G g cargs b0 pv b1∧all.map V.fz=cargs.map (V.ren (rho ρ s.nb))∧
    (ρ.length=b0.length∧ρ.Nodup)∧pV s.bx s.nb (rho ρ s.nb) 0 b0∧KP pv { s with bx:=fu (rho ρ s.nb) 0 b1 s.bx,nb:=s.nb+(b1.length - b0.length) }
  |none=>False
 |_=>False
def sW (ops:Array Oper) (stop:Nat):List Nat:=
 (List.range ops.size).foldl (fun D k=>if k==stop||((ops[k]?).map fun o=>o.after.any fun e=>Region.binds .any e&&D.contains e.on).getD false then k::D else D) []
def ahead (ops:Array Oper) (stop:Nat):List Nat:=(List.range ops.size).filter fun k=>!(sW ops stop).contains k
def aef (tr:List Nat) (ops:Array Oper) (stop:Nat):Bool:=
 (ahead ops stop).all (fun k=>((ops[k]?).map fun o=>!lJ tr o&&dF tr o !=2).getD false)&&((ops[stop]?).map fun o=>o.guard.isNone).getD false&&match kE tr ops (ahead ops stop) (Array.replicate ops.size false) with
 |some listed=>(Region.ready .any ops listed)==[stop]
 |none=>false
def wrs (tr:List Nat) (ops:Array Oper) (stop:Nat):List Tmp:=(j5 ops (ahead ops stop)).flatMap (wr tr)
theorem y0 {ops:Array Oper} {stop:Nat} (h:stop<ops.size):(sW ops stop).contains stop=true:=by
 have gen:∀ (l:List Nat) (D:List Nat),stop∈l∨stop∈D→stop∈l.foldl (fun D k=>if k==stop||((ops[k]?).map fun o=>o.after.any fun e=>Region.binds .any e&&D.contains e.on).getD false then k::D else D) D:=by
  intro l
  induction l with
  |nil=>intro D h;exact h.resolve_left (by simp)
  |cons k l ih=>
   intro D h
   rw[iP]
   apply ih
   rcases h with h | h
   ·rcases bu.1 h with rfl | h
    ·right;simp
    ·exact .inl h
   ·right;split
    ·exact aR _ h
    ·exact h
 have:=gen (List.range ops.size) [] (.inl (cQ.2 h))
 simpa[sW] using this
def Sg (P:Program) (G:Gl) (tr:List Nat) (ops:Array Oper) (s:S) (KP:Value→S→Prop):Prop:=
 ∃ stop o,ops[stop]?=some o∧aef tr ops stop=true∧eW P G tr ops (j5 ops (ahead ops stop)) s (fun _=>True)∧
  ∀ fr,(∀ t,t∉wrs tr ops stop→fr t=s.fr t)→rZ P G ⟨fr,s.bx,s.nb⟩ o KP
def sX (ops:Array Oper) (m:Nat):Bool:=(List.range m).all fun i=>(List.range ops.size).any fun k=>decide (k≠i)&&((ops[k]?).map fun o=>o.after.any fun e=>Region.binds .any e&&(e.on==i)).getD false
def Si (tr:List Nat) (ops:Array Oper) (stop:Nat):Bool:=
 decide (stop+1=ops.size)&&(ops.toList.take stop).all (fun o=>!lJ tr o)&&((ops[stop]?).map fun o=>o.guard.isNone).getD false&&
 decide (kE tr ops (List.range stop) (Array.replicate ops.size false)=some (oL stop ops.size))&&sX ops stop&&Region.ready .any ops (oL stop ops.size)==[stop]
def Sj (P:Program) (G:Gl) (tr:List Nat) (ops:Array Oper) (s:S) (KP:Value→S→Prop):Prop:=
 ∃ stop o,ops[stop]?=some o∧Si tr ops stop=true∧eW P G tr ops (ops.toList.take stop) s (fun s'=>rZ P G s' o KP)
def unO (Q:Nat) (o:Oper):Oper:=match o.op with
 | .alloc _=>{ o with op:=.move (.tmp Q) }
 |_=>o
def unA (Q:Nat) (ops:Array Oper):Array Oper:=⟨ops.toList.map (unO Q)⟩
def HC (P:Program) (ops:Array Oper):Bool:=ops.toList.all fun o=>match o.op with
 | .alloc T=>o.guard.isNone&&(match ti P T with | some i=>i.zero.isSome | none=>false)
 |_=>true
def HD (ops:Array Oper) (stop:Nat) (A:List Nat):Bool:=A.all fun k=>(List.range ops.size).any fun j=>decide (k<j)&&(decide (j=stop)||A.contains j)&&((ops[j]?).map fun o=>o.after.any fun e=>Region.binds .any e&&(e.on==k)).getD false
def Sk (P:Program) (tr:List Nat) (ops:Array Oper) (Q stop:Nat) (A B:List Nat):Bool:=
 (A++B).all (fun k=>(((unA Q ops)[k]?).map fun o=>!lJ tr o).getD false)&&B.all (fun k=>(((unA Q ops)[k]?).map fun o=>dF tr o !=2).getD false)&&((ops[stop]?).map fun o=>o.guard.isNone).getD false&&HC P ops&&
 HD (unA Q ops) stop A&&(unA Q ops).toList.all (fun o=>!(wr tr o).contains Q)&&decide (A.length+B.length<ops.size)&&match kE tr (unA Q ops) A (Array.replicate ops.size false) with
 |some l1=>(match kE tr (unA Q ops) B l1 with | some l2=>(Region.ready .any (unA Q ops) l2)==[stop] | none=>false)
 |none=>false
def Sl (P:Program) (G:Gl) (tr:List Nat) (ops:Array Oper) (s:S) (KP:Value→S→Prop):Prop:=
 ∃ Q stop A B o,ops[stop]?=some o∧Sk P tr ops Q stop A B=true∧s.fr Q=.un∧eW P G tr (unA Q ops) (j5 (unA Q ops) A) s fun s1=>eW P G tr (unA Q ops) (j5 (unA Q ops) B) s1 (fun _=>True)∧
  ∀ fr,(∀ t,t∉(j5 (unA Q ops) B).flatMap (wr tr)→fr t=s1.fr t)→rZ P G ⟨fr,s1.bx,s1.nb⟩ o KP
def CW (P:Program) (G:Gl) (tr:List Nat) (ops:Array Oper) (s:S) (KP:Value→S→Prop):Prop:=Sg P G tr ops s KP∨Sj P G tr ops s KP∨Sl P G tr ops s KP
def OI (tr:List Nat) (id:Nat):Bool:=tr.contains (2900000+id)
theorem iy {P:Program} {G:Gl} {tr:List Nat} {ops:Array Oper} {s:S} {KP:Value→S→Prop} {o:Oper} (Q stop:Nat) (A B:List Nat) {lA lB:List Oper} (ho:ops[stop]?=some o) (h:Sk P tr ops Q stop A B=true) (hQ:s.fr Q=.un) (hA:j5 (unA Q ops) A=lA) (hB:j5 (unA Q ops) B=lB)
 (hv:eW P G tr (unA Q ops) lA s fun s1=>eW P G tr (unA Q ops) lB s1 (fun _=>True)∧∀ fr,(∀ t,t∉lB.flatMap (wr tr)→fr t=s1.fr t)→rZ P G ⟨fr,s1.bx,s1.nb⟩ o KP):CW P G tr ops s KP:=
 .inr (.inr ⟨Q,stop,A,B,o,ho,h,hQ,by rw[hA,hB];exact hv⟩)
theorem fY {P:Program} {G:Gl} {tr:List Nat} {ops:Array Oper} {s:S} {KP:Value→S→Prop} {o:Oper} {l:List Oper} (hl:ops.toList=l++[o]) (h:Si tr ops l.length=true) (hv:eW P G tr ops l s (fun s'=>rZ P G s' o KP)):CW P G tr ops s KP:=
 .inr<|.inl ⟨l.length,o,by rw[← aV,hl];simp,h,by rw[hl,gq];exact hv;rfl⟩
def rB (P:Program) (G:Gl) (tr:List Nat) (k:Nat) (KP:Value→S→Prop):Code→(VE→S→Prop)→S→Prop
 | .region id ops d,Q,s=>if OI tr id then spl tr id ops s (fun s=>if d then vtw P G tr id ops s (Q .normal)∨CW P G tr ops s KP else Ch P G tr ops ops.toList s (Q .normal) KP) else gR P G tr k (.region id ops d) Q s
 | .seq a b,Q,s=>rB P G tr k KP a (fun e s'=>match e with | .normal=>rB P G tr k KP b Q s' | e=>Q e s') s
 | .cond c x y,Q,s=>match ev G s c with
  | .c (.lit (.bool p))=>(p=true→rB P G tr k KP x Q (refine s c true))∧(p=false→rB P G tr k KP y Q (refine s c false))
  |_=>False
 | .block id body,Q,s=>rB P G tr k KP body (fun e s'=>match e with | .exit i=>if i=id then Q .normal s' else Q (.exit i) s' | e=>Q e s') s
 | .loop body,Q,s=>∃ n,t7 k (rB P G tr k KP body) Q n s
 | .scope body,Q,s=>rB P G tr k KP body Q s
 |c,Q,s=>gR P G tr k c Q s
def pX (n:Nat) (tr:List Nat):Code→Bool
 | .region id ops draw=>if OI tr id then jV n ops&&(ops.toList.all fun o=>!pW tr o)&&(!draw||(if NA tr id then CL tr ops else x8 tr ops)) else cok n tr (.region id ops draw)
 | .seq a b=>pX n tr a&&pX n tr b
 | .cond _ a b=>pX n tr a&&pX n tr b
 | .block _ a=>pX n tr a
 | .loop a=>pX n tr a
 | .scope a=>pX n tr a
 |_=>true
theorem OJ {T:TypeId} {x:Operand} (ho:o.op=.makeInterface T x) (h:Md P T):(execOp a.eval o).run P w=.ok (.value (.iface T (a.eval x))) w:=by
 unfold execOp
 simp only[ho]
 simp[aJ,h (a.eval x) w]
theorem OK {x:Operand} {T:TypeId} {u:Value} (ho:o.op=.panic x) (h:a.eval x=.iface T u):(execOp a.eval o).run P w=.halt (.panic (.iface T u)) w:=by
 unfold execOp
 simp only[ho]
 simp[aJ,h,Instr.panic,goPanic,Sem.run]
theorem wJ {d:Tmp} {v:Value} (h:d<a.tmps.size):(a.put (some d) v).eval (.tmp d)=v:=by
 show(a.tmps.set! d v).getD d undef=v
 simp[ap,bH,h]
theorem wK (hst:St G n I0 M w0 I β ob s a w) {f:FuncId} {vs:List Value} {all:List V} {ρ:List Nat} {cargs:List V} {b0 b1:List (List V)} {pv:Value}
 (dC:FnX P G f cargs b0 pv b1) (cD:ArgsL (Wr M w0) I β w vs all) (dh:all.map V.fz=cargs.map (V.ren (rho ρ s.nb))) (hρ:ρ.length=b0.length∧ρ.Nodup) (fJ:pV s.bx s.nb (rho ρ s.nb) 0 b0)
 (bA:(execOp a.eval o).run P w=.ok (.enter f vs.toArray) w)
 (hk:∀ w',SE G n I0 M w0 { s with bx:=fu (rho ρ s.nb) 0 b1 s.bx,nb:=s.nb+(b1.length - b0.length) } a w'→Q (.panic [{ v:=pv,recovered:=false }]) a w'):o.wp P a w next Q:=by
 unfold Oper.wp
 rw[bA]
 simp only[Oper.upon]
 obtain⟨hρl,hn⟩:=hρ
 obtain⟨BO,m4,fy⟩:=dC.2.1
 have hl:∀ i,i<ρ.length→ρ.getD i 0<s.nb:=fun i hi=>by
  obtain⟨b,hb⟩:∃ b,b0[i]?=some b:=⟨_,aj (by omega)⟩
  have:=(nO b0 0 i b fJ hb).1
  rw[ah] at this
  simpa[rho,hi] using this
 have pY:=ua hn hl
 have cu:all.length=cargs.length:=by simpa using iY List.length dh
 refine (dC.2.2 I ⟨Mof β ob (rho ρ s.nb) b0.length,fun _=>none,[]⟩ w vs.toArray (kD β (rho ρ s.nb) b0.length) (obC ob (rho ρ s.nb) b0.length) hst.ibnd hst.glob (hst.give pY fJ m4)
  (by have:=cD.1;simp;omega) (fun j x hx=>?_)).mono ?_
 ·have hj:j<cargs.length:=(ak.1 hx).1
  have hz:all[j]?=some all[j]:=aj (by omega)
  have h1:=cD.2 j _ hz
  have h2:all[j].fz=x.ren (rho ρ s.nb):=by
   have e1:(all.map V.fz)[j]?=some all[j].fz:=by simp[hz]
   have e2:(cargs.map (V.ren (rho ρ s.nb)))[j]?=some (x.ren (rho ρ s.nb)):=by simp[hx]
   rw[dh,e2] at e1
   exact(cN e1).symm
  rw[h2] at h1
  have h3:=h1.ren (β':=kD β (rho ρ s.nb) b0.length) (BO x (bh hx)) (fun i b hi hb=>by simp[kD,hi,hb])
  have h4:=h3.wider (base':=Wr ⟨Mof β ob (rho ρ s.nb) b0.length,fun _=>none,[]⟩ w) fun b hb=>by cases hb
  simpa using h4
 ·rintro e w' ⟨I',β',ob',rfl,ou,Lv,Jp,sn,Qb,Je,n0⟩
  simp only
  exact hk _ ⟨_,_,_,(hst.called hρl hn fJ fy ou Lv Jp sn Qb Je n0).1⟩
theorem Kl {ops:Array Oper} (dC:jV n ops=true) {KP:Value→S→Prop} (BP:∀ v s a w,KP v s→SE G n I0 M w0 s a w→Q (.panic [{ v:=v,recovered:=false }]) a w) {l:List Oper} {k:Nat}
 (hl:ops.toList.drop k=o::l) (hst:St G n I0 M w0 I β ob s a w) (hg:o.guard=none) (h:wI P G s o l KP):wpOps P ops Q (List.range' k (l.length+1)) a w:=by
 have lR:ops[k]?=some o:=by
  have:(ops.toList.drop k)[0]?=some o:=by rw[hl];rfl
  rw[ci] at this
  simpa using this
 have jS:o∈ops.toList:=cM (i:=k) (by rw[hl];simp)
 have hw:Region.wanted o (yielded ops a.tmps)=true:=by simp[Region.wanted,hg]
 simp only[gK,wpOps,lR]
 rw[if_pos hw]
 left
 unfold wI at h
 split at h
 ·rename_i T x cm
  split at h
  ·rename_i u o2 d hx hd
   obtain⟨⟨hi,Gn,aiu⟩,hk⟩:=h
   have Nt:d<n:=fb dC jS d hd
   unfold Oper.wp
   rw[OJ cm hi]
   simp only[Oper.upon]
   have afU:ops[k+1]?=some o2:=by
    have:(ops.toList.drop k)[1]?=some o2:=by rw[hl];rfl
    rw[ci] at this
    simpa using this
   have ll:∀ a:Act,Region.wanted o2 (yielded ops a.tmps)=true:=fun a=>by simp[Region.wanted,Gn]
   simp only[aC,aH,gK,wpOps,afU]
   rw[if_pos (ll _)]
   left
   unfold Oper.wp
   have vZ:a.eval x=u:=by have:=bF hst x;rw[hx] at this;exact this.lit
   rw[OK (T:=T) (u:=u) aiu (by rw[hd,wJ (by rw[hst.size];exact Nt),vZ])]
   simp only[Oper.upon]
   refine BP _ _ _ _ hk ?_
   rw[hd]
   exact SE.put hst (dst:=some d) (fun d' h'=>by cases h';exact Nt) (by simp only[LR];exact .un _)
  ·exact h.elim
 ·rename_i f args ts cm
  split at h
  ·rename_i g all lj
   obtain⟨ρ,cargs,b0,pv,b1,LD,dh,hρ,fJ,hK⟩:=h
   obtain⟨fn,h1,h2,c,h3⟩:=LD.1
   have hf:=bF hst f
   unfold eI at lj
   split at lj
   ·rename_i g' fs cs he
    simp only[ao,dU] at lj
    obtain⟨rfl,rfl⟩:=lj
    rw[he] at hf
    obtain⟨vf,vc,hv,q1,q2,q3,q4⟩:=hf.toC.fn_inv
    have bA:=lU (P:=P) (w:=w) cm hv h1 h2 h3
    refine wK hst LD (vs:=vf.toList++args.toList.map a.eval++vc.toList) (((nA vf fs q1 q3).append (ml hst _)).append (nA vc cs q2 q4)) dh hρ fJ ?_ (fun w'=>BP _ _ _ _ hK)
    rw[bA];congr 2;apply cT;simp
   ·rename_i g' fs cs he
    simp only[ao,dU] at lj
    obtain⟨rfl,rfl⟩:=lj
    rw[he] at hf
    simp only[LR] at hf
    obtain⟨vf,vc,hv,q1,q2,q3,q4⟩:=hf
    have bA:=lU (P:=P) (w:=w) cm hv h1 h2 h3
    refine wK hst LD (vs:=vf.toList++args.toList.map a.eval++vc.toList) (((nB vf fs q1 q3).append (ml hst _)).append (nB vc cs q2 q4)) dh hρ fJ ?_ (fun w'=>BP _ _ _ _ hK)
    rw[bA];congr 2;apply cT;simp
   ·cases lj
  ·exact h.elim
 ·exact h.elim
theorem vz {ops:Array Oper} (dC:jV n ops=true) (hny:(ops.toList.all fun o=>!pW tr o)=true) {K:S→Prop} {KP:Value→S→Prop} (hK:∀ a w s,K s→SE G n I0 M w0 s a w→Q .normal a w)
 (BP:∀ v s a w,KP v s→SE G n I0 M w0 s a w→Q (.panic [{ v:=v,recovered:=false }]) a w):∀ (l:List Oper) (k:Nat),ops.toList.drop k=l→∀ (s:S) (a:Act) (w:World),
 Ch P G tr ops l s K KP→SE G n I0 M w0 s a w→wpOps P ops Q (List.range' k l.length) a w
 |[],k,_,s,a,w,h,cE=>by simp only[aH,List.range'_zero,wpOps];exact hK _ _ _ h cE
 |o::l,k,hl,s,a,w,h,cE=>by
  have lR:ops[k]?=some o:=by
   have:(ops.toList.drop k)[0]?=some o:=by rw[hl];rfl
   rw[ci] at this
   simpa using this
  have Jk:ops.toList.drop (k+1)=l:=by
   rw[← fD,hl];rfl
  have jS:o∈ops.toList:=cM (i:=k) (by rw[hl];simp)
  obtain⟨I,β,ob,hst⟩:=cE
  rcases h with h | ⟨hg,h⟩
  ·simp only[aC,gK,wpOps,lR]
   simp only[eW] at h
   rcases ru hst h with⟨hw,h⟩ | ⟨hw,h⟩
   ·rw[if_pos hw]
    refine .inl (nQ (tr:=tr) hst (fb dC jS) (by simpa using aU.1 hny o jS) h fun a' w' s' xx nz=>?_)
    exact vz dC hny hK BP l (k+1) Jk s' a' w' xx nz
   ·rw[hw]
    simp only[aM,dy]
    exact vz dC hny hK BP l (k+1) Jk _ _ w h (SE.put hst (fb dC jS) (by simp only[LR];exact .sk))
  ·exact Kl dC BP hl hst hg h
theorem sY {KP:Value→S→Prop} (BP:∀ v s a w,KP v s→SE G n I0 M w0 s a w→Q (.panic [{ v:=v,recovered:=false }]) a w) (hst:St G n I0 M w0 I β ob s a w) (h:rZ P G s o KP):o.wp P a w next Q:=by
 unfold rZ at h
 split at h
 ·rename_i f args ts cm
  split at h
  ·rename_i g all lj
   obtain⟨ρ,cargs,b0,pv,b1,LD,dh,hρ,fJ,hK⟩:=h
   obtain⟨fn,h1,h2,c,h3⟩:=LD.1
   have hf:=bF hst f
   unfold eI at lj
   split at lj
   ·rename_i g' fs cs he
    simp only[ao,dU] at lj
    obtain⟨rfl,rfl⟩:=lj
    rw[he] at hf
    obtain⟨vf,vc,hv,q1,q2,q3,q4⟩:=hf.toC.fn_inv
    have bA:=lU (P:=P) (w:=w) cm hv h1 h2 h3
    refine wK hst LD (vs:=vf.toList++args.toList.map a.eval++vc.toList) (((nA vf fs q1 q3).append (ml hst _)).append (nA vc cs q2 q4)) dh hρ fJ ?_ (fun w'=>BP _ _ _ _ hK)
    rw[bA];congr 2;apply cT;simp
   ·rename_i g' fs cs he
    simp only[ao,dU] at lj
    obtain⟨rfl,rfl⟩:=lj
    rw[he] at hf
    simp only[LR] at hf
    obtain⟨vf,vc,hv,q1,q2,q3,q4⟩:=hf
    have bA:=lU (P:=P) (w:=w) cm hv h1 h2 h3
    refine wK hst LD (vs:=vf.toList++args.toList.map a.eval++vc.toList) (((nB vf fs q1 q3).append (ml hst _)).append (nB vc cs q2 q4)) dh hρ fJ ?_ (fun w'=>BP _ _ _ _ hK)
    rw[bA];congr 2;apply cT;simp
   ·cases lj
  ·exact h.elim
 ·exact h.elim
def agQ (P:Program) (G:Gl) (tr:List Nat) (ops:Array Oper) (stop:Nat) (C:S→Prop) (i:Nat) (K:S→Prop) (s:S):Prop:=pn P G tr ops i K s∨(i=stop∧C s)
def pw (P:Program) (G:Gl) (tr:List Nat) (md:Region.Mode) (ops:Array Oper) (stop:Nat) (C:S→Prop):Nat→Array Bool→S→Prop
 |0,_,_=>False
 |fuel+1,listed,s=>
  Region.ready md ops listed≠[]∧
  ∀ i∈Region.ready md ops listed,agQ P G tr ops stop C i (pw P G tr md ops stop C fuel (listed.setIfInBounds i true)) s
theorem qe {ops:Array Oper} {md:Region.Mode} {stop:Nat} {C:S→Prop} {os:Oper} (Cq:ops[stop]?=some os) (Cr:os.guard=none) (dC:jV n ops=true)
 (hC:∀ s I β ob a w next,C s→St G n I0 M w0 I β ob s a w→os.wp P a w next Q):∀ (fuel:Nat) (listed:Array Bool) (s:S) (a:Act) (w:World),
 pw P G tr md ops stop C fuel listed s→SE G n I0 M w0 s a w→wpAny P md ops Q fuel listed a w
 |0,_,_,_,_,h,_=>h.elim
 |fuel+1,_,s,a,w,h,cE=>by
  refine⟨fun h0=>absurd h0 h.1,fun i hi=>?_⟩
  have hh:=h.2 i hi
  rcases hh with hh | ⟨rfl,hh⟩
  ·unfold pn at hh
   unfold wpOp
   split
   ·rename_i ho;simp only[ho] at hh;exact qe Cq Cr dC hC fuel _ s a w hh cE
   ·rename_i o ho
    simp only[ho] at hh
    obtain⟨e,he,hh⟩:=hh
    have jS:o∈ops.toList:=by
     have:=dz ho
     simpa using this
    obtain⟨I,β,ob,hst⟩:=cE
    rcases he with⟨hg,hv,_⟩ | ⟨hg,rfl⟩
    ·rw[if_pos (kj hst hg)]
     exact .inl (ub hst (fb dC jS) hv fun a' w' nz=>qe Cq Cr dC hC fuel _ _ a' w' hh nz)
    ·rw[kj hst hg]
     simp only[aM,dy]
     rw[sM] at hh
     exact qe Cq Cr dC hC fuel _ _ _ w hh (SE.put hst (fb dC jS) (by simp only[LR];exact .sk))
  ·obtain⟨I,β,ob,hst⟩:=cE
   unfold wpOp
   simp only[Cq]
   rw[if_pos (by simp[Region.wanted,Cr])]
   exact .inl (hC _ _ _ _ _ _ _ hh hst)
theorem y2 {ops:Array Oper} {md:Region.Mode} {stop:Nat} {C:S→Prop} {i:Nat} {oi:Oper} {e:Ef} (hi:ops[i]?=some oi) (VK:∀ s,C (e.run tr oi s)→C s) :
 ∀ (fuel:Nat) (listed:Array Bool) (s:S),FreeAt tr md ops listed i oi→
  i∈Region.ready md ops listed→TEf P G tr ops oi s e→
  pw P G tr md ops stop C fuel (listed.setIfInBounds i true) (e.run tr oi s)→pw P G tr md ops stop C (fuel+1) listed s:=by
 intro fuel
 induction fuel with
 |zero=>intro listed s _ _ _ H;exact H.elim
 |succ fuel ih=>
  intro listed s sq hr hy H
  refine⟨fun h=>(by rw[h] at hr;cases hr),fun j hj=>?_⟩
  by_cases pd:j=i
  ·subst pd;left;unfold pn;simp only[hi];exact⟨e,hy,H⟩
  ·rcases H.2 j (jU hj pd) with h1 | ⟨h1,h2⟩
   ·left
    obtain⟨_,oj,uF,_⟩:=iH.1 hj
    obtain⟨uR,rU⟩:=sq.step hr hj pd uF
    unfold pn at h1 ⊢
    simp only[uF] at h1 ⊢
    obtain⟨f,hf,hK⟩:=h1
    have zg:=hy.back uR hf
    refine⟨f,zg,ih (listed.setIfInBounds j true) _ rU (jU hr (gb pd)) (hy.keep uR zg) ?_⟩
    rw[gW _ _ pd,← sO uR hy zg]
    exact hK
   ·exact .inr ⟨h1,VK _ h2⟩
theorem CX {ops:Array Oper} {stop:Nat} {C:S→Prop} (m:Nat) (kz:Array Bool) (VK:∀ k o s e,k∈ahead ops stop→ops[k]?=some o→TEf P G tr ops o s e→∀ s',(C (e.run tr o s')↔C s'))
 (VF:∀ s',C s'→pw P G tr .any ops stop C m kz s'):∀ (ks:List Nat) (listed:Array Bool) (s:S),(∀ k∈ks,k∈ahead ops stop∧∃ o,ops[k]?=some o∧lJ tr o=false)→
 kE tr ops ks listed=some kz→eW P G tr ops (j5 ops ks) s (fun _=>True)→C s→pw P G tr .any ops stop C (m+ks.length) listed s
 |[],listed,s,_,hB,_,hc=>by simp only[kE,ao] at hB;subst hB;exact VF _ hc
 |k::r,listed,s,hA,hB,h,hc=>by
  obtain⟨Y7,o,ho,xF⟩:=hA k (aW ..)
  unfold kE at hB
  split at hB
  ·rename_i hcd
   simp only[aI] at hcd
   obtain⟨hr,hf⟩:=hcd
   simp only[j5,fa,ho,eW] at h
   obtain⟨e,he,hK⟩:=fX (K:=fun s'=>eW P G tr ops (j5 ops r) s' fun _=>True) xF h
   have:=y2 ho (fun s'=>(VK k o s e Y7 ho he s').1) (m+r.length) listed s (kX ho hf) (by simpa using hr) he
    (CX m kz VK VF r _ _ (fun k hk=>hA k (aR _ hk)) hB hK ((VK k o s e Y7 ho he s).2 hc))
   simpa[dn] using this
  ·cases hB
theorem EW {id:Nat} {ops:Array Oper} (hm:P.follows .mixedOrders=true) (dC:jV n ops=true) {KP:Value→S→Prop} (BP:∀ v s a w,KP v s→SE G n I0 M w0 s a w→Q (.panic [{ v:=v,recovered:=false }]) a w)
 (h:Sg P G tr ops s KP) (cE:SE G n I0 M w0 s a w):(Code.region id ops true).wp P Q a w:=by
 refine wp_region_any hm ?_
 obtain⟨stop,os,Cq,Gg,hv,adr⟩:=h
 unfold aef at Gg
 simp only[aI,aU] at Gg
 obtain⟨⟨dh,Cr⟩,vX⟩:=Gg
 simp only[Cq,bO,bU,Option.isNone_iff_eq_none] at Cr
 have hA:∀ k∈ahead ops stop,∃ o,ops[k]?=some o∧lJ tr o=false∧dF tr o≠2:=fun k hk=>by
  have:=dh k hk
  cases ho:ops[k]? with
  |none=>simp[ho] at this
  |some o=>simp[ho] at this;exact⟨o,rfl,this.1,this.2⟩
 have nz:SE G n I0 M w0 s a { w with drawn:=w.drawn+1 }:=by
  obtain⟨I,β,ob,hst⟩:=cE
  exact⟨I,β,ob,hst.drew⟩
 split at vX
 ·rename_i listed P2
  have Lx:Region.ready .any ops listed=[stop]:=by simpa using vX
  let C:S→Prop:=fun s'=>(∀ t,t∉wrs tr ops stop→s'.fr t=s.fr t)∧s'.bx=s.bx∧s'.nb=s.nb
  have VK:∀ k o s1 e,k∈ahead ops stop→ops[k]?=some o→TEf P G tr ops o s1 e→∀ s',(C (e.run tr o s')↔C s'):=fun k o s1 e hk ho he s'=>by
   obtain⟨o',ho',_,hm2⟩:=hA k hk
   rw[ho] at ho';cases ho'
   obtain⟨q1,q2,_⟩:=mq (uc he hm2) s'.bx s'.nb 0
   have hw:∀ t,t∉wrs tr ops stop→t∉wr tr o:=fun t ht hto=>ht (by
    unfold wrs
    exact List.mem_flatMap.2 ⟨o,List.mem_filterMap.2 ⟨k,hk,ho⟩,hto⟩)
   show((∀ t,t∉wrs tr ops stop→(e.run tr o s').fr t=s.fr t)∧(e.run tr o s').bx=s.bx∧(e.run tr o s').nb=s.nb)↔_
   rw[sN]
   simp only[q1,q2]
   constructor
   ·rintro⟨h1,h2⟩
    exact⟨fun t ht=>by have:=h1 t ht;rw[fM (hw t ht)] at this;exact this,h2⟩
   ·rintro⟨h1,h2⟩
    exact⟨fun t ht=>by rw[fM (hw t ht)];exact h1 t ht,h2⟩
  have key:=CX (P:=P) (G:=G) (ops.size - (ahead ops stop).length) listed VK (fun s' hc=>?_) (ahead ops stop) (Array.replicate ops.size false) s (fun k hk=>⟨hk,by obtain⟨o,h1,h2,_⟩:=hA k hk;exact⟨o,h1,h2⟩⟩) P2 hv ⟨fun _ _=>rfl,rfl,rfl⟩
  ·have cu:(ahead ops stop).length≤ops.size:=by
    have:=List.length_filter_le (fun k=>!(sW ops stop).contains k) (List.range ops.size)
    simpa[ahead] using this
   rw[Nat.sub_add_cancel cu] at key
   refine qe Cq Cr dC (fun s' I β ob a w next hc hst=>?_) _ _ _ _ _ key nz
   obtain⟨h1,h2,h3⟩:=hc
   obtain⟨fr,bx,nb⟩:=s'
   simp only at h1 h2 h3
   subst h2 h3
   exact sY BP hst (adr fr h1)
  ·have bB:(ahead ops stop).length<ops.size:=by
    have hs:stop<ops.size:=(be.1 Cq).1
    have jS:stop∈Region.ready .any ops listed:=by rw[Lx];simp
    have P6:stop∉ahead ops stop:=by
     intro fJ
     have:=(List.mem_filter.1 fJ).2
     have hb:(sW ops stop).contains stop=true:=y0 hs
     rw[hb] at this;cases this
    have eJ:(ahead ops stop).length<(List.range ops.size).length:=by
     unfold ahead
     rw[List.length_filter_lt_length_iff_exists]
     exact⟨stop,cQ.2 hs,by
      have hb:(sW ops stop).contains stop=true:=y0 hs
      show ¬ ((!(sW ops stop).contains stop)=true)
      rw[hb];simp⟩
    simpa using eJ
   obtain⟨q,hq⟩:∃ q,ops.size - (ahead ops stop).length=q+1:=⟨ops.size - (ahead ops stop).length - 1,by omega⟩
   rw[hq]
   exact⟨by rw[Lx];simp,fun i hi=>by
    rw[Lx] at hi
    simp only[aP] at hi
    exact .inr ⟨hi,hc⟩⟩
 ·cases vX
theorem Ci {ops:Array Oper} {m:Nat} (h:sX ops m=true) {i:Nat} (hi:i<m):∃ k o,k≠i∧ops[k]?=some o∧∃ e∈o.after,Region.binds .any e=true∧e.on=i:=by
 unfold sX at h
 rw[aU] at h
 have h1:=h i (cQ.2 hi)
 rw[dt] at h1
 obtain⟨k,_,h2⟩:=h1
 simp only[aI,bj] at h2
 obtain⟨fO,h2⟩:=h2
 cases ho:ops[k]? with
 |none=>simp[ho] at h2
 |some o=>
  simp only[ho,bO,bU] at h2
  rw[Array.any_eq_true'] at h2
  obtain⟨e,he,h3⟩:=h2
  simp only[aI,kC] at h3
  exact⟨k,o,fO,ho,e,he,h3.1,h3.2⟩
def DC (ops:Array Oper) (listed:Array Bool):Prop:=∀ k o,ops[k]?=some o→listed.getD k false=true→∀ e∈o.after,Region.binds .any e=true→listed.getD e.on false=true
theorem DC.step {ops:Array Oper} {listed:Array Bool} {j:Nat} (h:DC ops listed) (hj:j∈Region.ready .any ops listed):DC ops (listed.setIfInBounds j true):=by
 intro k o ho hk e he hb
 obtain⟨_,oj,uF,dh⟩:=iH.1 hj
 by_cases hkj:k=j
 ·subst hkj
  rw[uF] at ho;cases ho
  exact Go.getD_set_true (dh e he hb)
 ·rw[lv false (gb hkj)] at hk
  exact Go.getD_set_true (h k o ho hk e he hb)
theorem EX {ops:Array Oper} {K0:S→Prop} {m:Nat} (Qf:sX ops m=true) (Jl:m+1=ops.size) {i:Nat} {oi:Oper} {e:Ef} (hi:ops[i]?=some oi) :
 ∀ (fuel:Nat) (listed:Array Bool) (s:S),listed.size=ops.size→DC ops listed→FreeAt tr .any ops listed i oi→
  i∈Region.ready .any ops listed→TEf P G tr ops oi s e→
  yU P G tr ops (oL m ops.size) K0 fuel (listed.setIfInBounds i true) (e.run tr oi s)→yU P G tr ops (oL m ops.size) K0 (fuel+1) listed s:=by
 intro fuel
 induction fuel with
 |zero=>
  intro listed s dZ Jr _ hr hy H
  refine⟨fun h=>(by rw[h] at hr;cases hr),fun j hj=>?_⟩
  by_cases pd:j=i
  ·subst pd;unfold pn;simp only[hi];exact⟨e,hy,H⟩
  ·exfalso
   obtain⟨Y2,oj,uF,dh⟩:=iH.1 hj
   have Ny:i<listed.size:=by rw[dZ];exact(be.1 hi).1
   have Z3:j<ops.size:=(be.1 uF).1
   have h1:(oL m ops.size).getD j true=false:=by rw[← H.1,lv true (gb pd)];exact Y2
   have h2:(oL m ops.size).getD i false=true:=by
    rw[← H.1,ap,Array.getElem?_setIfInBounds_self_of_lt Ny];rfl
   have hjm:=AI h1
   have him:=CM h2
   have h4:=(iH.1 hr).1
   obtain⟨k,ok,hki,dC,ed,hed,hb,VG⟩:=Ci Qf him
   have F8:k<ops.size:=(be.1 dC).1
   have h5:listed.getD i false=true:=by
    by_cases hkj:k=j
    ·subst hkj
     rw[uF] at dC;cases dC
     have:=dh ed hed hb
     rw[VG] at this;exact this
    ·have hkm:k<m:=by omega
     have h6:listed.getD k false=true:=by
      have h7:(listed.setIfInBounds i true).getD k false=true:=by
       rw[H.1]
       unfold oL
       rw[ap,cP,aG (by simpa using hkm)]
       simp[hkm]
      rw[lv false (gb hki)] at h7
      exact h7
     have:=Jr k ok dC h6 ed hed hb
     rw[VG] at this;exact this
   rw[ap,aA Ny] at h5 h4
   simp only[bU] at h5 h4
   rw[h4] at h5;cases h5
 |succ fuel ih=>
  intro listed s dZ Jr sq hr hy H
  refine⟨fun h=>(by rw[h] at hr;cases hr),fun j hj=>?_⟩
  by_cases pd:j=i
  ·subst pd;unfold pn;simp only[hi];exact⟨e,hy,H⟩
  ·have h1:=H.2 j (jU hj pd)
   obtain⟨_,oj,uF,_⟩:=iH.1 hj
   obtain⟨uR,rU⟩:=sq.step hr hj pd uF
   unfold pn at h1 ⊢
   simp only[uF] at h1 ⊢
   obtain⟨f,hf,hK⟩:=h1
   have zg:=hy.back uR hf
   refine⟨f,zg,ih (listed.setIfInBounds j true) _ (by rw[dp];exact dZ) (Jr.step hj) rU (jU hr (gb pd)) (hy.keep uR zg) ?_⟩
   rw[gW _ _ pd,← sO uR hy zg]
   exact hK
theorem AU {ops:Array Oper} {K0:S→Prop} {m:Nat} (Qf:sX ops m=true) (Jl:m+1=ops.size):∀ (ks:List Nat) (listed:Array Bool) (s:S),listed.size=ops.size→DC ops listed→(∀ k∈ks,∃ o,ops[k]?=some o∧lJ tr o=false)→
 kE tr ops ks listed=some (oL m ops.size)→eW P G tr ops (j5 ops ks) s K0→yU P G tr ops (oL m ops.size) K0 ks.length listed s
 |[],listed,s,_,_,_,hB,h=>by simp only[kE,ao] at hB;exact⟨hB,h⟩
 |k::r,listed,s,dZ,Jr,hA,hB,h=>by
  obtain⟨o,ho,xF⟩:=hA k (aW ..)
  unfold kE at hB
  split at hB
  ·rename_i hc
   simp only[aI] at hc
   obtain⟨hr,hf⟩:=hc
   have hr':k∈Region.ready .any ops listed:=by simpa using hr
   simp only[j5,fa,ho,eW] at h
   obtain⟨e,he,hK⟩:=fX (K:=fun s'=>eW P G tr ops (j5 ops r) s' K0) xF h
   exact EX Qf Jl ho r.length listed s dZ Jr (kX ho hf) hr' he
    (AU Qf Jl r _ _ (by rw[dp];exact dZ) (Jr.step hr') (fun k hk=>hA k (aR _ hk)) hB hK)
  ·cases hB
theorem EY {id:Nat} {ops:Array Oper} (hm:P.follows .mixedOrders=true) (dC:jV n ops=true) {KP:Value→S→Prop} (BP:∀ v s a w,KP v s→SE G n I0 M w0 s a w→Q (.panic [{ v:=v,recovered:=false }]) a w)
 (h:Sj P G tr ops s KP) (cE:SE G n I0 M w0 s a w):(Code.region id ops true).wp P Q a w:=by
 refine wp_region_any hm ?_
 obtain⟨stop,os,Cq,Gg,hv⟩:=h
 unfold Si at Gg
 simp only[aI,aU,ew,bj,kC] at Gg
 obtain⟨⟨⟨⟨⟨dZ,hA⟩,Cr⟩,vX⟩,Qf⟩,Lx⟩:=Gg
 simp only[Cq,bO,bU,Option.isNone_iff_eq_none] at Cr
 have nz:SE G n I0 M w0 s a { w with drawn:=w.drawn+1 }:=by
  obtain⟨I,β,ob,hst⟩:=cE
  exact⟨I,β,ob,hst.drew⟩
 have Jf:j5 ops (List.range stop)=ops.toList.take stop:=by
  rw[ey,pp 0 _ (by omega)];rfl
 rw[← Jf] at hv
 have VW:∀ k∈List.range stop,∃ o,ops[k]?=some o∧lJ tr o=false:=fun k hk=>by
  have hk:=cQ.1 hk
  have bB:k<ops.size:=by omega
  refine⟨ops[k],aA bB,hA _ ?_⟩
  rw[gw]
  exact⟨k,by rw[bN];omega,by simp⟩
 have h3:=AU Qf dZ (List.range stop) (Array.replicate ops.size false) s (by simp) (fun k o ho hk=>by exfalso;simp only[ap,Array.getElem?_replicate] at hk;split at hk<;>cases hk) VW vX hv
 have h4:=sR (Q:=Q) (r:=1) dC (fun a w s hs cE=>?_) _ _ _ _ _ h3 nz
 ·rw[jL,lE,dZ] at h4
  exact h4
 ·refine⟨fun h0=>(by rw[Lx] at h0;cases h0),fun i hi=>?_⟩
  rw[Lx,aP] at hi
  subst hi
  obtain⟨I,β,ob,hst⟩:=cE
  unfold wpOp
  simp only[Cq]
  rw[if_pos (by simp[Region.wanted,Cr])]
  exact .inl (sY BP hst hs)
theorem EZ {Q:Nat} {ops:Array Oper} {i:Nat}:(unA Q ops)[i]?=(ops[i]?).map (unO Q):=by unfold unA;simp
theorem OL {Q:Nat} {o:Oper}:(unO Q o).after=o.after:=by unfold unO;split<;>rfl
theorem Me {Q:Nat} {o:Oper}:(unO Q o).dst=o.dst:=by unfold unO;split<;>rfl
theorem OM {Q:Nat} {o:Oper}:(unO Q o).guard=o.guard:=by unfold unO;split<;>rfl
theorem CY {Q:Nat} {ops:Array Oper} {listed:Array Bool}:Region.ready .any (unA Q ops) listed=Region.ready .any ops listed:=by
 unfold Region.ready
 have e:(unA Q ops).size=ops.size:=by unfold unA;simp
 rw[e]
 congr 1
 funext j
 rw[EZ]
 cases ops[j]? with
 |none=>rfl
 |some o=>simp only[bO,OL]
theorem Sm {Q:Nat} {ops:Array Oper} {o:Oper} {s:S}:uK (unA Q ops) (unO Q o) s=uK ops o s:=by
 unfold uK
 rw[OM]
 cases o.guard with
 |none=>rfl
 |some g=>
  obtain⟨j,want⟩:=g
  simp only
  have e:((unA Q ops)[j]?).bind (·.dst)=(ops[j]?).bind (·.dst):=by
   rw[EZ]
   cases ops[j]? with
   |none=>rfl
   |some o=>simp only[bO,fP,Me]
  rw[e]
theorem So (hst:St G n I0 M w0 I β ob s a w) (hd:∀ d,o.dst=some d→d<n) {T:TypeId} (cm:o.op=.alloc T) {i:TI} (hi:ti P T=some i) (hz0:i.zero.isSome=true) (hk:∀ a' w',SE G n I0 M w0 (s.put o.dst .un) a' w'→next a' w'):o.wp P a w next Q:=by
 obtain⟨z,VV⟩:=Option.isSome_iff_exists.1 hz0
 obtain⟨j,d,h1,h2,_,_,_,_,hz,_⟩:=bw hi
 rw[VV] at hz
 split at hz
 ·rename_i zv sh
  refine eF (v':=.pointer (some ⟨w.heap.size,0,none⟩)) (w':=w.alloc (.cells zv.cells T)) ?_ (hk _ _ (SE.put (hst.allocOwn _) hd (by simp only[LR];exact .un _)))
  have bA:(Instr.alloc T true (.tuple #[])).run P w=.ok (.pointer (some ⟨w.heap.size,0,none⟩)) (w.alloc (.cells zv.cells T)):=by
   simp[Instr.alloc,zeroValue,typeInfo,h1,sh,newVar,newRow]
  obtain⟨dst,op,type,pos,after,guard⟩:=o
  simp only at cm
  subst cm
  simp only[execOp,aJ,bA,aw,bi]
 ·cases hz
theorem vA {ops:Array Oper} {md:Region.Mode} {stop:Nat} {C C':S→Prop} (h:∀ s,C s→C' s):∀ (fuel:Nat) (listed:Array Bool) (s:S),pw P G tr md ops stop C fuel listed s→pw P G tr md ops stop C' fuel listed s
 |0,_,_,h0=>h0.elim
 |fuel+1,listed,s,h0=>by
  refine⟨h0.1,fun i hi=>?_⟩
  rcases h0.2 i hi with h1 | ⟨h1,h2⟩
  ·left
   unfold pn at h1 ⊢
   split
   ·rename_i ho;simp only[ho] at h1;exact vA h fuel _ _ h1
   ·rename_i o ho
    simp only[ho] at h1
    obtain⟨e,he,h3⟩:=h1
    exact⟨e,he,vA h fuel _ _ h3⟩
  ·exact .inr ⟨h1,h _ h2⟩
theorem ON {ops:Array Oper} {stop:Nat} {A:List Nat} (h:HD ops stop A=true) {listed:Array Bool} (Jr:DC ops listed) (hr:stop∈Region.ready .any ops listed):∀ (m k:Nat),ops.size - k≤m→k∈A→listed.getD k false=true:=by
 intro m
 induction m with
 |zero=>
  intro k hm hk
  unfold HD at h
  obtain⟨j,hj,h2⟩:=dt.1 (aU.1 h k hk)
  simp only[aI,bj] at h2
  have:=cQ.1 hj
  omega
 |succ m ih=>
  intro k hm hk
  have h0:=h
  unfold HD at h0
  obtain⟨j,hj,h2⟩:=dt.1 (aU.1 h0 k hk)
  simp only[aI,bj,dM] at h2
  obtain⟨⟨hkj,hjs⟩,h3⟩:=h2
  have akx:=cQ.1 hj
  cases ho:ops[j]? with
  |none=>simp[ho] at h3
  |some o=>
   simp only[ho,bO,bU] at h3
   rw[Array.any_eq_true'] at h3
   obtain⟨e,he,h4⟩:=h3
   simp only[aI,kC] at h4
   rcases hjs with hjs | hjA
   ·subst hjs
    obtain⟨_,oj,uF,dh⟩:=iH.1 hr
    rw[ho] at uF;cases uF
    have:=dh e he h4.1
    rw[h4.2] at this;exact this
   ·have h5:=ih j (by omega) (by simpa using hjA)
    have:=Jr j o ho h5 e he h4.1
    rw[h4.2] at this;exact this
theorem E0 {ops:Array Oper} {stop:Nat} {C:S→Prop} {i:Nat} {oi:Oper} {e:Ef} (hi:ops[i]?=some oi) (hns:∀ listed,DC ops listed→listed.getD i true=false→stop∉Region.ready .any ops listed) :
 ∀ (fuel:Nat) (listed:Array Bool) (s:S),DC ops listed→FreeAt tr .any ops listed i oi→
  i∈Region.ready .any ops listed→TEf P G tr ops oi s e→
  pw P G tr .any ops stop C fuel (listed.setIfInBounds i true) (e.run tr oi s)→pw P G tr .any ops stop C (fuel+1) listed s:=by
 intro fuel
 induction fuel with
 |zero=>intro listed s _ _ _ _ H;exact H.elim
 |succ fuel ih=>
  intro listed s Jr sq hr hy H
  refine⟨fun h=>(by rw[h] at hr;cases hr),fun j hj=>?_⟩
  by_cases pd:j=i
  ·subst pd;left;unfold pn;simp only[hi];exact⟨e,hy,H⟩
  ·rcases H.2 j (jU hj pd) with h1 | ⟨h1,h2⟩
   ·left
    obtain⟨_,oj,uF,_⟩:=iH.1 hj
    obtain⟨uR,rU⟩:=sq.step hr hj pd uF
    unfold pn at h1 ⊢
    simp only[uF] at h1 ⊢
    obtain⟨f,hf,hK⟩:=h1
    have zg:=hy.back uR hf
    refine⟨f,zg,ih (listed.setIfInBounds j true) _ (Jr.step hj) rU (jU hr (gb pd)) (hy.keep uR zg) ?_⟩
    rw[gW _ _ pd,← sO uR hy zg]
    exact hK
   ·exfalso
    subst h1
    exact hns listed Jr (iH.1 hr).1 hj
theorem AV {ops:Array Oper} {stop:Nat} {C:S→Prop} {A:List Nat} (Y6:HD ops stop A=true) {K:S→Prop} (m:Nat) (kz:Array Bool) (VF:∀ s1,K s1→pw P G tr .any ops stop C m kz s1):∀ (ks:List Nat) (listed:Array Bool) (s:S),DC ops listed→(∀ k∈ks,k∈A∧∃ o,ops[k]?=some o∧lJ tr o=false)→
 kE tr ops ks listed=some kz→eW P G tr ops (j5 ops ks) s K→pw P G tr .any ops stop C (m+ks.length) listed s
 |[],listed,s,_,_,hB,h=>by simp only[kE,ao] at hB;subst hB;exact VF _ h
 |k::r,listed,s,Jr,hA,hB,h=>by
  obtain⟨hkA,o,ho,xF⟩:=hA k (aW ..)
  unfold kE at hB
  split at hB
  ·rename_i hcd
   simp only[aI] at hcd
   obtain⟨hr,hf⟩:=hcd
   have hr':k∈Region.ready .any ops listed:=by simpa using hr
   simp only[j5,fa,ho,eW] at h
   obtain⟨e,he,hK⟩:=fX (K:=fun s'=>eW P G tr ops (j5 ops r) s' K) xF h
   refine E0 ho (fun l Jr hl hs=>?_) (m+r.length) listed s Jr (kX ho hf) hr' he
    (AV Y6 m kz VF r _ _ (Jr.step hr') (fun k hk=>hA k (aR _ hk)) hB hK)
   have h1:=ON Y6 Jr hs _ k (ae _) hkA
   rw[ap] at h1 hl
   cases VZ:l[k]? with
   |none=>rw[VZ] at h1;cases h1
   |some b=>rw[VZ] at h1 hl;simp only[bU] at h1 hl;rw[h1] at hl;cases hl
  ·cases hB
theorem AW {ops:Array Oper} {stop:Nat} {C:S→Prop} {B:List Nat} (m:Nat) (kz:Array Bool) (VK:∀ k o s e,k∈B→ops[k]?=some o→TEf P G tr ops o s e→∀ s',(C (e.run tr o s')↔C s'))
 (VF:∀ s',C s'→pw P G tr .any ops stop C m kz s'):∀ (ks:List Nat) (listed:Array Bool) (s:S),(∀ k∈ks,k∈B∧∃ o,ops[k]?=some o∧lJ tr o=false)→
 kE tr ops ks listed=some kz→eW P G tr ops (j5 ops ks) s (fun _=>True)→C s→pw P G tr .any ops stop C (m+ks.length) listed s
 |[],listed,s,_,hB,_,hc=>by simp only[kE,ao] at hB;subst hB;exact VF _ hc
 |k::r,listed,s,hA,hB,h,hc=>by
  obtain⟨Y7,o,ho,xF⟩:=hA k (aW ..)
  unfold kE at hB
  split at hB
  ·rename_i hcd
   simp only[aI] at hcd
   obtain⟨hr,hf⟩:=hcd
   simp only[j5,fa,ho,eW] at h
   obtain⟨e,he,hK⟩:=fX (K:=fun s'=>eW P G tr ops (j5 ops r) s' fun _=>True) xF h
   exact y2 ho (fun s'=>(VK k o s e Y7 ho he s').1) (m+r.length) listed s (kX ho hf) (by simpa using hr) he
    (AW m kz VK VF r _ _ (fun k hk=>hA k (aR _ hk)) hB hK ((VK k o s e Y7 ho he s).2 hc))
  ·cases hB
theorem mQ {ops:Array Oper} {stop Q0:Nat} {C:S→Prop} {os:Oper} (Cq:ops[stop]?=some os) (Cr:os.guard=none) (dC:jV n ops=true) (Qj:HC P ops=true) (tW:∀ o∈(unA Q0 ops).toList,Q0∉wr tr o)
 (hC:∀ s I β ob a w next,C s→St G n I0 M w0 I β ob s a w→os.wp P a w next Q):∀ (fuel:Nat) (listed:Array Bool) (s:S) (a:Act) (w:World),s.fr Q0=.un→
 pw P G tr .any (unA Q0 ops) stop C fuel listed s→SE G n I0 M w0 s a w→wpAny P .any ops Q fuel listed a w
 |0,_,_,_,_,_,h,_=>h.elim
 |fuel+1,listed,s,a,w,hQ,h,cE=>by
  refine⟨fun h0=>absurd (by rw[CY];exact h0) h.1,fun i hi=>?_⟩
  have hh:=h.2 i (by rw[CY];exact hi)
  rcases hh with hh | ⟨rfl,hh⟩
  ·unfold pn at hh
   unfold wpOp
   rw[EZ] at hh
   split
   ·rename_i ho;simp only[ho,jv] at hh;exact mQ Cq Cr dC Qj tW hC fuel _ s a w hQ hh cE
   ·rename_i o ho
    simp only[ho,bO] at hh
    obtain⟨e,he,hh⟩:=hh
    have jS:o∈ops.toList:=by
     have:=dz ho
     simpa using this
    have afV:unO Q0 o∈(unA Q0 ops).toList:=by
     unfold unA
     exact List.mem_map_of_mem jS
    have Qi:(e.run tr (unO Q0 o) s).fr Q0=.un:=by
     rw[sN]
     simp only
     rw[fM (tW _ afV)];exact hQ
    obtain⟨I,β,ob,hst⟩:=cE
    unfold TEf at he
    rw[Sm] at he
    rcases he with⟨hg,hv,_⟩ | ⟨hg,rfl⟩
    ·rw[if_pos (kj hst hg)]
     left
     by_cases ha:∃ T,o.op=.alloc T
     ·obtain⟨T,hT⟩:=ha
      have h1:=aU.1 Qj o jS
      rw[hT] at h1
      simp only[aI] at h1
      have hu:unO Q0 o={ o with op:=.move (.tmp Q0) }:=by unfold unO;rw[hT]
      cases hti:ti P T with
      |none=>rw[hti] at h1;cases h1.2
      |some ii=>
       rw[hti] at h1
       have vZ:e.run tr (unO Q0 o) s=s.put o.dst .un:=by
        rw[hu] at hv ⊢
        unfold VEf at hv
        simp only[VYK,ev,hQ,V.fz] at hv
        obtain⟨v,rfl,hv⟩:=hv
        have hv':v=.un:=by split at hv<;>exact hv
        subst hv'
        rw[wz]
        unfold S.after S.use
        have:∀ t,bV tr { o with op:=.move (.tmp Q0) }=some t→t=Q0:=fun t ht=>by
         unfold bV at ht
         simp only at ht
         split at ht
         ·exact(cN ht).symm
         ·cases ht
        cases hc:bV tr { o with op:=.move (.tmp Q0) } with
        |none=>rfl
        |some t=>rw[this t hc];simp[hQ,V.isOw]
       rw[vZ] at hh Qi
       exact So hst (fb dC jS) hT hti h1.2 fun a' w' nz=>mQ Cq Cr dC Qj tW hC fuel _ _ a' w' Qi hh nz
     ·have hu:unO Q0 o=o:=by
       unfold unO
       split
       ·rename_i T hT;exact absurd ⟨T,hT⟩ ha
       ·rfl
      rw[hu] at hv hh Qi
      exact ub hst (fb dC jS) hv fun a' w' nz=>mQ Cq Cr dC Qj tW hC fuel _ _ a' w' Qi hh nz
    ·rw[kj hst hg]
     simp only[aM,dy]
     rw[sM] at hh Qi
     rw[Me] at hh Qi
     exact mQ Cq Cr dC Qj tW hC fuel _ _ _ w Qi hh (SE.put hst (fb dC jS) (by simp only[LR];exact .sk))
  ·obtain⟨I,β,ob,hst⟩:=cE
   unfold wpOp
   simp only[Cq]
   rw[if_pos (by simp[Region.wanted,Cr])]
   exact .inl (hC _ _ _ _ _ _ _ hh hst)
theorem E1 {id:Nat} {ops:Array Oper} (hm:P.follows .mixedOrders=true) (dC:jV n ops=true) {KP:Value→S→Prop} (BP:∀ v s a w,KP v s→SE G n I0 M w0 s a w→Q (.panic [{ v:=v,recovered:=false }]) a w)
 (h:Sl P G tr ops s KP) (cE:SE G n I0 M w0 s a w):(Code.region id ops true).wp P Q a w:=by
 refine wp_region_any hm ?_
 obtain⟨Q0,stop,A,B,os,Cq,Gg,hQ,hv⟩:=h
 unfold Sk at Gg
 simp only[aI,bj] at Gg
 obtain⟨⟨⟨⟨⟨⟨⟨xF,hBq⟩,Cr⟩,Qj⟩,Y6⟩,tW⟩,cu⟩,vX⟩:=Gg
 simp only[Cq,bO,bU,Option.isNone_iff_eq_none] at Cr
 have nz:SE G n I0 M w0 s a { w with drawn:=w.drawn+1 }:=by
  obtain⟨I,β,ob,hst⟩:=cE
  exact⟨I,β,ob,hst.drew⟩
 have afW:∀ k∈A++B,∃ o,(unA Q0 ops)[k]?=some o∧lJ tr o=false:=fun k hk=>by
  have:=aU.1 xF k hk
  cases ho:(unA Q0 ops)[k]? with
  |none=>simp[ho] at this
  |some o=>simp[ho] at this;exact⟨o,rfl,this⟩
 split at vX
 ·rename_i l1 hl1
  split at vX
  ·rename_i l2 Z4
   have Lx:Region.ready .any (unA Q0 ops) l2=[stop]:=by simpa using vX
   obtain⟨q,hq⟩:∃ q,ops.size - A.length - B.length=q+1:=⟨ops.size - A.length - B.length - 1,by omega⟩
   have key:=AV (P:=P) (G:=G) (C:=fun s'=>rZ P G s' os KP) Y6 (q+1+B.length) l1 (fun s1 h1=>?_) A (Array.replicate ops.size false) s (fun k o ho hk=>by exfalso;simp only[ap,Array.getElem?_replicate] at hk;split at hk<;>cases hk)
    (fun k hk=>⟨hk,afW k (eu _ hk)⟩) hl1 hv
   ·have e:q+1+B.length+A.length=ops.size:=by omega
    rw[e] at key
    exact mQ Cq Cr dC Qj (fun o ho=>by simpa using aU.1 tW o ho) (fun s' I β ob a w next hc hst=>sY BP hst hc) _ _ _ _ _ hQ key nz
   ·obtain⟨hvB,adr⟩:=h1
    let C1:S→Prop:=fun s'=>(∀ t,t∉(j5 (unA Q0 ops) B).flatMap (wr tr)→s'.fr t=s1.fr t)∧s'.bx=s1.bx∧s'.nb=s1.nb
    refine vA (C:=C1) (fun s' xx=>?_) _ _ _ (AW (q+1) l2 (fun k o s2 e hk ho he s'=>?_) (fun s' hc=>?_) B l1 s1 (fun k hk=>⟨hk,afW k (List.mem_append_right _ hk)⟩) Z4 hvB ⟨fun _ _=>rfl,rfl,rfl⟩)
    ·obtain⟨h1,h2,h3⟩:=xx
     obtain⟨fr,bx,nb⟩:=s'
     simp only at h1 h2 h3
     subst h2 h3
     exact adr fr h1
    ·have hm2:dF tr o≠2:=by
      have:=aU.1 hBq k hk
      simp[ho] at this;exact this
     obtain⟨q1,q2,_⟩:=mq (uc he hm2) s'.bx s'.nb 0
     have hw:∀ t,t∉(j5 (unA Q0 ops) B).flatMap (wr tr)→t∉wr tr o:=fun t ht hto=>ht (List.mem_flatMap.2 ⟨o,List.mem_filterMap.2 ⟨k,hk,ho⟩,hto⟩)
     show((∀ t,t∉(j5 (unA Q0 ops) B).flatMap (wr tr)→(e.run tr o s').fr t=s1.fr t)∧(e.run tr o s').bx=s1.bx∧(e.run tr o s').nb=s1.nb)↔_
     rw[sN]
     simp only[q1,q2]
     constructor
     ·rintro⟨h1,h2⟩
      exact⟨fun t ht=>by have:=h1 t ht;rw[fM (hw t ht)] at this;exact this,h2⟩
     ·rintro⟨h1,h2⟩
      exact⟨fun t ht=>by rw[fM (hw t ht)];exact h1 t ht,h2⟩
    ·exact⟨by rw[Lx];simp,fun i hi=>by
      rw[Lx] at hi
      simp only[aP] at hi
      exact .inr ⟨hi,hc⟩⟩
  ·cases vX
 ·cases vX
theorem HE {id:Nat} {ops:Array Oper} (hm:P.follows .mixedOrders=true) (dC:jV n ops=true) {KP:Value→S→Prop} (BP:∀ v s a w,KP v s→SE G n I0 M w0 s a w→Q (.panic [{ v:=v,recovered:=false }]) a w)
 (h:CW P G tr ops s KP) (cE:SE G n I0 M w0 s a w):(Code.region id ops true).wp P Q a w:=by
 rcases h with h | h | h
 ·exact EW hm dC BP h cE
 ·exact EY hm dC BP h cE
 ·exact E1 hm dC BP h cE
theorem vB {k0:Nat} (uG:uI tr=false) (hm:P.follows .mixedOrders=true) (qC:∀ i b,M.e i=some b→i<k0) (KP:Value→S→Prop) (Q:Exit→Act→World→Prop) (BP:∀ v s a w,KP v s→SE G n I0 M w0 s a w→Q (.panic [{ v:=v,recovered:=false }]) a w) :
 ∀ (c:Code) (_hc:pX n tr c=true) (q:VE→S→Prop) (R:Exit→Act→World→Prop) (_hQ:∀ e s a w,q e s→SE G n I0 M w0 s a w→R e.ex a w) (_hR:∀ ch a w,Q (.panic ch) a w→R (.panic ch) a w) (s:S) (a:Act) (w:World),
 rB P G tr k0 KP c q s→SE G n I0 M w0 s a w→c.wp P R a w:=by
 intro c
 induction c with
 |region id ops draw=>
  intro hc q R hQ hR s a w h cE
  simp only[rB] at h
  simp only[pX] at hc
  by_cases hp:OI tr id=true
  ·rw[if_pos hp] at h hc
   simp only[aI,dM,ew] at hc
   obtain⟨⟨hd,hny⟩,vh⟩:=hc
   obtain⟨s,h,cE⟩:=CO hd h cE
   cases draw with
   |true=>
    simp only[cL] at h
    rcases h with h | h
    ·have Y5:=vh.resolve_left (by simp)
     unfold vtw at h
     by_cases htw:NA tr id=true
     ·rw[if_pos htw] at h Y5
      exact x9 hm hd Y5 (fun a w s hk cE=>hQ .normal s a w hk cE) h cE
     ·rw[if_neg htw] at h Y5
      exact wF hm hd Y5 (fun a w s hk cE=>hQ .normal s a w hk cE) h cE
    ·exact HE hm hd (fun v s a w hk cE=>hR _ _ _ (BP v s a w hk cE)) h cE
   |false=>
   simp only[aM,dy] at h
   refine wp_region ?_
   have:=vz (Q:=R) hd hny (fun a w s hk cE=>hQ .normal s a w hk cE) (fun v s a w hk cE=>hR _ _ _ (BP v s a w hk cE)) ops.toList 0 rfl s a w h cE
   rw[ey]
   simpa using this
  ·rw[if_neg hp] at h hc
   exact vr hm qC uG _ hc q R hQ s a w h cE
 |seq x y ihx ihy=>
  intro hc q R hQ hR s a w h cE
  simp only[pX,aI] at hc
  simp only[rB] at h
  refine wp_seq (ihx hc.1 _ _ (fun e s a w hk cE=>?_) (fun ch a w h=>?_) s a w h cE)
  rotate_left
  ·exact hR ch a w h
  cases e with
  |normal=>exact ihy hc.2 q R hQ hR s a w hk cE
  |exit i=>exact hQ (.exit i) s a w hk cE
  |ret=>exact hQ .ret s a w hk cE
 |cond c x y ihx ihy=>
  intro hc q R hQ hR s a w h cE
  simp only[pX,aI] at hc
  simp only[rB] at h
  split at h
  ·rename_i p hp
   obtain⟨I,β,ob,hst⟩:=cE
   have Vw:a.eval c=.bool p:=by have:=bF hst c;rw[hp] at this;exact this.lit
   have Gj:refine s c p=s:=by
    cases c with
    |tmp t=>simp only[refine];simp only[ev] at hp;exact S.up_id hp
    |_=>rfl
   refine wp_cond_split Vw (fun ht=>?_) (fun hf=>?_)
   ·have:=h.1 ht
    rw[ht] at Gj
    rw[Gj] at this
    exact ihx hc.1 q R hQ hR s a w this ⟨I,β,ob,hst⟩
   ·have:=h.2 hf
    rw[hf] at Gj
    rw[Gj] at this
    exact ihy hc.2 q R hQ hR s a w this ⟨I,β,ob,hst⟩
  ·exact h.elim
 |block id body ih=>
  intro hc q R hQ hR s a w h cE
  simp only[pX] at hc
  simp only[rB] at h
  refine wp_block (ih hc _ _ (fun e s a w hk cE=>?_) (fun ch a w h=>?_) s a w h cE)
  rotate_left
  ·exact hR ch a w h
  cases e with
  |normal=>exact hQ .normal s a w hk cE
  |exit i=>
   simp only[VE.ex,Exit.inBlock] at hk ⊢
   split
   ·rename_i e;rw[if_pos e] at hk;exact hQ .normal s a w hk cE
   ·rename_i e;rw[if_neg e] at hk;exact hQ (.exit i) s a w hk cE
  |ret=>exact hQ .ret s a w hk cE
 |loop body ih=>
  intro hc q R hQ hR s a w h cE
  simp only[pX] at hc
  simp only[rB] at h
  obtain⟨k,h⟩:=h
  refine wp_loop_rounds k ?_
  induction k generalizing s a w with
  |zero=>exact h.elim
  |succ k ihk=>
   simp only[t7] at h
   obtain⟨s',fy,h⟩:=h
   rw[rounds_succ]
   refine ih hc _ _ (fun e s a w hk cE=>?_) (fun ch a w h=>?_) s' a w h (by rcases fy with rfl | fy;exact cE;exact cE.weaken qC fy)
   rotate_left
   ·exact hR ch a w h
   cases e with
   |normal=>exact ihk s a w cE hk
   |exit i=>exact hQ (.exit i) s a w hk cE
   |ret=>exact hQ .ret s a w hk cE
 |scope body ih=>
  intro hc q R hQ hR s a w h cE
  simp only[pX] at hc
  simp only[rB] at h
  refine wp_scope_straight (ih hc _ _ (fun e s a w hk cE=>?_) (fun ch a w h=>?_) s a w h cE)
  rotate_left
  ·exact hR ch a w h
  cases e with
  |normal=>exact hQ .normal s a w hk cE
  |exit i=>exact hQ (.exit i) s a w hk cE
  |ret=>exact hQ .ret s a w hk cE
 |rangeFunc f ps assign body=>intro _ q R hQ _ s a w h cE;simp only[rB,gR] at h;have:=h.1;rw[uG] at this;cases this
 |_=>intro _ q R hQ _ s a w h cE;exact vr hm qC uG _ (n:=n) (tr:=tr) (by simp[cok]) q R hQ s a w h cE
def Xd (k:Nat) (pv:Value) (b1:List (List V)) (v:Value) (s:S):Prop:=v=pv∧∃ l,S.Le k (hdS l b1) s
theorem Xe {f:FuncId} {fn:Func} {c:Code} {args:List V} {b0 b1:List (List V)} {pv:Value} (tr:List Nat) (hm:P.follows .mixedOrders=true) (hf:P.funcs[f]?=some fn) (hb:fn.body=some c)
 (gQ:(fn.name== "runtime.NumGoroutine")=false) (hn:args.length≤fn.ntmps) (pQ:pX fn.ntmps tr c=true)
 (VJ:(∀ x∈args,x.lt b0.length)∧(∀ b∈b0,∀ x∈b,x.lt b0.length)∧b0.length≤b1.length)
 (h:rB P G tr b0.length (Xd b0.length pv b1) c (fun _ _=>False) ⟨fun j=>args.getD j .un,bxs b0,b0.length⟩) (uG:uI tr=false:=by rfl):FnX P G f args b0 pv b1:=by
 refine⟨⟨fn,hf,gQ,c,hb⟩,VJ,fun I M w vs β ob hI hg hB dZ ha=>?_⟩
 have gP:fn.ntmps=(vs++Array.replicate (fn.ntmps - vs.size) undef).size:=by simp;omega
 have hst:=St.initB (n:=fn.ntmps) hI hg hB dZ ha gP
 have pS:∀ i b,β i=some b→i<b0.length:=fun i b hi=>by
  by_cases h:i<b0.length
  ·exact h
  ·rw[hB.bnone i (by omega)] at hi;cases hi
 refine calls_of_wp hf hb (vB uG hm (fun i b hi=>pS i b hi) _ _ (fun v s a w' hq cE=>?_) c pQ _ _ (fun e s a w' hq cE=>hq.elim) (fun _ _ _ h=>h) _ _ _ h ⟨_,_,_,hst⟩)
 obtain⟨rfl,l,fy⟩:=hq
 obtain⟨I',β',ob',bL⟩:=cE.weaken (fun i b hi=>pS i b hi) fy
 refine⟨bL.defers,I',β',fun i j=>if i<b1.length then ob' (.b i j) else none,rfl,⟨bL.below.os,bL.below.tape,bL.below.output,bL.below.size,bL.below.block,bL.below.drawn⟩,bL.ilow,fun b o xG=>?_,bL.kept,fun i hi=>?_,fun i b hi hb=>?_,?_⟩
 ·rcases bL.ihigh b o xG with h4 | h4
  ·exact .inl h4
  ·exact .inr ⟨h4,bL.ibnd b o xG⟩
 ·obtain⟨blk,_,e1,_⟩:=hB.bx i _ (aj hi)
  rw[e1];exact bL.ext i blk e1
 ·rcases bL.bnew i b hb with h4 | h4
  ·have:=pS i b h4;omega
  ·exact h4
 ·exact {
   bx:=fun i cs iR=>by
    have hi:i<b1.length:=(ak.1 iR).1
    obtain⟨blk,cur,e1,e2,e3,e4,e5,e7⟩:=bL.bx i hi
    have e:bxs b1 i=cs:=by simp[bxs,List.getD,iR]
    refine⟨blk,cur,e1,e2,by simp only[hdS,e] at e3;exact e3,by simp only[hdS,e] at e4;exact e4,fun j=>?_,e7⟩
    have:=e5 j
    simp only[hdS,e] at this
    rw[if_pos hi];exact this
   bnone:=fun i hi=>bL.bnone i hi
   binj:=bL.binj
   oinj:=fun i j i' j' b h h'=>by
    split at h<;>try cases h
    split at h'<;>try cases h'
    have:=bL.oinj _ _ b h h'
    simp only[Loc.b.injEq] at this;exact this
   obx:=fun i j b k h=>by
    split at h<;>try cases h
    exact bL.obx _ b k h
   obnd:=fun i j b h=>by
    split at h<;>try cases h
    exact bL.obnd _ b h
   olen:=fun i j hi=>by rw[if_neg (by omega)] }
def Wts (P:Program) (caps:Array Value):List (Nat×TypeId×Value)→World→World→Prop
 |[],w,w'=>w'=w
 |(i,T,z)::l,w,w'=>∃ w1,(Instr.storeAt T (caps.getD i undef) z).run P w=.ok () w1∧Wts P caps l w1 w'
def aeg (P:Program) (g:FuncId) (k:Nat) (v:Value) (l:List (Nat×TypeId×Value)):Prop:=∀ (caps:Array Value) (w w':World),caps.size=k→Wts P caps l w w'→
 CallsD P g caps (.panicking [{ v:=v,recovered:=false }]) w fun e u' w''=>(∃ x,e=.returned x)∧u'=.panicking [{ v:=v,recovered:=true }]∧w''=w'
def aaT (P:Program) (G:Gl) (tr:List Nat) (d:Tmp) (cs:List V) (K:S→Prop):List (Tmp×Nat×TypeId×Value×V)→S→Prop
 |[],s=>K s
 |(p,i,T,z,x)::l,s=>(p≠d∧(∃ j off,s.fr p=.bp j off∧cs[i]?=some (.bp j off))∧∀ I w,DR I w z x)∧
   VStep P G tr ⟨none,.store T (.tmp p) (.tmp d),T, "",#[],none⟩ (s.put (some d) x) (fun s'=>aaT P G tr d cs K l (s'.put (some d) .un))
theorem Sp {d:Tmp} {z:Value} (h:d<a.tmps.size):(a.put (some d) z).put (some d) (a.tmps.getD d undef)=a:=by
 have:(a.tmps.set! d z).set! d (a.tmps.getD d undef)=a.tmps:=by
  apply jw
  ·simp[bH]
  ·intro i h1 h2
   simp only[bH,Array.setIfInBounds_setIfInBounds,ff h2]
   split
   ·rename_i e;subst e;simp[Array.getD,h2]
   ·rfl
 show(⟨(a.tmps.set! d z).set! d (a.tmps.getD d undef),a.defers⟩:Act)=a
 rw[this]
theorem Sq {p d:Tmp} {T:TypeId} {z:Value} {x:V} {K:S→Prop} (hst:St G n I0 M w0 I β ob s a w) (hd:d<n) (hp:p≠d) (hz:∀ I w,DR I w z x)
 (h:VStep P G tr ⟨none,.store T (.tmp p) (.tmp d),T, "",#[],none⟩ (s.put (some d) x) K):∃ w1 s1,(Instr.storeAt T (a.tmps.getD p undef) z).run P w=.ok () w1∧K s1∧SE G n I0 M w0 (s1.put (some d) .un) a w1:=by
 have cE:SE G n I0 M w0 (s.put (some d) x) (a.put (some d) z) w:=SE.put hst (dst:=some d) (fun d' h'=>by cases h';exact hd) (.ofDR (hz I w))
 obtain⟨I1,β1,ob1,mf⟩:=cE
 have dZ:d<a.tmps.size:=by rw[hst.size];exact hd
 have e1:(a.put (some d) z).eval (.tmp p)=a.tmps.getD p undef:=by
  show(a.tmps.set! d z).getD p undef=_
  simp[ap,bH,iQ,gb hp]
 have e2:(a.put (some d) z).eval (.tmp d)=z:=wJ dZ
 have hw:=nQ (tr:=tr) (next:=fun a' w'=>a'=a.put (some d) z→∃ s1,K s1∧SE G n I0 M w0 s1 (a.put (some d) z) w') (Q:=fun _ _ _=>False) mf (fun d' h'=>by cases h') rfl h (fun a' w' s' hk cE e=>⟨s',hk,e▸cE⟩)
 unfold Oper.wp at hw
 have hx:(execOp (a.put (some d) z).eval ⟨none,.store T (.tmp p) (.tmp d),T, "",#[],none⟩)=(do Instr.storeAt T (a.tmps.getD p undef) z;pure .skip):=by
  unfold execOp
  simp only[e1,e2]
 rw[hx] at hw
 simp only[aJ] at hw
 cases hr:(Instr.storeAt T (a.tmps.getD p undef) z).run P w with
 |halt h' w'=>
  rw[hr] at hw
  simp only[Result.andThen] at hw
  cases h'<;>simp only[Oper.upon] at hw
 |ok u w1=>
  rw[hr] at hw
  have hw:(a.put (some d) z).put none undef=a.put (some d) z→∃ s1,K s1∧SE G n I0 M w0 s1 (a.put (some d) z) w1:=hw
  obtain⟨s1,hk,cE⟩:=hw rfl
  refine⟨w1,s1,rfl,hk,?_⟩
  obtain⟨I2,β2,ob2,mg⟩:=cE
  have:=SE.put (v:=a.tmps.getD d undef) mg (dst:=some d) (fun d' h'=>by cases h';exact hd) (x:=.un) (by simp only[LR];exact .un _)
  rw[Sp dZ] at this
  exact this
theorem CZ {d:Tmp} (hd:d<n) {cs:List V} {vc:Array Value} {K:S→Prop}:∀ (l:List (Tmp×Nat×TypeId×Value×V)) (s:S) (w:World),aaT P G tr d cs K l s→SE G n I0 M w0 s a w→
 (∀ I β ob w s p i j off,St G n I0 M w0 I β ob s a w→s.fr p=.bp j off→cs[i]?=some (.bp j off)→a.tmps.getD p undef=vc.getD i undef)→
 ∃ w' s',Wts P vc (l.map fun q=>(q.2.1,q.2.2.1,q.2.2.2.1)) w w'∧K s'∧SE G n I0 M w0 s' a w'
 |[],s,w,h,cE,_=>⟨w,s,rfl,h,cE⟩
 |(p,i,T,z,x)::l,s,w,h,cE,hv=>by
  obtain⟨⟨hp,⟨j,off,hf,hc⟩,hz⟩,h⟩:=h
  obtain⟨I,β,ob,hst⟩:=cE
  obtain⟨w1,s1,bA,hk,aiv⟩:=Sq (z:=z) hst hd hp hz h
  obtain⟨w',s',h1,h2,h3⟩:=CZ hd l _ _ hk aiv hv
  refine⟨w',s',⟨w1,?_,h1⟩,h2,h3⟩
  rw[← hv I β ob w s p i j off hst hf hc];exact bA
section
variable {fr:Nat→V} {bx:Nat→List V} {nb:Nat} {K:S→Prop} {KP:Value→S→Prop} {Q:VE→S→Prop}
def pwp (P:Program) (G:Gl) (tr:List Nat) (KP:Value→S→Prop):Code→(VE→S→Prop)→S→Prop:=rB P G tr (ol tr) KP
def Zp (P:Program) (G:Gl) (tr:List Nat) (KP:Value→S→Prop) (b:Code) (Q:VE→S→Prop) (e:VE) (s:S):Prop:=match e with | .normal=>pwp P G tr KP b Q s | e=>Q e s
def HF (P:Program) (G:Gl) (tr:List Nat) (KP:Value→S→Prop) (v:V) (c:Operand) (x y:Code) (Q:VE→S→Prop) (s:S):Prop:=match v with
 | .c (.lit (.bool p))=>(p=true→pwp P G tr KP x Q (refine s c true))∧(p=false→pwp P G tr KP y Q (refine s c false))
 |_=>False
def OO (P:Program) (G:Gl) (tr:List Nat) (ops:Array Oper) (r:List Oper) (K:S→Prop) (KP:Value→S→Prop) (s:S):Prop:=Ch P G tr ops r s K KP
def ba:Op→Bool
 | .makeInterface _ _=>true
 | .call { callee:=.value _,.. }=>true
 |_=>false
def Sr (P:Program) (G:Gl) (tr:List Nat) (ops:Array Oper) (o:Oper) (r:List Oper) (K:S→Prop) (KP:Value→S→Prop) (s:S):Bool→Prop
 |false=>eW P G tr ops [o] s (OO P G tr ops r K KP)
 |true=>eW P G tr ops [o] s (OO P G tr ops r K KP)∨(o.guard=none∧wI P G s o r KP)
def Xf (P:Program) (G:Gl) (tr:List Nat) (id:Nat) (ops:Array Oper) (K:S→Prop) (KP:Value→S→Prop) (d:Bool) (s:S):Prop:=if d then vtw P G tr id ops s K∨CW P G tr ops s KP else Ch P G tr ops ops.toList s K KP
theorem Xg {id:Nat} {ops:Array Oper} {d:Bool}:Xf P G tr id ops K KP d ⟨fr,bx,nb⟩=if d then(if tr.contains (2800000+id) then Gr P G tr ops ⟨fr,bx,nb⟩ K else eW P G tr ops ops.toList ⟨fr,bx,nb⟩ K)∨CW P G tr ops ⟨fr,bx,nb⟩ KP else Ch P G tr ops ops.toList ⟨fr,bx,nb⟩ K KP:=rfl
theorem HG {i:Nat} {ops:Array Oper} {d:Bool}:pwp P G tr KP (.region i ops d) Q ⟨fr,bx,nb⟩=if OI tr i then(if NC tr i then spl tr i ops ⟨fr,bx,nb⟩ (Xf P G tr i ops (Q .normal) KP d) else Xf P G tr i ops (Q .normal) KP d ⟨fr,bx,nb⟩) else gR P G tr (ol tr) (.region i ops d) Q ⟨fr,bx,nb⟩:=by
 show(if OI tr i then spl tr i ops ⟨fr,bx,nb⟩ (Xf P G tr i ops (Q .normal) KP d) else gR P G tr (ol tr) (.region i ops d) Q ⟨fr,bx,nb⟩)=_
 congr 1
 unfold spl
 split<;>rfl
theorem Xh {i:Nat}:OI tr i=tr.contains (2900000+i):=rfl
theorem Ss {a b:Code}:pwp P G tr KP (.seq a b) Q ⟨fr,bx,nb⟩=pwp P G tr KP a (Zp P G tr KP b Q) ⟨fr,bx,nb⟩:=rfl
theorem OP:pwp P G tr KP .skip Q ⟨fr,bx,nb⟩=Q .normal ⟨fr,bx,nb⟩:=rfl
theorem Su:pwp P G tr KP .ret Q ⟨fr,bx,nb⟩=Q .ret ⟨fr,bx,nb⟩:=rfl
theorem OQ {c:Operand} {x y:Code}:pwp P G tr KP (.cond c x y) Q ⟨fr,bx,nb⟩=HF P G tr KP (ev G ⟨fr,bx,nb⟩ c) c x y Q ⟨fr,bx,nb⟩:=rfl
theorem AX {c:Operand} {x y:Code}:HF P G tr KP (.c (.lit (.bool true))) c x y Q ⟨fr,bx,nb⟩=pwp P G tr KP x Q (refine ⟨fr,bx,nb⟩ c true):=by simp[HF]
theorem zq {c:Operand} {x y:Code}:HF P G tr KP (.c (.lit (.bool false))) c x y Q ⟨fr,bx,nb⟩=pwp P G tr KP y Q (refine ⟨fr,bx,nb⟩ c false):=by simp[HF]
theorem E2 {b:Code} {s:S}:Zp P G tr KP b Q .normal s=pwp P G tr KP b Q s:=rfl
theorem Sv {ops:Array Oper}:Ch P G tr ops [] ⟨fr,bx,nb⟩ K KP=K ⟨fr,bx,nb⟩:=rfl
theorem Xi {ops:Array Oper} {d:Option Tmp} {op:Op} {ty:TypeId} {pos:String} {af:Array Edge} {g:Option (Nat×Bool)} {r:List Oper} :
 Ch P G tr ops (⟨d,op,ty,pos,af,g⟩::r) ⟨fr,bx,nb⟩ K KP=Sr P G tr ops ⟨d,op,ty,pos,af,g⟩ r K KP ⟨fr,bx,nb⟩ (ba op):=by
 have gen:ba op=false→Ch P G tr ops (⟨d,op,ty,pos,af,g⟩::r) ⟨fr,bx,nb⟩ K KP=eW P G tr ops [⟨d,op,ty,pos,af,g⟩] ⟨fr,bx,nb⟩ (OO P G tr ops r K KP):=fun h=>by
  refine propext ⟨fun hh=>?_,fun hh=>.inl hh⟩
  rcases hh with hh | ⟨_,hh⟩
  ·exact hh
  ·exfalso
   unfold wI at hh
   unfold ba at h
   split at hh<;>first | exact hh | (rename_i e;simp only at e;rw[e] at h;cases h)
 cases h:ba op with
 |false=>exact gen h
 |true=>rfl
theorem Sw {ops:Array Oper} {o:Oper} {r:List Oper}:Sr P G tr ops o r K KP ⟨fr,bx,nb⟩ false=eW P G tr ops [o] ⟨fr,bx,nb⟩ (OO P G tr ops r K KP):=rfl
theorem OR {ops:Array Oper} {o:Oper} {r:List Oper}:Sr P G tr ops o r K KP ⟨fr,bx,nb⟩ true=(eW P G tr ops [o] ⟨fr,bx,nb⟩ (OO P G tr ops r K KP)∨(o.guard=none∧wI P G ⟨fr,bx,nb⟩ o r KP)):=rfl
theorem Xj {ops:Array Oper} {r:List Oper}:OO P G tr ops r K KP ⟨fr,bx,nb⟩=Ch P G tr ops r ⟨fr,bx,nb⟩ K KP:=rfl
def pkX:=jj @HG (jj @Xh (jj @Xg (jj @Ss (jj @OP (jj @Su (jj @OQ (jj @AX (jj @zq (jj @E2 (jj @Sv (jj @Xi (jj @Sw (jj @OR @Xj)))))))))))))
theorem Xk {T ty ty':TypeId} {d:Nat} {x:Operand} {u:Value} {pos pos':String} {af af':Array Edge} {d':Option Tmp} {A:Prop} {s:S} (hT:Md P T) (hx:ev G s x=.c (.lit u)) (h:KP (.iface T u) (s.put (some d) .un)) :
 A∨wI P G s ⟨some d,.makeInterface T x,ty,pos,af,none⟩ [⟨d',.panic (.tmp d),ty',pos',af',none⟩] KP:=by
 refine .inr ?_
 unfold wI
 simp only[hx]
 refine⟨⟨hT,?_,?_⟩,h⟩<;>trivial
theorem Sx {f:FuncId} {fn:Func} {c:Code} {args:List V} {b0 b1:List (List V)} {pv:Value} (tr:List Nat) (hm:P.follows .mixedOrders=true) (hf:P.funcs[f]?=some fn) (hb:fn.body=some c) (gQ:(fn.name== "runtime.NumGoroutine")=false)
 {n:Nat} (hn:fn.ntmps=n) (pQ:pX n tr c=true) (cu:args.length≤n) {k:Nat} (hk:ol tr=k) (tY:b0.length=k)
 (cD:eN args b0=true) (fy:b0.length≤b1.length)
 (h:pwp P G tr (Xd k pv b1) c (fun _ _=>False) ⟨frm 0 args,bxs b0,k⟩) (uG:uI tr=false:=by rfl):FnX P G f args b0 pv b1:=by
 subst hn
 subst tY
 simp only[eN,aI,aU] at cD
 refine Xe tr hm hf hb gQ cu pQ ⟨fun x hx=>V.ltB_ok (cD.1 x hx),fun b hb x hx=>V.ltB_ok (cD.2 b hb x hx),fy⟩ ?_ uG
 unfold pwp at h
 rw[hk] at h
 rw[yg] at h;exact h
theorem cY {k:Nat} {pv:Value} {b1:List (List V)} (hk:k≤b1.length) (dC:eQ [] b1=true) (hn:b1.length≤nb) (h2:BL 0 b1 bx):Xd k pv b1 pv ⟨fr,bx,nb⟩:=
 ⟨rfl,[],bT dC hk hn trivial h2⟩
end
end
section
variable {P:Program} {G:Gl} {tr:List Nat} {n:Nat} {I0:Ft} {M:Mx} {w0:World} {I:Ft} {β:Nat→Option Nat} {ob:Loc→Option Nat} {s:S} {a:Act} {w:World}
def Mf (P:Program) (G:Gl) (tr:List Nat) (g:FuncId) (k:Nat) (cs:List V) (kb:Nat) (r:V) (b1:List (List V)) (rs:List ResultVar) (m:Nat) (v:Value) (s:S):Prop:=
 ∃ (d:Tmp) (l:List (Tmp×Nat×TypeId×Value×V)),d<m∧aeg P g k v (l.map fun q=>(q.2.1,q.2.2.1,q.2.2.2.1))∧aaT P G tr d cs (fun s=>∃ l,S.Le kb (hdS l b1) s∧qt P false (hdS l b1) r rs) l s
def Km (P:Program) (G:Gl) (tr:List Nat) (t:Nat) (g:FuncId) (k:Nat) (rest:Code) (r:V) (b1:List (List V)) (rs:List ResultVar) (m:Nat) (s:S):Prop:=
 ∃ cs,(s.fr t=.clo (.func g) [] cs∧cs.length=k)∧s.nb=ol tr∧rB P G tr (ol tr) (Mf P G tr g k cs (ol tr) r b1 rs m) rest (vt P (ol tr) r b1 rs) s
def Ko (P:Program) (G:Gl) (tr:List Nat) (o1:Oper) (t:Nat) (g:FuncId) (k:Nat) (rest:Code) (r:V) (b1:List (List V)) (rs:List ResultVar) (m:Nat) (e:VE) (s:S):Prop:=match e with
 | .normal=>VStep P G tr o1 s (Km P G tr t g k rest r b1 rs m)
 |_=>False
theorem g8 {o1:Oper} {t:Nat} {g:FuncId} {k m:Nat} {rest:Code} {r:V} {b1:List (List V)} {rs:List ResultVar} {s:S}:Ko P G tr o1 t g k rest r b1 rs m .normal s=VStep P G tr o1 s (Km P G tr t g k rest r b1 rs m):=rfl
theorem Xl {f g:FuncId} {t:Nat} {fn:Func} {id:Nat} {r0 rest:Code} {o1 o2:Oper} {args:List V} {b0 b1:List (List V)} {r:V} (k:Nat) (tr:List Nat) (hm:P.follows .mixedOrders=true) (hf:P.funcs[f]?=some fn)
 (hb:fn.body=some (.seq r0 (.seq (.region id #[o1,o2] false) rest))) (gQ:(fn.name== "runtime.NumGoroutine")=false)
 (hn:args.length≤fn.ntmps) (pQ:cok fn.ntmps tr r0=true) (VL:pX fn.ntmps tr rest=true) (h1:o1.guard=none∧o1.dst=some t∧t<fn.ntmps)
 (h2:o2.guard=none∧o2.dst=none∧o2.op=.defer { callee:=.value (.tmp t),args:=#[],argTypes:=#[] }) (VM:Sf P g k)
 (iU:r.compT=true) (VJ:(∀ x∈args,x.lt b0.length)∧(∀ b∈b0,∀ x∈b,x.lt b0.length)∧b0.length≤b1.length)
 (h:gR P G tr b0.length r0 (Ko P G tr o1 t g k rest r b1 fn.results.toList fn.ntmps) ⟨fun j=>args.getD j .un,bxs b0,b0.length⟩) (uG:uI tr=false:=by rfl) (Gd:pW tr o1=false:=by rfl):FnB P G f args b0 r b1:=by
 refine⟨⟨fn,hf,gQ,_,hb⟩,VJ,fun I M w vs β ob hI hg hB dZ ha=>?_⟩
 have gP:fn.ntmps=(vs++Array.replicate (fn.ntmps - vs.size) undef).size:=by simp;omega
 have hst:=St.initB (n:=fn.ntmps) hI hg hB dZ ha gP
 have pS:∀ i b,β i=some b→i<b0.length:=fun i b hi=>by
  by_cases h:i<b0.length
  ·exact h
  ·rw[hB.bnone i (by omega)] at hi;cases hi
 refine calls_of_wp_defers hf hb (wp_seq ?_)
 refine vr hm (fun i b hi=>pS i b hi) uG r0 pQ _ _ (fun e s a w1 hq cE=>?_) _ _ _ h ⟨_,_,_,hst⟩
 cases e with
 |exit i=>exact hq.elim
 |ret=>exact hq.elim
 |normal=>
 refine wp_seq (wp_region ?_)
 obtain⟨I1,β1,ob1,mf⟩:=cE
 show wpOps P #[o1,o2] _ [0,1] a w1
 have hg1:Region.wanted o1 (yielded #[o1,o2] a.tmps)=true:=by simp[Region.wanted,h1.1]
 have Gn:∀ a:Act,Region.wanted o2 (yielded #[o1,o2] a.tmps)=true:=fun a=>by simp[Region.wanted,h2.1]
 unfold wpOps
 simp only[cP,bJ]
 rw[if_pos hg1]
 refine .inl (nQ (tr:=tr) mf (fun d hd=>by rw[h1.2.1] at hd;cases hd;exact h1.2.2) Gd hq fun a2 w2 s2 hs2 aiw=>?_)
 obtain⟨cs,⟨yE,m9⟩,v6,DY⟩:=hs2
 obtain⟨I2,β2,ob2,mg⟩:=aiw
 unfold wpOps
 simp only[cP,cK,bJ]
 rw[if_pos (Gn a2)]
 left
 have hv:=mg.fr t
 rw[yE] at hv
 simp only[LR] at hv
 obtain⟨vf,vc,rQ,LF,Z5,_,jW⟩:=hv
 have aiq:vf=#[]:=Array.eq_empty_of_size_eq_zero (by simpa using LF)
 have bA:(execOp a2.eval o2).run P w2=.ok (.defer { target:=.fn (.func g) vc,args:=#[] }) w2:=by
  have he:a2.eval (.tmp t)=.func (.func g) vf vc:=rQ
  unfold execOp
  simp only[h2.2.2,resolve,Deferred.ofValue,he,aJ,bi,aw,aiq]
  simp
 unfold Oper.wp
 rw[bA]
 simp only[Oper.upon,h2.2.1,Act.put,wpOps]
 have vY:=mg.deferred { target:=.fn (.func g) vc,args:=#[] }
 have Je:∀ i b,β2 i=some b→i<ol tr:=fun i b hi=>by
  by_cases bB:i<ol tr
  ·exact bB
  ·rw[mg.bnone i (by omega)] at hi;cases hi
 have afX:∀ i,i<b0.length→β2 i=β i:=fun i hi=>by
  obtain⟨blk,_,e1,_⟩:=hB.bx i _ (aj hi)
  rw[e1];exact mg.ext i blk e1
 have air:∀ i b,b0.length≤i→β2 i=some b→Wr M w b:=fun i b hi hb=>by
  rcases mg.bnew i b hb with h4 | h4
  ·have:=pS i b h4;omega
  ·exact h4
 have fin:∀ (d:Deferred) (s:S) (l:List (Nat×V)) (a a':Act) (w':World),a'.tmps=a.tmps→SE G fn.ntmps I ⟨M.m,β2,[d]⟩ w s a w'→S.Le (ol tr) (hdS l b1) s→qt P false (hdS l b1) r fn.results.toList→
  ∃ v,(results fn a'.tmps).run P w'=.ok v w'∧∃ v' I' β' ob' o',(Ending.returned v=.returned v')∧BelowM (GT G) M w w'∧(∀ b o,I b o→I' b o)∧(∀ b o,I' b o→I b o∨(Wr M w b∧b<w'.heap.size))∧
  (∀ b o,I b o→w'.cell? ⟨b,o,none⟩=w.cell? ⟨b,o,none⟩)∧(∀ i,i<b0.length→β' i=β i)∧(∀ i b,b0.length≤i→β' i=some b→Wr M w b)∧BxR (Wr M w) I' w' β' ob' b1∧
  LR (Wr M w) I' β' w' o' v' r∧(∀ b,o'=some b→(b<w'.heap.size∧Wr M w b)∧(∀ i j,ob' i j≠some b)∧∀ i,β' i≠some b):=by
  intro d s l a a' w' hta cE fy cX
  obtain⟨I',β',ob',bL⟩:=cE.weaken (fun i b hi=>Je i b hi) fy
  obtain⟨v,o',q1,q2,q3⟩:=pq (P:=P) (fn:=fn) bL iU (Ic:=I') (fun _=>rfl) (fun _ _ h=>h) (fun hz=>by cases hz) cX
  refine⟨v,by rw[hta];exact q1,v,I',β',fun i j=>if i<b1.length then ob' (.b i j) else none,o',rfl,⟨bL.below.os,bL.below.tape,bL.below.output,bL.below.size,bL.below.block,bL.below.drawn⟩,bL.ilow,fun b o xG=>?_,bL.kept,fun i hi=>?_,fun i b hi hb=>?_,?_,q2,fun b hb=>?_⟩
  ·rcases bL.ihigh b o xG with h4 | h4
   ·exact .inl h4
   ·exact .inr ⟨h4,bL.ibnd b o xG⟩
  ·rw[← afX i hi]
   obtain⟨blk,_,e1,_⟩:=hB.bx i _ (aj hi)
   have e2:β2 i=some blk:=by rw[afX i hi];exact e1
   rw[e2];exact bL.ext i blk e2
  ·rcases bL.bnew i b hb with h4 | h4
   ·exact air i b hi h4
   ·exact h4
  ·exact {
    bx:=fun i cs iR=>by
     have hi:i<b1.length:=(ak.1 iR).1
     obtain⟨blk,cur,e1,e2,e3,e4,e5,e7⟩:=bL.bx i hi
     have e:bxs b1 i=cs:=by simp[bxs,List.getD,iR]
     refine⟨blk,cur,e1,e2,by simp only[hdS,e] at e3;exact e3,by simp only[hdS,e] at e4;exact e4,fun j=>?_,e7⟩
     have:=e5 j
     simp only[hdS,e] at this
     rw[if_pos hi];exact this
    bnone:=fun i hi=>bL.bnone i hi
    binj:=bL.binj
    oinj:=fun i j i' j' b h h'=>by
     split at h<;>try cases h
     split at h'<;>try cases h'
     have:=bL.oinj _ _ b h h'
     simp only[Loc.b.injEq] at this;exact this
    obx:=fun i j b k h=>by
     split at h<;>try cases h
     exact bL.obx _ b k h
    obnd:=fun i j b h=>by
     split at h<;>try cases h
     exact bL.obnd _ b h
    olen:=fun i j hi=>by rw[if_neg (by omega)] }
  ·obtain⟨t,ht⟩:=q3 b hb
   refine⟨bL.obnd _ b ht,fun i j h=>?_,fun i=>bL.obx _ b i ht⟩
   simp only at h
   split at h<;>try cases h
   have:=bL.oinj _ _ b ht h
   cases this
 obtain⟨⟨fg,aiy,aiz,cg,aiA⟩,af0⟩:=VM
 have afY:∀ w',(invoke (Deferred.mk (.fn (.func g) vc) #[]).target (Deferred.mk (.fn (.func g) vc) #[]).args).run P w'=.ok (.enter g (#[]++vc)) w':=fun w'=>by
  have ais:fg.name≠ "runtime.NumGoroutine" :=by simpa using aiz
  simp[invoke,callFunc,aiy,ais,aiA]
 have akz:a2.defers=[]:=mg.defers
 refine vB uG hm (fun i b hi=>Je i b hi) _ _ (fun v s a w' hq cE=>?_) rest VL _ _ (fun e s a w' hq cE=>?_) (fun _ _ _ h=>h) _ _ _ DY ⟨_,_,_,vY⟩
 ·obtain⟨d,l,hd,aiB,hK⟩:=hq
  have hdf:a.defers=[{ target:=.fn (.func g) vc,args:=#[] }]:=by obtain⟨_,_,_,h'⟩:=cE;exact h'.defers
  obtain⟨w'',s',h4,⟨l',h50,h51⟩,h6⟩:=CZ (vc:=vc) hd l s w' hK cE (fun I β ob w s p i j off bL hf hc=>by
   have h7:=bL.fr p
   rw[hf] at h7
   simp only[LR] at h7
   obtain⟨blk,e1,e2⟩:=h7
   have h8:=jW i _ hc
   simp only[PR] at h8
   obtain⟨ra,e3,e4⟩:=h8
   have h9:=bL.ext j ra e3
   rw[h9] at e1
   cases e1
   rw[e2,e4])
  show Leaves P fn a.tmps _ a.defers (.panicking _) w'
  rw[hdf]
  refine leaves_cons (f:=g) (args:=#[]++vc) (by simp) (afY w') ?_
  refine (aiB (#[]++vc) w' w'' (by simp[Z5,m9]) (by simpa using h4)).mono ?_
  rintro e u' w3 ⟨⟨v',rfl⟩,rfl,rfl⟩
  obtain⟨v,h7,h8⟩:=fin _ s' l' a a _ rfl h6 h50 h51
  exact⟨v,h7,h8⟩
 ·obtain⟨Qe,l',fy,cX⟩:=hq
  have hdf:a.defers=[{ target:=.fn (.func g) vc,args:=#[] }]:=by obtain⟨_,_,_,h'⟩:=cE;exact h'.defers
  have main:∀ (hx:True),Leaves P fn a.tmps (fun e w'=>∃ v' I' β' ob' o',e=.returned v'∧BelowM (GT G) M w w'∧(∀ b o,I b o→I' b o)∧(∀ b o,I' b o→I b o∨(Wr M w b∧b<w'.heap.size))∧
   (∀ b o,I b o→w'.cell? ⟨b,o,none⟩=w.cell? ⟨b,o,none⟩)∧(∀ i,i<b0.length→β' i=β i)∧(∀ i b,b0.length≤i→β' i=some b→Wr M w b)∧BxR (Wr M w) I' w' β' ob' b1∧
   LR (Wr M w) I' β' w' o' v' r∧(∀ b,o'=some b→(b<w'.heap.size∧Wr M w b)∧(∀ i j,ob' i j≠some b)∧∀ i,β' i≠some b)) a.defers .returning w':=fun _=>by
   rw[hdf]
   refine leaves_cons (f:=g) (args:=#[]++vc) (by simp) (afY w') ?_
   refine (af0 (#[]++vc) w' (by simp[Z5,m9])).mono ?_
   rintro e u' w'' ⟨⟨v',rfl⟩,rfl,rfl⟩
   obtain⟨v,h7,h8⟩:=fin _ s l' a a _ rfl cE fy cX
   exact⟨v,h7,h8⟩
  cases e with
  |normal=>exact main trivial
  |exit i=>exact Qe.elim
  |ret=>exact main trivial
theorem jy {f g:FuncId} {t:Nat} {fn:Func} {id:Nat} {r0 rest:Code} {o1 o2:Oper} {args:List V} {b0 b1:List (List V)} {r:V} (k:Nat) (tr:List Nat) (hm:P.follows .mixedOrders=true) (hf:P.funcs[f]?=some fn)
 (hb:fn.body=some (.seq r0 (.seq (.region id #[o1,o2] false) rest))) (gQ:(fn.name== "runtime.NumGoroutine")=false) {rs:List ResultVar} (xI:fn.results.toList=rs) {n:Nat} (hnt:fn.ntmps=n)
 (hn:args.length≤n) (pQ:cok n tr r0=true) (VL:pX n tr rest=true) (h1:o1.guard=none∧o1.dst=some t∧t<n)
 (h2:o2.guard=none∧o2.dst=none∧o2.op=.defer { callee:=.value (.tmp t),args:=#[],argTypes:=#[] }) (VM:Sf P g k)
 (iU:r.compT=true) (cD:eN args b0=true) (fy:b0.length≤b1.length) {k0:Nat} (hk:b0.length=k0)
 (h:gR P G tr k0 r0 (Ko P G tr o1 t g k rest r b1 rs n) ⟨frm 0 args,bxs b0,k0⟩) (uG:uI tr=false:=by rfl) (Gd:pW tr o1=false:=by rfl):FnB P G f args b0 r b1:=by
 subst hnt
 subst xI
 subst hk
 simp only[eN,aI,aU] at cD
 refine Xl (t:=t) (g:=g) k tr hm hf hb gQ hn pQ VL h1 h2 VM iU ⟨fun x hx=>V.ltB_ok (cD.1 x hx),fun b hb x hx=>V.ltB_ok (cD.2 b hb x hx),fy⟩ ?_ uG Gd
 rw[yg] at h;exact h
theorem Xm {f:FuncId} {fn:Func} {c:Code} {args:List V} {b0 b1:List (List V)} {r:V} (tr:List Nat) (hm:P.follows .mixedOrders=true) (hf:P.funcs[f]?=some fn) (hb:fn.body=some c)
 (gQ:(fn.name== "runtime.NumGoroutine")=false) (hn:args.length≤fn.ntmps) (pQ:pX fn.ntmps tr c=true) (iU:r.compT=true)
 (VJ:(∀ x∈args,x.lt b0.length)∧(∀ b∈b0,∀ x∈b,x.lt b0.length)∧b0.length≤b1.length)
 (h:rB P G tr b0.length (fun _ _=>False) c (vt P b0.length r b1 fn.results.toList) ⟨fun j=>args.getD j .un,bxs b0,b0.length⟩) (uG:uI tr=false:=by rfl):FnB P G f args b0 r b1:=by
 refine⟨⟨fn,hf,gQ,c,hb⟩,VJ,fun I M w vs β ob hI hg hB dZ ha=>?_⟩
 have gP:fn.ntmps=(vs++Array.replicate (fn.ntmps - vs.size) undef).size:=by simp;omega
 have hst:=St.initB (n:=fn.ntmps) hI hg hB dZ ha gP
 have pS:∀ i b,β i=some b→i<b0.length:=fun i b hi=>by
  by_cases h:i<b0.length
  ·exact h
  ·rw[hB.bnone i (by omega)] at hi;cases hi
 refine calls_of_wp hf hb (vB (Q:=fun _ _ _=>False) uG hm (fun i b hi=>pS i b hi) _ (fun v s a w' hq cE=>hq.elim) c pQ _ _ (fun e s a w' hq cE=>?_) (fun _ _ _ h=>h.elim) _ _ _ h ⟨_,_,_,hst⟩)
 obtain⟨Qe,l,fy,cX⟩:=hq
 have main:a.defers=[]∧∃ v,(results fn a.tmps).run P w'=.ok v w'∧∃ v' I' β' ob' o',(Ending.returned v=.returned v')∧BelowM (GT G) M w w'∧(∀ b o,I b o→I' b o)∧(∀ b o,I' b o→I b o∨(Wr M w b∧b<w'.heap.size))∧
  (∀ b o,I b o→w'.cell? ⟨b,o,none⟩=w.cell? ⟨b,o,none⟩)∧(∀ i,i<b0.length→β' i=β i)∧(∀ i b,b0.length≤i→β' i=some b→Wr M w b)∧BxR (Wr M w) I' w' β' ob' b1∧
  LR (Wr M w) I' β' w' o' v' r∧(∀ b,o'=some b→(b<w'.heap.size∧Wr M w b)∧(∀ i j,ob' i j≠some b)∧∀ i,β' i≠some b):=by
  obtain⟨I',β',ob',bL⟩:=cE.weaken (fun i b hi=>pS i b hi) fy
  refine⟨bL.defers,?_⟩
  obtain⟨v,o',q1,q2,q3⟩:=pq (P:=P) (fn:=fn) bL iU (Ic:=I') (fun _=>rfl) (fun _ _ h=>h) (fun hz=>by cases hz) cX
  refine⟨v,q1,v,I',β',fun i j=>if i<b1.length then ob' (.b i j) else none,o',rfl,⟨bL.below.os,bL.below.tape,bL.below.output,bL.below.size,bL.below.block,bL.below.drawn⟩,bL.ilow,fun b o xG=>?_,bL.kept,fun i hi=>?_,fun i b hi hb=>?_,?_,q2,fun b hb=>?_⟩
  ·rcases bL.ihigh b o xG with h4 | h4
   ·exact .inl h4
   ·exact .inr ⟨h4,bL.ibnd b o xG⟩
  ·obtain⟨blk,_,e1,_⟩:=hB.bx i _ (aj hi)
   rw[e1];exact bL.ext i blk e1
  ·rcases bL.bnew i b hb with h4 | h4
   ·have:=pS i b h4;omega
   ·exact h4
  ·exact {
    bx:=fun i cs iR=>by
     have hi:i<b1.length:=(ak.1 iR).1
     obtain⟨blk,cur,e1,e2,e3,e4,e5,e7⟩:=bL.bx i hi
     have e:bxs b1 i=cs:=by simp[bxs,List.getD,iR]
     refine⟨blk,cur,e1,e2,by simp only[hdS,e] at e3;exact e3,by simp only[hdS,e] at e4;exact e4,fun j=>?_,e7⟩
     have:=e5 j
     simp only[hdS,e] at this
     rw[if_pos hi];exact this
    bnone:=fun i hi=>bL.bnone i hi
    binj:=bL.binj
    oinj:=fun i j i' j' b h h'=>by
     split at h<;>try cases h
     split at h'<;>try cases h'
     have:=bL.oinj _ _ b h h'
     simp only[Loc.b.injEq] at this;exact this
    obx:=fun i j b k h=>by
     split at h<;>try cases h
     exact bL.obx _ b k h
    obnd:=fun i j b h=>by
     split at h<;>try cases h
     exact bL.obnd _ b h
    olen:=fun i j hi=>by rw[if_neg (by omega)] }
  ·obtain⟨t,ht⟩:=q3 b hb
   refine⟨bL.obnd _ b ht,fun i j h=>?_,fun i=>bL.obx _ b i ht⟩
   simp only at h
   split at h<;>try cases h
   have:=bL.oinj _ _ b ht h
   cases this
 cases e with
 |normal=>exact main
 |exit i=>exact Qe.elim
 |ret=>exact main
def FnO (P:Program) (G:Gl) (f:FuncId) (args:List V) (b0:List (List V)) (o:Option Value) (r:V) (b1:List (List V)):Prop:=match o with
 |none=>FnB P G f args b0 r b1
 |some pv=>FnX P G f args b0 pv b1
def oKP (k:Nat) (b1:List (List V)) (o:Option Value) (pv:Value) (s:S):Prop:=match o with
 |none=>False
 |some v=>Xd k v b1 pv s
def oQ (P:Program) (k:Nat) (r:V) (b1:List (List V)) (rs:List ResultVar) (o:Option Value) (e:VE) (s:S):Prop:=match o with
 |none=>vt P k r b1 rs e s
 |some _=>False
theorem jo {f:FuncId} {fn:Func} {c:Code} {args:List V} {b0 b1:List (List V)} {o:Option Value} {r:V} (tr:List Nat) (hm:P.follows .mixedOrders=true) (hf:P.funcs[f]?=some fn) (hb:fn.body=some c) (gQ:(fn.name== "runtime.NumGoroutine")=false)
 {rs:List ResultVar} (xI:fn.results.toList=rs) {n:Nat} (hn:fn.ntmps=n) (pQ:pX n tr c=true) (cu:args.length≤n) (iU:r.compT=true) {k:Nat} (hk:ol tr=k) (tY:b0.length=k)
 (cD:eN args b0=true) (fy:b0.length≤b1.length)
 (h:pwp P G tr (oKP k b1 o) c (oQ P k r b1 rs o) ⟨frm 0 args,bxs b0,k⟩) (uG:uI tr=false:=by rfl):FnO P G f args b0 o r b1:=by
 subst xI
 cases o with
 |some v=>
  exact Sx tr hm hf hb gQ hn pQ cu hk tY cD fy h uG
 |none=>
  subst hn
  subst tY
  simp only[eN,aI,aU] at cD
  refine Xm tr hm hf hb gQ cu pQ iU ⟨fun x hx=>V.ltB_ok (cD.1 x hx),fun b hb x hx=>V.ltB_ok (cD.2 b hb x hx),fy⟩ ?_ uG
  unfold pwp at h
  rw[hk] at h
  rw[yg] at h;exact h
end
theorem HH {P:Program} {G:Gl} {f:FuncId} {args:List V} {b0 b1:List (List V)} {r:V} (ex:List (List V)) (h:FnB P G f args b0 r (b1++ex)) (fy:b0.length≤b1.length) (hb:b1.all (fun b=>b.all fun x=>x.ltB b1.length)=true) (hr:r.ltB b1.length=true):FnB P G f args b0 r b1:=by
 obtain⟨h1,h2,h3⟩:=h
 refine⟨h1,⟨h2.1,h2.2.1,fy⟩,fun I M w vs β ob hI hg hB dZ ha=>?_⟩
 refine Calls.mono (h3 I M w vs β ob hI hg hB dZ ha) fun e w' he=>?_
 obtain⟨v,I',β',ob',o',e1,e2,e3,e4,e5,e6,e7,e8,e9,e10⟩:=he
 have hβ:∀ i b,(if i<b1.length then β' i else none)=some b→β' i=some b:=fun i b hb=>by split at hb;exact hb;cases hb
 refine⟨v,I',fun i=>if i<b1.length then β' i else none,fun i j=>if i<b1.length then ob' i j else none,o',e1,e2,e3,e4,e5,fun i hi=>?_,fun i b hi hb=>e7 i b hi (hβ i b hb),?_,e9.lt (V.ltB_ok hr) (fun i hi=>if_pos hi),fun b hb=>?_⟩
 ·show(if i<b1.length then β' i else none)=β i
  rw[if_pos (by omega)];exact e6 i hi
 ·exact {
   bx:=fun i cs iR=>by
    have hi:i<b1.length:=(ak.1 iR).1
    obtain⟨blk,cur,c1,c2,c3,c4,c5,c6⟩:=e8.bx i cs (by rw[aG hi];exact iR)
    refine⟨blk,cur,by rw[if_pos hi];exact c1,c2,c3,c4,fun j=>?_,c6⟩
    rw[if_pos hi]
    refine (c5 j).lt ?_ (fun i hi=>if_pos hi)
    have hm:cs∈b1:=bh iR
    rcases ct j cs.length with hj | hj
    ·have:cs.getD j .un=cs[j]:=by simp[List.getD,hj]
     rw[this]
     have h4:=aU.1 hb _ hm
     exact V.ltB_ok (aU.1 h4 _ (aF hj))
    ·have:cs.getD j .un=.un:=by simp[List.getD,co hj]
     rw[this];trivial
   bnone:=fun i hi=>if_neg (by omega)
   binj:=fun i j b hi hj=>e8.binj i j b (hβ _ _ hi) (hβ _ _ hj)
   oinj:=fun i j i' j' b h h'=>by
    split at h<;>try cases h
    split at h'<;>try cases h'
    exact e8.oinj _ _ _ _ b h h'
   obx:=fun i j b k h hk=>by
    split at h<;>try cases h
    exact e8.obx _ _ b k h (hβ _ _ hk)
   obnd:=fun i j b h=>by
    split at h<;>try cases h
    exact e8.obnd _ _ b h
   olen:=fun i j hi=>if_neg (by omega) }
 ·obtain⟨d1,d2,d3⟩:=e10 b hb
  refine⟨d1,fun i j h=>?_,fun i h=>d3 i (hβ i b h)⟩
  simp only at h
  split at h<;>try cases h
  exact d2 i j h
theorem aaU {P:Program} {G:Gl} {f:FuncId} {args:List V} {b0 b1:List (List V)} {r:V} (h:FnB P G f args b0 r b1) (hm:∀ b∈b1,oe (b.map V.fz)=oe b):FnB P G f args b0 r (b1.map (·.map V.fz)):=by
 obtain⟨h1,h2,h3⟩:=h
 refine⟨h1,⟨h2.1,h2.2.1,by rw[am];exact h2.2.2⟩,fun I M w vs β ob hI hg hB dZ ha=>?_⟩
 refine Calls.mono (h3 I M w vs β ob hI hg hB dZ ha) fun e w' he=>?_
 obtain⟨v,I',β',ob',o',e1,e2,e3,e4,e5,e6,e7,e8,e9,e10⟩:=he
 refine⟨v,I',β',fun _ _=>none,o',e1,e2,e3,e4,e5,e6,e7,?_,e9,fun b hb=>?_⟩
 ·exact {
   bx:=fun i cs iR=>by
    rw[bb] at iR
    obtain⟨cs0,af1,rfl⟩:=aY.1 iR
    obtain⟨blk,cur,c1,c2,c3,c4,c5,c6⟩:=e8.bx i cs0 af1
    refine⟨blk,cur,c1,c2,c3.congr (by rw[am]) (hm cs0 (bh af1)),by rw[am];exact c4,fun j=>?_,c6⟩
    have h5:=(c5 j).fz none
    have e:(cs0.map V.fz).getD j .un=(cs0.getD j .un).fz:=by
     simp only[aB,bb]
     cases cs0[j]?<;>rfl
    rw[e];exact h5
   bnone:=fun i hi=>e8.bnone i (by rw[am] at hi;exact hi)
   binj:=e8.binj
   oinj:=fun i j i' j' b h h'=>by cases h
   obx:=fun i j b k h hk=>by cases h
   obnd:=fun i j b h=>by cases h
   olen:=fun i j hi=>rfl }
 ·obtain⟨d1,d2,d3⟩:=e10 b hb
  exact⟨d1,fun i j h=>by(cases h),d3⟩
theorem E3 {P:Program} {G:Gl} {f:FuncId} {fn:Func} {c:Code} {args:List V} {b0 b1:List (List V)} {o:Option Value} {r:V} (ex:List (List V)) (tr:List Nat) (hm:P.follows .mixedOrders=true) (hf:P.funcs[f]?=some fn) (hb:fn.body=some c) (gQ:(fn.name== "runtime.NumGoroutine")=false)
 {rs:List ResultVar} (xI:fn.results.toList=rs) {n:Nat} (hn:fn.ntmps=n) (pQ:pX n tr c=true) (cu:args.length≤n) (iU:r.compT=true) {k:Nat} (hk:ol tr=k) (tY:b0.length=k)
 (cD:eN args b0=true) (fy:b0.length≤b1.length) (hb1:b1.all (fun b=>b.all fun x=>x.ltB b1.length)=true) (hr:r.ltB b1.length=true)
 (h:pwp P G tr (oKP k b1 o) c (oQ P k r (b1++ex) rs o) ⟨frm 0 args,bxs b0,k⟩) (uG:uI tr=false:=by rfl):FnO P G f args b0 o r b1:=by
 cases o with
 |some v=>exact jo (o:=some v) tr hm hf hb gQ xI hn pQ cu iU hk tY cD fy h uG
 |none=>exact HH ex (jo (o:=none) tr hm hf hb gQ xI hn pQ cu iU hk tY cD (by rw[ax];omega) h uG) fy hb1 hr
theorem zM {P:Program} {G:Gl} {f:FuncId} {fn:Func} {c:Code} {args:List V} {b0 b1 b2:List (List V)} {o:Option Value} {r:V} (tr:List Nat) (hm:P.follows .mixedOrders=true) (hf:P.funcs[f]?=some fn) (hb:fn.body=some c) (gQ:(fn.name== "runtime.NumGoroutine")=false)
 {rs:List ResultVar} (xI:fn.results.toList=rs) {n:Nat} (hn:fn.ntmps=n) (pQ:pX n tr c=true) (cu:args.length≤n) (iU:r.compT=true) {k:Nat} (hk:ol tr=k) (tY:b0.length=k)
 (cD:eN args b0=true) (fy:b0.length≤b1.length) (Ly:b0.length≤b2.length) (hmk:∀ b∈b2,oe (b.map V.fz)=oe b) (YY:o=none→b2.map (·.map V.fz)=b1)
 (h:pwp P G tr (oKP k b1 o) c (oQ P k r b2 rs o) ⟨frm 0 args,bxs b0,k⟩) (uG:uI tr=false:=by rfl):FnO P G f args b0 o r b1:=by
 cases o with
 |some v=>exact jo (o:=some v) tr hm hf hb gQ xI hn pQ cu iU hk tY cD fy h uG
 |none=>exact YY rfl▸aaU (jo (o:=none) tr hm hf hb gQ xI hn pQ cu iU hk tY cD Ly h uG) hmk
