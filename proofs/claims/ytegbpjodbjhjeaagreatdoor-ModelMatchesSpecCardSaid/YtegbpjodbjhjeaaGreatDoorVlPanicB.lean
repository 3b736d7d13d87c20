/- Values without memory: a function that defers one closure, and that does not panic. -/
import Derived.Test.YtegbpjodbjhjeaaGreatDoorVlRunB
import Derived.Defers
import Derived.Recover
set_option linter.all false
namespace Go.Vl
open Go Go.RowKit
section
variable {P:Program} {G:Gl} {tr:List Nat} {n:Nat} {I0:Ft} {M:Mx} {w0:World} {I:Ft} {β:Nat->Option Nat} {ob:Loc->Option Nat} {s:S} {a:Act} {w:World}
theorem St.deferred (h:St G n I0 M w0 I β ob s a w) (d:Deferred):St G n I0 ⟨M.m,β,d::M.d⟩ w0 I β ob s { a with defers:=d::a.defers } w where
 size:=h.size
 defers:=by rw[h.defers]
 below:=⟨h.below.os,h.below.tape,h.below.output,h.below.size,h.below.block,h.below.drawn⟩
 kept:=h.kept
 ilow:=h.ilow
 ihigh:=h.ihigh
 ibnd:=h.ibnd
 fr:=h.fr
 bx:=h.bx
 bnone:=h.bnone
 ext:=λ_ _ h=>h
 bnew:=λ_ _ h=>.inl h
 binj:=h.binj
 oinj:=h.oinj
 obx:=h.obx
 obnd:=h.obnd
 glob:=h.glob
def S1 (P:Program) (g:FuncId) (k:Nat):Prop:=(∃ fn,P.funcs[g]?=some fn/\(fn.name== "runtime.NumGoroutine")=false/\∃ c,fn.body=some c)/\
 ∀ (caps:Array Value) (w:World),caps.size=k->CallsD P g caps .returning w λe u' w'=>(∃ v,e=.returned v)/\u'=.returning/\w'=w
end
section
variable {P:Program} {G:Gl} {tr:List Nat} {n:Nat} {I0:Ft} {M:Mx} {w0:World} {I:Ft} {β:Nat->Option Nat} {ob:Loc->Option Nat} {s:S} {a:Act} {w:World} {o:Oper}
 {next:Act->World->Prop} {Q:Exit->Act->World->Prop} {base:Nat->Prop}
def FnX (P:Program) (G:Gl) (f:FuncId) (args:List V) (b0:List (List V)) (pv:Value) (b1:List (List V)):Prop:=
 (∃ fn,P.funcs[f]?=some fn/\(fn.name== "runtime.NumGoroutine")=false/\∃ c,fn.body=some c)/\
 ((∀ x∈args,x.lt b0.length)/\(∀ b∈b0,∀ x∈b,x.lt b0.length)/\b0.length<=b1.length)/\
 ∀ (I:Ft) (M:Mx) (w:World) (vs:Array Value) (β:Nat->Option Nat) (ob:Nat->Nat->Option Nat),(∀ b o,I b o->b<w.heap.size)->GOK G I w->BxR (Wr M w) I w β ob b0->vs.size=args.length->
  (∀ j x,args[j]?=some x->LR (Wr M w) I β w none (vs.getD j undef) x)->
  Calls P f vs w λe w'=>∃ I' β' ob',e=.panicked [{ v:=pv,recovered:=false }]/\BelowM (GT G) M w w'/\(∀ b o,I b o->I' b o)/\(∀ b o,I' b o->I b o∨(Wr M w b/\b<w'.heap.size))/\
   (∀ b o,I b o->w'.cell? ⟨b,o,none⟩=w.cell? ⟨b,o,none⟩)/\(∀ i,i<b0.length->β' i=β i)/\(∀ i b,b0.length<=i->β' i=some b->Wr M w b)/\BxR (Wr M w) I' w' β' ob' b1
def MG (P:Program) (T:TypeId):Prop:=∀ (u:Value) (w:World),(Instr.makeInterface T u).run P w=.ok (.iface T u) w
def wO (P:Program) (G:Gl) (s:S) (o:Oper) (r:List Oper) (KP:Value->S->Prop):Prop:=match o.op with
 | .makeInterface T x=>match ev G s x,r,o.dst with
  | .c (.lit u),[o2],some d=>(MG P T/\o2.guard=none/\o2.op=.panic (.tmp d))/\KP (.iface T u) (s.put (some d) .un)
  |_,_,_=>False
 | .call { callee:=.value f,args:=args,.. }=>match eB (ev G s f) (args.toList.map (ev G s)) with
  |some (g,all)=>∃ (ρ:List Nat) (cargs:List V) (b0:List (List V)) (pv:Value) (b1:List (List V)),FnX P G g cargs b0 pv b1/\all.map V.fz=cargs.map (V.ren (rho ρ s.nb))/\
    (ρ.length=b0.length/\ρ.Nodup)/\pV s.bx s.nb (rho ρ s.nb) 0 b0/\KP pv { s with bx:=fC (rho ρ s.nb) 0 b1 s.bx,nb:=s.nb+(b1.length - b0.length) }
  |none=>False
 |_=>False
def CH (P:Program) (G:Gl) (tr:List Nat) (ops:Array Oper):List Oper->S->(S->Prop)->(Value->S->Prop)->Prop
 |[],s,K,_=>K s
 |o::r,s,K,KP=>eU P G tr ops [o] s (λs'=>CH P G tr ops r s' K KP)∨(o.guard=none/\wO P G s o r KP)
def sC (P:Program) (G:Gl) (s:S) (o:Oper) (KP:Value->S->Prop):Prop:=match o.op with
 | .call { callee:=.value f,args:=args,.. }=>match eB (ev G s f) (args.toList.map (ev G s)) with
  |some (g,all)=>∃ (ρ:List Nat) (cargs:List V) (b0:List (List V)) (pv:Value) (b1:List (List V)),FnX P G g cargs b0 pv b1/\all.map V.fz=cargs.map (V.ren (rho ρ s.nb))/\
    (ρ.length=b0.length/\ρ.Nodup)/\pV s.bx s.nb (rho ρ s.nb) 0 b0/\KP pv { s with bx:=fC (rho ρ s.nb) 0 b1 s.bx,nb:=s.nb+(b1.length - b0.length) }
  |none=>False
 |_=>False
def tH (ops:Array Oper) (stop:Nat):List Nat:=
 (List.range ops.size).foldl (λD k=>if k==stop||((ops[k]?).map λo=>o.after.any λe=>Region.binds .any e&&D.contains e.on).getD false then k::D else D) []
def ahead (ops:Array Oper) (stop:Nat):List Nat:=(List.range ops.size).filter λk=>!(tH ops stop).contains k
def afF (tr:List Nat) (ops:Array Oper) (stop:Nat):Bool:=
 (ahead ops stop).all (λk=>((ops[k]?).map λo=>!lL tr o&&dK tr o !=2).getD false)&&((ops[stop]?).map λo=>o.guard.isNone).getD false&&match kC tr ops (ahead ops stop) (Array.replicate ops.size false) with
 |some listed=>(Region.ready .any ops listed)==[stop]
 |none=>false
def wrs (tr:List Nat) (ops:Array Oper) (stop:Nat):List Tmp:=(jZ ops (ahead ops stop)).flatMap (wr tr)
theorem zl {ops:Array Oper} {stop:Nat} (h:stop<ops.size):(tH ops stop).contains stop=true:=by
 have gen:∀ (l:List Nat) (D:List Nat),stop∈l∨stop∈D->stop∈l.foldl (λD k=>if k==stop||((ops[k]?).map λo=>o.after.any λe=>Region.binds .any e&&D.contains e.on).getD false then k::D else D) D:=by
  intro l;induction l with
  |nil=>intro D h;exact h.resolve_left (by simp)
  |cons k l ih=>
   intro D h;rw[fY];apply ih;rcases h with h | h
   .rcases bI.1 h with rfl | h
    .right;simp
    .exact .inl h
   .right;split
    .exact aT _ h
    .exact h
 have:=gen (List.range ops.size) [] (.inl (df.2 h));simpa[tH] using this
def S2 (P:Program) (G:Gl) (tr:List Nat) (ops:Array Oper) (s:S) (KP:Value->S->Prop):Prop:=
 ∃ stop o,ops[stop]?=some o/\afF tr ops stop=true/\eU P G tr ops (jZ ops (ahead ops stop)) s (λ_=>True)/\
  ∀ fr,(∀ t,t∉wrs tr ops stop->fr t=s.fr t)->sC P G ⟨fr,s.bx,s.nb⟩ o KP
def tI (ops:Array Oper) (m:Nat):Bool:=(List.range m).all λi=>(List.range ops.size).any λk=>decide (k≠i)&&((ops[k]?).map λo=>o.after.any λe=>Region.binds .any e&&(e.on==i)).getD false
def S3 (tr:List Nat) (ops:Array Oper) (stop:Nat):Bool:=
 decide (stop+1=ops.size)&&(ops.toList.take stop).all (λo=>!lL tr o)&&((ops[stop]?).map λo=>o.guard.isNone).getD false&&
 decide (kC tr ops (List.range stop) (Array.replicate ops.size false)=some (oO stop ops.size))&&tI ops stop&&Region.ready .any ops (oO stop ops.size)==[stop]
def S4 (P:Program) (G:Gl) (tr:List Nat) (ops:Array Oper) (s:S) (KP:Value->S->Prop):Prop:=
 ∃ stop o,ops[stop]?=some o/\S3 tr ops stop=true/\eU P G tr ops (ops.toList.take stop) s (λs'=>sC P G s' o KP)
def unO (Q:Nat) (o:Oper):Oper:=match o.op with
 | .alloc _=>{ o with op:=.move (.tmp Q) }
 |_=>o
def unA (Q:Nat) (ops:Array Oper):Array Oper:=⟨ops.toList.map (unO Q)⟩
def H7 (P:Program) (ops:Array Oper):Bool:=ops.toList.all λo=>match o.op with
 | .alloc T=>o.guard.isNone&&(match ti P T with | some i=>i.zero.isSome | none=>false)
 |_=>true
def H8 (ops:Array Oper) (stop:Nat) (A:List Nat):Bool:=A.all λk=>(List.range ops.size).any λj=>decide (k<j)&&(decide (j=stop)||A.contains j)&&((ops[j]?).map λo=>o.after.any λe=>Region.binds .any e&&(e.on==k)).getD false
def S5 (P:Program) (tr:List Nat) (ops:Array Oper) (Q stop:Nat) (A B:List Nat):Bool:=
 (A++B).all (λk=>(((unA Q ops)[k]?).map λo=>!lL tr o).getD false)&&B.all (λk=>(((unA Q ops)[k]?).map λo=>dK tr o !=2).getD false)&&((ops[stop]?).map λo=>o.guard.isNone).getD false&&H7 P ops&&
 H8 (unA Q ops) stop A&&(unA Q ops).toList.all (λo=>!(wr tr o).contains Q)&&decide (A.length+B.length<ops.size)&&match kC tr (unA Q ops) A (Array.replicate ops.size false) with
 |some l1=>(match kC tr (unA Q ops) B l1 with | some l2=>(Region.ready .any (unA Q ops) l2)==[stop] | none=>false)
 |none=>false
def S6 (P:Program) (G:Gl) (tr:List Nat) (ops:Array Oper) (s:S) (KP:Value->S->Prop):Prop:=
 ∃ Q stop A B o,ops[stop]?=some o/\S5 P tr ops Q stop A B=true/\s.fr Q=.un/\eU P G tr (unA Q ops) (jZ (unA Q ops) A) s λs1=>eU P G tr (unA Q ops) (jZ (unA Q ops) B) s1 (λ_=>True)/\
  ∀ fr,(∀ t,t∉(jZ (unA Q ops) B).flatMap (wr tr)->fr t=s1.fr t)->sC P G ⟨fr,s1.bx,s1.nb⟩ o KP
def Dm (P:Program) (G:Gl) (tr:List Nat) (ops:Array Oper) (s:S) (KP:Value->S->Prop):Prop:=S2 P G tr ops s KP∨S4 P G tr ops s KP∨S6 P G tr ops s KP
def Pa (tr:List Nat) (id:Nat):Bool:=tr.contains (2900000+id)
theorem iD {P:Program} {G:Gl} {tr:List Nat} {ops:Array Oper} {s:S} {KP:Value->S->Prop} {o:Oper} (Q stop:Nat) (A B:List Nat) {lA lB:List Oper} (ho:ops[stop]?=some o) (h:S5 P tr ops Q stop A B=true) (hQ:s.fr Q=.un) (hA:jZ (unA Q ops) A=lA) (hB:jZ (unA Q ops) B=lB)
 (hv:eU P G tr (unA Q ops) lA s λs1=>eU P G tr (unA Q ops) lB s1 (λ_=>True)/\∀ fr,(∀ t,t∉lB.flatMap (wr tr)->fr t=s1.fr t)->sC P G ⟨fr,s1.bx,s1.nb⟩ o KP):Dm P G tr ops s KP:=
 .inr (.inr ⟨Q,stop,A,B,o,ho,h,hQ,by rw[hA,hB];exact hv⟩)
theorem gx {P:Program} {G:Gl} {tr:List Nat} {ops:Array Oper} {s:S} {KP:Value->S->Prop} {o:Oper} {l:List Oper} (hl:ops.toList=l++[o]) (h:S3 tr ops l.length=true) (hv:eU P G tr ops l s (λs'=>sC P G s' o KP)):Dm P G tr ops s KP:=
 .inr<|.inl ⟨l.length,o,by rw[<- aY,hl];simp,h,by rw[hl,gG];exact hv;rfl⟩
def rL (P:Program) (G:Gl) (tr:List Nat) (k:Nat) (KP:Value->S->Prop):Code->(VE->S->Prop)->S->Prop
 | .region id ops d,Q,s=>if Pa tr id then spl tr id ops s (λs=>if d then vtw P G tr id ops s (Q .normal)∨Dm P G tr ops s KP else CH P G tr ops ops.toList s (Q .normal) KP) else gJ P G tr k (.region id ops d) Q s
 | .seq a b,Q,s=>rL P G tr k KP a (λe s'=>match e with | .normal=>rL P G tr k KP b Q s' | e=>Q e s') s
 | .cond c x y,Q,s=>match ev G s c with
  | .c (.lit (.bool p))=>(p=true->rL P G tr k KP x Q (refine s c true))/\(p=false->rL P G tr k KP y Q (refine s c false))
  |_=>False
 | .block id body,Q,s=>rL P G tr k KP body (λe s'=>match e with | .exit i=>if i=id then Q .normal s' else Q (.exit i) s' | e=>Q e s') s
 | .loop body,Q,s=>∃ n,uu k (rL P G tr k KP body) Q n s
 | .scope body,Q,s=>rL P G tr k KP body Q s
 |c,Q,s=>gJ P G tr k c Q s
def pW (n:Nat) (tr:List Nat):Code->Bool
 | .region id ops draw=>if Pa tr id then jN n ops&&(ops.toList.all λo=>!qy tr o)&&(!draw||(if N4 tr id then Dd tr ops else yq tr ops)) else cok n tr (.region id ops draw)
 | .seq a b=>pW n tr a&&pW n tr b
 | .cond _ a b=>pW n tr a&&pW n tr b
 | .block _ a=>pW n tr a
 | .loop a=>pW n tr a
 | .scope a=>pW n tr a
 |_=>true
theorem Pb {T:TypeId} {x:Operand} (ho:o.op=.makeInterface T x) (h:MG P T):(execOp a.eval o).run P w=.ok (.value (.iface T (a.eval x))) w:=by unfold execOp;simp only[ho];simp[aP,h (a.eval x) w]
theorem Pd {x:Operand} {T:TypeId} {u:Value} (ho:o.op=.panic x) (h:a.eval x=.iface T u):(execOp a.eval o).run P w=.halt (.panic (.iface T u)) w:=by unfold execOp;simp only[ho];simp[aP,h,Instr.panic,goPanic,Sem.run]
theorem wP {d:Tmp} {v:Value} (h:d<a.tmps.size):(a.put (some d) v).eval (.tmp d)=v:=by show(a.tmps.set! d v).getD d undef=v;simp[au,cu,h]
theorem wQ (hst:St G n I0 M w0 I β ob s a w) {f:FuncId} {vs:List Value} {all:List V} {ρ:List Nat} {cargs:List V} {b0 b1:List (List V)} {pv:Value}
 (dV:FnX P G f cargs b0 pv b1) (cP:ArgsL (Wr M w0) I β w vs all) (dC:all.map V.fz=cargs.map (V.ren (rho ρ s.nb))) (hρ:ρ.length=b0.length/\ρ.Nodup) (f9:pV s.bx s.nb (rho ρ s.nb) 0 b0)
 (bO:(execOp a.eval o).run P w=.ok (.enter f vs.toArray) w)
 (hk:∀ w',SE G n I0 M w0 { s with bx:=fC (rho ρ s.nb) 0 b1 s.bx,nb:=s.nb+(b1.length - b0.length) } a w'->Q (.panic [{ v:=pv,recovered:=false }]) a w'):o.wp P a w next Q:=by
 unfold Oper.wp;rw[bO];simp only[Oper.upon];obtain⟨hρl,hn⟩:=hρ;obtain⟨Cg,kR,fO⟩:=dV.2.1;have hl:∀ i,i<ρ.length->ρ.getD i 0<s.nb:=λi hi=>by obtain⟨b,hb⟩:∃ b,b0[i]?=some b:=⟨_,ak (by omega)⟩;have:=(nW b0 0 i b f9 hb).1;rw[ao] at this;simpa[rho,hi] using this
 have pZ:=uw hn hl;have cH:all.length=cargs.length:=by simpa using kK List.length dC
 refine (dV.2.2 I ⟨Mof β ob (rho ρ s.nb) b0.length,λ_=>none,[]⟩ w vs.toArray (kB β (rho ρ s.nb) b0.length) (obC ob (rho ρ s.nb) b0.length) hst.ibnd hst.glob (hst.give pZ f9 kR)
  (by have:=cP.1;simp;omega) (λj x hx=>?_)).mono ?_
 .have hj:j<cargs.length:=(am.1 hx).1
  have hz:all[j]?=some all[j]:=ak (by omega);have h1:=cP.2 j _ hz;have h2:all[j].fz=x.ren (rho ρ s.nb):=by have e1:(all.map V.fz)[j]?=some all[j].fz:=(by simp[hz]);have e2:(cargs.map (V.ren (rho ρ s.nb)))[j]?=some (x.ren (rho ρ s.nb)):=(by simp[hx]);rw[dC,e2] at e1;exact(ew e1).symm
  rw[h2] at h1;have h3:=h1.ren (β':=kB β (rho ρ s.nb) b0.length) (Cg x (bn hx)) (λi b hi hb=>by simp[kB,hi,hb]);have h4:=h3.wider (base':=Wr ⟨Mof β ob (rho ρ s.nb) b0.length,λ_=>none,[]⟩ w) λb hb=>by cases hb
  simpa using h4
 .rintro e w' ⟨I',β',ob',rfl,oI,L8,JP,sN,QG,JG,pU⟩
  simp only;exact hk _ ⟨_,_,_,(hst.called hρl hn f9 fO oI L8 JP sN QG JG pU).1⟩
theorem KX {ops:Array Oper} (dV:jN n ops=true) {KP:Value->S->Prop} (Ci:∀ v s a w,KP v s->SE G n I0 M w0 s a w->Q (.panic [{ v:=v,recovered:=false }]) a w) {l:List Oper} {k:Nat}
 (hl:ops.toList.drop k=o::l) (hst:St G n I0 M w0 I β ob s a w) (hg:o.guard=none) (h:wO P G s o l KP):wpOps P ops Q (List.range' k (l.length+1)) a w:=by
 have ng:ops[k]?=some o:=by
  have:(ops.toList.drop k)[0]?=some o:=by rw[hl];rfl
  rw[cn] at this;simpa using this
 have jL:o∈ops.toList:=cY (i:=k) (by rw[hl];simp);have hw:Region.wanted o (yielded ops a.tmps)=true:=by simp[Region.wanted,hg]
 simp only[jh,wpOps,ng];rw[if_pos hw];left;unfold wO at h;split at h
 .rename_i T x cC
  split at h
  .rename_i u o2 d hx hd
   obtain⟨⟨hi,GX,akc⟩,hk⟩:=h;have QR:d<n:=fi dV jL d hd;unfold Oper.wp;rw[Pb cC hi];simp only[Oper.upon];have ahp:ops[k+1]?=some o2:=(by have:(ops.toList.drop k)[1]?=some o2:=(by rw[hl];rfl);rw[cn] at this;simpa using this);have sW:∀ a:Act,Region.wanted o2 (yielded ops a.tmps)=true:=λa=>by simp[Region.wanted,GX]
   simp only[aI,aL,jh,wpOps,ahp];rw[if_pos (sW _)];left;unfold Oper.wp;have Aj:a.eval x=u:=(by have:=bM hst x;rw[hx] at this;exact this.lit);rw[Pd (T:=T) (u:=u) akc (by rw[hd,wP (by rw[hst.size];exact QR),Aj])];simp only[Oper.upon];refine Ci _ _ _ _ hk ?_;rw[hd];exact SE.put hst (dst:=some d) (λd' h'=>by cases h';exact QR) (by simp only[LR];exact .un _)
  .exact h.elim
 .rename_i f args ts cC
  split at h
  .rename_i g all lw
   obtain⟨ρ,cargs,b0,pv,b1,Me,dC,hρ,f9,hK⟩:=h;obtain⟨fn,h1,h2,c,h3⟩:=Me.1;have hf:=bM hst f;unfold eB at lw;split at lw
   .rename_i g' fs cs he
    simp only[ap,er] at lw;obtain⟨rfl,rfl⟩:=lw;rw[he] at hf;obtain⟨vf,vc,hv,q1,q2,q3,q4⟩:=hf.toC.fn_inv;have bO:=lW (P:=P) (w:=w) cC hv h1 h2 h3;refine wQ hst Me (vs:=vf.toList++args.toList.map a.eval++vc.toList) (((nK vf fs q1 q3).append (ml hst _)).append (nK vc cs q2 q4)) dC hρ f9 ?_ (λw'=>Ci _ _ _ _ hK);rw[bO];congr 2;apply dt;simp
   .rename_i g' fs cs he
    simp only[ap,er] at lw;obtain⟨rfl,rfl⟩:=lw;rw[he] at hf;simp only[LR] at hf;obtain⟨vf,vc,hv,q1,q2,q3,q4⟩:=hf;have bO:=lW (P:=P) (w:=w) cC hv h1 h2 h3;refine wQ hst Me (vs:=vf.toList++args.toList.map a.eval++vc.toList) (((nL vf fs q1 q3).append (ml hst _)).append (nL vc cs q2 q4)) dC hρ f9 ?_ (λw'=>Ci _ _ _ _ hK);rw[bO];congr 2;apply dt;simp
   .cases lw
  .exact h.elim
 .exact h.elim
theorem vK {ops:Array Oper} (dV:jN n ops=true) (hny:(ops.toList.all λo=>!qy tr o)=true) {K:S->Prop} {KP:Value->S->Prop} (hK:∀ a w s,K s->SE G n I0 M w0 s a w->Q .normal a w)
 (Ci:∀ v s a w,KP v s->SE G n I0 M w0 s a w->Q (.panic [{ v:=v,recovered:=false }]) a w):∀ (l:List Oper) (k:Nat),ops.toList.drop k=l->∀ (s:S) (a:Act) (w:World),
 CH P G tr ops l s K KP->SE G n I0 M w0 s a w->wpOps P ops Q (List.range' k l.length) a w
 |[],k,_,s,a,w,h,cM=>by simp only[aL,List.range'_zero,wpOps];exact hK _ _ _ h cM
 |o::l,k,hl,s,a,w,h,cM=>by
  have ng:ops[k]?=some o:=by have:(ops.toList.drop k)[0]?=some o:=(by rw[hl];rfl);rw[cn] at this;simpa using this
  have JO:ops.toList.drop (k+1)=l:=by rw[<- fS,hl];rfl
  have jL:o∈ops.toList:=cY (i:=k) (by rw[hl];simp);obtain⟨I,β,ob,hst⟩:=cM;rcases h with h | ⟨hg,h⟩
  .simp only[aI,jh,wpOps,ng]
   simp only[eU] at h;rcases rF hst h with⟨hw,h⟩ | ⟨hw,h⟩
   .rw[if_pos hw]
    refine .inl (nY (tr:=tr) hst (fi dV jL) (by simpa using a8.1 hny o jL) h λa' w' s' xP nJ=>?_);exact vK dV hny hK Ci l (k+1) JO s' a' w' xP nJ
   .rw[hw]
    simp only[ay,cD];exact vK dV hny hK Ci l (k+1) JO _ _ w h (SE.put hst (fi dV jL) (by simp only[LR];exact .sk))
  .exact KX dV Ci hl hst hg h
theorem tJ {KP:Value->S->Prop} (Ci:∀ v s a w,KP v s->SE G n I0 M w0 s a w->Q (.panic [{ v:=v,recovered:=false }]) a w) (hst:St G n I0 M w0 I β ob s a w) (h:sC P G s o KP):o.wp P a w next Q:=by
 unfold sC at h;split at h
 .rename_i f args ts cC
  split at h
  .rename_i g all lw
   obtain⟨ρ,cargs,b0,pv,b1,Me,dC,hρ,f9,hK⟩:=h;obtain⟨fn,h1,h2,c,h3⟩:=Me.1;have hf:=bM hst f;unfold eB at lw;split at lw
   .rename_i g' fs cs he
    simp only[ap,er] at lw;obtain⟨rfl,rfl⟩:=lw;rw[he] at hf;obtain⟨vf,vc,hv,q1,q2,q3,q4⟩:=hf.toC.fn_inv;have bO:=lW (P:=P) (w:=w) cC hv h1 h2 h3;refine wQ hst Me (vs:=vf.toList++args.toList.map a.eval++vc.toList) (((nK vf fs q1 q3).append (ml hst _)).append (nK vc cs q2 q4)) dC hρ f9 ?_ (λw'=>Ci _ _ _ _ hK);rw[bO];congr 2;apply dt;simp
   .rename_i g' fs cs he
    simp only[ap,er] at lw;obtain⟨rfl,rfl⟩:=lw;rw[he] at hf;simp only[LR] at hf;obtain⟨vf,vc,hv,q1,q2,q3,q4⟩:=hf;have bO:=lW (P:=P) (w:=w) cC hv h1 h2 h3;refine wQ hst Me (vs:=vf.toList++args.toList.map a.eval++vc.toList) (((nL vf fs q1 q3).append (ml hst _)).append (nL vc cs q2 q4)) dC hρ f9 ?_ (λw'=>Ci _ _ _ _ hK);rw[bO];congr 2;apply dt;simp
   .cases lw
  .exact h.elim
 .exact h.elim
def aik (P:Program) (G:Gl) (tr:List Nat) (ops:Array Oper) (stop:Nat) (C:S->Prop) (i:Nat) (K:S->Prop) (s:S):Prop:=pt P G tr ops i K s∨(i=stop/\C s)
def pA (P:Program) (G:Gl) (tr:List Nat) (md:Region.Mode) (ops:Array Oper) (stop:Nat) (C:S->Prop):Nat->Array Bool->S->Prop
 |0,_,_=>False
 |fuel+1,listed,s=>
  Region.ready md ops listed≠[]/\
  ∀ i∈Region.ready md ops listed,aik P G tr ops stop C i (pA P G tr md ops stop C fuel (listed.setIfInBounds i true)) s
theorem qf {ops:Array Oper} {md:Region.Mode} {stop:Nat} {C:S->Prop} {os:Oper} (CW:ops[stop]?=some os) (CX:os.guard=none) (dV:jN n ops=true)
 (hC:∀ s I β ob a w next,C s->St G n I0 M w0 I β ob s a w->os.wp P a w next Q):∀ (fuel:Nat) (listed:Array Bool) (s:S) (a:Act) (w:World),
 pA P G tr md ops stop C fuel listed s->SE G n I0 M w0 s a w->wpAny P md ops Q fuel listed a w
 |0,_,_,_,_,h,_=>h.elim
 |fuel+1,_,s,a,w,h,cM=>by
  refine⟨λh0=>absurd h0 h.1,λi hi=>?_⟩;have hh:=h.2 i hi;rcases hh with hh | ⟨rfl,hh⟩
  .unfold pt at hh
   unfold wpOp;split
   .rename_i ho;simp only[ho] at hh;exact qf CW CX dV hC fuel _ s a w hh cM
   .rename_i o ho
    simp only[ho] at hh;obtain⟨e,he,hh⟩:=hh;have jL:o∈ops.toList:=(by have:=fj ho;simpa using this);obtain⟨I,β,ob,hst⟩:=cM;rcases he with⟨hg,hv,_⟩ | ⟨hg,rfl⟩
    .rw[if_pos (kj hst hg)]
     exact .inl (ux hst (fi dV jL) hv λa' w' nJ=>qf CW CX dV hC fuel _ _ a' w' hh nJ)
    .rw[kj hst hg]
     simp only[ay,cD];rw[tq] at hh;exact qf CW CX dV hC fuel _ _ _ w hh (SE.put hst (fi dV jL) (by simp only[LR];exact .sk))
  .obtain⟨I,β,ob,hst⟩:=cM
   unfold wpOp;simp only[CW];rw[if_pos (by simp[Region.wanted,CX])];exact .inl (hC _ _ _ _ _ _ _ hh hst)
theorem zm {ops:Array Oper} {md:Region.Mode} {stop:Nat} {C:S->Prop} {i:Nat} {oi:Oper} {e:Ef} (hi:ops[i]?=some oi) (WJ:∀ s,C (e.run tr oi s)->C s) :
 ∀ (fuel:Nat) (listed:Array Bool) (s:S),FreeAt tr md ops listed i oi->
  i∈Region.ready md ops listed->TEf P G tr ops oi s e->
  pA P G tr md ops stop C fuel (listed.setIfInBounds i true) (e.run tr oi s)->pA P G tr md ops stop C (fuel+1) listed s:=by
 intro fuel;induction fuel with
 |zero=>intro listed s _ _ _ H;exact H.elim
 |succ fuel ih=>
  intro listed s sO hr hy H;refine⟨λh=>(by rw[h] at hr;cases hr),λj hj=>?_⟩;by_cases pe:j=i
  .subst pe;left;unfold pt;simp only[hi];exact⟨e,hy,H⟩
  .rcases H.2 j (jM hj pe) with h1 | ⟨h1,h2⟩
   .left
    obtain⟨_,oj,uT,_⟩:=iK.1 hj;obtain⟨u4,su⟩:=sO.step hr hj pe uT;unfold pt at h1 ⊢
    simp only[uT] at h1 ⊢
    obtain⟨f,hf,hK⟩:=h1;have zN:=hy.back u4 hf;refine⟨f,zN,ih (listed.setIfInBounds j true) _ su (jM hr (gz pe)) (hy.keep u4 zN) ?_⟩;rw[hZ _ _ pe,<- tw u4 hy zN];exact hK
   .exact .inr ⟨h1,WJ _ h2⟩
theorem Dn {ops:Array Oper} {stop:Nat} {C:S->Prop} (m:Nat) (ku:Array Bool) (WJ:∀ k o s e,k∈ahead ops stop->ops[k]?=some o->TEf P G tr ops o s e->∀ s',(C (e.run tr o s')↔C s'))
 (WC:∀ s',C s'->pA P G tr .any ops stop C m ku s'):∀ (ks:List Nat) (listed:Array Bool) (s:S),(∀ k∈ks,k∈ahead ops stop/\∃ o,ops[k]?=some o/\lL tr o=false)->
 kC tr ops ks listed=some ku->eU P G tr ops (jZ ops ks) s (λ_=>True)->C s->pA P G tr .any ops stop C (m+ks.length) listed s
 |[],listed,s,_,hB,_,hc=>by simp only[kC,ap] at hB;subst hB;exact WC _ hc
 |k::r,listed,s,hA,hB,h,hc=>by
  obtain⟨QN,o,ho,xT⟩:=hA k (aX ..);unfold kC at hB;split at hB
  .rename_i hcd
   simp only[aA] at hcd;obtain⟨hr,hf⟩:=hcd;simp only[jZ,ff,ho,eU] at h;obtain⟨e,he,hK⟩:=gw (K:=λs'=>eU P G tr ops (jZ ops r) s' λ_=>True) xT h;have:=zm ho (λs'=>(WJ k o s e QN ho he s').1) (m+r.length) listed s (k5 ho hf) (by simpa using hr) he
    (Dn m ku WJ WC r _ _ (λk hk=>hA k (aT _ hk)) hB hK ((WJ k o s e QN ho he s).2 hc))
   simpa[dw] using this
  .cases hB
theorem Fu {id:Nat} {ops:Array Oper} (hm:P.follows .mixedOrders=true) (dV:jN n ops=true) {KP:Value->S->Prop} (Ci:∀ v s a w,KP v s->SE G n I0 M w0 s a w->Q (.panic [{ v:=v,recovered:=false }]) a w)
 (h:S2 P G tr ops s KP) (cM:SE G n I0 M w0 s a w):(Code.region id ops true).wp P Q a w:=by
 refine wp_region_any hm ?_;obtain⟨stop,os,CW,GO,hv,aeJ⟩:=h;unfold afF at GO;simp only[aA,a8] at GO;obtain⟨⟨dC,CX⟩,wh⟩:=GO;simp only[CW,bQ,ba,Option.isNone_iff_eq_none] at CX;have hA:∀ k∈ahead ops stop,∃ o,ops[k]?=some o/\lL tr o=false/\dK tr o≠2:=λk hk=>by
  have:=dC k hk;cases ho:ops[k]? with
  |none=>simp[ho] at this
  |some o=>simp[ho] at this;exact⟨o,rfl,this.1,this.2⟩
 have nJ:SE G n I0 M w0 s a { w with drawn:=w.drawn+1 }:=by obtain⟨I,β,ob,hst⟩:=cM;exact⟨I,β,ob,hst.drew⟩
 split at wh
 .rename_i listed LU
  have L9:Region.ready .any ops listed=[stop]:=by simpa using wh
  let C:S->Prop:=λs'=>(∀ t,t∉wrs tr ops stop->s'.fr t=s.fr t)/\s'.bx=s.bx/\s'.nb=s.nb
  have WJ:∀ k o s1 e,k∈ahead ops stop->ops[k]?=some o->TEf P G tr ops o s1 e->∀ s',(C (e.run tr o s')↔C s'):=λk o s1 e hk ho he s'=>by
   obtain⟨o',ho',_,hm2⟩:=hA k hk;rw[ho] at ho';cases ho';obtain⟨q1,q2,_⟩:=mq (uy he hm2) s'.bx s'.nb 0;have hw:∀ t,t∉wrs tr ops stop->t∉wr tr o:=λt ht hto=>ht (by unfold wrs;exact j7.2 ⟨o,List.mem_filterMap.2 ⟨k,hk,ho⟩,hto⟩);show((∀ t,t∉wrs tr ops stop->(e.run tr o s').fr t=s.fr t)/\(e.run tr o s').bx=s.bx/\(e.run tr o s').nb=s.nb)↔_;rw[tu];simp only[q1,q2];constructor
   .rintro⟨h1,h2⟩
    exact⟨λt ht=>by have:=h1 t ht;rw[gb (hw t ht)] at this;exact this,h2⟩
   .rintro⟨h1,h2⟩
    exact⟨λt ht=>by rw[gb (hw t ht)];exact h1 t ht,h2⟩
  have key:=Dn (P:=P) (G:=G) (ops.size - (ahead ops stop).length) listed WJ (λs' hc=>?_) (ahead ops stop) (Array.replicate ops.size false) s (λk hk=>⟨hk,by obtain⟨o,h1,h2,_⟩:=hA k hk;exact⟨o,h1,h2⟩⟩) LU hv ⟨λ_ _=>rfl,rfl,rfl⟩
  .have cH:(ahead ops stop).length<=ops.size:=by have:=List.length_filter_le (λk=>!(tH ops stop).contains k) (List.range ops.size);simpa[ahead] using this
   rw[Nat.sub_add_cancel cH] at key;refine qf CW CX dV (λs' I β ob a w next hc hst=>?_) _ _ _ _ _ key nJ
   obtain⟨h1,h2,h3⟩:=hc;obtain⟨fr,bx,nb⟩:=s';simp only at h1 h2 h3;subst h2 h3;exact tJ Ci hst (aeJ fr h1)
  .have bF:(ahead ops stop).length<ops.size:=by have hs:stop<ops.size:=(bq.1 CW).1;have jL:stop∈Region.ready .any ops listed:=(by rw[L9];simp);have Z4:stop∉ahead ops stop:=(by intro f9;have:=(List.mem_filter.1 f9).2;have hb:(tH ops stop).contains stop=true:=zl hs;rw[hb] at this;cases this);have eF:(ahead ops stop).length<(List.range ops.size).length:=(by unfold ahead;rw[List.length_filter_lt_length_iff_exists];exact⟨stop,df.2 hs,by have hb:(tH ops stop).contains stop=true:=zl hs;show ¬ ((!(tH ops stop).contains stop)=true);rw[hb];simp⟩);simpa using eF
   obtain⟨q,hq⟩:∃ q,ops.size - (ahead ops stop).length=q+1:=⟨ops.size - (ahead ops stop).length - 1,by omega⟩;rw[hq];exact⟨by rw[L9];simp,λi hi=>by rw[L9] at hi;simp only[bu] at hi;exact .inr ⟨hi,hc⟩⟩
 .cases wh
theorem CJ {ops:Array Oper} {m:Nat} (h:tI ops m=true) {i:Nat} (hi:i<m):∃ k o,k≠i/\ops[k]?=some o/\∃ e∈o.after,Region.binds .any e=true/\e.on=i:=by
 unfold tI at h;rw[a8] at h;have h1:=h i (df.2 hi);rw[dN] at h1;obtain⟨k,_,h2⟩:=h1;simp only[aA,br] at h2;obtain⟨gu,h2⟩:=h2;cases ho:ops[k]? with
 |none=>simp[ho] at h2
 |some o=>simp only[ho,bQ,ba] at h2;rw[Array.any_eq_true'] at h2;obtain⟨e,he,h3⟩:=h2;simp only[aA,kA] at h3;exact⟨k,o,gu,ho,e,he,h3.1,h3.2⟩
def DC (ops:Array Oper) (listed:Array Bool):Prop:=∀ k o,ops[k]?=some o->listed.getD k false=true->∀ e∈o.after,Region.binds .any e=true->listed.getD e.on false=true
theorem DC.step {ops:Array Oper} {listed:Array Bool} {j:Nat} (h:DC ops listed) (hj:j∈Region.ready .any ops listed):DC ops (listed.setIfInBounds j true):=by
 intro k o ho hk e he hb;obtain⟨_,oj,uT,dC⟩:=iK.1 hj;by_cases hkj:k=j
 .subst hkj
  rw[uT] at ho;cases ho;exact Go.getD_set_true (dC e he hb)
 .rw[lC false (gz hkj)] at hk
  exact Go.getD_set_true (h k o ho hk e he hb)
theorem Fv {ops:Array Oper} {K0:S->Prop} {m:Nat} (QJ:tI ops m=true) (NV:m+1=ops.size) {i:Nat} {oi:Oper} {e:Ef} (hi:ops[i]?=some oi) :
 ∀ (fuel:Nat) (listed:Array Bool) (s:S),listed.size=ops.size->DC ops listed->FreeAt tr .any ops listed i oi->
  i∈Region.ready .any ops listed->TEf P G tr ops oi s e->
  zd P G tr ops (oO m ops.size) K0 fuel (listed.setIfInBounds i true) (e.run tr oi s)->zd P G tr ops (oO m ops.size) K0 (fuel+1) listed s:=by
 intro fuel;induction fuel with
 |zero=>
  intro listed s ej JS _ hr hy H;refine⟨λh=>(by rw[h] at hr;cases hr),λj hj=>?_⟩;by_cases pe:j=i
  .subst pe;unfold pt;simp only[hi];exact⟨e,hy,H⟩
  .exfalso
   obtain⟨Z8,oj,uT,dC⟩:=iK.1 hj;have N1:i<listed.size:=(by rw[ej];exact(bq.1 hi).1);have hjl:j<ops.size:=(bq.1 uT).1;have h1:(oO m ops.size).getD j true=false:=(by rw[<- H.1,lC true (gz pe)];exact Z8);have h2:(oO m ops.size).getD i false=true:=(by rw[<- H.1,au,Array.getElem?_setIfInBounds_self_of_lt N1];rfl);have hjm:=Be h1;have him:=De h2;have h4:=(iK.1 hr).1;obtain⟨k,ok,hki,dV,ed,hed,hb,WE⟩:=CJ QJ him;have JA:k<ops.size:=(bq.1 dV).1;have h5:listed.getD i false=true:=by
    by_cases hkj:k=j
    .subst hkj
     rw[uT] at dV;cases dV;have:=dC ed hed hb;rw[WE] at this;exact this
    .have hkm:k<m:=by omega
     have h6:listed.getD k false=true:=(by have h7:(listed.setIfInBounds i true).getD k false=true:=(by rw[H.1];unfold oO;rw[au,du,aM (by simpa using hkm)];simp[hkm]);rw[lC false (gz hki)] at h7;exact h7);have:=JS k ok dV h6 ed hed hb;rw[WE] at this;exact this
   rw[au,aF N1] at h5 h4;simp only[ba] at h5 h4;rw[h4] at h5;cases h5
 |succ fuel ih=>
  intro listed s ej JS sO hr hy H;refine⟨λh=>(by rw[h] at hr;cases hr),λj hj=>?_⟩;by_cases pe:j=i
  .subst pe;unfold pt;simp only[hi];exact⟨e,hy,H⟩
  .have h1:=H.2 j (jM hj pe)
   obtain⟨_,oj,uT,_⟩:=iK.1 hj;obtain⟨u4,su⟩:=sO.step hr hj pe uT;unfold pt at h1 ⊢
   simp only[uT] at h1 ⊢
   obtain⟨f,hf,hK⟩:=h1;have zN:=hy.back u4 hf;refine⟨f,zN,ih (listed.setIfInBounds j true) _ (by rw[eA];exact ej) (JS.step hj) su (jM hr (gz pe)) (hy.keep u4 zN) ?_⟩;rw[hZ _ _ pe,<- tw u4 hy zN];exact hK
theorem Bp {ops:Array Oper} {K0:S->Prop} {m:Nat} (QJ:tI ops m=true) (NV:m+1=ops.size):∀ (ks:List Nat) (listed:Array Bool) (s:S),listed.size=ops.size->DC ops listed->(∀ k∈ks,∃ o,ops[k]?=some o/\lL tr o=false)->
 kC tr ops ks listed=some (oO m ops.size)->eU P G tr ops (jZ ops ks) s K0->zd P G tr ops (oO m ops.size) K0 ks.length listed s
 |[],listed,s,_,_,_,hB,h=>by simp only[kC,ap] at hB;exact⟨hB,h⟩
 |k::r,listed,s,ej,JS,hA,hB,h=>by
  obtain⟨o,ho,xT⟩:=hA k (aX ..);unfold kC at hB;split at hB
  .rename_i hc
   simp only[aA] at hc;obtain⟨hr,hf⟩:=hc;have hr':k∈Region.ready .any ops listed:=(by simpa using hr);simp only[jZ,ff,ho,eU] at h;obtain⟨e,he,hK⟩:=gw (K:=λs'=>eU P G tr ops (jZ ops r) s' K0) xT h;exact Fv QJ NV ho r.length listed s ej JS (k5 ho hf) hr' he
    (Bp QJ NV r _ _ (by rw[eA];exact ej) (JS.step hr') (λk hk=>hA k (aT _ hk)) hB hK)
  .cases hB
theorem Fw {id:Nat} {ops:Array Oper} (hm:P.follows .mixedOrders=true) (dV:jN n ops=true) {KP:Value->S->Prop} (Ci:∀ v s a w,KP v s->SE G n I0 M w0 s a w->Q (.panic [{ v:=v,recovered:=false }]) a w)
 (h:S4 P G tr ops s KP) (cM:SE G n I0 M w0 s a w):(Code.region id ops true).wp P Q a w:=by
 refine wp_region_any hm ?_;obtain⟨stop,os,CW,GO,hv⟩:=h;unfold S3 at GO;simp only[aA,a8,d5,br,kA] at GO;obtain⟨⟨⟨⟨⟨ej,hA⟩,CX⟩,wh⟩,QJ⟩,L9⟩:=GO;simp only[CW,bQ,ba,Option.isNone_iff_eq_none] at CX;have nJ:SE G n I0 M w0 s a { w with drawn:=w.drawn+1 }:=by obtain⟨I,β,ob,hst⟩:=cM;exact⟨I,β,ob,hst.drew⟩
 have JI:jZ ops (List.range stop)=ops.toList.take stop:=by rw[eP,pw 0 _ (by omega)];rfl
 rw[<- JI] at hv;have WT:∀ k∈List.range stop,∃ o,ops[k]?=some o/\lL tr o=false:=λk hk=>by
  have hk:=df.1 hk;have bF:k<ops.size:=by omega
  refine⟨ops[k],aF bF,hA _ ?_⟩;rw[fH];exact⟨k,by rw[cy];omega,by simp⟩
 have h3:=Bp QJ ej (List.range stop) (Array.replicate ops.size false) s (by simp) (λk o ho hk=>by exfalso;simp only[au,Array.getElem?_replicate] at hk;split at hk<;>cases hk) WT wh hv;have h4:=tB (Q:=Q) (r:=1) dV (λa w s hs cM=>?_) _ _ _ _ _ h3 nJ
 .rw[jC,lG,ej] at h4
  exact h4
 .refine⟨λh0=>(by rw[L9] at h0;cases h0),λi hi=>?_⟩
  rw[L9,bu] at hi;subst hi;obtain⟨I,β,ob,hst⟩:=cM;unfold wpOp;simp only[CW];rw[if_pos (by simp[Region.wanted,CX])];exact .inl (tJ Ci hst hs)
theorem Fx {Q:Nat} {ops:Array Oper} {i:Nat}:(unA Q ops)[i]?=(ops[i]?).map (unO Q):=by unfold unA;simp
theorem Pe {Q:Nat} {o:Oper}:(unO Q o).after=o.after:=by unfold unO;split<;>rfl
theorem MH {Q:Nat} {o:Oper}:(unO Q o).dst=o.dst:=by unfold unO;split<;>rfl
theorem Pf {Q:Nat} {o:Oper}:(unO Q o).guard=o.guard:=by unfold unO;split<;>rfl
theorem Do {Q:Nat} {ops:Array Oper} {listed:Array Bool}:Region.ready .any (unA Q ops) listed=Region.ready .any ops listed:=by
 unfold Region.ready;have e:(unA Q ops).size=ops.size:=by unfold unA;simp
 rw[e];congr 1;funext j;rw[Fx];cases ops[j]? with
 |none=>rfl
 |some o=>simp only[bQ,Pe]
theorem S7 {Q:Nat} {ops:Array Oper} {o:Oper} {s:S}:uW (unA Q ops) (unO Q o) s=uW ops o s:=by
 unfold uW;rw[Pf];cases o.guard with
 |none=>rfl
 |some g=>
  obtain⟨j,want⟩:=g;simp only;have e:((unA Q ops)[j]?).bind (·.dst)=(ops[j]?).bind (·.dst):=by
   rw[Fx];cases ops[j]? with
   |none=>rfl
   |some o=>simp only[bQ,gi,MH]
  rw[e]
theorem S8 (hst:St G n I0 M w0 I β ob s a w) (hd:∀ d,o.dst=some d->d<n) {T:TypeId} (cC:o.op=.alloc T) {i:TI} (hi:ti P T=some i) (hz0:i.zero.isSome=true) (hk:∀ a' w',SE G n I0 M w0 (s.put o.dst .un) a' w'->next a' w'):o.wp P a w next Q:=by
 obtain⟨z,Z6⟩:=ib.1 hz0;obtain⟨j,d,h1,h2,_,_,_,_,hz,_⟩:=bL hi;rw[Z6] at hz;split at hz
 .rename_i zv vz
  refine eV (v':=.pointer (some ⟨w.heap.size,0,none⟩)) (w':=w.alloc (.cells zv.cells T)) ?_ (hk _ _ (SE.put (hst.allocOwn _) hd (by simp only[LR];exact .un _)));have bO:(Instr.alloc T true (.tuple #[])).run P w=.ok (.pointer (some ⟨w.heap.size,0,none⟩)) (w.alloc (.cells zv.cells T)):=by simp[Instr.alloc,zeroValue,typeInfo,h1,vz,newVar,newRow]
  obtain⟨dst,op,type,pos,after,guard⟩:=o;simp only at cC;subst cC;simp only[execOp,aP,bO,aD,bB]
 .cases hz
theorem vL {ops:Array Oper} {md:Region.Mode} {stop:Nat} {C C':S->Prop} (h:∀ s,C s->C' s):∀ (fuel:Nat) (listed:Array Bool) (s:S),pA P G tr md ops stop C fuel listed s->pA P G tr md ops stop C' fuel listed s
 |0,_,_,h0=>h0.elim
 |fuel+1,listed,s,h0=>by
  refine⟨h0.1,λi hi=>?_⟩;rcases h0.2 i hi with h1 | ⟨h1,h2⟩
  .left
   unfold pt at h1 ⊢
   split
   .rename_i ho;simp only[ho] at h1;exact vL h fuel _ _ h1
   .rename_i o ho
    simp only[ho] at h1;obtain⟨e,he,h3⟩:=h1;exact⟨e,he,vL h fuel _ _ h3⟩
  .exact .inr ⟨h1,h _ h2⟩
theorem Pg {ops:Array Oper} {stop:Nat} {A:List Nat} (h:H8 ops stop A=true) {listed:Array Bool} (JS:DC ops listed) (hr:stop∈Region.ready .any ops listed):∀ (m k:Nat),ops.size - k<=m->k∈A->listed.getD k false=true:=by
 intro m;induction m with
 |zero=>intro k hm hk;unfold H8 at h;obtain⟨j,hj,h2⟩:=dN.1 (a8.1 h k hk);simp only[aA,br] at h2;have:=df.1 hj;omega
 |succ m ih=>
  intro k hm hk;have h0:=h;unfold H8 at h0;obtain⟨j,hj,h2⟩:=dN.1 (a8.1 h0 k hk);simp only[aA,br,dS] at h2;obtain⟨⟨hkj,hjs⟩,h3⟩:=h2;have amf:=df.1 hj;cases ho:ops[j]? with
  |none=>simp[ho] at h3
  |some o=>
   simp only[ho,bQ,ba] at h3;rw[Array.any_eq_true'] at h3;obtain⟨e,he,h4⟩:=h3;simp only[aA,kA] at h4;rcases hjs with hjs | hjA
   .subst hjs
    obtain⟨_,oj,uT,dC⟩:=iK.1 hr;rw[ho] at uT;cases uT;have:=dC e he h4.1;rw[h4.2] at this;exact this
   .have h5:=ih j (by omega) (by simpa using hjA)
    have:=JS j o ho h5 e he h4.1;rw[h4.2] at this;exact this
theorem Fy {ops:Array Oper} {stop:Nat} {C:S->Prop} {i:Nat} {oi:Oper} {e:Ef} (hi:ops[i]?=some oi) (hns:∀ listed,DC ops listed->listed.getD i true=false->stop∉Region.ready .any ops listed) :
 ∀ (fuel:Nat) (listed:Array Bool) (s:S),DC ops listed->FreeAt tr .any ops listed i oi->
  i∈Region.ready .any ops listed->TEf P G tr ops oi s e->
  pA P G tr .any ops stop C fuel (listed.setIfInBounds i true) (e.run tr oi s)->pA P G tr .any ops stop C (fuel+1) listed s:=by
 intro fuel;induction fuel with
 |zero=>intro listed s _ _ _ _ H;exact H.elim
 |succ fuel ih=>
  intro listed s JS sO hr hy H;refine⟨λh=>(by rw[h] at hr;cases hr),λj hj=>?_⟩;by_cases pe:j=i
  .subst pe;left;unfold pt;simp only[hi];exact⟨e,hy,H⟩
  .rcases H.2 j (jM hj pe) with h1 | ⟨h1,h2⟩
   .left
    obtain⟨_,oj,uT,_⟩:=iK.1 hj;obtain⟨u4,su⟩:=sO.step hr hj pe uT;unfold pt at h1 ⊢
    simp only[uT] at h1 ⊢
    obtain⟨f,hf,hK⟩:=h1;have zN:=hy.back u4 hf;refine⟨f,zN,ih (listed.setIfInBounds j true) _ (JS.step hj) su (jM hr (gz pe)) (hy.keep u4 zN) ?_⟩;rw[hZ _ _ pe,<- tw u4 hy zN];exact hK
   .exfalso
    subst h1;exact hns listed JS (iK.1 hr).1 hj
theorem Bq {ops:Array Oper} {stop:Nat} {C:S->Prop} {A:List Nat} (aac:H8 ops stop A=true) {K:S->Prop} (m:Nat) (ku:Array Bool) (WC:∀ s1,K s1->pA P G tr .any ops stop C m ku s1):∀ (ks:List Nat) (listed:Array Bool) (s:S),DC ops listed->(∀ k∈ks,k∈A/\∃ o,ops[k]?=some o/\lL tr o=false)->
 kC tr ops ks listed=some ku->eU P G tr ops (jZ ops ks) s K->pA P G tr .any ops stop C (m+ks.length) listed s
 |[],listed,s,_,_,hB,h=>by simp only[kC,ap] at hB;subst hB;exact WC _ h
 |k::r,listed,s,JS,hA,hB,h=>by
  obtain⟨hkA,o,ho,xT⟩:=hA k (aX ..);unfold kC at hB;split at hB
  .rename_i hcd
   simp only[aA] at hcd;obtain⟨hr,hf⟩:=hcd;have hr':k∈Region.ready .any ops listed:=(by simpa using hr);simp only[jZ,ff,ho,eU] at h;obtain⟨e,he,hK⟩:=gw (K:=λs'=>eU P G tr ops (jZ ops r) s' K) xT h;refine Fy ho (λl JS hl hs=>?_) (m+r.length) listed s JS (k5 ho hf) hr' he
    (Bq aac m ku WC r _ _ (JS.step hr') (λk hk=>hA k (aT _ hk)) hB hK)
   have h1:=Pg aac JS hs _ k (ai _) hkA;rw[au] at h1 hl;cases WL:l[k]? with
   |none=>rw[WL] at h1;cases h1
   |some b=>rw[WL] at h1 hl;simp only[ba] at h1 hl;rw[h1] at hl;cases hl
  .cases hB
theorem Br {ops:Array Oper} {stop:Nat} {C:S->Prop} {B:List Nat} (m:Nat) (ku:Array Bool) (WJ:∀ k o s e,k∈B->ops[k]?=some o->TEf P G tr ops o s e->∀ s',(C (e.run tr o s')↔C s'))
 (WC:∀ s',C s'->pA P G tr .any ops stop C m ku s'):∀ (ks:List Nat) (listed:Array Bool) (s:S),(∀ k∈ks,k∈B/\∃ o,ops[k]?=some o/\lL tr o=false)->
 kC tr ops ks listed=some ku->eU P G tr ops (jZ ops ks) s (λ_=>True)->C s->pA P G tr .any ops stop C (m+ks.length) listed s
 |[],listed,s,_,hB,_,hc=>by simp only[kC,ap] at hB;subst hB;exact WC _ hc
 |k::r,listed,s,hA,hB,h,hc=>by
  obtain⟨QN,o,ho,xT⟩:=hA k (aX ..);unfold kC at hB;split at hB
  .rename_i hcd
   simp only[aA] at hcd;obtain⟨hr,hf⟩:=hcd;simp only[jZ,ff,ho,eU] at h;obtain⟨e,he,hK⟩:=gw (K:=λs'=>eU P G tr ops (jZ ops r) s' λ_=>True) xT h;exact zm ho (λs'=>(WJ k o s e QN ho he s').1) (m+r.length) listed s (k5 ho hf) (by simpa using hr) he
    (Br m ku WJ WC r _ _ (λk hk=>hA k (aT _ hk)) hB hK ((WJ k o s e QN ho he s).2 hc))
  .cases hB
theorem mV {ops:Array Oper} {stop Q0:Nat} {C:S->Prop} {os:Oper} (CW:ops[stop]?=some os) (CX:os.guard=none) (dV:jN n ops=true) (QM:H7 P ops=true) (uj:∀ o∈(unA Q0 ops).toList,Q0∉wr tr o)
 (hC:∀ s I β ob a w next,C s->St G n I0 M w0 I β ob s a w->os.wp P a w next Q):∀ (fuel:Nat) (listed:Array Bool) (s:S) (a:Act) (w:World),s.fr Q0=.un->
 pA P G tr .any (unA Q0 ops) stop C fuel listed s->SE G n I0 M w0 s a w->wpAny P .any ops Q fuel listed a w
 |0,_,_,_,_,_,h,_=>h.elim
 |fuel+1,listed,s,a,w,hQ,h,cM=>by
  refine⟨λh0=>absurd (by rw[Do];exact h0) h.1,λi hi=>?_⟩;have hh:=h.2 i (by rw[Do];exact hi);rcases hh with hh | ⟨rfl,hh⟩
  .unfold pt at hh
   unfold wpOp;rw[Fx] at hh;split
   .rename_i ho;simp only[ho,jw] at hh;exact mV CW CX dV QM uj hC fuel _ s a w hQ hh cM
   .rename_i o ho
    simp only[ho,bQ] at hh;obtain⟨e,he,hh⟩:=hh;have jL:o∈ops.toList:=(by have:=fj ho;simpa using this);have ahq:unO Q0 o∈(unA Q0 ops).toList:=(by unfold unA;exact List.mem_map_of_mem jL);have QL:(e.run tr (unO Q0 o) s).fr Q0=.un:=(by rw[tu];simp only;rw[gb (uj _ ahq)];exact hQ);obtain⟨I,β,ob,hst⟩:=cM;unfold TEf at he;rw[S7] at he;rcases he with⟨hg,hv,_⟩ | ⟨hg,rfl⟩
    .rw[if_pos (kj hst hg)]
     left;by_cases ha:∃ T,o.op=.alloc T
     .obtain⟨T,hT⟩:=ha
      have h1:=a8.1 QM o jL;rw[hT] at h1;simp only[aA] at h1;have hu:unO Q0 o={ o with op:=.move (.tmp Q0) }:=by unfold unO;rw[hT]
      cases hti:ti P T with
      |none=>rw[hti] at h1;cases h1.2
      |some ii=>
       rw[hti] at h1;have Aj:e.run tr (unO Q0 o) s=s.put o.dst .un:=by
        rw[hu] at hv ⊢
        unfold VEf at hv;simp only[VYK,ev,hQ,V.fz] at hv;obtain⟨v,rfl,hv⟩:=hv;have hv':v=.un:=(by split at hv<;>exact hv);subst hv';rw[wF];unfold S.after S.use;have:∀ t,cL tr { o with op:=.move (.tmp Q0) }=some t->t=Q0:=λt ht=>by
         unfold cL at ht;simp only at ht;split at ht
         .exact(ew ht).symm
         .cases ht
        cases hc:cL tr { o with op:=.move (.tmp Q0) } with
        |none=>rfl
        |some t=>rw[this t hc];simp[hQ,V.isOw]
       rw[Aj] at hh QL;exact S8 hst (fi dV jL) hT hti h1.2 λa' w' nJ=>mV CW CX dV QM uj hC fuel _ _ a' w' QL hh nJ
     .have hu:unO Q0 o=o:=by
       unfold unO;split
       .rename_i T hT;exact absurd ⟨T,hT⟩ ha
       .rfl
      rw[hu] at hv hh QL;exact ux hst (fi dV jL) hv λa' w' nJ=>mV CW CX dV QM uj hC fuel _ _ a' w' QL hh nJ
    .rw[kj hst hg]
     simp only[ay,cD];rw[tq] at hh QL;rw[MH] at hh QL;exact mV CW CX dV QM uj hC fuel _ _ _ w QL hh (SE.put hst (fi dV jL) (by simp only[LR];exact .sk))
  .obtain⟨I,β,ob,hst⟩:=cM
   unfold wpOp;simp only[CW];rw[if_pos (by simp[Region.wanted,CX])];exact .inl (hC _ _ _ _ _ _ _ hh hst)
theorem FA {id:Nat} {ops:Array Oper} (hm:P.follows .mixedOrders=true) (dV:jN n ops=true) {KP:Value->S->Prop} (Ci:∀ v s a w,KP v s->SE G n I0 M w0 s a w->Q (.panic [{ v:=v,recovered:=false }]) a w)
 (h:S6 P G tr ops s KP) (cM:SE G n I0 M w0 s a w):(Code.region id ops true).wp P Q a w:=by
 refine wp_region_any hm ?_;obtain⟨Q0,stop,A,B,os,CW,GO,hQ,hv⟩:=h;unfold S5 at GO;simp only[aA,br] at GO;obtain⟨⟨⟨⟨⟨⟨⟨xT,hBq⟩,CX⟩,QM⟩,aac⟩,uj⟩,cH⟩,wh⟩:=GO;simp only[CW,bQ,ba,Option.isNone_iff_eq_none] at CX;have nJ:SE G n I0 M w0 s a { w with drawn:=w.drawn+1 }:=by obtain⟨I,β,ob,hst⟩:=cM;exact⟨I,β,ob,hst.drew⟩
 have ahr:∀ k∈A++B,∃ o,(unA Q0 ops)[k]?=some o/\lL tr o=false:=λk hk=>by
  have:=a8.1 xT k hk;cases ho:(unA Q0 ops)[k]? with
  |none=>simp[ho] at this
  |some o=>simp[ho] at this;exact⟨o,rfl,this⟩
 split at wh
 .rename_i l1 hl1
  split at wh
  .rename_i l2 hl2
   have L9:Region.ready .any (unA Q0 ops) l2=[stop]:=(by simpa using wh);obtain⟨q,hq⟩:∃ q,ops.size - A.length - B.length=q+1:=⟨ops.size - A.length - B.length - 1,by omega⟩;have key:=Bq (P:=P) (G:=G) (C:=λs'=>sC P G s' os KP) aac (q+1+B.length) l1 (λs1 h1=>?_) A (Array.replicate ops.size false) s (λk o ho hk=>by exfalso;simp only[au,Array.getElem?_replicate] at hk;split at hk<;>cases hk)
    (λk hk=>⟨hk,ahr k (iu _ hk)⟩) hl1 hv
   .have e:q+1+B.length+A.length=ops.size:=by omega
    rw[e] at key;exact mV CW CX dV QM (λo ho=>by simpa using a8.1 uj o ho) (λs' I β ob a w next hc hst=>tJ Ci hst hc) _ _ _ _ _ hQ key nJ
   .obtain⟨hvB,aeJ⟩:=h1
    let C1:S->Prop:=λs'=>(∀ t,t∉(jZ (unA Q0 ops) B).flatMap (wr tr)->s'.fr t=s1.fr t)/\s'.bx=s1.bx/\s'.nb=s1.nb
    refine vL (C:=C1) (λs' xP=>?_) _ _ _ (Br (q+1) l2 (λk o s2 e hk ho he s'=>?_) (λs' hc=>?_) B l1 s1 (λk hk=>⟨hk,ahr k (List.mem_append_right _ hk)⟩) hl2 hvB ⟨λ_ _=>rfl,rfl,rfl⟩)
    .obtain⟨h1,h2,h3⟩:=xP
     obtain⟨fr,bx,nb⟩:=s';simp only at h1 h2 h3;subst h2 h3;exact aeJ fr h1
    .have hm2:dK tr o≠2:=by have:=a8.1 hBq k hk;simp[ho] at this;exact this
     obtain⟨q1,q2,_⟩:=mq (uy he hm2) s'.bx s'.nb 0;have hw:∀ t,t∉(jZ (unA Q0 ops) B).flatMap (wr tr)->t∉wr tr o:=λt ht hto=>ht (j7.2 ⟨o,List.mem_filterMap.2 ⟨k,hk,ho⟩,hto⟩);show((∀ t,t∉(jZ (unA Q0 ops) B).flatMap (wr tr)->(e.run tr o s').fr t=s1.fr t)/\(e.run tr o s').bx=s1.bx/\(e.run tr o s').nb=s1.nb)↔_;rw[tu];simp only[q1,q2];constructor
     .rintro⟨h1,h2⟩
      exact⟨λt ht=>by have:=h1 t ht;rw[gb (hw t ht)] at this;exact this,h2⟩
     .rintro⟨h1,h2⟩
      exact⟨λt ht=>by rw[gb (hw t ht)];exact h1 t ht,h2⟩
    .exact⟨by rw[L9];simp,λi hi=>by rw[L9] at hi;simp only[bu] at hi;exact .inr ⟨hi,hc⟩⟩
  .cases wh
 .cases wh
theorem H9 {id:Nat} {ops:Array Oper} (hm:P.follows .mixedOrders=true) (dV:jN n ops=true) {KP:Value->S->Prop} (Ci:∀ v s a w,KP v s->SE G n I0 M w0 s a w->Q (.panic [{ v:=v,recovered:=false }]) a w)
 (h:Dm P G tr ops s KP) (cM:SE G n I0 M w0 s a w):(Code.region id ops true).wp P Q a w:=by
 rcases h with h | h | h
 .exact Fu hm dV Ci h cM
 .exact Fw hm dV Ci h cM
 .exact FA hm dV Ci h cM
theorem vM {k0:Nat} (sY:sZ tr=false) (hm:P.follows .mixedOrders=true) (qL:∀ i b,M.e i=some b->i<k0) (KP:Value->S->Prop) (Q:Exit->Act->World->Prop) (Ci:∀ v s a w,KP v s->SE G n I0 M w0 s a w->Q (.panic [{ v:=v,recovered:=false }]) a w) :
 ∀ (c:Code) (_hc:pW n tr c=true) (q:VE->S->Prop) (R:Exit->Act->World->Prop) (_hQ:∀ e s a w,q e s->SE G n I0 M w0 s a w->R e.ex a w) (_hR:∀ ch a w,Q (.panic ch) a w->R (.panic ch) a w) (s:S) (a:Act) (w:World),
 rL P G tr k0 KP c q s->SE G n I0 M w0 s a w->c.wp P R a w:=by
 intro c;induction c with
 |region id ops draw=>
  intro hc q R hQ hR s a w h cM;simp only[rL] at h;simp only[pW] at hc;by_cases hp:Pa tr id=true
  .rw[if_pos hp] at h hc
   simp only[aA,dS,d5] at hc;obtain⟨⟨hd,hny⟩,vA⟩:=hc;obtain⟨s,h,cM⟩:=Dg hd h cM;cases draw with
   |true=>
    simp only[bY] at h;rcases h with h | h
    .have aab:=vA.resolve_left (by simp)
     unfold vtw at h;by_cases htw:N4 tr id=true
     .rw[if_pos htw] at h aab
      exact yr hm hd aab (λa w s hk cM=>hQ .normal s a w hk cM) h cM
     .rw[if_neg htw] at h aab
      exact wL hm hd aab (λa w s hk cM=>hQ .normal s a w hk cM) h cM
    .exact H9 hm hd (λv s a w hk cM=>hR _ _ _ (Ci v s a w hk cM)) h cM
   |false=>
   simp only[ay,cD] at h;refine wp_region ?_;have:=vK (Q:=R) hd hny (λa w s hk cM=>hQ .normal s a w hk cM) (λv s a w hk cM=>hR _ _ _ (Ci v s a w hk cM)) ops.toList 0 rfl s a w h cM;rw[eP];simpa using this
  .rw[if_neg hp] at h hc
   exact vI hm qL sY _ hc q R hQ s a w h cM
 |seq x y ihx ihy=>
  intro hc q R hQ hR s a w h cM;simp only[pW,aA] at hc;simp only[rL] at h;refine wp_seq (ihx hc.1 _ _ (λe s a w hk cM=>?_) (λch a w h=>?_) s a w h cM)
  rotate_left
  .exact hR ch a w h
  cases e with
  |normal=>exact ihy hc.2 q R hQ hR s a w hk cM
  |exit i=>exact hQ (.exit i) s a w hk cM
  |ret=>exact hQ .ret s a w hk cM
 |cond c x y ihx ihy=>
  intro hc q R hQ hR s a w h cM;simp only[pW,aA] at hc;simp only[rL] at h;split at h
  .rename_i p hp
   obtain⟨I,β,ob,hst⟩:=cM;have QD:a.eval c=.bool p:=(by have:=bM hst c;rw[hp] at this;exact this.lit);have GU:refine s c p=s:=by
    cases c with
    |tmp t=>simp only[refine];simp only[ev] at hp;exact S.up_id hp
    |_=>rfl
   refine wp_cond_split QD (λht=>?_) (λhf=>?_)
   .have:=h.1 ht
    rw[ht] at GU;rw[GU] at this;exact ihx hc.1 q R hQ hR s a w this ⟨I,β,ob,hst⟩
   .have:=h.2 hf
    rw[hf] at GU;rw[GU] at this;exact ihy hc.2 q R hQ hR s a w this ⟨I,β,ob,hst⟩
  .exact h.elim
 |block id body ih=>
  intro hc q R hQ hR s a w h cM;simp only[pW] at hc;simp only[rL] at h;refine wp_block (ih hc _ _ (λe s a w hk cM=>?_) (λch a w h=>?_) s a w h cM)
  rotate_left
  .exact hR ch a w h
  cases e with
  |normal=>exact hQ .normal s a w hk cM
  |exit i=>
   simp only[VE.ex,Exit.inBlock] at hk ⊢
   split
   .rename_i e;rw[if_pos e] at hk;exact hQ .normal s a w hk cM
   .rename_i e;rw[if_neg e] at hk;exact hQ (.exit i) s a w hk cM
  |ret=>exact hQ .ret s a w hk cM
 |loop body ih=>
  intro hc q R hQ hR s a w h cM;simp only[pW] at hc;simp only[rL] at h;obtain⟨k,h⟩:=h;refine wp_loop_rounds k ?_;induction k generalizing s a w with
  |zero=>exact h.elim
  |succ k ihk=>
   simp only[uu] at h;obtain⟨s',fO,h⟩:=h;rw[rounds_succ];refine ih hc _ _ (λe s a w hk cM=>?_) (λch a w h=>?_) s' a w h (by rcases fO with rfl | fO;exact cM;exact cM.weaken qL fO)
   rotate_left
   .exact hR ch a w h
   cases e with
   |normal=>exact ihk s a w cM hk
   |exit i=>exact hQ (.exit i) s a w hk cM
   |ret=>exact hQ .ret s a w hk cM
 |scope body ih=>
  intro hc q R hQ hR s a w h cM;simp only[pW] at hc;simp only[rL] at h;refine wp_scope_straight (ih hc _ _ (λe s a w hk cM=>?_) (λch a w h=>?_) s a w h cM)
  rotate_left
  .exact hR ch a w h
  cases e with
  |normal=>exact hQ .normal s a w hk cM
  |exit i=>exact hQ (.exit i) s a w hk cM
  |ret=>exact hQ .ret s a w hk cM
 |rangeFunc f ps assign body=>intro _ q R hQ _ s a w h cM;simp only[rL,gJ] at h;have:=h.1;rw[sY] at this;cases this
 |_=>intro _ q R hQ _ s a w h cM;exact vI hm qL sY _ (n:=n) (tr:=tr) (by simp[cok]) q R hQ s a w h cM
def X8 (k:Nat) (pv:Value) (b1:List (List V)) (v:Value) (s:S):Prop:=v=pv/\∃ l,S.Le k (hdS l b1) s
theorem X9 {f:FuncId} {fn:Func} {c:Code} {args:List V} {b0 b1:List (List V)} {pv:Value} (tr:List Nat) (hm:P.follows .mixedOrders=true) (hf:P.funcs[f]?=some fn) (hb:fn.body=some c)
 (gZ:(fn.name== "runtime.NumGoroutine")=false) (hn:args.length<=fn.ntmps) (pS:pW fn.ntmps tr c=true)
 (JR:(∀ x∈args,x.lt b0.length)/\(∀ b∈b0,∀ x∈b,x.lt b0.length)/\b0.length<=b1.length)
 (h:rL P G tr b0.length (X8 b0.length pv b1) c (λ_ _=>False) ⟨λj=>args.getD j .un,bxs b0,b0.length⟩) (sY:sZ tr=false:=by rfl):FnX P G f args b0 pv b1:=by
 refine⟨⟨fn,hf,gZ,c,hb⟩,JR,λI M w vs β ob hI hg hB ej ha=>?_⟩;have iU:fn.ntmps=(vs++Array.replicate (fn.ntmps - vs.size) undef).size:=by simp;omega
 have hst:=St.initB (n:=fn.ntmps) hI hg hB ej ha iU;have pT:∀ i b,β i=some b->i<b0.length:=λi b hi=>by
  by_cases h:i<b0.length
  .exact h
  .rw[hB.bnone i (by omega)] at hi;cases hi
 refine calls_of_wp hf hb (vM sY hm (λi b hi=>pT i b hi) _ _ (λv s a w' hq cM=>?_) c pS _ _ (λe s a w' hq cM=>hq.elim) (λ_ _ _ h=>h) _ _ _ h ⟨_,_,_,hst⟩);obtain⟨rfl,l,fO⟩:=hq;obtain⟨I',β',ob',bP⟩:=cM.weaken (λi b hi=>pT i b hi) fO;refine⟨bP.defers,I',β',λi j=>if i<b1.length then ob' (.b i j) else none,rfl,⟨bP.below.os,bP.below.tape,bP.below.output,bP.below.size,bP.below.block,bP.below.drawn⟩,bP.ilow,λb o xW=>?_,bP.kept,λi hi=>?_,λi b hi hb=>?_,?_⟩
 .rcases bP.ihigh b o xW with h4 | h4
  .exact .inl h4
  .exact .inr ⟨h4,bP.ibnd b o xW⟩
 .obtain⟨blk,_,e1,_⟩:=hB.bx i _ (ak hi)
  rw[e1];exact bP.ext i blk e1
 .rcases bP.bnew i b hb with h4 | h4
  .have:=pT i b h4;omega
  .exact h4
 .exact {
   bx:=λi cs ju=>by have hi:i<b1.length:=(am.1 ju).1;obtain⟨blk,cur,e1,e2,e3,e4,e5,e7⟩:=bP.bx i hi;have e:bxs b1 i=cs:=(by simp[bxs,List.getD,ju]);refine⟨blk,cur,e1,e2,by simp only[hdS,e] at e3;exact e3,by simp only[hdS,e] at e4;exact e4,λj=>?_,e7⟩;have:=e5 j;simp only[hdS,e] at this;rw[if_pos hi];exact this
   bnone:=λi hi=>bP.bnone i hi
   binj:=bP.binj
   oinj:=λi j i' j' b h h'=>by
    split at h<;>try cases h
    split at h'<;>try cases h'
    have:=bP.oinj _ _ b h h';simp only[Loc.b.injEq] at this;exact this
   obx:=λi j b k h=>by
    split at h<;>try cases h
    exact bP.obx _ b k h
   obnd:=λi j b h=>by
    split at h<;>try cases h
    exact bP.obnd _ b h
   olen:=λi j hi=>by rw[if_neg (by omega)] }
def Wts (P:Program) (caps:Array Value):List (Nat×TypeId×Value)->World->World->Prop
 |[],w,w'=>w'=w
 |(i,T,z)::l,w,w'=>∃ w1,(Instr.storeAt T (caps.getD i undef) z).run P w=.ok () w1/\Wts P caps l w1 w'
def afG (P:Program) (g:FuncId) (k:Nat) (v:Value) (l:List (Nat×TypeId×Value)):Prop:=∀ (caps:Array Value) (w w':World),caps.size=k->Wts P caps l w w'->
 CallsD P g caps (.panicking [{ v:=v,recovered:=false }]) w λe u' w''=>(∃ x,e=.returned x)/\u'=.panicking [{ v:=v,recovered:=true }]/\w''=w'
def ab9 (P:Program) (G:Gl) (tr:List Nat) (d:Tmp) (cs:List V) (K:S->Prop):List (Tmp×Nat×TypeId×Value×V)->S->Prop
 |[],s=>K s
 |(p,i,T,z,x)::l,s=>(p≠d/\(∃ j off,s.fr p=.bp j off/\cs[i]?=some (.bp j off))/\∀ I w,DR I w z x)/\
   VStep P G tr ⟨none,.store T (.tmp p) (.tmp d),T, "",#[],none⟩ (s.put (some d) x) (λs'=>ab9 P G tr d cs K l (s'.put (some d) .un))
theorem S9 {d:Tmp} {z:Value} (h:d<a.tmps.size):(a.put (some d) z).put (some d) (a.tmps.getD d undef)=a:=by
 have:(a.tmps.set! d z).set! d (a.tmps.getD d undef)=a.tmps:=by
  apply j8
  .simp[cu]
  .intro i h1 h2
   simp only[cu,Array.setIfInBounds_setIfInBounds,gk h2];split
   .rename_i e;subst e;simp[Array.getD,h2]
   .rfl
 show(⟨(a.tmps.set! d z).set! d (a.tmps.getD d undef),a.defers⟩:Act)=a;rw[this]
theorem Ta {p d:Tmp} {T:TypeId} {z:Value} {x:V} {K:S->Prop} (hst:St G n I0 M w0 I β ob s a w) (hd:d<n) (hp:p≠d) (hz:∀ I w,DR I w z x)
 (h:VStep P G tr ⟨none,.store T (.tmp p) (.tmp d),T, "",#[],none⟩ (s.put (some d) x) K):∃ w1 s1,(Instr.storeAt T (a.tmps.getD p undef) z).run P w=.ok () w1/\K s1/\SE G n I0 M w0 (s1.put (some d) .un) a w1:=by
 have cM:SE G n I0 M w0 (s.put (some d) x) (a.put (some d) z) w:=SE.put hst (dst:=some d) (λd' h'=>by cases h';exact hd) (.ofDR (hz I w));obtain⟨I1,β1,ob1,pP⟩:=cM;have ej:d<a.tmps.size:=by rw[hst.size];exact hd
 have e1:(a.put (some d) z).eval (.tmp p)=a.tmps.getD p undef:=by show(a.tmps.set! d z).getD p undef=_;simp[au,cu,Array.getElem?_setIfInBounds,gz hp]
 have e2:(a.put (some d) z).eval (.tmp d)=z:=wP ej;have hw:=nY (tr:=tr) (next:=λa' w'=>a'=a.put (some d) z->∃ s1,K s1/\SE G n I0 M w0 s1 (a.put (some d) z) w') (Q:=λ_ _ _=>False) pP (λd' h'=>by cases h') rfl h (λa' w' s' hk cM e=>⟨s',hk,e▸cM⟩)
 unfold Oper.wp at hw;have hx:(execOp (a.put (some d) z).eval ⟨none,.store T (.tmp p) (.tmp d),T, "",#[],none⟩)=(do Instr.storeAt T (a.tmps.getD p undef) z;pure .skip):=by unfold execOp;simp only[e1,e2]
 rw[hx] at hw;simp only[aP] at hw;cases hr:(Instr.storeAt T (a.tmps.getD p undef) z).run P w with
 |halt h' w'=>rw[hr] at hw;simp only[Result.andThen] at hw;cases h'<;>simp only[Oper.upon] at hw
 |ok u w1=>rw[hr] at hw;have hw:(a.put (some d) z).put none undef=a.put (some d) z->∃ s1,K s1/\SE G n I0 M w0 s1 (a.put (some d) z) w1:=hw;obtain⟨s1,hk,cM⟩:=hw rfl;refine⟨w1,s1,rfl,hk,?_⟩;obtain⟨I2,β2,ob2,oG⟩:=cM;have:=SE.put (v:=a.tmps.getD d undef) oG (dst:=some d) (λd' h'=>by cases h';exact hd) (x:=.un) (by simp only[LR];exact .un _);rw[S9 ej] at this;exact this
theorem Dp {d:Tmp} (hd:d<n) {cs:List V} {vc:Array Value} {K:S->Prop}:∀ (l:List (Tmp×Nat×TypeId×Value×V)) (s:S) (w:World),ab9 P G tr d cs K l s->SE G n I0 M w0 s a w->
 (∀ I β ob w s p i j off,St G n I0 M w0 I β ob s a w->s.fr p=.bp j off->cs[i]?=some (.bp j off)->a.tmps.getD p undef=vc.getD i undef)->
 ∃ w' s',Wts P vc (l.map λq=>(q.2.1,q.2.2.1,q.2.2.2.1)) w w'/\K s'/\SE G n I0 M w0 s' a w'
 |[],s,w,h,cM,_=>⟨w,s,rfl,h,cM⟩
 |(p,i,T,z,x)::l,s,w,h,cM,hv=>by obtain⟨⟨hp,⟨j,off,hf,hc⟩,hz⟩,h⟩:=h;obtain⟨I,β,ob,hst⟩:=cM;obtain⟨w1,s1,bO,hk,ake⟩:=Ta (z:=z) hst hd hp hz h;obtain⟨w',s',h1,h2,h3⟩:=Dp hd l _ _ hk ake hv;refine⟨w',s',⟨w1,?_,h1⟩,h2,h3⟩;rw[<- hv I β ob w s p i j off hst hf hc];exact bO
section
variable {fr:Nat->V} {bx:Nat->List V} {nb:Nat} {K:S->Prop} {KP:Value->S->Prop} {Q:VE->S->Prop}
def pwp (P:Program) (G:Gl) (tr:List Nat) (KP:Value->S->Prop):Code->(VE->S->Prop)->S->Prop:=rL P G tr (ou tr) KP
def aar (P:Program) (G:Gl) (tr:List Nat) (KP:Value->S->Prop) (b:Code) (Q:VE->S->Prop) (e:VE) (s:S):Prop:=match e with | .normal=>pwp P G tr KP b Q s | e=>Q e s
def Ia (P:Program) (G:Gl) (tr:List Nat) (KP:Value->S->Prop) (v:V) (c:Operand) (x y:Code) (Q:VE->S->Prop) (s:S):Prop:=match v with
 | .c (.lit (.bool p))=>(p=true->pwp P G tr KP x Q (refine s c true))/\(p=false->pwp P G tr KP y Q (refine s c false))
 |_=>False
def Ph (P:Program) (G:Gl) (tr:List Nat) (ops:Array Oper) (r:List Oper) (K:S->Prop) (KP:Value->S->Prop) (s:S):Prop:=CH P G tr ops r s K KP
def bV:Op->Bool
 | .makeInterface _ _=>true
 | .call { callee:=.value _,.. }=>true
 |_=>false
def Tb (P:Program) (G:Gl) (tr:List Nat) (ops:Array Oper) (o:Oper) (r:List Oper) (K:S->Prop) (KP:Value->S->Prop) (s:S):Bool->Prop
 |false=>eU P G tr ops [o] s (Ph P G tr ops r K KP)
 |true=>eU P G tr ops [o] s (Ph P G tr ops r K KP)∨(o.guard=none/\wO P G s o r KP)
def Ya (P:Program) (G:Gl) (tr:List Nat) (id:Nat) (ops:Array Oper) (K:S->Prop) (KP:Value->S->Prop) (d:Bool) (s:S):Prop:=if d then vtw P G tr id ops s K∨Dm P G tr ops s KP else CH P G tr ops ops.toList s K KP
theorem Yb {id:Nat} {ops:Array Oper} {d:Bool}:Ya P G tr id ops K KP d ⟨fr,bx,nb⟩=if d then(if tr.contains (2800000+id) then G0 P G tr ops ⟨fr,bx,nb⟩ K else eU P G tr ops ops.toList ⟨fr,bx,nb⟩ K)∨Dm P G tr ops ⟨fr,bx,nb⟩ KP else CH P G tr ops ops.toList ⟨fr,bx,nb⟩ K KP:=rfl
theorem Ib {i:Nat} {ops:Array Oper} {d:Bool}:pwp P G tr KP (.region i ops d) Q ⟨fr,bx,nb⟩=if Pa tr i then(if J1 tr i then spl tr i ops ⟨fr,bx,nb⟩ (Ya P G tr i ops (Q .normal) KP d) else Ya P G tr i ops (Q .normal) KP d ⟨fr,bx,nb⟩) else gJ P G tr (ou tr) (.region i ops d) Q ⟨fr,bx,nb⟩:=by
 show(if Pa tr i then spl tr i ops ⟨fr,bx,nb⟩ (Ya P G tr i ops (Q .normal) KP d) else gJ P G tr (ou tr) (.region i ops d) Q ⟨fr,bx,nb⟩)=_
 congr 1;unfold spl;split<;>rfl
theorem Yc {i:Nat}:Pa tr i=tr.contains (2900000+i):=rfl
theorem Tc {a b:Code}:pwp P G tr KP (.seq a b) Q ⟨fr,bx,nb⟩=pwp P G tr KP a (aar P G tr KP b Q) ⟨fr,bx,nb⟩:=rfl
theorem Pi:pwp P G tr KP .skip Q ⟨fr,bx,nb⟩=Q .normal ⟨fr,bx,nb⟩:=rfl
theorem Td:pwp P G tr KP .ret Q ⟨fr,bx,nb⟩=Q .ret ⟨fr,bx,nb⟩:=rfl
theorem Pj {c:Operand} {x y:Code}:pwp P G tr KP (.cond c x y) Q ⟨fr,bx,nb⟩=Ia P G tr KP (ev G ⟨fr,bx,nb⟩ c) c x y Q ⟨fr,bx,nb⟩:=rfl
theorem Bs {c:Operand} {x y:Code}:Ia P G tr KP (.c (.lit (.bool true))) c x y Q ⟨fr,bx,nb⟩=pwp P G tr KP x Q (refine ⟨fr,bx,nb⟩ c true):=by simp[Ia]
theorem zZ {c:Operand} {x y:Code}:Ia P G tr KP (.c (.lit (.bool false))) c x y Q ⟨fr,bx,nb⟩=pwp P G tr KP y Q (refine ⟨fr,bx,nb⟩ c false):=by simp[Ia]
theorem FB {b:Code} {s:S}:aar P G tr KP b Q .normal s=pwp P G tr KP b Q s:=rfl
theorem Te {ops:Array Oper}:CH P G tr ops [] ⟨fr,bx,nb⟩ K KP=K ⟨fr,bx,nb⟩:=rfl
theorem Yd {ops:Array Oper} {d:Option Tmp} {op:Op} {ty:TypeId} {pos:String} {af:Array Edge} {g:Option (Nat×Bool)} {r:List Oper} :
 CH P G tr ops (⟨d,op,ty,pos,af,g⟩::r) ⟨fr,bx,nb⟩ K KP=Tb P G tr ops ⟨d,op,ty,pos,af,g⟩ r K KP ⟨fr,bx,nb⟩ (bV op):=by
 have gen:bV op=false->CH P G tr ops (⟨d,op,ty,pos,af,g⟩::r) ⟨fr,bx,nb⟩ K KP=eU P G tr ops [⟨d,op,ty,pos,af,g⟩] ⟨fr,bx,nb⟩ (Ph P G tr ops r K KP):=λh=>by
  refine propext ⟨λhh=>?_,λhh=>.inl hh⟩;rcases hh with hh | ⟨_,hh⟩
  .exact hh
  .exfalso
   unfold wO at hh;unfold bV at h;split at hh<;>first | exact hh | (rename_i e;simp only at e;rw[e] at h;cases h)
 cases h:bV op with
 |false=>exact gen h
 |true=>rfl
theorem Tf {ops:Array Oper} {o:Oper} {r:List Oper}:Tb P G tr ops o r K KP ⟨fr,bx,nb⟩ false=eU P G tr ops [o] ⟨fr,bx,nb⟩ (Ph P G tr ops r K KP):=rfl
theorem Pk {ops:Array Oper} {o:Oper} {r:List Oper}:Tb P G tr ops o r K KP ⟨fr,bx,nb⟩ true=(eU P G tr ops [o] ⟨fr,bx,nb⟩ (Ph P G tr ops r K KP)∨(o.guard=none/\wO P G ⟨fr,bx,nb⟩ o r KP)):=rfl
theorem Ye {ops:Array Oper} {r:List Oper}:Ph P G tr ops r K KP ⟨fr,bx,nb⟩=CH P G tr ops r ⟨fr,bx,nb⟩ K KP:=rfl
def pkX:=jj @Ib (jj @Yc (jj @Yb (jj @Tc (jj @Pi (jj @Td (jj @Pj (jj @Bs (jj @zZ (jj @FB (jj @Te (jj @Yd (jj @Tf (jj @Pk @Ye)))))))))))))
theorem Yf {T ty ty':TypeId} {d:Nat} {x:Operand} {u:Value} {pos pos':String} {af af':Array Edge} {d':Option Tmp} {A:Prop} {s:S} (hT:MG P T) (hx:ev G s x=.c (.lit u)) (h:KP (.iface T u) (s.put (some d) .un)) :
 A∨wO P G s ⟨some d,.makeInterface T x,ty,pos,af,none⟩ [⟨d',.panic (.tmp d),ty',pos',af',none⟩] KP:=by
 refine .inr ?_;unfold wO;simp only[hx];refine⟨⟨hT,?_,?_⟩,h⟩<;>trivial
theorem Tg {f:FuncId} {fn:Func} {c:Code} {args:List V} {b0 b1:List (List V)} {pv:Value} (tr:List Nat) (hm:P.follows .mixedOrders=true) (hf:P.funcs[f]?=some fn) (hb:fn.body=some c) (gZ:(fn.name== "runtime.NumGoroutine")=false)
 {n:Nat} (hn:fn.ntmps=n) (pS:pW n tr c=true) (cH:args.length<=n) {k:Nat} (hk:ou tr=k) (um:b0.length=k)
 (cP:eM args b0=true) (fO:b0.length<=b1.length)
 (h:pwp P G tr (X8 k pv b1) c (λ_ _=>False) ⟨frm 0 args,bxs b0,k⟩) (sY:sZ tr=false:=by rfl):FnX P G f args b0 pv b1:=by
 subst hn;subst um;simp only[eM,aA,a8] at cP;refine X9 tr hm hf hb gZ cH pS ⟨λx hx=>V.ltB_ok (cP.1 x hx),λb hb x hx=>V.ltB_ok (cP.2 b hb x hx),fO⟩ ?_ sY;unfold pwp at h;rw[hk] at h;rw[yv] at h;exact h
theorem di {k:Nat} {pv:Value} {b1:List (List V)} (hk:k<=b1.length) (dV:eu [] b1=true) (hn:b1.length<=nb) (h2:BL 0 b1 bx):X8 k pv b1 pv ⟨fr,bx,nb⟩:=
 ⟨rfl,[],bT dV hk hn trivial h2⟩
end
end
section
variable {P:Program} {G:Gl} {tr:List Nat} {n:Nat} {I0:Ft} {M:Mx} {w0:World} {I:Ft} {β:Nat->Option Nat} {ob:Loc->Option Nat} {s:S} {a:Act} {w:World}
def MI (P:Program) (G:Gl) (tr:List Nat) (g:FuncId) (k:Nat) (cs:List V) (kb:Nat) (r:V) (b1:List (List V)) (rs:List ResultVar) (m:Nat) (v:Value) (s:S):Prop:=
 ∃ (d:Tmp) (l:List (Tmp×Nat×TypeId×Value×V)),d<m/\afG P g k v (l.map λq=>(q.2.1,q.2.2.1,q.2.2.2.1))/\ab9 P G tr d cs (λs=>∃ l,S.Le kb (hdS l b1) s/\qC P false (hdS l b1) r rs) l s
def KY (P:Program) (G:Gl) (tr:List Nat) (t:Nat) (g:FuncId) (k:Nat) (rest:Code) (r:V) (b1:List (List V)) (rs:List ResultVar) (m:Nat) (s:S):Prop:=
 ∃ cs,(s.fr t=.clo (.func g) [] cs/\cs.length=k)/\s.nb=ou tr/\rL P G tr (ou tr) (MI P G tr g k cs (ou tr) r b1 rs m) rest (vJ P (ou tr) r b1 rs) s
def KZ (P:Program) (G:Gl) (tr:List Nat) (o1:Oper) (t:Nat) (g:FuncId) (k:Nat) (rest:Code) (r:V) (b1:List (List V)) (rs:List ResultVar) (m:Nat) (e:VE) (s:S):Prop:=match e with
 | .normal=>VStep P G tr o1 s (KY P G tr t g k rest r b1 rs m)
 |_=>False
theorem Ie {o1:Oper} {t:Nat} {g:FuncId} {k m:Nat} {rest:Code} {r:V} {b1:List (List V)} {rs:List ResultVar} {s:S}:KZ P G tr o1 t g k rest r b1 rs m .normal s=VStep P G tr o1 s (KY P G tr t g k rest r b1 rs m):=rfl
theorem Yg {f g:FuncId} {t:Nat} {fn:Func} {id:Nat} {r0 rest:Code} {o1 o2:Oper} {args:List V} {b0 b1:List (List V)} {r:V} (k:Nat) (tr:List Nat) (hm:P.follows .mixedOrders=true) (hf:P.funcs[f]?=some fn)
 (hb:fn.body=some (.seq r0 (.seq (.region id #[o1,o2] false) rest))) (gZ:(fn.name== "runtime.NumGoroutine")=false)
 (hn:args.length<=fn.ntmps) (pS:cok fn.ntmps tr r0=true) (Md:pW fn.ntmps tr rest=true) (h1:o1.guard=none/\o1.dst=some t/\t<fn.ntmps)
 (h2:o2.guard=none/\o2.dst=none/\o2.op=.defer { callee:=.value (.tmp t),args:=#[],argTypes:=#[] }) (WM:S1 P g k)
 (iV:r.compT=true) (JR:(∀ x∈args,x.lt b0.length)/\(∀ b∈b0,∀ x∈b,x.lt b0.length)/\b0.length<=b1.length)
 (h:gJ P G tr b0.length r0 (KZ P G tr o1 t g k rest r b1 fn.results.toList fn.ntmps) ⟨λj=>args.getD j .un,bxs b0,b0.length⟩) (sY:sZ tr=false:=by rfl) (JD:qy tr o1=false:=by rfl):FnB P G f args b0 r b1:=by
 refine⟨⟨fn,hf,gZ,_,hb⟩,JR,λI M w vs β ob hI hg hB ej ha=>?_⟩;have iU:fn.ntmps=(vs++Array.replicate (fn.ntmps - vs.size) undef).size:=by simp;omega
 have hst:=St.initB (n:=fn.ntmps) hI hg hB ej ha iU;have pT:∀ i b,β i=some b->i<b0.length:=λi b hi=>by
  by_cases h:i<b0.length
  .exact h
  .rw[hB.bnone i (by omega)] at hi;cases hi
 refine calls_of_wp_defers hf hb (wp_seq ?_);refine vI hm (λi b hi=>pT i b hi) sY r0 pS _ _ (λe s a w1 hq cM=>?_) _ _ _ h ⟨_,_,_,hst⟩;cases e with
 |exit i=>exact hq.elim
 |ret=>exact hq.elim
 |normal=>
 refine wp_seq (wp_region ?_);obtain⟨I1,β1,ob1,pP⟩:=cM;show wpOps P #[o1,o2] _ [0,1] a w1;have hg1:Region.wanted o1 (yielded #[o1,o2] a.tmps)=true:=by simp[Region.wanted,h1.1]
 have GX:∀ a:Act,Region.wanted o2 (yielded #[o1,o2] a.tmps)=true:=λa=>by simp[Region.wanted,h2.1]
 unfold wpOps;simp only[du,bJ];rw[if_pos hg1];refine .inl (nY (tr:=tr) pP (λd hd=>by rw[h1.2.1] at hd;cases hd;exact h1.2.2) JD hq λa2 w2 s2 hs2 akf=>?_);obtain⟨cs,⟨yV,nr⟩,zO,Eo⟩:=hs2;obtain⟨I2,β2,ob2,oG⟩:=akf;unfold wpOps;simp only[du,cU,bJ];rw[if_pos (GX a2)];left;have hv:=oG.fr t;rw[yV] at hv;simp only[LR] at hv;obtain⟨vf,vc,we,Mf,hvc,_,lv⟩:=hv;have aj8:vf=#[]:=Array.eq_empty_of_size_eq_zero (by simpa using Mf);have bO:(execOp a2.eval o2).run P w2=.ok (.defer { target:=.fn (.func g) vc,args:=#[] }) w2:=by have he:a2.eval (.tmp t)=.func (.func g) vf vc:=we;unfold execOp;simp only[h2.2.2,resolve,Deferred.ofValue,he,aP,bB,aD,aj8];simp
 unfold Oper.wp;rw[bO];simp only[Oper.upon,h2.2.1,Act.put,wpOps];have wi:=oG.deferred { target:=.fn (.func g) vc,args:=#[] };have JG:∀ i b,β2 i=some b->i<ou tr:=λi b hi=>by
  by_cases bF:i<ou tr
  .exact bF
  .rw[oG.bnone i (by omega)] at hi;cases hi
 have ahs:∀ i,i<b0.length->β2 i=β i:=λi hi=>by obtain⟨blk,_,e1,_⟩:=hB.bx i _ (ak hi);rw[e1];exact oG.ext i blk e1
 have aj9:∀ i b,b0.length<=i->β2 i=some b->Wr M w b:=λi b hi hb=>by
  rcases oG.bnew i b hb with h4 | h4
  .have:=pT i b h4;omega
  .exact h4
 have fin:∀ (d:Deferred) (s:S) (l:List (Nat×V)) (a a':Act) (w':World),a'.tmps=a.tmps->SE G fn.ntmps I ⟨M.m,β2,[d]⟩ w s a w'->S.Le (ou tr) (hdS l b1) s->qC P false (hdS l b1) r fn.results.toList->
  ∃ v,(results fn a'.tmps).run P w'=.ok v w'/\∃ v' I' β' ob' o',(Ending.returned v=.returned v')/\BelowM (GT G) M w w'/\(∀ b o,I b o->I' b o)/\(∀ b o,I' b o->I b o∨(Wr M w b/\b<w'.heap.size))/\
  (∀ b o,I b o->w'.cell? ⟨b,o,none⟩=w.cell? ⟨b,o,none⟩)/\(∀ i,i<b0.length->β' i=β i)/\(∀ i b,b0.length<=i->β' i=some b->Wr M w b)/\BxR (Wr M w) I' w' β' ob' b1/\
  LR (Wr M w) I' β' w' o' v' r/\(∀ b,o'=some b->(b<w'.heap.size/\Wr M w b)/\(∀ i j,ob' i j≠some b)/\∀ i,β' i≠some b):=by
  intro d s l a a' w' hta cM fO db;obtain⟨I',β',ob',bP⟩:=cM.weaken (λi b hi=>JG i b hi) fO;obtain⟨v,o',q1,q2,q3⟩:=px (P:=P) (fn:=fn) bP iV (Ic:=I') (λ_=>rfl) (λ_ _ h=>h) (λhz=>by cases hz) db;refine⟨v,by rw[hta];exact q1,v,I',β',λi j=>if i<b1.length then ob' (.b i j) else none,o',rfl,⟨bP.below.os,bP.below.tape,bP.below.output,bP.below.size,bP.below.block,bP.below.drawn⟩,bP.ilow,λb o xW=>?_,bP.kept,λi hi=>?_,λi b hi hb=>?_,?_,q2,λb hb=>?_⟩
  .rcases bP.ihigh b o xW with h4 | h4
   .exact .inl h4
   .exact .inr ⟨h4,bP.ibnd b o xW⟩
  .rw[<- ahs i hi]
   obtain⟨blk,_,e1,_⟩:=hB.bx i _ (ak hi);have e2:β2 i=some blk:=(by rw[ahs i hi];exact e1);rw[e2];exact bP.ext i blk e2
  .rcases bP.bnew i b hb with h4 | h4
   .exact aj9 i b hi h4
   .exact h4
  .exact {
    bx:=λi cs ju=>by have hi:i<b1.length:=(am.1 ju).1;obtain⟨blk,cur,e1,e2,e3,e4,e5,e7⟩:=bP.bx i hi;have e:bxs b1 i=cs:=(by simp[bxs,List.getD,ju]);refine⟨blk,cur,e1,e2,by simp only[hdS,e] at e3;exact e3,by simp only[hdS,e] at e4;exact e4,λj=>?_,e7⟩;have:=e5 j;simp only[hdS,e] at this;rw[if_pos hi];exact this
    bnone:=λi hi=>bP.bnone i hi
    binj:=bP.binj
    oinj:=λi j i' j' b h h'=>by
     split at h<;>try cases h
     split at h'<;>try cases h'
     have:=bP.oinj _ _ b h h';simp only[Loc.b.injEq] at this;exact this
    obx:=λi j b k h=>by
     split at h<;>try cases h
     exact bP.obx _ b k h
    obnd:=λi j b h=>by
     split at h<;>try cases h
     exact bP.obnd _ b h
    olen:=λi j hi=>by rw[if_neg (by omega)] }
  .obtain⟨t,ht⟩:=q3 b hb
   refine⟨bP.obnd _ b ht,λi j h=>?_,λi=>bP.obx _ b i ht⟩;simp only at h;split at h<;>try cases h
   have:=bP.oinj _ _ b ht h;cases this
 obtain⟨⟨fg,akh,aki,cg,akj⟩,ahw⟩:=WM;have aht:∀ w',(invoke (Deferred.mk (.fn (.func g) vc) #[]).target (Deferred.mk (.fn (.func g) vc) #[]).args).run P w'=.ok (.enter g (#[]++vc)) w':=λw'=>by
  have aka:fg.name≠ "runtime.NumGoroutine" :=by simpa using aki
  simp[invoke,callFunc,akh,aka,akj]
 have amh:a2.defers=[]:=oG.defers;refine vM sY hm (λi b hi=>JG i b hi) _ _ (λv s a w' hq cM=>?_) rest Md _ _ (λe s a w' hq cM=>?_) (λ_ _ _ h=>h) _ _ _ Eo ⟨_,_,_,wi⟩
 .obtain⟨d,l,hd,akk,hK⟩:=hq
  have hdf:a.defers=[{ target:=.fn (.func g) vc,args:=#[] }]:=by obtain⟨_,_,_,h'⟩:=cM;exact h'.defers
  obtain⟨w'',s',h4,⟨l',h50,h51⟩,h6⟩:=Dp (vc:=vc) hd l s w' hK cM (λI β ob w s p i j off bP hf hc=>by have h7:=bP.fr p;rw[hf] at h7;simp only[LR] at h7;obtain⟨blk,e1,e2⟩:=h7;have h8:=lv i _ hc;simp only[PR] at h8;obtain⟨sj,e3,e4⟩:=h8;have h9:=bP.ext j sj e3;rw[h9] at e1;cases e1;rw[e2,e4]);show Leaves P fn a.tmps _ a.defers (.panicking _) w';rw[hdf];refine leaves_cons (f:=g) (args:=#[]++vc) (by simp) (aht w') ?_;refine (akk (#[]++vc) w' w'' (by simp[hvc,nr]) (by simpa using h4)).mono ?_;rintro e u' w3 ⟨⟨v',rfl⟩,rfl,rfl⟩;obtain⟨v,h7,h8⟩:=fin _ s' l' a a _ rfl h6 h50 h51;exact⟨v,h7,h8⟩
 .obtain⟨QI,l',fO,db⟩:=hq
  have hdf:a.defers=[{ target:=.fn (.func g) vc,args:=#[] }]:=by obtain⟨_,_,_,h'⟩:=cM;exact h'.defers
  have main:∀ (hx:True),Leaves P fn a.tmps (λe w'=>∃ v' I' β' ob' o',e=.returned v'/\BelowM (GT G) M w w'/\(∀ b o,I b o->I' b o)/\(∀ b o,I' b o->I b o∨(Wr M w b/\b<w'.heap.size))/\
   (∀ b o,I b o->w'.cell? ⟨b,o,none⟩=w.cell? ⟨b,o,none⟩)/\(∀ i,i<b0.length->β' i=β i)/\(∀ i b,b0.length<=i->β' i=some b->Wr M w b)/\BxR (Wr M w) I' w' β' ob' b1/\
   LR (Wr M w) I' β' w' o' v' r/\(∀ b,o'=some b->(b<w'.heap.size/\Wr M w b)/\(∀ i j,ob' i j≠some b)/\∀ i,β' i≠some b)) a.defers .returning w':=λ_=>by
   rw[hdf];refine leaves_cons (f:=g) (args:=#[]++vc) (by simp) (aht w') ?_;refine (ahw (#[]++vc) w' (by simp[hvc,nr])).mono ?_;rintro e u' w'' ⟨⟨v',rfl⟩,rfl,rfl⟩;obtain⟨v,h7,h8⟩:=fin _ s l' a a _ rfl cM fO db;exact⟨v,h7,h8⟩
  cases e with
  |normal=>exact main trivial
  |exit i=>exact QI.elim
  |ret=>exact main trivial
theorem MJ {f g:FuncId} {t:Nat} {fn:Func} {id:Nat} {r0 rest:Code} {o1 o2:Oper} {args:List V} {b0 b1:List (List V)} {r:V} (k:Nat) (tr:List Nat) (hm:P.follows .mixedOrders=true) (hf:P.funcs[f]?=some fn)
 (hb:fn.body=some (.seq r0 (.seq (.region id #[o1,o2] false) rest))) (gZ:(fn.name== "runtime.NumGoroutine")=false) {rs:List ResultVar} (Az:fn.results.toList=rs) {n:Nat} (hnt:fn.ntmps=n)
 (hn:args.length<=n) (pS:cok n tr r0=true) (Md:pW n tr rest=true) (h1:o1.guard=none/\o1.dst=some t/\t<n)
 (h2:o2.guard=none/\o2.dst=none/\o2.op=.defer { callee:=.value (.tmp t),args:=#[],argTypes:=#[] }) (WM:S1 P g k)
 (iV:r.compT=true) (cP:eM args b0=true) (fO:b0.length<=b1.length) {k0:Nat} (hk:b0.length=k0)
 (h:gJ P G tr k0 r0 (KZ P G tr o1 t g k rest r b1 rs n) ⟨frm 0 args,bxs b0,k0⟩) (sY:sZ tr=false:=by rfl) (JD:qy tr o1=false:=by rfl):FnB P G f args b0 r b1:=by
 subst hnt;subst Az;subst hk;simp only[eM,aA,a8] at cP;refine Yg (t:=t) (g:=g) k tr hm hf hb gZ hn pS Md h1 h2 WM iV ⟨λx hx=>V.ltB_ok (cP.1 x hx),λb hb x hx=>V.ltB_ok (cP.2 b hb x hx),fO⟩ ?_ sY JD;rw[yv] at h;exact h
theorem Yh {f:FuncId} {fn:Func} {c:Code} {args:List V} {b0 b1:List (List V)} {r:V} (tr:List Nat) (hm:P.follows .mixedOrders=true) (hf:P.funcs[f]?=some fn) (hb:fn.body=some c)
 (gZ:(fn.name== "runtime.NumGoroutine")=false) (hn:args.length<=fn.ntmps) (pS:pW fn.ntmps tr c=true) (iV:r.compT=true)
 (JR:(∀ x∈args,x.lt b0.length)/\(∀ b∈b0,∀ x∈b,x.lt b0.length)/\b0.length<=b1.length)
 (h:rL P G tr b0.length (λ_ _=>False) c (vJ P b0.length r b1 fn.results.toList) ⟨λj=>args.getD j .un,bxs b0,b0.length⟩) (sY:sZ tr=false:=by rfl):FnB P G f args b0 r b1:=by
 refine⟨⟨fn,hf,gZ,c,hb⟩,JR,λI M w vs β ob hI hg hB ej ha=>?_⟩;have iU:fn.ntmps=(vs++Array.replicate (fn.ntmps - vs.size) undef).size:=by simp;omega
 have hst:=St.initB (n:=fn.ntmps) hI hg hB ej ha iU;have pT:∀ i b,β i=some b->i<b0.length:=λi b hi=>by
  by_cases h:i<b0.length
  .exact h
  .rw[hB.bnone i (by omega)] at hi;cases hi
 refine calls_of_wp hf hb (vM (Q:=λ_ _ _=>False) sY hm (λi b hi=>pT i b hi) _ (λv s a w' hq cM=>hq.elim) c pS _ _ (λe s a w' hq cM=>?_) (λ_ _ _ h=>h.elim) _ _ _ h ⟨_,_,_,hst⟩);obtain⟨QI,l,fO,db⟩:=hq;have main:a.defers=[]/\∃ v,(results fn a.tmps).run P w'=.ok v w'/\∃ v' I' β' ob' o',(Ending.returned v=.returned v')/\BelowM (GT G) M w w'/\(∀ b o,I b o->I' b o)/\(∀ b o,I' b o->I b o∨(Wr M w b/\b<w'.heap.size))/\
  (∀ b o,I b o->w'.cell? ⟨b,o,none⟩=w.cell? ⟨b,o,none⟩)/\(∀ i,i<b0.length->β' i=β i)/\(∀ i b,b0.length<=i->β' i=some b->Wr M w b)/\BxR (Wr M w) I' w' β' ob' b1/\
  LR (Wr M w) I' β' w' o' v' r/\(∀ b,o'=some b->(b<w'.heap.size/\Wr M w b)/\(∀ i j,ob' i j≠some b)/\∀ i,β' i≠some b):=by
  obtain⟨I',β',ob',bP⟩:=cM.weaken (λi b hi=>pT i b hi) fO;refine⟨bP.defers,?_⟩;obtain⟨v,o',q1,q2,q3⟩:=px (P:=P) (fn:=fn) bP iV (Ic:=I') (λ_=>rfl) (λ_ _ h=>h) (λhz=>by cases hz) db;refine⟨v,q1,v,I',β',λi j=>if i<b1.length then ob' (.b i j) else none,o',rfl,⟨bP.below.os,bP.below.tape,bP.below.output,bP.below.size,bP.below.block,bP.below.drawn⟩,bP.ilow,λb o xW=>?_,bP.kept,λi hi=>?_,λi b hi hb=>?_,?_,q2,λb hb=>?_⟩
  .rcases bP.ihigh b o xW with h4 | h4
   .exact .inl h4
   .exact .inr ⟨h4,bP.ibnd b o xW⟩
  .obtain⟨blk,_,e1,_⟩:=hB.bx i _ (ak hi)
   rw[e1];exact bP.ext i blk e1
  .rcases bP.bnew i b hb with h4 | h4
   .have:=pT i b h4;omega
   .exact h4
  .exact {
    bx:=λi cs ju=>by have hi:i<b1.length:=(am.1 ju).1;obtain⟨blk,cur,e1,e2,e3,e4,e5,e7⟩:=bP.bx i hi;have e:bxs b1 i=cs:=(by simp[bxs,List.getD,ju]);refine⟨blk,cur,e1,e2,by simp only[hdS,e] at e3;exact e3,by simp only[hdS,e] at e4;exact e4,λj=>?_,e7⟩;have:=e5 j;simp only[hdS,e] at this;rw[if_pos hi];exact this
    bnone:=λi hi=>bP.bnone i hi
    binj:=bP.binj
    oinj:=λi j i' j' b h h'=>by
     split at h<;>try cases h
     split at h'<;>try cases h'
     have:=bP.oinj _ _ b h h';simp only[Loc.b.injEq] at this;exact this
    obx:=λi j b k h=>by
     split at h<;>try cases h
     exact bP.obx _ b k h
    obnd:=λi j b h=>by
     split at h<;>try cases h
     exact bP.obnd _ b h
    olen:=λi j hi=>by rw[if_neg (by omega)] }
  .obtain⟨t,ht⟩:=q3 b hb
   refine⟨bP.obnd _ b ht,λi j h=>?_,λi=>bP.obx _ b i ht⟩;simp only at h;split at h<;>try cases h
   have:=bP.oinj _ _ b ht h;cases this
 cases e with
 |normal=>exact main
 |exit i=>exact QI.elim
 |ret=>exact main
def FnO (P:Program) (G:Gl) (f:FuncId) (args:List V) (b0:List (List V)) (o:Option Value) (r:V) (b1:List (List V)):Prop:=match o with
 |none=>FnB P G f args b0 r b1
 |some pv=>FnX P G f args b0 pv b1
def oKP (k:Nat) (b1:List (List V)) (o:Option Value) (pv:Value) (s:S):Prop:=match o with
 |none=>False
 |some v=>X8 k v b1 pv s
def oQ (P:Program) (k:Nat) (r:V) (b1:List (List V)) (rs:List ResultVar) (o:Option Value) (e:VE) (s:S):Prop:=match o with
 |none=>vJ P k r b1 rs e s
 |some _=>False
theorem jm {f:FuncId} {fn:Func} {c:Code} {args:List V} {b0 b1:List (List V)} {o:Option Value} {r:V} (tr:List Nat) (hm:P.follows .mixedOrders=true) (hf:P.funcs[f]?=some fn) (hb:fn.body=some c) (gZ:(fn.name== "runtime.NumGoroutine")=false)
 {rs:List ResultVar} (Az:fn.results.toList=rs) {n:Nat} (hn:fn.ntmps=n) (pS:pW n tr c=true) (cH:args.length<=n) (iV:r.compT=true) {k:Nat} (hk:ou tr=k) (um:b0.length=k)
 (cP:eM args b0=true) (fO:b0.length<=b1.length)
 (h:pwp P G tr (oKP k b1 o) c (oQ P k r b1 rs o) ⟨frm 0 args,bxs b0,k⟩) (sY:sZ tr=false:=by rfl):FnO P G f args b0 o r b1:=by
 subst Az;cases o with
 |some v=>exact Tg tr hm hf hb gZ hn pS cH hk um cP fO h sY
 |none=>subst hn;subst um;simp only[eM,aA,a8] at cP;refine Yh tr hm hf hb gZ cH pS iV ⟨λx hx=>V.ltB_ok (cP.1 x hx),λb hb x hx=>V.ltB_ok (cP.2 b hb x hx),fO⟩ ?_ sY;unfold pwp at h;rw[hk] at h;rw[yv] at h;exact h
end
theorem If {P:Program} {G:Gl} {f:FuncId} {args:List V} {b0 b1:List (List V)} {r:V} (ex:List (List V)) (h:FnB P G f args b0 r (b1++ex)) (fO:b0.length<=b1.length) (hb:b1.all (λb=>b.all λx=>x.ltB b1.length)=true) (hr:r.ltB b1.length=true):FnB P G f args b0 r b1:=by
 obtain⟨h1,h2,h3⟩:=h;refine⟨h1,⟨h2.1,h2.2.1,fO⟩,λI M w vs β ob hI hg hB ej ha=>?_⟩;refine Calls.mono (h3 I M w vs β ob hI hg hB ej ha) λe w' he=>?_;obtain⟨v,I',β',ob',o',e1,e2,e3,e4,e5,e6,e7,e8,e9,e10⟩:=he;have hβ:∀ i b,(if i<b1.length then β' i else none)=some b->β' i=some b:=λi b hb=>by split at hb;exact hb;cases hb
 refine⟨v,I',λi=>if i<b1.length then β' i else none,λi j=>if i<b1.length then ob' i j else none,o',e1,e2,e3,e4,e5,λi hi=>?_,λi b hi hb=>e7 i b hi (hβ i b hb),?_,e9.lt (V.ltB_ok hr) (λi hi=>if_pos hi),λb hb=>?_⟩
 .show(if i<b1.length then β' i else none)=β i
  rw[if_pos (by omega)];exact e6 i hi
 .exact {
   bx:=λi cs ju=>by
    have hi:i<b1.length:=(am.1 ju).1;obtain⟨blk,cur,c1,c2,c3,c4,c5,c6⟩:=e8.bx i cs (by rw[aM hi];exact ju);refine⟨blk,cur,by rw[if_pos hi];exact c1,c2,c3,c4,λj=>?_,c6⟩;rw[if_pos hi];refine (c5 j).lt ?_ (λi hi=>if_pos hi);have hm:cs∈b1:=bn ju;rcases cd j cs.length with hj | hj
    .have:cs.getD j .un=cs[j]:=by simp[List.getD,hj]
     rw[this];have h4:=a8.1 hb _ hm;exact V.ltB_ok (a8.1 h4 _ (aH hj))
    .have:cs.getD j .un=.un:=by simp[List.getD,cE hj]
     rw[this];trivial
   bnone:=λi hi=>if_neg (by omega)
   binj:=λi j b hi hj=>e8.binj i j b (hβ _ _ hi) (hβ _ _ hj)
   oinj:=λi j i' j' b h h'=>by
    split at h<;>try cases h
    split at h'<;>try cases h'
    exact e8.oinj _ _ _ _ b h h'
   obx:=λi j b k h hk=>by
    split at h<;>try cases h
    exact e8.obx _ _ b k h (hβ _ _ hk)
   obnd:=λi j b h=>by
    split at h<;>try cases h
    exact e8.obnd _ _ b h
   olen:=λi j hi=>if_neg (by omega) }
 .obtain⟨d1,d2,d3⟩:=e10 b hb
  refine⟨d1,λi j h=>?_,λi h=>d3 i (hβ i b h)⟩;simp only at h;split at h<;>try cases h
  exact d2 i j h
theorem aca {P:Program} {G:Gl} {f:FuncId} {args:List V} {b0 b1:List (List V)} {r:V} (h:FnB P G f args b0 r b1) (hm:∀ b∈b1,oq (b.map V.fz)=oq b):FnB P G f args b0 r (b1.map (·.map V.fz)):=by
 obtain⟨h1,h2,h3⟩:=h;refine⟨h1,⟨h2.1,h2.2.1,by rw[aj];exact h2.2.2⟩,λI M w vs β ob hI hg hB ej ha=>?_⟩;refine Calls.mono (h3 I M w vs β ob hI hg hB ej ha) λe w' he=>?_;obtain⟨v,I',β',ob',o',e1,e2,e3,e4,e5,e6,e7,e8,e9,e10⟩:=he;refine⟨v,I',β',λ_ _=>none,o',e1,e2,e3,e4,e5,e6,e7,?_,e9,λb hb=>?_⟩
 .exact {
   bx:=λi cs ju=>by rw[bw] at ju;obtain⟨cs0,ahx,rfl⟩:=aZ.1 ju;obtain⟨blk,cur,c1,c2,c3,c4,c5,c6⟩:=e8.bx i cs0 ahx;refine⟨blk,cur,c1,c2,c3.congr (by rw[aj]) (hm cs0 (bn ahx)),by rw[aj];exact c4,λj=>?_,c6⟩;have h5:=(c5 j).fz none;have e:(cs0.map V.fz).getD j .un=(cs0.getD j .un).fz:=(by simp only[aG,bw];cases cs0[j]?<;>rfl);rw[e];exact h5
   bnone:=λi hi=>e8.bnone i (by rw[aj] at hi;exact hi)
   binj:=e8.binj
   oinj:=λi j i' j' b h h'=>by cases h
   obx:=λi j b k h hk=>by cases h
   obnd:=λi j b h=>by cases h
   olen:=λi j hi=>rfl }
 .obtain⟨d1,d2,d3⟩:=e10 b hb
  exact⟨d1,λi j h=>by(cases h),d3⟩
theorem FC {P:Program} {G:Gl} {f:FuncId} {fn:Func} {c:Code} {args:List V} {b0 b1:List (List V)} {o:Option Value} {r:V} (ex:List (List V)) (tr:List Nat) (hm:P.follows .mixedOrders=true) (hf:P.funcs[f]?=some fn) (hb:fn.body=some c) (gZ:(fn.name== "runtime.NumGoroutine")=false)
 {rs:List ResultVar} (Az:fn.results.toList=rs) {n:Nat} (hn:fn.ntmps=n) (pS:pW n tr c=true) (cH:args.length<=n) (iV:r.compT=true) {k:Nat} (hk:ou tr=k) (um:b0.length=k)
 (cP:eM args b0=true) (fO:b0.length<=b1.length) (hb1:b1.all (λb=>b.all λx=>x.ltB b1.length)=true) (hr:r.ltB b1.length=true)
 (h:pwp P G tr (oKP k b1 o) c (oQ P k r (b1++ex) rs o) ⟨frm 0 args,bxs b0,k⟩) (sY:sZ tr=false:=by rfl):FnO P G f args b0 o r b1:=by
 cases o with
 |some v=>exact jm (o:=some v) tr hm hf hb gZ Az hn pS cH iV hk um cP fO h sY
 |none=>exact If ex (jm (o:=none) tr hm hf hb gZ Az hn pS cH iV hk um cP (by rw[aB];omega) h sY) fO hb1 hr
theorem Ao {P:Program} {G:Gl} {f:FuncId} {fn:Func} {c:Code} {args:List V} {b0 b1 b2:List (List V)} {o:Option Value} {r:V} (tr:List Nat) (hm:P.follows .mixedOrders=true) (hf:P.funcs[f]?=some fn) (hb:fn.body=some c) (gZ:(fn.name== "runtime.NumGoroutine")=false)
 {rs:List ResultVar} (Az:fn.results.toList=rs) {n:Nat} (hn:fn.ntmps=n) (pS:pW n tr c=true) (cH:args.length<=n) (iV:r.compT=true) {k:Nat} (hk:ou tr=k) (um:b0.length=k)
 (cP:eM args b0=true) (fO:b0.length<=b1.length) (Ma:b0.length<=b2.length) (hmk:∀ b∈b2,oq (b.map V.fz)=oq b) (Z7:o=none->b2.map (·.map V.fz)=b1)
 (h:pwp P G tr (oKP k b1 o) c (oQ P k r b2 rs o) ⟨frm 0 args,bxs b0,k⟩) (sY:sZ tr=false:=by rfl):FnO P G f args b0 o r b1:=by
 cases o with
 |some v=>exact jm (o:=some v) tr hm hf hb gZ Az hn pS cH iV hk um cP fO h sY
 |none=>exact Z7 rfl▸aca (jm (o:=none) tr hm hf hb gZ Az hn pS cH iV hk um cP Ma h sY) hmk
