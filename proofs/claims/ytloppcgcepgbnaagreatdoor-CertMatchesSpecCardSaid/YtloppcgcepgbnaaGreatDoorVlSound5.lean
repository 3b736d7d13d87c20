/- Values without memory: a framework of this repository. Here: the abstract values, and what it means that a value in a world is one of them. -/
import Derived.WalkKit
import Derived.WalkSpells
import Derived.WalkLawsBesides
import Derived.RangeFuncSeq
import Derived.RangeFuncOwn
import Derived.Orders
import Derived.ChangeKeysEq
import Derived.Great.BuildSlice
namespace Go.Vl
theorem ab:type_of% @Nat.le_refl:=@Nat.le_refl
theorem ae:type_of% @List.length_append:=@List.length_append
theorem ai:type_of% @List.getElem?_eq_getElem:=@List.getElem?_eq_getElem
theorem aj:type_of% @List.getElem?_eq_some_iff:=@List.getElem?_eq_some_iff
theorem ak:type_of% @Array.getD_eq_getD_getElem?:=@Array.getD_eq_getD_getElem?
theorem ao:type_of% @Option.some.injEq:=@Option.some.injEq
theorem ar:type_of% @Nat.zero_le:=@Nat.zero_le
theorem au:type_of% @List.length_map:=@List.length_map
theorem aw:type_of% @Go.Result.andThen_ok:=@Go.Result.andThen_ok
theorem ax:type_of% @Array.getElem?_eq_getElem:=@Array.getElem?_eq_getElem
theorem ay:type_of% @Int.natCast_nonneg:=@Int.natCast_nonneg
theorem aA:type_of% @List.getElem?_append_left:=@List.getElem?_append_left
theorem aB:type_of% @List.getD_eq_getElem?_getD:=@List.getD_eq_getElem?_getD
theorem aC:type_of% @List.length_cons:=@List.length_cons
theorem aF:type_of% @Nat.zero_add:=@Nat.zero_add
theorem aG:type_of% @List.length_nil:=@List.length_nil
theorem aH:type_of% @List.getElem?_append_right:=@List.getElem?_append_right
theorem aI:type_of% @List.append_assoc:=@List.append_assoc
theorem aK:type_of% @Go.Sem.run_bind:=@Go.Sem.run_bind
theorem aL:type_of% @Nat.le_of_ble_eq_true:=@Nat.le_of_ble_eq_true
theorem aM:type_of% @Bool.false_eq_true:=@Bool.false_eq_true
theorem aN:type_of% @List.length_take:=@List.length_take
theorem aO:type_of% @Nat.mul_le_mul_right:=@Nat.mul_le_mul_right
theorem aP:type_of% @List.mem_cons:=@List.mem_cons
theorem aQ:type_of% @Array.getElem?_toList:=@Array.getElem?_toList
theorem aR:type_of% @Go.run_underlying:=@Go.run_underlying
theorem aS:type_of% @List.mem_of_getElem?:=@List.mem_of_getElem?
theorem aT:type_of% @List.mem_cons_of_mem:=@List.mem_cons_of_mem
theorem aU:type_of% @List.take_succ_eq_append_getElem:=@List.take_succ_eq_append_getElem
theorem aV:type_of% @Option.map_eq_some_iff:=@Option.map_eq_some_iff
theorem aW:type_of% @Bool.and_eq_true:=@Bool.and_eq_true
theorem aX:type_of% @List.mem_singleton:=@List.mem_singleton
theorem aY:type_of% @List.all_eq_true:=@List.all_eq_true
theorem aZ:type_of% @List.not_mem_nil:=@List.not_mem_nil
theorem a8:type_of% @of_decide_eq_true:=@of_decide_eq_true
theorem ba:type_of% @List.mem_append:=@List.mem_append
theorem bf:type_of% @Array.getElem?_eq_some_iff:=@Array.getElem?_eq_some_iff
theorem bg:type_of% @Go.Sem.run_pure:=@Go.Sem.run_pure
theorem bh:type_of% @List.all_cons:=@List.all_cons
theorem bj:type_of% @List.getElem?_map:=@List.getElem?_map
theorem br:type_of% @List.append_nil:=@List.append_nil
theorem bz:type_of% @List.length_singleton:=@List.length_singleton
theorem bA:type_of% @List.map_cons:=@List.map_cons
theorem bB:type_of% @List.all_nil:=@List.all_nil
theorem bF:type_of% @decide_eq_true_eq:=@decide_eq_true_eq
theorem bG:type_of% @List.getElem?_eq_none:=@List.getElem?_eq_none
theorem bJ:type_of% @List.mem_cons_self:=@List.mem_cons_self
theorem bK:type_of% @of_decide_eq_false:=@of_decide_eq_false
theorem bQ:type_of% @List.getElem?_cons_zero:=@List.getElem?_cons_zero
theorem bR:type_of% @List.getElem_mem:=@List.getElem_mem
theorem bS:type_of% @Nat.min_eq_left:=@Nat.min_eq_left
theorem bT:type_of% @List.map_congr_left:=@List.map_congr_left
theorem bU:type_of% @List.mem_map:=@List.mem_map
theorem bW:type_of% @decide_true:=@decide_true
theorem bX:type_of% @Nat.lt_or_ge:=@Nat.lt_or_ge
theorem bZ:type_of% @List.take_length:=@List.take_length
theorem b8:type_of% @Array.length_toList:=@Array.length_toList
theorem b9:type_of% @Nat.le_trans:=@Nat.le_trans
theorem ck:type_of% @Nat.lt_succ_self:=@Nat.lt_succ_self
theorem ct:type_of% @List.drop_zero:=@List.drop_zero
theorem cu:type_of% @Nat.lt_of_lt_of_le:=@Nat.lt_of_lt_of_le
theorem cw:type_of% @List.length_drop:=@List.length_drop
theorem cx:type_of% @Array.set!_eq_setIfInBounds:=@Array.set!_eq_setIfInBounds
theorem cy:type_of% @Array.mem_toList_iff:=@Array.mem_toList_iff
theorem cA:type_of% @List.getElem?_take:=@List.getElem?_take
theorem cB:type_of% @List.getElem?_cons_succ:=@List.getElem?_cons_succ
theorem cC:type_of% @Int.toNat_natCast:=@Int.toNat_natCast
theorem cF:type_of% @List.flatten_cons:=@List.flatten_cons
theorem cK:type_of% @List.getElem?_drop:=@List.getElem?_drop
theorem cN:type_of% @List.cons.injEq:=@List.cons.injEq
theorem cQ:type_of% @List.mem_of_mem_drop:=@List.mem_of_mem_drop
theorem cR:type_of% @or_false:=@or_false
theorem cT:type_of% @Option.map_some:=@Option.map_some
theorem cV:type_of% @Option.getD_some:=@Option.getD_some
theorem cX:type_of% @List.getElem?_set_ne:=@List.getElem?_set_ne
theorem cY:type_of% @Go.Addr.add_lit:=@Go.Addr.add_lit
theorem cZ:type_of% @if_true:=@if_true
theorem c9:type_of% @List.mem_range:=@List.mem_range
theorem da:type_of% @Nat.add_mul:=@Nat.add_mul
theorem db:type_of% @List.map_append:=@List.map_append
theorem dc:type_of% @Array.getElem?_eq_none:=@Array.getElem?_eq_none
theorem df:type_of% @if_false:=@if_false
theorem di:type_of% @List.flatten_append:=@List.flatten_append
theorem dj:type_of% @List.drop_eq_getElem_cons:=@List.drop_eq_getElem_cons
theorem dn:type_of% @decide_eq_true:=@decide_eq_true
theorem dp:type_of% @List.mem_of_mem_take:=@List.mem_of_mem_take
theorem dq:type_of% @decide_eq_false_iff_not:=@decide_eq_false_iff_not
theorem dt:type_of% @List.getElem?_toArray:=@List.getElem?_toArray
theorem du:type_of% @List.take_append_drop:=@List.take_append_drop
theorem dx:type_of% @List.eq_nil_of_length_eq_zero:=@List.eq_nil_of_length_eq_zero
theorem dy:type_of% @Array.size_setIfInBounds:=@Array.size_setIfInBounds
theorem dB:type_of% @Array.ext':=@Array.ext'
theorem dC:type_of% @Array.getElem?_extract:=@Array.getElem?_extract
theorem dE:type_of% @List.cons_append:=@List.cons_append
theorem dH:type_of% @Prod.mk.injEq:=@Prod.mk.injEq
theorem dJ:type_of% @congrArg:=@congrArg
theorem dK:type_of% @List.length_filter_le:=@List.length_filter_le
theorem dM:type_of% @Nat.add_assoc:=@Nat.add_assoc
theorem dP:type_of% @Go.World.cell?_of_block:=@Go.World.cell?_of_block
theorem dT:type_of% @List.foldl_cons:=@List.foldl_cons
theorem dY:type_of% @List.take_of_length_le:=@List.take_of_length_le
theorem ec:type_of% @Nat.le_of_not_lt:=@Nat.le_of_not_lt
theorem ee:type_of% @Go.RowKit.Below.heap_alloc:=@Go.RowKit.Below.heap_alloc
theorem en:type_of% @Go.World.size_alloc:=@Go.World.size_alloc
theorem ep:type_of% @List.drop_length:=@List.drop_length
theorem eu:type_of% @List.nil_append:=@List.nil_append
theorem ew:type_of% @Bool.not_eq_true':=@Bool.not_eq_true'
theorem eA:type_of% @List.mem_iff_getElem?:=@List.mem_iff_getElem?
theorem eB:type_of% @Nat.succ_mul:=@Nat.succ_mul
theorem eG:type_of% @List.findIdx?_eq_some_iff_getElem:=@List.findIdx?_eq_some_iff_getElem
theorem eI:type_of% @Option.some.inj:=@Option.some.inj
theorem eJ:type_of% @List.any_eq_true:=@List.any_eq_true
theorem eK:type_of% @decide_eq_false:=@decide_eq_false
theorem eM:type_of% @List.size_toArray:=@List.size_toArray
theorem eN:type_of% @Go.Value.slice.injEq:=@Go.Value.slice.injEq
theorem eO:type_of% @List.range_eq_range':=@List.range_eq_range'
theorem eQ:type_of% @Array.empty_append:=@Array.empty_append
theorem eW:type_of% @List.map_map:=@List.map_map
theorem eX:type_of% @Nat.add_zero:=@Nat.add_zero
theorem eY:type_of% @List.map_eq_nil_iff:=@List.map_eq_nil_iff
theorem eZ:type_of% @List.take_succ_cons:=@List.take_succ_cons
theorem fc:type_of% @Go.run_sizeOf:=@Go.run_sizeOf
theorem fe:type_of% @Array.getElem?_append_left:=@Array.getElem?_append_left
theorem ff:type_of% @List.flatMap_nil:=@List.flatMap_nil
theorem fg:type_of% @List.filter_cons:=@List.filter_cons
theorem fj:type_of% @Go.cell_of_row:=@Go.cell_of_row
theorem fk:type_of% @List.mem_take_iff_getElem:=@List.mem_take_iff_getElem
theorem fp:type_of% @UInt8.toNat_ofNat':=@UInt8.toNat_ofNat'
theorem fq:type_of% @Go.MapKept.run_getObj_map:=@Go.MapKept.run_getObj_map
theorem fu:type_of% @Bool.or_eq_true:=@Bool.or_eq_true
theorem fy:type_of% @List.eq_of_mem_replicate:=@List.eq_of_mem_replicate
theorem fB:type_of% @List.getD_cons_succ:=@List.getD_cons_succ
theorem fC:type_of% @Array.mem_iff_getElem:=@Array.mem_iff_getElem
theorem fD:type_of% @Array.mem_of_getElem?:=@Array.mem_of_getElem?
theorem fG:type_of% @List.drop_drop:=@List.drop_drop
theorem fJ:type_of% @List.mem_filter:=@List.mem_filter
theorem fP:type_of% @Go.MapKept.run_setObj_map:=@Go.MapKept.run_setObj_map
theorem fY:type_of% @List.ext_getElem?:=@List.ext_getElem?
theorem fZ:type_of% @List.flatMap_cons:=@List.flatMap_cons
theorem ga:type_of% @Go.heap_alloc_new:=@Go.heap_alloc_new
theorem gb:type_of% @List.mapM_cons:=@List.mapM_cons
theorem gd:type_of% @List.length_set:=@List.length_set
theorem gf:type_of% @Nat.not_lt_zero:=@Nat.not_lt_zero
theorem gp:type_of% @List.map_singleton:=@List.map_singleton
theorem gu:type_of% @List.mem_toArray:=@List.mem_toArray
theorem gw:type_of% @Array.getElem_setIfInBounds:=@Array.getElem_setIfInBounds
theorem gC:type_of% @and_true:=@and_true
theorem gG:type_of% @List.nodup_nil:=@List.nodup_nil
theorem gI:type_of% @List.length_eq_one_iff:=@List.length_eq_one_iff
theorem gJ:type_of% @List.perm_ext_iff_of_nodup:=@List.perm_ext_iff_of_nodup
theorem gQ:type_of% @List.getElem_of_mem:=@List.getElem_of_mem
theorem gR:type_of% @List.length_pos_iff:=@List.length_pos_iff
theorem gU:type_of% @List.drop_succ_cons:=@List.drop_succ_cons
theorem gV:type_of% @Int.toNat_of_nonneg:=@Int.toNat_of_nonneg
theorem gZ:type_of% @Ne.symm:=@Ne.symm
theorem hJ:type_of% @List.pairwise_iff_getElem:=@List.pairwise_iff_getElem
theorem iq:type_of% @List.filter_append:=@List.filter_append
theorem ir:type_of% @decide_eq_decide:=@decide_eq_decide
theorem iu:type_of% @List.range'_succ:=@List.range'_succ
theorem iw:type_of% @Array.size_extract:=@Array.size_extract
theorem iy:type_of% @Go.info_of_underlying:=@Go.info_of_underlying
theorem iF:type_of% @Go.Addr.mk.injEq:=@Go.Addr.mk.injEq
theorem iM:type_of% @true_and:=@true_and
theorem iN:type_of% @List.mem_iff_getElem:=@List.mem_iff_getElem
theorem iP:type_of% @Go.growslice_fits:=@Go.growslice_fits
theorem iQ:type_of% @List.contains_eq_mem:=@List.contains_eq_mem
theorem iS:type_of% @Option.bind_eq_some_iff:=@Option.bind_eq_some_iff
theorem iT:type_of% @List.nodup_append:=@List.nodup_append
theorem iY:type_of% @UInt8.toNat_inj:=@UInt8.toNat_inj
theorem iZ:type_of% @List.mem_zipIdx_iff_getElem?:=@List.mem_zipIdx_iff_getElem?
theorem jh:type_of% @List.filterMap_cons:=@List.filterMap_cons
theorem ji:type_of% @List.getElem?_range:=@List.getElem?_range
theorem jk:type_of% @Go.run_firstCells_some:=@Go.run_firstCells_some
theorem jm:type_of% @eq_self:=@eq_self
theorem jr:type_of% @Option.bind_some:=@Option.bind_some
theorem js:type_of% @Go.IntKind.wrap_i64:=@Go.IntKind.wrap_i64
theorem jB:type_of% @UInt8.xor_zero:=@UInt8.xor_zero
theorem jC:type_of% @List.take_zero:=@List.take_zero
theorem jD:type_of% @List.set_cons_succ:=@List.set_cons_succ
theorem jO:type_of% @Bool.eq_iff_iff:=@Bool.eq_iff_iff
theorem jP:type_of% @List.nodup_cons:=@List.nodup_cons
theorem jQ:type_of% @Bool.decide_and:=@Bool.decide_and
theorem jV:type_of% @Go.setRow_other:=@Go.setRow_other
theorem jW:type_of% @List.mem_append_left:=@List.mem_append_left
theorem jX:type_of% @Bool.or_true:=@Bool.or_true
theorem jY:type_of% @List.map_nil:=@List.map_nil
theorem jZ:type_of% @List.foldl_append:=@List.foldl_append
theorem j0:type_of% @List.pairwise_append:=@List.pairwise_append
theorem j3:type_of% @Function.comp_def:=@Function.comp_def
theorem ke:type_of% @Bool.true_and:=@Bool.true_and
theorem kf:type_of% @Bool.not_true:=@Bool.not_true
theorem kA:type_of% @List.nodup_range:=@List.nodup_range
theorem kM:type_of% @Nat.mul_comm:=@Nat.mul_comm
theorem kN:type_of% @Nat.eq_zero_or_pos:=@Nat.eq_zero_or_pos
theorem kO:type_of% @beq_iff_eq:=@beq_iff_eq
theorem kR:type_of% @List.pairwise_cons:=@List.pairwise_cons
theorem kS:type_of% @List.set_cons_zero:=@List.set_cons_zero
theorem kY:type_of% @List.take_left':=@List.take_left'
theorem kZ:type_of% @Option.map_none:=@Option.map_none
theorem lg:type_of% @Bool.or_false:=@Bool.or_false
theorem lh:type_of% @Go.mem_ready:=@Go.mem_ready
theorem lG:type_of% @List.mem_range'_1:=@List.mem_range'_1
theorem lR:type_of% @Go.setRow_heap:=@Go.setRow_heap
theorem lS:type_of% @Go.getD_set_ne:=@Go.getD_set_ne
theorem lT:type_of% @Bool.not_false:=@Bool.not_false
theorem lY:type_of% @Nat.pow_succ:=@Nat.pow_succ
theorem nc:type_of% @Array.ext:=@Array.ext
theorem nf:type_of% @Nat.one_mul:=@Nat.one_mul
end Go.Vl
namespace Go.Vl
theorem jj {a b:Prop} (x:a) (y:b):a/\b:=⟨x,y⟩
end Go.Vl
set_option linter.all false
namespace Go.Vl
open Go Go.RowKit
def flat:Value->Bool
 | .agg _ | .tuple _ | .func .. | .iface ..=>false
 | .pointer (some _) | .slice .. | .map (some _) | .chan (some _)=>false
 |_=>true
inductive C where
 |lit (v:Value)
 |sl (es:List (List C))
 |rp (cs:List C) (k:Nat)
 |fn (f:Fn) (first caps:List C)
 |ex (v:Value)
 |sx (es:List (List C))
instance:Inhabited C:=⟨.sl []⟩
inductive V where
 |un
 |sk
 |c (x:C)
 |agg (cs:List C)
 |tup (vs:List V)
 |ow (E:Option (TypeId×Nat)) (es:List (List C))
 |bp (i off:Nat)
 |clo (f:Fn) (first caps:List V)
 |ms (i off len cap sz:Nat)
 |mag (vs:List V)
 |mr (i:Nat)
 |mk (bs:List Nat) (cl:Nat)
 |it (i since stepped:Nat) (seen:List Nat)
 |gh (v:Value) (E:Option (TypeId×Nat)) (es:List (List C))
 |yl (i:Nat)
 |lp (r:Loop) (fl:List (Nat×V))
 |hh (g:Option Value) (E:Option (TypeId×Nat)) (es:List (List C))
 |gs (g:Option Value) (E:Option (TypeId×Nat)) (es:List (List C))
 |gg (v:Value) (E:Option (TypeId×Nat)) (es:List (List C))
 |bm (g:FuncId) (i off:Nat)
instance:Inhabited V:=⟨.un⟩
abbrev Ft:=Nat->Nat->Prop
inductive CR (I:Ft) (w:World):Value->C->Prop
 |lit (v:Value):flat v=true->CR I w v (.lit v)
 |nil (a:Option Addr) (cap:Nat):(a=none->cap=0)->CR I w (.slice a 0 cap) (.sl [])
 |sl (b off cap sz:Nat) (es:List (List C)) (f:Nat->Nat->Value) :
   es.length<=cap->
   (∀ e∈es,e.length=sz)->
   (∀ i j,i<es.length->j<sz->w.cell? ⟨b,off+i*sz+j,none⟩=some (f i j)/\I b (off+i*sz+j))->
   (∀ i j e c,es[i]?=some e->e[j]?=some c->CR I w (f i j) c)->
   CR I w (.slice (some ⟨b,off,none⟩) es.length cap) (.sl es)
 |rp (b off k:Nat) (cs:List C) (f:Nat->Value) :
   (∀ j,j<cs.length->w.cell? ⟨b,off+j,none⟩=some (f j)/\I b (off+j))->
   (∀ j c,cs[j]?=some c->CR I w (f j) c)->
   CR I w (.pointer (some ⟨b,off+k,none⟩)) (.rp cs k)
 |fn (f:Fn) (first caps:Array Value) (fs cs:List C) :
   first.size=fs.length->caps.size=cs.length->
   (∀ j c,fs[j]?=some c->CR I w (first.getD j undef) c)->
   (∀ j c,cs[j]?=some c->CR I w (caps.getD j undef) c)->
   CR I w (.func f first caps) (.fn f fs cs)
 |ex (v:Value):v.oneCell'=true->v.cells=#[v]->CR I w v (.ex v)
 |sx (a:Option Addr) (es:List (List C)):CR I w (.slice a es.length es.length) (.sl es)->CR I w (.slice a es.length es.length) (.sx es)
theorem CR.mono {I I':Ft} {w w':World} {v:Value} {c:C} (h:CR I w v c)
 (hI:∀ b o,I b o->I' b o/\w'.cell? ⟨b,o,none⟩=w.cell? ⟨b,o,none⟩):CR I' w' v c:=by
 induction h with
 |lit v hv=>exact .lit v hv
 |nil a cap h=>exact .nil a cap h
 |sl b off cap sz es f hc hs eU _ ih=>refine .sl b off cap sz es f hc hs (λi j hi hj=>?_) (λi j e c he hc=>ih i j e c he hc);obtain⟨h1,h2⟩:=eU i j hi hj;obtain⟨h3,h4⟩:=hI _ _ h2;exact⟨h4.trans h1,h3⟩
 |rp b off k cs f eU _ ih=>refine .rp b off k cs f (λj hj=>?_) (λj c hc=>ih j c hc);obtain⟨h1,h2⟩:=eU j hj;obtain⟨h3,h4⟩:=hI _ _ h2;exact⟨h4.trans h1,h3⟩
 |fn f first caps fs cs h1 h2 _ _ ih1 ih2=>exact .fn f first caps fs cs h1 h2 ih1 ih2
 |ex v h1 h2=>exact .ex v h1 h2
 |sx a es _ ih=>exact .sx a es ih
theorem CR.oneCell {I:Ft} {w:World} {v:Value} {c:C} (h:CR I w v c):v.oneCell'=true:=by
 cases h with
 |lit v hv=>cases v<;>simp_all[flat,Value.oneCell']
 |ex v h1 h2=>exact h1
 |_=>rfl
theorem CR.notAgg {I:Ft} {w:World} {v:Value} {c:C} (h:CR I w v c):v.cells=#[v]:=by
 cases h with
 |lit v hv=>cases v<;>simp_all[flat,Value.cells]
 |ex v h1 h2=>exact h2
 |_=>rfl
theorem CR.sl_inv {I:Ft} {w:World} {v:Value} {es:List (List C)} (h:CR I w v (.sl es)):((∃ (a:Option Addr) (cap:Nat),v=.slice a 0 cap/\(a=none->cap=0))/\es=[])∨
 ∃ (b off cap sz:Nat) (f:Nat->Nat->Value),v=.slice (some ⟨b,off,none⟩) es.length cap/\es.length<=cap/\(∀ e∈es,e.length=sz)/\
  (∀ i j,i<es.length->j<sz->w.cell? ⟨b,off+i*sz+j,none⟩=some (f i j)/\I b (off+i*sz+j))/\
  (∀ i j e c,es[i]?=some e->e[j]?=some c->CR I w (f i j) c):=by
 cases h with
 |nil a cap h=>exact .inl ⟨⟨a,cap,rfl,h⟩,rfl⟩
 |sl b off cap sz es f h1 h2 h3 h4=>exact .inr ⟨b,off,cap,sz,f,rfl,h1,h2,h3,h4⟩
theorem CR.lit_inv {I:Ft} {w:World} {v u:Value} (h:CR I w v (.lit u)):v=u/\flat u=true:=by
 cases h with
 |lit v hv=>exact⟨rfl,hv⟩
theorem CR.sx_inv {I:Ft} {w:World} {v:Value} {es:List (List C)} (h:CR I w v (.sx es)):CR I w v (.sl es)/\∃ a,v=.slice a es.length es.length:=by
 cases h with
 |sx a es h=>exact⟨h,a,rfl⟩
theorem CR.ex_inv {I:Ft} {w:World} {v u:Value} (h:CR I w v (.ex u)):v=u:=by
 cases h with
 |ex v h1 h2=>rfl
theorem CR.fn_inv {I:Ft} {w:World} {v:Value} {f:Fn} {fs cs:List C} (h:CR I w v (.fn f fs cs)) :
 ∃ vf vc:Array Value,v=.func f vf vc/\vf.size=fs.length/\vc.size=cs.length/\(∀ j c,fs[j]?=some c->CR I w (vf.getD j undef) c)/\(∀ j c,cs[j]?=some c->CR I w (vc.getD j undef) c):=by
 cases h with
 |fn f vf vc fs cs h1 h2 h3 h4=>exact⟨vf,vc,rfl,h1,h2,h3,h4⟩
theorem CR.rp_inv {I:Ft} {w:World} {v:Value} {cs:List C} {k:Nat} (h:CR I w v (.rp cs k)) :
 ∃ (b off:Nat) (f:Nat->Value),v=.pointer (some ⟨b,off+k,none⟩)/\(∀ j,j<cs.length->w.cell? ⟨b,off+j,none⟩=some (f j)/\I b (off+j))/\
  (∀ j c,cs[j]?=some c->CR I w (f j) c):=by
 cases h with
 |rp b off k cs f h1 h2=>exact⟨b,off,f,rfl,h1,h2⟩
inductive DR (I:Ft) (w:World):Value->V->Prop
 |un (v:Value):DR I w v .un
 |sk:DR I w undef .sk
 |c (v:Value) (x:C):CR I w v x->DR I w v (.c x)
 |agg (vs:Array Value) (cs:List C):vs.size=cs.length->(∀ j c,cs[j]?=some c->CR I w (vs.getD j undef) c)->DR I w (.agg vs) (.agg cs)
 |tup (vs:Array Value) (ds:List V):vs.size=ds.length->(∀ j d,ds[j]?=some d->DR I w (vs.getD j undef) d)->DR I w (.tuple vs) (.tup ds)
theorem DR.mono {I I':Ft} {w w':World} {v:Value} {x:V} (h:DR I w v x)
 (hI:∀ b o,I b o->I' b o/\w'.cell? ⟨b,o,none⟩=w.cell? ⟨b,o,none⟩):DR I' w' v x:=by
 induction h with
 |un v=>exact .un v
 |sk=>exact .sk
 |c v x h=>exact .c v x (h.mono hI)
 |agg vs cs h1 h2=>exact .agg vs cs h1 λj c hc=>(h2 j c hc).mono hI
 |tup vs ds h1 _ ih=>exact .tup vs ds h1 ih
def OwnR (base:Nat->Prop) (I:Ft) (w:World) (E:Option (TypeId×Nat)) (es:List (List C)) (ob:Option Nat) (v:Value):Prop:=
 CR I w v (.sl es)/\
 ((ob=none/\E=none/\∃ a,v=.slice a es.length es.length)∨
  (∃ e blk cap cur sz,ob=some blk/\E=some (e,sz)/\v=.slice (some ⟨blk,0,none⟩) es.length cap/\base blk/\
   w.heap[blk]?=some (.cells cur e (0,0))/\es.length<=cap/\cap<=maxLen/\cur.size=cap*sz/\(∀ x∈es,x.length=sz)/\
   (∀ o,I blk o->o<es.length*sz)))
def OwnH (base:Nat->Prop) (I:Ft) (w:World) (E:Option (TypeId×Nat)) (es:List (List C)) (ob:Option Nat) (v:Value):Prop:=
 ∃ e blk cap cur sz,ob=some blk/\E=some (e,sz)/\v=.slice (some ⟨blk,0,none⟩) es.length cap/\base blk/\
  w.heap[blk]?=some (.cells cur e (0,0))/\es.length<=cap/\cap<=maxLen/\cur.size=cap*sz/\(∀ x∈es,x.length=sz)/\
  (∀ j c,es.flatten[j]?=some c->CR I w (cur.getD j undef) c)/\(∀ o,o<(es.length - 1)*sz->I blk o)/\(∀ o,I blk o->o<(es.length - 1)*sz)
def OwnG (base:Nat->Prop) (I:Ft) (w:World) (E:Option (TypeId×Nat)) (es:List (List C)) (ob:Option Nat) (v:Value):Prop:=
 (ob=none/\E=none/\es=[]/\∃ a,v=.slice a 0 0)∨
 ∃ e blk cap cur sz,ob=some blk/\E=some (e,sz)/\v=.slice (some ⟨blk,0,none⟩) es.length cap/\base blk/\
  w.heap[blk]?=some (.cells cur e (0,0))/\es.length<=cap/\cap<=maxLen/\cur.size=cap*sz/\(∀ x∈es,x.length=sz)/\
  (∀ j c,es.flatten[j]?=some c->CR I w (cur.getD j undef) c)/\(∀ u∈cur,u.oneCell'=true)/\∀ o,¬ I blk o
def PR (I:Ft) (β:Nat->Option Nat) (w:World) (v:Value):V->Prop
 | .bp i off=>∃ blk,β i=some blk/\v=.pointer (some ⟨blk,off,none⟩)
 | .ms i off len cap _=>len<=cap/\∃ blk off' cap',cap<=cap'/\β i=some blk/\(cap'=0∨off'=off)/\v=.slice (some ⟨blk,off',none⟩) len cap'
 | .c x=>CR I w v x
 | .ow E es=>E=none/\CR I w v (.sl es)/\∃ a,v=.slice a es.length es.length
 | .mr i=>∃ blk,β i=some blk/\v=.map (some blk)
 | .yl i=>∃ blk,β i=some blk/\v=.func (.yield blk) #[] #[]
 | .bm g i off=>∃ blk,β i=some blk/\v=.func (.func g) #[.pointer (some ⟨blk,off,none⟩)] #[]
 |_=>False
def V.isAT:V->Bool
 | .agg _ | .tup _=>true
 |_=>false
def KR (I:Ft) (β:Nat->Option Nat) (w:World) (v:Value) (x:V):Prop:=x=.un∨(x.isAT=true/\DR I w v x)∨PR I β w v x
def LR (base:Nat->Prop) (I:Ft) (β:Nat->Option Nat) (w:World) (ob:Option Nat) (v:Value):V->Prop
 | .ow E es=>OwnR base I w E es ob v
 | .bp i off=>∃ blk,β i=some blk/\v=.pointer (some ⟨blk,off,none⟩)
 | .clo f fs cs=>∃ vf vc:Array Value,v=.func f vf vc/\vf.size=fs.length/\vc.size=cs.length/\
  (∀ j x,fs[j]?=some x->PR I β w (vf.getD j undef) x)/\(∀ j x,cs[j]?=some x->PR I β w (vc.getD j undef) x)
 | .ms i off len cap _=>len<=cap/\∃ blk off' cap',cap<=cap'/\β i=some blk/\(cap'=0∨off'=off)/\v=.slice (some ⟨blk,off',none⟩) len cap'
 | .mag vs=>∃ cells:Array Value,v=.agg cells/\cells.size=vs.length/\∀ j x,vs[j]?=some x->PR I β w (cells.getD j undef) x
 | .mr i=>∃ blk,β i=some blk/\v=.map (some blk)
 | .yl i=>∃ blk,β i=some blk/\v=.func (.yield blk) #[] #[]
 | .lp _ fl=>∃ tm:Array Value,v=.tuple tm/\∀ t x,(t,x)∈fl->KR I β w (tm.getD t undef) x
 | .mk _ _=>v=undef
 | .gh u E es=>OwnR base I w E es ob u
 | .hh g E es=>(∀ u,g=some u->v=u)/\OwnH base I w E es ob v
 | .gs g E es=>(∀ u,g=some u->v=u)/\OwnG base I w E es ob v
 | .gg u E es=>OwnG base I w E es ob u
 | .bm g i off=>∃ blk,β i=some blk/\v=.func (.func g) #[.pointer (some ⟨blk,off,none⟩)] #[]
 | .it i since stepped seen=>∃ blk m,ob=some blk/\base blk/\β i=some m/\v=.pointer (some ⟨blk,0,none⟩)/\w.heap[blk]?=some (.mapIter (some m) since seen.toArray stepped)/\∀ o,¬ I blk o
 |x=>DR I w v x
theorem PR.mono {I I':Ft} {β β':Nat->Option Nat} {w w':World} {v:Value} {x:V} (h:PR I β w v x)
 (hI:∀ b o,I b o->I' b o/\w'.cell? ⟨b,o,none⟩=w.cell? ⟨b,o,none⟩) (hβ:∀ i b,β i=some b->β' i=some b):PR I' β' w' v x:=by
 cases x<;>simp only[PR] at h ⊢
 .exact h.mono hI
 .exact⟨h.1,h.2.1.mono hI,h.2.2⟩
 .obtain⟨blk,h1,h2⟩:=h;exact⟨blk,hβ _ _ h1,h2⟩
 .obtain⟨h0,blk,o',c',hc,h1,h2⟩:=h;exact⟨h0,blk,o',c',hc,hβ _ _ h1,h2⟩
 .obtain⟨blk,h1,h2⟩:=h;exact⟨blk,hβ _ _ h1,h2⟩
 .obtain⟨blk,h1,h2⟩:=h;exact⟨blk,hβ _ _ h1,h2⟩
 .obtain⟨blk,h1,h2⟩:=h;exact⟨blk,hβ _ _ h1,h2⟩
theorem KR.mono {I I':Ft} {β β':Nat->Option Nat} {w w':World} {v:Value} {x:V} (h:KR I β w v x)
 (hI:∀ b o,I b o->I' b o/\w'.cell? ⟨b,o,none⟩=w.cell? ⟨b,o,none⟩) (hβ:∀ i b,β i=some b->β' i=some b):KR I' β' w' v x:=by
 rcases h with h | ⟨h1,h2⟩ | h
 .exact .inl h
 .exact .inr (.inl ⟨h1,h2.mono hI⟩)
 .exact .inr (.inr (h.mono hI hβ))
theorem OwnR.mono {base:Nat->Prop} {I I':Ft} {w w':World} {E:Option (TypeId×Nat)} {es:List (List C)} {ob:Option Nat} {v:Value} (h:OwnR base I w E es ob v)
 (hI:∀ b o,I b o->I' b o/\w'.cell? ⟨b,o,none⟩=w.cell? ⟨b,o,none⟩)
 (kb:∀ b,ob=some b->w'.heap[b]?=w.heap[b]?/\∀ o,I' b o->I b o):OwnR base I' w' E es ob v:=by
 obtain⟨h1,h2⟩:=h;refine⟨h1.mono hI,?_⟩;rcases h2 with h2 | ⟨e,blk,cap,cur,sz,wY,hE,hv,hb,hh,hc,hm,hs,hl,hf⟩
 .exact .inl h2
 .obtain⟨h3,h4⟩:=kb blk wY
  exact .inr ⟨e,blk,cap,cur,sz,wY,hE,hv,hb,h3.trans hh,hc,hm,hs,hl,λo ho=>hf o (h4 o ho)⟩
theorem OwnH.mono {base:Nat->Prop} {I I':Ft} {w w':World} {E:Option (TypeId×Nat)} {es:List (List C)} {ob:Option Nat} {v:Value} (h:OwnH base I w E es ob v)
 (hI:∀ b o,I b o->I' b o/\w'.cell? ⟨b,o,none⟩=w.cell? ⟨b,o,none⟩)
 (kb:∀ b,ob=some b->w'.heap[b]?=w.heap[b]?/\∀ o,I' b o->I b o):OwnH base I' w' E es ob v:=by
 obtain⟨e,blk,cap,cur,sz,wY,hE,hv,hb,hh,hc,hm,hs,hl,hf,hlo,UI⟩:=h;obtain⟨h3,h4⟩:=kb blk wY;exact⟨e,blk,cap,cur,sz,wY,hE,hv,hb,h3.trans hh,hc,hm,hs,hl,λj c hc=>(hf j c hc).mono hI,λo ho=>(hI _ _ (hlo o ho)).1,λo ho=>UI o (h4 o ho)⟩
theorem OwnG.mono {base:Nat->Prop} {I I':Ft} {w w':World} {E:Option (TypeId×Nat)} {es:List (List C)} {ob:Option Nat} {v:Value} (h:OwnG base I w E es ob v)
 (hI:∀ b o,I b o->I' b o/\w'.cell? ⟨b,o,none⟩=w.cell? ⟨b,o,none⟩)
 (kb:∀ b,ob=some b->w'.heap[b]?=w.heap[b]?/\∀ o,I' b o->I b o):OwnG base I' w' E es ob v:=by
 rcases h with h | ⟨e,blk,cap,cur,sz,wY,hE,hv,hb,hh,hc,hm,hs,hl,hf,kg,UI⟩
 .exact .inl h
 .obtain⟨h3,h4⟩:=kb blk wY
  exact .inr ⟨e,blk,cap,cur,sz,wY,hE,hv,hb,h3.trans hh,hc,hm,hs,hl,λj c hc=>(hf j c hc).mono hI,kg,λo ho=>UI o (h4 o ho)⟩
theorem LR.mono {base:Nat->Prop} {I I':Ft} {β β':Nat->Option Nat} {w w':World} {ob:Option Nat} {v:Value} {x:V} (h:LR base I β w ob v x)
 (hI:∀ b o,I b o->I' b o/\w'.cell? ⟨b,o,none⟩=w.cell? ⟨b,o,none⟩) (hβ:∀ i b,β i=some b->β' i=some b)
 (kb:∀ b,ob=some b->w'.heap[b]?=w.heap[b]?/\∀ o,I' b o->I b o):LR base I' β' w' ob v x:=by
 cases x<;>simp only[LR] at h ⊢
 case ow=>exact h.mono hI kb
 case bp=>obtain⟨blk,h1,h2⟩:=h;exact⟨blk,hβ _ _ h1,h2⟩
 case ms=>obtain⟨h0,blk,o',c',hc,h1,h2⟩:=h;exact⟨h0,blk,o',c',hc,hβ _ _ h1,h2⟩
 case mag=>obtain⟨cs,h1,h2,h3⟩:=h;exact⟨cs,h1,h2,λj x hx=>(h3 j x hx).mono hI hβ⟩
 case clo=>obtain⟨vf,vc,h1,h2,h3,h4,h5⟩:=h;exact⟨vf,vc,h1,h2,h3,λj x hx=>(h4 j x hx).mono hI hβ,λj x hx=>(h5 j x hx).mono hI hβ⟩
 case mr=>obtain⟨blk,h1,h2⟩:=h;exact⟨blk,hβ _ _ h1,h2⟩
 case yl=>obtain⟨blk,h1,h2⟩:=h;exact⟨blk,hβ _ _ h1,h2⟩
 case lp=>obtain⟨tm,h1,h2⟩:=h;exact⟨tm,h1,λt x hx=>(h2 t x hx).mono hI hβ⟩
 case mk=>exact h
 case gh=>exact h.mono hI kb
 case hh=>exact⟨h.1,h.2.mono hI kb⟩
 case gs=>exact⟨h.1,h.2.mono hI kb⟩
 case gg=>exact h.mono hI kb
 case bm=>obtain⟨blk,h1,h2⟩:=h;exact⟨blk,hβ _ _ h1,h2⟩
 case it=>obtain⟨blk,m,h1,h2,h3,h4,h5,h6⟩:=h;exact⟨blk,m,h1,h2,hβ _ _ h3,h4,(kb blk h1).1.trans h5,λo ho=>h6 o ((kb blk h1).2 o ho)⟩
 all_goals exact h.mono hI
def up {α:Type} (f:Nat->α) (i:Nat) (v:α):Nat->α:=λj=>if j=i then v else f j
@[simp] theorem cg {α:Type} (f:Nat->α) (i:Nat) (v:α):up f i v i=v:=by simp[up]
theorem cP {α:Type} (f:Nat->α) {i j:Nat} (v:α) (h:j≠i):up f i v j=f j:=by simp[up,h]
theorem ah {α:Type} (f:Nat->α) (i j:Nat) (v:α):up f i v j=if j=i then v else f j:=rfl
theorem rZ {α:Type} (f:Nat->α) (i:Nat):up f i (f i)=f:=by funext j;simp only[up];split<;>simp_all
inductive MK where
 |mp (bs:List Nat) (cl:Nat)
 |lp (r:Loop)
def qU (l:List V):Option MK:=match l.getD 0 .un with
 | .mk bs cl=>some (.mp bs cl)
 | .lp r _=>some (.lp r)
 |_=>none
def V.isMk:V->Bool
 | .mk _ _=>true
 | .lp _ _=>true
 |_=>false
def cL (l:List V):Bool:=(l.getD 0 .un).isMk
theorem gK {l:List V} (h:cL l=false):qU l=none:=by
 unfold cL at h;unfold qU;split
 .rename_i e;rw[e] at h;cases h
 .rename_i e;rw[e] at h;cases h
 .rfl
def lH:List MapEntry->List Value
 |[]=>[]
 |e::r=>e.key::e.val::lH r
structure RT where
 t:TypeId
 fz:Nat×Nat
def RT.ok (T:RT) (n:Nat):Prop:=T.fz.2<=T.fz.1∨n<=T.fz.1
abbrev RT.of (t:TypeId):RT:=⟨t,(0,0)⟩
theorem RT.of_ok {t:TypeId} {n:Nat}:(RT.of t).ok n:=.inl (ab _)
def HB (w:World) (blk:Nat) (cur:Array Value) (l:List V):Prop:=match qU l with
 |some (.lp r)=>∃ (f:FuncId) (tm:Array Value) (d:Nat),(w.heap[blk]?=some (.loop { r with fn:=f,tmps:=tm,defers:=d })/\tm.size=r.defers)/\∃ m:Nat,cur=#[Value.tuple tm]++Array.replicate m undef
 |some (.mp bs cl)=>∃ es:Array MapEntry,w.heap[blk]?=some (.map es cl)/\es.toList.map (·.born)=bs/\cur.toList=undef::lH es.toList/\l.length=1+2*bs.length
 |none=>∃ T:RT,w.heap[blk]?=some (.cells cur T.t T.fz)/\(∀ u∈cur,u.oneCell'=true)/\T.ok cur.size
theorem HB.lt {w:World} {blk:Nat} {cur:Array Value} {l:List V} (h:HB w blk cur l):blk<w.heap.size:=by
 unfold HB at h;split at h
 .obtain⟨_,_,_,⟨h,_⟩,_⟩:=h;exact(bf.1 h).1
 .obtain⟨es,h,_⟩:=h;exact(bf.1 h).1
 .obtain⟨T,h,_⟩:=h;exact(bf.1 h).1
theorem HB.mono {w w':World} {blk:Nat} {cur:Array Value} {l:List V} (h:HB w blk cur l) (he:w'.heap[blk]?=w.heap[blk]?):HB w' blk cur l:=by
 unfold HB at h ⊢
 split at h
 .obtain⟨f,tm,d,⟨h,h1⟩,h2⟩:=h;exact⟨f,tm,d,⟨he.trans h,h1⟩,h2⟩
 .obtain⟨es,h,h2⟩:=h;exact⟨es,he.trans h,h2⟩
 .obtain⟨T,h,h2⟩:=h;exact⟨T,he.trans h,h2⟩
theorem HB.cells {w:World} {blk:Nat} {cur:Array Value} {l:List V} (h:HB w blk cur l) (hm:cL l=false):∃ T:RT,w.heap[blk]?=some (.cells cur T.t T.fz)/\(∀ u∈cur,u.oneCell'=true)/\T.ok cur.size:=by unfold HB at h;rw[gK hm] at h;exact h
theorem HB.of {w:World} {blk:Nat} {cur:Array Value} {l:List V} {T:RT} (h:w.heap[blk]?=some (.cells cur T.t T.fz)) (h2:∀ u∈cur,u.oneCell'=true) (hT:T.ok cur.size) (hm:cL l=false):HB w blk cur l:=by unfold HB;rw[gK hm];exact⟨T,h,h2,hT⟩
theorem HB.congr {w:World} {blk:Nat} {cur:Array Value} {l l':List V} (h:HB w blk cur l) (h1:l'.length=l.length) (h2:qU l'=qU l):HB w blk cur l':=by
 unfold HB at h ⊢;rw[h2];split at h
 .exact h
 .obtain⟨es,q1,q2,q3,q4⟩:=h;exact⟨es,q1,q2,q3,h1.trans q4⟩
 .exact h
structure S where
 fr:Nat->V
 bx:Nat->List V
 nb:Nat
inductive Loc where
 |t (i:Nat)
 |b (i j:Nat)
 deriving DecidableEq
structure Mx where
 m:Nat->Prop
 e:Nat->Option Nat
 d:List Deferred
def Wr (M:Mx) (w0:World) (b:Nat):Prop:=w0.heap.size<=b∨M.m b
structure _root_.Go.World.grb (w w':World) (row:Option Nat):Prop where
 os:w'.os=w.os
 tape:w'.tape=w.tape
 output:w'.output=w.output
 size:w.heap.size<=w'.heap.size
 block:∀ k,k<w.heap.size->some k≠row->w'.heap[k]?=w.heap[k]?
 drawn:w.drawn<=w'.drawn
theorem _root_.Go.World.grb.toBy {w w':World} {row:Option Nat} (h:w.grb w' row):w.grownBy w' row:=⟨h.os,h.tape,h.output,h.size,h.block⟩
theorem UQ {w w':World} {row:Option Nat} (h:w.grownBy w' row) (hd:w.drawn<=w'.drawn):w.grb w' row:=⟨h.os,h.tape,h.output,h.size,h.block,hd⟩
theorem pz (w:World) (o:Obj) (row:Option Nat):w.grb (w.alloc o) row:=UQ (World.grownBy_alloc w o row) (ab _)
structure _root_.Go.World.grt (T:Prop) (w w':World) (row:Option Nat):Prop where
 os:w'.os=w.os
 tape:w'.tape=w.tape
 output:w'.output=w.output
 size:w.heap.size<=w'.heap.size
 block:∀ k,k<w.heap.size->some k≠row->w'.heap[k]?=w.heap[k]?
 drawn:T->w.drawn<=w'.drawn
theorem _root_.Go.World.grt.toBy {T:Prop} {w w':World} {row:Option Nat} (h:World.grt T w w' row):w.grownBy w' row:=⟨h.os,h.tape,h.output,h.size,h.block⟩
theorem _root_.Go.World.grb.toT {T:Prop} {w w':World} {row:Option Nat} (h:w.grb w' row):World.grt T w w' row:=⟨h.os,h.tape,h.output,h.size,h.block,λ_=>h.drawn⟩
theorem _root_.Go.World.grt.toB {T:Prop} {w w':World} {row:Option Nat} (h:World.grt T w w' row) (t:T):w.grb w' row:=⟨h.os,h.tape,h.output,h.size,h.block,h.drawn t⟩
instance {T:Prop} {w w':World} {row:Option Nat}:Coe (w.grb w' row) (World.grt T w w' row):=⟨World.grb.toT⟩
instance {w w':World} {row:Option Nat}:Coe (w.grb w' row) (w.grownBy w' row):=⟨World.grb.toBy⟩
def GT (G:Nat->Option (List C)):Prop:=G 1000000000=none
def gat (G:Nat->Option (List C)) (g:Nat):Option (List C):=if g=1000000000 then none else G g
structure BelowM (T:Prop) (M:Mx) (w w':World):Prop where
 os:w'.os=w.os
 tape:w'.tape=w.tape
 output:w'.output=w.output
 size:w.heap.size<=w'.heap.size
 block:∀ k,k<w.heap.size->¬ M.m k->w'.heap[k]?=w.heap[k]?
 drawn:T->w.drawn<=w'.drawn
theorem BelowM.refl {T:Prop} (M:Mx) (w:World):BelowM T M w w:=⟨rfl,rfl,rfl,ab _,λ_ _ _=>rfl,λ_=>ab _⟩
theorem BelowM.grownT {T:Prop} {M:Mx} {a w w':World} {row:Option Nat} (h:BelowM T M a w) (hg:World.grt T w w' row) (hr:∀ k,row=some k->Wr M a k):BelowM T M a w':=
 ⟨hg.os.trans h.os,hg.tape.trans h.tape,hg.output.trans h.output,b9 h.size hg.size,λk hk hM=>
  (hg.block k (cu hk h.size) (λe=>by rcases hr k e.symm with h1 | h1;omega;exact hM h1)).trans (h.block k hk hM),λt=>b9 (h.drawn t) (hg.drawn t)⟩
theorem BelowM.grown {T:Prop} {M:Mx} {a w w':World} {row:Option Nat} (h:BelowM T M a w) (hg:w.grb w' row) (hr:∀ k,row=some k->Wr M a k):BelowM T M a w':=h.grownT hg.toT hr
theorem Wr.new {T:Prop} {M:Mx} {a w:World} (h:BelowM T M a w) {b:Nat} (hb:w.heap.size<=b):Wr M a b:=.inl (b9 h.size hb)
structure GCR (I:Ft) (w:World) (g:Nat) (cs:List C):Prop where
 cr:CR I w (.pointer (some ⟨g,0,none⟩)) (.rp cs 0)
 fin:I g cs.length
 out:w.cell? ⟨g,cs.length,none⟩=none
theorem GCR.mono {I I':Ft} {w w':World} {g:Nat} {cs:List C} (h:GCR I w g cs) (hI:∀ b o,I b o->I' b o/\w'.cell? ⟨b,o,none⟩=w.cell? ⟨b,o,none⟩):GCR I' w' g cs:=
 ⟨h.cr.mono hI,(hI _ _ h.fin).1,(hI _ _ h.fin).2.trans h.out⟩
def mkD (r:Nat):Deferred:={ target:=.collected r,args:=#[] }
structure St (G:Nat->Option (List C)) (n:Nat) (I0:Ft) (M:Mx) (w0:World) (I:Ft) (β:Nat->Option Nat) (ob:Loc->Option Nat) (s:S) (a:Act) (w:World):Prop where
 size:a.tmps.size=n
 defers:a.defers=M.d
 below:BelowM (GT G) M w0 w
 ilow:∀ b o,I0 b o->I b o
 kept:∀ b o,I0 b o->w.cell? ⟨b,o,none⟩=w0.cell? ⟨b,o,none⟩
 ihigh:∀ b o,I b o->I0 b o∨Wr M w0 b
 ibnd:∀ b o,I b o->b<w.heap.size
 fr:∀ t,LR (Wr M w0) I β w (ob (.t t)) (a.tmps.getD t undef) (s.fr t)
 bx:∀ i,i<s.nb->∃ blk cur,β i=some blk/\Wr M w0 blk/\HB w blk cur (s.bx i)/\(s.bx i).length<=cur.size/\
  (∀ j,LR (Wr M w0) I β w (ob (.b i j)) (cur.getD j undef) ((s.bx i).getD j .un))/\(∀ o,¬ I blk o)
 bnone:∀ i,s.nb<=i->β i=none
 ext:∀ i b,M.e i=some b->β i=some b
 bnew:∀ i b,β i=some b->M.e i=some b∨Wr M w0 b
 binj:∀ i j b,β i=some b->β j=some b->i=j
 oinj:∀ L L' b,ob L=some b->ob L'=some b->L=L'
 obx:∀ L b i,ob L=some b->β i≠some b
 obnd:∀ L b,ob L=some b->b<w.heap.size/\Wr M w0 b
 glob:∀ g cs,gat G g=some cs->GCR I w g cs
def upL (f:Loc->Option Nat) (L:Loc) (v:Option Nat):Loc->Option Nat:=λL'=>if L'=L then v else f L'
def S.put (s:S) (d:Option Nat) (v:V):S:=match d with
 |some d=>{ s with fr:=up s.fr d v }
 |none=>s
def S.clr (s:S) (t:Nat):S:={ s with fr:=up s.fr t .un }
theorem mj (a:Array Value) (d:Nat) (v:Value) (h:d<a.size):(a.setIfInBounds d v).getD d undef=v:=by simp[h]
theorem getD_set_ne (a:Array Value) (d t:Nat) (v:Value) (h:t≠d):(a.setIfInBounds d v).getD t undef=a.getD t undef:=by simp[gZ h]
variable {G:Nat->Option (List C)} {n:Nat} {I0:Ft} {M:Mx} {w0:World} {I:Ft} {β:Nat->Option Nat} {ob:Loc->Option Nat} {s:S} {a:Act} {w:World}
theorem St.keepsB (h:St G n I0 M w0 I β ob s a w) {w':World} {row:Option Nat} (hg:w.grownBy w' row) (zD:∀ r,row=some r->∀ o,I r o->w'.cell? ⟨r,o,none⟩=w.cell? ⟨r,o,none⟩) :
 ∀ b o,I b o->w'.cell? ⟨b,o,none⟩=w.cell? ⟨b,o,none⟩:=by
 intro b o hb;by_cases hr:row=some b
 .exact zD b hr o hb
 .exact dP (hg.block b (h.ibnd b o hb) (λe=>hr e.symm))
theorem St.keeps (h:St G n I0 M w0 I β ob s a w) {w':World} {row:Option Nat} (hg:w.grb w' row) (zD:∀ r,row=some r->∀ o,I r o->w'.cell? ⟨r,o,none⟩=w.cell? ⟨r,o,none⟩) :
 ∀ b o,I b o->w'.cell? ⟨b,o,none⟩=w.cell? ⟨b,o,none⟩:=h.keepsB hg.toBy zD
theorem St.grow (h:St G n I0 M w0 I β ob s a w) {w':World} (hg:World.grt (GT G) w w' none) {I':Ft} (h1:∀ b o,I b o->I' b o)
 (h2:∀ b o,I' b o->I b o∨(w.heap.size<=b/\b<w'.heap.size)):St G n I0 M w0 I' β ob s a w':=by
 have hk:=h.keepsB hg.toBy (by simp);have hI:∀ b o,I b o->I' b o/\w'.cell? ⟨b,o,none⟩=w.cell? ⟨b,o,none⟩:=λb o hb=>⟨h1 b o hb,hk b o hb⟩;have kb:∀ L b,ob L=some b->w'.heap[b]?=w.heap[b]?/\∀ o,I' b o->I b o:=λL b hL=>by
  obtain⟨h3,h4⟩:=h.obnd L b hL;refine⟨hg.block b h3 (by simp),λo ho=>?_⟩;rcases h2 b o ho with h5 | h5
  .exact h5
  .omega
 exact {
  size:=h.size,defers:=h.defers
  below:=h.below.grownT hg (by simp)
  kept:=λb o h0=>(hk b o (h.ilow b o h0)).trans (h.kept b o h0)
  ilow:=λb o hb=>h1 b o (h.ilow b o hb)
  ihigh:=λb o hb=>by
   rcases h2 b o hb with h3 | h3
   .exact h.ihigh b o h3
   .exact .inr (Wr.new h.below h3.1)
  ibnd:=λb o hb=>by
   rcases h2 b o hb with h3 | h3
   .exact cu (h.ibnd b o h3) hg.size
   .exact h3.2
  fr:=λt=>(h.fr t).mono hI (λ_ _ e=>e) (kb (.t t))
  bx:=λi hi=>by
   obtain⟨blk,cur,e1,e2,e3,e4,e5,e7⟩:=h.bx i hi;have bE:blk<w.heap.size:=e3.lt;refine⟨blk,cur,e1,e2,e3.mono (hg.block blk bE (by simp)),e4,λj=>(e5 j).mono hI (λ_ _ e=>e) (kb (.b i j)),λo ho=>?_⟩;rcases h2 blk o ho with h3 | h3
   .exact e7 o h3
   .omega
  bnone:=h.bnone,ext:=h.ext,bnew:=h.bnew,binj:=h.binj,oinj:=h.oinj,obx:=h.obx
  obnd:=λL b hL=>⟨cu (h.obnd L b hL).1 hg.size,(h.obnd L b hL).2⟩
  glob:=λg cs ZB=>(h.glob g cs ZB).mono hI }
theorem St.drew (h:St G n I0 M w0 I β ob s a w):St G n I0 M w0 I β ob s a w.drew:=
 h.grow (w':=w.drew) ⟨rfl,rfl,rfl,ab _,λ_ _ _=>rfl,λ_=>Nat.le_succ _⟩ (λ_ _ h=>h) (λ_ _ h=>.inl h)
theorem St.alloc (h:St G n I0 M w0 I β ob s a w) (o:Obj):St G n I0 M w0 (λb k=>I b k∨b=w.heap.size) β ob s a (w.alloc o):=
 h.grow (pz w o none).toT (λ_ _ h=>.inl h) (λb k hb=>by
  rcases hb with hb | hb
  .exact .inl hb
  .refine .inr ⟨by omega,by rw[en];omega⟩)
theorem St.allocOwn (h:St G n I0 M w0 I β ob s a w) (o:Obj):St G n I0 M w0 I β ob s a (w.alloc o):=
 h.grow (pz w o none).toT (λ_ _ h=>h) (λ_ _ h=>.inl h)
theorem St.clr (h:St G n I0 M w0 I β ob s a w) (t:Nat):St G n I0 M w0 I β (upL ob (.t t) none) (s.clr t) a w:=by
 have gx:∀ L b,upL ob (.t t) none L=some b->ob L=some b:=λL b hL=>by
  simp only[upL] at hL;split at hL
  .cases hL
  .exact hL
 exact {
  size:=h.size,defers:=h.defers,below:=h.below,kept:=h.kept,ilow:=h.ilow,ihigh:=h.ihigh,ibnd:=h.ibnd
  fr:=λu=>by
   by_cases hu:u=t
   .subst hu;simp only[S.clr,cg,LR];exact .un _
   .simp only[S.clr,cP _ _ hu]
    have:upL ob (.t t) none (.t u)=ob (.t u):=(by simp[upL,hu]);rw[this];exact h.fr u
  bx:=λi hi=>by obtain⟨blk,cur,e1,e2,e3,e4,e5,e7⟩:=h.bx i hi;exact⟨blk,cur,e1,e2,e3,e4,λj=>by have:upL ob (.t t) none (.b i j)=ob (.b i j):=(by simp[upL]);rw[this];exact e5 j,e7⟩
  bnone:=h.bnone,ext:=h.ext,bnew:=h.bnew,binj:=h.binj
  oinj:=λL L' b h1 h2=>h.oinj L L' b (gx _ _ h1) (gx _ _ h2)
  obx:=λL b i h1=>h.obx L b i (gx _ _ h1)
  obnd:=λL b h1=>h.obnd L b (gx _ _ h1)
  glob:=h.glob }
def FreeOb (M:Mx) (w0 w:World) (β:Nat->Option Nat) (ob:Loc->Option Nat) (o:Option Nat):Prop:=
 ∀ b,o=some b->(b<w.heap.size/\Wr M w0 b)/\(∀ L,ob L≠some b)/\(∀ i,β i≠some b)
theorem FreeOb.nothing:FreeOb M w0 w β ob none:=λ_ h=>by cases h
theorem St.put (h:St G n I0 M w0 I β ob s a w) (d:Nat) (hd:d<n) {v:Value} {x:V} {o:Option Nat} (hv:LR (Wr M w0) I β w o v x)
 (hf:FreeOb M w0 w β (upL ob (.t d) none) o):St G n I0 M w0 I β (upL ob (.t d) o) (s.put (some d) x) (a.put (some d) v) w:=by
 have gx:∀ L b,upL ob (.t d) o L=some b->(L=.t d/\o=some b)∨(L≠.t d/\ob L=some b):=λL b hL=>by
  simp only[upL] at hL;split at hL
  .exact .inl ⟨‹_›,hL⟩
  .exact .inr ⟨‹_›,hL⟩
 have gY:∀ L b,L≠.t d->ob L=some b->o≠some b:=λL b hL hb e=>by have:=(hf b e).2.1 L;simp only[upL,if_neg hL] at this;exact this hb
 exact {
  size:=by simp[Act.put,h.size],defers:=h.defers,below:=h.below,kept:=h.kept,ilow:=h.ilow,ihigh:=h.ihigh,ibnd:=h.ibnd
  fr:=λu=>by
   by_cases hu:u=d
   .subst hu
    have e1:upL ob (.t u) o (.t u)=o:=(by simp[upL]);have e2:(a.put (some u) v).tmps.getD u undef=v:=mj _ _ _ (by rw[h.size];exact hd);rw[e1,e2];simpa only[S.put,cg] using hv
   .have e1:upL ob (.t d) o (.t u)=ob (.t u):=by simp[upL,hu]
    have e2:(a.put (some d) v).tmps.getD u undef=a.tmps.getD u undef:=getD_set_ne _ _ _ _ hu;rw[e1,e2];simpa only[S.put,cP _ _ hu] using h.fr u
  bx:=λi hi=>by obtain⟨blk,cur,e1,e2,e3,e4,e5,e7⟩:=h.bx i hi;exact⟨blk,cur,e1,e2,e3,e4,λj=>by have:upL ob (.t d) o (.b i j)=ob (.b i j):=(by simp[upL]);rw[this];exact e5 j,e7⟩
  bnone:=h.bnone,ext:=h.ext,bnew:=h.bnew,binj:=h.binj
  oinj:=λL L' b h1 h2=>by
   rcases gx _ _ h1 with⟨h1,jF⟩ | ⟨h1,jF⟩<;>rcases gx _ _ h2 with⟨h2,nB⟩ | ⟨h2,nB⟩
   .rw[h1,h2]
   .exact absurd jF (gY _ _ h2 nB)
   .exact absurd nB (gY _ _ h1 jF)
   .exact h.oinj L L' b jF nB
  obx:=λL b i h1=>by
   rcases gx _ _ h1 with⟨h1,jF⟩ | ⟨h1,jF⟩
   .exact(hf b jF).2.2 i
   .exact h.obx L b i jF
  obnd:=λL b h1=>by
   rcases gx _ _ h1 with⟨h1,jF⟩ | ⟨h1,jF⟩
   .exact(hf b jF).1
   .exact h.obnd L b jF
  glob:=h.glob }
theorem FreeOb.moved (h:St G n I0 M w0 I β ob s a w) (t:Nat) (L:Loc):FreeOb M w0 w β (upL (upL ob (.t t) none) L none) (ob (.t t)):=λb hb=>by
 refine⟨h.obnd _ b hb,λL' yH=>?_,λi=>h.obx _ b i hb⟩;simp only[upL] at yH;split at yH
 .cases yH
 .split at yH
  .cases yH
  .rename_i h1 h2
   exact h2 (h.oinj _ _ b yH hb)
inductive K where
 |int (k:IntKind) | bool | str | slice (e:TypeId) | ptr (e:TypeId) | arr (n:Nat) (e:TypeId) | struct | map (k e:TypeId) | other
inductive EK where
 |int | bool | str
structure TI where
 kd:K
 size:Nat
 bytes:Nat
 agg:Bool
 zero:Option (List C)
 flds:List (Nat×Nat×Bool)
 eqs:Option (List EK)
def zc:Value->Option C
 | .slice none 0 0=>some (.sl [])
 |v=>if flat v then some (.lit v) else none
def dh (P:Program) (t:TypeId):Bool:=
 match P.underlying t with
 |some (.struct _) | some (.array _ _)=>true
 |_=>false
def vq:TypeDesc->K
 | .bool=>.bool | .int k=>.int k | .string=>.str | .slice e=>.slice e | .array n e=>.arr n e | .struct _=>.struct | .pointer e=>.ptr e | .map k e=>.map k e | _=>.other
def D9 (P:Program) (r:TypeId->Option (List EK)):List Field->List EK->Option (List EK)
 |[],acc=>some acc
 |f::fs,acc=>match r f.type with
  |some ks=>if f.name≠ "_" /\ f.offset=acc.length/\ks.length=P.cellsOf f.type then D9 P r fs (acc++ks) else none
  |none=>none
def eqk (P:Program):Nat->TypeId->Option (List EK)
 |0,_=>none
 |d+1,t=>match P.underlying t with
  |some (.int _)=>some [.int]
  |some .bool=>some [.bool]
  |some .string=>some [.str]
  |some (.struct fs)=>if P.stoodInHeld t then none else D9 P (eqk P d) fs.toList []
  |some (.array n e)=>match eqk P d e with
   |some ks=>if ks.length=P.cellsOf e then some (List.replicate n ks).flatten else none
   |none=>none
  |_=>none
def yK (P:Program):TypeDesc->List (Nat×Nat×Bool)
 | .struct fs=>fs.toList.map λf=>(f.offset,P.cellsOf f.type,dh P f.type)
 |_=>[]
def MA (P:Program):TypeDesc->Bool
 | .struct fs=>fs.toList.all λf=>(P.underlying f.type).isSome
 |_=>true
def ti (P:Program) (t:TypeId):Option TI:=
 match P.info? t,P.underlying t with
 |some i,some d=>if MA P d=false then none else some {
   kd:=vq d,size:=i.size,bytes:=i.bytes,agg:=dh P t
   zero:=match i.zero with | some v=>v.cells.toList.mapM zc | none=>none
   flds:=yK P d
   eqs:=if P.eqGuardType P.depth t then none else eqk P 8 t }
 |_,_=>none
def V.fz:V->V
 | .ow _ es=>.c (.sl es)
 | .it _ _ _ _=>.un
 | .gh _ _ _=>.un
 | .hh (some v) _ _=>.c (.ex v)
 | .hh none _ _=>.un
 | .gs (some v) _ _=>.c (.ex v)
 | .gs none _ _=>.un
 | .gg _ _ _=>.un
 |v=>v
def V.asC:V->Option C
 | .c x=>some x
 | .ow _ es=>some (.sl es)
 |_=>none
def V.cs:V->Option (List C)
 | .c x=>some [x]
 | .ow _ es=>some [.sl es]
 | .agg cs=>some cs
 |_=>none
def C.isLit:C->Bool
 | .lit _=>true
 |_=>false
def V.isFlat:V->Bool
 | .c (.lit _)=>true
 | .un | .sk=>true
 | .agg cs=>cs.all C.isLit
 | .tup ds=>ds.all λ| .c (.lit _)=>true | .agg cs=>cs.all C.isLit | _=>false
 |_=>false
def constC:Value->C
 | .slice none 0 0=>.sl []
 |v=>.lit v
def Gk:Value->Bool
 | .slice none 0 0=>true
 |v=>flat v
def oN:Value->V
 | .slice none 0 0=>.ow none []
 | .agg vs=>if vs.toList.all Gk then .agg (vs.toList.map constC) else .un
 |v=>if flat v then .c (.lit v) else .un
abbrev Gl:=Nat->Option (List C)
def ev (G:Gl) (s:S):Operand->V
 | .tmp t=>s.fr t
 | .const v=>oN v
 | .global g=>match gat G g with | some cs=>.c (.rp cs 0) | none=>.un
 | .func f=>.c (.fn (.func f) [] [])
def AA (s:S) (i:Nat):Option (List C):=if i<s.nb then(s.bx i).mapM V.asC else none
def nL (sz:Nat):Nat->List C->List (List C)
 |0,_=>[]
 |n+1,cs=>cs.take sz::nL sz n (cs.drop sz)
def nF (s:S) (i off len sz:Nat):Option C:=match AA s i with
 |some cs=>if off+len*sz<=cs.length then some (.sl (nL sz len (cs.drop off))) else none
 |none=>none
def v7 (s:S):V->Option C
 | .c x=>some x
 | .ow _ es=>some (.sl es)
 | .bp i off=>(AA s i).map λcs=>.rp cs off
 | .ms i off len _ sz=>nF s i off len sz
 |_=>none
def imm (s:S):V->Option V
 | .c x=>some (.c x)
 | .agg cs=>some (.agg cs)
 | .ow _ es=>some (.c (.sl es))
 | .bp i off=>(AA s i).map λcs=>.c (.rp cs off)
 | .clo f fs cs=>match fs.mapM (v7 s),cs.mapM (v7 s) with
  |some fs',some cs'=>some (.c (.fn f fs' cs'))
  |_,_=>none
 | .ms i off len _ sz=>(nF s i off len sz).map .c
 | .mag vs=>(vs.mapM (v7 s)).map .agg
 |_=>none
def V.isBp:V->Bool
 | .bp _ _=>true
 | .ms _ _ _ _ _=>true
 | .mr _=>true
 | .yl _=>true
 | .bm _ _ _=>true
 |_=>false
def V.isPR:V->Bool
 | .c _ | .bp _ _ | .ms _ _ _ _ _ | .mr _ | .yl _ | .bm _ _ _=>true
 |_=>false
def V.isPO:V->Bool
 | .c _ | .bp _ _ | .ms _ _ _ _ _ | .mr _ | .ow _ _ | .yl _ | .bm _ _ _=>true
 |_=>false
def V.boxy:V->Bool
 | .bp _ _=>true
 | .clo _ fs cs=>fs.any V.isBp||cs.any V.isBp
 | .ms _ _ _ _ _=>true
 | .mr _ | .it _ _ _ _ | .yl _ | .bm _ _ _=>true
 | .mag vs=>vs.any V.isBp
 |_=>false
def eqC:EK->C->C->Option Bool
 | .int,.lit (.int k a),.lit (.int k' b)=>if k=k' then some (decide (a=b)) else none
 | .bool,.lit (.bool a),.lit (.bool b)=>some (a==b)
 | .str,.lit (.string a),.lit (.string b)=>some (decide (a=b))
 |_,_,_=>none
def iG:List EK->List C->List C->Option Bool
 |[],_,_=>some true
 |k::ks,c::cs,d::ds=>match eqC k c d,iG ks cs ds with
  |some p,some q=>some (p&&q)
  |_,_=>none
 |_,_,_=>none
def nD (op:BinOp) (k:IntKind) (a b:Int) (K:V->Prop):Prop:=
 match op with
 | .add=>K (.c (.lit (.int k (k.wrap (a+b)))))
 | .sub=>K (.c (.lit (.int k (k.wrap (a - b)))))
 | .mul=>K (.c (.lit (.int k (k.wrap (a*b)))))
 | .quo=>b≠0/\K (.c (.lit (.int k (k.wrap (a.tdiv b)))))
 | .rem=>b≠0/\K (.c (.lit (.int k (a.tmod b))))
 | .and=>K (.c (.lit (.int k (bits .and k a b))))
 | .or=>K (.c (.lit (.int k (bits .or k a b))))
 | .xor=>K (.c (.lit (.int k (bits .xor k a b))))
 | .andNot=>K (.c (.lit (.int k (bits .andNot k a b))))
 | .eql=>K (.c (.lit (.bool (decide (a=b)))))
 | .neq=>K (.c (.lit (.bool (!decide (a=b)))))
 | .lss=>K (.c (.lit (.bool (decide (a<b)))))
 | .leq=>K (.c (.lit (.bool (decide (a<=b)))))
 | .gtr=>K (.c (.lit (.bool (decide (b<a)))))
 | .geq=>K (.c (.lit (.bool (decide (b<=a)))))
 | .shl=>0<=b/\K (.c (.lit (.int k (k.wrap (a*2 ^ (min b.toNat k.bits))))))
 | .shr=>0<=b/\K (.c (.lit (.int k (a.fdiv (2 ^ (min b.toNat k.bits))))))
def ID (op:BinOp) (a b:ByteArray) (K:V->Prop):Prop:=
 match op with
 | .add=>a.size+b.size<=9223372036854775807/\K (.c (.lit (.string (a++b))))
 | .eql=>K (.c (.lit (.bool (decide (a=b)))))
 | .neq=>K (.c (.lit (.bool (!decide (a=b)))))
 | .lss=>K (.c (.lit (.bool (Op.bytesLess a.toList b.toList))))
 | .leq=>K (.c (.lit (.bool (Op.bytesLess a.toList b.toList||decide (a=b)))))
 | .gtr=>K (.c (.lit (.bool (!(Op.bytesLess a.toList b.toList||decide (a=b))))))
 | .geq=>K (.c (.lit (.bool (!Op.bytesLess a.toList b.toList))))
 |_=>False
def j5 (P:Program) (op:BinOp) (T:TypeId) (x y:V) (K:V->Prop):Prop:=
 match x,y with
 | .c (.lit (.int k a)),.c (.lit (.int k' b))=>match op with
  | .shl | .shr=>nD op k a b K
  |_=>if k=k' then nD op k a b K else False
 | .c (.lit (.string a)),.c (.lit (.string b))=>ID op a b K
 | .c (.lit (.bool a)),.c (.lit (.bool b))=>match ti P T with
  |some { kd:=.bool,.. }=>match op with
   | .eql=>K (.c (.lit (.bool (a==b))))
   | .neq=>K (.c (.lit (.bool (!(a==b)))))
   |_=>False
  |_=>False
 | .agg xs,.agg ys=>match ti P T with
  |some { eqs:=some ks,agg:=true,.. }=>match iG ks xs ys with
   |some r=>(xs.length=ks.length/\ys.length=ks.length)/\match op with
    | .eql=>K (.c (.lit (.bool r)))
    | .neq=>K (.c (.lit (.bool (!r))))
    |_=>False
   |none=>False
  |_=>False
 |_,_=>False
def vun (op:UnOp) (x:V) (K:V->Prop):Prop:=
 match op,x with
 | .neg,.c (.lit (.int k n))=>K (.c (.lit (.int k (k.wrap (0 - n)))))
 | .xor,.c (.lit (.int k n))=>K (.c (.lit (.int k (bits .xor k (if k.signed then -1 else k.max) n))))
 | .not,.c (.lit (.bool b))=>K (.c (.lit (.bool !b)))
 |_,_=>False
def dI (ag:Bool) (sz off:Nat) (cs:List C) (K:V->Prop):Prop:=
 if ag then(off+sz<=cs.length/\K (.agg ((cs.drop off).take sz)))
 else match cs[off]? with
  |some c=>K (.c c)
  |none=>False
def Bq (vs:List V):V:=match vs.mapM V.asC with
 |some cs=>.agg cs
 |none=>.mag vs
def zJ (ag:Bool) (sz off:Nat) (vs:List V) (K:V->Prop):Prop:=
 if ag then(off+sz<=vs.length/\K (Bq ((vs.drop off).take sz)))
 else match vs[off]? with
  |some v=>K v
  |none=>False
def oZ (cs:List C) (off:Nat) (ds:List C):List C:=cs.take off++ds++cs.drop (off+ds.length)
def kT (flds:List (Nat×Nat×Bool)):List (Nat×V)->List C->Option (List C)
 |[],cs=>some cs
 |(i,v)::r,cs=>match flds[i]?,v.cs with
  |some (off,sz,_),some ds=>if ds.length=sz/\off+sz<=cs.length then kT flds r (oZ cs off ds) else none
  |_,_=>none
def ml (sz:Nat):List (Nat×V)->List (List C)->Option (List (List C))
 |[],es=>some es
 |(i,v)::r,es=>match v.cs with
  |some ds=>if ds.length=sz/\i<es.length then ml sz r (es.set i ds) else none
  |none=>none
def pa (s:ByteArray):List (List C):=s.data.toList.map λb=>[.lit (.int .u8 b.toNat)]
def xj:List (List C)->Option (List UInt8)
 |[]=>some []
 |[.lit (.int .u8 n)]::r=>(xj r).map λl=>UInt8.ofNat n.toNat::l
 |_=>none
def jR (P:Program) (src dst:TypeId) (x:V) (K:V->Prop):Prop:=
 match ti P src,ti P dst,x with
 |some _,some { kd:=.int k,.. },.c (.lit (.int _ n))=>K (.c (.lit (.int k (k.wrap n))))
 |some _,some { kd:=.str,.. },.c (.lit (.string s))=>K (.c (.lit (.string s)))
 |some { kd:=.str,.. },some { kd:=.slice e,.. },.c (.lit (.string s))=>match ti P e with
  |some { kd:=.int .u8,.. }=>K (.c (.sl (pa s)))
  |_=>False
 |some { kd:=.slice e,.. },some { kd:=.str,.. },.c (.sl es)=>match ti P e with
  |some { kd:=.int .u8,.. }=>match xj es with
   |some l=>K (.c (.lit (.string ⟨l.toArray⟩)))
   |none=>False
  |_=>False
 |_,_,_=>False
def iU (d:Int):Option V->Option Int
 |none=>some d
 |some (.c (.lit (.int _ n)))=>some n
 |_=>none
def jl (P:Program) (T:TypeId) (x:V) (lo hi:Option V) (mx:Option V) (K:V->Prop):Prop:=
 match ti P T,x with
 |some { kd:=.str,.. },.c (.lit (.string s))=>match iU 0 lo,iU s.size hi,mx with
  |some l,some h,none=>(0<=l/\l<=h/\h<=s.size)/\K (.c (.lit (.string (s.extract l.toNat h.toNat))))
  |_,_,_=>False
 |some { kd:=.slice e,.. },.c (.sl es)=>match mx with
  |none=>match ti P e,iU 0 lo,iU es.length hi with
   |some i,some l,some h=>(0<=l/\l<=h/\h<=es.length/\∀ x∈es,x.length=i.size)/\K (.c (.sl ((es.take h.toNat).drop l.toNat)))
   |_,_,_=>False
  |some (.c (.lit (.int _ m)))=>match ti P e,iU 0 lo,hi with
   |some i,some l,some (.c (.lit (.int _ h)))=>(0<=l/\l<=h/\h<=es.length/\m=h/\∀ x∈es,x.length=i.size)/\K (.ow none ((es.take h.toNat).drop l.toNat))
   |_,_,_=>False
  |some _=>False
 |some { kd:=.slice e,.. },.ms b off len cap sz=>match ti P e,iU 0 lo,iU len hi,iU cap mx with
  |some i,some l,some h,some m=>(i.size=sz/\0<=l/\l<=h/\h<=m/\m<=cap/\(mx.isSome=true->hi.isSome=true))/\K (.ms b (off+l.toNat*sz) (h.toNat - l.toNat) (m.toNat - l.toNat) sz)
  |_,_,_,_=>False
 |some { kd:=.slice e,.. },.c (.ex (.slice (some ⟨blk,off,none⟩) len cap))=>match ti P e,iU 0 lo,iU len hi,iU cap mx with
  |some i,some l,some h,some m=>(0<=l/\l<=h/\h<=m/\m<=cap/\(mx.isSome=true->hi.isSome=true))/\K (.c (.ex (.slice (some ⟨blk,if m.toNat=l.toNat then off else off+l.toNat*i.size,none⟩) (h.toNat - l.toNat) (m.toNat - l.toNat))))
  |_,_,_,_=>False
 |some { kd:=.arr n e,.. },.c (.rp cs k)=>match ti P e,lo,hi,mx with
  |some i,none,none,none=>(k+n*i.size<=cs.length)/\K (.c (.sl (nL i.size n (cs.drop k))))
  |_,_,_,_=>False
 |some { kd:=.arr n e,.. },.bp b k=>match ti P e,iU 0 lo,iU n hi,mx with
  |some i,some l,some h,none=>(0<=l/\l<=h/\h<=n)/\K (.ms b (k+l.toNat*i.size) (h.toNat - l.toNat) (n - l.toNat) i.size)
  |_,_,_,_=>False
 |_,_=>False
def amw (P:Program) (T:TypeId) (x:V) (K:V->Prop):Prop:=False
def iR (P:Program) (T:TypeId) (x:V) (K:V->Prop):Prop:=
 match ti P T,x with
 |some { kd:=.str,.. },.c (.lit (.string s))=>K (.c (.lit (.int .i64 s.size)))
 |some { kd:=.slice _,.. },.c (.sl es)=>K (.c (.lit (.int .i64 es.length)))
 |some { kd:=.slice _,.. },.ow _ es=>K (.c (.lit (.int .i64 es.length)))
 |some { kd:=.slice _,.. },.ms _ _ len _ _=>K (.c (.lit (.int .i64 len)))
 |some { kd:=.slice _,.. },.c (.ex (.slice _ len _))=>K (.c (.lit (.int .i64 len)))
 |some { kd:=.arr n _,.. },_=>K (.c (.lit (.int .i64 n)))
 |_,_=>False
def dF (P:Program) (T:TypeId) (x i:V) (K:V->Prop):Prop:=
 match ti P T,x,i with
 |some { kd:=.slice e,.. },.c (.sl es),.c (.lit (.int _ n))=>match ti P e with
  |some j=>(0<=n/\j.size≠0)/\match es[n.toNat]? with
   |some c=>c.length=j.size/\K (.c (.rp c 0))
   |none=>False
  |none=>False
 |some { kd:=.arr m e,.. },.c (.rp cs k),.c (.lit (.int _ n))=>match ti P e with
  |some j=>(0<=n/\n<m)/\K (.c (.rp cs (k+n.toNat*j.size)))
  |none=>False
 |some { kd:=.slice e,.. },.ms b off len _ sz,.c (.lit (.int _ n))=>match ti P e with
  |some j=>(0<=n/\n<len/\j.size=sz/\sz≠0)/\K (.bp b (off+n.toNat*sz))
  |none=>False
 |some { kd:=.arr m e,.. },.bp b k,.c (.lit (.int _ n))=>match ti P e with
  |some j=>(0<=n/\n<m)/\K (.bp b (k+n.toNat*j.size))
  |none=>False
 |some { kd:=.slice e,.. },.c (.ex (.slice (some ⟨blk,off,none⟩) len _)),.c (.lit (.int _ n))=>match ti P e with
  |some j=>(0<=n/\n<len/\j.size≠0)/\K (.c (.ex (.pointer (some ⟨blk,off+n.toNat*j.size,none⟩))))
  |none=>False
 |_,_,_=>False
def mI (P:Program) (T:TypeId) (x i:V) (K:V->Prop):Prop:=
 match ti P T,x,i with
 |some { kd:=.str,.. },.c (.lit (.string s)),.c (.lit (.int _ n))=>0<=n/\match s.data[n.toNat]? with
  |some b=>K (.c (.lit (.int .u8 b.toNat)))
  |none=>False
 |some { kd:=.arr m e,.. },.agg cs,.c (.lit (.int _ n))=>match ti P e with
  |some j=>(0<=n/\n<m)/\dI j.agg j.size (n.toNat*j.size) cs K
  |none=>False
 |_,_,_=>False
def bq (P:Program) (T:TypeId) (x:V) (f:Nat) (K:V->Prop):Prop:=
 match ti P T with
 |some i=>match i.flds[f]?,x with
  |some (off,sz,_),.c (.rp cs k)=>sz≠0/\K (.c (.rp cs (k+off)))
  |some (off,sz,_),.bp b k=>sz≠0/\K (.bp b (k+off))
  |some (off,sz,_),.c (.ex (.pointer (some ⟨blk,k,none⟩)))=>sz≠0/\K (.c (.ex (.pointer (some ⟨blk,k+off,none⟩))))
  |_,_=>False
 |none=>False
def r0 (P:Program) (T:TypeId) (x:V) (f:Nat) (K:V->Prop):Prop:=
 match ti P T,x with
 |some i,.agg cs=>match i.flds[f]? with
  |some (off,sz,ag)=>dI ag sz off cs K
  |none=>False
 |some i,.mag vs=>match i.flds[f]? with
  |some (off,sz,ag)=>zJ ag sz off vs K
  |none=>False
 |_,_=>False
def V.ldv:V->V
 | .ow none es=>.ow none es
 | .bm g i off=>.clo (.func g) [.bp i off] []
 |x=>x.fz
def C.ldc:C->V
 | .sx es=>.ow none es
 |c=>.c c
def dG (P:Program) (T:TypeId) (s:S) (x:V) (K:V->Prop):Prop:=
 match ti P T,x with
 |some i,.c (.rp cs k)=>dI i.agg i.size k cs K
 |some i,.bp b k=>(b<s.nb/\cL (s.bx b)=false)/\if i.agg then(((((s.bx b).drop k).take i.size).length=i.size/\(((s.bx b).drop k).take i.size).all V.isPO=true)/\K (Bq ((((s.bx b).drop k).take i.size).map V.fz)))
  else match(s.bx b)[k]? with
   |some v=>K v.ldv
   |none=>False
 |some i,.c (.ex (.pointer (some ⟨blk,o,none⟩)))=>(i.agg=false/\∃ (b k len cap:Nat) (E:Option (TypeId×Nat)) (es:List (List C)) (c:C),(b<s.nb/\cL (s.bx b)=false/\(s.bx b)[k]?=some (V.hh (some (.slice (some ⟨blk,0,none⟩) len cap)) E es)/\es.flatten[o]?=some c)/\K c.ldc)∨
   ∃ (b k len cap:Nat) (E:Option (TypeId×Nat)) (es:List (List C)),(b<s.nb/\cL (s.bx b)=false/\(s.bx b)[k]?=some (V.gs (some (.slice (some ⟨blk,0,none⟩) len cap)) E es))/\dI i.agg i.size o es.flatten K
 |_,_=>False
def V.ps:V->Option (List V)
 | .c x=>some [.c x]
 | .ow _ es=>some [.c (.sl es)]
 | .agg cs=>some (cs.map .c)
 | .bp i off=>some [.bp i off]
 | .ms i off len cap sz=>some [.ms i off len cap sz]
 | .mr i=>some [.mr i]
 | .yl i=>some [.yl i]
 | .mag vs=>some vs
 | .clo (.func g) [.bp i off] []=>some [.bm g i off]
 | .bm g i off=>some [.bm g i off]
 |_=>none
def AB (vs:List V) (off:Nat) (ds:List V):List V:=vs.take off++ds++vs.drop (off+ds.length)
def lx (flds:List (Nat×Nat×Bool)):List (Nat×V)->List V->Option (List V)
 |[],cs=>some cs
 |(i,v)::r,cs=>match flds[i]?,v.ps with
  |some (off,sz,_),some ds=>if ds.length=sz/\off+sz<=cs.length then lx flds r (AB cs off ds) else none
  |_,_=>none
def jt (P:Program) (T:TypeId) (parts:List (Nat×V)) (K:V->Prop):Prop:=
 match ti P T with
 |some { kd:=.struct,zero:=some z,flds:=flds,.. }=>match kT flds parts z with
  |some cs=>K (.agg cs)
  |none=>match lx flds parts (z.map .c) with
   |some vs=>K (.mag vs)
   |none=>False
 |some { kd:=.arr n e,zero:=some z,.. }=>match ti P e with
  |some j=>match kT ((List.range n).map λi=>(i*j.size,j.size,j.agg)) parts z with
   |some cs=>K (.agg cs)
   |none=>match lx ((List.range n).map λi=>(i*j.size,j.size,j.agg)) parts (z.map .c) with
    |some vs=>K (.mag vs)
    |none=>False
  |none=>False
 |_=>False
def cH (P:Program) (T:TypeId) (len:Nat) (parts:List (Nat×V)) (K:V->Prop):Prop:=
 match ti P T with
 |some { kd:=.slice e,.. }=>match ti P e with
  |some { size:=sz,zero:=some z,.. }=>(0<sz/\z.length=sz/\len*sz<=16777216)/\match ml sz parts (List.replicate len z) with
   |some es=>K (.ow (if len=0 then none else some (e,sz)) es)
   |none=>False
  |_=>False
 |_=>False
def GOK (G:Gl) (I:Ft) (w:World):Prop:=∀ g cs,gat G g=some cs->GCR I w g cs
def ajh (base:Nat->Prop) (I:Ft) (w:World) (v:Value) (r:V):Prop:=
 ∃ ob,LR base I (λ_=>none) w ob v r/\∀ b,ob=some b->base b/\b<w.heap.size
def FnOK (P:Program) (G:Gl) (f:FuncId) (args:List V) (r:V):Prop:=
 (∃ fn,P.funcs[f]?=some fn/\(fn.name== "runtime.NumGoroutine")=false/\∃ c,fn.body=some c)/\
 ∀ (I:Ft) (w:World) (vs:Array Value),(∀ b o,I b o->b<w.heap.size)->GOK G I w->vs.size=args.length->(∀ j x,args[j]?=some x->DR I w (vs.getD j undef) x)->
  Calls P f vs w λe w'=>∃ v I',e=.returned v/\World.grt (GT G) w w' none/\(∀ b o,I b o->I' b o)/\
   (∀ b o,I' b o->I b o∨(w.heap.size<=b/\b<w'.heap.size))/\ajh (λb=>w.heap.size<=b) I' w' v r
def V.renP (ρ:Nat->Nat):V->V
 | .bp i o=>.bp (ρ i) o
 | .bm g i o=>.bm g (ρ i) o
 | .ms i o l k z=>.ms (ρ i) o l k z
 | .mr i=>.mr (ρ i)
 | .yl i=>.yl (ρ i)
 |x=>x
def V.ren (ρ:Nat->Nat):V->V
 | .bp i o=>.bp (ρ i) o
 | .bm g i o=>.bm g (ρ i) o
 | .ms i o l k z=>.ms (ρ i) o l k z
 | .mr i=>.mr (ρ i)
 | .it i p q l=>.it (ρ i) p q l
 | .yl i=>.yl (ρ i)
 | .lp r fl=>.lp r (fl.map λp=>(p.1,p.2.renP ρ))
 | .clo f fs cs=>.clo f (fs.map (V.renP ρ)) (cs.map (V.renP ρ))
 | .mag vs=>.mag (vs.map (V.renP ρ))
 |x=>x
def V.ltP (m:Nat):V->Prop
 | .bp i _=>i<m
 | .bm _ i _=>i<m
 | .ms i _ _ _ _=>i<m
 | .mr i=>i<m
 | .yl i=>i<m
 |_=>True
def V.lt (m:Nat):V->Prop
 | .bp i _=>i<m
 | .bm _ i _=>i<m
 | .clo _ fs cs=>(∀ x∈fs,x.ltP m)/\∀ x∈cs,x.ltP m
 | .ms i _ _ _ _=>i<m
 | .mr i=>i<m
 | .it i _ _ _=>i<m
 | .yl i=>i<m
 | .lp _ fl=>∀ p∈fl,p.2.ltP m
 | .mag vs=>∀ x∈vs,x.ltP m
 |_=>True
structure BxR (W:Nat->Prop) (I:Ft) (w:World) (β:Nat->Option Nat) (ob:Nat->Nat->Option Nat) (bl:List (List V)):Prop where
 bx:∀ i cs,bl[i]?=some cs->∃ blk cur,β i=some blk/\W blk/\HB w blk cur cs/\cs.length<=cur.size/\
  (∀ j,LR W I β w (ob i j) (cur.getD j undef) (cs.getD j .un))/\(∀ o,¬ I blk o)
 bnone:∀ i,bl.length<=i->β i=none
 binj:∀ i j b,β i=some b->β j=some b->i=j
 oinj:∀ i j i' j' b,ob i j=some b->ob i' j'=some b->i=i'/\j=j'
 obx:∀ i j b k,ob i j=some b->β k≠some b
 obnd:∀ i j b,ob i j=some b->b<w.heap.size/\W b
 olen:∀ i j,bl.length<=i->ob i j=none
def FnB (P:Program) (G:Gl) (f:FuncId) (args:List V) (b0:List (List V)) (r:V) (b1:List (List V)):Prop:=
 (∃ fn,P.funcs[f]?=some fn/\(fn.name== "runtime.NumGoroutine")=false/\∃ c,fn.body=some c)/\
 ((∀ x∈args,x.lt b0.length)/\(∀ b∈b0,∀ x∈b,x.lt b0.length)/\b0.length<=b1.length)/\
 ∀ (I:Ft) (M:Mx) (w:World) (vs:Array Value) (β:Nat->Option Nat) (ob:Nat->Nat->Option Nat),(∀ b o,I b o->b<w.heap.size)->GOK G I w->BxR (Wr M w) I w β ob b0->vs.size=args.length->
  (∀ j x,args[j]?=some x->LR (Wr M w) I β w none (vs.getD j undef) x)->
  Calls P f vs w λe w'=>∃ v I' β' ob' o',e=.returned v/\BelowM (GT G) M w w'/\(∀ b o,I b o->I' b o)/\(∀ b o,I' b o->I b o∨(Wr M w b/\b<w'.heap.size))/\
   (∀ b o,I b o->w'.cell? ⟨b,o,none⟩=w.cell? ⟨b,o,none⟩)/\(∀ i,i<b0.length->β' i=β i)/\(∀ i b,b0.length<=i->β' i=some b->Wr M w b)/\BxR (Wr M w) I' w' β' ob' b1/\
   LR (Wr M w) I' β' w' o' v r/\(∀ b,o'=some b->(b<w'.heap.size/\Wr M w b)/\(∀ i j,ob' i j≠some b)/\∀ i,β' i≠some b)
def FnE (P:Program) (G:Gl) (f:FuncId) (args:List V) (b0:List (List V)) (R:V->List (List V)->Prop):Prop:=
 (∃ fn,P.funcs[f]?=some fn/\(fn.name== "runtime.NumGoroutine")=false/\∃ c,fn.body=some c)/\
 ((∀ x∈args,x.lt b0.length)/\(∀ b∈b0,∀ x∈b,x.lt b0.length)/\∀ r b1,R r b1->b0.length<=b1.length)/\
 ∀ (I:Ft) (M:Mx) (w:World) (vs:Array Value) (β:Nat->Option Nat) (ob:Nat->Nat->Option Nat),(∀ b o,I b o->b<w.heap.size)->GOK G I w->BxR (Wr M w) I w β ob b0->vs.size=args.length->
  (∀ j x,args[j]?=some x->LR (Wr M w) I β w none (vs.getD j undef) x)->
  Calls P f vs w λe w'=>∃ r b1,R r b1/\∃ v I' β' ob' o',e=.returned v/\BelowM (GT G) M w w'/\(∀ b o,I b o->I' b o)/\(∀ b o,I' b o->I b o∨(Wr M w b/\b<w'.heap.size))/\
   (∀ b o,I b o->w'.cell? ⟨b,o,none⟩=w.cell? ⟨b,o,none⟩)/\(∀ i,i<b0.length->β' i=β i)/\(∀ i b,b0.length<=i->β' i=some b->Wr M w b)/\BxR (Wr M w) I' w' β' ob' b1/\
   LR (Wr M w) I' β' w' o' v r/\(∀ b,o'=some b->(b<w'.heap.size/\Wr M w b)/\(∀ i j,ob' i j≠some b)/\∀ i,β' i≠some b)
def YB (P:Program) (G:Gl) (args:List V) (b0:List (List V)) (r:V) (b1:List (List V)):Prop:=
 ((∀ x∈args,x.lt b0.length)/\(∀ b∈b0,∀ x∈b,x.lt b0.length)/\b0.length<=b1.length)/\
 ∀ (I:Ft) (M:Mx) (w:World) (vs:Array Value) (β:Nat->Option Nat) (ob:Nat->Nat->Option Nat) (l:Nat),(∀ b o,I b o->b<w.heap.size)->GOK G I w->BxR (Wr M w) I w β ob b0->β 0=some l->vs.size=args.length->
  (∀ j x,args[j]?=some x->LR (Wr M w) I β w none (vs.getD j undef) x)->
  YieldAt Fence.wide 0 P l vs w λe w'=>∃ v I' β' ob' o',e=.returned v/\BelowM (GT G) M w w'/\(∀ b o,I b o->I' b o)/\(∀ b o,I' b o->I b o∨(Wr M w b/\b<w'.heap.size))/\
   (∀ b o,I b o->w'.cell? ⟨b,o,none⟩=w.cell? ⟨b,o,none⟩)/\(∀ i,i<b0.length->β' i=β i)/\(∀ i b,b0.length<=i->β' i=some b->Wr M w b)/\BxR (Wr M w) I' w' β' ob' b1/\
   LR (Wr M w) I' β' w' o' v r/\(∀ b,o'=some b->(b<w'.heap.size/\Wr M w b)/\(∀ i j,ob' i j≠some b)/\∀ i,β' i≠some b)
def YE (P:Program) (G:Gl) (args:List V) (b0:List (List V)) (R:V->List (List V)->Prop):Prop:=
 ((∀ x∈args,x.lt b0.length)/\(∀ b∈b0,∀ x∈b,x.lt b0.length)/\∀ r b1,R r b1->b0.length<=b1.length)/\
 ∀ (I:Ft) (M:Mx) (w:World) (vs:Array Value) (β:Nat->Option Nat) (ob:Nat->Nat->Option Nat) (l:Nat),(∀ b o,I b o->b<w.heap.size)->GOK G I w->BxR (Wr M w) I w β ob b0->β 0=some l->vs.size=args.length->
  (∀ j x,args[j]?=some x->LR (Wr M w) I β w none (vs.getD j undef) x)->
  YieldAt Fence.wide 0 P l vs w λe w'=>∃ r b1,R r b1/\∃ v I' β' ob' o',e=.returned v/\BelowM (GT G) M w w'/\(∀ b o,I b o->I' b o)/\(∀ b o,I' b o->I b o∨(Wr M w b/\b<w'.heap.size))/\
   (∀ b o,I b o->w'.cell? ⟨b,o,none⟩=w.cell? ⟨b,o,none⟩)/\(∀ i,i<b0.length->β' i=β i)/\(∀ i b,b0.length<=i->β' i=some b->Wr M w b)/\BxR (Wr M w) I' w' β' ob' b1/\
   LR (Wr M w) I' β' w' o' v r/\(∀ b,o'=some b->(b<w'.heap.size/\Wr M w b)/\(∀ i j,ob' i j≠some b)/\∀ i,β' i≠some b)
def gz (f:V) (args:List V):Option (FuncId×List V):=match f with
 | .c (.fn (.func g) fs cs)=>some (g,fs.map .c++args++cs.map .c)
 | .clo (.func g) fs cs=>some (g,fs++args++cs)
 |_=>none
def rho (ρ:List Nat) (nb i:Nat):Nat:=if i<ρ.length then ρ.getD i 0 else nb+(i - ρ.length)
def qV (bx:Nat->List V) (nb:Nat) (ρ:Nat->Nat):Nat->List (List V)->Prop
 |_,[]=>True
 |i,b::r=>(ρ i<nb/\bx (ρ i)=b.map (V.ren ρ))/\qV bx nb ρ (i+1) r
def fQ (ρ:Nat->Nat):Nat->List (List V)->(Nat->List V)->Nat->List V
 |_,[],f=>f
 |i,b::r,f=>fQ ρ (i+1) r (up f (ρ i) (b.map (V.ren ρ)))
def kF (P:Program) (G:Gl) (bx:Nat->List V) (nb:Nat) (f:V) (args:List V) (K:(Nat->List V)->Nat->V->Prop):Prop:=match gz f args with
 |some (g,all)=>∃ (ρ:List Nat) (cargs:List V) (b0:List (List V)) (r:V) (b1:List (List V)),FnB P G g cargs b0 r b1/\all.map V.fz=cargs.map (V.ren (rho ρ nb))/\
   (ρ.length=b0.length/\ρ.Nodup)/\qV bx nb (rho ρ nb) 0 b0/\K (fQ (rho ρ nb) 0 b1 bx) (nb+(b1.length - b0.length)) (r.ren (rho ρ nb))
 |none=>False
def MB (tr:List Nat) (d:Option Tmp):Bool:=tr.contains (match d with | some d=>1100000+d | none=>1199999)
def qt (tr:List Nat) (o:Oper):Bool:=match o.op with
 | .call { callee:=.value _,.. }=>MB tr o.dst
 |_=>false
def v8 (P:Program) (G:Gl) (s:S) (f:V) (args:List V) (K:S->V->Prop):Prop:=match f with
 | .yl i=>∃ (ρ:List Nat) (cargs:List V) (b0:List (List V)) (R:V->List (List V)->Prop),YE P G cargs b0 R/\args.map V.fz=cargs.map (V.ren (rho ρ s.nb))/\
  (ρ.length=b0.length/\ρ.Nodup/\ρ.head?=some i)/\qV s.bx s.nb (rho ρ s.nb) 0 b0/\∀ r b1,R r b1->K { s with bx:=fQ (rho ρ s.nb) 0 b1 s.bx,nb:=s.nb+(b1.length - b0.length) } (r.ren (rho ρ s.nb))
 |_=>False
def vcallB (P:Program) (G:Gl) (s:S) (f:V) (args:List V) (K:S->V->Prop):Prop:=kF P G s.bx s.nb f args λbx nb x=>K { s with bx:=bx,nb:=nb } x
def QH (tr:List Nat) (d:Option Tmp):Bool:=tr.contains (match d with | some d=>1500000+d | none=>1599999)
def evX (G:Gl) (s:S):Operand->V
 | .const (.slice none 0 0)=>.c (.ex (.slice none 0 0))
 |x=>ev G s x
def lj (P:Program) (G:Gl) (s:S) (f:V) (args:List V) (K:S->V->Prop):Prop:=match gz f args with
 |some (g,all)=>∃ (ρ:List Nat) (cargs:List V) (b0:List (List V)) (R:V->List (List V)->Prop),FnE P G g cargs b0 R/\all.map V.fz=cargs.map (V.ren (rho ρ s.nb))/\
   (ρ.length=b0.length/\ρ.Nodup)/\qV s.bx s.nb (rho ρ s.nb) 0 b0/\∀ r b1,R r b1->K { s with bx:=fQ (rho ρ s.nb) 0 b1 s.bx,nb:=s.nb+(b1.length - b0.length) } (r.ren (rho ρ s.nb))
 |none=>False
theorem YB.toE {P:Program} {G:Gl} {args:List V} {b0 b1:List (List V)} {r:V} (h:YB P G args b0 r b1):YE P G args b0 (λr' b'=>r'=r/\b'=b1):=
 ⟨⟨h.1.1,h.1.2.1,λ_ _ e=>by rw[e.2];exact h.1.2.2⟩,λI M w vs β ob l q1 q2 q3 q4 q5 q6=>by obtain⟨fn,tmps,assign,body,g1,g2⟩:=h.2 I M w vs β ob l q1 q2 q3 q4 q5 q6;exact⟨fn,tmps,assign,body,g1,RoundIn.mono g2 λ_ _ q=>⟨r,b1,⟨rfl,rfl⟩,q⟩⟩⟩
theorem YE.toB {P:Program} {G:Gl} {args:List V} {b0 b1:List (List V)} {r:V} (h:YE P G args b0 (λr' b'=>r'=r/\b'=b1)) (ko:b0.length<=b1.length):YB P G args b0 r b1:=
 ⟨⟨h.1.1,h.1.2.1,ko⟩,λI M w vs β ob l q1 q2 q3 q4 q5 q6=>by obtain⟨fn,tmps,assign,body,g1,g2⟩:=h.2 I M w vs β ob l q1 q2 q3 q4 q5 q6;exact⟨fn,tmps,assign,body,g1,RoundIn.mono g2 λ_ _ q=>by obtain⟨_,_,⟨rfl,rfl⟩,q⟩:=q;exact q⟩⟩
theorem FnB.toE {P:Program} {G:Gl} {f:FuncId} {args:List V} {b0 b1:List (List V)} {r:V} (h:FnB P G f args b0 r b1):FnE P G f args b0 (λr' b'=>r'=r/\b'=b1):=
 ⟨h.1,⟨h.2.1.1,h.2.1.2.1,λ_ _ e=>by rw[e.2];exact h.2.1.2.2⟩,λI M w vs β ob q1 q2 q3 q4 q5=>(h.2.2 I M w vs β ob q1 q2 q3 q4 q5).mono λ_ _ q=>⟨r,b1,⟨rfl,rfl⟩,q⟩⟩
theorem vcallB.toR {P:Program} {G:Gl} {s:S} {f:V} {args:List V} {K:S->V->Prop} (h:vcallB P G s f args K):lj P G s f args K:=by
 unfold vcallB kF at h;unfold lj;split at h
 .obtain⟨ρ,cargs,b0,r,b1,h1,h2,h3,h4,h5⟩:=h
  exact⟨ρ,cargs,b0,_,h1.toE,h2,h3,h4,λr' b' e=>by rw[e.1,e.2];exact h5⟩
 .exact h.elim
def rq (P:Program) (G:Gl) (s:S) (callee:V) (args:List V) (K:V->Prop):Prop:=
 match callee with
 | .c (.fn (.func g) fs cs)=>match args.mapM (imm s) with
  |some as=>∃ r,FnOK P G g (fs.map .c++as++cs.map .c) r/\(args.any V.boxy=true->r.isFlat=true)/\K r
  |none=>False
 | .clo (.func g) fs cs=>match fs.mapM (imm s),args.mapM (imm s),cs.mapM (imm s) with
  |some fs',some as,some cs'=>∃ r,FnOK P G g (fs'++as++cs') r/\((fs++args++cs).any V.boxy=true->r.isFlat=true)/\K r
  |_,_,_=>False
 |_=>False
def dR (P:Program) (sT:TypeId) (x y:V) (K:V->Prop):Prop:=
 match ti P sT,x with
 |some { kd:=.slice e,.. },.ow E es=>match ti P e with
  |some { size:=sz,bytes:=by_,zero:=some z,.. }=>
   (0<sz/\z.length=sz/\(E=none∨E=some (e,sz))/\∀ x∈es,x.length=sz)/\match y with
   | .c (.sl ys)=>((es.length+ys.length)*by_<=140737488355328/\es.length+ys.length<=9223372036854775807/\∀ x∈ys,x.length=sz)/\K (.ow (if ys.isEmpty then E else some (e,sz)) (es++ys))
   |_=>False
  |_=>False
 |_,_=>False
def qA (P:Program) (t u:TypeId) (x y:V) (K:V->Prop):Prop:=
 match ti P t,ti P u,y with
 |some { kd:=.slice e,.. },some { kd:=.str,.. },.c (.lit (.string st))=>match ti P e with
  |some i=>i.size=1/\dR P t x (.c (.sl (pa st))) K
  |none=>False
 |_,_,_=>False
def Br (mx:Bool):List V->(V->Prop)->Prop
 |[.c (.lit (.int k a)),.c (.lit (.int _ b))],K=>K (.c (.lit (.int k (if mx then(if a<b then b else a) else(if b<a then b else a)))))
 |_,_=>False
def e9 (P:Program) (b:Builtin) (argTypes:List TypeId) (args:List V) (K:V->Prop):Prop:=
 match b,argTypes,args with
 | .len,[t],[x]=>iR P t x K
 | .append,[t,u],[x,y]=>if t=u then dR P t x y.fz K else qA P t u x y.fz K
 | .min,_,args=>Br false args K
 | .max,_,args=>Br true args K
 |_,_,_=>False
def UR (tr:List Nat):Option Tmp->Bool
 |some d=>tr.contains d
 |none=>false
def vw (s:S):V->V
 | .ms i off len _ sz=>match nF s i off len sz with
  |some c=>.c c
  |none=>.un
 |x=>x
def V.kcs (ag:Bool):V->Option (List C)
 | .c x=>if ag then none else some [x]
 | .agg cs=>if ag then some cs else none
 |_=>none
def j6 (ag:Bool):List V->Option (List (List C))
 |[]=>some []
 |k::_::r=>match k.kcs ag,j6 ag r with
  |some q,some l=>some (q::l)
  |_,_=>none
 |_=>none
def nG (ks:List EK) (k:List C):List (List C)->Nat->Option (Option Nat)
 |[],_=>some none
 |k'::r,i=>if k'.length=ks.length then match iG ks k k' with
   |some true=>some (some i)
   |some false=>nG ks k r (i+1)
   |none=>none
  else none
def oO (e:TI):Option V:=match e.agg,e.zero with
 |true,some z=>some (.agg z)
 |false,some [c]=>some (.c c)
 |_,_=>none
def zaB (P:Program) (t:TypeId):Bool:=match P.info? t with
 |some i=>match i.zero with
  |some (.agg _)=>dh P t
  |some _=>!dh P t
  |none=>false
 |none=>false
def V.dr:V->V
 | .c x=>.c x
 | .agg cs=>.agg cs
 | .ow _ es=>.c (.sl es)
 |_=>.un
def gW (P:Program) (T:TypeId) (s:S) (x k:V) (K:Nat->List Nat->Nat->List V->Option Nat->V->Prop):Prop:=match ti P T,x with
 |some { kd:=.map kt et,.. },.mr i=>match ti P kt,ti P et with
  |some { eqs:=some ks,agg:=ag,.. },some e=>match k.kcs ag,oO e,s.bx i with
   |some kc,some z,.mk bs cl::r=>match j6 ag r with
    |some kcs=>match nG ks kc kcs 0 with
     |some res=>(i<s.nb/\kc.length=ks.length/\iG ks kc kc=some true/\zaB P et=true)/\K i bs cl r res z
     |none=>False
    |none=>False
   |_,_,_=>False
  |_,_=>False
 |_,_=>False
def fL (P:Program) (T:TypeId) (s:S) (x k:V) (ok:Bool) (K:V->Prop):Prop:=
 gW P T s x k λ_ _ _ r res z=>match res with
  |some j=>if ok then K (.tup [(r.getD (2*j+1) .un).dr,.c (.lit (.bool true))]) else K (r.getD (2*j+1) .un).fz
  |none=>if ok then K (.tup [z.dr,.c (.lit (.bool false))]) else K z
def iC (P:Program) (T:TypeId) (s:S) (x k v:V) (K:S->Prop):Prop:=
 gW P T s x k λi bs cl r res _=>match res with
  |some j=>K { s with bx:=up s.bx i (.mk bs cl::r.set (2*j+1) v.fz) }
  |none=>K { s with bx:=up s.bx i (.mk (bs++[cl]) (cl+1)::(r++[k.fz,v.fz])) }
def gq (P:Program) (T:TypeId) (s:S) (x k:V) (K:S->V->Prop):Prop:=
 gW P T s x k λi bs cl r res z=>match res with
  |some j=>K s (.tup [(r.getD (2*j+1) .un).dr,.c (.lit (.int .i64 (bs.getD j 0)))])
  |none=>K { s with bx:=up s.bx i (.mk (bs++[cl]) (cl+1)::(r++[k.fz,z])) } (.tup [z.dr,.c (.lit (.int .i64 cl))])
def fM (s:S) (x n v:V) (K:S->Prop):Prop:=match x,n with
 | .mr i,.c (.lit (.int _ m))=>match s.bx i with
  | .mk bs cl::r=>match bs.findIdx? (λ(b:Nat)=>(b:Int)==m) with
   |some j=>i<s.nb/\K { s with bx:=up s.bx i (.mk bs cl::r.set (2*j+1) v.fz) }
   |none=>False
  |_=>False
 |_,_=>False
def oP (P:Program) (T:TypeId) (s:S) (x:V) (K:V->Prop):Prop:=match ti P T,x with
 |some { kd:=.map _ _,.. },.mr i=>match s.bx i with
  | .mk _ cl::_=>i<s.nb/\K (.it i cl cl [])
  |_=>False
 |_,_=>False
def EH (s:S) (x:V) (K:Option V->V->Prop):Prop:=match x with
 | .it i since stepped seen=>match s.bx i with
  | .mk bs cl::r=>(i<s.nb/\since<=stepped/\∀ b∈bs,b<since)/\
   ((∀ b∈bs,b∈seen)->K none (.tup [.c (.lit (.bool false))]))/\
   ∀ j b,bs[j]?=some b->b∉seen->K (some (.it i since cl (seen++[b]))) (.tup [.c (.lit (.bool true)),(r.getD (2*j) .un).dr,(r.getD (2*j+1) .un).dr])
  |_=>False
 |_=>False
def oR (s:S) (x:V) (K:V->Prop):Prop:=match x with
 | .it i _ stepped seen=>match s.bx i,seen.getLast? with
  | .mk bs cl::r,some b=>match bs.findIdx? (·==b) with
   |some j=>(i<s.nb/\cl=stepped)/\K (.tup [(r.getD (2*j) .un).dr,(r.getD (2*j+1) .un).dr])
   |none=>False
  |_,_=>False
 |_=>False
def nH (P:Program) (ts:List TypeId) (E:Option (TypeId×Nat)) (es:List (List C)) (y:V) (K:V->Prop):Prop:=match ts with
 |[t,u]=>t=u/\match ti P t with
  |some { kd:=.slice e,.. }=>match ti P e with
   |some { size:=sz,bytes:=by_,zero:=some z,.. }=>
    (0<sz/\z.length=sz/\(E=none∨E=some (e,sz))/\∀ x∈es,x.length=sz)/\match y with
    | .c (.sl [y1])=>((es.length+1)*by_<=140737488355328/\es.length+1<=9223372036854775807/\y1.length=sz)/\K (.gs none (some (e,sz)) (es++[y1]))
    |_=>False
   |_=>False
  |_=>False
 |_=>False
def Bt (tr:List Nat) (d:Option Tmp):Bool:=match d with | some d=>tr.contains (2400000+d) | none=>false
def ju (P:Program) (G:Gl) (s:S) (d:Option Tmp) (ts:List TypeId) (args:List Operand) (K:V->Prop):Prop:=match args,d with
 |[.tmp t,y],some d=>match s.fr t,s.fr d with
  | .c (.ex v),.gh u E es=>(t≠d/\v=u/\y≠.tmp t/\y≠.tmp d)/\e9 P .append ts [.ow E es,vw s (ev G s y)] K
  | .c (.ex v),.gg u E es=>(t≠d/\v=u/\y≠.tmp t/\y≠.tmp d)/\nH P ts E es (vw s (ev G s y)).fz K
  | .gs none E es,_=>(t≠d/\y≠.tmp t)/\nH P ts E es (vw s (ev G s y)).fz K
  |_,_=>False
 |_,_=>False
def xl (tr:List Nat) (d:Option Tmp):Bool:=match d with | some d=>tr.contains (2450000+d) | none=>false
def tI (P:Program) (ts:List TypeId) (E:Option (TypeId×Nat)) (es:List (List C)) (y:V) (K:V->Prop):Prop:=match ts with
 |[t,u]=>t=u/\match ti P t with
  |some { kd:=.slice e,.. }=>match ti P e with
   |some { size:=sz,bytes:=by_,zero:=some z,.. }=>
    (0<sz/\z.length=sz/\(E=none∨E=some (e,sz))/\∀ x∈es,x.length=sz)/\match y with
    | .c (.sl [y1])=>((es.length+1)*by_<=140737488355328/\es.length+1<=9223372036854775807/\y1.length=sz)/\K (.hh none (some (e,sz)) (es++[y1]))
    |_=>False
   |_=>False
  |_=>False
 |_=>False
def vr (P:Program) (G:Gl) (s:S) (d:Option Tmp) (ts:List TypeId) (args:List Operand) (K:V->Prop):Prop:=match args,d with
 |[.tmp t,y],some d=>match s.fr t,s.fr d with
  | .c (.ex v),.gh u E es=>(t≠d/\v=u/\y≠.tmp t/\y≠.tmp d)/\tI P ts E es (vw s (ev G s y)).fz K
  |_,_=>False
 |_,_=>False
def VYK (P:Program) (G:Gl) (tr:List Nat) (o:Oper) (s:S) (K:V->Prop):Prop:=
 match o.op with
 | .move x=>if UR tr o.dst then K (ev G s x) else K (ev G s x).fz
 | .assign x=>K (ev G s x)
 | .pick c a b=>match ev G s c with
  | .c (.lit (.bool p))=>K (if p then(ev G s a).fz else(ev G s b).fz)
  |_=>False
 | .binOp op T x y _=>j5 P op T (ev G s x) (ev G s y) K
 | .unOp op _ x=>vun op (ev G s x) K
 | .load T x=>dG P T s (ev G s x) K
 | .fieldAddr T x f=>bq P T (ev G s x) f K
 | .field T x f=>r0 P T (ev G s x) f K
 | .indexAddr T x i=>dF P T (ev G s x).fz (ev G s i) K
 | .index T x i=>mI P T (ev G s x) (ev G s i) K
 | .slice T x lo hi mx=>jl P T (ev G s x).fz (lo.map (ev G s)) (hi.map (ev G s)) (mx.map (ev G s)) K
 | .convert src dst x=>jR P src dst (vw s (ev G s x)).fz K
 | .build T parts=>jt P T (parts.toList.map λ(i,x)=>(i,ev G s x)) K
 | .buildSlice T len parts=>cH P T len (parts.toList.map λ(i,x)=>(i,ev G s x)) K
 | .extract x i=>match ev G s x with
  | .tup ds=>match ds[i]? with
   |some d=>K d
   |none=>False
  |_=>False
 | .lookup T x k ok=>fL P T s (ev G s x) (ev G s k) ok K
 | .range T x=>oP P T s (ev G s x) K
 | .entry x=>oR s (ev G s x) K
 | .sliceToArrayPointer T x=>amw P T (ev G s x) K
 | .nilCheck x=>match ev G s x with
  | .bp i o=>K (.bp i o)
  | .c (.rp cs k)=>K (.c (.rp cs k))
  | .c (.ex (.pointer (some ad)))=>K (.c (.ex (.pointer (some ad))))
  |_=>False
 | .makeFunc f first captured=>((first.toList.map (ev G s)).all V.isPR=true/\(captured.toList.map (ev G s)).all V.isPR=true)/\K (.clo f (first.toList.map (ev G s)) (captured.toList.map (ev G s)))
 | .call { callee:=.value f,args:=args,.. }=>rq P G s (ev G s f) (args.toList.map (ev G s)) K
 | .call { callee:=.builtin .append,args:=args,argTypes:=ts }=>if Bt tr o.dst then(if xl tr o.dst then vr P G s o.dst ts.toList args.toList K else ju P G s o.dst ts.toList args.toList K) else e9 P .append ts.toList (args.toList.map λx=>vw s (ev G s x)) K
 | .call { callee:=.builtin b,args:=args,argTypes:=ts }=>e9 P b ts.toList (args.toList.map (ev G s)) K
 |_=>False
def cn (tr:List Nat) (o:Oper):Option Tmp:=
 match o.op with
 | .move (.tmp t)=>if UR tr o.dst then some t else none
 | .assign (.tmp t)=>some t
 | .call { callee:=.builtin .append,args:=args,.. }=>match args.toList with
  | .tmp t::_=>some t
  |_=>none
 | .store _ _ (.tmp t)=>some t
 | .box _ (.tmp t)=>some t
 |_=>none
def V.isOw:V->Bool
 | .ow _ _=>true
 | .it _ _ _ _=>true
 | .gh _ _ _=>true
 | .hh _ _ _=>true
 | .gs _ _ _=>true
 | .gg _ _ _=>true
 |_=>false
def S.use (s:S):Option Tmp->S
 |some t=>if(s.fr t).isOw then s.clr t else s
 |none=>s
def S.after (tr:List Nat) (o:Oper) (s:S) (v:V):S:=(s.use (cn tr o)).put o.dst v
def nI:C->V
 | .sl []=>.ow none []
 |c=>.c c
def V.bcells:V->Option (List V)
 | .c x=>some [.c x]
 | .ow E es=>some [.ow E es]
 | .hh g E es=>some [.hh g E es]
 | .gs g E es=>some [.gs g E es]
 | .bp i off=>some [.bp i off]
 | .clo f fs cs=>some [.clo f fs cs]
 | .agg cs=>some (cs.map .c)
 | .ms i off len cap sz=>some [.ms i off len cap sz]
 | .mr i=>some [.mr i]
 | .yl i=>some [.yl i]
 | .mag vs=>some vs
 | .bm g i off=>some [.bm g i off]
 |_=>none
def eP (vs:List V) (off:Nat) (ds:List V):List V:=vs.take off++ds++vs.drop (off+ds.length)
def xm (tr:List Nat) (d:Option Tmp):Bool:=tr.contains (match d with | some d=>1000000+d | none=>999999)
def oe (tr:List Nat) (d:Option Tmp):Bool:=match d with | some d=>tr.contains (2000000+d) | none=>false
def Bv (bx:Nat->List V) (nb n m:Nat) (K:(Nat->List V)->Nat->V->Prop):V->Prop
 | .ow (some (_,sz)) es=>K (up bx nb (es.flatten.map .c)) (nb+1) (.ms nb 0 n m sz)
 |_=>False
def US (s:S) (d:Option Tmp) (n m:Nat) (K:S->Prop):V->Prop:=Bv s.bx s.nb n m λbx nb x=>K ({ s with bx:=bx,nb:=nb }.put d x)
def ry (P:Program) (T:TypeId) (l c:V) (K:Nat->Nat->Nat->List C->Prop):Prop:=
 match ti P T,l,c with
 |some { kd:=.slice e,.. },.c (.lit (.int _ n)),.c (.lit (.int _ m))=>match ti P e with
  |some { size:=sz,bytes:=by_,zero:=some z,.. }=>(0<sz/\z.length=sz/\0<=n/\n<=m/\(by_:Int)*m<=281474976710656/\m<=9223372036854775807)/\K n.toNat m.toNat sz z
  |_=>False
 |_,_,_=>False
def aaf (s:S) (d:Option Tmp) (K:S->Prop):V->Prop
 | .ow (some (_,sz)) es=>K ({ s with bx:=up s.bx s.nb (es.flatten.map .c),nb:=s.nb+1 }.put d (.ms s.nb 0 es.length es.length sz))
 |_=>False
def xn (P:Program) (s:S) (d:Option Tmp) (K:S->Prop):List TypeId->List V->Prop
 |[t,u],[.ow none es,y]=>t=u/\dR P t (.ow none es) y.fz (aaf s d K)
 |_,_=>False
def UT:Operand->Bool
 | .const (.slice none 0 0)=>true
 |_=>false
def Gm:Operand->Option Bool
 | .const (.pointer none)=>some false
 | .const .nilFunc=>some true
 |_=>none
def A3 (y:Operand):Bool:=UT y||(Gm y).isSome
def zL (P:Program) (s:S) (K:S->V->Prop):List TypeId->List V->Prop:=λ_ _=>False
def Bw (tr:List Nat) (d:Option Tmp):Bool:=match d with | some d=>tr.contains (2700000+d) | none=>false
def fF (P:Program) (s:S) (K:S->V->Prop):List TypeId->List V->Prop
 |[t,u],[.ms b off len cap sz,y]=>match ti P t,v7 s y with
  |some { kd:=.slice e,.. },some (.sl ys)=>match ti P e with
   |some i=>(t=u/\i.size=sz/\0<sz/\b<s.nb/\cL (s.bx b)=false/\off+cap*sz<=(s.bx b).length/\len+ys.length<=cap/\∀ x∈ys,x.length=sz)/\
     K { s with bx:=up s.bx b (eP (s.bx b) (off+len*sz) (ys.flatten.map .c)) } (.ms b off (len+ys.length) cap sz)
   |none=>False
  |_,_=>False
 |[t,u],[.c (.ex (.slice (some ⟨blk,0,none⟩) n cap)),.c (.ex (.slice (some ⟨blk2,off,none⟩) m cap2))]=>match ti P t with
  |some { kd:=.slice e,.. }=>match ti P e with
   |some i=>∃ (b k j:Nat) (E:Option (TypeId×Nat)) (es:List (List C)),(t=u/\blk2=blk/\0<i.size/\(∃ e',E=some (e',i.size))/\b<s.nb/\cL (s.bx b)=false/\(s.bx b)[k]?=some (V.gs (some (.slice (some ⟨blk,0,none⟩) es.length cap)) E es)/\
     (m=0∨off=j*i.size)/\j+m<=es.length/\n+m<=es.length/\m<=cap2)/\
     K { s with bx:=up s.bx b ((s.bx b).set k (.gs (some (.slice (some ⟨blk,0,none⟩) es.length cap)) E (es.take n++(es.drop j).take m++es.drop (n+m)))) } (.c (.ex (.slice (some ⟨blk,0,none⟩) (n+m) cap)))
   |none=>False
  |_=>False
 |_,_=>False
def jv (P:Program) (s:S) (K:S->Prop):List TypeId->List V->Prop
 |[t],[.ms b off len _ sz]=>match ti P t with
  |some { kd:=.slice e,.. }=>match ti P e with
   |some { size:=m,zero:=some z,.. }=>(m=sz/\0<sz/\z.length=sz/\b<s.nb/\cL (s.bx b)=false/\off+len*sz<=(s.bx b).length)/\
     K { s with bx:=up s.bx b (eP (s.bx b) off ((List.replicate len z).flatten.map .c)) }
   |_=>False
  |_=>False
 |[t],[.c (.ex (.slice (some ⟨blk,off,none⟩) m cap2))]=>match ti P t with
  |some { kd:=.slice e,.. }=>match ti P e with
   |some { size:=sz,zero:=some z,.. }=>∃ (b k j cap:Nat) (E:Option (TypeId×Nat)) (es:List (List C)),(0<sz/\z.length=sz/\(∃ e',E=some (e',sz))/\b<s.nb/\cL (s.bx b)=false/\(s.bx b)[k]?=some (V.gs (some (.slice (some ⟨blk,0,none⟩) es.length cap)) E es)/\
     (m=0∨off=j*sz)/\j+m<=es.length)/\
     K { s with bx:=up s.bx b ((s.bx b).set k (.gs (some (.slice (some ⟨blk,0,none⟩) es.length cap)) E (es.take j++List.replicate m z++es.drop (j+m)))) }
   |_=>False
  |_=>False
 |_,_=>False
def MC (P:Program) (s:S) (d:Option Tmp) (src dst:TypeId) (K:S->Prop):V->Prop:=λ_=>False
def EJ:V->(Bool->Prop)->Prop
 | .c (.sl (_::_)),K=>K false
 | .ow _ (_::_),K=>K false
 | .ms _ _ _ _ _,K=>K false
 | .c (.sl []),K=>K true/\K false
 | .ow _ [],K=>K true/\K false
 |_,_=>False
def IE (P:Program) (op:BinOp) (T:TypeId) (x:V) (K:V->Prop):Prop:=match ti P T with
 |some { kd:=.slice _,.. }=>match op with
  | .eql=>EJ x λb=>K (.c (.lit (.bool b)))
  | .neq=>EJ x λb=>K (.c (.lit (.bool (!b))))
  |_=>False
 |_=>False
def O2 (fn:Bool):V->Option Bool
 | .c (.rp _ _)=>if fn then none else some false
 | .bp _ _=>if fn then none else some false
 | .c (.lit (.pointer none))=>if fn then none else some true
 | .c (.fn _ _ _)=>if fn then some false else none
 | .clo _ _ _=>if fn then some false else none
 | .yl _=>if fn then some false else none
 | .c (.lit .nilFunc)=>if fn then some true else none
 |_=>none
def aag (P:Program) (T:TypeId) (fn:Bool):Bool:=match P.underlying T with
 |some (.func _ _ _)=>fn
 |some (.pointer _)=>!fn
 |_=>false
def sX (P:Program) (op:BinOp) (T:TypeId) (fn:Bool) (x:V) (K:V->Prop):Prop:=match O2 fn x with
 |some b=>aag P T fn=true/\match op with
  | .eql=>K (.c (.lit (.bool b)))
  | .neq=>K (.c (.lit (.bool (!b))))
  |_=>False
 |none=>False
def ad7 (P:Program) (op:BinOp) (T:TypeId) (y:Operand) (x:V) (K:V->Prop):Prop:=match Gm y with
 |some fn=>sX P op T fn x K
 |none=>IE P op T x K
def UU (tr:List Nat) (d:Option Tmp):Bool:=match d with | some d=>tr.contains (1400000+d) | none=>false
def V.one:V->Bool
 | .c _ | .ow _ _ | .bp _ _ | .clo _ _ _ | .ms _ _ _ _ _ | .mr _ | .yl _ | .hh _ _ _=>true
 |_=>false
def xo (P:Program) (T:TypeId) (len:Nat) (parts:List (Nat×V)) (s:S) (d:Option Tmp) (K:S->Prop):Prop:=match ti P T with
 |some { kd:=.slice e,.. }=>match ti P e with
  |some { size:=sz,zero:=some z,.. }=>(sz=1/\z.length=1/\parts.map (·.1)=List.range len/\(∀ p∈parts,p.2.fz.one=true)/\0<len/\len<=16777216)/\
   K ({ s with bx:=up s.bx s.nb (parts.map λ(p:Nat×V)=>p.2.fz),nb:=s.nb+1 }.put d (.ms s.nb 0 len len 1))
  |_=>False
 |_=>False
def exK (K:V->Prop):V->Prop
 | .ow (some _) es=>K (.ow none es)∨K (.c (.sx es))
 |_=>False
def isZ (tr:List Nat) (d:Option Tmp):Bool:=match d with | some d=>tr.contains (2500000+d) | none=>false
def Gn (P:Program) (T:TypeId) (s:S) (x:V) (K:V->Prop):Prop:=match ti P T,x with
 |some i,.bp b k=>(b<s.nb/\i.agg=false/\cL (s.bx b)=false)/\match(s.bx b)[k]? with
  |some (.ow none es)=>K (.ow none es)
  |_=>False
 |_,_=>False
def pd (P:Program) (T:TypeId) (parts:List (Nat×V)) (K:V->Prop):Prop:=match ti P T with
 |some { kd:=.struct,zero:=some z,flds:=flds,.. }=>match lx flds parts (z.map nI) with
  |some vs=>K (.mag vs)
  |none=>False
 |_=>False
def UW (tr:List Nat) (d:Option Tmp):Bool:=match d with | some d=>tr.contains (1600000+d) | none=>false
def IF (P:Program) (s:S) (K:V->Prop):List TypeId->List V->Prop
 |[T],[.mr i]=>match ti P T,qU (s.bx i) with
  |some { kd:=.map _ _,.. },some (.mp bs _)=>i<s.nb/\K (.c (.lit (.int .i64 bs.length)))
  |_,_=>False
 |_,_=>False
def UX (tr:List Nat) (t b:Nat):Bool:=!tr.contains (200000+t)||(decide (b<100)&&tr.contains (300000+t*100+b))
def qC (tr:List Nat) (t:Option Tmp) (v:V):Bool:=match t,v with
 |some t,.bp b _=>UX tr t b
 |some t,.c (.ex _)=>!tr.contains (200000+t)
 |some _,.c _=>true
 |some t,_=>!tr.contains (200000+t)
 |none,_=>true
def MD:Operand->Option Tmp
 | .tmp t=>some t
 |_=>none
def Ea (tr:List Nat) (d:Option Tmp):Bool:=tr.contains (match d with | some d=>400000+d | none=>399999)
def ae3 (tr:List Nat) (d:Option Tmp) (s s':S):Prop:=s'.nb=s.nb/\∀ b,s'.bx b=s.bx b∨(b<100/\tr.contains (500000+d.getD 0*100+b)=true)
def IG (dO:Option Tmp) (K:S->Prop) (s:S) (x:V):Prop:=K (s.put dO x)
def lcK (tr:List Nat) (dO:Option Tmp) (s:S) (K:S->Prop) (s':S) (x:V):Prop:=ae3 tr dO s s'/\K (s'.put dO x)
def pe (tr:List Nat) (o:Oper):Bool:=match o.op with
 | .call { callee:=.builtin .append,.. }=>oe tr o.dst
 | .call { callee:=.builtin .len,.. }=>UW tr o.dst
 | .convert _ _ _=>oe tr o.dst
 | .binOp _ _ _ y _=>A3 y
 | .load _ _=>isZ tr o.dst
 | .build _ _=>isZ tr o.dst
 | .makeMap _ none=>true
 | .next (.tmp _) false=>true
 | .call { callee:=.value _,.. }=>MB tr o.dst||QH tr o.dst
 | .buildSlice _ _ _=>UU tr o.dst
 | .insert _ _ _ _=>true
 |_=>false
def ae4 (bx:Nat->List V) (nb:Nat) (i:TI) (blk j:Nat) (v:V) (K:(Nat->List V)->Prop):Prop:=∃ (b k len cap q:Nat) (e':TypeId) (es:List (List C)) (cs:List C),
 (b<nb/\cL (bx b)=false/\(bx b)[k]?=some (.gg (.slice (some ⟨blk,0,none⟩) len cap) (some (e',i.size)) es)/\v.cs=some cs/\cs.length=i.size/\0<i.size/\q<es.length/\q*i.size=j)/\
  K (up bx b ((bx b).set k (.gg (.slice (some ⟨blk,0,none⟩) len cap) (some (e',i.size)) (es.set q cs))))
def QI (tr:List Nat) (d:Option Tmp):Bool:=tr.contains (match d with | some d=>1900000+d | none=>1999999)
def pF (P:Program) (G:Gl) (s:S) (f:V) (args:List V) (K:V->Prop):Prop:=match gz f args with
 |some (g,all)=>∃ (ρ:List Nat) (cargs:List V) (b0:List (List V)) (r:V),FnB P G g cargs b0 r b0/\(∀ N,all.map V.fz=cargs.map (V.ren (rho ρ N)))/\
   (ρ.length=b0.length/\ρ.Nodup)/\(∀ N,qV s.bx s.nb (rho ρ N) 0 b0)/\(∀ σ,r.ren σ=r)/\K r
 |none=>False
def VYQ (P:Program) (G:Gl) (tr:List Nat) (o:Oper) (s:S) (f:Operand) (args:Array Operand) (K:V->Prop):Prop:=if QI tr o.dst then pF P G s (ev G s f) (args.toList.map (ev G s)) K else VYK P G tr o s K
def VStep (P:Program) (G:Gl) (tr:List Nat) (o:Oper) (s:S) (K:S->Prop):Prop:=
 match o.op with
 | .alloc T=>match ti P T with
  |some { zero:=some z,.. }=>K ({ s with bx:=up s.bx s.nb (z.map nI),nb:=s.nb+1 }.put o.dst (.bp s.nb 0))
  |_=>False
 | .box _ x=>match(ev G s x).bcells with
  |some cs=>K ((let s':=s.use (cn tr o);{ s' with bx:=up s'.bx s'.nb cs,nb:=s'.nb+1 }).put o.dst (.bp s.nb 0))
  |none=>False
 | .store T p x=>qC tr (MD p) (ev G s p)=true/\match ti P T,ev G s p,(ev G s x).bcells with
  |some i,.bp b k,some cs=>(b<s.nb/\cs.length=i.size/\k+i.size<=(s.bx b).length/\cL (s.bx b)=false)/\
   K ((let s':=s.use (cn tr o);{ s' with bx:=up s'.bx b (eP (s'.bx b) k cs) }).put o.dst .sk)
  |some i,.c (.ex (.pointer (some ⟨blk,j,none⟩))),_=>(∃ (b k len cap:Nat) (E:Option (TypeId×Nat)) (es:List (List C)) (r:Nat) (e:List C) (c:C),(i.size=1/\b<s.nb/\cL (s.bx b)=false/\(s.bx b)[k]?=some (V.hh (some (.slice (some ⟨blk,0,none⟩) len cap)) E (es++[e]))/\
    (es.flatten.length+r=j/\r<e.length)/\(ev G s x).asC=some c)/\
   K ((let s':=s.use (cn tr o);{ s' with bx:=up s'.bx b ((s'.bx b).set k (.hh (some (.slice (some ⟨blk,0,none⟩) len cap)) E (es++[e.set r c]))) }).put o.dst .sk))∨
   ae4 s.bx s.nb i blk j (ev G s x) (λbx=>K ((let s':=s.use (cn tr o);{ s' with bx:=bx }).put o.dst .sk))
  |_,_,_=>False
 | .buildSlice T len parts=>if oe tr o.dst then cH P T len (parts.toList.map λ(i,x)=>(i,ev G s x)) (US s o.dst len len K) else
  if UU tr o.dst then(xo P T len (parts.toList.map λ(i,x)=>(i,ev G s x)) s o.dst K∨cH P T len (parts.toList.map λ(i,x)=>(i,ev G s x)) (exK λv=>K (s.after tr o v))) else VYK P G tr o s λv=>K (s.after tr o v)
 | .makeSlice T l c=>ry P T (ev G s l) (ev G s c) λn m sz z=>K ({ s with bx:=up s.bx s.nb ((List.replicate m z).flatten.map .c),nb:=s.nb+1 }.put o.dst (.ms s.nb 0 n m sz))
 | .call { callee:=.value f,args:=args,.. }=>if MB tr o.dst then v8 P G s (ev G s f) (args.toList.map (ev G s)) (IG o.dst K) else if QH tr o.dst then lj P G s (ev G s f) (args.toList.map (evX G s)) (IG o.dst K) else if xm tr o.dst then vcallB P G s (ev G s f) (args.toList.map (ev G s)) (if Ea tr o.dst then lcK tr o.dst s K else IG o.dst K) else VYQ P G tr o s f args λv=>K (s.after tr o v)
 | .call { callee:=.builtin .append,args:=args,argTypes:=ts }=>if oe tr o.dst then xn P s o.dst K ts.toList (args.toList.map λx=>vw s (ev G s x)) else
  if Bw tr o.dst then fF P s (λs' v=>K (s'.put o.dst v)) ts.toList (args.toList.map (ev G s)) else VYK P G tr o s λv=>K (s.after tr o v)
 | .call { callee:=.builtin .copy,args:=args,argTypes:=ts }=>zL P s (λs' v=>K (s'.put o.dst v)) ts.toList (args.toList.map (ev G s))
 | .call { callee:=.builtin .clear,args:=args,argTypes:=ts }=>jv P s (λs'=>K (s'.put o.dst .un)) ts.toList (args.toList.map (ev G s))
 | .call { callee:=.builtin .len,args:=args,argTypes:=ts }=>if UW tr o.dst then IF P s (λv=>K (s.after tr o v)) ts.toList (args.toList.map (ev G s)) else VYK P G tr o s λv=>K (s.after tr o v)
 | .convert src dst x=>if oe tr o.dst then MC P s o.dst src dst K (ev G s x) else VYK P G tr o s λv=>K (s.after tr o v)
 | .binOp op T x y _=>if A3 y then ad7 P op T y (ev G s x) (λv=>K (s.after tr o v)) else VYK P G tr o s λv=>K (s.after tr o v)
 | .load T x=>if isZ tr o.dst then Gn P T s (ev G s x) (λv=>K (s.put o.dst v)) else qC tr o.dst (ev G s x)=true/\VYK P G tr o s λv=>K (s.after tr o v)
 | .build T parts=>if isZ tr o.dst then pd P T (parts.toList.map λ(i,x)=>(i,ev G s x)) (λv=>K (s.put o.dst v)) else VYK P G tr o s λv=>K (s.after tr o v)
 | .makeMap T none=>match ti P T with
  |some { kd:=.map _ _,.. }=>K ({ s with bx:=up s.bx s.nb [.mk [] 0],nb:=s.nb+1 }.put o.dst (.mr s.nb))
  |_=>False
 | .mapUpdate T m k x=>iC P T s (ev G s m) (ev G s k) (ev G s x) λs'=>K (s'.put o.dst .sk)
 | .mapEntry T m k=>gq P T s (ev G s m) (ev G s k) λs' v=>K (s'.put o.dst v)
 | .entryStore _ m n x=>fM s (ev G s m) (ev G s n) (ev G s x) λs'=>K (s'.put o.dst .sk)
 | .next (.tmp t) false=>EH s (s.fr t) λit v=>K ((match it with | some x=>{ s with fr:=up s.fr t x } | none=>s).put o.dst v)
 | .insert T m k x=>iC P T s (ev G s m) (ev G s k) (ev G s x) λs'=>K (s'.put o.dst .sk)
 |_=>VYK P G tr o s λv=>K (s.after tr o v)
def nM (ops:Array Oper) (o:Oper) (s:S) (yes no:S->Prop):Prop:=
 match o.guard with
 |none=>yes s
 |some (j,want)=>match(ops[j]?).bind (·.dst) with
  |some d=>match s.fr d with
   | .c (.lit (.bool p))=>(p=want->yes { s with fr:=up s.fr d (.c (.lit (.bool want))) })/\(p=(!want)->no { s with fr:=up s.fr d (.c (.lit (.bool (!want)))) })
   | .sk=>no s
   |_=>False
  |none=>False
def ib (P:Program) (G:Gl) (tr:List Nat) (ops:Array Oper):List Oper->S->(S->Prop)->Prop
 |[],s,K=>K s
 |o::r,s,K=>nM ops o s (λs=>VStep P G tr o s λs'=>ib P G tr ops r s' K) (λs=>ib P G tr ops r (s.put o.dst .sk) K)
inductive VE where
 |normal | exit (id:Nat) | ret
def refine (s:S) (c:Operand) (p:Bool):S:=match c with
 | .tmp t=>{ s with fr:=up s.fr t (.c (.lit (.bool p))) }
 |_=>s
def UY (tr:List Nat):Nat:=match tr.find? (λx=>decide (3000000<=x)) with
 |some x=>x - 3000000
 |none=>0
def aji (f g:Nat->V):Prop:=∀ t,f t=.un∨f t=g t
structure S.Le (k:Nat) (s' s:S):Prop where
 ext:k<=s'.nb
 fr:aji s'.fr s.fr
 nb:s'.nb<=s.nb
 bx:∀ i,i<s'.nb->s'.bx i=s.bx i
 lt:∀ t,(s'.fr t).lt s'.nb
 blt:∀ i,i<s'.nb->∀ x∈s'.bx i,x.lt s'.nb
def FzV (s:S) (m:Nat) (x y:V):Prop:=∃ i off len cap sz c,y=.ms i off len cap sz/\m<=i/\nF s i off len sz=some c/\x=.c c
structure S.Fz (k:Nat) (s' s:S):Prop where
 ext:k<=s'.nb
 fr:∀ t,s'.fr t=.un∨s'.fr t=s.fr t∨FzV s s'.nb (s'.fr t) (s.fr t)
 nb:s'.nb<=s.nb
 bl:∀ i,i<s'.nb->(s'.bx i).length=(s.bx i).length
 bx:∀ i,i<s'.nb->∀ j,(s'.bx i).getD j .un=(s.bx i).getD j .un∨FzV s s'.nb ((s'.bx i).getD j .un) ((s.bx i).getD j .un)
 lt:∀ t,(s'.fr t).lt s'.nb
 blt:∀ i,i<s'.nb->∀ x∈s'.bx i,x.lt s'.nb
def UZ (tr:List Nat) (id:Nat):Bool:=tr.contains (2600000+id)
def ae5 (tr:List Nat) (id:Nat):Bool:=tr.contains (2800000+id)
def aah (o:Oper):Bool:=match o.op with
 | .alloc _=>true
 |_=>false
def ly (ops:Array Oper):Nat:=ops.toList.findIdx aah
def ad8 {α:Type}:List α->List α
 |x::y::r=>y::x::r
 |l=>l
def aai (P:Program) (G:Gl) (tr:List Nat) (ops:Array Oper) (s:S) (K:S->Prop):Prop:=
 ib P G tr ops (ops.toList.take (ly ops)) s λs'=>ib P G tr ops (ops.toList.drop (ly ops)) s' K/\ib P G tr ops (ad8 (ops.toList.drop (ly ops))) s' K
def vtw (P:Program) (G:Gl) (tr:List Nat) (id:Nat) (ops:Array Oper) (s:S) (K:S->Prop):Prop:=if ae5 tr id then aai P G tr ops s K else ib P G tr ops ops.toList s K
def A4 (k:Nat) (body:(VE->S->Prop)->S->Prop) (Q:VE->S->Prop):Nat->S->Prop
 |0,_=>False
 |n+1,s=>∃ s',(s'=s∨S.Le k s' s)/\body (λe s'=>match e with | .normal=>A4 k body Q n s' | e=>Q e s') s'
def Gp (tr:List Nat):Bool:=tr.contains 1200000
def rgN (tr:List Nat):Nat:=match tr.find? (λx=>decide (1300000<=x)&&decide (x<1400000)) with
 |some x=>x - 1300000
 |none=>0
def V.isKR:V->Bool
 | .un | .c _ | .agg _ | .bp _ _ | .ms _ _ _ _ _ | .mr _ | .yl _=>true
 |_=>false
def lp0 (n:Nat) (ps:Array Tmp) (assign body:Code):Loop:={ state:=.ready,pending:=none,fn:=0,tmps:=#[],params:=ps,assign:=assign,body:=body,defers:=n }
def IH (Q:VE->S->Prop) (n:Nat) (s:S):Prop:=match s.bx n with
 | .lp L fl::gs=>L.state≠.busy/\n<s.nb/\match L.pending with
  |none=>Q .normal { s with bx:=up s.bx n (.lp { L with state:=.exhausted } fl::gs) }
  |some .ret=>Q .ret { s with bx:=up s.bx n (.lp { L with state:=.exhausted } fl::gs) }
  |some (.exit i)=>Q (.exit i) { s with bx:=up s.bx n (.lp { L with state:=.exhausted } fl::gs) }
  |_=>False
 |_=>False
def vrg (P:Program) (G:Gl) (tr:List Nat) (f:Operand) (ps:Array Tmp) (assign body:Code) (Q:VE->S->Prop) (s:S):Prop:=
 Gp tr=true/\∃ fl:List (Nat×V),(∀ p∈fl,p.2=(s.fr p.1).fz/\p.2.isKR=true)/\(∃ g all,gz (ev G s f) [.yl s.nb]=some (g,all))/\
  (if tr.contains 1200001 then lj P G { s with bx:=up s.bx s.nb [.lp (lp0 (rgN tr) ps assign body) fl],nb:=s.nb+1 } (ev G s f) [.yl s.nb] (λs' _=>IH Q s.nb s')
   else vcallB P G { s with bx:=up s.bx s.nb [.lp (lp0 (rgN tr) ps assign body) fl],nb:=s.nb+1 } (ev G s f) [.yl s.nb] (λs' _=>IH Q s.nb s'))
def S.split (s:S) (b k q:Nat) (v:Value) (E:Option (TypeId×Nat)) (es:List (List C)):S:=⟨up s.fr q (.gh v E es),up s.bx b ((s.bx b).set k (.c (.ex v))),s.nb⟩
def C.wk:C->C
 | .sx es=>.sl es
 |c=>c
def S.cool (s:S) (b k:Nat) (E:Option (TypeId×Nat)) (es:List (List C)):S:=⟨s.fr,up s.bx b ((s.bx b).set k (.ow E (es.map (·.map C.wk)))),s.nb⟩
def S.name (s:S) (b k:Nat) (v:Value) (E:Option (TypeId×Nat)) (es:List (List C)):S:=⟨s.fr,up s.bx b ((s.bx b).set k (.hh (some v) E es)),s.nb⟩
def GsV (E:Option (TypeId×Nat)) (es:List (List C)) (v:Value):Prop:=(∃ blk cap,v=.slice (some ⟨blk,0,none⟩) es.length cap/\es.length<=cap)∨(es=[]/\E=none/\∃ a,v=.slice a 0 0)
def S.cell (s:S) (b k:Nat) (x:V):S:=⟨s.fr,up s.bx b ((s.bx b).set k x),s.nb⟩
def U0 (l:List V):Bool:=match l with
 | .lp _ _::_=>true
 |_=>false
inductive GsK (ops:Array Oper) (K:S->Prop):S->Prop
 |done {s:S}:K s->GsK ops K s
 |warm {s:S} (b k:Nat):b<s.nb->(s.bx b)[k]?=some (.ow none [])->GsK ops K (s.cell b k (.gs none none []))->GsK ops K s
 |warmT {s:S} (t:Nat):s.fr t=.ow none []->GsK ops K ⟨up s.fr t (.gs none none []),s.bx,s.nb⟩->GsK ops K s
 |warmX {s:S} (b k:Nat):b<s.nb->(s.bx b)[k]?=some (.c (.ex (.slice none 0 0)))->GsK ops K (s.cell b k (.gs none none []))->GsK ops K s
 |name {s:S} (b k:Nat) {E:Option (TypeId×Nat)} {es:List (List C)}:b<s.nb->cL (s.bx b)=false->(s.bx b)[k]?=some (.gs none E es)->(∀ v,GsV E es v->GsK ops K (s.cell b k (.gs (some v) E es)))->GsK ops K s
 |unname {s:S} (b k:Nat) {g:Option Value} {E:Option (TypeId×Nat)} {es:List (List C)}:b<s.nb->(s.bx b)[k]?=some (.gs g E es)->GsK ops K (s.cell b k (.gs none E es))->GsK ops K s
 |split {s:S} (b k q:Nat) {g:Option Value} {E:Option (TypeId×Nat)} {es:List (List C)}:b<s.nb->cL (s.bx b)=false->(s.bx b)[k]?=some (.gs g E es)->(ops.toList.any λo=>o.dst==some q)=true->
   (∀ v,(∀ u,g=some u->u=v)->GsV E es v->GsK ops K ⟨up s.fr q (.gg v E es),up s.bx b ((s.bx b).set k (.c (.ex v))),s.nb⟩)->GsK ops K s
 |box {s:S} (b k:Nat) {g:Option Value} {e:TypeId} {sz:Nat} {es:List (List C)}:b<s.nb->cL (s.bx b)=false->(s.bx b)[k]?=some (.gs g (some (e,sz)) es)->
   GsK ops K ⟨s.fr,up (up s.bx b ((s.bx b).set k (.ms s.nb 0 es.length es.length sz))) s.nb (es.flatten.map .c),s.nb+1⟩->GsK ops K s
 |boxT {s:S} (t:Nat) {g:Option Value} {e:TypeId} {sz:Nat} {es:List (List C)}:s.fr t=.gs g (some (e,sz)) es->
   GsK ops K ⟨up s.fr t (.ms s.nb 0 es.length es.length sz),up s.bx s.nb (es.flatten.map .c),s.nb+1⟩->GsK ops K s
 |cool {s:S} (b k:Nat) {g:Option Value} {E:Option (TypeId×Nat)} {es:List (List C)}:b<s.nb->(s.bx b)[k]?=some (.gs g E es)->GsK ops K (s.cell b k (.ow E es))->GsK ops K s
 |splitB {s:S} (t b k:Nat) {g:Option Value} {E:Option (TypeId×Nat)} {es:List (List C)} {x:V}:s.fr t=.gs g E es->b<s.nb->cL (s.bx b)=false->(s.bx b)[k]?=some x->
   (∀ v,(∀ u,g=some u->u=v)->GsV E es v->GsK ops K ⟨up s.fr t (.c (.ex v)),up s.bx b ((s.bx b).set k (.gg v E es)),s.nb⟩)->GsK ops K s
 |join {s:S} (b k b' k':Nat) {v:Value} {E:Option (TypeId×Nat)} {es:List (List C)}:b<s.nb->cL (s.bx b)=false->(s.bx b)[k]?=some (.c (.ex v))->b'<s.nb->cL (s.bx b')=false->b≠b'->(s.bx b')[k']?=some (.gg v E es)->
   GsK ops K ⟨s.fr,up (up s.bx b' ((s.bx b').set k' .un)) b ((s.bx b).set k (.gs (some v) E es)),s.nb⟩->GsK ops K s
 |coolT {s:S} (t:Nat) {g:Option Value} {E:Option (TypeId×Nat)} {es:List (List C)}:s.fr t=.gs g E es->GsK ops K ⟨up s.fr t (.ow E es),s.bx,s.nb⟩->GsK ops K s
 |splitC {s:S} (b k b' k':Nat) {E:Option (TypeId×Nat)} {es:List (List C)} {x:V}:b<s.nb->cL (s.bx b)=false->(s.bx b)[k]?=some (.ow E es)->b'<s.nb->cL (s.bx b')=false->b≠b'->(s.bx b')[k']?=some x->
   (∀ v,GsK ops K ⟨s.fr,up (up s.bx b ((s.bx b).set k (.c (.ex v)))) b' ((s.bx b').set k' (.gh v E es)),s.nb⟩)->GsK ops K s
 |joinO {s:S} (b k b' k':Nat) {v:Value} {E:Option (TypeId×Nat)} {es:List (List C)}:b<s.nb->cL (s.bx b)=false->(s.bx b)[k]?=some (.c (.ex v))->b'<s.nb->cL (s.bx b')=false->b≠b'->(s.bx b')[k']?=some (.gh v E es)->
   GsK ops K ⟨s.fr,up (up s.bx b' ((s.bx b').set k' .un)) b ((s.bx b).set k (.ow E es)),s.nb⟩->GsK ops K s
 |ghT {s:S} (b k q:Nat) {v:Value} {E:Option (TypeId×Nat)} {es:List (List C)}:b<s.nb->cL (s.bx b)=false->(s.bx b)[k]?=some (.gh v E es)->(ops.toList.any λo=>o.dst==some q)=true->
   GsK ops K ⟨up s.fr q (.gh v E es),up s.bx b ((s.bx b).set k .un),s.nb⟩->GsK ops K s
 |joinT {s:S} (b k t blk len m cap:Nat) {e:TypeId} {sz:Nat} {es:List (List C)}:b<s.nb->cL (s.bx b)=false->(s.bx b)[k]?=some (.c (.ex (.slice (some ⟨blk,0,none⟩) m cap)))->s.fr t=.gg (.slice (some ⟨blk,0,none⟩) len cap) (some (e,sz)) es->m<=es.length->
   GsK ops K ⟨up s.fr t .un,up s.bx b ((s.bx b).set k (.gs (some (.slice (some ⟨blk,0,none⟩) m cap)) (some (e,sz)) (es.take m))),s.nb⟩->GsK ops K s
 |more {s:S} (b:Nat):b<s.nb->U0 (s.bx b)=true->GsK ops K ⟨s.fr,up s.bx b (s.bx b++[.un]),s.nb⟩->GsK ops K s
 |ggT {s:S} (b k q:Nat) {v:Value} {E:Option (TypeId×Nat)} {es:List (List C)}:b<s.nb->(s.bx b)[k]?=some (.gg v E es)->(ops.toList.any λo=>o.dst==some q)=true->
   GsK ops K ⟨up s.fr q (.gg v E es),up s.bx b ((s.bx b).set k .un),s.nb⟩->GsK ops K s
 |ggB {s:S} (t b k:Nat) {g:Option Value} {E:Option (TypeId×Nat)} {es:List (List C)} {x:V}:s.fr t=.gs g E es->b<s.nb->(s.bx b)[k]?=some x->x.isMk=false->
   (∀ v,(∀ u,g=some u->u=v)->GsV E es v->GsK ops K ⟨up s.fr t (.c (.ex v)),up s.bx b ((s.bx b).set k (.gg v E es)),s.nb⟩)->GsK ops K s
 |gg0 {s:S} (q:Nat):(ops.toList.any λo=>o.dst==some q)=true->GsK ops K ⟨up s.fr q (.gg (.slice none 0 0) none []),s.bx,s.nb⟩->GsK ops K s
 |joinS {s:S} (b k t:Nat) {v:Value} {E:Option (TypeId×Nat)} {es:List (List C)}:b<s.nb->cL (s.bx b)=false->(s.bx b)[k]?=some (.c (.ex v))->s.fr t=.gg v E es->
   GsK ops K ⟨up s.fr t .un,up s.bx b ((s.bx b).set k (.gs (some v) E es)),s.nb⟩->GsK ops K s
 |frz {s:S} (b k t blk len cap:Nat) {e:TypeId} {sz:Nat} {cs:List C}:b<s.nb->(s.bx b)[k]?=some (.gg (.slice (some ⟨blk,0,none⟩) len cap) (some (e,sz)) [cs])->s.fr t=.c (.ex (.pointer (some ⟨blk,0,none⟩)))->
   GsK ops K ⟨up s.fr t (.c (.rp cs 0)),up s.bx b ((s.bx b).set k .un),s.nb⟩->GsK ops K s
 |forget {s:S} (b k:Nat) {x:V}:b<s.nb->(s.bx b)[k]?=some x->x.isMk=false->GsK ops K ⟨s.fr,up s.bx b ((s.bx b).set k .un),s.nb⟩->GsK ops K s
def ME (tr:List Nat) (id:Nat):Bool:=tr.contains (2300000+id)
def spl (tr:List Nat) (id:Nat) (ops:Array Oper) (s:S) (K:S->Prop):Prop:=
 if ME tr id then(∃ b k q E es,(b<s.nb/\(s.bx b)[k]?=some (.ow E es)/\(ops.toList.any λo=>o.dst==some q)=true)/\∀ v,K (s.split b k q v E es))∨
  (∃ b k g E es,(b<s.nb/\(s.bx b)[k]?=some (.hh g E es))/\K (s.cool b k E es))∨
  (∃ b k g E es,(b<s.nb/\(s.bx b)[k]?=some (.hh g E es)/\cL (s.bx b)=false)/\∀ blk cap,K (s.name b k (.slice (some ⟨blk,0,none⟩) es.length cap) E es))∨GsK ops K s else K s
def QJ (tr:List Nat) (id:Nat):Bool:=tr.contains (2850000+id)
def ajj (o:Oper):Bool:=match o.op with
 | .call { callee:=.builtin .append,.. }=>true
 |_=>false
def amx (tr:List Nat) (o:Oper):Bool:=match o.op with
 | .call { callee:=.value _,.. }=>QH tr o.dst
 |_=>false
def aaj (tr:List Nat) (ops:Array Oper):Nat:=ops.toList.findIdx λo=>ajj o||amx tr o
def og (m n:Nat):Array Bool:=(List.replicate m true++List.replicate (n - m) false).toArray
def O3 (P:Program) (G:Gl) (tr:List Nat) (ops:Array Oper) (K:S->Prop):Nat->Array Bool->S->Prop
 |0,listed,s=>Region.ready .any ops listed=[]/\GsK ops K s
 |f+1,listed,s=>Region.ready .any ops listed≠[]/\GsK ops (λs=>∀ i∈Region.ready .any ops listed,∃ o,ops[i]?=some o/\
   nM ops o s (λs=>VStep P G tr o s (O3 P G tr ops K f (listed.setIfInBounds i true))) (λs=>O3 P G tr ops K f (listed.setIfInBounds i true) (s.put o.dst .sk))) s
def apN (tr:List Nat) (id:Nat) (ops:Array Oper):Nat:=if tr.contains (2860000+id) then 0 else aaj tr ops
def aak (P:Program) (G:Gl) (tr:List Nat) (ops:Array Oper) (K:S->Prop):List Oper->S->Prop
 |[],s=>GsK ops K s
 |o::r,s=>GsK ops (λs=>nM ops o s (λs=>VStep P G tr o s (aak P G tr ops K r)) (λs=>aak P G tr ops K r (s.put o.dst .sk))) s
def Eb (tr:List Nat) (id:Nat):Bool:=tr.contains (2870000+id)
def xp (P:Program) (s:S) (d:Option Tmp) (T:TypeId) (x:V) (K:S->Prop):Prop:=match ti P T,x.cs with
 |some i,some cs=>∃ (b k:Nat) (y:V),(cs.length=i.size/\0<i.size/\b<s.nb/\(s.bx b)[k]?=some y/\y.isMk=false)/\
   ∀ blk,K ({ s with bx:=up s.bx b ((s.bx b).set k (.gg (.slice (some ⟨blk,0,none⟩) 1 1) (some (T,i.size)) [cs])) }.put d (.c (.ex (.pointer (some ⟨blk,0,none⟩)))))
 |_,_=>False
def wa (P:Program) (s:S) (T:TypeId) (x:V) (K:V->Prop):Prop:=match ti P T,x with
 |some i,.c (.ex (.pointer (some ⟨blk,o,none⟩)))=>∃ (b k len cap:Nat) (e:TypeId) (sz:Nat) (es:List (List C)),(b<s.nb/\(s.bx b)[k]?=some (V.gg (.slice (some ⟨blk,0,none⟩) len cap) (some (e,sz)) es))/\dI i.agg i.size o es.flatten K
 |_,_=>False
def By (P:Program) (s:S) (T:TypeId) (p x:V) (K:(Nat->List V)->Prop):Prop:=match ti P T,p,x.cs with
 |some i,.c (.ex (.pointer (some ⟨blk,j,none⟩))),some cs=>∃ (b k len cap:Nat) (e:TypeId) (sz:Nat) (row:List C),(b<s.nb/\(s.bx b)[k]?=some (V.gg (.slice (some ⟨blk,0,none⟩) len cap) (some (e,sz)) [row])/\cs.length=i.size/\j+i.size<=row.length)/\
   K (up s.bx b ((s.bx b).set k (.gg (.slice (some ⟨blk,0,none⟩) len cap) (some (e,sz)) [row.take j++cs++row.drop (j+cs.length)])))
 |_,_,_=>False
def nilC:V:=.c (.ex (.slice none 0 0))
def MF (P:Program) (T:TypeId) (s:S) (x k:V) (K:S->V->Prop):Prop:=∃ kt et,(P.underlying T=some (.map kt et)/\∀ w,(zeroValue et).run P w=.ok (.slice none 0 0) w)/\gW P T s x k λi bs cl r res _=>match res with
 |some j=>K s (.tup [(r.getD (2*j+1) .un).dr,.c (.lit (.int .i64 (bs.getD j 0)))])
 |none=>K { s with bx:=up s.bx i (.mk (bs++[cl]) (cl+1)::(r++[k.fz,nilC])) } (.tup [nilC.dr,.c (.lit (.int .i64 cl))])
def nE (tr:List Nat) (o:Oper):Bool:=match o.op with
 | .box _ _=>(match o.dst with | some d=>tr.contains (2350000+d) | none=>false)
 | .load _ _=>(match o.dst with | some d=>tr.contains (2350000+d) | none=>false)
 | .mapEntry _ _ _=>(match o.dst with | some d=>tr.contains (2350000+d) | none=>false)
 | .store _ (.tmp t) _=>tr.contains (2360000+t)
 |_=>false
def vt (P:Program) (G:Gl) (o:Oper) (s:S) (K:S->Prop):Prop:=match o.op with
 | .box T x=>xp P s o.dst T (ev G s x) K
 | .load T x=>wa P s T (ev G s x) λv=>K (s.put o.dst v)
 | .store T p x=>By P s T (ev G s p) (ev G s x) λbx=>K ({ s with bx:=bx }.put o.dst .sk)
 | .mapEntry T m k=>MF P T s (ev G s m) (ev G s k) λs' v=>K (s'.put o.dst v)
 |_=>False
def Gq (tr:List Nat) (id:Nat):Bool:=tr.contains (2890000+id)
def nN (tr:List Nat) (d:Option Tmp):Bool:=tr.contains (match d with | some d=>2380000+d | none=>2389999)
def nJ (P:Program) (G:Gl) (tr:List Nat) (ops:Array Oper) (K:S->Prop):List Oper->S->Prop
 |[],s=>GsK ops K s
 |o::r,s=>(if nN tr o.dst then GsK ops else id) (λs=>nM ops o s (λs=>if nE tr o then vt P G o s (nJ P G tr ops K r) else VStep P G tr o s (nJ P G tr ops K r)) (λs=>nJ P G tr ops K r (s.put o.dst .sk))) s
def ae6 (tr:List Nat) (id:Nat):Bool:=tr.contains (2880000+id)
def II (ops:Array Oper):Nat->Nat->Array Bool->Bool
 |0,_,L=>(Region.ready .any ops L).isEmpty
 |f+1,i,L=>Region.ready .any ops L==[i]&&II ops f (i+1) (L.setIfInBounds i true)
def vpa (P:Program) (G:Gl) (tr:List Nat) (id:Nat) (ops:Array Oper) (K:S->Prop) (s:S):Prop:=
 if Eb tr id then aak P G tr ops K ops.toList s else if Gq tr id then nJ P G tr ops K ops.toList s else if ae6 tr id then ib P G tr ops ops.toList s K else
 GsK ops (λs=>ib P G tr ops (ops.toList.take (apN tr id ops)) s (O3 P G tr ops K (ops.size - apN tr id ops) (og (apN tr id ops) ops.size))) s
def hZ (P:Program) (G:Gl) (tr:List Nat) (k:Nat):Code->(VE->S->Prop)->S->Prop
 | .skip,Q,s=>Q .normal s
 | .region id ops _,Q,s=>if QJ tr id then vpa P G tr id ops (Q .normal) s else if UZ tr id then ∃ s',S.Fz k s' s/\vtw P G tr id ops s' (Q .normal) else spl tr id ops s λs=>ib P G tr ops ops.toList s (Q .normal)
 | .seq a b,Q,s=>hZ P G tr k a (λe s'=>match e with | .normal=>hZ P G tr k b Q s' | e=>Q e s') s
 | .cond c x y,Q,s=>match ev G s c with
  | .c (.lit (.bool p))=>(p=true->hZ P G tr k x Q (refine s c true))/\(p=false->hZ P G tr k y Q (refine s c false))
  |_=>False
 | .block id body,Q,s=>hZ P G tr k body (λe s'=>match e with | .exit i=>if i=id then Q .normal s' else Q (.exit i) s' | e=>Q e s') s
 | .loop body,Q,s=>∃ n,A4 k (hZ P G tr k body) Q n s
 | .exit id,Q,s=>Q (.exit id) s
 | .ret,Q,s=>Q .ret s
 | .label _,Q,s=>Q .normal s
 | .scope body,Q,s=>hZ P G tr k body Q s
 | .rangeFunc f ps assign body,Q,s=>vrg P G tr f ps assign body Q s
 |_,_,_=>False
def vwp (P:Program) (G:Gl) (tr:List Nat):Code->(VE->S->Prop)->S->Prop:=hZ P G tr (UY tr)
theorem _root_.List.mapM_eq_some_length {α β:Type} {f:α->Option β}:∀ {l:List α} {r:List β},l.mapM f=some r->r.length=l.length
 |[],r,h=>by simp at h;subst h;rfl
 |x::l,r,h=>by rw[gb] at h;simp only[bind,iS,pure,ao] at h;obtain⟨y,_,ys,h2,rfl⟩:=h;simp[List.mapM_eq_some_length h2]
theorem _root_.List.mapM_eq_some_get {α β:Type} {f:α->Option β}:∀ {l:List α} {r:List β},l.mapM f=some r->∀ (j:Nat) (y:β),r[j]?=some y->∃ x,l[j]?=some x/\f x=some y
 |[],r,h,j,y,hy=>by simp at h;subst h;simp at hy
 |x::l,r,h,j,y,hy=>by
  rw[gb] at h;simp only[bind,iS,pure,ao] at h;obtain⟨y',h1,ys,h2,rfl⟩:=h;cases j with
  |zero=>simp at hy;subst hy;exact⟨x,rfl,h1⟩
  |succ j=>exact List.mapM_eq_some_get h2 j y (by simpa using hy)
section
variable {P:Program} {G:Gl} {tr:List Nat} {n:Nat} {I0:Ft} {M:Mx} {w0:World} {I:Ft} {β:Nat->Option Nat} {ob:Loc->Option Nat} {s:S} {a:Act} {w:World} {o:Oper}
 {next:Act->World->Prop} {Q:Exit->Act->World->Prop} {base:Nat->Prop} {v:Value} {x:V}
def SE (G:Gl) (n:Nat) (I0:Ft) (M:Mx) (w0:World) (s:S) (a:Act) (w:World):Prop:=∃ I β ob,St G n I0 M w0 I β ob s a w
def U1 (ob:Loc->Option Nat):Operand->Option Nat
 | .tmp t=>ob (.t t)
 |_=>none
theorem zM {l:List V} {cs:List C} (h:l.mapM V.asC=some cs):cL l=false:=by
 cases l with
 |nil=>rfl
 |cons x l=>cases x<;>first | rfl | simp[gb,V.asC] at h
theorem LR.lit {o:Option Nat} {u:Value} (h:LR base I β w o v (.c (.lit u))):v=u:=by
 simp only[LR] at h;cases h with | c _ _ h=>cases h;rfl
theorem LR.ofC {o:Option Nat} {c:C} (h:CR I w v c):LR base I β w o v (.c c):=by simp only[LR];exact .c _ _ h
theorem LR.toC {o:Option Nat} {c:C} (h:LR base I β w o v (.c c)):CR I w v c:=by
 simp only[LR] at h;cases h with | c _ _ h=>exact h
theorem LR.ofLit {o:Option Nat} (h:flat v=true):LR base I β w o v (.c (.lit v)):=.ofC (.lit v h)
theorem LR.hot {o:Option Nat} {g:Option Value} {E:Option (TypeId×Nat)} {es:List (List C)} (h:LR base I β w o v (.hh g E es)):(∀ u,g=some u->v=u)/\OwnH base I w E es o v:=h
theorem OwnH.exact {o:Option Nat} {E:Option (TypeId×Nat)} {es:List (List C)} (h:OwnH base I w E es o v):CR I w v (.ex v):=by obtain⟨e,blk,cap,cur,sz,_,_,hv,_⟩:=h;subst hv;exact .ex _ rfl rfl
theorem LR.gsO {o:Option Nat} {g:Option Value} {E:Option (TypeId×Nat)} {es:List (List C)} (h:LR base I β w o v (.gs g E es)):(∀ u,g=some u->v=u)/\OwnG base I w E es o v:=h
theorem OwnG.exact {o:Option Nat} {E:Option (TypeId×Nat)} {es:List (List C)} (h:OwnG base I w E es o v):CR I w v (.ex v):=by
 rcases h with⟨_,_,_,a,hv⟩ | ⟨e,blk,cap,cur,sz,_,_,hv,_⟩
 .subst hv;exact .ex _ rfl rfl
 .subst hv;exact .ex _ rfl rfl
theorem LR.fz {o:Option Nat} (h:LR base I β w o v x) (o':Option Nat):LR base I β w o' v x.fz:=by
 cases x
 case hh g E es=>
  obtain⟨h1,h2⟩:=h.hot;cases g with
  |none=>simp only[V.fz,LR];exact .un _
  |some u=>obtain rfl:=h1 u rfl;exact .ofC h2.exact
 case gs g E es=>
  obtain⟨h1,h2⟩:=h.gsO;cases g with
  |none=>simp only[V.fz,LR];exact .un _
  |some u=>obtain rfl:=h1 u rfl;exact .ofC h2.exact
 all_goals simp only[V.fz,LR] at h ⊢<;>first | exact h | exact .un _ | exact .c _ _ h.1
theorem LR.other {o o':Option Nat} (hx:x.isOw=false) (h:LR base I β w o v x):LR base I β w o' v x:=by
 cases x<;>simp only[LR] at h ⊢<;>first | exact h | cases hx
theorem LR.agg {o:Option Nat} {cs:List C} (h:LR base I β w o v (.agg cs)):∃ vs:Array Value,v=.agg vs/\vs.size=cs.length/\∀ j c,cs[j]?=some c->CR I w (vs.getD j undef) c:=by
 simp only[LR] at h;cases h with | agg vs _ h1 h2=>exact⟨vs,rfl,h1,h2⟩
theorem CR.constC {u:Value} (h:Gk u=true):CR I w u (constC u):=by
 unfold Vl.constC;split
 .exact .nil none 0 (λ_=>rfl)
 .unfold Gk at h
  split at h
  .exact absurd rfl ‹_›
  .exact .lit _ h
theorem LR.const (u:Value):LR base I β w none u (oN u):=by
 unfold oN;split
 .exact⟨.nil none 0 (λ_=>rfl),.inl ⟨rfl,rfl,none,rfl⟩⟩
 .rename_i vs
  split
  .rename_i eF
   simp only[LR];refine .agg _ _ (by simp) λj c hc=>?_;rw[bj,aV] at hc;obtain⟨u,hu,rfl⟩:=hc;have e:vs.getD j undef=u:=(by rw[aQ] at hu;simp[hu]);rw[e];exact CR.constC (aY.1 eF u (aS hu))
  .simp only[LR];exact .un _
 .split
  .exact .ofLit ‹_›
  .simp only[LR];exact .un _
theorem bP (hst:St G n I0 M w0 I β ob s a w) (x:Operand):LR (Wr M w0) I β w (U1 ob x) (a.eval x) (ev G s x):=by
 cases x with
 |tmp t=>exact hst.fr t
 |const u=>exact .const u
 |global g=>
  simp only[ev,Act.eval];split
  .exact .ofC (hst.glob g _ ‹_›).cr
  .simp only[LR];exact .un _
 |func f=>exact .ofC (.fn _ _ _ _ _ rfl rfl (by simp) (by simp))
theorem xq (hst:St G n I0 M w0 I β ob s a w) (x:Operand):LR (Wr M w0) I β w none (a.eval x) (ev G s x).fz:=(bP hst x).fz _
theorem eE {v':Value} {w':World} (h:(execOp a.eval o).run P w=.ok (.value v') w') (hn:next (a.put o.dst v') w'):o.wp P a w next Q:=by unfold Oper.wp;rw[h];exact hn
theorem St.use (h:St G n I0 M w0 I β ob s a w) (t:Option Tmp):∃ ob',St G n I0 M w0 I β ob' (s.use t) a w/\
 (∀ L b,ob' L=some b->ob L=some b/\∀ u,t=some u->L=.t u->(s.fr u).isOw=false):=by
 cases t with
 |none=>exact⟨ob,h,λL b hb=>⟨hb,λu hu=>by cases hu⟩⟩
 |some t=>
  simp only[S.use];split
  .refine⟨_,h.clr t,λL b hb=>?_⟩
   simp only[upL] at hb;split at hb
   .cases hb
   .rename_i h1
    exact⟨hb,λu hu hL=>by cases hu;exact absurd hL h1⟩
  .rename_i h1
   exact⟨ob,h,λL b hb=>⟨hb,λu hu _=>by cases hu;simpa using h1⟩⟩
theorem SE.fin (h:St G n I0 M w0 I β ob s a w) (hd:∀ d,o.dst=some d->d<n) {o':Option Nat} (hv:LR (Wr M w0) I β w o' v x)
 (ho:∀ b,o'=some b->(b<w.heap.size/\Wr M w0 b)/\(∀ i,β i≠some b)/\∀ L,ob L=some b->∃ t,L=.t t/\cn tr o=some t/\(s.fr t).isOw=true) :
 SE G n I0 M w0 (s.after tr o x) (a.put o.dst v) w:=by
 obtain⟨ob',h1,h2⟩:=h.use (cn tr o);unfold S.after;cases lP:o.dst with
 |none=>exact⟨_,_,_,h1⟩
 |some d=>
  refine⟨_,_,_,h1.put d (hd d lP) hv λb hb=>?_⟩;obtain⟨h3,h4,h5⟩:=ho b hb;refine⟨h3,λL hL=>?_,h4⟩;simp only[upL] at hL;split at hL
  .cases hL
  .obtain⟨h6,h7⟩:=h2 L b hL
   obtain⟨t,h8,h9,h10⟩:=h5 L h6;rw[h7 t h9 h8] at h10;cases h10
theorem SE.fin0 (h:St G n I0 M w0 I β ob s a w) (hd:∀ d,o.dst=some d->d<n) (hv:LR (Wr M w0) I β w none v x):SE G n I0 M w0 (s.after tr o x) (a.put o.dst v) w:=
 .fin h hd hv λ_ hb=>by cases hb
theorem O4 (hst:St G n I0 M w0 I β ob s a w) (hd:∀ d,o.dst=some d->d<n) {x:Operand} (hx:cn tr o=(match x with | .tmp t=>some t | _=>none)) :
 SE G n I0 M w0 (s.after tr o (ev G s x)) (a.put o.dst (a.eval x)) w:=by
 by_cases hox:(ev G s x).isOw=true
 .refine .fin hst hd (bP hst x) λb hb=>?_
  cases x with
  |tmp t=>refine⟨hst.obnd _ b hb,λi=>hst.obx _ b i hb,λL hL=>⟨t,hst.oinj _ _ b hL hb,hx,hox⟩⟩
  |_=>cases hb
 .exact .fin0 hst hd ((bP hst x).other (by simpa using hox))
theorem aal (hst:St G n I0 M w0 I β ob s a w) (hd:∀ d,o.dst=some d->d<n) (x:Operand) :
 SE G n I0 M w0 (s.after tr o (ev G s x).fz) (a.put o.dst (a.eval x)) w:=.fin0 hst hd (xq hst x)
theorem bH {T:TypeId} {i:TI} (h:ti P T=some i):∃ j d,P.info? T=some j/\P.underlying T=some d/\i.kd=vq d/\i.size=j.size/\i.bytes=j.bytes/\i.agg=dh P T/\
 (i.zero=match j.zero with | some v=>v.cells.toList.mapM zc | none=>none)/\
 (i.flds=yK P d)/\
 (i.eqs=if P.eqGuardType P.depth T then none else eqk P 8 T)/\MA P d=true:=by
 unfold ti at h;split at h
 .rename_i j d h1 h2
  split at h
  .cases h
  .rename_i hf
   simp only[ao] at h;subst h;exact⟨j,d,h1,h2,rfl,rfl,rfl,rfl,rfl,rfl,rfl,by simpa using hf⟩
 .cases h
theorem dL {d:TypeDesc} {e:TypeId} (h:K.slice e=vq d):d=.slice e:=by cases d<;>simp_all[vq]
theorem QK {d:TypeDesc} (h:K.bool=vq d):d=.bool:=by cases d<;>simp_all[vq]
theorem pG {d:TypeDesc} (h:K.str=vq d):d=.string:=by cases d<;>simp_all[vq]
theorem Bz {d:TypeDesc} {k:IntKind} (h:K.int k=vq d):d=.int k:=by cases d<;>simp_all[vq]
theorem pH {d:TypeDesc} {n:Nat} {e:TypeId} (h:K.arr n e=vq d):d=.array n e:=by cases d<;>simp_all[vq]
theorem zN {d:TypeDesc} (h:K.struct=vq d):∃ fs,d=.struct fs:=by cases d<;>simp_all[vq]
end
section
variable {P:Program} {I:Ft} {w:World}
theorem yL (a b:ByteArray):(a==b)=decide (a=b):=by
 rw[jO,decide_eq_true_iff];constructor
 .intro h
  obtain⟨⟨x⟩⟩:=a;obtain⟨⟨y⟩⟩:=b;have:((⟨x⟩:Array UInt8)==⟨y⟩)=true:=h;simp at this;subst this;rfl
 .rintro rfl
  obtain⟨⟨x⟩⟩:=a;show((⟨x⟩:Array UInt8)==⟨x⟩)=true;simp
theorem pI (a b:ByteArray):(a.toList==b.toList)=decide (a=b):=by rw[<- beq_toListBytes,yL]
def Cells (I:Ft) (w:World) (xs:Array Value) (cs:List C):Prop:=xs.size=cs.length/\∀ j c,cs[j]?=some c->CR I w (xs.getD j undef) c
theorem Cells.extract {xs:Array Value} {cs:List C} (h:Cells I w xs cs) (a b:Nat) (hb:a+b<=xs.size):Cells I w (xs.extract a (a+b)) ((cs.drop a).take b):=by
 have hs:=h.1;refine⟨by simp;omega,λj c hc=>?_⟩;rw[cA] at hc;split at hc
 .rename_i hj
  rw[cK] at hc;have:=h.2 (a+j) c hc;have e:(xs.extract a (a+b)).getD j undef=xs.getD (a+j) undef:=by simp[dC];rw[if_pos (by omega)]
  rw[e];exact this
 .cases hc
def mkv (P:Program) (t:TypeId) (xs:Array Value):Value:=if dh P t then .agg xs else xs.getD 0 undef
theorem lU (t:TypeId) (d:TypeDesc) (h:P.underlying t=some d):(isAgg t).run P w=.ok (dh P t) w:=by unfold isAgg dh;simp only[aK,aR h,aw,h];cases d<;>rfl
theorem rz (t:TypeId) (d:TypeDesc) (h:P.underlying t=some d) (cs:Array Value) (off:Nat) (hb:off+P.cellsOf t<=cs.size) (h1:dh P t=false->P.cellsOf t=1) :
 (part t cs off).run P w=.ok (mkv P t (cs.extract off (off+P.cellsOf t))) w:=by
 obtain⟨i,hi⟩:=iy h;unfold part mkv;simp only[aK,lU t d h,aw];cases yI:dh P t with
 |true=>simp[fc w hi]
 |false=>
  have:=h1 yI;simp only[aM,df];have bE:off<cs.size:=by omega
  simp only[ax bE];have hm:0<min (off+1) cs.size - off:=by omega
  simp[dC,this,bE,hm]
theorem tJ:∀ (a b:List EK) (cs ds:List C) (r:Bool),iG (a++b) cs ds=some r->∃ p q,iG a (cs.take a.length) (ds.take a.length)=some p/\iG b (cs.drop a.length) (ds.drop a.length)=some q/\r=(p&&q)
 |[],b,cs,ds,r,h=>⟨true,r,rfl,by simpa using h,by simp⟩
 |k::a,b,cs,ds,r,h=>by
  cases cs with
  |nil=>simp[iG] at h
  |cons c cs=>
   cases ds with
   |nil=>simp[iG] at h
   |cons d ds=>
    simp only[dE,iG] at h;split at h
    .rename_i p q h1 h2
     obtain⟨p',q',e1,e2,e3⟩:=tJ a b cs ds q h2;refine⟨p&&p',q',?_,by simpa using e2,?_⟩
     .simp[iG,h1,e1]
     .simp only[ao] at h;rw[<- h,e3,Bool.and_assoc]
    .cases h
theorem yM (r:TypeId->Option (List EK)):∀ (fs:List Field) (acc ks:List EK),D9 P r fs acc=some ks->∃ rest,ks=acc++rest
 |[],acc,ks,h=>⟨[],by simp[D9] at h;simp[h]⟩
 |f::fs,acc,ks,h=>by
  simp only[D9] at h;split at h
  .rename_i k1 _
   split at h
   .obtain⟨rest,hr⟩:=yM r fs _ _ h
    exact⟨k1++rest,by rw[hr,aI]⟩
   .cases h
  .cases h
theorem uL {d:Nat} {t:TypeId} {ks:List EK} (h:eqk P d t=some ks) (hz:dh P t=false):ks.length=1:=by
 cases d with
 |zero=>simp[eqk] at h
 |succ d=>
  unfold eqk at h;unfold dh at hz;split at h<;>first | (simp only[ao] at h;subst h;rfl) | simp_all
theorem pA {d:Nat} {t:TypeId} {ks:List EK} (h:eqk P d t=some ks):∃ u,P.underlying t=some u:=by
 cases d with
 |zero=>simp[eqk] at h
 |succ d=>
  unfold eqk at h;cases hu:P.underlying t with
  |none=>simp[hu] at h
  |some u=>exact⟨u,rfl⟩
theorem CR.lit_eq {v u:Value} (h:CR I w v (.lit u)):v=u:=by cases h;rfl
theorem Gs {c e:C} {r:Bool} (h:eqC .int c e=some r):∃ k a b,c=.lit (.int k a)/\e=.lit (.int k b)/\r=decide (a=b):=by
 unfold eqC at h;split at h<;>first | contradiction | skip
 split at h
 .rename_i hk;subst hk;exact⟨_,_,_,rfl,rfl,by simpa using h.symm⟩
 .cases h
theorem BA {c e:C} {r:Bool} (h:eqC .bool c e=some r):∃ a b,c=.lit (.bool a)/\e=.lit (.bool b)/\r=(a==b):=by
 unfold eqC at h;split at h<;>first | contradiction | skip
 exact⟨_,_,rfl,rfl,by simpa using h.symm⟩
theorem Gt {c e:C} {r:Bool} (h:eqC .str c e=some r):∃ a b,c=.lit (.string a)/\e=.lit (.string b)/\r=decide (a=b):=by
 unfold eqC at h;split at h<;>first | contradiction | skip
 exact⟨_,_,rfl,rfl,by simpa using h.symm⟩
theorem O5 {xs:Array Value} {j:Nat} {v:Value} (h:xs.getD j undef=v) (hj:j<xs.size):xs[j]?=some v:=by simp[ax hj] at h ⊢;exact h
theorem EL:∀ (d:Nat) (t:TypeId) (ks:List EK),eqk P d t=some ks->∀ (D:Nat),d<=D->∀ (xs ys:Array Value) (cs ds:List C) (r:Bool),Cells I w xs cs->Cells I w ys ds->
 xs.size=ks.length->ys.size=ks.length->iG ks cs ds=some r->(Op.equalIn D t (mkv P t xs) (mkv P t ys)).run P w=.ok r w:=by
 intro d;induction d with
 |zero=>intro t ks h;simp[eqk] at h
 |succ d ih=>
  intro t ks h D hD xs ys cs ds r hx hy tG uG hr;obtain⟨D,rfl⟩:∃ E,D=E+1:=⟨D - 1,by omega⟩;have hD':d<=D:=by omega
  have scalar:∀ k,ks=[k]->dh P t=false->∃ c e,eqC k c e=some r/\CR I w (mkv P t xs) c/\CR I w (mkv P t ys) e:=by
   intro k hk hz;subst hk;have h1:=hx.1;have h2:=hy.1;simp at tG uG;rw[tG] at h1;rw[uG] at h2;obtain⟨c,rfl⟩:=gI.1 h1.symm;obtain⟨e,rfl⟩:=gI.1 h2.symm;simp only[iG] at hr;split at hr
   .rename_i p q e1 e2
    simp only[ao] at e2 hr;subst e2;refine⟨c,e,by rw[e1];simpa using hr,?_,?_⟩
    .simp only[mkv,hz];exact hx.2 0 c rfl
    .simp only[mkv,hz];exact hy.2 0 e rfl
   .cases hr
  unfold eqk at h;split at h
  .rename_i k hu
   simp only[ao] at h;obtain⟨c,e,he,h1,h2⟩:=scalar .int h.symm (by simp[dh,hu]);obtain⟨kk,a,b,rfl,rfl,rfl⟩:=Gs he;rw[h1.lit_eq,h2.lit_eq,run_equalIn_int w D t _ k _ _ hu];congr 1
  .rename_i hu
   simp only[ao] at h;obtain⟨c,e,he,h1,h2⟩:=scalar .bool h.symm (by simp[dh,hu]);obtain⟨a,b,rfl,rfl,rfl⟩:=BA he;rw[h1.lit_eq,h2.lit_eq,run_equalIn_bool' w D t _ _ hu]
  .rename_i hu
   simp only[ao] at h;obtain⟨c,e,he,h1,h2⟩:=scalar .str h.symm (by simp[dh,hu]);obtain⟨a,b,rfl,rfl,rfl⟩:=Gt he;rw[h1.lit_eq,h2.lit_eq,run_equalIn_string w D t _ _ hu,pI]
  .rename_i fs hu
   split at h
   .cases h
   .rename_i hst
    have UH:P.fieldsOf t=fs:=(by simp[Program.fieldsOf,hu]);have kJ:dh P t=true:=(by simp[dh,hu]);simp only[mkv,kJ,cZ];rw[run_equalIn_struct w D t xs ys (by rw[UH];exact hu) (by simpa using hst),UH];have key:∀ (l:List Field) (acc:List EK),D9 P (eqk P d) l acc=some ks->∀ r,iG (ks.drop acc.length) (cs.drop acc.length) (ds.drop acc.length)=some r->
     (Op.eqFields D xs ys l).run P w=.ok r w:=by
     intro l;induction l with
     |nil=>intro acc h r hr;simp only[D9,ao] at h;subst h;simp[iG] at hr;subst hr;simp[Op.eqFields]
     |cons f l ihl=>
      intro acc h r hr;simp only[D9] at h;split at h
      .rename_i k1 AU
       split at h
       .rename_i hc
        obtain⟨hn,oW,cj⟩:=hc;obtain⟨rest,Qp⟩:=yM (P:=P) _ _ _ _ h;have e0:ks.drop acc.length=k1++rest:=(by rw[Qp,aI,List.drop_left]);rw[e0] at hr;obtain⟨p,q,e1,e2,e3⟩:=tJ _ _ _ _ _ hr;have fO:acc.length+k1.length<=ks.length:=(by rw[Qp];simp);obtain⟨u,hfu⟩:=pA AU;have kg:dh P f.type=false->P.cellsOf f.type=1:=λhz=>by rw[<- cj];exact uL AU hz
        have hpx:=rz (w:=w) f.type u hfu xs f.offset (by rw[oW,<- cj,tG];exact fO) kg;have hpy:=rz (w:=w) f.type u hfu ys f.offset (by rw[oW,<- cj,uG];exact fO) kg;have hcx:=hx.extract f.offset (P.cellsOf f.type) (by rw[oW,<- cj,tG];exact fO);have Zz:=hy.extract f.offset (P.cellsOf f.type) (by rw[oW,<- cj,uG];exact fO);have yJ:=ih f.type k1 AU D hD' _ _ _ _ p hcx Zz (by simp;omega) (by simp;omega) (by rw[oW,<- cj];exact e1);have ZA:=ihl (acc++k1) h q (by rw[ae,<- fG,<- fG,<- fG,e0,List.drop_left];exact e2);simp only[Op.eqFields];rw[if_pos hn];simp only[aK,hpx,hpy,aw,yJ];subst e3;cases p
        .simp
        .simpa using ZA
       .cases h
      .cases h
    exact key fs.toList [] h r (by simpa using hr)
  .rename_i m e hu
   split at h
   .rename_i k1 AU
    split at h
    .rename_i cj
     simp only[ao] at h;have kJ:dh P t=true:=(by simp[dh,hu]);obtain⟨u,heu⟩:=pA AU;obtain⟨i,hi⟩:=iy heu;simp only[mkv,kJ,cZ];rw[run_equalIn_array w D xs ys hu hi];have aib:ks.length=m*k1.length:=(by rw[<- h];simp);have kg:dh P e=false->P.cellsOf e=1:=λhz=>by rw[<- cj];exact uL AU hz
     have key:∀ (c j:Nat),j+c=m->∀ r,iG (List.replicate c k1).flatten (cs.drop (j*k1.length)) (ds.drop (j*k1.length))=some r->
      (Op.eqItems D e (P.cellsOf e) xs ys (List.range' j c)).run P w=.ok r w:=by
      intro c;induction c with
      |zero=>intro j _ r hr;simp[iG] at hr;subst hr;simp[Op.eqItems]
      |succ c ihc=>
       intro j hj r hr;simp only[List.replicate_succ,cF] at hr;obtain⟨p,q,e1,e2,e3⟩:=tJ _ _ _ _ _ hr;have fO:j*k1.length+k1.length<=ks.length:=(by rw[aib,<- eB];exact aO _ (by omega));have hpx:=rz (w:=w) e u heu xs (j*P.cellsOf e) (by rw[<- cj,tG];exact fO) kg;have hpy:=rz (w:=w) e u heu ys (j*P.cellsOf e) (by rw[<- cj,uG];exact fO) kg;have hcx:=hx.extract (j*P.cellsOf e) (P.cellsOf e) (by rw[<- cj,tG];exact fO);have Zz:=hy.extract (j*P.cellsOf e) (P.cellsOf e) (by rw[<- cj,uG];exact fO);have yJ:=ih e k1 AU D hD' _ _ _ _ p hcx Zz (by simp;rw[<- cj];omega) (by simp;rw[<- cj];omega) (by rw[<- cj];exact e1);have ZA:=ihc (j+1) (by omega) q (by rw[eB,<- fG,<- fG];exact e2);simp only[iu,Op.eqItems,aK,hpx,hpy,aw,yJ];subst e3;cases p
       .simp
       .simpa using ZA
     rw[eO];exact key m 0 (by omega) r (by rw[h];simpa using hr)
    .cases h
   .cases h
  .cases h
end
section
variable {P:Program} {G:Gl} {tr:List Nat} {n:Nat} {I0:Ft} {M:Mx} {w0:World} {I:Ft} {β:Nat->Option Nat} {ob:Loc->Option Nat} {s:S} {a:Act} {w:World} {o:Oper}
 {next:Act->World->Prop} {Q:Exit->Act->World->Prop} {base:Nat->Prop} {v:Value} {x y:V} {K:V->Prop}
theorem we {op:BinOp} {k yk:IntKind} {a b:Int} {T:TypeId} (h:nD op k a b K) (hk:(op=.shl∨op=.shr)∨yk=k) :
 ∃ u,flat u=true/\K (.c (.lit u))/\(binOp op T (.int k a) (.int yk b)).run P w=.ok u w:=by
 by_cases hs:op=.shl∨op=.shr
 .rcases hs with rfl | rfl<;>simp only[nD] at h
  .exact⟨_,rfl,h.2,by rw[binOp_shl];simp[Op.shift,Int.not_lt.2 h.1]⟩
  .exact⟨_,rfl,h.2,by rw[binOp_shr];simp[Op.shift,Int.not_lt.2 h.1]⟩
 .have:yk=k:=hk.resolve_left hs
  subst this;cases op<;>simp only[nD] at h<;>simp only[reduceCtorEq,cR,or_true,not_true_eq_false] at hs
  case add=>exact⟨_,rfl,h,by rw[binOp_add];rfl⟩
  case sub=>exact⟨_,rfl,h,by rw[binOp_sub];rfl⟩
  case mul=>exact⟨_,rfl,h,by rw[binOp_mul];rfl⟩
  case quo=>exact⟨_,rfl,h.2,by rw[binOp_quo];simp[Op.intDiv,h.1]⟩
  case rem=>exact⟨_,rfl,h.2,by rw[binOp_rem];simp[Op.intDiv,h.1]⟩
  case and=>exact⟨_,rfl,h,by rw[binOp_and,intBits_and];rfl⟩
  case or=>exact⟨_,rfl,h,by rw[binOp_or,intBits_or];rfl⟩
  case xor=>exact⟨_,rfl,h,by rw[binOp_xor,intBits_xor];rfl⟩
  case andNot=>exact⟨_,rfl,h,by rw[binOp_andNot,intBits_andNot];rfl⟩
  case eql=>exact⟨_,rfl,h,by rw[binOp_eql];rfl⟩
  case neq=>exact⟨_,rfl,h,by rw[binOp_neq];rfl⟩
  case lss=>exact⟨_,rfl,h,by rw[binOp_lss];rfl⟩
  case leq=>exact⟨_,rfl,h,by rw[binOp_leq];rfl⟩
  case gtr=>exact⟨_,rfl,h,by rw[binOp_gtr];rfl⟩
  case geq=>exact⟨_,rfl,h,by rw[binOp_geq];rfl⟩
theorem MG {op:BinOp} {a b:ByteArray} {T:TypeId} (h:ID op a b K) :
 ∃ u,flat u=true/\K (.c (.lit u))/\(binOp op T (.string a) (.string b)).run P w=.ok u w:=by
 have hb:binOp op T (.string a) (.string b)=Op.stringOp op a b:=by cases op<;>rfl
 rw[hb];cases op<;>simp only[ID] at h
 case add=>
  refine⟨_,rfl,h.2,?_⟩;have:¬ (((a.size+b.size:Nat):Int)>IntKind.i64.max):=by simp;omega
  simp only[Op.stringOp,if_neg this];rfl
 case eql=>exact⟨_,rfl,h,by simp only[Op.stringOp,pI];rfl⟩
 case neq=>exact⟨_,rfl,h,by simp only[Op.stringOp,pI];rfl⟩
 case lss=>exact⟨_,rfl,h,by simp only[Op.stringOp];rfl⟩
 case leq=>exact⟨_,rfl,h,by simp only[Op.stringOp,pI];rfl⟩
 case gtr=>exact⟨_,rfl,h,by simp only[Op.stringOp,pI];rfl⟩
 case geq=>exact⟨_,rfl,h,by simp only[Op.stringOp];rfl⟩
theorem MH {op:BinOp} {T:TypeId} {vx vy:Value} {ox oy:Option Nat} (h:j5 P op T x y K) (hx:LR base I β w ox vx x) (hy:LR base I β w oy vy y) (X Y:Operand) :
 ∃ u,flat u=true/\K (.c (.lit u))/\(do eqGuard op T X Y vx vy;binOp op T vx vy:Sem Value).run P w=.ok u w:=by
 unfold j5 at h;split at h
 .rename_i k a k' b
  rw[hx.lit,hy.lit,eqGuard_at_int];simp only[aK,bg,aw];split at h
  .exact we h (.inl (.inl rfl))
  .exact we h (.inl (.inr rfl))
  .split at h
   .rename_i hk;exact we h (.inr hk.symm)
   .exact h.elim
 .rw[hx.lit,hy.lit,eqGuard_at_string]
  simp only[aK,bg,aw];exact MG h
 .rename_i a b
  rw[hx.lit,hy.lit,eqGuard_at_bool];simp only[aK,bg,aw];split at h
  .rename_i i hi
   obtain⟨j,d,h1,h2,h3,_⟩:=bH hi;have hd:=QK h3;subst hd;split at h
   .exact⟨_,rfl,h,by simp[binOp,Op.equal,Op.maxDepth,run_equalIn_bool' w 9999 T _ _ h2]⟩
   .exact⟨_,rfl,h,by simp[binOp,Op.equal,Op.maxDepth,run_equalIn_bool' w 9999 T _ _ h2]⟩
   .exact h.elim
  .exact h.elim
 .rename_i xs ys
  obtain⟨vs,rfl,tG,Ur⟩:=hx.agg;obtain⟨us,rfl,uG,hy2⟩:=hy.agg;split at h
  .rename_i ks hi
   obtain⟨j,d,h1,h2,_,_,_,kJ,_,_,adP,_⟩:=bH hi;simp only at kJ adP;split at h
   .rename_i r hr
    obtain⟨⟨As,hl2⟩,h⟩:=h;split at adP
    .cases adP
    .rename_i hg
     have ZB:P.eqGuardType P.depth T=false:=(by simpa using hg);have e1:=EL (w:=w) 8 T ks adP.symm 10000 (by omega) vs us xs ys r ⟨tG,Ur⟩ ⟨uG,hy2⟩ (by omega) (by omega) hr;have hv:∀ z:Array Value,mkv P T z=.agg z:=λz=>by simp[mkv,<- kJ]
     rw[hv,hv] at e1;simp only[aK,run_eqGuard_agg w op T X Y vs us ZB,aw];split at h
     .exact⟨_,rfl,h,by rw[run_eql_struct,e1];rfl⟩
     .exact⟨_,rfl,h,by rw[run_neq_struct,e1];rfl⟩
     .exact h.elim
   .exact h.elim
  .exact h.elim
 .exact h.elim
theorem MI {op:BinOp} {T:TypeId} {vx:Value} {ox:Option Nat} (h:IE P op T x K) (hx:LR base I β w ox vx x) (X Y:Operand) :
 ∃ u,flat u=true/\K (.c (.lit u))/\(do eqGuard op T X Y vx (.slice none 0 0);binOp op T vx (.slice none 0 0):Sem Value).run P w=.ok u w:=by
 unfold IE at h;split at h
 .rename_i e _ _ _ _ _ _ hi
  obtain⟨j,d,h1,h2,h3,_⟩:=bH hi;have qy:=dL h3;subst qy;have key:∀ Kb:Bool->Prop,EJ x Kb->∃ (a:Option Addr) (n c:Nat),vx=.slice a n c/\Kb a.isNone:=by
   intro Kb h;unfold EJ at h;split at h
   .rcases(hx.toC).sl_inv with⟨_,h0⟩ | ⟨b,off,cap,_,_,hv,_⟩
    .cases h0
    .exact⟨_,_,_,hv,h⟩
   .have DY:=hx.1
    rcases DY.sl_inv with⟨_,h0⟩ | ⟨b,off,cap,_,_,hv,_⟩
    .cases h0
    .exact⟨_,_,_,hv,h⟩
   .simp only[LR] at hx
    obtain⟨_,blk,off',cap',_,_,_,rfl⟩:=hx;exact⟨_,_,_,rfl,h⟩
   .rcases(hx.toC).sl_inv with⟨⟨a,c,hv,_⟩,_⟩ | ⟨b,off,cap,_,_,hv,_⟩
    .exact⟨_,_,_,hv,by cases a;exact h.1;exact h.2⟩
    .exact⟨_,_,_,hv,h.2⟩
   .have DY:=hx.1
    rcases DY.sl_inv with⟨⟨a,c,hv,_⟩,_⟩ | ⟨b,off,cap,_,_,hv,_⟩
    .exact⟨_,_,_,hv,by cases a;exact h.1;exact h.2⟩
    .exact⟨_,_,_,hv,h.2⟩
   .exact h.elim
  have hg:∀ (a:Option Addr) (n c:Nat),(eqGuard op T X Y (.slice a n c) (.slice none 0 0)).run P w=.ok () w:=λa n c=>by unfold eqGuard;split<;>rfl
  have yJ:∀ (d:Nat) (a:Option Addr) (n c:Nat),(Op.equalIn (d+1) T (.slice a n c) (.slice none 0 0)).run P w=.ok a.isNone w:=λd a n c=>by cases a<;>simp[Op.equalIn,aR h2]
  split at h
  .obtain⟨a,n,c,rfl,hK⟩:=key _ h
   refine⟨_,rfl,hK,?_⟩;simp only[aK,hg,aw];simp[binOp,Op.equal,Op.maxDepth,yJ 9999]
  .obtain⟨a,n,c,rfl,hK⟩:=key _ h
   refine⟨_,rfl,hK,?_⟩;simp only[aK,hg,aw];simp[binOp,Op.equal,Op.maxDepth,yJ 9999]
  .exact h.elim
 .exact h.elim
theorem Gu {T:TypeId} {v u:Value} {b:Bool} (X Y:Operand) (hg:∀ op,(eqGuard op T X Y v u).run P w=.ok () w) (h:∀ d,(Op.equalIn (d+1) T v u).run P w=.ok b w) (hb:∀ op:BinOp,(op=.eql∨op=.neq)->(binOp op T v u).run P w=(match op with | .neq=>(do pure (.bool (!(<- Op.equal T v u)))) | _=>(do pure (.bool (<- Op.equal T v u))):Sem Value).run P w) :
 (do eqGuard .eql T X Y v u;binOp .eql T v u:Sem Value).run P w=.ok (.bool b) w/\(do eqGuard .neq T X Y v u;binOp .neq T v u:Sem Value).run P w=.ok (.bool (!b)) w:=by
 constructor
 .simp only[aK,hg,aw]
  rw[hb .eql (.inl rfl)];simp[Op.equal,Op.maxDepth,h 9999]
 .simp only[aK,hg,aw]
  rw[hb .neq (.inr rfl)];simp[Op.equal,Op.maxDepth,h 9999]
theorem U2 {T:TypeId} {x y z:_} (hu:P.underlying T=some (.func x y z)) (X Y:Operand) :
 (do eqGuard .eql T X Y .nilFunc .nilFunc;binOp .eql T .nilFunc .nilFunc:Sem Value).run P w=.ok (.bool true) w/\(do eqGuard .neq T X Y .nilFunc .nilFunc;binOp .neq T .nilFunc .nilFunc:Sem Value).run P w=.ok (.bool (!true)) w:=
 Gu X Y (λop=>by unfold eqGuard;split<;>rfl) (λd=>by simp[Op.equalIn,aR hu]) (λop h=>by rcases h with rfl | rfl<;>rfl)
theorem ad9 {T:TypeId} {x y z:_} (hu:P.underlying T=some (.func x y z)) (X Y:Operand) (f:Fn) (p q:Array Value) :
 (do eqGuard .eql T X Y (.func f p q) .nilFunc;binOp .eql T (.func f p q) .nilFunc:Sem Value).run P w=.ok (.bool false) w/\(do eqGuard .neq T X Y (.func f p q) .nilFunc;binOp .neq T (.func f p q) .nilFunc:Sem Value).run P w=.ok (.bool (!false)) w:=
 Gu X Y (λop=>by unfold eqGuard;split<;>rfl) (λd=>by simp[Op.equalIn,aR hu]) (λop h=>by rcases h with rfl | rfl<;>rfl)
theorem aea {T e:TypeId} (hu:P.underlying T=some (.pointer e)) (X Y:Operand) (p:Option Addr) :
 (do eqGuard .eql T X Y (.pointer p) (.pointer none);binOp .eql T (.pointer p) (.pointer none):Sem Value).run P w=.ok (.bool p.isNone) w/\(do eqGuard .neq T X Y (.pointer p) (.pointer none);binOp .neq T (.pointer p) (.pointer none):Sem Value).run P w=.ok (.bool (!p.isNone)) w:=
 Gu X Y (λop=>by unfold eqGuard;split<;>rfl) (λd=>by cases p<;>simp[Op.equalIn,aR hu]) (λop h=>by rcases h with rfl | rfl<;>rfl)
theorem IJ {op:BinOp} {T:TypeId} {fn:Bool} {vx:Value} {ox:Option Nat} (h:sX P op T fn x K) (hx:LR base I β w ox vx x) (X Y:Operand) :
 ∃ u,flat u=true/\K (.c (.lit u))/\(do eqGuard op T X Y vx (if fn then .nilFunc else .pointer none);binOp op T vx (if fn then .nilFunc else .pointer none):Sem Value).run P w=.ok u w:=by
 unfold sX at h;split at h
 .rename_i b hb
  obtain⟨hT,h⟩:=h;have key:(fn=true/\((b=true/\vx=.nilFunc)∨(b=false/\∃ f x y,vx=.func f x y)))∨(fn=false/\∃ a:Option Addr,vx=.pointer a/\b=a.isNone):=by
   unfold O2 at hb;split at hb
   .have:=hx.toC.rp_inv
    obtain⟨b',off,f,hv,_⟩:=this;cases fn<;>simp at hb;subst hb;exact .inr ⟨rfl,_,hv,rfl⟩
   .simp only[LR] at hx
    obtain⟨blk,_,hv⟩:=hx;cases fn<;>simp at hb;subst hb;exact .inr ⟨rfl,_,hv,rfl⟩
   .have hv:=hx.lit
    cases fn<;>simp at hb;subst hb;exact .inr ⟨rfl,_,hv,rfl⟩
   .obtain⟨vf,vc,hv,_⟩:=hx.toC.fn_inv
    cases fn<;>simp at hb;subst hb;exact .inl ⟨rfl,.inr ⟨rfl,_,_,_,hv⟩⟩
   .simp only[LR] at hx
    obtain⟨vf,vc,hv,_⟩:=hx;cases fn<;>simp at hb;subst hb;exact .inl ⟨rfl,.inr ⟨rfl,_,_,_,hv⟩⟩
   .simp only[LR] at hx
    obtain⟨blk,_,hv⟩:=hx;cases fn<;>simp at hb;subst hb;exact .inl ⟨rfl,.inr ⟨rfl,_,_,_,hv⟩⟩
   .have hv:=hx.lit
    cases fn<;>simp at hb;subst hb;exact .inl ⟨rfl,.inl ⟨rfl,hv⟩⟩
   .cases hb
  have ala:(fn=true/\∃ a b c,P.underlying T=some (.func a b c))∨(fn=false/\∃ e,P.underlying T=some (.pointer e)):=by
   unfold aag at hT;split at hT
   .rename_i e;exact .inl ⟨hT,_,_,_,e⟩
   .rename_i e;exact .inr ⟨by simpa using hT,_,e⟩
   .cases hT
  rcases key with⟨rfl,key⟩ | ⟨rfl,a,rfl,rfl⟩
  .rcases ala with⟨_,a1,a2,a3,hu⟩ | ⟨h0,_⟩
   .rcases key with⟨rfl,rfl⟩ | ⟨rfl,f,y,z,rfl⟩
    .split at h
     .exact⟨_,rfl,h,(U2 hu X Y).1⟩
     .exact⟨_,rfl,h,(U2 hu X Y).2⟩
     .exact h.elim
    .split at h
     .exact⟨_,rfl,h,(ad9 hu X Y f y z).1⟩
     .exact⟨_,rfl,h,(ad9 hu X Y f y z).2⟩
     .exact h.elim
   .cases h0
  .rcases ala with⟨h0,_⟩ | ⟨_,e,hu⟩
   .cases h0
   .split at h
    .exact⟨_,rfl,h,(aea hu X Y a).1⟩
    .exact⟨_,rfl,h,(aea hu X Y a).2⟩
    .exact h.elim
 .exact h.elim
theorem QL {op:UnOp} {vx:Value} {ox:Option Nat} (h:vun op x K) (hx:LR base I β w ox vx x):∃ u,flat u=true/\K (.c (.lit u))/\(Op.unary op vx).run P w=.ok u w:=by
 unfold vun at h;split at h
 .rw[hx.lit];exact⟨_,rfl,h,rfl⟩
 .rw[hx.lit];exact⟨_,rfl,h,by simp only[Op.unary,intBits_xor];rfl⟩
 .rw[hx.lit];exact⟨_,rfl,h,rfl⟩
 .exact h.elim
theorem oh {ag:Bool} {sz off:Nat} {cs:List C} {xs:Array Value} (h:dI ag sz off cs K) (hc:Cells I w xs cs) :
 ∃ z v,K z/\LR base I β w none v z/\((ag=true/\off+sz<=xs.size/\v=.agg (xs.extract off (off+sz)))∨(ag=false/\xs[off]?=some v)):=by
 unfold dI at h;split at h
 .rename_i kJ
  have ko:off+sz<=xs.size:=by rw[hc.1];exact h.1
  have hx:=hc.extract off sz ko;exact⟨_,_,h.2,by simp only[LR];exact .agg _ _ hx.1 hx.2,.inl ⟨kJ,ko,rfl⟩⟩
 .rename_i kJ
  split at h
  .rename_i c F8
   have bE:off<xs.size:=(by rw[hc.1];exact(aj.1 F8).1);exact⟨_,xs.getD off undef,h,.ofC (hc.2 off c F8),.inr ⟨by simpa using kJ,by simp[ax bE]⟩⟩
  .exact h.elim
theorem PR.toLR {u:Value} {z:V} (h:PR I β w u z):LR base I β w none u z:=by
 cases z<;>simp only[PR] at h<;>simp only[LR]<;>first | exact h | exact .c _ _ h | exact⟨h.2.1,.inl ⟨rfl,h.1,h.2.2⟩⟩
theorem O6 {cells:Array Value} {vs:List V} (hl:cells.size=vs.length) (h:∀ j x,vs[j]?=some x->PR I β w (cells.getD j undef) x):LR base I β w none (.agg cells) (Bq vs):=by
 unfold Bq;split
 .rename_i cs jf
  simp only[LR];refine .agg _ _ (by rw[hl];exact(List.mapM_eq_some_length jf).symm) λj c hc=>?_;obtain⟨x,hx,qT⟩:=List.mapM_eq_some_get jf j c hc;have:=h j x hx;cases x<;>simp only[V.asC] at qT<;>try cases qT
  .exact this
  .exact this.2.1
 .exact⟨cells,rfl,hl,h⟩
theorem LR.toPR {o:Option Nat} {u:Value} {z:V} (h:LR base I β w o u z) (hp:z.isPO=true):PR I β w u z.fz:=by
 cases z<;>simp only[V.isPO] at hp<;>try cases hp
 .exact h.toC
 .exact h.1
 .exact h
 .exact h
 .exact h
 .exact h
 .exact h
theorem IK {ag:Bool} {sz off:Nat} {vs:List V} {xs:Array Value} (h:zJ ag sz off vs K) (hl:xs.size=vs.length) (hc:∀ j x,vs[j]?=some x->PR I β w (xs.getD j undef) x) :
 ∃ z v,K z/\LR base I β w none v z/\((ag=true/\off+sz<=xs.size/\v=.agg (xs.extract off (off+sz)))∨(ag=false/\xs[off]?=some v)):=by
 unfold zJ at h;split at h
 .rename_i kJ
  have ko:off+sz<=xs.size:=by rw[hl];exact h.1
  refine⟨_,_,h.2,O6 ?_ λj x hx=>?_,.inl ⟨kJ,ko,rfl⟩⟩
  .simp only[iw,aN,cw];omega
  .rw[cA] at hx
   split at hx
   .rename_i hj
    rw[cK] at hx;have:=hc (off+j) x hx;have e1:(xs.extract off (off+sz)).getD j undef=xs.getD (off+j) undef:=(by rw[ak,dC,if_pos (by omega),<- ak]);rw[e1];exact this
   .cases hx
 .rename_i kJ
  split at h
  .rename_i c F8
   have bE:off<xs.size:=(by rw[hl];exact(aj.1 F8).1);exact⟨_,xs.getD off undef,h,(hc off c F8).toLR,.inr ⟨by simpa using kJ,by simp[ax bE]⟩⟩
  .exact h.elim
theorem U3 {b off:Nat} {cs:List C} {f:Nat->Value} (hc:∀ j,j<cs.length->w.cell? ⟨b,off+j,none⟩=some (f j)/\I b (off+j))
 (hr:∀ j c,cs[j]?=some c->CR I w (f j) c):Cells I w ((List.range cs.length).map f).toArray cs:=by
 refine⟨by simp,λj c h=>?_⟩;have hj:=(aj.1 h).1;have:((List.range cs.length).map f).toArray.getD j undef=f j:=by simp[hj]
 rw[this];exact hr j c h
theorem jS (T:TypeId) (d:TypeDesc) (hd:P.underlying T=some d) (b off:Nat) (f:Nat->Value) (m:Nat) (hm:m=P.cellsOf T)
 (hc:∀ j,j<m->w.cell? ⟨b,off+j,none⟩=some (f j)) (h1:dh P T=false->0<m) :
 (loadVar T ⟨b,off,none⟩).run P w=.ok (if dh P T then .agg ((List.range m).map f).toArray else f 0) w:=by
 obtain⟨i,hi⟩:=iy hd;unfold loadVar;simp only[aK,lU T d hd,aw];cases kJ:dh P T with
 |true=>simp only[cZ,aK,fc w hi,aw,<- hm];rw[run_loadCells w ⟨b,off,none⟩ m f (λj hj=>by rw[cY];exact hc j hj)];rfl
 |false=>have:=hc 0 (h1 kJ);simp only[eX] at this;simp[this]
theorem ey {T:TypeId} {j:TypeInfo} (h:P.info? T=some j):P.cellsOf T=j.size:=by simp[Program.cellsOf,h]
theorem LR.ldv {base:Nat->Prop} {I:Ft} {β:Nat->Option Nat} {w:World} {v:Value} {x:V} {ob:Option Nat} (h:LR base I β w ob v x) (o:Option Nat):LR base I β w none v x.ldv:=by
 rcases x with _ | _ | _ | _ | _ | ⟨E,es⟩ | _ | _ | _ | _ | _ | _ | _ | _ | _ | _ | _ | _ | _ | _
 case ow=>
  cases E with
  |none=>
   simp only[V.ldv,LR] at h ⊢
   obtain⟨h1,h2⟩:=h;refine⟨h1,?_⟩;rcases h2 with⟨_,h3,h4⟩ | ⟨e,blk,cap,cur,sz,_,h3,_⟩
   .exact .inl ⟨rfl,h3,h4⟩
   .cases h3
  |some e=>exact h.fz none
 case bm=>
  simp only[V.ldv,LR] at h ⊢
  obtain⟨blk,h1,h2⟩:=h;refine⟨_,#[],h2,rfl,rfl,λj x hx=>?_,λj x hx=>by cases hx⟩;cases j with
  |zero=>simp at hx;subst hx;simp only[PR];exact⟨blk,h1,rfl⟩
  |succ j=>simp at hx
 all_goals exact h.fz none
theorem bN {α:Type} {sz:Nat}:∀ (es:List (List α)),(∀ e∈es,e.length=sz)->es.flatten.length=es.length*sz
 |[],_=>by simp
 |e::es,h=>by have he:e.length=sz:=h e (by simp);simp only[cF,ae,aC,he,bN es (λe he=>h e (by simp[he])),eB];omega
theorem St.hotAt (hst:St G n I0 M w0 I β ob s a w) {b k blk len cap:Nat} {E:Option (TypeId×Nat)} {es:List (List C)} (hb:b<s.nb) (hk:(s.bx b)[k]?=some (.hh (some (.slice (some ⟨blk,0,none⟩) len cap)) E es)) :
 ∃ cur e sz,w.heap[blk]?=some (.cells cur e (0,0))/\cur.size=cap*sz/\(∀ x∈es,x.length=sz)/\es.length<=cap/\(∀ j c,es.flatten[j]?=some c->CR I w (cur.getD j undef) c):=by
 obtain⟨_,cur0,e1,e2,e3,e4,e5,e7⟩:=hst.bx b hb;have h5:=e5 k;have oJ:(s.bx b).getD k .un=.hh (some (.slice (some ⟨blk,0,none⟩) len cap)) E es:=by simp[List.getD,hk]
 rw[oJ] at h5;obtain⟨g1,e,sN,cap',cur,sz,_,_,hv,_,hh,hc,_,hs,hl,hf,_⟩:=h5.hot;have OK:=g1 _ rfl;rw[hv] at OK;simp only[eN,ao,iF] at OK;obtain⟨⟨rfl,_⟩,_,rfl⟩:=OK;exact⟨cur,e,sz,hh,hs,hl,hc,hf⟩
theorem St.gsAt (hst:St G n I0 M w0 I β ob s a w) {b k blk len cap:Nat} {E:Option (TypeId×Nat)} {es:List (List C)} (hb:b<s.nb) (hk:(s.bx b)[k]?=some (.gs (some (.slice (some ⟨blk,0,none⟩) len cap)) E es)) :
 (len=0/\cap=0/\es=[]/\E=none)∨∃ cur e sz,ob (.b b k)=some blk/\E=some (e,sz)/\len=es.length/\w.heap[blk]?=some (.cells cur e (0,0))/\cur.size=cap*sz/\(∀ x∈es,x.length=sz)/\es.length<=cap/\cap<=maxLen/\(∀ j c,es.flatten[j]?=some c->CR I w (cur.getD j undef) c)/\(∀ u∈cur,u.oneCell'=true)/\∀ o,¬ I blk o:=by
 obtain⟨_,cur0,e1,e2,e3,e4,e5,e7⟩:=hst.bx b hb;have h5:=e5 k;have oJ:(s.bx b).getD k .un=.gs (some (.slice (some ⟨blk,0,none⟩) len cap)) E es:=by simp[List.getD,hk]
 rw[oJ] at h5;obtain⟨g1,h5⟩:=h5.gsO;have OK:=g1 _ rfl;rcases h5 with⟨_,h3,h4,a,hv⟩ | ⟨e,sN,cap',cur,sz,kb,hE,hv,_,hh,hc,hm,hs,hl,hf,kg,gy⟩
 .rw[hv] at OK
  simp only[eN] at OK;exact .inl ⟨OK.2.1.symm,OK.2.2.symm,h4,h3⟩
 .rw[hv] at OK
  simp only[eN,ao,iF] at OK;obtain⟨⟨rfl,_⟩,OM,rfl⟩:=OK;exact .inr ⟨cur,e,sz,kb,hE,OM.symm,hh,hs,hl,hc,hm,hf,kg,gy⟩
theorem tK {T:TypeId} {vx:Value} {ox:Option Nat} (hst:St G n I0 M w0 I β ob s a w) (h:dG P T s x K) (hx:LR (Wr M w0) I β w ox vx x) :
 ∃ z u,K z/\LR (Wr M w0) I β w none u z/\(Instr.loadAt T vx).run P w=.ok u w:=by
 unfold dG at h;split at h
 .rename_i i cs k hi
  obtain⟨j,d,h1,h2,_,fO,_,kJ,_⟩:=bH hi;have jq:=hx.toC;generalize hrp:C.rp cs k=c at jq;cases jq<;>cases hrp;rename_i b off f eU qh;have jf:=U3 eU qh;obtain⟨z,v,hz,iD,hv⟩:=oh (base:=Wr M w0) (β:=β) h jf;refine⟨z,v,hz,iD,?_⟩;simp only[Instr.loadAt,Instr.sureAddr,aK,bg,aw];rcases hv with⟨h3,h4,rfl⟩ | ⟨h3,h4⟩
  .simp at h4
   rw[jS T d h2 b (off+k) (λj=>f (k+j)) i.size (by rw[fO,ey h1]) (λj hj=>by rw[dM];exact(eU (k+j) (by omega)).1) (λhz=>by rw[<- kJ,h3] at hz;cases hz),<- kJ,h3];simp only[cZ];congr 2;apply dB;apply fY;intro q;by_cases hq:q<i.size
   .simp[hq,cA,cK,show k+q<cs.length from by omega]
   .simp[hq,cA]
  .have hk:k<cs.length:=by have:=(bf.1 h4).1;simpa using this
   have hvk:v=f k:=(by simp[hk] at h4;exact h4.symm);unfold loadVar;have:=(eU k hk).1;simp[lU T d h2,<- kJ,h3,this,hvk]
 .rename_i i b k hi
  obtain⟨j,d,h1,h2,_,fO,_,kJ,_⟩:=bH hi;obtain⟨⟨hb,lv⟩,h⟩:=h;obtain⟨blk,cur,e1,e2,e3,e4,e5,e7⟩:=hst.bx b hb;obtain⟨TT,e3,e6⟩:=e3.cells lv;simp only[LR] at hx;obtain⟨sN,e1',rfl⟩:=hx;rw[e1] at e1';cases e1';simp only[Instr.loadAt,Instr.sureAddr,aK,bg,aw];have eU:∀ q,w.cell? ⟨blk,q,none⟩=cur[q]?:=λq=>fj w blk q cur TT.t TT.fz e3;split at h
  .rename_i OL
   obtain⟨⟨cj,eF⟩,hK⟩:=h;have LI:k+i.size<=cur.size∨i.size=0:=(by have vW:=cj;simp only[aN,cw] at vW;omega);refine⟨_,.agg ((List.range i.size).map λq=>cur.getD (k+q) undef).toArray,hK,?_,?_⟩
   .refine O6 (by simp only[eM,au,List.length_range,cj]) λq x hx=>?_
    simp only[bj,aV] at hx;obtain⟨vv,Iq,rfl⟩:=hx;have hq:q<i.size:=(by have:=(aj.1 Iq).1;omega);have hg:((List.range i.size).map λq=>cur.getD (k+q) undef).toArray.getD q undef=cur.getD (k+q) undef:=(by simp[hq]);rw[hg];have hpo:=aY.1 eF vv (aS Iq);have oJ:(s.bx b).getD (k+q) .un=vv:=(by rw[cA,if_pos hq,cK] at Iq;simp[List.getD,Iq]);have:=e5 (k+q);rw[oJ] at this;exact this.toPR hpo
   .rw[jS T d h2 blk k (λq=>cur.getD (k+q) undef) i.size (by rw[fO,ey h1]) (λq hq=>?_) (λhz=>by rw[<- kJ,OL] at hz;cases hz),<- kJ,OL]
    .rfl
    .rw[eU]
     rcases LI with LI | LI
     .simp[ax (show k+q<cur.size by omega)]
     .omega
  .rename_i Il
   split at h
   .rename_i vv Iq
    have hk:k<cur.size:=cu (aj.1 Iq).1 e4;refine⟨_,cur.getD k undef,h,?_,?_⟩
    .have:=e5 k
     have oJ:(s.bx b).getD k .un=vv:=(by simp[List.getD,Iq]);rw[oJ] at this;exact this.ldv none
    .unfold loadVar
     have yE:dh P T=false:=(by rw[<- kJ];simpa using Il);simp[lU T d h2,yE,eU,ax hk]
   .exact h.elim
 .rename_i i blk o hi
  obtain⟨j,d,h1,h2,_,fO,_,kJ,_⟩:=bH hi;obtain rfl:=hx.toC.ex_inv;rcases h with⟨Il,b,k,len,cap,E,es,c,⟨hb,lv,hk,hc⟩,h⟩ | ⟨b,k,len,cap,E,es,⟨hb,lv,hk⟩,h⟩
  rotate_left
  .rcases hst.gsAt hb hk with⟨_,_,rfl,_⟩ | ⟨cur,e,sz,_,_,_,g1,g2,g3,g4,_,g5,_,_⟩
   .have hP:dI i.agg i.size o ([]:List C) K:=h
    unfold dI at hP;split at hP
    .rename_i OL
     have:=hP.1;have hz:i.size=0:=(by simp only[aG] at this;omega);have hK:K (.agg []):=(by simpa using hP.2);refine⟨_,.agg #[],hK,by simp only[LR];exact .agg _ _ rfl (λj c hc=>by simp at hc),?_⟩;simp only[Instr.loadAt,Instr.sureAddr,aK,bg,aw];rw[jS T d h2 blk o (λ_=>undef) i.size (by rw[fO,ey h1]) (λq hq=>by omega) (λmE=>by rw[<- kJ,OL] at mE;cases mE),<- kJ,OL,hz];rfl
    .simp at hP
   .simp only[Instr.loadAt,Instr.sureAddr,aK,bg,aw]
    have lu:=bN es g3;have ko:=aO sz g4;have jf:Cells I w (cur.extract 0 es.flatten.length) es.flatten:=(by refine⟨by rw[iw];omega,λj c hj=>?_⟩;have F7:=(aj.1 hj).1;have e0:(cur.extract 0 es.flatten.length).getD j undef=cur.getD j undef:=(by rw[ak,ak,dC];rw[if_pos (by omega),aF]);rw[e0];exact g5 j c hj);obtain⟨z,v,hz,iD,hv⟩:=oh (base:=Wr M w0) (β:=β) h jf;have tG:(cur.extract 0 es.flatten.length).size=es.flatten.length:=jf.1;refine⟨z,v,hz,iD,?_⟩;have eU:=λq=>fj w blk q cur e (0,0) g1;have hL:es.flatten.length<=cur.size:=(by omega);clear jf lu;generalize es.flatten.length=L at hv tG hL;rcases hv with⟨h3,h4,rfl⟩ | ⟨h3,h4⟩
    .rw[tG] at h4
     rw[jS T d h2 blk o (λq=>cur.getD (o+q) undef) i.size (by rw[fO,ey h1]) (λq hq=>by rw[eU];simp[ax (show o+q<cur.size by omega)]) (λhz=>by rw[<- kJ,h3] at hz;cases hz),<- kJ,h3];simp only[cZ];congr 2;apply dB;apply fY;intro q;rw[aQ,aQ,dC,dC];by_cases hq:q<i.size
     .rw[if_pos (by rw[iw];omega),if_pos (by omega)]
      simp[hq,show o+q<cur.size from by omega]
     .rw[if_neg (by rw[iw];omega)]
      simp[hq]
    .have ho:=(bf.1 h4).1
     rw[tG] at ho;have OK:cur[o]?=some v:=(by rw[<- h4,dC,if_pos (by omega),aF]);unfold loadVar;have yE:dh P T=false:=(by rw[<- kJ];exact h3);simp[lU T d h2,yE,eU,OK]
  obtain⟨cur,e,sz,g1,g2,g3,g4,g5⟩:=hst.hotAt hb hk;simp only[Instr.loadAt,Instr.sureAddr,aK,bg,aw];have ho:o<cur.size:=by have h0:=(aj.1 hc).1;have:=bN es g3;have:=aO sz g4;omega
  refine⟨_,cur.getD o undef,h,(by
   have F8:=g5 o c hc;cases c with
   |sx es=>obtain⟨q1,q2⟩:=F8.sx_inv;exact⟨q1,.inl ⟨rfl,rfl,q2⟩⟩
   |_=>exact .ofC F8),?_⟩
  have yE:dh P T=false:=by rw[<- kJ];exact Il
  unfold loadVar;simp[lU T d h2,yE,fj w blk o cur e (0,0) g1,ax ho]
 .exact h.elim
theorem Gv {T:TypeId} {vx:Value} {ox:Option Nat} (hst:St G n I0 M w0 I β ob s a w) (h:Gn P T s x K) (hx:LR (Wr M w0) I β w ox vx x) :
 ∃ z u,K z/\LR (Wr M w0) I β w none u z/\(Instr.loadAt T vx).run P w=.ok u w:=by
 unfold Gn at h;split at h
 .rename_i i b k hi
  obtain⟨j,d,h1,h2,_,fO,_,kJ,_⟩:=bH hi;obtain⟨⟨hb,Il,lv⟩,h⟩:=h;obtain⟨blk,cur,e1,e2,e3,e4,e5,e7⟩:=hst.bx b hb;obtain⟨TT,e3,e6⟩:=e3.cells lv;simp only[LR] at hx;obtain⟨sN,e1',rfl⟩:=hx;rw[e1] at e1';cases e1';simp only[Instr.loadAt,Instr.sureAddr,aK,bg,aw];have eU:∀ q,w.cell? ⟨blk,q,none⟩=cur[q]?:=λq=>fj w blk q cur TT.t TT.fz e3;split at h
  .rename_i es Iq
   have hk:k<cur.size:=cu (aj.1 Iq).1 e4;refine⟨_,cur.getD k undef,h,?_,?_⟩
   .have:=e5 k
    have oJ:(s.bx b).getD k .un=.ow none es:=(by simp[List.getD,Iq]);rw[oJ] at this;obtain⟨t1,t2⟩:=this;refine⟨t1,?_⟩;rcases t2 with t2 | ⟨_,_,_,_,_,_,hE,_⟩
    .exact .inl ⟨rfl,rfl,t2.2.2⟩
    .cases hE
   .unfold loadVar
    have yE:dh P T=false:=(by rw[<- kJ];exact Il);simp[lU T d h2,yE,eU,ax hk]
  .exact h.elim
 .exact h.elim
end
section
variable {P:Program} {G:Gl} {tr:List Nat} {n:Nat} {I0:Ft} {M:Mx} {w0:World} {I:Ft} {β:Nat->Option Nat} {ob:Loc->Option Nat} {s:S} {a:Act} {w:World} {o:Oper}
 {next:Act->World->Prop} {Q:Exit->Act->World->Prop} {base:Nat->Prop} {v:Value} {x y:V} {K:V->Prop}
theorem nh (T:TypeId) (fs:Array Field) (hd:P.underlying T=some (.struct fs)) (blk off:Nat) (f:Nat) (g:Field) (hg:fs[f]?=some g) (hz:P.cellsOf g.type≠0) :
 (Instr.fieldAt T (.pointer (some ⟨blk,off,none⟩)) f).run P w=.ok (.pointer (some ⟨blk,off+g.offset,none⟩)) w:=by
 have fO:(sizeOf g.type).run P w=.ok (P.cellsOf g.type) w:=by
  cases hi:P.info? g.type with
  |none=>simp[Program.cellsOf,hi] at hz
  |some i=>exact fc w hi
 unfold Instr.fieldAt;simp only[aK,aR hd,aw,hg,Instr.sureAddr,bg];unfold fieldPlace;simp only[aK,fO,aw,hz,df,bg,cY]
theorem tL {i:TI} {d:TypeDesc} {f off sz:Nat} {ag:Bool} (eH:MA P d=true) (lu:i.flds=yK P d)
 (h:i.flds[f]?=some (off,sz,ag)):∃ fs g,d=.struct fs/\fs[f]?=some g/\off=g.offset/\sz=P.cellsOf g.type/\ag=dh P g.type/\∃ d',P.underlying g.type=some d':=by
 rw[lu] at h;unfold yK at h;split at h
 .rename_i fs
  simp only[bj,aV] at h;obtain⟨g,hg,he⟩:=h;simp only[dH] at he;have:=aY.1 eH g (aS hg);exact⟨fs,g,rfl,by rw[<- hg];simp,he.1.symm,he.2.1.symm,he.2.2.symm,Option.isSome_iff_exists.1 this⟩
 .simp at h
theorem yN {T:TypeId} {f:Nat} {vx:Value} {ox:Option Nat} (h:bq P T x f K) (hx:LR base I β w ox vx x) :
 ∃ z u,K z/\LR base I β w none u z/\(Instr.fieldAt T vx f).run P w=.ok u w:=by
 unfold bq at h;split at h
 .rename_i i hi
  obtain⟨j,d,h1,h2,_,_,_,_,_,lu,_,eH⟩:=bH hi;split at h
  .rename_i off sz ag cs k UH
   obtain⟨fs,g,rfl,hg,rfl,rfl,rfl,_⟩:=tL eH lu UH;have jq:=hx.toC;generalize hrp:C.rp cs k=c at jq;cases jq<;>cases hrp;rename_i b off' f' eU qh;exact⟨_,_,h.2,.ofC (by have:=CR.rp (I:=I) (w:=w) b off' (k+g.offset) cs f' eU qh;exact this),
    by rw[nh T fs h2 b (off'+k) f g hg h.1,dM]⟩
  .rename_i off sz ag b k UH
   obtain⟨fs,g,rfl,hg,rfl,rfl,rfl,_⟩:=tL eH lu UH;simp only[LR] at hx;obtain⟨blk,e1,rfl⟩:=hx;exact⟨_,_,h.2,by simp only[LR];exact⟨blk,e1,rfl⟩,nh T fs h2 blk k f g hg h.1⟩
  .rename_i off sz ag blk k UH
   obtain⟨fs,g,rfl,hg,rfl,rfl,rfl,_⟩:=tL eH lu UH;obtain rfl:=hx.toC.ex_inv;exact⟨_,_,h.2,.ofC (.ex _ rfl rfl),nh T fs h2 blk k f g hg h.1⟩
  .exact h.elim
 .exact h.elim
theorem tM {t:TypeId} {d:TypeDesc} (hd:P.underlying t=some d) {xs:Array Value} {off sz:Nat} {ag:Bool} {v:Value} (kJ:ag=dh P t) (fO:sz=P.cellsOf t)
 (hv:(ag=true/\off+sz<=xs.size/\v=.agg (xs.extract off (off+sz)))∨(ag=false/\xs[off]?=some v)):(part t xs off).run P w=.ok v w:=by
 obtain⟨i,hi⟩:=iy hd;unfold part;simp only[aK,lU t d hd,aw,<- kJ];rcases hv with⟨rfl,h2,rfl⟩ | ⟨rfl,h2⟩
 .simp[fc w hi,fO]
 .simp[h2]
theorem Gw {T:TypeId} {f:Nat} {vx:Value} {ox:Option Nat} (h:r0 P T x f K) (hx:LR base I β w ox vx x) :
 ∃ z u,K z/\LR base I β w none u z/\(Instr.field T vx f).run P w=.ok u w:=by
 unfold r0 at h;split at h
 .rename_i i cs hi
  obtain⟨j,d,h1,h2,_,_,_,_,_,lu,_,eH⟩:=bH hi;obtain⟨vs,rfl,fO,jf⟩:=hx.agg;split at h
  .rename_i off sz ag UH
   obtain⟨fs,g,rfl,hg,rfl,rfl,rfl,d',qy⟩:=tL eH lu UH;obtain⟨z,u,hz,iD,hv⟩:=oh (base:=base) (β:=β) h ⟨fO,jf⟩;refine⟨z,u,hz,iD,?_⟩;unfold Instr.field;simp only[aK,aR h2,aw,hg,asAgg,bg];exact tM qy rfl rfl hv
  .exact h.elim
 .rename_i i vs hi
  obtain⟨j,d,h1,h2,_,_,_,_,_,lu,_,eH⟩:=bH hi;simp only[LR] at hx;obtain⟨cells,rfl,fO,jf⟩:=hx;split at h
  .rename_i off sz ag UH
   obtain⟨fs,g,rfl,hg,rfl,rfl,rfl,d',qy⟩:=tL eH lu UH;obtain⟨z,u,hz,iD,hv⟩:=IK (base:=base) (β:=β) h fO jf;refine⟨z,u,hz,iD,?_⟩;unfold Instr.field;simp only[aK,aR h2,aw,hg,asAgg,bg];exact tM qy rfl rfl hv
  .exact h.elim
 .exact h.elim
theorem yO {T:TypeId} {vx vi:Value} {ox oi:Option Nat} (h:dF P T x y K) (hx:LR base I β w ox vx x) (hy:LR base I β w oi vi y) :
 ∃ z u,K z/\LR base I β w none u z/\(Instr.indexAt T vx vi).run P w=.ok u w:=by
 unfold dF at h;split at h
 .rename_i e _ _ _ _ _ _ es k m hi
  obtain⟨j,d,h1,h2,h3,_⟩:=bH hi;have hd:=dL h3;subst hd;rw[hy.lit];split at h
  .rename_i je tz
   obtain⟨j',d',jF,nB,_,fb,_⟩:=bH tz;obtain⟨⟨hm,hz0⟩,h⟩:=h;split at h
   .rename_i c hc
    obtain⟨j4,h⟩:=h;have jq:=hx.toC;have bE:=(aj.1 hc).1;generalize Qn:C.sl es=cc at jq;cases jq<;>cases Qn
    .simp at bE
    .rename_i b off cap sz f kX hs eU qh
     have fO:sz=je.size:=(by rw[<- hs c (aS hc),j4]);subst fO;have hrp:CR I w (.pointer (some ⟨b,off+m.toNat*je.size+0,none⟩)) (.rp c 0):=
      .rp b (off+m.toNat*je.size) 0 c (λq=>f m.toNat q) (λq hq=>eU _ _ bE (by omega)) (λq cq hq=>qh _ _ c cq hc hq)
     refine⟨_,_,h,.ofC hrp,?_⟩;unfold Instr.indexAt;have jg:0<=m/\m<(es.length:Int):=⟨hm,by omega⟩;simp only[asIntOf,aK,bg,aw,aR h2];rw[if_pos jg];simp[fc w jF,ey jF,fb,cY]
   .exact h.elim
  .exact h.elim
 .rename_i mm e _ _ _ _ _ _ cs k ki m hi
  obtain⟨j,d,h1,h2,h3,_⟩:=bH hi;have hd:=pH h3;subst hd;rw[hy.lit];split at h
  .rename_i je tz
   obtain⟨j',d',jF,nB,_,fb,_⟩:=bH tz;obtain⟨jg,h⟩:=h;have jq:=hx.toC;generalize hrp:C.rp cs k=c at jq;cases jq<;>cases hrp;rename_i b off f eU qh;refine⟨_,_,h,.ofC (CR.rp b off (k+m.toNat*je.size) cs f eU qh),?_⟩;unfold Instr.indexAt;simp only[asIntOf,aK,bg,aw,aR h2,Instr.sureAddr];rw[if_pos jg];simp[fc w jF,ey jF,fb,cY,dM]
  .exact h.elim
 .rename_i e _ _ _ _ _ _ b off len cap sz ki m hi
  obtain⟨j,d,h1,h2,h3,_⟩:=bH hi;have hd:=dL h3;subst hd;rw[hy.lit];split at h
  .rename_i je tz
   obtain⟨j',d',jF,nB,_,fb,_⟩:=bH tz;obtain⟨⟨hm,hml,am6,hz0⟩,h⟩:=h;simp only[LR] at hx;obtain⟨kX,blk,off',cap',F8,e1,oW,rfl⟩:=hx;have oW:off'=off:=by rcases oW with h0 | h0;omega;exact h0
   subst oW;refine⟨_,_,h,by simp only[LR];exact⟨blk,e1,rfl⟩,?_⟩;unfold Instr.indexAt;have jg:0<=m/\m<(len:Int):=⟨hm,hml⟩;simp only[asIntOf,aK,bg,aw,aR h2];rw[if_pos jg];simp[fc w jF,ey jF,<- fb,am6,cY]
  .exact h.elim
 .rename_i mm e _ _ _ _ _ _ b k ki m hi
  obtain⟨j,d,h1,h2,h3,_⟩:=bH hi;have hd:=pH h3;subst hd;rw[hy.lit];split at h
  .rename_i je tz
   obtain⟨j',d',jF,nB,_,fb,_⟩:=bH tz;obtain⟨jg,h⟩:=h;simp only[LR] at hx;obtain⟨blk,e1,rfl⟩:=hx;refine⟨_,_,h,by simp only[LR];exact⟨blk,e1,rfl⟩,?_⟩;unfold Instr.indexAt;simp only[asIntOf,aK,bg,aw,aR h2,Instr.sureAddr];rw[if_pos jg];simp[fc w jF,ey jF,fb,cY]
  .exact h.elim
 .rename_i e _ _ _ _ _ _ blk off len cap ki m hi
  obtain⟨j,d,h1,h2,h3,_⟩:=bH hi;have hd:=dL h3;subst hd;rw[hy.lit];split at h
  .rename_i je tz
   obtain⟨j',d',jF,nB,_,fb,_⟩:=bH tz;obtain⟨⟨hm,hml,hz0⟩,h⟩:=h;obtain rfl:=hx.toC.ex_inv;refine⟨_,_,h,.ofC (.ex _ rfl rfl),?_⟩;unfold Instr.indexAt;have jg:0<=m/\m<(len:Int):=⟨hm,hml⟩;simp only[asIntOf,aK,bg,aw,aR h2];rw[if_pos jg];simp[fc w jF,ey jF,fb,cY]
  .exact h.elim
 .exact h.elim
theorem Gx {T:TypeId} {vx vi:Value} {ox oi:Option Nat} (h:mI P T x y K) (hx:LR base I β w ox vx x) (hy:LR base I β w oi vi y) :
 ∃ z u,K z/\LR base I β w none u z/\(Instr.index T vx vi).run P w=.ok u w:=by
 unfold mI at h;split at h
 .rename_i _ _ _ _ _ _ st k m hi
  obtain⟨j,d,h1,h2,h3,_⟩:=bH hi;have hd:=pG h3;subst hd;rw[hx.lit,hy.lit];obtain⟨hm,h⟩:=h;split at h
  .rename_i b hb
   refine⟨_,_,h,.ofLit rfl,?_⟩;have bE:m.toNat<st.size:=(bf.1 hb).1;have jg:0<=m/\m<(st.size:Int):=⟨hm,by omega⟩;rw[run_index_string w T st k m h2,dif_pos jg];have:st[m.toNat]=b:=(bf.1 hb).2;rw[this]
  .exact h.elim
 .rename_i mm e _ _ _ _ _ _ cs k m hi
  obtain⟨j,d,h1,h2,h3,_⟩:=bH hi;have hd:=pH h3;subst hd;rw[hy.lit];obtain⟨vs,rfl,fO,jf⟩:=hx.agg;split at h
  .rename_i je tz
   obtain⟨j',d',jF,nB,_,fb,_,am7,_⟩:=bH tz;obtain⟨jg,h⟩:=h;obtain⟨z,u,hz,iD,hv⟩:=oh (base:=base) (β:=β) h ⟨fO,jf⟩;refine⟨z,u,hz,iD,?_⟩;unfold Instr.index;simp only[asIntOf,aK,bg,aw,aR h2];rw[if_pos jg];simp only[aK,fc w jF,aw,ey jF,<- fb];exact tM nB am7 (by rw[ey jF,fb]) hv
  .exact h.elim
 .exact h.elim
theorem MJ {T ty:TypeId} {vx:Value} {ox:Option Nat} (h:iR P T x K) (hx:LR base I β w ox vx x) :
 ∃ u,flat u=true/\K (.c (.lit u))/\(Builtin.len_ #[T] ty #[vx]).run P w=.ok u w:=by
 unfold iR at h;split at h
 .rename_i hi
  obtain⟨j,d,h1,h2,h3,_⟩:=bH hi;have hd:=pG h3;subst hd;rw[hx.lit];exact⟨_,rfl,h,run_len_string w T ty _ h2⟩
 .rename_i e _ _ _ _ _ _ es hi
  obtain⟨j,d,h1,h2,h3,_⟩:=bH hi;have hd:=dL h3;subst hd;refine⟨_,rfl,h,?_⟩;have jq:=hx.toC;generalize Qn:C.sl es=cc at jq;cases jq<;>cases Qn<;>simp[Builtin.len_,aR h2,goInt]
 .rename_i e _ _ _ _ _ _ E es hi
  obtain⟨j,d,h1,h2,h3,_⟩:=bH hi;have hd:=dL h3;subst hd;refine⟨_,rfl,h,?_⟩;have jq:=hx.1;generalize Qn:C.sl es=cc at jq;cases jq<;>cases Qn<;>simp[Builtin.len_,aR h2,goInt]
 .rename_i e _ _ _ _ _ _ b off len cap sz hi
  obtain⟨j,d,h1,h2,h3,_⟩:=bH hi;have hd:=dL h3;subst hd;simp only[LR] at hx;obtain⟨kX,blk,off',cap',F8,e1,oW,rfl⟩:=hx;refine⟨_,rfl,h,by simp[Builtin.len_,aR h2,goInt]⟩
 .rename_i e _ _ _ _ _ _ aa len cap hi
  obtain⟨j,d,h1,h2,h3,_⟩:=bH hi;have hd:=dL h3;subst hd;obtain rfl:=hx.toC.ex_inv;refine⟨_,rfl,h,by simp[Builtin.len_,aR h2,goInt]⟩
 .rename_i m e _ _ _ _ _ _ hi
  obtain⟨j,d,h1,h2,h3,_⟩:=bH hi;have hd:=pH h3;subst hd;refine⟨_,rfl,h,by simp[Builtin.len_,aR h2,goInt]⟩
 .exact h.elim
def RD (I:Ft) (w:World) (v:Value) (es:List (List C)):Prop:=((∃ (a:Option Addr) (cap:Nat),v=.slice a 0 cap/\(a=none->cap=0))/\es=[])∨
 ∃ (b off cap sz:Nat) (f:Nat->Nat->Value),v=.slice (some ⟨b,off,none⟩) es.length cap/\es.length<=cap/\(∀ e∈es,e.length=sz)/\
  (∀ i j,i<es.length->j<sz->w.cell? ⟨b,off+i*sz+j,none⟩=some (f i j))/\
  (∀ i j e c,es[i]?=some e->e[j]?=some c->CR I w (f i j) c)
theorem RD.ofCR {v:Value} {es:List (List C)} (h:CR I w v (.sl es)):RD I w v es:=by
 rcases h.sl_inv with h | ⟨b,off,cap,sz,f,h1,h2,h3,h4,h5⟩
 .exact .inl h
 .exact .inr ⟨b,off,cap,sz,f,h1,h2,h3,λi j hi hj=>(h4 i j hi hj).1,h5⟩
theorem CR.subslice {b off cap:Nat} {es:List (List C)} {l h' m sz:Nat} (h:CR I w (.slice (some ⟨b,off,none⟩) es.length cap) (.sl es)) (hs:∀ x∈es,x.length=sz)
 (h1:l<=h') (h2:h'<=es.length) (h3:h'<=m):CR I w (.slice (some ⟨b,off+l*sz,none⟩) (h' - l) (m - l)) (.sl ((es.take h').drop l)):=by
 rcases h.sl_inv with⟨_,rfl⟩ | ⟨b',off',cap',sz',f,hv,kX,Is,eU,qh⟩
 .have e1:h' - l=0:=by simp only[aG] at h2;omega
  rw[e1];simpa using CR.nil (I:=I) (w:=w) (some ⟨b,off+l*sz,none⟩) (m - l) (λh=>by cases h)
 simp only[eN,ao,iF,gC,iM] at hv;obtain⟨⟨rfl,rfl⟩,rfl⟩:=hv;have cj:((es.take h').drop l).length=h' - l:=by simp;omega
 have am1:∀ i e,((es.take h').drop l)[i]?=some e->es[l+i]?=some e:=λi e he=>by
  rw[cK,cA] at he;split at he
  .exact he
  .cases he
 by_cases hemp:h' - l=0
 .have:(es.take h').drop l=[]:=dx (by omega)
  rw[this,hemp];exact .sl b _ _ 0 [] (λ_ _=>undef) (ar _) (by simp) (by simp) (by simp)
 .have fO:sz'=sz:=by have:0<es.length:=(by omega);rw[<- Is es[0] (bR _),hs es[0] (bR _)]
  subst fO;rw[<- cj];refine .sl b _ _ sz' _ (λi j=>f (l+i) j) (by omega) (λe he=>hs e (dp (cQ he))) (λi j hi hj=>?_) (λi j e c he hc=>qh _ _ e c (am1 i e he) hc);have:=eU (l+i) j (by omega) hj;rw[da,<- dM] at this;exact this
end
section
variable {P:Program} {G:Gl} {tr:List Nat} {n:Nat} {I0:Ft} {M:Mx} {w0:World} {I:Ft} {β:Nat->Option Nat} {ob:Loc->Option Nat} {s:S} {a:Act} {w:World} {o:Oper}
 {next:Act->World->Prop} {Q:Exit->Act->World->Prop} {base:Nat->Prop} {v:Value} {x y:V} {K:V->Prop}
theorem O7 {v:Value} {c:C} (h:zc v=some c):CR I w v c:=by
 unfold zc at h;split at h
 .simp only[ao] at h;subst h;exact .nil none 0 (λ_=>rfl)
 .split at h
  .simp only[ao] at h;subst h;exact .lit _ ‹_›
  .cases h
theorem lz {z:Value} {zs:List C} (h:z.cells.toList.mapM zc=some zs):Cells I w z.cells zs:=by
 refine⟨by have:=List.mapM_eq_some_length h;simpa using this.symm,λj c hc=>?_⟩;obtain⟨u,hu,hz⟩:=List.mapM_eq_some_get h j c hc;have:z.cells.getD j undef=u:=by rw[aQ] at hu;simp[hu]
 rw[this];exact O7 hz
theorem IL {ox:Option Nat} (h:LR base I β w ox v x) {ds:List C} (hx:x.cs=some ds):Cells I w v.cells ds:=by
 cases x<;>simp only[V.cs] at hx<;>try cases hx
 .have:=h.toC
  rw[this.notAgg];refine⟨rfl,λj c hc=>?_⟩;cases j with
  |zero=>simp at hc;subst hc;exact this
  |succ j=>simp at hc
 .obtain⟨vs,rfl,h1,h2⟩:=h.agg
  exact⟨h1,h2⟩
 .have:=h.1
  rw[this.notAgg];refine⟨rfl,λj c hc=>?_⟩;cases j with
  |zero=>simp at hc;subst hc;exact this
  |succ j=>simp at hc
theorem yP (off:Nat):∀ (l:List Value) (k:Nat) (cs:Array Value),off+k+l.length<=cs.size->
 ((l.zipIdx k).foldl (λcs (p:Value×Nat)=>cs.setIfInBounds (off+p.2) p.1) cs).size=cs.size/\
 ∀ j,((l.zipIdx k).foldl (λcs (p:Value×Nat)=>cs.setIfInBounds (off+p.2) p.1) cs).getD j undef=
  if off+k<=j/\j<off+k+l.length then l.getD (j - (off+k)) undef else cs.getD j undef
 |[],k,cs,_=>⟨rfl,λj=>by rw[if_neg (by simp)];rfl⟩
 |v::l,k,cs,h=>by
  simp only[List.zipIdx_cons,dT];simp only[aC] at h;obtain⟨h1,h2⟩:=yP off l (k+1) (cs.setIfInBounds (off+k) v) (by simp;omega);refine⟨by rw[h1];simp,λj=>?_⟩;rw[h2 j];by_cases hj:off+(k+1)<=j/\j<off+(k+1)+l.length
  .rw[if_pos hj,if_pos (by simp only[aC];omega)]
   have:j - (off+k)=(j - (off+(k+1)))+1:=(by omega);rw[this];rfl
  .rw[if_neg hj]
   by_cases hjk:j=off+k
   .subst hjk
    rw[if_pos (by simp only[aC];omega),mj _ _ _ (by omega)];simp
   .rw[if_neg (by simp only[aC];omega),getD_set_ne _ _ _ _ hjk]
theorem QM {cs ds:List C} {off:Nat} (h:off+ds.length<=cs.length) (j:Nat) :
 (oZ cs off ds)[j]?=if off<=j/\j<off+ds.length then ds[j - off]? else cs[j]?:=by
 unfold oZ;have hto:(cs.take off).length=off:=by simp;omega
 by_cases h1:j<off
 .rw[if_neg (by omega),aI,aA (by omega),cA,if_pos h1]
 .by_cases h2:j<off+ds.length
  .rw[if_pos (by omega),aI,aH (by omega),hto,aA (by omega)]
  .rw[if_neg (by omega),aH (by simp;omega),cK]
   congr 1;simp;omega
theorem Gy {cs ds:List C} {off:Nat} (h:off+ds.length<=cs.length):(oZ cs off ds).length=cs.length:=by simp[oZ];omega
theorem EM {cells:Array Value} {cs ds:List C} {off:Nat} (hc:Cells I w cells cs) (hd:Cells I w v.cells ds) (h:off+ds.length<=cs.length) :
 Cells I w (v.cells.zipIdx.foldl (λcs (p:Value×Nat)=>cs.setIfInBounds (off+p.2) p.1) cells) (oZ cs off ds):=by
 have hvs:v.cells.size=ds.length:=hd.1;have jf:cells.size=cs.length:=hc.1;rw[<- Array.foldl_toList,Array.toList_zipIdx];obtain⟨h1,h2⟩:=yP off v.cells.toList 0 cells (by simp;omega);refine⟨by rw[h1,Gy h];exact jf,λj c hj=>?_⟩;rw[QM h] at hj;rw[h2 j];simp only[eX,b8,hvs];split at hj
 .rename_i hr
  rw[if_pos hr];have:=hd.2 _ c hj;simpa[ak,aB] using this
 .rename_i hr
  rw[if_neg hr];exact hc.2 j c hj
def IM (base:Nat->Prop) (I:Ft) (β:Nat->Option Nat) (w:World):List (Nat×Value)->List (Nat×V)->Prop
 |[],[]=>True
 |(i,v)::r,(j,x)::q=>i=j/\(∃ ox,LR base I β w ox v x)/\IM base I β w r q
 |_,_=>False
theorem BB (flds:List (Nat×Nat×Bool)) (place:Nat->Option (Nat×Nat)) (hp:∀ i off sz ag,flds[i]?=some (off,sz,ag)->place i=some (off,sz)) :
 ∀ (vs:List (Nat×Value)) (xs:List (Nat×V)) (cells:Array Value) (cs cs':List C),IM base I β w vs xs->Cells I w cells cs->kT flds xs cs=some cs'->
  ∃ cells',Instr.fill place cells vs=some cells'/\Cells I w cells' cs'
 |[],[],cells,cs,cs',_,hc,h=>⟨cells,rfl,by simp only[kT,ao] at h;subst h;exact hc⟩
 |(i,v)::vs,(j,x)::xs,cells,cs,cs',vG,hc,h=>by
  obtain⟨rfl,⟨ox,hx⟩,vG⟩:=vG;simp only[kT] at h;split at h
  .rename_i off sz ag ds hf hds
   split at h
   .rename_i cj
    have hd:=IL hx hds;have LJ:=hp _ _ _ _ hf;obtain⟨cells',e1,e2⟩:=BB flds place hp vs xs _ _ cs' vG (EM hc hd (by omega)) h;refine⟨cells',?_,e2⟩;have h1:v.cells.size=sz:=(by rw[hd.1];exact cj.1);have h2:cells.size=cs.length:=hc.1;simp only[Instr.fill,LJ];rw[if_neg (by simp[h1,h2];omega)];exact e1
   .cases h
  .cases h
 |[],_::_,_,_,_,vG,_,_=>vG.elim
 |_::_,[],_,_,_,vG,_,_=>vG.elim
def sa (I:Ft) (β:Nat->Option Nat) (w:World) (cells:Array Value) (vs:List V):Prop:=cells.size=vs.length/\∀ j x,vs[j]?=some x->PR I β w (cells.getD j undef) x
theorem Cells.toP {cells:Array Value} {cs:List C} (h:Cells I w cells cs):sa I β w cells (cs.map .c):=by refine⟨by rw[au];exact h.1,λj x hx=>?_⟩;simp only[bj,aV] at hx;obtain⟨c,hc,rfl⟩:=hx;simp only[PR];exact h.2 j c hc
theorem ajk {ox:Option Nat} (h:LR base I β w ox v x) {ds:List V} (hx:x.ps=some ds):sa I β w v.cells ds:=by
 have one:∀ c:V,ds=[c]->v.cells=#[v]->PR I β w v c->sa I β w v.cells ds:=by
  rintro c rfl hc hp;rw[hc];refine⟨rfl,λj y hy=>?_⟩;cases j with
  |zero=>simp at hy;subst hy;exact hp
  |succ j=>simp at hy
 cases x<;>simp only[V.ps] at hx<;>try cases hx
 .have:=h.toC
  exact one _ rfl this.notAgg (by simp only[PR];exact this)
 .rename_i cs
  obtain⟨vs,rfl,h1,h2⟩:=h.agg;exact Cells.toP ⟨h1,h2⟩
 .have:=h.1
  exact one _ rfl this.notAgg (by simp only[PR];exact this)
 .have h':=h
  simp only[LR] at h;obtain⟨blk,e1,rfl⟩:=h;exact one _ rfl rfl (by simp only[PR];exact⟨blk,e1,rfl⟩)
 .rename_i f fs cs
  have hsh:∃ g i off,f=.func g/\fs=[.bp i off]/\cs=[]/\ds=[.bm g i off]:=by
   split at hx<;>first | (rename_i e;cases e;cases hx;exact⟨_,_,_,rfl,rfl,rfl,rfl⟩) | (rename_i e;cases e;done) | (cases hx;done) | skip
  obtain⟨g,i,off,rfl,rfl,rfl,rfl⟩:=hsh;simp only[LR] at h;obtain⟨vf,vc,rfl,e1,e2,e3,_⟩:=h;have h0:=e3 0 _ rfl;simp only[PR] at h0;obtain⟨blk,b1,b2⟩:=h0;refine one _ rfl rfl ?_;simp only[PR];refine⟨blk,b1,?_⟩;have hf:vf=#[vf.getD 0 undef]:=by
   apply nc
   .simpa using e1
   .intro j h1 h2
    have:j=0:=(by simp at e1;omega);subst this;simp[Array.getD,h1]
  have hc:vc=#[]:=Array.eq_empty_of_size_eq_zero (by simpa using e2);rw[hf,b2,hc]
 .simp only[LR] at h
  obtain⟨h0,blk,o',c',hc,e1,e2,rfl⟩:=h;exact one _ rfl rfl (by simp only[PR];exact⟨h0,blk,o',c',hc,e1,e2,rfl⟩)
 .simp only[LR] at h
  obtain⟨cells,rfl,h1,h2⟩:=h;exact⟨h1,h2⟩
 .simp only[LR] at h
  obtain⟨blk,e1,rfl⟩:=h;exact one _ rfl rfl (by simp only[PR];exact⟨blk,e1,rfl⟩)
 .simp only[LR] at h
  obtain⟨blk,e1,rfl⟩:=h;exact one _ rfl rfl (by simp only[PR];exact⟨blk,e1,rfl⟩)
 .simp only[LR] at h
  obtain⟨blk,e1,rfl⟩:=h;exact one _ rfl rfl (by simp only[PR];exact⟨blk,e1,rfl⟩)
theorem U4 {cs ds:List V} {off:Nat} (h:off+ds.length<=cs.length) (j:Nat) :
 (AB cs off ds)[j]?=if off<=j/\j<off+ds.length then ds[j - off]? else cs[j]?:=by
 unfold AB;have hto:(cs.take off).length=off:=by simp;omega
 by_cases h1:j<off
 .rw[if_neg (by omega),aI,aA (by omega),cA,if_pos h1]
 .by_cases h2:j<off+ds.length
  .rw[if_pos (by omega),aI,aH (by omega),hto,aA (by omega)]
  .rw[if_neg (by omega),aH (by simp;omega),cK]
   congr 1;simp;omega
theorem ML {cells:Array Value} {cs ds:List V} {off:Nat} (hc:sa I β w cells cs) (hd:sa I β w v.cells ds) (h:off+ds.length<=cs.length) :
 sa I β w (v.cells.zipIdx.foldl (λcs (p:Value×Nat)=>cs.setIfInBounds (off+p.2) p.1) cells) (AB cs off ds):=by
 have hvs:v.cells.size=ds.length:=hd.1;have jf:cells.size=cs.length:=hc.1;rw[<- Array.foldl_toList,Array.toList_zipIdx];obtain⟨h1,h2⟩:=yP off v.cells.toList 0 cells (by simp;omega);refine⟨by rw[h1];simp[AB];omega,λj c hj=>?_⟩;rw[U4 h] at hj;rw[h2 j];simp only[eX,b8,hvs];split at hj
 .rename_i hr
  rw[if_pos hr];have:=hd.2 _ c hj;simpa[ak,aB] using this
 .rename_i hr
  rw[if_neg hr];exact hc.2 j c hj
theorem xr (flds:List (Nat×Nat×Bool)) (place:Nat->Option (Nat×Nat)) (hp:∀ i off sz ag,flds[i]?=some (off,sz,ag)->place i=some (off,sz)) :
 ∀ (vs:List (Nat×Value)) (xs:List (Nat×V)) (cells:Array Value) (cs cs':List V),IM base I β w vs xs->sa I β w cells cs->lx flds xs cs=some cs'->
  ∃ cells',Instr.fill place cells vs=some cells'/\sa I β w cells' cs'
 |[],[],cells,cs,cs',_,hc,h=>⟨cells,rfl,by simp only[lx,ao] at h;subst h;exact hc⟩
 |(i,v)::vs,(j,x)::xs,cells,cs,cs',vG,hc,h=>by
  obtain⟨rfl,⟨ox,hx⟩,vG⟩:=vG;simp only[lx] at h;split at h
  .rename_i off sz ag ds hf hds
   split at h
   .rename_i cj
    have hd:=ajk hx hds;have LJ:=hp _ _ _ _ hf;obtain⟨cells',e1,e2⟩:=xr flds place hp vs xs _ _ cs' vG (ML hc hd (by omega)) h;refine⟨cells',?_,e2⟩;have h1:v.cells.size=sz:=(by rw[hd.1];exact cj.1);have h2:cells.size=cs.length:=hc.1;simp only[Instr.fill,LJ];rw[if_neg (by simp[h1,h2];omega)];exact e1
   .cases h
  .cases h
 |[],_::_,_,_,_,vG,_,_=>vG.elim
 |_::_,[],_,_,_,vG,_,_=>vG.elim
theorem ni (hst:St G n I0 M w0 I β ob s a w):∀ (l:List (Nat×Operand)),IM (Wr M w0) I β w (l.map λ(i,x)=>(i,a.eval x)) (l.map λ(i,x)=>(i,ev G s x))
 |[]=>trivial
 |(_,x)::l=>⟨rfl,⟨_,bP hst x⟩,ni hst l⟩
theorem Gz {T:TypeId} {parts:Array (Nat×Operand)} (hst:St G n I0 M w0 I β ob s a w) (h:jt P T (parts.toList.map λ(i,x)=>(i,ev G s x)) K) :
 ∃ z u,K z/\LR (Wr M w0) I β w none u z/\(Instr.build T (parts.map λ(i,x)=>(i,a.eval x))).run P w=.ok u w:=by
 unfold jt at h;split at h
 .rename_i z flds _ hi
  obtain⟨j,d,h1,h2,h3,_,_,_,hz,lu,_,eH⟩:=bH hi;obtain⟨fs,rfl⟩:=zN h3;simp only at hz lu;split at hz
  .rename_i zv tg
   have Im:∃ places:List (Nat×Nat),fs.toList.mapM (λf=>(P.info? f.type).map λi=>(f.offset,i.size))=some places/\
    ∀ (i off sz:Nat) (ag:Bool),flds[i]?=some (off,sz,ag)->places[i]?=some (off,sz):=by
    subst lu;simp only[yK];have:∀ l:List Field,(∀ f∈l,∃ d,P.underlying f.type=some d)->l.mapM (λf=>(P.info? f.type).map λi=>(f.offset,i.size))=some (l.map λf=>(f.offset,P.cellsOf f.type)):=by
     intro l;induction l with
     |nil=>intro _;simp
     |cons f l ih=>intro hl;obtain⟨d,hd⟩:=hl f (by simp);obtain⟨i,hi⟩:=iy hd;have:=ih (λg hg=>hl g (by simp[hg]));simp[gb,hi,this,ey hi]
    refine⟨_,this fs.toList (λf hf=>Option.isSome_iff_exists.1 (aY.1 eH f hf)),λi off sz ag hf=>?_⟩;simp only[bj,aV] at hf ⊢
    obtain⟨g,hg,he⟩:=hf;simp only[dH] at he;exact⟨g,hg,by rw[he.1,he.2.1]⟩
   obtain⟨places,hp1,hp2⟩:=Im;split at h
   .rename_i cs jf
    obtain⟨cells,e1,e2⟩:=BB flds (λi=>places[i]?) hp2 _ _ _ _ cs (ni hst parts.toList) (lz hz.symm) jf;refine⟨_,.agg cells,h,by simp only[LR];exact .agg _ _ e2.1 e2.2,run_build w T _ cells ?_⟩;unfold Program.built;simp only[h1,h2,tg,hp1];simpa using e1
   .split at h
    .rename_i cs jf
     obtain⟨cells,e1,e2⟩:=xr flds (λi=>places[i]?) hp2 _ _ _ _ cs (ni hst parts.toList) (lz hz.symm).toP jf;refine⟨_,.agg cells,h,by simp only[LR];exact⟨cells,rfl,e2⟩,run_build w T _ cells ?_⟩;unfold Program.built;simp only[h1,h2,tg,hp1];simpa using e1
    .exact h.elim
  .cases hz
 .rename_i m e z _ _ _ _ _ hi
  obtain⟨j,d,h1,h2,h3,_,_,_,hz,_⟩:=bH hi;have hd:=pH h3;subst hd;simp only at hz;split at hz
  .rename_i zv tg
   split at h
   .rename_i je tz
    obtain⟨j',d',jF,nB,_,fb,_⟩:=bH tz;split at h
    .rename_i cs jf
     obtain⟨cells,e1,e2⟩:=BB _ (λi=>some (i*j'.size,j'.size)) (λi off sz ag hf=>by simp only[bj,aV] at hf;obtain⟨q,hq,he⟩:=hf;simp only[dH] at he;have hqi:q=i:=(by have:=(aj.1 hq).2;simpa using this.symm);rw[<- fb,<- he.1,<- he.2.1,hqi]) _ _ _ _ cs (ni hst parts.toList) (lz hz.symm) jf;refine⟨_,.agg cells,h,by simp only[LR];exact .agg _ _ e2.1 e2.2,run_build w T _ cells ?_⟩;unfold Program.built;simp only[h1,h2,tg,jF];simpa using e1
    .split at h
     .rename_i cs jf
      obtain⟨cells,e1,e2⟩:=xr _ (λi=>some (i*j'.size,j'.size)) (λi off sz ag hf=>by simp only[bj,aV] at hf;obtain⟨q,hq,he⟩:=hf;simp only[dH] at he;have hqi:q=i:=(by have:=(aj.1 hq).2;simpa using this.symm);rw[<- fb,<- he.1,<- he.2.1,hqi]) _ _ _ _ cs (ni hst parts.toList) (lz hz.symm).toP jf;refine⟨_,.agg cells,h,by simp only[LR];exact⟨cells,rfl,e2⟩,run_build w T _ cells ?_⟩;unfold Program.built;simp only[h1,h2,tg,jF];simpa using e1
     .exact h.elim
   .exact h.elim
  .cases hz
 .exact h.elim
theorem U5 {u:Value} {c:C} (h:zc u=some c):PR I β w u (nI c):=by
 unfold zc at h;split at h
 .simp only[ao] at h;subst h
  simp only[nI,PR];exact⟨trivial,.nil none 0 (λ_=>rfl),none,rfl⟩
 .split at h
  .rename_i hf
   simp only[ao] at h;subst h;simp only[nI,PR];exact .lit _ hf
  .cases h
theorem U6 {z:Value} {zs:List C} (h:z.cells.toList.mapM zc=some zs):sa I β w z.cells (zs.map nI):=by
 refine⟨by have:=List.mapM_eq_some_length h;simpa using this.symm,λj x hx=>?_⟩;simp only[bj,aV] at hx;obtain⟨c,hc,rfl⟩:=hx;obtain⟨u,hu,hz⟩:=List.mapM_eq_some_get h j c hc;have:z.cells.getD j undef=u:=by rw[aQ] at hu;simp[hu]
 rw[this];exact U5 hz
theorem Ec {T:TypeId} {parts:Array (Nat×Operand)} (hst:St G n I0 M w0 I β ob s a w) (h:pd P T (parts.toList.map λ(i,x)=>(i,ev G s x)) K) :
 ∃ z u,K z/\LR (Wr M w0) I β w none u z/\(Instr.build T (parts.map λ(i,x)=>(i,a.eval x))).run P w=.ok u w:=by
 unfold pd at h;split at h
 .rename_i z flds _ hi
  obtain⟨j,d,h1,h2,h3,_,_,_,hz,lu,_,eH⟩:=bH hi;obtain⟨fs,rfl⟩:=zN h3;simp only at hz lu;split at hz
  .rename_i zv tg
   have Im:∃ places:List (Nat×Nat),fs.toList.mapM (λf=>(P.info? f.type).map λi=>(f.offset,i.size))=some places/\
    ∀ (i off sz:Nat) (ag:Bool),flds[i]?=some (off,sz,ag)->places[i]?=some (off,sz):=by
    subst lu;simp only[yK];have:∀ l:List Field,(∀ f∈l,∃ d,P.underlying f.type=some d)->l.mapM (λf=>(P.info? f.type).map λi=>(f.offset,i.size))=some (l.map λf=>(f.offset,P.cellsOf f.type)):=by
     intro l;induction l with
     |nil=>intro _;simp
     |cons f l ih=>intro hl;obtain⟨d,hd⟩:=hl f (by simp);obtain⟨i,hi⟩:=iy hd;have:=ih (λg hg=>hl g (by simp[hg]));simp[gb,hi,this,ey hi]
    refine⟨_,this fs.toList (λf hf=>Option.isSome_iff_exists.1 (aY.1 eH f hf)),λi off sz ag hf=>?_⟩;simp only[bj,aV] at hf ⊢
    obtain⟨g,hg,he⟩:=hf;simp only[dH] at he;exact⟨g,hg,by rw[he.1,he.2.1]⟩
   obtain⟨places,hp1,hp2⟩:=Im;split at h
   .rename_i cs jf
    obtain⟨cells,e1,e2⟩:=xr flds (λi=>places[i]?) hp2 _ _ _ _ cs (ni hst parts.toList) (U6 hz.symm) jf;refine⟨_,.agg cells,h,by simp only[LR];exact⟨cells,rfl,e2⟩,run_build w T _ cells ?_⟩;unfold Program.built;simp only[h1,h2,tg,hp1];simpa using e1
   .exact h.elim
  .cases hz
 .exact h.elim
end
section
variable {P:Program} {G:Gl} {tr:List Nat} {n:Nat} {I0:Ft} {M:Mx} {w0:World} {I:Ft} {β:Nat->Option Nat} {ob:Loc->Option Nat} {s:S} {a:Act} {w:World} {o:Oper}
 {next:Act->World->Prop} {Q:Exit->Act->World->Prop} {base:Nat->Prop} {v:Value} {x y:V} {K:V->Prop}
theorem mP {α:Type} {sz:Nat}:∀ (es:List (List α)),(∀ e∈es,e.length=sz)->∀ i j,j<sz->es.flatten[i*sz+j]?=(es[i]?).bind (·[j]?)
 |[],_,i,j,_=>by simp
 |e::es,h,i,j,hj=>by
  have he:e.length=sz:=h e (by simp);cases i with
  |zero=>simp only[cF,Nat.zero_mul,aF,bQ,jr];rw[aA (by omega)]
  |succ i=>simp only[cF,cB];rw[aH (by rw[he,eB];omega),<- mP es (λe he=>h e (by simp[he])) i j hj];congr 1;rw[he,eB];omega
theorem zO {sz:Nat} {ds:List C} (hd:ds.length=sz):∀ (es:List (List C)),(∀ e∈es,e.length=sz)->∀ i,i<es.length->(es.set i ds).flatten=oZ es.flatten (i*sz) ds
 |[],_,i,hi=>by simp at hi
 |e::es,h,i,hi=>by
  have he:e.length=sz:=h e (by simp);cases i with
  |zero=>simp[oZ,hd,<- he]
  |succ i=>have ih:=zO hd es (λe he=>h e (by simp[he])) i (by simpa using hi);simp only[jD,cF,ih,oZ];have h1:(i+1)*sz=e.length+i*sz:=(by rw[he,eB];omega);rw[h1,List.take_length_add_append,dM,List.drop_length_add_append];simp[aI]
theorem xt {sz:Nat}:∀ (vs:List (Nat×Value)) (xs:List (Nat×V)) (cells:Array Value) (es es':List (List C)),IM base I β w vs xs->Cells I w cells es.flatten->(∀ e∈es,e.length=sz)->ml sz xs es=some es'->
 ∃ cells',Instr.fill (λi=>some (i*sz,sz)) cells vs=some cells'/\Cells I w cells' es'.flatten/\(∀ e∈es',e.length=sz)/\es'.length=es.length
 |[],[],cells,es,es',_,hc,hs,h=>⟨cells,rfl,by simp only[ml,ao] at h;subst h;exact⟨hc,hs,rfl⟩⟩
 |(i,v)::vs,(j,x)::xs,cells,es,es',vG,hc,hs,h=>by
  obtain⟨rfl,⟨ox,hx⟩,vG⟩:=vG;simp only[ml] at h;split at h
  .rename_i ds hds
   split at h
   .rename_i cj
    have hd:=IL hx hds;have ZC:i*sz+sz<=es.length*sz:=(by rw[<- eB];exact aO _ cj.2);have lu:=bN es hs;have Ar:=EM hc hd (off:=i*sz) (by rw[lu,cj.1];exact ZC);rw[<- zO cj.1 es hs i cj.2] at Ar;obtain⟨cells',e1,e2,e3,e4⟩:=xt vs xs _ _ es' vG Ar (λe he=>by
     rcases List.mem_or_eq_of_mem_set he with he | he
     .exact hs e he
     .rw[he];exact cj.1) h
    refine⟨cells',?_,e2,e3,by simpa using e4⟩;have h1:v.cells.size=sz:=(by rw[hd.1];exact cj.1);have h2:cells.size=es.flatten.length:=hc.1;simp only[Instr.fill];rw[if_neg (by simp[h1,h2,lu];exact ZC)];exact e1
   .cases h
  .cases h
 |[],_::_,_,_,_,vG,_,_,_=>vG.elim
 |_::_,[],_,_,_,vG,_,_,_=>vG.elim
theorem CR.row {I':Ft} {w':World} {blk cap sz:Nat} {cur:Array Value} {T:TypeId} {fr:Nat×Nat} {es:List (List C)} (hh:w'.heap[blk]?=some (.cells cur T fr)) (kX:es.length<=cap) (hs:∀ e∈es,e.length=sz)
 (hc:∀ j c,es.flatten[j]?=some c->j<cur.size/\CR I' w' (cur.getD j undef) c) (hI:∀ o,o<es.length*sz->I' blk o) :
 CR I' w' (.slice (some ⟨blk,0,none⟩) es.length cap) (.sl es):=by
 have lu:=bN es hs;have aie:∀ i j,i<es.length->j<sz->i*sz+j<es.length*sz:=λi j hi hj=>by have:(i+1)*sz<=es.length*sz:=aO _ hi;rw[eB] at this;omega
 refine .sl blk 0 cap sz es (λi j=>cur.getD (i*sz+j) undef) kX hs (λi j hi hj=>?_) (λi j e c he EA=>?_)
 .have bE:=aie i j hi hj
  obtain⟨c,F8⟩:∃ c,es.flatten[i*sz+j]?=some c:=⟨_,ai (by omega)⟩;have aif:=(hc _ c F8).1;rw[aF];refine⟨?_,hI _ bE⟩;rw[fj w' blk (i*sz+j) cur T fr hh];simp[ax aif]
 .have hi:=(aj.1 he).1
  have hj:j<sz:=by rw[<- hs e (aS he)];exact(aj.1 EA).1
  have:=mP es hs i j hj;rw[he] at this;exact(hc _ c (by rw[this];exact EA)).2
theorem St.fresh (hst:St G n I0 M w0 I β ob s a w) {b:Nat} (hb:w.heap.size<=b):(∀ L,ob L≠some b)/\∀ i,β i≠some b:=by
 refine⟨λL hL=>?_,λi hi=>?_⟩
 .have:=(hst.obnd L b hL).1;omega
 .by_cases h:i<s.nb
  .obtain⟨blk,cur,e1,_,e3,_⟩:=hst.bx i h
   rw[hi] at e1;cases e1;have:=e3.lt;omega
  .rw[hst.bnone i (by omega)] at hi;cases hi
theorem SE.finRow (hst:St G n I0 M w0 I β ob s a w) (hd:∀ d,o.dst=some d->d<n) {w1:World} {cur:Array Value} {e:TypeId} {cap sz:Nat} {es:List (List C)}
 (nZ:St G n I0 M w0 I β ob s a w1) (hw:w1.heap.size=w.heap.size) (kX:es.length<=cap) (hm:cap<=maxLen) (jf:cur.size=cap*sz) (hs:∀ x∈es,x.length=sz)
 (hc:∀ j c,es.flatten[j]?=some c->CR I w (cur.getD j undef) c) (lQ:∀ b o,I b o->w1.cell? ⟨b,o,none⟩=w.cell? ⟨b,o,none⟩) :
 SE G n I0 M w0 (s.after tr o (.ow (some (e,sz)) es)) (a.put o.dst (.slice (some ⟨w1.heap.size,0,none⟩) es.length cap)) (w1.alloc (.cells cur e)):=by
 have hg:=nZ.grow (w':=w1.alloc (.cells cur e)) (I':=λb k=>I b k∨(b=w1.heap.size/\k<es.length*sz)) (pz w1 _ none).toT (λ_ _ h=>.inl h) (λb k hb=>by
  rcases hb with hb | hb
  .exact .inl hb
  .exact .inr ⟨by omega,by rw[en];omega⟩)
 have lu:=bN es hs;have kE:∀ b o,I b o->(I b o∨(b=w1.heap.size/\o<es.length*sz))/\(w1.alloc (.cells cur e)).cell? ⟨b,o,none⟩=w.cell? ⟨b,o,none⟩:=λb o h=>⟨.inl h,by rw[<- lQ b o h];exact dP (a:=⟨b,o,none⟩) (ee w1 _ b (by rw[hw];exact hst.ibnd b o h))⟩;have ko:es.length*sz<=cap*sz:=aO _ kX;have jq:CR (λb k=>I b k∨(b=w1.heap.size/\k<es.length*sz)) (w1.alloc (.cells cur e)) (.slice (some ⟨w1.heap.size,0,none⟩) es.length cap) (.sl es):=
  CR.row (ga w1 _) kX hs (λj c hj=>⟨by have:=(aj.1 hj).1;rw[jf];omega,(hc j c hj).mono kE⟩) (λk hk=>.inr ⟨rfl,hk⟩)
 refine .fin hg hd (o':=some w1.heap.size) (by
  simp only[LR];refine⟨jq,.inr ⟨e,w1.heap.size,cap,cur,sz,rfl,rfl,rfl,.inl nZ.below.size,ga w1 _,kX,hm,jf,hs,λk hk=>?_⟩⟩;rcases hk with hk | hk
  .have:=nZ.ibnd _ _ hk;omega
  .exact hk.2) (λb hb=>?_)
 simp only[ao] at hb;subst hb;obtain⟨f1,f2⟩:=nZ.fresh (ab _);exact⟨⟨by rw[en];omega,.inl nZ.below.size⟩,f2,λL hL=>absurd hL (f1 L)⟩
theorem SE.finRowH (hst:St G n I0 M w0 I β ob s a w) (hd:∀ d,o.dst=some d->d<n) {w1:World} {cur:Array Value} {e:TypeId} {cap sz:Nat} {es:List (List C)}
 (nZ:St G n I0 M w0 I β ob s a w1) (hw:w1.heap.size=w.heap.size) (kX:es.length<=cap) (hm:cap<=maxLen) (jf:cur.size=cap*sz) (hs:∀ x∈es,x.length=sz)
 (hc:∀ j c,es.flatten[j]?=some c->CR I w (cur.getD j undef) c) (lQ:∀ b o,I b o->w1.cell? ⟨b,o,none⟩=w.cell? ⟨b,o,none⟩) :
 SE G n I0 M w0 (s.after tr o (.hh none (some (e,sz)) es)) (a.put o.dst (.slice (some ⟨w1.heap.size,0,none⟩) es.length cap)) (w1.alloc (.cells cur e)):=by
 have hg:=nZ.grow (w':=w1.alloc (.cells cur e)) (I':=λb k=>I b k∨(b=w1.heap.size/\k<(es.length - 1)*sz)) (pz w1 _ none).toT (λ_ _ h=>.inl h) (λb k hb=>by
  rcases hb with hb | hb
  .exact .inl hb
  .exact .inr ⟨by omega,by rw[en];omega⟩)
 have lu:=bN es hs;have kE:∀ b o,I b o->(I b o∨(b=w1.heap.size/\o<(es.length - 1)*sz))/\(w1.alloc (.cells cur e)).cell? ⟨b,o,none⟩=w.cell? ⟨b,o,none⟩:=λb o h=>⟨.inl h,by rw[<- lQ b o h];exact dP (a:=⟨b,o,none⟩) (ee w1 _ b (by rw[hw];exact hst.ibnd b o h))⟩;refine .fin hg hd (o':=some w1.heap.size) (by
  simp only[LR];refine⟨(λ_ h=>by cases h),e,w1.heap.size,cap,cur,sz,rfl,rfl,rfl,.inl nZ.below.size,ga w1 _,kX,hm,jf,hs,λj c hj=>(hc j c hj).mono kE,λo ho=>.inr ⟨rfl,ho⟩,λk hk=>?_⟩;rcases hk with hk | hk
  .have:=nZ.ibnd _ _ hk;omega
  .exact hk.2) (λb hb=>?_)
 simp only[ao] at hb;subst hb;obtain⟨f1,f2⟩:=nZ.fresh (ab _);exact⟨⟨by rw[en];omega,.inl nZ.below.size⟩,f2,λL hL=>absurd hL (f1 L)⟩
theorem SE.finRowG (hst:St G n I0 M w0 I β ob s a w) (hd:∀ d,o.dst=some d->d<n) {w1:World} {cur:Array Value} {e:TypeId} {cap sz:Nat} {es:List (List C)}
 (nZ:St G n I0 M w0 I β ob s a w1) (hw:w1.heap.size=w.heap.size) (kX:es.length<=cap) (hm:cap<=maxLen) (jf:cur.size=cap*sz) (hs:∀ x∈es,x.length=sz)
 (hc:∀ j c,es.flatten[j]?=some c->CR I w (cur.getD j undef) c) (kg:∀ u∈cur,u.oneCell'=true) (lQ:∀ b o,I b o->w1.cell? ⟨b,o,none⟩=w.cell? ⟨b,o,none⟩) :
 SE G n I0 M w0 (s.after tr o (.gs none (some (e,sz)) es)) (a.put o.dst (.slice (some ⟨w1.heap.size,0,none⟩) es.length cap)) (w1.alloc (.cells cur e)):=by
 have hg:=nZ.grow (w':=w1.alloc (.cells cur e)) (I':=I) (pz w1 _ none).toT (λ_ _ h=>h) (λb k hb=>.inl hb);have lu:=bN es hs;have kE:∀ b o,I b o->I b o/\(w1.alloc (.cells cur e)).cell? ⟨b,o,none⟩=w.cell? ⟨b,o,none⟩:=λb o h=>⟨h,by rw[<- lQ b o h];exact dP (a:=⟨b,o,none⟩) (ee w1 _ b (by rw[hw];exact hst.ibnd b o h))⟩;refine .fin hg hd (o':=some w1.heap.size) (by simp only[LR];refine⟨(λ_ h=>by cases h),.inr ⟨e,w1.heap.size,cap,cur,sz,rfl,rfl,rfl,.inl nZ.below.size,ga w1 _,kX,hm,jf,hs,λj c hj=>(hc j c hj).mono kE,kg,λk hk=>?_⟩⟩;have:=nZ.ibnd _ _ hk;omega) (λb hb=>?_);simp only[ao] at hb;subst hb;obtain⟨f1,f2⟩:=nZ.fresh (ab _);exact⟨⟨by rw[en];omega,.inl nZ.below.size⟩,f2,λL hL=>absurd hL (f1 L)⟩
theorem SE.finRowX (hst:St G n I0 M w0 I β ob s a w) (hd:∀ d,o.dst=some d->d<n) {w1:World} {cur:Array Value} {e:TypeId} {cap sz:Nat} {es:List (List C)}
 (nZ:St G n I0 M w0 I β ob s a w1) (hw:w1.heap.size=w.heap.size) (hce:cap=es.length) (kX:es.length<=cap) (hm:cap<=maxLen) (jf:cur.size=cap*sz) (hs:∀ x∈es,x.length=sz)
 (hc:∀ j c,es.flatten[j]?=some c->CR I w (cur.getD j undef) c) (lQ:∀ b o,I b o->w1.cell? ⟨b,o,none⟩=w.cell? ⟨b,o,none⟩) :
 SE G n I0 M w0 (s.after tr o (.ow none es)) (a.put o.dst (.slice (some ⟨w1.heap.size,0,none⟩) es.length cap)) (w1.alloc (.cells cur e)):=by
 have hg:=nZ.grow (w':=w1.alloc (.cells cur e)) (I':=λb k=>I b k∨(b=w1.heap.size/\k<es.length*sz)) (pz w1 _ none).toT (λ_ _ h=>.inl h) (λb k hb=>by
  rcases hb with hb | hb
  .exact .inl hb
  .exact .inr ⟨by omega,by rw[en];omega⟩)
 have lu:=bN es hs;have kE:∀ b o,I b o->(I b o∨(b=w1.heap.size/\o<es.length*sz))/\(w1.alloc (.cells cur e)).cell? ⟨b,o,none⟩=w.cell? ⟨b,o,none⟩:=λb o h=>⟨.inl h,by rw[<- lQ b o h];exact dP (a:=⟨b,o,none⟩) (ee w1 _ b (by rw[hw];exact hst.ibnd b o h))⟩;have ko:es.length*sz<=cap*sz:=aO _ kX;have jq:CR (λb k=>I b k∨(b=w1.heap.size/\k<es.length*sz)) (w1.alloc (.cells cur e)) (.slice (some ⟨w1.heap.size,0,none⟩) es.length cap) (.sl es):=
  CR.row (ga w1 _) kX hs (λj c hj=>⟨by have:=(aj.1 hj).1;rw[jf];omega,(hc j c hj).mono kE⟩) (λk hk=>.inr ⟨rfl,hk⟩)
 exact .fin hg hd (o':=none) ⟨jq,.inl ⟨rfl,rfl,_,by rw[hce]⟩⟩ (λ_ h=>by cases h)
theorem mF (w:World) (t e:TypeId) (len:Nat) (parts:Array (Nat×Value)) (cells:Array Value) (ie:TypeInfo) (z:Value)
 (hu:P.underlying t=some (.slice e)) (mc:P.info? e=some ie) (hz:ie.zero=some z) (am5:len*ie.size<=2 ^ 24)
 (h:Instr.fill (λi=>some (i*ie.size,ie.size)) ((Array.range (len*ie.size)).map (z.cells[· % z.cells.size]!)) parts.toList=some cells) :
 (Instr.buildSlice t len parts).run P w=.ok (.slice (some ⟨w.heap.size,0,none⟩) len len) (w.alloc (.cells cells e)):=by
 by_cases wX:len*ie.size=0
 .have h0:((Array.range (len*ie.size)).map (z.cells[· % z.cells.size]!))=#[]:=by rw[wX];simp
  rw[h0] at h;have h0':((Array.range (len*ie.size)).map ((#[]:Array Value)[· % (#[]:Array Value).size]!))=#[]:=by rw[wX];simp
  have hn:¬ 16777216<len*ie.size:=by omega
  unfold Instr.buildSlice;simp only[aK,aR hu,aw,sizeOf,typeInfo,run_program,mc,bg];rw[if_neg (by simpa using hn),if_pos wX];simp only[aK,bg,aw,h0',h];simp[newRow]
 .exact run_buildSlice w t e len parts cells ie z hu mc hz (by omega) wX h
theorem rA {z:Value} {zs:List C} (hz:Cells I w z.cells zs) (wX:0<zs.length) (len:Nat) :
 Cells I w ((Array.range (len*zs.length)).map (z.cells[· % z.cells.size]!)) (List.replicate len zs).flatten:=by
 refine⟨by simp,λj c hc=>?_⟩;have hj:j<len*zs.length:=by have:=(aj.1 hc).1;simpa using this
 have hjm:j % zs.length<zs.length:=Nat.mod_lt _ wX;have am4:j / zs.length<len:=by rw[Nat.div_lt_iff_lt_mul wX];exact hj
 have e1:j=j / zs.length*zs.length+j % zs.length:=by rw[kM];exact(Nat.div_add_mod j zs.length).symm
 have EA:zs[j % zs.length]?=some c:=by rw[e1,mP (sz:=zs.length) _ (by intro e he;rw[fy he]) _ _ hjm] at hc;rw[List.getElem?_replicate,if_pos am4] at hc;simpa using hc
 have fO:z.cells.size=zs.length:=hz.1;have:((Array.range (len*zs.length)).map (z.cells[· % z.cells.size]!)).getD j undef=z.cells.getD (j % zs.length) undef:=by simp[hj,fO,getElem!_def,ax (show j % zs.length<z.cells.size by omega)]
 rw[this];exact hz.2 _ c EA
theorem AD {T:TypeId} {len:Nat} {parts:Array (Nat×Operand)} {K:S->Prop} {d:Option Tmp} (hst:St G n I0 M w0 I β ob s a w)
 (h:cH P T len (parts.toList.map λ(i,x)=>(i,ev G s x)) (US s d len len K)) :
 ∃ (e:TypeId) (sz:Nat) (es:List (List C)) (cells:Array Value),K ({ s with bx:=up s.bx s.nb (es.flatten.map .c),nb:=s.nb+1 }.put d (.ms s.nb 0 len len sz))/\
  (Instr.buildSlice T len (parts.map λ(i,x)=>(i,a.eval x))).run P w=.ok (.slice (some ⟨w.heap.size,0,none⟩) len len) (w.alloc (.cells cells e))/\Cells I w cells es.flatten:=by
 unfold cH at h;split at h
 .rename_i e _ _ _ _ _ _ hi
  obtain⟨j,d,h1,h2,h3,_⟩:=bH hi;have qy:=dL h3;subst qy;split at h
  .rename_i sz _ _ z _ _ tz
   obtain⟨j',d',jF,nB,_,fb,_,_,mE,_⟩:=bH tz;simp only at mE fb;obtain⟨⟨hp,tH,hsm⟩,h⟩:=h;split at mE
   .rename_i zv tg
    split at h
    .rename_i es px
     have sM:=lz (I:=I) (w:=w) mE.symm;obtain⟨cells,e1,e2,e3,e4⟩:=xt (sz:=sz) _ _ _ (List.replicate len z) es (ni hst parts.toList) (rA sM (by omega) len) (by intro q hq;rw[fy hq];exact tH) px;have bM:=mF (P:=P) w T e len (parts.map λ(i,x)=>(i,a.eval x)) cells j' zv h2 jF tg (by rw[<- fb];omega) (by rw[<- fb,<- tH];rw[<- tH] at e1;simpa using e1);by_cases oM:len=0
     .rw[if_pos oM] at h;exact h.elim
     .rw[if_neg oM] at h;exact⟨e,sz,es,cells,h,bM,e2⟩
    .exact h.elim
   .cases mE
  .exact h.elim
 .exact h.elim
theorem IP {T:TypeId} {l c:Operand} {K:Nat->Nat->Nat->List C->Prop} (hst:St G n I0 M w0 I β ob s a w) (h:ry P T (ev G s l) (ev G s c) K) :
 ∃ (e:TypeId) (p m sz:Nat) (z:List C) (cells:Array Value),K p m sz z/\p<=m/\
  (Instr.makeSlice T (a.eval l) (a.eval c)).run P w=.ok (.slice (some ⟨w.heap.size,0,none⟩) p m) (w.alloc (.cells cells e))/\Cells I w cells (List.replicate m z).flatten:=by
 unfold ry at h;split at h
 .rename_i e _ _ _ _ _ _ kl p kc m hi hl hc
  obtain⟨j,d,h1,h2,h3,_⟩:=bH hi;have qy:=dL h3;subst qy;split at h
  .rename_i sz by_ _ z _ _ tz
   obtain⟨j',d',jF,nB,_,fb,rW,_,mE,_⟩:=bH tz;simp only at mE fb rW;obtain⟨⟨hp,tH,h0,ko,hb,h63⟩,h⟩:=h;split at mE
   .rename_i zv tg
    have sM:=lz (I:=I) (w:=w) mE.symm;have e1:a.eval l=.int kl p:=(by have:=bP hst l;rw[hl] at this;exact this.lit);have e2:a.eval c=.int kc m:=(by have:=bP hst c;rw[hc] at this;exact this.lit);refine⟨e,_,_,sz,z,_,h,by omega,by rw[e1,e2];exact run_make w T e j' zv h2 jF tg kl kc p m h0 ko (by rw[<- rW];exact hb) h63,?_⟩;rw[<- fb,<- tH];exact rA sM (by omega) m.toNat
   .cases mE
  .exact h.elim
 .exact h.elim
theorem xu {T:TypeId} {len:Nat} {parts:Array (Nat×Operand)} (hst:St G n I0 M w0 I β ob s a w) (hd:∀ d,o.dst=some d->d<n)
 (h:cH P T len (parts.toList.map λ(i,x)=>(i,ev G s x)) K) :
 ∃ z u w',K z/\(Instr.buildSlice T len (parts.map λ(i,x)=>(i,a.eval x))).run P w=.ok u w'/\SE G n I0 M w0 (s.after tr o z) (a.put o.dst u) w':=by
 unfold cH at h;split at h
 .rename_i e _ _ _ _ _ _ hi
  obtain⟨j,d,h1,h2,h3,_⟩:=bH hi;have qy:=dL h3;subst qy;split at h
  .rename_i sz _ _ z _ _ tz
   obtain⟨j',d',jF,nB,_,fb,_,_,mE,_⟩:=bH tz;simp only at mE fb;obtain⟨⟨hp,tH,hsm⟩,h⟩:=h;split at mE
   .rename_i zv tg
    split at h
    .rename_i es px
     have sM:=lz (I:=I) (w:=w) mE.symm;obtain⟨cells,e1,e2,e3,e4⟩:=xt (sz:=sz) _ _ _ (List.replicate len z) es (ni hst parts.toList) (rA sM (by omega) len) (by intro q hq;rw[fy hq];exact tH) px;have Qo:es.length=len:=(by simpa using e4);have bM:=mF (P:=P) w T e len (parts.map λ(i,x)=>(i,a.eval x)) cells j' zv h2 jF tg (by rw[<- fb];omega) (by rw[<- fb,<- tH];rw[<- tH] at e1;simpa using e1);by_cases oM:len=0
     .rw[if_pos oM] at h
      refine⟨_,_,_,h,bM,?_⟩;have Ip:es=[]:=dx (by omega);subst Ip;subst oM;refine .fin (hst.allocOwn _) hd (o':=none) ⟨?_,.inl ⟨rfl,rfl,_,rfl⟩⟩ (λ_ h=>by cases h);exact .sl _ _ 0 0 [] (λ_ _=>undef) (ab _) (by simp) (by simp) (by simp)
     rw[if_neg oM] at h;refine⟨_,_,_,h,bM,?_⟩;have:=SE.finRow (tr:=tr) (o:=o) (e:=e) (cap:=len) (sz:=sz) (cur:=cells) (es:=es) hst hd hst rfl (by omega) (by have:len<=len*sz:=Nat.le_mul_of_pos_right _ hp;unfold maxLen;omega) (by rw[e2.1,bN es e3,Qo]) e3 e2.2 (λ_ _ _=>rfl);rw[Qo] at this;exact this
    .exact h.elim
   .cases mE
  .exact h.elim
 .exact h.elim
theorem QN {q:Tmp} (hq:q<a.tmps.size):a.put (some q) (a.tmps.getD q undef)=a:=by
 have:a.tmps.set! q (a.tmps.getD q undef)=a.tmps:=by
  apply nc
  .simp[cx]
  .intro i h1 h2
   simp only[cx,gw h2];split
   .rename_i e;subst e;simp[Array.getD,h2]
   .rfl
 show(⟨a.tmps.set! q (a.tmps.getD q undef),a.defers⟩:Act)=a;rw[this]
theorem SE.toSx {u:Value} {es:List (List C)} {w':World} (hd:∀ d,o.dst=some d->d<n) (h:SE G n I0 M w0 (s.after tr o (.ow none es)) (a.put o.dst u) w'):SE G n I0 M w0 (s.after tr o (.c (.sx es))) (a.put o.dst u) w':=by
 unfold S.after at h ⊢
 cases lP:o.dst with
 |none=>rw[lP] at h;exact h
 |some d=>
  rw[lP] at h;obtain⟨I,β,ob,hst⟩:=h;have hf:=hst.fr d;simp only[S.put,cg,LR] at hf;obtain⟨h1,h2⟩:=hf;have h3:∃ aa,(a.put (some d) u).tmps.getD d undef=.slice aa es.length es.length:=by
   rcases h2 with⟨_,_,h2⟩ | ⟨_,_,_,_,_,_,h2,_⟩
   .exact h2
   .cases h2
  obtain⟨aa,h3⟩:=h3;have h4:=hst.put d (hd d lP) (v:=(a.put (some d) u).tmps.getD d undef) (x:=.c (.sx es)) (o:=none) (by rw[h3] at h1 ⊢;exact .ofC (.sx aa es h1)) FreeOb.nothing;rw[QN (by rw[hst.size];exact hd d lP)] at h4;have e:(((s.use (cn tr o)).put (some d) (.ow none es)).put (some d) (.c (.sx es)))=(s.use (cn tr o)).put (some d) (.c (.sx es)):=by simp only[S.put];congr 1;funext r;simp only[up];split<;>rfl
  rw[e] at h4;exact⟨_,_,_,h4⟩
theorem Ed {T:TypeId} {len:Nat} {parts:Array (Nat×Operand)} (hst:St G n I0 M w0 I β ob s a w) (hd:∀ d,o.dst=some d->d<n)
 (h:cH P T len (parts.toList.map λ(i,x)=>(i,ev G s x)) (exK K)) :
 ∃ z u w',K z/\(Instr.buildSlice T len (parts.map λ(i,x)=>(i,a.eval x))).run P w=.ok u w'/\SE G n I0 M w0 (s.after tr o z) (a.put o.dst u) w':=by
 unfold cH at h;split at h
 .rename_i e _ _ _ _ _ _ hi
  obtain⟨j,d,h1,h2,h3,_⟩:=bH hi;have qy:=dL h3;subst qy;split at h
  .rename_i sz _ _ z _ _ tz
   obtain⟨j',d',jF,nB,_,fb,_,_,mE,_⟩:=bH tz;simp only at mE fb;obtain⟨⟨hp,tH,hsm⟩,h⟩:=h;split at mE
   .rename_i zv tg
    split at h
    .rename_i es px
     have sM:=lz (I:=I) (w:=w) mE.symm;obtain⟨cells,e1,e2,e3,e4⟩:=xt (sz:=sz) _ _ _ (List.replicate len z) es (ni hst parts.toList) (rA sM (by omega) len) (by intro q hq;rw[fy hq];exact tH) px;have Qo:es.length=len:=(by simpa using e4);have bM:=mF (P:=P) w T e len (parts.map λ(i,x)=>(i,a.eval x)) cells j' zv h2 jF tg (by rw[<- fb];omega) (by rw[<- fb,<- tH];rw[<- tH] at e1;simpa using e1);by_cases oM:len=0
     .rw[if_pos oM] at h
      exact h.elim
     rw[if_neg oM] at h;have:=SE.finRowX (tr:=tr) (o:=o) (e:=e) (cap:=len) (sz:=sz) (cur:=cells) (es:=es) hst hd hst rfl Qo.symm (by omega) (by have:len<=len*sz:=Nat.le_mul_of_pos_right _ hp;unfold maxLen;omega) (by rw[e2.1,bN es e3,Qo]) e3 e2.2 (λ_ _ _=>rfl);rw[Qo] at this;rcases h with h | h
     .exact⟨_,_,_,h,bM,this⟩
     .exact⟨_,_,_,h,bM,SE.toSx hd this⟩
    .exact h.elim
   .cases mE
  .exact h.elim
 .exact h.elim
theorem EN:∀ (vs:List (Nat×Value)) (cells:Array Value) (k:Nat),vs.map (·.1)=List.range' k vs.length->(∀ p∈vs,p.2.cells=#[p.2])->k+vs.length<=cells.size->
 ∃ cells',Instr.fill (λi=>some (i*1,1)) cells vs=some cells'/\cells'.size=cells.size/\∀ j,cells'.getD j undef=if k<=j/\j<k+vs.length then((vs.map (·.2)).getD (j - k) undef) else cells.getD j undef
 |[],cells,k,_,_,_=>⟨cells,rfl,rfl,λj=>by rw[if_neg (by simp)]⟩
 |(i,v)::vs,cells,k,hi,hc,hl=>by
  simp only[bA,aC,iu,cN] at hi;obtain⟨rfl,hi⟩:=hi;have hv:v.cells=#[v]:=hc (i,v) (bJ ..);simp only[aC] at hl;obtain⟨cells',h1,h2,h3⟩:=EN vs (cells.setIfInBounds i v) (i+1) hi (λp hp=>hc p (aT _ hp)) (by rw[dy];omega);refine⟨cells',?_,by rw[h2,dy],λj=>?_⟩
  .simp only[Instr.fill,hv]
   rw[if_neg (by simp;omega)];simpa using h1
  .rw[h3 j]
   by_cases hj:j=i
   .subst hj
    rw[if_neg (by omega),if_pos (by simp),mj _ _ _ (by omega)];simp
   .rw[getD_set_ne _ _ _ _ hj]
    by_cases h4:i<=j/\j<i+((i,v)::vs).length
    .simp only[aC] at h4
     rw[if_pos (by omega),if_pos (by simp only[aC];omega)];have:j - i=(j - (i+1))+1:=(by omega);rw[this];simp
    .simp only[aC] at h4
     rw[if_neg (by omega),if_neg (by simp only[aC];omega)]
