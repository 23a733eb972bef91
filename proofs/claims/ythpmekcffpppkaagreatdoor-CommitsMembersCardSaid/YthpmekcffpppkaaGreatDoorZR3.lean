/- Texts of the proof, part 3 of 8 (Mp Kh Ke Rh Ki Ks Kp Pb Pc Kj Kk Kl Km Kn Ko Ku Kv Kw Kx Ky Kz Ws Df Ea Eb Ec Ed Ee Wb Rq Wc Wd Wt We Wf). -/
import Derived.Maps.OwnSet
import Derived.WalkKit
import Derived.Lib.Hide
import Derived.Lib.SlKeysI
import Derived.Sort.MapsRangeIn
import Derived.RegionIn
import Derived.Carry
import Derived.Deep.QuietTactic
import Derived.BigQuiet
import Derived.Shelf.Small.Bits
import Derived.Shelf.Small.Wraps
import Derived.Shelf.Strconv.Itoa0
import Derived.Shelf.LaysM
import Derived.Shelf.Bytes.Len
import Derived.Shelf.Bytes.TryGrow
import Derived.Shelf.Bytes.GrowSliceCatch
import Derived.Shelf.Bytes.GrowSlice
import Derived.Shelf.Bytes.Reset
import Derived.Shelf.Bytes.Bytes
import Derived.Shelf.Sort.Plain
import Derived.Shelf.Bytes.ResetKept
import Derived.Shelf.Bytes.LenAt
import Derived.Shelf.Bytes.TryGrowAt
import Derived.Shelf.Bytes.GrowRow0At
import Derived.Shelf.Bytes.GrowRowAt
import Derived.Shelf.Bytes.GrowNilAt
import Derived.Shelf.Bytes.GrowAt
import Derived.Shelf.Bytes.WriteAt
import Derived.Shelf.Bits.Mul64
import Derived.Ground.Names2Prog
import Derived.Shelf.Slices.CompactI
import Derived.Shelf.Slices.SearchI
import Derived.Shelf.Slices.Cells
import Derived.Shelf.Slices.In.SortNone
import Derived.Shelf.Bytes.SlEqualAll
import Derived.Shelf.Bytes.Small
import Derived.Test.YthpmekcffpppkaaGreatDoorRows
import Derived.Lib.SlicesCompact
import Derived.RangeFuncNested
import Derived.RangeFuncBound
import Derived.RangeFuncCalls
import Derived.RangeFuncLeaves
import Derived.Shelf.Abstract
import Derived.Shelf.RegionOpen
import Derived.OwnWalkIn
import Derived.TacticsInMore
import Derived.LoopNIn
import Derived.LoopIn
import Derived.Maps.AppendAt
import Derived.Deep.AppendLies
import Derived.Deep.RegionHeld3
import Derived.Handy
import Derived.RangeFuncOwn
import Derived.RangeFuncBox
import Derived.RangeFuncWrites
import Derived.BigFrameIn
import Derived.Sort.CutIn
import Derived.Deep.MidRow
import Derived.Lib.SlBytesConst
import Derived.Laws.Bits64b
import Derived.LoopTactic
import Derived.Test.YthpmekcffpppkaaGreatDoorZR1
import Derived.Test.YthpmekcffpppkaaGreatDoorZR2
namespace Go.Proofs.YthpmekcffpppkaaGreatDoor
set_option maxHeartbeats 64000000
set_option maxRecDepth 100000
set_option linter.unusedVariables false
set_option linter.unusedSimpArgs false
open Go.RowKit
open Go.Proofs.Tryz
open Go.Value renaming int->I
open Go.IntKind renaming i64->N,u32->jz,u64->jL
open _root_.Option renaming some->T,none->A,isSome_iff_exists->qD,eq_none_or_eq_some->qN,isSome_none->qY
open Go.Obj renaming cells->ic
open Go.Value renaming slice->ih,pointer->jj,tuple->jk,agg->jm,string->jq
open Go renaming World->ii,Value->jc,Boxed->je,Calls->jg,undef->ji,TypeId->jp,Addr->jF,maxLen->jI,results_none->jJ,Oper->jO,bodyPost_ret->jP,wp_region_noPanic->jQ,Program->jT,callsIn_wide->j5,grownBy_setCell'->j6,execOp->j9,wpList->kl,run_takeDeferred->km,Operand->lr,wpList_plain->mb,callsIn_of_wp->ms,bodyPost_end->qd,info_parts->qh,callsIn_of_wp_marks->qs,wpList_load_row->qv,ownsRow_putObj->qI,wpList_append_own->qJ
open Go.RowKit renaming Hid->ja,Below->jb,ownsRow_setCell_below->qu
open Go.Proofs.Tryz renaming prog->jd
open Go.Ending renaming returned->jf
open _root_.Nat renaming le_refl->jh,le_trans->jr,zero_le->jw,lt_of_lt_of_le->jD,reduceAdd->jX,reduceSub->jY,pow_succ->kw,mul_comm->lv,eq_zero_or_pos->oi,lt_or_ge->oj,mod_eq_of_lt->ow,zero_add->qa,mod_lt->qb,pow_le_pow_right->ql,mul_le_mul_right->qw,lt_or_eq_of_le->qy,min_eq_left->qB,mul_one->qC,add_assoc->qG,one_le_two_pow->qP,le_of_lt_succ->qS,xor_lt_two_pow->qT
open Go.Proofs.Tryz renaming underlying3->jl,underlying4->jK,underlying152->jU,func174->mz,ntmps174->nn,func219->qe,underlying31->qg,underlying59->qi,underlying193->qt,underlying53->qK,underlying173->qL
open Go.RowKit.Below renaming refl->jn,heap_alloc->ju,mono->lw,heap_setCell->qz
open Go.Proofs renaming intOf->jo,enters_of->qf
open Go.Value renaming int->js,slice->jE,oneCell'->j8,ownBlock->lm,pointer->qF
open Go.World renaming alloc_heap_new->jt,size_alloc->jv,cell?->jH,ownsRow_nil->j7,putObj_heap_other->qk,frozen?->qE,grownBy_alloc->qM,there_alloc->q8
open _root_.Array renaming getElem?_eq_some_iff->jy,replicate_succ->jZ,replicate_zero->j0,getElem?_toList->q4
open _root_.List renaming length_cons->jA,append_assoc->jC,length_append->jG,range->jN,nil_append->jR,cons_append->jS,size_toArray->jV,length_nil->jW,push_toArray->j1,append_toArray->j3,getD->j4,map_append->ki,take_succ_eq_append_getElem->kn,length_map->lo,append_nil->ob,replicate->ol,mem_map->oo,getElem_mem->pa,take_of_length_le->pz,getElem?_eq_getElem->qj,eq_nil_of_length_eq_zero->qm,mem_append->qx,length_filter_le->qA,map_cons->qH,take_length->qO,mem_singleton->qQ,length_mergeSort->qW,getElem?_take_of_lt->qX,range_succ->q9,mem_of_getElem?->rn
open _root_.BitVec renaming ofNat->jB,toNat_ofNat->o4,ofInt_natCast->qU,toNat_xor->qV,ofInt->ri
open Go.NoPanic renaming normal->jM
open Go.IntKind renaming wrap_i64->p6,u64->qc,i64->qn,wrap_u64->qo
open _root_.Bool renaming false_eq_true->qZ
open _root_.Int renaming eq_ofNat_of_zero_le->q5,toNat_natCast->q6
section
open Go Go.RowKit Go.Maps
def I64(x:Int):Prop:=(Lit.int .i64 x).wf=true
theorem I64.of{x:Int}(h: -9223372036854775808<=x/\x<=9223372036854775807):I64 x:=WalkArith.wf_i64 Y
structure EKind(P:jT)(e:jp)(α:Type) where
 ev:α->jc
 el:α->Lit
 z0:α
 ok:α->Prop
 reads:∀x,ok x->plainElem (H:=Unit) P e (ev x)=T (.lit (el x),[])
 inv:∀v z,plainElem (H:=Unit) P e v=T z->∃x,ok x/\v=ev x/\z=(.lit (el x),[])
 inj:∀x y,el x=el y->x=y
 ok0:ok z0
section
variable {P:jT} {k e:jp}
def da(he:P.underlying e=T (.int .i64)):EKind P e Int where
 ev:=.int .i64
 el:=.int .i64
 z0:=0
 ok:=I64
 reads:=λx h=>plainElem_int he h
 inv:=λv z h=>by obtain⟨a,b,c,d⟩:=plainElem_int_inv he h;exact⟨a,d,b,c⟩
 inj:=λx y h=>by cases h;rfl
 ok0:=by unfold I64;decide
theorem Me{P:jT}{e:jp}(he:P.underlying e=T .bool){v:jc}{z:DataW Unit×List MemPlace}(h:plainElem P e v=T z):∃a,v=.bool a/\z=(.lit (.bool a),[]):=by
 unfold plainElem at h;rw[he]at h
 cases v<;>simp at h
 exact⟨_,rfl,h.symm⟩
def fO(he:P.underlying e=T .bool):EKind P e Bool where
 ev:=.bool
 el:=.bool
 z0:=false
 ok:=λ_=>True
 reads:=λx _=>plainElem_bool he x
 inv:=λv z h=>by obtain⟨a,b,c⟩:=Me he h;exact⟨a,trivial,b,c⟩
 inj:=λx y h=>by cases h;rfl
 ok0:=trivial
variable {α:Type} {E:EKind P e α}
def aH(E:EKind P e α)(k:jp)(w:ii)(b n:Nat)(f:Int->Option α):Prop:=
 ∃D:DataW Unit,w.ownsMap P k (plainElem P e) b n D/\∀x,I64 x->has D (.int .i64 x)=(f x).isSome/\∀v,f x=T v->∀z,D.atKey (.int .i64 x) z=.lit (E.el v)
theorem Ac{x:Int}(h:I64 x):WideAt.IsKeyLit (.int .i64 x):=trivial
theorem aH.made(E:EKind P e α)(k:jp)(w:ii):aH E k (w.alloc (.map #[] 0)) w.heap.size 0 (λ_=>A):=
 ⟨.map [],World.ownsMap_made _ _ _ _,λx _=>⟨rfl,λv h=>by cases h⟩⟩
theorem aH.lt{w:ii}{b n:Nat}{f:Int->Option α}(h:aH E k w b n f):b<w.heap.size:=by
 obtain⟨D,a,_⟩:=h;exact a.lt
theorem aH.mono{w:ii}{b n n':Nat}{f:Int->Option α}(h:aH E k w b n f)(a:n<=n'):aH E k w b n' f:=by
 obtain⟨D,c,d⟩:=h;exact⟨D,c.mono a,d⟩
theorem aH.kept{w w':ii}{b n:Nat}{a:Option Nat}{f:Int->Option α}(h:aH E k w b n f)(c:w.grownBy w' a)(d:T b≠a):aH E k w' b n f:=by
 obtain⟨D,e,g⟩:=h;exact⟨D,e.kept c d,g⟩
theorem aH.of_block{w w':ii}{b n:Nat}{f:Int->Option α}(h:aH E k w b n f)(a:w'.heap[b]?=w.heap[b]?):aH E k w' b n f:=by
 obtain⟨D,⟨c,d,e,g⟩,i⟩:=h;exact⟨D,⟨c,d,a.trans e,g⟩,i⟩
theorem aH.below{w w':ii}{b n B:Nat}{f:Int->Option α}(h:aH E k w b n f)(a:jb B w w')(c:b<B):aH E k w' b n f:=h.of_block (a.block b c)
theorem aH.alloc{w:ii}{b n:Nat}{f:Int->Option α}(h:aH E k w b n f)(o:Obj):aH E k (w.alloc o) b n f:=h.kept (qM w o A) ar
theorem aH.setCell{w:ii}{b n:Nat}{f:Int->Option α}(h:aH E k w b n f){a:jF}(d:b≠a.block)(c:jc):aH E k (w.setCell a c) b n f:=by
 obtain⟨D,e,g⟩:=h;exact⟨D,e.setCell d c,g⟩
theorem aH.congr{w:ii}{b n:Nat}{f g:Int->Option α}(h:aH E k w b n f)(c:∀x,I64 x->f x=g x):aH E k w b n g:=by
 obtain⟨D,d,e⟩:=h;exact⟨D,d,λx a=>by rw[<-c x a];exact e x a⟩
theorem aH.look{w:ii}{b n:Nat}{f:Int->Option α}(h:aH E k w b n f)(hk:P.underlying k=T (.int .i64)){t:jp}(j:P.underlying t=T (.map k e))(g:(zeroValue e).run P w=.ok (E.ev E.z0) w){x:Int}(l:I64 x)(ok:Bool):
 (Instr.lookup t (.map (T b)) (.int .i64 x) ok).run P w=.ok (if ok then .tuple #[E.ev ((f x).getD E.z0),.bool (f x).isSome]else E.ev ((f x).getD E.z0)) w:=by
 obtain⟨D,m,r⟩:=h;obtain⟨i,s⟩:=r x l;have o:keyOf P k (.int .i64 x)=T (.int .i64 x):=keyOf_int_mk hk l;have p:∀v a,plainElem (H:=Unit) P e v=T (D.atKey (.int .i64 x) (.lit (E.el E.z0)),a)->v=E.ev ((f x).getD E.z0):=λv a c=>by
  obtain⟨y,u,rfl,g⟩:=E.inv _ _ c;have d:=congrArg Prod.fst g;simp only at d
  cases hf:f x with
  |none=>
   rw[hf]at i;rw[atKey_of_not_has (by simpa using i)]at d;have:E.z0=y:=E.inj _ _ (by injection d);simp[this]
  |some q=>
   rw[s q hf]at d;have:q=y:=E.inj _ _ (by injection d);simp[this]
 cases ok with
 |true=>
  obtain⟨v,a,d,c⟩:=m.look_ok (int_keyed hk) j g (E.reads _ E.ok0) o;rw[d,p v a c,i]
  rfl
 |false=>
  obtain⟨v,a,d,c⟩:=m.lookup (int_keyed hk) j g (E.reads _ E.ok0) o;rw[d,p v a c]
  rfl
theorem aH.put{w:ii}{b n:Nat}{f:Int->Option α}(h:aH E k w b n f)(hk:P.underlying k=T (.int .i64)){t:jp}(o:P.underlying t=T (.map k e))(p:n<jI){x:Int}(a:I64 x){c:α}(q:E.ok c):
 ∃w',(Instr.mapUpdate t (.map (T b)) (.int .i64 x) (E.ev c)).run P w=.ok () w'/\aH E k w' b (n+1) (λy=>if y=x then T c else f y)/\w.mapTurned w' b:=by
 obtain⟨D,d,j⟩:=h;have r:keyOf P k (.int .i64 x)=T (.int .i64 x):=keyOf_int_mk hk a;obtain⟨w',s,u,B⟩:=d.store (int_keyed hk) o p r (E.reads _ q);refine⟨w',s,⟨_,u,λy l=>?_⟩,B⟩;dsimp only
 by_cases g:y=x
 ·subst g
  rw[if_pos rfl];refine⟨by rw[has_put_same d.isMap (Ac a)];rfl,λv i z=>?_⟩
  cases i
  exact atKey_put_same d.isMap (Ac a) _ _
 rw[if_neg g];have m:(Lit.int .i64 y)≠Lit.int .i64 x:=λh=>g (by injection h)
 refine⟨by rw[has_put_other m];exact(j y l).1,λv i z=>?_⟩;rw[atKey_put_other m];exact(j y l).2 v i z
theorem aH.del{w:ii}{b n:Nat}{f:Int->Option α}(h:aH E k w b n f)(hk:P.underlying k=T (.int .i64)){t:jp}(l:P.underlying t=T (.map k e)){x:Int}(m:I64 x)(d:jp):
 ∃w',(Builtin.delete_ #[t,k] d #[.map (T b),.int .i64 x]).run P w=.ok (.tuple #[]) w'/\aH E k w' b n (λy=>if y=x then A else f y)/\w.mapTurned w' b:=by
 obtain⟨D,o,g⟩:=h;have p:keyOf P k (.int .i64 x)=T (.int .i64 x):=keyOf_int_mk hk m;obtain⟨w',q,r,s⟩:=o.drop (int_keyed hk) l p d;refine⟨w',q,⟨_,r,λy i=>?_⟩,s⟩;dsimp only
 by_cases a:y=x
 ·subst a
  rw[if_pos rfl];exact⟨has_del_same,λv c=>by cases c⟩
 rw[if_neg a];have j:(Lit.int .i64 y)≠Lit.int .i64 x:=λh=>a (by injection h)
 refine⟨by rw[has_del_other j];exact(g y i).1,λv c z=>?_⟩;rw[atKey_del_other j];exact(g y i).2 v c z
variable {w:ii} {ops:Array jO} {rest:List jO} {o:jO} {a:Act} {Q:Exit->Act->ii->Prop}
theorem sW{he:P.underlying e=T (.int .i64)}(c:o.guard=A)(m x:lr)(t:jp)(d:o.op=Op.lookup t m x true)(hk:P.underlying k=T (.int .i64))(g:P.underlying t=T (.map k e))
 (i:(zeroValue e).run P w=.ok (.int .i64 0) w) (b n:Nat) (f:Int->Option Int) (j:a.eval m=.map (T b)) (h:aH (da he) k w b n f) (z:Int) (l:a.eval x=.int .i64 z) (p:I64 z)
 (q:kl P ops Q rest (a.put o.dst (.tuple #[.int .i64 ((f z).getD 0),.bool (f z).isSome])) w):kl P ops Q (o::rest) a w:=by
 refine mb c λu r=>?_
 have s:=h.look hk g i p true;unfold Oper.wp;simp[j9,d,j,l,s,Result.andThen];exact r _ _ q
theorem J6{he:P.underlying e=T (.int .i64)}(c:o.guard=A)(m x:lr)(t:jp)(d:o.op=Op.lookup t m x false)(hk:P.underlying k=T (.int .i64))(g:P.underlying t=T (.map k e))
 (i:(zeroValue e).run P w=.ok (.int .i64 0) w) (b n:Nat) (f:Int->Option Int) (j:a.eval m=.map (T b)) (h:aH (da he) k w b n f) (z:Int) (l:a.eval x=.int .i64 z) (p:I64 z)
 (q:kl P ops Q rest (a.put o.dst (.int .i64 ((f z).getD 0))) w):kl P ops Q (o::rest) a w:=by
 refine mb c λu r=>?_
 have s:=h.look hk g i p false;unfold Oper.wp;simp[j9,d,j,l,s,Result.andThen];exact r _ _ q
theorem mu(d:o.guard=A)(m x v:lr)(t:jp)(g:o.op=Op.mapUpdate t m x v)(hk:P.underlying k=T (.int .i64))(i:P.underlying t=T (.map k e))
 (b n:Nat) (f:Int->Option α) (j:a.eval m=.map (T b)) (h:aH E k w b n f) (l:n<jI) (z:Int) (p:a.eval x=.int .i64 z) (q:I64 z) (c:α) (r:a.eval v=E.ev c) (s:E.ok c)
 (u:∀w',aH E k w' b (n+1) (λy=>if y=z then T c else f y)->w.mapTurned w' b->kl P ops Q rest (a.put o.dst ji) w'):kl P ops Q (o::rest) a w:=by
 refine mb d λF y=>?_
 obtain⟨w',B,C,D⟩:=h.put hk i l q s;unfold Oper.wp;simp[j9,g,j,p,r,B,Result.andThen];exact y _ _ (u w' C D)
theorem F0(c:o.guard=A)(m x:lr)(t:jp)(d:o.op=Op.call {callee:=Callee.builtin Builtin.delete,args:=#[m,x],argTypes:=#[t,k]})(hk:P.underlying k=T (.int .i64))(g:P.underlying t=T (.map k e))
 (b n:Nat) (f:Int->Option α) (i:a.eval m=.map (T b)) (h:aH E k w b n f) (z:Int) (j:a.eval x=.int .i64 z) (l:I64 z)
 (p:∀w',aH E k w' b n (λy=>if y=z then A else f y)->w.mapTurned w' b->kl P ops Q rest (a.put o.dst (.tuple #[])) w'):kl P ops Q (o::rest) a w:=by
 refine mb c λv q=>?_
 obtain⟨w',r,s,u⟩:=h.del hk g l o.type;unfold Oper.wp;simp[j9,d,resolve,invoke,builtin,i,j,r,Result.andThen];exact q _ _ (p w' s u)
end
end
section
open Go.RowKit Go.Shelf Go.Maps Go.Sort
attribute [local go_sem] Oper.semAt_some
theorem J3{H:Type}{w w':ii}{P:jT}{k:jp}{R:jc->Option (DataW H×List MemPlace)}{b r n:Nat}{D:DataW H}{left:Lit->Bool}{a:Nat}(h:w.ranges P k R b r n D left a)(c:w'.heap[b]?=w.heap[b]?)(d:w'.heap[r]?=w.heap[r]?):w'.ranges P k R b r n D left a:=by
 obtain⟨e,f,g,i,j,l,m,o,p,q,s⟩:=h;exact⟨e,f,g,i,j,c.trans l,m,o,p,d.trans q,s⟩
theorem KY{H:Type}{w:ii}{P:jT}{k:jp}{R:jc->Option (DataW H×List MemPlace)}{b r n:Nat}{D:DataW H}{left:Lit->Bool}{a:Nat}(h:w.ranges P k R b r n D left a):b<w.heap.size/\r<w.heap.size:=by
 obtain⟨e,f,g,i,j,c,l,m,o,d,p⟩:=h;exact⟨(jy.1 c).1,(jy.1 d).1⟩
theorem a8.ofGrown{B0:Nat}{Ψ:Nat->Prop}{a B:ii}{b:Option Nat}(h:a.grownBy B b)(c:∀k,b=T k->Ψ k):a8 B0 Ψ a B:=
 ⟨h.os,h.tape,h.output,h.size,λk hk d=>.inl (h.block k hk (λe=>d (c k e.symm)))⟩
theorem BS(a:Option Nat)(w:ii):
 jg jd 151 #[.map a] w λe w'=>e=.returned (.func (.func 203) #[] #[.pointer (T ⟨w,0,A⟩)])/\w'=w.alloc (.cells #[.map a] 152):=by
 go_enter func151,ntmps151
 go_wp2
 go_ret;exact⟨rfl,rfl⟩
def KeysOf(f:Int->Option Int)(xs:List Int):Prop:=xs.Nodup/\(∀x∈xs,I64 x/\(f x).isSome=true)/\∀x,I64 x->(f x).isSome=true->x∈xs
theorem Kj(b d g n₀:Nat)(f:Int->Option Int)(w:ii)(s:aH (da jl) 3 w b d f)(t:je w g 152 (.map (T b)))(H:b<n₀)(h2:g<n₀):
 dK jd 203 #[.pointer (T ⟨g,0,A⟩)] (λx:Int=>#[.int .i64 x]) (λ_=>False) n₀ (KeysOf f) (λ_=>True) (λa=>a.length<=d) w:=by
 intro l o Jx W u a UI j K;have M:je W g 152 (.map (T b)):=(u.block g t.lt).trans t;obtain⟨D,z,e⟩:=s.of_block (u.block b s.lt);have c:=z;have P:=c.size_le;have B:=O e;clear e;have p:=M.cell;refine(j5 (n:=0)).1 ?_;refine ms func203 rfl trivial ?_ rfl;simp only[ntmps203,jV,jA,jW,jX,jY,jZ,j0,j1,j3,jR,jS]
 gi_wp2_with (first
  |(gi_at_range;refine wpListIn_range_own _ rfl _ 152 rfl 3 3 (int_keyed jl) jU _ b d _ rfl c ?_;intro w0 C i m)
  |gi_in)
 have Q:=O a;have R:=O j;have S:o [] (λk=>k=W.heap.size) w0:=a [] _ _ W w0 K (a8.ofGrown i (λk e=>by cases e)) (λ_ h=>h.elim) (λk e=>.inr Y);have RU:ja (W.heap.size+1=w0.heap.size):=O m.symm;have U:W.heap.size<w0.heap.size:=Y;have a3:=(KY C).1;have a4:∀k,k<W.heap.size->w0.heap[k]?=W.heap[k]?:=λk hk=>i.block k hk ar
 have a5:b<W.heap.size:=z.lt;clear a j m i p c
 gi_loopw [3] (λ_ wr=>∃(left:Lit->Bool) (q:Nat) (a:List Int),wr.ranges jd 3 (plainElem jd 3) b W.heap.size d D left q/\CollectedI D left a/\a.length+q<=d/\o a (λk=>k=W.heap.size) wr/\W.heap.size<wr.heap.size)
  (λ_ wr=>wr.rangeLeft b W.heap.size)
 case atStart=>
  exact⟨_,_,[],C,CollectedI.start D,by simpa using P,S,U⟩
 obtain⟨left,q,a,r,i,ba,E,bb⟩:=hrel
 gi_wp2_with (first
  |(gi_at_next;refine wpListIn_next_ranges _ rfl _ rfl 3 (int_keyed jl) (plainElem jd 3) encZ id (λj V hk=>by obtain⟨x,c,_⟩:=Maps.keyOf_i64 jl hk;exact⟨x,c⟩) (λv _ _=>⟨v,rfl⟩) b W.heap.size d _ _ _ rfl r ?_ ?_)
  |gi_in)
 ·intro TS X
  gi_wp2
  refine qd (jJ rfl _ _ _) rfl ?_;refine⟨⟨_,rfl⟩,.inl ⟨a,_,?_,E⟩⟩;refine⟨i.1,λx c=>?_,λx c hf=>?_⟩
  ·have h:=((i.2 x).1 c).1
   have m:I64 x:=by
    obtain⟨es,rfl,aa⟩:=r.owns.keysOf;rw[has_eq,List.any_eq_true]at h;obtain⟨p,hp,hs⟩:=h;obtain⟨v,F⟩:=aa p hp;obtain⟨y,_,j,hl⟩:=Maps.keyOf_i64 jl F;have e:=WideAt.sameKey_eq hs;rw[e]at j;have:x=y:=by injection j
    rw[this];exact hl
   exact⟨m,by rw[<-(B x m).1];exact h⟩
  exact(i.2 x).2 ⟨by rw[(B x c).1];exact hf,X _⟩
 intro x c V yd yp m X aa WS F Rh ad al Tk p bc;obtain⟨x',ex,rfl,_⟩:=Maps.keyOf_i64 jl aa;obtain rfl:x=x':=encZ_inj ex;have au:o a (λk=>k=W.heap.size) m:=Q a _ _ wr m E (a8.ofGrown Tk (λk e=>by cases e;rfl)) (λ_ h=>h) (λ_ h=>.inl h);have bd:W.heap.size<m.heap.size:=Y;have a1:(a++[x]).length<=d:=by simp;omega
 obtain⟨fn,tmps,assign,body,j,v⟩:=R a x _ m au (λk e=>by omega) a1;clear p
 gi_wp2
 refine⟨rfl,v.mono ?_⟩;rintro e W3 (⟨rfl,UJ,h,p⟩|⟨rfl,VW,h,p⟩)
 ·have y:=J3 ad (h.block b H) (p _ rfl)
  have a2:W.heap.size<W3.heap.size:=by have:=h.size;omega
  clear p h v j
  gi_wp2
  go_roundw
  case rel=>exact⟨_,X,a++[x],y,i.step WS Rh,by simp;omega,UJ,a2⟩
  case measure=>rw[y.left_eq,r.left_eq];exact al
 gi_wp2
 refine jP (jJ rfl _ _ _) rfl ?_;exact⟨⟨_,rfl⟩,.inr ⟨_,_,trivial,VW⟩⟩
end
theorem dV{w:ii}{a:jF}{v:jc}(h:w.cell? a=T v):a.block<w.heap.size:=by
 unfold jH at h
 cases hb:w.heap[a.block]? with
 |none=>simp[hb]at h
 |some o=>exact(jy.1 hb).1
theorem bD{w w':ii}{p:jF}{v:jc}(h:w.cell? p=T v)(a:w'.heap[p.block]?=w.heap[p.block]?):w'.cell? p=T v:=by
 rw[World.cell?_of_block a];exact h
def aT(w:ii)(v:jc)(t:List (Int×Int)):Prop:=
 ∃p c,v=ih p t.length c/\t.length<=c/\(p=A->t.length=0)/\(0<t.length->∃g o,p=T ⟨g,o,A⟩/\
  ∀j,j<t.length->w.cell? ⟨g,o+j*2,A⟩=T (I N (t.getD j (0,0)).1)/\w.cell? ⟨g,o+j*2+1,A⟩=T (I N (t.getD j (0,0)).2))/\∀x∈t,I64 x.1/\I64 x.2
theorem aT.below{w w':ii}{v:jc}{t:List (Int×Int)}(h:aT w v t)(d:jb w w w'):aT w' v t:=by
 obtain⟨p,c,rfl,e,f,i,k⟩:=h;refine⟨p,c,rfl,e,f,λl=>?_,k⟩;obtain⟨g,o,rfl,m⟩:=i l;refine⟨g,o,rfl,λj n=>?_⟩;obtain⟨a,b⟩:=m j n;exact⟨bD a (d.block g (dV a)),bD b (d.block g (dV b))⟩
def ofF(t:List (Int×Int))(x:Int):Option Int:=(t.find? (λy=>y.1==x)).map (·.2)
theorem D6(t:List (Int×Int))(a p x:Int):ofF (t++[(a,p)]) x=if(ofF t a).isSome then ofF t x else if x=a then T p else ofF t x:=by
 unfold ofF;rw[List.find?_append]
 cases hx:t.find? (λy=>y.1==x)with
 |none=>
  by_cases b:x=a
  ·subst b;simp[hx]
  have:(a==x)=false:=by simpa using λh=>b h.symm
  simp[b,this,List.find?_cons]
 |some y=>
  by_cases b:x=a
  ·subst b;simp[hx]
  simp[b]
theorem nj(w:ii):(zeroValue 3).run jd w=.ok (I N 0) w:=by kernel_rfl
theorem vA(t:List (Int×Int))(v:jc)(w:ii)(Q:aT w v t)(R:t.length<=1000000):
 jg jd 102 #[jm #[v]] w λe w'=>∃b,e=jf (.map (T b))/\w.heap.size<=b/\aH (da jl) 3 w' b t.length (ofF t)/\jb w w w':=by
 obtain⟨p,c,rfl,S,l,i,j⟩:=Q;have g:=@run_makeMap jd
 go_enter func102,ntmps102
 go_wp2_with fail
 have a:jb w w ((w.alloc (ic #[ih p t.length c] 27)).alloc (.map #[] 0)):=((jn _ w).alloc (jh _) _).alloc ar _;have f:aH (da jl) 3 ((w.alloc (ic #[ih p t.length c] 27)).alloc (.map #[] 0)) (w.heap.size+1) 0 (λ_=>A):=by
  have h:=aH.made (da jl) 3 (w.alloc (ic #[ih p t.length c] 27));rw[jv]at h;exact h
 obtain⟨W0,d⟩:=J ((w.alloc (ic #[ih p t.length c] 27)).alloc (.map #[] 0));rw[<-d]at a f⊢;clear d g;have U:=O a;have D:=O f;have V:=O i;have W:=O j;obtain⟨n,g⟩:=J t.length;have d:=O g;rw[<-g]at R S⊢;obtain⟨B,k⟩:=J (w.heap.size+1);rw[<-k]at D⊢;have aa:w.heap.size<B:=Y;clear a f i j g l k
 go_loopw [12] (λi wr=>∃k:Nat,i=I N k/\k<=n/\ja (aH (da jl) 3 wr B k (ofF (t.take k)))/\ja (jb w w wr)) (λi _=>n-(jo i).toNat)
 case atStart=>exact⟨0,rfl,jw _,D,U⟩
 obtain⟨k,rfl,hk,F,m⟩:=hrel
 by_cases q:k<n
 ·have X:=aj ((k:Int)<(n:Int))
  have Q3:=aj (k<n);obtain⟨g,o,rfl,u⟩:=V.out (by rw[<-d];omega);obtain⟨i,j⟩:=u k (by rw[<-d];exact q);have f:=m.out;have H:=bD i (f.block g (dV i));have K:=bD j (f.block g (dV j));obtain⟨e,he⟩:=J (t.getD k (0,0));rw[<-he]at H K;have x:e∈t:=by
   rw[he];simp only[j4];rw[qj (by rw[<-d];exact q)];simp
  obtain⟨l,r⟩:=W e x;obtain⟨a,s⟩:=e;dsimp only at H K l r;have HE:=O he;have z:=O l;have H2:=O r;clear f i j u he x l r;have M:=O (show t.take (k+1)=t.take k++[(a,s)] by
   rw[HE,kn (by rw[<-d];exact q)];simp only[j4];rw[qj (by rw[<-d];exact q)];rfl)
  have u:=O (F.alloc (ic #[I N a,I N s] 224));have C:=O (m.alloc m.size (ic #[I N a,I N s] 224))
  rcases qN (ofF (t.take k) a)with i|⟨y,i⟩
  ·have l:=O i
   clear i
   go_wp2_with (first
    |(at_lookup;refine sW (he:=jl) rfl _ _ 152 rfl jl jU (nj _) B k _ rfl u a rfl z ?_;rw[l])
    |(at_mapUpdate;refine mu (E:=da jl) rfl _ _ _ 152 rfl jl jU B k _ rfl u (by unfold jI;omega) a rfl z s rfl H2 ?_;intro r x P))
   have Ru:=O x;have f:=O (C.grown P.grown C.size (λj hj=>by cases hj;omega));clear x P;refine⟨⟨k+1,by go_num,by omega,O ?_,f⟩,by simp only[jo];omega⟩;refine Ru.congr λx j=>?_
   rw[M,D6,l]
   rfl
  have l:=O i;clear i
  go_wp2_with (at_lookup;refine sW (he:=jl) rfl _ _ 152 rfl jl jU (nj _) B k _ rfl u a rfl z ?_;rw[l])
  refine⟨⟨k+1,by go_num,by omega,O ?_,C⟩,by simp only[jo];omega⟩;refine(u.mono (Nat.le_succ _)).congr λx j=>?_
  rw[M,D6,l]
  rfl
 have X:=ak ((k:Int)<(n:Int));have Q3:=ak (k<n);obtain rfl:k=n:=Y
 go_wp2
 go_ret;refine⟨B,rfl,by omega,?_,m⟩;have h:=F.out;rw[d,qO]at h;exact h
section
variable {P:jT}
theorem C1{α:Type}{g:lr}{m:Array Tmp}{assign body:Code}{o:Exit->Act->ii->Prop}{a:Act}{w:ii}{n:Nat}
 {gf:Nat} {lb:Array jc} (y:a.eval g=.func (.func gf) #[] lb) (z:∀args w,(callFunc gf args).run P w=.ok (.enter gf args) w)
 {encs:α->Array jc} {q:Nat->Prop} {n₀:Nat} {S u V:List α->Prop} (B:dK P gf lb encs q n₀ S u V w)
 (C:n₀<=w.heap.size) (E:∀x,(encs x).size=m.size) (F:∀k,q k->k<w.heap.size)
 (e:List α->(Nat->Prop)->ii->Prop) (h:Code->List α->(Nat->Prop)->ii->Prop) (H:bj w.heap.size e) (M:∀c,bj w.heap.size (h c)) (Q:e [] q w)
 (i:α->Act->(Nat->Prop)->ii->Prop) (R:bj w.heap.size (fun(s:α×Act) Ψ W=>i s.1 s.2 Ψ W))
 (s:∀(l:Nat) (d:List α) (x:α) (Ψ:Nat->Prop) (b:ii) (K:Act->ii->Prop),e d Ψ b->V (d++[x])->
  (∀f j,jb b b j->e d Ψ j->i x f Ψ j->K f j)->
  assign.wpIn (Fence.wide.inRound l) 0 P (Exit.then K (λ_ _ _=>False)) {tmps:=(m.zip (encs x)).foldl (λt (p,v)=>t.setIfInBounds p v) a.tmps,defers:=[]} b)
 (p:∀(l:Nat) (d:List α) (x:α) (Ψ:Nat->Prop) (f:Act) (b:ii),e d Ψ b->i x f Ψ b->V (d++[x])->(∀k,Ψ k->k<b.heap.size)->w.heap.size+2<=b.heap.size->(∃r,b.heap[l]?=T (.loop r))->
  body.wpIn (Fence.wide.inRound l) 0 P (uG w.heap.size n₀ e h (d++[x]) Ψ b) f b)
 (t:∀(D:Nat) (xs:List α) (Ψ:Nat->Prop) (W:ii),D=w.heap.size->S xs->e xs Ψ W->W.heap[D]?=T (.deferred (T []))->o .normal {a with defers:={target:=.collected D,args:=#[]}::a.defers} W)
 (v:∀(D:Nat) (c:Code) (d:List α) (Ψ:Nat->Prop) (W:ii),D=w.heap.size->u d->h c d Ψ W->W.heap[D]?=T (.deferred (T []))->c.wpIn Fence.wide n P o {a with defers:={target:=.collected D,args:=#[]}::a.defers} W):
 (Code.rangeFunc g m assign body).wpIn Fence.wide n P o a w:=
 yw y z B.v C E F e h H (λ_ _ _ _=>trivial) M Q i R (λl d x Ψ b K j _ c _ hk=>s l d x Ψ b K j c hk) (λl d x Ψ f b j D c K U W X k=>p l d x Ψ f b j D (let⟨_,_,c⟩:=c;c) K U (let⟨r,k⟩:=k;⟨r,by rw[W];exact k⟩)) t v
end
section
open Go.RowKit Go.Shelf
attribute [local go_sem] Oper.semAt_some
def cJ(f:Int->Option Int):Nat->Nat->List Int
 |0,n=>if(f n).isSome then [(n:Int)]else []
 |h+1,n=>if(f n).isSome then [(n:Int)]else cJ f h (2*n)++cJ f h (2*n+1)
theorem OZ{f:Int->Option Int}{h n:Nat}(a:(f n).isSome=true):cJ f h n=[(n:Int)]:=by
 cases h<;>simp[cJ,a]
theorem pj(f:Int->Option Int):∀h n,(cJ f h n).length<=2^h
 |0,n=>by simp only[cJ];split<;>simp
 |h+1,n=>by
  simp only[cJ]
  split
  ·simp;exact qP
  have a:=pj f h (2*n);have b:=pj f h (2*n+1);rw[jG,kw];omega
theorem vW(a:Option Nat)(n:Int)(w:ii):
 jg jd 173 #[.map a,I N n] w λe w'=>
  e=jf (.func (.func 219) #[] #[jj (T ⟨w,0,A⟩),jj (T ⟨w.heap.size+1,0,A⟩)])/\w'=(w.alloc (ic #[.map a] 152)).alloc (ic #[I N n] 3):=by
 go_enter func173,ntmps173
 go_wp2
 go_ret;exact⟨rfl,rfl⟩
theorem JQ(a b:Int)(w:ii):(Instr.index 230 (jm #[I N a,I N b]) (I N 0)).run jd w=.ok (I N a) w:=by kernel_rfl
theorem Mh(a b:Int)(w:ii):(Instr.index 230 (jm #[I N a,I N b]) (I N 1)).run jd w=.ok (I N b) w:=by kernel_rfl
theorem EH{β:Type}(B0 b:Nat)(o:Obj)(j:b<B0):bj B0 (fun(_:β) Ψ W=>W.heap[b]?=T o/\¬Ψ b):=by
 rintro s Ψ d k B ⟨a,e⟩ f l g;have i:=(jy.1 a).1;have c:¬d b:=λh=>by rcases g _ h with h|h;exact e h;omega
 refine⟨?_,c⟩
 rcases f.block b i c with h|⟨h,_⟩
 ·exact h.trans a
 omega
theorem bj.later{β:Type}{B0 b:Nat}{c:β->(Nat->Prop)->ii->Prop}(h:bj B0 c)(n:B0<=b):bj b c:=λs Ψ d e B f a i j=>
 h s Ψ d e B f ⟨a.os,a.tape,a.output,a.size,λk hk l=>by
  rcases a.block k hk l with g|⟨g,m⟩
  ·exact .inl g
  exact .inr ⟨by omega,m⟩⟩ i j
theorem CN{β:Type}{P:jT}{k e:jp}{α:Type}(E:EKind P e α)(B0 b n:Nat)(f:Int->Option α)(l:b<B0):bj B0 (fun(_:β) Ψ W=>aH E k W b n f/\¬Ψ b):=by
 rintro s Ψ d m B ⟨a,g⟩ i o j;have c:¬d b:=λh=>by rcases j _ h with h|h;exact g h;have:=a.lt;omega
 refine⟨a.of_block ?_,c⟩
 rcases i.block b a.lt c with h|⟨h,_⟩
 ·exact h
 omega
def iT{α:Type}(b:Nat)(c:List Nat)(d:List α)(e:List α->(Nat->Prop)->ii->Prop)(f:List α)(Ψ:Nat->Prop)(W:ii):Prop:=
 ∃a,e (d++f) a W/\(∀k,Ψ k->k<W.heap.size->a k)/\(∀k,a k->k<W.heap.size)/\(∀k,k=b\/k=b+1->k<W.heap.size->a k)/\∀k∈c,a k
theorem tg{α:Type}{B0 j:Nat}{l:List Nat}(m:List α){e:List α->(Nat->Prop)->ii->Prop}(n:bj B0 e):bj B0 (iT j l m e):=by
 rintro t Ψ u b B ⟨f,o,g,p,q,r⟩ a v i;have w:=a.size;refine⟨λk=>f k\/(b.heap.size<=k/\k<B.heap.size),?_,λk hk c=>?_,λk hk=>?_,λk hk c=>?_,λk hk=>.inl (r k hk)⟩
 ·refine n _ f _ b B o ⟨a.os,a.tape,a.output,a.size,λk hk d=>?_⟩ (λk hk=>.inl hk) (λk hk=>hk.imp id (·.1))
  refine a.block k hk (λs=>d (.inl ?_))
  rcases i k s with h|h
  ·exact g k h hk
  omega
 ·by_cases d:k<b.heap.size
  ·rcases i k hk with h|h
   ·exact .inl (g k h d)
   omega
  exact .inr ⟨by omega,c⟩
 ·rcases hk with h|h
  ·have:=p k h;omega
  exact h.2
 by_cases d:k<b.heap.size
 ·exact .inl (q k hk d)
 exact .inr ⟨by omega,c⟩
def k7{α:Type}(b:List Nat)(c:List α->(Nat->Prop)->ii->Prop)(d:List α)(W:ii):Prop:=
 ∃a,c d a W/\(∀k,a k->k<W.heap.size)/\∀k∈b,a k
theorem k7.wide{α:Type}{B0 e:Nat}{f:List Nat}{d:List α->(Nat->Prop)->ii->Prop}{g:List α}{b c:ii}(h:k7 f d g b)(m:bj B0 d){Ψ:Nat->Prop}(a:a8 B0 Ψ b c)(i:∀k,Ψ k->b.heap.size<=k)(r:c.heap.size<=e):iT e f g d [] Ψ c:=by
 obtain⟨j,n,o,p⟩:=h;have s:=a.size;refine⟨λk=>j k\/(b.heap.size<=k/\k<c.heap.size),?_,λk hk l=>.inr ⟨i k hk,l⟩,λk hk=>?_,λk hk l=>by omega,λk hk=>.inl (p k hk)⟩
 ·rw[ob]
  refine m _ j _ b c n ⟨a.os,a.tape,a.output,a.size,λk hk t=>?_⟩ (λk hk=>.inl hk) (λk hk=>hk.imp id (·.1));exact a.block k hk (λq=>by have:=i k q;omega)
 rcases hk with h|h
 ·have:=o k h;omega
 exact h.2
theorem iT.own{α:Type}{d:Nat}{a:List Nat}{b:List α->(Nat->Prop)->ii->Prop}{c xs:List α}{Ψ:Nat->Prop}{W:ii}(h:iT d a c b xs Ψ W):k7 a b (c++xs) W:=by
 obtain⟨e,f,j,g,k,i⟩:=h;exact⟨e,f,g,i⟩
theorem k7.turns{α:Type}{B0:Nat}{c:List Nat}{b:List α->(Nat->Prop)->ii->Prop}{d:List α}{e f:ii}(h:k7 c b d e)(g:bj B0 b)(a:a8 B0 (λ_=>False) e f):k7 c b d f:=by
 obtain⟨i,j,l,m⟩:=h;have n:=a.size;exact⟨i,g.keep j ⟨a.os,a.tape,a.output,a.size,λk hk _=>a.block k hk (λh=>h)⟩,λk hk=>by have:=l k hk;omega,m⟩
def oO(f:Int->Option Int)(b d:Nat)(h n:Nat):Prop:=
 ∀(a c n₀:Nat) (w:ii),aH (da jl) 3 w b d f->b<n₀->je w a 152 (.map (T b))->je w c 3 (I N (n:Int))->n₀<=w.heap.size->
  dK jd 219 #[jj (T ⟨a,0,A⟩),jj (T ⟨c,0,A⟩)] (λx:Int=>#[I N x]) (λk=>k=a\/k=c) n₀ (λxs=>xs=cJ f h n) (λ_=>True) (λe=>e<+:cJ f h n) w
theorem Dl(f:Int->Option Int)(b Q h n:Nat)(h1:512<=n*2^h)(h2:n*2^h<1024)(b1:1<=n)(b2:n<1024)(hz:n<512->∃t,h=t+1/\oO f b Q t (2*n)/\oO f b Q t (2*n+1))(bc:512<=n->h=0):oO f b Q h n:=by
 intro d g n₀ w a bd c e UF l QC Jx W hW hJ UI hY h0;have YQ:=a.of_block (hW.block b a.lt);have bf:je W d 152 (.map (T b)):=(hW.block d c.lt).trans c;have bg:je W g 3 (I N (n:Int)):=(hW.block g e.lt).trans e;clear a c e;have cm:=(bf.alloc (ic #[.func (.yield l) #[] #[]] 132)).cell;have cn:=(bg.alloc (ic #[.func (.yield l) #[] #[]] 132)).cell;have hI:I64 (n:Int):=I64.of Y;have WS:=(YQ.alloc (ic #[.func (.yield l) #[] #[]] 132)).look jl jU (nj _) hI true
 rcases qN (f n)with hf|⟨p,hf⟩
 ·rw[hf]at WS
  have bA:(Instr.lookup 152 (.map (T b)) (I N (n:Int)) true).run jd (W.alloc (ic #[.func (.yield l) #[] #[]] 132))=.ok (jk #[I N 0,.bool false]) (W.alloc (ic #[.func (.yield l) #[] #[]] 132)):=WS;clear WS;have HF:=O hf;have HJ:=O hJ;have a2:=O UI;have HY:=O hY;have e:=O YQ;have i:=O h0;clear hf hJ UI hY YQ h0
  by_cases h5:512<=n
  ·have hd:=aj ((512:Int)<=(n:Int))
   have Q3:=aj (512<=n);obtain rfl:=bc h5;have a:ja (cJ f 0 n=[]):=O (by simp[cJ,HF.out]);clear hz bc;refine(j5 (n:=0)).1 ?_;refine ms qe rfl trivial ?_ rfl;simp only[ntmps219,jV,jA,jW,jX,jY,jZ,j0,j1,j3,jR,jS]
   gi_wp2
   refine jP (jJ rfl _ _ _) rfl ?_;rw[a];exact⟨⟨_,rfl⟩,.inl ⟨_,HJ.keep i (a8.alloc _ _ _ _)⟩⟩
  have hd:=ak ((512:Int)<=(n:Int));have Q3:=ak (512<=n);obtain⟨t,rfl,o,q⟩:=hz Y;refine(j5 (n:=0)).1 ?_;refine qs qe rfl trivial ?_ rfl;simp only[ntmps219,jV,jA,jW,jX,jY,jZ,j0,j1,j3,jR,jS]
  gi_wp2_with fail
  have Tp:ja (cJ f (t+1) n=cJ f t (2*n)++cJ f t (2*n+1)):=O (by simp[cJ,HF.out]);have r:∀k,k<2->oO f b Q t (2*n+k):=λk hk=>by
   rcases(show k=0\/k=1 by omega)with rfl|rfl
   ·exact o
   exact q
  have U5:=O r;obtain⟨a,c⟩:=J (W.alloc (ic #[.func (.yield l) #[] #[]] 132));obtain⟨m,j⟩:=J W.heap.size;have H:je a d 152 (.map (T b)):=by rw[c];exact bf.alloc _
  have R:je a g 3 (I N (n:Int)):=by rw[c];exact bg.alloc _
  have S:je a m 132 (.func (.yield l) #[] #[]):=by rw[c,j];exact Boxed.new _ _ _
  have s:aH (da jl) 3 a b Q f:=by rw[c];exact e.alloc _
  have b3:b<W.heap.size:=e.lt;have b4:w.heap.size<=W.heap.size:=hW.size;have b5:W.heap.size+1<=a.heap.size:=by rw[c];simp
  have u:k7 [d,g,m] QC [] a:=by
   have hs:=(a8.alloc W.heap.size (λk=>k=d\/k=g\/k=m) W (ic #[.func (.yield l) #[] #[]] 132));rw[<-c]at hs;refine⟨λk=>k=d\/k=g\/k=m,HJ _ _ _ W a i hs (λk hk=>by rcases hk with h|h<;>simp[h]) (λk hk=>?_),λk hk=>?_,by simp⟩
   ·rcases hk with h|h|h
    ·exact .inl (.inl h)
    ·exact .inl (.inr h)
    exact .inr Y
   have v:=H.lt;have x:=R.lt;have y:=S.lt
   rcases hk with rfl|rfl|rfl<;>assumption
  rw[<-c,<-j];have HO:=O u;have U:=O s;have b6:W.heap.size<=m:=Y;clear bA cm cn c o q r hz bc i e bf bg u s j;refine wpIn_loop_rounds 3 ?_;rw[roundsIn_succ];have cm:=H.cell;have bB:=λW=>JQ (2*(n:Int)) (2*(n:Int)+1) W
  gi_wp2_with fail
  refine⟨trivial,rfl,(callsIn_wide.2 (vW _ _ _)).mono ?_⟩;rintro e w' ⟨rfl,rfl⟩
  gi_wp2_with fail
  obtain⟨s,c⟩:=J ((a.alloc (ic #[.map (T b)] 152)).alloc (ic #[I N (2*(n:Int))] 3));have bh:je s a.heap.size 152 (.map (T b)):=by rw[c];exact(Boxed.new a _ _).alloc _
  have a3:((2*n:Nat):Int)=2*(n:Int):=by simp
  have bk:je s (a.heap.size+1) 3 (I N ((2*n:Nat):Int)):=by
   have h:=Boxed.new (a.alloc (ic #[.map (T b)] 152)) 3 (I N (2*(n:Int)));rw[jv]at h;rw[a3,c];exact h
  have bC:a.heap.size+2=s.heap.size:=by rw[c];simp
  have a4:a8 W.heap.size (λk=>k=a.heap.size\/k=a.heap.size+1) a s:=by
   rw[c];refine⟨rfl,rfl,rfl,by simp;omega,λk hk _=>.inl ?_⟩;rw[ju _ _ _ (by simp;omega),ju _ _ _ hk]
  have F:jb a a s:=by rw[c];exact((jn _ a).alloc (jh _) _).alloc ar _
  have bl:iT s.heap.size [d,g,m] [] QC [] (λk=>k=a.heap.size\/k=a.heap.size+1) s:=HO.wide HJ a4 (by rintro k (rfl|rfl)<;>omega) (jh _);have bm:je s d 152 (.map (T b)):=(F.block _ H.lt).trans H;have bn:je s g 3 (I N (n:Int)):=(F.block _ R.lt).trans R;have bo:je s m 132 (.func (.yield l) #[] #[]):=(F.block _ S.lt).trans S;have au:aH (da jl) 3 s b Q f:=U.below F U.lt;have bI:=U.lt;have bK:=H.lt;have bM:=R.lt;have bN:=S.lt;have a1:W.heap.size<=s.heap.size:=Y;have a5:=U5 0 L a.heap.size (a.heap.size+1) n₀ s au bd bh bk Y;have ZW:=O a5;rw[<-c];clear a5 a3 c a4 F HO U;refine C1 (n:=0) (gf:=219) (lb:=#[jj (T ⟨a,0,A⟩),jj (T ⟨a.heap.size+1,0,A⟩)]) rfl (qf qe ae rfl)
   ZW Y (λ_=>rfl) (by rintro k (rfl|rfl)<;>omega)
   (λu Ψ W=>iT s.heap.size [d,g,m] [] QC u Ψ W/\(je W d 152 (.map (T b))/\¬Ψ d)/\(je W g 3 (I N (n:Int))/\¬Ψ g)/\(je W m 132 (.func (.yield l) #[] #[])/\¬Ψ m)/\(aH (da jl) 3 W b Q f/\¬Ψ b))
   (λc u Ψ W=>c=.ret/\iT s.heap.size [d,g,m] [] Jx u Ψ W)
   ((tg [] (HJ.later a1)).and ((gM _ _ _ (λ_=>_)).and ((gM _ _ _ (λ_=>_)).and ((gM _ _ _ (λ_=>_)).and (CN _ _ _ _ _ Y)))))
   (λc=>(eZ _ _).and (tg [] (a2.later a1)))
   ⟨bl,⟨bm,by omega⟩,⟨bn,by omega⟩,⟨bo,by omega⟩,⟨au,by omega⟩⟩
   (λx ba _ _=>ba={tmps:=#[.func (.yield l) #[] #[],jj (T ⟨d,0,A⟩),jj (T ⟨g,0,A⟩),jj (T ⟨m,0,A⟩),I N 0,.bool false,ji,I N (2*(n:Int)),I N x,jk #[I N 0,.bool false],.map (T b),I N (n:Int),jk #[I N 0,.bool false],I N 0,.bool false,.bool false,ji,ji,ji,I N (n:Int),.bool false,I N (n:Int),I N (2*(n:Int)),I N (n:Int),I N (2*(n:Int)),I N (2*(n:Int)+1),jm #[I N (2*(n:Int)),I N (2*(n:Int)+1)],I N 0,.bool true,I N (2*(n:Int)),.map (T b),I N (2*(n:Int)),.func (.func 219) #[] #[jj (T ⟨a,0,A⟩),jj (T ⟨a.heap.size+1,0,A⟩)],I N x,ji,ji,ji,ji,ji],defers:=[]}) (eZ _ _)
   ?assign0 ?body0 ?done0 ?stop0
  case assign0=>
   intro l2 u x Ψ bb K hI _ q
   gi_wp2
   exact q _ _ (jn _ _) hI rfl
  case body0=>
   rintro l2 u x Ψ ba bb ⟨aa,⟨o,nm⟩,⟨y,bq⟩,⟨j,ny⟩,⟨br,nk⟩⟩ rfl hV VD bO WR;obtain⟨v,z,g2,M,g4,P⟩:=aa;obtain⟨fn,tmps,assign,body,hy,V⟩:=HY ([]++u) x v bb z M (by rw[Tp];rw[jR];exact hV.trans (List.prefix_append _ _));have cy:=j.cell;have X:=O g2;have TU:=O M;have B:=O g4;have C:=O P;have R3:=O VD;clear z g2 M g4 P VD hV WR
   gi_wp2
   refine⟨rfl,RoundIn.mono V ?_⟩;rintro e W3 (⟨rfl,UJ,r,E⟩|⟨rfl,VW,r,E⟩)
   ·have ad:=r.size
    have i:=O E;have Qp:=O r;clear E r V hy cy
    gi_wp2
    refine⟨⟨⟨i _ (B _ (.inl rfl) Y),i _ (B _ (.inr rfl) Y)⟩,Qp,λk hk=>i k (X k hk (R3 k hk))⟩,
     ⟨v,by rw[<-jC];exact UJ,λk hk _=>X k hk (R3 k hk),λk hk=>jD (TU k hk) ad,λk hk _=>B k hk Y,C⟩,
     ⟨(i _ (C d ar)).trans o,nm⟩,⟨(i _ (C g ar)).trans y,bq⟩,⟨(i _ (C m ar)).trans j,ny⟩,⟨br.of_block (Qp.block b bd),nk⟩⟩
   have ad:=r.size;have i:=O E;have Qp:=O r;clear E r V hy cy
   gi_wp2
   refine⟨⟨⟨i _ (B _ (.inl rfl) Y),i _ (B _ (.inr rfl) Y)⟩,Qp,λk hk=>i k (X k hk (R3 k hk))⟩,rfl,
    ⟨v,by rw[<-jC];exact VW,λk hk _=>X k hk (R3 k hk),λk hk=>jD (TU k hk) ad,λk hk _=>B k hk Y,C⟩⟩
  case stop0=>
   rintro D c u Ψ j rfl -⟨rfl,bs⟩ q;obtain⟨v,z,-,-,-,-⟩:=bs
   gi_wp2
   refine⟨by simp,.inl ⟨_,_,rfl,km q,?_⟩⟩;exact⟨_,jJ rfl _ _ _,⟨_,rfl⟩,.inr ⟨_,v,trivial,a2.keep z (a8.putObj _ q rfl Y)⟩⟩
  rintro D xs Ψ j rfl rfl ⟨aa,⟨bu,nm⟩,⟨bv,bT⟩,⟨bw,ny⟩,⟨al,nk⟩⟩ q
  gi_wp2_with fail
  obtain⟨v,z,g2,M,g4,P⟩:=aa;have b0:=(jy.1 q).1;obtain⟨y,o⟩:=J s.heap.size;rw[<-o]at q b0⊢;have HO:ja (k7 [d,g,m,y] QC (cJ f t (2*n)) j):=O ⟨v,by simpa using z,M,λk hk=>by
   simp only[List.mem_cons,List.not_mem_nil,or_false]at hk
   rcases hk with h|h|h|h
   ·exact P k (by simp[h])
   ·exact P k (by simp[h])
   ·exact P k (by simp[h])
   exact g4 k (.inl (h.trans o)) Y⟩
  have YD:=O q;have U:=O al;have b7:W.heap.size<=y:=Y;have b8:b<y:=Y;have Us:W.heap.size<=j.heap.size:=Y;clear z g2 M g4 P q H R S al nm bT ny nk bI bK bM bN bl bm bn bo au bh bk ZW bC a1 o cm bB;have H:=bu;have R:=bv;have S:=bw;clear bu bv bw;rw[roundsIn_succ];have cm:=H.cell;have bB:=λW=>Mh (2*(n:Int)) (2*(n:Int)+1) W
  gi_wp2_with fail
  refine⟨trivial,rfl,(callsIn_wide.2 (vW _ _ _)).mono ?_⟩;rintro e w' ⟨rfl,rfl⟩
  gi_wp2_with fail
  obtain⟨o,al⟩:=J ((j.alloc (ic #[.map (T b)] 152)).alloc (ic #[I N (2*(n:Int)+1)] 3));have bh:je o j.heap.size 152 (.map (T b)):=by rw[al];exact(Boxed.new j _ _).alloc _
  have a3:((2*n+1:Nat):Int)=2*(n:Int)+1:=by simp
  have bk:je o (j.heap.size+1) 3 (I N ((2*n+1:Nat):Int)):=by
   have h:=Boxed.new (j.alloc (ic #[.map (T b)] 152)) 3 (I N (2*(n:Int)+1));rw[jv]at h;rw[a3,al];exact h
  have bC:j.heap.size+2=o.heap.size:=by rw[al];simp
  have a4:a8 W.heap.size (λk=>k=j.heap.size\/k=j.heap.size+1) j o:=by
   rw[al];refine⟨rfl,rfl,rfl,by simp;omega,λk hk _=>.inl ?_⟩;rw[ju _ _ _ (by simp;omega),ju _ _ _ hk]
  have F:jb j j o:=by rw[al];exact((jn _ j).alloc (jh _) _).alloc ar _
  have bl:iT o.heap.size [d,g,m,y] (cJ f t (2*n)) QC [] (λk=>k=j.heap.size\/k=j.heap.size+1) o:=HO.wide HJ a4 (by rintro k (rfl|rfl)<;>omega) (jh _);have bm:je o d 152 (.map (T b)):=(F.block _ H.lt).trans H;have bn:je o g 3 (I N (n:Int)):=(F.block _ R.lt).trans R;have bo:je o m 132 (.func (.yield l) #[] #[]):=(F.block _ S.lt).trans S;have au:aH (da jl) 3 o b Q f:=U.below F U.lt;have bI:=U.lt;have bK:=H.lt;have bM:=R.lt;have bN:=S.lt;have bT:o.heap[y]?=T (.deferred (T [])):=(F.block _ (jy.1 YD).1).trans YD;have b9:=(jy.1 YD).1;have a1:W.heap.size<=o.heap.size:=Y;have a5:=U5 1 L j.heap.size (j.heap.size+1) n₀ o au bd bh bk Y;have ZW:=O a5;rw[<-al];clear a5 a3 al a4 F HO U YD;refine C1 (n:=0) (gf:=219) (lb:=#[jj (T ⟨j,0,A⟩),jj (T ⟨j.heap.size+1,0,A⟩)]) rfl (qf qe ae rfl)
   ZW Y (λ_=>rfl) (by rintro k (rfl|rfl)<;>omega)
   (λu Ψ W=>iT o.heap.size [d,g,m,y] (cJ f t (2*n)) QC u Ψ W/\(je W d 152 (.map (T b))/\¬Ψ d)/\(je W g 3 (I N (n:Int))/\¬Ψ g)/\(je W m 132 (.func (.yield l) #[] #[])/\¬Ψ m)/\(aH (da jl) 3 W b Q f/\¬Ψ b)/\(W.heap[y]?=T (.deferred (T []))/\¬Ψ y))
   (λc u Ψ W=>c=.ret/\iT o.heap.size [d,g,m,y] (cJ f t (2*n)) Jx u Ψ W/\(W.heap[y]?=T (.deferred (T []))/\¬Ψ y))
   ((tg (cJ f t (2*n)) (HJ.later a1)).and ((gM _ _ _ (λ_=>_)).and ((gM _ _ _ (λ_=>_)).and ((gM _ _ _ (λ_=>_)).and ((CN _ _ _ _ _ Y).and (EH _ _ _ Y))))))
   (λc=>(eZ _ _).and ((tg (cJ f t (2*n)) (a2.later a1)).and (EH _ _ _ Y)))
   ⟨bl,⟨bm,by omega⟩,⟨bn,by omega⟩,⟨bo,by omega⟩,⟨au,by omega⟩,bT,by omega⟩
   (λx ba _ _=>ba={tmps:=#[.func (.yield l) #[] #[],jj (T ⟨d,0,A⟩),jj (T ⟨g,0,A⟩),jj (T ⟨m,0,A⟩),I N 0,.bool false,ji,I N (2*(n:Int)+1),I N x,jk #[I N 0,.bool false],.map (T b),I N (n:Int),jk #[I N 0,.bool false],I N 0,.bool false,.bool false,ji,ji,ji,I N (n:Int),.bool false,I N (n:Int),I N (2*(n:Int)),I N (n:Int),I N (2*(n:Int)),I N (2*(n:Int)+1),jm #[I N (2*(n:Int)),I N (2*(n:Int)+1)],I N 1,.bool true,I N (2*(n:Int)+1),.map (T b),I N (2*(n:Int)+1),.func (.func 219) #[] #[jj (T ⟨j,0,A⟩),jj (T ⟨j.heap.size+1,0,A⟩)],I N x,ji,ji,ji,ji,I N 1],defers:=[]}) (eZ _ _)
   ?assign1 ?body1 ?done1 ?stop1
  case assign1=>
   intro l2 u x Ψ bb K hI _ q
   gi_wp2
   exact q _ _ (jn _ _) hI rfl
  case body1=>
   rintro l2 u x Ψ ba bb ⟨aa,⟨al,nm⟩,⟨a3,bq⟩,⟨U,ny⟩,⟨br,nk⟩,F,K⟩ rfl hV VD bO WR;obtain⟨v,z,g2,M,g4,P⟩:=aa;obtain⟨fn,tmps,assign,body,hy,V⟩:=HY ((cJ f t (2*n))++u) x v bb z M (by rw[Tp];rw[jC];exact(List.prefix_append_right_inj _).2 hV);have cy:=U.cell;have X:=O g2;have TU:=O M;have B:=O g4;have C:=O P;have R3:=O VD;clear z g2 M g4 P VD hV WR
   gi_wp2
   refine⟨rfl,RoundIn.mono V ?_⟩;rintro e W3 (⟨rfl,UJ,r,E⟩|⟨rfl,VW,r,E⟩)
   ·have ad:=r.size
    have i:=O E;have Qp:=O r;clear E r V hy cy
    gi_wp2
    refine⟨⟨⟨i _ (B _ (.inl rfl) Y),i _ (B _ (.inr rfl) Y)⟩,Qp,λk hk=>i k (X k hk (R3 k hk))⟩,
     ⟨v,by rw[<-jC];exact UJ,λk hk _=>X k hk (R3 k hk),λk hk=>jD (TU k hk) ad,λk hk _=>B k hk Y,C⟩,
     ⟨(i _ (C d ar)).trans al,nm⟩,⟨(i _ (C g ar)).trans a3,bq⟩,⟨(i _ (C m ar)).trans U,ny⟩,⟨br.of_block (Qp.block b bd),nk⟩,(i _ (C y ar)).trans F,K⟩
   have ad:=r.size;have i:=O E;have Qp:=O r;clear E r V hy cy
   gi_wp2
   refine⟨⟨⟨i _ (B _ (.inl rfl) Y),i _ (B _ (.inr rfl) Y)⟩,Qp,λk hk=>i k (X k hk (R3 k hk))⟩,rfl,
    ⟨⟨v,by rw[<-jC];exact VW,λk hk _=>X k hk (R3 k hk),λk hk=>jD (TU k hk) ad,λk hk _=>B k hk Y,C⟩,(i _ (C y ar)).trans F,K⟩⟩
  case stop1=>
   rintro D c u Ψ x rfl -⟨rfl,bs,F,K⟩ q;obtain⟨v,z,-,-,-,-⟩:=bs
   gi_wp2
   refine⟨by simp,.inl ⟨_,_,rfl,km q,?_⟩⟩;have i:(x.putObj o.heap.size (.deferred A)).heap[y]?=T (.deferred (T [])):=(qk Y).trans F;refine⟨by simp,.inl ⟨_,_,rfl,km i,?_⟩⟩;exact⟨_,jJ rfl _ _ _,⟨_,rfl⟩,.inr ⟨_,v,trivial,a2.keep (a2.keep z (a8.putObj _ q rfl Y)) (a8.putObj _ i rfl Y)⟩⟩
  rintro D xs Ψ x rfl rfl ⟨aa,⟨bu,nm⟩,⟨bv,bq⟩,⟨bw,ny⟩,⟨br,nk⟩,F,K⟩ q;obtain⟨v,z,-,-,-,-⟩:=aa
  gi_wp2_with fail
  rw[roundsIn_succ]
  gi_wp2
  have i:(x.putObj o.heap.size (.deferred A)).heap[y]?=T (.deferred (T [])):=(qk Y).trans F;refine⟨by simp,.inl ⟨_,_,rfl,km q,?_⟩⟩;refine⟨by simp,.inl ⟨_,_,rfl,km i,?_⟩⟩;exact⟨_,jJ rfl _ _ _,⟨_,rfl⟩,.inl ⟨_,v,Tp.symm,HJ.keep (HJ.keep z (a8.putObj _ q rfl Y)) (a8.putObj _ i rfl Y)⟩⟩
 rw[hf]at WS;have bA:(Instr.lookup 152 (.map (T b)) (I N (n:Int)) true).run jd (W.alloc (ic #[.func (.yield l) #[] #[]] 132))=.ok (jk #[I N p,.bool true]) (W.alloc (ic #[.func (.yield l) #[] #[]] 132)):=WS;have hs:=OZ (f:=f) (h:=h) (n:=n) (by rw[hf];rfl);have a:QC [] (λk=>k=d\/k=g) (W.alloc (ic #[.func (.yield l) #[] #[]] 132)):=hJ.keep h0 (a8.alloc _ _ _ _);obtain⟨fn,tmps,assign,body,hy,V⟩:=hY [] (n:Int) _ _ a (by rintro k (rfl|rfl);have:=bf.lt;simp;omega;have:=bg.lt;simp;omega) (by rw[hs];exact List.prefix_refl _);have c:=O hs;clear WS hs hz bc YQ hJ UI hY h0 hf a;refine(j5 (n:=0)).1 ?_;refine ms qe rfl trivial ?_ rfl;simp only[ntmps219,jV,jA,jW,jX,jY,jZ,j0,j1,j3,jR,jS]
 gi_wp2
 refine⟨rfl,V.mono ?_⟩;rintro e W3 (⟨rfl,UJ,r,E⟩|⟨rfl,VW,r,E⟩)
 ·gi_wp2
  refine jP (jJ rfl _ _ _) rfl ?_;exact⟨⟨_,rfl⟩,.inl ⟨_,_,c.symm,UJ⟩⟩
 gi_wp2
 refine jP (jJ rfl _ _ _) rfl ?_;exact⟨⟨_,rfl⟩,.inr ⟨_,_,trivial,VW⟩⟩
theorem yx(f:Int->Option Int)(b d:Nat):∀h n,512<=n*2^h->n*2^h<1024->oO f b d h n
 |0,n,c,a=>Dl f b d 0 n c a Y Y (λh=>by omega) (λ_=>rfl)
 |h+1,n,c,a=>by
  rw[kw]at c a;have e:2*n*2^h=n*(2^h*2):=by rw[lv 2 n,Nat.mul_assoc,lv 2]
  have i:(2*n+1)*2^h=n*(2^h*2)+2^h:=by rw[Nat.add_mul,Nat.one_mul,e]
  have m:1<=2^h:=qP;have j:1<=n:=by
   rcases oi n with g|g
   ·rw[g]at c;omega
   exact g
  have o:2^h*2<=n*(2^h*2):=Nat.le_mul_of_pos_left _ j;have p:n<512:=by
   have:n*2<=n*(2^h*2):=Nat.mul_le_mul_left _ Y;omega
  have k:n*(2^h*2)+2^h<1024:=by
   have:n*(2^h*2)+(2^h*2)<=1024:=by
    have r:h<=9:=by
     rcases oj 9 h with g|g
     ·have:2^10<=2^h:=ql L g
      omega
     exact g
    have g:2^h*2∣1024:=by
     rw[<-kw,show 1024=2^10 by decide];exact Nat.pow_dvd_pow _ Y
    obtain⟨q,l⟩:=g;rw[l]at a⊢;have:n<q:=by
     rw[lv]at a;exact Nat.lt_of_mul_lt_mul_left a
    rw[<-Nat.succ_mul,lv (2^h*2) q];exact qw _ this
   omega
  exact Dl f b d (h+1) n (by rw[kw];exact c) (by rw[kw];exact a) j Y
   (λ_=>⟨h,rfl,yx f b d h (2*n) (by rw[e];exact c) (by rw[e];exact a),yx f b d h (2*n+1) (by rw[i];omega) (by rw[i];exact k)⟩) (λh=>by omega)
end
section
open Go.Shelf
def Tryzx.lays189_ren:Go.Shelf.Ren:=⟨fun|189=>140|125=>97|257=>190|128=>160|129=>161|294=>224|295=>225|296=>226|297=>227|298=>228|299=>229|216=>230|300=>231|301=>232|328=>244|329=>205|330=>206|331=>245|332=>246|215=>98|343=>249|n=>n,fun|28=>31|3=>3|46=>163|0=>0|51=>247|53=>219|4=>4|183=>241|182=>240|131=>101|5=>5|9=>9|218=>292|222=>295|228=>322|229=>323|n=>n,fun|n=>n⟩
theorem Tryzx.lays189:Go.Proofs.Lays.n189 jd Tryzx.lays189_ren:={
 mixed:=by kernel_rfl
 f125:=func97.trans (congrArg T ae)
 f128:=func160.trans (congrArg T ae)
 f129:=func161.trans (congrArg T ae)
 f189:=func140.trans (congrArg T ae)
 f215:=func98.trans (congrArg T ae)
 f216:=func230.trans (congrArg T ae)
 f257:=func190.trans (congrArg T ae)
 f294:=func224.trans (congrArg T ae)
 f295:=func225.trans (congrArg T ae)
 f296:=func226.trans (congrArg T ae)
 f297:=func227.trans (congrArg T ae)
 f298:=func228.trans (congrArg T ae)
 f299:=func229.trans (congrArg T ae)
 f300:=func231.trans (congrArg T ae)
 f301:=func232.trans (congrArg T ae)
 f328:=func244.trans (congrArg T ae)
 f329:=func205.trans (congrArg T ae)
 f330:=func206.trans (congrArg T ae)
 f331:=func245.trans (congrArg T ae)
 f332:=func246.trans (congrArg T ae)
 f343:=func249.trans (congrArg T ae)
 t0:=underlying0
 a0:=Tryz.isAgg0
 z0:=Tryz.sizeOf0
 v0:=Tryz.zeroValue0
 t3:=jl
 a3:=Tryz.isAgg3
 z3:=Tryz.sizeOf3
 v3:=Tryz.zeroValue3
 t4:=jK
 a4:=Tryz.isAgg4
 z4:=Tryz.sizeOf4
 v4:=Tryz.zeroValue4
 t5:=underlying5
 a5:=Tryz.isAgg5
 z5:=Tryz.sizeOf5
 v5:=Tryz.zeroValue5
 t9:=underlying9
 a9:=Tryz.isAgg9
 z9:=Tryz.sizeOf9
 v9:=Tryz.zeroValue9
 t28:=qg
 a28:=Tryz.isAgg31
 z28:=Tryz.sizeOf31
 v28:=Tryz.zeroValue31
 t46:=underlying163
 a46:=Tryz.isAgg163
 z46:=Tryz.sizeOf163
 v46:=Tryz.zeroValue163
 t51:=underlying247
 a51:=Tryz.isAgg247
 z51:=Tryz.sizeOf247
 v51:=Tryz.zeroValue247
 t53:=underlying219
 a53:=Tryz.isAgg219
 z53:=Tryz.sizeOf219
 v53:=Tryz.zeroValue219
 t131:=underlying101
 a131:=Tryz.isAgg101
 z131:=Tryz.sizeOf101
 v131:=Tryz.zeroValue101
 t182:=underlying240
 a182:=Tryz.isAgg240
 z182:=Tryz.sizeOf240
 v182:=Tryz.zeroValue240
 t183:=underlying241
 a183:=Tryz.isAgg241
 z183:=Tryz.sizeOf241
 v183:=Tryz.zeroValue241
 t218:=underlying292
 a218:=Tryz.isAgg292
 z218:=Tryz.sizeOf292
 v218:=Tryz.zeroValue292
 t222:=underlying295
 a222:=Tryz.isAgg295
 z222:=Tryz.sizeOf295
 v222:=Tryz.zeroValue295
 t228:=underlying322
 a228:=Tryz.isAgg322
 z228:=Tryz.sizeOf322
 v228:=Tryz.zeroValue322
 t229:=underlying323
 a229:=Tryz.isAgg323
 z229:=Tryz.sizeOf323
 v229:=Tryz.zeroValue323}
open Go.Sort Go.RowKit in
theorem Tryzx.slices_Sort_int(a c d:Nat)(b:List Int)(w:ii)(f:Holds (js .i64) w a c b.toArray)(g:a<w.heap.size)(h:b.length<4611686018427387904):
 jg jd 140 #[ih (T ⟨a,c,A⟩) b.length d] w λe w'=>
  e=jf (jk #[])/\∃n os,w'=grow (putRow (js .i64) (Sort.ahead w n) a c (b.mergeSort λx y=>decide (x<=y)).toArray) os:=Any.slices_Sort_int Tryzx.lays189 a c d b w f g h
def Tryzx.laysNm220_ren:Go.Shelf.Ren:=⟨fun|20=>141|n=>n,fun|22=>31|3=>3|4=>4|0=>0|n=>n,fun|n=>n⟩
theorem Tryzx.laysNm220:Go.Proofs.Lays2.n20 jd Tryzx.laysNm220_ren:={
 mixed:=by kernel_rfl
 f20:=func141.trans (congrArg T ae)
 t0:=underlying0
 a0:=Tryz.isAgg0
 z0:=Tryz.sizeOf0
 v0:=Tryz.zeroValue0
 t3:=jl
 a3:=Tryz.isAgg3
 z3:=Tryz.sizeOf3
 v3:=Tryz.zeroValue3
 t4:=jK
 a4:=Tryz.isAgg4
 z4:=Tryz.sizeOf4
 v4:=Tryz.zeroValue4
 t22:=qg
 a22:=Tryz.isAgg31
 z22:=Tryz.sizeOf31
 v22:=Tryz.zeroValue31
 i3:=by kernel_rfl}
open Go.RowKit Go.Lib Go.Sort in
open Go.RowKit Go.Lib Go.Sort in
theorem Tryzx.slices_Compact_int(b c d:Nat)(a:List Int)(w:ii)(f:Holds (js .i64) w b c a.toArray)(g:a.length<=9223372036854775807)(h:a.length<=d):
 jg jd 141 #[ih (T ⟨b,c,A⟩) a.length d] w λe w'=>e=jf (ih (T ⟨b,c,A⟩) (Lib.compact a).length d)/\∃q,w'=putRow (js .i64) (Sort.ahead w q) b c (Lib.compact a++ol (a.length-(Lib.compact a).length) 0).toArray:=Any.slices_Compact_int Tryzx.laysNm220 b c d a w f g h
open Go.RowKit Go.Lib Go.Sort in
theorem Tryzx.slices_Compact_int_empty(a:Option jF)(b:Nat)(w:ii):
 jg jd 141 #[ih a 0 b] w λe w'=>e=jf (ih a 0 b)/\w'=w:=Any.slices_Compact_int_empty Tryzx.laysNm220 a b w
open Go.RowKit Go.Sort in
theorem Tryzx.slices_Sort_int_none(p:Option jF)(a:Nat)(w:ii):
 jg jd 140 #[ih p 0 a] w λe w'=>e=jf (jk #[])/\w'=w:=Any.slices_Sort_int_none Tryzx.lays189 p a w
end
section
open Go
theorem Dg(d:Array Int)(f:∀i j,i<=j->j<d.size->d[i]!<=d[j]!):∀m,m<=d.size->
 (Lib.compactUpTo d m).Pairwise (·<·)/\(∀x∈Lib.compactUpTo d m,∃j,j<m/\x=d[j]!)/\∀j,j<m->d[j]!∈Lib.compactUpTo d m
 |0,_=>by simp[Lib.compactUpTo]
 |m+1,q=>by
  obtain⟨n,g,i⟩:=Dg d f m Y;rw[Lib.compactUpTo_succ]
  by_cases hk:m=0\/d[m]!≠d[m-1]!
  ·have k:Lib.keeps d m=true:=by simp only[Lib.keeps,decide_eq_true_eq];exact hk
   rw[k,if_pos rfl];refine⟨List.pairwise_append.2 ⟨n,by simp,λa p b o=>?_⟩,λx l=>?_,λj c=>?_⟩
   ·simp only[qQ]at o
    subst o;obtain⟨j,c,rfl⟩:=g a p
    rcases hk with e|e
    ·omega
    have h:=f j (m-1) Y Y;have r:=f (m-1) m Y Y;omega
   ·rcases qx.1 l with h|h
    ·obtain⟨j,c,e⟩:=g x h
     exact⟨j,by omega,e⟩
    simp only[qQ]at h;exact⟨m,by omega,h⟩
   rcases qy (qS c)with h|rfl
   ·exact qx.2 (.inl (i j h))
   exact qx.2 (.inr ar)
  have k:Lib.keeps d m=false:=by simp only[Lib.keeps,decide_eq_false_iff_not];exact hk
  rw[k,if_neg L,ob];refine⟨n,λx l=>?_,λj c=>?_⟩
  ·obtain⟨j,c,e⟩:=g x l
   exact⟨j,by omega,e⟩
  rcases qy (qS c)with h|rfl
  ·exact i j h
  have:j≠0:=λh=>hk (.inl h)
  have e:d[j]! =d[j-1]! :=by
   rcases Classical.em (d[j]! =d[j-1]!)with h|h
   ·exact h
   exact absurd (.inr h) hk
  rw[e];exact i (j-1) Y
theorem DV(xs:List Int)(h:xs.Pairwise (·<=·)):(Lib.compact xs).Pairwise (·<·)/\∀x,x∈Lib.compact xs↔x∈xs:=by
 have c:∀i j,i<=j->j<xs.toArray.size->xs.toArray[i]!<=xs.toArray[j]! :=λi j d a=>by
  have b:j<xs.length:=by simpa using a
  rcases qy d with g|rfl
  ·have:=List.pairwise_iff_getElem.1 h i j Y b g
   simpa [getElem!_pos,show i<xs.length by omega,b]using this
  exact Int.le_refl _
 obtain⟨f,g,k⟩:=Dg xs.toArray c xs.length ar;refine⟨f,λx=>⟨λb=>?_,λb=>?_⟩⟩
 ·obtain⟨j,a,rfl⟩:=g x b
  simp[getElem!_pos,a]
 obtain⟨j,a,rfl⟩:=List.getElem_of_mem b;have:=k j a;have e:xs.toArray[j]! =xs[j]:=by simp[getElem!_pos,a]
 rw[e]at this;exact this
theorem tn{l m:List Int}(c:l.Pairwise (·<·))(d:m.Pairwise (·<·))(h:∀x,x∈l↔x∈m):l=m:=by
 have e:l.Nodup:=c.imp (λh=>by omega);have f:m.Nodup:=d.imp (λh=>by omega);exact List.Perm.eq_of_pairwise (le:=(·<·)) (λa b _ _ g i=>by omega) c d ((List.perm_ext_iff_of_nodup e f).2 h)
theorem uf(l:List Int):(l.mergeSort leI).Pairwise (·<=·):=by
 have d:∀a b c:Int,leI a b=true->leI b c=true->leI a c=true:=λa b c f g=>by simp only[leI,decide_eq_true_eq]at*;omega
 have e:∀a b:Int,(leI a b||leI b a)=true:=λa b=>by simp only[leI,Bool.or_eq_true,decide_eq_true_eq];omega
 exact(List.pairwise_mergeSort d e l).imp (λh=>by simpa [leI]using h)
theorem sl(l:List Int)(x:Int):x∈l.mergeSort leI↔x∈l:=(List.mergeSort_perm l leI).mem_iff
def ft(t:List (Int×Int)):List Int:=(t.filter λx=>decide (512<=x.1)&&decide (x.1<=1023)).map λx=>x.1-512
def aV(t:List (Int×Int)):List Int:=Lib.compact ((ft t).mergeSort leI)
theorem mi(t:List (Int×Int)):(aV t).Pairwise (·<·):=(DV _ (uf _)).1
theorem mA(t:List (Int×Int))(d:Int):d∈aV t↔0<=d/\d<512/\∃x∈t,x.1=512+d:=by
 unfold aV;rw[(DV _ (uf _)).2,sl];unfold ft;simp only[oo,List.mem_filter,Bool.and_eq_true,decide_eq_true_eq]
 constructor
 ·rintro⟨x,⟨a,b,c⟩,rfl⟩
  exact⟨by omega,by omega,x,a,by omega⟩
 rintro⟨b,c,x,a,e⟩;exact⟨x,⟨a,by omega,by omega⟩,by omega⟩
end
section
open Go.RowKit Go.Shelf
attribute [local go_sem] Oper.semAt_some
theorem CM(n:Nat)(h:n<4611686018427387904)(w:ii):
 jg jd 189 #[I N n] w λe w'=>e=jf (I N (n/2:Nat))/\w=w':=by
 go_enter func189,ntmps189
 go_wp2
 go_ret;exact⟨rfl,rfl⟩
def upL:Nat->Nat->List Nat
 |0,_=>[]
 |k+1,n=>if n>1 then n::upL k (n/2)else []
theorem vH:∀(k n:Nat),∀x∈upL k n,x<=n
 |0,_,x,h=>by simp[upL]at h
 |k+1,n,x,h=>by
  unfold upL at h
  split at h
  ·rcases List.mem_cons.1 h with rfl|h
   ·omega
   have:=vH k (n/2) x h;omega
  simp at h
theorem Dk:∀(k n:Nat),(upL k n).length<=k
 |0,_=>by simp[upL]
 |k+1,n=>by
  unfold upL
  split
  ·have:=Dk k (n/2);simp;omega
  simp
theorem r8(d:Nat)(a:d<512):(upL 10 (512+d)).length=8+1:=by
 have h:∀d:Fin 512,(upL 10 (512+d.val)).length=8+1:=by decide+kernel
 exact h ⟨d,a⟩
theorem C8(k n:Nat)(c:n<1024){a:List Nat}{x:Nat}(h:a++[x]<+:upL k n):x<1024/\a.length<k:=by
 have d:=vH k n x (h.subset ar);have b:=h.length_le;have e:=Dk k n;simp at b;omega
theorem CG(n:Int)(w:ii):
 jg jd 217 #[I N n] w λe w'=>e=jf (.func (.func 243) #[] #[jj (T ⟨w,0,A⟩)])/\w'=w.alloc (ic #[I N n] 264):=by
 go_enter func217,ntmps217
 go_wp2
 go_ret;exact⟨rfl,rfl⟩
def cellNat(w:ii)(b:Nat):Nat:=(jo ((w.cell? ⟨b,0,A⟩).getD (I N 0))).toNat
theorem B8{w:ii}{b:Nat}{t:jp}{m:Nat}(h:je w b t (I N m)):cellNat w b=m:=by
 unfold cellNat;rw[h.cell];simp[jo]
theorem Br{j m:Nat}(h:1<m)(a:m<2^j):∃i,j=i+1/\upL j m=m::upL i (m/2)/\m/2<2^i:=by
 rcases j with _|i
 ·simp at a;omega
 exact⟨i,rfl,by simp[upL,h],by rw[kw]at a;omega⟩
theorem Co{j m:Nat}(h:m<=1):upL j m=[]:=by
 rcases j with _|i
 ·rfl
 simp[upL];omega
set_option maxRecDepth 100000 in
theorem B4(n k:Nat)(B:n<4611686018427387904)(hk:n<2^k)(b:Nat)(w:ii)(t:je w b 264 (I N n)):
 dK jd 243 #[jj (T ⟨b,0,A⟩)] (λm:Nat=>#[I N (m:Int)]) (·=b) 0 (λxs=>xs=upL k n) (λ_=>True) (λa=>a<+:upL k n) w:=by
 intro l u V W g h v o p;have C:je W b 264 (I N n):=(g.block b t.lt).trans t;refine(j5 (n:=0)).1 ?_;refine ms func243 rfl trivial ?_ rfl;simp only[ntmps243,jV,jA,jW,jX,jY,jZ,j0,j1,j3,jR,jS]
 gi_wp2
 gi_loopw [] (λwr=>W.heap.size<=wr.heap.size/\∃(a:List Nat) (j m:Nat),a.length+j=k/\m<2^j/\m<4611686018427387904/\a++upL j m=upL k n/\u a (·=b) wr/\je wr b 264 (I N m))
  (λwr=>cellNat wr b)
 case atStart=>
  exact⟨jh _,[],k,n,by simp,hk,B,rfl,p,C⟩
 obtain⟨D,a,j,m,X,E,aa,c,x,d⟩:=hrel;have hc:=d.cell;have hf:=d.frozen
 by_cases F:1<m
 ·obtain⟨i,rfl,e,H⟩:=Br F E
  obtain⟨fn,tmps,assign,body,K,y⟩:=o a m (·=b) wr x (by rintro _ rfl;exact d.lt) ⟨upL i (m/2),by rw[<-c,e];simp⟩;have q:ja (a++upL (i+1) m=upL k n):=c;have M:ja (upL (i+1) m=m::upL i (m/2)):=e;clear c e o p v g;have P:ja (bj W.heap.size u):=h;clear h
  gi_wp2
  refine⟨rfl,y.mono ?_⟩;rintro e z (⟨rfl,Q,r,s⟩|⟨rfl,R,r,s⟩)
  ·have f:je z b 264 (I N m):=(s b rfl).trans d
   have ZS:=f.cell;have UE:=f.frozen;have S:=r.size;clear s r y K
   gi_wp2_with fail
   refine⟨trivial,rfl,(callsIn_wide.2 (CM _ Y _)).mono ?_⟩;rintro e w' ⟨rfl,rfl⟩
   gi_wp2
   go_roundw
   case rel=>
    refine⟨by simpa using jr D S,a++[m],i,m/2,by simp;omega,H,by omega,by rw[<-q,M];simp,P.keep Q ?_,f.set _⟩;exact⟨rfl,rfl,rfl,by simp,λk _ U=>.inl (qz _ _ _ _ U)⟩
   have U:cellNat (z.setCell ⟨b,0,A⟩ (I N ((m:Int)/2))) b=m/2:=B8 (m:=m/2) (f.set _);rw[U,B8 d];omega
  gi_wp2
  refine qd (jJ rfl _ _ _) rfl ?_;exact⟨⟨_,rfl⟩,.inr ⟨_,_,trivial,R⟩⟩
 have q:ja (a++upL j m=upL k n):=c;clear c o p h v g
 gi_wp2
 refine⟨λ_ h=>(by cases h),?_⟩
 gi_wp2
 refine qd (jJ rfl _ _ _) rfl ?_;exact⟨⟨_,rfl⟩,.inl ⟨_,_,by rw[<-q,Co Y,ob],x⟩⟩
def fI(n:Nat):Nat:=n/2
def gN(n:Nat):Nat:=n^^^1
theorem Gk(n:Nat)(h:n<1024)(w:ii):
 jg jd 189 #[I N n] w λe w'=>e=jf (I N (fI n:Nat))/\w=w':=
 CM n Y w
theorem He(k:IntKind)(j:Nat)(f:j<=k.bits)(hk:∀n:Int,0<=n->n<2^j->k.wrap n=n)(a b:Nat)(c:a<2^j)(d:b<2^j):
 bits .xor k a b=((a^^^b:Nat):Int):=by
 have e:2^j<=2^k.bits:=ql L f;have g:a%2^k.bits=a:=ow (jD c e);have h:b%2^k.bits=b:=ow (jD d e);have i:a^^^b<2^j:=qT c d;simp only[bits,qU,qV,o4,g,h];exact hk _ (Int.natCast_nonneg _) (by exact_mod_cast i)
theorem N8(n:Nat)(h:n<1024):bits .xor .i64 (n:Int) 1=((gN n:Nat):Int):=
 He .i64 10 L (λn a b=>IntWalk.i64_in n Y) n 1 Y Y
theorem JD(n:Nat)(h:n<1024)(w:ii):
 jg jd 171 #[I N n] w λe w'=>e=jf (I N (gN n:Nat))/\w=w':=by
 go_enter func171,ntmps171
 go_wp2
 go_ret;exact⟨by rw[N8 n h];rfl,rfl⟩
def iv(l:List Nat):List jc:=l.map λn:Nat=>js .i64 (n:Int)
def gL(d:Nat):List Nat:=(upL 10 (512+d)).map fI
def lN(d:Nat):List Nat:=(upL 10 (512+d)).map gN
theorem Gn(d:Nat):iv (gL d)=(upL 10 (512+d)).map λn=>js .i64 (fI n:Nat):=by simp[iv,gL,Function.comp_def]
theorem Ph(d:Nat):iv (lN d)=(upL 10 (512+d)).map λn=>js .i64 (gN n:Nat):=by simp[iv,lN,Function.comp_def]
def uU(w:ii)(v:jc)(xs:List jc):Prop:=
 (v=ih A 0 0/\xs=[])\/∃b a d,v=ih (T ⟨b,a,A⟩) xs.length d/\∀j c,xs[j]?=T c->w.cell? ⟨b,a+j,A⟩=T c
theorem uU.below{w w':ii}{v:jc}{xs:List jc}(h:uU w v xs)(d:jb w w w'):uU w' v xs:=by
 rcases h with h|⟨b,a,e,rfl,f⟩
 ·exact .inl h
 refine .inr ⟨b,a,e,rfl,λj g i=>?_⟩;have c:=f j g i;rw[d.cell (p:=⟨b,a+j,A⟩) (World.block_lt_of_cell? w ⟨b,a+j,A⟩ c)];exact c
end
section
open Go.RowKit Go.Shelf
attribute [local go_sem] Oper.semAt_some
theorem zz:(jd.info? 3).map (λi=>(i.zero,i.size,i.bytes))=T (T (I N 0),1,8):=by kernel_rfl
set_option maxRecDepth 100000 in
theorem MP(d:Nat)(V:d<512)(w:ii):
 jg jd 170 #[I N d,.func (.func 189) #[] #[]] w λe w'=>∃v,e=jf (jk #[v,I N 0])/\
  w'.ownsRow w 3 1 v 9 ((upL 10 (512+d)).map λn=>js .i64 (fI n:Nat))/\jb w w w':=by
 obtain⟨X,hi,Qs,aa,ad⟩:=qh zz;refine(j5 (n:=0)).1 ?_;refine qs func170 rfl trivial ?_ rfl;simp only[ntmps170,jV,jA,jW,jX,jY,jZ,j0,j1,j3,jR,jS]
 gi_wp2_with fail
 refine⟨trivial,rfl,(callsIn_wide.2 (Dv _ Y Y _)).mono ?_⟩;rintro e w' ⟨rfl,rfl⟩
 gi_wp2_with fail
 refine⟨trivial,rfl,(callsIn_wide.2 (CG _ _)).mono ?_⟩;rintro e w' ⟨rfl,rfl⟩
 gi_wp2_with fail
 have E:je (((w.alloc (ic #[.func (.func 189) #[] #[]] 262)).alloc (ic #[ih A 0 0] 31)).alloc (ic #[I N (512+d)] 264)) w.heap.size 262 (.func (.func 189) #[] #[]):=
  ((Boxed.new w _ _).alloc _).alloc _
 have F:je (((w.alloc (ic #[.func (.func 189) #[] #[]] 262)).alloc (ic #[ih A 0 0] 31)).alloc (ic #[I N (512+d)] 264)) (w.heap.size+1) 31 (ih A 0 0):=by
  have:=Boxed.new (w.alloc (ic #[.func (.func 189) #[] #[]] 262)) 31 (ih A 0 0);rw[jv]at this;exact this.alloc _
 have t:je (((w.alloc (ic #[.func (.func 189) #[] #[]] 262)).alloc (ic #[ih A 0 0] 31)).alloc (ic #[I N (512+d)] 264)) (w.heap.size+1+1) 264 (I N ((512+d:Nat):Int)):=by
  have:=Boxed.new ((w.alloc (ic #[.func (.func 189) #[] #[]] 262)).alloc (ic #[ih A 0 0] 31)) 264 (I N ((512+d:Nat):Int));rw[jv,jv]at this;exact this
 have H:jb w w (((w.alloc (ic #[.func (.func 189) #[] #[]] 262)).alloc (ic #[ih A 0 0] 31)).alloc (ic #[I N (512+d)] 264)):=
  (((jn _ w).alloc (jh _) _).alloc ar _).alloc (by simp;omega) _
 have a:(((w.alloc (ic #[.func (.func 189) #[] #[]] 262)).alloc (ic #[ih A 0 0] 31)).alloc (ic #[I N (512+d)] 264)).heap.size=w.heap.size+3:=by simp
 generalize(((w.alloc (ic #[.func (.func 189) #[] #[]] 262)).alloc (ic #[ih A 0 0] 31)).alloc (ic #[I N (512+d)] 264))=o at E F t H a⊢;have a4:ja (o.heap.size=w.heap.size+3):=a;have a5:w.heap.size+3<=o.heap.size:=Y;clear a;refine nO (n:=0) (gf:=243) (lb:=#[jj (T ⟨w.heap.size+1+1,0,A⟩)]) rfl (qf func243 ae rfl)
  (B4 (512+d) 10 Y Y (w.heap.size+1+1) o t) (jw _) (λ_=>rfl) (by rintro k rfl;exact t.lt)
  (λf Ψ W=>kN (w.heap.size+1) 31 w.heap.size 3 1 f.length (f.map λn=>js .i64 (fI n:Nat)) (λ_=>True) Ψ W/\(je W w.heap.size 262 (.func (.func 189) #[] #[])/\¬Ψ w.heap.size)/\(jb w w W/\∀k,Ψ k->w.heap.size<=k))
  (λ_ _ _ _=>False)
  ((oM o.heap.size (w.heap.size+1) 31 w.heap.size 3 1 (λf=>f.length) (λf:List Nat=>f.map λn=>js .i64 (fI n:Nat)) (λ_ _=>True)).and ((gM _ _ _ (λ_=>_)).and (lq _ _ w (jh _) Y)))
  (λ_=>eZ _ _)
  ⟨⟨_,F,by omega,j7 _ _ _ _,by simp[lm],trivial⟩,⟨E,by omega⟩,H,by rintro k rfl;omega⟩
  (λx D _ _=>D={tmps:=#[I N d,.func (.func 189) #[] #[],ji,jj (T ⟨w,0,A⟩),jj (T ⟨w.heap.size+1,0,A⟩),I N 0,
   I N (512+d),I N x,jk #[I N (512+d),I N 0],I N d,jk #[I N (512+d),I N 0],I N (512+d),I N 0,I N 0,.bool false,ji,I N (512+d),
   .func (.func 243) #[] #[jj (T ⟨w.heap.size+1+1,0,A⟩)],I N x,ji,ji,ji,ji,ji,ji,ji],defers:=[]}) (eZ _ _)
  ?assign ?body ?done ?stop
 case assign=>
  intro l f x Ψ r K c _ a
  gi_wp2
  exact a _ _ (jn _ _) c rfl
 case body=>
  rintro l f x Ψ D r ⟨⟨v,c,K,i,M,-⟩,⟨q,P⟩,m,Q⟩ rfl g VD ba WR;obtain⟨hx,bb⟩:=C8 10 (512+d) Y g;clear g;have u:=c.cell;have R:=q.cell;have y:=O m;have al:=m.size;clear m
  gi_wp2
  refine Fg (λg=>g.cell? ⟨w.heap.size+1,0,A⟩=T v/\g.cell? ⟨w,0,A⟩=T (.func (.func 189) #[] #[])) 6
   [(0,true),(1,true),(2,true),(3,false),(4,false),(5,false),(6,false)] ae ae ae ae rfl (λ_ _ _ _ h=>h) (fun⟨_,_,h⟩=>h) ⟨u,R⟩ ?_
  refine cT (v:=?_) rfl rfl (λg j=>?_) ?_
  rotate_left
  ·obtain⟨k,s⟩:=j;go_simp;with_reducible rfl
  refine cT (v:=?_) rfl rfl (λg j=>?_) ?_
  rotate_left
  ·obtain⟨k,s⟩:=j;go_simp;with_reducible rfl
  refine cT (v:=?_) rfl rfl (λg j=>?_) ?_
  rotate_left
  ·go_simp;with_reducible rfl
  refine aR rfl (λz a=>?_);go_simp;refine(Gk _ Y _).mono ?_;rintro e w' ⟨rfl,rfl⟩;refine a _ _ ⟨u,R⟩ λ_=>?_
  clear a;refine aR rfl (λz a=>?_);go_simp;have RO:(r.alloc (ic #[I N (fI x:Nat)] 3)).cell? ⟨w.heap.size+1,0,A⟩=T v:=(c.alloc _).cell;have B:(r.alloc (ic #[I N (fI x:Nat)] 3)).cell? ⟨w,0,A⟩=T (.func (.func 189) #[] #[]):=(q.alloc _).cell;refine a _ _ ⟨RO,B⟩ λ_=>?_
  clear a;refine aR rfl (λz a=>?_);refine step_append_lies _ rfl (.tmp 19) (.tmp 23) 31 rfl w.heap.size 3 X (I N 0) 1 8 qg hi Qs aa ad rfl L v f.length _ rfl (i.alloc _)
   ⟨r,0,A⟩ 1 1 [I N (fI x:Nat)] rfl rfl (cell_one_new _ _ _) (by simp[j8]) Y (by unfold jI;omega) Y (by simp;omega) _ rfl ?_
  intro g k S YP YO au bc;have C:=grownBy_drew YO;obtain⟨s,a1⟩:=oF (B0:=o.heap.size) c L i al Y K M VD YP C (by
   intro j U;simp only[lm,Option.some.injEq]at U;subst U;simpa using au)
  have j:je S w.heap.size 262 (.func (.func 189) #[] #[]):=(q.alloc _).kept C (by have:=q.not_row (e:=3) L i;exact this);have U:je S (w.heap.size+1) 31 v:=(c.alloc _).kept C (by have:=c.not_row (e:=3) L i;exact this);have a2:=U.cell;have bd:=U.frozen;have a3:=j.cell;refine a _ _ ⟨a2,a3⟩ λ_=>?_
  clear a;refine gu rfl (λz a=>?_);go_simp;refine a _ _ ⟨⟨s.1,s.2.1.mono (jw _),s.2.2⟩,?_,⟨j.other Y _,P⟩,y.trans s.2.1,Q⟩;obtain⟨z,b1,b2,b3,b4,-⟩:=a1;exact⟨z,b1,b2,by simpa using b3,b4,trivial⟩
 case done=>
  rintro D xs Ψ W s rfl ⟨⟨v,c,K,i,M,-⟩,⟨q,P⟩,m,Q⟩ a;have u:=c.cell;have x:=c.frozen;have y:=O m;clear m;have j:=r8 d V;rw[j]at i;clear j;obtain⟨g,k,rfl⟩:=ownsRow_succ i
  gi_wp2
  refine⟨by simp,.inl ⟨_,_,rfl,km (b:=D) (ds:=[]) ?_,?_⟩⟩
  ·exact(KeepsOthers.setCell W _ _).same D _ a rfl
  have j:je (W.setCell ⟨w.heap.size+1,0,A⟩ (ih (T ⟨g,0,A⟩) 9 k)) (w.heap.size+1) 31 (ih (T ⟨g,0,A⟩) 9 k):=c.set _;have l:(W.setCell ⟨w.heap.size+1,0,A⟩ (ih (T ⟨g,0,A⟩) 9 k)).heap[D]?=T (.deferred (T [])):=(KeepsOthers.setCell W _ _).same D _ a rfl;have m:(W.setCell ⟨w.heap.size+1,0,A⟩ (ih (T ⟨g,0,A⟩) 9 k)).ownsRow w.heap.size 3 1 (ih (T ⟨g,0,A⟩) 9 k) 9 ((upL 10 (512+d)).map λn=>js .i64 (fI n:Nat)):=
   i.kept (j6 W _ _) (.inr (c.not_row (e:=3) L i).symm)
  have r:je ((W.setCell ⟨w.heap.size+1,0,A⟩ (ih (T ⟨g,0,A⟩) 9 k)).putObj D (.deferred A)) (w.heap.size+1) 31 (ih (T ⟨g,0,A⟩) 9 k):=
   (qk Y).trans j
  have B:=r.cell;refine⟨jk #[ih (T ⟨g,0,A⟩) 9 k,I N 0],by simp[results,results170,go_sem,B],_,rfl,qI m _ l rfl,?_⟩;exact(y.setCell (p:=⟨w.heap.size+1,0,A⟩) ar _).trans (ie Y)
 intro D c f Ψ W _ _ h;exact h.elim
set_option maxRecDepth 100000 in
theorem F9(d:Nat)(V:d<512)(w:ii):
 jg jd 170 #[I N d,.func (.func 171) #[] #[]] w λe w'=>∃v,e=jf (jk #[v,I N 0])/\
  w'.ownsRow w 3 1 v 9 ((upL 10 (512+d)).map λn=>js .i64 (gN n:Nat))/\jb w w w':=by
 obtain⟨X,hi,Qs,aa,ad⟩:=qh zz;refine(j5 (n:=0)).1 ?_;refine qs func170 rfl trivial ?_ rfl;simp only[ntmps170,jV,jA,jW,jX,jY,jZ,j0,j1,j3,jR,jS]
 gi_wp2_with fail
 refine⟨trivial,rfl,(callsIn_wide.2 (Dv _ Y Y _)).mono ?_⟩;rintro e w' ⟨rfl,rfl⟩
 gi_wp2_with fail
 refine⟨trivial,rfl,(callsIn_wide.2 (CG _ _)).mono ?_⟩;rintro e w' ⟨rfl,rfl⟩
 gi_wp2_with fail
 have E:je (((w.alloc (ic #[.func (.func 171) #[] #[]] 262)).alloc (ic #[ih A 0 0] 31)).alloc (ic #[I N (512+d)] 264)) w.heap.size 262 (.func (.func 171) #[] #[]):=
  ((Boxed.new w _ _).alloc _).alloc _
 have F:je (((w.alloc (ic #[.func (.func 171) #[] #[]] 262)).alloc (ic #[ih A 0 0] 31)).alloc (ic #[I N (512+d)] 264)) (w.heap.size+1) 31 (ih A 0 0):=by
  have:=Boxed.new (w.alloc (ic #[.func (.func 171) #[] #[]] 262)) 31 (ih A 0 0);rw[jv]at this;exact this.alloc _
 have t:je (((w.alloc (ic #[.func (.func 171) #[] #[]] 262)).alloc (ic #[ih A 0 0] 31)).alloc (ic #[I N (512+d)] 264)) (w.heap.size+1+1) 264 (I N ((512+d:Nat):Int)):=by
  have:=Boxed.new ((w.alloc (ic #[.func (.func 171) #[] #[]] 262)).alloc (ic #[ih A 0 0] 31)) 264 (I N ((512+d:Nat):Int));rw[jv,jv]at this;exact this
 have H:jb w w (((w.alloc (ic #[.func (.func 171) #[] #[]] 262)).alloc (ic #[ih A 0 0] 31)).alloc (ic #[I N (512+d)] 264)):=
  (((jn _ w).alloc (jh _) _).alloc ar _).alloc (by simp;omega) _
 have a:(((w.alloc (ic #[.func (.func 171) #[] #[]] 262)).alloc (ic #[ih A 0 0] 31)).alloc (ic #[I N (512+d)] 264)).heap.size=w.heap.size+3:=by simp
 generalize(((w.alloc (ic #[.func (.func 171) #[] #[]] 262)).alloc (ic #[ih A 0 0] 31)).alloc (ic #[I N (512+d)] 264))=o at E F t H a⊢;have a4:ja (o.heap.size=w.heap.size+3):=a;have a5:w.heap.size+3<=o.heap.size:=Y;clear a;refine nO (n:=0) (gf:=243) (lb:=#[jj (T ⟨w.heap.size+1+1,0,A⟩)]) rfl (qf func243 ae rfl)
  (B4 (512+d) 10 Y Y (w.heap.size+1+1) o t) (jw _) (λ_=>rfl) (by rintro k rfl;exact t.lt)
  (λf Ψ W=>kN (w.heap.size+1) 31 w.heap.size 3 1 f.length (f.map λn=>js .i64 (gN n:Nat)) (λ_=>True) Ψ W/\(je W w.heap.size 262 (.func (.func 171) #[] #[])/\¬Ψ w.heap.size)/\(jb w w W/\∀k,Ψ k->w.heap.size<=k))
  (λ_ _ _ _=>False)
  ((oM o.heap.size (w.heap.size+1) 31 w.heap.size 3 1 (λf=>f.length) (λf:List Nat=>f.map λn=>js .i64 (gN n:Nat)) (λ_ _=>True)).and ((gM _ _ _ (λ_=>_)).and (lq _ _ w (jh _) Y)))
  (λ_=>eZ _ _)
  ⟨⟨_,F,by omega,j7 _ _ _ _,by simp[lm],trivial⟩,⟨E,by omega⟩,H,by rintro k rfl;omega⟩
  (λx D _ _=>D={tmps:=#[I N d,.func (.func 171) #[] #[],ji,jj (T ⟨w,0,A⟩),jj (T ⟨w.heap.size+1,0,A⟩),I N 0,
   I N (512+d),I N x,jk #[I N (512+d),I N 0],I N d,jk #[I N (512+d),I N 0],I N (512+d),I N 0,I N 0,.bool false,ji,I N (512+d),
   .func (.func 243) #[] #[jj (T ⟨w.heap.size+1+1,0,A⟩)],I N x,ji,ji,ji,ji,ji,ji,ji],defers:=[]}) (eZ _ _)
  ?assign ?body ?done ?stop
 case assign=>
  intro l f x Ψ r K c _ a
  gi_wp2
  exact a _ _ (jn _ _) c rfl
 case body=>
  rintro l f x Ψ D r ⟨⟨v,c,K,i,M,-⟩,⟨q,P⟩,m,Q⟩ rfl g VD ba WR;obtain⟨hx,bb⟩:=C8 10 (512+d) Y g;clear g;have u:=c.cell;have R:=q.cell;have y:=O m;have al:=m.size;clear m
  gi_wp2
  refine Fg (λg=>g.cell? ⟨w.heap.size+1,0,A⟩=T v/\g.cell? ⟨w,0,A⟩=T (.func (.func 171) #[] #[])) 6
   [(0,true),(1,true),(2,true),(3,false),(4,false),(5,false),(6,false)] ae ae ae ae rfl (λ_ _ _ _ h=>h) (fun⟨_,_,h⟩=>h) ⟨u,R⟩ ?_
  refine cT (v:=?_) rfl rfl (λg j=>?_) ?_
  rotate_left
  ·obtain⟨k,s⟩:=j;go_simp;with_reducible rfl
  refine cT (v:=?_) rfl rfl (λg j=>?_) ?_
  rotate_left
  ·obtain⟨k,s⟩:=j;go_simp;with_reducible rfl
  refine cT (v:=?_) rfl rfl (λg j=>?_) ?_
  rotate_left
  ·go_simp;with_reducible rfl
  refine aR rfl (λz a=>?_);go_simp;refine(JD _ Y _).mono ?_;rintro e w' ⟨rfl,rfl⟩;refine a _ _ ⟨u,R⟩ λ_=>?_
  clear a;refine aR rfl (λz a=>?_);go_simp;have RO:(r.alloc (ic #[I N (gN x:Nat)] 3)).cell? ⟨w.heap.size+1,0,A⟩=T v:=(c.alloc _).cell;have B:(r.alloc (ic #[I N (gN x:Nat)] 3)).cell? ⟨w,0,A⟩=T (.func (.func 171) #[] #[]):=(q.alloc _).cell;refine a _ _ ⟨RO,B⟩ λ_=>?_
  clear a;refine aR rfl (λz a=>?_);refine step_append_lies _ rfl (.tmp 19) (.tmp 23) 31 rfl w.heap.size 3 X (I N 0) 1 8 qg hi Qs aa ad rfl L v f.length _ rfl (i.alloc _)
   ⟨r,0,A⟩ 1 1 [I N (gN x:Nat)] rfl rfl (cell_one_new _ _ _) (by simp[j8]) Y (by unfold jI;omega) Y (by simp;omega) _ rfl ?_
  intro g k S YP YO au bc;have C:=grownBy_drew YO;obtain⟨s,a1⟩:=oF (B0:=o.heap.size) c L i al Y K M VD YP C (by
   intro j U;simp only[lm,Option.some.injEq]at U;subst U;simpa using au)
  have j:je S w.heap.size 262 (.func (.func 171) #[] #[]):=(q.alloc _).kept C (by have:=q.not_row (e:=3) L i;exact this);have U:je S (w.heap.size+1) 31 v:=(c.alloc _).kept C (by have:=c.not_row (e:=3) L i;exact this);have a2:=U.cell;have bd:=U.frozen;have a3:=j.cell;refine a _ _ ⟨a2,a3⟩ λ_=>?_
  clear a;refine gu rfl (λz a=>?_);go_simp;refine a _ _ ⟨⟨s.1,s.2.1.mono (jw _),s.2.2⟩,?_,⟨j.other Y _,P⟩,y.trans s.2.1,Q⟩;obtain⟨z,b1,b2,b3,b4,-⟩:=a1;exact⟨z,b1,b2,by simpa using b3,b4,trivial⟩
 case done=>
  rintro D xs Ψ W s rfl ⟨⟨v,c,K,i,M,-⟩,⟨q,P⟩,m,Q⟩ a;have u:=c.cell;have x:=c.frozen;have y:=O m;clear m;have j:=r8 d V;rw[j]at i;clear j;obtain⟨g,k,rfl⟩:=ownsRow_succ i
  gi_wp2
  refine⟨by simp,.inl ⟨_,_,rfl,km (b:=D) (ds:=[]) ?_,?_⟩⟩
  ·exact(KeepsOthers.setCell W _ _).same D _ a rfl
  have j:je (W.setCell ⟨w.heap.size+1,0,A⟩ (ih (T ⟨g,0,A⟩) 9 k)) (w.heap.size+1) 31 (ih (T ⟨g,0,A⟩) 9 k):=c.set _;have l:(W.setCell ⟨w.heap.size+1,0,A⟩ (ih (T ⟨g,0,A⟩) 9 k)).heap[D]?=T (.deferred (T [])):=(KeepsOthers.setCell W _ _).same D _ a rfl;have m:(W.setCell ⟨w.heap.size+1,0,A⟩ (ih (T ⟨g,0,A⟩) 9 k)).ownsRow w.heap.size 3 1 (ih (T ⟨g,0,A⟩) 9 k) 9 ((upL 10 (512+d)).map λn=>js .i64 (gN n:Nat)):=
   i.kept (j6 W _ _) (.inr (c.not_row (e:=3) L i).symm)
  have r:je ((W.setCell ⟨w.heap.size+1,0,A⟩ (ih (T ⟨g,0,A⟩) 9 k)).putObj D (.deferred A)) (w.heap.size+1) 31 (ih (T ⟨g,0,A⟩) 9 k):=
   (qk Y).trans j
  have B:=r.cell;refine⟨jk #[ih (T ⟨g,0,A⟩) 9 k,I N 0],by simp[results,results170,go_sem,B],_,rfl,qI m _ l rfl,?_⟩;exact(y.setCell (p:=⟨w.heap.size+1,0,A⟩) ar _).trans (ie Y)
 intro D c f Ψ W _ _ h;exact h.elim
theorem OU(d:Nat)(a:d<512)(w:ii):
 jg jd 139 #[I N d] w λe w'=>∃v,e=jf (jk #[v,I N 0])/\
  w'.ownsRow w 3 1 v 9 (iv (gL d))/\jb w w w':=by
 rw[Gn]
 go_enter func139,ntmps139
 go_wp2_with fail
 refine(MP d a _).mono ?_;rintro e w' ⟨v,rfl,b,c⟩
 go_wp2
 go_ret2;exact⟨v,rfl,b,c⟩
theorem Hn(d:Nat)(a:d<512)(w:ii):
 jg jd 119 #[I N d] w λe w'=>∃v,e=jf (jk #[v,I N 0])/\
  w'.ownsRow w 3 1 v 9 (iv (lN d))/\jb w w w':=by
 rw[Ph]
 go_enter func119,ntmps119
 go_wp2_with fail
 refine(F9 d a _).mono ?_;rintro e w' ⟨v,rfl,b,c⟩
 go_wp2
 go_ret2;exact⟨v,rfl,b,c⟩
end
section
open Go.RowKit Go.Sort
theorem z6(v:jc)(xs:List Int)(base b:Nat)(w:ii)(h:w.ownsRow base 3 1 v xs.length (xs.map (js .i64)))(o:b<=base)(p:xs.length<=1000000):
 jg jd 140 #[v] w λe w'=>e=jf (jk #[])/\w'.ownsRow base 3 1 v xs.length ((xs.mergeSort leI).map (js .i64))/\jb b w w':=by
 rcases h.2 with⟨rfl,c⟩|⟨g,d,q,rfl,f,a,i,j,l,m⟩
 ·refine(Tryzx.slices_Sort_int_none A 0 w).mono ?_
  rintro e w' ⟨rfl,rfl⟩;have:xs=[]:=qm c;subst this;exact⟨rfl,by simpa using h,jn _ _⟩
 refine(Tryzx.slices_Sort_int g 0 d xs w (holds_of_block_i a (by simpa using m)) (jy.1 a).1 Y).mono ?_;rintro e w' ⟨rfl,n,os,rfl⟩;exact⟨rfl,ownsRow_sorted_i ar f a i j l,(jn b w).grown (grownBy_sorted_i _) (by have:=(jy.1 a).1;omega) (λk e=>by cases e;omega)⟩
theorem Cl{gf:Nat}{lb:Array jc}(d:∀args w,(callFunc gf args).run jd w=.ok (.enter gf args) w){c:Nat->Prop}{n₀:Nat}{S m V:List Int->Prop}{w:ii}
 (f:dK jd gf lb (λx:Int=>#[I N x]) c n₀ S m V w) (g:n₀<=w.heap.size) (h:∀k,c k->k<w.heap.size) (i:∀a,V a->a.length<=1000000) (a:∀xs,S xs->xs.length<=1000000) (b:Nat) (j:b<=w.heap.size) (l:∀k,c k->b<=k):
 jg jd 150 #[.func (.func gf) #[] lb] w λe w'=>∃v xs,e=jf v/\S xs/\w'.ownsRow w 3 1 v xs.length ((xs.mergeSort leI).map (js .i64))/\jb b w w':=by
 have k:=O (AP d f g h i b j l);have n:=O a;clear d f g h i l a
 go_enter func150,ntmps150
 go_wp2_with fail
 refine k.mono ?_;rintro e g ⟨v,xs,rfl,a,d,f⟩;have h:=O (z6 v xs w.heap.size b g d j (n xs a));have i:=O f;clear d f
 go_wp2_with fail
 refine h.mono ?_;rintro e p ⟨rfl,d,f⟩;have l:=O d;have o:=O f;clear d f
 go_wp2
 go_ret;exact⟨v,xs,rfl,a,l,i.trans o⟩
theorem F8(v:jc)(xs:List Int)(base a:Nat)(w:ii)(h:w.ownsRow base 3 1 v xs.length (xs.map (js .i64)))(y:a<=base)(z:xs.length<=1000000):
 jg jd 141 #[v] w λe w'=>∃c,e=jf c/\w'.ownsRow base 3 1 c (Lib.compact xs).length ((Lib.compact xs).map (js .i64))/\jb a w w':=by
 rcases h.2 with⟨rfl,o⟩|⟨g,d,p,rfl,r,b,B,s,f,t⟩
 ·refine(Tryzx.slices_Compact_int_empty A 0 w).mono ?_
  rintro e w' ⟨rfl,rfl⟩;have:xs=[]:=qm o;subst this;exact⟨_,rfl,by simpa [Lib.compact,Lib.compactUpTo]using h,jn _ _⟩
 have C:=(jy.1 b).1;refine(Tryzx.slices_Compact_int g 0 d xs w (holds_of_block_i b (by simpa using t)) Y Y).mono ?_;rintro e w' ⟨rfl,q,rfl⟩;have u:(Lib.compact xs).length<=xs.length:=by
  unfold Lib.compact Lib.compactUpTo;rw[lo];exact jr (qA _ _) ar
 have x:∀W:ii,grow W #[]=W:=λW=>by simp[grow]
 have i:=heap_sorted_i (n:=q) (os:=#[]) (Lib.compact xs++ol (xs.length-(Lib.compact xs).length) 0).toArray b;have j:=grownBy_sorted_i (w:=w) (g:=g) (n:=q) (os:=#[]) (Lib.compact xs++ol (xs.length-(Lib.compact xs).length) 0).toArray;rw[x]at i j;refine⟨_,rfl,⟨by simp,.inr ⟨g,d,_,rfl,r,i,by omega,s,by simp[putCells,f],?_⟩⟩,(jn a w).grown j Y (λk e=>by cases e;omega)⟩;have k:(Lib.compact xs++ol (xs.length-(Lib.compact xs).length) 0).length=xs.length:=by simp;omega
 have l:=take_putCells_i p (Lib.compact xs++ol (xs.length-(Lib.compact xs).length) 0) (by rw[k,f];omega);rw[k]at l;have m:=congrArg (List.take (Lib.compact xs).length) l;rw[List.take_take,qB u]at m;rw[qC,m,<-List.map_take,List.take_left']
 rfl
end
theorem yT(t:List (Int×Int))(a p:Int):ft (t++[(a,p)])=ft t++if 512<=a/\a<=1023 then [a-512]else []:=by
 unfold ft;rw[List.filter_append,ki]
 congr 1
 by_cases h:512<=a/\a<=1023
 ·simp[h.1,h.2]
 rw[if_neg h];simp only[List.filter_cons,List.filter_nil];rw[if_neg (by simpa using h)]
 rfl
theorem uk(t:List (Int×Int)):(ft t).length<=t.length:=by
 unfold ft;rw[lo];exact qA _ _
theorem yE{w wr:ii}{t:List (Int×Int)}{g o k:Nat}(i:∀j,j<t.length->w.cell? ⟨g,o+j*2,A⟩=T (I N (t.getD j (0,0)).1)/\w.cell? ⟨g,o+j*2+1,A⟩=T (I N (t.getD j (0,0)).2))
 (d:∀x∈t,I64 x.1/\I64 x.2) (hk:k<t.length) (e:jb w w wr):
 ∃a p,wr.cell? ⟨g,o+k*2,A⟩=T (I N a)/\wr.cell? ⟨g,o+k*2+1,A⟩=T (I N p)/\I64 a/\I64 p/\t.getD k (0,0)=(a,p)/\t.take (k+1)=t.take k++[(a,p)]/\(a,p)∈t:=by
 obtain⟨f,h⟩:=i k hk;have b:t.getD k (0,0)=t[k]:=by simp[j4,hk]
 have c:t[k]∈t:=pa hk;refine⟨t[k].1,t[k].2,?_,?_,(d _ c).1,(d _ c).2,b,by rw[kn hk],c⟩
 ·rw[<-b];exact bD f (e.block g (dV f))
 rw[<-b];exact bD h (e.block g (dV h))
theorem pW(t:List (Int×Int))(v:jc)(w:ii)(f:aT w v t)(u:t.length<=1000000):
 jg jd 76 #[jm #[v]] w λe w'=>∃b,e=jf b/\w'.ownsRow w 3 1 b (aV t).length ((aV t).map (js .i64))/\jb w w w':=by
 obtain⟨p,c,rfl,F,j,d,g⟩:=f;obtain⟨H,K,M,P,Q⟩:=qh AH
 go_enter func76,ntmps76
 go_wp2_with fail
 obtain⟨x,a⟩:=J (w.alloc (ic #[ih p t.length c] 27));have i:jb w w x:=by rw[a];exact(jn _ w).alloc (jh _) _
 have R:=O (j7 x w.heap.size 3 1);rw[<-a];clear a;have S:=O i;have U:=O d;have V:=O g;have y:=O (λk=>jr (uk (t.take k)) (by rw[List.length_take];exact Nat.min_le_left k _));obtain⟨n,a⟩:=J t.length;have h:=O a;rw[<-a]at u F⊢;clear i d g a j
 go_loopw [2,8] (λb i wr=>∃k:Nat,i=I N k/\k<=n/\ja (wr.ownsRow w 3 1 b (ft (t.take k)).length ((ft (t.take k)).map (js .i64)))/\ja (jb w w wr)) (λ_ i _=>n-(jo i).toNat)
 case atStart=>exact⟨0,rfl,jw _,R,S⟩
 obtain⟨k,rfl,hk,z,d⟩:=hrel
 by_cases W:k<n
 ·have X:=aj ((k:Int)<(n:Int))
  have Q3:=aj (k<n);obtain⟨g,o,rfl,j⟩:=U.out (by rw[<-h];omega);obtain⟨a,m,c1,c2,B,q,-,f,-⟩:=yE j V.out (by rw[<-h];exact W) d;have r:=O f;have al:=y k;have s:=O (d.alloc d.size (ic #[I N a,I N m] 224));have i:=O (z.alloc (ic #[I N a,I N m] 224));have au:w.heap.size<=wr.heap.size:=d.size;clear j f B q
  by_cases h5:512<=a
  ·have aa:=aj (512<=a)
   by_cases h6:a<=1023
   ·have ad:=aj (a<=1023)
    have C:=O (cell_one_new (wr.alloc (ic #[I N a,I N m] 224)) (I N (a-512)) 3);rw[jv]at C
    go_wp2_with (at_builtin;refine qJ _ rfl _ _ 31 rfl w.heap.size 3 H (I N 0) 1 8 qg K M P Q rfl L _ _ _ rfl (i.alloc _) ⟨wr.heap.size+1,0,A⟩ 1 1 [I N (a-512)] rfl rfl C (by simp[j8]) (by unfold jI;omega) Y (by simp;omega) ?_;intro v' B D E _)
    have RJ:=O D;have l:=s.out;have Qj:=O ((Below.alloc l l.size (ic #[I N (a-512)] 3)).grown E (by have:=l.size;simp;omega) (λj hj=>(i.lt j hj).1));clear D E l;refine⟨⟨k+1,by go_num,by omega,?_,Qj⟩,by simp only[jo];omega⟩;rw[r,yT,if_pos ⟨h5,h6⟩,jG,ki];exact RJ
   have ad:=ak (a<=1023)
   go_wp2
   refine⟨⟨k+1,by go_num,by omega,?_,s⟩,by simp only[jo];omega⟩;rw[r,yT,if_neg Y,ob];exact i
  have aa:=ak (512<=a)
  go_wp2
  refine⟨⟨k+1,by go_num,by omega,?_,s⟩,by simp only[jo];omega⟩;rw[r,yT,if_neg Y,ob];exact i
 have X:=ak ((k:Int)<(n:Int));have Q3:=ak (k<n);obtain rfl:k=n:=Y;have a:=z.out;rw[h,qO]at a;have i:=y k;have g:(ft t).length<=1000000:=jr (uk t) (by rw[<-h];exact u);have j:=O (z6 _ (ft t) w.heap.size w.heap.size wr a (jh _) g);have l:=O g;clear a i g
 go_wp2_with fail
 refine j.mono ?_;rintro e q ⟨rfl,g,i⟩;have a:((ft t).mergeSort leI).length=(ft t).length:=qW _;have m:=O (F8 _ ((ft t).mergeSort leI) w.heap.size w.heap.size q (by rw[a];exact g) (jh _) (by rw[a];exact l));have o:=O i;clear g i a
 go_wp2_with fail
 refine m.mono ?_;rintro e s ⟨b,rfl,a,g⟩;have i:=O a;have r:=O g;clear a g
 go_wp2
 go_ret;exact⟨b,rfl,i,d.trans (o.trans r)⟩
theorem Gg(t:List (Int×Int))(v:jc)(x:Int)(w:ii)(d:aT w v t)(h:t.length<=1000000)(g:I64 x):
 jg jd 44 #[jm #[v],I N x] w λe w'=>e=jf (jk #[I N ((ofF t x).getD 0),.bool (ofF t x).isSome])/\jb w w w':=by
 have a:jb w w (w.alloc (ic #[v] 27)):=(jn _ w).alloc (jh _) _;have i:=O (vA t v (w.alloc (ic #[v] 27)) (d.below a) h);obtain⟨p,c,rfl,-,-,-,-⟩:=d;have j:=O g;have k:=O a;obtain⟨f,b⟩:∃f,ofF t x=f:=⟨_,rfl⟩;rw[b];have l:=O b;clear g a b
 go_enter func44,ntmps44
 go_wp2_with fail
 refine i.mono ?_;rintro e q ⟨b,rfl,m,a,g⟩;have n:=O a;have o:=ac k g;clear a g m
 go_wp2_with (at_lookup;refine sW (he:=jl) rfl _ _ 152 rfl jl jU (nj _) b t.length _ rfl n x rfl j ?_;rw[l])
 go_ret2;exact⟨rfl,o⟩
theorem ni{w:ii}{B:Nat}{v:jc}{l:List Int}(h:w.ownsRow B 3 1 v l.length (l.map (js .i64))):
 ∃p c,v=ih p l.length c/\l.length<=c/\(0<l.length->∃g,p=T ⟨g,0,A⟩/\B<=g/\g<w.heap.size/\∀j,j<l.length->w.cell? ⟨g,j,A⟩=T (I N (l.getD j 0))):=by
 rcases h.2 with⟨rfl,d⟩|⟨g,f,n,rfl,i,a,k,o,q,m⟩
 ·exact⟨A,0,by rw[d],by omega,λh=>by omega⟩
 refine⟨_,f,rfl,k,λ_=>⟨g,rfl,i,(jy.1 a).1,λj b=>?_⟩⟩;have e:=congrArg (λz:List jc=>z[j]?) m;simp only[qC]at e;rw[qX b]at e;unfold jH;rw[a];simp only[qY,qZ,if_false];rw[<-q4,e];simp[j4,b]
def dq(a:List Int)(y:Int):Option Bool:=if y∈a then T true else A
theorem vD(a:List Int)(z:Int):(λy=>if y=z then T true else dq a y)=dq (a++[z]):=by
 funext y
 unfold dq
 by_cases h:y=z
 ·simp[h]
 simp[h]
def aQ(d:Int):List Int:=(gL d.toNat).map λn:Nat=>(n:Int)
def eN(a:List Int):List Int:=a.flatMap λd=>(512+d)::aQ d
theorem Jn(a:List Int)(d:Int):eN (a++[d])=(eN a++[512+d])++aQ d:=by
 simp[eN,List.flatMap_append]
theorem ry(d:Int)(a:0<=d)(b:d<512):(aQ d).length=9:=by
 unfold aQ gL;rw[lo,lo,r8 _ Y]
theorem wH(d:Int)(c:0<=d)(e:d<512):∀x∈aQ d,0<=x/\x<1024:=by
 intro x a;unfold aQ gL at a;simp only[oo]at a;obtain⟨n,⟨m,b,rfl⟩,rfl⟩:=a;have:=vH 10 (512+d.toNat) m b;unfold fI;omega
theorem zS(d:Int)(a:0<=d)(b:d<512)(w:ii):
 jg jd 139 #[I N d] w λe w'=>∃v,e=jf (jk #[v,I N 0])/\w'.ownsRow w 3 1 v (aQ d).length ((aQ d).map (js .i64))/\jb w w w':=by
 obtain⟨n,rfl⟩:=q5 a;refine(OU n Y w).mono ?_;rintro e w' ⟨v,rfl,c,f⟩;refine⟨v,rfl,?_,f⟩;rw[ry _ a b];have e:iv (gL n)=(aQ (n:Int)).map (js .i64):=by simp[iv,aQ,Function.comp_def]
 rw[<-e];exact c
def kS(t:List (Int×Int))(U:List Int)(i:Nat):Prop:=
 (t.getD i (0,0)).1<1\/1023<(t.getD i (0,0)).1\/(0<i/\(t.getD i (0,0)).1<=(t.getD (i-1) (0,0)).1)\/¬aM (t.getD i (0,0)).2\/(t.getD i (0,0)).1∉U
def Iy(t:List (Int×Int)):Prop:=∃i,i<t.length/\kS t (eN (aV t)) i
noncomputable def cN(t:List (Int×Int)):Int:=by classical exact if Iy t then 210 else 0
theorem vC{B:Nat}{a w:ii}(h:jb B a w)(n:Nat):jb B a (w.drewN n):=h.trans ⟨rfl,rfl,rfl,jh _,λ_ _=>rfl⟩
theorem lI{x y:Int}(h:x=y):Ending.returned (I N y)=jf (I N x):=by rw[h]
theorem zq{t:List (Int×Int)}{U:List Int}{k:Nat}{a q:Int}(h:t.getD k (0,0)=(a,q))(e:1<=a)(f:a<=1023)(b:¬(0<k/\a<=(t.getD (k-1) (0,0)).1))(c:aM q)(d:a∈U):¬kS t U k:=by
 unfold kS;rw[h];rintro(x|x|x|x|x)
 ·exact absurd x (by show ¬a<1;omega)
 ·exact absurd x (by show ¬1023<a;omega)
 ·exact b x
 ·exact x c
 exact x d
theorem good_step{t:List (Int×Int)}{U:List Int}{k:Nat}(h:∀j,j<k->¬kS t U j)(hk:¬kS t U k):∀j,j<k+1->¬kS t U j:=by
 intro j b
 rcases oj j k with a|a
 ·exact h j a
 obtain rfl:j=k:=Y;exact hk
theorem yL(w:ii):(zeroValue 4).run jd w=.ok (.bool false) w:=by kernel_rfl
theorem lS{t:List (Int×Int)}{k:Nat}{U:List Int}(a:U=eN (aV t))(hk:k<t.length)(h:kS t U k):cN t=210:=by
 unfold cN;rw[if_pos];subst a;exact⟨k,hk,h⟩
theorem zr{t:List (Int×Int)}{U:List Int}(a:U=eN (aV t))(h:∀j,j<t.length->¬kS t U j):cN t=0:=by
 unfold cN;rw[if_neg];subst a;rintro⟨i,b,c⟩;exact h i b c
theorem tY(t:List (Int×Int))(v:jc)(w:ii)(ht:aT w v t)(hl:t.length<=1000000):
 jg jd 72 #[jm #[v]] w λe w'=>e=jf (I N (cN t))/\jb w w w':=by
 have a:jb w w ((w.alloc (ic #[v] 27)).alloc (.map #[] 0)):=((jn _ w).alloc (jh _) _).alloc ar _;have j:=O (pW t v ((w.alloc (ic #[v] 27)).alloc (.map #[] 0)) (ht.below a) hl);have b:aH (fO jK) 3 ((w.alloc (ic #[v] 27)).alloc (.map #[] 0)) (w.heap.size+1) 0 (λ_=>A):=by
  have h:=aH.made (fO jK) 3 (w.alloc (ic #[v] 27));rw[jv]at h;exact h
 have X:=O ht;obtain⟨p,c,rfl,hc,-,-,-⟩:=ht;obtain⟨W0,i⟩:=J ((w.alloc (ic #[ih p t.length c] 27)).alloc (.map #[] 0));have k:W0.heap[w.heap.size]?=T (ic #[ih p t.length c] 27 (0,0)):=by
  rw[i];exact(ju _ _ _ ar).trans (jt w _)
 have d:=@run_makeMap jd
 go_enter func72,ntmps72
 go_wp2_with fail
 rw[<-i]at j a b⊢;clear d;refine j.mono ?_;rintro e w1 ⟨bo,rfl,ad,g⟩;obtain⟨pu,cu,rfl,ba,q⟩:=ni ad;have D:=O q;have F:=O (b.below g b.lt);have Rf:=O ((g.block _ (jy.1 k).1).trans k);have Qj:=O (a.trans (g.mono a.size));have bd:w.heap.size+1<w1.heap.size:=jD b.lt g.size;obtain⟨B,m⟩:=J (w.heap.size+1);rw[<-m]at F bd⊢;have bq:w.heap.size<B:=Y;have br:B<W0.heap.size:=by rw[i,m];simp
 have UN:=O (jr (show(aV t).length<=(ft t).length by
  unfold aV Lib.compact Lib.compactUpTo;rw[lo];exact jr (qA _ _) ar) (uk t))
 have H:=O (λd=>(mA t d).1);obtain⟨M,o⟩:=J (aV t);rw[<-o]at D UN H ba⊢;have bf:=O o;obtain⟨n,f⟩:=J M.length;have bs:n<=1000000:=by rw[f];exact jr UN hl
 have r:=O f;rw[<-f]at ba⊢;clear i k a b ad g q j m f o
 go_wp2_with fail
 go_loopw [16] (λi wr=>∃k:Nat,i=I N k/\k<=n/\ja (aH (fO jK) 3 wr B (k*10) (dq (eN (M.take k))))/\ja (jb w w wr)/\ja (∀b,b<w1.heap.size->b≠B->wr.heap[b]?=w1.heap[b]?)/\w1.heap.size<=wr.heap.size) (λi _=>n-(jo i).toNat)
 case atStart=>exact⟨0,rfl,jw _,O (F.congr (λx _=>by simp[eN,dq])),Qj,O (λ_ _ _=>rfl),jh _⟩
 obtain⟨k,rfl,hk,HM,HB,q,a5⟩:=hrel
 by_cases V:k<n
 ·have hd:=aj ((k:Int)<(n:Int))
  have Q3:=aj (k<n);obtain⟨g,rfl,bl,Tk,s⟩:=D.out (by rw[<-r];omega);have a:k<M.length:=by rw[<-r];exact V
  have j:=s k a;have m:M.getD k 0=M[k]:=by simp[j4,a]
  have U:=O (kn a);obtain⟨u,y,-⟩:=H M[k] (pa a);rw[m]at j;obtain⟨d,o⟩:=J (M[k]);rw[<-o]at j u y U;have P:wr.cell? ⟨g,k,A⟩=T (I N d):=bD j (q g Tk Y);clear j m a s o;have R6:g<wr.heap.size:=Y;have bb:=O (zS d u y);have K:=O (ry d u y);have Zn:=O (wH d u y);have a:I64 (512+d):=I64.of Y;have HI:=O a;clear a
  go_wp2_with fail
  refine(bb _).mono ?_;rintro e w2 ⟨pv,rfl,ad,a⟩;obtain⟨pp,cp,rfl,bc,j⟩:=ni ad;rw[K]at bc j⊢;obtain⟨o,rfl,bm,bg,z⟩:=j Y;have C:=O (HM.below a Y);have S:=ac HB a;have W:ja (∀b,b<w1.heap.size->b≠B->w2.heap[b]?=w1.heap[b]?):=O λb m f=>(a.block b Y).trans (q b m f)
  have bn:=a.size;have QE:=O z;clear ad a j z P
  go_wp2_with (at_mapUpdate;refine mu (E:=fO jK) rfl _ _ _ 193 rfl jl qt B _ _ rfl C (by unfold jI;omega) (512+d) rfl HI true rfl trivial ?_;intro a Wb Q;have R:=O Wb;have z:=O Q;have j:=Q.grown.size;clear Wb Q)
  have R:ja (aH (fO jK) 3 a B (k*10+1+0) (dq (eN (M.take k)++[512+d]++(aQ d).take 0))):=O (by
   have h:=R.out;rw[vD]at h
   simpa using h)
  have SC:ja (∀b,b<w1.heap.size->b≠B->a.heap[b]?=w1.heap[b]?):=O λb m f=>(z.grown.block b Y (by simpa using f)).trans (W b m f)
  have Qp:ja (jb w w a):=O (S.grown z.grown Y (λj e=>by cases e;omega));have QW:ja (∀j,j<9->a.cell? ⟨o,j,A⟩=T (I N ((aQ d).getD j 0))):=O λj hj=>bD (QE j hj) (z.grown.block o bg (by simp;omega))
  have bu:o<a.heap.size:=Y;clear z W S QE C
  go_wp2_with fail
  go_loopw [30] (λi wr=>∃j:Nat,i=I N j/\j<=9/\ja (aH (fO jK) 3 wr B (k*10+1+j) (dq (eN (M.take k)++[512+d]++(aQ d).take j)))/\ja (jb w w wr)/\ja (∀b,b<a.heap.size->b≠B->wr.heap[b]?=a.heap[b]?)/\a.heap.size<=wr.heap.size) (λi _=>9-(jo i).toNat)
  case atStart=>exact⟨0,rfl,jw _,R,Qp,O (λ_ _ _=>rfl),jh _⟩
  obtain⟨j,rfl,hj,aa,al,S,bv⟩:=hrel
  by_cases au:j<9
  ·have bh:=aj ((j:Int)<9)
   have cy:wr.cell? ⟨o,j,A⟩=T (I N ((aQ d).getD j 0)):=bD (QW j au) (S o Y Y);have C:j<(aQ d).length:=by rw[K];exact au
   have W:(aQ d).getD j 0=(aQ d)[j]:=by simp[j4,C]
   have a1:=O (kn C);have a2:=O (Zn _ (pa C));rw[W]at cy;obtain⟨z,hz⟩:=J ((aQ d)[j]);rw[<-hz]at cy a1 a2;have bk:ja (I64 z):=O (I64.of (x:=z) (aw a2));have bw:o<wr.heap.size:=Y;clear C W hz
   go_wp2_with (at_mapUpdate;refine mu (E:=fO jK) rfl _ _ _ 193 rfl jl qt B _ _ rfl aa (by unfold jI;omega) z rfl bk true rfl trivial ?_;intro w5 a3 C;have W:=O a3;have a4:=O C;have bA:=C.grown.size;clear a3 C)
   refine⟨⟨j+1,by go_num,by omega,O ?_,O (al.grown a4.grown Y (λj e=>by cases e;omega)),O λb m f=>(a4.grown.block b Y (by simpa using f)).trans (S b m f),by omega⟩,by simp only[jo];omega⟩;have h:=W.out;rw[vD]at h;rw[a1,<-jC];exact h
  have bh:=ak ((j:Int)<9);obtain rfl:j=9:=Y
  go_wp2_with fail
  refine⟨⟨k+1,by go_num,by omega,O ?_,al,O λb m f=>(S b Y f).trans (SC b m f),by omega⟩,by simp only[jo];omega⟩;have h:=aa.out;rw[pz (l:=aQ d) (by rw[K];exact jh _)]at h;rw[U,Jn];exact h.mono (n':=(k+1)*10) Y
 have hd:=ak ((k:Int)<(n:Int));have Q3:=ak (k<n);obtain rfl:k=n:=Y;have Ss:ja (wr.heap[w.heap.size]?=T (ic #[ih p t.length c] 27 (0,0))):=O ((q w.heap.size Y Y).trans Rf);have au:ja (aH (fO jK) 3 wr B (k*10) (dq (eN M))):=O (by
  have h:=HM.out;rw[pz (by rw[<-r];exact jh _)]at h;exact h)
 have b:=O (X.below HB);have bb:B<wr.heap.size:=Y;obtain⟨U,a⟩:=J (eN M);rw[<-a]at au;have HU:ja (U=eN (aV t)):=O (by rw[a,bf]);obtain⟨k',d⟩:=J k;rw[<-d]at au;clear a HM q D H X Rf Qj F r d;have cb:wr.cell? ⟨w,0,A⟩=T (ih p t.length c):=by unfold jH;rw[Ss];rfl
 obtain⟨p',c',he,-,-,a,d⟩:=b.out
 cases he
 have HC:=O a;have ZU:=O d;clear a d;obtain⟨n,f⟩:=J t.length;have r:=O f;obtain⟨W3,a⟩:=J wr;have a1:w.heap.size<wr.heap.size:=Y;rw[<-a]at Ss au HC bb cb HB a1⊢;rw[<-f]at hc hl cb Ss⊢;clear f a a5 b
 go_wp2_with fail
 go_loopw [41] (λi wr=>∃k:Nat,i=I N k/\k<=n/\ja (∀j,j<k->¬kS t U j)/\ja (jb W3 W3 wr)) (λi _=>n-(jo i).toNat)
 case atStart=>exact⟨0,rfl,jw _,O (λ_ h=>absurd h Y),O (jn _ _)⟩
 obtain⟨k,rfl,hk,HG,Sj⟩:=hrel
 by_cases V:k<n
 ·have hd:=aj ((k:Int)<(n:Int))
  have Q3:=aj (k<n);obtain⟨g,o,rfl,s⟩:=HC.out (by rw[<-r];omega);obtain⟨a,q,P,j,i,m,hgt,-,-⟩:=yE s ZU.out (by rw[<-r];exact V) Sj;have u:wr.cell? ⟨w,0,A⟩=T (ih (T ⟨g,o,A⟩) n c):=bD cb (Sj.block _ a1);have X:=O hgt;have WB:=O s;have Ta:=O i;have b:=Sj.alloc Sj.size (ic #[I N a,I N q] 224);have C:w.heap.size<wr.heap.size:=jD a1 Sj.size;have x:wr.heap.size<(wr.alloc (ic #[I N a,I N q] 224)).heap.size:=by simp
  have y:(wr.alloc (ic #[I N a,I N q] 224)).cell? ⟨wr,0,A⟩=T (I N a):=by
   unfold jH;rw[jt];rfl
  have z:(wr.alloc (ic #[I N a,I N q] 224)).cell? ⟨wr,1,A⟩=T (I N q):=by
   unfold jH;rw[jt];rfl
  have d:(wr.alloc (ic #[I N a,I N q] 224)).cell? ⟨w,0,A⟩=T (ih (T ⟨g,o,A⟩) n c):=bD cb (b.block _ a1);have W:ja (aH (fO jK) 3 (wr.alloc (ic #[I N a,I N q] 224)) B (k'*10) (dq U)):=O (au.below b bb);have H:=ac HB b;have aa:=O b;clear s hgt i m b
  go_upto_region 16 with fail
  obtain⟨K,b⟩:=J (wr.alloc (ic #[I N a,I N q] 224));rw[<-b]at x y z d W H aa⊢;clear b P j u C
  by_cases h1:a<1
  ·have bg:=aj (a<1)
   have s:ja (cN t=210):=O<|lS HU.out (by rw[<-r];exact V) (.inl (by rw[X];exact h1))
   go_quiet (fail)
   go_wp2_with fail
   go_ret;exact⟨lI s,vC H _⟩
  have bg:=ak (a<1)
  by_cases h2:1023<a
  ·have bh:=aj (1023<a)
   have s:ja (cN t=210):=O<|lS HU.out (by rw[<-r];exact V) (.inr (.inl (by rw[X];exact h2)))
   go_quiet (fail)
   go_wp2_with fail
   go_ret;exact⟨lI s,vC H _⟩
  have bh:=ak (1023<a)
  by_cases h3:0<k
  ·have bk:=aj (0<(k:Int))
   have bl:=aj (0<k);obtain⟨m,b⟩:=J (k-1);have YG:(k:Int)-1=(m:Int):=Y;have bm:m<n:=Y;obtain⟨a2,q2,c3,-,-,-,i,-,-⟩:=yE WB ZU (k:=m) (by rw[<-r];exact bm) aa;have bc:=O i;have HM:=O b;clear i b
   by_cases h4:a<=a2
   ·have bn:=aj (a<=a2)
    have s:ja (cN t=210):=O<|lS HU.out (by rw[<-r];exact V) (.inr (.inr (.inl (by rw[<-HM,X,bc];exact⟨h3,h4⟩))))
    go_quiet (fail)
    go_wp2_with fail
    go_ret;exact⟨lI s,vC H _⟩
   have bn:=ak (a<=a2);have al:B<K.heap.size:=by have:=Sj.size;omega
   have P:=O (fs q);have bu:qn.wrap (m:Int)=(m:Int):=by rw[p6];omega
   have bv:(0:Int)<=(m:Int):=Y;have bw:(m:Int)<(n:Int):=Y;have bA:(m:Int)<=(n:Int):=Y;have a3:ja (¬(0<k/\a<=(t.getD (k-1) (0,0)).1)):=O (by rw[<-HM,bc];exact λh=>h4 h.2)
   by_cases C:aM q
   ·have Q:bS q=0:=fw C
    rw[Q]at P;have a4:=O C;clear Q C;have u:∀w',aH (fO jK) 3 w' B (k'*10) (dq U)->(Instr.lookup 193 (.map (T B)) (I N a) false).run jd w'=.ok (.bool ((dq U a).getD false)) w':=λw' h=>h.look jl qt (yL w') Ta false
    have D:=u K.drew (aH.of_block (w':=K.drew) W rfl)
    by_cases F:a∈U
    ·have R:(dq U a).getD false=true:=by unfold dq;rw[if_pos F];rfl
     rw[R]at D u;have a5:=O F;clear R F;refine jQ ?_;refine ij (λw'=>w'.cell? ⟨w,0,A⟩=T (ih (T ⟨g,o,A⟩) n c)/\w'.cell? ⟨g,o+m*2,A⟩=T (I N a2)/\w'.cell? ⟨wr,0,A⟩=T (I N a)/\w'.cell? ⟨wr,1,A⟩=T (I N q)/\(Instr.lookup 193 (.map (T B)) (I N a) false).run jd w'=.ok (.bool true) w') 100 [(0,true),(1,true),(2,true),(3,true),(4,true),(5,true),(6,true),(7,true),(8,true),(9,true),(10,true),(11,true),(12,true),(13,true),(14,true),(15,true),(16,true),(17,true),(18,true),(19,true),(20,true),(21,true),(22,true),(23,true),(24,true),(25,true),(26,true),(27,false),(28,true),(29,true),(30,true),(31,true),(32,true),(33,true),(34,true),(35,true),(36,true)]
      ae ae ae rfl (λ_ _ _ _ h=>h) ⟨d,c3,y,z,D⟩ ?_
     iterate 27 refine tF ?_
     refine aR rfl (λK' j=>?_);go_simp;refine(P _).mono ?_;rintro e i ⟨rfl,b⟩;refine j _ _ ⟨bD d (b.block _ (dV d)),bD c3 (b.block _ (dV c3)),bD y (b.block _ x),bD z (b.block _ x),u i (aH.of_block (w':=i) W (b.block B al))⟩ λ_=>?_
     clear j;refine G ?_;iterate 9 refine tF ?_
     refine jM ?_;have S:ja (jb W3 W3 i):=O (aa.trans (lw (w:=K) ⟨b.os,b.tape,b.output,b.size,b.block⟩ aa.size));clear b u D
     go_wp2_with fail
     refine⟨⟨k+1,by go_num,by omega,O (good_step HG (zq X Y Y a3 a4 a5)),S⟩,by simp only[jo];omega⟩
    have R:(dq U a).getD false=false:=by unfold dq;rw[if_neg F];rfl
    rw[R]at D u;have s:ja (cN t=210):=O<|lS HU.out (by rw[<-r];exact V) (.inr (.inr (.inr (.inr (by rw[X];exact F)))));clear R F;refine jQ ?_;refine ij (λw'=>w'.cell? ⟨w,0,A⟩=T (ih (T ⟨g,o,A⟩) n c)/\w'.cell? ⟨g,o+m*2,A⟩=T (I N a2)/\w'.cell? ⟨wr,0,A⟩=T (I N a)/\w'.cell? ⟨wr,1,A⟩=T (I N q)/\(Instr.lookup 193 (.map (T B)) (I N a) false).run jd w'=.ok (.bool false) w') 100 [(0,true),(1,true),(2,true),(3,true),(4,true),(5,true),(6,true),(7,true),(8,true),(9,true),(10,true),(11,true),(12,true),(13,true),(14,true),(15,true),(16,true),(17,true),(18,true),(19,true),(20,true),(21,true),(22,true),(23,true),(24,true),(25,true),(26,true),(27,false),(28,true),(29,true),(30,true),(31,true),(32,true),(33,true),(34,true),(35,true),(36,true)]
     ae ae ae rfl (λ_ _ _ _ h=>h) ⟨d,c3,y,z,D⟩ ?_
    iterate 27 refine tF ?_
    refine aR rfl (λK' j=>?_);go_simp;refine(P _).mono ?_;rintro e i ⟨rfl,b⟩;refine j _ _ ⟨bD d (b.block _ (dV d)),bD c3 (b.block _ (dV c3)),bD y (b.block _ x),bD z (b.block _ x),u i (aH.of_block (w':=i) W (b.block B al))⟩ λ_=>?_
    clear j;refine G ?_;iterate 9 refine tF ?_
    refine jM ?_;have S:ja (jb w w i):=O (H.trans (lw (w:=K) ⟨b.os,b.tape,b.output,b.size,b.block⟩ H.size));clear b u D
    go_wp2_with fail
    go_ret;exact⟨lI s,S⟩
   have Q:bS q=40:=iw C;rw[Q]at P;have s:ja (cN t=210):=O<|lS HU.out (by rw[<-r];exact V) (.inr (.inr (.inr (.inl (by rw[X];exact C)))));clear Q C;refine jQ ?_;refine ij (λw'=>w'.cell? ⟨w,0,A⟩=T (ih (T ⟨g,o,A⟩) n c)/\w'.cell? ⟨g,o+m*2,A⟩=T (I N a2)/\w'.cell? ⟨wr,0,A⟩=T (I N a)/\w'.cell? ⟨wr,1,A⟩=T (I N q)) 100 [(0,true),(1,true),(2,true),(3,true),(4,true),(5,true),(6,true),(7,true),(8,true),(9,true),(10,true),(11,true),(12,true),(13,true),(14,true),(15,true),(16,true),(17,true),(18,true),(19,true),(20,true),(21,true),(22,true),(23,true),(24,true),(25,true),(26,true),(27,false),(28,true),(29,true),(30,true),(31,true),(32,true),(33,true),(34,true),(35,true),(36,true)]
    ae ae ae rfl (λ_ _ _ _ h=>h) ⟨d,c3,y,z⟩ ?_
   iterate 27 refine kt ?_
   refine aR rfl (λK' j=>?_);go_simp;refine(P _).mono ?_;rintro e i ⟨rfl,b⟩;refine j _ _ ⟨bD d (b.block _ (dV d)),bD c3 (b.block _ (dV c3)),bD y (b.block _ x),bD z (b.block _ x)⟩ λ_=>?_
   clear j;refine G ?_;iterate 3 refine kt ?_
   iterate 5 refine oR ?_
   refine kt ?_;refine jM ?_;have S:ja (jb w w i):=O (H.trans (lw (w:=K) ⟨b.os,b.tape,b.output,b.size,b.block⟩ H.size));clear b
   go_wp2_with fail
   go_ret;exact⟨lI s,S⟩
  have bk:=ak (0<(k:Int));have bl:=ak (0<k);have al:B<K.heap.size:=by have:=Sj.size;omega
  have P:=O (fs q);have a3:ja (¬(0<k/\a<=(t.getD (k-1) (0,0)).1)):=O (λh=>h3 h.1);clear h3
  by_cases C:aM q
  ·have Q:bS q=0:=fw C
   rw[Q]at P;have a4:=O C;clear Q C;have u:∀w',aH (fO jK) 3 w' B (k'*10) (dq U)->(Instr.lookup 193 (.map (T B)) (I N a) false).run jd w'=.ok (.bool ((dq U a).getD false)) w':=λw' h=>h.look jl qt (yL w') Ta false
   have D:=u K.drew (aH.of_block (w':=K.drew) W rfl)
   by_cases F:a∈U
   ·have R:(dq U a).getD false=true:=by unfold dq;rw[if_pos F];rfl
    rw[R]at D u;have a5:=O F;clear R F;refine jQ ?_;refine ij (λw'=>w'.cell? ⟨w,0,A⟩=T (ih (T ⟨g,o,A⟩) n c)/\w'.cell? ⟨wr,0,A⟩=T (I N a)/\w'.cell? ⟨wr,1,A⟩=T (I N q)/\(Instr.lookup 193 (.map (T B)) (I N a) false).run jd w'=.ok (.bool true) w') 100 [(0,true),(1,true),(2,true),(3,true),(4,true),(5,true),(6,true),(7,true),(8,true),(9,true),(10,true),(11,true),(12,true),(13,true),(14,true),(15,true),(16,true),(17,true),(18,true),(19,true),(20,true),(21,true),(22,true),(23,true),(24,true),(25,true),(26,true),(27,false),(28,true),(29,true),(30,true),(31,true),(32,true),(33,true),(34,true),(35,true),(36,true)]
     ae ae ae rfl (λ_ _ _ _ h=>h) ⟨d,y,z,D⟩ ?_
    iterate 12 refine kt ?_
    iterate 10 refine oR ?_
    iterate 5 refine kt ?_
    refine aR rfl (λK' j=>?_);go_simp;refine(P _).mono ?_;rintro e i ⟨rfl,b⟩;refine j _ _ ⟨bD d (b.block _ (dV d)),bD y (b.block _ x),bD z (b.block _ x),u i (aH.of_block (w':=i) W (b.block B al))⟩ λ_=>?_
    clear j;refine G ?_;iterate 9 refine kt ?_
    refine jM ?_;have S:ja (jb W3 W3 i):=O (aa.trans (lw (w:=K) ⟨b.os,b.tape,b.output,b.size,b.block⟩ aa.size));clear b u D
    go_wp2_with fail
    refine⟨⟨k+1,by go_num,by omega,O (good_step HG (zq X Y Y a3 a4 a5)),S⟩,by simp only[jo];omega⟩
   have R:(dq U a).getD false=false:=by unfold dq;rw[if_neg F];rfl
   rw[R]at D u;have s:ja (cN t=210):=O<|lS HU.out (by rw[<-r];exact V) (.inr (.inr (.inr (.inr (by rw[X];exact F)))));clear R F;refine jQ ?_;refine ij (λw'=>w'.cell? ⟨w,0,A⟩=T (ih (T ⟨g,o,A⟩) n c)/\w'.cell? ⟨wr,0,A⟩=T (I N a)/\w'.cell? ⟨wr,1,A⟩=T (I N q)/\(Instr.lookup 193 (.map (T B)) (I N a) false).run jd w'=.ok (.bool false) w') 100 [(0,true),(1,true),(2,true),(3,true),(4,true),(5,true),(6,true),(7,true),(8,true),(9,true),(10,true),(11,true),(12,true),(13,true),(14,true),(15,true),(16,true),(17,true),(18,true),(19,true),(20,true),(21,true),(22,true),(23,true),(24,true),(25,true),(26,true),(27,false),(28,true),(29,true),(30,true),(31,true),(32,true),(33,true),(34,true),(35,true),(36,true)]
    ae ae ae rfl (λ_ _ _ _ h=>h) ⟨d,y,z,D⟩ ?_
   iterate 12 refine kt ?_
   iterate 10 refine oR ?_
   iterate 5 refine kt ?_
   refine aR rfl (λK' j=>?_);go_simp;refine(P _).mono ?_;rintro e i ⟨rfl,b⟩;refine j _ _ ⟨bD d (b.block _ (dV d)),bD y (b.block _ x),bD z (b.block _ x),u i (aH.of_block (w':=i) W (b.block B al))⟩ λ_=>?_
   clear j;refine G ?_;iterate 9 refine kt ?_
   refine jM ?_;have S:ja (jb w w i):=O (H.trans (lw (w:=K) ⟨b.os,b.tape,b.output,b.size,b.block⟩ H.size));clear b u D
   go_wp2_with fail
   go_ret;exact⟨lI s,S⟩
  have Q:bS q=40:=iw C;rw[Q]at P;have s:ja (cN t=210):=O<|lS HU.out (by rw[<-r];exact V) (.inr (.inr (.inr (.inl (by rw[X];exact C)))));clear Q C;refine jQ ?_;refine ij (λw'=>w'.cell? ⟨w,0,A⟩=T (ih (T ⟨g,o,A⟩) n c)/\w'.cell? ⟨wr,0,A⟩=T (I N a)/\w'.cell? ⟨wr,1,A⟩=T (I N q)) 100 [(0,true),(1,true),(2,true),(3,true),(4,true),(5,true),(6,true),(7,true),(8,true),(9,true),(10,true),(11,true),(12,true),(13,true),(14,true),(15,true),(16,true),(17,true),(18,true),(19,true),(20,true),(21,true),(22,true),(23,true),(24,true),(25,true),(26,true),(27,false),(28,true),(29,true),(30,true),(31,true),(32,true),(33,true),(34,true),(35,true),(36,true)]
   ae ae ae rfl (λ_ _ _ _ h=>h) ⟨d,y,z⟩ ?_
  iterate 12 refine sZ ?_
  iterate 10 refine oR ?_
  iterate 5 refine sZ ?_
  refine aR rfl (λK' j=>?_);go_simp;refine(P _).mono ?_;rintro e i ⟨rfl,b⟩;refine j _ _ ⟨bD d (b.block _ (dV d)),bD y (b.block _ x),bD z (b.block _ x)⟩ λ_=>?_
  clear j;refine G ?_;iterate 3 refine sZ ?_
  iterate 5 refine oR ?_
  refine sZ ?_;refine jM ?_;have S:ja (jb w w i):=O (H.trans (lw (w:=K) ⟨b.os,b.tape,b.output,b.size,b.block⟩ H.size));clear b
  go_wp2_with fail
  go_ret;exact⟨lI s,S⟩
 have hd:=ak ((k:Int)<(n:Int));have Q3:=ak (k<n);obtain rfl:k=n:=Y;have s:ja (cN t=0):=O<|zr HU.out (by rw[<-r];exact HG)
 go_wp2_with fail
 go_ret;exact⟨lI s,HB.trans (Sj.mono HB.size)⟩
def hgt(n:Nat):Nat:=9-n.log2
theorem tc{n:Nat}(g:1<=n)(i:n<1024):512<=n*2^hgt n/\n*2^hgt n<1024:=by
 have a:2^n.log2<=n:=Nat.log2_self_le Y;have b:n<2^(n.log2+1):=Nat.lt_log2_self;have c:n.log2<=9:=by
  rcases oj 9 n.log2 with h|h
  ·have:=ql (n:=2) Y (show 10<=n.log2 from h)
   omega
  exact h
 unfold hgt;obtain⟨l,d⟩:=J n.log2;rw[<-d]at a b c⊢;have e:2^l*2^(9-l)=512:=by rw[<-Nat.pow_add,Nat.add_sub_cancel' c]
 have f:2^(l+1)*2^(9-l)=1024:=by rw[<-Nat.pow_add,show l+1+(9-l)=10 by omega]
 refine⟨?_,?_⟩
 ·rw[<-e];exact qw _ a
 rw[<-f];exact Nat.mul_lt_mul_of_pos_right b (Nat.two_pow_pos _)
theorem Pf{n h:Nat}(a:1<=n)(b:n*2^h<1024):2^h<=1000000:=by
 have:1*2^h<=n*2^h:=qw _ a;omega
noncomputable def iR(t:List (Int×Int))(x:Int):Int:=if cN t=0 then(if x<1\/1023<x then 200 else 0)else cN t
noncomputable def dU(t:List (Int×Int))(x:Int):List Int:=if iR t x=0 then cJ (ofF t) (hgt x.toNat) x.toNat else []
theorem oV{w:ii}{B a:Nat}{e:jp}{size:Nat}{v:jc}{n:Nat}{xs:List jc}(h:w.ownsRow B e size v n xs)(b:a<=B):w.ownsRow a e size v n xs:=by
 refine⟨h.1,?_⟩
 rcases h.2 with c|⟨g,d,f,i,j,k⟩
 ·exact .inl c
 exact .inr ⟨g,d,f,i,jr b j,k⟩
theorem rN{a:jc}{x y:Int}(h:x=y):Ending.returned (jk #[a,I N y])=jf (jk #[a,I N x]):=by rw[h]
theorem J5(t:List (Int×Int))(v:jc)(x:Int)(w:ii)(c:aT w v t)(f:t.length<=1000000):
 jg jd 120 #[jm #[v],I N x] w λe w'=>∃j,e=jf (jk #[j,I N (iR t x)])/\w'.ownsRow w 3 1 j (dU t x).length ((dU t x).map (js .i64))/\jb w w w':=by
 have a:jb w w (w.alloc (ic #[v] 27)):=(jn _ w).alloc (jh _) _;have g:=O (tY t v (w.alloc (ic #[v] 27)) (c.below a) f);have h:=O (c.below a);have C:=O f;obtain⟨s,b⟩:=J (w.alloc (ic #[v] 27));have o:s.cell? ⟨w,0,A⟩=T v:=by rw[b];unfold jH;rw[jt];rfl
 have q:s.heap.size=w.heap.size+1:=by rw[b];simp
 obtain⟨E,k⟩:=J (iR t x);obtain⟨V,m⟩:=J (dU t x);have d:=O k;have l:=O m;rw[<-k,<-m];obtain⟨p,n⟩:=J (cN t);have i:=O n;rw[<-b,<-n]at g;rw[<-b]at h a;clear c f k m n
 go_enter func120,ntmps120
 go_wp2_with fail
 rw[<-b];clear b;refine g.mono ?_;rintro e D ⟨rfl,b⟩;have X:=bD o (b.block _ (by show w.heap.size<_;omega));have m:=O (a.trans (b.mono a.size));have F:=O (h.below b);clear b a g h o q
 by_cases q:p=0
 ·subst q
  by_cases H:x<1
  ·have K:=aj (x<1)
   have c:ja (E=200):=O (by rw[d];unfold iR;rw[if_pos i.symm,if_pos (.inl H)]);have f:ja (V=[]):=O (by rw[l];unfold dU;rw[if_neg (by rw[<-d,c];decide)])
   go_wp2_with fail
   go_ret2;exact⟨ih A 0 0,rN c,by rw[f];exact j7 _ _ _ _,m⟩
  have K:=ak (x<1)
  by_cases M:1023<x
  ·have P:=aj (1023<x)
   have c:ja (E=200):=O (by rw[d];unfold iR;rw[if_pos i.symm,if_pos (.inr M)]);have f:ja (V=[]):=O (by rw[l];unfold dU;rw[if_neg (by rw[<-d,c];decide)])
   go_wp2_with fail
   go_ret2;exact⟨ih A 0 0,rN c,by rw[f];exact j7 _ _ _ _,m⟩
  have P:=ak (1023<x);have c:ja (E=0):=O (by rw[d];unfold iR;rw[if_pos i.symm,if_neg Y]);have f:ja (V=cJ (ofF t) (hgt x.toNat) x.toNat):=O (by rw[l];unfold dU;rw[if_pos (by rw[<-d,c])]);obtain⟨n,a⟩:=J x.toNat;have Q:ja (x=(n:Int)):=O Y;have g:ja (1<=n/\n<1024):=O Y;rw[<-a]at f;clear a
  go_wp2_with fail
  refine(vA t v D F C).mono ?_;rintro e a ⟨b,rfl,r,h,k⟩;have R:=O h;have o:=ac m k;have S:b<a.heap.size:=h.lt;clear r h k
  go_wp2_with fail
  refine(vW (T b) x a).mono ?_;rintro e U ⟨rfl,rfl⟩;have u:a.heap.size+2=((a.alloc (ic #[.map (T b)] 152)).alloc (ic #[I N x] 3)).heap.size:=by simp
  have y:=O ((o.alloc o.size (ic #[.map (T b)] 152)).alloc (by have:=o.size;simp;omega) (ic #[I N x] 3));have k:je ((a.alloc (ic #[.map (T b)] 152)).alloc (ic #[I N x] 3)) a.heap.size 152 (.map (T b)):=(ju _ _ _ ar).trans (jt a _);have z:je ((a.alloc (ic #[.map (T b)] 152)).alloc (ic #[I N x] 3)) (a.heap.size+1) 3 (I N (n:Int)):=by
   have h:=jt (a.alloc (ic #[.map (T b)] 152)) (ic #[I N x] 3);rw[jv]at h;rw[<-Q];exact h
  have r:=O (yx (ofF t) b t.length (hgt n) n (tc g.1 g.2).1 (tc g.1 g.2).2 a.heap.size (a.heap.size+1) a.heap.size _ ((R.alloc _).alloc _) S k z (by rw[<-u];omega));obtain⟨U,B⟩:=J ((a.alloc (ic #[.map (T b)] 152)).alloc (ic #[I N x] 3));rw[<-B]at r y u⊢;clear k z B;have z:=O (Pf g.1 (tc g.1 g.2).2);have aa:w.heap.size<=a.heap.size:=o.size;have B:=O (AP (λ_ _=>rfl) r Y (by rintro k (rfl|rfl)<;>omega) (λW h=>jr (jr h.length_le (pj _ _ _)) z) w.heap.size Y (by rintro k (rfl|rfl)<;>omega));clear r
  go_wp2_with fail
  refine B.mono ?_;rintro e w4 ⟨j,xs,rfl,rfl,h,k⟩;have r:=O h;have W:=O (y.trans k);clear h k
  go_wp2_with fail
  go_ret2;refine⟨j,rN c,?_,W⟩;rw[f];exact oV r Y
 have a:=ak (p=0);have c:ja (E=p):=O (by rw[d];unfold iR;rw[if_neg (by rw[<-i];exact q)];exact i.symm);have f:ja (V=[]):=O (by rw[l];unfold dU;rw[if_neg (by rw[<-d,c];exact q)])
 go_wp2_with fail
 go_ret2;exact⟨ih A 0 0,rN c,by rw[f];exact j7 _ _ _ _,m⟩
theorem Dh(b n:Nat)(f:Int->Option Int)(z:Int)(a:I64 z)(w:ii)(h:aH (da jl) 3 w b n f):
 jg jd 148 #[.map (T b),I N z] w λe w'=>e=jf (jk #[])/\aH (da jl) 3 w' b n (λy=>if y=z then A else f y)/\w.mapTurned w' b:=by
 have c:=O h;have d:=O a;clear h a
 go_enter func148,ntmps148
 go_wp2_with (refine F0 (E:=da jl) rfl _ _ 152 rfl jl jU b n f rfl c z rfl d ?_;intro h a g)
 go_end0
 exact⟨rfl,a,g⟩
def fy(f:Int->Option Int)(a:List Int)(y:Int):Option Int:=if y∈a then A else f y
theorem J7(f:Int->Option Int)(a:List Int)(z:Int):(λy=>if y=z then A else fy f a y)=fy f (a++[z]):=by
 funext y
 unfold fy
 by_cases h:y=z
 ·simp[h]
 simp[h]
noncomputable def cS(t:List (Int×Int))(d:Int)(a:Bool):Int:=
 if cN t=0 then(if d<0\/512<=d\/(a=true/\ofF t (512+d)=A)then 200 else 0)else cN t
theorem sN{a v:jc}{x y:Int}(h:x=y):Ending.returned (jk #[a,v,I N y])=jf (jk #[a,v,I N x]):=by rw[h]
def mW(t:List (Int×Int))(d:Int)(w:ii)(E:Int)(e:Ending)(w':ii):Prop:=
 jb w w w'/\(E≠0->e=jf (jk #[.map A,ih A 0 0,I N E]))/\
 (E=0->∃b p c,e=jf (jk #[.map (T b),ih p 9 c,I N 0])/\w.heap.size<=b/\aH (da jl) 3 w' b t.length (fy (ofF t) ((512+d)::aQ d))/\w'.ownsRow w 3 1 (ih p 9 c) 9 ((aQ d).map (js .i64)))
theorem mW.bad{t:List (Int×Int)}{d E:Int}{w w':ii}{e:Ending}(a:jb w w w')(b:E≠0)(h:e=jf (jk #[.map A,ih A 0 0,I N E])):mW t d w E e w':=
 ⟨a,λ_=>h,λc=>absurd c b⟩
theorem wQ(t:List (Int×Int))(v:jc)(d:Int)(g:Bool)(w:ii)(f:aT w v t)(h:t.length<=1000000)(r:I64 d):
 jg jd 88 #[jm #[v],I N d,.bool g] w λe w'=>mW t d w (cS t d g) e w':=by
 have a:jb w w (w.alloc (ic #[v] 27)):=(jn _ w).alloc (jh _) _;have i:=O (tY t v (w.alloc (ic #[v] 27)) (f.below a) h);have j:=O (f.below a);have HL:=O h;obtain⟨K,b⟩:=J (w.alloc (ic #[v] 27));have p:K.cell? ⟨w,0,A⟩=T v:=by rw[b];unfold jH;rw[jt];rfl
 have y:K.heap.size=w.heap.size+1:=by rw[b];simp
 obtain⟨E,k⟩:=J (cS t d g);have n:=O k;rw[<-k];obtain⟨s,o⟩:=J (cN t);have m:=O o;rw[<-b,<-o]at i;rw[<-b]at j a;obtain⟨z,c⟩:=J (qn.wrap (512+d));have M:ja (I64 z):=O (I64.of (x:=z) (by rw[c,p6];omega));have au:ja (0<=d->d<512->z=512+d):=O (λq P=>by rw[c,p6];omega);have Q:=c.symm;clear f h k o r c
 go_enter func88,ntmps88
 go_wp2_with fail
 rw[<-b];clear b;refine i.mono ?_;rintro e w1 ⟨rfl,b⟩;have bh:=bD p (b.block _ (by show w.heap.size<_;omega));have u:=O (a.trans (b.mono a.size));have Ur:=O (j.below b);clear b a i j p y
 by_cases q:s=0
 ·subst q
  go_wp2_with fail
  refine(vA t v w1 Ur HL).mono ?_;rintro e o ⟨b,rfl,c,a,f⟩;have y:=O a;have i:=ac u f;have a1:b<o.heap.size:=a.lt;have r:ja (w.heap.size<=b):=O (jr u.size c);clear c a f
  go_upto_region 6 with(at_lookup;refine sW (he:=jl) rfl _ _ 152 rfl jl jU (nj _) b t.length _ rfl y z (by first|rfl|(simp only[Q])) M ?_)
  obtain⟨B,a⟩:=J ((ofF t z).isSome);obtain⟨gv,c⟩:=J ((ofF t z).getD 0);rw[<-a,<-c];have R:=O a;clear a c Q
  by_cases P:d<0
  ·have a2:=aj (d<0)
   have a:ja (E=200):=O (by rw[n];unfold cS;rw[if_pos m.symm,if_pos (.inl P)])
   go_wp2_with fail
   go_ret3
   exact mW.bad i.out (by rw[a];decide) (sN a)
  have a2:=ak (d<0)
  by_cases h2:512<=d
  ·have a3:=aj (512<=d)
   have a:ja (E=200):=O (by rw[n];unfold cS;rw[if_pos m.symm,if_pos (.inr (.inl h2))])
   go_wp2_with fail
   go_ret3
   exact mW.bad i.out (by rw[a];decide) (sN a)
  have a3:=ak (512<=d);have a4:=au Y Y;subst a4
  by_cases c:g=true/\B=false
  ·obtain⟨rfl,rfl⟩:=c
   have p:ofF t (512+d)=A:=by
    have:=R.out
    cases h:ofF t (512+d)with
    |none=>rfl
    |some x=>rw[h]at this;cases this
   have a:ja (E=200):=O (by
    rw[n];unfold cS;rw[if_pos m.symm,if_pos (.inr (.inr ⟨rfl,p⟩))])
   clear p
   go_wp2_with fail
   go_ret3
   exact mW.bad i.out (by rw[a];decide) (sN a)
  have a:ja (E=0):=O (by
   rw[n];unfold cS;rw[if_pos m.symm,if_neg];rintro(h|h|⟨h,f⟩)
   ·omega
   ·omega
   exact c ⟨h,by rw[R,f];rfl⟩)
  have ZZ:g=false\/(g=true/\B=true):=by cases g<;>cases B<;>simp_all
  have HI:=M;have a5:=O (zS d Y Y o);have C:=O (ry d Y Y);have Zn:=O (wH d Y Y);have S7:qn.wrap (512+d)=512+d:=by rw[p6];omega
  clear c
  rcases ZZ with rfl|⟨rfl,rfl⟩
  all_goals
   go_upto_region 8 with fail
   go_wp2_with fail
   refine a5.mono ?_;rintro e w3 ⟨pv,rfl,j,f⟩;have D:=O j;obtain⟨pp,F,rfl,ba,k⟩:=ni j;rw[C]at ba k D⊢;obtain⟨c,rfl,bk,bb,S⟩:=k Y;have U:=O (y.below f a1);have H:=ac i f;have V:=O S;have bl:=f.size;clear j f k S
   go_wp2_with fail
   refine(Dh b t.length _ (512+d) HI w3 U).mono ?_;rintro e f ⟨rfl,S,k⟩;have bc:ja (aH (da jl) 3 f b t.length (fy (ofF t) ([512+d]++(aQ d).take 0))):=O (S.congr (λx _=>by simp[fy]));have bm:=k.grown.size;have Qt:ja (jb w w f):=O (H.grown k.grown (aU H.size) (λj e=>by cases e;exact r));have RG:ja (∀j,j<9->f.cell? ⟨c,j,A⟩=T (I N ((aQ d).getD j 0))):=O λj W=>bD (V j W) (k.grown.block c bb (by simp;omega))
   have RQ:ja (f.ownsRow o 3 1 (ih (T ⟨c,0,A⟩) 9 F) 9 ((aQ d).map (js .i64))):=O (D.kept k.grown (.inr (by simp[lm];omega)));have bn:c<f.heap.size:=Y;clear S k y U i H V D
   go_wp2_with fail
   go_loopw [55] (λi wr=>∃j:Nat,i=I N j/\j<=9/\ja (aH (da jl) 3 wr b t.length (fy (ofF t) ([512+d]++(aQ d).take j)))/\ja (jb w w wr)/\ja (wr.ownsRow o 3 1 (ih (T ⟨c,0,A⟩) 9 F) 9 ((aQ d).map (js .i64)))/\ja (∀k,k<f.heap.size->k≠b->wr.heap[k]?=f.heap[k]?)/\f.heap.size<=wr.heap.size) (λi _=>9-(jo i).toNat)
   case atStart=>exact⟨0,rfl,jw _,bc,Qt,RQ,O (λ_ _ _=>rfl),jh _⟩
   obtain⟨j,rfl,W,S,D,U,V,bo⟩:=hrel
   by_cases X:j<9
   ·have bd:=aj ((j:Int)<9)
    have cy:wr.cell? ⟨c,j,A⟩=T (I N ((aQ d).getD j 0)):=bD (RG j X) (V c Y Y);have i:j<(aQ d).length:=by rw[C];exact X
    have H:(aQ d).getD j 0=(aQ d)[j]:=by simp[j4,i]
    have aa:=O (kn i);have ad:=O (Zn _ (pa i));rw[H]at cy;obtain⟨y,hy⟩:=J ((aQ d)[j]);rw[<-hy]at cy aa ad;have bf:ja (I64 y):=O (I64.of (x:=y) (aw ad));have bq:c<wr.heap.size:=Y;clear i H hy
    go_wp2_with fail
    refine(Dh b t.length _ y bf wr S).mono ?_;rintro e w5 ⟨rfl,al,i⟩;have bg:=O al;have H:=O i;have br:=i.grown.size;clear al i
    go_wp2_with fail
    refine⟨⟨j+1,by go_num,by omega,O ?_,O (D.grown H.grown (aU D.size) (λj e=>by cases e;exact r)),O (U.kept H.grown (.inr (by simp[lm];omega))),O λk hk p=>(H.grown.block k Y (by simpa using p)).trans (V k hk p),by omega⟩,by simp only[jo];omega⟩;have h:=bg.out;rw[J7]at h;rw[aa,<-jC];exact h
   have bd:=ak ((j:Int)<9);obtain rfl:j=9:=Y;have i:ja (aH (da jl) 3 wr b t.length (fy (ofF t) ((512+d)::aQ d))):=O (by
    have h:=S.out;rw[pz (l:=aQ d) (by rw[C];exact jh _)]at h;exact h)
   have k:w.heap.size<=o.heap.size:=jr r Y
   go_wp2_with fail
   go_ret3
   exact⟨D,λh=>absurd a h,λ_=>⟨b,_,F,rfl,r,i,oV U k⟩⟩
 have b:=ak (s=0);have a:ja (E=s):=O (by rw[n];unfold cS;rw[if_neg (by rw[<-m];exact q)];exact m.symm)
 go_wp2_with fail
 go_ret3
 exact mW.bad u.out (by rw[a];exact q) (sN a)
theorem LF:(jd.info? 224).map (λi=>(i.zero,i.size,i.bytes))=T (T (jm #[I N 0,I N 0]),2,16):=by kernel_rfl
theorem CC(w:ii)(l:List jc)(t:jp):∀j a,l[j]?=T a->(w.alloc (ic l.toArray t)).cell? ((⟨w,0,A⟩:jF).add j)=T a:=by
 intro j a b;have c:(⟨w,0,A⟩:jF).add j=⟨w,j,A⟩:=by unfold Addr.add;split<;>simp_all
 rw[c];have d:=jt w (ic l.toArray t);simp only[jH,d]
 simpa using b
def cQ(f:Int->Option Int)(a:List Int):List (Int×Int):=a.map λx=>(x,(f x).getD 0)
def gF(t:List (Int×Int)):List jc:=t.flatMap λx=>[I N x.1,I N x.2]
theorem Ov(t:List (Int×Int)):∀j,j<t.length->(gF t)[j*2]?=T (I N (t.getD j (0,0)).1)/\(gF t)[j*2+1]?=T (I N (t.getD j (0,0)).2):=by
 induction t with
 |nil=>intro j b;simp at b
 |cons a t c=>
  intro j b;have e:gF (a::t)=I N a.1::I N a.2::gF t:=rfl
  rcases j with _|j
  ·rw[e];exact⟨rfl,rfl⟩
  obtain⟨p,q⟩:=c j (by simpa using b);rw[e,show(j+1)*2=j*2+1+1 by omega];exact⟨p,q⟩
def Fr(n:Nat)(v:jc):Prop:=∀p k c,v=ih p k c->∀a,p=T a->n<=a.block
theorem Fr.of_own{w:ii}{B:Nat}{e:jp}{sz:Nat}{v:jc}{n:Nat}{xs:List jc}(h:w.ownsRow B e sz v n xs):Fr B v:=by
 rintro p k c rfl a rfl
 rcases h.2 with⟨e,-⟩|⟨g,f,i,e,d,-⟩
 ·cases e
 injection e with b
 injection b with b
 subst b;exact d
theorem Fr.mono{n m:Nat}{v:jc}(h:Fr n v)(b:m<=n):Fr m v:=λp k c e a d=>jr b (h p k c e a d)
theorem Fr.nil(n:Nat):Fr n (ih A 0 0):=by
 rintro p k c e a rfl
 cases e
theorem vY{w:ii}{B:Nat}{v:jc}{t:List (Int×Int)}(h:w.ownsRow B 224 2 v t.length (gF t))(b:∀x∈t,I64 x.1/\I64 x.2):aT w v t:=by
 rcases h.2 with⟨rfl,c⟩|⟨g,f,r,rfl,s,k,l,u,x,m⟩
 ·exact⟨A,0,by rw[c],by omega,λ_=>c,λh=>by omega,b⟩
 refine⟨_,f,rfl,l,(λh=>by cases h),λy=>⟨g,0,rfl,λj n=>?_⟩,b⟩;obtain⟨p,q⟩:=Ov t j n;have e:∀i a,i<t.length*2->(gF t)[i]?=T a->w.cell? ⟨g,i,A⟩=T a:=λi a o d=>by
  rw[<-m,qX o]at d;unfold jH;rw[k];simp only[qY,qZ,if_false];rw[<-q4,d]
 rw[qa];exact⟨e _ _ Y p,e _ _ Y q⟩
theorem sD{w:ii}{B n:Nat}{v:jc}{xs:List jc}(h:w.ownsRow B 224 2 v n xs):∃p c,v=ih p n c:=by
 rcases h.2 with⟨rfl,a⟩|⟨g,b,d,rfl,e,f,i,j,k,l⟩
 ·exact⟨A,0,by rw[a]⟩
 exact⟨_,b,rfl⟩
theorem yX(b n:Nat)(f:Int->Option Int)(w:ii)(c:aH (da jl) 3 w b n f)(d:n<=1000000)(g:∀xs,KeysOf f xs->xs.length<=1000000)(h:∀x v,I64 x->f x=T v->I64 v):
 jg jd 91 #[.map (T b)] w λe w'=>∃v xs,e=jf (jm #[v])/\KeysOf f xs/\(w'.ownsRow w 224 2 v (cQ f (xs.mergeSort leI)).length (gF (cQ f (xs.mergeSort leI)))/\∀x∈cQ f (xs.mergeSort leI),I64 x.1/\I64 x.2)/\jb w w w':=by
 obtain⟨W,X,Qs,aa,ad⟩:=qh LF;have HM:=O c;have HN:=O d;have M:=O g;have HV:=O h;have bb:b<w.heap.size:=c.lt;clear c d g h
 go_enter func91,ntmps91
 go_wp2_with fail
 have h:je (w.alloc (ic #[ih A 0 0] 27)) w.heap.size 27 (ih A 0 0):=jt w _;have d:jb w w (w.alloc (ic #[ih A 0 0] 27)):=(jn _ w).alloc (jh _) _;have i:=HM.alloc (ic #[ih A 0 0] 27);have al:w.heap.size<(w.alloc (ic #[ih A 0 0] 27)).heap.size:=by simp
 obtain⟨l,c⟩:=J (w.alloc (ic #[ih A 0 0] 27));rw[<-c]at h d i al⊢;clear c;refine(BS (T b) l).mono ?_;rintro e w1 ⟨rfl,rfl⟩;have au:l.heap.size<(l.alloc (ic #[.map (T b)] 152)).heap.size:=by simp
 have g:je (l.alloc (ic #[.map (T b)] 152)) l.heap.size 152 (.map (T b)):=jt l _;have j:je (l.alloc (ic #[.map (T b)] 152)) w.heap.size 27 (ih A 0 0):=(ju _ _ _ Y).trans h;have c:=i.alloc (ic #[.map (T b)] 152);have k:=d.alloc d.size (ic #[.map (T b)] 152);obtain⟨D,m⟩:=J (l.alloc (ic #[.map (T b)] 152));rw[<-m]at au g j c k⊢;clear m h i d;have m:=O (Cl (λ_ _=>rfl) (Kj b n l.heap.size D.heap.size f D c g c.lt g.lt) (jh _) (λ_ h=>h.elim) (λd h=>jr h HN) M D.heap.size (jh _) (λ_ h=>h.elim));have q:=O c;have r:=O k;have u:=O j;clear c k j g
 go_wp2_with fail
 refine m.mono ?_;rintro e o ⟨bc,xs,rfl,g,i,d⟩;have j:(xs.mergeSort leI).length=xs.length:=qW _;have t:ja (∀x∈xs.mergeSort leI,I64 x):=O (λx p=>(g.2.1 x ((sl xs x).1 p)).1);have s:=O (M xs g);have VE:=O g;obtain⟨c,k⟩:=J (xs.mergeSort leI);rw[<-k]at i t j;rw[<-j]at i s;have R2:=O k;clear g k j m;obtain⟨pu,cu,rfl,a1,j⟩:=ni i;have YR:=O j;have Ru:=O (q.below d (aU q.lt));have Qk:=O (r.trans (d.mono Y));have a2:ja (je o w.heap.size 27 (ih A 0 0)):=O ((d.block _ Y).trans u);have bd:=d.size;obtain⟨m,g⟩:=J c.length;rw[<-g]at a1 s⊢;have E:=O g;clear i j d g q r u
 go_wp2_with fail
 go_loopw [9] (λi wr=>∃(k:Nat) (q:Option jF) (d:Nat),i=I N k/\k<=m/\ja (je wr w.heap.size 27 (ih q k d))/\ja (wr.ownsRow o 224 2 (ih q k d) k (gF (cQ f (c.take k))))/\ja (∀k,k<o.heap.size->k≠w.heap.size->wr.heap[k]?=o.heap[k]?)/\ja (jb w w wr)/\o.heap.size<=wr.heap.size) (λi _=>m-(jo i).toNat)
 case atStart=>exact⟨0,A,0,rfl,jw _,a2,O (j7 _ _ _ _),O (λ_ _ _=>rfl),Qk,jh _⟩
 obtain⟨k,q,d,rfl,hk,i,P,F,r,bf⟩:=hrel
 by_cases a3:k<m
 ·have hd:=aj ((k:Int)<(m:Int))
  have Q3:=aj (k<m);have bg:m<=1000000:=s.out;have j:k<c.length:=by rw[<-E];exact a3
  obtain⟨g,rfl,bh,Tk,B⟩:=YR Y;have u:=B k j;have C:c.getD k 0=c[k]:=by simp[j4,j]
  have Q:=O (kn j);have R:=O (t c[k] (pa j));rw[C]at u;obtain⟨x,p⟩:=J (c[k]);rw[<-p]at u Q R;have c1:wr.cell? ⟨g,k,A⟩=T (I N x):=bD u (F g Tk Y);have a4:=O (Ru.of_block (F b Y Y));have R6:g<wr.heap.size:=Y;have cb:=i.cell;have cf:=i.frozen;obtain⟨y,H⟩:=J ((f x).getD 0);have S:=O H;have z:=O (P.alloc (ic #[I N x,I N y] 224));have Si:=O (CC wr [I N x,I N y] 224);clear u C j B p H
  go_upto_region 4 with fail
  go_wp2_with (first
   |(at_lookup;refine J6 (he:=jl) rfl _ _ 152 rfl jl jU (nj _) b n _ rfl a4 x rfl R ?_;rw[<-S])
   |(at_builtin;refine qJ _ rfl _ _ 25 rfl o.heap.size 224 W (jm #[I N 0,I N 0]) 2 16 underlying25 X Qs aa ad rfl L _ _ _ rfl z ⟨wr,0,A⟩ 1 1 [I N x,I N y] rfl rfl Si (by simp[j8]) (by have:=s.out;unfold jI;omega) (aw s) (by simp;omega) ?_;intro v' H K j _;have TI:=O K;have U:ja ((wr.alloc (ic #[I N x,I N y] 224)).grownBy H (jE q k d).ownBlock):=O j;obtain⟨u,B,rfl⟩:=sD K;have a5:=j.size;have C:je H w.heap.size 27 (ih q k d):=(j.block w.heap.size (by simp;omega) (λe=>by have:=(z.lt _ e.symm).1;omega)).trans ((ju _ _ _ Y).trans i);have V:=C.cell;have ba:=C.frozen;have TJ:=O (Boxed.set (ih u (k+1) B) C);clear K j C))
  have ba:=O (qu TI (a:=⟨w,0,A⟩) (by show w.heap.size<o.heap.size;omega) (ih u (k+1) B));have C:=O (j6 H w.heap.size (ih u (k+1) B));have bk:=C.size;rw[jv]at a5;have e1:gF (cQ f (c.take (k+1)))=gF (cQ f (c.take k))++[I N x,I N y]:=by rw[Q,S];simp[cQ,gF]
  refine⟨⟨k+1,u,B,by go_num,by omega,TJ,O (by rw[e1];exact ba),O (λj hj K=>?_),O ?_,by omega⟩,by simp only[jo];omega⟩
  ·refine(C.block j Y (by simpa using K)).trans ((U.block j (by rw[jv];omega) (λe=>by have:=(z.lt _ e.symm).1;omega)).trans ((ju _ _ _ Y).trans (F j hj K)))
  exact((r.alloc r.size (ic #[I N x,I N y] 224)).grown U (by have:=r.size;rw[jv];omega) (λj e=>by have:=(z.lt _ e).1;omega)).grown C (aU r.size) (λj e=>by cases e;exact jh _)
 have hd:=ak ((k:Int)<(m:Int));have Q3:=ak (k<m);obtain rfl:k=m:=Y;have cb:=i.cell;have cf:=i.frozen;have u:ja (wr.ownsRow o 224 2 (ih q k d) (cQ f c).length (gF (cQ f c))):=O (by
  have h:=P.out;rw[pz (by rw[<-E];exact jh _)]at h;have e:(cQ f c).length=k:=by unfold cQ;rw[lo,<-E]
  rw[e];exact h)
 have B:=O (j6 wr w.heap.size (ih q k d));have C:w.heap.size<=wr.heap.size:=r.size
 go_wp2_with fail
 have V:=(Boxed.set (ih q k d) i).cell;refine jP (v:=jm #[ih q k d]) (by simp[results,results91,go_sem,V]) rfl ?_;refine⟨ih q k d,xs,rfl,VE,?_,r.grown B C (λj e=>by cases e;exact jh _)⟩;rw[<-R2];refine⟨oV (qu u (a:=⟨w,0,A⟩) (by show w.heap.size<o.heap.size;omega) _) Y,?_⟩;intro x p;obtain⟨z,g,rfl⟩:=oo.1 p;refine⟨t z g,?_⟩;show I64 ((f z).getD 0)
 cases h:f z with
 |none=>exact I64.of ar
 |some y=>exact HV z y (t z g) h
theorem mF{t:List (Int×Int)}{x v:Int}(h:ofF t x=T v):(x,v)∈t:=by
 unfold ofF at h
 cases hf:t.find? (λy=>y.1==x)with
 |none=>rw[hf]at h;cases h
 |some y=>
  rw[hf]at h;have c:=List.find?_some hf;have d:=List.mem_of_find?_eq_some hf;obtain⟨a,b⟩:=y;simp at h c;subst h;subst c;exact d
def gx(t:List (Int×Int))(d x:Int)(y:Int):Option Int:=if y=512+d then T x else fy (ofF t) ((512+d)::aQ d) y
theorem ou{f:Int->Option Int}{a:List Int}{y v:Int}(h:fy f a y=T v):f y=T v/\y∉a:=by
 unfold fy at h
 split at h
 ·cases h
 exact⟨h,by assumption⟩
theorem Ol{t:List (Int×Int)}{d x:Int}{xs:List Int}(h:KeysOf (gx t d x) xs):xs.length<=t.length+1:=by
 have b:xs⊆(512+d)::t.map (·.1):=by
  intro y c;obtain⟨-,a⟩:=h.2.1 y c
  by_cases e:y=512+d
  ·rw[e];exact List.mem_cons_self ..
  unfold gx at a;rw[if_neg e]at a;obtain⟨v,f⟩:=qD.1 a;exact List.mem_cons_of_mem _ (oo.2 ⟨_,mF (ou f).1,rfl⟩)
 have:=h.1.length_le_of_subset b
 simpa using this
theorem LW{t:List (Int×Int)}{d x:Int}(a:∀e∈t,I64 e.1/\I64 e.2)(b:I64 x):∀y v,I64 y->gx t d x y=T v->I64 v:=by
 intro y v _ h;unfold gx at h
 split at h
 ·cases h;exact b
 exact(a _ (mF (ou h).1)).2
theorem vy{t:List (Int×Int)}{d:Int}{m:Bool}(h:cS t d m=0):0<=d/\d<512:=by
 unfold cS at h
 split at h
 ·split at h
  ·exact absurd h L
  omega
 rename_i a;exact absurd h a
noncomputable def eT(t:List (Int×Int))(d x:Int):Int:=if cS t d false=0 then(if bS x=0 then 0 else 50)else cS t d false
def GZ(t:List (Int×Int))(d x:Int)(w:ii)(E:Int)(e:Ending)(w':ii):Prop:=
 jb w w w'/\(E≠0->e=jf (jk #[jm #[ih A 0 0],I N E]))/\
 (E=0->∃v xs,e=jf (jk #[jm #[v],I N 0])/\KeysOf (gx t d x) xs/\aT w' v (cQ (gx t d x) (xs.mergeSort leI)))
theorem PE(t:List (Int×Int))(v:jc)(d x:Int)(w:ii)(b:aT w v t)(g:t.length<=900000)(j:I64 d)(l:I64 x):
 jg jd 93 #[jm #[v],I N d,I N x] w λe w'=>GZ t d x w (eT t d x) e w':=by
 have o:∀e∈t,I64 e.1/\I64 e.2:=by obtain⟨p,c,-,-,-,-,h⟩:=b;exact h
 have i:jb w w ((w.alloc (ic #[v] 27)).alloc (ic #[ih A 0 0] 27)):=((jn _ w).alloc (jh _) _).alloc ar _;have m:=O (wQ t v d false ((w.alloc (ic #[v] 27)).alloc (ic #[ih A 0 0] 27)) (b.below i) Y j);have k:je ((w.alloc (ic #[v] 27)).alloc (ic #[ih A 0 0] 27)) (w.heap.size+1) 27 (ih A 0 0):=by
  have h:=jt (w.alloc (ic #[v] 27)) (ic #[ih A 0 0] 27);rw[jv]at h;exact h
 have ZU:=O o;have R:=O l;have D:=O g;obtain⟨E,f⟩:=J (cS t d false);have n:=O f;rw[<-f]at m;clear b g f o l j
 go_enter func93,ntmps93
 go_wp2_with fail
 obtain⟨W0,b⟩:=J ((w.alloc (ic #[v] 27)).alloc (ic #[ih A 0 0] 27));rw[<-b]at m k i⊢;clear b;refine m.mono ?_;rintro e r ⟨s,F,H⟩;have f:je r (w.heap.size+1) 27 (ih A 0 0):=(s.block _ k.lt).trans k;have u:=O (i.trans (s.mono i.size));have S:=O f;have a2:w.heap.size+1<r.heap.size:=f.lt
 by_cases l:E=0
 ·obtain⟨b,p,c,rfl,g,o,-⟩:=H l
  have j:=O o;have a3:w.heap.size+1<b:=jD k.lt g;clear F H s i k f m o g;have au:=vy (n.symm.trans l);have HZ:ja (I64 (512+d)):=O (I64.of (x:=512+d) Y);have S7:qn.wrap (512+d)=512+d:=by rw[p6];omega
  subst l;obtain⟨d0,d1⟩:=au
  go_wp2_with fail
  refine(fs x r).mono ?_;rintro e U ⟨rfl,g⟩;have Ru:=O (j.below g j.lt);have y:ja (je U (w.heap.size+1) 27 (ih A 0 0)):=O ((g.block _ S.lt).trans S);have a4:=g.size;have z:=ac u g;obtain⟨V,o⟩:=J (bS x);rw[<-o];have W:=O o;clear g o j u
  by_cases X:V=0
  ·subst X
   go_wp2_with (at_mapUpdate;refine mu (E:=da jl) rfl _ _ _ 152 rfl jl jU b _ _ rfl Ru (by have:=D.out;unfold jI;omega) (512+d) rfl HZ x rfl R ?_;intro C Wb K;have RP:=O Wb;have U6:=O K;have g:=K.grown.size;clear Wb K)
   have SP:ja (je C (w.heap.size+1) 27 (ih A 0 0)):=O ((U6.grown.block _ Y (by simp;omega)).trans y);have Qp:=O (z.grown U6.grown (aU z.size) (λj e=>by cases e;omega));refine(yX b (t.length+1) (gx t d x) C RP (aw D) (λxs h=>jr (Ol h) (aw D)) (LW ZU R)).mono ?_;rintro e w4 ⟨v',xs,rfl,aa,⟨M,ad⟩,o⟩;obtain⟨q,P,rfl⟩:=sD M;have Q:ja (je w4 (w.heap.size+1) 27 (ih A 0 0)):=O ((o.block _ Y).trans SP);have Qt:=ac Qp o;have VE:=O aa;have TH:=O M;have a1:=O ad;have a5:=o.size;have cb:=Q.cell;have cf:=Q.frozen;have al:eT t d x=0:=by unfold eT;rw[if_pos n.symm,if_pos W.symm]
   have g:=O al;clear aa M ad o al
   go_wp2_with fail
   have M:=O (j6 w4 (w.heap.size+1) (ih q (cQ (gx t d x) (xs.mergeSort leI)).length P));have o:=(Boxed.set (ih q (cQ (gx t d x) (xs.mergeSort leI)).length P) Q).cell;refine jP (v:=jk #[jm #[ih q (cQ (gx t d x) (xs.mergeSort leI)).length P],I N 0]) (by simp[results,results93,go_sem,o]) rfl ?_;refine⟨Qt.grown M (aU Qt.size) (λj e=>by cases e;omega),λh=>absurd g h,λ_=>⟨_,xs,rfl,VE,?_⟩⟩;exact vY (B:=C.heap.size) (qu TH (a:=⟨w.heap.size+1,0,A⟩) (by show w.heap.size+1<C.heap.size;omega) _) a1
  have q:=ak (V=0);have cb:=y.cell;have cf:=y.frozen;have o:=(Boxed.set (ih A 0 0) y).cell;have g:ja (eT t d x=50):=O (by unfold eT;rw[if_pos n.symm,if_neg (by rw[<-W];exact X)])
  go_wp2_with fail
  refine jP (v:=jk #[jm #[ih A 0 0],I N 50]) (by simp[results,results93,go_sem,o]) rfl ?_;exact⟨z.grown (j6 U (w.heap.size+1) _) (aU z.size) (λj e=>by cases e;omega),λ_=>by rw[g],λh=>absurd (g.symm.trans h) L⟩
 obtain rfl:=F l;have b:=ak (E=0);have cb:=f.cell;have cf:=f.frozen;have o:=(Boxed.set (ih A 0 0) f).cell;clear F H s i k f m
 go_wp2_with fail
 have g:ja (eT t d x=E):=O (by unfold eT;rw[if_neg (by rw[<-n];exact l)];exact n.symm);refine jP (v:=jk #[jm #[ih A 0 0],I N E]) (by simp[results,results93,go_sem,o]) rfl ?_;exact⟨u.grown (j6 r (w.heap.size+1) _) (aU u.size) (λj e=>by cases e;omega),λ_=>by rw[g],λh=>absurd (g.symm.trans h) l⟩
theorem Lt(a n₀:Nat)(w:ii)(c:je w a 152 (.map A))(p:a<n₀):
 dK jd 203 #[jj (T ⟨a,0,A⟩)] (λx:Int=>#[I N x]) (λ_=>False) n₀ (λxs=>xs=[]) (λ_=>True) (λb=>b.length<=0) w:=by
 intro l f q W g d i b j;have m:je W a 152 (.map A):=(g.block a c.lt).trans c;have r:=m.cell;refine(j5 (n:=0)).1 ?_;refine ms func203 rfl trivial ?_ rfl;simp only[ntmps203,jV,jA,jW,jX,jY,jZ,j0,j1,j3,jR,jS];clear b;have s:=run_range_nilMap (P:=jd) W 152 3 3 jU;have t:∀b,(Instr.next (jj (T ⟨W,0,A⟩)) false b).run jd (W.alloc (.mapIter A 0 #[] 0))=_:=λb=>run_next_nilMap W b 0 0 #[]
 have o:ja (f [] (λk=>k=W.heap.size) (W.alloc (.mapIter A 0 #[] 0))):=O (d [] _ _ W _ j (a8.ofGrown (qM W _ A) (λk e=>by cases e)) (λ_ h=>h.elim) (λk e=>.inr (by have:=jv W (.mapIter A 0 #[] 0);omega)));clear d i
 gi_wp2
 gi_loopw [3] (λ_ wr=>wr=W.alloc (.mapIter A 0 #[] 0)) (λ_ wr=>0)
 case atStart=>rfl
 subst hrel
 gi_wp2
 refine qd (jJ rfl _ _ _) rfl ?_;exact⟨⟨_,rfl⟩,.inl ⟨[],_,rfl,o⟩⟩
theorem Jz(w:ii):jg jd 91 #[.map A] w λe w'=>e=jf (jm #[ih A 0 0])/\jb w w w':=by
 go_enter func91,ntmps91
 go_wp2_with fail
 have d:je (w.alloc (ic #[ih A 0 0] 27)) w.heap.size 27 (ih A 0 0):=jt w _;have b:jb w w (w.alloc (ic #[ih A 0 0] 27)):=(jn _ w).alloc (jh _) _;have m:w.heap.size<(w.alloc (ic #[ih A 0 0] 27)).heap.size:=by simp
 obtain⟨a,c⟩:=J (w.alloc (ic #[ih A 0 0] 27));rw[<-c]at d b m⊢;clear c;refine(BS A a).mono ?_;rintro e p ⟨rfl,rfl⟩;have n:a.heap.size<(a.alloc (ic #[.map A] 152)).heap.size:=by simp
 have c:je (a.alloc (ic #[.map A] 152)) a.heap.size 152 (.map A):=jt a _;have f:je (a.alloc (ic #[.map A] 152)) w.heap.size 27 (ih A 0 0):=(ju _ _ _ Y).trans d;have g:=b.alloc b.size (ic #[.map A] 152);obtain⟨k,h⟩:=J (a.alloc (ic #[.map A] 152));rw[<-h]at n c f g⊢;clear h d b;have i:=O (Cl (V:=λb=>b.length<=0) (λ_ _=>rfl) (Lt a.heap.size k.heap.size k c c.lt) (jh _) (λ_ h=>h.elim) (λb h=>by omega) (λxs h=>by rw[h];simp) k.heap.size (jh _) (λ_ h=>h.elim));have h:=O g;have o:=O f;clear g f c
 go_wp2_with fail
 refine i.mono ?_;rintro e f ⟨q,xs,rfl,rfl,b,c⟩;rw[show([]:List Int).mergeSort leI=[]from by simp]at b;obtain⟨r,s,rfl,-,-⟩:=ni (l:=[]) b;have d:ja (je f w.heap.size 27 (ih A 0 0)):=O ((c.block _ Y).trans o);have g:=O (h.trans (c.mono Y));have t:=d.cell;have u:=d.frozen;clear b c i
 go_wp2_with fail
 go_loopw [9] (λi wr=>i=I N 0/\wr=f) (λi _=>0)
 case atStart=>exact⟨rfl,rfl⟩
 obtain⟨rfl,rfl⟩:=hrel
 go_wp2_with fail
 have b:=(Boxed.set (ih A 0 0) d).cell;refine jP (v:=jm #[ih A 0 0]) (by simp[results,results91,go_sem,b]) rfl ?_;exact⟨rfl,g.grown (j6 _ w.heap.size _) (aU g.size) (λj e=>by cases e;exact jh _)⟩
def kD(t:List (Int×Int))(d:Int):Int->Option Int:=fy (ofF t) ((512+d)::aQ d)
theorem Hy{t:List (Int×Int)}{d:Int}{xs:List Int}(h:KeysOf (kD t d) xs):xs.length<=t.length:=by
 have a:xs⊆t.map (·.1):=by
  intro y b;obtain⟨-,c⟩:=h.2.1 y b;obtain⟨v,e⟩:=qD.1 c;exact oo.2 ⟨_,mF (ou e).1,rfl⟩
 have:=h.1.length_le_of_subset a
 simpa using this
theorem Ky{t:List (Int×Int)}{d:Int}(a:∀e∈t,I64 e.1/\I64 e.2):∀y v,I64 y->kD t d y=T v->I64 v:=
 λy v _ h=>(a _ (mF (ou h).1)).2
def H6(t:List (Int×Int))(d:Int)(w:ii)(E:Int)(e:Ending)(w':ii):Prop:=
 jb w w w'/\(E≠0->e=jf (jk #[jm #[ih A 0 0],I N E]))/\
 (E=0->∃v xs,e=jf (jk #[jm #[v],I N 0])/\KeysOf (kD t d) xs/\aT w' v (cQ (kD t d) (xs.mergeSort leI)))
theorem Gx(t:List (Int×Int))(v:jc)(d:Int)(w:ii)(b:aT w v t)(g:t.length<=900000)(i:I64 d):
 jg jd 92 #[jm #[v],I N d] w λe w'=>H6 t d w (cS t d true) e w':=by
 have j:∀e∈t,I64 e.1/\I64 e.2:=by obtain⟨p,c,-,-,-,-,h⟩:=b;exact h
 have k:jb w w ((w.alloc (ic #[v] 27)).alloc (ic #[ih A 0 0] 27)):=((jn _ w).alloc (jh _) _).alloc ar _;have l:=O (wQ t v d true ((w.alloc (ic #[v] 27)).alloc (ic #[ih A 0 0] 27)) (b.below k) Y i);have m:je ((w.alloc (ic #[v] 27)).alloc (ic #[ih A 0 0] 27)) (w.heap.size+1) 27 (ih A 0 0):=by
  have h:=jt (w.alloc (ic #[v] 27)) (ic #[ih A 0 0] 27);rw[jv]at h;exact h
 have M:=O j;have D:=O g;obtain⟨E,f⟩:=J (cS t d true);rw[<-f]at l;rw[<-f];clear b g f j i
 go_enter func92,ntmps92
 go_wp2_with fail
 obtain⟨W,b⟩:=J ((w.alloc (ic #[v] 27)).alloc (ic #[ih A 0 0] 27));rw[<-b]at l m k⊢;clear b;refine l.mono ?_;rintro e g ⟨s,x,y⟩;have u:je g (w.heap.size+1) 27 (ih A 0 0):=(s.block _ m.lt).trans m;have F:=O (k.trans (s.mono k.size));have H:=O u;have X:w.heap.size+1<g.heap.size:=u.lt
 by_cases n:E=0
 ·obtain⟨b,p,c,rfl,i,f,-⟩:=y n
  have P:ja (aH (da jl) 3 g b t.length (kD t d)):=O f;subst n;clear x y s k m u l f i
  go_wp2_with fail
  refine(yX b t.length (kD t d) g P (aw D) (λxs h=>jr (Hy h) (aw D)) (Ky M)).mono ?_;rintro e o ⟨v',xs,rfl,C,⟨j,K⟩,f⟩;obtain⟨q,z,rfl⟩:=sD j;have i:ja (je o (w.heap.size+1) 27 (ih A 0 0)):=O ((f.block _ Y).trans H);have r:=ac F f;have Q:=O C;have R:=O j;have S:=O K;have aa:=f.size;have U:=i.cell;have V:=i.frozen;clear C j K f
  go_wp2_with fail
  have K:=O (j6 o (w.heap.size+1) (ih q (cQ (kD t d) (xs.mergeSort leI)).length z));have C:=(Boxed.set (ih q (cQ (kD t d) (xs.mergeSort leI)).length z) i).cell;refine jP (v:=jk #[jm #[ih q (cQ (kD t d) (xs.mergeSort leI)).length z],I N 0]) (by simp[results,results92,go_sem,C]) rfl ?_;refine⟨r.grown K (aU r.size) (λj e=>by cases e;omega),λh=>absurd rfl h,λ_=>⟨_,xs,rfl,Q,?_⟩⟩;exact vY (B:=g.heap.size) (qu R (a:=⟨w.heap.size+1,0,A⟩) (by show w.heap.size+1<g.heap.size;omega) _) S
 obtain rfl:=x n;have b:=O n;clear x y s k m u l n
 go_wp2_with fail
 refine(Jz g).mono ?_;rintro e o ⟨rfl,f⟩;have i:ja (je o (w.heap.size+1) 27 (ih A 0 0)):=O ((f.block _ Y).trans H);have r:=ac F f;have U:=i.cell;have V:=i.frozen;clear f
 go_wp2_with fail
 have C:=(Boxed.set (ih A 0 0) i).cell;refine jP (v:=jk #[jm #[ih A 0 0],I N E]) (by simp[results,results92,go_sem,C]) rfl ?_;exact⟨r.grown (j6 o (w.heap.size+1) _) (aU r.size) (λj e=>by cases e;omega),λ_=>rfl,λh=>absurd h b⟩
def cH(w:ii)(v:jc)(l:List Int):Prop:=
 ∃p c,v=ih p l.length c/\l.length<=c/\(0<l.length->∃g o,p=T ⟨g,o,A⟩/\∀j,j<l.length->w.cell? ⟨g,o+j,A⟩=T (I N (l.getD j 0)))
theorem Ns(x:Int)(w:ii):jg jd 90 #[I N x] w λe w'=>e=jf (.bool (decide (bS x≠0)))/\jb w w w':=by
 go_enter func90,ntmps90
 go_wp2_with fail
 refine(fs x w).mono ?_;rintro e f ⟨rfl,a⟩;have b:=O a;clear a;obtain⟨c,a⟩:=J (bS x);rw[<-a];have d:=O a;clear a
 by_cases h:c=0
 ·subst h
  go_wp2_with fail
  go_ret;exact⟨by rw[<-d];rfl,b⟩
 have g:=ak (c=0);have a:=O h;clear h
 go_wp2_with fail
 go_ret;exact⟨by rw[<-d];simp[a.out,bne],b⟩
def fW(l:List Int):Prop:=∀j,j<l.length->bS (l.getD j 0)=0
theorem Ie(l:List Int)(v:jc)(w:ii)(h:cH w v l)(B:l.length<=1000000):
 jg jd 149 #[v,.func (.func 90) #[] #[]] w λe w'=>∃r,e=jf (I N r)/\ja ((fW l->r= -1)/\(¬fW l->0<=r))/\jb w w w':=by
 obtain⟨p,c,rfl,C,b⟩:=h;have D:=O b;obtain⟨n,a⟩:=J l.length;have f:=O a;rw[<-a]at B C⊢;clear b a
 go_enter func149,ntmps149
 go_wp2_with fail
 go_loopw [8] (λi wr=>∃k:Nat,i=I N k/\k<=n/\ja (∀j,j<k->bS (l.getD j 0)=0)/\ja (jb w w wr)) (λi _=>n-(jo i).toNat)
 case atStart=>exact⟨0,rfl,jw _,O (λ_ h=>absurd h Y),O (jn _ _)⟩
 obtain⟨k,rfl,hk,q,i⟩:=hrel
 by_cases s:k<n
 ·have E:=aj ((k:Int)<(n:Int))
  have F:=aj (k<n);obtain⟨g,o,rfl,b⟩:=D.out (by rw[<-f];omega);have a:=b k (by rw[<-f];exact s);have H:wr.cell? ⟨g,o+k,A⟩=T (I N (l.getD k 0)):=bD a (i.block g (dV a));obtain⟨x,d⟩:=J (l.getD k 0);rw[<-d]at H;have t:=O d;clear b a d
  go_wp2_with fail
  refine(Ns x wr).mono ?_;rintro e K ⟨rfl,a⟩;have u:=ac i a;clear a
  by_cases a:bS x=0
  ·have d:decide (bS x≠0)=false:=by simp[a]
   rw[d];have m:=O a;clear d a
   go_wp2_with fail
   refine⟨⟨k+1,by go_num,by omega,O (λj y=>?_),u⟩,by simp only[jo];omega⟩
   rcases oj j k with z|z
   ·exact q j z
   obtain rfl:j=k:=Y;rw[<-t];exact m
  have d:decide (bS x≠0)=true:=by simp[a]
  rw[d];have m:=O a;clear d a
  go_wp2_with fail
  go_ret;exact⟨_,rfl,O ⟨λh=>absurd (by rw[t];exact h k (by rw[<-f];exact s)) m,λ_=>by omega⟩,u⟩
 have E:=ak ((k:Int)<(n:Int));have F:=ak (k<n);obtain rfl:k=n:=Y
 go_wp2_with fail
 go_ret;exact⟨_,rfl,O ⟨λ_=>rfl,λh=>absurd (λj y=>q j (by rw[f];exact y)) h⟩,i⟩
theorem Px(l:List Int)(v:jc)(w:ii)(h:cH w v l)(i:l.length<=1000000):
 jg jd 89 #[v,.func (.func 90) #[] #[]] w λe w'=>∃b,e=jf (.bool b)/\ja ((fW l->b=false)/\(¬fW l->b=true))/\jb w w w':=by
 have d:=O (Ie l v w h i);obtain⟨p,c,rfl,-,-⟩:=h
 go_enter func89,ntmps89
 go_wp2_with fail
 refine d.mono ?_;rintro e k ⟨r,rfl,a,f⟩;have g:=O f;clear f d
 by_cases f:0<=r
 ·have j:=aj (0<=r)
  have d:ja (¬fW l):=O (λh=>by have:=a.1 h;omega);clear a
  go_wp2_with fail
  go_ret;exact⟨true,rfl,O ⟨λh=>absurd h d,λ_=>rfl⟩,g⟩
 have j:=ak (0<=r);have d:ja (¬¬fW l):=O (λh=>absurd (a.2 h) f);clear a
 go_wp2_with fail
 go_ret;exact⟨false,rfl,O ⟨λ_=>rfl,λh=>absurd h d⟩,g⟩
def InQ(x:Int):Prop:=0<=x/\x<2305843009213688669
instance(x:Int):Decidable (InQ x):=by unfold InQ;infer_instance
theorem Gl(x:Int)(w:ii):jg jd 199 #[I N x] w λe w'=>e=jf (.bool (decide (¬InQ x)))/\jb w w w':=by
 obtain⟨r,a⟩:=J (decide (¬InQ x));rw[<-a]
 by_cases c:x<0
 ·have b:=aj (x<0)
  obtain rfl:r=true:=by rw[a];simp[InQ];omega
  clear a
  go_enter func199,ntmps199
  go_wp2
  go_ret;exact⟨rfl,jn _ _⟩
 have b:=ak (x<0);obtain rfl:r=decide (2305843009213688669<=x):=by rw[a];simp[InQ];omega
 clear a
 go_enter func199,ntmps199
 go_wp2
 go_ret;exact⟨rfl,jn _ _⟩
def gq(l:List Int):Prop:=∀j,j<l.length->InQ (l.getD j 0)
theorem N7(l:List Int)(v:jc)(w:ii)(h:cH w v l)(B:l.length<=1000000):
 jg jd 149 #[v,.func (.func 199) #[] #[]] w λe w'=>∃r,e=jf (I N r)/\ja ((gq l->r= -1)/\(¬gq l->0<=r))/\jb w w w':=by
 obtain⟨p,c,rfl,C,b⟩:=h;have D:=O b;obtain⟨n,a⟩:=J l.length;have f:=O a;rw[<-a]at B C⊢;clear b a
 go_enter func149,ntmps149
 go_wp2_with fail
 go_loopw [8] (λi wr=>∃k:Nat,i=I N k/\k<=n/\ja (∀j,j<k->InQ (l.getD j 0))/\ja (jb w w wr)) (λi _=>n-(jo i).toNat)
 case atStart=>exact⟨0,rfl,jw _,O (λ_ h=>absurd h Y),O (jn _ _)⟩
 obtain⟨k,rfl,hk,q,i⟩:=hrel
 by_cases s:k<n
 ·have E:=aj ((k:Int)<(n:Int))
  have F:=aj (k<n);obtain⟨g,o,rfl,b⟩:=D.out (by rw[<-f];omega);have a:=b k (by rw[<-f];exact s);have H:wr.cell? ⟨g,o+k,A⟩=T (I N (l.getD k 0)):=bD a (i.block g (dV a));obtain⟨x,d⟩:=J (l.getD k 0);rw[<-d]at H;have t:=O d;clear b a d
  go_wp2_with fail
  refine(Gl x wr).mono ?_;rintro e K ⟨rfl,a⟩;have u:=ac i a;clear a
  by_cases a:InQ x
  ·have d:decide (¬InQ x)=false:=by simp[a]
   rw[d];have m:=O a;clear d a
   go_wp2_with fail
   refine⟨⟨k+1,by go_num,by omega,O (λj y=>?_),u⟩,by simp only[jo];omega⟩
   rcases oj j k with z|z
   ·exact q j z
   obtain rfl:j=k:=Y;rw[<-t];exact m
  have d:decide (¬InQ x)=true:=by simp[a]
  rw[d];have m:=O a;clear d a
  go_wp2_with fail
  go_ret;exact⟨_,rfl,O ⟨λh=>absurd (by rw[t];exact h k (by rw[<-f];exact s)) m,λ_=>by omega⟩,u⟩
 have E:=ak ((k:Int)<(n:Int));have F:=ak (k<n);obtain rfl:k=n:=Y
 go_wp2_with fail
 go_ret;exact⟨_,rfl,O ⟨λ_=>rfl,λh=>absurd (λj y=>q j (by rw[f];exact y)) h⟩,i⟩
theorem LD(l:List Int)(v:jc)(w:ii)(h:cH w v l)(i:l.length<=1000000):
 jg jd 89 #[v,.func (.func 199) #[] #[]] w λe w'=>∃b,e=jf (.bool b)/\ja ((gq l->b=false)/\(¬gq l->b=true))/\jb w w w':=by
 have d:=O (N7 l v w h i);obtain⟨p,c,rfl,-,-⟩:=h
 go_enter func89,ntmps89
 go_wp2_with fail
 refine d.mono ?_;rintro e k ⟨r,rfl,a,f⟩;have g:=O f;clear f d
 by_cases f:0<=r
 ·have j:=aj (0<=r)
  have d:ja (¬gq l):=O (λh=>by have:=a.1 h;omega);clear a
  go_wp2_with fail
  go_ret;exact⟨true,rfl,O ⟨λh=>absurd h d,λ_=>rfl⟩,g⟩
 have j:=ak (0<=r);have d:ja (¬¬gq l):=O (λh=>absurd (a.2 h) f);clear a
 go_wp2_with fail
 go_ret;exact⟨false,rfl,O ⟨λ_=>rfl,λh=>absurd h d⟩,g⟩
theorem yP(l:List Int)(v:jc)(w:ii)(h:cH w v l)(f:l.length<=1000000):
 jg jd 143 #[v] w λe w'=>∃a,e=jf (.bool a)/\ja ((gq l->a=false)/\(¬gq l->a=true))/\jb w w w':=by
 have b:=O (LD l v w h f);obtain⟨p,c,rfl,-,-⟩:=h
 go_enter func143,ntmps143
 go_wp2_with fail
 refine b.mono ?_;rintro e j ⟨r,rfl,g,d⟩;have i:=O d;clear d b
 go_wp2_with fail
 go_ret;exact⟨_,rfl,g,i⟩
theorem mm(w:ii)(x:Int):cH (w.alloc (ic #[I N x] 3)) (ih (T ⟨w,0,A⟩) 1 1) [x]:=
 ⟨_,_,rfl,jh _,λ_=>⟨_,_,rfl,λj a=>by
  obtain rfl:j=0:=by simp at a;omega
  exact cell_of (jt w _) rfl⟩⟩
theorem kB(w:ii)(x y:Int):cH (w.alloc (ic #[I N x,I N y] 3)) (ih (T ⟨w,0,A⟩) 2 2) [x,y]:=
 ⟨_,_,rfl,jh _,λ_=>⟨_,_,rfl,λj a=>by
  simp at a
  rcases(show j=0\/j=1 by omega)with rfl|rfl
  ·exact cell_of (jt w _) rfl
  exact cell_of (jt w _) rfl⟩⟩
theorem Gv(x:Int):gq [x]↔InQ x:=⟨λh=>h 0 ar,λh j a=>by
 obtain rfl:j=0:=by simp at a;omega
 exact h⟩
theorem B2(x y:Int):gq [x,y]↔InQ x/\InQ y:=⟨λh=>⟨h 0 ar,h 1 ar⟩,λh j a=>by
 simp at a
 rcases(show j=0\/j=1 by omega)with rfl|rfl
 ·exact h.1
 exact h.2⟩
theorem yD{p:Prop}[Decidable p]{l:List Int}{b:Bool}(h:(gq l->b=false)/\(¬gq l->b=true))(e:gq l↔p):b=decide (¬p):=by
 by_cases a:p
 ·rw[h.1 (e.2 a)];simp[a]
 rw[h.2 (λg=>a (e.1 g))];simp[a]
def iQ(x:Int):Int:=if InQ x then 0 else 1
theorem KH(x:Int)(w:ii):
 jg jd 82 #[I N x] w λe w'=>e=jf (I N (iQ x))/\jb w w w':=by
 have a:=O (yP [x] _ _ (mm w x) ar);have b:=O (af w (ic #[I N x] 3))
 go_enter func82,ntmps82
 go_wp2_with fail
 refine a.mono ?_;rintro e h ⟨r,rfl,c,d⟩;have f:=ac b d;have g:=O (yD c (Gv x));clear d a b c
 cases r
 ·go_wp2_with fail
  go_ret;exact⟨by have:=g.out;simp at this;rw[iQ,if_pos this];rfl,f⟩
 go_wp2_with fail
 go_ret;exact⟨by have:=g.out;simp at this;rw[iQ,if_neg this];rfl,f⟩
theorem Hb(x y:Int)(w:ii)(a:InQ x)(b:InQ y):
 jg jd 116 #[I N x,I N y] w λe w'=>e=jf (jk #[I N ((x+y)%2305843009213688669),I N 0])/\jb w w w':=by
 have c:=O (yP [x,y] _ _ (kB w x y) ar);have d:=O (af w (ic #[I N x,I N y] 3));have f:=O a;have g:=O b;have j:0<=x+y:=by have:=a.1;have:=b.1;omega
 have k:x+y<4611686018427377338:=by have:=a.2;have:=b.2;omega
 have l:(x+y).tmod 2305843009213688669=(x+y)%2305843009213688669:=Int.tmod_eq_emod_of_nonneg Y;have m:=a.1;have n:=a.2;have o:=b.1;have p:=b.2;clear a b
 go_enter func116,ntmps116
 go_wp2_with fail
 refine c.mono ?_;rintro e q ⟨r,rfl,a,b⟩;have h:=ac d b;have i:=O (yD a (B2 x y));obtain rfl:r=false:=by rw[i];simp[f.out,g.out]
 clear b c d a
 go_wp2_with fail
 go_ret2;exact⟨rfl,h⟩
theorem MQ(a b:Nat)(f:a<2305843009213688669)(g:b<2305843009213688669)(w:ii):
 jg jd 201 #[I jL a,I jL b] w λe w'=>∃c d:Nat,e=jf (jk #[I jL c,I jL d])/\c<2305843009213688669/\d<18446744073709551616/\ja (c*18446744073709551616+d=a*b)/\w=w':=by
 refine(zA a b Y Y w).mono ?_;rintro e w' ⟨rfl,rfl⟩;have h:a*b<=2305843009213688668*2305843009213688668:=Nat.mul_le_mul Y Y;refine⟨_,_,rfl,?_,qb _ L,O (by rw[lv];exact Nat.div_add_mod _ _),rfl⟩;generalize a*b=m at h;omega
theorem MK(a b:Nat)(f:a<2305843009213688669)(d:b<18446744073709551616)(w:ii):
 jg jd 202 #[I jL a,I jL b,I jL 2305843009213688669] w λe w'=>
  ∃(q:Int) (r:Nat),e=jf (jk #[I jL q,I jL r])/\(r:Int)<2305843009213688669/\ja (r=(a*18446744073709551616+b)%QN)/\jb w w w':=by
 rcases oi a with rfl|h
 ·refine(DivQ.div64_0 b d w).mono ?_
  rintro e w' ⟨q,rfl,c⟩;exact⟨q,_,rfl,by omega,O (by rw[Nat.zero_mul,qa];rfl),c⟩
 refine(DivQ.div64_1 a b h f d w).mono ?_;rintro e w' ⟨q,rfl,c⟩;exact⟨q,_,rfl,by omega,O rfl,c⟩
theorem Mu(a b:Nat)(c:a<2305843009213688669)(d:b<2305843009213688669)(w:ii):
 jg jd 169 #[I N a,I N b] w λe w'=>e=jf (I N ((a*b%QN:Nat):Int))/\jb w w w':=by
 have h:=O (MQ a b c d)
 go_enter func169,ntmps169
 go_wp2_with fail
 refine(h _).mono ?_;rintro e m ⟨i,j,rfl,f,g,k,rfl⟩;have l:=O (MK i j f g);clear f g c d
 go_wp2_with fail
 refine(l _).mono ?_;rintro e g ⟨q,r,rfl,n,d,c⟩;have f:=O c;clear c
 go_wp2_with fail
 go_ret;exact⟨by rw[<-k,<-d];rfl,f⟩
theorem FL(x y:Nat)(w:ii)(a:x<2305843009213688669)(b:y<2305843009213688669):
 jg jd 115 #[I N x,I N y] w λe w'=>e=jf (jk #[I N ((x*y%QN:Nat):Int),I N 0])/\jb w w w':=by
 have c:=O (yP [(x:Int),(y:Int)] _ _ (kB w x y) ar);have d:=O (af w (ic #[I N x,I N y] 3));have f:ja (InQ (x:Int)):=O ⟨by omega,by omega⟩;have g:ja (InQ (y:Int)):=O ⟨by omega,by omega⟩;have h:=O (Mu x y a b);clear a b
 go_enter func115,ntmps115
 go_wp2_with fail
 refine c.mono ?_;rintro e k ⟨r,rfl,a,b⟩;have i:=ac d b;have j:=O (yD a (B2 x y));obtain rfl:r=false:=by rw[j];simp[f.out,g.out]
 clear b c d a
 go_wp2_with fail
 refine(h _).mono ?_;rintro e c ⟨rfl,a⟩;have b:=ac i a;clear a
 go_wp2_with fail
 go_ret2;exact⟨rfl,b⟩
def aG(a k:Nat):Nat:=a^k%PN
theorem I4(a k b P:Nat)(c:1<P)(h:a^b%P=1):(a^k%P)^b%P=1:=by
 rw[<-Nat.pow_mod,<-Nat.pow_mul,lv,Nat.pow_mul,Nat.pow_mod,h,Nat.one_pow,ow c]
theorem mT{a:Nat}(h:aM a)(k:Nat):aM (aG a k:Nat):=by
 have c:a^QN%PN=1:=by have:=h.2.2;rwa [q6]at this
 have b:(aG a k)^QN%PN=1:=I4 a k QN PN (by rw[ei];decide) c;have d:aG a k<PN:=qb _ (by rw[ei];decide);have e:1<=aG a k:=by
  rcases oi (aG a k)with h|h
  ·rw[h,Nat.zero_pow (by unfold QN;decide)]at b
   exact absurd b (by rw[Nat.zero_mod];decide)
  exact h
 rw[ei]at d;exact⟨by omega,by omega,by rw[q6];exact b⟩
theorem yB(a k:Nat)(b:aM a)(hk:k<2305843009213688669)(w:ii):
 jg jd 84 #[I N a,I N k] w λe w'=>e=jf (jk #[I N (aG a k:Nat),I N 0])/\jb w w w':=by
 have c:=O (fs a w);rw[fw b]at c;have l:=b.2.1;have f:=O (A4 a k (by rw[ei];omega) Y);have m:decide ((k:Int)<0)=false:=by simp
 have n:=ak ((2305843009213688669:Int)<=(k:Int));clear b
 go_enter func84,ntmps84
 go_wp2_with fail
 refine c.mono ?_;rintro e o ⟨rfl,b⟩;have g:=O b;clear b c
 go_wp2_with fail
 refine(f _).mono ?_;rintro e p ⟨c,rfl,b,d⟩;have i:=ac g d;have q:(c:Int)<4611686018427377339:=by
  have h:=b.out;have j:c<PN:=by rw[h];exact qb _ (by rw[ei];decide)
  rw[ei]at j;omega
 clear d
 go_wp2_with fail
 go_ret2;exact⟨by rw[aG,<-b];rfl,i⟩
theorem kY:aM 4:=by
 refine⟨by decide,by decide,?_⟩;rw[<-tA _ QN 62 L]
 decide+kernel
theorem Pn:aM 4:=kY
theorem tD(k:Nat)(hk:k<2305843009213688669)(w:ii):
 jg jd 83 #[I N k] w λe w'=>e=jf (jk #[I N (aG 4 k:Nat),I N 0])/\jb w w w':=by
 have b:=O (yB 4 k Pn hk)
 go_enter func83,ntmps83
 go_wp2_with fail
 refine(b _).mono ?_;rintro e d ⟨rfl,a⟩;have c:=O a;clear a
 go_wp2_with fail
 go_ret2;exact⟨rfl,c⟩
theorem LA(a b:Nat)(c:aM a)(d:aM b)(w:ii):
 jg jd 86 #[I N a,I N b] w λe w'=>e=jf (jk #[I N (a*b%PN:Nat),I N 0])/\jb w w w':=by
 have o:∀W:ii,(Instr.index 230 (jm #[I N a,I N b]) (I N 0)).run jd W=.ok (I N a) W:=λW=>by
  have f:=underlying230;unfold Instr.index;simp[asIntOf,run_underlying f,part]
 have p:∀W:ii,(Instr.index 230 (jm #[I N a,I N b]) (I N 1)).run jd W=.ok (I N b) W:=λW=>by
  have f:=underlying230;unfold Instr.index;simp[asIntOf,run_underlying f,part]
 have g:=O (fs a);have j:=O (fs b);rw[fw c]at g;rw[fw d]at j;have q:=c.2.1;have r:=d.2.1;have l:=O (yt a b (by rw[ei];omega) (by rw[ei];omega));clear c d
 go_enter func86,ntmps86
 go_wp2_with fail
 go_loopw [12] (λi wr=>∃k:Nat,i=I N k/\k<=2/\ja (jb w w wr)) (λi _=>(2-jo i).toNat)
 case atStart=>exact⟨0,rfl,by omega,O (jn _ _)⟩
 obtain⟨k,rfl,hk,d⟩:=hrel
 rcases(show k=0\/k=1\/k=2 by omega)with rfl|rfl|rfl
 ·go_wp2_with fail
  refine(g _).mono ?_;rintro e h ⟨rfl,c⟩;have f:=ac d c;clear c
  go_wp2_with fail
  go_roundw
  case rel=>exact⟨1,rfl,by omega,f⟩
  case measure=>simp only[jo];omega
 ·go_wp2_with fail
  refine(j _).mono ?_;rintro e h ⟨rfl,c⟩;have f:=ac d c;clear c
  go_wp2_with fail
  go_roundw
  case rel=>exact⟨2,rfl,by omega,f⟩
  case measure=>simp only[jo];omega
 go_wp2_with fail
 refine(l _).mono ?_;rintro e s ⟨c,rfl,f,i⟩;have m:=ac d i;have t:(c:Int)<4611686018427377339:=by
  have h:=f.out;have n:c<PN:=by rw[h];exact qb _ (by rw[ei];decide)
  rw[ei]at n;omega
 clear i
 go_wp2_with fail
 go_ret2;exact⟨by rw[<-f];rfl,m⟩
theorem ES(s:ByteArray)(g:s.size<=100000)(v:jc)(l:LBy)(h:l.length<=900000)(w:ii)(b:BytesAt w v l)(a:dJ w)(c:fz w):
 jg jd 144 #[jq s,v] w λe w'=>e=jf (I N (mO (aK s) l:Nat))/\jb w w w':=by
 have d:=O (oG s g v l h w b a c);have i:ja ((cC (aK s) l).length=32):=O (gs _ _);obtain⟨m,n,rfl,-,-,-⟩:=b;clear a c
 go_enter func144,ntmps144
 go_wp2_with fail
 refine d.mono ?_;rintro e j ⟨rfl,c⟩;have a:=O (Oz (cC (aK s) l) i j);obtain⟨o,f⟩:=J (((cC (aK s) l).map v8).toArray);rw[<-f]at a⊢;have k:=O c;clear c d f
 go_wp2_with fail
 refine a.mono ?_;rintro e p ⟨rfl,c⟩;have f:=ac k c;have d:=ug (cC (aK s) l);rw[pG]at d;clear c a;obtain⟨r,a⟩:=J (gJ (cC (aK s) l));rw[<-a]at d⊢;have c:=O a;clear a
 go_wp2_with fail
 go_ret;exact⟨by rw[mO,<-c];simp,f⟩
def iC(kb b a c:LBy):LBy:=kb++b++fT a.length 8++a++c
def mx(kb a b c:LBy):LBy:=(cC fE (iC kb a b c)).take 16
theorem nX(kb nb hb cb):(mx kb nb hb cb).length=16:=by simp[mx,gs]
theorem GJ(n:Nat)(c:n<9223372036854775808)(w:ii):
 jg jd 212 #[I N n] w λe w'=>∃g a,e=jf (ih (T ⟨g,0,A⟩) 8 a)/\ja (BytesAt w' (ih (T ⟨g,0,A⟩) 8 a) (fT n 8))/\jb w w w':=by
 refine(G4 n c w).mono ?_;rintro e w' ⟨v,rfl,b,d⟩;have f:BytesAt w' v (fT n 8):=BytesAt.of_own (B:=w.heap.size) (by rw[As];exact b)
 rcases b.2 with⟨rfl,h⟩|⟨g,a,i,rfl,j⟩
 ·exact absurd h L
 exact⟨g,a,rfl,f,d⟩
theorem Below.al{w w':ii}(h:jb w w w')(o:Obj):jb w w (w'.alloc o):=h.alloc h.size o
theorem Below.tr{w a b:ii}(h:jb w w a)(k:jb a a b):jb w w b:=h.trans (k.mono h.size)
theorem Below.dr{w w':ii}(h:jb w w w'):jb w w w'.drew:=⟨h.os,h.tape,h.output,h.size,h.block⟩
theorem J8(b h X:ii)(kb c a d:LBy)(j k l m n:jc)(p:BytesAt b j kb)(q:BytesAt b k c)(r:BytesAt h l (fT a.length 8))(s:BytesAt b m a)(u:BytesAt b n d)
 (f:jb b b X) (w:jb h h X) (g:Nat) (t:jp) (x:X.heap[g]?=T (ic #[j,k,l,m,n] t (0,0))) (z:(iC kb c a d).length<=900000):
 jg jd 112 #[ih (T ⟨g,0,A⟩) 5 5] X λe w'=>∃v,e=jf v/\ja (BytesAt w' v (iC kb c a d))/\jb X X w':=by
 have o:[kb,c,fT a.length 8,a,d].flatten=iC kb c a d:=by simp[iC]
 refine(si g 5 t [j,k,l,m,n] [kb,c,fT a.length 8,a,d] rfl rfl (by rw[o];omega) X x ?_ L).mono ?_
 ·intro i y
  match i,y with
  |0,_=>exact p.below f
  |1,_=>exact q.below f
  |2,_=>exact r.below w
  |3,_=>exact s.below f
  |4,_=>exact u.below f
 rintro e w' ⟨v,rfl,i,y⟩;rw[o]at i;exact⟨v,rfl,BytesAt.of_own i,y⟩
theorem IH(kb a b c:LBy)(hk:kb.length=32)(d:a.length=12):(iC kb a b c).length=52+b.length+c.length:=by
 simp[iC,hk,d,As];omega
theorem tJ(w:ii)(o a:Obj):((w.alloc o).alloc a).heap[w.heap.size+1]?=T a:=by
 have:=jt (w.alloc o) a
 rwa [jv]at this
theorem pI(w:ii)(a:Array jc)(t:jp)(n:Nat)(h:a.size=n):(w.alloc (ic a t)).there w.heap.size 0 n:=λj d=>by
 have b:=jt w (ic a t);have c:j<a.size:=Y;simp only[jH,qE,b];simp[c]
theorem nH{w w':ii}{b n:Nat}(h:w.there b 0 n)(a:jb w w w'):w'.there b 0 n:=λj e=>by
 obtain⟨f,g⟩:=h j e;obtain⟨v,c⟩:=qD.1 f;have d:=iZ c;exact⟨by rw[fi c (a.block _ d)];rfl,by rw[<-g];simp only[qE,a.block _ d]⟩
theorem thA{w w':ii}{a:Array jc}{t:jp}(b:jb (w.alloc (ic a t)).drew.heap.size (w.alloc (ic a t)).drew w')(c:a.size=32):w'.there w.heap.size 0 32:=
 nH (w:=(w.alloc (ic a t)).drew) ((World.there_drew _ _ _ _).2 (pI w a t 32 c)) b
theorem thN{w w':ii}{a:Array jc}{t:jp}(b:jb (w.alloc (ic a t)).heap.size (w.alloc (ic a t)) w')(c:a.size=32):w'.there w.heap.size 0 32:=nH (pI w a t 32 c) b
theorem L6{w w':ii}{a:Array jc}{t:jp}{o:Obj}(b:jb ((w.alloc (ic a t)).alloc o).heap.size ((w.alloc (ic a t)).alloc o) w')(c:a.size=32):w'.there w.heap.size 0 32:=
 nH (q8 (pI w a t 32 c) o) b
theorem Na{w w':ii}{a:Array jc}{t:jp}{o:Obj}(b:jb ((w.alloc o).alloc (ic a t)).heap.size ((w.alloc o).alloc (ic a t)) w')(c:a.size=32):w'.there (w.heap.size+1) 0 32:=by
 have h:=pI (w.alloc o) a t 32 c;rw[jv]at h;exact nH h b
theorem thK{w w':ii}{b:Nat}{o:Obj}(h:w.there b 0 32)(a:jb (w.alloc o).heap.size (w.alloc o) w'):w'.there b 0 32:=nH (q8 h o) a
theorem Below.cellsFrom{w w':ii}(h:jb w w w')(b:Nat)(c:w.heap.size<=b):∀(a:List jc) (o:Nat),jb w w (w'.setCells b o a):=by
 intro a
 induction a generalizing w' with
 |nil=>intro o;exact h
 |cons v a d=>intro o;exact d (h.setCell c _) (o+1)
theorem G2(kb a b d:LBy)(t u:jc)(w:ii)(hk:kb.length=32)(o:a.length=12)(ad:b.length<=70000)(al:d.length<=70000)
 (x:BytesAt w t b) (y:BytesAt w u d) (i:dJ w) (j:fz w):
 jg jd 163 #[jm (kb.map v8).toArray,jm (a.map v8).toArray,t,u] w λe w'=>
  ∃v,e=jf v/\BytesAt w' v (mx kb a b d)/\jb w w w':=by
 have c:(kb.map v8).toArray.size=32:=by simp[hk]
 have h:(a.map v8).toArray.size=12:=by simp[o]
 generalize k:(kb.map v8).toArray=f at c⊢;generalize l:(a.map v8).toArray=g at h⊢;have z:=O x;have B:=O y;obtain⟨ph,ch,rfl,-,-,-⟩:=x;obtain⟨pc,cc,rfl,-,-,-⟩:=y;have C:=O k;have D:=O l;have E:=O i;have F:=O j;have K:=O c;have M:=O h;clear k l c h i j
 go_enter func163,ntmps163
 go_upto_region 1 with fail
 have c:jb w w ((w.alloc (ic f 53)).alloc (ic g 173)):=
  ⟨rfl,rfl,rfl,by simp;omega,λk hk=>by rw[ju _ _ _ (by simp;omega),ju _ _ _ hk]⟩
 have i:BytesAt ((w.alloc (ic f 53)).alloc (ic g 173)) (ih (T ⟨w,0,A⟩) 32 32) kb:=by
  refine⟨_,32,by rw[hk],by rw[hk];exact jh _,λh=>(by cases h),λ_=>⟨w.heap.size,0,rfl,λj k=>?_⟩⟩;have h:bp ((w.alloc (ic f 53)).alloc (ic g 173)) w.heap.size 53 kb:=by
   show _ =T (Obj.cells (kb.map v8).toArray 53 (0,0));rw[C,ju _ _ _ ar];exact jt w _
  rw[qa];exact h.cell k
 have l:BytesAt ((w.alloc (ic f 53)).alloc (ic g 173)) (ih (T ⟨w.heap.size+1,0,A⟩) 12 12) a:=by
  refine⟨_,12,by rw[o],by rw[o];exact jh _,λh=>(by cases h),λ_=>⟨w.heap.size+1,0,rfl,λj k=>?_⟩⟩;have h:bp ((w.alloc (ic f 53)).alloc (ic g 173)) (w.heap.size+1) 173 a:=by
   show _ =T (Obj.cells (a.map v8).toArray 173 (0,0));rw[D];have:=jt (w.alloc (ic f 53)) (ic g 173)
   simpa using this
  rw[qa];exact h.cell k
 have m:=z.below c;have p:=B.below c;have q:dJ ((w.alloc (ic f 53)).alloc (ic g 173)):=E.below c (jh _);have r:fz ((w.alloc (ic f 53)).alloc (ic g 173)):=F.below c (jh _);obtain⟨n,s⟩:=J ((w.alloc (ic f 53)).alloc (ic g 173));rw[<-s]at c i l m p q r⊢;have H:=O c;have P:=O i;have Q:=O l;have R:=O m;have S:=O p;have U:=O q;have V:=O r;have W:ja (w.heap.size+2<=n.heap.size):=O (by rw[s];simp);clear c i l m p q r s z B E F C D K M;have c:(iC kb a b d).length<=900000:=by rw[IH _ _ _ _ hk o];omega
 have r:=O c;clear c;obtain⟨p,c⟩:=J ((cC fE (iC kb a b d)).map v8);have i:∀v w,BytesAt w v (iC kb a b d)->dJ w->fz w->
  jg jd 111 #[jq ⟨#[116,97,103]⟩,v] w λe w'=>e=jf (jm p.toArray)/\jb w w w':=λv w l m q=>by
  rw[c];exact FX v _ r.out w l m q
 have s:p.length=32:=by rw[c,lo,gs]
 have z:∀v∈p,v.oneCell'=true:=by rw[c];exact fY _
 have B:(jd.info? 23).map (·.size)=T 32:=Cz;have C:=O i;have D:=O c;have E:=O s;clear i c;have au:w.heap.size+2<=n.heap.size:=W.out
 go_cut [9] (λv c=>∃m,v=jj (T ⟨m,0,A⟩)/\c.rangeAt m 0 p/\jb n n c)
 case first=>
  go_region_held3 (λw'=>True) (trivial) (first
   |(go_at_call 212;refine(GJ b.length Y _).mono ?_;rintro e F ⟨g1,a1,rfl,K,l⟩;try(have M:=thA l ag))
   |(go_at_call 112;refine(J8 n F _ kb a b d _ _ _ _ _ P.out Q K R S (by repeat (first|exact jn _ _ |refine Below.al ?_ _ |refine Below.dr ?_|refine Below.tr ?_ i|refine Below.tr ?_ c|refine Below.tr ?_ l)) (by repeat (first|exact jn _ _ |refine Below.al ?_ _ |refine Below.dr ?_|refine Below.tr ?_ i|refine Below.tr ?_ c|refine Below.tr ?_ l)) _ 59 (by first|exact jt _ _ |exact tJ _ _ _ |exact(ju _ _ _ ar).trans (jt _ _)) r).mono ?_;rintro e w2 ⟨v2,rfl,X,c⟩;first|(have q:=thK M c)|(have q:=L6 c ag)|(have q:=Na c ag)|skip)
   |(go_at_call 111;refine(C _ _ (X.below (by repeat (first|exact jn _ _ |refine Below.al ?_ _ |refine Below.dr ?_|refine Below.tr ?_ i|refine Below.tr ?_ c|refine Below.tr ?_ l))) (U.below (by repeat (first|exact jn _ _ |refine Below.al ?_ _ |refine Below.dr ?_|refine Below.tr ?_ i|refine Below.tr ?_ c|refine Below.tr ?_ l)) (jh _)) (V.below (by repeat (first|exact jn _ _ |refine Below.al ?_ _ |refine Below.dr ?_|refine Below.tr ?_ i|refine Below.tr ?_ c|refine Below.tr ?_ l)) (jh _))).mono ?_;rintro e M ⟨rfl,i⟩;have a2:=pI M (aI) 23 32 ag;first|(have aa:=nH q i)|(have aa:=thN i ag)|skip))
  all_goals
   go_wp2_with fail
   go_meet
   refine⟨_,rfl,World.rangeAt_setCells_same _ _ _ _ (by rw[E];assumption),Below.cellsFrom ?_ _ ?_ _ _⟩
   ·repeat (first|exact jn _ _ |refine Below.al ?_ _ |refine Below.dr ?_|refine Below.tr ?_ i|refine Below.tr ?_ c|refine Below.tr ?_ l)
   have q:=l.size;have F:=c.size;have K:=i.size;simp only[jv,World.drew]at q F K;omega
 obtain⟨m,rfl,c,i⟩:=hcut;have l:∀j,j<16->wc.cell? ⟨m,0+j,A⟩=T (I .u8 ((mx kb a b d).getD j 0).toNat):=λj k=>by
  have q:j<(cC fE (iC kb a b d)).length:=by rw[gs];omega
  refine c j _ ?_;rw[D];simp[q,mx,j4,k]
 have q:=O l;have F:=O i;clear l i c s z B
 go_wp2
 go_ret;refine⟨_,rfl,⟨T ⟨m,0,A⟩,32,by rw[nX];rfl,by rw[nX];decide,λh=>(by cases h),λ_=>⟨m,0,rfl,λj k=>q j (by rw[nX]at k;exact k)⟩⟩,?_⟩;exact H.trans (F.mono H.size)
def nck(a:Nat):Nat:=(a+63)/64
def ckl(a j:Nat):Nat:=min 64 (a-64*j)
theorem Hm(p:Option jF)(n c:Nat)(w:ii):
 jg jd 210 #[ih p n c,I N 64] w λe w'=>
  e=jf (.func (.func 239) #[] #[jj (T ⟨w,0,A⟩),jj (T ⟨w.heap.size+1,0,A⟩)])/\
  w'=(w.alloc (ic #[ih p n c] 59)).alloc (ic #[I N 64] 3):=by
 go_enter func210,ntmps210
 go_wp2
 go_ret;exact⟨rfl,rfl⟩
theorem L3{P:jT}(t e:jp)(a:P.underlying t=T (.slice e))(b:∀w,(sizeOf e).run P w=.ok 1 w)(g n c l h:Nat)(d:l<=h)(f:h<=c)(i:l<h)(W:ii):
 (Instr.sliceAt t (ih (T ⟨g,0,A⟩) n c) (T (I N (l:Int))) (T (I N (h:Int))) (T (I N (h:Int)))).run P W=.ok (ih (T ⟨g,l,A⟩) (h-l) (h-l)) W:=by
 have he:P.elem t=e:=by simp[Program.elem,a]
 rw[run_sliceAt_slice W t _ _ _ _ (by rw[he];exact a),run_slice_lhm W t _ n c (by rw[he];exact a) .i64 .i64 .i64 _ _ _ Y Y Y Y,he];simp[b,Result.andThen,sliced,Addr.add];rw[if_neg Y]
 split<;>simp[*]
theorem Pd(p:Option jF)(a d f:Nat)(hp:0<a->p=T ⟨f,0,A⟩)(hL:a<=d)(a3:a<=100000)(b c:Nat)(w:ii)
 (e:je w b 59 (ih p a d)) (h:je w c 3 (I N 64)):
 dK jd 239 #[jj (T ⟨b,0,A⟩),jj (T ⟨c,0,A⟩)] (λj:Nat=>#[ih (T ⟨f,64*j,A⟩) (ckl a j) (ckl a j)])
  (λk=>k=b\/k=c) 0 (λxs=>xs=jN (nck a)) (λ_=>True) (λg=>g<+:jN (nck a)) w:=by
 intro l g Jx W m r z s t;have B:je W b 59 (ih p a d):=(m.block b e.lt).trans e;have C:je W c 3 (I N 64):=(m.block c h.lt).trans h;clear e h;refine(j5 (n:=0)).1 ?_;refine ms func239 rfl trivial ?_ rfl;simp only[ntmps239,jV,jA,jW,jX,jY,jZ,j0,j1,j3,jR,jS]
 gi_wp2
 gi_loopw [4] (λi wr=>W.heap.size<=wr.heap.size/\∃j:Nat,i=I N ((64*j:Nat):Int)/\j<=nck a/\ja (g (jN j) (λk=>k=b\/k=c) wr)/\je wr b 59 (ih p a d)/\je wr c 3 (I N 64))
  (λi _=>100064-(jo i).toNat)
 case atStart=>
  exact⟨jh _,0,rfl,jw _,t,B,C⟩
 obtain⟨D,j,rfl,hj,i,u,v⟩:=hrel;have F:=u.cell;have H:=v.cell
 by_cases a4:64*j<a
 ·have x:j<nck a:=by unfold nck;omega
  obtain rfl:p=T ⟨f,0,A⟩:=hp Y;have e:jN j++[j]<+:jN (nck a):=by
   rw[<-q9];have:jN (j+1)=(jN (nck a)).take (j+1):=by
    rw[List.take_range,qB Y]
   rw[this];exact List.take_prefix _ _
  have HJ:ja (bj W.heap.size g):=r;have HY:=O s;have aa:=O e;have hd:=aj (((64*j:Nat):Int)<(a:Int));have ad:=aj (64*(j:Int)<(a:Int));have E:∀W,(Instr.sliceAt 59 (ih (T ⟨f,0,A⟩) a d) (T (I N (64*(j:Int)))) A A).run jd W=.ok (ih (T ⟨f,64*j,A⟩) (a-64*j) (d-64*j)) W:=λW=>by
   have h:=uh (P:=jd) 59 5 qi gr f 0 a d (64*j) Y Y W
   simpa using h
  clear s t z m r e B C
  gi_wp2
  gi_region
  have e:(Min.min 64 ((a-64*j:Nat):Int))=((ckl a j:Nat):Int):=by unfold ckl;omega
  rw[e];have al:1<=ckl a j:=by unfold ckl;omega
  have au:ckl a j<=64:=by unfold ckl;omega
  have a1:64*j+ckl a j<=a:=by unfold ckl;omega
  have K:ja (g (jN j) (λk=>k=b\/k=c) wr.drew):=HJ.keep i ⟨rfl,rfl,rfl,jh _,λ_ _ _=>.inl rfl⟩;have o:je wr.drew b 59 (ih (T ⟨f,0,A⟩) a d):=u;have q:je wr.drew c 3 (I N 64):=v;have M:W.heap.size<=wr.drew.heap.size:=D;obtain⟨wo,y⟩:=J wr.drew;rw[<-y]at K o q M⊢;clear y i u v D F H E e;obtain⟨fn,tmps,assign,body,Q,R⟩:=HY (jN j) j (λk=>k=b\/k=c) wo K (by rintro _ (rfl|rfl);exact o.lt;exact q.lt) aa;have F:=o.cell;have H:=q.cell;generalize ckl a j=E at Q al au a1⊢;have a5:∀W,(Instr.sliceAt 59 (ih (T ⟨f,0,A⟩) a d) (T (I N (64*(j:Int)))) (T (I N (64*(j:Int)+(E:Int)))) (T (I N (64*(j:Int)+(E:Int))))).run jd W=.ok (ih (T ⟨f,64*j,A⟩) E E) W:=λW=>by
   have h:=L3 (P:=jd) 59 5 qi gr f a d (64*j) (64*j+E) Y Y Y W;rw[show 64*j+E-64*j=E by omega]at h
   simpa using h
  gi_wp2
  refine⟨rfl,R.mono ?_⟩;rintro e S (⟨rfl,U,y,h⟩|⟨rfl,VW,y,h⟩)
  ·have V:je S b 59 (ih (T ⟨f,0,A⟩) a d):=(h b (.inl rfl)).trans o
   have X:je S c 3 (I N 64):=(h c (.inr rfl)).trans q;have ZS:=V.cell;have ba:=X.cell;have a2:=y.size;clear h y R Q
   gi_wp2
   go_roundw
   case rel=>
    rw[<-q9]at U;exact⟨jr M a2,j+1,by go_num,by omega,U,V,X⟩
   case measure=>simp[jo];omega
  gi_wp2
  refine jP (jJ rfl _ _ _) rfl ?_;exact⟨⟨_,rfl⟩,.inr ⟨_,_,trivial,VW⟩⟩
 have x:j=nck a:=by unfold nck at*;omega
 have ad:=ak (64*(j:Int)<(a:Int));have e:ja (g (jN (nck a)) (λk=>k=b\/k=c) wr):=x▸i;clear i x s t r z m hj
 gi_wp2
 refine qd (jJ rfl _ _ _) rfl ?_;exact⟨⟨_,rfl⟩,.inl ⟨_,_,rfl,e⟩⟩
section
attribute [local go_sem] Oper.semAt_some
def ksB(kb a:LBy)(i:Nat):BitVec 8:=(mM kb a (jB 32 (1+i/64))).getD (i%64) 0
def eG(kb a l:LBy):Nat->LBy
 |0=>l
 |n+1=>(eG kb a l n).set n ((eG kb a l n).getD n 0^^^ksB kb a n)
theorem LQ(kb nb l n):(eG kb nb l n).length=l.length:=by induction n with
 |zero=>rfl
 |succ n a=>simp[eG,a]
def ir(kb a l:LBy):LBy:=eG kb a l l.length
theorem wK(kb nb l):(ir kb nb l).length=l.length:=LQ _ _ _ _
theorem Pm(x y:BitVec 8):bits .xor .u8 (x.toNat:Int) (y.toNat:Int)=((x^^^y).toNat:Int):=by
 have a:=x.isLt;have b:=y.isLt;have c:x.toNat%2^8=x.toNat:=ow a;have d:y.toNat%2^8=y.toNat:=ow b;have e:x.toNat^^^y.toNat<2^8:=qT a b;show IntKind.u8.wrap ((ri 8 (x.toNat:Int)^^^ri 8 (y.toNat:Int)).toNat:Int)=_;simp only[qU,qV,o4,c,d];exact IntWalk.u8_in _ Y
section
variable {P:jT} {F:Fence} {nF:Nat}
theorem mB{f:Array jO}{i:List jO}{o:jO}{a:Act}{w:ii}{j:Exit->Act->ii->Prop}(k:o.guard=A)(b:jp)(x:lr)(e:o.op=.load b x)
 (g:Nat) (l:a.eval x=jj (T ⟨g,0,A⟩)) (t:jp) (cs:Array jc) (fr:Nat×Nat) (d:TypeDesc) (m:w.heap[g]?=T (ic cs t fr))
 (n:P.underlying b=T d) (p:(match d with| .struct _ | .array _ _=>true|_=>false)=true) (q:(P.info? b).map (·.size)=T cs.size)
 (h:wpListIn F nF P f j i (a.put o.dst (jm cs)) w):wpListIn F nF P f j (o::i) a w:=by
 refine wpListIn_plain k λu r=>?_
 unfold Oper.wpIn;refine⟨by simp[Oper.about,e],?_⟩;rw[Oper.semAt_plain F _ _ (by rw[e];intro c s;cases s)];simp only[j9,e,l,Instr.loadAt,Instr.sureAddr,Sem.run_bind,Sem.run_pure,Result.andThen_ok,run_loadVar_row w g t b cs fr d m n p q];exact r _ _ h
end
theorem FO{w:ii}{B:Nat}{e:jp}{g a n:Nat}{xs:List jc}(h:w.ownsRow B e 1 (ih (T ⟨g,0,A⟩) n a) n xs)(i:Nat)(t:i<n)(x:jc):
 (w.setCell ⟨g,i,A⟩ x).ownsRow B e 1 (ih (T ⟨g,0,A⟩) n a) n (xs.set i x):=by
 refine⟨by simpa using h.1,?_⟩
 rcases h.2 with⟨c,_⟩|⟨d,f,j,k,l,b,m,o,p,q⟩
 ·cases c
 obtain⟨rfl,rfl⟩:g=d/\a=f:=by simpa using k
 have r:=(jy.1 b).1;have s:w.heap[g]=_:=(jy.1 b).2;refine .inr ⟨g,a,j.setIfInBounds i x,rfl,l,?_,m,o,by simpa using p,?_⟩
 ·show(w.heap.modify g _)[g]?=_
  rw[Array.getElem?_modify];simp[r,s]
 rw[Array.toList_setIfInBounds,List.take_set,q]
theorem Fj{w:ii}{B:Nat}{g b n:Nat}{l:LBy}(h:w.ownsRow B 5 1 (ih (T ⟨g,0,A⟩) n b) n (l.map v8))(i:Nat)(p:i<n):
 w.cell? ⟨g,i,A⟩=T (I .u8 (l.getD i 0).toNat)/\w.frozen? ⟨g,i,A⟩=false:=by
 rcases h.2 with⟨d,_⟩|⟨e,f,j,k,q,m,r,s,t,o⟩
 ·cases d
 obtain⟨rfl,rfl⟩:g=e/\b=f:=by simpa using k
 have u:l.length=n:=by simpa using h.1
 have a:(j.toList.take (n*1))[i]?=(l.map v8)[i]?:=by rw[o]
 have c:i<l.length:=Y;simp only[jH,qE,m];rw[List.getElem?_take,if_pos Y]at a;simp[c]at a;simp[a,v8,j4,c]
theorem IN{w:ii}{B n:Nat}{e:jp}{v:jc}{xs:List jc}(h:w.ownsRow B e 1 v n xs)(k:Nat)(hk:T k≠v.ownBlock)(x:jc):(w.setCell ⟨k,0,A⟩ x).ownsRow B e 1 v n xs:=by
 refine⟨h.1,?_⟩
 rcases h.2 with a|⟨g,b,c,rfl,d,f,i⟩
 ·exact .inl a
 exact .inr ⟨g,b,c,rfl,d,(qz _ _ _ _ (show g≠k from λe=>hk (by rw[<-e];rfl))).trans f,i⟩
theorem own_below{w w':ii}{B n m:Nat}{e:jp}{v:jc}{xs:List jc}(h:w.ownsRow B e 1 v n xs)(a:jb m w w')(b:∀j,v.ownBlock=T j->j<m):w'.ownsRow B e 1 v n xs:=by
 refine⟨h.1,?_⟩
 rcases h.2 with c|⟨g,d,f,rfl,i,j,k⟩
 ·exact .inl c
 exact .inr ⟨g,d,f,rfl,i,(a.block _ (b g rfl)).trans j,k⟩
theorem FJ{a:List Nat}{x n:Nat}(h:a++[x]<+:jN n):x=a.length/\a.length<n:=by
 have b:a.length<n:=by have:=h.length_le;simp at this;omega
 refine⟨?_,b⟩;obtain⟨t,d⟩:=h;have c:=congrArg (λm=>m[a.length]?) d;simp[b]at c;exact c
theorem Ig{β:Type}(B0 base:Nat)(e:jp)(size:Nat)(v:jc)(n:β->Nat)(f:β->List jc):
 bj B0 (λs Ψ W=>W.ownsRow base e size v (n s) (f s)/\∀j,v.ownBlock=T j->¬Ψ j):=by
 rintro s Ψ d l B ⟨a,g⟩ i m k;have b:∀j,v.ownBlock=T j->¬d j:=λj c h=>by
  rcases k _ h with h|h
  ·exact g j c h
  have:=(a.lt j c).2;omega
 exact⟨i.row a b,b⟩
theorem CO{β:Type}(B0 b:Nat)(C:Array jc)(t:jp)(fr:Nat×Nat):bj B0 (fun(_:β) Ψ W=>W.heap[b]?=T (ic C t fr)/\¬Ψ b):=by
 rintro s Ψ d i B ⟨a,e⟩ f j g;have c:¬d b:=λh=>by rcases g _ h with h|h;exact e h;have:=(jy.1 a).1;omega
 exact⟨f.cells a c,c⟩
theorem Le(d:jF)(c:Nat)(w:ii):
 jg jd 209 #[ih (T d) 0 c] w λe w'=>∃v,e=jf v/\w'.ownsRow w 5 1 v 0 []/\jb w w w':=by
 have q:∀(w:ii) (a:Option jF) (n c n' b:Nat),(binOp .eql 59 (ih a n c) (ih A n' b)).run jd w=.ok (.bool a.isNone) w:=λw a n c n' b=>Lib.run_eql_slice_nil w _ _ a n c n' b qi
 obtain⟨i,l,m,o,p⟩:=qh rp;have f:(w.alloc (ic #[] 5)).ownsRow w.heap.size 5 1 (ih (T ⟨w,0,A⟩) 0 0) 0 []:=
  ⟨rfl,.inr ⟨w.heap.size,0,#[],rfl,jh _,jt w _,jh _,by unfold jI;omega,rfl,rfl⟩⟩
 have g:=O f;clear f
 go_enter func209,ntmps209
 go_wp2_with (at_builtin;refine qJ _ rfl _ _ 59 rfl w.heap.size 5 i (I .u8 0) 1 1 qi l m o p rfl L _ _ _ rfl g d 0 c [] rfl rfl (λj f h=>(by cases h)) (λf h=>(by cases h)) (by unfold jI;omega) Y ar ?_;intro f r h j _)
 go_ret;refine⟨f,rfl,by simpa using h,?_⟩;exact Below.grown (w:=w.alloc (ic #[] 5)) ⟨rfl,rfl,rfl,by simp,λk hk=>ju _ _ _ hk⟩ j ar (λk e=>(g.lt k e).1)
theorem wg{w:ii}{B n:Nat}{v:jc}{xs:List jc}(h:w.ownsRow B 5 1 v n xs):
 ∃p c,v=ih p n c/\n<=c/\(0<n->∃g,p=T ⟨g,0,A⟩/\B<=g/\g<w.heap.size):=by
 rcases h.2 with⟨rfl,a⟩|⟨g,b,i,rfl,d,e,f,j,k,l⟩
 ·exact⟨A,0,by rw[a],by omega,λh=>by omega⟩
 exact⟨_,b,rfl,f,λ_=>⟨g,rfl,d,(jy.1 e).1⟩⟩
theorem GC(v:jc)(l:LBy)(i:l.length<=1000000)(w:ii)(h:BytesAt w v l):
 jg jd 209 #[v] w λe w'=>∃p c,e=jf (ih p l.length c)/\ja (w'.ownsRow w 5 1 (ih p l.length c) l.length (l.map v8))/\jb w w w'/\l.length<=c/\
  ja (0<l.length->∃g,p=T ⟨g,0,A⟩/\w.heap.size<=g/\g<w'.heap.size):=by
 have a:∀(e:Ending) (w':ii),(∃v,e=jf v/\w'.ownsRow w 5 1 v l.length (l.map v8)/\jb w w w')->∃p c,e=jf (ih p l.length c)/\ja (w'.ownsRow w 5 1 (ih p l.length c) l.length (l.map v8))/\jb w w w'/\l.length<=c/\
  ja (0<l.length->∃g,p=T ⟨g,0,A⟩/\w.heap.size<=g/\g<w'.heap.size):=by
  rintro e w' ⟨v,rfl,f,j⟩;obtain⟨p,c,rfl,b,d⟩:=wg f;exact⟨p,c,rfl,f,j,b,d⟩
 obtain⟨p,c,rfl,n,j,k⟩:=h
 rcases oi l.length with f|f
 ·obtain rfl:l=[]:=qm f
  rcases p with _|m
  ·obtain rfl:=j rfl
   exact(GN w).mono λe w' ⟨b,d⟩=>a e w' ⟨_,b,j7 _ _ _ _,d▸jn _ _⟩
  exact(Le m c w).mono a
 obtain⟨g,o,rfl,b⟩:=k f;exact(Ps g o c l i w b).mono a
theorem MR(kb f l:LBy)(v:jc)(w:ii)(hk:kb.length=32)(hn:f.length=12)(hl:l.length<=65536)(hv:BytesAt w v l)(i:oS w):
 jg jd 162 #[jm (kb.map v8).toArray,jm (f.map v8).toArray,v] w λe w'=>
  ∃a,e=jf (jk #[a,I N 0])/\w'.ownsRow w 5 1 a l.length ((ir kb f l).map v8)/\jb w w w':=by
 have d:(kb.map v8).toArray.size=32:=by simp[hk]
 have g:(f.map v8).toArray.size=12:=by simp[hn]
 have a:=λc w h=>F5 kb f c w hk hn h
 generalize m:(kb.map v8).toArray=z at d a⊢;generalize o:(f.map v8).toArray=B at g a⊢;have j:jb w w ((w.alloc (ic z 53)).alloc (ic B 173)):=
  ⟨rfl,rfl,rfl,by simp;omega,λk hk=>by rw[ju _ _ _ (by simp;omega),ju _ _ _ hk]⟩
 have HB:=O j;have HF:=O a;have HV:=O hv;have HT:=O i;have VE:=O d;have bk:=O g;obtain⟨pv,cv,rfl,-,-,-⟩:=hv;have h1:=ak ((65536:Int)<(l.length:Int));clear a i m o d g j;refine(j5 (n:=0)).1 ?_;refine qs func162 rfl trivial ?_ rfl;simp only[ntmps162,jV,jA,jW,jX,jY,jZ,j0,j1,j3,jR,jS]
 gi_wp2_with fail
 refine⟨trivial,rfl,(callsIn_wide.2 (GC _ l Y _ (HV.below HB))).mono ?_⟩;rintro e q ⟨p,c,rfl,r,d,bl,t⟩;have a:=O d;clear d
 gi_wp2_with fail
 refine⟨trivial,rfl,(callsIn_wide.2 (Hm p l.length c _)).mono ?_⟩;rintro e w' ⟨rfl,rfl⟩
 gi_wp2_with fail
 have a3:jb w w (((q.alloc (ic #[I jz 1] 247)).alloc (ic #[ih p l.length c] 59)).alloc (ic #[I N 64] 3)):=by
  have h:=HB.trans (a.mono HB.size);exact((h.alloc h.size _).alloc (by have:=h.size;simp;omega) _).alloc (by have:=h.size;simp;omega) _
 have a4:(((q.alloc (ic #[I jz 1] 247)).alloc (ic #[ih p l.length c] 59)).alloc (ic #[I N 64] 3)).heap[w.heap.size]?=T (ic z 53 (0,0)):=by
  have M:=a.size;simp at M;rw[ju _ _ _ (by simp;omega),ju _ _ _ (by simp;omega),ju _ _ _ Y,a.block _ (by simp;omega)];exact(ju _ _ _ ar).trans (jt w _)
 have a5:(((q.alloc (ic #[I jz 1] 247)).alloc (ic #[ih p l.length c] 59)).alloc (ic #[I N 64] 3)).heap[w.heap.size+1]?=T (ic B 173 (0,0)):=by
  have M:=a.size;simp at M;rw[ju _ _ _ (by simp;omega),ju _ _ _ (by simp;omega),ju _ _ _ Y,a.block _ ar];exact tJ w _ _
 have ad:je (((q.alloc (ic #[I jz 1] 247)).alloc (ic #[ih p l.length c] 59)).alloc (ic #[I N 64] 3)) q.heap.size 247 (I jz ((jB 32 (1+0)).toNat:Int)):=
  ((Boxed.new q _ _).alloc _).alloc _
 have S:je (((q.alloc (ic #[I jz 1] 247)).alloc (ic #[ih p l.length c] 59)).alloc (ic #[I N 64] 3)) (q.heap.size+1) 59 (ih p l.length c):=by
  have:=Boxed.new (q.alloc (ic #[I jz 1] 247)) 59 (ih p l.length c);rw[jv]at this;exact this.alloc _
 have U:je (((q.alloc (ic #[I jz 1] 247)).alloc (ic #[ih p l.length c] 59)).alloc (ic #[I N 64] 3)) (q.heap.size+1+1) 3 (I N 64):=by
  have:=Boxed.new ((q.alloc (ic #[I jz 1] 247)).alloc (ic #[ih p l.length c] 59)) 3 (I N 64);rw[jv,jv]at this;exact this
 have al:=(((r.alloc (ic #[I jz 1] 247)).alloc (ic #[ih p l.length c] 59)).alloc (ic #[I N 64] 3));have au:(((q.alloc (ic #[I jz 1] 247)).alloc (ic #[ih p l.length c] 59)).alloc (ic #[I N 64] 3)).heap.size=q.heap.size+3:=by simp
 have bm:w.heap.size+2<=q.heap.size:=by have M:=a.size;simp at M;omega
 have s:((w.alloc (ic z 53)).alloc (ic B 173)).heap.size=w.heap.size+2:=by simp
 rw[s]at al;obtain⟨W0,u⟩:=J ((((q.alloc (ic #[I jz 1] 247)).alloc (ic #[ih p l.length c] 59)).alloc (ic #[I N 64] 3)));rw[<-u]at a3 a4 a5 ad S U al au⊢;obtain⟨i,m⟩:=J q.heap.size;have x:0<l.length->∃g,p=T ⟨g,0,A⟩/\w.heap.size+2<=g/\g<i:=by rw[m,<-s];exact t
 rw[<-m]at ad S U au bm⊢;obtain⟨d,y,C⟩:∃d,(0<l.length->p=T ⟨d,0,A⟩)/\(0<l.length->d<i):=by
  rcases oi l.length with j|j
  ·exact⟨0,λh=>by omega,λh=>by omega⟩
  obtain⟨g,o,_,D⟩:=x j;exact⟨g,λ_=>o,λ_=>D⟩
 have bn:∀j,(jE p l.length c).ownBlock=T j->j<i:=by
  rw[m];intro j o;exact(r.lt j o).2
 have a1:=O au;have RN:=O y;have Zn:=O bn;clear u m r a t x s C y;refine nO (n:=0) (gf:=239) (lb:=#[jj (T ⟨i+1,0,A⟩),jj (T ⟨i+1+1,0,A⟩)]) rfl (qf func239 ae rfl)
  (Pd p l.length c d RN bl Y (i+1) (i+1+1) W0 S U) (jw _) (λ_=>rfl) (by rintro k (rfl|rfl);exact S.lt;exact U.lt)
  (λr Ψ W=>(W.ownsRow (w.heap.size+2) 5 1 (ih p l.length c) l.length ((eG kb f l (min (64*r.length) l.length)).map v8)/\∀j,(jE p l.length c).ownBlock=T j->¬Ψ j)/\
   (je W i 247 (I jz ((jB 32 (1+r.length)).toNat:Int))/\¬Ψ i)/\
   (W.heap[w.heap.size]?=T (ic z 53 (0,0))/\¬Ψ w.heap.size)/\(W.heap[w.heap.size+1]?=T (ic B 173 (0,0))/\¬Ψ (w.heap.size+1))/\
   (jb w w W/\∀k,Ψ k->w.heap.size<=k))
  (λ_ _ _ _=>False)
  ((Ig W0.heap.size (w.heap.size+2) 5 1 (ih p l.length c) (λ_=>l.length) (λr:List Nat=>(eG kb f l (min (64*r.length) l.length)).map v8)).and ((gM _ _ _ (λr:List Nat=>I jz ((jB 32 (1+r.length)).toNat:Int))).and
   ((CO _ _ _ _ _).and ((CO _ _ _ _ _).and (lq _ _ w (jh _) (aw a1))))))
  (λ_=>eZ _ _)
  ⟨⟨by simpa [eG]using al,λj o=>by have:=Zn j o;omega⟩,⟨ad,by omega⟩,⟨a4,by omega⟩,⟨a5,by omega⟩,a3,by rintro k (rfl|rfl)<;>omega⟩
  (λx ba _ _=>ba={tmps:=((Value.agg z)::(Value.agg B)::(jE pv l.length cv)::(qF (T ⟨w,0,A⟩))::(qF (T ⟨w.heap.size+1,0,A⟩))::ji::(jE p l.length c)::(js .i64 0)::(qF (T ⟨i,0,A⟩))::(jE (T ⟨d,64*x,A⟩) (ckl l.length x) (ckl l.length x))::ji::ji::(jE pv l.length cv)::(js .i64 l.length)::(Value.bool false)::(jE pv l.length cv)::(jE p l.length c)::(jE p l.length c)::(Value.func (.func 239) #[] #[jj (T ⟨i+1,0,A⟩),jj (T ⟨i+1+1,0,A⟩)])::(jE (T ⟨d,64*x,A⟩) (ckl l.length x) (ckl l.length x))::ji::ji::ji::ji::ji::ji::ji::ji::ji::ji::ji::ji::ji::ji::ji::ji::ji::ji::ji::ji::ji::ji::ji::ji::[]).toArray,defers:=[]}) (eZ _ _)
  ?assign ?body ?done ?stop
 case assign=>
  intro ll r x Ψ s K a _ Q
  gi_wp2
  exact Q _ _ (jn _ _) a rfl
 case body=>
  rintro ll r x Ψ ba s ⟨⟨y,U0⟩,⟨C,a2⟩,⟨Q,bb⟩,⟨hN,bc⟩,F,hΨ⟩ rfl t VD bK WR;obtain⟨rfl,Vm⟩:=FJ t;obtain⟨a,m⟩:=J r.length;have u:(r++[a]).length=a+1:=by rw[m];simp
  have Q7:=O u;rw[<-m]at y C Vm⊢;have hL:64*a<l.length:=by unfold nck at Vm;omega
  obtain rfl:p=T ⟨d,0,A⟩:=RN Y;clear t m u;obtain⟨t,m⟩:=J (jB 32 (1+a));rw[<-m]at C;have bd:=O m;clear m;have m:oS s:=(Lib.tabBelow_of_tabIs HT) _ F;have bo:=O m;have V:=O F;have u:=O y;have bf:=O U0;have HK:=O Q;have HN:=O hN;have TS:=C.cell;have HC:=O C;clear m F y U0 Q hN C
  gi_upto_region 7 with fail
  refine wpIn_region_lit ?_;refine mB rfl 53 _ rfl w.heap.size rfl 53 z (0,0) _ HK.out qK rfl (by rw[VE];rfl) ?_;refine mB rfl 173 _ rfl (w.heap.size+1) rfl 173 B (0,0) _ HN.out qL rfl (by rw[bk];rfl) ?_
  gi_wp2_with fail
  refine⟨trivial,rfl,CallsIn.inRound ll (callsIn_wide.2 ((HF t s bo).mono ?_))⟩;rintro e K ⟨vb,rfl,H,E⟩;obtain⟨p2,c2,rfl,bM,bq⟩:=wg H;obtain⟨D,rfl,Tk,bN⟩:=bq L;have R:∀m,m<64->K.cell? ⟨D,m,A⟩=T (I .u8 ((mM kb f t).getD m 0).toNat):=λm hm=>(Fj H m hm).1
  have bO:d<s.heap.size:=(u.lt d rfl).2;have br:i<s.heap.size:=HC.lt;have X:K.ownsRow (w.heap.size+2) 5 1 (ih (T ⟨d,0,A⟩) l.length c) l.length ((eG kb f l (64*a+0)).map v8):=by
   have h:=u.out;rw[qB Y]at h;exact own_below h E (by intro j o;exact(u.lt j o).2)
  have o:je K i 247 (I jz (t.toNat:Int)):=(E.block _ br).trans HC;have bs:=O R;have bu:=O X;have QE:=O o;have Qk:=O E;have bv:1<=ckl l.length a:=by unfold ckl;omega
  have bw:ckl l.length a<=64:=by unfold ckl;omega
  have aa:64*a+ckl l.length a=min (64*(a+1)) l.length:=by unfold ckl;omega
  have bA:64*a+ckl l.length a<=l.length:=by unfold ckl;omega
  have TK:=O aa;have bT:d<K.heap.size:=Y;clear aa R X o E H TS;generalize ckl l.length a=E at bv bw TK bA⊢;have X:∀W,(Instr.sliceAt 59 (ih (T ⟨D,0,A⟩) 64 c2) A (T (I N (E:Int))) A).run jd W=.ok (ih (T ⟨D,0,A⟩) E c2) W:=
   rZ (P:=jd) 59 5 qi gr D 0 64 c2 E Y Y
  gi_wp2_with fail
  clear X
  gi_loopw [28] (λo H=>∃m:Nat,o=I N m/\m<=E/\ja (H.ownsRow (w.heap.size+2) 5 1 (ih (T ⟨d,0,A⟩) l.length c) l.length ((eG kb f l (64*a+m)).map v8))/\ja (aN d K H)) (λo _=>(64-jo o).toNat)
  case atStart=>exact⟨0,rfl,by omega,bu,aN.refl _ _⟩
  obtain⟨m,rfl,hm,o,H⟩:=hrel
  by_cases b0:m<E
  ·have hd:=aj ((m:Int)<(E:Int))
   have TR:wr.cell? ⟨D,m,A⟩=T (I .u8 ((mM kb f t).getD m 0).toNat):=fi (bs m Y) (H.block _ (by show D≠d;omega));obtain⟨Sz,bg⟩:=Fj o (64*a+m) Y;have R:eG kb f l (64*a+(m+1))=(eG kb f l (64*a+m)).set (64*a+m) ((eG kb f l (64*a+m)).getD (64*a+m) 0^^^(mM kb f t).getD m 0):=by
    show(eG kb f l (64*a+m)).set _ (_ ^^^ksB kb f (64*a+m))=_;rw[ksB,show(64*a+m)/64=a by omega,show(64*a+m)%64=m by omega,bd]
    rfl
   generalize(mM kb f t).getD m 0=kx at TR R;generalize(eG kb f l (64*a+m)).getD (64*a+m) 0=px at Sz R;have aa:=O R;clear R
   gi_wp2
   go_roundw
   case rel=>
    refine⟨m+1,by go_num,by omega,?_,H.trans (aN.setCell _ _ _ _)⟩;have h:=FO o (64*a+m) Y (I .u8 (px^^^kx).toNat);rw[Pm,aa,List.map_set];exact h
   case measure=>simp[jo];omega
  have hd:=ak ((m:Int)<(E:Int));have aa:m=E:=Y;have QX:ja (wr.ownsRow (w.heap.size+2) 5 1 (ih (T ⟨d,0,A⟩) l.length c) l.length ((eG kb f l (min (64*(a+1)) l.length)).map v8)):=by
   have h:=o;rw[aa,TK]at h;exact h
  have R:je wr i 247 (I jz (t.toNat:Int)):=(H.block _ (by have:=Zn d rfl;show i≠d;omega)).trans QE;have b1:=R.cell;have b2:=R.frozen;have bB:=O R;clear aa o R
  gi_wp2
  have bC:((t.toNat:Int)+1)%4294967296=((jB 32 (1+(a+1))).toNat:Int):=by rw[bd,o4,o4];omega
  rw[bC];have bI:¬Ψ d:=bf d rfl;have R:∀k,k<s.heap.size->k≠d->k≠i->(wr.setCell ⟨i,0,A⟩ (I jz ((jB 32 (1+(a+1))).toNat:Int))).heap[k]?=s.heap[k]?:=λk h1 h2 h3=>by
   rw[qz _ _ _ _ (show k≠i from h3),H.block k h2,Qk.block k h1]
  have bg:s.heap.size<=(wr.setCell ⟨i,0,A⟩ (I jz ((jB 32 (1+(a+1))).toNat:Int))).heap.size:=by
   have h1:=Qk.size;have h2:=H.size;simp only[World.setCell,Array.size_modify];omega
  have b3:=a1.out;have b4:=Zn d rfl;have bh:=Q7.out;have aa:jb 0 s (wr.setCell ⟨i,0,A⟩ (I jz ((jB 32 (1+(a+1))).toNat:Int))):=
   ((Qk.mono (jw _)).trans (H.below (jw _))).setCell (jw _) _
  refine⟨⟨⟨bg,λk o hk hA ho=>?_⟩,aa,λk hk=>?_⟩,⟨?_,bf⟩,⟨?_,a2⟩,⟨?_,bb⟩,⟨?_,bc⟩,?_,hΨ⟩
  ·exact(R k (jy.1 hA).1 Y Y).trans hA
  ·exact R k (VD k hk) (λe=>bI (e▸hk)) (λe=>a2 (e▸hk))
  ·show World.ownsRow _ _ _ _ _ _ (List.map v8 (eG kb f l (min (64*(r++[a]).length) l.length)))
   rw[bh];exact IN QX i (λe=>by
    have h:d=i:=by simpa [lm]using e.symm
    omega) _
  ·show je _ _ _ (I jz ((jB 32 (1+(r++[a]).length)).toNat:Int))
   rw[bh];exact bB.set _
  ·exact(R _ (jy.1 HK).1 (by have:=(u.lt d rfl).1;omega) Y).trans HK
  ·exact(R _ (jy.1 HN).1 (by have:=(u.lt d rfl).1;omega) Y).trans HN
  refine V.trans ⟨aa.os,aa.tape,aa.output,bg,λk hk=>?_⟩;exact R k (aU V.size) (by have:=(u.lt d rfl).1;omega) Y
 case done=>
  rintro D xs Ψ W k rfl ⟨⟨y,U0⟩,⟨C,a2⟩,⟨Q,bb⟩,⟨hN,bc⟩,F,hΨ⟩ a;have X:eG kb f l (min (64*(jN (nck l.length)).length) l.length)=ir kb f l:=by
   rw[List.length_range,Nat.min_eq_right (by unfold nck;omega)];rfl
  rw[X]at y;have u:=O y;have V:=O F;clear y F X
  gi_wp2
  refine⟨by simp,.inl ⟨_,_,rfl,km (b:=D) (ds:=[]) a,?_⟩⟩;refine⟨jk #[ih p l.length c,I N 0],by simp[results,results162,go_sem],_,rfl,?_,?_⟩
  ·exact k6 (qI u _ a rfl) Y
  exact V.trans (ie (aw a1))
 intro D a r Ψ W _ _ h;exact h.elim
end
def tl(kb a b l:LBy):LBy:=ir kb a l++mx kb a b (ir kb a l)
theorem OK(kb nb hb l):(tl kb nb hb l).length=l.length+16:=by simp[tl,wK,nX]
structure iF(w:ii):Prop where
 num:dJ w
 start:fz w
 const:oS w
theorem iF.below{w w':ii}(h:iF w)(a:jb w w w'):iF w':=
 ⟨h.num.below a (jh _),h.start.below a (jh _),(Lib.tabBelow_of_tabIs h.const) _ a⟩
theorem JZ(kb a c l:LBy)(p v:jc)(w:ii)(hk:kb.length=32)(q:a.length=12)(Q:c.length<=70000)(R:l.length<=65536)(o:BytesAt w p c)(t:BytesAt w v l)(u:iF w):
 jg jd 104 #[jm (kb.map v8).toArray,jm (a.map v8).toArray,p,v] w λe w'=>
  ∃r,e=jf (jk #[r,I N 0])/\w'.ownsRow w 5 1 r (l.length+16) ((tl kb a c l).map v8)/\jb w w w':=by
 have i:(kb.map v8).toArray.size=32:=by simp[hk]
 have j:(a.map v8).toArray.size=12:=by simp[q]
 have b:=λv w h n=>MR kb a l v w hk q R h n
 have g:=λS w z n B U=>G2 kb a c (ir kb a l) p S w hk q Q (by rw[wK];omega) z n B U
 generalize x:(kb.map v8).toArray=d at i b g⊢;generalize y:(a.map v8).toArray=f at j b g⊢;have m:jb w w ((w.alloc (ic d 53)).alloc (ic f 173)):=
  ⟨rfl,rfl,rfl,by simp;omega,λk hk=>by rw[ju _ _ _ (by simp;omega),ju _ _ _ hk]⟩
 have C:=O m;have V:=O b;have W:=O g;have X:=O (t.below m);have aa:=O o;have s:=O u;have D:=O i;have E:=O j;clear b g u x y i j m t o
 go_enter func104,ntmps104
 go_upto_region 1 with fail
 refine wp_region_lit ?_;refine qv rfl 53 _ rfl w.heap.size rfl 53 d (0,0) _ ((ju _ _ _ ar).trans (jt w _)) qK rfl (by rw[D];rfl) ?_;refine qv rfl 173 _ rfl (w.heap.size+1) rfl 173 f (0,0) _ (tJ w _ _) qL rfl (by rw[E];rfl) ?_
 go_wp2_with fail
 refine(V v _ X.out (s.below C).const).mono ?_;rintro e g ⟨r,rfl,i,o⟩;obtain⟨t,u,rfl,au,-⟩:=wg i;have x:l.length=(ir kb a l).length:=(wK _ _ _).symm;have b:g.ownsRow (w.heap.size+2) 5 1 (ih t l.length u) (ir kb a l).length ((ir kb a l).map v8):=by
  rw[<-x];have j:((w.alloc (ic d 53)).alloc (ic f 173)).heap.size=w.heap.size+2:=by simp
  rw[j]at i;exact i
 have F:BytesAt g (ih t l.length u) (ir kb a l):=BytesAt.of_own b;have H:∀j,(jE t l.length u).ownBlock=T j->j<g.heap.size:=λj y=>(i.lt j y).2
 have K:g.heap[w.heap.size]?=T (ic d 53 (0,0)):=(o.block _ (by simp;omega)).trans ((ju _ _ _ ar).trans (jt w _));have M:g.heap[w.heap.size+1]?=T (ic f 173 (0,0)):=(o.block _ ar).trans (tJ w _ _);have ad:=O b;have al:=O F;have Zr:=O H;have SZ:=O K;have P:=O M;have m:=ac C o;have R2:=O x;clear i b F H K M o x
 go_upto_region 4 with fail
 refine wp_region_lit ?_;refine wpList_step (λK i=>?_);go_simp;refine i _ _ ?_;clear i K;refine qv rfl 53 _ rfl w.heap.size rfl 53 d (0,0) _ SZ.out qK rfl (by rw[D];rfl) ?_;refine qv rfl 173 _ rfl (w.heap.size+1) rfl 173 f (0,0) _ P.out qL rfl (by rw[E];rfl) ?_
 go_wp2_with fail
 refine(W _ _ (aa.below m) al (s.below m).num (s.below m).start).mono ?_;rintro e H ⟨vt,rfl,x,i⟩;have o:=own_below ad i (λj y=>Zr j y);rw[<-R2]at o;have K:w.heap.size+2<=H.heap.size:=by
  have z:=m.size;have n:=i.size;have B:=(jy.1 P).1;omega
 have M:=O x;have F:=O o;have Qk:=ac m i;clear x o i
 go_wp2_with (at_builtin;refine AL rfl _ _ rfl (w.heap.size+2) _ _ _ rfl F _ (mx kb a c (ir kb a l)) rfl M.out (by rw[nX];omega) K ?_;intro i x b o)
 go_ret2;refine⟨i,rfl,?_,Qk.grown o Y (λk e=>jr Y (F.lt k e).1)⟩;rw[nX,<-ki]at b;exact k6 b Y
theorem te{w:ii}{b:Nat}{l:List jc}{t:jp}(h:w.heap[b]?=T (ic l.toArray t (0,0))):w.rangeAt b 0 l:=λj v a=>by
 simp[jH,h,a]
theorem po{P:jT}(o:jO)(a:Act)(c:jp)(x:lr)(e:o.op=.load c x)(b f:Nat)(g:a.eval x=jj (T ⟨b,f,A⟩)){w:ii}(cs:List jc)(d:TypeDesc)(h:w.rangeAt b f cs)
 (i:P.underlying c=T d) (j:d.isRow=true) (k:(P.info? c).map (·.size)=T cs.length):(j9 a.eval o).run P w=.ok (.value (jm cs.toArray)) w:=by
 unfold j9;simp only[e,g,Sem.run_bind,run_loadAt_mid w b f c cs d h i j k,Result.andThen_ok,Sem.run_pure]

theorem GK(n:Int)(a:0<=n)(b:n<9223372036854775808):eW n=2*n.toNat:=by unfold eW;rw[if_pos a]
theorem JE(n:Int)(a:n<0):eW n=2*(-(n+1)).toNat+1:=by unfold eW;rw[if_neg Y]
theorem Mo(a:Nat)(b:a<18446744073709551616):bits .xor .u64 (a:Int) 0=(a:Int):=by
 have h:=bits_xor_u64_nat a 0 b Y
 simpa using h
theorem xor_ones64(a:Nat)(b:a<18446744073709551616):bits .xor .u64 (a:Int) 18446744073709551615=((18446744073709551615-a:Nat):Int):=by
 have h:=bits_xor_u64_nat a 18446744073709551615 b Y;have e:a^^^18446744073709551615=18446744073709551615-a:=by
  apply Nat.eq_of_testBit_eq
  intro i;rw[Nat.testBit_xor,show(18446744073709551615:Nat)=2^64-1 by decide,Nat.testBit_two_pow_sub_one,show 2^64-1-a=2^64-(a+1) by omega,Nat.testBit_two_pow_sub_succ b]
  by_cases c:i<64
  ·simp[c]
  have:a.testBit i=false:=Nat.testBit_lt_two_pow (jD b (ql Y (Nat.le_of_not_lt c):2^64<=2^i));simp[c,this]
 rw[e]at h;exact h
theorem mV{k:IntKind}{a b:Int}(h:a=b):Ending.returned (.int k a)=jf (.int k b):=by rw[h]
theorem Hq(n:Int)(f: -9223372036854775808<=n)(a:n<9223372036854775808)(w:ii):
 jg jd 177 #[I N n] w λe w'=>e=jf (I jL (eW n))/\w=w':=by
 by_cases h:0<=n
 ·rw[GK n h a]
  go_enter func177,ntmps177
  go_wp2
  go_ret;refine⟨mV ?_,rfl⟩;have e:n/9223372036854775808=0:=Y;obtain⟨m,rfl⟩:=q5 h;rw[e,show(m:Int)*2=((2*m:Nat):Int) by omega,Mo _ Y]
  rfl
 have b:n<0:=Y;rw[JE n b];have g:n<= -1:=Y
 go_enter func177,ntmps177
 go_wp2
 go_ret;refine⟨mV ?_,rfl⟩;obtain⟨m,i⟩:∃m:Nat,m=(2*n+18446744073709551616).toNat:=⟨_,rfl⟩;have c:qc.wrap (qc.wrap n*2)=(m:Int):=by simp only[qo];omega
 have d:qc.wrap (n/9223372036854775808)=18446744073709551615:=by simp only[qo];omega
 rw[c,d,xor_ones64 _ Y];omega
theorem JF(k:Nat):bits .or .u8 ((k:Int)%256) 128=(((jB 8 (k%128+128)).toNat:Nat):Int):=by
 have h:∀j:Fin 256,bits .or .u8 ((j.val:Nat):Int) 128=(((jB 8 (j.val%128+128)).toNat:Nat):Int):=by decide+kernel
 have e:=h ⟨k%256,qb _ Y⟩;have a:(k%256)%128=k%128:=Y;simp only[a]at e;rw[<-e]
 rfl
theorem oy(W:ii)(x:jc):bZ (W.alloc (ic #[x] 5)) (ih (T ⟨W,0,A⟩) 1 1) 1 1 [x]:=
 ey W [x] 5 (0,0) 1 1 1 rfl (jh _)
theorem LO(f:Nat):∀a,a<128^(f+1)->(aZ a).length<=f+1:=by
 induction f with
 |zero=>intro a b;rw[iS Y];simp
 |succ f c=>
  intro a b
  by_cases h:a<128
  ·rw[iS h];simp
  rw[mX h];have:=c (a/128) (by rw[Nat.div_lt_iff_lt_mul Y];rw[kw]at b;omega);simp;omega
theorem kp(a:Nat)(b:a<18446744073709551616):(aZ a).length<=10:=LO 9 a (Nat.lt_trans b L)
theorem wI(B n b:Nat)(v:jc)(xs:List jc)(w:ii)(c:w.ownsRow B 5 1 v n xs)(d:B<=w.heap.size)(s:b<18446744073709551616)(D:n<=3000000):
 jg jd 176 #[v,I jL b] w λe w'=>∃g,e=jf g/\aW B 5 1 w w' v g (n+(aZ b).length) (xs++(aZ b).map v8):=by
 obtain⟨i,a⟩:=J (aZ b);have p:=O (kp b s);rw[<-a]at p⊢;have t:=O a;have u:=O c;have x:=O d;clear a c d
 go_enter func176,ntmps176
 go_wp2_with fail
 go_loopw [0,1] (λd c wr=>∃(a:LBy) (k:Nat) (j:jc),d=j/\c=I jL k/\k<=18446744073709551615/\ja (i=a++aZ k)/\ja (aW B 5 1 w wr v j (n+a.length) (xs++a.map v8))) (λ_ c _=>(jo c).toNat)
 case atStart=>exact⟨[],b,v,rfl,rfl,by omega,O t,O (by simpa using aW.refl u)⟩
 obtain⟨a,k,j,rfl,rfl,hk,l,d⟩:=hrel;have E:a.length<=10:=by have y:=p.out;rw[l,jG]at y;omega
 have q:=O (jr x d.grown.size)
 by_cases r:k<128
 ·have z:=ak ((128:Int)<=(k:Int))
  have m:=O (show i=a++[jB 8 k] by rw[l,iS r]);have c:(k:Int)=(((jB 8 k).toNat:Nat):Int):=by rw[o4];omega
  have o:=O c;clear c
  go_wp2_with (at_builtin;refine Hid.out ?_)
  refine O ?_;refine mb rfl λ_ f=>mJ _ _ rfl B _ _ _ rfl (de d.own (af wr _)) _ 1 [_] rfl (oy wr _) (by simp[j8]) (show n+a.length+1<=4000000 by omega) (jr q (af wr _).size) λg C c=>f _ _ ?_
  replace c:=O c;clear f
  go_wp2_with fail
  go_ret;refine⟨_,rfl,?_⟩;have h:=d.trans (aW.after (af wr _) c);rw[show [js IntKind.u8 (k:Int)]=[jB 8 k].map v8 by rw[o];rfl,jC]at h;rw[m,jG,ki,<-qG];exact h
 have z:=aj ((128:Int)<=(k:Int));have m:=O (show i=(a++[jB 8 (k%128+128)])++aZ (k/128) by rw[l,mX r];simp);have o:=O (JF k)
 go_wp2_with (at_builtin;refine Hid.out ?_)
 refine O ?_;refine mb rfl λ_ f=>mJ _ _ rfl B _ _ _ rfl (de d.own (af wr _)) _ 1 [_] rfl (oy wr _) (by simp[j8]) (show n+a.length+1<=4000000 by omega) (jr q (af wr _).size) λg C c=>f _ _ ?_
 replace c:=O c;clear f
 go_wp2_with fail
 refine⟨⟨a++[jB 8 (k%128+128)],k/128,_,rfl,?_,by omega,m,O ?_⟩,?_⟩
 ·exact congrArg (js .u64) Y
 ·have h:=d.trans (aW.after (af wr _) c)
  rw[o,jC]at h;rw[jG,ki,<-qG];exact h
 simp only[jo];omega
section
section
variable {P:jT} {ops:Array jO} {Q:Exit->Act->ii->Prop} {md:Region.Mode} {S:ii->Prop}
abbrev dM:=dF
theorem bi{b:Nat}{a:Act}{w:ii}(S:ii->Prop)(t:Sch)(d:P.follows .mixedOrders=true)(e:Region.noSelect ops=true)
 (hk:fH .any ops t (Array.replicate ops.size false)=true) (f:t.len<=ops.size) (g:∀c a h w,Q (.panic c) a w->Q (.panic c) h w)
 (c:S w.drew) (h:dM P ops Q S t a w.drew):(Code.region b ops true).wp P Q a w:=
 FD S t d e hk f g c h
theorem az{i:Nat}{o:jO}{v:jc}{r:Sch}{a:Act}{w:ii}(b:ops[i]?=T o)(c:Region.wanted o (yielded ops a.tmps)=true)
 (d:∀w,S w->(j9 a.eval o).run P w=.ok (.value v) w) (h:dM P ops Q S r (a.put o.dst v) w):dM P ops Q S (.take i r) a w:=
 Oy b c d h
theorem PF{i:Nat}{o:jO}{r:Sch}{a:Act}{w:ii}(b:ops[i]?=T o)(c:Region.wanted o (yielded ops a.tmps)=false)
 (h:dM P ops Q S r (a.put o.dst ji) w):dM P ops Q S (.take i r) a w:=
 Je b c h
theorem ai{i:Nat}{o:jO}{r:Sch}{a:Act}{w:ii}(c:ops[i]?=T o)
 (h:∀b:Act->ii->Prop,Shut (∀a w,S w->(S w->dM P ops Q S r a w)->b a w)->if Region.wanted o (yielded ops a.tmps)=true then Oper.wp P o a w b Q else b (a.put o.dst ji) w):
 dM P ops Q S (.one i r) a w:=
 Jy c h
theorem Kl{i:Nat}{o:jO}{v:jc}{r:Sch}{a:Act}{w:ii}{f:FuncId}{args:Array jc}(b:ops[i]?=T o)(c:Region.wanted o (yielded ops a.tmps)=true)
 (he:∀w,(j9 a.eval o).run P w=.ok (.enter f args) w) (d:∀w,S w->jg P f args w λe w'=>e=jf v/\w'=w) (h:dM P ops Q S r (a.put o.dst v) w):dM P ops Q S (.take i r) a w:=
 OR b c he d h
theorem gB{i j:Nat}{x y:Sch}{a:Act}{w:ii}(b:dM P ops Q S (.one i x) a w)(c:dM P ops Q S (.one j y) a w):dM P ops Q S (.two i j x y) a w:=
 Pg b c
end
theorem aS{p q:Prop}(k:q)(h:q->p:=by intro k;refine az (v:=?_) rfl (by rfl) (λW' hS=>?_) ?_;rotate_left;(go_simp;with_reducible rfl);(try simp only[Act.put,List.getElem_toArray,List.getElem_cons_succ,List.getElem_cons_zero,List.setIfInBounds_toArray,List.set_cons_zero,List.set_cons_succ]);exact k):p:=h k
theorem aC{p q:Prop}(k:q)(h:q->p:=by intro k;refine az (v:=?_) rfl (by rfl) (λW' hS=>?_) ?_;rotate_left;(clear hS;go_simp;with_reducible rfl);(try simp only[Act.put,List.getElem_toArray,List.getElem_cons_succ,List.getElem_cons_zero,List.setIfInBounds_toArray,List.set_cons_zero,List.set_cons_succ]);exact k):p:=h k
theorem P4{p q:Prop}(k:q)(h:q->p:=by intro k;refine az (v:=?_) rfl (by rfl) (λW' hS=>?_) ?_;rotate_left;(obtain⟨s0,s1⟩:=hS;go_simp;with_reducible rfl);(try simp only[Act.put,List.getElem_toArray,List.getElem_cons_succ,List.getElem_cons_zero,List.setIfInBounds_toArray,List.set_cons_zero,List.set_cons_succ]);exact k):p:=h k
theorem PW{p q:Prop}(k:q)(h:q->p:=by intro k;refine az (v:=?_) rfl (by rfl) (λW' hS=>?_) ?_;rotate_left;(obtain⟨s0,s1,s2⟩:=hS;go_simp;with_reducible rfl);(try simp only[Act.put,List.getElem_toArray,List.getElem_cons_succ,List.getElem_cons_zero,List.setIfInBounds_toArray,List.set_cons_zero,List.set_cons_succ]);exact k):p:=h k
theorem P3{p q:Prop}(k:q)(h:q->p:=by intro k;refine az (v:=?_) rfl (by rfl) (λW' hS=>?_) ?_;rotate_left;(obtain⟨s0,s1,s2,s3⟩:=hS;go_simp;with_reducible rfl);(try simp only[Act.put,List.getElem_toArray,List.getElem_cons_succ,List.getElem_cons_zero,List.setIfInBounds_toArray,List.set_cons_zero,List.set_cons_succ]);exact k):p:=h k
theorem P5{p q:Prop}(k:q)(h:q->p:=by intro k;refine az (v:=?_) rfl (by rfl) (λW' hS=>?_) ?_;rotate_left;(obtain⟨s0,s1,s2,s3,s4⟩:=hS;go_simp;with_reducible rfl);(try simp only[Act.put,List.getElem_toArray,List.getElem_cons_succ,List.getElem_cons_zero,List.setIfInBounds_toArray,List.set_cons_zero,List.set_cons_succ]);exact k):p:=h k
theorem Ch{p q:Prop}(k:q)(h:q->p:=by intro k;refine az (v:=?_) rfl (by rfl) (λW' hS=>?_) ?_;rotate_left;(obtain⟨k0,k1,k2,k3⟩:=hS;go_simp;with_reducible rfl);(try simp only[Act.put,List.getElem_toArray,List.getElem_cons_succ,List.getElem_cons_zero,List.setIfInBounds_toArray,List.set_cons_zero,List.set_cons_succ]);exact k):p:=h k
theorem P8{p q:Prop}(k:q)(h:q->p:=by intro k;refine az (v:=?_) rfl (by rfl) (λW' hS=>?_) ?_;rotate_left;(obtain⟨k0,k1,k2,k3,k4⟩:=hS;go_simp;with_reducible rfl);(try simp only[Act.put,List.getElem_toArray,List.getElem_cons_succ,List.getElem_cons_zero,List.setIfInBounds_toArray,List.set_cons_zero,List.set_cons_succ]);exact k):p:=h k
theorem Cg{p q:Prop}(k:q)(h:q->p:=by intro k;refine az (v:=?_) rfl (by rfl) (λW' hS=>?_) ?_;rotate_left;(obtain⟨k0,k1,k2,k3,k4,k5⟩:=hS;go_simp;with_reducible rfl);(try simp only[Act.put,List.getElem_toArray,List.getElem_cons_succ,List.getElem_cons_zero,List.setIfInBounds_toArray,List.set_cons_zero,List.set_cons_succ]);exact k):p:=h k
theorem Qc{p q:Prop}(k:q)(h:q->p:=by intro k;refine az (v:=?_) rfl (by rfl) (λW' hS=>?_) ?_;rotate_left;(have b0:=hS;clear hS;go_simp;with_reducible rfl);(try simp only[Act.put,List.getElem_toArray,List.getElem_cons_succ,List.getElem_cons_zero,List.setIfInBounds_toArray,List.set_cons_zero,List.set_cons_succ]);exact k):p:=h k
theorem tS{p q:Prop}(k:q)(h:q->p:=by intro k;refine az (v:=?_) rfl (by rfl) (λW' hS=>?_) ?_;rotate_left;(have b0:=hS.1.1;have b1:=hS.1.2;clear hS;go_simp;with_reducible rfl);(try simp only[Act.put,List.getElem_toArray,List.getElem_cons_succ,List.getElem_cons_zero,List.setIfInBounds_toArray,List.set_cons_zero,List.set_cons_succ]);exact k):p:=h k
theorem Qa{p q:Prop}(k:q)(h:q->p:=by intro k;refine az (v:=?_) rfl (by rfl) (λW' hS=>?_) ?_;rotate_left;(have b0:=hS.1.1;clear hS;go_simp;with_reducible rfl);(try simp only[Act.put,List.getElem_toArray,List.getElem_cons_succ,List.getElem_cons_zero,List.setIfInBounds_toArray,List.set_cons_zero,List.set_cons_succ]);exact k):p:=h k
theorem gH{p q:Prop}(k:q)(h:q->p:=by intro k;refine PF rfl (by rfl) ?_;(try simp only[Act.put,List.getElem_toArray,List.getElem_cons_succ,List.getElem_cons_zero,List.setIfInBounds_toArray,List.set_cons_zero,List.set_cons_succ]);exact k):p:=h k
end
def ap(D:Nat->Prop)(w:ii)(v:jc)(sz n:Nat)(xs:List jc):Prop:=
 xs.length=n*sz/\∃(p:Option jF) (c:Nat),v=ih p n c/\n<=c/\(p=A->c=0)/\
  (0<n->∃g o,p=T ⟨g,o,A⟩/\D g/\∀(j:Nat) a,xs[j]?=T a->w.cell? ⟨g,o+j,A⟩=T a)
theorem ap.row{D:Nat->Prop}{w:ii}{v:jc}{sz n:Nat}{xs:List jc}(h:ap D w v sz n xs):bZ w v sz n xs:=by
 obtain⟨a,p,c,b,d,f,i⟩:=h;refine⟨a,p,c,b,d,f,λj=>?_⟩;obtain⟨g,o,e,-,k⟩:=i j;exact⟨g,o,e,k⟩
theorem bE{w w':ii}{a:jF}(h:w'.heap[a.block]?=w.heap[a.block]?):w'.cell? a=w.cell? a:=by unfold jH;rw[h]
theorem ap.keep{D:Nat->Prop}{w w':ii}{v:jc}{sz n:Nat}{xs:List jc}(h:ap D w v sz n xs)(hk:∀g,D g->w'.heap[g]?=w.heap[g]?):ap D w' v sz n xs:=by
 obtain⟨d,p,c,f,i,k,l⟩:=h;refine⟨d,p,c,f,i,k,λm=>?_⟩;obtain⟨g,o,e,b,q⟩:=l m;exact⟨g,o,e,b,λj r s=>(bE (a:=⟨g,o+j,A⟩) (hk g b)).trans (q j r s)⟩
theorem ap.mono{D D':Nat->Prop}{w:ii}{v:jc}{sz n:Nat}{xs:List jc}(h:ap D w v sz n xs)(a:∀g,D g->D' g):ap D' w v sz n xs:=by
 obtain⟨b,p,c,d,f,i,j⟩:=h;refine⟨b,p,c,d,f,i,λk=>?_⟩;obtain⟨g,o,e,l,h⟩:=j k;exact⟨g,o,e,a g l,h⟩
def eo(x:Val)(a:jc):List jc:=[I N x.k,I N x.n,jq x.s,a]
def aX:List Val->List jc->List jc
 |x::xs,a::b=>eo x a++aX xs b
 |_,_=>[]
mutual
def ao(D:Nat->Prop)(w:ii):Val->jc->Prop
 | .mk _ _ _ l,b=>∃a,ap D w b 4 l.length (aX l a)/\ax D w l a
def ax(D:Nat->Prop)(w:ii):List Val->List jc->Prop
 |[],a=>a=[]
 |x::xs,a=>∃b c,a=b::c/\ao D w x b/\ax D w xs c
end
mutual
theorem ao.keep{D:Nat->Prop}{w w':ii}(hk:∀g,D g->w'.heap[g]?=w.heap[g]?):∀(x:Val) (a:jc),ao D w x a->ao D w' x a
 | .mk k n s l,a,h=>by
  rw[ao]at h⊢;obtain⟨b,c,d⟩:=h;exact⟨b,c.keep hk,ax.keep hk l b d⟩
theorem ax.keep{D:Nat->Prop}{w w':ii}(hk:∀g,D g->w'.heap[g]?=w.heap[g]?):∀(l:List Val) (a:List jc),ax D w l a->ax D w' l a
 |[],a,h=>by rw[ax]at h⊢;exact h
 |x::l,a,h=>by
  rw[ax]at h⊢;obtain⟨b,c,d,e,f⟩:=h;exact⟨b,c,d,ao.keep hk x b e,ax.keep hk l c f⟩
end
mutual
theorem ao.mono{D D':Nat->Prop}{w:ii}(b:∀g,D g->D' g):∀(x:Val) (a:jc),ao D w x a->ao D' w x a
 | .mk k n s l,a,h=>by
  rw[ao]at h⊢;obtain⟨c,d,e⟩:=h;exact⟨c,d.mono b,ax.mono b l c e⟩
theorem ax.mono{D D':Nat->Prop}{w:ii}(b:∀g,D g->D' g):∀(l:List Val) (a:List jc),ax D w l a->ax D' w l a
 |[],a,h=>by rw[ax]at h⊢;exact h
 |x::l,a,h=>by
  rw[ax]at h⊢;obtain⟨c,d,e,f,g⟩:=h;exact⟨c,d,e,ao.mono b x c f,ax.mono b l d g⟩
end
theorem ax.len{D:Nat->Prop}{w:ii}:∀{l:List Val} {a:List jc},ax D w l a->a.length=l.length
 |[],a,h=>by rw[ax]at h;rw[h];rfl
 |x::l,a,h=>by
  rw[ax]at h;obtain⟨c,d,rfl,e,b⟩:=h;simp[ax.len b]
theorem ax.at{D:Nat->Prop}{w:ii}:∀{l:List Val} {a:List jc} {i:Nat} {x:Val},ax D w l a->l[i]?=T x->∃b,a[i]?=T b/\ao D w x b
 |[],a,i,x,h,c=>by simp at c
 |y::l,a,i,x,h,c=>by
  rw[ax]at h;obtain⟨b,k,rfl,d,f⟩:=h
  cases i with
  |zero=>
   have e:y=x:=by simpa using c
   subst e;exact⟨b,rfl,d⟩
  |succ i=>
   obtain⟨e,g,j⟩:=ax.at (i:=i) f (by simpa using c);exact⟨e,by simpa using g,j⟩
theorem ax.append{D:Nat->Prop}{w:ii}:∀{l m:List Val} {b a:List jc},ax D w l b->ax D w m a->ax D w (l++m) (b++a)
 |[],m,b,a,h,k=>by rw[ax]at h;rw[h];exact k
 |x::l,m,b,a,h,k=>by
  rw[ax]at h;obtain⟨c,d,rfl,e,f⟩:=h;show ax D w (x::(l++m)) (c::(d++a));rw[ax];exact⟨c,_,rfl,e,ax.append f k⟩
theorem ax.one{D:Nat->Prop}{w:ii}{x:Val}{a:jc}(h:ao D w x a):ax D w [x] [a]:=by
 rw[ax];exact⟨a,[],rfl,h,by rw[ax]⟩
theorem nf:∀(l m:List Val) (a b:List jc),a.length=l.length->aX (l++m) (a++b)=aX l a++aX m b
 |[],m,a,b,h=>by
  have:a=[]:=qm (by simpa using h);subst this
  cases m<;>cases b<;>simp[aX]
 |x::l,m,[],b,h=>by simp at h
 |x::l,m,c::a,b,h=>by
  simp only[jS,aX,nf l m a b (by simpa using h),jC]
theorem oz:∀(l:List Val) (a:List jc) (j i:Nat) (x:Val) (b:jc),l[j]?=T x->a[j]?=T b->i<4->(aX l a)[j*4+i]?=(eo x b)[i]?
 |[],a,j,i,x,b,h,_,_=>by simp at h
 |y::l,[],j,i,x,b,_,h,_=>by simp at h
 |y::l,v::a,0,i,x,b,h,c,d=>by
  have e:y=x:=by simpa using h
  have f:v=b:=by simpa using c
  subst e;subst f;show(eo y v++aX l a)[0*4+i]?=_;rw[Nat.zero_mul,qa,List.getElem?_append_left (by simp[eo];omega)]
 |y::l,v::a,j+1,i,x,b,h,c,d=>by
  show(eo y v++aX l a)[(j+1)*4+i]?=_;have e:(eo y v).length=4:=rfl;rw[List.getElem?_append_right (by rw[e];omega),e,show(j+1)*4+i-4=j*4+i by omega];exact oz l a j i x b (by simpa using h) (by simpa using c) d
theorem ao.slice{D:Nat->Prop}{w:ii}{x:Val}{a:jc}(h:ao D w x a):∃b,ap D w a 4 x.l.length (aX x.l b)/\ax D w x.l b:=by
 obtain⟨k,n,s,l⟩:=x;rw[ao]at h;exact h
theorem ao.form{D:Nat->Prop}{w:ii}{x:Val}{a:jc}(h:ao D w x a):∃p c,a=ih p x.l.length c:=by
 obtain⟨b,⟨-,p,c,e,-⟩,-⟩:=h.slice;exact⟨p,c,e⟩
structure kU(a b:Nat)(w:ii):Prop where
 tab:∃z,w.heap[a]?=T (ic #[z,.func (.func 175) #[] #[],.func (.func 178) #[] #[],.func (.func 179) #[] #[jj (T ⟨b,0,A⟩)]] 268 (0,0))
 ptr:w.heap[b]?=T (ic #[jj (T ⟨a,0,A⟩)] 202 (0,0))
theorem Kv(w:ii):
 jg jd 122 #[] w λe w'=>∃l s,e=jf (jj (T ⟨l,0,A⟩))/\kU l s w'/\jb w w w':=by
 have C:∀(fn:Fn) (first m:Array jc) (w:ii),(Instr.makeFunc fn first m).run jd w=.ok (.func fn first m) w:=λ_ _ _ _=>rfl
 obtain⟨b,a⟩:=J ((w.alloc (ic #[.nilFunc,.nilFunc,.nilFunc,.nilFunc] 268)).alloc (ic #[jj (T ⟨w,0,A⟩)] 202));have t:b.heap.size=w.heap.size+2:=by rw[a];simp
 have n:b.heap[w.heap.size]?=T (ic #[.nilFunc,.nilFunc,.nilFunc,.nilFunc] 268 (0,0)):=by
  rw[a,ju _ _ _ ar];exact jt w _
 have c:b.heap[w.heap.size+1]?=T (ic #[jj (T ⟨w,0,A⟩)] 202 (0,0)):=by
  rw[a];have:=jt (w.alloc (ic #[.nilFunc,.nilFunc,.nilFunc,.nilFunc] 268)) (ic #[jj (T ⟨w,0,A⟩)] 202);rw[jv]at this;exact this
 have o:jb w w b:=by rw[a];exact((jn _ w).alloc (jh _) _).alloc ar _
 obtain⟨D,u,p,d⟩:=uJ (P:=jd) (i:=1) (v:=.func (.func 175) #[] #[]) n L rfl;obtain⟨E,F,q,f⟩:=uJ (P:=jd) (i:=2) (v:=.func (.func 178) #[] #[]) p L rfl;obtain⟨x,H,r,g⟩:=uJ (P:=jd) (i:=3) (v:=.func (.func 179) #[] #[jj (T ⟨w.heap.size+1,0,A⟩)]) q L rfl;have h:=(d.block (w.heap.size+1) Y).trans c;have j:=(f.block (w.heap.size+1) Y).trans h;have k:=(g.block (w.heap.size+1) Y).trans j;have K:=cell_of (i:=0) h rfl;have M:=cell_of (i:=0) j rfl;have Q:=cell_of (i:=0) k rfl;have y:=O (((o.trans (d.below (jh _))).trans (f.below (jh _))).trans (g.below (jh _)));have z:ja (kU w.heap.size (w.heap.size+1) x):=O ⟨⟨_,r⟩,k⟩;have B:=cell_of (i:=0) c rfl;rw[a]at u B;clear t n c o p q r d f g h j k a
 go_enter func122,ntmps122
 go_wp2
 go_ret;exact⟨_,_,rfl,z,y⟩
theorem cell_below{w w':ii}{a:jF}{v:jc}(h:w.cell? a=T v)(b:jb w w w'):w'.cell? a=T v:=
 (bE (b.block _ (eR h))).trans h
theorem cell_grown{w w':ii}{a:jF}{v:jc}{b:Option Nat}(h:w.cell? a=T v)(c:w.grownBy w' b)(d:b≠T a.block):w'.cell? a=T v:=
 (bE (c.block _ (eR h) (λe=>d e.symm))).trans h
theorem aP(W:ii):jb W W W.drew:=⟨rfl,rfl,rfl,jh _,λ_ _=>rfl⟩
theorem I2(B n:Nat)(v:jc)(xs:List jc)(m:Int)(s:ByteArray)(l:jc)(w:ii)(a:w.ownsRow B 5 1 v n xs)(h:B<=w.heap.size)(z: -9223372036854775808<=m)(C:m<9223372036854775808)(S:n<=2900000):
 jg jd 175 #[v,jm #[I N 1,I N m,jq s,l]] w λe w'=>∃r,e=jf r/\aW B 5 1 w w' v r (n+(enc (.mk 1 m s [])).length) (xs++(enc (.mk 1 m s [])).map v8):=by
 have b:enc (.mk 1 m s [])=1#8::aZ (eW m):=by rw[enc,if_pos rfl]
 have K:=O b;clear b;have j:=jt w (ic #[I N 1,I N m,jq s,l] 118);have b:=cell_of (i:=1) j rfl;have k:=O (de a (af w (ic #[I N 1,I N m,jq s,l] 118)));have g:=O (af w (ic #[I N 1,I N m,jq s,l] 118));have t:ja (v.ownBlock≠T w.heap.size):=O (bW a (.inl (jh _)));have M:=O h;obtain⟨p,c,rfl⟩:=aO a;obtain⟨v,d⟩:=J (jE p n c);rw[<-d]at k t a;have D:=O d;clear j h a d
 go_enter func175,ntmps175
 go_upto_region 1 with fail
 obtain⟨u,d⟩:=J w.heap.size;obtain⟨a,h⟩:=J (w.alloc (ic #[I N 1,I N m,jq s,l] 118));have j:u<a.heap.size:=by rw[h,d];simp
 rw[<-h]at b k g⊢;rw[<-d]at b t⊢;have y:ja (B<=a.drew.heap.size):=O (jr M g.size);have E:ja (u<a.drew.heap.size):=O j;replace k:ja (a.drew.ownsRow B 5 1 v n xs):=O (de k (aP a));replace g:ja (jb w w a.drew):=O (g.trans (aP a|>.mono g.size));replace b:a.drew.cell? ⟨u,1,A⟩=T (I N m):=b;clear d h j;refine jQ ?_;refine bi (λx=>x.cell? ⟨u,1,A⟩=T (I N m)) (.take 0 (.take 3 (.take 4 (.one 1 (.one 2 (.take 5 (.one 6 (.take 7 .done)))))))) ae ae ae L (λ_ _ _ _ h=>h) b ?_;generalize a.drew=o at b k g y E⊢;have P:=O k;rw[<-D];iterate 3 refine aS ?_
 refine ai rfl (λF d=>?_);go_simp;refine d _ _ (cell_below b (af _ _)) λ_=>?_
 clear d;refine G ?_;refine ai rfl (λF d=>?_);rw[if_pos ag];refine mJ _ _ rfl B v _ _ rfl (de P (af o _)) _ 1 [_] rfl (oy o _) (by simp[j8]) Y (jr y (af o _).size) λr Q j=>?_
 have q:=t.out;have H:=cell_grown (cell_below b (af o (ic #[I .u8 1] 5))) j.grown q;replace j:=O (aW.after (af o _) j);refine d _ _ H λ_=>?_
 clear d q;refine G ?_
 (refine Kl (v:=I jL (eW m)) (f:=177) (args:=#[I N m]) rfl ag (λx=>?_) (λx _=>(Hq m z C x).mono λe w' h=>⟨h.1,h.2.symm⟩) ?_;·(go_simp;try with_reducible rfl))
 refine G ?_;refine ai rfl (λF d=>?_);go_simp;have F:=j.grown.size;have q:=j.ne E t;refine(wI B _ (eW m) r _ Q j.own (jr y F) (o7 m z C) Y).mono ?_;rintro e U ⟨V,rfl,x⟩;have R:=cell_grown H x.grown q;replace x:=O (j.trans x);refine d _ _ R λ_=>?_
 clear d F q;refine G ?_;refine aS ?_;refine jM ?_
 go_wp2_with fail
 go_ret;refine⟨_,rfl,?_⟩;have h:=aW.after g x;rw[K,jA,qH,<-D];rw[jC,show n+1+(aZ (eW m)).length=n+((aZ (eW m)).length+1) by omega]at h;exact h
theorem FW(B n:Nat)(v:jc)(xs:List jc)(m:Int)(s:ByteArray)(l:jc)(w:ii)(a:w.ownsRow B 5 1 v n xs)(g:B<=w.heap.size)(S:n+s.size<=2900000):
 jg jd 178 #[v,jm #[I N 2,I N m,jq s,l]] w λe w'=>∃o,e=jf o/\aW B 5 1 w w' v o (n+(enc (.mk 2 m s [])).length) (xs++(enc (.mk 2 m s [])).map v8):=by
 have b:enc (.mk 2 m s [])=2#8::(aZ s.size++aK s):=by rw[enc,if_neg L,if_pos rfl]
 have K:=O b;clear b;have u:=jt w (ic #[I N 2,I N m,jq s,l] 118);have d:=cell_of (i:=2) u rfl;have k:=O (de a (af w (ic #[I N 2,I N m,jq s,l] 118)));have f:=O (af w (ic #[I N 2,I N m,jq s,l] 118));have q:ja (v.ownBlock≠T w.heap.size):=O (bW a (.inl (jh _)));have M:=O g;obtain⟨p,c,rfl⟩:=aO a;obtain⟨v,b⟩:=J (jE p n c);rw[<-b]at k q a;have D:=O b;clear u g a b
 go_enter func178,ntmps178
 go_upto_region 1 with fail
 obtain⟨x,a⟩:=J w.heap.size;obtain⟨b,g⟩:=J (w.alloc (ic #[I N 2,I N m,jq s,l] 118));have h:x<b.heap.size:=by rw[g,a];simp
 rw[<-g]at d k f⊢;rw[<-a]at d q⊢;have y:ja (B<=b.drew.heap.size):=O (jr M f.size);have z:ja (x<b.drew.heap.size):=O h;replace k:ja (b.drew.ownsRow B 5 1 v n xs):=O (de k (aP b));replace f:ja (jb w w b.drew):=O (f.trans (aP b|>.mono f.size));replace d:b.drew.cell? ⟨x,2,A⟩=T (jq s):=d;clear a g h;refine jQ ?_;refine bi (λa=>a.cell? ⟨x,2,A⟩=T (jq s)) (.take 0 (.take 3 (.take 4 (.take 5 (.take 6 (.take 8 (.take 9 (.one 1 (.one 2 (.one 7 (.one 10 (.take 11 .done)))))))))))) ae ae ae L (λ_ _ _ _ h=>h) d ?_;generalize b.drew=r at d k f y z⊢;have P:=O k;rw[<-D];iterate 7 refine aS ?_
 refine ai rfl (λC a=>?_);go_simp;refine a _ _ (cell_below d (af _ _)) λ_=>?_
 clear a;refine G ?_;refine ai rfl (λC a=>?_);rw[if_pos ag];refine mJ _ _ rfl B v _ _ rfl (de P (af r _)) _ 1 [_] rfl (oy r _) (by simp[j8]) Y (jr y (af r _).size) λo Q g=>?_
 have t:=q.out;have E:=cell_grown (cell_below d (af r (ic #[I .u8 2] 5))) g.grown t;replace g:=O (aW.after (af r _) g);refine a _ _ E λ_=>?_
 clear a t;refine G ?_;refine ai rfl (λC a=>?_);go_simp;rw[show qc.wrap (s.size:Int)=(s.size:Int)from by rw[qo];omega];have F:=g.grown.size;have t:=g.ne z q;refine(wI B _ s.size o _ Q g.own (jr y F) Y Y).mono ?_;rintro e U ⟨R,rfl,j⟩;have V:=kp s.size Y;have H:=cell_grown E j.grown t;replace j:=O (g.trans j);refine a _ _ H λ_=>?_
 clear a F t;refine G ?_;refine ai rfl (λC a=>?_);rw[if_pos ag];refine JU _ _ rfl B R _ _ rfl j.own s rfl Y (jr y j.grown.size) λo F t=>?_
 have C:=cell_grown H t.grown (j.ne z q);replace t:=O (j.trans t);refine a _ _ C λ_=>?_
 clear a;refine G ?_;refine aS ?_;refine jM ?_
 go_wp2_with fail
 go_ret;refine⟨_,rfl,?_⟩;have h:=aW.after f t;have u:(s.data.toList.map UInt8.toBitVec)=aK s:=rfl;rw[K,jA,qH,jG,ki,eA,<-D];rw[u,jC,jC,show n+1+(aZ s.size).length+s.size=n+((aZ s.size).length+s.size+1) by omega]at h;exact h
def Buf(b:Nat)(a:LBy)(w:ii):Prop:=LibA.IsBuffer 179 (λ_=>A) 5 b b 0 (a.map v8) w
theorem Buf.lt{b:Nat}{a:LBy}{w:ii}(h:Buf b a w):b<w.heap.size:=LibA.IsBuffer.lt h
theorem Buf.keep{b:Nat}{a:LBy}{w w':ii}(h:Buf b a w)(c:jb w w w'):Buf b a w':=by
 obtain⟨e,v,f,d,g,i⟩:=h;exact⟨e,v,f,d.of_heap (c.block _ d.lt),de g c,i⟩
theorem Buf.new(w:ii):Buf w.heap.size [] (w.alloc (ic #[ih A 0 0,I N 0,.int .i8 0] 179)):=
 LibA.zero_isBuffer (jh _) (LibA.three_whole (jt w _))
theorem sj{p q:Prop}(k:q)(h:q->p:=by intro k;refine az (v:=?_) rfl ag (λW' hS=>?_) ?_;rotate_left;(obtain⟨c0,c1⟩:=hS;go_simp;with_reducible rfl);refine G ?_;exact k):p:=h k
theorem NB(b:Nat)(d:LBy)(w:ii)(h:Buf b d w):
 jg jd 166 #[jj (T ⟨b,0,A⟩)] w λe w'=>∃v,e=jf v/\w'.ownsRow b 5 1 v (d.map v8).length (d.map v8)/\jb w w w':=by
 obtain⟨l,K,x⟩:=LibA.IsBuffer.cases h
 rcases x with⟨m,a⟩|⟨g,o,y,a,p,q,r,i,s,t,z⟩
 ·have f:=a.c0
  have j:=a.c1;rw[m];clear a l m h
  go_enter func166,ntmps166
  go_wp2
  refine jQ ?_;refine bi (λc=>c.cell? ⟨b,0,A⟩=T (ih A 0 0)/\c.cell? ⟨b,0+1,A⟩=T (I N 0)) (.take 0 (.take 1 (.take 2 (.take 3 (.take 4 (.take 5 (.take 6 (.take 7 (.take 8 (.take 9 .done)))))))))) ae ae ae L (λ_ _ _ _ h=>h) ⟨f,j⟩ ?_;iterate 3 refine aC ?_
  refine sj ?_;iterate 3 refine aC ?_
  refine sj ?_;iterate 2 refine aC ?_
  refine jM ?_
  go_wp2_with fail
  go_ret;exact⟨_,rfl,j7 _ _ _ _,aP _⟩
 have f:=a.c0;have j:=a.c1;have B:=i;unfold jI at B;have C:=O q;have D:=O p;have E:=O i;have F:=O s;have H:=O t;obtain⟨n,k⟩:=J ((d.map v8).length);rw[<-k]at r f⊢;have u:=O k;clear a l h q p i s t z k
 go_enter func166,ntmps166
 go_wp2
 refine jQ ?_;refine bi (λc=>c.cell? ⟨b,0,A⟩=T (ih (T ⟨g,0,A⟩) n o)/\c.cell? ⟨b,0+1,A⟩=T (I N 0)) (.take 0 (.take 1 (.take 2 (.take 3 (.take 4 (.take 5 (.take 6 (.take 7 (.take 8 (.take 9 .done)))))))))) ae ae ae L (λ_ _ _ _ h=>h) ⟨f,j⟩ ?_;iterate 3 refine aC ?_
 refine sj ?_;iterate 3 refine aC ?_
 refine sj ?_;iterate 2 refine aC ?_
 refine jM ?_
 go_wp2_with fail
 go_ret;exact⟨_,rfl,⟨by simp[u.out],.inr ⟨g,o,y,rfl,D,C,r,E,by rw[F];simp,by rw[qC,u];exact H⟩⟩,aP _⟩
def wrF(k:Int):Nat:=if k=1 then 175 else if k=2 then 178 else 179
def wrL(a:Nat)(k:Int):Array jc:=if k=1 then #[]else if k=2 then #[]else #[jj (T ⟨a,0,A⟩)]
def oC(b a:Nat)(x:Val):Prop:=
 ∀(B n:Nat) (v:jc) (xs:List jc) (c:jc) (d:Int) (w:ii),x.k=d->w.ownsRow B 5 1 v n xs->B<=w.heap.size->ao (·<B) w x c->kU b a w->b<B->a<B->n+(enc x).length<=2900000->
  jg jd (wrF x.k) (#[v,jm #[I N d,I N x.n,jq x.s,c]]++wrL a x.k) w λe w'=>∃f,e=jf f/\aW B 5 1 w w' v f (n+(enc x).length) (xs++(enc x).map v8)
theorem Ar(k:Int)(args:Array jc)(w:ii):(callFunc (wrF k) args).run jd w=.ok (.enter (wrF k) args) w:=by
 unfold wrF
 split
 ·rfl
 split<;>rfl
theorem kU.at{a b:Nat}{w:ii}(h:kU a b w){k:Int}{m:Nat}(c:k=(m:Int))(e:1<=m)(f:m<=3):w.cell? ⟨a,m,A⟩=T (.func (.func (wrF k)) #[] (wrL b k)):=by
 obtain⟨z,d⟩:=h.tab;subst c;have:m=1\/m=2\/m=3:=Y
 rcases this with rfl|rfl|rfl<;>exact cell_of d rfl
theorem kU.keep{a b:Nat}{w w':ii}{B:Nat}(h:kU a b w)(c:jb B w w')(d:a<B)(e:b<B):kU a b w':=by
 obtain⟨⟨z,f⟩,g⟩:=h;exact⟨⟨z,(c.block _ d).trans f⟩,(c.block _ e).trans g⟩
theorem rb{l:List Val}{i:Nat}{x:Val}(h:l[i]?=T x):encs (l.take (i+1))=encs (l.take i)++enc x:=by
 obtain⟨a,e⟩:=List.getElem?_eq_some_iff.1 h;rw[kn a,o5,e];simp[encs]
theorem rm(l:List Val)(i:Nat):(encs (l.take i)).length<=(encs l).length:=by
 have h:=o5 (l.take i) (l.drop i);rw[List.take_append_drop]at h;rw[h,jG];omega
theorem LR(z t:Nat)(m:Int)(s:ByteArray)(l:List Val)(j:∀x∈l,(1<=x.k/\x.k<=3)/\oC z t x):oC z t (.mk 3 m s l):=by
 intro B n v xs u kk w bk e k Q o q r b;obtain rfl:(3:Int)=kk:=bk;have a:enc (.mk 3 m s l)=3#8::(aZ l.length++encs l):=by rw[enc,if_neg L,if_neg L]
 have HE:=O a;show jg jd 179 #[v,jm #[I N 3,I N m,jq s,u],jj (T ⟨t,0,A⟩)] w _;have a4:n+((aZ l.length).length+(encs l).length+1)<=2900000:=by rw[a,jA,jG]at b;omega
 have bl:=oe l;clear a b;have M:=jt w (ic #[I N 3,I N m,jq s,u] 118);have a:=cell_of (i:=3) M rfl;have f:=O (de e (af w (ic #[I N 3,I N m,jq s,u] 118)));have b:=O (af w (ic #[I N 3,I N m,jq s,u] 118));have HN:ja (v.ownBlock≠T w.heap.size):=O (bW e (.inl (jh _)));have R:=O k;have Tz:=O e;have R2:=O j;obtain⟨us,a3,g⟩:=Q.slice;replace a3:ap (·<B) w u 4 l.length (aX l us):=a3;replace g:ax (·<B) w l us:=g;obtain⟨E,pu,S,y,C,F,D⟩:=a3;have a5:=O g;have RV:=O D;have hu:u=ih pu l.length S:=y;have bm:l.length<=S:=C;obtain⟨d,h⟩:=J l.length;rw[<-h]at hu bm a4 bl;have U:=O h;subst hu;have bn:ja (n+((aZ d).length+(encs l).length+1)<=2900000):=O a4;have HT:=O o;have V:=O q;have W:=O r;obtain⟨p,c,rfl⟩:=aO e;obtain⟨v,Q⟩:=J (jE p n c);rw[<-Q]at f HN Tz;have HV:=O Q;have bA:=kp d Y;have bB:d<=2900000:=Y;have H:n+30<=3000000\/2999970<n:=Y;clear M k e Q j E y C F D g h o q r H
 go_enter func179,ntmps179
 go_upto_region 1 with fail
 obtain⟨X,e⟩:=J w.heap.size;obtain⟨C,g⟩:=J (w.alloc (ic #[I N 3,I N m,jq s,ih pu d S] 118));have h:X<C.heap.size:=by rw[g,e];simp
 rw[<-g]at a f b⊢;rw[<-e]at a HN⊢;have bC:ja (X=w.heap.size):=O e;have j:ja (B<=C.drew.heap.size):=O (jr R b.size);have o:ja (X<C.drew.heap.size):=O h;replace f:ja (C.drew.ownsRow B 5 1 v n xs):=O (de f (aP C));replace b:ja (jb w w C.drew):=O (b.trans (aP C|>.mono b.size));replace a:C.drew.cell? ⟨X,3,A⟩=T (ih pu d S):=a;clear e g h;refine jQ ?_;refine bi (λE=>E.cell? ⟨X,3,A⟩=T (ih pu d S)) (.take 0 (.take 3 (.take 4 (.take 5 (.take 6 (.one 1 (.one 2 (.one 7 (.take 8 .done))))))))) ae ae ae L (λ_ _ _ _ h=>h) a ?_;generalize C.drew=W1 at a f b j o⊢;have y:=O f;rw[<-HV];iterate 5 refine aS ?_
 refine ai rfl (λK' k=>?_);go_simp;refine k _ _ (cell_below a (af _ _)) λ_=>?_
 clear k;refine G ?_;refine ai rfl (λK' k=>?_);rw[if_pos ag];refine mJ _ _ rfl B v _ _ rfl (de y (af W1 _)) _ 1 [_] rfl (oy W1 _) (by simp[j8]) Y (jr j (af W1 _).size) λv' w5 H=>?_
 have g:=HN.out;have q:=cell_grown (cell_below a (af W1 (ic #[I .u8 3] 5))) H.grown g;replace H:=O (aW.after (af W1 _) H);refine k _ _ q λ_=>?_
 clear k g;refine G ?_;refine ai rfl (λK' k=>?_);go_simp;rw[show qc.wrap (d:Int)=(d:Int)from by rw[qo];omega];have r:=H.grown.size;have g:=H.ne o HN;refine(wI B _ d v' _ w5 H.own (jr j r) Y Y).mono ?_;rintro e w6 ⟨v6,rfl,K⟩;have c6:=cell_grown q K.grown g;have bI:=K.ne (jD o r) g;replace K:=O (H.trans K);refine k _ _ c6 λ_=>?_
 clear k r g;refine G ?_;refine aS ?_;refine jM ?_;replace K:ja (aW B 5 1 w w6 v v6 (n+1+(aZ d).length) (xs++[I .u8 3]++(aZ d).map v8)):=O (aW.after b K);clear a q f y b j o
 go_wp2_with fail
 go_loopw [0,19] (λb a wr=>∃(i:Nat) (vr:jc),b=vr/\a=I N i/\i<=d/\ja (aW B 5 1 w wr v vr (n+1+(aZ d).length+(encs (l.take i)).length) (xs++[I .u8 3]++(aZ d).map v8++(encs (l.take i)).map v8))) (λ_ a _=>d-(jo a).toNat)
 case atStart=>exact⟨0,v6,rfl,rfl,jw _,by simpa [encs]using K⟩
 obtain⟨i,vr,rfl,rfl,hi,r⟩:=hrel
 by_cases ba:i<d
 ·have hd:=aj ((i:Int)<(d:Int))
  have Q3:=aj (i<d);obtain⟨g,o,rfl,Ya,j⟩:=RV (aw U);obtain⟨x,y⟩:∃x,l[i]?=T x:=⟨l[i]'(by rw[<-U];exact ba),qj (by rw[<-U];exact ba)⟩;obtain⟨D,P,al⟩:=a5.at y;have F:=λq hq=>oz l us i q x D y P hq
  have R6:=r.below Tz R;have Rw:∀a u,a.block<B->w.cell? a=T u->wr.cell? a=T u:=λa u ha hu=>(bE (R6.block _ ha)).trans hu
  have d0:wr.cell? ⟨g,o+i*4,A⟩=T (I N x.k):=Rw _ _ Ya (j (i*4+0) _ (F 0 L));have d1:wr.cell? ⟨g,o+i*4+1,A⟩=T (I N x.n):=Rw _ _ Ya (j (i*4+1) _ (F 1 L));have d2:wr.cell? ⟨g,o+i*4+2,A⟩=T (jq x.s):=Rw _ _ Ya (j (i*4+2) _ (F 2 L));have d3:wr.cell? ⟨g,o+i*4+3,A⟩=T D:=Rw _ _ Ya (j (i*4+3) _ (F 3 L));have HI:=O y;have Zk:x∈l:=rn y;obtain⟨⟨a1,a2⟩,hw⟩:=R2 x Zk;have HW:=O hw;have HX:=O (ao.keep (λb M=>R6.block b M) x D al);have bb:=O (HT.keep R6 V W);obtain⟨aa,ad,bo⟩:=al.form;obtain⟨f,au⟩:∃f:Nat,x.k=(f:Int):=⟨x.k.toNat,by omega⟩;have bc:=O au;have bq:1<=f:=Y;have br:f<=3:=Y;have bs:z<wr.heap.size:=jD V (jr R r.grown.size);have bu:t<wr.heap.size:=jD W (jr R r.grown.size);have bd:u0.ownBlock≠T z:=bW r.own (.inr V);have Z1:u0.ownBlock≠T t:=bW r.own (.inr W);rw[au]at d0;subst bo;clear y P al F R6 Rw j Zk hw a1 a2 au a5 RV
  go_upto_region 5 with fail
  obtain⟨y,au⟩:=J wr.heap.size;have F:=jt wr (ic #[I N f,I N x.n,jq x.s,ih aa x.l.length ad] 118);have QK:=af wr (ic #[I N f,I N x.n,jq x.s,ih aa x.l.length ad] 118);have bf:(wr.alloc (ic #[I N f,I N x.n,jq x.s,ih aa x.l.length ad] 118)).heap.size=y+1:=by rw[au];simp
  have bv:ja (u0.ownBlock≠T y):=O (bW r.own (.inl (Nat.le_of_eq au.symm)));rw[<-au]at F⊢;obtain⟨j,S2⟩:=J (wr.alloc (ic #[I N f,I N x.n,jq x.s,ih aa x.l.length ad] 118));rw[<-S2]at F QK bf⊢;obtain⟨D,P⟩:=J (jE aa x.l.length ad);rw[<-P]at HX F;have bK:=O P;have al:jb wr wr j.drew:=QK.trans ((aP j).mono QK.size);have R8:ja (aW B 5 1 w j.drew v u0 (n+1+(aZ d).length+(encs (l.take i)).length) (xs++[I .u8 3]++(aZ d).map v8++(encs (l.take i)).map v8)):=O (r.trans (aW.after al (aW.refl (de r.own al))));have a1:B<=wr.heap.size:=jr R r.grown.size;have bg:ja (ao (·<B) j.drew x D):=O (ao.keep (λb M=>al.block b (jD M a1)) x D HX);have a2:ja (kU z t j.drew):=O (bb.keep (al.mono a1) V W);have SD:j.drew.cell? ⟨t,0,A⟩=T (jj (T ⟨z,0,A⟩))/\j.drew.cell? ⟨y,0,A⟩=T (I N f)/\j.drew.cell? ⟨y,1,A⟩=T (I N x.n)/\j.drew.cell? ⟨y,2,A⟩=T (jq x.s)/\j.drew.cell? ⟨y,3,A⟩=T D/\j.drew.cell? ⟨z,f,A⟩=T (.func (.func (wrF x.k)) #[] (wrL t x.k)):=
   ⟨cell_of a2.ptr rfl,cell_of F rfl,cell_of F rfl,cell_of F rfl,cell_of F rfl,a2.at bc bq br⟩
  have bh:ja (B<=j.drew.heap.size):=O (jr a1 QK.size);have bw:=O Z1;have Si:=O bd;have bM:(f:Int)<4:=Y;clear F QK bf al a1 Z1 bd HX bb r bs bu d0 d1 d2 d3 S2 c6 P au;refine jQ ?_;refine bi (λE=>E.cell? ⟨t,0,A⟩=T (jj (T ⟨z,0,A⟩))/\E.cell? ⟨y,0,A⟩=T (I N f)/\E.cell? ⟨y,1,A⟩=T (I N x.n)/\E.cell? ⟨y,2,A⟩=T (jq x.s)/\E.cell? ⟨y,3,A⟩=T D/\E.cell? ⟨z,f,A⟩=T (.func (.func (wrF x.k)) #[] (wrL t x.k))) (.take 0 (.take 1 (.take 2 (.take 3 (.take 4 (.take 5 (.take 6 (.take 7 (.take 8 (.one 9 (.take 10 .done))))))))))) ae ae ae L (λ_ _ _ _ h=>h) SD ?_;generalize j.drew=wb at SD R8 bg a2 bh⊢;iterate 9 refine Cg ?_
  refine ai rfl (λK' k=>?_);have EG:=Ar x.k;go_simp;refine(HW B _ u0 _ D _ wb bc R8.own bh bg a2 V W (by have E:=bn.out;have b:=rm l (i+1);rw[rb HI,jG]at b;omega)).mono ?_;rintro e w7 ⟨v7,rfl,b⟩;obtain⟨k0,k1,k2,k3,k4,k5⟩:=SD;have F:=bw.out;have E:=bv.out;have P:=Si.out;refine k _ _ ⟨cell_grown k0 b.grown F,cell_grown k1 b.grown E,cell_grown k2 b.grown E,cell_grown k3 b.grown E,cell_grown k4 b.grown E,cell_grown k5 b.grown P⟩ λ_=>?_
  replace b:=O (R8.trans b);clear k EG F E P;refine G ?_;refine Cg ?_;refine jM ?_
  go_wp2_with fail
  refine⟨⟨i+1,v7,rfl,by go_num,by omega,O ?_⟩,?_⟩
  ·have h:=b.out
   rw[rb HI,jG,ki,<-qG,<-jC];exact h
  simp only[jo];omega
 have hd:=ak ((i:Int)<(d:Int));have Q3:=ak (i<d);have a:l.take i=l:=pz (by rw[<-U];omega);have b:=O a;clear a
 go_wp2_with fail
 go_ret;refine⟨_,rfl,?_⟩;have h:=r.out;rw[b]at h;rw[HE,jA,qH,jG,ki,<-U,<-HV];rw[jC,jC,show n+1+(aZ d).length+(encs l).length=n+((aZ d).length+(encs l).length+1) by omega]at h;exact h
theorem LJ(e g:Nat):∀(f:Nat) (x:Val),wfV f x->(1<=x.k/\x.k<=3)/\oC e g x:=by
 have p:∀(m:Int) (s:ByteArray) (l:List Val),-9223372036854775808<=m->m<9223372036854775808->s=emS->l=[]->oC e g (.mk 1 m s l):=by
  intro m s l a b d c B n v xs h i w j k o r t u y z;obtain rfl:(1:Int)=i:=j;subst c;have C:(enc (.mk 1 m s [])).length<=11:=by
   rw[enc,if_pos rfl,jA];have:=kp _ (o7 m a b);omega
  exact I2 B n v xs m s h w k o a b Y
 have q:∀(m:Int) (s:ByteArray) (l:List Val),l=[]->oC e g (.mk 2 m s l):=by
  intro m s l c B n v xs h i w j k o r t u y z;obtain rfl:(2:Int)=i:=j;subst c;have C:(enc (.mk 2 m s [])).length=(aZ s.size).length+s.size+1:=by
   rw[enc,if_neg L,if_pos rfl,jA,jG,eA]
  exact FW B n v xs m s h w k o Y
 intro f
 induction f with
 |zero=>
  rintro⟨k,m,s,l⟩ h;rw[wfV]at h
  rcases h with⟨rfl,a,b,d,c⟩|⟨rfl,rfl,a,c⟩|⟨-,-,-,-,h⟩
  ·exact⟨by simp[Val.k],p m s l a b d c⟩
  ·exact⟨by simp[Val.k],q 0 s l c⟩
  exact h.elim
 |succ f i=>
  rintro⟨k,m,s,l⟩ h;rw[wfV]at h
  rcases h with⟨rfl,a,b,d,c⟩|⟨rfl,rfl,a,c⟩|⟨rfl,rfl,d,-,h⟩
  ·exact⟨by simp[Val.k],p m s l a b d c⟩
  ·exact⟨by simp[Val.k],q 0 s l c⟩
  exact⟨by simp[Val.k],LR e g 0 s l λx j=>i x (h x j)⟩
theorem KE(n:Int)(b:jc)(w:ii)(d:∃p c,b=ih p 0 c):
 jg jd 174 #[jm #[I N 1,I N n,jq ⟨#[]⟩,b]] w λe w'=>e=jf (jk #[I N 0,.bool true])/\jb w w w':=by
 obtain⟨p,c,rfl⟩:=d
 by_cases a:n=0
 ·subst a
  go_enter mz,nn
  go_wp2_with fail
  go_ret2;exact⟨rfl,((jn _ w).alloc (jh _) _).alloc ar _⟩
 have f:((n==0):Bool)=false:=by simpa using a
 have g:decide (n=0)=false:=by simpa using a
 clear a
 go_enter mz,nn
 go_wp2_with fail
 go_ret2;exact⟨rfl,((jn _ w).alloc (jh _) _).alloc ar _⟩
theorem Kh(s:ByteArray)(b:jc)(w:ii)(d:∃p c,b=ih p 0 c):
 jg jd 174 #[jm #[I N 2,I N 0,jq s,b]] w λe w'=>e=jf (jk #[I N 0,.bool true])/\jb w w w':=by
 obtain⟨p,c,rfl⟩:=d
 by_cases a:s.toList=[]
 ·have f:(s.toList==([]:List UInt8))=true:=by simpa using a
  clear a
  go_enter mz,nn
  go_wp2_with fail
  go_ret2;exact⟨rfl,((jn _ w).alloc (jh _) _).alloc ar _⟩
 have f:(s.toList==([]:List UInt8))=false:=by simpa using a
 have g:decide (s.toList=[])=false:=by simpa using a
 go_enter mz,nn
 go_wp2_with fail
 go_ret2;exact⟨rfl,((jn _ w).alloc (jh _) _).alloc ar _⟩
def oU(f:Nat)(x:Val):Prop:=∀(a:jc) (b:Int) (w:ii),x.k=b->ao (·<w.heap.size) w x a->
 jg jd 174 #[jm #[I N b,I N x.n,jq x.s,a]] w λe w'=>∃d:Nat,e=jf (jk #[I N d,.bool true])/\d<=f/\jb w w w'
theorem O4(f:Nat)(hf:f<=1000)(l:List Val)(i:∀x∈l,oU f x)(al:l.length<=3000000):oU (f+1) (.mk 3 0 emS l):=by
 intro h kk w au m;obtain rfl:(3:Int)=kk:=au;show jg jd 174 #[jm #[I N 3,I N 0,jq ⟨#[]⟩,h]] w _;obtain⟨z,B,d⟩:=m.slice;replace B:ap (·<w.heap.size) w h 4 l.length (aX l z):=B;replace d:ax (·<w.heap.size) w l z:=d;obtain⟨r,S,C,n,o,s,p⟩:=B;have D:=O d;have E:=O p;have a1:l.length<=C:=o;obtain⟨c,e⟩:=J l.length;have F:h=ih S c C:=by rw[e];exact n
 rw[<-e]at a1 al;have H:=O e;subst F;have R2:=O i;have a:jb w w ((w.alloc (ic #[I N 3,I N 0,jq ⟨#[]⟩,ih S c C] 118)).alloc (ic #[.bool false,.bool (decide (c=0)),.bool (decide (c=0)),.bool true] 306)):=((jn _ w).alloc (jh _) _).alloc ar _
 by_cases j:c=0
 ·have g:decide (c=0)=true:=decide_eq_true j
  subst j;rw[g]at a;have K:=O a;clear r n o s p d e i m a g E D
  go_enter mz,nn
  go_wp2_with fail
  go_loopw [2,57] (λq b wr=>q=I N 0/\b=I N 0/\ja (jb w w wr)) (λ_ b _=>0)
  case atStart=>exact⟨rfl,rfl,K⟩
  obtain⟨rfl,rfl,k⟩:=hrel
  go_wp2_with fail
  go_ret2;exact⟨1,rfl,by omega,k⟩
 have g:decide (c=0)=false:=decide_eq_false j;have bb:decide ((c:Int)=0)=false:=by simpa using j
 have bc:(((c:Int)==0):Bool)=false:=by simpa using j
 rw[g]at a;have K:=O a;clear r n o s p d e i m a g
 go_enter mz,nn
 go_wp2_with fail
 go_loopw [2,57] (λq b wr=>∃i d:Nat,q=I N d/\b=I N i/\i<=c/\d<=f/\ja (jb w w wr)) (λ_ b _=>c-(jo b).toNat)
 case atStart=>exact⟨0,0,rfl,rfl,jw _,jw _,K⟩
 obtain⟨i,d,rfl,rfl,hi,hd,k⟩:=hrel
 by_cases U:i<c
 ·have a2:=aj ((i:Int)<(c:Int))
  have a3:=aj (i<c);obtain⟨g,o,rfl,r,m⟩:=E (aw H);obtain⟨x,s⟩:∃x,l[i]?=T x:=⟨l[i]'(by rw[<-H];exact U),qj (by rw[<-H];exact U)⟩;obtain⟨t,V,M⟩:=D.at s;have n:=λq hq=>oz l z i q x t s V hq
  have u:=k.out;have p:∀a h,a.block<w.heap.size->w.cell? a=T h->wr.cell? a=T h:=λa h ha F=>(bE (u.block _ ha)).trans F
  have d0:wr.cell? ⟨g,o+i*4,A⟩=T (I N x.k):=p _ _ r (m (i*4+0) _ (n 0 L));have d1:wr.cell? ⟨g,o+i*4+1,A⟩=T (I N x.n):=p _ _ r (m (i*4+1) _ (n 1 L));have d2:wr.cell? ⟨g,o+i*4+2,A⟩=T (jq x.s):=p _ _ r (m (i*4+2) _ (n 2 L));have d3:wr.cell? ⟨g,o+i*4+3,A⟩=T t:=p _ _ r (m (i*4+3) _ (n 3 L));have HF:=O (R2 x (rn s));have W:=u.size;have X:=O (ao.mono (D':=(·<wr.heap.size)) (λb (e:b<w.heap.size)=>jD e W) x t (ao.keep (λb e=>u.block b e) x t M));obtain⟨aa,ad,a4⟩:=M.form;obtain⟨v,P⟩:∃v,x.k=v:=⟨_,rfl⟩;obtain⟨nx,Q⟩:∃nx,x.n=nx:=⟨_,rfl⟩;obtain⟨y,R⟩:∃y,x.s=y:=⟨_,rfl⟩;rw[P]at d0;rw[Q]at d1;rw[R]at d2;have a5:=O P;have ba:=O Q;have Zt:=O R;subst a4;clear s V M n u p m P Q R D E W
  go_upto_region 9 with fail
  have m:=af wr (ic #[I N v,I N nx,jq y,ih aa x.l.length ad] 118);have s:=O (ao.mono (D':=(·<(wr.alloc (ic #[I N v,I N nx,jq y,ih aa x.l.length ad] 118)).heap.size)) (λb (e:b<wr.heap.size)=>jD e m.size) x _ (ao.keep (λb e=>m.block b e) x _ X.out));have u:=ac k m;clear m X
  go_wp2_with fail
  have b:=HF _ _ _ a5.out s;rw[ba,Zt]at b;refine b.mono ?_;rintro e R ⟨n,rfl,V,p⟩;have M:=ac u p;obtain⟨m,P⟩:∃m:Nat,max (d:Int) (n:Int)=(m:Int):=⟨max d n,by omega⟩;have Q:m<=f:=Y;clear p b
  go_wp2_with fail
  refine⟨⟨i+1,m,?_,by go_num,by omega,Q,M⟩,?_⟩
  ·first|exact rfl|exact congrArg (js .i64) P
  simp only[jo];omega
 have a2:=ak ((i:Int)<(c:Int));have a3:=ak (i<c)
 go_wp2_with fail
 go_ret2;exact⟨d+1,rfl,by omega,k⟩
theorem Pq:∀(f:Nat),f<=1000->∀x,wfV f x->(enc x).length<=3000000->oU f x:=by
 have g:∀(f:Nat) (m:Int),oU f (.mk 1 m emS []):=by
  intro f m a b w c d;obtain rfl:(1:Int)=b:=c;exact(KE m a w d.form).mono λe w' h=>⟨0,h.1,jw _,h.2⟩
 have j:∀(f:Nat) (s:ByteArray),oU f (.mk 2 0 s []):=by
  intro f s a b w c d;obtain rfl:(2:Int)=b:=c;exact(Kh s a w d.form).mono λe w' h=>⟨0,h.1,jw _,h.2⟩
 intro f
 induction f with
 |zero=>
  rintro -⟨k,m,s,l⟩ h d;rw[wfV]at h
  rcases h with⟨rfl,a,b,rfl,rfl⟩|⟨rfl,rfl,a,rfl⟩|⟨-,-,-,-,h⟩
  ·exact g 0 m
  ·exact j 0 s
  exact h.elim
 |succ f n=>
  rintro q ⟨k,m,s,l⟩ h d;rw[wfV]at h
  rcases h with⟨rfl,a,b,rfl,rfl⟩|⟨rfl,rfl,a,rfl⟩|⟨rfl,rfl,rfl,-,h⟩
  ·exact g _ m
  ·exact j _ s
  have e:(enc (.mk 3 0 emS l)).length=(aZ l.length).length+(encs l).length+1:=by
   rw[enc,if_neg L,if_neg L,jA,jG]
  have r:=oe l;refine O4 f Y l (λx c=>n Y x (h x c) ?_) Y;have:(enc x).length<=(encs l).length:=by
   obtain⟨i,o⟩:=List.getElem?_of_mem c;have p:=rm l (i+1);rw[rb o,jG]at p;omega
  omega
end Go.Proofs.YthpmekcffpppkaaGreatDoor
