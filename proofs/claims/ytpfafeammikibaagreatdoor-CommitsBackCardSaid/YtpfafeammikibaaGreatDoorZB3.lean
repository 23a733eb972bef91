/- Texts of the proof, part 3 of 8 (Mp Kh Ke Rh Ki Ks Kp Pb Pc Kj Kk Kl Km Kn Ko Ku Kv Kw Kx Ky Kz Ws Df Ea Eb Ec Ed Ee Wb Rq Wc Wd Wt We Wf). -/
import Derived.Maps.OwnSet
import Derived.WalkKit
import Derived.Lib.Hide
import Derived.Lib.SlKeysI
import Derived.Sort.MapsRangeIn
import Derived.RegionIn
import Derived.Carry
import Derived.Deep.QuietTactic
import Derived.BigQuiet
import Derived.Shelf.Small.Bits
import Derived.Shelf.Small.Wraps
import Derived.Shelf.Strconv.Itoa0
import Derived.Shelf.LaysM
import Derived.Shelf.Bytes.Len
import Derived.Shelf.Bytes.TryGrow
import Derived.Shelf.Bytes.GrowSliceCatch
import Derived.Shelf.Bytes.GrowSlice
import Derived.Shelf.Bytes.Reset
import Derived.Shelf.Bytes.Bytes
import Derived.Shelf.Sort.Plain
import Derived.Shelf.Bytes.ResetKept
import Derived.Shelf.Bytes.LenAt
import Derived.Shelf.Bytes.TryGrowAt
import Derived.Shelf.Bytes.GrowRow0At
import Derived.Shelf.Bytes.GrowRowAt
import Derived.Shelf.Bytes.GrowNilAt
import Derived.Shelf.Bytes.GrowAt
import Derived.Shelf.Bytes.WriteAt
import Derived.Shelf.Bits.Mul64
import Derived.Ground.Names2Prog
import Derived.Shelf.Slices.CompactI
import Derived.Shelf.Slices.SearchI
import Derived.Shelf.Slices.Cells
import Derived.Shelf.Slices.In.SortNone
import Derived.Shelf.Bytes.SlEqualAll
import Derived.Shelf.Bytes.Small
import Derived.Test.YtpfafeammikibaaGreatDoorRows
import Derived.Lib.SlicesCompact
import Derived.RangeFuncNested
import Derived.RangeFuncBound
import Derived.RangeFuncCalls
import Derived.RangeFuncLeaves
import Derived.Shelf.Abstract
import Derived.Shelf.RegionOpen
import Derived.OwnWalkIn
import Derived.TacticsInMore
import Derived.LoopNIn
import Derived.LoopIn
import Derived.Maps.AppendAt
import Derived.Deep.AppendLies
import Derived.Deep.RegionHeld3
import Derived.Handy
import Derived.RangeFuncOwn
import Derived.RangeFuncBox
import Derived.RangeFuncWrites
import Derived.BigFrameIn
import Derived.Sort.CutIn
import Derived.Deep.MidRow
import Derived.Lib.SlBytesConst
import Derived.Laws.Bits64b
import Derived.LoopTactic
import Derived.Test.YtpfafeammikibaaGreatDoorZB1
import Derived.Test.YtpfafeammikibaaGreatDoorZB2
namespace Go.Proofs.YtpfafeammikibaaGreatDoor
set_option maxHeartbeats 64000000
set_option maxRecDepth 100000
set_option linter.unusedVariables false
set_option linter.unusedSimpArgs false
open Go.RowKit
open Go.Proofs.Tryz
open Go.Value renaming int->I
open Go.IntKind renaming i64->N,u32->js,u64->jF
open _root_.Option renaming some->T,none->A,isSome_iff_exists->qx,eq_none_or_eq_some->qH,isSome_none->qS
open Go.Obj renaming cells->hF
open Go.Value renaming slice->hH,pointer->jd,tuple->je,agg->jg,string->jk
open Go renaming World->hK,Value->hZ,Boxed->ih,Calls->ja,undef->jc,TypeId->jj,Addr->jz,maxLen->jC,results_none->jD,Oper->jI,bodyPost_ret->jJ,wp_region_noPanic->jK,Program->jN,callsIn_wide->jY,grownBy_setCell'->jZ,execOp->j3,wpList->j5,run_takeDeferred->j6,Operand->kl,wpList_plain->kw,callsIn_of_wp->lo,bodyPost_end->pr,info_parts->qb,callsIn_of_wp_marks->qj,wpList_load_row->qm,ownsRow_putObj->qC,wpList_append_own->qD
open Go.RowKit renaming Hid->hQ,Below->hU,ownsRow_setCell_below->ql
open Go.Proofs.Tryz renaming prog->ic
open Go.Ending renaming returned->ii
open _root_.Nat renaming le_refl->jb,le_trans->jl,zero_le->jq,lt_of_lt_of_le->jw,reduceAdd->jR,reduceSub->jS,pow_succ->j8,mul_comm->km,eq_zero_or_pos->ms,lt_or_ge->mz,mod_eq_of_lt->ob,zero_add->ow,mod_lt->o4,pow_le_pow_right->qf,mul_le_mul_right->qn,lt_or_eq_of_le->qs,min_eq_left->qv,mul_one->qw,add_assoc->qA,one_le_two_pow->qJ,le_of_lt_succ->qL,xor_lt_two_pow->qM
open Go.Proofs.Tryz renaming underlying3->jf,underlying4->jE,underlying170->jO,func139->lv,ntmps139->lw,func216->pz,underlying25->qa,underlying32->qc,underlying147->qk,underlying55->qE,underlying178->qF
open Go.RowKit.Below renaming refl->jh,heap_alloc->jo,mono->kn,heap_setCell->qt
open Go.Proofs renaming intOf->ji,enters_of->p6
open Go.Value renaming int->jm,slice->jy,oneCell'->j1,ownBlock->j9,pointer->qz
open Go.World renaming alloc_heap_new->jn,size_alloc->jp,cell?->jB,ownsRow_nil->j0,putObj_heap_other->qe,frozen?->qy,grownBy_alloc->qG,there_alloc->qX
open _root_.Array renaming getElem?_eq_some_iff->jr,replicate_succ->jT,replicate_zero->jU,getElem?_toList->qU
open _root_.List renaming length_cons->jt,append_assoc->jv,length_append->jA,range->jH,nil_append->jL,cons_append->jM,size_toArray->jP,length_nil->jQ,push_toArray->jV,append_toArray->jW,getD->jX,map_append->j4,take_succ_eq_append_getElem->j7,length_map->ki,append_nil->mb,replicate->nn,mem_map->n0,getElem_mem->oj,take_of_length_le->ol,getElem?_eq_getElem->qd,eq_nil_of_length_eq_zero->qg,mem_append->qo,length_filter_le->qu,map_cons->qB,take_length->qI,mem_singleton->qK,length_mergeSort->qP,getElem?_take_of_lt->qQ,range_succ->qY,mem_of_getElem?->q4
open _root_.BitVec renaming ofNat->ju,toNat_ofNat->oi,ofInt_natCast->qN,toNat_xor->qO,ofInt->qZ
open Go.NoPanic renaming normal->jG
open Go.IntKind renaming wrap_i64->oo,u64->pa,i64->qh,wrap_u64->qi
open _root_.Bool renaming false_eq_true->qT
open _root_.Int renaming eq_ofNat_of_zero_le->qV,toNat_natCast->qW
section
open Go Go.RowKit Go.Maps
def I64(x:Int):Prop:=(Lit.int .i64 x).wf=true
theorem I64.of{x:Int}(h: -9223372036854775808<=x/\x<=9223372036854775807):I64 x:=WalkArith.wf_i64 Y
structure EKind(P:jN)(e:jj)(α:Type) where
 ev:α->hZ
 el:α->Lit
 z0:α
 ok:α->Prop
 reads:∀x,ok x->plainElem (H:=Unit) P e (ev x)=T (.lit (el x),[])
 inv:∀v z,plainElem (H:=Unit) P e v=T z->∃x,ok x/\v=ev x/\z=(.lit (el x),[])
 inj:∀x y,el x=el y->x=y
 ok0:ok z0
section
variable {P:jN} {k e:jj}
def cW(he:P.underlying e=T (.int .i64)):EKind P e Int where
 ev:=.int .i64
 el:=.int .i64
 z0:=0
 ok:=I64
 reads:=λx h=>plainElem_int he h
 inv:=λv z h=>by obtain⟨a,b,c,d⟩:=plainElem_int_inv he h;exact⟨a,d,b,c⟩
 inj:=λx y h=>by cases h;rfl
 ok0:=by unfold I64;decide
theorem Lg{P:jN}{e:jj}(he:P.underlying e=T .bool){v:hZ}{z:DataW Unit×List MemPlace}(h:plainElem P e v=T z):∃a,v=.bool a/\z=(.lit (.bool a),[]):=by
 unfold plainElem at h;rw[he]at h
 cases v<;>simp at h
 exact⟨_,rfl,h.symm⟩
def fM(he:P.underlying e=T .bool):EKind P e Bool where
 ev:=.bool
 el:=.bool
 z0:=false
 ok:=λ_=>True
 reads:=λx _=>plainElem_bool he x
 inv:=λv z h=>by obtain⟨a,b,c⟩:=Lg he h;exact⟨a,trivial,b,c⟩
 inj:=λx y h=>by cases h;rfl
 ok0:=trivial
variable {α:Type} {E:EKind P e α}
def aH(E:EKind P e α)(k:jj)(w:hK)(b n:Nat)(f:Int->Option α):Prop:=
 ∃D:DataW Unit,w.ownsMap P k (plainElem P e) b n D/\∀x,I64 x->has D (.int .i64 x)=(f x).isSome/\∀v,f x=T v->∀z,D.atKey (.int .i64 x) z=.lit (E.el v)
theorem zD{x:Int}(h:I64 x):WideAt.IsKeyLit (.int .i64 x):=trivial
theorem aH.made(E:EKind P e α)(k:jj)(w:hK):aH E k (w.alloc (.map #[] 0)) w.heap.size 0 (λ_=>A):=
 ⟨.map [],World.ownsMap_made _ _ _ _,λx _=>⟨rfl,λv h=>by cases h⟩⟩
theorem aH.lt{w:hK}{b n:Nat}{f:Int->Option α}(h:aH E k w b n f):b<w.heap.size:=by
 obtain⟨D,a,_⟩:=h;exact a.lt
theorem aH.mono{w:hK}{b n n':Nat}{f:Int->Option α}(h:aH E k w b n f)(a:n<=n'):aH E k w b n' f:=by
 obtain⟨D,c,d⟩:=h;exact⟨D,c.mono a,d⟩
theorem aH.kept{w w':hK}{b n:Nat}{a:Option Nat}{f:Int->Option α}(h:aH E k w b n f)(c:w.grownBy w' a)(d:T b≠a):aH E k w' b n f:=by
 obtain⟨D,e,g⟩:=h;exact⟨D,e.kept c d,g⟩
theorem aH.of_block{w w':hK}{b n:Nat}{f:Int->Option α}(h:aH E k w b n f)(a:w'.heap[b]?=w.heap[b]?):aH E k w' b n f:=by
 obtain⟨D,⟨c,d,e,g⟩,i⟩:=h;exact⟨D,⟨c,d,a.trans e,g⟩,i⟩
theorem aH.below{w w':hK}{b n B:Nat}{f:Int->Option α}(h:aH E k w b n f)(a:hU B w w')(c:b<B):aH E k w' b n f:=h.of_block (a.block b c)
theorem aH.alloc{w:hK}{b n:Nat}{f:Int->Option α}(h:aH E k w b n f)(o:Obj):aH E k (w.alloc o) b n f:=h.kept (qG w o A) av
theorem aH.setCell{w:hK}{b n:Nat}{f:Int->Option α}(h:aH E k w b n f){a:jz}(d:b≠a.block)(c:hZ):aH E k (w.setCell a c) b n f:=by
 obtain⟨D,e,g⟩:=h;exact⟨D,e.setCell d c,g⟩
theorem aH.congr{w:hK}{b n:Nat}{f g:Int->Option α}(h:aH E k w b n f)(c:∀x,I64 x->f x=g x):aH E k w b n g:=by
 obtain⟨D,d,e⟩:=h;exact⟨D,d,λx a=>by rw[<-c x a];exact e x a⟩
theorem aH.look{w:hK}{b n:Nat}{f:Int->Option α}(h:aH E k w b n f)(hk:P.underlying k=T (.int .i64)){t:jj}(j:P.underlying t=T (.map k e))(g:(zeroValue e).run P w=.ok (E.ev E.z0) w){x:Int}(l:I64 x)(ok:Bool):
 (Instr.lookup t (.map (T b)) (.int .i64 x) ok).run P w=.ok (if ok then .tuple #[E.ev ((f x).getD E.z0),.bool (f x).isSome]else E.ev ((f x).getD E.z0)) w:=by
 obtain⟨D,m,r⟩:=h;obtain⟨i,s⟩:=r x l;have o:keyOf P k (.int .i64 x)=T (.int .i64 x):=keyOf_int_mk hk l;have p:∀v a,plainElem (H:=Unit) P e v=T (D.atKey (.int .i64 x) (.lit (E.el E.z0)),a)->v=E.ev ((f x).getD E.z0):=λv a c=>by
  obtain⟨y,u,rfl,g⟩:=E.inv _ _ c;have d:=congrArg Prod.fst g;simp only at d
  cases hf:f x with
  |none=>
   rw[hf]at i;rw[atKey_of_not_has (by simpa using i)]at d;have:E.z0=y:=E.inj _ _ (by injection d);simp[this]
  |some q=>
   rw[s q hf]at d;have:q=y:=E.inj _ _ (by injection d);simp[this]
 cases ok with
 |true=>
  obtain⟨v,a,d,c⟩:=m.look_ok (int_keyed hk) j g (E.reads _ E.ok0) o;rw[d,p v a c,i]
  rfl
 |false=>
  obtain⟨v,a,d,c⟩:=m.lookup (int_keyed hk) j g (E.reads _ E.ok0) o;rw[d,p v a c]
  rfl
theorem aH.put{w:hK}{b n:Nat}{f:Int->Option α}(h:aH E k w b n f)(hk:P.underlying k=T (.int .i64)){t:jj}(o:P.underlying t=T (.map k e))(p:n<jC){x:Int}(a:I64 x){c:α}(q:E.ok c):
 ∃w',(Instr.mapUpdate t (.map (T b)) (.int .i64 x) (E.ev c)).run P w=.ok () w'/\aH E k w' b (n+1) (λy=>if y=x then T c else f y)/\w.mapTurned w' b:=by
 obtain⟨D,d,j⟩:=h;have r:keyOf P k (.int .i64 x)=T (.int .i64 x):=keyOf_int_mk hk a;obtain⟨w',s,u,B⟩:=d.store (int_keyed hk) o p r (E.reads _ q);refine⟨w',s,⟨_,u,λy l=>?_⟩,B⟩;dsimp only
 by_cases g:y=x
 ·subst g
  rw[if_pos rfl];refine⟨by rw[has_put_same d.isMap (zD a)];rfl,λv i z=>?_⟩
  cases i
  exact atKey_put_same d.isMap (zD a) _ _
 rw[if_neg g];have m:(Lit.int .i64 y)≠Lit.int .i64 x:=λh=>g (by injection h)
 refine⟨by rw[has_put_other m];exact(j y l).1,λv i z=>?_⟩;rw[atKey_put_other m];exact(j y l).2 v i z
theorem aH.del{w:hK}{b n:Nat}{f:Int->Option α}(h:aH E k w b n f)(hk:P.underlying k=T (.int .i64)){t:jj}(l:P.underlying t=T (.map k e)){x:Int}(m:I64 x)(d:jj):
 ∃w',(Builtin.delete_ #[t,k] d #[.map (T b),.int .i64 x]).run P w=.ok (.tuple #[]) w'/\aH E k w' b n (λy=>if y=x then A else f y)/\w.mapTurned w' b:=by
 obtain⟨D,o,g⟩:=h;have p:keyOf P k (.int .i64 x)=T (.int .i64 x):=keyOf_int_mk hk m;obtain⟨w',q,r,s⟩:=o.drop (int_keyed hk) l p d;refine⟨w',q,⟨_,r,λy i=>?_⟩,s⟩;dsimp only
 by_cases a:y=x
 ·subst a
  rw[if_pos rfl];exact⟨has_del_same,λv c=>by cases c⟩
 rw[if_neg a];have j:(Lit.int .i64 y)≠Lit.int .i64 x:=λh=>a (by injection h)
 refine⟨by rw[has_del_other j];exact(g y i).1,λv c z=>?_⟩;rw[atKey_del_other j];exact(g y i).2 v c z
variable {w:hK} {ops:Array jI} {rest:List jI} {o:jI} {a:Act} {Q:Exit->Act->hK->Prop}
theorem sF{he:P.underlying e=T (.int .i64)}(c:o.guard=A)(m x:kl)(t:jj)(d:o.op=Op.lookup t m x true)(hk:P.underlying k=T (.int .i64))(g:P.underlying t=T (.map k e))
 (i:(zeroValue e).run P w=.ok (.int .i64 0) w) (b n:Nat) (f:Int->Option Int) (j:a.eval m=.map (T b)) (h:aH (cW he) k w b n f) (z:Int) (l:a.eval x=.int .i64 z) (p:I64 z)
 (q:j5 P ops Q rest (a.put o.dst (.tuple #[.int .i64 ((f z).getD 0),.bool (f z).isSome])) w):j5 P ops Q (o::rest) a w:=by
 refine kw c λu r=>?_
 have s:=h.look hk g i p true;unfold Oper.wp;simp[j3,d,j,l,s,Result.andThen];exact r _ _ q
theorem Jg{he:P.underlying e=T (.int .i64)}(c:o.guard=A)(m x:kl)(t:jj)(d:o.op=Op.lookup t m x false)(hk:P.underlying k=T (.int .i64))(g:P.underlying t=T (.map k e))
 (i:(zeroValue e).run P w=.ok (.int .i64 0) w) (b n:Nat) (f:Int->Option Int) (j:a.eval m=.map (T b)) (h:aH (cW he) k w b n f) (z:Int) (l:a.eval x=.int .i64 z) (p:I64 z)
 (q:j5 P ops Q rest (a.put o.dst (.int .i64 ((f z).getD 0))) w):j5 P ops Q (o::rest) a w:=by
 refine kw c λu r=>?_
 have s:=h.look hk g i p false;unfold Oper.wp;simp[j3,d,j,l,s,Result.andThen];exact r _ _ q
theorem mn(d:o.guard=A)(m x v:kl)(t:jj)(g:o.op=Op.mapUpdate t m x v)(hk:P.underlying k=T (.int .i64))(i:P.underlying t=T (.map k e))
 (b n:Nat) (f:Int->Option α) (j:a.eval m=.map (T b)) (h:aH E k w b n f) (l:n<jC) (z:Int) (p:a.eval x=.int .i64 z) (q:I64 z) (c:α) (r:a.eval v=E.ev c) (s:E.ok c)
 (u:∀w',aH E k w' b (n+1) (λy=>if y=z then T c else f y)->w.mapTurned w' b->j5 P ops Q rest (a.put o.dst jc) w'):j5 P ops Q (o::rest) a w:=by
 refine kw d λF y=>?_
 obtain⟨w',B,C,D⟩:=h.put hk i l q s;unfold Oper.wp;simp[j3,g,j,p,r,B,Result.andThen];exact y _ _ (u w' C D)
theorem Fj(c:o.guard=A)(m x:kl)(t:jj)(d:o.op=Op.call {callee:=Callee.builtin Builtin.delete,args:=#[m,x],argTypes:=#[t,k]})(hk:P.underlying k=T (.int .i64))(g:P.underlying t=T (.map k e))
 (b n:Nat) (f:Int->Option α) (i:a.eval m=.map (T b)) (h:aH E k w b n f) (z:Int) (j:a.eval x=.int .i64 z) (l:I64 z)
 (p:∀w',aH E k w' b n (λy=>if y=z then A else f y)->w.mapTurned w' b->j5 P ops Q rest (a.put o.dst (.tuple #[])) w'):j5 P ops Q (o::rest) a w:=by
 refine kw c λv q=>?_
 obtain⟨w',r,s,u⟩:=h.del hk g l o.type;unfold Oper.wp;simp[j3,d,resolve,invoke,builtin,i,j,r,Result.andThen];exact q _ _ (p w' s u)
end
end
section
open Go.RowKit Go.Shelf Go.Maps Go.Sort
attribute [local go_sem] Oper.semAt_some
theorem Jd{H:Type}{w w':hK}{P:jN}{k:jj}{R:hZ->Option (DataW H×List MemPlace)}{b r n:Nat}{D:DataW H}{left:Lit->Bool}{a:Nat}(h:w.ranges P k R b r n D left a)(c:w'.heap[b]?=w.heap[b]?)(d:w'.heap[r]?=w.heap[r]?):w'.ranges P k R b r n D left a:=by
 obtain⟨e,f,g,i,j,l,m,o,p,q,s⟩:=h;exact⟨e,f,g,i,j,c.trans l,m,o,p,d.trans q,s⟩
theorem JZ{H:Type}{w:hK}{P:jN}{k:jj}{R:hZ->Option (DataW H×List MemPlace)}{b r n:Nat}{D:DataW H}{left:Lit->Bool}{a:Nat}(h:w.ranges P k R b r n D left a):b<w.heap.size/\r<w.heap.size:=by
 obtain⟨e,f,g,i,j,c,l,m,o,d,p⟩:=h;exact⟨(jr.1 c).1,(jr.1 d).1⟩
theorem aZ.ofGrown{B0:Nat}{Ψ:Nat->Prop}{a B:hK}{b:Option Nat}(h:a.grownBy B b)(c:∀k,b=T k->Ψ k):aZ B0 Ψ a B:=
 ⟨h.os,h.tape,h.output,h.size,λk hk d=>.inl (h.block k hk (λe=>d (c k e.symm)))⟩
theorem Bj(a:Option Nat)(w:hK):
 ja ic 168 #[.map a] w λe w'=>e=.returned (.func (.func 207) #[] #[.pointer (T ⟨w,0,A⟩)])/\w'=w.alloc (.cells #[.map a] 170):=by
 go_enter func168,ntmps168
 go_wp2
 go_ret;exact⟨rfl,rfl⟩
def KeysOf(f:Int->Option Int)(xs:List Int):Prop:=xs.Nodup/\(∀x∈xs,I64 x/\(f x).isSome=true)/\∀x,I64 x->(f x).isSome=true->x∈xs
theorem Jt(b d g n₀:Nat)(f:Int->Option Int)(w:hK)(s:aH (cW jf) 3 w b d f)(t:ih w g 170 (.map (T b)))(H:b<n₀)(h2:g<n₀):
 dI ic 207 #[.pointer (T ⟨g,0,A⟩)] (λx:Int=>#[.int .i64 x]) (λ_=>False) n₀ (KeysOf f) (λ_=>True) (λa=>a.length<=d) w:=by
 intro l o Jx W u a Ts j K;have M:ih W g 170 (.map (T b)):=(u.block g t.lt).trans t;obtain⟨D,z,e⟩:=s.of_block (u.block b s.lt);have c:=z;have P:=c.size_le;have B:=O e;clear e;have p:=M.cell;refine(jY (n:=0)).1 ?_;refine lo func207 rfl trivial ?_ rfl;simp only[ntmps207,jP,jt,jQ,jR,jS,jT,jU,jV,jW,jL,jM]
 gi_wp2_with (first
  |(gi_at_range;refine wpListIn_range_own _ rfl _ 170 rfl 3 3 (int_keyed jf) jO _ b d _ rfl c ?_;intro w0 C i m)
  |gi_in)
 have Q:=O a;have R:=O j;have S:o [] (λk=>k=W.heap.size) w0:=a [] _ _ W w0 K (aZ.ofGrown i (λk e=>by cases e)) (λ_ h=>h.elim) (λk e=>.inr Y);have Qv:hQ (W.heap.size+1=w0.heap.size):=O m.symm;have U:W.heap.size<w0.heap.size:=Y;have a3:=(JZ C).1;have a4:∀k,k<W.heap.size->w0.heap[k]?=W.heap[k]?:=λk hk=>i.block k hk av
 have a5:b<W.heap.size:=z.lt;clear a j m i p c
 gi_loopw [3] (λ_ wr=>∃(left:Lit->Bool) (q:Nat) (a:List Int),wr.ranges ic 3 (plainElem ic 3) b W.heap.size d D left q/\CollectedI D left a/\a.length+q<=d/\o a (λk=>k=W.heap.size) wr/\W.heap.size<wr.heap.size)
  (λ_ wr=>wr.rangeLeft b W.heap.size)
 case atStart=>
  exact⟨_,_,[],C,CollectedI.start D,by simpa using P,S,U⟩
 obtain⟨left,q,a,r,i,ba,E,bb⟩:=hrel
 gi_wp2_with (first
  |(gi_at_next;refine wpListIn_next_ranges _ rfl _ rfl 3 (int_keyed jf) (plainElem ic 3) encZ id (λj V hk=>by obtain⟨x,c,_⟩:=Maps.keyOf_i64 jf hk;exact⟨x,c⟩) (λv _ _=>⟨v,rfl⟩) b W.heap.size d _ _ _ rfl r ?_ ?_)
  |gi_in)
 ·intro Su X
  gi_wp2
  refine pr (jD rfl _ _ _) rfl ?_;refine⟨⟨_,rfl⟩,.inl ⟨a,_,?_,E⟩⟩;refine⟨i.1,λx c=>?_,λx c hf=>?_⟩
  ·have h:=((i.2 x).1 c).1
   have m:I64 x:=by
    obtain⟨es,rfl,aa⟩:=r.owns.keysOf;rw[has_eq,List.any_eq_true]at h;obtain⟨p,hp,hs⟩:=h;obtain⟨v,F⟩:=aa p hp;obtain⟨y,_,j,hl⟩:=Maps.keyOf_i64 jf F;have e:=WideAt.sameKey_eq hs;rw[e]at j;have:x=y:=by injection j
    rw[this];exact hl
   exact⟨m,by rw[<-(B x m).1];exact h⟩
  exact(i.2 x).2 ⟨by rw[(B x c).1];exact hf,X _⟩
 intro x c V yd yp m X aa Vg F Qb ad al RO p Y5;obtain⟨x',ex,rfl,_⟩:=Maps.keyOf_i64 jf aa;obtain rfl:x=x':=encZ_inj ex;have au:o a (λk=>k=W.heap.size) m:=Q a _ _ wr m E (aZ.ofGrown RO (λk e=>by cases e;rfl)) (λ_ h=>h) (λ_ h=>.inl h);have bc:W.heap.size<m.heap.size:=Y;have a1:(a++[x]).length<=d:=by simp;omega
 obtain⟨fn,tmps,assign,body,j,v⟩:=R a x _ m au (λk e=>by omega) a1;clear p
 gi_wp2
 refine⟨rfl,v.mono ?_⟩;rintro e W3 (⟨rfl,Tt,h,p⟩|⟨rfl,Uz,h,p⟩)
 ·have y:=Jd ad (h.block b H) (p _ rfl)
  have a2:W.heap.size<W3.heap.size:=by have:=h.size;omega
  clear p h v j
  gi_wp2
  go_roundw
  case rel=>exact⟨_,X,a++[x],y,i.step Vg Qb,by simp;omega,Tt,a2⟩
  case measure=>rw[y.left_eq,r.left_eq];exact al
 gi_wp2
 refine jJ (jD rfl _ _ _) rfl ?_;exact⟨⟨_,rfl⟩,.inr ⟨_,_,trivial,Uz⟩⟩
end
theorem dR{w:hK}{a:jz}{v:hZ}(h:w.cell? a=T v):a.block<w.heap.size:=by
 unfold jB at h
 cases hb:w.heap[a.block]? with
 |none=>simp[hb]at h
 |some o=>exact(jr.1 hb).1
theorem bp{w w':hK}{p:jz}{v:hZ}(h:w.cell? p=T v)(a:w'.heap[p.block]?=w.heap[p.block]?):w'.cell? p=T v:=by
 rw[World.cell?_of_block a];exact h
def aT(w:hK)(v:hZ)(t:List (Int×Int)):Prop:=
 ∃p c,v=hH p t.length c/\t.length<=c/\(p=A->t.length=0)/\(0<t.length->∃g o,p=T ⟨g,o,A⟩/\
  ∀j,j<t.length->w.cell? ⟨g,o+j*2,A⟩=T (I N (t.getD j (0,0)).1)/\w.cell? ⟨g,o+j*2+1,A⟩=T (I N (t.getD j (0,0)).2))/\∀x∈t,I64 x.1/\I64 x.2
theorem aT.below{w w':hK}{v:hZ}{t:List (Int×Int)}(h:aT w v t)(d:hU w w w'):aT w' v t:=by
 obtain⟨p,c,rfl,e,f,i,k⟩:=h;refine⟨p,c,rfl,e,f,λl=>?_,k⟩;obtain⟨g,o,rfl,m⟩:=i l;refine⟨g,o,rfl,λj n=>?_⟩;obtain⟨a,b⟩:=m j n;exact⟨bp a (d.block g (dR a)),bp b (d.block g (dR b))⟩
def ofF(t:List (Int×Int))(x:Int):Option Int:=(t.find? (λy=>y.1==x)).map (·.2)
theorem Dp(t:List (Int×Int))(a p x:Int):ofF (t++[(a,p)]) x=if(ofF t a).isSome then ofF t x else if x=a then T p else ofF t x:=by
 unfold ofF;rw[List.find?_append]
 cases hx:t.find? (λy=>y.1==x)with
 |none=>
  by_cases b:x=a
  ·subst b;simp[hx]
  have:(a==x)=false:=by simpa using λh=>b h.symm
  simp[b,this,List.find?_cons]
 |some y=>
  by_cases b:x=a
  ·subst b;simp[hx]
  simp[b]
theorem ng(w:hK):(zeroValue 3).run ic w=.ok (I N 0) w:=by kernel_rfl
theorem uK(t:List (Int×Int))(v:hZ)(w:hK)(Q:aT w v t)(R:t.length<=1000000):
 ja ic 97 #[jg #[v]] w λe w'=>∃b,e=ii (.map (T b))/\w.heap.size<=b/\aH (cW jf) 3 w' b t.length (ofF t)/\hU w w w':=by
 obtain⟨p,c,rfl,S,l,i,j⟩:=Q;have g:=@run_makeMap ic
 go_enter func97,ntmps97
 go_wp2_with fail
 have a:hU w w ((w.alloc (hF #[hH p t.length c] 52)).alloc (.map #[] 0)):=((jh _ w).alloc (jb _) _).alloc av _;have f:aH (cW jf) 3 ((w.alloc (hF #[hH p t.length c] 52)).alloc (.map #[] 0)) (w.heap.size+1) 0 (λ_=>A):=by
  have h:=aH.made (cW jf) 3 (w.alloc (hF #[hH p t.length c] 52));rw[jp]at h;exact h
 obtain⟨W0,d⟩:=J ((w.alloc (hF #[hH p t.length c] 52)).alloc (.map #[] 0));rw[<-d]at a f⊢;clear d g;have U:=O a;have D:=O f;have V:=O i;have W:=O j;obtain⟨n,g⟩:=J t.length;have d:=O g;rw[<-g]at R S⊢;obtain⟨B,k⟩:=J (w.heap.size+1);rw[<-k]at D⊢;have aa:w.heap.size<B:=Y;clear a f i j g l k
 go_loopw [12] (λi wr=>∃k:Nat,i=I N k/\k<=n/\hQ (aH (cW jf) 3 wr B k (ofF (t.take k)))/\hQ (hU w w wr)) (λi _=>n-(ji i).toNat)
 case atStart=>exact⟨0,rfl,jq _,D,U⟩
 obtain⟨k,rfl,hk,F,m⟩:=hrel
 by_cases q:k<n
 ·have X:=ap ((k:Int)<(n:Int))
  have PX:=ap (k<n);obtain⟨g,o,rfl,u⟩:=V.out (by rw[<-d];omega);obtain⟨i,j⟩:=u k (by rw[<-d];exact q);have f:=m.out;have H:=bp i (f.block g (dR i));have K:=bp j (f.block g (dR j));obtain⟨e,he⟩:=J (t.getD k (0,0));rw[<-he]at H K;have x:e∈t:=by
   rw[he];simp only[jX];rw[qd (by rw[<-d];exact q)];simp
  obtain⟨l,r⟩:=W e x;obtain⟨a,s⟩:=e;dsimp only at H K l r;have HE:=O he;have z:=O l;have H2:=O r;clear f i j u he x l r;have M:=O (show t.take (k+1)=t.take k++[(a,s)] by
   rw[HE,j7 (by rw[<-d];exact q)];simp only[jX];rw[qd (by rw[<-d];exact q)];rfl)
  have u:=O (F.alloc (hF #[I N a,I N s] 235));have C:=O (m.alloc m.size (hF #[I N a,I N s] 235))
  rcases qH (ofF (t.take k) a)with i|⟨y,i⟩
  ·have l:=O i
   clear i
   go_wp2_with (first
    |(at_lookup;refine sF (he:=jf) rfl _ _ 170 rfl jf jO (ng _) B k _ rfl u a rfl z ?_;rw[l])
    |(at_mapUpdate;refine mn (E:=cW jf) rfl _ _ _ 170 rfl jf jO B k _ rfl u (by unfold jC;omega) a rfl z s rfl H2 ?_;intro r x P))
   have Qk:=O x;have f:=O (C.grown P.grown C.size (λj hj=>by cases hj;omega));clear x P;refine⟨⟨k+1,by go_num,by omega,O ?_,f⟩,by simp only[ji];omega⟩;refine Qk.congr λx j=>?_
   rw[M,Dp,l]
   rfl
  have l:=O i;clear i
  go_wp2_with (at_lookup;refine sF (he:=jf) rfl _ _ 170 rfl jf jO (ng _) B k _ rfl u a rfl z ?_;rw[l])
  refine⟨⟨k+1,by go_num,by omega,O ?_,C⟩,by simp only[ji];omega⟩;refine(u.mono (Nat.le_succ _)).congr λx j=>?_
  rw[M,Dp,l]
  rfl
 have X:=ar ((k:Int)<(n:Int));have PX:=ar (k<n);obtain rfl:k=n:=Y
 go_wp2
 go_ret;refine⟨B,rfl,by omega,?_,m⟩;have h:=F.out;rw[d,qI]at h;exact h
section
variable {P:jN}
theorem Cn{α:Type}{g:kl}{m:Array Tmp}{assign body:Code}{o:Exit->Act->hK->Prop}{a:Act}{w:hK}{n:Nat}
 {gf:Nat} {lb:Array hZ} (y:a.eval g=.func (.func gf) #[] lb) (z:∀args w,(callFunc gf args).run P w=.ok (.enter gf args) w)
 {encs:α->Array hZ} {q:Nat->Prop} {n₀:Nat} {S u V:List α->Prop} (B:dI P gf lb encs q n₀ S u V w)
 (C:n₀<=w.heap.size) (E:∀x,(encs x).size=m.size) (F:∀k,q k->k<w.heap.size)
 (e:List α->(Nat->Prop)->hK->Prop) (h:Code->List α->(Nat->Prop)->hK->Prop) (H:bi w.heap.size e) (M:∀c,bi w.heap.size (h c)) (Q:e [] q w)
 (i:α->Act->(Nat->Prop)->hK->Prop) (R:bi w.heap.size (fun(s:α×Act) Ψ W=>i s.1 s.2 Ψ W))
 (s:∀(l:Nat) (d:List α) (x:α) (Ψ:Nat->Prop) (b:hK) (K:Act->hK->Prop),e d Ψ b->V (d++[x])->
  (∀f j,hU b b j->e d Ψ j->i x f Ψ j->K f j)->
  assign.wpIn (Fence.wide.inRound l) 0 P (Exit.then K (λ_ _ _=>False)) {tmps:=(m.zip (encs x)).foldl (λt (p,v)=>t.setIfInBounds p v) a.tmps,defers:=[]} b)
 (p:∀(l:Nat) (d:List α) (x:α) (Ψ:Nat->Prop) (f:Act) (b:hK),e d Ψ b->i x f Ψ b->V (d++[x])->(∀k,Ψ k->k<b.heap.size)->w.heap.size+2<=b.heap.size->(∃r,b.heap[l]?=T (.loop r))->
  body.wpIn (Fence.wide.inRound l) 0 P (uc w.heap.size n₀ e h (d++[x]) Ψ b) f b)
 (t:∀(D:Nat) (xs:List α) (Ψ:Nat->Prop) (W:hK),D=w.heap.size->S xs->e xs Ψ W->W.heap[D]?=T (.deferred (T []))->o .normal {a with defers:={target:=.collected D,args:=#[]}::a.defers} W)
 (v:∀(D:Nat) (c:Code) (d:List α) (Ψ:Nat->Prop) (W:hK),D=w.heap.size->u d->h c d Ψ W->W.heap[D]?=T (.deferred (T []))->c.wpIn Fence.wide n P o {a with defers:={target:=.collected D,args:=#[]}::a.defers} W):
 (Code.rangeFunc g m assign body).wpIn Fence.wide n P o a w:=
 wN y z B.v C E F e h H (λ_ _ _ _=>trivial) M Q i R (λl d x Ψ b K j _ c _ hk=>s l d x Ψ b K j c hk) (λl d x Ψ f b j D c K U W X k=>p l d x Ψ f b j D (let⟨_,_,c⟩:=c;c) K U (let⟨r,k⟩:=k;⟨r,by rw[W];exact k⟩)) t v
end
section
open Go.RowKit Go.Shelf
attribute [local go_sem] Oper.semAt_some
def cF(f:Int->Option Int):Nat->Nat->List Int
 |0,n=>if(f n).isSome then [(n:Int)]else []
 |h+1,n=>if(f n).isSome then [(n:Int)]else cF f h (2*n)++cF f h (2*n+1)
theorem NQ{f:Int->Option Int}{h n:Nat}(a:(f n).isSome=true):cF f h n=[(n:Int)]:=by
 cases h<;>simp[cF,a]
theorem oV(f:Int->Option Int):∀h n,(cF f h n).length<=2^h
 |0,n=>by simp only[cF];split<;>simp
 |h+1,n=>by
  simp only[cF]
  split
  ·simp;exact qJ
  have a:=oV f h (2*n);have b:=oV f h (2*n+1);rw[jA,j8];omega
theorem vu(a:Option Nat)(n:Int)(w:hK):
 ja ic 182 #[.map a,I N n] w λe w'=>
  e=ii (.func (.func 216) #[] #[jd (T ⟨w,0,A⟩),jd (T ⟨w.heap.size+1,0,A⟩)])/\w'=(w.alloc (hF #[.map a] 170)).alloc (hF #[I N n] 3):=by
 go_enter func182,ntmps182
 go_wp2
 go_ret;exact⟨rfl,rfl⟩
theorem I1(a b:Int)(w:hK):(Instr.index 252 (jg #[I N a,I N b]) (I N 0)).run ic w=.ok (I N a) w:=by kernel_rfl
theorem Lj(a b:Int)(w:hK):(Instr.index 252 (jg #[I N a,I N b]) (I N 1)).run ic w=.ok (I N b) w:=by kernel_rfl
theorem D5{β:Type}(B0 b:Nat)(o:Obj)(j:b<B0):bi B0 (fun(_:β) Ψ W=>W.heap[b]?=T o/\¬Ψ b):=by
 rintro s Ψ d k B ⟨a,e⟩ f l g;have i:=(jr.1 a).1;have c:¬d b:=λh=>by rcases g _ h with h|h;exact e h;omega
 refine⟨?_,c⟩
 rcases f.block b i c with h|⟨h,_⟩
 ·exact h.trans a
 omega
theorem bi.later{β:Type}{B0 b:Nat}{c:β->(Nat->Prop)->hK->Prop}(h:bi B0 c)(n:B0<=b):bi b c:=λs Ψ d e B f a i j=>
 h s Ψ d e B f ⟨a.os,a.tape,a.output,a.size,λk hk l=>by
  rcases a.block k hk l with g|⟨g,m⟩
  ·exact .inl g
  exact .inr ⟨by omega,m⟩⟩ i j
theorem Ce{β:Type}{P:jN}{k e:jj}{α:Type}(E:EKind P e α)(B0 b n:Nat)(f:Int->Option α)(l:b<B0):bi B0 (fun(_:β) Ψ W=>aH E k W b n f/\¬Ψ b):=by
 rintro s Ψ d m B ⟨a,g⟩ i o j;have c:¬d b:=λh=>by rcases j _ h with h|h;exact g h;have:=a.lt;omega
 refine⟨a.of_block ?_,c⟩
 rcases i.block b a.lt c with h|⟨h,_⟩
 ·exact h
 omega
def iP{α:Type}(b:Nat)(c:List Nat)(d:List α)(e:List α->(Nat->Prop)->hK->Prop)(f:List α)(Ψ:Nat->Prop)(W:hK):Prop:=
 ∃a,e (d++f) a W/\(∀k,Ψ k->k<W.heap.size->a k)/\(∀k,a k->k<W.heap.size)/\(∀k,k=b\/k=b+1->k<W.heap.size->a k)/\∀k∈c,a k
theorem sQ{α:Type}{B0 j:Nat}{l:List Nat}(m:List α){e:List α->(Nat->Prop)->hK->Prop}(n:bi B0 e):bi B0 (iP j l m e):=by
 rintro t Ψ u b B ⟨f,o,g,p,q,r⟩ a v i;have w:=a.size;refine⟨λk=>f k\/(b.heap.size<=k/\k<B.heap.size),?_,λk hk c=>?_,λk hk=>?_,λk hk c=>?_,λk hk=>.inl (r k hk)⟩
 ·refine n _ f _ b B o ⟨a.os,a.tape,a.output,a.size,λk hk d=>?_⟩ (λk hk=>.inl hk) (λk hk=>hk.imp id (·.1))
  refine a.block k hk (λs=>d (.inl ?_))
  rcases i k s with h|h
  ·exact g k h hk
  omega
 ·by_cases d:k<b.heap.size
  ·rcases i k hk with h|h
   ·exact .inl (g k h d)
   omega
  exact .inr ⟨by omega,c⟩
 ·rcases hk with h|h
  ·have:=p k h;omega
  exact h.2
 by_cases d:k<b.heap.size
 ·exact .inl (q k hk d)
 exact .inr ⟨by omega,c⟩
def kY{α:Type}(b:List Nat)(c:List α->(Nat->Prop)->hK->Prop)(d:List α)(W:hK):Prop:=
 ∃a,c d a W/\(∀k,a k->k<W.heap.size)/\∀k∈b,a k
theorem kY.wide{α:Type}{B0 e:Nat}{f:List Nat}{d:List α->(Nat->Prop)->hK->Prop}{g:List α}{b c:hK}(h:kY f d g b)(m:bi B0 d){Ψ:Nat->Prop}(a:aZ B0 Ψ b c)(i:∀k,Ψ k->b.heap.size<=k)(r:c.heap.size<=e):iP e f g d [] Ψ c:=by
 obtain⟨j,n,o,p⟩:=h;have s:=a.size;refine⟨λk=>j k\/(b.heap.size<=k/\k<c.heap.size),?_,λk hk l=>.inr ⟨i k hk,l⟩,λk hk=>?_,λk hk l=>by omega,λk hk=>.inl (p k hk)⟩
 ·rw[mb]
  refine m _ j _ b c n ⟨a.os,a.tape,a.output,a.size,λk hk t=>?_⟩ (λk hk=>.inl hk) (λk hk=>hk.imp id (·.1));exact a.block k hk (λq=>by have:=i k q;omega)
 rcases hk with h|h
 ·have:=o k h;omega
 exact h.2
theorem iP.own{α:Type}{d:Nat}{a:List Nat}{b:List α->(Nat->Prop)->hK->Prop}{c xs:List α}{Ψ:Nat->Prop}{W:hK}(h:iP d a c b xs Ψ W):kY a b (c++xs) W:=by
 obtain⟨e,f,j,g,k,i⟩:=h;exact⟨e,f,g,i⟩
theorem kY.turns{α:Type}{B0:Nat}{c:List Nat}{b:List α->(Nat->Prop)->hK->Prop}{d:List α}{e f:hK}(h:kY c b d e)(g:bi B0 b)(a:aZ B0 (λ_=>False) e f):kY c b d f:=by
 obtain⟨i,j,l,m⟩:=h;have n:=a.size;exact⟨i,g.keep j ⟨a.os,a.tape,a.output,a.size,λk hk _=>a.block k hk (λh=>h)⟩,λk hk=>by have:=l k hk;omega,m⟩
def oE(f:Int->Option Int)(b d:Nat)(h n:Nat):Prop:=
 ∀(a c n₀:Nat) (w:hK),aH (cW jf) 3 w b d f->b<n₀->ih w a 170 (.map (T b))->ih w c 3 (I N (n:Int))->n₀<=w.heap.size->
  dI ic 216 #[jd (T ⟨a,0,A⟩),jd (T ⟨c,0,A⟩)] (λx:Int=>#[I N x]) (λk=>k=a\/k=c) n₀ (λxs=>xs=cF f h n) (λ_=>True) (λe=>e<+:cF f h n) w
theorem CO(f:Int->Option Int)(b Q h n:Nat)(h1:512<=n*2^h)(h2:n*2^h<1024)(b1:1<=n)(b2:n<1024)(hz:n<512->∃t,h=t+1/\oE f b Q t (2*n)/\oE f b Q t (2*n+1))(bc:512<=n->h=0):oE f b Q h n:=by
 intro d g n₀ w a bd c e Tp l Pn Jx W hW hJ Ts hY h0;have Wi:=a.of_block (hW.block b a.lt);have bf:ih W d 170 (.map (T b)):=(hW.block d c.lt).trans c;have bg:ih W g 3 (I N (n:Int)):=(hW.block g e.lt).trans e;clear a c e;have cm:=(bf.alloc (hF #[.func (.yield l) #[] #[]] 80)).cell;have cn:=(bg.alloc (hF #[.func (.yield l) #[] #[]] 80)).cell;have hI:I64 (n:Int):=I64.of Y;have Vg:=(Wi.alloc (hF #[.func (.yield l) #[] #[]] 80)).look jf jO (ng _) hI true
 rcases qH (f n)with hf|⟨p,hf⟩
 ·rw[hf]at Vg
  have bA:(Instr.lookup 170 (.map (T b)) (I N (n:Int)) true).run ic (W.alloc (hF #[.func (.yield l) #[] #[]] 80))=.ok (je #[I N 0,.bool false]) (W.alloc (hF #[.func (.yield l) #[] #[]] 80)):=Vg;clear Vg;have HF:=O hf;have HJ:=O hJ;have a2:=O Ts;have HY:=O hY;have e:=O Wi;have i:=O h0;clear hf hJ Ts hY Wi h0
  by_cases h5:512<=n
  ·have hd:=ap ((512:Int)<=(n:Int))
   have PX:=ap (512<=n);obtain rfl:=bc h5;have a:hQ (cF f 0 n=[]):=O (by simp[cF,HF.out]);clear hz bc;refine(jY (n:=0)).1 ?_;refine lo pz rfl trivial ?_ rfl;simp only[ntmps216,jP,jt,jQ,jR,jS,jT,jU,jV,jW,jL,jM]
   gi_wp2
   refine jJ (jD rfl _ _ _) rfl ?_;rw[a];exact⟨⟨_,rfl⟩,.inl ⟨_,HJ.keep i (aZ.alloc _ _ _ _)⟩⟩
  have hd:=ar ((512:Int)<=(n:Int));have PX:=ar (512<=n);obtain⟨t,rfl,o,q⟩:=hz Y;refine(jY (n:=0)).1 ?_;refine qj pz rfl trivial ?_ rfl;simp only[ntmps216,jP,jt,jQ,jR,jS,jT,jU,jV,jW,jL,jM]
  gi_wp2_with fail
  have RZ:hQ (cF f (t+1) n=cF f t (2*n)++cF f t (2*n+1)):=O (by simp[cF,HF.out]);have r:∀k,k<2->oE f b Q t (2*n+k):=λk hk=>by
   rcases(show k=0\/k=1 by omega)with rfl|rfl
   ·exact o
   exact q
  have S4:=O r;obtain⟨a,c⟩:=J (W.alloc (hF #[.func (.yield l) #[] #[]] 80));obtain⟨m,j⟩:=J W.heap.size;have H:ih a d 170 (.map (T b)):=by rw[c];exact bf.alloc _
  have R:ih a g 3 (I N (n:Int)):=by rw[c];exact bg.alloc _
  have S:ih a m 80 (.func (.yield l) #[] #[]):=by rw[c,j];exact Boxed.new _ _ _
  have s:aH (cW jf) 3 a b Q f:=by rw[c];exact e.alloc _
  have b3:b<W.heap.size:=e.lt;have b4:w.heap.size<=W.heap.size:=hW.size;have b5:W.heap.size+1<=a.heap.size:=by rw[c];simp
  have u:kY [d,g,m] Pn [] a:=by
   have hs:=(aZ.alloc W.heap.size (λk=>k=d\/k=g\/k=m) W (hF #[.func (.yield l) #[] #[]] 80));rw[<-c]at hs;refine⟨λk=>k=d\/k=g\/k=m,HJ _ _ _ W a i hs (λk hk=>by rcases hk with h|h<;>simp[h]) (λk hk=>?_),λk hk=>?_,by simp⟩
   ·rcases hk with h|h|h
    ·exact .inl (.inl h)
    ·exact .inl (.inr h)
    exact .inr Y
   have v:=H.lt;have x:=R.lt;have y:=S.lt
   rcases hk with rfl|rfl|rfl<;>assumption
  rw[<-c,<-j];have HO:=O u;have U:=O s;have b6:W.heap.size<=m:=Y;clear bA cm cn c o q r hz bc i e bf bg u s j;refine wpIn_loop_rounds 3 ?_;rw[roundsIn_succ];have cm:=H.cell;have bB:=λW=>I1 (2*(n:Int)) (2*(n:Int)+1) W
  gi_wp2_with fail
  refine⟨trivial,rfl,(callsIn_wide.2 (vu _ _ _)).mono ?_⟩;rintro e w' ⟨rfl,rfl⟩
  gi_wp2_with fail
  obtain⟨s,c⟩:=J ((a.alloc (hF #[.map (T b)] 170)).alloc (hF #[I N (2*(n:Int))] 3));have bh:ih s a.heap.size 170 (.map (T b)):=by rw[c];exact(Boxed.new a _ _).alloc _
  have a3:((2*n:Nat):Int)=2*(n:Int):=by simp
  have bk:ih s (a.heap.size+1) 3 (I N ((2*n:Nat):Int)):=by
   have h:=Boxed.new (a.alloc (hF #[.map (T b)] 170)) 3 (I N (2*(n:Int)));rw[jp]at h;rw[a3,c];exact h
  have bC:a.heap.size+2=s.heap.size:=by rw[c];simp
  have a4:aZ W.heap.size (λk=>k=a.heap.size\/k=a.heap.size+1) a s:=by
   rw[c];refine⟨rfl,rfl,rfl,by simp;omega,λk hk _=>.inl ?_⟩;rw[jo _ _ _ (by simp;omega),jo _ _ _ hk]
  have F:hU a a s:=by rw[c];exact((jh _ a).alloc (jb _) _).alloc av _
  have bl:iP s.heap.size [d,g,m] [] Pn [] (λk=>k=a.heap.size\/k=a.heap.size+1) s:=HO.wide HJ a4 (by rintro k (rfl|rfl)<;>omega) (jb _);have bm:ih s d 170 (.map (T b)):=(F.block _ H.lt).trans H;have bn:ih s g 3 (I N (n:Int)):=(F.block _ R.lt).trans R;have bo:ih s m 80 (.func (.yield l) #[] #[]):=(F.block _ S.lt).trans S;have au:aH (cW jf) 3 s b Q f:=U.below F U.lt;have bI:=U.lt;have bK:=H.lt;have bM:=R.lt;have bN:=S.lt;have a1:W.heap.size<=s.heap.size:=Y;have a5:=S4 0 G a.heap.size (a.heap.size+1) n₀ s au bd bh bk Y;have Yo:=O a5;rw[<-c];clear a5 a3 c a4 F HO U;refine Cn (n:=0) (gf:=216) (lb:=#[jd (T ⟨a,0,A⟩),jd (T ⟨a.heap.size+1,0,A⟩)]) rfl (p6 pz ae rfl)
   Yo Y (λ_=>rfl) (by rintro k (rfl|rfl)<;>omega)
   (λu Ψ W=>iP s.heap.size [d,g,m] [] Pn u Ψ W/\(ih W d 170 (.map (T b))/\¬Ψ d)/\(ih W g 3 (I N (n:Int))/\¬Ψ g)/\(ih W m 80 (.func (.yield l) #[] #[])/\¬Ψ m)/\(aH (cW jf) 3 W b Q f/\¬Ψ b))
   (λc u Ψ W=>c=.ret/\iP s.heap.size [d,g,m] [] Jx u Ψ W)
   ((sQ [] (HJ.later a1)).and ((gH _ _ _ (λ_=>_)).and ((gH _ _ _ (λ_=>_)).and ((gH _ _ _ (λ_=>_)).and (Ce _ _ _ _ _ Y)))))
   (λc=>(eY _ _).and (sQ [] (a2.later a1)))
   ⟨bl,⟨bm,by omega⟩,⟨bn,by omega⟩,⟨bo,by omega⟩,⟨au,by omega⟩⟩
   (λx ba _ _=>ba={tmps:=#[.func (.yield l) #[] #[],jd (T ⟨d,0,A⟩),jd (T ⟨g,0,A⟩),jd (T ⟨m,0,A⟩),I N 0,.bool false,jc,I N (2*(n:Int)),I N x,je #[I N 0,.bool false],.map (T b),I N (n:Int),je #[I N 0,.bool false],I N 0,.bool false,.bool false,jc,jc,jc,I N (n:Int),.bool false,I N (n:Int),I N (2*(n:Int)),I N (n:Int),I N (2*(n:Int)),I N (2*(n:Int)+1),jg #[I N (2*(n:Int)),I N (2*(n:Int)+1)],I N 0,.bool true,I N (2*(n:Int)),.map (T b),I N (2*(n:Int)),.func (.func 216) #[] #[jd (T ⟨a,0,A⟩),jd (T ⟨a.heap.size+1,0,A⟩)],I N x,jc,jc,jc,jc,jc],defers:=[]}) (eY _ _)
   ?assign0 ?body0 ?done0 ?stop0
  case assign0=>
   intro l2 u x Ψ bb K hI _ q
   gi_wp2
   exact q _ _ (jh _ _) hI rfl
  case body0=>
   rintro l2 u x Ψ ba bb ⟨aa,⟨o,nm⟩,⟨y,bq⟩,⟨j,ny⟩,⟨br,nk⟩⟩ rfl hV Uk bO Vf;obtain⟨v,z,g2,M,g4,P⟩:=aa;obtain⟨fn,tmps,assign,body,hy,V⟩:=HY ([]++u) x v bb z M (by rw[RZ];rw[jL];exact hV.trans (List.prefix_append _ _));have cy:=j.cell;have X:=O g2;have Sw:=O M;have B:=O g4;have C:=O P;have QT:=O Uk;clear z g2 M g4 P Uk hV Vf
   gi_wp2
   refine⟨rfl,RoundIn.mono V ?_⟩;rintro e W3 (⟨rfl,Tt,r,E⟩|⟨rfl,Uz,r,E⟩)
   ·have ad:=r.size
    have i:=O E;have O8:=O r;clear E r V hy cy
    gi_wp2
    refine⟨⟨⟨i _ (B _ (.inl rfl) Y),i _ (B _ (.inr rfl) Y)⟩,O8,λk hk=>i k (X k hk (QT k hk))⟩,
     ⟨v,by rw[<-jv];exact Tt,λk hk _=>X k hk (QT k hk),λk hk=>jw (Sw k hk) ad,λk hk _=>B k hk Y,C⟩,
     ⟨(i _ (C d av)).trans o,nm⟩,⟨(i _ (C g av)).trans y,bq⟩,⟨(i _ (C m av)).trans j,ny⟩,⟨br.of_block (O8.block b bd),nk⟩⟩
   have ad:=r.size;have i:=O E;have O8:=O r;clear E r V hy cy
   gi_wp2
   refine⟨⟨⟨i _ (B _ (.inl rfl) Y),i _ (B _ (.inr rfl) Y)⟩,O8,λk hk=>i k (X k hk (QT k hk))⟩,rfl,
    ⟨v,by rw[<-jv];exact Uz,λk hk _=>X k hk (QT k hk),λk hk=>jw (Sw k hk) ad,λk hk _=>B k hk Y,C⟩⟩
  case stop0=>
   rintro D c u Ψ j rfl -⟨rfl,bs⟩ q;obtain⟨v,z,-,-,-,-⟩:=bs
   gi_wp2
   refine⟨by simp,.inl ⟨_,_,rfl,j6 q,?_⟩⟩;exact⟨_,jD rfl _ _ _,⟨_,rfl⟩,.inr ⟨_,v,trivial,a2.keep z (aZ.putObj _ q rfl Y)⟩⟩
  rintro D xs Ψ j rfl rfl ⟨aa,⟨bu,nm⟩,⟨bv,bT⟩,⟨bw,ny⟩,⟨al,nk⟩⟩ q
  gi_wp2_with fail
  obtain⟨v,z,g2,M,g4,P⟩:=aa;have b0:=(jr.1 q).1;obtain⟨y,o⟩:=J s.heap.size;rw[<-o]at q b0⊢;have HO:hQ (kY [d,g,m,y] Pn (cF f t (2*n)) j):=O ⟨v,by simpa using z,M,λk hk=>by
   simp only[List.mem_cons,List.not_mem_nil,or_false]at hk
   rcases hk with h|h|h|h
   ·exact P k (by simp[h])
   ·exact P k (by simp[h])
   ·exact P k (by simp[h])
   exact g4 k (.inl (h.trans o)) Y⟩
  have VV:=O q;have U:=O al;have b7:W.heap.size<=y:=Y;have b8:b<y:=Y;have Te:W.heap.size<=j.heap.size:=Y;clear z g2 M g4 P q H R S al nm bT ny nk bI bK bM bN bl bm bn bo au bh bk Yo bC a1 o cm bB;have H:=bu;have R:=bv;have S:=bw;clear bu bv bw;rw[roundsIn_succ];have cm:=H.cell;have bB:=λW=>Lj (2*(n:Int)) (2*(n:Int)+1) W
  gi_wp2_with fail
  refine⟨trivial,rfl,(callsIn_wide.2 (vu _ _ _)).mono ?_⟩;rintro e w' ⟨rfl,rfl⟩
  gi_wp2_with fail
  obtain⟨o,al⟩:=J ((j.alloc (hF #[.map (T b)] 170)).alloc (hF #[I N (2*(n:Int)+1)] 3));have bh:ih o j.heap.size 170 (.map (T b)):=by rw[al];exact(Boxed.new j _ _).alloc _
  have a3:((2*n+1:Nat):Int)=2*(n:Int)+1:=by simp
  have bk:ih o (j.heap.size+1) 3 (I N ((2*n+1:Nat):Int)):=by
   have h:=Boxed.new (j.alloc (hF #[.map (T b)] 170)) 3 (I N (2*(n:Int)+1));rw[jp]at h;rw[a3,al];exact h
  have bC:j.heap.size+2=o.heap.size:=by rw[al];simp
  have a4:aZ W.heap.size (λk=>k=j.heap.size\/k=j.heap.size+1) j o:=by
   rw[al];refine⟨rfl,rfl,rfl,by simp;omega,λk hk _=>.inl ?_⟩;rw[jo _ _ _ (by simp;omega),jo _ _ _ hk]
  have F:hU j j o:=by rw[al];exact((jh _ j).alloc (jb _) _).alloc av _
  have bl:iP o.heap.size [d,g,m,y] (cF f t (2*n)) Pn [] (λk=>k=j.heap.size\/k=j.heap.size+1) o:=HO.wide HJ a4 (by rintro k (rfl|rfl)<;>omega) (jb _);have bm:ih o d 170 (.map (T b)):=(F.block _ H.lt).trans H;have bn:ih o g 3 (I N (n:Int)):=(F.block _ R.lt).trans R;have bo:ih o m 80 (.func (.yield l) #[] #[]):=(F.block _ S.lt).trans S;have au:aH (cW jf) 3 o b Q f:=U.below F U.lt;have bI:=U.lt;have bK:=H.lt;have bM:=R.lt;have bN:=S.lt;have bT:o.heap[y]?=T (.deferred (T [])):=(F.block _ (jr.1 VV).1).trans VV;have b9:=(jr.1 VV).1;have a1:W.heap.size<=o.heap.size:=Y;have a5:=S4 1 G j.heap.size (j.heap.size+1) n₀ o au bd bh bk Y;have Yo:=O a5;rw[<-al];clear a5 a3 al a4 F HO U VV;refine Cn (n:=0) (gf:=216) (lb:=#[jd (T ⟨j,0,A⟩),jd (T ⟨j.heap.size+1,0,A⟩)]) rfl (p6 pz ae rfl)
   Yo Y (λ_=>rfl) (by rintro k (rfl|rfl)<;>omega)
   (λu Ψ W=>iP o.heap.size [d,g,m,y] (cF f t (2*n)) Pn u Ψ W/\(ih W d 170 (.map (T b))/\¬Ψ d)/\(ih W g 3 (I N (n:Int))/\¬Ψ g)/\(ih W m 80 (.func (.yield l) #[] #[])/\¬Ψ m)/\(aH (cW jf) 3 W b Q f/\¬Ψ b)/\(W.heap[y]?=T (.deferred (T []))/\¬Ψ y))
   (λc u Ψ W=>c=.ret/\iP o.heap.size [d,g,m,y] (cF f t (2*n)) Jx u Ψ W/\(W.heap[y]?=T (.deferred (T []))/\¬Ψ y))
   ((sQ (cF f t (2*n)) (HJ.later a1)).and ((gH _ _ _ (λ_=>_)).and ((gH _ _ _ (λ_=>_)).and ((gH _ _ _ (λ_=>_)).and ((Ce _ _ _ _ _ Y).and (D5 _ _ _ Y))))))
   (λc=>(eY _ _).and ((sQ (cF f t (2*n)) (a2.later a1)).and (D5 _ _ _ Y)))
   ⟨bl,⟨bm,by omega⟩,⟨bn,by omega⟩,⟨bo,by omega⟩,⟨au,by omega⟩,bT,by omega⟩
   (λx ba _ _=>ba={tmps:=#[.func (.yield l) #[] #[],jd (T ⟨d,0,A⟩),jd (T ⟨g,0,A⟩),jd (T ⟨m,0,A⟩),I N 0,.bool false,jc,I N (2*(n:Int)+1),I N x,je #[I N 0,.bool false],.map (T b),I N (n:Int),je #[I N 0,.bool false],I N 0,.bool false,.bool false,jc,jc,jc,I N (n:Int),.bool false,I N (n:Int),I N (2*(n:Int)),I N (n:Int),I N (2*(n:Int)),I N (2*(n:Int)+1),jg #[I N (2*(n:Int)),I N (2*(n:Int)+1)],I N 1,.bool true,I N (2*(n:Int)+1),.map (T b),I N (2*(n:Int)+1),.func (.func 216) #[] #[jd (T ⟨j,0,A⟩),jd (T ⟨j.heap.size+1,0,A⟩)],I N x,jc,jc,jc,jc,I N 1],defers:=[]}) (eY _ _)
   ?assign1 ?body1 ?done1 ?stop1
  case assign1=>
   intro l2 u x Ψ bb K hI _ q
   gi_wp2
   exact q _ _ (jh _ _) hI rfl
  case body1=>
   rintro l2 u x Ψ ba bb ⟨aa,⟨al,nm⟩,⟨a3,bq⟩,⟨U,ny⟩,⟨br,nk⟩,F,K⟩ rfl hV Uk bO Vf;obtain⟨v,z,g2,M,g4,P⟩:=aa;obtain⟨fn,tmps,assign,body,hy,V⟩:=HY ((cF f t (2*n))++u) x v bb z M (by rw[RZ];rw[jv];exact(List.prefix_append_right_inj _).2 hV);have cy:=U.cell;have X:=O g2;have Sw:=O M;have B:=O g4;have C:=O P;have QT:=O Uk;clear z g2 M g4 P Uk hV Vf
   gi_wp2
   refine⟨rfl,RoundIn.mono V ?_⟩;rintro e W3 (⟨rfl,Tt,r,E⟩|⟨rfl,Uz,r,E⟩)
   ·have ad:=r.size
    have i:=O E;have O8:=O r;clear E r V hy cy
    gi_wp2
    refine⟨⟨⟨i _ (B _ (.inl rfl) Y),i _ (B _ (.inr rfl) Y)⟩,O8,λk hk=>i k (X k hk (QT k hk))⟩,
     ⟨v,by rw[<-jv];exact Tt,λk hk _=>X k hk (QT k hk),λk hk=>jw (Sw k hk) ad,λk hk _=>B k hk Y,C⟩,
     ⟨(i _ (C d av)).trans al,nm⟩,⟨(i _ (C g av)).trans a3,bq⟩,⟨(i _ (C m av)).trans U,ny⟩,⟨br.of_block (O8.block b bd),nk⟩,(i _ (C y av)).trans F,K⟩
   have ad:=r.size;have i:=O E;have O8:=O r;clear E r V hy cy
   gi_wp2
   refine⟨⟨⟨i _ (B _ (.inl rfl) Y),i _ (B _ (.inr rfl) Y)⟩,O8,λk hk=>i k (X k hk (QT k hk))⟩,rfl,
    ⟨⟨v,by rw[<-jv];exact Uz,λk hk _=>X k hk (QT k hk),λk hk=>jw (Sw k hk) ad,λk hk _=>B k hk Y,C⟩,(i _ (C y av)).trans F,K⟩⟩
  case stop1=>
   rintro D c u Ψ x rfl -⟨rfl,bs,F,K⟩ q;obtain⟨v,z,-,-,-,-⟩:=bs
   gi_wp2
   refine⟨by simp,.inl ⟨_,_,rfl,j6 q,?_⟩⟩;have i:(x.putObj o.heap.size (.deferred A)).heap[y]?=T (.deferred (T [])):=(qe Y).trans F;refine⟨by simp,.inl ⟨_,_,rfl,j6 i,?_⟩⟩;exact⟨_,jD rfl _ _ _,⟨_,rfl⟩,.inr ⟨_,v,trivial,a2.keep (a2.keep z (aZ.putObj _ q rfl Y)) (aZ.putObj _ i rfl Y)⟩⟩
  rintro D xs Ψ x rfl rfl ⟨aa,⟨bu,nm⟩,⟨bv,bq⟩,⟨bw,ny⟩,⟨br,nk⟩,F,K⟩ q;obtain⟨v,z,-,-,-,-⟩:=aa
  gi_wp2_with fail
  rw[roundsIn_succ]
  gi_wp2
  have i:(x.putObj o.heap.size (.deferred A)).heap[y]?=T (.deferred (T [])):=(qe Y).trans F;refine⟨by simp,.inl ⟨_,_,rfl,j6 q,?_⟩⟩;refine⟨by simp,.inl ⟨_,_,rfl,j6 i,?_⟩⟩;exact⟨_,jD rfl _ _ _,⟨_,rfl⟩,.inl ⟨_,v,RZ.symm,HJ.keep (HJ.keep z (aZ.putObj _ q rfl Y)) (aZ.putObj _ i rfl Y)⟩⟩
 rw[hf]at Vg;have bA:(Instr.lookup 170 (.map (T b)) (I N (n:Int)) true).run ic (W.alloc (hF #[.func (.yield l) #[] #[]] 80))=.ok (je #[I N p,.bool true]) (W.alloc (hF #[.func (.yield l) #[] #[]] 80)):=Vg;have hs:=NQ (f:=f) (h:=h) (n:=n) (by rw[hf];rfl);have a:Pn [] (λk=>k=d\/k=g) (W.alloc (hF #[.func (.yield l) #[] #[]] 80)):=hJ.keep h0 (aZ.alloc _ _ _ _);obtain⟨fn,tmps,assign,body,hy,V⟩:=hY [] (n:Int) _ _ a (by rintro k (rfl|rfl);have:=bf.lt;simp;omega;have:=bg.lt;simp;omega) (by rw[hs];exact List.prefix_refl _);have c:=O hs;clear Vg hs hz bc Wi hJ Ts hY h0 hf a;refine(jY (n:=0)).1 ?_;refine lo pz rfl trivial ?_ rfl;simp only[ntmps216,jP,jt,jQ,jR,jS,jT,jU,jV,jW,jL,jM]
 gi_wp2
 refine⟨rfl,V.mono ?_⟩;rintro e W3 (⟨rfl,Tt,r,E⟩|⟨rfl,Uz,r,E⟩)
 ·gi_wp2
  refine jJ (jD rfl _ _ _) rfl ?_;exact⟨⟨_,rfl⟩,.inl ⟨_,_,c.symm,Tt⟩⟩
 gi_wp2
 refine jJ (jD rfl _ _ _) rfl ?_;exact⟨⟨_,rfl⟩,.inr ⟨_,_,trivial,Uz⟩⟩
theorem wO(f:Int->Option Int)(b d:Nat):∀h n,512<=n*2^h->n*2^h<1024->oE f b d h n
 |0,n,c,a=>CO f b d 0 n c a Y Y (λh=>by omega) (λ_=>rfl)
 |h+1,n,c,a=>by
  rw[j8]at c a;have e:2*n*2^h=n*(2^h*2):=by rw[km 2 n,Nat.mul_assoc,km 2]
  have i:(2*n+1)*2^h=n*(2^h*2)+2^h:=by rw[Nat.add_mul,Nat.one_mul,e]
  have m:1<=2^h:=qJ;have j:1<=n:=by
   rcases ms n with g|g
   ·rw[g]at c;omega
   exact g
  have o:2^h*2<=n*(2^h*2):=Nat.le_mul_of_pos_left _ j;have p:n<512:=by
   have:n*2<=n*(2^h*2):=Nat.mul_le_mul_left _ Y;omega
  have k:n*(2^h*2)+2^h<1024:=by
   have:n*(2^h*2)+(2^h*2)<=1024:=by
    have r:h<=9:=by
     rcases mz 9 h with g|g
     ·have:2^10<=2^h:=qf G g
      omega
     exact g
    have g:2^h*2∣1024:=by
     rw[<-j8,show 1024=2^10 by decide];exact Nat.pow_dvd_pow _ Y
    obtain⟨q,l⟩:=g;rw[l]at a⊢;have:n<q:=by
     rw[km]at a;exact Nat.lt_of_mul_lt_mul_left a
    rw[<-Nat.succ_mul,km (2^h*2) q];exact qn _ this
   omega
  exact CO f b d (h+1) n (by rw[j8];exact c) (by rw[j8];exact a) j Y
   (λ_=>⟨h,rfl,wO f b d h (2*n) (by rw[e];exact c) (by rw[e];exact a),wO f b d h (2*n+1) (by rw[i];omega) (by rw[i];exact k)⟩) (λh=>by omega)
end
section
open Go.Shelf
def Tryzx.lays189_ren:Go.Shelf.Ren:=⟨fun|189=>163|125=>130|257=>206|128=>177|129=>178|294=>229|295=>230|296=>231|297=>232|298=>233|299=>234|216=>235|300=>236|301=>237|328=>242|329=>209|330=>210|331=>243|332=>244|215=>131|343=>245|n=>n,fun|28=>25|3=>3|46=>212|0=>0|51=>267|53=>148|4=>4|183=>261|182=>260|131=>101|5=>5|9=>9|218=>294|222=>297|228=>322|229=>323|n=>n,fun|n=>n⟩
theorem Tryzx.lays189:Go.Proofs.Lays.n189 ic Tryzx.lays189_ren:={
 mixed:=by kernel_rfl
 f125:=func130.trans (congrArg T ae)
 f128:=func177.trans (congrArg T ae)
 f129:=func178.trans (congrArg T ae)
 f189:=func163.trans (congrArg T ae)
 f215:=func131.trans (congrArg T ae)
 f216:=func235.trans (congrArg T ae)
 f257:=func206.trans (congrArg T ae)
 f294:=func229.trans (congrArg T ae)
 f295:=func230.trans (congrArg T ae)
 f296:=func231.trans (congrArg T ae)
 f297:=func232.trans (congrArg T ae)
 f298:=func233.trans (congrArg T ae)
 f299:=func234.trans (congrArg T ae)
 f300:=func236.trans (congrArg T ae)
 f301:=func237.trans (congrArg T ae)
 f328:=func242.trans (congrArg T ae)
 f329:=func209.trans (congrArg T ae)
 f330:=func210.trans (congrArg T ae)
 f331:=func243.trans (congrArg T ae)
 f332:=func244.trans (congrArg T ae)
 f343:=func245.trans (congrArg T ae)
 t0:=underlying0
 a0:=Tryz.isAgg0
 z0:=Tryz.sizeOf0
 v0:=Tryz.zeroValue0
 t3:=jf
 a3:=Tryz.isAgg3
 z3:=Tryz.sizeOf3
 v3:=Tryz.zeroValue3
 t4:=jE
 a4:=Tryz.isAgg4
 z4:=Tryz.sizeOf4
 v4:=Tryz.zeroValue4
 t5:=underlying5
 a5:=Tryz.isAgg5
 z5:=Tryz.sizeOf5
 v5:=Tryz.zeroValue5
 t9:=underlying9
 a9:=Tryz.isAgg9
 z9:=Tryz.sizeOf9
 v9:=Tryz.zeroValue9
 t28:=qa
 a28:=Tryz.isAgg25
 z28:=Tryz.sizeOf25
 v28:=Tryz.zeroValue25
 t46:=underlying212
 a46:=Tryz.isAgg212
 z46:=Tryz.sizeOf212
 v46:=Tryz.zeroValue212
 t51:=underlying267
 a51:=Tryz.isAgg267
 z51:=Tryz.sizeOf267
 v51:=Tryz.zeroValue267
 t53:=underlying148
 a53:=Tryz.isAgg148
 z53:=Tryz.sizeOf148
 v53:=Tryz.zeroValue148
 t131:=underlying101
 a131:=Tryz.isAgg101
 z131:=Tryz.sizeOf101
 v131:=Tryz.zeroValue101
 t182:=underlying260
 a182:=Tryz.isAgg260
 z182:=Tryz.sizeOf260
 v182:=Tryz.zeroValue260
 t183:=underlying261
 a183:=Tryz.isAgg261
 z183:=Tryz.sizeOf261
 v183:=Tryz.zeroValue261
 t218:=underlying294
 a218:=Tryz.isAgg294
 z218:=Tryz.sizeOf294
 v218:=Tryz.zeroValue294
 t222:=underlying297
 a222:=Tryz.isAgg297
 z222:=Tryz.sizeOf297
 v222:=Tryz.zeroValue297
 t228:=underlying322
 a228:=Tryz.isAgg322
 z228:=Tryz.sizeOf322
 v228:=Tryz.zeroValue322
 t229:=underlying323
 a229:=Tryz.isAgg323
 z229:=Tryz.sizeOf323
 v229:=Tryz.zeroValue323}
open Go.Sort Go.RowKit in
theorem Tryzx.slices_Sort_int(a c d:Nat)(b:List Int)(w:hK)(f:Holds (jm .i64) w a c b.toArray)(g:a<w.heap.size)(h:b.length<4611686018427387904):
 ja ic 163 #[hH (T ⟨a,c,A⟩) b.length d] w λe w'=>
  e=ii (je #[])/\∃n os,w'=grow (putRow (jm .i64) (Sort.ahead w n) a c (b.mergeSort λx y=>decide (x<=y)).toArray) os:=Any.slices_Sort_int Tryzx.lays189 a c d b w f g h
def Tryzx.laysNm220_ren:Go.Shelf.Ren:=⟨fun|20=>164|n=>n,fun|22=>25|3=>3|4=>4|0=>0|n=>n,fun|n=>n⟩
theorem Tryzx.laysNm220:Go.Proofs.Lays2.n20 ic Tryzx.laysNm220_ren:={
 mixed:=by kernel_rfl
 f20:=func164.trans (congrArg T ae)
 t0:=underlying0
 a0:=Tryz.isAgg0
 z0:=Tryz.sizeOf0
 v0:=Tryz.zeroValue0
 t3:=jf
 a3:=Tryz.isAgg3
 z3:=Tryz.sizeOf3
 v3:=Tryz.zeroValue3
 t4:=jE
 a4:=Tryz.isAgg4
 z4:=Tryz.sizeOf4
 v4:=Tryz.zeroValue4
 t22:=qa
 a22:=Tryz.isAgg25
 z22:=Tryz.sizeOf25
 v22:=Tryz.zeroValue25
 i3:=by kernel_rfl}
open Go.RowKit Go.Lib Go.Sort in
open Go.RowKit Go.Lib Go.Sort in
theorem Tryzx.slices_Compact_int(b c d:Nat)(a:List Int)(w:hK)(f:Holds (jm .i64) w b c a.toArray)(g:a.length<=9223372036854775807)(h:a.length<=d):
 ja ic 164 #[hH (T ⟨b,c,A⟩) a.length d] w λe w'=>e=ii (hH (T ⟨b,c,A⟩) (Lib.compact a).length d)/\∃q,w'=putRow (jm .i64) (Sort.ahead w q) b c (Lib.compact a++nn (a.length-(Lib.compact a).length) 0).toArray:=Any.slices_Compact_int Tryzx.laysNm220 b c d a w f g h
open Go.RowKit Go.Lib Go.Sort in
theorem Tryzx.slices_Compact_int_empty(a:Option jz)(b:Nat)(w:hK):
 ja ic 164 #[hH a 0 b] w λe w'=>e=ii (hH a 0 b)/\w'=w:=Any.slices_Compact_int_empty Tryzx.laysNm220 a b w
open Go.RowKit Go.Sort in
theorem Tryzx.slices_Sort_int_none(p:Option jz)(a:Nat)(w:hK):
 ja ic 163 #[hH p 0 a] w λe w'=>e=ii (je #[])/\w'=w:=Any.slices_Sort_int_none Tryzx.lays189 p a w
end
section
open Go
theorem CI(d:Array Int)(f:∀i j,i<=j->j<d.size->d[i]!<=d[j]!):∀m,m<=d.size->
 (Lib.compactUpTo d m).Pairwise (·<·)/\(∀x∈Lib.compactUpTo d m,∃j,j<m/\x=d[j]!)/\∀j,j<m->d[j]!∈Lib.compactUpTo d m
 |0,_=>by simp[Lib.compactUpTo]
 |m+1,q=>by
  obtain⟨n,g,i⟩:=CI d f m Y;rw[Lib.compactUpTo_succ]
  by_cases hk:m=0\/d[m]!≠d[m-1]!
  ·have k:Lib.keeps d m=true:=by simp only[Lib.keeps,decide_eq_true_eq];exact hk
   rw[k,if_pos rfl];refine⟨List.pairwise_append.2 ⟨n,by simp,λa p b o=>?_⟩,λx l=>?_,λj c=>?_⟩
   ·simp only[qK]at o
    subst o;obtain⟨j,c,rfl⟩:=g a p
    rcases hk with e|e
    ·omega
    have h:=f j (m-1) Y Y;have r:=f (m-1) m Y Y;omega
   ·rcases qo.1 l with h|h
    ·obtain⟨j,c,e⟩:=g x h
     exact⟨j,by omega,e⟩
    simp only[qK]at h;exact⟨m,by omega,h⟩
   rcases qs (qL c)with h|rfl
   ·exact qo.2 (.inl (i j h))
   exact qo.2 (.inr av)
  have k:Lib.keeps d m=false:=by simp only[Lib.keeps,decide_eq_false_iff_not];exact hk
  rw[k,if_neg G,mb];refine⟨n,λx l=>?_,λj c=>?_⟩
  ·obtain⟨j,c,e⟩:=g x l
   exact⟨j,by omega,e⟩
  rcases qs (qL c)with h|rfl
  ·exact i j h
  have:j≠0:=λh=>hk (.inl h)
  have e:d[j]! =d[j-1]! :=by
   rcases Classical.em (d[j]! =d[j-1]!)with h|h
   ·exact h
   exact absurd (.inr h) hk
  rw[e];exact i (j-1) Y
theorem Dh(xs:List Int)(h:xs.Pairwise (·<=·)):(Lib.compact xs).Pairwise (·<·)/\∀x,x∈Lib.compact xs↔x∈xs:=by
 have c:∀i j,i<=j->j<xs.toArray.size->xs.toArray[i]!<=xs.toArray[j]! :=λi j d a=>by
  have b:j<xs.length:=by simpa using a
  rcases qs d with g|rfl
  ·have:=List.pairwise_iff_getElem.1 h i j Y b g
   simpa [getElem!_pos,show i<xs.length by omega,b]using this
  exact Int.le_refl _
 obtain⟨f,g,k⟩:=CI xs.toArray c xs.length av;refine⟨f,λx=>⟨λb=>?_,λb=>?_⟩⟩
 ·obtain⟨j,a,rfl⟩:=g x b
  simp[getElem!_pos,a]
 obtain⟨j,a,rfl⟩:=List.getElem_of_mem b;have:=k j a;have e:xs.toArray[j]! =xs[j]:=by simp[getElem!_pos,a]
 rw[e]at this;exact this
theorem LY{l m:List Int}(c:l.Pairwise (·<·))(d:m.Pairwise (·<·))(h:∀x,x∈l↔x∈m):l=m:=by
 have e:l.Nodup:=c.imp (λh=>by omega);have f:m.Nodup:=d.imp (λh=>by omega);exact List.Perm.eq_of_pairwise (le:=(·<·)) (λa b _ _ g i=>by omega) c d ((List.perm_ext_iff_of_nodup e f).2 h)
theorem tJ(l:List Int):(l.mergeSort leI).Pairwise (·<=·):=by
 have d:∀a b c:Int,leI a b=true->leI b c=true->leI a c=true:=λa b c f g=>by simp only[leI,decide_eq_true_eq]at*;omega
 have e:∀a b:Int,(leI a b||leI b a)=true:=λa b=>by simp only[leI,Bool.or_eq_true,decide_eq_true_eq];omega
 exact(List.pairwise_mergeSort d e l).imp (λh=>by simpa [leI]using h)
theorem rY(l:List Int)(x:Int):x∈l.mergeSort leI↔x∈l:=(List.mergeSort_perm l leI).mem_iff
def fl(t:List (Int×Int)):List Int:=(t.filter λx=>decide (512<=x.1)&&decide (x.1<=1023)).map λx=>x.1-512
def aU(t:List (Int×Int)):List Int:=Lib.compact ((fl t).mergeSort leI)
theorem uo(t:List (Int×Int)):(aU t).Pairwise (·<·):=(Dh _ (tJ _)).1
theorem mq(t:List (Int×Int))(d:Int):d∈aU t↔0<=d/\d<512/\∃x∈t,x.1=512+d:=by
 unfold aU;rw[(Dh _ (tJ _)).2,rY];unfold fl;simp only[n0,List.mem_filter,Bool.and_eq_true,decide_eq_true_eq]
 constructor
 ·rintro⟨x,⟨a,b,c⟩,rfl⟩
  exact⟨by omega,by omega,x,a,by omega⟩
 rintro⟨b,c,x,a,e⟩;exact⟨x,⟨a,by omega,by omega⟩,by omega⟩
end
section
open Go.RowKit Go.Shelf
attribute [local go_sem] Oper.semAt_some
theorem Cd(n:Nat)(h:n<4611686018427387904)(w:hK):
 ja ic 205 #[I N n] w λe w'=>e=ii (I N (n/2:Nat))/\w=w':=by
 go_enter func205,ntmps205
 go_wp2
 go_ret;exact⟨rfl,rfl⟩
def upL:Nat->Nat->List Nat
 |0,_=>[]
 |k+1,n=>if n>1 then n::upL k (n/2)else []
theorem uR:∀(k n:Nat),∀x∈upL k n,x<=n
 |0,_,x,h=>by simp[upL]at h
 |k+1,n,x,h=>by
  unfold upL at h
  split at h
  ·rcases List.mem_cons.1 h with rfl|h
   ·omega
   have:=uR k (n/2) x h;omega
  simp at h
theorem CM:∀(k n:Nat),(upL k n).length<=k
 |0,_=>by simp[upL]
 |k+1,n=>by
  unfold upL
  split
  ·have:=CM k (n/2);simp;omega
  simp
theorem rN(d:Nat)(a:d<512):(upL 10 (512+d)).length=8+1:=by
 have h:∀d:Fin 512,(upL 10 (512+d.val)).length=8+1:=by decide+kernel
 exact h ⟨d,a⟩
theorem Cv(k n:Nat)(c:n<1024){a:List Nat}{x:Nat}(h:a++[x]<+:upL k n):x<1024/\a.length<k:=by
 have d:=uR k n x (h.subset av);have b:=h.length_le;have e:=CM k n;simp at b;omega
theorem B7(n:Int)(w:hK):
 ja ic 214 #[I N n] w λe w'=>e=ii (.func (.func 239) #[] #[jd (T ⟨w,0,A⟩)])/\w'=w.alloc (hF #[I N n] 271):=by
 go_enter func214,ntmps214
 go_wp2
 go_ret;exact⟨rfl,rfl⟩
def cellNat(w:hK)(b:Nat):Nat:=(ji ((w.cell? ⟨b,0,A⟩).getD (I N 0))).toNat
theorem By{w:hK}{b:Nat}{t:jj}{m:Nat}(h:ih w b t (I N m)):cellNat w b=m:=by
 unfold cellNat;rw[h.cell];simp[ji]
theorem AQ{j m:Nat}(h:1<m)(a:m<2^j):∃i,j=i+1/\upL j m=m::upL i (m/2)/\m/2<2^i:=by
 rcases j with _|i
 ·simp at a;omega
 exact⟨i,rfl,by simp[upL,h],by rw[j8]at a;omega⟩
theorem BN{j m:Nat}(h:m<=1):upL j m=[]:=by
 rcases j with _|i
 ·rfl
 simp[upL];omega
set_option maxRecDepth 100000 in
theorem Bu(n k:Nat)(B:n<4611686018427387904)(hk:n<2^k)(b:Nat)(w:hK)(t:ih w b 271 (I N n)):
 dI ic 239 #[jd (T ⟨b,0,A⟩)] (λm:Nat=>#[I N (m:Int)]) (·=b) 0 (λxs=>xs=upL k n) (λ_=>True) (λa=>a<+:upL k n) w:=by
 intro l u V W g h v o p;have C:ih W b 271 (I N n):=(g.block b t.lt).trans t;refine(jY (n:=0)).1 ?_;refine lo func239 rfl trivial ?_ rfl;simp only[ntmps239,jP,jt,jQ,jR,jS,jT,jU,jV,jW,jL,jM]
 gi_wp2
 gi_loopw [] (λwr=>W.heap.size<=wr.heap.size/\∃(a:List Nat) (j m:Nat),a.length+j=k/\m<2^j/\m<4611686018427387904/\a++upL j m=upL k n/\u a (·=b) wr/\ih wr b 271 (I N m))
  (λwr=>cellNat wr b)
 case atStart=>
  exact⟨jb _,[],k,n,by simp,hk,B,rfl,p,C⟩
 obtain⟨D,a,j,m,X,E,aa,c,x,d⟩:=hrel;have hc:=d.cell;have hf:=d.frozen
 by_cases F:1<m
 ·obtain⟨i,rfl,e,H⟩:=AQ F E
  obtain⟨fn,tmps,assign,body,K,y⟩:=o a m (·=b) wr x (by rintro _ rfl;exact d.lt) ⟨upL i (m/2),by rw[<-c,e];simp⟩;have q:hQ (a++upL (i+1) m=upL k n):=c;have M:hQ (upL (i+1) m=m::upL i (m/2)):=e;clear c e o p v g;have P:hQ (bi W.heap.size u):=h;clear h
  gi_wp2
  refine⟨rfl,y.mono ?_⟩;rintro e z (⟨rfl,Q,r,s⟩|⟨rfl,R,r,s⟩)
  ·have f:ih z b 271 (I N m):=(s b rfl).trans d
   have Yk:=f.cell;have Tn:=f.frozen;have S:=r.size;clear s r y K
   gi_wp2_with fail
   refine⟨trivial,rfl,(callsIn_wide.2 (Cd _ Y _)).mono ?_⟩;rintro e w' ⟨rfl,rfl⟩
   gi_wp2
   go_roundw
   case rel=>
    refine⟨by simpa using jl D S,a++[m],i,m/2,by simp;omega,H,by omega,by rw[<-q,M];simp,P.keep Q ?_,f.set _⟩;exact⟨rfl,rfl,rfl,by simp,λk _ U=>.inl (qt _ _ _ _ U)⟩
   have U:cellNat (z.setCell ⟨b,0,A⟩ (I N ((m:Int)/2))) b=m/2:=By (m:=m/2) (f.set _);rw[U,By d];omega
  gi_wp2
  refine pr (jD rfl _ _ _) rfl ?_;exact⟨⟨_,rfl⟩,.inr ⟨_,_,trivial,R⟩⟩
 have q:hQ (a++upL j m=upL k n):=c;clear c o p h v g
 gi_wp2
 refine⟨λ_ h=>(by cases h),?_⟩
 gi_wp2
 refine pr (jD rfl _ _ _) rfl ?_;exact⟨⟨_,rfl⟩,.inl ⟨_,_,by rw[<-q,BN Y,mb],x⟩⟩
def fG(n:Nat):Nat:=n/2
def gJ(n:Nat):Nat:=n^^^1
theorem FF(n:Nat)(h:n<1024)(w:hK):
 ja ic 205 #[I N n] w λe w'=>e=ii (I N (fG n:Nat))/\w=w':=
 Cd n Y w
theorem Gv(k:IntKind)(j:Nat)(f:j<=k.bits)(hk:∀n:Int,0<=n->n<2^j->k.wrap n=n)(a b:Nat)(c:a<2^j)(d:b<2^j):
 bits .xor k a b=((a^^^b:Nat):Int):=by
 have e:2^j<=2^k.bits:=qf G f;have g:a%2^k.bits=a:=ob (jw c e);have h:b%2^k.bits=b:=ob (jw d e);have i:a^^^b<2^j:=qM c d;simp only[bits,qN,qO,oi,g,h];exact hk _ (Int.natCast_nonneg _) (by exact_mod_cast i)
theorem MW(n:Nat)(h:n<1024):bits .xor .i64 (n:Int) 1=((gJ n:Nat):Int):=
 Gv .i64 10 G (λn a b=>IntWalk.i64_in n Y) n 1 Y Y
theorem IL(n:Nat)(h:n<1024)(w:hK):
 ja ic 180 #[I N n] w λe w'=>e=ii (I N (gJ n:Nat))/\w=w':=by
 go_enter func180,ntmps180
 go_wp2
 go_ret;exact⟨by rw[MW n h];rfl,rfl⟩
def iv(l:List Nat):List hZ:=l.map λn:Nat=>jm .i64 (n:Int)
def gG(d:Nat):List Nat:=(upL 10 (512+d)).map fG
def lI(d:Nat):List Nat:=(upL 10 (512+d)).map gJ
theorem FI(d:Nat):iv (gG d)=(upL 10 (512+d)).map λn=>jm .i64 (fG n:Nat):=by simp[iv,gG,Function.comp_def]
theorem N3(d:Nat):iv (lI d)=(upL 10 (512+d)).map λn=>jm .i64 (gJ n:Nat):=by simp[iv,lI,Function.comp_def]
def uA(w:hK)(v:hZ)(xs:List hZ):Prop:=
 (v=hH A 0 0/\xs=[])\/∃b a d,v=hH (T ⟨b,a,A⟩) xs.length d/\∀j c,xs[j]?=T c->w.cell? ⟨b,a+j,A⟩=T c
theorem uA.below{w w':hK}{v:hZ}{xs:List hZ}(h:uA w v xs)(d:hU w w w'):uA w' v xs:=by
 rcases h with h|⟨b,a,e,rfl,f⟩
 ·exact .inl h
 refine .inr ⟨b,a,e,rfl,λj g i=>?_⟩;have c:=f j g i;rw[d.cell (p:=⟨b,a+j,A⟩) (World.block_lt_of_cell? w ⟨b,a+j,A⟩ c)];exact c
end
section
open Go.RowKit Go.Shelf
attribute [local go_sem] Oper.semAt_some
theorem yV:(ic.info? 3).map (λi=>(i.zero,i.size,i.bytes))=T (T (I N 0),1,8):=by kernel_rfl
set_option maxRecDepth 100000 in
theorem LO(d:Nat)(V:d<512)(w:hK):
 ja ic 179 #[I N d,.func (.func 205) #[] #[]] w λe w'=>∃v,e=ii (je #[v,I N 0])/\
  w'.ownsRow w 3 1 v 9 ((upL 10 (512+d)).map λn=>jm .i64 (fG n:Nat))/\hU w w w':=by
 obtain⟨X,hi,Pe,aa,ad⟩:=qb yV;refine(jY (n:=0)).1 ?_;refine qj func179 rfl trivial ?_ rfl;simp only[ntmps179,jP,jt,jQ,jR,jS,jT,jU,jV,jW,jL,jM]
 gi_wp2_with fail
 refine⟨trivial,rfl,(callsIn_wide.2 (C0 _ Y Y _)).mono ?_⟩;rintro e w' ⟨rfl,rfl⟩
 gi_wp2_with fail
 refine⟨trivial,rfl,(callsIn_wide.2 (B7 _ _)).mono ?_⟩;rintro e w' ⟨rfl,rfl⟩
 gi_wp2_with fail
 have E:ih (((w.alloc (hF #[.func (.func 205) #[] #[]] 269)).alloc (hF #[hH A 0 0] 25)).alloc (hF #[I N (512+d)] 271)) w.heap.size 269 (.func (.func 205) #[] #[]):=
  ((Boxed.new w _ _).alloc _).alloc _
 have F:ih (((w.alloc (hF #[.func (.func 205) #[] #[]] 269)).alloc (hF #[hH A 0 0] 25)).alloc (hF #[I N (512+d)] 271)) (w.heap.size+1) 25 (hH A 0 0):=by
  have:=Boxed.new (w.alloc (hF #[.func (.func 205) #[] #[]] 269)) 25 (hH A 0 0);rw[jp]at this;exact this.alloc _
 have t:ih (((w.alloc (hF #[.func (.func 205) #[] #[]] 269)).alloc (hF #[hH A 0 0] 25)).alloc (hF #[I N (512+d)] 271)) (w.heap.size+1+1) 271 (I N ((512+d:Nat):Int)):=by
  have:=Boxed.new ((w.alloc (hF #[.func (.func 205) #[] #[]] 269)).alloc (hF #[hH A 0 0] 25)) 271 (I N ((512+d:Nat):Int));rw[jp,jp]at this;exact this
 have H:hU w w (((w.alloc (hF #[.func (.func 205) #[] #[]] 269)).alloc (hF #[hH A 0 0] 25)).alloc (hF #[I N (512+d)] 271)):=
  (((jh _ w).alloc (jb _) _).alloc av _).alloc (by simp;omega) _
 have a:(((w.alloc (hF #[.func (.func 205) #[] #[]] 269)).alloc (hF #[hH A 0 0] 25)).alloc (hF #[I N (512+d)] 271)).heap.size=w.heap.size+3:=by simp
 generalize(((w.alloc (hF #[.func (.func 205) #[] #[]] 269)).alloc (hF #[hH A 0 0] 25)).alloc (hF #[I N (512+d)] 271))=o at E F t H a⊢;have a3:hQ (o.heap.size=w.heap.size+3):=a;have a4:w.heap.size+3<=o.heap.size:=Y;clear a;refine nK (n:=0) (gf:=239) (lb:=#[jd (T ⟨w.heap.size+1+1,0,A⟩)]) rfl (p6 func239 ae rfl)
  (Bu (512+d) 10 Y Y (w.heap.size+1+1) o t) (jq _) (λ_=>rfl) (by rintro k rfl;exact t.lt)
  (λf Ψ W=>kK (w.heap.size+1) 25 w.heap.size 3 1 f.length (f.map λn=>jm .i64 (fG n:Nat)) (λ_=>True) Ψ W/\(ih W w.heap.size 269 (.func (.func 205) #[] #[])/\¬Ψ w.heap.size)/\(hU w w W/\∀k,Ψ k->w.heap.size<=k))
  (λ_ _ _ _=>False)
  ((oB o.heap.size (w.heap.size+1) 25 w.heap.size 3 1 (λf=>f.length) (λf:List Nat=>f.map λn=>jm .i64 (fG n:Nat)) (λ_ _=>True)).and ((gH _ _ _ (λ_=>_)).and (k7 _ _ w (jb _) Y)))
  (λ_=>eY _ _)
  ⟨⟨_,F,by omega,j0 _ _ _ _,by simp[j9],trivial⟩,⟨E,by omega⟩,H,by rintro k rfl;omega⟩
  (λx D _ _=>D={tmps:=#[I N d,.func (.func 205) #[] #[],jc,jd (T ⟨w,0,A⟩),jd (T ⟨w.heap.size+1,0,A⟩),I N 0,
   I N (512+d),I N x,je #[I N (512+d),I N 0],I N d,je #[I N (512+d),I N 0],I N (512+d),I N 0,I N 0,.bool false,jc,I N (512+d),
   .func (.func 239) #[] #[jd (T ⟨w.heap.size+1+1,0,A⟩)],I N x,jc,jc,jc,jc,jc,jc,jc],defers:=[]}) (eY _ _)
  ?assign ?body ?done ?stop
 case assign=>
  intro l f x Ψ r K c _ a
  gi_wp2
  exact a _ _ (jh _ _) c rfl
 case body=>
  rintro l f x Ψ D r ⟨⟨v,c,K,i,M,-⟩,⟨q,P⟩,m,Q⟩ rfl g Uk a5 Vf;obtain⟨hx,ba⟩:=Cv 10 (512+d) Y g;clear g;have u:=c.cell;have R:=q.cell;have y:=O m;have al:=m.size;clear m
  gi_wp2
  refine Er (λg=>g.cell? ⟨w.heap.size+1,0,A⟩=T v/\g.cell? ⟨w,0,A⟩=T (.func (.func 205) #[] #[])) 6
   [(0,true),(1,true),(2,true),(3,false),(4,false),(5,false),(6,false)] ae ae ae ae rfl (λ_ _ _ _ h=>h) (fun⟨_,_,h⟩=>h) ⟨u,R⟩ ?_
  refine cR (v:=?_) rfl rfl (λg j=>?_) ?_
  rotate_left
  ·obtain⟨k,s⟩:=j;go_simp;with_reducible rfl
  refine cR (v:=?_) rfl rfl (λg j=>?_) ?_
  rotate_left
  ·obtain⟨k,s⟩:=j;go_simp;with_reducible rfl
  refine cR (v:=?_) rfl rfl (λg j=>?_) ?_
  rotate_left
  ·go_simp;with_reducible rfl
  refine aS rfl (λz a=>?_);go_simp;refine(FF _ Y _).mono ?_;rintro e w' ⟨rfl,rfl⟩;refine a _ _ ⟨u,R⟩ λ_=>?_
  clear a;refine aS rfl (λz a=>?_);go_simp;have Qr:(r.alloc (hF #[I N (fG x:Nat)] 3)).cell? ⟨w.heap.size+1,0,A⟩=T v:=(c.alloc _).cell;have B:(r.alloc (hF #[I N (fG x:Nat)] 3)).cell? ⟨w,0,A⟩=T (.func (.func 205) #[] #[]):=(q.alloc _).cell;refine a _ _ ⟨Qr,B⟩ λ_=>?_
  clear a;refine aS rfl (λz a=>?_);refine step_append_lies _ rfl (.tmp 19) (.tmp 23) 25 rfl w.heap.size 3 X (I N 0) 1 8 qa hi Pe aa ad rfl G v f.length _ rfl (i.alloc _)
   ⟨r,0,A⟩ 1 1 [I N (fG x:Nat)] rfl rfl (cell_one_new _ _ _) (by simp[j1]) Y (by unfold jC;omega) Y (by simp;omega) _ rfl ?_
  intro g k S Wh Wg au bb;have C:=grownBy_drew Wg;obtain⟨s,ZM⟩:=oq (B0:=o.heap.size) c G i al Y K M Uk Wh C (by
   intro j U;simp only[j9,Option.some.injEq]at U;subst U;simpa using au)
  have j:ih S w.heap.size 269 (.func (.func 205) #[] #[]):=(q.alloc _).kept C (by have:=q.not_row (e:=3) G i;exact this);have U:ih S (w.heap.size+1) 25 v:=(c.alloc _).kept C (by have:=c.not_row (e:=3) G i;exact this);have a1:=U.cell;have bc:=U.frozen;have a2:=j.cell;refine a _ _ ⟨a1,a2⟩ λ_=>?_
  clear a;refine gq rfl (λz a=>?_);go_simp;refine a _ _ ⟨⟨s.1,s.2.1.mono (jq _),s.2.2⟩,?_,⟨j.other Y _,P⟩,y.trans s.2.1,Q⟩;obtain⟨z,b1,b2,b3,b4,-⟩:=ZM;exact⟨z,b1,b2,by simpa using b3,b4,trivial⟩
 case done=>
  rintro D xs Ψ W s rfl ⟨⟨v,c,K,i,M,-⟩,⟨q,P⟩,m,Q⟩ a;have u:=c.cell;have x:=c.frozen;have y:=O m;clear m;have j:=rN d V;rw[j]at i;clear j;obtain⟨g,k,rfl⟩:=ownsRow_succ i
  gi_wp2
  refine⟨by simp,.inl ⟨_,_,rfl,j6 (b:=D) (ds:=[]) ?_,?_⟩⟩
  ·exact(KeepsOthers.setCell W _ _).same D _ a rfl
  have j:ih (W.setCell ⟨w.heap.size+1,0,A⟩ (hH (T ⟨g,0,A⟩) 9 k)) (w.heap.size+1) 25 (hH (T ⟨g,0,A⟩) 9 k):=c.set _;have l:(W.setCell ⟨w.heap.size+1,0,A⟩ (hH (T ⟨g,0,A⟩) 9 k)).heap[D]?=T (.deferred (T [])):=(KeepsOthers.setCell W _ _).same D _ a rfl;have m:(W.setCell ⟨w.heap.size+1,0,A⟩ (hH (T ⟨g,0,A⟩) 9 k)).ownsRow w.heap.size 3 1 (hH (T ⟨g,0,A⟩) 9 k) 9 ((upL 10 (512+d)).map λn=>jm .i64 (fG n:Nat)):=
   i.kept (jZ W _ _) (.inr (c.not_row (e:=3) G i).symm)
  have r:ih ((W.setCell ⟨w.heap.size+1,0,A⟩ (hH (T ⟨g,0,A⟩) 9 k)).putObj D (.deferred A)) (w.heap.size+1) 25 (hH (T ⟨g,0,A⟩) 9 k):=
   (qe Y).trans j
  have B:=r.cell;refine⟨je #[hH (T ⟨g,0,A⟩) 9 k,I N 0],by simp[results,results179,go_sem,B],_,rfl,qC m _ l rfl,?_⟩;exact(y.setCell (p:=⟨w.heap.size+1,0,A⟩) av _).trans (gZ Y)
 intro D c f Ψ W _ _ h;exact h.elim
set_option maxRecDepth 100000 in
theorem Fx(d:Nat)(V:d<512)(w:hK):
 ja ic 179 #[I N d,.func (.func 180) #[] #[]] w λe w'=>∃v,e=ii (je #[v,I N 0])/\
  w'.ownsRow w 3 1 v 9 ((upL 10 (512+d)).map λn=>jm .i64 (gJ n:Nat))/\hU w w w':=by
 obtain⟨X,hi,Pe,aa,ad⟩:=qb yV;refine(jY (n:=0)).1 ?_;refine qj func179 rfl trivial ?_ rfl;simp only[ntmps179,jP,jt,jQ,jR,jS,jT,jU,jV,jW,jL,jM]
 gi_wp2_with fail
 refine⟨trivial,rfl,(callsIn_wide.2 (C0 _ Y Y _)).mono ?_⟩;rintro e w' ⟨rfl,rfl⟩
 gi_wp2_with fail
 refine⟨trivial,rfl,(callsIn_wide.2 (B7 _ _)).mono ?_⟩;rintro e w' ⟨rfl,rfl⟩
 gi_wp2_with fail
 have E:ih (((w.alloc (hF #[.func (.func 180) #[] #[]] 269)).alloc (hF #[hH A 0 0] 25)).alloc (hF #[I N (512+d)] 271)) w.heap.size 269 (.func (.func 180) #[] #[]):=
  ((Boxed.new w _ _).alloc _).alloc _
 have F:ih (((w.alloc (hF #[.func (.func 180) #[] #[]] 269)).alloc (hF #[hH A 0 0] 25)).alloc (hF #[I N (512+d)] 271)) (w.heap.size+1) 25 (hH A 0 0):=by
  have:=Boxed.new (w.alloc (hF #[.func (.func 180) #[] #[]] 269)) 25 (hH A 0 0);rw[jp]at this;exact this.alloc _
 have t:ih (((w.alloc (hF #[.func (.func 180) #[] #[]] 269)).alloc (hF #[hH A 0 0] 25)).alloc (hF #[I N (512+d)] 271)) (w.heap.size+1+1) 271 (I N ((512+d:Nat):Int)):=by
  have:=Boxed.new ((w.alloc (hF #[.func (.func 180) #[] #[]] 269)).alloc (hF #[hH A 0 0] 25)) 271 (I N ((512+d:Nat):Int));rw[jp,jp]at this;exact this
 have H:hU w w (((w.alloc (hF #[.func (.func 180) #[] #[]] 269)).alloc (hF #[hH A 0 0] 25)).alloc (hF #[I N (512+d)] 271)):=
  (((jh _ w).alloc (jb _) _).alloc av _).alloc (by simp;omega) _
 have a:(((w.alloc (hF #[.func (.func 180) #[] #[]] 269)).alloc (hF #[hH A 0 0] 25)).alloc (hF #[I N (512+d)] 271)).heap.size=w.heap.size+3:=by simp
 generalize(((w.alloc (hF #[.func (.func 180) #[] #[]] 269)).alloc (hF #[hH A 0 0] 25)).alloc (hF #[I N (512+d)] 271))=o at E F t H a⊢;have a3:hQ (o.heap.size=w.heap.size+3):=a;have a4:w.heap.size+3<=o.heap.size:=Y;clear a;refine nK (n:=0) (gf:=239) (lb:=#[jd (T ⟨w.heap.size+1+1,0,A⟩)]) rfl (p6 func239 ae rfl)
  (Bu (512+d) 10 Y Y (w.heap.size+1+1) o t) (jq _) (λ_=>rfl) (by rintro k rfl;exact t.lt)
  (λf Ψ W=>kK (w.heap.size+1) 25 w.heap.size 3 1 f.length (f.map λn=>jm .i64 (gJ n:Nat)) (λ_=>True) Ψ W/\(ih W w.heap.size 269 (.func (.func 180) #[] #[])/\¬Ψ w.heap.size)/\(hU w w W/\∀k,Ψ k->w.heap.size<=k))
  (λ_ _ _ _=>False)
  ((oB o.heap.size (w.heap.size+1) 25 w.heap.size 3 1 (λf=>f.length) (λf:List Nat=>f.map λn=>jm .i64 (gJ n:Nat)) (λ_ _=>True)).and ((gH _ _ _ (λ_=>_)).and (k7 _ _ w (jb _) Y)))
  (λ_=>eY _ _)
  ⟨⟨_,F,by omega,j0 _ _ _ _,by simp[j9],trivial⟩,⟨E,by omega⟩,H,by rintro k rfl;omega⟩
  (λx D _ _=>D={tmps:=#[I N d,.func (.func 180) #[] #[],jc,jd (T ⟨w,0,A⟩),jd (T ⟨w.heap.size+1,0,A⟩),I N 0,
   I N (512+d),I N x,je #[I N (512+d),I N 0],I N d,je #[I N (512+d),I N 0],I N (512+d),I N 0,I N 0,.bool false,jc,I N (512+d),
   .func (.func 239) #[] #[jd (T ⟨w.heap.size+1+1,0,A⟩)],I N x,jc,jc,jc,jc,jc,jc,jc],defers:=[]}) (eY _ _)
  ?assign ?body ?done ?stop
 case assign=>
  intro l f x Ψ r K c _ a
  gi_wp2
  exact a _ _ (jh _ _) c rfl
 case body=>
  rintro l f x Ψ D r ⟨⟨v,c,K,i,M,-⟩,⟨q,P⟩,m,Q⟩ rfl g Uk a5 Vf;obtain⟨hx,ba⟩:=Cv 10 (512+d) Y g;clear g;have u:=c.cell;have R:=q.cell;have y:=O m;have al:=m.size;clear m
  gi_wp2
  refine Er (λg=>g.cell? ⟨w.heap.size+1,0,A⟩=T v/\g.cell? ⟨w,0,A⟩=T (.func (.func 180) #[] #[])) 6
   [(0,true),(1,true),(2,true),(3,false),(4,false),(5,false),(6,false)] ae ae ae ae rfl (λ_ _ _ _ h=>h) (fun⟨_,_,h⟩=>h) ⟨u,R⟩ ?_
  refine cR (v:=?_) rfl rfl (λg j=>?_) ?_
  rotate_left
  ·obtain⟨k,s⟩:=j;go_simp;with_reducible rfl
  refine cR (v:=?_) rfl rfl (λg j=>?_) ?_
  rotate_left
  ·obtain⟨k,s⟩:=j;go_simp;with_reducible rfl
  refine cR (v:=?_) rfl rfl (λg j=>?_) ?_
  rotate_left
  ·go_simp;with_reducible rfl
  refine aS rfl (λz a=>?_);go_simp;refine(IL _ Y _).mono ?_;rintro e w' ⟨rfl,rfl⟩;refine a _ _ ⟨u,R⟩ λ_=>?_
  clear a;refine aS rfl (λz a=>?_);go_simp;have Qr:(r.alloc (hF #[I N (gJ x:Nat)] 3)).cell? ⟨w.heap.size+1,0,A⟩=T v:=(c.alloc _).cell;have B:(r.alloc (hF #[I N (gJ x:Nat)] 3)).cell? ⟨w,0,A⟩=T (.func (.func 180) #[] #[]):=(q.alloc _).cell;refine a _ _ ⟨Qr,B⟩ λ_=>?_
  clear a;refine aS rfl (λz a=>?_);refine step_append_lies _ rfl (.tmp 19) (.tmp 23) 25 rfl w.heap.size 3 X (I N 0) 1 8 qa hi Pe aa ad rfl G v f.length _ rfl (i.alloc _)
   ⟨r,0,A⟩ 1 1 [I N (gJ x:Nat)] rfl rfl (cell_one_new _ _ _) (by simp[j1]) Y (by unfold jC;omega) Y (by simp;omega) _ rfl ?_
  intro g k S Wh Wg au bb;have C:=grownBy_drew Wg;obtain⟨s,ZM⟩:=oq (B0:=o.heap.size) c G i al Y K M Uk Wh C (by
   intro j U;simp only[j9,Option.some.injEq]at U;subst U;simpa using au)
  have j:ih S w.heap.size 269 (.func (.func 180) #[] #[]):=(q.alloc _).kept C (by have:=q.not_row (e:=3) G i;exact this);have U:ih S (w.heap.size+1) 25 v:=(c.alloc _).kept C (by have:=c.not_row (e:=3) G i;exact this);have a1:=U.cell;have bc:=U.frozen;have a2:=j.cell;refine a _ _ ⟨a1,a2⟩ λ_=>?_
  clear a;refine gq rfl (λz a=>?_);go_simp;refine a _ _ ⟨⟨s.1,s.2.1.mono (jq _),s.2.2⟩,?_,⟨j.other Y _,P⟩,y.trans s.2.1,Q⟩;obtain⟨z,b1,b2,b3,b4,-⟩:=ZM;exact⟨z,b1,b2,by simpa using b3,b4,trivial⟩
 case done=>
  rintro D xs Ψ W s rfl ⟨⟨v,c,K,i,M,-⟩,⟨q,P⟩,m,Q⟩ a;have u:=c.cell;have x:=c.frozen;have y:=O m;clear m;have j:=rN d V;rw[j]at i;clear j;obtain⟨g,k,rfl⟩:=ownsRow_succ i
  gi_wp2
  refine⟨by simp,.inl ⟨_,_,rfl,j6 (b:=D) (ds:=[]) ?_,?_⟩⟩
  ·exact(KeepsOthers.setCell W _ _).same D _ a rfl
  have j:ih (W.setCell ⟨w.heap.size+1,0,A⟩ (hH (T ⟨g,0,A⟩) 9 k)) (w.heap.size+1) 25 (hH (T ⟨g,0,A⟩) 9 k):=c.set _;have l:(W.setCell ⟨w.heap.size+1,0,A⟩ (hH (T ⟨g,0,A⟩) 9 k)).heap[D]?=T (.deferred (T [])):=(KeepsOthers.setCell W _ _).same D _ a rfl;have m:(W.setCell ⟨w.heap.size+1,0,A⟩ (hH (T ⟨g,0,A⟩) 9 k)).ownsRow w.heap.size 3 1 (hH (T ⟨g,0,A⟩) 9 k) 9 ((upL 10 (512+d)).map λn=>jm .i64 (gJ n:Nat)):=
   i.kept (jZ W _ _) (.inr (c.not_row (e:=3) G i).symm)
  have r:ih ((W.setCell ⟨w.heap.size+1,0,A⟩ (hH (T ⟨g,0,A⟩) 9 k)).putObj D (.deferred A)) (w.heap.size+1) 25 (hH (T ⟨g,0,A⟩) 9 k):=
   (qe Y).trans j
  have B:=r.cell;refine⟨je #[hH (T ⟨g,0,A⟩) 9 k,I N 0],by simp[results,results179,go_sem,B],_,rfl,qC m _ l rfl,?_⟩;exact(y.setCell (p:=⟨w.heap.size+1,0,A⟩) av _).trans (gZ Y)
 intro D c f Ψ W _ _ h;exact h.elim
theorem NK(d:Nat)(a:d<512)(w:hK):
 ja ic 162 #[I N d] w λe w'=>∃v,e=ii (je #[v,I N 0])/\
  w'.ownsRow w 3 1 v 9 (iv (gG d))/\hU w w w':=by
 rw[FI]
 go_enter func162,ntmps162
 go_wp2_with fail
 refine(LO d a _).mono ?_;rintro e w' ⟨v,rfl,b,c⟩
 go_wp2
 go_ret2;exact⟨v,rfl,b,c⟩
theorem GE(d:Nat)(a:d<512)(w:hK):
 ja ic 134 #[I N d] w λe w'=>∃v,e=ii (je #[v,I N 0])/\
  w'.ownsRow w 3 1 v 9 (iv (lI d))/\hU w w w':=by
 rw[N3]
 go_enter func134,ntmps134
 go_wp2_with fail
 refine(Fx d a _).mono ?_;rintro e w' ⟨v,rfl,b,c⟩
 go_wp2
 go_ret2;exact⟨v,rfl,b,c⟩
end
section
open Go.RowKit Go.Sort
theorem zz(v:hZ)(xs:List Int)(base b:Nat)(w:hK)(h:w.ownsRow base 3 1 v xs.length (xs.map (jm .i64)))(o:b<=base)(p:xs.length<=1000000):
 ja ic 163 #[v] w λe w'=>e=ii (je #[])/\w'.ownsRow base 3 1 v xs.length ((xs.mergeSort leI).map (jm .i64))/\hU b w w':=by
 rcases h.2 with⟨rfl,c⟩|⟨g,d,q,rfl,f,a,i,j,l,m⟩
 ·refine(Tryzx.slices_Sort_int_none A 0 w).mono ?_
  rintro e w' ⟨rfl,rfl⟩;have:xs=[]:=qg c;subst this;exact⟨rfl,by simpa using h,jh _ _⟩
 refine(Tryzx.slices_Sort_int g 0 d xs w (holds_of_block_i a (by simpa using m)) (jr.1 a).1 Y).mono ?_;rintro e w' ⟨rfl,n,os,rfl⟩;exact⟨rfl,ownsRow_sorted_i av f a i j l,(jh b w).grown (grownBy_sorted_i _) (by have:=(jr.1 a).1;omega) (λk e=>by cases e;omega)⟩
theorem BK{gf:Nat}{lb:Array hZ}(d:∀args w,(callFunc gf args).run ic w=.ok (.enter gf args) w){c:Nat->Prop}{n₀:Nat}{S m V:List Int->Prop}{w:hK}
 (f:dI ic gf lb (λx:Int=>#[I N x]) c n₀ S m V w) (g:n₀<=w.heap.size) (h:∀k,c k->k<w.heap.size) (i:∀a,V a->a.length<=1000000) (a:∀xs,S xs->xs.length<=1000000) (b:Nat) (j:b<=w.heap.size) (l:∀k,c k->b<=k):
 ja ic 167 #[.func (.func gf) #[] lb] w λe w'=>∃v xs,e=ii v/\S xs/\w'.ownsRow w 3 1 v xs.length ((xs.mergeSort leI).map (jm .i64))/\hU b w w':=by
 have k:=O (Ai d f g h i b j l);have n:=O a;clear d f g h i l a
 go_enter func167,ntmps167
 go_wp2_with fail
 refine k.mono ?_;rintro e g ⟨v,xs,rfl,a,d,f⟩;have h:=O (zz v xs w.heap.size b g d j (n xs a));have i:=O f;clear d f
 go_wp2_with fail
 refine h.mono ?_;rintro e p ⟨rfl,d,f⟩;have l:=O d;have o:=O f;clear d f
 go_wp2
 go_ret;exact⟨v,xs,rfl,a,l,i.trans o⟩
theorem Fw(v:hZ)(xs:List Int)(base a:Nat)(w:hK)(h:w.ownsRow base 3 1 v xs.length (xs.map (jm .i64)))(y:a<=base)(z:xs.length<=1000000):
 ja ic 164 #[v] w λe w'=>∃c,e=ii c/\w'.ownsRow base 3 1 c (Lib.compact xs).length ((Lib.compact xs).map (jm .i64))/\hU a w w':=by
 rcases h.2 with⟨rfl,o⟩|⟨g,d,p,rfl,r,b,B,s,f,t⟩
 ·refine(Tryzx.slices_Compact_int_empty A 0 w).mono ?_
  rintro e w' ⟨rfl,rfl⟩;have:xs=[]:=qg o;subst this;exact⟨_,rfl,by simpa [Lib.compact,Lib.compactUpTo]using h,jh _ _⟩
 have C:=(jr.1 b).1;refine(Tryzx.slices_Compact_int g 0 d xs w (holds_of_block_i b (by simpa using t)) Y Y).mono ?_;rintro e w' ⟨rfl,q,rfl⟩;have u:(Lib.compact xs).length<=xs.length:=by
  unfold Lib.compact Lib.compactUpTo;rw[ki];exact jl (qu _ _) av
 have x:∀W:hK,grow W #[]=W:=λW=>by simp[grow]
 have i:=heap_sorted_i (n:=q) (os:=#[]) (Lib.compact xs++nn (xs.length-(Lib.compact xs).length) 0).toArray b;have j:=grownBy_sorted_i (w:=w) (g:=g) (n:=q) (os:=#[]) (Lib.compact xs++nn (xs.length-(Lib.compact xs).length) 0).toArray;rw[x]at i j;refine⟨_,rfl,⟨by simp,.inr ⟨g,d,_,rfl,r,i,by omega,s,by simp[putCells,f],?_⟩⟩,(jh a w).grown j Y (λk e=>by cases e;omega)⟩;have k:(Lib.compact xs++nn (xs.length-(Lib.compact xs).length) 0).length=xs.length:=by simp;omega
 have l:=take_putCells_i p (Lib.compact xs++nn (xs.length-(Lib.compact xs).length) 0) (by rw[k,f];omega);rw[k]at l;have m:=congrArg (List.take (Lib.compact xs).length) l;rw[List.take_take,qv u]at m;rw[qw,m,<-List.map_take,List.take_left']
 rfl
end
theorem yq(t:List (Int×Int))(a p:Int):fl (t++[(a,p)])=fl t++if 512<=a/\a<=1023 then [a-512]else []:=by
 unfold fl;rw[List.filter_append,j4]
 congr 1
 by_cases h:512<=a/\a<=1023
 ·simp[h.1,h.2]
 rw[if_neg h];simp only[List.filter_cons,List.filter_nil];rw[if_neg (by simpa using h)]
 rfl
theorem tO(t:List (Int×Int)):(fl t).length<=t.length:=by
 unfold fl;rw[ki];exact qu _ _
theorem wX{w wr:hK}{t:List (Int×Int)}{g o k:Nat}(i:∀j,j<t.length->w.cell? ⟨g,o+j*2,A⟩=T (I N (t.getD j (0,0)).1)/\w.cell? ⟨g,o+j*2+1,A⟩=T (I N (t.getD j (0,0)).2))
 (d:∀x∈t,I64 x.1/\I64 x.2) (hk:k<t.length) (e:hU w w wr):
 ∃a p,wr.cell? ⟨g,o+k*2,A⟩=T (I N a)/\wr.cell? ⟨g,o+k*2+1,A⟩=T (I N p)/\I64 a/\I64 p/\t.getD k (0,0)=(a,p)/\t.take (k+1)=t.take k++[(a,p)]/\(a,p)∈t:=by
 obtain⟨f,h⟩:=i k hk;have b:t.getD k (0,0)=t[k]:=by simp[jX,hk]
 have c:t[k]∈t:=oj hk;refine⟨t[k].1,t[k].2,?_,?_,(d _ c).1,(d _ c).2,b,by rw[j7 hk],c⟩
 ·rw[<-b];exact bp f (e.block g (dR f))
 rw[<-b];exact bp h (e.block g (dR h))
theorem pJ(t:List (Int×Int))(v:hZ)(w:hK)(f:aT w v t)(u:t.length<=1000000):
 ja ic 119 #[jg #[v]] w λe w'=>∃b,e=ii b/\w'.ownsRow w 3 1 b (aU t).length ((aU t).map (jm .i64))/\hU w w w':=by
 obtain⟨p,c,rfl,F,j,d,g⟩:=f;obtain⟨H,K,M,P,Q⟩:=qb Ab
 go_enter func119,ntmps119
 go_wp2_with fail
 obtain⟨x,a⟩:=J (w.alloc (hF #[hH p t.length c] 52));have i:hU w w x:=by rw[a];exact(jh _ w).alloc (jb _) _
 have R:=O (j0 x w.heap.size 3 1);rw[<-a];clear a;have S:=O i;have U:=O d;have V:=O g;have y:=O (λk=>jl (tO (t.take k)) (by rw[List.length_take];exact Nat.min_le_left k _));obtain⟨n,a⟩:=J t.length;have h:=O a;rw[<-a]at u F⊢;clear i d g a j
 go_loopw [2,8] (λb i wr=>∃k:Nat,i=I N k/\k<=n/\hQ (wr.ownsRow w 3 1 b (fl (t.take k)).length ((fl (t.take k)).map (jm .i64)))/\hQ (hU w w wr)) (λ_ i _=>n-(ji i).toNat)
 case atStart=>exact⟨0,rfl,jq _,R,S⟩
 obtain⟨k,rfl,hk,z,d⟩:=hrel
 by_cases W:k<n
 ·have X:=ap ((k:Int)<(n:Int))
  have PX:=ap (k<n);obtain⟨g,o,rfl,j⟩:=U.out (by rw[<-h];omega);obtain⟨a,m,c1,c2,B,q,-,f,-⟩:=wX j V.out (by rw[<-h];exact W) d;have r:=O f;have al:=y k;have s:=O (d.alloc d.size (hF #[I N a,I N m] 235));have i:=O (z.alloc (hF #[I N a,I N m] 235));have au:w.heap.size<=wr.heap.size:=d.size;clear j f B q
  by_cases h5:512<=a
  ·have aa:=ap (512<=a)
   by_cases h6:a<=1023
   ·have ad:=ap (a<=1023)
    have C:=O (cell_one_new (wr.alloc (hF #[I N a,I N m] 235)) (I N (a-512)) 3);rw[jp]at C
    go_wp2_with (at_builtin;refine qD _ rfl _ _ 25 rfl w.heap.size 3 H (I N 0) 1 8 qa K M P Q rfl G _ _ _ rfl (i.alloc _) ⟨wr.heap.size+1,0,A⟩ 1 1 [I N (a-512)] rfl rfl C (by simp[j1]) (by unfold jC;omega) Y (by simp;omega) ?_;intro v' B D E _)
    have Qp:=O D;have l:=s.out;have OZ:=O ((Below.alloc l l.size (hF #[I N (a-512)] 3)).grown E (by have:=l.size;simp;omega) (λj hj=>(i.lt j hj).1));clear D E l;refine⟨⟨k+1,by go_num,by omega,?_,OZ⟩,by simp only[ji];omega⟩;rw[r,yq,if_pos ⟨h5,h6⟩,jA,j4];exact Qp
   have ad:=ar (a<=1023)
   go_wp2
   refine⟨⟨k+1,by go_num,by omega,?_,s⟩,by simp only[ji];omega⟩;rw[r,yq,if_neg Y,mb];exact i
  have aa:=ar (512<=a)
  go_wp2
  refine⟨⟨k+1,by go_num,by omega,?_,s⟩,by simp only[ji];omega⟩;rw[r,yq,if_neg Y,mb];exact i
 have X:=ar ((k:Int)<(n:Int));have PX:=ar (k<n);obtain rfl:k=n:=Y;have a:=z.out;rw[h,qI]at a;have i:=y k;have g:(fl t).length<=1000000:=jl (tO t) (by rw[<-h];exact u);have j:=O (zz _ (fl t) w.heap.size w.heap.size wr a (jb _) g);have l:=O g;clear a i g
 go_wp2_with fail
 refine j.mono ?_;rintro e q ⟨rfl,g,i⟩;have a:((fl t).mergeSort leI).length=(fl t).length:=qP _;have m:=O (Fw _ ((fl t).mergeSort leI) w.heap.size w.heap.size q (by rw[a];exact g) (jb _) (by rw[a];exact l));have o:=O i;clear g i a
 go_wp2_with fail
 refine m.mono ?_;rintro e s ⟨b,rfl,a,g⟩;have i:=O a;have r:=O g;clear a g
 go_wp2
 go_ret;exact⟨b,rfl,i,d.trans (o.trans r)⟩
theorem FC(t:List (Int×Int))(v:hZ)(x:Int)(w:hK)(d:aT w v t)(h:t.length<=1000000)(g:I64 x):
 ja ic 42 #[jg #[v],I N x] w λe w'=>e=ii (je #[I N ((ofF t x).getD 0),.bool (ofF t x).isSome])/\hU w w w':=by
 have a:hU w w (w.alloc (hF #[v] 52)):=(jh _ w).alloc (jb _) _;have i:=O (uK t v (w.alloc (hF #[v] 52)) (d.below a) h);obtain⟨p,c,rfl,-,-,-,-⟩:=d;have j:=O g;have k:=O a;obtain⟨f,b⟩:∃f,ofF t x=f:=⟨_,rfl⟩;rw[b];have l:=O b;clear g a b
 go_enter func42,ntmps42
 go_wp2_with fail
 refine i.mono ?_;rintro e q ⟨b,rfl,m,a,g⟩;have n:=O a;have o:=ac k g;clear a g m
 go_wp2_with (at_lookup;refine sF (he:=jf) rfl _ _ 170 rfl jf jO (ng _) b t.length _ rfl n x rfl j ?_;rw[l])
 go_ret2;exact⟨rfl,o⟩
theorem nf{w:hK}{B:Nat}{v:hZ}{l:List Int}(h:w.ownsRow B 3 1 v l.length (l.map (jm .i64))):
 ∃p c,v=hH p l.length c/\l.length<=c/\(0<l.length->∃g,p=T ⟨g,0,A⟩/\B<=g/\g<w.heap.size/\∀j,j<l.length->w.cell? ⟨g,j,A⟩=T (I N (l.getD j 0))):=by
 rcases h.2 with⟨rfl,d⟩|⟨g,f,n,rfl,i,a,k,o,q,m⟩
 ·exact⟨A,0,by rw[d],by omega,λh=>by omega⟩
 refine⟨_,f,rfl,k,λ_=>⟨g,rfl,i,(jr.1 a).1,λj b=>?_⟩⟩;have e:=congrArg (λz:List hZ=>z[j]?) m;simp only[qw]at e;rw[qQ b]at e;unfold jB;rw[a];simp only[qS,qT,if_false];rw[<-qU,e];simp[jX,b]
def dm(a:List Int)(y:Int):Option Bool:=if y∈a then T true else A
theorem uN(a:List Int)(z:Int):(λy=>if y=z then T true else dm a y)=dm (a++[z]):=by
 funext y
 unfold dm
 by_cases h:y=z
 ·simp[h]
 simp[h]
def aR(d:Int):List Int:=(gG d.toNat).map λn:Nat=>(n:Int)
def eJ(a:List Int):List Int:=a.flatMap λd=>(512+d)::aR d
theorem Iz(a:List Int)(d:Int):eJ (a++[d])=(eJ a++[512+d])++aR d:=by
 simp[eJ,List.flatMap_append]
theorem rc(d:Int)(a:0<=d)(b:d<512):(aR d).length=9:=by
 unfold aR gG;rw[ki,ki,rN _ Y]
theorem vU(d:Int)(c:0<=d)(e:d<512):∀x∈aR d,0<=x/\x<1024:=by
 intro x a;unfold aR gG at a;simp only[n0]at a;obtain⟨n,⟨m,b,rfl⟩,rfl⟩:=a;have:=uR 10 (512+d.toNat) m b;unfold fG;omega
theorem zp(d:Int)(a:0<=d)(b:d<512)(w:hK):
 ja ic 162 #[I N d] w λe w'=>∃v,e=ii (je #[v,I N 0])/\w'.ownsRow w 3 1 v (aR d).length ((aR d).map (jm .i64))/\hU w w w':=by
 obtain⟨n,rfl⟩:=qV a;refine(NK n Y w).mono ?_;rintro e w' ⟨v,rfl,c,f⟩;refine⟨v,rfl,?_,f⟩;rw[rc _ a b];have e:iv (gG n)=(aR (n:Int)).map (jm .i64):=by simp[iv,aR,Function.comp_def]
 rw[<-e];exact c
def kP(t:List (Int×Int))(U:List Int)(i:Nat):Prop:=
 (t.getD i (0,0)).1<1\/1023<(t.getD i (0,0)).1\/(0<i/\(t.getD i (0,0)).1<=(t.getD (i-1) (0,0)).1)\/¬aN (t.getD i (0,0)).2\/(t.getD i (0,0)).1∉U
def Hd(t:List (Int×Int)):Prop:=∃i,i<t.length/\kP t (eJ (aU t)) i
noncomputable def cK(t:List (Int×Int)):Int:=by classical exact if Hd t then 210 else 0
theorem uM{B:Nat}{a w:hK}(h:hU B a w)(n:Nat):hU B a (w.drewN n):=h.trans ⟨rfl,rfl,rfl,jb _,λ_ _=>rfl⟩
theorem lD{x y:Int}(h:x=y):Ending.returned (I N y)=ii (I N x):=by rw[h]
theorem yP{t:List (Int×Int)}{U:List Int}{k:Nat}{a q:Int}(h:t.getD k (0,0)=(a,q))(e:1<=a)(f:a<=1023)(b:¬(0<k/\a<=(t.getD (k-1) (0,0)).1))(c:aN q)(d:a∈U):¬kP t U k:=by
 unfold kP;rw[h];rintro(x|x|x|x|x)
 ·exact absurd x (by show ¬a<1;omega)
 ·exact absurd x (by show ¬1023<a;omega)
 ·exact b x
 ·exact x c
 exact x d
theorem good_step{t:List (Int×Int)}{U:List Int}{k:Nat}(h:∀j,j<k->¬kP t U j)(hk:¬kP t U k):∀j,j<k+1->¬kP t U j:=by
 intro j b
 rcases mz j k with a|a
 ·exact h j a
 obtain rfl:j=k:=Y;exact hk
theorem yf(w:hK):(zeroValue 4).run ic w=.ok (.bool false) w:=by kernel_rfl
theorem lM{t:List (Int×Int)}{k:Nat}{U:List Int}(a:U=eJ (aU t))(hk:k<t.length)(h:kP t U k):cK t=210:=by
 unfold cK;rw[if_pos];subst a;exact⟨k,hk,h⟩
theorem yQ{t:List (Int×Int)}{U:List Int}(a:U=eJ (aU t))(h:∀j,j<t.length->¬kP t U j):cK t=0:=by
 unfold cK;rw[if_neg];subst a;rintro⟨i,b,c⟩;exact h i b c
theorem tE(t:List (Int×Int))(v:hZ)(w:hK)(ht:aT w v t)(hl:t.length<=1000000):
 ja ic 115 #[jg #[v]] w λe w'=>e=ii (I N (cK t))/\hU w w w':=by
 have a:hU w w ((w.alloc (hF #[v] 52)).alloc (.map #[] 0)):=((jh _ w).alloc (jb _) _).alloc av _;have j:=O (pJ t v ((w.alloc (hF #[v] 52)).alloc (.map #[] 0)) (ht.below a) hl);have b:aH (fM jE) 3 ((w.alloc (hF #[v] 52)).alloc (.map #[] 0)) (w.heap.size+1) 0 (λ_=>A):=by
  have h:=aH.made (fM jE) 3 (w.alloc (hF #[v] 52));rw[jp]at h;exact h
 have X:=O ht;obtain⟨p,c,rfl,hc,-,-,-⟩:=ht;obtain⟨W0,i⟩:=J ((w.alloc (hF #[hH p t.length c] 52)).alloc (.map #[] 0));have k:W0.heap[w.heap.size]?=T (hF #[hH p t.length c] 52 (0,0)):=by
  rw[i];exact(jo _ _ _ av).trans (jn w _)
 have d:=@run_makeMap ic
 go_enter func115,ntmps115
 go_wp2_with fail
 rw[<-i]at j a b⊢;clear d;refine j.mono ?_;rintro e w1 ⟨bo,rfl,ad,g⟩;obtain⟨pu,cu,rfl,ba,q⟩:=nf ad;have D:=O q;have F:=O (b.below g b.lt);have Qm:=O ((g.block _ (jr.1 k).1).trans k);have OZ:=O (a.trans (g.mono a.size));have bd:w.heap.size+1<w1.heap.size:=jw b.lt g.size;obtain⟨B,m⟩:=J (w.heap.size+1);rw[<-m]at F bd⊢;have bq:w.heap.size<B:=Y;have br:B<W0.heap.size:=by rw[i,m];simp
 have Ty:=O (jl (show(aU t).length<=(fl t).length by
  unfold aU Lib.compact Lib.compactUpTo;rw[ki];exact jl (qu _ _) av) (tO t))
 have H:=O (λd=>(mq t d).1);obtain⟨M,o⟩:=J (aU t);rw[<-o]at D Ty H ba⊢;have bf:=O o;obtain⟨n,f⟩:=J M.length;have bs:n<=1000000:=by rw[f];exact jl Ty hl
 have r:=O f;rw[<-f]at ba⊢;clear i k a b ad g q j m f o
 go_wp2_with fail
 go_loopw [16] (λi wr=>∃k:Nat,i=I N k/\k<=n/\hQ (aH (fM jE) 3 wr B (k*10) (dm (eJ (M.take k))))/\hQ (hU w w wr)/\hQ (∀b,b<w1.heap.size->b≠B->wr.heap[b]?=w1.heap[b]?)/\w1.heap.size<=wr.heap.size) (λi _=>n-(ji i).toNat)
 case atStart=>exact⟨0,rfl,jq _,O (F.congr (λx _=>by simp[eJ,dm])),OZ,O (λ_ _ _=>rfl),jb _⟩
 obtain⟨k,rfl,hk,HM,HB,q,a5⟩:=hrel
 by_cases V:k<n
 ·have hd:=ap ((k:Int)<(n:Int))
  have PX:=ap (k<n);obtain⟨g,rfl,bl,RO,s⟩:=D.out (by rw[<-r];omega);have a:k<M.length:=by rw[<-r];exact V
  have j:=s k a;have m:M.getD k 0=M[k]:=by simp[jX,a]
  have U:=O (j7 a);obtain⟨u,y,-⟩:=H M[k] (oj a);rw[m]at j;obtain⟨d,o⟩:=J (M[k]);rw[<-o]at j u y U;have P:wr.cell? ⟨g,k,A⟩=T (I N d):=bp j (q g RO Y);clear j m a s o;have QH:g<wr.heap.size:=Y;have bb:=O (zp d u y);have K:=O (rc d u y);have Za:=O (vU d u y);have a:I64 (512+d):=I64.of Y;have HI:=O a;clear a
  go_wp2_with fail
  refine(bb _).mono ?_;rintro e w2 ⟨pv,rfl,ad,a⟩;obtain⟨pp,cp,rfl,bc,j⟩:=nf ad;rw[K]at bc j⊢;obtain⟨o,rfl,bm,bg,z⟩:=j Y;have C:=O (HM.below a Y);have S:=ac HB a;have W:hQ (∀b,b<w1.heap.size->b≠B->w2.heap[b]?=w1.heap[b]?):=O λb m f=>(a.block b Y).trans (q b m f)
  have bn:=a.size;have Pu:=O z;clear ad a j z P
  go_wp2_with (at_mapUpdate;refine mn (E:=fM jE) rfl _ _ _ 147 rfl jf qk B _ _ rfl C (by unfold jC;omega) (512+d) rfl HI true rfl trivial ?_;intro a Zd Q;have R:=O Zd;have z:=O Q;have j:=Q.grown.size;clear Zd Q)
  have R:hQ (aH (fM jE) 3 a B (k*10+1+0) (dm (eJ (M.take k)++[512+d]++(aR d).take 0))):=O (by
   have h:=R.out;rw[uN]at h
   simpa using h)
  have QG:hQ (∀b,b<w1.heap.size->b≠B->a.heap[b]?=w1.heap[b]?):=O λb m f=>(z.grown.block b Y (by simpa using f)).trans (W b m f)
  have O8:hQ (hU w w a):=O (S.grown z.grown Y (λj e=>by cases e;omega));have PM:hQ (∀j,j<9->a.cell? ⟨o,j,A⟩=T (I N ((aR d).getD j 0))):=O λj hj=>bp (Pu j hj) (z.grown.block o bg (by simp;omega))
  have bu:o<a.heap.size:=Y;clear z W S Pu C
  go_wp2_with fail
  go_loopw [30] (λi wr=>∃j:Nat,i=I N j/\j<=9/\hQ (aH (fM jE) 3 wr B (k*10+1+j) (dm (eJ (M.take k)++[512+d]++(aR d).take j)))/\hQ (hU w w wr)/\hQ (∀b,b<a.heap.size->b≠B->wr.heap[b]?=a.heap[b]?)/\a.heap.size<=wr.heap.size) (λi _=>9-(ji i).toNat)
  case atStart=>exact⟨0,rfl,jq _,R,O8,O (λ_ _ _=>rfl),jb _⟩
  obtain⟨j,rfl,hj,aa,al,S,bv⟩:=hrel
  by_cases au:j<9
  ·have bh:=ap ((j:Int)<9)
   have cy:wr.cell? ⟨o,j,A⟩=T (I N ((aR d).getD j 0)):=bp (PM j au) (S o Y Y);have C:j<(aR d).length:=by rw[K];exact au
   have W:(aR d).getD j 0=(aR d)[j]:=by simp[jX,C]
   have a1:=O (j7 C);have a2:=O (Za _ (oj C));rw[W]at cy;obtain⟨z,hz⟩:=J ((aR d)[j]);rw[<-hz]at cy a1 a2;have bk:hQ (I64 z):=O (I64.of (x:=z) (aw a2));have bw:o<wr.heap.size:=Y;clear C W hz
   go_wp2_with (at_mapUpdate;refine mn (E:=fM jE) rfl _ _ _ 147 rfl jf qk B _ _ rfl aa (by unfold jC;omega) z rfl bk true rfl trivial ?_;intro w5 a3 C;have W:=O a3;have a4:=O C;have bA:=C.grown.size;clear a3 C)
   refine⟨⟨j+1,by go_num,by omega,O ?_,O (al.grown a4.grown Y (λj e=>by cases e;omega)),O λb m f=>(a4.grown.block b Y (by simpa using f)).trans (S b m f),by omega⟩,by simp only[ji];omega⟩;have h:=W.out;rw[uN]at h;rw[a1,<-jv];exact h
  have bh:=ar ((j:Int)<9);obtain rfl:j=9:=Y
  go_wp2_with fail
  refine⟨⟨k+1,by go_num,by omega,O ?_,al,O λb m f=>(S b Y f).trans (QG b m f),by omega⟩,by simp only[ji];omega⟩;have h:=aa.out;rw[ol (l:=aR d) (by rw[K];exact jb _)]at h;rw[U,Iz];exact h.mono (n':=(k+1)*10) Y
 have hd:=ar ((k:Int)<(n:Int));have PX:=ar (k<n);obtain rfl:k=n:=Y;have Q2:hQ (wr.heap[w.heap.size]?=T (hF #[hH p t.length c] 52 (0,0))):=O ((q w.heap.size Y Y).trans Qm);have au:hQ (aH (fM jE) 3 wr B (k*10) (dm (eJ M))):=O (by
  have h:=HM.out;rw[ol (by rw[<-r];exact jb _)]at h;exact h)
 have b:=O (X.below HB);have bb:B<wr.heap.size:=Y;obtain⟨U,a⟩:=J (eJ M);rw[<-a]at au;have HU:hQ (U=eJ (aU t)):=O (by rw[a,bf]);obtain⟨k',d⟩:=J k;rw[<-d]at au;clear a HM q D H X Qm OZ F r d;have cb:wr.cell? ⟨w,0,A⟩=T (hH p t.length c):=by unfold jB;rw[Q2];rfl
 obtain⟨p',c',he,-,-,a,d⟩:=b.out
 cases he
 have HC:=O a;have Ym:=O d;clear a d;obtain⟨n,f⟩:=J t.length;have r:=O f;obtain⟨W3,a⟩:=J wr;have a1:w.heap.size<wr.heap.size:=Y;rw[<-a]at Q2 au HC bb cb HB a1⊢;rw[<-f]at hc hl cb Q2⊢;clear f a a5 b
 go_wp2_with fail
 go_loopw [41] (λi wr=>∃k:Nat,i=I N k/\k<=n/\hQ (∀j,j<k->¬kP t U j)/\hQ (hU W3 W3 wr)) (λi _=>n-(ji i).toNat)
 case atStart=>exact⟨0,rfl,jq _,O (λ_ h=>absurd h Y),O (jh _ _)⟩
 obtain⟨k,rfl,hk,HG,QX⟩:=hrel
 by_cases V:k<n
 ·have hd:=ap ((k:Int)<(n:Int))
  have PX:=ap (k<n);obtain⟨g,o,rfl,s⟩:=HC.out (by rw[<-r];omega);obtain⟨a,q,P,j,i,m,hgt,-,-⟩:=wX s Ym.out (by rw[<-r];exact V) QX;have u:wr.cell? ⟨w,0,A⟩=T (hH (T ⟨g,o,A⟩) n c):=bp cb (QX.block _ a1);have X:=O hgt;have U0:=O s;have RA:=O i;have b:=QX.alloc QX.size (hF #[I N a,I N q] 235);have C:w.heap.size<wr.heap.size:=jw a1 QX.size;have x:wr.heap.size<(wr.alloc (hF #[I N a,I N q] 235)).heap.size:=by simp
  have y:(wr.alloc (hF #[I N a,I N q] 235)).cell? ⟨wr,0,A⟩=T (I N a):=by
   unfold jB;rw[jn];rfl
  have z:(wr.alloc (hF #[I N a,I N q] 235)).cell? ⟨wr,1,A⟩=T (I N q):=by
   unfold jB;rw[jn];rfl
  have d:(wr.alloc (hF #[I N a,I N q] 235)).cell? ⟨w,0,A⟩=T (hH (T ⟨g,o,A⟩) n c):=bp cb (b.block _ a1);have W:hQ (aH (fM jE) 3 (wr.alloc (hF #[I N a,I N q] 235)) B (k'*10) (dm U)):=O (au.below b bb);have H:=ac HB b;have aa:=O b;clear s hgt i m b
  go_upto_region 16 with fail
  obtain⟨K,b⟩:=J (wr.alloc (hF #[I N a,I N q] 235));rw[<-b]at x y z d W H aa⊢;clear b P j u C
  by_cases h1:a<1
  ·have bg:=ap (a<1)
   have s:hQ (cK t=210):=O<|lM HU.out (by rw[<-r];exact V) (.inl (by rw[X];exact h1))
   go_quiet (fail)
   go_wp2_with fail
   go_ret;exact⟨lD s,uM H _⟩
  have bg:=ar (a<1)
  by_cases h2:1023<a
  ·have bh:=ap (1023<a)
   have s:hQ (cK t=210):=O<|lM HU.out (by rw[<-r];exact V) (.inr (.inl (by rw[X];exact h2)))
   go_quiet (fail)
   go_wp2_with fail
   go_ret;exact⟨lD s,uM H _⟩
  have bh:=ar (1023<a)
  by_cases h3:0<k
  ·have bk:=ap (0<(k:Int))
   have bl:=ap (0<k);obtain⟨m,b⟩:=J (k-1);have VZ:(k:Int)-1=(m:Int):=Y;have bm:m<n:=Y;obtain⟨a2,q2,c3,-,-,-,i,-,-⟩:=wX U0 Ym (k:=m) (by rw[<-r];exact bm) aa;have bc:=O i;have HM:=O b;clear i b
   by_cases h4:a<=a2
   ·have bn:=ap (a<=a2)
    have s:hQ (cK t=210):=O<|lM HU.out (by rw[<-r];exact V) (.inr (.inr (.inl (by rw[<-HM,X,bc];exact⟨h3,h4⟩))))
    go_quiet (fail)
    go_wp2_with fail
    go_ret;exact⟨lD s,uM H _⟩
   have bn:=ar (a<=a2);have al:B<K.heap.size:=by have:=QX.size;omega
   have P:=O (fk q);have bu:qh.wrap (m:Int)=(m:Int):=by rw[oo];omega
   have bv:(0:Int)<=(m:Int):=Y;have ZE:(m:Int)<(n:Int):=Y;have bw:(m:Int)<=(n:Int):=Y;have a3:hQ (¬(0<k/\a<=(t.getD (k-1) (0,0)).1)):=O (by rw[<-HM,bc];exact λh=>h4 h.2)
   by_cases C:aN q
   ·have Q:bL q=0:=fq C
    rw[Q]at P;have a4:=O C;clear Q C;have u:∀w',aH (fM jE) 3 w' B (k'*10) (dm U)->(Instr.lookup 147 (.map (T B)) (I N a) false).run ic w'=.ok (.bool ((dm U a).getD false)) w':=λw' h=>h.look jf qk (yf w') RA false
    have D:=u K.drew (aH.of_block (w':=K.drew) W rfl)
    by_cases F:a∈U
    ·have R:(dm U a).getD false=true:=by unfold dm;rw[if_pos F];rfl
     rw[R]at D u;have a5:=O F;clear R F;refine jK ?_;refine ib (λw'=>w'.cell? ⟨w,0,A⟩=T (hH (T ⟨g,o,A⟩) n c)/\w'.cell? ⟨g,o+m*2,A⟩=T (I N a2)/\w'.cell? ⟨wr,0,A⟩=T (I N a)/\w'.cell? ⟨wr,1,A⟩=T (I N q)/\(Instr.lookup 147 (.map (T B)) (I N a) false).run ic w'=.ok (.bool true) w') 100 [(0,true),(1,true),(2,true),(3,true),(4,true),(5,true),(6,true),(7,true),(8,true),(9,true),(10,true),(11,true),(12,true),(13,true),(14,true),(15,true),(16,true),(17,true),(18,true),(19,true),(20,true),(21,true),(22,true),(23,true),(24,true),(25,true),(26,true),(27,false),(28,true),(29,true),(30,true),(31,true),(32,true),(33,true),(34,true),(35,true),(36,true)]
      ae ae ae rfl (λ_ _ _ _ h=>h) ⟨d,c3,y,z,D⟩ ?_
     iterate 27 refine te ?_
     refine aS rfl (λK' j=>?_);go_simp;refine(P _).mono ?_;rintro e i ⟨rfl,b⟩;refine j _ _ ⟨bp d (b.block _ (dR d)),bp c3 (b.block _ (dR c3)),bp y (b.block _ x),bp z (b.block _ x),u i (aH.of_block (w':=i) W (b.block B al))⟩ λ_=>?_
     clear j;refine L ?_;iterate 9 refine te ?_
     refine jG ?_;have S:hQ (hU W3 W3 i):=O (aa.trans (kn (w:=K) ⟨b.os,b.tape,b.output,b.size,b.block⟩ aa.size));clear b u D
     go_wp2_with fail
     refine⟨⟨k+1,by go_num,by omega,O (good_step HG (yP X Y Y a3 a4 a5)),S⟩,by simp only[ji];omega⟩
    have R:(dm U a).getD false=false:=by unfold dm;rw[if_neg F];rfl
    rw[R]at D u;have s:hQ (cK t=210):=O<|lM HU.out (by rw[<-r];exact V) (.inr (.inr (.inr (.inr (by rw[X];exact F)))));clear R F;refine jK ?_;refine ib (λw'=>w'.cell? ⟨w,0,A⟩=T (hH (T ⟨g,o,A⟩) n c)/\w'.cell? ⟨g,o+m*2,A⟩=T (I N a2)/\w'.cell? ⟨wr,0,A⟩=T (I N a)/\w'.cell? ⟨wr,1,A⟩=T (I N q)/\(Instr.lookup 147 (.map (T B)) (I N a) false).run ic w'=.ok (.bool false) w') 100 [(0,true),(1,true),(2,true),(3,true),(4,true),(5,true),(6,true),(7,true),(8,true),(9,true),(10,true),(11,true),(12,true),(13,true),(14,true),(15,true),(16,true),(17,true),(18,true),(19,true),(20,true),(21,true),(22,true),(23,true),(24,true),(25,true),(26,true),(27,false),(28,true),(29,true),(30,true),(31,true),(32,true),(33,true),(34,true),(35,true),(36,true)]
     ae ae ae rfl (λ_ _ _ _ h=>h) ⟨d,c3,y,z,D⟩ ?_
    iterate 27 refine te ?_
    refine aS rfl (λK' j=>?_);go_simp;refine(P _).mono ?_;rintro e i ⟨rfl,b⟩;refine j _ _ ⟨bp d (b.block _ (dR d)),bp c3 (b.block _ (dR c3)),bp y (b.block _ x),bp z (b.block _ x),u i (aH.of_block (w':=i) W (b.block B al))⟩ λ_=>?_
    clear j;refine L ?_;iterate 9 refine te ?_
    refine jG ?_;have S:hQ (hU w w i):=O (H.trans (kn (w:=K) ⟨b.os,b.tape,b.output,b.size,b.block⟩ H.size));clear b u D
    go_wp2_with fail
    go_ret;exact⟨lD s,S⟩
   have Q:bL q=40:=iR C;rw[Q]at P;have s:hQ (cK t=210):=O<|lM HU.out (by rw[<-r];exact V) (.inr (.inr (.inr (.inl (by rw[X];exact C)))));clear Q C;refine jK ?_;refine ib (λw'=>w'.cell? ⟨w,0,A⟩=T (hH (T ⟨g,o,A⟩) n c)/\w'.cell? ⟨g,o+m*2,A⟩=T (I N a2)/\w'.cell? ⟨wr,0,A⟩=T (I N a)/\w'.cell? ⟨wr,1,A⟩=T (I N q)) 100 [(0,true),(1,true),(2,true),(3,true),(4,true),(5,true),(6,true),(7,true),(8,true),(9,true),(10,true),(11,true),(12,true),(13,true),(14,true),(15,true),(16,true),(17,true),(18,true),(19,true),(20,true),(21,true),(22,true),(23,true),(24,true),(25,true),(26,true),(27,false),(28,true),(29,true),(30,true),(31,true),(32,true),(33,true),(34,true),(35,true),(36,true)]
    ae ae ae rfl (λ_ _ _ _ h=>h) ⟨d,c3,y,z⟩ ?_
   iterate 27 refine kp ?_
   refine aS rfl (λK' j=>?_);go_simp;refine(P _).mono ?_;rintro e i ⟨rfl,b⟩;refine j _ _ ⟨bp d (b.block _ (dR d)),bp c3 (b.block _ (dR c3)),bp y (b.block _ x),bp z (b.block _ x)⟩ λ_=>?_
   clear j;refine L ?_;iterate 3 refine kp ?_
   iterate 5 refine oH ?_
   refine kp ?_;refine jG ?_;have S:hQ (hU w w i):=O (H.trans (kn (w:=K) ⟨b.os,b.tape,b.output,b.size,b.block⟩ H.size));clear b
   go_wp2_with fail
   go_ret;exact⟨lD s,S⟩
  have bk:=ar (0<(k:Int));have bl:=ar (0<k);have al:B<K.heap.size:=by have:=QX.size;omega
  have P:=O (fk q);have a3:hQ (¬(0<k/\a<=(t.getD (k-1) (0,0)).1)):=O (λh=>h3 h.1);clear h3
  by_cases C:aN q
  ·have Q:bL q=0:=fq C
   rw[Q]at P;have a4:=O C;clear Q C;have u:∀w',aH (fM jE) 3 w' B (k'*10) (dm U)->(Instr.lookup 147 (.map (T B)) (I N a) false).run ic w'=.ok (.bool ((dm U a).getD false)) w':=λw' h=>h.look jf qk (yf w') RA false
   have D:=u K.drew (aH.of_block (w':=K.drew) W rfl)
   by_cases F:a∈U
   ·have R:(dm U a).getD false=true:=by unfold dm;rw[if_pos F];rfl
    rw[R]at D u;have a5:=O F;clear R F;refine jK ?_;refine ib (λw'=>w'.cell? ⟨w,0,A⟩=T (hH (T ⟨g,o,A⟩) n c)/\w'.cell? ⟨wr,0,A⟩=T (I N a)/\w'.cell? ⟨wr,1,A⟩=T (I N q)/\(Instr.lookup 147 (.map (T B)) (I N a) false).run ic w'=.ok (.bool true) w') 100 [(0,true),(1,true),(2,true),(3,true),(4,true),(5,true),(6,true),(7,true),(8,true),(9,true),(10,true),(11,true),(12,true),(13,true),(14,true),(15,true),(16,true),(17,true),(18,true),(19,true),(20,true),(21,true),(22,true),(23,true),(24,true),(25,true),(26,true),(27,false),(28,true),(29,true),(30,true),(31,true),(32,true),(33,true),(34,true),(35,true),(36,true)]
     ae ae ae rfl (λ_ _ _ _ h=>h) ⟨d,y,z,D⟩ ?_
    iterate 12 refine kp ?_
    iterate 10 refine oH ?_
    iterate 5 refine kp ?_
    refine aS rfl (λK' j=>?_);go_simp;refine(P _).mono ?_;rintro e i ⟨rfl,b⟩;refine j _ _ ⟨bp d (b.block _ (dR d)),bp y (b.block _ x),bp z (b.block _ x),u i (aH.of_block (w':=i) W (b.block B al))⟩ λ_=>?_
    clear j;refine L ?_;iterate 9 refine kp ?_
    refine jG ?_;have S:hQ (hU W3 W3 i):=O (aa.trans (kn (w:=K) ⟨b.os,b.tape,b.output,b.size,b.block⟩ aa.size));clear b u D
    go_wp2_with fail
    refine⟨⟨k+1,by go_num,by omega,O (good_step HG (yP X Y Y a3 a4 a5)),S⟩,by simp only[ji];omega⟩
   have R:(dm U a).getD false=false:=by unfold dm;rw[if_neg F];rfl
   rw[R]at D u;have s:hQ (cK t=210):=O<|lM HU.out (by rw[<-r];exact V) (.inr (.inr (.inr (.inr (by rw[X];exact F)))));clear R F;refine jK ?_;refine ib (λw'=>w'.cell? ⟨w,0,A⟩=T (hH (T ⟨g,o,A⟩) n c)/\w'.cell? ⟨wr,0,A⟩=T (I N a)/\w'.cell? ⟨wr,1,A⟩=T (I N q)/\(Instr.lookup 147 (.map (T B)) (I N a) false).run ic w'=.ok (.bool false) w') 100 [(0,true),(1,true),(2,true),(3,true),(4,true),(5,true),(6,true),(7,true),(8,true),(9,true),(10,true),(11,true),(12,true),(13,true),(14,true),(15,true),(16,true),(17,true),(18,true),(19,true),(20,true),(21,true),(22,true),(23,true),(24,true),(25,true),(26,true),(27,false),(28,true),(29,true),(30,true),(31,true),(32,true),(33,true),(34,true),(35,true),(36,true)]
    ae ae ae rfl (λ_ _ _ _ h=>h) ⟨d,y,z,D⟩ ?_
   iterate 12 refine kp ?_
   iterate 10 refine oH ?_
   iterate 5 refine kp ?_
   refine aS rfl (λK' j=>?_);go_simp;refine(P _).mono ?_;rintro e i ⟨rfl,b⟩;refine j _ _ ⟨bp d (b.block _ (dR d)),bp y (b.block _ x),bp z (b.block _ x),u i (aH.of_block (w':=i) W (b.block B al))⟩ λ_=>?_
   clear j;refine L ?_;iterate 9 refine kp ?_
   refine jG ?_;have S:hQ (hU w w i):=O (H.trans (kn (w:=K) ⟨b.os,b.tape,b.output,b.size,b.block⟩ H.size));clear b u D
   go_wp2_with fail
   go_ret;exact⟨lD s,S⟩
  have Q:bL q=40:=iR C;rw[Q]at P;have s:hQ (cK t=210):=O<|lM HU.out (by rw[<-r];exact V) (.inr (.inr (.inr (.inl (by rw[X];exact C)))));clear Q C;refine jK ?_;refine ib (λw'=>w'.cell? ⟨w,0,A⟩=T (hH (T ⟨g,o,A⟩) n c)/\w'.cell? ⟨wr,0,A⟩=T (I N a)/\w'.cell? ⟨wr,1,A⟩=T (I N q)) 100 [(0,true),(1,true),(2,true),(3,true),(4,true),(5,true),(6,true),(7,true),(8,true),(9,true),(10,true),(11,true),(12,true),(13,true),(14,true),(15,true),(16,true),(17,true),(18,true),(19,true),(20,true),(21,true),(22,true),(23,true),(24,true),(25,true),(26,true),(27,false),(28,true),(29,true),(30,true),(31,true),(32,true),(33,true),(34,true),(35,true),(36,true)]
   ae ae ae rfl (λ_ _ _ _ h=>h) ⟨d,y,z⟩ ?_
  iterate 12 refine sI ?_
  iterate 10 refine oH ?_
  iterate 5 refine sI ?_
  refine aS rfl (λK' j=>?_);go_simp;refine(P _).mono ?_;rintro e i ⟨rfl,b⟩;refine j _ _ ⟨bp d (b.block _ (dR d)),bp y (b.block _ x),bp z (b.block _ x)⟩ λ_=>?_
  clear j;refine L ?_;iterate 3 refine sI ?_
  iterate 5 refine oH ?_
  refine sI ?_;refine jG ?_;have S:hQ (hU w w i):=O (H.trans (kn (w:=K) ⟨b.os,b.tape,b.output,b.size,b.block⟩ H.size));clear b
  go_wp2_with fail
  go_ret;exact⟨lD s,S⟩
 have hd:=ar ((k:Int)<(n:Int));have PX:=ar (k<n);obtain rfl:k=n:=Y;have s:hQ (cK t=0):=O<|yQ HU.out (by rw[<-r];exact HG)
 go_wp2_with fail
 go_ret;exact⟨lD s,HB.trans (QX.mono HB.size)⟩
def hgt(n:Nat):Nat:=9-n.log2
theorem sM{n:Nat}(g:1<=n)(i:n<1024):512<=n*2^hgt n/\n*2^hgt n<1024:=by
 have a:2^n.log2<=n:=Nat.log2_self_le Y;have b:n<2^(n.log2+1):=Nat.lt_log2_self;have c:n.log2<=9:=by
  rcases mz 9 n.log2 with h|h
  ·have:=qf (n:=2) Y (show 10<=n.log2 from h)
   omega
  exact h
 unfold hgt;obtain⟨l,d⟩:=J n.log2;rw[<-d]at a b c⊢;have e:2^l*2^(9-l)=512:=by rw[<-Nat.pow_add,Nat.add_sub_cancel' c]
 have f:2^(l+1)*2^(9-l)=1024:=by rw[<-Nat.pow_add,show l+1+(9-l)=10 by omega]
 refine⟨?_,?_⟩
 ·rw[<-e];exact qn _ a
 rw[<-f];exact Nat.mul_lt_mul_of_pos_right b (Nat.two_pow_pos _)
theorem NZ{n h:Nat}(a:1<=n)(b:n*2^h<1024):2^h<=1000000:=by
 have:1*2^h<=n*2^h:=qn _ a;omega
noncomputable def iL(t:List (Int×Int))(x:Int):Int:=if cK t=0 then(if x<1\/1023<x then 200 else 0)else cK t
noncomputable def dQ(t:List (Int×Int))(x:Int):List Int:=if iL t x=0 then cF (ofF t) (hgt x.toNat) x.toNat else []
theorem oL{w:hK}{B a:Nat}{e:jj}{size:Nat}{v:hZ}{n:Nat}{xs:List hZ}(h:w.ownsRow B e size v n xs)(b:a<=B):w.ownsRow a e size v n xs:=by
 refine⟨h.1,?_⟩
 rcases h.2 with c|⟨g,d,f,i,j,k⟩
 ·exact .inl c
 exact .inr ⟨g,d,f,i,jl b j,k⟩
theorem rz{a:hZ}{x y:Int}(h:x=y):Ending.returned (je #[a,I N y])=ii (je #[a,I N x]):=by rw[h]
theorem Jf(t:List (Int×Int))(v:hZ)(x:Int)(w:hK)(c:aT w v t)(f:t.length<=1000000):
 ja ic 135 #[jg #[v],I N x] w λe w'=>∃j,e=ii (je #[j,I N (iL t x)])/\w'.ownsRow w 3 1 j (dQ t x).length ((dQ t x).map (jm .i64))/\hU w w w':=by
 have a:hU w w (w.alloc (hF #[v] 52)):=(jh _ w).alloc (jb _) _;have g:=O (tE t v (w.alloc (hF #[v] 52)) (c.below a) f);have h:=O (c.below a);have C:=O f;obtain⟨s,b⟩:=J (w.alloc (hF #[v] 52));have o:s.cell? ⟨w,0,A⟩=T v:=by rw[b];unfold jB;rw[jn];rfl
 have q:s.heap.size=w.heap.size+1:=by rw[b];simp
 obtain⟨E,k⟩:=J (iL t x);obtain⟨V,m⟩:=J (dQ t x);have d:=O k;have l:=O m;rw[<-k,<-m];obtain⟨p,n⟩:=J (cK t);have i:=O n;rw[<-b,<-n]at g;rw[<-b]at h a;clear c f k m n
 go_enter func135,ntmps135
 go_wp2_with fail
 rw[<-b];clear b;refine g.mono ?_;rintro e D ⟨rfl,b⟩;have X:=bp o (b.block _ (by show w.heap.size<_;omega));have m:=O (a.trans (b.mono a.size));have F:=O (h.below b);clear b a g h o q
 by_cases q:p=0
 ·subst q
  by_cases H:x<1
  ·have K:=ap (x<1)
   have c:hQ (E=200):=O (by rw[d];unfold iL;rw[if_pos i.symm,if_pos (.inl H)]);have f:hQ (V=[]):=O (by rw[l];unfold dQ;rw[if_neg (by rw[<-d,c];decide)])
   go_wp2_with fail
   go_ret2;exact⟨hH A 0 0,rz c,by rw[f];exact j0 _ _ _ _,m⟩
  have K:=ar (x<1)
  by_cases M:1023<x
  ·have P:=ap (1023<x)
   have c:hQ (E=200):=O (by rw[d];unfold iL;rw[if_pos i.symm,if_pos (.inr M)]);have f:hQ (V=[]):=O (by rw[l];unfold dQ;rw[if_neg (by rw[<-d,c];decide)])
   go_wp2_with fail
   go_ret2;exact⟨hH A 0 0,rz c,by rw[f];exact j0 _ _ _ _,m⟩
  have P:=ar (1023<x);have c:hQ (E=0):=O (by rw[d];unfold iL;rw[if_pos i.symm,if_neg Y]);have f:hQ (V=cF (ofF t) (hgt x.toNat) x.toNat):=O (by rw[l];unfold dQ;rw[if_pos (by rw[<-d,c])]);obtain⟨n,a⟩:=J x.toNat;have Q:hQ (x=(n:Int)):=O Y;have g:hQ (1<=n/\n<1024):=O Y;rw[<-a]at f;clear a
  go_wp2_with fail
  refine(uK t v D F C).mono ?_;rintro e a ⟨b,rfl,r,h,k⟩;have R:=O h;have o:=ac m k;have S:b<a.heap.size:=h.lt;clear r h k
  go_wp2_with fail
  refine(vu (T b) x a).mono ?_;rintro e U ⟨rfl,rfl⟩;have u:a.heap.size+2=((a.alloc (hF #[.map (T b)] 170)).alloc (hF #[I N x] 3)).heap.size:=by simp
  have y:=O ((o.alloc o.size (hF #[.map (T b)] 170)).alloc (by have:=o.size;simp;omega) (hF #[I N x] 3));have k:ih ((a.alloc (hF #[.map (T b)] 170)).alloc (hF #[I N x] 3)) a.heap.size 170 (.map (T b)):=(jo _ _ _ av).trans (jn a _);have z:ih ((a.alloc (hF #[.map (T b)] 170)).alloc (hF #[I N x] 3)) (a.heap.size+1) 3 (I N (n:Int)):=by
   have h:=jn (a.alloc (hF #[.map (T b)] 170)) (hF #[I N x] 3);rw[jp]at h;rw[<-Q];exact h
  have r:=O (wO (ofF t) b t.length (hgt n) n (sM g.1 g.2).1 (sM g.1 g.2).2 a.heap.size (a.heap.size+1) a.heap.size _ ((R.alloc _).alloc _) S k z (by rw[<-u];omega));obtain⟨U,B⟩:=J ((a.alloc (hF #[.map (T b)] 170)).alloc (hF #[I N x] 3));rw[<-B]at r y u⊢;clear k z B;have z:=O (NZ g.1 (sM g.1 g.2).2);have aa:w.heap.size<=a.heap.size:=o.size;have B:=O (Ai (λ_ _=>rfl) r Y (by rintro k (rfl|rfl)<;>omega) (λW h=>jl (jl h.length_le (oV _ _ _)) z) w.heap.size Y (by rintro k (rfl|rfl)<;>omega));clear r
  go_wp2_with fail
  refine B.mono ?_;rintro e w4 ⟨j,xs,rfl,rfl,h,k⟩;have r:=O h;have W:=O (y.trans k);clear h k
  go_wp2_with fail
  go_ret2;refine⟨j,rz c,?_,W⟩;rw[f];exact oL r Y
 have a:=ar (p=0);have c:hQ (E=p):=O (by rw[d];unfold iL;rw[if_neg (by rw[<-i];exact q)];exact i.symm);have f:hQ (V=[]):=O (by rw[l];unfold dQ;rw[if_neg (by rw[<-d,c];exact q)])
 go_wp2_with fail
 go_ret2;exact⟨hH A 0 0,rz c,by rw[f];exact j0 _ _ _ _,m⟩
theorem CJ(b n:Nat)(f:Int->Option Int)(z:Int)(a:I64 z)(w:hK)(h:aH (cW jf) 3 w b n f):
 ja ic 165 #[.map (T b),I N z] w λe w'=>e=ii (je #[])/\aH (cW jf) 3 w' b n (λy=>if y=z then A else f y)/\w.mapTurned w' b:=by
 have c:=O h;have d:=O a;clear h a
 go_enter func165,ntmps165
 go_wp2_with (refine Fj (E:=cW jf) rfl _ _ 170 rfl jf jO b n f rfl c z rfl d ?_;intro h a g)
 go_end0
 exact⟨rfl,a,g⟩
def ft(f:Int->Option Int)(a:List Int)(y:Int):Option Int:=if y∈a then A else f y
theorem Jh(f:Int->Option Int)(a:List Int)(z:Int):(λy=>if y=z then A else ft f a y)=ft f (a++[z]):=by
 funext y
 unfold ft
 by_cases h:y=z
 ·simp[h]
 simp[h]
noncomputable def cQ(t:List (Int×Int))(d:Int)(a:Bool):Int:=
 if cK t=0 then(if d<0\/512<=d\/(a=true/\ofF t (512+d)=A)then 200 else 0)else cK t
theorem sw{a v:hZ}{x y:Int}(h:x=y):Ending.returned (je #[a,v,I N y])=ii (je #[a,v,I N x]):=by rw[h]
def mT(t:List (Int×Int))(d:Int)(w:hK)(E:Int)(e:Ending)(w':hK):Prop:=
 hU w w w'/\(E≠0->e=ii (je #[.map A,hH A 0 0,I N E]))/\
 (E=0->∃b p c,e=ii (je #[.map (T b),hH p 9 c,I N 0])/\w.heap.size<=b/\aH (cW jf) 3 w' b t.length (ft (ofF t) ((512+d)::aR d))/\w'.ownsRow w 3 1 (hH p 9 c) 9 ((aR d).map (jm .i64)))
theorem mT.bad{t:List (Int×Int)}{d E:Int}{w w':hK}{e:Ending}(a:hU w w w')(b:E≠0)(h:e=ii (je #[.map A,hH A 0 0,I N E])):mT t d w E e w':=
 ⟨a,λ_=>h,λc=>absurd c b⟩
theorem wj(t:List (Int×Int))(v:hZ)(d:Int)(g:Bool)(w:hK)(f:aT w v t)(h:t.length<=1000000)(r:I64 d):
 ja ic 123 #[jg #[v],I N d,.bool g] w λe w'=>mT t d w (cQ t d g) e w':=by
 have a:hU w w (w.alloc (hF #[v] 52)):=(jh _ w).alloc (jb _) _;have i:=O (tE t v (w.alloc (hF #[v] 52)) (f.below a) h);have j:=O (f.below a);have HL:=O h;obtain⟨K,b⟩:=J (w.alloc (hF #[v] 52));have p:K.cell? ⟨w,0,A⟩=T v:=by rw[b];unfold jB;rw[jn];rfl
 have y:K.heap.size=w.heap.size+1:=by rw[b];simp
 obtain⟨E,k⟩:=J (cQ t d g);have n:=O k;rw[<-k];obtain⟨s,o⟩:=J (cK t);have m:=O o;rw[<-b,<-o]at i;rw[<-b]at j a;obtain⟨z,c⟩:=J (qh.wrap (512+d));have M:hQ (I64 z):=O (I64.of (x:=z) (by rw[c,oo];omega));have au:hQ (0<=d->d<512->z=512+d):=O (λq P=>by rw[c,oo];omega);have Q:=c.symm;clear f h k o r c
 go_enter func123,ntmps123
 go_wp2_with fail
 rw[<-b];clear b;refine i.mono ?_;rintro e w1 ⟨rfl,b⟩;have bh:=bp p (b.block _ (by show w.heap.size<_;omega));have u:=O (a.trans (b.mono a.size));have UV:=O (j.below b);clear b a i j p y
 by_cases q:s=0
 ·subst q
  go_wp2_with fail
  refine(uK t v w1 UV HL).mono ?_;rintro e o ⟨b,rfl,c,a,f⟩;have y:=O a;have i:=ac u f;have a1:b<o.heap.size:=a.lt;have r:hQ (w.heap.size<=b):=O (jl u.size c);clear c a f
  go_upto_region 6 with(at_lookup;refine sF (he:=jf) rfl _ _ 170 rfl jf jO (ng _) b t.length _ rfl y z (by first|rfl|(simp only[Q])) M ?_)
  obtain⟨B,a⟩:=J ((ofF t z).isSome);obtain⟨gv,c⟩:=J ((ofF t z).getD 0);rw[<-a,<-c];have R:=O a;clear a c Q
  by_cases P:d<0
  ·have a2:=ap (d<0)
   have a:hQ (E=200):=O (by rw[n];unfold cQ;rw[if_pos m.symm,if_pos (.inl P)])
   go_wp2_with fail
   go_ret3
   exact mT.bad i.out (by rw[a];decide) (sw a)
  have a2:=ar (d<0)
  by_cases h2:512<=d
  ·have a3:=ap (512<=d)
   have a:hQ (E=200):=O (by rw[n];unfold cQ;rw[if_pos m.symm,if_pos (.inr (.inl h2))])
   go_wp2_with fail
   go_ret3
   exact mT.bad i.out (by rw[a];decide) (sw a)
  have a3:=ar (512<=d);have a4:=au Y Y;subst a4
  by_cases c:g=true/\B=false
  ·obtain⟨rfl,rfl⟩:=c
   have p:ofF t (512+d)=A:=by
    have:=R.out
    cases h:ofF t (512+d)with
    |none=>rfl
    |some x=>rw[h]at this;cases this
   have a:hQ (E=200):=O (by
    rw[n];unfold cQ;rw[if_pos m.symm,if_pos (.inr (.inr ⟨rfl,p⟩))])
   clear p
   go_wp2_with fail
   go_ret3
   exact mT.bad i.out (by rw[a];decide) (sw a)
  have a:hQ (E=0):=O (by
   rw[n];unfold cQ;rw[if_pos m.symm,if_neg];rintro(h|h|⟨h,f⟩)
   ·omega
   ·omega
   exact c ⟨h,by rw[R,f];rfl⟩)
  have a5:g=false\/(g=true/\B=true):=by cases g<;>cases B<;>simp_all
  have HI:=M;have ba:=O (zp d Y Y o);have C:=O (rc d Y Y);have Za:=O (vU d Y Y);have SH:qh.wrap (512+d)=512+d:=by rw[oo];omega
  clear c
  rcases a5 with rfl|⟨rfl,rfl⟩
  all_goals
   go_upto_region 8 with fail
   go_wp2_with fail
   refine ba.mono ?_;rintro e w3 ⟨pv,rfl,j,f⟩;have D:=O j;obtain⟨pp,F,rfl,bb,k⟩:=nf j;rw[C]at bb k D⊢;obtain⟨c,rfl,bk,bc,S⟩:=k Y;have U:=O (y.below f a1);have H:=ac i f;have V:=O S;have bl:=f.size;clear j f k S
   go_wp2_with fail
   refine(CJ b t.length _ (512+d) HI w3 U).mono ?_;rintro e f ⟨rfl,S,k⟩;have bd:hQ (aH (cW jf) 3 f b t.length (ft (ofF t) ([512+d]++(aR d).take 0))):=O (S.congr (λx _=>by simp[ft]));have YZ:=k.grown.size;have Pf:hQ (hU w w f):=O (H.grown k.grown (a8 H.size) (λj e=>by cases e;exact r));have QD:hQ (∀j,j<9->f.cell? ⟨c,j,A⟩=T (I N ((aR d).getD j 0))):=O λj W=>bp (V j W) (k.grown.block c bc (by simp;omega))
   have Qs:hQ (f.ownsRow o 3 1 (hH (T ⟨c,0,A⟩) 9 F) 9 ((aR d).map (jm .i64))):=O (D.kept k.grown (.inr (by simp[j9];omega)));have bm:c<f.heap.size:=Y;clear S k y U i H V D
   go_wp2_with fail
   go_loopw [55] (λi wr=>∃j:Nat,i=I N j/\j<=9/\hQ (aH (cW jf) 3 wr b t.length (ft (ofF t) ([512+d]++(aR d).take j)))/\hQ (hU w w wr)/\hQ (wr.ownsRow o 3 1 (hH (T ⟨c,0,A⟩) 9 F) 9 ((aR d).map (jm .i64)))/\hQ (∀k,k<f.heap.size->k≠b->wr.heap[k]?=f.heap[k]?)/\f.heap.size<=wr.heap.size) (λi _=>9-(ji i).toNat)
   case atStart=>exact⟨0,rfl,jq _,bd,Pf,Qs,O (λ_ _ _=>rfl),jb _⟩
   obtain⟨j,rfl,W,S,D,U,V,bn⟩:=hrel
   by_cases X:j<9
   ·have bf:=ap ((j:Int)<9)
    have cy:wr.cell? ⟨c,j,A⟩=T (I N ((aR d).getD j 0)):=bp (QD j X) (V c Y Y);have i:j<(aR d).length:=by rw[C];exact X
    have H:(aR d).getD j 0=(aR d)[j]:=by simp[jX,i]
    have aa:=O (j7 i);have ad:=O (Za _ (oj i));rw[H]at cy;obtain⟨y,hy⟩:=J ((aR d)[j]);rw[<-hy]at cy aa ad;have bg:hQ (I64 y):=O (I64.of (x:=y) (aw ad));have bo:c<wr.heap.size:=Y;clear i H hy
    go_wp2_with fail
    refine(CJ b t.length _ y bg wr S).mono ?_;rintro e w5 ⟨rfl,al,i⟩;have Y7:=O al;have H:=O i;have bq:=i.grown.size;clear al i
    go_wp2_with fail
    refine⟨⟨j+1,by go_num,by omega,O ?_,O (D.grown H.grown (a8 D.size) (λj e=>by cases e;exact r)),O (U.kept H.grown (.inr (by simp[j9];omega))),O λk hk p=>(H.grown.block k Y (by simpa using p)).trans (V k hk p),by omega⟩,by simp only[ji];omega⟩;have h:=Y7.out;rw[Jh]at h;rw[aa,<-jv];exact h
   have bf:=ar ((j:Int)<9);obtain rfl:j=9:=Y;have i:hQ (aH (cW jf) 3 wr b t.length (ft (ofF t) ((512+d)::aR d))):=O (by
    have h:=S.out;rw[ol (l:=aR d) (by rw[C];exact jb _)]at h;exact h)
   have k:w.heap.size<=o.heap.size:=jl r Y
   go_wp2_with fail
   go_ret3
   exact⟨D,λh=>absurd a h,λ_=>⟨b,_,F,rfl,r,i,oL U k⟩⟩
 have b:=ar (s=0);have a:hQ (E=s):=O (by rw[n];unfold cQ;rw[if_neg (by rw[<-m];exact q)];exact m.symm)
 go_wp2_with fail
 go_ret3
 exact mT.bad u.out (by rw[a];exact q) (sw a)
theorem KD:(ic.info? 235).map (λi=>(i.zero,i.size,i.bytes))=T (T (jg #[I N 0,I N 0]),2,16):=by kernel_rfl
theorem B5(w:hK)(l:List hZ)(t:jj):∀j a,l[j]?=T a->(w.alloc (hF l.toArray t)).cell? ((⟨w,0,A⟩:jz).add j)=T a:=by
 intro j a b;have c:(⟨w,0,A⟩:jz).add j=⟨w,j,A⟩:=by unfold Addr.add;split<;>simp_all
 rw[c];have d:=jn w (hF l.toArray t);simp only[jB,d]
 simpa using b
def cO(f:Int->Option Int)(a:List Int):List (Int×Int):=a.map λx=>(x,(f x).getD 0)
def gz(t:List (Int×Int)):List hZ:=t.flatMap λx=>[I N x.1,I N x.2]
theorem Nl(t:List (Int×Int)):∀j,j<t.length->(gz t)[j*2]?=T (I N (t.getD j (0,0)).1)/\(gz t)[j*2+1]?=T (I N (t.getD j (0,0)).2):=by
 induction t with
 |nil=>intro j b;simp at b
 |cons a t c=>
  intro j b;have e:gz (a::t)=I N a.1::I N a.2::gz t:=rfl
  rcases j with _|j
  ·rw[e];exact⟨rfl,rfl⟩
  obtain⟨p,q⟩:=c j (by simpa using b);rw[e,show(j+1)*2=j*2+1+1 by omega];exact⟨p,q⟩
def Fr(n:Nat)(v:hZ):Prop:=∀p k c,v=hH p k c->∀a,p=T a->n<=a.block
theorem Fr.of_own{w:hK}{B:Nat}{e:jj}{sz:Nat}{v:hZ}{n:Nat}{xs:List hZ}(h:w.ownsRow B e sz v n xs):Fr B v:=by
 rintro p k c rfl a rfl
 rcases h.2 with⟨e,-⟩|⟨g,f,i,e,d,-⟩
 ·cases e
 injection e with b
 injection b with b
 subst b;exact d
theorem Fr.mono{n m:Nat}{v:hZ}(h:Fr n v)(b:m<=n):Fr m v:=λp k c e a d=>jl b (h p k c e a d)
theorem Fr.nil(n:Nat):Fr n (hH A 0 0):=by
 rintro p k c e a rfl
 cases e
theorem vx{w:hK}{B:Nat}{v:hZ}{t:List (Int×Int)}(h:w.ownsRow B 235 2 v t.length (gz t))(b:∀x∈t,I64 x.1/\I64 x.2):aT w v t:=by
 rcases h.2 with⟨rfl,c⟩|⟨g,f,r,rfl,s,k,l,u,x,m⟩
 ·exact⟨A,0,by rw[c],by omega,λ_=>c,λh=>by omega,b⟩
 refine⟨_,f,rfl,l,(λh=>by cases h),λy=>⟨g,0,rfl,λj n=>?_⟩,b⟩;obtain⟨p,q⟩:=Nl t j n;have e:∀i a,i<t.length*2->(gz t)[i]?=T a->w.cell? ⟨g,i,A⟩=T a:=λi a o d=>by
  rw[<-m,qQ o]at d;unfold jB;rw[k];simp only[qS,qT,if_false];rw[<-qU,d]
 rw[ow];exact⟨e _ _ Y p,e _ _ Y q⟩
theorem sc{w:hK}{B n:Nat}{v:hZ}{xs:List hZ}(h:w.ownsRow B 235 2 v n xs):∃p c,v=hH p n c:=by
 rcases h.2 with⟨rfl,a⟩|⟨g,b,d,rfl,e,f,i,j,k,l⟩
 ·exact⟨A,0,by rw[a]⟩
 exact⟨_,b,rfl⟩
theorem yx(b n:Nat)(f:Int->Option Int)(w:hK)(c:aH (cW jf) 3 w b n f)(d:n<=1000000)(g:∀xs,KeysOf f xs->xs.length<=1000000)(h:∀x v,I64 x->f x=T v->I64 v):
 ja ic 126 #[.map (T b)] w λe w'=>∃v xs,e=ii (jg #[v])/\KeysOf f xs/\(w'.ownsRow w 235 2 v (cO f (xs.mergeSort leI)).length (gz (cO f (xs.mergeSort leI)))/\∀x∈cO f (xs.mergeSort leI),I64 x.1/\I64 x.2)/\hU w w w':=by
 obtain⟨W,X,Pe,aa,ad⟩:=qb KD;have HM:=O c;have HN:=O d;have M:=O g;have HV:=O h;have bc:b<w.heap.size:=c.lt;clear c d g h
 go_enter func126,ntmps126
 go_wp2_with fail
 have h:ih (w.alloc (hF #[hH A 0 0] 52)) w.heap.size 52 (hH A 0 0):=jn w _;have d:hU w w (w.alloc (hF #[hH A 0 0] 52)):=(jh _ w).alloc (jb _) _;have i:=HM.alloc (hF #[hH A 0 0] 52);have al:w.heap.size<(w.alloc (hF #[hH A 0 0] 52)).heap.size:=by simp
 obtain⟨l,c⟩:=J (w.alloc (hF #[hH A 0 0] 52));rw[<-c]at h d i al⊢;clear c;refine(Bj (T b) l).mono ?_;rintro e w1 ⟨rfl,rfl⟩;have au:l.heap.size<(l.alloc (hF #[.map (T b)] 170)).heap.size:=by simp
 have g:ih (l.alloc (hF #[.map (T b)] 170)) l.heap.size 170 (.map (T b)):=jn l _;have j:ih (l.alloc (hF #[.map (T b)] 170)) w.heap.size 52 (hH A 0 0):=(jo _ _ _ Y).trans h;have c:=i.alloc (hF #[.map (T b)] 170);have k:=d.alloc d.size (hF #[.map (T b)] 170);obtain⟨D,m⟩:=J (l.alloc (hF #[.map (T b)] 170));rw[<-m]at au g j c k⊢;clear m h i d;have m:=O (BK (λ_ _=>rfl) (Jt b n l.heap.size D.heap.size f D c g c.lt g.lt) (jb _) (λ_ h=>h.elim) (λd h=>jl h HN) M D.heap.size (jb _) (λ_ h=>h.elim));have q:=O c;have r:=O k;have u:=O j;clear c k j g
 go_wp2_with fail
 refine m.mono ?_;rintro e o ⟨bd,xs,rfl,g,i,d⟩;have j:(xs.mergeSort leI).length=xs.length:=qP _;have t:hQ (∀x∈xs.mergeSort leI,I64 x):=O (λx p=>(g.2.1 x ((rY xs x).1 p)).1);have s:=O (M xs g);have Ul:=O g;obtain⟨c,k⟩:=J (xs.mergeSort leI);rw[<-k]at i t j;rw[<-j]at i s;have QC:=O k;clear g k j m;obtain⟨pu,cu,rfl,a1,j⟩:=nf i;have a2:=O j;have Qk:=O (q.below d (a8 q.lt));have O4:=O (r.trans (d.mono Y));have a3:hQ (ih o w.heap.size 52 (hH A 0 0)):=O ((d.block _ Y).trans u);have bf:=d.size;obtain⟨m,g⟩:=J c.length;rw[<-g]at a1 s⊢;have E:=O g;clear i j d g q r u
 go_wp2_with fail
 go_loopw [9] (λi wr=>∃(k:Nat) (q:Option jz) (d:Nat),i=I N k/\k<=m/\hQ (ih wr w.heap.size 52 (hH q k d))/\hQ (wr.ownsRow o 235 2 (hH q k d) k (gz (cO f (c.take k))))/\hQ (∀k,k<o.heap.size->k≠w.heap.size->wr.heap[k]?=o.heap[k]?)/\hQ (hU w w wr)/\o.heap.size<=wr.heap.size) (λi _=>m-(ji i).toNat)
 case atStart=>exact⟨0,A,0,rfl,jq _,a3,O (j0 _ _ _ _),O (λ_ _ _=>rfl),O4,jb _⟩
 obtain⟨k,q,d,rfl,hk,i,P,F,r,bg⟩:=hrel
 by_cases a4:k<m
 ·have hd:=ap ((k:Int)<(m:Int))
  have PX:=ap (k<m);have bh:m<=1000000:=s.out;have j:k<c.length:=by rw[<-E];exact a4
  obtain⟨g,rfl,bk,RO,B⟩:=a2 Y;have u:=B k j;have C:c.getD k 0=c[k]:=by simp[jX,j]
  have Q:=O (j7 j);have R:=O (t c[k] (oj j));rw[C]at u;obtain⟨x,p⟩:=J (c[k]);rw[<-p]at u Q R;have c1:wr.cell? ⟨g,k,A⟩=T (I N x):=bp u (F g RO Y);have a5:=O (Qk.of_block (F b Y Y));have QH:g<wr.heap.size:=Y;have cb:=i.cell;have cf:=i.frozen;obtain⟨y,H⟩:=J ((f x).getD 0);have S:=O H;have z:=O (P.alloc (hF #[I N x,I N y] 235));have Tu:=O (B5 wr [I N x,I N y] 235);clear u C j B p H
  go_upto_region 4 with fail
  go_wp2_with (first
   |(at_lookup;refine Jg (he:=jf) rfl _ _ 170 rfl jf jO (ng _) b n _ rfl a5 x rfl R ?_;rw[<-S])
   |(at_builtin;refine qD _ rfl _ _ 50 rfl o.heap.size 235 W (jg #[I N 0,I N 0]) 2 16 underlying50 X Pe aa ad rfl G _ _ _ rfl z ⟨wr,0,A⟩ 1 1 [I N x,I N y] rfl rfl Tu (by simp[j1]) (by have:=s.out;unfold jC;omega) (aw s) (by simp;omega) ?_;intro v' H K j _;have Sg:=O K;have U:hQ ((wr.alloc (hF #[I N x,I N y] 235)).grownBy H (jy q k d).ownBlock):=O j;obtain⟨u,B,rfl⟩:=sc K;have ba:=j.size;have C:ih H w.heap.size 52 (hH q k d):=(j.block w.heap.size (by simp;omega) (λe=>by have:=(z.lt _ e.symm).1;omega)).trans ((jo _ _ _ Y).trans i);have V:=C.cell;have bb:=C.frozen;have Si:=O (Boxed.set (hH u (k+1) B) C);clear K j C))
  have bb:=O (ql Sg (a:=⟨w,0,A⟩) (by show w.heap.size<o.heap.size;omega) (hH u (k+1) B));have C:=O (jZ H w.heap.size (hH u (k+1) B));have bl:=C.size;rw[jp]at ba;have e1:gz (cO f (c.take (k+1)))=gz (cO f (c.take k))++[I N x,I N y]:=by rw[Q,S];simp[cO,gz]
  refine⟨⟨k+1,u,B,by go_num,by omega,Si,O (by rw[e1];exact bb),O (λj hj K=>?_),O ?_,by omega⟩,by simp only[ji];omega⟩
  ·refine(C.block j Y (by simpa using K)).trans ((U.block j (by rw[jp];omega) (λe=>by have:=(z.lt _ e.symm).1;omega)).trans ((jo _ _ _ Y).trans (F j hj K)))
  exact((r.alloc r.size (hF #[I N x,I N y] 235)).grown U (by have:=r.size;rw[jp];omega) (λj e=>by have:=(z.lt _ e).1;omega)).grown C (a8 r.size) (λj e=>by cases e;exact jb _)
 have hd:=ar ((k:Int)<(m:Int));have PX:=ar (k<m);obtain rfl:k=m:=Y;have cb:=i.cell;have cf:=i.frozen;have u:hQ (wr.ownsRow o 235 2 (hH q k d) (cO f c).length (gz (cO f c))):=O (by
  have h:=P.out;rw[ol (by rw[<-E];exact jb _)]at h;have e:(cO f c).length=k:=by unfold cO;rw[ki,<-E]
  rw[e];exact h)
 have B:=O (jZ wr w.heap.size (hH q k d));have C:w.heap.size<=wr.heap.size:=r.size
 go_wp2_with fail
 have V:=(Boxed.set (hH q k d) i).cell;refine jJ (v:=jg #[hH q k d]) (by simp[results,results126,go_sem,V]) rfl ?_;refine⟨hH q k d,xs,rfl,Ul,?_,r.grown B C (λj e=>by cases e;exact jb _)⟩;rw[<-QC];refine⟨oL (ql u (a:=⟨w,0,A⟩) (by show w.heap.size<o.heap.size;omega) _) Y,?_⟩;intro x p;obtain⟨z,g,rfl⟩:=n0.1 p;refine⟨t z g,?_⟩;show I64 ((f z).getD 0)
 cases h:f z with
 |none=>exact I64.of av
 |some y=>exact HV z y (t z g) h
theorem mA{t:List (Int×Int)}{x v:Int}(h:ofF t x=T v):(x,v)∈t:=by
 unfold ofF at h
 cases hf:t.find? (λy=>y.1==x)with
 |none=>rw[hf]at h;cases h
 |some y=>
  rw[hf]at h;have c:=List.find?_some hf;have d:=List.mem_of_find?_eq_some hf;obtain⟨a,b⟩:=y;simp at h c;subst h;subst c;exact d
def gr(t:List (Int×Int))(d x:Int)(y:Int):Option Int:=if y=512+d then T x else ft (ofF t) ((512+d)::aR d) y
theorem nW{f:Int->Option Int}{a:List Int}{y v:Int}(h:ft f a y=T v):f y=T v/\y∉a:=by
 unfold ft at h
 split at h
 ·cases h
 exact⟨h,by assumption⟩
theorem Nc{t:List (Int×Int)}{d x:Int}{xs:List Int}(h:KeysOf (gr t d x) xs):xs.length<=t.length+1:=by
 have b:xs⊆(512+d)::t.map (·.1):=by
  intro y c;obtain⟨-,a⟩:=h.2.1 y c
  by_cases e:y=512+d
  ·rw[e];exact List.mem_cons_self ..
  unfold gr at a;rw[if_neg e]at a;obtain⟨v,f⟩:=qx.1 a;exact List.mem_cons_of_mem _ (n0.2 ⟨_,mA (nW f).1,rfl⟩)
 have:=h.1.length_le_of_subset b
 simpa using this
theorem KV{t:List (Int×Int)}{d x:Int}(a:∀e∈t,I64 e.1/\I64 e.2)(b:I64 x):∀y v,I64 y->gr t d x y=T v->I64 v:=by
 intro y v _ h;unfold gr at h
 split at h
 ·cases h;exact b
 exact(a _ (mA (nW h).1)).2
theorem uI{t:List (Int×Int)}{d:Int}{m:Bool}(h:cQ t d m=0):0<=d/\d<512:=by
 unfold cQ at h
 split at h
 ·split at h
  ·exact absurd h G
  omega
 rename_i a;exact absurd h a
noncomputable def eQ(t:List (Int×Int))(d x:Int):Int:=if cQ t d false=0 then(if bL x=0 then 0 else 50)else cQ t d false
def Gf(t:List (Int×Int))(d x:Int)(w:hK)(E:Int)(e:Ending)(w':hK):Prop:=
 hU w w w'/\(E≠0->e=ii (je #[jg #[hH A 0 0],I N E]))/\
 (E=0->∃v xs,e=ii (je #[jg #[v],I N 0])/\KeysOf (gr t d x) xs/\aT w' v (cO (gr t d x) (xs.mergeSort leI)))
theorem Oo(t:List (Int×Int))(v:hZ)(d x:Int)(w:hK)(b:aT w v t)(g:t.length<=900000)(j:I64 d)(l:I64 x):
 ja ic 96 #[jg #[v],I N d,I N x] w λe w'=>Gf t d x w (eQ t d x) e w':=by
 have o:∀e∈t,I64 e.1/\I64 e.2:=by obtain⟨p,c,-,-,-,-,h⟩:=b;exact h
 have i:hU w w ((w.alloc (hF #[v] 52)).alloc (hF #[hH A 0 0] 52)):=((jh _ w).alloc (jb _) _).alloc av _;have m:=O (wj t v d false ((w.alloc (hF #[v] 52)).alloc (hF #[hH A 0 0] 52)) (b.below i) Y j);have k:ih ((w.alloc (hF #[v] 52)).alloc (hF #[hH A 0 0] 52)) (w.heap.size+1) 52 (hH A 0 0):=by
  have h:=jn (w.alloc (hF #[v] 52)) (hF #[hH A 0 0] 52);rw[jp]at h;exact h
 have Ym:=O o;have R:=O l;have D:=O g;obtain⟨E,f⟩:=J (cQ t d false);have n:=O f;rw[<-f]at m;clear b g f o l j
 go_enter func96,ntmps96
 go_wp2_with fail
 obtain⟨W0,b⟩:=J ((w.alloc (hF #[v] 52)).alloc (hF #[hH A 0 0] 52));rw[<-b]at m k i⊢;clear b;refine m.mono ?_;rintro e r ⟨s,F,H⟩;have f:ih r (w.heap.size+1) 52 (hH A 0 0):=(s.block _ k.lt).trans k;have u:=O (i.trans (s.mono i.size));have S:=O f;have a2:w.heap.size+1<r.heap.size:=f.lt
 by_cases l:E=0
 ·obtain⟨b,p,c,rfl,g,o,-⟩:=H l
  have j:=O o;have a3:w.heap.size+1<b:=jw k.lt g;clear F H s i k f m o g;have au:=uI (n.symm.trans l);have HZ:hQ (I64 (512+d)):=O (I64.of (x:=512+d) Y);have SH:qh.wrap (512+d)=512+d:=by rw[oo];omega
  subst l;obtain⟨d0,d1⟩:=au
  go_wp2_with fail
  refine(fk x r).mono ?_;rintro e U ⟨rfl,g⟩;have Qk:=O (j.below g j.lt);have y:hQ (ih U (w.heap.size+1) 52 (hH A 0 0)):=O ((g.block _ S.lt).trans S);have a4:=g.size;have z:=ac u g;obtain⟨V,o⟩:=J (bL x);rw[<-o];have W:=O o;clear g o j u
  by_cases X:V=0
  ·subst X
   go_wp2_with (at_mapUpdate;refine mn (E:=cW jf) rfl _ _ _ 170 rfl jf jO b _ _ rfl Qk (by have:=D.out;unfold jC;omega) (512+d) rfl HZ x rfl R ?_;intro C Zd K;have QI:=O Zd;have TR:=O K;have g:=K.grown.size;clear Zd K)
   have Rk:hQ (ih C (w.heap.size+1) 52 (hH A 0 0)):=O ((TR.grown.block _ Y (by simp;omega)).trans y);have O8:=O (z.grown TR.grown (a8 z.size) (λj e=>by cases e;omega));refine(yx b (t.length+1) (gr t d x) C QI (aw D) (λxs h=>jl (Nc h) (aw D)) (KV Ym R)).mono ?_;rintro e w4 ⟨v',xs,rfl,aa,⟨M,ad⟩,o⟩;obtain⟨q,P,rfl⟩:=sc M;have Q:hQ (ih w4 (w.heap.size+1) 52 (hH A 0 0)):=O ((o.block _ Y).trans Rk);have Pf:=ac O8 o;have Ul:=O aa;have Sf:=O M;have a1:=O ad;have YZ:=o.size;have cb:=Q.cell;have cf:=Q.frozen;have al:eQ t d x=0:=by unfold eQ;rw[if_pos n.symm,if_pos W.symm]
   have g:=O al;clear aa M ad o al
   go_wp2_with fail
   have M:=O (jZ w4 (w.heap.size+1) (hH q (cO (gr t d x) (xs.mergeSort leI)).length P));have o:=(Boxed.set (hH q (cO (gr t d x) (xs.mergeSort leI)).length P) Q).cell;refine jJ (v:=je #[jg #[hH q (cO (gr t d x) (xs.mergeSort leI)).length P],I N 0]) (by simp[results,results96,go_sem,o]) rfl ?_;refine⟨Pf.grown M (a8 Pf.size) (λj e=>by cases e;omega),λh=>absurd g h,λ_=>⟨_,xs,rfl,Ul,?_⟩⟩;exact vx (B:=C.heap.size) (ql Sf (a:=⟨w.heap.size+1,0,A⟩) (by show w.heap.size+1<C.heap.size;omega) _) a1
  have q:=ar (V=0);have cb:=y.cell;have cf:=y.frozen;have o:=(Boxed.set (hH A 0 0) y).cell;have g:hQ (eQ t d x=50):=O (by unfold eQ;rw[if_pos n.symm,if_neg (by rw[<-W];exact X)])
  go_wp2_with fail
  refine jJ (v:=je #[jg #[hH A 0 0],I N 50]) (by simp[results,results96,go_sem,o]) rfl ?_;exact⟨z.grown (jZ U (w.heap.size+1) _) (a8 z.size) (λj e=>by cases e;omega),λ_=>by rw[g],λh=>absurd (g.symm.trans h) G⟩
 obtain rfl:=F l;have b:=ar (E=0);have cb:=f.cell;have cf:=f.frozen;have o:=(Boxed.set (hH A 0 0) f).cell;clear F H s i k f m
 go_wp2_with fail
 have g:hQ (eQ t d x=E):=O (by unfold eQ;rw[if_neg (by rw[<-n];exact l)];exact n.symm);refine jJ (v:=je #[jg #[hH A 0 0],I N E]) (by simp[results,results96,go_sem,o]) rfl ?_;exact⟨u.grown (jZ r (w.heap.size+1) _) (a8 u.size) (λj e=>by cases e;omega),λ_=>by rw[g],λh=>absurd (g.symm.trans h) l⟩
theorem Ko(a n₀:Nat)(w:hK)(c:ih w a 170 (.map A))(p:a<n₀):
 dI ic 207 #[jd (T ⟨a,0,A⟩)] (λx:Int=>#[I N x]) (λ_=>False) n₀ (λxs=>xs=[]) (λ_=>True) (λb=>b.length<=0) w:=by
 intro l f q W g d i b j;have m:ih W a 170 (.map A):=(g.block a c.lt).trans c;have r:=m.cell;refine(jY (n:=0)).1 ?_;refine lo func207 rfl trivial ?_ rfl;simp only[ntmps207,jP,jt,jQ,jR,jS,jT,jU,jV,jW,jL,jM];clear b;have s:=run_range_nilMap (P:=ic) W 170 3 3 jO;have t:∀b,(Instr.next (jd (T ⟨W,0,A⟩)) false b).run ic (W.alloc (.mapIter A 0 #[] 0))=_:=λb=>run_next_nilMap W b 0 0 #[]
 have o:hQ (f [] (λk=>k=W.heap.size) (W.alloc (.mapIter A 0 #[] 0))):=O (d [] _ _ W _ j (aZ.ofGrown (qG W _ A) (λk e=>by cases e)) (λ_ h=>h.elim) (λk e=>.inr (by have:=jp W (.mapIter A 0 #[] 0);omega)));clear d i
 gi_wp2
 gi_loopw [3] (λ_ wr=>wr=W.alloc (.mapIter A 0 #[] 0)) (λ_ wr=>0)
 case atStart=>rfl
 subst hrel
 gi_wp2
 refine pr (jD rfl _ _ _) rfl ?_;exact⟨⟨_,rfl⟩,.inl ⟨[],_,rfl,o⟩⟩
theorem II(w:hK):ja ic 126 #[.map A] w λe w'=>e=ii (jg #[hH A 0 0])/\hU w w w':=by
 go_enter func126,ntmps126
 go_wp2_with fail
 have d:ih (w.alloc (hF #[hH A 0 0] 52)) w.heap.size 52 (hH A 0 0):=jn w _;have b:hU w w (w.alloc (hF #[hH A 0 0] 52)):=(jh _ w).alloc (jb _) _;have m:w.heap.size<(w.alloc (hF #[hH A 0 0] 52)).heap.size:=by simp
 obtain⟨a,c⟩:=J (w.alloc (hF #[hH A 0 0] 52));rw[<-c]at d b m⊢;clear c;refine(Bj A a).mono ?_;rintro e p ⟨rfl,rfl⟩;have n:a.heap.size<(a.alloc (hF #[.map A] 170)).heap.size:=by simp
 have c:ih (a.alloc (hF #[.map A] 170)) a.heap.size 170 (.map A):=jn a _;have f:ih (a.alloc (hF #[.map A] 170)) w.heap.size 52 (hH A 0 0):=(jo _ _ _ Y).trans d;have g:=b.alloc b.size (hF #[.map A] 170);obtain⟨k,h⟩:=J (a.alloc (hF #[.map A] 170));rw[<-h]at n c f g⊢;clear h d b;have i:=O (BK (V:=λb=>b.length<=0) (λ_ _=>rfl) (Ko a.heap.size k.heap.size k c c.lt) (jb _) (λ_ h=>h.elim) (λb h=>by omega) (λxs h=>by rw[h];simp) k.heap.size (jb _) (λ_ h=>h.elim));have h:=O g;have o:=O f;clear g f c
 go_wp2_with fail
 refine i.mono ?_;rintro e f ⟨q,xs,rfl,rfl,b,c⟩;rw[show([]:List Int).mergeSort leI=[]from by simp]at b;obtain⟨r,s,rfl,-,-⟩:=nf (l:=[]) b;have d:hQ (ih f w.heap.size 52 (hH A 0 0)):=O ((c.block _ Y).trans o);have g:=O (h.trans (c.mono Y));have t:=d.cell;have u:=d.frozen;clear b c i
 go_wp2_with fail
 go_loopw [9] (λi wr=>i=I N 0/\wr=f) (λi _=>0)
 case atStart=>exact⟨rfl,rfl⟩
 obtain⟨rfl,rfl⟩:=hrel
 go_wp2_with fail
 have b:=(Boxed.set (hH A 0 0) d).cell;refine jJ (v:=jg #[hH A 0 0]) (by simp[results,results126,go_sem,b]) rfl ?_;exact⟨rfl,g.grown (jZ _ w.heap.size _) (a8 g.size) (λj e=>by cases e;exact jb _)⟩
def kB(t:List (Int×Int))(d:Int):Int->Option Int:=ft (ofF t) ((512+d)::aR d)
theorem GM{t:List (Int×Int)}{d:Int}{xs:List Int}(h:KeysOf (kB t d) xs):xs.length<=t.length:=by
 have a:xs⊆t.map (·.1):=by
  intro y b;obtain⟨-,c⟩:=h.2.1 y b;obtain⟨v,e⟩:=qx.1 c;exact n0.2 ⟨_,mA (nW e).1,rfl⟩
 have:=h.1.length_le_of_subset a
 simpa using this
theorem JF{t:List (Int×Int)}{d:Int}(a:∀e∈t,I64 e.1/\I64 e.2):∀y v,I64 y->kB t d y=T v->I64 v:=
 λy v _ h=>(a _ (mA (nW h).1)).2
def GR(t:List (Int×Int))(d:Int)(w:hK)(E:Int)(e:Ending)(w':hK):Prop:=
 hU w w w'/\(E≠0->e=ii (je #[jg #[hH A 0 0],I N E]))/\
 (E=0->∃v xs,e=ii (je #[jg #[v],I N 0])/\KeysOf (kB t d) xs/\aT w' v (cO (kB t d) (xs.mergeSort leI)))
theorem FR(t:List (Int×Int))(v:hZ)(d:Int)(w:hK)(b:aT w v t)(g:t.length<=900000)(i:I64 d):
 ja ic 95 #[jg #[v],I N d] w λe w'=>GR t d w (cQ t d true) e w':=by
 have j:∀e∈t,I64 e.1/\I64 e.2:=by obtain⟨p,c,-,-,-,-,h⟩:=b;exact h
 have k:hU w w ((w.alloc (hF #[v] 52)).alloc (hF #[hH A 0 0] 52)):=((jh _ w).alloc (jb _) _).alloc av _;have l:=O (wj t v d true ((w.alloc (hF #[v] 52)).alloc (hF #[hH A 0 0] 52)) (b.below k) Y i);have m:ih ((w.alloc (hF #[v] 52)).alloc (hF #[hH A 0 0] 52)) (w.heap.size+1) 52 (hH A 0 0):=by
  have h:=jn (w.alloc (hF #[v] 52)) (hF #[hH A 0 0] 52);rw[jp]at h;exact h
 have M:=O j;have D:=O g;obtain⟨E,f⟩:=J (cQ t d true);rw[<-f]at l;rw[<-f];clear b g f j i
 go_enter func95,ntmps95
 go_wp2_with fail
 obtain⟨W,b⟩:=J ((w.alloc (hF #[v] 52)).alloc (hF #[hH A 0 0] 52));rw[<-b]at l m k⊢;clear b;refine l.mono ?_;rintro e g ⟨s,x,y⟩;have u:ih g (w.heap.size+1) 52 (hH A 0 0):=(s.block _ m.lt).trans m;have F:=O (k.trans (s.mono k.size));have H:=O u;have X:w.heap.size+1<g.heap.size:=u.lt
 by_cases n:E=0
 ·obtain⟨b,p,c,rfl,i,f,-⟩:=y n
  have P:hQ (aH (cW jf) 3 g b t.length (kB t d)):=O f;subst n;clear x y s k m u l f i
  go_wp2_with fail
  refine(yx b t.length (kB t d) g P (aw D) (λxs h=>jl (GM h) (aw D)) (JF M)).mono ?_;rintro e o ⟨v',xs,rfl,C,⟨j,K⟩,f⟩;obtain⟨q,z,rfl⟩:=sc j;have i:hQ (ih o (w.heap.size+1) 52 (hH A 0 0)):=O ((f.block _ Y).trans H);have r:=ac F f;have Q:=O C;have R:=O j;have S:=O K;have YZ:=f.size;have U:=i.cell;have V:=i.frozen;clear C j K f
  go_wp2_with fail
  have K:=O (jZ o (w.heap.size+1) (hH q (cO (kB t d) (xs.mergeSort leI)).length z));have C:=(Boxed.set (hH q (cO (kB t d) (xs.mergeSort leI)).length z) i).cell;refine jJ (v:=je #[jg #[hH q (cO (kB t d) (xs.mergeSort leI)).length z],I N 0]) (by simp[results,results95,go_sem,C]) rfl ?_;refine⟨r.grown K (a8 r.size) (λj e=>by cases e;omega),λh=>absurd rfl h,λ_=>⟨_,xs,rfl,Q,?_⟩⟩;exact vx (B:=g.heap.size) (ql R (a:=⟨w.heap.size+1,0,A⟩) (by show w.heap.size+1<g.heap.size;omega) _) S
 obtain rfl:=x n;have b:=O n;clear x y s k m u l n
 go_wp2_with fail
 refine(II g).mono ?_;rintro e o ⟨rfl,f⟩;have i:hQ (ih o (w.heap.size+1) 52 (hH A 0 0)):=O ((f.block _ Y).trans H);have r:=ac F f;have U:=i.cell;have V:=i.frozen;clear f
 go_wp2_with fail
 have C:=(Boxed.set (hH A 0 0) i).cell;refine jJ (v:=je #[jg #[hH A 0 0],I N E]) (by simp[results,results95,go_sem,C]) rfl ?_;exact⟨r.grown (jZ o (w.heap.size+1) _) (a8 r.size) (λj e=>by cases e;omega),λ_=>rfl,λh=>absurd h b⟩
def cC(w:hK)(v:hZ)(l:List Int):Prop:=
 ∃p c,v=hH p l.length c/\l.length<=c/\(0<l.length->∃g o,p=T ⟨g,o,A⟩/\∀j,j<l.length->w.cell? ⟨g,o+j,A⟩=T (I N (l.getD j 0)))
theorem Mn(x:Int)(w:hK):ja ic 125 #[I N x] w λe w'=>e=ii (.bool (decide (bL x≠0)))/\hU w w w':=by
 go_enter func125,ntmps125
 go_wp2_with fail
 refine(fk x w).mono ?_;rintro e f ⟨rfl,a⟩;have b:=O a;clear a;obtain⟨c,a⟩:=J (bL x);rw[<-a];have d:=O a;clear a
 by_cases h:c=0
 ·subst h
  go_wp2_with fail
  go_ret;exact⟨by rw[<-d];rfl,b⟩
 have g:=ar (c=0);have a:=O h;clear h
 go_wp2_with fail
 go_ret;exact⟨by rw[<-d];simp[a.out,bne],b⟩
def gj(l:List Int):Prop:=∀j,j<l.length->bL (l.getD j 0)=0
theorem GX(l:List Int)(v:hZ)(w:hK)(h:cC w v l)(B:l.length<=1000000):
 ja ic 166 #[v,.func (.func 125) #[] #[]] w λe w'=>∃r,e=ii (I N r)/\hQ ((gj l->r= -1)/\(¬gj l->0<=r))/\hU w w w':=by
 obtain⟨p,c,rfl,C,b⟩:=h;have D:=O b;obtain⟨n,a⟩:=J l.length;have f:=O a;rw[<-a]at B C⊢;clear b a
 go_enter func166,ntmps166
 go_wp2_with fail
 go_loopw [8] (λi wr=>∃k:Nat,i=I N k/\k<=n/\hQ (∀j,j<k->bL (l.getD j 0)=0)/\hQ (hU w w wr)) (λi _=>n-(ji i).toNat)
 case atStart=>exact⟨0,rfl,jq _,O (λ_ h=>absurd h Y),O (jh _ _)⟩
 obtain⟨k,rfl,hk,q,i⟩:=hrel
 by_cases s:k<n
 ·have E:=ap ((k:Int)<(n:Int))
  have F:=ap (k<n);obtain⟨g,o,rfl,b⟩:=D.out (by rw[<-f];omega);have a:=b k (by rw[<-f];exact s);have H:wr.cell? ⟨g,o+k,A⟩=T (I N (l.getD k 0)):=bp a (i.block g (dR a));obtain⟨x,d⟩:=J (l.getD k 0);rw[<-d]at H;have t:=O d;clear b a d
  go_wp2_with fail
  refine(Mn x wr).mono ?_;rintro e K ⟨rfl,a⟩;have u:=ac i a;clear a
  by_cases a:bL x=0
  ·have d:decide (bL x≠0)=false:=by simp[a]
   rw[d];have m:=O a;clear d a
   go_wp2_with fail
   refine⟨⟨k+1,by go_num,by omega,O (λj y=>?_),u⟩,by simp only[ji];omega⟩
   rcases mz j k with z|z
   ·exact q j z
   obtain rfl:j=k:=Y;rw[<-t];exact m
  have d:decide (bL x≠0)=true:=by simp[a]
  rw[d];have m:=O a;clear d a
  go_wp2_with fail
  go_ret;exact⟨_,rfl,O ⟨λh=>absurd (by rw[t];exact h k (by rw[<-f];exact s)) m,λ_=>by omega⟩,u⟩
 have E:=ar ((k:Int)<(n:Int));have F:=ar (k<n);obtain rfl:k=n:=Y
 go_wp2_with fail
 go_ret;exact⟨_,rfl,O ⟨λ_=>rfl,λh=>absurd (λj y=>q j (by rw[f];exact y)) h⟩,i⟩
theorem Oj(l:List Int)(v:hZ)(w:hK)(h:cC w v l)(i:l.length<=1000000):
 ja ic 124 #[v,.func (.func 125) #[] #[]] w λe w'=>∃b,e=ii (.bool b)/\hQ ((gj l->b=false)/\(¬gj l->b=true))/\hU w w w':=by
 have d:=O (GX l v w h i);obtain⟨p,c,rfl,-,-⟩:=h
 go_enter func124,ntmps124
 go_wp2_with fail
 refine d.mono ?_;rintro e k ⟨r,rfl,a,f⟩;have g:=O f;clear f d
 by_cases f:0<=r
 ·have j:=ap (0<=r)
  have d:hQ (¬gj l):=O (λh=>by have:=a.1 h;omega);clear a
  go_wp2_with fail
  go_ret;exact⟨true,rfl,O ⟨λh=>absurd h d,λ_=>rfl⟩,g⟩
 have j:=ar (0<=r);have d:hQ (¬¬gj l):=O (λh=>absurd (a.2 h) f);clear a
 go_wp2_with fail
 go_ret;exact⟨false,rfl,O ⟨λ_=>rfl,λh=>absurd h d⟩,g⟩
def InQ(x:Int):Prop:=0<=x/\x<2305843009213688669
instance(x:Int):Decidable (InQ x):=by unfold InQ;infer_instance
theorem FG(x:Int)(w:hK):ja ic 204 #[I N x] w λe w'=>e=ii (.bool (decide (¬InQ x)))/\hU w w w':=by
 obtain⟨r,a⟩:=J (decide (¬InQ x));rw[<-a]
 by_cases c:x<0
 ·have b:=ap (x<0)
  obtain rfl:r=true:=by rw[a];simp[InQ];omega
  clear a
  go_enter func204,ntmps204
  go_wp2
  go_ret;exact⟨rfl,jh _ _⟩
 have b:=ar (x<0);obtain rfl:r=decide (2305843009213688669<=x):=by rw[a];simp[InQ];omega
 clear a
 go_enter func204,ntmps204
 go_wp2
 go_ret;exact⟨rfl,jh _ _⟩
def ge(l:List Int):Prop:=∀j,j<l.length->InQ (l.getD j 0)
theorem MV(l:List Int)(v:hZ)(w:hK)(h:cC w v l)(B:l.length<=1000000):
 ja ic 166 #[v,.func (.func 204) #[] #[]] w λe w'=>∃r,e=ii (I N r)/\hQ ((ge l->r= -1)/\(¬ge l->0<=r))/\hU w w w':=by
 obtain⟨p,c,rfl,C,b⟩:=h;have D:=O b;obtain⟨n,a⟩:=J l.length;have f:=O a;rw[<-a]at B C⊢;clear b a
 go_enter func166,ntmps166
 go_wp2_with fail
 go_loopw [8] (λi wr=>∃k:Nat,i=I N k/\k<=n/\hQ (∀j,j<k->InQ (l.getD j 0))/\hQ (hU w w wr)) (λi _=>n-(ji i).toNat)
 case atStart=>exact⟨0,rfl,jq _,O (λ_ h=>absurd h Y),O (jh _ _)⟩
 obtain⟨k,rfl,hk,q,i⟩:=hrel
 by_cases s:k<n
 ·have E:=ap ((k:Int)<(n:Int))
  have F:=ap (k<n);obtain⟨g,o,rfl,b⟩:=D.out (by rw[<-f];omega);have a:=b k (by rw[<-f];exact s);have H:wr.cell? ⟨g,o+k,A⟩=T (I N (l.getD k 0)):=bp a (i.block g (dR a));obtain⟨x,d⟩:=J (l.getD k 0);rw[<-d]at H;have t:=O d;clear b a d
  go_wp2_with fail
  refine(FG x wr).mono ?_;rintro e K ⟨rfl,a⟩;have u:=ac i a;clear a
  by_cases a:InQ x
  ·have d:decide (¬InQ x)=false:=by simp[a]
   rw[d];have m:=O a;clear d a
   go_wp2_with fail
   refine⟨⟨k+1,by go_num,by omega,O (λj y=>?_),u⟩,by simp only[ji];omega⟩
   rcases mz j k with z|z
   ·exact q j z
   obtain rfl:j=k:=Y;rw[<-t];exact m
  have d:decide (¬InQ x)=true:=by simp[a]
  rw[d];have m:=O a;clear d a
  go_wp2_with fail
  go_ret;exact⟨_,rfl,O ⟨λh=>absurd (by rw[t];exact h k (by rw[<-f];exact s)) m,λ_=>by omega⟩,u⟩
 have E:=ar ((k:Int)<(n:Int));have F:=ar (k<n);obtain rfl:k=n:=Y
 go_wp2_with fail
 go_ret;exact⟨_,rfl,O ⟨λ_=>rfl,λh=>absurd (λj y=>q j (by rw[f];exact y)) h⟩,i⟩
theorem Ky(l:List Int)(v:hZ)(w:hK)(h:cC w v l)(i:l.length<=1000000):
 ja ic 124 #[v,.func (.func 204) #[] #[]] w λe w'=>∃b,e=ii (.bool b)/\hQ ((ge l->b=false)/\(¬ge l->b=true))/\hU w w w':=by
 have d:=O (MV l v w h i);obtain⟨p,c,rfl,-,-⟩:=h
 go_enter func124,ntmps124
 go_wp2_with fail
 refine d.mono ?_;rintro e k ⟨r,rfl,a,f⟩;have g:=O f;clear f d
 by_cases f:0<=r
 ·have j:=ap (0<=r)
  have d:hQ (¬ge l):=O (λh=>by have:=a.1 h;omega);clear a
  go_wp2_with fail
  go_ret;exact⟨true,rfl,O ⟨λh=>absurd h d,λ_=>rfl⟩,g⟩
 have j:=ar (0<=r);have d:hQ (¬¬ge l):=O (λh=>absurd (a.2 h) f);clear a
 go_wp2_with fail
 go_ret;exact⟨false,rfl,O ⟨λ_=>rfl,λh=>absurd h d⟩,g⟩
theorem yj(l:List Int)(v:hZ)(w:hK)(h:cC w v l)(f:l.length<=1000000):
 ja ic 160 #[v] w λe w'=>∃a,e=ii (.bool a)/\hQ ((ge l->a=false)/\(¬ge l->a=true))/\hU w w w':=by
 have b:=O (Ky l v w h f);obtain⟨p,c,rfl,-,-⟩:=h
 go_enter func160,ntmps160
 go_wp2_with fail
 refine b.mono ?_;rintro e j ⟨r,rfl,g,d⟩;have i:=O d;clear d b
 go_wp2_with fail
 go_ret;exact⟨_,rfl,g,i⟩
theorem ma(w:hK)(x:Int):cC (w.alloc (hF #[I N x] 3)) (hH (T ⟨w,0,A⟩) 1 1) [x]:=
 ⟨_,_,rfl,jb _,λ_=>⟨_,_,rfl,λj a=>by
  obtain rfl:j=0:=by simp at a;omega
  exact cell_of (jn w _) rfl⟩⟩
theorem ky(w:hK)(x y:Int):cC (w.alloc (hF #[I N x,I N y] 3)) (hH (T ⟨w,0,A⟩) 2 2) [x,y]:=
 ⟨_,_,rfl,jb _,λ_=>⟨_,_,rfl,λj a=>by
  simp at a
  rcases(show j=0\/j=1 by omega)with rfl|rfl
  ·exact cell_of (jn w _) rfl
  exact cell_of (jn w _) rfl⟩⟩
theorem FP(x:Int):ge [x]↔InQ x:=⟨λh=>h 0 av,λh j a=>by
 obtain rfl:j=0:=by simp at a;omega
 exact h⟩
theorem Bt(x y:Int):ge [x,y]↔InQ x/\InQ y:=⟨λh=>⟨h 0 av,h 1 av⟩,λh j a=>by
 simp at a
 rcases(show j=0\/j=1 by omega)with rfl|rfl
 ·exact h.1
 exact h.2⟩
theorem wW{p:Prop}[Decidable p]{l:List Int}{b:Bool}(h:(ge l->b=false)/\(¬ge l->b=true))(e:ge l↔p):b=decide (¬p):=by
 by_cases a:p
 ·rw[h.1 (e.2 a)];simp[a]
 rw[h.2 (λg=>a (e.1 g))];simp[a]
def iK(x:Int):Int:=if InQ x then 0 else 1
theorem JL(x:Int)(w:hK):
 ja ic 121 #[I N x] w λe w'=>e=ii (I N (iK x))/\hU w w w':=by
 have a:=O (yj [x] _ _ (ma w x) av);have b:=O (af w (hF #[I N x] 3))
 go_enter func121,ntmps121
 go_wp2_with fail
 refine a.mono ?_;rintro e h ⟨r,rfl,c,d⟩;have f:=ac b d;have g:=O (wW c (FP x));clear d a b c
 cases r
 ·go_wp2_with fail
  go_ret;exact⟨by have:=g.out;simp at this;rw[iK,if_pos this];rfl,f⟩
 go_wp2_with fail
 go_ret;exact⟨by have:=g.out;simp at this;rw[iK,if_neg this];rfl,f⟩
theorem Gs(x y:Int)(w:hK)(a:InQ x)(b:InQ y):
 ja ic 114 #[I N x,I N y] w λe w'=>e=ii (je #[I N ((x+y)%2305843009213688669),I N 0])/\hU w w w':=by
 have c:=O (yj [x,y] _ _ (ky w x y) av);have d:=O (af w (hF #[I N x,I N y] 3));have f:=O a;have g:=O b;have j:0<=x+y:=by have:=a.1;have:=b.1;omega
 have k:x+y<4611686018427377338:=by have:=a.2;have:=b.2;omega
 have l:(x+y).tmod 2305843009213688669=(x+y)%2305843009213688669:=Int.tmod_eq_emod_of_nonneg Y;have m:=a.1;have n:=a.2;have o:=b.1;have p:=b.2;clear a b
 go_enter func114,ntmps114
 go_wp2_with fail
 refine c.mono ?_;rintro e q ⟨r,rfl,a,b⟩;have h:=ac d b;have i:=O (wW a (Bt x y));obtain rfl:r=false:=by rw[i];simp[f.out,g.out]
 clear b c d a
 go_wp2_with fail
 go_ret2;exact⟨rfl,h⟩
theorem LP(a b:Nat)(f:a<2305843009213688669)(g:b<2305843009213688669)(w:hK):
 ja ic 186 #[I jF a,I jF b] w λe w'=>∃c d:Nat,e=ii (je #[I jF c,I jF d])/\c<2305843009213688669/\d<18446744073709551616/\hQ (c*18446744073709551616+d=a*b)/\w=w':=by
 refine(yW a b Y Y w).mono ?_;rintro e w' ⟨rfl,rfl⟩;have h:a*b<=2305843009213688668*2305843009213688668:=Nat.mul_le_mul Y Y;refine⟨_,_,rfl,?_,o4 _ G,O (by rw[km];exact Nat.div_add_mod _ _),rfl⟩;generalize a*b=m at h;omega
theorem LK(a b:Nat)(f:a<2305843009213688669)(d:b<18446744073709551616)(w:hK):
 ja ic 187 #[I jF a,I jF b,I jF 2305843009213688669] w λe w'=>
  ∃(q:Int) (r:Nat),e=ii (je #[I jF q,I jF r])/\(r:Int)<2305843009213688669/\hQ (r=(a*18446744073709551616+b)%QN)/\hU w w w':=by
 rcases ms a with rfl|h
 ·refine(DivQ.div64_0 b d w).mono ?_
  rintro e w' ⟨q,rfl,c⟩;exact⟨q,_,rfl,by omega,O (by rw[Nat.zero_mul,ow];rfl),c⟩
 refine(DivQ.div64_1 a b h f d w).mono ?_;rintro e w' ⟨q,rfl,c⟩;exact⟨q,_,rfl,by omega,O rfl,c⟩
theorem Lw(a b:Nat)(c:a<2305843009213688669)(d:b<2305843009213688669)(w:hK):
 ja ic 161 #[I N a,I N b] w λe w'=>e=ii (I N ((a*b%QN:Nat):Int))/\hU w w w':=by
 have h:=O (LP a b c d)
 go_enter func161,ntmps161
 go_wp2_with fail
 refine(h _).mono ?_;rintro e m ⟨i,j,rfl,f,g,k,rfl⟩;have l:=O (LK i j f g);clear f g c d
 go_wp2_with fail
 refine(l _).mono ?_;rintro e g ⟨q,r,rfl,n,d,c⟩;have f:=O c;clear c
 go_wp2_with fail
 go_ret;exact⟨by rw[<-k,<-d];rfl,f⟩
theorem EU(x y:Nat)(w:hK)(a:x<2305843009213688669)(b:y<2305843009213688669):
 ja ic 113 #[I N x,I N y] w λe w'=>e=ii (je #[I N ((x*y%QN:Nat):Int),I N 0])/\hU w w w':=by
 have c:=O (yj [(x:Int),(y:Int)] _ _ (ky w x y) av);have d:=O (af w (hF #[I N x,I N y] 3));have f:hQ (InQ (x:Int)):=O ⟨by omega,by omega⟩;have g:hQ (InQ (y:Int)):=O ⟨by omega,by omega⟩;have h:=O (Lw x y a b);clear a b
 go_enter func113,ntmps113
 go_wp2_with fail
 refine c.mono ?_;rintro e k ⟨r,rfl,a,b⟩;have i:=ac d b;have j:=O (wW a (Bt x y));obtain rfl:r=false:=by rw[j];simp[f.out,g.out]
 clear b c d a
 go_wp2_with fail
 refine(h _).mono ?_;rintro e c ⟨rfl,a⟩;have b:=ac i a;clear a
 go_wp2_with fail
 go_ret2;exact⟨rfl,b⟩
def aG(a k:Nat):Nat:=a^k%PN
theorem Ig(a k b P:Nat)(c:1<P)(h:a^b%P=1):(a^k%P)^b%P=1:=by
 rw[<-Nat.pow_mod,<-Nat.pow_mul,km,Nat.pow_mul,Nat.pow_mod,h,Nat.one_pow,ob c]
theorem mQ{a:Nat}(h:aN a)(k:Nat):aN (aG a k:Nat):=by
 have c:a^QN%PN=1:=by have:=h.2.2;rwa [qW]at this
 have b:(aG a k)^QN%PN=1:=Ig a k QN PN (by rw[dX];decide) c;have d:aG a k<PN:=o4 _ (by rw[dX];decide);have e:1<=aG a k:=by
  rcases ms (aG a k)with h|h
  ·rw[h,Nat.zero_pow (by unfold QN;decide)]at b
   exact absurd b (by rw[Nat.zero_mod];decide)
  exact h
 rw[dX]at d;exact⟨by omega,by omega,by rw[qW];exact b⟩
theorem wU(a k:Nat)(b:aN a)(hk:k<2305843009213688669)(w:hK):
 ja ic 100 #[I N a,I N k] w λe w'=>e=ii (je #[I N (aG a k:Nat),I N 0])/\hU w w w':=by
 have c:=O (fk a w);rw[fq b]at c;have l:=b.2.1;have f:=O (Ar a k (by rw[dX];omega) Y);have m:decide ((k:Int)<0)=false:=by simp
 have n:=ar ((2305843009213688669:Int)<=(k:Int));clear b
 go_enter func100,ntmps100
 go_wp2_with fail
 refine c.mono ?_;rintro e o ⟨rfl,b⟩;have g:=O b;clear b c
 go_wp2_with fail
 refine(f _).mono ?_;rintro e p ⟨c,rfl,b,d⟩;have i:=ac g d;have q:(c:Int)<4611686018427377339:=by
  have h:=b.out;have j:c<PN:=by rw[h];exact o4 _ (by rw[dX];decide)
  rw[dX]at j;omega
 clear d
 go_wp2_with fail
 go_ret2;exact⟨by rw[aG,<-b];rfl,i⟩
theorem kV:aN 4:=by
 refine⟨by decide,by decide,?_⟩;rw[<-s8 _ QN 62 G]
 decide+kernel
theorem N9:aN 4:=kV
theorem tc(k:Nat)(hk:k<2305843009213688669)(w:hK):
 ja ic 98 #[I N k] w λe w'=>e=ii (je #[I N (aG 4 k:Nat),I N 0])/\hU w w w':=by
 have b:=O (wU 4 k N9 hk)
 go_enter func98,ntmps98
 go_wp2_with fail
 refine(b _).mono ?_;rintro e d ⟨rfl,a⟩;have c:=O a;clear a
 go_wp2_with fail
 go_ret2;exact⟨rfl,c⟩
theorem Kw(a b:Nat)(c:aN a)(d:aN b)(w:hK):
 ja ic 122 #[I N a,I N b] w λe w'=>e=ii (je #[I N (a*b%PN:Nat),I N 0])/\hU w w w':=by
 have o:∀W:hK,(Instr.index 252 (jg #[I N a,I N b]) (I N 0)).run ic W=.ok (I N a) W:=λW=>by
  have f:=underlying252;unfold Instr.index;simp[asIntOf,run_underlying f,part]
 have p:∀W:hK,(Instr.index 252 (jg #[I N a,I N b]) (I N 1)).run ic W=.ok (I N b) W:=λW=>by
  have f:=underlying252;unfold Instr.index;simp[asIntOf,run_underlying f,part]
 have g:=O (fk a);have j:=O (fk b);rw[fq c]at g;rw[fq d]at j;have q:=c.2.1;have r:=d.2.1;have l:=O (wL a b (by rw[dX];omega) (by rw[dX];omega));clear c d
 go_enter func122,ntmps122
 go_wp2_with fail
 go_loopw [12] (λi wr=>∃k:Nat,i=I N k/\k<=2/\hQ (hU w w wr)) (λi _=>(2-ji i).toNat)
 case atStart=>exact⟨0,rfl,by omega,O (jh _ _)⟩
 obtain⟨k,rfl,hk,d⟩:=hrel
 rcases(show k=0\/k=1\/k=2 by omega)with rfl|rfl|rfl
 ·go_wp2_with fail
  refine(g _).mono ?_;rintro e h ⟨rfl,c⟩;have f:=ac d c;clear c
  go_wp2_with fail
  go_roundw
  case rel=>exact⟨1,rfl,by omega,f⟩
  case measure=>simp only[ji];omega
 ·go_wp2_with fail
  refine(j _).mono ?_;rintro e h ⟨rfl,c⟩;have f:=ac d c;clear c
  go_wp2_with fail
  go_roundw
  case rel=>exact⟨2,rfl,by omega,f⟩
  case measure=>simp only[ji];omega
 go_wp2_with fail
 refine(l _).mono ?_;rintro e s ⟨c,rfl,f,i⟩;have m:=ac d i;have t:(c:Int)<4611686018427377339:=by
  have h:=f.out;have n:c<PN:=by rw[h];exact o4 _ (by rw[dX];decide)
  rw[dX]at n;omega
 clear i
 go_wp2_with fail
 go_ret2;exact⟨by rw[<-f];rfl,m⟩
theorem Ee(s:ByteArray)(g:s.size<=100000)(v:hZ)(l:LBy)(h:l.length<=900000)(w:hK)(b:BytesAt w v l)(a:dH w)(c:fw w):
 ja ic 151 #[jk s,v] w λe w'=>e=ii (I N (mK (aK s) l:Nat))/\hU w w w':=by
 have d:=O (ot s g v l h w b a c);have i:hQ ((cg (aK s) l).length=32):=O (gh _ _);obtain⟨m,n,rfl,-,-,-⟩:=b;clear a c
 go_enter func151,ntmps151
 go_wp2_with fail
 refine d.mono ?_;rintro e j ⟨rfl,c⟩;have a:=O (Np (cg (aK s) l) i j);obtain⟨o,f⟩:=J (((cg (aK s) l).map v8).toArray);rw[<-f]at a⊢;have k:=O c;clear c d f
 go_wp2_with fail
 refine a.mono ?_;rintro e p ⟨rfl,c⟩;have f:=ac k c;have d:=tK (cg (aK s) l);rw[o9]at d;clear c a;obtain⟨r,a⟩:=J (gE (cg (aK s) l));rw[<-a]at d⊢;have c:=O a;clear a
 go_wp2_with fail
 go_ret;exact⟨by rw[mK,<-c];simp,f⟩
def iy(kb b a c:LBy):LBy:=kb++b++fQ a.length 8++a++c
def mp(kb a b c:LBy):LBy:=(cg fC (iy kb a b c)).take 16
theorem nQ(kb nb hb cb):(mp kb nb hb cb).length=16:=by simp[mp,gh]
theorem F1(n:Nat)(c:n<9223372036854775808)(w:hK):
 ja ic 192 #[I N n] w λe w'=>∃g a,e=ii (hH (T ⟨g,0,A⟩) 8 a)/\hQ (BytesAt w' (hH (T ⟨g,0,A⟩) 8 a) (fQ n 8))/\hU w w w':=by
 refine(Gk n c w).mono ?_;rintro e w' ⟨v,rfl,b,d⟩;have f:BytesAt w' v (fQ n 8):=BytesAt.of_own (B:=w.heap.size) (by rw[zT];exact b)
 rcases b.2 with⟨rfl,h⟩|⟨g,a,i,rfl,j⟩
 ·exact absurd h G
 exact⟨g,a,rfl,f,d⟩
theorem Below.al{w w':hK}(h:hU w w w')(o:Obj):hU w w (w'.alloc o):=h.alloc h.size o
theorem Below.tr{w a b:hK}(h:hU w w a)(k:hU a a b):hU w w b:=h.trans (k.mono h.size)
theorem Below.dr{w w':hK}(h:hU w w w'):hU w w w'.drew:=⟨h.os,h.tape,h.output,h.size,h.block⟩
theorem Ji(b h X:hK)(kb c a d:LBy)(j k l m n:hZ)(p:BytesAt b j kb)(q:BytesAt b k c)(r:BytesAt h l (fQ a.length 8))(s:BytesAt b m a)(u:BytesAt b n d)
 (f:hU b b X) (w:hU h h X) (g:Nat) (t:jj) (x:X.heap[g]?=T (hF #[j,k,l,m,n] t (0,0))) (z:(iy kb c a d).length<=900000):
 ja ic 111 #[hH (T ⟨g,0,A⟩) 5 5] X λe w'=>∃v,e=ii v/\hQ (BytesAt w' v (iy kb c a d))/\hU X X w':=by
 have o:[kb,c,fQ a.length 8,a,d].flatten=iy kb c a d:=by simp[iy]
 refine(rU g 5 t [j,k,l,m,n] [kb,c,fQ a.length 8,a,d] rfl rfl (by rw[o];omega) X x ?_ G).mono ?_
 ·intro i y
  match i,y with
  |0,_=>exact p.below f
  |1,_=>exact q.below f
  |2,_=>exact r.below w
  |3,_=>exact s.below f
  |4,_=>exact u.below f
 rintro e w' ⟨v,rfl,i,y⟩;rw[o]at i;exact⟨v,rfl,BytesAt.of_own i,y⟩
theorem Ho(kb a b c:LBy)(hk:kb.length=32)(d:a.length=12):(iy kb a b c).length=52+b.length+c.length:=by
 simp[iy,hk,d,zT];omega
theorem tj(w:hK)(o a:Obj):((w.alloc o).alloc a).heap[w.heap.size+1]?=T a:=by
 have:=jn (w.alloc o) a
 rwa [jp]at this
theorem pi(w:hK)(a:Array hZ)(t:jj)(n:Nat)(h:a.size=n):(w.alloc (hF a t)).there w.heap.size 0 n:=λj d=>by
 have b:=jn w (hF a t);have c:j<a.size:=Y;simp only[jB,qy,b];simp[c]
theorem nC{w w':hK}{b n:Nat}(h:w.there b 0 n)(a:hU w w w'):w'.there b 0 n:=λj e=>by
 obtain⟨f,g⟩:=h j e;obtain⟨v,c⟩:=qx.1 f;have d:=iW c;exact⟨by rw[ff c (a.block _ d)];rfl,by rw[<-g];simp only[qy,a.block _ d]⟩
theorem thA{w w':hK}{a:Array hZ}{t:jj}(b:hU (w.alloc (hF a t)).drew.heap.size (w.alloc (hF a t)).drew w')(c:a.size=32):w'.there w.heap.size 0 32:=
 nC (w:=(w.alloc (hF a t)).drew) ((World.there_drew _ _ _ _).2 (pi w a t 32 c)) b
theorem thN{w w':hK}{a:Array hZ}{t:jj}(b:hU (w.alloc (hF a t)).heap.size (w.alloc (hF a t)) w')(c:a.size=32):w'.there w.heap.size 0 32:=nC (pi w a t 32 c) b
theorem K9{w w':hK}{a:Array hZ}{t:jj}{o:Obj}(b:hU ((w.alloc (hF a t)).alloc o).heap.size ((w.alloc (hF a t)).alloc o) w')(c:a.size=32):w'.there w.heap.size 0 32:=
 nC (qX (pi w a t 32 c) o) b
theorem L6{w w':hK}{a:Array hZ}{t:jj}{o:Obj}(b:hU ((w.alloc o).alloc (hF a t)).heap.size ((w.alloc o).alloc (hF a t)) w')(c:a.size=32):w'.there (w.heap.size+1) 0 32:=by
 have h:=pi (w.alloc o) a t 32 c;rw[jp]at h;exact nC h b
theorem thK{w w':hK}{b:Nat}{o:Obj}(h:w.there b 0 32)(a:hU (w.alloc o).heap.size (w.alloc o) w'):w'.there b 0 32:=nC (qX h o) a
theorem Below.cellsFrom{w w':hK}(h:hU w w w')(b:Nat)(c:w.heap.size<=b):∀(a:List hZ) (o:Nat),hU w w (w'.setCells b o a):=by
 intro a
 induction a generalizing w' with
 |nil=>intro o;exact h
 |cons v a d=>intro o;exact d (h.setCell c _) (o+1)
theorem Gi(kb a b d:LBy)(t u:hZ)(w:hK)(hk:kb.length=32)(o:a.length=12)(ad:b.length<=70000)(al:d.length<=70000)
 (x:BytesAt w t b) (y:BytesAt w u d) (i:dH w) (j:fw w):
 ja ic 153 #[jg (kb.map v8).toArray,jg (a.map v8).toArray,t,u] w λe w'=>
  ∃v,e=ii v/\BytesAt w' v (mp kb a b d)/\hU w w w':=by
 have c:(kb.map v8).toArray.size=32:=by simp[hk]
 have h:(a.map v8).toArray.size=12:=by simp[o]
 generalize k:(kb.map v8).toArray=f at c⊢;generalize l:(a.map v8).toArray=g at h⊢;have z:=O x;have B:=O y;obtain⟨ph,ch,rfl,-,-,-⟩:=x;obtain⟨pc,cc,rfl,-,-,-⟩:=y;have C:=O k;have D:=O l;have E:=O i;have F:=O j;have K:=O c;have M:=O h;clear k l c h i j
 go_enter func153,ntmps153
 go_upto_region 1 with fail
 have c:hU w w ((w.alloc (hF f 55)).alloc (hF g 178)):=
  ⟨rfl,rfl,rfl,by simp;omega,λk hk=>by rw[jo _ _ _ (by simp;omega),jo _ _ _ hk]⟩
 have i:BytesAt ((w.alloc (hF f 55)).alloc (hF g 178)) (hH (T ⟨w,0,A⟩) 32 32) kb:=by
  refine⟨_,32,by rw[hk],by rw[hk];exact jb _,λh=>(by cases h),λ_=>⟨w.heap.size,0,rfl,λj k=>?_⟩⟩;have h:bj ((w.alloc (hF f 55)).alloc (hF g 178)) w.heap.size 55 kb:=by
   show _ =T (Obj.cells (kb.map v8).toArray 55 (0,0));rw[C,jo _ _ _ av];exact jn w _
  rw[ow];exact h.cell k
 have l:BytesAt ((w.alloc (hF f 55)).alloc (hF g 178)) (hH (T ⟨w.heap.size+1,0,A⟩) 12 12) a:=by
  refine⟨_,12,by rw[o],by rw[o];exact jb _,λh=>(by cases h),λ_=>⟨w.heap.size+1,0,rfl,λj k=>?_⟩⟩;have h:bj ((w.alloc (hF f 55)).alloc (hF g 178)) (w.heap.size+1) 178 a:=by
   show _ =T (Obj.cells (a.map v8).toArray 178 (0,0));rw[D];have:=jn (w.alloc (hF f 55)) (hF g 178)
   simpa using this
  rw[ow];exact h.cell k
 have m:=z.below c;have p:=B.below c;have q:dH ((w.alloc (hF f 55)).alloc (hF g 178)):=E.below c (jb _);have r:fw ((w.alloc (hF f 55)).alloc (hF g 178)):=F.below c (jb _);obtain⟨n,s⟩:=J ((w.alloc (hF f 55)).alloc (hF g 178));rw[<-s]at c i l m p q r⊢;have H:=O c;have P:=O i;have Q:=O l;have R:=O m;have S:=O p;have U:=O q;have V:=O r;have W:hQ (w.heap.size+2<=n.heap.size):=O (by rw[s];simp);clear c i l m p q r s z B E F C D K M;have c:(iy kb a b d).length<=900000:=by rw[Ho _ _ _ _ hk o];omega
 have r:=O c;clear c;obtain⟨p,c⟩:=J ((cg fC (iy kb a b d)).map v8);have i:∀v w,BytesAt w v (iy kb a b d)->dH w->fw w->
  ja ic 90 #[jk ⟨#[116,97,103]⟩,v] w λe w'=>e=ii (jg p.toArray)/\hU w w w':=λv w l m q=>by
  rw[c];exact Fg v _ r.out w l m q
 have s:p.length=32:=by rw[c,ki,gh]
 have z:∀v∈p,v.oneCell'=true:=by rw[c];exact gs _
 have B:(ic.info? 23).map (·.size)=T 32:=B4;have C:=O i;have D:=O c;have E:=O s;clear i c;have au:w.heap.size+2<=n.heap.size:=W.out
 go_cut [9] (λv c=>∃m,v=jd (T ⟨m,0,A⟩)/\c.rangeAt m 0 p/\hU n n c)
 case first=>
  go_region_held3 (λw'=>True) (trivial) (first
   |(go_at_call 192;refine(F1 b.length Y _).mono ?_;rintro e F ⟨g1,a1,rfl,K,l⟩;try(have M:=thA l ag))
   |(go_at_call 111;refine(Ji n F _ kb a b d _ _ _ _ _ P.out Q K R S (by repeat (first|exact jh _ _ |refine Below.al ?_ _ |refine Below.dr ?_|refine Below.tr ?_ i|refine Below.tr ?_ c|refine Below.tr ?_ l)) (by repeat (first|exact jh _ _ |refine Below.al ?_ _ |refine Below.dr ?_|refine Below.tr ?_ i|refine Below.tr ?_ c|refine Below.tr ?_ l)) _ 32 (by first|exact jn _ _ |exact tj _ _ _ |exact(jo _ _ _ av).trans (jn _ _)) r).mono ?_;rintro e w2 ⟨v2,rfl,X,c⟩;first|(have q:=thK M c)|(have q:=K9 c ag)|(have q:=L6 c ag)|skip)
   |(go_at_call 90;refine(C _ _ (X.below (by repeat (first|exact jh _ _ |refine Below.al ?_ _ |refine Below.dr ?_|refine Below.tr ?_ i|refine Below.tr ?_ c|refine Below.tr ?_ l))) (U.below (by repeat (first|exact jh _ _ |refine Below.al ?_ _ |refine Below.dr ?_|refine Below.tr ?_ i|refine Below.tr ?_ c|refine Below.tr ?_ l)) (jb _)) (V.below (by repeat (first|exact jh _ _ |refine Below.al ?_ _ |refine Below.dr ?_|refine Below.tr ?_ i|refine Below.tr ?_ c|refine Below.tr ?_ l)) (jb _))).mono ?_;rintro e M ⟨rfl,i⟩;have a2:=pi M (aI) 23 32 ag;first|(have aa:=nC q i)|(have aa:=thN i ag)|skip))
  all_goals
   go_wp2_with fail
   go_meet
   refine⟨_,rfl,World.rangeAt_setCells_same _ _ _ _ (by rw[E];assumption),Below.cellsFrom ?_ _ ?_ _ _⟩
   ·repeat (first|exact jh _ _ |refine Below.al ?_ _ |refine Below.dr ?_|refine Below.tr ?_ i|refine Below.tr ?_ c|refine Below.tr ?_ l)
   have q:=l.size;have F:=c.size;have K:=i.size;simp only[jp,World.drew]at q F K;omega
 obtain⟨m,rfl,c,i⟩:=hcut;have l:∀j,j<16->wc.cell? ⟨m,0+j,A⟩=T (I .u8 ((mp kb a b d).getD j 0).toNat):=λj k=>by
  have q:j<(cg fC (iy kb a b d)).length:=by rw[gh];omega
  refine c j _ ?_;rw[D];simp[q,mp,jX,k]
 have q:=O l;have F:=O i;clear l i c s z B
 go_wp2
 go_ret;refine⟨_,rfl,⟨T ⟨m,0,A⟩,32,by rw[nQ];rfl,by rw[nQ];decide,λh=>(by cases h),λ_=>⟨m,0,rfl,λj k=>q j (by rw[nQ]at k;exact k)⟩⟩,?_⟩;exact H.trans (F.mono H.size)
def nck(a:Nat):Nat:=(a+63)/64
def ckl(a j:Nat):Nat:=min 64 (a-64*j)
theorem GD(p:Option jz)(n c:Nat)(w:hK):
 ja ic 190 #[hH p n c,I N 64] w λe w'=>
  e=ii (.func (.func 222) #[] #[jd (T ⟨w,0,A⟩),jd (T ⟨w.heap.size+1,0,A⟩)])/\
  w'=(w.alloc (hF #[hH p n c] 32)).alloc (hF #[I N 64] 3):=by
 go_enter func190,ntmps190
 go_wp2
 go_ret;exact⟨rfl,rfl⟩
theorem K7{P:jN}(t e:jj)(a:P.underlying t=T (.slice e))(b:∀w,(sizeOf e).run P w=.ok 1 w)(g n c l h:Nat)(d:l<=h)(f:h<=c)(i:l<h)(W:hK):
 (Instr.sliceAt t (hH (T ⟨g,0,A⟩) n c) (T (I N (l:Int))) (T (I N (h:Int))) (T (I N (h:Int)))).run P W=.ok (hH (T ⟨g,l,A⟩) (h-l) (h-l)) W:=by
 have he:P.elem t=e:=by simp[Program.elem,a]
 rw[run_sliceAt_slice W t _ _ _ _ (by rw[he];exact a),run_slice_lhm W t _ n c (by rw[he];exact a) .i64 .i64 .i64 _ _ _ Y Y Y Y,he];simp[b,Result.andThen,sliced,Addr.add];rw[if_neg Y]
 split<;>simp[*]
theorem NX(p:Option jz)(a d f:Nat)(hp:0<a->p=T ⟨f,0,A⟩)(hL:a<=d)(a3:a<=100000)(b c:Nat)(w:hK)
 (e:ih w b 32 (hH p a d)) (h:ih w c 3 (I N 64)):
 dI ic 222 #[jd (T ⟨b,0,A⟩),jd (T ⟨c,0,A⟩)] (λj:Nat=>#[hH (T ⟨f,64*j,A⟩) (ckl a j) (ckl a j)])
  (λk=>k=b\/k=c) 0 (λxs=>xs=jH (nck a)) (λ_=>True) (λg=>g<+:jH (nck a)) w:=by
 intro l g Jx W m r z s t;have B:ih W b 32 (hH p a d):=(m.block b e.lt).trans e;have C:ih W c 3 (I N 64):=(m.block c h.lt).trans h;clear e h;refine(jY (n:=0)).1 ?_;refine lo func222 rfl trivial ?_ rfl;simp only[ntmps222,jP,jt,jQ,jR,jS,jT,jU,jV,jW,jL,jM]
 gi_wp2
 gi_loopw [4] (λi wr=>W.heap.size<=wr.heap.size/\∃j:Nat,i=I N ((64*j:Nat):Int)/\j<=nck a/\hQ (g (jH j) (λk=>k=b\/k=c) wr)/\ih wr b 32 (hH p a d)/\ih wr c 3 (I N 64))
  (λi _=>100064-(ji i).toNat)
 case atStart=>
  exact⟨jb _,0,rfl,jq _,t,B,C⟩
 obtain⟨D,j,rfl,hj,i,u,v⟩:=hrel;have F:=u.cell;have H:=v.cell
 by_cases a4:64*j<a
 ·have x:j<nck a:=by unfold nck;omega
  obtain rfl:p=T ⟨f,0,A⟩:=hp Y;have e:jH j++[j]<+:jH (nck a):=by
   rw[<-qY];have:jH (j+1)=(jH (nck a)).take (j+1):=by
    rw[List.take_range,qv Y]
   rw[this];exact List.take_prefix _ _
  have HJ:hQ (bi W.heap.size g):=r;have HY:=O s;have aa:=O e;have hd:=ap (((64*j:Nat):Int)<(a:Int));have ad:=ap (64*(j:Int)<(a:Int));have E:∀W,(Instr.sliceAt 32 (hH (T ⟨f,0,A⟩) a d) (T (I N (64*(j:Int)))) A A).run ic W=.ok (hH (T ⟨f,64*j,A⟩) (a-64*j) (d-64*j)) W:=λW=>by
   have h:=tL (P:=ic) 32 5 qc gg f 0 a d (64*j) Y Y W
   simpa using h
  clear s t z m r e B C
  gi_wp2
  gi_region
  have e:(Min.min 64 ((a-64*j:Nat):Int))=((ckl a j:Nat):Int):=by unfold ckl;omega
  rw[e];have al:1<=ckl a j:=by unfold ckl;omega
  have au:ckl a j<=64:=by unfold ckl;omega
  have a1:64*j+ckl a j<=a:=by unfold ckl;omega
  have K:hQ (g (jH j) (λk=>k=b\/k=c) wr.drew):=HJ.keep i ⟨rfl,rfl,rfl,jb _,λ_ _ _=>.inl rfl⟩;have o:ih wr.drew b 32 (hH (T ⟨f,0,A⟩) a d):=u;have q:ih wr.drew c 3 (I N 64):=v;have M:W.heap.size<=wr.drew.heap.size:=D;obtain⟨wo,y⟩:=J wr.drew;rw[<-y]at K o q M⊢;clear y i u v D F H E e;obtain⟨fn,tmps,assign,body,Q,R⟩:=HY (jH j) j (λk=>k=b\/k=c) wo K (by rintro _ (rfl|rfl);exact o.lt;exact q.lt) aa;have F:=o.cell;have H:=q.cell;generalize ckl a j=E at Q al au a1⊢;have a5:∀W,(Instr.sliceAt 32 (hH (T ⟨f,0,A⟩) a d) (T (I N (64*(j:Int)))) (T (I N (64*(j:Int)+(E:Int)))) (T (I N (64*(j:Int)+(E:Int))))).run ic W=.ok (hH (T ⟨f,64*j,A⟩) E E) W:=λW=>by
   have h:=K7 (P:=ic) 32 5 qc gg f a d (64*j) (64*j+E) Y Y Y W;rw[show 64*j+E-64*j=E by omega]at h
   simpa using h
  gi_wp2
  refine⟨rfl,R.mono ?_⟩;rintro e S (⟨rfl,U,y,h⟩|⟨rfl,Uz,y,h⟩)
  ·have V:ih S b 32 (hH (T ⟨f,0,A⟩) a d):=(h b (.inl rfl)).trans o
   have X:ih S c 3 (I N 64):=(h c (.inr rfl)).trans q;have Yk:=V.cell;have ba:=X.cell;have a2:=y.size;clear h y R Q
   gi_wp2
   go_roundw
   case rel=>
    rw[<-qY]at U;exact⟨jl M a2,j+1,by go_num,by omega,U,V,X⟩
   case measure=>simp[ji];omega
  gi_wp2
  refine jJ (jD rfl _ _ _) rfl ?_;exact⟨⟨_,rfl⟩,.inr ⟨_,_,trivial,Uz⟩⟩
 have x:j=nck a:=by unfold nck at*;omega
 have ad:=ar (64*(j:Int)<(a:Int));have e:hQ (g (jH (nck a)) (λk=>k=b\/k=c) wr):=x▸i;clear i x s t r z m hj
 gi_wp2
 refine pr (jD rfl _ _ _) rfl ?_;exact⟨⟨_,rfl⟩,.inl ⟨_,_,rfl,e⟩⟩
section
attribute [local go_sem] Oper.semAt_some
def ksB(kb a:LBy)(i:Nat):BitVec 8:=(mH kb a (ju 32 (1+i/64))).getD (i%64) 0
def eB(kb a l:LBy):Nat->LBy
 |0=>l
 |n+1=>(eB kb a l n).set n ((eB kb a l n).getD n 0^^^ksB kb a n)
theorem KP(kb nb l n):(eB kb nb l n).length=l.length:=by induction n with
 |zero=>rfl
 |succ n a=>simp[eB,a]
def il(kb a l:LBy):LBy:=eB kb a l l.length
theorem vX(kb nb l):(il kb nb l).length=l.length:=KP _ _ _ _
theorem N8(x y:BitVec 8):bits .xor .u8 (x.toNat:Int) (y.toNat:Int)=((x^^^y).toNat:Int):=by
 have a:=x.isLt;have b:=y.isLt;have c:x.toNat%2^8=x.toNat:=ob a;have d:y.toNat%2^8=y.toNat:=ob b;have e:x.toNat^^^y.toNat<2^8:=qM a b;show IntKind.u8.wrap ((qZ 8 (x.toNat:Int)^^^qZ 8 (y.toNat:Int)).toNat:Int)=_;simp only[qN,qO,oi,c,d];exact IntWalk.u8_in _ Y
section
variable {P:jN} {F:Fence} {nF:Nat}
theorem mr{f:Array jI}{i:List jI}{o:jI}{a:Act}{w:hK}{j:Exit->Act->hK->Prop}(k:o.guard=A)(b:jj)(x:kl)(e:o.op=.load b x)
 (g:Nat) (l:a.eval x=jd (T ⟨g,0,A⟩)) (t:jj) (cs:Array hZ) (fr:Nat×Nat) (d:TypeDesc) (m:w.heap[g]?=T (hF cs t fr))
 (n:P.underlying b=T d) (p:(match d with| .struct _ | .array _ _=>true|_=>false)=true) (q:(P.info? b).map (·.size)=T cs.size)
 (h:wpListIn F nF P f j i (a.put o.dst (jg cs)) w):wpListIn F nF P f j (o::i) a w:=by
 refine wpListIn_plain k λu r=>?_
 unfold Oper.wpIn;refine⟨by simp[Oper.about,e],?_⟩;rw[Oper.semAt_plain F _ _ (by rw[e];intro c s;cases s)];simp only[j3,e,l,Instr.loadAt,Instr.sureAddr,Sem.run_bind,Sem.run_pure,Result.andThen_ok,run_loadVar_row w g t b cs fr d m n p q];exact r _ _ h
end
theorem EW{w:hK}{B:Nat}{e:jj}{g a n:Nat}{xs:List hZ}(h:w.ownsRow B e 1 (hH (T ⟨g,0,A⟩) n a) n xs)(i:Nat)(t:i<n)(x:hZ):
 (w.setCell ⟨g,i,A⟩ x).ownsRow B e 1 (hH (T ⟨g,0,A⟩) n a) n (xs.set i x):=by
 refine⟨by simpa using h.1,?_⟩
 rcases h.2 with⟨c,_⟩|⟨d,f,j,k,l,b,m,o,p,q⟩
 ·cases c
 obtain⟨rfl,rfl⟩:g=d/\a=f:=by simpa using k
 have r:=(jr.1 b).1;have s:w.heap[g]=_:=(jr.1 b).2;refine .inr ⟨g,a,j.setIfInBounds i x,rfl,l,?_,m,o,by simpa using p,?_⟩
 ·show(w.heap.modify g _)[g]?=_
  rw[Array.getElem?_modify];simp[r,s]
 rw[Array.toList_setIfInBounds,List.take_set,q]
theorem Eu{w:hK}{B:Nat}{g b n:Nat}{l:LBy}(h:w.ownsRow B 5 1 (hH (T ⟨g,0,A⟩) n b) n (l.map v8))(i:Nat)(p:i<n):
 w.cell? ⟨g,i,A⟩=T (I .u8 (l.getD i 0).toNat)/\w.frozen? ⟨g,i,A⟩=false:=by
 rcases h.2 with⟨d,_⟩|⟨e,f,j,k,q,m,r,s,t,o⟩
 ·cases d
 obtain⟨rfl,rfl⟩:g=e/\b=f:=by simpa using k
 have u:l.length=n:=by simpa using h.1
 have a:(j.toList.take (n*1))[i]?=(l.map v8)[i]?:=by rw[o]
 have c:i<l.length:=Y;simp only[jB,qy,m];rw[List.getElem?_take,if_pos Y]at a;simp[c]at a;simp[a,v8,jX,c]
theorem Hv{w:hK}{B n:Nat}{e:jj}{v:hZ}{xs:List hZ}(h:w.ownsRow B e 1 v n xs)(k:Nat)(hk:T k≠v.ownBlock)(x:hZ):(w.setCell ⟨k,0,A⟩ x).ownsRow B e 1 v n xs:=by
 refine⟨h.1,?_⟩
 rcases h.2 with a|⟨g,b,c,rfl,d,f,i⟩
 ·exact .inl a
 exact .inr ⟨g,b,c,rfl,d,(qt _ _ _ _ (show g≠k from λe=>hk (by rw[<-e];rfl))).trans f,i⟩
theorem own_below{w w':hK}{B n m:Nat}{e:jj}{v:hZ}{xs:List hZ}(h:w.ownsRow B e 1 v n xs)(a:hU m w w')(b:∀j,v.ownBlock=T j->j<m):w'.ownsRow B e 1 v n xs:=by
 refine⟨h.1,?_⟩
 rcases h.2 with c|⟨g,d,f,rfl,i,j,k⟩
 ·exact .inl c
 exact .inr ⟨g,d,f,rfl,i,(a.block _ (b g rfl)).trans j,k⟩
theorem ET{a:List Nat}{x n:Nat}(h:a++[x]<+:jH n):x=a.length/\a.length<n:=by
 have b:a.length<n:=by have:=h.length_le;simp at this;omega
 refine⟨?_,b⟩;obtain⟨t,d⟩:=h;have c:=congrArg (λm=>m[a.length]?) d;simp[b]at c;exact c
theorem GZ{β:Type}(B0 base:Nat)(e:jj)(size:Nat)(v:hZ)(n:β->Nat)(f:β->List hZ):
 bi B0 (λs Ψ W=>W.ownsRow base e size v (n s) (f s)/\∀j,v.ownBlock=T j->¬Ψ j):=by
 rintro s Ψ d l B ⟨a,g⟩ i m k;have b:∀j,v.ownBlock=T j->¬d j:=λj c h=>by
  rcases k _ h with h|h
  ·exact g j c h
  have:=(a.lt j c).2;omega
 exact⟨i.row a b,b⟩
theorem Cf{β:Type}(B0 b:Nat)(C:Array hZ)(t:jj)(fr:Nat×Nat):bi B0 (fun(_:β) Ψ W=>W.heap[b]?=T (hF C t fr)/\¬Ψ b):=by
 rintro s Ψ d i B ⟨a,e⟩ f j g;have c:¬d b:=λh=>by rcases g _ h with h|h;exact e h;have:=(jr.1 a).1;omega
 exact⟨f.cells a c,c⟩
theorem J9(d:jz)(c:Nat)(w:hK):
 ja ic 189 #[hH (T d) 0 c] w λe w'=>∃v,e=ii v/\w'.ownsRow w 5 1 v 0 []/\hU w w w':=by
 have q:∀(w:hK) (a:Option jz) (n c n' b:Nat),(binOp .eql 32 (hH a n c) (hH A n' b)).run ic w=.ok (.bool a.isNone) w:=λw a n c n' b=>Lib.run_eql_slice_nil w _ _ a n c n' b qc
 obtain⟨i,l,m,o,p⟩:=qb pY;have f:(w.alloc (hF #[] 5)).ownsRow w.heap.size 5 1 (hH (T ⟨w,0,A⟩) 0 0) 0 []:=
  ⟨rfl,.inr ⟨w.heap.size,0,#[],rfl,jb _,jn w _,jb _,by unfold jC;omega,rfl,rfl⟩⟩
 have g:=O f;clear f
 go_enter func189,ntmps189
 go_wp2_with (at_builtin;refine qD _ rfl _ _ 32 rfl w.heap.size 5 i (I .u8 0) 1 1 qc l m o p rfl G _ _ _ rfl g d 0 c [] rfl rfl (λj f h=>(by cases h)) (λf h=>(by cases h)) (by unfold jC;omega) Y av ?_;intro f r h j _)
 go_ret;refine⟨f,rfl,by simpa using h,?_⟩;exact Below.grown (w:=w.alloc (hF #[] 5)) ⟨rfl,rfl,rfl,by simp,λk hk=>jo _ _ _ hk⟩ j av (λk e=>(g.lt k e).1)
theorem vz{w:hK}{B n:Nat}{v:hZ}{xs:List hZ}(h:w.ownsRow B 5 1 v n xs):
 ∃p c,v=hH p n c/\n<=c/\(0<n->∃g,p=T ⟨g,0,A⟩/\B<=g/\g<w.heap.size):=by
 rcases h.2 with⟨rfl,a⟩|⟨g,b,i,rfl,d,e,f,j,k,l⟩
 ·exact⟨A,0,by rw[a],by omega,λh=>by omega⟩
 exact⟨_,b,rfl,f,λ_=>⟨g,rfl,d,(jr.1 e).1⟩⟩
theorem FW(v:hZ)(l:LBy)(i:l.length<=1000000)(w:hK)(h:BytesAt w v l):
 ja ic 189 #[v] w λe w'=>∃p c,e=ii (hH p l.length c)/\hQ (w'.ownsRow w 5 1 (hH p l.length c) l.length (l.map v8))/\hU w w w'/\l.length<=c/\
  hQ (0<l.length->∃g,p=T ⟨g,0,A⟩/\w.heap.size<=g/\g<w'.heap.size):=by
 have a:∀(e:Ending) (w':hK),(∃v,e=ii v/\w'.ownsRow w 5 1 v l.length (l.map v8)/\hU w w w')->∃p c,e=ii (hH p l.length c)/\hQ (w'.ownsRow w 5 1 (hH p l.length c) l.length (l.map v8))/\hU w w w'/\l.length<=c/\
  hQ (0<l.length->∃g,p=T ⟨g,0,A⟩/\w.heap.size<=g/\g<w'.heap.size):=by
  rintro e w' ⟨v,rfl,f,j⟩;obtain⟨p,c,rfl,b,d⟩:=vz f;exact⟨p,c,rfl,f,j,b,d⟩
 obtain⟨p,c,rfl,n,j,k⟩:=h
 rcases ms l.length with f|f
 ·obtain rfl:l=[]:=qg f
  rcases p with _|m
  ·obtain rfl:=j rfl
   exact(F5 w).mono λe w' ⟨b,d⟩=>a e w' ⟨_,b,j0 _ _ _ _,d▸jh _ _⟩
  exact(J9 m c w).mono a
 obtain⟨g,o,rfl,b⟩:=k f;exact(Oe g o c l i w b).mono a
theorem LQ(kb f l:LBy)(v:hZ)(w:hK)(hk:kb.length=32)(hn:f.length=12)(hl:l.length<=65536)(hv:BytesAt w v l)(i:oI w):
 ja ic 152 #[jg (kb.map v8).toArray,jg (f.map v8).toArray,v] w λe w'=>
  ∃a,e=ii (je #[a,I N 0])/\w'.ownsRow w 5 1 a l.length ((il kb f l).map v8)/\hU w w w':=by
 have d:(kb.map v8).toArray.size=32:=by simp[hk]
 have g:(f.map v8).toArray.size=12:=by simp[hn]
 have a:=λc w h=>Fs kb f c w hk hn h
 generalize m:(kb.map v8).toArray=z at d a⊢;generalize o:(f.map v8).toArray=B at g a⊢;have j:hU w w ((w.alloc (hF z 55)).alloc (hF B 178)):=
  ⟨rfl,rfl,rfl,by simp;omega,λk hk=>by rw[jo _ _ _ (by simp;omega),jo _ _ _ hk]⟩
 have HB:=O j;have HF:=O a;have HV:=O hv;have HT:=O i;have Ul:=O d;have bk:=O g;obtain⟨pv,cv,rfl,-,-,-⟩:=hv;have h1:=ar ((65536:Int)<(l.length:Int));clear a i m o d g j;refine(jY (n:=0)).1 ?_;refine qj func152 rfl trivial ?_ rfl;simp only[ntmps152,jP,jt,jQ,jR,jS,jT,jU,jV,jW,jL,jM]
 gi_wp2_with fail
 refine⟨trivial,rfl,(callsIn_wide.2 (FW _ l Y _ (HV.below HB))).mono ?_⟩;rintro e q ⟨p,c,rfl,r,d,bl,t⟩;have a:=O d;clear d
 gi_wp2_with fail
 refine⟨trivial,rfl,(callsIn_wide.2 (GD p l.length c _)).mono ?_⟩;rintro e w' ⟨rfl,rfl⟩
 gi_wp2_with fail
 have a3:hU w w (((q.alloc (hF #[I js 1] 267)).alloc (hF #[hH p l.length c] 32)).alloc (hF #[I N 64] 3)):=by
  have h:=HB.trans (a.mono HB.size);exact((h.alloc h.size _).alloc (by have:=h.size;simp;omega) _).alloc (by have:=h.size;simp;omega) _
 have a4:(((q.alloc (hF #[I js 1] 267)).alloc (hF #[hH p l.length c] 32)).alloc (hF #[I N 64] 3)).heap[w.heap.size]?=T (hF z 55 (0,0)):=by
  have M:=a.size;simp at M;rw[jo _ _ _ (by simp;omega),jo _ _ _ (by simp;omega),jo _ _ _ Y,a.block _ (by simp;omega)];exact(jo _ _ _ av).trans (jn w _)
 have a5:(((q.alloc (hF #[I js 1] 267)).alloc (hF #[hH p l.length c] 32)).alloc (hF #[I N 64] 3)).heap[w.heap.size+1]?=T (hF B 178 (0,0)):=by
  have M:=a.size;simp at M;rw[jo _ _ _ (by simp;omega),jo _ _ _ (by simp;omega),jo _ _ _ Y,a.block _ av];exact tj w _ _
 have ad:ih (((q.alloc (hF #[I js 1] 267)).alloc (hF #[hH p l.length c] 32)).alloc (hF #[I N 64] 3)) q.heap.size 267 (I js ((ju 32 (1+0)).toNat:Int)):=
  ((Boxed.new q _ _).alloc _).alloc _
 have S:ih (((q.alloc (hF #[I js 1] 267)).alloc (hF #[hH p l.length c] 32)).alloc (hF #[I N 64] 3)) (q.heap.size+1) 32 (hH p l.length c):=by
  have:=Boxed.new (q.alloc (hF #[I js 1] 267)) 32 (hH p l.length c);rw[jp]at this;exact this.alloc _
 have U:ih (((q.alloc (hF #[I js 1] 267)).alloc (hF #[hH p l.length c] 32)).alloc (hF #[I N 64] 3)) (q.heap.size+1+1) 3 (I N 64):=by
  have:=Boxed.new ((q.alloc (hF #[I js 1] 267)).alloc (hF #[hH p l.length c] 32)) 3 (I N 64);rw[jp,jp]at this;exact this
 have al:=(((r.alloc (hF #[I js 1] 267)).alloc (hF #[hH p l.length c] 32)).alloc (hF #[I N 64] 3));have au:(((q.alloc (hF #[I js 1] 267)).alloc (hF #[hH p l.length c] 32)).alloc (hF #[I N 64] 3)).heap.size=q.heap.size+3:=by simp
 have bm:w.heap.size+2<=q.heap.size:=by have M:=a.size;simp at M;omega
 have s:((w.alloc (hF z 55)).alloc (hF B 178)).heap.size=w.heap.size+2:=by simp
 rw[s]at al;obtain⟨W0,u⟩:=J ((((q.alloc (hF #[I js 1] 267)).alloc (hF #[hH p l.length c] 32)).alloc (hF #[I N 64] 3)));rw[<-u]at a3 a4 a5 ad S U al au⊢;obtain⟨i,m⟩:=J q.heap.size;have x:0<l.length->∃g,p=T ⟨g,0,A⟩/\w.heap.size+2<=g/\g<i:=by rw[m,<-s];exact t
 rw[<-m]at ad S U au bm⊢;obtain⟨d,y,C⟩:∃d,(0<l.length->p=T ⟨d,0,A⟩)/\(0<l.length->d<i):=by
  rcases ms l.length with j|j
  ·exact⟨0,λh=>by omega,λh=>by omega⟩
  obtain⟨g,o,_,D⟩:=x j;exact⟨g,λ_=>o,λ_=>D⟩
 have bn:∀j,(jy p l.length c).ownBlock=T j->j<i:=by
  rw[m];intro j o;exact(r.lt j o).2
 have a1:=O au;have Qq:=O y;have Za:=O bn;clear u m r a t x s C y;refine nK (n:=0) (gf:=222) (lb:=#[jd (T ⟨i+1,0,A⟩),jd (T ⟨i+1+1,0,A⟩)]) rfl (p6 func222 ae rfl)
  (NX p l.length c d Qq bl Y (i+1) (i+1+1) W0 S U) (jq _) (λ_=>rfl) (by rintro k (rfl|rfl);exact S.lt;exact U.lt)
  (λr Ψ W=>(W.ownsRow (w.heap.size+2) 5 1 (hH p l.length c) l.length ((eB kb f l (min (64*r.length) l.length)).map v8)/\∀j,(jy p l.length c).ownBlock=T j->¬Ψ j)/\
   (ih W i 267 (I js ((ju 32 (1+r.length)).toNat:Int))/\¬Ψ i)/\
   (W.heap[w.heap.size]?=T (hF z 55 (0,0))/\¬Ψ w.heap.size)/\(W.heap[w.heap.size+1]?=T (hF B 178 (0,0))/\¬Ψ (w.heap.size+1))/\
   (hU w w W/\∀k,Ψ k->w.heap.size<=k))
  (λ_ _ _ _=>False)
  ((GZ W0.heap.size (w.heap.size+2) 5 1 (hH p l.length c) (λ_=>l.length) (λr:List Nat=>(eB kb f l (min (64*r.length) l.length)).map v8)).and ((gH _ _ _ (λr:List Nat=>I js ((ju 32 (1+r.length)).toNat:Int))).and
   ((Cf _ _ _ _ _).and ((Cf _ _ _ _ _).and (k7 _ _ w (jb _) (aw a1))))))
  (λ_=>eY _ _)
  ⟨⟨by simpa [eB]using al,λj o=>by have:=Za j o;omega⟩,⟨ad,by omega⟩,⟨a4,by omega⟩,⟨a5,by omega⟩,a3,by rintro k (rfl|rfl)<;>omega⟩
  (λx ba _ _=>ba={tmps:=((Value.agg z)::(Value.agg B)::(jy pv l.length cv)::(qz (T ⟨w,0,A⟩))::(qz (T ⟨w.heap.size+1,0,A⟩))::jc::(jy p l.length c)::(jm .i64 0)::(qz (T ⟨i,0,A⟩))::(jy (T ⟨d,64*x,A⟩) (ckl l.length x) (ckl l.length x))::jc::jc::(jy pv l.length cv)::(jm .i64 l.length)::(Value.bool false)::(jy pv l.length cv)::(jy p l.length c)::(jy p l.length c)::(Value.func (.func 222) #[] #[jd (T ⟨i+1,0,A⟩),jd (T ⟨i+1+1,0,A⟩)])::(jy (T ⟨d,64*x,A⟩) (ckl l.length x) (ckl l.length x))::jc::jc::jc::jc::jc::jc::jc::jc::jc::jc::jc::jc::jc::jc::jc::jc::jc::jc::jc::jc::jc::jc::jc::jc::[]).toArray,defers:=[]}) (eY _ _)
  ?assign ?body ?done ?stop
 case assign=>
  intro ll r x Ψ s K a _ Q
  gi_wp2
  exact Q _ _ (jh _ _) a rfl
 case body=>
  rintro ll r x Ψ ba s ⟨⟨y,TK⟩,⟨C,a2⟩,⟨Q,bb⟩,⟨hN,bc⟩,F,hΨ⟩ rfl t Uk bI Vf;obtain⟨rfl,T4⟩:=ET t;obtain⟨a,m⟩:=J r.length;have u:(r++[a]).length=a+1:=by rw[m];simp
  have PV:=O u;rw[<-m]at y C T4⊢;have hL:64*a<l.length:=by unfold nck at T4;omega
  obtain rfl:p=T ⟨d,0,A⟩:=Qq Y;clear t m u;obtain⟨t,m⟩:=J (ju 32 (1+a));rw[<-m]at C;have bd:=O m;clear m;have m:oI s:=(Lib.tabBelow_of_tabIs HT) _ F;have bo:=O m;have V:=O F;have u:=O y;have bf:=O TK;have HK:=O Q;have HN:=O hN;have Su:=C.cell;have HC:=O C;clear m F y TK Q hN C
  gi_upto_region 7 with fail
  refine wpIn_region_lit ?_;refine mr rfl 55 _ rfl w.heap.size rfl 55 z (0,0) _ HK.out qE rfl (by rw[Ul];rfl) ?_;refine mr rfl 178 _ rfl (w.heap.size+1) rfl 178 B (0,0) _ HN.out qF rfl (by rw[bk];rfl) ?_
  gi_wp2_with fail
  refine⟨trivial,rfl,CallsIn.inRound ll (callsIn_wide.2 ((HF t s bo).mono ?_))⟩;rintro e K ⟨vb,rfl,H,E⟩;obtain⟨p2,c2,rfl,bK,bq⟩:=vz H;obtain⟨D,rfl,RO,bM⟩:=bq G;have R:∀m,m<64->K.cell? ⟨D,m,A⟩=T (I .u8 ((mH kb f t).getD m 0).toNat):=λm hm=>(Eu H m hm).1
  have bN:d<s.heap.size:=(u.lt d rfl).2;have br:i<s.heap.size:=HC.lt;have X:K.ownsRow (w.heap.size+2) 5 1 (hH (T ⟨d,0,A⟩) l.length c) l.length ((eB kb f l (64*a+0)).map v8):=by
   have h:=u.out;rw[qv Y]at h;exact own_below h E (by intro j o;exact(u.lt j o).2)
  have o:ih K i 267 (I js (t.toNat:Int)):=(E.block _ br).trans HC;have bs:=O R;have bu:=O X;have Pu:=O o;have O4:=O E;have bv:1<=ckl l.length a:=by unfold ckl;omega
  have bw:ckl l.length a<=64:=by unfold ckl;omega
  have aa:64*a+ckl l.length a=min (64*(a+1)) l.length:=by unfold ckl;omega
  have bA:64*a+ckl l.length a<=l.length:=by unfold ckl;omega
  have Sj:=O aa;have bO:d<K.heap.size:=Y;clear aa R X o E H Su;generalize ckl l.length a=E at bv bw Sj bA⊢;have X:∀W,(Instr.sliceAt 32 (hH (T ⟨D,0,A⟩) 64 c2) A (T (I N (E:Int))) A).run ic W=.ok (hH (T ⟨D,0,A⟩) E c2) W:=
   rH (P:=ic) 32 5 qc gg D 0 64 c2 E Y Y
  gi_wp2_with fail
  clear X
  gi_loopw [28] (λo H=>∃m:Nat,o=I N m/\m<=E/\hQ (H.ownsRow (w.heap.size+2) 5 1 (hH (T ⟨d,0,A⟩) l.length c) l.length ((eB kb f l (64*a+m)).map v8))/\hQ (aM d K H)) (λo _=>(64-ji o).toNat)
  case atStart=>exact⟨0,rfl,by omega,bu,aM.refl _ _⟩
  obtain⟨m,rfl,hm,o,H⟩:=hrel
  by_cases bT:m<E
  ·have hd:=ap ((m:Int)<(E:Int))
   have Ss:wr.cell? ⟨D,m,A⟩=T (I .u8 ((mH kb f t).getD m 0).toNat):=ff (bs m Y) (H.block _ (by show D≠d;omega));obtain⟨RU,bg⟩:=Eu o (64*a+m) Y;have R:eB kb f l (64*a+(m+1))=(eB kb f l (64*a+m)).set (64*a+m) ((eB kb f l (64*a+m)).getD (64*a+m) 0^^^(mH kb f t).getD m 0):=by
    show(eB kb f l (64*a+m)).set _ (_ ^^^ksB kb f (64*a+m))=_;rw[ksB,show(64*a+m)/64=a by omega,show(64*a+m)%64=m by omega,bd]
    rfl
   generalize(mH kb f t).getD m 0=kx at Ss R;generalize(eB kb f l (64*a+m)).getD (64*a+m) 0=px at RU R;have aa:=O R;clear R
   gi_wp2
   go_roundw
   case rel=>
    refine⟨m+1,by go_num,by omega,?_,H.trans (aM.setCell _ _ _ _)⟩;have h:=EW o (64*a+m) Y (I .u8 (px^^^kx).toNat);rw[N8,aa,List.map_set];exact h
   case measure=>simp[ji];omega
  have hd:=ar ((m:Int)<(E:Int));have aa:m=E:=Y;have PH:hQ (wr.ownsRow (w.heap.size+2) 5 1 (hH (T ⟨d,0,A⟩) l.length c) l.length ((eB kb f l (min (64*(a+1)) l.length)).map v8)):=by
   have h:=o;rw[aa,Sj]at h;exact h
  have R:ih wr i 267 (I js (t.toNat:Int)):=(H.block _ (by have:=Za d rfl;show i≠d;omega)).trans Pu;have b0:=R.cell;have b1:=R.frozen;have bB:=O R;clear aa o R
  gi_wp2
  have Y9:((t.toNat:Int)+1)%4294967296=((ju 32 (1+(a+1))).toNat:Int):=by rw[bd,oi,oi];omega
  rw[Y9];have bC:¬Ψ d:=bf d rfl;have R:∀k,k<s.heap.size->k≠d->k≠i->(wr.setCell ⟨i,0,A⟩ (I js ((ju 32 (1+(a+1))).toNat:Int))).heap[k]?=s.heap[k]?:=λk h1 h2 h3=>by
   rw[qt _ _ _ _ (show k≠i from h3),H.block k h2,O4.block k h1]
  have bg:s.heap.size<=(wr.setCell ⟨i,0,A⟩ (I js ((ju 32 (1+(a+1))).toNat:Int))).heap.size:=by
   have h1:=O4.size;have h2:=H.size;simp only[World.setCell,Array.size_modify];omega
  have b2:=a1.out;have b3:=Za d rfl;have bh:=PV.out;have aa:hU 0 s (wr.setCell ⟨i,0,A⟩ (I js ((ju 32 (1+(a+1))).toNat:Int))):=
   ((O4.mono (jq _)).trans (H.below (jq _))).setCell (jq _) _
  refine⟨⟨⟨bg,λk o hk hA ho=>?_⟩,aa,λk hk=>?_⟩,⟨?_,bf⟩,⟨?_,a2⟩,⟨?_,bb⟩,⟨?_,bc⟩,?_,hΨ⟩
  ·exact(R k (jr.1 hA).1 Y Y).trans hA
  ·exact R k (Uk k hk) (λe=>bC (e▸hk)) (λe=>a2 (e▸hk))
  ·show World.ownsRow _ _ _ _ _ _ (List.map v8 (eB kb f l (min (64*(r++[a]).length) l.length)))
   rw[bh];exact Hv PH i (λe=>by
    have h:d=i:=by simpa [j9]using e.symm
    omega) _
  ·show ih _ _ _ (I js ((ju 32 (1+(r++[a]).length)).toNat:Int))
   rw[bh];exact bB.set _
  ·exact(R _ (jr.1 HK).1 (by have:=(u.lt d rfl).1;omega) Y).trans HK
  ·exact(R _ (jr.1 HN).1 (by have:=(u.lt d rfl).1;omega) Y).trans HN
  refine V.trans ⟨aa.os,aa.tape,aa.output,bg,λk hk=>?_⟩;exact R k (a8 V.size) (by have:=(u.lt d rfl).1;omega) Y
 case done=>
  rintro D xs Ψ W k rfl ⟨⟨y,TK⟩,⟨C,a2⟩,⟨Q,bb⟩,⟨hN,bc⟩,F,hΨ⟩ a;have X:eB kb f l (min (64*(jH (nck l.length)).length) l.length)=il kb f l:=by
   rw[List.length_range,Nat.min_eq_right (by unfold nck;omega)];rfl
  rw[X]at y;have u:=O y;have V:=O F;clear y F X
  gi_wp2
  refine⟨by simp,.inl ⟨_,_,rfl,j6 (b:=D) (ds:=[]) a,?_⟩⟩;refine⟨je #[hH p l.length c,I N 0],by simp[results,results152,go_sem],_,rfl,?_,?_⟩
  ·exact kX (qC u _ a rfl) Y
  exact V.trans (gZ (aw a1))
 intro D a r Ψ W _ _ h;exact h.elim
end
def sU(kb a b l:LBy):LBy:=il kb a l++mp kb a b (il kb a l)
theorem Nz(kb nb hb l):(sU kb nb hb l).length=l.length+16:=by simp[sU,vX,nQ]
structure iB(w:hK):Prop where
 num:dH w
 start:fw w
 const:oI w
theorem iB.below{w w':hK}(h:iB w)(a:hU w w w'):iB w':=
 ⟨h.num.below a (jb _),h.start.below a (jb _),(Lib.tabBelow_of_tabIs h.const) _ a⟩
theorem I9(kb a c l:LBy)(p v:hZ)(w:hK)(hk:kb.length=32)(q:a.length=12)(Q:c.length<=70000)(R:l.length<=65536)(o:BytesAt w p c)(t:BytesAt w v l)(u:iB w):
 ja ic 101 #[jg (kb.map v8).toArray,jg (a.map v8).toArray,p,v] w λe w'=>
  ∃r,e=ii (je #[r,I N 0])/\w'.ownsRow w 5 1 r (l.length+16) ((sU kb a c l).map v8)/\hU w w w':=by
 have i:(kb.map v8).toArray.size=32:=by simp[hk]
 have j:(a.map v8).toArray.size=12:=by simp[q]
 have b:=λv w h n=>LQ kb a l v w hk q R h n
 have g:=λS w z n B U=>Gi kb a c (il kb a l) p S w hk q Q (by rw[vX];omega) z n B U
 generalize x:(kb.map v8).toArray=d at i b g⊢;generalize y:(a.map v8).toArray=f at j b g⊢;have m:hU w w ((w.alloc (hF d 55)).alloc (hF f 178)):=
  ⟨rfl,rfl,rfl,by simp;omega,λk hk=>by rw[jo _ _ _ (by simp;omega),jo _ _ _ hk]⟩
 have C:=O m;have V:=O b;have W:=O g;have X:=O (t.below m);have aa:=O o;have s:=O u;have D:=O i;have E:=O j;clear b g u x y i j m t o
 go_enter func101,ntmps101
 go_upto_region 1 with fail
 refine wp_region_lit ?_;refine qm rfl 55 _ rfl w.heap.size rfl 55 d (0,0) _ ((jo _ _ _ av).trans (jn w _)) qE rfl (by rw[D];rfl) ?_;refine qm rfl 178 _ rfl (w.heap.size+1) rfl 178 f (0,0) _ (tj w _ _) qF rfl (by rw[E];rfl) ?_
 go_wp2_with fail
 refine(V v _ X.out (s.below C).const).mono ?_;rintro e g ⟨r,rfl,i,o⟩;obtain⟨t,u,rfl,au,-⟩:=vz i;have x:l.length=(il kb a l).length:=(vX _ _ _).symm;have b:g.ownsRow (w.heap.size+2) 5 1 (hH t l.length u) (il kb a l).length ((il kb a l).map v8):=by
  rw[<-x];have j:((w.alloc (hF d 55)).alloc (hF f 178)).heap.size=w.heap.size+2:=by simp
  rw[j]at i;exact i
 have F:BytesAt g (hH t l.length u) (il kb a l):=BytesAt.of_own b;have H:∀j,(jy t l.length u).ownBlock=T j->j<g.heap.size:=λj y=>(i.lt j y).2
 have K:g.heap[w.heap.size]?=T (hF d 55 (0,0)):=(o.block _ (by simp;omega)).trans ((jo _ _ _ av).trans (jn w _));have M:g.heap[w.heap.size+1]?=T (hF f 178 (0,0)):=(o.block _ av).trans (tj w _ _);have ad:=O b;have al:=O F;have WL:=O H;have Rc:=O K;have P:=O M;have m:=ac C o;have QC:=O x;clear i b F H K M o x
 go_upto_region 4 with fail
 refine wp_region_lit ?_;refine wpList_step (λK i=>?_);go_simp;refine i _ _ ?_;clear i K;refine qm rfl 55 _ rfl w.heap.size rfl 55 d (0,0) _ Rc.out qE rfl (by rw[D];rfl) ?_;refine qm rfl 178 _ rfl (w.heap.size+1) rfl 178 f (0,0) _ P.out qF rfl (by rw[E];rfl) ?_
 go_wp2_with fail
 refine(W _ _ (aa.below m) al (s.below m).num (s.below m).start).mono ?_;rintro e H ⟨vt,rfl,x,i⟩;have o:=own_below ad i (λj y=>WL j y);rw[<-QC]at o;have K:w.heap.size+2<=H.heap.size:=by
  have z:=m.size;have n:=i.size;have B:=(jr.1 P).1;omega
 have M:=O x;have F:=O o;have O4:=ac m i;clear x o i
 go_wp2_with (at_builtin;refine Ae rfl _ _ rfl (w.heap.size+2) _ _ _ rfl F _ (mp kb a c (il kb a l)) rfl M.out (by rw[nQ];omega) K ?_;intro i x b o)
 go_ret2;refine⟨i,rfl,?_,O4.grown o Y (λk e=>jl Y (F.lt k e).1)⟩;rw[nQ,<-j4]at b;exact kX b Y
theorem sO{w:hK}{b:Nat}{l:List hZ}{t:jj}(h:w.heap[b]?=T (hF l.toArray t (0,0))):w.rangeAt b 0 l:=λj v a=>by
 simp[jB,h,a]
theorem oY{P:jN}(o:jI)(a:Act)(c:jj)(x:kl)(e:o.op=.load c x)(b f:Nat)(g:a.eval x=jd (T ⟨b,f,A⟩)){w:hK}(cs:List hZ)(d:TypeDesc)(h:w.rangeAt b f cs)
 (i:P.underlying c=T d) (j:d.isRow=true) (k:(P.info? c).map (·.size)=T cs.length):(j3 a.eval o).run P w=.ok (.value (jg cs.toArray)) w:=by
 unfold j3;simp only[e,g,Sem.run_bind,run_loadAt_mid w b f c cs d h i j k,Result.andThen_ok,Sem.run_pure]

theorem F2(n:Int)(a:0<=n)(b:n<9223372036854775808):eT n=2*n.toNat:=by unfold eT;rw[if_pos a]
theorem IM(n:Int)(a:n<0):eT n=2*(-(n+1)).toNat+1:=by unfold eT;rw[if_neg Y]
theorem Lr(a:Nat)(b:a<18446744073709551616):bits .xor .u64 (a:Int) 0=(a:Int):=by
 have h:=bits_xor_u64_nat a 0 b Y
 simpa using h
theorem xor_ones64(a:Nat)(b:a<18446744073709551616):bits .xor .u64 (a:Int) 18446744073709551615=((18446744073709551615-a:Nat):Int):=by
 have h:=bits_xor_u64_nat a 18446744073709551615 b Y;have e:a^^^18446744073709551615=18446744073709551615-a:=by
  apply Nat.eq_of_testBit_eq
  intro i;rw[Nat.testBit_xor,show(18446744073709551615:Nat)=2^64-1 by decide,Nat.testBit_two_pow_sub_one,show 2^64-1-a=2^64-(a+1) by omega,Nat.testBit_two_pow_sub_succ b]
  by_cases c:i<64
  ·simp[c]
  have:a.testBit i=false:=Nat.testBit_lt_two_pow (jw b (qf Y (Nat.le_of_not_lt c):2^64<=2^i));simp[c,this]
 rw[e]at h;exact h
theorem mS{k:IntKind}{a b:Int}(h:a=b):Ending.returned (.int k a)=ii (.int k b):=by rw[h]
theorem GG(n:Int)(f: -9223372036854775808<=n)(a:n<9223372036854775808)(w:hK):
 ja ic 142 #[I N n] w λe w'=>e=ii (I jF (eT n))/\w=w':=by
 by_cases h:0<=n
 ·rw[F2 n h a]
  go_enter func142,ntmps142
  go_wp2
  go_ret;refine⟨mS ?_,rfl⟩;have e:n/9223372036854775808=0:=Y;obtain⟨m,rfl⟩:=qV h;rw[e,show(m:Int)*2=((2*m:Nat):Int) by omega,Lr _ Y]
  rfl
 have b:n<0:=Y;rw[IM n b];have g:n<= -1:=Y
 go_enter func142,ntmps142
 go_wp2
 go_ret;refine⟨mS ?_,rfl⟩;obtain⟨m,i⟩:∃m:Nat,m=(2*n+18446744073709551616).toNat:=⟨_,rfl⟩;have c:pa.wrap (pa.wrap n*2)=(m:Int):=by simp only[qi];omega
 have d:pa.wrap (n/9223372036854775808)=18446744073709551615:=by simp only[qi];omega
 rw[c,d,xor_ones64 _ Y];omega
theorem IN(k:Nat):bits .or .u8 ((k:Int)%256) 128=(((ju 8 (k%128+128)).toNat:Nat):Int):=by
 have h:∀j:Fin 256,bits .or .u8 ((j.val:Nat):Int) 128=(((ju 8 (j.val%128+128)).toNat:Nat):Int):=by decide+kernel
 have e:=h ⟨k%256,o4 _ Y⟩;have a:(k%256)%128=k%128:=Y;simp only[a]at e;rw[<-e]
 rfl
theorem nX(W:hK)(x:hZ):bW (W.alloc (hF #[x] 5)) (hH (T ⟨W,0,A⟩) 1 1) 1 1 [x]:=
 ei W [x] 5 (0,0) 1 1 1 rfl (jb _)
theorem KN(f:Nat):∀a,a<128^(f+1)->(aX a).length<=f+1:=by
 induction f with
 |zero=>intro a b;rw[iN Y];simp
 |succ f c=>
  intro a b
  by_cases h:a<128
  ·rw[iN h];simp
  rw[mU h];have:=c (a/128) (by rw[Nat.div_lt_iff_lt_mul Y];rw[j8]at b;omega);simp;omega
theorem kh(a:Nat)(b:a<18446744073709551616):(aX a).length<=10:=KN 9 a (Nat.lt_trans b G)
theorem vV(B n b:Nat)(v:hZ)(xs:List hZ)(w:hK)(c:w.ownsRow B 5 1 v n xs)(d:B<=w.heap.size)(s:b<18446744073709551616)(D:n<=3000000):
 ja ic 141 #[v,I jF b] w λe w'=>∃g,e=ii g/\aV B 5 1 w w' v g (n+(aX b).length) (xs++(aX b).map v8):=by
 obtain⟨i,a⟩:=J (aX b);have p:=O (kh b s);rw[<-a]at p⊢;have t:=O a;have u:=O c;have x:=O d;clear a c d
 go_enter func141,ntmps141
 go_wp2_with fail
 go_loopw [0,1] (λd c wr=>∃(a:LBy) (k:Nat) (j:hZ),d=j/\c=I jF k/\k<=18446744073709551615/\hQ (i=a++aX k)/\hQ (aV B 5 1 w wr v j (n+a.length) (xs++a.map v8))) (λ_ c _=>(ji c).toNat)
 case atStart=>exact⟨[],b,v,rfl,rfl,by omega,O t,O (by simpa using aV.refl u)⟩
 obtain⟨a,k,j,rfl,rfl,hk,l,d⟩:=hrel;have E:a.length<=10:=by have y:=p.out;rw[l,jA]at y;omega
 have q:=O (jl x d.grown.size)
 by_cases r:k<128
 ·have z:=ar ((128:Int)<=(k:Int))
  have m:=O (show i=a++[ju 8 k] by rw[l,iN r]);have c:(k:Int)=(((ju 8 k).toNat:Nat):Int):=by rw[oi];omega
  have o:=O c;clear c
  go_wp2_with (at_builtin;refine Hid.out ?_)
  refine O ?_;refine kw rfl λ_ f=>mF _ _ rfl B _ _ _ rfl (cZ d.own (af wr _)) _ 1 [_] rfl (nX wr _) (by simp[j1]) (show n+a.length+1<=4000000 by omega) (jl q (af wr _).size) λg C c=>f _ _ ?_
  replace c:=O c;clear f
  go_wp2_with fail
  go_ret;refine⟨_,rfl,?_⟩;have h:=d.trans (aV.after (af wr _) c);rw[show [jm IntKind.u8 (k:Int)]=[ju 8 k].map v8 by rw[o];rfl,jv]at h;rw[m,jA,j4,<-qA];exact h
 have z:=ap ((128:Int)<=(k:Int));have m:=O (show i=(a++[ju 8 (k%128+128)])++aX (k/128) by rw[l,mU r];simp);have o:=O (IN k)
 go_wp2_with (at_builtin;refine Hid.out ?_)
 refine O ?_;refine kw rfl λ_ f=>mF _ _ rfl B _ _ _ rfl (cZ d.own (af wr _)) _ 1 [_] rfl (nX wr _) (by simp[j1]) (show n+a.length+1<=4000000 by omega) (jl q (af wr _).size) λg C c=>f _ _ ?_
 replace c:=O c;clear f
 go_wp2_with fail
 refine⟨⟨a++[ju 8 (k%128+128)],k/128,_,rfl,?_,by omega,m,O ?_⟩,?_⟩
 ·exact congrArg (jm .u64) Y
 ·have h:=d.trans (aV.after (af wr _) c)
  rw[o,jv]at h;rw[jA,j4,<-qA];exact h
 simp only[ji];omega
section
section
variable {P:jN} {ops:Array jI} {Q:Exit->Act->hK->Prop} {md:Region.Mode} {S:hK->Prop}
abbrev dK:=dC
theorem aY{b:Nat}{a:Act}{w:hK}(S:hK->Prop)(t:Sch)(d:P.follows .mixedOrders=true)(e:Region.noSelect ops=true)
 (hk:fF .any ops t (Array.replicate ops.size false)=true) (f:t.len<=ops.size) (g:∀c a h w,Q (.panic c) a w->Q (.panic c) h w)
 (c:S w.drew) (h:dK P ops Q S t a w.drew):(Code.region b ops true).wp P Q a w:=
 EQ S t d e hk f g c h
theorem ay{i:Nat}{o:jI}{v:hZ}{r:Sch}{a:Act}{w:hK}(b:ops[i]?=T o)(c:Region.wanted o (yielded ops a.tmps)=true)
 (d:∀w,S w->(j3 a.eval o).run P w=.ok (.value v) w) (h:dK P ops Q S r (a.put o.dst v) w):dK P ops Q S (.take i r) a w:=
 No b c d h
theorem Oq{i:Nat}{o:jI}{r:Sch}{a:Act}{w:hK}(b:ops[i]?=T o)(c:Region.wanted o (yielded ops a.tmps)=false)
 (h:dK P ops Q S r (a.put o.dst jc) w):dK P ops Q S (.take i r) a w:=
 Iq b c h
theorem ai{i:Nat}{o:jI}{r:Sch}{a:Act}{w:hK}(c:ops[i]?=T o)
 (h:∀b:Act->hK->Prop,Shut (∀a w,S w->(S w->dK P ops Q S r a w)->b a w)->if Region.wanted o (yielded ops a.tmps)=true then Oper.wp P o a w b Q else b (a.put o.dst jc) w):
 dK P ops Q S (.one i r) a w:=
 IH c h
theorem Ju{i:Nat}{o:jI}{v:hZ}{r:Sch}{a:Act}{w:hK}{f:FuncId}{args:Array hZ}(b:ops[i]?=T o)(c:Region.wanted o (yielded ops a.tmps)=true)
 (he:∀w,(j3 a.eval o).run P w=.ok (.enter f args) w) (d:∀w,S w->ja P f args w λe w'=>e=ii v/\w'=w) (h:dK P ops Q S r (a.put o.dst v) w):dK P ops Q S (.take i r) a w:=
 NH b c he d h
theorem gx{i j:Nat}{x y:Sch}{a:Act}{w:hK}(b:dK P ops Q S (.one i x) a w)(c:dK P ops Q S (.one j y) a w):dK P ops Q S (.two i j x y) a w:=
 N2 b c
end
theorem aP{p q:Prop}(k:q)(h:q->p:=by intro k;refine ay (v:=?_) rfl (by rfl) (λW' hS=>?_) ?_;rotate_left;(go_simp;with_reducible rfl);(try simp only[Act.put,List.getElem_toArray,List.getElem_cons_succ,List.getElem_cons_zero,List.setIfInBounds_toArray,List.set_cons_zero,List.set_cons_succ]);exact k):p:=h k
theorem aC{p q:Prop}(k:q)(h:q->p:=by intro k;refine ay (v:=?_) rfl (by rfl) (λW' hS=>?_) ?_;rotate_left;(clear hS;go_simp;with_reducible rfl);(try simp only[Act.put,List.getElem_toArray,List.getElem_cons_succ,List.getElem_cons_zero,List.setIfInBounds_toArray,List.set_cons_zero,List.set_cons_succ]);exact k):p:=h k
theorem OL{p q:Prop}(k:q)(h:q->p:=by intro k;refine ay (v:=?_) rfl (by rfl) (λW' hS=>?_) ?_;rotate_left;(obtain⟨s0,s1⟩:=hS;go_simp;with_reducible rfl);(try simp only[Act.put,List.getElem_toArray,List.getElem_cons_succ,List.getElem_cons_zero,List.setIfInBounds_toArray,List.set_cons_zero,List.set_cons_succ]);exact k):p:=h k
theorem OE{p q:Prop}(k:q)(h:q->p:=by intro k;refine ay (v:=?_) rfl (by rfl) (λW' hS=>?_) ?_;rotate_left;(obtain⟨s0,s1,s2⟩:=hS;go_simp;with_reducible rfl);(try simp only[Act.put,List.getElem_toArray,List.getElem_cons_succ,List.getElem_cons_zero,List.setIfInBounds_toArray,List.set_cons_zero,List.set_cons_succ]);exact k):p:=h k
theorem OK{p q:Prop}(k:q)(h:q->p:=by intro k;refine ay (v:=?_) rfl (by rfl) (λW' hS=>?_) ?_;rotate_left;(obtain⟨s0,s1,s2,s3⟩:=hS;go_simp;with_reducible rfl);(try simp only[Act.put,List.getElem_toArray,List.getElem_cons_succ,List.getElem_cons_zero,List.setIfInBounds_toArray,List.set_cons_zero,List.set_cons_succ]);exact k):p:=h k
theorem OM{p q:Prop}(k:q)(h:q->p:=by intro k;refine ay (v:=?_) rfl (by rfl) (λW' hS=>?_) ?_;rotate_left;(obtain⟨s0,s1,s2,s3,s4⟩:=hS;go_simp;with_reducible rfl);(try simp only[Act.put,List.getElem_toArray,List.getElem_cons_succ,List.getElem_cons_zero,List.setIfInBounds_toArray,List.set_cons_zero,List.set_cons_succ]);exact k):p:=h k
theorem BG{p q:Prop}(k:q)(h:q->p:=by intro k;refine ay (v:=?_) rfl (by rfl) (λW' hS=>?_) ?_;rotate_left;(obtain⟨k0,k1,k2,k3⟩:=hS;go_simp;with_reducible rfl);(try simp only[Act.put,List.getElem_toArray,List.getElem_cons_succ,List.getElem_cons_zero,List.setIfInBounds_toArray,List.set_cons_zero,List.set_cons_succ]);exact k):p:=h k
theorem OP{p q:Prop}(k:q)(h:q->p:=by intro k;refine ay (v:=?_) rfl (by rfl) (λW' hS=>?_) ?_;rotate_left;(obtain⟨k0,k1,k2,k3,k4⟩:=hS;go_simp;with_reducible rfl);(try simp only[Act.put,List.getElem_toArray,List.getElem_cons_succ,List.getElem_cons_zero,List.setIfInBounds_toArray,List.set_cons_zero,List.set_cons_succ]);exact k):p:=h k
theorem BF{p q:Prop}(k:q)(h:q->p:=by intro k;refine ay (v:=?_) rfl (by rfl) (λW' hS=>?_) ?_;rotate_left;(obtain⟨k0,k1,k2,k3,k4,k5⟩:=hS;go_simp;with_reducible rfl);(try simp only[Act.put,List.getElem_toArray,List.getElem_cons_succ,List.getElem_cons_zero,List.setIfInBounds_toArray,List.set_cons_zero,List.set_cons_succ]);exact k):p:=h k
theorem OT{p q:Prop}(k:q)(h:q->p:=by intro k;refine ay (v:=?_) rfl (by rfl) (λW' hS=>?_) ?_;rotate_left;(have b0:=hS;clear hS;go_simp;with_reducible rfl);(try simp only[Act.put,List.getElem_toArray,List.getElem_cons_succ,List.getElem_cons_zero,List.setIfInBounds_toArray,List.set_cons_zero,List.set_cons_succ]);exact k):p:=h k
theorem tv{p q:Prop}(k:q)(h:q->p:=by intro k;refine ay (v:=?_) rfl (by rfl) (λW' hS=>?_) ?_;rotate_left;(have b0:=hS.1.1;have b1:=hS.1.2;clear hS;go_simp;with_reducible rfl);(try simp only[Act.put,List.getElem_toArray,List.getElem_cons_succ,List.getElem_cons_zero,List.setIfInBounds_toArray,List.set_cons_zero,List.set_cons_succ]);exact k):p:=h k
theorem OR{p q:Prop}(k:q)(h:q->p:=by intro k;refine ay (v:=?_) rfl (by rfl) (λW' hS=>?_) ?_;rotate_left;(have b0:=hS.1.1;clear hS;go_simp;with_reducible rfl);(try simp only[Act.put,List.getElem_toArray,List.getElem_cons_succ,List.getElem_cons_zero,List.setIfInBounds_toArray,List.set_cons_zero,List.set_cons_succ]);exact k):p:=h k
theorem gB{p q:Prop}(k:q)(h:q->p:=by intro k;refine Oq rfl (by rfl) ?_;(try simp only[Act.put,List.getElem_toArray,List.getElem_cons_succ,List.getElem_cons_zero,List.setIfInBounds_toArray,List.set_cons_zero,List.set_cons_succ]);exact k):p:=h k
end
def ah(D:Nat->Prop)(w:hK)(v:hZ)(sz n:Nat)(xs:List hZ):Prop:=
 xs.length=n*sz/\∃(p:Option jz) (c:Nat),v=hH p n c/\n<=c/\(p=A->c=0)/\
  (0<n->∃g o,p=T ⟨g,o,A⟩/\D g/\∀(j:Nat) a,xs[j]?=T a->w.cell? ⟨g,o+j,A⟩=T a)
theorem ah.row{D:Nat->Prop}{w:hK}{v:hZ}{sz n:Nat}{xs:List hZ}(h:ah D w v sz n xs):bW w v sz n xs:=by
 obtain⟨a,p,c,b,d,f,i⟩:=h;refine⟨a,p,c,b,d,f,λj=>?_⟩;obtain⟨g,o,e,-,k⟩:=i j;exact⟨g,o,e,k⟩
theorem bz{w w':hK}{a:jz}(h:w'.heap[a.block]?=w.heap[a.block]?):w'.cell? a=w.cell? a:=by unfold jB;rw[h]
theorem ah.keep{D:Nat->Prop}{w w':hK}{v:hZ}{sz n:Nat}{xs:List hZ}(h:ah D w v sz n xs)(hk:∀g,D g->w'.heap[g]?=w.heap[g]?):ah D w' v sz n xs:=by
 obtain⟨d,p,c,f,i,k,l⟩:=h;refine⟨d,p,c,f,i,k,λm=>?_⟩;obtain⟨g,o,e,b,q⟩:=l m;exact⟨g,o,e,b,λj r s=>(bz (a:=⟨g,o+j,A⟩) (hk g b)).trans (q j r s)⟩
theorem ah.mono{D D':Nat->Prop}{w:hK}{v:hZ}{sz n:Nat}{xs:List hZ}(h:ah D w v sz n xs)(a:∀g,D g->D' g):ah D' w v sz n xs:=by
 obtain⟨b,p,c,d,f,i,j⟩:=h;refine⟨b,p,c,d,f,i,λk=>?_⟩;obtain⟨g,o,e,l,h⟩:=j k;exact⟨g,o,e,a g l,h⟩
def ee(x:Val)(a:hZ):List hZ:=[I N x.k,I N x.n,jk x.s,a]
def aW:List Val->List hZ->List hZ
 |x::xs,a::b=>ee x a++aW xs b
 |_,_=>[]
mutual
def ao(D:Nat->Prop)(w:hK):Val->hZ->Prop
 | .mk _ _ _ l,b=>∃a,ah D w b 4 l.length (aW l a)/\ax D w l a
def ax(D:Nat->Prop)(w:hK):List Val->List hZ->Prop
 |[],a=>a=[]
 |x::xs,a=>∃b c,a=b::c/\ao D w x b/\ax D w xs c
end
mutual
theorem ao.keep{D:Nat->Prop}{w w':hK}(hk:∀g,D g->w'.heap[g]?=w.heap[g]?):∀(x:Val) (a:hZ),ao D w x a->ao D w' x a
 | .mk k n s l,a,h=>by
  rw[ao]at h⊢;obtain⟨b,c,d⟩:=h;exact⟨b,c.keep hk,ax.keep hk l b d⟩
theorem ax.keep{D:Nat->Prop}{w w':hK}(hk:∀g,D g->w'.heap[g]?=w.heap[g]?):∀(l:List Val) (a:List hZ),ax D w l a->ax D w' l a
 |[],a,h=>by rw[ax]at h⊢;exact h
 |x::l,a,h=>by
  rw[ax]at h⊢;obtain⟨b,c,d,e,f⟩:=h;exact⟨b,c,d,ao.keep hk x b e,ax.keep hk l c f⟩
end
mutual
theorem ao.mono{D D':Nat->Prop}{w:hK}(b:∀g,D g->D' g):∀(x:Val) (a:hZ),ao D w x a->ao D' w x a
 | .mk k n s l,a,h=>by
  rw[ao]at h⊢;obtain⟨c,d,e⟩:=h;exact⟨c,d.mono b,ax.mono b l c e⟩
theorem ax.mono{D D':Nat->Prop}{w:hK}(b:∀g,D g->D' g):∀(l:List Val) (a:List hZ),ax D w l a->ax D' w l a
 |[],a,h=>by rw[ax]at h⊢;exact h
 |x::l,a,h=>by
  rw[ax]at h⊢;obtain⟨c,d,e,f,g⟩:=h;exact⟨c,d,e,ao.mono b x c f,ax.mono b l d g⟩
end
theorem ax.len{D:Nat->Prop}{w:hK}:∀{l:List Val} {a:List hZ},ax D w l a->a.length=l.length
 |[],a,h=>by rw[ax]at h;rw[h];rfl
 |x::l,a,h=>by
  rw[ax]at h;obtain⟨c,d,rfl,e,b⟩:=h;simp[ax.len b]
theorem ax.at{D:Nat->Prop}{w:hK}:∀{l:List Val} {a:List hZ} {i:Nat} {x:Val},ax D w l a->l[i]?=T x->∃b,a[i]?=T b/\ao D w x b
 |[],a,i,x,h,c=>by simp at c
 |y::l,a,i,x,h,c=>by
  rw[ax]at h;obtain⟨b,k,rfl,d,f⟩:=h
  cases i with
  |zero=>
   have e:y=x:=by simpa using c
   subst e;exact⟨b,rfl,d⟩
  |succ i=>
   obtain⟨e,g,j⟩:=ax.at (i:=i) f (by simpa using c);exact⟨e,by simpa using g,j⟩
theorem ax.append{D:Nat->Prop}{w:hK}:∀{l m:List Val} {b a:List hZ},ax D w l b->ax D w m a->ax D w (l++m) (b++a)
 |[],m,b,a,h,k=>by rw[ax]at h;rw[h];exact k
 |x::l,m,b,a,h,k=>by
  rw[ax]at h;obtain⟨c,d,rfl,e,f⟩:=h;show ax D w (x::(l++m)) (c::(d++a));rw[ax];exact⟨c,_,rfl,e,ax.append f k⟩
theorem ax.one{D:Nat->Prop}{w:hK}{x:Val}{a:hZ}(h:ao D w x a):ax D w [x] [a]:=by
 rw[ax];exact⟨a,[],rfl,h,by rw[ax]⟩
theorem m8:∀(l m:List Val) (a b:List hZ),a.length=l.length->aW (l++m) (a++b)=aW l a++aW m b
 |[],m,a,b,h=>by
  have:a=[]:=qg (by simpa using h);subst this
  cases m<;>cases b<;>simp[aW]
 |x::l,m,[],b,h=>by simp at h
 |x::l,m,c::a,b,h=>by
  simp only[jM,aW,m8 l m a b (by simpa using h),jv]
theorem nY:∀(l:List Val) (a:List hZ) (j i:Nat) (x:Val) (b:hZ),l[j]?=T x->a[j]?=T b->i<4->(aW l a)[j*4+i]?=(ee x b)[i]?
 |[],a,j,i,x,b,h,_,_=>by simp at h
 |y::l,[],j,i,x,b,_,h,_=>by simp at h
 |y::l,v::a,0,i,x,b,h,c,d=>by
  have e:y=x:=by simpa using h
  have f:v=b:=by simpa using c
  subst e;subst f;show(ee y v++aW l a)[0*4+i]?=_;rw[Nat.zero_mul,ow,List.getElem?_append_left (by simp[ee];omega)]
 |y::l,v::a,j+1,i,x,b,h,c,d=>by
  show(ee y v++aW l a)[(j+1)*4+i]?=_;have e:(ee y v).length=4:=rfl;rw[List.getElem?_append_right (by rw[e];omega),e,show(j+1)*4+i-4=j*4+i by omega];exact nY l a j i x b (by simpa using h) (by simpa using c) d
theorem ao.slice{D:Nat->Prop}{w:hK}{x:Val}{a:hZ}(h:ao D w x a):∃b,ah D w a 4 x.l.length (aW x.l b)/\ax D w x.l b:=by
 obtain⟨k,n,s,l⟩:=x;rw[ao]at h;exact h
theorem ao.form{D:Nat->Prop}{w:hK}{x:Val}{a:hZ}(h:ao D w x a):∃p c,a=hH p x.l.length c:=by
 obtain⟨b,⟨-,p,c,e,-⟩,-⟩:=h.slice;exact⟨p,c,e⟩
structure kR(a b:Nat)(w:hK):Prop where
 tab:∃z,w.heap[a]?=T (hF #[z,.func (.func 140) #[] #[],.func (.func 143) #[] #[],.func (.func 144) #[] #[jd (T ⟨b,0,A⟩)]] 223 (0,0))
 ptr:w.heap[b]?=T (hF #[jd (T ⟨a,0,A⟩)] 143 (0,0))
theorem JD(w:hK):
 ja ic 72 #[] w λe w'=>∃l s,e=ii (jd (T ⟨l,0,A⟩))/\kR l s w'/\hU w w w':=by
 have C:∀(fn:Fn) (first m:Array hZ) (w:hK),(Instr.makeFunc fn first m).run ic w=.ok (.func fn first m) w:=λ_ _ _ _=>rfl
 obtain⟨b,a⟩:=J ((w.alloc (hF #[.nilFunc,.nilFunc,.nilFunc,.nilFunc] 223)).alloc (hF #[jd (T ⟨w,0,A⟩)] 143));have t:b.heap.size=w.heap.size+2:=by rw[a];simp
 have n:b.heap[w.heap.size]?=T (hF #[.nilFunc,.nilFunc,.nilFunc,.nilFunc] 223 (0,0)):=by
  rw[a,jo _ _ _ av];exact jn w _
 have c:b.heap[w.heap.size+1]?=T (hF #[jd (T ⟨w,0,A⟩)] 143 (0,0)):=by
  rw[a];have:=jn (w.alloc (hF #[.nilFunc,.nilFunc,.nilFunc,.nilFunc] 223)) (hF #[jd (T ⟨w,0,A⟩)] 143);rw[jp]at this;exact this
 have o:hU w w b:=by rw[a];exact((jh _ w).alloc (jb _) _).alloc av _
 obtain⟨D,u,p,d⟩:=ug (P:=ic) (i:=1) (v:=.func (.func 140) #[] #[]) n G rfl;obtain⟨E,F,q,f⟩:=ug (P:=ic) (i:=2) (v:=.func (.func 143) #[] #[]) p G rfl;obtain⟨x,H,r,g⟩:=ug (P:=ic) (i:=3) (v:=.func (.func 144) #[] #[jd (T ⟨w.heap.size+1,0,A⟩)]) q G rfl;have h:=(d.block (w.heap.size+1) Y).trans c;have j:=(f.block (w.heap.size+1) Y).trans h;have k:=(g.block (w.heap.size+1) Y).trans j;have K:=cell_of (i:=0) h rfl;have M:=cell_of (i:=0) j rfl;have Q:=cell_of (i:=0) k rfl;have y:=O (((o.trans (d.below (jb _))).trans (f.below (jb _))).trans (g.below (jb _)));have z:hQ (kR w.heap.size (w.heap.size+1) x):=O ⟨⟨_,r⟩,k⟩;have B:=cell_of (i:=0) c rfl;rw[a]at u B;clear t n c o p q r d f g h j k a
 go_enter func72,ntmps72
 go_wp2
 go_ret;exact⟨_,_,rfl,z,y⟩
theorem cell_below{w w':hK}{a:jz}{v:hZ}(h:w.cell? a=T v)(b:hU w w w'):w'.cell? a=T v:=
 (bz (b.block _ (eN h))).trans h
theorem cell_grown{w w':hK}{a:jz}{v:hZ}{b:Option Nat}(h:w.cell? a=T v)(c:w.grownBy w' b)(d:b≠T a.block):w'.cell? a=T v:=
 (bz (c.block _ (eN h) (λe=>d e.symm))).trans h
theorem aQ(W:hK):hU W W W.drew:=⟨rfl,rfl,rfl,jb _,λ_ _=>rfl⟩
theorem If(B n:Nat)(v:hZ)(xs:List hZ)(m:Int)(s:ByteArray)(l:hZ)(w:hK)(a:w.ownsRow B 5 1 v n xs)(h:B<=w.heap.size)(z: -9223372036854775808<=m)(C:m<9223372036854775808)(S:n<=2900000):
 ja ic 140 #[v,jg #[I N 1,I N m,jk s,l]] w λe w'=>∃r,e=ii r/\aV B 5 1 w w' v r (n+(enc (.mk 1 m s [])).length) (xs++(enc (.mk 1 m s [])).map v8):=by
 have b:enc (.mk 1 m s [])=1#8::aX (eT m):=by rw[enc,if_pos rfl]
 have K:=O b;clear b;have j:=jn w (hF #[I N 1,I N m,jk s,l] 43);have b:=cell_of (i:=1) j rfl;have k:=O (cZ a (af w (hF #[I N 1,I N m,jk s,l] 43)));have g:=O (af w (hF #[I N 1,I N m,jk s,l] 43));have t:hQ (v.ownBlock≠T w.heap.size):=O (bU a (.inl (jb _)));have M:=O h;obtain⟨p,c,rfl⟩:=aL a;obtain⟨v,d⟩:=J (jy p n c);rw[<-d]at k t a;have D:=O d;clear j h a d
 go_enter func140,ntmps140
 go_upto_region 1 with fail
 obtain⟨u,d⟩:=J w.heap.size;obtain⟨a,h⟩:=J (w.alloc (hF #[I N 1,I N m,jk s,l] 43));have j:u<a.heap.size:=by rw[h,d];simp
 rw[<-h]at b k g⊢;rw[<-d]at b t⊢;have y:hQ (B<=a.drew.heap.size):=O (jl M g.size);have E:hQ (u<a.drew.heap.size):=O j;replace k:hQ (a.drew.ownsRow B 5 1 v n xs):=O (cZ k (aQ a));replace g:hQ (hU w w a.drew):=O (g.trans (aQ a|>.mono g.size));replace b:a.drew.cell? ⟨u,1,A⟩=T (I N m):=b;clear d h j;refine jK ?_;refine aY (λx=>x.cell? ⟨u,1,A⟩=T (I N m)) (.take 0 (.take 3 (.take 4 (.one 1 (.one 2 (.take 5 (.one 6 (.take 7 .done)))))))) ae ae ae G (λ_ _ _ _ h=>h) b ?_;generalize a.drew=o at b k g y E⊢;have P:=O k;rw[<-D];iterate 3 refine aP ?_
 refine ai rfl (λF d=>?_);go_simp;refine d _ _ (cell_below b (af _ _)) λ_=>?_
 clear d;refine L ?_;refine ai rfl (λF d=>?_);rw[if_pos ag];refine mF _ _ rfl B v _ _ rfl (cZ P (af o _)) _ 1 [_] rfl (nX o _) (by simp[j1]) Y (jl y (af o _).size) λr Q j=>?_
 have q:=t.out;have H:=cell_grown (cell_below b (af o (hF #[I .u8 1] 5))) j.grown q;replace j:=O (aV.after (af o _) j);refine d _ _ H λ_=>?_
 clear d q;refine L ?_
 (refine Ju (v:=I jF (eT m)) (f:=142) (args:=#[I N m]) rfl ag (λx=>?_) (λx _=>(GG m z C x).mono λe w' h=>⟨h.1,h.2.symm⟩) ?_;·(go_simp;try with_reducible rfl))
 refine L ?_;refine ai rfl (λF d=>?_);go_simp;have F:=j.grown.size;have q:=j.ne E t;refine(vV B _ (eT m) r _ Q j.own (jl y F) (oR m z C) Y).mono ?_;rintro e U ⟨V,rfl,x⟩;have R:=cell_grown H x.grown q;replace x:=O (j.trans x);refine d _ _ R λ_=>?_
 clear d F q;refine L ?_;refine aP ?_;refine jG ?_
 go_wp2_with fail
 go_ret;refine⟨_,rfl,?_⟩;have h:=aV.after g x;rw[K,jt,qB,<-D];rw[jv,show n+1+(aX (eT m)).length=n+((aX (eT m)).length+1) by omega]at h;exact h
theorem Ff(B n:Nat)(v:hZ)(xs:List hZ)(m:Int)(s:ByteArray)(l:hZ)(w:hK)(a:w.ownsRow B 5 1 v n xs)(g:B<=w.heap.size)(S:n+s.size<=2900000):
 ja ic 143 #[v,jg #[I N 2,I N m,jk s,l]] w λe w'=>∃o,e=ii o/\aV B 5 1 w w' v o (n+(enc (.mk 2 m s [])).length) (xs++(enc (.mk 2 m s [])).map v8):=by
 have b:enc (.mk 2 m s [])=2#8::(aX s.size++aK s):=by rw[enc,if_neg G,if_pos rfl]
 have K:=O b;clear b;have u:=jn w (hF #[I N 2,I N m,jk s,l] 43);have d:=cell_of (i:=2) u rfl;have k:=O (cZ a (af w (hF #[I N 2,I N m,jk s,l] 43)));have f:=O (af w (hF #[I N 2,I N m,jk s,l] 43));have q:hQ (v.ownBlock≠T w.heap.size):=O (bU a (.inl (jb _)));have M:=O g;obtain⟨p,c,rfl⟩:=aL a;obtain⟨v,b⟩:=J (jy p n c);rw[<-b]at k q a;have D:=O b;clear u g a b
 go_enter func143,ntmps143
 go_upto_region 1 with fail
 obtain⟨x,a⟩:=J w.heap.size;obtain⟨b,g⟩:=J (w.alloc (hF #[I N 2,I N m,jk s,l] 43));have h:x<b.heap.size:=by rw[g,a];simp
 rw[<-g]at d k f⊢;rw[<-a]at d q⊢;have y:hQ (B<=b.drew.heap.size):=O (jl M f.size);have z:hQ (x<b.drew.heap.size):=O h;replace k:hQ (b.drew.ownsRow B 5 1 v n xs):=O (cZ k (aQ b));replace f:hQ (hU w w b.drew):=O (f.trans (aQ b|>.mono f.size));replace d:b.drew.cell? ⟨x,2,A⟩=T (jk s):=d;clear a g h;refine jK ?_;refine aY (λa=>a.cell? ⟨x,2,A⟩=T (jk s)) (.take 0 (.take 3 (.take 4 (.take 5 (.take 6 (.take 8 (.take 9 (.one 1 (.one 2 (.one 7 (.one 10 (.take 11 .done)))))))))))) ae ae ae G (λ_ _ _ _ h=>h) d ?_;generalize b.drew=r at d k f y z⊢;have P:=O k;rw[<-D];iterate 7 refine aP ?_
 refine ai rfl (λC a=>?_);go_simp;refine a _ _ (cell_below d (af _ _)) λ_=>?_
 clear a;refine L ?_;refine ai rfl (λC a=>?_);rw[if_pos ag];refine mF _ _ rfl B v _ _ rfl (cZ P (af r _)) _ 1 [_] rfl (nX r _) (by simp[j1]) Y (jl y (af r _).size) λo Q g=>?_
 have t:=q.out;have E:=cell_grown (cell_below d (af r (hF #[I .u8 2] 5))) g.grown t;replace g:=O (aV.after (af r _) g);refine a _ _ E λ_=>?_
 clear a t;refine L ?_;refine ai rfl (λC a=>?_);go_simp;rw[show pa.wrap (s.size:Int)=(s.size:Int)from by rw[qi];omega];have F:=g.grown.size;have t:=g.ne z q;refine(vV B _ s.size o _ Q g.own (jl y F) Y Y).mono ?_;rintro e U ⟨R,rfl,j⟩;have V:=kh s.size Y;have H:=cell_grown E j.grown t;replace j:=O (g.trans j);refine a _ _ H λ_=>?_
 clear a F t;refine L ?_;refine ai rfl (λC a=>?_);rw[if_pos ag];refine I4 _ _ rfl B R _ _ rfl j.own s rfl Y (jl y j.grown.size) λo F t=>?_
 have C:=cell_grown H t.grown (j.ne z q);replace t:=O (j.trans t);refine a _ _ C λ_=>?_
 clear a;refine L ?_;refine aP ?_;refine jG ?_
 go_wp2_with fail
 go_ret;refine⟨_,rfl,?_⟩;have h:=aV.after f t;have u:(s.data.toList.map UInt8.toBitVec)=aK s:=rfl;rw[K,jt,qB,jA,j4,et,<-D];rw[u,jv,jv,show n+1+(aX s.size).length+s.size=n+((aX s.size).length+s.size+1) by omega]at h;exact h
def Buf(b:Nat)(a:LBy)(w:hK):Prop:=LibA.IsBuffer 184 (λ_=>A) 5 b b 0 (a.map v8) w
theorem Buf.lt{b:Nat}{a:LBy}{w:hK}(h:Buf b a w):b<w.heap.size:=LibA.IsBuffer.lt h
theorem Buf.keep{b:Nat}{a:LBy}{w w':hK}(h:Buf b a w)(c:hU w w w'):Buf b a w':=by
 obtain⟨e,v,f,d,g,i⟩:=h;exact⟨e,v,f,d.of_heap (c.block _ d.lt),cZ g c,i⟩
theorem Buf.new(w:hK):Buf w.heap.size [] (w.alloc (hF #[hH A 0 0,I N 0,.int .i8 0] 184)):=
 LibA.zero_isBuffer (jb _) (LibA.three_whole (jn w _))
theorem rV{p q:Prop}(k:q)(h:q->p:=by intro k;refine ay (v:=?_) rfl ag (λW' hS=>?_) ?_;rotate_left;(obtain⟨c0,c1⟩:=hS;go_simp;with_reducible rfl);refine L ?_;exact k):p:=h k
theorem Mv(b:Nat)(d:LBy)(w:hK)(h:Buf b d w):
 ja ic 156 #[jd (T ⟨b,0,A⟩)] w λe w'=>∃v,e=ii v/\w'.ownsRow b 5 1 v (d.map v8).length (d.map v8)/\hU w w w':=by
 obtain⟨l,K,x⟩:=LibA.IsBuffer.cases h
 rcases x with⟨m,a⟩|⟨g,o,y,a,p,q,r,i,s,t,z⟩
 ·have f:=a.c0
  have j:=a.c1;rw[m];clear a l m h
  go_enter func156,ntmps156
  go_wp2
  refine jK ?_;refine aY (λc=>c.cell? ⟨b,0,A⟩=T (hH A 0 0)/\c.cell? ⟨b,0+1,A⟩=T (I N 0)) (.take 0 (.take 1 (.take 2 (.take 3 (.take 4 (.take 5 (.take 6 (.take 7 (.take 8 (.take 9 .done)))))))))) ae ae ae G (λ_ _ _ _ h=>h) ⟨f,j⟩ ?_;iterate 3 refine aC ?_
  refine rV ?_;iterate 3 refine aC ?_
  refine rV ?_;iterate 2 refine aC ?_
  refine jG ?_
  go_wp2_with fail
  go_ret;exact⟨_,rfl,j0 _ _ _ _,aQ _⟩
 have f:=a.c0;have j:=a.c1;have B:=i;unfold jC at B;have C:=O q;have D:=O p;have E:=O i;have F:=O s;have H:=O t;obtain⟨n,k⟩:=J ((d.map v8).length);rw[<-k]at r f⊢;have u:=O k;clear a l h q p i s t z k
 go_enter func156,ntmps156
 go_wp2
 refine jK ?_;refine aY (λc=>c.cell? ⟨b,0,A⟩=T (hH (T ⟨g,0,A⟩) n o)/\c.cell? ⟨b,0+1,A⟩=T (I N 0)) (.take 0 (.take 1 (.take 2 (.take 3 (.take 4 (.take 5 (.take 6 (.take 7 (.take 8 (.take 9 .done)))))))))) ae ae ae G (λ_ _ _ _ h=>h) ⟨f,j⟩ ?_;iterate 3 refine aC ?_
 refine rV ?_;iterate 3 refine aC ?_
 refine rV ?_;iterate 2 refine aC ?_
 refine jG ?_
 go_wp2_with fail
 go_ret;exact⟨_,rfl,⟨by simp[u.out],.inr ⟨g,o,y,rfl,D,C,r,E,by rw[F];simp,by rw[qw,u];exact H⟩⟩,aQ _⟩
def wrF(k:Int):Nat:=if k=1 then 140 else if k=2 then 143 else 144
def wrL(a:Nat)(k:Int):Array hZ:=if k=1 then #[]else if k=2 then #[]else #[jd (T ⟨a,0,A⟩)]
def oe(b a:Nat)(x:Val):Prop:=
 ∀(B n:Nat) (v:hZ) (xs:List hZ) (c:hZ) (d:Int) (w:hK),x.k=d->w.ownsRow B 5 1 v n xs->B<=w.heap.size->ao (·<B) w x c->kR b a w->b<B->a<B->n+(enc x).length<=2900000->
  ja ic (wrF x.k) (#[v,jg #[I N d,I N x.n,jk x.s,c]]++wrL a x.k) w λe w'=>∃f,e=ii f/\aV B 5 1 w w' v f (n+(enc x).length) (xs++(enc x).map v8)
theorem zS(k:Int)(args:Array hZ)(w:hK):(callFunc (wrF k) args).run ic w=.ok (.enter (wrF k) args) w:=by
 unfold wrF
 split
 ·rfl
 split<;>rfl
theorem kR.at{a b:Nat}{w:hK}(h:kR a b w){k:Int}{m:Nat}(c:k=(m:Int))(e:1<=m)(f:m<=3):w.cell? ⟨a,m,A⟩=T (.func (.func (wrF k)) #[] (wrL b k)):=by
 obtain⟨z,d⟩:=h.tab;subst c;have:m=1\/m=2\/m=3:=Y
 rcases this with rfl|rfl|rfl<;>exact cell_of d rfl
theorem kR.keep{a b:Nat}{w w':hK}{B:Nat}(h:kR a b w)(c:hU B w w')(d:a<B)(e:b<B):kR a b w':=by
 obtain⟨⟨z,f⟩,g⟩:=h;exact⟨⟨z,(c.block _ d).trans f⟩,(c.block _ e).trans g⟩
theorem pO{l:List Val}{i:Nat}{x:Val}(h:l[i]?=T x):encs (l.take (i+1))=encs (l.take i)++enc x:=by
 obtain⟨a,e⟩:=List.getElem?_eq_some_iff.1 h;rw[j7 a,oP,e];simp[encs]
theorem pW(l:List Val)(i:Nat):(encs (l.take i)).length<=(encs l).length:=by
 have h:=oP (l.take i) (l.drop i);rw[List.take_append_drop]at h;rw[h,jA];omega
theorem KQ(z t:Nat)(m:Int)(s:ByteArray)(l:List Val)(j:∀x∈l,(1<=x.k/\x.k<=3)/\oe z t x):oe z t (.mk 3 m s l):=by
 intro B n v xs u kk w bk e k Q o q r b;obtain rfl:(3:Int)=kk:=bk;have a:enc (.mk 3 m s l)=3#8::(aX l.length++encs l):=by rw[enc,if_neg G,if_neg G]
 have HE:=O a;show ja ic 144 #[v,jg #[I N 3,I N m,jk s,u],jd (T ⟨t,0,A⟩)] w _;have a4:n+((aX l.length).length+(encs l).length+1)<=2900000:=by rw[a,jt,jA]at b;omega
 have bl:=nS l;clear a b;have M:=jn w (hF #[I N 3,I N m,jk s,u] 43);have a:=cell_of (i:=3) M rfl;have f:=O (cZ e (af w (hF #[I N 3,I N m,jk s,u] 43)));have b:=O (af w (hF #[I N 3,I N m,jk s,u] 43));have HN:hQ (v.ownBlock≠T w.heap.size):=O (bU e (.inl (jb _)));have R:=O k;have R9:=O e;have QC:=O j;obtain⟨us,a3,g⟩:=Q.slice;replace a3:ah (·<B) w u 4 l.length (aW l us):=a3;replace g:ax (·<B) w l us:=g;obtain⟨E,pu,S,y,C,F,D⟩:=a3;have a5:=O g;have RP:=O D;have hu:u=hH pu l.length S:=y;have bm:l.length<=S:=C;obtain⟨d,h⟩:=J l.length;rw[<-h]at hu bm a4 bl;have U:=O h;subst hu;have bn:hQ (n+((aX d).length+(encs l).length+1)<=2900000):=O a4;have HT:=O o;have V:=O q;have W:=O r;obtain⟨p,c,rfl⟩:=aL e;obtain⟨v,Q⟩:=J (jy p n c);rw[<-Q]at f HN R9;have HV:=O Q;have ZQ:=kh d Y;have bA:d<=2900000:=Y;have H:n+30<=3000000\/2999970<n:=Y;clear M k e Q j E y C F D g h o q r H
 go_enter func144,ntmps144
 go_upto_region 1 with fail
 obtain⟨X,e⟩:=J w.heap.size;obtain⟨C,g⟩:=J (w.alloc (hF #[I N 3,I N m,jk s,hH pu d S] 43));have h:X<C.heap.size:=by rw[g,e];simp
 rw[<-g]at a f b⊢;rw[<-e]at a HN⊢;have bB:hQ (X=w.heap.size):=O e;have j:hQ (B<=C.drew.heap.size):=O (jl R b.size);have o:hQ (X<C.drew.heap.size):=O h;replace f:hQ (C.drew.ownsRow B 5 1 v n xs):=O (cZ f (aQ C));replace b:hQ (hU w w C.drew):=O (b.trans (aQ C|>.mono b.size));replace a:C.drew.cell? ⟨X,3,A⟩=T (hH pu d S):=a;clear e g h;refine jK ?_;refine aY (λE=>E.cell? ⟨X,3,A⟩=T (hH pu d S)) (.take 0 (.take 3 (.take 4 (.take 5 (.take 6 (.one 1 (.one 2 (.one 7 (.take 8 .done))))))))) ae ae ae G (λ_ _ _ _ h=>h) a ?_;generalize C.drew=W1 at a f b j o⊢;have y:=O f;rw[<-HV];iterate 5 refine aP ?_
 refine ai rfl (λK' k=>?_);go_simp;refine k _ _ (cell_below a (af _ _)) λ_=>?_
 clear k;refine L ?_;refine ai rfl (λK' k=>?_);rw[if_pos ag];refine mF _ _ rfl B v _ _ rfl (cZ y (af W1 _)) _ 1 [_] rfl (nX W1 _) (by simp[j1]) Y (jl j (af W1 _).size) λv' w5 H=>?_
 have g:=HN.out;have q:=cell_grown (cell_below a (af W1 (hF #[I .u8 3] 5))) H.grown g;replace H:=O (aV.after (af W1 _) H);refine k _ _ q λ_=>?_
 clear k g;refine L ?_;refine ai rfl (λK' k=>?_);go_simp;rw[show pa.wrap (d:Int)=(d:Int)from by rw[qi];omega];have r:=H.grown.size;have g:=H.ne o HN;refine(vV B _ d v' _ w5 H.own (jl j r) Y Y).mono ?_;rintro e w6 ⟨v6,rfl,K⟩;have c6:=cell_grown q K.grown g;have bC:=K.ne (jw o r) g;replace K:=O (H.trans K);refine k _ _ c6 λ_=>?_
 clear k r g;refine L ?_;refine aP ?_;refine jG ?_;replace K:hQ (aV B 5 1 w w6 v v6 (n+1+(aX d).length) (xs++[I .u8 3]++(aX d).map v8)):=O (aV.after b K);clear a q f y b j o
 go_wp2_with fail
 go_loopw [0,19] (λb a wr=>∃(i:Nat) (vr:hZ),b=vr/\a=I N i/\i<=d/\hQ (aV B 5 1 w wr v vr (n+1+(aX d).length+(encs (l.take i)).length) (xs++[I .u8 3]++(aX d).map v8++(encs (l.take i)).map v8))) (λ_ a _=>d-(ji a).toNat)
 case atStart=>exact⟨0,v6,rfl,rfl,jq _,by simpa [encs]using K⟩
 obtain⟨i,vr,rfl,rfl,hi,r⟩:=hrel
 by_cases ba:i<d
 ·have hd:=ap ((i:Int)<(d:Int))
  have PX:=ap (i<d);obtain⟨g,o,rfl,Vo,j⟩:=RP (aw U);obtain⟨x,y⟩:∃x,l[i]?=T x:=⟨l[i]'(by rw[<-U];exact ba),qd (by rw[<-U];exact ba)⟩;obtain⟨D,P,al⟩:=a5.at y;have F:=λq hq=>nY l us i q x D y P hq
  have QH:=r.below R9 R;have Qh:∀a u,a.block<B->w.cell? a=T u->wr.cell? a=T u:=λa u ha hu=>(bz (QH.block _ ha)).trans hu
  have d0:wr.cell? ⟨g,o+i*4,A⟩=T (I N x.k):=Qh _ _ Vo (j (i*4+0) _ (F 0 G));have d1:wr.cell? ⟨g,o+i*4+1,A⟩=T (I N x.n):=Qh _ _ Vo (j (i*4+1) _ (F 1 G));have d2:wr.cell? ⟨g,o+i*4+2,A⟩=T (jk x.s):=Qh _ _ Vo (j (i*4+2) _ (F 2 G));have d3:wr.cell? ⟨g,o+i*4+3,A⟩=T D:=Qh _ _ Vo (j (i*4+3) _ (F 3 G));have HI:=O y;have WG:x∈l:=q4 y;obtain⟨⟨a1,a2⟩,hw⟩:=QC x WG;have HW:=O hw;have HX:=O (ao.keep (λb M=>QH.block b M) x D al);have bb:=O (HT.keep QH V W);obtain⟨aa,ad,bo⟩:=al.form;obtain⟨f,au⟩:∃f:Nat,x.k=(f:Int):=⟨x.k.toNat,by omega⟩;have bc:=O au;have bq:1<=f:=Y;have br:f<=3:=Y;have bs:z<wr.heap.size:=jw V (jl R r.grown.size);have bu:t<wr.heap.size:=jw W (jl R r.grown.size);have bd:u0.ownBlock≠T z:=bU r.own (.inr V);have Yq:u0.ownBlock≠T t:=bU r.own (.inr W);rw[au]at d0;subst bo;clear y P al F QH Qh j WG hw a1 a2 au a5 RP
  go_upto_region 5 with fail
  obtain⟨y,au⟩:=J wr.heap.size;have F:=jn wr (hF #[I N f,I N x.n,jk x.s,hH aa x.l.length ad] 43);have Pt:=af wr (hF #[I N f,I N x.n,jk x.s,hH aa x.l.length ad] 43);have bf:(wr.alloc (hF #[I N f,I N x.n,jk x.s,hH aa x.l.length ad] 43)).heap.size=y+1:=by rw[au];simp
  have bv:hQ (u0.ownBlock≠T y):=O (bU r.own (.inl (Nat.le_of_eq au.symm)));rw[<-au]at F⊢;obtain⟨j,Ru⟩:=J (wr.alloc (hF #[I N f,I N x.n,jk x.s,hH aa x.l.length ad] 43));rw[<-Ru]at F Pt bf⊢;obtain⟨D,P⟩:=J (jy aa x.l.length ad);rw[<-P]at HX F;have bI:=O P;have al:hU wr wr j.drew:=Pt.trans ((aQ j).mono Pt.size);have QK:hQ (aV B 5 1 w j.drew v u0 (n+1+(aX d).length+(encs (l.take i)).length) (xs++[I .u8 3]++(aX d).map v8++(encs (l.take i)).map v8)):=O (r.trans (aV.after al (aV.refl (cZ r.own al))));have a1:B<=wr.heap.size:=jl R r.grown.size;have bg:hQ (ao (·<B) j.drew x D):=O (ao.keep (λb M=>al.block b (jw M a1)) x D HX);have a2:hQ (kR z t j.drew):=O (bb.keep (al.mono a1) V W);have Re:j.drew.cell? ⟨t,0,A⟩=T (jd (T ⟨z,0,A⟩))/\j.drew.cell? ⟨y,0,A⟩=T (I N f)/\j.drew.cell? ⟨y,1,A⟩=T (I N x.n)/\j.drew.cell? ⟨y,2,A⟩=T (jk x.s)/\j.drew.cell? ⟨y,3,A⟩=T D/\j.drew.cell? ⟨z,f,A⟩=T (.func (.func (wrF x.k)) #[] (wrL t x.k)):=
   ⟨cell_of a2.ptr rfl,cell_of F rfl,cell_of F rfl,cell_of F rfl,cell_of F rfl,a2.at bc bq br⟩
  have bh:hQ (B<=j.drew.heap.size):=O (jl a1 Pt.size);have bw:=O Yq;have Tu:=O bd;have bK:(f:Int)<4:=Y;clear F Pt bf al a1 Yq bd HX bb r bs bu d0 d1 d2 d3 Ru c6 P au;refine jK ?_;refine aY (λE=>E.cell? ⟨t,0,A⟩=T (jd (T ⟨z,0,A⟩))/\E.cell? ⟨y,0,A⟩=T (I N f)/\E.cell? ⟨y,1,A⟩=T (I N x.n)/\E.cell? ⟨y,2,A⟩=T (jk x.s)/\E.cell? ⟨y,3,A⟩=T D/\E.cell? ⟨z,f,A⟩=T (.func (.func (wrF x.k)) #[] (wrL t x.k))) (.take 0 (.take 1 (.take 2 (.take 3 (.take 4 (.take 5 (.take 6 (.take 7 (.take 8 (.one 9 (.take 10 .done))))))))))) ae ae ae G (λ_ _ _ _ h=>h) Re ?_;generalize j.drew=wb at Re QK bg a2 bh⊢;iterate 9 refine BF ?_
  refine ai rfl (λK' k=>?_);have EG:=zS x.k;go_simp;refine(HW B _ u0 _ D _ wb bc QK.own bh bg a2 V W (by have E:=bn.out;have b:=pW l (i+1);rw[pO HI,jA]at b;omega)).mono ?_;rintro e w7 ⟨v7,rfl,b⟩;obtain⟨k0,k1,k2,k3,k4,k5⟩:=Re;have F:=bw.out;have E:=bv.out;have P:=Tu.out;refine k _ _ ⟨cell_grown k0 b.grown F,cell_grown k1 b.grown E,cell_grown k2 b.grown E,cell_grown k3 b.grown E,cell_grown k4 b.grown E,cell_grown k5 b.grown P⟩ λ_=>?_
  replace b:=O (QK.trans b);clear k EG F E P;refine L ?_;refine BF ?_;refine jG ?_
  go_wp2_with fail
  refine⟨⟨i+1,v7,rfl,by go_num,by omega,O ?_⟩,?_⟩
  ·have h:=b.out
   rw[pO HI,jA,j4,<-qA,<-jv];exact h
  simp only[ji];omega
 have hd:=ar ((i:Int)<(d:Int));have PX:=ar (i<d);have a:l.take i=l:=ol (by rw[<-U];omega);have b:=O a;clear a
 go_wp2_with fail
 go_ret;refine⟨_,rfl,?_⟩;have h:=r.out;rw[b]at h;rw[HE,jt,qB,jA,j4,<-U,<-HV];rw[jv,jv,show n+1+(aX d).length+(encs l).length=n+((aX d).length+(encs l).length+1) by omega]at h;exact h
theorem KH(e g:Nat):∀(f:Nat) (x:Val),wfV f x->(1<=x.k/\x.k<=3)/\oe e g x:=by
 have p:∀(m:Int) (s:ByteArray) (l:List Val),-9223372036854775808<=m->m<9223372036854775808->s=emS->l=[]->oe e g (.mk 1 m s l):=by
  intro m s l a b d c B n v xs h i w j k o r t u y z;obtain rfl:(1:Int)=i:=j;subst c;have C:(enc (.mk 1 m s [])).length<=11:=by
   rw[enc,if_pos rfl,jt];have:=kh _ (oR m a b);omega
  exact If B n v xs m s h w k o a b Y
 have q:∀(m:Int) (s:ByteArray) (l:List Val),l=[]->oe e g (.mk 2 m s l):=by
  intro m s l c B n v xs h i w j k o r t u y z;obtain rfl:(2:Int)=i:=j;subst c;have C:(enc (.mk 2 m s [])).length=(aX s.size).length+s.size+1:=by
   rw[enc,if_neg G,if_pos rfl,jt,jA,et]
  exact Ff B n v xs m s h w k o Y
 intro f
 induction f with
 |zero=>
  rintro⟨k,m,s,l⟩ h;rw[wfV]at h
  rcases h with⟨rfl,a,b,d,c⟩|⟨rfl,rfl,a,c⟩|⟨-,-,-,-,h⟩
  ·exact⟨by simp[Val.k],p m s l a b d c⟩
  ·exact⟨by simp[Val.k],q 0 s l c⟩
  exact h.elim
 |succ f i=>
  rintro⟨k,m,s,l⟩ h;rw[wfV]at h
  rcases h with⟨rfl,a,b,d,c⟩|⟨rfl,rfl,a,c⟩|⟨rfl,rfl,d,-,h⟩
  ·exact⟨by simp[Val.k],p m s l a b d c⟩
  ·exact⟨by simp[Val.k],q 0 s l c⟩
  exact⟨by simp[Val.k],KQ e g 0 s l λx j=>i x (h x j)⟩
theorem JI(n:Int)(b:hZ)(w:hK)(d:∃p c,b=hH p 0 c):
 ja ic 139 #[jg #[I N 1,I N n,jk ⟨#[]⟩,b]] w λe w'=>e=ii (je #[I N 0,.bool true])/\hU w w w':=by
 obtain⟨p,c,rfl⟩:=d
 by_cases a:n=0
 ·subst a
  go_enter lv,lw
  go_wp2_with fail
  go_ret2;exact⟨rfl,((jh _ w).alloc (jb _) _).alloc av _⟩
 have f:((n==0):Bool)=false:=by simpa using a
 have g:decide (n=0)=false:=by simpa using a
 clear a
 go_enter lv,lw
 go_wp2_with fail
 go_ret2;exact⟨rfl,((jh _ w).alloc (jb _) _).alloc av _⟩
theorem Jr(s:ByteArray)(b:hZ)(w:hK)(d:∃p c,b=hH p 0 c):
 ja ic 139 #[jg #[I N 2,I N 0,jk s,b]] w λe w'=>e=ii (je #[I N 0,.bool true])/\hU w w w':=by
 obtain⟨p,c,rfl⟩:=d
 by_cases a:s.toList=[]
 ·have f:(s.toList==([]:List UInt8))=true:=by simpa using a
  clear a
  go_enter lv,lw
  go_wp2_with fail
  go_ret2;exact⟨rfl,((jh _ w).alloc (jb _) _).alloc av _⟩
 have f:(s.toList==([]:List UInt8))=false:=by simpa using a
 have g:decide (s.toList=[])=false:=by simpa using a
 go_enter lv,lw
 go_wp2_with fail
 go_ret2;exact⟨rfl,((jh _ w).alloc (jb _) _).alloc av _⟩
def oK(f:Nat)(x:Val):Prop:=∀(a:hZ) (b:Int) (w:hK),x.k=b->ao (·<w.heap.size) w x a->
 ja ic 139 #[jg #[I N b,I N x.n,jk x.s,a]] w λe w'=>∃d:Nat,e=ii (je #[I N d,.bool true])/\d<=f/\hU w w w'
theorem NR(f:Nat)(hf:f<=1000)(l:List Val)(i:∀x∈l,oK f x)(al:l.length<=3000000):oK (f+1) (.mk 3 0 emS l):=by
 intro h kk w au m;obtain rfl:(3:Int)=kk:=au;show ja ic 139 #[jg #[I N 3,I N 0,jk ⟨#[]⟩,h]] w _;obtain⟨z,B,d⟩:=m.slice;replace B:ah (·<w.heap.size) w h 4 l.length (aW l z):=B;replace d:ax (·<w.heap.size) w l z:=d;obtain⟨r,S,C,n,o,s,p⟩:=B;have D:=O d;have E:=O p;have a1:l.length<=C:=o;obtain⟨c,e⟩:=J l.length;have F:h=hH S c C:=by rw[e];exact n
 rw[<-e]at a1 al;have H:=O e;subst F;have QC:=O i;have a:hU w w ((w.alloc (hF #[I N 3,I N 0,jk ⟨#[]⟩,hH S c C] 43)).alloc (hF #[.bool false,.bool (decide (c=0)),.bool (decide (c=0)),.bool true] 277)):=((jh _ w).alloc (jb _) _).alloc av _
 by_cases j:c=0
 ·have g:decide (c=0)=true:=decide_eq_true j
  subst j;rw[g]at a;have K:=O a;clear r n o s p d e i m a g E D
  go_enter lv,lw
  go_wp2_with fail
  go_loopw [2,57] (λq b wr=>q=I N 0/\b=I N 0/\hQ (hU w w wr)) (λ_ b _=>0)
  case atStart=>exact⟨rfl,rfl,K⟩
  obtain⟨rfl,rfl,k⟩:=hrel
  go_wp2_with fail
  go_ret2;exact⟨1,rfl,by omega,k⟩
 have g:decide (c=0)=false:=decide_eq_false j;have bb:decide ((c:Int)=0)=false:=by simpa using j
 have bc:(((c:Int)==0):Bool)=false:=by simpa using j
 rw[g]at a;have K:=O a;clear r n o s p d e i m a g
 go_enter lv,lw
 go_wp2_with fail
 go_loopw [2,57] (λq b wr=>∃i d:Nat,q=I N d/\b=I N i/\i<=c/\d<=f/\hQ (hU w w wr)) (λ_ b _=>c-(ji b).toNat)
 case atStart=>exact⟨0,0,rfl,rfl,jq _,jq _,K⟩
 obtain⟨i,d,rfl,rfl,hi,hd,k⟩:=hrel
 by_cases U:i<c
 ·have a2:=ap ((i:Int)<(c:Int))
  have a3:=ap (i<c);obtain⟨g,o,rfl,r,m⟩:=E (aw H);obtain⟨x,s⟩:∃x,l[i]?=T x:=⟨l[i]'(by rw[<-H];exact U),qd (by rw[<-H];exact U)⟩;obtain⟨t,V,M⟩:=D.at s;have n:=λq hq=>nY l z i q x t s V hq
  have u:=k.out;have p:∀a h,a.block<w.heap.size->w.cell? a=T h->wr.cell? a=T h:=λa h ha F=>(bz (u.block _ ha)).trans F
  have d0:wr.cell? ⟨g,o+i*4,A⟩=T (I N x.k):=p _ _ r (m (i*4+0) _ (n 0 G));have d1:wr.cell? ⟨g,o+i*4+1,A⟩=T (I N x.n):=p _ _ r (m (i*4+1) _ (n 1 G));have d2:wr.cell? ⟨g,o+i*4+2,A⟩=T (jk x.s):=p _ _ r (m (i*4+2) _ (n 2 G));have d3:wr.cell? ⟨g,o+i*4+3,A⟩=T t:=p _ _ r (m (i*4+3) _ (n 3 G));have HF:=O (QC x (q4 s));have W:=u.size;have X:=O (ao.mono (D':=(·<wr.heap.size)) (λb (e:b<w.heap.size)=>jw e W) x t (ao.keep (λb e=>u.block b e) x t M));obtain⟨aa,ad,a4⟩:=M.form;obtain⟨v,P⟩:∃v,x.k=v:=⟨_,rfl⟩;obtain⟨nx,Q⟩:∃nx,x.n=nx:=⟨_,rfl⟩;obtain⟨y,R⟩:∃y,x.s=y:=⟨_,rfl⟩;rw[P]at d0;rw[Q]at d1;rw[R]at d2;have a5:=O P;have ba:=O Q;have WN:=O R;subst a4;clear s V M n u p m P Q R D E W
  go_upto_region 9 with fail
  have m:=af wr (hF #[I N v,I N nx,jk y,hH aa x.l.length ad] 43);have s:=O (ao.mono (D':=(·<(wr.alloc (hF #[I N v,I N nx,jk y,hH aa x.l.length ad] 43)).heap.size)) (λb (e:b<wr.heap.size)=>jw e m.size) x _ (ao.keep (λb e=>m.block b e) x _ X.out));have u:=ac k m;clear m X
  go_wp2_with fail
  have b:=HF _ _ _ a5.out s;rw[ba,WN]at b;refine b.mono ?_;rintro e R ⟨n,rfl,V,p⟩;have M:=ac u p;obtain⟨m,P⟩:∃m:Nat,max (d:Int) (n:Int)=(m:Int):=⟨max d n,by omega⟩;have Q:m<=f:=Y;clear p b
  go_wp2_with fail
  refine⟨⟨i+1,m,?_,by go_num,by omega,Q,M⟩,?_⟩
  ·first|exact rfl|exact congrArg (jm .i64) P
  simp only[ji];omega
 have a2:=ar ((i:Int)<(c:Int));have a3:=ar (i<c)
 go_wp2_with fail
 go_ret2;exact⟨d+1,rfl,by omega,k⟩
theorem Oc:∀(f:Nat),f<=1000->∀x,wfV f x->(enc x).length<=3000000->oK f x:=by
 have g:∀(f:Nat) (m:Int),oK f (.mk 1 m emS []):=by
  intro f m a b w c d;obtain rfl:(1:Int)=b:=c;exact(JI m a w d.form).mono λe w' h=>⟨0,h.1,jq _,h.2⟩
 have j:∀(f:Nat) (s:ByteArray),oK f (.mk 2 0 s []):=by
  intro f s a b w c d;obtain rfl:(2:Int)=b:=c;exact(Jr s a w d.form).mono λe w' h=>⟨0,h.1,jq _,h.2⟩
 intro f
 induction f with
 |zero=>
  rintro -⟨k,m,s,l⟩ h d;rw[wfV]at h
  rcases h with⟨rfl,a,b,rfl,rfl⟩|⟨rfl,rfl,a,rfl⟩|⟨-,-,-,-,h⟩
  ·exact g 0 m
  ·exact j 0 s
  exact h.elim
 |succ f n=>
  rintro q ⟨k,m,s,l⟩ h d;rw[wfV]at h
  rcases h with⟨rfl,a,b,rfl,rfl⟩|⟨rfl,rfl,a,rfl⟩|⟨rfl,rfl,rfl,-,h⟩
  ·exact g _ m
  ·exact j _ s
  have e:(enc (.mk 3 0 emS l)).length=(aX l.length).length+(encs l).length+1:=by
   rw[enc,if_neg G,if_neg G,jt,jA]
  have r:=nS l;refine NR f Y l (λx c=>n Y x (h x c) ?_) Y;have:(enc x).length<=(encs l).length:=by
   obtain⟨i,o⟩:=List.getElem?_of_mem c;have p:=pW l (i+1);rw[pO o,jA]at p;omega
  omega
end Go.Proofs.YtpfafeammikibaaGreatDoor
