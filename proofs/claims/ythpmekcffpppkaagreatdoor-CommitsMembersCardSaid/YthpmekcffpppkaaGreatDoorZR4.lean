/- Texts of the proof, part 4 of 8 (Wg Wi Wj Wk Wl Wm Wu Wv Wx Wy Wo Ad Ae Af Ah Ag Ai Wz Aa Ac Ab Aj Ak Al Am An Ao Ap Aq Ba Bb Lc Ld Le Lf). -/
import Derived.DeepKeys
import Derived.Shelf.SlSortCmp.NoneTotal
import Derived.Lib.SliceRun
import Derived.BigQuiet
import Derived.Test.YthpmekcffpppkaaGreatDoorZR1
import Derived.Test.YthpmekcffpppkaaGreatDoorZR2
import Derived.Test.YthpmekcffpppkaaGreatDoorZR3
namespace Go.Proofs.YthpmekcffpppkaaGreatDoor
set_option maxHeartbeats 64000000
set_option maxRecDepth 100000
set_option linter.unusedVariables false
set_option linter.unusedSimpArgs false
open Go.RowKit
open Go.Proofs.Tryz
open Go.Value renaming int->I
open Go.IntKind renaming i64->N
open _root_.Option renaming some->T,none->ih,map_some->q6
open Go.Value renaming slice->A,string->ii,agg->jg,pointer->js,tuple->jM
open Go.Obj renaming cells->ic
open Go renaming World->ja,Value->jc,Calls->jl,TypeId->jr,Addr->jy,wpList_plain->jz,setRow_heap->jA,below_setRow->jC,setRow_other->jG,Boxed->jH,wp_store_row->jJ,Program->jK,undef->jL,bodyPost_ret->jO,wp_region_noPanic->jQ,wpList_load_row->jU,Oper->jY,maxLen->j3,results_cell_row->j4,wp_region_lit->j5,callFunc->kn,Operand->oi,run_underlying->qk,run_sliceAt_slice->qI
open Go.RowKit renaming Hid->jb,Below->jd
open Go.Proofs.Tryz renaming prog->je
open Go.Value renaming int->jf,oneCell'->jS,slice->j6,agg->qA,ownBlock->qL
open Go.IntKind renaming u8->jh,u64->qc,wrap_u64->qd,wrap_u8->qf
open _root_.Nat renaming le_refl->ji,zero_add->jo,le_trans->jD,lt_of_lt_of_le->jN,zero_le->jR,min_eq_left->j0,le_of_eq->ki,mul_le_mul_right->lm,le_of_lt->lr,add_mul->o4,ne_of_lt->p6,le_succ->qa,lt_or_ge->qt,mod_lt->qz,lt_of_le_of_lt->qN
open Go.Ending renaming returned->jj
open Go.World renaming alloc_heap_new->jk,size_alloc->ju,ownsRow_nil->jZ,setRow->qb,var?_cell->qU,ownsRow_lit->sn
open Go.Proofs renaming intOf->jm
open _root_.List renaming length_map->jn,length_append->jp,getD->jt,replicate->jv,size_toArray->jw,length_take->jE,take_of_length_le->jI,length_cons->jT,append_assoc->jV,getElem?_eq_getElem->jW,append_nil->jX,map_append->j7,getElem?_map->j8,length_nil->km,take_succ_eq_append_getElem->kw,nil_append->lo,mem_cons->lv,filter_append->lw,filter_nil->mb,map_nil->ms,map_cons->mz,mem_nil_iff->nn,cons_append->oo,getElem?_append_left->ow,getElem?_append_right->pa,getElem?_eq_some_iff->pz,getElem_of_mem->qg,length_set->qh,filter_cons_of_neg->qi,drop_drop->qj,flatMap_cons->ql,take_succ_cons->qm,take->qn,take_zero->qo,take_append_drop->qs,mem_map->qu,take_set_of_le->qv,drop_set_of_lt->qw,drop_of_length_le->qx,getElem_mem->qy,setIfInBounds_toArray->qB,map_set->qC,any_eq_false->qD,take_take->qE,mem_singleton->qF,eq_nil_of_length_eq_zero->qM,length_take_le'->qO,take_append->qP,take_add_one->qQ,flatten_append->qS,mem_flatten->qT,push_toArray->qY,append_toArray->qZ,length_singleton->q4,flatten_cons->q5,getElem?_eq_none->q8,toList_toArray->q9,any_eq_true->ri,mem_flatMap->rn,length_drop->rv,mem_append->sg,length_eq_zero_iff->sh,getElem?_drop->sq,filter_cons_of_pos->sv,getElem_set_self->sx
open _root_.Array renaming getElem?_eq_some_iff->jq,length_toList->kl,replicate_succ->qW,replicate_zero->qX
open Go.RowKit.Below renaming refl->jB,heap_alloc->j9,heap_setCell->qV
open Go.Proofs.Tryz renaming underlying53->jF,underlying24->oj,underlying30->ol,underlying109->qG,underlying23->qH,underlying147->qJ,underlying252->qK
open Go.NoPanic renaming normal->jP
open _root_.BitVec renaming ofNat->j1,toNat_ofNat->qe
open _root_.Int renaming eq_ofNat_of_zero_le->ob
theorem Gt(x:Val)(h:jc)(a:Int)(w:ja)(hk:x.k=a)(i:wfV 16 x)(f:ao (·<w.heap.size) w x h)(k:(enc x).length<=2900000):
 jl je 121 #[jg #[I N a,I N x.n,ii x.s,h]] w λe w'=>e=jj (I N 0)/\jd w w w':=by
 obtain⟨p,c,rfl⟩:=f.form;have d:=af w (ic #[I N a,I N x.n,ii x.s,A p x.l.length c] 118);have j:=O (ao.mono (D':=(·<(w.alloc (ic #[I N a,I N x.n,ii x.s,A p x.l.length c] 118)).heap.size)) (λb (g:b<w.heap.size)=>jN g d.size) x _ (ao.keep (λb g=>d.block b g) x _ f));have g:=O (Pq 16 L x i Y _ _ _ hk j);have l:=O d;clear f d j;generalize x.n=j at*;generalize x.s=xs at*;generalize x.l.length=m at*;clear hk i k
 go_enter func121,ntmps121
 go_wp2_with fail
 refine g.mono ?_;rintro e i ⟨d,rfl,k,b⟩;have f:=ac l b;have n:=ak ((16:Int)<(d:Int));clear b
 go_wp2_with fail
 go_ret;exact⟨rfl,f⟩
theorem wj(x:Val)(u:jc)(q:Int)(w:ja)(hk:x.k=q)(h:wfV 16 x)(a:ao (·<w.heap.size) w x u)(H:(enc x).length<=2900000):
 jl je 55 #[jg #[I N q,I N x.n,ii x.s,u]] w λe w'=>∃v,e=jj (jM #[v,I N 0])/\w'.ownsRow w 5 1 v (enc x).length ((enc x).map v8)/\jd w w w':=by
 obtain⟨p,c,rfl⟩:=a.form;have y:=O (λr s=>LJ r s 16 x h);obtain⟨n,o⟩:=(y 0 0).1;obtain⟨d,K⟩:∃d:Nat,q=(d:Int):=⟨q.toNat,by omega⟩;have M:1<=d:=Y;have P:d<=3:=Y;have aa:(d:Int)<4:=Y;subst K;have B:=O hk;have g:=af w (ic #[I N d,I N x.n,ii x.s,A p x.l.length c] 118);have k:=jk w (ic #[I N d,I N x.n,ii x.s,A p x.l.length c] 118);have C:=O a;have j:=O (Gt x _ _ _ hk h (ao.mono (D':=(·<(w.alloc (ic #[I N d,I N x.n,ii x.s,A p x.l.length c] 118)).heap.size)) (λb (f:b<w.heap.size)=>jN f g.size) x _ (ao.keep (λb f=>g.block b f) x _ a)) H);have l:=O g;have m:=O k;clear a g k n o hk h;obtain⟨D,a⟩:=J x.n;obtain⟨xs,g⟩:=J x.s;obtain⟨E,h⟩:=J x.l.length;rw[<-a,<-g,<-h]at j m l⊢;rw[<-h]at C;have Q:=O a;have R:=O g;clear a g h
 go_enter func55,ntmps55
 go_wp2_with fail
 refine j.mono ?_;rintro e k ⟨rfl,g⟩;obtain⟨b,f⟩:=J w.heap.size;have a:=(g.block w.heap.size ar).trans m;rw[<-f]at a⊢;have n:=cell_of (i:=0) a rfl;have o:=cell_of (i:=1) a rfl;have t:=cell_of (i:=2) a rfl;have z:=cell_of (i:=3) a rfl;have h:=ac l g;clear g a f m j l
 go_upto_region 4 with fail
 have F:jb (jd w w k.drew):=O (h.trans ((aP k).mono h.size));have l:k.drew.cell? ⟨b,0,ih⟩=T (I N d)/\k.drew.cell? ⟨b,1,ih⟩=T (I N D)/\k.drew.cell? ⟨b,2,ih⟩=T (ii xs)/\k.drew.cell? ⟨b,3,ih⟩=T (A p E c):=⟨n,o,t,z⟩;clear n o t z h;refine jQ ?_;refine bi (λa=>a.cell? ⟨b,0,ih⟩=T (I N d)/\a.cell? ⟨b,1,ih⟩=T (I N D)/\a.cell? ⟨b,2,ih⟩=T (ii xs)/\a.cell? ⟨b,3,ih⟩=T (A p E c)) (.take 1 (.take 2 (.take 7 (.one 0 (.one 3 (.one 4 (.one 5 (.one 6 (.one 8 (.take 9 (.take 10 .done))))))))))) ae ae ae L (λ_ _ _ _ h=>h) l ?_;generalize k.drew=S at l F⊢;iterate 3 refine Ch ?_
 refine ai rfl (λm a=>?_);go_simp;refine(Kv S).mono ?_;rintro e t ⟨r,s,rfl,n,j⟩;have g:=And.intro (cell_below l.1 j) (And.intro (cell_below l.2.1 j) (And.intro (cell_below l.2.2.1 j) (cell_below l.2.2.2 j)));have U:=O n;have o:=ac F j;have V:=O (ao.keep (λb f=>o.block b f) x _ C.out);have hgt:=(jq.1 n.ptr).1;have W:r<t.heap.size:=by obtain⟨z,X⟩:=n.tab;exact(jq.1 X).1
 have ad:=n.at B M P;refine a _ _ g λ_=>?_
 clear a j n;refine G ?_;refine ai rfl (λm a=>?_);go_simp;refine a _ _ g λ_=>?_
 clear a;refine G ?_;refine ai rfl (λm a=>?_);go_simp;refine a _ _ g λ_=>?_
 clear a;refine G ?_;refine ai rfl (λm a=>?_);go_simp;refine a _ _ g λ_=>?_
 clear a;refine G ?_;refine ai rfl (λm a=>?_);go_simp;refine a _ _ g λ_=>?_
 clear a;refine G ?_;refine ai rfl (λm a=>?_);have EG:=Ar x.k;go_simp;have n:=y r s|>.2 t.heap.size 0 (A ih 0 0) [] _ _ t B (jZ _ _ _ _) (ji _) (ao.mono (λb (f:b<w.heap.size)=>jN f o.size) x _ V.out) U W hgt Y;rw[<-Q,<-R]at n;refine n.mono ?_;rintro e W3 ⟨v3,rfl,j⟩;have Qp:=O (o.trans ((j.below (jZ _ _ _ _) (ji _)).mono o.size));have m:(j6 ih 0 0).ownBlock≠T b:=by simp[qL]
 have c3:=And.intro (cell_grown g.1 j.grown m) (And.intro (cell_grown g.2.1 j.grown m) (And.intro (cell_grown g.2.2.1 j.grown m) (cell_grown g.2.2.2 j.grown m)));replace j:=O j;refine a _ _ c3 λ_=>?_
 clear a EG n;refine G ?_;iterate 2 refine Ch ?_
 refine jP ?_
 go_wp2_with fail
 go_ret2;refine⟨_,rfl,?_,Qp⟩;have h:=j.own;rw[jo,lo]at h;exact k6 h o.size
theorem pU(l:LBy):iz l=ofB l:=by
 unfold iz ofB strOfNums kR;rw[List.map_map]
 congr 1
 congr 1
 refine List.map_congr_left λb _=>?_
 apply UInt8.eq_of_toBitVec_eq
 simp
theorem ia(n:Int)(w:ja):
 jl je 113 #[I N n] w λe w'=>e=jj (jg #[I N 1,I N n,ii ⟨#[]⟩,A ih 0 0])/\jd w w w':=by
 go_enter func113,ntmps113
 go_wp2_with fail
 exact jO (v:=jg #[I N 1,I N n,ii ⟨#[]⟩,A ih 0 0]) (by simp[results,results113,go_sem]) rfl ⟨rfl,(jB _ _).alloc (ji _) _⟩
theorem kg(p:Option jy)(n c:Nat)(w:ja):
 jl je 56 #[A p n c] w λe w'=>e=jj (jg #[I N 3,I N 0,ii ⟨#[]⟩,A p n c])/\jd w w w':=by
 go_enter func56,ntmps56
 go_wp2_with fail
 exact jO (v:=jg #[I N 3,I N 0,ii ⟨#[]⟩,A p n c]) (by simp[results,results56,go_sem]) rfl ⟨rfl,(jB _ _).alloc (ji _) _⟩
theorem tk(v:jc)(l:LBy)(w:ja)(a:BytesAt w v l):
 jl je 114 #[v] w λe w'=>e=jj (jg #[I N 2,I N 0,ii (ofB l),A ih 0 0])/\jd w w w':=by
 have b:=lW (a.below (af w (ic #[I N 0,I N 0,ii ⟨#[]⟩,A ih 0 0] 118)));rw[pU]at b;obtain⟨p,c,rfl,-,-,-⟩:=a;obtain⟨s,d⟩:=J (ofB l);rw[<-d]at b⊢;clear d
 go_enter func114,ntmps114
 go_wp2_with fail
 exact jO (v:=jg #[I N 2,I N 0,ii s,A ih 0 0]) (by simp[results,results114,go_sem]) rfl ⟨rfl,(jB _ _).alloc (ji _) _⟩
theorem Aj:(je.info? 118).map (λi=>(i.zero,i.size,i.bytes))=T (T (jg #[I N 0,I N 0,ii ⟨#[]⟩,A ih 0 0]),4,56):=by kernel_rfl
theorem il{w:ja}{o:jY}{a:Act}{K:Act->ja->Prop}{e:Exit->Act->ja->Prop}(s x:oi)
 (f:o.op=.call {callee:=.builtin .append,args:=#[s,x],argTypes:=#[109,109]})
 (B:Nat) (v:jc) (n:Nat) (xs:List jc) (g:a.eval s=v) (i:w.ownsRow B 118 4 v n xs) (b:jc) (m:Nat) (c:List jc) (j:a.eval x=b) (k:bZ w b 4 m c) (l:∀b∈c,b.oneCell'=true)
 (E:n+m<=4000000) (p:B<=w.heap.size) (h:∀d w',aW B 118 4 w w' v d (n+m) (xs++c)->K (a.put o.dst d) w'):o.wp je a w K e:=by
 obtain⟨q,r,t,u,y⟩:=info_parts Aj;exact lT s x 109 f B 118 q _ 4 56 qG r t u y rfl L v n xs g i b m c j k l (by unfold j3;omega) Y p
  λd w' z C D=>h d w' (lD z C D)
abbrev bJ:jc:=A ih 0 0
theorem dR{D:Nat->Prop}{w:ja}(n:Int):ao D w (vI n) bJ:=by
 rw[vI,ao];exact⟨[],⟨rfl,ih,0,rfl,ji _,λ_=>rfl,λh=>absurd h L⟩,by rw[ax]⟩
theorem lJ{D:Nat->Prop}{w:ja}(b:LBy):ao D w (vT b) bJ:=by
 rw[vT,ao];exact⟨[],⟨rfl,ih,0,rfl,ji _,λ_=>rfl,λh=>absurd h L⟩,by rw[ax]⟩
theorem tZ{D:Nat->Prop}{w:ja}:∀(l:List Int),ax D w (l.map vI) (jv l.length bJ)
 |[]=>by rw[ms,ax];rfl
 |x::l=>by
  rw[mz,ax];exact⟨bJ,_,rfl,dR x,tZ l⟩
def dD(l:List Int):List jc:=aX (l.map vI) (jv l.length bJ)
theorem za(l:List Int)(n:Int):dD (l++[n])=dD l++[I N 1,I N n,ii ⟨#[]⟩,A ih 0 0]:=by
 unfold dD;rw[j7,jp,show jv (l.length+[n].length) bJ=jv l.length bJ++[bJ] by simp[List.replicate_succ']];rw[nf _ _ _ _ ar]
 rfl
theorem pV(l:List Int)(v:jc)(w:ja)(u:cH w v l)(x:l.length<=1000000):
 jl je 110 #[v] w λe w'=>∃j,e=jj j/\w'.ownsRow w 118 4 j l.length (dD l)/\jd w w w':=by
 obtain⟨p,c,rfl,z,a⟩:=u;obtain⟨n,b⟩:=J l.length;rw[<-b]at z x a⊢;have k:=O b;have m:=O a;clear b a
 go_enter func110,ntmps110
 go_wp2_with fail
 go_loopw [3,8] (λa v8 wr=>∃(i:Nat) (f:jc),a=f/\v8=I N i/\i<=n/\jb (wr.ownsRow w 118 4 f i (dD (l.take i)))/\jb (jd w w wr)) (λ_ v8 _=>n-(jm v8).toNat)
 case atStart=>exact⟨0,_,rfl,rfl,jR _,O (by simpa [dD,aX]using jZ w w.heap.size 118 4),O (jB _ _)⟩
 obtain⟨i,f,rfl,rfl,H,q,b⟩:=hrel
 by_cases r:i<n
 ·have B:=aj ((i:Int)<(n:Int))
  have C:=aj (i<n);obtain⟨g,o,rfl,s⟩:=m Y;have d:i<l.length:=by rw[<-k];exact r
  have t:l.getD i 0=l[i]:=by simp[jt,d]
  obtain⟨y,h⟩:=J (l.getD i 0);have a:=s i r;rw[<-h]at a;have K:wr.cell? ⟨g,o+i,ih⟩=T (I N y):=(bE (b.block g (eR a))).trans a;have D:jb (dD (l.take (i+1))=dD (l.take i)++[I N 1,I N y,ii ⟨#[]⟩,A ih 0 0]):=O (by
   rw[kw d,za,h,t])
  have E:=b.size;clear t h a s d m
  go_wp2_with fail
  refine(ia y wr).mono ?_;rintro e a ⟨rfl,d⟩;have h:=aE q d;have t:=O (b.trans (d.mono E));have M:=d.size;clear d
  go_wp2_with (at_builtin;refine Hid.out ?_)
  refine O ?_;refine jz rfl λ_ s=>il _ _ rfl w.heap.size _ _ _ rfl (de h (af a _)) _ 1 [I N 1,I N y,ii ⟨#[]⟩,A ih 0 0] rfl (ey a [I N 1,I N y,ii ⟨#[]⟩,A ih 0 0] _ _ 4 1 1 rfl (ji _)) (by simp[jS]) (show i+1<=4000000 by omega) (by rw[ju];omega) λP Q d=>s _ _ ?_
  have F:=O (t.trans (((af a _).mono (show w.heap.size<=a.heap.size by omega)).trans (d.below (de h (af a _)) (by rw[ju];omega))));replace d:=O d.own;clear s
  go_wp2_with fail
  refine⟨⟨i+1,_,rfl,by go_num,by omega,O (by rw[D];exact d),F⟩,?_⟩;simp only[jm];omega
 have B:=ak ((i:Int)<(n:Int));have C:=ak (i<n);have a:i=n:=Y;have d:=O a;clear a
 go_wp2_with fail
 go_ret;refine⟨_,rfl,?_,b⟩;have h:=q.out;rw[d,jI (by rw[<-k];exact ji _)]at h;exact h
section
section
variable {α:Type}
def cG(f:α->jc->List jc):List α->List jc->List jc
 |x::xs,a::b=>f x a++cG f xs b
 |_,_=>[]
theorem Au(f:α->jc->List jc):∀(l m:List α) (a b:List jc),a.length=l.length->cG f (l++m) (a++b)=cG f l a++cG f m b
 |[],m,a,b,h=>by
  have:a=[]:=qM (by simpa using h);subst this
  cases m<;>cases b<;>simp[cG]
 |x::l,m,[],b,h=>by simp at h
 |x::l,m,c::a,b,h=>by
  simp only[oo,cG,Au f l m a b (by simpa using h),jV]
theorem oA(f:α->jc->List jc)(k:Nat)(hk:∀x a,(f x a).length=k):∀(l:List α) (b:List jc) (j i:Nat) (x:α) (a:jc),l[j]?=T x->b[j]?=T a->i<k->(cG f l b)[j*k+i]?=(f x a)[i]?
 |[],b,j,i,x,a,h,_,_=>by simp at h
 |y::l,[],j,i,x,a,_,h,_=>by simp at h
 |y::l,v::b,0,i,x,a,h,c,d=>by
  have e:y=x:=by simpa using h
  have g:v=a:=by simpa using c
  subst e;subst g;show(f y v++cG f l b)[0*k+i]?=_;rw[Nat.zero_mul,jo,ow (by rw[hk];exact d)]
 |y::l,v::b,j+1,i,x,a,h,c,d=>by
  show(f y v++cG f l b)[(j+1)*k+i]?=_;have g:(f y v).length=k:=hk _ _;have e:(j+1)*k=k+j*k:=by rw[o4];omega
  rw[pa (by rw[g,e];omega),g,show(j+1)*k+i-k=j*k+i by omega];exact oA f k hk l b j i x a (by simpa using h) (by simpa using c) d
theorem flat_length(f:α->List jc)(k:Nat)(hk:∀x,(f x).length=k)(l:List α):(l.flatMap f).length=l.length*k:=by
 induction l with
 |nil=>simp
 |cons x l a=>rw[ql,jp,a,hk,jT,o4];omega
theorem flat_get(f:α->List jc)(k:Nat)(hk:∀x,(f x).length=k):∀(l:List α) (j i:Nat) (x:α),l[j]?=T x->i<k->(l.flatMap f)[j*k+i]?=(f x)[i]?
 |[],j,i,x,h,_=>by simp at h
 |y::l,0,i,x,h,a=>by
  have e:y=x:=by simpa using h
  subst e;rw[ql,Nat.zero_mul,jo,ow (by rw[hk];exact a)]
 |y::l,j+1,i,x,h,a=>by
  have e:(j+1)*k=k+j*k:=by rw[o4];omega
  rw[ql,pa (by rw[hk,e];omega),hk,show(j+1)*k+i-k=j*k+i by omega];exact flat_get f k hk l j i x (by simpa using h) a
end
def bR(D:Nat->Prop)(w:ja):List (LBy)->List jc->Prop
 |[],a=>a=[]
 |b::e,a=>∃c d,a=c::d/\ap D w c 1 b.length (b.map v8)/\bR D w e d
theorem bR.keep{D:Nat->Prop}{w w':ja}(hk:∀g,D g->w'.heap[g]?=w.heap[g]?):∀{c:List (LBy)} {a:List jc},bR D w c a->bR D w' c a
 |[],a,h=>h
 |b::c,a,⟨d,e,f,g,i⟩=>⟨d,e,f,g.keep hk,i.keep hk⟩
theorem bR.mono{D D':Nat->Prop}{w:ja}(d:∀g,D g->D' g):∀{c:List (LBy)} {a:List jc},bR D w c a->bR D' w c a
 |[],a,h=>h
 |b::c,a,⟨e,f,g,i,j⟩=>⟨e,f,g,i.mono d,j.mono d⟩
theorem bR.len{D:Nat->Prop}{w:ja}:∀{c:List (LBy)} {a:List jc},bR D w c a->a.length=c.length
 |[],a,h=>by rw[show a=[]from h];rfl
 |b::c,a,⟨f,g,d,i,e⟩=>by rw[d];simp[e.len]
theorem bR.at{D:Nat->Prop}{w:ja}:∀{f:List (LBy)} {a:List jc} {i:Nat} {b:LBy},bR D w f a->f[i]?=T b->∃c,a[i]?=T c/\ap D w c 1 b.length (b.map v8)
 |[],a,i,x,h,d=>by simp at d
 |y::l,a,i,x,⟨c,o,g,j,k⟩,d=>by
  subst g
  rcases i with _|i
  ·have e:y=x:=by simpa using d
   subst e;exact⟨c,rfl,j⟩
  obtain⟨e,m,n⟩:=k.at (i:=i) (by simpa using d);exact⟨e,by simpa using m,n⟩
theorem bR.snoc{D:Nat->Prop}{w:ja}{b:LBy}{c:jc}(e:ap D w c 1 b.length (b.map v8)):∀{d:List (LBy)} {a:List jc},bR D w d a->bR D w (d++[b]) (a++[c])
 |[],a,h=>by rw[show a=[]from h];exact⟨c,[],rfl,e,rfl⟩
 |x::d,a,⟨v,f,g,i,j⟩=>⟨v,f++[c],by rw[g];rfl,i,j.snoc e⟩
theorem ap.bytes{D:Nat->Prop}{w:ja}{v:jc}{l:LBy}(h:ap D w v 1 l.length (l.map v8)):BytesAt w v l:=by
 obtain⟨-,p,c,b,d,f,i⟩:=h;refine⟨p,c,b,d,f,λk=>?_⟩;obtain⟨g,o,e,-,m⟩:=i k;refine⟨g,o,e,λj a=>m j _ ?_⟩;rw[j8,jW a];simp[jt,a]
theorem ap.form{D:Nat->Prop}{w:ja}{v:jc}{sz n:Nat}{xs:List jc}(h:ap D w v sz n xs):∃p c,v=A p n c:=by
 obtain⟨-,p,c,a,-⟩:=h;exact⟨p,c,a⟩
theorem ap.of_own{D:Nat->Prop}{w:ja}{B sz n:Nat}{e:jr}{v:jc}{xs:List jc}(h:w.ownsRow B e sz v n xs)(a:∀g,v.ownBlock=T g->D g):ap D w v sz n xs:=by
 obtain⟨b,p,c,rfl,d,f,i⟩:=bZ.of_own h;refine⟨b,p,c,rfl,d,f,λj=>?_⟩;obtain⟨g,o,rfl,k⟩:=i j;exact⟨g,o,rfl,a g rfl,k⟩
def Chg.cells(x:Chg):List jc:=[I N x.k,I N x.d,I N x.p,I N x.v,I N x.c]
def Bx.cells(x:Bx)(a:jc):List jc:=[I N x.node,I N x.lev,I N x.u,a]
def Wl.cells(x:Wl)(a:jc):List jc:=[I N x.dev,I N x.u,a]
structure CQ where
 vc:jc
 vp:jc
 vb:jc
 vw:jc
def ah(c:Cmt)(q:CQ):List jc:=
 I N c.folder::I N c.epoch::(c.parent.map v8++(I N c.author::q.vc::q.vp::q.vb::q.vw::(c.confirm.map v8++[I N c.r,I N c.s])))
structure ay(D:Nat->Prop)(w:ja)(c:Cmt)(q:CQ):Prop where
 chg:ap D w q.vc 5 c.chg.length (c.chg.flatMap Chg.cells)
 path:ap D w q.vp 1 c.path.length (c.path.map (jf .i64))
 box:∃a,ap D w q.vb 4 c.box.length (cG Bx.cells c.box a)/\bR D w (c.box.map Bx.body) a
 wel:∃a,ap D w q.vw 3 c.wel.length (cG Wl.cells c.wel a)/\bR D w (c.wel.map Wl.body) a
 plen:c.parent.length=32
 clen:c.confirm.length=32
theorem ay.keep{D:Nat->Prop}{w w':ja}{c:Cmt}{q:CQ}(h:ay D w c q)(hk:∀g,D g->w'.heap[g]?=w.heap[g]?):ay D w' c q:=by
 obtain⟨a,b,⟨d,e,f⟩,⟨g,i,j⟩,k,l⟩:=h;exact⟨a.keep hk,b.keep hk,⟨d,e.keep hk,f.keep hk⟩,⟨g,i.keep hk,j.keep hk⟩,k,l⟩
theorem ay.mono{D D':Nat->Prop}{w:ja}{c:Cmt}{q:CQ}(h:ay D w c q)(hk:∀g,D g->D' g):ay D' w c q:=by
 obtain⟨a,b,⟨d,e,f⟩,⟨g,i,j⟩,k,l⟩:=h;exact⟨a.mono hk,b.mono hk,⟨d,e.mono hk,f.mono hk⟩,⟨g,i.mono hk,j.mono hk⟩,k,l⟩
theorem ay.below{w w':ja}{c:Cmt}{q:CQ}(h:ay (·<w.heap.size) w c q)(b:jd w w w'):ay (·<w'.heap.size) w' c q:=
 (h.keep λg a=>b.block g a).mono λg (a:g<w.heap.size)=>jN a b.size
structure cI(w:ja)(b:Nat)(c:Cmt)(q:CQ):Prop where
 blk:w.heap[b]?=T (ic (ah c q).toArray 37 (0,0))
 plen:c.parent.length=32
 clen:c.confirm.length=32
theorem dT(c:Cmt)(q:CQ)(a:c.parent.length=32)(b:c.confirm.length=32):(ah c q).length=73:=by
 unfold ah;simp[a,b]
theorem cI.keep{w w':ja}{b:Nat}{c:Cmt}{q:CQ}(h:cI w b c q)(hk:w'.heap[b]?=w.heap[b]?):cI w' b c q:=⟨hk.trans h.blk,h.plen,h.clen⟩
theorem cI.get{w:ja}{b:Nat}{c:Cmt}{q:CQ}(h:cI w b c q){i:Nat}{v:jc}(a:(ah c q)[i]?=T v):w.cell? ⟨b,i,ih⟩=T v:=
 cell_of h.blk (by simpa using a)
theorem eE(c:Cmt)(q:CQ)(d:c.parent.length=32)(e:c.confirm.length=32):
 (ah c q)[0]?=T (I N c.folder)/\(ah c q)[1]?=T (I N c.epoch)/\(ah c q)[34]?=T (I N c.author)/\(ah c q)[35]?=T q.vc/\(ah c q)[36]?=T q.vp/\
 (ah c q)[37]?=T q.vb/\(ah c q)[38]?=T q.vw/\(ah c q)[71]?=T (I N c.r)/\(ah c q)[72]?=T (I N c.s):=by
 have k:∀(l r:List jc) (i:Nat),l.length=32->(l++r)[32+i]?=r[i]?:=λl r i f=>by
  rw[pa Y,f];congr 1;omega
 have a:(c.parent.map v8).length=32:=by rw[jn];exact d
 have b:(c.confirm.map v8).length=32:=by rw[jn];exact e
 unfold ah;refine⟨rfl,rfl,?_,?_,?_,?_,?_,?_,?_⟩
 ·exact k _ _ 0 a
 ·exact k _ _ 1 a
 ·exact k _ _ 2 a
 ·exact k _ _ 3 a
 ·exact k _ _ 4 a
 ·exact(k _ _ (5+32) a).trans (k _ _ 0 b)
 exact(k _ _ (5+33) a).trans (k _ _ 1 b)
theorem rY(c:Cmt)(q:CQ)(d:c.parent.length=32){j:Nat}(f:j<32):(ah c q)[2+j]?=T (I .u8 (c.parent.getD j 0).toNat):=by
 unfold ah;have e:∀(a b:jc) (l:List jc),(a::b::l)[2+j]?=l[j]?:=λa b l=>by rw[show 2+j=j+1+1 by omega];rfl
 rw[e,ow (by rw[jn];omega),j8,jW Y];simp[jt,d,f]
theorem B5(c:Cmt)(q:CQ)(g:c.parent.length=32)(h:c.confirm.length=32){j:Nat}(i:j<32):(ah c q)[39+j]?=T (I .u8 (c.confirm.getD j 0).toNat):=by
 unfold ah;have e:∀(a b:jc) (l:List jc),(a::b::l)[39+j]?=l[37+j]?:=λa b l=>by rw[show 39+j=37+j+1+1 by omega];rfl
 have k:(c.parent.map v8).length=32:=by rw[jn];exact g
 have m:∀(a b c d f:jc) (l:List jc),(a::b::c::d::f::l)[5+j]?=l[j]?:=λa b c d f l=>by rw[show 5+j=j+1+1+1+1+1 by omega];rfl
 rw[e,pa Y,k,show 37+j-32=5+j by omega,m,ow (by rw[jn];omega),j8,jW Y];simp[jt,h,i]
theorem cI.parent{w:ja}{b:Nat}{c:Cmt}{q:CQ}(h:cI w b c q):BytesAt w (A (T ⟨b,2,ih⟩) 32 32) c.parent:=
 ⟨_,32,by rw[h.plen],by rw[h.plen];exact ji _,(λe=>by cases e),λ_=>⟨b,2,rfl,λj a=>h.get (rY c q h.plen (by rw[h.plen]at a;exact a))⟩⟩
theorem cI.confirm{w:ja}{b:Nat}{c:Cmt}{q:CQ}(h:cI w b c q):BytesAt w (A (T ⟨b,39,ih⟩) 32 32) c.confirm:=
 ⟨_,32,by rw[h.clen],by rw[h.clen];exact ji _,(λe=>by cases e),λ_=>⟨b,39,rfl,λj a=>h.get (B5 c q h.plen h.clen (by rw[h.clen]at a;exact a))⟩⟩
structure Bld(M b:Nat)(w0 wr:ja)(l:List Val)(a:jc)(c:List jc):Prop where
 box:wr.heap[b]?=T (ic #[I N 3,I N 0,ii ⟨#[]⟩,a] 118 (0,0))
 own:wr.ownsRow M 118 4 a l.length (aX l c)
 kids:ax (λg=>M<=g/\g<wr.heap.size/\a.ownBlock≠T g) wr l c
 but:aD b M w0 wr
 sz:M<=wr.heap.size
theorem Bld.start{M a:Nat}{w:ja}(b:w.heap[a]?=T (ic #[I N 3,I N 0,ii ⟨#[]⟩,bJ] 118 (0,0)))(c:M<=w.heap.size):Bld M a w w [] bJ []:=
 ⟨b,by simpa [aX]using jZ w M 118 4,by rw[ax],aD.refl _ _ _,c⟩
theorem Bld.later{M c:Nat}{w0 wr e:ja}{l:List Val}{f:jc}{d:List jc}(h:Bld M c w0 wr l f d)(i:c<M)(a:jd wr wr e):Bld M c w0 e l f d:=
 ⟨(a.block c (jN i h.sz)).trans h.box,de h.own a,ax.mono (λg b=>⟨b.1,jN b.2.1 a.size,b.2.2⟩) l d (ax.keep (λg b=>a.block g b.2.1) l d h.kids),
  h.but.trans (aD.of_below (a.mono h.sz)) (ji _),jD h.sz a.size⟩
theorem Bld.push{M j:Nat}{w0 c p m:ja}{l:List Val}{n o:jc}{f:List jc}(h:Bld M j w0 c l n f)(D:j<M){x:Val}{i:jc}
 (t:ao (λg=>M<=g/\g<c.heap.size/\n.ownBlock≠T g) c x i) (a:aW M 118 4 c p n o (l.length+1) (aX l f++eo x i))
 (u:m.heap[j]?=T (ic #[I N 3,I N 0,ii ⟨#[]⟩,o] 118 (0,0))) (b:kC j p m):Bld M j w0 m (l++[x]) o (f++[i]):=by
 have v:=h.kids.len;have q:∀g,(M<=g/\g<c.heap.size/\n.ownBlock≠T g)->m.heap[g]?=c.heap[g]?:=λg d=>
  (b.block g Y).trans (a.grown.block g d.2.1 (λe=>d.2.2 e.symm))
 have r:∀g,(M<=g/\g<c.heap.size/\n.ownBlock≠T g)->(M<=g/\g<m.heap.size/\o.ownBlock≠T g):=λg d=>
  ⟨d.1,by rw[b.size];exact jN d.2.1 a.grown.size,a.ne d.2.1 d.2.2⟩
 refine⟨u,?_,ax.append (ax.mono r _ _ (ax.keep q _ _ h.kids)) (ax.one (ao.mono r _ _ (ao.keep q _ _ t))),?_,?_⟩
 ·have e:aX (l++[x]) (f++[i])=aX l f++eo x i:=by
   rw[nf l [x] f [i] v];simp[aX]
  rw[e,jp];have s:=a.own;refine⟨s.1,?_⟩
  rcases s.2 with k|⟨g,w,y,z,k,B,C⟩
  ·exact .inl k
  exact .inr ⟨g,w,y,z,k,(b.block g Y).trans B,C⟩
 ·refine h.but.trans ⟨b.os.trans a.grown.os,b.tape.trans a.grown.tape,b.output.trans a.grown.output,by rw[b.size];exact a.grown.size,λk hk s=>?_⟩ (ji _)
  refine(b.block k s).trans (a.grown.block k (jN hk h.sz) (λe=>?_));have:=(h.own.lt k e.symm).1;omega
 rw[b.size];exact jD h.sz a.grown.size
end
theorem eh{w w':ja}{g:Nat}{o:Obj}{a:Option Nat}(h:w.heap[g]?=T o)(b:w.grownBy w' a)(c:a≠T g):w'.heap[g]?=T o:=
 (b.block g (jq.1 h).1 (λe=>c e.symm)).trans h
theorem av{w w':ja}{g:Nat}{o:Obj}(h:w.heap[g]?=T o)(a:jd w w w'):w'.heap[g]?=T o:=
 (a.block g (jq.1 h).1).trans h
theorem Bld.fresh{M f:Nat}{w0 a b:ja}{l:List Val}{c:jc}{i:List jc}(h:Bld M f w0 a l c i)(p:jd a a b){e:jr}{sz n:Nat}{d:jc}{xs:List jc}(j:b.ownsRow a e sz d n xs):
 ∀g,d.ownBlock=T g->M<=g/\g<b.heap.size/\c.ownBlock≠T g:=λg k=>by
 obtain⟨m,o⟩:=j.lt g k;exact⟨jD h.sz m,o,λe=>by have:=(h.own.lt g e).2;omega⟩
theorem Bld.fin{M d:Nat}{w0 wr:ja}{l:List Val}{c:jc}{b:List jc}(h:Bld M d w0 wr l c b):ao (λg=>M<=g/\g<wr.heap.size) wr (vL l) c:=by
 rw[vL,ao];exact⟨b,ap.of_own h.own (λg a=>h.own.lt g a),ax.mono (λg a=>⟨a.1,a.2.1⟩) l b h.kids⟩
theorem lX{D:Nat->Prop}{w:ja}{B:Nat}{a:jc}{l:List Int}(b:w.ownsRow B 118 4 a l.length (dD l))(c:∀g,a.ownBlock=T g->D g):ao D w (vL (l.map vI)) a:=by
 rw[vL,ao];exact⟨jv l.length bJ,by rw[jn];exact ap.of_own b c,tZ l⟩
theorem C7(W:ja)(l:List Int)(t:jr):cH (W.alloc (ic (l.map (jf .i64)).toArray t)) (A (T ⟨W,0,ih⟩) l.length l.length) l:=by
 refine⟨_,l.length,rfl,ji _,λ_=>⟨W.heap.size,0,rfl,λj a=>?_⟩⟩;refine cell_of (jk W _) ?_;rw[jo];simp[jt,a]
theorem iL(W:ja)(xs:List jc)(t:jr)(sz n B:Nat)(b:B<=W.heap.size)(a:xs.length=n*sz)(c:n<=j3):(W.alloc (ic xs.toArray t)).ownsRow B t sz (A (T ⟨W,0,ih⟩) n n) n xs:=by
 refine⟨a,.inr ⟨W.heap.size,n,xs.toArray,rfl,b,jk W _,ji _,c,by simpa using a,?_⟩⟩;simp[<-a]
theorem m5{α:Type}{l:List α}{j:Nat}(h:j<l.length):∃x,l[j]?=T x/\l.take (j+1)=l.take j++[x]:=
 ⟨l[j],jW h,kw h⟩
theorem ax.nil{D:Nat->Prop}{w:ja}:ax D w [] []:=by rw[ax]
theorem ax.cons{D:Nat->Prop}{w:ja}{x:Val}{a:jc}{xs:List Val}{b:List jc}(h:ao D w x a)(t:ax D w xs b):ax D w (x::xs) (a::b):=by
 rw[ax];exact⟨a,b,rfl,h,t⟩
theorem ap.ints{D:Nat->Prop}{w:ja}{v:jc}{l:List Int}(h:ap D w v 1 l.length (l.map (jf .i64))):cH w v l:=by
 obtain⟨-,p,c,b,d,m,f⟩:=h;refine⟨p,c,b,d,λi=>?_⟩;obtain⟨g,o,e,-,k⟩:=f i;refine⟨g,o,e,λj a=>k j _ ?_⟩;rw[j8,jW a];simp[jt,a]
def iq(w w':ja)(c:Cmt)(v:jc):Prop:=∃a,w'.ownsRow w 118 4 v 11 (aX (aB c) a)/\ax (λg=>w.heap.size<=g/\g<w'.heap.size) w' (aB c) a
theorem nN{p q:Prop}(k:q)(h:q->p:=by intro k;refine cT (v:=?_) rfl ag (λW' hS=>?_) ?_;rotate_left;(have k3:=cell_of (i:=3) hS.1 rfl;have e0:=cell_of (i:=0) hS.2 rfl;have e1:=cell_of (i:=1) hS.2 rfl;have e2:=cell_of (i:=2) hS.2 rfl;have e3:=cell_of (i:=3) hS.2 rfl;have e4:=cell_of (i:=4) hS.2 rfl;go_simp;with_reducible rfl);refine G ?_;exact k):p:=h k
theorem rB{p q:Prop}(k:q)(h:q->p:=by intro k;refine cT (v:=?_) rfl ag (λW' hS=>?_) ?_;rotate_left;(have k3:=cell_of (i:=3) hS.1 rfl;have e0:=cell_of (i:=0) hS.2 rfl;have e1:=cell_of (i:=1) hS.2 rfl;have e2:=cell_of (i:=2) hS.2 rfl;have e3:=cell_of (i:=3) hS.2 rfl;go_simp;with_reducible rfl);refine G ?_;exact k):p:=h k
theorem tE{p q:Prop}(k:q)(h:q->p:=by intro k;refine cT (v:=?_) rfl ag (λW' hS=>?_) ?_;rotate_left;(have k3:=cell_of (i:=3) hS.1 rfl;have e0:=cell_of (i:=0) hS.2 rfl;have e1:=cell_of (i:=1) hS.2 rfl;have e2:=cell_of (i:=2) hS.2 rfl;go_simp;with_reducible rfl);refine G ?_;exact k):p:=h k
theorem nL(c:Cmt)(q:CQ)(w:ja)(d:ay (·<w.heap.size) w c q)(l1:c.chg.length<=1000000)(l2:c.path.length<=1000000)(l3:c.box.length<=1000000)(l4:c.wel.length<=1000000):
 jl je 50 #[jg (ah c q).toArray] w λe w'=>∃v,e=jj v/\iq w w' c v/\jd w w w':=by
 have h:cI (w.alloc (ic (ah c q).toArray 37)) w.heap.size c q:=⟨jk w _,d.plen,d.clen⟩;have i:=af w (ic (ah c q).toArray 37);have X:=O d;have y:=O h;have C:=O i;obtain⟨Qz,f⟩:=J ((ah c q).toArray);rw[<-f]at y C⊢;have Tr:=O f;obtain⟨b,g⟩:=J w.heap.size;rw[<-g]at y;have SE:=O g;clear h i d f g
 go_enter func50,ntmps50
 go_wp2_with fail
 refine(kg ih 0 0 _).mono ?_;rintro e w1 ⟨rfl,d⟩;replace y:=O (y.keep (d.block b (by rw[SE];simp)));replace C:=ac C d;clear d
 go_wp2_with fail
 refine(kg ih 0 0 _).mono ?_;rintro e w2 ⟨rfl,d⟩;have f:=(jq.1 y.blk).1;replace y:=O (y.keep (d.block b f));replace C:=ac C d;clear d f
 go_wp2_with fail
 refine(kg ih 0 0 _).mono ?_;rintro e w3 ⟨rfl,d⟩;have f:=(jq.1 y.blk).1;replace y:=O (y.keep (d.block b f));replace C:=ac C d;clear d f
 go_upto_region 2 with fail
 obtain⟨r,h⟩:=J w3.heap.size;have m:=jk w3 (ic #[I N 3,I N 0,ii ⟨#[]⟩,A ih 0 0] 118);have a2:=jk (w3.alloc (ic #[I N 3,I N 0,ii ⟨#[]⟩,A ih 0 0] 118)) (ic #[I N 3,I N 0,ii ⟨#[]⟩,A ih 0 0] 118);have Tk:=jk ((w3.alloc (ic #[I N 3,I N 0,ii ⟨#[]⟩,A ih 0 0] 118)).alloc (ic #[I N 3,I N 0,ii ⟨#[]⟩,A ih 0 0] 118)) (ic #[I N 3,I N 0,ii ⟨#[]⟩,A ih 0 0] 118);have k:jd w3 w3 (((w3.alloc (ic #[I N 3,I N 0,ii ⟨#[]⟩,A ih 0 0] 118)).alloc (ic #[I N 3,I N 0,ii ⟨#[]⟩,A ih 0 0] 118)).alloc (ic #[I N 3,I N 0,ii ⟨#[]⟩,A ih 0 0] 118)):=(((jB _ w3).alloc (ji _) _).alloc ar _).alloc (by simp;omega) _;obtain⟨W,i⟩:=J ((((w3.alloc (ic #[I N 3,I N 0,ii ⟨#[]⟩,A ih 0 0] 118)).alloc (ic #[I N 3,I N 0,ii ⟨#[]⟩,A ih 0 0] 118)).alloc (ic #[I N 3,I N 0,ii ⟨#[]⟩,A ih 0 0] 118)));have n:W.heap[r]?=T (ic #[I N 3,I N 0,ii ⟨#[]⟩,bJ] 118 (0,0)):=by
  rw[i,h,j9 _ _ _ (by simp;omega),j9 _ _ _ ar];exact m
 have o:W.heap[r+1]?=T (ic #[I N 3,I N 0,ii ⟨#[]⟩,bJ] 118 (0,0)):=by
  rw[i,h,j9 _ _ _ ar];simpa using a2
 have p:W.heap[r+2]?=T (ic #[I N 3,I N 0,ii ⟨#[]⟩,bJ] 118 (0,0)):=by
  rw[i,h];simpa using Tk
 have s:W.heap.size=r+3:=by rw[i,h];simp
 rw[<-i]at k⊢;have f:=(jq.1 y.blk).1;replace y:=O (y.keep (k.block b f));have t:w.heap.size<=r:=by rw[h];exact C.size
 replace C:=ac C k;have x:b<r:=by rw[h];exact f
 have u:=O t;have Uf:=O x;have Vs:=O n;have Sb:=O o;have Sa:=O p;have QH:=O s;rw[<-h,<-SE];have bC:jb (∀g,g<w.heap.size->W.heap[g]?=w.heap[g]?):=O (λg B=>C.block g B);clear m a2 Tk n o p k f t x s i h;obtain⟨c0,c1,Ts,SG,Vq,Uk,Ul,Yb,Yd⟩:=eE c q X.plen X.clen;replace SG:=y.get SG;obtain⟨Yc,p1,q1,al,VH,bc,RO⟩:=X.chg;obtain⟨n1,UP⟩:=J c.chg.length;rw[al]at SG;rw[<-UP]at SG l1 VH;have S8:=O UP;have V:=O RO;clear c0 c1 Ts Vq Uk Ul Yb Yd Yc al bc UP RO
 go_wp2_with fail
 have Rp:=O (Bld.start (M:=(r+3)) Vs (ki QH.symm))
 go_loopw [18] (λv wr=>∃(i:Nat) (vr:jc) (us:List jc),v=I N i/\i<=n1/\jb (Bld (r+3) r W wr ((c.chg.take i).map Chg.val) vr us)) (λv _=>n1-(jm v).toNat)
 case atStart=>exact⟨0,bJ,[],rfl,jR _,Rp⟩
 clear Rp SG;obtain⟨i,vr,us,rfl,hi,m⟩:=hrel
 by_cases a3:i<n1
 ·have hd:=aj ((i:Int)<(n1:Int))
  have Q3:=aj (i<n1);obtain⟨g,o,rfl,bl,a4⟩:=V (aw S8);obtain⟨x,hx,T8⟩:=m5 (l:=c.chg) (j:=i) (by rw[<-S8];exact a3);have a5:g<(r+3):=aw u;have ba:g≠r:=aw u;have R6:=(m.but.block g a5 ba).trans (bC g bl);have aa:=λk hk=>(bE (a:=⟨g,o+(i*5+k),ih⟩) R6).trans (a4 (i*5+k) _ ((flat_get Chg.cells 5 (λ_=>rfl) c.chg i k x hx hk).trans (show x.cells[k]?=T (x.cells.getD k (I N 0)) by have:x.cells.length=5:=rfl;simp[jt,jW (show k<x.cells.length by omega)])))
  have d0:wr.cell? ⟨g,o+i*5,ih⟩=T (I N x.k):=aa 0 L;have d1:wr.cell? ⟨g,o+i*5+1,ih⟩=T (I N x.d):=aa 1 L;have d2:wr.cell? ⟨g,o+i*5+2,ih⟩=T (I N x.p):=aa 2 L;have p:wr.cell? ⟨g,o+i*5+3,ih⟩=T (I N x.v):=aa 3 L;have f:wr.cell? ⟨g,o+i*5+4,ih⟩=T (I N x.c):=aa 4 L;have SF:=O T8;clear a5 ba R6 aa a4 hx T8;obtain⟨P,Q,SR⟩:=aO m.own;have au:((c.chg.take i).map Chg.val).length=i:=by rw[jn,jE,<-S8];omega
  rw[au]at SR;have UQ:=O au;subst SR;clear au
  go_upto_region 5 with fail
  obtain⟨bx,a1⟩:=J wr.heap.size;have ad:=jk wr (ic #[I N x.k,I N x.d,I N x.p,I N x.v,I N x.c] 49);have n:=af wr (ic #[I N x.k,I N x.d,I N x.p,I N x.v,I N x.c] 49);have SX:jb ((j6 P i Q).ownBlock≠T bx):=O (bW m.own (.inl (ki a1.symm)));rw[<-a1]at ad⊢;obtain⟨R,S2⟩:=J (wr.alloc (ic #[I N x.k,I N x.d,I N x.p,I N x.v,I N x.c] 49));rw[<-S2]at ad n⊢;have VK:=n.trans ((aP R).mono n.size);have RH:jb (Bld (r+3) r W R.drew ((c.chg.take i).map Chg.val) (A P i Q) us):=O (m.later Y VK);have E:R.drew.heap[r]?=T (ic #[I N 3,I N 0,ii ⟨#[]⟩,A P i Q] 118 (0,0))/\R.drew.heap[bx]?=T (ic #[I N x.k,I N x.d,I N x.p,I N x.v,I N x.c] 49 (0,0)):=⟨RH.box,ad⟩;clear ad n S2 a1 m VK d0 d1 d2 p f;refine jQ ?_;refine ij (λF=>F.heap[r]?=T (ic #[I N 3,I N 0,ii ⟨#[]⟩,A P i Q] 118 (0,0))/\F.heap[bx]?=T (ic #[I N x.k,I N x.d,I N x.p,I N x.v,I N x.c] 49 (0,0))) 18 [(0,true),(1,true),(2,true),(3,true),(4,true),(5,true),(6,true),(7,true),(8,true),(9,true),(10,true),(11,true),(12,false),(13,false),(14,false),(15,false),(16,false),(17,true),(18,false)] ae ae ae L (λ_ _ _ _ h=>h) E ?_;generalize R.drew=wa at E RH⊢;refine ci ?_;refine nN ?_;refine ci ?_;refine nN ?_;refine ci ?_;refine nN ?_;refine ci ?_;refine nN ?_;refine ci ?_;refine nN ?_;refine ci ?_;refine nN ?_;refine aR rfl (λt f=>?_);go_simp;have n:=af wa (ic #[I N x.k,I N x.d,I N x.p,I N x.v,I N x.c] 3);have s:cH (wa.alloc (ic #[I N x.k,I N x.d,I N x.p,I N x.v,I N x.c] 3)) (A (T ⟨wa,0,ih⟩) 5 5) [x.k,x.d,x.p,x.v,x.c]:=C7 wa [x.k,x.d,x.p,x.v,x.c] 3;refine f _ _ ⟨av E.1 n,av E.2 n⟩ λS=>?_
  clear f;generalize wa.alloc (ic #[I N x.k,I N x.d,I N x.p,I N x.v,I N x.c] 3)=wb at n s S⊢;have z:=O n;have H:=O s;clear n s;refine G ?_;refine aR rfl (λt f=>?_);go_simp;refine(pV _ _ wb H ar).mono ?_;rintro e wc ⟨u1,rfl,D,d⟩;obtain⟨s,cu,rfl⟩:=aO D;refine f _ _ ⟨av S.1 d,av S.2 d⟩ λU=>?_
  have RJ:jb (wc.ownsRow wa 118 4 (A s 5 cu) 5 (dD [x.k,x.d,x.p,x.v,x.c])):=O (k6 D z.size);have Uw:=ac z d;clear f D d H z S;refine G ?_;refine aR rfl (λt f=>?_);go_simp;refine(kg s 5 cu wc).mono ?_;rintro e wd ⟨rfl,d⟩;refine f _ _ ⟨av U.1 d,av U.2 d⟩ λWg=>?_
  have Ra:=aE RJ d;have Vn:=ac Uw d;clear f d RJ Uw U;refine G ?_;refine aR rfl (λt f=>?_);go_simp;have n:=af wd (ic #[I N 3,I N 0,ii ⟨#[]⟩,A s 5 cu] 118);have Su:=ey wd [I N 3,I N 0,ii ⟨#[]⟩,A s 5 cu] 118 (0,0) 4 1 1 rfl (ji _);refine f _ _ ⟨av Wg.1 n,av Wg.2 n⟩ λH=>?_
  clear f;replace Su:bZ (wd.alloc (ic #[I N 3,I N 0,ii ⟨#[]⟩,A s 5 cu] 118)) (A (T ⟨wd,0,ih⟩) 1 1) 4 1 [I N 3,I N 0,ii ⟨#[]⟩,A s 5 cu]:=Su;generalize wd.alloc (ic #[I N 3,I N 0,ii ⟨#[]⟩,A s 5 cu] 118)=we at n Su H⊢;have Rk:=aE Ra n;have Tq:=ac Vn n;have Q6:=O Su;have QX:=O (RH.later Y Tq);have Z5:=O (lX (l:=[x.k,x.d,x.p,x.v,x.c]) Rk (RH.fresh Tq Rk));clear n Su Ra Vn Wg;refine G ?_;refine aR rfl (λt f=>?_);rw[if_pos ag];refine il _ _ rfl (r+3) (A P i Q) _ _ rfl QX.own _ 1 _ rfl Q6 (by simp[jS]) (by rw[UQ];omega) QX.sz λv' wf K=>?_
  have Qx:=K.own;rw[UQ]at Qx;obtain⟨pn,cn,rfl⟩:=aO Qx;have a2:=eh H.1 K.grown (bW QX.own (.inr Y));have Tk:=eh H.2 K.grown SX;refine f _ _ ⟨a2,Tk⟩ λbd=>?_
  replace K:=O K;clear f H Qx;refine G ?_;refine ci ?_;refine gu rfl (λt f=>?_);obtain⟨⟨vo,c3⟩,f3,Z6,Wh⟩:=bH (i:=3) (A pn (i+1) cn) bd.1 ar;go_simp;refine f _ _ ?_;have Zh:=O (QX.push Y (x:=Chg.val x) Z5 K Z6 Wh);clear f c3 f3 Z6 Wh;refine jP ?_
  go_wp2_with fail
  refine⟨⟨i+1,_,_,by go_num,by omega,by rw[SF,j7];exact Zh⟩,?_⟩;simp only[jm];omega
 have hd:=ak ((i:Int)<(n1:Int));have Q3:=ak (i<n1);have bb:c.chg.take i=c.chg:=jI (by rw[<-S8];omega);replace m:jb (Bld (r+3) r W wr (c.chg.map Chg.val) vr us):=O (by rw[<-bb];exact m);clear bb V;obtain⟨Va,U9,SR⟩:=aO m.own;rw[jn,<-S8]at SR;subst SR;have Zi:=O m.fin;obtain⟨M2,hM⟩:=J wr.heap.size;have Ru:=O hM;have WV:(r+3)<=M2:=by rw[hM];exact m.sz
 rw[<-hM]at Zi;have bv:jb (∀g,g<w.heap.size->wr.heap[g]?=w.heap[g]?):=O (λg B=>(m.but.block g (aw u) (aw u)).trans (bC g B));replace y:=O (y.keep (m.but.block b (aw Uf) (aw Uf)));replace C:jb (jd w w wr):=O (C.trans (m.but.below (aw u) (aw u)));have S3:=O m.box;replace Sb:=O ((m.but.block (r+1) Y Y).trans Sb);replace Sa:=O ((m.but.block (r+2) Y Y).trans Sa);clear m;clear hM;rename ja=>W2;obtain⟨c0,c1,Ts,SG,Vq,Uk,Ul,Yb,Yd⟩:=eE c q X.plen X.clen;replace Uk:=y.get Uk;obtain⟨ub,⟨Yc,p1,q1,al,VH,bc,RO⟩,bm⟩:=X.box;have bw:=O bm;clear bm;obtain⟨n2,UP⟩:=J c.box.length;rw[al]at Uk;rw[<-UP]at Uk l3 VH;have Uh:=O UP;have QE:=O RO;clear c0 c1 Ts SG Vq Ul Yb Yd Yc al bc UP RO
 go_wp2_with fail
 clear a3 hd Q3 hi;have Rp:=O (Bld.start (M:=M2) Sb (ki Ru))
 go_loopw [44] (λv wr=>∃(i:Nat) (vr:jc) (us:List jc),v=I N i/\i<=n2/\jb (Bld M2 (r+1) W2 wr ((c.box.take i).map Bx.val) vr us)) (λv _=>n2-(jm v).toNat)
 case atStart=>exact⟨0,bJ,[],rfl,jR _,Rp⟩
 clear Rp Uk;obtain⟨i,vr,us,rfl,hi,m⟩:=hrel
 by_cases a3:i<n2
 ·have hd:=aj ((i:Int)<(n2:Int))
  have Q3:=aj (i<n2);obtain⟨g,o,rfl,bl,a4⟩:=QE (aw Uh);obtain⟨x,hx,T8⟩:=m5 (l:=c.box) (j:=i) (by rw[<-Uh];exact a3);have a5:g<M2:=aw u;have ba:g≠(r+1):=aw u;have R6:=(m.but.block g a5 ba).trans (bv g bl);obtain⟨ux,Uv,Tb⟩:=bw.at (i:=i) (b:=x.body) (by rw[j8,hx];rfl);obtain⟨z,D,rfl⟩:=Tb.form;have aa:=λk hk=>(bE (a:=⟨g,o+(i*4+k),ih⟩) R6).trans (a4 (i*4+k) _ ((oA Bx.cells 4 (λ_ _=>rfl) c.box ub i k x _ hx Uv hk).trans (show(x.cells (A z x.body.length D))[k]?=T ((x.cells (A z x.body.length D)).getD k (I N 0)) by have:(x.cells (A z x.body.length D)).length=4:=rfl;simp[jt,jW (show k<(x.cells (A z x.body.length D)).length by omega)])))
  have d0:wr.cell? ⟨g,o+i*4,ih⟩=T (I N x.node):=aa 0 L;have d1:wr.cell? ⟨g,o+i*4+1,ih⟩=T (I N x.lev):=aa 1 L;have d2:wr.cell? ⟨g,o+i*4+2,ih⟩=T (I N x.u):=aa 2 L;have p:wr.cell? ⟨g,o+i*4+3,ih⟩=T (A z x.body.length D):=aa 3 L;clear Uv;have SF:=O T8;clear a5 ba R6 aa a4 hx T8;obtain⟨P,Q,SR⟩:=aO m.own;have au:((c.box.take i).map Bx.val).length=i:=by rw[jn,jE,<-Uh];omega
  rw[au]at SR;have UQ:=O au;subst SR;clear au
  go_upto_region 10 with fail
  obtain⟨bx,a1⟩:=J wr.heap.size;have ad:=jk wr (ic #[I N x.node,I N x.lev,I N x.u,A z x.body.length D] 74);have n:=af wr (ic #[I N x.node,I N x.lev,I N x.u,A z x.body.length D] 74);have SX:jb ((j6 P i Q).ownBlock≠T bx):=O (bW m.own (.inl (ki a1.symm)));rw[<-a1]at ad⊢;obtain⟨R,S2⟩:=J (wr.alloc (ic #[I N x.node,I N x.lev,I N x.u,A z x.body.length D] 74));rw[<-S2]at ad n⊢;have VK:=n.trans ((aP R).mono n.size);have RH:jb (Bld M2 (r+1) W2 R.drew ((c.box.take i).map Bx.val) (A P i Q) us):=O (m.later Y VK);have bf:jb (BytesAt R.drew (A z x.body.length D) x.body):=O ((Tb.keep (λg B=>(VK.block g (jN (show g<M2 by have:=u.out;omega) m.sz)).trans ((m.but.block g (aw u) (aw u)).trans (bv g B)))).bytes);clear Tb;have E:R.drew.heap[(r+1)]?=T (ic #[I N 3,I N 0,ii ⟨#[]⟩,A P i Q] 118 (0,0))/\R.drew.heap[bx]?=T (ic #[I N x.node,I N x.lev,I N x.u,A z x.body.length D] 74 (0,0)):=⟨RH.box,ad⟩;clear ad n S2 a1 m VK d0 d1 d2 p;refine jQ ?_;refine ij (λF=>F.heap[(r+1)]?=T (ic #[I N 3,I N 0,ii ⟨#[]⟩,A P i Q] 118 (0,0))/\F.heap[bx]?=T (ic #[I N x.node,I N x.lev,I N x.u,A z x.body.length D] 74 (0,0))) 21 [(0,true),(1,true),(2,true),(3,true),(5,true),(6,true),(8,true),(9,true),(10,true),(12,true),(13,true),(14,true),(4,false),(7,false),(11,false),(15,false),(16,false),(17,false),(18,false),(19,false),(20,true),(21,false)] ae ae ae L (λ_ _ _ _ h=>h) E ?_;generalize R.drew=wa at E RH bf⊢;refine ci ?_;refine rB ?_;refine ci ?_;refine rB ?_;refine ci ?_;refine rB ?_;iterate 2 refine ci ?_
  refine rB ?_;iterate 2 refine ci ?_
  refine rB ?_;refine aR rfl (λt f=>?_);go_simp;refine(ia x.node wa).mono ?_;rintro e bA ⟨rfl,d⟩;refine f _ _ ⟨av E.1 d,av E.2 d⟩ λbg=>?_
  have bn:=O (d);have bo:=O (bf.below d);clear f d E bf;refine G ?_;refine aR rfl (λt f=>?_);go_simp;refine(ia x.lev bA).mono ?_;rintro e bB ⟨rfl,d⟩;refine f _ _ ⟨av bg.1 d,av bg.2 d⟩ λbh=>?_
  have bq:=ac bn d;have br:=O (bo.below d);clear f d bg bn bo;refine G ?_;refine aR rfl (λt f=>?_);go_simp;refine(ia x.u bB).mono ?_;rintro e bu ⟨rfl,d⟩;refine f _ _ ⟨av bh.1 d,av bh.2 d⟩ λp=>?_
  have V:=ac bq d;have bs:=O (br.below d);clear f d bh bq br;refine G ?_;refine aR rfl (λt f=>?_);go_simp;refine(tk _ x.body bu bs).mono ?_;rintro e wb ⟨rfl,d⟩;refine f _ _ ⟨av p.1 d,av p.2 d⟩ λS=>?_
  have bk:=ac V d;clear f d p V bs;refine G ?_;refine aR rfl (λt f=>?_);go_simp;have n:=af wb (ic #[I N 1,I N x.node,ii ⟨#[]⟩,A ih 0 0,I N 1,I N x.lev,ii ⟨#[]⟩,A ih 0 0,I N 1,I N x.u,ii ⟨#[]⟩,A ih 0 0,I N 2,I N 0,ii (ofB x.body),A ih 0 0] 118);have V:=iL wb [I N 1,I N x.node,ii ⟨#[]⟩,A ih 0 0,I N 1,I N x.lev,ii ⟨#[]⟩,A ih 0 0,I N 1,I N x.u,ii ⟨#[]⟩,A ih 0 0,I N 2,I N 0,ii (ofB x.body),A ih 0 0] 118 4 4 wa.heap.size bk.size rfl L;refine f _ _ ⟨av S.1 n,av S.2 n⟩ λU=>?_
  clear f;replace V:(wb.alloc (ic #[I N 1,I N x.node,ii ⟨#[]⟩,A ih 0 0,I N 1,I N x.lev,ii ⟨#[]⟩,A ih 0 0,I N 1,I N x.u,ii ⟨#[]⟩,A ih 0 0,I N 2,I N 0,ii (ofB x.body),A ih 0 0] 118)).ownsRow wa.heap.size 118 4 (A (T ⟨wb,0,ih⟩) 4 4) 4 [I N 1,I N x.node,ii ⟨#[]⟩,A ih 0 0,I N 1,I N x.lev,ii ⟨#[]⟩,A ih 0 0,I N 1,I N x.u,ii ⟨#[]⟩,A ih 0 0,I N 2,I N 0,ii (ofB x.body),A ih 0 0]:=V;generalize wb.alloc (ic #[I N 1,I N x.node,ii ⟨#[]⟩,A ih 0 0,I N 1,I N x.lev,ii ⟨#[]⟩,A ih 0 0,I N 1,I N x.u,ii ⟨#[]⟩,A ih 0 0,I N 2,I N 0,ii (ofB x.body),A ih 0 0] 118)=wc at n V U⊢;obtain⟨s,bs⟩:∃p:Option jy,p=T ⟨wb,0,ih⟩:=⟨_,rfl⟩;rw[<-bs]at V⊢;have RJ:=O V;have Uw:=ac bk n;clear n V bs S bk;refine G ?_;refine aR rfl (λt f=>?_);go_simp;refine(kg s 4 4 wc).mono ?_;rintro e wd ⟨rfl,d⟩;refine f _ _ ⟨av U.1 d,av U.2 d⟩ λWg=>?_
  have Ra:=aE RJ d;have Vn:=ac Uw d;clear f d RJ Uw U;refine G ?_;refine aR rfl (λt f=>?_);go_simp;have n:=af wd (ic #[I N 3,I N 0,ii ⟨#[]⟩,A s 4 4] 118);have Su:=ey wd [I N 3,I N 0,ii ⟨#[]⟩,A s 4 4] 118 (0,0) 4 1 1 rfl (ji _);refine f _ _ ⟨av Wg.1 n,av Wg.2 n⟩ λH=>?_
  clear f;replace Su:bZ (wd.alloc (ic #[I N 3,I N 0,ii ⟨#[]⟩,A s 4 4] 118)) (A (T ⟨wd,0,ih⟩) 1 1) 4 1 [I N 3,I N 0,ii ⟨#[]⟩,A s 4 4]:=Su;generalize wd.alloc (ic #[I N 3,I N 0,ii ⟨#[]⟩,A s 4 4] 118)=we at n Su H⊢;have Rk:=aE Ra n;have Tq:=ac Vn n;have Q6:=O Su;have QX:=O (RH.later Y Tq);have Z5:=O (show ao (λg=>M2<=g/\g<we.heap.size/\(j6 P i Q).ownBlock≠T g) we (Bx.val x) (A s 4 4) by
   unfold Bx.val;rw[vL,ao];refine⟨jv 4 bJ,ap.of_own Rk (RH.fresh Tq Rk),?_⟩;exact ax.cons (dR _) (ax.cons (dR _) (ax.cons (dR _) (ax.cons (lJ _) (ax.nil)))))
  clear n Su Ra Vn Wg;refine G ?_;refine aR rfl (λt f=>?_);rw[if_pos ag];refine il _ _ rfl M2 (A P i Q) _ _ rfl QX.own _ 1 _ rfl Q6 (by simp[jS]) (by rw[UQ];omega) QX.sz λv' wf K=>?_
  have Qx:=K.own;rw[UQ]at Qx;obtain⟨pn,cn,rfl⟩:=aO Qx;have a2:=eh H.1 K.grown (bW QX.own (.inr Y));have Tk:=eh H.2 K.grown SX;refine f _ _ ⟨a2,Tk⟩ λbd=>?_
  replace K:=O K;clear f H Qx;refine G ?_;refine ci ?_;refine gu rfl (λt f=>?_);obtain⟨⟨vo,c3⟩,f3,Z6,Wh⟩:=bH (i:=3) (A pn (i+1) cn) bd.1 ar;go_simp;refine f _ _ ?_;have Zh:=O (QX.push Y (x:=Bx.val x) Z5 K Z6 Wh);clear f c3 f3 Z6 Wh;refine jP ?_
  go_wp2_with fail
  refine⟨⟨i+1,_,_,by go_num,by omega,by rw[SF,j7];exact Zh⟩,?_⟩;simp only[jm];omega
 have hd:=ak ((i:Int)<(n2:Int));have Q3:=ak (i<n2);have bb:c.box.take i=c.box:=jI (by rw[<-Uh];omega);replace m:jb (Bld M2 (r+1) W2 wr (c.box.map Bx.val) vr us):=O (by rw[<-bb];exact m);clear bb QE;obtain⟨Vt,Vr,SR⟩:=aO m.own;rw[jn,<-Uh]at SR;subst SR;have bu:=O m.fin;obtain⟨M3,hM⟩:=J wr.heap.size;have RP:=O hM;have Z3:M2<=M3:=by rw[hM];exact m.sz
 rw[<-hM]at bu;have bI:jb (∀g,g<w.heap.size->wr.heap[g]?=w.heap[g]?):=O (λg B=>(m.but.block g (aw u) (aw u)).trans (bv g B));replace y:=O (y.keep (m.but.block b (aw Uf) (aw Uf)));replace C:jb (jd w w wr):=O (C.trans (m.but.below (aw u) (aw u)));replace S3:=O ((m.but.block r Y Y).trans S3);have R5:=O m.box;replace Zi:=O (ao.keep (λg B=>m.but.block g Y Y) _ _ Zi.out);replace Sa:=O ((m.but.block (r+2) Y Y).trans Sa);clear m;clear hM;rename ja=>W3;obtain⟨c0,c1,Ts,SG,Vq,Uk,Ul,Yb,Yd⟩:=eE c q X.plen X.clen;replace Ul:=y.get Ul;obtain⟨ub,⟨Yc,p1,q1,al,VH,bc,RO⟩,bm⟩:=X.wel;have bw:=O bm;clear bm;obtain⟨n3,UP⟩:=J c.wel.length;rw[al]at Ul;rw[<-UP]at Ul l4 VH;have YT:=O UP;have QW:=O RO;clear c0 c1 Ts SG Vq Uk Yb Yd Yc al bc UP RO
 go_wp2_with fail
 clear a3 hd Q3 hi;have Rp:=O (Bld.start (M:=M3) Sa (ki RP))
 go_loopw [73] (λv wr=>∃(i:Nat) (vr:jc) (us:List jc),v=I N i/\i<=n3/\jb (Bld M3 (r+1+1) W3 wr ((c.wel.take i).map Wl.val) vr us)) (λv _=>n3-(jm v).toNat)
 case atStart=>exact⟨0,bJ,[],rfl,jR _,Rp⟩
 clear Rp Ul;obtain⟨i,vr,us,rfl,hi,m⟩:=hrel
 by_cases a3:i<n3
 ·have hd:=aj ((i:Int)<(n3:Int))
  have Q3:=aj (i<n3);obtain⟨g,o,rfl,bl,a4⟩:=QW (aw YT);obtain⟨x,hx,T8⟩:=m5 (l:=c.wel) (j:=i) (by rw[<-YT];exact a3);have a5:g<M3:=aw u;have ba:g≠(r+1+1):=aw u;have R6:=(m.but.block g a5 ba).trans (bI g bl);obtain⟨ux,Uv,Tb⟩:=bw.at (i:=i) (b:=x.body) (by rw[j8,hx];rfl);obtain⟨z,D,rfl⟩:=Tb.form;have aa:=λk hk=>(bE (a:=⟨g,o+(i*3+k),ih⟩) R6).trans (a4 (i*3+k) _ ((oA Wl.cells 3 (λ_ _=>rfl) c.wel ub i k x _ hx Uv hk).trans (show(x.cells (A z x.body.length D))[k]?=T ((x.cells (A z x.body.length D)).getD k (I N 0)) by have:(x.cells (A z x.body.length D)).length=3:=rfl;simp[jt,jW (show k<(x.cells (A z x.body.length D)).length by omega)])))
  have d0:wr.cell? ⟨g,o+i*3,ih⟩=T (I N x.dev):=aa 0 L;have d1:wr.cell? ⟨g,o+i*3+1,ih⟩=T (I N x.u):=aa 1 L;have d2:wr.cell? ⟨g,o+i*3+2,ih⟩=T (A z x.body.length D):=aa 2 L;clear Uv;have SF:=O T8;clear a5 ba R6 aa a4 hx T8;obtain⟨P,Q,SR⟩:=aO m.own;have au:((c.wel.take i).map Wl.val).length=i:=by rw[jn,jE,<-YT];omega
  rw[au]at SR;have UQ:=O au;subst SR;clear au
  go_upto_region 15 with fail
  obtain⟨bx,a1⟩:=J wr.heap.size;have ad:=jk wr (ic #[I N x.dev,I N x.u,A z x.body.length D] 76);have n:=af wr (ic #[I N x.dev,I N x.u,A z x.body.length D] 76);have SX:jb ((j6 P i Q).ownBlock≠T bx):=O (bW m.own (.inl (ki a1.symm)));rw[<-a1]at ad⊢;obtain⟨R,S2⟩:=J (wr.alloc (ic #[I N x.dev,I N x.u,A z x.body.length D] 76));rw[<-S2]at ad n⊢;have VK:=n.trans ((aP R).mono n.size);have RH:jb (Bld M3 (r+1+1) W3 R.drew ((c.wel.take i).map Wl.val) (A P i Q) us):=O (m.later Y VK);have bf:jb (BytesAt R.drew (A z x.body.length D) x.body):=O ((Tb.keep (λg B=>(VK.block g (jN (show g<M3 by have:=u.out;omega) m.sz)).trans ((m.but.block g (aw u) (aw u)).trans (bI g B)))).bytes);clear Tb;have E:R.drew.heap[(r+1+1)]?=T (ic #[I N 3,I N 0,ii ⟨#[]⟩,A P i Q] 118 (0,0))/\R.drew.heap[bx]?=T (ic #[I N x.dev,I N x.u,A z x.body.length D] 76 (0,0)):=⟨RH.box,ad⟩;clear ad n S2 a1 m VK d0 d1 d2;refine jQ ?_;refine ij (λF=>F.heap[(r+1+1)]?=T (ic #[I N 3,I N 0,ii ⟨#[]⟩,A P i Q] 118 (0,0))/\F.heap[bx]?=T (ic #[I N x.dev,I N x.u,A z x.body.length D] 76 (0,0))) 18 [(0,true),(1,true),(2,true),(3,true),(5,true),(6,true),(7,true),(9,true),(10,true),(11,true),(4,false),(8,false),(12,false),(13,false),(14,false),(15,false),(16,false),(17,true),(18,false)] ae ae ae L (λ_ _ _ _ h=>h) E ?_;generalize R.drew=wa at E RH bf⊢;refine ci ?_;refine tE ?_;refine ci ?_;refine tE ?_;iterate 2 refine ci ?_
  refine tE ?_;iterate 2 refine ci ?_
  refine tE ?_;refine aR rfl (λt f=>?_);go_simp;refine(ia x.dev wa).mono ?_;rintro e bA ⟨rfl,d⟩;refine f _ _ ⟨av E.1 d,av E.2 d⟩ λbg=>?_
  have bn:=O (d);have bo:=O (bf.below d);clear f d E bf;refine G ?_;refine aR rfl (λt f=>?_);go_simp;refine(ia x.u bA).mono ?_;rintro e bB ⟨rfl,d⟩;refine f _ _ ⟨av bg.1 d,av bg.2 d⟩ λbh=>?_
  have bq:=ac bn d;have br:=O (bo.below d);clear f d bg bn bo;refine G ?_;refine aR rfl (λt f=>?_);go_simp;refine(tk _ x.body bB br).mono ?_;rintro e wb ⟨rfl,d⟩;refine f _ _ ⟨av bh.1 d,av bh.2 d⟩ λS=>?_
  have bk:=ac bq d;clear f d bh bq br;refine G ?_;refine aR rfl (λt f=>?_);go_simp;have n:=af wb (ic #[I N 1,I N x.dev,ii ⟨#[]⟩,A ih 0 0,I N 1,I N x.u,ii ⟨#[]⟩,A ih 0 0,I N 2,I N 0,ii (ofB x.body),A ih 0 0] 118);have V:=iL wb [I N 1,I N x.dev,ii ⟨#[]⟩,A ih 0 0,I N 1,I N x.u,ii ⟨#[]⟩,A ih 0 0,I N 2,I N 0,ii (ofB x.body),A ih 0 0] 118 4 3 wa.heap.size bk.size rfl L;refine f _ _ ⟨av S.1 n,av S.2 n⟩ λU=>?_
  clear f;replace V:(wb.alloc (ic #[I N 1,I N x.dev,ii ⟨#[]⟩,A ih 0 0,I N 1,I N x.u,ii ⟨#[]⟩,A ih 0 0,I N 2,I N 0,ii (ofB x.body),A ih 0 0] 118)).ownsRow wa.heap.size 118 4 (A (T ⟨wb,0,ih⟩) 3 3) 3 [I N 1,I N x.dev,ii ⟨#[]⟩,A ih 0 0,I N 1,I N x.u,ii ⟨#[]⟩,A ih 0 0,I N 2,I N 0,ii (ofB x.body),A ih 0 0]:=V;generalize wb.alloc (ic #[I N 1,I N x.dev,ii ⟨#[]⟩,A ih 0 0,I N 1,I N x.u,ii ⟨#[]⟩,A ih 0 0,I N 2,I N 0,ii (ofB x.body),A ih 0 0] 118)=wc at n V U⊢;obtain⟨s,bs⟩:∃p:Option jy,p=T ⟨wb,0,ih⟩:=⟨_,rfl⟩;rw[<-bs]at V⊢;have RJ:=O V;have Uw:=ac bk n;clear n V bs S bk;refine G ?_;refine aR rfl (λt f=>?_);go_simp;refine(kg s 3 3 wc).mono ?_;rintro e wd ⟨rfl,d⟩;refine f _ _ ⟨av U.1 d,av U.2 d⟩ λWg=>?_
  have Ra:=aE RJ d;have Vn:=ac Uw d;clear f d RJ Uw U;refine G ?_;refine aR rfl (λt f=>?_);go_simp;have n:=af wd (ic #[I N 3,I N 0,ii ⟨#[]⟩,A s 3 3] 118);have Su:=ey wd [I N 3,I N 0,ii ⟨#[]⟩,A s 3 3] 118 (0,0) 4 1 1 rfl (ji _);refine f _ _ ⟨av Wg.1 n,av Wg.2 n⟩ λH=>?_
  clear f;replace Su:bZ (wd.alloc (ic #[I N 3,I N 0,ii ⟨#[]⟩,A s 3 3] 118)) (A (T ⟨wd,0,ih⟩) 1 1) 4 1 [I N 3,I N 0,ii ⟨#[]⟩,A s 3 3]:=Su;generalize wd.alloc (ic #[I N 3,I N 0,ii ⟨#[]⟩,A s 3 3] 118)=we at n Su H⊢;have Rk:=aE Ra n;have Tq:=ac Vn n;have Q6:=O Su;have QX:=O (RH.later Y Tq);have Z5:=O (show ao (λg=>M3<=g/\g<we.heap.size/\(j6 P i Q).ownBlock≠T g) we (Wl.val x) (A s 3 3) by
   unfold Wl.val;rw[vL,ao];refine⟨jv 3 bJ,ap.of_own Rk (RH.fresh Tq Rk),?_⟩;exact ax.cons (dR _) (ax.cons (dR _) (ax.cons (lJ _) (ax.nil))))
  clear n Su Ra Vn Wg;refine G ?_;refine aR rfl (λt f=>?_);rw[if_pos ag];refine il _ _ rfl M3 (A P i Q) _ _ rfl QX.own _ 1 _ rfl Q6 (by simp[jS]) (by rw[UQ];omega) QX.sz λv' wf K=>?_
  have Qx:=K.own;rw[UQ]at Qx;obtain⟨pn,cn,rfl⟩:=aO Qx;have a2:=eh H.1 K.grown (bW QX.own (.inr Y));have Tk:=eh H.2 K.grown SX;refine f _ _ ⟨a2,Tk⟩ λbd=>?_
  replace K:=O K;clear f H Qx;refine G ?_;refine ci ?_;refine gu rfl (λt f=>?_);obtain⟨⟨vo,c3⟩,f3,Z6,Wh⟩:=bH (i:=3) (A pn (i+1) cn) bd.1 ar;go_simp;refine f _ _ ?_;have Zh:=O (QX.push Y (x:=Wl.val x) Z5 K Z6 Wh);clear f c3 f3 Z6 Wh;refine jP ?_
  go_wp2_with fail
  refine⟨⟨i+1,_,_,by go_num,by omega,by rw[SF,j7];exact Zh⟩,?_⟩;simp only[jm];omega
 have hd:=ak ((i:Int)<(n3:Int));have Q3:=ak (i<n3);have bb:c.wel.take i=c.wel:=jI (by rw[<-YT];omega);replace m:jb (Bld M3 (r+1+1) W3 wr (c.wel.map Wl.val) vr us):=O (by rw[<-bb];exact m);clear bb QW;obtain⟨n,o,SR⟩:=aO m.own;rw[jn,<-YT]at SR;subst SR;have x:=O m.fin;have D:jb (wr.heap[r+1+1]?=T (ic #[I N 3,I N 0,ii ⟨#[]⟩,A n n3 o] 118 (0,0))):=O m.box;have K:jb (wr.heap[r]?=T (ic #[I N 3,I N 0,ii ⟨#[]⟩,A Va n1 U9] 118 (0,0))):=O ((m.but.block r Y Y).trans S3);have P:jb (wr.heap[r+1]?=T (ic #[I N 3,I N 0,ii ⟨#[]⟩,A Vt n2 Vr] 118 (0,0))):=O ((m.but.block (r+1) Y Y).trans R5);have p:=m.sz;have z:=RP.out;have Q:M2<=M3:=Z3;replace Zi:jb (ao (λg=>w.heap.size<=g/\g<wr.heap.size) wr (vL (c.chg.map Chg.val)) (A Va n1 U9)):=O (ao.mono (λg B=>⟨by have:=u.out;omega,by omega⟩) _ _ (ao.keep (λg B=>m.but.block g Y Y) _ _ Zi.out));replace bu:jb (ao (λg=>w.heap.size<=g/\g<wr.heap.size) wr (vL (c.box.map Bx.val)) (A Vt n2 Vr)):=O (ao.mono (λg B=>⟨by have:=u.out;omega,by omega⟩) _ _ (ao.keep (λg B=>m.but.block g Y Y) _ _ bu.out));replace x:jb (ao (λg=>w.heap.size<=g/\g<wr.heap.size) wr (vL (c.wel.map Wl.val)) (A n n3 o)):=O (ao.mono (λg B=>⟨by have:=u.out;omega,by omega⟩) _ _ x.out);replace y:=O (y.keep (m.but.block b (aw Uf) (aw Uf)));replace C:jb (jd w w wr):=O (C.trans (m.but.below (aw u) (aw u)));clear p z Q
 go_upto_region 17 with fail
 obtain⟨c0,c1,Ts,SG,Vq,Uk,Ul,Yb,Yd⟩:=eE c q X.plen X.clen;have Q:=O X.path;obtain⟨Yc,R,qp,al,VH,bc,RO⟩:=X.path;rw[al]at Vq Q;have Rl:jb (Qz[0]?=T (I N c.folder)):=O (by rw[Tr];simpa using c0);have QP:jb (Qz[1]?=T (I N c.epoch)):=O (by rw[Tr];simpa using c1);have Z4:jb (Qz[34]?=T (I N c.author)):=O (by rw[Tr];simpa using Ts);have aa:jb (Qz[36]?=T (A R c.path.length qp)):=O (by rw[Tr];simpa using Vq);have ad:jb (Qz[71]?=T (I N c.r)):=O (by rw[Tr];simpa using Yb);have au:jb (Qz[72]?=T (I N c.s)):=O (by rw[Tr];simpa using Yd);have p:wr.drew.heap[b]?=T (ic Qz 37 (0,0))/\wr.drew.heap[r]?=T (ic #[I N 3,I N 0,ii ⟨#[]⟩,A Va n1 U9] 118 (0,0))/\wr.drew.heap[r+1]?=T (ic #[I N 3,I N 0,ii ⟨#[]⟩,A Vt n2 Vr] 118 (0,0))/\wr.drew.heap[r+1+1]?=T (ic #[I N 3,I N 0,ii ⟨#[]⟩,A n n3 o] 118 (0,0)):=⟨by rw[Tr];exact y.blk,K,P,D⟩;have z:jb (jd wr wr wr.drew):=O (aP wr);clear c0 c1 Ts SG Vq Uk Ul Yb Yd Yc al VH bc RO a3 hd Q3 hi S3 R5 K P D m y;refine jQ ?_;refine bi (λF=>F.heap[b]?=T (ic Qz 37 (0,0))/\F.heap[r]?=T (ic #[I N 3,I N 0,ii ⟨#[]⟩,A Va n1 U9] 118 (0,0))/\F.heap[r+1]?=T (ic #[I N 3,I N 0,ii ⟨#[]⟩,A Vt n2 Vr] 118 (0,0))/\F.heap[r+1+1]?=T (ic #[I N 3,I N 0,ii ⟨#[]⟩,A n n3 o] 118 (0,0))) (.take 0 (.take 1 (.take 3 (.take 4 (.take 6 (.take 7 (.take 9 (.take 10 (.take 12 (.take 13 (.take 14 (.take 17 (.take 18 (.take 19 (.take 20 (.take 22 (.take 23 (.take 24 (.take 26 (.take 27 (.take 28 (.one 2 (.one 5 (.one 8 (.one 11 (.one 15 (.one 16 (.one 21 (.one 25 (.one 29 (.one 30 (.take 31 .done)))))))))))))))))))))))))))))))) ae ae ae L (λ_ _ _ _ h=>h) p ?_;generalize wr.drew=x0 at p z⊢;refine aS ?_
 (refine az (v:=?_) rfl ag (λF m=>?_) ?_;rotate_left;(have k:=cell_of m.1 Rl;go_simp;with_reducible rfl);refine G ?_)
 refine aS ?_
 (refine az (v:=?_) rfl ag (λF m=>?_) ?_;rotate_left;(have k:=cell_of m.1 QP;go_simp;with_reducible rfl);refine G ?_)
 iterate 3 refine aS ?_
 (refine az (v:=?_) rfl ag (λF m=>?_) ?_;rotate_left;(have k:=cell_of m.1 Z4;go_simp;with_reducible rfl);refine G ?_)
 (refine az (v:=?_) rfl ag (λF m=>?_) ?_;rotate_left;(have y:=cell_of (i:=0) m.2.1 rfl;have D:=cell_of (i:=1) m.2.1 rfl;have K:=cell_of (i:=2) m.2.1 rfl;have P:=cell_of (i:=3) m.2.1 rfl;go_simp;with_reducible rfl);refine G ?_)
 refine aS ?_
 (refine az (v:=?_) rfl ag (λF m=>?_) ?_;rotate_left;(have k:=cell_of m.1 aa;go_simp;with_reducible rfl);refine G ?_)
 (refine az (v:=?_) rfl ag (λF m=>?_) ?_;rotate_left;(have y:=cell_of (i:=0) m.2.2.1 rfl;have D:=cell_of (i:=1) m.2.2.1 rfl;have K:=cell_of (i:=2) m.2.2.1 rfl;have P:=cell_of (i:=3) m.2.2.1 rfl;go_simp;with_reducible rfl);refine G ?_)
 (refine az (v:=?_) rfl ag (λF m=>?_) ?_;rotate_left;(have y:=cell_of (i:=0) m.2.2.2 rfl;have D:=cell_of (i:=1) m.2.2.2 rfl;have K:=cell_of (i:=2) m.2.2.2 rfl;have P:=cell_of (i:=3) m.2.2.2 rfl;go_simp;with_reducible rfl);refine G ?_)
 iterate 4 refine aS ?_
 (refine az (v:=?_) rfl ag (λF m=>?_) ?_;rotate_left;(have k:=cell_of m.1 ad;go_simp;with_reducible rfl);refine G ?_)
 iterate 2 refine aS ?_
 (refine az (v:=?_) rfl ag (λF m=>?_) ?_;rotate_left;(have k:=cell_of m.1 au;go_simp;with_reducible rfl);refine G ?_)
 refine ai rfl (λt f=>?_);go_simp;refine(ia c.folder x0).mono ?_;rintro e F ⟨rfl,d⟩;refine f _ _ ⟨av p.1 d,av p.2.1 d,av p.2.2.1 d,av p.2.2.2 d⟩ λm=>?_
 have y:=ac z d;clear f d p z;refine G ?_;refine ai rfl (λt f=>?_);go_simp;refine(ia c.epoch F).mono ?_;rintro e K ⟨rfl,d⟩;refine f _ _ ⟨av m.1 d,av m.2.1 d,av m.2.2.1 d,av m.2.2.2 d⟩ λk=>?_
 have p:=ac y d;clear f d m y;refine G ?_;refine ai rfl (λt f=>?_);go_simp;refine(tk _ c.parent K (cI.parent (q:=q) ⟨by rw[<-Tr];exact k.1,X.plen,X.clen⟩)).mono ?_;rintro e P ⟨rfl,d⟩;refine f _ _ ⟨av k.1 d,av k.2.1 d,av k.2.2.1 d,av k.2.2.2 d⟩ λm=>?_
 have y:=ac p d;clear f d k p;refine G ?_;refine ai rfl (λt f=>?_);go_simp;refine(ia c.author P).mono ?_;rintro e x4 ⟨rfl,d⟩;refine f _ _ ⟨av m.1 d,av m.2.1 d,av m.2.2.1 d,av m.2.2.2 d⟩ λk=>?_
 have p:=ac y d;clear f d m y;refine G ?_;refine ai rfl (λt f=>?_);go_simp;refine(pV c.path _ x4 (ap.ints (Q.keep λg B=>((C.trans (p.mono C.size)).block g B))) Y).mono ?_;rintro e y ⟨up,rfl,m,d⟩;obtain⟨s,cu,rfl⟩:=aO m;have z:jb (y.ownsRow wr 118 4 (A s c.path.length cu) c.path.length (dD c.path)):=O (k6 m p.size);refine f _ _ ⟨av k.1 d,av k.2.1 d,av k.2.2.1 d,av k.2.2.2 d⟩ λE=>?_
 have D:=ac p d;clear m;clear f d k p;refine G ?_;refine ai rfl (λt f=>?_);go_simp;refine(kg s c.path.length cu y).mono ?_;rintro e x6 ⟨rfl,d⟩;refine f _ _ ⟨av E.1 d,av E.2.1 d,av E.2.2.1 d,av E.2.2.2 d⟩ λS=>?_
 have k:=ac D d;have m:=aE z d;clear f d E D z;refine G ?_;refine ai rfl (λt f=>?_);go_simp;refine(tk _ c.confirm x6 (cI.confirm (q:=q) ⟨by rw[<-Tr];exact S.1,X.plen,X.clen⟩)).mono ?_;rintro e x7 ⟨rfl,d⟩;refine f _ _ ⟨av S.1 d,av S.2.1 d,av S.2.2.1 d,av S.2.2.2 d⟩ λU=>?_
 have p:=ac k d;have z:=aE m d;clear f d S k m;refine G ?_;refine ai rfl (λt f=>?_);go_simp;refine(ia c.r x7).mono ?_;rintro e S ⟨rfl,d⟩;refine f _ _ ⟨av U.1 d,av U.2.1 d,av U.2.2.1 d,av U.2.2.2 d⟩ λWg=>?_
 have m:=ac p d;have D:=aE z d;clear f d U p z;refine G ?_;refine ai rfl (λt f=>?_);go_simp;refine(ia c.s S).mono ?_;rintro e k ⟨rfl,d⟩;refine f _ _ ⟨av Wg.1 d,av Wg.2.1 d,av Wg.2.2.1 d,av Wg.2.2.2 d⟩ λH=>?_
 have p:=ac m d;have z:=aE D d;clear f d Wg m D;refine G ?_;refine ai rfl (λt f=>?_);go_simp;have d:=af k (ic #[I N 1,I N c.folder,ii ⟨#[]⟩,A ih 0 0,I N 1,I N c.epoch,ii ⟨#[]⟩,A ih 0 0,I N 2,I N 0,ii (ofB c.parent),A ih 0 0,I N 1,I N c.author,ii ⟨#[]⟩,A ih 0 0,I N 3,I N 0,ii ⟨#[]⟩,A Va n1 U9,I N 3,I N 0,ii ⟨#[]⟩,A s c.path.length cu,I N 3,I N 0,ii ⟨#[]⟩,A Vt n2 Vr,I N 3,I N 0,ii ⟨#[]⟩,A n n3 o,I N 2,I N 0,ii (ofB c.confirm),A ih 0 0,I N 1,I N c.r,ii ⟨#[]⟩,A ih 0 0,I N 1,I N c.s,ii ⟨#[]⟩,A ih 0 0] 118);have V:=iL k [I N 1,I N c.folder,ii ⟨#[]⟩,A ih 0 0,I N 1,I N c.epoch,ii ⟨#[]⟩,A ih 0 0,I N 2,I N 0,ii (ofB c.parent),A ih 0 0,I N 1,I N c.author,ii ⟨#[]⟩,A ih 0 0,I N 3,I N 0,ii ⟨#[]⟩,A Va n1 U9,I N 3,I N 0,ii ⟨#[]⟩,A s c.path.length cu,I N 3,I N 0,ii ⟨#[]⟩,A Vt n2 Vr,I N 3,I N 0,ii ⟨#[]⟩,A n n3 o,I N 2,I N 0,ii (ofB c.confirm),A ih 0 0,I N 1,I N c.r,ii ⟨#[]⟩,A ih 0 0,I N 1,I N c.s,ii ⟨#[]⟩,A ih 0 0] 118 4 11 w.heap.size (jD C.size p.size) rfl L;replace V:(k.alloc (ic #[I N 1,I N c.folder,ii ⟨#[]⟩,A ih 0 0,I N 1,I N c.epoch,ii ⟨#[]⟩,A ih 0 0,I N 2,I N 0,ii (ofB c.parent),A ih 0 0,I N 1,I N c.author,ii ⟨#[]⟩,A ih 0 0,I N 3,I N 0,ii ⟨#[]⟩,A Va n1 U9,I N 3,I N 0,ii ⟨#[]⟩,A s c.path.length cu,I N 3,I N 0,ii ⟨#[]⟩,A Vt n2 Vr,I N 3,I N 0,ii ⟨#[]⟩,A n n3 o,I N 2,I N 0,ii (ofB c.confirm),A ih 0 0,I N 1,I N c.r,ii ⟨#[]⟩,A ih 0 0,I N 1,I N c.s,ii ⟨#[]⟩,A ih 0 0] 118)).ownsRow w.heap.size 118 4 (A (T ⟨k,0,ih⟩) 11 11) 11 [I N 1,I N c.folder,ii ⟨#[]⟩,A ih 0 0,I N 1,I N c.epoch,ii ⟨#[]⟩,A ih 0 0,I N 2,I N 0,ii (ofB c.parent),A ih 0 0,I N 1,I N c.author,ii ⟨#[]⟩,A ih 0 0,I N 3,I N 0,ii ⟨#[]⟩,A Va n1 U9,I N 3,I N 0,ii ⟨#[]⟩,A s c.path.length cu,I N 3,I N 0,ii ⟨#[]⟩,A Vt n2 Vr,I N 3,I N 0,ii ⟨#[]⟩,A n n3 o,I N 2,I N 0,ii (ofB c.confirm),A ih 0 0,I N 1,I N c.r,ii ⟨#[]⟩,A ih 0 0,I N 1,I N c.s,ii ⟨#[]⟩,A ih 0 0]:=V;have D:=O V;refine f _ _ ⟨av H.1 d,av H.2.1 d,av H.2.2.1 d,av H.2.2.2 d⟩ λbd=>?_
 have m:=ac p d;have t:=aE z d;clear V;clear f d H p z;obtain⟨z,d⟩:=J (k.alloc (ic #[I N 1,I N c.folder,ii ⟨#[]⟩,A ih 0 0,I N 1,I N c.epoch,ii ⟨#[]⟩,A ih 0 0,I N 2,I N 0,ii (ofB c.parent),A ih 0 0,I N 1,I N c.author,ii ⟨#[]⟩,A ih 0 0,I N 3,I N 0,ii ⟨#[]⟩,A Va n1 U9,I N 3,I N 0,ii ⟨#[]⟩,A s c.path.length cu,I N 3,I N 0,ii ⟨#[]⟩,A Vt n2 Vr,I N 3,I N 0,ii ⟨#[]⟩,A n n3 o,I N 2,I N 0,ii (ofB c.confirm),A ih 0 0,I N 1,I N c.r,ii ⟨#[]⟩,A ih 0 0,I N 1,I N c.s,ii ⟨#[]⟩,A ih 0 0] 118));rw[<-d]at D m t⊢;clear d bd;refine G ?_;refine aS ?_;refine jP ?_
 go_wp2_with fail
 go_ret;have d:=λg (B:w.heap.size<=g/\g<wr.heap.size)=>(show w.heap.size<=g/\g<z.heap.size from⟨B.1,jN B.2 m.size⟩)
 have f:=λg (B:w.heap.size<=g/\g<wr.heap.size)=>m.block g B.2
 refine⟨_,rfl,⟨[bJ,bJ,bJ,bJ,A Va n1 U9,A s c.path.length cu,A Vt n2 Vr,A n n3 o,bJ,bJ,bJ],D,?_⟩,C.trans (m.mono C.size)⟩;have p:ao (λg=>w.heap.size<=g/\g<z.heap.size) z (vL (c.path.map vI)) (A s c.path.length cu):=lX t (λg B=>by
  have h:=t.lt g B;exact⟨jD C.size h.1,h.2⟩)
 exact ax.cons (dR _) (ax.cons (dR _) (ax.cons (lJ _) (ax.cons (dR _) (ax.cons (ao.mono d _ _ (ao.keep f _ _ Zi.out)) (ax.cons p (ax.cons (ao.mono d _ _ (ao.keep f _ _ bu.out)) (ax.cons (ao.mono d _ _ (ao.keep f _ _ x.out)) (ax.cons (lJ _) (ax.cons (dR _) (ax.cons (dR _) ax.nil))))))))))
theorem Z{w w':ja}{g:Nat}{o:Obj}(h:jb (w.heap[g]?=T o))(a:jd w w w'):jb (w'.heap[g]?=T o):=O (av h a)
def cP(s:ByteArray)(l:List Val):LBy:=cC (aK s) (enc (vL l))
theorem dL(s l):(cP s l).length=32:=gs _ _
theorem gQ(l:List Val):enc (vL l)=3#8::(aZ l.length++encs l):=by rw[vL,enc,if_neg L,if_neg L]
structure dC(l:List Val):Prop where
 wf:wfV 16 (vL l)
 len:(enc (vL l)).length<=800000
theorem dC.take{l:List Val}(h:dC l)(i:l.length<128)(k:Nat):dC (l.take k):=by
 have g:=h.wf;have j:=h.len;refine⟨?_,?_⟩
 ·unfold vL at g⊢
  rw[wfV]at g⊢
  rcases g with⟨e,-⟩|⟨e,-⟩|⟨a,b,c,d,f⟩
  ·exact absurd e L
  ·exact absurd e L
  exact .inr (.inr ⟨a,b,c,qN (qO _ _) d,λx m=>f x (List.mem_of_mem_take m)⟩)
 rw[gQ]at j⊢;have a:(aZ (l.take k).length).length=1:=by rw[iS (qN (qO _ _) i)];rfl
 have b:(aZ l.length).length=1:=by rw[iS i];rfl
 have:=rm l k;simp only[jT,jp]at j⊢;omega
theorem dB(l:LBy):(l.map v8).toArray.all (·.oneCell')=true:=by
 rw[Array.all_eq_true_iff_forall_mem];intro a b;exact fY _ a (by simpa using b)
theorem kQ(s:ByteArray)(F:s.size<=1000)(l:List Val)(v:jc)(w:ja)(a:ao (·<w.heap.size) w (vL l) v)(b:dC l)(d:dJ w)(f:fz w):
 jl je 49 #[ii s,v] w λe w'=>e=jj (jg ((cP s l).map v8).toArray)/\jd w w w':=by
 obtain⟨p,c,rfl⟩:=a.form;have h:(vL l).l.length=l.length:=rfl;rw[h]at a⊢;obtain⟨n,i⟩:=J l.length;rw[<-i]at a⊢;have j:=O a;have g:=O b;have x:=O d;have y:=O f;clear a b d f i h;have b:=jk w (ic aI 23);have a:=af w (ic aI 23);have d:(w.alloc (ic aI 23)).heap.size=w.heap.size+1:=by simp
 obtain⟨o,f⟩:=J (w.alloc (ic aI 23));obtain⟨D,h⟩:=J w.heap.size;rw[<-f]at b a d;rw[<-h]at b d;have i:=O b;have k:=O a;have m:=O f;have q:=O h;have u:D<o.heap.size:=Y;clear b a d f h
 go_enter func49,ntmps49
 go_wp2_with fail
 rw[<-m,<-q];refine(kg p n c o).mono ?_;rintro e h ⟨rfl,a⟩;have r:=Z i a;have d:=ac k a;have t:jb (ao (·<h.heap.size) h (vL l) (A p n c)):=O (ao.mono (λb (f:b<w.heap.size)=>jN f d.size) _ _ (ao.keep (λb f=>d.block b f) _ _ j.out));clear a k i u m
 go_wp2_with fail
 refine(wj (vL l) _ 3 h rfl g.wf t (aU g.len)).mono ?_;rintro e z ⟨H,rfl,b,a⟩;have u:=Z r a;have f:=ac d a;have B:=O (BytesAt.of_own b);obtain⟨K,M,rfl⟩:=aO b;clear a b d r t j
 go_wp2_with fail
 refine(oG s Y _ (enc (vL l)) (aU g.len) z B (x.below f (ji _)) (y.below f (ji _))).mono ?_;rintro e d ⟨rfl,a⟩;have r:=Z u a;have t:=ac f a;have i:((cC (aK s) (enc (vL l))).map v8).toArray.size=32:=by rw[jw,jn,gs]
 have j:=dB (cC (aK s) (enc (vL l)));obtain⟨b,k⟩:=J (((cC (aK s) (enc (vL l))).map v8).toArray);rw[<-k]at i j⊢;have C:=O k;have m:=O i;have E:=O j;clear k i j a u f
 go_wp2_with (refine jz rfl λ_ a=>jJ 23 _ _ rfl D b rfl rfl 23 _ r.out (by rw[m];rfl) (by rw[m];simp) E (a _ _ ?_))
 have a:(d.setRow D b).heap[D]?=T (ic b 23 (0,0)):=jA _ _ _ _ _ _ r.out;have f:jd w w (d.setRow D b):=jC t.out (by rw[q];exact ji _) _;generalize d.setRow D b=k at a f⊢;have i:=O f;have j:=O a;clear a f
 go_wp2_with fail
 refine jO (v:=jg b) ?_ rfl ?_
 ·exact j4 rfl _ _ _ 23 _ (0,0) _ rfl j qH rfl (by rw[m];rfl)
 exact⟨by rw[C];rfl,i⟩
theorem ap.take{D:Nat->Prop}{w:ja}{p:Option jy}{n c sz:Nat}{xs:List jc}(h:ap D w (A p n c) sz n xs){k:Nat}(hk:k<=n):ap D w (A p k c) sz k (xs.take (k*sz)):=by
 obtain⟨b,s,t,e,u,d,f⟩:=h;injection e with i v l
 subst i;subst l;refine⟨?_,p,c,rfl,by omega,d,λx=>?_⟩
 ·rw[jE,b,j0 (lm _ hk)]
 obtain⟨g,o,e,m,q⟩:=f Y;refine⟨g,o,e,m,λj r a=>q j r ?_⟩;rw[List.getElem?_take]at a
 split at a
 ·exact a
 cases a
theorem Ej:∀(l:List Val) (a:List jc) (k:Nat),a.length=l.length->aX (l.take k) (a.take k)=(aX l a).take (k*4)
 |[],a,k,h=>by
  have:a=[]:=qM (by simpa using h);subst this;simp[aX]
 |x::l,[],k,h=>by simp at h
 |x::l,b::a,0,h=>by simp[aX]
 |x::l,b::a,k+1,h=>by
  have c:(eo x b).length=4:=rfl;simp only[qm,aX,Ej l a k (by simpa using h)];have e:qn ((k+1)*4) (eo x b)=eo x b:=jI (by rw[c];omega);rw[qP,c,show(k+1)*4-4=k*4 by omega,e]
theorem ax.take{D:Nat->Prop}{w:ja}:∀{l:List Val} {a:List jc} (k:Nat),ax D w l a->ax D w (l.take k) (a.take k)
 |[],a,k,h=>by rw[ax]at h;subst h;simp[ax]
 |x::l,a,0,h=>by simp[ax]
 |x::l,a,k+1,h=>by
  rw[ax]at h;obtain⟨b,e,rfl,c,d⟩:=h;simp only[qm];rw[ax];exact⟨b,_,rfl,c,ax.take k d⟩
theorem sO{w:ja}{B sz n:Nat}{e:jr}{v:jc}{xs:List jc}(h:w.ownsRow B e sz v n xs)(i:0<n):∃g c,v=A (T ⟨g,0,ih⟩) n c/\n<=c/\B<=g/\g<w.heap.size:=by
 rcases h.2 with⟨rfl,j⟩|⟨g,a,k,rfl,b,d,f,-⟩
 ·omega
 exact⟨g,a,rfl,f,b,(jq.1 d).1⟩
theorem sC(c:Cmt):(aB c).length=11:=rfl
theorem iq.val{w w':ja}{c:Cmt}{p:Option jy}{n d:Nat}(h:iq w w' c (A p n d))(k:Nat)(hk:k<=11):n=11/\ao (·<w'.heap.size) w' (vL ((aB c).take k)) (A p k d):=by
 obtain⟨j,a,f⟩:=h;obtain⟨_,_,e⟩:=aO a;injection e with o l q
 subst l;have m:=f.len;refine⟨rfl,?_⟩;rw[vL,ao];have i:=(ap.of_own (D:=(·<w'.heap.size)) a (λg b=>(a.lt g b).2)).take hk;rw[<-Ej _ _ _ m]at i;refine⟨j.take k,?_,ax.mono (λg b=>b.2) _ _ (f.take k)⟩;rw[jE,sC,j0 hk];exact i
theorem vQ{l:List Val}{x:Val}(h:x∈l):(enc x).length<=(encs l).length:=by
 obtain⟨i,a⟩:=List.getElem?_of_mem h;have b:=rm l (i+1);rw[rb a,jp]at b;omega
theorem Is(l:List Val):l.length<=(enc (vL l)).length:=by
 have:=oe l;rw[gQ,jT,jp];omega
theorem dC.lens{c:Cmt}(h:dC (aB c)):c.chg.length<=1000000/\c.path.length<=1000000/\c.box.length<=1000000/\c.wel.length<=1000000:=by
 have g:=h.len;have k:∀l:List Val,vL l∈aB c->l.length<=1000000:=λl f=>by
  have a:=vQ f;have b:=Is l;have d:(encs (aB c)).length<=(enc (vL (aB c))).length:=by rw[gQ,jT,jp];omega
  omega
 have a:=k (c.chg.map Chg.val) (by simp[aB]);have b:=k (c.path.map vI) (by simp[aB]);have d:=k (c.box.map Bx.val) (by simp[aB]);have e:=k (c.wel.map Wl.val) (by simp[aB]);rw[jn]at a b d e;exact⟨a,b,d,e⟩
structure cF(w:ja):Prop where
 num:dJ w
 start:fz w
theorem cF.below{w w':ja}(h:cF w)(a:jd w w w'):cF w':=⟨h.num.below a (ji _),h.start.below a (ji _)⟩
def oJ:ByteArray:=⟨#[99,111,109,109,105,116]⟩
def pK:ByteArray:=⟨#[99,111,109,109,105,116,32,115,105,103,110]⟩
def idC(c:Cmt):LBy:=cP oJ (aB c)
def dm(c:Cmt):LBy:=cP pK ((aB c).take 9)
theorem sQ(c):(idC c).length=32:=dL _ _
theorem Ji(c):(dm c).length=32:=dL _ _
theorem fa:(je.info? 37).map (·.size)=T 73:=by kernel_rfl
theorem B3(c:Cmt)(q:CQ)(w:ja)(h:ay (·<w.heap.size) w c q)(m:dC (aB c))(n:cF w):
 jl je 16 #[jg (ah c q).toArray] w λe w'=>e=jj (jg ((idC c).map v8).toArray)/\jd w w w':=by
 have y:=O h;have o:=O m;have r:=O n;obtain⟨d,i⟩:=J ((ah c q).toArray);rw[<-i];have s:=O i;have p:d.size=73:=by rw[i,jw,dT c q h.plen h.clen]
 have z:=O p;have f:=jk w (ic d 37);have g:=jk (w.alloc (ic d 37)) (ic aI 23);have a:jd w w ((w.alloc (ic d 37)).alloc (ic aI 23)):=((jB _ w).alloc (ji _) _).alloc ar _;replace f:=av f (af (w.alloc (ic d 37)) (ic aI 23));rw[ju]at g;obtain⟨B,j⟩:=J ((w.alloc (ic d 37)).alloc (ic aI 23));obtain⟨b,k⟩:=J w.heap.size;rw[<-j]at g a f;rw[<-k]at g f;have t:=O g;have l:=O a;have u:=O f;have v:=O j;have x:=O k;clear g a j k f i p h m n
 go_enter func16,ntmps16
 go_upto_region 1 with fail
 rw[<-v,<-x];clear v
 go_wp2_with (refine jU rfl 37 _ rfl b rfl 37 d (0,0) _ u.out underlying37 rfl (by rw[z];exact fa) ?_)
 obtain⟨h,i,j,k⟩:=o.lens;rw[s];refine(nL c q B (y.below l) h i j k).mono ?_;rintro e C ⟨v,rfl,f,a⟩;obtain⟨p,m,rfl⟩:∃p m,v=A p 11 m:=by obtain⟨K,D,-⟩:=f;exact aO D
 have E:=O f;have n:=Z t a;have g:=ac l a;rw[<-s];clear f a t l u h i j k
 go_wp2_with fail
 refine(kQ oJ L (aB c) _ C (E.val 11 (ji _)).2 o (r.below g).num (r.below g).start).mono ?_;rintro e h ⟨rfl,a⟩;have t:=Z n a;have u:=ac g a;have i:((cP oJ (aB c)).map v8).toArray.size=32:=by rw[jw,jn,dL]
 have j:=dB (cP oJ (aB c));obtain⟨f,k⟩:=J (((cP oJ (aB c)).map v8).toArray);rw[<-k]at i j⊢;have F:=O k;have l:=O i;have H:=O j;clear k i j a n g
 go_wp2_with (refine jz rfl λ_ a=>jJ 23 _ _ rfl (b+1) f rfl rfl 23 _ t.out (by rw[l];rfl) (by rw[l];simp) H (a _ _ ?_))
 have a:(h.setRow (b+1) f).heap[b+1]?=T (ic f 23 (0,0)):=jA _ _ _ _ _ _ t.out;have g:jd w w (h.setRow (b+1) f):=jC u.out (by rw[x];omega) _;generalize h.setRow (b+1) f=k at a g⊢;have i:=O g;have j:=O a;clear a g
 go_wp2_with fail
 refine jO (v:=jg f) ?_ rfl ?_
 ·exact j4 rfl _ _ _ 23 _ (0,0) _ rfl j qH rfl (by rw[l];rfl)
 exact⟨by rw[F];rfl,i⟩
theorem tz{P:jK}(t e:jr)(k:Nat)(a:P.underlying t=T (.slice e))(b:∀w,(sizeOf e).run P w=.ok k w)(g o n c h:Nat)(d:h<=c)(W:ja):
 (Instr.sliceAt t (A (T ⟨g,o,ih⟩) n c) ih (T (I N (h:Int))) ih).run P W=.ok (A (T ⟨g,o,ih⟩) h c) W:=by
 have he:P.elem t=e:=by simp[Program.elem,a]
 rw[qI W t _ _ _ _ (by rw[he];exact a),run_slice_h W t _ n c (by rw[he];exact a) .i64 _ Y Y,he];simp[b,Result.andThen,sliced,Addr.add]
 try(split<;>simp_all)
theorem tT:∀w,(sizeOf 118).run je w=.ok 4 w:=λw=>by go_simp
theorem l9{W:ja}{D:Nat}{l:LBy}(h:W.heap[D]?=T (ic (l.map v8).toArray 23 (0,0)))(a:l.length=32):BytesAt W (A (T ⟨D,0,ih⟩) 32 32) l:=by
 refine⟨_,32,by rw[a],by rw[a];exact ji _,(λh=>by cases h),λ_=>⟨D,0,rfl,λj b=>cell_of h ?_⟩⟩;rw[jo];simp[jt,b]
theorem El(c:Cmt)(q:CQ)(w:ja)(f:ay (·<w.heap.size) w c q)(l:dC (aB c))(m:cF w):
 jl je 30 #[jg (ah c q).toArray] w λe w'=>∃D,e=jj (A (T ⟨D,0,ih⟩) 32 32)/\BytesAt w' (A (T ⟨D,0,ih⟩) 32 32) (dm c)/\jd w w w':=by
 have y:=O f;have o:=O l;have p:=O m;obtain⟨i,g⟩:=J ((ah c q).toArray);rw[<-g];have r:=O g;have n:i.size=73:=by rw[g,jw,dT c q f.plen f.clen]
 have z:=O n;have d:=jk w (ic i 37);have a:=af w (ic i 37);obtain⟨B,h⟩:=J (w.alloc (ic i 37));obtain⟨b,j⟩:=J w.heap.size;rw[<-h]at a d;rw[<-j]at d;have k:=O a;have s:=O d;have t:=O h;have C:=O j;clear a h j d g n f l m
 go_enter func30,ntmps30
 go_upto_region 1 with fail
 rw[<-t,<-C];clear t
 go_wp2_with (refine jU rfl 37 _ rfl b rfl 37 i (0,0) _ s.out underlying37 rfl (by rw[z];exact fa) ?_)
 obtain⟨m,n,t,u⟩:=o.lens;rw[r];refine(nL c q B (y.below k) m n t u).mono ?_;rintro e E ⟨v,rfl,j,a⟩;obtain⟨l,f,rfl,P⟩:∃g f,v=A (T ⟨g,0,ih⟩) 11 f/\11<=f:=by
  obtain⟨H,h,-⟩:=j;obtain⟨g,c,x,F,-⟩:=sO h L;exact⟨g,c,x,F⟩
 have F:=O j;have h:=ac k a;have H:∀W,(Instr.sliceAt 109 (A (T ⟨l,0,ih⟩) 11 f) ih (T (I N 9)) ih).run je W=.ok (A (T ⟨l,0,ih⟩) 9 f) W:=λW=>tz 109 118 4 qG tT l 0 11 f 9 Y W
 rw[<-r];clear j a k s m n t u
 go_wp2_with fail
 refine(kQ pK L ((aB c).take 9) _ E (F.val 9 L).2 (o.take (by rw[sC];decide) 9) (p.below h).num (p.below h).start).mono ?_;rintro e j ⟨rfl,a⟩;have s:=ac h a;have t:((cP pK ((aB c).take 9)).map v8).toArray.size=32:=by rw[jw,jn,dL]
 have k:=dB (cP pK ((aB c).take 9));obtain⟨m,n⟩:=J (((cP pK ((aB c).take 9)).map v8).toArray);rw[<-n]at t k⊢;have u:=O n;have Q:=vJ j aI m rfl t k;have x:=jk j (ic m 23);have K:=O x;have M:=O (s.trans ((af j (ic m 23)).mono s.size));clear n a h k x H
 go_wp2_with fail
 go_ret;have h:=K.out;rw[u]at h;have d:=l9 h (dL _ _);rw[<-u]at d;refine⟨j.heap.size,rfl,?_,M⟩;exact d
structure Wrote(b:Nat)(a:LBy)(w w':ja):Prop where
 buf:Buf b a w'
 bel:jd b w w'
theorem Fe(k:LBy)(g:Nat){W:ja}{t:jr}(h:W.heap[g]?=T (ic (k.map v8).toArray t (0,0))):∀j v,(k.map v8)[j]?=T v->W.cell? ((⟨g,0,ih⟩:jy).add j)=T v:=by
 intro j v a;have e:(⟨g,0,ih⟩:jy).add j=⟨g,j,ih⟩:=by unfold Addr.add;split<;>simp_all
 rw[e];exact cell_of h (by rw[List.getElem?_toArray];exact a)
theorem Dr(b:Nat)(a cs:LBy)(g n c:Nat)(w:ja)(h:Buf b a w)(d:cs.length=n)(f:g≠b)(i:∀j v,(cs.map v8)[j]?=T v->w.cell? ((⟨g,0,ih⟩:jy).add j)=T v)(l:a.length+n<=1000000):
 jl je 107 #[js (T ⟨b,0,ih⟩),A (T ⟨g,0,ih⟩) n c] w λe w'=>e=jj (jM #[I N n,.nilIface])/\Wrote b (a++cs) w w':=by
 refine(Tryz.Buffer_Write_at _ _ b b 0 (a.map v8) (cs.map v8) ⟨g,0,ih⟩ n c w h (lr h.lt) (rq _) (by rw[jn];exact d) f i (rq _) (by rw[jn];omega)).mono ?_;rintro e w' ⟨rfl,j,k,-⟩;exact⟨rfl,by unfold Buf;rw[j7];exact j,k⟩
theorem rU(b:Nat)(a k:LBy)(w:ja)(h:Buf b a w)(hk:k.length=32)(q:a.length<=900000):
 jl je 106 #[js (T ⟨b,0,ih⟩),jg (k.map v8).toArray] w λe w'=>e=jj (js (T ⟨b,0,ih⟩))/\Wrote b (a++k) w w':=by
 obtain⟨i,l⟩:=J ((k.map v8).toArray);rw[<-l];have o:=h.lt;have d:=af w (ic i 53);have m:=jk w (ic i 53);obtain⟨c,f⟩:=J (w.alloc (ic i 53));obtain⟨g,n⟩:=J w.heap.size;have r:=O f;have s:=O n;rw[<-f]at d;rw[<-f,<-n]at m;have t:jb (g≠b):=O Y;have p:=O (h.keep d);have u:=O (d.mono (lr o));have x:jb (∀j v,(k.map v8)[j]?=T v->c.cell? ((⟨g,0,ih⟩:jy).add j)=T v):=O (Fe k g (by rw[<-l];exact m));have v:=O hk;have y:jb (a.length+32<=1000000):=O Y;clear l h o d m f n hk q
 go_enter func106,ntmps106
 go_upto_region 1 with fail
 rw[<-r,<-s];refine jQ ?_;refine bi (λd=>True) (.take 0 (.take 1 (.take 2 (.take 3 (.one 4 .done))))) ae ae ae L (λ_ _ _ _ h=>h) trivial ?_;iterate 4 refine aC ?_
 refine ai rfl (λd f=>?_);go_simp;refine(Dr b a k g 32 32 c.drew (p.keep (aP c)) v t x y).mono ?_;rintro e l ⟨rfl,d⟩;have j:jb (Wrote b (a++k) c l):=O ⟨d.buf,((aP c).mono (lr p.lt)).trans d.bel⟩;clear d;refine f _ _ trivial λ_=>?_
 clear f;refine G ?_;refine jP ?_
 go_wp2_with fail
 go_ret;exact⟨rfl,j.buf,u.trans j.bel⟩
theorem Ap(b:Nat)(a:LBy)(s:ByteArray)(B:s.size<=100000)(w:ja)(h:Buf b a w)(C:a.length<=900000)(t:cF w):
 jl je 108 #[js (T ⟨b,0,ih⟩),ii s] w λe w'=>e=jj (jg ((cC (aK s) a).map v8).toArray)/\jd w w w':=by
 obtain⟨g,i⟩:=J (cC (aK s) a);have j:=gs (aK s) a;rw[<-i]at j⊢;have k:(g.map v8).toArray.size=32:=by rw[jw,jn,j]
 have l:(g.map v8).toArray.all (·.oneCell')=true:=by
  rw[List.all_toArray,List.all_eq_true];exact λc d=>rq _ c d
 obtain⟨m,n⟩:=J ((g.map v8).toArray);rw[<-n]at k l⊢;have D:=O n;have E:=O i;have o:=O k;have F:=O l;have c:=af w (ic aI 53);have p:=jk w (ic aI 53);obtain⟨H,d⟩:=J (w.alloc (ic aI 53));obtain⟨f,q⟩:=J w.heap.size;have K:=O d;rw[<-d]at c;rw[<-d,<-q]at p;have u:=O (h.keep c);have x:=O (t.below c);have y:=O c;have r:=O p;have z:=O q;clear h c p t n i j k l d q
 go_enter func108,ntmps108
 go_wp2_with fail
 rw[<-K,<-z];refine(NB b a H u).mono ?_;rintro e l ⟨v,rfl,d,c⟩;have h:=oG s B v a C l (BytesAt.of_own (by rw[jn]at d;exact d)) (x.below c).num (x.below c).start;rw[<-E,<-D]at h;have j:=O h;have i:=O ((c.block _ (jq.1 r).1).trans r);have k:=ac y c;clear c r y u h d
 go_wp2_with fail
 refine j.mono ?_;rintro e h ⟨rfl,c⟩;have d:=O ((c.block _ (jq.1 i).1).trans i);have n:=ac k c;clear c i k j
 go_wp2_with (refine jz rfl λ_ c=>jJ 53 _ _ rfl f m rfl rfl 53 _ d.out (by rw[o];rfl) (by rw[o];rfl) F (c _ _ ?_))
 have c:(h.setRow f m).heap[f]?=T (ic m 53 (0,0)):=jA _ _ _ _ _ _ d.out;refine jO (j4 rfl _ _ f 53 _ (0,0) _ rfl c jF rfl (by rw[o];rfl)) rfl ?_;exact⟨rfl,jC n.out (by rw[z];exact ji _) _⟩
def iD(s:ByteArray)(nums:List Int):Val:=vL (.mk 2 0 s []::nums.map vI)
def eM(k:LBy)(s:ByteArray)(nums:List Int):LBy:=cC (aK ⟨#[100,101,114,105,118,101]⟩) (k++enc (iD s nums))
theorem m7(k s nums):(eM k s nums).length=32:=gs _ _
def iJ(s:ByteArray)(nums:List Int):List jc:=[I N 2,I N 0,ii s,A ih 0 0]++dD nums
theorem OI{D:Nat->Prop}{w:ja}{B:Nat}{a:jc}{s:ByteArray}{nums:List Int}(b:w.ownsRow B 118 4 a (nums.length+1) (iJ s nums))(c:∀g,a.ownBlock=T g->D g):ao D w (iD s nums) a:=by
 rw[iD,vL,ao];refine⟨bJ::jv nums.length bJ,?_,?_⟩
 ·rw[jT,jn];exact ap.of_own b c
 rw[ax];refine⟨bJ,_,rfl,?_,tZ nums⟩;rw[ao];exact⟨[],⟨rfl,ih,0,rfl,ji _,λ_=>rfl,λh=>absurd h L⟩,by rw[ax]⟩
structure yy(s:ByteArray)(nums:List Int):Prop where
 wf:wfV 16 (iD s nums)
 len:(enc (iD s nums)).length<=800000
 cnt:nums.length<=100000
theorem Nc(s:ByteArray)(l:List Int)(n:Int):iJ s (l++[n])=iJ s l++[I N 1,I N n,ii ⟨#[]⟩,A ih 0 0]:=by
 unfold iJ;rw[za,jV]
theorem J4{w:ja}{B sz n:Nat}{e:jr}{v:jc}{xs:List jc}(h:w.ownsRow B e sz v n xs)(m:0<n):∃g c,v=A (T ⟨g,0,ih⟩) n c/\B<=g/\g<w.heap.size/\∀j b,xs[j]?=T b->w.cell? ((⟨g,0,ih⟩:jy).add j)=T b:=by
 rcases h.2 with⟨rfl,o⟩|⟨g,f,p,rfl,i,d,q,r,s,k⟩
 ·omega
 refine⟨g,f,rfl,i,(jq.1 d).1,λj b a=>?_⟩;have e:(⟨g,0,ih⟩:jy).add j=⟨g,j,ih⟩:=by unfold Addr.add;split<;>simp_all
 rw[e];refine cell_of d ?_;rw[<-k]at a;have l:=(pz.1 a).1;rw[jE]at l;rw[List.getElem?_take_of_lt Y]at a;rw[<-a];simp
theorem Cp{w w':ja}{g:Nat}{xs:List jc}(h:∀j a,xs[j]?=T a->w.cell? ((⟨g,0,ih⟩:jy).add j)=T a)(hk:w'.heap[g]?=w.heap[g]?):∀j a,xs[j]?=T a->w'.cell? ((⟨g,0,ih⟩:jy).add j)=T a:=by
 intro j a b;have e:(⟨g,0,ih⟩:jy).add j=⟨g,j,ih⟩:=by unfold Addr.add;split<;>simp_all
 have:=h j a b;rw[e]at this⊢;exact(bE hk).trans this
theorem oL(k:LBy)(hk:k.length=32)(s:ByteArray)(l:List Int)(v:jc)(w:ja)(hv:cH w v l)(f:yy s l)(E:cF w):
 jl je 46 #[jg (k.map v8).toArray,ii s,v] w λe w'=>e=jj (jg ((eM k s l).map v8).toArray)/\jd w w w':=by
 obtain⟨p,c,rfl,hc,r⟩:=hv;obtain⟨n,t⟩:=J l.length;have hl:=f.cnt;rw[<-t]at hc hl r⊢;have z:=O t;have B:=O f;have U:=O r;have C:=O hk;obtain⟨h,g⟩:=J ((k.map v8).toArray);have K:h.size=32:=by rw[g,jw,jn,hk]
 have u:=af w (ic h 53);have x:=jk w (ic h 53);have y:=af (w.alloc (ic h 53)) (ic aI 53);have b:=jk (w.alloc (ic h 53)) (ic aI 53);rw[ju]at b;obtain⟨a,i⟩:=J ((w.alloc (ic h 53)).alloc (ic aI 53));obtain⟨d,o⟩:=J w.heap.size;have q:=(y.block _ (jq.1 x).1).trans x;have m:=O (u.trans (y.mono u.size));have M:a.heap.size=d+1+1:=by rw[i,o];simp
 rw[<-o]at q b;rw[<-i]at q b m;rw[<-g];have V:=O g;have Rc:=O i;have F:=O o;have SZ:=O q;have QG:=O b;have H:=O E;have QH:=O K;have j:=O M;clear t f r hk g u x y b i o q E K M
 go_enter func46,ntmps46
 go_upto_region 2 with fail
 rw[<-Rc,<-F];have b:=af a (ic #[I N 2,I N 0,ii s,A ih 0 0] 118);have g:(a.alloc (ic #[I N 2,I N 0,ii s,A ih 0 0] 118)).ownsRow a.heap.size 118 4 (A (T ⟨d+1+1,0,ih⟩) 1 1) 1 (iJ s []):=by
  rw[<-j];refine⟨by simp[iJ,dD,aX],.inr ⟨a.heap.size,1,_,rfl,ji _,jk a _,ji _,by unfold j3;omega,rfl,by simp[iJ,dD,aX]⟩⟩
 obtain⟨W2,i⟩:=J (a.alloc (ic #[I N 2,I N 0,ii s,A ih 0 0] 118));rw[<-i]at b g⊢;have Qk:=O b;have W:=O g;obtain⟨v2,o⟩:=J (j6 (T ⟨d+1+1,0,ih⟩) 1 1);rw[<-o]at W⊢;have bc:=b.size;clear b g i o
 go_wp2_with fail
 go_loopw [7,18] (λg b wr=>∃(i:Nat) (K:jc),g=K/\b=I N i/\i<=n/\jb (wr.ownsRow a 118 4 K (i+1) (iJ s (l.take i)))/\jb (jd a a wr)) (λ_ b _=>n-(jm b).toNat)
 case atStart=>exact⟨0,_,rfl,rfl,jR _,O (by rw[qo];exact W),Qk⟩
 obtain⟨i,K,rfl,rfl,hi,t,q⟩:=hrel
 by_cases X:i<n
 ·have hd:=aj ((i:Int)<(n:Int))
  have Q3:=aj (i<n);obtain⟨g,o,rfl,u⟩:=U Y;have r:i<l.length:=by rw[<-z];exact X
  have E:l.getD i 0=l[i]:=by simp[jt,r]
  obtain⟨y,x⟩:=J (l.getD i 0);have b:=u i X;rw[<-x]at b;have M:wr.cell? ⟨g,o+i,ih⟩=T (I N y):=(bE (q.block g (jN (eR b) m.size))).trans ((bE (m.block g (eR b))).trans b);have H:jb (iJ s (l.take (i+1))=iJ s (l.take i)++[I N 1,I N y,ii ⟨#[]⟩,A ih 0 0]):=O (by
   rw[kw r,Nc,x,E])
  have P:=q.size;clear E x b u r U
  go_wp2_with (at_builtin;refine Hid.out ?_)
  refine O ?_;refine jz rfl λ_ x=>il _ _ rfl a.heap.size _ _ _ rfl (de t (af wr _)) _ 1 [I N 1,I N y,ii ⟨#[]⟩,A ih 0 0] rfl (ey wr [I N 1,I N y,ii ⟨#[]⟩,A ih 0 0] _ _ 4 1 1 rfl (ji _)) (by simp[jS]) (show i+1+1<=4000000 by omega) (by rw[ju];omega) λE w6 b=>x _ _ ?_
  have r:=O (q.trans (((af wr _).mono (show a.heap.size<=wr.heap.size by omega)).trans (b.below (de t (af wr _)) (by rw[ju];omega))));replace b:=O b.own;clear x
  go_wp2_with fail
  refine⟨⟨i+1,_,rfl,by go_num,by omega,O (by rw[H];exact b),r⟩,?_⟩;simp only[jm];omega
 have hd:=ak ((i:Int)<(n:Int));have Q3:=ak (i<n);have o:i=n:=Y;have b:=t.out;rw[o,jI (by rw[<-z];exact ji _),z]at b;obtain⟨p7,c7,rfl⟩:=aO b;have y:=OI (D:=(·<wr.heap.size)) b (λg u=>(b.lt g u).2);have aa:=O (wj (iD s l) _ 3 wr rfl B.wf y (aU B.len));have bd:=O o;clear o b y t
 go_wp2_with fail
 refine aa.mono ?_;rintro e u ⟨vb,rfl,R0,b⟩;have o:=ac q b;clear b
 go_upto_region 9 with fail
 have y:=Buf.new u;have g:=af u (ic #[A ih 0 0,I N 0,.int .i8 0] 179);obtain⟨M,Us⟩:=J (u.alloc (ic #[A ih 0 0,I N 0,.int .i8 0] 179));obtain⟨b,P⟩:=J u.heap.size;rw[<-Us]at y g⊢;rw[<-P]at y⊢;have ad:=o.size;have Q:M.heap[d]?=T (ic h 53 (0,0)):=(g.block _ (aw j)).trans ((o.block _ (aw j)).trans SZ);have al:M.heap[d+1]?=T (ic aI 53 (0,0)):=(g.block _ (aw j)).trans ((o.block _ (aw j)).trans QG);have au:=Q;rw[V]at Q;obtain⟨R,cb,e3,bb,S,t⟩:=J4 R0 (AV _);subst e3;have a1:R<b:=by rw[P];exact S
 replace t:=Cp t (g.block _ S);obtain⟨E,f⟩:=J (enc (iD s l));have a2:E.length<=800000:=by rw[f];exact B.len
 rw[<-f]at t⊢;have a3:=O y;have a4:=O au;have RQ:=O al;have TU:=O t;have YM:=O f;have Zw:=O a1;have a5:=O a2;have Qt:=O (m.trans ((o.mono m.size).trans (g.mono (jD m.size ad))));have VZ:jb (w.heap.size<=b):=O (dS j F);have ba:jb (d+1<b):=O (aw j);clear y g Us P ad Q al au R0 bb S t a1 f a2 aa o q j hd Q3;refine j5 ?_;refine jU rfl 53 _ rfl d rfl 53 h (0,0) _ a4.out jF rfl (by rw[QH];rfl) ?_
 go_wp2_with fail
 have f:=rU b [] k M a3 C ar;rw[<-V]at f;refine f.mono ?_;clear f;rintro e y ⟨rfl,f⟩;rw[lo]at f;have g:jb (∀j v,(E.map v8)[j]?=T v->y.cell? ((⟨R,0,ih⟩:jy).add j)=T v):=O (by
  exact Cp TU (f.bel.block _ Zw.out))
 have j:=O ((f.bel.block _ ba.out).trans RQ);have q:=O (Qt.trans (f.bel.mono VZ));have t:=O f.buf;clear f RQ Qt TU a4 a3
 go_wp2_with fail
 refine(Dr b k E R E.length cb y t rfl (p6 Zw) g (by have:=a5.out;rw[C];omega)).mono ?_;rintro e w6 ⟨rfl,f⟩;have o:=O ((f.bel.block _ ba.out).trans j);have r:=O (q.trans (f.bel.mono VZ));have ad:=O f.buf;clear f j q t g;have f:=Ap b (k++E) ⟨#[100,101,114,105,118,101]⟩ L w6 ad (by have:=a5.out;rw[jp,C];omega) (H.below r);have P:cC (aK ⟨#[100,101,114,105,118,101]⟩) (k++E)=eM k s l:=by rw[YM];rfl
 rw[P]at f;have Q:=m7 k s l;have q:=dB (eM k s l);obtain⟨g,j⟩:=J (((eM k s l).map v8).toArray);have S:g.size=32:=by rw[j,jw,jn,Q]
 rw[<-j]at f q;have aa:=O f;have al:=O j;have t:=O S;have au:=O q;clear f P Q q j S
 go_wp2_with fail
 refine aa.mono ?_;rintro e q ⟨rfl,f⟩;have j:=O ((f.block _ (jq.1 o).1).trans o);have P:=ac r f;clear f o r aa
 go_wp2_with (refine jz rfl λ_ x=>jJ 53 _ _ rfl (d+1) g rfl rfl 53 _ j.out (by rw[t];rfl) (by rw[t];rfl) au (x _ _ ?_))
 have f:(q.setRow (d+1) g).heap[d+1]?=T (ic g 53 (0,0)):=jA _ _ _ _ _ _ j.out;refine jO (j4 rfl _ _ (d+1) 53 _ (0,0) _ rfl f jF rfl (by rw[t];rfl)) rfl ?_;exact⟨by rw[al],jC P.out (by rw[F];exact qa _) _⟩
def mS(s:ByteArray)(a b:LBy):LBy:=cC (aK ⟨#[109,105,120]⟩) ([]++cW (aK s)++a++b)
theorem BL(s a b):(mS s a b).length=32:=gs _ _
theorem I1:(je.info? 53).map (·.size)=T 32:=by kernel_rfl
theorem pM{a:Act}{o:jY}{x:oi}{c:Array jc}{b:Nat}{d:ja}(e:c.size=32)(f:o.op=.load 53 x)(g:a.eval x=js (T ⟨b,0,ih⟩))(i:d.heap[b]?=T (ic c 53 (0,0))):
 (execOp a.eval o).run je d=.ok (.value (jg c)) d:=by
 have h:=po (P:=je) o a 53 x f b 0 g c.toList _ (te (t:=53) (l:=c.toList) (by simpa using i)) jF rfl (by rw[kl,e];exact I1)
 simpa using h
theorem NH(s:ByteArray)(R:s.size<=100000)(g i:LBy)(q:g.length=32)(r:i.length=32)(w:ja)(S:cF w):
 jl je 70 #[ii s,jg (g.map v8).toArray,jg (i.map v8).toArray] w λe w'=>e=jj (jg ((mS s g i).map v8).toArray)/\jd w w w':=by
 obtain⟨A0,U⟩:=J (((cW (aK s)).map v8).toArray);obtain⟨k,t⟩:=J ((g.map v8).toArray);obtain⟨l,u⟩:=J ((i.map v8).toArray);have V:k.size=32:=by rw[t,jw,jn,q]
 have W:l.size=32:=by rw[u,jw,jn,r]
 have X:=BL s g i;have z:=dB (mS s g i);obtain⟨m,x⟩:=J (((mS s g i).map v8).toArray);have aa:m.size=32:=by rw[x,jw,jn,X]
 rw[<-x]at z⊢;rw[<-t,<-u];obtain⟨f,d⟩:=J w.heap.size;obtain⟨j,c⟩:=J (((w.alloc (ic k 53)).alloc (ic l 53)).alloc (ic aI 53));have hp:j.heap[f]?=T (ic k 53 (0,0)):=by
  rw[c,d];exact(j9 _ _ _ (by simp;omega)).trans ((j9 _ _ _ ar).trans (jk w _))
 have ad:j.heap[f+1]?=T (ic l 53 (0,0)):=by
  have h:=jk (w.alloc (ic k 53)) (ic l 53);rw[ju]at h;rw[c,d];exact(j9 _ _ _ ar).trans h
 have hr:j.heap[f+1+1]?=T (ic aI 53 (0,0)):=by
  have h:=jk ((w.alloc (ic k 53)).alloc (ic l 53)) (ic aI 53);rw[ju,ju]at h;rw[c,d];exact h
 have a:jd w w j:=by
  rw[c];exact(((jB _ w).alloc (ji _) _).alloc ar _).alloc (by simp;omega) _
 have al:j.heap.size=f+1+1+1:=by rw[c,d];simp
 have o:=Buf.new j;have n:=af j (ic #[A ih 0 0,I N 0,.int .i8 0] 179);obtain⟨W2,B⟩:=J (j.alloc (ic #[A ih 0 0,I N 0,.int .i8 0] 179));rw[<-B]at o n;rw[al]at o;obtain⟨b,C⟩:=J (f+1+1+1);rw[<-C]at o;have D:jb (w.heap.size<=b):=O Y;have E:jb (f<b):=O Y;have F:jb (f+1<b):=O Y;have H:jb (f+1+1<b):=O Y;have au:=O o;have K:=Z hp n;have M:=Z ad n;have QR:=Z hr n;have Qk:=O (a.trans (n.mono a.size));have HG:=O d;have Rc:=O c;have a3:=O B;have U2:=O C;have Rl:=O U;have QP:=O t;have Re:=O u;have a4:=O V;have a5:=O W;have a1:=O x;have P:=O aa;have ba:=O z;have p:=O q;have a2:=O r;have Q:=O S;have y:jb (s.size<=100000/\(cW (aK s)).length=32):=O ⟨R,kO _⟩;clear d c B C U t u V W x X aa z q r S R hp ad hr a al o n
 go_enter func70,ntmps70
 go_upto_region 2 with fail
 rw[<-HG,<-Rc,<-a3,<-U2];refine jQ ?_;refine bi (λc=>c.heap[f]?=T (ic k 53 (0,0))/\c.heap[f+1]?=T (ic l 53 (0,0))) (.take 0 (.take 4 (.take 6 (.one 1 (.one 2 (.one 3 (.one 5 (.one 7 (.one 8 (.one 9 .done)))))))))) ae ae ae L (λ_ _ _ _ h=>h) ⟨K,M⟩ ?_;obtain⟨o,d⟩:=J W2.drew;have a:=aP W2;rw[<-d]at a⊢;have x:=O (au.keep a);have z:=Z QR a;have B:=Z K a;have C:=Z M a;have R:=ac Qk a;clear au QR K M Qk a d;refine aC ?_
 (refine az (v:=jg k) rfl ag (λc d=>pM a4 rfl rfl d.1) ?_;refine G ?_)
 (refine az (v:=jg l) rfl ag (λc d=>pM a5 rfl rfl d.2) ?_;refine G ?_)
 refine ai rfl (λn c=>?_);go_simp;have d:=tI s o;rw[d];have a:=p8 s o o.heap.size (ji _);have h:=rJ s o;obtain⟨V,t⟩:=J (dY s o);rw[<-t]at a h⊢;clear d t;have K:=O (x.keep a);have M:=Z z a;have t:=Z B a;have u:=Z C a;have d:=ac R a;clear x z B C R a;have W:=O h;clear h;go_simp;refine c _ _ ⟨t,u⟩ λ_=>?_
 clear c;refine G ?_;refine ai rfl (λn c=>?_);go_simp;have h:=rA _ _ (by rw[eA];have:=y.out;omega) V W (Q.below d).num (Q.below d).start;rw[<-Rl]at h;refine h.mono ?_;clear h;rintro e X ⟨rfl,a⟩;have B:=O (K.keep a);have C:=Z M a;have x:=Z t a;have z:=Z u a;have R:=ac d a;clear K M t u d a;refine c _ _ ⟨x,z⟩ λ_=>?_
 clear c;refine G ?_;refine ai rfl (λn c=>?_);go_simp;have h:=rU b [] (cW (aK s)) X B (kO _) (by have:=y.out;have:=p.out;simp only[km,jp];omega);rw[<-Rl]at h;refine h.mono ?_;clear h;rintro e x3 ⟨rfl,d⟩;have K:=O d.buf;have M:=O ((d.bel.block _ H.out).trans C);have t:=O ((d.bel.block _ E.out).trans x);have u:=O ((d.bel.block _ F.out).trans z);have S:=O (R.trans (d.bel.mono D));clear d B C x z R;refine c _ _ ⟨t,u⟩ λ_=>?_
 clear c;refine G ?_;refine ai rfl (λn c=>?_);go_simp;have h:=rU b ([]++cW (aK s)) g x3 K p (by have:=y.out;have:=p.out;simp only[km,jp];omega);rw[<-QP]at h;refine h.mono ?_;clear h;rintro e x4 ⟨rfl,d⟩;have C:=O d.buf;have R:=O ((d.bel.block _ H.out).trans M);have x:=O ((d.bel.block _ E.out).trans t);have z:=O ((d.bel.block _ F.out).trans u);have U:=O (S.trans (d.bel.mono D));clear d K M t u S;refine c _ _ ⟨x,z⟩ λ_=>?_
 clear c;refine G ?_;refine ai rfl (λn c=>?_);go_simp;have h:=rU b ([]++cW (aK s)++g) i x4 C a2 (by have:=y.out;have:=p.out;simp only[km,jp];omega);rw[<-Re]at h;refine h.mono ?_;clear h;rintro e S ⟨rfl,d⟩;have h:=O d.buf;have K:=O ((d.bel.block _ H.out).trans R);have t:=O ((d.bel.block _ E.out).trans x);have u:=O ((d.bel.block _ F.out).trans z);have B:=O (U.trans (d.bel.mono D));clear d C R x z U;refine c _ _ ⟨t,u⟩ λ_=>?_
 clear c;refine G ?_;refine ai rfl (λn c=>?_);go_simp;have d:=Ap b ([]++cW (aK s)++g++i) ⟨#[109,105,120]⟩ L S h (by have q:=kO (aK s);have r:=p.out;have x:=a2.out;simp only[km,jp];omega) (Q.below B);have x:cC (aK ⟨#[109,105,120]⟩) ([]++cW (aK s)++g++i)=mS s g i:=rfl;rw[x]at d;rw[<-a1]at d;refine d.mono ?_;clear d x;rintro e d ⟨rfl,a⟩;have U:=O (h.keep a);have x:=Z K a;have C:=Z t a;have M:=Z u a;have R:=ac B a;clear h K t u B a;refine c _ _ ⟨C,M⟩ λ_=>?_
 clear c;refine G ?_;refine ai rfl (λn c=>?_);rw[if_pos ag];refine jJ 53 _ _ rfl (f+1+1) m rfl rfl 53 _ x.out (by rw[P];rfl) (by rw[P];rfl) ba (c _ _ ⟨(jG _ _ _ _ Y).trans C,(jG _ _ _ _ Y).trans M⟩ λ_=>?_);clear c;have a:(d.setRow (f+1+1) m).heap[f+1+1]?=T (ic m 53 (0,0)):=jA _ _ _ _ _ _ x.out;have c:jd w w (d.setRow (f+1+1) m):=jC R.out (by rw[HG];omega) _;generalize d.setRow (f+1+1) m=z at a c⊢;have h:=O a;have n:=O c;clear a c;refine G ?_;refine jP ?_
 go_wp2_with fail
 refine jO (j4 rfl _ _ (f+1+1) 53 _ (0,0) _ rfl h jF rfl (by rw[P];rfl)) rfl ?_;exact⟨by rw[a1],n⟩
theorem wu(w:ja):cH w (A ih 0 0) []:=⟨ih,0,rfl,ji _,λh=>absurd h ar⟩
theorem D5(a:Nat)(b:a<2^64):(aZ a).length<=10:=kp a b
theorem yr(s:ByteArray)(b:s.size<=1000):yy s [] where
 wf:=by
  rw[iD,vL,wfV];refine .inr (.inr ⟨rfl,rfl,rfl,by simp,λx a=>?_⟩);simp only[ms,lv,nn,or_false]at a;subst a;rw[wfV];exact .inr (.inl ⟨rfl,rfl,by omega,rfl⟩)
 len:=by
  rw[iD,gQ];simp only[ms,encs,enc];rw[if_neg L,if_pos trivial];have a:=D5 1 L;have c:=D5 s.size Y;simp only[jT,jp,km,eA];simp only[km,jo];omega
 cnt:=by simp
theorem wL{W:ja}{D:Nat}{l:LBy}{t:jr}(h:W.heap[D]?=T (ic (l.map v8).toArray t (0,0)))(a:l.length=32):BytesAt W (A (T ⟨D,0,ih⟩) 32 32) l:=by
 refine⟨_,32,by rw[a],by rw[a];exact ji _,(λh=>by cases h),λ_=>⟨D,0,rfl,λj b=>cell_of h ?_⟩⟩;rw[jo];simp[jt,b]
def sA(k:LBy)(s:ByteArray):Nat:=mO (aK ⟨#[115,99,97,108,97,114]⟩) (eM k s [])
theorem DZ(k:LBy)(hk:k.length=32)(s:ByteArray)(x:s.size<=1000)(w:ja)(h:cF w):
 jl je 101 #[jg (k.map v8).toArray,ii s] w λe w'=>e=jj (I N (sA k s:Nat))/\jd w w w':=by
 obtain⟨b,i⟩:=J ((k.map v8).toArray);have o:b.size=32:=by rw[i,jw,jn,hk]
 have a:=af w (ic b 53);have c:=jk w (ic b 53);obtain⟨y,j⟩:=J w.heap.size;obtain⟨z,l⟩:=J (w.alloc (ic b 53));rw[<-j]at c;rw[<-l]at c a;have d:=oL k hk s [] _ z (wu _) (yr s x) (h.below a);rw[<-i]at d⊢;have m:=m7 k s [];have n:=dB (eM k s []);obtain⟨f,g⟩:=J (((eM k s []).map v8).toArray);have p:f.size=32:=by rw[g,jw,jn,m]
 rw[<-g]at n d;have B:=O j;have C:=O l;have D:=O a;have q:=O c;have r:=O d;have E:=O g;have t:=O p;have u:=O m;have F:=O n;have H:=O o;have v:=O h;clear i o a c j l d m n g p h
 go_enter func101,ntmps101
 go_upto_region 1 with fail
 rw[<-B,<-C];refine j5 ?_;refine jU rfl 53 _ rfl y rfl 53 b (0,0) _ q.out jF rfl (by rw[H];rfl) ?_
 go_wp2_with fail
 refine r.mono ?_;rintro e a ⟨rfl,c⟩;have g:=ac D c;clear c r q
 go_wp2_with (refine jz rfl λ_ j=>jJ 53 _ _ rfl a.heap.size f rfl rfl 53 _ (jk a _) (by rw[t];rfl) (by rw[t];rfl) F (j _ _ ?_))
 obtain⟨h,c⟩:=J ((a.alloc (ic aI 53)).setRow a.heap.size f);have i:h.heap[a.heap.size]?=T (ic f 53 (0,0)):=by rw[c];exact jA _ _ _ _ _ _ (jk a _)
 have d:jd w w h:=by rw[c];exact jC (g.trans ((af a _).mono g.size)) g.size _
 rw[E]at i;have l:=ES ⟨#[115,99,97,108,97,114]⟩ L _ _ (by rw[u];decide) h (wL i u) (v.below d).num (v.below d).start;rw[<-c];have m:=O d;clear i c j d;refine l.mono ?_;clear l;rintro e i ⟨rfl,c⟩;have d:=ac m c;clear c
 go_wp2_with fail
 go_ret;exact⟨rfl,d⟩
theorem GY(n:Nat)(r:n<=1000000)(w:ja):
 jl je 167 #[A ih 0 0,I N n] w λe w'=>∃v,e=jj v/\w'.ownsRow w 118 4 v 0 []/\jd w w w':=by
 rcases Nat.eq_zero_or_pos n with b|b
 ·subst b
  go_enter func167,ntmps167
  go_wp2
  go_ret;exact⟨_,rfl,jZ _ _ _ _,jB _ _⟩
 obtain⟨i,f,g,j,h⟩:=info_parts Aj;have a:=Lib.run_append_nil_zeros (P:=je) w 109 3 109 118 i (jg #[I N 0,I N 0,ii ⟨#[]⟩,A ih 0 0]:jc) .i64 .i64 qG underlying3 f g n b Y Y (by rw[h];omega);have l:=grownCap_ge w n 0 118;have c:=grownCap_le_maxLen w n 0 118 (by unfold j3;omega);generalize grownCap w n 0 118=C at a l c;have d:(Builtin.zeroCells (jg #[I N 0,I N 0,ii ⟨#[]⟩,A ih 0 0]:jc).cells n++Builtin.zeroCells (jg #[I N 0,I N 0,ii ⟨#[]⟩,A ih 0 0]:jc).cells (C-n)).size=C*4:=by
  rw[Array.size_append,size_zeroCells,size_zeroCells];show n*4+(C-n)*4=C*4;omega
 generalize Builtin.zeroCells (jg #[I N 0,I N 0,ii ⟨#[]⟩,A ih 0 0]:jc).cells n++Builtin.zeroCells (jg #[I N 0,I N 0,ii ⟨#[]⟩,A ih 0 0]:jc).cells (C-n)=m at a d;have o:=O a;have p:=O d;have q:=O c;clear a d c f g j h;have a:(0:Int)<(n:Int):=Y
 go_enter func167,ntmps167
 go_wp2_with (at_builtin;refine Lib.wpList_append_run _ rfl _ _ 109 3 rfl _ _ rfl rfl _ _ o.out ?_)
 go_ret;refine⟨_,rfl,⟨rfl,.inr ⟨w.heap.size,C,m,rfl,ji _,jk w.drew _,jR _,q,p,rfl⟩⟩,?_⟩;exact⟨rfl,rfl,rfl,by simp,λk hk=>j9 w.drew _ _ hk⟩
def oY(w:ja)(v:jc)(l:List (List jc)):Prop:=bZ w v 4 l.length l.flatten
def fb(a:List (List (List jc)))(k:Nat):List (List jc):=(a.take k).flatten
theorem Dq(a:List (List (List jc)))(k:Nat)(hk:k<a.length):fb a (k+1)=fb a k++a.getD k []:=by
 unfold fb;rw[qQ,qS];simp[hk,jt]
theorem uV(a:List (List (List jc)))(k:Nat):(fb a k).length<=a.flatten.length:=by
 have h:a.flatten=fb a k++(a.drop k).flatten:=by
  unfold fb;rw[<-qS,qs]
 rw[h];simp
theorem MO(g m:Nat)(t:jr)(h:List jc)(a:List (List (List jc)))(z:h.length=m)(B:a.length=m)(U:a.flatten.length<=1000000)(w:ja)
 (b:w.heap[g]?=T (ic h.toArray t (0,0))) (c:∀i,i<m->oY w (h.getD i jL) (a.getD i [])) (V:m<=1000) (d:∀e∈a.flatten,∀o∈e,o.oneCell'=true):
 jl je 109 #[A (T ⟨g,0,ih⟩) m m] w λe w'=>∃v,e=jj v/\w'.ownsRow w 118 4 v a.flatten.length a.flatten.flatten/\jd w w w':=by
 have C:g<w.heap.size:=(jq.1 b).1;have f:jb (∀i,i<m->w.cell? ⟨g,i,ih⟩=T (h.getD i jL)):=O λi D=>by
  simp[World.cell?,b,z,D,jt]
 have u:=O c;have E:=O d;clear c b d
 go_enter func109,ntmps109
 go_wp2_with fail
 go_loopw [3,11] (λs b wr=>∃k:Nat,b=I N k/\k<=m/\s=I N ((fb a k).length:Nat)/\wr=w) (λ_ b _=>(m-jm b).toNat)
 case atStart=>exact⟨0,rfl,by omega,rfl,rfl⟩
 obtain⟨k,rfl,hk,rfl,c⟩:=hrel;have F:=c.symm;subst F;clear c
 by_cases s:k<m
 ·have l:=f k s
  have H:=uV a (k+1);have d:=Dq a k Y;obtain⟨n,p,c,j,x,y,q⟩:=u k s;rw[j]at l;have r:(fb a (k+1)).length=(fb a k).length+(a.getD k []).length:=by rw[d];simp
  clear j q d n;generalize(a.getD k []).length=n at l r x;have j:=O r;clear r;generalize(fb a k).length=q at j⊢;have K:¬((q:Int)+(n:Int)<0):=Y;have M:q+n<=1000000:=aw j
  go_wp2
  refine⟨⟨k+1,by go_num,by omega,?_,trivial⟩,by simp[jm];omega⟩;rw[j];simp
 have W:jb (k=m):=O Y;have H:=uV a k
 go_wp2_with fail
 refine(GY _ Y _).mono ?_;rintro e X ⟨v,rfl,K,c⟩;have M:=O c;clear c
 go_wp2_with fail
 go_loopw [6,27] (λl b c=>∃j:Nat,b=I N j/\j<=m/\c.ownsRow w 118 4 l (fb a j).length (fb a j).flatten/\jb (jd w w c)) (λ_ b _=>(m-jm b).toNat)
 case atStart=>exact⟨0,rfl,by omega,by simpa [fb]using K,M⟩
 obtain⟨j,rfl,hj,b,c⟩:=hrel
 by_cases x:j<m
 ·have P:=fi (f j x) (c.block _ C)
  have l:=bZ.below (u j x) c;have d:=Dq a j Y;have y:=uV a (j+1);generalize h.getD j jL=vj at P l;have n:∀o∈(a.getD j []).flatten,o.oneCell'=true:=λo p=>by
   obtain⟨e,he,p⟩:=qT.1 p;refine E e (qT.2 ⟨a.getD j [],?_,he⟩) o p;have q:j<a.length:=Y;simp[jt,q]
  generalize a.getD j []=q at d l n;have aa:=c.size;have r:(fb a j).length+q.length<=1000000:=by rw[d,jp]at y;omega
  have Q:=O d;have R:=O n;have S:=O l;clear d l y n
  go_wp2_with (at_builtin;refine Hid.out ?_)
  refine O ?_;refine jz rfl λ_ d=>il _ _ rfl w.heap.size _ _ _ rfl b _ q.length q.flatten rfl S R Y Y λy w4 f=>d _ _ ?_
  have l:=f.own;have n:=f.grown;clear f d
  go_wp2_with fail
  go_roundw
  case rel=>
   refine⟨j+1,by go_num,by omega,?_,c.grown n Y (λk e=>(b.lt k e).1)⟩;rw[Q]
   simpa using l
  case measure=>simp[jm];omega
 have d:j=m:=Y;have l:fb a j=a.flatten:=by rw[d,<-B];simp[fb]
 rw[l]at b;have n:=O b;clear b d l
 go_wp2
 go_ret;exact⟨_,rfl,n,c⟩
def kP(w:ja):Prop:=w.var? je "chartroom/schedule.labels" =T #[ii ⟨#[105,110,105,116]⟩,ii ⟨#[99,111,109,109,105,116]⟩,ii ⟨#[99,104,105,108,100]⟩]
theorem wh:je.globalNamed "chartroom/schedule.labels" =T 0:=by kernel_rfl
theorem kP.below{w w':ja}(h:kP w)(b:jd w w w'):kP w':=by
 unfold kP World.var? at*;rw[wh]at h⊢;simp only[Option.bind_some]at h⊢;have c:0<w.heap.size:=by
  rcases qt 0 w.heap.size with a|a
  ·exact a
  rw[Array.getElem?_eq_none a]at h
  cases h
 rw[b.block _ c];exact h
theorem kP.c0{w:ja}(h:kP w):w.cell? ⟨0,0,ih⟩=T (ii ⟨#[105,110,105,116]⟩):=by
 have:=qU wh h 0
 simpa using this
theorem kP.c1{w:ja}(h:kP w):w.cell? ⟨0,1,ih⟩=T (ii ⟨#[99,111,109,109,105,116]⟩):=by
 have:=qU wh h 1
 simpa using this
structure fN(w:ja):Prop where
 dig:cF w
 lab:kP w
theorem fN.below{w w':ja}(h:fN w)(a:jd w w w'):fN w':=⟨h.dig.below a,h.lab.below a⟩
def oN(a:ByteArray)(k:LBy):LBy:=eM k a []
def rE(init a:LBy):LBy:=mS ⟨#[101,112,111,99,104]⟩ init (oN ⟨#[99,111,109,109,105,116]⟩ a)
def lK(s:LBy):Nat:=sA s ⟨#[110,111,100,101]⟩
theorem uH(l k):(oN l k).length=32:=m7 _ _ _
theorem uu(l k):(rE l k).length=32:=BL _ _ _
structure Arr(l:LBy)(a:Array jc):Prop where
 eq:a=(l.map v8).toArray
 sz:a.size=32
 one:a.all (·.oneCell')=true
theorem Arr.mk'{l:LBy}(h:l.length=32):∃a,a=(l.map v8).toArray/\Arr l a:=⟨_,rfl,rfl,by rw[jw,jn,h],dB _⟩
theorem IZ(k:LBy)(l:k.length=32)(w:ja)(h:fN w):
 jl je 71 #[I N 1,jg (k.map v8).toArray] w λe w'=>e=jj (jg ((oN ⟨#[99,111,109,109,105,116]⟩ k).map v8).toArray)/\jd w w w':=by
 obtain⟨c,r,s⟩:=Arr.mk' l;obtain⟨f,t,u⟩:=Arr.mk' (uH ⟨#[99,111,109,109,105,116]⟩ k);rw[<-r,<-t];have hk:=O l;have x:=O s;have g:=O u;have C:=O h;have m:=af w (ic c 53);have y:=jk w (ic c 53);have a:=af (w.alloc (ic c 53)) (ic aI 53);have n:=jk (w.alloc (ic c 53)) (ic aI 53);rw[ju]at n;obtain⟨B,o⟩:=J ((w.alloc (ic c 53)).alloc (ic aI 53));obtain⟨b,p⟩:=J w.heap.size;have i:=Z y a;have d:=O (m.trans (a.mono m.size));have j:=O n;rw[<-p]at i j;rw[<-o]at i j d;have D:=O o;have q:=O p;clear m y a n o p;have m:=O (cell_below h.lab.c1 d);have y:jb (0<b+1):=O (by have:=eR h.lab.c1;rw[q];exact Nat.lt_succ_of_lt this);clear r s t u l h
 go_enter func71,ntmps71
 go_upto_region 1 with fail
 rw[<-D,<-q];refine jQ ?_;refine bi (λl=>l.heap[b]?=T (ic c 53 (0,0))/\l.cell? ⟨0,1,ih⟩=T (ii ⟨#[99,111,109,109,105,116]⟩)) (.take 0 (.take 1 (.take 2 (.take 3 (.one 4 (.one 5 .done)))))) ae ae ae L (λ_ _ _ _ h=>h) ⟨i,m⟩ ?_;obtain⟨r,h⟩:=J B.drew;have a:=aP B;rw[<-h]at a⊢;replace d:=ac d a;have n:=Z i a;have o:=Z j a;have p:=O (cell_below m a);clear a h i j m
 (refine az (v:=jg c) rfl ag (λl h=>pM x.sz rfl rfl h.1) ?_;refine G ?_)
 iterate 2 refine aC ?_
 (refine az (v:=?_) rfl ag (λl h=>?_) ?_;rotate_left;(have i:=h.2;go_simp;with_reducible rfl);refine G ?_)
 refine ai rfl (λs h=>?_);go_simp;have i:=oL k hk ⟨#[99,111,109,109,105,116]⟩ [] _ r (wu _) (yr _ L) (C.dig.below d);rw[<-x.eq]at i;have j:((eM k ⟨#[99,111,109,109,105,116]⟩ []).map v8).toArray=f:=g.eq.symm;rw[j]at i;refine i.mono ?_;clear i j;rintro e i ⟨rfl,a⟩;have j:=Z n a;have l:=Z o a;have m:=O (cell_below p a);have t:=ac d a;clear a n o p d;refine h _ _ ⟨j,m⟩ λ_=>?_
 clear h;refine G ?_;refine ai rfl (λs h=>?_);rw[if_pos ag];refine jJ 53 _ _ rfl (b+1) f rfl rfl 53 _ l.out (by rw[g.sz];rfl) (by rw[g.sz];rfl) g.one (h _ _ ⟨(jG _ _ _ _ Y).trans j,(bE (jG _ _ _ _ (p6 y))).trans m⟩ λ_=>?_);clear h;have a:(i.setRow (b+1) f).heap[b+1]?=T (ic f 53 (0,0)):=jA _ _ _ _ _ _ l.out;have d:jd w w (i.setRow (b+1) f):=jC t.out (by rw[q];exact qa _) _;generalize i.setRow (b+1) f=z at a d⊢;have h:=O a;have n:=O d;clear a d;refine G ?_;refine jP ?_
 go_wp2_with fail
 refine jO (j4 rfl _ _ (b+1) 53 _ (0,0) _ rfl h jF rfl (by rw[g.sz];rfl)) rfl ?_;exact⟨rfl,n⟩
theorem DK(init d:LBy)(q:init.length=32)(r:d.length=32)(w:ja)(x:fN w):
 jl je 19 #[jg (init.map v8).toArray,jg (d.map v8).toArray] w λe w'=>e=jj (jg ((rE init d).map v8).toArray)/\jd w w w':=by
 obtain⟨c,y,z⟩:=Arr.mk' q;obtain⟨i,B,C⟩:=Arr.mk' r;obtain⟨A3,U,D⟩:=Arr.mk' (uH ⟨#[99,111,109,109,105,116]⟩ d);obtain⟨j,E,F⟩:=Arr.mk' (uu init d);rw[<-y,<-B,<-E];have V:=O q;have W:=O r;have H:=O z;have K:=O C;have M:=O D;have k:=O F;have P:=O x;obtain⟨Q,b⟩:=J ((((w.alloc (ic c 53)).alloc (ic i 53)).alloc (ic aI 53)));obtain⟨f,h⟩:=J w.heap.size;have a:=jk w (ic c 53);have l:=af w (ic c 53);have g:=jk (w.alloc (ic c 53)) (ic i 53);have n:=af (w.alloc (ic c 53)) (ic i 53);have o:=jk ((w.alloc (ic c 53)).alloc (ic i 53)) (ic aI 53);have p:=af ((w.alloc (ic c 53)).alloc (ic i 53)) (ic aI 53);replace a:=av a n;replace a:=av a p;rw[ju]at g;replace g:=av g p;rw[ju,ju]at o;have s:=((l).trans (n.mono (l).size)).trans (p.mono ((l).trans (n.mono (l).size)).size);rw[<-b]at s;rw[<-b,<-h]at a;rw[<-b,<-h]at g;rw[<-b,<-h]at o;have t:=O a;have u:=O g;have R:=O o;have m:=O s;have X:=O b;have S:=O h;clear s b h a l g n o p;clear y z B C U D E F q r x
 go_enter func19,ntmps19
 go_upto_region 1 with fail
 rw[<-X,<-S];refine jQ ?_;refine bi (λb=>b.heap[f]?=T (ic c 53 (0,0))/\b.heap[f+1]?=T (ic i 53 (0,0))) (.take 0 (.take 1 (.one 2 (.one 3 (.one 4 .done))))) ae ae ae L (λ_ _ _ _ h=>h) ⟨t,u⟩ ?_;obtain⟨x,g⟩:=J Q.drew;have a:=aP Q;rw[<-g]at a⊢;replace m:=ac m a;have o:=Z t a;have p:=Z u a;have q:=Z R a;clear a g t u R
 (refine az (v:=jg c) rfl ag (λb g=>pM H.sz rfl rfl g.1) ?_;refine G ?_)
 (refine az (v:=jg i) rfl ag (λb g=>pM K.sz rfl rfl g.2) ?_;refine G ?_)
 refine ai rfl (λr g=>?_);go_simp;have b:=IZ d W x (P.below m);rw[<-K.eq]at b;rw[<-M.eq]at b;refine b.mono ?_;clear b;rintro e t ⟨rfl,a⟩;have h:=ac m a;have l:=Z o a;have n:=Z p a;have s:=Z q a;clear m o p q;clear a;refine g _ _ ⟨l,n⟩ λ_=>?_
 clear g;refine G ?_;refine ai rfl (λr g=>?_);go_simp;have b:=NH ⟨#[101,112,111,99,104]⟩ L init (oN ⟨#[99,111,109,109,105,116]⟩ d) V (uH _ _) t (P.dig.below h);rw[<-H.eq]at b;rw[<-M.eq]at b;rw[show((mS ⟨#[101,112,111,99,104]⟩ init (oN ⟨#[99,111,109,109,105,116]⟩ d)).map v8).toArray=j from k.eq.symm]at b;refine b.mono ?_;clear b;rintro e b ⟨rfl,a⟩;have q:=ac h a;have m:=Z l a;have o:=Z n a;have p:=Z s a;clear h l n s;clear a;refine g _ _ ⟨m,o⟩ λ_=>?_
 clear g;refine G ?_;refine ai rfl (λr g=>?_);rw[if_pos ag];refine jJ 53 _ _ rfl (f+1+1) j rfl rfl 53 _ p.out (by rw[k.sz];rfl) (by rw[k.sz];rfl) k.one (g _ _ ⟨(jG _ _ _ _ Y).trans m,(jG _ _ _ _ Y).trans o⟩ λ_=>?_);clear g;have a:(b.setRow (f+1+1) j).heap[f+1+1]?=T (ic j 53 (0,0)):=jA _ _ _ _ _ _ p.out;have g:jd w w (b.setRow (f+1+1) j):=jC q.out (by rw[S];omega) _;generalize b.setRow (f+1+1) j=z at a g⊢;have h:=O a;have l:=O g;clear a g;refine G ?_;refine jP ?_
 go_wp2_with fail
 refine jO (j4 rfl _ _ (f+1+1) 53 _ (0,0) _ rfl h jF rfl (by rw[k.sz];rfl)) rfl ?_;exact⟨rfl,l⟩
theorem O7(k:LBy)(c:k.length=32)(w:ja)(i:fN w):
 jl je 43 #[jg (k.map v8).toArray] w λe w'=>e=jj (I N (lK k:Nat))/\jd w w w':=by
 obtain⟨a,j,l⟩:=Arr.mk' c;rw[<-j];have o:=O c;have m:=O l;have p:=O i;obtain⟨q,b⟩:=J ((w.alloc (ic a 53)));obtain⟨r,d⟩:=J w.heap.size;have f:=jk w (ic a 53);have n:=af w (ic a 53);have g:=n;rw[<-b]at g;rw[<-b,<-d]at f;have s:=O f;have h:=O g;have t:=O b;have u:=O d;clear g b d f n;clear j l c i
 go_enter func43,ntmps43
 go_upto_region 1 with fail
 rw[<-t,<-u];refine j5 ?_;refine jU rfl 53 _ rfl r rfl 53 a (0,0) _ s.out jF rfl (by rw[m.sz];rfl) ?_
 go_wp2_with fail
 have b:=DZ k o ⟨#[110,111,100,101]⟩ L q (p.dig.below h);rw[<-m.eq]at b;refine b.mono ?_;clear b;rintro e d ⟨rfl,b⟩;have c:=ac h b;clear b h
 go_wp2_with fail
 go_ret;exact⟨rfl,c⟩
theorem Bc(k:LBy):1<=lK k/\lK k<2305843009213688669:=vZ _ _
def pL(k body:LBy):LBy:=cC (aK ⟨#[99,111,110,102,105,114,109]⟩) (k++body)
theorem oX(k b):(pL k b).length=32:=gs _ _
theorem LV(k body:LBy)(j:k.length=32)(l:body.length=32)(w:ja)(x:fN w):
 jl je 48 #[jg (k.map v8).toArray,jg (body.map v8).toArray] w λe w'=>e=jj (jg ((pL k body).map v8).toArray)/\jd w w w':=by
 obtain⟨d,y,z⟩:=Arr.mk' j;obtain⟨f,B,C⟩:=Arr.mk' l;obtain⟨g,D,E⟩:=Arr.mk' (oX k body);rw[<-y,<-B,<-D];have hk:=O j;have s:=O l;have P:=O z;have Q:=O C;have m:=O E;have F:=O x;obtain⟨H,c⟩:=J ((((w.alloc (ic d 53)).alloc (ic f 23)).alloc (ic aI 23)));obtain⟨b,i⟩:=J w.heap.size;have a:=jk w (ic d 53);have n:=af w (ic d 53);have h:=jk (w.alloc (ic d 53)) (ic f 23);have o:=af (w.alloc (ic d 53)) (ic f 23);have p:=jk ((w.alloc (ic d 53)).alloc (ic f 23)) (ic aI 23);have q:=af ((w.alloc (ic d 53)).alloc (ic f 23)) (ic aI 23);replace a:=av a o;replace a:=av a q;rw[ju]at h;replace h:=av h q;rw[ju,ju]at p;have t:=((n).trans (o.mono (n).size)).trans (q.mono ((n).trans (o.mono (n).size)).size);rw[<-c]at t;rw[<-c,<-i]at a;rw[<-c,<-i]at h;rw[<-c,<-i]at p;have u:=O a;have v:=O h;have K:=O p;have r:=O t;have R:=O c;have M:=O i;clear t c i a n h o p q;clear y z B C D E j l x
 go_enter func48,ntmps48
 go_upto_region 1 with fail
 rw[<-R,<-M];refine jQ ?_;refine bi (λa=>a.heap[b]?=T (ic d 53 (0,0))/\a.heap[b+1]?=T (ic f 23 (0,0))) (.take 0 (.take 1 (.one 2 (.one 3 (.one 4 (.one 5 .done)))))) ae ae ae L (λ_ _ _ _ h=>h) ⟨u,v⟩ ?_;obtain⟨n,c⟩:=J H.drew;have a:=aP H;rw[<-c]at a⊢;replace r:=ac r a;have t:=Z u a;have x:=Z v a;have y:=Z K a;clear a c u v K;iterate 2 refine aC ?_
 refine ai rfl (λq c=>?_);go_simp;have a:=af n (ic #[A (T ⟨b,0,ih⟩) 32 32,A (T ⟨b+1,0,ih⟩) 32 32] 59);have i:=jk n (ic #[A (T ⟨b,0,ih⟩) 32 32,A (T ⟨b+1,0,ih⟩) 32 32] 59);obtain⟨B,u⟩:=J (n.alloc (ic #[A (T ⟨b,0,ih⟩) 32 32,A (T ⟨b+1,0,ih⟩) 32 32] 59));rw[<-u]at a i⊢;obtain⟨C,o⟩:=J n.heap.size;rw[<-o]at i⊢;have S:=O o;clear o;have v:=ac r a;have o:=Z t a;have p:=Z x a;have z:=Z y a;clear r t x y;have x:=O i;clear i u a;refine c _ _ ⟨o,p⟩ λ_=>?_
 clear c;refine G ?_;refine ai rfl (λq c=>?_);go_simp;have r:=si C 2 59 [A (T ⟨b,0,ih⟩) 32 32,A (T ⟨b+1,0,ih⟩) 32 32] [k,body] rfl rfl (by have j:=hk.out;have l:=s.out;simp;omega) B x (λi t=>by
  match i,t with
  |0,_=>exact wL (by have h:=o.out;rw[P.eq]at h;exact h) hk
  |1,_=>exact wL (by have h:=p.out;rw[Q.eq]at h;exact h) s) L
 refine r.mono ?_;clear r;rintro e y ⟨D,rfl,h,a⟩;have i:[k,body].flatten=k++body:=by simp
 rw[i]at h;have E:=O (BytesAt.of_own h);clear h i;have h:=ac v a;have i:=Z o a;have r:=Z p a;have t:=Z z a;clear v o p z;clear a;refine c _ _ ⟨i,r⟩ λ_=>?_
 clear c;refine G ?_;refine ai rfl (λq c=>?_);go_simp;have o:=oG ⟨#[99,111,110,102,105,114,109]⟩ L D (k++body) (by have j:=hk.out;have l:=s.out;simp;omega) y E (F.dig.below h).num (F.dig.below h).start;rw[show((cC (aK ⟨#[99,111,110,102,105,114,109]⟩) (k++body)).map v8).toArray=g from m.eq.symm]at o;refine o.mono ?_;clear o;rintro e o ⟨rfl,a⟩;have K:=ac h a;have p:=Z i a;have u:=Z r a;have v:=Z t a;clear h i r t;clear a;refine c _ _ ⟨p,u⟩ λ_=>?_
 clear c;refine G ?_;refine ai rfl (λq c=>?_);rw[if_pos ag];refine jJ 23 _ _ rfl (b+1+1) g rfl rfl 23 _ v.out (by rw[m.sz];rfl) (by rw[m.sz];rfl) m.one (c _ _ ⟨(jG _ _ _ _ Y).trans p,(jG _ _ _ _ Y).trans u⟩ λ_=>?_);clear c;have a:(o.setRow (b+1+1) g).heap[b+1+1]?=T (ic g 23 (0,0)):=jA _ _ _ _ _ _ v.out;have c:jd w w (o.setRow (b+1+1) g):=jC K.out (by rw[M];omega) _;generalize o.setRow (b+1+1) g=z at a c⊢;have h:=O a;have i:=O c;clear a c;refine G ?_;refine jP ?_
 go_wp2_with fail
 refine jO (j4 rfl _ _ (b+1+1) 23 _ (0,0) _ rfl h qH rfl (by rw[m.sz];rfl)) rfl ?_;exact⟨rfl,i⟩
section
attribute [local go_sem] Oper.semAt_some
section
variable {P:jK} {F:Fence} {nF:Nat}
theorem C3{f:Array jY}{i:List jY}{o:jY}{a:Act}{w:ja}{j:Exit->Act->ja->Prop}(k:o.guard=ih)(b:jr)(x y:oi)(d:o.op=.store b x y)
 (g:Nat) (cells:Array jc) (l:a.eval x=js (T ⟨g,0,ih⟩)) (m:a.eval y=jg cells) (t:jr) (e:Array jc) (n:w.heap[g]?=T (ic e t (0,0))) (p:(P.info? b).map (·.size)=T cells.size)
 (q:e.size=cells.size) (r:cells.all (·.oneCell')=true) (h:wpListIn F nF P f j i (a.put o.dst jL) (w.setRow g cells)):wpListIn F nF P f j (o::i) a w:=by
 refine wpListIn_plain k λv s=>?_
 unfold Oper.wpIn;refine⟨by simp[Oper.about,d],?_⟩;rw[Oper.semAt_plain F _ _ (by rw[d];intro c u;cases u)];simp only[execOp,d,l,m,Instr.storeAt,Instr.sureAddr,Sem.run_bind,Sem.run_pure,Result.andThen_ok,run_storeVar_row w g t b e cells n p q r];exact s _ _ h
end
def AQ(k:LBy):LBy:=eM k ⟨#[112,97,116,104]⟩ []
def bU(k:LBy):Nat->LBy
 |0=>k
 |i+1=>AQ (bU k i)
def fj(k:LBy)(n:Nat):List (LBy):=(List.range n).map (bU k)
theorem en(k:LBy)(h:k.length=32):∀i,(bU k i).length=32
 |0=>h
 |i+1=>by
  rw[bU,AQ];exact m7 _ _ _
theorem zV(k:LBy)(n:Nat):fj k (n+1)=fj k n++[bU k n]:=by unfold fj;rw[List.range_succ,j7];rfl
theorem Dd(k:LBy)(n:Nat):(fj k n).length=n:=by unfold fj;simp
def gP(k:LBy):jc:=jg (k.map v8).toArray
theorem a8.setRow{B0:Nat}{Ψ:Nat->Prop}(a:ja)(g:Nat)(cs:Array jc)(b:Ψ g):a8 B0 Ψ a (a.setRow g cs):=
 ⟨rfl,rfl,rfl,by simp[qb],λk _ hk=>.inl (jG _ _ _ _ (λe=>hk (e▸b)))⟩
theorem a8.setCell{B0:Nat}{Ψ:Nat->Prop}(a:ja)(p:jy)(v:jc)(b:Ψ p.block):a8 B0 Ψ a (a.setCell p v):=
 ⟨rfl,rfl,rfl,by simp[World.setCell],λk _ hk=>.inl (qV _ _ _ _ (λe=>hk (e▸b)))⟩
theorem Iw(c:LBy)(h:c.length=32)(w0:ja)(i:cF w0)(b a:Nat)(j:w0.heap.size<=b)(m:w0.heap.size<=a)(p:b≠a)(w:ja)(e:jd w0 w0 w)
 (f:jH w b 3 (I N (0:Nat))) (g:w.heap[a]?=T (ic (c.map v8).toArray 53 (0,0))):
 dK je 132 #[js (T ⟨b,0,ih⟩),js (T ⟨a,0,ih⟩)] (λx:LBy=>#[gP x]) (λk=>k=b\/k=a) w0.heap.size (λxs=>xs=fj c 10) (λ_=>True) (λd=>d.length<=10/\∀x∈d,x.length=32) w:=by
 intro l Q Jx W d q r s t;have u:jH W b 3 (I N (0:Nat)):=(d.block b f.lt).trans f;have v:=(d.block a (jq.1 g).1).trans g;have Qm:=O (e.trans (d.mono e.size));have HT:=O i;have o:=O h;have R:=O p;have TC:=O j;have ad:=O m;have al:=O u;have au:=O v;clear f g e i h p j m u v d;have B:=O q;have a1:=O r;have S:=O s;have U:=O t;clear q r s t;refine(callsIn_wide (n:=0)).1 ?_;refine callsIn_of_wp func132 rfl trivial ?_ rfl;simp only[ntmps132,jw,jT,km,Nat.reduceAdd,Nat.reduceSub,qW,qX,qY,qZ,lo,oo]
 gi_wp2_with fail
 gi_loopw [4] (λs wr=>W.heap.size<=wr.heap.size/\∃i:Nat,i<=10/\jb (jH wr b 3 (I N (i:Nat)))/\jb (wr.heap[a]?=T (ic ((bU c i).map v8).toArray 53 (0,0)))/\jb (jd w0 w0 wr)/\jb (Q (fj c i) (λk=>k=b\/k=a) wr))
  (λs wr=>(10-jm ((wr.cell? ⟨b,0,ih⟩).getD jL)).toNat)
 case atStart=>
  exact⟨ji _,0,by omega,al,au,Qm,U⟩
 obtain⟨a3,i,hi,f,p,C,q⟩:=hrel;have D:=f.cell;have E:=O D
 by_cases h1:i<10
 ·have hd:=aj ((i:Int)<=9)
  obtain⟨r,d,e⟩:=Arr.mk' (en c o i);obtain⟨s,m,h⟩:=Arr.mk' (en c o (i+1));have t:=S (fj c i) (bU c i) (λk=>k=b\/k=a) wr q (by
   rintro k (rfl|rfl)
   ·exact f.lt
   exact(jq.1 p).1) (by
   rw[<-zV];refine⟨by rw[Dd];omega,λx g=>?_⟩;unfold fj at g;obtain⟨j,-,rfl⟩:=qu.1 g;exact en c o j)
  rw[<-zV]at t;unfold gP at t;rw[<-d]at t;obtain⟨fn,tmps,assign,body,V,j⟩:=t;have u:jb (wr.heap[a]?=T (ic r 53 (0,0))):=O (by rw[d];exact p);have F:=O e;have Tq:=O d;have g:=O h;have H:=O j;clear d e m h j
  gi_wp2_with (refine mB rfl 53 _ rfl a rfl 53 r (0,0) _ u.out jF rfl (by rw[F.sz];rfl) ?_)
  refine⟨rfl,H.mono ?_⟩;rintro e v (⟨rfl,X,h,j⟩|⟨rfl,VW,h,j⟩)
  ·have m:jb (jH v b 3 (I N (i:Nat))):=O ((j b (.inl rfl)).trans f)
   have K:=O ((j a (.inr rfl)).trans u);have M:=O (C.trans h);have y:=O X;have a4:wr.heap.size<=v.heap.size:=h.size;clear D f p C q u H X h j V
   gi_wp2_with (refine mB rfl 53 _ rfl a rfl 53 r (0,0) _ K.out jF rfl (by rw[F.sz];rfl) ?_)
   have d:=oL (bU c i) (en c o i) ⟨#[112,97,116,104]⟩ [] _ v (wu _) (yr _ L) (HT.below M);rw[<-Tq]at d;have z:((eM (bU c i) ⟨#[112,97,116,104]⟩ []).map v8).toArray=s:=g.eq.symm;rw[z]at d;refine⟨trivial,rfl,(callsIn_wide.2 d).mono ?_⟩;clear d z;rintro e z ⟨rfl,d⟩;have WF:jb (jH z b 3 (I N (i:Nat))):=O ((d.block _ m.lt).trans m);have P:=Z K d;have Qt:=ac M d;have aa:=O (B.keep y (a8.ofBelow d (λk hk _=>hk)));have a5:v.heap.size<=z.heap.size:=d.size;clear m K M y d
   gi_wp2_with (refine C3 rfl 53 _ _ rfl a s rfl rfl 53 r P.out (by rw[g.sz];rfl) (by rw[F.sz,g.sz]) g.one ?_;obtain⟨m,d⟩:∃x,x=z.setRow a s:=⟨_,rfl⟩;have ba:=O d;rw[<-d];have M:jb (m.heap[a]?=T (ic s 53 (0,0))):=O (by rw[d];exact jA _ _ _ _ _ _ P.out);have K:jb (jH m b 3 (I N (i:Nat))):=O (by rw[d];exact(jG _ _ _ _ R.out).trans WF);have a2:jb (Q (fj c (i+1)) (λk=>k=b\/k=a) m):=O (by rw[d];exact B.keep aa (a8.setRow _ _ _ (.inr rfl)));have Qy:jb (jd w0 w0 m):=O (by rw[d];exact jC Qt ad _);have k:z.heap.size<=m.heap.size:=(by rw[d];simp[qb]);have bb:=K.cell;have bc:=K.frozen;clear d P WF aa Qt)
   have k:=K.set (I N ((i:Int)+1));have x:=k.cell;refine⟨⟨by rw[World.size_setCell];omega,i+1,by omega,O k,O ?_,O ?_,O ?_⟩,?_⟩
   ·rw[<-g.eq];exact(qV _ _ _ _ (Ne.symm R.out)).trans M
   ·exact Qy.setCell TC.out _
   ·exact B.keep a2 (a8.setCell _ _ _ (.inl rfl))
   rw[x,E];simp only[Option.getD_some,jm];omega
  have y:=O VW;clear D f p C q u H VW h j V E
  gi_wp2
  refine jO (results_none rfl _ _ _) rfl ?_;exact⟨⟨_,rfl⟩,.inr ⟨_,_,trivial,y⟩⟩
 have hd:=ak ((i:Int)<=9);obtain rfl:i=10:=Y;clear S U a1 E
 gi_wp2
 refine bodyPost_end (results_none rfl _ _ _) rfl ?_;exact⟨⟨_,rfl⟩,.inl ⟨_,_,rfl,q⟩⟩
end
section
variable {P:jK}
theorem Hf{α:Type}{g:oi}{q:Array Tmp}{assign body:Code}{u:Exit->Act->ja->Prop}{a:Act}{w:ja}{n:Nat}
 {gf:Nat} {lb:Array jc} (C:a.eval g=.func (.func gf) #[] lb) (E:∀args w,(kn gf args).run P w=.ok (.enter gf args) w)
 {encs:α->Array jc} {y:Nat->Prop} {n₀:Nat} {S z V:List α->Prop} (F:dK P gf lb encs y n₀ S z V w)
 (H:n₀<=w.heap.size) (M:∀x,(encs x).size=q.size) (Q:∀k,y k->k<w.heap.size)
 (f:List α->(Nat->Prop)->ja->Prop) (m:Code->List α->(Nat->Prop)->ja->Prop) (R:bj w.heap.size f) (U:∀c,bj w.heap.size (m c)) (X:f [] y w)
 (o:α->Act->(Nat->Prop)->ja->Prop) (aa:bj w.heap.size (fun(s:α×Act) Ψ W=>o s.1 s.2 Ψ W))
 (ad:∀(l:Nat) (d:List α) (x:α) (Ψ:Nat->Prop) (b:ja) (K:Act->ja->Prop),f d Ψ b->V (d++[x])->(∀k,Ψ k->k<b.heap.size)->
  (∀i e,jd b b e->f d Ψ e->o x i Ψ e->K i e)->
  assign.wpIn (Fence.wide.inRound l) 0 P (Exit.then K (λ_ _ _=>False)) {tmps:=(q.zip (encs x)).foldl (λt (p,v)=>t.setIfInBounds p v) a.tmps,defers:=[]} b)
 (t:∀(l:Nat) (d:List α) (x:α) (Ψ:Nat->Prop) (i:Act) (b:ja),f d Ψ b->o x i Ψ b->V (d++[x])->(∀k,Ψ k->k<b.heap.size)->w.heap.size<=b.heap.size->(∃r,b.heap[l]?=T (.loop r))->
  body.wpIn (Fence.wide.inRound l) 0 P (nI w.heap.size n₀ f m (d++[x]) Ψ b) i b)
 (v:∀(D:Nat) (xs:List α) (Ψ:Nat->Prop) (W:ja),w.heap.size<=D->S xs->f xs Ψ W->W.heap[D]?=T (.deferred (T []))->u .normal {a with defers:={target:=.collected D,args:=#[]}::a.defers} W)
 (al:∀(D:Nat) (c:Code) (d:List α) (Ψ:Nat->Prop) (W:ja),w.heap.size<=D->z d->m c d Ψ W->W.heap[D]?=T (.deferred (T []))->c.wpIn Fence.wide n P u {a with defers:={target:=.collected D,args:=#[]}::a.defers} W):
 (Code.rangeFunc g q assign body).wpIn Fence.wide n P u a w:=by
 refine yw C E F.v H M Q f m R (λ_ _ _ _=>trivial) U X o aa (λl d x Ψ b K p _ j s hk=>ad l d x Ψ b K p j s hk) (λl d x Ψ i b p K j s e h h1 k=>?_) (λD xs Ψ W e=>v D xs Ψ W (ki e.symm)) (λD c d Ψ W e=>al D c d Ψ W (ki e.symm));obtain⟨-,-,j⟩:=j;obtain⟨r,k⟩:=k;exact wpIn_mono (t l d x Ψ i b p K j s Y ⟨r,by rw[h];exact k⟩) λe a B h=>nI.two h1 k h
end
section
attribute [local go_sem] Oper.semAt_some
def fA(l:List (LBy)):List jc:=(l.map λk=>k.map v8).flatten
theorem LS(l:List (LBy))(k:LBy):fA (l++[k])=fA l++k.map v8:=by unfold fA;simp
theorem FS:(je.info? 53).map (λi=>(i.zero,i.size,i.bytes))=T (T (jg aI),32,32):=by kernel_rfl
def zR(f:LBy->Nat->Act)(x:LBy)(a:Act)(Ψ:Nat->Prop)(W:ja):Prop:=∃g,a=f x g/\W.heap[g]?=T (ic (x.map v8).toArray 53 (0,0))/\¬Ψ g
theorem Pk(B0:Nat)(f:LBy->Nat->Act):bj B0 (fun(s:LBy×Act) Ψ W=>zR f s.1 s.2 Ψ W):=by
 rintro s Ψ c l B ⟨g,e,h,d⟩ i m j;have a:¬c g:=λk=>by
  rcases j _ k with b|b
  ·exact d b
  have:=(jq.1 h).1;omega
 exact⟨g,e,i.cells h a,a⟩
theorem zU:∀(xs:List jc) (k:Nat) (cs:Array jc),k+xs.length<=cs.size->((xs.zipIdx k).foldl (λcs x=>cs.setIfInBounds x.2 x.1) cs).toList=cs.toList.take k++xs++cs.toList.drop (k+xs.length)
 |[],k,cs,h=>by simp
 |x::xs,k,cs,h=>by
  rw[jT]at h;have hk:k<cs.toList.length:=by rw[kl];omega
  rw[List.zipIdx_cons,List.foldl_cons,zU xs (k+1) _ (by rw[Array.size_setIfInBounds];omega),Array.toList_setIfInBounds,qQ,qv (ji _),List.getElem?_set_self hk,qw Y,jT];simp only[Option.toList_some,jV,List.singleton_append,oo,lo];rw[show k+1+xs.length=k+(xs.length+1) by omega]
theorem Gy(X a:Array jc)(h:X.size=32)(d:a.size=32):Array.foldl (λcs x=>cs.setIfInBounds x.2 x.1) a X.zipIdx 0 32=X:=by
 have b:X.zipIdx.size=32:=by simp[h]
 have c:Array.foldl (λcs (x:jc×Nat)=>cs.setIfInBounds x.2 x.1) a X.zipIdx 0 32=X.zipIdx.toList.foldl (λcs x=>cs.setIfInBounds x.2 x.1) a:=by
  rw[Array.foldl_toList,b]
 rw[c,Array.toList_zipIdx]
 apply Array.ext'
 rw[zU _ _ _ (by rw[kl];omega)];rw[kl,qo,lo,qx (by rw[kl];omega),jX]
theorem Nb{gf:Nat}{lb:Array jc}(b:∀args w,(kn gf args).run je w=.ok (.enter gf args) w){p:Nat->Prop}{n₀:Nat}{S Sp V:List (LBy)->Prop}{w:ja}
 (c:dK je gf lb (λx:LBy=>#[gP x]) p n₀ S Sp V w) (UF:n₀<=w.heap.size) (H:∀k,p k->k<w.heap.size) (d:∀a,V a->a.length<=100000/\∀x∈a,x.length=32) (f:Nat) (s:f<=w.heap.size) (ad:∀k,p k->f<=k):
 jl je 131 #[A ih 0 0,.func (.func gf) #[] lb] w λe w'=>∃v xs,e=jj v/\S xs/\w'.ownsRow w 53 32 v xs.length (fA xs)/\jd f w w':=by
 have al:=O c;have au:=O b;have z:=O d;clear c b d;refine(callsIn_wide (n:=0)).1 ?_;refine callsIn_of_wp_marks func131 rfl trivial ?_ rfl;simp only[ntmps131,jw,jT,km,Nat.reduceAdd,Nat.reduceSub,qW,qX,qY,qZ,lo,oo]
 gi_wp2_with fail
 obtain⟨d,a⟩:=J (w.alloc (ic #[A ih 0 0] 64));have bN:jH d w.heap.size 64 (A ih 0 0):=by rw[a];exact Boxed.new w _ _
 have M:jd w w d:=by rw[a];exact(jB _ w).alloc (ji _) _
 have bd:w.heap.size+1<=d.heap.size:=by rw[a];simp
 rw[<-a];clear a;have a1:kN w.heap.size 64 w.heap.size 53 32 ([]:List (LBy)).length (fA []) (λ_=>True) p d/\(jd f w d/\∀k,p k->f<=k):=by
  refine⟨⟨_,bN,λh=>by have:=H _ h;omega,jZ _ _ _ _,by simp[qL],trivial⟩,M.mono s,ad⟩
 have P:bj d.heap.size (fun(b:List (LBy)) Ψ W=>kN w.heap.size 64 w.heap.size 53 32 b.length (fA b) (λ_=>True) Ψ W):=oM (β:=List (LBy)) d.heap.size w.heap.size 64 w.heap.size 53 32 (λb=>b.length) (λb=>fA b) (λ_ _=>True);refine Hf (n:=0) (gf:=gf) (lb:=lb) rfl au (al.later M) Y (λ_=>rfl) (λk hk=>by have:=H k hk;omega)
  (λb Ψ W=>kN w.heap.size 64 w.heap.size 53 32 b.length (fA b) (λ_=>True) Ψ W/\(jd f w W/\∀k,Ψ k->f<=k))
  (λ_ _ _ _=>False)
  (P.and (lq _ _ w s Y))
  (λ_=>eZ _ _)
  a1
  (zR (λx g=>{tmps:=#[A ih 0 0,.func (.func gf) #[] lb,js (T ⟨w,0,ih⟩),jL,A ih 0 0,js (T ⟨g,0,ih⟩),.func (.func gf) #[] lb,gP x,jL,jL,jL,jL,jL],defers:=[]})) (Pk _ _)
  ?assign ?body ?done ?stop
 case assign=>
  intro l b x Ψ a K C q D t;have u:=(z _ q).2 x ar;obtain⟨X,c,j⟩:=Arr.mk' u;have i:gP x=jg X:=by unfold gP;rw[c]
  rw[i];have y:=O c;have m:=O j;clear c j i
  gi_wp2_with (refine C3 rfl 53 _ _ rfl a.heap.size X rfl rfl 53 _ (jk a _) (by rw[m.sz];rfl) (by rw[m.sz];rfl) m.one ?_)
  obtain⟨r,o⟩:=J ((a.alloc (ic aI 53)).setRow a.heap.size X);rw[<-o];have E:r.heap[a.heap.size]?=T (ic X 53 (0,0)):=by rw[o];exact jA _ _ _ _ _ _ (jk a _)
  have B:jd a a r:=by rw[o];exact jC (af a _) (ji _) _
  refine t _ _ B ((P.and (lq _ _ w s Y)).keep C (a8.ofBelow B (λk hk _=>hk))) ⟨a.heap.size,?_,by rw[<-y];exact E,λh=>absurd (D _ h) (Nat.lt_irrefl _)⟩;have i:gP x=jg X:=by unfold gP;rw[y]
  simp only[i]
  rfl
 case body=>
  rintro l b x Ψ bf a ⟨⟨v,k,K,r,Q,-⟩,o,R⟩ ⟨g,rfl,B,bg⟩ q VD bh WR;have a2:=(z _ q).1;have u:=(z _ q).2 x ar;rw[jp,q4]at a2;obtain⟨X,c,j⟩:=Arr.mk' u;have i:gP x=jg X:=by unfold gP;rw[c]
  simp only[i];rw[<-c]at B;have y:=O c;have m:=O j;have U:=k.cell;have C:=O o;have bk:=o.size;obtain⟨i0,hi,Qs,a3,a4⟩:=info_parts FS;have R9:=m.sz;have a5:=Gy X aI R9 rfl;clear o q c j i
  gi_wp2_with (first|(refine mB rfl 53 _ rfl g rfl 53 X (0,0) _ B jF rfl (by rw[m.sz];rfl) ?_)|(gi_at_builtin;refine Hid.out ?_))
  refine O ?_;refine wpListIn_append_own_at _ rfl _ _ 64 rfl w.heap.size 53 i0 (jg aI) 32 32 underlying64 hi Qs a3 a4 rfl L v _ _ rfl (r.alloc _) ⟨a,0,ih⟩ 1 1 (x.map v8) rfl (by rw[jn,u]) (Fe x a.heap.size (by rw[<-y];exact jk a _)) (rq _) (by unfold j3;omega) Y (by simp;omega) ?_;intro v' w1 D E ba F;obtain⟨g',bl,rfl⟩:=ownsRow_succ D;obtain⟨c,aa⟩:=oF (B0:=d.heap.size) k L r Y (ji _) K Q VD D E (by intro j hj;rw[hj]at F;rcases F with h|h;exact .inl h.symm;exact .inr (by simpa using h));have j:jH w1 w.heap.size 64 v:=(k.alloc _).kept E (by have:=k.not_row (e:=53) L r;exact this);have bm:=j.cell;have bn:=j.frozen;have bb:=O c;have bc:=O aa;clear c aa D E ba F U a5 R9 B
  gi_wp2_with fail
  obtain⟨v',B,D,E,F,b5⟩:=bc.out;have c:=bb.out;refine⟨⟨c.1,c.2.1.mono UF,c.2.2⟩,⟨v',B,D,?_,F,trivial⟩,C.trans (c.2.1.mono s),R⟩;rw[LS,jp,q4];exact E
 case done=>
  rintro D xs Ψ W c a ⟨⟨v,k,K,r,Q,-⟩,o,R⟩ t;have U:=k.cell;have C:=O o;clear o
  gi_wp2
  refine⟨by simp,.inl ⟨_,_,rfl,run_takeDeferred t,?_⟩⟩;exact⟨_,results_tmp rfl _ _ _,_,xs,rfl,a,ownsRow_putObj r _ t rfl,C.trans (ie Y)⟩
 intro D c b Ψ W _ _ h;exact h.elim
theorem Nu{gf:Nat}{lb:Array jc}(c:∀args w,(kn gf args).run je w=.ok (.enter gf args) w){b:Nat->Prop}{n₀:Nat}{S j V:List (LBy)->Prop}{w:ja}
 (d:dK je gf lb (λx:LBy=>#[gP x]) b n₀ S j V w) (f:n₀<=w.heap.size) (g:∀k,b k->k<w.heap.size) (h:∀a,V a->a.length<=100000/\∀x∈a,x.length=32) (a:Nat) (l:a<=w.heap.size) (i:∀k,b k->a<=k):
 jl je 61 #[.func (.func gf) #[] lb] w λe w'=>∃v xs,e=jj v/\S xs/\w'.ownsRow w 53 32 v xs.length (fA xs)/\jd a w w':=by
 have k:=O (Nb c d f g h a l i);clear c d f g h i
 go_enter func61,ntmps61
 go_wp2_with fail
 refine k.mono ?_;rintro e i ⟨v,xs,rfl,f,c,d⟩;have g:=O c;have h:=O d;clear c d
 go_wp2
 go_ret;exact⟨v,xs,rfl,f,g,h⟩
end
theorem Ht(a:Array jc)(b:a.size=32)(w:ja):
 jl je 62 #[jg a,I N 0] w λe w'=>e=jj (.func (.func 132) #[] #[js (T ⟨w.heap.size+1,0,ih⟩),js (T ⟨w,0,ih⟩)])/\w'=(w.alloc (ic a 53)).alloc (ic #[I N 0] 3):=by
 go_enter func62,ntmps62
 go_wp2
 go_ret;exact⟨rfl,rfl⟩
theorem AA(k:LBy)(d:k.length=32)(w:ja)(j:cF w):
 jl je 15 #[jg (k.map v8).toArray] w λe w'=>∃v,e=jj v/\w'.ownsRow w 53 32 v 10 (fA (fj k 10))/\jd w w w':=by
 obtain⟨b,f,l⟩:=Arr.mk' d;rw[<-f];have s:=O d;have t:=O f;have m:=O l;have u:=O j;have c:=jk w (ic b 53);have g:=af w (ic b 53);obtain⟨a,h⟩:=J (w.alloc (ic b 53));obtain⟨x,i⟩:=J w.heap.size;rw[<-h]at g c;rw[<-i]at c;have y:=O c;have n:=O g;have z:=O h;have B:=O i;clear f l d j c g h i
 go_enter func15,ntmps15
 go_upto_region 1 with fail
 rw[<-z,<-B];refine j5 ?_;refine jU rfl 53 _ rfl x rfl 53 b (0,0) _ y.out jF rfl (by rw[m.sz];rfl) ?_
 go_wp2_with fail
 refine(Ht b m.sz a).mono ?_;rintro e c ⟨rfl,d⟩;have i:c.heap[a.heap.size]?=T (ic (k.map v8).toArray 53 (0,0)):=by
  rw[d,<-t];exact(j9 _ _ _ ar).trans (jk a _)
 have l:jH c (a.heap.size+1) 3 (I N (0:Nat)):=by
  have h:=Boxed.new (a.alloc (ic b 53)) 3 (I N (0:Nat));rw[ju]at h;rw[d];exact h
 have o:jd a a c:=by rw[d];exact((jB _ a).alloc (ji _) _).alloc ar _
 have C:a.heap.size+1<c.heap.size:=by rw[d];simp
 have g:=n.size;have f:=n.trans (o.mono g);have p:=Iw k s w u (a.heap.size+1) a.heap.size Y g Y c f l i;have q:=Nu (λ_ _=>rfl) p (aU f.size) (by rintro j (rfl|rfl)<;>omega) (λr h=>⟨by omega,h.2⟩) w.heap.size (aU f.size) (by rintro j (rfl|rfl)<;>omega);have j:=O q;have r:=O f;clear i l o C g f p q d
 go_wp2_with fail
 refine j.mono ?_;rintro e o ⟨v,xs,rfl,d,f,i⟩;have l:o.ownsRow w 53 32 v 10 (fA (fj k 10)):=by
  have h:=f;rw[d,Dd]at h;refine⟨h.1,?_⟩
  rcases h.2 with p|⟨g,q,C,e,D,E⟩
  ·exact .inl p
  exact .inr ⟨g,q,C,e,jD r.size D,E⟩
 have g:=O l;have h:=O (r.trans i);clear f l i j d
 go_wp2_with fail
 go_ret;exact⟨_,rfl,g,h⟩
def beK(n:Nat):Nat->LBy
 |0=>[]
 |k+1=>beK n k++[j1 8 (n/2^(56-8*k))]
def be8(n:Nat):LBy:=beK n 8
theorem tu(n k:Nat):(beK n k).length=k:=by induction k with
 |zero=>rfl
 |succ k a=>simp[beK,a]
def cK(l:List Nat):LBy:=(l.map be8).flatten
theorem pH(l:List Nat):(cK l).length=8*l.length:=by
 unfold cK
 induction l with
 |nil=>rfl
 |cons a l b=>
  have h:(be8 a).length=8:=tu a 8;rw[mz,q5,jp,b,jT,h];omega
theorem sS(l:List Nat)(a:Nat):cK (l++[a])=cK l++be8 a:=by unfold cK;simp
def mg(a:LBy)(msg:LBy)(nums:List Nat):Nat:=mO a (cK nums++msg)
theorem yo(s:ByteArray)(d:s.size<=1000)(msg:LBy)(vm:jc)(f:msg.length<=100000)(nums:List Nat)(E:jc)(F:nums.length<=1000)(g:∀x∈nums,x<9223372036854775808)(w:ja)(t:BytesAt w vm msg)(hn:cH w E (nums.map Int.ofNat))(h:cF w):
 jl je 85 #[ii s,vm,E] w λe w'=>e=jj (I N (mg (aK s) msg nums:Nat))/\jd w w w':=by
 obtain⟨p,c,rfl,H,a⟩:=hn;rw[jn]at H a⊢;obtain⟨n,l⟩:=J nums.length;rw[<-l]at H F a⊢;have q:=O l;have K:=O a;have aa:=O g;have M:=O t;have UN:=O f;obtain⟨P,Q,rfl,TR,-,-⟩:=t;have ad:=O d;have R:=O h;obtain⟨S,b⟩:=J msg.length;rw[<-b]at M TR⊢;have a1:=O b;clear l a g f d h b
 go_enter func85,ntmps85
 go_wp2_with fail
 go_loopw [7,10,13] (λj b a wr=>∃(i:Nat) (u:jc),j=u/\a=I N i/\i<=n/\jb (wr.ownsRow w 5 1 u (8*i) ((cK (nums.take i)).map v8))/\jb (jd w w wr)) (λ_ _ a _=>n-(jm a).toNat)
 case atStart=>exact⟨0,_,rfl,rfl,jR _,O (jZ _ _ _ _),O (jB _ _)⟩
 obtain⟨i,u,rfl,rfl,hi,U,f⟩:=hrel
 by_cases V:i<n
 ·have hd:=aj ((i:Int)<(n:Int))
  have Q3:=aj (i<n);obtain⟨g,o,rfl,k⟩:=K Y;have a:i<nums.length:=by rw[<-q];exact V
  have m:(nums.map Int.ofNat).getD i 0=((nums[i]:Nat):Int):=by simp[jt,a]
  obtain⟨y,d⟩:=J (nums[i]);have a2:y<9223372036854775808:=by rw[d];exact aa _ (qy a)
  have h:=k i V;rw[m,<-d]at h;have c1:wr.cell? ⟨g,o+i,ih⟩=T (I N (y:Nat)):=(bE (f.block g (eR h))).trans h;have Ut:jb (cK (nums.take (i+1))=cK (nums.take i)++be8 y):=O (by
   rw[kw a,sS,d])
  have v:=f.size;have a3:(0:Int)<=(y:Int):=Y;have a4:qc.wrap (y:Int)=(y:Int):=by rw[qd];omega
  clear m d h k a K
  go_wp2_with fail
  go_loopw [7,10] (λj b d=>∃(k:Nat) (x:jc) (a:Int),j=x/\b=I N a/\ -8<=a/\a<=56/\jb (a=56-8*(k:Int))/\jb (d.ownsRow w 5 1 x (8*i+k) ((cK (nums.take i)++beK y k).map v8))/\jb (jd w w d)) (λ_ b _=>(jm b+8).toNat)
  case atStart=>exact⟨0,_,_,rfl,rfl,by omega,by omega,O rfl,O (by rw[beK,jX];exact U),f⟩
  obtain⟨k,x,a,rfl,rfl,a5,ba,r,z,B⟩:=hrel
  by_cases W:0<=a
  ·obtain⟨m,rfl⟩:=ob W
   have al:decide ((0:Int)<=(m:Int))=true:=by simp
   have t:m<=56:=Y;have C:k<8:=aw r;have d:beK y (k+1)=beK y k++[j1 8 (y/2^m)]:=by rw[beK,show 56-8*k=m by have:=r.out;omega]
   obtain⟨b,h⟩:=J (j1 8 (y/2^m));rw[<-h]at d;have bb:jh.wrap ((y:Int)/2^m)=(b.toNat:Int):=by
    rw[h,qe,qf];have e:(y:Int)/2^m=((y/2^m:Nat):Int):=by simp
    rw[e];omega
   have au:=O d;have D:=B.size;have bc:decide ((m:Int)<0)=false:=by simp
   clear h d W
   go_wp2_with (at_builtin;refine Hid.out ?_)
   refine O ?_;refine jz rfl λ_ h=>mJ _ _ rfl w.heap.size _ _ _ rfl (de z (af wr _)) _ 1 [I .u8 b.toNat] rfl (oy wr (I .u8 b.toNat)) (by simp[jS]) Y (jD D (af wr _).size) λX w5 d=>h _ _ ?_
   have j:=O (B.trans (((af wr _).mono D).trans (d.below (de z (af wr _)) (jD D (af wr _).size))));have TI:=O d.own;clear h d
   go_wp2_with fail
   refine⟨⟨k+1,_,_,rfl,rfl,by omega,by omega,O (aw r),?_,j⟩,?_⟩
   ·exact O (by rw[au,<-jV,j7];exact TI)
   simp only[jm];omega
  have al:=ak ((0:Int)<=a);have C:k=8:=aw r;have b:=z.out;rw[C]at b;have m:=O b;clear b C
  go_wp2_with fail
  refine⟨⟨i+1,_,rfl,by go_num,by omega,O ?_,B⟩,?_⟩
  ·rw[Ut];exact m
  simp only[jm];omega
 have hd:=ak ((i:Int)<(n:Int));have Q3:=ak (i<n);have a:i=n:=Y;have b:=U.out;rw[a,jI (by rw[<-q];exact ji _)]at b;have m:=O b;have v:=f.size;have g:BytesAt wr (A P S Q) msg:=M.below f;have r:=O g.row;clear b a g
 go_wp2_with (at_builtin;refine Hid.out ?_)
 refine O ?_;have x:=pH nums;have l:nums.length<=1000:=by rw[<-q];exact F
 have y:=UN.out;refine jz rfl λ_ h=>mJ _ _ rfl w.heap.size _ _ _ rfl m (A P S Q) msg.length (msg.map v8) rfl r (rq _) Y v λX w5 d=>h _ _ ?_
 have j:=O (f.trans ((d.below m v)));have a:=d.own;rw[<-j7]at a;have b:8*n+msg.length=(cK nums++msg).length:=by rw[jp,x,<-q]
 rw[b]at a;have g:=BytesAt.of_own a;have k:=ES s (aw ad) X _ (by rw[jp];omega) w5 g (R.below j).num (R.below j).start;have o:=O k;clear h d a b g k
 go_wp2_with fail
 refine o.mono ?_;rintro e d ⟨rfl,a⟩;have b:=ac j a;clear a o
 go_wp2_with fail
 go_ret;exact⟨rfl,b⟩
theorem eQ{P:jK}{fn:Func}{p b:Tmp}{a:jr}(h:fn.results= #[.cell p a,.tmp b])(tmps:Array jc)(w:ja)(g:Nat)(t:jr)(cs:Array jc)(fr:Nat×Nat)(d:TypeDesc)
 (c:tmps.getD p jL=js (T ⟨g,0,ih⟩)) (e:w.heap[g]?=T (ic cs t fr))
 (f:P.underlying a=T d) (i:(match d with| .struct _ | .array _ _=>true|_=>false)=true) (j:(P.info? a).map (·.size)=T cs.size):
 (results fn tmps).run P w=.ok (jM #[jg cs,tmps.getD b jL]) w:=by
 rw[results_cell_tmp h,c];simp[asAddr,run_loadVar_row w g t a cs fr d e f i j]
def iu(x:Int):Prop:=1<=x/\x<2305843009213688669
instance(x:Int):Decidable (iu x):=by unfold iu;infer_instance
theorem tp(a k:Nat):aG a k<4611686018427377339:=by
 have h:aG a k<PN:=qz _ (by rw[ei];decide)
 rwa [ei]at h
theorem wS(x:Int)(w:ja):
 jl je 99 #[I N x] w λe w'=>e=jj (.bool (decide (iu x)))/\w=w':=by
 obtain⟨r,a⟩:=J (decide (iu x));rw[<-a]
 by_cases b:1<=x
 ·have c:=aj (1<=x)
  obtain rfl:r=decide (x<2305843009213688669):=by rw[a];simp[iu,b]
  clear a
  go_enter func99,ntmps99
  go_wp2
  go_ret;exact⟨rfl,rfl⟩
 have c:=ak (1<=x);obtain rfl:r=false:=by rw[a];simp[iu,b]
 clear a
 go_enter func99,ntmps99
 go_wp2
 go_ret;exact⟨rfl,rfl⟩
theorem D8(x:Nat)(f:1<=x)(b:x<2305843009213688669)(w:ja):
 jl je 100 #[I N x] w λe w'=>e=jj (I N (aG 4 x:Nat))/\jd w w w':=by
 have c:=O (tD x b)
 go_enter func100,ntmps100
 go_wp2_with fail
 refine(c _).mono ?_;rintro e g ⟨rfl,a⟩;have d:=O a;clear a
 go_wp2_with fail
 go_ret;exact⟨rfl,d⟩
theorem sP(x:Nat)(c:1<=x)(d:x<2305843009213688669)(w:ja):
 jl je 41 #[I N x] w λe w'=>e=jj (jM #[I N (aG 4 x:Nat),I N 0])/\jd w w w':=by
 have a:=O (wS (x:Int));have b:iu (x:Int):=⟨by omega,by omega⟩;rw[decide_eq_true b]at a;have f:=O (D8 x c d);clear b
 go_enter func41,ntmps41
 go_wp2_with fail
 refine(a _).mono ?_;rintro e h ⟨rfl,rfl⟩
 go_wp2_with fail
 refine(f _).mono ?_;rintro e i ⟨rfl,b⟩;have g:=O b;clear b
 go_wp2_with fail
 go_ret2;exact⟨rfl,g⟩
theorem FN(x:Int)(h:¬iu x)(w:ja):
 jl je 41 #[I N x] w λe w'=>e=jj (jM #[I N 0,I N 50])/\w=w':=by
 have a:=O (wS x);rw[decide_eq_false h]at a;clear h
 go_enter func41,ntmps41
 go_wp2_with fail
 refine(a _).mono ?_;rintro e b ⟨rfl,rfl⟩
 go_wp2_with fail
 go_ret2;exact⟨rfl,rfl⟩
def rQ(x:Nat)(msg:LBy):Nat:=mg (aK ⟨#[110,111,110,99,101]⟩) msg [x]
def kJ(x:Nat)(msg:LBy):Nat:=aG 4 (rQ x msg)
def pZ(r p:Nat)(msg:LBy):Nat:=mg (aK ⟨#[115,105,103,110]⟩) msg [r,p]
def k8(x:Nat)(msg:LBy):Nat:=(rQ x msg+pZ (kJ x msg) (aG 4 x) msg*x%QN)%QN
theorem tW(t m l):mg t m l<2305843009213688669:=(vZ _ _).2
theorem Of(x:Nat)(Q:1<=x)(R:x<2305843009213688669)(msg:LBy)(vm:jc)(u:msg.length<=100000)(w:ja)(S:BytesAt w vm msg)(y:cF w):
 jl je 51 #[I N x,vm] w λe w'=>e=jj (jM #[jg #[I N (kJ x msg:Nat),I N (k8 x msg:Nat)],I N 0])/\jd w w w':=by
 obtain⟨b,a⟩:=J (kJ x msg);obtain⟨g,c⟩:=J (rQ x msg);obtain⟨r,h⟩:=J (pZ b (aG 4 x) msg);obtain⟨k,j⟩:=J (r*x%QN);have o:k8 x msg=(g+k)%QN:=by rw[j,h,a,c];rfl
 have U:jb (g<2305843009213688669):=O (by rw[c];exact tW _ _ _);have ad:jb (r<2305843009213688669):=O (by rw[h];exact tW _ _ _);have Ug:jb (k<2305843009213688669):=O (by rw[j];exact qz _ L);have UL:jb (b<4611686018427377339):=O (by rw[a];exact tp _ _);have al:jb (mg (aK ⟨#[115,105,103,110]⟩) msg [b,aG 4 x]=r):=O h.symm;have au:jb (mg (aK ⟨#[110,111,110,99,101]⟩) msg [x]=g):=O c.symm;have a1:jb (r*x%QN=k):=O j.symm;have a2:jb (aG 4 g=b):=O (by rw[c,a];rfl);rw[o,<-a];have a3:=O R;have Sb:=O Q;have D:=O S;have V:=O u;have W:=O y;obtain⟨X,cm,rfl,TR,-,-⟩:=S;obtain⟨ml,m⟩:=J msg.length;rw[<-m]at D TR⊢;have a5:=O m;have n:=wS (x:Int);have z:iu (x:Int):=⟨by omega,by omega⟩;rw[decide_eq_true z]at n;have HV:=O n;have EG:∀args w,(kn 99 args).run je w=.ok (.enter 99 args) w:=λ_ _=>rfl
 have ba:∀args w,(kn 100 args).run je w=.ok (.enter 100 args) w:=λ_ _=>rfl
 have l:=jk w (ic #[I N 0,I N 0] 35);have q:=af w (ic #[I N 0,I N 0] 35);obtain⟨p,s⟩:=J (w.alloc (ic #[I N 0,I N 0] 35));obtain⟨d,t⟩:=J w.heap.size;rw[<-s]at l q;rw[<-t]at l;have C:=O l;have f:=O q;have Rc:=O s;have B:=O t;clear a c h j o u y m n z l q s t
 go_enter func51,ntmps51
 go_wp2_with fail
 rw[<-Rc,<-B];refine(HV _).mono ?_;rintro e w1 ⟨rfl,rfl⟩
 go_wp2_with fail
 have l:=yo ⟨#[110,111,110,99,101]⟩ L msg (A X ml cm) V [x] _ ar (by
  intro z s;simp only[lv,nn,or_false]at s;rw[s];omega) (p.alloc (ic #[I N (x:Nat)] 3)) ((D.below f).below (af p _)) (mm p (x:Nat)) ((W.below f).below (af p _))
 rw[au]at l;refine l.mono ?_;clear l;rintro e w2 ⟨rfl,a⟩;replace a:=(af p (ic #[I N (x:Nat)] 3)).trans (a.mono (af p _).size);have t:=Z C a;have m:=ac f a;clear a C f
 go_wp2_with fail
 refine(tD g U w2).mono ?_;rintro e w3 ⟨rfl,a⟩;rw[a2];have u:=Z t a;have C:=ac m a;clear a t m;obtain⟨⟨u3,E⟩,F,n,j⟩:=bH (i:=0) (I N (b:Nat)) u L;obtain⟨H,c⟩:=J (w3.setCell ⟨d,0,ih⟩ (I N (b:Nat)));have a4:=O c;rw[<-c]at n j;have q:jb (H.heap[d]?=T (ic #[I N (b:Nat),I N 0] 35 (0,0))):=O n;have y:=O (C.trans (j.below (by rw[B];exact ji _)));have Z8:=O j;have K:=cell_of (i:=0) q rfl;clear n c j u
 go_upto_region 7 with fail
 rw[<-a4];clear E F;refine jQ ?_;refine bi (λc=>c.cell? ⟨d,0,ih⟩=T (I N (b:Nat))) (.take 0 (.take 1 (.take 2 (.take 3 (.take 7 (.one 4 (.one 5 (.one 6 (.one 8 (.take 9 (.take 10 (.take 11 (.take 12 (.take 13 .done)))))))))))))) ae ae ae L (λ_ _ _ _ h=>h) K ?_;obtain⟨y0,h⟩:=J H.drew;have a:=aP H;rw[<-h]at a⊢;have P:=O (cell_below K a);have QL:=Z q a;have f:=ac y a;clear a h K q y;iterate 2 refine aC ?_
 (refine az (v:=?_) rfl ag (λc h=>?_) ?_;rotate_left;(have h:=h;go_simp;with_reducible rfl);refine G ?_)
 iterate 2 refine aC ?_
 refine ai rfl (λK c=>?_);go_simp;refine(D8 x Q R y0).mono ?_;rintro e h ⟨rfl,a⟩;have M:=O (cell_below P a);have QG:=Z QL a;have Qj:=ac f a;clear a P QL f;refine c _ _ M.out λ_=>?_
 clear c;refine G ?_;refine ai rfl (λK c=>?_);go_simp;have a:=af h (ic #[I N (b:Nat),I N (aG 4 x:Nat)] 3);have f:=kB h (b:Nat) (aG 4 x:Nat);obtain⟨y2,Zq⟩:=J (h.alloc (ic #[I N (b:Nat),I N (aG 4 x:Nat)] 3));obtain⟨gi,Ye⟩:=J h.heap.size;rw[<-Zq]at a f⊢;rw[<-Ye]at f⊢;have P:=O (cell_below M a);have t:=Z QG a;have m:=ac Qj a;have aa:=O f;clear a M QG Qj Zq Ye f;refine c _ _ P.out λ_=>?_
 clear c;refine G ?_;refine ai rfl (λK c=>?_);go_simp;have l:=yo ⟨#[115,105,103,110]⟩ L msg (A X ml cm) V [b,aG 4 x] _ ar (by
  intro z s;simp only[lv,nn,or_false]at s
  rcases s with rfl|rfl
  ·have:=UL.out;omega
  have:=tp 4 x;omega) y2 (D.below m) aa (W.below m)
 rw[al]at l;refine l.mono ?_;clear l;rintro e M ⟨rfl,a⟩;have f:=O (cell_below P a);have u:=Z t a;have C:=ac m a;clear a P t m aa;refine c _ _ f.out λ_=>?_
 clear c;refine G ?_;refine ai rfl (λK c=>?_);go_simp;have l:=FL r x M ad a3;rw[a1]at l;refine l.mono ?_;clear l;rintro e t ⟨rfl,a⟩;have m:=O (cell_below f a);have q:=Z u a;have y:=ac C a;clear a f u C;refine c _ _ m.out λ_=>?_
 clear c;refine G ?_;iterate 5 refine aC ?_
 refine jP ?_
 go_wp2_with fail
 have l:=Hb (g:Nat) (k:Nat) t ⟨by omega,by have:=U.out;omega⟩ ⟨by omega,by have:=Ug.out;omega⟩;rw[show((g:Int)+(k:Int))%2305843009213688669=(((g+k)%QN:Nat):Int)from by unfold QN;omega]at l;obtain⟨f,o⟩:=J ((g+k)%QN);rw[<-o]at l;refine l.mono ?_;clear l;rintro e u ⟨rfl,a⟩;have s:=Z q a;have K:=ac y a;have P:=O o;clear a q y m o;obtain⟨⟨u3,E⟩,F,n,j⟩:=bH (i:=1) (I N (f:Nat)) s ar;obtain⟨a,l⟩:=J (u.setCell ⟨d,1,ih⟩ (I N (f:Nat)));have o:=O l;rw[<-l]at n j;have m:jb (a.heap[d]?=T (ic #[I N (b:Nat),I N (f:Nat)] 35 (0,0))):=O n;have q:=O (K.trans (j.below (by rw[B];exact ji _)));clear n l j s
 go_upto_region 9 with fail
 rw[<-o];clear E F;refine j5 ?_;refine jU rfl 35 _ rfl d rfl 35 #[I N (b:Nat),I N (f:Nat)] (0,0) _ m.out underlying35 rfl rfl ?_;refine jz rfl λ_ j=>?_
 go_simp;refine j _ _ ?_;clear j;refine jz rfl λ_ c=>jJ 35 _ _ rfl d #[I N (b:Nat),I N (f:Nat)] rfl rfl 35 _ m.out rfl rfl (by simp[jS]) (c _ _ ?_)
 have j:(a.setRow d #[I N (b:Nat),I N (f:Nat)]).heap[d]?=T (ic #[I N (b:Nat),I N (f:Nat)] 35 (0,0)):=jA _ _ _ _ _ _ m.out;have l:jd w w (a.setRow d #[I N (b:Nat),I N (f:Nat)]):=jC q.out (by rw[B];exact ji _) _;generalize a.setRow d #[I N (b:Nat),I N (f:Nat)]=z at j l⊢;have n:=O j;have s:=O l;clear j l c
 go_wp2_with fail
 refine bodyPost_ret_by (eQ rfl _ _ d 35 #[I N (b:Nat),I N (f:Nat)] (0,0) _ rfl n underlying35 rfl rfl) rfl ⟨by rw[P];rfl,s⟩
section
open Go Go.RowKit
theorem mapM_some{α β:Type}{f:α->Option β}{g:α->β}:∀(l:List α),(∀i∈l,f i=T (g i))->l.mapM f=T (l.map g)
 |[],_=>by simp
 |a::l,h=>by
  rw[List.mapM_cons,h a ar,mapM_some l (λi b=>h i (by simp[b]))]
  rfl
theorem Fy{P:jK}{t e:jr}{n:Nat}{k:IntKind}(f:P.underlying t=T (.array n e))(he:P.underlying e=T (.int k))(h:P.cellsOf t=n)(j:P.cellsOf e=1)(cs:List Int)(d:cs.length=n)(m:∀c∈cs,(Lit.int k c).wf=true):
 P.keyLits 2 t (cs.map (jf k))=T (cs.map (Lit.int k)):=by
 have c:∀i∈List.range n,P.keyLits 1 e (((cs.map (jf k)).drop (i*1)).take 1)=T [Lit.int k (cs.getD i 0)]:=λi b=>by
  have a:i<cs.length:=by rw[d];exact List.mem_range.1 b
  have l:((cs.map (jf k)).drop (i*1)).take 1=[jf k cs[i]]:=by
   rw[Nat.mul_one,<-List.map_drop,<-List.map_take,List.drop_eq_getElem_cons a,qm,qo,mz,ms]
  have o:cs.getD i 0=cs[i]:=by simp[jt,a]
  rw[l,o];unfold Program.keyLits;rw[he];simp[m _ (qy a)]
 unfold Program.keyLits;rw[f];simp only[jn,d,h,j,if_true];rw[mapM_some (g:=λi=>[Lit.int k (cs.getD i 0)]) _ c];simp only[q6,Option.some.injEq];have o:∀(l:List Nat),(l.map λi=>[Lit.int k (cs.getD i 0)]).flatten=l.map λi=>Lit.int k (cs.getD i 0):=λl=>by
  induction l with
  |nil=>rfl
  |cons a l p=>rw[mz,q5,p];rfl
 rw[o]
 apply List.ext_getElem?
 intro i;rw[j8,j8]
 by_cases b:i<n
 ·rw[List.getElem?_range b,jW Y]
  have:i<cs.length:=Y;simp[jt,this]
 rw[q8 (by simp;omega),q8 Y]
 rfl
theorem yF{P:jK}{t e:jr}{n:Nat}{k:IntKind}(f:P.underlying t=T (.array n e))(he:P.underlying e=T (.int k))(g:P.cellsOf t=n)(i:P.cellsOf e=1)(hk:P.keyTypeAt 2 t=true)(xs d:List Int)(j:xs.length=n)(m:d.length=n)
 (p:∀c∈xs,(Lit.int k c).wf=true) (q:∀c∈d,(Lit.int k c).wf=true) (w:ja):
 (Op.equalIn 10000 t (.agg (xs.map (jf k)).toArray) (.agg (d.map (jf k)).toArray)).run P w=.ok (decide (xs=d)) w:=by
 have o:∀l:List Int,l.length=n->(qA (l.map (jf k)).toArray).formed P t=true:=λl s=>by
  unfold Value.formed;rw[f];simp[g,s]
 obtain⟨r,u,c⟩:=run_equalIn_deep 9998 2 t hk w 2 2 (.agg (xs.map (jf k)).toArray) (.agg (d.map (jf k)).toArray) _ _ (o xs j) (o d m) (by show P.keyLits 2 t (xs.map (jf k)).toArray.toList=_;rw[q9];exact Fy f he g i xs j p) (by show P.keyLits 2 t (d.map (jf k)).toArray.toList=_;rw[q9];exact Fy f he g i d m q);rw[u]
 congr 1
 have v:xs.map (Lit.int k)=d.map (Lit.int k)↔xs=d:=by
  constructor
  ·intro h
   exact(List.map_inj_right (λa b h=>by injection h)).1 h
  intro h;rw[h]
 rw[v]at c
 by_cases h:xs=d
 ·rw[c.2 h];simp[h]
 have:r=false:=by cases r with
  |false=>rfl
  |true=>exact absurd (c.1 rfl) h
 rw[this];simp[h]
end
def kH(p r s:Int)(msg:LBy):Prop:=aM p/\aM r/\InQ s/\aG 4 s.toNat=r.toNat*aG p.toNat (pZ r.toNat p.toNat msg)%PN
theorem Oc(a b:Nat):(((a:Int)==(b:Int))=true↔a=b):=by rw[beq_iff_eq];omega
theorem Dp(n:Int):bS n=0\/bS n=40:=by
 by_cases h:aM n
 ·exact .inl (fw h)
 exact .inr (iw h)
theorem Kn(n:Int):iQ n=0\/iQ n=1:=by unfold iQ;split<;>simp
theorem eq3(a b c:Int)(f:a=0\/a=40)(g:b=0\/b=40)(i:c=0\/c=1)(z:ja):
 (Op.equalIn 10000 147 (jg #[I N a,I N b,I N c]) (jg #[I N 0,I N 0,I N 0])).run je z=.ok (decide (a=0/\b=0/\c=0)) z:=by
 have h:=yF (P:=je) (t:=147) (e:=41) (n:=3) (k:=.i64) qJ underlying41 ae ae ae [a,b,c] [0,0,0] rfl rfl (by
  intro x d;simp only[lv,nn,or_false]at d;exact WalkArith.wf_i64 Y) L z
 simpa using h
theorem EA{p r s:Int}{msg:LBy}{a kb b:Int}(c:a=bS p)(d:kb=bS r)(f:b=iQ s):(a=0/\kb=0/\b=0)↔(aM p/\aM r/\InQ s):=by
 have e:∀n,bS n=0↔aM n:=λn=>⟨λh=>by
  by_cases g:aM n
  ·exact g
  rw[iw g]at h;exact absurd h L,fw⟩
 have q:iQ s=0↔InQ s:=by unfold iQ;split<;>simp_all
 rw[c,d,f,e,e,q]
theorem NA{P:jK}{b:Array jY}{c:Exit->Act->ja->Prop}{S:ja->Prop}{t:Sch}{a:Act}{w:ja}(r:Sch){d:Nat->Act}{e:Nat->ja->Prop}(f:∀x w,e x w->dM P b c S r (d x) w)(h:(∀x w,e x w->dM P b c S r (d x) w)->dM P b c S t a w):dM P b c S t a w:=h f
theorem Kq(p r t:Int)(msg:LBy)(vm:jc)(k:msg.length<=100000)(w:ja)(hm:BytesAt w vm msg)(l:cF w):
 jl je 28 #[I N p,vm,jg #[I N r,I N t]] w λe w'=>∃b,e=jj (.bool b)/\jb (b=true↔kH p r t msg)/\jd w w w':=by
 obtain⟨m,a⟩:=J (bS p);obtain⟨kb,c⟩:=J (bS r);obtain⟨n,f⟩:=J (iQ t);have KA:=fs p;have KB:=fs r;have X:=KH t;rw[<-a]at KA;rw[<-c]at KB;rw[<-f]at X;have aa:=O a;have YW:=O c;have ad:=O f;have HM:=O hm;have UN:=O k;have HT:=O l;obtain⟨pm,cm,rfl,TR,-,-⟩:=hm;obtain⟨ml,o⟩:=J msg.length;rw[<-o]at HM TR⊢;have d:=jk w (ic #[I N r,I N t] 35);have g:=af w (ic #[I N r,I N t] 35);obtain⟨W1,h⟩:=J (w.alloc (ic #[I N r,I N t] 35));obtain⟨F,u⟩:=J w.heap.size;rw[<-h]at d g;rw[<-u]at d;have j:=O d;have Qm:=O g;have Rc:=O h;have HG:=O u;clear a c f k l o d g h u
 go_enter func28,ntmps28
 have al:=O (eq3 m kb n (by rw[aa];exact Dp p) (by rw[YW];exact Dp r) (by rw[ad];exact Kn t))
 go_upto_region 1 with fail
 rw[<-Rc,<-HG];refine jQ ?_;refine bi (λf=>f.heap[F]?=T (ic #[I N r,I N t] 35 (0,0))) (.take 0 (.take 2 (.take 3 (.take 5 (.take 6 (.two 1 9 (.two 4 9 (.two 7 9 (.take 8 (.one 9 (.one 10 .done))) (.one 7 (.take 8 (.one 10 .done)))) (.one 4 (.one 7 (.take 8 (.one 10 .done))))) (.one 1 (.one 4 (.one 7 (.take 8 (.one 10 .done))))))))))) ae ae ae L (λ_ _ _ _ h=>h) j ?_;obtain⟨W,c⟩:=J W1.drew;have a:=aP W1;rw[<-c]at a⊢;have QB:=Z j a;have Qm:=ac Qm a;clear a c j;iterate 2 refine aC ?_
 (refine az (v:=?_) rfl ag (λf c=>?_) ?_;rotate_left;(have c0:=cell_of (i:=0) c rfl;have c1:=cell_of (i:=1) c rfl;go_simp;with_reducible rfl);refine G ?_)
 refine aC ?_
 (refine az (v:=?_) rfl ag (λf c=>?_) ?_;rotate_left;(have c0:=cell_of (i:=0) c rfl;have c1:=cell_of (i:=1) c rfl;go_simp;with_reducible rfl);refine G ?_)
 apply NA (.one 10 .done)
 rotate_left
 ·intro S
  refine gB ?_ ?_
  ·refine ai rfl (λl c=>?_)
   go_simp;refine(KA W).mono ?_;rintro e P ⟨rfl,a⟩;have U:=ac Qm a;have H:=Z QB a;clear a;refine c _ _ H.out λ_=>?_
   clear c;refine G ?_;refine gB ?_ ?_
   ·refine ai rfl (λl c=>?_)
    go_simp;refine(KB P).mono ?_;rintro e x ⟨rfl,a⟩;have y:=ac U a;have j:=Z H a;clear U H;clear a;refine c _ _ j.out λ_=>?_
    clear c;refine G ?_;refine gB ?_ ?_
    ·refine ai rfl (λl c=>?_)
     go_simp;refine(X x).mono ?_;rintro e o ⟨rfl,a⟩;have q:=ac y a;have f:=Z j a;clear y j;clear a;refine c _ _ f.out λ_=>?_
     clear c;refine G ?_;refine aC ?_;refine ai rfl (λl c=>?_);go_simp;have a:=af o (ic #[I N 0,I N 0,I N 0] 147);have d:=jk o (ic #[I N 0,I N 0,I N 0] 147);obtain⟨s,z⟩:=J (o.alloc (ic #[I N 0,I N 0,I N 0] 147));have B:F<o.heap.size:=(jq.1 f).1;have C:w.heap.size<=o.heap.size:=q.size;rw[<-z]at a d⊢;obtain⟨D,g⟩:=J o.heap.size;rw[<-g]at d⊢;have E:=O g;clear g;have Q:=ac q a;have k:=Z f a;clear q f;have K:=O d;have M:jb (F<D):=O (by rw[E];exact B);have R:jb (w.heap.size<=D):=O (by rw[E];exact C);clear B C;clear d z a;refine c _ _ k.out λ_=>?_
     clear c;refine G ?_;have u:=(And.intro Q (And.intro k (And.intro K (And.intro M R))));exact S D s u
    refine ai rfl (λl c=>?_);go_simp;have a:=af x (ic #[I N 0,I N 0,I N 0] 147);have d:=jk x (ic #[I N 0,I N 0,I N 0] 147);obtain⟨o,z⟩:=J (x.alloc (ic #[I N 0,I N 0,I N 0] 147));have B:F<x.heap.size:=(jq.1 j).1;have C:w.heap.size<=x.heap.size:=y.size;rw[<-z]at a d⊢;obtain⟨D,g⟩:=J x.heap.size;rw[<-g]at d⊢;have E:=O g;clear g;have q:=ac y a;have f:=Z j a;clear y j;have V:=O d;have M:jb (F<D):=O (by rw[E];exact B);have R:jb (w.heap.size<=D):=O (by rw[E];exact C);clear B C;clear d z a;refine c _ _ f.out λ_=>?_
    clear c;refine G ?_;refine ai rfl (λl c=>?_);go_simp;refine(X o).mono ?_;rintro e s ⟨rfl,a⟩;have Q:=ac q a;have k:=Z f a;have K:=Z V a;clear q f V;clear a;refine c _ _ k.out λ_=>?_
    clear c;refine G ?_;refine aC ?_;have u:=(And.intro Q (And.intro k (And.intro K (And.intro M R))));exact S D s u
   refine ai rfl (λl c=>?_);go_simp;have a:=af P (ic #[I N 0,I N 0,I N 0] 147);have d:=jk P (ic #[I N 0,I N 0,I N 0] 147);obtain⟨x,z⟩:=J (P.alloc (ic #[I N 0,I N 0,I N 0] 147));have B:F<P.heap.size:=(jq.1 H).1;have C:w.heap.size<=P.heap.size:=U.size;rw[<-z]at a d⊢;obtain⟨D,g⟩:=J P.heap.size;rw[<-g]at d⊢;have E:=O g;clear g;have y:=ac U a;have j:=Z H a;clear U H;have TB:=O d;have M:jb (F<D):=O (by rw[E];exact B);have R:jb (w.heap.size<=D):=O (by rw[E];exact C);clear B C;clear d z a;refine c _ _ j.out λ_=>?_
   clear c;refine G ?_;refine ai rfl (λl c=>?_);go_simp;refine(KB x).mono ?_;rintro e o ⟨rfl,a⟩;have q:=ac y a;have f:=Z j a;have V:=Z TB a;clear y j TB;clear a;refine c _ _ f.out λ_=>?_
   clear c;refine G ?_;refine ai rfl (λl c=>?_);go_simp;refine(X o).mono ?_;rintro e s ⟨rfl,a⟩;have Q:=ac q a;have k:=Z f a;have K:=Z V a;clear q f V;clear a;refine c _ _ k.out λ_=>?_
   clear c;refine G ?_;refine aC ?_;have u:=(And.intro Q (And.intro k (And.intro K (And.intro M R))));exact S D s u
  refine ai rfl (λl c=>?_);go_simp;have a:=af W (ic #[I N 0,I N 0,I N 0] 147);have d:=jk W (ic #[I N 0,I N 0,I N 0] 147);obtain⟨P,z⟩:=J (W.alloc (ic #[I N 0,I N 0,I N 0] 147));have B:F<W.heap.size:=(jq.1 QB).1;have C:w.heap.size<=W.heap.size:=Qm.size;rw[<-z]at a d⊢;obtain⟨D,g⟩:=J W.heap.size;rw[<-g]at d⊢;have E:=O g;clear g;have U:=ac Qm a;have H:=Z QB a;have g:=O d;have M:jb (F<D):=O (by rw[E];exact B);have R:jb (w.heap.size<=D):=O (by rw[E];exact C);clear B C;clear d z a;refine c _ _ H.out λ_=>?_
  clear c;refine G ?_;refine ai rfl (λl c=>?_);go_simp;refine(KA P).mono ?_;rintro e x ⟨rfl,a⟩;have y:=ac U a;have j:=Z H a;have TB:=Z g a;clear U H g;clear a;refine c _ _ j.out λ_=>?_
  clear c;refine G ?_;refine ai rfl (λl c=>?_);go_simp;refine(KB x).mono ?_;rintro e o ⟨rfl,a⟩;have q:=ac y a;have f:=Z j a;have V:=Z TB a;clear y j TB;clear a;refine c _ _ f.out λ_=>?_
  clear c;refine G ?_;refine ai rfl (λl c=>?_);go_simp;refine(X o).mono ?_;rintro e s ⟨rfl,a⟩;have Q:=ac q a;have k:=Z f a;have K:=Z V a;clear q f V;clear a;refine c _ _ k.out λ_=>?_
  clear c;refine G ?_;refine aC ?_;have u:=(And.intro Q (And.intro k (And.intro K (And.intro M R))));exact S D s u
 clear Qm QB;rintro D s ⟨Q,k,K,M,R⟩;refine ai rfl (λl c=>?_);rw[if_pos ag];refine jJ 147 _ _ rfl D #[I N m,I N kb,I N n] rfl rfl 147 _ K.out ae ag (by simp[jS]) (c _ _ ((jG _ _ _ _ (p6 M)).trans k) λ_=>?_);clear c;have c:(s.setRow D #[I N m,I N kb,I N n]).heap[D]?=T (ic #[I N m,I N kb,I N n] 147 (0,0)):=jA _ _ _ _ _ _ K.out;have f:(s.setRow D #[I N m,I N kb,I N n]).heap[F]?=T (ic #[I N r,I N t] 35 (0,0)):=(jG _ _ _ _ (p6 M)).trans k;have g:jd w w (s.setRow D #[I N m,I N kb,I N n]):=jC Q R _;generalize s.setRow D #[I N m,I N kb,I N n]=z at c f g⊢;have B:=O c;have C:=O f;have E:=O g;clear c f g;refine G ?_;refine jP ?_;have eq3:=al.out;clear al KA KB X
 by_cases g:m=0/\kb=0/\n=0
 ·have X:decide (m=0/\kb=0/\n=0)=true:=decide_eq_true g
  obtain⟨l,o,q⟩:=(EA (msg:=msg) aa YW ad).1 g;clear g
  go_upto_region 2 with fail
  refine j5 ?_;refine jU rfl 147 _ rfl D rfl 147 #[I N m,I N kb,I N n] (0,0) _ B.out qJ rfl ae ?_;clear B;obtain⟨c,rfl⟩:=ob (show 0<=p by have:=l.1;omega);obtain⟨f,rfl⟩:=ob (show 0<=r by have:=o.1;omega);obtain⟨x,rfl⟩:=ob q.1;have H:x<2305843009213688669:=by have:=q.2;omega
  have P:f<9223372036854775808:=by have:=o.2.1;omega
  have U:c<9223372036854775808:=by have:=l.2.1;omega
  have V:=O l;have HR:=O o;have al:=O H;have VG:=O P;have au:=O U;obtain⟨j,y⟩:=J (pZ f c msg);have a1:jb (mg (aK ⟨#[115,105,103,110]⟩) msg [f,c]=j):=O y.symm;have a2:jb (j<2305843009213688669):=O (by rw[y];exact tW _ _ _);have Sw:jb (∀b:Bool,(b=true↔aG 4 x=f*aG c j%PN)->(b=true↔kH (c:Nat) (f:Nat) (x:Nat) msg)):=O (λb h=>by
   rw[h];unfold kH;simp only[Int.toNat_natCast,<-y];exact⟨λh=>⟨l,o,q,h⟩,λh=>h.2.2.2⟩)
  clear l o q H P U y;have c1:=cell_of (i:=1) C rfl
  go_wp2_with fail
  refine(tD x al z).mono ?_;rintro e l ⟨rfl,a⟩;have y:=Z C a;have o:=ac E a;clear c1 a C E;have c0:=cell_of (i:=0) y rfl
  go_wp2_with fail
  have S:=yo ⟨#[115,105,103,110]⟩ L msg (A pm ml cm) UN [f,c] _ ar (by
   intro q H;simp only[lv,nn,or_false]at H
   rcases H with rfl|rfl
   ·exact VG
   exact au) (l.alloc (ic #[I N (f:Nat),I N (c:Nat)] 3)) ((HM.below o).below (af l _)) (kB l (f:Nat) (c:Nat)) ((HT.below o).below (af l _))
  rw[a1]at S;refine S.mono ?_;clear S;rintro e P ⟨rfl,a⟩;replace a:=(af l (ic #[I N (f:Nat),I N (c:Nat)] 3)).trans (a.mono (af l _).size);have q:=Z y a;have H:=ac o a;clear c0 a y o
  go_wp2_with fail
  refine(yB c j V a2 P).mono ?_;rintro e U ⟨rfl,a⟩;have o:=Z q a;have y:=ac H a;clear a q H;have c0:=cell_of (i:=0) o rfl
  go_wp2_with fail
  refine(LA f (aG c j) HR (mT V j) U).mono ?_;rintro e H ⟨rfl,a⟩;have q:=ac y a;clear a o y c0
  go_wp2_with fail
  go_ret;exact⟨_,rfl,O (Sw _ (Oc _ _)),q⟩
 have X:decide (m=0/\kb=0/\n=0)=false:=decide_eq_false g;have c:jb (¬kH p r t msg):=O (λh=>g ((EA (msg:=msg) aa YW ad).2 ⟨h.1,h.2.1,h.2.2.1⟩));clear g
 go_upto_region 2 with fail
 refine j5 ?_;refine jU rfl 147 _ rfl D rfl 147 #[I N m,I N kb,I N n] (0,0) _ B.out qJ rfl ae ?_
 go_wp2_with fail
 go_ret;exact⟨false,rfl,O ⟨λh=>absurd h L,λh=>absurd h c⟩,E⟩
structure Bj(b:Nat)(x:Nat)(c:Nat):Prop where
 enter:∀args w,(kn b args).run je w=.ok (.enter b args) w
 call:∀(a:Nat) (w:ja),aM a->jH w c 3 (I N (x:Nat))->jl je b #[I N a,js (T ⟨c,0,ih⟩)] w λe w'=>e=jj (jM #[I N (aG a x:Nat),I N 0])/\jd w w w'
theorem Ow(x f:Nat)(b:x<2305843009213688669):Bj 103 x f:=by
 refine⟨λ_ _=>rfl,λa w c d=>?_⟩;have g:=O (yB a x c b);have h:=d.cell;clear c b d
 go_enter func103,ntmps103
 go_wp2_with fail
 refine(g _).mono ?_;rintro e d ⟨rfl,b⟩;have c:=O b;clear b
 go_wp2_with fail
 go_ret2;exact⟨rfl,c⟩
def r7(p a v:Nat):LBy:=cC (aK ⟨#[119,114,97,112]⟩) (cK [p,a,v])
theorem vV(p u v):(r7 p u v).length=32:=gs _ _
theorem vE(l:LBy)(m:Nat)(b:BitVec 8):((l++jv (m+1) 0#8).set l.length b)=(l++[b])++jv m 0#8:=by
 rw[List.set_append_right _ _ (ji _),Nat.sub_self,List.replicate_succ,List.set_cons_zero,jV]
 rfl
theorem Lm{W:ja}{D:Nat}{l:LBy}{n:Nat}{t:jr}(h:W.heap[D]?=T (ic (l.map v8).toArray t (0,0)))(a:l.length=n):BytesAt W (A (T ⟨D,0,ih⟩) n n) l:=by
 refine⟨_,n,by rw[a],by rw[a];exact ji _,(λh=>by cases h),λ_=>⟨D,0,rfl,λj b=>cell_of h ?_⟩⟩;rw[jo];simp[jt,b]
theorem H4(R x K:Nat)(l:Bj R x K)(p a e:Nat)(t:p<9223372036854775808)(s:a<9223372036854775808)(he:aM e)(w:ja)(c:jH w K 3 (I N (x:Nat)))(u:cF w):
 jl je 105 #[jg #[I N p,.func (.func R) #[] #[js (T ⟨K,0,ih⟩)]],I N a,I N e] w λe' w'=>e'=jj (jg ((r7 p a (aG e x)).map v8).toArray)/\jd w w w':=by
 obtain⟨aa,y,z⟩:=Arr.mk' (vV p a (aG e x));rw[<-y];have S:=O z;have al:=O u;have H:=l.enter;have B:=O l.call;have HE:=O he;have hv:=tp e x;obtain⟨v,m⟩:=J (aG e x);rw[<-m]at hv;have Sw:=O m;have HP:=O t;have HU:=O s;have HV:jb (v<9223372036854775808):=O Y;have f:=jk w (ic #[I N p,.func (.func R) #[] #[js (T ⟨K,0,ih⟩)]] 169);have b:=af w (ic #[I N p,.func (.func R) #[] #[js (T ⟨K,0,ih⟩)]] 169);obtain⟨W0,g⟩:=J (w.alloc (ic #[I N p,.func (.func R) #[] #[js (T ⟨K,0,ih⟩)]] 169));rw[<-g]at f b;have h:=jk W0 (ic aI 53);have d:=af W0 (ic aI 53);obtain⟨W1,o⟩:=J (W0.alloc (ic aI 53));obtain⟨r,j⟩:=J w.heap.size;rw[<-o]at h d;have C:W0.heap.size=r+1:=by rw[g,j];simp
 rw[C]at h;rw[<-j]at f;have k:=Z f d;have D:=O h;have E:=O (b.trans (d.mono b.size));have F:jb (jH W1 K 3 (I N (x:Nat))):=O (((b.trans (d.mono b.size)).block _ c.lt).trans c);have U:=O j;have bg:=O g;have Rc:=O o;have q:=cell_of (i:=0) k rfl;have M:=cell_of (i:=1) k rfl;clear y z u l he m t s f b g h d o C j c
 go_enter func105,ntmps105
 go_upto_region 1 with fail
 rw[<-bg,<-Rc,<-U]
 go_wp2_with fail
 refine(B e W1 HE F).mono ?_;rintro e2 z1 ⟨rfl,b⟩;rw[<-Sw];have j:=Z k b;have g:=Z D b;have l:=ac E b;clear b q M k D E F B H;have d:=jk z1 (ic #[jf jh 0,jf jh 0,jf jh 0,jf jh 0,jf jh 0,jf jh 0,jf jh 0,jf jh 0,jf jh 0,jf jh 0,jf jh 0,jf jh 0,jf jh 0,jf jh 0,jf jh 0,jf jh 0,jf jh 0,jf jh 0,jf jh 0,jf jh 0,jf jh 0,jf jh 0,jf jh 0,jf jh 0] 251);have b:=af z1 (ic #[jf jh 0,jf jh 0,jf jh 0,jf jh 0,jf jh 0,jf jh 0,jf jh 0,jf jh 0,jf jh 0,jf jh 0,jf jh 0,jf jh 0,jf jh 0,jf jh 0,jf jh 0,jf jh 0,jf jh 0,jf jh 0,jf jh 0,jf jh 0,jf jh 0,jf jh 0,jf jh 0,jf jh 0] 251);obtain⟨W2,h⟩:=J (z1.alloc (ic #[jf jh 0,jf jh 0,jf jh 0,jf jh 0,jf jh 0,jf jh 0,jf jh 0,jf jh 0,jf jh 0,jf jh 0,jf jh 0,jf jh 0,jf jh 0,jf jh 0,jf jh 0,jf jh 0,jf jh 0,jf jh 0,jf jh 0,jf jh 0,jf jh 0,jf jh 0,jf jh 0,jf jh 0] 251));obtain⟨D,f⟩:=J z1.heap.size;rw[<-h]at d b;rw[<-f]at d;have TH:jb (W2.heap[D]?=T (ic (([]++jv 24 0#8).map v8).toArray 251 (0,0))):=O d;have QR:=Z g b;have Qp:=ac l b;have M:jb (r+1<D):=O (by rw[f];exact(jq.1 g).1);have q:=cell_of (i:=0) (av j b) rfl;have bh:=O h;have HD:=O f;clear d b h f j g l
 go_upto_region 3 with fail
 rw[<-bh,<-HD]
 go_wp2_with fail
 have au:∀W:ja,(Instr.index 252 (jg #[I N p,I N a,I N v]) (I N 0)).run je W=.ok (I N p) W:=λW=>by
  have s:=qK;unfold Instr.index;simp[asIntOf,qk s,part]
 have a1:∀W:ja,(Instr.index 252 (jg #[I N p,I N a,I N v]) (I N 1)).run je W=.ok (I N a) W:=λW=>by
  have s:=qK;unfold Instr.index;simp[asIntOf,qk s,part]
 have a2:∀W:ja,(Instr.index 252 (jg #[I N p,I N a,I N v]) (I N 2)).run je W=.ok (I N v) W:=λW=>by
  have s:=qK;unfold Instr.index;simp[asIntOf,qk s,part]
 clear q
 go_loopw [25] (λb wr=>∃i:Nat,b=I N i/\i<=3/\jb (wr.heap[D]?=T (ic ((cK ([p,a,v].take i)++jv (24-8*i) 0#8).map v8).toArray 251 (0,0)))/\jb (wr.heap[r+1]?=T (ic aI 53 (0,0)))/\jb (jd w w wr)) (λb _=>(3-jm b).toNat)
 case atStart=>exact⟨0,rfl,by omega,O TH,QR,Qp⟩
 obtain⟨i,rfl,hi,Q6,ad,Q⟩:=hrel
 rcases(show i=0\/i=1\/i=2\/i=3 by omega)with rfl|rfl|rfl|rfl
 ·have a3:=HP.out
  have a4:qc.wrap (p:Int)=(p:Int):=by rw[qd];omega
  have a5:(0:Int)<=(p:Int):=Y;have ba:=au
  go_wp2_with fail
  go_loopw [29] (λg j=>∃k:Nat,g=I N k/\k<=8/\jb (j.heap[D]?=T (ic (((cK ([p,a,v].take 0)++beK p k)++jv (24-0-k) 0#8).map v8).toArray 251 (0,0)))/\jb (j.heap[r+1]?=T (ic aI 53 (0,0)))/\jb (jd w w j)) (λg _=>(8-jm g).toNat)
  case atStart=>exact⟨0,rfl,by omega,O (by rw[beK,jX];exact Q6),ad,Q⟩
  obtain⟨k,rfl,YH,d,t,u⟩:=hrel
  by_cases WS:k<8
  ·have V:=aj ((k:Int)<8)
   obtain⟨m,y⟩:∃m:Nat,m=56-8*k:=⟨_,rfl⟩;have TY:(56:Int)-8*(k:Int)=(m:Int):=Y;have bb:m<=56:=Y;have bc:decide ((m:Int)<0)=false:=by simp
   have l:beK p (k+1)=beK p k++[j1 8 (p/2^m)]:=by rw[beK,y]
   obtain⟨b,c⟩:=J (j1 8 (p/2^m));rw[<-c]at l;have bd:jh.wrap ((p:Int)/2^m)=(b.toNat:Int):=by
    rw[c,qe,qf];have e:(p:Int)/2^m=((p/2^m:Nat):Int):=by simp
    rw[e];omega
   obtain⟨P,f⟩:=J (cK ([p,a,v].take 0)++beK p k);have o:P.length=k:=by rw[f,jp,pH,tu];simp
   have z:cK ([p,a,v].take 0)++beK p (k+1)=P++[b]:=by rw[l,<-jV,f]
   rw[<-f]at d;have B:24-0-k=(24-0-(k+1))+1:=Y;rw[B]at d;obtain⟨⟨u3,bf⟩,UE,C,E⟩:=bH (i:=k) (v8 b) d (by simp[o]);have F:(wr.setCell ⟨D,k,ih⟩ (v8 b)).heap[D]?=T (ic (((P++[b])++jv (24-0-(k+1)) 0#8).map v8).toArray 251 (0,0)):=by
    rw[C,qB,<-qC,<-o,vE]
   have H:=O F;have q:=O E;have X:=O z;clear l c f o z B C F E y;unfold v8 at H q
   go_wp2_with fail
   refine⟨⟨k+1,by go_num,by omega,O (by rw[X];exact H),O ((q.block _ (aw M)).trans t),O (u.trans (q.below (dS M U)))⟩,by simp only[jm];omega⟩
  have hk:k=8:=Y;have V:=ak ((k:Int)<8);have h:=d.out;rw[hk,show cK ([p,a,v].take 0)++beK p 8=cK ([p,a,v].take (0+1))from(sS ([p,a,v].take 0) p).symm]at h;have Um:=O h;clear h hk
  go_wp2_with fail
  refine⟨⟨0+1,by go_num,by omega,Um,t,u⟩,by simp only[jm];omega⟩
 ·have a3:=HU.out
  have a4:qc.wrap (a:Int)=(a:Int):=by rw[qd];omega
  have a5:(0:Int)<=(a:Int):=Y;have ba:=a1
  go_wp2_with fail
  go_loopw [29] (λg j=>∃k:Nat,g=I N k/\k<=8/\jb (j.heap[D]?=T (ic (((cK ([p,a,v].take 1)++beK a k)++jv (24-8-k) 0#8).map v8).toArray 251 (0,0)))/\jb (j.heap[r+1]?=T (ic aI 53 (0,0)))/\jb (jd w w j)) (λg _=>(8-jm g).toNat)
  case atStart=>exact⟨0,rfl,by omega,O (by rw[beK,jX];exact Q6),ad,Q⟩
  obtain⟨k,rfl,YH,d,t,u⟩:=hrel
  by_cases WS:k<8
  ·have V:=aj ((k:Int)<8)
   obtain⟨m,y⟩:∃m:Nat,m=56-8*k:=⟨_,rfl⟩;have TY:(56:Int)-8*(k:Int)=(m:Int):=Y;have bb:m<=56:=Y;have bc:decide ((m:Int)<0)=false:=by simp
   have l:beK a (k+1)=beK a k++[j1 8 (a/2^m)]:=by rw[beK,y]
   obtain⟨b,c⟩:=J (j1 8 (a/2^m));rw[<-c]at l;have bd:jh.wrap ((a:Int)/2^m)=(b.toNat:Int):=by
    rw[c,qe,qf];have e:(a:Int)/2^m=((a/2^m:Nat):Int):=by simp
    rw[e];omega
   obtain⟨P,f⟩:=J (cK ([p,a,v].take 1)++beK a k);have o:P.length=8+k:=by rw[f,jp,pH,tu];simp
   have z:cK ([p,a,v].take 1)++beK a (k+1)=P++[b]:=by rw[l,<-jV,f]
   rw[<-f]at d;have B:24-8-k=(24-8-(k+1))+1:=Y;rw[B]at d;obtain⟨⟨u3,bf⟩,UE,C,E⟩:=bH (i:=8+k) (v8 b) d (by simp[o]);have F:(wr.setCell ⟨D,8+k,ih⟩ (v8 b)).heap[D]?=T (ic (((P++[b])++jv (24-8-(k+1)) 0#8).map v8).toArray 251 (0,0)):=by
    rw[C,qB,<-qC,<-o,vE]
   have H:=O F;have q:=O E;have X:=O z;clear l c f o z B C F E y;unfold v8 at H q
   go_wp2_with fail
   refine⟨⟨k+1,by go_num,by omega,O (by rw[X];exact H),O ((q.block _ (aw M)).trans t),O (u.trans (q.below (dS M U)))⟩,by simp only[jm];omega⟩
  have hk:k=8:=Y;have V:=ak ((k:Int)<8);have h:=d.out;rw[hk,show cK ([p,a,v].take 1)++beK a 8=cK ([p,a,v].take (1+1))from(sS ([p,a,v].take 1) a).symm]at h;have Um:=O h;clear h hk
  go_wp2_with fail
  refine⟨⟨1+1,by go_num,by omega,Um,t,u⟩,by simp only[jm];omega⟩
 ·have a3:=HV.out
  have a4:qc.wrap (v:Int)=(v:Int):=by rw[qd];omega
  have a5:(0:Int)<=(v:Int):=Y;have ba:=a2
  go_wp2_with fail
  go_loopw [29] (λg j=>∃k:Nat,g=I N k/\k<=8/\jb (j.heap[D]?=T (ic (((cK ([p,a,v].take 2)++beK v k)++jv (24-16-k) 0#8).map v8).toArray 251 (0,0)))/\jb (j.heap[r+1]?=T (ic aI 53 (0,0)))/\jb (jd w w j)) (λg _=>(8-jm g).toNat)
  case atStart=>exact⟨0,rfl,by omega,O (by rw[beK,jX];exact Q6),ad,Q⟩
  obtain⟨k,rfl,YH,d,t,u⟩:=hrel
  by_cases WS:k<8
  ·have V:=aj ((k:Int)<8)
   obtain⟨m,y⟩:∃m:Nat,m=56-8*k:=⟨_,rfl⟩;have TY:(56:Int)-8*(k:Int)=(m:Int):=Y;have bb:m<=56:=Y;have bc:decide ((m:Int)<0)=false:=by simp
   have l:beK v (k+1)=beK v k++[j1 8 (v/2^m)]:=by rw[beK,y]
   obtain⟨b,c⟩:=J (j1 8 (v/2^m));rw[<-c]at l;have bd:jh.wrap ((v:Int)/2^m)=(b.toNat:Int):=by
    rw[c,qe,qf];have e:(v:Int)/2^m=((v/2^m:Nat):Int):=by simp
    rw[e];omega
   obtain⟨P,f⟩:=J (cK ([p,a,v].take 2)++beK v k);have o:P.length=16+k:=by rw[f,jp,pH,tu];simp
   have z:cK ([p,a,v].take 2)++beK v (k+1)=P++[b]:=by rw[l,<-jV,f]
   rw[<-f]at d;have B:24-16-k=(24-16-(k+1))+1:=Y;rw[B]at d;obtain⟨⟨u3,bf⟩,UE,C,E⟩:=bH (i:=16+k) (v8 b) d (by simp[o]);have F:(wr.setCell ⟨D,16+k,ih⟩ (v8 b)).heap[D]?=T (ic (((P++[b])++jv (24-16-(k+1)) 0#8).map v8).toArray 251 (0,0)):=by
    rw[C,qB,<-qC,<-o,vE]
   have H:=O F;have q:=O E;have X:=O z;clear l c f o z B C F E y;unfold v8 at H q
   go_wp2_with fail
   refine⟨⟨k+1,by go_num,by omega,O (by rw[X];exact H),O ((q.block _ (aw M)).trans t),O (u.trans (q.below (dS M U)))⟩,by simp only[jm];omega⟩
  have hk:k=8:=Y;have V:=ak ((k:Int)<8);have h:=d.out;rw[hk,show cK ([p,a,v].take 2)++beK v 8=cK ([p,a,v].take (2+1))from(sS ([p,a,v].take 2) v).symm]at h;have Um:=O h;clear h hk
  go_wp2_with fail
  refine⟨⟨2+1,by go_num,by omega,Um,t,u⟩,by simp only[jm];omega⟩
 have b:=pH [p,a,v];have d:=Q6.out;rw[show cK ([p,a,v].take 3)++jv (24-8*3) 0#8=cK [p,a,v]from jX _]at d;have f:=oG ⟨#[119,114,97,112]⟩ L _ (cK [p,a,v]) (by rw[b];simp) wr (Lm (n:=24) d (by rw[b];rfl)) (al.below Q).num (al.below Q).start;rw[show((cC (aK ⟨#[119,114,97,112]⟩) (cK [p,a,v])).map v8).toArray=aa from by rw[Sw];exact S.eq.symm]at f;have g:=O f;clear b d f au a1 a2
 go_wp2_with fail
 refine g.mono ?_;rintro e' f ⟨rfl,b⟩;have d:=Z ad b;have h:=ac Q b;clear b g
 go_wp2_with (refine jz rfl λ_ b=>jJ 53 _ _ rfl (r+1) aa rfl rfl 53 _ d.out (by rw[S.sz];rfl) (by rw[S.sz];rfl) S.one (b _ _ ?_))
 have b:(f.setRow (r+1) aa).heap[r+1]?=T (ic aa 53 (0,0)):=jA _ _ _ _ _ _ d.out;refine jO (j4 rfl _ _ (r+1) 53 _ (0,0) _ rfl b jF rfl (by rw[S.sz];rfl)) rfl ?_;exact⟨rfl,jC h.out (by rw[U];exact qa _) _⟩
def kE(a:Int)(n:Nat):Prop:=aM a/\16<=n/\n<=65552
noncomputable def kK(a:Int)(n:Nat):Int:=by classical exact if kE a n then 0 else 90
theorem Cw{a:Int}{n:Nat}(h:kE a n):kK a n=0:=by unfold kK;rw[if_pos h]
theorem su{a:Int}{n:Nat}(h:¬kE a n):kK a n=90:=by unfold kK;rw[if_neg h]
theorem Dj(a:Int)(p:Option jy)(n c:Nat)(u:n<4611686018427387904)(w:ja):
 jl je 69 #[jg #[I N a,A p n c]] w λe w'=>e=jj (I N (kK a n))/\jd w w w':=by
 have j:=jk w (ic #[I N a,A p n c] 72);have l:=af w (ic #[I N a,A p n c] 72);have k:=O (fs a);obtain⟨d,b⟩:=J (bS a);rw[<-b]at k;have o:jb (d=0->aM a):=O (λh=>by
  by_cases g:aM a
  ·exact g
  rw[b,iw g]at h;exact absurd h L)
 have q:jb (d≠0->¬aM a):=O (λh g=>h (by rw[b,fw g]));have s:=cell_of (i:=0) j rfl;have t:=cell_of (i:=1) j rfl;have m:=O l;obtain⟨r,g⟩:=J (kK a n);rw[<-g];have f:=O g;clear b g j l
 go_enter func69,ntmps69
 go_wp2_with fail
 refine(k _).mono ?_;rintro e v ⟨rfl,b⟩;have g:=ac m b;clear b k s t m
 by_cases b:d=0
 ·have k:decide (d=0)=true:=by simp[b]
  have j:=o b;subst b
  by_cases s:n<16
  ·have l:=aj ((n:Int)<16)
   obtain rfl:r=90:=by rw[f];exact su (λh=>by have:=h.2.1;omega)
   go_wp2_with fail
   go_ret;exact⟨rfl,g⟩
  have l:=ak ((n:Int)<16)
  by_cases t:65552<n
  ·have m:=aj ((65552:Int)<(n:Int))
   obtain rfl:r=90:=by rw[f];exact su (λh=>by have:=h.2.2;omega)
   go_wp2_with fail
   go_ret;exact⟨rfl,g⟩
  have m:=ak ((65552:Int)<(n:Int));obtain rfl:r=0:=by rw[f];exact Cw ⟨j,by omega,by omega⟩
  clear j
  go_wp2_with fail
  go_ret;exact⟨rfl,g⟩
 have k:decide (d=0)=false:=by simp[b]
 obtain rfl:r=90:=by rw[f];exact su (λh=>q b h.1)
 have h:(d !=0)=true:=by simpa using b
 have j:=O b;clear b
 go_wp2_with fail
 go_ret;exact⟨rfl,g⟩
def zL:LBy:=jv 12 0#8
def kv(seed:LBy):Nat:=sA seed ⟨#[119,114,97,112]⟩
def ge(a:Nat)(seed b body:LBy):LBy:=tl (r7 a (aG 4 (kv seed)) (aG a (kv seed))) zL b body
theorem Ek(b:Nat)(s:aM b)(seed m body:LBy)(t:seed.length=32)(E:m.length<=70000)(F:body.length<=65536)(H K:jc)(w:ja)(M:BytesAt w H m)(P:BytesAt w K body)(Q:iF w):
 jl je 45 #[I N b,jg (seed.map v8).toArray,H,K] w λe w'=>∃c,e=jj (jM #[jg #[I N (aG 4 (kv seed):Nat),c],I N 0])/\w'.ownsRow w 5 1 c (body.length+16) ((ge b seed m body).map v8)/\jd w w w':=by
 obtain⟨o,u,R⟩:=Arr.mk' t;rw[<-u];have Tq:=O u;have QP:=O R;have TA:=O t;have n:=O Q;have U:=O s;have v:=O (fs b);rw[fw s]at v;have ad:=O E;have TC:=O F;have V:=O M;have W:=O P;obtain⟨r,x⟩:=J (kv seed);have y:=O x;have X:jb (r<2305843009213688669):=O (by rw[x];exact(vZ _ _).2);obtain⟨d,a⟩:=J (aG 4 (kv seed));have aa:=O a;have Yf:jb (d<4611686018427377339):=O (by rw[a];exact tp _ _);rw[<-a];have f:=jk w (ic o 53);have g:=af w (ic o 53);obtain⟨p,h⟩:=J (w.alloc (ic o 53));rw[<-h]at f g;have i:=jk p (ic #[I N 0,A ih 0 0] 72);have k:=af p (ic #[I N 0,A ih 0 0] 72);obtain⟨W1,z⟩:=J (p.alloc (ic #[I N 0,A ih 0 0] 72));obtain⟨j,l⟩:=J w.heap.size;rw[<-z]at i k;have S:p.heap.size=j+1:=by rw[h,l];simp
 rw[S]at i;rw[<-l]at f;have HK:=Z f k;have HR:=O i;have Qj:=O (g.trans (k.mono g.size));have HG:=O l;have al:=O h;have Rc:=O z;obtain⟨ph,ch,rfl,-,-,-⟩:=M;obtain⟨B,C,rfl,-,-,-⟩:=P;obtain⟨hl,D⟩:=J m.length;obtain⟨bl,q⟩:=J body.length;rw[<-D]at V⊢;rw[<-q]at W;clear u R t Q s E F x a f g h i k z S l;have a3:=O D;have SE:=O q;rw[show(j6 B body.length C)=A B bl C from by rw[q]];clear D q
 go_enter func45,ntmps45
 go_wp2_with fail
 rw[<-al,<-Rc,<-HG];refine(v W1).mono ?_;rintro e R ⟨rfl,a⟩;have h:=Z HK a;have i:=Z HR a;have f:=ac Qj a;clear a HK HR Qj v
 go_upto_region 3 with fail
 refine j5 ?_;refine jU rfl 53 _ rfl j rfl 53 o (0,0) _ h.out jF rfl (by rw[QP.sz];rfl) ?_
 go_wp2_with fail
 have g:=DZ seed TA ⟨#[119,114,97,112]⟩ L R (cF.below ⟨n.num,n.start⟩ f);rw[<-Tq,show sA seed ⟨#[119,114,97,112]⟩=r from y.symm]at g;refine g.mono ?_;clear g;rintro e q ⟨rfl,a⟩;have l:=Z i a;have s:=ac f a;clear a h i f
 go_wp2_with fail
 obtain⟨x,h⟩:=J (q.alloc (ic #[I N (r:Nat)] 3));obtain⟨f,i⟩:=J q.heap.size;have t:jH x f 3 (I N (r:Nat)):=by rw[h,i];exact Boxed.new q _ _
 have a:=af q (ic #[I N (r:Nat)] 3);rw[<-h]at a⊢;rw[<-i];have u:=Z l a;have v:=ac s a;have k:=O t;clear a h i t l s;have g:=tD r X x;rw[show aG 4 r=d from by rw[y,aa]]at g;refine g.mono ?_;clear g;rintro e i ⟨rfl,a⟩;have z:=Z u a;have D:=ac v a;have h:jb (jH i f 3 (I N (r:Nat))):=O ((a.block _ k.lt).trans k);clear a u v k;obtain⟨S,g⟩:=J (#[jf .i64 b,.func (.func 103) #[] #[js (T ⟨f,0,ih⟩)]]);have HS:=O g;have k:S.all (·.oneCell')=true:=by rw[g];simp[jS]
 have l:S.size=2:=by rw[g];rfl
 have YJ:=O k;have a4:=O l;clear g k l
 go_upto_region 6 with(refine jz rfl λ_ t=>jJ 169 _ _ rfl i.heap.size #[I N b,.func (.func 103) #[] #[js (T ⟨f,0,ih⟩)]] rfl rfl 169 #[I N 0,.nilFunc] (jk i _) ae ag (by simp[jS]) (t _ _ ?_))
 obtain⟨s,g⟩:=J ((i.alloc (ic #[I N 0,.nilFunc] 169)).setRow i.heap.size #[I N b,.func (.func 103) #[] #[js (T ⟨f,0,ih⟩)]]);obtain⟨E,k⟩:=J i.heap.size;have u:s.heap[E]?=T (ic #[I N b,.func (.func 103) #[] #[js (T ⟨f,0,ih⟩)]] 169 (0,0)):=by rw[g,k];exact jA _ _ _ _ _ _ (jk i _)
 have a:jd i i s:=by rw[g];exact jC (af i _) (ji _) _
 rw[<-g,<-k];have v:=Z z a;have l:=ac D a;have F:jb (jH s f 3 (I N (r:Nat))):=O ((a.block _ h.lt).trans h);have Q:=O u;clear a g k u z D h;refine j5 ?_;refine jU rfl 169 _ rfl E rfl 169 #[I N b,.func (.func 103) #[] #[js (T ⟨f,0,ih⟩)]] (0,0) _ Q.out underlying169 rfl ae ?_
 go_wp2_with fail
 obtain⟨a5,g,k⟩:=Arr.mk' (vV b d (aG b r));have h:=H4 _ r f (Ow r f X) b d b (aU U.2.1) (aw Yf) U s F (cF.below ⟨n.num,n.start⟩ l);rw[<-g]at h;have D:=O g;refine h.mono ?_;clear h g k;rintro e w7 ⟨rfl,a⟩;have h:=Z v a;have g:=ac l a;clear a v l F Q
 go_wp2_with fail
 have k:=JZ (r7 b d (aG b r)) zL m body (A ph hl ch) (A B bl C) w7 (vV _ _ _) rfl ad TC (V.below g) (W.below g) (n.below g);rw[<-D]at k;refine k.mono ?_;clear k;rintro e u ⟨cv,rfl,v,a⟩;have z:=Z h a;have F:=O v;have Q:=O g.size;have au:=O h;have Rn:=ac g a;obtain⟨k,l,rfl⟩:=aO v;clear a h g v
 go_upto_region 9 with fail
 go_wp2_with (refine jz rfl λ_ t=>jJ 72 _ _ rfl (j+1) #[I N d,A k (body.length+16) l] rfl rfl 72 _ z.out ae ag (by simp[jS]) (t _ _ ?_))
 have a:(u.setRow (j+1) #[I N d,A k (body.length+16) l]).heap[j+1]?=T (ic #[I N d,A k (body.length+16) l] 72 (0,0)):=jA _ _ _ _ _ _ z.out;have t:jd w w (u.setRow (j+1) #[I N d,A k (body.length+16) l]):=jC Rn.out (by rw[HG];exact qa _) _;have v:(u.setRow (j+1) #[I N d,A k (body.length+16) l]).ownsRow w.heap.size 5 1 (A k (body.length+16) l) (body.length+16) ((ge b seed m body).map v8):=by
  have h:=F.out;rw[aa,y]at h;refine⟨h.1,?_⟩
  rcases h.2 with hn|⟨g,a1,QF,e,hb,hg,a2⟩
  ·exact .inl hn
  refine .inr ⟨g,a1,QF,e,jD Q hb,(jG _ _ _ _ ?_).trans hg,a2⟩;have:=(jq.1 au).1;omega
 exact bodyPost_ret_by (eQ rfl _ _ (j+1) 72 #[I N d,A k (body.length+16) l] (0,0) _ rfl a underlying72 rfl ae) rfl ⟨_,rfl,v,t⟩
def eK(x:Int):Prop:=0<=x/\x<512
def gD(x:Int):Prop:=0<=x/\x<16
instance(x:Int):Decidable (eK x):=by unfold eK;infer_instance
instance(x:Int):Decidable (gD x):=by unfold gD;infer_instance
theorem yK(x:Int)(w:ja):
 jl je 67 #[I N x] w λe w'=>e=jj (.bool (decide (eK x)))/\w=w':=by
 obtain⟨r,a⟩:=J (decide (eK x));rw[<-a]
 by_cases b:0<=x
 ·have c:=aj (0<=x)
  obtain rfl:r=decide (x<512):=by rw[a];simp[eK,b]
  clear a
  go_enter func67,ntmps67
  go_wp2
  go_ret;exact⟨rfl,rfl⟩
 have c:=ak (0<=x);obtain rfl:r=false:=by rw[a];simp[eK,b]
 clear a
 go_enter func67,ntmps67
 go_wp2
 go_ret;exact⟨rfl,rfl⟩
theorem BV(x:Int)(w:ja):
 jl je 66 #[I N x] w λe w'=>e=jj (.bool (decide (gD x)))/\w=w':=by
 obtain⟨r,a⟩:=J (decide (gD x));rw[<-a]
 by_cases b:0<=x
 ·have c:=aj (0<=x)
  obtain rfl:r=decide (x<16):=by rw[a];simp[gD,b]
  clear a
  go_enter func66,ntmps66
  go_wp2
  go_ret;exact⟨rfl,rfl⟩
 have c:=ak (0<=x);obtain rfl:r=false:=by rw[a];simp[gD,b]
 clear a
 go_enter func66,ntmps66
 go_wp2
 go_ret;exact⟨rfl,rfl⟩
def cE(x y:Int):Int:=if x<y then -1 else if y<x then 1 else 0
theorem zx(x:Int)(w:ja):
 jl je 98 #[I N x] w λe w'=>e=jj (.bool false)/\w=w':=by
 go_enter func98,ntmps98
 go_wp2
 go_ret;exact⟨by simp,rfl⟩
theorem yJ(x y:Int)(w:ja):
 jl je 40 #[I N x,I N y] w λe w'=>e=jj (I N (cE x y))/\w=w':=by
 have d:=O (zx x);have f:=O (zx y);obtain⟨r,a⟩:=J (cE x y);rw[<-a];have b:=O a;clear a
 go_enter func40,ntmps40
 go_wp2_with fail
 refine(d _).mono ?_;rintro e g ⟨rfl,rfl⟩
 go_wp2_with fail
 refine(f _).mono ?_;rintro e g ⟨rfl,rfl⟩
 by_cases a:x<y
 ·have h:=aj (x<y)
  obtain rfl:r= -1:=by rw[b,cE,if_pos a]
  go_wp2_with fail
  go_ret;exact⟨rfl,rfl⟩
 have h:=ak (x<y)
 by_cases c:y<x
 ·have i:=aj (y<x)
  obtain rfl:r=1:=by rw[b,cE,if_neg a,if_pos c]
  go_wp2_with fail
  go_ret;exact⟨rfl,rfl⟩
 have i:=ak (y<x);obtain rfl:r=0:=by rw[b,cE,if_neg a,if_neg c]
 go_wp2_with fail
 go_ret;exact⟨rfl,rfl⟩
def Mem.cells(m:Mem):List jc:=[I N m.dev,I N m.since,I N m.ver]
theorem Ae(m:Mem)(d:Int)(w:ja):
 jl je 147 #[jg m.cells.toArray,I N d] w λe w'=>e=jj (I N (cE m.dev d))/\jd w w w':=by
 obtain⟨md,b,c⟩:=m;unfold Mem.cells;have a:=af w (ic #[I N md,I N b,I N c] 45);have f:=O (yJ md d);have g:=O a;clear a
 go_enter func147,ntmps147
 go_wp2_with fail
 refine(f _).mono ?_;rintro e a ⟨rfl,rfl⟩
 go_wp2_with fail
 go_ret;exact⟨rfl,g⟩
def mc(w:ja)(v:jc)(l:List Mem):Prop:=ap (λ_=>True) w v 3 l.length (l.flatMap Mem.cells)
def bF:Mem:=⟨0,0,0⟩
theorem mc.below{w w':ja}{v:jc}{l:List Mem}(h:mc w v l)(a:jd w w w'):mc w' v l:=by
 obtain⟨b,p,c,d,f,i,k⟩:=h;refine⟨b,p,c,d,f,i,λm=>?_⟩;obtain⟨g,o,e,-,n⟩:=k m;exact⟨g,o,e,trivial,λj q r=>cell_below (n j q r) a⟩
def ky(l:List Mem):Prop:=∀i j,i<j->j<l.length->(l.getD i bF).dev<(l.getD j bF).dev
theorem mc.cells{w:ja}{v:jc}{l:List Mem}(h:mc w v l):∃p c,v=A p l.length c/\l.length<=c/\(0<l.length->∃g o,p=T ⟨g,o,ih⟩/\∀i,i<l.length->w.cell? ⟨g,o+i*3,ih⟩=T (I N (l.getD i bF).dev)/\w.cell? ⟨g,o+i*3+1,ih⟩=T (I N (l.getD i bF).since)/\w.cell? ⟨g,o+i*3+2,ih⟩=T (I N (l.getD i bF).ver)):=by
 obtain⟨s,p,c,d,f,t,j⟩:=h;refine⟨p,c,d,f,λk=>?_⟩;obtain⟨g,o,e,-,a⟩:=j k;refine⟨g,o,e,λi m=>?_⟩;have b:l[i]?=T (l.getD i bF):=by simp[jt,m]
 have n:=a (i*3+0) _ ((flat_get Mem.cells 3 (λ_=>rfl) l i 0 (l.getD i bF) b L).trans rfl);have q:=a (i*3+1) _ ((flat_get Mem.cells 3 (λ_=>rfl) l i 1 (l.getD i bF) b L).trans rfl);have r:=a (i*3+2) _ ((flat_get Mem.cells 3 (λ_=>rfl) l i 2 (l.getD i bF) b L).trans rfl);exact⟨n,q,r⟩
theorem Aa{a v x y:jc}(b:a=x)(c:v=y):Ending.returned (jM #[a,v])=jj (jM #[x,y]):=by rw[b,c]
theorem eu{α:Type}{l:List α}{i:Nat}(d:α)(h:i<l.length):l.getD i d=l[i]:=by simp[jt,h]
def iY(l:List Mem)(d:Int):Nat:=l.countP λm=>decide (m.dev<d)
def cr(l:List Mem)(d:Int):Bool:=l.any λm=>m.dev==d
theorem uL{l:List Mem}(h:ky l){i j:Nat}(a:i<=j)(b:j<l.length):(l.getD i bF).dev<=(l.getD j bF).dev:=by
 rcases Nat.eq_or_lt_of_le a with rfl|c
 ·exact Int.le_refl _
 exact Int.le_of_lt (h i j c b)
theorem yg(d:Int):∀(l:List Mem) (i:Nat),i<=l.length->(∀t,t<i->(l.getD t bF).dev<d)->(∀t,i<=t->t<l.length->d<=(l.getD t bF).dev)->iY l d=i
 |[],i,b,_,_=>by simp at b;simp[iY,b]
 |a::r,0,_,_,c=>by
  unfold iY;rw[List.countP_eq_zero];intro x f;obtain⟨t,e,rfl⟩:=qg f;have:=c t (jR _) e;rw[eu _ e]at this;simp;omega
 |a::r,i+1,b,f,c=>by
  have h:a.dev<d:=by simpa using f 0 (Nat.succ_pos _)
  have g:=yg d r i (by simpa using b) (λt e=>by simpa using f (t+1) Y) (λt j e=>by simpa using c (t+1) Y (by simpa using e));unfold iY at g⊢;rw[List.countP_cons_of_pos (by simpa using h),g]
theorem Iz{l:List Mem}{d:Int}(h:∀t,t<l.length->(l.getD t bF).dev<d):cr l d=false:=by
 unfold cr;rw[qD];intro x b;obtain⟨t,a,rfl⟩:=qg b;have:=h t a;rw[eu _ a]at this;simp;omega
theorem Gr(x y:Int):(cE x y==0)=decide (x=y):=by
 unfold cE
 by_cases a:x<y
 ·rw[if_pos a];simp;omega
 rw[if_neg a]
 by_cases b:y<x
 ·rw[if_pos b];simp;omega
 rw[if_neg b];simp;omega
theorem KN{l:List Mem}{d:Int}{i:Nat}(f:ky l)(e:i<l.length)(h:∀t,t<i->(l.getD t bF).dev<d)(j:d<=(l.getD i bF).dev):cr l d=(cE (l.getD i bF).dev d==0):=by
 rw[Gr]
 by_cases he:(l.getD i bF).dev=d
 ·rw[decide_eq_true he]
  unfold cr;refine ri.2 ⟨l.getD i bF,?_,by simpa using he⟩;rw[eu _ e];exact qy e
 rw[decide_eq_false he];unfold cr;rw[qD];intro x c;obtain⟨t,b,rfl⟩:=qg c;have c:l[t].dev≠d->¬((l[t].dev==d)=true):=λh=>by simpa using h
 apply c
 rcases Nat.lt_trichotomy t i with a|a|a
 ·have:=h t a;rw[eu _ b]at this;omega
 ·subst a;rw[eu _ b]at he;exact he
 have g:=f i t a b;rw[eu _ b]at g;omega
theorem OT(l:List Mem)(f:ky l)(v:jc)(d:Int)(w:ja)(h:mc w v l)(U:l.length<=1000000):
 jl je 146 #[v,I N d,.func (.func 147) #[] #[]] w λe w'=>e=jj (jM #[I N (iY l d:Nat),.bool (cr l d)])/\jd w w w':=by
 obtain⟨p,c,rfl,u,s⟩:=h.cells;have R:=O s;have M:=O f;obtain⟨n,b⟩:=J l.length;have a:=O b;rw[<-b]at U u⊢;clear s f h b;have EG:∀args w,(kn 147 args).run je w=.ok (.enter 147 args) w:=λ_ _=>rfl
 go_enter func146,ntmps146
 go_wp2_with fail
 go_loopw [9,10] (λb f wr=>∃i j:Nat,b=I N i/\f=I N j/\i<=j/\j<=n/\jb ((∀t,t<i->(l.getD t bF).dev<d)/\∀t,j<=t->t<n->d<=(l.getD t bF).dev)/\jb (jd w w wr)) (λb f _=>(jm f-jm b).toNat)
 case atStart=>exact⟨0,n,rfl,rfl,jR _,ji _,O ⟨λt P=>absurd P Y,λt z F=>absurd z Y⟩,O (jB _ _)⟩
 obtain⟨i,j,rfl,rfl,aa,V,x,b⟩:=hrel
 by_cases ad:i<j
 ·have W:=aj ((i:Int)<(j:Int))
  obtain⟨m,q⟩:∃m:Nat,m=(i+j)/2:=⟨_,rfl⟩;have UY:i<=m:=Y;have Q9:m<j:=Y;have e1:((i:Int)+(j:Int))/2=(m:Int):=Y;obtain⟨g,o,rfl,s⟩:=R.out (by rw[<-a];omega);obtain⟨f,h,k⟩:=s m (by rw[<-a];omega);replace f:=cell_below f b;replace h:=cell_below h b;replace k:=cell_below k b;have r:=O (Ae (l.getD m bF) d);obtain⟨md,B,C,y⟩:∃md B C,l.getD m bF=⟨md,B,C⟩:=⟨_,_,_,rfl⟩;rw[y]at f h k r;have X:=O y;unfold Mem.cells at r;clear s q y
  go_wp2_with fail
  refine(r wr).mono ?_;rintro e w1 ⟨rfl,D⟩;have H:=ac b D;clear D r f h k;obtain⟨q,E⟩:=J (cE md d);rw[<-E];have S:=O x;have K:(l.getD m bF).dev=md:=by rw[X]
  by_cases u:md<d
  ·obtain rfl:q= -1:=by rw[E,cE,if_pos u]
   have Q:jb ((∀t,t<m+1->(l.getD t bF).dev<d)/\∀t,j<=t->t<n->d<=(l.getD t bF).dev):=O ⟨λt P=>Int.lt_of_le_of_lt (uL M (show t<=m by omega) (by rw[<-a];omega)) (by rw[K];exact u),S.2⟩;clear E u K
   go_wp2_with fail
   exact⟨⟨m+1,j,by go_num,rfl,by omega,by omega,Q,H⟩,by simp only[jm];omega⟩
  have al:0<=q:=by rw[E,cE,if_neg u];split<;>omega
  have au:=ak (q<0);have Q:jb ((∀t,t<i->(l.getD t bF).dev<d)/\∀t,m<=t->t<n->d<=(l.getD t bF).dev):=O ⟨S.1,λt z F=>Int.le_trans (show d<=(l.getD m bF).dev by rw[K];omega) (uL M z (by rw[<-a];exact F))⟩;clear E u K
  go_wp2_with fail
  exact⟨⟨i,m,rfl,by go_num,by omega,by omega,Q,H⟩,by simp only[jm];omega⟩
 obtain rfl:i=j:=Y;have W:decide ((i:Int)<(i:Int))=false:=by simp
 have q:iY l d=i:=yg d l i (by rw[<-a];exact V) x.1 (λt z F=>x.2 t z (by rw[a];exact F))
 by_cases E:i<n
 ·have S:=aj ((i:Int)<(n:Int))
  obtain⟨g,o,rfl,s⟩:=R.out (by rw[<-a];omega);obtain⟨f,h,k⟩:=s i (by rw[<-a];omega);replace f:=cell_below f b;replace h:=cell_below h b;replace k:=cell_below k b;have r:=O (Ae (l.getD i bF) d);have m:=KN (l:=l) (d:=d) (i:=i) M.out (by rw[<-a];exact E) x.1 (x.2 i (ji _) E);obtain⟨md,B,C,y⟩:∃md B C,l.getD i bF=⟨md,B,C⟩:=⟨_,_,_,rfl⟩;rw[y]at f h k r m;have K:jb (cr l d=(cE md d==0)):=O m;have Q:=O q;unfold Mem.cells at r;clear s y m q
  go_wp2_with fail
  refine(r wr).mono ?_;rintro e w1 ⟨rfl,D⟩;have H:=ac b D;clear D r f h k
  go_wp2_with fail
  go_ret2;exact⟨Aa (congrArg (λn:Nat=>jf .i64 (n:Int)) Q.symm) (congrArg Value.bool K.symm),H⟩
 have S:=ak ((i:Int)<(n:Int));have m:cr l d=false:=Iz (λt P=>x.1 t (by rw[a]at E;omega));have K:=O m;have Q:=O q;clear m q
 go_wp2_with fail
 go_ret2;exact⟨Aa (congrArg (λn:Nat=>jf .i64 (n:Int)) Q.symm) (congrArg Value.bool K.symm),b⟩
section
open Go.RowKit Go.Maps Go.Sort
theorem bz{P:jK}{b:Array jY}{c:Exit->Act->ja->Prop}{a:Act}{w:ja}{d:List jY}{o:jY}{v:jc}(e:Region.wanted o (yielded b a.tmps)=true)
 (h:(execOp a.eval o).run P w=.ok (.value v) w) (f:wpList P b c d (a.put o.dst v) w):wpList P b c (o::d) a w:=
 wpList_step λK k=>by
  rw[if_pos e];unfold Oper.wp;rw[h];exact k _ _ f
theorem iI{a b:Bool}(h:a=b):Ending.returned (.bool a)=jj (.bool b):=by rw[h]
theorem Pb(n m:Int):(n !=m)=decide (n≠m):=by by_cases h:n=m<;>simp[h]
structure EK(α:Type) where
 cells:α->List jc
 k:Nat
 t:jr
 pos:0<k
 len:∀x,(cells x).length=k
 one:∀x,∀v∈cells x,v.oneCell'=true
section
variable {α:Type} (E:EK α)
def EK.flat(l:List α):List jc:=l.flatMap E.cells
theorem EK.flat_length(l:List α):(E.flat l).length=l.length*E.k:=by
 unfold EK.flat;exact Go.Proofs.YthpmekcffpppkaaGreatDoor.flat_length E.cells E.k E.len l
theorem EK.flat_append(l m:List α):E.flat (l++m)=E.flat l++E.flat m:=by unfold EK.flat;exact List.flatMap_append
theorem EK.flat_one(x:α):E.flat [x]=E.cells x:=by simp[EK.flat]
theorem EK.flat_cons(x:α)(l:List α):E.flat (x::l)=E.cells x++E.flat l:=by simp[EK.flat]
theorem EK.flat_get(l:List α)(j i:Nat)(x:α)(h:l[j]?=T x)(a:i<E.k):(E.flat l)[j*E.k+i]?=(E.cells x)[i]?:=
 Go.Proofs.YthpmekcffpppkaaGreatDoor.flat_get E.cells E.k E.len l j i x h a
theorem EK.flat_take(l:List α)(i:Nat):E.flat (l.take i)=(E.flat l).take (i*E.k):=by
 rcases qt i l.length with h|h
 ·have a:(E.flat (l.take i)).length=i*E.k:=by rw[E.flat_length,jE,j0 (lr h)]
  have:=List.take_left' (l₂:=E.flat (l.drop i)) a;rw[<-E.flat_append,qs]at this;exact this.symm
 rw[jI h,jI (by rw[E.flat_length];exact lm _ h)]
theorem EK.flat_drop(l:List α)(i:Nat):E.flat (l.drop i)=(E.flat l).drop (i*E.k):=by
 rcases qt i l.length with h|h
 ·have a:(E.flat (l.take i)).length=i*E.k:=by rw[E.flat_length,jE,j0 (lr h)]
  have:=List.drop_left' (l₂:=E.flat (l.drop i)) a;rw[<-E.flat_append,qs]at this;exact this.symm
 rw[qx h,qx (by rw[E.flat_length];exact lm _ h)]
 rfl
theorem EK.flat_one'(l:List α):∀a∈E.flat l,a.oneCell'=true:=by
 intro a b;unfold EK.flat at b;obtain⟨x,-,c⟩:=rn.1 b;exact E.one x a c
theorem EK.flat_set{d:List α}{i:Nat}{e:α}(a:i<d.length):E.flat (d.set i e)=(E.flat d).take (i*E.k)++E.cells e++(E.flat d).drop (i*E.k+E.k):=by
 rw[List.set_eq_take_append_cons_drop,if_pos a,E.flat_append,E.flat_cons,E.flat_take,E.flat_drop,show(i+1)*E.k=i*E.k+E.k by rw[o4];omega,jV]
def EK.At(w:ja)(v:jc)(l:List α):Prop:=bZ w v E.k l.length (E.flat l)
variable {E}
theorem EK.At.below{w w':ja}{v:jc}{l:List α}(h:E.At w v l)(a:jd w w w'):E.At w' v l:=bZ.below h a
theorem EK.At.of_own{w:ja}{B:Nat}{v:jc}{l:List α}(h:w.ownsRow B E.t E.k v l.length (E.flat l)):E.At w v l:=bZ.of_own h
theorem EK.At.of_sl{D:Nat->Prop}{w:ja}{v:jc}{l:List α}(h:ap D w v E.k l.length (E.flat l)):E.At w v l:=h.row
theorem EK.At.form{w:ja}{v:jc}{l:List α}(h:E.At w v l):∃p c,v=A p l.length c/\l.length<=c/\(p=ih->c=0):=by
 obtain⟨_,p,c,e,a,b,_⟩:=h;exact⟨p,c,e,a,b⟩
theorem EK.At.nil{w:ja}:E.At w (A ih 0 0) []:=⟨by simp[EK.flat],ih,0,rfl,ji _,λ_=>rfl,λh=>absurd h (Nat.lt_irrefl _)⟩
theorem EK.At.cells{w:ja}{p:Option jy}{n c:Nat}{l:List α}(h:E.At w (A p n c) l):n=l.length/\n<=c/\(0<n->∃g o,p=T ⟨g,o,ih⟩/\∀j x,l[j]?=T x->∀i a,(E.cells x)[i]?=T a->w.cell? ⟨g,o+j*E.k+i,ih⟩=T a):=by
 obtain⟨_,v,y,e,d,z,f⟩:=h;injection e with k m q
 subst k;subst m;subst q;refine⟨rfl,d,λr=>?_⟩;obtain⟨g,o,e,s⟩:=f r;refine⟨g,o,e,λj x t i a b=>?_⟩;have u:i<E.k:=by rw[<-E.len x];exact(pz.1 b).1
 rw[Nat.add_assoc];exact s (j*E.k+i) a ((E.flat_get l j i x t u).trans b)
theorem dE{l:List α}{j:Nat}(h:j<l.length):∃x,l[j]?=T x/\l.take (j+1)=l.take j++[x]:=
 ⟨l[j],jW h,kw h⟩
variable (E)
structure cM(a:Nat)(w W:ja)(g n c:Nat)(d:List α):Prop where
 own:W.ownsRow a E.t E.k (A (T ⟨g,0,ih⟩) n c) n (E.flat d)
 len:n=d.length
 bel:jd a w W
 sz:a<=w.heap.size
variable {E}
theorem cM.later{a:Nat}{w W b:ja}{g n c:Nat}{d:List α}(h:cM E a w W g n c d)(e:jd W W b):cM E a w b g n c d:=
 ⟨de h.own e,h.len,h.bel.trans (e.mono (jD h.sz (aU h.bel.size))),h.sz⟩
theorem cM.lt{a:Nat}{w W:ja}{g n c:Nat}{d:List α}(h:cM E a w W g n c d):a<=g/\g<W.heap.size:=h.own.lt g rfl
theorem cM.cap{a:Nat}{w W:ja}{g n c:Nat}{d:List α}(h:cM E a w W g n c d):n<=c:=by
 rcases h.own.2 with⟨e,_⟩|⟨i,j,k,e,l,m,b,_⟩
 ·cases e
 injection e with o p f
 subst f;exact b
theorem cM.at{a:Nat}{w W:ja}{g n c:Nat}{d:List α}(h:cM E a w W g n c d):E.At W (A (T ⟨g,0,ih⟩) n c) d:=EK.At.of_own (by rw[<-h.len];exact h.own)
theorem ud{a:Nat}{w W:ja}{g:Nat}(h:jd a w W)(b:a<=g)(cs:Array jc):jd a w (W.setRow g cs):=
 h.trans ⟨rfl,rfl,rfl,by simp[qb],λk hk=>jG _ _ _ _ Y⟩
theorem cM.store{P:jK}{q:Nat}{w W:ja}{g n c i:Nat}{d:List α}(h:cM E q w W g n c d)(r:i<n)(e:α)(m:jr)(s:(P.info? m).map (·.size)=T E.k):
 ∃j,(storeVar m ⟨g,0+i*E.k,ih⟩ (jg (E.cells e).toArray)).run P W=.ok () j/\cM E q w j g n c (d.set i e)/\(∀k,k≠g->j.heap[k]?=W.heap[k]?)/\W.heap.size<=j.heap.size:=by
 obtain⟨Q,z⟩:=h.own
 rcases z with⟨o,_⟩|⟨R,S,a,o,t,u,v,B,x,C⟩
 ·cases o
 injection o with f U D
 injection f with f
 injection f with f
 subst f;subst D;have V:i*E.k+E.k<=n*E.k:=by rw[<-Nat.succ_mul];exact lm _ r
 have F:n*E.k<=c*E.k:=lm _ v;have X:n*E.k<=a.size:=by rw[x];exact F
 have b:(E.cells e).length=E.k:=E.len e;have y:(storeCells ⟨g,i*E.k,ih⟩ (E.cells e) 0).run P W=.ok () (W.setRow g (a.toList.take (i*E.k)++E.cells e++a.toList.drop (i*E.k+(E.cells e).length)).toArray):=
  run_storeCells_at (P:=P) g (i*E.k) E.t (E.cells e) 0 a W u (by rw[b];omega) (E.one e)
 have p:a.toList.length=c*E.k:=by rw[kl];exact x
 rw[b]at y;refine⟨W.setRow g (a.toList.take (i*E.k)++E.cells e++a.toList.drop (i*E.k+E.k)).toArray,?_,⟨⟨by rw[E.flat_length,qh,<-h.len],.inr ⟨g,c,(a.toList.take (i*E.k)++E.cells e++a.toList.drop (i*E.k+E.k)).toArray,rfl,t,jA _ _ _ _ _ _ u,v,B,?_,?_⟩⟩,by rw[qh];exact h.len,ud h.bel t _,h.sz⟩,λk hk=>jG _ _ _ _ hk,by simp[qb]⟩
 ·cases hq:P.info? m with
  |none=>simp[hq]at s
  |some H=>
   have K:H.size=E.k:=by simpa [hq]using s
   rw[jo];have M:(qA (E.cells e).toArray).cells=(E.cells e).toArray:=rfl;simp[storeVar,sizeOf,typeInfo,hq,M,K,b,y]
 ·simp only[jw,jp,jE,rv,p,b]
  omega
 rw[E.flat_set (by rw[<-h.len];exact r),<-C];show qn (n*E.k) (a.toList.take (i*E.k)++E.cells e++a.toList.drop (i*E.k+E.k))=_;rw[qE,j0 Y,qP,jI (l:=a.toList.take (i*E.k)++E.cells e) (by simp only[jp,jE,p,b];omega),List.drop_take];simp only[jp,jE,p,b];rw[j0 Y]
theorem Ah{P:jK}{f:jY}{a:Act}{W:ja}{K:Act->ja->Prop}{m:Exit->Act->ja->Prop}(j:jr)(x y:oi)(o:f.op=.store j x y)
 {l:Nat} {w:ja} {g n c i:Nat} {d:List α} (h:cM E l w W g n c d) (p:i<n) (e:α) (q:(P.info? j).map (·.size)=T E.k)
 (r:a.eval x=js (T ⟨g,0+i*E.k,ih⟩)) (s:a.eval y=jg (E.cells e).toArray)
 (t:∀b,cM E l w b g n c (d.set i e)->(∀k,k≠g->b.heap[k]?=W.heap[k]?)->W.heap.size<=b.heap.size->K (a.put f.dst jL) b):f.wp P a W K m:=by
 obtain⟨b,k,u,v,z⟩:=h.store p e j q;unfold Oper.wp execOp;simp only[o,r,s,Instr.storeAt,Instr.sureAddr,Sem.run_bind,Sem.run_pure,Result.andThen_ok,k];exact t b u v z
theorem cM.clear{P:jK}{q:Nat}{w W:ja}{g n c i:Nat}{d:List α}(h:cM E q w W g n c d)(B:i<n)(t e:jr)(C:P.underlying t=T (.slice e))(z:α)(D:∀w,(zeroValue e).run P w=.ok (jg (E.cells z).toArray) w):
 ∃r,(∀s,(Builtin.clear_ #[t] s #[A (T ⟨g,0+i*E.k,ih⟩) (n-i) (c-i)]).run P W=.ok (jM #[]) r)/\cM E q w r g i c (d.take i):=by
 obtain⟨V,F⟩:=h.own
 rcases F with⟨o,_⟩|⟨X,aa,b,o,u,x,H,K,k,M⟩
 ·cases o
 injection o with f e2 Q
 injection f with f
 injection f with f
 subst f;subst Q;have y:b.toList.length=c*E.k:=by rw[kl];exact k
 have p:(Builtin.zeroCells (E.cells z).toArray (n-i)).toList.length=(n-i)*E.k:=by
  rw[kl,size_zeroCells,jw,E.len]
 obtain⟨a,l⟩:=J ((Builtin.zeroCells (E.cells z).toArray (n-i)).toList);have R:∀v∈a,v.oneCell'=true:=by
  intro v m;rw[l]at m;unfold Builtin.zeroCells at m;rw[Array.toList_map]at m;obtain⟨j,-,rfl⟩:=qu.1 m;have k:j%(E.cells z).toArray.size<(E.cells z).toArray.size:=qz _ (by rw[jw,E.len];exact E.pos);rw[getElem!_pos (E.cells z).toArray _ k];exact E.one z _ ar
 rw[<-l]at p;have ad:(n-i)*E.k=n*E.k-i*E.k:=Nat.sub_mul n i E.k;have al:n*E.k<=c*E.k:=lm _ H;have au:i*E.k<=n*E.k:=lm _ (lr B);have j:(storeCells ⟨g,i*E.k,ih⟩ a 0).run P W=.ok () (W.setRow g (b.toList.take (i*E.k)++a++b.toList.drop (i*E.k+a.length)).toArray):=
  run_storeCells_at (P:=P) g (i*E.k) E.t a 0 b W x (by rw[p,k];omega) R
 refine⟨W.setRow g (b.toList.take (i*E.k)++a++b.toList.drop (i*E.k+a.length)).toArray,?_,⟨⟨by rw[E.flat_length,jE,<-h.len,j0 Y],.inr ⟨g,c,(b.toList.take (i*E.k)++a++b.toList.drop (i*E.k+a.length)).toArray,rfl,u,jA _ _ _ _ _ _ x,by omega,K,?_,?_⟩⟩,by rw[jE,<-h.len,j0 Y],ud h.bel u _,h.sz⟩⟩
 ·obtain⟨m,S⟩:∃m,n-i=m+1:=⟨n-i-1,by omega⟩
  have U:(qA (E.cells z).toArray).cells=(E.cells z).toArray:=rfl;intro s;rw[jo];rw[S]at l⊢;simp[Builtin.clear_,qk C,D,U,<-l,j]
 ·simp only[jw,jp,jE,rv,y,p]
  omega
 show qn (i*E.k) (b.toList.take (i*E.k)++a++b.toList.drop (i*E.k+a.length))=_;rw[E.flat_take,<-M,qE,jV,List.take_append_of_le_length (by simp only[jE,y];omega),qE,Nat.min_self,j0 Y]
end
theorem aL{p q:Prop}(k:q)(h:q->p:=by intro k;refine bz (v:=?_) (by rfl) ?_ ?_;rotate_left;(go_simp;with_reducible rfl);(try simp only[Act.put,List.getElem_toArray,List.getElem_cons_succ,List.getElem_cons_zero,List.setIfInBounds_toArray,List.set_cons_zero,List.set_cons_succ]);exact k):p:=h k
end
section
open Go.RowKit Go.Maps Go.Sort
theorem Aw{P:jK}(t e:jr)(k:Nat)(b:P.underlying t=T (.slice e))(d:∀w,(sizeOf e).run P w=.ok k w)(g o n c l:Nat)(f:l<=n)(i:n<=c):
 ∃a,(0<n-l->a=⟨g,o+l*k,ih⟩)/\∀W,(Instr.sliceAt t (A (T ⟨g,o,ih⟩) n c) (T (I N (l:Int))) ih ih).run P W=.ok (A (T a) (n-l) (c-l)) W:=by
 have he:P.elem t=e:=by simp[Program.elem,b]
 refine⟨if c=l then⟨g,o,ih⟩else⟨g,o+l*k,ih⟩,λh=>by rw[if_neg Y],λW=>?_⟩;rw[qI W t _ _ _ _ (by rw[he];exact b),run_slice_l W t _ n c (by rw[he];exact b) .i64 _ Y Y,he];simp[d,Result.andThen,sliced,Addr.add]
 by_cases h:c=l
 ·simp[h]
 simp[h]
theorem Ck{P:jK}(t e:jr)(k:Nat)(a:P.underlying t=T (.slice e))(b:∀w,(sizeOf e).run P w=.ok k w)(g o n c h:Nat)(d:h<=c)(W:ja):
 (Instr.sliceAt t (A (T ⟨g,o,ih⟩) n c) ih (T (I N (h:Int))) ih).run P W=.ok (A (T ⟨g,o,ih⟩) h c) W:=by
 have he:P.elem t=e:=by simp[Program.elem,a]
 rw[qI W t _ _ _ _ (by rw[he];exact a),run_slice_h W t _ n c (by rw[he];exact a) .i64 _ Y Y,he];simp[b,Result.andThen,sliced,Addr.add]
section
variable {α:Type}
structure fB(E:EK α)(a:Nat)(d:Array jc)(b:Nat)(c:ja->Prop)(p:α->Bool):Prop where
 enter:∀args w,(kn a args).run je w=.ok (.enter a args) w
 keep:∀w w',b<=w.heap.size->c w->jd b w w'->c w'
 call:∀x w,b<=w.heap.size->c w->jl je a (#[jg (E.cells x).toArray]++d) w λe w'=>e=jj (.bool (p x))/\jd w w w'
def rP(p:α->Bool)(l:List α)(r:Int):Prop:=(r= -1/\∀x∈l,p x=false)\/∃(k:Nat) (x:α),r=k/\l[k]?=T x/\p x=true/\∀y∈l.take k,p y=false
theorem rP.any{p:α->Bool}{l:List α}{r:Int}(h:rP p l r):decide (0<=r)=l.any p:=by
 rcases h with⟨rfl,h⟩|⟨k,x,rfl,a,b,d⟩
 ·have:l.any p=false:=by rw[qD];intro x c;rw[h x c];simp
  rw[this];decide
 have:l.any p=true:=ri.2 ⟨x,List.mem_of_getElem? a,b⟩;rw[this];simp
theorem tL{p:α->Bool}{l:List α}(h:∀x∈l,p x=false):l.filter (λx=> !p x)=l:=
 List.filter_eq_self.2 λx a=>by rw[h x a];rfl
end
def pf:Chg:=⟨0,0,0,0,0⟩
def EM:EK Mem:=⟨Mem.cells,3,45,by decide,λ_=>rfl,λx v a=>by simp[Mem.cells]at a;rcases a with rfl|rfl|rfl<;>rfl⟩
def EC:EK Chg:=⟨Chg.cells,5,49,by decide,λ_=>rfl,λx v a=>by simp[Chg.cells]at a;rcases a with rfl|rfl|rfl|rfl|rfl<;>rfl⟩
theorem oW:(je.info? 45).map (·.size)=T 3:=by kernel_rfl
theorem pJ:(je.info? 49).map (·.size)=T 5:=by kernel_rfl
theorem zT:(je.info? 45).map (λi=>(i.zero,i.size,i.bytes))=T (T (jg #[I N 0,I N 0,I N 0]),3,24):=by kernel_rfl
theorem Nl:(je.info? 49).map (λi=>(i.zero,i.size,i.bytes))=T (T (jg #[I N 0,I N 0,I N 0,I N 0,I N 0]),5,40):=by kernel_rfl
theorem lE{P:jK}{t:jr}{z:jc}{s b:Nat}(h:(P.info? t).map (λi=>(i.zero,i.size,i.bytes))=T (T z,s,b)):∃i,P.info? t=T i/\i.zero=T z/\i.size=s/\i.bytes=b:=by
 cases hi:P.info? t with
 |none=>rw[hi]at h;cases h
 |some i=>
  rw[hi]at h;simp only[q6,Option.some.injEq,Prod.mk.injEq]at h;exact⟨i,rfl,h.1,h.2.1,h.2.2⟩
theorem ww{f:Nat}{m:Array jc}{u:Nat}{z:ja->Prop}{p:Mem->Bool}(a:fB EM f m u z p)(l:List Mem)(v:jc)(w:ja)(h:EM.At w v l)(d:z w)(g:u<=w.heap.size)(M:l.length<=1000000):
 jl je 95 #[v,.func (.func f) #[] m] w λe w'=>∃r,e=jj (I N r)/\rP p l r/\jd w w w':=by
 obtain⟨q,c,rfl,P,-⟩:=h.form;have B:=O h;have EG:=a.enter;have C:=O a;have Q:=O d;have s:=O g;obtain⟨n,b⟩:=J l.length;have D:=O b;rw[<-b]at M P B⊢;clear h b a d g
 go_enter func95,ntmps95
 go_wp2_with fail
 go_loopw [8] (λi wr=>∃k:Nat,i=I N k/\k<=n/\jb (∀y∈l.take k,p y=false)/\jb (jd w w wr)) (λi _=>n-(jm i).toNat)
 case atStart=>exact⟨0,rfl,jR _,O ar,O (jB _ _)⟩
 obtain⟨k,rfl,hk,i,a⟩:=hrel
 by_cases R:k<n
 ·have S:=aj ((k:Int)<(n:Int))
  have U:=aj (k<n);obtain⟨e,he,x⟩:=dE (l:=l) (j:=k) (by rw[<-D];exact R);obtain⟨g,o,rfl,d⟩:=(B.cells).2.2 Y;have b:=O (C.call e wr (jD s a.size) (C.keep _ _ s.out Q (a.mono s)));obtain⟨r,t⟩:=J (p e);rw[<-t]at b;have E:=O t;have V:=O x;have W:=O he;obtain⟨F,H,K⟩:=e;have X:wr.cell? ⟨g,o+k*3,ih⟩=T (I N F):=cell_below (d k _ he 0 _ rfl) a;have c1:wr.cell? ⟨g,o+k*3+1,ih⟩=T (I N H):=cell_below (d k _ he 1 _ rfl) a;have c2:wr.cell? ⟨g,o+k*3+2,ih⟩=T (I N K):=cell_below (d k _ he 2 _ rfl) a;replace b:jb (jl je f (#[jg #[I N F,I N H,I N K]]++m) wr λe w'=>e=jj (.bool r)/\jd wr wr w'):=b;clear d he x t
  go_wp2_with fail
  refine(b).mono ?_;rintro x w1 ⟨rfl,d⟩;have t:=ac a d;clear d b X c1 c2
  rcases r with _|_
  ·go_wp2_with fail
   exact⟨⟨k+1,by go_num,by omega,O (by
    rw[V];intro y b
    rcases sg.1 b with b|b
    ·exact i y b
    rw[qF]at b;rw[b];exact E.symm),t⟩,by simp only[jm];omega⟩
  go_wp2_with fail
  go_ret;exact⟨_,rfl,.inr ⟨k,_,rfl,W,E.symm,i⟩,t⟩
 have S:=ak ((k:Int)<(n:Int));have U:=ak (k<n);obtain rfl:k=n:=Y
 go_wp2_with fail
 go_ret;exact⟨_,rfl,.inl ⟨rfl,by have h:=i.out;rw[jI (by rw[<-D];exact ji _)]at h;exact h⟩,a⟩
theorem C4{a:Nat}{b:Array jc}{c:Nat}{d:ja->Prop}{p:Mem->Bool}(k:fB EM a b c d p)(l:List Mem)(v:jc)(w:ja)(h:EM.At w v l)(f:d w)(g:c<=w.heap.size)(i:l.length<=1000000):
 jl je 77 #[v,.func (.func a) #[] b] w λe w'=>e=jj (.bool (l.any p))/\jd w w w':=by
 have j:=O (ww k l v w h f g i);clear h f g i
 go_enter func77,ntmps77
 go_wp2_with fail
 refine(j).mono ?_;rintro x m ⟨r,rfl,f,g⟩;have h:=O f.any;have i:=O g;clear f g j
 go_wp2_with fail
 go_ret;exact⟨iI h,i⟩
theorem L2(l:List Mem)(v:jc)(w:ja)(d:EM.At w v l)(q:l.length<=1000000):
 jl je 37 #[v] w λe w'=>∃h,e=jj h/\w'.ownsRow w EM.t EM.k h l.length (EM.flat l)/\jd w w w':=by
 obtain⟨p,c,rfl,r,i⟩:=d.form;obtain⟨s,t,u,x,y⟩:=lE zT;have E:∀(w:ja) (a:Option jy) (n c n' f:Nat),(binOp .eql 24 (A a n c) (A ih n' f)).run je w=.ok (.bool a.isNone) w:=λw a n c n' f=>Lib.run_eql_slice_nil w _ _ a n c n' f oj
 rcases p with _|a
 ·have j:=i rfl
  have b:l.length=0:=Y;have g:l=[]:=sh.1 b;subst g
  go_enter func37,ntmps37
  go_wp2_with fail
  go_ret;exact⟨_,rfl,jZ _ _ _ _,jB _ _⟩
 obtain⟨n,j⟩:=J l.length;have b:=O (d.below (af w (ic #[] EM.t)));have g:=O (sn (base:=w.heap.size) (size:=EM.k) (e:=EM.t) w #[] 0 (ji _) (by unfold j3;omega) ar);have k:=O (af w (ic #[] EM.t));unfold EK.At at b;rw[<-j]at r q b⊢;clear d j i
 go_enter func37,ntmps37
 go_wp2_with (at_builtin;refine Hid.out ?_)
 refine O ?_;refine jz rfl λ_ i=>?_
 refine Fl _ _ 24 rfl w.heap.size 45 s (jg #[I N 0,I N 0,I N 0]) 3 24 oj t u x y rfl L _ _ _ rfl g _ _ _ rfl b (EM.flat_one' _) (by unfold j3;omega) Y (by rw[ju];omega) ?_;intro z m d o;have B:jb (m.ownsRow w EM.t EM.k z n (EM.flat l)):=O (by rw[jo]at d;exact d);have C:jb (jd w w m):=O (k.grown o (by rw[ju];omega) (λj D=>by have:=(g.lt j D).1;omega));clear d o g k b;refine i _ _ ?_;clear i
 go_wp2_with fail
 go_ret;exact⟨_,rfl,B,C⟩
theorem Kr{v:Nat}{C:Array jc}{b:Nat}{D:ja->Prop}{p:Mem->Bool}(a:fB EM v C b D p)(l:List Mem)(g n c:Nat)(w:ja)(h:cM EM b w w g n c l)(d:D w)(hl:n<=1000000):
 jl je 36 #[A (T ⟨g,0,ih⟩) n c,.func (.func v) #[] C] w λe w'=>∃n',e=jj (A (T ⟨g,0,ih⟩) n' c)/\cM EM b w w' g n' c (l.filter λx=> !p x):=by
 have i:=O h;have j:=O (ww a l (A (T ⟨g,0,ih⟩) n c) w h.at d h.sz (by rw[<-h.len];exact hl));have a1:=h.cap;have E:=O h.len;have EG:=a.enter;have HP:=O a;have a2:=O d;have QH:=O h.sz;clear h a d
 go_enter func36,ntmps36
 go_wp2_with fail
 refine(j).mono ?_;rintro e w1 ⟨r,rfl,o,f⟩;have ad:=O (i.later f);clear f j i
 rcases o with⟨rfl,al⟩|⟨k,e,rfl,he,d,i⟩
 ·have a:=O (tL al)
  clear al
  go_wp2_with fail
  go_ret;exact⟨_,rfl,by rw[a];exact ad⟩
 have a3:k<n:=by rw[E];exact(pz.1 he).1
 have a4:jb (l.take k=(l.take (k+1)).filter (λx=> !p x)):=O (by
  obtain⟨m,a,q⟩:=dE (l:=l) (j:=k) (by rw[<-E];exact a3);rw[he]at a;injection a with a
  subst a;rw[q,lw,tL i,qi (by rw[d];simp),mb,jX])
 have bf:decide ((k:Int)= -1)=false:=by simp
 have bg:((k:Int)== -1)=false:=by simp
 clear he d i
 go_wp2_with fail
 go_loopw [5,6] (λm a wr=>∃(i j:Nat) (d:List Mem),m=I N i/\a=I N j/\i<j/\j<=n/\jb (d.take i=(l.take j).filter (λx=> !p x))/\jb (d.drop j=l.drop j)/\jb (cM EM b w wr g n c d)) (λ_ a _=>n-(jm a).toNat)
 case atStart=>exact⟨k,k+1,l,rfl,by go_num,by omega,by omega,a4,O rfl,ad⟩
 obtain⟨i,j,d,rfl,rfl,a5,hj,B,Q,m⟩:=hrel
 by_cases R:j<n
 case neg=>
  obtain rfl:j=n:=Y;have hd:=decide_eq_false (show ¬((j:Int)<(j:Int)) by omega);have Q3:=decide_eq_false R;obtain⟨H,s,z⟩:=Aw (P:=je) 24 45 3 oj Tryz.sizeOf45 g 0 j c i Y a1;rw[s Y,jo]at z;have K:=Ck (P:=je) 24 45 3 oj Tryz.sizeOf45 g 0 j c i Y;obtain⟨t,a,u⟩:=m.clear (P:=je) a5 24 45 oj bF Tryz.zeroValue45;rw[jo]at a;have F:jb (cM EM b w t g i c (l.filter λx=> !p x)):=O (by
   have y:=B.out;rw[jI (l:=l) (by rw[<-E];exact ji _)]at y;rw[<-y];exact u)
  replace a:∀y,(Builtin.clear_ #[24] y #[A (T ⟨g,i*3,ih⟩) (j-i) (c-i)]).run je wr=.ok (jM #[]) t:=a;clear u s
  go_wp2_with fail
  go_ret;exact⟨_,rfl,F⟩
 have hd:=decide_eq_true (show((j:Int)<(n:Int)) by omega);have Q3:=decide_eq_true R;obtain⟨e,he,q⟩:=dE (l:=l) (j:=j) (by rw[<-E];exact R);have F:d[j]?=T e:=by
  have h:=congrArg (λz:List Mem=>z[0]?) Q;simp only[sq,Nat.add_zero]at h;rw[h];exact he
 have S:d.drop (j+1)=l.drop (j+1):=by
  have h:=congrArg (List.drop 1) Q;rw[qj,qj]at h;exact h
 have ba:i<n:=Y;have bb:=m.len;have z:jb (p e=true->d.take i=(l.take (j+1)).filter (λx=> !p x)):=O λU=>by
  rw[q,lw,qi (by rw[U];simp),mb,jX];exact B
 have H:jb (p e=false->(d.set i e).take (i+1)=(l.take (j+1)).filter (λx=> !p x)):=O λU=>by
  rw[q,lw,sv (by rw[U];rfl),mb,<-B,kw (by rw[qh];omega),sx,qv (ji _)]
 have au:jb ((d.set i e).drop (j+1)=l.drop (j+1)):=O (by rw[qw Y];exact S);have TB:=O S;obtain⟨ga,oa,V,K⟩:=(m.at.cells).2.2 Y;injection V with V
 injection V with bc bd
 subst bc;subst bd;have X:=af wr (ic (EM.cells e).toArray 45);have hX:=jk wr (ic (EM.cells e).toArray 45);obtain⟨r,o⟩:=J (p e);have M:jb (∀W,b<=W.heap.size->D W->jl je v (#[jg (EM.cells e).toArray]++C) W λx w'=>x=jj (.bool r)/\jd W W w'):=O (by rw[o];exact HP.call e);have HR:=O o;obtain⟨B0,aa⟩:∃y:Mem,y=e:=⟨_,rfl⟩;have YM:=O aa;rw[<-aa]at z H au HR X hX;have HA:=O X;have a:=O hX;obtain⟨s,t,u⟩:=e;have c0:wr.cell? ⟨g,j*3,ih⟩=T (I N s):=by have h:=K j _ F 0 _ rfl;rw[jo]at h;exact h
 have c1:wr.cell? ⟨g,j*3+1,ih⟩=T (I N t):=by have h:=K j _ F 1 _ rfl;rw[jo]at h;exact h
 have c2:wr.cell? ⟨g,j*3+2,ih⟩=T (I N u):=by have h:=K j _ F 2 _ rfl;rw[jo]at h;exact h
 replace M:jb (∀W,b<=W.heap.size->D W->jl je v (#[jg #[I N s,I N t,I N u]]++C) W λx w'=>x=jj (.bool r)/\jd W W w'):=M;clear he q F S bb B Q K o X hX aa
 go_upto_region 8 with fail
 obtain⟨B,f⟩:=J wr.heap.size;have Q:wr.alloc (ic #[I N s,I N t,I N u] 45)=wr.alloc (ic (EM.cells B0).toArray 45):=by rw[YM];rfl
 rw[Q,<-f];rw[<-f]at a;obtain⟨K,S⟩:=J (wr.alloc (ic (EM.cells B0).toArray 45));rw[<-S]at HA a⊢;have F:=O (m.later HA);have aa:B<K.heap.size:=(jq.1 a).1;have Ya:g≠B:=by have:=m.lt;omega
 have W:=O (HP.keep _ _ QH.out a2 F.bel);have X:jb (b<=K.heap.size):=O (jD QH F.bel.size);rw[YM]at a;replace a:jb (K.heap[B]?=T (ic #[I N s,I N t,I N u] 45 (0,0))):=a;have b0:=cell_of (i:=0) a rfl;have b1:=cell_of (i:=1) a rfl;have b2:=cell_of (i:=2) a rfl;clear Q f S m HA c0 c1 c2
 go_wp2_with fail
 refine(M _ X.out W).mono ?_;rintro x S ⟨rfl,f⟩;have Q:=O (F.later f);have m:=O ((f.block B aa).trans a);clear M F a f W X b0 b1 b2
 cases r with
 |true=>
  have a:=O (z HR.symm);clear z H
  go_wp2_with fail
  exact⟨⟨i,j+1,d,rfl,by go_num,by omega,by omega,a,TB,Q⟩,by simp only[jm];omega⟩
 |false=>
  have a:=O (H HR.symm);clear z H;have b0:=cell_of (i:=0) m rfl;have b1:=cell_of (i:=1) m rfl;have b2:=cell_of (i:=2) m rfl;have H:=decide_eq_true (show((i:Int)<(n:Int)) by omega)
  go_wp2_with (refine jz rfl λ_ f=>Ah 45 _ _ rfl Q ba ⟨s,t,u⟩ oW (by rw[jo];rfl) rfl λz F M W=>f _ _ ?_)
  have f:jb (cM EM b w z g n c (d.set i B0)):=O (by rw[YM];exact F);exact⟨⟨i+1,j+1,d.set i B0,by go_num,by go_num,by omega,by omega,a,au,f⟩,by simp only[jm];omega⟩
theorem yz{f:Nat}{m:Array jc}{u:Nat}{z:ja->Prop}{p:Chg->Bool}(a:fB EC f m u z p)(l:List Chg)(v:jc)(w:ja)(h:EC.At w v l)(d:z w)(g:u<=w.heap.size)(Q:l.length<=1000000):
 jl je 94 #[v,.func (.func f) #[] m] w λe w'=>∃r,e=jj (I N r)/\rP p l r/\jd w w w':=by
 obtain⟨q,c,rfl,R,-⟩:=h.form;have B:=O h;have EG:=a.enter;have C:=O a;have S:=O d;have s:=O g;obtain⟨n,b⟩:=J l.length;have D:=O b;rw[<-b]at Q R B⊢;clear h b a d g
 go_enter func94,ntmps94
 go_wp2_with fail
 go_loopw [8] (λi wr=>∃k:Nat,i=I N k/\k<=n/\jb (∀y∈l.take k,p y=false)/\jb (jd w w wr)) (λi _=>n-(jm i).toNat)
 case atStart=>exact⟨0,rfl,jR _,O ar,O (jB _ _)⟩
 obtain⟨k,rfl,hk,i,a⟩:=hrel
 by_cases U:k<n
 ·have V:=aj ((k:Int)<(n:Int))
  have W:=aj (k<n);obtain⟨e,he,x⟩:=dE (l:=l) (j:=k) (by rw[<-D];exact U);obtain⟨g,o,rfl,b⟩:=(B.cells).2.2 Y;have d:=O (C.call e wr (jD s a.size) (C.keep _ _ s.out S (a.mono s)));obtain⟨r,t⟩:=J (p e);rw[<-t]at d;have E:=O t;have X:=O x;have HE:=O he;obtain⟨F,H,K,M,P⟩:=e;have c0:wr.cell? ⟨g,o+k*5,ih⟩=T (I N F):=cell_below (b k _ he 0 _ rfl) a;have c1:wr.cell? ⟨g,o+k*5+1,ih⟩=T (I N H):=cell_below (b k _ he 1 _ rfl) a;have c2:wr.cell? ⟨g,o+k*5+2,ih⟩=T (I N K):=cell_below (b k _ he 2 _ rfl) a;have c3:wr.cell? ⟨g,o+k*5+3,ih⟩=T (I N M):=cell_below (b k _ he 3 _ rfl) a;have c4:wr.cell? ⟨g,o+k*5+4,ih⟩=T (I N P):=cell_below (b k _ he 4 _ rfl) a;replace d:jb (jl je f (#[jg #[I N F,I N H,I N K,I N M,I N P]]++m) wr λe w'=>e=jj (.bool r)/\jd wr wr w'):=d;clear b he x t
  go_wp2_with fail
  refine(d).mono ?_;rintro x w1 ⟨rfl,b⟩;have t:=ac a b;clear b d c0 c1 c2 c3 c4
  rcases r with _|_
  ·go_wp2_with fail
   exact⟨⟨k+1,by go_num,by omega,O (by
    rw[X];intro y b
    rcases sg.1 b with b|b
    ·exact i y b
    rw[qF]at b;rw[b];exact E.symm),t⟩,by simp only[jm];omega⟩
  go_wp2_with fail
  go_ret;exact⟨_,rfl,.inr ⟨k,_,rfl,HE,E.symm,i⟩,t⟩
 have V:=ak ((k:Int)<(n:Int));have W:=ak (k<n);obtain rfl:k=n:=Y
 go_wp2_with fail
 go_ret;exact⟨_,rfl,.inl ⟨rfl,by have h:=i.out;rw[jI (by rw[<-D];exact ji _)]at h;exact h⟩,a⟩
theorem EI{a:Nat}{b:Array jc}{c:Nat}{d:ja->Prop}{p:Chg->Bool}(k:fB EC a b c d p)(l:List Chg)(v:jc)(w:ja)(h:EC.At w v l)(f:d w)(g:c<=w.heap.size)(i:l.length<=1000000):
 jl je 34 #[v,.func (.func a) #[] b] w λe w'=>e=jj (.bool (l.any p))/\jd w w w':=by
 have j:=O (yz k l v w h f g i);clear h f g i
 go_enter func34,ntmps34
 go_wp2_with fail
 refine(j).mono ?_;rintro x m ⟨r,rfl,f,g⟩;have h:=O f.any;have i:=O g;clear f g j
 go_wp2_with fail
 go_ret;exact⟨iI h,i⟩
theorem EZ(l:List Chg)(v:jc)(w:ja)(d:EC.At w v l)(q:l.length<=1000000):
 jl je 42 #[v] w λe w'=>∃h,e=jj h/\w'.ownsRow w EC.t EC.k h l.length (EC.flat l)/\jd w w w':=by
 obtain⟨p,c,rfl,r,i⟩:=d.form;obtain⟨s,t,u,x,y⟩:=lE Nl;have E:∀(w:ja) (a:Option jy) (n c n' f:Nat),(binOp .eql 30 (A a n c) (A ih n' f)).run je w=.ok (.bool a.isNone) w:=λw a n c n' f=>Lib.run_eql_slice_nil w _ _ a n c n' f ol
 rcases p with _|a
 ·have j:=i rfl
  have b:l.length=0:=Y;have g:l=[]:=sh.1 b;subst g
  go_enter func42,ntmps42
  go_wp2_with fail
  go_ret;exact⟨_,rfl,jZ _ _ _ _,jB _ _⟩
 obtain⟨n,j⟩:=J l.length;have b:=O (d.below (af w (ic #[] EC.t)));have g:=O (sn (base:=w.heap.size) (size:=EC.k) (e:=EC.t) w #[] 0 (ji _) (by unfold j3;omega) ar);have k:=O (af w (ic #[] EC.t));unfold EK.At at b;rw[<-j]at r q b⊢;clear d j i
 go_enter func42,ntmps42
 go_wp2_with (at_builtin;refine Hid.out ?_)
 refine O ?_;refine jz rfl λ_ i=>?_
 refine Fl _ _ 30 rfl w.heap.size 49 s (jg #[I N 0,I N 0,I N 0,I N 0,I N 0]) 5 40 ol t u x y rfl L _ _ _ rfl g _ _ _ rfl b (EC.flat_one' _) (by unfold j3;omega) Y (by rw[ju];omega) ?_;intro z m d o;have B:jb (m.ownsRow w EC.t EC.k z n (EC.flat l)):=O (by rw[jo]at d;exact d);have C:jb (jd w w m):=O (k.grown o (by rw[ju];omega) (λj D=>by have:=(g.lt j D).1;omega));clear d o g k b;refine i _ _ ?_;clear i
 go_wp2_with fail
 go_ret;exact⟨_,rfl,B,C⟩
theorem Jq{E:Nat}{F:Array jc}{b:Nat}{H:ja->Prop}{p:Chg->Bool}(a:fB EC E F b H p)(l:List Chg)(g n c:Nat)(w:ja)(h:cM EC b w w g n c l)(d:H w)(hl:n<=1000000):
 jl je 78 #[A (T ⟨g,0,ih⟩) n c,.func (.func E) #[] F] w λe w'=>∃n',e=jj (A (T ⟨g,0,ih⟩) n' c)/\cM EC b w w' g n' c (l.filter λx=> !p x):=by
 have i:=O h;have j:=O (yz a l (A (T ⟨g,0,ih⟩) n c) w h.at d h.sz (by rw[<-h.len];exact hl));have a2:=h.cap;have K:=O h.len;have EG:=a.enter;have HP:=O a;have a3:=O d;have QH:=O h.sz;clear h a d
 go_enter func78,ntmps78
 go_wp2_with fail
 refine(j).mono ?_;rintro e w1 ⟨r,rfl,s,f⟩;have al:=O (i.later f);clear f j i
 rcases s with⟨rfl,au⟩|⟨k,e,rfl,he,d,i⟩
 ·have a:=O (tL au)
  clear au
  go_wp2_with fail
  go_ret;exact⟨_,rfl,by rw[a];exact al⟩
 have a4:k<n:=by rw[K];exact(pz.1 he).1
 have a5:jb (l.take k=(l.take (k+1)).filter (λx=> !p x)):=O (by
  obtain⟨m,a,t⟩:=dE (l:=l) (j:=k) (by rw[<-K];exact a4);rw[he]at a;injection a with a
  subst a;rw[t,lw,tL i,qi (by rw[d];simp),mb,jX])
 have bg:decide ((k:Int)= -1)=false:=by simp
 have bh:((k:Int)== -1)=false:=by simp
 clear he d i
 go_wp2_with fail
 go_loopw [5,6] (λm a wr=>∃(i j:Nat) (d:List Chg),m=I N i/\a=I N j/\i<j/\j<=n/\jb (d.take i=(l.take j).filter (λx=> !p x))/\jb (d.drop j=l.drop j)/\jb (cM EC b w wr g n c d)) (λ_ a _=>n-(jm a).toNat)
 case atStart=>exact⟨k,k+1,l,rfl,by go_num,by omega,by omega,a5,O rfl,al⟩
 obtain⟨i,j,d,rfl,rfl,ba,hj,B,S,m⟩:=hrel
 by_cases U:j<n
 case neg=>
  obtain rfl:j=n:=Y;have hd:=decide_eq_false (show ¬((j:Int)<(j:Int)) by omega);have Q3:=decide_eq_false U;obtain⟨C,o,y⟩:=Aw (P:=je) 30 49 5 ol Tryz.sizeOf49 g 0 j c i Y a2;rw[o Y,jo]at y;have D:=Ck (P:=je) 30 49 5 ol Tryz.sizeOf49 g 0 j c i Y;obtain⟨q,a,u⟩:=m.clear (P:=je) ba 30 49 ol pf Tryz.zeroValue49;rw[jo]at a;have z:jb (cM EC b w q g i c (l.filter λx=> !p x)):=O (by
   have v:=B.out;rw[jI (l:=l) (by rw[<-K];exact ji _)]at v;rw[<-v];exact u)
  replace a:∀v,(Builtin.clear_ #[30] v #[A (T ⟨g,i*5,ih⟩) (j-i) (c-i)]).run je wr=.ok (jM #[]) q:=a;clear u o
  go_wp2_with fail
  go_ret;exact⟨_,rfl,z⟩
 have hd:=decide_eq_true (show((j:Int)<(n:Int)) by omega);have Q3:=decide_eq_true U;obtain⟨e,he,t⟩:=dE (l:=l) (j:=j) (by rw[<-K];exact U);have o:d[j]?=T e:=by
  have h:=congrArg (λz:List Chg=>z[0]?) S;simp only[sq,Nat.add_zero]at h;rw[h];exact he
 have V:d.drop (j+1)=l.drop (j+1):=by
  have h:=congrArg (List.drop 1) S;rw[qj,qj]at h;exact h
 have bb:i<n:=Y;have bc:=m.len;have M:jb (p e=true->d.take i=(l.take (j+1)).filter (λx=> !p x)):=O λX=>by
  rw[t,lw,qi (by rw[X];simp),mb,jX];exact B
 have Q:jb (p e=false->(d.set i e).take (i+1)=(l.take (j+1)).filter (λx=> !p x)):=O λX=>by
  rw[t,lw,sv (by rw[X];rfl),mb,<-B,kw (by rw[qh];omega),sx,qv (ji _)]
 have a1:jb ((d.set i e).drop (j+1)=l.drop (j+1)):=O (by rw[qw Y];exact V);have TB:=O V;obtain⟨ga,oa,aa,q⟩:=(m.at.cells).2.2 Y;injection aa with aa
 injection aa with bd bf
 subst bd;subst bf;have hA:=af wr (ic (EC.cells e).toArray 49);have hX:=jk wr (ic (EC.cells e).toArray 49);obtain⟨r,s⟩:=J (p e);have R:jb (∀W,b<=W.heap.size->H W->jl je E (#[jg (EC.cells e).toArray]++F) W λx w'=>x=jj (.bool r)/\jd W W w'):=O (by rw[s];exact HP.call e);have HR:=O s;obtain⟨B0,ad⟩:∃y:Chg,y=e:=⟨_,rfl⟩;have YM:=O ad;rw[<-ad]at M Q a1 HR hA hX;have HA:=O hA;have a:=O hX;obtain⟨u,v,z,C,D⟩:=e;have c0:wr.cell? ⟨g,j*5,ih⟩=T (I N u):=by have h:=q j _ o 0 _ rfl;rw[jo]at h;exact h
 have c1:wr.cell? ⟨g,j*5+1,ih⟩=T (I N v):=by have h:=q j _ o 1 _ rfl;rw[jo]at h;exact h
 have c2:wr.cell? ⟨g,j*5+2,ih⟩=T (I N z):=by have h:=q j _ o 2 _ rfl;rw[jo]at h;exact h
 have c3:wr.cell? ⟨g,j*5+3,ih⟩=T (I N C):=by have h:=q j _ o 3 _ rfl;rw[jo]at h;exact h
 have c4:wr.cell? ⟨g,j*5+4,ih⟩=T (I N D):=by have h:=q j _ o 4 _ rfl;rw[jo]at h;exact h
 replace R:jb (∀W,b<=W.heap.size->H W->jl je E (#[jg #[I N u,I N v,I N z,I N C,I N D]]++F) W λx w'=>x=jj (.bool r)/\jd W W w'):=R;clear he t o V bc B S q s hA hX ad
 go_upto_region 8 with fail
 obtain⟨B,f⟩:=J wr.heap.size;have S:wr.alloc (ic #[I N u,I N v,I N z,I N C,I N D] 49)=wr.alloc (ic (EC.cells B0).toArray 49):=by rw[YM];rfl
 rw[S,<-f];rw[<-f]at a;obtain⟨q,V⟩:=J (wr.alloc (ic (EC.cells B0).toArray 49));rw[<-V]at HA a⊢;have o:=O (m.later HA);have ad:B<q.heap.size:=(jq.1 a).1;have Ya:g≠B:=by have:=m.lt;omega
 have W:=O (HP.keep _ _ QH.out a3 o.bel);have Q5:jb (b<=q.heap.size):=O (jD QH o.bel.size);rw[YM]at a;replace a:jb (q.heap[B]?=T (ic #[I N u,I N v,I N z,I N C,I N D] 49 (0,0))):=a;have b0:=cell_of (i:=0) a rfl;have b1:=cell_of (i:=1) a rfl;have b2:=cell_of (i:=2) a rfl;have b3:=cell_of (i:=3) a rfl;have b4:=cell_of (i:=4) a rfl;clear S f V m HA c0 c1 c2 c3 c4
 go_wp2_with fail
 refine(R _ Q5.out W).mono ?_;rintro x V ⟨rfl,m⟩;have S:=O (o.later m);have f:=O ((m.block B ad).trans a);clear R o a m W Q5 b0 b1 b2 b3 b4
 cases r with
 |true=>
  have a:=O (M HR.symm);clear M Q
  go_wp2_with fail
  exact⟨⟨i,j+1,d,rfl,by go_num,by omega,by omega,a,TB,S⟩,by simp only[jm];omega⟩
 |false=>
  have a:=O (Q HR.symm);clear M Q;have b0:=cell_of (i:=0) f rfl;have b1:=cell_of (i:=1) f rfl;have b2:=cell_of (i:=2) f rfl;have b3:=cell_of (i:=3) f rfl;have b4:=cell_of (i:=4) f rfl;have Q:=decide_eq_true (show((i:Int)<(n:Int)) by omega)
  go_wp2_with (refine jz rfl λ_ m=>Ah 49 _ _ rfl S bb ⟨u,v,z,C,D⟩ pJ (by rw[jo];rfl) rfl λo M R W=>m _ _ ?_)
  have m:jb (cM EC b w o g n c (d.set i B0)):=O (by rw[YM];exact M);exact⟨⟨i+1,j+1,d.set i B0,by go_num,by go_num,by omega,by omega,a,a1,m⟩,by simp only[jm];omega⟩
end

def Und(n a:Int):Prop:=1<=a/\∃j:Nat,n/2^j=a
noncomputable def gZ(n a:Int):Bool:=by classical exact decide (Und n a)
theorem rG{n a:Int}(h:Und n a):gZ n a=true:=by unfold gZ;simpa using h
theorem Bw{n a:Int}(h:¬Und n a):gZ n a=false:=by unfold gZ;simpa using h
theorem wy(n a:Int):gZ n a=true↔Und n a:=by unfold gZ;simp
theorem oq{n:Int}(h:1<=n):Und n n:=⟨h,0,by simp⟩
theorem zC{t:List (Int×Int)}{x:Int}:(ofF t x).isSome=true↔∃e∈t,e.1=x:=by
 unfold ofF;rw[Option.isSome_map,List.find?_isSome];simp
theorem zJ:∀(k n:Nat),1<=n->n<2^k->∀x:Nat,(x∈n::(upL k n).map fI↔1<=x/\∃j,n/2^j=x)
 |0,n,d,c,x=>by simp at c;omega
 |k+1,n,d,c,x=>by
  by_cases g:1<n
  ·obtain⟨i,e,h,l⟩:=Br g c
   obtain rfl:i=k:=Y;have m:=zJ i (n/2) Y l x;rw[h,mz,lv,show fI n=n/2 from rfl,m];have f:∀j,n/2^(j+1)=n/2/2^j:=λj=>by rw[Nat.pow_succ,Nat.mul_comm,Nat.div_div_eq_div_mul]
   constructor
   ·rintro(rfl|⟨b,j,a⟩)
    ·exact⟨d,0,by simp⟩
    exact⟨b,j+1,by rw[f];exact a⟩
   rintro⟨b,j,a⟩
   cases j with
   |zero=>exact .inl (by simpa using a.symm)
   |succ j=>exact .inr ⟨b,j,by rw[<-f];exact a⟩
  have e:n=1:=Y;rw[Co Y];subst e;simp only[ms,qF]
  constructor
  ·rintro rfl;exact⟨by omega,0,rfl⟩
  rintro⟨b,j,a⟩;have:1/2^j<=1:=Nat.div_le_self _ _;omega
theorem mU(d:Int)(b:0<=d)(g:d<512)(x:Int):x∈(512+d)::aQ d↔Und (512+d) x:=by
 obtain⟨n,rfl⟩:=ob b;have h:=zJ 10 (512+n) Y Y;have e:(512+(n:Int))::aQ (n:Int)=((512+n)::(upL 10 (512+n)).map fI).map λm:Nat=>(m:Int):=by
  simp[aQ,gL]
 rw[e];simp only[qu,h];have c:∀j:Nat,(512+(n:Int))/2^j=(((512+n)/2^j:Nat):Int):=λj=>by
  rw[Int.natCast_ediv];push_cast;rfl
 unfold Und
 constructor
 ·rintro⟨y,⟨f,j,a⟩,rfl⟩
  exact⟨by omega,j,by rw[c,a]⟩
 rintro⟨f,j,a⟩;refine⟨(512+n)/2^j,⟨?_,j,rfl⟩,by rw[<-c];exact a⟩;rw[c]at a;omega
theorem Cu(a:List Int)(x:Int):x∈eN a↔∃d∈a,x∈(512+d)::aQ d:=by
 unfold eN;rw[rn]
def mn(t:List (Int×Int))(a:Int):Prop:=∃e∈t,512<=e.1/\Und e.1 a
def nV(t:List (Int×Int))(i:Nat):Prop:=
 (t.getD i (0,0)).1<1\/1023<(t.getD i (0,0)).1\/(0<i/\(t.getD i (0,0)).1<=(t.getD (i-1) (0,0)).1)\/¬aM (t.getD i (0,0)).2\/¬mn t (t.getD i (0,0)).1
theorem Ko{t:List (Int×Int)}{a:Int}(h:a∈eN (aV t)):mn t a:=by
 obtain⟨d,b,c⟩:=(Cu _ _).1 h;obtain⟨f,g,e,i,j⟩:=(mA _ _).1 b;exact⟨e,i,by omega,by rw[j];exact(mU d f g a).1 c⟩
theorem KO{t:List (Int×Int)}{i:Nat}(a:i<t.length)(h:nV t i):cN t=210:=by
 refine lS (U:=eN (aV t)) rfl a ?_
 rcases h with h|h|h|h|h
 ·exact .inl h
 ·exact .inr (.inl h)
 ·exact .inr (.inr (.inl h))
 ·exact .inr (.inr (.inr (.inl h)))
 exact .inr (.inr (.inr (.inr (λb=>h (Ko b)))))
theorem Ma{t:List (Int×Int)}(h:∀i,i<t.length->¬nV t i):cN t=0:=by
 refine zr (U:=eN (aV t)) rfl (λi c a=>?_);have b:=h i c
 rcases a with a|a|a|a|a
 ·exact b (.inl a)
 ·exact b (.inr (.inl a))
 ·exact b (.inr (.inr (.inl a)))
 ·exact b (.inr (.inr (.inr (.inl a))))
 refine b (.inr (.inr (.inr (.inr ?_))));rintro⟨e,he,l,d⟩;obtain⟨k,hk,rfl⟩:=qg he;have f:=h k hk;have g:t.getD k (0,0)=t[k]:=by simp[jt,hk]
 have m:¬1023<t[k].1:=λj=>f (.inr (.inl (by rw[g];exact j)))
 refine a ((Cu _ _).2 ⟨t[k].1-512,(mA _ _).2 ⟨by omega,by omega,t[k],he,by omega⟩,?_⟩);refine(mU _ Y Y _).2 ?_;rw[show 512+(t[k].1-512)=t[k].1 by omega];exact d
end Go.Proofs.YthpmekcffpppkaaGreatDoor
